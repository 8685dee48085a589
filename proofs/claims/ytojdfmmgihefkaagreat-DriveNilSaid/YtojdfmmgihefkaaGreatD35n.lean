/- A part of the proofs of this seat: what functions of the program answer on the abstract machine. -/
import Derived.Test.YtojdfmmgihefkaaGreatV22
namespace Go.V
set_option linter.unusedVariables false
set_option linter.unusedSimpArgs false
open Go.Ab
set_option linter.unusedVariables false
/- (*backstitch/drive.Driver).Result -/
def D_drive_Driver_Result  : Option (Unit) :=
  some ()
/- (*backstitch/drive.Driver).More -/
def D_drive_Driver_More  : Option (Unit) :=
  some ()
/- (*backstitch/drive.Driver).Do -/
def D_drive_Driver_Do (a0 : Int) (a1 : Int) : Option (Unit) :=
  some ()
/- (*backstitch/drive.Driver).Spot -/
def D_drive_Driver_Spot  : Option (Unit) :=
  some ()
def D_ref27_Same_L0 (a2 : List Int) (a5 : List Int) (s7 : Int) : Option ((Int) ⊕ ((Bool) ⊕ (Unit))) :=
  cond (decide (s7 < ((((List.length a2) : Nat) : Int))))
    ((rd a2 s7).bind fun x8 =>
    (rd a5 s7).bind fun x9 =>
    cond (decide (x8 ≠ x9))
      (some (.inr (((.inl false)))))
      (some (.inl (IntKind.i64.wrap (s7 + 1)))))
    (some (.inr (((.inr ())))))
/- backstitch/backstitchref27.Same -/
def D_ref27_Same (a0 : Int) (a1 : Int) (a2 : List Int) (a3 : Int) (a4 : Int) (a5 : List Int) : Option (Bool) :=
  cond (decide (a0 ≠ a3))
    (some false)
    (cond (decide (a1 ≠ a4))
      (some false)
      (cond (decide (((((List.length a2) : Nat) : Int)) ≠ ((((List.length a5) : Nat) : Int))))
        (some false)
        ((loopN (D_ref27_Same_L0 a2 a5) BIG 0).bind fun r10 =>
        caseS r10 (fun u11 =>
          some u11)
          (fun w12 =>
          some true))))
/- (*backstitch/drive.Driver).Len -/
def D_drive_Driver_Len  : Option (Unit) :=
  some ()
/- (*backstitch/drive.Driver).State -/
def D_drive_Driver_State  : Option (Unit) :=
  some ()
/- (*backstitch/drive.Driver).Count -/
def D_drive_Driver_Count  : Option (Unit) :=
  some ()
/- (*backstitch/drive.Driver).Live -/
def D_drive_Driver_Live  : Option (Unit) :=
  some ()
/- (*backstitch/drive.Driver).Peak -/
def D_drive_Driver_Peak  : Option (Unit) :=
  some ()
def D_ref24_Same_L0 (a1 : List Int) (a4 : List Int) (s7 : Int) : Option ((Int) ⊕ ((Bool) ⊕ (Unit))) :=
  cond (decide (s7 < ((((List.length a1) : Nat) : Int))))
    ((rd a1 s7).bind fun x8 =>
    (rd a4 s7).bind fun x9 =>
    cond (decide (x8 ≠ x9))
      (some (.inr (((.inl false)))))
      (some (.inl (IntKind.i64.wrap (s7 + 1)))))
    (some (.inr (((.inr ())))))
def D_ref24_Same_L1 (a2 : List Int) (a5 : List Int) (s14 : Int) : Option ((Int) ⊕ ((Bool) ⊕ (Unit))) :=
  cond (decide (s14 < ((((List.length a2) : Nat) : Int))))
    ((rd a2 s14).bind fun x15 =>
    (rd a5 s14).bind fun x16 =>
    cond (decide (x15 ≠ x16))
      (some (.inr (((.inl false)))))
      (some (.inl (IntKind.i64.wrap (s14 + 1)))))
    (some (.inr (((.inr ())))))
/- backstitch/backstitchref24.Same -/
def D_ref24_Same (a0 : Int) (a1 : List Int) (a2 : List Int) (a3 : Int) (a4 : List Int) (a5 : List Int) : Option (Bool) :=
  cond (decide (a0 ≠ a3))
    (some false)
    (cond (decide (((((List.length a1) : Nat) : Int)) ≠ ((((List.length a4) : Nat) : Int))))
      (some false)
      (cond (decide (((((List.length a2) : Nat) : Int)) ≠ ((((List.length a5) : Nat) : Int))))
        (some false)
        ((loopN (D_ref24_Same_L0 a1 a4) BIG 0).bind fun r10 =>
        caseS r10 (fun u11 =>
          some u11)
          (fun w12 =>
          (loopN (D_ref24_Same_L1 a2 a5) BIG 0).bind fun r17 =>
          caseS r17 (fun u18 =>
            some u18)
            (fun w19 =>
            some true)))))
/- (*backstitch/drive.Driver).Image -/
def D_drive_Driver_Image  : Option (Unit) :=
  some ()
/- (*backstitch/drive.Driver).Scalars -/
def D_drive_Driver_Scalars  : Option (Unit) :=
  some ()
/- backstitch/backstitchlaw34.Example -/
def D_law34_Example  : Option (Unit) :=
  some ()
/- backstitch/header.fail -/
def D_header_fail (a0 : Bool) (a1 : Int) : Option (Int) :=
  cond (a0)
    (some a1)
    (some 0)
/- (backstitch/header.header).mode -/
def D_header_header_mode (a0 : Int) (a1 : List Int) (a2 : List Int) (a3 : Int) (a4 : List (Int × Int × Int × Int × Int)) (a5 : Int) (a6 : List (Int × Int × Int × Int × Int)) (a7 : Int) (a8 : Int) : Option (Int) :=
  cond (decide (a0 < 1))
    ((D_header_fail true 5).bind fun r9 =>
    some r9)
    ((D_header_fail (decide (3 < a0)) 5).bind fun r10 =>
    some r10)
def D_nest_Match_L0 (a0 : List (Int × Int × Int × Int × Int)) (s7 : Int × Bool × (List Int) × (List Int) × List Int) : Option ((Int × Bool × (List Int) × (List Int) × List Int) ⊕ (Bool × (List Int) × (List Int) × List Int)) :=
  cond (decide (s7.1 < ((((List.length a0) : Nat) : Int))))
    ((rd a0 s7.1).bind fun x8 =>
    ((((((cond (decide (x8.1 < 0))
      (some ((.inl true)))
      (cond (decide (7 < x8.1))
        (some ((.inr ((true, x8.1, decide (7 < x8.1))))))
        (cond (decide (x8.1 = 0))
          (some ((.inr ((decide (((((List.length s7.2.2.2.1) : Nat) : Int)) = 0), x8.1, decide (7 < x8.1))))))
          (some ((.inr ((false, x8.1, decide (7 < x8.1))))))))) : Option ((Bool) ⊕ (Bool × Int × Bool)))).bind fun s9 =>
    caseS s9 (fun u10 =>
      cond (u10)
        (some ((.inl ((false, s7.2.2.2.1)))))
        (cond (decide (x8.1 = 0))
          (gd (cutG 0 (IntKind.i64.wrap (((((List.length s7.2.2.2.1) : Nat) : Int)) - 1)) ((List.length s7.2.2.2.1))) (some ((.inr ((.inl ((s7.2.1, (List.take (((Int.toNat (IntKind.i64.wrap (((((List.length s7.2.2.2.1) : Nat) : Int)) - 1))) - 0)) s7.2.2.2.1)))))))))
          (some ((.inr ((.inl ((s7.2.1, s7.2.2.2.1)))))))))
      (fun w11 =>
      cond (w11.1)
        (some ((.inl ((false, s7.2.2.2.1)))))
        (cond (decide (x8.1 = 0))
          (gd (cutG 0 (IntKind.i64.wrap (((((List.length s7.2.2.2.1) : Nat) : Int)) - 1)) ((List.length s7.2.2.2.1))) (some ((.inr ((.inr ((w11.2.1, w11.2.2, s7.2.1, (List.take (((Int.toNat (IntKind.i64.wrap (((((List.length s7.2.2.2.1) : Nat) : Int)) - 1))) - 0)) s7.2.2.2.1)))))))))
          (some ((.inr ((.inr ((w11.2.1, w11.2.2, s7.2.1, s7.2.2.2.1)))))))))) : Option ((Bool × List Int) ⊕ ((Bool × List Int) ⊕ (Int × Bool × Bool × List Int))))).bind fun s12 =>
    caseS s12 (fun u13 =>
      some (.inr (((u13.1, s7.2.2.1, u13.2, s7.2.2.2.2)))))
      (fun w14 =>
      caseS w14 (fun u15 =>
        (ix s7.1 ((List.length s7.2.2.1))).bind fun j16 =>
        (s7.2.2.1[j16]?).bind fun x17 =>
        (rd a0 s7.1).bind fun x18 =>
        cond (decide (x18.1 = 7))
          (gd (fits (List.length s7.2.2.2.2 + 1) 8) (cond (decide (x8.1 = 7))
            (gd (fits (List.length u15.2 + 1) 8) (some (.inl ((IntKind.i64.wrap (s7.1 + 1), u15.1, (List.set s7.2.2.1 j16 (-1)), (u15.2 ++ [s7.1]), (s7.2.2.2.2 ++ [s7.1]))))))
            (some (.inl ((IntKind.i64.wrap (s7.1 + 1), u15.1, (List.set s7.2.2.1 j16 (-1)), u15.2, (s7.2.2.2.2 ++ [s7.1])))))))
          (cond (decide (x18.1 = 0))
            ((ix (IntKind.i64.wrap (((((List.length s7.2.2.2.2) : Nat) : Int)) - 1)) ((List.length s7.2.2.2.2))).bind fun j19 =>
            (s7.2.2.2.2[j19]?).bind fun x20 =>
            gd (cutG 0 (IntKind.i64.wrap (((((List.length s7.2.2.2.2) : Nat) : Int)) - 1)) ((List.length s7.2.2.2.2))) ((ix s7.1 ((List.length ((List.set s7.2.2.1 j16 (-1)))))).bind fun j21 =>
            (((List.set s7.2.2.1 j16 (-1)))[j21]?).bind fun x22 =>
            (ix x20 ((List.length ((List.set ((List.set s7.2.2.1 j16 (-1))) j21 x20))))).bind fun j23 =>
            (((List.set ((List.set s7.2.2.1 j16 (-1))) j21 x20))[j23]?).bind fun x24 =>
            cond (decide (x8.1 = 7))
              (gd (fits (List.length u15.2 + 1) 8) (some (.inl ((IntKind.i64.wrap (s7.1 + 1), u15.1, (List.set ((List.set ((List.set s7.2.2.1 j16 (-1))) j21 x20)) j23 s7.1), (u15.2 ++ [s7.1]), (List.take (((Int.toNat (IntKind.i64.wrap (((((List.length s7.2.2.2.2) : Nat) : Int)) - 1))) - 0)) s7.2.2.2.2))))))
              (some (.inl ((IntKind.i64.wrap (s7.1 + 1), u15.1, (List.set ((List.set ((List.set s7.2.2.1 j16 (-1))) j21 x20)) j23 s7.1), u15.2, (List.take (((Int.toNat (IntKind.i64.wrap (((((List.length s7.2.2.2.2) : Nat) : Int)) - 1))) - 0)) s7.2.2.2.2)))))))
            (cond (decide (x8.1 = 7))
              (gd (fits (List.length u15.2 + 1) 8) (some (.inl ((IntKind.i64.wrap (s7.1 + 1), u15.1, (List.set s7.2.2.1 j16 (-1)), (u15.2 ++ [s7.1]), s7.2.2.2.2)))))
              (some (.inl ((IntKind.i64.wrap (s7.1 + 1), u15.1, (List.set s7.2.2.1 j16 (-1)), u15.2, s7.2.2.2.2)))))))
        (fun w25 =>
        (ix s7.1 ((List.length s7.2.2.1))).bind fun j26 =>
        (s7.2.2.1[j26]?).bind fun x27 =>
        (rd a0 s7.1).bind fun x28 =>
        cond (decide (x28.1 = 7))
          (gd (fits (List.length s7.2.2.2.2 + 1) 8) (cond (decide (x8.1 = 7))
            (gd (fits (List.length w25.2.2.2 + 1) 8) (some (.inl ((IntKind.i64.wrap (s7.1 + 1), w25.2.2.1, (List.set s7.2.2.1 j26 (-1)), (w25.2.2.2 ++ [s7.1]), (s7.2.2.2.2 ++ [s7.1]))))))
            (some (.inl ((IntKind.i64.wrap (s7.1 + 1), w25.2.2.1, (List.set s7.2.2.1 j26 (-1)), w25.2.2.2, (s7.2.2.2.2 ++ [s7.1])))))))
          (cond (decide (x28.1 = 0))
            ((ix (IntKind.i64.wrap (((((List.length s7.2.2.2.2) : Nat) : Int)) - 1)) ((List.length s7.2.2.2.2))).bind fun j29 =>
            (s7.2.2.2.2[j29]?).bind fun x30 =>
            gd (cutG 0 (IntKind.i64.wrap (((((List.length s7.2.2.2.2) : Nat) : Int)) - 1)) ((List.length s7.2.2.2.2))) ((ix s7.1 ((List.length ((List.set s7.2.2.1 j26 (-1)))))).bind fun j31 =>
            (((List.set s7.2.2.1 j26 (-1)))[j31]?).bind fun x32 =>
            (ix x30 ((List.length ((List.set ((List.set s7.2.2.1 j26 (-1))) j31 x30))))).bind fun j33 =>
            (((List.set ((List.set s7.2.2.1 j26 (-1))) j31 x30))[j33]?).bind fun x34 =>
            cond (decide (x8.1 = 7))
              (gd (fits (List.length w25.2.2.2 + 1) 8) (some (.inl ((IntKind.i64.wrap (s7.1 + 1), w25.2.2.1, (List.set ((List.set ((List.set s7.2.2.1 j26 (-1))) j31 x30)) j33 s7.1), (w25.2.2.2 ++ [s7.1]), (List.take (((Int.toNat (IntKind.i64.wrap (((((List.length s7.2.2.2.2) : Nat) : Int)) - 1))) - 0)) s7.2.2.2.2))))))
              (some (.inl ((IntKind.i64.wrap (s7.1 + 1), w25.2.2.1, (List.set ((List.set ((List.set s7.2.2.1 j26 (-1))) j31 x30)) j33 s7.1), w25.2.2.2, (List.take (((Int.toNat (IntKind.i64.wrap (((((List.length s7.2.2.2.2) : Nat) : Int)) - 1))) - 0)) s7.2.2.2.2)))))))
            (cond (decide (x8.1 = 7))
              (gd (fits (List.length w25.2.2.2 + 1) 8) (some (.inl ((IntKind.i64.wrap (s7.1 + 1), w25.2.2.1, (List.set s7.2.2.1 j26 (-1)), (w25.2.2.2 ++ [s7.1]), s7.2.2.2.2)))))
              (some (.inl ((IntKind.i64.wrap (s7.1 + 1), w25.2.2.1, (List.set s7.2.2.1 j26 (-1)), w25.2.2.2, s7.2.2.2.2)))))))))
    (some (.inr (((s7.2.1, s7.2.2.1, s7.2.2.2.1, s7.2.2.2.2)))))
/- backstitch/nest.Match -/
def D_nest_Match (a0 : List (Int × Int × Int × Int × Int)) : Option (Int × List Int) :=
  gd (Nat.beq 1 (Sh.w (.int .i64)) && decide (0 ≤ ((((List.length a0) : Nat) : Int))) && decide (((((List.length a0) : Nat) : Int)) ≤ ((((List.length a0) : Nat) : Int))) && decide ((8 : Int) * ((((List.length a0) : Nat) : Int)) ≤ 140737488355328) && Nat.ble 1 8) ((loopN (D_nest_Match_L0 a0) BIG ((0, true, (List.replicate (Int.toNat ((((List.length a0) : Nat) : Int))) (0 : Int)), [], []))).bind fun r35 =>
  cond (r35.1)
    (cond (!(decide (((((List.length r35.2.2.1) : Nat) : Int)) = 0)))
      (some ((6, [])))
      (some ((0, r35.2.1))))
    (some ((6, []))))
/- backstitch/check.fail -/
def D_check_fail (a0 : Bool) (a1 : Int) : Option (Int) :=
  cond (a0)
    (some a1)
    (some 0)
/- backstitch/opcode.of -/
def D_opcode_of (a0 : Int) : Option (Bool × Bool × Bool × Bool) :=
  (((cond (decide (a0 = 1))
    (some true)
    (cond (decide (a0 = 2))
      (some true)
      (some (decide (a0 = 3))))) : Option (Bool))).bind fun s1 =>
  cond (s1)
    (some ((true, true, true, false)))
    ((((cond (decide (a0 = 4))
      (some true)
      (some (decide (a0 = 6)))) : Option (Bool))).bind fun s2 =>
    cond (s2)
      (some ((true, true, false, false)))
      (cond (decide (a0 = 5))
        (some ((true, false, false, true)))
        (cond (decide (a0 = 7))
          (some ((false, false, false, true)))
          (some ((false, false, false, false))))))
/- backstitch/opcode.known -/
def D_opcode_known (a0 : Int) : Option (Bool) :=
  cond (decide (0 ≤ a0))
    (some (decide (a0 < 8)))
    (some false)
/- backstitch/opcode.register -/
def D_opcode_register (a0 : Int) (a1 : Bool) : Option (Bool) :=
  cond (!a1)
    (some (decide (a0 = 0)))
    (cond (decide (0 ≤ a0))
      (some (decide (a0 ≤ 2147483647)))
      (some false))
/- backstitch/opcode.Right -/
def D_opcode_Right (a0 : Int) (a1 : Int) (a2 : Int) (a3 : Int) (a4 : Int) : Option (Bool) :=
  (D_opcode_of a0).bind fun r5 =>
  (D_opcode_known a0).bind fun r6 =>
  cond (r6)
    ((D_opcode_register a1 r5.1).bind fun r7 =>
    cond (r7)
      ((D_opcode_register a2 r5.2.1).bind fun r8 =>
      cond (r8)
        ((D_opcode_register a3 r5.2.2.1).bind fun r9 =>
        cond (r9)
          (cond (r5.2.2.2)
            (some true)
            (some (decide (a4 = 0))))
          (some false))
        (some false))
      (some false))
    (some false)
/- (backstitch/check.program).form$1 -/
def D_check_program_form_1 (a0 : Int) (a1 : Int) (a2 : Int) (a3 : Int) (a4 : Int) : Option (Bool) :=
  (D_opcode_Right a0 a1 a2 a3 a4).bind fun r5 =>
  some !r5
def D_slices_IndexFunc_api_Op_api_Op_L0 (a0 : List (Int × Int × Int × Int × Int)) (s2 : Int) : Option ((Int) ⊕ ((Int) ⊕ (Unit))) :=
  cond (decide (s2 < ((((List.length a0) : Nat) : Int))))
    ((rd a0 s2).bind fun x3 =>
    (D_check_program_form_1 x3.1 x3.2.1 x3.2.2.1 x3.2.2.2.1 x3.2.2.2.2).bind fun r4 =>
    cond (r4)
      (some (.inr (((.inl s2)))))
      (some (.inl (IntKind.i64.wrap (s2 + 1)))))
    (some (.inr (((.inr ())))))
/- slices.IndexFunc[[]backstitch/api.Op,backstitch/api.Op] -/
def D_slices_IndexFunc_api_Op_api_Op (a0 : List (Int × Int × Int × Int × Int)) : Option (Int) :=
  (loopN (D_slices_IndexFunc_api_Op_api_Op_L0 a0) BIG 0).bind fun r5 =>
  caseS r5 (fun u6 =>
    some u6)
    (fun w7 =>
    some (-1))
/- slices.ContainsFunc[[]backstitch/api.Op,backstitch/api.Op] -/
def D_slices_ContainsFunc_api_Op_api_Op (a0 : List (Int × Int × Int × Int × Int)) : Option (Bool) :=
  (D_slices_IndexFunc_api_Op_api_Op a0).bind fun r1 =>
  some (decide (0 ≤ r1))
/- (backstitch/check.program).form -/
def D_check_program_form (a0 : Int) (a1 : List (Int × Int × Int × Int × Int)) : Option (Int) :=
  (D_nest_Match a1).bind fun r2 =>
  cond (decide (4096 < ((((List.length a1) : Nat) : Int))))
    ((D_check_fail true 6).bind fun r3 =>
    some r3)
    (cond (decide (r2.1 ≠ 0))
      ((D_check_fail true 6).bind fun r4 =>
      some r4)
      ((D_slices_ContainsFunc_api_Op_api_Op a1).bind fun r5 =>
      (D_check_fail r5 6).bind fun r6 =>
      some r6))
def D_slices_Reverse_int_int_L0  (s5 : Int × Int × List Int) : Option ((Int × Int × List Int) ⊕ (List Int)) :=
  cond (decide (s5.1 < s5.2.1))
    ((ix s5.2.1 ((List.length s5.2.2))).bind fun j6 =>
    (s5.2.2[j6]?).bind fun x7 =>
    (ix s5.1 ((List.length s5.2.2))).bind fun j8 =>
    (s5.2.2[j8]?).bind fun x9 =>
    (ix s5.1 ((List.length s5.2.2))).bind fun j10 =>
    (s5.2.2[j10]?).bind fun x11 =>
    (ix s5.2.1 ((List.length ((List.set s5.2.2 j10 x7))))).bind fun j12 =>
    (((List.set s5.2.2 j10 x7))[j12]?).bind fun x13 =>
    some (.inl ((IntKind.i64.wrap (s5.1 + 1), IntKind.i64.wrap (s5.2.1 - 1), (List.set ((List.set s5.2.2 j10 x7)) j12 x9)))))
    (some (.inr s5.2.2))
/- slices.Reverse[[]int,int] -/
def D_slices_Reverse_int_int (a0 : List Int) : Option (List Int) :=
  (loopN (D_slices_Reverse_int_int_L0) BIG ((0, IntKind.i64.wrap (((((List.length a0) : Nat) : Int)) - 1), a0))).bind fun r14 =>
  some r14
/- backstitch/opcode.Reads -/
def D_opcode_Reads (a0 : Int) (a1 : Int) (a2 : Int) (a3 : Int) (a4 : Int) : Option (List Int) :=
  (((((((((cond (decide (a0 = 1))
    (some ((.inl ())))
    (cond (decide (a0 = 2))
      (some ((.inl ())))
      (cond (decide (a0 = 3))
        (some ((.inl ())))
        (cond (decide (a0 = 4))
          (some ((.inr ((.inl ())))))
          (cond (decide (a0 = 6))
            (some ((.inr ((.inl ())))))
            (some ((.inr ((.inr ())))))))))) : Option ((Unit) ⊕ ((Unit) ⊕ (Unit))))).bind fun s5 =>
  caseS s5 (fun u6 =>
    some ((.inl [a3])))
    (fun w7 =>
    caseS w7 (fun u8 =>
      some ((.inl [])))
      (fun w9 =>
      some ((.inr ()))))) : Option ((List Int) ⊕ (Unit)))).bind fun s10 =>
  caseS s10 (fun u11 =>
    gd (fits (List.length u11 + 1) 8) (some ((u11 ++ [a2]))))
    (fun w12 =>
    some [])) : Option (List Int))).bind fun s13 =>
  (D_slices_Reverse_int_int s13).bind fun r14 =>
  some r14
/- backstitch/opcode.Writes -/
def D_opcode_Writes (a0 : Int) (a1 : Int) (a2 : Int) (a3 : Int) (a4 : Int) : Option (Int × Bool) :=
  (D_opcode_of a0).bind fun r5 =>
  cond (!r5.1)
    (some ((0, false)))
    (some ((a1, true)))
/- (backstitch/check.program).registers$1$1 -/
def D_check_program_registers_1_1 (a0 : Int) (a1 : Int) (a2 : List (Int × Int × Int × Int × Int)) : Option (Bool) :=
  some (decide (a1 ≤ a0))
def D_slices_IndexFunc_int_int_L0 (a0 : List Int) (a1 : Int) (a2 : List (Int × Int × Int × Int × Int)) (s4 : Int) : Option ((Int) ⊕ ((Int) ⊕ (Unit))) :=
  cond (decide (s4 < ((((List.length a0) : Nat) : Int))))
    ((rd a0 s4).bind fun x5 =>
    (D_check_program_registers_1_1 x5 a1 a2).bind fun r6 =>
    cond (r6)
      (some (.inr (((.inl s4)))))
      (some (.inl (IntKind.i64.wrap (s4 + 1)))))
    (some (.inr (((.inr ())))))
/- slices.IndexFunc[[]int,int] -/
def D_slices_IndexFunc_int_int (a0 : List Int) (a1 : Int) (a2 : List (Int × Int × Int × Int × Int)) : Option (Int) :=
  (loopN (D_slices_IndexFunc_int_int_L0 a0 a1 a2) BIG 0).bind fun r7 =>
  caseS r7 (fun u8 =>
    some u8)
    (fun w9 =>
    some (-1))
/- slices.ContainsFunc[[]int,int] -/
def D_slices_ContainsFunc_int_int (a0 : List Int) (a1 : Int) (a2 : List (Int × Int × Int × Int × Int)) : Option (Bool) :=
  (D_slices_IndexFunc_int_int a0 a1 a2).bind fun r3 =>
  some (decide (0 ≤ r3))
/- (backstitch/check.program).registers$1 -/
def D_check_program_registers_1 (a0 : Int) (a1 : Int) (a2 : Int) (a3 : Int) (a4 : Int) (a5 : Int) (a6 : List (Int × Int × Int × Int × Int)) : Option (Bool) :=
  (D_opcode_Reads a0 a1 a2 a3 a4).bind fun r7 =>
  ((((D_opcode_Writes a0 a1 a2 a3 a4).bind fun r8 =>
  cond (r8.2)
    (gd (fits (List.length r7 + 1) 8) (some ((r7 ++ [r8.1]))))
    (some r7)) : Option (List Int))).bind fun s9 =>
  (D_slices_ContainsFunc_int_int s9 a5 a6).bind fun r10 =>
  some r10
def D_slices_IndexFunc_api_Op_api_Op_2_L0 (a0 : List (Int × Int × Int × Int × Int)) (a1 : Int) (a2 : List (Int × Int × Int × Int × Int)) (s4 : Int) : Option ((Int) ⊕ ((Int) ⊕ (Unit))) :=
  cond (decide (s4 < ((((List.length a0) : Nat) : Int))))
    ((rd a0 s4).bind fun x5 =>
    (D_check_program_registers_1 x5.1 x5.2.1 x5.2.2.1 x5.2.2.2.1 x5.2.2.2.2 a1 a2).bind fun r6 =>
    cond (r6)
      (some (.inr (((.inl s4)))))
      (some (.inl (IntKind.i64.wrap (s4 + 1)))))
    (some (.inr (((.inr ())))))
/- slices.IndexFunc[[]backstitch/api.Op,backstitch/api.Op] -/
def D_slices_IndexFunc_api_Op_api_Op_2 (a0 : List (Int × Int × Int × Int × Int)) (a1 : Int) (a2 : List (Int × Int × Int × Int × Int)) : Option (Int) :=
  (loopN (D_slices_IndexFunc_api_Op_api_Op_2_L0 a0 a1 a2) BIG 0).bind fun r7 =>
  caseS r7 (fun u8 =>
    some u8)
    (fun w9 =>
    some (-1))
/- slices.ContainsFunc[[]backstitch/api.Op,backstitch/api.Op] -/
def D_slices_ContainsFunc_api_Op_api_Op_2 (a0 : List (Int × Int × Int × Int × Int)) (a1 : Int) (a2 : List (Int × Int × Int × Int × Int)) : Option (Bool) :=
  (D_slices_IndexFunc_api_Op_api_Op_2 a0 a1 a2).bind fun r3 =>
  some (decide (0 ≤ r3))
/- (backstitch/check.program).registers -/
def D_check_program_registers (a0 : Int) (a1 : List (Int × Int × Int × Int × Int)) : Option (Int) :=
  cond (decide (a0 < 1))
    ((D_check_fail true 7).bind fun r2 =>
    some r2)
    (cond (decide (64 < a0))
      ((D_check_fail true 7).bind fun r3 =>
      some r3)
      ((D_slices_ContainsFunc_api_Op_api_Op_2 a1 a0 a1).bind fun r4 =>
      (D_check_fail r4 7).bind fun r5 =>
      some r5))
def D_nest_Deep_L0 (a0 : List (Int × Int × Int × Int × Int)) (s6 : Int × Bool × Int × List Int) : Option ((Int × Bool × Int × List Int) ⊕ (Bool × Int × List Int)) :=
  cond (decide (s6.1 < ((((List.length a0) : Nat) : Int))))
    ((rd a0 s6.1).bind fun x7 =>
    ((((((cond (decide (x7.1 < 0))
      (some ((.inl true)))
      (cond (decide (7 < x7.1))
        (some ((.inr ((true, x7.1, decide (7 < x7.1))))))
        (cond (decide (x7.1 = 0))
          (some ((.inr ((decide (((((List.length s6.2.2.2) : Nat) : Int)) = 0), x7.1, decide (7 < x7.1))))))
          (some ((.inr ((false, x7.1, decide (7 < x7.1))))))))) : Option ((Bool) ⊕ (Bool × Int × Bool)))).bind fun s8 =>
    caseS s8 (fun u9 =>
      cond (u9)
        (some ((.inl ((false, s6.2.2.2)))))
        (cond (decide (x7.1 = 0))
          (gd (cutG 0 (IntKind.i64.wrap (((((List.length s6.2.2.2) : Nat) : Int)) - 1)) ((List.length s6.2.2.2))) (some ((.inr ((.inl ((s6.2.1, (List.take (((Int.toNat (IntKind.i64.wrap (((((List.length s6.2.2.2) : Nat) : Int)) - 1))) - 0)) s6.2.2.2)))))))))
          (some ((.inr ((.inl ((s6.2.1, s6.2.2.2)))))))))
      (fun w10 =>
      cond (w10.1)
        (some ((.inl ((false, s6.2.2.2)))))
        (cond (decide (x7.1 = 0))
          (gd (cutG 0 (IntKind.i64.wrap (((((List.length s6.2.2.2) : Nat) : Int)) - 1)) ((List.length s6.2.2.2))) (some ((.inr ((.inr ((w10.2.1, w10.2.2, s6.2.1, (List.take (((Int.toNat (IntKind.i64.wrap (((((List.length s6.2.2.2) : Nat) : Int)) - 1))) - 0)) s6.2.2.2)))))))))
          (some ((.inr ((.inr ((w10.2.1, w10.2.2, s6.2.1, s6.2.2.2)))))))))) : Option ((Bool × List Int) ⊕ ((Bool × List Int) ⊕ (Int × Bool × Bool × List Int))))).bind fun s11 =>
    caseS s11 (fun u12 =>
      some (.inr (((u12.1, s6.2.2.1, u12.2)))))
      (fun w13 =>
      caseS w13 (fun u14 =>
        (rd a0 s6.1).bind fun x15 =>
        cond (decide (x15.1 = 7))
          (cond (decide (x7.1 = 7))
            (gd (fits (List.length u14.2 + 1) 8) (some (.inl ((IntKind.i64.wrap (s6.1 + 1), u14.1, max s6.2.2.1 (IntKind.i64.wrap (((((List.length u14.2) : Nat) : Int)) + 1)), (u14.2 ++ [s6.1]))))))
            (some (.inl ((IntKind.i64.wrap (s6.1 + 1), u14.1, max s6.2.2.1 (IntKind.i64.wrap (((((List.length u14.2) : Nat) : Int)) + 1)), u14.2)))))
          (cond (decide (x7.1 = 7))
            (gd (fits (List.length u14.2 + 1) 8) (some (.inl ((IntKind.i64.wrap (s6.1 + 1), u14.1, s6.2.2.1, (u14.2 ++ [s6.1]))))))
            (some (.inl ((IntKind.i64.wrap (s6.1 + 1), u14.1, s6.2.2.1, u14.2))))))
        (fun w16 =>
        (rd a0 s6.1).bind fun x17 =>
        cond (decide (x17.1 = 7))
          (cond (decide (x7.1 = 7))
            (gd (fits (List.length w16.2.2.2 + 1) 8) (some (.inl ((IntKind.i64.wrap (s6.1 + 1), w16.2.2.1, max s6.2.2.1 (IntKind.i64.wrap (((((List.length w16.2.2.2) : Nat) : Int)) + 1)), (w16.2.2.2 ++ [s6.1]))))))
            (some (.inl ((IntKind.i64.wrap (s6.1 + 1), w16.2.2.1, max s6.2.2.1 (IntKind.i64.wrap (((((List.length w16.2.2.2) : Nat) : Int)) + 1)), w16.2.2.2)))))
          (cond (decide (x7.1 = 7))
            (gd (fits (List.length w16.2.2.2 + 1) 8) (some (.inl ((IntKind.i64.wrap (s6.1 + 1), w16.2.2.1, s6.2.2.1, (w16.2.2.2 ++ [s6.1]))))))
            (some (.inl ((IntKind.i64.wrap (s6.1 + 1), w16.2.2.1, s6.2.2.1, w16.2.2.2))))))))
    (some (.inr (((s6.2.1, s6.2.2.1, s6.2.2.2)))))
/- backstitch/nest.Deep -/
def D_nest_Deep (a0 : List (Int × Int × Int × Int × Int)) : Option (Int × Int) :=
  (loopN (D_nest_Deep_L0 a0) BIG ((0, true, 0, []))).bind fun r18 =>
  cond (r18.1)
    (cond (!(decide (((((List.length r18.2.2) : Nat) : Int)) = 0)))
      (some ((0, 6)))
      (some ((r18.2.1, 0))))
    (some ((0, 6)))
/- (backstitch/check.program).depth -/
def D_check_program_depth (a0 : Int) (a1 : List (Int × Int × Int × Int × Int)) : Option (Int) :=
  (D_nest_Deep a1).bind fun r2 =>
  (D_check_fail (decide (8 < r2.1)) 8).bind fun r3 =>
  some r3
/- backstitch/size.block -/
def D_size_block (a0 : Int) (a1 : Int) : Option (Int × Bool) :=
  cond (decide (a0 = 0))
    (some ((0, true)))
    (cond (decide (65536 < a0))
      (some ((0, false)))
      (gd (decide (a0 ≠ 0)) (cond (decide ((IntKind.u64.wrap (IntKind.i64.wrap (Int.tdiv 65536 a0))) < a1))
        (some ((0, false)))
        (some ((IntKind.i64.wrap (a0 * (IntKind.i64.wrap (a1))), true))))))
def D_size_add_L0 (a0 : List Int) (s3 : Int × Int) : Option ((Int × Int) ⊕ (Int)) :=
  cond (decide (s3.1 < ((((List.length a0) : Nat) : Int))))
    ((rd a0 s3.1).bind fun x4 =>
    some (.inl ((IntKind.i64.wrap (s3.1 + 1), IntKind.i64.wrap (s3.2 + x4)))))
    (some (.inr s3.2))
/- backstitch/size.add -/
def D_size_add (a0 : List Int) : Option (Int) :=
  (loopN (D_size_add_L0 a0) BIG ((0, 0))).bind fun r5 =>
  some r5
def D_size_measure_L0 (a0 : List (Int × Int × Int × Int × Int)) (s6 : Int × (List Int) × (List Int) × List (Int × Int)) : Option ((Int × (List Int) × (List Int) × List (Int × Int)) ⊕ (Int × (List Int) × (List Int) × List (Int × Int))) :=
  cond (decide (s6.1 < ((((List.length a0) : Nat) : Int))))
    ((rd a0 s6.1).bind fun x7 =>
    (ix (IntKind.i64.wrap (((((List.length s6.2.2.2) : Nat) : Int)) - 1)) ((List.length s6.2.2.2))).bind fun j8 =>
    cond (decide (x7.1 = 7))
      (gd (fits (List.length s6.2.2.2 + 1) 16) (some (.inl ((IntKind.i64.wrap (s6.1 + 1), s6.2.1, s6.2.2.1, (s6.2.2.2 ++ [(s6.1, 0)]))))))
      (cond (decide (x7.1 = 0))
        ((s6.2.2.2[j8]?).bind fun x9 =>
        (s6.2.2.2[j8]?).bind fun x10 =>
        (rd a0 x10.1).bind fun x11 =>
        (D_size_block x9.2 x11.2.2.2.2).bind fun r12 =>
        cond (!r12.2)
          (some (.inr (((9, s6.2.1, s6.2.2.1, s6.2.2.2)))))
          ((s6.2.2.2[j8]?).bind fun x13 =>
          (s6.2.2.2[j8]?).bind fun x14 =>
          (s6.2.2.2[j8]?).bind fun x15 =>
          (ix x13.1 ((List.length s6.2.1))).bind fun j16 =>
          (s6.2.1[j16]?).bind fun x17 =>
          (ix x14.1 ((List.length s6.2.2.1))).bind fun j18 =>
          (s6.2.2.1[j18]?).bind fun x19 =>
          gd (cutG 0 (IntKind.i64.wrap (((((List.length s6.2.2.2) : Nat) : Int)) - 1)) ((List.length s6.2.2.2))) ((ix (IntKind.i64.wrap ((((((Int.toNat (IntKind.i64.wrap (((((List.length s6.2.2.2) : Nat) : Int)) - 1))) - 0) : Nat) : Int)) - 1)) (((Int.toNat (IntKind.i64.wrap (((((List.length s6.2.2.2) : Nat) : Int)) - 1))) - 0))).bind fun j20 =>
          (s6.2.2.2[(0 + j20)]?).bind fun x21 =>
          (D_size_add ([x21.2, r12.1])).bind fun r22 =>
          (ix (IntKind.i64.wrap ((((((Int.toNat (IntKind.i64.wrap (((((List.length s6.2.2.2) : Nat) : Int)) - 1))) - 0) : Nat) : Int)) - 1)) (((Int.toNat (IntKind.i64.wrap (((((List.length s6.2.2.2) : Nat) : Int)) - 1))) - 0))).bind fun j23 =>
          (s6.2.2.2[(0 + j23)]?).bind fun x24 =>
          some (.inl ((IntKind.i64.wrap (s6.1 + 1), (List.set s6.2.1 j16 r12.1), (List.set s6.2.2.1 j18 x15.2), (List.take (((Int.toNat (IntKind.i64.wrap (((((List.length s6.2.2.2) : Nat) : Int)) - 1))) - 0)) ((List.set s6.2.2.2 (0 + j23) ((x24.1, r22)))))))))))
        ((D_opcode_Writes x7.1 x7.2.1 x7.2.2.1 x7.2.2.2.1 x7.2.2.2.2).bind fun r25 =>
        cond (r25.2)
          ((ix s6.1 ((List.length s6.2.1))).bind fun j26 =>
          (s6.2.1[j26]?).bind fun x27 =>
          (s6.2.2.2[j8]?).bind fun x28 =>
          (s6.2.2.2[j8]?).bind fun x29 =>
          some (.inl ((IntKind.i64.wrap (s6.1 + 1), (List.set s6.2.1 j26 1), s6.2.2.1, (List.set s6.2.2.2 j8 ((x29.1, IntKind.i64.wrap (x28.2 + 1))))))))
          (some (.inl ((IntKind.i64.wrap (s6.1 + 1), s6.2.1, s6.2.2.1, s6.2.2.2)))))))
    (some (.inr (((0, s6.2.1, s6.2.2.1, s6.2.2.2)))))
/- backstitch/size.measure -/
def D_size_measure (a0 : List (Int × Int × Int × Int × Int)) : Option (Int × Int × (List Int) × List Int) :=
  (D_nest_Match a0).bind fun r1 =>
  cond (decide (r1.1 ≠ 0))
    (some ((0, r1.1, [], [])))
    (gd (Nat.beq 1 (Sh.w (.int .i64)) && decide (0 ≤ ((((List.length a0) : Nat) : Int))) && decide (((((List.length a0) : Nat) : Int)) ≤ ((((List.length a0) : Nat) : Int))) && decide ((8 : Int) * ((((List.length a0) : Nat) : Int)) ≤ 140737488355328) && Nat.ble 1 8) (gd (Nat.beq 1 (Sh.w (.int .i64)) && decide (0 ≤ ((((List.length a0) : Nat) : Int))) && decide (((((List.length a0) : Nat) : Int)) ≤ ((((List.length a0) : Nat) : Int))) && decide ((8 : Int) * ((((List.length a0) : Nat) : Int)) ≤ 140737488355328) && Nat.ble 1 8) ((loopN (D_size_measure_L0 a0) BIG ((0, (List.replicate (Int.toNat ((((List.length a0) : Nat) : Int))) (0 : Int)), (List.replicate (Int.toNat ((((List.length a0) : Nat) : Int))) (0 : Int)), [(0, 0)]))).bind fun r30 =>
    (((cond (decide (r30.1 = 0))
      ((ix 0 ((List.length r30.2.2.2))).bind fun j31 =>
      (r30.2.2.2[j31]?).bind fun x32 =>
      cond (decide (65536 < x32.2))
        (some 9)
        (some r30.1))
      (some r30.1)) : Option (Int))).bind fun s33 =>
    cond (decide (s33 ≠ 0))
      (some ((0, s33, [], [])))
      ((ix 0 ((List.length r30.2.2.2))).bind fun j34 =>
      (r30.2.2.2[j34]?).bind fun x35 =>
      some ((x35.2, 0, r30.2.1, r30.2.2.1))))))
/- backstitch/size.Writes -/
def D_size_Writes (a0 : List (Int × Int × Int × Int × Int)) : Option (Int × Int) :=
  (D_size_measure a0).bind fun r1 =>
  some ((r1.1, r1.2.1))
/- (backstitch/check.program).writes -/
def D_check_program_writes (a0 : Int) (a1 : List (Int × Int × Int × Int × Int)) : Option (Int) :=
  (D_size_Writes a1).bind fun r2 =>
  some r2.2
/- backstitch/check.Pair -/
def D_check_Pair (a0 : Int) (a1 : List (Int × Int × Int × Int × Int)) (a2 : Int) (a3 : List (Int × Int × Int × Int × Int)) : Option (Int) :=
  (D_check_program_form a0 a1).bind fun r4 =>
  cond (decide (r4 ≠ 0))
    (some r4)
    ((D_check_program_form a2 a3).bind fun r5 =>
    cond (decide (r5 ≠ 0))
      (some r5)
      ((D_check_program_registers a0 a1).bind fun r6 =>
      cond (decide (r6 ≠ 0))
        (some r6)
        ((D_check_program_registers a2 a3).bind fun r7 =>
        cond (decide (r7 ≠ 0))
          (some r7)
          ((D_check_program_depth a0 a1).bind fun r8 =>
          cond (decide (r8 ≠ 0))
            (some r8)
            ((D_check_program_depth a2 a3).bind fun r9 =>
            cond (decide (r9 ≠ 0))
              (some r9)
              ((D_check_program_writes a0 a1).bind fun r10 =>
              cond (decide (r10 ≠ 0))
                (some r10)
                ((D_check_program_writes a2 a3).bind fun r11 =>
                cond (decide (r11 ≠ 0))
                  (some r11)
                  (some 0))))))))
/- (backstitch/header.header).programs -/
def D_header_header_programs (a0 : Int) (a1 : List Int) (a2 : List Int) (a3 : Int) (a4 : List (Int × Int × Int × Int × Int)) (a5 : Int) (a6 : List (Int × Int × Int × Int × Int)) (a7 : Int) (a8 : Int) : Option (Int) :=
  (D_check_Pair a3 a4 a5 a6).bind fun r9 =>
  some r9
/- backstitch/check.Dims -/
def D_check_Dims (a0 : Int) (a1 : List (Int × Int × Int × Int × Int)) (a2 : Int) (a3 : List (Int × Int × Int × Int × Int)) (a4 : Int) (a5 : Int) : Option (Int) :=
  (((cond (decide (a4 < 1))
    (some true)
    (cond (decide (64 < a4))
      (some true)
      (cond (decide (a5 < 0))
        (some true)
        (some (decide (64 < a5)))))) : Option (Bool))).bind fun s6 =>
  cond (s6)
    ((D_check_fail true 10).bind fun r7 =>
    some r7)
    (cond (decide (a0 < (IntKind.i64.wrap ((IntKind.i64.wrap (a4 + a5)) + 1))))
      ((D_check_fail true 10).bind fun r8 =>
      some r8)
      ((D_check_fail (decide (a2 < (IntKind.i64.wrap (a4 + a5)))) 10).bind fun r9 =>
      some r9))
/- (backstitch/header.header).dims -/
def D_header_header_dims (a0 : Int) (a1 : List Int) (a2 : List Int) (a3 : Int) (a4 : List (Int × Int × Int × Int × Int)) (a5 : Int) (a6 : List (Int × Int × Int × Int × Int)) (a7 : Int) (a8 : Int) : Option (Int) :=
  (D_check_Dims a3 a4 a5 a6 ((((List.length a1) : Nat) : Int)) ((((List.length a2) : Nat) : Int))).bind fun r9 =>
  some r9
/- (backstitch/header.header).length -/
def D_header_header_length (a0 : Int) (a1 : List Int) (a2 : List Int) (a3 : Int) (a4 : List (Int × Int × Int × Int × Int)) (a5 : Int) (a6 : List (Int × Int × Int × Int × Int)) (a7 : Int) (a8 : Int) : Option (Int) :=
  (((cond (decide (a0 = 2))
    (some 0)
    (some 65535)) : Option (Int))).bind fun s9 =>
  cond (decide (a7 < 0))
    ((D_header_fail true 11).bind fun r10 =>
    some r10)
    ((D_header_fail (decide (s9 < a7)) 11).bind fun r11 =>
    some r11)
/- (backstitch/header.header).budget -/
def D_header_header_budget (a0 : Int) (a1 : List Int) (a2 : List Int) (a3 : Int) (a4 : List (Int × Int × Int × Int × Int)) (a5 : Int) (a6 : List (Int × Int × Int × Int × Int)) (a7 : Int) (a8 : Int) : Option (Int) :=
  cond (decide (a8 < 0))
    ((D_header_fail true 12).bind fun r9 =>
    some r9)
    ((D_header_fail (decide (1048576 < a8)) 12).bind fun r10 =>
    some r10)
def D_header_Check_L0 (a0 : Int) (a1 : List Int) (a2 : List Int) (a3 : Int) (a4 : List (Int × Int × Int × Int × Int)) (a5 : Int) (a6 : List (Int × Int × Int × Int × Int)) (a7 : Int) (a8 : Int) (s10 : Int) : Option ((Int) ⊕ ((Int) ⊕ (Unit))) :=
  cond (decide (s10 < 5))
    ((ix s10 5).bind fun j11 =>
    cond (Nat.beq j11 0)
      ((D_header_header_mode a0 a1 a2 a3 a4 a5 a6 a7 a8).bind fun r12 =>
      cond (decide (r12 ≠ 0))
        (some (.inr (((.inl r12)))))
        (some (.inl (IntKind.i64.wrap (s10 + 1)))))
      (cond (Nat.beq ((j11 - 1)) 0)
        ((D_header_header_programs a0 a1 a2 a3 a4 a5 a6 a7 a8).bind fun r13 =>
        cond (decide (r13 ≠ 0))
          (some (.inr (((.inl r13)))))
          (some (.inl (IntKind.i64.wrap (s10 + 1)))))
        (cond (Nat.beq (((j11 - 1) - 1)) 0)
          ((D_header_header_dims a0 a1 a2 a3 a4 a5 a6 a7 a8).bind fun r14 =>
          cond (decide (r14 ≠ 0))
            (some (.inr (((.inl r14)))))
            (some (.inl (IntKind.i64.wrap (s10 + 1)))))
          (cond (Nat.beq ((((j11 - 1) - 1) - 1)) 0)
            ((D_header_header_length a0 a1 a2 a3 a4 a5 a6 a7 a8).bind fun r15 =>
            cond (decide (r15 ≠ 0))
              (some (.inr (((.inl r15)))))
              (some (.inl (IntKind.i64.wrap (s10 + 1)))))
            (cond (Nat.beq (((((j11 - 1) - 1) - 1) - 1)) 0)
              ((D_header_header_budget a0 a1 a2 a3 a4 a5 a6 a7 a8).bind fun r16 =>
              cond (decide (r16 ≠ 0))
                (some (.inr (((.inl r16)))))
                (some (.inl (IntKind.i64.wrap (s10 + 1)))))
              none)))))
    (some (.inr (((.inr ())))))
/- backstitch/header.Check -/
def D_header_Check (a0 : Int) (a1 : List Int) (a2 : List Int) (a3 : Int) (a4 : List (Int × Int × Int × Int × Int)) (a5 : Int) (a6 : List (Int × Int × Int × Int × Int)) (a7 : Int) (a8 : Int) : Option (Int) :=
  (loopN (D_header_Check_L0 a0 a1 a2 a3 a4 a5 a6 a7 a8) BIG 0).bind fun r17 =>
  caseS r17 (fun u18 =>
    some u18)
    (fun w19 =>
    some 0)
/- backstitch/plan.Of -/
def D_plan_Of (a0 : Int) (a1 : List Int) (a2 : List Int) (a3 : Int) (a4 : List (Int × Int × Int × Int × Int)) (a5 : Int) (a6 : List (Int × Int × Int × Int × Int)) (a7 : Int) (a8 : Int) : Option (Int × Int) :=
  (D_header_Check a0 a1 a2 a3 a4 a5 a6 a7 a8).bind fun r9 =>
  cond (decide (r9 ≠ 0))
    (some ((0, 0)))
    ((D_size_Writes a4).bind fun r10 =>
    (D_size_Writes a6).bind fun r11 =>
    some ((r10.1, r11.1)))
/- backstitch/plan.sizes -/
def D_plan_sizes (a0 : Int) (a1 : List Int) (a2 : List Int) (a3 : Int) (a4 : List (Int × Int × Int × Int × Int)) (a5 : Int) (a6 : List (Int × Int × Int × Int × Int)) (a7 : Int) (a8 : Int) : Option (Int × Int × Int × Int × Int × Int × Int × Int × Int) :=
  (D_plan_Of a0 a1 a2 a3 a4 a5 a6 a7 a8).bind fun r9 =>
  (((cond (decide (a0 = 3))
    (some ((r9.2, IntKind.i64.wrap (r9.1 + a3))))
    (some ((IntKind.i64.wrap (r9.1 + r9.2), IntKind.i64.wrap (((((List.length a1) : Nat) : Int)) + 1))))) : Option (Int × Int))).bind fun s10 =>
  some (((((List.length a2) : Nat) : Int), (((List.length a1) : Nat) : Int), a3, a5, max a3 a5, (((List.length a1) : Nat) : Int), (((List.length a2) : Nat) : Int), s10.1, s10.2))
def D_plan_lay_L0 (a0 : Int) (a1 : Int) (a2 : Int) (a3 : Int) (a4 : Int) (a5 : Int) (a6 : Int) (a7 : Int) (a8 : Int) (s13 : Int × Int × List Int) : Option ((Int × Int × List Int) ⊕ (Int × List Int)) :=
  cond (decide (s13.1 < 8))
    ((ix s13.1 9).bind fun j14 =>
    gd (fits (List.length s13.2.2 + 1) 8) (some (.inl ((IntKind.i64.wrap (s13.1 + 1), IntKind.i64.wrap (s13.2.1 + ((List.getD [a0, a1, a2, a3, a4, a5, a6, a7, a8] j14 0))), (s13.2.2 ++ [s13.2.1]))))))
    (some (.inr (((s13.2.1, s13.2.2)))))
/- backstitch/plan.lay -/
def D_plan_lay (a0 : Int) (a1 : Int) (a2 : Int) (a3 : Int) (a4 : Int) (a5 : Int) (a6 : Int) (a7 : Int) (a8 : Int) (a9 : Int) : Option (List Int) :=
  (loopN (D_plan_lay_L0 a0 a1 a2 a3 a4 a5 a6 a7 a8) BIG ((0, 0, []))).bind fun r15 =>
  gd (fits (List.length r15.2 + 1) 8) (gd (fits (List.length ((r15.2 ++ [r15.1])) + 1) 8) (some (((r15.2 ++ [r15.1]) ++ [IntKind.i64.wrap (r15.1 + (IntKind.i64.wrap (a8 * a9)))]))))
/- backstitch/plan.need -/
def D_plan_need (a0 : Int) (a1 : Int) (a2 : Int) (a3 : Int) (a4 : Int) (a5 : Int) (a6 : Int) (a7 : Int) (a8 : Int) (a9 : Int) : Option (Int) :=
  (D_plan_lay a0 a1 a2 a3 a4 a5 a6 a7 a8 a9).bind fun r10 =>
  (ix 9 ((List.length r10))).bind fun j11 =>
  (r10[j11]?).bind fun x12 =>
  some x12
def D_plan_Make_L0 (r10_0 : Int) (r10_1 : Int) (r10_2 : Int) (r10_3 : Int) (r10_4 : Int) (r10_5 : Int) (r10_6 : Int) (r10_7 : Int) (r10_8 : Int) (s18 : Int × Int × Int × Int × Int) : Option ((Int × Int × Int × Int × Int) ⊕ (Int × Int × Int × Int)) :=
  cond (decide (s18.1 < 7))
    ((ix s18.1 9).bind fun j19 =>
    some (.inl ((IntKind.i64.wrap (s18.1 + 1), IntKind.i64.wrap (s18.2.1 + ((List.getD [r10_0, r10_1, r10_2, r10_3, r10_4, r10_5, r10_6, r10_7, r10_8] j19 0))), s18.2.2.1, s18.2.2.2.1, s18.2.2.2.2))))
    (some (.inr (((s18.2.1, s18.2.2.1, s18.2.2.2.1, s18.2.2.2.2)))))
/- backstitch/plan.Make -/
def D_plan_Make (a0 : Int) (a1 : List Int) (a2 : List Int) (a3 : Int) (a4 : List (Int × Int × Int × Int × Int)) (a5 : Int) (a6 : List (Int × Int × Int × Int × Int)) (a7 : Int) (a8 : Int) : Option (Int × Int × Int × Int × Int) :=
  (D_header_Check a0 a1 a2 a3 a4 a5 a6 a7 a8).bind fun r9 =>
  cond (decide (r9 ≠ 0))
    (some ((0, 0, 0, 0, r9)))
    ((D_plan_sizes a0 a1 a2 a3 a4 a5 a6 a7 a8).bind fun ⟨r10_0, r10_1, r10_2, r10_3, r10_4, r10_5, r10_6, r10_7, r10_8⟩ =>
    (((cond (decide (a0 = 3))
      (some a7)
      (some 1)) : Option (Int))).bind fun s11 =>
    (D_plan_need r10_0 r10_1 r10_2 r10_3 r10_4 r10_5 r10_6 r10_7 r10_8 s11).bind fun r12 =>
    cond (decide (a8 < r12))
      (some ((0, 0, 0, 0, 13)))
      ((loopN (D_plan_Make_L0 r10_0 r10_1 r10_2 r10_3 r10_4 r10_5 r10_6 r10_7 r10_8) BIG ((0, 0, r10_7, r10_8, s11))).bind fun r20 =>
      cond (decide (a0 ≠ 3))
        (gd (decide (r20.2.2.1 ≠ 0)) (some ((r20.1, r20.2.1, r20.2.2.1, IntKind.i64.wrap (Int.tdiv (IntKind.i64.wrap ((IntKind.i64.wrap (a8 - r20.1)) - r20.2.1)) r20.2.2.1), 0))))
        (some ((r20.1, r20.2.1, r20.2.2.1, r20.2.2.2, 0)))))
/- slices.Clone[[]backstitch/api.Op,backstitch/api.Op] -/
def D_slices_Clone_api_Op_api_Op (l : List (Int × Int × Int × Int × Int)) : Option (List (Int × Int × Int × Int × Int)) := gd (fits (0 + l.length) 40) (some l)
/- slices.Clone[[]uint64,uint64] -/
def D_slices_Clone_uint64_uint64 (l : List Int) : Option (List Int) := gd (fits (0 + l.length) 8) (some l)
/- backstitch/plan.Places -/
def D_plan_Places (a0 : Int) (a1 : List Int) (a2 : List Int) (a3 : Int) (a4 : List (Int × Int × Int × Int × Int)) (a5 : Int) (a6 : List (Int × Int × Int × Int × Int)) (a7 : Int) (a8 : Int) : Option (Int × List Int) :=
  (D_plan_Make a0 a1 a2 a3 a4 a5 a6 a7 a8).bind fun r9 =>
  cond (decide (r9.2.2.2.2 ≠ 0))
    (some ((r9.2.2.2.2, [])))
    ((D_plan_sizes a0 a1 a2 a3 a4 a5 a6 a7 a8).bind fun ⟨r10_0, r10_1, r10_2, r10_3, r10_4, r10_5, r10_6, r10_7, r10_8⟩ =>
    (D_plan_lay r10_0 r10_1 r10_2 r10_3 r10_4 r10_5 r10_6 r10_7 r10_8 r9.2.2.2.1).bind fun r11 =>
    some ((0, r11)))
/- backstitch/drive.plans -/
def D_drive_plans (a0 : Int) (a1 : List Int) (a2 : List Int) (a3 : Int) (a4 : List (Int × Int × Int × Int × Int)) (a5 : Int) (a6 : List (Int × Int × Int × Int × Int)) (a7 : Int) (a8 : Int) : Option ((Int) ⊕ (Int × Int × Int × Int × Int × Int × Int × Int × Int × Int × (List Int) × (List Int) × (List (Int × Int × Int × Int × Int)) × (List (Int × Int × Int × Int × Int)) × List Int)) :=
  (D_plan_Make a0 a1 a2 a3 a4 a5 a6 a7 a8).bind fun r9 =>
  cond (decide (r9.2.2.2.2 ≠ 0))
    (some ((.inl r9.2.2.2.2)))
    ((D_slices_Clone_api_Op_api_Op a4).bind fun r10 =>
    (D_slices_Clone_api_Op_api_Op a6).bind fun r11 =>
    (D_slices_Clone_uint64_uint64 a1).bind fun r12 =>
    (D_slices_Clone_uint64_uint64 a2).bind fun r13 =>
    (D_plan_Places a0 a1 a2 a3 a4 a5 a6 a7 a8).bind fun r14 =>
    some ((.inr ((r9.1, r9.2.1, r9.2.2.1, r9.2.2.2.1, a0, a3, a5, a7, a8, a7, r12, r13, r10, r11, r14.2)))))
/- backstitch/arena.right -/
def D_arena_right (a0 : Int) : Option (Int) :=
  cond (decide (a0 < 1))
    (some 2)
    (cond (decide (1048576 < a0))
      (some 12)
      (some 0))
/- backstitch/arena.New -/
def D_arena_New (a0 : Int) : Option (List Int) :=
  (D_arena_right a0).bind fun r1 =>
  cond (decide (r1 ≠ 0))
    none
    (gd (Nat.beq 1 (Sh.w (.int .u64)) && decide (0 ≤ a0) && decide (a0 ≤ a0) && decide ((8 : Int) * a0 ≤ 140737488355328) && Nat.ble 1 8) (some ((List.replicate (Int.toNat a0) (0 : Int)))))
/- backstitch/meter.At -/
def D_meter_At (a0 : Int) (a1 : Int) (a2 : Int) : Option ((Unit) ⊕ (Int × Int × Int)) :=
  cond (decide (a1 < 0))
    (some ((.inl ())))
    (cond (decide (a2 < a1))
      (some ((.inl ())))
      (cond (decide (a0 < a2))
        (some ((.inl ())))
        (some ((.inr ((a1, a2, a0)))))))
/- backstitch/meter.New -/
def D_meter_New (a0 : Int) : Option (Int × Int × Int) :=
  (D_meter_At a0 0 0).bind fun r1 =>
  caseS r1 (fun u2 =>
    none)
    (fun w3 =>
    some ((w3.1, w3.2.1, w3.2.2)))
/- (*backstitch/meter.counter).within -/
def D_meter_counter_within (a0 : Int) (a1 : Int) (a2 : Int) (a3 : Int) (a4 : Int) : Option (Bool) :=
  some (decide (a0 ≤ (IntKind.i64.wrap (a1 - a2))))
/- (*backstitch/meter.counter).add -/
def D_meter_counter_add (a0 : Int) (a1 : Int) (a2 : Int) (a3 : Int) : Option (Int × Int × Int) :=
  some ((IntKind.i64.wrap (a1 + a0), max a2 (IntKind.i64.wrap (a1 + a0)), a3))
/- (*backstitch/meter.Meter).Hold -/
def D_meter_Meter_Hold (a0 : Int) (a1 : Int) (a2 : Int) (a3 : Int) : Option (Int × Int × Int × Int) :=
  cond (decide (a0 < 0))
    (some ((2, a1, a2, a3)))
    ((D_meter_counter_within a0 a3 a1 a2 a3).bind fun r4 =>
    cond (!r4)
      (some ((15, a1, a2, a3)))
      ((D_meter_counter_add a0 a1 a2 a3).bind fun r5 =>
      some ((0, r5.1, r5.2.1, r5.2.2))))
/- (*backstitch/arena.Arena).Left -/
def D_arena_Arena_Left (a0 : Int) (a1 : List Int) : Option (Int) :=
  some (IntKind.i64.wrap (((((List.length a1) : Nat) : Int)) - a0))
/- (*backstitch/arena.Arena).Take -/
def D_arena_Arena_Take (a0 : Int) (a1 : Int) (a2 : List Int) : Option (Int × Int × Int) :=
  cond (decide (a0 < 0))
    (some ((0, 2, a1)))
    ((D_arena_Arena_Left a1 a2).bind fun r3 =>
    cond (decide (r3 < a0))
      (some ((0, 15, a1)))
      (some ((a1, 0, IntKind.i64.wrap (a1 + a0)))))
/- (*backstitch/drive.Driver).baseline -/
def D_drive_Driver_baseline (a0 : Int) (a1 : Int) (a2 : Int) (a3 : Int) (a4 : Int) (a5 : Int) (a6 : Int) (a7 : Int) (a8 : Int) (a9 : Int) (a10 : Int) (a11 : Int) (a12 : Int) (a13 : Int) (a14 : Int) (a15 : Int) (a16 : Int) (a17 : List Int) (a18 : List Int) (a19 : List (Int × Int × Int × Int × Int)) (a20 : List (Int × Int × Int × Int × Int)) (a21 : List Int) (a22 : Int) (a23 : Int) (a24 : Int) (a25 : Int) (a26 : List Int) : Option (Bool) :=
  some (decide (a4 = 3))
/- (backstitch/slots.place).may -/
def D_slots_place_may (a0 : Int) (a1 : Int) (a2 : Int) : Option (Bool) :=
  cond (decide (0 ≤ a1))
    (cond (decide (a1 ≤ 1048576))
      (cond (decide (1 ≤ a2))
        (some (decide (a2 ≤ 64)))
        (some false))
      (some false))
    (some false)
/- (backstitch/slots.place).size -/
def D_slots_place_size (a0 : Int) (a1 : Int) (a2 : Int) : Option (Int) :=
  some (IntKind.i64.wrap (a2 + 1))
/- (*backstitch/arena.Arena).Write -/
def D_arena_Arena_Write (a0 : Int) (a1 : List Int) (a2 : Int) (a3 : List Int) : Option (Int × List Int) :=
  cond (decide (a0 < 0))
    (some ((2, a3)))
    (cond (decide (((((List.length a1) : Nat) : Int)) < 0))
      (some ((2, a3)))
      (cond (decide (a2 < a0))
        (some ((2, a3)))
        (cond (decide ((IntKind.i64.wrap (a2 - a0)) < ((((List.length a1) : Nat) : Int))))
          (some ((2, a3)))
          (gd (cutG a0 (IntKind.i64.wrap (a0 + ((((List.length a1) : Nat) : Int)))) ((List.length a3))) (some ((0, (blit a3 ((Int.toNat a0)) (((Int.toNat (IntKind.i64.wrap (a0 + ((((List.length a1) : Nat) : Int))))) - (Int.toNat a0))) a1))))))))
/- backstitch/slots.New -/
def D_slots_New (a0 : Int) (a1 : Int) (a2 : Int) (a3 : List Int) : Option (Int × (List Int) × Int × Int × Int) :=
  (D_slots_place_may 0 a0 a1).bind fun r4 =>
  cond (!r4)
    none
    ((D_slots_place_size 0 a0 a1).bind fun r5 =>
    (D_arena_Arena_Take (IntKind.i64.wrap (a0 * r5)) a2 a3).bind fun r6 =>
    cond (decide (r6.2.1 ≠ 0))
      none
      ((D_slots_place_size r6.1 a0 a1).bind fun r7 =>
      gd (Nat.beq 1 (Sh.w (.int .u64)) && decide (0 ≤ (IntKind.i64.wrap (a0 * r7))) && decide ((IntKind.i64.wrap (a0 * r7)) ≤ (IntKind.i64.wrap (a0 * r7))) && decide ((8 : Int) * (IntKind.i64.wrap (a0 * r7)) ≤ 140737488355328) && Nat.ble 1 8) ((D_arena_Arena_Write r6.1 ((List.replicate (Int.toNat (IntKind.i64.wrap (a0 * r7))) (0 : Int))) r6.2.2 a3).bind fun r8 =>
      some ((r6.2.2, r8.2, r6.1, a0, a1)))))
/- (*backstitch/drive.Driver).put -/
def D_drive_Driver_put (a0 : Int) (a1 : List Int) (a2 : Int) (a3 : Int) (a4 : Int) (a5 : Int) (a6 : Int) (a7 : Int) (a8 : Int) (a9 : Int) (a10 : Int) (a11 : Int) (a12 : Int) (a13 : Int) (a14 : Int) (a15 : Int) (a16 : Int) (a17 : Int) (a18 : Int) (a19 : List Int) (a20 : List Int) (a21 : List (Int × Int × Int × Int × Int)) (a22 : List (Int × Int × Int × Int × Int)) (a23 : List Int) (a24 : Int) (a25 : Int) (a26 : Int) (a27 : Int) (a28 : List Int) : Option (List Int) :=
  (ix a0 ((List.length a23))).bind fun j29 =>
  (a23[j29]?).bind fun x30 =>
  (D_arena_Arena_Write x30 a1 a24 a28).bind fun r31 =>
  some r31.2
/- (*backstitch/drive.Driver).put -/
def D_drive_Driver_put_2 (a0 : Int) (a1 : List Int) (a2 : Int) (a3 : Int) (a4 : Int) (a5 : Int) (a6 : Int) (a7 : Int) (a8 : Int) (a9 : Int) (a10 : Int) (a11 : Int) (a12 : Int) (a13 : Int) (a14 : Int) (a15 : Int) (a16 : Int) (a17 : Int) (a18 : Int) (a19 : List Int) (a20 : List Int) (a21 : List (Int × Int × Int × Int × Int)) (a22 : List (Int × Int × Int × Int × Int)) (a23 : List Int) (a24 : Int) (a25 : Int) (a26 : Int) (a27 : Int) (a28 : Int) (a29 : Int) (a30 : Int) (a31 : List Int) : Option (List Int) :=
  (ix a0 ((List.length a23))).bind fun j32 =>
  (a23[j32]?).bind fun x33 =>
  (D_arena_Arena_Write x33 a1 a24 a31).bind fun r34 =>
  some r34.2
/- backstitch/drive.New -/
def D_drive_New (a0 : Int) (a1 : List Int) (a2 : List Int) (a3 : Int) (a4 : List (Int × Int × Int × Int × Int)) (a5 : Int) (a6 : List (Int × Int × Int × Int × Int)) (a7 : Int) (a8 : Int) : Option ((Int) ⊕ ((Int × Int × Int × Int × Int × Int × Int × Int × Int × Int × (List Int) × (List Int) × (List (Int × Int × Int × Int × Int)) × (List (Int × Int × Int × Int × Int)) × (List Int) × Int × Int × Int × Int × List Int) ⊕ (Int × Int × Int × Int × Int × Int × Int × Int × Int × Int × (List Int) × (List Int) × (List (Int × Int × Int × Int × Int)) × (List (Int × Int × Int × Int × Int)) × (List Int) × Int × Int × Int × Int × Int × Int × Int × List Int))) :=
  (D_drive_plans a0 a1 a2 a3 a4 a5 a6 a7 a8).bind fun r9 =>
  caseS r9 (fun u10 =>
    cond (decide (u10 ≠ 0))
      (some ((.inl u10)))
      ((D_arena_New a8).bind fun r11 =>
      none))
    (fun ⟨w12_0, w12_1, w12_2, w12_3, w12_4, w12_5, w12_6, w12_7, w12_8, w12_9, w12_10, w12_11, w12_12, w12_13, w12_14⟩ =>
    (D_arena_New a8).bind fun r13 =>
    (D_meter_New a8).bind fun r14 =>
    (D_meter_Meter_Hold w12_0 r14.1 r14.2.1 r14.2.2).bind fun r15 =>
    (ix 8 ((List.length w12_14))).bind fun j16 =>
    (w12_14[j16]?).bind fun x17 =>
    (D_arena_Arena_Take x17 0 r13).bind fun r18 =>
    ((((D_drive_Driver_baseline w12_0 w12_1 w12_2 w12_3 w12_4 w12_5 w12_6 w12_7 w12_8 w12_9 0 (-1) 0 0 0 0 0 w12_10 w12_11 w12_12 w12_13 w12_14 r18.2.2 r15.2.1 r15.2.2.1 r15.2.2.2 r13).bind fun r19 =>
    cond (r19)
      ((D_arena_Arena_Take (IntKind.i64.wrap (w12_3 * w12_2)) r18.2.2 r13).bind fun r20 =>
      some ((.inl ((w12_0, w12_1, w12_2, w12_3, w12_4, w12_5, w12_6, w12_7, w12_8, w12_9, r20.2.2, r13)))))
      ((D_slots_New w12_3 ((((List.length a1) : Nat) : Int)) r18.2.2 r13).bind fun r21 =>
      some ((.inr ((w12_0, w12_1, w12_2, w12_3, w12_4, w12_5, w12_6, w12_7, w12_8, w12_9, r21.1, r21.2.1, r21.2.2.1, r21.2.2.2.1, r21.2.2.2.2)))))) : Option ((Int × Int × Int × Int × Int × Int × Int × Int × Int × Int × Int × List Int) ⊕ (Int × Int × Int × Int × Int × Int × Int × Int × Int × Int × Int × (List Int) × Int × Int × Int)))).bind fun s22 =>
    caseS s22 (fun ⟨u23_0, u23_1, u23_2, u23_3, u23_4, u23_5, u23_6, u23_7, u23_8, u23_9, u23_10, u23_11⟩ =>
      (D_drive_Driver_put 0 a2 u23_0 u23_1 u23_2 u23_3 u23_4 u23_5 u23_6 u23_7 u23_8 u23_9 0 (-1) 0 0 0 0 0 w12_10 w12_11 w12_12 w12_13 w12_14 u23_10 r15.2.1 r15.2.2.1 r15.2.2.2 u23_11).bind fun r24 =>
      (D_drive_Driver_put 1 a1 u23_0 u23_1 u23_2 u23_3 u23_4 u23_5 u23_6 u23_7 u23_8 u23_9 0 (-1) 0 0 0 0 0 w12_10 w12_11 w12_12 w12_13 w12_14 u23_10 r15.2.1 r15.2.2.1 r15.2.2.2 r24).bind fun r25 =>
      some ((.inr ((.inl ((u23_0, u23_1, u23_2, u23_3, u23_4, u23_5, u23_6, u23_7, u23_8, u23_9, w12_10, w12_11, w12_12, w12_13, w12_14, u23_10, r15.2.1, r15.2.2.1, r15.2.2.2, r25)))))))
      (fun ⟨w26_0, w26_1, w26_2, w26_3, w26_4, w26_5, w26_6, w26_7, w26_8, w26_9, w26_10, w26_11, w26_12, w26_13, w26_14⟩ =>
      (D_drive_Driver_put_2 0 a2 w26_0 w26_1 w26_2 w26_3 w26_4 w26_5 w26_6 w26_7 w26_8 w26_9 0 (-1) 0 0 0 0 0 w12_10 w12_11 w12_12 w12_13 w12_14 w26_10 w26_12 w26_13 w26_14 r15.2.1 r15.2.2.1 r15.2.2.2 w26_11).bind fun r27 =>
      (D_drive_Driver_put_2 1 a1 w26_0 w26_1 w26_2 w26_3 w26_4 w26_5 w26_6 w26_7 w26_8 w26_9 0 (-1) 0 0 0 0 0 w12_10 w12_11 w12_12 w12_13 w12_14 w26_10 w26_12 w26_13 w26_14 r15.2.1 r15.2.2.1 r15.2.2.2 r27).bind fun r28 =>
      some ((.inr ((.inr ((w26_0, w26_1, w26_2, w26_3, w26_4, w26_5, w26_6, w26_7, w26_8, w26_9, w12_10, w12_11, w12_12, w12_13, w12_14, w26_10, w26_12, w26_13, w26_14, r15.2.1, r15.2.2.1, r15.2.2.2, r28))))))))
/- (*backstitch/arena.Arena).Read -/
def D_arena_Arena_Read (a0 : Int) (a1 : Int) (a2 : Int) (a3 : List Int) : Option (Int × List Int) :=
  cond (decide (a0 < 0))
    (some ((2, [])))
    (cond (decide (a1 < 0))
      (some ((2, [])))
      (cond (decide (a2 < a0))
        (some ((2, [])))
        (cond (decide ((IntKind.i64.wrap (a2 - a0)) < a1))
          (some ((2, [])))
          (gd (cutG a0 (IntKind.i64.wrap (a0 + a1)) ((List.length a3))) ((D_slices_Clone_uint64_uint64 ((List.take (((Int.toNat (IntKind.i64.wrap (a0 + a1))) - (Int.toNat a0))) (List.drop ((Int.toNat a0)) a3)))).bind fun r4 =>
          some ((0, r4)))))))
/- (*backstitch/drive.Driver).get -/
def D_drive_Driver_get (a0 : Int) (a1 : Int) (a2 : Int) (a3 : Int) (a4 : Int) (a5 : Int) (a6 : Int) (a7 : Int) (a8 : Int) (a9 : Int) (a10 : Int) (a11 : Int) (a12 : Int) (a13 : Int) (a14 : Int) (a15 : Int) (a16 : Int) (a17 : Int) (a18 : List Int) (a19 : List Int) (a20 : List (Int × Int × Int × Int × Int)) (a21 : List (Int × Int × Int × Int × Int)) (a22 : List Int) (a23 : Int) (a24 : Int) (a25 : Int) (a26 : Int) (a27 : List Int) : Option (List Int) :=
  (ix a0 ((List.length a22))).bind fun j28 =>
  (a22[j28]?).bind fun x29 =>
  (ix (IntKind.i64.wrap (a0 + 1)) ((List.length a22))).bind fun j30 =>
  (a22[j30]?).bind fun x31 =>
  (ix a0 ((List.length a22))).bind fun j32 =>
  (a22[j32]?).bind fun x33 =>
  (D_arena_Arena_Read x29 (IntKind.i64.wrap (x31 - x33)) a23 a27).bind fun r34 =>
  some r34.2
def D_slices_Concat_uint64_uint64_L0 (a0 : List (List Int)) (s3 : Int × Int) : Option ((Int × Int) ⊕ (Int)) :=
  cond (decide (s3.1 < ((((List.length a0) : Nat) : Int))))
    ((rd a0 s3.1).bind fun x4 =>
    cond (decide ((IntKind.i64.wrap (s3.2 + ((((List.length x4) : Nat) : Int)))) < 0))
      none
      (some (.inl ((IntKind.i64.wrap (s3.1 + 1), IntKind.i64.wrap (s3.2 + ((((List.length x4) : Nat) : Int))))))))
    (some (.inr s3.2))
def D_slices_Concat_uint64_uint64_L1 (a0 : List (List Int)) (s9 : Int × List Int) : Option ((Int × List Int) ⊕ (List Int)) :=
  cond (decide (s9.1 < ((((List.length a0) : Nat) : Int))))
    ((rd a0 s9.1).bind fun x10 =>
    gd (fits (List.length s9.2 + List.length x10) 8) (some (.inl ((IntKind.i64.wrap (s9.1 + 1), (s9.2 ++ x10))))))
    (some (.inr s9.2))
def D_slices_Concat_uint64_uint64_L2 (a0 : List (List Int)) (s14 : Int × List Int) : Option ((Int × List Int) ⊕ (List Int)) :=
  cond (decide (s14.1 < ((((List.length a0) : Nat) : Int))))
    ((rd a0 s14.1).bind fun x15 =>
    gd (fits (List.length s14.2 + List.length x15) 8) (some (.inl ((IntKind.i64.wrap (s14.1 + 1), (s14.2 ++ x15))))))
    (some (.inr s14.2))
/- slices.Concat[[]uint64,uint64] -/
def D_slices_Concat_uint64_uint64 (a0 : List (List Int)) : Option (List Int) :=
  (loopN (D_slices_Concat_uint64_uint64_L0 a0) BIG ((0, 0))).bind fun r5 =>
  cond (decide (r5 < 0))
    none
    (cond (decide (0 < (IntKind.i64.wrap (r5 - 0))))
      (gd (zeroFits 8 (IntKind.i64.wrap (r5 - 0))) (gd (fits (0 + List.length ((List.replicate (Int.toNat (IntKind.i64.wrap (r5 - 0))) (0 : Int)))) 8) (gd (cutG 0 0 ((List.length ((([] : List Int) ++ (List.replicate (Int.toNat (IntKind.i64.wrap (r5 - 0))) (0 : Int))))))) ((loopN (D_slices_Concat_uint64_uint64_L1 a0) BIG ((0, (List.take 0 ((([] : List Int) ++ (List.replicate (Int.toNat (IntKind.i64.wrap (r5 - 0))) (0 : Int)))))))).bind fun r11 =>
      some r11))))
      ((loopN (D_slices_Concat_uint64_uint64_L2 a0) BIG ((0, []))).bind fun r16 =>
      some r16))
/- (*backstitch/drive.Driver).begin -/
def D_drive_Driver_begin (a0 : Int) (a1 : List (Int × Int × Int × Int × Int)) (a2 : List Int) (a3 : List Int) (a4 : Int) (a5 : Int) (a6 : Int) (a7 : Int) (a8 : Int) (a9 : Int) (a10 : Int) (a11 : Int) (a12 : Int) (a13 : Int) (a14 : Int) (a15 : Int) (a16 : Int) (a17 : Int) (a18 : Int) (a19 : Int) (a20 : Int) (a21 : List Int) (a22 : List Int) (a23 : List (Int × Int × Int × Int × Int)) (a24 : List (Int × Int × Int × Int × Int)) (a25 : List Int) (a26 : Int) (a27 : Int) (a28 : Int) (a29 : Int) (a30 : List Int) : Option (List Int) :=
  (D_drive_Driver_get 0 a4 a5 a6 a7 a8 a9 a10 a11 a12 a13 a14 a15 a16 a17 a18 a19 a20 a21 a22 a23 a24 a25 a26 a27 a28 a29 a30).bind fun r31 =>
  (D_slices_Concat_uint64_uint64 ([a2, r31, a3])).bind fun r32 =>
  gd (zeroFits 8 (IntKind.i64.wrap (a0 - ((((List.length r32) : Nat) : Int))))) (gd (fits (List.length r32 + List.length ((List.replicate (Int.toNat (IntKind.i64.wrap (a0 - ((((List.length r32) : Nat) : Int))))) (0 : Int)))) 8) (some ((r32 ++ (List.replicate (Int.toNat (IntKind.i64.wrap (a0 - ((((List.length r32) : Nat) : Int))))) (0 : Int))))))
/- backstitch/check.Program -/
def D_check_Program (a0 : Int) (a1 : List (Int × Int × Int × Int × Int)) : Option (Int) :=
  (D_check_program_form a0 a1).bind fun r2 =>
  cond (decide (r2 ≠ 0))
    (some r2)
    ((D_check_program_registers a0 a1).bind fun r3 =>
    cond (decide (r3 ≠ 0))
      (some r3)
      ((D_check_program_depth a0 a1).bind fun r4 =>
      cond (decide (r4 ≠ 0))
        (some r4)
        ((D_check_program_writes a0 a1).bind fun r5 =>
        cond (decide (r5 ≠ 0))
          (some r5)
          (some 0))))
/- backstitch/size.Sizes -/
def D_size_Sizes (a0 : List (Int × Int × Int × Int × Int)) : Option (Int × List Int) :=
  (D_size_measure a0).bind fun r1 =>
  some ((r1.2.1, r1.2.2.1))
def D_flat_Code_L0 (a1 : List (Int × Int × Int × Int × Int)) (r3 : Int × List Int) (r4 : Int × List Int) (s8 : Int × (List Int) × List (Int × Int × Int × Int × Int × Int)) : Option ((Int × (List Int) × List (Int × Int × Int × Int × Int × Int)) ⊕ (List (Int × Int × Int × Int × Int × Int))) :=
  cond (decide (s8.1 < ((((List.length a1) : Nat) : Int))))
    ((rd a1 s8.1).bind fun x9 =>
    ((((((cond (decide (x9.1 = 7))
      ((ix s8.1 ((List.length r4.2))).bind fun j10 =>
      (r4.2[j10]?).bind fun x11 =>
      some ((.inl ((decide (x11 = 0), s8.1, x11, decide (x11 = 0))))))
      (some ((.inr false)))) : Option ((Bool × Int × Int × Bool) ⊕ (Bool)))).bind fun s12 =>
    caseS s12 (fun u13 =>
      cond (u13.1)
        ((ix s8.1 ((List.length r3.2))).bind fun j14 =>
        (r3.2[j14]?).bind fun x15 =>
        some ((.inl ((x15, u13.2.1, u13.2.2.1, u13.2.2.2, s8.2.1, s8.2.2)))))
        (cond (decide (x9.1 = 7))
          (gd (fits (List.length s8.2.1 + 1) 8) (some ((.inr ((.inr ((.inl ((s8.1, u13.2.1, u13.2.2.1, u13.2.2.2, s8.2.2, (s8.2.1 ++ [(((List.length s8.2.2) : Nat) : Int)])))))))))))
          (cond (decide (x9.1 = 0))
            ((ix (IntKind.i64.wrap (((((List.length s8.2.1) : Nat) : Int)) - 1)) ((List.length s8.2.1))).bind fun j16 =>
            (s8.2.1[j16]?).bind fun x17 =>
            gd (cutG 0 (IntKind.i64.wrap (((((List.length s8.2.1) : Nat) : Int)) - 1)) ((List.length s8.2.1))) ((ix x17 ((List.length s8.2.2))).bind fun j18 =>
            (s8.2.2[j18]?).bind fun x19 =>
            gd (fits (List.length ((List.set s8.2.2 j18 ((x19.1, (x19.2.1, (x19.2.2.1, (x19.2.2.2.1, (x19.2.2.2.2.1, IntKind.i64.wrap (((((List.length s8.2.2) : Nat) : Int)) + 1))))))))) + 1) 48) (some ((.inl ((s8.1, u13.2.1, u13.2.2.1, u13.2.2.2, (List.take (((Int.toNat (IntKind.i64.wrap (((((List.length s8.2.1) : Nat) : Int)) - 1))) - 0)) s8.2.1), ((List.set s8.2.2 j18 ((x19.1, (x19.2.1, (x19.2.2.1, (x19.2.2.2.1, (x19.2.2.2.2.1, IntKind.i64.wrap (((((List.length s8.2.2) : Nat) : Int)) + 1)))))))) ++ [(x9.1, (x9.2.1, (x9.2.2.1, (x9.2.2.2.1, (x9.2.2.2.2, IntKind.i64.wrap (x17 + 1))))))]))))))))
            (some ((.inr ((.inr ((.inl ((s8.1, u13.2.1, u13.2.2.1, u13.2.2.2, s8.2.2, s8.2.1))))))))))))
      (fun w20 =>
      cond (w20)
        ((ix s8.1 ((List.length r3.2))).bind fun j21 =>
        (r3.2[j21]?).bind fun x22 =>
        some ((.inr ((.inl ((x22, s8.2.1, s8.2.2)))))))
        (cond (decide (x9.1 = 7))
          (gd (fits (List.length s8.2.1 + 1) 8) (some ((.inr ((.inr ((.inr ((s8.1, s8.2.2, (s8.2.1 ++ [(((List.length s8.2.2) : Nat) : Int)])))))))))))
          (cond (decide (x9.1 = 0))
            ((ix (IntKind.i64.wrap (((((List.length s8.2.1) : Nat) : Int)) - 1)) ((List.length s8.2.1))).bind fun j23 =>
            (s8.2.1[j23]?).bind fun x24 =>
            gd (cutG 0 (IntKind.i64.wrap (((((List.length s8.2.1) : Nat) : Int)) - 1)) ((List.length s8.2.1))) ((ix x24 ((List.length s8.2.2))).bind fun j25 =>
            (s8.2.2[j25]?).bind fun x26 =>
            gd (fits (List.length ((List.set s8.2.2 j25 ((x26.1, (x26.2.1, (x26.2.2.1, (x26.2.2.2.1, (x26.2.2.2.2.1, IntKind.i64.wrap (((((List.length s8.2.2) : Nat) : Int)) + 1))))))))) + 1) 48) (some ((.inr ((.inl ((s8.1, (List.take (((Int.toNat (IntKind.i64.wrap (((((List.length s8.2.1) : Nat) : Int)) - 1))) - 0)) s8.2.1), ((List.set s8.2.2 j25 ((x26.1, (x26.2.1, (x26.2.2.1, (x26.2.2.2.1, (x26.2.2.2.2.1, IntKind.i64.wrap (((((List.length s8.2.2) : Nat) : Int)) + 1)))))))) ++ [(x9.1, (x9.2.1, (x9.2.2.1, (x9.2.2.2.1, (x9.2.2.2.2, IntKind.i64.wrap (x24 + 1))))))]))))))))))
            (some ((.inr ((.inr ((.inr ((s8.1, s8.2.2, s8.2.1))))))))))))) : Option ((Int × Int × Int × Bool × (List Int) × List (Int × Int × Int × Int × Int × Int)) ⊕ ((Int × (List Int) × List (Int × Int × Int × Int × Int × Int)) ⊕ ((Int × Int × Int × Bool × (List (Int × Int × Int × Int × Int × Int)) × List Int) ⊕ (Int × (List (Int × Int × Int × Int × Int × Int)) × List Int)))))).bind fun s27 =>
    caseS s27 (fun u28 =>
      some (.inl ((IntKind.i64.wrap (u28.1 + 1), u28.2.2.2.2.1, u28.2.2.2.2.2))))
      (fun w29 =>
      caseS w29 (fun u30 =>
        some (.inl ((IntKind.i64.wrap (u30.1 + 1), u30.2.1, u30.2.2))))
        (fun w31 =>
        caseS w31 (fun u32 =>
          gd (fits (List.length u32.2.2.2.2.1 + 1) 48) (some (.inl ((IntKind.i64.wrap (u32.1 + 1), u32.2.2.2.2.2, (u32.2.2.2.2.1 ++ [(x9.1, (x9.2.1, (x9.2.2.1, (x9.2.2.2.1, (x9.2.2.2.2, 0)))))]))))))
          (fun w33 =>
          gd (fits (List.length w33.2.1 + 1) 48) (some (.inl ((IntKind.i64.wrap (w33.1 + 1), w33.2.2, (w33.2.1 ++ [(x9.1, (x9.2.1, (x9.2.2.1, (x9.2.2.2.1, (x9.2.2.2.2, 0)))))])))))))))
    (some (.inr s8.2.2))
/- backstitch/flat.Code -/
def D_flat_Code (a0 : Int) (a1 : List (Int × Int × Int × Int × Int)) : Option (Int × List (Int × Int × Int × Int × Int × Int)) :=
  (D_check_Program a0 a1).bind fun r2 =>
  cond (decide (r2 ≠ 0))
    (some ((r2, [])))
    ((D_nest_Match a1).bind fun r3 =>
    (D_size_Sizes a1).bind fun r4 =>
    (loopN (D_flat_Code_L0 a1 r3 r4) BIG ((0, [], []))).bind fun r34 =>
    some ((0, r34)))
/- backstitch/tape.ready -/
def D_tape_ready (a0 : Int) (a1 : List (Int × Int × Int × Int × Int)) (a2 : List Int) (a3 : List Int) : Option (Int × List (Int × Int × Int × Int × Int × Int)) :=
  (D_flat_Code a0 a1).bind fun r4 =>
  cond (decide (r4.1 ≠ 0))
    (some ((r4.1, [])))
    ((D_size_Writes a1).bind fun r5 =>
    cond (decide (((((List.length a2) : Nat) : Int)) ≠ a0))
      (some ((10, [])))
      (cond (decide (((((List.length a3) : Nat) : Int)) < r5.1))
        (some ((15, [])))
        (some ((0, r4.2)))))
/- backstitch/opcode.Apply -/
def D_opcode_Apply (a0 : Int) (a1 : Int) (a2 : Int) (a3 : Int) (a4 : Int) (a5 : Int) (a6 : Int) : Option (Int) :=
  cond (decide (a0 = 1))
    (some (IntKind.u64.wrap (a5 + a6)))
    (cond (decide (a0 = 2))
      (some (IntKind.u64.wrap (a5 - a6)))
      (cond (decide (a0 = 3))
        (some (IntKind.u64.wrap (a5 * a6)))
        (cond (decide (a0 = 4))
          (some (IntKind.u64.wrap (0 - a5)))
          (cond (decide (a0 = 5))
            (some a4)
            (cond (decide (a0 = 6))
              (some a5)
              (some 0))))))
def D_tape_exec_L0 (a0 : List (Int × Int × Int × Int × Int × Int)) : (Int × Int × Int × (List Int) × (List Int) × Int × Int × Int × Int × Int × Int × Int × Int) → Option ((Int × Int × Int × (List Int) × (List Int) × Int × Int × Int × Int × Int × Int × Int × Int) ⊕ (Int × (List Int) × (List Int) × Int × Int × Int × Int × Int × Int × Int × Int)) := fun ⟨s22_0, s22_1, s22_2, s22_3, s22_4, s22_5, s22_6, s22_7, s22_8, s22_9, s22_10, s22_11, s22_12⟩ =>
  cond (decide (s22_0 = ((((List.length a0) : Nat) : Int))))
    (some (.inr (((s22_1, s22_3, s22_4, s22_5, s22_6, s22_7, s22_8, s22_9, s22_10, s22_11, s22_12)))))
    ((ix s22_0 ((List.length a0))).bind fun j23 =>
    (a0[j23]?).bind fun x24 =>
    cond (decide (x24.1 = 7))
      ((ix s22_2 8).bind fun j25 =>
      some (.inl ((IntKind.i64.wrap (s22_0 + 1), s22_1, IntKind.i64.wrap (s22_2 + 1), s22_3, s22_4, (cond (Nat.beq j25 0) x24.2.2.2.2.1 s22_5), (cond (Nat.beq j25 1) x24.2.2.2.2.1 s22_6), (cond (Nat.beq j25 2) x24.2.2.2.2.1 s22_7), (cond (Nat.beq j25 3) x24.2.2.2.2.1 s22_8), (cond (Nat.beq j25 4) x24.2.2.2.2.1 s22_9), (cond (Nat.beq j25 5) x24.2.2.2.2.1 s22_10), (cond (Nat.beq j25 6) x24.2.2.2.2.1 s22_11), (cond (Nat.beq j25 7) x24.2.2.2.2.1 s22_12)))))
      (cond (decide (x24.1 = 0))
        ((ix (IntKind.i64.wrap (s22_2 - 1)) 8).bind fun j26 =>
        (ix (IntKind.i64.wrap (s22_2 - 1)) 8).bind fun j27 =>
        (ix (IntKind.i64.wrap (s22_2 - 1)) 8).bind fun j28 =>
        cond (decide (0 < ((List.getD [(cond (Nat.beq j27 0) (IntKind.u64.wrap (((List.getD [s22_5, s22_6, s22_7, s22_8, s22_9, s22_10, s22_11, s22_12] j26 0)) - 1)) s22_5), (cond (Nat.beq j27 1) (IntKind.u64.wrap (((List.getD [s22_5, s22_6, s22_7, s22_8, s22_9, s22_10, s22_11, s22_12] j26 0)) - 1)) s22_6), (cond (Nat.beq j27 2) (IntKind.u64.wrap (((List.getD [s22_5, s22_6, s22_7, s22_8, s22_9, s22_10, s22_11, s22_12] j26 0)) - 1)) s22_7), (cond (Nat.beq j27 3) (IntKind.u64.wrap (((List.getD [s22_5, s22_6, s22_7, s22_8, s22_9, s22_10, s22_11, s22_12] j26 0)) - 1)) s22_8), (cond (Nat.beq j27 4) (IntKind.u64.wrap (((List.getD [s22_5, s22_6, s22_7, s22_8, s22_9, s22_10, s22_11, s22_12] j26 0)) - 1)) s22_9), (cond (Nat.beq j27 5) (IntKind.u64.wrap (((List.getD [s22_5, s22_6, s22_7, s22_8, s22_9, s22_10, s22_11, s22_12] j26 0)) - 1)) s22_10), (cond (Nat.beq j27 6) (IntKind.u64.wrap (((List.getD [s22_5, s22_6, s22_7, s22_8, s22_9, s22_10, s22_11, s22_12] j26 0)) - 1)) s22_11), (cond (Nat.beq j27 7) (IntKind.u64.wrap (((List.getD [s22_5, s22_6, s22_7, s22_8, s22_9, s22_10, s22_11, s22_12] j26 0)) - 1)) s22_12)] j28 0))))
          (some (.inl ((x24.2.2.2.2.2, s22_1, s22_2, s22_3, s22_4, (cond (Nat.beq j27 0) (IntKind.u64.wrap (((List.getD [s22_5, s22_6, s22_7, s22_8, s22_9, s22_10, s22_11, s22_12] j26 0)) - 1)) s22_5), (cond (Nat.beq j27 1) (IntKind.u64.wrap (((List.getD [s22_5, s22_6, s22_7, s22_8, s22_9, s22_10, s22_11, s22_12] j26 0)) - 1)) s22_6), (cond (Nat.beq j27 2) (IntKind.u64.wrap (((List.getD [s22_5, s22_6, s22_7, s22_8, s22_9, s22_10, s22_11, s22_12] j26 0)) - 1)) s22_7), (cond (Nat.beq j27 3) (IntKind.u64.wrap (((List.getD [s22_5, s22_6, s22_7, s22_8, s22_9, s22_10, s22_11, s22_12] j26 0)) - 1)) s22_8), (cond (Nat.beq j27 4) (IntKind.u64.wrap (((List.getD [s22_5, s22_6, s22_7, s22_8, s22_9, s22_10, s22_11, s22_12] j26 0)) - 1)) s22_9), (cond (Nat.beq j27 5) (IntKind.u64.wrap (((List.getD [s22_5, s22_6, s22_7, s22_8, s22_9, s22_10, s22_11, s22_12] j26 0)) - 1)) s22_10), (cond (Nat.beq j27 6) (IntKind.u64.wrap (((List.getD [s22_5, s22_6, s22_7, s22_8, s22_9, s22_10, s22_11, s22_12] j26 0)) - 1)) s22_11), (cond (Nat.beq j27 7) (IntKind.u64.wrap (((List.getD [s22_5, s22_6, s22_7, s22_8, s22_9, s22_10, s22_11, s22_12] j26 0)) - 1)) s22_12)))))
          (some (.inl ((IntKind.i64.wrap (s22_0 + 1), s22_1, IntKind.i64.wrap (s22_2 - 1), s22_3, s22_4, (cond (Nat.beq j27 0) (IntKind.u64.wrap (((List.getD [s22_5, s22_6, s22_7, s22_8, s22_9, s22_10, s22_11, s22_12] j26 0)) - 1)) s22_5), (cond (Nat.beq j27 1) (IntKind.u64.wrap (((List.getD [s22_5, s22_6, s22_7, s22_8, s22_9, s22_10, s22_11, s22_12] j26 0)) - 1)) s22_6), (cond (Nat.beq j27 2) (IntKind.u64.wrap (((List.getD [s22_5, s22_6, s22_7, s22_8, s22_9, s22_10, s22_11, s22_12] j26 0)) - 1)) s22_7), (cond (Nat.beq j27 3) (IntKind.u64.wrap (((List.getD [s22_5, s22_6, s22_7, s22_8, s22_9, s22_10, s22_11, s22_12] j26 0)) - 1)) s22_8), (cond (Nat.beq j27 4) (IntKind.u64.wrap (((List.getD [s22_5, s22_6, s22_7, s22_8, s22_9, s22_10, s22_11, s22_12] j26 0)) - 1)) s22_9), (cond (Nat.beq j27 5) (IntKind.u64.wrap (((List.getD [s22_5, s22_6, s22_7, s22_8, s22_9, s22_10, s22_11, s22_12] j26 0)) - 1)) s22_10), (cond (Nat.beq j27 6) (IntKind.u64.wrap (((List.getD [s22_5, s22_6, s22_7, s22_8, s22_9, s22_10, s22_11, s22_12] j26 0)) - 1)) s22_11), (cond (Nat.beq j27 7) (IntKind.u64.wrap (((List.getD [s22_5, s22_6, s22_7, s22_8, s22_9, s22_10, s22_11, s22_12] j26 0)) - 1)) s22_12))))))
        ((ix x24.2.1 ((List.length s22_3))).bind fun j29 =>
        (s22_3[j29]?).bind fun x30 =>
        (ix s22_1 ((List.length s22_4))).bind fun j31 =>
        (s22_4[j31]?).bind fun x32 =>
        (ix x24.2.2.1 ((List.length s22_3))).bind fun j33 =>
        (s22_3[j33]?).bind fun x34 =>
        (ix x24.2.2.2.1 ((List.length s22_3))).bind fun j35 =>
        (s22_3[j35]?).bind fun x36 =>
        (D_opcode_Apply x24.1 x24.2.1 x24.2.2.1 x24.2.2.2.1 x24.2.2.2.2.1 x34 x36).bind fun r37 =>
        (ix x24.2.1 ((List.length s22_3))).bind fun j38 =>
        (s22_3[j38]?).bind fun x39 =>
        some (.inl ((IntKind.i64.wrap (s22_0 + 1), IntKind.i64.wrap (s22_1 + 1), s22_2, (List.set s22_3 j38 r37), (List.set s22_4 j31 x30), s22_5, s22_6, s22_7, s22_8, s22_9, s22_10, s22_11, s22_12))))))
/- backstitch/tape.exec -/
def D_tape_exec (a0 : List (Int × Int × Int × Int × Int × Int)) (a1 : List Int) (a2 : List Int) : Option (Int × (List Int) × List Int) :=
  (loopN (D_tape_exec_L0 a0) BIG ((0, 0, 0, a1, a2, 0, 0, 0, 0, 0, 0, 0, 0))).bind fun ⟨r40_0, r40_1, r40_2, r40_3, r40_4, r40_5, r40_6, r40_7, r40_8, r40_9, r40_10⟩ =>
  some ((r40_0, r40_1, r40_2))
/- backstitch/tape.Record -/
def D_tape_Record (a0 : Int) (a1 : List (Int × Int × Int × Int × Int)) (a2 : List Int) (a3 : List Int) : Option (Int × Int × (List Int) × List Int) :=
  (D_tape_ready a0 a1 a2 a3).bind fun r4 =>
  cond (decide (r4.1 ≠ 0))
    (some ((0, r4.1, a2, a3)))
    ((D_tape_exec r4.2 a2 a3).bind fun r5 =>
    some ((r5.1, 0, r5.2.1, r5.2.2)))
/- (*backstitch/drive.Driver).taped -/
def D_drive_Driver_taped (a0 : Int) (a1 : Int) (a2 : Int) (a3 : Int) (a4 : Int) (a5 : Int) (a6 : Int) (a7 : Int) (a8 : Int) (a9 : Int) (a10 : Int) (a11 : Int) (a12 : Int) (a13 : Int) (a14 : Int) (a15 : Int) (a16 : Int) (a17 : List Int) (a18 : List Int) (a19 : List (Int × Int × Int × Int × Int)) (a20 : List (Int × Int × Int × Int × Int)) (a21 : List Int) (a22 : Int) (a23 : Int) (a24 : Int) (a25 : Int) (a26 : List Int) : Option (Int × Int × Int × Int × Int × Int × Int × Int × Int × Int × Int × Int × Int × Int × Int × Int × Int × (List Int) × (List Int) × List Int) :=
  (D_plan_Of a4 a17 a18 a5 a19 a6 a20 a7 a8).bind fun r27 =>
  gd (Nat.beq 1 (Sh.w (.int .u64)) && decide (0 ≤ r27.1) && decide (r27.1 ≤ r27.1) && decide ((8 : Int) * r27.1 ≤ 140737488355328) && Nat.ble 1 8) ((D_drive_Driver_get 1 a0 a1 a2 a3 a4 a5 a6 a7 a8 a9 a10 a11 a12 a13 a14 a15 a16 a17 a18 a19 a20 a21 a22 a23 a24 a25 a26).bind fun r28 =>
  gd (Nat.beq 1 (Sh.w (.int .u64)) && decide (0 ≤ r27.1) && decide (r27.1 ≤ r27.1) && decide ((8 : Int) * r27.1 ≤ 140737488355328) && Nat.ble 1 8) ((D_drive_Driver_begin a5 a19 r28 ([IntKind.u64.wrap (a10)]) a0 a1 a2 a3 a4 a5 a6 a7 a8 a9 a10 a11 a12 a13 a14 a15 a16 a17 a18 a19 a20 a21 a22 a23 a24 a25 a26).bind fun r29 =>
  gd (Nat.beq 1 (Sh.w (.int .u64)) && decide (0 ≤ r27.1) && decide (r27.1 ≤ r27.1) && decide ((8 : Int) * r27.1 ≤ 140737488355328) && Nat.ble 1 8) ((D_tape_Record a5 a19 r29 ((List.replicate (Int.toNat r27.1) (0 : Int)))).bind fun r30 =>
  (D_drive_Driver_put 2 r30.2.2.1 a0 a1 a2 a3 a4 a5 a6 a7 a8 a9 a10 a11 a12 a13 a14 a15 a16 a17 a18 a19 a20 a21 a22 a23 a24 a25 a26).bind fun r31 =>
  some ((a0, a1, a2, a3, a4, a5, a6, a7, a8, a9, a10, a11, a12, IntKind.i64.wrap (a13 + 1), a14, a15, a16, r31, r30.2.2.1, r30.2.2.2)))))
/- (*backstitch/drive.Driver).shelf -/
def D_drive_Driver_shelf (a0 : Int) (a1 : Int) (a2 : Int) (a3 : Int) (a4 : Int) (a5 : Int) (a6 : Int) (a7 : Int) (a8 : Int) (a9 : Int) (a10 : Int) (a11 : Int) (a12 : Int) (a13 : Int) (a14 : Int) (a15 : Int) (a16 : Int) (a17 : Int) (a18 : List Int) (a19 : List Int) (a20 : List (Int × Int × Int × Int × Int)) (a21 : List (Int × Int × Int × Int × Int)) (a22 : List Int) (a23 : Int) (a24 : Int) (a25 : Int) (a26 : Int) (a27 : List Int) : Option (Int) :=
  (ix 8 ((List.length a22))).bind fun j28 =>
  (a22[j28]?).bind fun x29 =>
  some (IntKind.i64.wrap (x29 + (IntKind.i64.wrap (a0 * a3))))
/- backstitch/drive.wide -/
def D_drive_wide (a0 : Int) (a1 : List (Int × Int × Int × Int × Int)) (a2 : List Int) : Option (List Int) :=
  (D_slices_Clone_uint64_uint64 a2).bind fun r3 =>
  gd (zeroFits 8 (IntKind.i64.wrap (a0 - ((((List.length a2) : Nat) : Int))))) (gd (fits (List.length r3 + List.length ((List.replicate (Int.toNat (IntKind.i64.wrap (a0 - ((((List.length a2) : Nat) : Int))))) (0 : Int)))) 8) (some ((r3 ++ (List.replicate (Int.toNat (IntKind.i64.wrap (a0 - ((((List.length a2) : Nat) : Int))))) (0 : Int))))))
/- backstitch/opcode.Partials -/
def D_opcode_Partials (a0 : Int) (a1 : Int) (a2 : Int) (a3 : Int) (a4 : Int) (a5 : Int) (a6 : Int) : Option (Int × Int) :=
  cond (decide (a0 = 1))
    (some ((1, 1)))
    (cond (decide (a0 = 2))
      (some ((1, 18446744073709551615)))
      (cond (decide (a0 = 3))
        (some ((a6, a5)))
        (cond (decide (a0 = 4))
          (some ((18446744073709551615, 0)))
          (cond (decide (a0 = 6))
            (some ((1, 0)))
            (some ((0, 0)))))))
/- (backstitch/sweep.state).take -/
def D_sweep_state_take (a0 : Int) (a1 : Int) (a2 : Int) (a3 : Int) (a4 : Int) (a5 : Int) (a6 : List Int) (a7 : List Int) (a8 : List Int) : Option ((List Int) × List Int) :=
  (ix a1 ((List.length a7))).bind fun j9 =>
  (a7[j9]?).bind fun x10 =>
  (ix a1 ((List.length a7))).bind fun j11 =>
  (a7[j11]?).bind fun x12 =>
  (ix a5 ((List.length a8))).bind fun j13 =>
  (a8[j13]?).bind fun x14 =>
  (ix a1 ((List.length a6))).bind fun j15 =>
  (a6[j15]?).bind fun x16 =>
  (ix a2 ((List.length ((List.set a6 j15 x14))))).bind fun j17 =>
  (((List.set a6 j15 x14))[j17]?).bind fun x18 =>
  (ix a3 ((List.length ((List.set a6 j15 x14))))).bind fun j19 =>
  (((List.set a6 j15 x14))[j19]?).bind fun x20 =>
  (D_opcode_Partials a0 a1 a2 a3 a4 x18 x20).bind fun r21 =>
  (ix a2 ((List.length ((List.set a7 j11 0))))).bind fun j22 =>
  (((List.set a7 j11 0))[j22]?).bind fun x23 =>
  (ix a2 ((List.length ((List.set a7 j11 0))))).bind fun j24 =>
  (((List.set a7 j11 0))[j24]?).bind fun x25 =>
  (ix a3 ((List.length ((List.set ((List.set a7 j11 0)) j24 (IntKind.u64.wrap (x23 + (IntKind.u64.wrap (r21.1 * x10))))))))).bind fun j26 =>
  (((List.set ((List.set a7 j11 0)) j24 (IntKind.u64.wrap (x23 + (IntKind.u64.wrap (r21.1 * x10))))))[j26]?).bind fun x27 =>
  (ix a3 ((List.length ((List.set ((List.set a7 j11 0)) j24 (IntKind.u64.wrap (x23 + (IntKind.u64.wrap (r21.1 * x10))))))))).bind fun j28 =>
  (((List.set ((List.set a7 j11 0)) j24 (IntKind.u64.wrap (x23 + (IntKind.u64.wrap (r21.1 * x10))))))[j28]?).bind fun x29 =>
  some (((List.set a6 j15 x14), (List.set ((List.set ((List.set a7 j11 0)) j24 (IntKind.u64.wrap (x23 + (IntKind.u64.wrap (r21.1 * x10)))))) j28 (IntKind.u64.wrap (x27 + (IntKind.u64.wrap (r21.2 * x10)))))))
def D_sweep_state_back_L0 (a3 : List Int) (a4 : List (Int × Int × Int × Int × Int × Int)) : (Int × Int × Int × (List Int) × (List Int) × Int × Int × Int × Int × Int × Int × Int × Int) → Option ((Int × Int × Int × (List Int) × (List Int) × Int × Int × Int × Int × Int × Int × Int × Int) ⊕ ((List Int) × (List Int) × Int × Int × Int × Int × Int × Int × Int × Int)) := fun ⟨s26_0, s26_1, s26_2, s26_3, s26_4, s26_5, s26_6, s26_7, s26_8, s26_9, s26_10, s26_11, s26_12⟩ =>
  cond (decide (s26_0 < 0))
    (some (.inr (((s26_3, s26_4, s26_5, s26_6, s26_7, s26_8, s26_9, s26_10, s26_11, s26_12)))))
    ((ix s26_0 ((List.length a4))).bind fun j27 =>
    (a4[j27]?).bind fun x28 =>
    cond (decide (x28.1 = 0))
      ((ix (IntKind.i64.wrap (x28.2.2.2.2.2 - 1)) ((List.length a4))).bind fun j29 =>
      (a4[j29]?).bind fun x30 =>
      (ix s26_1 8).bind fun j31 =>
      some (.inl ((IntKind.i64.wrap (s26_0 - 1), IntKind.i64.wrap (s26_1 + 1), s26_2, s26_3, s26_4, (cond (Nat.beq j31 0) x30.2.2.2.2.1 s26_5), (cond (Nat.beq j31 1) x30.2.2.2.2.1 s26_6), (cond (Nat.beq j31 2) x30.2.2.2.2.1 s26_7), (cond (Nat.beq j31 3) x30.2.2.2.2.1 s26_8), (cond (Nat.beq j31 4) x30.2.2.2.2.1 s26_9), (cond (Nat.beq j31 5) x30.2.2.2.2.1 s26_10), (cond (Nat.beq j31 6) x30.2.2.2.2.1 s26_11), (cond (Nat.beq j31 7) x30.2.2.2.2.1 s26_12)))))
      (cond (decide (x28.1 = 7))
        ((ix (IntKind.i64.wrap (s26_1 - 1)) 8).bind fun j32 =>
        (ix (IntKind.i64.wrap (s26_1 - 1)) 8).bind fun j33 =>
        (ix (IntKind.i64.wrap (s26_1 - 1)) 8).bind fun j34 =>
        cond (decide (0 < ((List.getD [(cond (Nat.beq j33 0) (IntKind.u64.wrap (((List.getD [s26_5, s26_6, s26_7, s26_8, s26_9, s26_10, s26_11, s26_12] j32 0)) - 1)) s26_5), (cond (Nat.beq j33 1) (IntKind.u64.wrap (((List.getD [s26_5, s26_6, s26_7, s26_8, s26_9, s26_10, s26_11, s26_12] j32 0)) - 1)) s26_6), (cond (Nat.beq j33 2) (IntKind.u64.wrap (((List.getD [s26_5, s26_6, s26_7, s26_8, s26_9, s26_10, s26_11, s26_12] j32 0)) - 1)) s26_7), (cond (Nat.beq j33 3) (IntKind.u64.wrap (((List.getD [s26_5, s26_6, s26_7, s26_8, s26_9, s26_10, s26_11, s26_12] j32 0)) - 1)) s26_8), (cond (Nat.beq j33 4) (IntKind.u64.wrap (((List.getD [s26_5, s26_6, s26_7, s26_8, s26_9, s26_10, s26_11, s26_12] j32 0)) - 1)) s26_9), (cond (Nat.beq j33 5) (IntKind.u64.wrap (((List.getD [s26_5, s26_6, s26_7, s26_8, s26_9, s26_10, s26_11, s26_12] j32 0)) - 1)) s26_10), (cond (Nat.beq j33 6) (IntKind.u64.wrap (((List.getD [s26_5, s26_6, s26_7, s26_8, s26_9, s26_10, s26_11, s26_12] j32 0)) - 1)) s26_11), (cond (Nat.beq j33 7) (IntKind.u64.wrap (((List.getD [s26_5, s26_6, s26_7, s26_8, s26_9, s26_10, s26_11, s26_12] j32 0)) - 1)) s26_12)] j34 0))))
          (some (.inl ((IntKind.i64.wrap (x28.2.2.2.2.2 - 2), s26_1, s26_2, s26_3, s26_4, (cond (Nat.beq j33 0) (IntKind.u64.wrap (((List.getD [s26_5, s26_6, s26_7, s26_8, s26_9, s26_10, s26_11, s26_12] j32 0)) - 1)) s26_5), (cond (Nat.beq j33 1) (IntKind.u64.wrap (((List.getD [s26_5, s26_6, s26_7, s26_8, s26_9, s26_10, s26_11, s26_12] j32 0)) - 1)) s26_6), (cond (Nat.beq j33 2) (IntKind.u64.wrap (((List.getD [s26_5, s26_6, s26_7, s26_8, s26_9, s26_10, s26_11, s26_12] j32 0)) - 1)) s26_7), (cond (Nat.beq j33 3) (IntKind.u64.wrap (((List.getD [s26_5, s26_6, s26_7, s26_8, s26_9, s26_10, s26_11, s26_12] j32 0)) - 1)) s26_8), (cond (Nat.beq j33 4) (IntKind.u64.wrap (((List.getD [s26_5, s26_6, s26_7, s26_8, s26_9, s26_10, s26_11, s26_12] j32 0)) - 1)) s26_9), (cond (Nat.beq j33 5) (IntKind.u64.wrap (((List.getD [s26_5, s26_6, s26_7, s26_8, s26_9, s26_10, s26_11, s26_12] j32 0)) - 1)) s26_10), (cond (Nat.beq j33 6) (IntKind.u64.wrap (((List.getD [s26_5, s26_6, s26_7, s26_8, s26_9, s26_10, s26_11, s26_12] j32 0)) - 1)) s26_11), (cond (Nat.beq j33 7) (IntKind.u64.wrap (((List.getD [s26_5, s26_6, s26_7, s26_8, s26_9, s26_10, s26_11, s26_12] j32 0)) - 1)) s26_12)))))
          (some (.inl ((IntKind.i64.wrap (s26_0 - 1), IntKind.i64.wrap (s26_1 - 1), s26_2, s26_3, s26_4, (cond (Nat.beq j33 0) (IntKind.u64.wrap (((List.getD [s26_5, s26_6, s26_7, s26_8, s26_9, s26_10, s26_11, s26_12] j32 0)) - 1)) s26_5), (cond (Nat.beq j33 1) (IntKind.u64.wrap (((List.getD [s26_5, s26_6, s26_7, s26_8, s26_9, s26_10, s26_11, s26_12] j32 0)) - 1)) s26_6), (cond (Nat.beq j33 2) (IntKind.u64.wrap (((List.getD [s26_5, s26_6, s26_7, s26_8, s26_9, s26_10, s26_11, s26_12] j32 0)) - 1)) s26_7), (cond (Nat.beq j33 3) (IntKind.u64.wrap (((List.getD [s26_5, s26_6, s26_7, s26_8, s26_9, s26_10, s26_11, s26_12] j32 0)) - 1)) s26_8), (cond (Nat.beq j33 4) (IntKind.u64.wrap (((List.getD [s26_5, s26_6, s26_7, s26_8, s26_9, s26_10, s26_11, s26_12] j32 0)) - 1)) s26_9), (cond (Nat.beq j33 5) (IntKind.u64.wrap (((List.getD [s26_5, s26_6, s26_7, s26_8, s26_9, s26_10, s26_11, s26_12] j32 0)) - 1)) s26_10), (cond (Nat.beq j33 6) (IntKind.u64.wrap (((List.getD [s26_5, s26_6, s26_7, s26_8, s26_9, s26_10, s26_11, s26_12] j32 0)) - 1)) s26_11), (cond (Nat.beq j33 7) (IntKind.u64.wrap (((List.getD [s26_5, s26_6, s26_7, s26_8, s26_9, s26_10, s26_11, s26_12] j32 0)) - 1)) s26_12))))))
        ((D_sweep_state_take x28.1 x28.2.1 x28.2.2.1 x28.2.2.2.1 x28.2.2.2.2.1 (IntKind.i64.wrap (s26_2 - 1)) s26_3 s26_4 a3).bind fun r35 =>
        some (.inl ((IntKind.i64.wrap (s26_0 - 1), s26_1, IntKind.i64.wrap (s26_2 - 1), r35.1, r35.2, s26_5, s26_6, s26_7, s26_8, s26_9, s26_10, s26_11, s26_12))))))
/- (backstitch/sweep.state).back -/
def D_sweep_state_back (a0 : Int) (a1 : List Int) (a2 : List Int) (a3 : List Int) (a4 : List (Int × Int × Int × Int × Int × Int)) : Option ((List Int) × List Int) :=
  (loopN (D_sweep_state_back_L0 a3 a4) BIG ((IntKind.i64.wrap (((((List.length a4) : Nat) : Int)) - 1), 0, a0, a1, a2, 0, 0, 0, 0, 0, 0, 0, 0))).bind fun ⟨r36_0, r36_1, r36_2, r36_3, r36_4, r36_5, r36_6, r36_7, r36_8, r36_9⟩ =>
  some ((r36_0, r36_1))
/- backstitch/sweep.Back -/
def D_sweep_Back (a0 : Int) (a1 : List (Int × Int × Int × Int × Int)) (a2 : List Int) (a3 : List Int) (a4 : List Int) : Option (Int × (List Int) × List Int) :=
  (D_flat_Code a0 a1).bind fun r5 =>
  cond (decide (r5.1 ≠ 0))
    (some ((r5.1, a2, a3)))
    ((D_size_Writes a1).bind fun r6 =>
    cond (decide (((((List.length a2) : Nat) : Int)) ≠ a0))
      (some ((10, a2, a3)))
      (cond (decide (((((List.length a3) : Nat) : Int)) ≠ a0))
        (some ((10, a2, a3)))
        (cond (decide (((((List.length a4) : Nat) : Int)) < r6.1))
          (some ((15, a2, a3)))
          ((D_sweep_state_back r6.1 a2 a3 a4 r5.2).bind fun r7 =>
          some ((0, r7.1, r7.2))))))
def D_drive_Driver_back_L0 (a22 : List Int) (r31 : Int × (List Int) × List Int) (r34 : List Int) (s37 : Int × List Int) : Option ((Int × List Int) ⊕ (List Int)) :=
  cond (decide (s37.1 < ((((List.length r34) : Nat) : Int))))
    ((ix s37.1 ((List.length s37.2))).bind fun j38 =>
    (s37.2[j38]?).bind fun x39 =>
    (ix (IntKind.i64.wrap (((((List.length a22) : Nat) : Int)) + s37.1)) ((List.length r31.2.2))).bind fun j40 =>
    (r31.2.2[j40]?).bind fun x41 =>
    (ix s37.1 ((List.length s37.2))).bind fun j42 =>
    (s37.2[j42]?).bind fun x43 =>
    some (.inl ((IntKind.i64.wrap (s37.1 + 1), (List.set s37.2 j42 (IntKind.u64.wrap (x39 + x41)))))))
    (some (.inr s37.2))
/- (*backstitch/drive.Driver).back -/
def D_drive_Driver_back (a0 : Int) (a1 : Int) (a2 : Int) (a3 : Int) (a4 : Int) (a5 : Int) (a6 : Int) (a7 : Int) (a8 : Int) (a9 : Int) (a10 : Int) (a11 : Int) (a12 : Int) (a13 : Int) (a14 : Int) (a15 : Int) (a16 : Int) (a17 : Int) (a18 : List (Int × Int × Int × Int × Int)) (a19 : List Int) (a20 : List Int) (a21 : List Int) (a22 : List Int) (a23 : List Int) (a24 : List (Int × Int × Int × Int × Int)) (a25 : List Int) (a26 : Int) (a27 : Int) (a28 : Int) (a29 : Int) (a30 : List Int) : Option (Int × Int × Int × Int × Int × Int × Int × Int × Int × Int × Int × Int × Int × Int × Int × Int × Int × (List Int) × (List Int) × List Int) :=
  (D_sweep_Back a0 a18 a19 a20 a21).bind fun r31 =>
  (D_drive_Driver_put 4 r31.2.2 a1 a2 a3 a4 a5 a6 a7 a8 a9 a10 a11 a12 a13 a14 a15 a16 a17 a22 a23 a24 a18 a25 a26 a27 a28 a29 a30).bind fun r32 =>
  gd (cutG 0 ((((List.length a22) : Nat) : Int)) ((List.length r31.2.2))) ((D_drive_Driver_put 5 ((List.take (((Int.toNat ((((List.length a22) : Nat) : Int))) - 0)) (List.drop 0 r31.2.2))) a1 a2 a3 a4 a5 a6 a7 a8 a9 a10 a11 a12 a13 a14 a15 a16 a17 a22 a23 a24 a18 a25 a26 a27 a28 a29 r32).bind fun r33 =>
  (D_drive_Driver_get 6 a1 a2 a3 a4 a5 a6 a7 a8 a9 a10 a11 a12 a13 a14 a15 a16 a17 a22 a23 a24 a18 a25 a26 a27 a28 a29 r33).bind fun r34 =>
  (loopN (D_drive_Driver_back_L0 a22 r31 r34) BIG ((0, r34))).bind fun r44 =>
  (D_drive_Driver_put 6 r44 a1 a2 a3 a4 a5 a6 a7 a8 a9 a10 a11 a12 a13 a14 a15 a16 a17 a22 a23 a24 a18 a25 a26 a27 a28 a29 r33).bind fun r45 =>
  some ((a1, a2, a3, a4, a5, a6, a7, a8, a9, a10, a11, a12, a13, a14, a15, IntKind.i64.wrap (a16 + 1), a17, r31.2.1, r31.2.2, r45)))
/- (*backstitch/drive.Driver).end -/
def D_drive_Driver_end (a0 : List Int) (a1 : Int) (a2 : Int) (a3 : Int) (a4 : Int) (a5 : Int) (a6 : Int) (a7 : Int) (a8 : Int) (a9 : Int) (a10 : Int) (a11 : Int) (a12 : Int) (a13 : Int) (a14 : Int) (a15 : Int) (a16 : Int) (a17 : Int) (a18 : List Int) (a19 : List Int) (a20 : List (Int × Int × Int × Int × Int)) (a21 : List (Int × Int × Int × Int × Int)) (a22 : List Int) (a23 : Int) (a24 : Int) (a25 : Int) (a26 : Int) (a27 : List Int) : Option (Int × Int × Int × Int × Int × Int × Int × Int × Int × Int × Int × Int × Int × Int × Int × Int × Int × List Int) :=
  (D_plan_Of a5 a18 a19 a6 a20 a7 a21 a8 a9).bind fun r28 =>
  gd (Nat.beq 1 (Sh.w (.int .u64)) && decide (0 ≤ r28.2) && decide (r28.2 ≤ r28.2) && decide ((8 : Int) * r28.2 ≤ 140737488355328) && Nat.ble 1 8) ((D_drive_Driver_begin a7 a21 a0 [] a1 a2 a3 a4 a5 a6 a7 a8 a9 a10 a11 a12 a13 a14 a15 a16 a17 a18 a19 a20 a21 a22 a23 a24 a25 a26 a27).bind fun r29 =>
  gd (Nat.beq 1 (Sh.w (.int .u64)) && decide (0 ≤ r28.2) && decide (r28.2 ≤ r28.2) && decide ((8 : Int) * r28.2 ≤ 140737488355328) && Nat.ble 1 8) ((D_tape_Record a7 a21 r29 ((List.replicate (Int.toNat r28.2) (0 : Int)))).bind fun r30 =>
  (ix 0 ((List.length r30.2.2.1))).bind fun j31 =>
  (r30.2.2.1[j31]?).bind fun x32 =>
  (D_drive_Driver_put 3 r30.2.2.1 a1 a2 a3 a4 a5 a6 a7 a8 a9 a10 a11 a12 a13 a14 (IntKind.i64.wrap (a15 + 1)) a16 x32 a18 a19 a20 a21 a22 a23 a24 a25 a26 a27).bind fun r33 =>
  (D_drive_wide a7 a21 [1]).bind fun r34 =>
  (D_drive_Driver_back a7 a1 a2 a3 a4 a5 a6 a7 a8 a9 a10 a11 a12 a13 a14 (IntKind.i64.wrap (a15 + 1)) a16 x32 a21 r30.2.2.1 r34 r30.2.2.2 a18 a19 a20 a22 a23 a24 a25 a26 r33).bind fun ⟨r35_0, r35_1, r35_2, r35_3, r35_4, r35_5, r35_6, r35_7, r35_8, r35_9, r35_10, r35_11, r35_12, r35_13, r35_14, r35_15, r35_16, r35_17, r35_18, r35_19⟩ =>
  some ((r35_0, r35_1, r35_2, r35_3, r35_4, r35_5, r35_6, r35_7, r35_8, r35_9, r35_10, r35_11, r35_12, r35_13, r35_14, r35_15, r35_16, r35_19))))
/- (*backstitch/meter.Meter).Drop -/
def D_meter_Meter_Drop (a0 : Int) (a1 : Int) (a2 : Int) (a3 : Int) : Option (Int × Int × Int × Int) :=
  cond (decide (a0 < 0))
    (some ((2, a1, a2, a3)))
    (cond (decide (a1 < a0))
      (some ((2, a1, a2, a3)))
      ((D_meter_counter_add (IntKind.i64.wrap (0 - a0)) a1 a2 a3).bind fun r4 =>
      some ((0, r4.1, r4.2.1, r4.2.2))))
/- (*backstitch/drive.Driver).seed -/
def D_drive_Driver_seed (a0 : Int) (a1 : Int) (a2 : Int) (a3 : Int) (a4 : Int) (a5 : Int) (a6 : Int) (a7 : Int) (a8 : Int) (a9 : Int) (a10 : Int) (a11 : Int) (a12 : Int) (a13 : Int) (a14 : Int) (a15 : Int) (a16 : Int) (a17 : Int) (a18 : List Int) (a19 : List Int) (a20 : List (Int × Int × Int × Int × Int)) (a21 : List (Int × Int × Int × Int × Int)) (a22 : List Int) (a23 : Int) (a24 : Int) (a25 : Int) (a26 : Int) (a27 : List Int) : Option (Int × Int × Int × Int × Int × Int × Int × Int × Int × Int × Int × Int × Int × Int × Int × Int × Int × Int × Int × Int × List Int) :=
  (D_plan_Of a5 a18 a19 a6 a20 a7 a21 a8 a9).bind fun r28 =>
  (D_meter_Meter_Hold r28.2 a24 a25 a26).bind fun r29 =>
  (D_drive_Driver_get 1 a1 a2 a3 a4 a5 a6 a7 a8 a9 a10 a11 a12 a13 a14 a15 a16 a17 a18 a19 a20 a21 a22 a23 r29.2.1 r29.2.2.1 r29.2.2.2 a27).bind fun r30 =>
  (D_drive_Driver_end r30 a1 a2 a3 a4 a5 a6 a7 a8 a9 a10 a11 a12 a13 a14 a15 a16 a17 a18 a19 a20 a21 a22 a23 r29.2.1 r29.2.2.1 r29.2.2.2 a27).bind fun ⟨r31_0, r31_1, r31_2, r31_3, r31_4, r31_5, r31_6, r31_7, r31_8, r31_9, r31_10, r31_11, r31_12, r31_13, r31_14, r31_15, r31_16, r31_17⟩ =>
  (D_meter_Meter_Drop r28.2 r29.2.1 r29.2.2.1 r29.2.2.2).bind fun r32 =>
  some ((r31_0, r31_1, r31_2, r31_3, r31_4, r31_5, r31_6, r31_7, r31_8, r31_9, r31_10, r31_11, r31_12, r31_13, r31_14, r31_15, r31_16, r32.2.1, r32.2.2.1, r32.2.2.2, r31_17))
def D_drive_Driver_plain_L0 (a19 : List Int) (r44 : List Int) (r48 : List Int) (s51 : Int × List Int) : Option ((Int × List Int) ⊕ (List Int)) :=
  cond (decide (s51.1 < ((((List.length r48) : Nat) : Int))))
    ((ix s51.1 ((List.length s51.2))).bind fun j52 =>
    (s51.2[j52]?).bind fun x53 =>
    (ix (IntKind.i64.wrap (((((List.length a19) : Nat) : Int)) + s51.1)) ((List.length r44))).bind fun j54 =>
    (r44[j54]?).bind fun x55 =>
    (ix s51.1 ((List.length s51.2))).bind fun j56 =>
    (s51.2[j56]?).bind fun x57 =>
    some (.inl ((IntKind.i64.wrap (s51.1 + 1), (List.set s51.2 j56 (IntKind.u64.wrap (x53 + x55)))))))
    (some (.inr s51.2))
def D_drive_Driver_plain_L1 (a19 : List Int) (r44 : List Int) (r65 : List Int) (s68 : Int × List Int) : Option ((Int × List Int) ⊕ (List Int)) :=
  cond (decide (s68.1 < ((((List.length r65) : Nat) : Int))))
    ((ix s68.1 ((List.length s68.2))).bind fun j69 =>
    (s68.2[j69]?).bind fun x70 =>
    (ix (IntKind.i64.wrap (((((List.length a19) : Nat) : Int)) + s68.1)) ((List.length r44))).bind fun j71 =>
    (r44[j71]?).bind fun x72 =>
    (ix s68.1 ((List.length s68.2))).bind fun j73 =>
    (s68.2[j73]?).bind fun x74 =>
    some (.inl ((IntKind.i64.wrap (s68.1 + 1), (List.set s68.2 j73 (IntKind.u64.wrap (x70 + x72)))))))
    (some (.inr s68.2))
def D_drive_Driver_plain_L2 (a19 : List Int) (r44 : List Int) (r81 : List Int) (s84 : Int × List Int) : Option ((Int × List Int) ⊕ (List Int)) :=
  cond (decide (s84.1 < ((((List.length r81) : Nat) : Int))))
    ((ix s84.1 ((List.length s84.2))).bind fun j85 =>
    (s84.2[j85]?).bind fun x86 =>
    (ix (IntKind.i64.wrap (((((List.length a19) : Nat) : Int)) + s84.1)) ((List.length r44))).bind fun j87 =>
    (r44[j87]?).bind fun x88 =>
    (ix s84.1 ((List.length s84.2))).bind fun j89 =>
    (s84.2[j89]?).bind fun x90 =>
    some (.inl ((IntKind.i64.wrap (s84.1 + 1), (List.set s84.2 j89 (IntKind.u64.wrap (x86 + x88)))))))
    (some (.inr s84.2))
def D_drive_Driver_plain_L3 (a19 : List Int) (r44 : List Int) (r97 : List Int) (s100 : Int × List Int) : Option ((Int × List Int) ⊕ (List Int)) :=
  cond (decide (s100.1 < ((((List.length r97) : Nat) : Int))))
    ((ix s100.1 ((List.length s100.2))).bind fun j101 =>
    (s100.2[j101]?).bind fun x102 =>
    (ix (IntKind.i64.wrap (((((List.length a19) : Nat) : Int)) + s100.1)) ((List.length r44))).bind fun j103 =>
    (r44[j103]?).bind fun x104 =>
    (ix s100.1 ((List.length s100.2))).bind fun j105 =>
    (s100.2[j105]?).bind fun x106 =>
    some (.inl ((IntKind.i64.wrap (s100.1 + 1), (List.set s100.2 j105 (IntKind.u64.wrap (x102 + x104)))))))
    (some (.inr s100.2))
def D_drive_Driver_plain_L4 (a7 : Int) (r42 : Int × List Int) (r45 : Int × List (Int × Int × Int × Int × Int × Int)) : (Int × Int × Int × (List Int) × (List Int) × Int × Int × Int × Int × Int × Int × Int × Int) → Option ((Int × Int × Int × (List Int) × (List Int) × Int × Int × Int × Int × Int × Int × Int × Int) ⊕ ((List Int) × (List Int) × Int × Int × Int × Int × Int × Int × Int × Int)) := fun ⟨s132_0, s132_1, s132_2, s132_3, s132_4, s132_5, s132_6, s132_7, s132_8, s132_9, s132_10, s132_11, s132_12⟩ =>
  cond (decide (s132_0 < 0))
    (some (.inr (((s132_3, s132_4, s132_5, s132_6, s132_7, s132_8, s132_9, s132_10, s132_11, s132_12)))))
    ((ix s132_0 ((List.length r45.2))).bind fun j133 =>
    (r45.2[j133]?).bind fun x134 =>
    cond (decide (x134.1 = 0))
      ((ix (IntKind.i64.wrap (x134.2.2.2.2.2 - 1)) ((List.length r45.2))).bind fun j135 =>
      (r45.2[j135]?).bind fun x136 =>
      (ix s132_1 8).bind fun j137 =>
      some (.inl ((IntKind.i64.wrap (s132_0 - 1), IntKind.i64.wrap (s132_1 + 1), s132_2, s132_3, s132_4, (cond (Nat.beq j137 0) x136.2.2.2.2.1 s132_5), (cond (Nat.beq j137 1) x136.2.2.2.2.1 s132_6), (cond (Nat.beq j137 2) x136.2.2.2.2.1 s132_7), (cond (Nat.beq j137 3) x136.2.2.2.2.1 s132_8), (cond (Nat.beq j137 4) x136.2.2.2.2.1 s132_9), (cond (Nat.beq j137 5) x136.2.2.2.2.1 s132_10), (cond (Nat.beq j137 6) x136.2.2.2.2.1 s132_11), (cond (Nat.beq j137 7) x136.2.2.2.2.1 s132_12)))))
      (cond (decide (x134.1 = 7))
        ((ix (IntKind.i64.wrap (s132_1 - 1)) 8).bind fun j138 =>
        (ix (IntKind.i64.wrap (s132_1 - 1)) 8).bind fun j139 =>
        (ix (IntKind.i64.wrap (s132_1 - 1)) 8).bind fun j140 =>
        cond (decide (0 < ((List.getD [(cond (Nat.beq j139 0) (IntKind.u64.wrap (((List.getD [s132_5, s132_6, s132_7, s132_8, s132_9, s132_10, s132_11, s132_12] j138 0)) - 1)) s132_5), (cond (Nat.beq j139 1) (IntKind.u64.wrap (((List.getD [s132_5, s132_6, s132_7, s132_8, s132_9, s132_10, s132_11, s132_12] j138 0)) - 1)) s132_6), (cond (Nat.beq j139 2) (IntKind.u64.wrap (((List.getD [s132_5, s132_6, s132_7, s132_8, s132_9, s132_10, s132_11, s132_12] j138 0)) - 1)) s132_7), (cond (Nat.beq j139 3) (IntKind.u64.wrap (((List.getD [s132_5, s132_6, s132_7, s132_8, s132_9, s132_10, s132_11, s132_12] j138 0)) - 1)) s132_8), (cond (Nat.beq j139 4) (IntKind.u64.wrap (((List.getD [s132_5, s132_6, s132_7, s132_8, s132_9, s132_10, s132_11, s132_12] j138 0)) - 1)) s132_9), (cond (Nat.beq j139 5) (IntKind.u64.wrap (((List.getD [s132_5, s132_6, s132_7, s132_8, s132_9, s132_10, s132_11, s132_12] j138 0)) - 1)) s132_10), (cond (Nat.beq j139 6) (IntKind.u64.wrap (((List.getD [s132_5, s132_6, s132_7, s132_8, s132_9, s132_10, s132_11, s132_12] j138 0)) - 1)) s132_11), (cond (Nat.beq j139 7) (IntKind.u64.wrap (((List.getD [s132_5, s132_6, s132_7, s132_8, s132_9, s132_10, s132_11, s132_12] j138 0)) - 1)) s132_12)] j140 0))))
          (some (.inl ((IntKind.i64.wrap (x134.2.2.2.2.2 - 2), s132_1, s132_2, s132_3, s132_4, (cond (Nat.beq j139 0) (IntKind.u64.wrap (((List.getD [s132_5, s132_6, s132_7, s132_8, s132_9, s132_10, s132_11, s132_12] j138 0)) - 1)) s132_5), (cond (Nat.beq j139 1) (IntKind.u64.wrap (((List.getD [s132_5, s132_6, s132_7, s132_8, s132_9, s132_10, s132_11, s132_12] j138 0)) - 1)) s132_6), (cond (Nat.beq j139 2) (IntKind.u64.wrap (((List.getD [s132_5, s132_6, s132_7, s132_8, s132_9, s132_10, s132_11, s132_12] j138 0)) - 1)) s132_7), (cond (Nat.beq j139 3) (IntKind.u64.wrap (((List.getD [s132_5, s132_6, s132_7, s132_8, s132_9, s132_10, s132_11, s132_12] j138 0)) - 1)) s132_8), (cond (Nat.beq j139 4) (IntKind.u64.wrap (((List.getD [s132_5, s132_6, s132_7, s132_8, s132_9, s132_10, s132_11, s132_12] j138 0)) - 1)) s132_9), (cond (Nat.beq j139 5) (IntKind.u64.wrap (((List.getD [s132_5, s132_6, s132_7, s132_8, s132_9, s132_10, s132_11, s132_12] j138 0)) - 1)) s132_10), (cond (Nat.beq j139 6) (IntKind.u64.wrap (((List.getD [s132_5, s132_6, s132_7, s132_8, s132_9, s132_10, s132_11, s132_12] j138 0)) - 1)) s132_11), (cond (Nat.beq j139 7) (IntKind.u64.wrap (((List.getD [s132_5, s132_6, s132_7, s132_8, s132_9, s132_10, s132_11, s132_12] j138 0)) - 1)) s132_12)))))
          (some (.inl ((IntKind.i64.wrap (s132_0 - 1), IntKind.i64.wrap (s132_1 - 1), s132_2, s132_3, s132_4, (cond (Nat.beq j139 0) (IntKind.u64.wrap (((List.getD [s132_5, s132_6, s132_7, s132_8, s132_9, s132_10, s132_11, s132_12] j138 0)) - 1)) s132_5), (cond (Nat.beq j139 1) (IntKind.u64.wrap (((List.getD [s132_5, s132_6, s132_7, s132_8, s132_9, s132_10, s132_11, s132_12] j138 0)) - 1)) s132_6), (cond (Nat.beq j139 2) (IntKind.u64.wrap (((List.getD [s132_5, s132_6, s132_7, s132_8, s132_9, s132_10, s132_11, s132_12] j138 0)) - 1)) s132_7), (cond (Nat.beq j139 3) (IntKind.u64.wrap (((List.getD [s132_5, s132_6, s132_7, s132_8, s132_9, s132_10, s132_11, s132_12] j138 0)) - 1)) s132_8), (cond (Nat.beq j139 4) (IntKind.u64.wrap (((List.getD [s132_5, s132_6, s132_7, s132_8, s132_9, s132_10, s132_11, s132_12] j138 0)) - 1)) s132_9), (cond (Nat.beq j139 5) (IntKind.u64.wrap (((List.getD [s132_5, s132_6, s132_7, s132_8, s132_9, s132_10, s132_11, s132_12] j138 0)) - 1)) s132_10), (cond (Nat.beq j139 6) (IntKind.u64.wrap (((List.getD [s132_5, s132_6, s132_7, s132_8, s132_9, s132_10, s132_11, s132_12] j138 0)) - 1)) s132_11), (cond (Nat.beq j139 7) (IntKind.u64.wrap (((List.getD [s132_5, s132_6, s132_7, s132_8, s132_9, s132_10, s132_11, s132_12] j138 0)) - 1)) s132_12))))))
        ((ix x134.2.1 ((List.length s132_4))).bind fun j141 =>
        (s132_4[j141]?).bind fun x142 =>
        (ix x134.2.1 ((List.length s132_4))).bind fun j143 =>
        (s132_4[j143]?).bind fun x144 =>
        (ix (IntKind.i64.wrap (s132_2 - 1)) (((Int.toNat (IntKind.i64.wrap (((((List.length r42.2) : Nat) : Int)) - a7))) - 0))).bind fun j145 =>
        (s132_3[(0 + j145)]?).bind fun x146 =>
        (ix x134.2.1 (((Int.toNat ((((List.length r42.2) : Nat) : Int))) - (Int.toNat (IntKind.i64.wrap (((((List.length r42.2) : Nat) : Int)) - a7)))))).bind fun j147 =>
        (s132_3[((Int.toNat (IntKind.i64.wrap (((((List.length r42.2) : Nat) : Int)) - a7))) + j147)]?).bind fun x148 =>
        (ix x134.2.2.1 (((Int.toNat ((((List.length r42.2) : Nat) : Int))) - (Int.toNat (IntKind.i64.wrap (((((List.length r42.2) : Nat) : Int)) - a7)))))).bind fun j149 =>
        (((List.set s132_3 ((Int.toNat (IntKind.i64.wrap (((((List.length r42.2) : Nat) : Int)) - a7))) + j147) x146))[((Int.toNat (IntKind.i64.wrap (((((List.length r42.2) : Nat) : Int)) - a7))) + j149)]?).bind fun x150 =>
        (ix x134.2.2.2.1 (((Int.toNat ((((List.length r42.2) : Nat) : Int))) - (Int.toNat (IntKind.i64.wrap (((((List.length r42.2) : Nat) : Int)) - a7)))))).bind fun j151 =>
        (((List.set s132_3 ((Int.toNat (IntKind.i64.wrap (((((List.length r42.2) : Nat) : Int)) - a7))) + j147) x146))[((Int.toNat (IntKind.i64.wrap (((((List.length r42.2) : Nat) : Int)) - a7))) + j151)]?).bind fun x152 =>
        (D_opcode_Partials x134.1 x134.2.1 x134.2.2.1 x134.2.2.2.1 x134.2.2.2.2.1 x150 x152).bind fun r153 =>
        (ix x134.2.2.1 ((List.length ((List.set s132_4 j143 0))))).bind fun j154 =>
        (((List.set s132_4 j143 0))[j154]?).bind fun x155 =>
        (ix x134.2.2.1 ((List.length ((List.set s132_4 j143 0))))).bind fun j156 =>
        (((List.set s132_4 j143 0))[j156]?).bind fun x157 =>
        (ix x134.2.2.2.1 ((List.length ((List.set ((List.set s132_4 j143 0)) j156 (IntKind.u64.wrap (x155 + (IntKind.u64.wrap (r153.1 * x142))))))))).bind fun j158 =>
        (((List.set ((List.set s132_4 j143 0)) j156 (IntKind.u64.wrap (x155 + (IntKind.u64.wrap (r153.1 * x142))))))[j158]?).bind fun x159 =>
        (ix x134.2.2.2.1 ((List.length ((List.set ((List.set s132_4 j143 0)) j156 (IntKind.u64.wrap (x155 + (IntKind.u64.wrap (r153.1 * x142))))))))).bind fun j160 =>
        (((List.set ((List.set s132_4 j143 0)) j156 (IntKind.u64.wrap (x155 + (IntKind.u64.wrap (r153.1 * x142))))))[j160]?).bind fun x161 =>
        some (.inl ((IntKind.i64.wrap (s132_0 - 1), s132_1, IntKind.i64.wrap (s132_2 - 1), (List.set s132_3 ((Int.toNat (IntKind.i64.wrap (((((List.length r42.2) : Nat) : Int)) - a7))) + j147) x146), (List.set ((List.set ((List.set s132_4 j143 0)) j156 (IntKind.u64.wrap (x155 + (IntKind.u64.wrap (r153.1 * x142)))))) j160 (IntKind.u64.wrap (x159 + (IntKind.u64.wrap (r153.2 * x142))))), s132_5, s132_6, s132_7, s132_8, s132_9, s132_10, s132_11, s132_12))))))
def D_drive_Driver_plain_L5 (a19 : List Int) (r162_1 : List Int) (r165 : List Int) (s168 : Int × List Int) : Option ((Int × List Int) ⊕ (List Int)) :=
  cond (decide (s168.1 < ((((List.length r165) : Nat) : Int))))
    ((ix s168.1 ((List.length s168.2))).bind fun j169 =>
    (s168.2[j169]?).bind fun x170 =>
    (ix (IntKind.i64.wrap (((((List.length a19) : Nat) : Int)) + s168.1)) ((List.length r162_1))).bind fun j171 =>
    (r162_1[j171]?).bind fun x172 =>
    (ix s168.1 ((List.length s168.2))).bind fun j173 =>
    (s168.2[j173]?).bind fun x174 =>
    some (.inl ((IntKind.i64.wrap (s168.1 + 1), (List.set s168.2 j173 (IntKind.u64.wrap (x170 + x172)))))))
    (some (.inr s168.2))
/- (*backstitch/drive.Driver).plain -/
def D_drive_Driver_plain (a0 : Int) (a1 : Int) (a2 : Int) (a3 : Int) (a4 : Int) (a5 : Int) (a6 : Int) (a7 : Int) (a8 : Int) (a9 : Int) (a10 : Int) (a11 : Int) (a12 : Int) (a13 : Int) (a14 : Int) (a15 : Int) (a16 : Int) (a17 : Int) (a18 : Int) (a19 : List Int) (a20 : List Int) (a21 : List (Int × Int × Int × Int × Int)) (a22 : List (Int × Int × Int × Int × Int)) (a23 : List Int) (a24 : Int) (a25 : Int) (a26 : Int) (a27 : Int) (a28 : List Int) : Option (Int × Int × Int × Int × Int × Int × Int × Int × Int × Int × Int × Int × Int × Int × Int × Int × Int × Int × Int × Int × Int × List Int) :=
  (((cond (decide (a0 = 8))
    (some true)
    (some (decide (a0 = 5)))) : Option (Bool))).bind fun s29 =>
  ((((((cond (decide (a1 ≠ 0))
    (some true)
    (cond (!s29)
      (some (decide (a0 ≠ 9)))
      (some false))) : Option (Bool))).bind fun s30 =>
  cond (s30)
    (some ((.inl 2)))
    ((((cond (s29)
      (cond (decide (0 ≤ a13))
        (some true)
        (cond (!s29)
          (some (decide (a13 < 1)))
          (some false)))
      (cond (!s29)
        (some (decide (a13 < 1)))
        (some false))) : Option (Bool))).bind fun s31 =>
    cond (s31)
      (some ((.inl 18)))
      (cond (s29)
        (cond (!((decide (a0 = 5)) == (decide (a12 = a11))))
          (some ((.inl 17)))
          (some ((.inr ()))))
        (some ((.inr ())))))) : Option ((Int) ⊕ (Unit)))).bind fun s32 =>
  caseS s32 (fun u33 =>
    some ((u33, a2, a3, a4, a5, a6, a7, a8, a9, a10, a11, a12, a13, a14, a15, a16, a17, a18, a25, a26, a27, a28)))
    (fun w34 =>
    cond (decide (a0 = 8))
      ((D_meter_Meter_Hold a4 a25 a26 a27).bind fun r35 =>
      (D_drive_Driver_taped a2 a3 a4 a5 a6 a7 a8 a9 a10 a11 a12 a13 a14 a15 a16 a17 a18 a19 a20 a21 a22 a23 a24 r35.2.1 r35.2.2.1 r35.2.2.2 a28).bind fun ⟨r36_0, r36_1, r36_2, r36_3, r36_4, r36_5, r36_6, r36_7, r36_8, r36_9, r36_10, r36_11, r36_12, r36_13, r36_14, r36_15, r36_16, r36_17, r36_18, r36_19⟩ =>
      (D_drive_Driver_shelf r36_10 r36_0 r36_1 r36_2 r36_3 r36_4 r36_5 r36_6 r36_7 r36_8 r36_9 r36_10 r36_11 r36_12 r36_13 r36_14 r36_15 r36_16 a19 a20 a21 a22 a23 a24 r35.2.1 r35.2.2.1 r35.2.2.2 r36_17).bind fun r37 =>
      gd (fits (List.length r36_19 + List.length r36_18) 8) ((D_arena_Arena_Write r37 ((r36_19 ++ r36_18)) a24 r36_17).bind fun r38 =>
      gd (cutG 0 ((((List.length a19) : Nat) : Int)) ((List.length r36_18))) ((D_drive_Driver_put 1 ((List.take (((Int.toNat ((((List.length a19) : Nat) : Int))) - 0)) (List.drop 0 r36_18))) r36_0 r36_1 r36_2 r36_3 r36_4 r36_5 r36_6 r36_7 r36_8 r36_9 r36_10 r36_11 r36_12 r36_13 r36_14 r36_15 r36_16 a19 a20 a21 a22 a23 a24 r35.2.1 r35.2.2.1 r35.2.2.2 r38.2).bind fun r39 =>
      some ((0, r36_0, r36_1, r36_2, r36_3, r36_4, r36_5, r36_6, r36_7, r36_8, r36_9, IntKind.i64.wrap (r36_10 + 1), r36_11, r36_12, r36_13, r36_14, r36_15, r36_16, r35.2.1, r35.2.2.1, r35.2.2.2, r39)))))
      (cond (decide (a0 = 5))
        ((D_drive_Driver_seed 0 a2 a3 a4 a5 a6 a7 a8 a9 a10 a11 a12 a13 a14 a15 a16 a17 a18 a19 a20 a21 a22 a23 a24 a25 a26 a27 a28).bind fun ⟨r40_0, r40_1, r40_2, r40_3, r40_4, r40_5, r40_6, r40_7, r40_8, r40_9, r40_10, r40_11, r40_12, r40_13, r40_14, r40_15, r40_16, r40_17, r40_18, r40_19, r40_20⟩ =>
        some ((0, r40_0, r40_1, r40_2, r40_3, r40_4, r40_5, r40_6, r40_7, r40_8, r40_9, r40_10, r40_9, r40_12, r40_13, r40_14, r40_15, r40_16, r40_17, r40_18, r40_19, r40_20)))
        ((D_drive_Driver_shelf (IntKind.i64.wrap (a13 - 1)) a2 a3 a4 a5 a6 a7 a8 a9 a10 a11 (IntKind.i64.wrap (a13 - 1)) (IntKind.i64.wrap (a13 - 1)) a14 a15 a16 a17 a18 a19 a20 a21 a22 a23 a24 a25 a26 a27 a28).bind fun r41 =>
        (D_arena_Arena_Read r41 a4 a24 a28).bind fun r42 =>
        gd (cutG (IntKind.i64.wrap (((((List.length r42.2) : Nat) : Int)) - a7)) ((((List.length r42.2) : Nat) : Int)) ((List.length r42.2))) (gd (cutG 0 (IntKind.i64.wrap (((((List.length r42.2) : Nat) : Int)) - a7)) ((List.length r42.2))) ((D_drive_Driver_get 5 a2 a3 a4 a5 a6 a7 a8 a9 a10 a11 (IntKind.i64.wrap (a13 - 1)) (IntKind.i64.wrap (a13 - 1)) a14 a15 a16 a17 a18 a19 a20 a21 a22 a23 a24 a25 a26 a27 a28).bind fun r43 =>
        (D_drive_wide a7 a21 r43).bind fun r44 =>
        (D_flat_Code a7 a21).bind fun r45 =>
        cond (decide (r45.1 ≠ 0))
          ((D_drive_Driver_put 4 r44 a2 a3 a4 a5 a6 a7 a8 a9 a10 a11 (IntKind.i64.wrap (a13 - 1)) (IntKind.i64.wrap (a13 - 1)) a14 a15 a16 a17 a18 a19 a20 a21 a22 a23 a24 a25 a26 a27 a28).bind fun r46 =>
          gd (cutG 0 ((((List.length a19) : Nat) : Int)) ((List.length r44))) ((D_drive_Driver_put 5 ((List.take (((Int.toNat ((((List.length a19) : Nat) : Int))) - 0)) (List.drop 0 r44))) a2 a3 a4 a5 a6 a7 a8 a9 a10 a11 (IntKind.i64.wrap (a13 - 1)) (IntKind.i64.wrap (a13 - 1)) a14 a15 a16 a17 a18 a19 a20 a21 a22 a23 a24 a25 a26 a27 r46).bind fun r47 =>
          (D_drive_Driver_get 6 a2 a3 a4 a5 a6 a7 a8 a9 a10 a11 (IntKind.i64.wrap (a13 - 1)) (IntKind.i64.wrap (a13 - 1)) a14 a15 a16 a17 a18 a19 a20 a21 a22 a23 a24 a25 a26 a27 r47).bind fun r48 =>
          (loopN (D_drive_Driver_plain_L0 a19 r44 r48) BIG ((0, r48))).bind fun r58 =>
          (D_drive_Driver_put 6 r58 a2 a3 a4 a5 a6 a7 a8 a9 a10 a11 (IntKind.i64.wrap (a13 - 1)) (IntKind.i64.wrap (a13 - 1)) a14 a15 a16 a17 a18 a19 a20 a21 a22 a23 a24 a25 a26 a27 r47).bind fun r59 =>
          gd (cutG (IntKind.i64.wrap (((((List.length r42.2) : Nat) : Int)) - a7)) (IntKind.i64.wrap ((IntKind.i64.wrap (((((List.length r42.2) : Nat) : Int)) - a7)) + ((((List.length a19) : Nat) : Int)))) ((List.length r42.2))) ((D_drive_Driver_put 1 ((List.take (((Int.toNat (IntKind.i64.wrap ((IntKind.i64.wrap (((((List.length r42.2) : Nat) : Int)) - a7)) + ((((List.length a19) : Nat) : Int))))) - (Int.toNat (IntKind.i64.wrap (((((List.length r42.2) : Nat) : Int)) - a7))))) (List.drop ((Int.toNat (IntKind.i64.wrap (((((List.length r42.2) : Nat) : Int)) - a7)))) r42.2))) a2 a3 a4 a5 a6 a7 a8 a9 a10 a11 (IntKind.i64.wrap (a13 - 1)) (IntKind.i64.wrap (a13 - 1)) a14 a15 a16 (IntKind.i64.wrap (a17 + 1)) a18 a19 a20 a21 a22 a23 a24 a25 a26 a27 r59).bind fun r60 =>
          (D_meter_Meter_Drop a4 a25 a26 a27).bind fun r61 =>
          some ((0, a2, a3, a4, a5, a6, a7, a8, a9, a10, a11, IntKind.i64.wrap (a13 - 1), IntKind.i64.wrap (a13 - 1), a14, a15, a16, IntKind.i64.wrap (a17 + 1), a18, r61.2.1, r61.2.2.1, r61.2.2.2, r60)))))
          ((D_size_Writes a21).bind fun r62 =>
          cond (decide ((((((Int.toNat ((((List.length r42.2) : Nat) : Int))) - (Int.toNat (IntKind.i64.wrap (((((List.length r42.2) : Nat) : Int)) - a7)))) : Nat) : Int)) ≠ a7))
            ((D_drive_Driver_put 4 r44 a2 a3 a4 a5 a6 a7 a8 a9 a10 a11 (IntKind.i64.wrap (a13 - 1)) (IntKind.i64.wrap (a13 - 1)) a14 a15 a16 a17 a18 a19 a20 a21 a22 a23 a24 a25 a26 a27 a28).bind fun r63 =>
            gd (cutG 0 ((((List.length a19) : Nat) : Int)) ((List.length r44))) ((D_drive_Driver_put 5 ((List.take (((Int.toNat ((((List.length a19) : Nat) : Int))) - 0)) (List.drop 0 r44))) a2 a3 a4 a5 a6 a7 a8 a9 a10 a11 (IntKind.i64.wrap (a13 - 1)) (IntKind.i64.wrap (a13 - 1)) a14 a15 a16 a17 a18 a19 a20 a21 a22 a23 a24 a25 a26 a27 r63).bind fun r64 =>
            (D_drive_Driver_get 6 a2 a3 a4 a5 a6 a7 a8 a9 a10 a11 (IntKind.i64.wrap (a13 - 1)) (IntKind.i64.wrap (a13 - 1)) a14 a15 a16 a17 a18 a19 a20 a21 a22 a23 a24 a25 a26 a27 r64).bind fun r65 =>
            (loopN (D_drive_Driver_plain_L1 a19 r44 r65) BIG ((0, r65))).bind fun r75 =>
            (D_drive_Driver_put 6 r75 a2 a3 a4 a5 a6 a7 a8 a9 a10 a11 (IntKind.i64.wrap (a13 - 1)) (IntKind.i64.wrap (a13 - 1)) a14 a15 a16 a17 a18 a19 a20 a21 a22 a23 a24 a25 a26 a27 r64).bind fun r76 =>
            gd (cutG (IntKind.i64.wrap (((((List.length r42.2) : Nat) : Int)) - a7)) (IntKind.i64.wrap ((IntKind.i64.wrap (((((List.length r42.2) : Nat) : Int)) - a7)) + ((((List.length a19) : Nat) : Int)))) ((List.length r42.2))) ((D_drive_Driver_put 1 ((List.take (((Int.toNat (IntKind.i64.wrap ((IntKind.i64.wrap (((((List.length r42.2) : Nat) : Int)) - a7)) + ((((List.length a19) : Nat) : Int))))) - (Int.toNat (IntKind.i64.wrap (((((List.length r42.2) : Nat) : Int)) - a7))))) (List.drop ((Int.toNat (IntKind.i64.wrap (((((List.length r42.2) : Nat) : Int)) - a7)))) r42.2))) a2 a3 a4 a5 a6 a7 a8 a9 a10 a11 (IntKind.i64.wrap (a13 - 1)) (IntKind.i64.wrap (a13 - 1)) a14 a15 a16 (IntKind.i64.wrap (a17 + 1)) a18 a19 a20 a21 a22 a23 a24 a25 a26 a27 r76).bind fun r77 =>
            (D_meter_Meter_Drop a4 a25 a26 a27).bind fun r78 =>
            some ((0, a2, a3, a4, a5, a6, a7, a8, a9, a10, a11, IntKind.i64.wrap (a13 - 1), IntKind.i64.wrap (a13 - 1), a14, a15, a16, IntKind.i64.wrap (a17 + 1), a18, r78.2.1, r78.2.2.1, r78.2.2.2, r77)))))
            (cond (decide (((((List.length r44) : Nat) : Int)) ≠ a7))
              ((D_drive_Driver_put 4 r44 a2 a3 a4 a5 a6 a7 a8 a9 a10 a11 (IntKind.i64.wrap (a13 - 1)) (IntKind.i64.wrap (a13 - 1)) a14 a15 a16 a17 a18 a19 a20 a21 a22 a23 a24 a25 a26 a27 a28).bind fun r79 =>
              gd (cutG 0 ((((List.length a19) : Nat) : Int)) ((List.length r44))) ((D_drive_Driver_put 5 ((List.take (((Int.toNat ((((List.length a19) : Nat) : Int))) - 0)) (List.drop 0 r44))) a2 a3 a4 a5 a6 a7 a8 a9 a10 a11 (IntKind.i64.wrap (a13 - 1)) (IntKind.i64.wrap (a13 - 1)) a14 a15 a16 a17 a18 a19 a20 a21 a22 a23 a24 a25 a26 a27 r79).bind fun r80 =>
              (D_drive_Driver_get 6 a2 a3 a4 a5 a6 a7 a8 a9 a10 a11 (IntKind.i64.wrap (a13 - 1)) (IntKind.i64.wrap (a13 - 1)) a14 a15 a16 a17 a18 a19 a20 a21 a22 a23 a24 a25 a26 a27 r80).bind fun r81 =>
              (loopN (D_drive_Driver_plain_L2 a19 r44 r81) BIG ((0, r81))).bind fun r91 =>
              (D_drive_Driver_put 6 r91 a2 a3 a4 a5 a6 a7 a8 a9 a10 a11 (IntKind.i64.wrap (a13 - 1)) (IntKind.i64.wrap (a13 - 1)) a14 a15 a16 a17 a18 a19 a20 a21 a22 a23 a24 a25 a26 a27 r80).bind fun r92 =>
              gd (cutG (IntKind.i64.wrap (((((List.length r42.2) : Nat) : Int)) - a7)) (IntKind.i64.wrap ((IntKind.i64.wrap (((((List.length r42.2) : Nat) : Int)) - a7)) + ((((List.length a19) : Nat) : Int)))) ((List.length r42.2))) ((D_drive_Driver_put 1 ((List.take (((Int.toNat (IntKind.i64.wrap ((IntKind.i64.wrap (((((List.length r42.2) : Nat) : Int)) - a7)) + ((((List.length a19) : Nat) : Int))))) - (Int.toNat (IntKind.i64.wrap (((((List.length r42.2) : Nat) : Int)) - a7))))) (List.drop ((Int.toNat (IntKind.i64.wrap (((((List.length r42.2) : Nat) : Int)) - a7)))) r42.2))) a2 a3 a4 a5 a6 a7 a8 a9 a10 a11 (IntKind.i64.wrap (a13 - 1)) (IntKind.i64.wrap (a13 - 1)) a14 a15 a16 (IntKind.i64.wrap (a17 + 1)) a18 a19 a20 a21 a22 a23 a24 a25 a26 a27 r92).bind fun r93 =>
              (D_meter_Meter_Drop a4 a25 a26 a27).bind fun r94 =>
              some ((0, a2, a3, a4, a5, a6, a7, a8, a9, a10, a11, IntKind.i64.wrap (a13 - 1), IntKind.i64.wrap (a13 - 1), a14, a15, a16, IntKind.i64.wrap (a17 + 1), a18, r94.2.1, r94.2.2.1, r94.2.2.2, r93)))))
              (cond (decide ((((((Int.toNat (IntKind.i64.wrap (((((List.length r42.2) : Nat) : Int)) - a7))) - 0) : Nat) : Int)) < r62.1))
                ((D_drive_Driver_put 4 r44 a2 a3 a4 a5 a6 a7 a8 a9 a10 a11 (IntKind.i64.wrap (a13 - 1)) (IntKind.i64.wrap (a13 - 1)) a14 a15 a16 a17 a18 a19 a20 a21 a22 a23 a24 a25 a26 a27 a28).bind fun r95 =>
                gd (cutG 0 ((((List.length a19) : Nat) : Int)) ((List.length r44))) ((D_drive_Driver_put 5 ((List.take (((Int.toNat ((((List.length a19) : Nat) : Int))) - 0)) (List.drop 0 r44))) a2 a3 a4 a5 a6 a7 a8 a9 a10 a11 (IntKind.i64.wrap (a13 - 1)) (IntKind.i64.wrap (a13 - 1)) a14 a15 a16 a17 a18 a19 a20 a21 a22 a23 a24 a25 a26 a27 r95).bind fun r96 =>
                (D_drive_Driver_get 6 a2 a3 a4 a5 a6 a7 a8 a9 a10 a11 (IntKind.i64.wrap (a13 - 1)) (IntKind.i64.wrap (a13 - 1)) a14 a15 a16 a17 a18 a19 a20 a21 a22 a23 a24 a25 a26 a27 r96).bind fun r97 =>
                (loopN (D_drive_Driver_plain_L3 a19 r44 r97) BIG ((0, r97))).bind fun r107 =>
                (D_drive_Driver_put 6 r107 a2 a3 a4 a5 a6 a7 a8 a9 a10 a11 (IntKind.i64.wrap (a13 - 1)) (IntKind.i64.wrap (a13 - 1)) a14 a15 a16 a17 a18 a19 a20 a21 a22 a23 a24 a25 a26 a27 r96).bind fun r108 =>
                gd (cutG (IntKind.i64.wrap (((((List.length r42.2) : Nat) : Int)) - a7)) (IntKind.i64.wrap ((IntKind.i64.wrap (((((List.length r42.2) : Nat) : Int)) - a7)) + ((((List.length a19) : Nat) : Int)))) ((List.length r42.2))) ((D_drive_Driver_put 1 ((List.take (((Int.toNat (IntKind.i64.wrap ((IntKind.i64.wrap (((((List.length r42.2) : Nat) : Int)) - a7)) + ((((List.length a19) : Nat) : Int))))) - (Int.toNat (IntKind.i64.wrap (((((List.length r42.2) : Nat) : Int)) - a7))))) (List.drop ((Int.toNat (IntKind.i64.wrap (((((List.length r42.2) : Nat) : Int)) - a7)))) r42.2))) a2 a3 a4 a5 a6 a7 a8 a9 a10 a11 (IntKind.i64.wrap (a13 - 1)) (IntKind.i64.wrap (a13 - 1)) a14 a15 a16 (IntKind.i64.wrap (a17 + 1)) a18 a19 a20 a21 a22 a23 a24 a25 a26 a27 r108).bind fun r109 =>
                (D_meter_Meter_Drop a4 a25 a26 a27).bind fun r110 =>
                some ((0, a2, a3, a4, a5, a6, a7, a8, a9, a10, a11, IntKind.i64.wrap (a13 - 1), IntKind.i64.wrap (a13 - 1), a14, a15, a16, IntKind.i64.wrap (a17 + 1), a18, r110.2.1, r110.2.2.1, r110.2.2.2, r109)))))
                ((loopN (D_drive_Driver_plain_L4 a7 r42 r45) BIG ((IntKind.i64.wrap (((((List.length r45.2) : Nat) : Int)) - 1), 0, r62.1, r42.2, r44, 0, 0, 0, 0, 0, 0, 0, 0))).bind fun ⟨r162_0, r162_1, r162_2, r162_3, r162_4, r162_5, r162_6, r162_7, r162_8, r162_9⟩ =>
                (D_drive_Driver_put 4 r162_1 a2 a3 a4 a5 a6 a7 a8 a9 a10 a11 (IntKind.i64.wrap (a13 - 1)) (IntKind.i64.wrap (a13 - 1)) a14 a15 a16 a17 a18 a19 a20 a21 a22 a23 a24 a25 a26 a27 a28).bind fun r163 =>
                gd (cutG 0 ((((List.length a19) : Nat) : Int)) ((List.length r162_1))) ((D_drive_Driver_put 5 ((List.take (((Int.toNat ((((List.length a19) : Nat) : Int))) - 0)) (List.drop 0 r162_1))) a2 a3 a4 a5 a6 a7 a8 a9 a10 a11 (IntKind.i64.wrap (a13 - 1)) (IntKind.i64.wrap (a13 - 1)) a14 a15 a16 a17 a18 a19 a20 a21 a22 a23 a24 a25 a26 a27 r163).bind fun r164 =>
                (D_drive_Driver_get 6 a2 a3 a4 a5 a6 a7 a8 a9 a10 a11 (IntKind.i64.wrap (a13 - 1)) (IntKind.i64.wrap (a13 - 1)) a14 a15 a16 a17 a18 a19 a20 a21 a22 a23 a24 a25 a26 a27 r164).bind fun r165 =>
                (loopN (D_drive_Driver_plain_L5 a19 r162_1 r165) BIG ((0, r165))).bind fun r175 =>
                (D_drive_Driver_put 6 r175 a2 a3 a4 a5 a6 a7 a8 a9 a10 a11 (IntKind.i64.wrap (a13 - 1)) (IntKind.i64.wrap (a13 - 1)) a14 a15 a16 a17 a18 a19 a20 a21 a22 a23 a24 a25 a26 a27 r164).bind fun r176 =>
                gd (cutG (IntKind.i64.wrap (((((List.length r42.2) : Nat) : Int)) - a7)) (IntKind.i64.wrap ((IntKind.i64.wrap (((((List.length r42.2) : Nat) : Int)) - a7)) + ((((List.length a19) : Nat) : Int)))) ((List.length r162_0))) ((D_drive_Driver_put 1 ((List.take (((Int.toNat (IntKind.i64.wrap ((IntKind.i64.wrap (((((List.length r42.2) : Nat) : Int)) - a7)) + ((((List.length a19) : Nat) : Int))))) - (Int.toNat (IntKind.i64.wrap (((((List.length r42.2) : Nat) : Int)) - a7))))) (List.drop ((Int.toNat (IntKind.i64.wrap (((((List.length r42.2) : Nat) : Int)) - a7)))) r162_0))) a2 a3 a4 a5 a6 a7 a8 a9 a10 a11 (IntKind.i64.wrap (a13 - 1)) (IntKind.i64.wrap (a13 - 1)) a14 a15 a16 (IntKind.i64.wrap (a17 + 1)) a18 a19 a20 a21 a22 a23 a24 a25 a26 a27 r176).bind fun r177 =>
                (D_meter_Meter_Drop a4 a25 a26 a27).bind fun r178 =>
                some ((0, a2, a3, a4, a5, a6, a7, a8, a9, a10, a11, IntKind.i64.wrap (a13 - 1), IntKind.i64.wrap (a13 - 1), a14, a15, a16, IntKind.i64.wrap (a17 + 1), a18, r178.2.1, r178.2.2.1, r178.2.2.2, r177)))))))))))))
/- (*backstitch/slots.Slots).Tags -/
def D_slots_Slots_Tags  : Option (Unit) :=
  some ()
/- (*backstitch/drive.Driver).Spot -/
def D_drive_Driver_Spot_2 (a0 : Int) (a1 : Int) (a2 : Int) (a3 : Int) (a4 : Int) (a5 : Int) (a6 : Int) (a7 : Int) (a8 : Int) (a9 : Int) (a10 : Int) (a11 : Int) (a12 : Int) (a13 : Int) (a14 : Int) (a15 : Int) (a16 : Int) (a17 : List Int) (a18 : List Int) (a19 : List (Int × Int × Int × Int × Int)) (a20 : List (Int × Int × Int × Int × Int)) (a21 : List Int) (a22 : Int) (a23 : Int) (a24 : Int) (a25 : Int) (a26 : List Int) : Option (Int × Int) :=
  (D_slots_Slots_Tags).bind fun r27 =>
  some ((a10, a11))
/- backstitch/machine.long -/
def D_machine_long (a0 : Int) : Option (Bool) :=
  cond (decide (0 ≤ a0))
    (some (decide (a0 < 65536)))
    (some false)
/- backstitch/machine.At$1 -/
def D_machine_At_1 (a0 : Int) (a1 : Int) : Option (Bool) :=
  cond (decide (a0 < (-1)))
    (some true)
    (some (decide (a1 < a0)))
def D_slices_IndexFunc_int_int_2_L0 (a0 : List Int) (a1 : Int) (s3 : Int) : Option ((Int) ⊕ ((Int) ⊕ (Unit))) :=
  cond (decide (s3 < ((((List.length a0) : Nat) : Int))))
    ((rd a0 s3).bind fun x4 =>
    (D_machine_At_1 x4 a1).bind fun r5 =>
    cond (r5)
      (some (.inr (((.inl s3)))))
      (some (.inl (IntKind.i64.wrap (s3 + 1)))))
    (some (.inr (((.inr ())))))
/- slices.IndexFunc[[]int,int] -/
def D_slices_IndexFunc_int_int_2 (a0 : List Int) (a1 : Int) : Option (Int) :=
  (loopN (D_slices_IndexFunc_int_int_2_L0 a0 a1) BIG 0).bind fun r6 =>
  caseS r6 (fun u7 =>
    some u7)
    (fun w8 =>
    some (-1))
/- slices.ContainsFunc[[]int,int] -/
def D_slices_ContainsFunc_int_int_2 (a0 : List Int) (a1 : Int) : Option (Bool) :=
  (D_slices_IndexFunc_int_int_2 a0 a1).bind fun r2 =>
  some (decide (0 ≤ r2))
/- slices.Clone[[]int,int] -/
def D_slices_Clone_int_int (l : List Int) : Option (List Int) := gd (fits (0 + l.length) 8) (some l)
/- backstitch/machine.At -/
def D_machine_At (a0 : Int) (a1 : Int) (a2 : Int) (a3 : List Int) : Option ((Unit) ⊕ (Int × Int × Int × List Int)) :=
  (D_machine_long a0).bind fun r4 =>
  cond (!r4)
    (some ((.inl ())))
    (cond (decide (1048576 < ((((List.length a3) : Nat) : Int))))
      (some ((.inl ())))
      (cond (decide (a1 = (-1)))
        (some ((.inl ())))
        ((D_machine_At_1 a1 a0).bind fun r5 =>
        cond (r5)
          (some ((.inl ())))
          ((D_machine_At_1 a2 a0).bind fun r6 =>
          cond (r6)
            (some ((.inl ())))
            ((D_slices_ContainsFunc_int_int_2 a3 a0).bind fun r7 =>
            cond (r7)
              (some ((.inl ())))
              ((D_slices_Clone_int_int a3).bind fun r8 =>
              some ((.inr ((a1, a2, a0, r8))))))))))
/- backstitch/action.numbered -/
def D_action_numbered (a0 : Int) : Option (Bool) :=
  cond (decide (1 ≤ a0))
    (some (decide (a0 ≤ 4)))
    (some false)
/- backstitch/action.Right -/
def D_action_Right (a0 : Int) (a1 : Int) : Option (Bool) :=
  (((cond (decide (a0 < 1))
    (some true)
    (some (decide (9 < a0)))) : Option (Bool))).bind fun s2 =>
  cond (s2)
    (some false)
    (cond (decide (a0 = 1))
      (cond (decide (1 ≤ a1))
        (some (decide (a1 < 65536)))
        (some false))
      ((D_action_numbered a0).bind fun r3 =>
      cond (r3)
        (cond (decide (0 ≤ a1))
          (some (decide (a1 < 1048576)))
          (some false))
        (some (decide (a1 = 0)))))
/- (*backstitch/machine.Machine).moves -/
def D_machine_Machine_moves (a0 : Int) (a1 : Int) (a2 : Int) (a3 : Int) (a4 : List Int) : Option (Unit) :=
  some ()
/- (*backstitch/machine.Machine).advance -/
def D_machine_Machine_advance (a0 : Int) (a1 : Int) (a2 : Int) (a3 : Int) (a4 : Int) (a5 : List Int) : Option (Int × Int × Int × Int × Int) :=
  cond (decide ((IntKind.i64.wrap (a3 - a1)) < a0))
    (some ((17, a1, a2, a3, a4)))
    (some ((0, IntKind.i64.wrap (a1 + a0), a2, a3, IntKind.i64.wrap (a4 + a0))))
/- (*backstitch/machine.Machine).store -/
def D_machine_Machine_store (a0 : Int) (a1 : Int) (a2 : Int) (a3 : Int) (a4 : Int) (a5 : List Int) : Option (Int × List Int) :=
  (ix a0 ((List.length a5))).bind fun j6 =>
  (a5[j6]?).bind fun x7 =>
  cond (decide (0 ≤ x7))
    (some ((15, a5)))
    ((ix a0 ((List.length a5))).bind fun j8 =>
    (a5[j8]?).bind fun x9 =>
    some ((0, (List.set a5 j8 a1))))
/- (*backstitch/machine.Machine).restore -/
def D_machine_Machine_restore (a0 : Int) (a1 : Int) (a2 : Int) (a3 : Int) (a4 : Int) (a5 : List Int) : Option (Int × Int × Int × Int × Int) :=
  (ix a0 ((List.length a5))).bind fun j6 =>
  (a5[j6]?).bind fun x7 =>
  cond (decide (x7 < 0))
    (some ((16, a1, a2, a3, a4)))
    ((ix a0 ((List.length a5))).bind fun j8 =>
    (a5[j8]?).bind fun x9 =>
    some ((0, x9, a2, a3, a4)))
/- (*backstitch/machine.Machine).free -/
def D_machine_Machine_free (a0 : Int) (a1 : Int) (a2 : Int) (a3 : Int) (a4 : Int) (a5 : List Int) : Option (Int × List Int) :=
  (ix a0 ((List.length a5))).bind fun j6 =>
  (a5[j6]?).bind fun x7 =>
  cond (decide (x7 < 0))
    (some ((16, a5)))
    ((ix a0 ((List.length a5))).bind fun j8 =>
    (a5[j8]?).bind fun x9 =>
    some ((0, (List.set a5 j8 (-1)))))
/- (*backstitch/machine.Machine).begin -/
def D_machine_Machine_begin (a0 : Int) (a1 : Int) (a2 : Int) (a3 : Int) (a4 : Int) (a5 : List Int) : Option (Int × Int × Int × Int × Int) :=
  cond (decide (a2 ≠ (-1)))
    (some ((18, a1, a2, a3, a4)))
    (cond (!((decide (a1 = (IntKind.i64.wrap (a3 - a0))) && decide (a2 = (-1)))))
      (some ((17, a1, a2, a3, a4)))
      (some ((0, a1, a1, a3, a4))))
/- (*backstitch/machine.Machine).seed -/
def D_machine_Machine_seed (a0 : Int) (a1 : Int) (a2 : Int) (a3 : Int) (a4 : Int) (a5 : List Int) : Option (Int × Int × Int × Int × Int) :=
  (D_machine_Machine_begin 0 a1 a2 a3 a4 a5).bind fun r6 =>
  some ((r6.1, r6.2.1, r6.2.2.1, r6.2.2.2.1, r6.2.2.2.2))
/- (*backstitch/machine.Machine).both -/
def D_machine_Machine_both (a0 : Int) (a1 : Int) (a2 : Int) (a3 : Int) (a4 : Int) (a5 : List Int) : Option (Int × Int × Int × Int × Int) :=
  (D_machine_Machine_begin 1 a1 a2 a3 a4 a5).bind fun r6 =>
  some ((r6.1, r6.2.1, r6.2.2.1, r6.2.2.2.1, r6.2.2.2.2))
/- (*backstitch/machine.Machine).reverse -/
def D_machine_Machine_reverse (a0 : Int) (a1 : Int) (a2 : Int) (a3 : Int) (a4 : Int) (a5 : List Int) : Option (Int × Int × Int × Int × Int) :=
  cond (decide (a2 ≤ 0))
    (some ((18, a1, a2, a3, a4)))
    (cond (decide (a1 ≠ (IntKind.i64.wrap (a2 - 1))))
      (some ((17, a1, a2, a3, a4)))
      (some ((0, a1, a1, a3, a4))))
/- (*backstitch/machine.Machine).Do -/
def D_machine_Machine_Do (a0 : Int) (a1 : Int) (a2 : Int) (a3 : Int) (a4 : Int) (a5 : Int) (a6 : List Int) : Option (Int × Int × Int × Int × Int × List Int) :=
  (((((((D_action_Right a0 a1).bind fun r7 =>
  cond (!r7)
    (some true)
    (some (decide (7 < a0)))) : Option (Bool))).bind fun s8 =>
  cond (s8)
    (some ((.inl ())))
    (cond (decide (2 ≤ a0))
      (cond (decide (a0 ≤ 4))
        (cond (decide (((((List.length a6) : Nat) : Int)) ≤ a1))
          (some ((.inl ())))
          (some ((.inr ()))))
        (some ((.inr ()))))
      (some ((.inr ()))))) : Option ((Unit) ⊕ (Unit)))).bind fun s9 =>
  caseS s9 (fun u10 =>
    some ((2, a2, a3, a4, a5, a6)))
    (fun w11 =>
    (D_machine_Machine_moves a2 a3 a4 a5 a6).bind fun r12 =>
    (ix a0 8).bind fun j13 =>
    cond (Nat.beq j13 0)
      none
      (cond (Nat.beq ((j13 - 1)) 0)
        ((D_machine_Machine_advance a1 a2 a3 a4 a5 a6).bind fun r14 =>
        some ((r14.1, r14.2.1, r14.2.2.1, r14.2.2.2.1, r14.2.2.2.2, a6)))
        (cond (Nat.beq (((j13 - 1) - 1)) 0)
          ((D_machine_Machine_store a1 a2 a3 a4 a5 a6).bind fun r15 =>
          some ((r15.1, a2, a3, a4, a5, r15.2)))
          (cond (Nat.beq ((((j13 - 1) - 1) - 1)) 0)
            ((D_machine_Machine_restore a1 a2 a3 a4 a5 a6).bind fun r16 =>
            some ((r16.1, r16.2.1, r16.2.2.1, r16.2.2.2.1, r16.2.2.2.2, a6)))
            (cond (Nat.beq (((((j13 - 1) - 1) - 1) - 1)) 0)
              ((D_machine_Machine_free a1 a2 a3 a4 a5 a6).bind fun r17 =>
              some ((r17.1, a2, a3, a4, a5, r17.2)))
              (cond (Nat.beq ((((((j13 - 1) - 1) - 1) - 1) - 1)) 0)
                ((D_machine_Machine_seed a1 a2 a3 a4 a5 a6).bind fun r18 =>
                some ((r18.1, r18.2.1, r18.2.2.1, r18.2.2.2.1, r18.2.2.2.2, a6)))
                (cond (Nat.beq (((((((j13 - 1) - 1) - 1) - 1) - 1) - 1)) 0)
                  ((D_machine_Machine_both a1 a2 a3 a4 a5 a6).bind fun r19 =>
                  some ((r19.1, r19.2.1, r19.2.2.1, r19.2.2.2.1, r19.2.2.2.2, a6)))
                  (cond (Nat.beq ((((((((j13 - 1) - 1) - 1) - 1) - 1) - 1) - 1)) 0)
                    ((D_machine_Machine_reverse a1 a2 a3 a4 a5 a6).bind fun r20 =>
                    some ((r20.1, r20.2.1, r20.2.2.1, r20.2.2.2.1, r20.2.2.2.2, a6)))
                    none))))))))
/- (*backstitch/drive.Driver).moves -/
def D_drive_Driver_moves (a0 : Int) (a1 : Int) (a2 : Int) (a3 : Int) (a4 : Int) (a5 : Int) (a6 : Int) (a7 : Int) (a8 : Int) (a9 : Int) (a10 : Int) (a11 : Int) (a12 : Int) (a13 : Int) (a14 : Int) (a15 : Int) (a16 : Int) (a17 : List Int) (a18 : List Int) (a19 : List (Int × Int × Int × Int × Int)) (a20 : List (Int × Int × Int × Int × Int)) (a21 : List Int) (a22 : Int) (a23 : Int) (a24 : Int) (a25 : Int) (a26 : List Int) : Option (Unit) :=
  some ()
/- backstitch/forward.begin -/
def D_forward_begin (a0 : Int) (a1 : List (Int × Int × Int × Int × Int)) (a2 : List Int) : Option (Int × (List (Int × Int × Int × Int × Int × Int)) × List Int) :=
  (D_flat_Code a0 a1).bind fun r3 =>
  cond (decide (r3.1 ≠ 0))
    (some ((r3.1, [], [])))
    (cond (decide (a0 < ((((List.length a2) : Nat) : Int))))
      (some ((10, [], [])))
      (gd (Nat.beq 1 (Sh.w (.int .u64)) && decide (0 ≤ a0) && decide (a0 ≤ a0) && decide ((8 : Int) * a0 ≤ 140737488355328) && Nat.ble 1 8) (some ((0, r3.2, (blit ((List.replicate (Int.toNat a0) (0 : Int))) 0 ((List.length ((List.replicate (Int.toNat a0) (0 : Int))))) a2))))))
/- backstitch/forward.Run$1 -/
def D_forward_Run_1 (a0 : Int) (a1 : Int) (a2 : Int) (a3 : Int) (a4 : Int) (a5 : Int) : Option (Unit) :=
  some ()
def D_forward_exec_L0 (a0 : Int) (a1 : List (Int × Int × Int × Int × Int × Int)) : (Int × Int × Int × (List Int) × Int × Int × Int × Int × Int × Int × Int × Int) → Option ((Int × Int × Int × (List Int) × Int × Int × Int × Int × Int × Int × Int × Int) ⊕ ((List Int) × Int × Int × Int × Int × Int × Int × Int × Int)) := fun ⟨s20_0, s20_1, s20_2, s20_3, s20_4, s20_5, s20_6, s20_7, s20_8, s20_9, s20_10, s20_11⟩ =>
  cond (decide (s20_0 = ((((List.length a1) : Nat) : Int))))
    (some (.inr (((s20_3, s20_4, s20_5, s20_6, s20_7, s20_8, s20_9, s20_10, s20_11)))))
    (cond (decide (s20_1 = a0))
      (some (.inr (((s20_3, s20_4, s20_5, s20_6, s20_7, s20_8, s20_9, s20_10, s20_11)))))
      ((ix s20_0 ((List.length a1))).bind fun j21 =>
      (a1[j21]?).bind fun x22 =>
      cond (decide (x22.1 = 7))
        ((ix s20_2 8).bind fun j23 =>
        some (.inl ((IntKind.i64.wrap (s20_0 + 1), s20_1, IntKind.i64.wrap (s20_2 + 1), s20_3, (cond (Nat.beq j23 0) x22.2.2.2.2.1 s20_4), (cond (Nat.beq j23 1) x22.2.2.2.2.1 s20_5), (cond (Nat.beq j23 2) x22.2.2.2.2.1 s20_6), (cond (Nat.beq j23 3) x22.2.2.2.2.1 s20_7), (cond (Nat.beq j23 4) x22.2.2.2.2.1 s20_8), (cond (Nat.beq j23 5) x22.2.2.2.2.1 s20_9), (cond (Nat.beq j23 6) x22.2.2.2.2.1 s20_10), (cond (Nat.beq j23 7) x22.2.2.2.2.1 s20_11)))))
        (cond (decide (x22.1 = 0))
          ((ix (IntKind.i64.wrap (s20_2 - 1)) 8).bind fun j24 =>
          (ix (IntKind.i64.wrap (s20_2 - 1)) 8).bind fun j25 =>
          (ix (IntKind.i64.wrap (s20_2 - 1)) 8).bind fun j26 =>
          cond (decide (0 < ((List.getD [(cond (Nat.beq j25 0) (IntKind.u64.wrap (((List.getD [s20_4, s20_5, s20_6, s20_7, s20_8, s20_9, s20_10, s20_11] j24 0)) - 1)) s20_4), (cond (Nat.beq j25 1) (IntKind.u64.wrap (((List.getD [s20_4, s20_5, s20_6, s20_7, s20_8, s20_9, s20_10, s20_11] j24 0)) - 1)) s20_5), (cond (Nat.beq j25 2) (IntKind.u64.wrap (((List.getD [s20_4, s20_5, s20_6, s20_7, s20_8, s20_9, s20_10, s20_11] j24 0)) - 1)) s20_6), (cond (Nat.beq j25 3) (IntKind.u64.wrap (((List.getD [s20_4, s20_5, s20_6, s20_7, s20_8, s20_9, s20_10, s20_11] j24 0)) - 1)) s20_7), (cond (Nat.beq j25 4) (IntKind.u64.wrap (((List.getD [s20_4, s20_5, s20_6, s20_7, s20_8, s20_9, s20_10, s20_11] j24 0)) - 1)) s20_8), (cond (Nat.beq j25 5) (IntKind.u64.wrap (((List.getD [s20_4, s20_5, s20_6, s20_7, s20_8, s20_9, s20_10, s20_11] j24 0)) - 1)) s20_9), (cond (Nat.beq j25 6) (IntKind.u64.wrap (((List.getD [s20_4, s20_5, s20_6, s20_7, s20_8, s20_9, s20_10, s20_11] j24 0)) - 1)) s20_10), (cond (Nat.beq j25 7) (IntKind.u64.wrap (((List.getD [s20_4, s20_5, s20_6, s20_7, s20_8, s20_9, s20_10, s20_11] j24 0)) - 1)) s20_11)] j26 0))))
            (some (.inl ((x22.2.2.2.2.2, s20_1, s20_2, s20_3, (cond (Nat.beq j25 0) (IntKind.u64.wrap (((List.getD [s20_4, s20_5, s20_6, s20_7, s20_8, s20_9, s20_10, s20_11] j24 0)) - 1)) s20_4), (cond (Nat.beq j25 1) (IntKind.u64.wrap (((List.getD [s20_4, s20_5, s20_6, s20_7, s20_8, s20_9, s20_10, s20_11] j24 0)) - 1)) s20_5), (cond (Nat.beq j25 2) (IntKind.u64.wrap (((List.getD [s20_4, s20_5, s20_6, s20_7, s20_8, s20_9, s20_10, s20_11] j24 0)) - 1)) s20_6), (cond (Nat.beq j25 3) (IntKind.u64.wrap (((List.getD [s20_4, s20_5, s20_6, s20_7, s20_8, s20_9, s20_10, s20_11] j24 0)) - 1)) s20_7), (cond (Nat.beq j25 4) (IntKind.u64.wrap (((List.getD [s20_4, s20_5, s20_6, s20_7, s20_8, s20_9, s20_10, s20_11] j24 0)) - 1)) s20_8), (cond (Nat.beq j25 5) (IntKind.u64.wrap (((List.getD [s20_4, s20_5, s20_6, s20_7, s20_8, s20_9, s20_10, s20_11] j24 0)) - 1)) s20_9), (cond (Nat.beq j25 6) (IntKind.u64.wrap (((List.getD [s20_4, s20_5, s20_6, s20_7, s20_8, s20_9, s20_10, s20_11] j24 0)) - 1)) s20_10), (cond (Nat.beq j25 7) (IntKind.u64.wrap (((List.getD [s20_4, s20_5, s20_6, s20_7, s20_8, s20_9, s20_10, s20_11] j24 0)) - 1)) s20_11)))))
            (some (.inl ((IntKind.i64.wrap (s20_0 + 1), s20_1, IntKind.i64.wrap (s20_2 - 1), s20_3, (cond (Nat.beq j25 0) (IntKind.u64.wrap (((List.getD [s20_4, s20_5, s20_6, s20_7, s20_8, s20_9, s20_10, s20_11] j24 0)) - 1)) s20_4), (cond (Nat.beq j25 1) (IntKind.u64.wrap (((List.getD [s20_4, s20_5, s20_6, s20_7, s20_8, s20_9, s20_10, s20_11] j24 0)) - 1)) s20_5), (cond (Nat.beq j25 2) (IntKind.u64.wrap (((List.getD [s20_4, s20_5, s20_6, s20_7, s20_8, s20_9, s20_10, s20_11] j24 0)) - 1)) s20_6), (cond (Nat.beq j25 3) (IntKind.u64.wrap (((List.getD [s20_4, s20_5, s20_6, s20_7, s20_8, s20_9, s20_10, s20_11] j24 0)) - 1)) s20_7), (cond (Nat.beq j25 4) (IntKind.u64.wrap (((List.getD [s20_4, s20_5, s20_6, s20_7, s20_8, s20_9, s20_10, s20_11] j24 0)) - 1)) s20_8), (cond (Nat.beq j25 5) (IntKind.u64.wrap (((List.getD [s20_4, s20_5, s20_6, s20_7, s20_8, s20_9, s20_10, s20_11] j24 0)) - 1)) s20_9), (cond (Nat.beq j25 6) (IntKind.u64.wrap (((List.getD [s20_4, s20_5, s20_6, s20_7, s20_8, s20_9, s20_10, s20_11] j24 0)) - 1)) s20_10), (cond (Nat.beq j25 7) (IntKind.u64.wrap (((List.getD [s20_4, s20_5, s20_6, s20_7, s20_8, s20_9, s20_10, s20_11] j24 0)) - 1)) s20_11))))))
          ((ix x22.2.2.1 ((List.length s20_3))).bind fun j27 =>
          (s20_3[j27]?).bind fun x28 =>
          (ix x22.2.2.2.1 ((List.length s20_3))).bind fun j29 =>
          (s20_3[j29]?).bind fun x30 =>
          (D_opcode_Apply x22.1 x22.2.1 x22.2.2.1 x22.2.2.2.1 x22.2.2.2.2.1 x28 x30).bind fun r31 =>
          (ix x22.2.1 ((List.length s20_3))).bind fun j32 =>
          (s20_3[j32]?).bind fun x33 =>
          (D_forward_Run_1 s20_1 x22.1 x22.2.1 x22.2.2.1 x22.2.2.2.1 x22.2.2.2.2.1).bind fun r34 =>
          some (.inl ((IntKind.i64.wrap (s20_0 + 1), IntKind.i64.wrap (s20_1 + 1), s20_2, (List.set s20_3 j32 r31), s20_4, s20_5, s20_6, s20_7, s20_8, s20_9, s20_10, s20_11)))))))
/- backstitch/forward.exec -/
def D_forward_exec (a0 : Int) (a1 : List (Int × Int × Int × Int × Int × Int)) (a2 : List Int) : Option (List Int) :=
  (loopN (D_forward_exec_L0 a0 a1) BIG ((0, 0, 0, a2, 0, 0, 0, 0, 0, 0, 0, 0))).bind fun ⟨r35_0, r35_1, r35_2, r35_3, r35_4, r35_5, r35_6, r35_7, r35_8⟩ =>
  some r35_0
/- backstitch/forward.Run -/
def D_forward_Run (a0 : Int) (a1 : List (Int × Int × Int × Int × Int)) (a2 : List Int) : Option (Int × List Int) :=
  (D_forward_begin a0 a1 a2).bind fun r3 =>
  cond (decide (r3.1 ≠ 0))
    (some ((r3.1, [])))
    ((D_forward_exec (-1) r3.2.1 r3.2.2).bind fun r4 =>
    some ((0, r4)))
def D_drive_Driver_advance_L0 (a0 : Int) (a18 : List Int) (a19 : List Int) (a20 : List (Int × Int × Int × Int × Int)) (a21 : List (Int × Int × Int × Int × Int)) (a22 : List Int) (a23 : Int) (a24 : Int) (a25 : Int) (a26 : Int) : (Int × Int × Int × Int × Int × Int × Int × Int × Int × Int × Int × Int × Int × Int × Int × Int × Int × Int × List Int) → Option ((Int × Int × Int × Int × Int × Int × Int × Int × Int × Int × Int × Int × Int × Int × Int × Int × Int × Int × List Int) ⊕ (Int × Int × Int × Int × Int × Int × Int × Int × Int × Int × Int × Int × Int × Int × Int × Int × Int × List Int)) := fun ⟨s47_0, s47_1, s47_2, s47_3, s47_4, s47_5, s47_6, s47_7, s47_8, s47_9, s47_10, s47_11, s47_12, s47_13, s47_14, s47_15, s47_16, s47_17, s47_18⟩ =>
  cond (decide (s47_0 < a0))
    ((D_drive_Driver_get 1 s47_1 s47_2 s47_3 s47_4 s47_5 s47_6 s47_7 s47_8 s47_9 s47_10 s47_11 s47_12 s47_13 s47_14 s47_15 s47_16 s47_17 a18 a19 a20 a21 a22 a23 a24 a25 a26 s47_18).bind fun r48 =>
    (D_drive_Driver_begin s47_6 a20 r48 ([IntKind.u64.wrap (IntKind.i64.wrap (s47_11 + s47_0))]) s47_1 s47_2 s47_3 s47_4 s47_5 s47_6 s47_7 s47_8 s47_9 s47_10 s47_11 s47_12 s47_13 s47_14 s47_15 s47_16 s47_17 a18 a19 a20 a21 a22 a23 a24 a25 a26 s47_18).bind fun r49 =>
    (D_forward_Run s47_6 a20 r49).bind fun r50 =>
    (D_drive_Driver_put 2 r50.2 s47_1 s47_2 s47_3 s47_4 s47_5 s47_6 s47_7 s47_8 s47_9 s47_10 s47_11 s47_12 s47_13 s47_14 s47_15 s47_16 s47_17 a18 a19 a20 a21 a22 a23 a24 a25 a26 s47_18).bind fun r51 =>
    gd (cutG 0 ((((List.length a18) : Nat) : Int)) ((List.length r50.2))) ((D_drive_Driver_put 1 ((List.take (((Int.toNat ((((List.length a18) : Nat) : Int))) - 0)) (List.drop 0 r50.2))) s47_1 s47_2 s47_3 s47_4 s47_5 s47_6 s47_7 s47_8 s47_9 s47_10 s47_11 s47_12 s47_13 s47_14 s47_15 s47_16 s47_17 a18 a19 a20 a21 a22 a23 a24 a25 a26 r51).bind fun r52 =>
    some (.inl ((IntKind.i64.wrap (s47_0 + 1), s47_1, s47_2, s47_3, s47_4, s47_5, s47_6, s47_7, s47_8, s47_9, s47_10, s47_11, s47_12, IntKind.i64.wrap (s47_13 + 1), s47_14, s47_15, s47_16, s47_17, r52)))))
    (some (.inr (((s47_1, s47_2, s47_3, s47_4, s47_5, s47_6, s47_7, s47_8, s47_9, s47_10, s47_11, s47_12, s47_13, s47_14, s47_15, s47_16, s47_17, s47_18)))))
/- (*backstitch/drive.Driver).advance -/
def D_drive_Driver_advance (a0 : Int) (a1 : Int) (a2 : Int) (a3 : Int) (a4 : Int) (a5 : Int) (a6 : Int) (a7 : Int) (a8 : Int) (a9 : Int) (a10 : Int) (a11 : Int) (a12 : Int) (a13 : Int) (a14 : Int) (a15 : Int) (a16 : Int) (a17 : Int) (a18 : List Int) (a19 : List Int) (a20 : List (Int × Int × Int × Int × Int)) (a21 : List (Int × Int × Int × Int × Int)) (a22 : List Int) (a23 : Int) (a24 : Int) (a25 : Int) (a26 : Int) (a27 : List Int) : Option (Int × Int × Int × Int × Int × Int × Int × Int × Int × Int × Int × Int × Int × Int × Int × Int × Int × List Int) :=
  (loopN (D_drive_Driver_advance_L0 a0 a18 a19 a20 a21 a22 a23 a24 a25 a26) BIG ((0, a1, a2, a3, a4, a5, a6, a7, a8, a9, a10, a11, a12, a13, a14, a15, a16, a17, a27))).bind fun ⟨r53_0, r53_1, r53_2, r53_3, r53_4, r53_5, r53_6, r53_7, r53_8, r53_9, r53_10, r53_11, r53_12, r53_13, r53_14, r53_15, r53_16, r53_17⟩ =>
  some ((r53_0, r53_1, r53_2, r53_3, r53_4, r53_5, r53_6, r53_7, r53_8, r53_9, r53_10, r53_11, r53_12, r53_13, r53_14, r53_15, r53_16, r53_17))
/- (*backstitch/machine.Machine).Spot -/
def D_machine_Machine_Spot (a0 : Int) (a1 : Int) (a2 : Int) (a3 : Int) (a4 : List Int) : Option (Int × Int × List Int) :=
  (D_slices_Clone_int_int a4).bind fun r5 =>
  some ((a0, a1, r5))
/- (*backstitch/slots.Slots).Store -/
def D_slots_Slots_Store (a0 : Int) (a1 : Int) (a2 : List Int) : Option (Unit) :=
  some ()
/- (*backstitch/drive.Driver).store -/
def D_drive_Driver_store (a0 : Int) (a1 : Int) (a2 : Int) (a3 : Int) (a4 : Int) (a5 : Int) (a6 : Int) (a7 : Int) (a8 : Int) (a9 : Int) (a10 : Int) (a11 : Int) (a12 : Int) (a13 : Int) (a14 : Int) (a15 : Int) (a16 : Int) (a17 : Int) (a18 : List Int) (a19 : List Int) (a20 : List (Int × Int × Int × Int × Int)) (a21 : List (Int × Int × Int × Int × Int)) (a22 : List Int) (a23 : Int) (a24 : Int) (a25 : Int) (a26 : Int) (a27 : List Int) : Option (Int × Int × Int) :=
  (D_meter_Meter_Hold a3 a24 a25 a26).bind fun r28 =>
  (D_drive_Driver_get 1 a1 a2 a3 a4 a5 a6 a7 a8 a9 a10 a11 a12 a13 a14 a15 a16 a17 a18 a19 a20 a21 a22 a23 r28.2.1 r28.2.2.1 r28.2.2.2 a27).bind fun r29 =>
  (D_slots_Slots_Store a0 a11 r29).bind fun r30 =>
  some ((r28.2.1, r28.2.2.1, r28.2.2.2))
/- (*backstitch/slots.Slots).Restore -/
def D_slots_Slots_Restore (a0 : Int) : Option (Unit) :=
  some ()
/- (*backstitch/drive.Driver).restore -/
def D_drive_Driver_restore (a0 : Int) (a1 : Int) (a2 : Int) (a3 : Int) (a4 : Int) (a5 : Int) (a6 : Int) (a7 : Int) (a8 : Int) (a9 : Int) (a10 : Int) (a11 : Int) (a12 : Int) (a13 : Int) (a14 : Int) (a15 : Int) (a16 : Int) (a17 : Int) (a18 : List Int) (a19 : List Int) (a20 : List (Int × Int × Int × Int × Int)) (a21 : List (Int × Int × Int × Int × Int)) (a22 : List Int) (a23 : Int) (a24 : Int) (a25 : Int) (a26 : Int) (a27 : List Int) : Option (List Int) :=
  (D_slots_Slots_Restore a0).bind fun r28 =>
  (D_drive_Driver_put 1 [] a1 a2 a3 a4 a5 a6 a7 a8 a9 a10 a11 a12 a13 a14 a15 a16 a17 a18 a19 a20 a21 a22 a23 a24 a25 a26 a27).bind fun r29 =>
  some r29
/- (*backstitch/slots.Slots).Free -/
def D_slots_Slots_Free (a0 : Int) : Option (Unit) :=
  some ()
/- (*backstitch/drive.Driver).free -/
def D_drive_Driver_free (a0 : Int) (a1 : Int) (a2 : Int) (a3 : Int) (a4 : Int) (a5 : Int) (a6 : Int) (a7 : Int) (a8 : Int) (a9 : Int) (a10 : Int) (a11 : Int) (a12 : Int) (a13 : Int) (a14 : Int) (a15 : Int) (a16 : Int) (a17 : Int) (a18 : List Int) (a19 : List Int) (a20 : List (Int × Int × Int × Int × Int)) (a21 : List (Int × Int × Int × Int × Int)) (a22 : List Int) (a23 : Int) (a24 : Int) (a25 : Int) (a26 : Int) (a27 : List Int) : Option (Int × Int × Int) :=
  (D_slots_Slots_Free a0).bind fun r28 =>
  (D_meter_Meter_Drop a3 a24 a25 a26).bind fun r29 =>
  some ((r29.2.1, r29.2.2.1, r29.2.2.2))
def D_drive_Driver_back_2_L0 (a22 : List Int) (r31 : Int × (List Int) × List Int) (r34 : List Int) (s37 : Int × List Int) : Option ((Int × List Int) ⊕ (List Int)) :=
  cond (decide (s37.1 < ((((List.length r34) : Nat) : Int))))
    ((ix s37.1 ((List.length s37.2))).bind fun j38 =>
    (s37.2[j38]?).bind fun x39 =>
    (ix (IntKind.i64.wrap (((((List.length a22) : Nat) : Int)) + s37.1)) ((List.length r31.2.2))).bind fun j40 =>
    (r31.2.2[j40]?).bind fun x41 =>
    (ix s37.1 ((List.length s37.2))).bind fun j42 =>
    (s37.2[j42]?).bind fun x43 =>
    some (.inl ((IntKind.i64.wrap (s37.1 + 1), (List.set s37.2 j42 (IntKind.u64.wrap (x39 + x41)))))))
    (some (.inr s37.2))
/- (*backstitch/drive.Driver).back -/
def D_drive_Driver_back_2 (a0 : Int) (a1 : Int) (a2 : Int) (a3 : Int) (a4 : Int) (a5 : Int) (a6 : Int) (a7 : Int) (a8 : Int) (a9 : Int) (a10 : Int) (a11 : Int) (a12 : Int) (a13 : Int) (a14 : Int) (a15 : Int) (a16 : Int) (a17 : Int) (a18 : List (Int × Int × Int × Int × Int)) (a19 : List Int) (a20 : List Int) (a21 : List Int) (a22 : List Int) (a23 : List Int) (a24 : List (Int × Int × Int × Int × Int)) (a25 : List Int) (a26 : Int) (a27 : Int) (a28 : Int) (a29 : Int) (a30 : List Int) : Option (Int × Int × Int × Int × Int × Int × Int × Int × Int × Int × Int × Int × Int × Int × Int × Int × Int × (List Int) × (List Int) × List Int) :=
  (D_sweep_Back a0 a18 a19 a20 a21).bind fun r31 =>
  (D_drive_Driver_put 4 r31.2.2 a1 a2 a3 a4 a5 a6 a7 a8 a9 a10 a11 a12 a13 a14 a15 a16 a17 a22 a23 a18 a24 a25 a26 a27 a28 a29 a30).bind fun r32 =>
  gd (cutG 0 ((((List.length a22) : Nat) : Int)) ((List.length r31.2.2))) ((D_drive_Driver_put 5 ((List.take (((Int.toNat ((((List.length a22) : Nat) : Int))) - 0)) (List.drop 0 r31.2.2))) a1 a2 a3 a4 a5 a6 a7 a8 a9 a10 a11 a12 a13 a14 a15 a16 a17 a22 a23 a18 a24 a25 a26 a27 a28 a29 r32).bind fun r33 =>
  (D_drive_Driver_get 6 a1 a2 a3 a4 a5 a6 a7 a8 a9 a10 a11 a12 a13 a14 a15 a16 a17 a22 a23 a18 a24 a25 a26 a27 a28 a29 r33).bind fun r34 =>
  (loopN (D_drive_Driver_back_2_L0 a22 r31 r34) BIG ((0, r34))).bind fun r44 =>
  (D_drive_Driver_put 6 r44 a1 a2 a3 a4 a5 a6 a7 a8 a9 a10 a11 a12 a13 a14 a15 a16 a17 a22 a23 a18 a24 a25 a26 a27 a28 a29 r33).bind fun r45 =>
  some ((a1, a2, a3, a4, a5, a6, a7, a8, a9, a10, a11, a12, a13, a14, a15, IntKind.i64.wrap (a16 + 1), a17, r31.2.1, r31.2.2, r45)))
/- (*backstitch/drive.Driver).turn -/
def D_drive_Driver_turn (a0 : Int) (a1 : Int) (a2 : Int) (a3 : Int) (a4 : Int) (a5 : Int) (a6 : Int) (a7 : Int) (a8 : Int) (a9 : Int) (a10 : Int) (a11 : Int) (a12 : Int) (a13 : Int) (a14 : Int) (a15 : Int) (a16 : Int) (a17 : List Int) (a18 : List Int) (a19 : List Int) (a20 : List Int) (a21 : List (Int × Int × Int × Int × Int)) (a22 : List (Int × Int × Int × Int × Int)) (a23 : List Int) (a24 : Int) (a25 : Int) (a26 : Int) (a27 : Int) (a28 : List Int) : Option (Int × Int × Int × Int × Int × Int × Int × Int × Int × Int × Int × Int × Int × Int × Int × Int × Int × (List Int) × List Int) :=
  (D_drive_Driver_get 5 a0 a1 a2 a3 a4 a5 a6 a7 a8 a9 a10 a11 a12 a13 a14 a15 a16 a19 a20 a21 a22 a23 a24 a25 a26 a27 a28).bind fun r29 =>
  (D_drive_wide a5 a21 r29).bind fun r30 =>
  (D_drive_Driver_back_2 a5 a0 a1 a2 a3 a4 a5 a6 a7 a8 a9 a10 a11 a12 a13 a14 a15 a16 a21 a17 r30 a18 a19 a20 a22 a23 a24 a25 a26 a27 a28).bind fun ⟨r31_0, r31_1, r31_2, r31_3, r31_4, r31_5, r31_6, r31_7, r31_8, r31_9, r31_10, r31_11, r31_12, r31_13, r31_14, r31_15, r31_16, r31_17, r31_18, r31_19⟩ =>
  some ((r31_0, r31_1, r31_2, r31_3, r31_4, r31_5, r31_6, r31_7, r31_8, r31_9, r31_10, r31_11, r31_12, r31_13, r31_14, r31_15, r31_16, r31_17, r31_19))
/- (*backstitch/drive.Driver).both -/
def D_drive_Driver_both (a0 : Int) (a1 : Int) (a2 : Int) (a3 : Int) (a4 : Int) (a5 : Int) (a6 : Int) (a7 : Int) (a8 : Int) (a9 : Int) (a10 : Int) (a11 : Int) (a12 : Int) (a13 : Int) (a14 : Int) (a15 : Int) (a16 : Int) (a17 : Int) (a18 : List Int) (a19 : List Int) (a20 : List (Int × Int × Int × Int × Int)) (a21 : List (Int × Int × Int × Int × Int)) (a22 : List Int) (a23 : Int) (a24 : Int) (a25 : Int) (a26 : Int) (a27 : List Int) : Option (Int × Int × Int × Int × Int × Int × Int × Int × Int × Int × Int × Int × Int × Int × Int × Int × Int × Int × Int × Int × List Int) :=
  (D_plan_Of a5 a18 a19 a6 a20 a7 a21 a8 a9).bind fun r28 =>
  (D_meter_Meter_Hold (IntKind.i64.wrap (r28.1 + r28.2)) a24 a25 a26).bind fun r29 =>
  (D_drive_Driver_taped a1 a2 a3 a4 a5 a6 a7 a8 a9 a10 a11 a12 a13 a14 a15 a16 a17 a18 a19 a20 a21 a22 a23 r29.2.1 r29.2.2.1 r29.2.2.2 a27).bind fun ⟨r30_0, r30_1, r30_2, r30_3, r30_4, r30_5, r30_6, r30_7, r30_8, r30_9, r30_10, r30_11, r30_12, r30_13, r30_14, r30_15, r30_16, r30_17, r30_18, r30_19⟩ =>
  gd (cutG 0 ((((List.length a18) : Nat) : Int)) ((List.length r30_18))) ((D_drive_Driver_end ((List.take (((Int.toNat ((((List.length a18) : Nat) : Int))) - 0)) (List.drop 0 r30_18))) r30_0 r30_1 r30_2 r30_3 r30_4 r30_5 r30_6 r30_7 r30_8 r30_9 r30_10 r30_11 r30_12 r30_13 r30_14 r30_15 r30_16 a18 a19 a20 a21 a22 a23 r29.2.1 r29.2.2.1 r29.2.2.2 r30_17).bind fun ⟨r31_0, r31_1, r31_2, r31_3, r31_4, r31_5, r31_6, r31_7, r31_8, r31_9, r31_10, r31_11, r31_12, r31_13, r31_14, r31_15, r31_16, r31_17⟩ =>
  (D_drive_Driver_turn r31_0 r31_1 r31_2 r31_3 r31_4 r31_5 r31_6 r31_7 r31_8 r31_9 r31_10 r31_11 r31_12 r31_13 r31_14 r31_15 r31_16 r30_18 r30_19 a18 a19 a20 a21 a22 a23 r29.2.1 r29.2.2.1 r29.2.2.2 r31_17).bind fun ⟨r32_0, r32_1, r32_2, r32_3, r32_4, r32_5, r32_6, r32_7, r32_8, r32_9, r32_10, r32_11, r32_12, r32_13, r32_14, r32_15, r32_16, r32_17, r32_18⟩ =>
  (D_meter_Meter_Drop (IntKind.i64.wrap (r28.1 + r28.2)) r29.2.1 r29.2.2.1 r29.2.2.2).bind fun r33 =>
  some ((r32_0, r32_1, r32_2, r32_3, r32_4, r32_5, r32_6, r32_7, r32_8, r32_9, r32_10, r32_11, r32_12, r32_13, r32_14, r32_15, r32_16, r33.2.1, r33.2.2.1, r33.2.2.2, r32_18)))
/- (*backstitch/drive.Driver).reverse -/
def D_drive_Driver_reverse (a0 : Int) (a1 : Int) (a2 : Int) (a3 : Int) (a4 : Int) (a5 : Int) (a6 : Int) (a7 : Int) (a8 : Int) (a9 : Int) (a10 : Int) (a11 : Int) (a12 : Int) (a13 : Int) (a14 : Int) (a15 : Int) (a16 : Int) (a17 : Int) (a18 : List Int) (a19 : List Int) (a20 : List (Int × Int × Int × Int × Int)) (a21 : List (Int × Int × Int × Int × Int)) (a22 : List Int) (a23 : Int) (a24 : Int) (a25 : Int) (a26 : Int) (a27 : List Int) : Option (Int × Int × Int × Int × Int × Int × Int × Int × Int × Int × Int × Int × Int × Int × Int × Int × Int × Int × Int × Int × List Int) :=
  (D_plan_Of a5 a18 a19 a6 a20 a7 a21 a8 a9).bind fun r28 =>
  (D_meter_Meter_Hold r28.1 a24 a25 a26).bind fun r29 =>
  (D_drive_Driver_taped a1 a2 a3 a4 a5 a6 a7 a8 a9 a10 a11 a12 a13 a14 a15 a16 a17 a18 a19 a20 a21 a22 a23 r29.2.1 r29.2.2.1 r29.2.2.2 a27).bind fun ⟨r30_0, r30_1, r30_2, r30_3, r30_4, r30_5, r30_6, r30_7, r30_8, r30_9, r30_10, r30_11, r30_12, r30_13, r30_14, r30_15, r30_16, r30_17, r30_18, r30_19⟩ =>
  (D_drive_Driver_turn r30_0 r30_1 r30_2 r30_3 r30_4 r30_5 r30_6 r30_7 r30_8 r30_9 r30_10 r30_11 r30_12 r30_13 r30_14 r30_15 r30_16 r30_18 r30_19 a18 a19 a20 a21 a22 a23 r29.2.1 r29.2.2.1 r29.2.2.2 r30_17).bind fun ⟨r31_0, r31_1, r31_2, r31_3, r31_4, r31_5, r31_6, r31_7, r31_8, r31_9, r31_10, r31_11, r31_12, r31_13, r31_14, r31_15, r31_16, r31_17, r31_18⟩ =>
  (D_meter_Meter_Drop r28.1 r29.2.1 r29.2.2.1 r29.2.2.2).bind fun r32 =>
  some ((r31_0, r31_1, r31_2, r31_3, r31_4, r31_5, r31_6, r31_7, r31_8, r31_9, r31_10, r31_11, r31_12, r31_13, r31_14, r31_15, r31_16, r32.2.1, r32.2.2.1, r32.2.2.2, r31_18))
/- (*backstitch/drive.Driver).Do -/
def D_drive_Driver_Do_2 (a0 : Int) (a1 : Int) (a2 : Int) (a3 : Int) (a4 : Int) (a5 : Int) (a6 : Int) (a7 : Int) (a8 : Int) (a9 : Int) (a10 : Int) (a11 : Int) (a12 : Int) (a13 : Int) (a14 : Int) (a15 : Int) (a16 : Int) (a17 : Int) (a18 : Int) (a19 : List Int) (a20 : List Int) (a21 : List (Int × Int × Int × Int × Int)) (a22 : List (Int × Int × Int × Int × Int)) (a23 : List Int) (a24 : Int) (a25 : Int) (a26 : Int) (a27 : Int) (a28 : List Int) : Option (Int × Int × Int × Int × Int × Int × Int × Int × Int × Int × Int × Int × Int × Int × Int × Int × Int × Int × Int × Int × Int × List Int) :=
  (D_drive_Driver_baseline a2 a3 a4 a5 a6 a7 a8 a9 a10 a11 a12 a13 a14 a15 a16 a17 a18 a19 a20 a21 a22 a23 a24 a25 a26 a27 a28).bind fun r29 =>
  cond (r29)
    ((D_drive_Driver_plain a0 a1 a2 a3 a4 a5 a6 a7 a8 a9 a10 a11 a12 a13 a14 a15 a16 a17 a18 a19 a20 a21 a22 a23 a24 a25 a26 a27 a28).bind fun ⟨r30_0, r30_1, r30_2, r30_3, r30_4, r30_5, r30_6, r30_7, r30_8, r30_9, r30_10, r30_11, r30_12, r30_13, r30_14, r30_15, r30_16, r30_17, r30_18, r30_19, r30_20, r30_21⟩ =>
    some ((r30_0, r30_1, r30_2, r30_3, r30_4, r30_5, r30_6, r30_7, r30_8, r30_9, r30_10, r30_11, r30_12, r30_13, r30_14, r30_15, r30_16, r30_17, r30_18, r30_19, r30_20, r30_21)))
    ((D_drive_Driver_Spot_2 a2 a3 a4 a5 a6 a7 a8 a9 a10 a11 a12 a13 a14 a15 a16 a17 a18 a19 a20 a21 a22 a23 a24 a25 a26 a27 a28).bind fun r31 =>
    (D_machine_At a11 r31.1 r31.2 []).bind fun r32 =>
    caseS r32 (fun u33 =>
      some ((2, a2, a3, a4, a5, a6, a7, a8, a9, a10, a11, a12, a13, a14, a15, a16, a17, a18, a25, a26, a27, a28)))
      (fun w34 =>
      (D_machine_Machine_Do a0 a1 w34.1 w34.2.1 w34.2.2.1 0 w34.2.2.2).bind fun r35 =>
      cond (decide (r35.1 ≠ 0))
        (some ((r35.1, a2, a3, a4, a5, a6, a7, a8, a9, a10, a11, a12, a13, a14, a15, a16, a17, a18, a25, a26, a27, a28)))
        ((D_drive_Driver_moves a2 a3 a4 a5 a6 a7 a8 a9 a10 a11 a12 a13 a14 a15 a16 a17 a18 a19 a20 a21 a22 a23 a24 a25 a26 a27 a28).bind fun r36 =>
        (ix a0 8).bind fun j37 =>
        cond (Nat.beq j37 0)
          none
          (cond (Nat.beq ((j37 - 1)) 0)
            ((D_drive_Driver_advance a1 a2 a3 a4 a5 a6 a7 a8 a9 a10 a11 a12 a13 a14 a15 a16 a17 a18 a19 a20 a21 a22 a23 a24 a25 a26 a27 a28).bind fun ⟨r38_0, r38_1, r38_2, r38_3, r38_4, r38_5, r38_6, r38_7, r38_8, r38_9, r38_10, r38_11, r38_12, r38_13, r38_14, r38_15, r38_16, r38_17⟩ =>
            (D_machine_Machine_Spot r35.2.1 r35.2.2.1 r35.2.2.2.1 r35.2.2.2.2.1 r35.2.2.2.2.2).bind fun r39 =>
            some ((0, r38_0, r38_1, r38_2, r38_3, r38_4, r38_5, r38_6, r38_7, r38_8, r38_9, r39.1, r39.2.1, r38_12, r38_13, r38_14, r38_15, r38_16, a25, a26, a27, r38_17)))
            (cond (Nat.beq (((j37 - 1) - 1)) 0)
              ((D_drive_Driver_store a1 a2 a3 a4 a5 a6 a7 a8 a9 a10 a11 a12 a13 a14 a15 a16 a17 a18 a19 a20 a21 a22 a23 a24 a25 a26 a27 a28).bind fun r40 =>
              (D_machine_Machine_Spot r35.2.1 r35.2.2.1 r35.2.2.2.1 r35.2.2.2.2.1 r35.2.2.2.2.2).bind fun r41 =>
              some ((0, a2, a3, a4, a5, a6, a7, a8, a9, a10, a11, r41.1, r41.2.1, a14, a15, a16, a17, a18, r40.1, r40.2.1, r40.2.2, a28)))
              (cond (Nat.beq ((((j37 - 1) - 1) - 1)) 0)
                ((D_drive_Driver_restore a1 a2 a3 a4 a5 a6 a7 a8 a9 a10 a11 a12 a13 a14 a15 a16 a17 a18 a19 a20 a21 a22 a23 a24 a25 a26 a27 a28).bind fun r42 =>
                (D_machine_Machine_Spot r35.2.1 r35.2.2.1 r35.2.2.2.1 r35.2.2.2.2.1 r35.2.2.2.2.2).bind fun r43 =>
                some ((0, a2, a3, a4, a5, a6, a7, a8, a9, a10, a11, r43.1, r43.2.1, a14, a15, a16, a17, a18, a25, a26, a27, r42)))
                (cond (Nat.beq (((((j37 - 1) - 1) - 1) - 1)) 0)
                  ((D_drive_Driver_free a1 a2 a3 a4 a5 a6 a7 a8 a9 a10 a11 a12 a13 a14 a15 a16 a17 a18 a19 a20 a21 a22 a23 a24 a25 a26 a27 a28).bind fun r44 =>
                  (D_machine_Machine_Spot r35.2.1 r35.2.2.1 r35.2.2.2.1 r35.2.2.2.2.1 r35.2.2.2.2.2).bind fun r45 =>
                  some ((0, a2, a3, a4, a5, a6, a7, a8, a9, a10, a11, r45.1, r45.2.1, a14, a15, a16, a17, a18, r44.1, r44.2.1, r44.2.2, a28)))
                  (cond (Nat.beq ((((((j37 - 1) - 1) - 1) - 1) - 1)) 0)
                    ((D_drive_Driver_seed a1 a2 a3 a4 a5 a6 a7 a8 a9 a10 a11 a12 a13 a14 a15 a16 a17 a18 a19 a20 a21 a22 a23 a24 a25 a26 a27 a28).bind fun ⟨r46_0, r46_1, r46_2, r46_3, r46_4, r46_5, r46_6, r46_7, r46_8, r46_9, r46_10, r46_11, r46_12, r46_13, r46_14, r46_15, r46_16, r46_17, r46_18, r46_19, r46_20⟩ =>
                    (D_machine_Machine_Spot r35.2.1 r35.2.2.1 r35.2.2.2.1 r35.2.2.2.2.1 r35.2.2.2.2.2).bind fun r47 =>
                    some ((0, r46_0, r46_1, r46_2, r46_3, r46_4, r46_5, r46_6, r46_7, r46_8, r46_9, r47.1, r47.2.1, r46_12, r46_13, r46_14, r46_15, r46_16, r46_17, r46_18, r46_19, r46_20)))
                    (cond (Nat.beq (((((((j37 - 1) - 1) - 1) - 1) - 1) - 1)) 0)
                      ((D_drive_Driver_both a1 a2 a3 a4 a5 a6 a7 a8 a9 a10 a11 a12 a13 a14 a15 a16 a17 a18 a19 a20 a21 a22 a23 a24 a25 a26 a27 a28).bind fun ⟨r48_0, r48_1, r48_2, r48_3, r48_4, r48_5, r48_6, r48_7, r48_8, r48_9, r48_10, r48_11, r48_12, r48_13, r48_14, r48_15, r48_16, r48_17, r48_18, r48_19, r48_20⟩ =>
                      (D_machine_Machine_Spot r35.2.1 r35.2.2.1 r35.2.2.2.1 r35.2.2.2.2.1 r35.2.2.2.2.2).bind fun r49 =>
                      some ((0, r48_0, r48_1, r48_2, r48_3, r48_4, r48_5, r48_6, r48_7, r48_8, r48_9, r49.1, r49.2.1, r48_12, r48_13, r48_14, r48_15, r48_16, r48_17, r48_18, r48_19, r48_20)))
                      (cond (Nat.beq ((((((((j37 - 1) - 1) - 1) - 1) - 1) - 1) - 1)) 0)
                        ((D_drive_Driver_reverse a1 a2 a3 a4 a5 a6 a7 a8 a9 a10 a11 a12 a13 a14 a15 a16 a17 a18 a19 a20 a21 a22 a23 a24 a25 a26 a27 a28).bind fun ⟨r50_0, r50_1, r50_2, r50_3, r50_4, r50_5, r50_6, r50_7, r50_8, r50_9, r50_10, r50_11, r50_12, r50_13, r50_14, r50_15, r50_16, r50_17, r50_18, r50_19, r50_20⟩ =>
                        (D_machine_Machine_Spot r35.2.1 r35.2.2.1 r35.2.2.2.1 r35.2.2.2.2.1 r35.2.2.2.2.2).bind fun r51 =>
                        some ((0, r50_0, r50_1, r50_2, r50_3, r50_4, r50_5, r50_6, r50_7, r50_8, r50_9, r51.1, r51.2.1, r50_12, r50_13, r50_14, r50_15, r50_16, r50_17, r50_18, r50_19, r50_20)))
                        none))))))))))
/- (*backstitch/drive.Driver).Result -/
def D_drive_Driver_Result_2 (a0 : Int) (a1 : Int) (a2 : Int) (a3 : Int) (a4 : Int) (a5 : Int) (a6 : Int) (a7 : Int) (a8 : Int) (a9 : Int) (a10 : Int) (a11 : Int) (a12 : Int) (a13 : Int) (a14 : Int) (a15 : Int) (a16 : Int) (a17 : List Int) (a18 : List Int) (a19 : List (Int × Int × Int × Int × Int)) (a20 : List (Int × Int × Int × Int × Int)) (a21 : List Int) (a22 : Int) (a23 : Int) (a24 : Int) (a25 : Int) (a26 : List Int) : Option (Int × Int × (List Int) × List Int) :=
  cond (decide (a11 ≠ 0))
    (some ((0, 19, [], [])))
    ((D_drive_Driver_get 5 a0 a1 a2 a3 a4 a5 a6 a7 a8 a9 a10 a11 a12 a13 a14 a15 a16 a17 a18 a19 a20 a21 a22 a23 a24 a25 a26).bind fun r27 =>
    (D_drive_Driver_get 6 a0 a1 a2 a3 a4 a5 a6 a7 a8 a9 a10 a11 a12 a13 a14 a15 a16 a17 a18 a19 a20 a21 a22 a23 a24 a25 a26).bind fun r28 =>
    some ((a16, 0, r27, r28)))
/- (*backstitch/drive.Driver).Count -/
def D_drive_Driver_Count_2 (a0 : Int) (a1 : Int) (a2 : Int) (a3 : Int) (a4 : Int) (a5 : Int) (a6 : Int) (a7 : Int) (a8 : Int) (a9 : Int) (a10 : Int) (a11 : Int) (a12 : Int) (a13 : Int) (a14 : Int) (a15 : Int) (a16 : Int) (a17 : List Int) (a18 : List Int) (a19 : List (Int × Int × Int × Int × Int)) (a20 : List (Int × Int × Int × Int × Int)) (a21 : List Int) (a22 : Int) (a23 : Int) (a24 : Int) (a25 : Int) (a26 : List Int) : Option (Int × Int × Int × Int) :=
  some ((a12, a13, a14, a15))
/- (*backstitch/drive.Driver).baseline -/
def D_drive_Driver_baseline_2 (a0 : Int) (a1 : Int) (a2 : Int) (a3 : Int) (a4 : Int) (a5 : Int) (a6 : Int) (a7 : Int) (a8 : Int) (a9 : Int) (a10 : Int) (a11 : Int) (a12 : Int) (a13 : Int) (a14 : Int) (a15 : Int) (a16 : Int) (a17 : List Int) (a18 : List Int) (a19 : List (Int × Int × Int × Int × Int)) (a20 : List (Int × Int × Int × Int × Int)) (a21 : List Int) (a22 : Int) (a23 : Int) (a24 : Int) (a25 : Int) (a26 : Int) (a27 : Int) (a28 : Int) (a29 : List Int) : Option (Bool) :=
  some (decide (a4 = 3))
/- (*backstitch/drive.Driver).get -/
def D_drive_Driver_get_2 (a0 : Int) (a1 : Int) (a2 : Int) (a3 : Int) (a4 : Int) (a5 : Int) (a6 : Int) (a7 : Int) (a8 : Int) (a9 : Int) (a10 : Int) (a11 : Int) (a12 : Int) (a13 : Int) (a14 : Int) (a15 : Int) (a16 : Int) (a17 : Int) (a18 : List Int) (a19 : List Int) (a20 : List (Int × Int × Int × Int × Int)) (a21 : List (Int × Int × Int × Int × Int)) (a22 : List Int) (a23 : Int) (a24 : Int) (a25 : Int) (a26 : Int) (a27 : Int) (a28 : Int) (a29 : Int) (a30 : List Int) : Option (List Int) :=
  (ix a0 ((List.length a22))).bind fun j31 =>
  (a22[j31]?).bind fun x32 =>
  (ix (IntKind.i64.wrap (a0 + 1)) ((List.length a22))).bind fun j33 =>
  (a22[j33]?).bind fun x34 =>
  (ix a0 ((List.length a22))).bind fun j35 =>
  (a22[j35]?).bind fun x36 =>
  (D_arena_Arena_Read x32 (IntKind.i64.wrap (x34 - x36)) a23 a30).bind fun r37 =>
  some r37.2
/- (*backstitch/drive.Driver).begin -/
def D_drive_Driver_begin_2 (a0 : Int) (a1 : List (Int × Int × Int × Int × Int)) (a2 : List Int) (a3 : List Int) (a4 : Int) (a5 : Int) (a6 : Int) (a7 : Int) (a8 : Int) (a9 : Int) (a10 : Int) (a11 : Int) (a12 : Int) (a13 : Int) (a14 : Int) (a15 : Int) (a16 : Int) (a17 : Int) (a18 : Int) (a19 : Int) (a20 : Int) (a21 : List Int) (a22 : List Int) (a23 : List (Int × Int × Int × Int × Int)) (a24 : List (Int × Int × Int × Int × Int)) (a25 : List Int) (a26 : Int) (a27 : Int) (a28 : Int) (a29 : Int) (a30 : Int) (a31 : Int) (a32 : Int) (a33 : List Int) : Option (List Int) :=
  (D_drive_Driver_get_2 0 a4 a5 a6 a7 a8 a9 a10 a11 a12 a13 a14 a15 a16 a17 a18 a19 a20 a21 a22 a23 a24 a25 a26 a27 a28 a29 a30 a31 a32 a33).bind fun r34 =>
  (D_slices_Concat_uint64_uint64 ([a2, r34, a3])).bind fun r35 =>
  gd (zeroFits 8 (IntKind.i64.wrap (a0 - ((((List.length r35) : Nat) : Int))))) (gd (fits (List.length r35 + List.length ((List.replicate (Int.toNat (IntKind.i64.wrap (a0 - ((((List.length r35) : Nat) : Int))))) (0 : Int)))) 8) (some ((r35 ++ (List.replicate (Int.toNat (IntKind.i64.wrap (a0 - ((((List.length r35) : Nat) : Int))))) (0 : Int))))))
/- (*backstitch/drive.Driver).taped -/
def D_drive_Driver_taped_2 (a0 : Int) (a1 : Int) (a2 : Int) (a3 : Int) (a4 : Int) (a5 : Int) (a6 : Int) (a7 : Int) (a8 : Int) (a9 : Int) (a10 : Int) (a11 : Int) (a12 : Int) (a13 : Int) (a14 : Int) (a15 : Int) (a16 : Int) (a17 : List Int) (a18 : List Int) (a19 : List (Int × Int × Int × Int × Int)) (a20 : List (Int × Int × Int × Int × Int)) (a21 : List Int) (a22 : Int) (a23 : Int) (a24 : Int) (a25 : Int) (a26 : Int) (a27 : Int) (a28 : Int) (a29 : List Int) : Option (Int × Int × Int × Int × Int × Int × Int × Int × Int × Int × Int × Int × Int × Int × Int × Int × Int × (List Int) × (List Int) × List Int) :=
  (D_plan_Of a4 a17 a18 a5 a19 a6 a20 a7 a8).bind fun r30 =>
  gd (Nat.beq 1 (Sh.w (.int .u64)) && decide (0 ≤ r30.1) && decide (r30.1 ≤ r30.1) && decide ((8 : Int) * r30.1 ≤ 140737488355328) && Nat.ble 1 8) ((D_drive_Driver_get_2 1 a0 a1 a2 a3 a4 a5 a6 a7 a8 a9 a10 a11 a12 a13 a14 a15 a16 a17 a18 a19 a20 a21 a22 a23 a24 a25 a26 a27 a28 a29).bind fun r31 =>
  gd (Nat.beq 1 (Sh.w (.int .u64)) && decide (0 ≤ r30.1) && decide (r30.1 ≤ r30.1) && decide ((8 : Int) * r30.1 ≤ 140737488355328) && Nat.ble 1 8) ((D_drive_Driver_begin_2 a5 a19 r31 ([IntKind.u64.wrap (a10)]) a0 a1 a2 a3 a4 a5 a6 a7 a8 a9 a10 a11 a12 a13 a14 a15 a16 a17 a18 a19 a20 a21 a22 a23 a24 a25 a26 a27 a28 a29).bind fun r32 =>
  gd (Nat.beq 1 (Sh.w (.int .u64)) && decide (0 ≤ r30.1) && decide (r30.1 ≤ r30.1) && decide ((8 : Int) * r30.1 ≤ 140737488355328) && Nat.ble 1 8) ((D_tape_Record a5 a19 r32 ((List.replicate (Int.toNat r30.1) (0 : Int)))).bind fun r33 =>
  (D_drive_Driver_put_2 2 r33.2.2.1 a0 a1 a2 a3 a4 a5 a6 a7 a8 a9 a10 a11 a12 a13 a14 a15 a16 a17 a18 a19 a20 a21 a22 a23 a24 a25 a26 a27 a28 a29).bind fun r34 =>
  some ((a0, a1, a2, a3, a4, a5, a6, a7, a8, a9, a10, a11, a12, IntKind.i64.wrap (a13 + 1), a14, a15, a16, r34, r33.2.2.1, r33.2.2.2)))))
/- (*backstitch/drive.Driver).shelf -/
def D_drive_Driver_shelf_2 (a0 : Int) (a1 : Int) (a2 : Int) (a3 : Int) (a4 : Int) (a5 : Int) (a6 : Int) (a7 : Int) (a8 : Int) (a9 : Int) (a10 : Int) (a11 : Int) (a12 : Int) (a13 : Int) (a14 : Int) (a15 : Int) (a16 : Int) (a17 : Int) (a18 : List Int) (a19 : List Int) (a20 : List (Int × Int × Int × Int × Int)) (a21 : List (Int × Int × Int × Int × Int)) (a22 : List Int) (a23 : Int) (a24 : Int) (a25 : Int) (a26 : Int) (a27 : Int) (a28 : Int) (a29 : Int) (a30 : List Int) : Option (Int) :=
  (ix 8 ((List.length a22))).bind fun j31 =>
  (a22[j31]?).bind fun x32 =>
  some (IntKind.i64.wrap (x32 + (IntKind.i64.wrap (a0 * a3))))
def D_drive_Driver_back_3_L0 (a22 : List Int) (r34 : Int × (List Int) × List Int) (r37 : List Int) (s40 : Int × List Int) : Option ((Int × List Int) ⊕ (List Int)) :=
  cond (decide (s40.1 < ((((List.length r37) : Nat) : Int))))
    ((ix s40.1 ((List.length s40.2))).bind fun j41 =>
    (s40.2[j41]?).bind fun x42 =>
    (ix (IntKind.i64.wrap (((((List.length a22) : Nat) : Int)) + s40.1)) ((List.length r34.2.2))).bind fun j43 =>
    (r34.2.2[j43]?).bind fun x44 =>
    (ix s40.1 ((List.length s40.2))).bind fun j45 =>
    (s40.2[j45]?).bind fun x46 =>
    some (.inl ((IntKind.i64.wrap (s40.1 + 1), (List.set s40.2 j45 (IntKind.u64.wrap (x42 + x44)))))))
    (some (.inr s40.2))
/- (*backstitch/drive.Driver).back -/
def D_drive_Driver_back_3 (a0 : Int) (a1 : Int) (a2 : Int) (a3 : Int) (a4 : Int) (a5 : Int) (a6 : Int) (a7 : Int) (a8 : Int) (a9 : Int) (a10 : Int) (a11 : Int) (a12 : Int) (a13 : Int) (a14 : Int) (a15 : Int) (a16 : Int) (a17 : Int) (a18 : List (Int × Int × Int × Int × Int)) (a19 : List Int) (a20 : List Int) (a21 : List Int) (a22 : List Int) (a23 : List Int) (a24 : List (Int × Int × Int × Int × Int)) (a25 : List Int) (a26 : Int) (a27 : Int) (a28 : Int) (a29 : Int) (a30 : Int) (a31 : Int) (a32 : Int) (a33 : List Int) : Option (Int × Int × Int × Int × Int × Int × Int × Int × Int × Int × Int × Int × Int × Int × Int × Int × Int × (List Int) × (List Int) × List Int) :=
  (D_sweep_Back a0 a18 a19 a20 a21).bind fun r34 =>
  (D_drive_Driver_put_2 4 r34.2.2 a1 a2 a3 a4 a5 a6 a7 a8 a9 a10 a11 a12 a13 a14 a15 a16 a17 a22 a23 a24 a18 a25 a26 a27 a28 a29 a30 a31 a32 a33).bind fun r35 =>
  gd (cutG 0 ((((List.length a22) : Nat) : Int)) ((List.length r34.2.2))) ((D_drive_Driver_put_2 5 ((List.take (((Int.toNat ((((List.length a22) : Nat) : Int))) - 0)) (List.drop 0 r34.2.2))) a1 a2 a3 a4 a5 a6 a7 a8 a9 a10 a11 a12 a13 a14 a15 a16 a17 a22 a23 a24 a18 a25 a26 a27 a28 a29 a30 a31 a32 r35).bind fun r36 =>
  (D_drive_Driver_get_2 6 a1 a2 a3 a4 a5 a6 a7 a8 a9 a10 a11 a12 a13 a14 a15 a16 a17 a22 a23 a24 a18 a25 a26 a27 a28 a29 a30 a31 a32 r36).bind fun r37 =>
  (loopN (D_drive_Driver_back_3_L0 a22 r34 r37) BIG ((0, r37))).bind fun r47 =>
  (D_drive_Driver_put_2 6 r47 a1 a2 a3 a4 a5 a6 a7 a8 a9 a10 a11 a12 a13 a14 a15 a16 a17 a22 a23 a24 a18 a25 a26 a27 a28 a29 a30 a31 a32 r36).bind fun r48 =>
  some ((a1, a2, a3, a4, a5, a6, a7, a8, a9, a10, a11, a12, a13, a14, a15, IntKind.i64.wrap (a16 + 1), a17, r34.2.1, r34.2.2, r48)))
/- (*backstitch/drive.Driver).end -/
def D_drive_Driver_end_2 (a0 : List Int) (a1 : Int) (a2 : Int) (a3 : Int) (a4 : Int) (a5 : Int) (a6 : Int) (a7 : Int) (a8 : Int) (a9 : Int) (a10 : Int) (a11 : Int) (a12 : Int) (a13 : Int) (a14 : Int) (a15 : Int) (a16 : Int) (a17 : Int) (a18 : List Int) (a19 : List Int) (a20 : List (Int × Int × Int × Int × Int)) (a21 : List (Int × Int × Int × Int × Int)) (a22 : List Int) (a23 : Int) (a24 : Int) (a25 : Int) (a26 : Int) (a27 : Int) (a28 : Int) (a29 : Int) (a30 : List Int) : Option (Int × Int × Int × Int × Int × Int × Int × Int × Int × Int × Int × Int × Int × Int × Int × Int × Int × List Int) :=
  (D_plan_Of a5 a18 a19 a6 a20 a7 a21 a8 a9).bind fun r31 =>
  gd (Nat.beq 1 (Sh.w (.int .u64)) && decide (0 ≤ r31.2) && decide (r31.2 ≤ r31.2) && decide ((8 : Int) * r31.2 ≤ 140737488355328) && Nat.ble 1 8) ((D_drive_Driver_begin_2 a7 a21 a0 [] a1 a2 a3 a4 a5 a6 a7 a8 a9 a10 a11 a12 a13 a14 a15 a16 a17 a18 a19 a20 a21 a22 a23 a24 a25 a26 a27 a28 a29 a30).bind fun r32 =>
  gd (Nat.beq 1 (Sh.w (.int .u64)) && decide (0 ≤ r31.2) && decide (r31.2 ≤ r31.2) && decide ((8 : Int) * r31.2 ≤ 140737488355328) && Nat.ble 1 8) ((D_tape_Record a7 a21 r32 ((List.replicate (Int.toNat r31.2) (0 : Int)))).bind fun r33 =>
  (ix 0 ((List.length r33.2.2.1))).bind fun j34 =>
  (r33.2.2.1[j34]?).bind fun x35 =>
  (D_drive_Driver_put_2 3 r33.2.2.1 a1 a2 a3 a4 a5 a6 a7 a8 a9 a10 a11 a12 a13 a14 (IntKind.i64.wrap (a15 + 1)) a16 x35 a18 a19 a20 a21 a22 a23 a24 a25 a26 a27 a28 a29 a30).bind fun r36 =>
  (D_drive_wide a7 a21 [1]).bind fun r37 =>
  (D_drive_Driver_back_3 a7 a1 a2 a3 a4 a5 a6 a7 a8 a9 a10 a11 a12 a13 a14 (IntKind.i64.wrap (a15 + 1)) a16 x35 a21 r33.2.2.1 r37 r33.2.2.2 a18 a19 a20 a22 a23 a24 a25 a26 a27 a28 a29 r36).bind fun ⟨r38_0, r38_1, r38_2, r38_3, r38_4, r38_5, r38_6, r38_7, r38_8, r38_9, r38_10, r38_11, r38_12, r38_13, r38_14, r38_15, r38_16, r38_17, r38_18, r38_19⟩ =>
  some ((r38_0, r38_1, r38_2, r38_3, r38_4, r38_5, r38_6, r38_7, r38_8, r38_9, r38_10, r38_11, r38_12, r38_13, r38_14, r38_15, r38_16, r38_19))))
/- (*backstitch/drive.Driver).seed -/
def D_drive_Driver_seed_2 (a0 : Int) (a1 : Int) (a2 : Int) (a3 : Int) (a4 : Int) (a5 : Int) (a6 : Int) (a7 : Int) (a8 : Int) (a9 : Int) (a10 : Int) (a11 : Int) (a12 : Int) (a13 : Int) (a14 : Int) (a15 : Int) (a16 : Int) (a17 : Int) (a18 : List Int) (a19 : List Int) (a20 : List (Int × Int × Int × Int × Int)) (a21 : List (Int × Int × Int × Int × Int)) (a22 : List Int) (a23 : Int) (a24 : Int) (a25 : Int) (a26 : Int) (a27 : Int) (a28 : Int) (a29 : Int) (a30 : List Int) : Option (Int × Int × Int × Int × Int × Int × Int × Int × Int × Int × Int × Int × Int × Int × Int × Int × Int × Int × Int × Int × List Int) :=
  (D_plan_Of a5 a18 a19 a6 a20 a7 a21 a8 a9).bind fun r31 =>
  (D_meter_Meter_Hold r31.2 a27 a28 a29).bind fun r32 =>
  (D_drive_Driver_get_2 1 a1 a2 a3 a4 a5 a6 a7 a8 a9 a10 a11 a12 a13 a14 a15 a16 a17 a18 a19 a20 a21 a22 a23 a24 a25 a26 r32.2.1 r32.2.2.1 r32.2.2.2 a30).bind fun r33 =>
  (D_drive_Driver_end_2 r33 a1 a2 a3 a4 a5 a6 a7 a8 a9 a10 a11 a12 a13 a14 a15 a16 a17 a18 a19 a20 a21 a22 a23 a24 a25 a26 r32.2.1 r32.2.2.1 r32.2.2.2 a30).bind fun ⟨r34_0, r34_1, r34_2, r34_3, r34_4, r34_5, r34_6, r34_7, r34_8, r34_9, r34_10, r34_11, r34_12, r34_13, r34_14, r34_15, r34_16, r34_17⟩ =>
  (D_meter_Meter_Drop r31.2 r32.2.1 r32.2.2.1 r32.2.2.2).bind fun r35 =>
  some ((r34_0, r34_1, r34_2, r34_3, r34_4, r34_5, r34_6, r34_7, r34_8, r34_9, r34_10, r34_11, r34_12, r34_13, r34_14, r34_15, r34_16, r35.2.1, r35.2.2.1, r35.2.2.2, r34_17))
def D_drive_Driver_plain_2_L0 (a19 : List Int) (r47 : List Int) (r51 : List Int) (s54 : Int × List Int) : Option ((Int × List Int) ⊕ (List Int)) :=
  cond (decide (s54.1 < ((((List.length r51) : Nat) : Int))))
    ((ix s54.1 ((List.length s54.2))).bind fun j55 =>
    (s54.2[j55]?).bind fun x56 =>
    (ix (IntKind.i64.wrap (((((List.length a19) : Nat) : Int)) + s54.1)) ((List.length r47))).bind fun j57 =>
    (r47[j57]?).bind fun x58 =>
    (ix s54.1 ((List.length s54.2))).bind fun j59 =>
    (s54.2[j59]?).bind fun x60 =>
    some (.inl ((IntKind.i64.wrap (s54.1 + 1), (List.set s54.2 j59 (IntKind.u64.wrap (x56 + x58)))))))
    (some (.inr s54.2))
def D_drive_Driver_plain_2_L1 (a19 : List Int) (r47 : List Int) (r68 : List Int) (s71 : Int × List Int) : Option ((Int × List Int) ⊕ (List Int)) :=
  cond (decide (s71.1 < ((((List.length r68) : Nat) : Int))))
    ((ix s71.1 ((List.length s71.2))).bind fun j72 =>
    (s71.2[j72]?).bind fun x73 =>
    (ix (IntKind.i64.wrap (((((List.length a19) : Nat) : Int)) + s71.1)) ((List.length r47))).bind fun j74 =>
    (r47[j74]?).bind fun x75 =>
    (ix s71.1 ((List.length s71.2))).bind fun j76 =>
    (s71.2[j76]?).bind fun x77 =>
    some (.inl ((IntKind.i64.wrap (s71.1 + 1), (List.set s71.2 j76 (IntKind.u64.wrap (x73 + x75)))))))
    (some (.inr s71.2))
def D_drive_Driver_plain_2_L2 (a19 : List Int) (r47 : List Int) (r84 : List Int) (s87 : Int × List Int) : Option ((Int × List Int) ⊕ (List Int)) :=
  cond (decide (s87.1 < ((((List.length r84) : Nat) : Int))))
    ((ix s87.1 ((List.length s87.2))).bind fun j88 =>
    (s87.2[j88]?).bind fun x89 =>
    (ix (IntKind.i64.wrap (((((List.length a19) : Nat) : Int)) + s87.1)) ((List.length r47))).bind fun j90 =>
    (r47[j90]?).bind fun x91 =>
    (ix s87.1 ((List.length s87.2))).bind fun j92 =>
    (s87.2[j92]?).bind fun x93 =>
    some (.inl ((IntKind.i64.wrap (s87.1 + 1), (List.set s87.2 j92 (IntKind.u64.wrap (x89 + x91)))))))
    (some (.inr s87.2))
def D_drive_Driver_plain_2_L3 (a19 : List Int) (r47 : List Int) (r100 : List Int) (s103 : Int × List Int) : Option ((Int × List Int) ⊕ (List Int)) :=
  cond (decide (s103.1 < ((((List.length r100) : Nat) : Int))))
    ((ix s103.1 ((List.length s103.2))).bind fun j104 =>
    (s103.2[j104]?).bind fun x105 =>
    (ix (IntKind.i64.wrap (((((List.length a19) : Nat) : Int)) + s103.1)) ((List.length r47))).bind fun j106 =>
    (r47[j106]?).bind fun x107 =>
    (ix s103.1 ((List.length s103.2))).bind fun j108 =>
    (s103.2[j108]?).bind fun x109 =>
    some (.inl ((IntKind.i64.wrap (s103.1 + 1), (List.set s103.2 j108 (IntKind.u64.wrap (x105 + x107)))))))
    (some (.inr s103.2))
def D_drive_Driver_plain_2_L4 (a7 : Int) (r45 : Int × List Int) (r48 : Int × List (Int × Int × Int × Int × Int × Int)) : (Int × Int × Int × (List Int) × (List Int) × Int × Int × Int × Int × Int × Int × Int × Int) → Option ((Int × Int × Int × (List Int) × (List Int) × Int × Int × Int × Int × Int × Int × Int × Int) ⊕ ((List Int) × (List Int) × Int × Int × Int × Int × Int × Int × Int × Int)) := fun ⟨s135_0, s135_1, s135_2, s135_3, s135_4, s135_5, s135_6, s135_7, s135_8, s135_9, s135_10, s135_11, s135_12⟩ =>
  cond (decide (s135_0 < 0))
    (some (.inr (((s135_3, s135_4, s135_5, s135_6, s135_7, s135_8, s135_9, s135_10, s135_11, s135_12)))))
    ((ix s135_0 ((List.length r48.2))).bind fun j136 =>
    (r48.2[j136]?).bind fun x137 =>
    cond (decide (x137.1 = 0))
      ((ix (IntKind.i64.wrap (x137.2.2.2.2.2 - 1)) ((List.length r48.2))).bind fun j138 =>
      (r48.2[j138]?).bind fun x139 =>
      (ix s135_1 8).bind fun j140 =>
      some (.inl ((IntKind.i64.wrap (s135_0 - 1), IntKind.i64.wrap (s135_1 + 1), s135_2, s135_3, s135_4, (cond (Nat.beq j140 0) x139.2.2.2.2.1 s135_5), (cond (Nat.beq j140 1) x139.2.2.2.2.1 s135_6), (cond (Nat.beq j140 2) x139.2.2.2.2.1 s135_7), (cond (Nat.beq j140 3) x139.2.2.2.2.1 s135_8), (cond (Nat.beq j140 4) x139.2.2.2.2.1 s135_9), (cond (Nat.beq j140 5) x139.2.2.2.2.1 s135_10), (cond (Nat.beq j140 6) x139.2.2.2.2.1 s135_11), (cond (Nat.beq j140 7) x139.2.2.2.2.1 s135_12)))))
      (cond (decide (x137.1 = 7))
        ((ix (IntKind.i64.wrap (s135_1 - 1)) 8).bind fun j141 =>
        (ix (IntKind.i64.wrap (s135_1 - 1)) 8).bind fun j142 =>
        (ix (IntKind.i64.wrap (s135_1 - 1)) 8).bind fun j143 =>
        cond (decide (0 < ((List.getD [(cond (Nat.beq j142 0) (IntKind.u64.wrap (((List.getD [s135_5, s135_6, s135_7, s135_8, s135_9, s135_10, s135_11, s135_12] j141 0)) - 1)) s135_5), (cond (Nat.beq j142 1) (IntKind.u64.wrap (((List.getD [s135_5, s135_6, s135_7, s135_8, s135_9, s135_10, s135_11, s135_12] j141 0)) - 1)) s135_6), (cond (Nat.beq j142 2) (IntKind.u64.wrap (((List.getD [s135_5, s135_6, s135_7, s135_8, s135_9, s135_10, s135_11, s135_12] j141 0)) - 1)) s135_7), (cond (Nat.beq j142 3) (IntKind.u64.wrap (((List.getD [s135_5, s135_6, s135_7, s135_8, s135_9, s135_10, s135_11, s135_12] j141 0)) - 1)) s135_8), (cond (Nat.beq j142 4) (IntKind.u64.wrap (((List.getD [s135_5, s135_6, s135_7, s135_8, s135_9, s135_10, s135_11, s135_12] j141 0)) - 1)) s135_9), (cond (Nat.beq j142 5) (IntKind.u64.wrap (((List.getD [s135_5, s135_6, s135_7, s135_8, s135_9, s135_10, s135_11, s135_12] j141 0)) - 1)) s135_10), (cond (Nat.beq j142 6) (IntKind.u64.wrap (((List.getD [s135_5, s135_6, s135_7, s135_8, s135_9, s135_10, s135_11, s135_12] j141 0)) - 1)) s135_11), (cond (Nat.beq j142 7) (IntKind.u64.wrap (((List.getD [s135_5, s135_6, s135_7, s135_8, s135_9, s135_10, s135_11, s135_12] j141 0)) - 1)) s135_12)] j143 0))))
          (some (.inl ((IntKind.i64.wrap (x137.2.2.2.2.2 - 2), s135_1, s135_2, s135_3, s135_4, (cond (Nat.beq j142 0) (IntKind.u64.wrap (((List.getD [s135_5, s135_6, s135_7, s135_8, s135_9, s135_10, s135_11, s135_12] j141 0)) - 1)) s135_5), (cond (Nat.beq j142 1) (IntKind.u64.wrap (((List.getD [s135_5, s135_6, s135_7, s135_8, s135_9, s135_10, s135_11, s135_12] j141 0)) - 1)) s135_6), (cond (Nat.beq j142 2) (IntKind.u64.wrap (((List.getD [s135_5, s135_6, s135_7, s135_8, s135_9, s135_10, s135_11, s135_12] j141 0)) - 1)) s135_7), (cond (Nat.beq j142 3) (IntKind.u64.wrap (((List.getD [s135_5, s135_6, s135_7, s135_8, s135_9, s135_10, s135_11, s135_12] j141 0)) - 1)) s135_8), (cond (Nat.beq j142 4) (IntKind.u64.wrap (((List.getD [s135_5, s135_6, s135_7, s135_8, s135_9, s135_10, s135_11, s135_12] j141 0)) - 1)) s135_9), (cond (Nat.beq j142 5) (IntKind.u64.wrap (((List.getD [s135_5, s135_6, s135_7, s135_8, s135_9, s135_10, s135_11, s135_12] j141 0)) - 1)) s135_10), (cond (Nat.beq j142 6) (IntKind.u64.wrap (((List.getD [s135_5, s135_6, s135_7, s135_8, s135_9, s135_10, s135_11, s135_12] j141 0)) - 1)) s135_11), (cond (Nat.beq j142 7) (IntKind.u64.wrap (((List.getD [s135_5, s135_6, s135_7, s135_8, s135_9, s135_10, s135_11, s135_12] j141 0)) - 1)) s135_12)))))
          (some (.inl ((IntKind.i64.wrap (s135_0 - 1), IntKind.i64.wrap (s135_1 - 1), s135_2, s135_3, s135_4, (cond (Nat.beq j142 0) (IntKind.u64.wrap (((List.getD [s135_5, s135_6, s135_7, s135_8, s135_9, s135_10, s135_11, s135_12] j141 0)) - 1)) s135_5), (cond (Nat.beq j142 1) (IntKind.u64.wrap (((List.getD [s135_5, s135_6, s135_7, s135_8, s135_9, s135_10, s135_11, s135_12] j141 0)) - 1)) s135_6), (cond (Nat.beq j142 2) (IntKind.u64.wrap (((List.getD [s135_5, s135_6, s135_7, s135_8, s135_9, s135_10, s135_11, s135_12] j141 0)) - 1)) s135_7), (cond (Nat.beq j142 3) (IntKind.u64.wrap (((List.getD [s135_5, s135_6, s135_7, s135_8, s135_9, s135_10, s135_11, s135_12] j141 0)) - 1)) s135_8), (cond (Nat.beq j142 4) (IntKind.u64.wrap (((List.getD [s135_5, s135_6, s135_7, s135_8, s135_9, s135_10, s135_11, s135_12] j141 0)) - 1)) s135_9), (cond (Nat.beq j142 5) (IntKind.u64.wrap (((List.getD [s135_5, s135_6, s135_7, s135_8, s135_9, s135_10, s135_11, s135_12] j141 0)) - 1)) s135_10), (cond (Nat.beq j142 6) (IntKind.u64.wrap (((List.getD [s135_5, s135_6, s135_7, s135_8, s135_9, s135_10, s135_11, s135_12] j141 0)) - 1)) s135_11), (cond (Nat.beq j142 7) (IntKind.u64.wrap (((List.getD [s135_5, s135_6, s135_7, s135_8, s135_9, s135_10, s135_11, s135_12] j141 0)) - 1)) s135_12))))))
        ((ix x137.2.1 ((List.length s135_4))).bind fun j144 =>
        (s135_4[j144]?).bind fun x145 =>
        (ix x137.2.1 ((List.length s135_4))).bind fun j146 =>
        (s135_4[j146]?).bind fun x147 =>
        (ix (IntKind.i64.wrap (s135_2 - 1)) (((Int.toNat (IntKind.i64.wrap (((((List.length r45.2) : Nat) : Int)) - a7))) - 0))).bind fun j148 =>
        (s135_3[(0 + j148)]?).bind fun x149 =>
        (ix x137.2.1 (((Int.toNat ((((List.length r45.2) : Nat) : Int))) - (Int.toNat (IntKind.i64.wrap (((((List.length r45.2) : Nat) : Int)) - a7)))))).bind fun j150 =>
        (s135_3[((Int.toNat (IntKind.i64.wrap (((((List.length r45.2) : Nat) : Int)) - a7))) + j150)]?).bind fun x151 =>
        (ix x137.2.2.1 (((Int.toNat ((((List.length r45.2) : Nat) : Int))) - (Int.toNat (IntKind.i64.wrap (((((List.length r45.2) : Nat) : Int)) - a7)))))).bind fun j152 =>
        (((List.set s135_3 ((Int.toNat (IntKind.i64.wrap (((((List.length r45.2) : Nat) : Int)) - a7))) + j150) x149))[((Int.toNat (IntKind.i64.wrap (((((List.length r45.2) : Nat) : Int)) - a7))) + j152)]?).bind fun x153 =>
        (ix x137.2.2.2.1 (((Int.toNat ((((List.length r45.2) : Nat) : Int))) - (Int.toNat (IntKind.i64.wrap (((((List.length r45.2) : Nat) : Int)) - a7)))))).bind fun j154 =>
        (((List.set s135_3 ((Int.toNat (IntKind.i64.wrap (((((List.length r45.2) : Nat) : Int)) - a7))) + j150) x149))[((Int.toNat (IntKind.i64.wrap (((((List.length r45.2) : Nat) : Int)) - a7))) + j154)]?).bind fun x155 =>
        (D_opcode_Partials x137.1 x137.2.1 x137.2.2.1 x137.2.2.2.1 x137.2.2.2.2.1 x153 x155).bind fun r156 =>
        (ix x137.2.2.1 ((List.length ((List.set s135_4 j146 0))))).bind fun j157 =>
        (((List.set s135_4 j146 0))[j157]?).bind fun x158 =>
        (ix x137.2.2.1 ((List.length ((List.set s135_4 j146 0))))).bind fun j159 =>
        (((List.set s135_4 j146 0))[j159]?).bind fun x160 =>
        (ix x137.2.2.2.1 ((List.length ((List.set ((List.set s135_4 j146 0)) j159 (IntKind.u64.wrap (x158 + (IntKind.u64.wrap (r156.1 * x145))))))))).bind fun j161 =>
        (((List.set ((List.set s135_4 j146 0)) j159 (IntKind.u64.wrap (x158 + (IntKind.u64.wrap (r156.1 * x145))))))[j161]?).bind fun x162 =>
        (ix x137.2.2.2.1 ((List.length ((List.set ((List.set s135_4 j146 0)) j159 (IntKind.u64.wrap (x158 + (IntKind.u64.wrap (r156.1 * x145))))))))).bind fun j163 =>
        (((List.set ((List.set s135_4 j146 0)) j159 (IntKind.u64.wrap (x158 + (IntKind.u64.wrap (r156.1 * x145))))))[j163]?).bind fun x164 =>
        some (.inl ((IntKind.i64.wrap (s135_0 - 1), s135_1, IntKind.i64.wrap (s135_2 - 1), (List.set s135_3 ((Int.toNat (IntKind.i64.wrap (((((List.length r45.2) : Nat) : Int)) - a7))) + j150) x149), (List.set ((List.set ((List.set s135_4 j146 0)) j159 (IntKind.u64.wrap (x158 + (IntKind.u64.wrap (r156.1 * x145)))))) j163 (IntKind.u64.wrap (x162 + (IntKind.u64.wrap (r156.2 * x145))))), s135_5, s135_6, s135_7, s135_8, s135_9, s135_10, s135_11, s135_12))))))
def D_drive_Driver_plain_2_L5 (a19 : List Int) (r165_1 : List Int) (r168 : List Int) (s171 : Int × List Int) : Option ((Int × List Int) ⊕ (List Int)) :=
  cond (decide (s171.1 < ((((List.length r168) : Nat) : Int))))
    ((ix s171.1 ((List.length s171.2))).bind fun j172 =>
    (s171.2[j172]?).bind fun x173 =>
    (ix (IntKind.i64.wrap (((((List.length a19) : Nat) : Int)) + s171.1)) ((List.length r165_1))).bind fun j174 =>
    (r165_1[j174]?).bind fun x175 =>
    (ix s171.1 ((List.length s171.2))).bind fun j176 =>
    (s171.2[j176]?).bind fun x177 =>
    some (.inl ((IntKind.i64.wrap (s171.1 + 1), (List.set s171.2 j176 (IntKind.u64.wrap (x173 + x175)))))))
    (some (.inr s171.2))
/- (*backstitch/drive.Driver).plain -/
def D_drive_Driver_plain_2 (a0 : Int) (a1 : Int) (a2 : Int) (a3 : Int) (a4 : Int) (a5 : Int) (a6 : Int) (a7 : Int) (a8 : Int) (a9 : Int) (a10 : Int) (a11 : Int) (a12 : Int) (a13 : Int) (a14 : Int) (a15 : Int) (a16 : Int) (a17 : Int) (a18 : Int) (a19 : List Int) (a20 : List Int) (a21 : List (Int × Int × Int × Int × Int)) (a22 : List (Int × Int × Int × Int × Int)) (a23 : List Int) (a24 : Int) (a25 : Int) (a26 : Int) (a27 : Int) (a28 : Int) (a29 : Int) (a30 : Int) (a31 : List Int) : Option (Int × Int × Int × Int × Int × Int × Int × Int × Int × Int × Int × Int × Int × Int × Int × Int × Int × Int × Int × Int × Int × List Int) :=
  (((cond (decide (a0 = 8))
    (some true)
    (some (decide (a0 = 5)))) : Option (Bool))).bind fun s32 =>
  ((((((cond (decide (a1 ≠ 0))
    (some true)
    (cond (!s32)
      (some (decide (a0 ≠ 9)))
      (some false))) : Option (Bool))).bind fun s33 =>
  cond (s33)
    (some ((.inl 2)))
    ((((cond (s32)
      (cond (decide (0 ≤ a13))
        (some true)
        (cond (!s32)
          (some (decide (a13 < 1)))
          (some false)))
      (cond (!s32)
        (some (decide (a13 < 1)))
        (some false))) : Option (Bool))).bind fun s34 =>
    cond (s34)
      (some ((.inl 18)))
      (cond (s32)
        (cond (!((decide (a0 = 5)) == (decide (a12 = a11))))
          (some ((.inl 17)))
          (some ((.inr ()))))
        (some ((.inr ())))))) : Option ((Int) ⊕ (Unit)))).bind fun s35 =>
  caseS s35 (fun u36 =>
    some ((u36, a2, a3, a4, a5, a6, a7, a8, a9, a10, a11, a12, a13, a14, a15, a16, a17, a18, a28, a29, a30, a31)))
    (fun w37 =>
    cond (decide (a0 = 8))
      ((D_meter_Meter_Hold a4 a28 a29 a30).bind fun r38 =>
      (D_drive_Driver_taped_2 a2 a3 a4 a5 a6 a7 a8 a9 a10 a11 a12 a13 a14 a15 a16 a17 a18 a19 a20 a21 a22 a23 a24 a25 a26 a27 r38.2.1 r38.2.2.1 r38.2.2.2 a31).bind fun ⟨r39_0, r39_1, r39_2, r39_3, r39_4, r39_5, r39_6, r39_7, r39_8, r39_9, r39_10, r39_11, r39_12, r39_13, r39_14, r39_15, r39_16, r39_17, r39_18, r39_19⟩ =>
      (D_drive_Driver_shelf_2 r39_10 r39_0 r39_1 r39_2 r39_3 r39_4 r39_5 r39_6 r39_7 r39_8 r39_9 r39_10 r39_11 r39_12 r39_13 r39_14 r39_15 r39_16 a19 a20 a21 a22 a23 a24 a25 a26 a27 r38.2.1 r38.2.2.1 r38.2.2.2 r39_17).bind fun r40 =>
      gd (fits (List.length r39_19 + List.length r39_18) 8) ((D_arena_Arena_Write r40 ((r39_19 ++ r39_18)) a24 r39_17).bind fun r41 =>
      gd (cutG 0 ((((List.length a19) : Nat) : Int)) ((List.length r39_18))) ((D_drive_Driver_put_2 1 ((List.take (((Int.toNat ((((List.length a19) : Nat) : Int))) - 0)) (List.drop 0 r39_18))) r39_0 r39_1 r39_2 r39_3 r39_4 r39_5 r39_6 r39_7 r39_8 r39_9 r39_10 r39_11 r39_12 r39_13 r39_14 r39_15 r39_16 a19 a20 a21 a22 a23 a24 a25 a26 a27 r38.2.1 r38.2.2.1 r38.2.2.2 r41.2).bind fun r42 =>
      some ((0, r39_0, r39_1, r39_2, r39_3, r39_4, r39_5, r39_6, r39_7, r39_8, r39_9, IntKind.i64.wrap (r39_10 + 1), r39_11, r39_12, r39_13, r39_14, r39_15, r39_16, r38.2.1, r38.2.2.1, r38.2.2.2, r42)))))
      (cond (decide (a0 = 5))
        ((D_drive_Driver_seed_2 0 a2 a3 a4 a5 a6 a7 a8 a9 a10 a11 a12 a13 a14 a15 a16 a17 a18 a19 a20 a21 a22 a23 a24 a25 a26 a27 a28 a29 a30 a31).bind fun ⟨r43_0, r43_1, r43_2, r43_3, r43_4, r43_5, r43_6, r43_7, r43_8, r43_9, r43_10, r43_11, r43_12, r43_13, r43_14, r43_15, r43_16, r43_17, r43_18, r43_19, r43_20⟩ =>
        some ((0, r43_0, r43_1, r43_2, r43_3, r43_4, r43_5, r43_6, r43_7, r43_8, r43_9, r43_10, r43_9, r43_12, r43_13, r43_14, r43_15, r43_16, r43_17, r43_18, r43_19, r43_20)))
        ((D_drive_Driver_shelf_2 (IntKind.i64.wrap (a13 - 1)) a2 a3 a4 a5 a6 a7 a8 a9 a10 a11 (IntKind.i64.wrap (a13 - 1)) (IntKind.i64.wrap (a13 - 1)) a14 a15 a16 a17 a18 a19 a20 a21 a22 a23 a24 a25 a26 a27 a28 a29 a30 a31).bind fun r44 =>
        (D_arena_Arena_Read r44 a4 a24 a31).bind fun r45 =>
        gd (cutG (IntKind.i64.wrap (((((List.length r45.2) : Nat) : Int)) - a7)) ((((List.length r45.2) : Nat) : Int)) ((List.length r45.2))) (gd (cutG 0 (IntKind.i64.wrap (((((List.length r45.2) : Nat) : Int)) - a7)) ((List.length r45.2))) ((D_drive_Driver_get_2 5 a2 a3 a4 a5 a6 a7 a8 a9 a10 a11 (IntKind.i64.wrap (a13 - 1)) (IntKind.i64.wrap (a13 - 1)) a14 a15 a16 a17 a18 a19 a20 a21 a22 a23 a24 a25 a26 a27 a28 a29 a30 a31).bind fun r46 =>
        (D_drive_wide a7 a21 r46).bind fun r47 =>
        (D_flat_Code a7 a21).bind fun r48 =>
        cond (decide (r48.1 ≠ 0))
          ((D_drive_Driver_put_2 4 r47 a2 a3 a4 a5 a6 a7 a8 a9 a10 a11 (IntKind.i64.wrap (a13 - 1)) (IntKind.i64.wrap (a13 - 1)) a14 a15 a16 a17 a18 a19 a20 a21 a22 a23 a24 a25 a26 a27 a28 a29 a30 a31).bind fun r49 =>
          gd (cutG 0 ((((List.length a19) : Nat) : Int)) ((List.length r47))) ((D_drive_Driver_put_2 5 ((List.take (((Int.toNat ((((List.length a19) : Nat) : Int))) - 0)) (List.drop 0 r47))) a2 a3 a4 a5 a6 a7 a8 a9 a10 a11 (IntKind.i64.wrap (a13 - 1)) (IntKind.i64.wrap (a13 - 1)) a14 a15 a16 a17 a18 a19 a20 a21 a22 a23 a24 a25 a26 a27 a28 a29 a30 r49).bind fun r50 =>
          (D_drive_Driver_get_2 6 a2 a3 a4 a5 a6 a7 a8 a9 a10 a11 (IntKind.i64.wrap (a13 - 1)) (IntKind.i64.wrap (a13 - 1)) a14 a15 a16 a17 a18 a19 a20 a21 a22 a23 a24 a25 a26 a27 a28 a29 a30 r50).bind fun r51 =>
          (loopN (D_drive_Driver_plain_2_L0 a19 r47 r51) BIG ((0, r51))).bind fun r61 =>
          (D_drive_Driver_put_2 6 r61 a2 a3 a4 a5 a6 a7 a8 a9 a10 a11 (IntKind.i64.wrap (a13 - 1)) (IntKind.i64.wrap (a13 - 1)) a14 a15 a16 a17 a18 a19 a20 a21 a22 a23 a24 a25 a26 a27 a28 a29 a30 r50).bind fun r62 =>
          gd (cutG (IntKind.i64.wrap (((((List.length r45.2) : Nat) : Int)) - a7)) (IntKind.i64.wrap ((IntKind.i64.wrap (((((List.length r45.2) : Nat) : Int)) - a7)) + ((((List.length a19) : Nat) : Int)))) ((List.length r45.2))) ((D_drive_Driver_put_2 1 ((List.take (((Int.toNat (IntKind.i64.wrap ((IntKind.i64.wrap (((((List.length r45.2) : Nat) : Int)) - a7)) + ((((List.length a19) : Nat) : Int))))) - (Int.toNat (IntKind.i64.wrap (((((List.length r45.2) : Nat) : Int)) - a7))))) (List.drop ((Int.toNat (IntKind.i64.wrap (((((List.length r45.2) : Nat) : Int)) - a7)))) r45.2))) a2 a3 a4 a5 a6 a7 a8 a9 a10 a11 (IntKind.i64.wrap (a13 - 1)) (IntKind.i64.wrap (a13 - 1)) a14 a15 a16 (IntKind.i64.wrap (a17 + 1)) a18 a19 a20 a21 a22 a23 a24 a25 a26 a27 a28 a29 a30 r62).bind fun r63 =>
          (D_meter_Meter_Drop a4 a28 a29 a30).bind fun r64 =>
          some ((0, a2, a3, a4, a5, a6, a7, a8, a9, a10, a11, IntKind.i64.wrap (a13 - 1), IntKind.i64.wrap (a13 - 1), a14, a15, a16, IntKind.i64.wrap (a17 + 1), a18, r64.2.1, r64.2.2.1, r64.2.2.2, r63)))))
          ((D_size_Writes a21).bind fun r65 =>
          cond (decide ((((((Int.toNat ((((List.length r45.2) : Nat) : Int))) - (Int.toNat (IntKind.i64.wrap (((((List.length r45.2) : Nat) : Int)) - a7)))) : Nat) : Int)) ≠ a7))
            ((D_drive_Driver_put_2 4 r47 a2 a3 a4 a5 a6 a7 a8 a9 a10 a11 (IntKind.i64.wrap (a13 - 1)) (IntKind.i64.wrap (a13 - 1)) a14 a15 a16 a17 a18 a19 a20 a21 a22 a23 a24 a25 a26 a27 a28 a29 a30 a31).bind fun r66 =>
            gd (cutG 0 ((((List.length a19) : Nat) : Int)) ((List.length r47))) ((D_drive_Driver_put_2 5 ((List.take (((Int.toNat ((((List.length a19) : Nat) : Int))) - 0)) (List.drop 0 r47))) a2 a3 a4 a5 a6 a7 a8 a9 a10 a11 (IntKind.i64.wrap (a13 - 1)) (IntKind.i64.wrap (a13 - 1)) a14 a15 a16 a17 a18 a19 a20 a21 a22 a23 a24 a25 a26 a27 a28 a29 a30 r66).bind fun r67 =>
            (D_drive_Driver_get_2 6 a2 a3 a4 a5 a6 a7 a8 a9 a10 a11 (IntKind.i64.wrap (a13 - 1)) (IntKind.i64.wrap (a13 - 1)) a14 a15 a16 a17 a18 a19 a20 a21 a22 a23 a24 a25 a26 a27 a28 a29 a30 r67).bind fun r68 =>
            (loopN (D_drive_Driver_plain_2_L1 a19 r47 r68) BIG ((0, r68))).bind fun r78 =>
            (D_drive_Driver_put_2 6 r78 a2 a3 a4 a5 a6 a7 a8 a9 a10 a11 (IntKind.i64.wrap (a13 - 1)) (IntKind.i64.wrap (a13 - 1)) a14 a15 a16 a17 a18 a19 a20 a21 a22 a23 a24 a25 a26 a27 a28 a29 a30 r67).bind fun r79 =>
            gd (cutG (IntKind.i64.wrap (((((List.length r45.2) : Nat) : Int)) - a7)) (IntKind.i64.wrap ((IntKind.i64.wrap (((((List.length r45.2) : Nat) : Int)) - a7)) + ((((List.length a19) : Nat) : Int)))) ((List.length r45.2))) ((D_drive_Driver_put_2 1 ((List.take (((Int.toNat (IntKind.i64.wrap ((IntKind.i64.wrap (((((List.length r45.2) : Nat) : Int)) - a7)) + ((((List.length a19) : Nat) : Int))))) - (Int.toNat (IntKind.i64.wrap (((((List.length r45.2) : Nat) : Int)) - a7))))) (List.drop ((Int.toNat (IntKind.i64.wrap (((((List.length r45.2) : Nat) : Int)) - a7)))) r45.2))) a2 a3 a4 a5 a6 a7 a8 a9 a10 a11 (IntKind.i64.wrap (a13 - 1)) (IntKind.i64.wrap (a13 - 1)) a14 a15 a16 (IntKind.i64.wrap (a17 + 1)) a18 a19 a20 a21 a22 a23 a24 a25 a26 a27 a28 a29 a30 r79).bind fun r80 =>
            (D_meter_Meter_Drop a4 a28 a29 a30).bind fun r81 =>
            some ((0, a2, a3, a4, a5, a6, a7, a8, a9, a10, a11, IntKind.i64.wrap (a13 - 1), IntKind.i64.wrap (a13 - 1), a14, a15, a16, IntKind.i64.wrap (a17 + 1), a18, r81.2.1, r81.2.2.1, r81.2.2.2, r80)))))
            (cond (decide (((((List.length r47) : Nat) : Int)) ≠ a7))
              ((D_drive_Driver_put_2 4 r47 a2 a3 a4 a5 a6 a7 a8 a9 a10 a11 (IntKind.i64.wrap (a13 - 1)) (IntKind.i64.wrap (a13 - 1)) a14 a15 a16 a17 a18 a19 a20 a21 a22 a23 a24 a25 a26 a27 a28 a29 a30 a31).bind fun r82 =>
              gd (cutG 0 ((((List.length a19) : Nat) : Int)) ((List.length r47))) ((D_drive_Driver_put_2 5 ((List.take (((Int.toNat ((((List.length a19) : Nat) : Int))) - 0)) (List.drop 0 r47))) a2 a3 a4 a5 a6 a7 a8 a9 a10 a11 (IntKind.i64.wrap (a13 - 1)) (IntKind.i64.wrap (a13 - 1)) a14 a15 a16 a17 a18 a19 a20 a21 a22 a23 a24 a25 a26 a27 a28 a29 a30 r82).bind fun r83 =>
              (D_drive_Driver_get_2 6 a2 a3 a4 a5 a6 a7 a8 a9 a10 a11 (IntKind.i64.wrap (a13 - 1)) (IntKind.i64.wrap (a13 - 1)) a14 a15 a16 a17 a18 a19 a20 a21 a22 a23 a24 a25 a26 a27 a28 a29 a30 r83).bind fun r84 =>
              (loopN (D_drive_Driver_plain_2_L2 a19 r47 r84) BIG ((0, r84))).bind fun r94 =>
              (D_drive_Driver_put_2 6 r94 a2 a3 a4 a5 a6 a7 a8 a9 a10 a11 (IntKind.i64.wrap (a13 - 1)) (IntKind.i64.wrap (a13 - 1)) a14 a15 a16 a17 a18 a19 a20 a21 a22 a23 a24 a25 a26 a27 a28 a29 a30 r83).bind fun r95 =>
              gd (cutG (IntKind.i64.wrap (((((List.length r45.2) : Nat) : Int)) - a7)) (IntKind.i64.wrap ((IntKind.i64.wrap (((((List.length r45.2) : Nat) : Int)) - a7)) + ((((List.length a19) : Nat) : Int)))) ((List.length r45.2))) ((D_drive_Driver_put_2 1 ((List.take (((Int.toNat (IntKind.i64.wrap ((IntKind.i64.wrap (((((List.length r45.2) : Nat) : Int)) - a7)) + ((((List.length a19) : Nat) : Int))))) - (Int.toNat (IntKind.i64.wrap (((((List.length r45.2) : Nat) : Int)) - a7))))) (List.drop ((Int.toNat (IntKind.i64.wrap (((((List.length r45.2) : Nat) : Int)) - a7)))) r45.2))) a2 a3 a4 a5 a6 a7 a8 a9 a10 a11 (IntKind.i64.wrap (a13 - 1)) (IntKind.i64.wrap (a13 - 1)) a14 a15 a16 (IntKind.i64.wrap (a17 + 1)) a18 a19 a20 a21 a22 a23 a24 a25 a26 a27 a28 a29 a30 r95).bind fun r96 =>
              (D_meter_Meter_Drop a4 a28 a29 a30).bind fun r97 =>
              some ((0, a2, a3, a4, a5, a6, a7, a8, a9, a10, a11, IntKind.i64.wrap (a13 - 1), IntKind.i64.wrap (a13 - 1), a14, a15, a16, IntKind.i64.wrap (a17 + 1), a18, r97.2.1, r97.2.2.1, r97.2.2.2, r96)))))
              (cond (decide ((((((Int.toNat (IntKind.i64.wrap (((((List.length r45.2) : Nat) : Int)) - a7))) - 0) : Nat) : Int)) < r65.1))
                ((D_drive_Driver_put_2 4 r47 a2 a3 a4 a5 a6 a7 a8 a9 a10 a11 (IntKind.i64.wrap (a13 - 1)) (IntKind.i64.wrap (a13 - 1)) a14 a15 a16 a17 a18 a19 a20 a21 a22 a23 a24 a25 a26 a27 a28 a29 a30 a31).bind fun r98 =>
                gd (cutG 0 ((((List.length a19) : Nat) : Int)) ((List.length r47))) ((D_drive_Driver_put_2 5 ((List.take (((Int.toNat ((((List.length a19) : Nat) : Int))) - 0)) (List.drop 0 r47))) a2 a3 a4 a5 a6 a7 a8 a9 a10 a11 (IntKind.i64.wrap (a13 - 1)) (IntKind.i64.wrap (a13 - 1)) a14 a15 a16 a17 a18 a19 a20 a21 a22 a23 a24 a25 a26 a27 a28 a29 a30 r98).bind fun r99 =>
                (D_drive_Driver_get_2 6 a2 a3 a4 a5 a6 a7 a8 a9 a10 a11 (IntKind.i64.wrap (a13 - 1)) (IntKind.i64.wrap (a13 - 1)) a14 a15 a16 a17 a18 a19 a20 a21 a22 a23 a24 a25 a26 a27 a28 a29 a30 r99).bind fun r100 =>
                (loopN (D_drive_Driver_plain_2_L3 a19 r47 r100) BIG ((0, r100))).bind fun r110 =>
                (D_drive_Driver_put_2 6 r110 a2 a3 a4 a5 a6 a7 a8 a9 a10 a11 (IntKind.i64.wrap (a13 - 1)) (IntKind.i64.wrap (a13 - 1)) a14 a15 a16 a17 a18 a19 a20 a21 a22 a23 a24 a25 a26 a27 a28 a29 a30 r99).bind fun r111 =>
                gd (cutG (IntKind.i64.wrap (((((List.length r45.2) : Nat) : Int)) - a7)) (IntKind.i64.wrap ((IntKind.i64.wrap (((((List.length r45.2) : Nat) : Int)) - a7)) + ((((List.length a19) : Nat) : Int)))) ((List.length r45.2))) ((D_drive_Driver_put_2 1 ((List.take (((Int.toNat (IntKind.i64.wrap ((IntKind.i64.wrap (((((List.length r45.2) : Nat) : Int)) - a7)) + ((((List.length a19) : Nat) : Int))))) - (Int.toNat (IntKind.i64.wrap (((((List.length r45.2) : Nat) : Int)) - a7))))) (List.drop ((Int.toNat (IntKind.i64.wrap (((((List.length r45.2) : Nat) : Int)) - a7)))) r45.2))) a2 a3 a4 a5 a6 a7 a8 a9 a10 a11 (IntKind.i64.wrap (a13 - 1)) (IntKind.i64.wrap (a13 - 1)) a14 a15 a16 (IntKind.i64.wrap (a17 + 1)) a18 a19 a20 a21 a22 a23 a24 a25 a26 a27 a28 a29 a30 r111).bind fun r112 =>
                (D_meter_Meter_Drop a4 a28 a29 a30).bind fun r113 =>
                some ((0, a2, a3, a4, a5, a6, a7, a8, a9, a10, a11, IntKind.i64.wrap (a13 - 1), IntKind.i64.wrap (a13 - 1), a14, a15, a16, IntKind.i64.wrap (a17 + 1), a18, r113.2.1, r113.2.2.1, r113.2.2.2, r112)))))
                ((loopN (D_drive_Driver_plain_2_L4 a7 r45 r48) BIG ((IntKind.i64.wrap (((((List.length r48.2) : Nat) : Int)) - 1), 0, r65.1, r45.2, r47, 0, 0, 0, 0, 0, 0, 0, 0))).bind fun ⟨r165_0, r165_1, r165_2, r165_3, r165_4, r165_5, r165_6, r165_7, r165_8, r165_9⟩ =>
                (D_drive_Driver_put_2 4 r165_1 a2 a3 a4 a5 a6 a7 a8 a9 a10 a11 (IntKind.i64.wrap (a13 - 1)) (IntKind.i64.wrap (a13 - 1)) a14 a15 a16 a17 a18 a19 a20 a21 a22 a23 a24 a25 a26 a27 a28 a29 a30 a31).bind fun r166 =>
                gd (cutG 0 ((((List.length a19) : Nat) : Int)) ((List.length r165_1))) ((D_drive_Driver_put_2 5 ((List.take (((Int.toNat ((((List.length a19) : Nat) : Int))) - 0)) (List.drop 0 r165_1))) a2 a3 a4 a5 a6 a7 a8 a9 a10 a11 (IntKind.i64.wrap (a13 - 1)) (IntKind.i64.wrap (a13 - 1)) a14 a15 a16 a17 a18 a19 a20 a21 a22 a23 a24 a25 a26 a27 a28 a29 a30 r166).bind fun r167 =>
                (D_drive_Driver_get_2 6 a2 a3 a4 a5 a6 a7 a8 a9 a10 a11 (IntKind.i64.wrap (a13 - 1)) (IntKind.i64.wrap (a13 - 1)) a14 a15 a16 a17 a18 a19 a20 a21 a22 a23 a24 a25 a26 a27 a28 a29 a30 r167).bind fun r168 =>
                (loopN (D_drive_Driver_plain_2_L5 a19 r165_1 r168) BIG ((0, r168))).bind fun r178 =>
                (D_drive_Driver_put_2 6 r178 a2 a3 a4 a5 a6 a7 a8 a9 a10 a11 (IntKind.i64.wrap (a13 - 1)) (IntKind.i64.wrap (a13 - 1)) a14 a15 a16 a17 a18 a19 a20 a21 a22 a23 a24 a25 a26 a27 a28 a29 a30 r167).bind fun r179 =>
                gd (cutG (IntKind.i64.wrap (((((List.length r45.2) : Nat) : Int)) - a7)) (IntKind.i64.wrap ((IntKind.i64.wrap (((((List.length r45.2) : Nat) : Int)) - a7)) + ((((List.length a19) : Nat) : Int)))) ((List.length r165_0))) ((D_drive_Driver_put_2 1 ((List.take (((Int.toNat (IntKind.i64.wrap ((IntKind.i64.wrap (((((List.length r45.2) : Nat) : Int)) - a7)) + ((((List.length a19) : Nat) : Int))))) - (Int.toNat (IntKind.i64.wrap (((((List.length r45.2) : Nat) : Int)) - a7))))) (List.drop ((Int.toNat (IntKind.i64.wrap (((((List.length r45.2) : Nat) : Int)) - a7)))) r165_0))) a2 a3 a4 a5 a6 a7 a8 a9 a10 a11 (IntKind.i64.wrap (a13 - 1)) (IntKind.i64.wrap (a13 - 1)) a14 a15 a16 (IntKind.i64.wrap (a17 + 1)) a18 a19 a20 a21 a22 a23 a24 a25 a26 a27 a28 a29 a30 r179).bind fun r180 =>
                (D_meter_Meter_Drop a4 a28 a29 a30).bind fun r181 =>
                some ((0, a2, a3, a4, a5, a6, a7, a8, a9, a10, a11, IntKind.i64.wrap (a13 - 1), IntKind.i64.wrap (a13 - 1), a14, a15, a16, IntKind.i64.wrap (a17 + 1), a18, r181.2.1, r181.2.2.1, r181.2.2.2, r180)))))))))))))
/- (backstitch/slots.place).word -/
def D_slots_place_word (a0 : Int) (a1 : Int) (a2 : Int) (a3 : Int) : Option (Int) :=
  (D_slots_place_size a0 a1 a2).bind fun r4 =>
  some (IntKind.i64.wrap (a0 + (IntKind.i64.wrap (a3 * r4))))
/- (*backstitch/arena.Arena).Get -/
def D_arena_Arena_Get (a0 : Int) (a1 : Int) (a2 : List Int) : Option (Int × Int) :=
  cond (decide (a0 < 0))
    (some ((0, 2)))
    (cond (decide (a1 < a0))
      (some ((0, 2)))
      (cond (decide ((IntKind.i64.wrap (a1 - a0)) < 1))
        (some ((0, 2)))
        (gd (cutG a0 (IntKind.i64.wrap (a0 + 1)) ((List.length a2))) ((D_slices_Clone_uint64_uint64 ((List.take (((Int.toNat (IntKind.i64.wrap (a0 + 1))) - (Int.toNat a0))) (List.drop ((Int.toNat a0)) a2)))).bind fun r3 =>
        (ix 0 ((List.length r3))).bind fun j4 =>
        (r3[j4]?).bind fun x5 =>
        some ((x5, 0))))))
def D_slots_Slots_Tags_2_L0 (a0 : Int) (a1 : Int) (a2 : Int) (a3 : Int) (a4 : List Int) (s7 : Int × List Int) : Option ((Int × List Int) ⊕ (List Int)) :=
  cond (decide (s7.1 < a1))
    ((D_slots_place_word a0 a1 a2 s7.1).bind fun r8 =>
    (D_arena_Arena_Get r8 a3 a4).bind fun r9 =>
    gd (fits (List.length s7.2 + 1) 8) (some (.inl ((IntKind.i64.wrap (s7.1 + 1), (s7.2 ++ [IntKind.i64.wrap ((IntKind.i64.wrap (r9.1)) - 1)]))))))
    (some (.inr s7.2))
/- (*backstitch/slots.Slots).Tags -/
def D_slots_Slots_Tags_2 (a0 : Int) (a1 : Int) (a2 : Int) (a3 : Int) (a4 : List Int) : Option (List Int) :=
  (loopN (D_slots_Slots_Tags_2_L0 a0 a1 a2 a3 a4) BIG ((0, []))).bind fun r10 =>
  some r10
/- (*backstitch/drive.Driver).Spot -/
def D_drive_Driver_Spot_3 (a0 : Int) (a1 : Int) (a2 : Int) (a3 : Int) (a4 : Int) (a5 : Int) (a6 : Int) (a7 : Int) (a8 : Int) (a9 : Int) (a10 : Int) (a11 : Int) (a12 : Int) (a13 : Int) (a14 : Int) (a15 : Int) (a16 : Int) (a17 : List Int) (a18 : List Int) (a19 : List (Int × Int × Int × Int × Int)) (a20 : List (Int × Int × Int × Int × Int)) (a21 : List Int) (a22 : Int) (a23 : Int) (a24 : Int) (a25 : Int) (a26 : Int) (a27 : Int) (a28 : Int) (a29 : List Int) : Option (Int × Int × List Int) :=
  (D_slots_Slots_Tags_2 a23 a24 a25 a22 a29).bind fun r30 =>
  some ((a10, a11, r30))
/- (*backstitch/drive.Driver).moves -/
def D_drive_Driver_moves_2 (a0 : Int) (a1 : Int) (a2 : Int) (a3 : Int) (a4 : Int) (a5 : Int) (a6 : Int) (a7 : Int) (a8 : Int) (a9 : Int) (a10 : Int) (a11 : Int) (a12 : Int) (a13 : Int) (a14 : Int) (a15 : Int) (a16 : Int) (a17 : List Int) (a18 : List Int) (a19 : List (Int × Int × Int × Int × Int)) (a20 : List (Int × Int × Int × Int × Int)) (a21 : List Int) (a22 : Int) (a23 : Int) (a24 : Int) (a25 : Int) (a26 : Int) (a27 : Int) (a28 : Int) (a29 : List Int) : Option (Unit) :=
  some ()
def D_drive_Driver_advance_2_L0 (a0 : Int) (a18 : List Int) (a19 : List Int) (a20 : List (Int × Int × Int × Int × Int)) (a21 : List (Int × Int × Int × Int × Int)) (a22 : List Int) (a23 : Int) (a24 : Int) (a25 : Int) (a26 : Int) (a27 : Int) (a28 : Int) (a29 : Int) : (Int × Int × Int × Int × Int × Int × Int × Int × Int × Int × Int × Int × Int × Int × Int × Int × Int × Int × List Int) → Option ((Int × Int × Int × Int × Int × Int × Int × Int × Int × Int × Int × Int × Int × Int × Int × Int × Int × Int × List Int) ⊕ (Int × Int × Int × Int × Int × Int × Int × Int × Int × Int × Int × Int × Int × Int × Int × Int × Int × List Int)) := fun ⟨s50_0, s50_1, s50_2, s50_3, s50_4, s50_5, s50_6, s50_7, s50_8, s50_9, s50_10, s50_11, s50_12, s50_13, s50_14, s50_15, s50_16, s50_17, s50_18⟩ =>
  cond (decide (s50_0 < a0))
    ((D_drive_Driver_get_2 1 s50_1 s50_2 s50_3 s50_4 s50_5 s50_6 s50_7 s50_8 s50_9 s50_10 s50_11 s50_12 s50_13 s50_14 s50_15 s50_16 s50_17 a18 a19 a20 a21 a22 a23 a24 a25 a26 a27 a28 a29 s50_18).bind fun r51 =>
    (D_drive_Driver_begin_2 s50_6 a20 r51 ([IntKind.u64.wrap (IntKind.i64.wrap (s50_11 + s50_0))]) s50_1 s50_2 s50_3 s50_4 s50_5 s50_6 s50_7 s50_8 s50_9 s50_10 s50_11 s50_12 s50_13 s50_14 s50_15 s50_16 s50_17 a18 a19 a20 a21 a22 a23 a24 a25 a26 a27 a28 a29 s50_18).bind fun r52 =>
    (D_forward_Run s50_6 a20 r52).bind fun r53 =>
    (D_drive_Driver_put_2 2 r53.2 s50_1 s50_2 s50_3 s50_4 s50_5 s50_6 s50_7 s50_8 s50_9 s50_10 s50_11 s50_12 s50_13 s50_14 s50_15 s50_16 s50_17 a18 a19 a20 a21 a22 a23 a24 a25 a26 a27 a28 a29 s50_18).bind fun r54 =>
    gd (cutG 0 ((((List.length a18) : Nat) : Int)) ((List.length r53.2))) ((D_drive_Driver_put_2 1 ((List.take (((Int.toNat ((((List.length a18) : Nat) : Int))) - 0)) (List.drop 0 r53.2))) s50_1 s50_2 s50_3 s50_4 s50_5 s50_6 s50_7 s50_8 s50_9 s50_10 s50_11 s50_12 s50_13 s50_14 s50_15 s50_16 s50_17 a18 a19 a20 a21 a22 a23 a24 a25 a26 a27 a28 a29 r54).bind fun r55 =>
    some (.inl ((IntKind.i64.wrap (s50_0 + 1), s50_1, s50_2, s50_3, s50_4, s50_5, s50_6, s50_7, s50_8, s50_9, s50_10, s50_11, s50_12, IntKind.i64.wrap (s50_13 + 1), s50_14, s50_15, s50_16, s50_17, r55)))))
    (some (.inr (((s50_1, s50_2, s50_3, s50_4, s50_5, s50_6, s50_7, s50_8, s50_9, s50_10, s50_11, s50_12, s50_13, s50_14, s50_15, s50_16, s50_17, s50_18)))))
/- (*backstitch/drive.Driver).advance -/
def D_drive_Driver_advance_2 (a0 : Int) (a1 : Int) (a2 : Int) (a3 : Int) (a4 : Int) (a5 : Int) (a6 : Int) (a7 : Int) (a8 : Int) (a9 : Int) (a10 : Int) (a11 : Int) (a12 : Int) (a13 : Int) (a14 : Int) (a15 : Int) (a16 : Int) (a17 : Int) (a18 : List Int) (a19 : List Int) (a20 : List (Int × Int × Int × Int × Int)) (a21 : List (Int × Int × Int × Int × Int)) (a22 : List Int) (a23 : Int) (a24 : Int) (a25 : Int) (a26 : Int) (a27 : Int) (a28 : Int) (a29 : Int) (a30 : List Int) : Option (Int × Int × Int × Int × Int × Int × Int × Int × Int × Int × Int × Int × Int × Int × Int × Int × Int × List Int) :=
  (loopN (D_drive_Driver_advance_2_L0 a0 a18 a19 a20 a21 a22 a23 a24 a25 a26 a27 a28 a29) BIG ((0, a1, a2, a3, a4, a5, a6, a7, a8, a9, a10, a11, a12, a13, a14, a15, a16, a17, a30))).bind fun ⟨r56_0, r56_1, r56_2, r56_3, r56_4, r56_5, r56_6, r56_7, r56_8, r56_9, r56_10, r56_11, r56_12, r56_13, r56_14, r56_15, r56_16, r56_17⟩ =>
  some ((r56_0, r56_1, r56_2, r56_3, r56_4, r56_5, r56_6, r56_7, r56_8, r56_9, r56_10, r56_11, r56_12, r56_13, r56_14, r56_15, r56_16, r56_17))
/- (backstitch/slots.place).has -/
def D_slots_place_has (a0 : Int) (a1 : Int) (a2 : Int) (a3 : Int) : Option (Bool) :=
  cond (decide (0 ≤ a3))
    (some (decide (a3 < a1)))
    (some false)
/- (*backstitch/slots.Slots).Store -/
def D_slots_Slots_Store_2 (a0 : Int) (a1 : Int) (a2 : List Int) (a3 : Int) (a4 : Int) (a5 : Int) (a6 : Int) (a7 : List Int) : Option (Int × List Int) :=
  (D_slots_place_has a3 a4 a5 a0).bind fun r8 =>
  cond (!r8)
    (some ((2, a7)))
    ((D_slots_place_word a3 a4 a5 a0).bind fun r9 =>
    (D_arena_Arena_Get r9 a6 a7).bind fun r10 =>
    (D_slots_place_word a3 a4 a5 a0).bind fun r11 =>
    (((cond (decide (a1 < 0))
      (some true)
      (some (decide (65536 ≤ a1)))) : Option (Bool))).bind fun s12 =>
    cond (s12)
      (some ((2, a7)))
      (cond (decide (((((List.length a2) : Nat) : Int)) ≠ a5))
        (some ((10, a7)))
        (cond (decide (r10.1 ≠ 0))
          (some ((15, a7)))
          (gd (fits (1 + List.length a2) 8) ((D_arena_Arena_Write r11 ((([IntKind.u64.wrap (IntKind.i64.wrap (a1 + 1))] : List Int) ++ a2)) a6 a7).bind fun r13 =>
          some ((r13.1, r13.2)))))))
/- (*backstitch/drive.Driver).store -/
def D_drive_Driver_store_2 (a0 : Int) (a1 : Int) (a2 : Int) (a3 : Int) (a4 : Int) (a5 : Int) (a6 : Int) (a7 : Int) (a8 : Int) (a9 : Int) (a10 : Int) (a11 : Int) (a12 : Int) (a13 : Int) (a14 : Int) (a15 : Int) (a16 : Int) (a17 : Int) (a18 : List Int) (a19 : List Int) (a20 : List (Int × Int × Int × Int × Int)) (a21 : List (Int × Int × Int × Int × Int)) (a22 : List Int) (a23 : Int) (a24 : Int) (a25 : Int) (a26 : Int) (a27 : Int) (a28 : Int) (a29 : Int) (a30 : List Int) : Option (Int × Int × Int × List Int) :=
  (D_meter_Meter_Hold a3 a27 a28 a29).bind fun r31 =>
  (D_drive_Driver_get_2 1 a1 a2 a3 a4 a5 a6 a7 a8 a9 a10 a11 a12 a13 a14 a15 a16 a17 a18 a19 a20 a21 a22 a23 a24 a25 a26 r31.2.1 r31.2.2.1 r31.2.2.2 a30).bind fun r32 =>
  (D_slots_Slots_Store_2 a0 a11 r32 a24 a25 a26 a23 a30).bind fun r33 =>
  some ((r31.2.1, r31.2.2.1, r31.2.2.2, r33.2))
/- (*backstitch/slots.Slots).Restore -/
def D_slots_Slots_Restore_2 (a0 : Int) (a1 : Int) (a2 : Int) (a3 : Int) (a4 : Int) (a5 : List Int) : Option (Int × Int × List Int) :=
  (D_slots_place_has a1 a2 a3 a0).bind fun r6 =>
  cond (!r6)
    (some ((0, 2, [])))
    ((D_slots_place_word a1 a2 a3 a0).bind fun r7 =>
    (D_arena_Arena_Get r7 a4 a5).bind fun r8 =>
    (D_slots_place_word a1 a2 a3 a0).bind fun r9 =>
    cond (decide (r8.1 = 0))
      (some ((0, 16, [])))
      ((D_arena_Arena_Read (IntKind.i64.wrap (r9 + 1)) a3 a4 a5).bind fun r10 =>
      some ((IntKind.i64.wrap ((IntKind.i64.wrap (r8.1)) - 1), 0, r10.2))))
/- (*backstitch/drive.Driver).restore -/
def D_drive_Driver_restore_2 (a0 : Int) (a1 : Int) (a2 : Int) (a3 : Int) (a4 : Int) (a5 : Int) (a6 : Int) (a7 : Int) (a8 : Int) (a9 : Int) (a10 : Int) (a11 : Int) (a12 : Int) (a13 : Int) (a14 : Int) (a15 : Int) (a16 : Int) (a17 : Int) (a18 : List Int) (a19 : List Int) (a20 : List (Int × Int × Int × Int × Int)) (a21 : List (Int × Int × Int × Int × Int)) (a22 : List Int) (a23 : Int) (a24 : Int) (a25 : Int) (a26 : Int) (a27 : Int) (a28 : Int) (a29 : Int) (a30 : List Int) : Option (List Int) :=
  (D_slots_Slots_Restore_2 a0 a24 a25 a26 a23 a30).bind fun r31 =>
  (D_drive_Driver_put_2 1 r31.2.2 a1 a2 a3 a4 a5 a6 a7 a8 a9 a10 a11 a12 a13 a14 a15 a16 a17 a18 a19 a20 a21 a22 a23 a24 a25 a26 a27 a28 a29 a30).bind fun r32 =>
  some r32
/- (*backstitch/slots.Slots).Free -/
def D_slots_Slots_Free_2 (a0 : Int) (a1 : Int) (a2 : Int) (a3 : Int) (a4 : Int) (a5 : List Int) : Option (Int × List Int) :=
  (D_slots_place_has a1 a2 a3 a0).bind fun r6 =>
  cond (!r6)
    (some ((2, a5)))
    ((D_slots_place_word a1 a2 a3 a0).bind fun r7 =>
    (D_arena_Arena_Get r7 a4 a5).bind fun r8 =>
    (D_slots_place_word a1 a2 a3 a0).bind fun r9 =>
    cond (decide (r8.1 = 0))
      (some ((16, a5)))
      ((D_slots_place_size a1 a2 a3).bind fun r10 =>
      gd (Nat.beq 1 (Sh.w (.int .u64)) && decide (0 ≤ r10) && decide (r10 ≤ r10) && decide ((8 : Int) * r10 ≤ 140737488355328) && Nat.ble 1 8) ((D_arena_Arena_Write r9 ((List.replicate (Int.toNat r10) (0 : Int))) a4 a5).bind fun r11 =>
      some ((r11.1, r11.2)))))
/- (*backstitch/drive.Driver).free -/
def D_drive_Driver_free_2 (a0 : Int) (a1 : Int) (a2 : Int) (a3 : Int) (a4 : Int) (a5 : Int) (a6 : Int) (a7 : Int) (a8 : Int) (a9 : Int) (a10 : Int) (a11 : Int) (a12 : Int) (a13 : Int) (a14 : Int) (a15 : Int) (a16 : Int) (a17 : Int) (a18 : List Int) (a19 : List Int) (a20 : List (Int × Int × Int × Int × Int)) (a21 : List (Int × Int × Int × Int × Int)) (a22 : List Int) (a23 : Int) (a24 : Int) (a25 : Int) (a26 : Int) (a27 : Int) (a28 : Int) (a29 : Int) (a30 : List Int) : Option (Int × Int × Int × List Int) :=
  (D_slots_Slots_Free_2 a0 a24 a25 a26 a23 a30).bind fun r31 =>
  (D_meter_Meter_Drop a3 a27 a28 a29).bind fun r32 =>
  some ((r32.2.1, r32.2.2.1, r32.2.2.2, r31.2))
def D_drive_Driver_back_4_L0 (a22 : List Int) (r34 : Int × (List Int) × List Int) (r37 : List Int) (s40 : Int × List Int) : Option ((Int × List Int) ⊕ (List Int)) :=
  cond (decide (s40.1 < ((((List.length r37) : Nat) : Int))))
    ((ix s40.1 ((List.length s40.2))).bind fun j41 =>
    (s40.2[j41]?).bind fun x42 =>
    (ix (IntKind.i64.wrap (((((List.length a22) : Nat) : Int)) + s40.1)) ((List.length r34.2.2))).bind fun j43 =>
    (r34.2.2[j43]?).bind fun x44 =>
    (ix s40.1 ((List.length s40.2))).bind fun j45 =>
    (s40.2[j45]?).bind fun x46 =>
    some (.inl ((IntKind.i64.wrap (s40.1 + 1), (List.set s40.2 j45 (IntKind.u64.wrap (x42 + x44)))))))
    (some (.inr s40.2))
/- (*backstitch/drive.Driver).back -/
def D_drive_Driver_back_4 (a0 : Int) (a1 : Int) (a2 : Int) (a3 : Int) (a4 : Int) (a5 : Int) (a6 : Int) (a7 : Int) (a8 : Int) (a9 : Int) (a10 : Int) (a11 : Int) (a12 : Int) (a13 : Int) (a14 : Int) (a15 : Int) (a16 : Int) (a17 : Int) (a18 : List (Int × Int × Int × Int × Int)) (a19 : List Int) (a20 : List Int) (a21 : List Int) (a22 : List Int) (a23 : List Int) (a24 : List (Int × Int × Int × Int × Int)) (a25 : List Int) (a26 : Int) (a27 : Int) (a28 : Int) (a29 : Int) (a30 : Int) (a31 : Int) (a32 : Int) (a33 : List Int) : Option (Int × Int × Int × Int × Int × Int × Int × Int × Int × Int × Int × Int × Int × Int × Int × Int × Int × (List Int) × (List Int) × List Int) :=
  (D_sweep_Back a0 a18 a19 a20 a21).bind fun r34 =>
  (D_drive_Driver_put_2 4 r34.2.2 a1 a2 a3 a4 a5 a6 a7 a8 a9 a10 a11 a12 a13 a14 a15 a16 a17 a22 a23 a18 a24 a25 a26 a27 a28 a29 a30 a31 a32 a33).bind fun r35 =>
  gd (cutG 0 ((((List.length a22) : Nat) : Int)) ((List.length r34.2.2))) ((D_drive_Driver_put_2 5 ((List.take (((Int.toNat ((((List.length a22) : Nat) : Int))) - 0)) (List.drop 0 r34.2.2))) a1 a2 a3 a4 a5 a6 a7 a8 a9 a10 a11 a12 a13 a14 a15 a16 a17 a22 a23 a18 a24 a25 a26 a27 a28 a29 a30 a31 a32 r35).bind fun r36 =>
  (D_drive_Driver_get_2 6 a1 a2 a3 a4 a5 a6 a7 a8 a9 a10 a11 a12 a13 a14 a15 a16 a17 a22 a23 a18 a24 a25 a26 a27 a28 a29 a30 a31 a32 r36).bind fun r37 =>
  (loopN (D_drive_Driver_back_4_L0 a22 r34 r37) BIG ((0, r37))).bind fun r47 =>
  (D_drive_Driver_put_2 6 r47 a1 a2 a3 a4 a5 a6 a7 a8 a9 a10 a11 a12 a13 a14 a15 a16 a17 a22 a23 a18 a24 a25 a26 a27 a28 a29 a30 a31 a32 r36).bind fun r48 =>
  some ((a1, a2, a3, a4, a5, a6, a7, a8, a9, a10, a11, a12, a13, a14, a15, IntKind.i64.wrap (a16 + 1), a17, r34.2.1, r34.2.2, r48)))
/- (*backstitch/drive.Driver).turn -/
def D_drive_Driver_turn_2 (a0 : Int) (a1 : Int) (a2 : Int) (a3 : Int) (a4 : Int) (a5 : Int) (a6 : Int) (a7 : Int) (a8 : Int) (a9 : Int) (a10 : Int) (a11 : Int) (a12 : Int) (a13 : Int) (a14 : Int) (a15 : Int) (a16 : Int) (a17 : List Int) (a18 : List Int) (a19 : List Int) (a20 : List Int) (a21 : List (Int × Int × Int × Int × Int)) (a22 : List (Int × Int × Int × Int × Int)) (a23 : List Int) (a24 : Int) (a25 : Int) (a26 : Int) (a27 : Int) (a28 : Int) (a29 : Int) (a30 : Int) (a31 : List Int) : Option (Int × Int × Int × Int × Int × Int × Int × Int × Int × Int × Int × Int × Int × Int × Int × Int × Int × (List Int) × List Int) :=
  (D_drive_Driver_get_2 5 a0 a1 a2 a3 a4 a5 a6 a7 a8 a9 a10 a11 a12 a13 a14 a15 a16 a19 a20 a21 a22 a23 a24 a25 a26 a27 a28 a29 a30 a31).bind fun r32 =>
  (D_drive_wide a5 a21 r32).bind fun r33 =>
  (D_drive_Driver_back_4 a5 a0 a1 a2 a3 a4 a5 a6 a7 a8 a9 a10 a11 a12 a13 a14 a15 a16 a21 a17 r33 a18 a19 a20 a22 a23 a24 a25 a26 a27 a28 a29 a30 a31).bind fun ⟨r34_0, r34_1, r34_2, r34_3, r34_4, r34_5, r34_6, r34_7, r34_8, r34_9, r34_10, r34_11, r34_12, r34_13, r34_14, r34_15, r34_16, r34_17, r34_18, r34_19⟩ =>
  some ((r34_0, r34_1, r34_2, r34_3, r34_4, r34_5, r34_6, r34_7, r34_8, r34_9, r34_10, r34_11, r34_12, r34_13, r34_14, r34_15, r34_16, r34_17, r34_19))
/- (*backstitch/drive.Driver).both -/
def D_drive_Driver_both_2 (a0 : Int) (a1 : Int) (a2 : Int) (a3 : Int) (a4 : Int) (a5 : Int) (a6 : Int) (a7 : Int) (a8 : Int) (a9 : Int) (a10 : Int) (a11 : Int) (a12 : Int) (a13 : Int) (a14 : Int) (a15 : Int) (a16 : Int) (a17 : Int) (a18 : List Int) (a19 : List Int) (a20 : List (Int × Int × Int × Int × Int)) (a21 : List (Int × Int × Int × Int × Int)) (a22 : List Int) (a23 : Int) (a24 : Int) (a25 : Int) (a26 : Int) (a27 : Int) (a28 : Int) (a29 : Int) (a30 : List Int) : Option (Int × Int × Int × Int × Int × Int × Int × Int × Int × Int × Int × Int × Int × Int × Int × Int × Int × Int × Int × Int × List Int) :=
  (D_plan_Of a5 a18 a19 a6 a20 a7 a21 a8 a9).bind fun r31 =>
  (D_meter_Meter_Hold (IntKind.i64.wrap (r31.1 + r31.2)) a27 a28 a29).bind fun r32 =>
  (D_drive_Driver_taped_2 a1 a2 a3 a4 a5 a6 a7 a8 a9 a10 a11 a12 a13 a14 a15 a16 a17 a18 a19 a20 a21 a22 a23 a24 a25 a26 r32.2.1 r32.2.2.1 r32.2.2.2 a30).bind fun ⟨r33_0, r33_1, r33_2, r33_3, r33_4, r33_5, r33_6, r33_7, r33_8, r33_9, r33_10, r33_11, r33_12, r33_13, r33_14, r33_15, r33_16, r33_17, r33_18, r33_19⟩ =>
  gd (cutG 0 ((((List.length a18) : Nat) : Int)) ((List.length r33_18))) ((D_drive_Driver_end_2 ((List.take (((Int.toNat ((((List.length a18) : Nat) : Int))) - 0)) (List.drop 0 r33_18))) r33_0 r33_1 r33_2 r33_3 r33_4 r33_5 r33_6 r33_7 r33_8 r33_9 r33_10 r33_11 r33_12 r33_13 r33_14 r33_15 r33_16 a18 a19 a20 a21 a22 a23 a24 a25 a26 r32.2.1 r32.2.2.1 r32.2.2.2 r33_17).bind fun ⟨r34_0, r34_1, r34_2, r34_3, r34_4, r34_5, r34_6, r34_7, r34_8, r34_9, r34_10, r34_11, r34_12, r34_13, r34_14, r34_15, r34_16, r34_17⟩ =>
  (D_drive_Driver_turn_2 r34_0 r34_1 r34_2 r34_3 r34_4 r34_5 r34_6 r34_7 r34_8 r34_9 r34_10 r34_11 r34_12 r34_13 r34_14 r34_15 r34_16 r33_18 r33_19 a18 a19 a20 a21 a22 a23 a24 a25 a26 r32.2.1 r32.2.2.1 r32.2.2.2 r34_17).bind fun ⟨r35_0, r35_1, r35_2, r35_3, r35_4, r35_5, r35_6, r35_7, r35_8, r35_9, r35_10, r35_11, r35_12, r35_13, r35_14, r35_15, r35_16, r35_17, r35_18⟩ =>
  (D_meter_Meter_Drop (IntKind.i64.wrap (r31.1 + r31.2)) r32.2.1 r32.2.2.1 r32.2.2.2).bind fun r36 =>
  some ((r35_0, r35_1, r35_2, r35_3, r35_4, r35_5, r35_6, r35_7, r35_8, r35_9, r35_10, r35_11, r35_12, r35_13, r35_14, r35_15, r35_16, r36.2.1, r36.2.2.1, r36.2.2.2, r35_18)))
/- (*backstitch/drive.Driver).reverse -/
def D_drive_Driver_reverse_2 (a0 : Int) (a1 : Int) (a2 : Int) (a3 : Int) (a4 : Int) (a5 : Int) (a6 : Int) (a7 : Int) (a8 : Int) (a9 : Int) (a10 : Int) (a11 : Int) (a12 : Int) (a13 : Int) (a14 : Int) (a15 : Int) (a16 : Int) (a17 : Int) (a18 : List Int) (a19 : List Int) (a20 : List (Int × Int × Int × Int × Int)) (a21 : List (Int × Int × Int × Int × Int)) (a22 : List Int) (a23 : Int) (a24 : Int) (a25 : Int) (a26 : Int) (a27 : Int) (a28 : Int) (a29 : Int) (a30 : List Int) : Option (Int × Int × Int × Int × Int × Int × Int × Int × Int × Int × Int × Int × Int × Int × Int × Int × Int × Int × Int × Int × List Int) :=
  (D_plan_Of a5 a18 a19 a6 a20 a7 a21 a8 a9).bind fun r31 =>
  (D_meter_Meter_Hold r31.1 a27 a28 a29).bind fun r32 =>
  (D_drive_Driver_taped_2 a1 a2 a3 a4 a5 a6 a7 a8 a9 a10 a11 a12 a13 a14 a15 a16 a17 a18 a19 a20 a21 a22 a23 a24 a25 a26 r32.2.1 r32.2.2.1 r32.2.2.2 a30).bind fun ⟨r33_0, r33_1, r33_2, r33_3, r33_4, r33_5, r33_6, r33_7, r33_8, r33_9, r33_10, r33_11, r33_12, r33_13, r33_14, r33_15, r33_16, r33_17, r33_18, r33_19⟩ =>
  (D_drive_Driver_turn_2 r33_0 r33_1 r33_2 r33_3 r33_4 r33_5 r33_6 r33_7 r33_8 r33_9 r33_10 r33_11 r33_12 r33_13 r33_14 r33_15 r33_16 r33_18 r33_19 a18 a19 a20 a21 a22 a23 a24 a25 a26 r32.2.1 r32.2.2.1 r32.2.2.2 r33_17).bind fun ⟨r34_0, r34_1, r34_2, r34_3, r34_4, r34_5, r34_6, r34_7, r34_8, r34_9, r34_10, r34_11, r34_12, r34_13, r34_14, r34_15, r34_16, r34_17, r34_18⟩ =>
  (D_meter_Meter_Drop r31.1 r32.2.1 r32.2.2.1 r32.2.2.2).bind fun r35 =>
  some ((r34_0, r34_1, r34_2, r34_3, r34_4, r34_5, r34_6, r34_7, r34_8, r34_9, r34_10, r34_11, r34_12, r34_13, r34_14, r34_15, r34_16, r35.2.1, r35.2.2.1, r35.2.2.2, r34_18))
/- (*backstitch/drive.Driver).Do -/
def D_drive_Driver_Do_3 (a0 : Int) (a1 : Int) (a2 : Int) (a3 : Int) (a4 : Int) (a5 : Int) (a6 : Int) (a7 : Int) (a8 : Int) (a9 : Int) (a10 : Int) (a11 : Int) (a12 : Int) (a13 : Int) (a14 : Int) (a15 : Int) (a16 : Int) (a17 : Int) (a18 : Int) (a19 : List Int) (a20 : List Int) (a21 : List (Int × Int × Int × Int × Int)) (a22 : List (Int × Int × Int × Int × Int)) (a23 : List Int) (a24 : Int) (a25 : Int) (a26 : Int) (a27 : Int) (a28 : Int) (a29 : Int) (a30 : Int) (a31 : List Int) : Option (Int × Int × Int × Int × Int × Int × Int × Int × Int × Int × Int × Int × Int × Int × Int × Int × Int × Int × Int × Int × Int × List Int) :=
  (D_drive_Driver_baseline_2 a2 a3 a4 a5 a6 a7 a8 a9 a10 a11 a12 a13 a14 a15 a16 a17 a18 a19 a20 a21 a22 a23 a24 a25 a26 a27 a28 a29 a30 a31).bind fun r32 =>
  cond (r32)
    ((D_drive_Driver_plain_2 a0 a1 a2 a3 a4 a5 a6 a7 a8 a9 a10 a11 a12 a13 a14 a15 a16 a17 a18 a19 a20 a21 a22 a23 a24 a25 a26 a27 a28 a29 a30 a31).bind fun ⟨r33_0, r33_1, r33_2, r33_3, r33_4, r33_5, r33_6, r33_7, r33_8, r33_9, r33_10, r33_11, r33_12, r33_13, r33_14, r33_15, r33_16, r33_17, r33_18, r33_19, r33_20, r33_21⟩ =>
    some ((r33_0, r33_1, r33_2, r33_3, r33_4, r33_5, r33_6, r33_7, r33_8, r33_9, r33_10, r33_11, r33_12, r33_13, r33_14, r33_15, r33_16, r33_17, r33_18, r33_19, r33_20, r33_21)))
    ((D_drive_Driver_Spot_3 a2 a3 a4 a5 a6 a7 a8 a9 a10 a11 a12 a13 a14 a15 a16 a17 a18 a19 a20 a21 a22 a23 a24 a25 a26 a27 a28 a29 a30 a31).bind fun r34 =>
    (D_machine_At a11 r34.1 r34.2.1 r34.2.2).bind fun r35 =>
    caseS r35 (fun u36 =>
      some ((2, a2, a3, a4, a5, a6, a7, a8, a9, a10, a11, a12, a13, a14, a15, a16, a17, a18, a28, a29, a30, a31)))
      (fun w37 =>
      (D_machine_Machine_Do a0 a1 w37.1 w37.2.1 w37.2.2.1 0 w37.2.2.2).bind fun r38 =>
      cond (decide (r38.1 ≠ 0))
        (some ((r38.1, a2, a3, a4, a5, a6, a7, a8, a9, a10, a11, a12, a13, a14, a15, a16, a17, a18, a28, a29, a30, a31)))
        ((D_drive_Driver_moves_2 a2 a3 a4 a5 a6 a7 a8 a9 a10 a11 a12 a13 a14 a15 a16 a17 a18 a19 a20 a21 a22 a23 a24 a25 a26 a27 a28 a29 a30 a31).bind fun r39 =>
        (ix a0 8).bind fun j40 =>
        cond (Nat.beq j40 0)
          none
          (cond (Nat.beq ((j40 - 1)) 0)
            ((D_drive_Driver_advance_2 a1 a2 a3 a4 a5 a6 a7 a8 a9 a10 a11 a12 a13 a14 a15 a16 a17 a18 a19 a20 a21 a22 a23 a24 a25 a26 a27 a28 a29 a30 a31).bind fun ⟨r41_0, r41_1, r41_2, r41_3, r41_4, r41_5, r41_6, r41_7, r41_8, r41_9, r41_10, r41_11, r41_12, r41_13, r41_14, r41_15, r41_16, r41_17⟩ =>
            (D_machine_Machine_Spot r38.2.1 r38.2.2.1 r38.2.2.2.1 r38.2.2.2.2.1 r38.2.2.2.2.2).bind fun r42 =>
            some ((0, r41_0, r41_1, r41_2, r41_3, r41_4, r41_5, r41_6, r41_7, r41_8, r41_9, r42.1, r42.2.1, r41_12, r41_13, r41_14, r41_15, r41_16, a28, a29, a30, r41_17)))
            (cond (Nat.beq (((j40 - 1) - 1)) 0)
              ((D_drive_Driver_store_2 a1 a2 a3 a4 a5 a6 a7 a8 a9 a10 a11 a12 a13 a14 a15 a16 a17 a18 a19 a20 a21 a22 a23 a24 a25 a26 a27 a28 a29 a30 a31).bind fun r43 =>
              (D_machine_Machine_Spot r38.2.1 r38.2.2.1 r38.2.2.2.1 r38.2.2.2.2.1 r38.2.2.2.2.2).bind fun r44 =>
              some ((0, a2, a3, a4, a5, a6, a7, a8, a9, a10, a11, r44.1, r44.2.1, a14, a15, a16, a17, a18, r43.1, r43.2.1, r43.2.2.1, r43.2.2.2)))
              (cond (Nat.beq ((((j40 - 1) - 1) - 1)) 0)
                ((D_drive_Driver_restore_2 a1 a2 a3 a4 a5 a6 a7 a8 a9 a10 a11 a12 a13 a14 a15 a16 a17 a18 a19 a20 a21 a22 a23 a24 a25 a26 a27 a28 a29 a30 a31).bind fun r45 =>
                (D_machine_Machine_Spot r38.2.1 r38.2.2.1 r38.2.2.2.1 r38.2.2.2.2.1 r38.2.2.2.2.2).bind fun r46 =>
                some ((0, a2, a3, a4, a5, a6, a7, a8, a9, a10, a11, r46.1, r46.2.1, a14, a15, a16, a17, a18, a28, a29, a30, r45)))
                (cond (Nat.beq (((((j40 - 1) - 1) - 1) - 1)) 0)
                  ((D_drive_Driver_free_2 a1 a2 a3 a4 a5 a6 a7 a8 a9 a10 a11 a12 a13 a14 a15 a16 a17 a18 a19 a20 a21 a22 a23 a24 a25 a26 a27 a28 a29 a30 a31).bind fun r47 =>
                  (D_machine_Machine_Spot r38.2.1 r38.2.2.1 r38.2.2.2.1 r38.2.2.2.2.1 r38.2.2.2.2.2).bind fun r48 =>
                  some ((0, a2, a3, a4, a5, a6, a7, a8, a9, a10, a11, r48.1, r48.2.1, a14, a15, a16, a17, a18, r47.1, r47.2.1, r47.2.2.1, r47.2.2.2)))
                  (cond (Nat.beq ((((((j40 - 1) - 1) - 1) - 1) - 1)) 0)
                    ((D_drive_Driver_seed_2 a1 a2 a3 a4 a5 a6 a7 a8 a9 a10 a11 a12 a13 a14 a15 a16 a17 a18 a19 a20 a21 a22 a23 a24 a25 a26 a27 a28 a29 a30 a31).bind fun ⟨r49_0, r49_1, r49_2, r49_3, r49_4, r49_5, r49_6, r49_7, r49_8, r49_9, r49_10, r49_11, r49_12, r49_13, r49_14, r49_15, r49_16, r49_17, r49_18, r49_19, r49_20⟩ =>
                    (D_machine_Machine_Spot r38.2.1 r38.2.2.1 r38.2.2.2.1 r38.2.2.2.2.1 r38.2.2.2.2.2).bind fun r50 =>
                    some ((0, r49_0, r49_1, r49_2, r49_3, r49_4, r49_5, r49_6, r49_7, r49_8, r49_9, r50.1, r50.2.1, r49_12, r49_13, r49_14, r49_15, r49_16, r49_17, r49_18, r49_19, r49_20)))
                    (cond (Nat.beq (((((((j40 - 1) - 1) - 1) - 1) - 1) - 1)) 0)
                      ((D_drive_Driver_both_2 a1 a2 a3 a4 a5 a6 a7 a8 a9 a10 a11 a12 a13 a14 a15 a16 a17 a18 a19 a20 a21 a22 a23 a24 a25 a26 a27 a28 a29 a30 a31).bind fun ⟨r51_0, r51_1, r51_2, r51_3, r51_4, r51_5, r51_6, r51_7, r51_8, r51_9, r51_10, r51_11, r51_12, r51_13, r51_14, r51_15, r51_16, r51_17, r51_18, r51_19, r51_20⟩ =>
                      (D_machine_Machine_Spot r38.2.1 r38.2.2.1 r38.2.2.2.1 r38.2.2.2.2.1 r38.2.2.2.2.2).bind fun r52 =>
                      some ((0, r51_0, r51_1, r51_2, r51_3, r51_4, r51_5, r51_6, r51_7, r51_8, r51_9, r52.1, r52.2.1, r51_12, r51_13, r51_14, r51_15, r51_16, r51_17, r51_18, r51_19, r51_20)))
                      (cond (Nat.beq ((((((((j40 - 1) - 1) - 1) - 1) - 1) - 1) - 1)) 0)
                        ((D_drive_Driver_reverse_2 a1 a2 a3 a4 a5 a6 a7 a8 a9 a10 a11 a12 a13 a14 a15 a16 a17 a18 a19 a20 a21 a22 a23 a24 a25 a26 a27 a28 a29 a30 a31).bind fun ⟨r53_0, r53_1, r53_2, r53_3, r53_4, r53_5, r53_6, r53_7, r53_8, r53_9, r53_10, r53_11, r53_12, r53_13, r53_14, r53_15, r53_16, r53_17, r53_18, r53_19, r53_20⟩ =>
                        (D_machine_Machine_Spot r38.2.1 r38.2.2.1 r38.2.2.2.1 r38.2.2.2.2.1 r38.2.2.2.2.2).bind fun r54 =>
                        some ((0, r53_0, r53_1, r53_2, r53_3, r53_4, r53_5, r53_6, r53_7, r53_8, r53_9, r54.1, r54.2.1, r53_12, r53_13, r53_14, r53_15, r53_16, r53_17, r53_18, r53_19, r53_20)))
                        none))))))))))
/- (*backstitch/drive.Driver).Result -/
def D_drive_Driver_Result_3 (a0 : Int) (a1 : Int) (a2 : Int) (a3 : Int) (a4 : Int) (a5 : Int) (a6 : Int) (a7 : Int) (a8 : Int) (a9 : Int) (a10 : Int) (a11 : Int) (a12 : Int) (a13 : Int) (a14 : Int) (a15 : Int) (a16 : Int) (a17 : List Int) (a18 : List Int) (a19 : List (Int × Int × Int × Int × Int)) (a20 : List (Int × Int × Int × Int × Int)) (a21 : List Int) (a22 : Int) (a23 : Int) (a24 : Int) (a25 : Int) (a26 : Int) (a27 : Int) (a28 : Int) (a29 : List Int) : Option (Int × Int × (List Int) × List Int) :=
  cond (decide (a11 ≠ 0))
    (some ((0, 19, [], [])))
    ((D_drive_Driver_get_2 5 a0 a1 a2 a3 a4 a5 a6 a7 a8 a9 a10 a11 a12 a13 a14 a15 a16 a17 a18 a19 a20 a21 a22 a23 a24 a25 a26 a27 a28 a29).bind fun r30 =>
    (D_drive_Driver_get_2 6 a0 a1 a2 a3 a4 a5 a6 a7 a8 a9 a10 a11 a12 a13 a14 a15 a16 a17 a18 a19 a20 a21 a22 a23 a24 a25 a26 a27 a28 a29).bind fun r31 =>
    some ((a16, 0, r30, r31)))
/- (*backstitch/drive.Driver).Count -/
def D_drive_Driver_Count_3 (a0 : Int) (a1 : Int) (a2 : Int) (a3 : Int) (a4 : Int) (a5 : Int) (a6 : Int) (a7 : Int) (a8 : Int) (a9 : Int) (a10 : Int) (a11 : Int) (a12 : Int) (a13 : Int) (a14 : Int) (a15 : Int) (a16 : Int) (a17 : List Int) (a18 : List Int) (a19 : List (Int × Int × Int × Int × Int)) (a20 : List (Int × Int × Int × Int × Int)) (a21 : List Int) (a22 : Int) (a23 : Int) (a24 : Int) (a25 : Int) (a26 : Int) (a27 : Int) (a28 : Int) (a29 : List Int) : Option (Int × Int × Int × Int) :=
  some ((a12, a13, a14, a15))
/- backstitch/backstitchlaw35.goes -/
def D_law35_goes  : Option (Bool) :=
  (D_law34_Example).bind fun r0 =>
  (D_drive_New 1 [5] [2] 3 ([(1, (0, (0, (2, 0))))]) 2 [] 3 100).bind fun r1 =>
  caseS r1 (fun u2 =>
    cond (decide (u2 ≠ 0))
      (some false)
      (some false))
    (fun w3 =>
    caseS w3 (fun ⟨u4_0, u4_1, u4_2, u4_3, u4_4, u4_5, u4_6, u4_7, u4_8, u4_9, u4_10, u4_11, u4_12, u4_13, u4_14, u4_15, u4_16, u4_17, u4_18, u4_19⟩ =>
      (D_drive_Driver_Do_2 2 0 u4_0 u4_1 u4_2 u4_3 u4_4 u4_5 u4_6 u4_7 u4_8 u4_9 0 (-1) 0 0 0 0 0 u4_10 u4_11 u4_12 u4_13 u4_14 u4_15 u4_16 u4_17 u4_18 u4_19).bind fun ⟨r5_0, r5_1, r5_2, r5_3, r5_4, r5_5, r5_6, r5_7, r5_8, r5_9, r5_10, r5_11, r5_12, r5_13, r5_14, r5_15, r5_16, r5_17, r5_18, r5_19, r5_20, r5_21⟩ =>
      cond (decide (r5_0 ≠ 0))
        (some false)
        ((D_drive_Driver_Do_2 1 2 r5_1 r5_2 r5_3 r5_4 r5_5 r5_6 r5_7 r5_8 r5_9 r5_10 r5_11 r5_12 r5_13 r5_14 r5_15 r5_16 r5_17 u4_10 u4_11 u4_12 u4_13 u4_14 u4_15 r5_18 r5_19 r5_20 r5_21).bind fun ⟨r6_0, r6_1, r6_2, r6_3, r6_4, r6_5, r6_6, r6_7, r6_8, r6_9, r6_10, r6_11, r6_12, r6_13, r6_14, r6_15, r6_16, r6_17, r6_18, r6_19, r6_20, r6_21⟩ =>
        cond (decide (r6_0 ≠ 0))
          (some false)
          ((D_drive_Driver_Do_2 6 0 r6_1 r6_2 r6_3 r6_4 r6_5 r6_6 r6_7 r6_8 r6_9 r6_10 r6_11 r6_12 r6_13 r6_14 r6_15 r6_16 r6_17 u4_10 u4_11 u4_12 u4_13 u4_14 u4_15 r6_18 r6_19 r6_20 r6_21).bind fun ⟨r7_0, r7_1, r7_2, r7_3, r7_4, r7_5, r7_6, r7_7, r7_8, r7_9, r7_10, r7_11, r7_12, r7_13, r7_14, r7_15, r7_16, r7_17, r7_18, r7_19, r7_20, r7_21⟩ =>
          cond (decide (r7_0 ≠ 0))
            (some false)
            ((D_drive_Driver_Do_2 3 0 r7_1 r7_2 r7_3 r7_4 r7_5 r7_6 r7_7 r7_8 r7_9 r7_10 r7_11 r7_12 r7_13 r7_14 r7_15 r7_16 r7_17 u4_10 u4_11 u4_12 u4_13 u4_14 u4_15 r7_18 r7_19 r7_20 r7_21).bind fun ⟨r8_0, r8_1, r8_2, r8_3, r8_4, r8_5, r8_6, r8_7, r8_8, r8_9, r8_10, r8_11, r8_12, r8_13, r8_14, r8_15, r8_16, r8_17, r8_18, r8_19, r8_20, r8_21⟩ =>
            cond (decide (r8_0 ≠ 0))
              (some false)
              ((D_drive_Driver_Do_2 1 1 r8_1 r8_2 r8_3 r8_4 r8_5 r8_6 r8_7 r8_8 r8_9 r8_10 r8_11 r8_12 r8_13 r8_14 r8_15 r8_16 r8_17 u4_10 u4_11 u4_12 u4_13 u4_14 u4_15 r8_18 r8_19 r8_20 r8_21).bind fun ⟨r9_0, r9_1, r9_2, r9_3, r9_4, r9_5, r9_6, r9_7, r9_8, r9_9, r9_10, r9_11, r9_12, r9_13, r9_14, r9_15, r9_16, r9_17, r9_18, r9_19, r9_20, r9_21⟩ =>
              cond (decide (r9_0 ≠ 0))
                (some false)
                ((D_drive_Driver_Do_2 7 0 r9_1 r9_2 r9_3 r9_4 r9_5 r9_6 r9_7 r9_8 r9_9 r9_10 r9_11 r9_12 r9_13 r9_14 r9_15 r9_16 r9_17 u4_10 u4_11 u4_12 u4_13 u4_14 u4_15 r9_18 r9_19 r9_20 r9_21).bind fun ⟨r10_0, r10_1, r10_2, r10_3, r10_4, r10_5, r10_6, r10_7, r10_8, r10_9, r10_10, r10_11, r10_12, r10_13, r10_14, r10_15, r10_16, r10_17, r10_18, r10_19, r10_20, r10_21⟩ =>
                cond (decide (r10_0 ≠ 0))
                  (some false)
                  ((D_drive_Driver_Do_2 3 0 r10_1 r10_2 r10_3 r10_4 r10_5 r10_6 r10_7 r10_8 r10_9 r10_10 r10_11 r10_12 r10_13 r10_14 r10_15 r10_16 r10_17 u4_10 u4_11 u4_12 u4_13 u4_14 u4_15 r10_18 r10_19 r10_20 r10_21).bind fun ⟨r11_0, r11_1, r11_2, r11_3, r11_4, r11_5, r11_6, r11_7, r11_8, r11_9, r11_10, r11_11, r11_12, r11_13, r11_14, r11_15, r11_16, r11_17, r11_18, r11_19, r11_20, r11_21⟩ =>
                  cond (decide (r11_0 ≠ 0))
                    (some false)
                    ((D_drive_Driver_Do_2 7 0 r11_1 r11_2 r11_3 r11_4 r11_5 r11_6 r11_7 r11_8 r11_9 r11_10 r11_11 r11_12 r11_13 r11_14 r11_15 r11_16 r11_17 u4_10 u4_11 u4_12 u4_13 u4_14 u4_15 r11_18 r11_19 r11_20 r11_21).bind fun ⟨r12_0, r12_1, r12_2, r12_3, r12_4, r12_5, r12_6, r12_7, r12_8, r12_9, r12_10, r12_11, r12_12, r12_13, r12_14, r12_15, r12_16, r12_17, r12_18, r12_19, r12_20, r12_21⟩ =>
                    cond (decide (r12_0 ≠ 0))
                      (some false)
                      ((D_drive_Driver_Result_2 r12_1 r12_2 r12_3 r12_4 r12_5 r12_6 r12_7 r12_8 r12_9 r12_10 r12_11 r12_12 r12_13 r12_14 r12_15 r12_16 r12_17 u4_10 u4_11 u4_12 u4_13 u4_14 u4_15 r12_18 r12_19 r12_20 r12_21).bind fun r13 =>
                      cond (decide (r13.2.1 = 0))
                        ((D_ref24_Same r13.1 r13.2.2.1 r13.2.2.2 8 [1] [0]).bind fun r14 =>
                        cond (r14)
                          ((D_drive_Driver_Count_2 r12_1 r12_2 r12_3 r12_4 r12_5 r12_6 r12_7 r12_8 r12_9 r12_10 r12_11 r12_12 r12_13 r12_14 r12_15 r12_16 r12_17 u4_10 u4_11 u4_12 u4_13 u4_14 u4_15 r12_18 r12_19 r12_20 r12_21).bind fun r15 =>
                          some ((decide (r15.1 = 3) && (decide (r15.2.1 = 3) && (decide (r15.2.2.1 = 1) && decide (r15.2.2.2 = 4))))))
                          (some false))
                        (some false))))))))))
      (fun ⟨w16_0, w16_1, w16_2, w16_3, w16_4, w16_5, w16_6, w16_7, w16_8, w16_9, w16_10, w16_11, w16_12, w16_13, w16_14, w16_15, w16_16, w16_17, w16_18, w16_19, w16_20, w16_21, w16_22⟩ =>
      (D_drive_Driver_Do_3 2 0 w16_0 w16_1 w16_2 w16_3 w16_4 w16_5 w16_6 w16_7 w16_8 w16_9 0 (-1) 0 0 0 0 0 w16_10 w16_11 w16_12 w16_13 w16_14 w16_15 w16_16 w16_17 w16_18 w16_19 w16_20 w16_21 w16_22).bind fun ⟨r17_0, r17_1, r17_2, r17_3, r17_4, r17_5, r17_6, r17_7, r17_8, r17_9, r17_10, r17_11, r17_12, r17_13, r17_14, r17_15, r17_16, r17_17, r17_18, r17_19, r17_20, r17_21⟩ =>
      cond (decide (r17_0 ≠ 0))
        (some false)
        ((D_drive_Driver_Do_3 1 2 r17_1 r17_2 r17_3 r17_4 r17_5 r17_6 r17_7 r17_8 r17_9 r17_10 r17_11 r17_12 r17_13 r17_14 r17_15 r17_16 r17_17 w16_10 w16_11 w16_12 w16_13 w16_14 w16_15 w16_16 w16_17 w16_18 r17_18 r17_19 r17_20 r17_21).bind fun ⟨r18_0, r18_1, r18_2, r18_3, r18_4, r18_5, r18_6, r18_7, r18_8, r18_9, r18_10, r18_11, r18_12, r18_13, r18_14, r18_15, r18_16, r18_17, r18_18, r18_19, r18_20, r18_21⟩ =>
        cond (decide (r18_0 ≠ 0))
          (some false)
          ((D_drive_Driver_Do_3 6 0 r18_1 r18_2 r18_3 r18_4 r18_5 r18_6 r18_7 r18_8 r18_9 r18_10 r18_11 r18_12 r18_13 r18_14 r18_15 r18_16 r18_17 w16_10 w16_11 w16_12 w16_13 w16_14 w16_15 w16_16 w16_17 w16_18 r18_18 r18_19 r18_20 r18_21).bind fun ⟨r19_0, r19_1, r19_2, r19_3, r19_4, r19_5, r19_6, r19_7, r19_8, r19_9, r19_10, r19_11, r19_12, r19_13, r19_14, r19_15, r19_16, r19_17, r19_18, r19_19, r19_20, r19_21⟩ =>
          cond (decide (r19_0 ≠ 0))
            (some false)
            ((D_drive_Driver_Do_3 3 0 r19_1 r19_2 r19_3 r19_4 r19_5 r19_6 r19_7 r19_8 r19_9 r19_10 r19_11 r19_12 r19_13 r19_14 r19_15 r19_16 r19_17 w16_10 w16_11 w16_12 w16_13 w16_14 w16_15 w16_16 w16_17 w16_18 r19_18 r19_19 r19_20 r19_21).bind fun ⟨r20_0, r20_1, r20_2, r20_3, r20_4, r20_5, r20_6, r20_7, r20_8, r20_9, r20_10, r20_11, r20_12, r20_13, r20_14, r20_15, r20_16, r20_17, r20_18, r20_19, r20_20, r20_21⟩ =>
            cond (decide (r20_0 ≠ 0))
              (some false)
              ((D_drive_Driver_Do_3 1 1 r20_1 r20_2 r20_3 r20_4 r20_5 r20_6 r20_7 r20_8 r20_9 r20_10 r20_11 r20_12 r20_13 r20_14 r20_15 r20_16 r20_17 w16_10 w16_11 w16_12 w16_13 w16_14 w16_15 w16_16 w16_17 w16_18 r20_18 r20_19 r20_20 r20_21).bind fun ⟨r21_0, r21_1, r21_2, r21_3, r21_4, r21_5, r21_6, r21_7, r21_8, r21_9, r21_10, r21_11, r21_12, r21_13, r21_14, r21_15, r21_16, r21_17, r21_18, r21_19, r21_20, r21_21⟩ =>
              cond (decide (r21_0 ≠ 0))
                (some false)
                ((D_drive_Driver_Do_3 7 0 r21_1 r21_2 r21_3 r21_4 r21_5 r21_6 r21_7 r21_8 r21_9 r21_10 r21_11 r21_12 r21_13 r21_14 r21_15 r21_16 r21_17 w16_10 w16_11 w16_12 w16_13 w16_14 w16_15 w16_16 w16_17 w16_18 r21_18 r21_19 r21_20 r21_21).bind fun ⟨r22_0, r22_1, r22_2, r22_3, r22_4, r22_5, r22_6, r22_7, r22_8, r22_9, r22_10, r22_11, r22_12, r22_13, r22_14, r22_15, r22_16, r22_17, r22_18, r22_19, r22_20, r22_21⟩ =>
                cond (decide (r22_0 ≠ 0))
                  (some false)
                  ((D_drive_Driver_Do_3 3 0 r22_1 r22_2 r22_3 r22_4 r22_5 r22_6 r22_7 r22_8 r22_9 r22_10 r22_11 r22_12 r22_13 r22_14 r22_15 r22_16 r22_17 w16_10 w16_11 w16_12 w16_13 w16_14 w16_15 w16_16 w16_17 w16_18 r22_18 r22_19 r22_20 r22_21).bind fun ⟨r23_0, r23_1, r23_2, r23_3, r23_4, r23_5, r23_6, r23_7, r23_8, r23_9, r23_10, r23_11, r23_12, r23_13, r23_14, r23_15, r23_16, r23_17, r23_18, r23_19, r23_20, r23_21⟩ =>
                  cond (decide (r23_0 ≠ 0))
                    (some false)
                    ((D_drive_Driver_Do_3 7 0 r23_1 r23_2 r23_3 r23_4 r23_5 r23_6 r23_7 r23_8 r23_9 r23_10 r23_11 r23_12 r23_13 r23_14 r23_15 r23_16 r23_17 w16_10 w16_11 w16_12 w16_13 w16_14 w16_15 w16_16 w16_17 w16_18 r23_18 r23_19 r23_20 r23_21).bind fun ⟨r24_0, r24_1, r24_2, r24_3, r24_4, r24_5, r24_6, r24_7, r24_8, r24_9, r24_10, r24_11, r24_12, r24_13, r24_14, r24_15, r24_16, r24_17, r24_18, r24_19, r24_20, r24_21⟩ =>
                    cond (decide (r24_0 ≠ 0))
                      (some false)
                      ((D_drive_Driver_Result_3 r24_1 r24_2 r24_3 r24_4 r24_5 r24_6 r24_7 r24_8 r24_9 r24_10 r24_11 r24_12 r24_13 r24_14 r24_15 r24_16 r24_17 w16_10 w16_11 w16_12 w16_13 w16_14 w16_15 w16_16 w16_17 w16_18 r24_18 r24_19 r24_20 r24_21).bind fun r25 =>
                      cond (decide (r25.2.1 = 0))
                        ((D_ref24_Same r25.1 r25.2.2.1 r25.2.2.2 8 [1] [0]).bind fun r26 =>
                        cond (r26)
                          ((D_drive_Driver_Count_3 r24_1 r24_2 r24_3 r24_4 r24_5 r24_6 r24_7 r24_8 r24_9 r24_10 r24_11 r24_12 r24_13 r24_14 r24_15 r24_16 r24_17 w16_10 w16_11 w16_12 w16_13 w16_14 w16_15 w16_16 w16_17 w16_18 r24_18 r24_19 r24_20 r24_21).bind fun r27 =>
                          some ((decide (r27.1 = 3) && (decide (r27.2.1 = 3) && (decide (r27.2.2.1 = 1) && decide (r27.2.2.2 = 4))))))
                          (some false))
                        (some false)))))))))))
/- backstitch/backstitchlaw35.DriveNil -/
def D_law35_DriveNil (a0 : Int) (a1 : Int) : Option (Bool) :=
  (D_drive_Driver_Result).bind fun r2 =>
  (D_drive_Driver_More).bind fun r3 =>
  (D_drive_Driver_Do a0 a1).bind fun r4 =>
  (D_drive_Driver_Spot).bind fun r5 =>
  (D_ref27_Same 0 0 [] 0 0 []).bind fun r6 =>
  cond (r6)
    ((D_drive_Driver_Len).bind fun r7 =>
    (D_drive_Driver_State).bind fun r8 =>
    (D_drive_Driver_Count).bind fun r9 =>
    (D_drive_Driver_Live).bind fun r10 =>
    (D_drive_Driver_Peak).bind fun r11 =>
    (D_ref24_Same 0 [] [] 0 [] []).bind fun r12 =>
    cond (r12)
      ((D_drive_Driver_Image).bind fun r13 =>
      (D_drive_Driver_Scalars).bind fun r14 =>
      (D_law35_goes).bind fun r15 =>
      some r15)
      (some false))
    (some false)
end Go.V
