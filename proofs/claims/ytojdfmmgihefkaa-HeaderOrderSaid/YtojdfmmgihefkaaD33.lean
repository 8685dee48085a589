/- A part of the proofs of this seat: what functions of the program answer on the abstract machine. -/
import Derived.Test.YtojdfmmgihefkaaV22
namespace Go.V
set_option linter.unusedVariables false
set_option linter.unusedSimpArgs false
open Go.Ab
set_option linter.unusedVariables false
/- backstitch/backstitchlaw33.Small -/
def D_law33_Small (a0 : Int) (a1 : List Int) (a2 : List Int) (a3 : Int) (a4 : List (Int × Int × Int × Int × Int)) (a5 : Int) (a6 : List (Int × Int × Int × Int × Int)) (a7 : Int) (a8 : Int) (a9 : Int) : Option (Bool) :=
  cond (decide (((((List.length a4) : Nat) : Int)) ≤ a9))
    (cond (decide (((((List.length a6) : Nat) : Int)) ≤ a9))
      (cond (decide (((((List.length a1) : Nat) : Int)) ≤ 200))
        (some (decide (((((List.length a2) : Nat) : Int)) ≤ 200)))
        (some false))
      (some false))
    (some false)
/- backstitch/header.fail -/
def D_header_fail (a0 : Bool) (a1 : Int) : Option (Int) :=
  cond (a0)
    (some a1)
    (some 0)
/- (backstitch/header.header).mode -/
def D_header_header_mode (a0 : Int) (a1 : List Int) (a2 : List Int) (a3 : Int) (a4 : List (Int × Int × Int × Int × Int)) (a5 : Int) (a6 : List (Int × Int × Int × Int × Int)) (a7 : Int) (a8 : Int) : Option (Int) :=
  cond (decide (a0 < 1))
    ((D_header_fail true 5).bind fun r9 =>
    some r9)
    ((D_header_fail (decide (3 < a0)) 5).bind fun r10 =>
    some r10)
def D_nest_Match_L0 (a0 : List (Int × Int × Int × Int × Int)) (s7 : Int × Bool × (List Int) × (List Int) × List Int) : Option ((Int × Bool × (List Int) × (List Int) × List Int) ⊕ (Bool × (List Int) × (List Int) × List Int)) :=
  cond (decide (s7.1 < ((((List.length a0) : Nat) : Int))))
    ((rd a0 s7.1).bind fun x8 =>
    ((((((cond (decide (x8.1 < 0))
      (some ((.inl true)))
      (cond (decide (7 < x8.1))
        (some ((.inr ((true, x8.1, decide (7 < x8.1))))))
        (cond (decide (x8.1 = 0))
          (some ((.inr ((decide (((((List.length s7.2.2.2.1) : Nat) : Int)) = 0), x8.1, decide (7 < x8.1))))))
          (some ((.inr ((false, x8.1, decide (7 < x8.1))))))))) : Option ((Bool) ⊕ (Bool × Int × Bool)))).bind fun s9 =>
    caseS s9 (fun u10 =>
      cond (u10)
        (some ((.inl ((false, s7.2.2.2.1)))))
        (cond (decide (x8.1 = 0))
          (gd (cutG 0 (IntKind.i64.wrap (((((List.length s7.2.2.2.1) : Nat) : Int)) - 1)) ((List.length s7.2.2.2.1))) (some ((.inr ((.inl ((s7.2.1, (List.take (((Int.toNat (IntKind.i64.wrap (((((List.length s7.2.2.2.1) : Nat) : Int)) - 1))) - 0)) s7.2.2.2.1)))))))))
          (some ((.inr ((.inl ((s7.2.1, s7.2.2.2.1)))))))))
      (fun w11 =>
      cond (w11.1)
        (some ((.inl ((false, s7.2.2.2.1)))))
        (cond (decide (x8.1 = 0))
          (gd (cutG 0 (IntKind.i64.wrap (((((List.length s7.2.2.2.1) : Nat) : Int)) - 1)) ((List.length s7.2.2.2.1))) (some ((.inr ((.inr ((w11.2.1, w11.2.2, s7.2.1, (List.take (((Int.toNat (IntKind.i64.wrap (((((List.length s7.2.2.2.1) : Nat) : Int)) - 1))) - 0)) s7.2.2.2.1)))))))))
          (some ((.inr ((.inr ((w11.2.1, w11.2.2, s7.2.1, s7.2.2.2.1)))))))))) : Option ((Bool × List Int) ⊕ ((Bool × List Int) ⊕ (Int × Bool × Bool × List Int))))).bind fun s12 =>
    caseS s12 (fun u13 =>
      some (.inr (((u13.1, s7.2.2.1, u13.2, s7.2.2.2.2)))))
      (fun w14 =>
      caseS w14 (fun u15 =>
        (ix s7.1 ((List.length s7.2.2.1))).bind fun j16 =>
        (s7.2.2.1[j16]?).bind fun x17 =>
        (rd a0 s7.1).bind fun x18 =>
        cond (decide (x18.1 = 7))
          (gd (fits (List.length s7.2.2.2.2 + 1) 8) (cond (decide (x8.1 = 7))
            (gd (fits (List.length u15.2 + 1) 8) (some (.inl ((IntKind.i64.wrap (s7.1 + 1), u15.1, (List.set s7.2.2.1 j16 (-1)), (u15.2 ++ [s7.1]), (s7.2.2.2.2 ++ [s7.1]))))))
            (some (.inl ((IntKind.i64.wrap (s7.1 + 1), u15.1, (List.set s7.2.2.1 j16 (-1)), u15.2, (s7.2.2.2.2 ++ [s7.1])))))))
          (cond (decide (x18.1 = 0))
            ((ix (IntKind.i64.wrap (((((List.length s7.2.2.2.2) : Nat) : Int)) - 1)) ((List.length s7.2.2.2.2))).bind fun j19 =>
            (s7.2.2.2.2[j19]?).bind fun x20 =>
            gd (cutG 0 (IntKind.i64.wrap (((((List.length s7.2.2.2.2) : Nat) : Int)) - 1)) ((List.length s7.2.2.2.2))) ((ix s7.1 ((List.length ((List.set s7.2.2.1 j16 (-1)))))).bind fun j21 =>
            (((List.set s7.2.2.1 j16 (-1)))[j21]?).bind fun x22 =>
            (ix x20 ((List.length ((List.set ((List.set s7.2.2.1 j16 (-1))) j21 x20))))).bind fun j23 =>
            (((List.set ((List.set s7.2.2.1 j16 (-1))) j21 x20))[j23]?).bind fun x24 =>
            cond (decide (x8.1 = 7))
              (gd (fits (List.length u15.2 + 1) 8) (some (.inl ((IntKind.i64.wrap (s7.1 + 1), u15.1, (List.set ((List.set ((List.set s7.2.2.1 j16 (-1))) j21 x20)) j23 s7.1), (u15.2 ++ [s7.1]), (List.take (((Int.toNat (IntKind.i64.wrap (((((List.length s7.2.2.2.2) : Nat) : Int)) - 1))) - 0)) s7.2.2.2.2))))))
              (some (.inl ((IntKind.i64.wrap (s7.1 + 1), u15.1, (List.set ((List.set ((List.set s7.2.2.1 j16 (-1))) j21 x20)) j23 s7.1), u15.2, (List.take (((Int.toNat (IntKind.i64.wrap (((((List.length s7.2.2.2.2) : Nat) : Int)) - 1))) - 0)) s7.2.2.2.2)))))))
            (cond (decide (x8.1 = 7))
              (gd (fits (List.length u15.2 + 1) 8) (some (.inl ((IntKind.i64.wrap (s7.1 + 1), u15.1, (List.set s7.2.2.1 j16 (-1)), (u15.2 ++ [s7.1]), s7.2.2.2.2)))))
              (some (.inl ((IntKind.i64.wrap (s7.1 + 1), u15.1, (List.set s7.2.2.1 j16 (-1)), u15.2, s7.2.2.2.2)))))))
        (fun w25 =>
        (ix s7.1 ((List.length s7.2.2.1))).bind fun j26 =>
        (s7.2.2.1[j26]?).bind fun x27 =>
        (rd a0 s7.1).bind fun x28 =>
        cond (decide (x28.1 = 7))
          (gd (fits (List.length s7.2.2.2.2 + 1) 8) (cond (decide (x8.1 = 7))
            (gd (fits (List.length w25.2.2.2 + 1) 8) (some (.inl ((IntKind.i64.wrap (s7.1 + 1), w25.2.2.1, (List.set s7.2.2.1 j26 (-1)), (w25.2.2.2 ++ [s7.1]), (s7.2.2.2.2 ++ [s7.1]))))))
            (some (.inl ((IntKind.i64.wrap (s7.1 + 1), w25.2.2.1, (List.set s7.2.2.1 j26 (-1)), w25.2.2.2, (s7.2.2.2.2 ++ [s7.1])))))))
          (cond (decide (x28.1 = 0))
            ((ix (IntKind.i64.wrap (((((List.length s7.2.2.2.2) : Nat) : Int)) - 1)) ((List.length s7.2.2.2.2))).bind fun j29 =>
            (s7.2.2.2.2[j29]?).bind fun x30 =>
            gd (cutG 0 (IntKind.i64.wrap (((((List.length s7.2.2.2.2) : Nat) : Int)) - 1)) ((List.length s7.2.2.2.2))) ((ix s7.1 ((List.length ((List.set s7.2.2.1 j26 (-1)))))).bind fun j31 =>
            (((List.set s7.2.2.1 j26 (-1)))[j31]?).bind fun x32 =>
            (ix x30 ((List.length ((List.set ((List.set s7.2.2.1 j26 (-1))) j31 x30))))).bind fun j33 =>
            (((List.set ((List.set s7.2.2.1 j26 (-1))) j31 x30))[j33]?).bind fun x34 =>
            cond (decide (x8.1 = 7))
              (gd (fits (List.length w25.2.2.2 + 1) 8) (some (.inl ((IntKind.i64.wrap (s7.1 + 1), w25.2.2.1, (List.set ((List.set ((List.set s7.2.2.1 j26 (-1))) j31 x30)) j33 s7.1), (w25.2.2.2 ++ [s7.1]), (List.take (((Int.toNat (IntKind.i64.wrap (((((List.length s7.2.2.2.2) : Nat) : Int)) - 1))) - 0)) s7.2.2.2.2))))))
              (some (.inl ((IntKind.i64.wrap (s7.1 + 1), w25.2.2.1, (List.set ((List.set ((List.set s7.2.2.1 j26 (-1))) j31 x30)) j33 s7.1), w25.2.2.2, (List.take (((Int.toNat (IntKind.i64.wrap (((((List.length s7.2.2.2.2) : Nat) : Int)) - 1))) - 0)) s7.2.2.2.2)))))))
            (cond (decide (x8.1 = 7))
              (gd (fits (List.length w25.2.2.2 + 1) 8) (some (.inl ((IntKind.i64.wrap (s7.1 + 1), w25.2.2.1, (List.set s7.2.2.1 j26 (-1)), (w25.2.2.2 ++ [s7.1]), s7.2.2.2.2)))))
              (some (.inl ((IntKind.i64.wrap (s7.1 + 1), w25.2.2.1, (List.set s7.2.2.1 j26 (-1)), w25.2.2.2, s7.2.2.2.2)))))))))
    (some (.inr (((s7.2.1, s7.2.2.1, s7.2.2.2.1, s7.2.2.2.2)))))
/- backstitch/nest.Match -/
def D_nest_Match (a0 : List (Int × Int × Int × Int × Int)) : Option (Int × List Int) :=
  gd (Nat.beq 1 (Sh.w (.int .i64)) && decide (0 ≤ ((((List.length a0) : Nat) : Int))) && decide (((((List.length a0) : Nat) : Int)) ≤ ((((List.length a0) : Nat) : Int))) && decide ((8 : Int) * ((((List.length a0) : Nat) : Int)) ≤ 140737488355328) && Nat.ble 1 8) ((loopN (D_nest_Match_L0 a0) BIG ((0, true, (List.replicate (Int.toNat ((((List.length a0) : Nat) : Int))) (0 : Int)), [], []))).bind fun r35 =>
  cond (r35.1)
    (cond (!(decide (((((List.length r35.2.2.1) : Nat) : Int)) = 0)))
      (some ((6, [])))
      (some ((0, r35.2.1))))
    (some ((6, []))))
/- backstitch/check.fail -/
def D_check_fail (a0 : Bool) (a1 : Int) : Option (Int) :=
  cond (a0)
    (some a1)
    (some 0)
/- backstitch/opcode.of -/
def D_opcode_of (a0 : Int) : Option (Bool × Bool × Bool × Bool) :=
  (((cond (decide (a0 = 1))
    (some true)
    (cond (decide (a0 = 2))
      (some true)
      (some (decide (a0 = 3))))) : Option (Bool))).bind fun s1 =>
  cond (s1)
    (some ((true, true, true, false)))
    ((((cond (decide (a0 = 4))
      (some true)
      (some (decide (a0 = 6)))) : Option (Bool))).bind fun s2 =>
    cond (s2)
      (some ((true, true, false, false)))
      (cond (decide (a0 = 5))
        (some ((true, false, false, true)))
        (cond (decide (a0 = 7))
          (some ((false, false, false, true)))
          (some ((false, false, false, false))))))
/- backstitch/opcode.known -/
def D_opcode_known (a0 : Int) : Option (Bool) :=
  cond (decide (0 ≤ a0))
    (some (decide (a0 < 8)))
    (some false)
/- backstitch/opcode.register -/
def D_opcode_register (a0 : Int) (a1 : Bool) : Option (Bool) :=
  cond (!a1)
    (some (decide (a0 = 0)))
    (cond (decide (0 ≤ a0))
      (some (decide (a0 ≤ 2147483647)))
      (some false))
/- backstitch/opcode.Right -/
def D_opcode_Right (a0 : Int) (a1 : Int) (a2 : Int) (a3 : Int) (a4 : Int) : Option (Bool) :=
  (D_opcode_of a0).bind fun r5 =>
  (D_opcode_known a0).bind fun r6 =>
  cond (r6)
    ((D_opcode_register a1 r5.1).bind fun r7 =>
    cond (r7)
      ((D_opcode_register a2 r5.2.1).bind fun r8 =>
      cond (r8)
        ((D_opcode_register a3 r5.2.2.1).bind fun r9 =>
        cond (r9)
          (cond (r5.2.2.2)
            (some true)
            (some (decide (a4 = 0))))
          (some false))
        (some false))
      (some false))
    (some false)
/- (backstitch/check.program).form$1 -/
def D_check_program_form_1 (a0 : Int) (a1 : Int) (a2 : Int) (a3 : Int) (a4 : Int) : Option (Bool) :=
  (D_opcode_Right a0 a1 a2 a3 a4).bind fun r5 =>
  some !r5
def D_slices_IndexFunc_api_Op_api_Op_L0 (a0 : List (Int × Int × Int × Int × Int)) (s2 : Int) : Option ((Int) ⊕ ((Int) ⊕ (Unit))) :=
  cond (decide (s2 < ((((List.length a0) : Nat) : Int))))
    ((rd a0 s2).bind fun x3 =>
    (D_check_program_form_1 x3.1 x3.2.1 x3.2.2.1 x3.2.2.2.1 x3.2.2.2.2).bind fun r4 =>
    cond (r4)
      (some (.inr (((.inl s2)))))
      (some (.inl (IntKind.i64.wrap (s2 + 1)))))
    (some (.inr (((.inr ())))))
/- slices.IndexFunc[[]backstitch/api.Op,backstitch/api.Op] -/
def D_slices_IndexFunc_api_Op_api_Op (a0 : List (Int × Int × Int × Int × Int)) : Option (Int) :=
  (loopN (D_slices_IndexFunc_api_Op_api_Op_L0 a0) BIG 0).bind fun r5 =>
  caseS r5 (fun u6 =>
    some u6)
    (fun w7 =>
    some (-1))
/- slices.ContainsFunc[[]backstitch/api.Op,backstitch/api.Op] -/
def D_slices_ContainsFunc_api_Op_api_Op (a0 : List (Int × Int × Int × Int × Int)) : Option (Bool) :=
  (D_slices_IndexFunc_api_Op_api_Op a0).bind fun r1 =>
  some (decide (0 ≤ r1))
/- (backstitch/check.program).form -/
def D_check_program_form (a0 : Int) (a1 : List (Int × Int × Int × Int × Int)) : Option (Int) :=
  (D_nest_Match a1).bind fun r2 =>
  cond (decide (4096 < ((((List.length a1) : Nat) : Int))))
    ((D_check_fail true 6).bind fun r3 =>
    some r3)
    (cond (decide (r2.1 ≠ 0))
      ((D_check_fail true 6).bind fun r4 =>
      some r4)
      ((D_slices_ContainsFunc_api_Op_api_Op a1).bind fun r5 =>
      (D_check_fail r5 6).bind fun r6 =>
      some r6))
def D_slices_Reverse_int_int_L0  (s5 : Int × Int × List Int) : Option ((Int × Int × List Int) ⊕ (List Int)) :=
  cond (decide (s5.1 < s5.2.1))
    ((ix s5.2.1 ((List.length s5.2.2))).bind fun j6 =>
    (s5.2.2[j6]?).bind fun x7 =>
    (ix s5.1 ((List.length s5.2.2))).bind fun j8 =>
    (s5.2.2[j8]?).bind fun x9 =>
    (ix s5.1 ((List.length s5.2.2))).bind fun j10 =>
    (s5.2.2[j10]?).bind fun x11 =>
    (ix s5.2.1 ((List.length ((List.set s5.2.2 j10 x7))))).bind fun j12 =>
    (((List.set s5.2.2 j10 x7))[j12]?).bind fun x13 =>
    some (.inl ((IntKind.i64.wrap (s5.1 + 1), IntKind.i64.wrap (s5.2.1 - 1), (List.set ((List.set s5.2.2 j10 x7)) j12 x9)))))
    (some (.inr s5.2.2))
/- slices.Reverse[[]int,int] -/
def D_slices_Reverse_int_int (a0 : List Int) : Option (List Int) :=
  (loopN (D_slices_Reverse_int_int_L0) BIG ((0, IntKind.i64.wrap (((((List.length a0) : Nat) : Int)) - 1), a0))).bind fun r14 =>
  some r14
/- backstitch/opcode.Reads -/
def D_opcode_Reads (a0 : Int) (a1 : Int) (a2 : Int) (a3 : Int) (a4 : Int) : Option (List Int) :=
  (((((((((cond (decide (a0 = 1))
    (some ((.inl ())))
    (cond (decide (a0 = 2))
      (some ((.inl ())))
      (cond (decide (a0 = 3))
        (some ((.inl ())))
        (cond (decide (a0 = 4))
          (some ((.inr ((.inl ())))))
          (cond (decide (a0 = 6))
            (some ((.inr ((.inl ())))))
            (some ((.inr ((.inr ())))))))))) : Option ((Unit) ⊕ ((Unit) ⊕ (Unit))))).bind fun s5 =>
  caseS s5 (fun u6 =>
    some ((.inl [a3])))
    (fun w7 =>
    caseS w7 (fun u8 =>
      some ((.inl [])))
      (fun w9 =>
      some ((.inr ()))))) : Option ((List Int) ⊕ (Unit)))).bind fun s10 =>
  caseS s10 (fun u11 =>
    gd (fits (List.length u11 + 1) 8) (some ((u11 ++ [a2]))))
    (fun w12 =>
    some [])) : Option (List Int))).bind fun s13 =>
  (D_slices_Reverse_int_int s13).bind fun r14 =>
  some r14
/- backstitch/opcode.Writes -/
def D_opcode_Writes (a0 : Int) (a1 : Int) (a2 : Int) (a3 : Int) (a4 : Int) : Option (Int × Bool) :=
  (D_opcode_of a0).bind fun r5 =>
  cond (!r5.1)
    (some ((0, false)))
    (some ((a1, true)))
/- (backstitch/check.program).registers$1$1 -/
def D_check_program_registers_1_1 (a0 : Int) (a1 : Int) (a2 : List (Int × Int × Int × Int × Int)) : Option (Bool) :=
  some (decide (a1 ≤ a0))
def D_slices_IndexFunc_int_int_L0 (a0 : List Int) (a1 : Int) (a2 : List (Int × Int × Int × Int × Int)) (s4 : Int) : Option ((Int) ⊕ ((Int) ⊕ (Unit))) :=
  cond (decide (s4 < ((((List.length a0) : Nat) : Int))))
    ((rd a0 s4).bind fun x5 =>
    (D_check_program_registers_1_1 x5 a1 a2).bind fun r6 =>
    cond (r6)
      (some (.inr (((.inl s4)))))
      (some (.inl (IntKind.i64.wrap (s4 + 1)))))
    (some (.inr (((.inr ())))))
/- slices.IndexFunc[[]int,int] -/
def D_slices_IndexFunc_int_int (a0 : List Int) (a1 : Int) (a2 : List (Int × Int × Int × Int × Int)) : Option (Int) :=
  (loopN (D_slices_IndexFunc_int_int_L0 a0 a1 a2) BIG 0).bind fun r7 =>
  caseS r7 (fun u8 =>
    some u8)
    (fun w9 =>
    some (-1))
/- slices.ContainsFunc[[]int,int] -/
def D_slices_ContainsFunc_int_int (a0 : List Int) (a1 : Int) (a2 : List (Int × Int × Int × Int × Int)) : Option (Bool) :=
  (D_slices_IndexFunc_int_int a0 a1 a2).bind fun r3 =>
  some (decide (0 ≤ r3))
/- (backstitch/check.program).registers$1 -/
def D_check_program_registers_1 (a0 : Int) (a1 : Int) (a2 : Int) (a3 : Int) (a4 : Int) (a5 : Int) (a6 : List (Int × Int × Int × Int × Int)) : Option (Bool) :=
  (D_opcode_Reads a0 a1 a2 a3 a4).bind fun r7 =>
  ((((D_opcode_Writes a0 a1 a2 a3 a4).bind fun r8 =>
  cond (r8.2)
    (gd (fits (List.length r7 + 1) 8) (some ((r7 ++ [r8.1]))))
    (some r7)) : Option (List Int))).bind fun s9 =>
  (D_slices_ContainsFunc_int_int s9 a5 a6).bind fun r10 =>
  some r10
def D_slices_IndexFunc_api_Op_api_Op_2_L0 (a0 : List (Int × Int × Int × Int × Int)) (a1 : Int) (a2 : List (Int × Int × Int × Int × Int)) (s4 : Int) : Option ((Int) ⊕ ((Int) ⊕ (Unit))) :=
  cond (decide (s4 < ((((List.length a0) : Nat) : Int))))
    ((rd a0 s4).bind fun x5 =>
    (D_check_program_registers_1 x5.1 x5.2.1 x5.2.2.1 x5.2.2.2.1 x5.2.2.2.2 a1 a2).bind fun r6 =>
    cond (r6)
      (some (.inr (((.inl s4)))))
      (some (.inl (IntKind.i64.wrap (s4 + 1)))))
    (some (.inr (((.inr ())))))
/- slices.IndexFunc[[]backstitch/api.Op,backstitch/api.Op] -/
def D_slices_IndexFunc_api_Op_api_Op_2 (a0 : List (Int × Int × Int × Int × Int)) (a1 : Int) (a2 : List (Int × Int × Int × Int × Int)) : Option (Int) :=
  (loopN (D_slices_IndexFunc_api_Op_api_Op_2_L0 a0 a1 a2) BIG 0).bind fun r7 =>
  caseS r7 (fun u8 =>
    some u8)
    (fun w9 =>
    some (-1))
/- slices.ContainsFunc[[]backstitch/api.Op,backstitch/api.Op] -/
def D_slices_ContainsFunc_api_Op_api_Op_2 (a0 : List (Int × Int × Int × Int × Int)) (a1 : Int) (a2 : List (Int × Int × Int × Int × Int)) : Option (Bool) :=
  (D_slices_IndexFunc_api_Op_api_Op_2 a0 a1 a2).bind fun r3 =>
  some (decide (0 ≤ r3))
/- (backstitch/check.program).registers -/
def D_check_program_registers (a0 : Int) (a1 : List (Int × Int × Int × Int × Int)) : Option (Int) :=
  cond (decide (a0 < 1))
    ((D_check_fail true 7).bind fun r2 =>
    some r2)
    (cond (decide (64 < a0))
      ((D_check_fail true 7).bind fun r3 =>
      some r3)
      ((D_slices_ContainsFunc_api_Op_api_Op_2 a1 a0 a1).bind fun r4 =>
      (D_check_fail r4 7).bind fun r5 =>
      some r5))
def D_nest_Deep_L0 (a0 : List (Int × Int × Int × Int × Int)) (s6 : Int × Bool × Int × List Int) : Option ((Int × Bool × Int × List Int) ⊕ (Bool × Int × List Int)) :=
  cond (decide (s6.1 < ((((List.length a0) : Nat) : Int))))
    ((rd a0 s6.1).bind fun x7 =>
    ((((((cond (decide (x7.1 < 0))
      (some ((.inl true)))
      (cond (decide (7 < x7.1))
        (some ((.inr ((true, x7.1, decide (7 < x7.1))))))
        (cond (decide (x7.1 = 0))
          (some ((.inr ((decide (((((List.length s6.2.2.2) : Nat) : Int)) = 0), x7.1, decide (7 < x7.1))))))
          (some ((.inr ((false, x7.1, decide (7 < x7.1))))))))) : Option ((Bool) ⊕ (Bool × Int × Bool)))).bind fun s8 =>
    caseS s8 (fun u9 =>
      cond (u9)
        (some ((.inl ((false, s6.2.2.2)))))
        (cond (decide (x7.1 = 0))
          (gd (cutG 0 (IntKind.i64.wrap (((((List.length s6.2.2.2) : Nat) : Int)) - 1)) ((List.length s6.2.2.2))) (some ((.inr ((.inl ((s6.2.1, (List.take (((Int.toNat (IntKind.i64.wrap (((((List.length s6.2.2.2) : Nat) : Int)) - 1))) - 0)) s6.2.2.2)))))))))
          (some ((.inr ((.inl ((s6.2.1, s6.2.2.2)))))))))
      (fun w10 =>
      cond (w10.1)
        (some ((.inl ((false, s6.2.2.2)))))
        (cond (decide (x7.1 = 0))
          (gd (cutG 0 (IntKind.i64.wrap (((((List.length s6.2.2.2) : Nat) : Int)) - 1)) ((List.length s6.2.2.2))) (some ((.inr ((.inr ((w10.2.1, w10.2.2, s6.2.1, (List.take (((Int.toNat (IntKind.i64.wrap (((((List.length s6.2.2.2) : Nat) : Int)) - 1))) - 0)) s6.2.2.2)))))))))
          (some ((.inr ((.inr ((w10.2.1, w10.2.2, s6.2.1, s6.2.2.2)))))))))) : Option ((Bool × List Int) ⊕ ((Bool × List Int) ⊕ (Int × Bool × Bool × List Int))))).bind fun s11 =>
    caseS s11 (fun u12 =>
      some (.inr (((u12.1, s6.2.2.1, u12.2)))))
      (fun w13 =>
      caseS w13 (fun u14 =>
        (rd a0 s6.1).bind fun x15 =>
        cond (decide (x15.1 = 7))
          (cond (decide (x7.1 = 7))
            (gd (fits (List.length u14.2 + 1) 8) (some (.inl ((IntKind.i64.wrap (s6.1 + 1), u14.1, max s6.2.2.1 (IntKind.i64.wrap (((((List.length u14.2) : Nat) : Int)) + 1)), (u14.2 ++ [s6.1]))))))
            (some (.inl ((IntKind.i64.wrap (s6.1 + 1), u14.1, max s6.2.2.1 (IntKind.i64.wrap (((((List.length u14.2) : Nat) : Int)) + 1)), u14.2)))))
          (cond (decide (x7.1 = 7))
            (gd (fits (List.length u14.2 + 1) 8) (some (.inl ((IntKind.i64.wrap (s6.1 + 1), u14.1, s6.2.2.1, (u14.2 ++ [s6.1]))))))
            (some (.inl ((IntKind.i64.wrap (s6.1 + 1), u14.1, s6.2.2.1, u14.2))))))
        (fun w16 =>
        (rd a0 s6.1).bind fun x17 =>
        cond (decide (x17.1 = 7))
          (cond (decide (x7.1 = 7))
            (gd (fits (List.length w16.2.2.2 + 1) 8) (some (.inl ((IntKind.i64.wrap (s6.1 + 1), w16.2.2.1, max s6.2.2.1 (IntKind.i64.wrap (((((List.length w16.2.2.2) : Nat) : Int)) + 1)), (w16.2.2.2 ++ [s6.1]))))))
            (some (.inl ((IntKind.i64.wrap (s6.1 + 1), w16.2.2.1, max s6.2.2.1 (IntKind.i64.wrap (((((List.length w16.2.2.2) : Nat) : Int)) + 1)), w16.2.2.2)))))
          (cond (decide (x7.1 = 7))
            (gd (fits (List.length w16.2.2.2 + 1) 8) (some (.inl ((IntKind.i64.wrap (s6.1 + 1), w16.2.2.1, s6.2.2.1, (w16.2.2.2 ++ [s6.1]))))))
            (some (.inl ((IntKind.i64.wrap (s6.1 + 1), w16.2.2.1, s6.2.2.1, w16.2.2.2))))))))
    (some (.inr (((s6.2.1, s6.2.2.1, s6.2.2.2)))))
/- backstitch/nest.Deep -/
def D_nest_Deep (a0 : List (Int × Int × Int × Int × Int)) : Option (Int × Int) :=
  (loopN (D_nest_Deep_L0 a0) BIG ((0, true, 0, []))).bind fun r18 =>
  cond (r18.1)
    (cond (!(decide (((((List.length r18.2.2) : Nat) : Int)) = 0)))
      (some ((0, 6)))
      (some ((r18.2.1, 0))))
    (some ((0, 6)))
/- (backstitch/check.program).depth -/
def D_check_program_depth (a0 : Int) (a1 : List (Int × Int × Int × Int × Int)) : Option (Int) :=
  (D_nest_Deep a1).bind fun r2 =>
  (D_check_fail (decide (8 < r2.1)) 8).bind fun r3 =>
  some r3
/- backstitch/size.block -/
def D_size_block (a0 : Int) (a1 : Int) : Option (Int × Bool) :=
  cond (decide (a0 = 0))
    (some ((0, true)))
    (cond (decide (65536 < a0))
      (some ((0, false)))
      (gd (decide (a0 ≠ 0)) (cond (decide ((IntKind.u64.wrap (IntKind.i64.wrap (Int.tdiv 65536 a0))) < a1))
        (some ((0, false)))
        (some ((IntKind.i64.wrap (a0 * (IntKind.i64.wrap (a1))), true))))))
def D_size_add_L0 (a0 : List Int) (s3 : Int × Int) : Option ((Int × Int) ⊕ (Int)) :=
  cond (decide (s3.1 < ((((List.length a0) : Nat) : Int))))
    ((rd a0 s3.1).bind fun x4 =>
    some (.inl ((IntKind.i64.wrap (s3.1 + 1), IntKind.i64.wrap (s3.2 + x4)))))
    (some (.inr s3.2))
/- backstitch/size.add -/
def D_size_add (a0 : List Int) : Option (Int) :=
  (loopN (D_size_add_L0 a0) BIG ((0, 0))).bind fun r5 =>
  some r5
def D_size_measure_L0 (a0 : List (Int × Int × Int × Int × Int)) (s6 : Int × (List Int) × (List Int) × List (Int × Int)) : Option ((Int × (List Int) × (List Int) × List (Int × Int)) ⊕ (Int × (List Int) × (List Int) × List (Int × Int))) :=
  cond (decide (s6.1 < ((((List.length a0) : Nat) : Int))))
    ((rd a0 s6.1).bind fun x7 =>
    (ix (IntKind.i64.wrap (((((List.length s6.2.2.2) : Nat) : Int)) - 1)) ((List.length s6.2.2.2))).bind fun j8 =>
    cond (decide (x7.1 = 7))
      (gd (fits (List.length s6.2.2.2 + 1) 16) (some (.inl ((IntKind.i64.wrap (s6.1 + 1), s6.2.1, s6.2.2.1, (s6.2.2.2 ++ [(s6.1, 0)]))))))
      (cond (decide (x7.1 = 0))
        ((s6.2.2.2[j8]?).bind fun x9 =>
        (s6.2.2.2[j8]?).bind fun x10 =>
        (rd a0 x10.1).bind fun x11 =>
        (D_size_block x9.2 x11.2.2.2.2).bind fun r12 =>
        cond (!r12.2)
          (some (.inr (((9, s6.2.1, s6.2.2.1, s6.2.2.2)))))
          ((s6.2.2.2[j8]?).bind fun x13 =>
          (s6.2.2.2[j8]?).bind fun x14 =>
          (s6.2.2.2[j8]?).bind fun x15 =>
          (ix x13.1 ((List.length s6.2.1))).bind fun j16 =>
          (s6.2.1[j16]?).bind fun x17 =>
          (ix x14.1 ((List.length s6.2.2.1))).bind fun j18 =>
          (s6.2.2.1[j18]?).bind fun x19 =>
          gd (cutG 0 (IntKind.i64.wrap (((((List.length s6.2.2.2) : Nat) : Int)) - 1)) ((List.length s6.2.2.2))) ((ix (IntKind.i64.wrap ((((((Int.toNat (IntKind.i64.wrap (((((List.length s6.2.2.2) : Nat) : Int)) - 1))) - 0) : Nat) : Int)) - 1)) (((Int.toNat (IntKind.i64.wrap (((((List.length s6.2.2.2) : Nat) : Int)) - 1))) - 0))).bind fun j20 =>
          (s6.2.2.2[(0 + j20)]?).bind fun x21 =>
          (D_size_add ([x21.2, r12.1])).bind fun r22 =>
          (ix (IntKind.i64.wrap ((((((Int.toNat (IntKind.i64.wrap (((((List.length s6.2.2.2) : Nat) : Int)) - 1))) - 0) : Nat) : Int)) - 1)) (((Int.toNat (IntKind.i64.wrap (((((List.length s6.2.2.2) : Nat) : Int)) - 1))) - 0))).bind fun j23 =>
          (s6.2.2.2[(0 + j23)]?).bind fun x24 =>
          some (.inl ((IntKind.i64.wrap (s6.1 + 1), (List.set s6.2.1 j16 r12.1), (List.set s6.2.2.1 j18 x15.2), (List.take (((Int.toNat (IntKind.i64.wrap (((((List.length s6.2.2.2) : Nat) : Int)) - 1))) - 0)) ((List.set s6.2.2.2 (0 + j23) ((x24.1, r22)))))))))))
        ((D_opcode_Writes x7.1 x7.2.1 x7.2.2.1 x7.2.2.2.1 x7.2.2.2.2).bind fun r25 =>
        cond (r25.2)
          ((ix s6.1 ((List.length s6.2.1))).bind fun j26 =>
          (s6.2.1[j26]?).bind fun x27 =>
          (s6.2.2.2[j8]?).bind fun x28 =>
          (s6.2.2.2[j8]?).bind fun x29 =>
          some (.inl ((IntKind.i64.wrap (s6.1 + 1), (List.set s6.2.1 j26 1), s6.2.2.1, (List.set s6.2.2.2 j8 ((x29.1, IntKind.i64.wrap (x28.2 + 1))))))))
          (some (.inl ((IntKind.i64.wrap (s6.1 + 1), s6.2.1, s6.2.2.1, s6.2.2.2)))))))
    (some (.inr (((0, s6.2.1, s6.2.2.1, s6.2.2.2)))))
/- backstitch/size.measure -/
def D_size_measure (a0 : List (Int × Int × Int × Int × Int)) : Option (Int × Int × (List Int) × List Int) :=
  (D_nest_Match a0).bind fun r1 =>
  cond (decide (r1.1 ≠ 0))
    (some ((0, r1.1, [], [])))
    (gd (Nat.beq 1 (Sh.w (.int .i64)) && decide (0 ≤ ((((List.length a0) : Nat) : Int))) && decide (((((List.length a0) : Nat) : Int)) ≤ ((((List.length a0) : Nat) : Int))) && decide ((8 : Int) * ((((List.length a0) : Nat) : Int)) ≤ 140737488355328) && Nat.ble 1 8) (gd (Nat.beq 1 (Sh.w (.int .i64)) && decide (0 ≤ ((((List.length a0) : Nat) : Int))) && decide (((((List.length a0) : Nat) : Int)) ≤ ((((List.length a0) : Nat) : Int))) && decide ((8 : Int) * ((((List.length a0) : Nat) : Int)) ≤ 140737488355328) && Nat.ble 1 8) ((loopN (D_size_measure_L0 a0) BIG ((0, (List.replicate (Int.toNat ((((List.length a0) : Nat) : Int))) (0 : Int)), (List.replicate (Int.toNat ((((List.length a0) : Nat) : Int))) (0 : Int)), [(0, 0)]))).bind fun r30 =>
    (((cond (decide (r30.1 = 0))
      ((ix 0 ((List.length r30.2.2.2))).bind fun j31 =>
      (r30.2.2.2[j31]?).bind fun x32 =>
      cond (decide (65536 < x32.2))
        (some 9)
        (some r30.1))
      (some r30.1)) : Option (Int))).bind fun s33 =>
    cond (decide (s33 ≠ 0))
      (some ((0, s33, [], [])))
      ((ix 0 ((List.length r30.2.2.2))).bind fun j34 =>
      (r30.2.2.2[j34]?).bind fun x35 =>
      some ((x35.2, 0, r30.2.1, r30.2.2.1))))))
/- backstitch/size.Writes -/
def D_size_Writes (a0 : List (Int × Int × Int × Int × Int)) : Option (Int × Int) :=
  (D_size_measure a0).bind fun r1 =>
  some ((r1.1, r1.2.1))
/- (backstitch/check.program).writes -/
def D_check_program_writes (a0 : Int) (a1 : List (Int × Int × Int × Int × Int)) : Option (Int) :=
  (D_size_Writes a1).bind fun r2 =>
  some r2.2
/- backstitch/check.Pair -/
def D_check_Pair (a0 : Int) (a1 : List (Int × Int × Int × Int × Int)) (a2 : Int) (a3 : List (Int × Int × Int × Int × Int)) : Option (Int) :=
  (D_check_program_form a0 a1).bind fun r4 =>
  cond (decide (r4 ≠ 0))
    (some r4)
    ((D_check_program_form a2 a3).bind fun r5 =>
    cond (decide (r5 ≠ 0))
      (some r5)
      ((D_check_program_registers a0 a1).bind fun r6 =>
      cond (decide (r6 ≠ 0))
        (some r6)
        ((D_check_program_registers a2 a3).bind fun r7 =>
        cond (decide (r7 ≠ 0))
          (some r7)
          ((D_check_program_depth a0 a1).bind fun r8 =>
          cond (decide (r8 ≠ 0))
            (some r8)
            ((D_check_program_depth a2 a3).bind fun r9 =>
            cond (decide (r9 ≠ 0))
              (some r9)
              ((D_check_program_writes a0 a1).bind fun r10 =>
              cond (decide (r10 ≠ 0))
                (some r10)
                ((D_check_program_writes a2 a3).bind fun r11 =>
                cond (decide (r11 ≠ 0))
                  (some r11)
                  (some 0))))))))
/- (backstitch/header.header).programs -/
def D_header_header_programs (a0 : Int) (a1 : List Int) (a2 : List Int) (a3 : Int) (a4 : List (Int × Int × Int × Int × Int)) (a5 : Int) (a6 : List (Int × Int × Int × Int × Int)) (a7 : Int) (a8 : Int) : Option (Int) :=
  (D_check_Pair a3 a4 a5 a6).bind fun r9 =>
  some r9
/- backstitch/check.Dims -/
def D_check_Dims (a0 : Int) (a1 : List (Int × Int × Int × Int × Int)) (a2 : Int) (a3 : List (Int × Int × Int × Int × Int)) (a4 : Int) (a5 : Int) : Option (Int) :=
  (((cond (decide (a4 < 1))
    (some true)
    (cond (decide (64 < a4))
      (some true)
      (cond (decide (a5 < 0))
        (some true)
        (some (decide (64 < a5)))))) : Option (Bool))).bind fun s6 =>
  cond (s6)
    ((D_check_fail true 10).bind fun r7 =>
    some r7)
    (cond (decide (a0 < (IntKind.i64.wrap ((IntKind.i64.wrap (a4 + a5)) + 1))))
      ((D_check_fail true 10).bind fun r8 =>
      some r8)
      ((D_check_fail (decide (a2 < (IntKind.i64.wrap (a4 + a5)))) 10).bind fun r9 =>
      some r9))
/- (backstitch/header.header).dims -/
def D_header_header_dims (a0 : Int) (a1 : List Int) (a2 : List Int) (a3 : Int) (a4 : List (Int × Int × Int × Int × Int)) (a5 : Int) (a6 : List (Int × Int × Int × Int × Int)) (a7 : Int) (a8 : Int) : Option (Int) :=
  (D_check_Dims a3 a4 a5 a6 ((((List.length a1) : Nat) : Int)) ((((List.length a2) : Nat) : Int))).bind fun r9 =>
  some r9
/- (backstitch/header.header).length -/
def D_header_header_length (a0 : Int) (a1 : List Int) (a2 : List Int) (a3 : Int) (a4 : List (Int × Int × Int × Int × Int)) (a5 : Int) (a6 : List (Int × Int × Int × Int × Int)) (a7 : Int) (a8 : Int) : Option (Int) :=
  (((cond (decide (a0 = 2))
    (some 0)
    (some 65535)) : Option (Int))).bind fun s9 =>
  cond (decide (a7 < 0))
    ((D_header_fail true 11).bind fun r10 =>
    some r10)
    ((D_header_fail (decide (s9 < a7)) 11).bind fun r11 =>
    some r11)
/- (backstitch/header.header).budget -/
def D_header_header_budget (a0 : Int) (a1 : List Int) (a2 : List Int) (a3 : Int) (a4 : List (Int × Int × Int × Int × Int)) (a5 : Int) (a6 : List (Int × Int × Int × Int × Int)) (a7 : Int) (a8 : Int) : Option (Int) :=
  cond (decide (a8 < 0))
    ((D_header_fail true 12).bind fun r9 =>
    some r9)
    ((D_header_fail (decide (1048576 < a8)) 12).bind fun r10 =>
    some r10)
def D_header_Check_L0 (a0 : Int) (a1 : List Int) (a2 : List Int) (a3 : Int) (a4 : List (Int × Int × Int × Int × Int)) (a5 : Int) (a6 : List (Int × Int × Int × Int × Int)) (a7 : Int) (a8 : Int) (s10 : Int) : Option ((Int) ⊕ ((Int) ⊕ (Unit))) :=
  cond (decide (s10 < 5))
    ((ix s10 5).bind fun j11 =>
    cond (Nat.beq j11 0)
      ((D_header_header_mode a0 a1 a2 a3 a4 a5 a6 a7 a8).bind fun r12 =>
      cond (decide (r12 ≠ 0))
        (some (.inr (((.inl r12)))))
        (some (.inl (IntKind.i64.wrap (s10 + 1)))))
      (cond (Nat.beq ((j11 - 1)) 0)
        ((D_header_header_programs a0 a1 a2 a3 a4 a5 a6 a7 a8).bind fun r13 =>
        cond (decide (r13 ≠ 0))
          (some (.inr (((.inl r13)))))
          (some (.inl (IntKind.i64.wrap (s10 + 1)))))
        (cond (Nat.beq (((j11 - 1) - 1)) 0)
          ((D_header_header_dims a0 a1 a2 a3 a4 a5 a6 a7 a8).bind fun r14 =>
          cond (decide (r14 ≠ 0))
            (some (.inr (((.inl r14)))))
            (some (.inl (IntKind.i64.wrap (s10 + 1)))))
          (cond (Nat.beq ((((j11 - 1) - 1) - 1)) 0)
            ((D_header_header_length a0 a1 a2 a3 a4 a5 a6 a7 a8).bind fun r15 =>
            cond (decide (r15 ≠ 0))
              (some (.inr (((.inl r15)))))
              (some (.inl (IntKind.i64.wrap (s10 + 1)))))
            (cond (Nat.beq (((((j11 - 1) - 1) - 1) - 1)) 0)
              ((D_header_header_budget a0 a1 a2 a3 a4 a5 a6 a7 a8).bind fun r16 =>
              cond (decide (r16 ≠ 0))
                (some (.inr (((.inl r16)))))
                (some (.inl (IntKind.i64.wrap (s10 + 1)))))
              none)))))
    (some (.inr (((.inr ())))))
/- backstitch/header.Check -/
def D_header_Check (a0 : Int) (a1 : List Int) (a2 : List Int) (a3 : Int) (a4 : List (Int × Int × Int × Int × Int)) (a5 : Int) (a6 : List (Int × Int × Int × Int × Int)) (a7 : Int) (a8 : Int) : Option (Int) :=
  (loopN (D_header_Check_L0 a0 a1 a2 a3 a4 a5 a6 a7 a8) BIG 0).bind fun r17 =>
  caseS r17 (fun u18 =>
    some u18)
    (fun w19 =>
    some 0)
def D_opcode_Words_L0 (a1 : Int) (a2 : Int) (a3 : Int) (r6 : Bool × Bool × Bool × Bool) (s9 : Int × List Int) : Option ((Int × List Int) ⊕ (List Int)) :=
  cond (decide (s9.1 < 3))
    ((ix s9.1 3).bind fun j10 =>
    (ix s9.1 3).bind fun j11 =>
    cond ((List.getD [r6.1, r6.2.1, r6.2.2.1] j11 false))
      (gd (fits (List.length s9.2 + 1) 8) (some (.inl ((IntKind.i64.wrap (s9.1 + 1), (s9.2 ++ [IntKind.u64.wrap ((List.getD [a1, a2, a3] j10 0))]))))))
      (some (.inl ((IntKind.i64.wrap (s9.1 + 1), s9.2)))))
    (some (.inr s9.2))
/- backstitch/opcode.Words -/
def D_opcode_Words (a0 : Int) (a1 : Int) (a2 : Int) (a3 : Int) (a4 : Int) : Option (Int × List Int) :=
  (D_opcode_Right a0 a1 a2 a3 a4).bind fun r5 =>
  cond (!r5)
    (some ((6, [])))
    ((D_opcode_of a0).bind fun r6 =>
    (loopN (D_opcode_Words_L0 a1 a2 a3 r6) BIG ((0, [IntKind.u64.wrap (a0)]))).bind fun r12 =>
    cond (r6.2.2.2)
      (gd (fits (List.length r12 + 1) 8) (some ((0, (r12 ++ [a4])))))
      (some ((0, r12))))
def D_header_Pack_L0 (a0 : List (Int × Int × Int × Int × Int)) (s3 : Int × List Int) : Option ((Int × List Int) ⊕ ((Int) ⊕ (List Int))) :=
  cond (decide (s3.1 < ((((List.length a0) : Nat) : Int))))
    ((rd a0 s3.1).bind fun x4 =>
    (D_opcode_Words x4.1 x4.2.1 x4.2.2.1 x4.2.2.2.1 x4.2.2.2.2).bind fun r5 =>
    cond (decide (r5.1 ≠ 0))
      (some (.inr (((.inl r5.1)))))
      (gd (fits (List.length s3.2 + List.length r5.2) 8) (some (.inl ((IntKind.i64.wrap (s3.1 + 1), (s3.2 ++ r5.2)))))))
    (some (.inr (((.inr s3.2)))))
/- backstitch/header.Pack -/
def D_header_Pack (a0 : List (Int × Int × Int × Int × Int)) : Option (Int × List Int) :=
  (loopN (D_header_Pack_L0 a0) BIG ((0, []))).bind fun r6 =>
  caseS r6 (fun u7 =>
    some ((u7, [])))
    (fun w8 =>
    some ((0, w8)))
def D_words_Frame_L0 (a0 : List (List Int)) (s3 : Int × List Int) : Option ((Int × List Int) ⊕ (List Int)) :=
  cond (decide (s3.1 < ((((List.length a0) : Nat) : Int))))
    ((rd a0 s3.1).bind fun x4 =>
    gd (fits (List.length s3.2 + 1) 8) (gd (fits (List.length ((s3.2 ++ [IntKind.u64.wrap ((((List.length x4) : Nat) : Int))])) + List.length x4) 8) (some (.inl ((IntKind.i64.wrap (s3.1 + 1), ((s3.2 ++ [IntKind.u64.wrap ((((List.length x4) : Nat) : Int))]) ++ x4)))))))
    (some (.inr s3.2))
/- backstitch/words.Frame -/
def D_words_Frame (a0 : List (List Int)) : Option (List Int) :=
  (loopN (D_words_Frame_L0 a0) BIG ((0, []))).bind fun r5 =>
  some r5
/- backstitch/header.Encode -/
def D_header_Encode (a0 : Int) (a1 : List Int) (a2 : List Int) (a3 : Int) (a4 : List (Int × Int × Int × Int × Int)) (a5 : Int) (a6 : List (Int × Int × Int × Int × Int)) (a7 : Int) (a8 : Int) : Option (Int × List Int) :=
  (D_header_Check a0 a1 a2 a3 a4 a5 a6 a7 a8).bind fun r9 =>
  cond (decide (r9 ≠ 0))
    (some ((r9, [])))
    ((D_header_Pack a4).bind fun r10 =>
    (D_header_Pack a6).bind fun r11 =>
    (D_words_Frame ([r10.2, r11.2, a1, a2])).bind fun r12 =>
    gd (fits (5 + List.length r12) 8) (some ((0, (([IntKind.u64.wrap (a0), IntKind.u64.wrap (a3), IntKind.u64.wrap (a5), IntKind.u64.wrap (a7), IntKind.u64.wrap (a8)] : List Int) ++ r12)))))
/- slices.Clone[[]uint64,uint64] -/
def D_slices_Clone_uint64_uint64 (l : List Int) : Option (List Int) := gd (fits (0 + l.length) 8) (some l)
def D_words_Split_L0 (a1 : Int) (s5 : (List Int) × List (List Int)) : Option (((List Int) × List (List Int)) ⊕ (Int × (List Int) × List (List Int))) :=
  cond (decide (((((List.length s5.2) : Nat) : Int)) < a1))
    (cond (decide (((((List.length s5.1) : Nat) : Int)) = 0))
      (some (.inr (((4, s5.1, s5.2)))))
      ((rd s5.1 0).bind fun x6 =>
      cond (decide ((IntKind.u64.wrap (IntKind.i64.wrap (((((List.length s5.1) : Nat) : Int)) - 1))) < x6))
        (some (.inr (((4, s5.1, s5.2)))))
        ((rd s5.1 0).bind fun x7 =>
        gd (cutG 1 (IntKind.i64.wrap ((IntKind.i64.wrap (x7)) + 1)) ((List.length s5.1))) ((D_slices_Clone_uint64_uint64 ((cutL s5.1 1 (IntKind.i64.wrap ((IntKind.i64.wrap (x7)) + 1))))).bind fun r8 =>
        gd (fits (List.length s5.2 + 1) 24) (gd (cutG (IntKind.i64.wrap ((IntKind.i64.wrap (x7)) + 1)) ((((List.length s5.1) : Nat) : Int)) ((List.length s5.1))) (some (.inl (((cutL s5.1 (IntKind.i64.wrap ((IntKind.i64.wrap (x7)) + 1)) ((((List.length s5.1) : Nat) : Int))), (s5.2 ++ [r8]))))))))))
    (some (.inr (((0, s5.1, s5.2)))))
/- backstitch/words.Split -/
def D_words_Split (a0 : List Int) (a1 : Int) : Option (Int × (List (List Int)) × List Int) :=
  cond (decide (a1 < 0))
    (some ((2, [], [])))
    ((loopN (D_words_Split_L0 a1) BIG ((a0, []))).bind fun r9 =>
    cond (decide (r9.1 ≠ 0))
      (some ((r9.1, [], [])))
      ((D_slices_Clone_uint64_uint64 r9.2.1).bind fun r10 =>
      some ((0, r9.2.2, r10))))
/- backstitch/opcode.Read$1 -/
def D_opcode_Read_1 (a0 : Bool) (a1 : Int) (a2 : List Int) (a3 : Bool) : Option (Int × Int × Bool) :=
  cond (!a0)
    (some ((0, a1, a3)))
    (cond (decide (((((List.length a2) : Nat) : Int)) < (IntKind.i64.wrap (a1 + 1))))
      (some ((0, IntKind.i64.wrap (a1 + 1), true)))
      ((rd a2 (IntKind.i64.wrap ((IntKind.i64.wrap (a1 + 1)) - 1))).bind fun x4 =>
      some ((x4, IntKind.i64.wrap (a1 + 1), a3))))
/- backstitch/opcode.Read$2 -/
def D_opcode_Read_2 (a0 : Bool) (a1 : Int) (a2 : List Int) (a3 : Bool) : Option (Int × Int × Bool) :=
  (D_opcode_Read_1 a0 a1 a2 a3).bind fun r4 =>
  some ((IntKind.i64.wrap (min r4.1 2147483647), r4.2.1, r4.2.2))
/- backstitch/opcode.Read -/
def D_opcode_Read (a0 : List Int) : Option (Int × Int × Int × Int × Int × Int × Int) :=
  cond (decide (((((List.length a0) : Nat) : Int)) = 0))
    (some ((0, 0, 0, 0, 0, 0, 4)))
    ((rd a0 0).bind fun x1 =>
    cond (decide (8 ≤ x1))
      (some ((0, 0, 0, 0, 0, 0, 6)))
      ((rd a0 0).bind fun x2 =>
      (D_opcode_of (IntKind.i64.wrap (x2))).bind fun r3 =>
      (rd a0 0).bind fun x4 =>
      (D_opcode_Read_2 r3.1 1 a0 false).bind fun r5 =>
      (D_opcode_Read_2 r3.2.1 r5.2.1 a0 r5.2.2).bind fun r6 =>
      (D_opcode_Read_2 r3.2.2.1 r6.2.1 a0 r6.2.2).bind fun r7 =>
      (D_opcode_Read_1 r3.2.2.2 r7.2.1 a0 r7.2.2).bind fun r8 =>
      cond (r8.2.2)
        (some ((0, 0, 0, 0, 0, 0, 4)))
        (some ((IntKind.i64.wrap (x4), r5.1, r6.1, r7.1, r8.1, r8.2.1, 0)))))
def D_header_Unpack_L0  (s6 : (List Int) × Bool × List (Int × Int × Int × Int × Int)) : Option (((List Int) × Bool × List (Int × Int × Int × Int × Int)) ⊕ (Bool × List (Int × Int × Int × Int × Int))) :=
  cond (decide (0 < ((((List.length s6.1) : Nat) : Int))))
    ((D_opcode_Read s6.1).bind fun r7 =>
    cond (decide (r7.2.2.2.2.2.2 ≠ 0))
      (some (.inr (((false, s6.2.2)))))
      (gd (fits (List.length s6.2.2 + 1) 40) (gd (cutG r7.2.2.2.2.2.1 ((((List.length s6.1) : Nat) : Int)) ((List.length s6.1))) (some (.inl (((cutL s6.1 r7.2.2.2.2.2.1 ((((List.length s6.1) : Nat) : Int))), s6.2.1, (s6.2.2 ++ [(r7.1, (r7.2.1, (r7.2.2.1, (r7.2.2.2.1, r7.2.2.2.2.1))))]))))))))
    (some (.inr (((s6.2.1, s6.2.2)))))
/- backstitch/header.Unpack -/
def D_header_Unpack (a0 : List Int) : Option (Int × List (Int × Int × Int × Int × Int)) :=
  (loopN (D_header_Unpack_L0) BIG ((a0, true, []))).bind fun r8 =>
  cond (!r8.1)
    (some ((6, [])))
    (some ((0, r8.2)))
/- backstitch/header.number -/
def D_header_number (a0 : Int) : Option (Int) :=
  some (IntKind.i64.wrap (min a0 2147483647))
def D_header_programs_L0 (a0 : List Int) (a1 : List (List Int)) (s4 : Int × List (Int × List (Int × Int × Int × Int × Int))) : Option ((Int × List (Int × List (Int × Int × Int × Int × Int))) ⊕ ((Unit) ⊕ (List (Int × List (Int × Int × Int × Int × Int))))) :=
  cond (decide (s4.1 < ((((List.length a1) : Nat) : Int))))
    ((rd a1 s4.1).bind fun x5 =>
    (D_header_Unpack x5).bind fun r6 =>
    (D_nest_Match r6.2).bind fun r7 =>
    cond (decide (r6.1 ≠ 0))
      (some (.inr (((.inl ())))))
      (cond (decide (r7.1 ≠ 0))
        (some (.inr (((.inl ())))))
        ((rd a0 s4.1).bind fun x8 =>
        (D_header_number x8).bind fun r9 =>
        gd (fits (List.length s4.2 + 1) 32) (some (.inl ((IntKind.i64.wrap (s4.1 + 1), (s4.2 ++ [(r9, r6.2)]))))))))
    (some (.inr (((.inr s4.2)))))
/- backstitch/header.programs -/
def D_header_programs (a0 : List Int) (a1 : List (List Int)) : Option (Int × List (Int × List (Int × Int × Int × Int × Int))) :=
  (loopN (D_header_programs_L0 a0 a1) BIG ((0, []))).bind fun r10 =>
  caseS r10 (fun u11 =>
    some ((6, [])))
    (fun w12 =>
    some ((0, w12)))
/- backstitch/header.Decode -/
def D_header_Decode (a0 : List Int) : Option (Int × Int × (List (Int × Int × Int × Int × Int)) × Int × (List (Int × Int × Int × Int × Int)) × Int × Int × Int × (List Int) × (List Int) × List Int) :=
  cond (decide (((((List.length a0) : Nat) : Int)) < 5))
    (some ((0, 0, [], 0, [], 0, 0, 4, [], [], [])))
    (gd (cutG 5 ((((List.length a0) : Nat) : Int)) ((List.length a0))) ((D_words_Split ((cutL a0 5 ((((List.length a0) : Nat) : Int)))) 4).bind fun r1 =>
    cond (decide (r1.1 ≠ 0))
      (some ((0, 0, [], 0, [], 0, 0, r1.1, [], [], [])))
      ((rd a0 0).bind fun x2 =>
      cond (decide (x2 < 1))
        (some ((0, 0, [], 0, [], 0, 0, 5, [], [], [])))
        ((rd a0 0).bind fun x3 =>
        cond (decide (3 < x3))
          (some ((0, 0, [], 0, [], 0, 0, 5, [], [], [])))
          (gd (cutG 1 3 ((List.length a0))) ((ix 0 ((List.length r1.2.1))).bind fun j4 =>
          (r1.2.1[j4]?).bind fun x5 =>
          (ix 1 ((List.length r1.2.1))).bind fun j6 =>
          (r1.2.1[j6]?).bind fun x7 =>
          (D_header_programs ((cutL a0 1 3)) ([x5, x7])).bind fun r8 =>
          cond (decide (r8.1 ≠ 0))
            (some ((0, 0, [], 0, [], 0, 0, r8.1, [], [], [])))
            ((rd a0 0).bind fun x9 =>
            (ix 0 ((List.length r8.2))).bind fun j10 =>
            (r8.2[j10]?).bind fun x11 =>
            (ix 1 ((List.length r8.2))).bind fun j12 =>
            (r8.2[j12]?).bind fun x13 =>
            (ix 2 ((List.length r1.2.1))).bind fun j14 =>
            (r1.2.1[j14]?).bind fun x15 =>
            (ix 3 ((List.length r1.2.1))).bind fun j16 =>
            (r1.2.1[j16]?).bind fun x17 =>
            (rd a0 3).bind fun x18 =>
            (rd a0 4).bind fun x19 =>
            (D_slices_Clone_uint64_uint64 x15).bind fun r20 =>
            (D_slices_Clone_uint64_uint64 x17).bind fun r21 =>
            (D_header_number x18).bind fun r22 =>
            (D_header_number x19).bind fun r23 =>
            (((cond (decide ((IntKind.i64.wrap (x9)) = 2))
              (some ((IntKind.i64.wrap (x9), x11.1, x11.2, x13.1, x13.2, 0, r23, r1.2.1, r1.2.2, r8.2, r20, r21)))
              (some ((IntKind.i64.wrap (x9), x11.1, x11.2, x13.1, x13.2, r22, r23, r1.2.1, r1.2.2, r8.2, r20, r21)))) : Option (Int × Int × (List (Int × Int × Int × Int × Int)) × Int × (List (Int × Int × Int × Int × Int)) × Int × Int × (List (List Int)) × (List Int) × (List (Int × List (Int × Int × Int × Int × Int))) × (List Int) × List Int))).bind fun s24 =>
            (D_header_Check s24.1 s24.2.2.2.2.2.2.2.2.2.2.1 s24.2.2.2.2.2.2.2.2.2.2.2 s24.2.1 s24.2.2.1 s24.2.2.2.1 s24.2.2.2.2.1 s24.2.2.2.2.2.1 s24.2.2.2.2.2.2.1).bind fun r25 =>
            cond (decide (r25 ≠ 0))
              (some ((0, 0, [], 0, [], 0, 0, r25, [], [], [])))
              (some ((s24.1, s24.2.1, s24.2.2.1, s24.2.2.2.1, s24.2.2.2.2.1, s24.2.2.2.2.2.1, s24.2.2.2.2.2.2.1, 0, s24.2.2.2.2.2.2.2.2.2.2.1, s24.2.2.2.2.2.2.2.2.2.2.2, s24.2.2.2.2.2.2.2.2.1))))))))))
def D_ref05_Same_L0 (a0 : List Int) (a1 : List Int) (s3 : Int) : Option ((Int) ⊕ ((Bool) ⊕ (Unit))) :=
  cond (decide (s3 < ((((List.length a0) : Nat) : Int))))
    ((rd a0 s3).bind fun x4 =>
    (rd a1 s3).bind fun x5 =>
    cond (decide (x4 ≠ x5))
      (some (.inr (((.inl false)))))
      (some (.inl (IntKind.i64.wrap (s3 + 1)))))
    (some (.inr (((.inr ())))))
/- backstitch/backstitchref05.Same -/
def D_ref05_Same (a0 : List Int) (a1 : List Int) : Option (Bool) :=
  cond (decide (((((List.length a0) : Nat) : Int)) ≠ ((((List.length a1) : Nat) : Int))))
    (some false)
    ((loopN (D_ref05_Same_L0 a0 a1) BIG 0).bind fun r6 =>
    caseS r6 (fun u7 =>
      some u7)
      (fun w8 =>
      some true))
def D_ref08_Ops_L0 (a0 : List (Int × Int × Int × Int × Int)) (a1 : List (Int × Int × Int × Int × Int)) (s3 : Int) : Option ((Int) ⊕ ((Bool) ⊕ (Unit))) :=
  cond (decide (s3 < ((((List.length a0) : Nat) : Int))))
    ((rd a0 s3).bind fun x4 =>
    (rd a1 s3).bind fun x5 =>
    cond (!((decide (x4.1 = x5.1) && (decide (x4.2.1 = x5.2.1) && (decide (x4.2.2.1 = x5.2.2.1) && (decide (x4.2.2.2.1 = x5.2.2.2.1) && decide (x4.2.2.2.2 = x5.2.2.2.2)))))))
      (some (.inr (((.inl false)))))
      (some (.inl (IntKind.i64.wrap (s3 + 1)))))
    (some (.inr (((.inr ())))))
/- backstitch/backstitchref08.Ops -/
def D_ref08_Ops (a0 : List (Int × Int × Int × Int × Int)) (a1 : List (Int × Int × Int × Int × Int)) : Option (Bool) :=
  cond (decide (((((List.length a0) : Nat) : Int)) ≠ ((((List.length a1) : Nat) : Int))))
    (some false)
    ((loopN (D_ref08_Ops_L0 a0 a1) BIG 0).bind fun r6 =>
    caseS r6 (fun u7 =>
      some u7)
      (fun w8 =>
      some true))
/- backstitch/backstitchref33.Same -/
def D_ref33_Same (a0 : Int) (a1 : List Int) (a2 : List Int) (a3 : Int) (a4 : List (Int × Int × Int × Int × Int)) (a5 : Int) (a6 : List (Int × Int × Int × Int × Int)) (a7 : Int) (a8 : Int) (a9 : Int) (a10 : List Int) (a11 : List Int) (a12 : Int) (a13 : List (Int × Int × Int × Int × Int)) (a14 : Int) (a15 : List (Int × Int × Int × Int × Int)) (a16 : Int) (a17 : Int) : Option (Bool) :=
  cond (decide (a0 ≠ a9))
    (some false)
    (cond (decide (a7 ≠ a16))
      (some false)
      (cond (decide (a8 ≠ a17))
        (some false)
        (cond (decide (a3 ≠ a12))
          (some false)
          (cond (decide (a5 ≠ a14))
            (some false)
            ((D_ref05_Same a1 a10).bind fun r18 =>
            cond (r18)
              ((D_ref05_Same a2 a11).bind fun r19 =>
              cond (r19)
                ((D_ref08_Ops a4 a13).bind fun r20 =>
                cond (r20)
                  ((D_ref08_Ops a6 a15).bind fun r21 =>
                  some r21)
                  (some false))
                (some false))
              (some false))))))
/- backstitch/backstitchlaw33.goes -/
def D_law33_goes  : Option (Bool) :=
  (D_header_Encode 1 [5] [2] 3 ([(1, (0, (0, (2, 0))))]) 2 [] 3 100).bind fun r0 =>
  (D_header_Decode ([1, 3, 2, 3, 100, 4, 1, 0, 0, 2, 0, 1, 5, 1, 2, 9])).bind fun r1 =>
  cond (decide (r0.1 = 0))
    ((D_ref05_Same r0.2 ([1, 3, 2, 3, 100, 4, 1, 0, 0, 2, 0, 1, 5, 1, 2])).bind fun r2 =>
    cond (r2)
      (cond (decide (r1.2.2.2.2.2.2.2.1 = 0))
        ((D_ref33_Same r1.1 r1.2.2.2.2.2.2.2.2.1 r1.2.2.2.2.2.2.2.2.2.1 r1.2.1 r1.2.2.1 r1.2.2.2.1 r1.2.2.2.2.1 r1.2.2.2.2.2.1 r1.2.2.2.2.2.2.1 1 [5] [2] 3 ([(1, (0, (0, (2, 0))))]) 2 [] 3 100).bind fun r3 =>
        cond (r3)
          ((D_ref05_Same r1.2.2.2.2.2.2.2.2.2.2 [9]).bind fun r4 =>
          some r4)
          (some false))
        (some false))
      (some false))
    (some false)
def D_ref08_Well_L0 (a0 : List (Int × Int × Int × Int × Int)) (s3 : Int × Int) : Option ((Int × Int) ⊕ ((Bool) ⊕ (Int))) :=
  cond (decide (s3.1 < ((((List.length a0) : Nat) : Int))))
    ((rd a0 s3.1).bind fun x4 =>
    cond (decide (x4.1 < 0))
      (some (.inr (((.inl false)))))
      ((rd a0 s3.1).bind fun x5 =>
      cond (decide (7 < x5.1))
        (some (.inr (((.inl false)))))
        (((((rd a0 s3.1).bind fun x6 =>
        cond (decide (x6.1 = 7))
          (some (IntKind.i64.wrap (s3.2 + 1)))
          (some s3.2)) : Option (Int))).bind fun s7 =>
        (rd a0 s3.1).bind fun x8 =>
        cond (decide (x8.1 = 0))
          (cond (decide ((IntKind.i64.wrap (s7 - 1)) < 0))
            (some (.inr (((.inl false)))))
            (some (.inl ((IntKind.i64.wrap (s3.1 + 1), IntKind.i64.wrap (s7 - 1))))))
          (cond (decide (s7 < 0))
            (some (.inr (((.inl false)))))
            (some (.inl ((IntKind.i64.wrap (s3.1 + 1), s7))))))))
    (some (.inr (((.inr s3.2)))))
/- backstitch/backstitchref08.Well -/
def D_ref08_Well (a0 : List (Int × Int × Int × Int × Int)) : Option (Bool) :=
  (loopN (D_ref08_Well_L0 a0) BIG ((0, 0))).bind fun r9 =>
  caseS r9 (fun u10 =>
    some u10)
    (fun w11 =>
    some (decide (w11 = 0)))
/- backstitch/backstitchref07.Asks -/
def D_ref07_Asks (a0 : Int) : Option (Bool × Bool × Bool × Bool) :=
  (((cond (decide (1 ≤ a0))
    (cond (decide (a0 ≤ 3))
      (some ((.inl ((true, true, true, false)))))
      (some ((.inr ((false, false, false, false))))))
    (some ((.inr ((false, false, false, false)))))) : Option ((Bool × Bool × Bool × Bool) ⊕ (Bool × Bool × Bool × Bool)))).bind fun s1 =>
  caseS s1 (fun u2 =>
    some ((u2.1, u2.2.1, u2.2.2.1, u2.2.2.2)))
    (fun w3 =>
    cond (decide (a0 = 4))
      (some ((true, true, false, false)))
      (cond (decide (a0 = 6))
        (some ((true, true, false, false)))
        (cond (decide (a0 = 5))
          (some ((true, false, false, true)))
          (cond (decide (a0 = 7))
            (some ((false, false, false, true)))
            (some ((false, false, false, false)))))))
def D_ref07_Right_L0 (a1 : Int) (a2 : Int) (a3 : Int) (r5 : Bool × Bool × Bool × Bool) (s7 : Int) : Option ((Int) ⊕ ((Bool) ⊕ (Unit))) :=
  cond (decide (s7 < 3))
    ((ix s7 3).bind fun j8 =>
    cond (decide (((List.getD [a1, a2, a3] j8 0)) < 0))
      (some (.inr (((.inl false)))))
      ((ix s7 3).bind fun j9 =>
      cond (decide (2147483647 < ((List.getD [a1, a2, a3] j9 0))))
        (some (.inr (((.inl false)))))
        ((ix s7 4).bind fun j10 =>
        cond (!((List.getD [r5.1, r5.2.1, r5.2.2.1, r5.2.2.2] j10 false)))
          ((ix s7 3).bind fun j11 =>
          cond (decide (((List.getD [a1, a2, a3] j11 0)) ≠ 0))
            (some (.inr (((.inl false)))))
            (some (.inl (IntKind.i64.wrap (s7 + 1)))))
          (some (.inl (IntKind.i64.wrap (s7 + 1)))))))
    (some (.inr (((.inr ())))))
/- backstitch/backstitchref07.Right -/
def D_ref07_Right (a0 : Int) (a1 : Int) (a2 : Int) (a3 : Int) (a4 : Int) : Option (Bool) :=
  cond (decide (a0 < 0))
    (some false)
    (cond (decide (7 < a0))
      (some false)
      ((D_ref07_Asks a0).bind fun r5 =>
      (loopN (D_ref07_Right_L0 a1 a2 a3 r5) BIG 0).bind fun r12 =>
      caseS r12 (fun u13 =>
        some u13)
        (fun w14 =>
        cond (r5.2.2.2)
          (some true)
          (some (decide (a4 = 0))))))
def D_ref10_form_L0 (a1 : List (Int × Int × Int × Int × Int)) (s4 : Int) : Option ((Int) ⊕ ((Bool) ⊕ (Unit))) :=
  cond (decide (s4 < ((((List.length a1) : Nat) : Int))))
    ((rd a1 s4).bind fun x5 =>
    (D_ref07_Right x5.1 x5.2.1 x5.2.2.1 x5.2.2.2.1 x5.2.2.2.2).bind fun r6 =>
    cond (!r6)
      (some (.inr (((.inl false)))))
      (some (.inl (IntKind.i64.wrap (s4 + 1)))))
    (some (.inr (((.inr ())))))
/- backstitch/backstitchref10.form -/
def D_ref10_form (a0 : Int) (a1 : List (Int × Int × Int × Int × Int)) : Option (Bool) :=
  cond (decide (4096 < ((((List.length a1) : Nat) : Int))))
    (some false)
    ((D_ref08_Well a1).bind fun r2 =>
    cond (!r2)
      (some false)
      ((loopN (D_ref10_form_L0 a1) BIG 0).bind fun r7 =>
      caseS r7 (fun u8 =>
        some u8)
        (fun w9 =>
        some true)))
def D_ref10_registers_L0 (a0 : Int) (a1 : List (Int × Int × Int × Int × Int)) (s3 : Int) : Option ((Int) ⊕ ((Bool) ⊕ (Unit))) :=
  cond (decide (s3 < ((((List.length a1) : Nat) : Int))))
    ((rd a1 s3).bind fun x4 =>
    (D_ref07_Asks x4.1).bind fun r5 =>
    cond (r5.1)
      (cond (decide (a0 ≤ x4.2.1))
        (some (.inr (((.inl false)))))
        (cond (r5.2.1)
          (cond (decide (a0 ≤ x4.2.2.1))
            (some (.inr (((.inl false)))))
            (cond (r5.2.2.1)
              (cond (decide (a0 ≤ x4.2.2.2.1))
                (some (.inr (((.inl false)))))
                (some (.inl (IntKind.i64.wrap (s3 + 1)))))
              (some (.inl (IntKind.i64.wrap (s3 + 1))))))
          (cond (r5.2.2.1)
            (cond (decide (a0 ≤ x4.2.2.2.1))
              (some (.inr (((.inl false)))))
              (some (.inl (IntKind.i64.wrap (s3 + 1)))))
            (some (.inl (IntKind.i64.wrap (s3 + 1)))))))
      (cond (r5.2.1)
        (cond (decide (a0 ≤ x4.2.2.1))
          (some (.inr (((.inl false)))))
          (cond (r5.2.2.1)
            (cond (decide (a0 ≤ x4.2.2.2.1))
              (some (.inr (((.inl false)))))
              (some (.inl (IntKind.i64.wrap (s3 + 1)))))
            (some (.inl (IntKind.i64.wrap (s3 + 1))))))
        (cond (r5.2.2.1)
          (cond (decide (a0 ≤ x4.2.2.2.1))
            (some (.inr (((.inl false)))))
            (some (.inl (IntKind.i64.wrap (s3 + 1)))))
          (some (.inl (IntKind.i64.wrap (s3 + 1)))))))
    (some (.inr (((.inr ())))))
/- backstitch/backstitchref10.registers -/
def D_ref10_registers (a0 : Int) (a1 : List (Int × Int × Int × Int × Int)) : Option (Bool) :=
  cond (decide (a0 < 1))
    (some false)
    (cond (decide (64 < a0))
      (some false)
      ((loopN (D_ref10_registers_L0 a0 a1) BIG 0).bind fun r6 =>
      caseS r6 (fun u7 =>
        some u7)
        (fun w8 =>
        some true)))
def D_ref08_height_L0 (a0 : List (Int × Int × Int × Int × Int)) (a1 : Int) (s4 : Int × Int) : Option ((Int × Int) ⊕ (Int)) :=
  cond (decide (s4.1 < a1))
    ((rd a0 s4.1).bind fun x5 =>
    cond (decide (x5.1 = 7))
      ((rd a0 s4.1).bind fun x6 =>
      cond (decide (x6.1 = 0))
        (some (.inl ((IntKind.i64.wrap (s4.1 + 1), IntKind.i64.wrap ((IntKind.i64.wrap (s4.2 + 1)) - 1)))))
        (some (.inl ((IntKind.i64.wrap (s4.1 + 1), IntKind.i64.wrap (s4.2 + 1))))))
      ((rd a0 s4.1).bind fun x7 =>
      cond (decide (x7.1 = 0))
        (some (.inl ((IntKind.i64.wrap (s4.1 + 1), IntKind.i64.wrap (s4.2 - 1)))))
        (some (.inl ((IntKind.i64.wrap (s4.1 + 1), s4.2))))))
    (some (.inr s4.2))
/- backstitch/backstitchref08.height -/
def D_ref08_height (a0 : List (Int × Int × Int × Int × Int)) (a1 : Int) : Option (Int) :=
  (loopN (D_ref08_height_L0 a0 a1) BIG ((0, 0))).bind fun r8 =>
  some r8
def D_ref08_Deep_L0 (a0 : List (Int × Int × Int × Int × Int)) (s4 : Int × Int) : Option ((Int × Int) ⊕ (Int)) :=
  cond (decide (s4.1 ≤ ((((List.length a0) : Nat) : Int))))
    ((D_ref08_height a0 s4.1).bind fun r5 =>
    some (.inl ((IntKind.i64.wrap (s4.1 + 1), max s4.2 r5))))
    (some (.inr s4.2))
/- backstitch/backstitchref08.Deep -/
def D_ref08_Deep (a0 : List (Int × Int × Int × Int × Int)) : Option (Int × Int) :=
  (D_ref08_Well a0).bind fun r1 =>
  cond (!r1)
    (some ((0, 6)))
    ((loopN (D_ref08_Deep_L0 a0) BIG ((0, 0))).bind fun r6 =>
    some ((r6, 0)))
def D_ref08_Match_L0 (a0 : List (Int × Int × Int × Int × Int)) (s4 : Int × List Int) : Option ((Int × List Int) ⊕ (List Int)) :=
  cond (decide (s4.1 < ((((List.length a0) : Nat) : Int))))
    (gd (fits (List.length s4.2 + 1) 8) (some (.inl ((IntKind.i64.wrap (s4.1 + 1), (s4.2 ++ [(-1)]))))))
    (some (.inr s4.2))
def D_ref08_Match_L1 (a0 : List (Int × Int × Int × Int × Int)) (s13 : Int × Int) : Option ((Int × Int) ⊕ (Int)) :=
  cond (decide (0 < s13.1))
    ((rd a0 (IntKind.i64.wrap (s13.2 + 1))).bind fun x14 =>
    cond (decide (x14.1 = 7))
      ((rd a0 (IntKind.i64.wrap (s13.2 + 1))).bind fun x15 =>
      cond (decide (x15.1 = 0))
        (some (.inl ((IntKind.i64.wrap ((IntKind.i64.wrap (s13.1 + 1)) - 1), IntKind.i64.wrap (s13.2 + 1)))))
        (some (.inl ((IntKind.i64.wrap (s13.1 + 1), IntKind.i64.wrap (s13.2 + 1))))))
      ((rd a0 (IntKind.i64.wrap (s13.2 + 1))).bind fun x16 =>
      cond (decide (x16.1 = 0))
        (some (.inl ((IntKind.i64.wrap (s13.1 - 1), IntKind.i64.wrap (s13.2 + 1)))))
        (some (.inl ((s13.1, IntKind.i64.wrap (s13.2 + 1)))))))
    (some (.inr s13.2))
def D_ref08_Match_L2 (a0 : List (Int × Int × Int × Int × Int)) (s8 : Int × List Int) : Option ((Int × List Int) ⊕ (List Int)) :=
  cond (decide (s8.1 < ((((List.length a0) : Nat) : Int))))
    ((rd a0 s8.1).bind fun x9 =>
    cond (decide (x9.1 ≠ 7))
      (some (.inl ((IntKind.i64.wrap (s8.1 + 1), s8.2))))
      ((loopN (D_ref08_Match_L1 a0) BIG ((1, s8.1))).bind fun r17 =>
      (ix s8.1 ((List.length s8.2))).bind fun j18 =>
      (s8.2[j18]?).bind fun x19 =>
      (ix r17 ((List.length ((List.set s8.2 j18 r17))))).bind fun j20 =>
      (((List.set s8.2 j18 r17))[j20]?).bind fun x21 =>
      some (.inl ((IntKind.i64.wrap (s8.1 + 1), (List.set ((List.set s8.2 j18 r17)) j20 s8.1))))))
    (some (.inr s8.2))
/- backstitch/backstitchref08.Match -/
def D_ref08_Match (a0 : List (Int × Int × Int × Int × Int)) : Option (Int × List Int) :=
  (D_ref08_Well a0).bind fun r1 =>
  cond (!r1)
    (some ((6, [])))
    ((loopN (D_ref08_Match_L0 a0) BIG ((0, []))).bind fun r5 =>
    (loopN (D_ref08_Match_L2 a0) BIG ((0, r5))).bind fun r22 =>
    some ((0, r22)))
def B_ref09_within_L0 (k_ref09_Block : (List (Int × Int × Int × Int × Int)) → (List Int) → Int → Option (Int)) (a0 : List (Int × Int × Int × Int × Int)) (a1 : List Int) (a3 : Int) (s7 : Int × Int) : Option ((Int × Int) ⊕ ((Unit) ⊕ (Int))) :=
  cond (decide (s7.1 < a3))
    ((rd a0 s7.1).bind fun x8 =>
    cond (decide (x8.1 = 7))
      ((k_ref09_Block a0 a1 s7.1).bind fun r9 =>
      (rd a1 s7.1).bind fun x10 =>
      cond (decide (65536 < (IntKind.i64.wrap (s7.2 + r9))))
        (some (.inr (((.inl ())))))
        (some (.inl ((IntKind.i64.wrap (x10 + 1), IntKind.i64.wrap (s7.2 + r9))))))
      ((rd a0 s7.1).bind fun x11 =>
      (D_ref07_Asks x11.1).bind fun r12 =>
      cond (r12.1)
        (cond (decide (65536 < (IntKind.i64.wrap (s7.2 + 1))))
          (some (.inr (((.inl ())))))
          (some (.inl ((IntKind.i64.wrap (s7.1 + 1), IntKind.i64.wrap (s7.2 + 1))))))
        (cond (decide (65536 < s7.2))
          (some (.inr (((.inl ())))))
          (some (.inl ((IntKind.i64.wrap (s7.1 + 1), s7.2)))))))
    (some (.inr (((.inr s7.2)))))
/- backstitch/backstitchref09.within -/
def B_ref09_within (k_ref09_within : (List (Int × Int × Int × Int × Int)) → (List Int) → Int → Int → Option (Int)) (k_ref09_Block : (List (Int × Int × Int × Int × Int)) → (List Int) → Int → Option (Int)) (a0 : List (Int × Int × Int × Int × Int)) (a1 : List Int) (a2 : Int) (a3 : Int) : Option (Int) :=
  (loopN (B_ref09_within_L0 k_ref09_Block a0 a1 a3) BIG ((a2, 0))).bind fun r13 =>
  caseS r13 (fun u14 =>
    some 65537)
    (fun w15 =>
    some w15)
/- backstitch/backstitchref09.Block -/
def B_ref09_Block (k_ref09_within : (List (Int × Int × Int × Int × Int)) → (List Int) → Int → Int → Option (Int)) (k_ref09_Block : (List (Int × Int × Int × Int × Int)) → (List Int) → Int → Option (Int)) (a0 : List (Int × Int × Int × Int × Int)) (a1 : List Int) (a2 : Int) : Option (Int) :=
  (rd a1 a2).bind fun x3 =>
  (k_ref09_within a0 a1 (IntKind.i64.wrap (a2 + 1)) x3).bind fun r4 =>
  cond (decide (r4 = 0))
    (some 0)
    ((rd a0 a2).bind fun x5 =>
    cond (decide (x5.2.2.2.2 = 0))
      (some 0)
      ((rd a0 a2).bind fun x6 =>
      cond (decide (65536 < x6.2.2.2.2))
        (some 65537)
        ((rd a0 a2).bind fun x7 =>
        cond (decide (65536 < (IntKind.i64.wrap (r4 * (IntKind.i64.wrap (x7.2.2.2.2))))))
          (some 65537)
          ((rd a0 a2).bind fun x8 =>
          some (IntKind.i64.wrap (r4 * (IntKind.i64.wrap (x8.2.2.2.2))))))))
def D_rec_ref09_within : Nat → ((List (Int × Int × Int × Int × Int)) → (List Int) → Int → Int → Option (Int)) × ((List (Int × Int × Int × Int × Int)) → (List Int) → Int → Option (Int))
  | 0 => (fun _ _ _ _ => none, fun _ _ _ => none)
  | n + 1 => (B_ref09_within ((D_rec_ref09_within n).1) ((D_rec_ref09_within n).2), B_ref09_Block ((D_rec_ref09_within n).1) ((D_rec_ref09_within n).2))
def D_ref09_within (a0 : List (Int × Int × Int × Int × Int)) (a1 : List Int) (a2 : Int) (a3 : Int) : Option (Int) := (D_rec_ref09_within 400).1 a0 a1 a2 a3
def D_ref09_Block (a0 : List (Int × Int × Int × Int × Int)) (a1 : List Int) (a2 : Int) : Option (Int) := (D_rec_ref09_within 400).2 a0 a1 a2

def D_ref09_Writes_L0 (a0 : List (Int × Int × Int × Int × Int)) (r1 : Int × List Int) (s3 : Int) : Option ((Int) ⊕ ((Unit) ⊕ (Unit))) :=
  cond (decide (s3 < ((((List.length a0) : Nat) : Int))))
    ((rd a0 s3).bind fun x4 =>
    cond (decide (x4.1 = 7))
      ((D_ref09_Block a0 r1.2 s3).bind fun r5 =>
      cond (decide (65536 < r5))
        (some (.inr (((.inl ())))))
        ((ix s3 ((List.length r1.2))).bind fun j6 =>
        (r1.2[j6]?).bind fun x7 =>
        (D_ref09_within a0 r1.2 (IntKind.i64.wrap (s3 + 1)) x7).bind fun r8 =>
        cond (decide (65536 < r8))
          (some (.inr (((.inl ())))))
          (some (.inl (IntKind.i64.wrap (s3 + 1))))))
      (some (.inl (IntKind.i64.wrap (s3 + 1)))))
    (some (.inr (((.inr ())))))
/- backstitch/backstitchref09.Writes -/
def D_ref09_Writes (a0 : List (Int × Int × Int × Int × Int)) : Option (Int × Int) :=
  (D_ref08_Match a0).bind fun r1 =>
  cond (decide (r1.1 ≠ 0))
    (some ((0, r1.1)))
    ((loopN (D_ref09_Writes_L0 a0 r1) BIG 0).bind fun r9 =>
    caseS r9 (fun u10 =>
      some ((0, 9)))
      (fun w11 =>
      (D_ref09_within a0 r1.2 0 ((((List.length a0) : Nat) : Int))).bind fun r12 =>
      cond (decide (65536 < r12))
        (some ((0, 9)))
        (some ((r12, 0)))))
/- backstitch/backstitchref10.Look -/
def D_ref10_Look (a0 : Int) (a1 : List (Int × Int × Int × Int × Int)) (a2 : Int) : Option (Int) :=
  cond (decide (a2 = 0))
    ((D_ref10_form a0 a1).bind fun r3 =>
    cond (!r3)
      (some 6)
      (some 0))
    (cond (decide (a2 = 1))
      ((D_ref10_registers a0 a1).bind fun r4 =>
      cond (!r4)
        (some 7)
        (some 0))
      (cond (decide (a2 = 2))
        ((D_ref08_Deep a1).bind fun r5 =>
        cond (decide (8 < r5.1))
          (some 8)
          (some 0))
        ((D_ref09_Writes a1).bind fun r6 =>
        some r6.2)))
def D_ref10_Pair_L0 (a0 : Int) (a1 : List (Int × Int × Int × Int × Int)) (a2 : Int) (a3 : List (Int × Int × Int × Int × Int)) (s5 : Int) : Option ((Int) ⊕ ((Int) ⊕ (Unit))) :=
  cond (decide (s5 < 4))
    ((D_ref10_Look a0 a1 s5).bind fun r6 =>
    cond (decide (r6 ≠ 0))
      (some (.inr (((.inl r6)))))
      ((D_ref10_Look a2 a3 s5).bind fun r7 =>
      cond (decide (r7 ≠ 0))
        (some (.inr (((.inl r7)))))
        (some (.inl (IntKind.i64.wrap (s5 + 1))))))
    (some (.inr (((.inr ())))))
/- backstitch/backstitchref10.Pair -/
def D_ref10_Pair (a0 : Int) (a1 : List (Int × Int × Int × Int × Int)) (a2 : Int) (a3 : List (Int × Int × Int × Int × Int)) : Option (Int) :=
  (loopN (D_ref10_Pair_L0 a0 a1 a2 a3) BIG 0).bind fun r8 =>
  caseS r8 (fun u9 =>
    some u9)
    (fun w10 =>
    some 0)
/- backstitch/backstitchref10.Dims -/
def D_ref10_Dims (a0 : Int) (a1 : List (Int × Int × Int × Int × Int)) (a2 : Int) (a3 : List (Int × Int × Int × Int × Int)) (a4 : Int) (a5 : Int) : Option (Int) :=
  cond (decide (a4 < 1))
    (some 10)
    (cond (decide (64 < a4))
      (some 10)
      (cond (decide (a5 < 0))
        (some 10)
        (cond (decide (64 < a5))
          (some 10)
          (cond (decide (a0 < (IntKind.i64.wrap ((IntKind.i64.wrap (a4 + a5)) + 1))))
            (some 10)
            (cond (decide (a2 < (IntKind.i64.wrap (a4 + a5))))
              (some 10)
              (some 0))))))
/- backstitch/backstitchref33.Check -/
def D_ref33_Check (a0 : Int) (a1 : List Int) (a2 : List Int) (a3 : Int) (a4 : List (Int × Int × Int × Int × Int)) (a5 : Int) (a6 : List (Int × Int × Int × Int × Int)) (a7 : Int) (a8 : Int) : Option (Int) :=
  cond (decide (a0 < 1))
    (some 5)
    (cond (decide (3 < a0))
      (some 5)
      ((D_ref10_Pair a3 a4 a5 a6).bind fun r9 =>
      cond (decide (r9 ≠ 0))
        (some r9)
        ((D_ref10_Dims a3 a4 a5 a6 ((((List.length a1) : Nat) : Int)) ((((List.length a2) : Nat) : Int))).bind fun r10 =>
        cond (decide (r10 ≠ 0))
          (some r10)
          (cond (decide (a7 < 0))
            (some 11)
            (cond (decide (65535 < a7))
              (some 11)
              (cond (decide (a0 = 2))
                (cond (decide (a7 ≠ 0))
                  (some 11)
                  (cond (decide (a8 < 0))
                    (some 12)
                    (cond (decide (1048576 < a8))
                      (some 12)
                      (some 0))))
                (cond (decide (a8 < 0))
                  (some 12)
                  (cond (decide (1048576 < a8))
                    (some 12)
                    (some 0)))))))))
def D_ref07_Words_L0 (a1 : Int) (a2 : Int) (a3 : Int) (a4 : Int) (r6 : Bool × Bool × Bool × Bool) (s9 : Int × List Int) : Option ((Int × List Int) ⊕ (List Int)) :=
  cond (decide (s9.1 < 4))
    ((ix s9.1 4).bind fun j10 =>
    cond ((List.getD [r6.1, r6.2.1, r6.2.2.1, r6.2.2.2] j10 false))
      ((ix s9.1 4).bind fun j11 =>
      gd (fits (List.length s9.2 + 1) 8) (some (.inl ((IntKind.i64.wrap (s9.1 + 1), (s9.2 ++ [(List.getD [IntKind.u64.wrap (a1), IntKind.u64.wrap (a2), IntKind.u64.wrap (a3), a4] j11 0)]))))))
      (some (.inl ((IntKind.i64.wrap (s9.1 + 1), s9.2)))))
    (some (.inr s9.2))
/- backstitch/backstitchref07.Words -/
def D_ref07_Words (a0 : Int) (a1 : Int) (a2 : Int) (a3 : Int) (a4 : Int) : Option (Int × List Int) :=
  (D_ref07_Right a0 a1 a2 a3 a4).bind fun r5 =>
  cond (!r5)
    (some ((6, [])))
    ((D_ref07_Asks a0).bind fun r6 =>
    (loopN (D_ref07_Words_L0 a1 a2 a3 a4 r6) BIG ((0, [IntKind.u64.wrap (a0)]))).bind fun r12 =>
    some ((0, r12)))
def D_ref33_Pack_L0 (r5 : Int × List Int) (s8 : Int × List Int) : Option ((Int × List Int) ⊕ (List Int)) :=
  cond (decide (s8.1 < ((((List.length r5.2) : Nat) : Int))))
    ((ix s8.1 ((List.length r5.2))).bind fun j9 =>
    (r5.2[j9]?).bind fun x10 =>
    gd (fits (List.length s8.2 + 1) 8) (some (.inl ((IntKind.i64.wrap (s8.1 + 1), (s8.2 ++ [x10]))))))
    (some (.inr s8.2))
def D_ref33_Pack_L1 (a0 : List (Int × Int × Int × Int × Int)) (s3 : Int × List Int) : Option ((Int × List Int) ⊕ ((Unit) ⊕ (List Int))) :=
  cond (decide (s3.1 < ((((List.length a0) : Nat) : Int))))
    ((rd a0 s3.1).bind fun x4 =>
    (D_ref07_Words x4.1 x4.2.1 x4.2.2.1 x4.2.2.2.1 x4.2.2.2.2).bind fun r5 =>
    cond (decide (r5.1 ≠ 0))
      (some (.inr (((.inl ())))))
      ((loopN (D_ref33_Pack_L0 r5) BIG ((0, s3.2))).bind fun r11 =>
      some (.inl ((IntKind.i64.wrap (s3.1 + 1), r11)))))
    (some (.inr (((.inr s3.2)))))
/- backstitch/backstitchref33.Pack -/
def D_ref33_Pack (a0 : List (Int × Int × Int × Int × Int)) : Option (Int × List Int) :=
  (loopN (D_ref33_Pack_L1 a0) BIG ((0, []))).bind fun r12 =>
  caseS r12 (fun u13 =>
    some ((6, [])))
    (fun w14 =>
    some ((0, w14)))
def D_ref05_Frame_L0 (a0 : List (List Int)) (s3 : Int × List Int) (s7 : Int × List Int) : Option ((Int × List Int) ⊕ (List Int)) :=
  (rd a0 s3.1).bind fun x8 =>
  cond (decide (s7.1 < ((((List.length x8) : Nat) : Int))))
    ((rd a0 s3.1).bind fun x9 =>
    (rd x9 s7.1).bind fun x10 =>
    gd (fits (List.length s7.2 + 1) 8) (some (.inl ((IntKind.i64.wrap (s7.1 + 1), (s7.2 ++ [x10]))))))
    (some (.inr s7.2))
def D_ref05_Frame_L1 (a0 : List (List Int)) (s3 : Int × List Int) : Option ((Int × List Int) ⊕ (List Int)) :=
  cond (decide (s3.1 < ((((List.length a0) : Nat) : Int))))
    ((rd a0 s3.1).bind fun x4 =>
    gd (fits (List.length s3.2 + 1) 8) ((loopN (D_ref05_Frame_L0 a0 s3) BIG ((0, (s3.2 ++ [IntKind.u64.wrap ((((List.length x4) : Nat) : Int))])))).bind fun r11 =>
    some (.inl ((IntKind.i64.wrap (s3.1 + 1), r11)))))
    (some (.inr s3.2))
/- backstitch/backstitchref05.Frame -/
def D_ref05_Frame (a0 : List (List Int)) : Option (List Int) :=
  (loopN (D_ref05_Frame_L1 a0) BIG ((0, []))).bind fun r12 =>
  some r12
def D_ref33_Encode_L0 (r12 : List Int) (s15 : Int × List Int) : Option ((Int × List Int) ⊕ (List Int)) :=
  cond (decide (s15.1 < ((((List.length r12) : Nat) : Int))))
    ((ix s15.1 ((List.length r12))).bind fun j16 =>
    (r12[j16]?).bind fun x17 =>
    gd (fits (List.length s15.2 + 1) 8) (some (.inl ((IntKind.i64.wrap (s15.1 + 1), (s15.2 ++ [x17]))))))
    (some (.inr s15.2))
/- backstitch/backstitchref33.Encode -/
def D_ref33_Encode (a0 : Int) (a1 : List Int) (a2 : List Int) (a3 : Int) (a4 : List (Int × Int × Int × Int × Int)) (a5 : Int) (a6 : List (Int × Int × Int × Int × Int)) (a7 : Int) (a8 : Int) : Option (Int × List Int) :=
  (D_ref33_Check a0 a1 a2 a3 a4 a5 a6 a7 a8).bind fun r9 =>
  cond (decide (r9 ≠ 0))
    (some ((r9, [])))
    ((D_ref33_Pack a4).bind fun r10 =>
    (D_ref33_Pack a6).bind fun r11 =>
    (D_ref05_Frame ([r10.2, r11.2, a1, a2])).bind fun r12 =>
    (loopN (D_ref33_Encode_L0 r12) BIG ((0, [IntKind.u64.wrap (a0), IntKind.u64.wrap (a3), IntKind.u64.wrap (a5), IntKind.u64.wrap (a7), IntKind.u64.wrap (a8)]))).bind fun r18 =>
    some ((0, r18)))
/- backstitch/backstitchlaw33.HeaderChecks -/
def D_law33_HeaderChecks (a0 : Int) (a1 : List Int) (a2 : List Int) (a3 : Int) (a4 : List (Int × Int × Int × Int × Int)) (a5 : Int) (a6 : List (Int × Int × Int × Int × Int)) (a7 : Int) (a8 : Int) : Option (Bool) :=
  (D_law33_Small a0 a1 a2 a3 a4 a5 a6 a7 a8 100).bind fun r9 =>
  cond (!r9)
    ((D_law33_goes).bind fun r10 =>
    some r10)
    ((D_header_Encode a0 a1 a2 a3 a4 a5 a6 a7 a8).bind fun r11 =>
    (D_ref33_Encode a0 a1 a2 a3 a4 a5 a6 a7 a8).bind fun r12 =>
    (D_header_Check a0 a1 a2 a3 a4 a5 a6 a7 a8).bind fun r13 =>
    (D_ref33_Check a0 a1 a2 a3 a4 a5 a6 a7 a8).bind fun r14 =>
    cond (decide (r13 = r14))
      ((D_ref05_Same r11.2 r12.2).bind fun r15 =>
      cond (r15)
        (cond (decide (r11.1 = r12.1))
          ((D_law33_goes).bind fun r16 =>
          some r16)
          (some false))
        (some false))
      (some false))
/- backstitch/backstitchref05.Word -/
def D_ref05_Word (a0 : List Int) (a1 : Int) (a2 : Int) : Option (Int × (List Int) × Int × Int) :=
  cond (decide (a2 ≠ 0))
    (some ((0, a0, a1, a2)))
    (cond (decide (((((List.length a0) : Nat) : Int)) ≤ a1))
      (some ((0, a0, a1, 4)))
      ((rd a0 (IntKind.i64.wrap ((IntKind.i64.wrap (a1 + 1)) - 1))).bind fun x3 =>
      some ((x3, a0, IntKind.i64.wrap (a1 + 1), a2))))
/- backstitch/backstitchref05.Int -/
def D_ref05_Int (a0 : List Int) (a1 : Int) (a2 : Int) (a3 : Int) : Option (Int × (List Int) × Int × Int) :=
  (D_ref05_Word a0 a1 a2).bind fun r4 =>
  cond (decide (r4.2.2.2 ≠ 0))
    (some ((0, r4.2.1, r4.2.2.1, r4.2.2.2)))
    (cond (decide (a3 < 0))
      (some ((0, a0, a1, 2)))
      (cond (decide ((IntKind.u64.wrap (a3)) < r4.1))
        (some ((0, a0, a1, 2)))
        (some ((IntKind.i64.wrap (r4.1), r4.2.1, r4.2.2.1, r4.2.2.2)))))
def D_ref05_List_L0 (a0 : List Int) (r4 : Int × (List Int) × Int × Int) (s7 : Int × List Int) : Option ((Int × List Int) ⊕ (List Int)) :=
  cond (decide (s7.1 < r4.1))
    ((rd a0 (IntKind.i64.wrap (r4.2.2.1 + s7.1))).bind fun x8 =>
    gd (fits (List.length s7.2 + 1) 8) (some (.inl ((IntKind.i64.wrap (s7.1 + 1), (s7.2 ++ [x8]))))))
    (some (.inr s7.2))
/- backstitch/backstitchref05.List -/
def D_ref05_List (a0 : List Int) (a1 : Int) (a2 : Int) (a3 : Int) : Option ((List Int) × Int × Int × List Int) :=
  (D_ref05_Int a0 a1 a2 a3).bind fun r4 =>
  cond (decide (r4.2.2.2 ≠ 0))
    (some ((r4.2.1, r4.2.2.1, r4.2.2.2, [])))
    (cond (decide ((IntKind.i64.wrap (((((List.length a0) : Nat) : Int)) - r4.2.2.1)) < r4.1))
      (some ((a0, a1, 4, [])))
      ((loopN (D_ref05_List_L0 a0 r4) BIG ((0, []))).bind fun r9 =>
      some ((r4.2.1, IntKind.i64.wrap (r4.2.2.1 + r4.1), r4.2.2.2, r9))))
def D_ref05_Split_L0 (a0 : List Int) (a1 : Int) (s6 : (List Int) × Int × Int × List (List Int)) : Option (((List Int) × Int × Int × List (List Int)) ⊕ (((List Int) × Int × Int) ⊕ ((List Int) × Int × Int × List (List Int)))) :=
  cond (decide (((((List.length s6.2.2.2) : Nat) : Int)) < a1))
    (cond (decide (((((List.length a0) : Nat) : Int)) ≤ s6.2.1))
      (some (.inr (((.inl ((s6.1, s6.2.1, s6.2.2.1)))))))
      ((rd a0 s6.2.1).bind fun x7 =>
      cond (decide ((IntKind.u64.wrap (IntKind.i64.wrap ((IntKind.i64.wrap (((((List.length a0) : Nat) : Int)) - s6.2.1)) - 1))) < x7))
        (some (.inr (((.inl ((s6.1, s6.2.1, s6.2.2.1)))))))
        ((D_ref05_List s6.1 s6.2.1 s6.2.2.1 ((((List.length a0) : Nat) : Int))).bind fun r8 =>
        gd (fits (List.length s6.2.2.2 + 1) 24) (some (.inl ((r8.1, r8.2.1, r8.2.2.1, (s6.2.2.2 ++ [r8.2.2.2]))))))))
    (some (.inr (((.inr ((s6.1, s6.2.1, s6.2.2.1, s6.2.2.2)))))))
/- backstitch/backstitchref05.Split -/
def D_ref05_Split (a0 : List Int) (a1 : Int) : Option ((List Int) × Int × List (List Int)) :=
  cond (decide (a1 < 0))
    (some (([], 2, [])))
    ((loopN (D_ref05_Split_L0 a0 a1) BIG ((a0, 0, 0, []))).bind fun r9 =>
    caseS r9 (fun u10 =>
      some (([], 4, [])))
      (fun w11 =>
      gd (cutG w11.2.1 ((((List.length a0) : Nat) : Int)) ((List.length a0))) (some (((cutL a0 w11.2.1 ((((List.length a0) : Nat) : Int))), 0, w11.2.2.2)))))
def D_ref07_Read_L0 (a0 : List Int) (r3 : Bool × Bool × Bool × Bool) (s13 : Int × Int × Int × Int × Int × Int) : Option ((Int × Int × Int × Int × Int × Int) ⊕ ((Int × Int × Int × Int) ⊕ (Int × Int × Int × Int × Int))) :=
  cond (decide (s13.1 < 4))
    ((ix s13.1 4).bind fun j14 =>
    cond (!((List.getD [r3.1, r3.2.1, r3.2.2.1, r3.2.2.2] j14 false)))
      (some (.inl ((IntKind.i64.wrap (s13.1 + 1), s13.2.1, s13.2.2.1, s13.2.2.2.1, s13.2.2.2.2.1, s13.2.2.2.2.2))))
      (cond (decide (((((List.length a0) : Nat) : Int)) ≤ s13.2.1))
        (some (.inr (((.inl ((s13.2.2.1, s13.2.2.2.1, s13.2.2.2.2.1, s13.2.2.2.2.2)))))))
        ((rd a0 s13.2.1).bind fun x15 =>
        (ix s13.1 4).bind fun j16 =>
        cond (decide (s13.1 < 3))
          ((ix s13.1 4).bind fun j17 =>
          cond (decide (2147483647 < ((List.getD [(cond (Nat.beq j16 0) x15 s13.2.2.1), (cond (Nat.beq j16 1) x15 s13.2.2.2.1), (cond (Nat.beq j16 2) x15 s13.2.2.2.2.1), (cond (Nat.beq j16 3) x15 s13.2.2.2.2.2)] j17 0))))
            ((ix s13.1 4).bind fun j18 =>
            some (.inl ((IntKind.i64.wrap (s13.1 + 1), IntKind.i64.wrap (s13.2.1 + 1), (cond (Nat.beq j18 0) 2147483647 ((cond (Nat.beq j16 0) x15 s13.2.2.1))), (cond (Nat.beq j18 1) 2147483647 ((cond (Nat.beq j16 1) x15 s13.2.2.2.1))), (cond (Nat.beq j18 2) 2147483647 ((cond (Nat.beq j16 2) x15 s13.2.2.2.2.1))), (cond (Nat.beq j18 3) 2147483647 ((cond (Nat.beq j16 3) x15 s13.2.2.2.2.2)))))))
            (some (.inl ((IntKind.i64.wrap (s13.1 + 1), IntKind.i64.wrap (s13.2.1 + 1), (cond (Nat.beq j16 0) x15 s13.2.2.1), (cond (Nat.beq j16 1) x15 s13.2.2.2.1), (cond (Nat.beq j16 2) x15 s13.2.2.2.2.1), (cond (Nat.beq j16 3) x15 s13.2.2.2.2.2))))))
          (some (.inl ((IntKind.i64.wrap (s13.1 + 1), IntKind.i64.wrap (s13.2.1 + 1), (cond (Nat.beq j16 0) x15 s13.2.2.1), (cond (Nat.beq j16 1) x15 s13.2.2.2.1), (cond (Nat.beq j16 2) x15 s13.2.2.2.2.1), (cond (Nat.beq j16 3) x15 s13.2.2.2.2.2))))))))
    (some (.inr (((.inr ((s13.2.1, s13.2.2.1, s13.2.2.2.1, s13.2.2.2.2.1, s13.2.2.2.2.2)))))))
/- backstitch/backstitchref07.Read -/
def D_ref07_Read (a0 : List Int) : Option (Int × Int × Int × Int × Int × Int × Int) :=
  cond (decide (((((List.length a0) : Nat) : Int)) = 0))
    (some ((0, 0, 0, 0, 0, 0, 4)))
    ((rd a0 0).bind fun x1 =>
    cond (decide (7 < x1))
      (some ((0, 0, 0, 0, 0, 0, 6)))
      ((rd a0 0).bind fun x2 =>
      (D_ref07_Asks (IntKind.i64.wrap (x2))).bind fun r3 =>
      (loopN (D_ref07_Read_L0 a0 r3) BIG ((0, 1, 0, 0, 0, 0))).bind fun r19 =>
      caseS r19 (fun u20 =>
        some ((0, 0, 0, 0, 0, 0, 4)))
        (fun w21 =>
        (rd a0 0).bind fun x22 =>
        some ((IntKind.i64.wrap (x22), IntKind.i64.wrap (w21.2.1), IntKind.i64.wrap (w21.2.2.1), IntKind.i64.wrap (w21.2.2.2.1), w21.2.2.2.2, w21.1, 0)))))
def D_ref33_Unpack_L0 (a0 : List Int) (s3 : Int × List (Int × Int × Int × Int × Int)) : Option ((Int × List (Int × Int × Int × Int × Int)) ⊕ ((Unit) ⊕ (List (Int × Int × Int × Int × Int)))) :=
  cond (decide (s3.1 < ((((List.length a0) : Nat) : Int))))
    (gd (cutG s3.1 ((((List.length a0) : Nat) : Int)) ((List.length a0))) ((D_ref07_Read ((cutL a0 s3.1 ((((List.length a0) : Nat) : Int))))).bind fun r4 =>
    cond (decide (r4.2.2.2.2.2.2 ≠ 0))
      (some (.inr (((.inl ())))))
      (gd (fits (List.length s3.2 + 1) 40) (some (.inl ((IntKind.i64.wrap (s3.1 + r4.2.2.2.2.2.1), (s3.2 ++ [(r4.1, (r4.2.1, (r4.2.2.1, (r4.2.2.2.1, r4.2.2.2.2.1))))]))))))))
    (some (.inr (((.inr s3.2)))))
/- backstitch/backstitchref33.Unpack -/
def D_ref33_Unpack (a0 : List Int) : Option (Int × List (Int × Int × Int × Int × Int)) :=
  (loopN (D_ref33_Unpack_L0 a0) BIG ((0, []))).bind fun r5 =>
  caseS r5 (fun u6 =>
    some ((6, [])))
    (fun w7 =>
    some ((0, w7)))
/- backstitch/backstitchref33.number -/
def D_ref33_number (a0 : Int) : Option (Int) :=
  cond (decide (2147483647 < a0))
    (some 2147483647)
    (some (IntKind.i64.wrap (a0)))
/- backstitch/backstitchref33.Decode -/
def D_ref33_Decode (a0 : List Int) : Option (Int × (List Int) × (List Int) × Int × Int × Int × Int × (List Int) × Int × (List (Int × Int × Int × Int × Int)) × List (Int × Int × Int × Int × Int)) :=
  cond (decide (((((List.length a0) : Nat) : Int)) < 5))
    (some ((0, [], [], 0, 0, 0, 0, [], 4, [], [])))
    (gd (cutG 5 ((((List.length a0) : Nat) : Int)) ((List.length a0))) ((D_ref05_Split ((cutL a0 5 ((((List.length a0) : Nat) : Int)))) 4).bind fun r1 =>
    cond (decide (r1.2.1 ≠ 0))
      (some ((0, [], [], 0, 0, 0, 0, [], 4, [], [])))
      ((rd a0 0).bind fun x2 =>
      cond (decide (x2 < 1))
        (some ((0, [], [], 0, 0, 0, 0, [], 5, [], [])))
        ((rd a0 0).bind fun x3 =>
        cond (decide (3 < x3))
          (some ((0, [], [], 0, 0, 0, 0, [], 5, [], [])))
          ((ix 0 ((List.length r1.2.2))).bind fun j4 =>
          (r1.2.2[j4]?).bind fun x5 =>
          (D_ref33_Unpack x5).bind fun r6 =>
          (ix 1 ((List.length r1.2.2))).bind fun j7 =>
          (r1.2.2[j7]?).bind fun x8 =>
          (D_ref33_Unpack x8).bind fun r9 =>
          cond (decide (r6.1 ≠ 0))
            (some ((0, [], [], 0, 0, 0, 0, [], 6, [], [])))
            (cond (decide (r9.1 ≠ 0))
              (some ((0, [], [], 0, 0, 0, 0, [], 6, [], [])))
              ((rd a0 0).bind fun x10 =>
              (ix 2 ((List.length r1.2.2))).bind fun j11 =>
              (r1.2.2[j11]?).bind fun x12 =>
              (ix 3 ((List.length r1.2.2))).bind fun j13 =>
              (r1.2.2[j13]?).bind fun x14 =>
              (rd a0 4).bind fun x15 =>
              (D_ref33_number x15).bind fun r16 =>
              (rd a0 1).bind fun x17 =>
              (D_ref33_number x17).bind fun r18 =>
              (rd a0 2).bind fun x19 =>
              (D_ref33_number x19).bind fun r20 =>
              (((cond (decide ((IntKind.i64.wrap (x10)) ≠ 2))
                ((rd a0 3).bind fun x21 =>
                (D_ref33_number x21).bind fun r22 =>
                some ((IntKind.i64.wrap (x10), x12, x14, r18, r20, r22, r16, r1.2.2, r6.2, r9.2)))
                (some ((IntKind.i64.wrap (x10), x12, x14, r18, r20, 0, r16, r1.2.2, r6.2, r9.2)))) : Option (Int × (List Int) × (List Int) × Int × Int × Int × Int × (List (List Int)) × (List (Int × Int × Int × Int × Int)) × List (Int × Int × Int × Int × Int)))).bind fun s23 =>
              (D_ref33_Check s23.1 s23.2.1 s23.2.2.1 s23.2.2.2.1 s23.2.2.2.2.2.2.2.2.1 s23.2.2.2.2.1 s23.2.2.2.2.2.2.2.2.2 s23.2.2.2.2.2.1 s23.2.2.2.2.2.2.1).bind fun r24 =>
              cond (decide (r24 ≠ 0))
                (some ((0, [], [], 0, 0, 0, 0, [], r24, [], [])))
                (some ((s23.1, s23.2.1, s23.2.2.1, s23.2.2.2.1, s23.2.2.2.2.1, s23.2.2.2.2.2.1, s23.2.2.2.2.2.2.1, r1.1, 0, s23.2.2.2.2.2.2.2.2.1, s23.2.2.2.2.2.2.2.2.2))))))))))
/- backstitch/backstitchlaw33.HeaderDecodes -/
def D_law33_HeaderDecodes (a0 : List Int) : Option (Bool) :=
  cond (decide (2000 < ((((List.length a0) : Nat) : Int))))
    ((D_law33_goes).bind fun r1 =>
    some r1)
    ((D_header_Decode a0).bind fun r2 =>
    (D_ref33_Decode a0).bind fun r3 =>
    (D_ref33_Same r2.1 r2.2.2.2.2.2.2.2.2.1 r2.2.2.2.2.2.2.2.2.2.1 r2.2.1 r2.2.2.1 r2.2.2.2.1 r2.2.2.2.2.1 r2.2.2.2.2.2.1 r2.2.2.2.2.2.2.1 r3.1 r3.2.1 r3.2.2.1 r3.2.2.2.1 r3.2.2.2.2.2.2.2.2.2.1 r3.2.2.2.2.1 r3.2.2.2.2.2.2.2.2.2.2 r3.2.2.2.2.2.1 r3.2.2.2.2.2.2.1).bind fun r4 =>
    cond (r4)
      ((D_ref05_Same r2.2.2.2.2.2.2.2.2.2.2 r3.2.2.2.2.2.2.2.1).bind fun r5 =>
      cond (r5)
        (cond (decide (r2.2.2.2.2.2.2.2.1 = r3.2.2.2.2.2.2.2.2.1))
          ((D_law33_goes).bind fun r6 =>
          some r6)
          (some false))
        (some false))
      (some false))
/- backstitch/backstitchlaw33.HeaderPacks -/
def D_law33_HeaderPacks (a0 : List (Int × Int × Int × Int × Int)) (a1 : List Int) : Option (Bool) :=
  (((cond (decide (200 < ((((List.length a0) : Nat) : Int))))
    (some true)
    (some (decide (1000 < ((((List.length a1) : Nat) : Int)))))) : Option (Bool))).bind fun s2 =>
  cond (s2)
    ((D_law33_goes).bind fun r3 =>
    some r3)
    ((D_header_Pack a0).bind fun r4 =>
    (D_ref33_Pack a0).bind fun r5 =>
    (D_header_Unpack a1).bind fun r6 =>
    (D_ref33_Unpack a1).bind fun r7 =>
    (D_ref05_Same r4.2 r5.2).bind fun r8 =>
    cond (r8)
      (cond (decide (r4.1 = r5.1))
        ((D_ref08_Ops r6.2 r7.2).bind fun r9 =>
        cond (r9)
          (cond (decide (r6.1 = r7.1))
            ((D_law33_goes).bind fun r10 =>
            some r10)
            (some false))
          (some false))
        (some false))
      (some false))
/- backstitch/backstitchlaw33.HeaderBack -/
def D_law33_HeaderBack (a0 : Int) (a1 : List Int) (a2 : List Int) (a3 : Int) (a4 : List (Int × Int × Int × Int × Int)) (a5 : Int) (a6 : List (Int × Int × Int × Int × Int)) (a7 : Int) (a8 : Int) (a9 : List Int) (a10 : Int) : Option (Bool) :=
  ((((D_law33_Small a0 a1 a2 a3 a4 a5 a6 a7 a8 100).bind fun r11 =>
  cond (!r11)
    (some true)
    (some (decide (100 < ((((List.length a9) : Nat) : Int)))))) : Option (Bool))).bind fun s12 =>
  cond (s12)
    ((D_law33_goes).bind fun r13 =>
    some r13)
    ((D_header_Encode a0 a1 a2 a3 a4 a5 a6 a7 a8).bind fun r14 =>
    cond (decide (r14.1 ≠ 0))
      (cond (decide (((((List.length r14.2) : Nat) : Int)) = 0))
        ((D_header_Check a0 a1 a2 a3 a4 a5 a6 a7 a8).bind fun r15 =>
        cond (decide (r14.1 = r15))
          ((D_law33_goes).bind fun r16 =>
          some r16)
          (some false))
        (some false))
      (cond (decide (((((List.length r14.2) : Nat) : Int)) < 9))
        (some false)
        (gd (fits (0 + List.length r14.2) 8) (gd (fits (List.length ((([] : List Int) ++ r14.2)) + List.length a9) 8) ((D_header_Decode (((([] : List Int) ++ r14.2) ++ a9))).bind fun r17 =>
        gd (decide (((((List.length r14.2) : Nat) : Int)) ≠ 0)) (gd (decide (((((List.length r14.2) : Nat) : Int)) ≠ 0)) (gd (cutG 0 (Int.tmod (IntKind.i64.wrap ((Int.tmod a10 ((((List.length r14.2) : Nat) : Int))) + ((((List.length r14.2) : Nat) : Int)))) ((((List.length r14.2) : Nat) : Int))) ((List.length r14.2))) ((D_header_Decode ((List.take (((Int.toNat (Int.tmod (IntKind.i64.wrap ((Int.tmod a10 ((((List.length r14.2) : Nat) : Int))) + ((((List.length r14.2) : Nat) : Int)))) ((((List.length r14.2) : Nat) : Int)))) - 0)) (List.drop 0 r14.2)))).bind fun r18 =>
        cond (decide (r17.2.2.2.2.2.2.2.1 = 0))
          ((D_ref33_Same r17.1 r17.2.2.2.2.2.2.2.2.1 r17.2.2.2.2.2.2.2.2.2.1 r17.2.1 r17.2.2.1 r17.2.2.2.1 r17.2.2.2.2.1 r17.2.2.2.2.2.1 r17.2.2.2.2.2.2.1 a0 a1 a2 a3 a4 a5 a6 a7 a8).bind fun r19 =>
          cond (r19)
            ((D_ref05_Same r17.2.2.2.2.2.2.2.2.2.2 a9).bind fun r20 =>
            cond (r20)
              (cond (decide (r18.2.2.2.2.2.2.2.1 = 4))
                (cond (decide (((((List.length r18.2.2.2.2.2.2.2.2.2.2) : Nat) : Int)) = 0))
                  ((D_ref33_Same r18.1 r18.2.2.2.2.2.2.2.2.1 r18.2.2.2.2.2.2.2.2.2.1 r18.2.1 r18.2.2.1 r18.2.2.2.1 r18.2.2.2.2.1 r18.2.2.2.2.2.1 r18.2.2.2.2.2.2.1 0 [] [] 0 [] 0 [] 0 0).bind fun r21 =>
                  cond (r21)
                    ((D_law33_goes).bind fun r22 =>
                    some r22)
                    (some false))
                  (some false))
                (some false))
              (some false))
            (some false))
          (some false)))))))))
def D_law33_spoilt_L0  (s12 : Int × List (Int × Int × Int × Int × Int)) : Option ((Int × List (Int × Int × Int × Int × Int)) ⊕ (List (Int × Int × Int × Int × Int))) :=
  cond (decide (s12.1 < 9))
    (gd (fits (List.length s12.2 + 1) 40) (some (.inl ((IntKind.i64.wrap (s12.1 + 1), (s12.2 ++ [(7, (0, (0, (0, 1))))]))))))
    (some (.inr s12.2))
/- backstitch/backstitchlaw33.spoilt -/
def D_law33_spoilt (a0 : Int) (a1 : List Int) (a2 : List Int) (a3 : Int) (a4 : List (Int × Int × Int × Int × Int)) (a5 : Int) (a6 : List (Int × Int × Int × Int × Int)) (a7 : Int) (a8 : Int) (a9 : Int) : Option (Int × (List Int) × (List Int) × Int × (List (Int × Int × Int × Int × Int)) × Int × (List (Int × Int × Int × Int × Int)) × Int × Int) :=
  cond (decide (a9 = 0))
    (some ((4, a1, a2, a3, a4, a5, a6, a7, a8)))
    (cond (decide (a9 = 1))
      (gd (fits (0 + List.length a6) 40) (gd (fits (List.length ((([] : List (Int × Int × Int × Int × Int)) ++ a6)) + 1) 40) (some ((a0, a1, a2, a3, a4, a5, ((([] : List (Int × Int × Int × Int × Int)) ++ a6) ++ [(0, (0, (0, (0, 0))))]), a7, a8)))))
      (cond (decide (a9 = 2))
        (some ((a0, a1, a2, 65, a4, a5, a6, a7, a8)))
        (cond (decide (a9 = 3))
          ((loopN (D_law33_spoilt_L0) BIG ((0, []))).bind fun r13 =>
          gd (fits (List.length r13 + List.length ((List.replicate 9 ((0, (0, (0, (0, 0)))) : Int × Int × Int × Int × Int)))) 40) (gd (fits (List.length ((r13 ++ (List.replicate 9 ((0, (0, (0, (0, 0)))) : Int × Int × Int × Int × Int)))) + List.length a4) 40) (some ((a0, a1, a2, a3, ((r13 ++ (List.replicate 9 ((0, (0, (0, (0, 0)))) : Int × Int × Int × Int × Int))) ++ a4), a5, a6, a7, a8)))))
          (cond (decide (a9 = 4))
            (some ((a0, [], a2, a3, a4, a5, a6, a7, a8)))
            (cond (decide (a9 = 5))
              (some ((a0, a1, a2, a3, a4, a5, a6, 65536, a8)))
              (some ((a0, a1, a2, a3, a4, a5, a6, a7, 1048577))))))))
/- backstitch/backstitchlaw33.HeaderOrder -/
def D_law33_HeaderOrder (a0 : Int) (a1 : List Int) (a2 : List Int) (a3 : Int) (a4 : List (Int × Int × Int × Int × Int)) (a5 : Int) (a6 : List (Int × Int × Int × Int × Int)) (a7 : Int) (a8 : Int) (a9 : Int) (a10 : Int) : Option (Bool) :=
  ((((D_law33_Small a0 a1 a2 a3 a4 a5 a6 a7 a8 100).bind fun r11 =>
  cond (!r11)
    (some true)
    ((D_header_Check a0 a1 a2 a3 a4 a5 a6 a7 a8).bind fun r12 =>
    cond (decide (r12 ≠ 0))
      (some true)
      (some (decide (a0 = 2))))) : Option (Bool))).bind fun s13 =>
  cond (s13)
    ((D_law33_goes).bind fun r14 =>
    some r14)
    ((D_law33_spoilt a0 a1 a2 a3 a4 a5 a6 a7 a8 (IntKind.i64.wrap (Int.tmod a9 7))).bind fun r15 =>
    (D_law33_spoilt r15.1 r15.2.1 r15.2.2.1 r15.2.2.2.1 r15.2.2.2.2.1 r15.2.2.2.2.2.1 r15.2.2.2.2.2.2.1 r15.2.2.2.2.2.2.2.1 r15.2.2.2.2.2.2.2.2 (IntKind.i64.wrap (Int.tmod a10 7))).bind fun r16 =>
    (D_header_Encode r16.1 r16.2.1 r16.2.2.1 r16.2.2.2.1 r16.2.2.2.2.1 r16.2.2.2.2.2.1 r16.2.2.2.2.2.2.1 r16.2.2.2.2.2.2.2.1 r16.2.2.2.2.2.2.2.2).bind fun r17 =>
    cond (decide (r17.1 = 0))
      (some false)
      (cond (decide (((((List.length r17.2) : Nat) : Int)) ≠ 0))
        (some false)
        ((ix (min (IntKind.i64.wrap (Int.tmod a9 7)) (IntKind.i64.wrap (Int.tmod a10 7))) 7).bind fun j18 =>
        cond (decide (r17.1 = ((List.getD [5, 6, 7, 8, 10, 11, 12] j18 0))))
          ((D_law33_goes).bind fun r19 =>
          some r19)
          (some false))))
end Go.V
