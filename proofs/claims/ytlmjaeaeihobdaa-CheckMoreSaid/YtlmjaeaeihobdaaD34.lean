/- A part of the proofs of this seat: what functions of the program answer on the abstract machine. -/
import Derived.Test.YtlmjaeaeihobdaaV22
namespace Go.V
set_option linter.unusedVariables false
set_option linter.unusedSimpArgs false
open Go.Ab
set_option linter.unusedVariables false
/- backstitch/backstitchlaw10.goes$1 -/
def D_law10_goes_1 (a0 : Int) : Option (Int) :=
  some a0
def D_nest_Match_L0 (a0 : List (Int × Int × Int × Int × Int)) (s7 : Int × Bool × (List Int) × (List Int) × List Int) : Option ((Int × Bool × (List Int) × (List Int) × List Int) ⊕ (Bool × (List Int) × (List Int) × List Int)) :=
  cond (decide (s7.1 < ((((List.length a0) : Nat) : Int))))
    ((rd a0 s7.1).bind fun x8 =>
    ((((((cond (decide (x8.1 < 0))
      (some ((.inl true)))
      (cond (decide (7 < x8.1))
        (some ((.inr ((true, x8.1, decide (7 < x8.1))))))
        (cond (decide (x8.1 = 0))
          (some ((.inr ((decide (((((List.length s7.2.2.2.1) : Nat) : Int)) = 0), x8.1, decide (7 < x8.1))))))
          (some ((.inr ((false, x8.1, decide (7 < x8.1))))))))) : Option ((Bool) ⊕ (Bool × Int × Bool)))).bind fun s9 =>
    caseS s9 (fun u10 =>
      cond (u10)
        (some ((.inl ((false, s7.2.2.2.1)))))
        (cond (decide (x8.1 = 0))
          (gd (cutG 0 (IntKind.i64.wrap (((((List.length s7.2.2.2.1) : Nat) : Int)) - 1)) ((List.length s7.2.2.2.1))) (some ((.inr ((.inl ((s7.2.1, (List.take (((Int.toNat (IntKind.i64.wrap (((((List.length s7.2.2.2.1) : Nat) : Int)) - 1))) - 0)) s7.2.2.2.1)))))))))
          (some ((.inr ((.inl ((s7.2.1, s7.2.2.2.1)))))))))
      (fun w11 =>
      cond (w11.1)
        (some ((.inl ((false, s7.2.2.2.1)))))
        (cond (decide (x8.1 = 0))
          (gd (cutG 0 (IntKind.i64.wrap (((((List.length s7.2.2.2.1) : Nat) : Int)) - 1)) ((List.length s7.2.2.2.1))) (some ((.inr ((.inr ((w11.2.1, w11.2.2, s7.2.1, (List.take (((Int.toNat (IntKind.i64.wrap (((((List.length s7.2.2.2.1) : Nat) : Int)) - 1))) - 0)) s7.2.2.2.1)))))))))
          (some ((.inr ((.inr ((w11.2.1, w11.2.2, s7.2.1, s7.2.2.2.1)))))))))) : Option ((Bool × List Int) ⊕ ((Bool × List Int) ⊕ (Int × Bool × Bool × List Int))))).bind fun s12 =>
    caseS s12 (fun u13 =>
      some (.inr (((u13.1, s7.2.2.1, u13.2, s7.2.2.2.2)))))
      (fun w14 =>
      caseS w14 (fun u15 =>
        (ix s7.1 ((List.length s7.2.2.1))).bind fun j16 =>
        (s7.2.2.1[j16]?).bind fun x17 =>
        (rd a0 s7.1).bind fun x18 =>
        cond (decide (x18.1 = 7))
          (gd (fits (List.length s7.2.2.2.2 + 1) 8) (cond (decide (x8.1 = 7))
            (gd (fits (List.length u15.2 + 1) 8) (some (.inl ((IntKind.i64.wrap (s7.1 + 1), u15.1, (List.set s7.2.2.1 j16 (-1)), (u15.2 ++ [s7.1]), (s7.2.2.2.2 ++ [s7.1]))))))
            (some (.inl ((IntKind.i64.wrap (s7.1 + 1), u15.1, (List.set s7.2.2.1 j16 (-1)), u15.2, (s7.2.2.2.2 ++ [s7.1])))))))
          (cond (decide (x18.1 = 0))
            ((ix (IntKind.i64.wrap (((((List.length s7.2.2.2.2) : Nat) : Int)) - 1)) ((List.length s7.2.2.2.2))).bind fun j19 =>
            (s7.2.2.2.2[j19]?).bind fun x20 =>
            gd (cutG 0 (IntKind.i64.wrap (((((List.length s7.2.2.2.2) : Nat) : Int)) - 1)) ((List.length s7.2.2.2.2))) ((ix s7.1 ((List.length ((List.set s7.2.2.1 j16 (-1)))))).bind fun j21 =>
            (((List.set s7.2.2.1 j16 (-1)))[j21]?).bind fun x22 =>
            (ix x20 ((List.length ((List.set ((List.set s7.2.2.1 j16 (-1))) j21 x20))))).bind fun j23 =>
            (((List.set ((List.set s7.2.2.1 j16 (-1))) j21 x20))[j23]?).bind fun x24 =>
            cond (decide (x8.1 = 7))
              (gd (fits (List.length u15.2 + 1) 8) (some (.inl ((IntKind.i64.wrap (s7.1 + 1), u15.1, (List.set ((List.set ((List.set s7.2.2.1 j16 (-1))) j21 x20)) j23 s7.1), (u15.2 ++ [s7.1]), (List.take (((Int.toNat (IntKind.i64.wrap (((((List.length s7.2.2.2.2) : Nat) : Int)) - 1))) - 0)) s7.2.2.2.2))))))
              (some (.inl ((IntKind.i64.wrap (s7.1 + 1), u15.1, (List.set ((List.set ((List.set s7.2.2.1 j16 (-1))) j21 x20)) j23 s7.1), u15.2, (List.take (((Int.toNat (IntKind.i64.wrap (((((List.length s7.2.2.2.2) : Nat) : Int)) - 1))) - 0)) s7.2.2.2.2)))))))
            (cond (decide (x8.1 = 7))
              (gd (fits (List.length u15.2 + 1) 8) (some (.inl ((IntKind.i64.wrap (s7.1 + 1), u15.1, (List.set s7.2.2.1 j16 (-1)), (u15.2 ++ [s7.1]), s7.2.2.2.2)))))
              (some (.inl ((IntKind.i64.wrap (s7.1 + 1), u15.1, (List.set s7.2.2.1 j16 (-1)), u15.2, s7.2.2.2.2)))))))
        (fun w25 =>
        (ix s7.1 ((List.length s7.2.2.1))).bind fun j26 =>
        (s7.2.2.1[j26]?).bind fun x27 =>
        (rd a0 s7.1).bind fun x28 =>
        cond (decide (x28.1 = 7))
          (gd (fits (List.length s7.2.2.2.2 + 1) 8) (cond (decide (x8.1 = 7))
            (gd (fits (List.length w25.2.2.2 + 1) 8) (some (.inl ((IntKind.i64.wrap (s7.1 + 1), w25.2.2.1, (List.set s7.2.2.1 j26 (-1)), (w25.2.2.2 ++ [s7.1]), (s7.2.2.2.2 ++ [s7.1]))))))
            (some (.inl ((IntKind.i64.wrap (s7.1 + 1), w25.2.2.1, (List.set s7.2.2.1 j26 (-1)), w25.2.2.2, (s7.2.2.2.2 ++ [s7.1])))))))
          (cond (decide (x28.1 = 0))
            ((ix (IntKind.i64.wrap (((((List.length s7.2.2.2.2) : Nat) : Int)) - 1)) ((List.length s7.2.2.2.2))).bind fun j29 =>
            (s7.2.2.2.2[j29]?).bind fun x30 =>
            gd (cutG 0 (IntKind.i64.wrap (((((List.length s7.2.2.2.2) : Nat) : Int)) - 1)) ((List.length s7.2.2.2.2))) ((ix s7.1 ((List.length ((List.set s7.2.2.1 j26 (-1)))))).bind fun j31 =>
            (((List.set s7.2.2.1 j26 (-1)))[j31]?).bind fun x32 =>
            (ix x30 ((List.length ((List.set ((List.set s7.2.2.1 j26 (-1))) j31 x30))))).bind fun j33 =>
            (((List.set ((List.set s7.2.2.1 j26 (-1))) j31 x30))[j33]?).bind fun x34 =>
            cond (decide (x8.1 = 7))
              (gd (fits (List.length w25.2.2.2 + 1) 8) (some (.inl ((IntKind.i64.wrap (s7.1 + 1), w25.2.2.1, (List.set ((List.set ((List.set s7.2.2.1 j26 (-1))) j31 x30)) j33 s7.1), (w25.2.2.2 ++ [s7.1]), (List.take (((Int.toNat (IntKind.i64.wrap (((((List.length s7.2.2.2.2) : Nat) : Int)) - 1))) - 0)) s7.2.2.2.2))))))
              (some (.inl ((IntKind.i64.wrap (s7.1 + 1), w25.2.2.1, (List.set ((List.set ((List.set s7.2.2.1 j26 (-1))) j31 x30)) j33 s7.1), w25.2.2.2, (List.take (((Int.toNat (IntKind.i64.wrap (((((List.length s7.2.2.2.2) : Nat) : Int)) - 1))) - 0)) s7.2.2.2.2)))))))
            (cond (decide (x8.1 = 7))
              (gd (fits (List.length w25.2.2.2 + 1) 8) (some (.inl ((IntKind.i64.wrap (s7.1 + 1), w25.2.2.1, (List.set s7.2.2.1 j26 (-1)), (w25.2.2.2 ++ [s7.1]), s7.2.2.2.2)))))
              (some (.inl ((IntKind.i64.wrap (s7.1 + 1), w25.2.2.1, (List.set s7.2.2.1 j26 (-1)), w25.2.2.2, s7.2.2.2.2)))))))))
    (some (.inr (((s7.2.1, s7.2.2.1, s7.2.2.2.1, s7.2.2.2.2)))))
/- backstitch/nest.Match -/
def D_nest_Match (a0 : List (Int × Int × Int × Int × Int)) : Option (Int × List Int) :=
  gd (Nat.beq 1 (Sh.w (.int .i64)) && decide (0 ≤ ((((List.length a0) : Nat) : Int))) && decide (((((List.length a0) : Nat) : Int)) ≤ ((((List.length a0) : Nat) : Int))) && decide ((8 : Int) * ((((List.length a0) : Nat) : Int)) ≤ 140737488355328) && Nat.ble 1 8) ((loopN (D_nest_Match_L0 a0) BIG ((0, true, (List.replicate (Int.toNat ((((List.length a0) : Nat) : Int))) (0 : Int)), [], []))).bind fun r35 =>
  cond (r35.1)
    (cond (!(decide (((((List.length r35.2.2.1) : Nat) : Int)) = 0)))
      (some ((6, [])))
      (some ((0, r35.2.1))))
    (some ((6, []))))
/- backstitch/check.fail -/
def D_check_fail (a0 : Bool) (a1 : Int) : Option (Int) :=
  cond (a0)
    (some a1)
    (some 0)
/- backstitch/opcode.of -/
def D_opcode_of (a0 : Int) : Option (Bool × Bool × Bool × Bool) :=
  (((cond (decide (a0 = 1))
    (some true)
    (cond (decide (a0 = 2))
      (some true)
      (some (decide (a0 = 3))))) : Option (Bool))).bind fun s1 =>
  cond (s1)
    (some ((true, true, true, false)))
    ((((cond (decide (a0 = 4))
      (some true)
      (some (decide (a0 = 6)))) : Option (Bool))).bind fun s2 =>
    cond (s2)
      (some ((true, true, false, false)))
      (cond (decide (a0 = 5))
        (some ((true, false, false, true)))
        (cond (decide (a0 = 7))
          (some ((false, false, false, true)))
          (some ((false, false, false, false))))))
/- backstitch/opcode.known -/
def D_opcode_known (a0 : Int) : Option (Bool) :=
  cond (decide (0 ≤ a0))
    (some (decide (a0 < 8)))
    (some false)
/- backstitch/opcode.register -/
def D_opcode_register (a0 : Int) (a1 : Bool) : Option (Bool) :=
  cond (!a1)
    (some (decide (a0 = 0)))
    (cond (decide (0 ≤ a0))
      (some (decide (a0 ≤ 2147483647)))
      (some false))
/- backstitch/opcode.Right -/
def D_opcode_Right (a0 : Int) (a1 : Int) (a2 : Int) (a3 : Int) (a4 : Int) : Option (Bool) :=
  (D_opcode_of a0).bind fun r5 =>
  (D_opcode_known a0).bind fun r6 =>
  cond (r6)
    ((D_opcode_register a1 r5.1).bind fun r7 =>
    cond (r7)
      ((D_opcode_register a2 r5.2.1).bind fun r8 =>
      cond (r8)
        ((D_opcode_register a3 r5.2.2.1).bind fun r9 =>
        cond (r9)
          (cond (r5.2.2.2)
            (some true)
            (some (decide (a4 = 0))))
          (some false))
        (some false))
      (some false))
    (some false)
/- (backstitch/check.program).form$1 -/
def D_check_program_form_1 (a0 : Int) (a1 : Int) (a2 : Int) (a3 : Int) (a4 : Int) : Option (Bool) :=
  (D_opcode_Right a0 a1 a2 a3 a4).bind fun r5 =>
  some !r5
def D_slices_IndexFunc_api_Op_api_Op_L0 (a0 : List (Int × Int × Int × Int × Int)) (s2 : Int) : Option ((Int) ⊕ ((Int) ⊕ (Unit))) :=
  cond (decide (s2 < ((((List.length a0) : Nat) : Int))))
    ((rd a0 s2).bind fun x3 =>
    (D_check_program_form_1 x3.1 x3.2.1 x3.2.2.1 x3.2.2.2.1 x3.2.2.2.2).bind fun r4 =>
    cond (r4)
      (some (.inr (((.inl s2)))))
      (some (.inl (IntKind.i64.wrap (s2 + 1)))))
    (some (.inr (((.inr ())))))
/- slices.IndexFunc[[]backstitch/api.Op,backstitch/api.Op] -/
def D_slices_IndexFunc_api_Op_api_Op (a0 : List (Int × Int × Int × Int × Int)) : Option (Int) :=
  (loopN (D_slices_IndexFunc_api_Op_api_Op_L0 a0) BIG 0).bind fun r5 =>
  caseS r5 (fun u6 =>
    some u6)
    (fun w7 =>
    some (-1))
/- slices.ContainsFunc[[]backstitch/api.Op,backstitch/api.Op] -/
def D_slices_ContainsFunc_api_Op_api_Op (a0 : List (Int × Int × Int × Int × Int)) : Option (Bool) :=
  (D_slices_IndexFunc_api_Op_api_Op a0).bind fun r1 =>
  some (decide (0 ≤ r1))
/- (backstitch/check.program).form -/
def D_check_program_form (a0 : Int) (a1 : List (Int × Int × Int × Int × Int)) : Option (Int) :=
  (D_nest_Match a1).bind fun r2 =>
  cond (decide (4096 < ((((List.length a1) : Nat) : Int))))
    ((D_check_fail true 6).bind fun r3 =>
    some r3)
    (cond (decide (r2.1 ≠ 0))
      ((D_check_fail true 6).bind fun r4 =>
      some r4)
      ((D_slices_ContainsFunc_api_Op_api_Op a1).bind fun r5 =>
      (D_check_fail r5 6).bind fun r6 =>
      some r6))
def D_slices_Reverse_int_int_L0  (s5 : Int × Int × List Int) : Option ((Int × Int × List Int) ⊕ (List Int)) :=
  cond (decide (s5.1 < s5.2.1))
    ((ix s5.2.1 ((List.length s5.2.2))).bind fun j6 =>
    (s5.2.2[j6]?).bind fun x7 =>
    (ix s5.1 ((List.length s5.2.2))).bind fun j8 =>
    (s5.2.2[j8]?).bind fun x9 =>
    (ix s5.1 ((List.length s5.2.2))).bind fun j10 =>
    (s5.2.2[j10]?).bind fun x11 =>
    (ix s5.2.1 ((List.length ((List.set s5.2.2 j10 x7))))).bind fun j12 =>
    (((List.set s5.2.2 j10 x7))[j12]?).bind fun x13 =>
    some (.inl ((IntKind.i64.wrap (s5.1 + 1), IntKind.i64.wrap (s5.2.1 - 1), (List.set ((List.set s5.2.2 j10 x7)) j12 x9)))))
    (some (.inr s5.2.2))
/- slices.Reverse[[]int,int] -/
def D_slices_Reverse_int_int (a0 : List Int) : Option (List Int) :=
  (loopN (D_slices_Reverse_int_int_L0) BIG ((0, IntKind.i64.wrap (((((List.length a0) : Nat) : Int)) - 1), a0))).bind fun r14 =>
  some r14
/- backstitch/opcode.Reads -/
def D_opcode_Reads (a0 : Int) (a1 : Int) (a2 : Int) (a3 : Int) (a4 : Int) : Option (List Int) :=
  (((((((((cond (decide (a0 = 1))
    (some ((.inl ())))
    (cond (decide (a0 = 2))
      (some ((.inl ())))
      (cond (decide (a0 = 3))
        (some ((.inl ())))
        (cond (decide (a0 = 4))
          (some ((.inr ((.inl ())))))
          (cond (decide (a0 = 6))
            (some ((.inr ((.inl ())))))
            (some ((.inr ((.inr ())))))))))) : Option ((Unit) ⊕ ((Unit) ⊕ (Unit))))).bind fun s5 =>
  caseS s5 (fun u6 =>
    some ((.inl [a3])))
    (fun w7 =>
    caseS w7 (fun u8 =>
      some ((.inl [])))
      (fun w9 =>
      some ((.inr ()))))) : Option ((List Int) ⊕ (Unit)))).bind fun s10 =>
  caseS s10 (fun u11 =>
    gd (fits (List.length u11 + 1) 8) (some ((u11 ++ [a2]))))
    (fun w12 =>
    some [])) : Option (List Int))).bind fun s13 =>
  (D_slices_Reverse_int_int s13).bind fun r14 =>
  some r14
/- backstitch/opcode.Writes -/
def D_opcode_Writes (a0 : Int) (a1 : Int) (a2 : Int) (a3 : Int) (a4 : Int) : Option (Int × Bool) :=
  (D_opcode_of a0).bind fun r5 =>
  cond (!r5.1)
    (some ((0, false)))
    (some ((a1, true)))
/- (backstitch/check.program).registers$1$1 -/
def D_check_program_registers_1_1 (a0 : Int) (a1 : Int) (a2 : List (Int × Int × Int × Int × Int)) : Option (Bool) :=
  some (decide (a1 ≤ a0))
def D_slices_IndexFunc_int_int_L0 (a0 : List Int) (a1 : Int) (a2 : List (Int × Int × Int × Int × Int)) (s4 : Int) : Option ((Int) ⊕ ((Int) ⊕ (Unit))) :=
  cond (decide (s4 < ((((List.length a0) : Nat) : Int))))
    ((rd a0 s4).bind fun x5 =>
    (D_check_program_registers_1_1 x5 a1 a2).bind fun r6 =>
    cond (r6)
      (some (.inr (((.inl s4)))))
      (some (.inl (IntKind.i64.wrap (s4 + 1)))))
    (some (.inr (((.inr ())))))
/- slices.IndexFunc[[]int,int] -/
def D_slices_IndexFunc_int_int (a0 : List Int) (a1 : Int) (a2 : List (Int × Int × Int × Int × Int)) : Option (Int) :=
  (loopN (D_slices_IndexFunc_int_int_L0 a0 a1 a2) BIG 0).bind fun r7 =>
  caseS r7 (fun u8 =>
    some u8)
    (fun w9 =>
    some (-1))
/- slices.ContainsFunc[[]int,int] -/
def D_slices_ContainsFunc_int_int (a0 : List Int) (a1 : Int) (a2 : List (Int × Int × Int × Int × Int)) : Option (Bool) :=
  (D_slices_IndexFunc_int_int a0 a1 a2).bind fun r3 =>
  some (decide (0 ≤ r3))
/- (backstitch/check.program).registers$1 -/
def D_check_program_registers_1 (a0 : Int) (a1 : Int) (a2 : Int) (a3 : Int) (a4 : Int) (a5 : Int) (a6 : List (Int × Int × Int × Int × Int)) : Option (Bool) :=
  (D_opcode_Reads a0 a1 a2 a3 a4).bind fun r7 =>
  ((((D_opcode_Writes a0 a1 a2 a3 a4).bind fun r8 =>
  cond (r8.2)
    (gd (fits (List.length r7 + 1) 8) (some ((r7 ++ [r8.1]))))
    (some r7)) : Option (List Int))).bind fun s9 =>
  (D_slices_ContainsFunc_int_int s9 a5 a6).bind fun r10 =>
  some r10
def D_slices_IndexFunc_api_Op_api_Op_2_L0 (a0 : List (Int × Int × Int × Int × Int)) (a1 : Int) (a2 : List (Int × Int × Int × Int × Int)) (s4 : Int) : Option ((Int) ⊕ ((Int) ⊕ (Unit))) :=
  cond (decide (s4 < ((((List.length a0) : Nat) : Int))))
    ((rd a0 s4).bind fun x5 =>
    (D_check_program_registers_1 x5.1 x5.2.1 x5.2.2.1 x5.2.2.2.1 x5.2.2.2.2 a1 a2).bind fun r6 =>
    cond (r6)
      (some (.inr (((.inl s4)))))
      (some (.inl (IntKind.i64.wrap (s4 + 1)))))
    (some (.inr (((.inr ())))))
/- slices.IndexFunc[[]backstitch/api.Op,backstitch/api.Op] -/
def D_slices_IndexFunc_api_Op_api_Op_2 (a0 : List (Int × Int × Int × Int × Int)) (a1 : Int) (a2 : List (Int × Int × Int × Int × Int)) : Option (Int) :=
  (loopN (D_slices_IndexFunc_api_Op_api_Op_2_L0 a0 a1 a2) BIG 0).bind fun r7 =>
  caseS r7 (fun u8 =>
    some u8)
    (fun w9 =>
    some (-1))
/- slices.ContainsFunc[[]backstitch/api.Op,backstitch/api.Op] -/
def D_slices_ContainsFunc_api_Op_api_Op_2 (a0 : List (Int × Int × Int × Int × Int)) (a1 : Int) (a2 : List (Int × Int × Int × Int × Int)) : Option (Bool) :=
  (D_slices_IndexFunc_api_Op_api_Op_2 a0 a1 a2).bind fun r3 =>
  some (decide (0 ≤ r3))
/- (backstitch/check.program).registers -/
def D_check_program_registers (a0 : Int) (a1 : List (Int × Int × Int × Int × Int)) : Option (Int) :=
  cond (decide (a0 < 1))
    ((D_check_fail true 7).bind fun r2 =>
    some r2)
    (cond (decide (64 < a0))
      ((D_check_fail true 7).bind fun r3 =>
      some r3)
      ((D_slices_ContainsFunc_api_Op_api_Op_2 a1 a0 a1).bind fun r4 =>
      (D_check_fail r4 7).bind fun r5 =>
      some r5))
def D_nest_Deep_L0 (a0 : List (Int × Int × Int × Int × Int)) (s6 : Int × Bool × Int × List Int) : Option ((Int × Bool × Int × List Int) ⊕ (Bool × Int × List Int)) :=
  cond (decide (s6.1 < ((((List.length a0) : Nat) : Int))))
    ((rd a0 s6.1).bind fun x7 =>
    ((((((cond (decide (x7.1 < 0))
      (some ((.inl true)))
      (cond (decide (7 < x7.1))
        (some ((.inr ((true, x7.1, decide (7 < x7.1))))))
        (cond (decide (x7.1 = 0))
          (some ((.inr ((decide (((((List.length s6.2.2.2) : Nat) : Int)) = 0), x7.1, decide (7 < x7.1))))))
          (some ((.inr ((false, x7.1, decide (7 < x7.1))))))))) : Option ((Bool) ⊕ (Bool × Int × Bool)))).bind fun s8 =>
    caseS s8 (fun u9 =>
      cond (u9)
        (some ((.inl ((false, s6.2.2.2)))))
        (cond (decide (x7.1 = 0))
          (gd (cutG 0 (IntKind.i64.wrap (((((List.length s6.2.2.2) : Nat) : Int)) - 1)) ((List.length s6.2.2.2))) (some ((.inr ((.inl ((s6.2.1, (List.take (((Int.toNat (IntKind.i64.wrap (((((List.length s6.2.2.2) : Nat) : Int)) - 1))) - 0)) s6.2.2.2)))))))))
          (some ((.inr ((.inl ((s6.2.1, s6.2.2.2)))))))))
      (fun w10 =>
      cond (w10.1)
        (some ((.inl ((false, s6.2.2.2)))))
        (cond (decide (x7.1 = 0))
          (gd (cutG 0 (IntKind.i64.wrap (((((List.length s6.2.2.2) : Nat) : Int)) - 1)) ((List.length s6.2.2.2))) (some ((.inr ((.inr ((w10.2.1, w10.2.2, s6.2.1, (List.take (((Int.toNat (IntKind.i64.wrap (((((List.length s6.2.2.2) : Nat) : Int)) - 1))) - 0)) s6.2.2.2)))))))))
          (some ((.inr ((.inr ((w10.2.1, w10.2.2, s6.2.1, s6.2.2.2)))))))))) : Option ((Bool × List Int) ⊕ ((Bool × List Int) ⊕ (Int × Bool × Bool × List Int))))).bind fun s11 =>
    caseS s11 (fun u12 =>
      some (.inr (((u12.1, s6.2.2.1, u12.2)))))
      (fun w13 =>
      caseS w13 (fun u14 =>
        (rd a0 s6.1).bind fun x15 =>
        cond (decide (x15.1 = 7))
          (cond (decide (x7.1 = 7))
            (gd (fits (List.length u14.2 + 1) 8) (some (.inl ((IntKind.i64.wrap (s6.1 + 1), u14.1, max s6.2.2.1 (IntKind.i64.wrap (((((List.length u14.2) : Nat) : Int)) + 1)), (u14.2 ++ [s6.1]))))))
            (some (.inl ((IntKind.i64.wrap (s6.1 + 1), u14.1, max s6.2.2.1 (IntKind.i64.wrap (((((List.length u14.2) : Nat) : Int)) + 1)), u14.2)))))
          (cond (decide (x7.1 = 7))
            (gd (fits (List.length u14.2 + 1) 8) (some (.inl ((IntKind.i64.wrap (s6.1 + 1), u14.1, s6.2.2.1, (u14.2 ++ [s6.1]))))))
            (some (.inl ((IntKind.i64.wrap (s6.1 + 1), u14.1, s6.2.2.1, u14.2))))))
        (fun w16 =>
        (rd a0 s6.1).bind fun x17 =>
        cond (decide (x17.1 = 7))
          (cond (decide (x7.1 = 7))
            (gd (fits (List.length w16.2.2.2 + 1) 8) (some (.inl ((IntKind.i64.wrap (s6.1 + 1), w16.2.2.1, max s6.2.2.1 (IntKind.i64.wrap (((((List.length w16.2.2.2) : Nat) : Int)) + 1)), (w16.2.2.2 ++ [s6.1]))))))
            (some (.inl ((IntKind.i64.wrap (s6.1 + 1), w16.2.2.1, max s6.2.2.1 (IntKind.i64.wrap (((((List.length w16.2.2.2) : Nat) : Int)) + 1)), w16.2.2.2)))))
          (cond (decide (x7.1 = 7))
            (gd (fits (List.length w16.2.2.2 + 1) 8) (some (.inl ((IntKind.i64.wrap (s6.1 + 1), w16.2.2.1, s6.2.2.1, (w16.2.2.2 ++ [s6.1]))))))
            (some (.inl ((IntKind.i64.wrap (s6.1 + 1), w16.2.2.1, s6.2.2.1, w16.2.2.2))))))))
    (some (.inr (((s6.2.1, s6.2.2.1, s6.2.2.2)))))
/- backstitch/nest.Deep -/
def D_nest_Deep (a0 : List (Int × Int × Int × Int × Int)) : Option (Int × Int) :=
  (loopN (D_nest_Deep_L0 a0) BIG ((0, true, 0, []))).bind fun r18 =>
  cond (r18.1)
    (cond (!(decide (((((List.length r18.2.2) : Nat) : Int)) = 0)))
      (some ((0, 6)))
      (some ((r18.2.1, 0))))
    (some ((0, 6)))
/- (backstitch/check.program).depth -/
def D_check_program_depth (a0 : Int) (a1 : List (Int × Int × Int × Int × Int)) : Option (Int) :=
  (D_nest_Deep a1).bind fun r2 =>
  (D_check_fail (decide (8 < r2.1)) 8).bind fun r3 =>
  some r3
/- backstitch/size.block -/
def D_size_block (a0 : Int) (a1 : Int) : Option (Int × Bool) :=
  cond (decide (a0 = 0))
    (some ((0, true)))
    (cond (decide (65536 < a0))
      (some ((0, false)))
      (gd (decide (a0 ≠ 0)) (cond (decide ((IntKind.u64.wrap (IntKind.i64.wrap (Int.tdiv 65536 a0))) < a1))
        (some ((0, false)))
        (some ((IntKind.i64.wrap (a0 * (IntKind.i64.wrap (a1))), true))))))
def D_size_add_L0 (a0 : List Int) (s3 : Int × Int) : Option ((Int × Int) ⊕ (Int)) :=
  cond (decide (s3.1 < ((((List.length a0) : Nat) : Int))))
    ((rd a0 s3.1).bind fun x4 =>
    some (.inl ((IntKind.i64.wrap (s3.1 + 1), IntKind.i64.wrap (s3.2 + x4)))))
    (some (.inr s3.2))
/- backstitch/size.add -/
def D_size_add (a0 : List Int) : Option (Int) :=
  (loopN (D_size_add_L0 a0) BIG ((0, 0))).bind fun r5 =>
  some r5
def D_size_measure_L0 (a0 : List (Int × Int × Int × Int × Int)) (s9 : Int × (List Int) × (List Int) × List (Int × Int)) : Option ((Int × (List Int) × (List Int) × List (Int × Int)) ⊕ (Int × (List Int) × (List Int) × List (Int × Int))) :=
  cond (decide (s9.1 < ((((List.length a0) : Nat) : Int))))
    ((rd a0 s9.1).bind fun x10 =>
    (ix (IntKind.i64.wrap (((((List.length s9.2.2.2) : Nat) : Int)) - 1)) ((List.length s9.2.2.2))).bind fun j11 =>
    cond (decide (x10.1 = 7))
      (gd (fits (List.length s9.2.2.2 + 1) 16) (some (.inl ((IntKind.i64.wrap (s9.1 + 1), s9.2.1, s9.2.2.1, (s9.2.2.2 ++ [(s9.1, 0)]))))))
      (cond (decide (x10.1 = 0))
        ((s9.2.2.2[j11]?).bind fun x12 =>
        (s9.2.2.2[j11]?).bind fun x13 =>
        (rd a0 x13.1).bind fun x14 =>
        (D_size_block x12.2 x14.2.2.2.2).bind fun r15 =>
        cond (!r15.2)
          (some (.inr (((9, s9.2.1, s9.2.2.1, s9.2.2.2)))))
          ((s9.2.2.2[j11]?).bind fun x16 =>
          (s9.2.2.2[j11]?).bind fun x17 =>
          (s9.2.2.2[j11]?).bind fun x18 =>
          (ix x16.1 ((List.length s9.2.1))).bind fun j19 =>
          (s9.2.1[j19]?).bind fun x20 =>
          (ix x17.1 ((List.length s9.2.2.1))).bind fun j21 =>
          (s9.2.2.1[j21]?).bind fun x22 =>
          gd (cutG 0 (IntKind.i64.wrap (((((List.length s9.2.2.2) : Nat) : Int)) - 1)) ((List.length s9.2.2.2))) ((ix (IntKind.i64.wrap ((((((Int.toNat (IntKind.i64.wrap (((((List.length s9.2.2.2) : Nat) : Int)) - 1))) - 0) : Nat) : Int)) - 1)) (((Int.toNat (IntKind.i64.wrap (((((List.length s9.2.2.2) : Nat) : Int)) - 1))) - 0))).bind fun j23 =>
          (s9.2.2.2[(0 + j23)]?).bind fun x24 =>
          (D_size_add ([x24.2, r15.1])).bind fun r25 =>
          (ix (IntKind.i64.wrap ((((((Int.toNat (IntKind.i64.wrap (((((List.length s9.2.2.2) : Nat) : Int)) - 1))) - 0) : Nat) : Int)) - 1)) (((Int.toNat (IntKind.i64.wrap (((((List.length s9.2.2.2) : Nat) : Int)) - 1))) - 0))).bind fun j26 =>
          (s9.2.2.2[(0 + j26)]?).bind fun x27 =>
          some (.inl ((IntKind.i64.wrap (s9.1 + 1), (List.set s9.2.1 j19 r15.1), (List.set s9.2.2.1 j21 x18.2), (List.take (((Int.toNat (IntKind.i64.wrap (((((List.length s9.2.2.2) : Nat) : Int)) - 1))) - 0)) ((List.set s9.2.2.2 (0 + j26) ((x27.1, r25)))))))))))
        ((D_opcode_Writes x10.1 x10.2.1 x10.2.2.1 x10.2.2.2.1 x10.2.2.2.2).bind fun r28 =>
        cond (r28.2)
          ((ix s9.1 ((List.length s9.2.1))).bind fun j29 =>
          (s9.2.1[j29]?).bind fun x30 =>
          (s9.2.2.2[j11]?).bind fun x31 =>
          (s9.2.2.2[j11]?).bind fun x32 =>
          some (.inl ((IntKind.i64.wrap (s9.1 + 1), (List.set s9.2.1 j29 1), s9.2.2.1, (List.set s9.2.2.2 j11 ((x32.1, IntKind.i64.wrap (x31.2 + 1))))))))
          (some (.inl ((IntKind.i64.wrap (s9.1 + 1), s9.2.1, s9.2.2.1, s9.2.2.2)))))))
    (some (.inr (((0, s9.2.1, s9.2.2.1, s9.2.2.2)))))
/- backstitch/size.measure -/
def D_size_measure (a0 : List (Int × Int × Int × Int × Int)) : Option (Int × Int × (List Int) × List Int) :=
  (D_nest_Match a0).bind fun r1 =>
  cond (decide (r1.1 ≠ 0))
    (some ((0, r1.1, [], [])))
    (gd (Nat.beq 1 (Sh.w (.int .i64)) && decide (0 ≤ ((((List.length a0) : Nat) : Int))) && decide (((((List.length a0) : Nat) : Int)) ≤ ((((List.length a0) : Nat) : Int))) && decide ((8 : Int) * ((((List.length a0) : Nat) : Int)) ≤ 140737488355328) && Nat.ble 1 8) (gd (Nat.beq 1 (Sh.w (.int .i64)) && decide (0 ≤ ((((List.length a0) : Nat) : Int))) && decide (((((List.length a0) : Nat) : Int)) ≤ ((((List.length a0) : Nat) : Int))) && decide ((8 : Int) * ((((List.length a0) : Nat) : Int)) ≤ 140737488355328) && Nat.ble 1 8) ((loopN (D_size_measure_L0 a0) BIG ((0, (List.replicate (Int.toNat ((((List.length a0) : Nat) : Int))) (0 : Int)), (List.replicate (Int.toNat ((((List.length a0) : Nat) : Int))) (0 : Int)), [(0, 0)]))).bind fun r33 =>
    (((cond (decide (r33.1 = 0))
      ((ix 0 ((List.length r33.2.2.2))).bind fun j34 =>
      (r33.2.2.2[j34]?).bind fun x35 =>
      cond (decide (65536 < x35.2))
        (some 9)
        (some r33.1))
      (some r33.1)) : Option (Int))).bind fun s36 =>
    cond (decide (s36 ≠ 0))
      (some ((0, s36, [], [])))
      ((ix 0 ((List.length r33.2.2.2))).bind fun j37 =>
      (r33.2.2.2[j37]?).bind fun x38 =>
      some ((x38.2, 0, r33.2.1, r33.2.2.1))))))
/- backstitch/size.Writes -/
def D_size_Writes (a0 : List (Int × Int × Int × Int × Int)) : Option (Int × Int) :=
  (D_size_measure a0).bind fun r1 =>
  some ((r1.1, r1.2.1))
/- (backstitch/check.program).writes -/
def D_check_program_writes (a0 : Int) (a1 : List (Int × Int × Int × Int × Int)) : Option (Int) :=
  (D_size_Writes a1).bind fun r2 =>
  some r2.2
/- backstitch/check.Program -/
def D_check_Program (a0 : Int) (a1 : List (Int × Int × Int × Int × Int)) : Option (Int) :=
  (D_check_program_form a0 a1).bind fun r2 =>
  cond (decide (r2 ≠ 0))
    (some r2)
    ((D_check_program_registers a0 a1).bind fun r3 =>
    cond (decide (r3 ≠ 0))
      (some r3)
      ((D_check_program_depth a0 a1).bind fun r4 =>
      cond (decide (r4 ≠ 0))
        (some r4)
        ((D_check_program_writes a0 a1).bind fun r5 =>
        cond (decide (r5 ≠ 0))
          (some r5)
          (some 0))))
/- backstitch/backstitchlaw10.goes -/
def D_law10_goes  : Option (Bool) :=
  (D_law10_goes_1 1).bind fun r0 =>
  (D_check_Program 2 ([(1, (r0, (0, (1, 0))))])).bind fun r1 =>
  cond (decide (r1 = 0))
    ((D_law10_goes_1 2).bind fun r2 =>
    (D_check_Program 2 ([(1, (r2, (0, (1, 0))))])).bind fun r3 =>
    cond (decide (r3 = 7))
      ((D_check_Program 0 ([(0, (0, (0, (0, 0))))])).bind fun r4 =>
      some (decide (r4 = 6)))
      (some false))
    (some false)
def D_ref08_Well_L0 (a0 : List (Int × Int × Int × Int × Int)) (s3 : Int × Int) : Option ((Int × Int) ⊕ ((Bool) ⊕ (Int))) :=
  cond (decide (s3.1 < ((((List.length a0) : Nat) : Int))))
    ((rd a0 s3.1).bind fun x4 =>
    cond (decide (x4.1 < 0))
      (some (.inr (((.inl false)))))
      ((rd a0 s3.1).bind fun x5 =>
      cond (decide (7 < x5.1))
        (some (.inr (((.inl false)))))
        (((((rd a0 s3.1).bind fun x6 =>
        cond (decide (x6.1 = 7))
          (some (IntKind.i64.wrap (s3.2 + 1)))
          (some s3.2)) : Option (Int))).bind fun s7 =>
        (rd a0 s3.1).bind fun x8 =>
        cond (decide (x8.1 = 0))
          (cond (decide ((IntKind.i64.wrap (s7 - 1)) < 0))
            (some (.inr (((.inl false)))))
            (some (.inl ((IntKind.i64.wrap (s3.1 + 1), IntKind.i64.wrap (s7 - 1))))))
          (cond (decide (s7 < 0))
            (some (.inr (((.inl false)))))
            (some (.inl ((IntKind.i64.wrap (s3.1 + 1), s7))))))))
    (some (.inr (((.inr s3.2)))))
/- backstitch/backstitchref08.Well -/
def D_ref08_Well (a0 : List (Int × Int × Int × Int × Int)) : Option (Bool) :=
  (loopN (D_ref08_Well_L0 a0) BIG ((0, 0))).bind fun r9 =>
  caseS r9 (fun u10 =>
    some u10)
    (fun w11 =>
    some (decide (w11 = 0)))
/- backstitch/backstitchref07.Asks -/
def D_ref07_Asks (a0 : Int) : Option (Bool × Bool × Bool × Bool) :=
  (((cond (decide (1 ≤ a0))
    (cond (decide (a0 ≤ 3))
      (some ((.inl ((true, true, true, false)))))
      (some ((.inr ((false, false, false, false))))))
    (some ((.inr ((false, false, false, false)))))) : Option ((Bool × Bool × Bool × Bool) ⊕ (Bool × Bool × Bool × Bool)))).bind fun s1 =>
  caseS s1 (fun u2 =>
    some ((u2.1, u2.2.1, u2.2.2.1, u2.2.2.2)))
    (fun w3 =>
    cond (decide (a0 = 4))
      (some ((true, true, false, false)))
      (cond (decide (a0 = 6))
        (some ((true, true, false, false)))
        (cond (decide (a0 = 5))
          (some ((true, false, false, true)))
          (cond (decide (a0 = 7))
            (some ((false, false, false, true)))
            (some ((false, false, false, false)))))))
def D_ref07_Right_L0 (a1 : Int) (a2 : Int) (a3 : Int) (r5 : Bool × Bool × Bool × Bool) (s7 : Int) : Option ((Int) ⊕ ((Bool) ⊕ (Unit))) :=
  cond (decide (s7 < 3))
    ((ix s7 3).bind fun j8 =>
    cond (decide (((List.getD [a1, a2, a3] j8 0)) < 0))
      (some (.inr (((.inl false)))))
      ((ix s7 3).bind fun j9 =>
      cond (decide (2147483647 < ((List.getD [a1, a2, a3] j9 0))))
        (some (.inr (((.inl false)))))
        ((ix s7 4).bind fun j10 =>
        cond (!((List.getD [r5.1, r5.2.1, r5.2.2.1, r5.2.2.2] j10 false)))
          ((ix s7 3).bind fun j11 =>
          cond (decide (((List.getD [a1, a2, a3] j11 0)) ≠ 0))
            (some (.inr (((.inl false)))))
            (some (.inl (IntKind.i64.wrap (s7 + 1)))))
          (some (.inl (IntKind.i64.wrap (s7 + 1)))))))
    (some (.inr (((.inr ())))))
/- backstitch/backstitchref07.Right -/
def D_ref07_Right (a0 : Int) (a1 : Int) (a2 : Int) (a3 : Int) (a4 : Int) : Option (Bool) :=
  cond (decide (a0 < 0))
    (some false)
    (cond (decide (7 < a0))
      (some false)
      ((D_ref07_Asks a0).bind fun r5 =>
      (loopN (D_ref07_Right_L0 a1 a2 a3 r5) BIG 0).bind fun r12 =>
      caseS r12 (fun u13 =>
        some u13)
        (fun w14 =>
        cond (r5.2.2.2)
          (some true)
          (some (decide (a4 = 0))))))
def D_ref10_form_L0 (a1 : List (Int × Int × Int × Int × Int)) (s4 : Int) : Option ((Int) ⊕ ((Bool) ⊕ (Unit))) :=
  cond (decide (s4 < ((((List.length a1) : Nat) : Int))))
    ((rd a1 s4).bind fun x5 =>
    (D_ref07_Right x5.1 x5.2.1 x5.2.2.1 x5.2.2.2.1 x5.2.2.2.2).bind fun r6 =>
    cond (!r6)
      (some (.inr (((.inl false)))))
      (some (.inl (IntKind.i64.wrap (s4 + 1)))))
    (some (.inr (((.inr ())))))
/- backstitch/backstitchref10.form -/
def D_ref10_form (a0 : Int) (a1 : List (Int × Int × Int × Int × Int)) : Option (Bool) :=
  cond (decide (4096 < ((((List.length a1) : Nat) : Int))))
    (some false)
    ((D_ref08_Well a1).bind fun r2 =>
    cond (!r2)
      (some false)
      ((loopN (D_ref10_form_L0 a1) BIG 0).bind fun r7 =>
      caseS r7 (fun u8 =>
        some u8)
        (fun w9 =>
        some true)))
def D_ref10_registers_L0 (a0 : Int) (a1 : List (Int × Int × Int × Int × Int)) (s3 : Int) : Option ((Int) ⊕ ((Bool) ⊕ (Unit))) :=
  cond (decide (s3 < ((((List.length a1) : Nat) : Int))))
    ((rd a1 s3).bind fun x4 =>
    (D_ref07_Asks x4.1).bind fun r5 =>
    cond (r5.1)
      (cond (decide (a0 ≤ x4.2.1))
        (some (.inr (((.inl false)))))
        (cond (r5.2.1)
          (cond (decide (a0 ≤ x4.2.2.1))
            (some (.inr (((.inl false)))))
            (cond (r5.2.2.1)
              (cond (decide (a0 ≤ x4.2.2.2.1))
                (some (.inr (((.inl false)))))
                (some (.inl (IntKind.i64.wrap (s3 + 1)))))
              (some (.inl (IntKind.i64.wrap (s3 + 1))))))
          (cond (r5.2.2.1)
            (cond (decide (a0 ≤ x4.2.2.2.1))
              (some (.inr (((.inl false)))))
              (some (.inl (IntKind.i64.wrap (s3 + 1)))))
            (some (.inl (IntKind.i64.wrap (s3 + 1)))))))
      (cond (r5.2.1)
        (cond (decide (a0 ≤ x4.2.2.1))
          (some (.inr (((.inl false)))))
          (cond (r5.2.2.1)
            (cond (decide (a0 ≤ x4.2.2.2.1))
              (some (.inr (((.inl false)))))
              (some (.inl (IntKind.i64.wrap (s3 + 1)))))
            (some (.inl (IntKind.i64.wrap (s3 + 1))))))
        (cond (r5.2.2.1)
          (cond (decide (a0 ≤ x4.2.2.2.1))
            (some (.inr (((.inl false)))))
            (some (.inl (IntKind.i64.wrap (s3 + 1)))))
          (some (.inl (IntKind.i64.wrap (s3 + 1)))))))
    (some (.inr (((.inr ())))))
/- backstitch/backstitchref10.registers -/
def D_ref10_registers (a0 : Int) (a1 : List (Int × Int × Int × Int × Int)) : Option (Bool) :=
  cond (decide (a0 < 1))
    (some false)
    (cond (decide (64 < a0))
      (some false)
      ((loopN (D_ref10_registers_L0 a0 a1) BIG 0).bind fun r6 =>
      caseS r6 (fun u7 =>
        some u7)
        (fun w8 =>
        some true)))
def D_ref08_height_L0 (a0 : List (Int × Int × Int × Int × Int)) (a1 : Int) (s4 : Int × Int) : Option ((Int × Int) ⊕ (Int)) :=
  cond (decide (s4.1 < a1))
    ((rd a0 s4.1).bind fun x5 =>
    cond (decide (x5.1 = 7))
      ((rd a0 s4.1).bind fun x6 =>
      cond (decide (x6.1 = 0))
        (some (.inl ((IntKind.i64.wrap (s4.1 + 1), IntKind.i64.wrap ((IntKind.i64.wrap (s4.2 + 1)) - 1)))))
        (some (.inl ((IntKind.i64.wrap (s4.1 + 1), IntKind.i64.wrap (s4.2 + 1))))))
      ((rd a0 s4.1).bind fun x7 =>
      cond (decide (x7.1 = 0))
        (some (.inl ((IntKind.i64.wrap (s4.1 + 1), IntKind.i64.wrap (s4.2 - 1)))))
        (some (.inl ((IntKind.i64.wrap (s4.1 + 1), s4.2))))))
    (some (.inr s4.2))
/- backstitch/backstitchref08.height -/
def D_ref08_height (a0 : List (Int × Int × Int × Int × Int)) (a1 : Int) : Option (Int) :=
  (loopN (D_ref08_height_L0 a0 a1) BIG ((0, 0))).bind fun r8 =>
  some r8
def D_ref08_Deep_L0 (a0 : List (Int × Int × Int × Int × Int)) (s4 : Int × Int) : Option ((Int × Int) ⊕ (Int)) :=
  cond (decide (s4.1 ≤ ((((List.length a0) : Nat) : Int))))
    ((D_ref08_height a0 s4.1).bind fun r5 =>
    some (.inl ((IntKind.i64.wrap (s4.1 + 1), max s4.2 r5))))
    (some (.inr s4.2))
/- backstitch/backstitchref08.Deep -/
def D_ref08_Deep (a0 : List (Int × Int × Int × Int × Int)) : Option (Int × Int) :=
  (D_ref08_Well a0).bind fun r1 =>
  cond (!r1)
    (some ((0, 6)))
    ((loopN (D_ref08_Deep_L0 a0) BIG ((0, 0))).bind fun r6 =>
    some ((r6, 0)))
def D_ref08_Match_L0 (a0 : List (Int × Int × Int × Int × Int)) (s4 : Int × List Int) : Option ((Int × List Int) ⊕ (List Int)) :=
  cond (decide (s4.1 < ((((List.length a0) : Nat) : Int))))
    (gd (fits (List.length s4.2 + 1) 8) (some (.inl ((IntKind.i64.wrap (s4.1 + 1), (s4.2 ++ [(-1)]))))))
    (some (.inr s4.2))
def D_ref08_Match_L1 (a0 : List (Int × Int × Int × Int × Int)) (s13 : Int × Int) : Option ((Int × Int) ⊕ (Int)) :=
  cond (decide (0 < s13.1))
    ((rd a0 (IntKind.i64.wrap (s13.2 + 1))).bind fun x14 =>
    cond (decide (x14.1 = 7))
      ((rd a0 (IntKind.i64.wrap (s13.2 + 1))).bind fun x15 =>
      cond (decide (x15.1 = 0))
        (some (.inl ((IntKind.i64.wrap ((IntKind.i64.wrap (s13.1 + 1)) - 1), IntKind.i64.wrap (s13.2 + 1)))))
        (some (.inl ((IntKind.i64.wrap (s13.1 + 1), IntKind.i64.wrap (s13.2 + 1))))))
      ((rd a0 (IntKind.i64.wrap (s13.2 + 1))).bind fun x16 =>
      cond (decide (x16.1 = 0))
        (some (.inl ((IntKind.i64.wrap (s13.1 - 1), IntKind.i64.wrap (s13.2 + 1)))))
        (some (.inl ((s13.1, IntKind.i64.wrap (s13.2 + 1)))))))
    (some (.inr s13.2))
def D_ref08_Match_L2 (a0 : List (Int × Int × Int × Int × Int)) (s8 : Int × List Int) : Option ((Int × List Int) ⊕ (List Int)) :=
  cond (decide (s8.1 < ((((List.length a0) : Nat) : Int))))
    ((rd a0 s8.1).bind fun x9 =>
    cond (decide (x9.1 ≠ 7))
      (some (.inl ((IntKind.i64.wrap (s8.1 + 1), s8.2))))
      ((loopN (D_ref08_Match_L1 a0) BIG ((1, s8.1))).bind fun r17 =>
      (ix s8.1 ((List.length s8.2))).bind fun j18 =>
      (s8.2[j18]?).bind fun x19 =>
      (ix r17 ((List.length ((List.set s8.2 j18 r17))))).bind fun j20 =>
      (((List.set s8.2 j18 r17))[j20]?).bind fun x21 =>
      some (.inl ((IntKind.i64.wrap (s8.1 + 1), (List.set ((List.set s8.2 j18 r17)) j20 s8.1))))))
    (some (.inr s8.2))
/- backstitch/backstitchref08.Match -/
def D_ref08_Match (a0 : List (Int × Int × Int × Int × Int)) : Option (Int × List Int) :=
  (D_ref08_Well a0).bind fun r1 =>
  cond (!r1)
    (some ((6, [])))
    ((loopN (D_ref08_Match_L0 a0) BIG ((0, []))).bind fun r5 =>
    (loopN (D_ref08_Match_L2 a0) BIG ((0, r5))).bind fun r22 =>
    some ((0, r22)))
def B_ref09_within_L0 (k_ref09_Block : (List (Int × Int × Int × Int × Int)) → (List Int) → Int → Option (Int)) (a0 : List (Int × Int × Int × Int × Int)) (a1 : List Int) (a3 : Int) (s7 : Int × Int) : Option ((Int × Int) ⊕ ((Unit) ⊕ (Int))) :=
  cond (decide (s7.1 < a3))
    ((rd a0 s7.1).bind fun x8 =>
    cond (decide (x8.1 = 7))
      ((k_ref09_Block a0 a1 s7.1).bind fun r9 =>
      (rd a1 s7.1).bind fun x10 =>
      cond (decide (65536 < (IntKind.i64.wrap (s7.2 + r9))))
        (some (.inr (((.inl ())))))
        (some (.inl ((IntKind.i64.wrap (x10 + 1), IntKind.i64.wrap (s7.2 + r9))))))
      ((rd a0 s7.1).bind fun x11 =>
      (D_ref07_Asks x11.1).bind fun r12 =>
      cond (r12.1)
        (cond (decide (65536 < (IntKind.i64.wrap (s7.2 + 1))))
          (some (.inr (((.inl ())))))
          (some (.inl ((IntKind.i64.wrap (s7.1 + 1), IntKind.i64.wrap (s7.2 + 1))))))
        (cond (decide (65536 < s7.2))
          (some (.inr (((.inl ())))))
          (some (.inl ((IntKind.i64.wrap (s7.1 + 1), s7.2)))))))
    (some (.inr (((.inr s7.2)))))
/- backstitch/backstitchref09.within -/
def B_ref09_within (k_ref09_within : (List (Int × Int × Int × Int × Int)) → (List Int) → Int → Int → Option (Int)) (k_ref09_Block : (List (Int × Int × Int × Int × Int)) → (List Int) → Int → Option (Int)) (a0 : List (Int × Int × Int × Int × Int)) (a1 : List Int) (a2 : Int) (a3 : Int) : Option (Int) :=
  (loopN (B_ref09_within_L0 k_ref09_Block a0 a1 a3) BIG ((a2, 0))).bind fun r13 =>
  caseS r13 (fun u14 =>
    some 65537)
    (fun w15 =>
    some w15)
/- backstitch/backstitchref09.Block -/
def B_ref09_Block (k_ref09_within : (List (Int × Int × Int × Int × Int)) → (List Int) → Int → Int → Option (Int)) (k_ref09_Block : (List (Int × Int × Int × Int × Int)) → (List Int) → Int → Option (Int)) (a0 : List (Int × Int × Int × Int × Int)) (a1 : List Int) (a2 : Int) : Option (Int) :=
  (rd a1 a2).bind fun x3 =>
  (k_ref09_within a0 a1 (IntKind.i64.wrap (a2 + 1)) x3).bind fun r4 =>
  cond (decide (r4 = 0))
    (some 0)
    ((rd a0 a2).bind fun x5 =>
    cond (decide (x5.2.2.2.2 = 0))
      (some 0)
      ((rd a0 a2).bind fun x6 =>
      cond (decide (65536 < x6.2.2.2.2))
        (some 65537)
        ((rd a0 a2).bind fun x7 =>
        cond (decide (65536 < (IntKind.i64.wrap (r4 * (IntKind.i64.wrap (x7.2.2.2.2))))))
          (some 65537)
          ((rd a0 a2).bind fun x8 =>
          some (IntKind.i64.wrap (r4 * (IntKind.i64.wrap (x8.2.2.2.2))))))))
def D_rec_ref09_within : Nat → ((List (Int × Int × Int × Int × Int)) → (List Int) → Int → Int → Option (Int)) × ((List (Int × Int × Int × Int × Int)) → (List Int) → Int → Option (Int))
  | 0 => (fun _ _ _ _ => none, fun _ _ _ => none)
  | n + 1 => (B_ref09_within ((D_rec_ref09_within n).1) ((D_rec_ref09_within n).2), B_ref09_Block ((D_rec_ref09_within n).1) ((D_rec_ref09_within n).2))
def D_ref09_within (a0 : List (Int × Int × Int × Int × Int)) (a1 : List Int) (a2 : Int) (a3 : Int) : Option (Int) := (D_rec_ref09_within 400).1 a0 a1 a2 a3
def D_ref09_Block (a0 : List (Int × Int × Int × Int × Int)) (a1 : List Int) (a2 : Int) : Option (Int) := (D_rec_ref09_within 400).2 a0 a1 a2

def D_ref09_Writes_L0 (a0 : List (Int × Int × Int × Int × Int)) (r1 : Int × List Int) (s3 : Int) : Option ((Int) ⊕ ((Unit) ⊕ (Unit))) :=
  cond (decide (s3 < ((((List.length a0) : Nat) : Int))))
    ((rd a0 s3).bind fun x4 =>
    cond (decide (x4.1 = 7))
      ((D_ref09_Block a0 r1.2 s3).bind fun r5 =>
      cond (decide (65536 < r5))
        (some (.inr (((.inl ())))))
        ((ix s3 ((List.length r1.2))).bind fun j6 =>
        (r1.2[j6]?).bind fun x7 =>
        (D_ref09_within a0 r1.2 (IntKind.i64.wrap (s3 + 1)) x7).bind fun r8 =>
        cond (decide (65536 < r8))
          (some (.inr (((.inl ())))))
          (some (.inl (IntKind.i64.wrap (s3 + 1))))))
      (some (.inl (IntKind.i64.wrap (s3 + 1)))))
    (some (.inr (((.inr ())))))
/- backstitch/backstitchref09.Writes -/
def D_ref09_Writes (a0 : List (Int × Int × Int × Int × Int)) : Option (Int × Int) :=
  (D_ref08_Match a0).bind fun r1 =>
  cond (decide (r1.1 ≠ 0))
    (some ((0, r1.1)))
    ((loopN (D_ref09_Writes_L0 a0 r1) BIG 0).bind fun r9 =>
    caseS r9 (fun u10 =>
      some ((0, 9)))
      (fun w11 =>
      (D_ref09_within a0 r1.2 0 ((((List.length a0) : Nat) : Int))).bind fun r12 =>
      cond (decide (65536 < r12))
        (some ((0, 9)))
        (some ((r12, 0)))))
/- backstitch/backstitchref10.Look -/
def D_ref10_Look (a0 : Int) (a1 : List (Int × Int × Int × Int × Int)) (a2 : Int) : Option (Int) :=
  cond (decide (a2 = 0))
    ((D_ref10_form a0 a1).bind fun r3 =>
    cond (!r3)
      (some 6)
      (some 0))
    (cond (decide (a2 = 1))
      ((D_ref10_registers a0 a1).bind fun r4 =>
      cond (!r4)
        (some 7)
        (some 0))
      (cond (decide (a2 = 2))
        ((D_ref08_Deep a1).bind fun r5 =>
        cond (decide (8 < r5.1))
          (some 8)
          (some 0))
        ((D_ref09_Writes a1).bind fun r6 =>
        some r6.2)))
def D_ref10_Program_L0 (a0 : Int) (a1 : List (Int × Int × Int × Int × Int)) (s3 : Int) : Option ((Int) ⊕ ((Int) ⊕ (Unit))) :=
  cond (decide (s3 < 4))
    ((D_ref10_Look a0 a1 s3).bind fun r4 =>
    cond (decide (r4 ≠ 0))
      (some (.inr (((.inl r4)))))
      (some (.inl (IntKind.i64.wrap (s3 + 1)))))
    (some (.inr (((.inr ())))))
/- backstitch/backstitchref10.Program -/
def D_ref10_Program (a0 : Int) (a1 : List (Int × Int × Int × Int × Int)) : Option (Int) :=
  (loopN (D_ref10_Program_L0 a0 a1) BIG 0).bind fun r5 =>
  caseS r5 (fun u6 =>
    some u6)
    (fun w7 =>
    some 0)
/- backstitch/check.Pair -/
def D_check_Pair (a0 : Int) (a1 : List (Int × Int × Int × Int × Int)) (a2 : Int) (a3 : List (Int × Int × Int × Int × Int)) : Option (Int) :=
  (D_check_program_form a0 a1).bind fun r4 =>
  cond (decide (r4 ≠ 0))
    (some r4)
    ((D_check_program_form a2 a3).bind fun r5 =>
    cond (decide (r5 ≠ 0))
      (some r5)
      ((D_check_program_registers a0 a1).bind fun r6 =>
      cond (decide (r6 ≠ 0))
        (some r6)
        ((D_check_program_registers a2 a3).bind fun r7 =>
        cond (decide (r7 ≠ 0))
          (some r7)
          ((D_check_program_depth a0 a1).bind fun r8 =>
          cond (decide (r8 ≠ 0))
            (some r8)
            ((D_check_program_depth a2 a3).bind fun r9 =>
            cond (decide (r9 ≠ 0))
              (some r9)
              ((D_check_program_writes a0 a1).bind fun r10 =>
              cond (decide (r10 ≠ 0))
                (some r10)
                ((D_check_program_writes a2 a3).bind fun r11 =>
                cond (decide (r11 ≠ 0))
                  (some r11)
                  (some 0))))))))
def D_ref10_Pair_L0 (a0 : Int) (a1 : List (Int × Int × Int × Int × Int)) (a2 : Int) (a3 : List (Int × Int × Int × Int × Int)) (s5 : Int) : Option ((Int) ⊕ ((Int) ⊕ (Unit))) :=
  cond (decide (s5 < 4))
    ((D_ref10_Look a0 a1 s5).bind fun r6 =>
    cond (decide (r6 ≠ 0))
      (some (.inr (((.inl r6)))))
      ((D_ref10_Look a2 a3 s5).bind fun r7 =>
      cond (decide (r7 ≠ 0))
        (some (.inr (((.inl r7)))))
        (some (.inl (IntKind.i64.wrap (s5 + 1))))))
    (some (.inr (((.inr ())))))
/- backstitch/backstitchref10.Pair -/
def D_ref10_Pair (a0 : Int) (a1 : List (Int × Int × Int × Int × Int)) (a2 : Int) (a3 : List (Int × Int × Int × Int × Int)) : Option (Int) :=
  (loopN (D_ref10_Pair_L0 a0 a1 a2 a3) BIG 0).bind fun r8 =>
  caseS r8 (fun u9 =>
    some u9)
    (fun w10 =>
    some 0)
/- backstitch/check.Dims -/
def D_check_Dims (a0 : Int) (a1 : List (Int × Int × Int × Int × Int)) (a2 : Int) (a3 : List (Int × Int × Int × Int × Int)) (a4 : Int) (a5 : Int) : Option (Int) :=
  (((cond (decide (a4 < 1))
    (some true)
    (cond (decide (64 < a4))
      (some true)
      (cond (decide (a5 < 0))
        (some true)
        (some (decide (64 < a5)))))) : Option (Bool))).bind fun s6 =>
  cond (s6)
    ((D_check_fail true 10).bind fun r7 =>
    some r7)
    (cond (decide (a0 < (IntKind.i64.wrap ((IntKind.i64.wrap (a4 + a5)) + 1))))
      ((D_check_fail true 10).bind fun r8 =>
      some r8)
      ((D_check_fail (decide (a2 < (IntKind.i64.wrap (a4 + a5)))) 10).bind fun r9 =>
      some r9))
/- backstitch/backstitchref10.Dims -/
def D_ref10_Dims (a0 : Int) (a1 : List (Int × Int × Int × Int × Int)) (a2 : Int) (a3 : List (Int × Int × Int × Int × Int)) (a4 : Int) (a5 : Int) : Option (Int) :=
  cond (decide (a4 < 1))
    (some 10)
    (cond (decide (64 < a4))
      (some 10)
      (cond (decide (a5 < 0))
        (some 10)
        (cond (decide (64 < a5))
          (some 10)
          (cond (decide (a0 < (IntKind.i64.wrap ((IntKind.i64.wrap (a4 + a5)) + 1))))
            (some 10)
            (cond (decide (a2 < (IntKind.i64.wrap (a4 + a5))))
              (some 10)
              (some 0))))))
/- backstitch/check.Deepest -/
def D_check_Deepest (a0 : Int) (a1 : List (Int × Int × Int × Int × Int)) : Option (Int) :=
  (D_check_Program a0 a1).bind fun r2 =>
  cond (decide (r2 ≠ 0))
    (some 0)
    ((D_nest_Deep a1).bind fun r3 =>
    some r3.1)
/- backstitch/backstitchref10.Deepest -/
def D_ref10_Deepest (a0 : Int) (a1 : List (Int × Int × Int × Int × Int)) : Option (Int) :=
  (D_ref10_Program a0 a1).bind fun r2 =>
  cond (decide (r2 ≠ 0))
    (some 0)
    ((D_ref08_Deep a1).bind fun r3 =>
    some r3.1)
/- backstitch/backstitchlaw10.CheckPrograms -/
def D_law10_CheckPrograms (a0 : Int) (a1 : List (Int × Int × Int × Int × Int)) (a2 : Int) (a3 : List (Int × Int × Int × Int × Int)) (a4 : Int) (a5 : Int) : Option (Bool) :=
  (((cond (decide (100 < ((((List.length a1) : Nat) : Int))))
    (some true)
    (some (decide (100 < ((((List.length a3) : Nat) : Int)))))) : Option (Bool))).bind fun s6 =>
  cond (s6)
    ((D_law10_goes).bind fun r7 =>
    some r7)
    ((D_check_Program a0 a1).bind fun r8 =>
    (D_ref10_Program a0 a1).bind fun r9 =>
    cond (decide (r8 = r9))
      ((D_check_Pair a0 a1 a2 a3).bind fun r10 =>
      (D_ref10_Pair a0 a1 a2 a3).bind fun r11 =>
      cond (decide (r10 = r11))
        ((D_check_Dims a0 a1 a2 a3 a4 a5).bind fun r12 =>
        (D_ref10_Dims a0 a1 a2 a3 a4 a5).bind fun r13 =>
        cond (decide (r12 = r13))
          ((D_check_Deepest a0 a1).bind fun r14 =>
          (D_ref10_Deepest a0 a1).bind fun r15 =>
          cond (decide (r14 = r15))
            ((D_law10_goes).bind fun r16 =>
            some r16)
            (some false))
          (some false))
        (some false))
      (some false))
/- backstitch/backstitchlaw10.CheckPairs -/
def D_law10_CheckPairs (a0 : Int) (a1 : List (Int × Int × Int × Int × Int)) (a2 : Int) (a3 : List (Int × Int × Int × Int × Int)) : Option (Bool) :=
  (((cond (decide (100 < ((((List.length a1) : Nat) : Int))))
    (some true)
    (some (decide (100 < ((((List.length a3) : Nat) : Int)))))) : Option (Bool))).bind fun s4 =>
  cond (s4)
    ((D_law10_goes).bind fun r5 =>
    some r5)
    ((D_check_Program a0 a1).bind fun r6 =>
    (D_check_Program a2 a3).bind fun r7 =>
    (D_check_Pair a0 a1 a2 a3).bind fun r8 =>
    (((cond (decide (r6 = 0))
      (cond (!((decide (r8 = 0)) == (decide (r7 = 0))))
        (some ((.inl false)))
        ((D_check_Pair a2 a3 a0 a1).bind fun r9 =>
        cond (decide (r8 ≠ r9))
          (some ((.inl false)))
          (some ((.inr ())))))
      (cond (!((decide (r8 = 0)) == false))
        (some ((.inl false)))
        ((D_check_Pair a2 a3 a0 a1).bind fun r10 =>
        cond (decide (r8 ≠ r10))
          (some ((.inl false)))
          (some ((.inr ())))))) : Option ((Bool) ⊕ (Unit)))).bind fun s11 =>
    caseS s11 (fun u12 =>
      some u12)
      (fun w13 =>
      cond (decide (r8 = 0))
        ((D_check_Pair a0 a1 a0 a1).bind fun r14 =>
        cond (decide (r14 = r6))
          ((D_law10_goes).bind fun r15 =>
          some r15)
          (some false))
        (cond (decide (r8 = r6))
          ((D_check_Pair a0 a1 a0 a1).bind fun r16 =>
          cond (decide (r16 = r6))
            ((D_law10_goes).bind fun r17 =>
            some r17)
            (some false))
          (cond (decide (r8 = r7))
            ((D_check_Pair a0 a1 a0 a1).bind fun r18 =>
            cond (decide (r18 = r6))
              ((D_law10_goes).bind fun r19 =>
              some r19)
              (some false))
            (some false)))))
/- slices.Clone[[]backstitch/api.Op,backstitch/api.Op] -/
def D_slices_Clone_api_Op_api_Op (l : List (Int × Int × Int × Int × Int)) : Option (List (Int × Int × Int × Int × Int)) := gd (fits (0 + l.length) 40) (some l)
/- backstitch/nest.Inside -/
def D_nest_Inside (a0 : List (Int × Int × Int × Int × Int)) (a1 : Int) : Option (Int × List (Int × Int × Int × Int × Int)) :=
  (D_nest_Match a0).bind fun r2 =>
  cond (decide (r2.1 ≠ 0))
    (some ((r2.1, [])))
    (cond (decide (a1 < 0))
      (some ((2, [])))
      (cond (decide (((((List.length a0) : Nat) : Int)) ≤ a1))
        (some ((2, [])))
        ((rd a0 a1).bind fun x3 =>
        cond (decide (x3.1 ≠ 7))
          (some ((2, [])))
          ((ix a1 ((List.length r2.2))).bind fun j4 =>
          (r2.2[j4]?).bind fun x5 =>
          gd (cutG (IntKind.i64.wrap (a1 + 1)) x5 ((List.length a0))) ((D_slices_Clone_api_Op_api_Op ((cutL a0 (IntKind.i64.wrap (a1 + 1)) x5))).bind fun r6 =>
          some ((0, r6)))))))
/- backstitch/backstitchlaw10.CheckMore -/
def D_law10_CheckMore (a0 : Int) (a1 : List (Int × Int × Int × Int × Int)) (a2 : Int) (a3 : Int) : Option (Bool) :=
  (((cond (decide (100 < ((((List.length a1) : Nat) : Int))))
    (some true)
    ((D_check_Program a0 a1).bind fun r4 =>
    some (decide (r4 ≠ 0)))) : Option (Bool))).bind fun s5 =>
  cond (s5)
    ((D_law10_goes).bind fun r6 =>
    some r6)
    ((D_check_Program (IntKind.i64.wrap (a0 + (Int.tmod (IntKind.i64.wrap ((Int.tmod a2 64) + 64)) 64))) a1).bind fun r7 =>
    (((cond (!((decide (r7 = 0)) == (decide ((IntKind.i64.wrap (a0 + (Int.tmod (IntKind.i64.wrap ((Int.tmod a2 64) + 64)) 64))) ≤ 64))))
      (some ((.inl false)))
      (cond (decide (r7 ≠ 0))
        (cond (decide (r7 ≠ 7))
          (some ((.inl false)))
          (some ((.inr ()))))
        (some ((.inr ()))))) : Option ((Bool) ⊕ (Unit)))).bind fun s8 =>
    caseS s8 (fun u9 =>
      some u9)
      (fun w10 =>
      (D_nest_Inside a1 a3).bind fun r11 =>
      (((cond (decide (r11.1 = 0))
        ((D_check_Program a0 r11.2).bind fun r12 =>
        cond (decide (r12 ≠ 0))
          (some ((.inl false)))
          (some ((.inr ()))))
        (some ((.inr ())))) : Option ((Bool) ⊕ (Unit)))).bind fun s13 =>
      caseS s13 (fun u14 =>
        some u14)
        (fun w15 =>
        (D_law10_goes).bind fun r16 =>
        some r16)))
/- backstitch/backstitchlaw33.Small -/
def D_law33_Small (a0 : Int) (a1 : List Int) (a2 : List Int) (a3 : Int) (a4 : List (Int × Int × Int × Int × Int)) (a5 : Int) (a6 : List (Int × Int × Int × Int × Int)) (a7 : Int) (a8 : Int) (a9 : Int) : Option (Bool) :=
  cond (decide (((((List.length a4) : Nat) : Int)) ≤ a9))
    (cond (decide (((((List.length a6) : Nat) : Int)) ≤ a9))
      (cond (decide (((((List.length a1) : Nat) : Int)) ≤ 200))
        (some (decide (((((List.length a2) : Nat) : Int)) ≤ 200)))
        (some false))
      (some false))
    (some false)
/- backstitch/backstitchlaw34.Example -/
def D_law34_Example  : Option (Unit) :=
  some ()
/- backstitch/header.fail -/
def D_header_fail (a0 : Bool) (a1 : Int) : Option (Int) :=
  cond (a0)
    (some a1)
    (some 0)
/- (backstitch/header.header).mode -/
def D_header_header_mode (a0 : Int) (a1 : List Int) (a2 : List Int) (a3 : Int) (a4 : List (Int × Int × Int × Int × Int)) (a5 : Int) (a6 : List (Int × Int × Int × Int × Int)) (a7 : Int) (a8 : Int) : Option (Int) :=
  cond (decide (a0 < 1))
    ((D_header_fail true 5).bind fun r9 =>
    some r9)
    ((D_header_fail (decide (3 < a0)) 5).bind fun r10 =>
    some r10)
/- (backstitch/header.header).programs -/
def D_header_header_programs (a0 : Int) (a1 : List Int) (a2 : List Int) (a3 : Int) (a4 : List (Int × Int × Int × Int × Int)) (a5 : Int) (a6 : List (Int × Int × Int × Int × Int)) (a7 : Int) (a8 : Int) : Option (Int) :=
  (D_check_Pair a3 a4 a5 a6).bind fun r9 =>
  some r9
/- (backstitch/header.header).dims -/
def D_header_header_dims (a0 : Int) (a1 : List Int) (a2 : List Int) (a3 : Int) (a4 : List (Int × Int × Int × Int × Int)) (a5 : Int) (a6 : List (Int × Int × Int × Int × Int)) (a7 : Int) (a8 : Int) : Option (Int) :=
  (D_check_Dims a3 a4 a5 a6 ((((List.length a1) : Nat) : Int)) ((((List.length a2) : Nat) : Int))).bind fun r9 =>
  some r9
/- (backstitch/header.header).length -/
def D_header_header_length (a0 : Int) (a1 : List Int) (a2 : List Int) (a3 : Int) (a4 : List (Int × Int × Int × Int × Int)) (a5 : Int) (a6 : List (Int × Int × Int × Int × Int)) (a7 : Int) (a8 : Int) : Option (Int) :=
  (((cond (decide (a0 = 2))
    (some 0)
    (some 65535)) : Option (Int))).bind fun s9 =>
  cond (decide (a7 < 0))
    ((D_header_fail true 11).bind fun r10 =>
    some r10)
    ((D_header_fail (decide (s9 < a7)) 11).bind fun r11 =>
    some r11)
/- (backstitch/header.header).budget -/
def D_header_header_budget (a0 : Int) (a1 : List Int) (a2 : List Int) (a3 : Int) (a4 : List (Int × Int × Int × Int × Int)) (a5 : Int) (a6 : List (Int × Int × Int × Int × Int)) (a7 : Int) (a8 : Int) : Option (Int) :=
  cond (decide (a8 < 0))
    ((D_header_fail true 12).bind fun r9 =>
    some r9)
    ((D_header_fail (decide (1048576 < a8)) 12).bind fun r10 =>
    some r10)
def D_header_Check_L0 (a0 : Int) (a1 : List Int) (a2 : List Int) (a3 : Int) (a4 : List (Int × Int × Int × Int × Int)) (a5 : Int) (a6 : List (Int × Int × Int × Int × Int)) (a7 : Int) (a8 : Int) (s10 : Int) : Option ((Int) ⊕ ((Int) ⊕ (Unit))) :=
  cond (decide (s10 < 5))
    ((ix s10 5).bind fun j11 =>
    cond (Nat.beq j11 0)
      ((D_header_header_mode a0 a1 a2 a3 a4 a5 a6 a7 a8).bind fun r12 =>
      cond (decide (r12 ≠ 0))
        (some (.inr (((.inl r12)))))
        (some (.inl (IntKind.i64.wrap (s10 + 1)))))
      (cond (Nat.beq ((j11 - 1)) 0)
        ((D_header_header_programs a0 a1 a2 a3 a4 a5 a6 a7 a8).bind fun r13 =>
        cond (decide (r13 ≠ 0))
          (some (.inr (((.inl r13)))))
          (some (.inl (IntKind.i64.wrap (s10 + 1)))))
        (cond (Nat.beq (((j11 - 1) - 1)) 0)
          ((D_header_header_dims a0 a1 a2 a3 a4 a5 a6 a7 a8).bind fun r14 =>
          cond (decide (r14 ≠ 0))
            (some (.inr (((.inl r14)))))
            (some (.inl (IntKind.i64.wrap (s10 + 1)))))
          (cond (Nat.beq ((((j11 - 1) - 1) - 1)) 0)
            ((D_header_header_length a0 a1 a2 a3 a4 a5 a6 a7 a8).bind fun r15 =>
            cond (decide (r15 ≠ 0))
              (some (.inr (((.inl r15)))))
              (some (.inl (IntKind.i64.wrap (s10 + 1)))))
            (cond (Nat.beq (((((j11 - 1) - 1) - 1) - 1)) 0)
              ((D_header_header_budget a0 a1 a2 a3 a4 a5 a6 a7 a8).bind fun r16 =>
              cond (decide (r16 ≠ 0))
                (some (.inr (((.inl r16)))))
                (some (.inl (IntKind.i64.wrap (s10 + 1)))))
              none)))))
    (some (.inr (((.inr ())))))
/- backstitch/header.Check -/
def D_header_Check (a0 : Int) (a1 : List Int) (a2 : List Int) (a3 : Int) (a4 : List (Int × Int × Int × Int × Int)) (a5 : Int) (a6 : List (Int × Int × Int × Int × Int)) (a7 : Int) (a8 : Int) : Option (Int) :=
  (loopN (D_header_Check_L0 a0 a1 a2 a3 a4 a5 a6 a7 a8) BIG 0).bind fun r17 =>
  caseS r17 (fun u18 =>
    some u18)
    (fun w19 =>
    some 0)
/- backstitch/plan.Of -/
def D_plan_Of (a0 : Int) (a1 : List Int) (a2 : List Int) (a3 : Int) (a4 : List (Int × Int × Int × Int × Int)) (a5 : Int) (a6 : List (Int × Int × Int × Int × Int)) (a7 : Int) (a8 : Int) : Option (Int × Int) :=
  (D_header_Check a0 a1 a2 a3 a4 a5 a6 a7 a8).bind fun r9 =>
  cond (decide (r9 ≠ 0))
    (some ((0, 0)))
    ((D_size_Writes a4).bind fun r10 =>
    (D_size_Writes a6).bind fun r11 =>
    some ((r10.1, r11.1)))
/- backstitch/plan.sizes -/
def D_plan_sizes (a0 : Int) (a1 : List Int) (a2 : List Int) (a3 : Int) (a4 : List (Int × Int × Int × Int × Int)) (a5 : Int) (a6 : List (Int × Int × Int × Int × Int)) (a7 : Int) (a8 : Int) : Option (Int × Int × Int × Int × Int × Int × Int × Int × Int) :=
  (D_plan_Of a0 a1 a2 a3 a4 a5 a6 a7 a8).bind fun r9 =>
  (((cond (decide (a0 = 3))
    (some ((r9.2, IntKind.i64.wrap (r9.1 + a3))))
    (some ((IntKind.i64.wrap (r9.1 + r9.2), IntKind.i64.wrap (((((List.length a1) : Nat) : Int)) + 1))))) : Option (Int × Int))).bind fun s10 =>
  some (((((List.length a2) : Nat) : Int), (((List.length a1) : Nat) : Int), a3, a5, max a3 a5, (((List.length a1) : Nat) : Int), (((List.length a2) : Nat) : Int), s10.1, s10.2))
/- backstitch/plan.lay$1 -/
def D_plan_lay_1 (a0 : Int) (a1 : Int) : Option (Int × Int) :=
  some ((a1, IntKind.i64.wrap (a1 + a0)))
def D_plan_lay_L0 (a0 : Int) (a1 : Int) (a2 : Int) (a3 : Int) (a4 : Int) (a5 : Int) (a6 : Int) (a7 : Int) (a8 : Int) (s13 : Int × Int × List Int) : Option ((Int × Int × List Int) ⊕ (Int × List Int)) :=
  cond (decide (s13.1 < 8))
    ((ix s13.1 9).bind fun j14 =>
    (D_plan_lay_1 ((List.getD [a0, a1, a2, a3, a4, a5, a6, a7, a8] j14 0)) s13.2.1).bind fun r15 =>
    gd (fits (List.length s13.2.2 + 1) 8) (some (.inl ((IntKind.i64.wrap (s13.1 + 1), r15.2, (s13.2.2 ++ [r15.1]))))))
    (some (.inr (((s13.2.1, s13.2.2)))))
/- backstitch/plan.lay -/
def D_plan_lay (a0 : Int) (a1 : Int) (a2 : Int) (a3 : Int) (a4 : Int) (a5 : Int) (a6 : Int) (a7 : Int) (a8 : Int) (a9 : Int) : Option (List Int) :=
  (loopN (D_plan_lay_L0 a0 a1 a2 a3 a4 a5 a6 a7 a8) BIG ((0, 0, []))).bind fun r16 =>
  (D_plan_lay_1 (IntKind.i64.wrap (a8 * a9)) r16.1).bind fun r17 =>
  gd (fits (List.length r16.2 + 1) 8) (gd (fits (List.length ((r16.2 ++ [r17.1])) + 1) 8) (some (((r16.2 ++ [r17.1]) ++ [r17.2]))))
/- backstitch/plan.need -/
def D_plan_need (a0 : Int) (a1 : Int) (a2 : Int) (a3 : Int) (a4 : Int) (a5 : Int) (a6 : Int) (a7 : Int) (a8 : Int) (a9 : Int) : Option (Int) :=
  (D_plan_lay a0 a1 a2 a3 a4 a5 a6 a7 a8 a9).bind fun r10 =>
  (ix 9 ((List.length r10))).bind fun j11 =>
  (r10[j11]?).bind fun x12 =>
  some x12
def D_plan_Make_L0 (r10 : Int × Int × Int × Int × Int × Int × Int × Int × Int) (s18 : Int × Int × Int × Int × Int) : Option ((Int × Int × Int × Int × Int) ⊕ (Int × Int × Int × Int)) :=
  cond (decide (s18.1 < 7))
    ((ix s18.1 9).bind fun j19 =>
    some (.inl ((IntKind.i64.wrap (s18.1 + 1), IntKind.i64.wrap (s18.2.1 + ((List.getD [r10.1, r10.2.1, r10.2.2.1, r10.2.2.2.1, r10.2.2.2.2.1, r10.2.2.2.2.2.1, r10.2.2.2.2.2.2.1, r10.2.2.2.2.2.2.2.1, r10.2.2.2.2.2.2.2.2] j19 0))), s18.2.2.1, s18.2.2.2.1, s18.2.2.2.2))))
    (some (.inr (((s18.2.1, s18.2.2.1, s18.2.2.2.1, s18.2.2.2.2)))))
/- backstitch/plan.Make -/
def D_plan_Make (a0 : Int) (a1 : List Int) (a2 : List Int) (a3 : Int) (a4 : List (Int × Int × Int × Int × Int)) (a5 : Int) (a6 : List (Int × Int × Int × Int × Int)) (a7 : Int) (a8 : Int) : Option (Int × Int × Int × Int × Int) :=
  (D_header_Check a0 a1 a2 a3 a4 a5 a6 a7 a8).bind fun r9 =>
  cond (decide (r9 ≠ 0))
    (some ((0, 0, 0, 0, r9)))
    ((D_plan_sizes a0 a1 a2 a3 a4 a5 a6 a7 a8).bind fun r10 =>
    (((cond (decide (a0 = 3))
      (some a7)
      (some 1)) : Option (Int))).bind fun s11 =>
    (D_plan_need r10.1 r10.2.1 r10.2.2.1 r10.2.2.2.1 r10.2.2.2.2.1 r10.2.2.2.2.2.1 r10.2.2.2.2.2.2.1 r10.2.2.2.2.2.2.2.1 r10.2.2.2.2.2.2.2.2 s11).bind fun r12 =>
    cond (decide (a8 < r12))
      (some ((0, 0, 0, 0, 13)))
      ((loopN (D_plan_Make_L0 r10) BIG ((0, 0, r10.2.2.2.2.2.2.2.1, r10.2.2.2.2.2.2.2.2, s11))).bind fun r20 =>
      cond (decide (a0 ≠ 3))
        (gd (decide (r20.2.2.1 ≠ 0)) (some ((r20.1, r20.2.1, r20.2.2.1, IntKind.i64.wrap (Int.tdiv (IntKind.i64.wrap ((IntKind.i64.wrap (a8 - r20.1)) - r20.2.1)) r20.2.2.1), 0))))
        (some ((r20.1, r20.2.1, r20.2.2.1, r20.2.2.2, 0)))))
/- backstitch/plan.Places -/
def D_plan_Places (a0 : Int) (a1 : List Int) (a2 : List Int) (a3 : Int) (a4 : List (Int × Int × Int × Int × Int)) (a5 : Int) (a6 : List (Int × Int × Int × Int × Int)) (a7 : Int) (a8 : Int) : Option (Int × List Int) :=
  (D_plan_Make a0 a1 a2 a3 a4 a5 a6 a7 a8).bind fun r9 =>
  cond (decide (r9.2.2.2.2 ≠ 0))
    (some ((r9.2.2.2.2, [])))
    ((D_plan_sizes a0 a1 a2 a3 a4 a5 a6 a7 a8).bind fun r10 =>
    (D_plan_lay r10.1 r10.2.1 r10.2.2.1 r10.2.2.2.1 r10.2.2.2.2.1 r10.2.2.2.2.2.1 r10.2.2.2.2.2.2.1 r10.2.2.2.2.2.2.2.1 r10.2.2.2.2.2.2.2.2 r9.2.2.2.1).bind fun r11 =>
    some ((0, r11)))
def D_ref07_Ints_L0 (a0 : List Int) (a1 : List Int) (s3 : Int) : Option ((Int) ⊕ ((Bool) ⊕ (Unit))) :=
  cond (decide (s3 < ((((List.length a0) : Nat) : Int))))
    ((rd a0 s3).bind fun x4 =>
    (rd a1 s3).bind fun x5 =>
    cond (decide (x4 ≠ x5))
      (some (.inr (((.inl false)))))
      (some (.inl (IntKind.i64.wrap (s3 + 1)))))
    (some (.inr (((.inr ())))))
/- backstitch/backstitchref07.Ints -/
def D_ref07_Ints (a0 : List Int) (a1 : List Int) : Option (Bool) :=
  cond (decide (((((List.length a0) : Nat) : Int)) ≠ ((((List.length a1) : Nat) : Int))))
    (some false)
    ((loopN (D_ref07_Ints_L0 a0 a1) BIG 0).bind fun r6 =>
    caseS r6 (fun u7 =>
      some u7)
      (fun w8 =>
      some true))
/- backstitch/backstitchlaw34.goes -/
def D_law34_goes  : Option (Bool) :=
  (D_law34_Example).bind fun r0 =>
  (D_plan_Make 1 [5] [2] 3 ([(1, (0, (0, (2, 0))))]) 2 [] 3 100).bind fun r1 =>
  (D_law34_Example).bind fun r2 =>
  (D_plan_Places 1 [5] [2] 3 ([(1, (0, (0, (2, 0))))]) 2 [] 3 100).bind fun r3 =>
  cond (decide (r1.2.2.2.2 = 0))
    (cond ((decide (r1.1 = 12) && (decide (r1.2.1 = 1) && (decide (r1.2.2.1 = 2) && decide (r1.2.2.2.1 = 43)))))
      (cond (decide (r3.1 = 0))
        ((D_ref07_Ints r3.2 ([0, 1, 2, 5, 7, 10, 11, 12, 13, 99])).bind fun r4 =>
        some r4)
        (some false))
      (some false))
    (some false)
/- backstitch/backstitchref33.Check -/
def D_ref33_Check (a0 : Int) (a1 : List Int) (a2 : List Int) (a3 : Int) (a4 : List (Int × Int × Int × Int × Int)) (a5 : Int) (a6 : List (Int × Int × Int × Int × Int)) (a7 : Int) (a8 : Int) : Option (Int) :=
  cond (decide (a0 < 1))
    (some 5)
    (cond (decide (3 < a0))
      (some 5)
      ((D_ref10_Pair a3 a4 a5 a6).bind fun r9 =>
      cond (decide (r9 ≠ 0))
        (some r9)
        ((D_ref10_Dims a3 a4 a5 a6 ((((List.length a1) : Nat) : Int)) ((((List.length a2) : Nat) : Int))).bind fun r10 =>
        cond (decide (r10 ≠ 0))
          (some r10)
          (cond (decide (a7 < 0))
            (some 11)
            (cond (decide (65535 < a7))
              (some 11)
              (cond (decide (a0 = 2))
                (cond (decide (a7 ≠ 0))
                  (some 11)
                  (cond (decide (a8 < 0))
                    (some 12)
                    (cond (decide (1048576 < a8))
                      (some 12)
                      (some 0))))
                (cond (decide (a8 < 0))
                  (some 12)
                  (cond (decide (1048576 < a8))
                    (some 12)
                    (some 0)))))))))
/- backstitch/backstitchref34.fixed -/
def D_ref34_fixed (a0 : Int) (a1 : List Int) (a2 : List Int) (a3 : Int) (a4 : List (Int × Int × Int × Int × Int)) (a5 : Int) (a6 : List (Int × Int × Int × Int × Int)) (a7 : Int) (a8 : Int) : Option (Int) :=
  some (IntKind.i64.wrap ((IntKind.i64.wrap ((IntKind.i64.wrap ((IntKind.i64.wrap ((IntKind.i64.wrap (2 * ((((List.length a2) : Nat) : Int)))) + (IntKind.i64.wrap (2 * ((((List.length a1) : Nat) : Int)))))) + a3)) + a5)) + (max a3 a5)))
/- backstitch/backstitchref34.Of -/
def D_ref34_Of (a0 : Int) (a1 : List Int) (a2 : List Int) (a3 : Int) (a4 : List (Int × Int × Int × Int × Int)) (a5 : Int) (a6 : List (Int × Int × Int × Int × Int)) (a7 : Int) (a8 : Int) : Option (Int × Int) :=
  (D_ref33_Check a0 a1 a2 a3 a4 a5 a6 a7 a8).bind fun r9 =>
  cond (decide (r9 ≠ 0))
    (some ((0, 0)))
    ((D_ref09_Writes a4).bind fun r10 =>
    (D_ref09_Writes a6).bind fun r11 =>
    some ((r10.1, r11.1)))
/- backstitch/backstitchref34.tape -/
def D_ref34_tape (a0 : Int) (a1 : List Int) (a2 : List Int) (a3 : Int) (a4 : List (Int × Int × Int × Int × Int)) (a5 : Int) (a6 : List (Int × Int × Int × Int × Int)) (a7 : Int) (a8 : Int) : Option (Int) :=
  (D_ref34_Of a0 a1 a2 a3 a4 a5 a6 a7 a8).bind fun r9 =>
  cond (decide (a0 = 3))
    (some r9.2)
    (some (IntKind.i64.wrap (r9.1 + r9.2)))
/- backstitch/backstitchref34.slot -/
def D_ref34_slot (a0 : Int) (a1 : List Int) (a2 : List Int) (a3 : Int) (a4 : List (Int × Int × Int × Int × Int)) (a5 : Int) (a6 : List (Int × Int × Int × Int × Int)) (a7 : Int) (a8 : Int) : Option (Int) :=
  (D_ref34_Of a0 a1 a2 a3 a4 a5 a6 a7 a8).bind fun r9 =>
  cond (decide (a0 = 3))
    (some (IntKind.i64.wrap (r9.1 + a3)))
    (some (IntKind.i64.wrap (((((List.length a1) : Nat) : Int)) + 1)))
def D_ref34_Make_L0 (a0 : Int) (a8 : Int) (s18 : Int × Int × Int × Int) : Option ((Int × Int × Int × Int) ⊕ (Int × Int × Int × Int)) :=
  cond (decide (a0 ≠ 3))
    (cond (decide ((IntKind.i64.wrap ((IntKind.i64.wrap (s18.1 + s18.2.1)) + (IntKind.i64.wrap ((IntKind.i64.wrap (s18.2.2.2 + 1)) * s18.2.2.1)))) ≤ a8))
      (some (.inl ((s18.1, s18.2.1, s18.2.2.1, IntKind.i64.wrap (s18.2.2.2 + 1)))))
      (some (.inr (((s18.1, s18.2.1, s18.2.2.1, s18.2.2.2))))))
    (some (.inr (((s18.1, s18.2.1, s18.2.2.1, s18.2.2.2)))))
/- backstitch/backstitchref34.Make -/
def D_ref34_Make (a0 : Int) (a1 : List Int) (a2 : List Int) (a3 : Int) (a4 : List (Int × Int × Int × Int × Int)) (a5 : Int) (a6 : List (Int × Int × Int × Int × Int)) (a7 : Int) (a8 : Int) : Option (Int × Int × Int × Int × Int) :=
  (D_ref33_Check a0 a1 a2 a3 a4 a5 a6 a7 a8).bind fun r9 =>
  cond (decide (r9 ≠ 0))
    (some ((0, 0, 0, 0, r9)))
    ((D_ref34_fixed a0 a1 a2 a3 a4 a5 a6 a7 a8).bind fun r10 =>
    (D_ref34_tape a0 a1 a2 a3 a4 a5 a6 a7 a8).bind fun r11 =>
    (D_ref34_slot a0 a1 a2 a3 a4 a5 a6 a7 a8).bind fun r12 =>
    (((cond (decide (a0 = 3))
      (some ((r10, r11, r12, a7)))
      (some ((r10, r11, r12, 1)))) : Option (Int × Int × Int × Int))).bind fun s13 =>
    cond (decide (a8 < (IntKind.i64.wrap ((IntKind.i64.wrap (s13.1 + s13.2.1)) + (IntKind.i64.wrap (s13.2.2.2 * s13.2.2.1))))))
      (some ((0, 0, 0, 0, 13)))
      ((loopN (D_ref34_Make_L0 a0 a8) BIG ((s13.1, s13.2.1, s13.2.2.1, s13.2.2.2))).bind fun r19 =>
      some ((r19.1, r19.2.1, r19.2.2.1, r19.2.2.2, 0))))
def D_ref34_Places_L0 (a1 : List Int) (a2 : List Int) (a3 : Int) (a5 : Int) (r9 : Int × Int × Int × Int × Int) (s12 : Int × List Int) : Option ((Int × List Int) ⊕ (List Int)) :=
  cond (decide (s12.1 < 9))
    ((ix s12.1 ((List.length s12.2))).bind fun j13 =>
    (s12.2[j13]?).bind fun x14 =>
    (ix s12.1 9).bind fun j15 =>
    gd (fits (List.length s12.2 + 1) 8) (some (.inl ((IntKind.i64.wrap (s12.1 + 1), (s12.2 ++ [IntKind.i64.wrap (x14 + ((List.getD [(((List.length a2) : Nat) : Int), (((List.length a1) : Nat) : Int), a3, a5, max a3 a5, (((List.length a1) : Nat) : Int), (((List.length a2) : Nat) : Int), r9.2.1, IntKind.i64.wrap (r9.2.2.2.1 * r9.2.2.1)] j15 0)))]))))))
    (some (.inr s12.2))
/- backstitch/backstitchref34.Places -/
def D_ref34_Places (a0 : Int) (a1 : List Int) (a2 : List Int) (a3 : Int) (a4 : List (Int × Int × Int × Int × Int)) (a5 : Int) (a6 : List (Int × Int × Int × Int × Int)) (a7 : Int) (a8 : Int) : Option (Int × List Int) :=
  (D_ref34_Make a0 a1 a2 a3 a4 a5 a6 a7 a8).bind fun r9 =>
  cond (decide (r9.2.2.2.2 ≠ 0))
    (some ((r9.2.2.2.2, [])))
    ((loopN (D_ref34_Places_L0 a1 a2 a3 a5 r9) BIG ((0, [0]))).bind fun r16 =>
    some ((0, r16)))
/- backstitch/backstitchlaw34.PlanMakes -/
def D_law34_PlanMakes (a0 : Int) (a1 : List Int) (a2 : List Int) (a3 : Int) (a4 : List (Int × Int × Int × Int × Int)) (a5 : Int) (a6 : List (Int × Int × Int × Int × Int)) (a7 : Int) (a8 : Int) : Option (Bool) :=
  ((((D_law33_Small a0 a1 a2 a3 a4 a5 a6 a7 a8 100).bind fun r9 =>
  cond (!r9)
    (some true)
    (cond (decide (20000 < a8))
      (some (decide (a8 ≤ 1048576)))
      (some false))) : Option (Bool))).bind fun s10 =>
  cond (s10)
    ((D_law34_goes).bind fun r11 =>
    some r11)
    ((D_plan_Make a0 a1 a2 a3 a4 a5 a6 a7 a8).bind fun r12 =>
    (D_ref34_Make a0 a1 a2 a3 a4 a5 a6 a7 a8).bind fun r13 =>
    (D_plan_Places a0 a1 a2 a3 a4 a5 a6 a7 a8).bind fun r14 =>
    (D_ref34_Places a0 a1 a2 a3 a4 a5 a6 a7 a8).bind fun r15 =>
    (D_plan_Of a0 a1 a2 a3 a4 a5 a6 a7 a8).bind fun r16 =>
    (D_ref34_Of a0 a1 a2 a3 a4 a5 a6 a7 a8).bind fun r17 =>
    cond ((decide (r12.1 = r13.1) && (decide (r12.2.1 = r13.2.1) && (decide (r12.2.2.1 = r13.2.2.1) && decide (r12.2.2.2.1 = r13.2.2.2.1)))))
      (cond (decide (r12.2.2.2.2 = r13.2.2.2.2))
        ((D_ref07_Ints r14.2 r15.2).bind fun r18 =>
        cond (r18)
          (cond (decide (r14.1 = r15.1))
            (cond (decide (r16.1 = r17.1))
              (cond (decide (r16.2 = r17.2))
                ((D_law34_goes).bind fun r19 =>
                some r19)
                (some false))
              (some false))
            (some false))
          (some false))
        (some false))
      (some false))
/- backstitch/plan.Need -/
def D_plan_Need (a0 : Int) (a1 : List Int) (a2 : List Int) (a3 : Int) (a4 : List (Int × Int × Int × Int × Int)) (a5 : Int) (a6 : List (Int × Int × Int × Int × Int)) (a7 : Int) (a8 : Int) (a9 : Int) : Option (Int × Int) :=
  (D_header_Check a0 a1 a2 a3 a4 a5 a6 a7 a8).bind fun r10 =>
  cond (decide (r10 ≠ 0))
    (some ((0, r10)))
    (cond (decide (a9 < 0))
      (some ((0, 2)))
      (cond (decide (1048576 < a9))
        (some ((0, 2)))
        ((D_plan_sizes a0 a1 a2 a3 a4 a5 a6 a7 a8).bind fun r11 =>
        (D_plan_need r11.1 r11.2.1 r11.2.2.1 r11.2.2.2.1 r11.2.2.2.2.1 r11.2.2.2.2.2.1 r11.2.2.2.2.2.2.1 r11.2.2.2.2.2.2.2.1 r11.2.2.2.2.2.2.2.2 a9).bind fun r12 =>
        some ((r12, 0)))))
/- backstitch/backstitchref34.Need -/
def D_ref34_Need (a0 : Int) (a1 : List Int) (a2 : List Int) (a3 : Int) (a4 : List (Int × Int × Int × Int × Int)) (a5 : Int) (a6 : List (Int × Int × Int × Int × Int)) (a7 : Int) (a8 : Int) (a9 : Int) : Option (Int × Int) :=
  (D_ref33_Check a0 a1 a2 a3 a4 a5 a6 a7 a8).bind fun r10 =>
  cond (decide (r10 ≠ 0))
    (some ((0, r10)))
    (cond (decide (a9 < 0))
      (some ((0, 2)))
      (cond (decide (1048576 < a9))
        (some ((0, 2)))
        ((D_ref34_fixed a0 a1 a2 a3 a4 a5 a6 a7 a8).bind fun r11 =>
        (D_ref34_tape a0 a1 a2 a3 a4 a5 a6 a7 a8).bind fun r12 =>
        (D_ref34_slot a0 a1 a2 a3 a4 a5 a6 a7 a8).bind fun r13 =>
        some ((IntKind.i64.wrap ((IntKind.i64.wrap (r11 + r12)) + (IntKind.i64.wrap (a9 * r13))), 0)))))
/- backstitch/backstitchlaw34.PlanNeeds -/
def D_law34_PlanNeeds (a0 : Int) (a1 : List Int) (a2 : List Int) (a3 : Int) (a4 : List (Int × Int × Int × Int × Int)) (a5 : Int) (a6 : List (Int × Int × Int × Int × Int)) (a7 : Int) (a8 : Int) (a9 : Int) : Option (Bool) :=
  (D_law33_Small a0 a1 a2 a3 a4 a5 a6 a7 a8 100).bind fun r10 =>
  cond (!r10)
    ((D_law34_goes).bind fun r11 =>
    some r11)
    ((D_plan_Need a0 a1 a2 a3 a4 a5 a6 a7 a8 a9).bind fun r12 =>
    (D_ref34_Need a0 a1 a2 a3 a4 a5 a6 a7 a8 a9).bind fun r13 =>
    cond (decide (r12.1 = r13.1))
      (cond (decide (r12.2 = r13.2))
        ((D_law34_goes).bind fun r14 =>
        some r14)
        (some false))
      (some false))
/- backstitch/backstitchlaw34.PlanMost -/
def D_law34_PlanMost (a0 : Int) (a1 : List Int) (a2 : List Int) (a3 : Int) (a4 : List (Int × Int × Int × Int × Int)) (a5 : Int) (a6 : List (Int × Int × Int × Int × Int)) (a7 : Int) (a8 : Int) : Option (Bool) :=
  (D_law33_Small a0 a1 a2 a3 a4 a5 a6 a7 a8 100).bind fun r9 =>
  cond (!r9)
    ((D_law34_goes).bind fun r10 =>
    some r10)
    ((D_plan_Make a0 a1 a2 a3 a4 a5 a6 a7 a8).bind fun r11 =>
    cond (decide (r11.2.2.2.2 ≠ 0))
      (cond ((decide (r11.1 = 0) && (decide (r11.2.1 = 0) && (decide (r11.2.2.1 = 0) && decide (r11.2.2.2.1 = 0)))))
        ((D_law34_goes).bind fun r12 =>
        some r12)
        (some false))
      ((D_plan_Need a0 a1 a2 a3 a4 a5 a6 a7 a8 r11.2.2.2.1).bind fun r13 =>
      cond (decide (r13.2 ≠ 0))
        (some false)
        (cond (decide (a8 < r13.1))
          (some false)
          (cond (decide (r13.1 ≠ (IntKind.i64.wrap ((IntKind.i64.wrap (r11.1 + r11.2.1)) + (IntKind.i64.wrap (r11.2.2.2.1 * r11.2.2.1))))))
            (some false)
            (cond (decide (a0 = 3))
              (cond (decide (r11.2.2.2.1 = a7))
                ((D_law34_goes).bind fun r14 =>
                some r14)
                (some false))
              (cond (decide (r11.2.2.2.1 < 1))
                (some false)
                (cond (decide ((IntKind.i64.wrap (r13.1 + r11.2.2.1)) ≤ a8))
                  (some false)
                  ((D_plan_Make a0 a1 a2 a3 a4 a5 a6 a7 (IntKind.i64.wrap (a8 + r11.2.2.1))).bind fun r15 =>
                  cond (decide (1048576 < (IntKind.i64.wrap (a8 + r11.2.2.1))))
                    (cond (decide (r15.2.2.2.2 = 12))
                      ((D_law34_goes).bind fun r16 =>
                      some r16)
                      (some false))
                    (cond (decide (r15.2.2.2.2 = 0))
                      (cond ((decide (r15.1 = r11.1) && (decide (r15.2.1 = r11.2.1) && (decide (r15.2.2.1 = r11.2.2.1) && decide (r15.2.2.2.1 = (IntKind.i64.wrap (r11.2.2.2.1 + 1)))))))
                        ((D_law34_goes).bind fun r17 =>
                        some r17)
                        (some false))
                      (some false))))))))))
/- backstitch/backstitchlaw34.PlanLeast -/
def D_law34_PlanLeast (a0 : Int) (a1 : List Int) (a2 : List Int) (a3 : Int) (a4 : List (Int × Int × Int × Int × Int)) (a5 : Int) (a6 : List (Int × Int × Int × Int × Int)) (a7 : Int) (a8 : Int) : Option (Bool) :=
  (D_law33_Small a0 a1 a2 a3 a4 a5 a6 a7 a8 100).bind fun r9 =>
  cond (!r9)
    ((D_law34_goes).bind fun r10 =>
    some r10)
    ((((cond (decide (a0 = 3))
      (some a7)
      (some 1)) : Option (Int))).bind fun s11 =>
    (D_plan_Need a0 a1 a2 a3 a4 a5 a6 a7 a8 s11).bind fun r12 =>
    (((cond (decide (r12.2 ≠ 0))
      (some true)
      (cond (decide (r12.1 < 1))
        (some true)
        (some (decide (1048576 < r12.1))))) : Option (Bool))).bind fun s13 =>
    cond (s13)
      ((D_law34_goes).bind fun r14 =>
      some r14)
      ((D_plan_Make a0 a1 a2 a3 a4 a5 a6 a7 r12.1).bind fun r15 =>
      (D_plan_Make a0 a1 a2 a3 a4 a5 a6 a7 (IntKind.i64.wrap (r12.1 - 1))).bind fun r16 =>
      cond (decide (r15.2.2.2.2 = 0))
        (cond (decide (r15.2.2.2.1 = s11))
          (cond (decide (r16.2.2.2.2 = 13))
            (cond ((decide (r16.1 = 0) && (decide (r16.2.1 = 0) && (decide (r16.2.2.1 = 0) && decide (r16.2.2.2.1 = 0)))))
              ((D_law34_goes).bind fun r17 =>
              some r17)
              (some false))
            (some false))
          (some false))
        (some false)))
end Go.V
