/- A part of the proofs of this seat: what functions of the program answer on the abstract machine. -/
import Derived.Test.YtcnjacpilmjhfaaV22
namespace Go.V
set_option linter.unusedVariables false
set_option linter.unusedSimpArgs false
open Go.Ab
set_option linter.unusedVariables false
def D_nest_Match_L0 (a0 : List (Int × Int × Int × Int × Int)) (s7 : Int × Bool × (List Int) × (List Int) × List Int) : Option ((Int × Bool × (List Int) × (List Int) × List Int) ⊕ (Bool × (List Int) × (List Int) × List Int)) :=
  cond (decide (s7.1 < ((((List.length a0) : Nat) : Int))))
    ((rd a0 s7.1).bind fun x8 =>
    ((((((cond (decide (x8.1 < 0))
      (some ((.inl true)))
      (cond (decide (7 < x8.1))
        (some ((.inr ((true, x8.1, decide (7 < x8.1))))))
        (cond (decide (x8.1 = 0))
          (some ((.inr ((decide (((((List.length s7.2.2.2.1) : Nat) : Int)) = 0), x8.1, decide (7 < x8.1))))))
          (some ((.inr ((false, x8.1, decide (7 < x8.1))))))))) : Option ((Bool) ⊕ (Bool × Int × Bool)))).bind fun s9 =>
    caseS s9 (fun u10 =>
      cond (u10)
        (some ((.inl ((false, s7.2.2.2.1)))))
        (cond (decide (x8.1 = 0))
          (gd (cutG 0 (IntKind.i64.wrap (((((List.length s7.2.2.2.1) : Nat) : Int)) - 1)) ((List.length s7.2.2.2.1))) (some ((.inr ((.inl ((s7.2.1, (List.take (((Int.toNat (IntKind.i64.wrap (((((List.length s7.2.2.2.1) : Nat) : Int)) - 1))) - 0)) s7.2.2.2.1)))))))))
          (some ((.inr ((.inl ((s7.2.1, s7.2.2.2.1)))))))))
      (fun w11 =>
      cond (w11.1)
        (some ((.inl ((false, s7.2.2.2.1)))))
        (cond (decide (x8.1 = 0))
          (gd (cutG 0 (IntKind.i64.wrap (((((List.length s7.2.2.2.1) : Nat) : Int)) - 1)) ((List.length s7.2.2.2.1))) (some ((.inr ((.inr ((w11.2.1, w11.2.2, s7.2.1, (List.take (((Int.toNat (IntKind.i64.wrap (((((List.length s7.2.2.2.1) : Nat) : Int)) - 1))) - 0)) s7.2.2.2.1)))))))))
          (some ((.inr ((.inr ((w11.2.1, w11.2.2, s7.2.1, s7.2.2.2.1)))))))))) : Option ((Bool × List Int) ⊕ ((Bool × List Int) ⊕ (Int × Bool × Bool × List Int))))).bind fun s12 =>
    caseS s12 (fun u13 =>
      some (.inr (((u13.1, s7.2.2.1, u13.2, s7.2.2.2.2)))))
      (fun w14 =>
      caseS w14 (fun u15 =>
        (ix s7.1 ((List.length s7.2.2.1))).bind fun j16 =>
        (s7.2.2.1[j16]?).bind fun x17 =>
        (rd a0 s7.1).bind fun x18 =>
        cond (decide (x18.1 = 7))
          (gd (fits (List.length s7.2.2.2.2 + 1) 8) (cond (decide (x8.1 = 7))
            (gd (fits (List.length u15.2 + 1) 8) (some (.inl ((IntKind.i64.wrap (s7.1 + 1), u15.1, (List.set s7.2.2.1 j16 (-1)), (u15.2 ++ [s7.1]), (s7.2.2.2.2 ++ [s7.1]))))))
            (some (.inl ((IntKind.i64.wrap (s7.1 + 1), u15.1, (List.set s7.2.2.1 j16 (-1)), u15.2, (s7.2.2.2.2 ++ [s7.1])))))))
          (cond (decide (x18.1 = 0))
            ((ix (IntKind.i64.wrap (((((List.length s7.2.2.2.2) : Nat) : Int)) - 1)) ((List.length s7.2.2.2.2))).bind fun j19 =>
            (s7.2.2.2.2[j19]?).bind fun x20 =>
            gd (cutG 0 (IntKind.i64.wrap (((((List.length s7.2.2.2.2) : Nat) : Int)) - 1)) ((List.length s7.2.2.2.2))) ((ix s7.1 ((List.length ((List.set s7.2.2.1 j16 (-1)))))).bind fun j21 =>
            (((List.set s7.2.2.1 j16 (-1)))[j21]?).bind fun x22 =>
            (ix x20 ((List.length ((List.set ((List.set s7.2.2.1 j16 (-1))) j21 x20))))).bind fun j23 =>
            (((List.set ((List.set s7.2.2.1 j16 (-1))) j21 x20))[j23]?).bind fun x24 =>
            cond (decide (x8.1 = 7))
              (gd (fits (List.length u15.2 + 1) 8) (some (.inl ((IntKind.i64.wrap (s7.1 + 1), u15.1, (List.set ((List.set ((List.set s7.2.2.1 j16 (-1))) j21 x20)) j23 s7.1), (u15.2 ++ [s7.1]), (List.take (((Int.toNat (IntKind.i64.wrap (((((List.length s7.2.2.2.2) : Nat) : Int)) - 1))) - 0)) s7.2.2.2.2))))))
              (some (.inl ((IntKind.i64.wrap (s7.1 + 1), u15.1, (List.set ((List.set ((List.set s7.2.2.1 j16 (-1))) j21 x20)) j23 s7.1), u15.2, (List.take (((Int.toNat (IntKind.i64.wrap (((((List.length s7.2.2.2.2) : Nat) : Int)) - 1))) - 0)) s7.2.2.2.2)))))))
            (cond (decide (x8.1 = 7))
              (gd (fits (List.length u15.2 + 1) 8) (some (.inl ((IntKind.i64.wrap (s7.1 + 1), u15.1, (List.set s7.2.2.1 j16 (-1)), (u15.2 ++ [s7.1]), s7.2.2.2.2)))))
              (some (.inl ((IntKind.i64.wrap (s7.1 + 1), u15.1, (List.set s7.2.2.1 j16 (-1)), u15.2, s7.2.2.2.2)))))))
        (fun w25 =>
        (ix s7.1 ((List.length s7.2.2.1))).bind fun j26 =>
        (s7.2.2.1[j26]?).bind fun x27 =>
        (rd a0 s7.1).bind fun x28 =>
        cond (decide (x28.1 = 7))
          (gd (fits (List.length s7.2.2.2.2 + 1) 8) (cond (decide (x8.1 = 7))
            (gd (fits (List.length w25.2.2.2 + 1) 8) (some (.inl ((IntKind.i64.wrap (s7.1 + 1), w25.2.2.1, (List.set s7.2.2.1 j26 (-1)), (w25.2.2.2 ++ [s7.1]), (s7.2.2.2.2 ++ [s7.1]))))))
            (some (.inl ((IntKind.i64.wrap (s7.1 + 1), w25.2.2.1, (List.set s7.2.2.1 j26 (-1)), w25.2.2.2, (s7.2.2.2.2 ++ [s7.1])))))))
          (cond (decide (x28.1 = 0))
            ((ix (IntKind.i64.wrap (((((List.length s7.2.2.2.2) : Nat) : Int)) - 1)) ((List.length s7.2.2.2.2))).bind fun j29 =>
            (s7.2.2.2.2[j29]?).bind fun x30 =>
            gd (cutG 0 (IntKind.i64.wrap (((((List.length s7.2.2.2.2) : Nat) : Int)) - 1)) ((List.length s7.2.2.2.2))) ((ix s7.1 ((List.length ((List.set s7.2.2.1 j26 (-1)))))).bind fun j31 =>
            (((List.set s7.2.2.1 j26 (-1)))[j31]?).bind fun x32 =>
            (ix x30 ((List.length ((List.set ((List.set s7.2.2.1 j26 (-1))) j31 x30))))).bind fun j33 =>
            (((List.set ((List.set s7.2.2.1 j26 (-1))) j31 x30))[j33]?).bind fun x34 =>
            cond (decide (x8.1 = 7))
              (gd (fits (List.length w25.2.2.2 + 1) 8) (some (.inl ((IntKind.i64.wrap (s7.1 + 1), w25.2.2.1, (List.set ((List.set ((List.set s7.2.2.1 j26 (-1))) j31 x30)) j33 s7.1), (w25.2.2.2 ++ [s7.1]), (List.take (((Int.toNat (IntKind.i64.wrap (((((List.length s7.2.2.2.2) : Nat) : Int)) - 1))) - 0)) s7.2.2.2.2))))))
              (some (.inl ((IntKind.i64.wrap (s7.1 + 1), w25.2.2.1, (List.set ((List.set ((List.set s7.2.2.1 j26 (-1))) j31 x30)) j33 s7.1), w25.2.2.2, (List.take (((Int.toNat (IntKind.i64.wrap (((((List.length s7.2.2.2.2) : Nat) : Int)) - 1))) - 0)) s7.2.2.2.2)))))))
            (cond (decide (x8.1 = 7))
              (gd (fits (List.length w25.2.2.2 + 1) 8) (some (.inl ((IntKind.i64.wrap (s7.1 + 1), w25.2.2.1, (List.set s7.2.2.1 j26 (-1)), (w25.2.2.2 ++ [s7.1]), s7.2.2.2.2)))))
              (some (.inl ((IntKind.i64.wrap (s7.1 + 1), w25.2.2.1, (List.set s7.2.2.1 j26 (-1)), w25.2.2.2, s7.2.2.2.2)))))))))
    (some (.inr (((s7.2.1, s7.2.2.1, s7.2.2.2.1, s7.2.2.2.2)))))
/- backstitch/nest.Match -/
def D_nest_Match (a0 : List (Int × Int × Int × Int × Int)) : Option (Int × List Int) :=
  gd (Nat.beq 1 (Sh.w (.int .i64)) && decide (0 ≤ ((((List.length a0) : Nat) : Int))) && decide (((((List.length a0) : Nat) : Int)) ≤ ((((List.length a0) : Nat) : Int))) && decide ((8 : Int) * ((((List.length a0) : Nat) : Int)) ≤ 140737488355328) && Nat.ble 1 8) ((loopN (D_nest_Match_L0 a0) BIG ((0, true, (List.replicate (Int.toNat ((((List.length a0) : Nat) : Int))) (0 : Int)), [], []))).bind fun r35 =>
  cond (r35.1)
    (cond (!(decide (((((List.length r35.2.2.1) : Nat) : Int)) = 0)))
      (some ((6, [])))
      (some ((0, r35.2.1))))
    (some ((6, []))))
/- backstitch/check.fail -/
def D_check_fail (a0 : Bool) (a1 : Int) : Option (Int) :=
  cond (a0)
    (some a1)
    (some 0)
/- backstitch/opcode.of -/
def D_opcode_of (a0 : Int) : Option (Bool × Bool × Bool × Bool) :=
  (((cond (decide (a0 = 1))
    (some true)
    (cond (decide (a0 = 2))
      (some true)
      (some (decide (a0 = 3))))) : Option (Bool))).bind fun s1 =>
  cond (s1)
    (some ((true, true, true, false)))
    ((((cond (decide (a0 = 4))
      (some true)
      (some (decide (a0 = 6)))) : Option (Bool))).bind fun s2 =>
    cond (s2)
      (some ((true, true, false, false)))
      (cond (decide (a0 = 5))
        (some ((true, false, false, true)))
        (cond (decide (a0 = 7))
          (some ((false, false, false, true)))
          (some ((false, false, false, false))))))
/- backstitch/opcode.known -/
def D_opcode_known (a0 : Int) : Option (Bool) :=
  cond (decide (0 ≤ a0))
    (some (decide (a0 < 8)))
    (some false)
/- backstitch/opcode.register -/
def D_opcode_register (a0 : Int) (a1 : Bool) : Option (Bool) :=
  cond (!a1)
    (some (decide (a0 = 0)))
    (cond (decide (0 ≤ a0))
      (some (decide (a0 ≤ 2147483647)))
      (some false))
/- backstitch/opcode.Right -/
def D_opcode_Right (a0 : Int) (a1 : Int) (a2 : Int) (a3 : Int) (a4 : Int) : Option (Bool) :=
  (D_opcode_of a0).bind fun r5 =>
  (D_opcode_known a0).bind fun r6 =>
  cond (r6)
    ((D_opcode_register a1 r5.1).bind fun r7 =>
    cond (r7)
      ((D_opcode_register a2 r5.2.1).bind fun r8 =>
      cond (r8)
        ((D_opcode_register a3 r5.2.2.1).bind fun r9 =>
        cond (r9)
          (cond (r5.2.2.2)
            (some true)
            (some (decide (a4 = 0))))
          (some false))
        (some false))
      (some false))
    (some false)
/- (backstitch/check.program).form$1 -/
def D_check_program_form_1 (a0 : Int) (a1 : Int) (a2 : Int) (a3 : Int) (a4 : Int) : Option (Bool) :=
  (D_opcode_Right a0 a1 a2 a3 a4).bind fun r5 =>
  some !r5
def D_slices_IndexFunc_api_Op_api_Op_L0 (a0 : List (Int × Int × Int × Int × Int)) (s2 : Int) : Option ((Int) ⊕ ((Int) ⊕ (Unit))) :=
  cond (decide (s2 < ((((List.length a0) : Nat) : Int))))
    ((rd a0 s2).bind fun x3 =>
    (D_check_program_form_1 x3.1 x3.2.1 x3.2.2.1 x3.2.2.2.1 x3.2.2.2.2).bind fun r4 =>
    cond (r4)
      (some (.inr (((.inl s2)))))
      (some (.inl (IntKind.i64.wrap (s2 + 1)))))
    (some (.inr (((.inr ())))))
/- slices.IndexFunc[[]backstitch/api.Op,backstitch/api.Op] -/
def D_slices_IndexFunc_api_Op_api_Op (a0 : List (Int × Int × Int × Int × Int)) : Option (Int) :=
  (loopN (D_slices_IndexFunc_api_Op_api_Op_L0 a0) BIG 0).bind fun r5 =>
  caseS r5 (fun u6 =>
    some u6)
    (fun w7 =>
    some (-1))
/- slices.ContainsFunc[[]backstitch/api.Op,backstitch/api.Op] -/
def D_slices_ContainsFunc_api_Op_api_Op (a0 : List (Int × Int × Int × Int × Int)) : Option (Bool) :=
  (D_slices_IndexFunc_api_Op_api_Op a0).bind fun r1 =>
  some (decide (0 ≤ r1))
/- (backstitch/check.program).form -/
def D_check_program_form (a0 : Int) (a1 : List (Int × Int × Int × Int × Int)) : Option (Int) :=
  (D_nest_Match a1).bind fun r2 =>
  cond (decide (4096 < ((((List.length a1) : Nat) : Int))))
    ((D_check_fail true 6).bind fun r3 =>
    some r3)
    (cond (decide (r2.1 ≠ 0))
      ((D_check_fail true 6).bind fun r4 =>
      some r4)
      ((D_slices_ContainsFunc_api_Op_api_Op a1).bind fun r5 =>
      (D_check_fail r5 6).bind fun r6 =>
      some r6))
def D_slices_Reverse_int_int_L0  (s5 : Int × Int × List Int) : Option ((Int × Int × List Int) ⊕ (List Int)) :=
  cond (decide (s5.1 < s5.2.1))
    ((ix s5.2.1 ((List.length s5.2.2))).bind fun j6 =>
    (s5.2.2[j6]?).bind fun x7 =>
    (ix s5.1 ((List.length s5.2.2))).bind fun j8 =>
    (s5.2.2[j8]?).bind fun x9 =>
    (ix s5.1 ((List.length s5.2.2))).bind fun j10 =>
    (s5.2.2[j10]?).bind fun x11 =>
    (ix s5.2.1 ((List.length ((List.set s5.2.2 j10 x7))))).bind fun j12 =>
    (((List.set s5.2.2 j10 x7))[j12]?).bind fun x13 =>
    some (.inl ((IntKind.i64.wrap (s5.1 + 1), IntKind.i64.wrap (s5.2.1 - 1), (List.set ((List.set s5.2.2 j10 x7)) j12 x9)))))
    (some (.inr s5.2.2))
/- slices.Reverse[[]int,int] -/
def D_slices_Reverse_int_int (a0 : List Int) : Option (List Int) :=
  (loopN (D_slices_Reverse_int_int_L0) BIG ((0, IntKind.i64.wrap (((((List.length a0) : Nat) : Int)) - 1), a0))).bind fun r14 =>
  some r14
/- backstitch/opcode.Reads -/
def D_opcode_Reads (a0 : Int) (a1 : Int) (a2 : Int) (a3 : Int) (a4 : Int) : Option (List Int) :=
  (((((((((cond (decide (a0 = 1))
    (some ((.inl ())))
    (cond (decide (a0 = 2))
      (some ((.inl ())))
      (cond (decide (a0 = 3))
        (some ((.inl ())))
        (cond (decide (a0 = 4))
          (some ((.inr ((.inl ())))))
          (cond (decide (a0 = 6))
            (some ((.inr ((.inl ())))))
            (some ((.inr ((.inr ())))))))))) : Option ((Unit) ⊕ ((Unit) ⊕ (Unit))))).bind fun s5 =>
  caseS s5 (fun u6 =>
    some ((.inl [a3])))
    (fun w7 =>
    caseS w7 (fun u8 =>
      some ((.inl [])))
      (fun w9 =>
      some ((.inr ()))))) : Option ((List Int) ⊕ (Unit)))).bind fun s10 =>
  caseS s10 (fun u11 =>
    gd (fits (List.length u11 + 1) 8) (some ((u11 ++ [a2]))))
    (fun w12 =>
    some [])) : Option (List Int))).bind fun s13 =>
  (D_slices_Reverse_int_int s13).bind fun r14 =>
  some r14
/- backstitch/opcode.Writes -/
def D_opcode_Writes (a0 : Int) (a1 : Int) (a2 : Int) (a3 : Int) (a4 : Int) : Option (Int × Bool) :=
  (D_opcode_of a0).bind fun r5 =>
  cond (!r5.1)
    (some ((0, false)))
    (some ((a1, true)))
/- (backstitch/check.program).registers$1$1 -/
def D_check_program_registers_1_1 (a0 : Int) (a1 : Int) (a2 : List (Int × Int × Int × Int × Int)) : Option (Bool) :=
  some (decide (a1 ≤ a0))
def D_slices_IndexFunc_int_int_L0 (a0 : List Int) (a1 : Int) (a2 : List (Int × Int × Int × Int × Int)) (s4 : Int) : Option ((Int) ⊕ ((Int) ⊕ (Unit))) :=
  cond (decide (s4 < ((((List.length a0) : Nat) : Int))))
    ((rd a0 s4).bind fun x5 =>
    (D_check_program_registers_1_1 x5 a1 a2).bind fun r6 =>
    cond (r6)
      (some (.inr (((.inl s4)))))
      (some (.inl (IntKind.i64.wrap (s4 + 1)))))
    (some (.inr (((.inr ())))))
/- slices.IndexFunc[[]int,int] -/
def D_slices_IndexFunc_int_int (a0 : List Int) (a1 : Int) (a2 : List (Int × Int × Int × Int × Int)) : Option (Int) :=
  (loopN (D_slices_IndexFunc_int_int_L0 a0 a1 a2) BIG 0).bind fun r7 =>
  caseS r7 (fun u8 =>
    some u8)
    (fun w9 =>
    some (-1))
/- slices.ContainsFunc[[]int,int] -/
def D_slices_ContainsFunc_int_int (a0 : List Int) (a1 : Int) (a2 : List (Int × Int × Int × Int × Int)) : Option (Bool) :=
  (D_slices_IndexFunc_int_int a0 a1 a2).bind fun r3 =>
  some (decide (0 ≤ r3))
/- (backstitch/check.program).registers$1 -/
def D_check_program_registers_1 (a0 : Int) (a1 : Int) (a2 : Int) (a3 : Int) (a4 : Int) (a5 : Int) (a6 : List (Int × Int × Int × Int × Int)) : Option (Bool) :=
  (D_opcode_Reads a0 a1 a2 a3 a4).bind fun r7 =>
  ((((D_opcode_Writes a0 a1 a2 a3 a4).bind fun r8 =>
  cond (r8.2)
    (gd (fits (List.length r7 + 1) 8) (some ((r7 ++ [r8.1]))))
    (some r7)) : Option (List Int))).bind fun s9 =>
  (D_slices_ContainsFunc_int_int s9 a5 a6).bind fun r10 =>
  some r10
def D_slices_IndexFunc_api_Op_api_Op_2_L0 (a0 : List (Int × Int × Int × Int × Int)) (a1 : Int) (a2 : List (Int × Int × Int × Int × Int)) (s4 : Int) : Option ((Int) ⊕ ((Int) ⊕ (Unit))) :=
  cond (decide (s4 < ((((List.length a0) : Nat) : Int))))
    ((rd a0 s4).bind fun x5 =>
    (D_check_program_registers_1 x5.1 x5.2.1 x5.2.2.1 x5.2.2.2.1 x5.2.2.2.2 a1 a2).bind fun r6 =>
    cond (r6)
      (some (.inr (((.inl s4)))))
      (some (.inl (IntKind.i64.wrap (s4 + 1)))))
    (some (.inr (((.inr ())))))
/- slices.IndexFunc[[]backstitch/api.Op,backstitch/api.Op] -/
def D_slices_IndexFunc_api_Op_api_Op_2 (a0 : List (Int × Int × Int × Int × Int)) (a1 : Int) (a2 : List (Int × Int × Int × Int × Int)) : Option (Int) :=
  (loopN (D_slices_IndexFunc_api_Op_api_Op_2_L0 a0 a1 a2) BIG 0).bind fun r7 =>
  caseS r7 (fun u8 =>
    some u8)
    (fun w9 =>
    some (-1))
/- slices.ContainsFunc[[]backstitch/api.Op,backstitch/api.Op] -/
def D_slices_ContainsFunc_api_Op_api_Op_2 (a0 : List (Int × Int × Int × Int × Int)) (a1 : Int) (a2 : List (Int × Int × Int × Int × Int)) : Option (Bool) :=
  (D_slices_IndexFunc_api_Op_api_Op_2 a0 a1 a2).bind fun r3 =>
  some (decide (0 ≤ r3))
/- (backstitch/check.program).registers -/
def D_check_program_registers (a0 : Int) (a1 : List (Int × Int × Int × Int × Int)) : Option (Int) :=
  cond (decide (a0 < 1))
    ((D_check_fail true 7).bind fun r2 =>
    some r2)
    (cond (decide (64 < a0))
      ((D_check_fail true 7).bind fun r3 =>
      some r3)
      ((D_slices_ContainsFunc_api_Op_api_Op_2 a1 a0 a1).bind fun r4 =>
      (D_check_fail r4 7).bind fun r5 =>
      some r5))
def D_nest_Deep_L0 (a0 : List (Int × Int × Int × Int × Int)) (s6 : Int × Bool × Int × List Int) : Option ((Int × Bool × Int × List Int) ⊕ (Bool × Int × List Int)) :=
  cond (decide (s6.1 < ((((List.length a0) : Nat) : Int))))
    ((rd a0 s6.1).bind fun x7 =>
    ((((((cond (decide (x7.1 < 0))
      (some ((.inl true)))
      (cond (decide (7 < x7.1))
        (some ((.inr ((true, x7.1, decide (7 < x7.1))))))
        (cond (decide (x7.1 = 0))
          (some ((.inr ((decide (((((List.length s6.2.2.2) : Nat) : Int)) = 0), x7.1, decide (7 < x7.1))))))
          (some ((.inr ((false, x7.1, decide (7 < x7.1))))))))) : Option ((Bool) ⊕ (Bool × Int × Bool)))).bind fun s8 =>
    caseS s8 (fun u9 =>
      cond (u9)
        (some ((.inl ((false, s6.2.2.2)))))
        (cond (decide (x7.1 = 0))
          (gd (cutG 0 (IntKind.i64.wrap (((((List.length s6.2.2.2) : Nat) : Int)) - 1)) ((List.length s6.2.2.2))) (some ((.inr ((.inl ((s6.2.1, (List.take (((Int.toNat (IntKind.i64.wrap (((((List.length s6.2.2.2) : Nat) : Int)) - 1))) - 0)) s6.2.2.2)))))))))
          (some ((.inr ((.inl ((s6.2.1, s6.2.2.2)))))))))
      (fun w10 =>
      cond (w10.1)
        (some ((.inl ((false, s6.2.2.2)))))
        (cond (decide (x7.1 = 0))
          (gd (cutG 0 (IntKind.i64.wrap (((((List.length s6.2.2.2) : Nat) : Int)) - 1)) ((List.length s6.2.2.2))) (some ((.inr ((.inr ((w10.2.1, w10.2.2, s6.2.1, (List.take (((Int.toNat (IntKind.i64.wrap (((((List.length s6.2.2.2) : Nat) : Int)) - 1))) - 0)) s6.2.2.2)))))))))
          (some ((.inr ((.inr ((w10.2.1, w10.2.2, s6.2.1, s6.2.2.2)))))))))) : Option ((Bool × List Int) ⊕ ((Bool × List Int) ⊕ (Int × Bool × Bool × List Int))))).bind fun s11 =>
    caseS s11 (fun u12 =>
      some (.inr (((u12.1, s6.2.2.1, u12.2)))))
      (fun w13 =>
      caseS w13 (fun u14 =>
        (rd a0 s6.1).bind fun x15 =>
        cond (decide (x15.1 = 7))
          (cond (decide (x7.1 = 7))
            (gd (fits (List.length u14.2 + 1) 8) (some (.inl ((IntKind.i64.wrap (s6.1 + 1), u14.1, max s6.2.2.1 (IntKind.i64.wrap (((((List.length u14.2) : Nat) : Int)) + 1)), (u14.2 ++ [s6.1]))))))
            (some (.inl ((IntKind.i64.wrap (s6.1 + 1), u14.1, max s6.2.2.1 (IntKind.i64.wrap (((((List.length u14.2) : Nat) : Int)) + 1)), u14.2)))))
          (cond (decide (x7.1 = 7))
            (gd (fits (List.length u14.2 + 1) 8) (some (.inl ((IntKind.i64.wrap (s6.1 + 1), u14.1, s6.2.2.1, (u14.2 ++ [s6.1]))))))
            (some (.inl ((IntKind.i64.wrap (s6.1 + 1), u14.1, s6.2.2.1, u14.2))))))
        (fun w16 =>
        (rd a0 s6.1).bind fun x17 =>
        cond (decide (x17.1 = 7))
          (cond (decide (x7.1 = 7))
            (gd (fits (List.length w16.2.2.2 + 1) 8) (some (.inl ((IntKind.i64.wrap (s6.1 + 1), w16.2.2.1, max s6.2.2.1 (IntKind.i64.wrap (((((List.length w16.2.2.2) : Nat) : Int)) + 1)), (w16.2.2.2 ++ [s6.1]))))))
            (some (.inl ((IntKind.i64.wrap (s6.1 + 1), w16.2.2.1, max s6.2.2.1 (IntKind.i64.wrap (((((List.length w16.2.2.2) : Nat) : Int)) + 1)), w16.2.2.2)))))
          (cond (decide (x7.1 = 7))
            (gd (fits (List.length w16.2.2.2 + 1) 8) (some (.inl ((IntKind.i64.wrap (s6.1 + 1), w16.2.2.1, s6.2.2.1, (w16.2.2.2 ++ [s6.1]))))))
            (some (.inl ((IntKind.i64.wrap (s6.1 + 1), w16.2.2.1, s6.2.2.1, w16.2.2.2))))))))
    (some (.inr (((s6.2.1, s6.2.2.1, s6.2.2.2)))))
/- backstitch/nest.Deep -/
def D_nest_Deep (a0 : List (Int × Int × Int × Int × Int)) : Option (Int × Int) :=
  (loopN (D_nest_Deep_L0 a0) BIG ((0, true, 0, []))).bind fun r18 =>
  cond (r18.1)
    (cond (!(decide (((((List.length r18.2.2) : Nat) : Int)) = 0)))
      (some ((0, 6)))
      (some ((r18.2.1, 0))))
    (some ((0, 6)))
/- (backstitch/check.program).depth -/
def D_check_program_depth (a0 : Int) (a1 : List (Int × Int × Int × Int × Int)) : Option (Int) :=
  (D_nest_Deep a1).bind fun r2 =>
  (D_check_fail (decide (8 < r2.1)) 8).bind fun r3 =>
  some r3
/- backstitch/size.block -/
def D_size_block (a0 : Int) (a1 : Int) : Option (Int × Bool) :=
  cond (decide (a0 = 0))
    (some ((0, true)))
    (cond (decide (65536 < a0))
      (some ((0, false)))
      (gd (decide (a0 ≠ 0)) (cond (decide ((IntKind.u64.wrap (IntKind.i64.wrap (Int.tdiv 65536 a0))) < a1))
        (some ((0, false)))
        (some ((IntKind.i64.wrap (a0 * (IntKind.i64.wrap (a1))), true))))))
def D_size_add_L0 (a0 : List Int) (s3 : Int × Int) : Option ((Int × Int) ⊕ (Int)) :=
  cond (decide (s3.1 < ((((List.length a0) : Nat) : Int))))
    ((rd a0 s3.1).bind fun x4 =>
    some (.inl ((IntKind.i64.wrap (s3.1 + 1), IntKind.i64.wrap (s3.2 + x4)))))
    (some (.inr s3.2))
/- backstitch/size.add -/
def D_size_add (a0 : List Int) : Option (Int) :=
  (loopN (D_size_add_L0 a0) BIG ((0, 0))).bind fun r5 =>
  some r5
def D_size_measure_L0 (a0 : List (Int × Int × Int × Int × Int)) (s6 : Int × (List Int) × (List Int) × List (Int × Int)) : Option ((Int × (List Int) × (List Int) × List (Int × Int)) ⊕ (Int × (List Int) × (List Int) × List (Int × Int))) :=
  cond (decide (s6.1 < ((((List.length a0) : Nat) : Int))))
    ((rd a0 s6.1).bind fun x7 =>
    (ix (IntKind.i64.wrap (((((List.length s6.2.2.2) : Nat) : Int)) - 1)) ((List.length s6.2.2.2))).bind fun j8 =>
    cond (decide (x7.1 = 7))
      (gd (fits (List.length s6.2.2.2 + 1) 16) (some (.inl ((IntKind.i64.wrap (s6.1 + 1), s6.2.1, s6.2.2.1, (s6.2.2.2 ++ [(s6.1, 0)]))))))
      (cond (decide (x7.1 = 0))
        ((s6.2.2.2[j8]?).bind fun x9 =>
        (s6.2.2.2[j8]?).bind fun x10 =>
        (rd a0 x10.1).bind fun x11 =>
        (D_size_block x9.2 x11.2.2.2.2).bind fun r12 =>
        cond (!r12.2)
          (some (.inr (((9, s6.2.1, s6.2.2.1, s6.2.2.2)))))
          ((s6.2.2.2[j8]?).bind fun x13 =>
          (s6.2.2.2[j8]?).bind fun x14 =>
          (s6.2.2.2[j8]?).bind fun x15 =>
          (ix x13.1 ((List.length s6.2.1))).bind fun j16 =>
          (s6.2.1[j16]?).bind fun x17 =>
          (ix x14.1 ((List.length s6.2.2.1))).bind fun j18 =>
          (s6.2.2.1[j18]?).bind fun x19 =>
          gd (cutG 0 (IntKind.i64.wrap (((((List.length s6.2.2.2) : Nat) : Int)) - 1)) ((List.length s6.2.2.2))) ((ix (IntKind.i64.wrap ((((((Int.toNat (IntKind.i64.wrap (((((List.length s6.2.2.2) : Nat) : Int)) - 1))) - 0) : Nat) : Int)) - 1)) (((Int.toNat (IntKind.i64.wrap (((((List.length s6.2.2.2) : Nat) : Int)) - 1))) - 0))).bind fun j20 =>
          (s6.2.2.2[(0 + j20)]?).bind fun x21 =>
          (D_size_add ([x21.2, r12.1])).bind fun r22 =>
          (ix (IntKind.i64.wrap ((((((Int.toNat (IntKind.i64.wrap (((((List.length s6.2.2.2) : Nat) : Int)) - 1))) - 0) : Nat) : Int)) - 1)) (((Int.toNat (IntKind.i64.wrap (((((List.length s6.2.2.2) : Nat) : Int)) - 1))) - 0))).bind fun j23 =>
          (s6.2.2.2[(0 + j23)]?).bind fun x24 =>
          some (.inl ((IntKind.i64.wrap (s6.1 + 1), (List.set s6.2.1 j16 r12.1), (List.set s6.2.2.1 j18 x15.2), (List.take (((Int.toNat (IntKind.i64.wrap (((((List.length s6.2.2.2) : Nat) : Int)) - 1))) - 0)) ((List.set s6.2.2.2 (0 + j23) ((x24.1, r22)))))))))))
        ((D_opcode_Writes x7.1 x7.2.1 x7.2.2.1 x7.2.2.2.1 x7.2.2.2.2).bind fun r25 =>
        cond (r25.2)
          ((ix s6.1 ((List.length s6.2.1))).bind fun j26 =>
          (s6.2.1[j26]?).bind fun x27 =>
          (s6.2.2.2[j8]?).bind fun x28 =>
          (s6.2.2.2[j8]?).bind fun x29 =>
          some (.inl ((IntKind.i64.wrap (s6.1 + 1), (List.set s6.2.1 j26 1), s6.2.2.1, (List.set s6.2.2.2 j8 ((x29.1, IntKind.i64.wrap (x28.2 + 1))))))))
          (some (.inl ((IntKind.i64.wrap (s6.1 + 1), s6.2.1, s6.2.2.1, s6.2.2.2)))))))
    (some (.inr (((0, s6.2.1, s6.2.2.1, s6.2.2.2)))))
/- backstitch/size.measure -/
def D_size_measure (a0 : List (Int × Int × Int × Int × Int)) : Option (Int × Int × (List Int) × List Int) :=
  (D_nest_Match a0).bind fun r1 =>
  cond (decide (r1.1 ≠ 0))
    (some ((0, r1.1, [], [])))
    (gd (Nat.beq 1 (Sh.w (.int .i64)) && decide (0 ≤ ((((List.length a0) : Nat) : Int))) && decide (((((List.length a0) : Nat) : Int)) ≤ ((((List.length a0) : Nat) : Int))) && decide ((8 : Int) * ((((List.length a0) : Nat) : Int)) ≤ 140737488355328) && Nat.ble 1 8) (gd (Nat.beq 1 (Sh.w (.int .i64)) && decide (0 ≤ ((((List.length a0) : Nat) : Int))) && decide (((((List.length a0) : Nat) : Int)) ≤ ((((List.length a0) : Nat) : Int))) && decide ((8 : Int) * ((((List.length a0) : Nat) : Int)) ≤ 140737488355328) && Nat.ble 1 8) ((loopN (D_size_measure_L0 a0) BIG ((0, (List.replicate (Int.toNat ((((List.length a0) : Nat) : Int))) (0 : Int)), (List.replicate (Int.toNat ((((List.length a0) : Nat) : Int))) (0 : Int)), [(0, 0)]))).bind fun r30 =>
    (((cond (decide (r30.1 = 0))
      ((ix 0 ((List.length r30.2.2.2))).bind fun j31 =>
      (r30.2.2.2[j31]?).bind fun x32 =>
      cond (decide (65536 < x32.2))
        (some 9)
        (some r30.1))
      (some r30.1)) : Option (Int))).bind fun s33 =>
    cond (decide (s33 ≠ 0))
      (some ((0, s33, [], [])))
      ((ix 0 ((List.length r30.2.2.2))).bind fun j34 =>
      (r30.2.2.2[j34]?).bind fun x35 =>
      some ((x35.2, 0, r30.2.1, r30.2.2.1))))))
/- backstitch/size.Writes -/
def D_size_Writes (a0 : List (Int × Int × Int × Int × Int)) : Option (Int × Int) :=
  (D_size_measure a0).bind fun r1 =>
  some ((r1.1, r1.2.1))
/- (backstitch/check.program).writes -/
def D_check_program_writes (a0 : Int) (a1 : List (Int × Int × Int × Int × Int)) : Option (Int) :=
  (D_size_Writes a1).bind fun r2 =>
  some r2.2
/- backstitch/check.Program -/
def D_check_Program (a0 : Int) (a1 : List (Int × Int × Int × Int × Int)) : Option (Int) :=
  (D_check_program_form a0 a1).bind fun r2 =>
  cond (decide (r2 ≠ 0))
    (some r2)
    ((D_check_program_registers a0 a1).bind fun r3 =>
    cond (decide (r3 ≠ 0))
      (some r3)
      ((D_check_program_depth a0 a1).bind fun r4 =>
      cond (decide (r4 ≠ 0))
        (some r4)
        ((D_check_program_writes a0 a1).bind fun r5 =>
        cond (decide (r5 ≠ 0))
          (some r5)
          (some 0))))
/- backstitch/backstitchlaw10.goes$1 -/
def D_law10_goes_1 (a0 : Int) : Option (Int) :=
  some a0
/- backstitch/backstitchlaw10.goes -/
def D_law10_goes  : Option (Bool) :=
  (D_law10_goes_1 1).bind fun r0 =>
  (D_check_Program 2 ([(1, (r0, (0, (1, 0))))])).bind fun r1 =>
  cond (decide (r1 = 0))
    ((D_law10_goes_1 2).bind fun r2 =>
    (D_check_Program 2 ([(1, (r2, (0, (1, 0))))])).bind fun r3 =>
    cond (decide (r3 = 7))
      ((D_check_Program 0 ([(0, (0, (0, (0, 0))))])).bind fun r4 =>
      some (decide (r4 = 6)))
      (some false))
    (some false)
/- backstitch/check.Deepest -/
def D_check_Deepest (a0 : Int) (a1 : List (Int × Int × Int × Int × Int)) : Option (Int) :=
  (D_check_Program a0 a1).bind fun r2 =>
  cond (decide (r2 ≠ 0))
    (some 0)
    ((D_nest_Deep a1).bind fun r3 =>
    some r3.1)
def D_law10_CheckMany_L0 (a1 : Int) (s2 : Int × Int) (s5 : Int × List (Int × Int × Int × Int × Int)) : Option ((Int × List (Int × Int × Int × Int × Int)) ⊕ (List (Int × Int × Int × Int × Int))) :=
  cond (decide (s5.1 < s2.1))
    ((ix (Int.tmod a1 3) 3).bind fun j6 =>
    (ix s5.1 ((List.length s5.2))).bind fun j7 =>
    (s5.2[j7]?).bind fun x8 =>
    some (.inl ((IntKind.i64.wrap (s5.1 + 1), (List.set s5.2 j7 (((List.getD [4, 6, 5] j6 0), (0, (0, (0, 0))))))))))
    (some (.inr s5.2))
def D_law10_CheckMany_L1 (s2 : Int × Int) (s12 : Int × List (Int × Int × Int × Int × Int)) : Option ((Int × List (Int × Int × Int × Int × Int)) ⊕ (List (Int × Int × Int × Int × Int))) :=
  cond (decide (s12.1 < s2.2))
    (gd (fits (List.length s12.2 + 1) 40) (some (.inl ((IntKind.i64.wrap (s12.1 + 1), (s12.2 ++ [(7, (0, (0, (0, 2))))]))))))
    (some (.inr s12.2))
/- backstitch/backstitchlaw10.CheckMany -/
def D_law10_CheckMany (a0 : Bool) (a1 : Int) : Option (Bool) :=
  (((cond (a0)
    (some ((4097, 9)))
    (some ((4096, 8)))) : Option (Int × Int))).bind fun s2 =>
  gd (Nat.beq 5 (Sh.w (.pair (.int .i64) (.pair (.int .i64) (.pair (.int .i64) (.pair (.int .i64) (.int .u64)))))) && decide (0 ≤ s2.1) && decide (s2.1 ≤ s2.1) && decide ((40 : Int) * s2.1 ≤ 140737488355328) && Nat.ble 1 40) ((loopN (D_law10_CheckMany_L0 a1 s2) BIG ((0, (List.replicate (Int.toNat s2.1) ((0, (0, (0, (0, 0)))) : Int × Int × Int × Int × Int))))).bind fun r9 =>
  (loopN (D_law10_CheckMany_L1 s2) BIG ((0, []))).bind fun r13 =>
  gd (zeroFits 40 s2.2) (gd (fits (List.length r13 + List.length ((List.replicate (Int.toNat s2.2) ((0, (0, (0, (0, 0)))) : Int × Int × Int × Int × Int)))) 40) ((D_check_Program 1 r9).bind fun r14 =>
  (D_check_Program 1 ((r13 ++ (List.replicate (Int.toNat s2.2) ((0, (0, (0, (0, 0)))) : Int × Int × Int × Int × Int))))).bind fun r15 =>
  cond (a0)
    (cond (decide (r14 = 6))
      (cond (decide (r15 = 8))
        ((D_law10_goes).bind fun r16 =>
        some r16)
        (some false))
      (some false))
    (cond (decide (r14 = 0))
      (cond (decide (r15 = 0))
        ((D_check_Deepest 1 ((r13 ++ (List.replicate (Int.toNat s2.2) ((0, (0, (0, (0, 0)))) : Int × Int × Int × Int × Int))))).bind fun r17 =>
        cond (decide (r17 = 8))
          ((D_law10_goes).bind fun r18 =>
          some r18)
          (some false))
        (some false))
      (some false)))))
end Go.V
