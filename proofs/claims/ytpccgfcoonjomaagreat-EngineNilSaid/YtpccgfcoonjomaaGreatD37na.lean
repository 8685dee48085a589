/- A part of the proofs of this seat: what functions of the program answer on the abstract machine. -/
import Derived.Test.YtpccgfcoonjomaaGreatV22
namespace Go.V
set_option linter.unusedVariables false
set_option linter.unusedSimpArgs false
open Go.Ab
set_option linter.unusedVariables false
abbrev wI := IntKind.i64.wrap
abbrev wU := IntKind.u64.wrap
abbrev LO := List (Int × Int × Int × Int × Int)
abbrev ln {α : Type} (l : List α) := List.length l
abbrev tN := Int.toNat
abbrev Op := Option

/- (*backstitch/engine.Engine).Step -/
def D_engine_Engine_Step  : Op (Bool) :=
 some false
def D_engine_Engine_Run_L0  (s0 : Unit) : Op ((Unit) ⊕ (Unit)) :=
 (D_engine_Engine_Step).bind fun r1 =>
 some (.inr ())
/- (*backstitch/engine.Engine).Run -/
def D_engine_Engine_Run  : Op (Unit) :=
 (loopN (D_engine_Engine_Run_L0) BIG ()).bind fun r2 =>
 some ()
/- (*backstitch/engine.Engine).Freeze -/
def D_engine_Engine_Freeze  : Op (Unit) :=
 some ()
/- (*backstitch/engine.Engine).own -/
def D_engine_Engine_own  : Op (Unit) :=
 some ()
/- (*backstitch/drive.Driver).Result -/
def D_drive_Driver_Result  : Op (Unit) :=
 some ()
/- (*backstitch/engine.Engine).Result -/
def D_engine_Engine_Result  : Op (Unit) :=
 (D_engine_Engine_own).bind fun r0 =>
 (D_drive_Driver_Result).bind fun r1 =>
 some ()
def D_ref24_Same_L0 (a1 : List Int) (a4 : List Int) (s7 : Int) : Op ((Int) ⊕ ((Bool) ⊕ (Unit))) :=
 cond (decide (s7 < ((((ln a1) : Nat) : Int))))
  ((rd a1 s7).bind fun x8 =>
  (rd a4 s7).bind fun x9 =>
  cond (decide (x8 ≠ x9))
   (some (.inr (((.inl false)))))
   (some (.inl (wI (s7 + 1)))))
  (some (.inr (((.inr ())))))
def D_ref24_Same_L1 (a2 : List Int) (a5 : List Int) (s14 : Int) : Op ((Int) ⊕ ((Bool) ⊕ (Unit))) :=
 cond (decide (s14 < ((((ln a2) : Nat) : Int))))
  ((rd a2 s14).bind fun x15 =>
  (rd a5 s14).bind fun x16 =>
  cond (decide (x15 ≠ x16))
   (some (.inr (((.inl false)))))
   (some (.inl (wI (s14 + 1)))))
  (some (.inr (((.inr ())))))
/- backstitch/backstitchref24.Same -/
def D_ref24_Same (a0 : Int) (a1 a2 : List Int) (a3 : Int) (a4 a5 : List Int) : Op (Bool) :=
 cond (decide (a0 ≠ a3))
  (some false)
  (cond (decide (((((ln a1) : Nat) : Int)) ≠ ((((ln a4) : Nat) : Int))))
   (some false)
   (cond (decide (((((ln a2) : Nat) : Int)) ≠ ((((ln a5) : Nat) : Int))))
    (some false)
    ((loopN (D_ref24_Same_L0 a1 a4) BIG 0).bind fun r10 =>
    caseS r10 (fun u11 =>
     some u11)
     (fun w12 =>
     (loopN (D_ref24_Same_L1 a2 a5) BIG 0).bind fun r17 =>
     caseS r17 (fun u18 =>
      some u18)
      (fun w19 =>
      some true)))))
/- (*backstitch/engine.Engine).still -/
def D_engine_Engine_still  : Op (Bool) :=
 some false
/- (*backstitch/engine.Engine).Waits -/
def D_engine_Engine_Waits  : Op (Bool) :=
 (D_engine_Engine_still).bind fun r0 =>
 cond (r0)
  none
  (some false)
/- (*backstitch/drive.Driver).Spot -/
def D_drive_Driver_Spot  : Op (Unit) :=
 some ()
/- (*backstitch/engine.Engine).Spot -/
def D_engine_Engine_Spot  : Op (Unit) :=
 (D_engine_Engine_own).bind fun r0 =>
 (D_drive_Driver_Spot).bind fun r1 =>
 some ()
/- (*backstitch/engine.Engine).Done -/
def D_engine_Engine_Done  : Op (Bool) :=
 (D_engine_Engine_still).bind fun r0 =>
 cond (r0)
  ((D_engine_Engine_Spot).bind fun r1 =>
  some true)
  (some false)
/- (*backstitch/engine.Engine).Feed -/
def D_engine_Engine_Feed (a0 : Bool) : Op (Unit) :=
 some ()
/- (*backstitch/drive.Driver).Len -/
def D_drive_Driver_Len  : Op (Unit) :=
 some ()
/- (*backstitch/engine.Engine).Len -/
def D_engine_Engine_Len  : Op (Unit) :=
 (D_engine_Engine_own).bind fun r0 =>
 (D_drive_Driver_Len).bind fun r1 =>
 some ()
/- (*backstitch/drive.Driver).Live -/
def D_drive_Driver_Live  : Op (Unit) :=
 some ()
/- (*backstitch/engine.Engine).Live -/
def D_engine_Engine_Live  : Op (Unit) :=
 (D_engine_Engine_own).bind fun r0 =>
 (D_drive_Driver_Live).bind fun r1 =>
 some ()
/- (*backstitch/drive.Driver).Peak -/
def D_drive_Driver_Peak  : Op (Unit) :=
 some ()
/- (*backstitch/engine.Engine).Peak -/
def D_engine_Engine_Peak  : Op (Unit) :=
 (D_engine_Engine_own).bind fun r0 =>
 (D_drive_Driver_Peak).bind fun r1 =>
 some ()
/- (*backstitch/drive.Driver).State -/
def D_drive_Driver_State  : Op (Unit) :=
 some ()
/- (*backstitch/engine.Engine).State -/
def D_engine_Engine_State  : Op (Unit) :=
 (D_engine_Engine_own).bind fun r0 =>
 (D_drive_Driver_State).bind fun r1 =>
 some ()
/- (*backstitch/drive.Driver).Image -/
def D_drive_Driver_Image  : Op (Unit) :=
 some ()
/- (*backstitch/engine.Engine).Image -/
def D_engine_Engine_Image  : Op (Unit) :=
 (D_engine_Engine_own).bind fun r0 =>
 (D_drive_Driver_Image).bind fun r1 =>
 some ()
/- (*backstitch/drive.Driver).Scalars -/
def D_drive_Driver_Scalars  : Op (Unit) :=
 some ()
/- (*backstitch/engine.Engine).Scalars -/
def D_engine_Engine_Scalars  : Op (Unit) :=
 (D_engine_Engine_own).bind fun r0 =>
 (D_drive_Driver_Scalars).bind fun r1 =>
 some ()
/- (*backstitch/drive.Driver).Count -/
def D_drive_Driver_Count  : Op (Unit) :=
 some ()
/- (*backstitch/engine.Engine).Count -/
def D_engine_Engine_Count  : Op (Unit) :=
 (D_engine_Engine_own).bind fun r0 =>
 (D_drive_Driver_Count).bind fun r1 =>
 some ()
def D_ref27_Same_L0 (a2 : List Int) (a5 : List Int) (s7 : Int) : Op ((Int) ⊕ ((Bool) ⊕ (Unit))) :=
 cond (decide (s7 < ((((ln a2) : Nat) : Int))))
  ((rd a2 s7).bind fun x8 =>
  (rd a5 s7).bind fun x9 =>
  cond (decide (x8 ≠ x9))
   (some (.inr (((.inl false)))))
   (some (.inl (wI (s7 + 1)))))
  (some (.inr (((.inr ())))))
/- backstitch/backstitchref27.Same -/
def D_ref27_Same (a0 a1 : Int) (a2 : List Int) (a3 a4 : Int) (a5 : List Int) : Op (Bool) :=
 cond (decide (a0 ≠ a3))
  (some false)
  (cond (decide (a1 ≠ a4))
   (some false)
   (cond (decide (((((ln a2) : Nat) : Int)) ≠ ((((ln a5) : Nat) : Int))))
    (some false)
    ((loopN (D_ref27_Same_L0 a2 a5) BIG 0).bind fun r10 =>
    caseS r10 (fun u11 =>
     some u11)
     (fun w12 =>
     some true))))
/- backstitch/backstitchlaw34.Example -/
def D_law34_Example  : Op (Unit) :=
 some ()
/- backstitch/header.fail -/
def D_header_fail (a0 : Bool) (a1 : Int) : Op (Int) :=
 cond (a0)
  (some a1)
  (some 0)
/- (backstitch/header.header).mode -/
def D_header_header_mode (a0 : Int) (a1 a2 : List Int) (a3 : Int) (a4 : LO) (a5 : Int) (a6 : LO) (a7 a8 : Int) : Op (Int) :=
 cond (decide (a0 < 1))
  ((D_header_fail true 5).bind fun r9 =>
  some r9)
  ((D_header_fail (decide (3 < a0)) 5).bind fun r10 =>
  some r10)
def D_nest_Match_L0 (a0 : LO) (s7 : Int × Bool × (List Int) × (List Int) × List Int) : Op ((Int × Bool × (List Int) × (List Int) × List Int) ⊕ (Bool × (List Int) × (List Int) × List Int)) :=
 cond (decide (s7.1 < ((((ln a0) : Nat) : Int))))
  ((rd a0 s7.1).bind fun x8 =>
  ((((((cond (decide (x8.1 < 0))
   (some ((.inl true)))
   (cond (decide (7 < x8.1))
    (some ((.inr ((true, x8.1, decide (7 < x8.1))))))
    (cond (decide (x8.1 = 0))
     (some ((.inr ((decide (((((ln s7.2.2.2.1) : Nat) : Int)) = 0), x8.1, decide (7 < x8.1))))))
     (some ((.inr ((false, x8.1, decide (7 < x8.1))))))))) : Op ((Bool) ⊕ (Bool × Int × Bool)))).bind fun s9 =>
  caseS s9 (fun u10 =>
   cond (u10)
    (some ((.inl ((false, s7.2.2.2.1)))))
    (cond (decide (x8.1 = 0))
     (gd (cutG 0 (wI (((((ln s7.2.2.2.1) : Nat) : Int)) - 1)) ((ln s7.2.2.2.1))) (some ((.inr ((.inl ((s7.2.1, (List.take (((tN (wI (((((ln s7.2.2.2.1) : Nat) : Int)) - 1))) - 0)) s7.2.2.2.1)))))))))
     (some ((.inr ((.inl ((s7.2.1, s7.2.2.2.1)))))))))
   (fun w11 =>
   cond (w11.1)
    (some ((.inl ((false, s7.2.2.2.1)))))
    (cond (decide (x8.1 = 0))
     (gd (cutG 0 (wI (((((ln s7.2.2.2.1) : Nat) : Int)) - 1)) ((ln s7.2.2.2.1))) (some ((.inr ((.inr ((w11.2.1, w11.2.2, s7.2.1, (List.take (((tN (wI (((((ln s7.2.2.2.1) : Nat) : Int)) - 1))) - 0)) s7.2.2.2.1)))))))))
     (some ((.inr ((.inr ((w11.2.1, w11.2.2, s7.2.1, s7.2.2.2.1)))))))))) : Op ((Bool × List Int) ⊕ ((Bool × List Int) ⊕ (Int × Bool × Bool × List Int))))).bind fun s12 =>
  caseS s12 (fun u13 =>
   some (.inr (((u13.1, s7.2.2.1, u13.2, s7.2.2.2.2)))))
   (fun w14 =>
   caseS w14 (fun u15 =>
    (ix s7.1 ((ln s7.2.2.1))).bind fun j16 =>
    (s7.2.2.1[j16]?).bind fun x17 =>
    (rd a0 s7.1).bind fun x18 =>
    cond (decide (x18.1 = 7))
     (gd (fits (ln s7.2.2.2.2 + 1) 8) (cond (decide (x8.1 = 7))
      (gd (fits (ln u15.2 + 1) 8) (some (.inl ((wI (s7.1 + 1), u15.1, (List.set s7.2.2.1 j16 (-1)), (u15.2 ++ [s7.1]), (s7.2.2.2.2 ++ [s7.1]))))))
      (some (.inl ((wI (s7.1 + 1), u15.1, (List.set s7.2.2.1 j16 (-1)), u15.2, (s7.2.2.2.2 ++ [s7.1])))))))
     (cond (decide (x18.1 = 0))
      ((ix (wI (((((ln s7.2.2.2.2) : Nat) : Int)) - 1)) ((ln s7.2.2.2.2))).bind fun j19 =>
      (s7.2.2.2.2[j19]?).bind fun x20 =>
      gd (cutG 0 (wI (((((ln s7.2.2.2.2) : Nat) : Int)) - 1)) ((ln s7.2.2.2.2))) ((ix s7.1 ((ln ((List.set s7.2.2.1 j16 (-1)))))).bind fun j21 =>
      (((List.set s7.2.2.1 j16 (-1)))[j21]?).bind fun x22 =>
      (ix x20 ((ln ((List.set ((List.set s7.2.2.1 j16 (-1))) j21 x20))))).bind fun j23 =>
      (((List.set ((List.set s7.2.2.1 j16 (-1))) j21 x20))[j23]?).bind fun x24 =>
      cond (decide (x8.1 = 7))
       (gd (fits (ln u15.2 + 1) 8) (some (.inl ((wI (s7.1 + 1), u15.1, (List.set ((List.set ((List.set s7.2.2.1 j16 (-1))) j21 x20)) j23 s7.1), (u15.2 ++ [s7.1]), (List.take (((tN (wI (((((ln s7.2.2.2.2) : Nat) : Int)) - 1))) - 0)) s7.2.2.2.2))))))
       (some (.inl ((wI (s7.1 + 1), u15.1, (List.set ((List.set ((List.set s7.2.2.1 j16 (-1))) j21 x20)) j23 s7.1), u15.2, (List.take (((tN (wI (((((ln s7.2.2.2.2) : Nat) : Int)) - 1))) - 0)) s7.2.2.2.2)))))))
      (cond (decide (x8.1 = 7))
       (gd (fits (ln u15.2 + 1) 8) (some (.inl ((wI (s7.1 + 1), u15.1, (List.set s7.2.2.1 j16 (-1)), (u15.2 ++ [s7.1]), s7.2.2.2.2)))))
       (some (.inl ((wI (s7.1 + 1), u15.1, (List.set s7.2.2.1 j16 (-1)), u15.2, s7.2.2.2.2)))))))
    (fun w25 =>
    (ix s7.1 ((ln s7.2.2.1))).bind fun j26 =>
    (s7.2.2.1[j26]?).bind fun x27 =>
    (rd a0 s7.1).bind fun x28 =>
    cond (decide (x28.1 = 7))
     (gd (fits (ln s7.2.2.2.2 + 1) 8) (cond (decide (x8.1 = 7))
      (gd (fits (ln w25.2.2.2 + 1) 8) (some (.inl ((wI (s7.1 + 1), w25.2.2.1, (List.set s7.2.2.1 j26 (-1)), (w25.2.2.2 ++ [s7.1]), (s7.2.2.2.2 ++ [s7.1]))))))
      (some (.inl ((wI (s7.1 + 1), w25.2.2.1, (List.set s7.2.2.1 j26 (-1)), w25.2.2.2, (s7.2.2.2.2 ++ [s7.1])))))))
     (cond (decide (x28.1 = 0))
      ((ix (wI (((((ln s7.2.2.2.2) : Nat) : Int)) - 1)) ((ln s7.2.2.2.2))).bind fun j29 =>
      (s7.2.2.2.2[j29]?).bind fun x30 =>
      gd (cutG 0 (wI (((((ln s7.2.2.2.2) : Nat) : Int)) - 1)) ((ln s7.2.2.2.2))) ((ix s7.1 ((ln ((List.set s7.2.2.1 j26 (-1)))))).bind fun j31 =>
      (((List.set s7.2.2.1 j26 (-1)))[j31]?).bind fun x32 =>
      (ix x30 ((ln ((List.set ((List.set s7.2.2.1 j26 (-1))) j31 x30))))).bind fun j33 =>
      (((List.set ((List.set s7.2.2.1 j26 (-1))) j31 x30))[j33]?).bind fun x34 =>
      cond (decide (x8.1 = 7))
       (gd (fits (ln w25.2.2.2 + 1) 8) (some (.inl ((wI (s7.1 + 1), w25.2.2.1, (List.set ((List.set ((List.set s7.2.2.1 j26 (-1))) j31 x30)) j33 s7.1), (w25.2.2.2 ++ [s7.1]), (List.take (((tN (wI (((((ln s7.2.2.2.2) : Nat) : Int)) - 1))) - 0)) s7.2.2.2.2))))))
       (some (.inl ((wI (s7.1 + 1), w25.2.2.1, (List.set ((List.set ((List.set s7.2.2.1 j26 (-1))) j31 x30)) j33 s7.1), w25.2.2.2, (List.take (((tN (wI (((((ln s7.2.2.2.2) : Nat) : Int)) - 1))) - 0)) s7.2.2.2.2)))))))
      (cond (decide (x8.1 = 7))
       (gd (fits (ln w25.2.2.2 + 1) 8) (some (.inl ((wI (s7.1 + 1), w25.2.2.1, (List.set s7.2.2.1 j26 (-1)), (w25.2.2.2 ++ [s7.1]), s7.2.2.2.2)))))
       (some (.inl ((wI (s7.1 + 1), w25.2.2.1, (List.set s7.2.2.1 j26 (-1)), w25.2.2.2, s7.2.2.2.2)))))))))
  (some (.inr (((s7.2.1, s7.2.2.1, s7.2.2.2.1, s7.2.2.2.2)))))
/- backstitch/nest.Match -/
def D_nest_Match (a0 : LO) : Op (Int × List Int) :=
 gd (Nat.beq 1 (Sh.w (.int .i64)) && decide (0 ≤ ((((ln a0) : Nat) : Int))) && decide (((((ln a0) : Nat) : Int)) ≤ ((((ln a0) : Nat) : Int))) && decide ((8 : Int) * ((((ln a0) : Nat) : Int)) ≤ 140737488355328) && Nat.ble 1 8) ((loopN (D_nest_Match_L0 a0) BIG ((0, true, (List.replicate (tN ((((ln a0) : Nat) : Int))) (0 : Int)), [], []))).bind fun r35 =>
 cond (r35.1)
  (cond (!(decide (((((ln r35.2.2.1) : Nat) : Int)) = 0)))
   (some ((6, [])))
   (some ((0, r35.2.1))))
  (some ((6, []))))
/- backstitch/check.fail -/
def D_check_fail (a0 : Bool) (a1 : Int) : Op (Int) :=
 cond (a0)
  (some a1)
  (some 0)
/- backstitch/opcode.of -/
def D_opcode_of (a0 : Int) : Op (Bool × Bool × Bool × Bool) :=
 (((cond (decide (a0 = 1))
  (some true)
  (cond (decide (a0 = 2))
   (some true)
   (some (decide (a0 = 3))))) : Op (Bool))).bind fun s1 =>
 cond (s1)
  (some ((true, true, true, false)))
  ((((cond (decide (a0 = 4))
   (some true)
   (some (decide (a0 = 6)))) : Op (Bool))).bind fun s2 =>
  cond (s2)
   (some ((true, true, false, false)))
   (cond (decide (a0 = 5))
    (some ((true, false, false, true)))
    (cond (decide (a0 = 7))
     (some ((false, false, false, true)))
     (some ((false, false, false, false))))))
/- backstitch/opcode.known -/
def D_opcode_known (a0 : Int) : Op (Bool) :=
 cond (decide (0 ≤ a0))
  (some (decide (a0 < 8)))
  (some false)
/- backstitch/opcode.register -/
def D_opcode_register (a0 : Int) (a1 : Bool) : Op (Bool) :=
 cond (!a1)
  (some (decide (a0 = 0)))
  (cond (decide (0 ≤ a0))
   (some (decide (a0 ≤ 2147483647)))
   (some false))
/- backstitch/opcode.Right -/
def D_opcode_Right (a0 a1 a2 a3 a4 : Int) : Op (Bool) :=
 (D_opcode_of a0).bind fun r5 =>
 (D_opcode_known a0).bind fun r6 =>
 cond (r6)
  ((D_opcode_register a1 r5.1).bind fun r7 =>
  cond (r7)
   ((D_opcode_register a2 r5.2.1).bind fun r8 =>
   cond (r8)
    ((D_opcode_register a3 r5.2.2.1).bind fun r9 =>
    cond (r9)
     (cond (r5.2.2.2)
      (some true)
      (some (decide (a4 = 0))))
     (some false))
    (some false))
   (some false))
  (some false)
/- (backstitch/check.program).form$1 -/
def D_check_program_form_1 (a0 a1 a2 a3 a4 : Int) : Op (Bool) :=
 (D_opcode_Right a0 a1 a2 a3 a4).bind fun r5 =>
 some !r5
def D_slices_IndexFunc_api_Op_api_Op_L0 (a0 : LO) (s2 : Int) : Op ((Int) ⊕ ((Int) ⊕ (Unit))) :=
 cond (decide (s2 < ((((ln a0) : Nat) : Int))))
  ((rd a0 s2).bind fun x3 =>
  (D_check_program_form_1 x3.1 x3.2.1 x3.2.2.1 x3.2.2.2.1 x3.2.2.2.2).bind fun r4 =>
  cond (r4)
   (some (.inr (((.inl s2)))))
   (some (.inl (wI (s2 + 1)))))
  (some (.inr (((.inr ())))))
/- slices.IndexFunc[[]backstitch/api.Op,backstitch/api.Op] -/
def D_slices_IndexFunc_api_Op_api_Op (a0 : LO) : Op (Int) :=
 (loopN (D_slices_IndexFunc_api_Op_api_Op_L0 a0) BIG 0).bind fun r5 =>
 caseS r5 (fun u6 =>
  some u6)
  (fun w7 =>
  some (-1))
/- slices.ContainsFunc[[]backstitch/api.Op,backstitch/api.Op] -/
def D_slices_ContainsFunc_api_Op_api_Op (a0 : LO) : Op (Bool) :=
 (D_slices_IndexFunc_api_Op_api_Op a0).bind fun r1 =>
 some (decide (0 ≤ r1))
/- (backstitch/check.program).form -/
def D_check_program_form (a0 : Int) (a1 : LO) : Op (Int) :=
 (D_nest_Match a1).bind fun r2 =>
 cond (decide (4096 < ((((ln a1) : Nat) : Int))))
  ((D_check_fail true 6).bind fun r3 =>
  some r3)
  (cond (decide (r2.1 ≠ 0))
   ((D_check_fail true 6).bind fun r4 =>
   some r4)
   ((D_slices_ContainsFunc_api_Op_api_Op a1).bind fun r5 =>
   (D_check_fail r5 6).bind fun r6 =>
   some r6))
def D_slices_Reverse_int_int_L0  (s5 : Int × Int × List Int) : Op ((Int × Int × List Int) ⊕ (List Int)) :=
 cond (decide (s5.1 < s5.2.1))
  ((ix s5.2.1 ((ln s5.2.2))).bind fun j6 =>
  (s5.2.2[j6]?).bind fun x7 =>
  (ix s5.1 ((ln s5.2.2))).bind fun j8 =>
  (s5.2.2[j8]?).bind fun x9 =>
  (ix s5.1 ((ln s5.2.2))).bind fun j10 =>
  (s5.2.2[j10]?).bind fun x11 =>
  (ix s5.2.1 ((ln ((List.set s5.2.2 j10 x7))))).bind fun j12 =>
  (((List.set s5.2.2 j10 x7))[j12]?).bind fun x13 =>
  some (.inl ((wI (s5.1 + 1), wI (s5.2.1 - 1), (List.set ((List.set s5.2.2 j10 x7)) j12 x9)))))
  (some (.inr s5.2.2))
/- slices.Reverse[[]int,int] -/
def D_slices_Reverse_int_int (a0 : List Int) : Op (List Int) :=
 (loopN (D_slices_Reverse_int_int_L0) BIG ((0, wI (((((ln a0) : Nat) : Int)) - 1), a0))).bind fun r14 =>
 some r14
/- backstitch/opcode.Reads -/
def D_opcode_Reads (a0 a1 a2 a3 a4 : Int) : Op (List Int) :=
 (((((((((cond (decide (a0 = 1))
  (some ((.inl ())))
  (cond (decide (a0 = 2))
   (some ((.inl ())))
   (cond (decide (a0 = 3))
    (some ((.inl ())))
    (cond (decide (a0 = 4))
     (some ((.inr ((.inl ())))))
     (cond (decide (a0 = 6))
      (some ((.inr ((.inl ())))))
      (some ((.inr ((.inr ())))))))))) : Op ((Unit) ⊕ ((Unit) ⊕ (Unit))))).bind fun s5 =>
 caseS s5 (fun u6 =>
  some ((.inl [a3])))
  (fun w7 =>
  caseS w7 (fun u8 =>
   some ((.inl [])))
   (fun w9 =>
   some ((.inr ()))))) : Op ((List Int) ⊕ (Unit)))).bind fun s10 =>
 caseS s10 (fun u11 =>
  gd (fits (ln u11 + 1) 8) (some ((u11 ++ [a2]))))
  (fun w12 =>
  some [])) : Op (List Int))).bind fun s13 =>
 (D_slices_Reverse_int_int s13).bind fun r14 =>
 some r14
/- backstitch/opcode.Writes -/
def D_opcode_Writes (a0 a1 a2 a3 a4 : Int) : Op (Int × Bool) :=
 (D_opcode_of a0).bind fun r5 =>
 cond (!r5.1)
  (some ((0, false)))
  (some ((a1, true)))
/- (backstitch/check.program).registers$1$1 -/
def D_check_program_registers_1_1 (a0 a1 : Int) (a2 : LO) : Op (Bool) :=
 some (decide (a1 ≤ a0))
def D_slices_IndexFunc_int_int_L0 (a0 : List Int) (a1 : Int) (a2 : LO) (s4 : Int) : Op ((Int) ⊕ ((Int) ⊕ (Unit))) :=
 cond (decide (s4 < ((((ln a0) : Nat) : Int))))
  ((rd a0 s4).bind fun x5 =>
  (D_check_program_registers_1_1 x5 a1 a2).bind fun r6 =>
  cond (r6)
   (some (.inr (((.inl s4)))))
   (some (.inl (wI (s4 + 1)))))
  (some (.inr (((.inr ())))))
/- slices.IndexFunc[[]int,int] -/
def D_slices_IndexFunc_int_int (a0 : List Int) (a1 : Int) (a2 : LO) : Op (Int) :=
 (loopN (D_slices_IndexFunc_int_int_L0 a0 a1 a2) BIG 0).bind fun r7 =>
 caseS r7 (fun u8 =>
  some u8)
  (fun w9 =>
  some (-1))
/- slices.ContainsFunc[[]int,int] -/
def D_slices_ContainsFunc_int_int (a0 : List Int) (a1 : Int) (a2 : LO) : Op (Bool) :=
 (D_slices_IndexFunc_int_int a0 a1 a2).bind fun r3 =>
 some (decide (0 ≤ r3))
/- (backstitch/check.program).registers$1 -/
def D_check_program_registers_1 (a0 a1 a2 a3 a4 a5 : Int) (a6 : LO) : Op (Bool) :=
 (D_opcode_Reads a0 a1 a2 a3 a4).bind fun r7 =>
 ((((D_opcode_Writes a0 a1 a2 a3 a4).bind fun r8 =>
 cond (r8.2)
  (gd (fits (ln r7 + 1) 8) (some ((r7 ++ [r8.1]))))
  (some r7)) : Op (List Int))).bind fun s9 =>
 (D_slices_ContainsFunc_int_int s9 a5 a6).bind fun r10 =>
 some r10
def D_slices_IndexFunc_api_Op_api_Op_2_L0 (a0 : LO) (a1 : Int) (a2 : LO) (s4 : Int) : Op ((Int) ⊕ ((Int) ⊕ (Unit))) :=
 cond (decide (s4 < ((((ln a0) : Nat) : Int))))
  ((rd a0 s4).bind fun x5 =>
  (D_check_program_registers_1 x5.1 x5.2.1 x5.2.2.1 x5.2.2.2.1 x5.2.2.2.2 a1 a2).bind fun r6 =>
  cond (r6)
   (some (.inr (((.inl s4)))))
   (some (.inl (wI (s4 + 1)))))
  (some (.inr (((.inr ())))))
/- slices.IndexFunc[[]backstitch/api.Op,backstitch/api.Op] -/
def D_slices_IndexFunc_api_Op_api_Op_2 (a0 : LO) (a1 : Int) (a2 : LO) : Op (Int) :=
 (loopN (D_slices_IndexFunc_api_Op_api_Op_2_L0 a0 a1 a2) BIG 0).bind fun r7 =>
 caseS r7 (fun u8 =>
  some u8)
  (fun w9 =>
  some (-1))
/- slices.ContainsFunc[[]backstitch/api.Op,backstitch/api.Op] -/
def D_slices_ContainsFunc_api_Op_api_Op_2 (a0 : LO) (a1 : Int) (a2 : LO) : Op (Bool) :=
 (D_slices_IndexFunc_api_Op_api_Op_2 a0 a1 a2).bind fun r3 =>
 some (decide (0 ≤ r3))
/- (backstitch/check.program).registers -/
def D_check_program_registers (a0 : Int) (a1 : LO) : Op (Int) :=
 cond (decide (a0 < 1))
  ((D_check_fail true 7).bind fun r2 =>
  some r2)
  (cond (decide (64 < a0))
   ((D_check_fail true 7).bind fun r3 =>
   some r3)
   ((D_slices_ContainsFunc_api_Op_api_Op_2 a1 a0 a1).bind fun r4 =>
   (D_check_fail r4 7).bind fun r5 =>
   some r5))
def D_nest_Deep_L0 (a0 : LO) (s6 : Int × Bool × Int × List Int) : Op ((Int × Bool × Int × List Int) ⊕ (Bool × Int × List Int)) :=
 cond (decide (s6.1 < ((((ln a0) : Nat) : Int))))
  ((rd a0 s6.1).bind fun x7 =>
  ((((((cond (decide (x7.1 < 0))
   (some ((.inl true)))
   (cond (decide (7 < x7.1))
    (some ((.inr ((true, x7.1, decide (7 < x7.1))))))
    (cond (decide (x7.1 = 0))
     (some ((.inr ((decide (((((ln s6.2.2.2) : Nat) : Int)) = 0), x7.1, decide (7 < x7.1))))))
     (some ((.inr ((false, x7.1, decide (7 < x7.1))))))))) : Op ((Bool) ⊕ (Bool × Int × Bool)))).bind fun s8 =>
  caseS s8 (fun u9 =>
   cond (u9)
    (some ((.inl ((false, s6.2.2.2)))))
    (cond (decide (x7.1 = 0))
     (gd (cutG 0 (wI (((((ln s6.2.2.2) : Nat) : Int)) - 1)) ((ln s6.2.2.2))) (some ((.inr ((.inl ((s6.2.1, (List.take (((tN (wI (((((ln s6.2.2.2) : Nat) : Int)) - 1))) - 0)) s6.2.2.2)))))))))
     (some ((.inr ((.inl ((s6.2.1, s6.2.2.2)))))))))
   (fun w10 =>
   cond (w10.1)
    (some ((.inl ((false, s6.2.2.2)))))
    (cond (decide (x7.1 = 0))
     (gd (cutG 0 (wI (((((ln s6.2.2.2) : Nat) : Int)) - 1)) ((ln s6.2.2.2))) (some ((.inr ((.inr ((w10.2.1, w10.2.2, s6.2.1, (List.take (((tN (wI (((((ln s6.2.2.2) : Nat) : Int)) - 1))) - 0)) s6.2.2.2)))))))))
     (some ((.inr ((.inr ((w10.2.1, w10.2.2, s6.2.1, s6.2.2.2)))))))))) : Op ((Bool × List Int) ⊕ ((Bool × List Int) ⊕ (Int × Bool × Bool × List Int))))).bind fun s11 =>
  caseS s11 (fun u12 =>
   some (.inr (((u12.1, s6.2.2.1, u12.2)))))
   (fun w13 =>
   caseS w13 (fun u14 =>
    (rd a0 s6.1).bind fun x15 =>
    cond (decide (x15.1 = 7))
     (cond (decide (x7.1 = 7))
      (gd (fits (ln u14.2 + 1) 8) (some (.inl ((wI (s6.1 + 1), u14.1, max s6.2.2.1 (wI (((((ln u14.2) : Nat) : Int)) + 1)), (u14.2 ++ [s6.1]))))))
      (some (.inl ((wI (s6.1 + 1), u14.1, max s6.2.2.1 (wI (((((ln u14.2) : Nat) : Int)) + 1)), u14.2)))))
     (cond (decide (x7.1 = 7))
      (gd (fits (ln u14.2 + 1) 8) (some (.inl ((wI (s6.1 + 1), u14.1, s6.2.2.1, (u14.2 ++ [s6.1]))))))
      (some (.inl ((wI (s6.1 + 1), u14.1, s6.2.2.1, u14.2))))))
    (fun w16 =>
    (rd a0 s6.1).bind fun x17 =>
    cond (decide (x17.1 = 7))
     (cond (decide (x7.1 = 7))
      (gd (fits (ln w16.2.2.2 + 1) 8) (some (.inl ((wI (s6.1 + 1), w16.2.2.1, max s6.2.2.1 (wI (((((ln w16.2.2.2) : Nat) : Int)) + 1)), (w16.2.2.2 ++ [s6.1]))))))
      (some (.inl ((wI (s6.1 + 1), w16.2.2.1, max s6.2.2.1 (wI (((((ln w16.2.2.2) : Nat) : Int)) + 1)), w16.2.2.2)))))
     (cond (decide (x7.1 = 7))
      (gd (fits (ln w16.2.2.2 + 1) 8) (some (.inl ((wI (s6.1 + 1), w16.2.2.1, s6.2.2.1, (w16.2.2.2 ++ [s6.1]))))))
      (some (.inl ((wI (s6.1 + 1), w16.2.2.1, s6.2.2.1, w16.2.2.2))))))))
  (some (.inr (((s6.2.1, s6.2.2.1, s6.2.2.2)))))
/- backstitch/nest.Deep -/
def D_nest_Deep (a0 : LO) : Op (Int × Int) :=
 (loopN (D_nest_Deep_L0 a0) BIG ((0, true, 0, []))).bind fun r18 =>
 cond (r18.1)
  (cond (!(decide (((((ln r18.2.2) : Nat) : Int)) = 0)))
   (some ((0, 6)))
   (some ((r18.2.1, 0))))
  (some ((0, 6)))
/- (backstitch/check.program).depth -/
def D_check_program_depth (a0 : Int) (a1 : LO) : Op (Int) :=
 (D_nest_Deep a1).bind fun r2 =>
 (D_check_fail (decide (8 < r2.1)) 8).bind fun r3 =>
 some r3
/- backstitch/size.block -/
def D_size_block (a0 a1 : Int) : Op (Int × Bool) :=
 cond (decide (a0 = 0))
  (some ((0, true)))
  (cond (decide (65536 < a0))
   (some ((0, false)))
   (gd (decide (a0 ≠ 0)) (cond (decide ((wU (wI (Int.tdiv 65536 a0))) < a1))
    (some ((0, false)))
    (some ((wI (a0 * (wI (a1))), true))))))
def D_size_add_L0 (a0 : List Int) (s3 : Int × Int) : Op ((Int × Int) ⊕ (Int)) :=
 cond (decide (s3.1 < ((((ln a0) : Nat) : Int))))
  ((rd a0 s3.1).bind fun x4 =>
  some (.inl ((wI (s3.1 + 1), wI (s3.2 + x4)))))
  (some (.inr s3.2))
/- backstitch/size.add -/
def D_size_add (a0 : List Int) : Op (Int) :=
 (loopN (D_size_add_L0 a0) BIG ((0, 0))).bind fun r5 =>
 some r5
def D_size_measure_L0 (a0 : LO) (s6 : Int × (List Int) × (List Int) × List (Int × Int)) : Op ((Int × (List Int) × (List Int) × List (Int × Int)) ⊕ (Int × (List Int) × (List Int) × List (Int × Int))) :=
 cond (decide (s6.1 < ((((ln a0) : Nat) : Int))))
  ((rd a0 s6.1).bind fun x7 =>
  (ix (wI (((((ln s6.2.2.2) : Nat) : Int)) - 1)) ((ln s6.2.2.2))).bind fun j8 =>
  cond (decide (x7.1 = 7))
   (gd (fits (ln s6.2.2.2 + 1) 16) (some (.inl ((wI (s6.1 + 1), s6.2.1, s6.2.2.1, (s6.2.2.2 ++ [(s6.1, 0)]))))))
   (cond (decide (x7.1 = 0))
    ((s6.2.2.2[j8]?).bind fun x9 =>
    (s6.2.2.2[j8]?).bind fun x10 =>
    (rd a0 x10.1).bind fun x11 =>
    (D_size_block x9.2 x11.2.2.2.2).bind fun r12 =>
    cond (!r12.2)
     (some (.inr (((9, s6.2.1, s6.2.2.1, s6.2.2.2)))))
     ((s6.2.2.2[j8]?).bind fun x13 =>
     (s6.2.2.2[j8]?).bind fun x14 =>
     (s6.2.2.2[j8]?).bind fun x15 =>
     (ix x13.1 ((ln s6.2.1))).bind fun j16 =>
     (s6.2.1[j16]?).bind fun x17 =>
     (ix x14.1 ((ln s6.2.2.1))).bind fun j18 =>
     (s6.2.2.1[j18]?).bind fun x19 =>
     gd (cutG 0 (wI (((((ln s6.2.2.2) : Nat) : Int)) - 1)) ((ln s6.2.2.2))) ((ix (wI ((((((tN (wI (((((ln s6.2.2.2) : Nat) : Int)) - 1))) - 0) : Nat) : Int)) - 1)) (((tN (wI (((((ln s6.2.2.2) : Nat) : Int)) - 1))) - 0))).bind fun j20 =>
     (s6.2.2.2[(0 + j20)]?).bind fun x21 =>
     (D_size_add ([x21.2, r12.1])).bind fun r22 =>
     (ix (wI ((((((tN (wI (((((ln s6.2.2.2) : Nat) : Int)) - 1))) - 0) : Nat) : Int)) - 1)) (((tN (wI (((((ln s6.2.2.2) : Nat) : Int)) - 1))) - 0))).bind fun j23 =>
     (s6.2.2.2[(0 + j23)]?).bind fun x24 =>
     some (.inl ((wI (s6.1 + 1), (List.set s6.2.1 j16 r12.1), (List.set s6.2.2.1 j18 x15.2), (List.take (((tN (wI (((((ln s6.2.2.2) : Nat) : Int)) - 1))) - 0)) ((List.set s6.2.2.2 (0 + j23) ((x24.1, r22)))))))))))
    ((D_opcode_Writes x7.1 x7.2.1 x7.2.2.1 x7.2.2.2.1 x7.2.2.2.2).bind fun r25 =>
    cond (r25.2)
     ((ix s6.1 ((ln s6.2.1))).bind fun j26 =>
     (s6.2.1[j26]?).bind fun x27 =>
     (s6.2.2.2[j8]?).bind fun x28 =>
     (s6.2.2.2[j8]?).bind fun x29 =>
     some (.inl ((wI (s6.1 + 1), (List.set s6.2.1 j26 1), s6.2.2.1, (List.set s6.2.2.2 j8 ((x29.1, wI (x28.2 + 1))))))))
     (some (.inl ((wI (s6.1 + 1), s6.2.1, s6.2.2.1, s6.2.2.2)))))))
  (some (.inr (((0, s6.2.1, s6.2.2.1, s6.2.2.2)))))
/- backstitch/size.measure -/
def D_size_measure (a0 : LO) : Op (Int × Int × (List Int) × List Int) :=
 (D_nest_Match a0).bind fun r1 =>
 cond (decide (r1.1 ≠ 0))
  (some ((0, r1.1, [], [])))
  (gd (Nat.beq 1 (Sh.w (.int .i64)) && decide (0 ≤ ((((ln a0) : Nat) : Int))) && decide (((((ln a0) : Nat) : Int)) ≤ ((((ln a0) : Nat) : Int))) && decide ((8 : Int) * ((((ln a0) : Nat) : Int)) ≤ 140737488355328) && Nat.ble 1 8) (gd (Nat.beq 1 (Sh.w (.int .i64)) && decide (0 ≤ ((((ln a0) : Nat) : Int))) && decide (((((ln a0) : Nat) : Int)) ≤ ((((ln a0) : Nat) : Int))) && decide ((8 : Int) * ((((ln a0) : Nat) : Int)) ≤ 140737488355328) && Nat.ble 1 8) ((loopN (D_size_measure_L0 a0) BIG ((0, (List.replicate (tN ((((ln a0) : Nat) : Int))) (0 : Int)), (List.replicate (tN ((((ln a0) : Nat) : Int))) (0 : Int)), [(0, 0)]))).bind fun r30 =>
  (((cond (decide (r30.1 = 0))
   ((ix 0 ((ln r30.2.2.2))).bind fun j31 =>
   (r30.2.2.2[j31]?).bind fun x32 =>
   cond (decide (65536 < x32.2))
    (some 9)
    (some r30.1))
   (some r30.1)) : Op (Int))).bind fun s33 =>
  cond (decide (s33 ≠ 0))
   (some ((0, s33, [], [])))
   ((ix 0 ((ln r30.2.2.2))).bind fun j34 =>
   (r30.2.2.2[j34]?).bind fun x35 =>
   some ((x35.2, 0, r30.2.1, r30.2.2.1))))))
/- backstitch/size.Writes -/
def D_size_Writes (a0 : LO) : Op (Int × Int) :=
 (D_size_measure a0).bind fun r1 =>
 some ((r1.1, r1.2.1))
/- (backstitch/check.program).writes -/
def D_check_program_writes (a0 : Int) (a1 : LO) : Op (Int) :=
 (D_size_Writes a1).bind fun r2 =>
 some r2.2
/- backstitch/check.Pair -/
def D_check_Pair (a0 : Int) (a1 : LO) (a2 : Int) (a3 : LO) : Op (Int) :=
 (D_check_program_form a0 a1).bind fun r4 =>
 cond (decide (r4 ≠ 0))
  (some r4)
  ((D_check_program_form a2 a3).bind fun r5 =>
  cond (decide (r5 ≠ 0))
   (some r5)
   ((D_check_program_registers a0 a1).bind fun r6 =>
   cond (decide (r6 ≠ 0))
    (some r6)
    ((D_check_program_registers a2 a3).bind fun r7 =>
    cond (decide (r7 ≠ 0))
     (some r7)
     ((D_check_program_depth a0 a1).bind fun r8 =>
     cond (decide (r8 ≠ 0))
      (some r8)
      ((D_check_program_depth a2 a3).bind fun r9 =>
      cond (decide (r9 ≠ 0))
       (some r9)
       ((D_check_program_writes a0 a1).bind fun r10 =>
       cond (decide (r10 ≠ 0))
        (some r10)
        ((D_check_program_writes a2 a3).bind fun r11 =>
        cond (decide (r11 ≠ 0))
         (some r11)
         (some 0))))))))
/- (backstitch/header.header).programs -/
def D_header_header_programs (a0 : Int) (a1 a2 : List Int) (a3 : Int) (a4 : LO) (a5 : Int) (a6 : LO) (a7 a8 : Int) : Op (Int) :=
 (D_check_Pair a3 a4 a5 a6).bind fun r9 =>
 some r9
/- backstitch/check.Dims -/
def D_check_Dims (a0 : Int) (a1 : LO) (a2 : Int) (a3 : LO) (a4 a5 : Int) : Op (Int) :=
 (((cond (decide (a4 < 1))
  (some true)
  (cond (decide (64 < a4))
   (some true)
   (cond (decide (a5 < 0))
    (some true)
    (some (decide (64 < a5)))))) : Op (Bool))).bind fun s6 =>
 cond (s6)
  ((D_check_fail true 10).bind fun r7 =>
  some r7)
  (cond (decide (a0 < (wI ((wI (a4 + a5)) + 1))))
   ((D_check_fail true 10).bind fun r8 =>
   some r8)
   ((D_check_fail (decide (a2 < (wI (a4 + a5)))) 10).bind fun r9 =>
   some r9))
/- (backstitch/header.header).dims -/
def D_header_header_dims (a0 : Int) (a1 a2 : List Int) (a3 : Int) (a4 : LO) (a5 : Int) (a6 : LO) (a7 a8 : Int) : Op (Int) :=
 (D_check_Dims a3 a4 a5 a6 ((((ln a1) : Nat) : Int)) ((((ln a2) : Nat) : Int))).bind fun r9 =>
 some r9
/- (backstitch/header.header).length -/
def D_header_header_length (a0 : Int) (a1 a2 : List Int) (a3 : Int) (a4 : LO) (a5 : Int) (a6 : LO) (a7 a8 : Int) : Op (Int) :=
 (((cond (decide (a0 = 2))
  (some 0)
  (some 65535)) : Op (Int))).bind fun s9 =>
 cond (decide (a7 < 0))
  ((D_header_fail true 11).bind fun r10 =>
  some r10)
  ((D_header_fail (decide (s9 < a7)) 11).bind fun r11 =>
  some r11)
/- (backstitch/header.header).budget -/
def D_header_header_budget (a0 : Int) (a1 a2 : List Int) (a3 : Int) (a4 : LO) (a5 : Int) (a6 : LO) (a7 a8 : Int) : Op (Int) :=
 cond (decide (a8 < 0))
  ((D_header_fail true 12).bind fun r9 =>
  some r9)
  ((D_header_fail (decide (1048576 < a8)) 12).bind fun r10 =>
  some r10)
def D_header_Check_L0 (a0 : Int) (a1 a2 : List Int) (a3 : Int) (a4 : LO) (a5 : Int) (a6 : LO) (a7 a8 s10 : Int) : Op ((Int) ⊕ ((Int) ⊕ (Unit))) :=
 cond (decide (s10 < 5))
  ((ix s10 5).bind fun j11 =>
  cond (Nat.beq j11 0)
   ((D_header_header_mode a0 a1 a2 a3 a4 a5 a6 a7 a8).bind fun r12 =>
   cond (decide (r12 ≠ 0))
    (some (.inr (((.inl r12)))))
    (some (.inl (wI (s10 + 1)))))
   (cond (Nat.beq ((j11 - 1)) 0)
    ((D_header_header_programs a0 a1 a2 a3 a4 a5 a6 a7 a8).bind fun r13 =>
    cond (decide (r13 ≠ 0))
     (some (.inr (((.inl r13)))))
     (some (.inl (wI (s10 + 1)))))
    (cond (Nat.beq (((j11 - 1) - 1)) 0)
     ((D_header_header_dims a0 a1 a2 a3 a4 a5 a6 a7 a8).bind fun r14 =>
     cond (decide (r14 ≠ 0))
      (some (.inr (((.inl r14)))))
      (some (.inl (wI (s10 + 1)))))
     (cond (Nat.beq ((((j11 - 1) - 1) - 1)) 0)
      ((D_header_header_length a0 a1 a2 a3 a4 a5 a6 a7 a8).bind fun r15 =>
      cond (decide (r15 ≠ 0))
       (some (.inr (((.inl r15)))))
       (some (.inl (wI (s10 + 1)))))
      (cond (Nat.beq (((((j11 - 1) - 1) - 1) - 1)) 0)
       ((D_header_header_budget a0 a1 a2 a3 a4 a5 a6 a7 a8).bind fun r16 =>
       cond (decide (r16 ≠ 0))
        (some (.inr (((.inl r16)))))
        (some (.inl (wI (s10 + 1)))))
       none)))))
  (some (.inr (((.inr ())))))
/- backstitch/header.Check -/
def D_header_Check (a0 : Int) (a1 a2 : List Int) (a3 : Int) (a4 : LO) (a5 : Int) (a6 : LO) (a7 a8 : Int) : Op (Int) :=
 (loopN (D_header_Check_L0 a0 a1 a2 a3 a4 a5 a6 a7 a8) BIG 0).bind fun r17 =>
 caseS r17 (fun u18 =>
  some u18)
  (fun w19 =>
  some 0)
/- backstitch/plan.Of -/
def D_plan_Of (a0 : Int) (a1 a2 : List Int) (a3 : Int) (a4 : LO) (a5 : Int) (a6 : LO) (a7 a8 : Int) : Op (Int × Int) :=
 (D_header_Check a0 a1 a2 a3 a4 a5 a6 a7 a8).bind fun r9 =>
 cond (decide (r9 ≠ 0))
  (some ((0, 0)))
  ((D_size_Writes a4).bind fun r10 =>
  (D_size_Writes a6).bind fun r11 =>
  some ((r10.1, r11.1)))
/- backstitch/plan.sizes -/
def D_plan_sizes (a0 : Int) (a1 a2 : List Int) (a3 : Int) (a4 : LO) (a5 : Int) (a6 : LO) (a7 a8 : Int) : Op (Int × Int × Int × Int × Int × Int × Int × Int × Int) :=
 (D_plan_Of a0 a1 a2 a3 a4 a5 a6 a7 a8).bind fun r9 =>
 (((cond (decide (a0 = 3))
  (some ((r9.2, wI (r9.1 + a3))))
  (some ((wI (r9.1 + r9.2), wI (((((ln a1) : Nat) : Int)) + 1))))) : Op (Int × Int))).bind fun s10 =>
 some (((((ln a2) : Nat) : Int), (((ln a1) : Nat) : Int), a3, a5, max a3 a5, (((ln a1) : Nat) : Int), (((ln a2) : Nat) : Int), s10.1, s10.2))
def D_plan_lay_L0 (a0 a1 a2 a3 a4 a5 a6 a7 a8 : Int) (s13 : Int × Int × List Int) : Op ((Int × Int × List Int) ⊕ (Int × List Int)) :=
 cond (decide (s13.1 < 8))
  ((ix s13.1 9).bind fun j14 =>
  gd (fits (ln s13.2.2 + 1) 8) (some (.inl ((wI (s13.1 + 1), wI (s13.2.1 + ((List.getD [a0, a1, a2, a3, a4, a5, a6, a7, a8] j14 0))), (s13.2.2 ++ [s13.2.1]))))))
  (some (.inr (((s13.2.1, s13.2.2)))))
/- backstitch/plan.lay -/
def D_plan_lay (a0 a1 a2 a3 a4 a5 a6 a7 a8 a9 : Int) : Op (List Int) :=
 (loopN (D_plan_lay_L0 a0 a1 a2 a3 a4 a5 a6 a7 a8) BIG ((0, 0, []))).bind fun r15 =>
 gd (fits (ln r15.2 + 1) 8) (gd (fits (ln ((r15.2 ++ [r15.1])) + 1) 8) (some (((r15.2 ++ [r15.1]) ++ [wI (r15.1 + (wI (a8 * a9)))]))))
/- backstitch/plan.need -/
def D_plan_need (a0 a1 a2 a3 a4 a5 a6 a7 a8 a9 : Int) : Op (Int) :=
 (D_plan_lay a0 a1 a2 a3 a4 a5 a6 a7 a8 a9).bind fun r10 =>
 (ix 9 ((ln r10))).bind fun j11 =>
 (r10[j11]?).bind fun x12 =>
 some x12
def D_plan_Make_L0 (r10_0 : Int) (r10_1 : Int) (r10_2 : Int) (r10_3 : Int) (r10_4 : Int) (r10_5 : Int) (r10_6 : Int) (r10_7 : Int) (r10_8 : Int) (s18 : Int × Int × Int × Int × Int) : Op ((Int × Int × Int × Int × Int) ⊕ (Int × Int × Int × Int)) :=
 cond (decide (s18.1 < 7))
  ((ix s18.1 9).bind fun j19 =>
  some (.inl ((wI (s18.1 + 1), wI (s18.2.1 + ((List.getD [r10_0, r10_1, r10_2, r10_3, r10_4, r10_5, r10_6, r10_7, r10_8] j19 0))), s18.2.2.1, s18.2.2.2.1, s18.2.2.2.2))))
  (some (.inr (((s18.2.1, s18.2.2.1, s18.2.2.2.1, s18.2.2.2.2)))))
/- backstitch/plan.Make -/
def D_plan_Make (a0 : Int) (a1 a2 : List Int) (a3 : Int) (a4 : LO) (a5 : Int) (a6 : LO) (a7 a8 : Int) : Op (Int × Int × Int × Int × Int) :=
 (D_header_Check a0 a1 a2 a3 a4 a5 a6 a7 a8).bind fun r9 =>
 cond (decide (r9 ≠ 0))
  (some ((0, 0, 0, 0, r9)))
  ((D_plan_sizes a0 a1 a2 a3 a4 a5 a6 a7 a8).bind fun ⟨r10_0, r10_1, r10_2, r10_3, r10_4, r10_5, r10_6, r10_7, r10_8⟩ =>
  (((cond (decide (a0 = 3))
   (some a7)
   (some 1)) : Op (Int))).bind fun s11 =>
  (D_plan_need r10_0 r10_1 r10_2 r10_3 r10_4 r10_5 r10_6 r10_7 r10_8 s11).bind fun r12 =>
  cond (decide (a8 < r12))
   (some ((0, 0, 0, 0, 13)))
   ((loopN (D_plan_Make_L0 r10_0 r10_1 r10_2 r10_3 r10_4 r10_5 r10_6 r10_7 r10_8) BIG ((0, 0, r10_7, r10_8, s11))).bind fun r20 =>
   cond (decide (a0 ≠ 3))
    (gd (decide (r20.2.2.1 ≠ 0)) (some ((r20.1, r20.2.1, r20.2.2.1, wI (Int.tdiv (wI ((wI (a8 - r20.1)) - r20.2.1)) r20.2.2.1), 0))))
    (some ((r20.1, r20.2.1, r20.2.2.1, r20.2.2.2, 0)))))
/- slices.Clone[[]backstitch/api.Op,backstitch/api.Op] -/
def D_slices_Clone_api_Op_api_Op (l : LO) : Op (LO) := gd (fits (0 + l.length) 40) (some l)
/- slices.Clone[[]uint64,uint64] -/
def D_slices_Clone_uint64_uint64 (l : List Int) : Op (List Int) := gd (fits (0 + l.length) 8) (some l)
/- backstitch/plan.Places -/
def D_plan_Places (a0 : Int) (a1 a2 : List Int) (a3 : Int) (a4 : LO) (a5 : Int) (a6 : LO) (a7 a8 : Int) : Op (Int × List Int) :=
 (D_plan_Make a0 a1 a2 a3 a4 a5 a6 a7 a8).bind fun r9 =>
 cond (decide (r9.2.2.2.2 ≠ 0))
  (some ((r9.2.2.2.2, [])))
  ((D_plan_sizes a0 a1 a2 a3 a4 a5 a6 a7 a8).bind fun ⟨r10_0, r10_1, r10_2, r10_3, r10_4, r10_5, r10_6, r10_7, r10_8⟩ =>
  (D_plan_lay r10_0 r10_1 r10_2 r10_3 r10_4 r10_5 r10_6 r10_7 r10_8 r9.2.2.2.1).bind fun r11 =>
  some ((0, r11)))
/- backstitch/drive.plans -/
def D_drive_plans (a0 : Int) (a1 a2 : List Int) (a3 : Int) (a4 : LO) (a5 : Int) (a6 : LO) (a7 a8 : Int) : Op ((Int) ⊕ (Int × Int × Int × Int × Int × Int × Int × Int × Int × Int × (List Int) × (List Int) × (LO) × (LO) × List Int)) :=
 (D_plan_Make a0 a1 a2 a3 a4 a5 a6 a7 a8).bind fun r9 =>
 cond (decide (r9.2.2.2.2 ≠ 0))
  (some ((.inl r9.2.2.2.2)))
  ((D_slices_Clone_api_Op_api_Op a4).bind fun r10 =>
  (D_slices_Clone_api_Op_api_Op a6).bind fun r11 =>
  (D_slices_Clone_uint64_uint64 a1).bind fun r12 =>
  (D_slices_Clone_uint64_uint64 a2).bind fun r13 =>
  (D_plan_Places a0 a1 a2 a3 a4 a5 a6 a7 a8).bind fun r14 =>
  some ((.inr ((r9.1, r9.2.1, r9.2.2.1, r9.2.2.2.1, a0, a3, a5, a7, a8, a7, r12, r13, r10, r11, r14.2)))))
/- backstitch/arena.right -/
def D_arena_right (a0 : Int) : Op (Int) :=
 cond (decide (a0 < 1))
  (some 2)
  (cond (decide (1048576 < a0))
   (some 12)
   (some 0))
/- backstitch/arena.New -/
def D_arena_New (a0 : Int) : Op (List Int) :=
 (D_arena_right a0).bind fun r1 =>
 cond (decide (r1 ≠ 0))
  none
  (gd (Nat.beq 1 (Sh.w (.int .u64)) && decide (0 ≤ a0) && decide (a0 ≤ a0) && decide ((8 : Int) * a0 ≤ 140737488355328) && Nat.ble 1 8) (some ((List.replicate (tN a0) (0 : Int)))))
/- backstitch/meter.At -/
def D_meter_At (a0 a1 a2 : Int) : Op ((Unit) ⊕ (Int × Int × Int)) :=
 cond (decide (a1 < 0))
  (some ((.inl ())))
  (cond (decide (a2 < a1))
   (some ((.inl ())))
   (cond (decide (a0 < a2))
    (some ((.inl ())))
    (some ((.inr ((a1, a2, a0)))))))
/- backstitch/meter.New -/
def D_meter_New (a0 : Int) : Op (Int × Int × Int) :=
 (D_meter_At a0 0 0).bind fun r1 =>
 caseS r1 (fun u2 =>
  none)
  (fun w3 =>
  some ((w3.1, w3.2.1, w3.2.2)))
/- (*backstitch/meter.counter).within -/
def D_meter_counter_within (a0 a1 a2 a3 a4 : Int) : Op (Bool) :=
 some (decide (a0 ≤ (wI (a1 - a2))))
/- (*backstitch/meter.counter).add -/
def D_meter_counter_add (a0 a1 a2 a3 : Int) : Op (Int × Int × Int) :=
 some ((wI (a1 + a0), max a2 (wI (a1 + a0)), a3))
/- (*backstitch/meter.Meter).Hold -/
def D_meter_Meter_Hold (a0 a1 a2 a3 : Int) : Op (Int × Int × Int × Int) :=
 cond (decide (a0 < 0))
  (some ((2, a1, a2, a3)))
  ((D_meter_counter_within a0 a3 a1 a2 a3).bind fun r4 =>
  cond (!r4)
   (some ((15, a1, a2, a3)))
   ((D_meter_counter_add a0 a1 a2 a3).bind fun r5 =>
   some ((0, r5.1, r5.2.1, r5.2.2))))
/- (*backstitch/arena.Arena).Left -/
def D_arena_Arena_Left (a0 : Int) (a1 : List Int) : Op (Int) :=
 some (wI (((((ln a1) : Nat) : Int)) - a0))
/- (*backstitch/arena.Arena).Take -/
def D_arena_Arena_Take (a0 a1 : Int) (a2 : List Int) : Op (Int × Int × Int) :=
 cond (decide (a0 < 0))
  (some ((0, 2, a1)))
  ((D_arena_Arena_Left a1 a2).bind fun r3 =>
  cond (decide (r3 < a0))
   (some ((0, 15, a1)))
   (some ((a1, 0, wI (a1 + a0)))))
/- (*backstitch/drive.Driver).baseline -/
def D_drive_Driver_baseline (a0 a1 a2 a3 a4 a5 a6 a7 a8 a9 a10 a11 a12 a13 a14 a15 a16 : Int) (a17 a18 : List Int) (a19 a20 : LO) (a21 : List Int) (a22 a23 a24 a25 : Int) (a26 : List Int) : Op (Bool) :=
 some (decide (a4 = 3))
/- (backstitch/slots.place).may -/
def D_slots_place_may (a0 a1 a2 : Int) : Op (Bool) :=
 cond (decide (0 ≤ a1))
  (cond (decide (a1 ≤ 1048576))
   (cond (decide (1 ≤ a2))
    (some (decide (a2 ≤ 64)))
    (some false))
   (some false))
  (some false)
/- (backstitch/slots.place).size -/
def D_slots_place_size (a0 a1 a2 : Int) : Op (Int) :=
 some (wI (a2 + 1))
/- (*backstitch/arena.Arena).Write -/
def D_arena_Arena_Write (a0 : Int) (a1 : List Int) (a2 : Int) (a3 : List Int) : Op (Int × List Int) :=
 cond (decide (a0 < 0))
  (some ((2, a3)))
  (cond (decide (((((ln a1) : Nat) : Int)) < 0))
   (some ((2, a3)))
   (cond (decide (a2 < a0))
    (some ((2, a3)))
    (cond (decide ((wI (a2 - a0)) < ((((ln a1) : Nat) : Int))))
     (some ((2, a3)))
     (gd (cutG a0 (wI (a0 + ((((ln a1) : Nat) : Int)))) ((ln a3))) (some ((0, (blit a3 ((tN a0)) (((tN (wI (a0 + ((((ln a1) : Nat) : Int))))) - (tN a0))) a1))))))))
/- backstitch/slots.New -/
def D_slots_New (a0 a1 a2 : Int) (a3 : List Int) : Op (Int × (List Int) × Int × Int × Int) :=
 (D_slots_place_may 0 a0 a1).bind fun r4 =>
 cond (!r4)
  none
  ((D_slots_place_size 0 a0 a1).bind fun r5 =>
  (D_arena_Arena_Take (wI (a0 * r5)) a2 a3).bind fun r6 =>
  cond (decide (r6.2.1 ≠ 0))
   none
   ((D_slots_place_size r6.1 a0 a1).bind fun r7 =>
   gd (Nat.beq 1 (Sh.w (.int .u64)) && decide (0 ≤ (wI (a0 * r7))) && decide ((wI (a0 * r7)) ≤ (wI (a0 * r7))) && decide ((8 : Int) * (wI (a0 * r7)) ≤ 140737488355328) && Nat.ble 1 8) ((D_arena_Arena_Write r6.1 ((List.replicate (tN (wI (a0 * r7))) (0 : Int))) r6.2.2 a3).bind fun r8 =>
   some ((r6.2.2, r8.2, r6.1, a0, a1)))))
/- (*backstitch/drive.Driver).put -/
def D_drive_Driver_put (a0 : Int) (a1 : List Int) (a2 a3 a4 a5 a6 a7 a8 a9 a10 a11 a12 a13 a14 a15 a16 a17 a18 : Int) (a19 a20 : List Int) (a21 a22 : LO) (a23 : List Int) (a24 a25 a26 a27 : Int) (a28 : List Int) : Op (List Int) :=
 (ix a0 ((ln a23))).bind fun j29 =>
 (a23[j29]?).bind fun x30 =>
 (D_arena_Arena_Write x30 a1 a24 a28).bind fun r31 =>
 some r31.2
/- (*backstitch/drive.Driver).put -/
def D_drive_Driver_put_2 (a0 : Int) (a1 : List Int) (a2 a3 a4 a5 a6 a7 a8 a9 a10 a11 a12 a13 a14 a15 a16 a17 a18 : Int) (a19 a20 : List Int) (a21 a22 : LO) (a23 : List Int) (a24 a25 a26 a27 a28 a29 a30 : Int) (a31 : List Int) : Op (List Int) :=
 (ix a0 ((ln a23))).bind fun j32 =>
 (a23[j32]?).bind fun x33 =>
 (D_arena_Arena_Write x33 a1 a24 a31).bind fun r34 =>
 some r34.2
/- backstitch/drive.New -/
def D_drive_New (a0 : Int) (a1 a2 : List Int) (a3 : Int) (a4 : LO) (a5 : Int) (a6 : LO) (a7 a8 : Int) : Op ((Int) ⊕ ((Int × Int × Int × Int × Int × Int × Int × Int × Int × Int × (List Int) × (List Int) × (LO) × (LO) × (List Int) × Int × Int × Int × Int × List Int) ⊕ (Int × Int × Int × Int × Int × Int × Int × Int × Int × Int × (List Int) × (List Int) × (LO) × (LO) × (List Int) × Int × Int × Int × Int × Int × Int × Int × List Int))) :=
 (D_drive_plans a0 a1 a2 a3 a4 a5 a6 a7 a8).bind fun r9 =>
 caseS r9 (fun u10 =>
  cond (decide (u10 ≠ 0))
   (some ((.inl u10)))
   ((D_arena_New a8).bind fun r11 =>
   none))
  (fun ⟨w12_0, w12_1, w12_2, w12_3, w12_4, w12_5, w12_6, w12_7, w12_8, w12_9, w12_10, w12_11, w12_12, w12_13, w12_14⟩ =>
  (D_arena_New a8).bind fun r13 =>
  (D_meter_New a8).bind fun r14 =>
  (D_meter_Meter_Hold w12_0 r14.1 r14.2.1 r14.2.2).bind fun r15 =>
  (ix 8 ((ln w12_14))).bind fun j16 =>
  (w12_14[j16]?).bind fun x17 =>
  (D_arena_Arena_Take x17 0 r13).bind fun r18 =>
  ((((D_drive_Driver_baseline w12_0 w12_1 w12_2 w12_3 w12_4 w12_5 w12_6 w12_7 w12_8 w12_9 0 (-1) 0 0 0 0 0 w12_10 w12_11 w12_12 w12_13 w12_14 r18.2.2 r15.2.1 r15.2.2.1 r15.2.2.2 r13).bind fun r19 =>
  cond (r19)
   ((D_arena_Arena_Take (wI (w12_3 * w12_2)) r18.2.2 r13).bind fun r20 =>
   some ((.inl ((w12_0, w12_1, w12_2, w12_3, w12_4, w12_5, w12_6, w12_7, w12_8, w12_9, r20.2.2, r13)))))
   ((D_slots_New w12_3 ((((ln a1) : Nat) : Int)) r18.2.2 r13).bind fun r21 =>
   some ((.inr ((w12_0, w12_1, w12_2, w12_3, w12_4, w12_5, w12_6, w12_7, w12_8, w12_9, r21.1, r21.2.1, r21.2.2.1, r21.2.2.2.1, r21.2.2.2.2)))))) : Op ((Int × Int × Int × Int × Int × Int × Int × Int × Int × Int × Int × List Int) ⊕ (Int × Int × Int × Int × Int × Int × Int × Int × Int × Int × Int × (List Int) × Int × Int × Int)))).bind fun s22 =>
  caseS s22 (fun ⟨u23_0, u23_1, u23_2, u23_3, u23_4, u23_5, u23_6, u23_7, u23_8, u23_9, u23_10, u23_11⟩ =>
   (D_drive_Driver_put 0 a2 u23_0 u23_1 u23_2 u23_3 u23_4 u23_5 u23_6 u23_7 u23_8 u23_9 0 (-1) 0 0 0 0 0 w12_10 w12_11 w12_12 w12_13 w12_14 u23_10 r15.2.1 r15.2.2.1 r15.2.2.2 u23_11).bind fun r24 =>
   (D_drive_Driver_put 1 a1 u23_0 u23_1 u23_2 u23_3 u23_4 u23_5 u23_6 u23_7 u23_8 u23_9 0 (-1) 0 0 0 0 0 w12_10 w12_11 w12_12 w12_13 w12_14 u23_10 r15.2.1 r15.2.2.1 r15.2.2.2 r24).bind fun r25 =>
   some ((.inr ((.inl ((u23_0, u23_1, u23_2, u23_3, u23_4, u23_5, u23_6, u23_7, u23_8, u23_9, w12_10, w12_11, w12_12, w12_13, w12_14, u23_10, r15.2.1, r15.2.2.1, r15.2.2.2, r25)))))))
   (fun ⟨w26_0, w26_1, w26_2, w26_3, w26_4, w26_5, w26_6, w26_7, w26_8, w26_9, w26_10, w26_11, w26_12, w26_13, w26_14⟩ =>
   (D_drive_Driver_put_2 0 a2 w26_0 w26_1 w26_2 w26_3 w26_4 w26_5 w26_6 w26_7 w26_8 w26_9 0 (-1) 0 0 0 0 0 w12_10 w12_11 w12_12 w12_13 w12_14 w26_10 w26_12 w26_13 w26_14 r15.2.1 r15.2.2.1 r15.2.2.2 w26_11).bind fun r27 =>
   (D_drive_Driver_put_2 1 a1 w26_0 w26_1 w26_2 w26_3 w26_4 w26_5 w26_6 w26_7 w26_8 w26_9 0 (-1) 0 0 0 0 0 w12_10 w12_11 w12_12 w12_13 w12_14 w26_10 w26_12 w26_13 w26_14 r15.2.1 r15.2.2.1 r15.2.2.2 r27).bind fun r28 =>
   some ((.inr ((.inr ((w26_0, w26_1, w26_2, w26_3, w26_4, w26_5, w26_6, w26_7, w26_8, w26_9, w12_10, w12_11, w12_12, w12_13, w12_14, w26_10, w26_12, w26_13, w26_14, r15.2.1, r15.2.2.1, r15.2.2.2, r28))))))))
/- backstitch/engine.of -/
def D_engine_of (a0 : Int) (a1 a2 : List Int) (a3 : Int) (a4 : LO) (a5 : Int) (a6 : LO) (a7 a8 : Int) : Op ((Int × Bool × Bool) ⊕ ((Int × Bool × Bool) ⊕ ((Int × Bool × Bool) ⊕ (Int × Bool × Bool)))) :=
 (ix a0 4).bind fun j9 =>
 cond (Nat.beq j9 0)
  (some ((.inl ((a0, false, false)))))
  (cond (Nat.beq ((j9 - 1)) 0)
   (some ((.inr ((.inl ((a0, false, false)))))))
   (cond (Nat.beq (((j9 - 1) - 1)) 0)
    (some ((.inr ((.inr ((.inl ((a0, false, false)))))))))
    (cond (Nat.beq ((((j9 - 1) - 1) - 1)) 0)
     (some ((.inr ((.inr ((.inr ((a0, false, false)))))))))
     none)))
/- backstitch/engine.of -/
def D_engine_of_2 (a0 : Int) (a1 a2 : List Int) (a3 : Int) (a4 : LO) (a5 : Int) (a6 : LO) (a7 a8 a9 a10 a11 a12 a13 a14 a15 a16 a17 a18 a19 a20 a21 a22 a23 a24 a25 : Int) (a26 a27 : List Int) (a28 a29 : LO) (a30 : List Int) (a31 a32 a33 a34 : Int) (a35 : List Int) : Op ((Int × Bool × Bool) ⊕ ((Int × Bool × Bool) ⊕ ((Int × Bool × Bool) ⊕ (Int × Bool × Bool)))) :=
 (ix a0 4).bind fun j36 =>
 cond (Nat.beq j36 0)
  (some ((.inl ((a0, false, false)))))
  (cond (Nat.beq ((j36 - 1)) 0)
   (some ((.inr ((.inl ((a0, false, false)))))))
   (cond (Nat.beq (((j36 - 1) - 1)) 0)
    (some ((.inr ((.inr ((.inl ((a0, false, false)))))))))
    (cond (Nat.beq ((((j36 - 1) - 1) - 1)) 0)
     (some ((.inr ((.inr ((.inr ((a0, false, false)))))))))
     none)))
/- backstitch/engine.of -/
def D_engine_of_3 (a0 : Int) (a1 a2 : List Int) (a3 : Int) (a4 : LO) (a5 : Int) (a6 : LO) (a7 a8 a9 a10 a11 a12 a13 a14 a15 a16 a17 a18 a19 a20 a21 a22 a23 a24 a25 : Int) (a26 a27 : List Int) (a28 a29 : LO) (a30 : List Int) (a31 a32 a33 a34 a35 a36 a37 : Int) (a38 : List Int) : Op ((Int × Bool × Bool) ⊕ ((Int × Bool × Bool) ⊕ ((Int × Bool × Bool) ⊕ (Int × Bool × Bool)))) :=
 (ix a0 4).bind fun j39 =>
 cond (Nat.beq j39 0)
  (some ((.inl ((a0, false, false)))))
  (cond (Nat.beq ((j39 - 1)) 0)
   (some ((.inr ((.inl ((a0, false, false)))))))
   (cond (Nat.beq (((j39 - 1) - 1)) 0)
    (some ((.inr ((.inr ((.inl ((a0, false, false)))))))))
    (cond (Nat.beq ((((j39 - 1) - 1) - 1)) 0)
     (some ((.inr ((.inr ((.inr ((a0, false, false)))))))))
     none)))
/- backstitch/engine.New -/
def D_engine_New (a0 : Int) (a1 a2 : List Int) (a3 : Int) (a4 : LO) (a5 : Int) (a6 : LO) (a7 a8 : Int) : Op ((Int) ⊕ ((Int × Bool × Bool) ⊕ ((Int × Bool × Bool) ⊕ ((Int × Bool × Bool) ⊕ ((Int × Bool × Bool) ⊕ ((Int × Bool × Bool × Int × Int × Int × Int × Int × Int × Int × Int × Int × Int × (List Int) × (List Int) × (LO) × (LO) × (List Int) × Int × Int × Int × Int × List Int) ⊕ ((Int × Bool × Bool × Int × Int × Int × Int × Int × Int × Int × Int × Int × Int × (List Int) × (List Int) × (LO) × (LO) × (List Int) × Int × Int × Int × Int × List Int) ⊕ ((Int × Bool × Bool × Int × Int × Int × Int × Int × Int × Int × Int × Int × Int × (List Int) × (List Int) × (LO) × (LO) × (List Int) × Int × Int × Int × Int × List Int) ⊕ ((Int × Bool × Bool × Int × Int × Int × Int × Int × Int × Int × Int × Int × Int × (List Int) × (List Int) × (LO) × (LO) × (List Int) × Int × Int × Int × Int × List Int) ⊕ ((Int × Bool × Bool × Int × Int × Int × Int × Int × Int × Int × Int × Int × Int × (List Int) × (List Int) × (LO) × (LO) × (List Int) × Int × Int × Int × Int × Int × Int × Int × List Int) ⊕ ((Int × Bool × Bool × Int × Int × Int × Int × Int × Int × Int × Int × Int × Int × (List Int) × (List Int) × (LO) × (LO) × (List Int) × Int × Int × Int × Int × Int × Int × Int × List Int) ⊕ ((Int × Bool × Bool × Int × Int × Int × Int × Int × Int × Int × Int × Int × Int × (List Int) × (List Int) × (LO) × (LO) × (List Int) × Int × Int × Int × Int × Int × Int × Int × List Int) ⊕ (Int × Bool × Bool × Int × Int × Int × Int × Int × Int × Int × Int × Int × Int × (List Int) × (List Int) × (LO) × (LO) × (List Int) × Int × Int × Int × Int × Int × Int × Int × List Int))))))))))))) :=
 (D_drive_New a0 a1 a2 a3 a4 a5 a6 a7 a8).bind fun r9 =>
 caseS r9 (fun u10 =>
  cond (decide (u10 ≠ 0))
   (some ((.inl u10)))
   ((D_engine_of a0 a1 a2 a3 a4 a5 a6 a7 a8).bind fun r11 =>
   caseS r11 (fun u12 =>
    some ((.inr ((.inl ((u12.1, u12.2.1, u12.2.2)))))))
    (fun w13 =>
    caseS w13 (fun u14 =>
     some ((.inr ((.inr ((.inl ((u14.1, u14.2.1, u14.2.2)))))))))
     (fun w15 =>
     caseS w15 (fun u16 =>
      some ((.inr ((.inr ((.inr ((.inl ((u16.1, u16.2.1, u16.2.2)))))))))))
      (fun w17 =>
      some ((.inr ((.inr ((.inr ((.inr ((.inl ((w17.1, w17.2.1, w17.2.2)))))))))))))))))
  (fun w18 =>
  caseS w18 (fun ⟨u19_0, u19_1, u19_2, u19_3, u19_4, u19_5, u19_6, u19_7, u19_8, u19_9, u19_10, u19_11, u19_12, u19_13, u19_14, u19_15, u19_16, u19_17, u19_18, u19_19⟩ =>
   (D_engine_of_2 a0 a1 a2 a3 a4 a5 a6 a7 a8 u19_0 u19_1 u19_2 u19_3 u19_4 u19_5 u19_6 u19_7 u19_8 u19_9 0 (-1) 0 0 0 0 0 u19_10 u19_11 u19_12 u19_13 u19_14 u19_15 u19_16 u19_17 u19_18 u19_19).bind fun r20 =>
   caseS r20 (fun u21 =>
    some ((.inr ((.inr ((.inr ((.inr ((.inr ((.inl ((u21.1, u21.2.1, u21.2.2, u19_0, u19_1, u19_2, u19_3, u19_4, u19_5, u19_6, u19_7, u19_8, u19_9, u19_10, u19_11, u19_12, u19_13, u19_14, u19_15, u19_16, u19_17, u19_18, u19_19)))))))))))))))
    (fun w22 =>
    caseS w22 (fun u23 =>
     some ((.inr ((.inr ((.inr ((.inr ((.inr ((.inr ((.inl ((u23.1, u23.2.1, u23.2.2, u19_0, u19_1, u19_2, u19_3, u19_4, u19_5, u19_6, u19_7, u19_8, u19_9, u19_10, u19_11, u19_12, u19_13, u19_14, u19_15, u19_16, u19_17, u19_18, u19_19)))))))))))))))))
     (fun w24 =>
     caseS w24 (fun u25 =>
      some ((.inr ((.inr ((.inr ((.inr ((.inr ((.inr ((.inr ((.inl ((u25.1, u25.2.1, u25.2.2, u19_0, u19_1, u19_2, u19_3, u19_4, u19_5, u19_6, u19_7, u19_8, u19_9, u19_10, u19_11, u19_12, u19_13, u19_14, u19_15, u19_16, u19_17, u19_18, u19_19)))))))))))))))))))
      (fun w26 =>
      some ((.inr ((.inr ((.inr ((.inr ((.inr ((.inr ((.inr ((.inr ((.inl ((w26.1, w26.2.1, w26.2.2, u19_0, u19_1, u19_2, u19_3, u19_4, u19_5, u19_6, u19_7, u19_8, u19_9, u19_10, u19_11, u19_12, u19_13, u19_14, u19_15, u19_16, u19_17, u19_18, u19_19))))))))))))))))))))))))
   (fun ⟨w27_0, w27_1, w27_2, w27_3, w27_4, w27_5, w27_6, w27_7, w27_8, w27_9, w27_10, w27_11, w27_12, w27_13, w27_14, w27_15, w27_16, w27_17, w27_18, w27_19, w27_20, w27_21, w27_22⟩ =>
   (D_engine_of_3 a0 a1 a2 a3 a4 a5 a6 a7 a8 w27_0 w27_1 w27_2 w27_3 w27_4 w27_5 w27_6 w27_7 w27_8 w27_9 0 (-1) 0 0 0 0 0 w27_10 w27_11 w27_12 w27_13 w27_14 w27_15 w27_16 w27_17 w27_18 w27_19 w27_20 w27_21 w27_22).bind fun r28 =>
   caseS r28 (fun u29 =>
    some ((.inr ((.inr ((.inr ((.inr ((.inr ((.inr ((.inr ((.inr ((.inr ((.inl ((u29.1, u29.2.1, u29.2.2, w27_0, w27_1, w27_2, w27_3, w27_4, w27_5, w27_6, w27_7, w27_8, w27_9, w27_10, w27_11, w27_12, w27_13, w27_14, w27_15, w27_16, w27_17, w27_18, w27_19, w27_20, w27_21, w27_22)))))))))))))))))))))))
    (fun w30 =>
    caseS w30 (fun u31 =>
     some ((.inr ((.inr ((.inr ((.inr ((.inr ((.inr ((.inr ((.inr ((.inr ((.inr ((.inl ((u31.1, u31.2.1, u31.2.2, w27_0, w27_1, w27_2, w27_3, w27_4, w27_5, w27_6, w27_7, w27_8, w27_9, w27_10, w27_11, w27_12, w27_13, w27_14, w27_15, w27_16, w27_17, w27_18, w27_19, w27_20, w27_21, w27_22)))))))))))))))))))))))))
     (fun w32 =>
     caseS w32 (fun u33 =>
      some ((.inr ((.inr ((.inr ((.inr ((.inr ((.inr ((.inr ((.inr ((.inr ((.inr ((.inr ((.inl ((u33.1, u33.2.1, u33.2.2, w27_0, w27_1, w27_2, w27_3, w27_4, w27_5, w27_6, w27_7, w27_8, w27_9, w27_10, w27_11, w27_12, w27_13, w27_14, w27_15, w27_16, w27_17, w27_18, w27_19, w27_20, w27_21, w27_22)))))))))))))))))))))))))))
      (fun w34 =>
      some ((.inr ((.inr ((.inr ((.inr ((.inr ((.inr ((.inr ((.inr ((.inr ((.inr ((.inr ((.inr ((w34.1, w34.2.1, w34.2.2, w27_0, w27_1, w27_2, w27_3, w27_4, w27_5, w27_6, w27_7, w27_8, w27_9, w27_10, w27_11, w27_12, w27_13, w27_14, w27_15, w27_16, w27_17, w27_18, w27_19, w27_20, w27_21, w27_22)))))))))))))))))))))))))))))))
/- (*backstitch/engine.Engine).Step -/
def D_engine_Engine_Step_2 (a0 : Int) (a1 a2 : Bool) : Op (Bool) :=
 cond (a2)
  (some false)
  none
def D_engine_Engine_Run_2_L0 (a0 : Int) (a1 a2 : Bool) (s3 : Unit) : Op ((Unit) ⊕ (Unit)) :=
 (D_engine_Engine_Step_2 a0 a1 a2).bind fun r4 =>
 some (.inr ())
/- (*backstitch/engine.Engine).Run -/
def D_engine_Engine_Run_2 (a0 : Int) (a1 a2 : Bool) : Op (Unit) :=
 (loopN (D_engine_Engine_Run_2_L0 a0 a1 a2) BIG ()).bind fun r5 =>
 some ()
/- (*backstitch/engine.Engine).own -/
def D_engine_Engine_own_2 (a0 : Int) (a1 a2 : Bool) : Op (Unit) :=
 some ()
/- (*backstitch/engine.Engine).Result -/
def D_engine_Engine_Result_2 (a0 : Int) (a1 a2 : Bool) : Op (Unit) :=
 (D_engine_Engine_own_2 a0 a1 a2).bind fun r3 =>
 (D_drive_Driver_Result).bind fun r4 =>
 some ()
/- (*backstitch/engine.Engine).own -/
def D_engine_Engine_own_3 (a0 : Int) (a1 a2 : Bool) : Op (Unit) :=
 some ()
/- (*backstitch/engine.Engine).Len -/
def D_engine_Engine_Len_2 (a0 : Int) (a1 a2 : Bool) : Op (Unit) :=
 (D_engine_Engine_own_3 a0 a1 a2).bind fun r3 =>
 (D_drive_Driver_Len).bind fun r4 =>
 some ()
/- (*backstitch/engine.Engine).Spot -/
def D_engine_Engine_Spot_2 (a0 : Int) (a1 a2 : Bool) : Op (Unit) :=
 (D_engine_Engine_own_3 a0 a1 a2).bind fun r3 =>
 (D_drive_Driver_Spot).bind fun r4 =>
 some ()
/- backstitch/machine.long -/
def D_machine_long (a0 : Int) : Op (Bool) :=
 cond (decide (0 ≤ a0))
  (some (decide (a0 < 65536)))
  (some false)
/- backstitch/machine.At$1 -/
def D_machine_At_1 (a0 a1 : Int) : Op (Bool) :=
 cond (decide (a0 < (-1)))
  (some true)
  (some (decide (a1 < a0)))
def D_slices_IndexFunc_int_int_2_L0 (a0 : List Int) (a1 s3 : Int) : Op ((Int) ⊕ ((Int) ⊕ (Unit))) :=
 cond (decide (s3 < ((((ln a0) : Nat) : Int))))
  ((rd a0 s3).bind fun x4 =>
  (D_machine_At_1 x4 a1).bind fun r5 =>
  cond (r5)
   (some (.inr (((.inl s3)))))
   (some (.inl (wI (s3 + 1)))))
  (some (.inr (((.inr ())))))
/- slices.IndexFunc[[]int,int] -/
def D_slices_IndexFunc_int_int_2 (a0 : List Int) (a1 : Int) : Op (Int) :=
 (loopN (D_slices_IndexFunc_int_int_2_L0 a0 a1) BIG 0).bind fun r6 =>
 caseS r6 (fun u7 =>
  some u7)
  (fun w8 =>
  some (-1))
/- slices.ContainsFunc[[]int,int] -/
def D_slices_ContainsFunc_int_int_2 (a0 : List Int) (a1 : Int) : Op (Bool) :=
 (D_slices_IndexFunc_int_int_2 a0 a1).bind fun r2 =>
 some (decide (0 ≤ r2))
/- slices.Clone[[]int,int] -/
def D_slices_Clone_int_int (l : List Int) : Op (List Int) := gd (fits (0 + l.length) 8) (some l)
/- backstitch/machine.At -/
def D_machine_At (a0 a1 a2 : Int) (a3 : List Int) : Op ((Unit) ⊕ (Int × Int × Int × List Int)) :=
 (D_machine_long a0).bind fun r4 =>
 cond (!r4)
  (some ((.inl ())))
  (cond (decide (1048576 < ((((ln a3) : Nat) : Int))))
   (some ((.inl ())))
   (cond (decide (a1 = (-1)))
    (some ((.inl ())))
    ((D_machine_At_1 a1 a0).bind fun r5 =>
    cond (r5)
     (some ((.inl ())))
     ((D_machine_At_1 a2 a0).bind fun r6 =>
     cond (r6)
      (some ((.inl ())))
      ((D_slices_ContainsFunc_int_int_2 a3 a0).bind fun r7 =>
      cond (r7)
       (some ((.inl ())))
       ((D_slices_Clone_int_int a3).bind fun r8 =>
       some ((.inr ((a1, a2, a0, r8))))))))))
/- backstitch/revolve.May -/
def D_revolve_May (a0 a1 a2 : Int) (a3 : List Int) : Op (Bool) :=
 (D_machine_At a0 a1 a2 a3).bind fun r4 =>
 caseS r4 (fun u5 =>
  some false)
  (fun w6 =>
  some (decide (0 < ((((ln a3) : Nat) : Int)))))
/- backstitch/revolve.nothing -/
def D_revolve_nothing  : Op (Bool) :=
 some false
def D_revolve_look_L0 (s4 : Int × Int × (List Int) × Int × Int × (List Int) × Int) : (Int × Int × Int × (List Int) × Int × Int × (List Int) × Int × Int × Int × Int × Int) → Op ((Int × Int × Int × (List Int) × Int × Int × (List Int) × Int × Int × Int × Int × Int) ⊕ (Int × Int × (List Int) × Int × Int × (List Int) × Int × Int × Int × Int × Int)) := fun ⟨s28_0, s28_1, s28_2, s28_3, s28_4, s28_5, s28_6, s28_7, s28_8, s28_9, s28_10, s28_11⟩ =>
 cond (decide (s28_0 < ((((ln s4.2.2.1) : Nat) : Int))))
  ((rd s4.2.2.1 s28_0).bind fun x29 =>
  cond (decide (s28_8 < x29))
   (some (.inl ((wI (s28_0 + 1), s28_1, s28_2, s28_3, s28_4, s28_5, s28_6, s28_7, x29, s28_0, s28_10, s28_11))))
   (cond (decide (x29 < 0))
    (cond (decide (s28_11 < 0))
     (some (.inl ((wI (s28_0 + 1), s28_1, s28_2, s28_3, s28_4, s28_5, s28_6, s28_7, s28_8, s28_9, wI (s28_10 + 1), s28_0))))
     (some (.inl ((wI (s28_0 + 1), s28_1, s28_2, s28_3, s28_4, s28_5, s28_6, s28_7, s28_8, s28_9, wI (s28_10 + 1), s28_11)))))
    (some (.inl ((wI (s28_0 + 1), s28_1, s28_2, s28_3, s28_4, s28_5, s28_6, s28_7, s28_8, s28_9, s28_10, s28_11))))))
  (some (.inr (((s28_1, s28_2, s28_3, s28_4, s28_5, s28_6, s28_7, s28_8, s28_9, s28_10, s28_11)))))
/- backstitch/revolve.look -/
def D_revolve_look (a0 a1 a2 : Int) (a3 : List Int) : Op (Int × Int × (List Int) × Int × Int × Int × Int × Int) :=
 (((cond (decide (a2 < 0))
  (some ((a1, a2, a3, a1, a2, a3, a0)))
  (some ((a1, a2, a3, a1, a2, a3, a2)))) : Op (Int × Int × (List Int) × Int × Int × (List Int) × Int))).bind fun s4 =>
 (loopN (D_revolve_look_L0 s4) BIG ((0, s4.1, s4.2.1, s4.2.2.1, s4.2.2.2.1, s4.2.2.2.2.1, s4.2.2.2.2.2.1, s4.2.2.2.2.2.2, (-1), 0, 0, (-1)))).bind fun ⟨r30_0, r30_1, r30_2, r30_3, r30_4, r30_5, r30_6, r30_7, r30_8, r30_9, r30_10⟩ =>
 some ((r30_3, r30_4, r30_5, r30_6, r30_7, r30_8, r30_9, r30_10))
/- backstitch/revolve.act -/
def D_revolve_act (a0 a1 : Int) : Op (Int × Int) :=
 some ((a0, a1))
/- (backstitch/revolve.view).seeded -/
def D_revolve_view_seeded (a0 a1 : Int) (a2 : List Int) (a3 a4 a5 a6 a7 : Int) : Op (Bool) :=
 some (decide (0 ≤ a1))
/- (backstitch/revolve.view).rules$1 -/
def D_revolve_view_rules_1 (a0 a1 : Int) (a2 : List Int) (a3 a4 a5 a6 a7 : Int) : Op (Bool) :=
 (D_revolve_view_seeded a0 a1 a2 a3 a4 a5 a6 a7).bind fun r8 =>
 cond (r8)
  (some (decide (a3 ≤ a4)))
  (some false)
/- backstitch/revolve.act$1 -/
def D_revolve_act_1 (a0 a1 : Int) : Op (Int × Int × Bool) :=
 some ((a0, a1, true))
/- (backstitch/revolve.view).rules$2 -/
def D_revolve_view_rules_2 (a0 a1 : Int) (a2 : List Int) (a3 a4 a5 a6 a7 : Int) : Op (Bool) :=
 some (decide (a1 = 0))
/- (backstitch/revolve.view).rules$3 -/
def D_revolve_view_rules_3 (a0 a1 : Int) (a2 : List Int) (a3 a4 a5 a6 a7 a8 : Int) : Op (Bool) :=
 (D_revolve_view_seeded a0 a1 a2 a3 a4 a5 a6 a7).bind fun r9 =>
 cond (!r9)
  (some (decide (a0 = a8)))
  (some false)
/- (backstitch/revolve.view).rules$4 -/
def D_revolve_view_rules_4 (a0 a1 : Int) (a2 : List Int) (a3 a4 a5 a6 a7 : Int) : Op (Bool) :=
 some (decide (a0 = (wI (a3 - 1))))
/- (backstitch/revolve.view).turn -/
def D_revolve_view_turn (a0 a1 : Int) (a2 : List Int) (a3 a4 a5 a6 a7 : Int) : Op (Int × Bool) :=
 (D_revolve_view_seeded a0 a1 a2 a3 a4 a5 a6 a7).bind fun r8 =>
 cond (r8)
  (some ((7, true)))
  (some ((6, true)))
/- (backstitch/revolve.view).rules$5 -/
def D_revolve_view_rules_5 (a0 a1 : Int) (a2 : List Int) (a3 a4 a5 a6 a7 : Int) : Op (Bool) :=
 some (decide (a4 < 0))
/- (backstitch/revolve.view).first -/
def D_revolve_view_first (a0 a1 : Int) (a2 : List Int) (a3 a4 a5 a6 a7 : Int) : Op (Int × Bool) :=
 cond (decide (a3 ≤ a0))
  ((D_revolve_nothing).bind fun r8 =>
  some ((0, r8)))
  (some ((2, true)))
/- (backstitch/revolve.view).rules$6 -/
def D_revolve_view_rules_6 (a0 a1 : Int) (a2 : List Int) (a3 a4 a5 a6 a7 : Int) : Op (Bool) :=
 cond (decide (a0 < a4))
  (some true)
  (some (decide (a3 ≤ a0)))
/- (backstitch/revolve.view).rules$7 -/
def D_revolve_view_rules_7 (a0 a1 : Int) (a2 : List Int) (a3 a4 a5 a6 a7 : Int) : Op (Bool) :=
 cond (decide (a4 < a0))
  (some (decide (0 < a6)))
  (some false)
/- (backstitch/revolve.view).rules$8 -/
def D_revolve_view_rules_8 (a0 a1 : Int) (a2 : List Int) (a3 a4 a5 a6 a7 : Int) : Op (Bool) :=
 some (decide (a4 < a0))
/- backstitch/revolve.always -/
def D_revolve_always  : Op (Bool) :=
 some true
/- backstitch/reps.slots -/
def D_reps_slots (a0 : Int) : Op (Bool) :=
 cond (decide (1 ≤ a0))
  (some (decide (a0 ≤ 1048576)))
  (some false)
/- math/bits.Mul64 -/
def D_math_bits_Mul64 (a0 a1 : Int) : Op (Int × Int) :=
 some ((wU ((wU ((wU ((Int.fdiv a0 (2 ^ (min (tN 32) (IntKind.bits .u64)))) * (Int.fdiv a1 (2 ^ (min (tN 32) (IntKind.bits .u64)))))) + (Int.fdiv (wU ((wU ((Int.fdiv a0 (2 ^ (min (tN 32) (IntKind.bits .u64)))) * (bitV .u64 (· &&& ·) a1 4294967295))) + (Int.fdiv (wU ((bitV .u64 (· &&& ·) a0 4294967295) * (bitV .u64 (· &&& ·) a1 4294967295))) (2 ^ (min (tN 32) (IntKind.bits .u64)))))) (2 ^ (min (tN 32) (IntKind.bits .u64)))))) + (Int.fdiv (wU ((bitV .u64 (· &&& ·) (wU ((wU ((Int.fdiv a0 (2 ^ (min (tN 32) (IntKind.bits .u64)))) * (bitV .u64 (· &&& ·) a1 4294967295))) + (Int.fdiv (wU ((bitV .u64 (· &&& ·) a0 4294967295) * (bitV .u64 (· &&& ·) a1 4294967295))) (2 ^ (min (tN 32) (IntKind.bits .u64)))))) 4294967295) + (wU ((bitV .u64 (· &&& ·) a0 4294967295) * (Int.fdiv a1 (2 ^ (min (tN 32) (IntKind.bits .u64)))))))) (2 ^ (min (tN 32) (IntKind.bits .u64))))), wU (a0 * a1)))
/- math/bits.Len64 -/
def D_math_bits_Len64 (a0 : Int) : Op (Int) :=
 (((cond (decide (4294967296 ≤ a0))
  (some ((Int.fdiv a0 (2 ^ (min (tN 32) (IntKind.bits .u64))), 32)))
  (some ((a0, 0)))) : Op (Int × Int))).bind fun s1 =>
 (((cond (decide (65536 ≤ s1.1))
  (some ((Int.fdiv s1.1 (2 ^ (min (tN 16) (IntKind.bits .u64))), wI (s1.2 + 16))))
  (some ((s1.1, s1.2)))) : Op (Int × Int))).bind fun s2 =>
 cond (decide (256 ≤ s2.1))
  ((rd (([0, 1, 2, 2, 3, 3, 3, 3, 4, 4, 4, 4, 4, 4, 4, 4, 5, 5, 5, 5, 5, 5, 5, 5, 5, 5, 5, 5, 5, 5, 5, 5, 6, 6, 6, 6, 6, 6, 6, 6, 6, 6, 6, 6, 6, 6, 6, 6, 6, 6, 6, 6, 6, 6, 6, 6, 6, 6, 6, 6, 6, 6, 6, 6, 7, 7, 7, 7, 7, 7, 7, 7, 7, 7, 7, 7, 7, 7, 7, 7, 7, 7, 7, 7, 7, 7, 7, 7, 7, 7, 7, 7, 7, 7, 7, 7, 7, 7, 7, 7, 7, 7, 7, 7, 7, 7, 7, 7, 7, 7, 7, 7, 7, 7, 7, 7, 7, 7, 7, 7, 7, 7, 7, 7, 7, 7, 7, 7, 8, 8, 8, 8, 8, 8, 8, 8, 8, 8, 8, 8, 8, 8, 8, 8, 8, 8, 8, 8, 8, 8, 8, 8, 8, 8, 8, 8, 8, 8, 8, 8, 8, 8, 8, 8, 8, 8, 8, 8, 8, 8, 8, 8, 8, 8, 8, 8, 8, 8, 8, 8, 8, 8, 8, 8, 8, 8, 8, 8, 8, 8, 8, 8, 8, 8, 8, 8, 8, 8, 8, 8, 8, 8, 8, 8, 8, 8, 8, 8, 8, 8, 8, 8, 8, 8, 8, 8, 8, 8, 8, 8, 8, 8, 8, 8, 8, 8, 8, 8, 8, 8, 8, 8, 8, 8, 8, 8, 8, 8, 8, 8, 8, 8, 8, 8, 8, 8, 8, 8, 8, 8, 8, 8, 8, 8, 8, 8] : List Int)) (IntKind.u8.wrap (Int.fdiv s2.1 (2 ^ (min (tN 8) (IntKind.bits .u64)))))).bind fun x3 =>
  some (wI ((wI (s2.2 + 8)) + (wI (x3)))))
  ((rd (([0, 1, 2, 2, 3, 3, 3, 3, 4, 4, 4, 4, 4, 4, 4, 4, 5, 5, 5, 5, 5, 5, 5, 5, 5, 5, 5, 5, 5, 5, 5, 5, 6, 6, 6, 6, 6, 6, 6, 6, 6, 6, 6, 6, 6, 6, 6, 6, 6, 6, 6, 6, 6, 6, 6, 6, 6, 6, 6, 6, 6, 6, 6, 6, 7, 7, 7, 7, 7, 7, 7, 7, 7, 7, 7, 7, 7, 7, 7, 7, 7, 7, 7, 7, 7, 7, 7, 7, 7, 7, 7, 7, 7, 7, 7, 7, 7, 7, 7, 7, 7, 7, 7, 7, 7, 7, 7, 7, 7, 7, 7, 7, 7, 7, 7, 7, 7, 7, 7, 7, 7, 7, 7, 7, 7, 7, 7, 7, 8, 8, 8, 8, 8, 8, 8, 8, 8, 8, 8, 8, 8, 8, 8, 8, 8, 8, 8, 8, 8, 8, 8, 8, 8, 8, 8, 8, 8, 8, 8, 8, 8, 8, 8, 8, 8, 8, 8, 8, 8, 8, 8, 8, 8, 8, 8, 8, 8, 8, 8, 8, 8, 8, 8, 8, 8, 8, 8, 8, 8, 8, 8, 8, 8, 8, 8, 8, 8, 8, 8, 8, 8, 8, 8, 8, 8, 8, 8, 8, 8, 8, 8, 8, 8, 8, 8, 8, 8, 8, 8, 8, 8, 8, 8, 8, 8, 8, 8, 8, 8, 8, 8, 8, 8, 8, 8, 8, 8, 8, 8, 8, 8, 8, 8, 8, 8, 8, 8, 8, 8, 8, 8, 8, 8, 8, 8, 8] : List Int)) (IntKind.u8.wrap (s2.1))).bind fun x4 =>
  some (wI (s2.2 + (wI (x4)))))
/- math/bits.LeadingZeros64 -/
def D_math_bits_LeadingZeros64 (a0 : Int) : Op (Int) :=
 (D_math_bits_Len64 a0).bind fun r1 =>
 some (wI (64 - r1))
def D_math_bits_Div64_L0 (a1 : Int) (a2 : Int) (r3 : Int) (s6 : Int × Int) : Op ((Int × Int) ⊕ (Int)) :=
 cond (decide (4294967296 ≤ s6.1))
  (cond (decide (4294967296 ≤ (wU (s6.2 + (Int.fdiv (wU (a2 * 2 ^ (min (tN (wU (r3))) (IntKind.bits .u64)))) (2 ^ (min (tN 32) (IntKind.bits .u64))))))))
   (some (.inr ((wU (s6.1 - 1)))))
   (some (.inl ((wU (s6.1 - 1), wU (s6.2 + (Int.fdiv (wU (a2 * 2 ^ (min (tN (wU (r3))) (IntKind.bits .u64)))) (2 ^ (min (tN 32) (IntKind.bits .u64))))))))))
  (cond (decide ((wU ((wU (4294967296 * s6.2)) + (Int.fdiv (wU (a1 * 2 ^ (min (tN (wU (r3))) (IntKind.bits .u64)))) (2 ^ (min (tN 32) (IntKind.bits .u64)))))) < (wU (s6.1 * (bitV .u64 (· &&& ·) (wU (a2 * 2 ^ (min (tN (wU (r3))) (IntKind.bits .u64)))) 4294967295)))))
   (cond (decide (4294967296 ≤ (wU (s6.2 + (Int.fdiv (wU (a2 * 2 ^ (min (tN (wU (r3))) (IntKind.bits .u64)))) (2 ^ (min (tN 32) (IntKind.bits .u64))))))))
    (some (.inr ((wU (s6.1 - 1)))))
    (some (.inl ((wU (s6.1 - 1), wU (s6.2 + (Int.fdiv (wU (a2 * 2 ^ (min (tN (wU (r3))) (IntKind.bits .u64)))) (2 ^ (min (tN 32) (IntKind.bits .u64))))))))))
   (some (.inr s6.1)))
def D_math_bits_Div64_L1 (a1 : Int) (a2 : Int) (r3 : Int) (s10 : Int × Int) : Op ((Int × Int) ⊕ (Int)) :=
 cond (decide (4294967296 ≤ s10.1))
  (cond (decide (4294967296 ≤ (wU (s10.2 + (Int.fdiv (wU (a2 * 2 ^ (min (tN (wU (r3))) (IntKind.bits .u64)))) (2 ^ (min (tN 32) (IntKind.bits .u64))))))))
   (some (.inr ((wU (s10.1 - 1)))))
   (some (.inl ((wU (s10.1 - 1), wU (s10.2 + (Int.fdiv (wU (a2 * 2 ^ (min (tN (wU (r3))) (IntKind.bits .u64)))) (2 ^ (min (tN 32) (IntKind.bits .u64))))))))))
  (cond (decide ((wU ((wU (4294967296 * s10.2)) + (bitV .u64 (· &&& ·) (wU (a1 * 2 ^ (min (tN (wU (r3))) (IntKind.bits .u64)))) 4294967295))) < (wU (s10.1 * (bitV .u64 (· &&& ·) (wU (a2 * 2 ^ (min (tN (wU (r3))) (IntKind.bits .u64)))) 4294967295)))))
   (cond (decide (4294967296 ≤ (wU (s10.2 + (Int.fdiv (wU (a2 * 2 ^ (min (tN (wU (r3))) (IntKind.bits .u64)))) (2 ^ (min (tN 32) (IntKind.bits .u64))))))))
    (some (.inr ((wU (s10.1 - 1)))))
    (some (.inl ((wU (s10.1 - 1), wU (s10.2 + (Int.fdiv (wU (a2 * 2 ^ (min (tN (wU (r3))) (IntKind.bits .u64)))) (2 ^ (min (tN 32) (IntKind.bits .u64))))))))))
   (some (.inr s10.1)))
/- math/bits.Div64 -/
def D_math_bits_Div64 (a0 a1 a2 : Int) : Op (Int × Int) :=
 cond (decide (a2 = 0))
  none
  (cond (decide (a2 ≤ a0))
   none
   (cond (decide (a0 = 0))
    (gd (decide (a2 ≠ 0)) (gd (decide (a2 ≠ 0)) (some ((wU (Int.tdiv a1 a2), Int.tmod a1 a2)))))
    ((D_math_bits_LeadingZeros64 a2).bind fun r3 =>
    gd (decide (0 ≤ (wU (r3)))) (gd (decide (0 ≤ (wU (r3)))) (gd (decide (0 ≤ (wU (64 - (wU (r3)))))) (gd (decide (0 ≤ (wU (r3)))) (gd (decide ((Int.fdiv (wU (a2 * 2 ^ (min (tN (wU (r3))) (IntKind.bits .u64)))) (2 ^ (min (tN 32) (IntKind.bits .u64)))) ≠ 0)) ((loopN (D_math_bits_Div64_L0 a1 a2 r3) BIG ((wU (Int.tdiv (bitV .u64 (· ||| ·) (wU (a0 * 2 ^ (min (tN (wU (r3))) (IntKind.bits .u64)))) (Int.fdiv a1 (2 ^ (min (tN (wU (64 - (wU (r3))))) (IntKind.bits .u64))))) (Int.fdiv (wU (a2 * 2 ^ (min (tN (wU (r3))) (IntKind.bits .u64)))) (2 ^ (min (tN 32) (IntKind.bits .u64))))), wU ((bitV .u64 (· ||| ·) (wU (a0 * 2 ^ (min (tN (wU (r3))) (IntKind.bits .u64)))) (Int.fdiv a1 (2 ^ (min (tN (wU (64 - (wU (r3))))) (IntKind.bits .u64))))) - (wU ((wU (Int.tdiv (bitV .u64 (· ||| ·) (wU (a0 * 2 ^ (min (tN (wU (r3))) (IntKind.bits .u64)))) (Int.fdiv a1 (2 ^ (min (tN (wU (64 - (wU (r3))))) (IntKind.bits .u64))))) (Int.fdiv (wU (a2 * 2 ^ (min (tN (wU (r3))) (IntKind.bits .u64)))) (2 ^ (min (tN 32) (IntKind.bits .u64)))))) * (Int.fdiv (wU (a2 * 2 ^ (min (tN (wU (r3))) (IntKind.bits .u64)))) (2 ^ (min (tN 32) (IntKind.bits .u64)))))))))).bind fun r7 =>
    gd (decide ((Int.fdiv (wU (a2 * 2 ^ (min (tN (wU (r3))) (IntKind.bits .u64)))) (2 ^ (min (tN 32) (IntKind.bits .u64)))) ≠ 0)) ((loopN (D_math_bits_Div64_L1 a1 a2 r3) BIG ((wU (Int.tdiv (wU ((wU ((wU ((bitV .u64 (· ||| ·) (wU (a0 * 2 ^ (min (tN (wU (r3))) (IntKind.bits .u64)))) (Int.fdiv a1 (2 ^ (min (tN (wU (64 - (wU (r3))))) (IntKind.bits .u64))))) * 4294967296)) + (Int.fdiv (wU (a1 * 2 ^ (min (tN (wU (r3))) (IntKind.bits .u64)))) (2 ^ (min (tN 32) (IntKind.bits .u64)))))) - (wU (r7 * (wU (a2 * 2 ^ (min (tN (wU (r3))) (IntKind.bits .u64)))))))) (Int.fdiv (wU (a2 * 2 ^ (min (tN (wU (r3))) (IntKind.bits .u64)))) (2 ^ (min (tN 32) (IntKind.bits .u64))))), wU ((wU ((wU ((wU ((bitV .u64 (· ||| ·) (wU (a0 * 2 ^ (min (tN (wU (r3))) (IntKind.bits .u64)))) (Int.fdiv a1 (2 ^ (min (tN (wU (64 - (wU (r3))))) (IntKind.bits .u64))))) * 4294967296)) + (Int.fdiv (wU (a1 * 2 ^ (min (tN (wU (r3))) (IntKind.bits .u64)))) (2 ^ (min (tN 32) (IntKind.bits .u64)))))) - (wU (r7 * (wU (a2 * 2 ^ (min (tN (wU (r3))) (IntKind.bits .u64)))))))) - (wU ((wU (Int.tdiv (wU ((wU ((wU ((bitV .u64 (· ||| ·) (wU (a0 * 2 ^ (min (tN (wU (r3))) (IntKind.bits .u64)))) (Int.fdiv a1 (2 ^ (min (tN (wU (64 - (wU (r3))))) (IntKind.bits .u64))))) * 4294967296)) + (Int.fdiv (wU (a1 * 2 ^ (min (tN (wU (r3))) (IntKind.bits .u64)))) (2 ^ (min (tN 32) (IntKind.bits .u64)))))) - (wU (r7 * (wU (a2 * 2 ^ (min (tN (wU (r3))) (IntKind.bits .u64)))))))) (Int.fdiv (wU (a2 * 2 ^ (min (tN (wU (r3))) (IntKind.bits .u64)))) (2 ^ (min (tN 32) (IntKind.bits .u64)))))) * (Int.fdiv (wU (a2 * 2 ^ (min (tN (wU (r3))) (IntKind.bits .u64)))) (2 ^ (min (tN 32) (IntKind.bits .u64)))))))))).bind fun r11 =>
    gd (decide (0 ≤ (wU (r3)))) (some ((wU ((wU (r7 * 4294967296)) + r11), Int.fdiv (wU ((wU ((wU ((wU ((wU ((wU ((bitV .u64 (· ||| ·) (wU (a0 * 2 ^ (min (tN (wU (r3))) (IntKind.bits .u64)))) (Int.fdiv a1 (2 ^ (min (tN (wU (64 - (wU (r3))))) (IntKind.bits .u64))))) * 4294967296)) + (Int.fdiv (wU (a1 * 2 ^ (min (tN (wU (r3))) (IntKind.bits .u64)))) (2 ^ (min (tN 32) (IntKind.bits .u64)))))) - (wU (r7 * (wU (a2 * 2 ^ (min (tN (wU (r3))) (IntKind.bits .u64)))))))) * 4294967296)) + (bitV .u64 (· &&& ·) (wU (a1 * 2 ^ (min (tN (wU (r3))) (IntKind.bits .u64)))) 4294967295))) - (wU (r11 * (wU (a2 * 2 ^ (min (tN (wU (r3))) (IntKind.bits .u64)))))))) (2 ^ (min (tN (wU (r3))) (IntKind.bits .u64)))))))))))))))
/- backstitch/choose.times -/
def D_choose_times (a0 a1 a2 : Int) : Op (Int) :=
 (D_math_bits_Mul64 (wU (a0)) (wU (a1))).bind fun r3 =>
 cond (decide ((wU (a2)) ≤ r3.1))
  (some 1099511627776)
  ((D_math_bits_Div64 r3.1 r3.2 (wU (a2))).bind fun r4 =>
  cond (decide (1099511627776 < r4.1))
   (some 1099511627776)
   (some (wI (r4.1))))
def D_choose_Choose_L0 (a0 a1 : Int) (s4 : Int × Int) : Op ((Int × Int) ⊕ (Int)) :=
 cond (decide (s4.1 ≤ (min a1 (wI (a0 - a1)))))
  (cond (decide (s4.2 < 1099511627776))
   ((D_choose_times s4.2 (wI ((wI (a0 - (min a1 (wI (a0 - a1))))) + s4.1)) s4.1).bind fun r5 =>
   some (.inl ((wI (s4.1 + 1), r5))))
   (some (.inr s4.2)))
  (some (.inr s4.2))
/- backstitch/choose.Choose -/
def D_choose_Choose (a0 a1 : Int) : Op (Int) :=
 cond (decide (a0 < 0))
  (some 0)
  (cond (decide (a1 < 0))
   (some 0)
   (cond (decide (a0 < a1))
    (some 0)
    ((loopN (D_choose_Choose_L0 a0 a1) BIG ((1, 1))).bind fun r6 =>
    some r6)))
/- backstitch/reps.longest -/
def D_reps_longest (a0 a1 : Int) : Op (Int) :=
 cond (decide (1099511627776 ≤ a0))
  (some 1099511627776)
  ((D_choose_Choose (wI (a1 + a0)) a1).bind fun r2 =>
  some r2)
/- backstitch/reps.Reps$1 -/
def D_reps_Reps_1 (a0 a1 a2 : Int) : Op (Bool) :=
 (D_reps_longest a0 a2).bind fun r3 =>
 some (decide (a1 ≤ r3))
def D_reps_least_L0 (a1 : Int) (a2 : Int) (s6 : Int × Int) : Op ((Int × Int) ⊕ (Int)) :=
 cond (decide (s6.1 < s6.2))
  ((D_reps_Reps_1 (wI (Int.tdiv (wI (s6.1 + s6.2)) 2)) a1 a2).bind fun r7 =>
  cond (r7)
   (some (.inl ((s6.1, wI (Int.tdiv (wI (s6.1 + s6.2)) 2)))))
   (some (.inl ((wI ((wI (Int.tdiv (wI (s6.1 + s6.2)) 2)) + 1), s6.2)))))
  (some (.inr s6.1))
/- backstitch/reps.least -/
def D_reps_least (a0 a1 a2 : Int) : Op (Int) :=
 (loopN (D_reps_least_L0 a1 a2) BIG ((0, a0))).bind fun r8 =>
 some r8
/- backstitch/reps.Reps -/
def D_reps_Reps (a0 a1 : Int) : Op (Int × Int) :=
 cond (decide (a0 < 0))
  (some ((0, 2)))
  (cond (decide (65536 ≤ a0))
   (some ((0, 2)))
   ((D_reps_slots a1).bind fun r2 =>
   cond (!r2)
    (some ((0, 2)))
    ((D_reps_least a0 a0 a1).bind fun r3 =>
    some ((r3, 0)))))
def D_reps_greatest_L0 (a0 : List Int) (s5 : Int × Int) : Op ((Int × Int) ⊕ (Int)) :=
 cond (decide (s5.1 < ((((ln a0) : Nat) : Int))))
  ((rd a0 s5.1).bind fun x6 =>
  some (.inl ((wI (s5.1 + 1), max s5.2 x6))))
  (some (.inr s5.2))
/- backstitch/reps.greatest -/
def D_reps_greatest (a0 : List Int) : Op (Int) :=
 (rd a0 0).bind fun x1 =>
 (loopN (D_reps_greatest_L0 a0) BIG ((0, x1))).bind fun r7 =>
 some r7
/- backstitch/reps.Split -/
def D_reps_Split (a0 a1 : Int) : Op (Int × Int) :=
 cond (decide (a0 < 2))
  (some ((0, 2)))
  ((D_reps_Reps a0 a1).bind fun r2 =>
  cond (decide (r2.2 ≠ 0))
   (some ((0, r2.2)))
   ((D_choose_Choose (wI ((wI (a1 + r2.1)) - 2)) a1).bind fun r3 =>
   (D_choose_Choose (wI ((wI (a1 + r2.1)) - 1)) (wI (a1 - 1))).bind fun r4 =>
   (D_reps_greatest ([1, r3, wI (a0 - r4)])).bind fun r5 =>
   some ((r5, 0))))
/- (backstitch/revolve.view).split -/
def D_revolve_view_split (a0 a1 : Int) (a2 : List Int) (a3 a4 a5 a6 a7 : Int) : Op (Int × Bool) :=
 (D_reps_Split (wI (a3 - a4)) (wI (a6 + 1))).bind fun r8 =>
 some ((r8.1, true))
/- backstitch/engine.offline -/
def D_engine_offline (a0 : Int) (a1 a2 : Bool) : Op (Int × Int × Bool) :=
 (D_engine_Engine_Len_2 a0 a1 a2).bind fun r3 =>
 (D_engine_Engine_Spot_2 a0 a1 a2).bind fun r4 =>
 (D_revolve_May 0 0 0 []).bind fun r5 =>
 cond (!r5)
  ((D_revolve_nothing).bind fun r6 =>
  some ((0, 0, r6)))
  ((D_revolve_look 0 0 0 []).bind fun r7 =>
  (D_revolve_act 4 r7.2.2.2.2.2.1).bind fun r8 =>
  (D_revolve_act 5 0).bind fun r9 =>
  (D_revolve_act 3 r7.2.2.2.2.2.1).bind fun r10 =>
  (D_revolve_act 2 r7.2.2.2.2.2.2.2).bind fun r11 =>
  (D_revolve_act 1 (wI ((wI (r7.2.2.2.1 - 1)) - r7.1))).bind fun r12 =>
  (D_revolve_view_rules_1 r7.1 r7.2.1 r7.2.2.1 r7.2.2.2.1 r7.2.2.2.2.1 r7.2.2.2.2.2.1 r7.2.2.2.2.2.2.1 r7.2.2.2.2.2.2.2).bind fun r13 =>
  cond (r13)
   ((D_revolve_act_1 r8.1 r8.2).bind fun r14 =>
   some ((r14.1, r14.2.1, r14.2.2)))
   ((D_revolve_view_rules_2 r7.1 r7.2.1 r7.2.2.1 r7.2.2.2.1 r7.2.2.2.2.1 r7.2.2.2.2.2.1 r7.2.2.2.2.2.2.1 r7.2.2.2.2.2.2.2).bind fun r15 =>
   cond (r15)
    ((D_revolve_nothing).bind fun r16 =>
    some ((0, 0, r16)))
    ((D_revolve_view_rules_3 r7.1 r7.2.1 r7.2.2.1 r7.2.2.2.1 r7.2.2.2.2.1 r7.2.2.2.2.2.1 r7.2.2.2.2.2.2.1 r7.2.2.2.2.2.2.2 0).bind fun r17 =>
    cond (r17)
     ((D_revolve_act_1 r9.1 r9.2).bind fun r18 =>
     some ((r18.1, r18.2.1, r18.2.2)))
     ((D_revolve_view_rules_4 r7.1 r7.2.1 r7.2.2.1 r7.2.2.2.1 r7.2.2.2.2.1 r7.2.2.2.2.2.1 r7.2.2.2.2.2.2.1 r7.2.2.2.2.2.2.2).bind fun r19 =>
     cond (r19)
      ((D_revolve_view_turn r7.1 r7.2.1 r7.2.2.1 r7.2.2.2.1 r7.2.2.2.2.1 r7.2.2.2.2.2.1 r7.2.2.2.2.2.2.1 r7.2.2.2.2.2.2.2).bind fun r20 =>
      some ((r20.1, 0, r20.2)))
      ((D_revolve_view_rules_5 r7.1 r7.2.1 r7.2.2.1 r7.2.2.2.1 r7.2.2.2.2.1 r7.2.2.2.2.2.1 r7.2.2.2.2.2.2.1 r7.2.2.2.2.2.2.2).bind fun r21 =>
      cond (r21)
       ((D_revolve_view_first r7.1 r7.2.1 r7.2.2.1 r7.2.2.2.1 r7.2.2.2.2.1 r7.2.2.2.2.2.1 r7.2.2.2.2.2.2.1 r7.2.2.2.2.2.2.2).bind fun r22 =>
       some ((r22.1, 0, r22.2)))
       ((D_revolve_view_rules_6 r7.1 r7.2.1 r7.2.2.1 r7.2.2.2.1 r7.2.2.2.2.1 r7.2.2.2.2.2.1 r7.2.2.2.2.2.2.1 r7.2.2.2.2.2.2.2).bind fun r23 =>
       cond (r23)
        ((D_revolve_act_1 r10.1 r10.2).bind fun r24 =>
        some ((r24.1, r24.2.1, r24.2.2)))
        ((D_revolve_view_rules_7 r7.1 r7.2.1 r7.2.2.1 r7.2.2.2.1 r7.2.2.2.2.1 r7.2.2.2.2.2.1 r7.2.2.2.2.2.2.1 r7.2.2.2.2.2.2.2).bind fun r25 =>
        cond (r25)
         ((D_revolve_act_1 r11.1 r11.2).bind fun r26 =>
         some ((r26.1, r26.2.1, r26.2.2)))
         ((D_revolve_view_rules_8 r7.1 r7.2.1 r7.2.2.1 r7.2.2.2.1 r7.2.2.2.2.1 r7.2.2.2.2.2.1 r7.2.2.2.2.2.2.1 r7.2.2.2.2.2.2.2).bind fun r27 =>
         cond (r27)
          ((D_revolve_act_1 r12.1 r12.2).bind fun r28 =>
          some ((r28.1, r28.2.1, r28.2.2)))
          ((D_revolve_always).bind fun r29 =>
          cond (r29)
           ((D_revolve_view_split r7.1 r7.2.1 r7.2.2.1 r7.2.2.2.1 r7.2.2.2.2.1 r7.2.2.2.2.2.1 r7.2.2.2.2.2.2.1 r7.2.2.2.2.2.2.2).bind fun r30 =>
           some ((1, r30.1, r30.2)))
           ((D_revolve_nothing).bind fun r31 =>
           some ((0, 0, r31))))))))))))
/- (*backstitch/drive.Driver).Do -/
def D_drive_Driver_Do (a0 a1 : Int) : Op (Unit) :=
 some ()
/- (*backstitch/engine.Engine).Step -/
def D_engine_Engine_Step_3 (a0 : Int) (a1 a2 : Bool) : Op (Bool × Int) :=
 cond (a2)
  (some ((false, 14)))
  ((D_engine_offline a0 a1 a2).bind fun r3 =>
  cond (!r3.2.2)
   (some ((false, 0)))
   ((D_drive_Driver_Do r3.1 r3.2.1).bind fun r4 =>
   some ((false, 1))))
def D_engine_Engine_Run_3_L0 (a0 : Int) (a1 a2 : Bool) (s4 : Int) : Op ((Int) ⊕ (Int × Int)) :=
 (D_engine_Engine_Step_3 a0 a1 a2).bind fun r5 =>
 cond (decide (r5.2 ≠ 0))
  (some (.inr (((0, r5.2)))))
  (cond (r5.1)
   (some (.inl (wI (s4 + 1))))
   (some (.inr (((s4, 0))))))
/- (*backstitch/engine.Engine).Run -/
def D_engine_Engine_Run_3 (a0 : Int) (a1 a2 : Bool) : Op (Int × Int) :=
 (loopN (D_engine_Engine_Run_3_L0 a0 a1 a2) BIG 0).bind fun r6 =>
 some ((r6.1, r6.2))
/- (*backstitch/engine.Engine).Result -/
def D_engine_Engine_Result_3 (a0 : Int) (a1 a2 : Bool) : Op (Unit) :=
 (D_engine_Engine_own_3 a0 a1 a2).bind fun r3 =>
 (D_drive_Driver_Result).bind fun r4 =>
 some ()
/- (*backstitch/engine.Engine).still -/
def D_engine_Engine_still_2 (a0 : Int) (a1 a2 : Bool) : Op (Bool) :=
 cond (a2)
  (some false)
  ((D_engine_offline a0 a1 a2).bind fun r3 =>
  some !r3.2.2)
/- (*backstitch/engine.Engine).Done -/
def D_engine_Engine_Done_2 (a0 : Int) (a1 a2 : Bool) : Op (Bool) :=
 (D_engine_Engine_still_2 a0 a1 a2).bind fun r3 =>
 cond (r3)
  ((D_engine_Engine_Spot_2 a0 a1 a2).bind fun r4 =>
  some true)
  (some false)
/- (*backstitch/engine.Engine).own -/
def D_engine_Engine_own_4 (a0 : Int) (a1 a2 : Bool) : Op (Unit) :=
 some ()
/- (*backstitch/engine.Engine).Len -/
def D_engine_Engine_Len_3 (a0 : Int) (a1 a2 : Bool) : Op (Unit) :=
 (D_engine_Engine_own_4 a0 a1 a2).bind fun r3 =>
 (D_drive_Driver_Len).bind fun r4 =>
 some ()
/- (*backstitch/engine.Engine).Spot -/
def D_engine_Engine_Spot_3 (a0 : Int) (a1 a2 : Bool) : Op (Unit) :=
 (D_engine_Engine_own_4 a0 a1 a2).bind fun r3 =>
 (D_drive_Driver_Spot).bind fun r4 =>
 some ()
/- backstitch/stride.nothing -/
def D_stride_nothing  : Op (Bool) :=
 some false
def D_stride_Stride_L0 (a0 a1 s3 : Int) : Op ((Int) ⊕ (Int)) :=
 cond (decide (a0 < (wI (a1 * s3))))
  (some (.inr s3))
  (some (.inl (wI (s3 * 2))))
/- backstitch/stride.Stride -/
def D_stride_Stride (a0 a1 : Int) : Op (Int × Int) :=
 cond (decide (a0 < 0))
  (some ((0, 2)))
  (cond (decide (65536 ≤ a0))
   (some ((0, 2)))
   (cond (decide (a1 < 1))
    (some ((0, 2)))
    (cond (decide (1048576 < a1))
     (some ((0, 2)))
     ((loopN (D_stride_Stride_L0 a0 a1) BIG 1).bind fun r4 =>
     some ((r4, 0))))))
/- backstitch/stride.act -/
def D_stride_act (a0 a1 : Int) : Op (Int × Int × Bool) :=
 some ((a0, a1, true))
/- backstitch/stride.ahead$1 -/
def D_stride_ahead_1 (a0 a1 : Int) : Op (Bool) :=
 cond (decide (0 ≤ a0))
  (gd (decide (a1 ≠ 0)) (some (decide ((Int.tmod a0 a1) ≠ 0))))
  (some false)
/- backstitch/stride.less -/
def D_stride_less (a0 a1 : Int) : Op (Bool) :=
 some (decide (a0 < a1))
def D_stride_best_L0 (a0 : List Int) (a1 : Int) (s4 : Int × Int) : Op ((Int × Int) ⊕ (Int)) :=
 cond (decide (s4.1 < ((((ln a0) : Nat) : Int))))
  ((rd a0 s4.1).bind fun x5 =>
  (D_stride_ahead_1 x5 a1).bind fun r6 =>
  cond (r6)
   (cond (decide (s4.2 < 0))
    (some (.inl ((wI (s4.1 + 1), s4.1))))
    ((rd a0 s4.2).bind fun x7 =>
    (D_stride_less x5 x7).bind fun r8 =>
    cond (r8)
     (some (.inl ((wI (s4.1 + 1), s4.1))))
     (some (.inl ((wI (s4.1 + 1), s4.2))))))
   (some (.inl ((wI (s4.1 + 1), s4.2)))))
  (some (.inr s4.2))
/- backstitch/stride.best -/
def D_stride_best (a0 : List Int) (a1 : Int) : Op (Int) :=
 (loopN (D_stride_best_L0 a0 a1) BIG ((0, (-1)))).bind fun r9 =>
 some r9
/- backstitch/stride.ahead$2 -/
def D_stride_ahead_2 (a0 a1 : Int) : Op (Bool) :=
 some (decide (a0 = a1))
def D_stride_best_2_L0 (a0 : List Int) (a1 : Int) (s4 : Int × Int) : Op ((Int × Int) ⊕ (Int)) :=
 cond (decide (s4.1 < ((((ln a0) : Nat) : Int))))
  ((rd a0 s4.1).bind fun x5 =>
  (D_stride_ahead_2 x5 a1).bind fun r6 =>
  cond (r6)
   (cond (decide (s4.2 < 0))
    (some (.inl ((wI (s4.1 + 1), s4.1))))
    ((rd a0 s4.2).bind fun x7 =>
    (D_stride_less x5 x7).bind fun r8 =>
    cond (r8)
     (some (.inl ((wI (s4.1 + 1), s4.1))))
     (some (.inl ((wI (s4.1 + 1), s4.2))))))
   (some (.inl ((wI (s4.1 + 1), s4.2)))))
  (some (.inr s4.2))
/- backstitch/stride.best -/
def D_stride_best_2 (a0 : List Int) (a1 : Int) : Op (Int) :=
 (loopN (D_stride_best_2_L0 a0 a1) BIG ((0, (-1)))).bind fun r9 =>
 some r9
/- backstitch/stride.ahead$3 -/
def D_stride_ahead_3 (a0 : Int) : Op (Bool) :=
 some (decide (a0 < 0))
def D_stride_best_3_L0 (a0 : List Int) (s3 : Int × Int) : Op ((Int × Int) ⊕ (Int)) :=
 cond (decide (s3.1 < ((((ln a0) : Nat) : Int))))
  ((rd a0 s3.1).bind fun x4 =>
  (D_stride_ahead_3 x4).bind fun r5 =>
  cond (r5)
   (cond (decide (s3.2 < 0))
    (some (.inl ((wI (s3.1 + 1), s3.1))))
    ((rd a0 s3.2).bind fun x6 =>
    (D_stride_less x4 x6).bind fun r7 =>
    cond (r7)
     (some (.inl ((wI (s3.1 + 1), s3.1))))
     (some (.inl ((wI (s3.1 + 1), s3.2))))))
   (some (.inl ((wI (s3.1 + 1), s3.2)))))
  (some (.inr s3.2))
/- backstitch/stride.best -/
def D_stride_best_3 (a0 : List Int) : Op (Int) :=
 (loopN (D_stride_best_3_L0 a0) BIG ((0, (-1)))).bind fun r8 =>
 some r8
/- backstitch/stride.ahead -/
def D_stride_ahead (a0 : Int) (a1 : Bool) (a2 a3 : Int) (a4 : List Int) : Op (Int × Int × Bool) :=
 (D_stride_Stride a0 ((((ln a4) : Nat) : Int))).bind fun r5 =>
 cond (decide (a2 < a0))
  ((D_stride_act 1 (wI (a0 - a2))).bind fun r6 =>
  some ((r6.1, r6.2.1, r6.2.2)))
  ((D_stride_best a4 r5.1).bind fun r7 =>
  cond (decide (0 ≤ r7))
   ((D_stride_act 4 r7).bind fun r8 =>
   some ((r8.1, r8.2.1, r8.2.2)))
   ((D_stride_best_2 a4 a0).bind fun r9 =>
   (D_stride_best_3 a4).bind fun r10 =>
   (((gd (decide (r5.1 ≠ 0)) (cond (decide ((Int.tmod a0 r5.1) = 0))
    (cond (decide (r9 < 0))
     (some (decide (0 ≤ r10)))
     (some false))
    (some false))) : Op (Bool))).bind fun s11 =>
   cond (s11)
    ((D_stride_act 2 r10).bind fun r12 =>
    some ((r12.1, r12.2.1, r12.2.2)))
    (cond (a1)
     ((D_stride_act 5 0).bind fun r13 =>
     some ((r13.1, r13.2.1, r13.2.2)))
     ((D_stride_nothing).bind fun r14 =>
     some ((0, 0, r14))))))
/- backstitch/stride.holds -/
def D_stride_holds (a0 : Int) : Op (Bool) :=
 some (decide (0 ≤ a0))
/- backstitch/stride.greater -/
def D_stride_greater (a0 a1 : Int) : Op (Bool) :=
 some (decide (a1 < a0))
def D_stride_best_4_L0 (a0 : List Int) (s3 : Int × Int) : Op ((Int × Int) ⊕ (Int)) :=
 cond (decide (s3.1 < ((((ln a0) : Nat) : Int))))
  ((rd a0 s3.1).bind fun x4 =>
  (D_stride_holds x4).bind fun r5 =>
  cond (r5)
   (cond (decide (s3.2 < 0))
    (some (.inl ((wI (s3.1 + 1), s3.1))))
    ((rd a0 s3.2).bind fun x6 =>
    (D_stride_greater x4 x6).bind fun r7 =>
    cond (r7)
     (some (.inl ((wI (s3.1 + 1), s3.1))))
     (some (.inl ((wI (s3.1 + 1), s3.2))))))
   (some (.inl ((wI (s3.1 + 1), s3.2)))))
  (some (.inr s3.2))
/- backstitch/stride.best -/
def D_stride_best_4 (a0 : List Int) : Op (Int) :=
 (loopN (D_stride_best_4_L0 a0) BIG ((0, (-1)))).bind fun r8 =>
 some r8
/- backstitch/stride.back -/
def D_stride_back (a0 a1 : Int) (a2 : List Int) : Op (Int × Int × Bool) :=
 (D_stride_best_4 a2).bind fun r3 =>
 (((cond (decide (0 ≤ r3))
  ((rd a2 r3).bind fun x4 =>
  some (decide (a1 ≤ x4)))
  (some false)) : Op (Bool))).bind fun s5 =>
 cond (s5)
  ((D_stride_act 4 r3).bind fun r6 =>
  some ((r6.1, r6.2.1, r6.2.2)))
  (cond (decide (a1 = 0))
   ((D_stride_nothing).bind fun r7 =>
   some ((0, 0, r7)))
   (cond (decide (a0 = (wI (a1 - 1))))
    ((D_stride_act 7 0).bind fun r8 =>
    some ((r8.1, r8.2.1, r8.2.2)))
    ((((cond (decide (0 ≤ r3))
     ((rd a2 r3).bind fun x9 =>
     cond (decide (a0 < x9))
      (some true)
      (some (decide (a1 ≤ a0))))
     (some false)) : Op (Bool))).bind fun s10 =>
    cond (s10)
     ((D_stride_act 3 r3).bind fun r11 =>
     some ((r11.1, r11.2.1, r11.2.2)))
     (cond (decide (a0 < a1))
      ((D_stride_act 1 (wI ((wI (a1 - 1)) - a0))).bind fun r12 =>
      some ((r12.1, r12.2.1, r12.2.2)))
      ((D_stride_nothing).bind fun r13 =>
      some ((0, 0, r13)))))))
/- backstitch/stride.Next -/
def D_stride_Next (a0 : Int) (a1 : Bool) (a2 a3 : Int) (a4 : List Int) : Op (Int × Int × Bool) :=
 (D_machine_At a0 a2 a3 a4).bind fun r5 =>
 caseS r5 (fun u6 =>
  (D_stride_nothing).bind fun r7 =>
  some ((0, 0, r7)))
  (fun w8 =>
  cond (decide (((((ln a4) : Nat) : Int)) = 0))
   ((D_stride_nothing).bind fun r9 =>
   some ((0, 0, r9)))
   (cond (decide (a3 < 0))
    ((D_stride_ahead a0 a1 a2 a3 a4).bind fun r10 =>
    some ((r10.1, r10.2.1, r10.2.2)))
    ((D_stride_back a2 a3 a4).bind fun r11 =>
    some ((r11.1, r11.2.1, r11.2.2)))))
/- backstitch/engine.online -/
def D_engine_online (a0 : Int) (a1 a2 : Bool) : Op (Int × Int × Bool) :=
 (D_engine_Engine_Len_3 a0 a1 a2).bind fun r3 =>
 (D_engine_Engine_Spot_3 a0 a1 a2).bind fun r4 =>
 (D_stride_Next 0 a1 0 0 []).bind fun r5 =>
 some ((r5.1, r5.2.1, r5.2.2))
/- (*backstitch/engine.Engine).Step -/
def D_engine_Engine_Step_4 (a0 : Int) (a1 a2 : Bool) : Op (Bool × Int) :=
 cond (a2)
  (some ((false, 14)))
  ((D_engine_online a0 a1 a2).bind fun r3 =>
  cond (!r3.2.2)
   (some ((false, 0)))
   ((D_drive_Driver_Do r3.1 r3.2.1).bind fun r4 =>
   some ((false, 1))))
def D_engine_Engine_Run_4_L0 (a0 : Int) (a1 a2 : Bool) (s4 : Int) : Op ((Int) ⊕ (Int × Int)) :=
 (D_engine_Engine_Step_4 a0 a1 a2).bind fun r5 =>
 cond (decide (r5.2 ≠ 0))
  (some (.inr (((0, r5.2)))))
  (cond (r5.1)
   (some (.inl (wI (s4 + 1))))
   (some (.inr (((s4, 0))))))
/- (*backstitch/engine.Engine).Run -/
def D_engine_Engine_Run_4 (a0 : Int) (a1 a2 : Bool) : Op (Int × Int) :=
 (loopN (D_engine_Engine_Run_4_L0 a0 a1 a2) BIG 0).bind fun r6 =>
 some ((r6.1, r6.2))
/- (*backstitch/engine.Engine).Result -/
def D_engine_Engine_Result_4 (a0 : Int) (a1 a2 : Bool) : Op (Unit) :=
 (D_engine_Engine_own_4 a0 a1 a2).bind fun r3 =>
 (D_drive_Driver_Result).bind fun r4 =>
 some ()
/- (*backstitch/engine.Engine).still -/
def D_engine_Engine_still_3 (a0 : Int) (a1 a2 : Bool) : Op (Bool) :=
 cond (a2)
  (some false)
  ((D_engine_online a0 a1 a2).bind fun r3 =>
  some !r3.2.2)
/- (*backstitch/engine.Engine).Done -/
def D_engine_Engine_Done_3 (a0 : Int) (a1 a2 : Bool) : Op (Bool) :=
 (D_engine_Engine_still_3 a0 a1 a2).bind fun r3 =>
 cond (r3)
  ((D_engine_Engine_Spot_3 a0 a1 a2).bind fun r4 =>
  some true)
  (some false)
/- (*backstitch/engine.Engine).own -/
def D_engine_Engine_own_5 (a0 : Int) (a1 a2 : Bool) : Op (Unit) :=
 some ()
/- (*backstitch/engine.Engine).Spot -/
def D_engine_Engine_Spot_4 (a0 : Int) (a1 a2 : Bool) : Op (Unit) :=
 (D_engine_Engine_own_5 a0 a1 a2).bind fun r3 =>
 (D_drive_Driver_Spot).bind fun r4 =>
 some ()
/- backstitch/engine.baseline -/
def D_engine_baseline (a0 : Int) (a1 a2 : Bool) : Op (Bool) :=
 (D_engine_Engine_Spot_4 a0 a1 a2).bind fun r3 =>
 some false
/- (*backstitch/engine.Engine).Step -/
def D_engine_Engine_Step_5 (a0 : Int) (a1 a2 : Bool) : Op (Bool × Int) :=
 cond (a2)
  (some ((false, 14)))
  ((D_engine_baseline a0 a1 a2).bind fun r3 =>
  cond (!r3)
   (some ((false, 0)))
   ((D_drive_Driver_Do 0 0).bind fun r4 =>
   some ((false, 1))))
def D_engine_Engine_Run_5_L0 (a0 : Int) (a1 a2 : Bool) (s4 : Int) : Op ((Int) ⊕ (Int × Int)) :=
 (D_engine_Engine_Step_5 a0 a1 a2).bind fun r5 =>
 cond (decide (r5.2 ≠ 0))
  (some (.inr (((0, r5.2)))))
  (cond (r5.1)
   (some (.inl (wI (s4 + 1))))
   (some (.inr (((s4, 0))))))
/- (*backstitch/engine.Engine).Run -/
def D_engine_Engine_Run_5 (a0 : Int) (a1 a2 : Bool) : Op (Int × Int) :=
 (loopN (D_engine_Engine_Run_5_L0 a0 a1 a2) BIG 0).bind fun r6 =>
 some ((r6.1, r6.2))
/- (*backstitch/engine.Engine).Result -/
def D_engine_Engine_Result_5 (a0 : Int) (a1 a2 : Bool) : Op (Unit) :=
 (D_engine_Engine_own_5 a0 a1 a2).bind fun r3 =>
 (D_drive_Driver_Result).bind fun r4 =>
 some ()
/- (*backstitch/engine.Engine).still -/
def D_engine_Engine_still_4 (a0 : Int) (a1 a2 : Bool) : Op (Bool) :=
 cond (a2)
  (some false)
  ((D_engine_baseline a0 a1 a2).bind fun r3 =>
  some !r3)
/- (*backstitch/engine.Engine).Done -/
def D_engine_Engine_Done_4 (a0 : Int) (a1 a2 : Bool) : Op (Bool) :=
 (D_engine_Engine_still_4 a0 a1 a2).bind fun r3 =>
 cond (r3)
  ((D_engine_Engine_Spot_4 a0 a1 a2).bind fun r4 =>
  some true)
  (some false)
/- (*backstitch/engine.Engine).Step -/
def D_engine_Engine_Step_6 (a0 : Int) (a1 a2 : Bool) (a3 a4 a5 a6 a7 a8 a9 a10 a11 a12 a13 a14 a15 a16 a17 a18 a19 : Int) (a20 a21 : List Int) (a22 a23 : LO) (a24 : List Int) (a25 a26 a27 a28 : Int) (a29 : List Int) : Op (Bool) :=
 cond (a2)
  (some false)
  none
def D_engine_Engine_Run_6_L0 (a0 : Int) (a1 a2 : Bool) (a3 a4 a5 a6 a7 a8 a9 a10 a11 a12 a13 a14 a15 a16 a17 a18 a19 : Int) (a20 a21 : List Int) (a22 a23 : LO) (a24 : List Int) (a25 a26 a27 a28 : Int) (a29 : List Int) (s30 : Unit) : Op ((Unit) ⊕ (Unit)) :=
 (D_engine_Engine_Step_6 a0 a1 a2 a3 a4 a5 a6 a7 a8 a9 a10 a11 a12 a13 a14 a15 a16 a17 a18 a19 a20 a21 a22 a23 a24 a25 a26 a27 a28 a29).bind fun r31 =>
 some (.inr ())
/- (*backstitch/engine.Engine).Run -/
def D_engine_Engine_Run_6 (a0 : Int) (a1 a2 : Bool) (a3 a4 a5 a6 a7 a8 a9 a10 a11 a12 a13 a14 a15 a16 a17 a18 a19 : Int) (a20 a21 : List Int) (a22 a23 : LO) (a24 : List Int) (a25 a26 a27 a28 : Int) (a29 : List Int) : Op (Unit) :=
 (loopN (D_engine_Engine_Run_6_L0 a0 a1 a2 a3 a4 a5 a6 a7 a8 a9 a10 a11 a12 a13 a14 a15 a16 a17 a18 a19 a20 a21 a22 a23 a24 a25 a26 a27 a28 a29) BIG ()).bind fun r32 =>
 some ()
/- (*backstitch/engine.Engine).own -/
def D_engine_Engine_own_6 (a0 : Int) (a1 a2 : Bool) (a3 a4 a5 a6 a7 a8 a9 a10 a11 a12 a13 a14 a15 a16 a17 a18 a19 : Int) (a20 a21 : List Int) (a22 a23 : LO) (a24 : List Int) (a25 a26 a27 a28 : Int) (a29 : List Int) : Op (Unit) :=
 some ()
/- (*backstitch/arena.Arena).Read -/
def D_arena_Arena_Read (a0 a1 a2 : Int) (a3 : List Int) : Op (Int × List Int) :=
 cond (decide (a0 < 0))
  (some ((2, [])))
  (cond (decide (a1 < 0))
   (some ((2, [])))
   (cond (decide (a2 < a0))
    (some ((2, [])))
    (cond (decide ((wI (a2 - a0)) < a1))
     (some ((2, [])))
     (gd (cutG a0 (wI (a0 + a1)) ((ln a3))) ((D_slices_Clone_uint64_uint64 ((List.take (((tN (wI (a0 + a1))) - (tN a0))) (List.drop ((tN a0)) a3)))).bind fun r4 =>
     some ((0, r4)))))))
/- (*backstitch/drive.Driver).get -/
def D_drive_Driver_get (a0 a1 a2 a3 a4 a5 a6 a7 a8 a9 a10 a11 a12 a13 a14 a15 a16 a17 : Int) (a18 a19 : List Int) (a20 a21 : LO) (a22 : List Int) (a23 a24 a25 a26 : Int) (a27 : List Int) : Op (List Int) :=
 (ix a0 ((ln a22))).bind fun j28 =>
 (a22[j28]?).bind fun x29 =>
 (ix (wI (a0 + 1)) ((ln a22))).bind fun j30 =>
 (a22[j30]?).bind fun x31 =>
 (ix a0 ((ln a22))).bind fun j32 =>
 (a22[j32]?).bind fun x33 =>
 (D_arena_Arena_Read x29 (wI (x31 - x33)) a23 a27).bind fun r34 =>
 some r34.2
/- (*backstitch/drive.Driver).Result -/
def D_drive_Driver_Result_2 (a0 a1 a2 a3 a4 a5 a6 a7 a8 a9 a10 a11 a12 a13 a14 a15 a16 : Int) (a17 a18 : List Int) (a19 a20 : LO) (a21 : List Int) (a22 a23 a24 a25 : Int) (a26 : List Int) : Op (Int × Int × (List Int) × List Int) :=
 cond (decide (a11 ≠ 0))
  (some ((0, 19, [], [])))
  ((D_drive_Driver_get 5 a0 a1 a2 a3 a4 a5 a6 a7 a8 a9 a10 a11 a12 a13 a14 a15 a16 a17 a18 a19 a20 a21 a22 a23 a24 a25 a26).bind fun r27 =>
  (D_drive_Driver_get 6 a0 a1 a2 a3 a4 a5 a6 a7 a8 a9 a10 a11 a12 a13 a14 a15 a16 a17 a18 a19 a20 a21 a22 a23 a24 a25 a26).bind fun r28 =>
  some ((a16, 0, r27, r28)))
/- (*backstitch/engine.Engine).Result -/
def D_engine_Engine_Result_6 (a0 : Int) (a1 a2 : Bool) (a3 a4 a5 a6 a7 a8 a9 a10 a11 a12 a13 a14 a15 a16 a17 a18 a19 : Int) (a20 a21 : List Int) (a22 a23 : LO) (a24 : List Int) (a25 a26 a27 a28 : Int) (a29 : List Int) : Op (Int × Int × (List Int) × List Int) :=
 (D_engine_Engine_own_6 a0 a1 a2 a3 a4 a5 a6 a7 a8 a9 a10 a11 a12 a13 a14 a15 a16 a17 a18 a19 a20 a21 a22 a23 a24 a25 a26 a27 a28 a29).bind fun r30 =>
 (D_drive_Driver_Result_2 a3 a4 a5 a6 a7 a8 a9 a10 a11 a12 a13 a14 a15 a16 a17 a18 a19 a20 a21 a22 a23 a24 a25 a26 a27 a28 a29).bind fun r31 =>
 some ((r31.1, r31.2.1, r31.2.2.1, r31.2.2.2))
/- (*backstitch/engine.Engine).own -/
def D_engine_Engine_own_7 (a0 : Int) (a1 a2 : Bool) (a3 a4 a5 a6 a7 a8 a9 a10 a11 a12 a13 a14 a15 a16 a17 a18 a19 : Int) (a20 a21 : List Int) (a22 a23 : LO) (a24 : List Int) (a25 a26 a27 a28 : Int) (a29 : List Int) : Op (Unit) :=
 some ()
/- (*backstitch/drive.Driver).Len -/
def D_drive_Driver_Len_2 (a0 a1 a2 a3 a4 a5 a6 a7 a8 a9 a10 a11 a12 a13 a14 a15 a16 : Int) (a17 a18 : List Int) (a19 a20 : LO) (a21 : List Int) (a22 a23 a24 a25 : Int) (a26 : List Int) : Op (Int) :=
 some a9
/- (*backstitch/engine.Engine).Len -/
def D_engine_Engine_Len_4 (a0 : Int) (a1 a2 : Bool) (a3 a4 a5 a6 a7 a8 a9 a10 a11 a12 a13 a14 a15 a16 a17 a18 a19 : Int) (a20 a21 : List Int) (a22 a23 : LO) (a24 : List Int) (a25 a26 a27 a28 : Int) (a29 : List Int) : Op (Int) :=
 (D_engine_Engine_own_7 a0 a1 a2 a3 a4 a5 a6 a7 a8 a9 a10 a11 a12 a13 a14 a15 a16 a17 a18 a19 a20 a21 a22 a23 a24 a25 a26 a27 a28 a29).bind fun r30 =>
 (D_drive_Driver_Len_2 a3 a4 a5 a6 a7 a8 a9 a10 a11 a12 a13 a14 a15 a16 a17 a18 a19 a20 a21 a22 a23 a24 a25 a26 a27 a28 a29).bind fun r31 =>
 some r31
/- (*backstitch/slots.Slots).Tags -/
def D_slots_Slots_Tags  : Op (Unit) :=
 some ()
/- (*backstitch/drive.Driver).Spot -/
def D_drive_Driver_Spot_2 (a0 a1 a2 a3 a4 a5 a6 a7 a8 a9 a10 a11 a12 a13 a14 a15 a16 : Int) (a17 a18 : List Int) (a19 a20 : LO) (a21 : List Int) (a22 a23 a24 a25 : Int) (a26 : List Int) : Op (Int × Int) :=
 (D_slots_Slots_Tags).bind fun r27 =>
 some ((a10, a11))
/- (*backstitch/engine.Engine).Spot -/
def D_engine_Engine_Spot_5 (a0 : Int) (a1 a2 : Bool) (a3 a4 a5 a6 a7 a8 a9 a10 a11 a12 a13 a14 a15 a16 a17 a18 a19 : Int) (a20 a21 : List Int) (a22 a23 : LO) (a24 : List Int) (a25 a26 a27 a28 : Int) (a29 : List Int) : Op (Int × Int) :=
 (D_engine_Engine_own_7 a0 a1 a2 a3 a4 a5 a6 a7 a8 a9 a10 a11 a12 a13 a14 a15 a16 a17 a18 a19 a20 a21 a22 a23 a24 a25 a26 a27 a28 a29).bind fun r30 =>
 (D_drive_Driver_Spot_2 a3 a4 a5 a6 a7 a8 a9 a10 a11 a12 a13 a14 a15 a16 a17 a18 a19 a20 a21 a22 a23 a24 a25 a26 a27 a28 a29).bind fun r31 =>
 some ((r31.1, r31.2))
/- backstitch/engine.offline -/
def D_engine_offline_2 (a0 : Int) (a1 a2 : Bool) (a3 a4 a5 a6 a7 a8 a9 a10 a11 a12 a13 a14 a15 a16 a17 a18 a19 : Int) (a20 a21 : List Int) (a22 a23 : LO) (a24 : List Int) (a25 a26 a27 a28 : Int) (a29 : List Int) : Op (Int × Int × Bool) :=
 (D_engine_Engine_Len_4 a0 a1 a2 a3 a4 a5 a6 a7 a8 a9 a10 a11 a12 a13 a14 a15 a16 a17 a18 a19 a20 a21 a22 a23 a24 a25 a26 a27 a28 a29).bind fun r30 =>
 (D_engine_Engine_Spot_5 a0 a1 a2 a3 a4 a5 a6 a7 a8 a9 a10 a11 a12 a13 a14 a15 a16 a17 a18 a19 a20 a21 a22 a23 a24 a25 a26 a27 a28 a29).bind fun r31 =>
 (D_revolve_May r30 r31.1 r31.2 []).bind fun r32 =>
 cond (!r32)
  ((D_revolve_nothing).bind fun r33 =>
  some ((0, 0, r33)))
  ((D_revolve_look r30 r31.1 r31.2 []).bind fun r34 =>
  (D_revolve_act 4 r34.2.2.2.2.2.1).bind fun r35 =>
  (D_revolve_act 5 0).bind fun r36 =>
  (D_revolve_act 3 r34.2.2.2.2.2.1).bind fun r37 =>
  (D_revolve_act 2 r34.2.2.2.2.2.2.2).bind fun r38 =>
  (D_revolve_act 1 (wI ((wI (r34.2.2.2.1 - 1)) - r34.1))).bind fun r39 =>
  (D_revolve_view_rules_1 r34.1 r34.2.1 r34.2.2.1 r34.2.2.2.1 r34.2.2.2.2.1 r34.2.2.2.2.2.1 r34.2.2.2.2.2.2.1 r34.2.2.2.2.2.2.2).bind fun r40 =>
  cond (r40)
   ((D_revolve_act_1 r35.1 r35.2).bind fun r41 =>
   some ((r41.1, r41.2.1, r41.2.2)))
   ((D_revolve_view_rules_2 r34.1 r34.2.1 r34.2.2.1 r34.2.2.2.1 r34.2.2.2.2.1 r34.2.2.2.2.2.1 r34.2.2.2.2.2.2.1 r34.2.2.2.2.2.2.2).bind fun r42 =>
   cond (r42)
    ((D_revolve_nothing).bind fun r43 =>
    some ((0, 0, r43)))
    ((D_revolve_view_rules_3 r34.1 r34.2.1 r34.2.2.1 r34.2.2.2.1 r34.2.2.2.2.1 r34.2.2.2.2.2.1 r34.2.2.2.2.2.2.1 r34.2.2.2.2.2.2.2 r30).bind fun r44 =>
    cond (r44)
     ((D_revolve_act_1 r36.1 r36.2).bind fun r45 =>
     some ((r45.1, r45.2.1, r45.2.2)))
     ((D_revolve_view_rules_4 r34.1 r34.2.1 r34.2.2.1 r34.2.2.2.1 r34.2.2.2.2.1 r34.2.2.2.2.2.1 r34.2.2.2.2.2.2.1 r34.2.2.2.2.2.2.2).bind fun r46 =>
     cond (r46)
      ((D_revolve_view_turn r34.1 r34.2.1 r34.2.2.1 r34.2.2.2.1 r34.2.2.2.2.1 r34.2.2.2.2.2.1 r34.2.2.2.2.2.2.1 r34.2.2.2.2.2.2.2).bind fun r47 =>
      some ((r47.1, 0, r47.2)))
      ((D_revolve_view_rules_5 r34.1 r34.2.1 r34.2.2.1 r34.2.2.2.1 r34.2.2.2.2.1 r34.2.2.2.2.2.1 r34.2.2.2.2.2.2.1 r34.2.2.2.2.2.2.2).bind fun r48 =>
      cond (r48)
       ((D_revolve_view_first r34.1 r34.2.1 r34.2.2.1 r34.2.2.2.1 r34.2.2.2.2.1 r34.2.2.2.2.2.1 r34.2.2.2.2.2.2.1 r34.2.2.2.2.2.2.2).bind fun r49 =>
       some ((r49.1, 0, r49.2)))
       ((D_revolve_view_rules_6 r34.1 r34.2.1 r34.2.2.1 r34.2.2.2.1 r34.2.2.2.2.1 r34.2.2.2.2.2.1 r34.2.2.2.2.2.2.1 r34.2.2.2.2.2.2.2).bind fun r50 =>
       cond (r50)
        ((D_revolve_act_1 r37.1 r37.2).bind fun r51 =>
        some ((r51.1, r51.2.1, r51.2.2)))
        ((D_revolve_view_rules_7 r34.1 r34.2.1 r34.2.2.1 r34.2.2.2.1 r34.2.2.2.2.1 r34.2.2.2.2.2.1 r34.2.2.2.2.2.2.1 r34.2.2.2.2.2.2.2).bind fun r52 =>
        cond (r52)
         ((D_revolve_act_1 r38.1 r38.2).bind fun r53 =>
         some ((r53.1, r53.2.1, r53.2.2)))
         ((D_revolve_view_rules_8 r34.1 r34.2.1 r34.2.2.1 r34.2.2.2.1 r34.2.2.2.2.1 r34.2.2.2.2.2.1 r34.2.2.2.2.2.2.1 r34.2.2.2.2.2.2.2).bind fun r54 =>
         cond (r54)
          ((D_revolve_act_1 r39.1 r39.2).bind fun r55 =>
          some ((r55.1, r55.2.1, r55.2.2)))
          ((D_revolve_always).bind fun r56 =>
          cond (r56)
           ((D_revolve_view_split r34.1 r34.2.1 r34.2.2.1 r34.2.2.2.1 r34.2.2.2.2.1 r34.2.2.2.2.2.1 r34.2.2.2.2.2.2.1 r34.2.2.2.2.2.2.2).bind fun r57 =>
           some ((1, r57.1, r57.2)))
           ((D_revolve_nothing).bind fun r58 =>
           some ((0, 0, r58))))))))))))
def D_slices_Concat_uint64_uint64_L0 (a0 : List (List Int)) (s3 : Int × Int) : Op ((Int × Int) ⊕ (Int)) :=
 cond (decide (s3.1 < ((((ln a0) : Nat) : Int))))
  ((rd a0 s3.1).bind fun x4 =>
  cond (decide ((wI (s3.2 + ((((ln x4) : Nat) : Int)))) < 0))
   none
   (some (.inl ((wI (s3.1 + 1), wI (s3.2 + ((((ln x4) : Nat) : Int))))))))
  (some (.inr s3.2))
def D_slices_Concat_uint64_uint64_L1 (a0 : List (List Int)) (s9 : Int × List Int) : Op ((Int × List Int) ⊕ (List Int)) :=
 cond (decide (s9.1 < ((((ln a0) : Nat) : Int))))
  ((rd a0 s9.1).bind fun x10 =>
  gd (fits (ln s9.2 + ln x10) 8) (some (.inl ((wI (s9.1 + 1), (s9.2 ++ x10))))))
  (some (.inr s9.2))
def D_slices_Concat_uint64_uint64_L2 (a0 : List (List Int)) (s14 : Int × List Int) : Op ((Int × List Int) ⊕ (List Int)) :=
 cond (decide (s14.1 < ((((ln a0) : Nat) : Int))))
  ((rd a0 s14.1).bind fun x15 =>
  gd (fits (ln s14.2 + ln x15) 8) (some (.inl ((wI (s14.1 + 1), (s14.2 ++ x15))))))
  (some (.inr s14.2))
/- slices.Concat[[]uint64,uint64] -/
def D_slices_Concat_uint64_uint64 (a0 : List (List Int)) : Op (List Int) :=
 (loopN (D_slices_Concat_uint64_uint64_L0 a0) BIG ((0, 0))).bind fun r5 =>
 cond (decide (r5 < 0))
  none
  (cond (decide (0 < (wI (r5 - 0))))
   (gd (zeroFits 8 (wI (r5 - 0))) (gd (fits (0 + ln ((List.replicate (tN (wI (r5 - 0))) (0 : Int)))) 8) (gd (cutG 0 0 ((ln ((([] : List Int) ++ (List.replicate (tN (wI (r5 - 0))) (0 : Int))))))) ((loopN (D_slices_Concat_uint64_uint64_L1 a0) BIG ((0, (List.take 0 ((([] : List Int) ++ (List.replicate (tN (wI (r5 - 0))) (0 : Int)))))))).bind fun r11 =>
   some r11))))
   ((loopN (D_slices_Concat_uint64_uint64_L2 a0) BIG ((0, []))).bind fun r16 =>
   some r16))
/- (*backstitch/drive.Driver).begin -/
def D_drive_Driver_begin (a0 : Int) (a1 : LO) (a2 a3 : List Int) (a4 a5 a6 a7 a8 a9 a10 a11 a12 a13 a14 a15 a16 a17 a18 a19 a20 : Int) (a21 a22 : List Int) (a23 a24 : LO) (a25 : List Int) (a26 a27 a28 a29 : Int) (a30 : List Int) : Op (List Int) :=
 (D_drive_Driver_get 0 a4 a5 a6 a7 a8 a9 a10 a11 a12 a13 a14 a15 a16 a17 a18 a19 a20 a21 a22 a23 a24 a25 a26 a27 a28 a29 a30).bind fun r31 =>
 (D_slices_Concat_uint64_uint64 ([a2, r31, a3])).bind fun r32 =>
 gd (zeroFits 8 (wI (a0 - ((((ln r32) : Nat) : Int))))) (gd (fits (ln r32 + ln ((List.replicate (tN (wI (a0 - ((((ln r32) : Nat) : Int))))) (0 : Int)))) 8) (some ((r32 ++ (List.replicate (tN (wI (a0 - ((((ln r32) : Nat) : Int))))) (0 : Int))))))
/- backstitch/check.Program -/
def D_check_Program (a0 : Int) (a1 : LO) : Op (Int) :=
 (D_check_program_form a0 a1).bind fun r2 =>
 cond (decide (r2 ≠ 0))
  (some r2)
  ((D_check_program_registers a0 a1).bind fun r3 =>
  cond (decide (r3 ≠ 0))
   (some r3)
   ((D_check_program_depth a0 a1).bind fun r4 =>
   cond (decide (r4 ≠ 0))
    (some r4)
    ((D_check_program_writes a0 a1).bind fun r5 =>
    cond (decide (r5 ≠ 0))
     (some r5)
     (some 0))))
/- backstitch/size.Sizes -/
def D_size_Sizes (a0 : LO) : Op (Int × List Int) :=
 (D_size_measure a0).bind fun r1 =>
 some ((r1.2.1, r1.2.2.1))
def D_flat_Code_L0 (a1 : LO) (r3 : Int × List Int) (r4 : Int × List Int) (s8 : Int × (List Int) × List (Int × Int × Int × Int × Int × Int)) : Op ((Int × (List Int) × List (Int × Int × Int × Int × Int × Int)) ⊕ (List (Int × Int × Int × Int × Int × Int))) :=
 cond (decide (s8.1 < ((((ln a1) : Nat) : Int))))
  ((rd a1 s8.1).bind fun x9 =>
  ((((((cond (decide (x9.1 = 7))
   ((ix s8.1 ((ln r4.2))).bind fun j10 =>
   (r4.2[j10]?).bind fun x11 =>
   some ((.inl ((decide (x11 = 0), s8.1, x11, decide (x11 = 0))))))
   (some ((.inr false)))) : Op ((Bool × Int × Int × Bool) ⊕ (Bool)))).bind fun s12 =>
  caseS s12 (fun u13 =>
   cond (u13.1)
    ((ix s8.1 ((ln r3.2))).bind fun j14 =>
    (r3.2[j14]?).bind fun x15 =>
    some ((.inl ((x15, u13.2.1, u13.2.2.1, u13.2.2.2, s8.2.1, s8.2.2)))))
    (cond (decide (x9.1 = 7))
     (gd (fits (ln s8.2.1 + 1) 8) (some ((.inr ((.inr ((.inl ((s8.1, u13.2.1, u13.2.2.1, u13.2.2.2, s8.2.2, (s8.2.1 ++ [(((ln s8.2.2) : Nat) : Int)])))))))))))
     (cond (decide (x9.1 = 0))
      ((ix (wI (((((ln s8.2.1) : Nat) : Int)) - 1)) ((ln s8.2.1))).bind fun j16 =>
      (s8.2.1[j16]?).bind fun x17 =>
      gd (cutG 0 (wI (((((ln s8.2.1) : Nat) : Int)) - 1)) ((ln s8.2.1))) ((ix x17 ((ln s8.2.2))).bind fun j18 =>
      (s8.2.2[j18]?).bind fun x19 =>
      gd (fits (ln ((List.set s8.2.2 j18 ((x19.1, (x19.2.1, (x19.2.2.1, (x19.2.2.2.1, (x19.2.2.2.2.1, wI (((((ln s8.2.2) : Nat) : Int)) + 1))))))))) + 1) 48) (some ((.inl ((s8.1, u13.2.1, u13.2.2.1, u13.2.2.2, (List.take (((tN (wI (((((ln s8.2.1) : Nat) : Int)) - 1))) - 0)) s8.2.1), ((List.set s8.2.2 j18 ((x19.1, (x19.2.1, (x19.2.2.1, (x19.2.2.2.1, (x19.2.2.2.2.1, wI (((((ln s8.2.2) : Nat) : Int)) + 1)))))))) ++ [(x9.1, (x9.2.1, (x9.2.2.1, (x9.2.2.2.1, (x9.2.2.2.2, wI (x17 + 1))))))]))))))))
      (some ((.inr ((.inr ((.inl ((s8.1, u13.2.1, u13.2.2.1, u13.2.2.2, s8.2.2, s8.2.1))))))))))))
   (fun w20 =>
   cond (w20)
    ((ix s8.1 ((ln r3.2))).bind fun j21 =>
    (r3.2[j21]?).bind fun x22 =>
    some ((.inr ((.inl ((x22, s8.2.1, s8.2.2)))))))
    (cond (decide (x9.1 = 7))
     (gd (fits (ln s8.2.1 + 1) 8) (some ((.inr ((.inr ((.inr ((s8.1, s8.2.2, (s8.2.1 ++ [(((ln s8.2.2) : Nat) : Int)])))))))))))
     (cond (decide (x9.1 = 0))
      ((ix (wI (((((ln s8.2.1) : Nat) : Int)) - 1)) ((ln s8.2.1))).bind fun j23 =>
      (s8.2.1[j23]?).bind fun x24 =>
      gd (cutG 0 (wI (((((ln s8.2.1) : Nat) : Int)) - 1)) ((ln s8.2.1))) ((ix x24 ((ln s8.2.2))).bind fun j25 =>
      (s8.2.2[j25]?).bind fun x26 =>
      gd (fits (ln ((List.set s8.2.2 j25 ((x26.1, (x26.2.1, (x26.2.2.1, (x26.2.2.2.1, (x26.2.2.2.2.1, wI (((((ln s8.2.2) : Nat) : Int)) + 1))))))))) + 1) 48) (some ((.inr ((.inl ((s8.1, (List.take (((tN (wI (((((ln s8.2.1) : Nat) : Int)) - 1))) - 0)) s8.2.1), ((List.set s8.2.2 j25 ((x26.1, (x26.2.1, (x26.2.2.1, (x26.2.2.2.1, (x26.2.2.2.2.1, wI (((((ln s8.2.2) : Nat) : Int)) + 1)))))))) ++ [(x9.1, (x9.2.1, (x9.2.2.1, (x9.2.2.2.1, (x9.2.2.2.2, wI (x24 + 1))))))]))))))))))
      (some ((.inr ((.inr ((.inr ((s8.1, s8.2.2, s8.2.1))))))))))))) : Op ((Int × Int × Int × Bool × (List Int) × List (Int × Int × Int × Int × Int × Int)) ⊕ ((Int × (List Int) × List (Int × Int × Int × Int × Int × Int)) ⊕ ((Int × Int × Int × Bool × (List (Int × Int × Int × Int × Int × Int)) × List Int) ⊕ (Int × (List (Int × Int × Int × Int × Int × Int)) × List Int)))))).bind fun s27 =>
  caseS s27 (fun u28 =>
   some (.inl ((wI (u28.1 + 1), u28.2.2.2.2.1, u28.2.2.2.2.2))))
   (fun w29 =>
   caseS w29 (fun u30 =>
    some (.inl ((wI (u30.1 + 1), u30.2.1, u30.2.2))))
    (fun w31 =>
    caseS w31 (fun u32 =>
     gd (fits (ln u32.2.2.2.2.1 + 1) 48) (some (.inl ((wI (u32.1 + 1), u32.2.2.2.2.2, (u32.2.2.2.2.1 ++ [(x9.1, (x9.2.1, (x9.2.2.1, (x9.2.2.2.1, (x9.2.2.2.2, 0)))))]))))))
     (fun w33 =>
     gd (fits (ln w33.2.1 + 1) 48) (some (.inl ((wI (w33.1 + 1), w33.2.2, (w33.2.1 ++ [(x9.1, (x9.2.1, (x9.2.2.1, (x9.2.2.2.1, (x9.2.2.2.2, 0)))))])))))))))
  (some (.inr s8.2.2))
/- backstitch/flat.Code -/
def D_flat_Code (a0 : Int) (a1 : LO) : Op (Int × List (Int × Int × Int × Int × Int × Int)) :=
 (D_check_Program a0 a1).bind fun r2 =>
 cond (decide (r2 ≠ 0))
  (some ((r2, [])))
  ((D_nest_Match a1).bind fun r3 =>
  (D_size_Sizes a1).bind fun r4 =>
  (loopN (D_flat_Code_L0 a1 r3 r4) BIG ((0, [], []))).bind fun r34 =>
  some ((0, r34)))
/- backstitch/tape.ready -/
def D_tape_ready (a0 : Int) (a1 : LO) (a2 a3 : List Int) : Op (Int × List (Int × Int × Int × Int × Int × Int)) :=
 (D_flat_Code a0 a1).bind fun r4 =>
 cond (decide (r4.1 ≠ 0))
  (some ((r4.1, [])))
  ((D_size_Writes a1).bind fun r5 =>
  cond (decide (((((ln a2) : Nat) : Int)) ≠ a0))
   (some ((10, [])))
   (cond (decide (((((ln a3) : Nat) : Int)) < r5.1))
    (some ((15, [])))
    (some ((0, r4.2)))))
/- backstitch/opcode.Apply -/
def D_opcode_Apply (a0 a1 a2 a3 a4 a5 a6 : Int) : Op (Int) :=
 cond (decide (a0 = 1))
  (some (wU (a5 + a6)))
  (cond (decide (a0 = 2))
   (some (wU (a5 - a6)))
   (cond (decide (a0 = 3))
    (some (wU (a5 * a6)))
    (cond (decide (a0 = 4))
     (some (wU (0 - a5)))
     (cond (decide (a0 = 5))
      (some a4)
      (cond (decide (a0 = 6))
       (some a5)
       (some 0))))))
def D_tape_exec_L0 (a0 : List (Int × Int × Int × Int × Int × Int)) : (Int × Int × Int × (List Int) × (List Int) × Int × Int × Int × Int × Int × Int × Int × Int) → Op ((Int × Int × Int × (List Int) × (List Int) × Int × Int × Int × Int × Int × Int × Int × Int) ⊕ (Int × (List Int) × (List Int) × Int × Int × Int × Int × Int × Int × Int × Int)) := fun ⟨s22_0, s22_1, s22_2, s22_3, s22_4, s22_5, s22_6, s22_7, s22_8, s22_9, s22_10, s22_11, s22_12⟩ =>
 cond (decide (s22_0 = ((((ln a0) : Nat) : Int))))
  (some (.inr (((s22_1, s22_3, s22_4, s22_5, s22_6, s22_7, s22_8, s22_9, s22_10, s22_11, s22_12)))))
  ((ix s22_0 ((ln a0))).bind fun j23 =>
  (a0[j23]?).bind fun x24 =>
  cond (decide (x24.1 = 7))
   ((ix s22_2 8).bind fun j25 =>
   some (.inl ((wI (s22_0 + 1), s22_1, wI (s22_2 + 1), s22_3, s22_4, (cond (Nat.beq j25 0) x24.2.2.2.2.1 s22_5), (cond (Nat.beq j25 1) x24.2.2.2.2.1 s22_6), (cond (Nat.beq j25 2) x24.2.2.2.2.1 s22_7), (cond (Nat.beq j25 3) x24.2.2.2.2.1 s22_8), (cond (Nat.beq j25 4) x24.2.2.2.2.1 s22_9), (cond (Nat.beq j25 5) x24.2.2.2.2.1 s22_10), (cond (Nat.beq j25 6) x24.2.2.2.2.1 s22_11), (cond (Nat.beq j25 7) x24.2.2.2.2.1 s22_12)))))
   (cond (decide (x24.1 = 0))
    ((ix (wI (s22_2 - 1)) 8).bind fun j26 =>
    (ix (wI (s22_2 - 1)) 8).bind fun j27 =>
    (ix (wI (s22_2 - 1)) 8).bind fun j28 =>
    cond (decide (0 < ((List.getD [(cond (Nat.beq j27 0) (wU (((List.getD [s22_5, s22_6, s22_7, s22_8, s22_9, s22_10, s22_11, s22_12] j26 0)) - 1)) s22_5), (cond (Nat.beq j27 1) (wU (((List.getD [s22_5, s22_6, s22_7, s22_8, s22_9, s22_10, s22_11, s22_12] j26 0)) - 1)) s22_6), (cond (Nat.beq j27 2) (wU (((List.getD [s22_5, s22_6, s22_7, s22_8, s22_9, s22_10, s22_11, s22_12] j26 0)) - 1)) s22_7), (cond (Nat.beq j27 3) (wU (((List.getD [s22_5, s22_6, s22_7, s22_8, s22_9, s22_10, s22_11, s22_12] j26 0)) - 1)) s22_8), (cond (Nat.beq j27 4) (wU (((List.getD [s22_5, s22_6, s22_7, s22_8, s22_9, s22_10, s22_11, s22_12] j26 0)) - 1)) s22_9), (cond (Nat.beq j27 5) (wU (((List.getD [s22_5, s22_6, s22_7, s22_8, s22_9, s22_10, s22_11, s22_12] j26 0)) - 1)) s22_10), (cond (Nat.beq j27 6) (wU (((List.getD [s22_5, s22_6, s22_7, s22_8, s22_9, s22_10, s22_11, s22_12] j26 0)) - 1)) s22_11), (cond (Nat.beq j27 7) (wU (((List.getD [s22_5, s22_6, s22_7, s22_8, s22_9, s22_10, s22_11, s22_12] j26 0)) - 1)) s22_12)] j28 0))))
     (some (.inl ((x24.2.2.2.2.2, s22_1, s22_2, s22_3, s22_4, (cond (Nat.beq j27 0) (wU (((List.getD [s22_5, s22_6, s22_7, s22_8, s22_9, s22_10, s22_11, s22_12] j26 0)) - 1)) s22_5), (cond (Nat.beq j27 1) (wU (((List.getD [s22_5, s22_6, s22_7, s22_8, s22_9, s22_10, s22_11, s22_12] j26 0)) - 1)) s22_6), (cond (Nat.beq j27 2) (wU (((List.getD [s22_5, s22_6, s22_7, s22_8, s22_9, s22_10, s22_11, s22_12] j26 0)) - 1)) s22_7), (cond (Nat.beq j27 3) (wU (((List.getD [s22_5, s22_6, s22_7, s22_8, s22_9, s22_10, s22_11, s22_12] j26 0)) - 1)) s22_8), (cond (Nat.beq j27 4) (wU (((List.getD [s22_5, s22_6, s22_7, s22_8, s22_9, s22_10, s22_11, s22_12] j26 0)) - 1)) s22_9), (cond (Nat.beq j27 5) (wU (((List.getD [s22_5, s22_6, s22_7, s22_8, s22_9, s22_10, s22_11, s22_12] j26 0)) - 1)) s22_10), (cond (Nat.beq j27 6) (wU (((List.getD [s22_5, s22_6, s22_7, s22_8, s22_9, s22_10, s22_11, s22_12] j26 0)) - 1)) s22_11), (cond (Nat.beq j27 7) (wU (((List.getD [s22_5, s22_6, s22_7, s22_8, s22_9, s22_10, s22_11, s22_12] j26 0)) - 1)) s22_12)))))
     (some (.inl ((wI (s22_0 + 1), s22_1, wI (s22_2 - 1), s22_3, s22_4, (cond (Nat.beq j27 0) (wU (((List.getD [s22_5, s22_6, s22_7, s22_8, s22_9, s22_10, s22_11, s22_12] j26 0)) - 1)) s22_5), (cond (Nat.beq j27 1) (wU (((List.getD [s22_5, s22_6, s22_7, s22_8, s22_9, s22_10, s22_11, s22_12] j26 0)) - 1)) s22_6), (cond (Nat.beq j27 2) (wU (((List.getD [s22_5, s22_6, s22_7, s22_8, s22_9, s22_10, s22_11, s22_12] j26 0)) - 1)) s22_7), (cond (Nat.beq j27 3) (wU (((List.getD [s22_5, s22_6, s22_7, s22_8, s22_9, s22_10, s22_11, s22_12] j26 0)) - 1)) s22_8), (cond (Nat.beq j27 4) (wU (((List.getD [s22_5, s22_6, s22_7, s22_8, s22_9, s22_10, s22_11, s22_12] j26 0)) - 1)) s22_9), (cond (Nat.beq j27 5) (wU (((List.getD [s22_5, s22_6, s22_7, s22_8, s22_9, s22_10, s22_11, s22_12] j26 0)) - 1)) s22_10), (cond (Nat.beq j27 6) (wU (((List.getD [s22_5, s22_6, s22_7, s22_8, s22_9, s22_10, s22_11, s22_12] j26 0)) - 1)) s22_11), (cond (Nat.beq j27 7) (wU (((List.getD [s22_5, s22_6, s22_7, s22_8, s22_9, s22_10, s22_11, s22_12] j26 0)) - 1)) s22_12))))))
    ((ix x24.2.1 ((ln s22_3))).bind fun j29 =>
    (s22_3[j29]?).bind fun x30 =>
    (ix s22_1 ((ln s22_4))).bind fun j31 =>
    (s22_4[j31]?).bind fun x32 =>
    (ix x24.2.2.1 ((ln s22_3))).bind fun j33 =>
    (s22_3[j33]?).bind fun x34 =>
    (ix x24.2.2.2.1 ((ln s22_3))).bind fun j35 =>
    (s22_3[j35]?).bind fun x36 =>
    (D_opcode_Apply x24.1 x24.2.1 x24.2.2.1 x24.2.2.2.1 x24.2.2.2.2.1 x34 x36).bind fun r37 =>
    (ix x24.2.1 ((ln s22_3))).bind fun j38 =>
    (s22_3[j38]?).bind fun x39 =>
    some (.inl ((wI (s22_0 + 1), wI (s22_1 + 1), s22_2, (List.set s22_3 j38 r37), (List.set s22_4 j31 x30), s22_5, s22_6, s22_7, s22_8, s22_9, s22_10, s22_11, s22_12))))))
/- backstitch/tape.exec -/
def D_tape_exec (a0 : List (Int × Int × Int × Int × Int × Int)) (a1 a2 : List Int) : Op (Int × (List Int) × List Int) :=
 (loopN (D_tape_exec_L0 a0) BIG ((0, 0, 0, a1, a2, 0, 0, 0, 0, 0, 0, 0, 0))).bind fun ⟨r40_0, r40_1, r40_2, r40_3, r40_4, r40_5, r40_6, r40_7, r40_8, r40_9, r40_10⟩ =>
 some ((r40_0, r40_1, r40_2))
/- backstitch/tape.Record -/
def D_tape_Record (a0 : Int) (a1 : LO) (a2 a3 : List Int) : Op (Int × Int × (List Int) × List Int) :=
 (D_tape_ready a0 a1 a2 a3).bind fun r4 =>
 cond (decide (r4.1 ≠ 0))
  (some ((0, r4.1, a2, a3)))
  ((D_tape_exec r4.2 a2 a3).bind fun r5 =>
  some ((r5.1, 0, r5.2.1, r5.2.2)))
/- (*backstitch/drive.Driver).taped -/
def D_drive_Driver_taped (a0 a1 a2 a3 a4 a5 a6 a7 a8 a9 a10 a11 a12 a13 a14 a15 a16 : Int) (a17 a18 : List Int) (a19 a20 : LO) (a21 : List Int) (a22 a23 a24 a25 : Int) (a26 : List Int) : Op (Int × Int × Int × Int × Int × Int × Int × Int × Int × Int × Int × Int × Int × Int × Int × Int × Int × (List Int) × (List Int) × List Int) :=
 (D_plan_Of a4 a17 a18 a5 a19 a6 a20 a7 a8).bind fun r27 =>
 gd (Nat.beq 1 (Sh.w (.int .u64)) && decide (0 ≤ r27.1) && decide (r27.1 ≤ r27.1) && decide ((8 : Int) * r27.1 ≤ 140737488355328) && Nat.ble 1 8) ((D_drive_Driver_get 1 a0 a1 a2 a3 a4 a5 a6 a7 a8 a9 a10 a11 a12 a13 a14 a15 a16 a17 a18 a19 a20 a21 a22 a23 a24 a25 a26).bind fun r28 =>
 gd (Nat.beq 1 (Sh.w (.int .u64)) && decide (0 ≤ r27.1) && decide (r27.1 ≤ r27.1) && decide ((8 : Int) * r27.1 ≤ 140737488355328) && Nat.ble 1 8) ((D_drive_Driver_begin a5 a19 r28 ([wU (a10)]) a0 a1 a2 a3 a4 a5 a6 a7 a8 a9 a10 a11 a12 a13 a14 a15 a16 a17 a18 a19 a20 a21 a22 a23 a24 a25 a26).bind fun r29 =>
 gd (Nat.beq 1 (Sh.w (.int .u64)) && decide (0 ≤ r27.1) && decide (r27.1 ≤ r27.1) && decide ((8 : Int) * r27.1 ≤ 140737488355328) && Nat.ble 1 8) ((D_tape_Record a5 a19 r29 ((List.replicate (tN r27.1) (0 : Int)))).bind fun r30 =>
 (D_drive_Driver_put 2 r30.2.2.1 a0 a1 a2 a3 a4 a5 a6 a7 a8 a9 a10 a11 a12 a13 a14 a15 a16 a17 a18 a19 a20 a21 a22 a23 a24 a25 a26).bind fun r31 =>
 some ((a0, a1, a2, a3, a4, a5, a6, a7, a8, a9, a10, a11, a12, wI (a13 + 1), a14, a15, a16, r31, r30.2.2.1, r30.2.2.2)))))
/- (*backstitch/drive.Driver).shelf -/
def D_drive_Driver_shelf (a0 a1 a2 a3 a4 a5 a6 a7 a8 a9 a10 a11 a12 a13 a14 a15 a16 a17 : Int) (a18 a19 : List Int) (a20 a21 : LO) (a22 : List Int) (a23 a24 a25 a26 : Int) (a27 : List Int) : Op (Int) :=
 (ix 8 ((ln a22))).bind fun j28 =>
 (a22[j28]?).bind fun x29 =>
 some (wI (x29 + (wI (a0 * a3))))
/- backstitch/drive.wide -/
def D_drive_wide (a0 : Int) (a1 : LO) (a2 : List Int) : Op (List Int) :=
 (D_slices_Clone_uint64_uint64 a2).bind fun r3 =>
 gd (zeroFits 8 (wI (a0 - ((((ln a2) : Nat) : Int))))) (gd (fits (ln r3 + ln ((List.replicate (tN (wI (a0 - ((((ln a2) : Nat) : Int))))) (0 : Int)))) 8) (some ((r3 ++ (List.replicate (tN (wI (a0 - ((((ln a2) : Nat) : Int))))) (0 : Int))))))
/- backstitch/opcode.Partials -/
def D_opcode_Partials (a0 a1 a2 a3 a4 a5 a6 : Int) : Op (Int × Int) :=
 cond (decide (a0 = 1))
  (some ((1, 1)))
  (cond (decide (a0 = 2))
   (some ((1, 18446744073709551615)))
   (cond (decide (a0 = 3))
    (some ((a6, a5)))
    (cond (decide (a0 = 4))
     (some ((18446744073709551615, 0)))
     (cond (decide (a0 = 6))
      (some ((1, 0)))
      (some ((0, 0)))))))
/- (backstitch/sweep.state).take -/
def D_sweep_state_take (a0 a1 a2 a3 a4 a5 : Int) (a6 a7 a8 : List Int) : Op ((List Int) × List Int) :=
 (ix a1 ((ln a7))).bind fun j9 =>
 (a7[j9]?).bind fun x10 =>
 (ix a1 ((ln a7))).bind fun j11 =>
 (a7[j11]?).bind fun x12 =>
 (ix a5 ((ln a8))).bind fun j13 =>
 (a8[j13]?).bind fun x14 =>
 (ix a1 ((ln a6))).bind fun j15 =>
 (a6[j15]?).bind fun x16 =>
 (ix a2 ((ln ((List.set a6 j15 x14))))).bind fun j17 =>
 (((List.set a6 j15 x14))[j17]?).bind fun x18 =>
 (ix a3 ((ln ((List.set a6 j15 x14))))).bind fun j19 =>
 (((List.set a6 j15 x14))[j19]?).bind fun x20 =>
 (D_opcode_Partials a0 a1 a2 a3 a4 x18 x20).bind fun r21 =>
 (ix a2 ((ln ((List.set a7 j11 0))))).bind fun j22 =>
 (((List.set a7 j11 0))[j22]?).bind fun x23 =>
 (ix a2 ((ln ((List.set a7 j11 0))))).bind fun j24 =>
 (((List.set a7 j11 0))[j24]?).bind fun x25 =>
 (ix a3 ((ln ((List.set ((List.set a7 j11 0)) j24 (wU (x23 + (wU (r21.1 * x10))))))))).bind fun j26 =>
 (((List.set ((List.set a7 j11 0)) j24 (wU (x23 + (wU (r21.1 * x10))))))[j26]?).bind fun x27 =>
 (ix a3 ((ln ((List.set ((List.set a7 j11 0)) j24 (wU (x23 + (wU (r21.1 * x10))))))))).bind fun j28 =>
 (((List.set ((List.set a7 j11 0)) j24 (wU (x23 + (wU (r21.1 * x10))))))[j28]?).bind fun x29 =>
 some (((List.set a6 j15 x14), (List.set ((List.set ((List.set a7 j11 0)) j24 (wU (x23 + (wU (r21.1 * x10)))))) j28 (wU (x27 + (wU (r21.2 * x10)))))))
def D_sweep_state_back_L0 (a3 : List Int) (a4 : List (Int × Int × Int × Int × Int × Int)) : (Int × Int × Int × (List Int) × (List Int) × Int × Int × Int × Int × Int × Int × Int × Int) → Op ((Int × Int × Int × (List Int) × (List Int) × Int × Int × Int × Int × Int × Int × Int × Int) ⊕ ((List Int) × (List Int) × Int × Int × Int × Int × Int × Int × Int × Int)) := fun ⟨s26_0, s26_1, s26_2, s26_3, s26_4, s26_5, s26_6, s26_7, s26_8, s26_9, s26_10, s26_11, s26_12⟩ =>
 cond (decide (s26_0 < 0))
  (some (.inr (((s26_3, s26_4, s26_5, s26_6, s26_7, s26_8, s26_9, s26_10, s26_11, s26_12)))))
  ((ix s26_0 ((ln a4))).bind fun j27 =>
  (a4[j27]?).bind fun x28 =>
  cond (decide (x28.1 = 0))
   ((ix (wI (x28.2.2.2.2.2 - 1)) ((ln a4))).bind fun j29 =>
   (a4[j29]?).bind fun x30 =>
   (ix s26_1 8).bind fun j31 =>
   some (.inl ((wI (s26_0 - 1), wI (s26_1 + 1), s26_2, s26_3, s26_4, (cond (Nat.beq j31 0) x30.2.2.2.2.1 s26_5), (cond (Nat.beq j31 1) x30.2.2.2.2.1 s26_6), (cond (Nat.beq j31 2) x30.2.2.2.2.1 s26_7), (cond (Nat.beq j31 3) x30.2.2.2.2.1 s26_8), (cond (Nat.beq j31 4) x30.2.2.2.2.1 s26_9), (cond (Nat.beq j31 5) x30.2.2.2.2.1 s26_10), (cond (Nat.beq j31 6) x30.2.2.2.2.1 s26_11), (cond (Nat.beq j31 7) x30.2.2.2.2.1 s26_12)))))
   (cond (decide (x28.1 = 7))
    ((ix (wI (s26_1 - 1)) 8).bind fun j32 =>
    (ix (wI (s26_1 - 1)) 8).bind fun j33 =>
    (ix (wI (s26_1 - 1)) 8).bind fun j34 =>
    cond (decide (0 < ((List.getD [(cond (Nat.beq j33 0) (wU (((List.getD [s26_5, s26_6, s26_7, s26_8, s26_9, s26_10, s26_11, s26_12] j32 0)) - 1)) s26_5), (cond (Nat.beq j33 1) (wU (((List.getD [s26_5, s26_6, s26_7, s26_8, s26_9, s26_10, s26_11, s26_12] j32 0)) - 1)) s26_6), (cond (Nat.beq j33 2) (wU (((List.getD [s26_5, s26_6, s26_7, s26_8, s26_9, s26_10, s26_11, s26_12] j32 0)) - 1)) s26_7), (cond (Nat.beq j33 3) (wU (((List.getD [s26_5, s26_6, s26_7, s26_8, s26_9, s26_10, s26_11, s26_12] j32 0)) - 1)) s26_8), (cond (Nat.beq j33 4) (wU (((List.getD [s26_5, s26_6, s26_7, s26_8, s26_9, s26_10, s26_11, s26_12] j32 0)) - 1)) s26_9), (cond (Nat.beq j33 5) (wU (((List.getD [s26_5, s26_6, s26_7, s26_8, s26_9, s26_10, s26_11, s26_12] j32 0)) - 1)) s26_10), (cond (Nat.beq j33 6) (wU (((List.getD [s26_5, s26_6, s26_7, s26_8, s26_9, s26_10, s26_11, s26_12] j32 0)) - 1)) s26_11), (cond (Nat.beq j33 7) (wU (((List.getD [s26_5, s26_6, s26_7, s26_8, s26_9, s26_10, s26_11, s26_12] j32 0)) - 1)) s26_12)] j34 0))))
     (some (.inl ((wI (x28.2.2.2.2.2 - 2), s26_1, s26_2, s26_3, s26_4, (cond (Nat.beq j33 0) (wU (((List.getD [s26_5, s26_6, s26_7, s26_8, s26_9, s26_10, s26_11, s26_12] j32 0)) - 1)) s26_5), (cond (Nat.beq j33 1) (wU (((List.getD [s26_5, s26_6, s26_7, s26_8, s26_9, s26_10, s26_11, s26_12] j32 0)) - 1)) s26_6), (cond (Nat.beq j33 2) (wU (((List.getD [s26_5, s26_6, s26_7, s26_8, s26_9, s26_10, s26_11, s26_12] j32 0)) - 1)) s26_7), (cond (Nat.beq j33 3) (wU (((List.getD [s26_5, s26_6, s26_7, s26_8, s26_9, s26_10, s26_11, s26_12] j32 0)) - 1)) s26_8), (cond (Nat.beq j33 4) (wU (((List.getD [s26_5, s26_6, s26_7, s26_8, s26_9, s26_10, s26_11, s26_12] j32 0)) - 1)) s26_9), (cond (Nat.beq j33 5) (wU (((List.getD [s26_5, s26_6, s26_7, s26_8, s26_9, s26_10, s26_11, s26_12] j32 0)) - 1)) s26_10), (cond (Nat.beq j33 6) (wU (((List.getD [s26_5, s26_6, s26_7, s26_8, s26_9, s26_10, s26_11, s26_12] j32 0)) - 1)) s26_11), (cond (Nat.beq j33 7) (wU (((List.getD [s26_5, s26_6, s26_7, s26_8, s26_9, s26_10, s26_11, s26_12] j32 0)) - 1)) s26_12)))))
     (some (.inl ((wI (s26_0 - 1), wI (s26_1 - 1), s26_2, s26_3, s26_4, (cond (Nat.beq j33 0) (wU (((List.getD [s26_5, s26_6, s26_7, s26_8, s26_9, s26_10, s26_11, s26_12] j32 0)) - 1)) s26_5), (cond (Nat.beq j33 1) (wU (((List.getD [s26_5, s26_6, s26_7, s26_8, s26_9, s26_10, s26_11, s26_12] j32 0)) - 1)) s26_6), (cond (Nat.beq j33 2) (wU (((List.getD [s26_5, s26_6, s26_7, s26_8, s26_9, s26_10, s26_11, s26_12] j32 0)) - 1)) s26_7), (cond (Nat.beq j33 3) (wU (((List.getD [s26_5, s26_6, s26_7, s26_8, s26_9, s26_10, s26_11, s26_12] j32 0)) - 1)) s26_8), (cond (Nat.beq j33 4) (wU (((List.getD [s26_5, s26_6, s26_7, s26_8, s26_9, s26_10, s26_11, s26_12] j32 0)) - 1)) s26_9), (cond (Nat.beq j33 5) (wU (((List.getD [s26_5, s26_6, s26_7, s26_8, s26_9, s26_10, s26_11, s26_12] j32 0)) - 1)) s26_10), (cond (Nat.beq j33 6) (wU (((List.getD [s26_5, s26_6, s26_7, s26_8, s26_9, s26_10, s26_11, s26_12] j32 0)) - 1)) s26_11), (cond (Nat.beq j33 7) (wU (((List.getD [s26_5, s26_6, s26_7, s26_8, s26_9, s26_10, s26_11, s26_12] j32 0)) - 1)) s26_12))))))
    ((D_sweep_state_take x28.1 x28.2.1 x28.2.2.1 x28.2.2.2.1 x28.2.2.2.2.1 (wI (s26_2 - 1)) s26_3 s26_4 a3).bind fun r35 =>
    some (.inl ((wI (s26_0 - 1), s26_1, wI (s26_2 - 1), r35.1, r35.2, s26_5, s26_6, s26_7, s26_8, s26_9, s26_10, s26_11, s26_12))))))
/- (backstitch/sweep.state).back -/
def D_sweep_state_back (a0 : Int) (a1 a2 a3 : List Int) (a4 : List (Int × Int × Int × Int × Int × Int)) : Op ((List Int) × List Int) :=
 (loopN (D_sweep_state_back_L0 a3 a4) BIG ((wI (((((ln a4) : Nat) : Int)) - 1), 0, a0, a1, a2, 0, 0, 0, 0, 0, 0, 0, 0))).bind fun ⟨r36_0, r36_1, r36_2, r36_3, r36_4, r36_5, r36_6, r36_7, r36_8, r36_9⟩ =>
 some ((r36_0, r36_1))
/- backstitch/sweep.Back -/
def D_sweep_Back (a0 : Int) (a1 : LO) (a2 a3 a4 : List Int) : Op (Int × (List Int) × List Int) :=
 (D_flat_Code a0 a1).bind fun r5 =>
 cond (decide (r5.1 ≠ 0))
  (some ((r5.1, a2, a3)))
  ((D_size_Writes a1).bind fun r6 =>
  cond (decide (((((ln a2) : Nat) : Int)) ≠ a0))
   (some ((10, a2, a3)))
   (cond (decide (((((ln a3) : Nat) : Int)) ≠ a0))
    (some ((10, a2, a3)))
    (cond (decide (((((ln a4) : Nat) : Int)) < r6.1))
     (some ((15, a2, a3)))
     ((D_sweep_state_back r6.1 a2 a3 a4 r5.2).bind fun r7 =>
     some ((0, r7.1, r7.2))))))
def D_drive_Driver_back_L0 (a22 : List Int) (r31 : Int × (List Int) × List Int) (r34 : List Int) (s37 : Int × List Int) : Op ((Int × List Int) ⊕ (List Int)) :=
 cond (decide (s37.1 < ((((ln r34) : Nat) : Int))))
  ((ix s37.1 ((ln s37.2))).bind fun j38 =>
  (s37.2[j38]?).bind fun x39 =>
  (ix (wI (((((ln a22) : Nat) : Int)) + s37.1)) ((ln r31.2.2))).bind fun j40 =>
  (r31.2.2[j40]?).bind fun x41 =>
  (ix s37.1 ((ln s37.2))).bind fun j42 =>
  (s37.2[j42]?).bind fun x43 =>
  some (.inl ((wI (s37.1 + 1), (List.set s37.2 j42 (wU (x39 + x41)))))))
  (some (.inr s37.2))
/- (*backstitch/drive.Driver).back -/
def D_drive_Driver_back (a0 a1 a2 a3 a4 a5 a6 a7 a8 a9 a10 a11 a12 a13 a14 a15 a16 a17 : Int) (a18 : LO) (a19 a20 a21 a22 a23 : List Int) (a24 : LO) (a25 : List Int) (a26 a27 a28 a29 : Int) (a30 : List Int) : Op (Int × Int × Int × Int × Int × Int × Int × Int × Int × Int × Int × Int × Int × Int × Int × Int × Int × (List Int) × (List Int) × List Int) :=
 (D_sweep_Back a0 a18 a19 a20 a21).bind fun r31 =>
 (D_drive_Driver_put 4 r31.2.2 a1 a2 a3 a4 a5 a6 a7 a8 a9 a10 a11 a12 a13 a14 a15 a16 a17 a22 a23 a24 a18 a25 a26 a27 a28 a29 a30).bind fun r32 =>
 gd (cutG 0 ((((ln a22) : Nat) : Int)) ((ln r31.2.2))) ((D_drive_Driver_put 5 ((List.take (((tN ((((ln a22) : Nat) : Int))) - 0)) (List.drop 0 r31.2.2))) a1 a2 a3 a4 a5 a6 a7 a8 a9 a10 a11 a12 a13 a14 a15 a16 a17 a22 a23 a24 a18 a25 a26 a27 a28 a29 r32).bind fun r33 =>
 (D_drive_Driver_get 6 a1 a2 a3 a4 a5 a6 a7 a8 a9 a10 a11 a12 a13 a14 a15 a16 a17 a22 a23 a24 a18 a25 a26 a27 a28 a29 r33).bind fun r34 =>
 (loopN (D_drive_Driver_back_L0 a22 r31 r34) BIG ((0, r34))).bind fun r44 =>
 (D_drive_Driver_put 6 r44 a1 a2 a3 a4 a5 a6 a7 a8 a9 a10 a11 a12 a13 a14 a15 a16 a17 a22 a23 a24 a18 a25 a26 a27 a28 a29 r33).bind fun r45 =>
 some ((a1, a2, a3, a4, a5, a6, a7, a8, a9, a10, a11, a12, a13, a14, a15, wI (a16 + 1), a17, r31.2.1, r31.2.2, r45)))
/- (*backstitch/drive.Driver).end -/
def D_drive_Driver_end (a0 : List Int) (a1 a2 a3 a4 a5 a6 a7 a8 a9 a10 a11 a12 a13 a14 a15 a16 a17 : Int) (a18 a19 : List Int) (a20 a21 : LO) (a22 : List Int) (a23 a24 a25 a26 : Int) (a27 : List Int) : Op (Int × Int × Int × Int × Int × Int × Int × Int × Int × Int × Int × Int × Int × Int × Int × Int × Int × List Int) :=
 (D_plan_Of a5 a18 a19 a6 a20 a7 a21 a8 a9).bind fun r28 =>
 gd (Nat.beq 1 (Sh.w (.int .u64)) && decide (0 ≤ r28.2) && decide (r28.2 ≤ r28.2) && decide ((8 : Int) * r28.2 ≤ 140737488355328) && Nat.ble 1 8) ((D_drive_Driver_begin a7 a21 a0 [] a1 a2 a3 a4 a5 a6 a7 a8 a9 a10 a11 a12 a13 a14 a15 a16 a17 a18 a19 a20 a21 a22 a23 a24 a25 a26 a27).bind fun r29 =>
 gd (Nat.beq 1 (Sh.w (.int .u64)) && decide (0 ≤ r28.2) && decide (r28.2 ≤ r28.2) && decide ((8 : Int) * r28.2 ≤ 140737488355328) && Nat.ble 1 8) ((D_tape_Record a7 a21 r29 ((List.replicate (tN r28.2) (0 : Int)))).bind fun r30 =>
 (ix 0 ((ln r30.2.2.1))).bind fun j31 =>
 (r30.2.2.1[j31]?).bind fun x32 =>
 (D_drive_Driver_put 3 r30.2.2.1 a1 a2 a3 a4 a5 a6 a7 a8 a9 a10 a11 a12 a13 a14 (wI (a15 + 1)) a16 x32 a18 a19 a20 a21 a22 a23 a24 a25 a26 a27).bind fun r33 =>
 (D_drive_wide a7 a21 [1]).bind fun r34 =>
 (D_drive_Driver_back a7 a1 a2 a3 a4 a5 a6 a7 a8 a9 a10 a11 a12 a13 a14 (wI (a15 + 1)) a16 x32 a21 r30.2.2.1 r34 r30.2.2.2 a18 a19 a20 a22 a23 a24 a25 a26 r33).bind fun ⟨r35_0, r35_1, r35_2, r35_3, r35_4, r35_5, r35_6, r35_7, r35_8, r35_9, r35_10, r35_11, r35_12, r35_13, r35_14, r35_15, r35_16, r35_17, r35_18, r35_19⟩ =>
 some ((r35_0, r35_1, r35_2, r35_3, r35_4, r35_5, r35_6, r35_7, r35_8, r35_9, r35_10, r35_11, r35_12, r35_13, r35_14, r35_15, r35_16, r35_19))))
/- (*backstitch/meter.Meter).Drop -/
def D_meter_Meter_Drop (a0 a1 a2 a3 : Int) : Op (Int × Int × Int × Int) :=
 cond (decide (a0 < 0))
  (some ((2, a1, a2, a3)))
  (cond (decide (a1 < a0))
   (some ((2, a1, a2, a3)))
   ((D_meter_counter_add (wI (0 - a0)) a1 a2 a3).bind fun r4 =>
   some ((0, r4.1, r4.2.1, r4.2.2))))
/- (*backstitch/drive.Driver).seed -/
def D_drive_Driver_seed (a0 a1 a2 a3 a4 a5 a6 a7 a8 a9 a10 a11 a12 a13 a14 a15 a16 a17 : Int) (a18 a19 : List Int) (a20 a21 : LO) (a22 : List Int) (a23 a24 a25 a26 : Int) (a27 : List Int) : Op (Int × Int × Int × Int × Int × Int × Int × Int × Int × Int × Int × Int × Int × Int × Int × Int × Int × Int × Int × Int × List Int) :=
 (D_plan_Of a5 a18 a19 a6 a20 a7 a21 a8 a9).bind fun r28 =>
 (D_meter_Meter_Hold r28.2 a24 a25 a26).bind fun r29 =>
 (D_drive_Driver_get 1 a1 a2 a3 a4 a5 a6 a7 a8 a9 a10 a11 a12 a13 a14 a15 a16 a17 a18 a19 a20 a21 a22 a23 r29.2.1 r29.2.2.1 r29.2.2.2 a27).bind fun r30 =>
 (D_drive_Driver_end r30 a1 a2 a3 a4 a5 a6 a7 a8 a9 a10 a11 a12 a13 a14 a15 a16 a17 a18 a19 a20 a21 a22 a23 r29.2.1 r29.2.2.1 r29.2.2.2 a27).bind fun ⟨r31_0, r31_1, r31_2, r31_3, r31_4, r31_5, r31_6, r31_7, r31_8, r31_9, r31_10, r31_11, r31_12, r31_13, r31_14, r31_15, r31_16, r31_17⟩ =>
 (D_meter_Meter_Drop r28.2 r29.2.1 r29.2.2.1 r29.2.2.2).bind fun r32 =>
 some ((r31_0, r31_1, r31_2, r31_3, r31_4, r31_5, r31_6, r31_7, r31_8, r31_9, r31_10, r31_11, r31_12, r31_13, r31_14, r31_15, r31_16, r32.2.1, r32.2.2.1, r32.2.2.2, r31_17))
def D_drive_Driver_plain_L0 (a19 : List Int) (r44 : List Int) (r48 : List Int) (s51 : Int × List Int) : Op ((Int × List Int) ⊕ (List Int)) :=
 cond (decide (s51.1 < ((((ln r48) : Nat) : Int))))
  ((ix s51.1 ((ln s51.2))).bind fun j52 =>
  (s51.2[j52]?).bind fun x53 =>
  (ix (wI (((((ln a19) : Nat) : Int)) + s51.1)) ((ln r44))).bind fun j54 =>
  (r44[j54]?).bind fun x55 =>
  (ix s51.1 ((ln s51.2))).bind fun j56 =>
  (s51.2[j56]?).bind fun x57 =>
  some (.inl ((wI (s51.1 + 1), (List.set s51.2 j56 (wU (x53 + x55)))))))
  (some (.inr s51.2))
def D_drive_Driver_plain_L1 (a19 : List Int) (r44 : List Int) (r65 : List Int) (s68 : Int × List Int) : Op ((Int × List Int) ⊕ (List Int)) :=
 cond (decide (s68.1 < ((((ln r65) : Nat) : Int))))
  ((ix s68.1 ((ln s68.2))).bind fun j69 =>
  (s68.2[j69]?).bind fun x70 =>
  (ix (wI (((((ln a19) : Nat) : Int)) + s68.1)) ((ln r44))).bind fun j71 =>
  (r44[j71]?).bind fun x72 =>
  (ix s68.1 ((ln s68.2))).bind fun j73 =>
  (s68.2[j73]?).bind fun x74 =>
  some (.inl ((wI (s68.1 + 1), (List.set s68.2 j73 (wU (x70 + x72)))))))
  (some (.inr s68.2))
def D_drive_Driver_plain_L2 (a19 : List Int) (r44 : List Int) (r81 : List Int) (s84 : Int × List Int) : Op ((Int × List Int) ⊕ (List Int)) :=
 cond (decide (s84.1 < ((((ln r81) : Nat) : Int))))
  ((ix s84.1 ((ln s84.2))).bind fun j85 =>
  (s84.2[j85]?).bind fun x86 =>
  (ix (wI (((((ln a19) : Nat) : Int)) + s84.1)) ((ln r44))).bind fun j87 =>
  (r44[j87]?).bind fun x88 =>
  (ix s84.1 ((ln s84.2))).bind fun j89 =>
  (s84.2[j89]?).bind fun x90 =>
  some (.inl ((wI (s84.1 + 1), (List.set s84.2 j89 (wU (x86 + x88)))))))
  (some (.inr s84.2))
def D_drive_Driver_plain_L3 (a19 : List Int) (r44 : List Int) (r97 : List Int) (s100 : Int × List Int) : Op ((Int × List Int) ⊕ (List Int)) :=
 cond (decide (s100.1 < ((((ln r97) : Nat) : Int))))
  ((ix s100.1 ((ln s100.2))).bind fun j101 =>
  (s100.2[j101]?).bind fun x102 =>
  (ix (wI (((((ln a19) : Nat) : Int)) + s100.1)) ((ln r44))).bind fun j103 =>
  (r44[j103]?).bind fun x104 =>
  (ix s100.1 ((ln s100.2))).bind fun j105 =>
  (s100.2[j105]?).bind fun x106 =>
  some (.inl ((wI (s100.1 + 1), (List.set s100.2 j105 (wU (x102 + x104)))))))
  (some (.inr s100.2))
def D_drive_Driver_plain_L4 (a7 : Int) (r42 : Int × List Int) (r45 : Int × List (Int × Int × Int × Int × Int × Int)) : (Int × Int × Int × (List Int) × (List Int) × Int × Int × Int × Int × Int × Int × Int × Int) → Op ((Int × Int × Int × (List Int) × (List Int) × Int × Int × Int × Int × Int × Int × Int × Int) ⊕ ((List Int) × (List Int) × Int × Int × Int × Int × Int × Int × Int × Int)) := fun ⟨s132_0, s132_1, s132_2, s132_3, s132_4, s132_5, s132_6, s132_7, s132_8, s132_9, s132_10, s132_11, s132_12⟩ =>
 cond (decide (s132_0 < 0))
  (some (.inr (((s132_3, s132_4, s132_5, s132_6, s132_7, s132_8, s132_9, s132_10, s132_11, s132_12)))))
  ((ix s132_0 ((ln r45.2))).bind fun j133 =>
  (r45.2[j133]?).bind fun x134 =>
  cond (decide (x134.1 = 0))
   ((ix (wI (x134.2.2.2.2.2 - 1)) ((ln r45.2))).bind fun j135 =>
   (r45.2[j135]?).bind fun x136 =>
   (ix s132_1 8).bind fun j137 =>
   some (.inl ((wI (s132_0 - 1), wI (s132_1 + 1), s132_2, s132_3, s132_4, (cond (Nat.beq j137 0) x136.2.2.2.2.1 s132_5), (cond (Nat.beq j137 1) x136.2.2.2.2.1 s132_6), (cond (Nat.beq j137 2) x136.2.2.2.2.1 s132_7), (cond (Nat.beq j137 3) x136.2.2.2.2.1 s132_8), (cond (Nat.beq j137 4) x136.2.2.2.2.1 s132_9), (cond (Nat.beq j137 5) x136.2.2.2.2.1 s132_10), (cond (Nat.beq j137 6) x136.2.2.2.2.1 s132_11), (cond (Nat.beq j137 7) x136.2.2.2.2.1 s132_12)))))
   (cond (decide (x134.1 = 7))
    ((ix (wI (s132_1 - 1)) 8).bind fun j138 =>
    (ix (wI (s132_1 - 1)) 8).bind fun j139 =>
    (ix (wI (s132_1 - 1)) 8).bind fun j140 =>
    cond (decide (0 < ((List.getD [(cond (Nat.beq j139 0) (wU (((List.getD [s132_5, s132_6, s132_7, s132_8, s132_9, s132_10, s132_11, s132_12] j138 0)) - 1)) s132_5), (cond (Nat.beq j139 1) (wU (((List.getD [s132_5, s132_6, s132_7, s132_8, s132_9, s132_10, s132_11, s132_12] j138 0)) - 1)) s132_6), (cond (Nat.beq j139 2) (wU (((List.getD [s132_5, s132_6, s132_7, s132_8, s132_9, s132_10, s132_11, s132_12] j138 0)) - 1)) s132_7), (cond (Nat.beq j139 3) (wU (((List.getD [s132_5, s132_6, s132_7, s132_8, s132_9, s132_10, s132_11, s132_12] j138 0)) - 1)) s132_8), (cond (Nat.beq j139 4) (wU (((List.getD [s132_5, s132_6, s132_7, s132_8, s132_9, s132_10, s132_11, s132_12] j138 0)) - 1)) s132_9), (cond (Nat.beq j139 5) (wU (((List.getD [s132_5, s132_6, s132_7, s132_8, s132_9, s132_10, s132_11, s132_12] j138 0)) - 1)) s132_10), (cond (Nat.beq j139 6) (wU (((List.getD [s132_5, s132_6, s132_7, s132_8, s132_9, s132_10, s132_11, s132_12] j138 0)) - 1)) s132_11), (cond (Nat.beq j139 7) (wU (((List.getD [s132_5, s132_6, s132_7, s132_8, s132_9, s132_10, s132_11, s132_12] j138 0)) - 1)) s132_12)] j140 0))))
     (some (.inl ((wI (x134.2.2.2.2.2 - 2), s132_1, s132_2, s132_3, s132_4, (cond (Nat.beq j139 0) (wU (((List.getD [s132_5, s132_6, s132_7, s132_8, s132_9, s132_10, s132_11, s132_12] j138 0)) - 1)) s132_5), (cond (Nat.beq j139 1) (wU (((List.getD [s132_5, s132_6, s132_7, s132_8, s132_9, s132_10, s132_11, s132_12] j138 0)) - 1)) s132_6), (cond (Nat.beq j139 2) (wU (((List.getD [s132_5, s132_6, s132_7, s132_8, s132_9, s132_10, s132_11, s132_12] j138 0)) - 1)) s132_7), (cond (Nat.beq j139 3) (wU (((List.getD [s132_5, s132_6, s132_7, s132_8, s132_9, s132_10, s132_11, s132_12] j138 0)) - 1)) s132_8), (cond (Nat.beq j139 4) (wU (((List.getD [s132_5, s132_6, s132_7, s132_8, s132_9, s132_10, s132_11, s132_12] j138 0)) - 1)) s132_9), (cond (Nat.beq j139 5) (wU (((List.getD [s132_5, s132_6, s132_7, s132_8, s132_9, s132_10, s132_11, s132_12] j138 0)) - 1)) s132_10), (cond (Nat.beq j139 6) (wU (((List.getD [s132_5, s132_6, s132_7, s132_8, s132_9, s132_10, s132_11, s132_12] j138 0)) - 1)) s132_11), (cond (Nat.beq j139 7) (wU (((List.getD [s132_5, s132_6, s132_7, s132_8, s132_9, s132_10, s132_11, s132_12] j138 0)) - 1)) s132_12)))))
     (some (.inl ((wI (s132_0 - 1), wI (s132_1 - 1), s132_2, s132_3, s132_4, (cond (Nat.beq j139 0) (wU (((List.getD [s132_5, s132_6, s132_7, s132_8, s132_9, s132_10, s132_11, s132_12] j138 0)) - 1)) s132_5), (cond (Nat.beq j139 1) (wU (((List.getD [s132_5, s132_6, s132_7, s132_8, s132_9, s132_10, s132_11, s132_12] j138 0)) - 1)) s132_6), (cond (Nat.beq j139 2) (wU (((List.getD [s132_5, s132_6, s132_7, s132_8, s132_9, s132_10, s132_11, s132_12] j138 0)) - 1)) s132_7), (cond (Nat.beq j139 3) (wU (((List.getD [s132_5, s132_6, s132_7, s132_8, s132_9, s132_10, s132_11, s132_12] j138 0)) - 1)) s132_8), (cond (Nat.beq j139 4) (wU (((List.getD [s132_5, s132_6, s132_7, s132_8, s132_9, s132_10, s132_11, s132_12] j138 0)) - 1)) s132_9), (cond (Nat.beq j139 5) (wU (((List.getD [s132_5, s132_6, s132_7, s132_8, s132_9, s132_10, s132_11, s132_12] j138 0)) - 1)) s132_10), (cond (Nat.beq j139 6) (wU (((List.getD [s132_5, s132_6, s132_7, s132_8, s132_9, s132_10, s132_11, s132_12] j138 0)) - 1)) s132_11), (cond (Nat.beq j139 7) (wU (((List.getD [s132_5, s132_6, s132_7, s132_8, s132_9, s132_10, s132_11, s132_12] j138 0)) - 1)) s132_12))))))
    ((ix x134.2.1 ((ln s132_4))).bind fun j141 =>
    (s132_4[j141]?).bind fun x142 =>
    (ix x134.2.1 ((ln s132_4))).bind fun j143 =>
    (s132_4[j143]?).bind fun x144 =>
    (ix (wI (s132_2 - 1)) (((tN (wI (((((ln r42.2) : Nat) : Int)) - a7))) - 0))).bind fun j145 =>
    (s132_3[(0 + j145)]?).bind fun x146 =>
    (ix x134.2.1 (((tN ((((ln r42.2) : Nat) : Int))) - (tN (wI (((((ln r42.2) : Nat) : Int)) - a7)))))).bind fun j147 =>
    (s132_3[((tN (wI (((((ln r42.2) : Nat) : Int)) - a7))) + j147)]?).bind fun x148 =>
    (ix x134.2.2.1 (((tN ((((ln r42.2) : Nat) : Int))) - (tN (wI (((((ln r42.2) : Nat) : Int)) - a7)))))).bind fun j149 =>
    (((List.set s132_3 ((tN (wI (((((ln r42.2) : Nat) : Int)) - a7))) + j147) x146))[((tN (wI (((((ln r42.2) : Nat) : Int)) - a7))) + j149)]?).bind fun x150 =>
    (ix x134.2.2.2.1 (((tN ((((ln r42.2) : Nat) : Int))) - (tN (wI (((((ln r42.2) : Nat) : Int)) - a7)))))).bind fun j151 =>
    (((List.set s132_3 ((tN (wI (((((ln r42.2) : Nat) : Int)) - a7))) + j147) x146))[((tN (wI (((((ln r42.2) : Nat) : Int)) - a7))) + j151)]?).bind fun x152 =>
    (D_opcode_Partials x134.1 x134.2.1 x134.2.2.1 x134.2.2.2.1 x134.2.2.2.2.1 x150 x152).bind fun r153 =>
    (ix x134.2.2.1 ((ln ((List.set s132_4 j143 0))))).bind fun j154 =>
    (((List.set s132_4 j143 0))[j154]?).bind fun x155 =>
    (ix x134.2.2.1 ((ln ((List.set s132_4 j143 0))))).bind fun j156 =>
    (((List.set s132_4 j143 0))[j156]?).bind fun x157 =>
    (ix x134.2.2.2.1 ((ln ((List.set ((List.set s132_4 j143 0)) j156 (wU (x155 + (wU (r153.1 * x142))))))))).bind fun j158 =>
    (((List.set ((List.set s132_4 j143 0)) j156 (wU (x155 + (wU (r153.1 * x142))))))[j158]?).bind fun x159 =>
    (ix x134.2.2.2.1 ((ln ((List.set ((List.set s132_4 j143 0)) j156 (wU (x155 + (wU (r153.1 * x142))))))))).bind fun j160 =>
    (((List.set ((List.set s132_4 j143 0)) j156 (wU (x155 + (wU (r153.1 * x142))))))[j160]?).bind fun x161 =>
    some (.inl ((wI (s132_0 - 1), s132_1, wI (s132_2 - 1), (List.set s132_3 ((tN (wI (((((ln r42.2) : Nat) : Int)) - a7))) + j147) x146), (List.set ((List.set ((List.set s132_4 j143 0)) j156 (wU (x155 + (wU (r153.1 * x142)))))) j160 (wU (x159 + (wU (r153.2 * x142))))), s132_5, s132_6, s132_7, s132_8, s132_9, s132_10, s132_11, s132_12))))))
def D_drive_Driver_plain_L5 (a19 : List Int) (r162_1 : List Int) (r165 : List Int) (s168 : Int × List Int) : Op ((Int × List Int) ⊕ (List Int)) :=
 cond (decide (s168.1 < ((((ln r165) : Nat) : Int))))
  ((ix s168.1 ((ln s168.2))).bind fun j169 =>
  (s168.2[j169]?).bind fun x170 =>
  (ix (wI (((((ln a19) : Nat) : Int)) + s168.1)) ((ln r162_1))).bind fun j171 =>
  (r162_1[j171]?).bind fun x172 =>
  (ix s168.1 ((ln s168.2))).bind fun j173 =>
  (s168.2[j173]?).bind fun x174 =>
  some (.inl ((wI (s168.1 + 1), (List.set s168.2 j173 (wU (x170 + x172)))))))
  (some (.inr s168.2))
/- (*backstitch/drive.Driver).plain -/
def D_drive_Driver_plain (a0 a1 a2 a3 a4 a5 a6 a7 a8 a9 a10 a11 a12 a13 a14 a15 a16 a17 a18 : Int) (a19 a20 : List Int) (a21 a22 : LO) (a23 : List Int) (a24 a25 a26 a27 : Int) (a28 : List Int) : Op (Int × Int × Int × Int × Int × Int × Int × Int × Int × Int × Int × Int × Int × Int × Int × Int × Int × Int × Int × Int × Int × List Int) :=
 (((cond (decide (a0 = 8))
  (some true)
  (some (decide (a0 = 5)))) : Op (Bool))).bind fun s29 =>
 ((((((cond (decide (a1 ≠ 0))
  (some true)
  (cond (!s29)
   (some (decide (a0 ≠ 9)))
   (some false))) : Op (Bool))).bind fun s30 =>
 cond (s30)
  (some ((.inl 2)))
  ((((cond (s29)
   (cond (decide (0 ≤ a13))
    (some true)
    (cond (!s29)
     (some (decide (a13 < 1)))
     (some false)))
   (cond (!s29)
    (some (decide (a13 < 1)))
    (some false))) : Op (Bool))).bind fun s31 =>
  cond (s31)
   (some ((.inl 18)))
   (cond (s29)
    (cond (!((decide (a0 = 5)) == (decide (a12 = a11))))
     (some ((.inl 17)))
     (some ((.inr ()))))
    (some ((.inr ())))))) : Op ((Int) ⊕ (Unit)))).bind fun s32 =>
 caseS s32 (fun u33 =>
  some ((u33, a2, a3, a4, a5, a6, a7, a8, a9, a10, a11, a12, a13, a14, a15, a16, a17, a18, a25, a26, a27, a28)))
  (fun w34 =>
  cond (decide (a0 = 8))
   ((D_meter_Meter_Hold a4 a25 a26 a27).bind fun r35 =>
   (D_drive_Driver_taped a2 a3 a4 a5 a6 a7 a8 a9 a10 a11 a12 a13 a14 a15 a16 a17 a18 a19 a20 a21 a22 a23 a24 r35.2.1 r35.2.2.1 r35.2.2.2 a28).bind fun ⟨r36_0, r36_1, r36_2, r36_3, r36_4, r36_5, r36_6, r36_7, r36_8, r36_9, r36_10, r36_11, r36_12, r36_13, r36_14, r36_15, r36_16, r36_17, r36_18, r36_19⟩ =>
   (D_drive_Driver_shelf r36_10 r36_0 r36_1 r36_2 r36_3 r36_4 r36_5 r36_6 r36_7 r36_8 r36_9 r36_10 r36_11 r36_12 r36_13 r36_14 r36_15 r36_16 a19 a20 a21 a22 a23 a24 r35.2.1 r35.2.2.1 r35.2.2.2 r36_17).bind fun r37 =>
   gd (fits (ln r36_19 + ln r36_18) 8) ((D_arena_Arena_Write r37 ((r36_19 ++ r36_18)) a24 r36_17).bind fun r38 =>
   gd (cutG 0 ((((ln a19) : Nat) : Int)) ((ln r36_18))) ((D_drive_Driver_put 1 ((List.take (((tN ((((ln a19) : Nat) : Int))) - 0)) (List.drop 0 r36_18))) r36_0 r36_1 r36_2 r36_3 r36_4 r36_5 r36_6 r36_7 r36_8 r36_9 r36_10 r36_11 r36_12 r36_13 r36_14 r36_15 r36_16 a19 a20 a21 a22 a23 a24 r35.2.1 r35.2.2.1 r35.2.2.2 r38.2).bind fun r39 =>
   some ((0, r36_0, r36_1, r36_2, r36_3, r36_4, r36_5, r36_6, r36_7, r36_8, r36_9, wI (r36_10 + 1), r36_11, r36_12, r36_13, r36_14, r36_15, r36_16, r35.2.1, r35.2.2.1, r35.2.2.2, r39)))))
   (cond (decide (a0 = 5))
    ((D_drive_Driver_seed 0 a2 a3 a4 a5 a6 a7 a8 a9 a10 a11 a12 a13 a14 a15 a16 a17 a18 a19 a20 a21 a22 a23 a24 a25 a26 a27 a28).bind fun ⟨r40_0, r40_1, r40_2, r40_3, r40_4, r40_5, r40_6, r40_7, r40_8, r40_9, r40_10, r40_11, r40_12, r40_13, r40_14, r40_15, r40_16, r40_17, r40_18, r40_19, r40_20⟩ =>
    some ((0, r40_0, r40_1, r40_2, r40_3, r40_4, r40_5, r40_6, r40_7, r40_8, r40_9, r40_10, r40_9, r40_12, r40_13, r40_14, r40_15, r40_16, r40_17, r40_18, r40_19, r40_20)))
    ((D_drive_Driver_shelf (wI (a13 - 1)) a2 a3 a4 a5 a6 a7 a8 a9 a10 a11 (wI (a13 - 1)) (wI (a13 - 1)) a14 a15 a16 a17 a18 a19 a20 a21 a22 a23 a24 a25 a26 a27 a28).bind fun r41 =>
    (D_arena_Arena_Read r41 a4 a24 a28).bind fun r42 =>
    gd (cutG (wI (((((ln r42.2) : Nat) : Int)) - a7)) ((((ln r42.2) : Nat) : Int)) ((ln r42.2))) (gd (cutG 0 (wI (((((ln r42.2) : Nat) : Int)) - a7)) ((ln r42.2))) ((D_drive_Driver_get 5 a2 a3 a4 a5 a6 a7 a8 a9 a10 a11 (wI (a13 - 1)) (wI (a13 - 1)) a14 a15 a16 a17 a18 a19 a20 a21 a22 a23 a24 a25 a26 a27 a28).bind fun r43 =>
    (D_drive_wide a7 a21 r43).bind fun r44 =>
    (D_flat_Code a7 a21).bind fun r45 =>
    cond (decide (r45.1 ≠ 0))
     ((D_drive_Driver_put 4 r44 a2 a3 a4 a5 a6 a7 a8 a9 a10 a11 (wI (a13 - 1)) (wI (a13 - 1)) a14 a15 a16 a17 a18 a19 a20 a21 a22 a23 a24 a25 a26 a27 a28).bind fun r46 =>
     gd (cutG 0 ((((ln a19) : Nat) : Int)) ((ln r44))) ((D_drive_Driver_put 5 ((List.take (((tN ((((ln a19) : Nat) : Int))) - 0)) (List.drop 0 r44))) a2 a3 a4 a5 a6 a7 a8 a9 a10 a11 (wI (a13 - 1)) (wI (a13 - 1)) a14 a15 a16 a17 a18 a19 a20 a21 a22 a23 a24 a25 a26 a27 r46).bind fun r47 =>
     (D_drive_Driver_get 6 a2 a3 a4 a5 a6 a7 a8 a9 a10 a11 (wI (a13 - 1)) (wI (a13 - 1)) a14 a15 a16 a17 a18 a19 a20 a21 a22 a23 a24 a25 a26 a27 r47).bind fun r48 =>
     (loopN (D_drive_Driver_plain_L0 a19 r44 r48) BIG ((0, r48))).bind fun r58 =>
     (D_drive_Driver_put 6 r58 a2 a3 a4 a5 a6 a7 a8 a9 a10 a11 (wI (a13 - 1)) (wI (a13 - 1)) a14 a15 a16 a17 a18 a19 a20 a21 a22 a23 a24 a25 a26 a27 r47).bind fun r59 =>
     gd (cutG (wI (((((ln r42.2) : Nat) : Int)) - a7)) (wI ((wI (((((ln r42.2) : Nat) : Int)) - a7)) + ((((ln a19) : Nat) : Int)))) ((ln r42.2))) ((D_drive_Driver_put 1 ((List.take (((tN (wI ((wI (((((ln r42.2) : Nat) : Int)) - a7)) + ((((ln a19) : Nat) : Int))))) - (tN (wI (((((ln r42.2) : Nat) : Int)) - a7))))) (List.drop ((tN (wI (((((ln r42.2) : Nat) : Int)) - a7)))) r42.2))) a2 a3 a4 a5 a6 a7 a8 a9 a10 a11 (wI (a13 - 1)) (wI (a13 - 1)) a14 a15 a16 (wI (a17 + 1)) a18 a19 a20 a21 a22 a23 a24 a25 a26 a27 r59).bind fun r60 =>
     (D_meter_Meter_Drop a4 a25 a26 a27).bind fun r61 =>
     some ((0, a2, a3, a4, a5, a6, a7, a8, a9, a10, a11, wI (a13 - 1), wI (a13 - 1), a14, a15, a16, wI (a17 + 1), a18, r61.2.1, r61.2.2.1, r61.2.2.2, r60)))))
     ((D_size_Writes a21).bind fun r62 =>
     cond (decide ((((((tN ((((ln r42.2) : Nat) : Int))) - (tN (wI (((((ln r42.2) : Nat) : Int)) - a7)))) : Nat) : Int)) ≠ a7))
      ((D_drive_Driver_put 4 r44 a2 a3 a4 a5 a6 a7 a8 a9 a10 a11 (wI (a13 - 1)) (wI (a13 - 1)) a14 a15 a16 a17 a18 a19 a20 a21 a22 a23 a24 a25 a26 a27 a28).bind fun r63 =>
      gd (cutG 0 ((((ln a19) : Nat) : Int)) ((ln r44))) ((D_drive_Driver_put 5 ((List.take (((tN ((((ln a19) : Nat) : Int))) - 0)) (List.drop 0 r44))) a2 a3 a4 a5 a6 a7 a8 a9 a10 a11 (wI (a13 - 1)) (wI (a13 - 1)) a14 a15 a16 a17 a18 a19 a20 a21 a22 a23 a24 a25 a26 a27 r63).bind fun r64 =>
      (D_drive_Driver_get 6 a2 a3 a4 a5 a6 a7 a8 a9 a10 a11 (wI (a13 - 1)) (wI (a13 - 1)) a14 a15 a16 a17 a18 a19 a20 a21 a22 a23 a24 a25 a26 a27 r64).bind fun r65 =>
      (loopN (D_drive_Driver_plain_L1 a19 r44 r65) BIG ((0, r65))).bind fun r75 =>
      (D_drive_Driver_put 6 r75 a2 a3 a4 a5 a6 a7 a8 a9 a10 a11 (wI (a13 - 1)) (wI (a13 - 1)) a14 a15 a16 a17 a18 a19 a20 a21 a22 a23 a24 a25 a26 a27 r64).bind fun r76 =>
      gd (cutG (wI (((((ln r42.2) : Nat) : Int)) - a7)) (wI ((wI (((((ln r42.2) : Nat) : Int)) - a7)) + ((((ln a19) : Nat) : Int)))) ((ln r42.2))) ((D_drive_Driver_put 1 ((List.take (((tN (wI ((wI (((((ln r42.2) : Nat) : Int)) - a7)) + ((((ln a19) : Nat) : Int))))) - (tN (wI (((((ln r42.2) : Nat) : Int)) - a7))))) (List.drop ((tN (wI (((((ln r42.2) : Nat) : Int)) - a7)))) r42.2))) a2 a3 a4 a5 a6 a7 a8 a9 a10 a11 (wI (a13 - 1)) (wI (a13 - 1)) a14 a15 a16 (wI (a17 + 1)) a18 a19 a20 a21 a22 a23 a24 a25 a26 a27 r76).bind fun r77 =>
      (D_meter_Meter_Drop a4 a25 a26 a27).bind fun r78 =>
      some ((0, a2, a3, a4, a5, a6, a7, a8, a9, a10, a11, wI (a13 - 1), wI (a13 - 1), a14, a15, a16, wI (a17 + 1), a18, r78.2.1, r78.2.2.1, r78.2.2.2, r77)))))
      (cond (decide (((((ln r44) : Nat) : Int)) ≠ a7))
       ((D_drive_Driver_put 4 r44 a2 a3 a4 a5 a6 a7 a8 a9 a10 a11 (wI (a13 - 1)) (wI (a13 - 1)) a14 a15 a16 a17 a18 a19 a20 a21 a22 a23 a24 a25 a26 a27 a28).bind fun r79 =>
       gd (cutG 0 ((((ln a19) : Nat) : Int)) ((ln r44))) ((D_drive_Driver_put 5 ((List.take (((tN ((((ln a19) : Nat) : Int))) - 0)) (List.drop 0 r44))) a2 a3 a4 a5 a6 a7 a8 a9 a10 a11 (wI (a13 - 1)) (wI (a13 - 1)) a14 a15 a16 a17 a18 a19 a20 a21 a22 a23 a24 a25 a26 a27 r79).bind fun r80 =>
       (D_drive_Driver_get 6 a2 a3 a4 a5 a6 a7 a8 a9 a10 a11 (wI (a13 - 1)) (wI (a13 - 1)) a14 a15 a16 a17 a18 a19 a20 a21 a22 a23 a24 a25 a26 a27 r80).bind fun r81 =>
       (loopN (D_drive_Driver_plain_L2 a19 r44 r81) BIG ((0, r81))).bind fun r91 =>
       (D_drive_Driver_put 6 r91 a2 a3 a4 a5 a6 a7 a8 a9 a10 a11 (wI (a13 - 1)) (wI (a13 - 1)) a14 a15 a16 a17 a18 a19 a20 a21 a22 a23 a24 a25 a26 a27 r80).bind fun r92 =>
       gd (cutG (wI (((((ln r42.2) : Nat) : Int)) - a7)) (wI ((wI (((((ln r42.2) : Nat) : Int)) - a7)) + ((((ln a19) : Nat) : Int)))) ((ln r42.2))) ((D_drive_Driver_put 1 ((List.take (((tN (wI ((wI (((((ln r42.2) : Nat) : Int)) - a7)) + ((((ln a19) : Nat) : Int))))) - (tN (wI (((((ln r42.2) : Nat) : Int)) - a7))))) (List.drop ((tN (wI (((((ln r42.2) : Nat) : Int)) - a7)))) r42.2))) a2 a3 a4 a5 a6 a7 a8 a9 a10 a11 (wI (a13 - 1)) (wI (a13 - 1)) a14 a15 a16 (wI (a17 + 1)) a18 a19 a20 a21 a22 a23 a24 a25 a26 a27 r92).bind fun r93 =>
       (D_meter_Meter_Drop a4 a25 a26 a27).bind fun r94 =>
       some ((0, a2, a3, a4, a5, a6, a7, a8, a9, a10, a11, wI (a13 - 1), wI (a13 - 1), a14, a15, a16, wI (a17 + 1), a18, r94.2.1, r94.2.2.1, r94.2.2.2, r93)))))
       (cond (decide ((((((tN (wI (((((ln r42.2) : Nat) : Int)) - a7))) - 0) : Nat) : Int)) < r62.1))
        ((D_drive_Driver_put 4 r44 a2 a3 a4 a5 a6 a7 a8 a9 a10 a11 (wI (a13 - 1)) (wI (a13 - 1)) a14 a15 a16 a17 a18 a19 a20 a21 a22 a23 a24 a25 a26 a27 a28).bind fun r95 =>
        gd (cutG 0 ((((ln a19) : Nat) : Int)) ((ln r44))) ((D_drive_Driver_put 5 ((List.take (((tN ((((ln a19) : Nat) : Int))) - 0)) (List.drop 0 r44))) a2 a3 a4 a5 a6 a7 a8 a9 a10 a11 (wI (a13 - 1)) (wI (a13 - 1)) a14 a15 a16 a17 a18 a19 a20 a21 a22 a23 a24 a25 a26 a27 r95).bind fun r96 =>
        (D_drive_Driver_get 6 a2 a3 a4 a5 a6 a7 a8 a9 a10 a11 (wI (a13 - 1)) (wI (a13 - 1)) a14 a15 a16 a17 a18 a19 a20 a21 a22 a23 a24 a25 a26 a27 r96).bind fun r97 =>
        (loopN (D_drive_Driver_plain_L3 a19 r44 r97) BIG ((0, r97))).bind fun r107 =>
        (D_drive_Driver_put 6 r107 a2 a3 a4 a5 a6 a7 a8 a9 a10 a11 (wI (a13 - 1)) (wI (a13 - 1)) a14 a15 a16 a17 a18 a19 a20 a21 a22 a23 a24 a25 a26 a27 r96).bind fun r108 =>
        gd (cutG (wI (((((ln r42.2) : Nat) : Int)) - a7)) (wI ((wI (((((ln r42.2) : Nat) : Int)) - a7)) + ((((ln a19) : Nat) : Int)))) ((ln r42.2))) ((D_drive_Driver_put 1 ((List.take (((tN (wI ((wI (((((ln r42.2) : Nat) : Int)) - a7)) + ((((ln a19) : Nat) : Int))))) - (tN (wI (((((ln r42.2) : Nat) : Int)) - a7))))) (List.drop ((tN (wI (((((ln r42.2) : Nat) : Int)) - a7)))) r42.2))) a2 a3 a4 a5 a6 a7 a8 a9 a10 a11 (wI (a13 - 1)) (wI (a13 - 1)) a14 a15 a16 (wI (a17 + 1)) a18 a19 a20 a21 a22 a23 a24 a25 a26 a27 r108).bind fun r109 =>
        (D_meter_Meter_Drop a4 a25 a26 a27).bind fun r110 =>
        some ((0, a2, a3, a4, a5, a6, a7, a8, a9, a10, a11, wI (a13 - 1), wI (a13 - 1), a14, a15, a16, wI (a17 + 1), a18, r110.2.1, r110.2.2.1, r110.2.2.2, r109)))))
        ((loopN (D_drive_Driver_plain_L4 a7 r42 r45) BIG ((wI (((((ln r45.2) : Nat) : Int)) - 1), 0, r62.1, r42.2, r44, 0, 0, 0, 0, 0, 0, 0, 0))).bind fun ⟨r162_0, r162_1, r162_2, r162_3, r162_4, r162_5, r162_6, r162_7, r162_8, r162_9⟩ =>
        (D_drive_Driver_put 4 r162_1 a2 a3 a4 a5 a6 a7 a8 a9 a10 a11 (wI (a13 - 1)) (wI (a13 - 1)) a14 a15 a16 a17 a18 a19 a20 a21 a22 a23 a24 a25 a26 a27 a28).bind fun r163 =>
        gd (cutG 0 ((((ln a19) : Nat) : Int)) ((ln r162_1))) ((D_drive_Driver_put 5 ((List.take (((tN ((((ln a19) : Nat) : Int))) - 0)) (List.drop 0 r162_1))) a2 a3 a4 a5 a6 a7 a8 a9 a10 a11 (wI (a13 - 1)) (wI (a13 - 1)) a14 a15 a16 a17 a18 a19 a20 a21 a22 a23 a24 a25 a26 a27 r163).bind fun r164 =>
        (D_drive_Driver_get 6 a2 a3 a4 a5 a6 a7 a8 a9 a10 a11 (wI (a13 - 1)) (wI (a13 - 1)) a14 a15 a16 a17 a18 a19 a20 a21 a22 a23 a24 a25 a26 a27 r164).bind fun r165 =>
        (loopN (D_drive_Driver_plain_L5 a19 r162_1 r165) BIG ((0, r165))).bind fun r175 =>
        (D_drive_Driver_put 6 r175 a2 a3 a4 a5 a6 a7 a8 a9 a10 a11 (wI (a13 - 1)) (wI (a13 - 1)) a14 a15 a16 a17 a18 a19 a20 a21 a22 a23 a24 a25 a26 a27 r164).bind fun r176 =>
        gd (cutG (wI (((((ln r42.2) : Nat) : Int)) - a7)) (wI ((wI (((((ln r42.2) : Nat) : Int)) - a7)) + ((((ln a19) : Nat) : Int)))) ((ln r162_0))) ((D_drive_Driver_put 1 ((List.take (((tN (wI ((wI (((((ln r42.2) : Nat) : Int)) - a7)) + ((((ln a19) : Nat) : Int))))) - (tN (wI (((((ln r42.2) : Nat) : Int)) - a7))))) (List.drop ((tN (wI (((((ln r42.2) : Nat) : Int)) - a7)))) r162_0))) a2 a3 a4 a5 a6 a7 a8 a9 a10 a11 (wI (a13 - 1)) (wI (a13 - 1)) a14 a15 a16 (wI (a17 + 1)) a18 a19 a20 a21 a22 a23 a24 a25 a26 a27 r176).bind fun r177 =>
        (D_meter_Meter_Drop a4 a25 a26 a27).bind fun r178 =>
        some ((0, a2, a3, a4, a5, a6, a7, a8, a9, a10, a11, wI (a13 - 1), wI (a13 - 1), a14, a15, a16, wI (a17 + 1), a18, r178.2.1, r178.2.2.1, r178.2.2.2, r177)))))))))))))
end Go.V
