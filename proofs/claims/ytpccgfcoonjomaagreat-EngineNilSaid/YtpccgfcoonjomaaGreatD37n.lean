/- A part of the proofs of this seat: what functions of the program answer on the abstract machine. -/
import Derived.Test.YtpccgfcoonjomaaGreatD37na
namespace Go.V
set_option linter.unusedVariables false
set_option linter.unusedSimpArgs false
open Go.Ab
set_option linter.unusedVariables false
/- backstitch/action.numbered -/
def D_action_numbered (a0 : Int) : Op (Bool) :=
 cond (decide (1 ≤ a0))
  (some (decide (a0 ≤ 4)))
  (some false)
/- backstitch/action.Right -/
def D_action_Right (a0 a1 : Int) : Op (Bool) :=
 (((cond (decide (a0 < 1))
  (some true)
  (some (decide (9 < a0)))) : Op (Bool))).bind fun s2 =>
 cond (s2)
  (some false)
  (cond (decide (a0 = 1))
   (cond (decide (1 ≤ a1))
    (some (decide (a1 < 65536)))
    (some false))
   ((D_action_numbered a0).bind fun r3 =>
   cond (r3)
    (cond (decide (0 ≤ a1))
     (some (decide (a1 < 1048576)))
     (some false))
    (some (decide (a1 = 0)))))
/- (*backstitch/machine.Machine).moves -/
def D_machine_Machine_moves (a0 a1 a2 a3 : Int) (a4 : List Int) : Op (Unit) :=
 some ()
/- (*backstitch/machine.Machine).advance -/
def D_machine_Machine_advance (a0 a1 a2 a3 a4 : Int) (a5 : List Int) : Op (Int × Int × Int × Int × Int) :=
 cond (decide ((wI (a3 - a1)) < a0))
  (some ((17, a1, a2, a3, a4)))
  (some ((0, wI (a1 + a0), a2, a3, wI (a4 + a0))))
/- (*backstitch/machine.Machine).store -/
def D_machine_Machine_store (a0 a1 a2 a3 a4 : Int) (a5 : List Int) : Op (Int × List Int) :=
 (ix a0 ((ln a5))).bind fun j6 =>
 (a5[j6]?).bind fun x7 =>
 cond (decide (0 ≤ x7))
  (some ((15, a5)))
  ((ix a0 ((ln a5))).bind fun j8 =>
  (a5[j8]?).bind fun x9 =>
  some ((0, (List.set a5 j8 a1))))
/- (*backstitch/machine.Machine).restore -/
def D_machine_Machine_restore (a0 a1 a2 a3 a4 : Int) (a5 : List Int) : Op (Int × Int × Int × Int × Int) :=
 (ix a0 ((ln a5))).bind fun j6 =>
 (a5[j6]?).bind fun x7 =>
 cond (decide (x7 < 0))
  (some ((16, a1, a2, a3, a4)))
  ((ix a0 ((ln a5))).bind fun j8 =>
  (a5[j8]?).bind fun x9 =>
  some ((0, x9, a2, a3, a4)))
/- (*backstitch/machine.Machine).free -/
def D_machine_Machine_free (a0 a1 a2 a3 a4 : Int) (a5 : List Int) : Op (Int × List Int) :=
 (ix a0 ((ln a5))).bind fun j6 =>
 (a5[j6]?).bind fun x7 =>
 cond (decide (x7 < 0))
  (some ((16, a5)))
  ((ix a0 ((ln a5))).bind fun j8 =>
  (a5[j8]?).bind fun x9 =>
  some ((0, (List.set a5 j8 (-1)))))
/- (*backstitch/machine.Machine).begin -/
def D_machine_Machine_begin (a0 a1 a2 a3 a4 : Int) (a5 : List Int) : Op (Int × Int × Int × Int × Int) :=
 cond (decide (a2 ≠ (-1)))
  (some ((18, a1, a2, a3, a4)))
  (cond (!((decide (a1 = (wI (a3 - a0))) && decide (a2 = (-1)))))
   (some ((17, a1, a2, a3, a4)))
   (some ((0, a1, a1, a3, a4))))
/- (*backstitch/machine.Machine).seed -/
def D_machine_Machine_seed (a0 a1 a2 a3 a4 : Int) (a5 : List Int) : Op (Int × Int × Int × Int × Int) :=
 (D_machine_Machine_begin 0 a1 a2 a3 a4 a5).bind fun r6 =>
 some ((r6.1, r6.2.1, r6.2.2.1, r6.2.2.2.1, r6.2.2.2.2))
/- (*backstitch/machine.Machine).both -/
def D_machine_Machine_both (a0 a1 a2 a3 a4 : Int) (a5 : List Int) : Op (Int × Int × Int × Int × Int) :=
 (D_machine_Machine_begin 1 a1 a2 a3 a4 a5).bind fun r6 =>
 some ((r6.1, r6.2.1, r6.2.2.1, r6.2.2.2.1, r6.2.2.2.2))
/- (*backstitch/machine.Machine).reverse -/
def D_machine_Machine_reverse (a0 a1 a2 a3 a4 : Int) (a5 : List Int) : Op (Int × Int × Int × Int × Int) :=
 cond (decide (a2 ≤ 0))
  (some ((18, a1, a2, a3, a4)))
  (cond (decide (a1 ≠ (wI (a2 - 1))))
   (some ((17, a1, a2, a3, a4)))
   (some ((0, a1, a1, a3, a4))))
/- (*backstitch/machine.Machine).Do -/
def D_machine_Machine_Do (a0 a1 a2 a3 a4 a5 : Int) (a6 : List Int) : Op (Int × Int × Int × Int × Int × List Int) :=
 (((((((D_action_Right a0 a1).bind fun r7 =>
 cond (!r7)
  (some true)
  (some (decide (7 < a0)))) : Op (Bool))).bind fun s8 =>
 cond (s8)
  (some ((.inl ())))
  (cond (decide (2 ≤ a0))
   (cond (decide (a0 ≤ 4))
    (cond (decide (((((ln a6) : Nat) : Int)) ≤ a1))
     (some ((.inl ())))
     (some ((.inr ()))))
    (some ((.inr ()))))
   (some ((.inr ()))))) : Op ((Unit) ⊕ (Unit)))).bind fun s9 =>
 caseS s9 (fun u10 =>
  some ((2, a2, a3, a4, a5, a6)))
  (fun w11 =>
  (D_machine_Machine_moves a2 a3 a4 a5 a6).bind fun r12 =>
  (ix a0 8).bind fun j13 =>
  cond (Nat.beq j13 0)
   none
   (cond (Nat.beq ((j13 - 1)) 0)
    ((D_machine_Machine_advance a1 a2 a3 a4 a5 a6).bind fun r14 =>
    some ((r14.1, r14.2.1, r14.2.2.1, r14.2.2.2.1, r14.2.2.2.2, a6)))
    (cond (Nat.beq (((j13 - 1) - 1)) 0)
     ((D_machine_Machine_store a1 a2 a3 a4 a5 a6).bind fun r15 =>
     some ((r15.1, a2, a3, a4, a5, r15.2)))
     (cond (Nat.beq ((((j13 - 1) - 1) - 1)) 0)
      ((D_machine_Machine_restore a1 a2 a3 a4 a5 a6).bind fun r16 =>
      some ((r16.1, r16.2.1, r16.2.2.1, r16.2.2.2.1, r16.2.2.2.2, a6)))
      (cond (Nat.beq (((((j13 - 1) - 1) - 1) - 1)) 0)
       ((D_machine_Machine_free a1 a2 a3 a4 a5 a6).bind fun r17 =>
       some ((r17.1, a2, a3, a4, a5, r17.2)))
       (cond (Nat.beq ((((((j13 - 1) - 1) - 1) - 1) - 1)) 0)
        ((D_machine_Machine_seed a1 a2 a3 a4 a5 a6).bind fun r18 =>
        some ((r18.1, r18.2.1, r18.2.2.1, r18.2.2.2.1, r18.2.2.2.2, a6)))
        (cond (Nat.beq (((((((j13 - 1) - 1) - 1) - 1) - 1) - 1)) 0)
         ((D_machine_Machine_both a1 a2 a3 a4 a5 a6).bind fun r19 =>
         some ((r19.1, r19.2.1, r19.2.2.1, r19.2.2.2.1, r19.2.2.2.2, a6)))
         (cond (Nat.beq ((((((((j13 - 1) - 1) - 1) - 1) - 1) - 1) - 1)) 0)
          ((D_machine_Machine_reverse a1 a2 a3 a4 a5 a6).bind fun r20 =>
          some ((r20.1, r20.2.1, r20.2.2.1, r20.2.2.2.1, r20.2.2.2.2, a6)))
          none))))))))
/- (*backstitch/drive.Driver).moves -/
def D_drive_Driver_moves (a0 a1 a2 a3 a4 a5 a6 a7 a8 a9 a10 a11 a12 a13 a14 a15 a16 : Int) (a17 a18 : List Int) (a19 a20 : LO) (a21 : List Int) (a22 a23 a24 a25 : Int) (a26 : List Int) : Op (Unit) :=
 some ()
/- backstitch/forward.begin -/
def D_forward_begin (a0 : Int) (a1 : LO) (a2 : List Int) : Op (Int × (List (Int × Int × Int × Int × Int × Int)) × List Int) :=
 (D_flat_Code a0 a1).bind fun r3 =>
 cond (decide (r3.1 ≠ 0))
  (some ((r3.1, [], [])))
  (cond (decide (a0 < ((((ln a2) : Nat) : Int))))
   (some ((10, [], [])))
   (gd (Nat.beq 1 (Sh.w (.int .u64)) && decide (0 ≤ a0) && decide (a0 ≤ a0) && decide ((8 : Int) * a0 ≤ 140737488355328) && Nat.ble 1 8) (some ((0, r3.2, (blit ((List.replicate (tN a0) (0 : Int))) 0 ((ln ((List.replicate (tN a0) (0 : Int))))) a2))))))
/- backstitch/forward.Run$1 -/
def D_forward_Run_1 (a0 a1 a2 a3 a4 a5 : Int) : Op (Unit) :=
 some ()
def D_forward_exec_L0 (a0 : Int) (a1 : List (Int × Int × Int × Int × Int × Int)) : (Int × Int × Int × (List Int) × Int × Int × Int × Int × Int × Int × Int × Int) → Op ((Int × Int × Int × (List Int) × Int × Int × Int × Int × Int × Int × Int × Int) ⊕ ((List Int) × Int × Int × Int × Int × Int × Int × Int × Int)) := fun ⟨s20_0, s20_1, s20_2, s20_3, s20_4, s20_5, s20_6, s20_7, s20_8, s20_9, s20_10, s20_11⟩ =>
 cond (decide (s20_0 = ((((ln a1) : Nat) : Int))))
  (some (.inr (((s20_3, s20_4, s20_5, s20_6, s20_7, s20_8, s20_9, s20_10, s20_11)))))
  (cond (decide (s20_1 = a0))
   (some (.inr (((s20_3, s20_4, s20_5, s20_6, s20_7, s20_8, s20_9, s20_10, s20_11)))))
   ((ix s20_0 ((ln a1))).bind fun j21 =>
   (a1[j21]?).bind fun x22 =>
   cond (decide (x22.1 = 7))
    ((ix s20_2 8).bind fun j23 =>
    some (.inl ((wI (s20_0 + 1), s20_1, wI (s20_2 + 1), s20_3, (cond (Nat.beq j23 0) x22.2.2.2.2.1 s20_4), (cond (Nat.beq j23 1) x22.2.2.2.2.1 s20_5), (cond (Nat.beq j23 2) x22.2.2.2.2.1 s20_6), (cond (Nat.beq j23 3) x22.2.2.2.2.1 s20_7), (cond (Nat.beq j23 4) x22.2.2.2.2.1 s20_8), (cond (Nat.beq j23 5) x22.2.2.2.2.1 s20_9), (cond (Nat.beq j23 6) x22.2.2.2.2.1 s20_10), (cond (Nat.beq j23 7) x22.2.2.2.2.1 s20_11)))))
    (cond (decide (x22.1 = 0))
     ((ix (wI (s20_2 - 1)) 8).bind fun j24 =>
     (ix (wI (s20_2 - 1)) 8).bind fun j25 =>
     (ix (wI (s20_2 - 1)) 8).bind fun j26 =>
     cond (decide (0 < ((List.getD [(cond (Nat.beq j25 0) (wU (((List.getD [s20_4, s20_5, s20_6, s20_7, s20_8, s20_9, s20_10, s20_11] j24 0)) - 1)) s20_4), (cond (Nat.beq j25 1) (wU (((List.getD [s20_4, s20_5, s20_6, s20_7, s20_8, s20_9, s20_10, s20_11] j24 0)) - 1)) s20_5), (cond (Nat.beq j25 2) (wU (((List.getD [s20_4, s20_5, s20_6, s20_7, s20_8, s20_9, s20_10, s20_11] j24 0)) - 1)) s20_6), (cond (Nat.beq j25 3) (wU (((List.getD [s20_4, s20_5, s20_6, s20_7, s20_8, s20_9, s20_10, s20_11] j24 0)) - 1)) s20_7), (cond (Nat.beq j25 4) (wU (((List.getD [s20_4, s20_5, s20_6, s20_7, s20_8, s20_9, s20_10, s20_11] j24 0)) - 1)) s20_8), (cond (Nat.beq j25 5) (wU (((List.getD [s20_4, s20_5, s20_6, s20_7, s20_8, s20_9, s20_10, s20_11] j24 0)) - 1)) s20_9), (cond (Nat.beq j25 6) (wU (((List.getD [s20_4, s20_5, s20_6, s20_7, s20_8, s20_9, s20_10, s20_11] j24 0)) - 1)) s20_10), (cond (Nat.beq j25 7) (wU (((List.getD [s20_4, s20_5, s20_6, s20_7, s20_8, s20_9, s20_10, s20_11] j24 0)) - 1)) s20_11)] j26 0))))
      (some (.inl ((x22.2.2.2.2.2, s20_1, s20_2, s20_3, (cond (Nat.beq j25 0) (wU (((List.getD [s20_4, s20_5, s20_6, s20_7, s20_8, s20_9, s20_10, s20_11] j24 0)) - 1)) s20_4), (cond (Nat.beq j25 1) (wU (((List.getD [s20_4, s20_5, s20_6, s20_7, s20_8, s20_9, s20_10, s20_11] j24 0)) - 1)) s20_5), (cond (Nat.beq j25 2) (wU (((List.getD [s20_4, s20_5, s20_6, s20_7, s20_8, s20_9, s20_10, s20_11] j24 0)) - 1)) s20_6), (cond (Nat.beq j25 3) (wU (((List.getD [s20_4, s20_5, s20_6, s20_7, s20_8, s20_9, s20_10, s20_11] j24 0)) - 1)) s20_7), (cond (Nat.beq j25 4) (wU (((List.getD [s20_4, s20_5, s20_6, s20_7, s20_8, s20_9, s20_10, s20_11] j24 0)) - 1)) s20_8), (cond (Nat.beq j25 5) (wU (((List.getD [s20_4, s20_5, s20_6, s20_7, s20_8, s20_9, s20_10, s20_11] j24 0)) - 1)) s20_9), (cond (Nat.beq j25 6) (wU (((List.getD [s20_4, s20_5, s20_6, s20_7, s20_8, s20_9, s20_10, s20_11] j24 0)) - 1)) s20_10), (cond (Nat.beq j25 7) (wU (((List.getD [s20_4, s20_5, s20_6, s20_7, s20_8, s20_9, s20_10, s20_11] j24 0)) - 1)) s20_11)))))
      (some (.inl ((wI (s20_0 + 1), s20_1, wI (s20_2 - 1), s20_3, (cond (Nat.beq j25 0) (wU (((List.getD [s20_4, s20_5, s20_6, s20_7, s20_8, s20_9, s20_10, s20_11] j24 0)) - 1)) s20_4), (cond (Nat.beq j25 1) (wU (((List.getD [s20_4, s20_5, s20_6, s20_7, s20_8, s20_9, s20_10, s20_11] j24 0)) - 1)) s20_5), (cond (Nat.beq j25 2) (wU (((List.getD [s20_4, s20_5, s20_6, s20_7, s20_8, s20_9, s20_10, s20_11] j24 0)) - 1)) s20_6), (cond (Nat.beq j25 3) (wU (((List.getD [s20_4, s20_5, s20_6, s20_7, s20_8, s20_9, s20_10, s20_11] j24 0)) - 1)) s20_7), (cond (Nat.beq j25 4) (wU (((List.getD [s20_4, s20_5, s20_6, s20_7, s20_8, s20_9, s20_10, s20_11] j24 0)) - 1)) s20_8), (cond (Nat.beq j25 5) (wU (((List.getD [s20_4, s20_5, s20_6, s20_7, s20_8, s20_9, s20_10, s20_11] j24 0)) - 1)) s20_9), (cond (Nat.beq j25 6) (wU (((List.getD [s20_4, s20_5, s20_6, s20_7, s20_8, s20_9, s20_10, s20_11] j24 0)) - 1)) s20_10), (cond (Nat.beq j25 7) (wU (((List.getD [s20_4, s20_5, s20_6, s20_7, s20_8, s20_9, s20_10, s20_11] j24 0)) - 1)) s20_11))))))
     ((ix x22.2.2.1 ((ln s20_3))).bind fun j27 =>
     (s20_3[j27]?).bind fun x28 =>
     (ix x22.2.2.2.1 ((ln s20_3))).bind fun j29 =>
     (s20_3[j29]?).bind fun x30 =>
     (D_opcode_Apply x22.1 x22.2.1 x22.2.2.1 x22.2.2.2.1 x22.2.2.2.2.1 x28 x30).bind fun r31 =>
     (ix x22.2.1 ((ln s20_3))).bind fun j32 =>
     (s20_3[j32]?).bind fun x33 =>
     (D_forward_Run_1 s20_1 x22.1 x22.2.1 x22.2.2.1 x22.2.2.2.1 x22.2.2.2.2.1).bind fun r34 =>
     some (.inl ((wI (s20_0 + 1), wI (s20_1 + 1), s20_2, (List.set s20_3 j32 r31), s20_4, s20_5, s20_6, s20_7, s20_8, s20_9, s20_10, s20_11)))))))
/- backstitch/forward.exec -/
def D_forward_exec (a0 : Int) (a1 : List (Int × Int × Int × Int × Int × Int)) (a2 : List Int) : Op (List Int) :=
 (loopN (D_forward_exec_L0 a0 a1) BIG ((0, 0, 0, a2, 0, 0, 0, 0, 0, 0, 0, 0))).bind fun ⟨r35_0, r35_1, r35_2, r35_3, r35_4, r35_5, r35_6, r35_7, r35_8⟩ =>
 some r35_0
/- backstitch/forward.Run -/
def D_forward_Run (a0 : Int) (a1 : LO) (a2 : List Int) : Op (Int × List Int) :=
 (D_forward_begin a0 a1 a2).bind fun r3 =>
 cond (decide (r3.1 ≠ 0))
  (some ((r3.1, [])))
  ((D_forward_exec (-1) r3.2.1 r3.2.2).bind fun r4 =>
  some ((0, r4)))
def D_drive_Driver_advance_L0 (a0 : Int) (a18 a19 : List Int) (a20 a21 : LO) (a22 : List Int) (a23 a24 a25 a26 : Int) : (Int × Int × Int × Int × Int × Int × Int × Int × Int × Int × Int × Int × Int × Int × Int × Int × Int × Int × List Int) → Op ((Int × Int × Int × Int × Int × Int × Int × Int × Int × Int × Int × Int × Int × Int × Int × Int × Int × Int × List Int) ⊕ (Int × Int × Int × Int × Int × Int × Int × Int × Int × Int × Int × Int × Int × Int × Int × Int × Int × List Int)) := fun ⟨s47_0, s47_1, s47_2, s47_3, s47_4, s47_5, s47_6, s47_7, s47_8, s47_9, s47_10, s47_11, s47_12, s47_13, s47_14, s47_15, s47_16, s47_17, s47_18⟩ =>
 cond (decide (s47_0 < a0))
  ((D_drive_Driver_get 1 s47_1 s47_2 s47_3 s47_4 s47_5 s47_6 s47_7 s47_8 s47_9 s47_10 s47_11 s47_12 s47_13 s47_14 s47_15 s47_16 s47_17 a18 a19 a20 a21 a22 a23 a24 a25 a26 s47_18).bind fun r48 =>
  (D_drive_Driver_begin s47_6 a20 r48 ([wU (wI (s47_11 + s47_0))]) s47_1 s47_2 s47_3 s47_4 s47_5 s47_6 s47_7 s47_8 s47_9 s47_10 s47_11 s47_12 s47_13 s47_14 s47_15 s47_16 s47_17 a18 a19 a20 a21 a22 a23 a24 a25 a26 s47_18).bind fun r49 =>
  (D_forward_Run s47_6 a20 r49).bind fun r50 =>
  (D_drive_Driver_put 2 r50.2 s47_1 s47_2 s47_3 s47_4 s47_5 s47_6 s47_7 s47_8 s47_9 s47_10 s47_11 s47_12 s47_13 s47_14 s47_15 s47_16 s47_17 a18 a19 a20 a21 a22 a23 a24 a25 a26 s47_18).bind fun r51 =>
  gd (cutG 0 ((((ln a18) : Nat) : Int)) ((ln r50.2))) ((D_drive_Driver_put 1 ((List.take (((tN ((((ln a18) : Nat) : Int))) - 0)) (List.drop 0 r50.2))) s47_1 s47_2 s47_3 s47_4 s47_5 s47_6 s47_7 s47_8 s47_9 s47_10 s47_11 s47_12 s47_13 s47_14 s47_15 s47_16 s47_17 a18 a19 a20 a21 a22 a23 a24 a25 a26 r51).bind fun r52 =>
  some (.inl ((wI (s47_0 + 1), s47_1, s47_2, s47_3, s47_4, s47_5, s47_6, s47_7, s47_8, s47_9, s47_10, s47_11, s47_12, wI (s47_13 + 1), s47_14, s47_15, s47_16, s47_17, r52)))))
  (some (.inr (((s47_1, s47_2, s47_3, s47_4, s47_5, s47_6, s47_7, s47_8, s47_9, s47_10, s47_11, s47_12, s47_13, s47_14, s47_15, s47_16, s47_17, s47_18)))))
/- (*backstitch/drive.Driver).advance -/
def D_drive_Driver_advance (a0 a1 a2 a3 a4 a5 a6 a7 a8 a9 a10 a11 a12 a13 a14 a15 a16 a17 : Int) (a18 a19 : List Int) (a20 a21 : LO) (a22 : List Int) (a23 a24 a25 a26 : Int) (a27 : List Int) : Op (Int × Int × Int × Int × Int × Int × Int × Int × Int × Int × Int × Int × Int × Int × Int × Int × Int × List Int) :=
 (loopN (D_drive_Driver_advance_L0 a0 a18 a19 a20 a21 a22 a23 a24 a25 a26) BIG ((0, a1, a2, a3, a4, a5, a6, a7, a8, a9, a10, a11, a12, a13, a14, a15, a16, a17, a27))).bind fun ⟨r53_0, r53_1, r53_2, r53_3, r53_4, r53_5, r53_6, r53_7, r53_8, r53_9, r53_10, r53_11, r53_12, r53_13, r53_14, r53_15, r53_16, r53_17⟩ =>
 some ((r53_0, r53_1, r53_2, r53_3, r53_4, r53_5, r53_6, r53_7, r53_8, r53_9, r53_10, r53_11, r53_12, r53_13, r53_14, r53_15, r53_16, r53_17))
/- (*backstitch/machine.Machine).Spot -/
def D_machine_Machine_Spot (a0 a1 a2 a3 : Int) (a4 : List Int) : Op (Int × Int × List Int) :=
 (D_slices_Clone_int_int a4).bind fun r5 =>
 some ((a0, a1, r5))
/- (*backstitch/slots.Slots).Store -/
def D_slots_Slots_Store (a0 a1 : Int) (a2 : List Int) : Op (Unit) :=
 some ()
/- (*backstitch/drive.Driver).store -/
def D_drive_Driver_store (a0 a1 a2 a3 a4 a5 a6 a7 a8 a9 a10 a11 a12 a13 a14 a15 a16 a17 : Int) (a18 a19 : List Int) (a20 a21 : LO) (a22 : List Int) (a23 a24 a25 a26 : Int) (a27 : List Int) : Op (Int × Int × Int) :=
 (D_meter_Meter_Hold a3 a24 a25 a26).bind fun r28 =>
 (D_drive_Driver_get 1 a1 a2 a3 a4 a5 a6 a7 a8 a9 a10 a11 a12 a13 a14 a15 a16 a17 a18 a19 a20 a21 a22 a23 r28.2.1 r28.2.2.1 r28.2.2.2 a27).bind fun r29 =>
 (D_slots_Slots_Store a0 a11 r29).bind fun r30 =>
 some ((r28.2.1, r28.2.2.1, r28.2.2.2))
/- (*backstitch/slots.Slots).Restore -/
def D_slots_Slots_Restore (a0 : Int) : Op (Unit) :=
 some ()
/- (*backstitch/drive.Driver).restore -/
def D_drive_Driver_restore (a0 a1 a2 a3 a4 a5 a6 a7 a8 a9 a10 a11 a12 a13 a14 a15 a16 a17 : Int) (a18 a19 : List Int) (a20 a21 : LO) (a22 : List Int) (a23 a24 a25 a26 : Int) (a27 : List Int) : Op (List Int) :=
 (D_slots_Slots_Restore a0).bind fun r28 =>
 (D_drive_Driver_put 1 [] a1 a2 a3 a4 a5 a6 a7 a8 a9 a10 a11 a12 a13 a14 a15 a16 a17 a18 a19 a20 a21 a22 a23 a24 a25 a26 a27).bind fun r29 =>
 some r29
/- (*backstitch/slots.Slots).Free -/
def D_slots_Slots_Free (a0 : Int) : Op (Unit) :=
 some ()
/- (*backstitch/drive.Driver).free -/
def D_drive_Driver_free (a0 a1 a2 a3 a4 a5 a6 a7 a8 a9 a10 a11 a12 a13 a14 a15 a16 a17 : Int) (a18 a19 : List Int) (a20 a21 : LO) (a22 : List Int) (a23 a24 a25 a26 : Int) (a27 : List Int) : Op (Int × Int × Int) :=
 (D_slots_Slots_Free a0).bind fun r28 =>
 (D_meter_Meter_Drop a3 a24 a25 a26).bind fun r29 =>
 some ((r29.2.1, r29.2.2.1, r29.2.2.2))
def D_drive_Driver_back_2_L0 (a22 : List Int) (r31 : Int × (List Int) × List Int) (r34 : List Int) (s37 : Int × List Int) : Op ((Int × List Int) ⊕ (List Int)) :=
 cond (decide (s37.1 < ((((ln r34) : Nat) : Int))))
  ((ix s37.1 ((ln s37.2))).bind fun j38 =>
  (s37.2[j38]?).bind fun x39 =>
  (ix (wI (((((ln a22) : Nat) : Int)) + s37.1)) ((ln r31.2.2))).bind fun j40 =>
  (r31.2.2[j40]?).bind fun x41 =>
  (ix s37.1 ((ln s37.2))).bind fun j42 =>
  (s37.2[j42]?).bind fun x43 =>
  some (.inl ((wI (s37.1 + 1), (List.set s37.2 j42 (wU (x39 + x41)))))))
  (some (.inr s37.2))
/- (*backstitch/drive.Driver).back -/
def D_drive_Driver_back_2 (a0 a1 a2 a3 a4 a5 a6 a7 a8 a9 a10 a11 a12 a13 a14 a15 a16 a17 : Int) (a18 : LO) (a19 a20 a21 a22 a23 : List Int) (a24 : LO) (a25 : List Int) (a26 a27 a28 a29 : Int) (a30 : List Int) : Op (Int × Int × Int × Int × Int × Int × Int × Int × Int × Int × Int × Int × Int × Int × Int × Int × Int × (List Int) × (List Int) × List Int) :=
 (D_sweep_Back a0 a18 a19 a20 a21).bind fun r31 =>
 (D_drive_Driver_put 4 r31.2.2 a1 a2 a3 a4 a5 a6 a7 a8 a9 a10 a11 a12 a13 a14 a15 a16 a17 a22 a23 a18 a24 a25 a26 a27 a28 a29 a30).bind fun r32 =>
 gd (cutG 0 ((((ln a22) : Nat) : Int)) ((ln r31.2.2))) ((D_drive_Driver_put 5 ((List.take (((tN ((((ln a22) : Nat) : Int))) - 0)) (List.drop 0 r31.2.2))) a1 a2 a3 a4 a5 a6 a7 a8 a9 a10 a11 a12 a13 a14 a15 a16 a17 a22 a23 a18 a24 a25 a26 a27 a28 a29 r32).bind fun r33 =>
 (D_drive_Driver_get 6 a1 a2 a3 a4 a5 a6 a7 a8 a9 a10 a11 a12 a13 a14 a15 a16 a17 a22 a23 a18 a24 a25 a26 a27 a28 a29 r33).bind fun r34 =>
 (loopN (D_drive_Driver_back_2_L0 a22 r31 r34) BIG ((0, r34))).bind fun r44 =>
 (D_drive_Driver_put 6 r44 a1 a2 a3 a4 a5 a6 a7 a8 a9 a10 a11 a12 a13 a14 a15 a16 a17 a22 a23 a18 a24 a25 a26 a27 a28 a29 r33).bind fun r45 =>
 some ((a1, a2, a3, a4, a5, a6, a7, a8, a9, a10, a11, a12, a13, a14, a15, wI (a16 + 1), a17, r31.2.1, r31.2.2, r45)))
/- (*backstitch/drive.Driver).turn -/
def D_drive_Driver_turn (a0 a1 a2 a3 a4 a5 a6 a7 a8 a9 a10 a11 a12 a13 a14 a15 a16 : Int) (a17 a18 a19 a20 : List Int) (a21 a22 : LO) (a23 : List Int) (a24 a25 a26 a27 : Int) (a28 : List Int) : Op (Int × Int × Int × Int × Int × Int × Int × Int × Int × Int × Int × Int × Int × Int × Int × Int × Int × (List Int) × List Int) :=
 (D_drive_Driver_get 5 a0 a1 a2 a3 a4 a5 a6 a7 a8 a9 a10 a11 a12 a13 a14 a15 a16 a19 a20 a21 a22 a23 a24 a25 a26 a27 a28).bind fun r29 =>
 (D_drive_wide a5 a21 r29).bind fun r30 =>
 (D_drive_Driver_back_2 a5 a0 a1 a2 a3 a4 a5 a6 a7 a8 a9 a10 a11 a12 a13 a14 a15 a16 a21 a17 r30 a18 a19 a20 a22 a23 a24 a25 a26 a27 a28).bind fun ⟨r31_0, r31_1, r31_2, r31_3, r31_4, r31_5, r31_6, r31_7, r31_8, r31_9, r31_10, r31_11, r31_12, r31_13, r31_14, r31_15, r31_16, r31_17, r31_18, r31_19⟩ =>
 some ((r31_0, r31_1, r31_2, r31_3, r31_4, r31_5, r31_6, r31_7, r31_8, r31_9, r31_10, r31_11, r31_12, r31_13, r31_14, r31_15, r31_16, r31_17, r31_19))
/- (*backstitch/drive.Driver).both -/
def D_drive_Driver_both (a0 a1 a2 a3 a4 a5 a6 a7 a8 a9 a10 a11 a12 a13 a14 a15 a16 a17 : Int) (a18 a19 : List Int) (a20 a21 : LO) (a22 : List Int) (a23 a24 a25 a26 : Int) (a27 : List Int) : Op (Int × Int × Int × Int × Int × Int × Int × Int × Int × Int × Int × Int × Int × Int × Int × Int × Int × Int × Int × Int × List Int) :=
 (D_plan_Of a5 a18 a19 a6 a20 a7 a21 a8 a9).bind fun r28 =>
 (D_meter_Meter_Hold (wI (r28.1 + r28.2)) a24 a25 a26).bind fun r29 =>
 (D_drive_Driver_taped a1 a2 a3 a4 a5 a6 a7 a8 a9 a10 a11 a12 a13 a14 a15 a16 a17 a18 a19 a20 a21 a22 a23 r29.2.1 r29.2.2.1 r29.2.2.2 a27).bind fun ⟨r30_0, r30_1, r30_2, r30_3, r30_4, r30_5, r30_6, r30_7, r30_8, r30_9, r30_10, r30_11, r30_12, r30_13, r30_14, r30_15, r30_16, r30_17, r30_18, r30_19⟩ =>
 gd (cutG 0 ((((ln a18) : Nat) : Int)) ((ln r30_18))) ((D_drive_Driver_end ((List.take (((tN ((((ln a18) : Nat) : Int))) - 0)) (List.drop 0 r30_18))) r30_0 r30_1 r30_2 r30_3 r30_4 r30_5 r30_6 r30_7 r30_8 r30_9 r30_10 r30_11 r30_12 r30_13 r30_14 r30_15 r30_16 a18 a19 a20 a21 a22 a23 r29.2.1 r29.2.2.1 r29.2.2.2 r30_17).bind fun ⟨r31_0, r31_1, r31_2, r31_3, r31_4, r31_5, r31_6, r31_7, r31_8, r31_9, r31_10, r31_11, r31_12, r31_13, r31_14, r31_15, r31_16, r31_17⟩ =>
 (D_drive_Driver_turn r31_0 r31_1 r31_2 r31_3 r31_4 r31_5 r31_6 r31_7 r31_8 r31_9 r31_10 r31_11 r31_12 r31_13 r31_14 r31_15 r31_16 r30_18 r30_19 a18 a19 a20 a21 a22 a23 r29.2.1 r29.2.2.1 r29.2.2.2 r31_17).bind fun ⟨r32_0, r32_1, r32_2, r32_3, r32_4, r32_5, r32_6, r32_7, r32_8, r32_9, r32_10, r32_11, r32_12, r32_13, r32_14, r32_15, r32_16, r32_17, r32_18⟩ =>
 (D_meter_Meter_Drop (wI (r28.1 + r28.2)) r29.2.1 r29.2.2.1 r29.2.2.2).bind fun r33 =>
 some ((r32_0, r32_1, r32_2, r32_3, r32_4, r32_5, r32_6, r32_7, r32_8, r32_9, r32_10, r32_11, r32_12, r32_13, r32_14, r32_15, r32_16, r33.2.1, r33.2.2.1, r33.2.2.2, r32_18)))
/- (*backstitch/drive.Driver).reverse -/
def D_drive_Driver_reverse (a0 a1 a2 a3 a4 a5 a6 a7 a8 a9 a10 a11 a12 a13 a14 a15 a16 a17 : Int) (a18 a19 : List Int) (a20 a21 : LO) (a22 : List Int) (a23 a24 a25 a26 : Int) (a27 : List Int) : Op (Int × Int × Int × Int × Int × Int × Int × Int × Int × Int × Int × Int × Int × Int × Int × Int × Int × Int × Int × Int × List Int) :=
 (D_plan_Of a5 a18 a19 a6 a20 a7 a21 a8 a9).bind fun r28 =>
 (D_meter_Meter_Hold r28.1 a24 a25 a26).bind fun r29 =>
 (D_drive_Driver_taped a1 a2 a3 a4 a5 a6 a7 a8 a9 a10 a11 a12 a13 a14 a15 a16 a17 a18 a19 a20 a21 a22 a23 r29.2.1 r29.2.2.1 r29.2.2.2 a27).bind fun ⟨r30_0, r30_1, r30_2, r30_3, r30_4, r30_5, r30_6, r30_7, r30_8, r30_9, r30_10, r30_11, r30_12, r30_13, r30_14, r30_15, r30_16, r30_17, r30_18, r30_19⟩ =>
 (D_drive_Driver_turn r30_0 r30_1 r30_2 r30_3 r30_4 r30_5 r30_6 r30_7 r30_8 r30_9 r30_10 r30_11 r30_12 r30_13 r30_14 r30_15 r30_16 r30_18 r30_19 a18 a19 a20 a21 a22 a23 r29.2.1 r29.2.2.1 r29.2.2.2 r30_17).bind fun ⟨r31_0, r31_1, r31_2, r31_3, r31_4, r31_5, r31_6, r31_7, r31_8, r31_9, r31_10, r31_11, r31_12, r31_13, r31_14, r31_15, r31_16, r31_17, r31_18⟩ =>
 (D_meter_Meter_Drop r28.1 r29.2.1 r29.2.2.1 r29.2.2.2).bind fun r32 =>
 some ((r31_0, r31_1, r31_2, r31_3, r31_4, r31_5, r31_6, r31_7, r31_8, r31_9, r31_10, r31_11, r31_12, r31_13, r31_14, r31_15, r31_16, r32.2.1, r32.2.2.1, r32.2.2.2, r31_18))
/- (*backstitch/drive.Driver).Do -/
def D_drive_Driver_Do_2 (a0 a1 a2 a3 a4 a5 a6 a7 a8 a9 a10 a11 a12 a13 a14 a15 a16 a17 a18 : Int) (a19 a20 : List Int) (a21 a22 : LO) (a23 : List Int) (a24 a25 a26 a27 : Int) (a28 : List Int) : Op (Int × Int × Int × Int × Int × Int × Int × Int × Int × Int × Int × Int × Int × Int × Int × Int × Int × Int × Int × Int × Int × List Int) :=
 (D_drive_Driver_baseline a2 a3 a4 a5 a6 a7 a8 a9 a10 a11 a12 a13 a14 a15 a16 a17 a18 a19 a20 a21 a22 a23 a24 a25 a26 a27 a28).bind fun r29 =>
 cond (r29)
  ((D_drive_Driver_plain a0 a1 a2 a3 a4 a5 a6 a7 a8 a9 a10 a11 a12 a13 a14 a15 a16 a17 a18 a19 a20 a21 a22 a23 a24 a25 a26 a27 a28).bind fun ⟨r30_0, r30_1, r30_2, r30_3, r30_4, r30_5, r30_6, r30_7, r30_8, r30_9, r30_10, r30_11, r30_12, r30_13, r30_14, r30_15, r30_16, r30_17, r30_18, r30_19, r30_20, r30_21⟩ =>
  some ((r30_0, r30_1, r30_2, r30_3, r30_4, r30_5, r30_6, r30_7, r30_8, r30_9, r30_10, r30_11, r30_12, r30_13, r30_14, r30_15, r30_16, r30_17, r30_18, r30_19, r30_20, r30_21)))
  ((D_drive_Driver_Spot_2 a2 a3 a4 a5 a6 a7 a8 a9 a10 a11 a12 a13 a14 a15 a16 a17 a18 a19 a20 a21 a22 a23 a24 a25 a26 a27 a28).bind fun r31 =>
  (D_machine_At a11 r31.1 r31.2 []).bind fun r32 =>
  caseS r32 (fun u33 =>
   some ((2, a2, a3, a4, a5, a6, a7, a8, a9, a10, a11, a12, a13, a14, a15, a16, a17, a18, a25, a26, a27, a28)))
   (fun w34 =>
   (D_machine_Machine_Do a0 a1 w34.1 w34.2.1 w34.2.2.1 0 w34.2.2.2).bind fun r35 =>
   cond (decide (r35.1 ≠ 0))
    (some ((r35.1, a2, a3, a4, a5, a6, a7, a8, a9, a10, a11, a12, a13, a14, a15, a16, a17, a18, a25, a26, a27, a28)))
    ((D_drive_Driver_moves a2 a3 a4 a5 a6 a7 a8 a9 a10 a11 a12 a13 a14 a15 a16 a17 a18 a19 a20 a21 a22 a23 a24 a25 a26 a27 a28).bind fun r36 =>
    (ix a0 8).bind fun j37 =>
    cond (Nat.beq j37 0)
     none
     (cond (Nat.beq ((j37 - 1)) 0)
      ((D_drive_Driver_advance a1 a2 a3 a4 a5 a6 a7 a8 a9 a10 a11 a12 a13 a14 a15 a16 a17 a18 a19 a20 a21 a22 a23 a24 a25 a26 a27 a28).bind fun ⟨r38_0, r38_1, r38_2, r38_3, r38_4, r38_5, r38_6, r38_7, r38_8, r38_9, r38_10, r38_11, r38_12, r38_13, r38_14, r38_15, r38_16, r38_17⟩ =>
      (D_machine_Machine_Spot r35.2.1 r35.2.2.1 r35.2.2.2.1 r35.2.2.2.2.1 r35.2.2.2.2.2).bind fun r39 =>
      some ((0, r38_0, r38_1, r38_2, r38_3, r38_4, r38_5, r38_6, r38_7, r38_8, r38_9, r39.1, r39.2.1, r38_12, r38_13, r38_14, r38_15, r38_16, a25, a26, a27, r38_17)))
      (cond (Nat.beq (((j37 - 1) - 1)) 0)
       ((D_drive_Driver_store a1 a2 a3 a4 a5 a6 a7 a8 a9 a10 a11 a12 a13 a14 a15 a16 a17 a18 a19 a20 a21 a22 a23 a24 a25 a26 a27 a28).bind fun r40 =>
       (D_machine_Machine_Spot r35.2.1 r35.2.2.1 r35.2.2.2.1 r35.2.2.2.2.1 r35.2.2.2.2.2).bind fun r41 =>
       some ((0, a2, a3, a4, a5, a6, a7, a8, a9, a10, a11, r41.1, r41.2.1, a14, a15, a16, a17, a18, r40.1, r40.2.1, r40.2.2, a28)))
       (cond (Nat.beq ((((j37 - 1) - 1) - 1)) 0)
        ((D_drive_Driver_restore a1 a2 a3 a4 a5 a6 a7 a8 a9 a10 a11 a12 a13 a14 a15 a16 a17 a18 a19 a20 a21 a22 a23 a24 a25 a26 a27 a28).bind fun r42 =>
        (D_machine_Machine_Spot r35.2.1 r35.2.2.1 r35.2.2.2.1 r35.2.2.2.2.1 r35.2.2.2.2.2).bind fun r43 =>
        some ((0, a2, a3, a4, a5, a6, a7, a8, a9, a10, a11, r43.1, r43.2.1, a14, a15, a16, a17, a18, a25, a26, a27, r42)))
        (cond (Nat.beq (((((j37 - 1) - 1) - 1) - 1)) 0)
         ((D_drive_Driver_free a1 a2 a3 a4 a5 a6 a7 a8 a9 a10 a11 a12 a13 a14 a15 a16 a17 a18 a19 a20 a21 a22 a23 a24 a25 a26 a27 a28).bind fun r44 =>
         (D_machine_Machine_Spot r35.2.1 r35.2.2.1 r35.2.2.2.1 r35.2.2.2.2.1 r35.2.2.2.2.2).bind fun r45 =>
         some ((0, a2, a3, a4, a5, a6, a7, a8, a9, a10, a11, r45.1, r45.2.1, a14, a15, a16, a17, a18, r44.1, r44.2.1, r44.2.2, a28)))
         (cond (Nat.beq ((((((j37 - 1) - 1) - 1) - 1) - 1)) 0)
          ((D_drive_Driver_seed a1 a2 a3 a4 a5 a6 a7 a8 a9 a10 a11 a12 a13 a14 a15 a16 a17 a18 a19 a20 a21 a22 a23 a24 a25 a26 a27 a28).bind fun ⟨r46_0, r46_1, r46_2, r46_3, r46_4, r46_5, r46_6, r46_7, r46_8, r46_9, r46_10, r46_11, r46_12, r46_13, r46_14, r46_15, r46_16, r46_17, r46_18, r46_19, r46_20⟩ =>
          (D_machine_Machine_Spot r35.2.1 r35.2.2.1 r35.2.2.2.1 r35.2.2.2.2.1 r35.2.2.2.2.2).bind fun r47 =>
          some ((0, r46_0, r46_1, r46_2, r46_3, r46_4, r46_5, r46_6, r46_7, r46_8, r46_9, r47.1, r47.2.1, r46_12, r46_13, r46_14, r46_15, r46_16, r46_17, r46_18, r46_19, r46_20)))
          (cond (Nat.beq (((((((j37 - 1) - 1) - 1) - 1) - 1) - 1)) 0)
           ((D_drive_Driver_both a1 a2 a3 a4 a5 a6 a7 a8 a9 a10 a11 a12 a13 a14 a15 a16 a17 a18 a19 a20 a21 a22 a23 a24 a25 a26 a27 a28).bind fun ⟨r48_0, r48_1, r48_2, r48_3, r48_4, r48_5, r48_6, r48_7, r48_8, r48_9, r48_10, r48_11, r48_12, r48_13, r48_14, r48_15, r48_16, r48_17, r48_18, r48_19, r48_20⟩ =>
           (D_machine_Machine_Spot r35.2.1 r35.2.2.1 r35.2.2.2.1 r35.2.2.2.2.1 r35.2.2.2.2.2).bind fun r49 =>
           some ((0, r48_0, r48_1, r48_2, r48_3, r48_4, r48_5, r48_6, r48_7, r48_8, r48_9, r49.1, r49.2.1, r48_12, r48_13, r48_14, r48_15, r48_16, r48_17, r48_18, r48_19, r48_20)))
           (cond (Nat.beq ((((((((j37 - 1) - 1) - 1) - 1) - 1) - 1) - 1)) 0)
            ((D_drive_Driver_reverse a1 a2 a3 a4 a5 a6 a7 a8 a9 a10 a11 a12 a13 a14 a15 a16 a17 a18 a19 a20 a21 a22 a23 a24 a25 a26 a27 a28).bind fun ⟨r50_0, r50_1, r50_2, r50_3, r50_4, r50_5, r50_6, r50_7, r50_8, r50_9, r50_10, r50_11, r50_12, r50_13, r50_14, r50_15, r50_16, r50_17, r50_18, r50_19, r50_20⟩ =>
            (D_machine_Machine_Spot r35.2.1 r35.2.2.1 r35.2.2.2.1 r35.2.2.2.2.1 r35.2.2.2.2.2).bind fun r51 =>
            some ((0, r50_0, r50_1, r50_2, r50_3, r50_4, r50_5, r50_6, r50_7, r50_8, r50_9, r51.1, r51.2.1, r50_12, r50_13, r50_14, r50_15, r50_16, r50_17, r50_18, r50_19, r50_20)))
            none))))))))))
/- (*backstitch/engine.Engine).Step -/
def D_engine_Engine_Step_7 (a0 : Int) (a1 a2 : Bool) (a3 a4 a5 a6 a7 a8 a9 a10 a11 a12 a13 a14 a15 a16 a17 a18 a19 : Int) (a20 a21 : List Int) (a22 a23 : LO) (a24 : List Int) (a25 a26 a27 a28 : Int) (a29 : List Int) : Op (Int × Int × Bool × Int × Int × Int × Int × Int × Int × Int × Int × Int × Int × Int × Int × Int × Int × Int × Int × Int × Int × Int × Int × Int × List Int) :=
 cond (a2)
  (some ((0, 0, false, 14, a3, a4, a5, a6, a7, a8, a9, a10, a11, a12, a13, a14, a15, a16, a17, a18, a19, a26, a27, a28, a29)))
  ((D_engine_offline_2 a0 a1 a2 a3 a4 a5 a6 a7 a8 a9 a10 a11 a12 a13 a14 a15 a16 a17 a18 a19 a20 a21 a22 a23 a24 a25 a26 a27 a28 a29).bind fun r30 =>
  cond (!r30.2.2)
   (some ((0, 0, false, 0, a3, a4, a5, a6, a7, a8, a9, a10, a11, a12, a13, a14, a15, a16, a17, a18, a19, a26, a27, a28, a29)))
   ((D_drive_Driver_Do_2 r30.1 r30.2.1 a3 a4 a5 a6 a7 a8 a9 a10 a11 a12 a13 a14 a15 a16 a17 a18 a19 a20 a21 a22 a23 a24 a25 a26 a27 a28 a29).bind fun ⟨r31_0, r31_1, r31_2, r31_3, r31_4, r31_5, r31_6, r31_7, r31_8, r31_9, r31_10, r31_11, r31_12, r31_13, r31_14, r31_15, r31_16, r31_17, r31_18, r31_19, r31_20, r31_21⟩ =>
   cond (decide (r31_0 ≠ 0))
    (some ((0, 0, false, r31_0, r31_1, r31_2, r31_3, r31_4, r31_5, r31_6, r31_7, r31_8, r31_9, r31_10, r31_11, r31_12, r31_13, r31_14, r31_15, r31_16, r31_17, r31_18, r31_19, r31_20, r31_21)))
    (some ((r30.1, r30.2.1, true, 0, r31_1, r31_2, r31_3, r31_4, r31_5, r31_6, r31_7, r31_8, r31_9, r31_10, r31_11, r31_12, r31_13, r31_14, r31_15, r31_16, r31_17, r31_18, r31_19, r31_20, r31_21)))))
def D_engine_Engine_Run_7_L0 (a0 : Int) (a1 a2 : Bool) (a20 a21 : List Int) (a22 a23 : LO) (a24 : List Int) (a25 : Int) : (Int × Int × Int × Int × Int × Int × Int × Int × Int × Int × Int × Int × Int × Int × Int × Int × Int × Int × Int × Int × Int × List Int) → Op ((Int × Int × Int × Int × Int × Int × Int × Int × Int × Int × Int × Int × Int × Int × Int × Int × Int × Int × Int × Int × Int × List Int) ⊕ (Int × Int × Int × Int × Int × Int × Int × Int × Int × Int × Int × Int × Int × Int × Int × Int × Int × Int × Int × Int × Int × Int × List Int)) := fun ⟨s52_0, s52_1, s52_2, s52_3, s52_4, s52_5, s52_6, s52_7, s52_8, s52_9, s52_10, s52_11, s52_12, s52_13, s52_14, s52_15, s52_16, s52_17, s52_18, s52_19, s52_20, s52_21⟩ =>
 (D_engine_Engine_Step_7 a0 a1 a2 s52_1 s52_2 s52_3 s52_4 s52_5 s52_6 s52_7 s52_8 s52_9 s52_10 s52_11 s52_12 s52_13 s52_14 s52_15 s52_16 s52_17 a20 a21 a22 a23 a24 a25 s52_18 s52_19 s52_20 s52_21).bind fun ⟨r53_0, r53_1, r53_2, r53_3, r53_4, r53_5, r53_6, r53_7, r53_8, r53_9, r53_10, r53_11, r53_12, r53_13, r53_14, r53_15, r53_16, r53_17, r53_18, r53_19, r53_20, r53_21, r53_22, r53_23, r53_24⟩ =>
 cond (decide (r53_3 ≠ 0))
  (some (.inr (((0, r53_3, r53_4, r53_5, r53_6, r53_7, r53_8, r53_9, r53_10, r53_11, r53_12, r53_13, r53_14, r53_15, r53_16, r53_17, r53_18, r53_19, r53_20, r53_21, r53_22, r53_23, r53_24)))))
  (cond (r53_2)
   (some (.inl ((wI (s52_0 + 1), r53_4, r53_5, r53_6, r53_7, r53_8, r53_9, r53_10, r53_11, r53_12, r53_13, r53_14, r53_15, r53_16, r53_17, r53_18, r53_19, r53_20, r53_21, r53_22, r53_23, r53_24))))
   (some (.inr (((s52_0, 0, r53_4, r53_5, r53_6, r53_7, r53_8, r53_9, r53_10, r53_11, r53_12, r53_13, r53_14, r53_15, r53_16, r53_17, r53_18, r53_19, r53_20, r53_21, r53_22, r53_23, r53_24))))))
/- (*backstitch/engine.Engine).Run -/
def D_engine_Engine_Run_7 (a0 : Int) (a1 a2 : Bool) (a3 a4 a5 a6 a7 a8 a9 a10 a11 a12 a13 a14 a15 a16 a17 a18 a19 : Int) (a20 a21 : List Int) (a22 a23 : LO) (a24 : List Int) (a25 a26 a27 a28 : Int) (a29 : List Int) : Op (Int × Int × Int × Int × Int × Int × Int × Int × Int × Int × Int × Int × Int × Int × Int × Int × Int × Int × Int × Int × Int × Int × List Int) :=
 (loopN (D_engine_Engine_Run_7_L0 a0 a1 a2 a20 a21 a22 a23 a24 a25) BIG ((0, a3, a4, a5, a6, a7, a8, a9, a10, a11, a12, a13, a14, a15, a16, a17, a18, a19, a26, a27, a28, a29))).bind fun ⟨r54_0, r54_1, r54_2, r54_3, r54_4, r54_5, r54_6, r54_7, r54_8, r54_9, r54_10, r54_11, r54_12, r54_13, r54_14, r54_15, r54_16, r54_17, r54_18, r54_19, r54_20, r54_21, r54_22⟩ =>
 some ((r54_0, r54_1, r54_2, r54_3, r54_4, r54_5, r54_6, r54_7, r54_8, r54_9, r54_10, r54_11, r54_12, r54_13, r54_14, r54_15, r54_16, r54_17, r54_18, r54_19, r54_20, r54_21, r54_22))
/- (*backstitch/engine.Engine).Result -/
def D_engine_Engine_Result_7 (a0 : Int) (a1 a2 : Bool) (a3 a4 a5 a6 a7 a8 a9 a10 a11 a12 a13 a14 a15 a16 a17 a18 a19 : Int) (a20 a21 : List Int) (a22 a23 : LO) (a24 : List Int) (a25 a26 a27 a28 : Int) (a29 : List Int) : Op (Int × Int × (List Int) × List Int) :=
 (D_engine_Engine_own_7 a0 a1 a2 a3 a4 a5 a6 a7 a8 a9 a10 a11 a12 a13 a14 a15 a16 a17 a18 a19 a20 a21 a22 a23 a24 a25 a26 a27 a28 a29).bind fun r30 =>
 (D_drive_Driver_Result_2 a3 a4 a5 a6 a7 a8 a9 a10 a11 a12 a13 a14 a15 a16 a17 a18 a19 a20 a21 a22 a23 a24 a25 a26 a27 a28 a29).bind fun r31 =>
 some ((r31.1, r31.2.1, r31.2.2.1, r31.2.2.2))
/- (*backstitch/engine.Engine).still -/
def D_engine_Engine_still_5 (a0 : Int) (a1 a2 : Bool) (a3 a4 a5 a6 a7 a8 a9 a10 a11 a12 a13 a14 a15 a16 a17 a18 a19 : Int) (a20 a21 : List Int) (a22 a23 : LO) (a24 : List Int) (a25 a26 a27 a28 : Int) (a29 : List Int) : Op (Bool) :=
 cond (a2)
  (some false)
  ((D_engine_offline_2 a0 a1 a2 a3 a4 a5 a6 a7 a8 a9 a10 a11 a12 a13 a14 a15 a16 a17 a18 a19 a20 a21 a22 a23 a24 a25 a26 a27 a28 a29).bind fun r30 =>
  some !r30.2.2)
/- (*backstitch/engine.Engine).Done -/
def D_engine_Engine_Done_5 (a0 : Int) (a1 a2 : Bool) (a3 a4 a5 a6 a7 a8 a9 a10 a11 a12 a13 a14 a15 a16 a17 a18 a19 : Int) (a20 a21 : List Int) (a22 a23 : LO) (a24 : List Int) (a25 a26 a27 a28 : Int) (a29 : List Int) : Op (Bool) :=
 (D_engine_Engine_still_5 a0 a1 a2 a3 a4 a5 a6 a7 a8 a9 a10 a11 a12 a13 a14 a15 a16 a17 a18 a19 a20 a21 a22 a23 a24 a25 a26 a27 a28 a29).bind fun r30 =>
 cond (r30)
  ((D_engine_Engine_Spot_5 a0 a1 a2 a3 a4 a5 a6 a7 a8 a9 a10 a11 a12 a13 a14 a15 a16 a17 a18 a19 a20 a21 a22 a23 a24 a25 a26 a27 a28 a29).bind fun r31 =>
  some (decide (r31.2 = 0)))
  (some false)
/- (*backstitch/engine.Engine).own -/
def D_engine_Engine_own_8 (a0 : Int) (a1 a2 : Bool) (a3 a4 a5 a6 a7 a8 a9 a10 a11 a12 a13 a14 a15 a16 a17 a18 a19 : Int) (a20 a21 : List Int) (a22 a23 : LO) (a24 : List Int) (a25 a26 a27 a28 : Int) (a29 : List Int) : Op (Unit) :=
 some ()
/- (*backstitch/engine.Engine).Len -/
def D_engine_Engine_Len_5 (a0 : Int) (a1 a2 : Bool) (a3 a4 a5 a6 a7 a8 a9 a10 a11 a12 a13 a14 a15 a16 a17 a18 a19 : Int) (a20 a21 : List Int) (a22 a23 : LO) (a24 : List Int) (a25 a26 a27 a28 : Int) (a29 : List Int) : Op (Int) :=
 (D_engine_Engine_own_8 a0 a1 a2 a3 a4 a5 a6 a7 a8 a9 a10 a11 a12 a13 a14 a15 a16 a17 a18 a19 a20 a21 a22 a23 a24 a25 a26 a27 a28 a29).bind fun r30 =>
 (D_drive_Driver_Len_2 a3 a4 a5 a6 a7 a8 a9 a10 a11 a12 a13 a14 a15 a16 a17 a18 a19 a20 a21 a22 a23 a24 a25 a26 a27 a28 a29).bind fun r31 =>
 some r31
/- (*backstitch/engine.Engine).Spot -/
def D_engine_Engine_Spot_6 (a0 : Int) (a1 a2 : Bool) (a3 a4 a5 a6 a7 a8 a9 a10 a11 a12 a13 a14 a15 a16 a17 a18 a19 : Int) (a20 a21 : List Int) (a22 a23 : LO) (a24 : List Int) (a25 a26 a27 a28 : Int) (a29 : List Int) : Op (Int × Int) :=
 (D_engine_Engine_own_8 a0 a1 a2 a3 a4 a5 a6 a7 a8 a9 a10 a11 a12 a13 a14 a15 a16 a17 a18 a19 a20 a21 a22 a23 a24 a25 a26 a27 a28 a29).bind fun r30 =>
 (D_drive_Driver_Spot_2 a3 a4 a5 a6 a7 a8 a9 a10 a11 a12 a13 a14 a15 a16 a17 a18 a19 a20 a21 a22 a23 a24 a25 a26 a27 a28 a29).bind fun r31 =>
 some ((r31.1, r31.2))
/- backstitch/engine.online -/
def D_engine_online_2 (a0 : Int) (a1 a2 : Bool) (a3 a4 a5 a6 a7 a8 a9 a10 a11 a12 a13 a14 a15 a16 a17 a18 a19 : Int) (a20 a21 : List Int) (a22 a23 : LO) (a24 : List Int) (a25 a26 a27 a28 : Int) (a29 : List Int) : Op (Int × Int × Bool) :=
 (D_engine_Engine_Len_5 a0 a1 a2 a3 a4 a5 a6 a7 a8 a9 a10 a11 a12 a13 a14 a15 a16 a17 a18 a19 a20 a21 a22 a23 a24 a25 a26 a27 a28 a29).bind fun r30 =>
 (D_engine_Engine_Spot_6 a0 a1 a2 a3 a4 a5 a6 a7 a8 a9 a10 a11 a12 a13 a14 a15 a16 a17 a18 a19 a20 a21 a22 a23 a24 a25 a26 a27 a28 a29).bind fun r31 =>
 (D_stride_Next r30 a1 r31.1 r31.2 []).bind fun r32 =>
 some ((r32.1, r32.2.1, r32.2.2))
/- (*backstitch/engine.Engine).Step -/
def D_engine_Engine_Step_8 (a0 : Int) (a1 a2 : Bool) (a3 a4 a5 a6 a7 a8 a9 a10 a11 a12 a13 a14 a15 a16 a17 a18 a19 : Int) (a20 a21 : List Int) (a22 a23 : LO) (a24 : List Int) (a25 a26 a27 a28 : Int) (a29 : List Int) : Op (Int × Int × Bool × Int × Int × Int × Int × Int × Int × Int × Int × Int × Int × Int × Int × Int × Int × Int × Int × Int × Int × Int × Int × Int × List Int) :=
 cond (a2)
  (some ((0, 0, false, 14, a3, a4, a5, a6, a7, a8, a9, a10, a11, a12, a13, a14, a15, a16, a17, a18, a19, a26, a27, a28, a29)))
  ((D_engine_online_2 a0 a1 a2 a3 a4 a5 a6 a7 a8 a9 a10 a11 a12 a13 a14 a15 a16 a17 a18 a19 a20 a21 a22 a23 a24 a25 a26 a27 a28 a29).bind fun r30 =>
  cond (!r30.2.2)
   (some ((0, 0, false, 0, a3, a4, a5, a6, a7, a8, a9, a10, a11, a12, a13, a14, a15, a16, a17, a18, a19, a26, a27, a28, a29)))
   ((D_drive_Driver_Do_2 r30.1 r30.2.1 a3 a4 a5 a6 a7 a8 a9 a10 a11 a12 a13 a14 a15 a16 a17 a18 a19 a20 a21 a22 a23 a24 a25 a26 a27 a28 a29).bind fun ⟨r31_0, r31_1, r31_2, r31_3, r31_4, r31_5, r31_6, r31_7, r31_8, r31_9, r31_10, r31_11, r31_12, r31_13, r31_14, r31_15, r31_16, r31_17, r31_18, r31_19, r31_20, r31_21⟩ =>
   cond (decide (r31_0 ≠ 0))
    (some ((0, 0, false, r31_0, r31_1, r31_2, r31_3, r31_4, r31_5, r31_6, r31_7, r31_8, r31_9, r31_10, r31_11, r31_12, r31_13, r31_14, r31_15, r31_16, r31_17, r31_18, r31_19, r31_20, r31_21)))
    (some ((r30.1, r30.2.1, true, 0, r31_1, r31_2, r31_3, r31_4, r31_5, r31_6, r31_7, r31_8, r31_9, r31_10, r31_11, r31_12, r31_13, r31_14, r31_15, r31_16, r31_17, r31_18, r31_19, r31_20, r31_21)))))
def D_engine_Engine_Run_8_L0 (a0 : Int) (a1 a2 : Bool) (a20 a21 : List Int) (a22 a23 : LO) (a24 : List Int) (a25 : Int) : (Int × Int × Int × Int × Int × Int × Int × Int × Int × Int × Int × Int × Int × Int × Int × Int × Int × Int × Int × Int × Int × List Int) → Op ((Int × Int × Int × Int × Int × Int × Int × Int × Int × Int × Int × Int × Int × Int × Int × Int × Int × Int × Int × Int × Int × List Int) ⊕ (Int × Int × Int × Int × Int × Int × Int × Int × Int × Int × Int × Int × Int × Int × Int × Int × Int × Int × Int × Int × Int × Int × List Int)) := fun ⟨s52_0, s52_1, s52_2, s52_3, s52_4, s52_5, s52_6, s52_7, s52_8, s52_9, s52_10, s52_11, s52_12, s52_13, s52_14, s52_15, s52_16, s52_17, s52_18, s52_19, s52_20, s52_21⟩ =>
 (D_engine_Engine_Step_8 a0 a1 a2 s52_1 s52_2 s52_3 s52_4 s52_5 s52_6 s52_7 s52_8 s52_9 s52_10 s52_11 s52_12 s52_13 s52_14 s52_15 s52_16 s52_17 a20 a21 a22 a23 a24 a25 s52_18 s52_19 s52_20 s52_21).bind fun ⟨r53_0, r53_1, r53_2, r53_3, r53_4, r53_5, r53_6, r53_7, r53_8, r53_9, r53_10, r53_11, r53_12, r53_13, r53_14, r53_15, r53_16, r53_17, r53_18, r53_19, r53_20, r53_21, r53_22, r53_23, r53_24⟩ =>
 cond (decide (r53_3 ≠ 0))
  (some (.inr (((0, r53_3, r53_4, r53_5, r53_6, r53_7, r53_8, r53_9, r53_10, r53_11, r53_12, r53_13, r53_14, r53_15, r53_16, r53_17, r53_18, r53_19, r53_20, r53_21, r53_22, r53_23, r53_24)))))
  (cond (r53_2)
   (some (.inl ((wI (s52_0 + 1), r53_4, r53_5, r53_6, r53_7, r53_8, r53_9, r53_10, r53_11, r53_12, r53_13, r53_14, r53_15, r53_16, r53_17, r53_18, r53_19, r53_20, r53_21, r53_22, r53_23, r53_24))))
   (some (.inr (((s52_0, 0, r53_4, r53_5, r53_6, r53_7, r53_8, r53_9, r53_10, r53_11, r53_12, r53_13, r53_14, r53_15, r53_16, r53_17, r53_18, r53_19, r53_20, r53_21, r53_22, r53_23, r53_24))))))
/- (*backstitch/engine.Engine).Run -/
def D_engine_Engine_Run_8 (a0 : Int) (a1 a2 : Bool) (a3 a4 a5 a6 a7 a8 a9 a10 a11 a12 a13 a14 a15 a16 a17 a18 a19 : Int) (a20 a21 : List Int) (a22 a23 : LO) (a24 : List Int) (a25 a26 a27 a28 : Int) (a29 : List Int) : Op (Int × Int × Int × Int × Int × Int × Int × Int × Int × Int × Int × Int × Int × Int × Int × Int × Int × Int × Int × Int × Int × Int × List Int) :=
 (loopN (D_engine_Engine_Run_8_L0 a0 a1 a2 a20 a21 a22 a23 a24 a25) BIG ((0, a3, a4, a5, a6, a7, a8, a9, a10, a11, a12, a13, a14, a15, a16, a17, a18, a19, a26, a27, a28, a29))).bind fun ⟨r54_0, r54_1, r54_2, r54_3, r54_4, r54_5, r54_6, r54_7, r54_8, r54_9, r54_10, r54_11, r54_12, r54_13, r54_14, r54_15, r54_16, r54_17, r54_18, r54_19, r54_20, r54_21, r54_22⟩ =>
 some ((r54_0, r54_1, r54_2, r54_3, r54_4, r54_5, r54_6, r54_7, r54_8, r54_9, r54_10, r54_11, r54_12, r54_13, r54_14, r54_15, r54_16, r54_17, r54_18, r54_19, r54_20, r54_21, r54_22))
/- (*backstitch/engine.Engine).Result -/
def D_engine_Engine_Result_8 (a0 : Int) (a1 a2 : Bool) (a3 a4 a5 a6 a7 a8 a9 a10 a11 a12 a13 a14 a15 a16 a17 a18 a19 : Int) (a20 a21 : List Int) (a22 a23 : LO) (a24 : List Int) (a25 a26 a27 a28 : Int) (a29 : List Int) : Op (Int × Int × (List Int) × List Int) :=
 (D_engine_Engine_own_8 a0 a1 a2 a3 a4 a5 a6 a7 a8 a9 a10 a11 a12 a13 a14 a15 a16 a17 a18 a19 a20 a21 a22 a23 a24 a25 a26 a27 a28 a29).bind fun r30 =>
 (D_drive_Driver_Result_2 a3 a4 a5 a6 a7 a8 a9 a10 a11 a12 a13 a14 a15 a16 a17 a18 a19 a20 a21 a22 a23 a24 a25 a26 a27 a28 a29).bind fun r31 =>
 some ((r31.1, r31.2.1, r31.2.2.1, r31.2.2.2))
/- (*backstitch/engine.Engine).still -/
def D_engine_Engine_still_6 (a0 : Int) (a1 a2 : Bool) (a3 a4 a5 a6 a7 a8 a9 a10 a11 a12 a13 a14 a15 a16 a17 a18 a19 : Int) (a20 a21 : List Int) (a22 a23 : LO) (a24 : List Int) (a25 a26 a27 a28 : Int) (a29 : List Int) : Op (Bool) :=
 cond (a2)
  (some false)
  ((D_engine_online_2 a0 a1 a2 a3 a4 a5 a6 a7 a8 a9 a10 a11 a12 a13 a14 a15 a16 a17 a18 a19 a20 a21 a22 a23 a24 a25 a26 a27 a28 a29).bind fun r30 =>
  some !r30.2.2)
/- (*backstitch/engine.Engine).Done -/
def D_engine_Engine_Done_6 (a0 : Int) (a1 a2 : Bool) (a3 a4 a5 a6 a7 a8 a9 a10 a11 a12 a13 a14 a15 a16 a17 a18 a19 : Int) (a20 a21 : List Int) (a22 a23 : LO) (a24 : List Int) (a25 a26 a27 a28 : Int) (a29 : List Int) : Op (Bool) :=
 (D_engine_Engine_still_6 a0 a1 a2 a3 a4 a5 a6 a7 a8 a9 a10 a11 a12 a13 a14 a15 a16 a17 a18 a19 a20 a21 a22 a23 a24 a25 a26 a27 a28 a29).bind fun r30 =>
 cond (r30)
  ((D_engine_Engine_Spot_6 a0 a1 a2 a3 a4 a5 a6 a7 a8 a9 a10 a11 a12 a13 a14 a15 a16 a17 a18 a19 a20 a21 a22 a23 a24 a25 a26 a27 a28 a29).bind fun r31 =>
  some (decide (r31.2 = 0)))
  (some false)
/- (*backstitch/engine.Engine).own -/
def D_engine_Engine_own_9 (a0 : Int) (a1 a2 : Bool) (a3 a4 a5 a6 a7 a8 a9 a10 a11 a12 a13 a14 a15 a16 a17 a18 a19 : Int) (a20 a21 : List Int) (a22 a23 : LO) (a24 : List Int) (a25 a26 a27 a28 : Int) (a29 : List Int) : Op (Unit) :=
 some ()
/- (*backstitch/engine.Engine).Spot -/
def D_engine_Engine_Spot_7 (a0 : Int) (a1 a2 : Bool) (a3 a4 a5 a6 a7 a8 a9 a10 a11 a12 a13 a14 a15 a16 a17 a18 a19 : Int) (a20 a21 : List Int) (a22 a23 : LO) (a24 : List Int) (a25 a26 a27 a28 : Int) (a29 : List Int) : Op (Int × Int) :=
 (D_engine_Engine_own_9 a0 a1 a2 a3 a4 a5 a6 a7 a8 a9 a10 a11 a12 a13 a14 a15 a16 a17 a18 a19 a20 a21 a22 a23 a24 a25 a26 a27 a28 a29).bind fun r30 =>
 (D_drive_Driver_Spot_2 a3 a4 a5 a6 a7 a8 a9 a10 a11 a12 a13 a14 a15 a16 a17 a18 a19 a20 a21 a22 a23 a24 a25 a26 a27 a28 a29).bind fun r31 =>
 some ((r31.1, r31.2))
/- (*backstitch/engine.Engine).Len -/
def D_engine_Engine_Len_6 (a0 : Int) (a1 a2 : Bool) (a3 a4 a5 a6 a7 a8 a9 a10 a11 a12 a13 a14 a15 a16 a17 a18 a19 : Int) (a20 a21 : List Int) (a22 a23 : LO) (a24 : List Int) (a25 a26 a27 a28 : Int) (a29 : List Int) : Op (Int) :=
 (D_engine_Engine_own_9 a0 a1 a2 a3 a4 a5 a6 a7 a8 a9 a10 a11 a12 a13 a14 a15 a16 a17 a18 a19 a20 a21 a22 a23 a24 a25 a26 a27 a28 a29).bind fun r30 =>
 (D_drive_Driver_Len_2 a3 a4 a5 a6 a7 a8 a9 a10 a11 a12 a13 a14 a15 a16 a17 a18 a19 a20 a21 a22 a23 a24 a25 a26 a27 a28 a29).bind fun r31 =>
 some r31
/- backstitch/engine.baseline -/
def D_engine_baseline_2 (a0 : Int) (a1 a2 : Bool) (a3 a4 a5 a6 a7 a8 a9 a10 a11 a12 a13 a14 a15 a16 a17 a18 a19 : Int) (a20 a21 : List Int) (a22 a23 : LO) (a24 : List Int) (a25 a26 a27 a28 : Int) (a29 : List Int) : Op (Int × Bool) :=
 (D_engine_Engine_Spot_7 a0 a1 a2 a3 a4 a5 a6 a7 a8 a9 a10 a11 a12 a13 a14 a15 a16 a17 a18 a19 a20 a21 a22 a23 a24 a25 a26 a27 a28 a29).bind fun r30 =>
 (((cond (decide (r30.2 < 0))
  ((D_engine_Engine_Len_6 a0 a1 a2 a3 a4 a5 a6 a7 a8 a9 a10 a11 a12 a13 a14 a15 a16 a17 a18 a19 a20 a21 a22 a23 a24 a25 a26 a27 a28 a29).bind fun r31 =>
  some (decide (r30.1 < r31)))
  (some false)) : Op (Bool))).bind fun s32 =>
 cond (s32)
  (some ((8, true)))
  (cond (decide (r30.2 < 0))
   (some ((5, true)))
   (cond (decide (0 < r30.2))
    (some ((9, true)))
    (some ((0, false)))))
/- (*backstitch/engine.Engine).Step -/
def D_engine_Engine_Step_9 (a0 : Int) (a1 a2 : Bool) (a3 a4 a5 a6 a7 a8 a9 a10 a11 a12 a13 a14 a15 a16 a17 a18 a19 : Int) (a20 a21 : List Int) (a22 a23 : LO) (a24 : List Int) (a25 a26 a27 a28 : Int) (a29 : List Int) : Op (Int × Bool × Int × Int × Int × Int × Int × Int × Int × Int × Int × Int × Int × Int × Int × Int × Int × Int × Int × Int × Int × Int × Int × List Int) :=
 cond (a2)
  (some ((0, false, 14, a3, a4, a5, a6, a7, a8, a9, a10, a11, a12, a13, a14, a15, a16, a17, a18, a19, a26, a27, a28, a29)))
  ((D_engine_baseline_2 a0 a1 a2 a3 a4 a5 a6 a7 a8 a9 a10 a11 a12 a13 a14 a15 a16 a17 a18 a19 a20 a21 a22 a23 a24 a25 a26 a27 a28 a29).bind fun r30 =>
  cond (!r30.2)
   (some ((0, false, 0, a3, a4, a5, a6, a7, a8, a9, a10, a11, a12, a13, a14, a15, a16, a17, a18, a19, a26, a27, a28, a29)))
   ((D_drive_Driver_Do_2 r30.1 0 a3 a4 a5 a6 a7 a8 a9 a10 a11 a12 a13 a14 a15 a16 a17 a18 a19 a20 a21 a22 a23 a24 a25 a26 a27 a28 a29).bind fun ⟨r31_0, r31_1, r31_2, r31_3, r31_4, r31_5, r31_6, r31_7, r31_8, r31_9, r31_10, r31_11, r31_12, r31_13, r31_14, r31_15, r31_16, r31_17, r31_18, r31_19, r31_20, r31_21⟩ =>
   cond (decide (r31_0 ≠ 0))
    (some ((0, false, r31_0, r31_1, r31_2, r31_3, r31_4, r31_5, r31_6, r31_7, r31_8, r31_9, r31_10, r31_11, r31_12, r31_13, r31_14, r31_15, r31_16, r31_17, r31_18, r31_19, r31_20, r31_21)))
    (some ((r30.1, true, 0, r31_1, r31_2, r31_3, r31_4, r31_5, r31_6, r31_7, r31_8, r31_9, r31_10, r31_11, r31_12, r31_13, r31_14, r31_15, r31_16, r31_17, r31_18, r31_19, r31_20, r31_21)))))
def D_engine_Engine_Run_9_L0 (a0 : Int) (a1 a2 : Bool) (a20 a21 : List Int) (a22 a23 : LO) (a24 : List Int) (a25 : Int) : (Int × Int × Int × Int × Int × Int × Int × Int × Int × Int × Int × Int × Int × Int × Int × Int × Int × Int × Int × Int × Int × List Int) → Op ((Int × Int × Int × Int × Int × Int × Int × Int × Int × Int × Int × Int × Int × Int × Int × Int × Int × Int × Int × Int × Int × List Int) ⊕ (Int × Int × Int × Int × Int × Int × Int × Int × Int × Int × Int × Int × Int × Int × Int × Int × Int × Int × Int × Int × Int × Int × List Int)) := fun ⟨s52_0, s52_1, s52_2, s52_3, s52_4, s52_5, s52_6, s52_7, s52_8, s52_9, s52_10, s52_11, s52_12, s52_13, s52_14, s52_15, s52_16, s52_17, s52_18, s52_19, s52_20, s52_21⟩ =>
 (D_engine_Engine_Step_9 a0 a1 a2 s52_1 s52_2 s52_3 s52_4 s52_5 s52_6 s52_7 s52_8 s52_9 s52_10 s52_11 s52_12 s52_13 s52_14 s52_15 s52_16 s52_17 a20 a21 a22 a23 a24 a25 s52_18 s52_19 s52_20 s52_21).bind fun ⟨r53_0, r53_1, r53_2, r53_3, r53_4, r53_5, r53_6, r53_7, r53_8, r53_9, r53_10, r53_11, r53_12, r53_13, r53_14, r53_15, r53_16, r53_17, r53_18, r53_19, r53_20, r53_21, r53_22, r53_23⟩ =>
 cond (decide (r53_2 ≠ 0))
  (some (.inr (((0, r53_2, r53_3, r53_4, r53_5, r53_6, r53_7, r53_8, r53_9, r53_10, r53_11, r53_12, r53_13, r53_14, r53_15, r53_16, r53_17, r53_18, r53_19, r53_20, r53_21, r53_22, r53_23)))))
  (cond (r53_1)
   (some (.inl ((wI (s52_0 + 1), r53_3, r53_4, r53_5, r53_6, r53_7, r53_8, r53_9, r53_10, r53_11, r53_12, r53_13, r53_14, r53_15, r53_16, r53_17, r53_18, r53_19, r53_20, r53_21, r53_22, r53_23))))
   (some (.inr (((s52_0, 0, r53_3, r53_4, r53_5, r53_6, r53_7, r53_8, r53_9, r53_10, r53_11, r53_12, r53_13, r53_14, r53_15, r53_16, r53_17, r53_18, r53_19, r53_20, r53_21, r53_22, r53_23))))))
/- (*backstitch/engine.Engine).Run -/
def D_engine_Engine_Run_9 (a0 : Int) (a1 a2 : Bool) (a3 a4 a5 a6 a7 a8 a9 a10 a11 a12 a13 a14 a15 a16 a17 a18 a19 : Int) (a20 a21 : List Int) (a22 a23 : LO) (a24 : List Int) (a25 a26 a27 a28 : Int) (a29 : List Int) : Op (Int × Int × Int × Int × Int × Int × Int × Int × Int × Int × Int × Int × Int × Int × Int × Int × Int × Int × Int × Int × Int × Int × List Int) :=
 (loopN (D_engine_Engine_Run_9_L0 a0 a1 a2 a20 a21 a22 a23 a24 a25) BIG ((0, a3, a4, a5, a6, a7, a8, a9, a10, a11, a12, a13, a14, a15, a16, a17, a18, a19, a26, a27, a28, a29))).bind fun ⟨r54_0, r54_1, r54_2, r54_3, r54_4, r54_5, r54_6, r54_7, r54_8, r54_9, r54_10, r54_11, r54_12, r54_13, r54_14, r54_15, r54_16, r54_17, r54_18, r54_19, r54_20, r54_21, r54_22⟩ =>
 some ((r54_0, r54_1, r54_2, r54_3, r54_4, r54_5, r54_6, r54_7, r54_8, r54_9, r54_10, r54_11, r54_12, r54_13, r54_14, r54_15, r54_16, r54_17, r54_18, r54_19, r54_20, r54_21, r54_22))
/- (*backstitch/engine.Engine).Result -/
def D_engine_Engine_Result_9 (a0 : Int) (a1 a2 : Bool) (a3 a4 a5 a6 a7 a8 a9 a10 a11 a12 a13 a14 a15 a16 a17 a18 a19 : Int) (a20 a21 : List Int) (a22 a23 : LO) (a24 : List Int) (a25 a26 a27 a28 : Int) (a29 : List Int) : Op (Int × Int × (List Int) × List Int) :=
 (D_engine_Engine_own_9 a0 a1 a2 a3 a4 a5 a6 a7 a8 a9 a10 a11 a12 a13 a14 a15 a16 a17 a18 a19 a20 a21 a22 a23 a24 a25 a26 a27 a28 a29).bind fun r30 =>
 (D_drive_Driver_Result_2 a3 a4 a5 a6 a7 a8 a9 a10 a11 a12 a13 a14 a15 a16 a17 a18 a19 a20 a21 a22 a23 a24 a25 a26 a27 a28 a29).bind fun r31 =>
 some ((r31.1, r31.2.1, r31.2.2.1, r31.2.2.2))
/- (*backstitch/engine.Engine).still -/
def D_engine_Engine_still_7 (a0 : Int) (a1 a2 : Bool) (a3 a4 a5 a6 a7 a8 a9 a10 a11 a12 a13 a14 a15 a16 a17 a18 a19 : Int) (a20 a21 : List Int) (a22 a23 : LO) (a24 : List Int) (a25 a26 a27 a28 : Int) (a29 : List Int) : Op (Bool) :=
 cond (a2)
  (some false)
  ((D_engine_baseline_2 a0 a1 a2 a3 a4 a5 a6 a7 a8 a9 a10 a11 a12 a13 a14 a15 a16 a17 a18 a19 a20 a21 a22 a23 a24 a25 a26 a27 a28 a29).bind fun r30 =>
  some !r30.2)
/- (*backstitch/engine.Engine).Done -/
def D_engine_Engine_Done_7 (a0 : Int) (a1 a2 : Bool) (a3 a4 a5 a6 a7 a8 a9 a10 a11 a12 a13 a14 a15 a16 a17 a18 a19 : Int) (a20 a21 : List Int) (a22 a23 : LO) (a24 : List Int) (a25 a26 a27 a28 : Int) (a29 : List Int) : Op (Bool) :=
 (D_engine_Engine_still_7 a0 a1 a2 a3 a4 a5 a6 a7 a8 a9 a10 a11 a12 a13 a14 a15 a16 a17 a18 a19 a20 a21 a22 a23 a24 a25 a26 a27 a28 a29).bind fun r30 =>
 cond (r30)
  ((D_engine_Engine_Spot_7 a0 a1 a2 a3 a4 a5 a6 a7 a8 a9 a10 a11 a12 a13 a14 a15 a16 a17 a18 a19 a20 a21 a22 a23 a24 a25 a26 a27 a28 a29).bind fun r31 =>
  some (decide (r31.2 = 0)))
  (some false)
/- (*backstitch/engine.Engine).Step -/
def D_engine_Engine_Step_10 (a0 : Int) (a1 a2 : Bool) (a3 a4 a5 a6 a7 a8 a9 a10 a11 a12 a13 a14 a15 a16 a17 a18 a19 : Int) (a20 a21 : List Int) (a22 a23 : LO) (a24 : List Int) (a25 a26 a27 a28 a29 a30 a31 : Int) (a32 : List Int) : Op (Bool) :=
 cond (a2)
  (some false)
  none
def D_engine_Engine_Run_10_L0 (a0 : Int) (a1 a2 : Bool) (a3 a4 a5 a6 a7 a8 a9 a10 a11 a12 a13 a14 a15 a16 a17 a18 a19 : Int) (a20 a21 : List Int) (a22 a23 : LO) (a24 : List Int) (a25 a26 a27 a28 a29 a30 a31 : Int) (a32 : List Int) (s33 : Unit) : Op ((Unit) ⊕ (Unit)) :=
 (D_engine_Engine_Step_10 a0 a1 a2 a3 a4 a5 a6 a7 a8 a9 a10 a11 a12 a13 a14 a15 a16 a17 a18 a19 a20 a21 a22 a23 a24 a25 a26 a27 a28 a29 a30 a31 a32).bind fun r34 =>
 some (.inr ())
/- (*backstitch/engine.Engine).Run -/
def D_engine_Engine_Run_10 (a0 : Int) (a1 a2 : Bool) (a3 a4 a5 a6 a7 a8 a9 a10 a11 a12 a13 a14 a15 a16 a17 a18 a19 : Int) (a20 a21 : List Int) (a22 a23 : LO) (a24 : List Int) (a25 a26 a27 a28 a29 a30 a31 : Int) (a32 : List Int) : Op (Unit) :=
 (loopN (D_engine_Engine_Run_10_L0 a0 a1 a2 a3 a4 a5 a6 a7 a8 a9 a10 a11 a12 a13 a14 a15 a16 a17 a18 a19 a20 a21 a22 a23 a24 a25 a26 a27 a28 a29 a30 a31 a32) BIG ()).bind fun r35 =>
 some ()
/- (*backstitch/engine.Engine).own -/
def D_engine_Engine_own_10 (a0 : Int) (a1 a2 : Bool) (a3 a4 a5 a6 a7 a8 a9 a10 a11 a12 a13 a14 a15 a16 a17 a18 a19 : Int) (a20 a21 : List Int) (a22 a23 : LO) (a24 : List Int) (a25 a26 a27 a28 a29 a30 a31 : Int) (a32 : List Int) : Op (Unit) :=
 some ()
/- (*backstitch/drive.Driver).get -/
def D_drive_Driver_get_2 (a0 a1 a2 a3 a4 a5 a6 a7 a8 a9 a10 a11 a12 a13 a14 a15 a16 a17 : Int) (a18 a19 : List Int) (a20 a21 : LO) (a22 : List Int) (a23 a24 a25 a26 a27 a28 a29 : Int) (a30 : List Int) : Op (List Int) :=
 (ix a0 ((ln a22))).bind fun j31 =>
 (a22[j31]?).bind fun x32 =>
 (ix (wI (a0 + 1)) ((ln a22))).bind fun j33 =>
 (a22[j33]?).bind fun x34 =>
 (ix a0 ((ln a22))).bind fun j35 =>
 (a22[j35]?).bind fun x36 =>
 (D_arena_Arena_Read x32 (wI (x34 - x36)) a23 a30).bind fun r37 =>
 some r37.2
/- (*backstitch/drive.Driver).Result -/
def D_drive_Driver_Result_3 (a0 a1 a2 a3 a4 a5 a6 a7 a8 a9 a10 a11 a12 a13 a14 a15 a16 : Int) (a17 a18 : List Int) (a19 a20 : LO) (a21 : List Int) (a22 a23 a24 a25 a26 a27 a28 : Int) (a29 : List Int) : Op (Int × Int × (List Int) × List Int) :=
 cond (decide (a11 ≠ 0))
  (some ((0, 19, [], [])))
  ((D_drive_Driver_get_2 5 a0 a1 a2 a3 a4 a5 a6 a7 a8 a9 a10 a11 a12 a13 a14 a15 a16 a17 a18 a19 a20 a21 a22 a23 a24 a25 a26 a27 a28 a29).bind fun r30 =>
  (D_drive_Driver_get_2 6 a0 a1 a2 a3 a4 a5 a6 a7 a8 a9 a10 a11 a12 a13 a14 a15 a16 a17 a18 a19 a20 a21 a22 a23 a24 a25 a26 a27 a28 a29).bind fun r31 =>
  some ((a16, 0, r30, r31)))
/- (*backstitch/engine.Engine).Result -/
def D_engine_Engine_Result_10 (a0 : Int) (a1 a2 : Bool) (a3 a4 a5 a6 a7 a8 a9 a10 a11 a12 a13 a14 a15 a16 a17 a18 a19 : Int) (a20 a21 : List Int) (a22 a23 : LO) (a24 : List Int) (a25 a26 a27 a28 a29 a30 a31 : Int) (a32 : List Int) : Op (Int × Int × (List Int) × List Int) :=
 (D_engine_Engine_own_10 a0 a1 a2 a3 a4 a5 a6 a7 a8 a9 a10 a11 a12 a13 a14 a15 a16 a17 a18 a19 a20 a21 a22 a23 a24 a25 a26 a27 a28 a29 a30 a31 a32).bind fun r33 =>
 (D_drive_Driver_Result_3 a3 a4 a5 a6 a7 a8 a9 a10 a11 a12 a13 a14 a15 a16 a17 a18 a19 a20 a21 a22 a23 a24 a25 a26 a27 a28 a29 a30 a31 a32).bind fun r34 =>
 some ((r34.1, r34.2.1, r34.2.2.1, r34.2.2.2))
/- (*backstitch/engine.Engine).own -/
def D_engine_Engine_own_11 (a0 : Int) (a1 a2 : Bool) (a3 a4 a5 a6 a7 a8 a9 a10 a11 a12 a13 a14 a15 a16 a17 a18 a19 : Int) (a20 a21 : List Int) (a22 a23 : LO) (a24 : List Int) (a25 a26 a27 a28 a29 a30 a31 : Int) (a32 : List Int) : Op (Unit) :=
 some ()
/- (*backstitch/drive.Driver).Len -/
def D_drive_Driver_Len_3 (a0 a1 a2 a3 a4 a5 a6 a7 a8 a9 a10 a11 a12 a13 a14 a15 a16 : Int) (a17 a18 : List Int) (a19 a20 : LO) (a21 : List Int) (a22 a23 a24 a25 a26 a27 a28 : Int) (a29 : List Int) : Op (Int) :=
 some a9
/- (*backstitch/engine.Engine).Len -/
def D_engine_Engine_Len_7 (a0 : Int) (a1 a2 : Bool) (a3 a4 a5 a6 a7 a8 a9 a10 a11 a12 a13 a14 a15 a16 a17 a18 a19 : Int) (a20 a21 : List Int) (a22 a23 : LO) (a24 : List Int) (a25 a26 a27 a28 a29 a30 a31 : Int) (a32 : List Int) : Op (Int) :=
 (D_engine_Engine_own_11 a0 a1 a2 a3 a4 a5 a6 a7 a8 a9 a10 a11 a12 a13 a14 a15 a16 a17 a18 a19 a20 a21 a22 a23 a24 a25 a26 a27 a28 a29 a30 a31 a32).bind fun r33 =>
 (D_drive_Driver_Len_3 a3 a4 a5 a6 a7 a8 a9 a10 a11 a12 a13 a14 a15 a16 a17 a18 a19 a20 a21 a22 a23 a24 a25 a26 a27 a28 a29 a30 a31 a32).bind fun r34 =>
 some r34
/- (backstitch/slots.place).word -/
def D_slots_place_word (a0 a1 a2 a3 : Int) : Op (Int) :=
 (D_slots_place_size a0 a1 a2).bind fun r4 =>
 some (wI (a0 + (wI (a3 * r4))))
/- (*backstitch/arena.Arena).Get -/
def D_arena_Arena_Get (a0 a1 : Int) (a2 : List Int) : Op (Int × Int) :=
 cond (decide (a0 < 0))
  (some ((0, 2)))
  (cond (decide (a1 < a0))
   (some ((0, 2)))
   (cond (decide ((wI (a1 - a0)) < 1))
    (some ((0, 2)))
    (gd (cutG a0 (wI (a0 + 1)) ((ln a2))) ((D_slices_Clone_uint64_uint64 ((List.take (((tN (wI (a0 + 1))) - (tN a0))) (List.drop ((tN a0)) a2)))).bind fun r3 =>
    (ix 0 ((ln r3))).bind fun j4 =>
    (r3[j4]?).bind fun x5 =>
    some ((x5, 0))))))
def D_slots_Slots_Tags_2_L0 (a0 a1 a2 a3 : Int) (a4 : List Int) (s7 : Int × List Int) : Op ((Int × List Int) ⊕ (List Int)) :=
 cond (decide (s7.1 < a1))
  ((D_slots_place_word a0 a1 a2 s7.1).bind fun r8 =>
  (D_arena_Arena_Get r8 a3 a4).bind fun r9 =>
  gd (fits (ln s7.2 + 1) 8) (some (.inl ((wI (s7.1 + 1), (s7.2 ++ [wI ((wI (r9.1)) - 1)]))))))
  (some (.inr s7.2))
/- (*backstitch/slots.Slots).Tags -/
def D_slots_Slots_Tags_2 (a0 a1 a2 a3 : Int) (a4 : List Int) : Op (List Int) :=
 (loopN (D_slots_Slots_Tags_2_L0 a0 a1 a2 a3 a4) BIG ((0, []))).bind fun r10 =>
 some r10
/- (*backstitch/drive.Driver).Spot -/
def D_drive_Driver_Spot_3 (a0 a1 a2 a3 a4 a5 a6 a7 a8 a9 a10 a11 a12 a13 a14 a15 a16 : Int) (a17 a18 : List Int) (a19 a20 : LO) (a21 : List Int) (a22 a23 a24 a25 a26 a27 a28 : Int) (a29 : List Int) : Op (Int × Int × List Int) :=
 (D_slots_Slots_Tags_2 a23 a24 a25 a22 a29).bind fun r30 =>
 some ((a10, a11, r30))
/- (*backstitch/engine.Engine).Spot -/
def D_engine_Engine_Spot_8 (a0 : Int) (a1 a2 : Bool) (a3 a4 a5 a6 a7 a8 a9 a10 a11 a12 a13 a14 a15 a16 a17 a18 a19 : Int) (a20 a21 : List Int) (a22 a23 : LO) (a24 : List Int) (a25 a26 a27 a28 a29 a30 a31 : Int) (a32 : List Int) : Op (Int × Int × List Int) :=
 (D_engine_Engine_own_11 a0 a1 a2 a3 a4 a5 a6 a7 a8 a9 a10 a11 a12 a13 a14 a15 a16 a17 a18 a19 a20 a21 a22 a23 a24 a25 a26 a27 a28 a29 a30 a31 a32).bind fun r33 =>
 (D_drive_Driver_Spot_3 a3 a4 a5 a6 a7 a8 a9 a10 a11 a12 a13 a14 a15 a16 a17 a18 a19 a20 a21 a22 a23 a24 a25 a26 a27 a28 a29 a30 a31 a32).bind fun r34 =>
 some ((r34.1, r34.2.1, r34.2.2))
/- backstitch/engine.offline -/
def D_engine_offline_3 (a0 : Int) (a1 a2 : Bool) (a3 a4 a5 a6 a7 a8 a9 a10 a11 a12 a13 a14 a15 a16 a17 a18 a19 : Int) (a20 a21 : List Int) (a22 a23 : LO) (a24 : List Int) (a25 a26 a27 a28 a29 a30 a31 : Int) (a32 : List Int) : Op (Int × Int × Bool) :=
 (D_engine_Engine_Len_7 a0 a1 a2 a3 a4 a5 a6 a7 a8 a9 a10 a11 a12 a13 a14 a15 a16 a17 a18 a19 a20 a21 a22 a23 a24 a25 a26 a27 a28 a29 a30 a31 a32).bind fun r33 =>
 (D_engine_Engine_Spot_8 a0 a1 a2 a3 a4 a5 a6 a7 a8 a9 a10 a11 a12 a13 a14 a15 a16 a17 a18 a19 a20 a21 a22 a23 a24 a25 a26 a27 a28 a29 a30 a31 a32).bind fun r34 =>
 (D_revolve_May r33 r34.1 r34.2.1 r34.2.2).bind fun r35 =>
 cond (!r35)
  ((D_revolve_nothing).bind fun r36 =>
  some ((0, 0, r36)))
  ((D_revolve_look r33 r34.1 r34.2.1 r34.2.2).bind fun r37 =>
  (D_revolve_act 4 r37.2.2.2.2.2.1).bind fun r38 =>
  (D_revolve_act 5 0).bind fun r39 =>
  (D_revolve_act 3 r37.2.2.2.2.2.1).bind fun r40 =>
  (D_revolve_act 2 r37.2.2.2.2.2.2.2).bind fun r41 =>
  (D_revolve_act 1 (wI ((wI (r37.2.2.2.1 - 1)) - r37.1))).bind fun r42 =>
  (D_revolve_view_rules_1 r37.1 r37.2.1 r37.2.2.1 r37.2.2.2.1 r37.2.2.2.2.1 r37.2.2.2.2.2.1 r37.2.2.2.2.2.2.1 r37.2.2.2.2.2.2.2).bind fun r43 =>
  cond (r43)
   ((D_revolve_act_1 r38.1 r38.2).bind fun r44 =>
   some ((r44.1, r44.2.1, r44.2.2)))
   ((D_revolve_view_rules_2 r37.1 r37.2.1 r37.2.2.1 r37.2.2.2.1 r37.2.2.2.2.1 r37.2.2.2.2.2.1 r37.2.2.2.2.2.2.1 r37.2.2.2.2.2.2.2).bind fun r45 =>
   cond (r45)
    ((D_revolve_nothing).bind fun r46 =>
    some ((0, 0, r46)))
    ((D_revolve_view_rules_3 r37.1 r37.2.1 r37.2.2.1 r37.2.2.2.1 r37.2.2.2.2.1 r37.2.2.2.2.2.1 r37.2.2.2.2.2.2.1 r37.2.2.2.2.2.2.2 r33).bind fun r47 =>
    cond (r47)
     ((D_revolve_act_1 r39.1 r39.2).bind fun r48 =>
     some ((r48.1, r48.2.1, r48.2.2)))
     ((D_revolve_view_rules_4 r37.1 r37.2.1 r37.2.2.1 r37.2.2.2.1 r37.2.2.2.2.1 r37.2.2.2.2.2.1 r37.2.2.2.2.2.2.1 r37.2.2.2.2.2.2.2).bind fun r49 =>
     cond (r49)
      ((D_revolve_view_turn r37.1 r37.2.1 r37.2.2.1 r37.2.2.2.1 r37.2.2.2.2.1 r37.2.2.2.2.2.1 r37.2.2.2.2.2.2.1 r37.2.2.2.2.2.2.2).bind fun r50 =>
      some ((r50.1, 0, r50.2)))
      ((D_revolve_view_rules_5 r37.1 r37.2.1 r37.2.2.1 r37.2.2.2.1 r37.2.2.2.2.1 r37.2.2.2.2.2.1 r37.2.2.2.2.2.2.1 r37.2.2.2.2.2.2.2).bind fun r51 =>
      cond (r51)
       ((D_revolve_view_first r37.1 r37.2.1 r37.2.2.1 r37.2.2.2.1 r37.2.2.2.2.1 r37.2.2.2.2.2.1 r37.2.2.2.2.2.2.1 r37.2.2.2.2.2.2.2).bind fun r52 =>
       some ((r52.1, 0, r52.2)))
       ((D_revolve_view_rules_6 r37.1 r37.2.1 r37.2.2.1 r37.2.2.2.1 r37.2.2.2.2.1 r37.2.2.2.2.2.1 r37.2.2.2.2.2.2.1 r37.2.2.2.2.2.2.2).bind fun r53 =>
       cond (r53)
        ((D_revolve_act_1 r40.1 r40.2).bind fun r54 =>
        some ((r54.1, r54.2.1, r54.2.2)))
        ((D_revolve_view_rules_7 r37.1 r37.2.1 r37.2.2.1 r37.2.2.2.1 r37.2.2.2.2.1 r37.2.2.2.2.2.1 r37.2.2.2.2.2.2.1 r37.2.2.2.2.2.2.2).bind fun r55 =>
        cond (r55)
         ((D_revolve_act_1 r41.1 r41.2).bind fun r56 =>
         some ((r56.1, r56.2.1, r56.2.2)))
         ((D_revolve_view_rules_8 r37.1 r37.2.1 r37.2.2.1 r37.2.2.2.1 r37.2.2.2.2.1 r37.2.2.2.2.2.1 r37.2.2.2.2.2.2.1 r37.2.2.2.2.2.2.2).bind fun r57 =>
         cond (r57)
          ((D_revolve_act_1 r42.1 r42.2).bind fun r58 =>
          some ((r58.1, r58.2.1, r58.2.2)))
          ((D_revolve_always).bind fun r59 =>
          cond (r59)
           ((D_revolve_view_split r37.1 r37.2.1 r37.2.2.1 r37.2.2.2.1 r37.2.2.2.2.1 r37.2.2.2.2.2.1 r37.2.2.2.2.2.2.1 r37.2.2.2.2.2.2.2).bind fun r60 =>
           some ((1, r60.1, r60.2)))
           ((D_revolve_nothing).bind fun r61 =>
           some ((0, 0, r61))))))))))))
/- (*backstitch/drive.Driver).baseline -/
def D_drive_Driver_baseline_2 (a0 a1 a2 a3 a4 a5 a6 a7 a8 a9 a10 a11 a12 a13 a14 a15 a16 : Int) (a17 a18 : List Int) (a19 a20 : LO) (a21 : List Int) (a22 a23 a24 a25 a26 a27 a28 : Int) (a29 : List Int) : Op (Bool) :=
 some (decide (a4 = 3))
/- (*backstitch/drive.Driver).begin -/
def D_drive_Driver_begin_2 (a0 : Int) (a1 : LO) (a2 a3 : List Int) (a4 a5 a6 a7 a8 a9 a10 a11 a12 a13 a14 a15 a16 a17 a18 a19 a20 : Int) (a21 a22 : List Int) (a23 a24 : LO) (a25 : List Int) (a26 a27 a28 a29 a30 a31 a32 : Int) (a33 : List Int) : Op (List Int) :=
 (D_drive_Driver_get_2 0 a4 a5 a6 a7 a8 a9 a10 a11 a12 a13 a14 a15 a16 a17 a18 a19 a20 a21 a22 a23 a24 a25 a26 a27 a28 a29 a30 a31 a32 a33).bind fun r34 =>
 (D_slices_Concat_uint64_uint64 ([a2, r34, a3])).bind fun r35 =>
 gd (zeroFits 8 (wI (a0 - ((((ln r35) : Nat) : Int))))) (gd (fits (ln r35 + ln ((List.replicate (tN (wI (a0 - ((((ln r35) : Nat) : Int))))) (0 : Int)))) 8) (some ((r35 ++ (List.replicate (tN (wI (a0 - ((((ln r35) : Nat) : Int))))) (0 : Int))))))
/- (*backstitch/drive.Driver).taped -/
def D_drive_Driver_taped_2 (a0 a1 a2 a3 a4 a5 a6 a7 a8 a9 a10 a11 a12 a13 a14 a15 a16 : Int) (a17 a18 : List Int) (a19 a20 : LO) (a21 : List Int) (a22 a23 a24 a25 a26 a27 a28 : Int) (a29 : List Int) : Op (Int × Int × Int × Int × Int × Int × Int × Int × Int × Int × Int × Int × Int × Int × Int × Int × Int × (List Int) × (List Int) × List Int) :=
 (D_plan_Of a4 a17 a18 a5 a19 a6 a20 a7 a8).bind fun r30 =>
 gd (Nat.beq 1 (Sh.w (.int .u64)) && decide (0 ≤ r30.1) && decide (r30.1 ≤ r30.1) && decide ((8 : Int) * r30.1 ≤ 140737488355328) && Nat.ble 1 8) ((D_drive_Driver_get_2 1 a0 a1 a2 a3 a4 a5 a6 a7 a8 a9 a10 a11 a12 a13 a14 a15 a16 a17 a18 a19 a20 a21 a22 a23 a24 a25 a26 a27 a28 a29).bind fun r31 =>
 gd (Nat.beq 1 (Sh.w (.int .u64)) && decide (0 ≤ r30.1) && decide (r30.1 ≤ r30.1) && decide ((8 : Int) * r30.1 ≤ 140737488355328) && Nat.ble 1 8) ((D_drive_Driver_begin_2 a5 a19 r31 ([wU (a10)]) a0 a1 a2 a3 a4 a5 a6 a7 a8 a9 a10 a11 a12 a13 a14 a15 a16 a17 a18 a19 a20 a21 a22 a23 a24 a25 a26 a27 a28 a29).bind fun r32 =>
 gd (Nat.beq 1 (Sh.w (.int .u64)) && decide (0 ≤ r30.1) && decide (r30.1 ≤ r30.1) && decide ((8 : Int) * r30.1 ≤ 140737488355328) && Nat.ble 1 8) ((D_tape_Record a5 a19 r32 ((List.replicate (tN r30.1) (0 : Int)))).bind fun r33 =>
 (D_drive_Driver_put_2 2 r33.2.2.1 a0 a1 a2 a3 a4 a5 a6 a7 a8 a9 a10 a11 a12 a13 a14 a15 a16 a17 a18 a19 a20 a21 a22 a23 a24 a25 a26 a27 a28 a29).bind fun r34 =>
 some ((a0, a1, a2, a3, a4, a5, a6, a7, a8, a9, a10, a11, a12, wI (a13 + 1), a14, a15, a16, r34, r33.2.2.1, r33.2.2.2)))))
/- (*backstitch/drive.Driver).shelf -/
def D_drive_Driver_shelf_2 (a0 a1 a2 a3 a4 a5 a6 a7 a8 a9 a10 a11 a12 a13 a14 a15 a16 a17 : Int) (a18 a19 : List Int) (a20 a21 : LO) (a22 : List Int) (a23 a24 a25 a26 a27 a28 a29 : Int) (a30 : List Int) : Op (Int) :=
 (ix 8 ((ln a22))).bind fun j31 =>
 (a22[j31]?).bind fun x32 =>
 some (wI (x32 + (wI (a0 * a3))))
def D_drive_Driver_back_3_L0 (a22 : List Int) (r34 : Int × (List Int) × List Int) (r37 : List Int) (s40 : Int × List Int) : Op ((Int × List Int) ⊕ (List Int)) :=
 cond (decide (s40.1 < ((((ln r37) : Nat) : Int))))
  ((ix s40.1 ((ln s40.2))).bind fun j41 =>
  (s40.2[j41]?).bind fun x42 =>
  (ix (wI (((((ln a22) : Nat) : Int)) + s40.1)) ((ln r34.2.2))).bind fun j43 =>
  (r34.2.2[j43]?).bind fun x44 =>
  (ix s40.1 ((ln s40.2))).bind fun j45 =>
  (s40.2[j45]?).bind fun x46 =>
  some (.inl ((wI (s40.1 + 1), (List.set s40.2 j45 (wU (x42 + x44)))))))
  (some (.inr s40.2))
/- (*backstitch/drive.Driver).back -/
def D_drive_Driver_back_3 (a0 a1 a2 a3 a4 a5 a6 a7 a8 a9 a10 a11 a12 a13 a14 a15 a16 a17 : Int) (a18 : LO) (a19 a20 a21 a22 a23 : List Int) (a24 : LO) (a25 : List Int) (a26 a27 a28 a29 a30 a31 a32 : Int) (a33 : List Int) : Op (Int × Int × Int × Int × Int × Int × Int × Int × Int × Int × Int × Int × Int × Int × Int × Int × Int × (List Int) × (List Int) × List Int) :=
 (D_sweep_Back a0 a18 a19 a20 a21).bind fun r34 =>
 (D_drive_Driver_put_2 4 r34.2.2 a1 a2 a3 a4 a5 a6 a7 a8 a9 a10 a11 a12 a13 a14 a15 a16 a17 a22 a23 a24 a18 a25 a26 a27 a28 a29 a30 a31 a32 a33).bind fun r35 =>
 gd (cutG 0 ((((ln a22) : Nat) : Int)) ((ln r34.2.2))) ((D_drive_Driver_put_2 5 ((List.take (((tN ((((ln a22) : Nat) : Int))) - 0)) (List.drop 0 r34.2.2))) a1 a2 a3 a4 a5 a6 a7 a8 a9 a10 a11 a12 a13 a14 a15 a16 a17 a22 a23 a24 a18 a25 a26 a27 a28 a29 a30 a31 a32 r35).bind fun r36 =>
 (D_drive_Driver_get_2 6 a1 a2 a3 a4 a5 a6 a7 a8 a9 a10 a11 a12 a13 a14 a15 a16 a17 a22 a23 a24 a18 a25 a26 a27 a28 a29 a30 a31 a32 r36).bind fun r37 =>
 (loopN (D_drive_Driver_back_3_L0 a22 r34 r37) BIG ((0, r37))).bind fun r47 =>
 (D_drive_Driver_put_2 6 r47 a1 a2 a3 a4 a5 a6 a7 a8 a9 a10 a11 a12 a13 a14 a15 a16 a17 a22 a23 a24 a18 a25 a26 a27 a28 a29 a30 a31 a32 r36).bind fun r48 =>
 some ((a1, a2, a3, a4, a5, a6, a7, a8, a9, a10, a11, a12, a13, a14, a15, wI (a16 + 1), a17, r34.2.1, r34.2.2, r48)))
/- (*backstitch/drive.Driver).end -/
def D_drive_Driver_end_2 (a0 : List Int) (a1 a2 a3 a4 a5 a6 a7 a8 a9 a10 a11 a12 a13 a14 a15 a16 a17 : Int) (a18 a19 : List Int) (a20 a21 : LO) (a22 : List Int) (a23 a24 a25 a26 a27 a28 a29 : Int) (a30 : List Int) : Op (Int × Int × Int × Int × Int × Int × Int × Int × Int × Int × Int × Int × Int × Int × Int × Int × Int × List Int) :=
 (D_plan_Of a5 a18 a19 a6 a20 a7 a21 a8 a9).bind fun r31 =>
 gd (Nat.beq 1 (Sh.w (.int .u64)) && decide (0 ≤ r31.2) && decide (r31.2 ≤ r31.2) && decide ((8 : Int) * r31.2 ≤ 140737488355328) && Nat.ble 1 8) ((D_drive_Driver_begin_2 a7 a21 a0 [] a1 a2 a3 a4 a5 a6 a7 a8 a9 a10 a11 a12 a13 a14 a15 a16 a17 a18 a19 a20 a21 a22 a23 a24 a25 a26 a27 a28 a29 a30).bind fun r32 =>
 gd (Nat.beq 1 (Sh.w (.int .u64)) && decide (0 ≤ r31.2) && decide (r31.2 ≤ r31.2) && decide ((8 : Int) * r31.2 ≤ 140737488355328) && Nat.ble 1 8) ((D_tape_Record a7 a21 r32 ((List.replicate (tN r31.2) (0 : Int)))).bind fun r33 =>
 (ix 0 ((ln r33.2.2.1))).bind fun j34 =>
 (r33.2.2.1[j34]?).bind fun x35 =>
 (D_drive_Driver_put_2 3 r33.2.2.1 a1 a2 a3 a4 a5 a6 a7 a8 a9 a10 a11 a12 a13 a14 (wI (a15 + 1)) a16 x35 a18 a19 a20 a21 a22 a23 a24 a25 a26 a27 a28 a29 a30).bind fun r36 =>
 (D_drive_wide a7 a21 [1]).bind fun r37 =>
 (D_drive_Driver_back_3 a7 a1 a2 a3 a4 a5 a6 a7 a8 a9 a10 a11 a12 a13 a14 (wI (a15 + 1)) a16 x35 a21 r33.2.2.1 r37 r33.2.2.2 a18 a19 a20 a22 a23 a24 a25 a26 a27 a28 a29 r36).bind fun ⟨r38_0, r38_1, r38_2, r38_3, r38_4, r38_5, r38_6, r38_7, r38_8, r38_9, r38_10, r38_11, r38_12, r38_13, r38_14, r38_15, r38_16, r38_17, r38_18, r38_19⟩ =>
 some ((r38_0, r38_1, r38_2, r38_3, r38_4, r38_5, r38_6, r38_7, r38_8, r38_9, r38_10, r38_11, r38_12, r38_13, r38_14, r38_15, r38_16, r38_19))))
/- (*backstitch/drive.Driver).seed -/
def D_drive_Driver_seed_2 (a0 a1 a2 a3 a4 a5 a6 a7 a8 a9 a10 a11 a12 a13 a14 a15 a16 a17 : Int) (a18 a19 : List Int) (a20 a21 : LO) (a22 : List Int) (a23 a24 a25 a26 a27 a28 a29 : Int) (a30 : List Int) : Op (Int × Int × Int × Int × Int × Int × Int × Int × Int × Int × Int × Int × Int × Int × Int × Int × Int × Int × Int × Int × List Int) :=
 (D_plan_Of a5 a18 a19 a6 a20 a7 a21 a8 a9).bind fun r31 =>
 (D_meter_Meter_Hold r31.2 a27 a28 a29).bind fun r32 =>
 (D_drive_Driver_get_2 1 a1 a2 a3 a4 a5 a6 a7 a8 a9 a10 a11 a12 a13 a14 a15 a16 a17 a18 a19 a20 a21 a22 a23 a24 a25 a26 r32.2.1 r32.2.2.1 r32.2.2.2 a30).bind fun r33 =>
 (D_drive_Driver_end_2 r33 a1 a2 a3 a4 a5 a6 a7 a8 a9 a10 a11 a12 a13 a14 a15 a16 a17 a18 a19 a20 a21 a22 a23 a24 a25 a26 r32.2.1 r32.2.2.1 r32.2.2.2 a30).bind fun ⟨r34_0, r34_1, r34_2, r34_3, r34_4, r34_5, r34_6, r34_7, r34_8, r34_9, r34_10, r34_11, r34_12, r34_13, r34_14, r34_15, r34_16, r34_17⟩ =>
 (D_meter_Meter_Drop r31.2 r32.2.1 r32.2.2.1 r32.2.2.2).bind fun r35 =>
 some ((r34_0, r34_1, r34_2, r34_3, r34_4, r34_5, r34_6, r34_7, r34_8, r34_9, r34_10, r34_11, r34_12, r34_13, r34_14, r34_15, r34_16, r35.2.1, r35.2.2.1, r35.2.2.2, r34_17))
def D_drive_Driver_plain_2_L0 (a19 : List Int) (r47 : List Int) (r51 : List Int) (s54 : Int × List Int) : Op ((Int × List Int) ⊕ (List Int)) :=
 cond (decide (s54.1 < ((((ln r51) : Nat) : Int))))
  ((ix s54.1 ((ln s54.2))).bind fun j55 =>
  (s54.2[j55]?).bind fun x56 =>
  (ix (wI (((((ln a19) : Nat) : Int)) + s54.1)) ((ln r47))).bind fun j57 =>
  (r47[j57]?).bind fun x58 =>
  (ix s54.1 ((ln s54.2))).bind fun j59 =>
  (s54.2[j59]?).bind fun x60 =>
  some (.inl ((wI (s54.1 + 1), (List.set s54.2 j59 (wU (x56 + x58)))))))
  (some (.inr s54.2))
def D_drive_Driver_plain_2_L1 (a19 : List Int) (r47 : List Int) (r68 : List Int) (s71 : Int × List Int) : Op ((Int × List Int) ⊕ (List Int)) :=
 cond (decide (s71.1 < ((((ln r68) : Nat) : Int))))
  ((ix s71.1 ((ln s71.2))).bind fun j72 =>
  (s71.2[j72]?).bind fun x73 =>
  (ix (wI (((((ln a19) : Nat) : Int)) + s71.1)) ((ln r47))).bind fun j74 =>
  (r47[j74]?).bind fun x75 =>
  (ix s71.1 ((ln s71.2))).bind fun j76 =>
  (s71.2[j76]?).bind fun x77 =>
  some (.inl ((wI (s71.1 + 1), (List.set s71.2 j76 (wU (x73 + x75)))))))
  (some (.inr s71.2))
def D_drive_Driver_plain_2_L2 (a19 : List Int) (r47 : List Int) (r84 : List Int) (s87 : Int × List Int) : Op ((Int × List Int) ⊕ (List Int)) :=
 cond (decide (s87.1 < ((((ln r84) : Nat) : Int))))
  ((ix s87.1 ((ln s87.2))).bind fun j88 =>
  (s87.2[j88]?).bind fun x89 =>
  (ix (wI (((((ln a19) : Nat) : Int)) + s87.1)) ((ln r47))).bind fun j90 =>
  (r47[j90]?).bind fun x91 =>
  (ix s87.1 ((ln s87.2))).bind fun j92 =>
  (s87.2[j92]?).bind fun x93 =>
  some (.inl ((wI (s87.1 + 1), (List.set s87.2 j92 (wU (x89 + x91)))))))
  (some (.inr s87.2))
def D_drive_Driver_plain_2_L3 (a19 : List Int) (r47 : List Int) (r100 : List Int) (s103 : Int × List Int) : Op ((Int × List Int) ⊕ (List Int)) :=
 cond (decide (s103.1 < ((((ln r100) : Nat) : Int))))
  ((ix s103.1 ((ln s103.2))).bind fun j104 =>
  (s103.2[j104]?).bind fun x105 =>
  (ix (wI (((((ln a19) : Nat) : Int)) + s103.1)) ((ln r47))).bind fun j106 =>
  (r47[j106]?).bind fun x107 =>
  (ix s103.1 ((ln s103.2))).bind fun j108 =>
  (s103.2[j108]?).bind fun x109 =>
  some (.inl ((wI (s103.1 + 1), (List.set s103.2 j108 (wU (x105 + x107)))))))
  (some (.inr s103.2))
def D_drive_Driver_plain_2_L4 (a7 : Int) (r45 : Int × List Int) (r48 : Int × List (Int × Int × Int × Int × Int × Int)) : (Int × Int × Int × (List Int) × (List Int) × Int × Int × Int × Int × Int × Int × Int × Int) → Op ((Int × Int × Int × (List Int) × (List Int) × Int × Int × Int × Int × Int × Int × Int × Int) ⊕ ((List Int) × (List Int) × Int × Int × Int × Int × Int × Int × Int × Int)) := fun ⟨s135_0, s135_1, s135_2, s135_3, s135_4, s135_5, s135_6, s135_7, s135_8, s135_9, s135_10, s135_11, s135_12⟩ =>
 cond (decide (s135_0 < 0))
  (some (.inr (((s135_3, s135_4, s135_5, s135_6, s135_7, s135_8, s135_9, s135_10, s135_11, s135_12)))))
  ((ix s135_0 ((ln r48.2))).bind fun j136 =>
  (r48.2[j136]?).bind fun x137 =>
  cond (decide (x137.1 = 0))
   ((ix (wI (x137.2.2.2.2.2 - 1)) ((ln r48.2))).bind fun j138 =>
   (r48.2[j138]?).bind fun x139 =>
   (ix s135_1 8).bind fun j140 =>
   some (.inl ((wI (s135_0 - 1), wI (s135_1 + 1), s135_2, s135_3, s135_4, (cond (Nat.beq j140 0) x139.2.2.2.2.1 s135_5), (cond (Nat.beq j140 1) x139.2.2.2.2.1 s135_6), (cond (Nat.beq j140 2) x139.2.2.2.2.1 s135_7), (cond (Nat.beq j140 3) x139.2.2.2.2.1 s135_8), (cond (Nat.beq j140 4) x139.2.2.2.2.1 s135_9), (cond (Nat.beq j140 5) x139.2.2.2.2.1 s135_10), (cond (Nat.beq j140 6) x139.2.2.2.2.1 s135_11), (cond (Nat.beq j140 7) x139.2.2.2.2.1 s135_12)))))
   (cond (decide (x137.1 = 7))
    ((ix (wI (s135_1 - 1)) 8).bind fun j141 =>
    (ix (wI (s135_1 - 1)) 8).bind fun j142 =>
    (ix (wI (s135_1 - 1)) 8).bind fun j143 =>
    cond (decide (0 < ((List.getD [(cond (Nat.beq j142 0) (wU (((List.getD [s135_5, s135_6, s135_7, s135_8, s135_9, s135_10, s135_11, s135_12] j141 0)) - 1)) s135_5), (cond (Nat.beq j142 1) (wU (((List.getD [s135_5, s135_6, s135_7, s135_8, s135_9, s135_10, s135_11, s135_12] j141 0)) - 1)) s135_6), (cond (Nat.beq j142 2) (wU (((List.getD [s135_5, s135_6, s135_7, s135_8, s135_9, s135_10, s135_11, s135_12] j141 0)) - 1)) s135_7), (cond (Nat.beq j142 3) (wU (((List.getD [s135_5, s135_6, s135_7, s135_8, s135_9, s135_10, s135_11, s135_12] j141 0)) - 1)) s135_8), (cond (Nat.beq j142 4) (wU (((List.getD [s135_5, s135_6, s135_7, s135_8, s135_9, s135_10, s135_11, s135_12] j141 0)) - 1)) s135_9), (cond (Nat.beq j142 5) (wU (((List.getD [s135_5, s135_6, s135_7, s135_8, s135_9, s135_10, s135_11, s135_12] j141 0)) - 1)) s135_10), (cond (Nat.beq j142 6) (wU (((List.getD [s135_5, s135_6, s135_7, s135_8, s135_9, s135_10, s135_11, s135_12] j141 0)) - 1)) s135_11), (cond (Nat.beq j142 7) (wU (((List.getD [s135_5, s135_6, s135_7, s135_8, s135_9, s135_10, s135_11, s135_12] j141 0)) - 1)) s135_12)] j143 0))))
     (some (.inl ((wI (x137.2.2.2.2.2 - 2), s135_1, s135_2, s135_3, s135_4, (cond (Nat.beq j142 0) (wU (((List.getD [s135_5, s135_6, s135_7, s135_8, s135_9, s135_10, s135_11, s135_12] j141 0)) - 1)) s135_5), (cond (Nat.beq j142 1) (wU (((List.getD [s135_5, s135_6, s135_7, s135_8, s135_9, s135_10, s135_11, s135_12] j141 0)) - 1)) s135_6), (cond (Nat.beq j142 2) (wU (((List.getD [s135_5, s135_6, s135_7, s135_8, s135_9, s135_10, s135_11, s135_12] j141 0)) - 1)) s135_7), (cond (Nat.beq j142 3) (wU (((List.getD [s135_5, s135_6, s135_7, s135_8, s135_9, s135_10, s135_11, s135_12] j141 0)) - 1)) s135_8), (cond (Nat.beq j142 4) (wU (((List.getD [s135_5, s135_6, s135_7, s135_8, s135_9, s135_10, s135_11, s135_12] j141 0)) - 1)) s135_9), (cond (Nat.beq j142 5) (wU (((List.getD [s135_5, s135_6, s135_7, s135_8, s135_9, s135_10, s135_11, s135_12] j141 0)) - 1)) s135_10), (cond (Nat.beq j142 6) (wU (((List.getD [s135_5, s135_6, s135_7, s135_8, s135_9, s135_10, s135_11, s135_12] j141 0)) - 1)) s135_11), (cond (Nat.beq j142 7) (wU (((List.getD [s135_5, s135_6, s135_7, s135_8, s135_9, s135_10, s135_11, s135_12] j141 0)) - 1)) s135_12)))))
     (some (.inl ((wI (s135_0 - 1), wI (s135_1 - 1), s135_2, s135_3, s135_4, (cond (Nat.beq j142 0) (wU (((List.getD [s135_5, s135_6, s135_7, s135_8, s135_9, s135_10, s135_11, s135_12] j141 0)) - 1)) s135_5), (cond (Nat.beq j142 1) (wU (((List.getD [s135_5, s135_6, s135_7, s135_8, s135_9, s135_10, s135_11, s135_12] j141 0)) - 1)) s135_6), (cond (Nat.beq j142 2) (wU (((List.getD [s135_5, s135_6, s135_7, s135_8, s135_9, s135_10, s135_11, s135_12] j141 0)) - 1)) s135_7), (cond (Nat.beq j142 3) (wU (((List.getD [s135_5, s135_6, s135_7, s135_8, s135_9, s135_10, s135_11, s135_12] j141 0)) - 1)) s135_8), (cond (Nat.beq j142 4) (wU (((List.getD [s135_5, s135_6, s135_7, s135_8, s135_9, s135_10, s135_11, s135_12] j141 0)) - 1)) s135_9), (cond (Nat.beq j142 5) (wU (((List.getD [s135_5, s135_6, s135_7, s135_8, s135_9, s135_10, s135_11, s135_12] j141 0)) - 1)) s135_10), (cond (Nat.beq j142 6) (wU (((List.getD [s135_5, s135_6, s135_7, s135_8, s135_9, s135_10, s135_11, s135_12] j141 0)) - 1)) s135_11), (cond (Nat.beq j142 7) (wU (((List.getD [s135_5, s135_6, s135_7, s135_8, s135_9, s135_10, s135_11, s135_12] j141 0)) - 1)) s135_12))))))
    ((ix x137.2.1 ((ln s135_4))).bind fun j144 =>
    (s135_4[j144]?).bind fun x145 =>
    (ix x137.2.1 ((ln s135_4))).bind fun j146 =>
    (s135_4[j146]?).bind fun x147 =>
    (ix (wI (s135_2 - 1)) (((tN (wI (((((ln r45.2) : Nat) : Int)) - a7))) - 0))).bind fun j148 =>
    (s135_3[(0 + j148)]?).bind fun x149 =>
    (ix x137.2.1 (((tN ((((ln r45.2) : Nat) : Int))) - (tN (wI (((((ln r45.2) : Nat) : Int)) - a7)))))).bind fun j150 =>
    (s135_3[((tN (wI (((((ln r45.2) : Nat) : Int)) - a7))) + j150)]?).bind fun x151 =>
    (ix x137.2.2.1 (((tN ((((ln r45.2) : Nat) : Int))) - (tN (wI (((((ln r45.2) : Nat) : Int)) - a7)))))).bind fun j152 =>
    (((List.set s135_3 ((tN (wI (((((ln r45.2) : Nat) : Int)) - a7))) + j150) x149))[((tN (wI (((((ln r45.2) : Nat) : Int)) - a7))) + j152)]?).bind fun x153 =>
    (ix x137.2.2.2.1 (((tN ((((ln r45.2) : Nat) : Int))) - (tN (wI (((((ln r45.2) : Nat) : Int)) - a7)))))).bind fun j154 =>
    (((List.set s135_3 ((tN (wI (((((ln r45.2) : Nat) : Int)) - a7))) + j150) x149))[((tN (wI (((((ln r45.2) : Nat) : Int)) - a7))) + j154)]?).bind fun x155 =>
    (D_opcode_Partials x137.1 x137.2.1 x137.2.2.1 x137.2.2.2.1 x137.2.2.2.2.1 x153 x155).bind fun r156 =>
    (ix x137.2.2.1 ((ln ((List.set s135_4 j146 0))))).bind fun j157 =>
    (((List.set s135_4 j146 0))[j157]?).bind fun x158 =>
    (ix x137.2.2.1 ((ln ((List.set s135_4 j146 0))))).bind fun j159 =>
    (((List.set s135_4 j146 0))[j159]?).bind fun x160 =>
    (ix x137.2.2.2.1 ((ln ((List.set ((List.set s135_4 j146 0)) j159 (wU (x158 + (wU (r156.1 * x145))))))))).bind fun j161 =>
    (((List.set ((List.set s135_4 j146 0)) j159 (wU (x158 + (wU (r156.1 * x145))))))[j161]?).bind fun x162 =>
    (ix x137.2.2.2.1 ((ln ((List.set ((List.set s135_4 j146 0)) j159 (wU (x158 + (wU (r156.1 * x145))))))))).bind fun j163 =>
    (((List.set ((List.set s135_4 j146 0)) j159 (wU (x158 + (wU (r156.1 * x145))))))[j163]?).bind fun x164 =>
    some (.inl ((wI (s135_0 - 1), s135_1, wI (s135_2 - 1), (List.set s135_3 ((tN (wI (((((ln r45.2) : Nat) : Int)) - a7))) + j150) x149), (List.set ((List.set ((List.set s135_4 j146 0)) j159 (wU (x158 + (wU (r156.1 * x145)))))) j163 (wU (x162 + (wU (r156.2 * x145))))), s135_5, s135_6, s135_7, s135_8, s135_9, s135_10, s135_11, s135_12))))))
def D_drive_Driver_plain_2_L5 (a19 : List Int) (r165_1 : List Int) (r168 : List Int) (s171 : Int × List Int) : Op ((Int × List Int) ⊕ (List Int)) :=
 cond (decide (s171.1 < ((((ln r168) : Nat) : Int))))
  ((ix s171.1 ((ln s171.2))).bind fun j172 =>
  (s171.2[j172]?).bind fun x173 =>
  (ix (wI (((((ln a19) : Nat) : Int)) + s171.1)) ((ln r165_1))).bind fun j174 =>
  (r165_1[j174]?).bind fun x175 =>
  (ix s171.1 ((ln s171.2))).bind fun j176 =>
  (s171.2[j176]?).bind fun x177 =>
  some (.inl ((wI (s171.1 + 1), (List.set s171.2 j176 (wU (x173 + x175)))))))
  (some (.inr s171.2))
/- (*backstitch/drive.Driver).plain -/
def D_drive_Driver_plain_2 (a0 a1 a2 a3 a4 a5 a6 a7 a8 a9 a10 a11 a12 a13 a14 a15 a16 a17 a18 : Int) (a19 a20 : List Int) (a21 a22 : LO) (a23 : List Int) (a24 a25 a26 a27 a28 a29 a30 : Int) (a31 : List Int) : Op (Int × Int × Int × Int × Int × Int × Int × Int × Int × Int × Int × Int × Int × Int × Int × Int × Int × Int × Int × Int × Int × List Int) :=
 (((cond (decide (a0 = 8))
  (some true)
  (some (decide (a0 = 5)))) : Op (Bool))).bind fun s32 =>
 ((((((cond (decide (a1 ≠ 0))
  (some true)
  (cond (!s32)
   (some (decide (a0 ≠ 9)))
   (some false))) : Op (Bool))).bind fun s33 =>
 cond (s33)
  (some ((.inl 2)))
  ((((cond (s32)
   (cond (decide (0 ≤ a13))
    (some true)
    (cond (!s32)
     (some (decide (a13 < 1)))
     (some false)))
   (cond (!s32)
    (some (decide (a13 < 1)))
    (some false))) : Op (Bool))).bind fun s34 =>
  cond (s34)
   (some ((.inl 18)))
   (cond (s32)
    (cond (!((decide (a0 = 5)) == (decide (a12 = a11))))
     (some ((.inl 17)))
     (some ((.inr ()))))
    (some ((.inr ())))))) : Op ((Int) ⊕ (Unit)))).bind fun s35 =>
 caseS s35 (fun u36 =>
  some ((u36, a2, a3, a4, a5, a6, a7, a8, a9, a10, a11, a12, a13, a14, a15, a16, a17, a18, a28, a29, a30, a31)))
  (fun w37 =>
  cond (decide (a0 = 8))
   ((D_meter_Meter_Hold a4 a28 a29 a30).bind fun r38 =>
   (D_drive_Driver_taped_2 a2 a3 a4 a5 a6 a7 a8 a9 a10 a11 a12 a13 a14 a15 a16 a17 a18 a19 a20 a21 a22 a23 a24 a25 a26 a27 r38.2.1 r38.2.2.1 r38.2.2.2 a31).bind fun ⟨r39_0, r39_1, r39_2, r39_3, r39_4, r39_5, r39_6, r39_7, r39_8, r39_9, r39_10, r39_11, r39_12, r39_13, r39_14, r39_15, r39_16, r39_17, r39_18, r39_19⟩ =>
   (D_drive_Driver_shelf_2 r39_10 r39_0 r39_1 r39_2 r39_3 r39_4 r39_5 r39_6 r39_7 r39_8 r39_9 r39_10 r39_11 r39_12 r39_13 r39_14 r39_15 r39_16 a19 a20 a21 a22 a23 a24 a25 a26 a27 r38.2.1 r38.2.2.1 r38.2.2.2 r39_17).bind fun r40 =>
   gd (fits (ln r39_19 + ln r39_18) 8) ((D_arena_Arena_Write r40 ((r39_19 ++ r39_18)) a24 r39_17).bind fun r41 =>
   gd (cutG 0 ((((ln a19) : Nat) : Int)) ((ln r39_18))) ((D_drive_Driver_put_2 1 ((List.take (((tN ((((ln a19) : Nat) : Int))) - 0)) (List.drop 0 r39_18))) r39_0 r39_1 r39_2 r39_3 r39_4 r39_5 r39_6 r39_7 r39_8 r39_9 r39_10 r39_11 r39_12 r39_13 r39_14 r39_15 r39_16 a19 a20 a21 a22 a23 a24 a25 a26 a27 r38.2.1 r38.2.2.1 r38.2.2.2 r41.2).bind fun r42 =>
   some ((0, r39_0, r39_1, r39_2, r39_3, r39_4, r39_5, r39_6, r39_7, r39_8, r39_9, wI (r39_10 + 1), r39_11, r39_12, r39_13, r39_14, r39_15, r39_16, r38.2.1, r38.2.2.1, r38.2.2.2, r42)))))
   (cond (decide (a0 = 5))
    ((D_drive_Driver_seed_2 0 a2 a3 a4 a5 a6 a7 a8 a9 a10 a11 a12 a13 a14 a15 a16 a17 a18 a19 a20 a21 a22 a23 a24 a25 a26 a27 a28 a29 a30 a31).bind fun ⟨r43_0, r43_1, r43_2, r43_3, r43_4, r43_5, r43_6, r43_7, r43_8, r43_9, r43_10, r43_11, r43_12, r43_13, r43_14, r43_15, r43_16, r43_17, r43_18, r43_19, r43_20⟩ =>
    some ((0, r43_0, r43_1, r43_2, r43_3, r43_4, r43_5, r43_6, r43_7, r43_8, r43_9, r43_10, r43_9, r43_12, r43_13, r43_14, r43_15, r43_16, r43_17, r43_18, r43_19, r43_20)))
    ((D_drive_Driver_shelf_2 (wI (a13 - 1)) a2 a3 a4 a5 a6 a7 a8 a9 a10 a11 (wI (a13 - 1)) (wI (a13 - 1)) a14 a15 a16 a17 a18 a19 a20 a21 a22 a23 a24 a25 a26 a27 a28 a29 a30 a31).bind fun r44 =>
    (D_arena_Arena_Read r44 a4 a24 a31).bind fun r45 =>
    gd (cutG (wI (((((ln r45.2) : Nat) : Int)) - a7)) ((((ln r45.2) : Nat) : Int)) ((ln r45.2))) (gd (cutG 0 (wI (((((ln r45.2) : Nat) : Int)) - a7)) ((ln r45.2))) ((D_drive_Driver_get_2 5 a2 a3 a4 a5 a6 a7 a8 a9 a10 a11 (wI (a13 - 1)) (wI (a13 - 1)) a14 a15 a16 a17 a18 a19 a20 a21 a22 a23 a24 a25 a26 a27 a28 a29 a30 a31).bind fun r46 =>
    (D_drive_wide a7 a21 r46).bind fun r47 =>
    (D_flat_Code a7 a21).bind fun r48 =>
    cond (decide (r48.1 ≠ 0))
     ((D_drive_Driver_put_2 4 r47 a2 a3 a4 a5 a6 a7 a8 a9 a10 a11 (wI (a13 - 1)) (wI (a13 - 1)) a14 a15 a16 a17 a18 a19 a20 a21 a22 a23 a24 a25 a26 a27 a28 a29 a30 a31).bind fun r49 =>
     gd (cutG 0 ((((ln a19) : Nat) : Int)) ((ln r47))) ((D_drive_Driver_put_2 5 ((List.take (((tN ((((ln a19) : Nat) : Int))) - 0)) (List.drop 0 r47))) a2 a3 a4 a5 a6 a7 a8 a9 a10 a11 (wI (a13 - 1)) (wI (a13 - 1)) a14 a15 a16 a17 a18 a19 a20 a21 a22 a23 a24 a25 a26 a27 a28 a29 a30 r49).bind fun r50 =>
     (D_drive_Driver_get_2 6 a2 a3 a4 a5 a6 a7 a8 a9 a10 a11 (wI (a13 - 1)) (wI (a13 - 1)) a14 a15 a16 a17 a18 a19 a20 a21 a22 a23 a24 a25 a26 a27 a28 a29 a30 r50).bind fun r51 =>
     (loopN (D_drive_Driver_plain_2_L0 a19 r47 r51) BIG ((0, r51))).bind fun r61 =>
     (D_drive_Driver_put_2 6 r61 a2 a3 a4 a5 a6 a7 a8 a9 a10 a11 (wI (a13 - 1)) (wI (a13 - 1)) a14 a15 a16 a17 a18 a19 a20 a21 a22 a23 a24 a25 a26 a27 a28 a29 a30 r50).bind fun r62 =>
     gd (cutG (wI (((((ln r45.2) : Nat) : Int)) - a7)) (wI ((wI (((((ln r45.2) : Nat) : Int)) - a7)) + ((((ln a19) : Nat) : Int)))) ((ln r45.2))) ((D_drive_Driver_put_2 1 ((List.take (((tN (wI ((wI (((((ln r45.2) : Nat) : Int)) - a7)) + ((((ln a19) : Nat) : Int))))) - (tN (wI (((((ln r45.2) : Nat) : Int)) - a7))))) (List.drop ((tN (wI (((((ln r45.2) : Nat) : Int)) - a7)))) r45.2))) a2 a3 a4 a5 a6 a7 a8 a9 a10 a11 (wI (a13 - 1)) (wI (a13 - 1)) a14 a15 a16 (wI (a17 + 1)) a18 a19 a20 a21 a22 a23 a24 a25 a26 a27 a28 a29 a30 r62).bind fun r63 =>
     (D_meter_Meter_Drop a4 a28 a29 a30).bind fun r64 =>
     some ((0, a2, a3, a4, a5, a6, a7, a8, a9, a10, a11, wI (a13 - 1), wI (a13 - 1), a14, a15, a16, wI (a17 + 1), a18, r64.2.1, r64.2.2.1, r64.2.2.2, r63)))))
     ((D_size_Writes a21).bind fun r65 =>
     cond (decide ((((((tN ((((ln r45.2) : Nat) : Int))) - (tN (wI (((((ln r45.2) : Nat) : Int)) - a7)))) : Nat) : Int)) ≠ a7))
      ((D_drive_Driver_put_2 4 r47 a2 a3 a4 a5 a6 a7 a8 a9 a10 a11 (wI (a13 - 1)) (wI (a13 - 1)) a14 a15 a16 a17 a18 a19 a20 a21 a22 a23 a24 a25 a26 a27 a28 a29 a30 a31).bind fun r66 =>
      gd (cutG 0 ((((ln a19) : Nat) : Int)) ((ln r47))) ((D_drive_Driver_put_2 5 ((List.take (((tN ((((ln a19) : Nat) : Int))) - 0)) (List.drop 0 r47))) a2 a3 a4 a5 a6 a7 a8 a9 a10 a11 (wI (a13 - 1)) (wI (a13 - 1)) a14 a15 a16 a17 a18 a19 a20 a21 a22 a23 a24 a25 a26 a27 a28 a29 a30 r66).bind fun r67 =>
      (D_drive_Driver_get_2 6 a2 a3 a4 a5 a6 a7 a8 a9 a10 a11 (wI (a13 - 1)) (wI (a13 - 1)) a14 a15 a16 a17 a18 a19 a20 a21 a22 a23 a24 a25 a26 a27 a28 a29 a30 r67).bind fun r68 =>
      (loopN (D_drive_Driver_plain_2_L1 a19 r47 r68) BIG ((0, r68))).bind fun r78 =>
      (D_drive_Driver_put_2 6 r78 a2 a3 a4 a5 a6 a7 a8 a9 a10 a11 (wI (a13 - 1)) (wI (a13 - 1)) a14 a15 a16 a17 a18 a19 a20 a21 a22 a23 a24 a25 a26 a27 a28 a29 a30 r67).bind fun r79 =>
      gd (cutG (wI (((((ln r45.2) : Nat) : Int)) - a7)) (wI ((wI (((((ln r45.2) : Nat) : Int)) - a7)) + ((((ln a19) : Nat) : Int)))) ((ln r45.2))) ((D_drive_Driver_put_2 1 ((List.take (((tN (wI ((wI (((((ln r45.2) : Nat) : Int)) - a7)) + ((((ln a19) : Nat) : Int))))) - (tN (wI (((((ln r45.2) : Nat) : Int)) - a7))))) (List.drop ((tN (wI (((((ln r45.2) : Nat) : Int)) - a7)))) r45.2))) a2 a3 a4 a5 a6 a7 a8 a9 a10 a11 (wI (a13 - 1)) (wI (a13 - 1)) a14 a15 a16 (wI (a17 + 1)) a18 a19 a20 a21 a22 a23 a24 a25 a26 a27 a28 a29 a30 r79).bind fun r80 =>
      (D_meter_Meter_Drop a4 a28 a29 a30).bind fun r81 =>
      some ((0, a2, a3, a4, a5, a6, a7, a8, a9, a10, a11, wI (a13 - 1), wI (a13 - 1), a14, a15, a16, wI (a17 + 1), a18, r81.2.1, r81.2.2.1, r81.2.2.2, r80)))))
      (cond (decide (((((ln r47) : Nat) : Int)) ≠ a7))
       ((D_drive_Driver_put_2 4 r47 a2 a3 a4 a5 a6 a7 a8 a9 a10 a11 (wI (a13 - 1)) (wI (a13 - 1)) a14 a15 a16 a17 a18 a19 a20 a21 a22 a23 a24 a25 a26 a27 a28 a29 a30 a31).bind fun r82 =>
       gd (cutG 0 ((((ln a19) : Nat) : Int)) ((ln r47))) ((D_drive_Driver_put_2 5 ((List.take (((tN ((((ln a19) : Nat) : Int))) - 0)) (List.drop 0 r47))) a2 a3 a4 a5 a6 a7 a8 a9 a10 a11 (wI (a13 - 1)) (wI (a13 - 1)) a14 a15 a16 a17 a18 a19 a20 a21 a22 a23 a24 a25 a26 a27 a28 a29 a30 r82).bind fun r83 =>
       (D_drive_Driver_get_2 6 a2 a3 a4 a5 a6 a7 a8 a9 a10 a11 (wI (a13 - 1)) (wI (a13 - 1)) a14 a15 a16 a17 a18 a19 a20 a21 a22 a23 a24 a25 a26 a27 a28 a29 a30 r83).bind fun r84 =>
       (loopN (D_drive_Driver_plain_2_L2 a19 r47 r84) BIG ((0, r84))).bind fun r94 =>
       (D_drive_Driver_put_2 6 r94 a2 a3 a4 a5 a6 a7 a8 a9 a10 a11 (wI (a13 - 1)) (wI (a13 - 1)) a14 a15 a16 a17 a18 a19 a20 a21 a22 a23 a24 a25 a26 a27 a28 a29 a30 r83).bind fun r95 =>
       gd (cutG (wI (((((ln r45.2) : Nat) : Int)) - a7)) (wI ((wI (((((ln r45.2) : Nat) : Int)) - a7)) + ((((ln a19) : Nat) : Int)))) ((ln r45.2))) ((D_drive_Driver_put_2 1 ((List.take (((tN (wI ((wI (((((ln r45.2) : Nat) : Int)) - a7)) + ((((ln a19) : Nat) : Int))))) - (tN (wI (((((ln r45.2) : Nat) : Int)) - a7))))) (List.drop ((tN (wI (((((ln r45.2) : Nat) : Int)) - a7)))) r45.2))) a2 a3 a4 a5 a6 a7 a8 a9 a10 a11 (wI (a13 - 1)) (wI (a13 - 1)) a14 a15 a16 (wI (a17 + 1)) a18 a19 a20 a21 a22 a23 a24 a25 a26 a27 a28 a29 a30 r95).bind fun r96 =>
       (D_meter_Meter_Drop a4 a28 a29 a30).bind fun r97 =>
       some ((0, a2, a3, a4, a5, a6, a7, a8, a9, a10, a11, wI (a13 - 1), wI (a13 - 1), a14, a15, a16, wI (a17 + 1), a18, r97.2.1, r97.2.2.1, r97.2.2.2, r96)))))
       (cond (decide ((((((tN (wI (((((ln r45.2) : Nat) : Int)) - a7))) - 0) : Nat) : Int)) < r65.1))
        ((D_drive_Driver_put_2 4 r47 a2 a3 a4 a5 a6 a7 a8 a9 a10 a11 (wI (a13 - 1)) (wI (a13 - 1)) a14 a15 a16 a17 a18 a19 a20 a21 a22 a23 a24 a25 a26 a27 a28 a29 a30 a31).bind fun r98 =>
        gd (cutG 0 ((((ln a19) : Nat) : Int)) ((ln r47))) ((D_drive_Driver_put_2 5 ((List.take (((tN ((((ln a19) : Nat) : Int))) - 0)) (List.drop 0 r47))) a2 a3 a4 a5 a6 a7 a8 a9 a10 a11 (wI (a13 - 1)) (wI (a13 - 1)) a14 a15 a16 a17 a18 a19 a20 a21 a22 a23 a24 a25 a26 a27 a28 a29 a30 r98).bind fun r99 =>
        (D_drive_Driver_get_2 6 a2 a3 a4 a5 a6 a7 a8 a9 a10 a11 (wI (a13 - 1)) (wI (a13 - 1)) a14 a15 a16 a17 a18 a19 a20 a21 a22 a23 a24 a25 a26 a27 a28 a29 a30 r99).bind fun r100 =>
        (loopN (D_drive_Driver_plain_2_L3 a19 r47 r100) BIG ((0, r100))).bind fun r110 =>
        (D_drive_Driver_put_2 6 r110 a2 a3 a4 a5 a6 a7 a8 a9 a10 a11 (wI (a13 - 1)) (wI (a13 - 1)) a14 a15 a16 a17 a18 a19 a20 a21 a22 a23 a24 a25 a26 a27 a28 a29 a30 r99).bind fun r111 =>
        gd (cutG (wI (((((ln r45.2) : Nat) : Int)) - a7)) (wI ((wI (((((ln r45.2) : Nat) : Int)) - a7)) + ((((ln a19) : Nat) : Int)))) ((ln r45.2))) ((D_drive_Driver_put_2 1 ((List.take (((tN (wI ((wI (((((ln r45.2) : Nat) : Int)) - a7)) + ((((ln a19) : Nat) : Int))))) - (tN (wI (((((ln r45.2) : Nat) : Int)) - a7))))) (List.drop ((tN (wI (((((ln r45.2) : Nat) : Int)) - a7)))) r45.2))) a2 a3 a4 a5 a6 a7 a8 a9 a10 a11 (wI (a13 - 1)) (wI (a13 - 1)) a14 a15 a16 (wI (a17 + 1)) a18 a19 a20 a21 a22 a23 a24 a25 a26 a27 a28 a29 a30 r111).bind fun r112 =>
        (D_meter_Meter_Drop a4 a28 a29 a30).bind fun r113 =>
        some ((0, a2, a3, a4, a5, a6, a7, a8, a9, a10, a11, wI (a13 - 1), wI (a13 - 1), a14, a15, a16, wI (a17 + 1), a18, r113.2.1, r113.2.2.1, r113.2.2.2, r112)))))
        ((loopN (D_drive_Driver_plain_2_L4 a7 r45 r48) BIG ((wI (((((ln r48.2) : Nat) : Int)) - 1), 0, r65.1, r45.2, r47, 0, 0, 0, 0, 0, 0, 0, 0))).bind fun ⟨r165_0, r165_1, r165_2, r165_3, r165_4, r165_5, r165_6, r165_7, r165_8, r165_9⟩ =>
        (D_drive_Driver_put_2 4 r165_1 a2 a3 a4 a5 a6 a7 a8 a9 a10 a11 (wI (a13 - 1)) (wI (a13 - 1)) a14 a15 a16 a17 a18 a19 a20 a21 a22 a23 a24 a25 a26 a27 a28 a29 a30 a31).bind fun r166 =>
        gd (cutG 0 ((((ln a19) : Nat) : Int)) ((ln r165_1))) ((D_drive_Driver_put_2 5 ((List.take (((tN ((((ln a19) : Nat) : Int))) - 0)) (List.drop 0 r165_1))) a2 a3 a4 a5 a6 a7 a8 a9 a10 a11 (wI (a13 - 1)) (wI (a13 - 1)) a14 a15 a16 a17 a18 a19 a20 a21 a22 a23 a24 a25 a26 a27 a28 a29 a30 r166).bind fun r167 =>
        (D_drive_Driver_get_2 6 a2 a3 a4 a5 a6 a7 a8 a9 a10 a11 (wI (a13 - 1)) (wI (a13 - 1)) a14 a15 a16 a17 a18 a19 a20 a21 a22 a23 a24 a25 a26 a27 a28 a29 a30 r167).bind fun r168 =>
        (loopN (D_drive_Driver_plain_2_L5 a19 r165_1 r168) BIG ((0, r168))).bind fun r178 =>
        (D_drive_Driver_put_2 6 r178 a2 a3 a4 a5 a6 a7 a8 a9 a10 a11 (wI (a13 - 1)) (wI (a13 - 1)) a14 a15 a16 a17 a18 a19 a20 a21 a22 a23 a24 a25 a26 a27 a28 a29 a30 r167).bind fun r179 =>
        gd (cutG (wI (((((ln r45.2) : Nat) : Int)) - a7)) (wI ((wI (((((ln r45.2) : Nat) : Int)) - a7)) + ((((ln a19) : Nat) : Int)))) ((ln r165_0))) ((D_drive_Driver_put_2 1 ((List.take (((tN (wI ((wI (((((ln r45.2) : Nat) : Int)) - a7)) + ((((ln a19) : Nat) : Int))))) - (tN (wI (((((ln r45.2) : Nat) : Int)) - a7))))) (List.drop ((tN (wI (((((ln r45.2) : Nat) : Int)) - a7)))) r165_0))) a2 a3 a4 a5 a6 a7 a8 a9 a10 a11 (wI (a13 - 1)) (wI (a13 - 1)) a14 a15 a16 (wI (a17 + 1)) a18 a19 a20 a21 a22 a23 a24 a25 a26 a27 a28 a29 a30 r179).bind fun r180 =>
        (D_meter_Meter_Drop a4 a28 a29 a30).bind fun r181 =>
        some ((0, a2, a3, a4, a5, a6, a7, a8, a9, a10, a11, wI (a13 - 1), wI (a13 - 1), a14, a15, a16, wI (a17 + 1), a18, r181.2.1, r181.2.2.1, r181.2.2.2, r180)))))))))))))
/- (*backstitch/drive.Driver).moves -/
def D_drive_Driver_moves_2 (a0 a1 a2 a3 a4 a5 a6 a7 a8 a9 a10 a11 a12 a13 a14 a15 a16 : Int) (a17 a18 : List Int) (a19 a20 : LO) (a21 : List Int) (a22 a23 a24 a25 a26 a27 a28 : Int) (a29 : List Int) : Op (Unit) :=
 some ()
def D_drive_Driver_advance_2_L0 (a0 : Int) (a18 a19 : List Int) (a20 a21 : LO) (a22 : List Int) (a23 a24 a25 a26 a27 a28 a29 : Int) : (Int × Int × Int × Int × Int × Int × Int × Int × Int × Int × Int × Int × Int × Int × Int × Int × Int × Int × List Int) → Op ((Int × Int × Int × Int × Int × Int × Int × Int × Int × Int × Int × Int × Int × Int × Int × Int × Int × Int × List Int) ⊕ (Int × Int × Int × Int × Int × Int × Int × Int × Int × Int × Int × Int × Int × Int × Int × Int × Int × List Int)) := fun ⟨s50_0, s50_1, s50_2, s50_3, s50_4, s50_5, s50_6, s50_7, s50_8, s50_9, s50_10, s50_11, s50_12, s50_13, s50_14, s50_15, s50_16, s50_17, s50_18⟩ =>
 cond (decide (s50_0 < a0))
  ((D_drive_Driver_get_2 1 s50_1 s50_2 s50_3 s50_4 s50_5 s50_6 s50_7 s50_8 s50_9 s50_10 s50_11 s50_12 s50_13 s50_14 s50_15 s50_16 s50_17 a18 a19 a20 a21 a22 a23 a24 a25 a26 a27 a28 a29 s50_18).bind fun r51 =>
  (D_drive_Driver_begin_2 s50_6 a20 r51 ([wU (wI (s50_11 + s50_0))]) s50_1 s50_2 s50_3 s50_4 s50_5 s50_6 s50_7 s50_8 s50_9 s50_10 s50_11 s50_12 s50_13 s50_14 s50_15 s50_16 s50_17 a18 a19 a20 a21 a22 a23 a24 a25 a26 a27 a28 a29 s50_18).bind fun r52 =>
  (D_forward_Run s50_6 a20 r52).bind fun r53 =>
  (D_drive_Driver_put_2 2 r53.2 s50_1 s50_2 s50_3 s50_4 s50_5 s50_6 s50_7 s50_8 s50_9 s50_10 s50_11 s50_12 s50_13 s50_14 s50_15 s50_16 s50_17 a18 a19 a20 a21 a22 a23 a24 a25 a26 a27 a28 a29 s50_18).bind fun r54 =>
  gd (cutG 0 ((((ln a18) : Nat) : Int)) ((ln r53.2))) ((D_drive_Driver_put_2 1 ((List.take (((tN ((((ln a18) : Nat) : Int))) - 0)) (List.drop 0 r53.2))) s50_1 s50_2 s50_3 s50_4 s50_5 s50_6 s50_7 s50_8 s50_9 s50_10 s50_11 s50_12 s50_13 s50_14 s50_15 s50_16 s50_17 a18 a19 a20 a21 a22 a23 a24 a25 a26 a27 a28 a29 r54).bind fun r55 =>
  some (.inl ((wI (s50_0 + 1), s50_1, s50_2, s50_3, s50_4, s50_5, s50_6, s50_7, s50_8, s50_9, s50_10, s50_11, s50_12, wI (s50_13 + 1), s50_14, s50_15, s50_16, s50_17, r55)))))
  (some (.inr (((s50_1, s50_2, s50_3, s50_4, s50_5, s50_6, s50_7, s50_8, s50_9, s50_10, s50_11, s50_12, s50_13, s50_14, s50_15, s50_16, s50_17, s50_18)))))
/- (*backstitch/drive.Driver).advance -/
def D_drive_Driver_advance_2 (a0 a1 a2 a3 a4 a5 a6 a7 a8 a9 a10 a11 a12 a13 a14 a15 a16 a17 : Int) (a18 a19 : List Int) (a20 a21 : LO) (a22 : List Int) (a23 a24 a25 a26 a27 a28 a29 : Int) (a30 : List Int) : Op (Int × Int × Int × Int × Int × Int × Int × Int × Int × Int × Int × Int × Int × Int × Int × Int × Int × List Int) :=
 (loopN (D_drive_Driver_advance_2_L0 a0 a18 a19 a20 a21 a22 a23 a24 a25 a26 a27 a28 a29) BIG ((0, a1, a2, a3, a4, a5, a6, a7, a8, a9, a10, a11, a12, a13, a14, a15, a16, a17, a30))).bind fun ⟨r56_0, r56_1, r56_2, r56_3, r56_4, r56_5, r56_6, r56_7, r56_8, r56_9, r56_10, r56_11, r56_12, r56_13, r56_14, r56_15, r56_16, r56_17⟩ =>
 some ((r56_0, r56_1, r56_2, r56_3, r56_4, r56_5, r56_6, r56_7, r56_8, r56_9, r56_10, r56_11, r56_12, r56_13, r56_14, r56_15, r56_16, r56_17))
/- (backstitch/slots.place).has -/
def D_slots_place_has (a0 a1 a2 a3 : Int) : Op (Bool) :=
 cond (decide (0 ≤ a3))
  (some (decide (a3 < a1)))
  (some false)
/- (*backstitch/slots.Slots).Store -/
def D_slots_Slots_Store_2 (a0 a1 : Int) (a2 : List Int) (a3 a4 a5 a6 : Int) (a7 : List Int) : Op (Int × List Int) :=
 (D_slots_place_has a3 a4 a5 a0).bind fun r8 =>
 cond (!r8)
  (some ((2, a7)))
  ((D_slots_place_word a3 a4 a5 a0).bind fun r9 =>
  (D_arena_Arena_Get r9 a6 a7).bind fun r10 =>
  (D_slots_place_word a3 a4 a5 a0).bind fun r11 =>
  (((cond (decide (a1 < 0))
   (some true)
   (some (decide (65536 ≤ a1)))) : Op (Bool))).bind fun s12 =>
  cond (s12)
   (some ((2, a7)))
   (cond (decide (((((ln a2) : Nat) : Int)) ≠ a5))
    (some ((10, a7)))
    (cond (decide (r10.1 ≠ 0))
     (some ((15, a7)))
     (gd (fits (1 + ln a2) 8) ((D_arena_Arena_Write r11 ((([wU (wI (a1 + 1))] : List Int) ++ a2)) a6 a7).bind fun r13 =>
     some ((r13.1, r13.2)))))))
/- (*backstitch/drive.Driver).store -/
def D_drive_Driver_store_2 (a0 a1 a2 a3 a4 a5 a6 a7 a8 a9 a10 a11 a12 a13 a14 a15 a16 a17 : Int) (a18 a19 : List Int) (a20 a21 : LO) (a22 : List Int) (a23 a24 a25 a26 a27 a28 a29 : Int) (a30 : List Int) : Op (Int × Int × Int × List Int) :=
 (D_meter_Meter_Hold a3 a27 a28 a29).bind fun r31 =>
 (D_drive_Driver_get_2 1 a1 a2 a3 a4 a5 a6 a7 a8 a9 a10 a11 a12 a13 a14 a15 a16 a17 a18 a19 a20 a21 a22 a23 a24 a25 a26 r31.2.1 r31.2.2.1 r31.2.2.2 a30).bind fun r32 =>
 (D_slots_Slots_Store_2 a0 a11 r32 a24 a25 a26 a23 a30).bind fun r33 =>
 some ((r31.2.1, r31.2.2.1, r31.2.2.2, r33.2))
/- (*backstitch/slots.Slots).Restore -/
def D_slots_Slots_Restore_2 (a0 a1 a2 a3 a4 : Int) (a5 : List Int) : Op (Int × Int × List Int) :=
 (D_slots_place_has a1 a2 a3 a0).bind fun r6 =>
 cond (!r6)
  (some ((0, 2, [])))
  ((D_slots_place_word a1 a2 a3 a0).bind fun r7 =>
  (D_arena_Arena_Get r7 a4 a5).bind fun r8 =>
  (D_slots_place_word a1 a2 a3 a0).bind fun r9 =>
  cond (decide (r8.1 = 0))
   (some ((0, 16, [])))
   ((D_arena_Arena_Read (wI (r9 + 1)) a3 a4 a5).bind fun r10 =>
   some ((wI ((wI (r8.1)) - 1), 0, r10.2))))
/- (*backstitch/drive.Driver).restore -/
def D_drive_Driver_restore_2 (a0 a1 a2 a3 a4 a5 a6 a7 a8 a9 a10 a11 a12 a13 a14 a15 a16 a17 : Int) (a18 a19 : List Int) (a20 a21 : LO) (a22 : List Int) (a23 a24 a25 a26 a27 a28 a29 : Int) (a30 : List Int) : Op (List Int) :=
 (D_slots_Slots_Restore_2 a0 a24 a25 a26 a23 a30).bind fun r31 =>
 (D_drive_Driver_put_2 1 r31.2.2 a1 a2 a3 a4 a5 a6 a7 a8 a9 a10 a11 a12 a13 a14 a15 a16 a17 a18 a19 a20 a21 a22 a23 a24 a25 a26 a27 a28 a29 a30).bind fun r32 =>
 some r32
/- (*backstitch/slots.Slots).Free -/
def D_slots_Slots_Free_2 (a0 a1 a2 a3 a4 : Int) (a5 : List Int) : Op (Int × List Int) :=
 (D_slots_place_has a1 a2 a3 a0).bind fun r6 =>
 cond (!r6)
  (some ((2, a5)))
  ((D_slots_place_word a1 a2 a3 a0).bind fun r7 =>
  (D_arena_Arena_Get r7 a4 a5).bind fun r8 =>
  (D_slots_place_word a1 a2 a3 a0).bind fun r9 =>
  cond (decide (r8.1 = 0))
   (some ((16, a5)))
   ((D_slots_place_size a1 a2 a3).bind fun r10 =>
   gd (Nat.beq 1 (Sh.w (.int .u64)) && decide (0 ≤ r10) && decide (r10 ≤ r10) && decide ((8 : Int) * r10 ≤ 140737488355328) && Nat.ble 1 8) ((D_arena_Arena_Write r9 ((List.replicate (tN r10) (0 : Int))) a4 a5).bind fun r11 =>
   some ((r11.1, r11.2)))))
/- (*backstitch/drive.Driver).free -/
def D_drive_Driver_free_2 (a0 a1 a2 a3 a4 a5 a6 a7 a8 a9 a10 a11 a12 a13 a14 a15 a16 a17 : Int) (a18 a19 : List Int) (a20 a21 : LO) (a22 : List Int) (a23 a24 a25 a26 a27 a28 a29 : Int) (a30 : List Int) : Op (Int × Int × Int × List Int) :=
 (D_slots_Slots_Free_2 a0 a24 a25 a26 a23 a30).bind fun r31 =>
 (D_meter_Meter_Drop a3 a27 a28 a29).bind fun r32 =>
 some ((r32.2.1, r32.2.2.1, r32.2.2.2, r31.2))
def D_drive_Driver_back_4_L0 (a22 : List Int) (r34 : Int × (List Int) × List Int) (r37 : List Int) (s40 : Int × List Int) : Op ((Int × List Int) ⊕ (List Int)) :=
 cond (decide (s40.1 < ((((ln r37) : Nat) : Int))))
  ((ix s40.1 ((ln s40.2))).bind fun j41 =>
  (s40.2[j41]?).bind fun x42 =>
  (ix (wI (((((ln a22) : Nat) : Int)) + s40.1)) ((ln r34.2.2))).bind fun j43 =>
  (r34.2.2[j43]?).bind fun x44 =>
  (ix s40.1 ((ln s40.2))).bind fun j45 =>
  (s40.2[j45]?).bind fun x46 =>
  some (.inl ((wI (s40.1 + 1), (List.set s40.2 j45 (wU (x42 + x44)))))))
  (some (.inr s40.2))
/- (*backstitch/drive.Driver).back -/
def D_drive_Driver_back_4 (a0 a1 a2 a3 a4 a5 a6 a7 a8 a9 a10 a11 a12 a13 a14 a15 a16 a17 : Int) (a18 : LO) (a19 a20 a21 a22 a23 : List Int) (a24 : LO) (a25 : List Int) (a26 a27 a28 a29 a30 a31 a32 : Int) (a33 : List Int) : Op (Int × Int × Int × Int × Int × Int × Int × Int × Int × Int × Int × Int × Int × Int × Int × Int × Int × (List Int) × (List Int) × List Int) :=
 (D_sweep_Back a0 a18 a19 a20 a21).bind fun r34 =>
 (D_drive_Driver_put_2 4 r34.2.2 a1 a2 a3 a4 a5 a6 a7 a8 a9 a10 a11 a12 a13 a14 a15 a16 a17 a22 a23 a18 a24 a25 a26 a27 a28 a29 a30 a31 a32 a33).bind fun r35 =>
 gd (cutG 0 ((((ln a22) : Nat) : Int)) ((ln r34.2.2))) ((D_drive_Driver_put_2 5 ((List.take (((tN ((((ln a22) : Nat) : Int))) - 0)) (List.drop 0 r34.2.2))) a1 a2 a3 a4 a5 a6 a7 a8 a9 a10 a11 a12 a13 a14 a15 a16 a17 a22 a23 a18 a24 a25 a26 a27 a28 a29 a30 a31 a32 r35).bind fun r36 =>
 (D_drive_Driver_get_2 6 a1 a2 a3 a4 a5 a6 a7 a8 a9 a10 a11 a12 a13 a14 a15 a16 a17 a22 a23 a18 a24 a25 a26 a27 a28 a29 a30 a31 a32 r36).bind fun r37 =>
 (loopN (D_drive_Driver_back_4_L0 a22 r34 r37) BIG ((0, r37))).bind fun r47 =>
 (D_drive_Driver_put_2 6 r47 a1 a2 a3 a4 a5 a6 a7 a8 a9 a10 a11 a12 a13 a14 a15 a16 a17 a22 a23 a18 a24 a25 a26 a27 a28 a29 a30 a31 a32 r36).bind fun r48 =>
 some ((a1, a2, a3, a4, a5, a6, a7, a8, a9, a10, a11, a12, a13, a14, a15, wI (a16 + 1), a17, r34.2.1, r34.2.2, r48)))
/- (*backstitch/drive.Driver).turn -/
def D_drive_Driver_turn_2 (a0 a1 a2 a3 a4 a5 a6 a7 a8 a9 a10 a11 a12 a13 a14 a15 a16 : Int) (a17 a18 a19 a20 : List Int) (a21 a22 : LO) (a23 : List Int) (a24 a25 a26 a27 a28 a29 a30 : Int) (a31 : List Int) : Op (Int × Int × Int × Int × Int × Int × Int × Int × Int × Int × Int × Int × Int × Int × Int × Int × Int × (List Int) × List Int) :=
 (D_drive_Driver_get_2 5 a0 a1 a2 a3 a4 a5 a6 a7 a8 a9 a10 a11 a12 a13 a14 a15 a16 a19 a20 a21 a22 a23 a24 a25 a26 a27 a28 a29 a30 a31).bind fun r32 =>
 (D_drive_wide a5 a21 r32).bind fun r33 =>
 (D_drive_Driver_back_4 a5 a0 a1 a2 a3 a4 a5 a6 a7 a8 a9 a10 a11 a12 a13 a14 a15 a16 a21 a17 r33 a18 a19 a20 a22 a23 a24 a25 a26 a27 a28 a29 a30 a31).bind fun ⟨r34_0, r34_1, r34_2, r34_3, r34_4, r34_5, r34_6, r34_7, r34_8, r34_9, r34_10, r34_11, r34_12, r34_13, r34_14, r34_15, r34_16, r34_17, r34_18, r34_19⟩ =>
 some ((r34_0, r34_1, r34_2, r34_3, r34_4, r34_5, r34_6, r34_7, r34_8, r34_9, r34_10, r34_11, r34_12, r34_13, r34_14, r34_15, r34_16, r34_17, r34_19))
/- (*backstitch/drive.Driver).both -/
def D_drive_Driver_both_2 (a0 a1 a2 a3 a4 a5 a6 a7 a8 a9 a10 a11 a12 a13 a14 a15 a16 a17 : Int) (a18 a19 : List Int) (a20 a21 : LO) (a22 : List Int) (a23 a24 a25 a26 a27 a28 a29 : Int) (a30 : List Int) : Op (Int × Int × Int × Int × Int × Int × Int × Int × Int × Int × Int × Int × Int × Int × Int × Int × Int × Int × Int × Int × List Int) :=
 (D_plan_Of a5 a18 a19 a6 a20 a7 a21 a8 a9).bind fun r31 =>
 (D_meter_Meter_Hold (wI (r31.1 + r31.2)) a27 a28 a29).bind fun r32 =>
 (D_drive_Driver_taped_2 a1 a2 a3 a4 a5 a6 a7 a8 a9 a10 a11 a12 a13 a14 a15 a16 a17 a18 a19 a20 a21 a22 a23 a24 a25 a26 r32.2.1 r32.2.2.1 r32.2.2.2 a30).bind fun ⟨r33_0, r33_1, r33_2, r33_3, r33_4, r33_5, r33_6, r33_7, r33_8, r33_9, r33_10, r33_11, r33_12, r33_13, r33_14, r33_15, r33_16, r33_17, r33_18, r33_19⟩ =>
 gd (cutG 0 ((((ln a18) : Nat) : Int)) ((ln r33_18))) ((D_drive_Driver_end_2 ((List.take (((tN ((((ln a18) : Nat) : Int))) - 0)) (List.drop 0 r33_18))) r33_0 r33_1 r33_2 r33_3 r33_4 r33_5 r33_6 r33_7 r33_8 r33_9 r33_10 r33_11 r33_12 r33_13 r33_14 r33_15 r33_16 a18 a19 a20 a21 a22 a23 a24 a25 a26 r32.2.1 r32.2.2.1 r32.2.2.2 r33_17).bind fun ⟨r34_0, r34_1, r34_2, r34_3, r34_4, r34_5, r34_6, r34_7, r34_8, r34_9, r34_10, r34_11, r34_12, r34_13, r34_14, r34_15, r34_16, r34_17⟩ =>
 (D_drive_Driver_turn_2 r34_0 r34_1 r34_2 r34_3 r34_4 r34_5 r34_6 r34_7 r34_8 r34_9 r34_10 r34_11 r34_12 r34_13 r34_14 r34_15 r34_16 r33_18 r33_19 a18 a19 a20 a21 a22 a23 a24 a25 a26 r32.2.1 r32.2.2.1 r32.2.2.2 r34_17).bind fun ⟨r35_0, r35_1, r35_2, r35_3, r35_4, r35_5, r35_6, r35_7, r35_8, r35_9, r35_10, r35_11, r35_12, r35_13, r35_14, r35_15, r35_16, r35_17, r35_18⟩ =>
 (D_meter_Meter_Drop (wI (r31.1 + r31.2)) r32.2.1 r32.2.2.1 r32.2.2.2).bind fun r36 =>
 some ((r35_0, r35_1, r35_2, r35_3, r35_4, r35_5, r35_6, r35_7, r35_8, r35_9, r35_10, r35_11, r35_12, r35_13, r35_14, r35_15, r35_16, r36.2.1, r36.2.2.1, r36.2.2.2, r35_18)))
/- (*backstitch/drive.Driver).reverse -/
def D_drive_Driver_reverse_2 (a0 a1 a2 a3 a4 a5 a6 a7 a8 a9 a10 a11 a12 a13 a14 a15 a16 a17 : Int) (a18 a19 : List Int) (a20 a21 : LO) (a22 : List Int) (a23 a24 a25 a26 a27 a28 a29 : Int) (a30 : List Int) : Op (Int × Int × Int × Int × Int × Int × Int × Int × Int × Int × Int × Int × Int × Int × Int × Int × Int × Int × Int × Int × List Int) :=
 (D_plan_Of a5 a18 a19 a6 a20 a7 a21 a8 a9).bind fun r31 =>
 (D_meter_Meter_Hold r31.1 a27 a28 a29).bind fun r32 =>
 (D_drive_Driver_taped_2 a1 a2 a3 a4 a5 a6 a7 a8 a9 a10 a11 a12 a13 a14 a15 a16 a17 a18 a19 a20 a21 a22 a23 a24 a25 a26 r32.2.1 r32.2.2.1 r32.2.2.2 a30).bind fun ⟨r33_0, r33_1, r33_2, r33_3, r33_4, r33_5, r33_6, r33_7, r33_8, r33_9, r33_10, r33_11, r33_12, r33_13, r33_14, r33_15, r33_16, r33_17, r33_18, r33_19⟩ =>
 (D_drive_Driver_turn_2 r33_0 r33_1 r33_2 r33_3 r33_4 r33_5 r33_6 r33_7 r33_8 r33_9 r33_10 r33_11 r33_12 r33_13 r33_14 r33_15 r33_16 r33_18 r33_19 a18 a19 a20 a21 a22 a23 a24 a25 a26 r32.2.1 r32.2.2.1 r32.2.2.2 r33_17).bind fun ⟨r34_0, r34_1, r34_2, r34_3, r34_4, r34_5, r34_6, r34_7, r34_8, r34_9, r34_10, r34_11, r34_12, r34_13, r34_14, r34_15, r34_16, r34_17, r34_18⟩ =>
 (D_meter_Meter_Drop r31.1 r32.2.1 r32.2.2.1 r32.2.2.2).bind fun r35 =>
 some ((r34_0, r34_1, r34_2, r34_3, r34_4, r34_5, r34_6, r34_7, r34_8, r34_9, r34_10, r34_11, r34_12, r34_13, r34_14, r34_15, r34_16, r35.2.1, r35.2.2.1, r35.2.2.2, r34_18))
/- (*backstitch/drive.Driver).Do -/
def D_drive_Driver_Do_3 (a0 a1 a2 a3 a4 a5 a6 a7 a8 a9 a10 a11 a12 a13 a14 a15 a16 a17 a18 : Int) (a19 a20 : List Int) (a21 a22 : LO) (a23 : List Int) (a24 a25 a26 a27 a28 a29 a30 : Int) (a31 : List Int) : Op (Int × Int × Int × Int × Int × Int × Int × Int × Int × Int × Int × Int × Int × Int × Int × Int × Int × Int × Int × Int × Int × List Int) :=
 (D_drive_Driver_baseline_2 a2 a3 a4 a5 a6 a7 a8 a9 a10 a11 a12 a13 a14 a15 a16 a17 a18 a19 a20 a21 a22 a23 a24 a25 a26 a27 a28 a29 a30 a31).bind fun r32 =>
 cond (r32)
  ((D_drive_Driver_plain_2 a0 a1 a2 a3 a4 a5 a6 a7 a8 a9 a10 a11 a12 a13 a14 a15 a16 a17 a18 a19 a20 a21 a22 a23 a24 a25 a26 a27 a28 a29 a30 a31).bind fun ⟨r33_0, r33_1, r33_2, r33_3, r33_4, r33_5, r33_6, r33_7, r33_8, r33_9, r33_10, r33_11, r33_12, r33_13, r33_14, r33_15, r33_16, r33_17, r33_18, r33_19, r33_20, r33_21⟩ =>
  some ((r33_0, r33_1, r33_2, r33_3, r33_4, r33_5, r33_6, r33_7, r33_8, r33_9, r33_10, r33_11, r33_12, r33_13, r33_14, r33_15, r33_16, r33_17, r33_18, r33_19, r33_20, r33_21)))
  ((D_drive_Driver_Spot_3 a2 a3 a4 a5 a6 a7 a8 a9 a10 a11 a12 a13 a14 a15 a16 a17 a18 a19 a20 a21 a22 a23 a24 a25 a26 a27 a28 a29 a30 a31).bind fun r34 =>
  (D_machine_At a11 r34.1 r34.2.1 r34.2.2).bind fun r35 =>
  caseS r35 (fun u36 =>
   some ((2, a2, a3, a4, a5, a6, a7, a8, a9, a10, a11, a12, a13, a14, a15, a16, a17, a18, a28, a29, a30, a31)))
   (fun w37 =>
   (D_machine_Machine_Do a0 a1 w37.1 w37.2.1 w37.2.2.1 0 w37.2.2.2).bind fun r38 =>
   cond (decide (r38.1 ≠ 0))
    (some ((r38.1, a2, a3, a4, a5, a6, a7, a8, a9, a10, a11, a12, a13, a14, a15, a16, a17, a18, a28, a29, a30, a31)))
    ((D_drive_Driver_moves_2 a2 a3 a4 a5 a6 a7 a8 a9 a10 a11 a12 a13 a14 a15 a16 a17 a18 a19 a20 a21 a22 a23 a24 a25 a26 a27 a28 a29 a30 a31).bind fun r39 =>
    (ix a0 8).bind fun j40 =>
    cond (Nat.beq j40 0)
     none
     (cond (Nat.beq ((j40 - 1)) 0)
      ((D_drive_Driver_advance_2 a1 a2 a3 a4 a5 a6 a7 a8 a9 a10 a11 a12 a13 a14 a15 a16 a17 a18 a19 a20 a21 a22 a23 a24 a25 a26 a27 a28 a29 a30 a31).bind fun ⟨r41_0, r41_1, r41_2, r41_3, r41_4, r41_5, r41_6, r41_7, r41_8, r41_9, r41_10, r41_11, r41_12, r41_13, r41_14, r41_15, r41_16, r41_17⟩ =>
      (D_machine_Machine_Spot r38.2.1 r38.2.2.1 r38.2.2.2.1 r38.2.2.2.2.1 r38.2.2.2.2.2).bind fun r42 =>
      some ((0, r41_0, r41_1, r41_2, r41_3, r41_4, r41_5, r41_6, r41_7, r41_8, r41_9, r42.1, r42.2.1, r41_12, r41_13, r41_14, r41_15, r41_16, a28, a29, a30, r41_17)))
      (cond (Nat.beq (((j40 - 1) - 1)) 0)
       ((D_drive_Driver_store_2 a1 a2 a3 a4 a5 a6 a7 a8 a9 a10 a11 a12 a13 a14 a15 a16 a17 a18 a19 a20 a21 a22 a23 a24 a25 a26 a27 a28 a29 a30 a31).bind fun r43 =>
       (D_machine_Machine_Spot r38.2.1 r38.2.2.1 r38.2.2.2.1 r38.2.2.2.2.1 r38.2.2.2.2.2).bind fun r44 =>
       some ((0, a2, a3, a4, a5, a6, a7, a8, a9, a10, a11, r44.1, r44.2.1, a14, a15, a16, a17, a18, r43.1, r43.2.1, r43.2.2.1, r43.2.2.2)))
       (cond (Nat.beq ((((j40 - 1) - 1) - 1)) 0)
        ((D_drive_Driver_restore_2 a1 a2 a3 a4 a5 a6 a7 a8 a9 a10 a11 a12 a13 a14 a15 a16 a17 a18 a19 a20 a21 a22 a23 a24 a25 a26 a27 a28 a29 a30 a31).bind fun r45 =>
        (D_machine_Machine_Spot r38.2.1 r38.2.2.1 r38.2.2.2.1 r38.2.2.2.2.1 r38.2.2.2.2.2).bind fun r46 =>
        some ((0, a2, a3, a4, a5, a6, a7, a8, a9, a10, a11, r46.1, r46.2.1, a14, a15, a16, a17, a18, a28, a29, a30, r45)))
        (cond (Nat.beq (((((j40 - 1) - 1) - 1) - 1)) 0)
         ((D_drive_Driver_free_2 a1 a2 a3 a4 a5 a6 a7 a8 a9 a10 a11 a12 a13 a14 a15 a16 a17 a18 a19 a20 a21 a22 a23 a24 a25 a26 a27 a28 a29 a30 a31).bind fun r47 =>
         (D_machine_Machine_Spot r38.2.1 r38.2.2.1 r38.2.2.2.1 r38.2.2.2.2.1 r38.2.2.2.2.2).bind fun r48 =>
         some ((0, a2, a3, a4, a5, a6, a7, a8, a9, a10, a11, r48.1, r48.2.1, a14, a15, a16, a17, a18, r47.1, r47.2.1, r47.2.2.1, r47.2.2.2)))
         (cond (Nat.beq ((((((j40 - 1) - 1) - 1) - 1) - 1)) 0)
          ((D_drive_Driver_seed_2 a1 a2 a3 a4 a5 a6 a7 a8 a9 a10 a11 a12 a13 a14 a15 a16 a17 a18 a19 a20 a21 a22 a23 a24 a25 a26 a27 a28 a29 a30 a31).bind fun ⟨r49_0, r49_1, r49_2, r49_3, r49_4, r49_5, r49_6, r49_7, r49_8, r49_9, r49_10, r49_11, r49_12, r49_13, r49_14, r49_15, r49_16, r49_17, r49_18, r49_19, r49_20⟩ =>
          (D_machine_Machine_Spot r38.2.1 r38.2.2.1 r38.2.2.2.1 r38.2.2.2.2.1 r38.2.2.2.2.2).bind fun r50 =>
          some ((0, r49_0, r49_1, r49_2, r49_3, r49_4, r49_5, r49_6, r49_7, r49_8, r49_9, r50.1, r50.2.1, r49_12, r49_13, r49_14, r49_15, r49_16, r49_17, r49_18, r49_19, r49_20)))
          (cond (Nat.beq (((((((j40 - 1) - 1) - 1) - 1) - 1) - 1)) 0)
           ((D_drive_Driver_both_2 a1 a2 a3 a4 a5 a6 a7 a8 a9 a10 a11 a12 a13 a14 a15 a16 a17 a18 a19 a20 a21 a22 a23 a24 a25 a26 a27 a28 a29 a30 a31).bind fun ⟨r51_0, r51_1, r51_2, r51_3, r51_4, r51_5, r51_6, r51_7, r51_8, r51_9, r51_10, r51_11, r51_12, r51_13, r51_14, r51_15, r51_16, r51_17, r51_18, r51_19, r51_20⟩ =>
           (D_machine_Machine_Spot r38.2.1 r38.2.2.1 r38.2.2.2.1 r38.2.2.2.2.1 r38.2.2.2.2.2).bind fun r52 =>
           some ((0, r51_0, r51_1, r51_2, r51_3, r51_4, r51_5, r51_6, r51_7, r51_8, r51_9, r52.1, r52.2.1, r51_12, r51_13, r51_14, r51_15, r51_16, r51_17, r51_18, r51_19, r51_20)))
           (cond (Nat.beq ((((((((j40 - 1) - 1) - 1) - 1) - 1) - 1) - 1)) 0)
            ((D_drive_Driver_reverse_2 a1 a2 a3 a4 a5 a6 a7 a8 a9 a10 a11 a12 a13 a14 a15 a16 a17 a18 a19 a20 a21 a22 a23 a24 a25 a26 a27 a28 a29 a30 a31).bind fun ⟨r53_0, r53_1, r53_2, r53_3, r53_4, r53_5, r53_6, r53_7, r53_8, r53_9, r53_10, r53_11, r53_12, r53_13, r53_14, r53_15, r53_16, r53_17, r53_18, r53_19, r53_20⟩ =>
            (D_machine_Machine_Spot r38.2.1 r38.2.2.1 r38.2.2.2.1 r38.2.2.2.2.1 r38.2.2.2.2.2).bind fun r54 =>
            some ((0, r53_0, r53_1, r53_2, r53_3, r53_4, r53_5, r53_6, r53_7, r53_8, r53_9, r54.1, r54.2.1, r53_12, r53_13, r53_14, r53_15, r53_16, r53_17, r53_18, r53_19, r53_20)))
            none))))))))))
/- (*backstitch/engine.Engine).Step -/
def D_engine_Engine_Step_11 (a0 : Int) (a1 a2 : Bool) (a3 a4 a5 a6 a7 a8 a9 a10 a11 a12 a13 a14 a15 a16 a17 a18 a19 : Int) (a20 a21 : List Int) (a22 a23 : LO) (a24 : List Int) (a25 a26 a27 a28 a29 a30 a31 : Int) (a32 : List Int) : Op (Int × Int × Bool × Int × Int × Int × Int × Int × Int × Int × Int × Int × Int × Int × Int × Int × Int × Int × Int × Int × Int × Int × Int × Int × List Int) :=
 cond (a2)
  (some ((0, 0, false, 14, a3, a4, a5, a6, a7, a8, a9, a10, a11, a12, a13, a14, a15, a16, a17, a18, a19, a29, a30, a31, a32)))
  ((D_engine_offline_3 a0 a1 a2 a3 a4 a5 a6 a7 a8 a9 a10 a11 a12 a13 a14 a15 a16 a17 a18 a19 a20 a21 a22 a23 a24 a25 a26 a27 a28 a29 a30 a31 a32).bind fun r33 =>
  cond (!r33.2.2)
   (some ((0, 0, false, 0, a3, a4, a5, a6, a7, a8, a9, a10, a11, a12, a13, a14, a15, a16, a17, a18, a19, a29, a30, a31, a32)))
   ((D_drive_Driver_Do_3 r33.1 r33.2.1 a3 a4 a5 a6 a7 a8 a9 a10 a11 a12 a13 a14 a15 a16 a17 a18 a19 a20 a21 a22 a23 a24 a25 a26 a27 a28 a29 a30 a31 a32).bind fun ⟨r34_0, r34_1, r34_2, r34_3, r34_4, r34_5, r34_6, r34_7, r34_8, r34_9, r34_10, r34_11, r34_12, r34_13, r34_14, r34_15, r34_16, r34_17, r34_18, r34_19, r34_20, r34_21⟩ =>
   cond (decide (r34_0 ≠ 0))
    (some ((0, 0, false, r34_0, r34_1, r34_2, r34_3, r34_4, r34_5, r34_6, r34_7, r34_8, r34_9, r34_10, r34_11, r34_12, r34_13, r34_14, r34_15, r34_16, r34_17, r34_18, r34_19, r34_20, r34_21)))
    (some ((r33.1, r33.2.1, true, 0, r34_1, r34_2, r34_3, r34_4, r34_5, r34_6, r34_7, r34_8, r34_9, r34_10, r34_11, r34_12, r34_13, r34_14, r34_15, r34_16, r34_17, r34_18, r34_19, r34_20, r34_21)))))
def D_engine_Engine_Run_11_L0 (a0 : Int) (a1 a2 : Bool) (a20 a21 : List Int) (a22 a23 : LO) (a24 : List Int) (a25 a26 a27 a28 : Int) : (Int × Int × Int × Int × Int × Int × Int × Int × Int × Int × Int × Int × Int × Int × Int × Int × Int × Int × Int × Int × Int × List Int) → Op ((Int × Int × Int × Int × Int × Int × Int × Int × Int × Int × Int × Int × Int × Int × Int × Int × Int × Int × Int × Int × Int × List Int) ⊕ (Int × Int × Int × Int × Int × Int × Int × Int × Int × Int × Int × Int × Int × Int × Int × Int × Int × Int × Int × Int × Int × Int × List Int)) := fun ⟨s55_0, s55_1, s55_2, s55_3, s55_4, s55_5, s55_6, s55_7, s55_8, s55_9, s55_10, s55_11, s55_12, s55_13, s55_14, s55_15, s55_16, s55_17, s55_18, s55_19, s55_20, s55_21⟩ =>
 (D_engine_Engine_Step_11 a0 a1 a2 s55_1 s55_2 s55_3 s55_4 s55_5 s55_6 s55_7 s55_8 s55_9 s55_10 s55_11 s55_12 s55_13 s55_14 s55_15 s55_16 s55_17 a20 a21 a22 a23 a24 a25 a26 a27 a28 s55_18 s55_19 s55_20 s55_21).bind fun ⟨r56_0, r56_1, r56_2, r56_3, r56_4, r56_5, r56_6, r56_7, r56_8, r56_9, r56_10, r56_11, r56_12, r56_13, r56_14, r56_15, r56_16, r56_17, r56_18, r56_19, r56_20, r56_21, r56_22, r56_23, r56_24⟩ =>
 cond (decide (r56_3 ≠ 0))
  (some (.inr (((0, r56_3, r56_4, r56_5, r56_6, r56_7, r56_8, r56_9, r56_10, r56_11, r56_12, r56_13, r56_14, r56_15, r56_16, r56_17, r56_18, r56_19, r56_20, r56_21, r56_22, r56_23, r56_24)))))
  (cond (r56_2)
   (some (.inl ((wI (s55_0 + 1), r56_4, r56_5, r56_6, r56_7, r56_8, r56_9, r56_10, r56_11, r56_12, r56_13, r56_14, r56_15, r56_16, r56_17, r56_18, r56_19, r56_20, r56_21, r56_22, r56_23, r56_24))))
   (some (.inr (((s55_0, 0, r56_4, r56_5, r56_6, r56_7, r56_8, r56_9, r56_10, r56_11, r56_12, r56_13, r56_14, r56_15, r56_16, r56_17, r56_18, r56_19, r56_20, r56_21, r56_22, r56_23, r56_24))))))
/- (*backstitch/engine.Engine).Run -/
def D_engine_Engine_Run_11 (a0 : Int) (a1 a2 : Bool) (a3 a4 a5 a6 a7 a8 a9 a10 a11 a12 a13 a14 a15 a16 a17 a18 a19 : Int) (a20 a21 : List Int) (a22 a23 : LO) (a24 : List Int) (a25 a26 a27 a28 a29 a30 a31 : Int) (a32 : List Int) : Op (Int × Int × Int × Int × Int × Int × Int × Int × Int × Int × Int × Int × Int × Int × Int × Int × Int × Int × Int × Int × Int × Int × List Int) :=
 (loopN (D_engine_Engine_Run_11_L0 a0 a1 a2 a20 a21 a22 a23 a24 a25 a26 a27 a28) BIG ((0, a3, a4, a5, a6, a7, a8, a9, a10, a11, a12, a13, a14, a15, a16, a17, a18, a19, a29, a30, a31, a32))).bind fun ⟨r57_0, r57_1, r57_2, r57_3, r57_4, r57_5, r57_6, r57_7, r57_8, r57_9, r57_10, r57_11, r57_12, r57_13, r57_14, r57_15, r57_16, r57_17, r57_18, r57_19, r57_20, r57_21, r57_22⟩ =>
 some ((r57_0, r57_1, r57_2, r57_3, r57_4, r57_5, r57_6, r57_7, r57_8, r57_9, r57_10, r57_11, r57_12, r57_13, r57_14, r57_15, r57_16, r57_17, r57_18, r57_19, r57_20, r57_21, r57_22))
/- (*backstitch/engine.Engine).Result -/
def D_engine_Engine_Result_11 (a0 : Int) (a1 a2 : Bool) (a3 a4 a5 a6 a7 a8 a9 a10 a11 a12 a13 a14 a15 a16 a17 a18 a19 : Int) (a20 a21 : List Int) (a22 a23 : LO) (a24 : List Int) (a25 a26 a27 a28 a29 a30 a31 : Int) (a32 : List Int) : Op (Int × Int × (List Int) × List Int) :=
 (D_engine_Engine_own_11 a0 a1 a2 a3 a4 a5 a6 a7 a8 a9 a10 a11 a12 a13 a14 a15 a16 a17 a18 a19 a20 a21 a22 a23 a24 a25 a26 a27 a28 a29 a30 a31 a32).bind fun r33 =>
 (D_drive_Driver_Result_3 a3 a4 a5 a6 a7 a8 a9 a10 a11 a12 a13 a14 a15 a16 a17 a18 a19 a20 a21 a22 a23 a24 a25 a26 a27 a28 a29 a30 a31 a32).bind fun r34 =>
 some ((r34.1, r34.2.1, r34.2.2.1, r34.2.2.2))
/- (*backstitch/engine.Engine).still -/
def D_engine_Engine_still_8 (a0 : Int) (a1 a2 : Bool) (a3 a4 a5 a6 a7 a8 a9 a10 a11 a12 a13 a14 a15 a16 a17 a18 a19 : Int) (a20 a21 : List Int) (a22 a23 : LO) (a24 : List Int) (a25 a26 a27 a28 a29 a30 a31 : Int) (a32 : List Int) : Op (Bool) :=
 cond (a2)
  (some false)
  ((D_engine_offline_3 a0 a1 a2 a3 a4 a5 a6 a7 a8 a9 a10 a11 a12 a13 a14 a15 a16 a17 a18 a19 a20 a21 a22 a23 a24 a25 a26 a27 a28 a29 a30 a31 a32).bind fun r33 =>
  some !r33.2.2)
/- (*backstitch/engine.Engine).Done -/
def D_engine_Engine_Done_8 (a0 : Int) (a1 a2 : Bool) (a3 a4 a5 a6 a7 a8 a9 a10 a11 a12 a13 a14 a15 a16 a17 a18 a19 : Int) (a20 a21 : List Int) (a22 a23 : LO) (a24 : List Int) (a25 a26 a27 a28 a29 a30 a31 : Int) (a32 : List Int) : Op (Bool) :=
 (D_engine_Engine_still_8 a0 a1 a2 a3 a4 a5 a6 a7 a8 a9 a10 a11 a12 a13 a14 a15 a16 a17 a18 a19 a20 a21 a22 a23 a24 a25 a26 a27 a28 a29 a30 a31 a32).bind fun r33 =>
 cond (r33)
  ((D_engine_Engine_Spot_8 a0 a1 a2 a3 a4 a5 a6 a7 a8 a9 a10 a11 a12 a13 a14 a15 a16 a17 a18 a19 a20 a21 a22 a23 a24 a25 a26 a27 a28 a29 a30 a31 a32).bind fun r34 =>
  some (decide (r34.2.1 = 0)))
  (some false)
/- (*backstitch/engine.Engine).own -/
def D_engine_Engine_own_12 (a0 : Int) (a1 a2 : Bool) (a3 a4 a5 a6 a7 a8 a9 a10 a11 a12 a13 a14 a15 a16 a17 a18 a19 : Int) (a20 a21 : List Int) (a22 a23 : LO) (a24 : List Int) (a25 a26 a27 a28 a29 a30 a31 : Int) (a32 : List Int) : Op (Unit) :=
 some ()
/- (*backstitch/engine.Engine).Len -/
def D_engine_Engine_Len_8 (a0 : Int) (a1 a2 : Bool) (a3 a4 a5 a6 a7 a8 a9 a10 a11 a12 a13 a14 a15 a16 a17 a18 a19 : Int) (a20 a21 : List Int) (a22 a23 : LO) (a24 : List Int) (a25 a26 a27 a28 a29 a30 a31 : Int) (a32 : List Int) : Op (Int) :=
 (D_engine_Engine_own_12 a0 a1 a2 a3 a4 a5 a6 a7 a8 a9 a10 a11 a12 a13 a14 a15 a16 a17 a18 a19 a20 a21 a22 a23 a24 a25 a26 a27 a28 a29 a30 a31 a32).bind fun r33 =>
 (D_drive_Driver_Len_3 a3 a4 a5 a6 a7 a8 a9 a10 a11 a12 a13 a14 a15 a16 a17 a18 a19 a20 a21 a22 a23 a24 a25 a26 a27 a28 a29 a30 a31 a32).bind fun r34 =>
 some r34
/- (*backstitch/engine.Engine).Spot -/
def D_engine_Engine_Spot_9 (a0 : Int) (a1 a2 : Bool) (a3 a4 a5 a6 a7 a8 a9 a10 a11 a12 a13 a14 a15 a16 a17 a18 a19 : Int) (a20 a21 : List Int) (a22 a23 : LO) (a24 : List Int) (a25 a26 a27 a28 a29 a30 a31 : Int) (a32 : List Int) : Op (Int × Int × List Int) :=
 (D_engine_Engine_own_12 a0 a1 a2 a3 a4 a5 a6 a7 a8 a9 a10 a11 a12 a13 a14 a15 a16 a17 a18 a19 a20 a21 a22 a23 a24 a25 a26 a27 a28 a29 a30 a31 a32).bind fun r33 =>
 (D_drive_Driver_Spot_3 a3 a4 a5 a6 a7 a8 a9 a10 a11 a12 a13 a14 a15 a16 a17 a18 a19 a20 a21 a22 a23 a24 a25 a26 a27 a28 a29 a30 a31 a32).bind fun r34 =>
 some ((r34.1, r34.2.1, r34.2.2))
/- backstitch/engine.online -/
def D_engine_online_3 (a0 : Int) (a1 a2 : Bool) (a3 a4 a5 a6 a7 a8 a9 a10 a11 a12 a13 a14 a15 a16 a17 a18 a19 : Int) (a20 a21 : List Int) (a22 a23 : LO) (a24 : List Int) (a25 a26 a27 a28 a29 a30 a31 : Int) (a32 : List Int) : Op (Int × Int × Bool) :=
 (D_engine_Engine_Len_8 a0 a1 a2 a3 a4 a5 a6 a7 a8 a9 a10 a11 a12 a13 a14 a15 a16 a17 a18 a19 a20 a21 a22 a23 a24 a25 a26 a27 a28 a29 a30 a31 a32).bind fun r33 =>
 (D_engine_Engine_Spot_9 a0 a1 a2 a3 a4 a5 a6 a7 a8 a9 a10 a11 a12 a13 a14 a15 a16 a17 a18 a19 a20 a21 a22 a23 a24 a25 a26 a27 a28 a29 a30 a31 a32).bind fun r34 =>
 (D_stride_Next r33 a1 r34.1 r34.2.1 r34.2.2).bind fun r35 =>
 some ((r35.1, r35.2.1, r35.2.2))
/- (*backstitch/engine.Engine).Step -/
def D_engine_Engine_Step_12 (a0 : Int) (a1 a2 : Bool) (a3 a4 a5 a6 a7 a8 a9 a10 a11 a12 a13 a14 a15 a16 a17 a18 a19 : Int) (a20 a21 : List Int) (a22 a23 : LO) (a24 : List Int) (a25 a26 a27 a28 a29 a30 a31 : Int) (a32 : List Int) : Op (Int × Int × Bool × Int × Int × Int × Int × Int × Int × Int × Int × Int × Int × Int × Int × Int × Int × Int × Int × Int × Int × Int × Int × Int × List Int) :=
 cond (a2)
  (some ((0, 0, false, 14, a3, a4, a5, a6, a7, a8, a9, a10, a11, a12, a13, a14, a15, a16, a17, a18, a19, a29, a30, a31, a32)))
  ((D_engine_online_3 a0 a1 a2 a3 a4 a5 a6 a7 a8 a9 a10 a11 a12 a13 a14 a15 a16 a17 a18 a19 a20 a21 a22 a23 a24 a25 a26 a27 a28 a29 a30 a31 a32).bind fun r33 =>
  cond (!r33.2.2)
   (some ((0, 0, false, 0, a3, a4, a5, a6, a7, a8, a9, a10, a11, a12, a13, a14, a15, a16, a17, a18, a19, a29, a30, a31, a32)))
   ((D_drive_Driver_Do_3 r33.1 r33.2.1 a3 a4 a5 a6 a7 a8 a9 a10 a11 a12 a13 a14 a15 a16 a17 a18 a19 a20 a21 a22 a23 a24 a25 a26 a27 a28 a29 a30 a31 a32).bind fun ⟨r34_0, r34_1, r34_2, r34_3, r34_4, r34_5, r34_6, r34_7, r34_8, r34_9, r34_10, r34_11, r34_12, r34_13, r34_14, r34_15, r34_16, r34_17, r34_18, r34_19, r34_20, r34_21⟩ =>
   cond (decide (r34_0 ≠ 0))
    (some ((0, 0, false, r34_0, r34_1, r34_2, r34_3, r34_4, r34_5, r34_6, r34_7, r34_8, r34_9, r34_10, r34_11, r34_12, r34_13, r34_14, r34_15, r34_16, r34_17, r34_18, r34_19, r34_20, r34_21)))
    (some ((r33.1, r33.2.1, true, 0, r34_1, r34_2, r34_3, r34_4, r34_5, r34_6, r34_7, r34_8, r34_9, r34_10, r34_11, r34_12, r34_13, r34_14, r34_15, r34_16, r34_17, r34_18, r34_19, r34_20, r34_21)))))
def D_engine_Engine_Run_12_L0 (a0 : Int) (a1 a2 : Bool) (a20 a21 : List Int) (a22 a23 : LO) (a24 : List Int) (a25 a26 a27 a28 : Int) : (Int × Int × Int × Int × Int × Int × Int × Int × Int × Int × Int × Int × Int × Int × Int × Int × Int × Int × Int × Int × Int × List Int) → Op ((Int × Int × Int × Int × Int × Int × Int × Int × Int × Int × Int × Int × Int × Int × Int × Int × Int × Int × Int × Int × Int × List Int) ⊕ (Int × Int × Int × Int × Int × Int × Int × Int × Int × Int × Int × Int × Int × Int × Int × Int × Int × Int × Int × Int × Int × Int × List Int)) := fun ⟨s55_0, s55_1, s55_2, s55_3, s55_4, s55_5, s55_6, s55_7, s55_8, s55_9, s55_10, s55_11, s55_12, s55_13, s55_14, s55_15, s55_16, s55_17, s55_18, s55_19, s55_20, s55_21⟩ =>
 (D_engine_Engine_Step_12 a0 a1 a2 s55_1 s55_2 s55_3 s55_4 s55_5 s55_6 s55_7 s55_8 s55_9 s55_10 s55_11 s55_12 s55_13 s55_14 s55_15 s55_16 s55_17 a20 a21 a22 a23 a24 a25 a26 a27 a28 s55_18 s55_19 s55_20 s55_21).bind fun ⟨r56_0, r56_1, r56_2, r56_3, r56_4, r56_5, r56_6, r56_7, r56_8, r56_9, r56_10, r56_11, r56_12, r56_13, r56_14, r56_15, r56_16, r56_17, r56_18, r56_19, r56_20, r56_21, r56_22, r56_23, r56_24⟩ =>
 cond (decide (r56_3 ≠ 0))
  (some (.inr (((0, r56_3, r56_4, r56_5, r56_6, r56_7, r56_8, r56_9, r56_10, r56_11, r56_12, r56_13, r56_14, r56_15, r56_16, r56_17, r56_18, r56_19, r56_20, r56_21, r56_22, r56_23, r56_24)))))
  (cond (r56_2)
   (some (.inl ((wI (s55_0 + 1), r56_4, r56_5, r56_6, r56_7, r56_8, r56_9, r56_10, r56_11, r56_12, r56_13, r56_14, r56_15, r56_16, r56_17, r56_18, r56_19, r56_20, r56_21, r56_22, r56_23, r56_24))))
   (some (.inr (((s55_0, 0, r56_4, r56_5, r56_6, r56_7, r56_8, r56_9, r56_10, r56_11, r56_12, r56_13, r56_14, r56_15, r56_16, r56_17, r56_18, r56_19, r56_20, r56_21, r56_22, r56_23, r56_24))))))
/- (*backstitch/engine.Engine).Run -/
def D_engine_Engine_Run_12 (a0 : Int) (a1 a2 : Bool) (a3 a4 a5 a6 a7 a8 a9 a10 a11 a12 a13 a14 a15 a16 a17 a18 a19 : Int) (a20 a21 : List Int) (a22 a23 : LO) (a24 : List Int) (a25 a26 a27 a28 a29 a30 a31 : Int) (a32 : List Int) : Op (Int × Int × Int × Int × Int × Int × Int × Int × Int × Int × Int × Int × Int × Int × Int × Int × Int × Int × Int × Int × Int × Int × List Int) :=
 (loopN (D_engine_Engine_Run_12_L0 a0 a1 a2 a20 a21 a22 a23 a24 a25 a26 a27 a28) BIG ((0, a3, a4, a5, a6, a7, a8, a9, a10, a11, a12, a13, a14, a15, a16, a17, a18, a19, a29, a30, a31, a32))).bind fun ⟨r57_0, r57_1, r57_2, r57_3, r57_4, r57_5, r57_6, r57_7, r57_8, r57_9, r57_10, r57_11, r57_12, r57_13, r57_14, r57_15, r57_16, r57_17, r57_18, r57_19, r57_20, r57_21, r57_22⟩ =>
 some ((r57_0, r57_1, r57_2, r57_3, r57_4, r57_5, r57_6, r57_7, r57_8, r57_9, r57_10, r57_11, r57_12, r57_13, r57_14, r57_15, r57_16, r57_17, r57_18, r57_19, r57_20, r57_21, r57_22))
/- (*backstitch/engine.Engine).Result -/
def D_engine_Engine_Result_12 (a0 : Int) (a1 a2 : Bool) (a3 a4 a5 a6 a7 a8 a9 a10 a11 a12 a13 a14 a15 a16 a17 a18 a19 : Int) (a20 a21 : List Int) (a22 a23 : LO) (a24 : List Int) (a25 a26 a27 a28 a29 a30 a31 : Int) (a32 : List Int) : Op (Int × Int × (List Int) × List Int) :=
 (D_engine_Engine_own_12 a0 a1 a2 a3 a4 a5 a6 a7 a8 a9 a10 a11 a12 a13 a14 a15 a16 a17 a18 a19 a20 a21 a22 a23 a24 a25 a26 a27 a28 a29 a30 a31 a32).bind fun r33 =>
 (D_drive_Driver_Result_3 a3 a4 a5 a6 a7 a8 a9 a10 a11 a12 a13 a14 a15 a16 a17 a18 a19 a20 a21 a22 a23 a24 a25 a26 a27 a28 a29 a30 a31 a32).bind fun r34 =>
 some ((r34.1, r34.2.1, r34.2.2.1, r34.2.2.2))
/- (*backstitch/engine.Engine).still -/
def D_engine_Engine_still_9 (a0 : Int) (a1 a2 : Bool) (a3 a4 a5 a6 a7 a8 a9 a10 a11 a12 a13 a14 a15 a16 a17 a18 a19 : Int) (a20 a21 : List Int) (a22 a23 : LO) (a24 : List Int) (a25 a26 a27 a28 a29 a30 a31 : Int) (a32 : List Int) : Op (Bool) :=
 cond (a2)
  (some false)
  ((D_engine_online_3 a0 a1 a2 a3 a4 a5 a6 a7 a8 a9 a10 a11 a12 a13 a14 a15 a16 a17 a18 a19 a20 a21 a22 a23 a24 a25 a26 a27 a28 a29 a30 a31 a32).bind fun r33 =>
  some !r33.2.2)
/- (*backstitch/engine.Engine).Done -/
def D_engine_Engine_Done_9 (a0 : Int) (a1 a2 : Bool) (a3 a4 a5 a6 a7 a8 a9 a10 a11 a12 a13 a14 a15 a16 a17 a18 a19 : Int) (a20 a21 : List Int) (a22 a23 : LO) (a24 : List Int) (a25 a26 a27 a28 a29 a30 a31 : Int) (a32 : List Int) : Op (Bool) :=
 (D_engine_Engine_still_9 a0 a1 a2 a3 a4 a5 a6 a7 a8 a9 a10 a11 a12 a13 a14 a15 a16 a17 a18 a19 a20 a21 a22 a23 a24 a25 a26 a27 a28 a29 a30 a31 a32).bind fun r33 =>
 cond (r33)
  ((D_engine_Engine_Spot_9 a0 a1 a2 a3 a4 a5 a6 a7 a8 a9 a10 a11 a12 a13 a14 a15 a16 a17 a18 a19 a20 a21 a22 a23 a24 a25 a26 a27 a28 a29 a30 a31 a32).bind fun r34 =>
  some (decide (r34.2.1 = 0)))
  (some false)
/- (*backstitch/engine.Engine).own -/
def D_engine_Engine_own_13 (a0 : Int) (a1 a2 : Bool) (a3 a4 a5 a6 a7 a8 a9 a10 a11 a12 a13 a14 a15 a16 a17 a18 a19 : Int) (a20 a21 : List Int) (a22 a23 : LO) (a24 : List Int) (a25 a26 a27 a28 a29 a30 a31 : Int) (a32 : List Int) : Op (Unit) :=
 some ()
/- (*backstitch/engine.Engine).Spot -/
def D_engine_Engine_Spot_10 (a0 : Int) (a1 a2 : Bool) (a3 a4 a5 a6 a7 a8 a9 a10 a11 a12 a13 a14 a15 a16 a17 a18 a19 : Int) (a20 a21 : List Int) (a22 a23 : LO) (a24 : List Int) (a25 a26 a27 a28 a29 a30 a31 : Int) (a32 : List Int) : Op (Int × Int × List Int) :=
 (D_engine_Engine_own_13 a0 a1 a2 a3 a4 a5 a6 a7 a8 a9 a10 a11 a12 a13 a14 a15 a16 a17 a18 a19 a20 a21 a22 a23 a24 a25 a26 a27 a28 a29 a30 a31 a32).bind fun r33 =>
 (D_drive_Driver_Spot_3 a3 a4 a5 a6 a7 a8 a9 a10 a11 a12 a13 a14 a15 a16 a17 a18 a19 a20 a21 a22 a23 a24 a25 a26 a27 a28 a29 a30 a31 a32).bind fun r34 =>
 some ((r34.1, r34.2.1, r34.2.2))
/- (*backstitch/engine.Engine).Len -/
def D_engine_Engine_Len_9 (a0 : Int) (a1 a2 : Bool) (a3 a4 a5 a6 a7 a8 a9 a10 a11 a12 a13 a14 a15 a16 a17 a18 a19 : Int) (a20 a21 : List Int) (a22 a23 : LO) (a24 : List Int) (a25 a26 a27 a28 a29 a30 a31 : Int) (a32 : List Int) : Op (Int) :=
 (D_engine_Engine_own_13 a0 a1 a2 a3 a4 a5 a6 a7 a8 a9 a10 a11 a12 a13 a14 a15 a16 a17 a18 a19 a20 a21 a22 a23 a24 a25 a26 a27 a28 a29 a30 a31 a32).bind fun r33 =>
 (D_drive_Driver_Len_3 a3 a4 a5 a6 a7 a8 a9 a10 a11 a12 a13 a14 a15 a16 a17 a18 a19 a20 a21 a22 a23 a24 a25 a26 a27 a28 a29 a30 a31 a32).bind fun r34 =>
 some r34
/- backstitch/engine.baseline -/
def D_engine_baseline_3 (a0 : Int) (a1 a2 : Bool) (a3 a4 a5 a6 a7 a8 a9 a10 a11 a12 a13 a14 a15 a16 a17 a18 a19 : Int) (a20 a21 : List Int) (a22 a23 : LO) (a24 : List Int) (a25 a26 a27 a28 a29 a30 a31 : Int) (a32 : List Int) : Op (Int × Bool) :=
 (D_engine_Engine_Spot_10 a0 a1 a2 a3 a4 a5 a6 a7 a8 a9 a10 a11 a12 a13 a14 a15 a16 a17 a18 a19 a20 a21 a22 a23 a24 a25 a26 a27 a28 a29 a30 a31 a32).bind fun r33 =>
 (((cond (decide (r33.2.1 < 0))
  ((D_engine_Engine_Len_9 a0 a1 a2 a3 a4 a5 a6 a7 a8 a9 a10 a11 a12 a13 a14 a15 a16 a17 a18 a19 a20 a21 a22 a23 a24 a25 a26 a27 a28 a29 a30 a31 a32).bind fun r34 =>
  some (decide (r33.1 < r34)))
  (some false)) : Op (Bool))).bind fun s35 =>
 cond (s35)
  (some ((8, true)))
  (cond (decide (r33.2.1 < 0))
   (some ((5, true)))
   (cond (decide (0 < r33.2.1))
    (some ((9, true)))
    (some ((0, false)))))
/- (*backstitch/engine.Engine).Step -/
def D_engine_Engine_Step_13 (a0 : Int) (a1 a2 : Bool) (a3 a4 a5 a6 a7 a8 a9 a10 a11 a12 a13 a14 a15 a16 a17 a18 a19 : Int) (a20 a21 : List Int) (a22 a23 : LO) (a24 : List Int) (a25 a26 a27 a28 a29 a30 a31 : Int) (a32 : List Int) : Op (Int × Bool × Int × Int × Int × Int × Int × Int × Int × Int × Int × Int × Int × Int × Int × Int × Int × Int × Int × Int × Int × Int × Int × List Int) :=
 cond (a2)
  (some ((0, false, 14, a3, a4, a5, a6, a7, a8, a9, a10, a11, a12, a13, a14, a15, a16, a17, a18, a19, a29, a30, a31, a32)))
  ((D_engine_baseline_3 a0 a1 a2 a3 a4 a5 a6 a7 a8 a9 a10 a11 a12 a13 a14 a15 a16 a17 a18 a19 a20 a21 a22 a23 a24 a25 a26 a27 a28 a29 a30 a31 a32).bind fun r33 =>
  cond (!r33.2)
   (some ((0, false, 0, a3, a4, a5, a6, a7, a8, a9, a10, a11, a12, a13, a14, a15, a16, a17, a18, a19, a29, a30, a31, a32)))
   ((D_drive_Driver_Do_3 r33.1 0 a3 a4 a5 a6 a7 a8 a9 a10 a11 a12 a13 a14 a15 a16 a17 a18 a19 a20 a21 a22 a23 a24 a25 a26 a27 a28 a29 a30 a31 a32).bind fun ⟨r34_0, r34_1, r34_2, r34_3, r34_4, r34_5, r34_6, r34_7, r34_8, r34_9, r34_10, r34_11, r34_12, r34_13, r34_14, r34_15, r34_16, r34_17, r34_18, r34_19, r34_20, r34_21⟩ =>
   cond (decide (r34_0 ≠ 0))
    (some ((0, false, r34_0, r34_1, r34_2, r34_3, r34_4, r34_5, r34_6, r34_7, r34_8, r34_9, r34_10, r34_11, r34_12, r34_13, r34_14, r34_15, r34_16, r34_17, r34_18, r34_19, r34_20, r34_21)))
    (some ((r33.1, true, 0, r34_1, r34_2, r34_3, r34_4, r34_5, r34_6, r34_7, r34_8, r34_9, r34_10, r34_11, r34_12, r34_13, r34_14, r34_15, r34_16, r34_17, r34_18, r34_19, r34_20, r34_21)))))
def D_engine_Engine_Run_13_L0 (a0 : Int) (a1 a2 : Bool) (a20 a21 : List Int) (a22 a23 : LO) (a24 : List Int) (a25 a26 a27 a28 : Int) : (Int × Int × Int × Int × Int × Int × Int × Int × Int × Int × Int × Int × Int × Int × Int × Int × Int × Int × Int × Int × Int × List Int) → Op ((Int × Int × Int × Int × Int × Int × Int × Int × Int × Int × Int × Int × Int × Int × Int × Int × Int × Int × Int × Int × Int × List Int) ⊕ (Int × Int × Int × Int × Int × Int × Int × Int × Int × Int × Int × Int × Int × Int × Int × Int × Int × Int × Int × Int × Int × Int × List Int)) := fun ⟨s55_0, s55_1, s55_2, s55_3, s55_4, s55_5, s55_6, s55_7, s55_8, s55_9, s55_10, s55_11, s55_12, s55_13, s55_14, s55_15, s55_16, s55_17, s55_18, s55_19, s55_20, s55_21⟩ =>
 (D_engine_Engine_Step_13 a0 a1 a2 s55_1 s55_2 s55_3 s55_4 s55_5 s55_6 s55_7 s55_8 s55_9 s55_10 s55_11 s55_12 s55_13 s55_14 s55_15 s55_16 s55_17 a20 a21 a22 a23 a24 a25 a26 a27 a28 s55_18 s55_19 s55_20 s55_21).bind fun ⟨r56_0, r56_1, r56_2, r56_3, r56_4, r56_5, r56_6, r56_7, r56_8, r56_9, r56_10, r56_11, r56_12, r56_13, r56_14, r56_15, r56_16, r56_17, r56_18, r56_19, r56_20, r56_21, r56_22, r56_23⟩ =>
 cond (decide (r56_2 ≠ 0))
  (some (.inr (((0, r56_2, r56_3, r56_4, r56_5, r56_6, r56_7, r56_8, r56_9, r56_10, r56_11, r56_12, r56_13, r56_14, r56_15, r56_16, r56_17, r56_18, r56_19, r56_20, r56_21, r56_22, r56_23)))))
  (cond (r56_1)
   (some (.inl ((wI (s55_0 + 1), r56_3, r56_4, r56_5, r56_6, r56_7, r56_8, r56_9, r56_10, r56_11, r56_12, r56_13, r56_14, r56_15, r56_16, r56_17, r56_18, r56_19, r56_20, r56_21, r56_22, r56_23))))
   (some (.inr (((s55_0, 0, r56_3, r56_4, r56_5, r56_6, r56_7, r56_8, r56_9, r56_10, r56_11, r56_12, r56_13, r56_14, r56_15, r56_16, r56_17, r56_18, r56_19, r56_20, r56_21, r56_22, r56_23))))))
/- (*backstitch/engine.Engine).Run -/
def D_engine_Engine_Run_13 (a0 : Int) (a1 a2 : Bool) (a3 a4 a5 a6 a7 a8 a9 a10 a11 a12 a13 a14 a15 a16 a17 a18 a19 : Int) (a20 a21 : List Int) (a22 a23 : LO) (a24 : List Int) (a25 a26 a27 a28 a29 a30 a31 : Int) (a32 : List Int) : Op (Int × Int × Int × Int × Int × Int × Int × Int × Int × Int × Int × Int × Int × Int × Int × Int × Int × Int × Int × Int × Int × Int × List Int) :=
 (loopN (D_engine_Engine_Run_13_L0 a0 a1 a2 a20 a21 a22 a23 a24 a25 a26 a27 a28) BIG ((0, a3, a4, a5, a6, a7, a8, a9, a10, a11, a12, a13, a14, a15, a16, a17, a18, a19, a29, a30, a31, a32))).bind fun ⟨r57_0, r57_1, r57_2, r57_3, r57_4, r57_5, r57_6, r57_7, r57_8, r57_9, r57_10, r57_11, r57_12, r57_13, r57_14, r57_15, r57_16, r57_17, r57_18, r57_19, r57_20, r57_21, r57_22⟩ =>
 some ((r57_0, r57_1, r57_2, r57_3, r57_4, r57_5, r57_6, r57_7, r57_8, r57_9, r57_10, r57_11, r57_12, r57_13, r57_14, r57_15, r57_16, r57_17, r57_18, r57_19, r57_20, r57_21, r57_22))
/- (*backstitch/engine.Engine).Result -/
def D_engine_Engine_Result_13 (a0 : Int) (a1 a2 : Bool) (a3 a4 a5 a6 a7 a8 a9 a10 a11 a12 a13 a14 a15 a16 a17 a18 a19 : Int) (a20 a21 : List Int) (a22 a23 : LO) (a24 : List Int) (a25 a26 a27 a28 a29 a30 a31 : Int) (a32 : List Int) : Op (Int × Int × (List Int) × List Int) :=
 (D_engine_Engine_own_13 a0 a1 a2 a3 a4 a5 a6 a7 a8 a9 a10 a11 a12 a13 a14 a15 a16 a17 a18 a19 a20 a21 a22 a23 a24 a25 a26 a27 a28 a29 a30 a31 a32).bind fun r33 =>
 (D_drive_Driver_Result_3 a3 a4 a5 a6 a7 a8 a9 a10 a11 a12 a13 a14 a15 a16 a17 a18 a19 a20 a21 a22 a23 a24 a25 a26 a27 a28 a29 a30 a31 a32).bind fun r34 =>
 some ((r34.1, r34.2.1, r34.2.2.1, r34.2.2.2))
/- (*backstitch/engine.Engine).still -/
def D_engine_Engine_still_10 (a0 : Int) (a1 a2 : Bool) (a3 a4 a5 a6 a7 a8 a9 a10 a11 a12 a13 a14 a15 a16 a17 a18 a19 : Int) (a20 a21 : List Int) (a22 a23 : LO) (a24 : List Int) (a25 a26 a27 a28 a29 a30 a31 : Int) (a32 : List Int) : Op (Bool) :=
 cond (a2)
  (some false)
  ((D_engine_baseline_3 a0 a1 a2 a3 a4 a5 a6 a7 a8 a9 a10 a11 a12 a13 a14 a15 a16 a17 a18 a19 a20 a21 a22 a23 a24 a25 a26 a27 a28 a29 a30 a31 a32).bind fun r33 =>
  some !r33.2)
/- (*backstitch/engine.Engine).Done -/
def D_engine_Engine_Done_10 (a0 : Int) (a1 a2 : Bool) (a3 a4 a5 a6 a7 a8 a9 a10 a11 a12 a13 a14 a15 a16 a17 a18 a19 : Int) (a20 a21 : List Int) (a22 a23 : LO) (a24 : List Int) (a25 a26 a27 a28 a29 a30 a31 : Int) (a32 : List Int) : Op (Bool) :=
 (D_engine_Engine_still_10 a0 a1 a2 a3 a4 a5 a6 a7 a8 a9 a10 a11 a12 a13 a14 a15 a16 a17 a18 a19 a20 a21 a22 a23 a24 a25 a26 a27 a28 a29 a30 a31 a32).bind fun r33 =>
 cond (r33)
  ((D_engine_Engine_Spot_10 a0 a1 a2 a3 a4 a5 a6 a7 a8 a9 a10 a11 a12 a13 a14 a15 a16 a17 a18 a19 a20 a21 a22 a23 a24 a25 a26 a27 a28 a29 a30 a31 a32).bind fun r34 =>
  some (decide (r34.2.1 = 0)))
  (some false)
/- backstitch/backstitchlaw37.goes -/
def D_law37_goes  : Op (Bool) :=
 (D_law34_Example).bind fun r0 =>
 (D_engine_New 1 [5] [2] 3 ([(1, (0, (0, (2, 0))))]) 2 [] 3 100).bind fun r1 =>
 caseS r1 (fun u2 =>
  cond (decide (u2 ≠ 0))
   (some false)
   (some false))
  (fun w3 =>
  caseS w3 (fun u4 =>
   (D_engine_Engine_Run_2 u4.1 u4.2.1 u4.2.2).bind fun r5 =>
   (D_engine_Engine_Result_2 u4.1 u4.2.1 u4.2.2).bind fun r6 =>
   some false)
   (fun w7 =>
   caseS w7 (fun u8 =>
    (D_engine_Engine_Run_3 u8.1 u8.2.1 u8.2.2).bind fun r9 =>
    (D_engine_Engine_Result_3 u8.1 u8.2.1 u8.2.2).bind fun r10 =>
    cond (decide (r9.1 = 11))
     (cond (decide (r9.2 = 0))
      ((D_engine_Engine_Done_2 u8.1 u8.2.1 u8.2.2).bind fun r11 =>
      cond (r11)
       (some false)
       (some false))
      (some false))
     (some false))
    (fun w12 =>
    caseS w12 (fun u13 =>
     (D_engine_Engine_Run_4 u13.1 u13.2.1 u13.2.2).bind fun r14 =>
     (D_engine_Engine_Result_4 u13.1 u13.2.1 u13.2.2).bind fun r15 =>
     cond (decide (r14.1 = 11))
      (cond (decide (r14.2 = 0))
       ((D_engine_Engine_Done_3 u13.1 u13.2.1 u13.2.2).bind fun r16 =>
       cond (r16)
        (some false)
        (some false))
       (some false))
      (some false))
     (fun w17 =>
     caseS w17 (fun u18 =>
      (D_engine_Engine_Run_5 u18.1 u18.2.1 u18.2.2).bind fun r19 =>
      (D_engine_Engine_Result_5 u18.1 u18.2.1 u18.2.2).bind fun r20 =>
      cond (decide (r19.1 = 11))
       (cond (decide (r19.2 = 0))
        ((D_engine_Engine_Done_4 u18.1 u18.2.1 u18.2.2).bind fun r21 =>
        cond (r21)
         (some false)
         (some false))
        (some false))
       (some false))
      (fun w22 =>
      caseS w22 (fun ⟨u23_0, u23_1, u23_2, u23_3, u23_4, u23_5, u23_6, u23_7, u23_8, u23_9, u23_10, u23_11, u23_12, u23_13, u23_14, u23_15, u23_16, u23_17, u23_18, u23_19, u23_20, u23_21, u23_22⟩ =>
       (D_engine_Engine_Run_6 u23_0 u23_1 u23_2 u23_3 u23_4 u23_5 u23_6 u23_7 u23_8 u23_9 u23_10 u23_11 u23_12 0 (-1) 0 0 0 0 0 u23_13 u23_14 u23_15 u23_16 u23_17 u23_18 u23_19 u23_20 u23_21 u23_22).bind fun r24 =>
       (D_engine_Engine_Result_6 u23_0 u23_1 u23_2 u23_3 u23_4 u23_5 u23_6 u23_7 u23_8 u23_9 u23_10 u23_11 u23_12 0 (-1) 0 0 0 0 0 u23_13 u23_14 u23_15 u23_16 u23_17 u23_18 u23_19 u23_20 u23_21 u23_22).bind fun r25 =>
       some false)
       (fun w26 =>
       caseS w26 (fun ⟨u27_0, u27_1, u27_2, u27_3, u27_4, u27_5, u27_6, u27_7, u27_8, u27_9, u27_10, u27_11, u27_12, u27_13, u27_14, u27_15, u27_16, u27_17, u27_18, u27_19, u27_20, u27_21, u27_22⟩ =>
        (D_engine_Engine_Run_7 u27_0 u27_1 u27_2 u27_3 u27_4 u27_5 u27_6 u27_7 u27_8 u27_9 u27_10 u27_11 u27_12 0 (-1) 0 0 0 0 0 u27_13 u27_14 u27_15 u27_16 u27_17 u27_18 u27_19 u27_20 u27_21 u27_22).bind fun ⟨r28_0, r28_1, r28_2, r28_3, r28_4, r28_5, r28_6, r28_7, r28_8, r28_9, r28_10, r28_11, r28_12, r28_13, r28_14, r28_15, r28_16, r28_17, r28_18, r28_19, r28_20, r28_21, r28_22⟩ =>
        (D_engine_Engine_Result_7 u27_0 u27_1 u27_2 r28_2 r28_3 r28_4 r28_5 r28_6 r28_7 r28_8 r28_9 r28_10 r28_11 r28_12 r28_13 r28_14 r28_15 r28_16 r28_17 r28_18 u27_13 u27_14 u27_15 u27_16 u27_17 u27_18 r28_19 r28_20 r28_21 r28_22).bind fun r29 =>
        cond (decide (r28_0 = 11))
         (cond (decide (r28_1 = 0))
          ((D_engine_Engine_Done_5 u27_0 u27_1 u27_2 r28_2 r28_3 r28_4 r28_5 r28_6 r28_7 r28_8 r28_9 r28_10 r28_11 r28_12 r28_13 r28_14 r28_15 r28_16 r28_17 r28_18 u27_13 u27_14 u27_15 u27_16 u27_17 u27_18 r28_19 r28_20 r28_21 r28_22).bind fun r30 =>
          cond (r30)
           (cond (decide (r29.2.1 = 0))
            ((D_ref24_Same r29.1 r29.2.2.1 r29.2.2.2 8 [1] [0]).bind fun r31 =>
            some r31)
            (some false))
           (some false))
          (some false))
         (some false))
        (fun w32 =>
        caseS w32 (fun ⟨u33_0, u33_1, u33_2, u33_3, u33_4, u33_5, u33_6, u33_7, u33_8, u33_9, u33_10, u33_11, u33_12, u33_13, u33_14, u33_15, u33_16, u33_17, u33_18, u33_19, u33_20, u33_21, u33_22⟩ =>
         (D_engine_Engine_Run_8 u33_0 u33_1 u33_2 u33_3 u33_4 u33_5 u33_6 u33_7 u33_8 u33_9 u33_10 u33_11 u33_12 0 (-1) 0 0 0 0 0 u33_13 u33_14 u33_15 u33_16 u33_17 u33_18 u33_19 u33_20 u33_21 u33_22).bind fun ⟨r34_0, r34_1, r34_2, r34_3, r34_4, r34_5, r34_6, r34_7, r34_8, r34_9, r34_10, r34_11, r34_12, r34_13, r34_14, r34_15, r34_16, r34_17, r34_18, r34_19, r34_20, r34_21, r34_22⟩ =>
         (D_engine_Engine_Result_8 u33_0 u33_1 u33_2 r34_2 r34_3 r34_4 r34_5 r34_6 r34_7 r34_8 r34_9 r34_10 r34_11 r34_12 r34_13 r34_14 r34_15 r34_16 r34_17 r34_18 u33_13 u33_14 u33_15 u33_16 u33_17 u33_18 r34_19 r34_20 r34_21 r34_22).bind fun r35 =>
         cond (decide (r34_0 = 11))
          (cond (decide (r34_1 = 0))
           ((D_engine_Engine_Done_6 u33_0 u33_1 u33_2 r34_2 r34_3 r34_4 r34_5 r34_6 r34_7 r34_8 r34_9 r34_10 r34_11 r34_12 r34_13 r34_14 r34_15 r34_16 r34_17 r34_18 u33_13 u33_14 u33_15 u33_16 u33_17 u33_18 r34_19 r34_20 r34_21 r34_22).bind fun r36 =>
           cond (r36)
            (cond (decide (r35.2.1 = 0))
             ((D_ref24_Same r35.1 r35.2.2.1 r35.2.2.2 8 [1] [0]).bind fun r37 =>
             some r37)
             (some false))
            (some false))
           (some false))
          (some false))
         (fun w38 =>
         caseS w38 (fun ⟨u39_0, u39_1, u39_2, u39_3, u39_4, u39_5, u39_6, u39_7, u39_8, u39_9, u39_10, u39_11, u39_12, u39_13, u39_14, u39_15, u39_16, u39_17, u39_18, u39_19, u39_20, u39_21, u39_22⟩ =>
          (D_engine_Engine_Run_9 u39_0 u39_1 u39_2 u39_3 u39_4 u39_5 u39_6 u39_7 u39_8 u39_9 u39_10 u39_11 u39_12 0 (-1) 0 0 0 0 0 u39_13 u39_14 u39_15 u39_16 u39_17 u39_18 u39_19 u39_20 u39_21 u39_22).bind fun ⟨r40_0, r40_1, r40_2, r40_3, r40_4, r40_5, r40_6, r40_7, r40_8, r40_9, r40_10, r40_11, r40_12, r40_13, r40_14, r40_15, r40_16, r40_17, r40_18, r40_19, r40_20, r40_21, r40_22⟩ =>
          (D_engine_Engine_Result_9 u39_0 u39_1 u39_2 r40_2 r40_3 r40_4 r40_5 r40_6 r40_7 r40_8 r40_9 r40_10 r40_11 r40_12 r40_13 r40_14 r40_15 r40_16 r40_17 r40_18 u39_13 u39_14 u39_15 u39_16 u39_17 u39_18 r40_19 r40_20 r40_21 r40_22).bind fun r41 =>
          cond (decide (r40_0 = 11))
           (cond (decide (r40_1 = 0))
            ((D_engine_Engine_Done_7 u39_0 u39_1 u39_2 r40_2 r40_3 r40_4 r40_5 r40_6 r40_7 r40_8 r40_9 r40_10 r40_11 r40_12 r40_13 r40_14 r40_15 r40_16 r40_17 r40_18 u39_13 u39_14 u39_15 u39_16 u39_17 u39_18 r40_19 r40_20 r40_21 r40_22).bind fun r42 =>
            cond (r42)
             (cond (decide (r41.2.1 = 0))
              ((D_ref24_Same r41.1 r41.2.2.1 r41.2.2.2 8 [1] [0]).bind fun r43 =>
              some r43)
              (some false))
             (some false))
            (some false))
           (some false))
          (fun w44 =>
          caseS w44 (fun ⟨u45_0, u45_1, u45_2, u45_3, u45_4, u45_5, u45_6, u45_7, u45_8, u45_9, u45_10, u45_11, u45_12, u45_13, u45_14, u45_15, u45_16, u45_17, u45_18, u45_19, u45_20, u45_21, u45_22, u45_23, u45_24, u45_25⟩ =>
           (D_engine_Engine_Run_10 u45_0 u45_1 u45_2 u45_3 u45_4 u45_5 u45_6 u45_7 u45_8 u45_9 u45_10 u45_11 u45_12 0 (-1) 0 0 0 0 0 u45_13 u45_14 u45_15 u45_16 u45_17 u45_18 u45_19 u45_20 u45_21 u45_22 u45_23 u45_24 u45_25).bind fun r46 =>
           (D_engine_Engine_Result_10 u45_0 u45_1 u45_2 u45_3 u45_4 u45_5 u45_6 u45_7 u45_8 u45_9 u45_10 u45_11 u45_12 0 (-1) 0 0 0 0 0 u45_13 u45_14 u45_15 u45_16 u45_17 u45_18 u45_19 u45_20 u45_21 u45_22 u45_23 u45_24 u45_25).bind fun r47 =>
           some false)
           (fun w48 =>
           caseS w48 (fun ⟨u49_0, u49_1, u49_2, u49_3, u49_4, u49_5, u49_6, u49_7, u49_8, u49_9, u49_10, u49_11, u49_12, u49_13, u49_14, u49_15, u49_16, u49_17, u49_18, u49_19, u49_20, u49_21, u49_22, u49_23, u49_24, u49_25⟩ =>
            (D_engine_Engine_Run_11 u49_0 u49_1 u49_2 u49_3 u49_4 u49_5 u49_6 u49_7 u49_8 u49_9 u49_10 u49_11 u49_12 0 (-1) 0 0 0 0 0 u49_13 u49_14 u49_15 u49_16 u49_17 u49_18 u49_19 u49_20 u49_21 u49_22 u49_23 u49_24 u49_25).bind fun ⟨r50_0, r50_1, r50_2, r50_3, r50_4, r50_5, r50_6, r50_7, r50_8, r50_9, r50_10, r50_11, r50_12, r50_13, r50_14, r50_15, r50_16, r50_17, r50_18, r50_19, r50_20, r50_21, r50_22⟩ =>
            (D_engine_Engine_Result_11 u49_0 u49_1 u49_2 r50_2 r50_3 r50_4 r50_5 r50_6 r50_7 r50_8 r50_9 r50_10 r50_11 r50_12 r50_13 r50_14 r50_15 r50_16 r50_17 r50_18 u49_13 u49_14 u49_15 u49_16 u49_17 u49_18 u49_19 u49_20 u49_21 r50_19 r50_20 r50_21 r50_22).bind fun r51 =>
            cond (decide (r50_0 = 11))
             (cond (decide (r50_1 = 0))
              ((D_engine_Engine_Done_8 u49_0 u49_1 u49_2 r50_2 r50_3 r50_4 r50_5 r50_6 r50_7 r50_8 r50_9 r50_10 r50_11 r50_12 r50_13 r50_14 r50_15 r50_16 r50_17 r50_18 u49_13 u49_14 u49_15 u49_16 u49_17 u49_18 u49_19 u49_20 u49_21 r50_19 r50_20 r50_21 r50_22).bind fun r52 =>
              cond (r52)
               (cond (decide (r51.2.1 = 0))
                ((D_ref24_Same r51.1 r51.2.2.1 r51.2.2.2 8 [1] [0]).bind fun r53 =>
                some r53)
                (some false))
               (some false))
              (some false))
             (some false))
            (fun w54 =>
            caseS w54 (fun ⟨u55_0, u55_1, u55_2, u55_3, u55_4, u55_5, u55_6, u55_7, u55_8, u55_9, u55_10, u55_11, u55_12, u55_13, u55_14, u55_15, u55_16, u55_17, u55_18, u55_19, u55_20, u55_21, u55_22, u55_23, u55_24, u55_25⟩ =>
             (D_engine_Engine_Run_12 u55_0 u55_1 u55_2 u55_3 u55_4 u55_5 u55_6 u55_7 u55_8 u55_9 u55_10 u55_11 u55_12 0 (-1) 0 0 0 0 0 u55_13 u55_14 u55_15 u55_16 u55_17 u55_18 u55_19 u55_20 u55_21 u55_22 u55_23 u55_24 u55_25).bind fun ⟨r56_0, r56_1, r56_2, r56_3, r56_4, r56_5, r56_6, r56_7, r56_8, r56_9, r56_10, r56_11, r56_12, r56_13, r56_14, r56_15, r56_16, r56_17, r56_18, r56_19, r56_20, r56_21, r56_22⟩ =>
             (D_engine_Engine_Result_12 u55_0 u55_1 u55_2 r56_2 r56_3 r56_4 r56_5 r56_6 r56_7 r56_8 r56_9 r56_10 r56_11 r56_12 r56_13 r56_14 r56_15 r56_16 r56_17 r56_18 u55_13 u55_14 u55_15 u55_16 u55_17 u55_18 u55_19 u55_20 u55_21 r56_19 r56_20 r56_21 r56_22).bind fun r57 =>
             cond (decide (r56_0 = 11))
              (cond (decide (r56_1 = 0))
               ((D_engine_Engine_Done_9 u55_0 u55_1 u55_2 r56_2 r56_3 r56_4 r56_5 r56_6 r56_7 r56_8 r56_9 r56_10 r56_11 r56_12 r56_13 r56_14 r56_15 r56_16 r56_17 r56_18 u55_13 u55_14 u55_15 u55_16 u55_17 u55_18 u55_19 u55_20 u55_21 r56_19 r56_20 r56_21 r56_22).bind fun r58 =>
               cond (r58)
                (cond (decide (r57.2.1 = 0))
                 ((D_ref24_Same r57.1 r57.2.2.1 r57.2.2.2 8 [1] [0]).bind fun r59 =>
                 some r59)
                 (some false))
                (some false))
               (some false))
              (some false))
             (fun ⟨w60_0, w60_1, w60_2, w60_3, w60_4, w60_5, w60_6, w60_7, w60_8, w60_9, w60_10, w60_11, w60_12, w60_13, w60_14, w60_15, w60_16, w60_17, w60_18, w60_19, w60_20, w60_21, w60_22, w60_23, w60_24, w60_25⟩ =>
             (D_engine_Engine_Run_13 w60_0 w60_1 w60_2 w60_3 w60_4 w60_5 w60_6 w60_7 w60_8 w60_9 w60_10 w60_11 w60_12 0 (-1) 0 0 0 0 0 w60_13 w60_14 w60_15 w60_16 w60_17 w60_18 w60_19 w60_20 w60_21 w60_22 w60_23 w60_24 w60_25).bind fun ⟨r61_0, r61_1, r61_2, r61_3, r61_4, r61_5, r61_6, r61_7, r61_8, r61_9, r61_10, r61_11, r61_12, r61_13, r61_14, r61_15, r61_16, r61_17, r61_18, r61_19, r61_20, r61_21, r61_22⟩ =>
             (D_engine_Engine_Result_13 w60_0 w60_1 w60_2 r61_2 r61_3 r61_4 r61_5 r61_6 r61_7 r61_8 r61_9 r61_10 r61_11 r61_12 r61_13 r61_14 r61_15 r61_16 r61_17 r61_18 w60_13 w60_14 w60_15 w60_16 w60_17 w60_18 w60_19 w60_20 w60_21 r61_19 r61_20 r61_21 r61_22).bind fun r62 =>
             cond (decide (r61_0 = 11))
              (cond (decide (r61_1 = 0))
               ((D_engine_Engine_Done_10 w60_0 w60_1 w60_2 r61_2 r61_3 r61_4 r61_5 r61_6 r61_7 r61_8 r61_9 r61_10 r61_11 r61_12 r61_13 r61_14 r61_15 r61_16 r61_17 r61_18 w60_13 w60_14 w60_15 w60_16 w60_17 w60_18 w60_19 w60_20 w60_21 r61_19 r61_20 r61_21 r61_22).bind fun r63 =>
               cond (r63)
                (cond (decide (r62.2.1 = 0))
                 ((D_ref24_Same r62.1 r62.2.2.1 r62.2.2.2 8 [1] [0]).bind fun r64 =>
                 some r64)
                 (some false))
                (some false))
               (some false))
              (some false)))))))))))))
/- backstitch/backstitchlaw37.EngineNil -/
def D_law37_EngineNil (a0 : Bool) : Op (Bool) :=
 (D_engine_Engine_Step).bind fun r1 =>
 (D_engine_Engine_Run).bind fun r2 =>
 (D_engine_Engine_Freeze).bind fun r3 =>
 (D_engine_Engine_Result).bind fun r4 =>
 cond (!r1)
  ((D_ref24_Same 0 [] [] 0 [] []).bind fun r5 =>
  cond (r5)
   ((D_engine_Engine_Waits).bind fun r6 =>
   cond (!r6)
    ((D_engine_Engine_Done).bind fun r7 =>
    cond (!r7)
     ((D_engine_Engine_Feed a0).bind fun r8 =>
     (D_engine_Engine_Len).bind fun r9 =>
     (D_engine_Engine_Live).bind fun r10 =>
     (D_engine_Engine_Peak).bind fun r11 =>
     (D_engine_Engine_State).bind fun r12 =>
     (D_engine_Engine_Image).bind fun r13 =>
     (D_engine_Engine_Scalars).bind fun r14 =>
     (D_engine_Engine_Count).bind fun r15 =>
     (D_engine_Engine_Spot).bind fun r16 =>
     (D_ref27_Same 0 0 [] 0 0 []).bind fun r17 =>
     cond (r17)
      ((D_law37_goes).bind fun r18 =>
      some r18)
      (some false))
     (some false))
    (some false))
   (some false))
  (some false)

end Go.V
