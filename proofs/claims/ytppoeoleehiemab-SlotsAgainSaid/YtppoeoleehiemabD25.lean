/- A part of the proofs of this seat: what functions of the program answer on the abstract machine. -/
import Derived.Test.YtppoeoleehiemabV22
namespace Go.V
set_option linter.unusedVariables false
set_option linter.unusedSimpArgs false
open Go.Ab
set_option linter.unusedVariables false
/- (*backstitch/slots.Slots).Restore -/
def D_slots_Slots_Restore (a0 : Int) : Option (Unit) :=
  some ()
/- (*backstitch/slots.Slots).Tags -/
def D_slots_Slots_Tags  : Option (Unit) :=
  some ()
def D_slots_Slots_Least_L0  (s1 : Unit) : Option ((Unit) ⊕ (Unit)) :=
  some (.inr ())
/- (*backstitch/slots.Slots).Least -/
def D_slots_Slots_Least  : Option (Bool) :=
  (D_slots_Slots_Tags).bind fun r0 =>
  (loopN (D_slots_Slots_Least_L0) BIG ()).bind fun r2 =>
  some false
/- (*backstitch/slots.Slots).Store -/
def D_slots_Slots_Store (a0 : Int) (a1 : Int) (a2 : List Int) : Option (Unit) :=
  some ()
/- (*backstitch/slots.Slots).Free -/
def D_slots_Slots_Free (a0 : Int) : Option (Unit) :=
  some ()
def D_slots_Slots_Used_L0  (s1 : Unit) : Option ((Unit) ⊕ (Unit)) :=
  some (.inr ())
/- (*backstitch/slots.Slots).Used -/
def D_slots_Slots_Used  : Option (Unit) :=
  (D_slots_Slots_Tags).bind fun r0 =>
  (loopN (D_slots_Slots_Used_L0) BIG ()).bind fun r2 =>
  some ()
/- backstitch/slots.New -/
def D_slots_New (a0 : Int) (a1 : Int) : Option (Unit) :=
  some ()
/- backstitch/arena.right -/
def D_arena_right (a0 : Int) : Option (Int) :=
  cond (decide (a0 < 1))
    (some 2)
    (cond (decide (1048576 < a0))
      (some 12)
      (some 0))
/- backstitch/arena.New -/
def D_arena_New (a0 : Int) : Option ((Int) ⊕ (List Int)) :=
  (D_arena_right a0).bind fun r1 =>
  cond (decide (r1 ≠ 0))
    (some ((.inl r1)))
    (gd (Nat.beq 1 (Sh.w (.int .u64)) && decide (0 ≤ a0) && decide (a0 ≤ a0) && decide ((8 : Int) * a0 ≤ 140737488355328) && Nat.ble 1 8) (some ((.inr ((List.replicate (Int.toNat a0) (0 : Int)))))))
/- (backstitch/slots.place).may -/
def D_slots_place_may (a0 : Int) (a1 : Int) (a2 : Int) : Option (Bool) :=
  cond (decide (0 ≤ a1))
    (cond (decide (a1 ≤ 1048576))
      (cond (decide (1 ≤ a2))
        (some (decide (a2 ≤ 64)))
        (some false))
      (some false))
    (some false)
/- (backstitch/slots.place).size -/
def D_slots_place_size (a0 : Int) (a1 : Int) (a2 : Int) : Option (Int) :=
  some (IntKind.i64.wrap (a2 + 1))
/- (*backstitch/arena.Arena).Left -/
def D_arena_Arena_Left (a0 : Int) (a1 : List Int) : Option (Int) :=
  some (IntKind.i64.wrap (((((List.length a1) : Nat) : Int)) - a0))
/- (*backstitch/arena.Arena).Take -/
def D_arena_Arena_Take (a0 : Int) (a1 : Int) (a2 : List Int) : Option (Int × Int × Int) :=
  cond (decide (a0 < 0))
    (some ((0, 2, a1)))
    ((D_arena_Arena_Left a1 a2).bind fun r3 =>
    cond (decide (r3 < a0))
      (some ((0, 15, a1)))
      (some ((a1, 0, IntKind.i64.wrap (a1 + a0)))))
/- (*backstitch/arena.Arena).Write -/
def D_arena_Arena_Write (a0 : Int) (a1 : List Int) (a2 : Int) (a3 : List Int) : Option (Int × List Int) :=
  cond (decide (a0 < 0))
    (some ((2, a3)))
    (cond (decide (((((List.length a1) : Nat) : Int)) < 0))
      (some ((2, a3)))
      (cond (decide (a2 < a0))
        (some ((2, a3)))
        (cond (decide ((IntKind.i64.wrap (a2 - a0)) < ((((List.length a1) : Nat) : Int))))
          (some ((2, a3)))
          (gd (cutG a0 (IntKind.i64.wrap (a0 + ((((List.length a1) : Nat) : Int)))) ((List.length a3))) (some ((0, (blit a3 ((Int.toNat a0)) (((Int.toNat (IntKind.i64.wrap (a0 + ((((List.length a1) : Nat) : Int))))) - (Int.toNat a0))) a1))))))))
/- backstitch/slots.New -/
def D_slots_New_2 (a0 : Int) (a1 : Int) (a2 : Int) (a3 : List Int) : Option ((Int × Int × List Int) ⊕ (Int × (List Int) × Int × Int × Int)) :=
  (D_slots_place_may 0 a0 a1).bind fun r4 =>
  cond (!r4)
    (some ((.inl ((2, a2, a3)))))
    ((D_slots_place_size 0 a0 a1).bind fun r5 =>
    (D_arena_Arena_Take (IntKind.i64.wrap (a0 * r5)) a2 a3).bind fun r6 =>
    cond (decide (r6.2.1 ≠ 0))
      (some ((.inl ((r6.2.1, r6.2.2, a3)))))
      ((D_slots_place_size r6.1 a0 a1).bind fun r7 =>
      gd (Nat.beq 1 (Sh.w (.int .u64)) && decide (0 ≤ (IntKind.i64.wrap (a0 * r7))) && decide ((IntKind.i64.wrap (a0 * r7)) ≤ (IntKind.i64.wrap (a0 * r7))) && decide ((8 : Int) * (IntKind.i64.wrap (a0 * r7)) ≤ 140737488355328) && Nat.ble 1 8) ((D_arena_Arena_Write r6.1 ((List.replicate (Int.toNat (IntKind.i64.wrap (a0 * r7))) (0 : Int))) r6.2.2 a3).bind fun r8 =>
      some ((.inr ((r6.2.2, r8.2, r6.1, a0, a1)))))))
/- (backstitch/slots.place).has -/
def D_slots_place_has (a0 : Int) (a1 : Int) (a2 : Int) (a3 : Int) : Option (Bool) :=
  cond (decide (0 ≤ a3))
    (some (decide (a3 < a1)))
    (some false)
/- (backstitch/slots.place).word -/
def D_slots_place_word (a0 : Int) (a1 : Int) (a2 : Int) (a3 : Int) : Option (Int) :=
  (D_slots_place_size a0 a1 a2).bind fun r4 =>
  some (IntKind.i64.wrap (a0 + (IntKind.i64.wrap (a3 * r4))))
/- slices.Clone[[]uint64,uint64] -/
def D_slices_Clone_uint64_uint64 (l : List Int) : Option (List Int) := gd (fits (0 + l.length) 8) (some l)
/- (*backstitch/arena.Arena).Get -/
def D_arena_Arena_Get (a0 : Int) (a1 : Int) (a2 : List Int) : Option (Int × Int) :=
  cond (decide (a0 < 0))
    (some ((0, 2)))
    (cond (decide (a1 < a0))
      (some ((0, 2)))
      (cond (decide ((IntKind.i64.wrap (a1 - a0)) < 1))
        (some ((0, 2)))
        (gd (cutG a0 (IntKind.i64.wrap (a0 + 1)) ((List.length a2))) ((D_slices_Clone_uint64_uint64 ((List.take (((Int.toNat (IntKind.i64.wrap (a0 + 1))) - (Int.toNat a0))) (List.drop ((Int.toNat a0)) a2)))).bind fun r3 =>
        (ix 0 ((List.length r3))).bind fun j4 =>
        (r3[j4]?).bind fun x5 =>
        some ((x5, 0))))))
/- (*backstitch/slots.Slots).Store -/
def D_slots_Slots_Store_2 (a0 : Int) (a1 : Int) (a2 : List Int) (a3 : Int) (a4 : Int) (a5 : Int) (a6 : Int) (a7 : List Int) : Option (Int × List Int) :=
  (D_slots_place_has a3 a4 a5 a0).bind fun r8 =>
  cond (!r8)
    (some ((2, a7)))
    ((D_slots_place_word a3 a4 a5 a0).bind fun r9 =>
    (D_arena_Arena_Get r9 a6 a7).bind fun r10 =>
    (D_slots_place_word a3 a4 a5 a0).bind fun r11 =>
    (((cond (decide (a1 < 0))
      (some true)
      (some (decide (65536 ≤ a1)))) : Option (Bool))).bind fun s12 =>
    cond (s12)
      (some ((2, a7)))
      (cond (decide (((((List.length a2) : Nat) : Int)) ≠ a5))
        (some ((10, a7)))
        (cond (decide (r10.1 ≠ 0))
          (some ((15, a7)))
          (gd (fits (1 + List.length a2) 8) ((D_arena_Arena_Write r11 ((([IntKind.u64.wrap (IntKind.i64.wrap (a1 + 1))] : List Int) ++ a2)) a6 a7).bind fun r13 =>
          some ((r13.1, r13.2)))))))
def D_slots_Slots_Tags_2_L0 (a0 : Int) (a1 : Int) (a2 : Int) (a3 : Int) (a4 : List Int) (s7 : Int × List Int) : Option ((Int × List Int) ⊕ (List Int)) :=
  cond (decide (s7.1 < a1))
    ((D_slots_place_word a0 a1 a2 s7.1).bind fun r8 =>
    (D_arena_Arena_Get r8 a3 a4).bind fun r9 =>
    gd (fits (List.length s7.2 + 1) 8) (some (.inl ((IntKind.i64.wrap (s7.1 + 1), (s7.2 ++ [IntKind.i64.wrap ((IntKind.i64.wrap (r9.1)) - 1)]))))))
    (some (.inr s7.2))
/- (*backstitch/slots.Slots).Tags -/
def D_slots_Slots_Tags_2 (a0 : Int) (a1 : Int) (a2 : Int) (a3 : Int) (a4 : List Int) : Option (List Int) :=
  (loopN (D_slots_Slots_Tags_2_L0 a0 a1 a2 a3 a4) BIG ((0, []))).bind fun r10 =>
  some r10
def D_slots_Slots_Least_2_L0 (r5 : List Int) (s7 : Int) : Option ((Int) ⊕ ((Int × Bool) ⊕ (Unit))) :=
  cond (decide (s7 < ((((List.length r5) : Nat) : Int))))
    ((ix s7 ((List.length r5))).bind fun j8 =>
    (r5[j8]?).bind fun x9 =>
    cond (decide (x9 < 0))
      (some (.inr (((.inl ((s7, true)))))))
      (some (.inl (IntKind.i64.wrap (s7 + 1)))))
    (some (.inr (((.inr ())))))
/- (*backstitch/slots.Slots).Least -/
def D_slots_Slots_Least_2 (a0 : Int) (a1 : Int) (a2 : Int) (a3 : Int) (a4 : List Int) : Option (Int × Bool) :=
  (D_slots_Slots_Tags_2 a0 a1 a2 a3 a4).bind fun r5 =>
  (loopN (D_slots_Slots_Least_2_L0 r5) BIG 0).bind fun r10 =>
  caseS r10 (fun u11 =>
    some ((u11.1, u11.2)))
    (fun w12 =>
    some ((0, false)))
/- (*backstitch/arena.Arena).Image -/
def D_arena_Arena_Image (a0 : Int) (a1 : List Int) : Option (List Int) :=
  (D_slices_Clone_uint64_uint64 a1).bind fun r2 =>
  some r2
def D_ref05_Same_L0 (a0 : List Int) (a1 : List Int) (s3 : Int) : Option ((Int) ⊕ ((Bool) ⊕ (Unit))) :=
  cond (decide (s3 < ((((List.length a0) : Nat) : Int))))
    ((rd a0 s3).bind fun x4 =>
    (rd a1 s3).bind fun x5 =>
    cond (decide (x4 ≠ x5))
      (some (.inr (((.inl false)))))
      (some (.inl (IntKind.i64.wrap (s3 + 1)))))
    (some (.inr (((.inr ())))))
/- backstitch/backstitchref05.Same -/
def D_ref05_Same (a0 : List Int) (a1 : List Int) : Option (Bool) :=
  cond (decide (((((List.length a0) : Nat) : Int)) ≠ ((((List.length a1) : Nat) : Int))))
    (some false)
    ((loopN (D_ref05_Same_L0 a0 a1) BIG 0).bind fun r6 =>
    caseS r6 (fun u7 =>
      some u7)
      (fun w8 =>
      some true))
def D_slots_Slots_Used_2_L0 (r5 : List Int) (s8 : Int × Int) : Option ((Int × Int) ⊕ (Int)) :=
  cond (decide (s8.1 < ((((List.length r5) : Nat) : Int))))
    ((ix s8.1 ((List.length r5))).bind fun j9 =>
    (r5[j9]?).bind fun x10 =>
    cond (decide (0 ≤ x10))
      (some (.inl ((IntKind.i64.wrap (s8.1 + 1), IntKind.i64.wrap (s8.2 + 1)))))
      (some (.inl ((IntKind.i64.wrap (s8.1 + 1), s8.2)))))
    (some (.inr s8.2))
/- (*backstitch/slots.Slots).Used -/
def D_slots_Slots_Used_2 (a0 : Int) (a1 : Int) (a2 : Int) (a3 : Int) (a4 : List Int) : Option (Int) :=
  (D_slots_Slots_Tags_2 a0 a1 a2 a3 a4).bind fun r5 =>
  (loopN (D_slots_Slots_Used_2_L0 r5) BIG ((0, 0))).bind fun r11 =>
  some r11
/- backstitch/backstitchlaw25.goes -/
def D_law25_goes  : Option (Bool) :=
  (D_arena_New 4).bind fun r0 =>
  caseS r0 (fun u1 =>
    (D_slots_New 2 1).bind fun r2 =>
    cond (decide (u1 ≠ 0))
      (some false)
      (some false))
    (fun w3 =>
    (D_slots_New_2 2 1 0 w3).bind fun r4 =>
    caseS r4 (fun u5 =>
      cond (decide (u5.1 ≠ 0))
        (some false)
        (some false))
      (fun w6 =>
      (D_slots_Slots_Store_2 1 4 [9] w6.2.2.1 w6.2.2.2.1 w6.2.2.2.2 w6.1 w6.2.1).bind fun r7 =>
      (D_slots_Slots_Least_2 w6.2.2.1 w6.2.2.2.1 w6.2.2.2.2 w6.1 r7.2).bind fun r8 =>
      cond (decide (r7.1 = 0))
        ((D_arena_Arena_Image w6.1 r7.2).bind fun r9 =>
        (D_ref05_Same r9 ([0, 0, 5, 9])).bind fun r10 =>
        cond (r10)
          (cond (decide (r8.1 = 0))
            (cond (r8.2)
              ((D_slots_Slots_Used_2 w6.2.2.1 w6.2.2.2.1 w6.2.2.2.2 w6.1 r7.2).bind fun r11 =>
              some (decide (r11 = 1)))
              (some false))
            (some false))
          (some false))
        (some false)))
/- backstitch/backstitchref25.May -/
def D_ref25_May (a0 : Int) (a1 : Int) : Option (Bool) :=
  cond (decide (0 ≤ a0))
    (cond (decide (a0 ≤ 1048576))
      (cond (decide (1 ≤ a1))
        (some (decide (a1 ≤ 64)))
        (some false))
      (some false))
    (some false)
/- backstitch/backstitchlaw25.SlotsMakes -/
def D_law25_SlotsMakes (a0 : Int) (a1 : Int) (a2 : Int) (a3 : Int) : Option (Bool) :=
  (D_slots_Slots_Restore a3).bind fun r4 =>
  (D_slots_Slots_Least).bind fun r5 =>
  (D_slots_Slots_Store a3 a3 []).bind fun r6 =>
  (D_slots_Slots_Free a3).bind fun r7 =>
  (D_slots_Slots_Tags).bind fun r8 =>
  (D_slots_Slots_Used).bind fun r9 =>
  cond (r5)
    (some false)
    ((D_slots_New a1 a2).bind fun r10 =>
    (((cond (decide (a0 < 1))
      (some true)
      (some (decide (5000 < a0)))) : Option (Bool))).bind fun s11 =>
    cond (s11)
      ((D_law25_goes).bind fun r12 =>
      some r12)
      ((D_arena_New a0).bind fun r13 =>
      caseS r13 (fun u14 =>
        cond (decide (u14 ≠ 0))
          (some false)
          (some false))
        (fun w15 =>
        (D_slots_New_2 a1 a2 0 w15).bind fun r16 =>
        caseS r16 (fun u17 =>
          (D_ref25_May a1 a2).bind fun r18 =>
          cond (!r18)
            (cond (decide (u17.1 = 2))
              ((D_arena_Arena_Left u17.2.1 u17.2.2).bind fun r19 =>
              cond (decide (r19 = a0))
                ((D_law25_goes).bind fun r20 =>
                some r20)
                (some false))
              (some false))
            (cond (decide (a0 < (IntKind.i64.wrap (a1 * (IntKind.i64.wrap (a2 + 1))))))
              (cond (decide (u17.1 = 15))
                ((D_arena_Arena_Left u17.2.1 u17.2.2).bind fun r21 =>
                cond (decide (r21 = a0))
                  ((D_law25_goes).bind fun r22 =>
                  some r22)
                  (some false))
                (some false))
              (cond (decide (u17.1 = 0))
                (some false)
                (some false))))
          (fun w23 =>
          (D_ref25_May a1 a2).bind fun r24 =>
          cond (!r24)
            (some false)
            (cond (decide (a0 < (IntKind.i64.wrap (a1 * (IntKind.i64.wrap (a2 + 1))))))
              (some false)
              ((D_arena_Arena_Left w23.1 w23.2.1).bind fun r25 =>
              cond (decide (r25 = (IntKind.i64.wrap (a0 - (IntKind.i64.wrap (a1 * (IntKind.i64.wrap (a2 + 1))))))))
                ((D_slots_Slots_Used_2 w23.2.2.1 w23.2.2.2.1 w23.2.2.2.2 w23.1 w23.2.1).bind fun r26 =>
                cond (decide (r26 = 0))
                  ((D_slots_Slots_Tags_2 w23.2.2.1 w23.2.2.2.1 w23.2.2.2.2 w23.1 w23.2.1).bind fun r27 =>
                  cond (decide (((((List.length r27) : Nat) : Int)) = a1))
                    ((D_law25_goes).bind fun r28 =>
                    some r28)
                    (some false))
                  (some false))
                (some false)))))))
/- (*backstitch/slots.Slots).Free -/
def D_slots_Slots_Free_2 (a0 : Int) (a1 : Int) (a2 : Int) (a3 : Int) (a4 : Int) (a5 : List Int) : Option (Int × List Int) :=
  (D_slots_place_has a1 a2 a3 a0).bind fun r6 =>
  cond (!r6)
    (some ((2, a5)))
    ((D_slots_place_word a1 a2 a3 a0).bind fun r7 =>
    (D_arena_Arena_Get r7 a4 a5).bind fun r8 =>
    (D_slots_place_word a1 a2 a3 a0).bind fun r9 =>
    cond (decide (r8.1 = 0))
      (some ((16, a5)))
      ((D_slots_place_size a1 a2 a3).bind fun r10 =>
      gd (Nat.beq 1 (Sh.w (.int .u64)) && decide (0 ≤ r10) && decide (r10 ≤ r10) && decide ((8 : Int) * r10 ≤ 140737488355328) && Nat.ble 1 8) ((D_arena_Arena_Write r9 ((List.replicate (Int.toNat r10) (0 : Int))) a4 a5).bind fun r11 =>
      some ((r11.1, r11.2)))))
/- (*backstitch/arena.Arena).Read -/
def D_arena_Arena_Read (a0 : Int) (a1 : Int) (a2 : Int) (a3 : List Int) : Option (Int × List Int) :=
  cond (decide (a0 < 0))
    (some ((2, [])))
    (cond (decide (a1 < 0))
      (some ((2, [])))
      (cond (decide (a2 < a0))
        (some ((2, [])))
        (cond (decide ((IntKind.i64.wrap (a2 - a0)) < a1))
          (some ((2, [])))
          (gd (cutG a0 (IntKind.i64.wrap (a0 + a1)) ((List.length a3))) ((D_slices_Clone_uint64_uint64 ((List.take (((Int.toNat (IntKind.i64.wrap (a0 + a1))) - (Int.toNat a0))) (List.drop ((Int.toNat a0)) a3)))).bind fun r4 =>
          some ((0, r4)))))))
/- (*backstitch/slots.Slots).Restore -/
def D_slots_Slots_Restore_2 (a0 : Int) (a1 : Int) (a2 : Int) (a3 : Int) (a4 : Int) (a5 : List Int) : Option (Int × Int × List Int) :=
  (D_slots_place_has a1 a2 a3 a0).bind fun r6 =>
  cond (!r6)
    (some ((0, 2, [])))
    ((D_slots_place_word a1 a2 a3 a0).bind fun r7 =>
    (D_arena_Arena_Get r7 a4 a5).bind fun r8 =>
    (D_slots_place_word a1 a2 a3 a0).bind fun r9 =>
    cond (decide (r8.1 = 0))
      (some ((0, 16, [])))
      ((D_arena_Arena_Read (IntKind.i64.wrap (r9 + 1)) a3 a4 a5).bind fun r10 =>
      some ((IntKind.i64.wrap ((IntKind.i64.wrap (r8.1)) - 1), 0, r10.2))))
def D_law25_SlotsKeep_L0 (a0 : Int) (a1 : Int) (a2 : List Int) (a3 : List Int) (w12 : Int × (List Int) × Int × Int × Int) (s16 : Int × List Int) : Option ((Int × List Int) ⊕ ((Bool × List Int) ⊕ (List Int))) :=
  cond (decide (s16.1 < ((((List.length a3) : Nat) : Int))))
    ((rd a3 s16.1).bind fun x17 =>
    gd (decide (a0 ≠ 0)) (gd (decide (a0 ≠ 0)) ((((cond (decide ((Int.tmod (IntKind.i64.wrap ((Int.tmod x17 a0) + a0)) a0) ≠ 3))
      (gd (Nat.beq 1 (Sh.w (.int .u64)) && decide (0 ≤ ((((List.length a2) : Nat) : Int))) && decide (((((List.length a2) : Nat) : Int)) ≤ ((((List.length a2) : Nat) : Int))) && decide ((8 : Int) * ((((List.length a2) : Nat) : Int)) ≤ 140737488355328) && Nat.ble 1 8) ((D_slots_Slots_Store_2 (Int.tmod (IntKind.i64.wrap ((Int.tmod x17 a0) + a0)) a0) a1 ((List.replicate (Int.toNat ((((List.length a2) : Nat) : Int))) (0 : Int))) w12.2.2.1 w12.2.2.2.1 w12.2.2.2.2 w12.1 s16.2).bind fun r18 =>
      cond (decide (r18.1 = 15))
        ((D_slots_Slots_Free_2 (Int.tmod (IntKind.i64.wrap ((Int.tmod x17 a0) + a0)) a0) w12.2.2.1 w12.2.2.2.1 w12.2.2.2.2 w12.1 r18.2).bind fun r19 =>
        cond (decide (r19.1 ≠ 0))
          (some ((.inl ((false, r19.2)))))
          (some ((.inr ((.inl ((a2, (((List.length a2) : Nat) : Int), Int.tmod (IntKind.i64.wrap ((Int.tmod x17 a0) + a0)) a0, a1, r18.1, decide (r18.1 = 15), Int.tmod (IntKind.i64.wrap ((Int.tmod x17 a0) + a0)) a0, r19.1, decide (r19.1 ≠ 0), r19.2, (List.replicate (Int.toNat ((((List.length a2) : Nat) : Int))) (0 : Int))))))))))
        (some ((.inr ((.inr ((.inl ((a2, (((List.length a2) : Nat) : Int), Int.tmod (IntKind.i64.wrap ((Int.tmod x17 a0) + a0)) a0, a1, r18.1, decide (r18.1 = 15), r18.2, (List.replicate (Int.toNat ((((List.length a2) : Nat) : Int))) (0 : Int)))))))))))))
      (some ((.inr ((.inr ((.inr s16.2)))))))) : Option ((Bool × List Int) ⊕ (((List Int) × Int × Int × Int × Int × Bool × Int × Int × Bool × (List Int) × List Int) ⊕ (((List Int) × Int × Int × Int × Int × Bool × (List Int) × List Int) ⊕ (List Int)))))).bind fun s20 =>
    caseS s20 (fun u21 =>
      some (.inr (((.inl ((u21.1, u21.2)))))))
      (fun w22 =>
      caseS w22 (fun u23 =>
        (D_slots_Slots_Restore_2 3 w12.2.2.1 w12.2.2.2.1 w12.2.2.2.2 w12.1 u23.2.2.2.2.2.2.2.2.2.1).bind fun r24 =>
        cond (decide (r24.2.1 ≠ 0))
          (some (.inr (((.inl ((false, u23.2.2.2.2.2.2.2.2.2.1)))))))
          (cond (decide (r24.1 ≠ a1))
            (some (.inr (((.inl ((false, u23.2.2.2.2.2.2.2.2.2.1)))))))
            ((D_ref05_Same r24.2.2 a2).bind fun r25 =>
            cond (!r25)
              (some (.inr (((.inl ((false, u23.2.2.2.2.2.2.2.2.2.1)))))))
              ((D_slots_Slots_Store_2 3 a1 a2 w12.2.2.1 w12.2.2.2.1 w12.2.2.2.2 w12.1 u23.2.2.2.2.2.2.2.2.2.1).bind fun r26 =>
              cond (decide (r26.1 ≠ 15))
                (some (.inr (((.inl ((false, r26.2)))))))
                (some (.inl ((IntKind.i64.wrap (s16.1 + 1), r26.2))))))))
        (fun w27 =>
        caseS w27 (fun u28 =>
          (D_slots_Slots_Restore_2 3 w12.2.2.1 w12.2.2.2.1 w12.2.2.2.2 w12.1 u28.2.2.2.2.2.2.1).bind fun r29 =>
          cond (decide (r29.2.1 ≠ 0))
            (some (.inr (((.inl ((false, u28.2.2.2.2.2.2.1)))))))
            (cond (decide (r29.1 ≠ a1))
              (some (.inr (((.inl ((false, u28.2.2.2.2.2.2.1)))))))
              ((D_ref05_Same r29.2.2 a2).bind fun r30 =>
              cond (!r30)
                (some (.inr (((.inl ((false, u28.2.2.2.2.2.2.1)))))))
                ((D_slots_Slots_Store_2 3 a1 a2 w12.2.2.1 w12.2.2.2.1 w12.2.2.2.2 w12.1 u28.2.2.2.2.2.2.1).bind fun r31 =>
                cond (decide (r31.1 ≠ 15))
                  (some (.inr (((.inl ((false, r31.2)))))))
                  (some (.inl ((IntKind.i64.wrap (s16.1 + 1), r31.2))))))))
          (fun w32 =>
          (D_slots_Slots_Restore_2 3 w12.2.2.1 w12.2.2.2.1 w12.2.2.2.2 w12.1 w32).bind fun r33 =>
          cond (decide (r33.2.1 ≠ 0))
            (some (.inr (((.inl ((false, w32)))))))
            (cond (decide (r33.1 ≠ a1))
              (some (.inr (((.inl ((false, w32)))))))
              ((D_ref05_Same r33.2.2 a2).bind fun r34 =>
              cond (!r34)
                (some (.inr (((.inl ((false, w32)))))))
                ((D_slots_Slots_Store_2 3 a1 a2 w12.2.2.1 w12.2.2.2.1 w12.2.2.2.2 w12.1 w32).bind fun r35 =>
                cond (decide (r35.1 ≠ 15))
                  (some (.inr (((.inl ((false, r35.2)))))))
                  (some (.inl ((IntKind.i64.wrap (s16.1 + 1), r35.2)))))))))))))
    (some (.inr (((.inr s16.2)))))
/- backstitch/backstitchlaw25.SlotsKeep -/
def D_law25_SlotsKeep (a0 : Int) (a1 : Int) (a2 : List Int) (a3 : List Int) : Option (Bool) :=
  (((cond (decide (a0 < 4))
    (some true)
    (cond (decide (20 < a0))
      (some true)
      (cond (decide (a1 < 0))
        (some true)
        (cond (decide (65536 ≤ a1))
          (some true)
          (cond (decide (((((List.length a2) : Nat) : Int)) < 1))
            (some true)
            (cond (decide (8 < ((((List.length a2) : Nat) : Int))))
              (some true)
              (some (decide (30 < ((((List.length a3) : Nat) : Int))))))))))) : Option (Bool))).bind fun s4 =>
  cond (s4)
    ((D_law25_goes).bind fun r5 =>
    some r5)
    ((D_arena_New (IntKind.i64.wrap (a0 * (IntKind.i64.wrap (((((List.length a2) : Nat) : Int)) + 1))))).bind fun r6 =>
    caseS r6 (fun u7 =>
      (D_slots_New a0 ((((List.length a2) : Nat) : Int))).bind fun r8 =>
      cond (decide (u7 ≠ 0))
        (some false)
        (some false))
      (fun w9 =>
      (D_slots_New_2 a0 ((((List.length a2) : Nat) : Int)) 0 w9).bind fun r10 =>
      caseS r10 (fun u11 =>
        cond (decide (u11.1 ≠ 0))
          (some false)
          (some false))
        (fun w12 =>
        (D_slots_Slots_Store_2 3 a1 a2 w12.2.2.1 w12.2.2.2.1 w12.2.2.2.2 w12.1 w12.2.1).bind fun r13 =>
        cond (decide (r13.1 ≠ 0))
          (some false)
          ((loopN (D_law25_SlotsKeep_L0 a0 a1 a2 a3 w12) BIG ((0, r13.2))).bind fun r36 =>
          caseS r36 (fun u37 =>
            some u37.1)
            (fun w38 =>
            (D_slots_Slots_Free_2 3 w12.2.2.1 w12.2.2.2.1 w12.2.2.2.2 w12.1 w38).bind fun r39 =>
            cond (decide (r39.1 = 0))
              ((D_slots_Slots_Free_2 3 w12.2.2.1 w12.2.2.2.1 w12.2.2.2.2 w12.1 r39.2).bind fun r40 =>
              cond (decide (r40.1 = 16))
                ((D_law25_goes).bind fun r41 =>
                some r41)
                (some false))
              (some false))))))
/- backstitch/arena.From -/
def D_arena_From (a0 : List Int) : Option ((Int) ⊕ (List Int)) :=
  (D_arena_right ((((List.length a0) : Nat) : Int))).bind fun r1 =>
  cond (decide (r1 ≠ 0))
    (some ((.inl r1)))
    ((D_slices_Clone_uint64_uint64 a0).bind fun r2 =>
    some ((.inr r2)))
def D_slots_Again_L0 (a0 : Int) (a1 : Int) (a2 : Int) (a3 : Int) (a4 : List Int) (s9 : Int) : Option ((Int) ⊕ ((Unit) ⊕ (Unit))) :=
  cond (decide (s9 < a1))
    ((D_slots_place_word a0 a1 a2 s9).bind fun r10 =>
    (D_arena_Arena_Get r10 a3 a4).bind fun r11 =>
    cond (decide (65536 < r11.1))
      (some (.inr (((.inl ())))))
      (some (.inl (IntKind.i64.wrap (s9 + 1)))))
    (some (.inr (((.inr ())))))
/- backstitch/slots.Again -/
def D_slots_Again (a0 : Int) (a1 : Int) (a2 : Int) (a3 : Int) (a4 : List Int) : Option ((Int) ⊕ (Int × Int × Int)) :=
  (D_slots_place_may a0 a1 a2).bind fun r5 =>
  cond (!r5)
    (some ((.inl 2)))
    ((D_slots_place_size a0 a1 a2).bind fun r6 =>
    (D_arena_Arena_Read a0 (IntKind.i64.wrap (a1 * r6)) a3 a4).bind fun r7 =>
    cond (decide (r7.1 ≠ 0))
      (some ((.inl r7.1)))
      ((loopN (D_slots_Again_L0 a0 a1 a2 a3 a4) BIG 0).bind fun r12 =>
      caseS r12 (fun u13 =>
        some ((.inl 2)))
        (fun w14 =>
        some ((.inr ((a0, a1, a2)))))))
def D_ref07_Ints_L0 (a0 : List Int) (a1 : List Int) (s3 : Int) : Option ((Int) ⊕ ((Bool) ⊕ (Unit))) :=
  cond (decide (s3 < ((((List.length a0) : Nat) : Int))))
    ((rd a0 s3).bind fun x4 =>
    (rd a1 s3).bind fun x5 =>
    cond (decide (x4 ≠ x5))
      (some (.inr (((.inl false)))))
      (some (.inl (IntKind.i64.wrap (s3 + 1)))))
    (some (.inr (((.inr ())))))
/- backstitch/backstitchref07.Ints -/
def D_ref07_Ints (a0 : List Int) (a1 : List Int) : Option (Bool) :=
  cond (decide (((((List.length a0) : Nat) : Int)) ≠ ((((List.length a1) : Nat) : Int))))
    (some false)
    ((loopN (D_ref07_Ints_L0 a0 a1) BIG 0).bind fun r6 =>
    caseS r6 (fun u7 =>
      some u7)
      (fun w8 =>
      some true))
def D_law25_SlotsAgain_L0 (a0 : List Int) (a1 : Int) (a2 : Int) (a3 : Int) (u12 : Int) (s18 : Int × List Int) : Option ((Int × List Int) ⊕ ((Bool) ⊕ (List Int))) :=
  cond (decide (s18.1 < a2))
    ((rd a0 (IntKind.i64.wrap (a1 + (IntKind.i64.wrap (s18.1 * (IntKind.i64.wrap (a3 + 1))))))).bind fun x19 =>
    cond (decide (65536 < x19))
      (cond (decide (u12 = 2))
        ((D_law25_goes).bind fun r20 =>
        some (.inr (((.inl r20)))))
        (some (.inr (((.inl false))))))
      (gd (fits (List.length s18.2 + 1) 8) (some (.inl ((IntKind.i64.wrap (s18.1 + 1), (s18.2 ++ [IntKind.i64.wrap ((IntKind.i64.wrap (x19)) - 1)])))))))
    (some (.inr (((.inr s18.2)))))
def D_law25_SlotsAgain_L1 (a0 : List Int) (a1 : Int) (a2 : Int) (a3 : Int) (s29 : Int × List Int) : Option ((Int × List Int) ⊕ ((Bool) ⊕ (List Int))) :=
  cond (decide (s29.1 < a2))
    ((rd a0 (IntKind.i64.wrap (a1 + (IntKind.i64.wrap (s29.1 * (IntKind.i64.wrap (a3 + 1))))))).bind fun x30 =>
    cond (decide (65536 < x30))
      (some (.inr (((.inl false)))))
      (gd (fits (List.length s29.2 + 1) 8) (some (.inl ((IntKind.i64.wrap (s29.1 + 1), (s29.2 ++ [IntKind.i64.wrap ((IntKind.i64.wrap (x30)) - 1)])))))))
    (some (.inr (((.inr s29.2)))))
def D_law25_SlotsAgain_L2 (a0 : List Int) (a1 : Int) (a2 : Int) (a3 : Int) (w9 : List Int) (r10 : Int × Int × Int) (w24 : Int × Int × Int) (w33 : List Int) (s37 : Int) : Option ((Int) ⊕ ((Bool) ⊕ (Unit))) :=
  cond (decide (s37 < a2))
    ((D_slots_Slots_Restore_2 s37 w24.1 w24.2.1 w24.2.2 r10.2.2 w9).bind fun r38 =>
    (ix s37 ((List.length w33))).bind fun j39 =>
    (w33[j39]?).bind fun x40 =>
    cond (decide (x40 < 0))
      (cond (decide (r38.2.1 ≠ 16))
        (some (.inr (((.inl false)))))
        ((ix s37 ((List.length w33))).bind fun j41 =>
        (w33[j41]?).bind fun x42 =>
        cond (decide (0 ≤ x42))
          (cond (decide (r38.2.1 ≠ 0))
            (some (.inr (((.inl false)))))
            ((ix s37 ((List.length w33))).bind fun j43 =>
            (w33[j43]?).bind fun x44 =>
            cond (decide (r38.1 ≠ x44))
              (some (.inr (((.inl false)))))
              (gd (cutG (IntKind.i64.wrap ((IntKind.i64.wrap (a1 + (IntKind.i64.wrap (s37 * (IntKind.i64.wrap (a3 + 1)))))) + 1)) (IntKind.i64.wrap (a1 + (IntKind.i64.wrap ((IntKind.i64.wrap (s37 + 1)) * (IntKind.i64.wrap (a3 + 1)))))) ((List.length a0))) ((D_ref05_Same r38.2.2 ((cutL a0 (IntKind.i64.wrap ((IntKind.i64.wrap (a1 + (IntKind.i64.wrap (s37 * (IntKind.i64.wrap (a3 + 1)))))) + 1)) (IntKind.i64.wrap (a1 + (IntKind.i64.wrap ((IntKind.i64.wrap (s37 + 1)) * (IntKind.i64.wrap (a3 + 1))))))))).bind fun r45 =>
              cond (!r45)
                (some (.inr (((.inl false)))))
                (some (.inl (IntKind.i64.wrap (s37 + 1))))))))
          (some (.inl (IntKind.i64.wrap (s37 + 1))))))
      ((ix s37 ((List.length w33))).bind fun j46 =>
      (w33[j46]?).bind fun x47 =>
      cond (decide (0 ≤ x47))
        (cond (decide (r38.2.1 ≠ 0))
          (some (.inr (((.inl false)))))
          ((ix s37 ((List.length w33))).bind fun j48 =>
          (w33[j48]?).bind fun x49 =>
          cond (decide (r38.1 ≠ x49))
            (some (.inr (((.inl false)))))
            (gd (cutG (IntKind.i64.wrap ((IntKind.i64.wrap (a1 + (IntKind.i64.wrap (s37 * (IntKind.i64.wrap (a3 + 1)))))) + 1)) (IntKind.i64.wrap (a1 + (IntKind.i64.wrap ((IntKind.i64.wrap (s37 + 1)) * (IntKind.i64.wrap (a3 + 1)))))) ((List.length a0))) ((D_ref05_Same r38.2.2 ((cutL a0 (IntKind.i64.wrap ((IntKind.i64.wrap (a1 + (IntKind.i64.wrap (s37 * (IntKind.i64.wrap (a3 + 1)))))) + 1)) (IntKind.i64.wrap (a1 + (IntKind.i64.wrap ((IntKind.i64.wrap (s37 + 1)) * (IntKind.i64.wrap (a3 + 1))))))))).bind fun r50 =>
            cond (!r50)
              (some (.inr (((.inl false)))))
              (some (.inl (IntKind.i64.wrap (s37 + 1))))))))
        (some (.inl (IntKind.i64.wrap (s37 + 1))))))
    (some (.inr (((.inr ())))))
/- backstitch/backstitchlaw25.SlotsAgain -/
def D_law25_SlotsAgain (a0 : List Int) (a1 : Int) (a2 : Int) (a3 : Int) (a4 : Int) : Option (Bool) :=
  (((cond (decide (((((List.length a0) : Nat) : Int)) < 1))
    (some true)
    (cond (decide (300 < ((((List.length a0) : Nat) : Int))))
      (some true)
      (cond (decide (30 < a2))
        (cond (decide (a2 ≤ 1048576))
          (some true)
          (cond (decide (8 < a3))
            (some (decide (a3 ≤ 64)))
            (some false)))
        (cond (decide (8 < a3))
          (some (decide (a3 ≤ 64)))
          (some false))))) : Option (Bool))).bind fun s5 =>
  cond (s5)
    ((D_law25_goes).bind fun r6 =>
    some r6)
    ((D_arena_From a0).bind fun r7 =>
    caseS r7 (fun u8 =>
      cond (decide (u8 ≠ 0))
        (some false)
        (some false))
      (fun w9 =>
      (D_arena_Arena_Take (max (IntKind.i64.wrap (((((List.length a0) : Nat) : Int)) - (IntKind.i64.wrap (Int.tmod a4 8)))) 0) 0 w9).bind fun r10 =>
      cond (decide (r10.2.1 ≠ 0))
        (some false)
        ((D_slots_Again a1 a2 a3 r10.2.2 w9).bind fun r11 =>
        caseS r11 (fun u12 =>
          ((((D_ref25_May a2 a3).bind fun r13 =>
          cond (!r13)
            (some true)
            (cond (decide (a1 < 0))
              (some true)
              (cond (decide ((max (IntKind.i64.wrap (((((List.length a0) : Nat) : Int)) - (IntKind.i64.wrap (Int.tmod a4 8)))) 0) < a1))
                (some true)
                (some (decide ((IntKind.i64.wrap ((max (IntKind.i64.wrap (((((List.length a0) : Nat) : Int)) - (IntKind.i64.wrap (Int.tmod a4 8)))) 0) - a1)) < (IntKind.i64.wrap (a2 * (IntKind.i64.wrap (a3 + 1)))))))))) : Option (Bool))).bind fun s14 =>
          cond (s14)
            (cond (decide (u12 = 2))
              ((D_law25_goes).bind fun r15 =>
              some r15)
              (some false))
            ((loopN (D_law25_SlotsAgain_L0 a0 a1 a2 a3 u12) BIG ((0, []))).bind fun r21 =>
            caseS r21 (fun u22 =>
              some u22)
              (fun w23 =>
              cond (decide (u12 ≠ 0))
                (some false)
                (some false))))
          (fun w24 =>
          ((((D_ref25_May a2 a3).bind fun r25 =>
          cond (!r25)
            (some true)
            (cond (decide (a1 < 0))
              (some true)
              (cond (decide ((max (IntKind.i64.wrap (((((List.length a0) : Nat) : Int)) - (IntKind.i64.wrap (Int.tmod a4 8)))) 0) < a1))
                (some true)
                (some (decide ((IntKind.i64.wrap ((max (IntKind.i64.wrap (((((List.length a0) : Nat) : Int)) - (IntKind.i64.wrap (Int.tmod a4 8)))) 0) - a1)) < (IntKind.i64.wrap (a2 * (IntKind.i64.wrap (a3 + 1)))))))))) : Option (Bool))).bind fun s26 =>
          cond (s26)
            (some false)
            ((loopN (D_law25_SlotsAgain_L1 a0 a1 a2 a3) BIG ((0, []))).bind fun r31 =>
            caseS r31 (fun u32 =>
              some u32)
              (fun w33 =>
              (D_slots_Slots_Tags_2 w24.1 w24.2.1 w24.2.2 r10.2.2 w9).bind fun r34 =>
              (D_ref07_Ints r34 w33).bind fun r35 =>
              cond (!r35)
                (some false)
                ((loopN (D_law25_SlotsAgain_L2 a0 a1 a2 a3 w9 r10 w24 w33) BIG 0).bind fun r51 =>
                caseS r51 (fun u52 =>
                  some u52)
                  (fun w53 =>
                  (D_law25_goes).bind fun r54 =>
                  some r54))))))))
end Go.V
