/- A part of the proofs of this seat: what functions of the program answer on the abstract machine. -/
import Derived.Test.YtppoeoleehiemabV22
namespace Go.V
set_option linter.unusedVariables false
set_option linter.unusedSimpArgs false
open Go.Ab
set_option linter.unusedVariables false
/- backstitch/arena.right -/
def D_arena_right (a0 : Int) : Option (Int) :=
  cond (decide (a0 < 1))
    (some 2)
    (cond (decide (1048576 < a0))
      (some 12)
      (some 0))
/- backstitch/arena.New -/
def D_arena_New (a0 : Int) : Option ((Int) ⊕ (List Int)) :=
  (D_arena_right a0).bind fun r1 =>
  cond (decide (r1 ≠ 0))
    (some ((.inl r1)))
    (gd (Nat.beq 1 (Sh.w (.int .u64)) && decide (0 ≤ a0) && decide (a0 ≤ a0) && decide ((8 : Int) * a0 ≤ 140737488355328) && Nat.ble 1 8) (some ((.inr ((List.replicate (Int.toNat a0) (0 : Int)))))))
/- backstitch/slots.New -/
def D_slots_New (a0 : Int) (a1 : Int) : Option (Unit) :=
  some ()
/- (backstitch/slots.place).may -/
def D_slots_place_may (a0 : Int) (a1 : Int) (a2 : Int) : Option (Bool) :=
  cond (decide (0 ≤ a1))
    (cond (decide (a1 ≤ 1048576))
      (cond (decide (1 ≤ a2))
        (some (decide (a2 ≤ 64)))
        (some false))
      (some false))
    (some false)
/- (backstitch/slots.place).size -/
def D_slots_place_size (a0 : Int) (a1 : Int) (a2 : Int) : Option (Int) :=
  some (IntKind.i64.wrap (a2 + 1))
/- (*backstitch/arena.Arena).Left -/
def D_arena_Arena_Left (a0 : Int) (a1 : List Int) : Option (Int) :=
  some (IntKind.i64.wrap (((((List.length a1) : Nat) : Int)) - a0))
/- (*backstitch/arena.Arena).Take -/
def D_arena_Arena_Take (a0 : Int) (a1 : Int) (a2 : List Int) : Option (Int × Int × Int) :=
  cond (decide (a0 < 0))
    (some ((0, 2, a1)))
    ((D_arena_Arena_Left a1 a2).bind fun r3 =>
    cond (decide (r3 < a0))
      (some ((0, 15, a1)))
      (some ((a1, 0, IntKind.i64.wrap (a1 + a0)))))
/- (*backstitch/arena.Arena).Write -/
def D_arena_Arena_Write (a0 : Int) (a1 : List Int) (a2 : Int) (a3 : List Int) : Option (Int × List Int) :=
  cond (decide (a0 < 0))
    (some ((2, a3)))
    (cond (decide (((((List.length a1) : Nat) : Int)) < 0))
      (some ((2, a3)))
      (cond (decide (a2 < a0))
        (some ((2, a3)))
        (cond (decide ((IntKind.i64.wrap (a2 - a0)) < ((((List.length a1) : Nat) : Int))))
          (some ((2, a3)))
          (gd (cutG a0 (IntKind.i64.wrap (a0 + ((((List.length a1) : Nat) : Int)))) ((List.length a3))) (some ((0, (blit a3 ((Int.toNat a0)) (((Int.toNat (IntKind.i64.wrap (a0 + ((((List.length a1) : Nat) : Int))))) - (Int.toNat a0))) a1))))))))
/- backstitch/slots.New -/
def D_slots_New_2 (a0 : Int) (a1 : Int) (a2 : Int) (a3 : List Int) : Option ((Int × Int × List Int) ⊕ (Int × (List Int) × Int × Int × Int)) :=
  (D_slots_place_may 0 a0 a1).bind fun r4 =>
  cond (!r4)
    (some ((.inl ((2, a2, a3)))))
    ((D_slots_place_size 0 a0 a1).bind fun r5 =>
    (D_arena_Arena_Take (IntKind.i64.wrap (a0 * r5)) a2 a3).bind fun r6 =>
    cond (decide (r6.2.1 ≠ 0))
      (some ((.inl ((r6.2.1, r6.2.2, a3)))))
      ((D_slots_place_size r6.1 a0 a1).bind fun r7 =>
      gd (Nat.beq 1 (Sh.w (.int .u64)) && decide (0 ≤ (IntKind.i64.wrap (a0 * r7))) && decide ((IntKind.i64.wrap (a0 * r7)) ≤ (IntKind.i64.wrap (a0 * r7))) && decide ((8 : Int) * (IntKind.i64.wrap (a0 * r7)) ≤ 140737488355328) && Nat.ble 1 8) ((D_arena_Arena_Write r6.1 ((List.replicate (Int.toNat (IntKind.i64.wrap (a0 * r7))) (0 : Int))) r6.2.2 a3).bind fun r8 =>
      some ((.inr ((r6.2.2, r8.2, r6.1, a0, a1)))))))
/- (backstitch/slots.place).has -/
def D_slots_place_has (a0 : Int) (a1 : Int) (a2 : Int) (a3 : Int) : Option (Bool) :=
  cond (decide (0 ≤ a3))
    (some (decide (a3 < a1)))
    (some false)
/- (backstitch/slots.place).word -/
def D_slots_place_word (a0 : Int) (a1 : Int) (a2 : Int) (a3 : Int) : Option (Int) :=
  (D_slots_place_size a0 a1 a2).bind fun r4 =>
  some (IntKind.i64.wrap (a0 + (IntKind.i64.wrap (a3 * r4))))
/- slices.Clone[[]uint64,uint64] -/
def D_slices_Clone_uint64_uint64 (l : List Int) : Option (List Int) := gd (fits (0 + l.length) 8) (some l)
/- (*backstitch/arena.Arena).Get -/
def D_arena_Arena_Get (a0 : Int) (a1 : Int) (a2 : List Int) : Option (Int × Int) :=
  cond (decide (a0 < 0))
    (some ((0, 2)))
    (cond (decide (a1 < a0))
      (some ((0, 2)))
      (cond (decide ((IntKind.i64.wrap (a1 - a0)) < 1))
        (some ((0, 2)))
        (gd (cutG a0 (IntKind.i64.wrap (a0 + 1)) ((List.length a2))) ((D_slices_Clone_uint64_uint64 ((List.take (((Int.toNat (IntKind.i64.wrap (a0 + 1))) - (Int.toNat a0))) (List.drop ((Int.toNat a0)) a2)))).bind fun r3 =>
        (ix 0 ((List.length r3))).bind fun j4 =>
        (r3[j4]?).bind fun x5 =>
        some ((x5, 0))))))
/- (*backstitch/slots.Slots).Store -/
def D_slots_Slots_Store (a0 : Int) (a1 : Int) (a2 : List Int) (a3 : Int) (a4 : Int) (a5 : Int) (a6 : Int) (a7 : List Int) : Option (Int × List Int) :=
  (D_slots_place_has a3 a4 a5 a0).bind fun r8 =>
  cond (!r8)
    (some ((2, a7)))
    ((D_slots_place_word a3 a4 a5 a0).bind fun r9 =>
    (D_arena_Arena_Get r9 a6 a7).bind fun r10 =>
    (D_slots_place_word a3 a4 a5 a0).bind fun r11 =>
    (((cond (decide (a1 < 0))
      (some true)
      (some (decide (65536 ≤ a1)))) : Option (Bool))).bind fun s12 =>
    cond (s12)
      (some ((2, a7)))
      (cond (decide (((((List.length a2) : Nat) : Int)) ≠ a5))
        (some ((10, a7)))
        (cond (decide (r10.1 ≠ 0))
          (some ((15, a7)))
          (gd (fits (1 + List.length a2) 8) ((D_arena_Arena_Write r11 ((([IntKind.u64.wrap (IntKind.i64.wrap (a1 + 1))] : List Int) ++ a2)) a6 a7).bind fun r13 =>
          some ((r13.1, r13.2)))))))
def D_slots_Slots_Tags_L0 (a0 : Int) (a1 : Int) (a2 : Int) (a3 : Int) (a4 : List Int) (s7 : Int × List Int) : Option ((Int × List Int) ⊕ (List Int)) :=
  cond (decide (s7.1 < a1))
    ((D_slots_place_word a0 a1 a2 s7.1).bind fun r8 =>
    (D_arena_Arena_Get r8 a3 a4).bind fun r9 =>
    gd (fits (List.length s7.2 + 1) 8) (some (.inl ((IntKind.i64.wrap (s7.1 + 1), (s7.2 ++ [IntKind.i64.wrap ((IntKind.i64.wrap (r9.1)) - 1)]))))))
    (some (.inr s7.2))
/- (*backstitch/slots.Slots).Tags -/
def D_slots_Slots_Tags (a0 : Int) (a1 : Int) (a2 : Int) (a3 : Int) (a4 : List Int) : Option (List Int) :=
  (loopN (D_slots_Slots_Tags_L0 a0 a1 a2 a3 a4) BIG ((0, []))).bind fun r10 =>
  some r10
def D_slots_Slots_Least_L0 (r5 : List Int) (s7 : Int) : Option ((Int) ⊕ ((Int × Bool) ⊕ (Unit))) :=
  cond (decide (s7 < ((((List.length r5) : Nat) : Int))))
    ((ix s7 ((List.length r5))).bind fun j8 =>
    (r5[j8]?).bind fun x9 =>
    cond (decide (x9 < 0))
      (some (.inr (((.inl ((s7, true)))))))
      (some (.inl (IntKind.i64.wrap (s7 + 1)))))
    (some (.inr (((.inr ())))))
/- (*backstitch/slots.Slots).Least -/
def D_slots_Slots_Least (a0 : Int) (a1 : Int) (a2 : Int) (a3 : Int) (a4 : List Int) : Option (Int × Bool) :=
  (D_slots_Slots_Tags a0 a1 a2 a3 a4).bind fun r5 =>
  (loopN (D_slots_Slots_Least_L0 r5) BIG 0).bind fun r10 =>
  caseS r10 (fun u11 =>
    some ((u11.1, u11.2)))
    (fun w12 =>
    some ((0, false)))
/- (*backstitch/arena.Arena).Image -/
def D_arena_Arena_Image (a0 : Int) (a1 : List Int) : Option (List Int) :=
  (D_slices_Clone_uint64_uint64 a1).bind fun r2 =>
  some r2
def D_ref05_Same_L0 (a0 : List Int) (a1 : List Int) (s3 : Int) : Option ((Int) ⊕ ((Bool) ⊕ (Unit))) :=
  cond (decide (s3 < ((((List.length a0) : Nat) : Int))))
    ((rd a0 s3).bind fun x4 =>
    (rd a1 s3).bind fun x5 =>
    cond (decide (x4 ≠ x5))
      (some (.inr (((.inl false)))))
      (some (.inl (IntKind.i64.wrap (s3 + 1)))))
    (some (.inr (((.inr ())))))
/- backstitch/backstitchref05.Same -/
def D_ref05_Same (a0 : List Int) (a1 : List Int) : Option (Bool) :=
  cond (decide (((((List.length a0) : Nat) : Int)) ≠ ((((List.length a1) : Nat) : Int))))
    (some false)
    ((loopN (D_ref05_Same_L0 a0 a1) BIG 0).bind fun r6 =>
    caseS r6 (fun u7 =>
      some u7)
      (fun w8 =>
      some true))
def D_slots_Slots_Used_L0 (r5 : List Int) (s8 : Int × Int) : Option ((Int × Int) ⊕ (Int)) :=
  cond (decide (s8.1 < ((((List.length r5) : Nat) : Int))))
    ((ix s8.1 ((List.length r5))).bind fun j9 =>
    (r5[j9]?).bind fun x10 =>
    cond (decide (0 ≤ x10))
      (some (.inl ((IntKind.i64.wrap (s8.1 + 1), IntKind.i64.wrap (s8.2 + 1)))))
      (some (.inl ((IntKind.i64.wrap (s8.1 + 1), s8.2)))))
    (some (.inr s8.2))
/- (*backstitch/slots.Slots).Used -/
def D_slots_Slots_Used (a0 : Int) (a1 : Int) (a2 : Int) (a3 : Int) (a4 : List Int) : Option (Int) :=
  (D_slots_Slots_Tags a0 a1 a2 a3 a4).bind fun r5 =>
  (loopN (D_slots_Slots_Used_L0 r5) BIG ((0, 0))).bind fun r11 =>
  some r11
/- backstitch/backstitchlaw25.goes -/
def D_law25_goes  : Option (Bool) :=
  (D_arena_New 4).bind fun r0 =>
  caseS r0 (fun u1 =>
    (D_slots_New 2 1).bind fun r2 =>
    cond (decide (u1 ≠ 0))
      (some false)
      (some false))
    (fun w3 =>
    (D_slots_New_2 2 1 0 w3).bind fun r4 =>
    caseS r4 (fun u5 =>
      cond (decide (u5.1 ≠ 0))
        (some false)
        (some false))
      (fun w6 =>
      (D_slots_Slots_Store 1 4 [9] w6.2.2.1 w6.2.2.2.1 w6.2.2.2.2 w6.1 w6.2.1).bind fun r7 =>
      (D_slots_Slots_Least w6.2.2.1 w6.2.2.2.1 w6.2.2.2.2 w6.1 r7.2).bind fun r8 =>
      cond (decide (r7.1 = 0))
        ((D_arena_Arena_Image w6.1 r7.2).bind fun r9 =>
        (D_ref05_Same r9 ([0, 0, 5, 9])).bind fun r10 =>
        cond (r10)
          (cond (decide (r8.1 = 0))
            (cond (r8.2)
              ((D_slots_Slots_Used w6.2.2.1 w6.2.2.2.1 w6.2.2.2.2 w6.1 r7.2).bind fun r11 =>
              some (decide (r11 = 1)))
              (some false))
            (some false))
          (some false))
        (some false)))
def D_ref25_New_L0 (a0 : Int) (s5 : Int × Int × List (Int × List Int)) : Option ((Int × Int × List (Int × List Int)) ⊕ (Int × List (Int × List Int))) :=
  cond (decide (s5.1 < a0))
    (gd (fits (List.length s5.2.2 + 1) 32) (some (.inl ((IntKind.i64.wrap (s5.1 + 1), s5.2.1, (s5.2.2 ++ [((-1), [])]))))))
    (some (.inr (((s5.2.1, s5.2.2)))))
/- backstitch/backstitchref25.New -/
def D_ref25_New (a0 : Int) (a1 : Int) : Option (Int × List (Int × List Int)) :=
  (loopN (D_ref25_New_L0 a0) BIG ((0, a1, []))).bind fun r6 =>
  some ((r6.1, r6.2))
def D_ref25_with_L0 (a2 : Int) (s12 : Int × Int × (List (Int × List Int)) × Int × Int × (List Int) × List (Int × List Int)) : Option ((Int × Int × (List (Int × List Int)) × Int × Int × (List Int) × List (Int × List Int)) ⊕ (Int × (List (Int × List Int)) × Int × Int × (List Int) × List (Int × List Int))) :=
  cond (decide (s12.1 < ((((List.length s12.2.2.1) : Nat) : Int))))
    (cond (decide (s12.1 = a2))
      (gd (fits (List.length s12.2.2.2.2.2.2 + 1) 32) (some (.inl ((IntKind.i64.wrap (s12.1 + 1), s12.2.1, s12.2.2.1, s12.2.2.2.1, s12.2.2.2.2.1, s12.2.2.2.2.2.1, (s12.2.2.2.2.2.2 ++ [(s12.2.2.2.2.1, s12.2.2.2.2.2.1)]))))))
      ((rd s12.2.2.1 s12.1).bind fun x13 =>
      gd (fits (List.length s12.2.2.2.2.2.2 + 1) 32) (some (.inl ((IntKind.i64.wrap (s12.1 + 1), s12.2.1, s12.2.2.1, s12.2.2.2.1, s12.2.2.2.2.1, s12.2.2.2.2.2.1, (s12.2.2.2.2.2.2 ++ [(x13.1, x13.2)])))))))
    (some (.inr (((s12.2.1, s12.2.2.1, s12.2.2.2.1, s12.2.2.2.2.1, s12.2.2.2.2.2.1, s12.2.2.2.2.2.2)))))
/- backstitch/backstitchref25.with -/
def D_ref25_with (a0 : List (Int × List Int)) (a1 : Int) (a2 : Int) (a3 : Int) (a4 : List Int) : Option (Int × List (Int × List Int)) :=
  (loopN (D_ref25_with_L0 a2) BIG ((0, a1, a0, a1, a3, a4, []))).bind fun r14 =>
  some ((r14.1, r14.2.2.2.2.2))
/- backstitch/backstitchref25.Store -/
def D_ref25_Store (a0 : List (Int × List Int)) (a1 : Int) (a2 : Int) (a3 : Int) (a4 : List Int) : Option ((List (Int × List Int)) × Int × Int) :=
  cond (decide (a2 < 0))
    (some ((a0, a1, 2)))
    (cond (decide (((((List.length a0) : Nat) : Int)) ≤ a2))
      (some ((a0, a1, 2)))
      (cond (decide (a3 < 0))
        (some ((a0, a1, 2)))
        (cond (decide (65536 ≤ a3))
          (some ((a0, a1, 2)))
          (cond (decide (((((List.length a4) : Nat) : Int)) ≠ a1))
            (some ((a0, a1, 10)))
            ((rd a0 a2).bind fun x5 =>
            cond (decide (0 ≤ x5.1))
              (some ((a0, a1, 15)))
              ((D_ref25_with a0 a1 a2 a3 a4).bind fun r6 =>
              some ((r6.2, r6.1, 0))))))))
/- (*backstitch/arena.Arena).Read -/
def D_arena_Arena_Read (a0 : Int) (a1 : Int) (a2 : Int) (a3 : List Int) : Option (Int × List Int) :=
  cond (decide (a0 < 0))
    (some ((2, [])))
    (cond (decide (a1 < 0))
      (some ((2, [])))
      (cond (decide (a2 < a0))
        (some ((2, [])))
        (cond (decide ((IntKind.i64.wrap (a2 - a0)) < a1))
          (some ((2, [])))
          (gd (cutG a0 (IntKind.i64.wrap (a0 + a1)) ((List.length a3))) ((D_slices_Clone_uint64_uint64 ((List.take (((Int.toNat (IntKind.i64.wrap (a0 + a1))) - (Int.toNat a0))) (List.drop ((Int.toNat a0)) a3)))).bind fun r4 =>
          some ((0, r4)))))))
/- (*backstitch/slots.Slots).Restore -/
def D_slots_Slots_Restore (a0 : Int) (a1 : Int) (a2 : Int) (a3 : Int) (a4 : Int) (a5 : List Int) : Option (Int × Int × List Int) :=
  (D_slots_place_has a1 a2 a3 a0).bind fun r6 =>
  cond (!r6)
    (some ((0, 2, [])))
    ((D_slots_place_word a1 a2 a3 a0).bind fun r7 =>
    (D_arena_Arena_Get r7 a4 a5).bind fun r8 =>
    (D_slots_place_word a1 a2 a3 a0).bind fun r9 =>
    cond (decide (r8.1 = 0))
      (some ((0, 16, [])))
      ((D_arena_Arena_Read (IntKind.i64.wrap (r9 + 1)) a3 a4 a5).bind fun r10 =>
      some ((IntKind.i64.wrap ((IntKind.i64.wrap (r8.1)) - 1), 0, r10.2))))
/- backstitch/backstitchref25.Restore -/
def D_ref25_Restore (a0 : List (Int × List Int)) (a1 : Int) (a2 : Int) : Option (Int × (List Int) × Int) :=
  cond (decide (a2 < 0))
    (some ((0, [], 2)))
    (cond (decide (((((List.length a0) : Nat) : Int)) ≤ a2))
      (some ((0, [], 2)))
      ((rd a0 a2).bind fun x3 =>
      cond (decide (x3.1 < 0))
        (some ((0, [], 16)))
        ((rd a0 a2).bind fun x4 =>
        (rd a0 a2).bind fun x5 =>
        some ((x4.1, x5.2, 0)))))
/- backstitch/backstitchref25.Free -/
def D_ref25_Free (a0 : List (Int × List Int)) (a1 : Int) (a2 : Int) : Option ((List (Int × List Int)) × Int × Int) :=
  cond (decide (a2 < 0))
    (some ((a0, a1, 2)))
    (cond (decide (((((List.length a0) : Nat) : Int)) ≤ a2))
      (some ((a0, a1, 2)))
      ((rd a0 a2).bind fun x3 =>
      cond (decide (x3.1 < 0))
        (some ((a0, a1, 16)))
        ((D_ref25_with a0 a1 a2 (-1) []).bind fun r4 =>
        some ((r4.2, r4.1, 0)))))
/- (*backstitch/slots.Slots).Free -/
def D_slots_Slots_Free (a0 : Int) (a1 : Int) (a2 : Int) (a3 : Int) (a4 : Int) (a5 : List Int) : Option (Int × List Int) :=
  (D_slots_place_has a1 a2 a3 a0).bind fun r6 =>
  cond (!r6)
    (some ((2, a5)))
    ((D_slots_place_word a1 a2 a3 a0).bind fun r7 =>
    (D_arena_Arena_Get r7 a4 a5).bind fun r8 =>
    (D_slots_place_word a1 a2 a3 a0).bind fun r9 =>
    cond (decide (r8.1 = 0))
      (some ((16, a5)))
      ((D_slots_place_size a1 a2 a3).bind fun r10 =>
      gd (Nat.beq 1 (Sh.w (.int .u64)) && decide (0 ≤ r10) && decide (r10 ≤ r10) && decide ((8 : Int) * r10 ≤ 140737488355328) && Nat.ble 1 8) ((D_arena_Arena_Write r9 ((List.replicate (Int.toNat r10) (0 : Int))) a4 a5).bind fun r11 =>
      some ((r11.1, r11.2)))))
def D_ref25_Least_L0 (a0 : List (Int × List Int)) (s3 : Int) : Option ((Int) ⊕ ((Int × Bool) ⊕ (Unit))) :=
  cond (decide (s3 < ((((List.length a0) : Nat) : Int))))
    ((rd a0 s3).bind fun x4 =>
    cond (decide (x4.1 < 0))
      (some (.inr (((.inl ((s3, true)))))))
      (some (.inl (IntKind.i64.wrap (s3 + 1)))))
    (some (.inr (((.inr ())))))
/- backstitch/backstitchref25.Least -/
def D_ref25_Least (a0 : List (Int × List Int)) (a1 : Int) : Option (Int × Bool) :=
  (loopN (D_ref25_Least_L0 a0) BIG 0).bind fun r5 =>
  caseS r5 (fun u6 =>
    some ((u6.1, u6.2)))
    (fun w7 =>
    some ((0, false)))
def D_ref25_Tags_L0 (a0 : List (Int × List Int)) (s4 : Int × List Int) : Option ((Int × List Int) ⊕ (List Int)) :=
  cond (decide (s4.1 < ((((List.length a0) : Nat) : Int))))
    ((rd a0 s4.1).bind fun x5 =>
    gd (fits (List.length s4.2 + 1) 8) (some (.inl ((IntKind.i64.wrap (s4.1 + 1), (s4.2 ++ [x5.1]))))))
    (some (.inr s4.2))
/- backstitch/backstitchref25.Tags -/
def D_ref25_Tags (a0 : List (Int × List Int)) (a1 : Int) : Option (List Int) :=
  (loopN (D_ref25_Tags_L0 a0) BIG ((0, []))).bind fun r6 =>
  some r6
def D_ref07_Ints_L0 (a0 : List Int) (a1 : List Int) (s3 : Int) : Option ((Int) ⊕ ((Bool) ⊕ (Unit))) :=
  cond (decide (s3 < ((((List.length a0) : Nat) : Int))))
    ((rd a0 s3).bind fun x4 =>
    (rd a1 s3).bind fun x5 =>
    cond (decide (x4 ≠ x5))
      (some (.inr (((.inl false)))))
      (some (.inl (IntKind.i64.wrap (s3 + 1)))))
    (some (.inr (((.inr ())))))
/- backstitch/backstitchref07.Ints -/
def D_ref07_Ints (a0 : List Int) (a1 : List Int) : Option (Bool) :=
  cond (decide (((((List.length a0) : Nat) : Int)) ≠ ((((List.length a1) : Nat) : Int))))
    (some false)
    ((loopN (D_ref07_Ints_L0 a0 a1) BIG 0).bind fun r6 =>
    caseS r6 (fun u7 =>
      some u7)
      (fun w8 =>
      some true))
def D_ref25_Used_L0 (a0 : List (Int × List Int)) (s4 : Int × Int) : Option ((Int × Int) ⊕ (Int)) :=
  cond (decide (s4.1 < ((((List.length a0) : Nat) : Int))))
    ((rd a0 s4.1).bind fun x5 =>
    cond (decide (0 ≤ x5.1))
      (some (.inl ((IntKind.i64.wrap (s4.1 + 1), IntKind.i64.wrap (s4.2 + 1)))))
      (some (.inl ((IntKind.i64.wrap (s4.1 + 1), s4.2)))))
    (some (.inr s4.2))
/- backstitch/backstitchref25.Used -/
def D_ref25_Used (a0 : List (Int × List Int)) (a1 : Int) : Option (Int) :=
  (loopN (D_ref25_Used_L0 a0) BIG ((0, 0))).bind fun r6 =>
  some r6
def D_ref25_Words_L0 (a0 : List (Int × List Int)) (a1 : Int) (s4 : Int × List Int) (s8 : Int × List Int) : Option ((Int × List Int) ⊕ (List Int)) :=
  cond (decide (s8.1 < a1))
    (((((rd a0 s4.1).bind fun x9 =>
    cond (decide (0 ≤ x9.1))
      ((rd a0 s4.1).bind fun x10 =>
      (rd x10.2 s8.1).bind fun x11 =>
      some x11)
      (some 0)) : Option (Int))).bind fun s12 =>
    gd (fits (List.length s8.2 + 1) 8) (some (.inl ((IntKind.i64.wrap (s8.1 + 1), (s8.2 ++ [s12]))))))
    (some (.inr s8.2))
def D_ref25_Words_L1 (a0 : List (Int × List Int)) (a1 : Int) (s4 : Int × List Int) : Option ((Int × List Int) ⊕ (List Int)) :=
  cond (decide (s4.1 < ((((List.length a0) : Nat) : Int))))
    ((rd a0 s4.1).bind fun x5 =>
    gd (fits (List.length s4.2 + 1) 8) ((loopN (D_ref25_Words_L0 a0 a1 s4) BIG ((0, (s4.2 ++ [IntKind.u64.wrap (IntKind.i64.wrap (x5.1 + 1))])))).bind fun r13 =>
    some (.inl ((IntKind.i64.wrap (s4.1 + 1), r13)))))
    (some (.inr s4.2))
/- backstitch/backstitchref25.Words -/
def D_ref25_Words (a0 : List (Int × List Int)) (a1 : Int) : Option (List Int) :=
  (loopN (D_ref25_Words_L1 a0 a1) BIG ((0, []))).bind fun r14 =>
  some r14
def D_law25_SlotsPlays_L0 (a0 : Int) (a1 : Int) (a2 : Int) (a3 : List (Int × Int × Int × List Int)) (s23 : Int × Int × (List Int) × Int × Int × Int × (List (Int × List Int)) × Int) : Option ((Int × Int × (List Int) × Int × Int × Int × (List (Int × List Int)) × Int) ⊕ ((Bool × Int × (List Int) × Int × Int × Int × (List (Int × List Int)) × Int) ⊕ (Int × (List Int) × Int × Int × Int × (List (Int × List Int)) × Int))) :=
  cond (decide (s23.1 < ((((List.length a3) : Nat) : Int))))
    ((rd a3 s23.1).bind fun x24 =>
    (((cond (decide (x24.1 = 0))
      ((D_ref25_Store s23.2.2.2.2.2.2.1 s23.2.2.2.2.2.2.2 x24.2.1 x24.2.2.1 x24.2.2.2).bind fun r25 =>
      (D_slots_Slots_Store x24.2.1 x24.2.2.1 x24.2.2.2 s23.2.2.2.1 s23.2.2.2.2.1 s23.2.2.2.2.2.1 s23.2.1 s23.2.2.1).bind fun r26 =>
      cond (decide (r26.1 ≠ r25.2.2))
        (some ((.inl ((false, r26.2, r25.1, r25.2.1, s23.2.1, s23.2.2.2.1, s23.2.2.2.2.1, s23.2.2.2.2.2.1, x24.1, x24.2.1, x24.2.2.1, x24.2.2.2)))))
        (some ((.inr ((r26.2, r25.1, r25.2.1, s23.2.1, s23.2.2.2.1, s23.2.2.2.2.1, s23.2.2.2.2.2.1, x24.1, x24.2.1, x24.2.2.1, x24.2.2.2))))))
      (cond (decide (x24.1 = 1))
        ((D_slots_Slots_Restore x24.2.1 s23.2.2.2.1 s23.2.2.2.2.1 s23.2.2.2.2.2.1 s23.2.1 s23.2.2.1).bind fun r27 =>
        (D_ref25_Restore s23.2.2.2.2.2.2.1 s23.2.2.2.2.2.2.2 x24.2.1).bind fun r28 =>
        cond (decide (r27.1 ≠ r28.1))
          (some ((.inl ((false, s23.2.2.1, s23.2.2.2.2.2.2.1, s23.2.2.2.2.2.2.2, s23.2.1, s23.2.2.2.1, s23.2.2.2.2.1, s23.2.2.2.2.2.1, x24.1, x24.2.1, x24.2.2.1, x24.2.2.2)))))
          ((D_ref05_Same r27.2.2 r28.2.1).bind fun r29 =>
          cond (!r29)
            (some ((.inl ((false, s23.2.2.1, s23.2.2.2.2.2.2.1, s23.2.2.2.2.2.2.2, s23.2.1, s23.2.2.2.1, s23.2.2.2.2.1, s23.2.2.2.2.2.1, x24.1, x24.2.1, x24.2.2.1, x24.2.2.2)))))
            (cond (decide (r27.2.1 ≠ r28.2.2))
              (some ((.inl ((false, s23.2.2.1, s23.2.2.2.2.2.2.1, s23.2.2.2.2.2.2.2, s23.2.1, s23.2.2.2.1, s23.2.2.2.2.1, s23.2.2.2.2.2.1, x24.1, x24.2.1, x24.2.2.1, x24.2.2.2)))))
              (some ((.inr ((s23.2.2.1, s23.2.2.2.2.2.2.1, s23.2.2.2.2.2.2.2, s23.2.1, s23.2.2.2.1, s23.2.2.2.2.1, s23.2.2.2.2.2.1, x24.1, x24.2.1, x24.2.2.1, x24.2.2.2))))))))
        ((D_ref25_Free s23.2.2.2.2.2.2.1 s23.2.2.2.2.2.2.2 x24.2.1).bind fun r30 =>
        (D_slots_Slots_Free x24.2.1 s23.2.2.2.1 s23.2.2.2.2.1 s23.2.2.2.2.2.1 s23.2.1 s23.2.2.1).bind fun r31 =>
        cond (decide (r31.1 ≠ r30.2.2))
          (some ((.inl ((false, r31.2, r30.1, r30.2.1, s23.2.1, s23.2.2.2.1, s23.2.2.2.2.1, s23.2.2.2.2.2.1, x24.1, x24.2.1, x24.2.2.1, x24.2.2.2)))))
          (some ((.inr ((r31.2, r30.1, r30.2.1, s23.2.1, s23.2.2.2.1, s23.2.2.2.2.1, s23.2.2.2.2.2.1, x24.1, x24.2.1, x24.2.2.1, x24.2.2.2)))))))) : Option ((Bool × (List Int) × (List (Int × List Int)) × Int × Int × Int × Int × Int × Int × Int × Int × List Int) ⊕ ((List Int) × (List (Int × List Int)) × Int × Int × Int × Int × Int × Int × Int × Int × List Int)))).bind fun s32 =>
    caseS s32 (fun u33 =>
      some (.inr (((.inl ((u33.1, u33.2.2.2.2.1, u33.2.1, u33.2.2.2.2.2.1, u33.2.2.2.2.2.2.1, u33.2.2.2.2.2.2.2.1, u33.2.2.1, u33.2.2.2.1)))))))
      (fun w34 =>
      (D_slots_Slots_Least w34.2.2.2.2.1 w34.2.2.2.2.2.1 w34.2.2.2.2.2.2.1 w34.2.2.2.1 w34.1).bind fun r35 =>
      (D_ref25_Least w34.2.1 w34.2.2.1).bind fun r36 =>
      (D_arena_Arena_Read a2 (IntKind.i64.wrap (a0 * (IntKind.i64.wrap (a1 + 1)))) w34.2.2.2.1 w34.1).bind fun r37 =>
      (D_slots_Slots_Tags w34.2.2.2.2.1 w34.2.2.2.2.2.1 w34.2.2.2.2.2.2.1 w34.2.2.2.1 w34.1).bind fun r38 =>
      (D_ref25_Tags w34.2.1 w34.2.2.1).bind fun r39 =>
      (D_ref07_Ints r38 r39).bind fun r40 =>
      cond (!r40)
        (some (.inr (((.inl ((false, w34.2.2.2.1, w34.1, w34.2.2.2.2.1, w34.2.2.2.2.2.1, w34.2.2.2.2.2.2.1, w34.2.1, w34.2.2.1)))))))
        ((D_slots_Slots_Used w34.2.2.2.2.1 w34.2.2.2.2.2.1 w34.2.2.2.2.2.2.1 w34.2.2.2.1 w34.1).bind fun r41 =>
        (D_ref25_Used w34.2.1 w34.2.2.1).bind fun r42 =>
        cond (decide (r41 ≠ r42))
          (some (.inr (((.inl ((false, w34.2.2.2.1, w34.1, w34.2.2.2.2.1, w34.2.2.2.2.2.1, w34.2.2.2.2.2.2.1, w34.2.1, w34.2.2.1)))))))
          (cond (decide (r35.1 ≠ r36.1))
            (some (.inr (((.inl ((false, w34.2.2.2.1, w34.1, w34.2.2.2.2.1, w34.2.2.2.2.2.1, w34.2.2.2.2.2.2.1, w34.2.1, w34.2.2.1)))))))
            (cond (!(r35.2 == r36.2))
              (some (.inr (((.inl ((false, w34.2.2.2.1, w34.1, w34.2.2.2.2.1, w34.2.2.2.2.2.1, w34.2.2.2.2.2.2.1, w34.2.1, w34.2.2.1)))))))
              (cond (decide (r37.1 ≠ 0))
                (some (.inr (((.inl ((false, w34.2.2.2.1, w34.1, w34.2.2.2.2.1, w34.2.2.2.2.2.1, w34.2.2.2.2.2.2.1, w34.2.1, w34.2.2.1)))))))
                ((D_ref25_Words w34.2.1 w34.2.2.1).bind fun r43 =>
                (D_ref05_Same r37.2 r43).bind fun r44 =>
                cond (!r44)
                  (some (.inr (((.inl ((false, w34.2.2.2.1, w34.1, w34.2.2.2.2.1, w34.2.2.2.2.2.1, w34.2.2.2.2.2.2.1, w34.2.1, w34.2.2.1)))))))
                  (some (.inl ((IntKind.i64.wrap (s23.1 + 1), w34.2.2.2.1, w34.1, w34.2.2.2.2.1, w34.2.2.2.2.2.1, w34.2.2.2.2.2.2.1, w34.2.1, w34.2.2.1)))))))))))
    (some (.inr (((.inr ((s23.2.1, s23.2.2.1, s23.2.2.2.1, s23.2.2.2.2.1, s23.2.2.2.2.2.1, s23.2.2.2.2.2.2.1, s23.2.2.2.2.2.2.2)))))))
/- backstitch/backstitchlaw25.SlotsPlays -/
def D_law25_SlotsPlays (a0 : Int) (a1 : Int) (a2 : Int) (a3 : List (Int × Int × Int × List Int)) : Option (Bool) :=
  (((cond (decide (a0 < 0))
    (some true)
    (cond (decide (30 < a0))
      (some true)
      (cond (decide (a1 < 1))
        (some true)
        (cond (decide (8 < a1))
          (some true)
          (cond (decide (a2 < 0))
            (some true)
            (cond (decide (20 < a2))
              (some true)
              (some (decide (60 < ((((List.length a3) : Nat) : Int))))))))))) : Option (Bool))).bind fun s4 =>
  cond (s4)
    ((D_law25_goes).bind fun r5 =>
    some r5)
    ((D_arena_New (IntKind.i64.wrap ((IntKind.i64.wrap (a2 + (IntKind.i64.wrap (a0 * (IntKind.i64.wrap (a1 + 1)))))) + 3))).bind fun r6 =>
    caseS r6 (fun u7 =>
      cond (decide (u7 ≠ 0))
        (some false)
        (some false))
      (fun w8 =>
      (D_arena_Arena_Take a2 0 w8).bind fun r9 =>
      (D_slots_New_2 a0 a1 r9.2.2 w8).bind fun r10 =>
      caseS r10 (fun u11 =>
        cond (decide (r9.2.1 ≠ 0))
          (some false)
          (cond (decide (u11.1 ≠ 0))
            (some false)
            (some false)))
        (fun w12 =>
        cond (decide (r9.2.1 ≠ 0))
          (some false)
          ((D_arena_Arena_Left w12.1 w12.2.1).bind fun r13 =>
          cond (decide (r13 ≠ 3))
            (some false)
            ((D_ref25_New a0 a1).bind fun r14 =>
            (loopN (D_law25_SlotsPlays_L0 a0 a1 a2 a3) BIG ((0, w12.1, w12.2.1, w12.2.2.1, w12.2.2.2.1, w12.2.2.2.2, r14.2, r14.1))).bind fun r45 =>
            caseS r45 (fun u46 =>
              some u46.1)
              (fun w47 =>
              (D_law25_goes).bind fun r48 =>
              some r48))))))
end Go.V
