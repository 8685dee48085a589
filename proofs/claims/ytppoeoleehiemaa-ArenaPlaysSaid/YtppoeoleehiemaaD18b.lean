/- A part of the proofs of this seat: what functions of the program answer on the abstract machine. -/
import Derived.Test.YtppoeoleehiemaaV22
namespace Go.V
set_option linter.unusedVariables false
set_option linter.unusedSimpArgs false
open Go.Ab
set_option linter.unusedVariables false
/- backstitch/arena.right -/
def D_arena_right (a0 : Int) : Option (Int) :=
  cond (decide (a0 < 1))
    (some 2)
    (cond (decide (1048576 < a0))
      (some 12)
      (some 0))
/- backstitch/arena.New -/
def D_arena_New (a0 : Int) : Option ((Int) ⊕ (List Int)) :=
  (D_arena_right a0).bind fun r1 =>
  cond (decide (r1 ≠ 0))
    (some ((.inl r1)))
    (gd (Nat.beq 1 (Sh.w (.int .u64)) && decide (0 ≤ a0) && decide (a0 ≤ a0) && decide ((8 : Int) * a0 ≤ 140737488355328) && Nat.ble 1 8) (some ((.inr ((List.replicate (Int.toNat a0) (0 : Int)))))))
/- (*backstitch/arena.Arena).Left -/
def D_arena_Arena_Left (a0 : Int) (a1 : List Int) : Option (Int) :=
  some (IntKind.i64.wrap (((((List.length a1) : Nat) : Int)) - a0))
/- (*backstitch/arena.Arena).Take -/
def D_arena_Arena_Take (a0 : Int) (a1 : Int) (a2 : List Int) : Option (Int × Int × Int) :=
  cond (decide (a0 < 0))
    (some ((0, 2, a1)))
    ((D_arena_Arena_Left a1 a2).bind fun r3 =>
    cond (decide (r3 < a0))
      (some ((0, 15, a1)))
      (some ((a1, 0, IntKind.i64.wrap (a1 + a0)))))
/- (*backstitch/arena.Arena).Size -/
def D_arena_Arena_Size (a0 : Int) (a1 : List Int) : Option (Int) :=
  some ((((List.length a1) : Nat) : Int))
/- (*backstitch/arena.Arena).Set -/
def D_arena_Arena_Set (a0 : Int) (a1 : Int) (a2 : Int) (a3 : List Int) : Option (Int × List Int) :=
  cond (decide (a0 < 0))
    (some ((2, a3)))
    (cond (decide (a2 < a0))
      (some ((2, a3)))
      (cond (decide ((IntKind.i64.wrap (a2 - a0)) < 1))
        (some ((2, a3)))
        (gd (cutG a0 (IntKind.i64.wrap (a0 + 1)) ((List.length a3))) (some ((0, (blit a3 ((Int.toNat a0)) (((Int.toNat (IntKind.i64.wrap (a0 + 1))) - (Int.toNat a0))) (([a1] : List Int)))))))))
/- backstitch/backstitchlaw18.goes -/
def D_law18_goes  : Option (Bool) :=
  (D_arena_New 5).bind fun r0 =>
  caseS r0 (fun u1 =>
    cond (decide (u1 ≠ 0))
      (some false)
      (some false))
    (fun w2 =>
    (D_arena_Arena_Take 2 0 w2).bind fun r3 =>
    (D_arena_Arena_Take 2 r3.2.2 w2).bind fun r4 =>
    (D_arena_Arena_Take 2 r4.2.2 w2).bind fun r5 =>
    cond (decide (r3.1 = 0))
      (cond (decide (r3.2.1 = 0))
        (cond (decide (r4.1 = 2))
          (cond (decide (r4.2.1 = 0))
            (cond (decide (r5.2.1 = 15))
              ((D_arena_Arena_Left r5.2.2 w2).bind fun r6 =>
              cond (decide (r6 = 1))
                ((D_arena_Arena_Size r5.2.2 w2).bind fun r7 =>
                cond (decide (r7 = 5))
                  ((D_arena_Arena_Set 4 1 r5.2.2 w2).bind fun r8 =>
                  some (decide (r8.1 = 2)))
                  (some false))
                (some false))
              (some false))
            (some false))
          (some false))
        (some false))
      (some false))
/- slices.Clone[[]uint64,uint64] -/
def D_slices_Clone_uint64_uint64 (l : List Int) : Option (List Int) := gd (fits (0 + l.length) 8) (some l)
/- backstitch/arena.From -/
def D_arena_From (a0 : List Int) : Option ((Int) ⊕ (List Int)) :=
  (D_arena_right ((((List.length a0) : Nat) : Int))).bind fun r1 =>
  cond (decide (r1 ≠ 0))
    (some ((.inl r1)))
    ((D_slices_Clone_uint64_uint64 a0).bind fun r2 =>
    some ((.inr r2)))
def D_ref18_From_L0 (a0 : List Int) (s3 : Int × List Int) : Option ((Int × List Int) ⊕ (List Int)) :=
  cond (decide (s3.1 < ((((List.length a0) : Nat) : Int))))
    ((rd a0 s3.1).bind fun x4 =>
    gd (fits (List.length s3.2 + 1) 8) (some (.inl ((IntKind.i64.wrap (s3.1 + 1), (s3.2 ++ [x4]))))))
    (some (.inr s3.2))
/- backstitch/backstitchref18.From -/
def D_ref18_From (a0 : List Int) : Option (List Int) :=
  (loopN (D_ref18_From_L0 a0) BIG ((0, []))).bind fun r5 =>
  some r5
/- backstitch/backstitchref18.Take -/
def D_ref18_Take (a0 : List Int) (a1 : Int) (a2 : Int) : Option (Int × (List Int) × Int × Int) :=
  cond (decide (a2 < 0))
    (some ((0, a0, a1, 2)))
    (cond (decide ((IntKind.i64.wrap (((((List.length a0) : Nat) : Int)) - a1)) < a2))
      (some ((0, a0, a1, 15)))
      (some ((a1, a0, IntKind.i64.wrap (a1 + a2), 0))))
/- (*backstitch/arena.Arena).Get -/
def D_arena_Arena_Get (a0 : Int) (a1 : Int) (a2 : List Int) : Option (Int × Int) :=
  cond (decide (a0 < 0))
    (some ((0, 2)))
    (cond (decide (a1 < a0))
      (some ((0, 2)))
      (cond (decide ((IntKind.i64.wrap (a1 - a0)) < 1))
        (some ((0, 2)))
        (gd (cutG a0 (IntKind.i64.wrap (a0 + 1)) ((List.length a2))) ((D_slices_Clone_uint64_uint64 ((List.take (((Int.toNat (IntKind.i64.wrap (a0 + 1))) - (Int.toNat a0))) (List.drop ((Int.toNat a0)) a2)))).bind fun r3 =>
        (ix 0 ((List.length r3))).bind fun j4 =>
        (r3[j4]?).bind fun x5 =>
        some ((x5, 0))))))
/- backstitch/backstitchref18.Within -/
def D_ref18_Within (a0 : List Int) (a1 : Int) (a2 : Int) (a3 : Int) : Option (Bool) :=
  cond (decide (0 ≤ a2))
    (cond (decide (0 ≤ a3))
      (cond (decide (a2 ≤ a1))
        (some (decide (a3 ≤ (IntKind.i64.wrap (a1 - a2)))))
        (some false))
      (some false))
    (some false)
def D_ref18_Read_L0 (a0 : List Int) (a2 : Int) (a3 : Int) (s7 : Int × List Int) : Option ((Int × List Int) ⊕ (List Int)) :=
  cond (decide (s7.1 < a3))
    ((rd a0 (IntKind.i64.wrap (a2 + s7.1))).bind fun x8 =>
    gd (fits (List.length s7.2 + 1) 8) (some (.inl ((IntKind.i64.wrap (s7.1 + 1), (s7.2 ++ [x8]))))))
    (some (.inr s7.2))
/- backstitch/backstitchref18.Read -/
def D_ref18_Read (a0 : List Int) (a1 : Int) (a2 : Int) (a3 : Int) : Option (Int × List Int) :=
  (D_ref18_Within a0 a1 a2 a3).bind fun r4 =>
  cond (!r4)
    (some ((2, [])))
    ((loopN (D_ref18_Read_L0 a0 a2 a3) BIG ((0, []))).bind fun r9 =>
    some ((0, r9)))
def D_ref18_Write_L0 (a2 : Int) (a3 : List Int) (s8 : Int × List Int) : Option ((Int × List Int) ⊕ (List Int)) :=
  cond (decide (s8.1 < ((((List.length a3) : Nat) : Int))))
    ((rd a3 s8.1).bind fun x9 =>
    (ix (IntKind.i64.wrap (a2 + s8.1)) ((List.length s8.2))).bind fun j10 =>
    (s8.2[j10]?).bind fun x11 =>
    some (.inl ((IntKind.i64.wrap (s8.1 + 1), (List.set s8.2 j10 x9)))))
    (some (.inr s8.2))
/- backstitch/backstitchref18.Write -/
def D_ref18_Write (a0 : List Int) (a1 : Int) (a2 : Int) (a3 : List Int) : Option ((List Int) × Int × Int) :=
  (D_ref18_Within a0 a1 a2 ((((List.length a3) : Nat) : Int))).bind fun r4 =>
  cond (!r4)
    (some ((a0, a1, 2)))
    ((D_ref18_From a0).bind fun r5 =>
    (loopN (D_ref18_Write_L0 a2 a3) BIG ((0, r5))).bind fun r12 =>
    some ((r12, a1, 0)))
/- (*backstitch/arena.Arena).Read -/
def D_arena_Arena_Read (a0 : Int) (a1 : Int) (a2 : Int) (a3 : List Int) : Option (Int × List Int) :=
  cond (decide (a0 < 0))
    (some ((2, [])))
    (cond (decide (a1 < 0))
      (some ((2, [])))
      (cond (decide (a2 < a0))
        (some ((2, [])))
        (cond (decide ((IntKind.i64.wrap (a2 - a0)) < a1))
          (some ((2, [])))
          (gd (cutG a0 (IntKind.i64.wrap (a0 + a1)) ((List.length a3))) ((D_slices_Clone_uint64_uint64 ((List.take (((Int.toNat (IntKind.i64.wrap (a0 + a1))) - (Int.toNat a0))) (List.drop ((Int.toNat a0)) a3)))).bind fun r4 =>
          some ((0, r4)))))))
def D_ref05_Same_L0 (a0 : List Int) (a1 : List Int) (s3 : Int) : Option ((Int) ⊕ ((Bool) ⊕ (Unit))) :=
  cond (decide (s3 < ((((List.length a0) : Nat) : Int))))
    ((rd a0 s3).bind fun x4 =>
    (rd a1 s3).bind fun x5 =>
    cond (decide (x4 ≠ x5))
      (some (.inr (((.inl false)))))
      (some (.inl (IntKind.i64.wrap (s3 + 1)))))
    (some (.inr (((.inr ())))))
/- backstitch/backstitchref05.Same -/
def D_ref05_Same (a0 : List Int) (a1 : List Int) : Option (Bool) :=
  cond (decide (((((List.length a0) : Nat) : Int)) ≠ ((((List.length a1) : Nat) : Int))))
    (some false)
    ((loopN (D_ref05_Same_L0 a0 a1) BIG 0).bind fun r6 =>
    caseS r6 (fun u7 =>
      some u7)
      (fun w8 =>
      some true))
/- (*backstitch/arena.Arena).Write -/
def D_arena_Arena_Write (a0 : Int) (a1 : List Int) (a2 : Int) (a3 : List Int) : Option (Int × List Int) :=
  cond (decide (a0 < 0))
    (some ((2, a3)))
    (cond (decide (((((List.length a1) : Nat) : Int)) < 0))
      (some ((2, a3)))
      (cond (decide (a2 < a0))
        (some ((2, a3)))
        (cond (decide ((IntKind.i64.wrap (a2 - a0)) < ((((List.length a1) : Nat) : Int))))
          (some ((2, a3)))
          (gd (cutG a0 (IntKind.i64.wrap (a0 + ((((List.length a1) : Nat) : Int)))) ((List.length a3))) (some ((0, (blit a3 ((Int.toNat a0)) (((Int.toNat (IntKind.i64.wrap (a0 + ((((List.length a1) : Nat) : Int))))) - (Int.toNat a0))) a1))))))))
/- backstitch/backstitchlaw18.Do -/
def D_law18_Do (a0 : List Int) (a1 : Int) (a2 : Int) (a3 : Int) (a4 : Int) (a5 : Int) (a6 : List Int) (a7 : Int) (a8 : List Int) : Option (Bool × (List Int) × Int × Int × List Int) :=
  cond (decide (a2 = 0))
    ((D_arena_Arena_Take a4 a7 a8).bind fun r9 =>
    (D_ref18_Take a0 a1 a4).bind fun r10 =>
    cond (decide (r9.1 = r10.1))
      (some ((decide (r9.2.1 = r10.2.2.2), r10.2.1, r10.2.2.1, r9.2.2, a8)))
      (some ((false, r10.2.1, r10.2.2.1, r9.2.2, a8))))
    (cond (decide (a2 = 1))
      ((D_arena_Arena_Get a3 a7 a8).bind fun r11 =>
      (D_ref18_Read a0 a1 a3 1).bind fun r12 =>
      cond (decide (r12.1 ≠ 0))
        (cond (decide (r11.2 = r12.1))
          (some ((decide (r11.1 = 0), a0, a1, a7, a8)))
          (some ((false, a0, a1, a7, a8))))
        (cond (decide (r11.2 = 0))
          ((ix 0 ((List.length r12.2))).bind fun j13 =>
          (r12.2[j13]?).bind fun x14 =>
          some ((decide (r11.1 = x14), a0, a1, a7, a8)))
          (some ((false, a0, a1, a7, a8)))))
      (cond (decide (a2 = 2))
        ((D_ref18_Write a0 a1 a3 [a5]).bind fun r15 =>
        (D_arena_Arena_Set a3 a5 a7 a8).bind fun r16 =>
        some ((decide (r16.1 = r15.2.2), r15.1, r15.2.1, a7, r16.2)))
        (cond (decide (a2 = 3))
          ((D_arena_Arena_Read a3 a4 a7 a8).bind fun r17 =>
          (D_ref18_Read a0 a1 a3 a4).bind fun r18 =>
          (D_ref05_Same r17.2 r18.2).bind fun r19 =>
          cond (r19)
            (some ((decide (r17.1 = r18.1), a0, a1, a7, a8)))
            (some ((false, a0, a1, a7, a8))))
          ((D_ref18_Write a0 a1 a3 a6).bind fun r20 =>
          (D_arena_Arena_Write a3 a6 a7 a8).bind fun r21 =>
          some ((decide (r21.1 = r20.2.2), r20.1, r20.2.1, a7, r21.2))))))
/- (*backstitch/arena.Arena).Image -/
def D_arena_Arena_Image (a0 : Int) (a1 : List Int) : Option (List Int) :=
  (D_slices_Clone_uint64_uint64 a1).bind fun r2 =>
  some r2
def D_law18_ArenaPlays_L0 (a1 : List (Int × Int × Int × Int × List Int)) (s13 : Int × Int × (List Int) × (List Int) × Int) : Option ((Int × Int × (List Int) × (List Int) × Int) ⊕ ((Bool × Int × (List Int) × (List Int) × Int) ⊕ (Int × (List Int) × (List Int) × Int))) :=
  cond (decide (s13.1 < ((((List.length a1) : Nat) : Int))))
    ((rd a1 s13.1).bind fun x14 =>
    (D_law18_Do s13.2.2.2.1 s13.2.2.2.2 x14.1 x14.2.1 x14.2.2.1 x14.2.2.2.1 x14.2.2.2.2 s13.2.1 s13.2.2.1).bind fun r15 =>
    cond (!r15.1)
      (some (.inr (((.inl ((false, r15.2.2.2.1, r15.2.2.2.2, r15.2.1, r15.2.2.1)))))))
      ((D_arena_Arena_Left r15.2.2.2.1 r15.2.2.2.2).bind fun r16 =>
      cond (decide (r16 ≠ (IntKind.i64.wrap (((((List.length r15.2.1) : Nat) : Int)) - r15.2.2.1))))
        (some (.inr (((.inl ((false, r15.2.2.2.1, r15.2.2.2.2, r15.2.1, r15.2.2.1)))))))
        ((D_arena_Arena_Size r15.2.2.2.1 r15.2.2.2.2).bind fun r17 =>
        cond (decide (r17 ≠ ((((List.length r15.2.1) : Nat) : Int))))
          (some (.inr (((.inl ((false, r15.2.2.2.1, r15.2.2.2.2, r15.2.1, r15.2.2.1)))))))
          ((D_arena_Arena_Image r15.2.2.2.1 r15.2.2.2.2).bind fun r18 =>
          (D_ref05_Same r18 r15.2.1).bind fun r19 =>
          cond (!r19)
            (some (.inr (((.inl ((false, r15.2.2.2.1, r15.2.2.2.2, r15.2.1, r15.2.2.1)))))))
            (some (.inl ((IntKind.i64.wrap (s13.1 + 1), r15.2.2.2.1, r15.2.2.2.2, r15.2.1, r15.2.2.1))))))))
    (some (.inr (((.inr ((s13.2.1, s13.2.2.1, s13.2.2.2.1, s13.2.2.2.2)))))))
/- backstitch/backstitchlaw18.ArenaPlays -/
def D_law18_ArenaPlays (a0 : List Int) (a1 : List (Int × Int × Int × Int × List Int)) : Option (Bool) :=
  (((cond (decide (((((List.length a0) : Nat) : Int)) < 1))
    (some true)
    (cond (decide (200 < ((((List.length a0) : Nat) : Int))))
      (some true)
      (some (decide (60 < ((((List.length a1) : Nat) : Int))))))) : Option (Bool))).bind fun s2 =>
  cond (s2)
    ((D_law18_goes).bind fun r3 =>
    some r3)
    ((D_arena_From a0).bind fun r4 =>
    caseS r4 (fun u5 =>
      cond (decide (u5 ≠ 0))
        (some false)
        (some false))
      (fun w6 =>
      (D_ref18_From a0).bind fun r7 =>
      (loopN (D_law18_ArenaPlays_L0 a1) BIG ((0, 0, w6, r7, 0))).bind fun r20 =>
      caseS r20 (fun u21 =>
        some u21.1)
        (fun w22 =>
        (D_law18_goes).bind fun r23 =>
        some r23)))
end Go.V
