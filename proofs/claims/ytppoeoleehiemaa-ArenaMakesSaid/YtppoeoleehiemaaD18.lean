/- A part of the proofs of this seat: what functions of the program answer on the abstract machine. -/
import Derived.Test.YtppoeoleehiemaaV22
namespace Go.V
set_option linter.unusedVariables false
set_option linter.unusedSimpArgs false
open Go.Ab
set_option linter.unusedVariables false
/- backstitch/arena.right -/
def D_arena_right (a0 : Int) : Option (Int) :=
  cond (decide (a0 < 1))
    (some 2)
    (cond (decide (1048576 < a0))
      (some 12)
      (some 0))
/- backstitch/arena.New -/
def D_arena_New (a0 : Int) : Option ((Int) ⊕ (List Int)) :=
  (D_arena_right a0).bind fun r1 =>
  cond (decide (r1 ≠ 0))
    (some ((.inl r1)))
    (gd (Nat.beq 1 (Sh.w (.int .u64)) && decide (0 ≤ a0) && decide (a0 ≤ a0) && decide ((8 : Int) * a0 ≤ 140737488355328) && Nat.ble 1 8) (some ((.inr ((List.replicate (Int.toNat a0) (0 : Int)))))))
/- (*backstitch/arena.Arena).Left -/
def D_arena_Arena_Left (a0 : Int) (a1 : List Int) : Option (Int) :=
  some (IntKind.i64.wrap (((((List.length a1) : Nat) : Int)) - a0))
/- (*backstitch/arena.Arena).Take -/
def D_arena_Arena_Take (a0 : Int) (a1 : Int) (a2 : List Int) : Option (Int × Int × Int) :=
  cond (decide (a0 < 0))
    (some ((0, 2, a1)))
    ((D_arena_Arena_Left a1 a2).bind fun r3 =>
    cond (decide (r3 < a0))
      (some ((0, 15, a1)))
      (some ((a1, 0, IntKind.i64.wrap (a1 + a0)))))
/- (*backstitch/arena.Arena).Size -/
def D_arena_Arena_Size (a0 : Int) (a1 : List Int) : Option (Int) :=
  some ((((List.length a1) : Nat) : Int))
/- (*backstitch/arena.Arena).Set -/
def D_arena_Arena_Set (a0 : Int) (a1 : Int) (a2 : Int) (a3 : List Int) : Option (Int × List Int) :=
  cond (decide (a0 < 0))
    (some ((2, a3)))
    (cond (decide (a2 < a0))
      (some ((2, a3)))
      (cond (decide ((IntKind.i64.wrap (a2 - a0)) < 1))
        (some ((2, a3)))
        (gd (cutG a0 (IntKind.i64.wrap (a0 + 1)) ((List.length a3))) (some ((0, (blit a3 ((Int.toNat a0)) (((Int.toNat (IntKind.i64.wrap (a0 + 1))) - (Int.toNat a0))) (([a1] : List Int)))))))))
/- backstitch/backstitchlaw18.goes -/
def D_law18_goes  : Option (Bool) :=
  (D_arena_New 5).bind fun r0 =>
  caseS r0 (fun u1 =>
    cond (decide (u1 ≠ 0))
      (some false)
      (some false))
    (fun w2 =>
    (D_arena_Arena_Take 2 0 w2).bind fun r3 =>
    (D_arena_Arena_Take 2 r3.2.2 w2).bind fun r4 =>
    (D_arena_Arena_Take 2 r4.2.2 w2).bind fun r5 =>
    cond (decide (r3.1 = 0))
      (cond (decide (r3.2.1 = 0))
        (cond (decide (r4.1 = 2))
          (cond (decide (r4.2.1 = 0))
            (cond (decide (r5.2.1 = 15))
              ((D_arena_Arena_Left r5.2.2 w2).bind fun r6 =>
              cond (decide (r6 = 1))
                ((D_arena_Arena_Size r5.2.2 w2).bind fun r7 =>
                cond (decide (r7 = 5))
                  ((D_arena_Arena_Set 4 1 r5.2.2 w2).bind fun r8 =>
                  some (decide (r8.1 = 2)))
                  (some false))
                (some false))
              (some false))
            (some false))
          (some false))
        (some false))
      (some false))
/- (*backstitch/arena.Arena).Write -/
def D_arena_Arena_Write (a0 : Int) (a1 : List Int) (a2 : Int) (a3 : List Int) : Option (Int × List Int) :=
  cond (decide (a0 < 0))
    (some ((2, a3)))
    (cond (decide (((((List.length a1) : Nat) : Int)) < 0))
      (some ((2, a3)))
      (cond (decide (a2 < a0))
        (some ((2, a3)))
        (cond (decide ((IntKind.i64.wrap (a2 - a0)) < ((((List.length a1) : Nat) : Int))))
          (some ((2, a3)))
          (gd (cutG a0 (IntKind.i64.wrap (a0 + ((((List.length a1) : Nat) : Int)))) ((List.length a3))) (some ((0, (blit a3 ((Int.toNat a0)) (((Int.toNat (IntKind.i64.wrap (a0 + ((((List.length a1) : Nat) : Int))))) - (Int.toNat a0))) a1))))))))
/- slices.Clone[[]uint64,uint64] -/
def D_slices_Clone_uint64_uint64 (l : List Int) : Option (List Int) := gd (fits (0 + l.length) 8) (some l)
/- (*backstitch/arena.Arena).Image -/
def D_arena_Arena_Image (a0 : Int) (a1 : List Int) : Option (List Int) :=
  (D_slices_Clone_uint64_uint64 a1).bind fun r2 =>
  some r2
def D_law18_ArenaApart_L0 (a0 : List Int) (w7 : List Int) (s12 : Int × Int × Int × List Int) : Option ((Int × Int × Int × List Int) ⊕ ((Bool × Int) ⊕ (Int × List Int))) :=
  cond (decide (s12.1 < ((((List.length a0) : Nat) : Int))))
    ((rd a0 s12.1).bind fun x13 =>
    (D_arena_Arena_Take (Int.tmod (IntKind.i64.wrap (x13)) 51) s12.2.2.1 w7).bind fun r14 =>
    cond (decide (r14.2.1 ≠ 0))
      (some (.inr (((.inl ((false, r14.2.2)))))))
      (cond (decide (r14.1 ≠ s12.2.1))
        (some (.inr (((.inl ((false, r14.2.2)))))))
        (gd (fits (List.length s12.2.2.2 + 1) 8) ((rd a0 s12.1).bind fun x15 =>
        some (.inl ((IntKind.i64.wrap (s12.1 + 1), IntKind.i64.wrap (s12.2.1 + (Int.tmod (IntKind.i64.wrap (x15)) 51)), r14.2.2, (s12.2.2.2 ++ [r14.1]))))))))
    (some (.inr (((.inr ((s12.2.2.1, s12.2.2.2)))))))
def D_law18_ArenaApart_L1 (a2 : Int) (s22 : Int × List Int) : Option ((Int × List Int) ⊕ (List Int)) :=
  cond (decide (s22.1 < ((((List.length s22.2) : Nat) : Int))))
    ((ix s22.1 ((List.length s22.2))).bind fun j23 =>
    (s22.2[j23]?).bind fun x24 =>
    some (.inl ((IntKind.i64.wrap (s22.1 + 1), (List.set s22.2 j23 (bitV .u64 (· ||| ·) a2 1))))))
    (some (.inr s22.2))
def D_law18_ArenaApart_L2 (a0 : List Int) (a1 : Int) (a2 : Int) (w18 : Int × List Int) (r25 : List Int) (r29 : List Int) (s31 : Int) : Option ((Int) ⊕ ((Bool) ⊕ (Unit))) :=
  cond (decide (s31 < ((((List.length r29) : Nat) : Int))))
    (((((ix (Int.tmod (IntKind.i64.wrap ((Int.tmod a1 ((((List.length a0) : Nat) : Int))) + ((((List.length a0) : Nat) : Int)))) ((((List.length a0) : Nat) : Int))) ((List.length w18.2))).bind fun j32 =>
    (w18.2[j32]?).bind fun x33 =>
    cond (decide (x33 ≤ s31))
      ((ix (Int.tmod (IntKind.i64.wrap ((Int.tmod a1 ((((List.length a0) : Nat) : Int))) + ((((List.length a0) : Nat) : Int)))) ((((List.length a0) : Nat) : Int))) ((List.length w18.2))).bind fun j34 =>
      (w18.2[j34]?).bind fun x35 =>
      some ((.inl ((decide (s31 < (IntKind.i64.wrap (x35 + ((((List.length r25) : Nat) : Int))))), Int.tmod (IntKind.i64.wrap ((Int.tmod a1 ((((List.length a0) : Nat) : Int))) + ((((List.length a0) : Nat) : Int)))) ((((List.length a0) : Nat) : Int)), x35, (((List.length r25) : Nat) : Int), s31, IntKind.i64.wrap (x35 + ((((List.length r25) : Nat) : Int))), decide (s31 < (IntKind.i64.wrap (x35 + ((((List.length r25) : Nat) : Int))))))))))
      (some ((.inr false)))) : Option ((Bool × Int × Int × Int × Int × Int × Bool) ⊕ (Bool)))).bind fun s36 =>
    caseS s36 (fun u37 =>
      cond (u37.1)
        ((ix s31 ((List.length r29))).bind fun j38 =>
        (r29[j38]?).bind fun x39 =>
        cond (decide (x39 ≠ (bitV .u64 (· ||| ·) a2 1)))
          (some (.inr (((.inl false)))))
          (cond (!u37.1)
            ((ix s31 ((List.length r29))).bind fun j40 =>
            (r29[j40]?).bind fun x41 =>
            cond (decide (x41 ≠ 0))
              (some (.inr (((.inl false)))))
              (some (.inl (IntKind.i64.wrap (s31 + 1)))))
            (some (.inl (IntKind.i64.wrap (s31 + 1))))))
        (cond (!u37.1)
          ((ix s31 ((List.length r29))).bind fun j42 =>
          (r29[j42]?).bind fun x43 =>
          cond (decide (x43 ≠ 0))
            (some (.inr (((.inl false)))))
            (some (.inl (IntKind.i64.wrap (s31 + 1)))))
          (some (.inl (IntKind.i64.wrap (s31 + 1))))))
      (fun w44 =>
      cond (w44)
        ((ix s31 ((List.length r29))).bind fun j45 =>
        (r29[j45]?).bind fun x46 =>
        cond (decide (x46 ≠ (bitV .u64 (· ||| ·) a2 1)))
          (some (.inr (((.inl false)))))
          (cond (!w44)
            ((ix s31 ((List.length r29))).bind fun j47 =>
            (r29[j47]?).bind fun x48 =>
            cond (decide (x48 ≠ 0))
              (some (.inr (((.inl false)))))
              (some (.inl (IntKind.i64.wrap (s31 + 1)))))
            (some (.inl (IntKind.i64.wrap (s31 + 1))))))
        (cond (!w44)
          ((ix s31 ((List.length r29))).bind fun j49 =>
          (r29[j49]?).bind fun x50 =>
          cond (decide (x50 ≠ 0))
            (some (.inr (((.inl false)))))
            (some (.inl (IntKind.i64.wrap (s31 + 1)))))
          (some (.inl (IntKind.i64.wrap (s31 + 1)))))))
    (some (.inr (((.inr ())))))
/- backstitch/backstitchlaw18.ArenaApart -/
def D_law18_ArenaApart (a0 : List Int) (a1 : Int) (a2 : Int) : Option (Bool) :=
  (((cond (decide (((((List.length a0) : Nat) : Int)) < 1))
    (some true)
    (some (decide (20 < ((((List.length a0) : Nat) : Int)))))) : Option (Bool))).bind fun s3 =>
  cond (s3)
    ((D_law18_goes).bind fun r4 =>
    some r4)
    ((D_arena_New 2000).bind fun r5 =>
    caseS r5 (fun u6 =>
      cond (decide (u6 ≠ 0))
        (some false)
        (some false))
      (fun w7 =>
      (loopN (D_law18_ArenaApart_L0 a0 w7) BIG ((0, 0, 0, []))).bind fun r16 =>
      caseS r16 (fun u17 =>
        some u17.1)
        (fun w18 =>
        gd (decide (((((List.length a0) : Nat) : Int)) ≠ 0)) (gd (decide (((((List.length a0) : Nat) : Int)) ≠ 0)) ((rd a0 (Int.tmod (IntKind.i64.wrap ((Int.tmod a1 ((((List.length a0) : Nat) : Int))) + ((((List.length a0) : Nat) : Int)))) ((((List.length a0) : Nat) : Int)))).bind fun x19 =>
        gd (Nat.beq 1 (Sh.w (.int .u64)) && decide (0 ≤ (Int.tmod (IntKind.i64.wrap (x19)) 51)) && decide ((Int.tmod (IntKind.i64.wrap (x19)) 51) ≤ (Int.tmod (IntKind.i64.wrap (x19)) 51)) && decide ((8 : Int) * (Int.tmod (IntKind.i64.wrap (x19)) 51) ≤ 140737488355328) && Nat.ble 1 8) ((loopN (D_law18_ArenaApart_L1 a2) BIG ((0, (List.replicate (Int.toNat (Int.tmod (IntKind.i64.wrap (x19)) 51)) (0 : Int))))).bind fun r25 =>
        (ix (Int.tmod (IntKind.i64.wrap ((Int.tmod a1 ((((List.length a0) : Nat) : Int))) + ((((List.length a0) : Nat) : Int)))) ((((List.length a0) : Nat) : Int))) ((List.length w18.2))).bind fun j26 =>
        (w18.2[j26]?).bind fun x27 =>
        (D_arena_Arena_Write x27 r25 w18.1 w7).bind fun r28 =>
        cond (decide (r28.1 ≠ 0))
          (some false)
          ((D_arena_Arena_Image w18.1 r28.2).bind fun r29 =>
          (loopN (D_law18_ArenaApart_L2 a0 a1 a2 w18 r25 r29) BIG 0).bind fun r51 =>
          caseS r51 (fun u52 =>
            some u52)
            (fun w53 =>
            cond (decide (((((List.length r29) : Nat) : Int)) = 2000))
              ((D_law18_goes).bind fun r54 =>
              some r54)
              (some false)))))))))
/- backstitch/backstitchref18.Right -/
def D_ref18_Right (a0 : Int) : Option (Int) :=
  cond (decide (a0 < 1))
    (some 2)
    (cond (decide (1048576 < a0))
      (some 12)
      (some 0))
/- (*backstitch/arena.Arena).Image -/
def D_arena_Arena_Image_2  : Option (Unit) :=
  some ()
/- backstitch/arena.From -/
def D_arena_From (a0 : List Int) : Option ((Int) ⊕ (List Int)) :=
  (D_arena_right ((((List.length a0) : Nat) : Int))).bind fun r1 =>
  cond (decide (r1 ≠ 0))
    (some ((.inl r1)))
    ((D_slices_Clone_uint64_uint64 a0).bind fun r2 =>
    some ((.inr r2)))
def D_ref05_Same_L0 (a0 : List Int) (a1 : List Int) (s3 : Int) : Option ((Int) ⊕ ((Bool) ⊕ (Unit))) :=
  cond (decide (s3 < ((((List.length a0) : Nat) : Int))))
    ((rd a0 s3).bind fun x4 =>
    (rd a1 s3).bind fun x5 =>
    cond (decide (x4 ≠ x5))
      (some (.inr (((.inl false)))))
      (some (.inl (IntKind.i64.wrap (s3 + 1)))))
    (some (.inr (((.inr ())))))
/- backstitch/backstitchref05.Same -/
def D_ref05_Same (a0 : List Int) (a1 : List Int) : Option (Bool) :=
  cond (decide (((((List.length a0) : Nat) : Int)) ≠ ((((List.length a1) : Nat) : Int))))
    (some false)
    ((loopN (D_ref05_Same_L0 a0 a1) BIG 0).bind fun r6 =>
    caseS r6 (fun u7 =>
      some u7)
      (fun w8 =>
      some true))
def D_law18_ArenaMakes_L0 (a0 : Int) (s7 : Unit) : Option ((Unit) ⊕ ((Bool) ⊕ (Unit))) :=
  cond (decide (0 < a0))
    (cond (decide (0 ≠ a0))
      (some (.inr (((.inl false)))))
      none)
    (some (.inr (((.inr ())))))
def D_law18_ArenaMakes_L1  (s21 : Int × List Int) : Option ((Int × List Int) ⊕ (List Int)) :=
  cond (decide (s21.1 < ((((List.length s21.2) : Nat) : Int))))
    ((ix s21.1 ((List.length s21.2))).bind fun j22 =>
    (s21.2[j22]?).bind fun x23 =>
    (ix s21.1 ((List.length s21.2))).bind fun j24 =>
    (s21.2[j24]?).bind fun x25 =>
    some (.inl ((IntKind.i64.wrap (s21.1 + 1), (List.set s21.2 j24 (IntKind.u64.wrap (x23 + 1)))))))
    (some (.inr s21.2))
def D_law18_ArenaMakes_L2 (a0 : Int) (r41 : List Int) (s43 : Int) : Option ((Int) ⊕ ((Bool) ⊕ (Unit))) :=
  cond (decide (s43 < a0))
    (cond (decide (((((List.length r41) : Nat) : Int)) ≠ a0))
      (some (.inr (((.inl false)))))
      ((ix s43 ((List.length r41))).bind fun j44 =>
      (r41[j44]?).bind fun x45 =>
      cond (decide (x45 ≠ 0))
        (some (.inr (((.inl false)))))
        (some (.inl (IntKind.i64.wrap (s43 + 1))))))
    (some (.inr (((.inr ())))))
def D_law18_ArenaMakes_L3  (s59 : Int × List Int) : Option ((Int × List Int) ⊕ (List Int)) :=
  cond (decide (s59.1 < ((((List.length s59.2) : Nat) : Int))))
    ((ix s59.1 ((List.length s59.2))).bind fun j60 =>
    (s59.2[j60]?).bind fun x61 =>
    (ix s59.1 ((List.length s59.2))).bind fun j62 =>
    (s59.2[j62]?).bind fun x63 =>
    some (.inl ((IntKind.i64.wrap (s59.1 + 1), (List.set s59.2 j62 (IntKind.u64.wrap (x61 + 1)))))))
    (some (.inr s59.2))
/- backstitch/backstitchlaw18.ArenaMakes -/
def D_law18_ArenaMakes (a0 : Int) (a1 : List Int) : Option (Bool) :=
  (D_arena_New a0).bind fun r2 =>
  caseS r2 (fun u3 =>
    ((((D_ref18_Right a0).bind fun r4 =>
    cond (decide (r4 ≠ 0))
      (cond (decide (u3 ≠ r4))
        (some ((.inl false)))
        (some ((.inr ()))))
      ((((cond (decide (u3 ≠ 0))
        (some true)
        (some true)) : Option (Bool))).bind fun s5 =>
      cond (s5)
        (some ((.inl false)))
        (cond (decide (a0 ≤ 2000))
          ((D_arena_Arena_Image_2).bind fun r6 =>
          (loopN (D_law18_ArenaMakes_L0 a0) BIG ()).bind fun r8 =>
          caseS r8 (fun u9 =>
            some ((.inl u9)))
            (fun w10 =>
            some ((.inr ()))))
          (some ((.inr ())))))) : Option ((Bool) ⊕ (Unit)))).bind fun s11 =>
    caseS s11 (fun u12 =>
      some u12)
      (fun w13 =>
      (((cond (decide (((((List.length a1) : Nat) : Int)) < 1))
        (some true)
        (some (decide (200 < ((((List.length a1) : Nat) : Int)))))) : Option (Bool))).bind fun s14 =>
      cond (s14)
        ((D_law18_goes).bind fun r15 =>
        some r15)
        (gd (fits (0 + List.length a1) 8) ((D_arena_From ((([] : List Int) ++ a1))).bind fun r16 =>
        caseS r16 (fun u17 =>
          cond (decide (u17 ≠ 0))
            (some false)
            (some false))
          (fun w18 =>
          (loopN (D_law18_ArenaMakes_L1) BIG ((0, (([] : List Int) ++ a1)))).bind fun r26 =>
          (D_arena_Arena_Image 0 w18).bind fun r27 =>
          (D_ref05_Same r27 a1).bind fun r28 =>
          cond (!r28)
            (some false)
            ((ix 0 ((List.length r27))).bind fun j29 =>
            (r27[j29]?).bind fun x30 =>
            (ix 0 ((List.length r27))).bind fun j31 =>
            (r27[j31]?).bind fun x32 =>
            (D_arena_Arena_Image 0 w18).bind fun r33 =>
            (D_ref05_Same r33 a1).bind fun r34 =>
            cond (r34)
              ((D_law18_goes).bind fun r35 =>
              some r35)
              (some false)))))))
    (fun w36 =>
    ((((D_ref18_Right a0).bind fun r37 =>
    cond (decide (r37 ≠ 0))
      (cond (decide (0 ≠ r37))
        (some ((.inl false)))
        (some ((.inl false))))
      (((((D_arena_Arena_Size 0 w36).bind fun r38 =>
      cond (decide (r38 ≠ a0))
        (some true)
        ((D_arena_Arena_Left 0 w36).bind fun r39 =>
        some (decide (r39 ≠ a0)))) : Option (Bool))).bind fun s40 =>
      cond (s40)
        (some ((.inl false)))
        (cond (decide (a0 ≤ 2000))
          ((D_arena_Arena_Image 0 w36).bind fun r41 =>
          (loopN (D_law18_ArenaMakes_L2 a0 r41) BIG 0).bind fun r46 =>
          caseS r46 (fun u47 =>
            some ((.inl u47)))
            (fun w48 =>
            some ((.inr ()))))
          (some ((.inr ())))))) : Option ((Bool) ⊕ (Unit)))).bind fun s49 =>
    caseS s49 (fun u50 =>
      some u50)
      (fun w51 =>
      (((cond (decide (((((List.length a1) : Nat) : Int)) < 1))
        (some true)
        (some (decide (200 < ((((List.length a1) : Nat) : Int)))))) : Option (Bool))).bind fun s52 =>
      cond (s52)
        ((D_law18_goes).bind fun r53 =>
        some r53)
        (gd (fits (0 + List.length a1) 8) ((D_arena_From ((([] : List Int) ++ a1))).bind fun r54 =>
        caseS r54 (fun u55 =>
          cond (decide (u55 ≠ 0))
            (some false)
            (some false))
          (fun w56 =>
          (loopN (D_law18_ArenaMakes_L3) BIG ((0, (([] : List Int) ++ a1)))).bind fun r64 =>
          (D_arena_Arena_Image 0 w56).bind fun r65 =>
          (D_ref05_Same r65 a1).bind fun r66 =>
          cond (!r66)
            (some false)
            ((ix 0 ((List.length r65))).bind fun j67 =>
            (r65[j67]?).bind fun x68 =>
            (ix 0 ((List.length r65))).bind fun j69 =>
            (r65[j69]?).bind fun x70 =>
            (D_arena_Arena_Image 0 w56).bind fun r71 =>
            (D_ref05_Same r71 a1).bind fun r72 =>
            cond (r72)
              ((D_law18_goes).bind fun r73 =>
              some r73)
              (some false)))))))
/- (*backstitch/arena.Arena).Take -/
def D_arena_Arena_Take_2 (a0 : Int) : Option (Unit) :=
  some ()
/- (*backstitch/arena.Arena).Get -/
def D_arena_Arena_Get (a0 : Int) : Option (Unit) :=
  some ()
/- (*backstitch/arena.Arena).Read -/
def D_arena_Arena_Read (a0 : Int) (a1 : Int) : Option (Unit) :=
  some ()
/- (*backstitch/arena.Arena).Set -/
def D_arena_Arena_Set_2 (a0 : Int) (a1 : Int) : Option (Unit) :=
  some ()
/- (*backstitch/arena.Arena).Write -/
def D_arena_Arena_Write_2 (a0 : Int) (a1 : List Int) : Option (Unit) :=
  some ()
/- (*backstitch/arena.Arena).Size -/
def D_arena_Arena_Size_2  : Option (Unit) :=
  some ()
/- (*backstitch/arena.Arena).Left -/
def D_arena_Arena_Left_2  : Option (Unit) :=
  some ()
/- backstitch/backstitchlaw18.ArenaNil -/
def D_law18_ArenaNil (a0 : Int) (a1 : Int) : Option (Bool) :=
  (D_arena_Arena_Take_2 a1).bind fun r2 =>
  (D_arena_Arena_Get a0).bind fun r3 =>
  (D_arena_Arena_Read a0 a1).bind fun r4 =>
  (D_arena_Arena_Set_2 a0 1).bind fun r5 =>
  (D_arena_Arena_Write_2 a0 []).bind fun r6 =>
  (D_arena_Arena_Size_2).bind fun r7 =>
  (D_arena_Arena_Left_2).bind fun r8 =>
  (D_arena_Arena_Image_2).bind fun r9 =>
  (D_law18_goes).bind fun r10 =>
  some r10
end Go.V
