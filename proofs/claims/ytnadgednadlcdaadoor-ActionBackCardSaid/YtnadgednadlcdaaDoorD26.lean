/- A part of the proofs of this seat: what functions of the program answer on the abstract machine. -/
import Derived.Test.YtnadgednadlcdaaDoorV26
namespace Go.V
set_option linter.unusedVariables false
set_option linter.unusedSimpArgs false
open Go.Ab
set_option linter.unusedVariables false
abbrev tabL0 : List Int := [48, 49, 50, 51, 52, 53, 54, 55, 56, 57, 97, 98, 99, 100, 101, 102, 103, 104, 105, 106, 107, 108, 109, 110, 111, 112, 113, 114, 115, 116, 117, 118, 119, 120, 121, 122]
abbrev tabL1 : List Int := [48, 48, 48, 49, 48, 50, 48, 51, 48, 52, 48, 53, 48, 54, 48, 55, 48, 56, 48, 57, 49, 48, 49, 49, 49, 50, 49, 51, 49, 52, 49, 53, 49, 54, 49, 55, 49, 56, 49, 57, 50, 48, 50, 49, 50, 50, 50, 51, 50, 52, 50, 53, 50, 54, 50, 55, 50, 56, 50, 57, 51, 48, 51, 49, 51, 50, 51, 51, 51, 52, 51, 53, 51, 54, 51, 55, 51, 56, 51, 57, 52, 48, 52, 49, 52, 50, 52, 51, 52, 52, 52, 53, 52, 54, 52, 55, 52, 56, 52, 57, 53, 48, 53, 49, 53, 50, 53, 51, 53, 52, 53, 53, 53, 54, 53, 55, 53, 56, 53, 57, 54, 48, 54, 49, 54, 50, 54, 51, 54, 52, 54, 53, 54, 54, 54, 55, 54, 56, 54, 57, 55, 48, 55, 49, 55, 50, 55, 51, 55, 52, 55, 53, 55, 54, 55, 55, 55, 56, 55, 57, 56, 48, 56, 49, 56, 50, 56, 51, 56, 52, 56, 53, 56, 54, 56, 55, 56, 56, 56, 57, 57, 48, 57, 49, 57, 50, 57, 51, 57, 52, 57, 53, 57, 54, 57, 55, 57, 56, 57, 57]

/- backstitch/action.numbered -/
def D_action_numbered (a0 : Int) : Option (Bool) :=
 cond (decide (1 ≤ a0))
  (some (decide (a0 ≤ 4)))
  (some false)
/- backstitch/action.Right -/
def D_action_Right (a0 a1 : Int) : Option (Bool) :=
 (((cond (decide (a0 < 1))
  (some true)
  (some (decide (9 < a0)))) : Option (Bool))).bind fun s2 =>
 cond (s2)
  (some false)
  (cond (decide (a0 = 1))
   (cond (decide (1 ≤ a1))
    (some (decide (a1 < 65536)))
    (some false))
   ((D_action_numbered a0).bind fun r3 =>
   cond (r3)
    (cond (decide (0 ≤ a1))
     (some (decide (a1 < 1048576)))
     (some false))
    (some (decide (a1 = 0)))))
/- backstitch/action.Word -/
def D_action_Word (a0 a1 : Int) : Option (Int × Int) :=
 (D_action_Right a0 a1).bind fun r2 =>
 cond (!r2)
  (some ((0, 2)))
  (some ((bitV .u64 (· ||| ·) (IntKind.u64.wrap ((IntKind.u64.wrap (a0)) * 2 ^ (min (Int.toNat 32) (IntKind.bits .u64)))) (IntKind.u64.wrap (a1)), 0)))
/- backstitch/backstitchref26.most -/
def D_ref26_most (a0 : Int) : Option (Int × Int) :=
 cond (decide (a0 = 1))
  (some ((1, 65535)))
  (cond (decide (2 ≤ a0))
   (cond (decide (a0 ≤ 4))
    (some ((0, 1048575)))
    (some ((0, 0))))
   (some ((0, 0))))
/- backstitch/backstitchref26.Right -/
def D_ref26_Right (a0 a1 : Int) : Option (Bool) :=
 (D_ref26_most a0).bind fun r2 =>
 cond (decide (1 ≤ a0))
  (cond (decide (a0 ≤ 9))
   (cond (decide (r2.1 ≤ a1))
    (some (decide (a1 ≤ r2.2)))
    (some false))
   (some false))
  (some false)
/- backstitch/backstitchref26.Word -/
def D_ref26_Word (a0 a1 : Int) : Option (Int × Int) :=
 (D_ref26_Right a0 a1).bind fun r2 =>
 cond (!r2)
  (some ((0, 2)))
  (some ((IntKind.u64.wrap ((IntKind.u64.wrap ((IntKind.u64.wrap (a0)) * 4294967296)) + (IntKind.u64.wrap (a1))), 0)))
/- backstitch/action.Read -/
def D_action_Read (a0 : Int) : Option (Int × Int × Int) :=
 (D_action_Right (IntKind.i64.wrap (Int.fdiv a0 (2 ^ (min (Int.toNat 32) (IntKind.bits .u64))))) (IntKind.i64.wrap (bitV .u64 (· &&& ·) a0 4294967295))).bind fun r1 =>
 cond (!r1)
  (some ((0, 0, 3)))
  (some ((IntKind.i64.wrap (Int.fdiv a0 (2 ^ (min (Int.toNat 32) (IntKind.bits .u64)))), IntKind.i64.wrap (bitV .u64 (· &&& ·) a0 4294967295), 0)))
/- backstitch/backstitchref26.Read -/
def D_ref26_Read (a0 : Int) : Option (Int × Int × Int) :=
 cond (decide (9 < (IntKind.u64.wrap (Int.tdiv a0 4294967296))))
  (some ((0, 0, 3)))
  ((D_ref26_Right (IntKind.i64.wrap (IntKind.u64.wrap (Int.tdiv a0 4294967296))) (IntKind.i64.wrap (Int.tmod a0 4294967296))).bind fun r1 =>
  cond (!r1)
   (some ((0, 0, 3)))
   (some ((IntKind.i64.wrap (IntKind.u64.wrap (Int.tdiv a0 4294967296)), IntKind.i64.wrap (Int.tmod a0 4294967296), 0))))
/- backstitch/action.names -/
def D_action_names  : Option ((List Int) × (List Int) × (List Int) × (List Int) × (List Int) × (List Int) × (List Int) × (List Int) × (List Int) × List Int) :=
 some ((([] : List Int), ([97, 100, 118, 97, 110, 99, 101] : List Int), ([115, 116, 111, 114, 101] : List Int), ([114, 101, 115, 116, 111, 114, 101] : List Int), ([102, 114, 101, 101] : List Int), ([115, 101, 101, 100] : List Int), ([98, 111, 116, 104] : List Int), ([114, 101, 118, 101, 114, 115, 101] : List Int), ([116, 97, 112, 101] : List Int), ([98, 97, 99, 107] : List Int)))
/- strconv.Itoa -/
def D_strconv_Itoa (a0 : Int) : Option (List Int) := itoaP a0
def D_action_Print_L0 (a0 : List (Int × Int)) (s3 : Int × List Int) : Option ((Int × List Int) ⊕ (((List Int) × List Int) ⊕ (List Int))) :=
 cond (decide (s3.1 < ((((List.length a0) : Nat) : Int))))
  ((rd a0 s3.1).bind fun x4 =>
  (D_action_Right x4.1 x4.2).bind fun r5 =>
  cond (!r5)
   (some (.inr (((.inl ((([] : List Int), s3.2)))))))
   ((D_action_names).bind fun ⟨r6_0, r6_1, r6_2, r6_3, r6_4, r6_5, r6_6, r6_7, r6_8, r6_9⟩ =>
   (ix x4.1 10).bind fun j7 =>
   gd (bfits (List.length s3.2) (List.length ((List.getD [r6_0, r6_1, r6_2, r6_3, r6_4, r6_5, r6_6, r6_7, r6_8, r6_9] j7 [])))) (((((D_action_numbered x4.1).bind fun r8 =>
   cond (r8)
    ((D_strconv_Itoa x4.2).bind fun r9 =>
    gd (sfits (List.length (([32] : List Int))) (List.length r9)) (gd (bfits (List.length ((s3.2 ++ (List.getD [r6_0, r6_1, r6_2, r6_3, r6_4, r6_5, r6_6, r6_7, r6_8, r6_9] j7 [])))) (List.length ((([32] : List Int) ++ r9)))) (some (((s3.2 ++ (List.getD [r6_0, r6_1, r6_2, r6_3, r6_4, r6_5, r6_6, r6_7, r6_8, r6_9] j7 [])) ++ (([32] : List Int) ++ r9))))))
    (some ((s3.2 ++ (List.getD [r6_0, r6_1, r6_2, r6_3, r6_4, r6_5, r6_6, r6_7, r6_8, r6_9] j7 []))))) : Option (List Int))).bind fun s10 =>
   gd (bfits (List.length s10) (List.length (([10] : List Int)))) (some (.inl ((IntKind.i64.wrap (s3.1 + 1), (s10 ++ ([10] : List Int)))))))))
  (some (.inr (((.inr s3.2)))))
/- backstitch/action.Print -/
def D_action_Print (a0 : List (Int × Int)) : Option ((List Int) × Int) :=
 (loopN (D_action_Print_L0 a0) BIG ((0, ([] : List Int)))).bind fun r11 =>
 caseS r11 (fun u'12 =>
  some ((u'12.1, 2)))
  (fun w13 =>
  some ((w13, 0)))
/- backstitch/backstitchlaw26.goes -/
def D_law26_goes  : Option (Bool) :=
 (D_action_Word 1 3).bind fun r0 =>
 (D_action_Word 5 0).bind fun r1 =>
 (D_action_Print ([(1, 3), (5, 0)])).bind fun r2 =>
 cond (decide (r0.1 = 4294967299))
  (cond (decide (r0.2 = 0))
   (cond (decide (r1.1 = 21474836480))
    (cond (decide (r1.2 = 0))
     (cond (decide (r2.1 = ([97, 100, 118, 97, 110, 99, 101, 32, 51, 10, 115, 101, 101, 100, 10] : List Int)))
      (some (decide (r2.2 = 0)))
      (some false))
     (some false))
    (some false))
   (some false))
  (some false)
/- backstitch/backstitchlaw26.ActionWords -/
def D_law26_ActionWords (a0 a1 a2 : Int) : Option (Bool) :=
 (D_action_Word a0 a1).bind fun r3 =>
 (D_ref26_Word a0 a1).bind fun r4 =>
 (D_action_Read a2).bind fun r5 =>
 (D_ref26_Read a2).bind fun r6 =>
 (D_action_Right a0 a1).bind fun r7 =>
 (D_ref26_Right a0 a1).bind fun r8 =>
 cond (r7 == r8)
  (cond (decide (r3.1 = r4.1))
   (cond (decide (r3.2 = r4.2))
    (cond ((decide (r5.1 = r6.1) && decide (r5.2.1 = r6.2.1)))
     (cond (decide (r5.2.2 = r6.2.2))
      ((D_law26_goes).bind fun r9 =>
      some r9)
      (some false))
     (some false))
    (some false))
   (some false))
  (some false)
/- backstitch/backstitchref26.name -/
def D_ref26_name (a0 : Int) : Option (List Int) :=
 (ix a0 10).bind fun j1 =>
 some ((List.getD [([] : List Int), ([97, 100, 118, 97, 110, 99, 101] : List Int), ([115, 116, 111, 114, 101] : List Int), ([114, 101, 115, 116, 111, 114, 101] : List Int), ([102, 114, 101, 101] : List Int), ([115, 101, 101, 100] : List Int), ([98, 111, 116, 104] : List Int), ([114, 101, 118, 101, 114, 115, 101] : List Int), ([116, 97, 112, 101] : List Int), ([98, 97, 99, 107] : List Int)] j1 []))
def D_ref04_Text_L0  (s3 : Int × List Int) : Option ((Int × List Int) ⊕ (Int × List Int)) :=
 cond (decide (9 < s3.1))
  (gd (cutG (Int.tmod s3.1 10) (IntKind.u64.wrap ((Int.tmod s3.1 10) + 1)) 10) (gd (sfits (List.length ((cutL (([48, 49, 50, 51, 52, 53, 54, 55, 56, 57] : List Int)) (Int.tmod s3.1 10) (IntKind.u64.wrap ((Int.tmod s3.1 10) + 1))))) (List.length s3.2)) (some (.inl ((IntKind.u64.wrap (Int.tdiv s3.1 10), ((cutL (([48, 49, 50, 51, 52, 53, 54, 55, 56, 57] : List Int)) (Int.tmod s3.1 10) (IntKind.u64.wrap ((Int.tmod s3.1 10) + 1))) ++ s3.2)))))))
  (some (.inr (((s3.1, s3.2)))))
/- backstitch/backstitchref04.Text -/
def D_ref04_Text (a0 : Int) : Option (List Int) :=
 (loopN (D_ref04_Text_L0) BIG ((a0, ([] : List Int)))).bind fun r4 =>
 gd (cutG r4.1 (IntKind.u64.wrap (r4.1 + 1)) 10) (gd (sfits (List.length ((cutL (([48, 49, 50, 51, 52, 53, 54, 55, 56, 57] : List Int)) r4.1 (IntKind.u64.wrap (r4.1 + 1))))) (List.length r4.2)) (some (((cutL (([48, 49, 50, 51, 52, 53, 54, 55, 56, 57] : List Int)) r4.1 (IntKind.u64.wrap (r4.1 + 1))) ++ r4.2))))
def D_ref26_Print_L0 (a0 : List (Int × Int)) (s4 : Int × List Int) : Option ((Int × List Int) ⊕ ((List Int) ⊕ (List Int))) :=
 cond (decide (s4.1 < ((((List.length a0) : Nat) : Int))))
  ((rd a0 s4.1).bind fun x5 =>
  (D_ref26_Right x5.1 x5.2).bind fun r6 =>
  cond (!r6)
   (some (.inr (((.inl (([] : List Int)))))))
   ((rd a0 s4.1).bind fun x7 =>
   (D_ref26_name x7.1).bind fun r8 =>
   gd (sfits (List.length s4.2) (List.length r8)) ((rd a0 s4.1).bind fun x9 =>
   cond (decide (x9.1 ≤ 4))
    (gd (sfits (List.length ((s4.2 ++ r8))) (List.length (([32] : List Int)))) ((rd a0 s4.1).bind fun x10 =>
    (D_ref04_Text (IntKind.u64.wrap (x10.2))).bind fun r11 =>
    gd (sfits (List.length (((s4.2 ++ r8) ++ ([32] : List Int)))) (List.length r11)) (gd (sfits (List.length ((((s4.2 ++ r8) ++ ([32] : List Int)) ++ r11))) (List.length (([10] : List Int)))) (some (.inl ((IntKind.i64.wrap (s4.1 + 1), ((((s4.2 ++ r8) ++ ([32] : List Int)) ++ r11) ++ ([10] : List Int)))))))))
    (gd (sfits (List.length ((s4.2 ++ r8))) (List.length (([10] : List Int)))) (some (.inl ((IntKind.i64.wrap (s4.1 + 1), ((s4.2 ++ r8) ++ ([10] : List Int))))))))))
  (some (.inr (((.inr s4.2)))))
/- backstitch/backstitchref26.Print -/
def D_ref26_Print (a0 : List (Int × Int)) : Option ((List Int) × Int) :=
 (loopN (D_ref26_Print_L0 a0) BIG ((0, ([] : List Int)))).bind fun r12 =>
 caseS r12 (fun u'13 =>
  some ((u'13, 2)))
  (fun w14 =>
  some ((w14, 0)))
def D_signs_Lines_L0 (a0 : List Int) (s4 : Int × Int × List (List Int)) : Option ((Int × Int × List (List Int)) ⊕ (Int × Int × List (List Int))) :=
 gd (decide ((0 : Int) ≤ s4.2.1) && Nat.ble 1 1) (cond (decide (s4.2.1 < (((List.length a0 : Nat) : Int))))
  (cond (decide (((runeC a0 s4.2.1)) = 10))
   (gd (cutG s4.1 s4.2.1 ((List.length a0))) (gd (fits (List.length s4.2.2 + 1) 16) (some (.inl ((IntKind.i64.wrap (s4.2.1 + 1), (runeW a0 s4.2.1), (s4.2.2 ++ [(cutL a0 s4.1 s4.2.1)])))))))
   (some (.inl ((s4.1, (runeW a0 s4.2.1), s4.2.2)))))
  (some (.inr (((s4.1, s4.2.1, s4.2.2))))))
/- backstitch/signs.Lines -/
def D_signs_Lines (a0 : List Int) : Option (List (List Int)) :=
 (loopN (D_signs_Lines_L0 a0) BIG ((0, 0, []))).bind fun r5 =>
 cond (decide (r5.1 < (((List.length a0 : Nat) : Int))))
  (gd (cutG r5.1 ((((List.length a0) : Nat) : Int)) ((List.length a0))) (gd (fits (List.length r5.2.2 + 1) 16) (some ((r5.2.2 ++ [(cutL a0 r5.1 ((((List.length a0) : Nat) : Int)))])))))
  (some r5.2.2)
/- backstitch/signs.white -/
def D_signs_white (a0 : Int) : Option (Bool) :=
 cond (decide (a0 = 9))
  (some true)
  (cond (decide (a0 = 13))
   (some true)
   (cond (decide (a0 = 32))
    (some true)
    (cond (decide (a0 = 160))
     (some true)
     (cond (decide (a0 = 8195))
      (some true)
      (cond (decide (a0 = 12288))
       (some true)
       (some false))))))
/- backstitch/signs.letter -/
def D_signs_letter (a0 : Int) : Option (Bool) :=
 cond (decide (97 ≤ a0))
  (some (decide (a0 ≤ 122)))
  (some false)
/- backstitch/signs.digit -/
def D_signs_digit (a0 : Int) : Option (Int) :=
 (((cond (decide (48 ≤ a0))
  (some (decide (a0 ≤ 57)))
  (some false)) : Option (Bool))).bind fun s1 =>
 cond (s1)
  (some (IntKind.i64.wrap (IntKind.i32.wrap (a0 - 48))))
  (cond (decide (65296 ≤ a0))
   (cond (decide (a0 ≤ 65305))
    (some (IntKind.i64.wrap (IntKind.i32.wrap (a0 - 65296))))
    (some (-1)))
   (some (-1)))
/- internal/strconv.small -/
def D_internal_strconv_small (a0 : Int) : Option (List Int) :=
 cond (decide (a0 < 10))
  (gd (cutG a0 (IntKind.i64.wrap (a0 + 1)) 36) (some ((cutL (tabL0) a0 (IntKind.i64.wrap (a0 + 1))))))
  (gd (cutG (IntKind.i64.wrap (a0 * 2)) (IntKind.i64.wrap ((IntKind.i64.wrap (a0 * 2)) + 2)) 200) (some ((cutL (tabL1) (IntKind.i64.wrap (a0 * 2)) (IntKind.i64.wrap ((IntKind.i64.wrap (a0 * 2)) + 2))))))
/- internal/strconv.numDigits -/
def D_internal_strconv_numDigits (a0 : Int) : Option (Int) := nDigP a0
def D_signs_Text_L0 (r2 : Int) (s8 : Int × Int × List Int) : Option ((Int × Int × List Int) ⊕ (Int × Int × List Int)) :=
 cond (decide (8 ≤ s8.1))
  ((rd (tabL1) (IntKind.u32.wrap ((IntKind.u32.wrap ((Int.tmod (Int.tmod (IntKind.u32.wrap (Int.tmod s8.2.1 100000000)) 10000) 100) * 2)) + 1))).bind fun x9 =>
  (rd (tabL1) (IntKind.u32.wrap ((Int.tmod (Int.tmod (IntKind.u32.wrap (Int.tmod s8.2.1 100000000)) 10000) 100) * 2))).bind fun x10 =>
  (ix (IntKind.i64.wrap (s8.1 - 1)) (((Int.toNat r2) - 0))).bind fun j11 =>
  (s8.2.2[(0 + j11)]?).bind fun x12 =>
  (ix (IntKind.i64.wrap (s8.1 - 2)) (((Int.toNat r2) - 0))).bind fun j13 =>
  (((List.set s8.2.2 (0 + j11) x9))[(0 + j13)]?).bind fun x14 =>
  (rd (tabL1) (IntKind.u32.wrap ((IntKind.u32.wrap ((IntKind.u32.wrap (Int.tdiv (Int.tmod (IntKind.u32.wrap (Int.tmod s8.2.1 100000000)) 10000) 100)) * 2)) + 1))).bind fun x15 =>
  (rd (tabL1) (IntKind.u32.wrap ((IntKind.u32.wrap (Int.tdiv (Int.tmod (IntKind.u32.wrap (Int.tmod s8.2.1 100000000)) 10000) 100)) * 2))).bind fun x16 =>
  (ix (IntKind.i64.wrap (s8.1 - 3)) (((Int.toNat r2) - 0))).bind fun j17 =>
  (((List.set ((List.set s8.2.2 (0 + j11) x9)) (0 + j13) x10))[(0 + j17)]?).bind fun x18 =>
  (ix (IntKind.i64.wrap (s8.1 - 4)) (((Int.toNat r2) - 0))).bind fun j19 =>
  (((List.set ((List.set ((List.set s8.2.2 (0 + j11) x9)) (0 + j13) x10)) (0 + j17) x15))[(0 + j19)]?).bind fun x20 =>
  (rd (tabL1) (IntKind.u32.wrap ((IntKind.u32.wrap ((Int.tmod (IntKind.u32.wrap (Int.tdiv (IntKind.u32.wrap (Int.tmod s8.2.1 100000000)) 10000)) 100) * 2)) + 1))).bind fun x21 =>
  (rd (tabL1) (IntKind.u32.wrap ((Int.tmod (IntKind.u32.wrap (Int.tdiv (IntKind.u32.wrap (Int.tmod s8.2.1 100000000)) 10000)) 100) * 2))).bind fun x22 =>
  (ix (IntKind.i64.wrap (s8.1 - 5)) (((Int.toNat r2) - 0))).bind fun j23 =>
  (((List.set ((List.set ((List.set ((List.set s8.2.2 (0 + j11) x9)) (0 + j13) x10)) (0 + j17) x15)) (0 + j19) x16))[(0 + j23)]?).bind fun x24 =>
  (ix (IntKind.i64.wrap (s8.1 - 6)) (((Int.toNat r2) - 0))).bind fun j25 =>
  (((List.set ((List.set ((List.set ((List.set ((List.set s8.2.2 (0 + j11) x9)) (0 + j13) x10)) (0 + j17) x15)) (0 + j19) x16)) (0 + j23) x21))[(0 + j25)]?).bind fun x26 =>
  (rd (tabL1) (IntKind.u32.wrap ((IntKind.u32.wrap ((IntKind.u32.wrap (Int.tdiv (IntKind.u32.wrap (Int.tdiv (IntKind.u32.wrap (Int.tmod s8.2.1 100000000)) 10000)) 100)) * 2)) + 1))).bind fun x27 =>
  (rd (tabL1) (IntKind.u32.wrap ((IntKind.u32.wrap (Int.tdiv (IntKind.u32.wrap (Int.tdiv (IntKind.u32.wrap (Int.tmod s8.2.1 100000000)) 10000)) 100)) * 2))).bind fun x28 =>
  (ix (IntKind.i64.wrap (s8.1 - 7)) (((Int.toNat r2) - 0))).bind fun j29 =>
  (((List.set ((List.set ((List.set ((List.set ((List.set ((List.set s8.2.2 (0 + j11) x9)) (0 + j13) x10)) (0 + j17) x15)) (0 + j19) x16)) (0 + j23) x21)) (0 + j25) x22))[(0 + j29)]?).bind fun x30 =>
  (ix (IntKind.i64.wrap (s8.1 - 8)) (((Int.toNat r2) - 0))).bind fun j31 =>
  (((List.set ((List.set ((List.set ((List.set ((List.set ((List.set ((List.set s8.2.2 (0 + j11) x9)) (0 + j13) x10)) (0 + j17) x15)) (0 + j19) x16)) (0 + j23) x21)) (0 + j25) x22)) (0 + j29) x27))[(0 + j31)]?).bind fun x32 =>
  some (.inl ((IntKind.i64.wrap (s8.1 - 8), IntKind.u64.wrap (Int.tdiv s8.2.1 100000000), (List.set ((List.set ((List.set ((List.set ((List.set ((List.set ((List.set ((List.set s8.2.2 (0 + j11) x9)) (0 + j13) x10)) (0 + j17) x15)) (0 + j19) x16)) (0 + j23) x21)) (0 + j25) x22)) (0 + j29) x27)) (0 + j31) x28)))))
  (some (.inr (((s8.2.1, s8.1, s8.2.2)))))
/- backstitch/signs.Text -/
def D_signs_Text (a0 : Int) : Option (List Int) :=
 cond (decide (a0 < 100))
  ((D_internal_strconv_small (IntKind.i64.wrap (a0))).bind fun r1 =>
  some r1)
  ((D_internal_strconv_numDigits a0).bind fun r2 =>
  gd (Nat.beq 1 1 && Nat.beq 0 0 && Nat.ble 24 (List.length ((List.replicate 24 (0 : Int)))) && cutG 0 r2 24 && decide (0 < 24)) ((loopN (D_signs_Text_L0 r2) BIG ((((((Int.toNat r2) - 0) : Nat) : Int), a0, (List.replicate 24 (0 : Int))))).bind fun r33 =>
  (((cond (decide (4 ≤ r33.2.1))
   ((rd (tabL1) (IntKind.u32.wrap ((IntKind.u32.wrap ((Int.tmod (Int.tmod (IntKind.u32.wrap (r33.1)) 10000) 100) * 2)) + 1))).bind fun x34 =>
   (rd (tabL1) (IntKind.u32.wrap ((Int.tmod (Int.tmod (IntKind.u32.wrap (r33.1)) 10000) 100) * 2))).bind fun x35 =>
   (ix (IntKind.i64.wrap (r33.2.1 - 1)) (((Int.toNat r2) - 0))).bind fun j36 =>
   (r33.2.2[(0 + j36)]?).bind fun x37 =>
   (ix (IntKind.i64.wrap (r33.2.1 - 2)) (((Int.toNat r2) - 0))).bind fun j38 =>
   (((List.set r33.2.2 (0 + j36) x34))[(0 + j38)]?).bind fun x39 =>
   (rd (tabL1) (IntKind.u32.wrap ((IntKind.u32.wrap ((IntKind.u32.wrap (Int.tdiv (Int.tmod (IntKind.u32.wrap (r33.1)) 10000) 100)) * 2)) + 1))).bind fun x40 =>
   (rd (tabL1) (IntKind.u32.wrap ((IntKind.u32.wrap (Int.tdiv (Int.tmod (IntKind.u32.wrap (r33.1)) 10000) 100)) * 2))).bind fun x41 =>
   (ix (IntKind.i64.wrap (r33.2.1 - 3)) (((Int.toNat r2) - 0))).bind fun j42 =>
   (((List.set ((List.set r33.2.2 (0 + j36) x34)) (0 + j38) x35))[(0 + j42)]?).bind fun x43 =>
   (ix (IntKind.i64.wrap (r33.2.1 - 4)) (((Int.toNat r2) - 0))).bind fun j44 =>
   (((List.set ((List.set ((List.set r33.2.2 (0 + j36) x34)) (0 + j38) x35)) (0 + j42) x40))[(0 + j44)]?).bind fun x45 =>
   some ((IntKind.i64.wrap (r33.2.1 - 4), IntKind.u32.wrap (Int.tdiv (IntKind.u32.wrap (r33.1)) 10000), (List.set ((List.set ((List.set ((List.set r33.2.2 (0 + j36) x34)) (0 + j38) x35)) (0 + j42) x40)) (0 + j44) x41))))
   (some ((r33.2.1, IntKind.u32.wrap (r33.1), r33.2.2)))) : Option (Int × Int × List Int))).bind fun s46 =>
  cond (decide (2 ≤ s46.1))
   ((rd (tabL1) (IntKind.u32.wrap ((IntKind.u32.wrap ((Int.tmod s46.2.1 100) * 2)) + 1))).bind fun x47 =>
   (rd (tabL1) (IntKind.u32.wrap ((Int.tmod s46.2.1 100) * 2))).bind fun x48 =>
   (ix (IntKind.i64.wrap (s46.1 - 1)) (((Int.toNat r2) - 0))).bind fun j49 =>
   (s46.2.2[(0 + j49)]?).bind fun x50 =>
   (ix (IntKind.i64.wrap (s46.1 - 2)) (((Int.toNat r2) - 0))).bind fun j51 =>
   (((List.set s46.2.2 (0 + j49) x47))[(0 + j51)]?).bind fun x52 =>
   cond (decide (0 < (IntKind.i64.wrap (s46.1 - 2))))
    ((ix 0 (((Int.toNat r2) - 0))).bind fun j53 =>
    (((List.set ((List.set s46.2.2 (0 + j49) x47)) (0 + j51) x48))[(0 + j53)]?).bind fun x54 =>
    gd (Nat.beq 1 1 && Nat.beq 0 0 && Nat.ble 24 (List.length ((List.set ((List.set ((List.set s46.2.2 (0 + j49) x47)) (0 + j51) x48)) (0 + j53) (IntKind.u8.wrap (IntKind.u32.wrap (48 + (IntKind.u32.wrap (Int.tdiv s46.2.1 100)))))))) && cutG 0 r2 24 && decide (0 < 24)) (some ((List.map byteI ((List.take (((Int.toNat r2) - 0)) (List.drop 0 ((List.set ((List.set ((List.set s46.2.2 (0 + j49) x47)) (0 + j51) x48)) (0 + j53) (IntKind.u8.wrap (IntKind.u32.wrap (48 + (IntKind.u32.wrap (Int.tdiv s46.2.1 100))))))))))))))
    (gd (Nat.beq 1 1 && Nat.beq 0 0 && Nat.ble 24 (List.length ((List.set ((List.set s46.2.2 (0 + j49) x47)) (0 + j51) x48))) && cutG 0 r2 24 && decide (0 < 24)) (some ((List.map byteI ((List.take (((Int.toNat r2) - 0)) (List.drop 0 ((List.set ((List.set s46.2.2 (0 + j49) x47)) (0 + j51) x48))))))))))
   (cond (decide (0 < s46.1))
    ((ix 0 (((Int.toNat r2) - 0))).bind fun j55 =>
    (s46.2.2[(0 + j55)]?).bind fun x56 =>
    gd (Nat.beq 1 1 && Nat.beq 0 0 && Nat.ble 24 (List.length ((List.set s46.2.2 (0 + j55) (IntKind.u8.wrap (IntKind.u32.wrap (48 + s46.2.1)))))) && cutG 0 r2 24 && decide (0 < 24)) (some ((List.map byteI ((List.take (((Int.toNat r2) - 0)) (List.drop 0 ((List.set s46.2.2 (0 + j55) (IntKind.u8.wrap (IntKind.u32.wrap (48 + s46.2.1))))))))))))
    (gd (Nat.beq 1 1 && Nat.beq 0 0 && Nat.ble 24 (List.length s46.2.2) && cutG 0 r2 24 && decide (0 < 24)) (some ((List.map byteI ((List.take (((Int.toNat r2) - 0)) (List.drop 0 s46.2.2))))))))))
/- backstitch/signs.mark -/
def D_signs_mark (a0 : Int) : Option (Int) :=
 (((cond (decide (a0 = 61))
  (some true)
  (cond (decide (a0 = 43))
   (some true)
   (cond (decide (a0 = 45))
    (some true)
    (cond (decide (a0 = 42))
     (some true)
     (cond (decide (a0 = 123))
      (some true)
      (some (decide (a0 = 125)))))))) : Option (Bool))).bind fun s1 =>
 cond (s1)
  (some a0)
  (cond (decide (a0 = 8592))
   (some 61)
   (cond (decide (a0 = 8722))
    (some 45)
    (cond (decide (a0 = 215))
     (some 42)
     (cond (decide (a0 = 183))
      (some 42)
      (some 0)))))
def D_signs_Signs_L0 (a0 : List Int) (s4 : Int × Int × List (Int × Int × (List Int) × Int)) : Option ((Int × Int × List (Int × Int × (List Int) × Int)) ⊕ ((Int × Int × Int × Int × List (Int × Int × (List Int) × Int)) ⊕ ((Int × Int × List (Int × Int × (List Int) × Int)) ⊕ (Int × Int × List (Int × Int × (List Int) × Int))))) :=
 gd (decide ((0 : Int) ≤ s4.2.1) && Nat.ble 1 1) (cond (decide (s4.2.1 < (((List.length a0 : Nat) : Int))))
  (cond (decide (((runeC a0 s4.2.1)) = 35))
   (some (.inr (((.inr ((.inl ((s4.1, (runeW a0 s4.2.1), s4.2.2)))))))))
   ((D_signs_white ((runeC a0 s4.2.1))).bind fun r5 =>
   cond (r5)
    (some (.inl ((0, (runeW a0 s4.2.1), s4.2.2))))
    ((D_signs_letter ((runeC a0 s4.2.1))).bind fun r6 =>
    cond (r6)
     (cond (decide (s4.1 ≠ 1))
      (gd (fits (List.length s4.2.2 + 1) 40) ((ix (IntKind.i64.wrap (((((List.length ((s4.2.2 ++ [(1, (s4.2.1, (([] : List Int), 0)))]))) : Nat) : Int)) - 1)) ((List.length ((s4.2.2 ++ [(1, (s4.2.1, (([] : List Int), 0)))]))))).bind fun j7 =>
      (((s4.2.2 ++ [(1, (s4.2.1, (([] : List Int), 0)))]))[j7]?).bind fun x8 =>
      gd (sfits (List.length x8.2.2.1) (List.length ((utf8I ((runeC a0 s4.2.1)))))) ((((s4.2.2 ++ [(1, (s4.2.1, (([] : List Int), 0)))]))[j7]?).bind fun x9 =>
      some (.inl ((1, (runeW a0 s4.2.1), (List.set ((s4.2.2 ++ [(1, (s4.2.1, (([] : List Int), 0)))])) j7 ((x9.1, (x9.2.1, ((x8.2.2.1 ++ (utf8I ((runeC a0 s4.2.1)))), x9.2.2.2)))))))))))
      ((ix (IntKind.i64.wrap (((((List.length s4.2.2) : Nat) : Int)) - 1)) ((List.length s4.2.2))).bind fun j10 =>
      (s4.2.2[j10]?).bind fun x11 =>
      gd (sfits (List.length x11.2.2.1) (List.length ((utf8I ((runeC a0 s4.2.1)))))) ((s4.2.2[j10]?).bind fun x12 =>
      some (.inl ((1, (runeW a0 s4.2.1), (List.set s4.2.2 j10 ((x12.1, (x12.2.1, ((x11.2.2.1 ++ (utf8I ((runeC a0 s4.2.1)))), x12.2.2.2)))))))))))
     ((D_signs_digit ((runeC a0 s4.2.1))).bind fun r13 =>
     cond (decide (0 ≤ r13))
      ((D_signs_digit ((runeC a0 s4.2.1))).bind fun r14 =>
      cond (decide (s4.1 ≠ 2))
       (gd (fits (List.length s4.2.2 + 1) 40) ((ix (IntKind.i64.wrap (((((List.length ((s4.2.2 ++ [(2, (s4.2.1, (([] : List Int), 0)))]))) : Nat) : Int)) - 1)) ((List.length ((s4.2.2 ++ [(2, (s4.2.1, (([] : List Int), 0)))]))))).bind fun j15 =>
       (((s4.2.2 ++ [(2, (s4.2.1, (([] : List Int), 0)))]))[j15]?).bind fun x16 =>
       cond (decide ((IntKind.u64.wrap (Int.tdiv (IntKind.u64.wrap (18446744073709551615 - (IntKind.u64.wrap (r14)))) 10)) < x16.2.2.2))
        ((ix (IntKind.i64.wrap (((((List.length ((s4.2.2 ++ [(2, (s4.2.1, (([] : List Int), 0)))]))) : Nat) : Int)) - 1)) ((List.length ((s4.2.2 ++ [(2, (s4.2.1, (([] : List Int), 0)))]))))).bind fun j17 =>
        (((s4.2.2 ++ [(2, (s4.2.1, (([] : List Int), 0)))]))[j17]?).bind fun x18 =>
        some (.inr (((.inl ((x18.2.1, 2, 2, (runeW a0 s4.2.1), (s4.2.2 ++ [(2, (s4.2.1, (([] : List Int), 0)))]))))))))
        ((((s4.2.2 ++ [(2, (s4.2.1, (([] : List Int), 0)))]))[j15]?).bind fun x19 =>
        (((s4.2.2 ++ [(2, (s4.2.1, (([] : List Int), 0)))]))[j15]?).bind fun x20 =>
        (((List.set ((s4.2.2 ++ [(2, (s4.2.1, (([] : List Int), 0)))])) j15 ((x20.1, (x20.2.1, (x20.2.2.1, IntKind.u64.wrap ((IntKind.u64.wrap (10 * x19.2.2.2)) + (IntKind.u64.wrap (r14)))))))))[j15]?).bind fun x21 =>
        (D_signs_Text x21.2.2.2).bind fun r22 =>
        (((List.set ((s4.2.2 ++ [(2, (s4.2.1, (([] : List Int), 0)))])) j15 ((x20.1, (x20.2.1, (x20.2.2.1, IntKind.u64.wrap ((IntKind.u64.wrap (10 * x19.2.2.2)) + (IntKind.u64.wrap (r14)))))))))[j15]?).bind fun x23 =>
        some (.inl ((2, (runeW a0 s4.2.1), (List.set ((List.set ((s4.2.2 ++ [(2, (s4.2.1, (([] : List Int), 0)))])) j15 ((x20.1, (x20.2.1, (x20.2.2.1, IntKind.u64.wrap ((IntKind.u64.wrap (10 * x19.2.2.2)) + (IntKind.u64.wrap (r14))))))))) j15 ((x23.1, (x23.2.1, (r22, x23.2.2.2)))))))))))
       ((ix (IntKind.i64.wrap (((((List.length s4.2.2) : Nat) : Int)) - 1)) ((List.length s4.2.2))).bind fun j24 =>
       (s4.2.2[j24]?).bind fun x25 =>
       cond (decide ((IntKind.u64.wrap (Int.tdiv (IntKind.u64.wrap (18446744073709551615 - (IntKind.u64.wrap (r14)))) 10)) < x25.2.2.2))
        ((ix (IntKind.i64.wrap (((((List.length s4.2.2) : Nat) : Int)) - 1)) ((List.length s4.2.2))).bind fun j26 =>
        (s4.2.2[j26]?).bind fun x27 =>
        some (.inr (((.inl ((x27.2.1, 2, 2, (runeW a0 s4.2.1), s4.2.2)))))))
        ((s4.2.2[j24]?).bind fun x28 =>
        (s4.2.2[j24]?).bind fun x29 =>
        (((List.set s4.2.2 j24 ((x29.1, (x29.2.1, (x29.2.2.1, IntKind.u64.wrap ((IntKind.u64.wrap (10 * x28.2.2.2)) + (IntKind.u64.wrap (r14)))))))))[j24]?).bind fun x30 =>
        (D_signs_Text x30.2.2.2).bind fun r31 =>
        (((List.set s4.2.2 j24 ((x29.1, (x29.2.1, (x29.2.2.1, IntKind.u64.wrap ((IntKind.u64.wrap (10 * x28.2.2.2)) + (IntKind.u64.wrap (r14)))))))))[j24]?).bind fun x32 =>
        some (.inl ((2, (runeW a0 s4.2.1), (List.set ((List.set s4.2.2 j24 ((x29.1, (x29.2.1, (x29.2.2.1, IntKind.u64.wrap ((IntKind.u64.wrap (10 * x28.2.2.2)) + (IntKind.u64.wrap (r14))))))))) j24 ((x32.1, (x32.2.1, (r31, x32.2.2.2)))))))))))
      ((D_signs_mark ((runeC a0 s4.2.1))).bind fun r33 =>
      cond (decide (r33 ≠ 0))
       (gd (fits (List.length s4.2.2 + 1) 40) ((ix (IntKind.i64.wrap (((((List.length ((s4.2.2 ++ [(3, (s4.2.1, (([] : List Int), 0)))]))) : Nat) : Int)) - 1)) ((List.length ((s4.2.2 ++ [(3, (s4.2.1, (([] : List Int), 0)))]))))).bind fun j34 =>
       (D_signs_mark ((runeC a0 s4.2.1))).bind fun r35 =>
       (((s4.2.2 ++ [(3, (s4.2.1, (([] : List Int), 0)))]))[j34]?).bind fun x36 =>
       some (.inl ((0, (runeW a0 s4.2.1), (List.set ((s4.2.2 ++ [(3, (s4.2.1, (([] : List Int), 0)))])) j34 ((x36.1, (x36.2.1, ((utf8I r35), x36.2.2.2))))))))))
       (some (.inr (((.inl ((s4.2.1, 3, s4.1, (runeW a0 s4.2.1), s4.2.2))))))))))))
  (some (.inr (((.inr ((.inr ((s4.1, s4.2.1, s4.2.2))))))))))
/- backstitch/signs.Signs -/
def D_signs_Signs (a0 : List Int) : Option (Int × Int × List (Int × Int × (List Int) × Int)) :=
 (loopN (D_signs_Signs_L0 a0) BIG ((0, 0, []))).bind fun r37 =>
 caseS r37 (fun u'38 =>
  some ((u'38.1, u'38.2.1, [])))
  (fun w39 =>
  caseS w39 (fun u'40 =>
   some ((0, 0, u'40.2.2)))
   (fun w41 =>
   some ((0, 0, w41.2.2))))
def D_action_same_L0 (a0 a1 : List Int) (s3 : Int) : Option ((Int) ⊕ ((Bool × Int) ⊕ (Int))) :=
 gd (decide ((0 : Int) ≤ s3) && Nat.ble 1 1) (cond (decide (s3 < (((List.length a0 : Nat) : Int))))
  ((rd a1 s3).bind fun x4 =>
  cond (decide ((IntKind.i32.wrap (x4)) ≠ ((runeC a0 s3))))
   (some (.inr (((.inl ((false, (runeW a0 s3))))))))
   (some (.inl ((runeW a0 s3)))))
  (some (.inr (((.inr s3))))))
/- backstitch/action.same -/
def D_action_same (a0 a1 : List Int) : Option (Bool) :=
 cond (decide ((((List.length a0 : Nat) : Int)) ≠ (((List.length a1 : Nat) : Int))))
  (some false)
  ((loopN (D_action_same_L0 a0 a1) BIG 0).bind fun r5 =>
  caseS r5 (fun u'6 =>
   some u'6.1)
   (fun w7 =>
   some true))
def D_action_kind_L0 (a0 r1_0 r1_1 r1_2 r1_3 r1_4 r1_5 r1_6 r1_7 r1_8 r1_9 : List Int) (s3 : Int) : Option ((Int) ⊕ ((Int) ⊕ (Unit))) :=
 cond (decide (s3 < 10))
  ((ix s3 10).bind fun j4 =>
  cond (decide (0 < s3))
   ((D_action_same ((List.getD [r1_0, r1_1, r1_2, r1_3, r1_4, r1_5, r1_6, r1_7, r1_8, r1_9] j4 [])) a0).bind fun r5 =>
   cond (r5)
    (some (.inr (((.inl s3)))))
    (some (.inl (IntKind.i64.wrap (s3 + 1)))))
   (some (.inl (IntKind.i64.wrap (s3 + 1)))))
  (some (.inr (((.inr ())))))
/- backstitch/action.kind -/
def D_action_kind (a0 : List Int) : Option (Int) :=
 (D_action_names).bind fun ⟨r1_0, r1_1, r1_2, r1_3, r1_4, r1_5, r1_6, r1_7, r1_8, r1_9⟩ =>
 (loopN (D_action_kind_L0 a0 r1_0 r1_1 r1_2 r1_3 r1_4 r1_5 r1_6 r1_7 r1_8 r1_9) BIG 0).bind fun r6 =>
 caseS r6 (fun u'7 =>
  some u'7)
  (fun w8 =>
  some 0)
/- (backstitch/action.line).action -/
def D_action_line_action (a0 : List (Int × Int × (List Int) × Int)) : Option (Int × Int × Int) :=
 (rd a0 0).bind fun x1 =>
 cond (decide (x1.1 ≠ 1))
  (some ((0, 0, 3)))
  ((rd a0 0).bind fun x2 =>
  (D_action_kind x2.2.2.1).bind fun r3 =>
  cond (decide (r3 = 0))
   (some ((r3, 0, 3)))
   (((((D_action_numbered r3).bind fun r4 =>
   cond (!r4)
    (some (decide (((((List.length a0) : Nat) : Int)) = 1)))
    (some false)) : Option (Bool))).bind fun s5 =>
   cond (s5)
    (some ((r3, 0, 0)))
    ((D_action_numbered r3).bind fun r6 =>
    cond (!r6)
     (some ((0, 0, 3)))
     (cond (decide (((((List.length a0) : Nat) : Int)) ≠ 2))
      (some ((0, 0, 3)))
      ((rd a0 1).bind fun x7 =>
      cond (decide (x7.1 ≠ 2))
       (some ((0, 0, 3)))
       ((rd a0 1).bind fun x8 =>
       (D_action_Right r3 (IntKind.i64.wrap (min x8.2.2.2 1048576))).bind fun r9 =>
       cond (!r9)
        (some ((0, 0, 2)))
        (some ((r3, IntKind.i64.wrap (min x8.2.2.2 1048576), 0)))))))))
def D_action_each_L0 (r1 : List (List Int)) (s4 : Int × List (Int × Int)) : Option ((Int × List (Int × Int)) ⊕ ((Int × Int) ⊕ (List (Int × Int)))) :=
 cond (decide (s4.1 < ((((List.length r1) : Nat) : Int))))
  ((ix s4.1 ((List.length r1))).bind fun j5 =>
  (r1[j5]?).bind fun x6 =>
  (D_signs_Signs x6).bind fun r7 =>
  cond (decide (r7.2.1 ≠ 0))
   (some (.inr (((.inl ((s4.1, r7.2.1)))))))
   (cond (decide (((((List.length r7.2.2) : Nat) : Int)) = 0))
    (some (.inl ((IntKind.i64.wrap (s4.1 + 1), s4.2))))
    ((D_action_line_action r7.2.2).bind fun r8 =>
    cond (decide (r8.2.2 ≠ 0))
     (some (.inr (((.inl ((s4.1, r8.2.2)))))))
     (gd (fits (List.length s4.2 + 1) 16) (some (.inl ((IntKind.i64.wrap (s4.1 + 1), (s4.2 ++ [(r8.1, r8.2.1)])))))))))
  (some (.inr (((.inr s4.2)))))
/- backstitch/action.each -/
def D_action_each (a0 : List Int) : Option (Int × Int × List (Int × Int)) :=
 (D_signs_Lines a0).bind fun r1 =>
 (loopN (D_action_each_L0 r1) BIG ((0, []))).bind fun r9 =>
 caseS r9 (fun u'10 =>
  some ((u'10.1, u'10.2, [])))
  (fun w11 =>
  some ((0, 0, w11)))
/- backstitch/action.Parse -/
def D_action_Parse (a0 : List Int) : Option (Int × Int × List (Int × Int)) :=
 cond (decide (65536 < (((List.length a0 : Nat) : Int))))
  (some ((0, 11, [])))
  ((D_action_each a0).bind fun r1 =>
  some ((r1.1, r1.2.1, r1.2.2)))
def D_ref04_Lines_L0 (a0 : List Int) (s6 : Int × Bool × (List Int) × List (List Int)) : Option ((Int × Bool × (List Int) × List (List Int)) ⊕ (Bool × (List (List Int)) × List Int)) :=
 cond (decide (s6.1 < (((List.length a0 : Nat) : Int))))
  ((rd a0 s6.1).bind fun x7 =>
  cond (decide (x7 ≠ 10))
   ((rd a0 s6.1).bind fun x8 =>
   gd (fits (List.length s6.2.2.1 + 1) 1) (some (.inl ((IntKind.i64.wrap (s6.1 + 1), decide (x7 ≠ 10), (s6.2.2.1 ++ [x8]), s6.2.2.2)))))
   (gd (fits (List.length s6.2.2.2 + 1) 16) (some (.inl ((IntKind.i64.wrap (s6.1 + 1), decide (x7 ≠ 10), [], (s6.2.2.2 ++ [(List.map byteI s6.2.2.1)])))))))
  (some (.inr (((s6.2.1, s6.2.2.2, s6.2.2.1)))))
/- backstitch/backstitchref04.Lines -/
def D_ref04_Lines (a0 : List Int) : Option (List (List Int)) :=
 (loopN (D_ref04_Lines_L0 a0) BIG ((0, false, [], []))).bind fun r9 =>
 cond (r9.1)
  (gd (fits (List.length r9.2.1 + 1) 16) (some ((r9.2.1 ++ [(List.map byteI r9.2.2)]))))
  (some r9.2.1)
/- backstitch/backstitchref04.sign -/
def D_ref04_sign (a0 : List Int) (a1 : Int) : Option (Int × Int) :=
 (rd a0 a1).bind fun x2 =>
 cond (decide (x2 = 9))
  (some ((1, 32)))
  (cond (decide (x2 = 13))
   (some ((1, 32)))
   (cond (decide (x2 = 32))
    (some ((1, 32)))
    ((((cond (decide (97 ≤ x2))
     (cond (decide (x2 ≤ 122))
      (some ((.inl x2)))
      (cond (decide (48 ≤ x2))
       (cond (decide (x2 ≤ 57))
        (some ((.inl x2)))
        (cond (decide (x2 = 61))
         (some ((.inl x2)))
         (cond (decide (x2 = 43))
          (some ((.inl x2)))
          (cond (decide (x2 = 45))
           (some ((.inl x2)))
           (cond (decide (x2 = 42))
            (some ((.inl x2)))
            (cond (decide (x2 = 123))
             (some ((.inl x2)))
             (cond (decide (x2 = 125))
              (some ((.inl x2)))
              (cond (decide (x2 = 35))
               (some ((.inl x2)))
               (some ((.inr ())))))))))))
       (cond (decide (x2 = 61))
        (some ((.inl x2)))
        (cond (decide (x2 = 43))
         (some ((.inl x2)))
         (cond (decide (x2 = 45))
          (some ((.inl x2)))
          (cond (decide (x2 = 42))
           (some ((.inl x2)))
           (cond (decide (x2 = 123))
            (some ((.inl x2)))
            (cond (decide (x2 = 125))
             (some ((.inl x2)))
             (cond (decide (x2 = 35))
              (some ((.inl x2)))
              (some ((.inr ()))))))))))))
     (cond (decide (48 ≤ x2))
      (cond (decide (x2 ≤ 57))
       (some ((.inl x2)))
       (cond (decide (x2 = 61))
        (some ((.inl x2)))
        (cond (decide (x2 = 43))
         (some ((.inl x2)))
         (cond (decide (x2 = 45))
          (some ((.inl x2)))
          (cond (decide (x2 = 42))
           (some ((.inl x2)))
           (cond (decide (x2 = 123))
            (some ((.inl x2)))
            (cond (decide (x2 = 125))
             (some ((.inl x2)))
             (cond (decide (x2 = 35))
              (some ((.inl x2)))
              (some ((.inr ())))))))))))
      (cond (decide (x2 = 61))
       (some ((.inl x2)))
       (cond (decide (x2 = 43))
        (some ((.inl x2)))
        (cond (decide (x2 = 45))
         (some ((.inl x2)))
         (cond (decide (x2 = 42))
          (some ((.inl x2)))
          (cond (decide (x2 = 123))
           (some ((.inl x2)))
           (cond (decide (x2 = 125))
            (some ((.inl x2)))
            (cond (decide (x2 = 35))
             (some ((.inl x2)))
             (some ((.inr ())))))))))))) : Option ((Int) ⊕ (Unit)))).bind fun s3 =>
    caseS s3 (fun u'4 =>
     some ((1, u'4)))
     (fun w5 =>
     (((cond (decide ((IntKind.i64.wrap (a1 + 2)) ≤ (((List.length a0 : Nat) : Int))))
      (gd (cutG a1 (IntKind.i64.wrap (a1 + 2)) ((List.length a0))) (some ((cutL a0 a1 (IntKind.i64.wrap (a1 + 2))))))
      (some (([] : List Int)))) : Option (List Int))).bind fun s6 =>
     (((cond (decide ((IntKind.i64.wrap (a1 + 3)) ≤ (((List.length a0 : Nat) : Int))))
      (gd (cutG a1 (IntKind.i64.wrap (a1 + 3)) ((List.length a0))) (some ((cutL a0 a1 (IntKind.i64.wrap (a1 + 3))))))
      (some (([] : List Int)))) : Option (List Int))).bind fun s7 =>
     cond (decide (s6 = ([194, 160] : List Int)))
      (some ((2, 32)))
      (cond (decide (s6 = ([195, 151] : List Int)))
       (some ((2, 42)))
       (cond (decide (s6 = ([194, 183] : List Int)))
        (some ((2, 42)))
        (cond (decide (s7 = ([226, 128, 131] : List Int)))
         (some ((3, 32)))
         (cond (decide (s7 = ([227, 128, 128] : List Int)))
          (some ((3, 32)))
          (cond (decide (s7 = ([226, 134, 144] : List Int)))
           (some ((3, 61)))
           (cond (decide (s7 = ([226, 136, 146] : List Int)))
            (some ((3, 45)))
            (cond (decide ((((List.length s7 : Nat) : Int)) = 3))
             (gd (cutG 0 2 ((List.length s7))) (cond (decide ((cutL s7 0 2) = ([239, 188] : List Int)))
              ((rd s7 2).bind fun x8 =>
              cond (decide (144 ≤ x8))
               ((rd s7 2).bind fun x9 =>
               cond (decide (x9 ≤ 153))
                ((rd s7 2).bind fun x10 =>
                some ((3, IntKind.u8.wrap ((IntKind.u8.wrap (48 + x10)) - 144))))
                (some ((1, 63))))
               (some ((1, 63))))
              (some ((1, 63)))))
             (some ((1, 63))))))))))))))
def D_ref04_Signs_L0 (a0 : List Int) (s11 : Int × Int × List Int) : Option ((Int × Int × List Int) ⊕ ((Int × (List Int) × Int × Int × Bool × (List Int) × Int × Int × Bool × Int × List Int) ⊕ ((Int × (List Int) × Int × Int × Bool × Int × List Int) ⊕ (Int × Int × List Int)))) :=
 cond (decide (s11.1 < (((List.length a0 : Nat) : Int))))
  ((rd a0 s11.1).bind fun x12 =>
  cond (decide (97 ≤ x12))
   ((rd a0 s11.1).bind fun x13 =>
   cond (decide (x13 ≤ 122))
    (gd (cutG s11.1 (IntKind.i64.wrap (s11.1 + 1)) ((List.length a0))) (gd (sfits (List.length s11.2.2) (List.length ((cutL a0 s11.1 (IntKind.i64.wrap (s11.1 + 1)))))) (some (.inl ((IntKind.i64.wrap (s11.1 + 1), s11.2.1, (s11.2.2 ++ (cutL a0 s11.1 (IntKind.i64.wrap (s11.1 + 1))))))))))
    (some (.inr (((.inl ((s11.1, a0, s11.1, x12, decide (97 ≤ x12), a0, s11.1, x13, decide (x13 ≤ 122), s11.2.1, s11.2.2))))))))
   (some (.inr (((.inr ((.inl ((s11.1, a0, s11.1, x12, decide (97 ≤ x12), s11.2.1, s11.2.2))))))))))
  (some (.inr (((.inr ((.inr ((s11.1, s11.2.1, s11.2.2)))))))))
def D_ref04_Signs_L1 (a0 : List Int) (s30 : Int × Int × Int × Int × (List Int) × Int) : Option ((Int × Int × Int × Int × (List Int) × Int) ⊕ ((Int × Int × (List Int) × Int) ⊕ ((Int × Int × Bool × Int × (List Int) × Int) ⊕ (Int × Int × (List Int) × Int)))) :=
 cond (decide (48 ≤ s30.1))
  (cond (decide (s30.1 ≤ 57))
   ((((cond (decide (1844674407370955161 < s30.2.2.2.2.2))
    (some ((.inl s30.2.2.2.1)))
    (cond (decide (s30.2.2.2.2.2 = 1844674407370955161))
     (cond (decide (5 < (IntKind.u64.wrap (IntKind.u8.wrap (s30.1 - 48)))))
      (some ((.inl s30.2.2.2.1)))
      (some ((.inr ((.inl ((s30.2.2.2.2.2, decide (s30.2.2.2.2.2 = 1844674407370955161), true, IntKind.u64.wrap (IntKind.u8.wrap (s30.1 - 48)), decide (5 < (IntKind.u64.wrap (IntKind.u8.wrap (s30.1 - 48)))), decide (5 < (IntKind.u64.wrap (IntKind.u8.wrap (s30.1 - 48))))))))))))
     (some ((.inr ((.inr ((s30.2.2.2.2.2, decide (s30.2.2.2.2.2 = 1844674407370955161), false, false))))))))) : Option ((Int) ⊕ ((Int × Bool × Bool × Int × Bool × Bool) ⊕ (Int × Bool × Bool × Bool))))).bind fun s31 =>
   caseS s31 (fun u'32 =>
    some (.inr (((.inl ((u'32, s30.2.2.2.1, s30.2.2.2.2.1, s30.2.2.2.2.2)))))))
    (fun w33 =>
    caseS w33 (fun u'34 =>
     cond (decide ((IntKind.i64.wrap (s30.2.1 + s30.2.2.1)) < (((List.length a0 : Nat) : Int))))
      ((D_ref04_sign a0 (IntKind.i64.wrap (s30.2.1 + s30.2.2.1))).bind fun r35 =>
      some (.inl ((r35.2, IntKind.i64.wrap (s30.2.1 + s30.2.2.1), r35.1, s30.2.2.2.1, s30.2.2.2.2.1, IntKind.u64.wrap ((IntKind.u64.wrap (10 * s30.2.2.2.2.2)) + (IntKind.u64.wrap (IntKind.u8.wrap (s30.1 - 48))))))))
      (some (.inl ((0, IntKind.i64.wrap (s30.2.1 + s30.2.2.1), s30.2.2.1, s30.2.2.2.1, s30.2.2.2.2.1, IntKind.u64.wrap ((IntKind.u64.wrap (10 * s30.2.2.2.2.2)) + (IntKind.u64.wrap (IntKind.u8.wrap (s30.1 - 48)))))))))
     (fun w36 =>
     cond (decide ((IntKind.i64.wrap (s30.2.1 + s30.2.2.1)) < (((List.length a0 : Nat) : Int))))
      ((D_ref04_sign a0 (IntKind.i64.wrap (s30.2.1 + s30.2.2.1))).bind fun r37 =>
      some (.inl ((r37.2, IntKind.i64.wrap (s30.2.1 + s30.2.2.1), r37.1, s30.2.2.2.1, s30.2.2.2.2.1, IntKind.u64.wrap ((IntKind.u64.wrap (10 * s30.2.2.2.2.2)) + (IntKind.u64.wrap (IntKind.u8.wrap (s30.1 - 48))))))))
      (some (.inl ((0, IntKind.i64.wrap (s30.2.1 + s30.2.2.1), s30.2.2.1, s30.2.2.2.1, s30.2.2.2.2.1, IntKind.u64.wrap ((IntKind.u64.wrap (10 * s30.2.2.2.2.2)) + (IntKind.u64.wrap (IntKind.u8.wrap (s30.1 - 48)))))))))))
   (some (.inr (((.inr ((.inl ((s30.2.1, s30.1, decide (s30.1 ≤ 57), s30.2.2.2.1, s30.2.2.2.2.1, s30.2.2.2.2.2))))))))))
  (some (.inr (((.inr ((.inr ((s30.2.1, s30.2.2.2.1, s30.2.2.2.2.1, s30.2.2.2.2.2)))))))))
def D_ref04_Signs_L2 (a0 : List Int) (s55 : Int × Int × Int × Int × (List Int) × Int) : Option ((Int × Int × Int × Int × (List Int) × Int) ⊕ ((Int × Int × (List Int) × Int) ⊕ ((Int × Int × Bool × Int × (List Int) × Int) ⊕ (Int × Int × (List Int) × Int)))) :=
 cond (decide (48 ≤ s55.1))
  (cond (decide (s55.1 ≤ 57))
   ((((cond (decide (1844674407370955161 < s55.2.2.2.2.2))
    (some ((.inl s55.2.2.2.1)))
    (cond (decide (s55.2.2.2.2.2 = 1844674407370955161))
     (cond (decide (5 < (IntKind.u64.wrap (IntKind.u8.wrap (s55.1 - 48)))))
      (some ((.inl s55.2.2.2.1)))
      (some ((.inr ((.inl ((s55.2.2.2.2.2, decide (s55.2.2.2.2.2 = 1844674407370955161), true, IntKind.u64.wrap (IntKind.u8.wrap (s55.1 - 48)), decide (5 < (IntKind.u64.wrap (IntKind.u8.wrap (s55.1 - 48)))), decide (5 < (IntKind.u64.wrap (IntKind.u8.wrap (s55.1 - 48))))))))))))
     (some ((.inr ((.inr ((s55.2.2.2.2.2, decide (s55.2.2.2.2.2 = 1844674407370955161), false, false))))))))) : Option ((Int) ⊕ ((Int × Bool × Bool × Int × Bool × Bool) ⊕ (Int × Bool × Bool × Bool))))).bind fun s56 =>
   caseS s56 (fun u'57 =>
    some (.inr (((.inl ((u'57, s55.2.2.2.1, s55.2.2.2.2.1, s55.2.2.2.2.2)))))))
    (fun w58 =>
    caseS w58 (fun u'59 =>
     cond (decide ((IntKind.i64.wrap (s55.2.1 + s55.2.2.1)) < (((List.length a0 : Nat) : Int))))
      ((D_ref04_sign a0 (IntKind.i64.wrap (s55.2.1 + s55.2.2.1))).bind fun r60 =>
      some (.inl ((r60.2, IntKind.i64.wrap (s55.2.1 + s55.2.2.1), r60.1, s55.2.2.2.1, s55.2.2.2.2.1, IntKind.u64.wrap ((IntKind.u64.wrap (10 * s55.2.2.2.2.2)) + (IntKind.u64.wrap (IntKind.u8.wrap (s55.1 - 48))))))))
      (some (.inl ((0, IntKind.i64.wrap (s55.2.1 + s55.2.2.1), s55.2.2.1, s55.2.2.2.1, s55.2.2.2.2.1, IntKind.u64.wrap ((IntKind.u64.wrap (10 * s55.2.2.2.2.2)) + (IntKind.u64.wrap (IntKind.u8.wrap (s55.1 - 48)))))))))
     (fun w61 =>
     cond (decide ((IntKind.i64.wrap (s55.2.1 + s55.2.2.1)) < (((List.length a0 : Nat) : Int))))
      ((D_ref04_sign a0 (IntKind.i64.wrap (s55.2.1 + s55.2.2.1))).bind fun r62 =>
      some (.inl ((r62.2, IntKind.i64.wrap (s55.2.1 + s55.2.2.1), r62.1, s55.2.2.2.1, s55.2.2.2.2.1, IntKind.u64.wrap ((IntKind.u64.wrap (10 * s55.2.2.2.2.2)) + (IntKind.u64.wrap (IntKind.u8.wrap (s55.1 - 48))))))))
      (some (.inl ((0, IntKind.i64.wrap (s55.2.1 + s55.2.2.1), s55.2.2.1, s55.2.2.2.1, s55.2.2.2.2.1, IntKind.u64.wrap ((IntKind.u64.wrap (10 * s55.2.2.2.2.2)) + (IntKind.u64.wrap (IntKind.u8.wrap (s55.1 - 48)))))))))))
   (some (.inr (((.inr ((.inl ((s55.2.1, s55.1, decide (s55.1 ≤ 57), s55.2.2.2.1, s55.2.2.2.2.1, s55.2.2.2.2.2))))))))))
  (some (.inr (((.inr ((.inr ((s55.2.1, s55.2.2.2.1, s55.2.2.2.2.1, s55.2.2.2.2.2)))))))))
def D_ref04_Signs_L3 (a0 : List Int) (s75 : Int × Int × List Int) : Option ((Int × Int × List Int) ⊕ ((Int × (List Int) × Int × Int × Bool × (List Int) × Int × Int × Bool × Int × List Int) ⊕ ((Int × (List Int) × Int × Int × Bool × Int × List Int) ⊕ (Int × Int × List Int)))) :=
 cond (decide (s75.1 < (((List.length a0 : Nat) : Int))))
  ((rd a0 s75.1).bind fun x76 =>
  cond (decide (97 ≤ x76))
   ((rd a0 s75.1).bind fun x77 =>
   cond (decide (x77 ≤ 122))
    (gd (cutG s75.1 (IntKind.i64.wrap (s75.1 + 1)) ((List.length a0))) (gd (sfits (List.length s75.2.2) (List.length ((cutL a0 s75.1 (IntKind.i64.wrap (s75.1 + 1)))))) (some (.inl ((IntKind.i64.wrap (s75.1 + 1), s75.2.1, (s75.2.2 ++ (cutL a0 s75.1 (IntKind.i64.wrap (s75.1 + 1))))))))))
    (some (.inr (((.inl ((s75.1, a0, s75.1, x76, decide (97 ≤ x76), a0, s75.1, x77, decide (x77 ≤ 122), s75.2.1, s75.2.2))))))))
   (some (.inr (((.inr ((.inl ((s75.1, a0, s75.1, x76, decide (97 ≤ x76), s75.2.1, s75.2.2))))))))))
  (some (.inr (((.inr ((.inr ((s75.1, s75.2.1, s75.2.2)))))))))
def D_ref04_Signs_L4 (a0 : List Int) (s94 : Int × Int × Int × Int × (List Int) × Int) : Option ((Int × Int × Int × Int × (List Int) × Int) ⊕ ((Int × Int × (List Int) × Int) ⊕ ((Int × Int × Bool × Int × (List Int) × Int) ⊕ (Int × Int × (List Int) × Int)))) :=
 cond (decide (48 ≤ s94.1))
  (cond (decide (s94.1 ≤ 57))
   ((((cond (decide (1844674407370955161 < s94.2.2.2.2.2))
    (some ((.inl s94.2.2.2.1)))
    (cond (decide (s94.2.2.2.2.2 = 1844674407370955161))
     (cond (decide (5 < (IntKind.u64.wrap (IntKind.u8.wrap (s94.1 - 48)))))
      (some ((.inl s94.2.2.2.1)))
      (some ((.inr ((.inl ((s94.2.2.2.2.2, decide (s94.2.2.2.2.2 = 1844674407370955161), true, IntKind.u64.wrap (IntKind.u8.wrap (s94.1 - 48)), decide (5 < (IntKind.u64.wrap (IntKind.u8.wrap (s94.1 - 48)))), decide (5 < (IntKind.u64.wrap (IntKind.u8.wrap (s94.1 - 48))))))))))))
     (some ((.inr ((.inr ((s94.2.2.2.2.2, decide (s94.2.2.2.2.2 = 1844674407370955161), false, false))))))))) : Option ((Int) ⊕ ((Int × Bool × Bool × Int × Bool × Bool) ⊕ (Int × Bool × Bool × Bool))))).bind fun s95 =>
   caseS s95 (fun u'96 =>
    some (.inr (((.inl ((u'96, s94.2.2.2.1, s94.2.2.2.2.1, s94.2.2.2.2.2)))))))
    (fun w97 =>
    caseS w97 (fun u'98 =>
     cond (decide ((IntKind.i64.wrap (s94.2.1 + s94.2.2.1)) < (((List.length a0 : Nat) : Int))))
      ((D_ref04_sign a0 (IntKind.i64.wrap (s94.2.1 + s94.2.2.1))).bind fun r99 =>
      some (.inl ((r99.2, IntKind.i64.wrap (s94.2.1 + s94.2.2.1), r99.1, s94.2.2.2.1, s94.2.2.2.2.1, IntKind.u64.wrap ((IntKind.u64.wrap (10 * s94.2.2.2.2.2)) + (IntKind.u64.wrap (IntKind.u8.wrap (s94.1 - 48))))))))
      (some (.inl ((0, IntKind.i64.wrap (s94.2.1 + s94.2.2.1), s94.2.2.1, s94.2.2.2.1, s94.2.2.2.2.1, IntKind.u64.wrap ((IntKind.u64.wrap (10 * s94.2.2.2.2.2)) + (IntKind.u64.wrap (IntKind.u8.wrap (s94.1 - 48)))))))))
     (fun w100 =>
     cond (decide ((IntKind.i64.wrap (s94.2.1 + s94.2.2.1)) < (((List.length a0 : Nat) : Int))))
      ((D_ref04_sign a0 (IntKind.i64.wrap (s94.2.1 + s94.2.2.1))).bind fun r101 =>
      some (.inl ((r101.2, IntKind.i64.wrap (s94.2.1 + s94.2.2.1), r101.1, s94.2.2.2.1, s94.2.2.2.2.1, IntKind.u64.wrap ((IntKind.u64.wrap (10 * s94.2.2.2.2.2)) + (IntKind.u64.wrap (IntKind.u8.wrap (s94.1 - 48))))))))
      (some (.inl ((0, IntKind.i64.wrap (s94.2.1 + s94.2.2.1), s94.2.2.1, s94.2.2.2.1, s94.2.2.2.2.1, IntKind.u64.wrap ((IntKind.u64.wrap (10 * s94.2.2.2.2.2)) + (IntKind.u64.wrap (IntKind.u8.wrap (s94.1 - 48)))))))))))
   (some (.inr (((.inr ((.inl ((s94.2.1, s94.1, decide (s94.1 ≤ 57), s94.2.2.2.1, s94.2.2.2.2.1, s94.2.2.2.2.2))))))))))
  (some (.inr (((.inr ((.inr ((s94.2.1, s94.2.2.2.1, s94.2.2.2.2.1, s94.2.2.2.2.2)))))))))
def D_ref04_Signs_L5 (a0 : List Int) (s119 : Int × Int × Int × Int × (List Int) × Int) : Option ((Int × Int × Int × Int × (List Int) × Int) ⊕ ((Int × Int × (List Int) × Int) ⊕ ((Int × Int × Bool × Int × (List Int) × Int) ⊕ (Int × Int × (List Int) × Int)))) :=
 cond (decide (48 ≤ s119.1))
  (cond (decide (s119.1 ≤ 57))
   ((((cond (decide (1844674407370955161 < s119.2.2.2.2.2))
    (some ((.inl s119.2.2.2.1)))
    (cond (decide (s119.2.2.2.2.2 = 1844674407370955161))
     (cond (decide (5 < (IntKind.u64.wrap (IntKind.u8.wrap (s119.1 - 48)))))
      (some ((.inl s119.2.2.2.1)))
      (some ((.inr ((.inl ((s119.2.2.2.2.2, decide (s119.2.2.2.2.2 = 1844674407370955161), true, IntKind.u64.wrap (IntKind.u8.wrap (s119.1 - 48)), decide (5 < (IntKind.u64.wrap (IntKind.u8.wrap (s119.1 - 48)))), decide (5 < (IntKind.u64.wrap (IntKind.u8.wrap (s119.1 - 48))))))))))))
     (some ((.inr ((.inr ((s119.2.2.2.2.2, decide (s119.2.2.2.2.2 = 1844674407370955161), false, false))))))))) : Option ((Int) ⊕ ((Int × Bool × Bool × Int × Bool × Bool) ⊕ (Int × Bool × Bool × Bool))))).bind fun s120 =>
   caseS s120 (fun u'121 =>
    some (.inr (((.inl ((u'121, s119.2.2.2.1, s119.2.2.2.2.1, s119.2.2.2.2.2)))))))
    (fun w122 =>
    caseS w122 (fun u'123 =>
     cond (decide ((IntKind.i64.wrap (s119.2.1 + s119.2.2.1)) < (((List.length a0 : Nat) : Int))))
      ((D_ref04_sign a0 (IntKind.i64.wrap (s119.2.1 + s119.2.2.1))).bind fun r124 =>
      some (.inl ((r124.2, IntKind.i64.wrap (s119.2.1 + s119.2.2.1), r124.1, s119.2.2.2.1, s119.2.2.2.2.1, IntKind.u64.wrap ((IntKind.u64.wrap (10 * s119.2.2.2.2.2)) + (IntKind.u64.wrap (IntKind.u8.wrap (s119.1 - 48))))))))
      (some (.inl ((0, IntKind.i64.wrap (s119.2.1 + s119.2.2.1), s119.2.2.1, s119.2.2.2.1, s119.2.2.2.2.1, IntKind.u64.wrap ((IntKind.u64.wrap (10 * s119.2.2.2.2.2)) + (IntKind.u64.wrap (IntKind.u8.wrap (s119.1 - 48)))))))))
     (fun w125 =>
     cond (decide ((IntKind.i64.wrap (s119.2.1 + s119.2.2.1)) < (((List.length a0 : Nat) : Int))))
      ((D_ref04_sign a0 (IntKind.i64.wrap (s119.2.1 + s119.2.2.1))).bind fun r126 =>
      some (.inl ((r126.2, IntKind.i64.wrap (s119.2.1 + s119.2.2.1), r126.1, s119.2.2.2.1, s119.2.2.2.2.1, IntKind.u64.wrap ((IntKind.u64.wrap (10 * s119.2.2.2.2.2)) + (IntKind.u64.wrap (IntKind.u8.wrap (s119.1 - 48))))))))
      (some (.inl ((0, IntKind.i64.wrap (s119.2.1 + s119.2.2.1), s119.2.2.1, s119.2.2.2.1, s119.2.2.2.2.1, IntKind.u64.wrap ((IntKind.u64.wrap (10 * s119.2.2.2.2.2)) + (IntKind.u64.wrap (IntKind.u8.wrap (s119.1 - 48)))))))))))
   (some (.inr (((.inr ((.inl ((s119.2.1, s119.1, decide (s119.1 ≤ 57), s119.2.2.2.1, s119.2.2.2.2.1, s119.2.2.2.2.2))))))))))
  (some (.inr (((.inr ((.inr ((s119.2.1, s119.2.2.2.1, s119.2.2.2.2.1, s119.2.2.2.2.2)))))))))
def D_ref04_Signs_L6 (a0 : List Int) (s3 : Int × List (Int × Int × (List Int) × Int)) : Option ((Int × List (Int × Int × (List Int) × Int)) ⊕ ((Int × Int × List (Int × Int × (List Int) × Int)) ⊕ (List (Int × Int × (List Int) × Int)))) :=
 cond (decide (s3.1 < (((List.length a0 : Nat) : Int))))
  ((D_ref04_sign a0 s3.1).bind fun r4 =>
  cond (decide (r4.2 = 35))
   (some (.inr (((.inl ((0, 0, s3.2)))))))
   (cond (decide (r4.2 = 63))
    (some (.inr (((.inl ((s3.1, 3, [])))))))
    ((((cond (decide (r4.2 = 32))
     (some ((.inl ((IntKind.i64.wrap (s3.1 + r4.1), s3.1, ([] : List Int))))))
     ((((cond (decide (97 ≤ r4.2))
      (some ((.inl ((decide (r4.2 ≤ 122), r4.2, decide (r4.2 ≤ 122))))))
      (some ((.inr false)))) : Option ((Bool × Int × Bool) ⊕ (Bool)))).bind fun s5 =>
     caseS s5 (fun u'6 =>
      cond (u'6.1)
       ((loopN (D_ref04_Signs_L0 a0) BIG ((s3.1, s3.1, ([] : List Int)))).bind fun r14 =>
       caseS r14 (fun ⟨u'15_0, u'15_1, u'15_2, u'15_3, u'15_4, u'15_5, u'15_6, u'15_7, u'15_8, u'15_9, u'15_10⟩ =>
        some ((.inr ((.inl ((u'15_0, u'6.2.1, u'6.2.2, 1, u'15_9, u'15_10, 0)))))))
        (fun w16 =>
        caseS w16 (fun u'17 =>
         some ((.inr ((.inl ((u'17.1, u'6.2.1, u'6.2.2, 1, u'17.2.2.2.2.2.1, u'17.2.2.2.2.2.2, 0)))))))
         (fun w18 =>
         some ((.inr ((.inl ((w18.1, u'6.2.1, u'6.2.2, 1, w18.2.1, w18.2.2, 0)))))))))
       ((((cond (decide (48 ≤ r4.2))
        (some ((.inl ((decide (r4.2 ≤ 57), r4.2, decide (r4.2 ≤ 57))))))
        (some ((.inr false)))) : Option ((Bool × Int × Bool) ⊕ (Bool)))).bind fun s19 =>
       caseS s19 (fun u'20 =>
        cond (u'20.1)
         ((loopN (D_ref04_Signs_L1 a0) BIG ((r4.2, s3.1, r4.1, s3.1, ([] : List Int), 0))).bind fun r38 =>
         caseS r38 (fun u'39 =>
          some ((.inr ((.inr ((.inr ((.inr ((.inr ((.inr ((.inr ((u'39.1, u'39.2.1, u'39.2.2.1, u'39.2.2.2)))))))))))))))))
          (fun w40 =>
          caseS w40 (fun u'41 =>
           (D_ref04_Text u'41.2.2.2.2.2).bind fun r42 =>
           some ((.inr ((.inl ((u'41.1, u'6.2.1, u'6.2.2, 2, u'41.2.2.2.1, r42, u'41.2.2.2.2.2)))))))
           (fun w43 =>
           (D_ref04_Text w43.2.2.2).bind fun r44 =>
           some ((.inr ((.inl ((w43.1, u'6.2.1, u'6.2.2, 2, w43.2.1, r44, w43.2.2.2)))))))))
         (some ((.inr ((.inl ((IntKind.i64.wrap (s3.1 + r4.1), u'6.2.1, u'6.2.2, 3, s3.1, (List.map byteI [r4.2]), 0))))))))
        (fun w45 =>
        cond (w45)
         ((loopN (D_ref04_Signs_L2 a0) BIG ((r4.2, s3.1, r4.1, s3.1, ([] : List Int), 0))).bind fun r63 =>
         caseS r63 (fun u'64 =>
          some ((.inr ((.inr ((.inr ((.inr ((.inr ((.inr ((.inr ((u'64.1, u'64.2.1, u'64.2.2.1, u'64.2.2.2)))))))))))))))))
          (fun w65 =>
          caseS w65 (fun u'66 =>
           (D_ref04_Text u'66.2.2.2.2.2).bind fun r67 =>
           some ((.inr ((.inl ((u'66.1, u'6.2.1, u'6.2.2, 2, u'66.2.2.2.1, r67, u'66.2.2.2.2.2)))))))
           (fun w68 =>
           (D_ref04_Text w68.2.2.2).bind fun r69 =>
           some ((.inr ((.inl ((w68.1, u'6.2.1, u'6.2.2, 2, w68.2.1, r69, w68.2.2.2)))))))))
         (some ((.inr ((.inl ((IntKind.i64.wrap (s3.1 + r4.1), u'6.2.1, u'6.2.2, 3, s3.1, (List.map byteI [r4.2]), 0))))))))))
      (fun w70 =>
      cond (w70)
       ((loopN (D_ref04_Signs_L3 a0) BIG ((s3.1, s3.1, ([] : List Int)))).bind fun r78 =>
       caseS r78 (fun ⟨u'79_0, u'79_1, u'79_2, u'79_3, u'79_4, u'79_5, u'79_6, u'79_7, u'79_8, u'79_9, u'79_10⟩ =>
        some ((.inr ((.inr ((.inr ((.inr ((.inl ((u'79_0, 1, u'79_9, u'79_10, 0)))))))))))))
        (fun w80 =>
        caseS w80 (fun u'81 =>
         some ((.inr ((.inr ((.inr ((.inr ((.inl ((u'81.1, 1, u'81.2.2.2.2.2.1, u'81.2.2.2.2.2.2, 0)))))))))))))
         (fun w82 =>
         some ((.inr ((.inr ((.inr ((.inr ((.inl ((w82.1, 1, w82.2.1, w82.2.2, 0)))))))))))))))
       ((((cond (decide (48 ≤ r4.2))
        (some ((.inl ((decide (r4.2 ≤ 57), r4.2, decide (r4.2 ≤ 57))))))
        (some ((.inr false)))) : Option ((Bool × Int × Bool) ⊕ (Bool)))).bind fun s83 =>
       caseS s83 (fun u'84 =>
        cond (u'84.1)
         ((loopN (D_ref04_Signs_L4 a0) BIG ((r4.2, s3.1, r4.1, s3.1, ([] : List Int), 0))).bind fun r102 =>
         caseS r102 (fun u'103 =>
          some ((.inr ((.inr ((.inr ((.inr ((.inr ((.inr ((.inr ((u'103.1, u'103.2.1, u'103.2.2.1, u'103.2.2.2)))))))))))))))))
          (fun w104 =>
          caseS w104 (fun u'105 =>
           (D_ref04_Text u'105.2.2.2.2.2).bind fun r106 =>
           some ((.inr ((.inr ((.inr ((.inr ((.inl ((u'105.1, 2, u'105.2.2.2.1, r106, u'105.2.2.2.2.2)))))))))))))
           (fun w107 =>
           (D_ref04_Text w107.2.2.2).bind fun r108 =>
           some ((.inr ((.inr ((.inr ((.inr ((.inl ((w107.1, 2, w107.2.1, r108, w107.2.2.2)))))))))))))))
         (some ((.inr ((.inr ((.inr ((.inr ((.inl ((IntKind.i64.wrap (s3.1 + r4.1), 3, s3.1, (List.map byteI [r4.2]), 0))))))))))))))
        (fun w109 =>
        cond (w109)
         ((loopN (D_ref04_Signs_L5 a0) BIG ((r4.2, s3.1, r4.1, s3.1, ([] : List Int), 0))).bind fun r127 =>
         caseS r127 (fun u'128 =>
          some ((.inr ((.inr ((.inr ((.inr ((.inr ((.inr ((.inr ((u'128.1, u'128.2.1, u'128.2.2.1, u'128.2.2.2)))))))))))))))))
          (fun w129 =>
          caseS w129 (fun u'130 =>
           (D_ref04_Text u'130.2.2.2.2.2).bind fun r131 =>
           some ((.inr ((.inr ((.inr ((.inr ((.inl ((u'130.1, 2, u'130.2.2.2.1, r131, u'130.2.2.2.2.2)))))))))))))
           (fun w132 =>
           (D_ref04_Text w132.2.2.2).bind fun r133 =>
           some ((.inr ((.inr ((.inr ((.inr ((.inl ((w132.1, 2, w132.2.1, r133, w132.2.2.2)))))))))))))))
         (some ((.inr ((.inr ((.inr ((.inr ((.inl ((IntKind.i64.wrap (s3.1 + r4.1), 3, s3.1, (List.map byteI [r4.2]), 0)))))))))))))))))) : Option ((Int × Int × List Int) ⊕ ((Int × Int × Bool × Int × Int × (List Int) × Int) ⊕ ((Int × Int × Bool × (List Int) × Int × Int × Bool × Int × List Int) ⊕ ((Int × Int × Bool × Int × List Int) ⊕ ((Int × Int × Int × (List Int) × Int) ⊕ ((Int × (List Int) × Int × Int × Bool × Int × List Int) ⊕ ((Int × Int × List Int) ⊕ (Int × Int × (List Int) × Int)))))))))).bind fun s134 =>
    caseS s134 (fun u'135 =>
     some (.inl ((u'135.1, s3.2))))
     (fun w136 =>
     caseS w136 (fun u'137 =>
      gd (fits (List.length s3.2 + 1) 40) (some (.inl ((u'137.1, (s3.2 ++ [(u'137.2.2.2.1, (u'137.2.2.2.2.1, (u'137.2.2.2.2.2.1, u'137.2.2.2.2.2.2)))]))))))
      (fun w138 =>
      caseS w138 (fun ⟨u'139_0, u'139_1, u'139_2, u'139_3, u'139_4, u'139_5, u'139_6, u'139_7, u'139_8⟩ =>
       gd (fits (List.length s3.2 + 1) 40) (some (.inl ((u'139_0, (s3.2 ++ [(1, (u'139_7, (u'139_8, 0)))]))))))
       (fun w140 =>
       caseS w140 (fun u'141 =>
        gd (fits (List.length s3.2 + 1) 40) (some (.inl ((u'141.1, (s3.2 ++ [(1, (u'141.2.2.2.1, (u'141.2.2.2.2, 0)))]))))))
        (fun w142 =>
        caseS w142 (fun u'143 =>
         gd (fits (List.length s3.2 + 1) 40) (some (.inl ((u'143.1, (s3.2 ++ [(u'143.2.1, (u'143.2.2.1, (u'143.2.2.2.1, u'143.2.2.2.2)))]))))))
         (fun w144 =>
         caseS w144 (fun u'145 =>
          gd (fits (List.length s3.2 + 1) 40) (some (.inl ((u'145.1, (s3.2 ++ [(1, (u'145.2.2.2.2.2.1, (u'145.2.2.2.2.2.2, 0)))]))))))
          (fun w146 =>
          caseS w146 (fun u'147 =>
           gd (fits (List.length s3.2 + 1) 40) (some (.inl ((u'147.1, (s3.2 ++ [(1, (u'147.2.1, (u'147.2.2, 0)))]))))))
           (fun w148 =>
           some (.inr (((.inl ((w148.1, 2, []))))))))))))))))
  (some (.inr (((.inr s3.2)))))
/- backstitch/backstitchref04.Signs -/
def D_ref04_Signs (a0 : List Int) : Option (Int × Int × List (Int × Int × (List Int) × Int)) :=
 (loopN (D_ref04_Signs_L6 a0) BIG ((0, []))).bind fun r149 =>
 caseS r149 (fun u'150 =>
  some ((u'150.1, u'150.2.1, u'150.2.2)))
  (fun w151 =>
  some ((0, 0, w151)))
def D_ref26_one_L0 (a0 : List (Int × Int × (List Int) × Int)) (s2 : Int) : Option ((Int) ⊕ ((Int × Int × Int) ⊕ (Unit))) :=
 cond (decide (s2 ≤ 9))
  ((rd a0 0).bind fun x3 =>
  cond (decide (x3.1 ≠ 1))
   (some (.inl (IntKind.i64.wrap (s2 + 1))))
   ((rd a0 0).bind fun x4 =>
   (D_ref26_name s2).bind fun r5 =>
   cond (decide (x4.2.2.1 ≠ r5))
    (some (.inl (IntKind.i64.wrap (s2 + 1))))
    ((((cond (decide (4 < s2))
     (cond (decide (((((List.length a0) : Nat) : Int)) = 1))
      (some ((.inl s2)))
      (some ((.inr ((.inl ((a0, (((List.length a0) : Nat) : Int), decide (((((List.length a0) : Nat) : Int)) = 1)))))))))
     (some ((.inr ((.inr ())))))) : Option ((Int) ⊕ (((List (Int × Int × (List Int) × Int)) × Int × Bool) ⊕ (Unit))))).bind fun s6 =>
    caseS s6 (fun u'7 =>
     some (.inr (((.inl ((0, u'7, 0)))))))
     (fun w8 =>
     caseS w8 (fun u'9 =>
      (((cond (decide (s2 ≤ 4))
       (cond (decide (((((List.length a0) : Nat) : Int)) = 2))
        ((rd a0 1).bind fun x10 =>
        some ((.inl ((decide (x10.1 = 2), a0, (((List.length a0) : Nat) : Int), decide (((((List.length a0) : Nat) : Int)) = 2), a0, x10, x10, x10.1, decide (x10.1 = 2))))))
        (some ((.inr ((.inl ((false, a0, (((List.length a0) : Nat) : Int), decide (((((List.length a0) : Nat) : Int)) = 2)))))))))
       (some ((.inr ((.inr false)))))) : Option ((Bool × (List (Int × Int × (List Int) × Int)) × Int × Bool × (List (Int × Int × (List Int) × Int)) × (Int × Int × (List Int) × Int) × (Int × Int × (List Int) × Int) × Int × Bool) ⊕ ((Bool × (List (Int × Int × (List Int) × Int)) × Int × Bool) ⊕ (Bool))))).bind fun s11 =>
      caseS s11 (fun ⟨u'12_0, u'12_1, u'12_2, u'12_3, u'12_4, u'12_5, u'12_6, u'12_7, u'12_8⟩ =>
       cond (u'12_0)
        ((rd a0 1).bind fun x13 =>
        cond (decide (1048576 < x13.2.2.2))
         (some (.inr (((.inl ((2, 0, 0)))))))
         ((rd a0 1).bind fun x14 =>
         (D_ref26_Right s2 (IntKind.i64.wrap (x14.2.2.2))).bind fun r15 =>
         cond (!r15)
          (some (.inr (((.inl ((2, 0, 0)))))))
          (some (.inr (((.inl ((0, s2, IntKind.i64.wrap (x14.2.2.2))))))))))
        (some (.inl (IntKind.i64.wrap (s2 + 1)))))
       (fun w16 =>
       caseS w16 (fun u'17 =>
        cond (u'17.1)
         ((rd a0 1).bind fun x18 =>
         cond (decide (1048576 < x18.2.2.2))
          (some (.inr (((.inl ((2, 0, 0)))))))
          ((rd a0 1).bind fun x19 =>
          (D_ref26_Right s2 (IntKind.i64.wrap (x19.2.2.2))).bind fun r20 =>
          cond (!r20)
           (some (.inr (((.inl ((2, 0, 0)))))))
           (some (.inr (((.inl ((0, s2, IntKind.i64.wrap (x19.2.2.2))))))))))
         (some (.inl (IntKind.i64.wrap (s2 + 1)))))
        (fun w21 =>
        cond (w21)
         ((rd a0 1).bind fun x22 =>
         cond (decide (1048576 < x22.2.2.2))
          (some (.inr (((.inl ((2, 0, 0)))))))
          ((rd a0 1).bind fun x23 =>
          (D_ref26_Right s2 (IntKind.i64.wrap (x23.2.2.2))).bind fun r24 =>
          cond (!r24)
           (some (.inr (((.inl ((2, 0, 0)))))))
           (some (.inr (((.inl ((0, s2, IntKind.i64.wrap (x23.2.2.2))))))))))
         (some (.inl (IntKind.i64.wrap (s2 + 1)))))))
      (fun w25 =>
      (((cond (decide (s2 ≤ 4))
       (cond (decide (((((List.length a0) : Nat) : Int)) = 2))
        ((rd a0 1).bind fun x26 =>
        some ((.inl ((decide (x26.1 = 2), a0, (((List.length a0) : Nat) : Int), decide (((((List.length a0) : Nat) : Int)) = 2), a0, x26, x26, x26.1, decide (x26.1 = 2))))))
        (some ((.inr ((.inl ((false, a0, (((List.length a0) : Nat) : Int), decide (((((List.length a0) : Nat) : Int)) = 2)))))))))
       (some ((.inr ((.inr false)))))) : Option ((Bool × (List (Int × Int × (List Int) × Int)) × Int × Bool × (List (Int × Int × (List Int) × Int)) × (Int × Int × (List Int) × Int) × (Int × Int × (List Int) × Int) × Int × Bool) ⊕ ((Bool × (List (Int × Int × (List Int) × Int)) × Int × Bool) ⊕ (Bool))))).bind fun s27 =>
      caseS s27 (fun ⟨u'28_0, u'28_1, u'28_2, u'28_3, u'28_4, u'28_5, u'28_6, u'28_7, u'28_8⟩ =>
       cond (u'28_0)
        ((rd a0 1).bind fun x29 =>
        cond (decide (1048576 < x29.2.2.2))
         (some (.inr (((.inl ((2, 0, 0)))))))
         ((rd a0 1).bind fun x30 =>
         (D_ref26_Right s2 (IntKind.i64.wrap (x30.2.2.2))).bind fun r31 =>
         cond (!r31)
          (some (.inr (((.inl ((2, 0, 0)))))))
          (some (.inr (((.inl ((0, s2, IntKind.i64.wrap (x30.2.2.2))))))))))
        (some (.inl (IntKind.i64.wrap (s2 + 1)))))
       (fun w32 =>
       caseS w32 (fun u'33 =>
        cond (u'33.1)
         ((rd a0 1).bind fun x34 =>
         cond (decide (1048576 < x34.2.2.2))
          (some (.inr (((.inl ((2, 0, 0)))))))
          ((rd a0 1).bind fun x35 =>
          (D_ref26_Right s2 (IntKind.i64.wrap (x35.2.2.2))).bind fun r36 =>
          cond (!r36)
           (some (.inr (((.inl ((2, 0, 0)))))))
           (some (.inr (((.inl ((0, s2, IntKind.i64.wrap (x35.2.2.2))))))))))
         (some (.inl (IntKind.i64.wrap (s2 + 1)))))
        (fun w37 =>
        cond (w37)
         ((rd a0 1).bind fun x38 =>
         cond (decide (1048576 < x38.2.2.2))
          (some (.inr (((.inl ((2, 0, 0)))))))
          ((rd a0 1).bind fun x39 =>
          (D_ref26_Right s2 (IntKind.i64.wrap (x39.2.2.2))).bind fun r40 =>
          cond (!r40)
           (some (.inr (((.inl ((2, 0, 0)))))))
           (some (.inr (((.inl ((0, s2, IntKind.i64.wrap (x39.2.2.2))))))))))
         (some (.inl (IntKind.i64.wrap (s2 + 1)))))))))))
  (some (.inr (((.inr ())))))
/- backstitch/backstitchref26.one -/
def D_ref26_one (a0 : List (Int × Int × (List Int) × Int)) : Option (Int × Int × Int) :=
 (loopN (D_ref26_one_L0 a0) BIG 1).bind fun r41 =>
 caseS r41 (fun u'42 =>
  some ((u'42.2.1, u'42.2.2, u'42.1)))
  (fun w43 =>
  some ((0, 0, 3)))
def D_ref26_Parse_L0 (r1 : List (List Int)) (s4 : Int × List (Int × Int)) : Option ((Int × List (Int × Int)) ⊕ ((Int × Int) ⊕ (List (Int × Int)))) :=
 cond (decide (s4.1 < ((((List.length r1) : Nat) : Int))))
  ((ix s4.1 ((List.length r1))).bind fun j5 =>
  (r1[j5]?).bind fun x6 =>
  (D_ref04_Signs x6).bind fun r7 =>
  cond (decide (r7.2.1 ≠ 0))
   (some (.inr (((.inl ((s4.1, r7.2.1)))))))
   (cond (decide (((((List.length r7.2.2) : Nat) : Int)) = 0))
    (some (.inl ((IntKind.i64.wrap (s4.1 + 1), s4.2))))
    ((D_ref26_one r7.2.2).bind fun r8 =>
    cond (decide (r8.2.2 ≠ 0))
     (some (.inr (((.inl ((s4.1, r8.2.2)))))))
     (gd (fits (List.length s4.2 + 1) 16) (some (.inl ((IntKind.i64.wrap (s4.1 + 1), (s4.2 ++ [(r8.1, r8.2.1)])))))))))
  (some (.inr (((.inr s4.2)))))
/- backstitch/backstitchref26.Parse -/
def D_ref26_Parse (a0 : List Int) : Option (Int × Int × List (Int × Int)) :=
 cond (decide (65536 < (((List.length a0 : Nat) : Int))))
  (some ((0, 11, [])))
  ((D_ref04_Lines a0).bind fun r1 =>
  (loopN (D_ref26_Parse_L0 r1) BIG ((0, []))).bind fun r9 =>
  caseS r9 (fun u'10 =>
   some ((u'10.1, u'10.2, [])))
   (fun w11 =>
   some ((0, 0, w11))))
def D_ref26_Same_L0 (a0 a1 : List (Int × Int)) (s3 : Int) : Option ((Int) ⊕ ((Bool) ⊕ (Unit))) :=
 cond (decide (s3 < ((((List.length a0) : Nat) : Int))))
  ((rd a0 s3).bind fun x4 =>
  (rd a1 s3).bind fun x5 =>
  cond (!((decide (x4.1 = x5.1) && decide (x4.2 = x5.2))))
   (some (.inr (((.inl false)))))
   (some (.inl (IntKind.i64.wrap (s3 + 1)))))
  (some (.inr (((.inr ())))))
/- backstitch/backstitchref26.Same -/
def D_ref26_Same (a0 a1 : List (Int × Int)) : Option (Bool) :=
 cond (decide (((((List.length a0) : Nat) : Int)) ≠ ((((List.length a1) : Nat) : Int))))
  (some false)
  ((loopN (D_ref26_Same_L0 a0 a1) BIG 0).bind fun r6 =>
  caseS r6 (fun u'7 =>
   some u'7)
   (fun w8 =>
   some true))
/- backstitch/backstitchlaw26.ActionTexts -/
def D_law26_ActionTexts (a0 : List (Int × Int)) (a1 : List Int) : Option (Bool) :=
 (((cond (decide (200 < ((((List.length a0) : Nat) : Int))))
  (some true)
  (some (decide (3000 < (((List.length a1 : Nat) : Int)))))) : Option (Bool))).bind fun s2 =>
 cond (s2)
  ((D_law26_goes).bind fun r3 =>
  some r3)
  ((D_action_Print a0).bind fun r4 =>
  (D_ref26_Print a0).bind fun r5 =>
  (D_action_Parse a1).bind fun r6 =>
  (D_ref26_Parse a1).bind fun r7 =>
  cond (decide (r4.1 = r5.1))
   (cond (decide (r4.2 = r5.2))
    ((D_ref26_Same r6.2.2 r7.2.2).bind fun r8 =>
    cond (r8)
     (cond (decide (r6.1 = r7.1))
      (cond (decide (r6.2.1 = r7.2.1))
       ((D_law26_goes).bind fun r9 =>
       some r9)
       (some false))
      (some false))
     (some false))
    (some false))
   (some false))
def D_law26_ActionBack_L0 (a0 : List (Int × Int)) (s6 : Int × Bool) : Option ((Int × Bool) ⊕ ((Bool) ⊕ (Bool))) :=
 cond (decide (s6.1 < ((((List.length a0) : Nat) : Int))))
  ((((cond (s6.2)
   ((rd a0 s6.1).bind fun x7 =>
   (D_action_Right x7.1 x7.2).bind fun r8 =>
   some ((.inl ((r8, a0, s6.1, x7, x7.1, x7.2, r8)))))
   (some ((.inr false)))) : Option ((Bool × (List (Int × Int)) × Int × (Int × Int) × Int × Int × Bool) ⊕ (Bool)))).bind fun s9 =>
  caseS s9 (fun u'10 =>
   (rd a0 s6.1).bind fun x11 =>
   (D_action_Word x11.1 x11.2).bind fun r12 =>
   (rd a0 s6.1).bind fun x13 =>
   (D_action_Right x13.1 x13.2).bind fun r14 =>
   cond (!((decide (r12.2 = 0)) == r14))
    (some (.inr (((.inl false)))))
    ((D_action_Read r12.1).bind fun r15 =>
    cond (decide (r12.2 = 0))
     (cond (decide (r15.2.2 ≠ 0))
      (some (.inr (((.inl false)))))
      ((rd a0 s6.1).bind fun x16 =>
      cond (!((decide (r15.1 = x16.1) && decide (r15.2.1 = x16.2))))
       (some (.inr (((.inl false)))))
       (some (.inl ((IntKind.i64.wrap (s6.1 + 1), u'10.1))))))
     (some (.inl ((IntKind.i64.wrap (s6.1 + 1), u'10.1))))))
   (fun w17 =>
   (rd a0 s6.1).bind fun x18 =>
   (D_action_Word x18.1 x18.2).bind fun r19 =>
   (rd a0 s6.1).bind fun x20 =>
   (D_action_Right x20.1 x20.2).bind fun r21 =>
   cond (!((decide (r19.2 = 0)) == r21))
    (some (.inr (((.inl false)))))
    ((D_action_Read r19.1).bind fun r22 =>
    cond (decide (r19.2 = 0))
     (cond (decide (r22.2.2 ≠ 0))
      (some (.inr (((.inl false)))))
      ((rd a0 s6.1).bind fun x23 =>
      cond (!((decide (r22.1 = x23.1) && decide (r22.2.1 = x23.2))))
       (some (.inr (((.inl false)))))
       (some (.inl ((IntKind.i64.wrap (s6.1 + 1), w17))))))
     (some (.inl ((IntKind.i64.wrap (s6.1 + 1), w17)))))))
  (some (.inr (((.inr s6.2)))))
/- backstitch/backstitchlaw26.ActionBack -/
def D_law26_ActionBack (a0 : List (Int × Int)) (a1 : Int) : Option (Bool) :=
 cond (decide (200 < ((((List.length a0) : Nat) : Int))))
  ((D_law26_goes).bind fun r2 =>
  some r2)
  ((loopN (D_law26_ActionBack_L0 a0) BIG ((0, true))).bind fun r24 =>
  caseS r24 (fun u'25 =>
   some u'25)
   (fun w26 =>
   (D_action_Print a0).bind fun r27 =>
   cond (!((decide (r27.2 = 0)) == w26))
    (some false)
    ((D_action_Parse r27.1).bind fun r28 =>
    (((cond (w26)
     (cond (decide (r28.2.1 ≠ 0))
      (some ((.inl false)))
      ((D_ref26_Same r28.2.2 a0).bind fun r29 =>
      cond (!r29)
       (some ((.inl false)))
       (some ((.inr ())))))
     (some ((.inr ())))) : Option ((Bool) ⊕ (Unit)))).bind fun s30 =>
    caseS s30 (fun u'31 =>
     some u'31)
     (fun w32 =>
     (D_action_Read a1).bind fun r33 =>
     (D_action_Word r33.1 r33.2.1).bind fun r34 =>
     cond (decide (r33.2.2 ≠ 0))
      ((D_law26_goes).bind fun r35 =>
      some r35)
      (cond (decide (r34.2 = 0))
       (cond (decide (r34.1 = a1))
        ((D_law26_goes).bind fun r36 =>
        some r36)
        (some false))
       (some false))))))

end Go.V
