/- A part of the proofs of this seat: what functions of the program answer on the abstract machine. -/
import Derived.Test.YtdfhgdaimjkccaaDoorV26
namespace Go.V
set_option linter.unusedVariables false
set_option linter.unusedSimpArgs false
open Go.Ab
set_option linter.unusedVariables false
abbrev tabL0 : List Int := [48, 49, 50, 51, 52, 53, 54, 55, 56, 57, 97, 98, 99, 100, 101, 102, 103, 104, 105, 106, 107, 108, 109, 110, 111, 112, 113, 114, 115, 116, 117, 118, 119, 120, 121, 122]
abbrev tabL1 : List Int := [48, 48, 48, 49, 48, 50, 48, 51, 48, 52, 48, 53, 48, 54, 48, 55, 48, 56, 48, 57, 49, 48, 49, 49, 49, 50, 49, 51, 49, 52, 49, 53, 49, 54, 49, 55, 49, 56, 49, 57, 50, 48, 50, 49, 50, 50, 50, 51, 50, 52, 50, 53, 50, 54, 50, 55, 50, 56, 50, 57, 51, 48, 51, 49, 51, 50, 51, 51, 51, 52, 51, 53, 51, 54, 51, 55, 51, 56, 51, 57, 52, 48, 52, 49, 52, 50, 52, 51, 52, 52, 52, 53, 52, 54, 52, 55, 52, 56, 52, 57, 53, 48, 53, 49, 53, 50, 53, 51, 53, 52, 53, 53, 53, 54, 53, 55, 53, 56, 53, 57, 54, 48, 54, 49, 54, 50, 54, 51, 54, 52, 54, 53, 54, 54, 54, 55, 54, 56, 54, 57, 55, 48, 55, 49, 55, 50, 55, 51, 55, 52, 55, 53, 55, 54, 55, 55, 55, 56, 55, 57, 56, 48, 56, 49, 56, 50, 56, 51, 56, 52, 56, 53, 56, 54, 56, 55, 56, 56, 56, 57, 57, 48, 57, 49, 57, 50, 57, 51, 57, 52, 57, 53, 57, 54, 57, 55, 57, 56, 57, 57]
abbrev tabL2 : List Int := [114, 101, 103, 115, 32, 50, 10, 114, 101, 112, 101, 97, 116, 32, 51, 32, 123, 10, 32, 32, 114, 48, 32, 61, 32, 114, 48, 32, 42, 32, 114, 49, 10, 125, 10]

/- strconv.Itoa -/
def D_strconv_Itoa (a0 : Int) : Option (List Int) := itoaP a0
/- backstitch/opcode.of -/
def D_opcode_of (a0 : Int) : Option (Bool × Bool × Bool × Bool) :=
 (((cond (decide (a0 = 1))
  (some true)
  (cond (decide (a0 = 2))
   (some true)
   (some (decide (a0 = 3))))) : Option (Bool))).bind fun s1 =>
 cond (s1)
  (some ((true, true, true, false)))
  ((((cond (decide (a0 = 4))
   (some true)
   (some (decide (a0 = 6)))) : Option (Bool))).bind fun s2 =>
  cond (s2)
   (some ((true, true, false, false)))
   (cond (decide (a0 = 5))
    (some ((true, false, false, true)))
    (cond (decide (a0 = 7))
     (some ((false, false, false, true)))
     (some ((false, false, false, false))))))
/- backstitch/opcode.known -/
def D_opcode_known (a0 : Int) : Option (Bool) :=
 cond (decide (0 ≤ a0))
  (some (decide (a0 < 8)))
  (some false)
/- backstitch/opcode.register -/
def D_opcode_register (a0 : Int) (a1 : Bool) : Option (Bool) :=
 cond (!a1)
  (some (decide (a0 = 0)))
  (cond (decide (0 ≤ a0))
   (some (decide (a0 ≤ 2147483647)))
   (some false))
/- backstitch/opcode.Right -/
def D_opcode_Right (a0 a1 a2 a3 a4 : Int) : Option (Bool) :=
 (D_opcode_of a0).bind fun r5 =>
 (D_opcode_known a0).bind fun r6 =>
 cond (r6)
  ((D_opcode_register a1 r5.1).bind fun r7 =>
  cond (r7)
   ((D_opcode_register a2 r5.2.1).bind fun r8 =>
   cond (r8)
    ((D_opcode_register a3 r5.2.2.1).bind fun r9 =>
    cond (r9)
     (cond (r5.2.2.2)
      (some true)
      (some (decide (a4 = 0))))
     (some false))
    (some false))
   (some false))
  (some false)
/- backstitch/listing.reg -/
def D_listing_reg (a0 : Int) : Option (List Int) :=
 (D_strconv_Itoa a0).bind fun r1 =>
 gd (sfits (List.length (([114] : List Int))) (List.length r1)) (some ((([114] : List Int) ++ r1)))
/- internal/strconv.small -/
def D_internal_strconv_small (a0 : Int) : Option (List Int) :=
 cond (decide (a0 < 10))
  (gd (cutG a0 (IntKind.i64.wrap (a0 + 1)) 36) (some ((cutL (tabL0) a0 (IntKind.i64.wrap (a0 + 1))))))
  (gd (cutG (IntKind.i64.wrap (a0 * 2)) (IntKind.i64.wrap ((IntKind.i64.wrap (a0 * 2)) + 2)) 200) (some ((cutL (tabL1) (IntKind.i64.wrap (a0 * 2)) (IntKind.i64.wrap ((IntKind.i64.wrap (a0 * 2)) + 2))))))
/- internal/strconv.numDigits -/
def D_internal_strconv_numDigits (a0 : Int) : Option (Int) := nDigP a0
def D_signs_Text_L0 (r2 : Int) (s8 : Int × Int × List Int) : Option ((Int × Int × List Int) ⊕ (Int × Int × List Int)) :=
 cond (decide (8 ≤ s8.1))
  ((rd (tabL1) (IntKind.u32.wrap ((IntKind.u32.wrap ((Int.tmod (Int.tmod (IntKind.u32.wrap (Int.tmod s8.2.1 100000000)) 10000) 100) * 2)) + 1))).bind fun x9 =>
  (rd (tabL1) (IntKind.u32.wrap ((Int.tmod (Int.tmod (IntKind.u32.wrap (Int.tmod s8.2.1 100000000)) 10000) 100) * 2))).bind fun x10 =>
  (ix (IntKind.i64.wrap (s8.1 - 1)) (((Int.toNat r2) - 0))).bind fun j11 =>
  (s8.2.2[(0 + j11)]?).bind fun x12 =>
  (ix (IntKind.i64.wrap (s8.1 - 2)) (((Int.toNat r2) - 0))).bind fun j13 =>
  (((List.set s8.2.2 (0 + j11) x9))[(0 + j13)]?).bind fun x14 =>
  (rd (tabL1) (IntKind.u32.wrap ((IntKind.u32.wrap ((IntKind.u32.wrap (Int.tdiv (Int.tmod (IntKind.u32.wrap (Int.tmod s8.2.1 100000000)) 10000) 100)) * 2)) + 1))).bind fun x15 =>
  (rd (tabL1) (IntKind.u32.wrap ((IntKind.u32.wrap (Int.tdiv (Int.tmod (IntKind.u32.wrap (Int.tmod s8.2.1 100000000)) 10000) 100)) * 2))).bind fun x16 =>
  (ix (IntKind.i64.wrap (s8.1 - 3)) (((Int.toNat r2) - 0))).bind fun j17 =>
  (((List.set ((List.set s8.2.2 (0 + j11) x9)) (0 + j13) x10))[(0 + j17)]?).bind fun x18 =>
  (ix (IntKind.i64.wrap (s8.1 - 4)) (((Int.toNat r2) - 0))).bind fun j19 =>
  (((List.set ((List.set ((List.set s8.2.2 (0 + j11) x9)) (0 + j13) x10)) (0 + j17) x15))[(0 + j19)]?).bind fun x20 =>
  (rd (tabL1) (IntKind.u32.wrap ((IntKind.u32.wrap ((Int.tmod (IntKind.u32.wrap (Int.tdiv (IntKind.u32.wrap (Int.tmod s8.2.1 100000000)) 10000)) 100) * 2)) + 1))).bind fun x21 =>
  (rd (tabL1) (IntKind.u32.wrap ((Int.tmod (IntKind.u32.wrap (Int.tdiv (IntKind.u32.wrap (Int.tmod s8.2.1 100000000)) 10000)) 100) * 2))).bind fun x22 =>
  (ix (IntKind.i64.wrap (s8.1 - 5)) (((Int.toNat r2) - 0))).bind fun j23 =>
  (((List.set ((List.set ((List.set ((List.set s8.2.2 (0 + j11) x9)) (0 + j13) x10)) (0 + j17) x15)) (0 + j19) x16))[(0 + j23)]?).bind fun x24 =>
  (ix (IntKind.i64.wrap (s8.1 - 6)) (((Int.toNat r2) - 0))).bind fun j25 =>
  (((List.set ((List.set ((List.set ((List.set ((List.set s8.2.2 (0 + j11) x9)) (0 + j13) x10)) (0 + j17) x15)) (0 + j19) x16)) (0 + j23) x21))[(0 + j25)]?).bind fun x26 =>
  (rd (tabL1) (IntKind.u32.wrap ((IntKind.u32.wrap ((IntKind.u32.wrap (Int.tdiv (IntKind.u32.wrap (Int.tdiv (IntKind.u32.wrap (Int.tmod s8.2.1 100000000)) 10000)) 100)) * 2)) + 1))).bind fun x27 =>
  (rd (tabL1) (IntKind.u32.wrap ((IntKind.u32.wrap (Int.tdiv (IntKind.u32.wrap (Int.tdiv (IntKind.u32.wrap (Int.tmod s8.2.1 100000000)) 10000)) 100)) * 2))).bind fun x28 =>
  (ix (IntKind.i64.wrap (s8.1 - 7)) (((Int.toNat r2) - 0))).bind fun j29 =>
  (((List.set ((List.set ((List.set ((List.set ((List.set ((List.set s8.2.2 (0 + j11) x9)) (0 + j13) x10)) (0 + j17) x15)) (0 + j19) x16)) (0 + j23) x21)) (0 + j25) x22))[(0 + j29)]?).bind fun x30 =>
  (ix (IntKind.i64.wrap (s8.1 - 8)) (((Int.toNat r2) - 0))).bind fun j31 =>
  (((List.set ((List.set ((List.set ((List.set ((List.set ((List.set ((List.set s8.2.2 (0 + j11) x9)) (0 + j13) x10)) (0 + j17) x15)) (0 + j19) x16)) (0 + j23) x21)) (0 + j25) x22)) (0 + j29) x27))[(0 + j31)]?).bind fun x32 =>
  some (.inl ((IntKind.i64.wrap (s8.1 - 8), IntKind.u64.wrap (Int.tdiv s8.2.1 100000000), (List.set ((List.set ((List.set ((List.set ((List.set ((List.set ((List.set ((List.set s8.2.2 (0 + j11) x9)) (0 + j13) x10)) (0 + j17) x15)) (0 + j19) x16)) (0 + j23) x21)) (0 + j25) x22)) (0 + j29) x27)) (0 + j31) x28)))))
  (some (.inr (((s8.2.1, s8.1, s8.2.2)))))
/- backstitch/signs.Text -/
def D_signs_Text (a0 : Int) : Option (List Int) :=
 cond (decide (a0 < 100))
  ((D_internal_strconv_small (IntKind.i64.wrap (a0))).bind fun r1 =>
  some r1)
  ((D_internal_strconv_numDigits a0).bind fun r2 =>
  gd (Nat.beq 1 1 && Nat.beq 0 0 && Nat.ble 24 (List.length ((List.replicate 24 (0 : Int)))) && cutG 0 r2 24 && decide (0 < 24)) ((loopN (D_signs_Text_L0 r2) BIG ((((((Int.toNat r2) - 0) : Nat) : Int), a0, (List.replicate 24 (0 : Int))))).bind fun r33 =>
  (((cond (decide (4 ≤ r33.2.1))
   ((rd (tabL1) (IntKind.u32.wrap ((IntKind.u32.wrap ((Int.tmod (Int.tmod (IntKind.u32.wrap (r33.1)) 10000) 100) * 2)) + 1))).bind fun x34 =>
   (rd (tabL1) (IntKind.u32.wrap ((Int.tmod (Int.tmod (IntKind.u32.wrap (r33.1)) 10000) 100) * 2))).bind fun x35 =>
   (ix (IntKind.i64.wrap (r33.2.1 - 1)) (((Int.toNat r2) - 0))).bind fun j36 =>
   (r33.2.2[(0 + j36)]?).bind fun x37 =>
   (ix (IntKind.i64.wrap (r33.2.1 - 2)) (((Int.toNat r2) - 0))).bind fun j38 =>
   (((List.set r33.2.2 (0 + j36) x34))[(0 + j38)]?).bind fun x39 =>
   (rd (tabL1) (IntKind.u32.wrap ((IntKind.u32.wrap ((IntKind.u32.wrap (Int.tdiv (Int.tmod (IntKind.u32.wrap (r33.1)) 10000) 100)) * 2)) + 1))).bind fun x40 =>
   (rd (tabL1) (IntKind.u32.wrap ((IntKind.u32.wrap (Int.tdiv (Int.tmod (IntKind.u32.wrap (r33.1)) 10000) 100)) * 2))).bind fun x41 =>
   (ix (IntKind.i64.wrap (r33.2.1 - 3)) (((Int.toNat r2) - 0))).bind fun j42 =>
   (((List.set ((List.set r33.2.2 (0 + j36) x34)) (0 + j38) x35))[(0 + j42)]?).bind fun x43 =>
   (ix (IntKind.i64.wrap (r33.2.1 - 4)) (((Int.toNat r2) - 0))).bind fun j44 =>
   (((List.set ((List.set ((List.set r33.2.2 (0 + j36) x34)) (0 + j38) x35)) (0 + j42) x40))[(0 + j44)]?).bind fun x45 =>
   some ((IntKind.i64.wrap (r33.2.1 - 4), IntKind.u32.wrap (Int.tdiv (IntKind.u32.wrap (r33.1)) 10000), (List.set ((List.set ((List.set ((List.set r33.2.2 (0 + j36) x34)) (0 + j38) x35)) (0 + j42) x40)) (0 + j44) x41))))
   (some ((r33.2.1, IntKind.u32.wrap (r33.1), r33.2.2)))) : Option (Int × Int × List Int))).bind fun s46 =>
  cond (decide (2 ≤ s46.1))
   ((rd (tabL1) (IntKind.u32.wrap ((IntKind.u32.wrap ((Int.tmod s46.2.1 100) * 2)) + 1))).bind fun x47 =>
   (rd (tabL1) (IntKind.u32.wrap ((Int.tmod s46.2.1 100) * 2))).bind fun x48 =>
   (ix (IntKind.i64.wrap (s46.1 - 1)) (((Int.toNat r2) - 0))).bind fun j49 =>
   (s46.2.2[(0 + j49)]?).bind fun x50 =>
   (ix (IntKind.i64.wrap (s46.1 - 2)) (((Int.toNat r2) - 0))).bind fun j51 =>
   (((List.set s46.2.2 (0 + j49) x47))[(0 + j51)]?).bind fun x52 =>
   cond (decide (0 < (IntKind.i64.wrap (s46.1 - 2))))
    ((ix 0 (((Int.toNat r2) - 0))).bind fun j53 =>
    (((List.set ((List.set s46.2.2 (0 + j49) x47)) (0 + j51) x48))[(0 + j53)]?).bind fun x54 =>
    gd (Nat.beq 1 1 && Nat.beq 0 0 && Nat.ble 24 (List.length ((List.set ((List.set ((List.set s46.2.2 (0 + j49) x47)) (0 + j51) x48)) (0 + j53) (IntKind.u8.wrap (IntKind.u32.wrap (48 + (IntKind.u32.wrap (Int.tdiv s46.2.1 100)))))))) && cutG 0 r2 24 && decide (0 < 24)) (some ((List.map byteI ((List.take (((Int.toNat r2) - 0)) (List.drop 0 ((List.set ((List.set ((List.set s46.2.2 (0 + j49) x47)) (0 + j51) x48)) (0 + j53) (IntKind.u8.wrap (IntKind.u32.wrap (48 + (IntKind.u32.wrap (Int.tdiv s46.2.1 100))))))))))))))
    (gd (Nat.beq 1 1 && Nat.beq 0 0 && Nat.ble 24 (List.length ((List.set ((List.set s46.2.2 (0 + j49) x47)) (0 + j51) x48))) && cutG 0 r2 24 && decide (0 < 24)) (some ((List.map byteI ((List.take (((Int.toNat r2) - 0)) (List.drop 0 ((List.set ((List.set s46.2.2 (0 + j49) x47)) (0 + j51) x48))))))))))
   (cond (decide (0 < s46.1))
    ((ix 0 (((Int.toNat r2) - 0))).bind fun j55 =>
    (s46.2.2[(0 + j55)]?).bind fun x56 =>
    gd (Nat.beq 1 1 && Nat.beq 0 0 && Nat.ble 24 (List.length ((List.set s46.2.2 (0 + j55) (IntKind.u8.wrap (IntKind.u32.wrap (48 + s46.2.1)))))) && cutG 0 r2 24 && decide (0 < 24)) (some ((List.map byteI ((List.take (((Int.toNat r2) - 0)) (List.drop 0 ((List.set s46.2.2 (0 + j55) (IntKind.u8.wrap (IntKind.u32.wrap (48 + s46.2.1))))))))))))
    (gd (Nat.beq 1 1 && Nat.beq 0 0 && Nat.ble 24 (List.length s46.2.2) && cutG 0 r2 24 && decide (0 < 24)) (some ((List.map byteI ((List.take (((Int.toNat r2) - 0)) (List.drop 0 s46.2.2))))))))))
/- backstitch/listing.Line -/
def D_listing_Line (a0 a1 a2 a3 a4 : Int) : Option ((List Int) × Int) :=
 (D_opcode_Right a0 a1 a2 a3 a4).bind fun r5 =>
 cond (!r5)
  (some ((([] : List Int), 6)))
  ((D_listing_reg a1).bind fun r6 =>
  gd (sfits (List.length r6) (List.length (([32, 61, 32] : List Int)))) ((D_listing_reg a2).bind fun r7 =>
  (D_listing_reg a3).bind fun r8 =>
  cond (decide (a0 = 1))
   (gd (sfits (List.length ((r6 ++ ([32, 61, 32] : List Int)))) (List.length r7)) (gd (sfits (List.length (((r6 ++ ([32, 61, 32] : List Int)) ++ r7))) (List.length (([32, 43, 32] : List Int)))) (gd (sfits (List.length ((((r6 ++ ([32, 61, 32] : List Int)) ++ r7) ++ ([32, 43, 32] : List Int)))) (List.length r8)) (some ((((((r6 ++ ([32, 61, 32] : List Int)) ++ r7) ++ ([32, 43, 32] : List Int)) ++ r8), 0))))))
   (cond (decide (a0 = 2))
    (gd (sfits (List.length ((r6 ++ ([32, 61, 32] : List Int)))) (List.length r7)) (gd (sfits (List.length (((r6 ++ ([32, 61, 32] : List Int)) ++ r7))) (List.length (([32, 45, 32] : List Int)))) (gd (sfits (List.length ((((r6 ++ ([32, 61, 32] : List Int)) ++ r7) ++ ([32, 45, 32] : List Int)))) (List.length r8)) (some ((((((r6 ++ ([32, 61, 32] : List Int)) ++ r7) ++ ([32, 45, 32] : List Int)) ++ r8), 0))))))
    (cond (decide (a0 = 3))
     (gd (sfits (List.length ((r6 ++ ([32, 61, 32] : List Int)))) (List.length r7)) (gd (sfits (List.length (((r6 ++ ([32, 61, 32] : List Int)) ++ r7))) (List.length (([32, 42, 32] : List Int)))) (gd (sfits (List.length ((((r6 ++ ([32, 61, 32] : List Int)) ++ r7) ++ ([32, 42, 32] : List Int)))) (List.length r8)) (some ((((((r6 ++ ([32, 61, 32] : List Int)) ++ r7) ++ ([32, 42, 32] : List Int)) ++ r8), 0))))))
     (cond (decide (a0 = 4))
      (gd (sfits (List.length ((r6 ++ ([32, 61, 32] : List Int)))) (List.length (([45, 32] : List Int)))) (gd (sfits (List.length (((r6 ++ ([32, 61, 32] : List Int)) ++ ([45, 32] : List Int)))) (List.length r7)) (some (((((r6 ++ ([32, 61, 32] : List Int)) ++ ([45, 32] : List Int)) ++ r7), 0)))))
      (cond (decide (a0 = 5))
       ((D_signs_Text a4).bind fun r9 =>
       gd (sfits (List.length ((r6 ++ ([32, 61, 32] : List Int)))) (List.length r9)) (some ((((r6 ++ ([32, 61, 32] : List Int)) ++ r9), 0))))
       (cond (decide (a0 = 6))
        (gd (sfits (List.length ((r6 ++ ([32, 61, 32] : List Int)))) (List.length r7)) (some ((((r6 ++ ([32, 61, 32] : List Int)) ++ r7), 0))))
        (cond (decide (a0 = 7))
         ((D_signs_Text a4).bind fun r10 =>
         gd (sfits (List.length (([114, 101, 112, 101, 97, 116, 32] : List Int))) (List.length r10)) (gd (sfits (List.length ((([114, 101, 112, 101, 97, 116, 32] : List Int) ++ r10))) (List.length (([32, 123] : List Int)))) (some ((((([114, 101, 112, 101, 97, 116, 32] : List Int) ++ r10) ++ ([32, 123] : List Int)), 0)))))
         (some ((([125] : List Int), 0)))))))))))
/- strings.Repeat -/
def D_strings_Repeat (a0 : List Int) (a1 : Int) : Option (List Int) := repP a0 a1
def D_listing_Print_L0 (a1 : List (Int × Int × Int × Int × Int)) (s6 : Int × Int × List Int) : Option ((Int × Int × List Int) ⊕ (((List Int) × Int × List Int) ⊕ (List Int))) :=
 cond (decide (s6.1 < ((((List.length a1) : Nat) : Int))))
  ((rd a1 s6.1).bind fun x7 =>
  (D_listing_Line x7.1 x7.2.1 x7.2.2.1 x7.2.2.2.1 x7.2.2.2.2).bind fun r8 =>
  cond (decide (r8.2 ≠ 0))
   (some (.inr (((.inl ((([] : List Int), r8.2, s6.2.2)))))))
   ((((cond (decide (x7.1 = 0))
    (some (max (IntKind.i64.wrap (s6.2.1 - 1)) 0))
    (some s6.2.1)) : Option (Int))).bind fun s9 =>
   (D_strings_Repeat (([32, 32] : List Int)) s9).bind fun r10 =>
   gd (sfits (List.length r10) (List.length r8.1)) (gd (sfits (List.length ((r10 ++ r8.1))) (List.length (([10] : List Int)))) (gd (bfits (List.length s6.2.2) (List.length (((r10 ++ r8.1) ++ ([10] : List Int))))) (cond (decide (x7.1 = 7))
    (some (.inl ((IntKind.i64.wrap (s6.1 + 1), IntKind.i64.wrap (s9 + 1), (s6.2.2 ++ ((r10 ++ r8.1) ++ ([10] : List Int)))))))
    (some (.inl ((IntKind.i64.wrap (s6.1 + 1), s9, (s6.2.2 ++ ((r10 ++ r8.1) ++ ([10] : List Int))))))))))))
  (some (.inr (((.inr s6.2.2)))))
/- backstitch/listing.Print -/
def D_listing_Print (a0 : Int) (a1 : List (Int × Int × Int × Int × Int)) : Option ((List Int) × Int) :=
 cond (decide (a0 < 0))
  (some ((([] : List Int), 2)))
  (cond (decide (2147483647 < a0))
   (some ((([] : List Int), 2)))
   ((D_strconv_Itoa a0).bind fun r2 =>
   gd (sfits (List.length (([114, 101, 103, 115, 32] : List Int))) (List.length r2)) (gd (sfits (List.length ((([114, 101, 103, 115, 32] : List Int) ++ r2))) (List.length (([10] : List Int)))) (gd (bfits (List.length (([] : List Int))) (List.length (((([114, 101, 103, 115, 32] : List Int) ++ r2) ++ ([10] : List Int))))) ((loopN (D_listing_Print_L0 a1) BIG ((0, 0, (([] : List Int) ++ ((([114, 101, 103, 115, 32] : List Int) ++ r2) ++ ([10] : List Int)))))).bind fun r11 =>
   caseS r11 (fun u'12 =>
    some ((u'12.1, u'12.2.1)))
    (fun w13 =>
    some ((w13, 0))))))))
def D_signs_Lines_L0 (a0 : List Int) (s4 : Int × Int × List (List Int)) : Option ((Int × Int × List (List Int)) ⊕ (Int × Int × List (List Int))) :=
 gd (decide ((0 : Int) ≤ s4.2.1) && Nat.ble 1 1) (cond (decide (s4.2.1 < (((List.length a0 : Nat) : Int))))
  (cond (decide (((runeC a0 s4.2.1)) = 10))
   (gd (cutG s4.1 s4.2.1 ((List.length a0))) (gd (fits (List.length s4.2.2 + 1) 16) (some (.inl ((IntKind.i64.wrap (s4.2.1 + 1), (runeW a0 s4.2.1), (s4.2.2 ++ [(cutL a0 s4.1 s4.2.1)])))))))
   (some (.inl ((s4.1, (runeW a0 s4.2.1), s4.2.2)))))
  (some (.inr (((s4.1, s4.2.1, s4.2.2))))))
/- backstitch/signs.Lines -/
def D_signs_Lines (a0 : List Int) : Option (List (List Int)) :=
 (loopN (D_signs_Lines_L0 a0) BIG ((0, 0, []))).bind fun r5 =>
 cond (decide (r5.1 < (((List.length a0 : Nat) : Int))))
  (gd (cutG r5.1 ((((List.length a0) : Nat) : Int)) ((List.length a0))) (gd (fits (List.length r5.2.2 + 1) 16) (some ((r5.2.2 ++ [(cutL a0 r5.1 ((((List.length a0) : Nat) : Int)))])))))
  (some r5.2.2)
/- backstitch/signs.white -/
def D_signs_white (a0 : Int) : Option (Bool) :=
 cond (decide (a0 = 9))
  (some true)
  (cond (decide (a0 = 13))
   (some true)
   (cond (decide (a0 = 32))
    (some true)
    (cond (decide (a0 = 160))
     (some true)
     (cond (decide (a0 = 8195))
      (some true)
      (cond (decide (a0 = 12288))
       (some true)
       (some false))))))
/- backstitch/signs.letter -/
def D_signs_letter (a0 : Int) : Option (Bool) :=
 cond (decide (97 ≤ a0))
  (some (decide (a0 ≤ 122)))
  (some false)
/- backstitch/signs.digit -/
def D_signs_digit (a0 : Int) : Option (Int) :=
 (((cond (decide (48 ≤ a0))
  (some (decide (a0 ≤ 57)))
  (some false)) : Option (Bool))).bind fun s1 =>
 cond (s1)
  (some (IntKind.i64.wrap (IntKind.i32.wrap (a0 - 48))))
  (cond (decide (65296 ≤ a0))
   (cond (decide (a0 ≤ 65305))
    (some (IntKind.i64.wrap (IntKind.i32.wrap (a0 - 65296))))
    (some (-1)))
   (some (-1)))
/- backstitch/signs.mark -/
def D_signs_mark (a0 : Int) : Option (Int) :=
 (((cond (decide (a0 = 61))
  (some true)
  (cond (decide (a0 = 43))
   (some true)
   (cond (decide (a0 = 45))
    (some true)
    (cond (decide (a0 = 42))
     (some true)
     (cond (decide (a0 = 123))
      (some true)
      (some (decide (a0 = 125)))))))) : Option (Bool))).bind fun s1 =>
 cond (s1)
  (some a0)
  (cond (decide (a0 = 8592))
   (some 61)
   (cond (decide (a0 = 8722))
    (some 45)
    (cond (decide (a0 = 215))
     (some 42)
     (cond (decide (a0 = 183))
      (some 42)
      (some 0)))))
def D_signs_Signs_L0 (a0 : List Int) (s4 : Int × Int × List (Int × Int × (List Int) × Int)) : Option ((Int × Int × List (Int × Int × (List Int) × Int)) ⊕ ((Int × Int × Int × Int × List (Int × Int × (List Int) × Int)) ⊕ ((Int × Int × List (Int × Int × (List Int) × Int)) ⊕ (Int × Int × List (Int × Int × (List Int) × Int))))) :=
 gd (decide ((0 : Int) ≤ s4.2.1) && Nat.ble 1 1) (cond (decide (s4.2.1 < (((List.length a0 : Nat) : Int))))
  (cond (decide (((runeC a0 s4.2.1)) = 35))
   (some (.inr (((.inr ((.inl ((s4.1, (runeW a0 s4.2.1), s4.2.2)))))))))
   ((D_signs_white ((runeC a0 s4.2.1))).bind fun r5 =>
   cond (r5)
    (some (.inl ((0, (runeW a0 s4.2.1), s4.2.2))))
    ((D_signs_letter ((runeC a0 s4.2.1))).bind fun r6 =>
    cond (r6)
     (cond (decide (s4.1 ≠ 1))
      (gd (fits (List.length s4.2.2 + 1) 40) ((ix (IntKind.i64.wrap (((((List.length ((s4.2.2 ++ [(1, (s4.2.1, (([] : List Int), 0)))]))) : Nat) : Int)) - 1)) ((List.length ((s4.2.2 ++ [(1, (s4.2.1, (([] : List Int), 0)))]))))).bind fun j7 =>
      (((s4.2.2 ++ [(1, (s4.2.1, (([] : List Int), 0)))]))[j7]?).bind fun x8 =>
      gd (sfits (List.length x8.2.2.1) (List.length ((utf8I ((runeC a0 s4.2.1)))))) ((((s4.2.2 ++ [(1, (s4.2.1, (([] : List Int), 0)))]))[j7]?).bind fun x9 =>
      some (.inl ((1, (runeW a0 s4.2.1), (List.set ((s4.2.2 ++ [(1, (s4.2.1, (([] : List Int), 0)))])) j7 ((x9.1, (x9.2.1, ((x8.2.2.1 ++ (utf8I ((runeC a0 s4.2.1)))), x9.2.2.2)))))))))))
      ((ix (IntKind.i64.wrap (((((List.length s4.2.2) : Nat) : Int)) - 1)) ((List.length s4.2.2))).bind fun j10 =>
      (s4.2.2[j10]?).bind fun x11 =>
      gd (sfits (List.length x11.2.2.1) (List.length ((utf8I ((runeC a0 s4.2.1)))))) ((s4.2.2[j10]?).bind fun x12 =>
      some (.inl ((1, (runeW a0 s4.2.1), (List.set s4.2.2 j10 ((x12.1, (x12.2.1, ((x11.2.2.1 ++ (utf8I ((runeC a0 s4.2.1)))), x12.2.2.2)))))))))))
     ((D_signs_digit ((runeC a0 s4.2.1))).bind fun r13 =>
     cond (decide (0 ≤ r13))
      ((D_signs_digit ((runeC a0 s4.2.1))).bind fun r14 =>
      cond (decide (s4.1 ≠ 2))
       (gd (fits (List.length s4.2.2 + 1) 40) ((ix (IntKind.i64.wrap (((((List.length ((s4.2.2 ++ [(2, (s4.2.1, (([] : List Int), 0)))]))) : Nat) : Int)) - 1)) ((List.length ((s4.2.2 ++ [(2, (s4.2.1, (([] : List Int), 0)))]))))).bind fun j15 =>
       (((s4.2.2 ++ [(2, (s4.2.1, (([] : List Int), 0)))]))[j15]?).bind fun x16 =>
       cond (decide ((IntKind.u64.wrap (Int.tdiv (IntKind.u64.wrap (18446744073709551615 - (IntKind.u64.wrap (r14)))) 10)) < x16.2.2.2))
        ((ix (IntKind.i64.wrap (((((List.length ((s4.2.2 ++ [(2, (s4.2.1, (([] : List Int), 0)))]))) : Nat) : Int)) - 1)) ((List.length ((s4.2.2 ++ [(2, (s4.2.1, (([] : List Int), 0)))]))))).bind fun j17 =>
        (((s4.2.2 ++ [(2, (s4.2.1, (([] : List Int), 0)))]))[j17]?).bind fun x18 =>
        some (.inr (((.inl ((x18.2.1, 2, 2, (runeW a0 s4.2.1), (s4.2.2 ++ [(2, (s4.2.1, (([] : List Int), 0)))]))))))))
        ((((s4.2.2 ++ [(2, (s4.2.1, (([] : List Int), 0)))]))[j15]?).bind fun x19 =>
        (((s4.2.2 ++ [(2, (s4.2.1, (([] : List Int), 0)))]))[j15]?).bind fun x20 =>
        (((List.set ((s4.2.2 ++ [(2, (s4.2.1, (([] : List Int), 0)))])) j15 ((x20.1, (x20.2.1, (x20.2.2.1, IntKind.u64.wrap ((IntKind.u64.wrap (10 * x19.2.2.2)) + (IntKind.u64.wrap (r14)))))))))[j15]?).bind fun x21 =>
        (D_signs_Text x21.2.2.2).bind fun r22 =>
        (((List.set ((s4.2.2 ++ [(2, (s4.2.1, (([] : List Int), 0)))])) j15 ((x20.1, (x20.2.1, (x20.2.2.1, IntKind.u64.wrap ((IntKind.u64.wrap (10 * x19.2.2.2)) + (IntKind.u64.wrap (r14)))))))))[j15]?).bind fun x23 =>
        some (.inl ((2, (runeW a0 s4.2.1), (List.set ((List.set ((s4.2.2 ++ [(2, (s4.2.1, (([] : List Int), 0)))])) j15 ((x20.1, (x20.2.1, (x20.2.2.1, IntKind.u64.wrap ((IntKind.u64.wrap (10 * x19.2.2.2)) + (IntKind.u64.wrap (r14))))))))) j15 ((x23.1, (x23.2.1, (r22, x23.2.2.2)))))))))))
       ((ix (IntKind.i64.wrap (((((List.length s4.2.2) : Nat) : Int)) - 1)) ((List.length s4.2.2))).bind fun j24 =>
       (s4.2.2[j24]?).bind fun x25 =>
       cond (decide ((IntKind.u64.wrap (Int.tdiv (IntKind.u64.wrap (18446744073709551615 - (IntKind.u64.wrap (r14)))) 10)) < x25.2.2.2))
        ((ix (IntKind.i64.wrap (((((List.length s4.2.2) : Nat) : Int)) - 1)) ((List.length s4.2.2))).bind fun j26 =>
        (s4.2.2[j26]?).bind fun x27 =>
        some (.inr (((.inl ((x27.2.1, 2, 2, (runeW a0 s4.2.1), s4.2.2)))))))
        ((s4.2.2[j24]?).bind fun x28 =>
        (s4.2.2[j24]?).bind fun x29 =>
        (((List.set s4.2.2 j24 ((x29.1, (x29.2.1, (x29.2.2.1, IntKind.u64.wrap ((IntKind.u64.wrap (10 * x28.2.2.2)) + (IntKind.u64.wrap (r14)))))))))[j24]?).bind fun x30 =>
        (D_signs_Text x30.2.2.2).bind fun r31 =>
        (((List.set s4.2.2 j24 ((x29.1, (x29.2.1, (x29.2.2.1, IntKind.u64.wrap ((IntKind.u64.wrap (10 * x28.2.2.2)) + (IntKind.u64.wrap (r14)))))))))[j24]?).bind fun x32 =>
        some (.inl ((2, (runeW a0 s4.2.1), (List.set ((List.set s4.2.2 j24 ((x29.1, (x29.2.1, (x29.2.2.1, IntKind.u64.wrap ((IntKind.u64.wrap (10 * x28.2.2.2)) + (IntKind.u64.wrap (r14))))))))) j24 ((x32.1, (x32.2.1, (r31, x32.2.2.2)))))))))))
      ((D_signs_mark ((runeC a0 s4.2.1))).bind fun r33 =>
      cond (decide (r33 ≠ 0))
       (gd (fits (List.length s4.2.2 + 1) 40) ((ix (IntKind.i64.wrap (((((List.length ((s4.2.2 ++ [(3, (s4.2.1, (([] : List Int), 0)))]))) : Nat) : Int)) - 1)) ((List.length ((s4.2.2 ++ [(3, (s4.2.1, (([] : List Int), 0)))]))))).bind fun j34 =>
       (D_signs_mark ((runeC a0 s4.2.1))).bind fun r35 =>
       (((s4.2.2 ++ [(3, (s4.2.1, (([] : List Int), 0)))]))[j34]?).bind fun x36 =>
       some (.inl ((0, (runeW a0 s4.2.1), (List.set ((s4.2.2 ++ [(3, (s4.2.1, (([] : List Int), 0)))])) j34 ((x36.1, (x36.2.1, ((utf8I r35), x36.2.2.2))))))))))
       (some (.inr (((.inl ((s4.2.1, 3, s4.1, (runeW a0 s4.2.1), s4.2.2))))))))))))
  (some (.inr (((.inr ((.inr ((s4.1, s4.2.1, s4.2.2))))))))))
/- backstitch/signs.Signs -/
def D_signs_Signs (a0 : List Int) : Option (Int × Int × List (Int × Int × (List Int) × Int)) :=
 (loopN (D_signs_Signs_L0 a0) BIG ((0, 0, []))).bind fun r37 =>
 caseS r37 (fun u'38 =>
  some ((u'38.1, u'38.2.1, [])))
  (fun w39 =>
  caseS w39 (fun u'40 =>
   some ((0, 0, u'40.2.2)))
   (fun w41 =>
   some ((0, 0, w41.2.2))))
def D_listing_numbers_L0 (a0 : List (Int × Int × (List Int) × Int)) (s3 : Int × List Int) : Option ((Int × List Int) ⊕ (List Int)) :=
 cond (decide (s3.1 < ((((List.length a0) : Nat) : Int))))
  ((rd a0 s3.1).bind fun x4 =>
  cond (decide (x4.1 = 2))
   (gd (fits (List.length s3.2 + 1) 8) (some (.inl ((IntKind.i64.wrap (s3.1 + 1), (s3.2 ++ [x4.2.2.2]))))))
   (some (.inl ((IntKind.i64.wrap (s3.1 + 1), s3.2)))))
  (some (.inr s3.2))
/- backstitch/listing.numbers -/
def D_listing_numbers (a0 : List (Int × Int × (List Int) × Int)) : Option (List Int) :=
 (loopN (D_listing_numbers_L0 a0) BIG ((0, []))).bind fun r5 =>
 some r5
def D_listing_shape_L0 (a0 : List (Int × Int × (List Int) × Int)) (s3 : Int × List Int) : Option ((Int × List Int) ⊕ (List Int)) :=
 cond (decide (s3.1 < ((((List.length a0) : Nat) : Int))))
  ((rd a0 s3.1).bind fun x4 =>
  (((cond (decide (x4.1 = 1))
   (cond (decide (x4.2.2.1 = ([114] : List Int)))
    (cond (decide ((IntKind.i64.wrap (s3.1 + 1)) < ((((List.length a0) : Nat) : Int))))
     ((rd a0 (IntKind.i64.wrap (s3.1 + 1))).bind fun x5 =>
     some (decide (x5.1 = 2)))
     (some false))
    (some false))
   (some false)) : Option (Bool))).bind fun s6 =>
  cond (s6)
   (gd (fits (List.length s3.2 + 1) 4) (some (.inl ((IntKind.i64.wrap ((IntKind.i64.wrap (s3.1 + 1)) + 1), (s3.2 ++ [114]))))))
   (cond (decide (x4.1 = 2))
    (gd (fits (List.length s3.2 + 1) 4) (some (.inl ((IntKind.i64.wrap (s3.1 + 1), (s3.2 ++ [110]))))))
    (cond (decide (x4.1 = 1))
     (gd (fits (List.length s3.2 + 1) 4) (some (.inl ((IntKind.i64.wrap (s3.1 + 1), (s3.2 ++ [119]))))))
     (gd (Nat.ble (List.length x4.2.2.1) 70368744177664) (gd (fits (List.length s3.2 + List.length ((runesI x4.2.2.1))) 4) (some (.inl ((IntKind.i64.wrap (s3.1 + 1), (s3.2 ++ (runesI x4.2.2.1)))))))))))
  (some (.inr s3.2))
/- backstitch/listing.shape -/
def D_listing_shape (a0 : List (Int × Int × (List Int) × Int)) : Option (List Int) :=
 (loopN (D_listing_shape_L0 a0) BIG ((0, []))).bind fun r7 =>
 some ((List.flatMap utf8I r7))
def D_listing_small_L0 (a0 : List Int) (s2 : Int) : Option ((Int) ⊕ ((Bool) ⊕ (Unit))) :=
 cond (decide (s2 < ((((List.length a0) : Nat) : Int))))
  ((rd a0 s2).bind fun x3 =>
  cond (decide (2147483647 < x3))
   (some (.inr (((.inl false)))))
   (some (.inl (IntKind.i64.wrap (s2 + 1)))))
  (some (.inr (((.inr ())))))
/- backstitch/listing.small -/
def D_listing_small (a0 : List Int) : Option (Bool) :=
 (loopN (D_listing_small_L0 a0) BIG 0).bind fun r4 =>
 caseS r4 (fun u'5 =>
  some u'5)
  (fun w6 =>
  some true)
/- backstitch/listing.head -/
def D_listing_head (a0 : List (Int × Int × (List Int) × Int)) : Option (Int × Int) :=
 (D_listing_numbers a0).bind fun r1 =>
 ((((D_listing_shape a0).bind fun r2 =>
 cond (decide (r2 ≠ ([119, 110] : List Int)))
  (some true)
  ((rd a0 0).bind fun x3 =>
  some (decide (x3.2.2.1 ≠ ([114, 101, 103, 115] : List Int))))) : Option (Bool))).bind fun s4 =>
 cond (s4)
  (some ((0, 3)))
  ((D_listing_small r1).bind fun r5 =>
  cond (!r5)
   (some ((0, 7)))
   ((ix 0 ((List.length r1))).bind fun j6 =>
   (r1[j6]?).bind fun x7 =>
   some ((IntKind.i64.wrap (x7), 0))))
/- backstitch/opcode.names -/
def D_opcode_names  : Option ((List Int) × (List Int) × (List Int) × (List Int) × (List Int) × (List Int) × (List Int) × List Int) :=
 some ((([101, 110, 100] : List Int), ([97, 100, 100] : List Int), ([115, 117, 98] : List Int), ([109, 117, 108] : List Int), ([110, 101, 103] : List Int), ([99, 111, 110, 115, 116] : List Int), ([99, 111, 112, 121] : List Int), ([114, 101, 112, 101, 97, 116] : List Int)))
/- backstitch/opcode.Name -/
def D_opcode_Name (a0 : Int) : Option (List Int) :=
 (D_opcode_known a0).bind fun r1 =>
 cond (!r1)
  (some (([] : List Int)))
  ((D_opcode_names).bind fun r2 =>
  (ix a0 8).bind fun j3 =>
  some ((List.getD [r2.1, r2.2.1, r2.2.2.1, r2.2.2.2.1, r2.2.2.2.2.1, r2.2.2.2.2.2.1, r2.2.2.2.2.2.2.1, r2.2.2.2.2.2.2.2] j3 [])))
/- backstitch/listing.forms$3 -/
def D_listing_forms_3 (a0 : List Int) : Option (Unit) :=
 some ()
/- backstitch/listing.forms$2 -/
def D_listing_forms_2 (a0 : List Int) : Option (Int) :=
 (rd a0 0).bind fun x1 =>
 some x1
/- backstitch/listing.forms$1 -/
def D_listing_forms_1 (a0 : List Int) : Option (Int × Int) :=
 (rd a0 0).bind fun x1 =>
 (rd a0 1).bind fun x2 =>
 some ((IntKind.i64.wrap (x1), x2))
/- backstitch/listing.two$1 -/
def D_listing_two_1 (a0 : List Int) (a1 : Int) : Option (Int × Int × Int) :=
 (rd a0 0).bind fun x2 =>
 (rd a0 1).bind fun x3 =>
 some ((a1, IntKind.i64.wrap (x2), IntKind.i64.wrap (x3)))
/- backstitch/listing.three$1 -/
def D_listing_three_1 (a0 : List Int) (a1 : Int) : Option (Int × Int × Int × Int) :=
 (rd a0 0).bind fun x2 =>
 (rd a0 1).bind fun x3 =>
 (rd a0 2).bind fun x4 =>
 some ((a1, IntKind.i64.wrap (x2), IntKind.i64.wrap (x3), IntKind.i64.wrap (x4)))
/- backstitch/listing.operation -/
def D_listing_operation (a0 : List (Int × Int × (List Int) × Int)) : Option (Int × Int × Int × Int × Int × Int) :=
 (D_listing_shape a0).bind fun r1 =>
 (D_listing_numbers a0).bind fun r2 =>
 cond (decide (([114, 61, 114, 43, 114] : List Int) ≠ r1))
  (cond (decide (([114, 61, 114, 45, 114] : List Int) ≠ r1))
   (cond (decide (([114, 61, 114, 42, 114] : List Int) ≠ r1))
    (cond (decide (([114, 61, 45, 114] : List Int) ≠ r1))
     (cond (decide (([114, 61, 114] : List Int) ≠ r1))
      (cond (decide (([114, 61, 110] : List Int) ≠ r1))
       (cond (decide (([119, 110, 123] : List Int) ≠ r1))
        (cond (decide (([125] : List Int) ≠ r1))
         (some ((0, 0, 0, 0, 0, 3)))
         (gd (cutG 0 0 ((List.length r2))) ((D_listing_small ((List.take 0 (List.drop 0 r2)))).bind fun r3 =>
         cond (!r3)
          (some ((0, 0, 0, 0, 0, 7)))
          ((D_listing_forms_3 r2).bind fun r4 =>
          some ((0, 0, 0, 0, 0, 0))))))
        ((rd a0 0).bind fun x5 =>
        (D_opcode_Name 7).bind fun r6 =>
        cond (decide (x5.2.2.1 ≠ r6))
         (cond (decide (([125] : List Int) ≠ r1))
          (some ((0, 0, 0, 0, 0, 3)))
          (gd (cutG 0 0 ((List.length r2))) ((D_listing_small ((List.take 0 (List.drop 0 r2)))).bind fun r7 =>
          cond (!r7)
           (some ((0, 0, 0, 0, 0, 7)))
           ((D_listing_forms_3 r2).bind fun r8 =>
           some ((0, 0, 0, 0, 0, 0))))))
         (gd (cutG 0 0 ((List.length r2))) ((D_listing_small ((List.take 0 (List.drop 0 r2)))).bind fun r9 =>
         cond (!r9)
          (some ((0, 0, 0, 0, 0, 7)))
          ((D_listing_forms_2 r2).bind fun r10 =>
          some ((7, 0, 0, 0, r10, 0)))))))
       (gd (cutG 0 1 ((List.length r2))) ((D_listing_small ((List.take 1 (List.drop 0 r2)))).bind fun r11 =>
       cond (!r11)
        (some ((0, 0, 0, 0, 0, 7)))
        ((D_listing_forms_1 r2).bind fun r12 =>
        some ((5, r12.1, 0, 0, r12.2, 0))))))
      (gd (cutG 0 2 ((List.length r2))) ((D_listing_small ((List.take 2 (List.drop 0 r2)))).bind fun r13 =>
      cond (!r13)
       (some ((0, 0, 0, 0, 0, 7)))
       ((D_listing_two_1 r2 6).bind fun r14 =>
       some ((r14.1, r14.2.1, r14.2.2, 0, 0, 0))))))
     (gd (cutG 0 2 ((List.length r2))) ((D_listing_small ((List.take 2 (List.drop 0 r2)))).bind fun r15 =>
     cond (!r15)
      (some ((0, 0, 0, 0, 0, 7)))
      ((D_listing_two_1 r2 4).bind fun r16 =>
      some ((r16.1, r16.2.1, r16.2.2, 0, 0, 0))))))
    (gd (cutG 0 3 ((List.length r2))) ((D_listing_small ((List.take 3 (List.drop 0 r2)))).bind fun r17 =>
    cond (!r17)
     (some ((0, 0, 0, 0, 0, 7)))
     ((D_listing_three_1 r2 3).bind fun r18 =>
     some ((r18.1, r18.2.1, r18.2.2.1, r18.2.2.2, 0, 0))))))
   (gd (cutG 0 3 ((List.length r2))) ((D_listing_small ((List.take 3 (List.drop 0 r2)))).bind fun r19 =>
   cond (!r19)
    (some ((0, 0, 0, 0, 0, 7)))
    ((D_listing_three_1 r2 2).bind fun r20 =>
    some ((r20.1, r20.2.1, r20.2.2.1, r20.2.2.2, 0, 0))))))
  (gd (cutG 0 3 ((List.length r2))) ((D_listing_small ((List.take 3 (List.drop 0 r2)))).bind fun r21 =>
  cond (!r21)
   (some ((0, 0, 0, 0, 0, 7)))
   ((D_listing_three_1 r2 1).bind fun r22 =>
   some ((r22.1, r22.2.1, r22.2.2.1, r22.2.2.2, 0, 0)))))
def D_listing_Parse_L0 (r1 : List (List Int)) (s7 : Int × Bool × Int × List (Int × Int × Int × Int × Int)) : Option ((Int × Bool × Int × List (Int × Int × Int × Int × Int)) ⊕ ((Int × Int) ⊕ (Bool × Int × List (Int × Int × Int × Int × Int)))) :=
 cond (decide (s7.1 < ((((List.length r1) : Nat) : Int))))
  ((ix s7.1 ((List.length r1))).bind fun j8 =>
  (r1[j8]?).bind fun x9 =>
  (D_signs_Signs x9).bind fun r10 =>
  cond (decide (r10.2.1 ≠ 0))
   (some (.inr (((.inl ((s7.1, r10.2.1)))))))
   (cond (decide (((((List.length r10.2.2) : Nat) : Int)) = 0))
    (some (.inl ((IntKind.i64.wrap (s7.1 + 1), s7.2.1, s7.2.2.1, s7.2.2.2))))
    (cond (!s7.2.1)
     ((D_listing_head r10.2.2).bind fun r11 =>
     cond (decide (r11.2 ≠ 0))
      (some (.inr (((.inl ((s7.1, r11.2)))))))
      (some (.inl ((IntKind.i64.wrap (s7.1 + 1), true, r11.1, s7.2.2.2)))))
     ((D_listing_operation r10.2.2).bind fun r12 =>
     gd (fits (List.length s7.2.2.2 + 1) 40) (cond (decide (r12.2.2.2.2.2 ≠ 0))
      (some (.inr (((.inl ((s7.1, r12.2.2.2.2.2)))))))
      (some (.inl ((IntKind.i64.wrap (s7.1 + 1), s7.2.1, s7.2.2.1, (s7.2.2.2 ++ [(r12.1, (r12.2.1, (r12.2.2.1, (r12.2.2.2.1, r12.2.2.2.2.1))))]))))))))))
  (some (.inr (((.inr ((s7.2.1, s7.2.2.1, s7.2.2.2)))))))
/- backstitch/listing.Parse -/
def D_listing_Parse (a0 : List Int) : Option (Int × Int × Int × List (Int × Int × Int × Int × Int)) :=
 cond (decide (65536 < (((List.length a0 : Nat) : Int))))
  (some ((0, 0, 11, [])))
  ((D_signs_Lines a0).bind fun r1 =>
  (loopN (D_listing_Parse_L0 r1) BIG ((0, false, 0, []))).bind fun r13 =>
  caseS r13 (fun u'14 =>
   some ((0, u'14.1, u'14.2, [])))
   (fun w15 =>
   cond (!w15.1)
    (some ((0, (((List.length r1) : Nat) : Int), 3, [])))
    (some ((w15.2.1, 0, 0, w15.2.2)))))
def D_ref08_Ops_L0 (a0 a1 : List (Int × Int × Int × Int × Int)) (s3 : Int) : Option ((Int) ⊕ ((Bool) ⊕ (Unit))) :=
 cond (decide (s3 < ((((List.length a0) : Nat) : Int))))
  ((rd a0 s3).bind fun x4 =>
  (rd a1 s3).bind fun x5 =>
  cond (!((decide (x4.1 = x5.1) && (decide (x4.2.1 = x5.2.1) && (decide (x4.2.2.1 = x5.2.2.1) && (decide (x4.2.2.2.1 = x5.2.2.2.1) && decide (x4.2.2.2.2 = x5.2.2.2.2)))))))
   (some (.inr (((.inl false)))))
   (some (.inl (IntKind.i64.wrap (s3 + 1)))))
  (some (.inr (((.inr ())))))
/- backstitch/backstitchref08.Ops -/
def D_ref08_Ops (a0 a1 : List (Int × Int × Int × Int × Int)) : Option (Bool) :=
 cond (decide (((((List.length a0) : Nat) : Int)) ≠ ((((List.length a1) : Nat) : Int))))
  (some false)
  ((loopN (D_ref08_Ops_L0 a0 a1) BIG 0).bind fun r6 =>
  caseS r6 (fun u'7 =>
   some u'7)
   (fun w8 =>
   some true))
/- backstitch/backstitchlaw11.goes -/
def D_law11_goes  : Option (Bool) :=
 (D_listing_Print 2 ([(7, (0, (0, (0, 3)))), (3, (0, (0, (1, 0)))), (0, (0, (0, (0, 0))))])).bind fun r0 =>
 (D_listing_Parse r0.1).bind fun r1 =>
 cond (decide (r0.2 = 0))
  (cond (decide (r0.1 = tabL2))
   (cond (decide (r1.2.2.1 = 0))
    (cond (decide (r1.2.1 = 0))
     (cond (decide (r1.1 = 2))
      ((D_ref08_Ops r1.2.2.2 ([(7, (0, (0, (0, 3)))), (3, (0, (0, (1, 0)))), (0, (0, (0, (0, 0))))])).bind fun r2 =>
      some r2)
      (some false))
     (some false))
    (some false))
   (some false))
  (some false)
def D_ref04_Text_L0  (s3 : Int × List Int) : Option ((Int × List Int) ⊕ (Int × List Int)) :=
 cond (decide (9 < s3.1))
  (gd (cutG (Int.tmod s3.1 10) (IntKind.u64.wrap ((Int.tmod s3.1 10) + 1)) 10) (gd (sfits (List.length ((cutL (([48, 49, 50, 51, 52, 53, 54, 55, 56, 57] : List Int)) (Int.tmod s3.1 10) (IntKind.u64.wrap ((Int.tmod s3.1 10) + 1))))) (List.length s3.2)) (some (.inl ((IntKind.u64.wrap (Int.tdiv s3.1 10), ((cutL (([48, 49, 50, 51, 52, 53, 54, 55, 56, 57] : List Int)) (Int.tmod s3.1 10) (IntKind.u64.wrap ((Int.tmod s3.1 10) + 1))) ++ s3.2)))))))
  (some (.inr (((s3.1, s3.2)))))
/- backstitch/backstitchref04.Text -/
def D_ref04_Text (a0 : Int) : Option (List Int) :=
 (loopN (D_ref04_Text_L0) BIG ((a0, ([] : List Int)))).bind fun r4 =>
 gd (cutG r4.1 (IntKind.u64.wrap (r4.1 + 1)) 10) (gd (sfits (List.length ((cutL (([48, 49, 50, 51, 52, 53, 54, 55, 56, 57] : List Int)) r4.1 (IntKind.u64.wrap (r4.1 + 1))))) (List.length r4.2)) (some (((cutL (([48, 49, 50, 51, 52, 53, 54, 55, 56, 57] : List Int)) r4.1 (IntKind.u64.wrap (r4.1 + 1))) ++ r4.2))))
/- backstitch/backstitchref07.Asks -/
def D_ref07_Asks (a0 : Int) : Option (Bool × Bool × Bool × Bool) :=
 (((cond (decide (1 ≤ a0))
  (cond (decide (a0 ≤ 3))
   (some ((.inl ((true, true, true, false)))))
   (some ((.inr ((false, false, false, false))))))
  (some ((.inr ((false, false, false, false)))))) : Option ((Bool × Bool × Bool × Bool) ⊕ (Bool × Bool × Bool × Bool)))).bind fun s1 =>
 caseS s1 (fun u'2 =>
  some ((u'2.1, u'2.2.1, u'2.2.2.1, u'2.2.2.2)))
  (fun w3 =>
  cond (decide (a0 = 4))
   (some ((true, true, false, false)))
   (cond (decide (a0 = 6))
    (some ((true, true, false, false)))
    (cond (decide (a0 = 5))
     (some ((true, false, false, true)))
     (cond (decide (a0 = 7))
      (some ((false, false, false, true)))
      (some ((false, false, false, false)))))))
def D_ref07_Right_L0 (a1 : Int) (a2 : Int) (a3 : Int) (r5 : Bool × Bool × Bool × Bool) (s7 : Int) : Option ((Int) ⊕ ((Bool) ⊕ (Unit))) :=
 cond (decide (s7 < 3))
  ((ix s7 3).bind fun j8 =>
  cond (decide (((List.getD [a1, a2, a3] j8 0)) < 0))
   (some (.inr (((.inl false)))))
   ((ix s7 3).bind fun j9 =>
   cond (decide (2147483647 < ((List.getD [a1, a2, a3] j9 0))))
    (some (.inr (((.inl false)))))
    ((ix s7 4).bind fun j10 =>
    cond (!((List.getD [r5.1, r5.2.1, r5.2.2.1, r5.2.2.2] j10 false)))
     ((ix s7 3).bind fun j11 =>
     cond (decide (((List.getD [a1, a2, a3] j11 0)) ≠ 0))
      (some (.inr (((.inl false)))))
      (some (.inl (IntKind.i64.wrap (s7 + 1)))))
     (some (.inl (IntKind.i64.wrap (s7 + 1)))))))
  (some (.inr (((.inr ())))))
/- backstitch/backstitchref07.Right -/
def D_ref07_Right (a0 a1 a2 a3 a4 : Int) : Option (Bool) :=
 cond (decide (a0 < 0))
  (some false)
  (cond (decide (7 < a0))
   (some false)
   ((D_ref07_Asks a0).bind fun r5 =>
   (loopN (D_ref07_Right_L0 a1 a2 a3 r5) BIG 0).bind fun r12 =>
   caseS r12 (fun u'13 =>
    some u'13)
    (fun w14 =>
    cond (r5.2.2.2)
     (some true)
     (some (decide (a4 = 0))))))
/- backstitch/backstitchref11.reg -/
def D_ref11_reg (a0 : Int) : Option (List Int) :=
 (D_ref04_Text (IntKind.u64.wrap (a0))).bind fun r1 =>
 gd (sfits (List.length (([114] : List Int))) (List.length r1)) (some ((([114] : List Int) ++ r1)))
/- backstitch/backstitchref11.Line -/
def D_ref11_Line (a0 a1 a2 a3 a4 : Int) : Option ((List Int) × Int) :=
 (D_ref07_Right a0 a1 a2 a3 a4).bind fun r5 =>
 cond (!r5)
  (some ((([] : List Int), 6)))
  (cond (decide (a0 = 0))
   (some ((([125] : List Int), 0)))
   (cond (decide (a0 = 7))
    ((D_ref04_Text a4).bind fun r6 =>
    gd (sfits (List.length (([114, 101, 112, 101, 97, 116, 32] : List Int))) (List.length r6)) (gd (sfits (List.length ((([114, 101, 112, 101, 97, 116, 32] : List Int) ++ r6))) (List.length (([32, 123] : List Int)))) (some ((((([114, 101, 112, 101, 97, 116, 32] : List Int) ++ r6) ++ ([32, 123] : List Int)), 0)))))
    ((D_ref11_reg a1).bind fun r7 =>
    gd (sfits (List.length r7) (List.length (([32, 61, 32] : List Int)))) (cond (decide (a0 = 5))
     ((D_ref04_Text a4).bind fun r8 =>
     gd (sfits (List.length ((r7 ++ ([32, 61, 32] : List Int)))) (List.length r8)) (some ((((r7 ++ ([32, 61, 32] : List Int)) ++ r8), 0))))
     (cond (decide (a0 = 4))
      (gd (sfits (List.length ((r7 ++ ([32, 61, 32] : List Int)))) (List.length (([45, 32] : List Int)))) ((D_ref11_reg a2).bind fun r9 =>
      gd (sfits (List.length (((r7 ++ ([32, 61, 32] : List Int)) ++ ([45, 32] : List Int)))) (List.length r9)) (some (((((r7 ++ ([32, 61, 32] : List Int)) ++ ([45, 32] : List Int)) ++ r9), 0)))))
      ((D_ref11_reg a2).bind fun r10 =>
      gd (sfits (List.length ((r7 ++ ([32, 61, 32] : List Int)))) (List.length r10)) (cond (decide (a0 = 6))
       (some ((((r7 ++ ([32, 61, 32] : List Int)) ++ r10), 0)))
       ((ix a0 4).bind fun j11 =>
       gd (sfits (List.length (((r7 ++ ([32, 61, 32] : List Int)) ++ r10))) (List.length ((List.getD [([] : List Int), ([32, 43, 32] : List Int), ([32, 45, 32] : List Int), ([32, 42, 32] : List Int)] j11 [])))) ((D_ref11_reg a3).bind fun r12 =>
       (ix a0 4).bind fun j13 =>
       gd (sfits (List.length (((r7 ++ ([32, 61, 32] : List Int)) ++ r10))) (List.length ((List.getD [([] : List Int), ([32, 43, 32] : List Int), ([32, 45, 32] : List Int), ([32, 42, 32] : List Int)] j13 [])))) (gd (sfits (List.length ((((r7 ++ ([32, 61, 32] : List Int)) ++ r10) ++ (List.getD [([] : List Int), ([32, 43, 32] : List Int), ([32, 45, 32] : List Int), ([32, 42, 32] : List Int)] j13 [])))) (List.length r12)) (some ((((((r7 ++ ([32, 61, 32] : List Int)) ++ r10) ++ (List.getD [([] : List Int), ([32, 43, 32] : List Int), ([32, 45, 32] : List Int), ([32, 42, 32] : List Int)] j13 [])) ++ r12), 0)))))))))))))
def D_ref11_Print_L0 (a1 : List (Int × Int × Int × Int × Int)) (s8 : Int × (List Int) × List Int) : Option ((Int × (List Int) × List Int) ⊕ (((List Int) × Int) ⊕ (List Int))) :=
 cond (decide (s8.1 < ((((List.length a1) : Nat) : Int))))
  ((rd a1 s8.1).bind fun x9 =>
  (D_ref11_Line x9.1 x9.2.1 x9.2.2.1 x9.2.2.2.1 x9.2.2.2.2).bind fun r10 =>
  cond (decide (r10.2 ≠ 0))
   (some (.inr (((.inl ((([] : List Int), r10.2)))))))
   (((((rd a1 s8.1).bind fun x11 =>
   cond (decide (x11.1 = 0))
    (cond (decide (s8.2.1 ≠ ([] : List Int)))
     (gd (cutG 2 ((((List.length s8.2.1) : Nat) : Int)) ((List.length s8.2.1))) (some ((cutL s8.2.1 2 ((((List.length s8.2.1) : Nat) : Int))))))
     (some s8.2.1))
    (some s8.2.1)) : Option (List Int))).bind fun s12 =>
   gd (sfits (List.length s8.2.2) (List.length s12)) (gd (sfits (List.length ((s8.2.2 ++ s12))) (List.length r10.1)) (gd (sfits (List.length (((s8.2.2 ++ s12) ++ r10.1))) (List.length (([10] : List Int)))) ((rd a1 s8.1).bind fun x13 =>
   cond (decide (x13.1 = 7))
    (gd (sfits (List.length s12) (List.length (([32, 32] : List Int)))) (some (.inl ((IntKind.i64.wrap (s8.1 + 1), (s12 ++ ([32, 32] : List Int)), (((s8.2.2 ++ s12) ++ r10.1) ++ ([10] : List Int)))))))
    (some (.inl ((IntKind.i64.wrap (s8.1 + 1), s12, (((s8.2.2 ++ s12) ++ r10.1) ++ ([10] : List Int)))))))))))
  (some (.inr (((.inr s8.2.2)))))
/- backstitch/backstitchref11.Print -/
def D_ref11_Print (a0 : Int) (a1 : List (Int × Int × Int × Int × Int)) : Option ((List Int) × Int) :=
 cond (decide (a0 < 0))
  (some ((([] : List Int), 2)))
  (cond (decide (2147483647 < a0))
   (some ((([] : List Int), 2)))
   ((D_ref04_Text (IntKind.u64.wrap (a0))).bind fun r2 =>
   gd (sfits (List.length (([114, 101, 103, 115, 32] : List Int))) (List.length r2)) (gd (sfits (List.length ((([114, 101, 103, 115, 32] : List Int) ++ r2))) (List.length (([10] : List Int)))) ((loopN (D_ref11_Print_L0 a1) BIG ((0, ([] : List Int), ((([114, 101, 103, 115, 32] : List Int) ++ r2) ++ ([10] : List Int))))).bind fun r14 =>
   caseS r14 (fun u'15 =>
    some ((u'15.1, u'15.2)))
    (fun w16 =>
    some ((w16, 0)))))))
/- backstitch/backstitchlaw11.ListingPrints -/
def D_law11_ListingPrints (a0 : Int) (a1 : List (Int × Int × Int × Int × Int)) (a2 a3 a4 a5 a6 : Int) : Option (Bool) :=
 cond (decide (100 < ((((List.length a1) : Nat) : Int))))
  ((D_law11_goes).bind fun r7 =>
  some r7)
  ((D_listing_Print a0 a1).bind fun r8 =>
  (D_ref11_Print a0 a1).bind fun r9 =>
  (D_listing_Line a2 a3 a4 a5 a6).bind fun r10 =>
  (D_ref11_Line a2 a3 a4 a5 a6).bind fun r11 =>
  cond (decide (r8.1 = r9.1))
   (cond (decide (r8.2 = r9.2))
    (cond (decide (r10.1 = r11.1))
     (cond (decide (r10.2 = r11.2))
      ((D_law11_goes).bind fun r12 =>
      some r12)
      (some false))
     (some false))
    (some false))
   (some false))

end Go.V
