/- A part of the proofs of this seat: what functions of the program answer on the abstract machine. -/
import Derived.Test.YtbdihjmnbadfhaaGreatDoorV26
namespace Go.V
set_option linter.unusedVariables false
set_option linter.unusedSimpArgs false
open Go.Ab
set_option linter.unusedVariables false
abbrev wI := IntKind.i64.wrap
abbrev wU := IntKind.u64.wrap
abbrev LO := List (Int × Int × Int × Int × Int)
abbrev ln {α : Type} (l : List α) := List.length l
abbrev tN := Int.toNat
abbrev Op := Option
abbrev tabL0 : List Int := [0, 1, 2, 2, 3, 3, 3, 3, 4, 4, 4, 4, 4, 4, 4, 4, 5, 5, 5, 5, 5, 5, 5, 5, 5, 5, 5, 5, 5, 5, 5, 5, 6, 6, 6, 6, 6, 6, 6, 6, 6, 6, 6, 6, 6, 6, 6, 6, 6, 6, 6, 6, 6, 6, 6, 6, 6, 6, 6, 6, 6, 6, 6, 6, 7, 7, 7, 7, 7, 7, 7, 7, 7, 7, 7, 7, 7, 7, 7, 7, 7, 7, 7, 7, 7, 7, 7, 7, 7, 7, 7, 7, 7, 7, 7, 7, 7, 7, 7, 7, 7, 7, 7, 7, 7, 7, 7, 7, 7, 7, 7, 7, 7, 7, 7, 7, 7, 7, 7, 7, 7, 7, 7, 7, 7, 7, 7, 7, 8, 8, 8, 8, 8, 8, 8, 8, 8, 8, 8, 8, 8, 8, 8, 8, 8, 8, 8, 8, 8, 8, 8, 8, 8, 8, 8, 8, 8, 8, 8, 8, 8, 8, 8, 8, 8, 8, 8, 8, 8, 8, 8, 8, 8, 8, 8, 8, 8, 8, 8, 8, 8, 8, 8, 8, 8, 8, 8, 8, 8, 8, 8, 8, 8, 8, 8, 8, 8, 8, 8, 8, 8, 8, 8, 8, 8, 8, 8, 8, 8, 8, 8, 8, 8, 8, 8, 8, 8, 8, 8, 8, 8, 8, 8, 8, 8, 8, 8, 8, 8, 8, 8, 8, 8, 8, 8, 8, 8, 8, 8, 8, 8, 8, 8, 8, 8, 8, 8, 8, 8, 8, 8, 8, 8, 8, 8, 8]
abbrev tabL1 : List Int := [48, 49, 50, 51, 52, 53, 54, 55, 56, 57, 97, 98, 99, 100, 101, 102, 103, 104, 105, 106, 107, 108, 109, 110, 111, 112, 113, 114, 115, 116, 117, 118, 119, 120, 121, 122]
abbrev tabL2 : List Int := [48, 48, 48, 49, 48, 50, 48, 51, 48, 52, 48, 53, 48, 54, 48, 55, 48, 56, 48, 57, 49, 48, 49, 49, 49, 50, 49, 51, 49, 52, 49, 53, 49, 54, 49, 55, 49, 56, 49, 57, 50, 48, 50, 49, 50, 50, 50, 51, 50, 52, 50, 53, 50, 54, 50, 55, 50, 56, 50, 57, 51, 48, 51, 49, 51, 50, 51, 51, 51, 52, 51, 53, 51, 54, 51, 55, 51, 56, 51, 57, 52, 48, 52, 49, 52, 50, 52, 51, 52, 52, 52, 53, 52, 54, 52, 55, 52, 56, 52, 57, 53, 48, 53, 49, 53, 50, 53, 51, 53, 52, 53, 53, 53, 54, 53, 55, 53, 56, 53, 57, 54, 48, 54, 49, 54, 50, 54, 51, 54, 52, 54, 53, 54, 54, 54, 55, 54, 56, 54, 57, 55, 48, 55, 49, 55, 50, 55, 51, 55, 52, 55, 53, 55, 54, 55, 55, 55, 56, 55, 57, 56, 48, 56, 49, 56, 50, 56, 51, 56, 52, 56, 53, 56, 54, 56, 55, 56, 56, 56, 57, 57, 48, 57, 49, 57, 50, 57, 51, 57, 52, 57, 53, 57, 54, 57, 55, 57, 56, 57, 57]

/- slices.Clone[[]uint64,uint64] -/
def D_slices_Clone_uint64_uint64 (l : List Int) : Op (List Int) := gd (fits (0 + l.length) 8) (some l)
def D_words_Split_L0 (a1 : Int) (s5 : (List Int) × List (List Int)) : Op (((List Int) × List (List Int)) ⊕ (Int × (List Int) × List (List Int))) :=
 cond (decide (((((ln s5.2) : Nat) : Int)) < a1))
  (cond (decide (((((ln s5.1) : Nat) : Int)) = 0))
   (some (.inr (((4, s5.1, s5.2)))))
   ((rd s5.1 0).bind fun x6 =>
   cond (decide ((wU (wI (((((ln s5.1) : Nat) : Int)) - 1))) < x6))
    (some (.inr (((4, s5.1, s5.2)))))
    ((rd s5.1 0).bind fun x7 =>
    gd (cutG 1 (wI ((wI (x7)) + 1)) ((ln s5.1))) ((D_slices_Clone_uint64_uint64 ((cutL s5.1 1 (wI ((wI (x7)) + 1))))).bind fun r8 =>
    gd (fits (ln s5.2 + 1) 24) (gd (cutG (wI ((wI (x7)) + 1)) ((((ln s5.1) : Nat) : Int)) ((ln s5.1))) (some (.inl (((cutL s5.1 (wI ((wI (x7)) + 1)) ((((ln s5.1) : Nat) : Int))), (s5.2 ++ [r8]))))))))))
  (some (.inr (((0, s5.1, s5.2)))))
/- backstitch/words.Split -/
def D_words_Split (a0 : List Int) (a1 : Int) : Op (Int × (List (List Int)) × List Int) :=
 cond (decide (a1 < 0))
  (some ((2, [], [])))
  ((loopN (D_words_Split_L0 a1) BIG ((a0, []))).bind fun r9 =>
  cond (decide (r9.1 ≠ 0))
   (some ((r9.1, [], [])))
   ((D_slices_Clone_uint64_uint64 r9.2.1).bind fun r10 =>
   some ((0, r9.2.2, r10))))
/- backstitch/script.feed -/
def D_script_feed (a0 : List Int) : Op (List Int) :=
 some a0
/- backstitch/script.feed$1 -/
def D_script_feed_1 (a0 : Int) (a1 : List Int) : Op (Bool × Int) :=
 (rd a1 (wI (Int.tdiv (wI (a0 + 1)) 64))).bind fun x2 =>
 gd (decide (0 ≤ (Int.tmod (wI (a0 + 1)) 64))) (some ((decide ((bitV .u64 (· &&& ·) (Int.fdiv x2 (2 ^ (min (tN (Int.tmod (wI (a0 + 1)) 64)) (IntKind.bits .u64)))) 1) = 1), wI (a0 + 1))))
def D_script_Bits_L0 (a0 : Int) (r2 : List Int) (s6 : Int × Int × List Bool) : Op ((Int × Int × List Bool) ⊕ (Int × List Bool)) :=
 cond (decide (s6.1 < a0))
  ((D_script_feed_1 s6.2.1 r2).bind fun r7 =>
  gd (fits (ln s6.2.2 + 1) 1) (some (.inl ((wI (s6.1 + 1), r7.2, (s6.2.2 ++ [r7.1]))))))
  (some (.inr (((s6.2.1, s6.2.2)))))
/- backstitch/script.Bits -/
def D_script_Bits (a0 : Int) (a1 : List Int) : Op (Int × List Bool) :=
 cond (decide (a0 < 0))
  (some ((2, [])))
  (cond (decide ((wI (64 * ((((ln a1) : Nat) : Int)))) < a0))
   (some ((4, [])))
   ((D_script_feed a1).bind fun r2 =>
   (loopN (D_script_Bits_L0 a0 r2) BIG ((0, (-1), []))).bind fun r8 =>
   some ((0, r8.2))))
/- backstitch/script.framed -/
def D_script_framed (a0 : List Int) : Op ((List Int) × Int × List Bool) :=
 cond (decide (((((ln a0) : Nat) : Int)) < 5))
  (some (([], 4, [])))
  (gd (cutG 5 ((((ln a0) : Nat) : Int)) ((ln a0))) ((D_words_Split ((cutL a0 5 ((((ln a0) : Nat) : Int)))) 5).bind fun r1 =>
  cond (decide (r1.1 ≠ 0))
   (some (([], r1.1, [])))
   ((rd a0 0).bind fun x2 =>
   cond (decide (x2 = 2))
    (cond (decide (((((ln r1.2.2) : Nat) : Int)) = 0))
     (some (([], 4, [])))
     ((ix 0 ((ln r1.2.2))).bind fun j3 =>
     (r1.2.2[j3]?).bind fun x4 =>
     cond (decide ((wU (wI (64 * (wI (((((ln r1.2.2) : Nat) : Int)) - 1))))) < x4))
      (some (([], 4, [])))
      ((ix 0 ((ln r1.2.2))).bind fun j5 =>
      (r1.2.2[j5]?).bind fun x6 =>
      gd (cutG 1 ((((ln r1.2.2) : Nat) : Int)) ((ln r1.2.2))) ((D_script_Bits (wI (x6)) ((List.take (((tN ((((ln r1.2.2) : Nat) : Int))) - 1)) (List.drop 1 r1.2.2)))).bind fun r7 =>
      (ix 4 ((ln r1.2.1))).bind fun j8 =>
      (r1.2.1[j8]?).bind fun x9 =>
      some ((x9, r7.1, r7.2))))))
    ((ix 4 ((ln r1.2.1))).bind fun j10 =>
    (r1.2.1[j10]?).bind fun x11 =>
    some ((x11, r1.1, []))))))
/- backstitch/opcode.of -/
def D_opcode_of (a0 : Int) : Op (Bool × Bool × Bool × Bool) :=
 (((cond (decide (a0 = 1))
  (some true)
  (cond (decide (a0 = 2))
   (some true)
   (some (decide (a0 = 3))))) : Op (Bool))).bind fun s1 =>
 cond (s1)
  (some ((true, true, true, false)))
  ((((cond (decide (a0 = 4))
   (some true)
   (some (decide (a0 = 6)))) : Op (Bool))).bind fun s2 =>
  cond (s2)
   (some ((true, true, false, false)))
   (cond (decide (a0 = 5))
    (some ((true, false, false, true)))
    (cond (decide (a0 = 7))
     (some ((false, false, false, true)))
     (some ((false, false, false, false))))))
/- backstitch/opcode.Read$1 -/
def D_opcode_Read_1 (a0 : Bool) (a1 : Int) (a2 : List Int) (a3 : Bool) : Op (Int × Int × Bool) :=
 cond (!a0)
  (some ((0, a1, a3)))
  (cond (decide (((((ln a2) : Nat) : Int)) < (wI (a1 + 1))))
   (some ((0, wI (a1 + 1), true)))
   ((rd a2 (wI ((wI (a1 + 1)) - 1))).bind fun x4 =>
   some ((x4, wI (a1 + 1), a3))))
/- backstitch/opcode.Read$2 -/
def D_opcode_Read_2 (a0 : Bool) (a1 : Int) (a2 : List Int) (a3 : Bool) : Op (Int × Int × Bool) :=
 (D_opcode_Read_1 a0 a1 a2 a3).bind fun r4 =>
 some ((wI (min r4.1 2147483647), r4.2.1, r4.2.2))
/- backstitch/opcode.Read -/
def D_opcode_Read (a0 : List Int) : Op (Int × Int × Int × Int × Int × Int × Int) :=
 cond (decide (((((ln a0) : Nat) : Int)) = 0))
  (some ((0, 0, 0, 0, 0, 0, 4)))
  ((rd a0 0).bind fun x1 =>
  cond (decide (8 ≤ x1))
   (some ((0, 0, 0, 0, 0, 0, 6)))
   ((rd a0 0).bind fun x2 =>
   (D_opcode_of (wI (x2))).bind fun r3 =>
   (rd a0 0).bind fun x4 =>
   (D_opcode_Read_2 r3.1 1 a0 false).bind fun r5 =>
   (D_opcode_Read_2 r3.2.1 r5.2.1 a0 r5.2.2).bind fun r6 =>
   (D_opcode_Read_2 r3.2.2.1 r6.2.1 a0 r6.2.2).bind fun r7 =>
   (D_opcode_Read_1 r3.2.2.2 r7.2.1 a0 r7.2.2).bind fun r8 =>
   cond (r8.2.2)
    (some ((0, 0, 0, 0, 0, 0, 4)))
    (some ((wI (x4), r5.1, r6.1, r7.1, r8.1, r8.2.1, 0)))))
def D_header_Unpack_L0  (s6 : (List Int) × Bool × LO) : Op (((List Int) × Bool × LO) ⊕ (Bool × LO)) :=
 cond (decide (0 < ((((ln s6.1) : Nat) : Int))))
  ((D_opcode_Read s6.1).bind fun r7 =>
  cond (decide (r7.2.2.2.2.2.2 ≠ 0))
   (some (.inr (((false, s6.2.2)))))
   (gd (fits (ln s6.2.2 + 1) 40) (gd (cutG r7.2.2.2.2.2.1 ((((ln s6.1) : Nat) : Int)) ((ln s6.1))) (some (.inl (((cutL s6.1 r7.2.2.2.2.2.1 ((((ln s6.1) : Nat) : Int))), s6.2.1, (s6.2.2 ++ [(r7.1, (r7.2.1, (r7.2.2.1, (r7.2.2.2.1, r7.2.2.2.2.1))))]))))))))
  (some (.inr (((s6.2.1, s6.2.2)))))
/- backstitch/header.Unpack -/
def D_header_Unpack (a0 : List Int) : Op (Int × LO) :=
 (loopN (D_header_Unpack_L0) BIG ((a0, true, []))).bind fun r8 =>
 cond (!r8.1)
  (some ((6, [])))
  (some ((0, r8.2)))
def D_nest_Match_L0 (a0 : LO) (s7 : Int × Bool × (List Int) × (List Int) × List Int) : Op ((Int × Bool × (List Int) × (List Int) × List Int) ⊕ (Bool × (List Int) × (List Int) × List Int)) :=
 cond (decide (s7.1 < ((((ln a0) : Nat) : Int))))
  ((rd a0 s7.1).bind fun x8 =>
  ((((((cond (decide (x8.1 < 0))
   (some true)
   (cond (decide (7 < x8.1))
    (some true)
    (cond (decide (x8.1 = 0))
     (some (decide (((((ln s7.2.2.2.1) : Nat) : Int)) = 0)))
     (some false)))) : Op (Bool))).bind fun s9 =>
  cond (s9)
   (some ((.inl ((false, s7.2.2.2.1)))))
   (cond (decide (x8.1 = 0))
    (gd (cutG 0 (wI (((((ln s7.2.2.2.1) : Nat) : Int)) - 1)) ((ln s7.2.2.2.1))) (some ((.inr ((s7.2.1, (List.take (((tN (wI (((((ln s7.2.2.2.1) : Nat) : Int)) - 1))) - 0)) s7.2.2.2.1)))))))
    (some ((.inr ((s7.2.1, s7.2.2.2.1))))))) : Op ((Bool × List Int) ⊕ (Bool × List Int)))).bind fun s10 =>
  caseS s10 (fun u'11 =>
   some (.inr (((u'11.1, s7.2.2.1, u'11.2, s7.2.2.2.2)))))
   (fun w12 =>
   (ix s7.1 ((ln s7.2.2.1))).bind fun j13 =>
   (s7.2.2.1[j13]?).bind fun x14 =>
   (rd a0 s7.1).bind fun x15 =>
   cond (decide (x15.1 = 7))
    (gd (fits (ln s7.2.2.2.2 + 1) 8) (cond (decide (x8.1 = 7))
     (gd (fits (ln w12.2 + 1) 8) (some (.inl ((wI (s7.1 + 1), w12.1, (List.set s7.2.2.1 j13 (-1)), (w12.2 ++ [s7.1]), (s7.2.2.2.2 ++ [s7.1]))))))
     (some (.inl ((wI (s7.1 + 1), w12.1, (List.set s7.2.2.1 j13 (-1)), w12.2, (s7.2.2.2.2 ++ [s7.1])))))))
    (cond (decide (x15.1 = 0))
     ((ix (wI (((((ln s7.2.2.2.2) : Nat) : Int)) - 1)) ((ln s7.2.2.2.2))).bind fun j16 =>
     (s7.2.2.2.2[j16]?).bind fun x17 =>
     gd (cutG 0 (wI (((((ln s7.2.2.2.2) : Nat) : Int)) - 1)) ((ln s7.2.2.2.2))) ((ix s7.1 ((ln ((List.set s7.2.2.1 j13 (-1)))))).bind fun j18 =>
     (((List.set s7.2.2.1 j13 (-1)))[j18]?).bind fun x19 =>
     (ix x17 ((ln ((List.set ((List.set s7.2.2.1 j13 (-1))) j18 x17))))).bind fun j20 =>
     (((List.set ((List.set s7.2.2.1 j13 (-1))) j18 x17))[j20]?).bind fun x21 =>
     cond (decide (x8.1 = 7))
      (gd (fits (ln w12.2 + 1) 8) (some (.inl ((wI (s7.1 + 1), w12.1, (List.set ((List.set ((List.set s7.2.2.1 j13 (-1))) j18 x17)) j20 s7.1), (w12.2 ++ [s7.1]), (List.take (((tN (wI (((((ln s7.2.2.2.2) : Nat) : Int)) - 1))) - 0)) s7.2.2.2.2))))))
      (some (.inl ((wI (s7.1 + 1), w12.1, (List.set ((List.set ((List.set s7.2.2.1 j13 (-1))) j18 x17)) j20 s7.1), w12.2, (List.take (((tN (wI (((((ln s7.2.2.2.2) : Nat) : Int)) - 1))) - 0)) s7.2.2.2.2)))))))
     (cond (decide (x8.1 = 7))
      (gd (fits (ln w12.2 + 1) 8) (some (.inl ((wI (s7.1 + 1), w12.1, (List.set s7.2.2.1 j13 (-1)), (w12.2 ++ [s7.1]), s7.2.2.2.2)))))
      (some (.inl ((wI (s7.1 + 1), w12.1, (List.set s7.2.2.1 j13 (-1)), w12.2, s7.2.2.2.2))))))))
  (some (.inr (((s7.2.1, s7.2.2.1, s7.2.2.2.1, s7.2.2.2.2)))))
/- backstitch/nest.Match -/
def D_nest_Match (a0 : LO) : Op (Int × List Int) :=
 gd (Nat.beq 1 (Sh.w (.int .i64)) && decide (0 ≤ ((((ln a0) : Nat) : Int))) && decide (((((ln a0) : Nat) : Int)) ≤ ((((ln a0) : Nat) : Int))) && decide ((8 : Int) * ((((ln a0) : Nat) : Int)) ≤ 140737488355328) && Nat.ble 1 8) ((loopN (D_nest_Match_L0 a0) BIG ((0, true, (List.replicate (tN ((((ln a0) : Nat) : Int))) (0 : Int)), [], []))).bind fun r22 =>
 cond (r22.1)
  (cond (!(decide (((((ln r22.2.2.1) : Nat) : Int)) = 0)))
   (some ((6, [])))
   (some ((0, r22.2.1))))
  (some ((6, []))))
/- backstitch/header.number -/
def D_header_number (a0 : Int) : Op (Int) :=
 some (wI (min a0 2147483647))
def D_header_programs_L0 (a0 : List Int) (a1 : List (List Int)) (s4 : Int × List (Int × LO)) : Op ((Int × List (Int × LO)) ⊕ ((Unit) ⊕ (List (Int × LO)))) :=
 cond (decide (s4.1 < ((((ln a1) : Nat) : Int))))
  ((rd a1 s4.1).bind fun x5 =>
  (D_header_Unpack x5).bind fun r6 =>
  (D_nest_Match r6.2).bind fun r7 =>
  cond (decide (r6.1 ≠ 0))
   (some (.inr (((.inl ())))))
   (cond (decide (r7.1 ≠ 0))
    (some (.inr (((.inl ())))))
    ((rd a0 s4.1).bind fun x8 =>
    (D_header_number x8).bind fun r9 =>
    gd (fits (ln s4.2 + 1) 32) (some (.inl ((wI (s4.1 + 1), (s4.2 ++ [(r9, r6.2)]))))))))
  (some (.inr (((.inr s4.2)))))
/- backstitch/header.programs -/
def D_header_programs (a0 : List Int) (a1 : List (List Int)) : Op (Int × List (Int × LO)) :=
 (loopN (D_header_programs_L0 a0 a1) BIG ((0, []))).bind fun r10 =>
 caseS r10 (fun u'11 =>
  some ((6, [])))
  (fun w12 =>
  some ((0, w12)))
/- backstitch/header.fail -/
def D_header_fail (a0 : Bool) (a1 : Int) : Op (Int) :=
 cond (a0)
  (some a1)
  (some 0)
/- (backstitch/header.header).mode -/
def D_header_header_mode (a0 : Int) (a1 a2 : List Int) (a3 : Int) (a4 : LO) (a5 : Int) (a6 : LO) (a7 a8 : Int) : Op (Int) :=
 cond (decide (a0 < 1))
  ((D_header_fail true 5).bind fun r9 =>
  some r9)
  ((D_header_fail (decide (3 < a0)) 5).bind fun r10 =>
  some r10)
/- backstitch/check.fail -/
def D_check_fail (a0 : Bool) (a1 : Int) : Op (Int) :=
 cond (a0)
  (some a1)
  (some 0)
/- backstitch/opcode.known -/
def D_opcode_known (a0 : Int) : Op (Bool) :=
 cond (decide (0 ≤ a0))
  (some (decide (a0 < 8)))
  (some false)
/- backstitch/opcode.register -/
def D_opcode_register (a0 : Int) (a1 : Bool) : Op (Bool) :=
 cond (!a1)
  (some (decide (a0 = 0)))
  (cond (decide (0 ≤ a0))
   (some (decide (a0 ≤ 2147483647)))
   (some false))
/- backstitch/opcode.Right -/
def D_opcode_Right (a0 a1 a2 a3 a4 : Int) : Op (Bool) :=
 (D_opcode_of a0).bind fun r5 =>
 (D_opcode_known a0).bind fun r6 =>
 cond (r6)
  ((D_opcode_register a1 r5.1).bind fun r7 =>
  cond (r7)
   ((D_opcode_register a2 r5.2.1).bind fun r8 =>
   cond (r8)
    ((D_opcode_register a3 r5.2.2.1).bind fun r9 =>
    cond (r9)
     (cond (r5.2.2.2)
      (some true)
      (some (decide (a4 = 0))))
     (some false))
    (some false))
   (some false))
  (some false)
/- (backstitch/check.program).form$1 -/
def D_check_program_form_1 (a0 a1 a2 a3 a4 : Int) : Op (Bool) :=
 (D_opcode_Right a0 a1 a2 a3 a4).bind fun r5 =>
 some !r5
def D_slices_IndexFunc_api_Op_api_Op_L0 (a0 : LO) (s2 : Int) : Op ((Int) ⊕ ((Int) ⊕ (Unit))) :=
 cond (decide (s2 < ((((ln a0) : Nat) : Int))))
  ((rd a0 s2).bind fun x3 =>
  (D_check_program_form_1 x3.1 x3.2.1 x3.2.2.1 x3.2.2.2.1 x3.2.2.2.2).bind fun r4 =>
  cond (r4)
   (some (.inr (((.inl s2)))))
   (some (.inl (wI (s2 + 1)))))
  (some (.inr (((.inr ())))))
/- slices.IndexFunc[[]backstitch/api.Op,backstitch/api.Op] -/
def D_slices_IndexFunc_api_Op_api_Op (a0 : LO) : Op (Int) :=
 (loopN (D_slices_IndexFunc_api_Op_api_Op_L0 a0) BIG 0).bind fun r5 =>
 caseS r5 (fun u'6 =>
  some u'6)
  (fun w7 =>
  some (-1))
/- slices.ContainsFunc[[]backstitch/api.Op,backstitch/api.Op] -/
def D_slices_ContainsFunc_api_Op_api_Op (a0 : LO) : Op (Bool) :=
 (D_slices_IndexFunc_api_Op_api_Op a0).bind fun r1 =>
 some (decide (0 ≤ r1))
/- (backstitch/check.program).form -/
def D_check_program_form (a0 : Int) (a1 : LO) : Op (Int) :=
 (D_nest_Match a1).bind fun r2 =>
 cond (decide (4096 < ((((ln a1) : Nat) : Int))))
  ((D_check_fail true 6).bind fun r3 =>
  some r3)
  (cond (decide (r2.1 ≠ 0))
   ((D_check_fail true 6).bind fun r4 =>
   some r4)
   ((D_slices_ContainsFunc_api_Op_api_Op a1).bind fun r5 =>
   (D_check_fail r5 6).bind fun r6 =>
   some r6))
def D_slices_Reverse_int_int_L0  (s5 : Int × Int × List Int) : Op ((Int × Int × List Int) ⊕ (List Int)) :=
 cond (decide (s5.1 < s5.2.1))
  ((ix s5.2.1 ((ln s5.2.2))).bind fun j6 =>
  (s5.2.2[j6]?).bind fun x7 =>
  (ix s5.1 ((ln s5.2.2))).bind fun j8 =>
  (s5.2.2[j8]?).bind fun x9 =>
  (ix s5.1 ((ln s5.2.2))).bind fun j10 =>
  (s5.2.2[j10]?).bind fun x11 =>
  (ix s5.2.1 ((ln ((List.set s5.2.2 j10 x7))))).bind fun j12 =>
  (((List.set s5.2.2 j10 x7))[j12]?).bind fun x13 =>
  some (.inl ((wI (s5.1 + 1), wI (s5.2.1 - 1), (List.set ((List.set s5.2.2 j10 x7)) j12 x9)))))
  (some (.inr s5.2.2))
/- slices.Reverse[[]int,int] -/
def D_slices_Reverse_int_int (a0 : List Int) : Op (List Int) :=
 (loopN (D_slices_Reverse_int_int_L0) BIG ((0, wI (((((ln a0) : Nat) : Int)) - 1), a0))).bind fun r14 =>
 some r14
/- backstitch/opcode.Reads -/
def D_opcode_Reads (a0 a1 a2 a3 a4 : Int) : Op (List Int) :=
 (((((((((cond (decide (a0 = 1))
  (some ((.inl ())))
  (cond (decide (a0 = 2))
   (some ((.inl ())))
   (cond (decide (a0 = 3))
    (some ((.inl ())))
    (cond (decide (a0 = 4))
     (some ((.inr ((.inl ())))))
     (cond (decide (a0 = 6))
      (some ((.inr ((.inl ())))))
      (some ((.inr ((.inr ())))))))))) : Op ((Unit) ⊕ ((Unit) ⊕ (Unit))))).bind fun s5 =>
 caseS s5 (fun u'6 =>
  some ((.inl [a3])))
  (fun w7 =>
  caseS w7 (fun u'8 =>
   some ((.inl [])))
   (fun w9 =>
   some ((.inr ()))))) : Op ((List Int) ⊕ (Unit)))).bind fun s10 =>
 caseS s10 (fun u'11 =>
  gd (fits (ln u'11 + 1) 8) (some ((u'11 ++ [a2]))))
  (fun w12 =>
  some [])) : Op (List Int))).bind fun s13 =>
 (D_slices_Reverse_int_int s13).bind fun r14 =>
 some r14
/- backstitch/opcode.Writes -/
def D_opcode_Writes (a0 a1 a2 a3 a4 : Int) : Op (Int × Bool) :=
 (D_opcode_of a0).bind fun r5 =>
 cond (!r5.1)
  (some ((0, false)))
  (some ((a1, true)))
/- (backstitch/check.program).registers$1$1 -/
def D_check_program_registers_1_1 (a0 a1 : Int) (a2 : LO) : Op (Bool) :=
 some (decide (a1 ≤ a0))
def D_slices_IndexFunc_int_int_L0 (a0 : List Int) (a1 : Int) (a2 : LO) (s4 : Int) : Op ((Int) ⊕ ((Int) ⊕ (Unit))) :=
 cond (decide (s4 < ((((ln a0) : Nat) : Int))))
  ((rd a0 s4).bind fun x5 =>
  (D_check_program_registers_1_1 x5 a1 a2).bind fun r6 =>
  cond (r6)
   (some (.inr (((.inl s4)))))
   (some (.inl (wI (s4 + 1)))))
  (some (.inr (((.inr ())))))
/- slices.IndexFunc[[]int,int] -/
def D_slices_IndexFunc_int_int (a0 : List Int) (a1 : Int) (a2 : LO) : Op (Int) :=
 (loopN (D_slices_IndexFunc_int_int_L0 a0 a1 a2) BIG 0).bind fun r7 =>
 caseS r7 (fun u'8 =>
  some u'8)
  (fun w9 =>
  some (-1))
/- slices.ContainsFunc[[]int,int] -/
def D_slices_ContainsFunc_int_int (a0 : List Int) (a1 : Int) (a2 : LO) : Op (Bool) :=
 (D_slices_IndexFunc_int_int a0 a1 a2).bind fun r3 =>
 some (decide (0 ≤ r3))
/- (backstitch/check.program).registers$1 -/
def D_check_program_registers_1 (a0 a1 a2 a3 a4 a5 : Int) (a6 : LO) : Op (Bool) :=
 (D_opcode_Reads a0 a1 a2 a3 a4).bind fun r7 =>
 ((((D_opcode_Writes a0 a1 a2 a3 a4).bind fun r8 =>
 cond (r8.2)
  (gd (fits (ln r7 + 1) 8) (some ((r7 ++ [r8.1]))))
  (some r7)) : Op (List Int))).bind fun s9 =>
 (D_slices_ContainsFunc_int_int s9 a5 a6).bind fun r10 =>
 some r10
def D_slices_IndexFunc_api_Op_api_Op_2_L0 (a0 : LO) (a1 : Int) (a2 : LO) (s4 : Int) : Op ((Int) ⊕ ((Int) ⊕ (Unit))) :=
 cond (decide (s4 < ((((ln a0) : Nat) : Int))))
  ((rd a0 s4).bind fun x5 =>
  (D_check_program_registers_1 x5.1 x5.2.1 x5.2.2.1 x5.2.2.2.1 x5.2.2.2.2 a1 a2).bind fun r6 =>
  cond (r6)
   (some (.inr (((.inl s4)))))
   (some (.inl (wI (s4 + 1)))))
  (some (.inr (((.inr ())))))
/- slices.IndexFunc[[]backstitch/api.Op,backstitch/api.Op] -/
def D_slices_IndexFunc_api_Op_api_Op_2 (a0 : LO) (a1 : Int) (a2 : LO) : Op (Int) :=
 (loopN (D_slices_IndexFunc_api_Op_api_Op_2_L0 a0 a1 a2) BIG 0).bind fun r7 =>
 caseS r7 (fun u'8 =>
  some u'8)
  (fun w9 =>
  some (-1))
/- slices.ContainsFunc[[]backstitch/api.Op,backstitch/api.Op] -/
def D_slices_ContainsFunc_api_Op_api_Op_2 (a0 : LO) (a1 : Int) (a2 : LO) : Op (Bool) :=
 (D_slices_IndexFunc_api_Op_api_Op_2 a0 a1 a2).bind fun r3 =>
 some (decide (0 ≤ r3))
/- (backstitch/check.program).registers -/
def D_check_program_registers (a0 : Int) (a1 : LO) : Op (Int) :=
 cond (decide (a0 < 1))
  ((D_check_fail true 7).bind fun r2 =>
  some r2)
  (cond (decide (64 < a0))
   ((D_check_fail true 7).bind fun r3 =>
   some r3)
   ((D_slices_ContainsFunc_api_Op_api_Op_2 a1 a0 a1).bind fun r4 =>
   (D_check_fail r4 7).bind fun r5 =>
   some r5))
def D_nest_Deep_L0 (a0 : LO) (s6 : Int × Bool × Int × List Int) : Op ((Int × Bool × Int × List Int) ⊕ (Bool × Int × List Int)) :=
 cond (decide (s6.1 < ((((ln a0) : Nat) : Int))))
  ((rd a0 s6.1).bind fun x7 =>
  ((((((cond (decide (x7.1 < 0))
   (some true)
   (cond (decide (7 < x7.1))
    (some true)
    (cond (decide (x7.1 = 0))
     (some (decide (((((ln s6.2.2.2) : Nat) : Int)) = 0)))
     (some false)))) : Op (Bool))).bind fun s8 =>
  cond (s8)
   (some ((.inl ((false, s6.2.2.2)))))
   (cond (decide (x7.1 = 0))
    (gd (cutG 0 (wI (((((ln s6.2.2.2) : Nat) : Int)) - 1)) ((ln s6.2.2.2))) (some ((.inr ((s6.2.1, (List.take (((tN (wI (((((ln s6.2.2.2) : Nat) : Int)) - 1))) - 0)) s6.2.2.2)))))))
    (some ((.inr ((s6.2.1, s6.2.2.2))))))) : Op ((Bool × List Int) ⊕ (Bool × List Int)))).bind fun s9 =>
  caseS s9 (fun u'10 =>
   some (.inr (((u'10.1, s6.2.2.1, u'10.2)))))
   (fun w11 =>
   (rd a0 s6.1).bind fun x12 =>
   cond (decide (x12.1 = 7))
    (cond (decide (x7.1 = 7))
     (gd (fits (ln w11.2 + 1) 8) (some (.inl ((wI (s6.1 + 1), w11.1, max s6.2.2.1 (wI (((((ln w11.2) : Nat) : Int)) + 1)), (w11.2 ++ [s6.1]))))))
     (some (.inl ((wI (s6.1 + 1), w11.1, max s6.2.2.1 (wI (((((ln w11.2) : Nat) : Int)) + 1)), w11.2)))))
    (cond (decide (x7.1 = 7))
     (gd (fits (ln w11.2 + 1) 8) (some (.inl ((wI (s6.1 + 1), w11.1, s6.2.2.1, (w11.2 ++ [s6.1]))))))
     (some (.inl ((wI (s6.1 + 1), w11.1, s6.2.2.1, w11.2)))))))
  (some (.inr (((s6.2.1, s6.2.2.1, s6.2.2.2)))))
/- backstitch/nest.Deep -/
def D_nest_Deep (a0 : LO) : Op (Int × Int) :=
 (loopN (D_nest_Deep_L0 a0) BIG ((0, true, 0, []))).bind fun r13 =>
 cond (r13.1)
  (cond (!(decide (((((ln r13.2.2) : Nat) : Int)) = 0)))
   (some ((0, 6)))
   (some ((r13.2.1, 0))))
  (some ((0, 6)))
/- (backstitch/check.program).depth -/
def D_check_program_depth (a0 : Int) (a1 : LO) : Op (Int) :=
 (D_nest_Deep a1).bind fun r2 =>
 (D_check_fail (decide (8 < r2.1)) 8).bind fun r3 =>
 some r3
/- backstitch/size.block -/
def D_size_block (a0 a1 : Int) : Op (Int × Bool) :=
 cond (decide (a0 = 0))
  (some ((0, true)))
  (cond (decide (65536 < a0))
   (some ((0, false)))
   (gd (decide (a0 ≠ 0)) (cond (decide ((wU (wI (Int.tdiv 65536 a0))) < a1))
    (some ((0, false)))
    (some ((wI (a0 * (wI (a1))), true))))))
def D_size_add_L0 (a0 : List Int) (s3 : Int × Int) : Op ((Int × Int) ⊕ (Int)) :=
 cond (decide (s3.1 < ((((ln a0) : Nat) : Int))))
  ((rd a0 s3.1).bind fun x4 =>
  some (.inl ((wI (s3.1 + 1), wI (s3.2 + x4)))))
  (some (.inr s3.2))
/- backstitch/size.add -/
def D_size_add (a0 : List Int) : Op (Int) :=
 (loopN (D_size_add_L0 a0) BIG ((0, 0))).bind fun r5 =>
 some r5
def D_size_measure_L0 (a0 : LO) (s6 : Int × (List Int) × (List Int) × List (Int × Int)) : Op ((Int × (List Int) × (List Int) × List (Int × Int)) ⊕ (Int × (List Int) × (List Int) × List (Int × Int))) :=
 cond (decide (s6.1 < ((((ln a0) : Nat) : Int))))
  ((rd a0 s6.1).bind fun x7 =>
  (ix (wI (((((ln s6.2.2.2) : Nat) : Int)) - 1)) ((ln s6.2.2.2))).bind fun j8 =>
  cond (decide (x7.1 = 7))
   (gd (fits (ln s6.2.2.2 + 1) 16) (some (.inl ((wI (s6.1 + 1), s6.2.1, s6.2.2.1, (s6.2.2.2 ++ [(s6.1, 0)]))))))
   (cond (decide (x7.1 = 0))
    ((s6.2.2.2[j8]?).bind fun x9 =>
    (s6.2.2.2[j8]?).bind fun x10 =>
    (rd a0 x10.1).bind fun x11 =>
    (D_size_block x9.2 x11.2.2.2.2).bind fun r12 =>
    cond (!r12.2)
     (some (.inr (((9, s6.2.1, s6.2.2.1, s6.2.2.2)))))
     ((s6.2.2.2[j8]?).bind fun x13 =>
     (s6.2.2.2[j8]?).bind fun x14 =>
     (s6.2.2.2[j8]?).bind fun x15 =>
     (ix x13.1 ((ln s6.2.1))).bind fun j16 =>
     (s6.2.1[j16]?).bind fun x17 =>
     (ix x14.1 ((ln s6.2.2.1))).bind fun j18 =>
     (s6.2.2.1[j18]?).bind fun x19 =>
     gd (cutG 0 (wI (((((ln s6.2.2.2) : Nat) : Int)) - 1)) ((ln s6.2.2.2))) ((ix (wI ((((((tN (wI (((((ln s6.2.2.2) : Nat) : Int)) - 1))) - 0) : Nat) : Int)) - 1)) (((tN (wI (((((ln s6.2.2.2) : Nat) : Int)) - 1))) - 0))).bind fun j20 =>
     (s6.2.2.2[(0 + j20)]?).bind fun x21 =>
     (D_size_add ([x21.2, r12.1])).bind fun r22 =>
     (ix (wI ((((((tN (wI (((((ln s6.2.2.2) : Nat) : Int)) - 1))) - 0) : Nat) : Int)) - 1)) (((tN (wI (((((ln s6.2.2.2) : Nat) : Int)) - 1))) - 0))).bind fun j23 =>
     (s6.2.2.2[(0 + j23)]?).bind fun x24 =>
     some (.inl ((wI (s6.1 + 1), (List.set s6.2.1 j16 r12.1), (List.set s6.2.2.1 j18 x15.2), (List.take (((tN (wI (((((ln s6.2.2.2) : Nat) : Int)) - 1))) - 0)) ((List.set s6.2.2.2 (0 + j23) ((x24.1, r22)))))))))))
    ((D_opcode_Writes x7.1 x7.2.1 x7.2.2.1 x7.2.2.2.1 x7.2.2.2.2).bind fun r25 =>
    cond (r25.2)
     ((ix s6.1 ((ln s6.2.1))).bind fun j26 =>
     (s6.2.1[j26]?).bind fun x27 =>
     (s6.2.2.2[j8]?).bind fun x28 =>
     (s6.2.2.2[j8]?).bind fun x29 =>
     some (.inl ((wI (s6.1 + 1), (List.set s6.2.1 j26 1), s6.2.2.1, (List.set s6.2.2.2 j8 ((x29.1, wI (x28.2 + 1))))))))
     (some (.inl ((wI (s6.1 + 1), s6.2.1, s6.2.2.1, s6.2.2.2)))))))
  (some (.inr (((0, s6.2.1, s6.2.2.1, s6.2.2.2)))))
/- backstitch/size.measure -/
def D_size_measure (a0 : LO) : Op (Int × Int × (List Int) × List Int) :=
 (D_nest_Match a0).bind fun r1 =>
 cond (decide (r1.1 ≠ 0))
  (some ((0, r1.1, [], [])))
  (gd (Nat.beq 1 (Sh.w (.int .i64)) && decide (0 ≤ ((((ln a0) : Nat) : Int))) && decide (((((ln a0) : Nat) : Int)) ≤ ((((ln a0) : Nat) : Int))) && decide ((8 : Int) * ((((ln a0) : Nat) : Int)) ≤ 140737488355328) && Nat.ble 1 8) (gd (Nat.beq 1 (Sh.w (.int .i64)) && decide (0 ≤ ((((ln a0) : Nat) : Int))) && decide (((((ln a0) : Nat) : Int)) ≤ ((((ln a0) : Nat) : Int))) && decide ((8 : Int) * ((((ln a0) : Nat) : Int)) ≤ 140737488355328) && Nat.ble 1 8) ((loopN (D_size_measure_L0 a0) BIG ((0, (List.replicate (tN ((((ln a0) : Nat) : Int))) (0 : Int)), (List.replicate (tN ((((ln a0) : Nat) : Int))) (0 : Int)), [(0, 0)]))).bind fun r30 =>
  (((cond (decide (r30.1 = 0))
   ((ix 0 ((ln r30.2.2.2))).bind fun j31 =>
   (r30.2.2.2[j31]?).bind fun x32 =>
   cond (decide (65536 < x32.2))
    (some 9)
    (some r30.1))
   (some r30.1)) : Op (Int))).bind fun s33 =>
  cond (decide (s33 ≠ 0))
   (some ((0, s33, [], [])))
   ((ix 0 ((ln r30.2.2.2))).bind fun j34 =>
   (r30.2.2.2[j34]?).bind fun x35 =>
   some ((x35.2, 0, r30.2.1, r30.2.2.1))))))
/- backstitch/size.Writes -/
def D_size_Writes (a0 : LO) : Op (Int × Int) :=
 (D_size_measure a0).bind fun r1 =>
 some ((r1.1, r1.2.1))
/- (backstitch/check.program).writes -/
def D_check_program_writes (a0 : Int) (a1 : LO) : Op (Int) :=
 (D_size_Writes a1).bind fun r2 =>
 some r2.2
/- backstitch/check.Pair -/
def D_check_Pair (a0 : Int) (a1 : LO) (a2 : Int) (a3 : LO) : Op (Int) :=
 (D_check_program_form a0 a1).bind fun r4 =>
 cond (decide (r4 ≠ 0))
  (some r4)
  ((D_check_program_form a2 a3).bind fun r5 =>
  cond (decide (r5 ≠ 0))
   (some r5)
   ((D_check_program_registers a0 a1).bind fun r6 =>
   cond (decide (r6 ≠ 0))
    (some r6)
    ((D_check_program_registers a2 a3).bind fun r7 =>
    cond (decide (r7 ≠ 0))
     (some r7)
     ((D_check_program_depth a0 a1).bind fun r8 =>
     cond (decide (r8 ≠ 0))
      (some r8)
      ((D_check_program_depth a2 a3).bind fun r9 =>
      cond (decide (r9 ≠ 0))
       (some r9)
       ((D_check_program_writes a0 a1).bind fun r10 =>
       cond (decide (r10 ≠ 0))
        (some r10)
        ((D_check_program_writes a2 a3).bind fun r11 =>
        cond (decide (r11 ≠ 0))
         (some r11)
         (some 0))))))))
/- (backstitch/header.header).programs -/
def D_header_header_programs (a0 : Int) (a1 a2 : List Int) (a3 : Int) (a4 : LO) (a5 : Int) (a6 : LO) (a7 a8 : Int) : Op (Int) :=
 (D_check_Pair a3 a4 a5 a6).bind fun r9 =>
 some r9
/- backstitch/check.Dims -/
def D_check_Dims (a0 : Int) (a1 : LO) (a2 : Int) (a3 : LO) (a4 a5 : Int) : Op (Int) :=
 (((cond (decide (a4 < 1))
  (some true)
  (cond (decide (64 < a4))
   (some true)
   (cond (decide (a5 < 0))
    (some true)
    (some (decide (64 < a5)))))) : Op (Bool))).bind fun s6 =>
 cond (s6)
  ((D_check_fail true 10).bind fun r7 =>
  some r7)
  (cond (decide (a0 < (wI ((wI (a4 + a5)) + 1))))
   ((D_check_fail true 10).bind fun r8 =>
   some r8)
   ((D_check_fail (decide (a2 < (wI (a4 + a5)))) 10).bind fun r9 =>
   some r9))
/- (backstitch/header.header).dims -/
def D_header_header_dims (a0 : Int) (a1 a2 : List Int) (a3 : Int) (a4 : LO) (a5 : Int) (a6 : LO) (a7 a8 : Int) : Op (Int) :=
 (D_check_Dims a3 a4 a5 a6 ((((ln a1) : Nat) : Int)) ((((ln a2) : Nat) : Int))).bind fun r9 =>
 some r9
/- (backstitch/header.header).length -/
def D_header_header_length (a0 : Int) (a1 a2 : List Int) (a3 : Int) (a4 : LO) (a5 : Int) (a6 : LO) (a7 a8 : Int) : Op (Int) :=
 (((cond (decide (a0 = 2))
  (some 0)
  (some 65535)) : Op (Int))).bind fun s9 =>
 cond (decide (a7 < 0))
  ((D_header_fail true 11).bind fun r10 =>
  some r10)
  ((D_header_fail (decide (s9 < a7)) 11).bind fun r11 =>
  some r11)
/- (backstitch/header.header).budget -/
def D_header_header_budget (a0 : Int) (a1 a2 : List Int) (a3 : Int) (a4 : LO) (a5 : Int) (a6 : LO) (a7 a8 : Int) : Op (Int) :=
 cond (decide (a8 < 0))
  ((D_header_fail true 12).bind fun r9 =>
  some r9)
  ((D_header_fail (decide (1048576 < a8)) 12).bind fun r10 =>
  some r10)
def D_header_Check_L0 (a0 : Int) (a1 a2 : List Int) (a3 : Int) (a4 : LO) (a5 : Int) (a6 : LO) (a7 a8 s10 : Int) : Op ((Int) ⊕ ((Int) ⊕ (Unit))) :=
 cond (decide (s10 < 5))
  ((ix s10 5).bind fun j11 =>
  cond (Nat.beq j11 0)
   ((D_header_header_mode a0 a1 a2 a3 a4 a5 a6 a7 a8).bind fun r12 =>
   cond (decide (r12 ≠ 0))
    (some (.inr (((.inl r12)))))
    (some (.inl (wI (s10 + 1)))))
   (cond (Nat.beq ((j11 - 1)) 0)
    ((D_header_header_programs a0 a1 a2 a3 a4 a5 a6 a7 a8).bind fun r13 =>
    cond (decide (r13 ≠ 0))
     (some (.inr (((.inl r13)))))
     (some (.inl (wI (s10 + 1)))))
    (cond (Nat.beq (((j11 - 1) - 1)) 0)
     ((D_header_header_dims a0 a1 a2 a3 a4 a5 a6 a7 a8).bind fun r14 =>
     cond (decide (r14 ≠ 0))
      (some (.inr (((.inl r14)))))
      (some (.inl (wI (s10 + 1)))))
     (cond (Nat.beq ((((j11 - 1) - 1) - 1)) 0)
      ((D_header_header_length a0 a1 a2 a3 a4 a5 a6 a7 a8).bind fun r15 =>
      cond (decide (r15 ≠ 0))
       (some (.inr (((.inl r15)))))
       (some (.inl (wI (s10 + 1)))))
      (cond (Nat.beq (((((j11 - 1) - 1) - 1) - 1)) 0)
       ((D_header_header_budget a0 a1 a2 a3 a4 a5 a6 a7 a8).bind fun r16 =>
       cond (decide (r16 ≠ 0))
        (some (.inr (((.inl r16)))))
        (some (.inl (wI (s10 + 1)))))
       none)))))
  (some (.inr (((.inr ())))))
/- backstitch/header.Check -/
def D_header_Check (a0 : Int) (a1 a2 : List Int) (a3 : Int) (a4 : LO) (a5 : Int) (a6 : LO) (a7 a8 : Int) : Op (Int) :=
 (loopN (D_header_Check_L0 a0 a1 a2 a3 a4 a5 a6 a7 a8) BIG 0).bind fun r17 =>
 caseS r17 (fun u'18 =>
  some u'18)
  (fun w19 =>
  some 0)
/- backstitch/header.Decode -/
def D_header_Decode (a0 : List Int) : Op (Int × Int × (LO) × Int × (LO) × Int × Int × Int × (List Int) × (List Int) × List Int) :=
 cond (decide (((((ln a0) : Nat) : Int)) < 5))
  (some ((0, 0, [], 0, [], 0, 0, 4, [], [], [])))
  (gd (cutG 5 ((((ln a0) : Nat) : Int)) ((ln a0))) ((D_words_Split ((cutL a0 5 ((((ln a0) : Nat) : Int)))) 4).bind fun r1 =>
  cond (decide (r1.1 ≠ 0))
   (some ((0, 0, [], 0, [], 0, 0, r1.1, [], [], [])))
   ((rd a0 0).bind fun x2 =>
   cond (decide (x2 < 1))
    (some ((0, 0, [], 0, [], 0, 0, 5, [], [], [])))
    ((rd a0 0).bind fun x3 =>
    cond (decide (3 < x3))
     (some ((0, 0, [], 0, [], 0, 0, 5, [], [], [])))
     (gd (cutG 1 3 ((ln a0))) ((ix 0 ((ln r1.2.1))).bind fun j4 =>
     (r1.2.1[j4]?).bind fun x5 =>
     (ix 1 ((ln r1.2.1))).bind fun j6 =>
     (r1.2.1[j6]?).bind fun x7 =>
     (D_header_programs ((cutL a0 1 3)) ([x5, x7])).bind fun r8 =>
     cond (decide (r8.1 ≠ 0))
      (some ((0, 0, [], 0, [], 0, 0, r8.1, [], [], [])))
      ((rd a0 0).bind fun x9 =>
      (ix 0 ((ln r8.2))).bind fun j10 =>
      (r8.2[j10]?).bind fun x11 =>
      (ix 1 ((ln r8.2))).bind fun j12 =>
      (r8.2[j12]?).bind fun x13 =>
      (ix 2 ((ln r1.2.1))).bind fun j14 =>
      (r1.2.1[j14]?).bind fun x15 =>
      (ix 3 ((ln r1.2.1))).bind fun j16 =>
      (r1.2.1[j16]?).bind fun x17 =>
      (rd a0 3).bind fun x18 =>
      (rd a0 4).bind fun x19 =>
      (D_slices_Clone_uint64_uint64 x15).bind fun r20 =>
      (D_slices_Clone_uint64_uint64 x17).bind fun r21 =>
      (D_header_number x18).bind fun r22 =>
      (D_header_number x19).bind fun r23 =>
      (((cond (decide ((wI (x9)) = 2))
       (some ((wI (x9), x11.1, x11.2, x13.1, x13.2, 0, r23, r1.2.1, r1.2.2, r8.2, r20, r21)))
       (some ((wI (x9), x11.1, x11.2, x13.1, x13.2, r22, r23, r1.2.1, r1.2.2, r8.2, r20, r21)))) : Op (Int × Int × (LO) × Int × (LO) × Int × Int × (List (List Int)) × (List Int) × (List (Int × LO)) × (List Int) × List Int))).bind fun ⟨s24_0, s24_1, s24_2, s24_3, s24_4, s24_5, s24_6, s24_7, s24_8, s24_9, s24_10, s24_11⟩ =>
      (D_header_Check s24_0 s24_10 s24_11 s24_1 s24_2 s24_3 s24_4 s24_5 s24_6).bind fun r25 =>
      cond (decide (r25 ≠ 0))
       (some ((0, 0, [], 0, [], 0, 0, r25, [], [], [])))
       (some ((s24_0, s24_1, s24_2, s24_3, s24_4, s24_5, s24_6, 0, s24_10, s24_11, s24_8))))))))))
/- backstitch/plan.Of -/
def D_plan_Of (a0 : Int) (a1 a2 : List Int) (a3 : Int) (a4 : LO) (a5 : Int) (a6 : LO) (a7 a8 : Int) : Op (Int × Int) :=
 (D_header_Check a0 a1 a2 a3 a4 a5 a6 a7 a8).bind fun r9 =>
 cond (decide (r9 ≠ 0))
  (some ((0, 0)))
  ((D_size_Writes a4).bind fun r10 =>
  (D_size_Writes a6).bind fun r11 =>
  some ((r10.1, r11.1)))
/- backstitch/plan.sizes -/
def D_plan_sizes (a0 : Int) (a1 a2 : List Int) (a3 : Int) (a4 : LO) (a5 : Int) (a6 : LO) (a7 a8 : Int) : Op (Int × Int × Int × Int × Int × Int × Int × Int × Int) :=
 (D_plan_Of a0 a1 a2 a3 a4 a5 a6 a7 a8).bind fun r9 =>
 (((cond (decide (a0 = 3))
  (some ((r9.2, wI (r9.1 + a3))))
  (some ((wI (r9.1 + r9.2), wI (((((ln a1) : Nat) : Int)) + 1))))) : Op (Int × Int))).bind fun s10 =>
 some (((((ln a2) : Nat) : Int), (((ln a1) : Nat) : Int), a3, a5, max a3 a5, (((ln a1) : Nat) : Int), (((ln a2) : Nat) : Int), s10.1, s10.2))
def D_plan_lay_L0 (a0 a1 a2 a3 a4 a5 a6 a7 a8 : Int) (s13 : Int × Int × List Int) : Op ((Int × Int × List Int) ⊕ (Int × List Int)) :=
 cond (decide (s13.1 < 8))
  ((ix s13.1 9).bind fun j14 =>
  gd (fits (ln s13.2.2 + 1) 8) (some (.inl ((wI (s13.1 + 1), wI (s13.2.1 + ((List.getD [a0, a1, a2, a3, a4, a5, a6, a7, a8] j14 0))), (s13.2.2 ++ [s13.2.1]))))))
  (some (.inr (((s13.2.1, s13.2.2)))))
/- backstitch/plan.lay -/
def D_plan_lay (a0 a1 a2 a3 a4 a5 a6 a7 a8 a9 : Int) : Op (List Int) :=
 (loopN (D_plan_lay_L0 a0 a1 a2 a3 a4 a5 a6 a7 a8) BIG ((0, 0, []))).bind fun r15 =>
 gd (fits (ln r15.2 + 1) 8) (gd (fits (ln ((r15.2 ++ [r15.1])) + 1) 8) (some (((r15.2 ++ [r15.1]) ++ [wI (r15.1 + (wI (a8 * a9)))]))))
/- backstitch/plan.need -/
def D_plan_need (a0 a1 a2 a3 a4 a5 a6 a7 a8 a9 : Int) : Op (Int) :=
 (D_plan_lay a0 a1 a2 a3 a4 a5 a6 a7 a8 a9).bind fun r10 =>
 (ix 9 ((ln r10))).bind fun j11 =>
 (r10[j11]?).bind fun x12 =>
 some x12
def D_plan_Make_L0 (r10_0 : Int) (r10_1 : Int) (r10_2 : Int) (r10_3 : Int) (r10_4 : Int) (r10_5 : Int) (r10_6 : Int) (r10_7 : Int) (r10_8 : Int) (s18 : Int × Int × Int × Int × Int) : Op ((Int × Int × Int × Int × Int) ⊕ (Int × Int × Int × Int)) :=
 cond (decide (s18.1 < 7))
  ((ix s18.1 9).bind fun j19 =>
  some (.inl ((wI (s18.1 + 1), wI (s18.2.1 + ((List.getD [r10_0, r10_1, r10_2, r10_3, r10_4, r10_5, r10_6, r10_7, r10_8] j19 0))), s18.2.2.1, s18.2.2.2.1, s18.2.2.2.2))))
  (some (.inr (((s18.2.1, s18.2.2.1, s18.2.2.2.1, s18.2.2.2.2)))))
/- backstitch/plan.Make -/
def D_plan_Make (a0 : Int) (a1 a2 : List Int) (a3 : Int) (a4 : LO) (a5 : Int) (a6 : LO) (a7 a8 : Int) : Op (Int × Int × Int × Int × Int) :=
 (D_header_Check a0 a1 a2 a3 a4 a5 a6 a7 a8).bind fun r9 =>
 cond (decide (r9 ≠ 0))
  (some ((0, 0, 0, 0, r9)))
  ((D_plan_sizes a0 a1 a2 a3 a4 a5 a6 a7 a8).bind fun ⟨r10_0, r10_1, r10_2, r10_3, r10_4, r10_5, r10_6, r10_7, r10_8⟩ =>
  (((cond (decide (a0 = 3))
   (some a7)
   (some 1)) : Op (Int))).bind fun s11 =>
  (D_plan_need r10_0 r10_1 r10_2 r10_3 r10_4 r10_5 r10_6 r10_7 r10_8 s11).bind fun r12 =>
  cond (decide (a8 < r12))
   (some ((0, 0, 0, 0, 13)))
   ((loopN (D_plan_Make_L0 r10_0 r10_1 r10_2 r10_3 r10_4 r10_5 r10_6 r10_7 r10_8) BIG ((0, 0, r10_7, r10_8, s11))).bind fun r20 =>
   cond (decide (a0 ≠ 3))
    (gd (decide (r20.2.2.1 ≠ 0)) (some ((r20.1, r20.2.1, r20.2.2.1, wI (Int.tdiv (wI ((wI (a8 - r20.1)) - r20.2.1)) r20.2.2.1), 0))))
    (some ((r20.1, r20.2.1, r20.2.2.1, r20.2.2.2, 0)))))
def D_slices_Index_bool_bool_L0 (a0 : List Bool) (a1 : Bool) (s3 : Int) : Op ((Int) ⊕ ((Int) ⊕ (Unit))) :=
 cond (decide (s3 < ((((ln a0) : Nat) : Int))))
  ((rd a0 s3).bind fun x4 =>
  cond (a1 == x4)
   (some (.inr (((.inl s3)))))
   (some (.inl (wI (s3 + 1)))))
  (some (.inr (((.inr ())))))
/- slices.Index[[]bool,bool] -/
def D_slices_Index_bool_bool (a0 : List Bool) (a1 : Bool) : Op (Int) :=
 (loopN (D_slices_Index_bool_bool_L0 a0 a1) BIG 0).bind fun r5 =>
 caseS r5 (fun u'6 =>
  some u'6)
  (fun w7 =>
  some (-1))
/- backstitch/script.read -/
def D_script_read (a0 : List Int) : Op (Int × Int × (LO) × Int × (LO) × Int × Int × (List Int) × Int × (List Int) × (List Int) × List Bool) :=
 (D_script_framed a0).bind fun r1 =>
 cond (decide (r1.2.1 ≠ 0))
  (some ((0, 0, [], 0, [], 0, 0, [], r1.2.1, [], [], [])))
  ((D_header_Decode a0).bind fun ⟨r2_0, r2_1, r2_2, r2_3, r2_4, r2_5, r2_6, r2_7, r2_8, r2_9, r2_10⟩ =>
  cond (decide (r2_7 ≠ 0))
   (some ((0, 0, [], 0, [], 0, 0, [], r2_7, [], [], [])))
   ((D_plan_Make r2_0 r2_8 r2_9 r2_1 r2_2 r2_3 r2_4 r2_5 r2_6).bind fun r3 =>
   cond (decide (r3.2.2.2.2 ≠ 0))
    (some ((0, 0, [], 0, [], 0, 0, [], r3.2.2.2.2, [], [], [])))
    (((((D_slices_Index_bool_bool r1.2.2 false).bind fun r4 =>
    cond (decide (0 ≤ r4))
     (gd (cutG 0 r4 ((ln r1.2.2))) (some ((r2_0, r2_1, r2_2, r2_3, r2_4, r2_5, r2_6, r1.1, r2_8, r2_9, r2_10, (List.take (((tN r4) - 0)) r1.2.2)))))
     (some ((r2_0, r2_1, r2_2, r2_3, r2_4, r2_5, r2_6, r1.1, r2_8, r2_9, r2_10, r1.2.2)))) : Op (Int × Int × (LO) × Int × (LO) × Int × Int × (List Int) × (List Int) × (List Int) × (List Int) × List Bool))).bind fun ⟨s5_0, s5_1, s5_2, s5_3, s5_4, s5_5, s5_6, s5_7, s5_8, s5_9, s5_10, s5_11⟩ =>
    cond (decide (s5_0 = 2))
     (cond (decide (65536 ≤ ((((ln s5_11) : Nat) : Int))))
      (some ((0, 0, [], 0, [], 0, 0, [], 14, [], [], [])))
      (some ((s5_0, s5_1, s5_2, s5_3, s5_4, s5_5, s5_6, s5_7, 0, s5_8, s5_9, s5_11))))
     (some ((s5_0, s5_1, s5_2, s5_3, s5_4, s5_5, s5_6, s5_7, 0, s5_8, s5_9, s5_11))))))
/- slices.Clone[[]backstitch/api.Op,backstitch/api.Op] -/
def D_slices_Clone_api_Op_api_Op (l : LO) : Op (LO) := gd (fits (0 + l.length) 40) (some l)
/- backstitch/plan.Places -/
def D_plan_Places (a0 : Int) (a1 a2 : List Int) (a3 : Int) (a4 : LO) (a5 : Int) (a6 : LO) (a7 a8 : Int) : Op (Int × List Int) :=
 (D_plan_Make a0 a1 a2 a3 a4 a5 a6 a7 a8).bind fun r9 =>
 cond (decide (r9.2.2.2.2 ≠ 0))
  (some ((r9.2.2.2.2, [])))
  ((D_plan_sizes a0 a1 a2 a3 a4 a5 a6 a7 a8).bind fun ⟨r10_0, r10_1, r10_2, r10_3, r10_4, r10_5, r10_6, r10_7, r10_8⟩ =>
  (D_plan_lay r10_0 r10_1 r10_2 r10_3 r10_4 r10_5 r10_6 r10_7 r10_8 r9.2.2.2.1).bind fun r11 =>
  some ((0, r11)))
/- backstitch/drive.plans -/
def D_drive_plans (a0 : Int) (a1 a2 : List Int) (a3 : Int) (a4 : LO) (a5 : Int) (a6 : LO) (a7 a8 : Int) : Op ((Int) ⊕ (Int × Int × Int × Int × Int × Int × Int × Int × Int × Int × (List Int) × (List Int) × (LO) × (LO) × List Int)) :=
 (D_plan_Make a0 a1 a2 a3 a4 a5 a6 a7 a8).bind fun r9 =>
 cond (decide (r9.2.2.2.2 ≠ 0))
  (some ((.inl r9.2.2.2.2)))
  ((D_slices_Clone_api_Op_api_Op a4).bind fun r10 =>
  (D_slices_Clone_api_Op_api_Op a6).bind fun r11 =>
  (D_slices_Clone_uint64_uint64 a1).bind fun r12 =>
  (D_slices_Clone_uint64_uint64 a2).bind fun r13 =>
  (D_plan_Places a0 a1 a2 a3 a4 a5 a6 a7 a8).bind fun r14 =>
  some ((.inr ((r9.1, r9.2.1, r9.2.2.1, r9.2.2.2.1, a0, a3, a5, a7, a8, a7, r12, r13, r10, r11, r14.2)))))
/- backstitch/arena.right -/
def D_arena_right (a0 : Int) : Op (Int) :=
 cond (decide (a0 < 1))
  (some 2)
  (cond (decide (1048576 < a0))
   (some 12)
   (some 0))
/- backstitch/arena.New -/
def D_arena_New (a0 : Int) : Op (List Int) :=
 (D_arena_right a0).bind fun r1 =>
 cond (decide (r1 ≠ 0))
  none
  (gd (Nat.beq 1 (Sh.w (.int .u64)) && decide (0 ≤ a0) && decide (a0 ≤ a0) && decide ((8 : Int) * a0 ≤ 140737488355328) && Nat.ble 1 8) (some ((List.replicate (tN a0) (0 : Int)))))
/- backstitch/meter.At -/
def D_meter_At (a0 a1 a2 : Int) : Op ((Unit) ⊕ (Int × Int × Int)) :=
 cond (decide (a1 < 0))
  (some ((.inl ())))
  (cond (decide (a2 < a1))
   (some ((.inl ())))
   (cond (decide (a0 < a2))
    (some ((.inl ())))
    (some ((.inr ((a1, a2, a0)))))))
/- backstitch/meter.New -/
def D_meter_New (a0 : Int) : Op (Int × Int × Int) :=
 (D_meter_At a0 0 0).bind fun r1 =>
 caseS r1 (fun u'2 =>
  none)
  (fun w3 =>
  some ((w3.1, w3.2.1, w3.2.2)))
/- (*backstitch/meter.counter).within -/
def D_meter_counter_within (a0 a1 a2 a3 a4 : Int) : Op (Bool) :=
 some (decide (a0 ≤ (wI (a1 - a2))))
/- (*backstitch/meter.counter).add -/
def D_meter_counter_add (a0 a1 a2 a3 : Int) : Op (Int × Int × Int) :=
 some ((wI (a1 + a0), max a2 (wI (a1 + a0)), a3))
/- (*backstitch/meter.Meter).Hold -/
def D_meter_Meter_Hold (a0 a1 a2 a3 : Int) : Op (Int × Int × Int × Int) :=
 cond (decide (a0 < 0))
  (some ((2, a1, a2, a3)))
  ((D_meter_counter_within a0 a3 a1 a2 a3).bind fun r4 =>
  cond (!r4)
   (some ((15, a1, a2, a3)))
   ((D_meter_counter_add a0 a1 a2 a3).bind fun r5 =>
   some ((0, r5.1, r5.2.1, r5.2.2))))
/- (*backstitch/arena.Arena).Left -/
def D_arena_Arena_Left (a0 : Int) (a1 : List Int) : Op (Int) :=
 some (wI (((((ln a1) : Nat) : Int)) - a0))
/- (*backstitch/arena.Arena).Take -/
def D_arena_Arena_Take (a0 a1 : Int) (a2 : List Int) : Op (Int × Int × Int) :=
 cond (decide (a0 < 0))
  (some ((0, 2, a1)))
  ((D_arena_Arena_Left a1 a2).bind fun r3 =>
  cond (decide (r3 < a0))
   (some ((0, 15, a1)))
   (some ((a1, 0, wI (a1 + a0)))))
/- (*backstitch/drive.Driver).baseline -/
def D_drive_Driver_baseline (a0 a1 a2 a3 a4 a5 a6 a7 a8 a9 a10 a11 a12 a13 a14 a15 a16 : Int) (a17 a18 : List Int) (a19 a20 : LO) (a21 : List Int) (a22 a23 a24 a25 : Int) (a26 : List Int) : Op (Bool) :=
 some (decide (a4 = 3))
/- (backstitch/slots.place).may -/
def D_slots_place_may (a0 a1 a2 : Int) : Op (Bool) :=
 cond (decide (0 ≤ a1))
  (cond (decide (a1 ≤ 1048576))
   (cond (decide (1 ≤ a2))
    (some (decide (a2 ≤ 64)))
    (some false))
   (some false))
  (some false)
/- (backstitch/slots.place).size -/
def D_slots_place_size (a0 a1 a2 : Int) : Op (Int) :=
 some (wI (a2 + 1))
/- (*backstitch/arena.Arena).Write -/
def D_arena_Arena_Write (a0 : Int) (a1 : List Int) (a2 : Int) (a3 : List Int) : Op (Int × List Int) :=
 cond (decide (a0 < 0))
  (some ((2, a3)))
  (cond (decide (((((ln a1) : Nat) : Int)) < 0))
   (some ((2, a3)))
   (cond (decide (a2 < a0))
    (some ((2, a3)))
    (cond (decide ((wI (a2 - a0)) < ((((ln a1) : Nat) : Int))))
     (some ((2, a3)))
     (gd (cutG a0 (wI (a0 + ((((ln a1) : Nat) : Int)))) ((ln a3))) (some ((0, (blit a3 ((tN a0)) (((tN (wI (a0 + ((((ln a1) : Nat) : Int))))) - (tN a0))) a1))))))))
/- backstitch/slots.New -/
def D_slots_New (a0 a1 a2 : Int) (a3 : List Int) : Op (Int × (List Int) × Int × Int × Int) :=
 (D_slots_place_may 0 a0 a1).bind fun r4 =>
 cond (!r4)
  none
  ((D_slots_place_size 0 a0 a1).bind fun r5 =>
  (D_arena_Arena_Take (wI (a0 * r5)) a2 a3).bind fun r6 =>
  cond (decide (r6.2.1 ≠ 0))
   none
   ((D_slots_place_size r6.1 a0 a1).bind fun r7 =>
   gd (Nat.beq 1 (Sh.w (.int .u64)) && decide (0 ≤ (wI (a0 * r7))) && decide ((wI (a0 * r7)) ≤ (wI (a0 * r7))) && decide ((8 : Int) * (wI (a0 * r7)) ≤ 140737488355328) && Nat.ble 1 8) ((D_arena_Arena_Write r6.1 ((List.replicate (tN (wI (a0 * r7))) (0 : Int))) r6.2.2 a3).bind fun r8 =>
   some ((r6.2.2, r8.2, r6.1, a0, a1)))))
/- (*backstitch/drive.Driver).put -/
def D_drive_Driver_put (a0 : Int) (a1 : List Int) (a2 a3 a4 a5 a6 a7 a8 a9 a10 a11 a12 a13 a14 a15 a16 a17 a18 : Int) (a19 a20 : List Int) (a21 a22 : LO) (a23 : List Int) (a24 a25 a26 a27 : Int) (a28 : List Int) : Op (List Int) :=
 (ix a0 ((ln a23))).bind fun j29 =>
 (a23[j29]?).bind fun x30 =>
 (D_arena_Arena_Write x30 a1 a24 a28).bind fun r31 =>
 some r31.2
/- (*backstitch/drive.Driver).put -/
def D_drive_Driver_put_2 (a0 : Int) (a1 : List Int) (a2 a3 a4 a5 a6 a7 a8 a9 a10 a11 a12 a13 a14 a15 a16 a17 a18 : Int) (a19 a20 : List Int) (a21 a22 : LO) (a23 : List Int) (a24 a25 a26 a27 a28 a29 a30 : Int) (a31 : List Int) : Op (List Int) :=
 (ix a0 ((ln a23))).bind fun j32 =>
 (a23[j32]?).bind fun x33 =>
 (D_arena_Arena_Write x33 a1 a24 a31).bind fun r34 =>
 some r34.2
/- backstitch/drive.New -/
def D_drive_New (a0 : Int) (a1 a2 : List Int) (a3 : Int) (a4 : LO) (a5 : Int) (a6 : LO) (a7 a8 : Int) : Op ((Int) ⊕ ((Int × Int × Int × Int × Int × Int × Int × Int × Int × Int × (List Int) × (List Int) × (LO) × (LO) × (List Int) × Int × Int × Int × Int × List Int) ⊕ (Int × Int × Int × Int × Int × Int × Int × Int × Int × Int × (List Int) × (List Int) × (LO) × (LO) × (List Int) × Int × Int × Int × Int × Int × Int × Int × List Int))) :=
 (D_drive_plans a0 a1 a2 a3 a4 a5 a6 a7 a8).bind fun r9 =>
 caseS r9 (fun u'10 =>
  cond (decide (u'10 ≠ 0))
   (some ((.inl u'10)))
   ((D_arena_New a8).bind fun r11 =>
   none))
  (fun ⟨w12_0, w12_1, w12_2, w12_3, w12_4, w12_5, w12_6, w12_7, w12_8, w12_9, w12_10, w12_11, w12_12, w12_13, w12_14⟩ =>
  (D_arena_New a8).bind fun r13 =>
  (D_meter_New a8).bind fun r14 =>
  (D_meter_Meter_Hold w12_0 r14.1 r14.2.1 r14.2.2).bind fun r15 =>
  (ix 8 ((ln w12_14))).bind fun j16 =>
  (w12_14[j16]?).bind fun x17 =>
  (D_arena_Arena_Take x17 0 r13).bind fun r18 =>
  ((((D_drive_Driver_baseline w12_0 w12_1 w12_2 w12_3 w12_4 w12_5 w12_6 w12_7 w12_8 w12_9 0 (-1) 0 0 0 0 0 w12_10 w12_11 w12_12 w12_13 w12_14 r18.2.2 r15.2.1 r15.2.2.1 r15.2.2.2 r13).bind fun r19 =>
  cond (r19)
   ((D_arena_Arena_Take (wI (w12_3 * w12_2)) r18.2.2 r13).bind fun r20 =>
   some ((.inl ((w12_0, w12_1, w12_2, w12_3, w12_4, w12_5, w12_6, w12_7, w12_8, w12_9, r20.2.2, r13)))))
   ((D_slots_New w12_3 ((((ln a1) : Nat) : Int)) r18.2.2 r13).bind fun r21 =>
   some ((.inr ((w12_0, w12_1, w12_2, w12_3, w12_4, w12_5, w12_6, w12_7, w12_8, w12_9, r21.1, r21.2.1, r21.2.2.1, r21.2.2.2.1, r21.2.2.2.2)))))) : Op ((Int × Int × Int × Int × Int × Int × Int × Int × Int × Int × Int × List Int) ⊕ (Int × Int × Int × Int × Int × Int × Int × Int × Int × Int × Int × (List Int) × Int × Int × Int)))).bind fun s22 =>
  caseS s22 (fun ⟨u'23_0, u'23_1, u'23_2, u'23_3, u'23_4, u'23_5, u'23_6, u'23_7, u'23_8, u'23_9, u'23_10, u'23_11⟩ =>
   (D_drive_Driver_put 0 a2 u'23_0 u'23_1 u'23_2 u'23_3 u'23_4 u'23_5 u'23_6 u'23_7 u'23_8 u'23_9 0 (-1) 0 0 0 0 0 w12_10 w12_11 w12_12 w12_13 w12_14 u'23_10 r15.2.1 r15.2.2.1 r15.2.2.2 u'23_11).bind fun r24 =>
   (D_drive_Driver_put 1 a1 u'23_0 u'23_1 u'23_2 u'23_3 u'23_4 u'23_5 u'23_6 u'23_7 u'23_8 u'23_9 0 (-1) 0 0 0 0 0 w12_10 w12_11 w12_12 w12_13 w12_14 u'23_10 r15.2.1 r15.2.2.1 r15.2.2.2 r24).bind fun r25 =>
   some ((.inr ((.inl ((u'23_0, u'23_1, u'23_2, u'23_3, u'23_4, u'23_5, u'23_6, u'23_7, u'23_8, u'23_9, w12_10, w12_11, w12_12, w12_13, w12_14, u'23_10, r15.2.1, r15.2.2.1, r15.2.2.2, r25)))))))
   (fun ⟨w26_0, w26_1, w26_2, w26_3, w26_4, w26_5, w26_6, w26_7, w26_8, w26_9, w26_10, w26_11, w26_12, w26_13, w26_14⟩ =>
   (D_drive_Driver_put_2 0 a2 w26_0 w26_1 w26_2 w26_3 w26_4 w26_5 w26_6 w26_7 w26_8 w26_9 0 (-1) 0 0 0 0 0 w12_10 w12_11 w12_12 w12_13 w12_14 w26_10 w26_12 w26_13 w26_14 r15.2.1 r15.2.2.1 r15.2.2.2 w26_11).bind fun r27 =>
   (D_drive_Driver_put_2 1 a1 w26_0 w26_1 w26_2 w26_3 w26_4 w26_5 w26_6 w26_7 w26_8 w26_9 0 (-1) 0 0 0 0 0 w12_10 w12_11 w12_12 w12_13 w12_14 w26_10 w26_12 w26_13 w26_14 r15.2.1 r15.2.2.1 r15.2.2.2 r27).bind fun r28 =>
   some ((.inr ((.inr ((w26_0, w26_1, w26_2, w26_3, w26_4, w26_5, w26_6, w26_7, w26_8, w26_9, w12_10, w12_11, w12_12, w12_13, w12_14, w26_10, w26_12, w26_13, w26_14, r15.2.1, r15.2.2.1, r15.2.2.2, r28))))))))
/- backstitch/engine.of -/
def D_engine_of (a0 : Int) (a1 a2 : List Int) (a3 : Int) (a4 : LO) (a5 : Int) (a6 : LO) (a7 a8 : Int) : Op ((Int × Bool × Bool) ⊕ ((Int × Bool × Bool) ⊕ ((Int × Bool × Bool) ⊕ (Int × Bool × Bool)))) :=
 (ix a0 4).bind fun j9 =>
 cond (Nat.beq j9 0)
  (some ((.inl ((a0, false, false)))))
  (cond (Nat.beq ((j9 - 1)) 0)
   (some ((.inr ((.inl ((a0, false, false)))))))
   (cond (Nat.beq (((j9 - 1) - 1)) 0)
    (some ((.inr ((.inr ((.inl ((a0, false, false)))))))))
    (cond (Nat.beq ((((j9 - 1) - 1) - 1)) 0)
     (some ((.inr ((.inr ((.inr ((a0, false, false)))))))))
     none)))
/- backstitch/engine.of -/
def D_engine_of_2 (a0 : Int) (a1 a2 : List Int) (a3 : Int) (a4 : LO) (a5 : Int) (a6 : LO) (a7 a8 a9 a10 a11 a12 a13 a14 a15 a16 a17 a18 a19 a20 a21 a22 a23 a24 a25 : Int) (a26 a27 : List Int) (a28 a29 : LO) (a30 : List Int) (a31 a32 a33 a34 : Int) (a35 : List Int) : Op ((Int × Bool × Bool) ⊕ ((Int × Bool × Bool) ⊕ ((Int × Bool × Bool) ⊕ (Int × Bool × Bool)))) :=
 (ix a0 4).bind fun j36 =>
 cond (Nat.beq j36 0)
  (some ((.inl ((a0, false, false)))))
  (cond (Nat.beq ((j36 - 1)) 0)
   (some ((.inr ((.inl ((a0, false, false)))))))
   (cond (Nat.beq (((j36 - 1) - 1)) 0)
    (some ((.inr ((.inr ((.inl ((a0, false, false)))))))))
    (cond (Nat.beq ((((j36 - 1) - 1) - 1)) 0)
     (some ((.inr ((.inr ((.inr ((a0, false, false)))))))))
     none)))
/- backstitch/engine.of -/
def D_engine_of_3 (a0 : Int) (a1 a2 : List Int) (a3 : Int) (a4 : LO) (a5 : Int) (a6 : LO) (a7 a8 a9 a10 a11 a12 a13 a14 a15 a16 a17 a18 a19 a20 a21 a22 a23 a24 a25 : Int) (a26 a27 : List Int) (a28 a29 : LO) (a30 : List Int) (a31 a32 a33 a34 a35 a36 a37 : Int) (a38 : List Int) : Op ((Int × Bool × Bool) ⊕ ((Int × Bool × Bool) ⊕ ((Int × Bool × Bool) ⊕ (Int × Bool × Bool)))) :=
 (ix a0 4).bind fun j39 =>
 cond (Nat.beq j39 0)
  (some ((.inl ((a0, false, false)))))
  (cond (Nat.beq ((j39 - 1)) 0)
   (some ((.inr ((.inl ((a0, false, false)))))))
   (cond (Nat.beq (((j39 - 1) - 1)) 0)
    (some ((.inr ((.inr ((.inl ((a0, false, false)))))))))
    (cond (Nat.beq ((((j39 - 1) - 1) - 1)) 0)
     (some ((.inr ((.inr ((.inr ((a0, false, false)))))))))
     none)))
/- backstitch/engine.New -/
def D_engine_New (a0 : Int) (a1 a2 : List Int) (a3 : Int) (a4 : LO) (a5 : Int) (a6 : LO) (a7 a8 : Int) : Op (Int × Bool × Bool × Int × Int × Int × Int × Int × Int × Int × Int × Int × Int × (List Int) × (List Int) × (LO) × (LO) × (List Int) × Int × Int × Int × Int × Int × Int × Int × List Int) :=
 (D_drive_New a0 a1 a2 a3 a4 a5 a6 a7 a8).bind fun r9 =>
 caseS r9 (fun u'10 =>
  cond (decide (u'10 ≠ 0))
   none
   ((D_engine_of a0 a1 a2 a3 a4 a5 a6 a7 a8).bind fun r11 =>
   caseS r11 (fun u'12 =>
    none)
    (fun w13 =>
    caseS w13 (fun u'14 =>
     none)
     (fun w15 =>
     caseS w15 (fun u'16 =>
      none)
      (fun w17 =>
      none)))))
  (fun w18 =>
  caseS w18 (fun ⟨u'19_0, u'19_1, u'19_2, u'19_3, u'19_4, u'19_5, u'19_6, u'19_7, u'19_8, u'19_9, u'19_10, u'19_11, u'19_12, u'19_13, u'19_14, u'19_15, u'19_16, u'19_17, u'19_18, u'19_19⟩ =>
   (D_engine_of_2 a0 a1 a2 a3 a4 a5 a6 a7 a8 u'19_0 u'19_1 u'19_2 u'19_3 u'19_4 u'19_5 u'19_6 u'19_7 u'19_8 u'19_9 0 (-1) 0 0 0 0 0 u'19_10 u'19_11 u'19_12 u'19_13 u'19_14 u'19_15 u'19_16 u'19_17 u'19_18 u'19_19).bind fun r20 =>
   caseS r20 (fun u'21 =>
    none)
    (fun w22 =>
    caseS w22 (fun u'23 =>
     none)
     (fun w24 =>
     caseS w24 (fun u'25 =>
      none)
      (fun w26 =>
      none))))
   (fun ⟨w27_0, w27_1, w27_2, w27_3, w27_4, w27_5, w27_6, w27_7, w27_8, w27_9, w27_10, w27_11, w27_12, w27_13, w27_14, w27_15, w27_16, w27_17, w27_18, w27_19, w27_20, w27_21, w27_22⟩ =>
   (D_engine_of_3 a0 a1 a2 a3 a4 a5 a6 a7 a8 w27_0 w27_1 w27_2 w27_3 w27_4 w27_5 w27_6 w27_7 w27_8 w27_9 0 (-1) 0 0 0 0 0 w27_10 w27_11 w27_12 w27_13 w27_14 w27_15 w27_16 w27_17 w27_18 w27_19 w27_20 w27_21 w27_22).bind fun r28 =>
   caseS r28 (fun u'29 =>
    none)
    (fun w30 =>
    caseS w30 (fun u'31 =>
     some ((u'31.1, u'31.2.1, u'31.2.2, w27_0, w27_1, w27_2, w27_3, w27_4, w27_5, w27_6, w27_7, w27_8, w27_9, w27_10, w27_11, w27_12, w27_13, w27_14, w27_15, w27_16, w27_17, w27_18, w27_19, w27_20, w27_21, w27_22)))
     (fun w32 =>
     caseS w32 (fun u'33 =>
      none)
      (fun w34 =>
      none)))))
def D_script_script_cut_L0 (a9 : List Int) (a11 : Int) (s46 : Int) : Op ((Int) ⊕ (Unit)) :=
 cond (decide (s46 < ((((ln a9) : Nat) : Int))))
  ((rd a9 s46).bind fun x47 =>
  cond (decide (x47 = (wU (a11))))
   none
   (some (.inl (wI (s46 + 1)))))
  (some (.inr ()))
/- (backstitch/script.script).cut -/
def D_script_script_cut (a0 : Int) (a1 a2 : List Int) (a3 : Int) (a4 : LO) (a5 : Int) (a6 : LO) (a7 a8 : Int) (a9 : List Int) (a10 : List Bool) (a11 a12 : Int) (a13 a14 : Bool) (a15 a16 a17 a18 a19 a20 a21 a22 a23 a24 a25 a26 a27 a28 a29 a30 a31 : Int) (a32 a33 : List Int) (a34 a35 : LO) (a36 : List Int) (a37 a38 a39 a40 a41 a42 a43 : Int) (a44 : List Int) : Op (Unit) :=
 (loopN (D_script_script_cut_L0 a9 a11) BIG 0).bind fun r48 =>
 some ()
/- (*backstitch/engine.Engine).own -/
def D_engine_Engine_own (a0 : Int) (a1 a2 : Bool) (a3 a4 a5 a6 a7 a8 a9 a10 a11 a12 a13 a14 a15 a16 a17 a18 a19 : Int) (a20 a21 : List Int) (a22 a23 : LO) (a24 : List Int) (a25 a26 a27 a28 a29 a30 a31 : Int) (a32 : List Int) : Op (Unit) :=
 some ()
/- (*backstitch/drive.Driver).Len -/
def D_drive_Driver_Len (a0 a1 a2 a3 a4 a5 a6 a7 a8 a9 a10 a11 a12 a13 a14 a15 a16 : Int) (a17 a18 : List Int) (a19 a20 : LO) (a21 : List Int) (a22 a23 a24 a25 a26 a27 a28 : Int) (a29 : List Int) : Op (Int) :=
 some a9
/- (*backstitch/engine.Engine).Len -/
def D_engine_Engine_Len (a0 : Int) (a1 a2 : Bool) (a3 a4 a5 a6 a7 a8 a9 a10 a11 a12 a13 a14 a15 a16 a17 a18 a19 : Int) (a20 a21 : List Int) (a22 a23 : LO) (a24 : List Int) (a25 a26 a27 a28 a29 a30 a31 : Int) (a32 : List Int) : Op (Int) :=
 (D_engine_Engine_own a0 a1 a2 a3 a4 a5 a6 a7 a8 a9 a10 a11 a12 a13 a14 a15 a16 a17 a18 a19 a20 a21 a22 a23 a24 a25 a26 a27 a28 a29 a30 a31 a32).bind fun r33 =>
 (D_drive_Driver_Len a3 a4 a5 a6 a7 a8 a9 a10 a11 a12 a13 a14 a15 a16 a17 a18 a19 a20 a21 a22 a23 a24 a25 a26 a27 a28 a29 a30 a31 a32).bind fun r34 =>
 some r34
/- (backstitch/slots.place).word -/
def D_slots_place_word (a0 a1 a2 a3 : Int) : Op (Int) :=
 (D_slots_place_size a0 a1 a2).bind fun r4 =>
 some (wI (a0 + (wI (a3 * r4))))
/- (*backstitch/arena.Arena).Get -/
def D_arena_Arena_Get (a0 a1 : Int) (a2 : List Int) : Op (Int × Int) :=
 cond (decide (a0 < 0))
  (some ((0, 2)))
  (cond (decide (a1 < a0))
   (some ((0, 2)))
   (cond (decide ((wI (a1 - a0)) < 1))
    (some ((0, 2)))
    (gd (cutG a0 (wI (a0 + 1)) ((ln a2))) ((D_slices_Clone_uint64_uint64 ((List.take (((tN (wI (a0 + 1))) - (tN a0))) (List.drop ((tN a0)) a2)))).bind fun r3 =>
    (ix 0 ((ln r3))).bind fun j4 =>
    (r3[j4]?).bind fun x5 =>
    some ((x5, 0))))))
def D_slots_Slots_Tags_L0 (a0 a1 a2 a3 : Int) (a4 : List Int) (s7 : Int × List Int) : Op ((Int × List Int) ⊕ (List Int)) :=
 cond (decide (s7.1 < a1))
  ((D_slots_place_word a0 a1 a2 s7.1).bind fun r8 =>
  (D_arena_Arena_Get r8 a3 a4).bind fun r9 =>
  gd (fits (ln s7.2 + 1) 8) (some (.inl ((wI (s7.1 + 1), (s7.2 ++ [wI ((wI (r9.1)) - 1)]))))))
  (some (.inr s7.2))
/- (*backstitch/slots.Slots).Tags -/
def D_slots_Slots_Tags (a0 a1 a2 a3 : Int) (a4 : List Int) : Op (List Int) :=
 (loopN (D_slots_Slots_Tags_L0 a0 a1 a2 a3 a4) BIG ((0, []))).bind fun r10 =>
 some r10
/- (*backstitch/drive.Driver).Spot -/
def D_drive_Driver_Spot (a0 a1 a2 a3 a4 a5 a6 a7 a8 a9 a10 a11 a12 a13 a14 a15 a16 : Int) (a17 a18 : List Int) (a19 a20 : LO) (a21 : List Int) (a22 a23 a24 a25 a26 a27 a28 : Int) (a29 : List Int) : Op (Int × Int × List Int) :=
 (D_slots_Slots_Tags a23 a24 a25 a22 a29).bind fun r30 =>
 some ((a10, a11, r30))
/- (*backstitch/engine.Engine).Spot -/
def D_engine_Engine_Spot (a0 : Int) (a1 a2 : Bool) (a3 a4 a5 a6 a7 a8 a9 a10 a11 a12 a13 a14 a15 a16 a17 a18 a19 : Int) (a20 a21 : List Int) (a22 a23 : LO) (a24 : List Int) (a25 a26 a27 a28 a29 a30 a31 : Int) (a32 : List Int) : Op (Int × Int × List Int) :=
 (D_engine_Engine_own a0 a1 a2 a3 a4 a5 a6 a7 a8 a9 a10 a11 a12 a13 a14 a15 a16 a17 a18 a19 a20 a21 a22 a23 a24 a25 a26 a27 a28 a29 a30 a31 a32).bind fun r33 =>
 (D_drive_Driver_Spot a3 a4 a5 a6 a7 a8 a9 a10 a11 a12 a13 a14 a15 a16 a17 a18 a19 a20 a21 a22 a23 a24 a25 a26 a27 a28 a29 a30 a31 a32).bind fun r34 =>
 some ((r34.1, r34.2.1, r34.2.2))
/- backstitch/machine.long -/
def D_machine_long (a0 : Int) : Op (Bool) :=
 cond (decide (0 ≤ a0))
  (some (decide (a0 < 65536)))
  (some false)
/- backstitch/machine.At$1 -/
def D_machine_At_1 (a0 a1 : Int) : Op (Bool) :=
 cond (decide (a0 < (-1)))
  (some true)
  (some (decide (a1 < a0)))
def D_slices_IndexFunc_int_int_2_L0 (a0 : List Int) (a1 s3 : Int) : Op ((Int) ⊕ ((Int) ⊕ (Unit))) :=
 cond (decide (s3 < ((((ln a0) : Nat) : Int))))
  ((rd a0 s3).bind fun x4 =>
  (D_machine_At_1 x4 a1).bind fun r5 =>
  cond (r5)
   (some (.inr (((.inl s3)))))
   (some (.inl (wI (s3 + 1)))))
  (some (.inr (((.inr ())))))
/- slices.IndexFunc[[]int,int] -/
def D_slices_IndexFunc_int_int_2 (a0 : List Int) (a1 : Int) : Op (Int) :=
 (loopN (D_slices_IndexFunc_int_int_2_L0 a0 a1) BIG 0).bind fun r6 =>
 caseS r6 (fun u'7 =>
  some u'7)
  (fun w8 =>
  some (-1))
/- slices.ContainsFunc[[]int,int] -/
def D_slices_ContainsFunc_int_int_2 (a0 : List Int) (a1 : Int) : Op (Bool) :=
 (D_slices_IndexFunc_int_int_2 a0 a1).bind fun r2 =>
 some (decide (0 ≤ r2))
/- slices.Clone[[]int,int] -/
def D_slices_Clone_int_int (l : List Int) : Op (List Int) := gd (fits (0 + l.length) 8) (some l)
/- backstitch/machine.At -/
def D_machine_At (a0 a1 a2 : Int) (a3 : List Int) : Op ((Unit) ⊕ (Int × Int × Int × List Int)) :=
 (D_machine_long a0).bind fun r4 =>
 cond (!r4)
  (some ((.inl ())))
  (cond (decide (1048576 < ((((ln a3) : Nat) : Int))))
   (some ((.inl ())))
   (cond (decide (a1 = (-1)))
    (some ((.inl ())))
    ((D_machine_At_1 a1 a0).bind fun r5 =>
    cond (r5)
     (some ((.inl ())))
     ((D_machine_At_1 a2 a0).bind fun r6 =>
     cond (r6)
      (some ((.inl ())))
      ((D_slices_ContainsFunc_int_int_2 a3 a0).bind fun r7 =>
      cond (r7)
       (some ((.inl ())))
       ((D_slices_Clone_int_int a3).bind fun r8 =>
       some ((.inr ((a1, a2, a0, r8))))))))))
/- backstitch/revolve.May -/
def D_revolve_May (a0 a1 a2 : Int) (a3 : List Int) : Op (Bool) :=
 (D_machine_At a0 a1 a2 a3).bind fun r4 =>
 caseS r4 (fun u'5 =>
  some false)
  (fun w6 =>
  some (decide (0 < ((((ln a3) : Nat) : Int)))))
/- backstitch/revolve.nothing -/
def D_revolve_nothing  : Op (Bool) :=
 some false
def D_revolve_look_L0 (s4 : Int × Int × (List Int) × Int × Int × (List Int) × Int) : (Int × Int × Int × (List Int) × Int × Int × (List Int) × Int × Int × Int × Int × Int) → Op ((Int × Int × Int × (List Int) × Int × Int × (List Int) × Int × Int × Int × Int × Int) ⊕ (Int × Int × (List Int) × Int × Int × (List Int) × Int × Int × Int × Int × Int)) := fun ⟨s28_0, s28_1, s28_2, s28_3, s28_4, s28_5, s28_6, s28_7, s28_8, s28_9, s28_10, s28_11⟩ =>
 cond (decide (s28_0 < ((((ln s4.2.2.1) : Nat) : Int))))
  ((rd s4.2.2.1 s28_0).bind fun x29 =>
  cond (decide (s28_8 < x29))
   (some (.inl ((wI (s28_0 + 1), s28_1, s28_2, s28_3, s28_4, s28_5, s28_6, s28_7, x29, s28_0, s28_10, s28_11))))
   (cond (decide (x29 < 0))
    (cond (decide (s28_11 < 0))
     (some (.inl ((wI (s28_0 + 1), s28_1, s28_2, s28_3, s28_4, s28_5, s28_6, s28_7, s28_8, s28_9, wI (s28_10 + 1), s28_0))))
     (some (.inl ((wI (s28_0 + 1), s28_1, s28_2, s28_3, s28_4, s28_5, s28_6, s28_7, s28_8, s28_9, wI (s28_10 + 1), s28_11)))))
    (some (.inl ((wI (s28_0 + 1), s28_1, s28_2, s28_3, s28_4, s28_5, s28_6, s28_7, s28_8, s28_9, s28_10, s28_11))))))
  (some (.inr (((s28_1, s28_2, s28_3, s28_4, s28_5, s28_6, s28_7, s28_8, s28_9, s28_10, s28_11)))))
/- backstitch/revolve.look -/
def D_revolve_look (a0 a1 a2 : Int) (a3 : List Int) : Op (Int × Int × (List Int) × Int × Int × Int × Int × Int) :=
 (((cond (decide (a2 < 0))
  (some ((a1, a2, a3, a1, a2, a3, a0)))
  (some ((a1, a2, a3, a1, a2, a3, a2)))) : Op (Int × Int × (List Int) × Int × Int × (List Int) × Int))).bind fun s4 =>
 (loopN (D_revolve_look_L0 s4) BIG ((0, s4.1, s4.2.1, s4.2.2.1, s4.2.2.2.1, s4.2.2.2.2.1, s4.2.2.2.2.2.1, s4.2.2.2.2.2.2, (-1), 0, 0, (-1)))).bind fun ⟨r30_0, r30_1, r30_2, r30_3, r30_4, r30_5, r30_6, r30_7, r30_8, r30_9, r30_10⟩ =>
 some ((r30_3, r30_4, r30_5, r30_6, r30_7, r30_8, r30_9, r30_10))
/- backstitch/revolve.act -/
def D_revolve_act (a0 a1 : Int) : Op (Int × Int) :=
 some ((a0, a1))
/- (backstitch/revolve.view).seeded -/
def D_revolve_view_seeded (a0 a1 : Int) (a2 : List Int) (a3 a4 a5 a6 a7 : Int) : Op (Bool) :=
 some (decide (0 ≤ a1))
/- (backstitch/revolve.view).rules$1 -/
def D_revolve_view_rules_1 (a0 a1 : Int) (a2 : List Int) (a3 a4 a5 a6 a7 : Int) : Op (Bool) :=
 (D_revolve_view_seeded a0 a1 a2 a3 a4 a5 a6 a7).bind fun r8 =>
 cond (r8)
  (some (decide (a3 ≤ a4)))
  (some false)
/- backstitch/revolve.act$1 -/
def D_revolve_act_1 (a0 a1 : Int) : Op (Int × Int × Bool) :=
 some ((a0, a1, true))
/- (backstitch/revolve.view).rules$2 -/
def D_revolve_view_rules_2 (a0 a1 : Int) (a2 : List Int) (a3 a4 a5 a6 a7 : Int) : Op (Bool) :=
 some (decide (a1 = 0))
/- (backstitch/revolve.view).rules$3 -/
def D_revolve_view_rules_3 (a0 a1 : Int) (a2 : List Int) (a3 a4 a5 a6 a7 a8 : Int) : Op (Bool) :=
 (D_revolve_view_seeded a0 a1 a2 a3 a4 a5 a6 a7).bind fun r9 =>
 cond (!r9)
  (some (decide (a0 = a8)))
  (some false)
/- (backstitch/revolve.view).rules$4 -/
def D_revolve_view_rules_4 (a0 a1 : Int) (a2 : List Int) (a3 a4 a5 a6 a7 : Int) : Op (Bool) :=
 some (decide (a0 = (wI (a3 - 1))))
/- (backstitch/revolve.view).turn -/
def D_revolve_view_turn (a0 a1 : Int) (a2 : List Int) (a3 a4 a5 a6 a7 : Int) : Op (Int × Bool) :=
 (D_revolve_view_seeded a0 a1 a2 a3 a4 a5 a6 a7).bind fun r8 =>
 cond (r8)
  (some ((7, true)))
  (some ((6, true)))
/- (backstitch/revolve.view).rules$5 -/
def D_revolve_view_rules_5 (a0 a1 : Int) (a2 : List Int) (a3 a4 a5 a6 a7 : Int) : Op (Bool) :=
 some (decide (a4 < 0))
/- (backstitch/revolve.view).first -/
def D_revolve_view_first (a0 a1 : Int) (a2 : List Int) (a3 a4 a5 a6 a7 : Int) : Op (Int × Bool) :=
 cond (decide (a3 ≤ a0))
  ((D_revolve_nothing).bind fun r8 =>
  some ((0, r8)))
  (some ((2, true)))
/- (backstitch/revolve.view).rules$6 -/
def D_revolve_view_rules_6 (a0 a1 : Int) (a2 : List Int) (a3 a4 a5 a6 a7 : Int) : Op (Bool) :=
 cond (decide (a0 < a4))
  (some true)
  (some (decide (a3 ≤ a0)))
/- (backstitch/revolve.view).rules$7 -/
def D_revolve_view_rules_7 (a0 a1 : Int) (a2 : List Int) (a3 a4 a5 a6 a7 : Int) : Op (Bool) :=
 cond (decide (a4 < a0))
  (some (decide (0 < a6)))
  (some false)
/- (backstitch/revolve.view).rules$8 -/
def D_revolve_view_rules_8 (a0 a1 : Int) (a2 : List Int) (a3 a4 a5 a6 a7 : Int) : Op (Bool) :=
 some (decide (a4 < a0))
/- backstitch/revolve.always -/
def D_revolve_always  : Op (Bool) :=
 some true
/- backstitch/reps.slots -/
def D_reps_slots (a0 : Int) : Op (Bool) :=
 cond (decide (1 ≤ a0))
  (some (decide (a0 ≤ 1048576)))
  (some false)
/- math/bits.Mul64 -/
def D_math_bits_Mul64 (a0 a1 : Int) : Op (Int × Int) :=
 some ((wU ((wU ((wU ((Int.fdiv a0 (2 ^ (min (tN 32) (IntKind.bits .u64)))) * (Int.fdiv a1 (2 ^ (min (tN 32) (IntKind.bits .u64)))))) + (Int.fdiv (wU ((wU ((Int.fdiv a0 (2 ^ (min (tN 32) (IntKind.bits .u64)))) * (bitV .u64 (· &&& ·) a1 4294967295))) + (Int.fdiv (wU ((bitV .u64 (· &&& ·) a0 4294967295) * (bitV .u64 (· &&& ·) a1 4294967295))) (2 ^ (min (tN 32) (IntKind.bits .u64)))))) (2 ^ (min (tN 32) (IntKind.bits .u64)))))) + (Int.fdiv (wU ((bitV .u64 (· &&& ·) (wU ((wU ((Int.fdiv a0 (2 ^ (min (tN 32) (IntKind.bits .u64)))) * (bitV .u64 (· &&& ·) a1 4294967295))) + (Int.fdiv (wU ((bitV .u64 (· &&& ·) a0 4294967295) * (bitV .u64 (· &&& ·) a1 4294967295))) (2 ^ (min (tN 32) (IntKind.bits .u64)))))) 4294967295) + (wU ((bitV .u64 (· &&& ·) a0 4294967295) * (Int.fdiv a1 (2 ^ (min (tN 32) (IntKind.bits .u64)))))))) (2 ^ (min (tN 32) (IntKind.bits .u64))))), wU (a0 * a1)))
/- math/bits.Len64 -/
def D_math_bits_Len64 (a0 : Int) : Op (Int) :=
 (((cond (decide (4294967296 ≤ a0))
  (some ((Int.fdiv a0 (2 ^ (min (tN 32) (IntKind.bits .u64))), 32)))
  (some ((a0, 0)))) : Op (Int × Int))).bind fun s1 =>
 (((cond (decide (65536 ≤ s1.1))
  (some ((Int.fdiv s1.1 (2 ^ (min (tN 16) (IntKind.bits .u64))), wI (s1.2 + 16))))
  (some ((s1.1, s1.2)))) : Op (Int × Int))).bind fun s2 =>
 cond (decide (256 ≤ s2.1))
  ((rd (tabL0) (IntKind.u8.wrap (Int.fdiv s2.1 (2 ^ (min (tN 8) (IntKind.bits .u64)))))).bind fun x3 =>
  some (wI ((wI (s2.2 + 8)) + (wI (x3)))))
  ((rd (tabL0) (IntKind.u8.wrap (s2.1))).bind fun x4 =>
  some (wI (s2.2 + (wI (x4)))))
/- math/bits.LeadingZeros64 -/
def D_math_bits_LeadingZeros64 (a0 : Int) : Op (Int) :=
 (D_math_bits_Len64 a0).bind fun r1 =>
 some (wI (64 - r1))
def D_math_bits_Div64_L0 (a1 : Int) (a2 : Int) (r3 : Int) (s6 : Int × Int) : Op ((Int × Int) ⊕ (Int)) :=
 cond (decide (4294967296 ≤ s6.1))
  (cond (decide (4294967296 ≤ (wU (s6.2 + (Int.fdiv (wU (a2 * 2 ^ (min (tN (wU (r3))) (IntKind.bits .u64)))) (2 ^ (min (tN 32) (IntKind.bits .u64))))))))
   (some (.inr ((wU (s6.1 - 1)))))
   (some (.inl ((wU (s6.1 - 1), wU (s6.2 + (Int.fdiv (wU (a2 * 2 ^ (min (tN (wU (r3))) (IntKind.bits .u64)))) (2 ^ (min (tN 32) (IntKind.bits .u64))))))))))
  (cond (decide ((wU ((wU (4294967296 * s6.2)) + (Int.fdiv (wU (a1 * 2 ^ (min (tN (wU (r3))) (IntKind.bits .u64)))) (2 ^ (min (tN 32) (IntKind.bits .u64)))))) < (wU (s6.1 * (bitV .u64 (· &&& ·) (wU (a2 * 2 ^ (min (tN (wU (r3))) (IntKind.bits .u64)))) 4294967295)))))
   (cond (decide (4294967296 ≤ (wU (s6.2 + (Int.fdiv (wU (a2 * 2 ^ (min (tN (wU (r3))) (IntKind.bits .u64)))) (2 ^ (min (tN 32) (IntKind.bits .u64))))))))
    (some (.inr ((wU (s6.1 - 1)))))
    (some (.inl ((wU (s6.1 - 1), wU (s6.2 + (Int.fdiv (wU (a2 * 2 ^ (min (tN (wU (r3))) (IntKind.bits .u64)))) (2 ^ (min (tN 32) (IntKind.bits .u64))))))))))
   (some (.inr s6.1)))
def D_math_bits_Div64_L1 (a1 : Int) (a2 : Int) (r3 : Int) (s10 : Int × Int) : Op ((Int × Int) ⊕ (Int)) :=
 cond (decide (4294967296 ≤ s10.1))
  (cond (decide (4294967296 ≤ (wU (s10.2 + (Int.fdiv (wU (a2 * 2 ^ (min (tN (wU (r3))) (IntKind.bits .u64)))) (2 ^ (min (tN 32) (IntKind.bits .u64))))))))
   (some (.inr ((wU (s10.1 - 1)))))
   (some (.inl ((wU (s10.1 - 1), wU (s10.2 + (Int.fdiv (wU (a2 * 2 ^ (min (tN (wU (r3))) (IntKind.bits .u64)))) (2 ^ (min (tN 32) (IntKind.bits .u64))))))))))
  (cond (decide ((wU ((wU (4294967296 * s10.2)) + (bitV .u64 (· &&& ·) (wU (a1 * 2 ^ (min (tN (wU (r3))) (IntKind.bits .u64)))) 4294967295))) < (wU (s10.1 * (bitV .u64 (· &&& ·) (wU (a2 * 2 ^ (min (tN (wU (r3))) (IntKind.bits .u64)))) 4294967295)))))
   (cond (decide (4294967296 ≤ (wU (s10.2 + (Int.fdiv (wU (a2 * 2 ^ (min (tN (wU (r3))) (IntKind.bits .u64)))) (2 ^ (min (tN 32) (IntKind.bits .u64))))))))
    (some (.inr ((wU (s10.1 - 1)))))
    (some (.inl ((wU (s10.1 - 1), wU (s10.2 + (Int.fdiv (wU (a2 * 2 ^ (min (tN (wU (r3))) (IntKind.bits .u64)))) (2 ^ (min (tN 32) (IntKind.bits .u64))))))))))
   (some (.inr s10.1)))
/- math/bits.Div64 -/
def D_math_bits_Div64 (a0 a1 a2 : Int) : Op (Int × Int) :=
 cond (decide (a2 = 0))
  none
  (cond (decide (a2 ≤ a0))
   none
   (cond (decide (a0 = 0))
    (gd (decide (a2 ≠ 0)) (gd (decide (a2 ≠ 0)) (some ((wU (Int.tdiv a1 a2), Int.tmod a1 a2)))))
    ((D_math_bits_LeadingZeros64 a2).bind fun r3 =>
    gd (decide (0 ≤ (wU (r3)))) (gd (decide (0 ≤ (wU (r3)))) (gd (decide (0 ≤ (wU (64 - (wU (r3)))))) (gd (decide (0 ≤ (wU (r3)))) (gd (decide ((Int.fdiv (wU (a2 * 2 ^ (min (tN (wU (r3))) (IntKind.bits .u64)))) (2 ^ (min (tN 32) (IntKind.bits .u64)))) ≠ 0)) ((loopN (D_math_bits_Div64_L0 a1 a2 r3) BIG ((wU (Int.tdiv (bitV .u64 (· ||| ·) (wU (a0 * 2 ^ (min (tN (wU (r3))) (IntKind.bits .u64)))) (Int.fdiv a1 (2 ^ (min (tN (wU (64 - (wU (r3))))) (IntKind.bits .u64))))) (Int.fdiv (wU (a2 * 2 ^ (min (tN (wU (r3))) (IntKind.bits .u64)))) (2 ^ (min (tN 32) (IntKind.bits .u64))))), wU ((bitV .u64 (· ||| ·) (wU (a0 * 2 ^ (min (tN (wU (r3))) (IntKind.bits .u64)))) (Int.fdiv a1 (2 ^ (min (tN (wU (64 - (wU (r3))))) (IntKind.bits .u64))))) - (wU ((wU (Int.tdiv (bitV .u64 (· ||| ·) (wU (a0 * 2 ^ (min (tN (wU (r3))) (IntKind.bits .u64)))) (Int.fdiv a1 (2 ^ (min (tN (wU (64 - (wU (r3))))) (IntKind.bits .u64))))) (Int.fdiv (wU (a2 * 2 ^ (min (tN (wU (r3))) (IntKind.bits .u64)))) (2 ^ (min (tN 32) (IntKind.bits .u64)))))) * (Int.fdiv (wU (a2 * 2 ^ (min (tN (wU (r3))) (IntKind.bits .u64)))) (2 ^ (min (tN 32) (IntKind.bits .u64)))))))))).bind fun r7 =>
    gd (decide ((Int.fdiv (wU (a2 * 2 ^ (min (tN (wU (r3))) (IntKind.bits .u64)))) (2 ^ (min (tN 32) (IntKind.bits .u64)))) ≠ 0)) ((loopN (D_math_bits_Div64_L1 a1 a2 r3) BIG ((wU (Int.tdiv (wU ((wU ((wU ((bitV .u64 (· ||| ·) (wU (a0 * 2 ^ (min (tN (wU (r3))) (IntKind.bits .u64)))) (Int.fdiv a1 (2 ^ (min (tN (wU (64 - (wU (r3))))) (IntKind.bits .u64))))) * 4294967296)) + (Int.fdiv (wU (a1 * 2 ^ (min (tN (wU (r3))) (IntKind.bits .u64)))) (2 ^ (min (tN 32) (IntKind.bits .u64)))))) - (wU (r7 * (wU (a2 * 2 ^ (min (tN (wU (r3))) (IntKind.bits .u64)))))))) (Int.fdiv (wU (a2 * 2 ^ (min (tN (wU (r3))) (IntKind.bits .u64)))) (2 ^ (min (tN 32) (IntKind.bits .u64))))), wU ((wU ((wU ((wU ((bitV .u64 (· ||| ·) (wU (a0 * 2 ^ (min (tN (wU (r3))) (IntKind.bits .u64)))) (Int.fdiv a1 (2 ^ (min (tN (wU (64 - (wU (r3))))) (IntKind.bits .u64))))) * 4294967296)) + (Int.fdiv (wU (a1 * 2 ^ (min (tN (wU (r3))) (IntKind.bits .u64)))) (2 ^ (min (tN 32) (IntKind.bits .u64)))))) - (wU (r7 * (wU (a2 * 2 ^ (min (tN (wU (r3))) (IntKind.bits .u64)))))))) - (wU ((wU (Int.tdiv (wU ((wU ((wU ((bitV .u64 (· ||| ·) (wU (a0 * 2 ^ (min (tN (wU (r3))) (IntKind.bits .u64)))) (Int.fdiv a1 (2 ^ (min (tN (wU (64 - (wU (r3))))) (IntKind.bits .u64))))) * 4294967296)) + (Int.fdiv (wU (a1 * 2 ^ (min (tN (wU (r3))) (IntKind.bits .u64)))) (2 ^ (min (tN 32) (IntKind.bits .u64)))))) - (wU (r7 * (wU (a2 * 2 ^ (min (tN (wU (r3))) (IntKind.bits .u64)))))))) (Int.fdiv (wU (a2 * 2 ^ (min (tN (wU (r3))) (IntKind.bits .u64)))) (2 ^ (min (tN 32) (IntKind.bits .u64)))))) * (Int.fdiv (wU (a2 * 2 ^ (min (tN (wU (r3))) (IntKind.bits .u64)))) (2 ^ (min (tN 32) (IntKind.bits .u64)))))))))).bind fun r11 =>
    gd (decide (0 ≤ (wU (r3)))) (some ((wU ((wU (r7 * 4294967296)) + r11), Int.fdiv (wU ((wU ((wU ((wU ((wU ((wU ((bitV .u64 (· ||| ·) (wU (a0 * 2 ^ (min (tN (wU (r3))) (IntKind.bits .u64)))) (Int.fdiv a1 (2 ^ (min (tN (wU (64 - (wU (r3))))) (IntKind.bits .u64))))) * 4294967296)) + (Int.fdiv (wU (a1 * 2 ^ (min (tN (wU (r3))) (IntKind.bits .u64)))) (2 ^ (min (tN 32) (IntKind.bits .u64)))))) - (wU (r7 * (wU (a2 * 2 ^ (min (tN (wU (r3))) (IntKind.bits .u64)))))))) * 4294967296)) + (bitV .u64 (· &&& ·) (wU (a1 * 2 ^ (min (tN (wU (r3))) (IntKind.bits .u64)))) 4294967295))) - (wU (r11 * (wU (a2 * 2 ^ (min (tN (wU (r3))) (IntKind.bits .u64)))))))) (2 ^ (min (tN (wU (r3))) (IntKind.bits .u64)))))))))))))))
/- backstitch/choose.times -/
def D_choose_times (a0 a1 a2 : Int) : Op (Int) :=
 (D_math_bits_Mul64 (wU (a0)) (wU (a1))).bind fun r3 =>
 cond (decide ((wU (a2)) ≤ r3.1))
  (some 1099511627776)
  ((D_math_bits_Div64 r3.1 r3.2 (wU (a2))).bind fun r4 =>
  cond (decide (1099511627776 < r4.1))
   (some 1099511627776)
   (some (wI (r4.1))))
def D_choose_Choose_L0 (a0 a1 : Int) (s4 : Int × Int) : Op ((Int × Int) ⊕ (Int)) :=
 cond (decide (s4.1 ≤ (min a1 (wI (a0 - a1)))))
  (cond (decide (s4.2 < 1099511627776))
   ((D_choose_times s4.2 (wI ((wI (a0 - (min a1 (wI (a0 - a1))))) + s4.1)) s4.1).bind fun r5 =>
   some (.inl ((wI (s4.1 + 1), r5))))
   (some (.inr s4.2)))
  (some (.inr s4.2))
/- backstitch/choose.Choose -/
def D_choose_Choose (a0 a1 : Int) : Op (Int) :=
 cond (decide (a0 < 0))
  (some 0)
  (cond (decide (a1 < 0))
   (some 0)
   (cond (decide (a0 < a1))
    (some 0)
    ((loopN (D_choose_Choose_L0 a0 a1) BIG ((1, 1))).bind fun r6 =>
    some r6)))
/- backstitch/reps.longest -/
def D_reps_longest (a0 a1 : Int) : Op (Int) :=
 cond (decide (1099511627776 ≤ a0))
  (some 1099511627776)
  ((D_choose_Choose (wI (a1 + a0)) a1).bind fun r2 =>
  some r2)
/- backstitch/reps.Reps$1 -/
def D_reps_Reps_1 (a0 a1 a2 : Int) : Op (Bool) :=
 (D_reps_longest a0 a2).bind fun r3 =>
 some (decide (a1 ≤ r3))
def D_reps_least_L0 (a1 : Int) (a2 : Int) (s6 : Int × Int) : Op ((Int × Int) ⊕ (Int)) :=
 cond (decide (s6.1 < s6.2))
  ((D_reps_Reps_1 (wI (Int.tdiv (wI (s6.1 + s6.2)) 2)) a1 a2).bind fun r7 =>
  cond (r7)
   (some (.inl ((s6.1, wI (Int.tdiv (wI (s6.1 + s6.2)) 2)))))
   (some (.inl ((wI ((wI (Int.tdiv (wI (s6.1 + s6.2)) 2)) + 1), s6.2)))))
  (some (.inr s6.1))
/- backstitch/reps.least -/
def D_reps_least (a0 a1 a2 : Int) : Op (Int) :=
 (loopN (D_reps_least_L0 a1 a2) BIG ((0, a0))).bind fun r8 =>
 some r8
/- backstitch/reps.Reps -/
def D_reps_Reps (a0 a1 : Int) : Op (Int × Int) :=
 cond (decide (a0 < 0))
  (some ((0, 2)))
  (cond (decide (65536 ≤ a0))
   (some ((0, 2)))
   ((D_reps_slots a1).bind fun r2 =>
   cond (!r2)
    (some ((0, 2)))
    ((D_reps_least a0 a0 a1).bind fun r3 =>
    some ((r3, 0)))))
def D_reps_greatest_L0 (a0 : List Int) (s5 : Int × Int) : Op ((Int × Int) ⊕ (Int)) :=
 cond (decide (s5.1 < ((((ln a0) : Nat) : Int))))
  ((rd a0 s5.1).bind fun x6 =>
  some (.inl ((wI (s5.1 + 1), max s5.2 x6))))
  (some (.inr s5.2))
/- backstitch/reps.greatest -/
def D_reps_greatest (a0 : List Int) : Op (Int) :=
 (rd a0 0).bind fun x1 =>
 (loopN (D_reps_greatest_L0 a0) BIG ((0, x1))).bind fun r7 =>
 some r7
/- backstitch/reps.Split -/
def D_reps_Split (a0 a1 : Int) : Op (Int × Int) :=
 cond (decide (a0 < 2))
  (some ((0, 2)))
  ((D_reps_Reps a0 a1).bind fun r2 =>
  cond (decide (r2.2 ≠ 0))
   (some ((0, r2.2)))
   ((D_choose_Choose (wI ((wI (a1 + r2.1)) - 2)) a1).bind fun r3 =>
   (D_choose_Choose (wI ((wI (a1 + r2.1)) - 1)) (wI (a1 - 1))).bind fun r4 =>
   (D_reps_greatest ([1, r3, wI (a0 - r4)])).bind fun r5 =>
   some ((r5, 0))))
/- (backstitch/revolve.view).split -/
def D_revolve_view_split (a0 a1 : Int) (a2 : List Int) (a3 a4 a5 a6 a7 : Int) : Op (Int × Bool) :=
 (D_reps_Split (wI (a3 - a4)) (wI (a6 + 1))).bind fun r8 =>
 some ((r8.1, true))
/- backstitch/engine.offline -/
def D_engine_offline (a0 : Int) (a1 a2 : Bool) (a3 a4 a5 a6 a7 a8 a9 a10 a11 a12 a13 a14 a15 a16 a17 a18 a19 : Int) (a20 a21 : List Int) (a22 a23 : LO) (a24 : List Int) (a25 a26 a27 a28 a29 a30 a31 : Int) (a32 : List Int) : Op (Int × Int × Bool) :=
 (D_engine_Engine_Len a0 a1 a2 a3 a4 a5 a6 a7 a8 a9 a10 a11 a12 a13 a14 a15 a16 a17 a18 a19 a20 a21 a22 a23 a24 a25 a26 a27 a28 a29 a30 a31 a32).bind fun r33 =>
 (D_engine_Engine_Spot a0 a1 a2 a3 a4 a5 a6 a7 a8 a9 a10 a11 a12 a13 a14 a15 a16 a17 a18 a19 a20 a21 a22 a23 a24 a25 a26 a27 a28 a29 a30 a31 a32).bind fun r34 =>
 (D_revolve_May r33 r34.1 r34.2.1 r34.2.2).bind fun r35 =>
 cond (!r35)
  ((D_revolve_nothing).bind fun r36 =>
  some ((0, 0, r36)))
  ((D_revolve_look r33 r34.1 r34.2.1 r34.2.2).bind fun r37 =>
  (D_revolve_act 4 r37.2.2.2.2.2.1).bind fun r38 =>
  (D_revolve_act 5 0).bind fun r39 =>
  (D_revolve_act 3 r37.2.2.2.2.2.1).bind fun r40 =>
  (D_revolve_act 2 r37.2.2.2.2.2.2.2).bind fun r41 =>
  (D_revolve_act 1 (wI ((wI (r37.2.2.2.1 - 1)) - r37.1))).bind fun r42 =>
  (D_revolve_view_rules_1 r37.1 r37.2.1 r37.2.2.1 r37.2.2.2.1 r37.2.2.2.2.1 r37.2.2.2.2.2.1 r37.2.2.2.2.2.2.1 r37.2.2.2.2.2.2.2).bind fun r43 =>
  cond (r43)
   ((D_revolve_act_1 r38.1 r38.2).bind fun r44 =>
   some ((r44.1, r44.2.1, r44.2.2)))
   ((D_revolve_view_rules_2 r37.1 r37.2.1 r37.2.2.1 r37.2.2.2.1 r37.2.2.2.2.1 r37.2.2.2.2.2.1 r37.2.2.2.2.2.2.1 r37.2.2.2.2.2.2.2).bind fun r45 =>
   cond (r45)
    ((D_revolve_nothing).bind fun r46 =>
    some ((0, 0, r46)))
    ((D_revolve_view_rules_3 r37.1 r37.2.1 r37.2.2.1 r37.2.2.2.1 r37.2.2.2.2.1 r37.2.2.2.2.2.1 r37.2.2.2.2.2.2.1 r37.2.2.2.2.2.2.2 r33).bind fun r47 =>
    cond (r47)
     ((D_revolve_act_1 r39.1 r39.2).bind fun r48 =>
     some ((r48.1, r48.2.1, r48.2.2)))
     ((D_revolve_view_rules_4 r37.1 r37.2.1 r37.2.2.1 r37.2.2.2.1 r37.2.2.2.2.1 r37.2.2.2.2.2.1 r37.2.2.2.2.2.2.1 r37.2.2.2.2.2.2.2).bind fun r49 =>
     cond (r49)
      ((D_revolve_view_turn r37.1 r37.2.1 r37.2.2.1 r37.2.2.2.1 r37.2.2.2.2.1 r37.2.2.2.2.2.1 r37.2.2.2.2.2.2.1 r37.2.2.2.2.2.2.2).bind fun r50 =>
      some ((r50.1, 0, r50.2)))
      ((D_revolve_view_rules_5 r37.1 r37.2.1 r37.2.2.1 r37.2.2.2.1 r37.2.2.2.2.1 r37.2.2.2.2.2.1 r37.2.2.2.2.2.2.1 r37.2.2.2.2.2.2.2).bind fun r51 =>
      cond (r51)
       ((D_revolve_view_first r37.1 r37.2.1 r37.2.2.1 r37.2.2.2.1 r37.2.2.2.2.1 r37.2.2.2.2.2.1 r37.2.2.2.2.2.2.1 r37.2.2.2.2.2.2.2).bind fun r52 =>
       some ((r52.1, 0, r52.2)))
       ((D_revolve_view_rules_6 r37.1 r37.2.1 r37.2.2.1 r37.2.2.2.1 r37.2.2.2.2.1 r37.2.2.2.2.2.1 r37.2.2.2.2.2.2.1 r37.2.2.2.2.2.2.2).bind fun r53 =>
       cond (r53)
        ((D_revolve_act_1 r40.1 r40.2).bind fun r54 =>
        some ((r54.1, r54.2.1, r54.2.2)))
        ((D_revolve_view_rules_7 r37.1 r37.2.1 r37.2.2.1 r37.2.2.2.1 r37.2.2.2.2.1 r37.2.2.2.2.2.1 r37.2.2.2.2.2.2.1 r37.2.2.2.2.2.2.2).bind fun r55 =>
        cond (r55)
         ((D_revolve_act_1 r41.1 r41.2).bind fun r56 =>
         some ((r56.1, r56.2.1, r56.2.2)))
         ((D_revolve_view_rules_8 r37.1 r37.2.1 r37.2.2.1 r37.2.2.2.1 r37.2.2.2.2.1 r37.2.2.2.2.2.1 r37.2.2.2.2.2.2.1 r37.2.2.2.2.2.2.2).bind fun r57 =>
         cond (r57)
          ((D_revolve_act_1 r42.1 r42.2).bind fun r58 =>
          some ((r58.1, r58.2.1, r58.2.2)))
          ((D_revolve_always).bind fun r59 =>
          cond (r59)
           ((D_revolve_view_split r37.1 r37.2.1 r37.2.2.1 r37.2.2.2.1 r37.2.2.2.2.1 r37.2.2.2.2.2.1 r37.2.2.2.2.2.2.1 r37.2.2.2.2.2.2.2).bind fun r60 =>
           some ((1, r60.1, r60.2)))
           ((D_revolve_nothing).bind fun r61 =>
           some ((0, 0, r61))))))))))))
/- (*backstitch/drive.Driver).baseline -/
def D_drive_Driver_baseline_2 (a0 a1 a2 a3 a4 a5 a6 a7 a8 a9 a10 a11 a12 a13 a14 a15 a16 : Int) (a17 a18 : List Int) (a19 a20 : LO) (a21 : List Int) (a22 a23 a24 a25 a26 a27 a28 : Int) (a29 : List Int) : Op (Bool) :=
 some (decide (a4 = 3))
/- (*backstitch/arena.Arena).Read -/
def D_arena_Arena_Read (a0 a1 a2 : Int) (a3 : List Int) : Op (Int × List Int) :=
 cond (decide (a0 < 0))
  (some ((2, [])))
  (cond (decide (a1 < 0))
   (some ((2, [])))
   (cond (decide (a2 < a0))
    (some ((2, [])))
    (cond (decide ((wI (a2 - a0)) < a1))
     (some ((2, [])))
     (gd (cutG a0 (wI (a0 + a1)) ((ln a3))) ((D_slices_Clone_uint64_uint64 ((List.take (((tN (wI (a0 + a1))) - (tN a0))) (List.drop ((tN a0)) a3)))).bind fun r4 =>
     some ((0, r4)))))))
/- (*backstitch/drive.Driver).get -/
def D_drive_Driver_get (a0 a1 a2 a3 a4 a5 a6 a7 a8 a9 a10 a11 a12 a13 a14 a15 a16 a17 : Int) (a18 a19 : List Int) (a20 a21 : LO) (a22 : List Int) (a23 a24 a25 a26 a27 a28 a29 : Int) (a30 : List Int) : Op (List Int) :=
 (ix a0 ((ln a22))).bind fun j31 =>
 (a22[j31]?).bind fun x32 =>
 (ix (wI (a0 + 1)) ((ln a22))).bind fun j33 =>
 (a22[j33]?).bind fun x34 =>
 (ix a0 ((ln a22))).bind fun j35 =>
 (a22[j35]?).bind fun x36 =>
 (D_arena_Arena_Read x32 (wI (x34 - x36)) a23 a30).bind fun r37 =>
 some r37.2
def D_slices_Concat_uint64_uint64_L0 (a0 : List (List Int)) (s3 : Int × Int) : Op ((Int × Int) ⊕ (Int)) :=
 cond (decide (s3.1 < ((((ln a0) : Nat) : Int))))
  ((rd a0 s3.1).bind fun x4 =>
  cond (decide ((wI (s3.2 + ((((ln x4) : Nat) : Int)))) < 0))
   none
   (some (.inl ((wI (s3.1 + 1), wI (s3.2 + ((((ln x4) : Nat) : Int))))))))
  (some (.inr s3.2))
def D_slices_Concat_uint64_uint64_L1 (a0 : List (List Int)) (s9 : Int × List Int) : Op ((Int × List Int) ⊕ (List Int)) :=
 cond (decide (s9.1 < ((((ln a0) : Nat) : Int))))
  ((rd a0 s9.1).bind fun x10 =>
  gd (fits (ln s9.2 + ln x10) 8) (some (.inl ((wI (s9.1 + 1), (s9.2 ++ x10))))))
  (some (.inr s9.2))
def D_slices_Concat_uint64_uint64_L2 (a0 : List (List Int)) (s14 : Int × List Int) : Op ((Int × List Int) ⊕ (List Int)) :=
 cond (decide (s14.1 < ((((ln a0) : Nat) : Int))))
  ((rd a0 s14.1).bind fun x15 =>
  gd (fits (ln s14.2 + ln x15) 8) (some (.inl ((wI (s14.1 + 1), (s14.2 ++ x15))))))
  (some (.inr s14.2))
/- slices.Concat[[]uint64,uint64] -/
def D_slices_Concat_uint64_uint64 (a0 : List (List Int)) : Op (List Int) :=
 (loopN (D_slices_Concat_uint64_uint64_L0 a0) BIG ((0, 0))).bind fun r5 =>
 cond (decide (r5 < 0))
  none
  (cond (decide (0 < (wI (r5 - 0))))
   (gd (zeroFits 8 (wI (r5 - 0))) (gd (fits (0 + ln ((List.replicate (tN (wI (r5 - 0))) (0 : Int)))) 8) (gd (cutG 0 0 ((ln ((([] : List Int) ++ (List.replicate (tN (wI (r5 - 0))) (0 : Int))))))) ((loopN (D_slices_Concat_uint64_uint64_L1 a0) BIG ((0, (List.take 0 ((([] : List Int) ++ (List.replicate (tN (wI (r5 - 0))) (0 : Int)))))))).bind fun r11 =>
   some r11))))
   ((loopN (D_slices_Concat_uint64_uint64_L2 a0) BIG ((0, []))).bind fun r16 =>
   some r16))
/- (*backstitch/drive.Driver).begin -/
def D_drive_Driver_begin (a0 : Int) (a1 : LO) (a2 a3 : List Int) (a4 a5 a6 a7 a8 a9 a10 a11 a12 a13 a14 a15 a16 a17 a18 a19 a20 : Int) (a21 a22 : List Int) (a23 a24 : LO) (a25 : List Int) (a26 a27 a28 a29 a30 a31 a32 : Int) (a33 : List Int) : Op (List Int) :=
 (D_drive_Driver_get 0 a4 a5 a6 a7 a8 a9 a10 a11 a12 a13 a14 a15 a16 a17 a18 a19 a20 a21 a22 a23 a24 a25 a26 a27 a28 a29 a30 a31 a32 a33).bind fun r34 =>
 (D_slices_Concat_uint64_uint64 ([a2, r34, a3])).bind fun r35 =>
 gd (zeroFits 8 (wI (a0 - ((((ln r35) : Nat) : Int))))) (gd (fits (ln r35 + ln ((List.replicate (tN (wI (a0 - ((((ln r35) : Nat) : Int))))) (0 : Int)))) 8) (some ((r35 ++ (List.replicate (tN (wI (a0 - ((((ln r35) : Nat) : Int))))) (0 : Int))))))
/- backstitch/check.Program -/
def D_check_Program (a0 : Int) (a1 : LO) : Op (Int) :=
 (D_check_program_form a0 a1).bind fun r2 =>
 cond (decide (r2 ≠ 0))
  (some r2)
  ((D_check_program_registers a0 a1).bind fun r3 =>
  cond (decide (r3 ≠ 0))
   (some r3)
   ((D_check_program_depth a0 a1).bind fun r4 =>
   cond (decide (r4 ≠ 0))
    (some r4)
    ((D_check_program_writes a0 a1).bind fun r5 =>
    cond (decide (r5 ≠ 0))
     (some r5)
     (some 0))))
/- backstitch/size.Sizes -/
def D_size_Sizes (a0 : LO) : Op (Int × List Int) :=
 (D_size_measure a0).bind fun r1 =>
 some ((r1.2.1, r1.2.2.1))
def D_flat_Code_L0 (a1 : LO) (r3 : Int × List Int) (r4 : Int × List Int) (s8 : Int × (List Int) × List (Int × Int × Int × Int × Int × Int)) : Op ((Int × (List Int) × List (Int × Int × Int × Int × Int × Int)) ⊕ (List (Int × Int × Int × Int × Int × Int))) :=
 cond (decide (s8.1 < ((((ln a1) : Nat) : Int))))
  ((rd a1 s8.1).bind fun x9 =>
  ((((((cond (decide (x9.1 = 7))
   ((ix s8.1 ((ln r4.2))).bind fun j10 =>
   (r4.2[j10]?).bind fun x11 =>
   some (decide (x11 = 0)))
   (some false)) : Op (Bool))).bind fun s12 =>
  cond (s12)
   ((ix s8.1 ((ln r3.2))).bind fun j13 =>
   (r3.2[j13]?).bind fun x14 =>
   some ((.inl ((x14, s8.2.1, s8.2.2)))))
   (cond (decide (x9.1 = 7))
    (gd (fits (ln s8.2.1 + 1) 8) (some ((.inr ((s8.1, s8.2.2, (s8.2.1 ++ [(((ln s8.2.2) : Nat) : Int)])))))))
    (cond (decide (x9.1 = 0))
     ((ix (wI (((((ln s8.2.1) : Nat) : Int)) - 1)) ((ln s8.2.1))).bind fun j15 =>
     (s8.2.1[j15]?).bind fun x16 =>
     gd (cutG 0 (wI (((((ln s8.2.1) : Nat) : Int)) - 1)) ((ln s8.2.1))) ((ix x16 ((ln s8.2.2))).bind fun j17 =>
     (s8.2.2[j17]?).bind fun x18 =>
     gd (fits (ln ((List.set s8.2.2 j17 ((x18.1, (x18.2.1, (x18.2.2.1, (x18.2.2.2.1, (x18.2.2.2.2.1, wI (((((ln s8.2.2) : Nat) : Int)) + 1))))))))) + 1) 48) (some ((.inl ((s8.1, (List.take (((tN (wI (((((ln s8.2.1) : Nat) : Int)) - 1))) - 0)) s8.2.1), ((List.set s8.2.2 j17 ((x18.1, (x18.2.1, (x18.2.2.1, (x18.2.2.2.1, (x18.2.2.2.2.1, wI (((((ln s8.2.2) : Nat) : Int)) + 1)))))))) ++ [(x9.1, (x9.2.1, (x9.2.2.1, (x9.2.2.2.1, (x9.2.2.2.2, wI (x16 + 1))))))]))))))))
     (some ((.inr ((s8.1, s8.2.2, s8.2.1)))))))) : Op ((Int × (List Int) × List (Int × Int × Int × Int × Int × Int)) ⊕ (Int × (List (Int × Int × Int × Int × Int × Int)) × List Int)))).bind fun s19 =>
  caseS s19 (fun u'20 =>
   some (.inl ((wI (u'20.1 + 1), u'20.2.1, u'20.2.2))))
   (fun w21 =>
   gd (fits (ln w21.2.1 + 1) 48) (some (.inl ((wI (w21.1 + 1), w21.2.2, (w21.2.1 ++ [(x9.1, (x9.2.1, (x9.2.2.1, (x9.2.2.2.1, (x9.2.2.2.2, 0)))))])))))))
  (some (.inr s8.2.2))
/- backstitch/flat.Code -/
def D_flat_Code (a0 : Int) (a1 : LO) : Op (Int × List (Int × Int × Int × Int × Int × Int)) :=
 (D_check_Program a0 a1).bind fun r2 =>
 cond (decide (r2 ≠ 0))
  (some ((r2, [])))
  ((D_nest_Match a1).bind fun r3 =>
  (D_size_Sizes a1).bind fun r4 =>
  (loopN (D_flat_Code_L0 a1 r3 r4) BIG ((0, [], []))).bind fun r22 =>
  some ((0, r22)))
/- backstitch/tape.ready -/
def D_tape_ready (a0 : Int) (a1 : LO) (a2 a3 : List Int) : Op (Int × List (Int × Int × Int × Int × Int × Int)) :=
 (D_flat_Code a0 a1).bind fun r4 =>
 cond (decide (r4.1 ≠ 0))
  (some ((r4.1, [])))
  ((D_size_Writes a1).bind fun r5 =>
  cond (decide (((((ln a2) : Nat) : Int)) ≠ a0))
   (some ((10, [])))
   (cond (decide (((((ln a3) : Nat) : Int)) < r5.1))
    (some ((15, [])))
    (some ((0, r4.2)))))
/- backstitch/opcode.Apply -/
def D_opcode_Apply (a0 a1 a2 a3 a4 a5 a6 : Int) : Op (Int) :=
 cond (decide (a0 = 1))
  (some (wU (a5 + a6)))
  (cond (decide (a0 = 2))
   (some (wU (a5 - a6)))
   (cond (decide (a0 = 3))
    (some (wU (a5 * a6)))
    (cond (decide (a0 = 4))
     (some (wU (0 - a5)))
     (cond (decide (a0 = 5))
      (some a4)
      (cond (decide (a0 = 6))
       (some a5)
       (some 0))))))
def D_tape_exec_L0 (a0 : List (Int × Int × Int × Int × Int × Int)) : (Int × Int × Int × (List Int) × (List Int) × Int × Int × Int × Int × Int × Int × Int × Int) → Op ((Int × Int × Int × (List Int) × (List Int) × Int × Int × Int × Int × Int × Int × Int × Int) ⊕ (Int × (List Int) × (List Int) × Int × Int × Int × Int × Int × Int × Int × Int)) := fun ⟨s22_0, s22_1, s22_2, s22_3, s22_4, s22_5, s22_6, s22_7, s22_8, s22_9, s22_10, s22_11, s22_12⟩ =>
 cond (decide (s22_0 = ((((ln a0) : Nat) : Int))))
  (some (.inr (((s22_1, s22_3, s22_4, s22_5, s22_6, s22_7, s22_8, s22_9, s22_10, s22_11, s22_12)))))
  ((ix s22_0 ((ln a0))).bind fun j23 =>
  (a0[j23]?).bind fun x24 =>
  cond (decide (x24.1 = 7))
   ((ix s22_2 8).bind fun j25 =>
   some (.inl ((wI (s22_0 + 1), s22_1, wI (s22_2 + 1), s22_3, s22_4, (cond (Nat.beq j25 0) x24.2.2.2.2.1 s22_5), (cond (Nat.beq j25 1) x24.2.2.2.2.1 s22_6), (cond (Nat.beq j25 2) x24.2.2.2.2.1 s22_7), (cond (Nat.beq j25 3) x24.2.2.2.2.1 s22_8), (cond (Nat.beq j25 4) x24.2.2.2.2.1 s22_9), (cond (Nat.beq j25 5) x24.2.2.2.2.1 s22_10), (cond (Nat.beq j25 6) x24.2.2.2.2.1 s22_11), (cond (Nat.beq j25 7) x24.2.2.2.2.1 s22_12)))))
   (cond (decide (x24.1 = 0))
    ((ix (wI (s22_2 - 1)) 8).bind fun j26 =>
    (ix (wI (s22_2 - 1)) 8).bind fun j27 =>
    (ix (wI (s22_2 - 1)) 8).bind fun j28 =>
    cond (decide (0 < ((List.getD [(cond (Nat.beq j27 0) (wU (((List.getD [s22_5, s22_6, s22_7, s22_8, s22_9, s22_10, s22_11, s22_12] j26 0)) - 1)) s22_5), (cond (Nat.beq j27 1) (wU (((List.getD [s22_5, s22_6, s22_7, s22_8, s22_9, s22_10, s22_11, s22_12] j26 0)) - 1)) s22_6), (cond (Nat.beq j27 2) (wU (((List.getD [s22_5, s22_6, s22_7, s22_8, s22_9, s22_10, s22_11, s22_12] j26 0)) - 1)) s22_7), (cond (Nat.beq j27 3) (wU (((List.getD [s22_5, s22_6, s22_7, s22_8, s22_9, s22_10, s22_11, s22_12] j26 0)) - 1)) s22_8), (cond (Nat.beq j27 4) (wU (((List.getD [s22_5, s22_6, s22_7, s22_8, s22_9, s22_10, s22_11, s22_12] j26 0)) - 1)) s22_9), (cond (Nat.beq j27 5) (wU (((List.getD [s22_5, s22_6, s22_7, s22_8, s22_9, s22_10, s22_11, s22_12] j26 0)) - 1)) s22_10), (cond (Nat.beq j27 6) (wU (((List.getD [s22_5, s22_6, s22_7, s22_8, s22_9, s22_10, s22_11, s22_12] j26 0)) - 1)) s22_11), (cond (Nat.beq j27 7) (wU (((List.getD [s22_5, s22_6, s22_7, s22_8, s22_9, s22_10, s22_11, s22_12] j26 0)) - 1)) s22_12)] j28 0))))
     (some (.inl ((x24.2.2.2.2.2, s22_1, s22_2, s22_3, s22_4, (cond (Nat.beq j27 0) (wU (((List.getD [s22_5, s22_6, s22_7, s22_8, s22_9, s22_10, s22_11, s22_12] j26 0)) - 1)) s22_5), (cond (Nat.beq j27 1) (wU (((List.getD [s22_5, s22_6, s22_7, s22_8, s22_9, s22_10, s22_11, s22_12] j26 0)) - 1)) s22_6), (cond (Nat.beq j27 2) (wU (((List.getD [s22_5, s22_6, s22_7, s22_8, s22_9, s22_10, s22_11, s22_12] j26 0)) - 1)) s22_7), (cond (Nat.beq j27 3) (wU (((List.getD [s22_5, s22_6, s22_7, s22_8, s22_9, s22_10, s22_11, s22_12] j26 0)) - 1)) s22_8), (cond (Nat.beq j27 4) (wU (((List.getD [s22_5, s22_6, s22_7, s22_8, s22_9, s22_10, s22_11, s22_12] j26 0)) - 1)) s22_9), (cond (Nat.beq j27 5) (wU (((List.getD [s22_5, s22_6, s22_7, s22_8, s22_9, s22_10, s22_11, s22_12] j26 0)) - 1)) s22_10), (cond (Nat.beq j27 6) (wU (((List.getD [s22_5, s22_6, s22_7, s22_8, s22_9, s22_10, s22_11, s22_12] j26 0)) - 1)) s22_11), (cond (Nat.beq j27 7) (wU (((List.getD [s22_5, s22_6, s22_7, s22_8, s22_9, s22_10, s22_11, s22_12] j26 0)) - 1)) s22_12)))))
     (some (.inl ((wI (s22_0 + 1), s22_1, wI (s22_2 - 1), s22_3, s22_4, (cond (Nat.beq j27 0) (wU (((List.getD [s22_5, s22_6, s22_7, s22_8, s22_9, s22_10, s22_11, s22_12] j26 0)) - 1)) s22_5), (cond (Nat.beq j27 1) (wU (((List.getD [s22_5, s22_6, s22_7, s22_8, s22_9, s22_10, s22_11, s22_12] j26 0)) - 1)) s22_6), (cond (Nat.beq j27 2) (wU (((List.getD [s22_5, s22_6, s22_7, s22_8, s22_9, s22_10, s22_11, s22_12] j26 0)) - 1)) s22_7), (cond (Nat.beq j27 3) (wU (((List.getD [s22_5, s22_6, s22_7, s22_8, s22_9, s22_10, s22_11, s22_12] j26 0)) - 1)) s22_8), (cond (Nat.beq j27 4) (wU (((List.getD [s22_5, s22_6, s22_7, s22_8, s22_9, s22_10, s22_11, s22_12] j26 0)) - 1)) s22_9), (cond (Nat.beq j27 5) (wU (((List.getD [s22_5, s22_6, s22_7, s22_8, s22_9, s22_10, s22_11, s22_12] j26 0)) - 1)) s22_10), (cond (Nat.beq j27 6) (wU (((List.getD [s22_5, s22_6, s22_7, s22_8, s22_9, s22_10, s22_11, s22_12] j26 0)) - 1)) s22_11), (cond (Nat.beq j27 7) (wU (((List.getD [s22_5, s22_6, s22_7, s22_8, s22_9, s22_10, s22_11, s22_12] j26 0)) - 1)) s22_12))))))
    ((ix x24.2.1 ((ln s22_3))).bind fun j29 =>
    (s22_3[j29]?).bind fun x30 =>
    (ix s22_1 ((ln s22_4))).bind fun j31 =>
    (s22_4[j31]?).bind fun x32 =>
    (ix x24.2.2.1 ((ln s22_3))).bind fun j33 =>
    (s22_3[j33]?).bind fun x34 =>
    (ix x24.2.2.2.1 ((ln s22_3))).bind fun j35 =>
    (s22_3[j35]?).bind fun x36 =>
    (D_opcode_Apply x24.1 x24.2.1 x24.2.2.1 x24.2.2.2.1 x24.2.2.2.2.1 x34 x36).bind fun r37 =>
    (ix x24.2.1 ((ln s22_3))).bind fun j38 =>
    (s22_3[j38]?).bind fun x39 =>
    some (.inl ((wI (s22_0 + 1), wI (s22_1 + 1), s22_2, (List.set s22_3 j38 r37), (List.set s22_4 j31 x30), s22_5, s22_6, s22_7, s22_8, s22_9, s22_10, s22_11, s22_12))))))
/- backstitch/tape.exec -/
def D_tape_exec (a0 : List (Int × Int × Int × Int × Int × Int)) (a1 a2 : List Int) : Op (Int × (List Int) × List Int) :=
 (loopN (D_tape_exec_L0 a0) BIG ((0, 0, 0, a1, a2, 0, 0, 0, 0, 0, 0, 0, 0))).bind fun ⟨r40_0, r40_1, r40_2, r40_3, r40_4, r40_5, r40_6, r40_7, r40_8, r40_9, r40_10⟩ =>
 some ((r40_0, r40_1, r40_2))
/- backstitch/tape.Record -/
def D_tape_Record (a0 : Int) (a1 : LO) (a2 a3 : List Int) : Op (Int × Int × (List Int) × List Int) :=
 (D_tape_ready a0 a1 a2 a3).bind fun r4 =>
 cond (decide (r4.1 ≠ 0))
  (some ((0, r4.1, a2, a3)))
  ((D_tape_exec r4.2 a2 a3).bind fun r5 =>
  some ((r5.1, 0, r5.2.1, r5.2.2)))
/- (*backstitch/drive.Driver).taped -/
def D_drive_Driver_taped (a0 a1 a2 a3 a4 a5 a6 a7 a8 a9 a10 a11 a12 a13 a14 a15 a16 : Int) (a17 a18 : List Int) (a19 a20 : LO) (a21 : List Int) (a22 a23 a24 a25 a26 a27 a28 : Int) (a29 : List Int) : Op (Int × Int × Int × Int × Int × Int × Int × Int × Int × Int × Int × Int × Int × Int × Int × Int × Int × (List Int) × (List Int) × List Int) :=
 (D_plan_Of a4 a17 a18 a5 a19 a6 a20 a7 a8).bind fun r30 =>
 gd (Nat.beq 1 (Sh.w (.int .u64)) && decide (0 ≤ r30.1) && decide (r30.1 ≤ r30.1) && decide ((8 : Int) * r30.1 ≤ 140737488355328) && Nat.ble 1 8) ((D_drive_Driver_get 1 a0 a1 a2 a3 a4 a5 a6 a7 a8 a9 a10 a11 a12 a13 a14 a15 a16 a17 a18 a19 a20 a21 a22 a23 a24 a25 a26 a27 a28 a29).bind fun r31 =>
 gd (Nat.beq 1 (Sh.w (.int .u64)) && decide (0 ≤ r30.1) && decide (r30.1 ≤ r30.1) && decide ((8 : Int) * r30.1 ≤ 140737488355328) && Nat.ble 1 8) ((D_drive_Driver_begin a5 a19 r31 ([wU (a10)]) a0 a1 a2 a3 a4 a5 a6 a7 a8 a9 a10 a11 a12 a13 a14 a15 a16 a17 a18 a19 a20 a21 a22 a23 a24 a25 a26 a27 a28 a29).bind fun r32 =>
 gd (Nat.beq 1 (Sh.w (.int .u64)) && decide (0 ≤ r30.1) && decide (r30.1 ≤ r30.1) && decide ((8 : Int) * r30.1 ≤ 140737488355328) && Nat.ble 1 8) ((D_tape_Record a5 a19 r32 ((List.replicate (tN r30.1) (0 : Int)))).bind fun r33 =>
 (D_drive_Driver_put_2 2 r33.2.2.1 a0 a1 a2 a3 a4 a5 a6 a7 a8 a9 a10 a11 a12 a13 a14 a15 a16 a17 a18 a19 a20 a21 a22 a23 a24 a25 a26 a27 a28 a29).bind fun r34 =>
 some ((a0, a1, a2, a3, a4, a5, a6, a7, a8, a9, a10, a11, a12, wI (a13 + 1), a14, a15, a16, r34, r33.2.2.1, r33.2.2.2)))))
/- (*backstitch/drive.Driver).shelf -/
def D_drive_Driver_shelf (a0 a1 a2 a3 a4 a5 a6 a7 a8 a9 a10 a11 a12 a13 a14 a15 a16 a17 : Int) (a18 a19 : List Int) (a20 a21 : LO) (a22 : List Int) (a23 a24 a25 a26 a27 a28 a29 : Int) (a30 : List Int) : Op (Int) :=
 (ix 8 ((ln a22))).bind fun j31 =>
 (a22[j31]?).bind fun x32 =>
 some (wI (x32 + (wI (a0 * a3))))
/- backstitch/drive.wide -/
def D_drive_wide (a0 : Int) (a1 : LO) (a2 : List Int) : Op (List Int) :=
 (D_slices_Clone_uint64_uint64 a2).bind fun r3 =>
 gd (zeroFits 8 (wI (a0 - ((((ln a2) : Nat) : Int))))) (gd (fits (ln r3 + ln ((List.replicate (tN (wI (a0 - ((((ln a2) : Nat) : Int))))) (0 : Int)))) 8) (some ((r3 ++ (List.replicate (tN (wI (a0 - ((((ln a2) : Nat) : Int))))) (0 : Int))))))
/- backstitch/opcode.Partials -/
def D_opcode_Partials (a0 a1 a2 a3 a4 a5 a6 : Int) : Op (Int × Int) :=
 cond (decide (a0 = 1))
  (some ((1, 1)))
  (cond (decide (a0 = 2))
   (some ((1, 18446744073709551615)))
   (cond (decide (a0 = 3))
    (some ((a6, a5)))
    (cond (decide (a0 = 4))
     (some ((18446744073709551615, 0)))
     (cond (decide (a0 = 6))
      (some ((1, 0)))
      (some ((0, 0)))))))
/- (backstitch/sweep.state).take -/
def D_sweep_state_take (a0 a1 a2 a3 a4 a5 : Int) (a6 a7 a8 : List Int) : Op ((List Int) × List Int) :=
 (ix a1 ((ln a7))).bind fun j9 =>
 (a7[j9]?).bind fun x10 =>
 (ix a1 ((ln a7))).bind fun j11 =>
 (a7[j11]?).bind fun x12 =>
 (ix a5 ((ln a8))).bind fun j13 =>
 (a8[j13]?).bind fun x14 =>
 (ix a1 ((ln a6))).bind fun j15 =>
 (a6[j15]?).bind fun x16 =>
 (ix a2 ((ln ((List.set a6 j15 x14))))).bind fun j17 =>
 (((List.set a6 j15 x14))[j17]?).bind fun x18 =>
 (ix a3 ((ln ((List.set a6 j15 x14))))).bind fun j19 =>
 (((List.set a6 j15 x14))[j19]?).bind fun x20 =>
 (D_opcode_Partials a0 a1 a2 a3 a4 x18 x20).bind fun r21 =>
 (ix a2 ((ln ((List.set a7 j11 0))))).bind fun j22 =>
 (((List.set a7 j11 0))[j22]?).bind fun x23 =>
 (ix a2 ((ln ((List.set a7 j11 0))))).bind fun j24 =>
 (((List.set a7 j11 0))[j24]?).bind fun x25 =>
 (ix a3 ((ln ((List.set ((List.set a7 j11 0)) j24 (wU (x23 + (wU (r21.1 * x10))))))))).bind fun j26 =>
 (((List.set ((List.set a7 j11 0)) j24 (wU (x23 + (wU (r21.1 * x10))))))[j26]?).bind fun x27 =>
 (ix a3 ((ln ((List.set ((List.set a7 j11 0)) j24 (wU (x23 + (wU (r21.1 * x10))))))))).bind fun j28 =>
 (((List.set ((List.set a7 j11 0)) j24 (wU (x23 + (wU (r21.1 * x10))))))[j28]?).bind fun x29 =>
 some (((List.set a6 j15 x14), (List.set ((List.set ((List.set a7 j11 0)) j24 (wU (x23 + (wU (r21.1 * x10)))))) j28 (wU (x27 + (wU (r21.2 * x10)))))))
def D_sweep_state_back_L0 (a3 : List Int) (a4 : List (Int × Int × Int × Int × Int × Int)) : (Int × Int × Int × (List Int) × (List Int) × Int × Int × Int × Int × Int × Int × Int × Int) → Op ((Int × Int × Int × (List Int) × (List Int) × Int × Int × Int × Int × Int × Int × Int × Int) ⊕ ((List Int) × (List Int) × Int × Int × Int × Int × Int × Int × Int × Int)) := fun ⟨s26_0, s26_1, s26_2, s26_3, s26_4, s26_5, s26_6, s26_7, s26_8, s26_9, s26_10, s26_11, s26_12⟩ =>
 cond (decide (s26_0 < 0))
  (some (.inr (((s26_3, s26_4, s26_5, s26_6, s26_7, s26_8, s26_9, s26_10, s26_11, s26_12)))))
  ((ix s26_0 ((ln a4))).bind fun j27 =>
  (a4[j27]?).bind fun x28 =>
  cond (decide (x28.1 = 0))
   ((ix (wI (x28.2.2.2.2.2 - 1)) ((ln a4))).bind fun j29 =>
   (a4[j29]?).bind fun x30 =>
   (ix s26_1 8).bind fun j31 =>
   some (.inl ((wI (s26_0 - 1), wI (s26_1 + 1), s26_2, s26_3, s26_4, (cond (Nat.beq j31 0) x30.2.2.2.2.1 s26_5), (cond (Nat.beq j31 1) x30.2.2.2.2.1 s26_6), (cond (Nat.beq j31 2) x30.2.2.2.2.1 s26_7), (cond (Nat.beq j31 3) x30.2.2.2.2.1 s26_8), (cond (Nat.beq j31 4) x30.2.2.2.2.1 s26_9), (cond (Nat.beq j31 5) x30.2.2.2.2.1 s26_10), (cond (Nat.beq j31 6) x30.2.2.2.2.1 s26_11), (cond (Nat.beq j31 7) x30.2.2.2.2.1 s26_12)))))
   (cond (decide (x28.1 = 7))
    ((ix (wI (s26_1 - 1)) 8).bind fun j32 =>
    (ix (wI (s26_1 - 1)) 8).bind fun j33 =>
    (ix (wI (s26_1 - 1)) 8).bind fun j34 =>
    cond (decide (0 < ((List.getD [(cond (Nat.beq j33 0) (wU (((List.getD [s26_5, s26_6, s26_7, s26_8, s26_9, s26_10, s26_11, s26_12] j32 0)) - 1)) s26_5), (cond (Nat.beq j33 1) (wU (((List.getD [s26_5, s26_6, s26_7, s26_8, s26_9, s26_10, s26_11, s26_12] j32 0)) - 1)) s26_6), (cond (Nat.beq j33 2) (wU (((List.getD [s26_5, s26_6, s26_7, s26_8, s26_9, s26_10, s26_11, s26_12] j32 0)) - 1)) s26_7), (cond (Nat.beq j33 3) (wU (((List.getD [s26_5, s26_6, s26_7, s26_8, s26_9, s26_10, s26_11, s26_12] j32 0)) - 1)) s26_8), (cond (Nat.beq j33 4) (wU (((List.getD [s26_5, s26_6, s26_7, s26_8, s26_9, s26_10, s26_11, s26_12] j32 0)) - 1)) s26_9), (cond (Nat.beq j33 5) (wU (((List.getD [s26_5, s26_6, s26_7, s26_8, s26_9, s26_10, s26_11, s26_12] j32 0)) - 1)) s26_10), (cond (Nat.beq j33 6) (wU (((List.getD [s26_5, s26_6, s26_7, s26_8, s26_9, s26_10, s26_11, s26_12] j32 0)) - 1)) s26_11), (cond (Nat.beq j33 7) (wU (((List.getD [s26_5, s26_6, s26_7, s26_8, s26_9, s26_10, s26_11, s26_12] j32 0)) - 1)) s26_12)] j34 0))))
     (some (.inl ((wI (x28.2.2.2.2.2 - 2), s26_1, s26_2, s26_3, s26_4, (cond (Nat.beq j33 0) (wU (((List.getD [s26_5, s26_6, s26_7, s26_8, s26_9, s26_10, s26_11, s26_12] j32 0)) - 1)) s26_5), (cond (Nat.beq j33 1) (wU (((List.getD [s26_5, s26_6, s26_7, s26_8, s26_9, s26_10, s26_11, s26_12] j32 0)) - 1)) s26_6), (cond (Nat.beq j33 2) (wU (((List.getD [s26_5, s26_6, s26_7, s26_8, s26_9, s26_10, s26_11, s26_12] j32 0)) - 1)) s26_7), (cond (Nat.beq j33 3) (wU (((List.getD [s26_5, s26_6, s26_7, s26_8, s26_9, s26_10, s26_11, s26_12] j32 0)) - 1)) s26_8), (cond (Nat.beq j33 4) (wU (((List.getD [s26_5, s26_6, s26_7, s26_8, s26_9, s26_10, s26_11, s26_12] j32 0)) - 1)) s26_9), (cond (Nat.beq j33 5) (wU (((List.getD [s26_5, s26_6, s26_7, s26_8, s26_9, s26_10, s26_11, s26_12] j32 0)) - 1)) s26_10), (cond (Nat.beq j33 6) (wU (((List.getD [s26_5, s26_6, s26_7, s26_8, s26_9, s26_10, s26_11, s26_12] j32 0)) - 1)) s26_11), (cond (Nat.beq j33 7) (wU (((List.getD [s26_5, s26_6, s26_7, s26_8, s26_9, s26_10, s26_11, s26_12] j32 0)) - 1)) s26_12)))))
     (some (.inl ((wI (s26_0 - 1), wI (s26_1 - 1), s26_2, s26_3, s26_4, (cond (Nat.beq j33 0) (wU (((List.getD [s26_5, s26_6, s26_7, s26_8, s26_9, s26_10, s26_11, s26_12] j32 0)) - 1)) s26_5), (cond (Nat.beq j33 1) (wU (((List.getD [s26_5, s26_6, s26_7, s26_8, s26_9, s26_10, s26_11, s26_12] j32 0)) - 1)) s26_6), (cond (Nat.beq j33 2) (wU (((List.getD [s26_5, s26_6, s26_7, s26_8, s26_9, s26_10, s26_11, s26_12] j32 0)) - 1)) s26_7), (cond (Nat.beq j33 3) (wU (((List.getD [s26_5, s26_6, s26_7, s26_8, s26_9, s26_10, s26_11, s26_12] j32 0)) - 1)) s26_8), (cond (Nat.beq j33 4) (wU (((List.getD [s26_5, s26_6, s26_7, s26_8, s26_9, s26_10, s26_11, s26_12] j32 0)) - 1)) s26_9), (cond (Nat.beq j33 5) (wU (((List.getD [s26_5, s26_6, s26_7, s26_8, s26_9, s26_10, s26_11, s26_12] j32 0)) - 1)) s26_10), (cond (Nat.beq j33 6) (wU (((List.getD [s26_5, s26_6, s26_7, s26_8, s26_9, s26_10, s26_11, s26_12] j32 0)) - 1)) s26_11), (cond (Nat.beq j33 7) (wU (((List.getD [s26_5, s26_6, s26_7, s26_8, s26_9, s26_10, s26_11, s26_12] j32 0)) - 1)) s26_12))))))
    ((D_sweep_state_take x28.1 x28.2.1 x28.2.2.1 x28.2.2.2.1 x28.2.2.2.2.1 (wI (s26_2 - 1)) s26_3 s26_4 a3).bind fun r35 =>
    some (.inl ((wI (s26_0 - 1), s26_1, wI (s26_2 - 1), r35.1, r35.2, s26_5, s26_6, s26_7, s26_8, s26_9, s26_10, s26_11, s26_12))))))
/- (backstitch/sweep.state).back -/
def D_sweep_state_back (a0 : Int) (a1 a2 a3 : List Int) (a4 : List (Int × Int × Int × Int × Int × Int)) : Op ((List Int) × List Int) :=
 (loopN (D_sweep_state_back_L0 a3 a4) BIG ((wI (((((ln a4) : Nat) : Int)) - 1), 0, a0, a1, a2, 0, 0, 0, 0, 0, 0, 0, 0))).bind fun ⟨r36_0, r36_1, r36_2, r36_3, r36_4, r36_5, r36_6, r36_7, r36_8, r36_9⟩ =>
 some ((r36_0, r36_1))
/- backstitch/sweep.Back -/
def D_sweep_Back (a0 : Int) (a1 : LO) (a2 a3 a4 : List Int) : Op (Int × (List Int) × List Int) :=
 (D_flat_Code a0 a1).bind fun r5 =>
 cond (decide (r5.1 ≠ 0))
  (some ((r5.1, a2, a3)))
  ((D_size_Writes a1).bind fun r6 =>
  cond (decide (((((ln a2) : Nat) : Int)) ≠ a0))
   (some ((10, a2, a3)))
   (cond (decide (((((ln a3) : Nat) : Int)) ≠ a0))
    (some ((10, a2, a3)))
    (cond (decide (((((ln a4) : Nat) : Int)) < r6.1))
     (some ((15, a2, a3)))
     ((D_sweep_state_back r6.1 a2 a3 a4 r5.2).bind fun r7 =>
     some ((0, r7.1, r7.2))))))
def D_drive_Driver_back_L0 (a22 : List Int) (r34 : Int × (List Int) × List Int) (r37 : List Int) (s40 : Int × List Int) : Op ((Int × List Int) ⊕ (List Int)) :=
 cond (decide (s40.1 < ((((ln r37) : Nat) : Int))))
  ((ix s40.1 ((ln s40.2))).bind fun j41 =>
  (s40.2[j41]?).bind fun x42 =>
  (ix (wI (((((ln a22) : Nat) : Int)) + s40.1)) ((ln r34.2.2))).bind fun j43 =>
  (r34.2.2[j43]?).bind fun x44 =>
  (ix s40.1 ((ln s40.2))).bind fun j45 =>
  (s40.2[j45]?).bind fun x46 =>
  some (.inl ((wI (s40.1 + 1), (List.set s40.2 j45 (wU (x42 + x44)))))))
  (some (.inr s40.2))
/- (*backstitch/drive.Driver).back -/
def D_drive_Driver_back (a0 a1 a2 a3 a4 a5 a6 a7 a8 a9 a10 a11 a12 a13 a14 a15 a16 a17 : Int) (a18 : LO) (a19 a20 a21 a22 a23 : List Int) (a24 : LO) (a25 : List Int) (a26 a27 a28 a29 a30 a31 a32 : Int) (a33 : List Int) : Op (Int × Int × Int × Int × Int × Int × Int × Int × Int × Int × Int × Int × Int × Int × Int × Int × Int × (List Int) × (List Int) × List Int) :=
 (D_sweep_Back a0 a18 a19 a20 a21).bind fun r34 =>
 (D_drive_Driver_put_2 4 r34.2.2 a1 a2 a3 a4 a5 a6 a7 a8 a9 a10 a11 a12 a13 a14 a15 a16 a17 a22 a23 a24 a18 a25 a26 a27 a28 a29 a30 a31 a32 a33).bind fun r35 =>
 gd (cutG 0 ((((ln a22) : Nat) : Int)) ((ln r34.2.2))) ((D_drive_Driver_put_2 5 ((List.take (((tN ((((ln a22) : Nat) : Int))) - 0)) (List.drop 0 r34.2.2))) a1 a2 a3 a4 a5 a6 a7 a8 a9 a10 a11 a12 a13 a14 a15 a16 a17 a22 a23 a24 a18 a25 a26 a27 a28 a29 a30 a31 a32 r35).bind fun r36 =>
 (D_drive_Driver_get 6 a1 a2 a3 a4 a5 a6 a7 a8 a9 a10 a11 a12 a13 a14 a15 a16 a17 a22 a23 a24 a18 a25 a26 a27 a28 a29 a30 a31 a32 r36).bind fun r37 =>
 (loopN (D_drive_Driver_back_L0 a22 r34 r37) BIG ((0, r37))).bind fun r47 =>
 (D_drive_Driver_put_2 6 r47 a1 a2 a3 a4 a5 a6 a7 a8 a9 a10 a11 a12 a13 a14 a15 a16 a17 a22 a23 a24 a18 a25 a26 a27 a28 a29 a30 a31 a32 r36).bind fun r48 =>
 some ((a1, a2, a3, a4, a5, a6, a7, a8, a9, a10, a11, a12, a13, a14, a15, wI (a16 + 1), a17, r34.2.1, r34.2.2, r48)))
/- (*backstitch/drive.Driver).end -/
def D_drive_Driver_end (a0 : List Int) (a1 a2 a3 a4 a5 a6 a7 a8 a9 a10 a11 a12 a13 a14 a15 a16 a17 : Int) (a18 a19 : List Int) (a20 a21 : LO) (a22 : List Int) (a23 a24 a25 a26 a27 a28 a29 : Int) (a30 : List Int) : Op (Int × Int × Int × Int × Int × Int × Int × Int × Int × Int × Int × Int × Int × Int × Int × Int × Int × List Int) :=
 (D_plan_Of a5 a18 a19 a6 a20 a7 a21 a8 a9).bind fun r31 =>
 gd (Nat.beq 1 (Sh.w (.int .u64)) && decide (0 ≤ r31.2) && decide (r31.2 ≤ r31.2) && decide ((8 : Int) * r31.2 ≤ 140737488355328) && Nat.ble 1 8) ((D_drive_Driver_begin a7 a21 a0 [] a1 a2 a3 a4 a5 a6 a7 a8 a9 a10 a11 a12 a13 a14 a15 a16 a17 a18 a19 a20 a21 a22 a23 a24 a25 a26 a27 a28 a29 a30).bind fun r32 =>
 gd (Nat.beq 1 (Sh.w (.int .u64)) && decide (0 ≤ r31.2) && decide (r31.2 ≤ r31.2) && decide ((8 : Int) * r31.2 ≤ 140737488355328) && Nat.ble 1 8) ((D_tape_Record a7 a21 r32 ((List.replicate (tN r31.2) (0 : Int)))).bind fun r33 =>
 (ix 0 ((ln r33.2.2.1))).bind fun j34 =>
 (r33.2.2.1[j34]?).bind fun x35 =>
 (D_drive_Driver_put_2 3 r33.2.2.1 a1 a2 a3 a4 a5 a6 a7 a8 a9 a10 a11 a12 a13 a14 (wI (a15 + 1)) a16 x35 a18 a19 a20 a21 a22 a23 a24 a25 a26 a27 a28 a29 a30).bind fun r36 =>
 (D_drive_wide a7 a21 [1]).bind fun r37 =>
 (D_drive_Driver_back a7 a1 a2 a3 a4 a5 a6 a7 a8 a9 a10 a11 a12 a13 a14 (wI (a15 + 1)) a16 x35 a21 r33.2.2.1 r37 r33.2.2.2 a18 a19 a20 a22 a23 a24 a25 a26 a27 a28 a29 r36).bind fun ⟨r38_0, r38_1, r38_2, r38_3, r38_4, r38_5, r38_6, r38_7, r38_8, r38_9, r38_10, r38_11, r38_12, r38_13, r38_14, r38_15, r38_16, r38_17, r38_18, r38_19⟩ =>
 some ((r38_0, r38_1, r38_2, r38_3, r38_4, r38_5, r38_6, r38_7, r38_8, r38_9, r38_10, r38_11, r38_12, r38_13, r38_14, r38_15, r38_16, r38_19))))
/- (*backstitch/meter.Meter).Drop -/
def D_meter_Meter_Drop (a0 a1 a2 a3 : Int) : Op (Int × Int × Int × Int) :=
 cond (decide (a0 < 0))
  (some ((2, a1, a2, a3)))
  (cond (decide (a1 < a0))
   (some ((2, a1, a2, a3)))
   ((D_meter_counter_add (wI (0 - a0)) a1 a2 a3).bind fun r4 =>
   some ((0, r4.1, r4.2.1, r4.2.2))))
/- (*backstitch/drive.Driver).seed -/
def D_drive_Driver_seed (a0 a1 a2 a3 a4 a5 a6 a7 a8 a9 a10 a11 a12 a13 a14 a15 a16 a17 : Int) (a18 a19 : List Int) (a20 a21 : LO) (a22 : List Int) (a23 a24 a25 a26 a27 a28 a29 : Int) (a30 : List Int) : Op (Int × Int × Int × Int × Int × Int × Int × Int × Int × Int × Int × Int × Int × Int × Int × Int × Int × Int × Int × Int × List Int) :=
 (D_plan_Of a5 a18 a19 a6 a20 a7 a21 a8 a9).bind fun r31 =>
 (D_meter_Meter_Hold r31.2 a27 a28 a29).bind fun r32 =>
 (D_drive_Driver_get 1 a1 a2 a3 a4 a5 a6 a7 a8 a9 a10 a11 a12 a13 a14 a15 a16 a17 a18 a19 a20 a21 a22 a23 a24 a25 a26 r32.2.1 r32.2.2.1 r32.2.2.2 a30).bind fun r33 =>
 (D_drive_Driver_end r33 a1 a2 a3 a4 a5 a6 a7 a8 a9 a10 a11 a12 a13 a14 a15 a16 a17 a18 a19 a20 a21 a22 a23 a24 a25 a26 r32.2.1 r32.2.2.1 r32.2.2.2 a30).bind fun ⟨r34_0, r34_1, r34_2, r34_3, r34_4, r34_5, r34_6, r34_7, r34_8, r34_9, r34_10, r34_11, r34_12, r34_13, r34_14, r34_15, r34_16, r34_17⟩ =>
 (D_meter_Meter_Drop r31.2 r32.2.1 r32.2.2.1 r32.2.2.2).bind fun r35 =>
 some ((r34_0, r34_1, r34_2, r34_3, r34_4, r34_5, r34_6, r34_7, r34_8, r34_9, r34_10, r34_11, r34_12, r34_13, r34_14, r34_15, r34_16, r35.2.1, r35.2.2.1, r35.2.2.2, r34_17))
def D_drive_Driver_plain_L0 (a19 : List Int) (r47 : List Int) (r51 : List Int) (s54 : Int × List Int) : Op ((Int × List Int) ⊕ (List Int)) :=
 cond (decide (s54.1 < ((((ln r51) : Nat) : Int))))
  ((ix s54.1 ((ln s54.2))).bind fun j55 =>
  (s54.2[j55]?).bind fun x56 =>
  (ix (wI (((((ln a19) : Nat) : Int)) + s54.1)) ((ln r47))).bind fun j57 =>
  (r47[j57]?).bind fun x58 =>
  (ix s54.1 ((ln s54.2))).bind fun j59 =>
  (s54.2[j59]?).bind fun x60 =>
  some (.inl ((wI (s54.1 + 1), (List.set s54.2 j59 (wU (x56 + x58)))))))
  (some (.inr s54.2))
def D_drive_Driver_plain_L1 (a19 : List Int) (r47 : List Int) (r68 : List Int) (s71 : Int × List Int) : Op ((Int × List Int) ⊕ (List Int)) :=
 cond (decide (s71.1 < ((((ln r68) : Nat) : Int))))
  ((ix s71.1 ((ln s71.2))).bind fun j72 =>
  (s71.2[j72]?).bind fun x73 =>
  (ix (wI (((((ln a19) : Nat) : Int)) + s71.1)) ((ln r47))).bind fun j74 =>
  (r47[j74]?).bind fun x75 =>
  (ix s71.1 ((ln s71.2))).bind fun j76 =>
  (s71.2[j76]?).bind fun x77 =>
  some (.inl ((wI (s71.1 + 1), (List.set s71.2 j76 (wU (x73 + x75)))))))
  (some (.inr s71.2))
def D_drive_Driver_plain_L2 (a19 : List Int) (r47 : List Int) (r84 : List Int) (s87 : Int × List Int) : Op ((Int × List Int) ⊕ (List Int)) :=
 cond (decide (s87.1 < ((((ln r84) : Nat) : Int))))
  ((ix s87.1 ((ln s87.2))).bind fun j88 =>
  (s87.2[j88]?).bind fun x89 =>
  (ix (wI (((((ln a19) : Nat) : Int)) + s87.1)) ((ln r47))).bind fun j90 =>
  (r47[j90]?).bind fun x91 =>
  (ix s87.1 ((ln s87.2))).bind fun j92 =>
  (s87.2[j92]?).bind fun x93 =>
  some (.inl ((wI (s87.1 + 1), (List.set s87.2 j92 (wU (x89 + x91)))))))
  (some (.inr s87.2))
def D_drive_Driver_plain_L3 (a19 : List Int) (r47 : List Int) (r100 : List Int) (s103 : Int × List Int) : Op ((Int × List Int) ⊕ (List Int)) :=
 cond (decide (s103.1 < ((((ln r100) : Nat) : Int))))
  ((ix s103.1 ((ln s103.2))).bind fun j104 =>
  (s103.2[j104]?).bind fun x105 =>
  (ix (wI (((((ln a19) : Nat) : Int)) + s103.1)) ((ln r47))).bind fun j106 =>
  (r47[j106]?).bind fun x107 =>
  (ix s103.1 ((ln s103.2))).bind fun j108 =>
  (s103.2[j108]?).bind fun x109 =>
  some (.inl ((wI (s103.1 + 1), (List.set s103.2 j108 (wU (x105 + x107)))))))
  (some (.inr s103.2))
def D_drive_Driver_plain_L4 (a7 : Int) (r45 : Int × List Int) (r48 : Int × List (Int × Int × Int × Int × Int × Int)) : (Int × Int × Int × (List Int) × (List Int) × Int × Int × Int × Int × Int × Int × Int × Int) → Op ((Int × Int × Int × (List Int) × (List Int) × Int × Int × Int × Int × Int × Int × Int × Int) ⊕ ((List Int) × (List Int) × Int × Int × Int × Int × Int × Int × Int × Int)) := fun ⟨s135_0, s135_1, s135_2, s135_3, s135_4, s135_5, s135_6, s135_7, s135_8, s135_9, s135_10, s135_11, s135_12⟩ =>
 cond (decide (s135_0 < 0))
  (some (.inr (((s135_3, s135_4, s135_5, s135_6, s135_7, s135_8, s135_9, s135_10, s135_11, s135_12)))))
  ((ix s135_0 ((ln r48.2))).bind fun j136 =>
  (r48.2[j136]?).bind fun x137 =>
  cond (decide (x137.1 = 0))
   ((ix (wI (x137.2.2.2.2.2 - 1)) ((ln r48.2))).bind fun j138 =>
   (r48.2[j138]?).bind fun x139 =>
   (ix s135_1 8).bind fun j140 =>
   some (.inl ((wI (s135_0 - 1), wI (s135_1 + 1), s135_2, s135_3, s135_4, (cond (Nat.beq j140 0) x139.2.2.2.2.1 s135_5), (cond (Nat.beq j140 1) x139.2.2.2.2.1 s135_6), (cond (Nat.beq j140 2) x139.2.2.2.2.1 s135_7), (cond (Nat.beq j140 3) x139.2.2.2.2.1 s135_8), (cond (Nat.beq j140 4) x139.2.2.2.2.1 s135_9), (cond (Nat.beq j140 5) x139.2.2.2.2.1 s135_10), (cond (Nat.beq j140 6) x139.2.2.2.2.1 s135_11), (cond (Nat.beq j140 7) x139.2.2.2.2.1 s135_12)))))
   (cond (decide (x137.1 = 7))
    ((ix (wI (s135_1 - 1)) 8).bind fun j141 =>
    (ix (wI (s135_1 - 1)) 8).bind fun j142 =>
    (ix (wI (s135_1 - 1)) 8).bind fun j143 =>
    cond (decide (0 < ((List.getD [(cond (Nat.beq j142 0) (wU (((List.getD [s135_5, s135_6, s135_7, s135_8, s135_9, s135_10, s135_11, s135_12] j141 0)) - 1)) s135_5), (cond (Nat.beq j142 1) (wU (((List.getD [s135_5, s135_6, s135_7, s135_8, s135_9, s135_10, s135_11, s135_12] j141 0)) - 1)) s135_6), (cond (Nat.beq j142 2) (wU (((List.getD [s135_5, s135_6, s135_7, s135_8, s135_9, s135_10, s135_11, s135_12] j141 0)) - 1)) s135_7), (cond (Nat.beq j142 3) (wU (((List.getD [s135_5, s135_6, s135_7, s135_8, s135_9, s135_10, s135_11, s135_12] j141 0)) - 1)) s135_8), (cond (Nat.beq j142 4) (wU (((List.getD [s135_5, s135_6, s135_7, s135_8, s135_9, s135_10, s135_11, s135_12] j141 0)) - 1)) s135_9), (cond (Nat.beq j142 5) (wU (((List.getD [s135_5, s135_6, s135_7, s135_8, s135_9, s135_10, s135_11, s135_12] j141 0)) - 1)) s135_10), (cond (Nat.beq j142 6) (wU (((List.getD [s135_5, s135_6, s135_7, s135_8, s135_9, s135_10, s135_11, s135_12] j141 0)) - 1)) s135_11), (cond (Nat.beq j142 7) (wU (((List.getD [s135_5, s135_6, s135_7, s135_8, s135_9, s135_10, s135_11, s135_12] j141 0)) - 1)) s135_12)] j143 0))))
     (some (.inl ((wI (x137.2.2.2.2.2 - 2), s135_1, s135_2, s135_3, s135_4, (cond (Nat.beq j142 0) (wU (((List.getD [s135_5, s135_6, s135_7, s135_8, s135_9, s135_10, s135_11, s135_12] j141 0)) - 1)) s135_5), (cond (Nat.beq j142 1) (wU (((List.getD [s135_5, s135_6, s135_7, s135_8, s135_9, s135_10, s135_11, s135_12] j141 0)) - 1)) s135_6), (cond (Nat.beq j142 2) (wU (((List.getD [s135_5, s135_6, s135_7, s135_8, s135_9, s135_10, s135_11, s135_12] j141 0)) - 1)) s135_7), (cond (Nat.beq j142 3) (wU (((List.getD [s135_5, s135_6, s135_7, s135_8, s135_9, s135_10, s135_11, s135_12] j141 0)) - 1)) s135_8), (cond (Nat.beq j142 4) (wU (((List.getD [s135_5, s135_6, s135_7, s135_8, s135_9, s135_10, s135_11, s135_12] j141 0)) - 1)) s135_9), (cond (Nat.beq j142 5) (wU (((List.getD [s135_5, s135_6, s135_7, s135_8, s135_9, s135_10, s135_11, s135_12] j141 0)) - 1)) s135_10), (cond (Nat.beq j142 6) (wU (((List.getD [s135_5, s135_6, s135_7, s135_8, s135_9, s135_10, s135_11, s135_12] j141 0)) - 1)) s135_11), (cond (Nat.beq j142 7) (wU (((List.getD [s135_5, s135_6, s135_7, s135_8, s135_9, s135_10, s135_11, s135_12] j141 0)) - 1)) s135_12)))))
     (some (.inl ((wI (s135_0 - 1), wI (s135_1 - 1), s135_2, s135_3, s135_4, (cond (Nat.beq j142 0) (wU (((List.getD [s135_5, s135_6, s135_7, s135_8, s135_9, s135_10, s135_11, s135_12] j141 0)) - 1)) s135_5), (cond (Nat.beq j142 1) (wU (((List.getD [s135_5, s135_6, s135_7, s135_8, s135_9, s135_10, s135_11, s135_12] j141 0)) - 1)) s135_6), (cond (Nat.beq j142 2) (wU (((List.getD [s135_5, s135_6, s135_7, s135_8, s135_9, s135_10, s135_11, s135_12] j141 0)) - 1)) s135_7), (cond (Nat.beq j142 3) (wU (((List.getD [s135_5, s135_6, s135_7, s135_8, s135_9, s135_10, s135_11, s135_12] j141 0)) - 1)) s135_8), (cond (Nat.beq j142 4) (wU (((List.getD [s135_5, s135_6, s135_7, s135_8, s135_9, s135_10, s135_11, s135_12] j141 0)) - 1)) s135_9), (cond (Nat.beq j142 5) (wU (((List.getD [s135_5, s135_6, s135_7, s135_8, s135_9, s135_10, s135_11, s135_12] j141 0)) - 1)) s135_10), (cond (Nat.beq j142 6) (wU (((List.getD [s135_5, s135_6, s135_7, s135_8, s135_9, s135_10, s135_11, s135_12] j141 0)) - 1)) s135_11), (cond (Nat.beq j142 7) (wU (((List.getD [s135_5, s135_6, s135_7, s135_8, s135_9, s135_10, s135_11, s135_12] j141 0)) - 1)) s135_12))))))
    ((ix x137.2.1 ((ln s135_4))).bind fun j144 =>
    (s135_4[j144]?).bind fun x145 =>
    (ix x137.2.1 ((ln s135_4))).bind fun j146 =>
    (s135_4[j146]?).bind fun x147 =>
    (ix (wI (s135_2 - 1)) (((tN (wI (((((ln r45.2) : Nat) : Int)) - a7))) - 0))).bind fun j148 =>
    (s135_3[(0 + j148)]?).bind fun x149 =>
    (ix x137.2.1 (((tN ((((ln r45.2) : Nat) : Int))) - (tN (wI (((((ln r45.2) : Nat) : Int)) - a7)))))).bind fun j150 =>
    (s135_3[((tN (wI (((((ln r45.2) : Nat) : Int)) - a7))) + j150)]?).bind fun x151 =>
    (ix x137.2.2.1 (((tN ((((ln r45.2) : Nat) : Int))) - (tN (wI (((((ln r45.2) : Nat) : Int)) - a7)))))).bind fun j152 =>
    (((List.set s135_3 ((tN (wI (((((ln r45.2) : Nat) : Int)) - a7))) + j150) x149))[((tN (wI (((((ln r45.2) : Nat) : Int)) - a7))) + j152)]?).bind fun x153 =>
    (ix x137.2.2.2.1 (((tN ((((ln r45.2) : Nat) : Int))) - (tN (wI (((((ln r45.2) : Nat) : Int)) - a7)))))).bind fun j154 =>
    (((List.set s135_3 ((tN (wI (((((ln r45.2) : Nat) : Int)) - a7))) + j150) x149))[((tN (wI (((((ln r45.2) : Nat) : Int)) - a7))) + j154)]?).bind fun x155 =>
    (D_opcode_Partials x137.1 x137.2.1 x137.2.2.1 x137.2.2.2.1 x137.2.2.2.2.1 x153 x155).bind fun r156 =>
    (ix x137.2.2.1 ((ln ((List.set s135_4 j146 0))))).bind fun j157 =>
    (((List.set s135_4 j146 0))[j157]?).bind fun x158 =>
    (ix x137.2.2.1 ((ln ((List.set s135_4 j146 0))))).bind fun j159 =>
    (((List.set s135_4 j146 0))[j159]?).bind fun x160 =>
    (ix x137.2.2.2.1 ((ln ((List.set ((List.set s135_4 j146 0)) j159 (wU (x158 + (wU (r156.1 * x145))))))))).bind fun j161 =>
    (((List.set ((List.set s135_4 j146 0)) j159 (wU (x158 + (wU (r156.1 * x145))))))[j161]?).bind fun x162 =>
    (ix x137.2.2.2.1 ((ln ((List.set ((List.set s135_4 j146 0)) j159 (wU (x158 + (wU (r156.1 * x145))))))))).bind fun j163 =>
    (((List.set ((List.set s135_4 j146 0)) j159 (wU (x158 + (wU (r156.1 * x145))))))[j163]?).bind fun x164 =>
    some (.inl ((wI (s135_0 - 1), s135_1, wI (s135_2 - 1), (List.set s135_3 ((tN (wI (((((ln r45.2) : Nat) : Int)) - a7))) + j150) x149), (List.set ((List.set ((List.set s135_4 j146 0)) j159 (wU (x158 + (wU (r156.1 * x145)))))) j163 (wU (x162 + (wU (r156.2 * x145))))), s135_5, s135_6, s135_7, s135_8, s135_9, s135_10, s135_11, s135_12))))))
def D_drive_Driver_plain_L5 (a19 : List Int) (r165_1 : List Int) (r168 : List Int) (s171 : Int × List Int) : Op ((Int × List Int) ⊕ (List Int)) :=
 cond (decide (s171.1 < ((((ln r168) : Nat) : Int))))
  ((ix s171.1 ((ln s171.2))).bind fun j172 =>
  (s171.2[j172]?).bind fun x173 =>
  (ix (wI (((((ln a19) : Nat) : Int)) + s171.1)) ((ln r165_1))).bind fun j174 =>
  (r165_1[j174]?).bind fun x175 =>
  (ix s171.1 ((ln s171.2))).bind fun j176 =>
  (s171.2[j176]?).bind fun x177 =>
  some (.inl ((wI (s171.1 + 1), (List.set s171.2 j176 (wU (x173 + x175)))))))
  (some (.inr s171.2))
/- (*backstitch/drive.Driver).plain -/
def D_drive_Driver_plain (a0 a1 a2 a3 a4 a5 a6 a7 a8 a9 a10 a11 a12 a13 a14 a15 a16 a17 a18 : Int) (a19 a20 : List Int) (a21 a22 : LO) (a23 : List Int) (a24 a25 a26 a27 a28 a29 a30 : Int) (a31 : List Int) : Op (Int × Int × Int × Int × Int × Int × Int × Int × Int × Int × Int × Int × Int × Int × Int × Int × Int × Int × Int × Int × Int × List Int) :=
 (((cond (decide (a0 = 8))
  (some true)
  (some (decide (a0 = 5)))) : Op (Bool))).bind fun s32 =>
 ((((((cond (decide (a1 ≠ 0))
  (some true)
  (cond (!s32)
   (some (decide (a0 ≠ 9)))
   (some false))) : Op (Bool))).bind fun s33 =>
 cond (s33)
  (some ((.inl 2)))
  ((((cond (s32)
   (cond (decide (0 ≤ a13))
    (some true)
    (cond (!s32)
     (some (decide (a13 < 1)))
     (some false)))
   (cond (!s32)
    (some (decide (a13 < 1)))
    (some false))) : Op (Bool))).bind fun s34 =>
  cond (s34)
   (some ((.inl 18)))
   (cond (s32)
    (cond (!((decide (a0 = 5)) == (decide (a12 = a11))))
     (some ((.inl 17)))
     (some ((.inr ()))))
    (some ((.inr ())))))) : Op ((Int) ⊕ (Unit)))).bind fun s35 =>
 caseS s35 (fun u'36 =>
  some ((u'36, a2, a3, a4, a5, a6, a7, a8, a9, a10, a11, a12, a13, a14, a15, a16, a17, a18, a28, a29, a30, a31)))
  (fun w37 =>
  cond (decide (a0 = 8))
   ((D_meter_Meter_Hold a4 a28 a29 a30).bind fun r38 =>
   (D_drive_Driver_taped a2 a3 a4 a5 a6 a7 a8 a9 a10 a11 a12 a13 a14 a15 a16 a17 a18 a19 a20 a21 a22 a23 a24 a25 a26 a27 r38.2.1 r38.2.2.1 r38.2.2.2 a31).bind fun ⟨r39_0, r39_1, r39_2, r39_3, r39_4, r39_5, r39_6, r39_7, r39_8, r39_9, r39_10, r39_11, r39_12, r39_13, r39_14, r39_15, r39_16, r39_17, r39_18, r39_19⟩ =>
   (D_drive_Driver_shelf r39_10 r39_0 r39_1 r39_2 r39_3 r39_4 r39_5 r39_6 r39_7 r39_8 r39_9 r39_10 r39_11 r39_12 r39_13 r39_14 r39_15 r39_16 a19 a20 a21 a22 a23 a24 a25 a26 a27 r38.2.1 r38.2.2.1 r38.2.2.2 r39_17).bind fun r40 =>
   gd (fits (ln r39_19 + ln r39_18) 8) ((D_arena_Arena_Write r40 ((r39_19 ++ r39_18)) a24 r39_17).bind fun r41 =>
   gd (cutG 0 ((((ln a19) : Nat) : Int)) ((ln r39_18))) ((D_drive_Driver_put_2 1 ((List.take (((tN ((((ln a19) : Nat) : Int))) - 0)) (List.drop 0 r39_18))) r39_0 r39_1 r39_2 r39_3 r39_4 r39_5 r39_6 r39_7 r39_8 r39_9 r39_10 r39_11 r39_12 r39_13 r39_14 r39_15 r39_16 a19 a20 a21 a22 a23 a24 a25 a26 a27 r38.2.1 r38.2.2.1 r38.2.2.2 r41.2).bind fun r42 =>
   some ((0, r39_0, r39_1, r39_2, r39_3, r39_4, r39_5, r39_6, r39_7, r39_8, r39_9, wI (r39_10 + 1), r39_11, r39_12, r39_13, r39_14, r39_15, r39_16, r38.2.1, r38.2.2.1, r38.2.2.2, r42)))))
   (cond (decide (a0 = 5))
    ((D_drive_Driver_seed 0 a2 a3 a4 a5 a6 a7 a8 a9 a10 a11 a12 a13 a14 a15 a16 a17 a18 a19 a20 a21 a22 a23 a24 a25 a26 a27 a28 a29 a30 a31).bind fun ⟨r43_0, r43_1, r43_2, r43_3, r43_4, r43_5, r43_6, r43_7, r43_8, r43_9, r43_10, r43_11, r43_12, r43_13, r43_14, r43_15, r43_16, r43_17, r43_18, r43_19, r43_20⟩ =>
    some ((0, r43_0, r43_1, r43_2, r43_3, r43_4, r43_5, r43_6, r43_7, r43_8, r43_9, r43_10, r43_9, r43_12, r43_13, r43_14, r43_15, r43_16, r43_17, r43_18, r43_19, r43_20)))
    ((D_drive_Driver_shelf (wI (a13 - 1)) a2 a3 a4 a5 a6 a7 a8 a9 a10 a11 (wI (a13 - 1)) (wI (a13 - 1)) a14 a15 a16 a17 a18 a19 a20 a21 a22 a23 a24 a25 a26 a27 a28 a29 a30 a31).bind fun r44 =>
    (D_arena_Arena_Read r44 a4 a24 a31).bind fun r45 =>
    gd (cutG (wI (((((ln r45.2) : Nat) : Int)) - a7)) ((((ln r45.2) : Nat) : Int)) ((ln r45.2))) (gd (cutG 0 (wI (((((ln r45.2) : Nat) : Int)) - a7)) ((ln r45.2))) ((D_drive_Driver_get 5 a2 a3 a4 a5 a6 a7 a8 a9 a10 a11 (wI (a13 - 1)) (wI (a13 - 1)) a14 a15 a16 a17 a18 a19 a20 a21 a22 a23 a24 a25 a26 a27 a28 a29 a30 a31).bind fun r46 =>
    (D_drive_wide a7 a21 r46).bind fun r47 =>
    (D_flat_Code a7 a21).bind fun r48 =>
    cond (decide (r48.1 ≠ 0))
     ((D_drive_Driver_put_2 4 r47 a2 a3 a4 a5 a6 a7 a8 a9 a10 a11 (wI (a13 - 1)) (wI (a13 - 1)) a14 a15 a16 a17 a18 a19 a20 a21 a22 a23 a24 a25 a26 a27 a28 a29 a30 a31).bind fun r49 =>
     gd (cutG 0 ((((ln a19) : Nat) : Int)) ((ln r47))) ((D_drive_Driver_put_2 5 ((List.take (((tN ((((ln a19) : Nat) : Int))) - 0)) (List.drop 0 r47))) a2 a3 a4 a5 a6 a7 a8 a9 a10 a11 (wI (a13 - 1)) (wI (a13 - 1)) a14 a15 a16 a17 a18 a19 a20 a21 a22 a23 a24 a25 a26 a27 a28 a29 a30 r49).bind fun r50 =>
     (D_drive_Driver_get 6 a2 a3 a4 a5 a6 a7 a8 a9 a10 a11 (wI (a13 - 1)) (wI (a13 - 1)) a14 a15 a16 a17 a18 a19 a20 a21 a22 a23 a24 a25 a26 a27 a28 a29 a30 r50).bind fun r51 =>
     (loopN (D_drive_Driver_plain_L0 a19 r47 r51) BIG ((0, r51))).bind fun r61 =>
     (D_drive_Driver_put_2 6 r61 a2 a3 a4 a5 a6 a7 a8 a9 a10 a11 (wI (a13 - 1)) (wI (a13 - 1)) a14 a15 a16 a17 a18 a19 a20 a21 a22 a23 a24 a25 a26 a27 a28 a29 a30 r50).bind fun r62 =>
     gd (cutG (wI (((((ln r45.2) : Nat) : Int)) - a7)) (wI ((wI (((((ln r45.2) : Nat) : Int)) - a7)) + ((((ln a19) : Nat) : Int)))) ((ln r45.2))) ((D_drive_Driver_put_2 1 ((List.take (((tN (wI ((wI (((((ln r45.2) : Nat) : Int)) - a7)) + ((((ln a19) : Nat) : Int))))) - (tN (wI (((((ln r45.2) : Nat) : Int)) - a7))))) (List.drop ((tN (wI (((((ln r45.2) : Nat) : Int)) - a7)))) r45.2))) a2 a3 a4 a5 a6 a7 a8 a9 a10 a11 (wI (a13 - 1)) (wI (a13 - 1)) a14 a15 a16 (wI (a17 + 1)) a18 a19 a20 a21 a22 a23 a24 a25 a26 a27 a28 a29 a30 r62).bind fun r63 =>
     (D_meter_Meter_Drop a4 a28 a29 a30).bind fun r64 =>
     some ((0, a2, a3, a4, a5, a6, a7, a8, a9, a10, a11, wI (a13 - 1), wI (a13 - 1), a14, a15, a16, wI (a17 + 1), a18, r64.2.1, r64.2.2.1, r64.2.2.2, r63)))))
     ((D_size_Writes a21).bind fun r65 =>
     cond (decide ((((((tN ((((ln r45.2) : Nat) : Int))) - (tN (wI (((((ln r45.2) : Nat) : Int)) - a7)))) : Nat) : Int)) ≠ a7))
      ((D_drive_Driver_put_2 4 r47 a2 a3 a4 a5 a6 a7 a8 a9 a10 a11 (wI (a13 - 1)) (wI (a13 - 1)) a14 a15 a16 a17 a18 a19 a20 a21 a22 a23 a24 a25 a26 a27 a28 a29 a30 a31).bind fun r66 =>
      gd (cutG 0 ((((ln a19) : Nat) : Int)) ((ln r47))) ((D_drive_Driver_put_2 5 ((List.take (((tN ((((ln a19) : Nat) : Int))) - 0)) (List.drop 0 r47))) a2 a3 a4 a5 a6 a7 a8 a9 a10 a11 (wI (a13 - 1)) (wI (a13 - 1)) a14 a15 a16 a17 a18 a19 a20 a21 a22 a23 a24 a25 a26 a27 a28 a29 a30 r66).bind fun r67 =>
      (D_drive_Driver_get 6 a2 a3 a4 a5 a6 a7 a8 a9 a10 a11 (wI (a13 - 1)) (wI (a13 - 1)) a14 a15 a16 a17 a18 a19 a20 a21 a22 a23 a24 a25 a26 a27 a28 a29 a30 r67).bind fun r68 =>
      (loopN (D_drive_Driver_plain_L1 a19 r47 r68) BIG ((0, r68))).bind fun r78 =>
      (D_drive_Driver_put_2 6 r78 a2 a3 a4 a5 a6 a7 a8 a9 a10 a11 (wI (a13 - 1)) (wI (a13 - 1)) a14 a15 a16 a17 a18 a19 a20 a21 a22 a23 a24 a25 a26 a27 a28 a29 a30 r67).bind fun r79 =>
      gd (cutG (wI (((((ln r45.2) : Nat) : Int)) - a7)) (wI ((wI (((((ln r45.2) : Nat) : Int)) - a7)) + ((((ln a19) : Nat) : Int)))) ((ln r45.2))) ((D_drive_Driver_put_2 1 ((List.take (((tN (wI ((wI (((((ln r45.2) : Nat) : Int)) - a7)) + ((((ln a19) : Nat) : Int))))) - (tN (wI (((((ln r45.2) : Nat) : Int)) - a7))))) (List.drop ((tN (wI (((((ln r45.2) : Nat) : Int)) - a7)))) r45.2))) a2 a3 a4 a5 a6 a7 a8 a9 a10 a11 (wI (a13 - 1)) (wI (a13 - 1)) a14 a15 a16 (wI (a17 + 1)) a18 a19 a20 a21 a22 a23 a24 a25 a26 a27 a28 a29 a30 r79).bind fun r80 =>
      (D_meter_Meter_Drop a4 a28 a29 a30).bind fun r81 =>
      some ((0, a2, a3, a4, a5, a6, a7, a8, a9, a10, a11, wI (a13 - 1), wI (a13 - 1), a14, a15, a16, wI (a17 + 1), a18, r81.2.1, r81.2.2.1, r81.2.2.2, r80)))))
      (cond (decide (((((ln r47) : Nat) : Int)) ≠ a7))
       ((D_drive_Driver_put_2 4 r47 a2 a3 a4 a5 a6 a7 a8 a9 a10 a11 (wI (a13 - 1)) (wI (a13 - 1)) a14 a15 a16 a17 a18 a19 a20 a21 a22 a23 a24 a25 a26 a27 a28 a29 a30 a31).bind fun r82 =>
       gd (cutG 0 ((((ln a19) : Nat) : Int)) ((ln r47))) ((D_drive_Driver_put_2 5 ((List.take (((tN ((((ln a19) : Nat) : Int))) - 0)) (List.drop 0 r47))) a2 a3 a4 a5 a6 a7 a8 a9 a10 a11 (wI (a13 - 1)) (wI (a13 - 1)) a14 a15 a16 a17 a18 a19 a20 a21 a22 a23 a24 a25 a26 a27 a28 a29 a30 r82).bind fun r83 =>
       (D_drive_Driver_get 6 a2 a3 a4 a5 a6 a7 a8 a9 a10 a11 (wI (a13 - 1)) (wI (a13 - 1)) a14 a15 a16 a17 a18 a19 a20 a21 a22 a23 a24 a25 a26 a27 a28 a29 a30 r83).bind fun r84 =>
       (loopN (D_drive_Driver_plain_L2 a19 r47 r84) BIG ((0, r84))).bind fun r94 =>
       (D_drive_Driver_put_2 6 r94 a2 a3 a4 a5 a6 a7 a8 a9 a10 a11 (wI (a13 - 1)) (wI (a13 - 1)) a14 a15 a16 a17 a18 a19 a20 a21 a22 a23 a24 a25 a26 a27 a28 a29 a30 r83).bind fun r95 =>
       gd (cutG (wI (((((ln r45.2) : Nat) : Int)) - a7)) (wI ((wI (((((ln r45.2) : Nat) : Int)) - a7)) + ((((ln a19) : Nat) : Int)))) ((ln r45.2))) ((D_drive_Driver_put_2 1 ((List.take (((tN (wI ((wI (((((ln r45.2) : Nat) : Int)) - a7)) + ((((ln a19) : Nat) : Int))))) - (tN (wI (((((ln r45.2) : Nat) : Int)) - a7))))) (List.drop ((tN (wI (((((ln r45.2) : Nat) : Int)) - a7)))) r45.2))) a2 a3 a4 a5 a6 a7 a8 a9 a10 a11 (wI (a13 - 1)) (wI (a13 - 1)) a14 a15 a16 (wI (a17 + 1)) a18 a19 a20 a21 a22 a23 a24 a25 a26 a27 a28 a29 a30 r95).bind fun r96 =>
       (D_meter_Meter_Drop a4 a28 a29 a30).bind fun r97 =>
       some ((0, a2, a3, a4, a5, a6, a7, a8, a9, a10, a11, wI (a13 - 1), wI (a13 - 1), a14, a15, a16, wI (a17 + 1), a18, r97.2.1, r97.2.2.1, r97.2.2.2, r96)))))
       (cond (decide ((((((tN (wI (((((ln r45.2) : Nat) : Int)) - a7))) - 0) : Nat) : Int)) < r65.1))
        ((D_drive_Driver_put_2 4 r47 a2 a3 a4 a5 a6 a7 a8 a9 a10 a11 (wI (a13 - 1)) (wI (a13 - 1)) a14 a15 a16 a17 a18 a19 a20 a21 a22 a23 a24 a25 a26 a27 a28 a29 a30 a31).bind fun r98 =>
        gd (cutG 0 ((((ln a19) : Nat) : Int)) ((ln r47))) ((D_drive_Driver_put_2 5 ((List.take (((tN ((((ln a19) : Nat) : Int))) - 0)) (List.drop 0 r47))) a2 a3 a4 a5 a6 a7 a8 a9 a10 a11 (wI (a13 - 1)) (wI (a13 - 1)) a14 a15 a16 a17 a18 a19 a20 a21 a22 a23 a24 a25 a26 a27 a28 a29 a30 r98).bind fun r99 =>
        (D_drive_Driver_get 6 a2 a3 a4 a5 a6 a7 a8 a9 a10 a11 (wI (a13 - 1)) (wI (a13 - 1)) a14 a15 a16 a17 a18 a19 a20 a21 a22 a23 a24 a25 a26 a27 a28 a29 a30 r99).bind fun r100 =>
        (loopN (D_drive_Driver_plain_L3 a19 r47 r100) BIG ((0, r100))).bind fun r110 =>
        (D_drive_Driver_put_2 6 r110 a2 a3 a4 a5 a6 a7 a8 a9 a10 a11 (wI (a13 - 1)) (wI (a13 - 1)) a14 a15 a16 a17 a18 a19 a20 a21 a22 a23 a24 a25 a26 a27 a28 a29 a30 r99).bind fun r111 =>
        gd (cutG (wI (((((ln r45.2) : Nat) : Int)) - a7)) (wI ((wI (((((ln r45.2) : Nat) : Int)) - a7)) + ((((ln a19) : Nat) : Int)))) ((ln r45.2))) ((D_drive_Driver_put_2 1 ((List.take (((tN (wI ((wI (((((ln r45.2) : Nat) : Int)) - a7)) + ((((ln a19) : Nat) : Int))))) - (tN (wI (((((ln r45.2) : Nat) : Int)) - a7))))) (List.drop ((tN (wI (((((ln r45.2) : Nat) : Int)) - a7)))) r45.2))) a2 a3 a4 a5 a6 a7 a8 a9 a10 a11 (wI (a13 - 1)) (wI (a13 - 1)) a14 a15 a16 (wI (a17 + 1)) a18 a19 a20 a21 a22 a23 a24 a25 a26 a27 a28 a29 a30 r111).bind fun r112 =>
        (D_meter_Meter_Drop a4 a28 a29 a30).bind fun r113 =>
        some ((0, a2, a3, a4, a5, a6, a7, a8, a9, a10, a11, wI (a13 - 1), wI (a13 - 1), a14, a15, a16, wI (a17 + 1), a18, r113.2.1, r113.2.2.1, r113.2.2.2, r112)))))
        ((loopN (D_drive_Driver_plain_L4 a7 r45 r48) BIG ((wI (((((ln r48.2) : Nat) : Int)) - 1), 0, r65.1, r45.2, r47, 0, 0, 0, 0, 0, 0, 0, 0))).bind fun ⟨r165_0, r165_1, r165_2, r165_3, r165_4, r165_5, r165_6, r165_7, r165_8, r165_9⟩ =>
        (D_drive_Driver_put_2 4 r165_1 a2 a3 a4 a5 a6 a7 a8 a9 a10 a11 (wI (a13 - 1)) (wI (a13 - 1)) a14 a15 a16 a17 a18 a19 a20 a21 a22 a23 a24 a25 a26 a27 a28 a29 a30 a31).bind fun r166 =>
        gd (cutG 0 ((((ln a19) : Nat) : Int)) ((ln r165_1))) ((D_drive_Driver_put_2 5 ((List.take (((tN ((((ln a19) : Nat) : Int))) - 0)) (List.drop 0 r165_1))) a2 a3 a4 a5 a6 a7 a8 a9 a10 a11 (wI (a13 - 1)) (wI (a13 - 1)) a14 a15 a16 a17 a18 a19 a20 a21 a22 a23 a24 a25 a26 a27 a28 a29 a30 r166).bind fun r167 =>
        (D_drive_Driver_get 6 a2 a3 a4 a5 a6 a7 a8 a9 a10 a11 (wI (a13 - 1)) (wI (a13 - 1)) a14 a15 a16 a17 a18 a19 a20 a21 a22 a23 a24 a25 a26 a27 a28 a29 a30 r167).bind fun r168 =>
        (loopN (D_drive_Driver_plain_L5 a19 r165_1 r168) BIG ((0, r168))).bind fun r178 =>
        (D_drive_Driver_put_2 6 r178 a2 a3 a4 a5 a6 a7 a8 a9 a10 a11 (wI (a13 - 1)) (wI (a13 - 1)) a14 a15 a16 a17 a18 a19 a20 a21 a22 a23 a24 a25 a26 a27 a28 a29 a30 r167).bind fun r179 =>
        gd (cutG (wI (((((ln r45.2) : Nat) : Int)) - a7)) (wI ((wI (((((ln r45.2) : Nat) : Int)) - a7)) + ((((ln a19) : Nat) : Int)))) ((ln r165_0))) ((D_drive_Driver_put_2 1 ((List.take (((tN (wI ((wI (((((ln r45.2) : Nat) : Int)) - a7)) + ((((ln a19) : Nat) : Int))))) - (tN (wI (((((ln r45.2) : Nat) : Int)) - a7))))) (List.drop ((tN (wI (((((ln r45.2) : Nat) : Int)) - a7)))) r165_0))) a2 a3 a4 a5 a6 a7 a8 a9 a10 a11 (wI (a13 - 1)) (wI (a13 - 1)) a14 a15 a16 (wI (a17 + 1)) a18 a19 a20 a21 a22 a23 a24 a25 a26 a27 a28 a29 a30 r179).bind fun r180 =>
        (D_meter_Meter_Drop a4 a28 a29 a30).bind fun r181 =>
        some ((0, a2, a3, a4, a5, a6, a7, a8, a9, a10, a11, wI (a13 - 1), wI (a13 - 1), a14, a15, a16, wI (a17 + 1), a18, r181.2.1, r181.2.2.1, r181.2.2.2, r180)))))))))))))
/- backstitch/action.numbered -/
def D_action_numbered (a0 : Int) : Op (Bool) :=
 cond (decide (1 ≤ a0))
  (some (decide (a0 ≤ 4)))
  (some false)
/- backstitch/action.Right -/
def D_action_Right (a0 a1 : Int) : Op (Bool) :=
 (((cond (decide (a0 < 1))
  (some true)
  (some (decide (9 < a0)))) : Op (Bool))).bind fun s2 =>
 cond (s2)
  (some false)
  (cond (decide (a0 = 1))
   (cond (decide (1 ≤ a1))
    (some (decide (a1 < 65536)))
    (some false))
   ((D_action_numbered a0).bind fun r3 =>
   cond (r3)
    (cond (decide (0 ≤ a1))
     (some (decide (a1 < 1048576)))
     (some false))
    (some (decide (a1 = 0)))))
/- (*backstitch/machine.Machine).moves -/
def D_machine_Machine_moves (a0 a1 a2 a3 : Int) (a4 : List Int) : Op (Unit) :=
 some ()
/- (*backstitch/machine.Machine).advance -/
def D_machine_Machine_advance (a0 a1 a2 a3 a4 : Int) (a5 : List Int) : Op (Int × Int × Int × Int × Int) :=
 cond (decide ((wI (a3 - a1)) < a0))
  (some ((17, a1, a2, a3, a4)))
  (some ((0, wI (a1 + a0), a2, a3, wI (a4 + a0))))
/- (*backstitch/machine.Machine).store -/
def D_machine_Machine_store (a0 a1 a2 a3 a4 : Int) (a5 : List Int) : Op (Int × List Int) :=
 (ix a0 ((ln a5))).bind fun j6 =>
 (a5[j6]?).bind fun x7 =>
 cond (decide (0 ≤ x7))
  (some ((15, a5)))
  ((ix a0 ((ln a5))).bind fun j8 =>
  (a5[j8]?).bind fun x9 =>
  some ((0, (List.set a5 j8 a1))))
/- (*backstitch/machine.Machine).restore -/
def D_machine_Machine_restore (a0 a1 a2 a3 a4 : Int) (a5 : List Int) : Op (Int × Int × Int × Int × Int) :=
 (ix a0 ((ln a5))).bind fun j6 =>
 (a5[j6]?).bind fun x7 =>
 cond (decide (x7 < 0))
  (some ((16, a1, a2, a3, a4)))
  ((ix a0 ((ln a5))).bind fun j8 =>
  (a5[j8]?).bind fun x9 =>
  some ((0, x9, a2, a3, a4)))
/- (*backstitch/machine.Machine).free -/
def D_machine_Machine_free (a0 a1 a2 a3 a4 : Int) (a5 : List Int) : Op (Int × List Int) :=
 (ix a0 ((ln a5))).bind fun j6 =>
 (a5[j6]?).bind fun x7 =>
 cond (decide (x7 < 0))
  (some ((16, a5)))
  ((ix a0 ((ln a5))).bind fun j8 =>
  (a5[j8]?).bind fun x9 =>
  some ((0, (List.set a5 j8 (-1)))))
/- (*backstitch/machine.Machine).begin -/
def D_machine_Machine_begin (a0 a1 a2 a3 a4 : Int) (a5 : List Int) : Op (Int × Int × Int × Int × Int) :=
 cond (decide (a2 ≠ (-1)))
  (some ((18, a1, a2, a3, a4)))
  (cond (!((decide (a1 = (wI (a3 - a0))) && decide (a2 = (-1)))))
   (some ((17, a1, a2, a3, a4)))
   (some ((0, a1, a1, a3, a4))))
/- (*backstitch/machine.Machine).seed -/
def D_machine_Machine_seed (a0 a1 a2 a3 a4 : Int) (a5 : List Int) : Op (Int × Int × Int × Int × Int) :=
 (D_machine_Machine_begin 0 a1 a2 a3 a4 a5).bind fun r6 =>
 some ((r6.1, r6.2.1, r6.2.2.1, r6.2.2.2.1, r6.2.2.2.2))
/- (*backstitch/machine.Machine).both -/
def D_machine_Machine_both (a0 a1 a2 a3 a4 : Int) (a5 : List Int) : Op (Int × Int × Int × Int × Int) :=
 (D_machine_Machine_begin 1 a1 a2 a3 a4 a5).bind fun r6 =>
 some ((r6.1, r6.2.1, r6.2.2.1, r6.2.2.2.1, r6.2.2.2.2))
/- (*backstitch/machine.Machine).reverse -/
def D_machine_Machine_reverse (a0 a1 a2 a3 a4 : Int) (a5 : List Int) : Op (Int × Int × Int × Int × Int) :=
 cond (decide (a2 ≤ 0))
  (some ((18, a1, a2, a3, a4)))
  (cond (decide (a1 ≠ (wI (a2 - 1))))
   (some ((17, a1, a2, a3, a4)))
   (some ((0, a1, a1, a3, a4))))
/- (*backstitch/machine.Machine).Do -/
def D_machine_Machine_Do (a0 a1 a2 a3 a4 a5 : Int) (a6 : List Int) : Op (Int × Int × Int × Int × Int × List Int) :=
 (((((((D_action_Right a0 a1).bind fun r7 =>
 cond (!r7)
  (some true)
  (some (decide (7 < a0)))) : Op (Bool))).bind fun s8 =>
 cond (s8)
  (some ((.inl ())))
  (cond (decide (2 ≤ a0))
   (cond (decide (a0 ≤ 4))
    (cond (decide (((((ln a6) : Nat) : Int)) ≤ a1))
     (some ((.inl ())))
     (some ((.inr ()))))
    (some ((.inr ()))))
   (some ((.inr ()))))) : Op ((Unit) ⊕ (Unit)))).bind fun s9 =>
 caseS s9 (fun u'10 =>
  some ((2, a2, a3, a4, a5, a6)))
  (fun w11 =>
  (D_machine_Machine_moves a2 a3 a4 a5 a6).bind fun r12 =>
  (ix a0 8).bind fun j13 =>
  cond (Nat.beq j13 0)
   none
   (cond (Nat.beq ((j13 - 1)) 0)
    ((D_machine_Machine_advance a1 a2 a3 a4 a5 a6).bind fun r14 =>
    some ((r14.1, r14.2.1, r14.2.2.1, r14.2.2.2.1, r14.2.2.2.2, a6)))
    (cond (Nat.beq (((j13 - 1) - 1)) 0)
     ((D_machine_Machine_store a1 a2 a3 a4 a5 a6).bind fun r15 =>
     some ((r15.1, a2, a3, a4, a5, r15.2)))
     (cond (Nat.beq ((((j13 - 1) - 1) - 1)) 0)
      ((D_machine_Machine_restore a1 a2 a3 a4 a5 a6).bind fun r16 =>
      some ((r16.1, r16.2.1, r16.2.2.1, r16.2.2.2.1, r16.2.2.2.2, a6)))
      (cond (Nat.beq (((((j13 - 1) - 1) - 1) - 1)) 0)
       ((D_machine_Machine_free a1 a2 a3 a4 a5 a6).bind fun r17 =>
       some ((r17.1, a2, a3, a4, a5, r17.2)))
       (cond (Nat.beq ((((((j13 - 1) - 1) - 1) - 1) - 1)) 0)
        ((D_machine_Machine_seed a1 a2 a3 a4 a5 a6).bind fun r18 =>
        some ((r18.1, r18.2.1, r18.2.2.1, r18.2.2.2.1, r18.2.2.2.2, a6)))
        (cond (Nat.beq (((((((j13 - 1) - 1) - 1) - 1) - 1) - 1)) 0)
         ((D_machine_Machine_both a1 a2 a3 a4 a5 a6).bind fun r19 =>
         some ((r19.1, r19.2.1, r19.2.2.1, r19.2.2.2.1, r19.2.2.2.2, a6)))
         (cond (Nat.beq ((((((((j13 - 1) - 1) - 1) - 1) - 1) - 1) - 1)) 0)
          ((D_machine_Machine_reverse a1 a2 a3 a4 a5 a6).bind fun r20 =>
          some ((r20.1, r20.2.1, r20.2.2.1, r20.2.2.2.1, r20.2.2.2.2, a6)))
          none))))))))
/- (*backstitch/drive.Driver).moves -/
def D_drive_Driver_moves (a0 a1 a2 a3 a4 a5 a6 a7 a8 a9 a10 a11 a12 a13 a14 a15 a16 : Int) (a17 a18 : List Int) (a19 a20 : LO) (a21 : List Int) (a22 a23 a24 a25 a26 a27 a28 : Int) (a29 : List Int) : Op (Unit) :=
 some ()
/- backstitch/forward.begin -/
def D_forward_begin (a0 : Int) (a1 : LO) (a2 : List Int) : Op (Int × (List (Int × Int × Int × Int × Int × Int)) × List Int) :=
 (D_flat_Code a0 a1).bind fun r3 =>
 cond (decide (r3.1 ≠ 0))
  (some ((r3.1, [], [])))
  (cond (decide (a0 < ((((ln a2) : Nat) : Int))))
   (some ((10, [], [])))
   (gd (Nat.beq 1 (Sh.w (.int .u64)) && decide (0 ≤ a0) && decide (a0 ≤ a0) && decide ((8 : Int) * a0 ≤ 140737488355328) && Nat.ble 1 8) (some ((0, r3.2, (blit ((List.replicate (tN a0) (0 : Int))) 0 ((ln ((List.replicate (tN a0) (0 : Int))))) a2))))))
/- backstitch/forward.Run$1 -/
def D_forward_Run_1 (a0 a1 a2 a3 a4 a5 : Int) : Op (Unit) :=
 some ()
def D_forward_exec_L0 (a0 : Int) (a1 : List (Int × Int × Int × Int × Int × Int)) : (Int × Int × Int × (List Int) × Int × Int × Int × Int × Int × Int × Int × Int) → Op ((Int × Int × Int × (List Int) × Int × Int × Int × Int × Int × Int × Int × Int) ⊕ ((List Int) × Int × Int × Int × Int × Int × Int × Int × Int)) := fun ⟨s20_0, s20_1, s20_2, s20_3, s20_4, s20_5, s20_6, s20_7, s20_8, s20_9, s20_10, s20_11⟩ =>
 cond (decide (s20_0 = ((((ln a1) : Nat) : Int))))
  (some (.inr (((s20_3, s20_4, s20_5, s20_6, s20_7, s20_8, s20_9, s20_10, s20_11)))))
  (cond (decide (s20_1 = a0))
   (some (.inr (((s20_3, s20_4, s20_5, s20_6, s20_7, s20_8, s20_9, s20_10, s20_11)))))
   ((ix s20_0 ((ln a1))).bind fun j21 =>
   (a1[j21]?).bind fun x22 =>
   cond (decide (x22.1 = 7))
    ((ix s20_2 8).bind fun j23 =>
    some (.inl ((wI (s20_0 + 1), s20_1, wI (s20_2 + 1), s20_3, (cond (Nat.beq j23 0) x22.2.2.2.2.1 s20_4), (cond (Nat.beq j23 1) x22.2.2.2.2.1 s20_5), (cond (Nat.beq j23 2) x22.2.2.2.2.1 s20_6), (cond (Nat.beq j23 3) x22.2.2.2.2.1 s20_7), (cond (Nat.beq j23 4) x22.2.2.2.2.1 s20_8), (cond (Nat.beq j23 5) x22.2.2.2.2.1 s20_9), (cond (Nat.beq j23 6) x22.2.2.2.2.1 s20_10), (cond (Nat.beq j23 7) x22.2.2.2.2.1 s20_11)))))
    (cond (decide (x22.1 = 0))
     ((ix (wI (s20_2 - 1)) 8).bind fun j24 =>
     (ix (wI (s20_2 - 1)) 8).bind fun j25 =>
     (ix (wI (s20_2 - 1)) 8).bind fun j26 =>
     cond (decide (0 < ((List.getD [(cond (Nat.beq j25 0) (wU (((List.getD [s20_4, s20_5, s20_6, s20_7, s20_8, s20_9, s20_10, s20_11] j24 0)) - 1)) s20_4), (cond (Nat.beq j25 1) (wU (((List.getD [s20_4, s20_5, s20_6, s20_7, s20_8, s20_9, s20_10, s20_11] j24 0)) - 1)) s20_5), (cond (Nat.beq j25 2) (wU (((List.getD [s20_4, s20_5, s20_6, s20_7, s20_8, s20_9, s20_10, s20_11] j24 0)) - 1)) s20_6), (cond (Nat.beq j25 3) (wU (((List.getD [s20_4, s20_5, s20_6, s20_7, s20_8, s20_9, s20_10, s20_11] j24 0)) - 1)) s20_7), (cond (Nat.beq j25 4) (wU (((List.getD [s20_4, s20_5, s20_6, s20_7, s20_8, s20_9, s20_10, s20_11] j24 0)) - 1)) s20_8), (cond (Nat.beq j25 5) (wU (((List.getD [s20_4, s20_5, s20_6, s20_7, s20_8, s20_9, s20_10, s20_11] j24 0)) - 1)) s20_9), (cond (Nat.beq j25 6) (wU (((List.getD [s20_4, s20_5, s20_6, s20_7, s20_8, s20_9, s20_10, s20_11] j24 0)) - 1)) s20_10), (cond (Nat.beq j25 7) (wU (((List.getD [s20_4, s20_5, s20_6, s20_7, s20_8, s20_9, s20_10, s20_11] j24 0)) - 1)) s20_11)] j26 0))))
      (some (.inl ((x22.2.2.2.2.2, s20_1, s20_2, s20_3, (cond (Nat.beq j25 0) (wU (((List.getD [s20_4, s20_5, s20_6, s20_7, s20_8, s20_9, s20_10, s20_11] j24 0)) - 1)) s20_4), (cond (Nat.beq j25 1) (wU (((List.getD [s20_4, s20_5, s20_6, s20_7, s20_8, s20_9, s20_10, s20_11] j24 0)) - 1)) s20_5), (cond (Nat.beq j25 2) (wU (((List.getD [s20_4, s20_5, s20_6, s20_7, s20_8, s20_9, s20_10, s20_11] j24 0)) - 1)) s20_6), (cond (Nat.beq j25 3) (wU (((List.getD [s20_4, s20_5, s20_6, s20_7, s20_8, s20_9, s20_10, s20_11] j24 0)) - 1)) s20_7), (cond (Nat.beq j25 4) (wU (((List.getD [s20_4, s20_5, s20_6, s20_7, s20_8, s20_9, s20_10, s20_11] j24 0)) - 1)) s20_8), (cond (Nat.beq j25 5) (wU (((List.getD [s20_4, s20_5, s20_6, s20_7, s20_8, s20_9, s20_10, s20_11] j24 0)) - 1)) s20_9), (cond (Nat.beq j25 6) (wU (((List.getD [s20_4, s20_5, s20_6, s20_7, s20_8, s20_9, s20_10, s20_11] j24 0)) - 1)) s20_10), (cond (Nat.beq j25 7) (wU (((List.getD [s20_4, s20_5, s20_6, s20_7, s20_8, s20_9, s20_10, s20_11] j24 0)) - 1)) s20_11)))))
      (some (.inl ((wI (s20_0 + 1), s20_1, wI (s20_2 - 1), s20_3, (cond (Nat.beq j25 0) (wU (((List.getD [s20_4, s20_5, s20_6, s20_7, s20_8, s20_9, s20_10, s20_11] j24 0)) - 1)) s20_4), (cond (Nat.beq j25 1) (wU (((List.getD [s20_4, s20_5, s20_6, s20_7, s20_8, s20_9, s20_10, s20_11] j24 0)) - 1)) s20_5), (cond (Nat.beq j25 2) (wU (((List.getD [s20_4, s20_5, s20_6, s20_7, s20_8, s20_9, s20_10, s20_11] j24 0)) - 1)) s20_6), (cond (Nat.beq j25 3) (wU (((List.getD [s20_4, s20_5, s20_6, s20_7, s20_8, s20_9, s20_10, s20_11] j24 0)) - 1)) s20_7), (cond (Nat.beq j25 4) (wU (((List.getD [s20_4, s20_5, s20_6, s20_7, s20_8, s20_9, s20_10, s20_11] j24 0)) - 1)) s20_8), (cond (Nat.beq j25 5) (wU (((List.getD [s20_4, s20_5, s20_6, s20_7, s20_8, s20_9, s20_10, s20_11] j24 0)) - 1)) s20_9), (cond (Nat.beq j25 6) (wU (((List.getD [s20_4, s20_5, s20_6, s20_7, s20_8, s20_9, s20_10, s20_11] j24 0)) - 1)) s20_10), (cond (Nat.beq j25 7) (wU (((List.getD [s20_4, s20_5, s20_6, s20_7, s20_8, s20_9, s20_10, s20_11] j24 0)) - 1)) s20_11))))))
     ((ix x22.2.2.1 ((ln s20_3))).bind fun j27 =>
     (s20_3[j27]?).bind fun x28 =>
     (ix x22.2.2.2.1 ((ln s20_3))).bind fun j29 =>
     (s20_3[j29]?).bind fun x30 =>
     (D_opcode_Apply x22.1 x22.2.1 x22.2.2.1 x22.2.2.2.1 x22.2.2.2.2.1 x28 x30).bind fun r31 =>
     (ix x22.2.1 ((ln s20_3))).bind fun j32 =>
     (s20_3[j32]?).bind fun x33 =>
     (D_forward_Run_1 s20_1 x22.1 x22.2.1 x22.2.2.1 x22.2.2.2.1 x22.2.2.2.2.1).bind fun r34 =>
     some (.inl ((wI (s20_0 + 1), wI (s20_1 + 1), s20_2, (List.set s20_3 j32 r31), s20_4, s20_5, s20_6, s20_7, s20_8, s20_9, s20_10, s20_11)))))))
/- backstitch/forward.exec -/
def D_forward_exec (a0 : Int) (a1 : List (Int × Int × Int × Int × Int × Int)) (a2 : List Int) : Op (List Int) :=
 (loopN (D_forward_exec_L0 a0 a1) BIG ((0, 0, 0, a2, 0, 0, 0, 0, 0, 0, 0, 0))).bind fun ⟨r35_0, r35_1, r35_2, r35_3, r35_4, r35_5, r35_6, r35_7, r35_8⟩ =>
 some r35_0
/- backstitch/forward.Run -/
def D_forward_Run (a0 : Int) (a1 : LO) (a2 : List Int) : Op (Int × List Int) :=
 (D_forward_begin a0 a1 a2).bind fun r3 =>
 cond (decide (r3.1 ≠ 0))
  (some ((r3.1, [])))
  ((D_forward_exec (-1) r3.2.1 r3.2.2).bind fun r4 =>
  some ((0, r4)))
def D_drive_Driver_advance_L0 (a0 : Int) (a18 a19 : List Int) (a20 a21 : LO) (a22 : List Int) (a23 a24 a25 a26 a27 a28 a29 : Int) : (Int × Int × Int × Int × Int × Int × Int × Int × Int × Int × Int × Int × Int × Int × Int × Int × Int × Int × List Int) → Op ((Int × Int × Int × Int × Int × Int × Int × Int × Int × Int × Int × Int × Int × Int × Int × Int × Int × Int × List Int) ⊕ (Int × Int × Int × Int × Int × Int × Int × Int × Int × Int × Int × Int × Int × Int × Int × Int × Int × List Int)) := fun ⟨s50_0, s50_1, s50_2, s50_3, s50_4, s50_5, s50_6, s50_7, s50_8, s50_9, s50_10, s50_11, s50_12, s50_13, s50_14, s50_15, s50_16, s50_17, s50_18⟩ =>
 cond (decide (s50_0 < a0))
  ((D_drive_Driver_get 1 s50_1 s50_2 s50_3 s50_4 s50_5 s50_6 s50_7 s50_8 s50_9 s50_10 s50_11 s50_12 s50_13 s50_14 s50_15 s50_16 s50_17 a18 a19 a20 a21 a22 a23 a24 a25 a26 a27 a28 a29 s50_18).bind fun r51 =>
  (D_drive_Driver_begin s50_6 a20 r51 ([wU (wI (s50_11 + s50_0))]) s50_1 s50_2 s50_3 s50_4 s50_5 s50_6 s50_7 s50_8 s50_9 s50_10 s50_11 s50_12 s50_13 s50_14 s50_15 s50_16 s50_17 a18 a19 a20 a21 a22 a23 a24 a25 a26 a27 a28 a29 s50_18).bind fun r52 =>
  (D_forward_Run s50_6 a20 r52).bind fun r53 =>
  (D_drive_Driver_put_2 2 r53.2 s50_1 s50_2 s50_3 s50_4 s50_5 s50_6 s50_7 s50_8 s50_9 s50_10 s50_11 s50_12 s50_13 s50_14 s50_15 s50_16 s50_17 a18 a19 a20 a21 a22 a23 a24 a25 a26 a27 a28 a29 s50_18).bind fun r54 =>
  gd (cutG 0 ((((ln a18) : Nat) : Int)) ((ln r53.2))) ((D_drive_Driver_put_2 1 ((List.take (((tN ((((ln a18) : Nat) : Int))) - 0)) (List.drop 0 r53.2))) s50_1 s50_2 s50_3 s50_4 s50_5 s50_6 s50_7 s50_8 s50_9 s50_10 s50_11 s50_12 s50_13 s50_14 s50_15 s50_16 s50_17 a18 a19 a20 a21 a22 a23 a24 a25 a26 a27 a28 a29 r54).bind fun r55 =>
  some (.inl ((wI (s50_0 + 1), s50_1, s50_2, s50_3, s50_4, s50_5, s50_6, s50_7, s50_8, s50_9, s50_10, s50_11, s50_12, wI (s50_13 + 1), s50_14, s50_15, s50_16, s50_17, r55)))))
  (some (.inr (((s50_1, s50_2, s50_3, s50_4, s50_5, s50_6, s50_7, s50_8, s50_9, s50_10, s50_11, s50_12, s50_13, s50_14, s50_15, s50_16, s50_17, s50_18)))))
/- (*backstitch/drive.Driver).advance -/
def D_drive_Driver_advance (a0 a1 a2 a3 a4 a5 a6 a7 a8 a9 a10 a11 a12 a13 a14 a15 a16 a17 : Int) (a18 a19 : List Int) (a20 a21 : LO) (a22 : List Int) (a23 a24 a25 a26 a27 a28 a29 : Int) (a30 : List Int) : Op (Int × Int × Int × Int × Int × Int × Int × Int × Int × Int × Int × Int × Int × Int × Int × Int × Int × List Int) :=
 (loopN (D_drive_Driver_advance_L0 a0 a18 a19 a20 a21 a22 a23 a24 a25 a26 a27 a28 a29) BIG ((0, a1, a2, a3, a4, a5, a6, a7, a8, a9, a10, a11, a12, a13, a14, a15, a16, a17, a30))).bind fun ⟨r56_0, r56_1, r56_2, r56_3, r56_4, r56_5, r56_6, r56_7, r56_8, r56_9, r56_10, r56_11, r56_12, r56_13, r56_14, r56_15, r56_16, r56_17⟩ =>
 some ((r56_0, r56_1, r56_2, r56_3, r56_4, r56_5, r56_6, r56_7, r56_8, r56_9, r56_10, r56_11, r56_12, r56_13, r56_14, r56_15, r56_16, r56_17))
/- (*backstitch/machine.Machine).Spot -/
def D_machine_Machine_Spot (a0 a1 a2 a3 : Int) (a4 : List Int) : Op (Int × Int × List Int) :=
 (D_slices_Clone_int_int a4).bind fun r5 =>
 some ((a0, a1, r5))
/- (backstitch/slots.place).has -/
def D_slots_place_has (a0 a1 a2 a3 : Int) : Op (Bool) :=
 cond (decide (0 ≤ a3))
  (some (decide (a3 < a1)))
  (some false)
/- (*backstitch/slots.Slots).Store -/
def D_slots_Slots_Store (a0 a1 : Int) (a2 : List Int) (a3 a4 a5 a6 : Int) (a7 : List Int) : Op (Int × List Int) :=
 (D_slots_place_has a3 a4 a5 a0).bind fun r8 =>
 cond (!r8)
  (some ((2, a7)))
  ((D_slots_place_word a3 a4 a5 a0).bind fun r9 =>
  (D_arena_Arena_Get r9 a6 a7).bind fun r10 =>
  (D_slots_place_word a3 a4 a5 a0).bind fun r11 =>
  (((cond (decide (a1 < 0))
   (some true)
   (some (decide (65536 ≤ a1)))) : Op (Bool))).bind fun s12 =>
  cond (s12)
   (some ((2, a7)))
   (cond (decide (((((ln a2) : Nat) : Int)) ≠ a5))
    (some ((10, a7)))
    (cond (decide (r10.1 ≠ 0))
     (some ((15, a7)))
     (gd (fits (1 + ln a2) 8) ((D_arena_Arena_Write r11 ((([wU (wI (a1 + 1))] : List Int) ++ a2)) a6 a7).bind fun r13 =>
     some ((r13.1, r13.2)))))))
/- (*backstitch/drive.Driver).store -/
def D_drive_Driver_store (a0 a1 a2 a3 a4 a5 a6 a7 a8 a9 a10 a11 a12 a13 a14 a15 a16 a17 : Int) (a18 a19 : List Int) (a20 a21 : LO) (a22 : List Int) (a23 a24 a25 a26 a27 a28 a29 : Int) (a30 : List Int) : Op (Int × Int × Int × List Int) :=
 (D_meter_Meter_Hold a3 a27 a28 a29).bind fun r31 =>
 (D_drive_Driver_get 1 a1 a2 a3 a4 a5 a6 a7 a8 a9 a10 a11 a12 a13 a14 a15 a16 a17 a18 a19 a20 a21 a22 a23 a24 a25 a26 r31.2.1 r31.2.2.1 r31.2.2.2 a30).bind fun r32 =>
 (D_slots_Slots_Store a0 a11 r32 a24 a25 a26 a23 a30).bind fun r33 =>
 some ((r31.2.1, r31.2.2.1, r31.2.2.2, r33.2))
/- (*backstitch/slots.Slots).Restore -/
def D_slots_Slots_Restore (a0 a1 a2 a3 a4 : Int) (a5 : List Int) : Op (Int × Int × List Int) :=
 (D_slots_place_has a1 a2 a3 a0).bind fun r6 =>
 cond (!r6)
  (some ((0, 2, [])))
  ((D_slots_place_word a1 a2 a3 a0).bind fun r7 =>
  (D_arena_Arena_Get r7 a4 a5).bind fun r8 =>
  (D_slots_place_word a1 a2 a3 a0).bind fun r9 =>
  cond (decide (r8.1 = 0))
   (some ((0, 16, [])))
   ((D_arena_Arena_Read (wI (r9 + 1)) a3 a4 a5).bind fun r10 =>
   some ((wI ((wI (r8.1)) - 1), 0, r10.2))))
/- (*backstitch/drive.Driver).restore -/
def D_drive_Driver_restore (a0 a1 a2 a3 a4 a5 a6 a7 a8 a9 a10 a11 a12 a13 a14 a15 a16 a17 : Int) (a18 a19 : List Int) (a20 a21 : LO) (a22 : List Int) (a23 a24 a25 a26 a27 a28 a29 : Int) (a30 : List Int) : Op (List Int) :=
 (D_slots_Slots_Restore a0 a24 a25 a26 a23 a30).bind fun r31 =>
 (D_drive_Driver_put_2 1 r31.2.2 a1 a2 a3 a4 a5 a6 a7 a8 a9 a10 a11 a12 a13 a14 a15 a16 a17 a18 a19 a20 a21 a22 a23 a24 a25 a26 a27 a28 a29 a30).bind fun r32 =>
 some r32
/- (*backstitch/slots.Slots).Free -/
def D_slots_Slots_Free (a0 a1 a2 a3 a4 : Int) (a5 : List Int) : Op (Int × List Int) :=
 (D_slots_place_has a1 a2 a3 a0).bind fun r6 =>
 cond (!r6)
  (some ((2, a5)))
  ((D_slots_place_word a1 a2 a3 a0).bind fun r7 =>
  (D_arena_Arena_Get r7 a4 a5).bind fun r8 =>
  (D_slots_place_word a1 a2 a3 a0).bind fun r9 =>
  cond (decide (r8.1 = 0))
   (some ((16, a5)))
   ((D_slots_place_size a1 a2 a3).bind fun r10 =>
   gd (Nat.beq 1 (Sh.w (.int .u64)) && decide (0 ≤ r10) && decide (r10 ≤ r10) && decide ((8 : Int) * r10 ≤ 140737488355328) && Nat.ble 1 8) ((D_arena_Arena_Write r9 ((List.replicate (tN r10) (0 : Int))) a4 a5).bind fun r11 =>
   some ((r11.1, r11.2)))))
/- (*backstitch/drive.Driver).free -/
def D_drive_Driver_free (a0 a1 a2 a3 a4 a5 a6 a7 a8 a9 a10 a11 a12 a13 a14 a15 a16 a17 : Int) (a18 a19 : List Int) (a20 a21 : LO) (a22 : List Int) (a23 a24 a25 a26 a27 a28 a29 : Int) (a30 : List Int) : Op (Int × Int × Int × List Int) :=
 (D_slots_Slots_Free a0 a24 a25 a26 a23 a30).bind fun r31 =>
 (D_meter_Meter_Drop a3 a27 a28 a29).bind fun r32 =>
 some ((r32.2.1, r32.2.2.1, r32.2.2.2, r31.2))
def D_drive_Driver_back_2_L0 (a22 : List Int) (r34 : Int × (List Int) × List Int) (r37 : List Int) (s40 : Int × List Int) : Op ((Int × List Int) ⊕ (List Int)) :=
 cond (decide (s40.1 < ((((ln r37) : Nat) : Int))))
  ((ix s40.1 ((ln s40.2))).bind fun j41 =>
  (s40.2[j41]?).bind fun x42 =>
  (ix (wI (((((ln a22) : Nat) : Int)) + s40.1)) ((ln r34.2.2))).bind fun j43 =>
  (r34.2.2[j43]?).bind fun x44 =>
  (ix s40.1 ((ln s40.2))).bind fun j45 =>
  (s40.2[j45]?).bind fun x46 =>
  some (.inl ((wI (s40.1 + 1), (List.set s40.2 j45 (wU (x42 + x44)))))))
  (some (.inr s40.2))
/- (*backstitch/drive.Driver).back -/
def D_drive_Driver_back_2 (a0 a1 a2 a3 a4 a5 a6 a7 a8 a9 a10 a11 a12 a13 a14 a15 a16 a17 : Int) (a18 : LO) (a19 a20 a21 a22 a23 : List Int) (a24 : LO) (a25 : List Int) (a26 a27 a28 a29 a30 a31 a32 : Int) (a33 : List Int) : Op (Int × Int × Int × Int × Int × Int × Int × Int × Int × Int × Int × Int × Int × Int × Int × Int × Int × (List Int) × (List Int) × List Int) :=
 (D_sweep_Back a0 a18 a19 a20 a21).bind fun r34 =>
 (D_drive_Driver_put_2 4 r34.2.2 a1 a2 a3 a4 a5 a6 a7 a8 a9 a10 a11 a12 a13 a14 a15 a16 a17 a22 a23 a18 a24 a25 a26 a27 a28 a29 a30 a31 a32 a33).bind fun r35 =>
 gd (cutG 0 ((((ln a22) : Nat) : Int)) ((ln r34.2.2))) ((D_drive_Driver_put_2 5 ((List.take (((tN ((((ln a22) : Nat) : Int))) - 0)) (List.drop 0 r34.2.2))) a1 a2 a3 a4 a5 a6 a7 a8 a9 a10 a11 a12 a13 a14 a15 a16 a17 a22 a23 a18 a24 a25 a26 a27 a28 a29 a30 a31 a32 r35).bind fun r36 =>
 (D_drive_Driver_get 6 a1 a2 a3 a4 a5 a6 a7 a8 a9 a10 a11 a12 a13 a14 a15 a16 a17 a22 a23 a18 a24 a25 a26 a27 a28 a29 a30 a31 a32 r36).bind fun r37 =>
 (loopN (D_drive_Driver_back_2_L0 a22 r34 r37) BIG ((0, r37))).bind fun r47 =>
 (D_drive_Driver_put_2 6 r47 a1 a2 a3 a4 a5 a6 a7 a8 a9 a10 a11 a12 a13 a14 a15 a16 a17 a22 a23 a18 a24 a25 a26 a27 a28 a29 a30 a31 a32 r36).bind fun r48 =>
 some ((a1, a2, a3, a4, a5, a6, a7, a8, a9, a10, a11, a12, a13, a14, a15, wI (a16 + 1), a17, r34.2.1, r34.2.2, r48)))
/- (*backstitch/drive.Driver).turn -/
def D_drive_Driver_turn (a0 a1 a2 a3 a4 a5 a6 a7 a8 a9 a10 a11 a12 a13 a14 a15 a16 : Int) (a17 a18 a19 a20 : List Int) (a21 a22 : LO) (a23 : List Int) (a24 a25 a26 a27 a28 a29 a30 : Int) (a31 : List Int) : Op (Int × Int × Int × Int × Int × Int × Int × Int × Int × Int × Int × Int × Int × Int × Int × Int × Int × (List Int) × List Int) :=
 (D_drive_Driver_get 5 a0 a1 a2 a3 a4 a5 a6 a7 a8 a9 a10 a11 a12 a13 a14 a15 a16 a19 a20 a21 a22 a23 a24 a25 a26 a27 a28 a29 a30 a31).bind fun r32 =>
 (D_drive_wide a5 a21 r32).bind fun r33 =>
 (D_drive_Driver_back_2 a5 a0 a1 a2 a3 a4 a5 a6 a7 a8 a9 a10 a11 a12 a13 a14 a15 a16 a21 a17 r33 a18 a19 a20 a22 a23 a24 a25 a26 a27 a28 a29 a30 a31).bind fun ⟨r34_0, r34_1, r34_2, r34_3, r34_4, r34_5, r34_6, r34_7, r34_8, r34_9, r34_10, r34_11, r34_12, r34_13, r34_14, r34_15, r34_16, r34_17, r34_18, r34_19⟩ =>
 some ((r34_0, r34_1, r34_2, r34_3, r34_4, r34_5, r34_6, r34_7, r34_8, r34_9, r34_10, r34_11, r34_12, r34_13, r34_14, r34_15, r34_16, r34_17, r34_19))
/- (*backstitch/drive.Driver).both -/
def D_drive_Driver_both (a0 a1 a2 a3 a4 a5 a6 a7 a8 a9 a10 a11 a12 a13 a14 a15 a16 a17 : Int) (a18 a19 : List Int) (a20 a21 : LO) (a22 : List Int) (a23 a24 a25 a26 a27 a28 a29 : Int) (a30 : List Int) : Op (Int × Int × Int × Int × Int × Int × Int × Int × Int × Int × Int × Int × Int × Int × Int × Int × Int × Int × Int × Int × List Int) :=
 (D_plan_Of a5 a18 a19 a6 a20 a7 a21 a8 a9).bind fun r31 =>
 (D_meter_Meter_Hold (wI (r31.1 + r31.2)) a27 a28 a29).bind fun r32 =>
 (D_drive_Driver_taped a1 a2 a3 a4 a5 a6 a7 a8 a9 a10 a11 a12 a13 a14 a15 a16 a17 a18 a19 a20 a21 a22 a23 a24 a25 a26 r32.2.1 r32.2.2.1 r32.2.2.2 a30).bind fun ⟨r33_0, r33_1, r33_2, r33_3, r33_4, r33_5, r33_6, r33_7, r33_8, r33_9, r33_10, r33_11, r33_12, r33_13, r33_14, r33_15, r33_16, r33_17, r33_18, r33_19⟩ =>
 gd (cutG 0 ((((ln a18) : Nat) : Int)) ((ln r33_18))) ((D_drive_Driver_end ((List.take (((tN ((((ln a18) : Nat) : Int))) - 0)) (List.drop 0 r33_18))) r33_0 r33_1 r33_2 r33_3 r33_4 r33_5 r33_6 r33_7 r33_8 r33_9 r33_10 r33_11 r33_12 r33_13 r33_14 r33_15 r33_16 a18 a19 a20 a21 a22 a23 a24 a25 a26 r32.2.1 r32.2.2.1 r32.2.2.2 r33_17).bind fun ⟨r34_0, r34_1, r34_2, r34_3, r34_4, r34_5, r34_6, r34_7, r34_8, r34_9, r34_10, r34_11, r34_12, r34_13, r34_14, r34_15, r34_16, r34_17⟩ =>
 (D_drive_Driver_turn r34_0 r34_1 r34_2 r34_3 r34_4 r34_5 r34_6 r34_7 r34_8 r34_9 r34_10 r34_11 r34_12 r34_13 r34_14 r34_15 r34_16 r33_18 r33_19 a18 a19 a20 a21 a22 a23 a24 a25 a26 r32.2.1 r32.2.2.1 r32.2.2.2 r34_17).bind fun ⟨r35_0, r35_1, r35_2, r35_3, r35_4, r35_5, r35_6, r35_7, r35_8, r35_9, r35_10, r35_11, r35_12, r35_13, r35_14, r35_15, r35_16, r35_17, r35_18⟩ =>
 (D_meter_Meter_Drop (wI (r31.1 + r31.2)) r32.2.1 r32.2.2.1 r32.2.2.2).bind fun r36 =>
 some ((r35_0, r35_1, r35_2, r35_3, r35_4, r35_5, r35_6, r35_7, r35_8, r35_9, r35_10, r35_11, r35_12, r35_13, r35_14, r35_15, r35_16, r36.2.1, r36.2.2.1, r36.2.2.2, r35_18)))
/- (*backstitch/drive.Driver).reverse -/
def D_drive_Driver_reverse (a0 a1 a2 a3 a4 a5 a6 a7 a8 a9 a10 a11 a12 a13 a14 a15 a16 a17 : Int) (a18 a19 : List Int) (a20 a21 : LO) (a22 : List Int) (a23 a24 a25 a26 a27 a28 a29 : Int) (a30 : List Int) : Op (Int × Int × Int × Int × Int × Int × Int × Int × Int × Int × Int × Int × Int × Int × Int × Int × Int × Int × Int × Int × List Int) :=
 (D_plan_Of a5 a18 a19 a6 a20 a7 a21 a8 a9).bind fun r31 =>
 (D_meter_Meter_Hold r31.1 a27 a28 a29).bind fun r32 =>
 (D_drive_Driver_taped a1 a2 a3 a4 a5 a6 a7 a8 a9 a10 a11 a12 a13 a14 a15 a16 a17 a18 a19 a20 a21 a22 a23 a24 a25 a26 r32.2.1 r32.2.2.1 r32.2.2.2 a30).bind fun ⟨r33_0, r33_1, r33_2, r33_3, r33_4, r33_5, r33_6, r33_7, r33_8, r33_9, r33_10, r33_11, r33_12, r33_13, r33_14, r33_15, r33_16, r33_17, r33_18, r33_19⟩ =>
 (D_drive_Driver_turn r33_0 r33_1 r33_2 r33_3 r33_4 r33_5 r33_6 r33_7 r33_8 r33_9 r33_10 r33_11 r33_12 r33_13 r33_14 r33_15 r33_16 r33_18 r33_19 a18 a19 a20 a21 a22 a23 a24 a25 a26 r32.2.1 r32.2.2.1 r32.2.2.2 r33_17).bind fun ⟨r34_0, r34_1, r34_2, r34_3, r34_4, r34_5, r34_6, r34_7, r34_8, r34_9, r34_10, r34_11, r34_12, r34_13, r34_14, r34_15, r34_16, r34_17, r34_18⟩ =>
 (D_meter_Meter_Drop r31.1 r32.2.1 r32.2.2.1 r32.2.2.2).bind fun r35 =>
 some ((r34_0, r34_1, r34_2, r34_3, r34_4, r34_5, r34_6, r34_7, r34_8, r34_9, r34_10, r34_11, r34_12, r34_13, r34_14, r34_15, r34_16, r35.2.1, r35.2.2.1, r35.2.2.2, r34_18))
/- (*backstitch/drive.Driver).Do -/
def D_drive_Driver_Do (a0 a1 a2 a3 a4 a5 a6 a7 a8 a9 a10 a11 a12 a13 a14 a15 a16 a17 a18 : Int) (a19 a20 : List Int) (a21 a22 : LO) (a23 : List Int) (a24 a25 a26 a27 a28 a29 a30 : Int) (a31 : List Int) : Op (Int × Int × Int × Int × Int × Int × Int × Int × Int × Int × Int × Int × Int × Int × Int × Int × Int × Int × Int × Int × Int × List Int) :=
 (D_drive_Driver_baseline_2 a2 a3 a4 a5 a6 a7 a8 a9 a10 a11 a12 a13 a14 a15 a16 a17 a18 a19 a20 a21 a22 a23 a24 a25 a26 a27 a28 a29 a30 a31).bind fun r32 =>
 cond (r32)
  ((D_drive_Driver_plain a0 a1 a2 a3 a4 a5 a6 a7 a8 a9 a10 a11 a12 a13 a14 a15 a16 a17 a18 a19 a20 a21 a22 a23 a24 a25 a26 a27 a28 a29 a30 a31).bind fun ⟨r33_0, r33_1, r33_2, r33_3, r33_4, r33_5, r33_6, r33_7, r33_8, r33_9, r33_10, r33_11, r33_12, r33_13, r33_14, r33_15, r33_16, r33_17, r33_18, r33_19, r33_20, r33_21⟩ =>
  some ((r33_0, r33_1, r33_2, r33_3, r33_4, r33_5, r33_6, r33_7, r33_8, r33_9, r33_10, r33_11, r33_12, r33_13, r33_14, r33_15, r33_16, r33_17, r33_18, r33_19, r33_20, r33_21)))
  ((D_drive_Driver_Spot a2 a3 a4 a5 a6 a7 a8 a9 a10 a11 a12 a13 a14 a15 a16 a17 a18 a19 a20 a21 a22 a23 a24 a25 a26 a27 a28 a29 a30 a31).bind fun r34 =>
  (D_machine_At a11 r34.1 r34.2.1 r34.2.2).bind fun r35 =>
  caseS r35 (fun u'36 =>
   some ((2, a2, a3, a4, a5, a6, a7, a8, a9, a10, a11, a12, a13, a14, a15, a16, a17, a18, a28, a29, a30, a31)))
   (fun w37 =>
   (D_machine_Machine_Do a0 a1 w37.1 w37.2.1 w37.2.2.1 0 w37.2.2.2).bind fun r38 =>
   cond (decide (r38.1 ≠ 0))
    (some ((r38.1, a2, a3, a4, a5, a6, a7, a8, a9, a10, a11, a12, a13, a14, a15, a16, a17, a18, a28, a29, a30, a31)))
    ((D_drive_Driver_moves a2 a3 a4 a5 a6 a7 a8 a9 a10 a11 a12 a13 a14 a15 a16 a17 a18 a19 a20 a21 a22 a23 a24 a25 a26 a27 a28 a29 a30 a31).bind fun r39 =>
    (ix a0 8).bind fun j40 =>
    cond (Nat.beq j40 0)
     none
     (cond (Nat.beq ((j40 - 1)) 0)
      ((D_drive_Driver_advance a1 a2 a3 a4 a5 a6 a7 a8 a9 a10 a11 a12 a13 a14 a15 a16 a17 a18 a19 a20 a21 a22 a23 a24 a25 a26 a27 a28 a29 a30 a31).bind fun ⟨r41_0, r41_1, r41_2, r41_3, r41_4, r41_5, r41_6, r41_7, r41_8, r41_9, r41_10, r41_11, r41_12, r41_13, r41_14, r41_15, r41_16, r41_17⟩ =>
      (D_machine_Machine_Spot r38.2.1 r38.2.2.1 r38.2.2.2.1 r38.2.2.2.2.1 r38.2.2.2.2.2).bind fun r42 =>
      some ((0, r41_0, r41_1, r41_2, r41_3, r41_4, r41_5, r41_6, r41_7, r41_8, r41_9, r42.1, r42.2.1, r41_12, r41_13, r41_14, r41_15, r41_16, a28, a29, a30, r41_17)))
      (cond (Nat.beq (((j40 - 1) - 1)) 0)
       ((D_drive_Driver_store a1 a2 a3 a4 a5 a6 a7 a8 a9 a10 a11 a12 a13 a14 a15 a16 a17 a18 a19 a20 a21 a22 a23 a24 a25 a26 a27 a28 a29 a30 a31).bind fun r43 =>
       (D_machine_Machine_Spot r38.2.1 r38.2.2.1 r38.2.2.2.1 r38.2.2.2.2.1 r38.2.2.2.2.2).bind fun r44 =>
       some ((0, a2, a3, a4, a5, a6, a7, a8, a9, a10, a11, r44.1, r44.2.1, a14, a15, a16, a17, a18, r43.1, r43.2.1, r43.2.2.1, r43.2.2.2)))
       (cond (Nat.beq ((((j40 - 1) - 1) - 1)) 0)
        ((D_drive_Driver_restore a1 a2 a3 a4 a5 a6 a7 a8 a9 a10 a11 a12 a13 a14 a15 a16 a17 a18 a19 a20 a21 a22 a23 a24 a25 a26 a27 a28 a29 a30 a31).bind fun r45 =>
        (D_machine_Machine_Spot r38.2.1 r38.2.2.1 r38.2.2.2.1 r38.2.2.2.2.1 r38.2.2.2.2.2).bind fun r46 =>
        some ((0, a2, a3, a4, a5, a6, a7, a8, a9, a10, a11, r46.1, r46.2.1, a14, a15, a16, a17, a18, a28, a29, a30, r45)))
        (cond (Nat.beq (((((j40 - 1) - 1) - 1) - 1)) 0)
         ((D_drive_Driver_free a1 a2 a3 a4 a5 a6 a7 a8 a9 a10 a11 a12 a13 a14 a15 a16 a17 a18 a19 a20 a21 a22 a23 a24 a25 a26 a27 a28 a29 a30 a31).bind fun r47 =>
         (D_machine_Machine_Spot r38.2.1 r38.2.2.1 r38.2.2.2.1 r38.2.2.2.2.1 r38.2.2.2.2.2).bind fun r48 =>
         some ((0, a2, a3, a4, a5, a6, a7, a8, a9, a10, a11, r48.1, r48.2.1, a14, a15, a16, a17, a18, r47.1, r47.2.1, r47.2.2.1, r47.2.2.2)))
         (cond (Nat.beq ((((((j40 - 1) - 1) - 1) - 1) - 1)) 0)
          ((D_drive_Driver_seed a1 a2 a3 a4 a5 a6 a7 a8 a9 a10 a11 a12 a13 a14 a15 a16 a17 a18 a19 a20 a21 a22 a23 a24 a25 a26 a27 a28 a29 a30 a31).bind fun ⟨r49_0, r49_1, r49_2, r49_3, r49_4, r49_5, r49_6, r49_7, r49_8, r49_9, r49_10, r49_11, r49_12, r49_13, r49_14, r49_15, r49_16, r49_17, r49_18, r49_19, r49_20⟩ =>
          (D_machine_Machine_Spot r38.2.1 r38.2.2.1 r38.2.2.2.1 r38.2.2.2.2.1 r38.2.2.2.2.2).bind fun r50 =>
          some ((0, r49_0, r49_1, r49_2, r49_3, r49_4, r49_5, r49_6, r49_7, r49_8, r49_9, r50.1, r50.2.1, r49_12, r49_13, r49_14, r49_15, r49_16, r49_17, r49_18, r49_19, r49_20)))
          (cond (Nat.beq (((((((j40 - 1) - 1) - 1) - 1) - 1) - 1)) 0)
           ((D_drive_Driver_both a1 a2 a3 a4 a5 a6 a7 a8 a9 a10 a11 a12 a13 a14 a15 a16 a17 a18 a19 a20 a21 a22 a23 a24 a25 a26 a27 a28 a29 a30 a31).bind fun ⟨r51_0, r51_1, r51_2, r51_3, r51_4, r51_5, r51_6, r51_7, r51_8, r51_9, r51_10, r51_11, r51_12, r51_13, r51_14, r51_15, r51_16, r51_17, r51_18, r51_19, r51_20⟩ =>
           (D_machine_Machine_Spot r38.2.1 r38.2.2.1 r38.2.2.2.1 r38.2.2.2.2.1 r38.2.2.2.2.2).bind fun r52 =>
           some ((0, r51_0, r51_1, r51_2, r51_3, r51_4, r51_5, r51_6, r51_7, r51_8, r51_9, r52.1, r52.2.1, r51_12, r51_13, r51_14, r51_15, r51_16, r51_17, r51_18, r51_19, r51_20)))
           (cond (Nat.beq ((((((((j40 - 1) - 1) - 1) - 1) - 1) - 1) - 1)) 0)
            ((D_drive_Driver_reverse a1 a2 a3 a4 a5 a6 a7 a8 a9 a10 a11 a12 a13 a14 a15 a16 a17 a18 a19 a20 a21 a22 a23 a24 a25 a26 a27 a28 a29 a30 a31).bind fun ⟨r53_0, r53_1, r53_2, r53_3, r53_4, r53_5, r53_6, r53_7, r53_8, r53_9, r53_10, r53_11, r53_12, r53_13, r53_14, r53_15, r53_16, r53_17, r53_18, r53_19, r53_20⟩ =>
            (D_machine_Machine_Spot r38.2.1 r38.2.2.1 r38.2.2.2.1 r38.2.2.2.2.1 r38.2.2.2.2.2).bind fun r54 =>
            some ((0, r53_0, r53_1, r53_2, r53_3, r53_4, r53_5, r53_6, r53_7, r53_8, r53_9, r54.1, r54.2.1, r53_12, r53_13, r53_14, r53_15, r53_16, r53_17, r53_18, r53_19, r53_20)))
            none))))))))))
/- (*backstitch/engine.Engine).Step -/
def D_engine_Engine_Step (a0 : Int) (a1 a2 : Bool) (a3 a4 a5 a6 a7 a8 a9 a10 a11 a12 a13 a14 a15 a16 a17 a18 a19 : Int) (a20 a21 : List Int) (a22 a23 : LO) (a24 : List Int) (a25 a26 a27 a28 a29 a30 a31 : Int) (a32 : List Int) : Op (Int × Int × Bool × Int × Int × Int × Int × Int × Int × Int × Int × Int × Int × Int × Int × Int × Int × Int × Int × Int × Int × Int × Int × Int × List Int) :=
 cond (a2)
  (some ((0, 0, false, 14, a3, a4, a5, a6, a7, a8, a9, a10, a11, a12, a13, a14, a15, a16, a17, a18, a19, a29, a30, a31, a32)))
  ((D_engine_offline a0 a1 a2 a3 a4 a5 a6 a7 a8 a9 a10 a11 a12 a13 a14 a15 a16 a17 a18 a19 a20 a21 a22 a23 a24 a25 a26 a27 a28 a29 a30 a31 a32).bind fun r33 =>
  cond (!r33.2.2)
   (some ((0, 0, false, 0, a3, a4, a5, a6, a7, a8, a9, a10, a11, a12, a13, a14, a15, a16, a17, a18, a19, a29, a30, a31, a32)))
   ((D_drive_Driver_Do r33.1 r33.2.1 a3 a4 a5 a6 a7 a8 a9 a10 a11 a12 a13 a14 a15 a16 a17 a18 a19 a20 a21 a22 a23 a24 a25 a26 a27 a28 a29 a30 a31 a32).bind fun ⟨r34_0, r34_1, r34_2, r34_3, r34_4, r34_5, r34_6, r34_7, r34_8, r34_9, r34_10, r34_11, r34_12, r34_13, r34_14, r34_15, r34_16, r34_17, r34_18, r34_19, r34_20, r34_21⟩ =>
   cond (decide (r34_0 ≠ 0))
    (some ((0, 0, false, r34_0, r34_1, r34_2, r34_3, r34_4, r34_5, r34_6, r34_7, r34_8, r34_9, r34_10, r34_11, r34_12, r34_13, r34_14, r34_15, r34_16, r34_17, r34_18, r34_19, r34_20, r34_21)))
    (some ((r33.1, r33.2.1, true, 0, r34_1, r34_2, r34_3, r34_4, r34_5, r34_6, r34_7, r34_8, r34_9, r34_10, r34_11, r34_12, r34_13, r34_14, r34_15, r34_16, r34_17, r34_18, r34_19, r34_20, r34_21)))))
/- backstitch/script.Run$1 -/
def D_script_Run_1 (a0 a1 a2 : Int) : Op (Int) :=
 some (wI (a2 + 1))
/- (*backstitch/engine.Engine).still -/
def D_engine_Engine_still (a0 : Int) (a1 a2 : Bool) (a3 a4 a5 a6 a7 a8 a9 a10 a11 a12 a13 a14 a15 a16 a17 a18 a19 : Int) (a20 a21 : List Int) (a22 a23 : LO) (a24 : List Int) (a25 a26 a27 a28 a29 a30 a31 : Int) (a32 : List Int) : Op (Bool) :=
 cond (a2)
  (some false)
  ((D_engine_offline a0 a1 a2 a3 a4 a5 a6 a7 a8 a9 a10 a11 a12 a13 a14 a15 a16 a17 a18 a19 a20 a21 a22 a23 a24 a25 a26 a27 a28 a29 a30 a31 a32).bind fun r33 =>
  some !r33.2.2)
/- (*backstitch/engine.Engine).Waits -/
def D_engine_Engine_Waits (a0 : Int) (a1 a2 : Bool) (a3 a4 a5 a6 a7 a8 a9 a10 a11 a12 a13 a14 a15 a16 a17 a18 a19 : Int) (a20 a21 : List Int) (a22 a23 : LO) (a24 : List Int) (a25 a26 a27 a28 a29 a30 a31 : Int) (a32 : List Int) : Op (Bool) :=
 (D_engine_Engine_still a0 a1 a2 a3 a4 a5 a6 a7 a8 a9 a10 a11 a12 a13 a14 a15 a16 a17 a18 a19 a20 a21 a22 a23 a24 a25 a26 a27 a28 a29 a30 a31 a32).bind fun r33 =>
 cond (r33)
  (cond (decide (a0 = 2))
   (some !a1)
   (some false))
  (some false)
/- (*backstitch/drive.Driver).More -/
def D_drive_Driver_More (a0 a1 a2 a3 a4 a5 a6 a7 a8 a9 a10 a11 a12 a13 a14 a15 a16 : Int) (a17 a18 : List Int) (a19 a20 : LO) (a21 : List Int) (a22 a23 a24 a25 a26 a27 a28 : Int) (a29 : List Int) : Op (Int × Int × Int × Int × Int × Int × Int × Int × Int × Int × Int × Int × Int × Int × Int × Int × Int × Int) :=
 cond (decide (a4 ≠ 2))
  (some ((19, a0, a1, a2, a3, a4, a5, a6, a7, a8, a9, a10, a11, a12, a13, a14, a15, a16)))
  (cond (decide (0 ≤ a11))
   (some ((19, a0, a1, a2, a3, a4, a5, a6, a7, a8, a9, a10, a11, a12, a13, a14, a15, a16)))
   (cond (decide (a9 = 65535))
    (some ((14, a0, a1, a2, a3, a4, a5, a6, a7, a8, a9, a10, a11, a12, a13, a14, a15, a16)))
    (some ((0, a0, a1, a2, a3, a4, a5, a6, a7, a8, wI (a9 + 1), a10, a11, a12, a13, a14, a15, a16)))))
/- (*backstitch/engine.Engine).Feed -/
def D_engine_Engine_Feed (a0 : Bool) (a1 : Int) (a2 a3 : Bool) (a4 a5 a6 a7 a8 a9 a10 a11 a12 a13 a14 a15 a16 a17 a18 a19 a20 : Int) (a21 a22 : List Int) (a23 a24 : LO) (a25 : List Int) (a26 a27 a28 a29 a30 a31 a32 : Int) (a33 : List Int) : Op (Int × Int × Bool × Bool × Int × Int × Int × Int × Int × Int × Int × Int × Int × Int × Int × Int × Int × Int × Int × Int × Int) :=
 cond (a3)
  (some ((14, a1, a2, a3, a4, a5, a6, a7, a8, a9, a10, a11, a12, a13, a14, a15, a16, a17, a18, a19, a20)))
  ((D_engine_Engine_Waits a1 a2 a3 a4 a5 a6 a7 a8 a9 a10 a11 a12 a13 a14 a15 a16 a17 a18 a19 a20 a21 a22 a23 a24 a25 a26 a27 a28 a29 a30 a31 a32 a33).bind fun r34 =>
  cond (!r34)
   (some ((19, a1, a2, a3, a4, a5, a6, a7, a8, a9, a10, a11, a12, a13, a14, a15, a16, a17, a18, a19, a20)))
   (cond (!a0)
    (some ((0, a1, true, a3, a4, a5, a6, a7, a8, a9, a10, a11, a12, a13, a14, a15, a16, a17, a18, a19, a20)))
    ((D_drive_Driver_More a4 a5 a6 a7 a8 a9 a10 a11 a12 a13 a14 a15 a16 a17 a18 a19 a20 a21 a22 a23 a24 a25 a26 a27 a28 a29 a30 a31 a32 a33).bind fun ⟨r35_0, r35_1, r35_2, r35_3, r35_4, r35_5, r35_6, r35_7, r35_8, r35_9, r35_10, r35_11, r35_12, r35_13, r35_14, r35_15, r35_16, r35_17⟩ =>
    some ((r35_0, a1, a2, decide (r35_0 = 14), r35_1, r35_2, r35_3, r35_4, r35_5, r35_6, r35_7, r35_8, r35_9, r35_10, r35_11, r35_12, r35_13, r35_14, r35_15, r35_16, r35_17)))))
def D_script_script_run_L0 (a0 : Int) (a1 a2 : List Int) (a3 : Int) (a4 : LO) (a5 : Int) (a6 : LO) (a7 a8 : Int) (a9 : List Int) (a10 : List Bool) (r12_13 r12_14 : List Int) (r12_15 r12_16 : LO) (r12_17 : List Int) (r12_18 r12_19 r12_20 r12_21 : Int) : (Int × Int × Int × Int × Bool × Bool × Int × Int × Int × Int × Int × Int × Int × Int × Int × Int × Int × Int × Int × Int × Int × Int × Int × Int × Int × Int × List Int) → Op ((Int × Int × Int × Int × Bool × Bool × Int × Int × Int × Int × Int × Int × Int × Int × Int × Int × Int × Int × Int × Int × Int × Int × Int × Int × Int × Int × List Int) ⊕ (Int × Int × Bool × Bool × Int × Int × Int × Int × Int × Int × Int × Int × Int × Int × Int × Int × Int × Int × Int × Int × Int × Int × Int × Int × List Int)) := fun ⟨s41_0, s41_1, s41_2, s41_3, s41_4, s41_5, s41_6, s41_7, s41_8, s41_9, s41_10, s41_11, s41_12, s41_13, s41_14, s41_15, s41_16, s41_17, s41_18, s41_19, s41_20, s41_21, s41_22, s41_23, s41_24, s41_25, s41_26⟩ =>
 (D_engine_Engine_Step s41_3 s41_4 s41_5 s41_6 s41_7 s41_8 s41_9 s41_10 s41_11 s41_12 s41_13 s41_14 s41_15 s41_16 s41_17 s41_18 s41_19 s41_20 s41_21 s41_22 r12_13 r12_14 r12_15 r12_16 r12_17 r12_18 r12_19 r12_20 r12_21 s41_23 s41_24 s41_25 s41_26).bind fun ⟨r42_0, r42_1, r42_2, r42_3, r42_4, r42_5, r42_6, r42_7, r42_8, r42_9, r42_10, r42_11, r42_12, r42_13, r42_14, r42_15, r42_16, r42_17, r42_18, r42_19, r42_20, r42_21, r42_22, r42_23, r42_24⟩ =>
 cond (r42_2)
  ((D_script_Run_1 r42_0 r42_1 s41_2).bind fun r43 =>
  (D_script_script_cut a0 a1 a2 a3 a4 a5 a6 a7 a8 a9 a10 (wI (s41_0 + 1)) s41_3 s41_4 s41_5 r42_4 r42_5 r42_6 r42_7 r42_8 r42_9 r42_10 r42_11 r42_12 r42_13 r42_14 r42_15 r42_16 r42_17 r42_18 r42_19 r42_20 r12_13 r12_14 r12_15 r12_16 r12_17 r12_18 r12_19 r12_20 r12_21 r42_21 r42_22 r42_23 r42_24).bind fun r44 =>
  some (.inl ((wI (s41_0 + 1), s41_1, r43, s41_3, s41_4, s41_5, r42_4, r42_5, r42_6, r42_7, r42_8, r42_9, r42_10, r42_11, r42_12, r42_13, r42_14, r42_15, r42_16, r42_17, r42_18, r42_19, r42_20, r42_21, r42_22, r42_23, r42_24))))
  ((D_engine_Engine_Waits s41_3 s41_4 s41_5 r42_4 r42_5 r42_6 r42_7 r42_8 r42_9 r42_10 r42_11 r42_12 r42_13 r42_14 r42_15 r42_16 r42_17 r42_18 r42_19 r42_20 r12_13 r12_14 r12_15 r12_16 r12_17 r12_18 r12_19 r12_20 r12_21 r42_21 r42_22 r42_23 r42_24).bind fun r45 =>
  cond (r45)
   ((D_engine_Engine_Feed (decide (s41_1 < ((((ln a10) : Nat) : Int)))) s41_3 s41_4 s41_5 r42_4 r42_5 r42_6 r42_7 r42_8 r42_9 r42_10 r42_11 r42_12 r42_13 r42_14 r42_15 r42_16 r42_17 r42_18 r42_19 r42_20 r12_13 r12_14 r12_15 r12_16 r12_17 r12_18 r12_19 r12_20 r12_21 r42_21 r42_22 r42_23 r42_24).bind fun ⟨r46_0, r46_1, r46_2, r46_3, r46_4, r46_5, r46_6, r46_7, r46_8, r46_9, r46_10, r46_11, r46_12, r46_13, r46_14, r46_15, r46_16, r46_17, r46_18, r46_19, r46_20⟩ =>
   some (.inl ((s41_0, wI (s41_1 + 1), s41_2, r46_1, r46_2, r46_3, r46_4, r46_5, r46_6, r46_7, r46_8, r46_9, r46_10, r46_11, r46_12, r46_13, r46_14, r46_15, r46_16, r46_17, r46_18, r46_19, r46_20, r42_21, r42_22, r42_23, r42_24))))
   (some (.inr (((s41_2, s41_3, s41_4, s41_5, r42_4, r42_5, r42_6, r42_7, r42_8, r42_9, r42_10, r42_11, r42_12, r42_13, r42_14, r42_15, r42_16, r42_17, r42_18, r42_19, r42_20, r42_21, r42_22, r42_23, r42_24))))))
/- (backstitch/script.script).run -/
def D_script_script_run (a0 : Int) (a1 a2 : List Int) (a3 : Int) (a4 : LO) (a5 : Int) (a6 : LO) (a7 a8 : Int) (a9 : List Int) (a10 : List Bool) (a11 : Int) : Op (Int × Int × Bool × Bool × Int × Int × Int × Int × Int × Int × Int × Int × Int × Int × Int × Int × Int × Int × Int × Int × Int × (List Int) × (List Int) × (LO) × (LO) × (List Int) × Int × Int × Int × Int × Int × Int × Int × List Int) :=
 (D_engine_New a0 a1 a2 a3 a4 a5 a6 a7 a8).bind fun ⟨r12_0, r12_1, r12_2, r12_3, r12_4, r12_5, r12_6, r12_7, r12_8, r12_9, r12_10, r12_11, r12_12, r12_13, r12_14, r12_15, r12_16, r12_17, r12_18, r12_19, r12_20, r12_21, r12_22, r12_23, r12_24, r12_25⟩ =>
 (D_script_script_cut a0 a1 a2 a3 a4 a5 a6 a7 a8 a9 a10 0 r12_0 r12_1 r12_2 r12_3 r12_4 r12_5 r12_6 r12_7 r12_8 r12_9 r12_10 r12_11 r12_12 0 (-1) 0 0 0 0 0 r12_13 r12_14 r12_15 r12_16 r12_17 r12_18 r12_19 r12_20 r12_21 r12_22 r12_23 r12_24 r12_25).bind fun r13 =>
 (loopN (D_script_script_run_L0 a0 a1 a2 a3 a4 a5 a6 a7 a8 a9 a10 r12_13 r12_14 r12_15 r12_16 r12_17 r12_18 r12_19 r12_20 r12_21) BIG ((0, 0, a11, r12_0, r12_1, r12_2, r12_3, r12_4, r12_5, r12_6, r12_7, r12_8, r12_9, r12_10, r12_11, r12_12, 0, (-1), 0, 0, 0, 0, 0, r12_22, r12_23, r12_24, r12_25))).bind fun ⟨r47_0, r47_1, r47_2, r47_3, r47_4, r47_5, r47_6, r47_7, r47_8, r47_9, r47_10, r47_11, r47_12, r47_13, r47_14, r47_15, r47_16, r47_17, r47_18, r47_19, r47_20, r47_21, r47_22, r47_23, r47_24⟩ =>
 some ((r47_0, r47_1, r47_2, r47_3, r47_4, r47_5, r47_6, r47_7, r47_8, r47_9, r47_10, r47_11, r47_12, r47_13, r47_14, r47_15, r47_16, r47_17, r47_18, r47_19, r47_20, r12_13, r12_14, r12_15, r12_16, r12_17, r12_18, r12_19, r12_20, r12_21, r47_21, r47_22, r47_23, r47_24))
/- (*backstitch/drive.Driver).Result -/
def D_drive_Driver_Result (a0 a1 a2 a3 a4 a5 a6 a7 a8 a9 a10 a11 a12 a13 a14 a15 a16 : Int) (a17 a18 : List Int) (a19 a20 : LO) (a21 : List Int) (a22 a23 a24 a25 a26 a27 a28 : Int) (a29 : List Int) : Op (Int × Int × (List Int) × List Int) :=
 cond (decide (a11 ≠ 0))
  (some ((0, 19, [], [])))
  ((D_drive_Driver_get 5 a0 a1 a2 a3 a4 a5 a6 a7 a8 a9 a10 a11 a12 a13 a14 a15 a16 a17 a18 a19 a20 a21 a22 a23 a24 a25 a26 a27 a28 a29).bind fun r30 =>
  (D_drive_Driver_get 6 a0 a1 a2 a3 a4 a5 a6 a7 a8 a9 a10 a11 a12 a13 a14 a15 a16 a17 a18 a19 a20 a21 a22 a23 a24 a25 a26 a27 a28 a29).bind fun r31 =>
  some ((a16, 0, r30, r31)))
/- (*backstitch/engine.Engine).Result -/
def D_engine_Engine_Result (a0 : Int) (a1 a2 : Bool) (a3 a4 a5 a6 a7 a8 a9 a10 a11 a12 a13 a14 a15 a16 a17 a18 a19 : Int) (a20 a21 : List Int) (a22 a23 : LO) (a24 : List Int) (a25 a26 a27 a28 a29 a30 a31 : Int) (a32 : List Int) : Op (Int × Int × (List Int) × List Int) :=
 (D_engine_Engine_own a0 a1 a2 a3 a4 a5 a6 a7 a8 a9 a10 a11 a12 a13 a14 a15 a16 a17 a18 a19 a20 a21 a22 a23 a24 a25 a26 a27 a28 a29 a30 a31 a32).bind fun r33 =>
 (D_drive_Driver_Result a3 a4 a5 a6 a7 a8 a9 a10 a11 a12 a13 a14 a15 a16 a17 a18 a19 a20 a21 a22 a23 a24 a25 a26 a27 a28 a29 a30 a31 a32).bind fun r34 =>
 some ((r34.1, r34.2.1, r34.2.2.1, r34.2.2.2))
def D_words_Frame_L0 (a0 : List (List Int)) (s3 : Int × List Int) : Op ((Int × List Int) ⊕ (List Int)) :=
 cond (decide (s3.1 < ((((ln a0) : Nat) : Int))))
  ((rd a0 s3.1).bind fun x4 =>
  gd (fits (ln s3.2 + 1) 8) (gd (fits (ln ((s3.2 ++ [wU ((((ln x4) : Nat) : Int))])) + ln x4) 8) (some (.inl ((wI (s3.1 + 1), ((s3.2 ++ [wU ((((ln x4) : Nat) : Int))]) ++ x4)))))))
  (some (.inr s3.2))
/- backstitch/words.Frame -/
def D_words_Frame (a0 : List (List Int)) : Op (List Int) :=
 (loopN (D_words_Frame_L0 a0) BIG ((0, []))).bind fun r5 =>
 some r5
/- (*backstitch/drive.Driver).Count -/
def D_drive_Driver_Count (a0 a1 a2 a3 a4 a5 a6 a7 a8 a9 a10 a11 a12 a13 a14 a15 a16 : Int) (a17 a18 : List Int) (a19 a20 : LO) (a21 : List Int) (a22 a23 a24 a25 a26 a27 a28 : Int) (a29 : List Int) : Op (Int × Int × Int × Int) :=
 some ((a12, a13, a14, a15))
/- (*backstitch/engine.Engine).Count -/
def D_engine_Engine_Count (a0 : Int) (a1 a2 : Bool) (a3 a4 a5 a6 a7 a8 a9 a10 a11 a12 a13 a14 a15 a16 a17 a18 a19 : Int) (a20 a21 : List Int) (a22 a23 : LO) (a24 : List Int) (a25 a26 a27 a28 a29 a30 a31 : Int) (a32 : List Int) : Op (Int × Int × Int × Int) :=
 (D_engine_Engine_own a0 a1 a2 a3 a4 a5 a6 a7 a8 a9 a10 a11 a12 a13 a14 a15 a16 a17 a18 a19 a20 a21 a22 a23 a24 a25 a26 a27 a28 a29 a30 a31 a32).bind fun r33 =>
 (D_drive_Driver_Count a3 a4 a5 a6 a7 a8 a9 a10 a11 a12 a13 a14 a15 a16 a17 a18 a19 a20 a21 a22 a23 a24 a25 a26 a27 a28 a29 a30 a31 a32).bind fun r34 =>
 some ((r34.1, r34.2.1, r34.2.2.1, r34.2.2.2))
/- (*backstitch/meter.Meter).Peak -/
def D_meter_Meter_Peak (a0 a1 a2 : Int) : Op (Int) :=
 some a1
/- (*backstitch/drive.Driver).Peak -/
def D_drive_Driver_Peak (a0 a1 a2 a3 a4 a5 a6 a7 a8 a9 a10 a11 a12 a13 a14 a15 a16 : Int) (a17 a18 : List Int) (a19 a20 : LO) (a21 : List Int) (a22 a23 a24 a25 a26 a27 a28 : Int) (a29 : List Int) : Op (Int) :=
 (D_meter_Meter_Peak a26 a27 a28).bind fun r30 =>
 some r30
/- (*backstitch/engine.Engine).Peak -/
def D_engine_Engine_Peak (a0 : Int) (a1 a2 : Bool) (a3 a4 a5 a6 a7 a8 a9 a10 a11 a12 a13 a14 a15 a16 a17 a18 a19 : Int) (a20 a21 : List Int) (a22 a23 : LO) (a24 : List Int) (a25 a26 a27 a28 a29 a30 a31 : Int) (a32 : List Int) : Op (Int) :=
 (D_engine_Engine_own a0 a1 a2 a3 a4 a5 a6 a7 a8 a9 a10 a11 a12 a13 a14 a15 a16 a17 a18 a19 a20 a21 a22 a23 a24 a25 a26 a27 a28 a29 a30 a31 a32).bind fun r33 =>
 (D_drive_Driver_Peak a3 a4 a5 a6 a7 a8 a9 a10 a11 a12 a13 a14 a15 a16 a17 a18 a19 a20 a21 a22 a23 a24 a25 a26 a27 a28 a29 a30 a31 a32).bind fun r34 =>
 some r34
def D_script_Run_L0 (r2_0 : Int) (r4 : Int × Int × Int × Int × Int) (r6 : Int × Int × Int × Int) (r7 : Int) (r8 : Int) (s11 : Int × List Int) : Op ((Int × List Int) ⊕ (List Int)) :=
 cond (decide (s11.1 < 8))
  ((ix s11.1 8).bind fun j12 =>
  gd (fits (ln s11.2 + 1) 8) (some (.inl ((wI (s11.1 + 1), (s11.2 ++ [wU ((List.getD [r7, r4.2.2.2.1, r6.1, r6.2.1, r6.2.2.1, r6.2.2.2, r8, r2_0] j12 0))]))))))
  (some (.inr s11.2))
/- backstitch/script.Run -/
def D_script_Run (a0 : List Int) : Op (List Int) :=
 (D_script_read a0).bind fun ⟨r1_0, r1_1, r1_2, r1_3, r1_4, r1_5, r1_6, r1_7, r1_8, r1_9, r1_10, r1_11⟩ =>
 cond (decide (r1_8 ≠ 0))
  (some ([wU (r1_8)]))
  ((D_script_script_run r1_0 r1_9 r1_10 r1_1 r1_2 r1_3 r1_4 r1_5 r1_6 r1_7 r1_11 0).bind fun ⟨r2_0, r2_1, r2_2, r2_3, r2_4, r2_5, r2_6, r2_7, r2_8, r2_9, r2_10, r2_11, r2_12, r2_13, r2_14, r2_15, r2_16, r2_17, r2_18, r2_19, r2_20, r2_21, r2_22, r2_23, r2_24, r2_25, r2_26, r2_27, r2_28, r2_29, r2_30, r2_31, r2_32, r2_33⟩ =>
  (D_engine_Engine_Result r2_1 r2_2 r2_3 r2_4 r2_5 r2_6 r2_7 r2_8 r2_9 r2_10 r2_11 r2_12 r2_13 r2_14 r2_15 r2_16 r2_17 r2_18 r2_19 r2_20 r2_21 r2_22 r2_23 r2_24 r2_25 r2_26 r2_27 r2_28 r2_29 r2_30 r2_31 r2_32 r2_33).bind fun r3 =>
  (D_plan_Make r1_0 r1_9 r1_10 r1_1 r1_2 r1_3 r1_4 r1_5 r1_6).bind fun r4 =>
  (D_words_Frame ([r3.2.2.1, r3.2.2.2])).bind fun r5 =>
  gd (fits (2 + ln r5) 8) ((D_engine_Engine_Count r2_1 r2_2 r2_3 r2_4 r2_5 r2_6 r2_7 r2_8 r2_9 r2_10 r2_11 r2_12 r2_13 r2_14 r2_15 r2_16 r2_17 r2_18 r2_19 r2_20 r2_21 r2_22 r2_23 r2_24 r2_25 r2_26 r2_27 r2_28 r2_29 r2_30 r2_31 r2_32 r2_33).bind fun r6 =>
  (D_engine_Engine_Len r2_1 r2_2 r2_3 r2_4 r2_5 r2_6 r2_7 r2_8 r2_9 r2_10 r2_11 r2_12 r2_13 r2_14 r2_15 r2_16 r2_17 r2_18 r2_19 r2_20 r2_21 r2_22 r2_23 r2_24 r2_25 r2_26 r2_27 r2_28 r2_29 r2_30 r2_31 r2_32 r2_33).bind fun r7 =>
  (D_engine_Engine_Peak r2_1 r2_2 r2_3 r2_4 r2_5 r2_6 r2_7 r2_8 r2_9 r2_10 r2_11 r2_12 r2_13 r2_14 r2_15 r2_16 r2_17 r2_18 r2_19 r2_20 r2_21 r2_22 r2_23 r2_24 r2_25 r2_26 r2_27 r2_28 r2_29 r2_30 r2_31 r2_32 r2_33).bind fun r8 =>
  (loopN (D_script_Run_L0 r2_0 r4 r6 r7 r8) BIG ((0, (([0, r3.1] : List Int) ++ r5)))).bind fun r13 =>
  some r13))
def D_ref05_Same_L0 (a0 a1 : List Int) (s3 : Int) : Op ((Int) ⊕ ((Bool) ⊕ (Unit))) :=
 cond (decide (s3 < ((((ln a0) : Nat) : Int))))
  ((rd a0 s3).bind fun x4 =>
  (rd a1 s3).bind fun x5 =>
  cond (decide (x4 ≠ x5))
   (some (.inr (((.inl false)))))
   (some (.inl (wI (s3 + 1)))))
  (some (.inr (((.inr ())))))
/- backstitch/backstitchref05.Same -/
def D_ref05_Same (a0 a1 : List Int) : Op (Bool) :=
 cond (decide (((((ln a0) : Nat) : Int)) ≠ ((((ln a1) : Nat) : Int))))
  (some false)
  ((loopN (D_ref05_Same_L0 a0 a1) BIG 0).bind fun r6 =>
  caseS r6 (fun u'7 =>
   some u'7)
   (fun w8 =>
   some true))
/- strconv.Itoa -/
def D_strconv_Itoa (a0 : Int) : Op (List Int) := itoaP a0
/- backstitch/script.Tell$1 -/
def D_script_Tell_1 (a0 a1 : Int) : Op (Int × Int) :=
 some ((a0, a1))
/- backstitch/script.Tell$1 -/
def D_script_Tell_1_2 (a0 a1 : Int) (a2 : List (Int × Int)) : Op (List (Int × Int)) :=
 gd (fits (ln a2 + 1) 16) (some ((a2 ++ [(a0, a1)])))
def D_script_script_run_2_L0 (a0 : Int) (a1 a2 : List Int) (a3 : Int) (a4 : LO) (a5 : Int) (a6 : LO) (a7 a8 : Int) (a9 : List Int) (a10 : List Bool) (r11_13 r11_14 : List Int) (r11_15 r11_16 : LO) (r11_17 : List Int) (r11_18 r11_19 r11_20 r11_21 : Int) : (Int × Int × Int × Bool × Bool × Int × Int × Int × Int × Int × Int × Int × Int × Int × Int × Int × Int × Int × Int × Int × Int × Int × Int × Int × Int × (List Int) × List (Int × Int)) → Op ((Int × Int × Int × Bool × Bool × Int × Int × Int × Int × Int × Int × Int × Int × Int × Int × Int × Int × Int × Int × Int × Int × Int × Int × Int × Int × (List Int) × List (Int × Int)) ⊕ (Int × Bool × Bool × Int × Int × Int × Int × Int × Int × Int × Int × Int × Int × Int × Int × Int × Int × Int × Int × Int × Int × Int × Int × (List Int) × List (Int × Int))) := fun ⟨s40_0, s40_1, s40_2, s40_3, s40_4, s40_5, s40_6, s40_7, s40_8, s40_9, s40_10, s40_11, s40_12, s40_13, s40_14, s40_15, s40_16, s40_17, s40_18, s40_19, s40_20, s40_21, s40_22, s40_23, s40_24, s40_25, s40_26⟩ =>
 (D_engine_Engine_Step s40_2 s40_3 s40_4 s40_5 s40_6 s40_7 s40_8 s40_9 s40_10 s40_11 s40_12 s40_13 s40_14 s40_15 s40_16 s40_17 s40_18 s40_19 s40_20 s40_21 r11_13 r11_14 r11_15 r11_16 r11_17 r11_18 r11_19 r11_20 r11_21 s40_22 s40_23 s40_24 s40_25).bind fun ⟨r41_0, r41_1, r41_2, r41_3, r41_4, r41_5, r41_6, r41_7, r41_8, r41_9, r41_10, r41_11, r41_12, r41_13, r41_14, r41_15, r41_16, r41_17, r41_18, r41_19, r41_20, r41_21, r41_22, r41_23, r41_24⟩ =>
 cond (r41_2)
  ((D_script_Tell_1_2 r41_0 r41_1 s40_26).bind fun r42 =>
  (D_script_script_cut a0 a1 a2 a3 a4 a5 a6 a7 a8 a9 a10 (wI (s40_0 + 1)) s40_2 s40_3 s40_4 r41_4 r41_5 r41_6 r41_7 r41_8 r41_9 r41_10 r41_11 r41_12 r41_13 r41_14 r41_15 r41_16 r41_17 r41_18 r41_19 r41_20 r11_13 r11_14 r11_15 r11_16 r11_17 r11_18 r11_19 r11_20 r11_21 r41_21 r41_22 r41_23 r41_24).bind fun r43 =>
  some (.inl ((wI (s40_0 + 1), s40_1, s40_2, s40_3, s40_4, r41_4, r41_5, r41_6, r41_7, r41_8, r41_9, r41_10, r41_11, r41_12, r41_13, r41_14, r41_15, r41_16, r41_17, r41_18, r41_19, r41_20, r41_21, r41_22, r41_23, r41_24, r42))))
  ((D_engine_Engine_Waits s40_2 s40_3 s40_4 r41_4 r41_5 r41_6 r41_7 r41_8 r41_9 r41_10 r41_11 r41_12 r41_13 r41_14 r41_15 r41_16 r41_17 r41_18 r41_19 r41_20 r11_13 r11_14 r11_15 r11_16 r11_17 r11_18 r11_19 r11_20 r11_21 r41_21 r41_22 r41_23 r41_24).bind fun r44 =>
  cond (r44)
   ((D_engine_Engine_Feed (decide (s40_1 < ((((ln a10) : Nat) : Int)))) s40_2 s40_3 s40_4 r41_4 r41_5 r41_6 r41_7 r41_8 r41_9 r41_10 r41_11 r41_12 r41_13 r41_14 r41_15 r41_16 r41_17 r41_18 r41_19 r41_20 r11_13 r11_14 r11_15 r11_16 r11_17 r11_18 r11_19 r11_20 r11_21 r41_21 r41_22 r41_23 r41_24).bind fun ⟨r45_0, r45_1, r45_2, r45_3, r45_4, r45_5, r45_6, r45_7, r45_8, r45_9, r45_10, r45_11, r45_12, r45_13, r45_14, r45_15, r45_16, r45_17, r45_18, r45_19, r45_20⟩ =>
   some (.inl ((s40_0, wI (s40_1 + 1), r45_1, r45_2, r45_3, r45_4, r45_5, r45_6, r45_7, r45_8, r45_9, r45_10, r45_11, r45_12, r45_13, r45_14, r45_15, r45_16, r45_17, r45_18, r45_19, r45_20, r41_21, r41_22, r41_23, r41_24, s40_26))))
   (some (.inr (((s40_2, s40_3, s40_4, r41_4, r41_5, r41_6, r41_7, r41_8, r41_9, r41_10, r41_11, r41_12, r41_13, r41_14, r41_15, r41_16, r41_17, r41_18, r41_19, r41_20, r41_21, r41_22, r41_23, r41_24, s40_26))))))
/- (backstitch/script.script).run -/
def D_script_script_run_2 (a0 : Int) (a1 a2 : List Int) (a3 : Int) (a4 : LO) (a5 : Int) (a6 : LO) (a7 a8 : Int) (a9 : List Int) (a10 : List Bool) : Op (Int × Bool × Bool × (List (Int × Int)) × Int × Int × Int × Int × Int × Int × Int × Int × Int × Int × Int × Int × Int × Int × Int × Int × Int × (List Int) × (List Int) × (LO) × (LO) × (List Int) × Int × Int × Int × Int × Int × Int × Int × List Int) :=
 (D_engine_New a0 a1 a2 a3 a4 a5 a6 a7 a8).bind fun ⟨r11_0, r11_1, r11_2, r11_3, r11_4, r11_5, r11_6, r11_7, r11_8, r11_9, r11_10, r11_11, r11_12, r11_13, r11_14, r11_15, r11_16, r11_17, r11_18, r11_19, r11_20, r11_21, r11_22, r11_23, r11_24, r11_25⟩ =>
 (D_script_script_cut a0 a1 a2 a3 a4 a5 a6 a7 a8 a9 a10 0 r11_0 r11_1 r11_2 r11_3 r11_4 r11_5 r11_6 r11_7 r11_8 r11_9 r11_10 r11_11 r11_12 0 (-1) 0 0 0 0 0 r11_13 r11_14 r11_15 r11_16 r11_17 r11_18 r11_19 r11_20 r11_21 r11_22 r11_23 r11_24 r11_25).bind fun r12 =>
 (loopN (D_script_script_run_2_L0 a0 a1 a2 a3 a4 a5 a6 a7 a8 a9 a10 r11_13 r11_14 r11_15 r11_16 r11_17 r11_18 r11_19 r11_20 r11_21) BIG ((0, 0, r11_0, r11_1, r11_2, r11_3, r11_4, r11_5, r11_6, r11_7, r11_8, r11_9, r11_10, r11_11, r11_12, 0, (-1), 0, 0, 0, 0, 0, r11_22, r11_23, r11_24, r11_25, []))).bind fun ⟨r46_0, r46_1, r46_2, r46_3, r46_4, r46_5, r46_6, r46_7, r46_8, r46_9, r46_10, r46_11, r46_12, r46_13, r46_14, r46_15, r46_16, r46_17, r46_18, r46_19, r46_20, r46_21, r46_22, r46_23, r46_24⟩ =>
 some ((r46_0, r46_1, r46_2, r46_24, r46_3, r46_4, r46_5, r46_6, r46_7, r46_8, r46_9, r46_10, r46_11, r46_12, r46_13, r46_14, r46_15, r46_16, r46_17, r46_18, r46_19, r11_13, r11_14, r11_15, r11_16, r11_17, r11_18, r11_19, r11_20, r11_21, r46_20, r46_21, r46_22, r46_23))
/- backstitch/action.names -/
def D_action_names  : Op ((List Int) × (List Int) × (List Int) × (List Int) × (List Int) × (List Int) × (List Int) × (List Int) × (List Int) × List Int) :=
 some ((([] : List Int), ([97, 100, 118, 97, 110, 99, 101] : List Int), ([115, 116, 111, 114, 101] : List Int), ([114, 101, 115, 116, 111, 114, 101] : List Int), ([102, 114, 101, 101] : List Int), ([115, 101, 101, 100] : List Int), ([98, 111, 116, 104] : List Int), ([114, 101, 118, 101, 114, 115, 101] : List Int), ([116, 97, 112, 101] : List Int), ([98, 97, 99, 107] : List Int)))
def D_action_Print_L0 (a0 : List (Int × Int)) (s3 : Int × List Int) : Op ((Int × List Int) ⊕ (((List Int) × List Int) ⊕ (List Int))) :=
 cond (decide (s3.1 < ((((ln a0) : Nat) : Int))))
  ((rd a0 s3.1).bind fun x4 =>
  (D_action_Right x4.1 x4.2).bind fun r5 =>
  cond (!r5)
   (some (.inr (((.inl ((([] : List Int), s3.2)))))))
   ((D_action_names).bind fun ⟨r6_0, r6_1, r6_2, r6_3, r6_4, r6_5, r6_6, r6_7, r6_8, r6_9⟩ =>
   (ix x4.1 10).bind fun j7 =>
   gd (bfits (ln s3.2) (ln ((List.getD [r6_0, r6_1, r6_2, r6_3, r6_4, r6_5, r6_6, r6_7, r6_8, r6_9] j7 [])))) (((((D_action_numbered x4.1).bind fun r8 =>
   cond (r8)
    ((D_strconv_Itoa x4.2).bind fun r9 =>
    gd (sfits (ln (([32] : List Int))) (ln r9)) (gd (bfits (ln ((s3.2 ++ (List.getD [r6_0, r6_1, r6_2, r6_3, r6_4, r6_5, r6_6, r6_7, r6_8, r6_9] j7 [])))) (ln ((([32] : List Int) ++ r9)))) (some (((s3.2 ++ (List.getD [r6_0, r6_1, r6_2, r6_3, r6_4, r6_5, r6_6, r6_7, r6_8, r6_9] j7 [])) ++ (([32] : List Int) ++ r9))))))
    (some ((s3.2 ++ (List.getD [r6_0, r6_1, r6_2, r6_3, r6_4, r6_5, r6_6, r6_7, r6_8, r6_9] j7 []))))) : Op (List Int))).bind fun s10 =>
   gd (bfits (ln s10) (ln (([10] : List Int)))) (some (.inl ((wI (s3.1 + 1), (s10 ++ ([10] : List Int)))))))))
  (some (.inr (((.inr s3.2)))))
/- backstitch/action.Print -/
def D_action_Print (a0 : List (Int × Int)) : Op ((List Int) × Int) :=
 (loopN (D_action_Print_L0 a0) BIG ((0, ([] : List Int)))).bind fun r11 =>
 caseS r11 (fun u'12 =>
  some ((u'12.1, 2)))
  (fun w13 =>
  some ((w13, 0)))
/- internal/strconv.small -/
def D_internal_strconv_small (a0 : Int) : Op (List Int) :=
 cond (decide (a0 < 10))
  (gd (cutG a0 (wI (a0 + 1)) 36) (some ((cutL (tabL1) a0 (wI (a0 + 1))))))
  (gd (cutG (wI (a0 * 2)) (wI ((wI (a0 * 2)) + 2)) 200) (some ((cutL (tabL2) (wI (a0 * 2)) (wI ((wI (a0 * 2)) + 2))))))
/- internal/strconv.numDigits -/
def D_internal_strconv_numDigits (a0 : Int) : Op (Int) := nDigP a0
def D_signs_Text_L0 (r2 : Int) (s8 : Int × Int × List Int) : Op ((Int × Int × List Int) ⊕ (Int × Int × List Int)) :=
 cond (decide (8 ≤ s8.1))
  ((rd (tabL2) (IntKind.u32.wrap ((IntKind.u32.wrap ((Int.tmod (Int.tmod (IntKind.u32.wrap (Int.tmod s8.2.1 100000000)) 10000) 100) * 2)) + 1))).bind fun x9 =>
  (rd (tabL2) (IntKind.u32.wrap ((Int.tmod (Int.tmod (IntKind.u32.wrap (Int.tmod s8.2.1 100000000)) 10000) 100) * 2))).bind fun x10 =>
  (ix (wI (s8.1 - 1)) (((tN r2) - 0))).bind fun j11 =>
  (s8.2.2[(0 + j11)]?).bind fun x12 =>
  (ix (wI (s8.1 - 2)) (((tN r2) - 0))).bind fun j13 =>
  (((List.set s8.2.2 (0 + j11) x9))[(0 + j13)]?).bind fun x14 =>
  (rd (tabL2) (IntKind.u32.wrap ((IntKind.u32.wrap ((IntKind.u32.wrap (Int.tdiv (Int.tmod (IntKind.u32.wrap (Int.tmod s8.2.1 100000000)) 10000) 100)) * 2)) + 1))).bind fun x15 =>
  (rd (tabL2) (IntKind.u32.wrap ((IntKind.u32.wrap (Int.tdiv (Int.tmod (IntKind.u32.wrap (Int.tmod s8.2.1 100000000)) 10000) 100)) * 2))).bind fun x16 =>
  (ix (wI (s8.1 - 3)) (((tN r2) - 0))).bind fun j17 =>
  (((List.set ((List.set s8.2.2 (0 + j11) x9)) (0 + j13) x10))[(0 + j17)]?).bind fun x18 =>
  (ix (wI (s8.1 - 4)) (((tN r2) - 0))).bind fun j19 =>
  (((List.set ((List.set ((List.set s8.2.2 (0 + j11) x9)) (0 + j13) x10)) (0 + j17) x15))[(0 + j19)]?).bind fun x20 =>
  (rd (tabL2) (IntKind.u32.wrap ((IntKind.u32.wrap ((Int.tmod (IntKind.u32.wrap (Int.tdiv (IntKind.u32.wrap (Int.tmod s8.2.1 100000000)) 10000)) 100) * 2)) + 1))).bind fun x21 =>
  (rd (tabL2) (IntKind.u32.wrap ((Int.tmod (IntKind.u32.wrap (Int.tdiv (IntKind.u32.wrap (Int.tmod s8.2.1 100000000)) 10000)) 100) * 2))).bind fun x22 =>
  (ix (wI (s8.1 - 5)) (((tN r2) - 0))).bind fun j23 =>
  (((List.set ((List.set ((List.set ((List.set s8.2.2 (0 + j11) x9)) (0 + j13) x10)) (0 + j17) x15)) (0 + j19) x16))[(0 + j23)]?).bind fun x24 =>
  (ix (wI (s8.1 - 6)) (((tN r2) - 0))).bind fun j25 =>
  (((List.set ((List.set ((List.set ((List.set ((List.set s8.2.2 (0 + j11) x9)) (0 + j13) x10)) (0 + j17) x15)) (0 + j19) x16)) (0 + j23) x21))[(0 + j25)]?).bind fun x26 =>
  (rd (tabL2) (IntKind.u32.wrap ((IntKind.u32.wrap ((IntKind.u32.wrap (Int.tdiv (IntKind.u32.wrap (Int.tdiv (IntKind.u32.wrap (Int.tmod s8.2.1 100000000)) 10000)) 100)) * 2)) + 1))).bind fun x27 =>
  (rd (tabL2) (IntKind.u32.wrap ((IntKind.u32.wrap (Int.tdiv (IntKind.u32.wrap (Int.tdiv (IntKind.u32.wrap (Int.tmod s8.2.1 100000000)) 10000)) 100)) * 2))).bind fun x28 =>
  (ix (wI (s8.1 - 7)) (((tN r2) - 0))).bind fun j29 =>
  (((List.set ((List.set ((List.set ((List.set ((List.set ((List.set s8.2.2 (0 + j11) x9)) (0 + j13) x10)) (0 + j17) x15)) (0 + j19) x16)) (0 + j23) x21)) (0 + j25) x22))[(0 + j29)]?).bind fun x30 =>
  (ix (wI (s8.1 - 8)) (((tN r2) - 0))).bind fun j31 =>
  (((List.set ((List.set ((List.set ((List.set ((List.set ((List.set ((List.set s8.2.2 (0 + j11) x9)) (0 + j13) x10)) (0 + j17) x15)) (0 + j19) x16)) (0 + j23) x21)) (0 + j25) x22)) (0 + j29) x27))[(0 + j31)]?).bind fun x32 =>
  some (.inl ((wI (s8.1 - 8), wU (Int.tdiv s8.2.1 100000000), (List.set ((List.set ((List.set ((List.set ((List.set ((List.set ((List.set ((List.set s8.2.2 (0 + j11) x9)) (0 + j13) x10)) (0 + j17) x15)) (0 + j19) x16)) (0 + j23) x21)) (0 + j25) x22)) (0 + j29) x27)) (0 + j31) x28)))))
  (some (.inr (((s8.2.1, s8.1, s8.2.2)))))
/- backstitch/signs.Text -/
def D_signs_Text (a0 : Int) : Op (List Int) :=
 cond (decide (a0 < 100))
  ((D_internal_strconv_small (wI (a0))).bind fun r1 =>
  some r1)
  ((D_internal_strconv_numDigits a0).bind fun r2 =>
  gd (Nat.beq 1 1 && Nat.beq 0 0 && Nat.ble 24 (ln ((List.replicate 24 (0 : Int)))) && cutG 0 r2 24 && decide (0 < 24)) ((loopN (D_signs_Text_L0 r2) BIG ((((((tN r2) - 0) : Nat) : Int), a0, (List.replicate 24 (0 : Int))))).bind fun r33 =>
  (((cond (decide (4 ≤ r33.2.1))
   ((rd (tabL2) (IntKind.u32.wrap ((IntKind.u32.wrap ((Int.tmod (Int.tmod (IntKind.u32.wrap (r33.1)) 10000) 100) * 2)) + 1))).bind fun x34 =>
   (rd (tabL2) (IntKind.u32.wrap ((Int.tmod (Int.tmod (IntKind.u32.wrap (r33.1)) 10000) 100) * 2))).bind fun x35 =>
   (ix (wI (r33.2.1 - 1)) (((tN r2) - 0))).bind fun j36 =>
   (r33.2.2[(0 + j36)]?).bind fun x37 =>
   (ix (wI (r33.2.1 - 2)) (((tN r2) - 0))).bind fun j38 =>
   (((List.set r33.2.2 (0 + j36) x34))[(0 + j38)]?).bind fun x39 =>
   (rd (tabL2) (IntKind.u32.wrap ((IntKind.u32.wrap ((IntKind.u32.wrap (Int.tdiv (Int.tmod (IntKind.u32.wrap (r33.1)) 10000) 100)) * 2)) + 1))).bind fun x40 =>
   (rd (tabL2) (IntKind.u32.wrap ((IntKind.u32.wrap (Int.tdiv (Int.tmod (IntKind.u32.wrap (r33.1)) 10000) 100)) * 2))).bind fun x41 =>
   (ix (wI (r33.2.1 - 3)) (((tN r2) - 0))).bind fun j42 =>
   (((List.set ((List.set r33.2.2 (0 + j36) x34)) (0 + j38) x35))[(0 + j42)]?).bind fun x43 =>
   (ix (wI (r33.2.1 - 4)) (((tN r2) - 0))).bind fun j44 =>
   (((List.set ((List.set ((List.set r33.2.2 (0 + j36) x34)) (0 + j38) x35)) (0 + j42) x40))[(0 + j44)]?).bind fun x45 =>
   some ((wI (r33.2.1 - 4), IntKind.u32.wrap (Int.tdiv (IntKind.u32.wrap (r33.1)) 10000), (List.set ((List.set ((List.set ((List.set r33.2.2 (0 + j36) x34)) (0 + j38) x35)) (0 + j42) x40)) (0 + j44) x41))))
   (some ((r33.2.1, IntKind.u32.wrap (r33.1), r33.2.2)))) : Op (Int × Int × List Int))).bind fun s46 =>
  cond (decide (2 ≤ s46.1))
   ((rd (tabL2) (IntKind.u32.wrap ((IntKind.u32.wrap ((Int.tmod s46.2.1 100) * 2)) + 1))).bind fun x47 =>
   (rd (tabL2) (IntKind.u32.wrap ((Int.tmod s46.2.1 100) * 2))).bind fun x48 =>
   (ix (wI (s46.1 - 1)) (((tN r2) - 0))).bind fun j49 =>
   (s46.2.2[(0 + j49)]?).bind fun x50 =>
   (ix (wI (s46.1 - 2)) (((tN r2) - 0))).bind fun j51 =>
   (((List.set s46.2.2 (0 + j49) x47))[(0 + j51)]?).bind fun x52 =>
   cond (decide (0 < (wI (s46.1 - 2))))
    ((ix 0 (((tN r2) - 0))).bind fun j53 =>
    (((List.set ((List.set s46.2.2 (0 + j49) x47)) (0 + j51) x48))[(0 + j53)]?).bind fun x54 =>
    gd (Nat.beq 1 1 && Nat.beq 0 0 && Nat.ble 24 (ln ((List.set ((List.set ((List.set s46.2.2 (0 + j49) x47)) (0 + j51) x48)) (0 + j53) (IntKind.u8.wrap (IntKind.u32.wrap (48 + (IntKind.u32.wrap (Int.tdiv s46.2.1 100)))))))) && cutG 0 r2 24 && decide (0 < 24)) (some ((List.map byteI ((List.take (((tN r2) - 0)) (List.drop 0 ((List.set ((List.set ((List.set s46.2.2 (0 + j49) x47)) (0 + j51) x48)) (0 + j53) (IntKind.u8.wrap (IntKind.u32.wrap (48 + (IntKind.u32.wrap (Int.tdiv s46.2.1 100))))))))))))))
    (gd (Nat.beq 1 1 && Nat.beq 0 0 && Nat.ble 24 (ln ((List.set ((List.set s46.2.2 (0 + j49) x47)) (0 + j51) x48))) && cutG 0 r2 24 && decide (0 < 24)) (some ((List.map byteI ((List.take (((tN r2) - 0)) (List.drop 0 ((List.set ((List.set s46.2.2 (0 + j49) x47)) (0 + j51) x48))))))))))
   (cond (decide (0 < s46.1))
    ((ix 0 (((tN r2) - 0))).bind fun j55 =>
    (s46.2.2[(0 + j55)]?).bind fun x56 =>
    gd (Nat.beq 1 1 && Nat.beq 0 0 && Nat.ble 24 (ln ((List.set s46.2.2 (0 + j55) (IntKind.u8.wrap (IntKind.u32.wrap (48 + s46.2.1)))))) && cutG 0 r2 24 && decide (0 < 24)) (some ((List.map byteI ((List.take (((tN r2) - 0)) (List.drop 0 ((List.set s46.2.2 (0 + j55) (IntKind.u8.wrap (IntKind.u32.wrap (48 + s46.2.1))))))))))))
    (gd (Nat.beq 1 1 && Nat.beq 0 0 && Nat.ble 24 (ln s46.2.2) && cutG 0 r2 24 && decide (0 < 24)) (some ((List.map byteI ((List.take (((tN r2) - 0)) (List.drop 0 s46.2.2))))))))))
def D_script_row_L0 (a1 : List Int) (s4 : Int × List Int) : Op ((Int × List Int) ⊕ (List Int)) :=
 cond (decide (s4.1 < ((((ln a1) : Nat) : Int))))
  ((rd a1 s4.1).bind fun x5 =>
  (D_signs_Text x5).bind fun r6 =>
  gd (sfits (ln (([32] : List Int))) (ln r6)) (gd (bfits (ln s4.2) (ln ((([32] : List Int) ++ r6)))) (some (.inl ((wI (s4.1 + 1), (s4.2 ++ (([32] : List Int) ++ r6))))))))
  (some (.inr s4.2))
/- backstitch/script.row -/
def D_script_row (a0 a1 : List Int) : Op (List Int) :=
 gd (bfits (ln (([] : List Int))) (ln a0)) ((loopN (D_script_row_L0 a1) BIG ((0, (([] : List Int) ++ a0)))).bind fun r7 =>
 gd (sfits (ln r7) (ln (([10] : List Int)))) (some ((r7 ++ ([10] : List Int)))))
/- backstitch/script.Tell -/
def D_script_Tell (a0 : List Int) : Op (List Int) :=
 (D_script_read a0).bind fun ⟨r1_0, r1_1, r1_2, r1_3, r1_4, r1_5, r1_6, r1_7, r1_8, r1_9, r1_10, r1_11⟩ =>
 cond (decide (r1_8 ≠ 0))
  ((D_strconv_Itoa r1_8).bind fun r2 =>
  gd (sfits (ln (([101, 114, 114, 111, 114, 32] : List Int))) (ln r2)) (gd (sfits (ln ((([101, 114, 114, 111, 114, 32] : List Int) ++ r2))) (ln (([10] : List Int)))) (some (((([101, 114, 114, 111, 114, 32] : List Int) ++ r2) ++ ([10] : List Int))))))
  ((D_script_script_run_2 r1_0 r1_9 r1_10 r1_1 r1_2 r1_3 r1_4 r1_5 r1_6 r1_7 r1_11).bind fun ⟨r3_0, r3_1, r3_2, r3_3, r3_4, r3_5, r3_6, r3_7, r3_8, r3_9, r3_10, r3_11, r3_12, r3_13, r3_14, r3_15, r3_16, r3_17, r3_18, r3_19, r3_20, r3_21, r3_22, r3_23, r3_24, r3_25, r3_26, r3_27, r3_28, r3_29, r3_30, r3_31, r3_32, r3_33⟩ =>
  (D_action_Print r3_3).bind fun r4 =>
  (D_engine_Engine_Result r3_0 r3_1 r3_2 r3_4 r3_5 r3_6 r3_7 r3_8 r3_9 r3_10 r3_11 r3_12 r3_13 r3_14 r3_15 r3_16 r3_17 r3_18 r3_19 r3_20 r3_21 r3_22 r3_23 r3_24 r3_25 r3_26 r3_27 r3_28 r3_29 r3_30 r3_31 r3_32 r3_33).bind fun r5 =>
  (D_script_row (([108, 111, 115, 115] : List Int)) [r5.1]).bind fun r6 =>
  gd (sfits (ln r4.1) (ln r6)) ((D_script_row (([120] : List Int)) r5.2.2.1).bind fun r7 =>
  gd (sfits (ln ((r4.1 ++ r6))) (ln r7)) ((D_script_row (([116, 104, 101, 116, 97] : List Int)) r5.2.2.2).bind fun r8 =>
  gd (sfits (ln (((r4.1 ++ r6) ++ r7))) (ln r8)) (some ((((r4.1 ++ r6) ++ r7) ++ r8))))))
/- backstitch/backstitchlaw38.goes -/
def D_law38_goes  : Op (Bool) :=
 (D_script_Run ([1, 3, 2, 3, 100, 4, 1, 0, 0, 2, 0, 1, 5, 1, 2, 0])).bind fun r0 =>
 (D_ref05_Same r0 ([0, 8, 1, 1, 1, 0, 3, 43, 2, 3, 1, 4, 17, 11])).bind fun r1 =>
 cond (r1)
  ((D_script_Tell []).bind fun r2 =>
  some (decide (r2 = ([101, 114, 114, 111, 114, 32, 52, 10] : List Int))))
  (some false)
def D_ref38_Bits_L0 (s4 : Int × List Bool) (s9 : Int × Int) : Op ((Int × Int) ⊕ (Int)) :=
 cond (decide (s9.1 < (Int.tmod s4.1 64)))
  (some (.inl ((wI (s9.1 + 1), wU (Int.tdiv s9.2 2)))))
  (some (.inr s9.2))
def D_ref38_Bits_L1 (a0 : Int) (a1 : List Int) (s4 : Int × List Bool) : Op ((Int × List Bool) ⊕ (List Bool)) :=
 cond (decide (s4.1 < a0))
  ((rd a1 (wI (Int.tdiv s4.1 64))).bind fun x5 =>
  (loopN (D_ref38_Bits_L0 s4) BIG ((0, x5))).bind fun r10 =>
  gd (fits (ln s4.2 + 1) 1) (some (.inl ((wI (s4.1 + 1), (s4.2 ++ [decide ((Int.tmod r10 2) = 1)]))))))
  (some (.inr s4.2))
/- backstitch/backstitchref38.Bits -/
def D_ref38_Bits (a0 : Int) (a1 : List Int) : Op (Int × List Bool) :=
 cond (decide (a0 < 0))
  (some ((2, [])))
  (cond (decide ((wI (64 * ((((ln a1) : Nat) : Int)))) < a0))
   (some ((4, [])))
   ((loopN (D_ref38_Bits_L1 a0 a1) BIG ((0, []))).bind fun r11 =>
   some ((0, r11))))
def D_ref16_Bools_L0 (a0 a1 : List Bool) (s3 : Int) : Op ((Int) ⊕ ((Bool) ⊕ (Unit))) :=
 cond (decide (s3 < ((((ln a0) : Nat) : Int))))
  ((rd a0 s3).bind fun x4 =>
  (rd a1 s3).bind fun x5 =>
  cond (!(x4 == x5))
   (some (.inr (((.inl false)))))
   (some (.inl (wI (s3 + 1)))))
  (some (.inr (((.inr ())))))
/- backstitch/backstitchref16.Bools -/
def D_ref16_Bools (a0 a1 : List Bool) : Op (Bool) :=
 cond (decide (((((ln a0) : Nat) : Int)) ≠ ((((ln a1) : Nat) : Int))))
  (some false)
  ((loopN (D_ref16_Bools_L0 a0 a1) BIG 0).bind fun r6 =>
  caseS r6 (fun u'7 =>
   some u'7)
   (fun w8 =>
   some true))
/- backstitch/backstitchlaw38.ScriptBits -/
def D_law38_ScriptBits (a0 : Int) (a1 : List Int) : Op (Bool) :=
 cond (decide (100 < ((((ln a1) : Nat) : Int))))
  ((D_law38_goes).bind fun r2 =>
  some r2)
  ((D_script_Bits a0 a1).bind fun r3 =>
  (D_ref38_Bits a0 a1).bind fun r4 =>
  (D_ref16_Bools r3.2 r4.2).bind fun r5 =>
  cond (r5)
   (cond (decide (r3.1 = r4.1))
    ((D_law38_goes).bind fun r6 =>
    some r6)
    (some false))
   (some false))

end Go.V
