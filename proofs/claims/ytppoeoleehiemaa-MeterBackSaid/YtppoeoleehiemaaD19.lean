/- A part of the proofs of this seat: what functions of the program answer on the abstract machine. -/
import Derived.Test.YtppoeoleehiemaaV20
namespace Go.V
set_option linter.unusedVariables false
set_option linter.unusedSimpArgs false
open Go.Ab
set_option linter.unusedVariables false
/- backstitch/meter.At -/
def D_meter_At (a0 : Int) (a1 : Int) (a2 : Int) : Option ((Unit) ⊕ (Int × Int × Int)) :=
  cond (decide (a1 < 0))
    (some ((.inl ())))
    (cond (decide (a2 < a1))
      (some ((.inl ())))
      (cond (decide (a0 < a2))
        (some ((.inl ())))
        (some ((.inr ((a1, a2, a0)))))))
/- backstitch/backstitchref19.At -/
def D_ref19_At (a0 : Int) (a1 : Int) (a2 : Int) : Option (Int × Int × List Int) :=
  cond (decide (a1 < 0))
    (some ((0, 2, [])))
    (cond (decide (a2 < a1))
      (some ((0, 2, [])))
      (cond (decide (a0 < a2))
        (some ((0, 2, [])))
        (some ((a0, 0, [a2, a1])))))
/- backstitch/meter.New -/
def D_meter_New (a0 : Int) : Option ((Unit) ⊕ (Int × Int × Int)) :=
  (D_meter_At a0 0 0).bind fun r1 =>
  caseS r1 (fun u2 =>
    some ((.inl ())))
    (fun w3 =>
    some ((.inr ((w3.1, w3.2.1, w3.2.2)))))
/- (*backstitch/meter.counter).within -/
def D_meter_counter_within (a0 : Int) (a1 : Int) (a2 : Int) (a3 : Int) (a4 : Int) : Option (Bool) :=
  some (decide (a0 ≤ (IntKind.i64.wrap (a1 - a2))))
/- (*backstitch/meter.counter).add -/
def D_meter_counter_add (a0 : Int) (a1 : Int) (a2 : Int) (a3 : Int) : Option (Int × Int × Int) :=
  some ((IntKind.i64.wrap (a1 + a0), max a2 (IntKind.i64.wrap (a1 + a0)), a3))
/- (*backstitch/meter.Meter).Hold -/
def D_meter_Meter_Hold (a0 : Int) (a1 : Int) (a2 : Int) (a3 : Int) : Option (Int × Int × Int × Int) :=
  cond (decide (a0 < 0))
    (some ((2, a1, a2, a3)))
    ((D_meter_counter_within a0 a3 a1 a2 a3).bind fun r4 =>
    cond (!r4)
      (some ((15, a1, a2, a3)))
      ((D_meter_counter_add a0 a1 a2 a3).bind fun r5 =>
      some ((0, r5.1, r5.2.1, r5.2.2))))
/- (*backstitch/meter.Meter).Drop -/
def D_meter_Meter_Drop (a0 : Int) (a1 : Int) (a2 : Int) (a3 : Int) : Option (Int × Int × Int × Int) :=
  cond (decide (a0 < 0))
    (some ((2, a1, a2, a3)))
    (cond (decide (a1 < a0))
      (some ((2, a1, a2, a3)))
      ((D_meter_counter_add (IntKind.i64.wrap (0 - a0)) a1 a2 a3).bind fun r4 =>
      some ((0, r4.1, r4.2.1, r4.2.2))))
/- (*backstitch/meter.Meter).Live -/
def D_meter_Meter_Live (a0 : Int) (a1 : Int) (a2 : Int) : Option (Int) :=
  some a0
/- (*backstitch/meter.Meter).Peak -/
def D_meter_Meter_Peak (a0 : Int) (a1 : Int) (a2 : Int) : Option (Int) :=
  some a1
/- (*backstitch/meter.Meter).Budget -/
def D_meter_Meter_Budget (a0 : Int) (a1 : Int) (a2 : Int) : Option (Int) :=
  some a2
/- backstitch/backstitchlaw19.goes -/
def D_law19_goes  : Option (Bool) :=
  (D_meter_New 10).bind fun r0 =>
  caseS r0 (fun u1 =>
    some false)
    (fun w2 =>
    (D_meter_Meter_Hold 7 w2.1 w2.2.1 w2.2.2).bind fun r3 =>
    cond (decide (r3.1 = 0))
      ((D_meter_Meter_Drop 3 r3.2.1 r3.2.2.1 r3.2.2.2).bind fun r4 =>
      cond (decide (r4.1 = 0))
        ((D_meter_Meter_Hold 5 r4.2.1 r4.2.2.1 r4.2.2.2).bind fun r5 =>
        cond (decide (r5.1 = 0))
          ((D_meter_Meter_Live r5.2.1 r5.2.2.1 r5.2.2.2).bind fun r6 =>
          cond (decide (r6 = 9))
            ((D_meter_Meter_Peak r5.2.1 r5.2.2.1 r5.2.2.2).bind fun r7 =>
            cond (decide (r7 = 9))
              ((D_meter_Meter_Hold 2 r5.2.1 r5.2.2.1 r5.2.2.2).bind fun r8 =>
              cond (decide (r8.1 = 15))
                ((D_meter_Meter_Budget r8.2.1 r8.2.2.1 r8.2.2.2).bind fun r9 =>
                some (decide (r9 = 10)))
                (some false))
              (some false))
            (some false))
          (some false))
        (some false))
      (some false))
/- backstitch/backstitchref19.Live -/
def D_ref19_Live (a0 : Int) (a1 : List Int) : Option (Int) :=
  (rd a1 (IntKind.i64.wrap (((((List.length a1) : Nat) : Int)) - 1))).bind fun x2 =>
  some x2
def D_ref19_then_L0 (a1 : List Int) (s5 : Int × List Int) : Option ((Int × List Int) ⊕ (List Int)) :=
  cond (decide (s5.1 < ((((List.length a1) : Nat) : Int))))
    ((rd a1 s5.1).bind fun x6 =>
    gd (fits (List.length s5.2 + 1) 8) (some (.inl (IntKind.i64.wrap (s5.1 + 1), (s5.2 ++ [x6])))))
    (some (.inr s5.2))
/- backstitch/backstitchref19.then -/
def D_ref19_then (a0 : Int) (a1 : List Int) (a2 : Int) : Option (Int × List Int) :=
  (loopN (D_ref19_then_L0 a1) BIG ((0, []))).bind fun r7 =>
  gd (fits (List.length r7 + 1) 8) (some ((a0, (r7 ++ [a2]))))
/- backstitch/backstitchref19.Hold -/
def D_ref19_Hold (a0 : Int) (a1 : List Int) (a2 : Int) : Option (Int × (List Int) × Int) :=
  cond (decide (a2 < 0))
    (some ((a0, a1, 2)))
    ((D_ref19_Live a0 a1).bind fun r3 =>
    cond (decide ((IntKind.i64.wrap (a0 - r3)) < a2))
      (some ((a0, a1, 15)))
      ((D_ref19_Live a0 a1).bind fun r4 =>
      (D_ref19_then a0 a1 (IntKind.i64.wrap (r4 + a2))).bind fun r5 =>
      some ((r5.1, r5.2, 0))))
/- backstitch/backstitchref19.Drop -/
def D_ref19_Drop (a0 : Int) (a1 : List Int) (a2 : Int) : Option (Int × (List Int) × Int) :=
  cond (decide (a2 < 0))
    (some ((a0, a1, 2)))
    ((D_ref19_Live a0 a1).bind fun r3 =>
    cond (decide (r3 < a2))
      (some ((a0, a1, 2)))
      ((D_ref19_Live a0 a1).bind fun r4 =>
      (D_ref19_then a0 a1 (IntKind.i64.wrap (r4 - a2))).bind fun r5 =>
      some ((r5.1, r5.2, 0))))
def D_ref19_Peak_L0 (a1 : List Int) (s4 : Int × Int) : Option ((Int × Int) ⊕ (Int)) :=
  cond (decide (s4.1 < ((((List.length a1) : Nat) : Int))))
    ((rd a1 s4.1).bind fun x5 =>
    some (.inl (IntKind.i64.wrap (s4.1 + 1), max s4.2 x5)))
    (some (.inr s4.2))
/- backstitch/backstitchref19.Peak -/
def D_ref19_Peak (a0 : Int) (a1 : List Int) : Option (Int) :=
  (loopN (D_ref19_Peak_L0 a1) BIG ((0, 0))).bind fun r6 =>
  some r6
def D_law19_MeterPlays_L0 (a3 : List Int) (s19 : Int × Int × Int × Int × Int × List Int) : Option ((Int × Int × Int × Int × Int × List Int) ⊕ ((Bool × Int × Int × Int × Int × List Int) ⊕ (Int × Int × Int × Int × List Int))) :=
  cond (decide (s19.1 < ((((List.length a3) : Nat) : Int))))
    (cond (decide (s19.1 < 200))
      ((rd a3 s19.1).bind fun x20 =>
      (((cond (decide (0 ≤ x20))
        ((D_ref19_Hold s19.2.2.2.2.1 s19.2.2.2.2.2 x20).bind fun r21 =>
        (D_meter_Meter_Hold x20 s19.2.1 s19.2.2.1 s19.2.2.2.1).bind fun r22 =>
        cond (decide (r22.1 ≠ r21.2.2))
          (some ((.inl ((false, r22.2.1, r22.2.2.1, r22.2.2.2, r21.1, r21.2.1)))))
          (some ((.inr ((r22.2.1, r22.2.2.1, r22.2.2.2, r21.1, r21.2.1))))))
        ((D_ref19_Drop s19.2.2.2.2.1 s19.2.2.2.2.2 (IntKind.i64.wrap (0 - (IntKind.i64.wrap (x20 + 1))))).bind fun r23 =>
        (D_meter_Meter_Drop (IntKind.i64.wrap (0 - (IntKind.i64.wrap (x20 + 1)))) s19.2.1 s19.2.2.1 s19.2.2.2.1).bind fun r24 =>
        cond (decide (r24.1 ≠ r23.2.2))
          (some ((.inl ((false, r24.2.1, r24.2.2.1, r24.2.2.2, r23.1, r23.2.1)))))
          (some ((.inr ((r24.2.1, r24.2.2.1, r24.2.2.2, r23.1, r23.2.1))))))) : Option ((Bool × Int × Int × Int × Int × List Int) ⊕ (Int × Int × Int × Int × List Int)))).bind fun s25 =>
      caseS s25 (fun u26 =>
        some (.inr (((.inl ((u26.1, u26.2.1, u26.2.2.1, u26.2.2.2.1, u26.2.2.2.2.1, u26.2.2.2.2.2)))))))
        (fun w27 =>
        (D_meter_Meter_Live w27.1 w27.2.1 w27.2.2.1).bind fun r28 =>
        (D_ref19_Live w27.2.2.2.1 w27.2.2.2.2).bind fun r29 =>
        cond (decide (r28 ≠ r29))
          (some (.inr (((.inl ((false, w27.1, w27.2.1, w27.2.2.1, w27.2.2.2.1, w27.2.2.2.2)))))))
          ((D_meter_Meter_Peak w27.1 w27.2.1 w27.2.2.1).bind fun r30 =>
          (D_ref19_Peak w27.2.2.2.1 w27.2.2.2.2).bind fun r31 =>
          cond (decide (r30 ≠ r31))
            (some (.inr (((.inl ((false, w27.1, w27.2.1, w27.2.2.1, w27.2.2.2.1, w27.2.2.2.2)))))))
            (some (.inl (IntKind.i64.wrap (s19.1 + 1), w27.1, w27.2.1, w27.2.2.1, w27.2.2.2.1, w27.2.2.2.2))))))
      (some (.inr (((.inr ((s19.2.1, s19.2.2.1, s19.2.2.2.1, s19.2.2.2.2.1, s19.2.2.2.2.2))))))))
    (some (.inr (((.inr ((s19.2.1, s19.2.2.1, s19.2.2.2.1, s19.2.2.2.2.1, s19.2.2.2.2.2)))))))
/- backstitch/backstitchlaw19.MeterPlays -/
def D_law19_MeterPlays (a0 : Int) (a1 : Int) (a2 : Int) (a3 : List Int) : Option (Bool) :=
  (D_meter_At a0 a1 a2).bind fun r4 =>
  caseS r4 (fun u5 =>
    (D_ref19_At a0 a1 a2).bind fun r6 =>
    cond (decide (r6.2.1 ≠ 0))
      (cond (decide (2 = r6.2.1))
        ((D_law19_goes).bind fun r7 =>
        some r7)
        (some false))
      (some false))
    (fun w8 =>
    (D_ref19_At a0 a1 a2).bind fun r9 =>
    cond (decide (r9.2.1 ≠ 0))
      (cond (decide (0 = r9.2.1))
        (some false)
        (some false))
      ((D_meter_Meter_Live w8.1 w8.2.1 w8.2.2).bind fun r10 =>
      cond (decide (r10 ≠ a1))
        (some false)
        ((D_meter_Meter_Peak w8.1 w8.2.1 w8.2.2).bind fun r11 =>
        cond (decide (r11 ≠ a2))
          (some false)
          ((D_meter_Meter_Budget w8.1 w8.2.1 w8.2.2).bind fun r12 =>
          cond (decide (r12 ≠ a0))
            (some false)
            ((loopN (D_law19_MeterPlays_L0 a3) BIG ((0, w8.1, w8.2.1, w8.2.2, r9.1, r9.2.2))).bind fun r32 =>
            caseS r32 (fun u33 =>
              some u33.1)
              (fun w34 =>
              (D_law19_goes).bind fun r35 =>
              some r35))))))
def D_law19_MeterBack_L0 (a0 : Int) (a1 : List Int) (s13 : Int × Int × Int × Int) : Option ((Int × Int × Int × Int) ⊕ ((Bool × Int × Int × Int) ⊕ (Int × Int × Int))) :=
  cond (decide (s13.1 < ((((List.length a1) : Nat) : Int))))
    ((D_meter_Meter_Live s13.2.1 s13.2.2.1 s13.2.2.2).bind fun r14 =>
    (D_meter_Meter_Peak s13.2.1 s13.2.2.1 s13.2.2.2).bind fun r15 =>
    (rd a1 s13.1).bind fun x16 =>
    (D_meter_Meter_Hold x16 s13.2.1 s13.2.2.1 s13.2.2.2).bind fun r17 =>
    cond (decide (r17.1 ≠ 0))
      ((D_meter_Meter_Live r17.2.1 r17.2.2.1 r17.2.2.2).bind fun r18 =>
      cond (decide (r18 ≠ r14))
        (some (.inr (((.inl ((false, r17.2.1, r17.2.2.1, r17.2.2.2)))))))
        ((D_meter_Meter_Peak r17.2.1 r17.2.2.1 r17.2.2.2).bind fun r19 =>
        cond (decide (r19 ≠ r15))
          (some (.inr (((.inl ((false, r17.2.1, r17.2.2.1, r17.2.2.2)))))))
          (some (.inl (IntKind.i64.wrap (s13.1 + 1), r17.2.1, r17.2.2.1, r17.2.2.2)))))
      ((D_meter_Meter_Live r17.2.1 r17.2.2.1 r17.2.2.2).bind fun r20 =>
      cond (decide (a0 < r20))
        (some (.inr (((.inl ((false, r17.2.1, r17.2.2.1, r17.2.2.2)))))))
        ((D_meter_Meter_Peak r17.2.1 r17.2.2.1 r17.2.2.2).bind fun r21 =>
        cond (decide (r21 < r15))
          (some (.inr (((.inl ((false, r17.2.1, r17.2.2.1, r17.2.2.2)))))))
          ((D_meter_Meter_Peak r17.2.1 r17.2.2.1 r17.2.2.2).bind fun r22 =>
          (D_meter_Meter_Live r17.2.1 r17.2.2.1 r17.2.2.2).bind fun r23 =>
          cond (decide (r22 < r23))
            (some (.inr (((.inl ((false, r17.2.1, r17.2.2.1, r17.2.2.2)))))))
            (cond (decide ((Int.tmod s13.1 2) = 0))
              ((rd a1 s13.1).bind fun x24 =>
              (D_meter_Meter_Drop x24 r17.2.1 r17.2.2.1 r17.2.2.2).bind fun r25 =>
              cond (decide (r25.1 ≠ 0))
                (some (.inr (((.inl ((false, r25.2.1, r25.2.2.1, r25.2.2.2)))))))
                ((D_meter_Meter_Live r25.2.1 r25.2.2.1 r25.2.2.2).bind fun r26 =>
                cond (decide (r26 ≠ r14))
                  (some (.inr (((.inl ((false, r25.2.1, r25.2.2.1, r25.2.2.2)))))))
                  (some (.inl (IntKind.i64.wrap (s13.1 + 1), r25.2.1, r25.2.2.1, r25.2.2.2)))))
              (some (.inl (IntKind.i64.wrap (s13.1 + 1), r17.2.1, r17.2.2.1, r17.2.2.2))))))))
    (some (.inr (((.inr ((s13.2.1, s13.2.2.1, s13.2.2.2)))))))
/- backstitch/backstitchlaw19.MeterBack -/
def D_law19_MeterBack (a0 : Int) (a1 : List Int) : Option (Bool) :=
  (D_meter_New a0).bind fun r2 =>
  caseS r2 (fun u3 =>
    (((cond (decide (a0 < 0))
      (some true)
      (some (decide (100 < ((((List.length a1) : Nat) : Int)))))) : Option (Bool))).bind fun s4 =>
    cond (s4)
      ((D_law19_goes).bind fun r5 =>
      some r5)
      (some false))
    (fun w6 =>
    (((cond (decide (a0 < 0))
      (some true)
      (some (decide (100 < ((((List.length a1) : Nat) : Int)))))) : Option (Bool))).bind fun s7 =>
    cond (s7)
      ((D_law19_goes).bind fun r8 =>
      some r8)
      ((loopN (D_law19_MeterBack_L0 a0 a1) BIG ((0, w6.1, w6.2.1, w6.2.2))).bind fun r27 =>
      caseS r27 (fun u28 =>
        some u28.1)
        (fun w29 =>
        (D_law19_goes).bind fun r30 =>
        some r30)))
end Go.V
