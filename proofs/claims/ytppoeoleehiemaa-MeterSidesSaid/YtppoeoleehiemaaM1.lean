/- A part of the proofs of this seat: what functions of the program answer on the abstract machine. -/
import Derived.Test.YtppoeoleehiemaaAb20
import Derived.Test.YtppoeoleehiemaaRows
import Derived.KernelRfl
namespace Go.Ab
open Go.Proofs
set_option linter.unusedSimpArgs false
set_option linter.unusedVariables false
set_option maxRecDepth 4000
variable {T : Specs} {Q : AExit → Env → Hp → Prop} {e : Env} {σ : Hp} {args : List Value} {K : Value → Hp → Prop}
/- backstitch/meter.At -/
def l15_0 : List AOper := [⟨(some 6), .move (.const (.pointer none)), none⟩,
  ⟨(some 7), .move (.const (.int .i64 0)), none⟩]
def c15_0 : AC := .region l15_0
theorem w15_0 : wpA T c15_0 Q e σ = wpOps T (Q .normal) l15_0 e σ := rfl
def l15_1 : List AOper := [⟨(some 8), .move (.tmp 1), none⟩,
  ⟨(some 9), .bin .lss (.tmp 8) (.const (.int .i64 0)), none⟩,
  ⟨(some 10), .move (.tmp 9), none⟩,
  ⟨(some 11), .move (.tmp 1), (some (10, false))⟩,
  ⟨(some 12), .move (.tmp 2), (some (10, false))⟩,
  ⟨(some 13), .bin .gtr (.tmp 11) (.tmp 12), (some (10, false))⟩,
  ⟨(some 14), .pick (.tmp 10) (.const (.bool true)) (.tmp 13), none⟩,
  ⟨(some 15), .move (.tmp 14), none⟩,
  ⟨(some 16), .move (.tmp 2), (some (15, false))⟩,
  ⟨(some 17), .move (.tmp 0), (some (15, false))⟩,
  ⟨(some 18), .bin .gtr (.tmp 16) (.tmp 17), (some (15, false))⟩,
  ⟨(some 19), .pick (.tmp 15) (.const (.bool true)) (.tmp 18), none⟩]
def c15_1 : AC := .region l15_1
theorem w15_1 : wpA T c15_1 Q e σ = wpOps T (Q .normal) l15_1 e σ := rfl
def l15_2 : List AOper := [⟨(some 6), .move (.const (.pointer none)), none⟩,
  ⟨(some 7), .move (.const (.int .i64 2)), none⟩]
def c15_2 : AC := .region l15_2
theorem w15_2 : wpA T c15_2 Q e σ = wpOps T (Q .normal) l15_2 e σ := rfl
def c15_3 : AC := .seq c15_2 .ret
theorem w15_3 : wpA T c15_3 Q e σ = wpA T c15_2 (SeqK T .ret Q) e σ := rfl
def c15_4 : AC := .cond (.tmp 19) c15_3 .skip
theorem w15_4 : wpA T c15_4 Q e σ = CondW T (e.ev (.tmp 19)) c15_3 .skip Q e σ := rfl
def c15_5 : AC := .seq c15_1 c15_4
theorem w15_5 : wpA T c15_5 Q e σ = wpA T c15_1 (SeqK T c15_4 Q) e σ := rfl
def l15_6 : List AOper := [⟨(some 20), .move (.tmp 1), none⟩,
  ⟨(some 21), .move (.tmp 2), none⟩,
  ⟨(some 22), .build [(.int .i64 0), (.int .i64 0)] [(0, 1, (.tmp 20)), (1, 1, (.tmp 21))], none⟩,
  ⟨(some 23), .move (.tmp 0), none⟩,
  ⟨(some 24), .build [(.int .i64 0), (.int .i64 0), (.int .i64 0)] [(0, 2, (.tmp 22)), (2, 1, (.tmp 23))], none⟩,
  ⟨(some 25), .box 1 (.tmp 24), none⟩,
  ⟨(some 6), .move (.tmp 25), none⟩,
  ⟨(some 7), .move (.const (.int .i64 0)), none⟩]
def c15_6 : AC := .region l15_6
theorem w15_6 : wpA T c15_6 Q e σ = wpOps T (Q .normal) l15_6 e σ := rfl
def c15_7 : AC := .seq c15_6 .ret
theorem w15_7 : wpA T c15_7 Q e σ = wpA T c15_6 (SeqK T .ret Q) e σ := rfl
def c15_8 : AC := .seq c15_5 c15_7
theorem w15_8 : wpA T c15_8 Q e σ = wpA T c15_5 (SeqK T c15_7 Q) e σ := rfl
def c15_9 : AC := .seq c15_0 c15_8
theorem w15_9 : wpA T c15_9 Q e σ = wpA T c15_0 (SeqK T c15_8 Q) e σ := rfl
def r15 : List ARes := [.tmp 6, .tmp 7]
def a15 : AFn := ⟨26, r15, c15_9⟩
theorem wF15 : wpF T a15 args σ K = (args.length ≤ 26 ∧ wpA T c15_9 (EndK r15 K) (Env.of args) σ) := rfl
theorem tr15 : trFn Try.prog 15 = some a15 := by kernel_rfl
def T15 : Specs := noSpecs
theorem known15 : Known Try.prog T15 := (Known.none Try.prog)
def s15 : Spec := wpF T15 a15
theorem mono15 : MonoS s15 := MonoS.wpF known15.mono a15
theorem sim15 : Sim Try.prog 15 s15 := known15.fn tr15
/- (*backstitch/meter.Meter).Live -/
def l18_0 : List AOper := [⟨(some 2), .move (.const (.int .i64 0)), none⟩]
def c18_0 : AC := .region l18_0
theorem w18_0 : wpA T c18_0 Q e σ = wpOps T (Q .normal) l18_0 e σ := rfl
def l18_1 : List AOper := [⟨(some 3), .move (.tmp 0), none⟩,
  ⟨(some 4), .eqv 1 false (.tmp 3) (.const (.pointer none)), none⟩]
def c18_1 : AC := .region l18_1
theorem w18_1 : wpA T c18_1 Q e σ = wpOps T (Q .normal) l18_1 e σ := rfl
def l18_2 : List AOper := [⟨(some 2), .move (.const (.int .i64 0)), none⟩]
def c18_2 : AC := .region l18_2
theorem w18_2 : wpA T c18_2 Q e σ = wpOps T (Q .normal) l18_2 e σ := rfl
def c18_3 : AC := .seq c18_2 .ret
theorem w18_3 : wpA T c18_3 Q e σ = wpA T c18_2 (SeqK T .ret Q) e σ := rfl
def c18_4 : AC := .cond (.tmp 4) c18_3 .skip
theorem w18_4 : wpA T c18_4 Q e σ = CondW T (e.ev (.tmp 4)) c18_3 .skip Q e σ := rfl
def c18_5 : AC := .seq c18_1 c18_4
theorem w18_5 : wpA T c18_5 Q e σ = wpA T c18_1 (SeqK T c18_4 Q) e σ := rfl
def l18_6 : List AOper := [⟨(some 5), .move (.tmp 0), none⟩,
  ⟨(some 6), .nilCheck (.tmp 5), none⟩,
  ⟨(some 7), .off 0 (.tmp 6), none⟩,
  ⟨(some 8), .off 0 (.tmp 7), none⟩,
  ⟨(some 9), .load (.tmp 8), none⟩,
  ⟨(some 2), .move (.tmp 9), none⟩]
def c18_6 : AC := .region l18_6
theorem w18_6 : wpA T c18_6 Q e σ = wpOps T (Q .normal) l18_6 e σ := rfl
def c18_7 : AC := .seq c18_6 .ret
theorem w18_7 : wpA T c18_7 Q e σ = wpA T c18_6 (SeqK T .ret Q) e σ := rfl
def c18_8 : AC := .seq c18_5 c18_7
theorem w18_8 : wpA T c18_8 Q e σ = wpA T c18_5 (SeqK T c18_7 Q) e σ := rfl
def c18_9 : AC := .seq c18_0 c18_8
theorem w18_9 : wpA T c18_9 Q e σ = wpA T c18_0 (SeqK T c18_8 Q) e σ := rfl
def r18 : List ARes := [.tmp 2]
def a18 : AFn := ⟨10, r18, c18_9⟩
theorem wF18 : wpF T a18 args σ K = (args.length ≤ 10 ∧ wpA T c18_9 (EndK r18 K) (Env.of args) σ) := rfl
theorem tr18 : trFn Try.prog 18 = some a18 := by kernel_rfl
def T18 : Specs := noSpecs
theorem known18 : Known Try.prog T18 := (Known.none Try.prog)
def s18 : Spec := wpF T18 a18
theorem mono18 : MonoS s18 := MonoS.wpF known18.mono a18
theorem sim18 : Sim Try.prog 18 s18 := known18.fn tr18
/- (*backstitch/meter.Meter).Peak -/
def l19_0 : List AOper := [⟨(some 2), .move (.const (.int .i64 0)), none⟩]
def c19_0 : AC := .region l19_0
theorem w19_0 : wpA T c19_0 Q e σ = wpOps T (Q .normal) l19_0 e σ := rfl
def l19_1 : List AOper := [⟨(some 3), .move (.tmp 0), none⟩,
  ⟨(some 4), .eqv 1 false (.tmp 3) (.const (.pointer none)), none⟩]
def c19_1 : AC := .region l19_1
theorem w19_1 : wpA T c19_1 Q e σ = wpOps T (Q .normal) l19_1 e σ := rfl
def l19_2 : List AOper := [⟨(some 2), .move (.const (.int .i64 0)), none⟩]
def c19_2 : AC := .region l19_2
theorem w19_2 : wpA T c19_2 Q e σ = wpOps T (Q .normal) l19_2 e σ := rfl
def c19_3 : AC := .seq c19_2 .ret
theorem w19_3 : wpA T c19_3 Q e σ = wpA T c19_2 (SeqK T .ret Q) e σ := rfl
def c19_4 : AC := .cond (.tmp 4) c19_3 .skip
theorem w19_4 : wpA T c19_4 Q e σ = CondW T (e.ev (.tmp 4)) c19_3 .skip Q e σ := rfl
def c19_5 : AC := .seq c19_1 c19_4
theorem w19_5 : wpA T c19_5 Q e σ = wpA T c19_1 (SeqK T c19_4 Q) e σ := rfl
def l19_6 : List AOper := [⟨(some 5), .move (.tmp 0), none⟩,
  ⟨(some 6), .nilCheck (.tmp 5), none⟩,
  ⟨(some 7), .off 0 (.tmp 6), none⟩,
  ⟨(some 8), .off 1 (.tmp 7), none⟩,
  ⟨(some 9), .load (.tmp 8), none⟩,
  ⟨(some 2), .move (.tmp 9), none⟩]
def c19_6 : AC := .region l19_6
theorem w19_6 : wpA T c19_6 Q e σ = wpOps T (Q .normal) l19_6 e σ := rfl
def c19_7 : AC := .seq c19_6 .ret
theorem w19_7 : wpA T c19_7 Q e σ = wpA T c19_6 (SeqK T .ret Q) e σ := rfl
def c19_8 : AC := .seq c19_5 c19_7
theorem w19_8 : wpA T c19_8 Q e σ = wpA T c19_5 (SeqK T c19_7 Q) e σ := rfl
def c19_9 : AC := .seq c19_0 c19_8
theorem w19_9 : wpA T c19_9 Q e σ = wpA T c19_0 (SeqK T c19_8 Q) e σ := rfl
def r19 : List ARes := [.tmp 2]
def a19 : AFn := ⟨10, r19, c19_9⟩
theorem wF19 : wpF T a19 args σ K = (args.length ≤ 10 ∧ wpA T c19_9 (EndK r19 K) (Env.of args) σ) := rfl
theorem tr19 : trFn Try.prog 19 = some a19 := by kernel_rfl
def T19 : Specs := noSpecs
theorem known19 : Known Try.prog T19 := (Known.none Try.prog)
def s19 : Spec := wpF T19 a19
theorem mono19 : MonoS s19 := MonoS.wpF known19.mono a19
theorem sim19 : Sim Try.prog 19 s19 := known19.fn tr19
/- (*backstitch/meter.Meter).Budget -/
def l20_0 : List AOper := [⟨(some 2), .move (.const (.int .i64 0)), none⟩]
def c20_0 : AC := .region l20_0
theorem w20_0 : wpA T c20_0 Q e σ = wpOps T (Q .normal) l20_0 e σ := rfl
def l20_1 : List AOper := [⟨(some 3), .move (.tmp 0), none⟩,
  ⟨(some 4), .eqv 1 false (.tmp 3) (.const (.pointer none)), none⟩]
def c20_1 : AC := .region l20_1
theorem w20_1 : wpA T c20_1 Q e σ = wpOps T (Q .normal) l20_1 e σ := rfl
def l20_2 : List AOper := [⟨(some 2), .move (.const (.int .i64 0)), none⟩]
def c20_2 : AC := .region l20_2
theorem w20_2 : wpA T c20_2 Q e σ = wpOps T (Q .normal) l20_2 e σ := rfl
def c20_3 : AC := .seq c20_2 .ret
theorem w20_3 : wpA T c20_3 Q e σ = wpA T c20_2 (SeqK T .ret Q) e σ := rfl
def c20_4 : AC := .cond (.tmp 4) c20_3 .skip
theorem w20_4 : wpA T c20_4 Q e σ = CondW T (e.ev (.tmp 4)) c20_3 .skip Q e σ := rfl
def c20_5 : AC := .seq c20_1 c20_4
theorem w20_5 : wpA T c20_5 Q e σ = wpA T c20_1 (SeqK T c20_4 Q) e σ := rfl
def l20_6 : List AOper := [⟨(some 5), .move (.tmp 0), none⟩,
  ⟨(some 6), .nilCheck (.tmp 5), none⟩,
  ⟨(some 7), .off 2 (.tmp 6), none⟩,
  ⟨(some 8), .load (.tmp 7), none⟩,
  ⟨(some 2), .move (.tmp 8), none⟩]
def c20_6 : AC := .region l20_6
theorem w20_6 : wpA T c20_6 Q e σ = wpOps T (Q .normal) l20_6 e σ := rfl
def c20_7 : AC := .seq c20_6 .ret
theorem w20_7 : wpA T c20_7 Q e σ = wpA T c20_6 (SeqK T .ret Q) e σ := rfl
def c20_8 : AC := .seq c20_5 c20_7
theorem w20_8 : wpA T c20_8 Q e σ = wpA T c20_5 (SeqK T c20_7 Q) e σ := rfl
def c20_9 : AC := .seq c20_0 c20_8
theorem w20_9 : wpA T c20_9 Q e σ = wpA T c20_0 (SeqK T c20_8 Q) e σ := rfl
def r20 : List ARes := [.tmp 2]
def a20 : AFn := ⟨9, r20, c20_9⟩
theorem wF20 : wpF T a20 args σ K = (args.length ≤ 9 ∧ wpA T c20_9 (EndK r20 K) (Env.of args) σ) := rfl
theorem tr20 : trFn Try.prog 20 = some a20 := by kernel_rfl
def T20 : Specs := noSpecs
theorem known20 : Known Try.prog T20 := (Known.none Try.prog)
def s20 : Spec := wpF T20 a20
theorem mono20 : MonoS s20 := MonoS.wpF known20.mono a20
theorem sim20 : Sim Try.prog 20 s20 := known20.fn tr20
/- (*backstitch/meter.counter).within -/
def l59_0 : List AOper := [⟨(some 6), .move (.const (.bool false)), none⟩]
def c59_0 : AC := .region l59_0
theorem w59_0 : wpA T c59_0 Q e σ = wpOps T (Q .normal) l59_0 e σ := rfl
def l59_1 : List AOper := [⟨(some 7), .move (.tmp 1), none⟩,
  ⟨(some 8), .move (.tmp 2), none⟩,
  ⟨(some 9), .move (.tmp 0), none⟩,
  ⟨(some 10), .nilCheck (.tmp 9), none⟩,
  ⟨(some 11), .off 0 (.tmp 10), none⟩,
  ⟨(some 12), .load (.tmp 11), none⟩,
  ⟨(some 13), .bin .sub (.tmp 8) (.tmp 12), none⟩,
  ⟨(some 14), .bin .leq (.tmp 7) (.tmp 13), none⟩,
  ⟨(some 6), .move (.tmp 14), none⟩]
def c59_1 : AC := .region l59_1
theorem w59_1 : wpA T c59_1 Q e σ = wpOps T (Q .normal) l59_1 e σ := rfl
def c59_2 : AC := .seq c59_1 .ret
theorem w59_2 : wpA T c59_2 Q e σ = wpA T c59_1 (SeqK T .ret Q) e σ := rfl
def c59_3 : AC := .seq c59_0 c59_2
theorem w59_3 : wpA T c59_3 Q e σ = wpA T c59_0 (SeqK T c59_2 Q) e σ := rfl
def r59 : List ARes := [.tmp 6]
def a59 : AFn := ⟨15, r59, c59_3⟩
theorem wF59 : wpF T a59 args σ K = (args.length ≤ 15 ∧ wpA T c59_3 (EndK r59 K) (Env.of args) σ) := rfl
theorem tr59 : trFn Try.prog 59 = some a59 := by kernel_rfl
def T59 : Specs := noSpecs
theorem known59 : Known Try.prog T59 := (Known.none Try.prog)
def s59 : Spec := wpF T59 a59
theorem mono59 : MonoS s59 := MonoS.wpF known59.mono a59
theorem sim59 : Sim Try.prog 59 s59 := known59.fn tr59
/- (*backstitch/meter.counter).add -/
def l60_0 : List AOper := [⟨(some 4), .move (.tmp 0), none⟩,
  ⟨(some 5), .nilCheck (.tmp 4), none⟩,
  ⟨(some 6), .off 0 (.tmp 5), none⟩,
  ⟨(some 7), .load (.tmp 6), none⟩,
  ⟨(some 8), .move (.tmp 1), none⟩,
  ⟨(some 9), .bin .add (.tmp 7) (.tmp 8), none⟩,
  ⟨(some 10), .nilCheck (.tmp 4), none⟩,
  ⟨(some 11), .off 0 (.tmp 10), none⟩,
  ⟨none, .store 1 (.tmp 11) (.tmp 9), none⟩]
def c60_0 : AC := .region l60_0
theorem w60_0 : wpA T c60_0 Q e σ = wpOps T (Q .normal) l60_0 e σ := rfl
def l60_1 : List SItem := [⟨0, ⟨(some 12), .move (.tmp 0), none⟩, false, false, []⟩,
  ⟨1, ⟨(some 13), .move (.tmp 0), none⟩, false, false, []⟩,
  ⟨2, ⟨(some 14), .nilCheck (.tmp 13), none⟩, false, false, []⟩,
  ⟨3, ⟨(some 15), .off 1 (.tmp 14), none⟩, false, false, []⟩,
  ⟨4, ⟨(some 16), .load (.tmp 15), none⟩, false, false, []⟩,
  ⟨5, ⟨(some 17), .move (.tmp 0), none⟩, false, false, []⟩,
  ⟨6, ⟨(some 18), .nilCheck (.tmp 17), none⟩, false, false, []⟩,
  ⟨7, ⟨(some 19), .off 0 (.tmp 18), none⟩, false, false, []⟩,
  ⟨8, ⟨(some 20), .load (.tmp 19), none⟩, false, false, []⟩,
  ⟨9, ⟨(some 21), .most (.tmp 16) (.tmp 20), none⟩, false, false, []⟩,
  ⟨10, ⟨(some 22), .nilCheck (.tmp 12), none⟩, false, false, []⟩,
  ⟨11, ⟨(some 23), .off 1 (.tmp 22), none⟩, false, false, []⟩,
  ⟨12, ⟨none, .store 1 (.tmp 23) (.tmp 21), none⟩, true, false, []⟩]
def c60_1 : AC := .sched l60_1
theorem w60_1 : wpA T c60_1 Q e σ = wpI T (Q .normal) l60_1 [] e σ := rfl
def c60_2 : AC := .seq c60_0 c60_1
theorem w60_2 : wpA T c60_2 Q e σ = wpA T c60_0 (SeqK T c60_1 Q) e σ := rfl
def r60 : List ARes := []
def a60 : AFn := ⟨24, r60, c60_2⟩
theorem wF60 : wpF T a60 args σ K = (args.length ≤ 24 ∧ wpA T c60_2 (EndK r60 K) (Env.of args) σ) := rfl
theorem tr60 : trFn Try.prog 60 = some a60 := by kernel_rfl
def T60 : Specs := noSpecs
theorem known60 : Known Try.prog T60 := (Known.none Try.prog)
def s60 : Spec := wpF T60 a60
theorem mono60 : MonoS s60 := MonoS.wpF known60.mono a60
theorem sim60 : Sim Try.prog 60 s60 := known60.fn tr60
/- backstitch/meter.New -/
def l27_0 : List AOper := [⟨(some 2), .move (.const (.pointer none)), none⟩,
  ⟨(some 3), .move (.const (.int .i64 0)), none⟩]
def c27_0 : AC := .region l27_0
theorem w27_0 : wpA T c27_0 Q e σ = wpOps T (Q .normal) l27_0 e σ := rfl
def l27_1 : List AOper := [⟨(some 4), .move (.tmp 0), none⟩,
  ⟨(some 5), .call 15 [(.tmp 4), (.const (.int .i64 0)), (.const (.int .i64 0))], none⟩,
  ⟨(some 6), .extract (.tmp 5) 0, none⟩,
  ⟨(some 7), .extract (.tmp 5) 1, none⟩,
  ⟨(some 2), .move (.tmp 6), none⟩,
  ⟨(some 3), .move (.tmp 7), none⟩]
def c27_1 : AC := .region l27_1
theorem w27_1 : wpA T c27_1 Q e σ = wpOps T (Q .normal) l27_1 e σ := rfl
def c27_2 : AC := .seq c27_1 .ret
theorem w27_2 : wpA T c27_2 Q e σ = wpA T c27_1 (SeqK T .ret Q) e σ := rfl
def c27_3 : AC := .seq c27_0 c27_2
theorem w27_3 : wpA T c27_3 Q e σ = wpA T c27_0 (SeqK T c27_2 Q) e σ := rfl
def r27 : List ARes := [.tmp 2, .tmp 3]
def a27 : AFn := ⟨8, r27, c27_3⟩
theorem wF27 : wpF T a27 args σ K = (args.length ≤ 8 ∧ wpA T c27_3 (EndK r27 K) (Env.of args) σ) := rfl
theorem tr27 : trFn Try.prog 27 = some a27 := by kernel_rfl
def T27 : Specs := (noSpecs.put 15 s15)
theorem known27 : Known Try.prog T27 := ((Known.none Try.prog).put mono15 sim15)
theorem T27_15 : T27 15 = s15 := rfl
def s27 : Spec := wpF T27 a27
theorem mono27 : MonoS s27 := MonoS.wpF known27.mono a27
theorem sim27 : Sim Try.prog 27 s27 := known27.fn tr27
/- (*backstitch/meter.Meter).Hold -/
def l22_0 : List AOper := [⟨(some 4), .move (.const (.int .i64 0)), none⟩]
def c22_0 : AC := .region l22_0
theorem w22_0 : wpA T c22_0 Q e σ = wpOps T (Q .normal) l22_0 e σ := rfl
def l22_1 : List AOper := [⟨(some 6), .move (.tmp 0), none⟩,
  ⟨(some 7), .eqv 1 false (.tmp 6) (.const (.pointer none)), none⟩,
  ⟨(some 5), .move (.tmp 7), none⟩]
def c22_1 : AC := .region l22_1
theorem w22_1 : wpA T c22_1 Q e σ = wpOps T (Q .normal) l22_1 e σ := rfl
def l22_2 : List AOper := [⟨(some 4), .move (.const (.int .i64 1)), none⟩]
def c22_2 : AC := .region l22_2
theorem w22_2 : wpA T c22_2 Q e σ = wpOps T (Q .normal) l22_2 e σ := rfl
def c22_3 : AC := .seq c22_2 .ret
theorem w22_3 : wpA T c22_3 Q e σ = wpA T c22_2 (SeqK T .ret Q) e σ := rfl
def l22_4 : List AOper := [⟨(some 9), .move (.tmp 1), none⟩,
  ⟨(some 10), .bin .lss (.tmp 9) (.const (.int .i64 0)), none⟩,
  ⟨(some 8), .move (.tmp 10), none⟩]
def c22_4 : AC := .region l22_4
theorem w22_4 : wpA T c22_4 Q e σ = wpOps T (Q .normal) l22_4 e σ := rfl
def l22_5 : List AOper := [⟨(some 4), .move (.const (.int .i64 2)), none⟩]
def c22_5 : AC := .region l22_5
theorem w22_5 : wpA T c22_5 Q e σ = wpOps T (Q .normal) l22_5 e σ := rfl
def c22_6 : AC := .seq c22_5 .ret
theorem w22_6 : wpA T c22_6 Q e σ = wpA T c22_5 (SeqK T .ret Q) e σ := rfl
def l22_7 : List SItem := [⟨0, ⟨(some 12), .move (.tmp 0), none⟩, false, false, []⟩,
  ⟨1, ⟨(some 13), .nilCheck (.tmp 12), none⟩, false, false, []⟩,
  ⟨2, ⟨(some 14), .off 0 (.tmp 13), none⟩, false, false, []⟩,
  ⟨3, ⟨(some 15), .move (.tmp 1), none⟩, false, false, []⟩,
  ⟨4, ⟨(some 16), .move (.tmp 0), none⟩, false, false, []⟩,
  ⟨5, ⟨(some 17), .nilCheck (.tmp 16), none⟩, false, false, []⟩,
  ⟨6, ⟨(some 18), .off 2 (.tmp 17), none⟩, false, false, []⟩,
  ⟨7, ⟨(some 19), .load (.tmp 18), none⟩, false, false, []⟩,
  ⟨8, ⟨(some 20), .call 59 [(.tmp 14), (.tmp 15), (.tmp 19)], none⟩, true, false, []⟩,
  ⟨9, ⟨(some 21), .un .not (.tmp 20), none⟩, false, false, []⟩,
  ⟨10, ⟨(some 11), .move (.tmp 21), none⟩, false, false, []⟩]
def c22_7 : AC := .sched l22_7
theorem w22_7 : wpA T c22_7 Q e σ = wpI T (Q .normal) l22_7 [] e σ := rfl
def l22_8 : List AOper := [⟨(some 4), .move (.const (.int .i64 15)), none⟩]
def c22_8 : AC := .region l22_8
theorem w22_8 : wpA T c22_8 Q e σ = wpOps T (Q .normal) l22_8 e σ := rfl
def c22_9 : AC := .seq c22_8 .ret
theorem w22_9 : wpA T c22_9 Q e σ = wpA T c22_8 (SeqK T .ret Q) e σ := rfl
def c22_10 : AC := .cond (.tmp 11) c22_9 .skip
theorem w22_10 : wpA T c22_10 Q e σ = CondW T (e.ev (.tmp 11)) c22_9 .skip Q e σ := rfl
def c22_11 : AC := .seq c22_7 c22_10
theorem w22_11 : wpA T c22_11 Q e σ = wpA T c22_7 (SeqK T c22_10 Q) e σ := rfl
def c22_12 : AC := .cond (.tmp 8) c22_6 c22_11
theorem w22_12 : wpA T c22_12 Q e σ = CondW T (e.ev (.tmp 8)) c22_6 c22_11 Q e σ := rfl
def c22_13 : AC := .seq c22_4 c22_12
theorem w22_13 : wpA T c22_13 Q e σ = wpA T c22_4 (SeqK T c22_12 Q) e σ := rfl
def c22_14 : AC := .cond (.tmp 5) c22_3 c22_13
theorem w22_14 : wpA T c22_14 Q e σ = CondW T (e.ev (.tmp 5)) c22_3 c22_13 Q e σ := rfl
def c22_15 : AC := .seq c22_1 c22_14
theorem w22_15 : wpA T c22_15 Q e σ = wpA T c22_1 (SeqK T c22_14 Q) e σ := rfl
def c22_16 : AC := .block 0 c22_15
theorem w22_16 : wpA T c22_16 Q e σ = wpA T c22_15 (BlkK 0 Q) e σ := rfl
def l22_17 : List AOper := [⟨(some 22), .move (.tmp 0), none⟩,
  ⟨(some 23), .nilCheck (.tmp 22), none⟩,
  ⟨(some 24), .off 0 (.tmp 23), none⟩,
  ⟨(some 25), .move (.tmp 1), none⟩,
  ⟨(some 26), .call 60 [(.tmp 24), (.tmp 25)], none⟩]
def c22_17 : AC := .region l22_17
theorem w22_17 : wpA T c22_17 Q e σ = wpOps T (Q .normal) l22_17 e σ := rfl
def l22_18 : List AOper := [⟨(some 4), .move (.const (.int .i64 0)), none⟩]
def c22_18 : AC := .region l22_18
theorem w22_18 : wpA T c22_18 Q e σ = wpOps T (Q .normal) l22_18 e σ := rfl
def c22_19 : AC := .seq c22_18 .ret
theorem w22_19 : wpA T c22_19 Q e σ = wpA T c22_18 (SeqK T .ret Q) e σ := rfl
def c22_20 : AC := .seq c22_17 c22_19
theorem w22_20 : wpA T c22_20 Q e σ = wpA T c22_17 (SeqK T c22_19 Q) e σ := rfl
def c22_21 : AC := .seq c22_16 c22_20
theorem w22_21 : wpA T c22_21 Q e σ = wpA T c22_16 (SeqK T c22_20 Q) e σ := rfl
def c22_22 : AC := .seq c22_0 c22_21
theorem w22_22 : wpA T c22_22 Q e σ = wpA T c22_0 (SeqK T c22_21 Q) e σ := rfl
def r22 : List ARes := [.tmp 4]
def a22 : AFn := ⟨27, r22, c22_22⟩
theorem wF22 : wpF T a22 args σ K = (args.length ≤ 27 ∧ wpA T c22_22 (EndK r22 K) (Env.of args) σ) := rfl
theorem tr22 : trFn Try.prog 22 = some a22 := by kernel_rfl
def T22 : Specs := ((noSpecs.put 59 s59).put 60 s60)
theorem known22 : Known Try.prog T22 := (((Known.none Try.prog).put mono59 sim59).put mono60 sim60)
theorem T22_59 : T22 59 = s59 := rfl
theorem T22_60 : T22 60 = s60 := rfl
def s22 : Spec := wpF T22 a22
theorem mono22 : MonoS s22 := MonoS.wpF known22.mono a22
theorem sim22 : Sim Try.prog 22 s22 := known22.fn tr22
/- (*backstitch/meter.Meter).Drop -/
def l24_0 : List AOper := [⟨(some 4), .move (.const (.int .i64 0)), none⟩]
def c24_0 : AC := .region l24_0
theorem w24_0 : wpA T c24_0 Q e σ = wpOps T (Q .normal) l24_0 e σ := rfl
def l24_1 : List AOper := [⟨(some 6), .move (.tmp 0), none⟩,
  ⟨(some 7), .eqv 1 false (.tmp 6) (.const (.pointer none)), none⟩,
  ⟨(some 5), .move (.tmp 7), none⟩]
def c24_1 : AC := .region l24_1
theorem w24_1 : wpA T c24_1 Q e σ = wpOps T (Q .normal) l24_1 e σ := rfl
def l24_2 : List AOper := [⟨(some 4), .move (.const (.int .i64 1)), none⟩]
def c24_2 : AC := .region l24_2
theorem w24_2 : wpA T c24_2 Q e σ = wpOps T (Q .normal) l24_2 e σ := rfl
def c24_3 : AC := .seq c24_2 .ret
theorem w24_3 : wpA T c24_3 Q e σ = wpA T c24_2 (SeqK T .ret Q) e σ := rfl
def l24_4 : List AOper := [⟨(some 9), .move (.tmp 1), none⟩,
  ⟨(some 10), .bin .lss (.tmp 9) (.const (.int .i64 0)), none⟩,
  ⟨(some 11), .move (.tmp 10), none⟩,
  ⟨(some 12), .move (.tmp 1), (some (11, false))⟩,
  ⟨(some 13), .move (.tmp 0), (some (11, false))⟩,
  ⟨(some 14), .nilCheck (.tmp 13), (some (11, false))⟩,
  ⟨(some 15), .off 0 (.tmp 14), (some (11, false))⟩,
  ⟨(some 16), .off 0 (.tmp 15), (some (11, false))⟩,
  ⟨(some 17), .load (.tmp 16), (some (11, false))⟩,
  ⟨(some 18), .bin .gtr (.tmp 12) (.tmp 17), (some (11, false))⟩,
  ⟨(some 19), .pick (.tmp 11) (.const (.bool true)) (.tmp 18), none⟩,
  ⟨(some 8), .move (.tmp 19), none⟩]
def c24_4 : AC := .region l24_4
theorem w24_4 : wpA T c24_4 Q e σ = wpOps T (Q .normal) l24_4 e σ := rfl
def l24_5 : List AOper := [⟨(some 4), .move (.const (.int .i64 2)), none⟩]
def c24_5 : AC := .region l24_5
theorem w24_5 : wpA T c24_5 Q e σ = wpOps T (Q .normal) l24_5 e σ := rfl
def c24_6 : AC := .seq c24_5 .ret
theorem w24_6 : wpA T c24_6 Q e σ = wpA T c24_5 (SeqK T .ret Q) e σ := rfl
def c24_7 : AC := .cond (.tmp 8) c24_6 .skip
theorem w24_7 : wpA T c24_7 Q e σ = CondW T (e.ev (.tmp 8)) c24_6 .skip Q e σ := rfl
def c24_8 : AC := .seq c24_4 c24_7
theorem w24_8 : wpA T c24_8 Q e σ = wpA T c24_4 (SeqK T c24_7 Q) e σ := rfl
def c24_9 : AC := .cond (.tmp 5) c24_3 c24_8
theorem w24_9 : wpA T c24_9 Q e σ = CondW T (e.ev (.tmp 5)) c24_3 c24_8 Q e σ := rfl
def c24_10 : AC := .seq c24_1 c24_9
theorem w24_10 : wpA T c24_10 Q e σ = wpA T c24_1 (SeqK T c24_9 Q) e σ := rfl
def c24_11 : AC := .block 0 c24_10
theorem w24_11 : wpA T c24_11 Q e σ = wpA T c24_10 (BlkK 0 Q) e σ := rfl
def l24_12 : List AOper := [⟨(some 20), .move (.tmp 0), none⟩,
  ⟨(some 21), .nilCheck (.tmp 20), none⟩,
  ⟨(some 22), .off 0 (.tmp 21), none⟩,
  ⟨(some 23), .move (.tmp 1), none⟩,
  ⟨(some 24), .un .neg (.tmp 23), none⟩,
  ⟨(some 25), .call 60 [(.tmp 22), (.tmp 24)], none⟩]
def c24_12 : AC := .region l24_12
theorem w24_12 : wpA T c24_12 Q e σ = wpOps T (Q .normal) l24_12 e σ := rfl
def l24_13 : List AOper := [⟨(some 4), .move (.const (.int .i64 0)), none⟩]
def c24_13 : AC := .region l24_13
theorem w24_13 : wpA T c24_13 Q e σ = wpOps T (Q .normal) l24_13 e σ := rfl
def c24_14 : AC := .seq c24_13 .ret
theorem w24_14 : wpA T c24_14 Q e σ = wpA T c24_13 (SeqK T .ret Q) e σ := rfl
def c24_15 : AC := .seq c24_12 c24_14
theorem w24_15 : wpA T c24_15 Q e σ = wpA T c24_12 (SeqK T c24_14 Q) e σ := rfl
def c24_16 : AC := .seq c24_11 c24_15
theorem w24_16 : wpA T c24_16 Q e σ = wpA T c24_11 (SeqK T c24_15 Q) e σ := rfl
def c24_17 : AC := .seq c24_0 c24_16
theorem w24_17 : wpA T c24_17 Q e σ = wpA T c24_0 (SeqK T c24_16 Q) e σ := rfl
def r24 : List ARes := [.tmp 4]
def a24 : AFn := ⟨26, r24, c24_17⟩
theorem wF24 : wpF T a24 args σ K = (args.length ≤ 26 ∧ wpA T c24_17 (EndK r24 K) (Env.of args) σ) := rfl
theorem tr24 : trFn Try.prog 24 = some a24 := by kernel_rfl
def T24 : Specs := (noSpecs.put 60 s60)
theorem known24 : Known Try.prog T24 := ((Known.none Try.prog).put mono60 sim60)
theorem T24_60 : T24 60 = s60 := rfl
def s24 : Spec := wpF T24 a24
theorem mono24 : MonoS s24 := MonoS.wpF known24.mono a24
theorem sim24 : Sim Try.prog 24 s24 := known24.fn tr24
/- backstitch/backstitchref19.Live -/
def l25_0 : List AOper := [⟨(some 1), .box 1 (.tmp 0), none⟩,
  ⟨(some 2), .move (.const (.int .i64 0)), none⟩]
def c25_0 : AC := .region l25_0
theorem w25_0 : wpA T c25_0 Q e σ = wpOps T (Q .normal) l25_0 e σ := rfl
def l25_1 : List AOper := [⟨(some 3), .off 1 (.tmp 1), none⟩,
  ⟨(some 4), .load (.tmp 3), none⟩,
  ⟨(some 5), .off 1 (.tmp 1), none⟩,
  ⟨(some 6), .load (.tmp 5), none⟩,
  ⟨(some 7), .len (.tmp 6), none⟩,
  ⟨(some 8), .bin .sub (.tmp 7) (.const (.int .i64 1)), none⟩,
  ⟨(some 9), .idx 1 (.tmp 4) (.tmp 8), none⟩,
  ⟨(some 10), .load (.tmp 9), none⟩,
  ⟨(some 2), .move (.tmp 10), none⟩]
def c25_1 : AC := .region l25_1
theorem w25_1 : wpA T c25_1 Q e σ = wpOps T (Q .normal) l25_1 e σ := rfl
def c25_2 : AC := .seq c25_1 .ret
theorem w25_2 : wpA T c25_2 Q e σ = wpA T c25_1 (SeqK T .ret Q) e σ := rfl
def c25_3 : AC := .seq c25_0 c25_2
theorem w25_3 : wpA T c25_3 Q e σ = wpA T c25_0 (SeqK T c25_2 Q) e σ := rfl
def r25 : List ARes := [.tmp 2]
def a25 : AFn := ⟨11, r25, c25_3⟩
theorem wF25 : wpF T a25 args σ K = (args.length ≤ 11 ∧ wpA T c25_3 (EndK r25 K) (Env.of args) σ) := rfl
theorem tr25 : trFn Try.prog 25 = some a25 := by kernel_rfl
def T25 : Specs := noSpecs
theorem known25 : Known Try.prog T25 := (Known.none Try.prog)
def s25 : Spec := wpF T25 a25
theorem mono25 : MonoS s25 := MonoS.wpF known25.mono a25
theorem sim25 : Sim Try.prog 25 s25 := known25.fn tr25
/- backstitch/backstitchref19.At -/
def l16_0 : List AOper := [⟨(some 6), .alloc 1 [(.int .i64 0), (.slice none 0 0)], none⟩,
  ⟨(some 7), .move (.const (.int .i64 0)), none⟩]
def c16_0 : AC := .region l16_0
theorem w16_0 : wpA T c16_0 Q e σ = wpOps T (Q .normal) l16_0 e σ := rfl
def l16_1 : List AOper := [⟨(some 8), .move (.tmp 1), none⟩,
  ⟨(some 9), .bin .lss (.tmp 8) (.const (.int .i64 0)), none⟩,
  ⟨(some 10), .move (.tmp 9), none⟩,
  ⟨(some 11), .move (.tmp 1), (some (10, false))⟩,
  ⟨(some 12), .move (.tmp 2), (some (10, false))⟩,
  ⟨(some 13), .bin .gtr (.tmp 11) (.tmp 12), (some (10, false))⟩,
  ⟨(some 14), .pick (.tmp 10) (.const (.bool true)) (.tmp 13), none⟩,
  ⟨(some 15), .move (.tmp 14), none⟩,
  ⟨(some 16), .move (.tmp 2), (some (15, false))⟩,
  ⟨(some 17), .move (.tmp 0), (some (15, false))⟩,
  ⟨(some 18), .bin .gtr (.tmp 16) (.tmp 17), (some (15, false))⟩,
  ⟨(some 19), .pick (.tmp 15) (.const (.bool true)) (.tmp 18), none⟩]
def c16_1 : AC := .region l16_1
theorem w16_1 : wpA T c16_1 Q e σ = wpOps T (Q .normal) l16_1 e σ := rfl
def l16_2 : List AOper := [⟨(some 20), .build [(.int .i64 0), (.slice none 0 0)] [], none⟩,
  ⟨none, .store 2 (.tmp 6) (.tmp 20), none⟩,
  ⟨(some 7), .move (.const (.int .i64 2)), none⟩]
def c16_2 : AC := .region l16_2
theorem w16_2 : wpA T c16_2 Q e σ = wpOps T (Q .normal) l16_2 e σ := rfl
def c16_3 : AC := .seq c16_2 .ret
theorem w16_3 : wpA T c16_3 Q e σ = wpA T c16_2 (SeqK T .ret Q) e σ := rfl
def c16_4 : AC := .cond (.tmp 19) c16_3 .skip
theorem w16_4 : wpA T c16_4 Q e σ = CondW T (e.ev (.tmp 19)) c16_3 .skip Q e σ := rfl
def c16_5 : AC := .seq c16_1 c16_4
theorem w16_5 : wpA T c16_5 Q e σ = wpA T c16_1 (SeqK T c16_4 Q) e σ := rfl
def l16_6 : List AOper := [⟨(some 21), .move (.tmp 0), none⟩,
  ⟨(some 22), .move (.tmp 2), none⟩,
  ⟨(some 23), .move (.tmp 1), none⟩,
  ⟨(some 24), .buildSlice 1 2 [(.int .i64 0)] [(0, 1, (.tmp 22)), (1, 1, (.tmp 23))], none⟩,
  ⟨(some 25), .build [(.int .i64 0), (.slice none 0 0)] [(0, 1, (.tmp 21)), (1, 1, (.tmp 24))], none⟩,
  ⟨none, .store 2 (.tmp 6) (.tmp 25), none⟩,
  ⟨(some 7), .move (.const (.int .i64 0)), none⟩]
def c16_6 : AC := .region l16_6
theorem w16_6 : wpA T c16_6 Q e σ = wpOps T (Q .normal) l16_6 e σ := rfl
def c16_7 : AC := .seq c16_6 .ret
theorem w16_7 : wpA T c16_7 Q e σ = wpA T c16_6 (SeqK T .ret Q) e σ := rfl
def c16_8 : AC := .seq c16_5 c16_7
theorem w16_8 : wpA T c16_8 Q e σ = wpA T c16_5 (SeqK T c16_7 Q) e σ := rfl
def c16_9 : AC := .seq c16_0 c16_8
theorem w16_9 : wpA T c16_9 Q e σ = wpA T c16_0 (SeqK T c16_8 Q) e σ := rfl
def r16 : List ARes := [.cellN 6 2, .tmp 7]
def a16 : AFn := ⟨26, r16, c16_9⟩
theorem wF16 : wpF T a16 args σ K = (args.length ≤ 26 ∧ wpA T c16_9 (EndK r16 K) (Env.of args) σ) := rfl
theorem tr16 : trFn Try.prog 16 = some a16 := by kernel_rfl
def T16 : Specs := noSpecs
theorem known16 : Known Try.prog T16 := (Known.none Try.prog)
def s16 : Spec := wpF T16 a16
theorem mono16 : MonoS s16 := MonoS.wpF known16.mono a16
theorem sim16 : Sim Try.prog 16 s16 := known16.fn tr16
/- backstitch/backstitchref19.Peak -/
def l26_0 : List AOper := [⟨(some 1), .box 1 (.tmp 0), none⟩,
  ⟨(some 2), .move (.const (.int .i64 0)), none⟩]
def c26_0 : AC := .region l26_0
theorem w26_0 : wpA T c26_0 Q e σ = wpOps T (Q .normal) l26_0 e σ := rfl
def l26_1 : List AOper := [⟨(some 3), .move (.const (.int .i64 0)), none⟩]
def c26_1 : AC := .region l26_1
theorem w26_1 : wpA T c26_1 Q e σ = wpOps T (Q .normal) l26_1 e σ := rfl
def l26_2 : List AOper := [⟨(some 4), .move (.const (.int .i64 0)), none⟩]
def c26_2 : AC := .region l26_2
theorem w26_2 : wpA T c26_2 Q e σ = wpOps T (Q .normal) l26_2 e σ := rfl
def l26_3 : List AOper := [⟨(some 5), .move (.tmp 4), none⟩,
  ⟨(some 6), .off 1 (.tmp 1), none⟩,
  ⟨(some 7), .load (.tmp 6), none⟩,
  ⟨(some 8), .len (.tmp 7), none⟩,
  ⟨(some 9), .bin .lss (.tmp 5) (.tmp 8), none⟩]
def c26_3 : AC := .region l26_3
theorem w26_3 : wpA T c26_3 Q e σ = wpOps T (Q .normal) l26_3 e σ := rfl
def c26_4 : AC := .cond (.tmp 9) .skip (.exit 0)
theorem w26_4 : wpA T c26_4 Q e σ = CondW T (e.ev (.tmp 9)) .skip (.exit 0) Q e σ := rfl
def c26_5 : AC := .seq c26_3 c26_4
theorem w26_5 : wpA T c26_5 Q e σ = wpA T c26_3 (SeqK T c26_4 Q) e σ := rfl
def l26_6 : List AOper := [⟨(some 12), .move (.tmp 3), none⟩,
  ⟨(some 13), .off 1 (.tmp 1), none⟩,
  ⟨(some 14), .load (.tmp 13), none⟩,
  ⟨(some 15), .move (.tmp 4), none⟩,
  ⟨(some 16), .idx 1 (.tmp 14) (.tmp 15), none⟩,
  ⟨(some 17), .load (.tmp 16), none⟩,
  ⟨(some 18), .most (.tmp 12) (.tmp 17), none⟩,
  ⟨(some 3), .move (.tmp 18), none⟩]
def c26_6 : AC := .region l26_6
theorem w26_6 : wpA T c26_6 Q e σ = wpOps T (Q .normal) l26_6 e σ := rfl
def c26_7 : AC := .block 1 c26_6
theorem w26_7 : wpA T c26_7 Q e σ = wpA T c26_6 (BlkK 1 Q) e σ := rfl
def l26_8 : List AOper := [⟨(some 10), .move (.tmp 4), none⟩,
  ⟨(some 11), .bin .add (.tmp 10) (.const (.int .i64 1)), none⟩,
  ⟨(some 4), .move (.tmp 11), none⟩]
def c26_8 : AC := .region l26_8
theorem w26_8 : wpA T c26_8 Q e σ = wpOps T (Q .normal) l26_8 e σ := rfl
def c26_9 : AC := .seq c26_7 c26_8
theorem w26_9 : wpA T c26_9 Q e σ = wpA T c26_7 (SeqK T c26_8 Q) e σ := rfl
def c26_10 : AC := .seq c26_5 c26_9
theorem w26_10 : wpA T c26_10 Q e σ = wpA T c26_5 (SeqK T c26_9 Q) e σ := rfl
def c26_11 : AC := .loop c26_10
theorem w26_11 : wpA T c26_11 Q e σ = wpA T (.loop c26_10) Q e σ := rfl
def c26_12 : AC := .block 0 c26_11
theorem w26_12 : wpA T c26_12 Q e σ = wpA T c26_11 (BlkK 0 Q) e σ := rfl
def c26_13 : AC := .seq c26_2 c26_12
theorem w26_13 : wpA T c26_13 Q e σ = wpA T c26_2 (SeqK T c26_12 Q) e σ := rfl
def l26_14 : List AOper := [⟨(some 19), .move (.tmp 3), none⟩,
  ⟨(some 2), .move (.tmp 19), none⟩]
def c26_14 : AC := .region l26_14
theorem w26_14 : wpA T c26_14 Q e σ = wpOps T (Q .normal) l26_14 e σ := rfl
def c26_15 : AC := .seq c26_14 .ret
theorem w26_15 : wpA T c26_15 Q e σ = wpA T c26_14 (SeqK T .ret Q) e σ := rfl
def c26_16 : AC := .seq c26_13 c26_15
theorem w26_16 : wpA T c26_16 Q e σ = wpA T c26_13 (SeqK T c26_15 Q) e σ := rfl
def c26_17 : AC := .seq c26_1 c26_16
theorem w26_17 : wpA T c26_17 Q e σ = wpA T c26_1 (SeqK T c26_16 Q) e σ := rfl
def c26_18 : AC := .seq c26_0 c26_17
theorem w26_18 : wpA T c26_18 Q e σ = wpA T c26_0 (SeqK T c26_17 Q) e σ := rfl
def r26 : List ARes := [.tmp 2]
def a26 : AFn := ⟨20, r26, c26_18⟩
theorem wF26 : wpF T a26 args σ K = (args.length ≤ 20 ∧ wpA T c26_18 (EndK r26 K) (Env.of args) σ) := rfl
theorem tr26 : trFn Try.prog 26 = some a26 := by kernel_rfl
def T26 : Specs := noSpecs
theorem known26 : Known Try.prog T26 := (Known.none Try.prog)
def S26 : Rel := fun args σ r σ' => ∃ b n c budget l x, args = [.agg #[.int .i64 budget, .slice (some ⟨b, 0, none⟩) n c]] ∧ σ.m b = some x ∧ x.cells = ints l ∧ l.length = n ∧ n < 4611686018427387904 ∧ r = .int .i64 (l.foldl max 0) ∧ σ' = σ
theorem run26 (args : List Value) (σ : Hp) (r : Value) (σ' : Hp) (hσ : σ.Ok) (h : S26 args σ r σ') : wpF T26 a26 args σ (Fin σ fun r1 σ1 => r1 = r ∧ σ1 = σ') := by
  obtain ⟨b, n, c, budget, l, x, rfl, hb, hx, hl, hn, rfl, rfl⟩ := h
  have hbn : b < σ'.n := hσ b x hb
  simp (config := { maxSteps := 5000000 }) -implicitDefEqProofs (disch := first | omega | (simp -implicitDefEqProofs only [add_n, set_n] <;> omega) | fail) only [w26_0, w26_1, w26_2, w26_3, w26_4, w26_5, w26_6, w26_7, w26_8, w26_9, w26_10, w26_11, w26_12, w26_13, w26_14, w26_15, w26_16, w26_17, w26_18, l26_0, l26_1, l26_2, l26_3, l26_6, l26_8, l26_14, wF26, r26, wO_nil, wO_cons, wO_guard, GuardO_tt, GuardO_ff, GuardO_tf, GuardO_ft, OpsK_eq, wI_nil, wI_move, wI_guard, GuardI_tt, GuardI_ff, GuardI_tf, GuardI_ft, ItemK_eq, SeqK_n, SeqK_r, SeqK_x, BlkK_n, BlkK_r, BlkK_x, EndK_n, EndK_r, RetK_some, CondW_t, CondW_f, LoopK_n, LoopK_x, LoopK_r, wA_skip, wA_ret, wA_exit, ev_tmp, ev_const, ev_func, putO_some, putO_none, put_eq, valK_some, bothK_some, r_move, pickV_t, pickV_f, pickV_b, r_pick, r_alloc, r_box, r_build, evParts, r_buildSlice, r_load, r_loadN, r_store, r_bin, r_eqv, r_un, r_conv, r_extract, extractV, r_call, r_len, lenS, r_lenC, r_most, r_least, r_off', r_nilCheck', r_idx', r_idxA', r_fieldV, r_indexV, wS_move, wS_pick, wS_build, wS_load, wS_loadN, wS_nilCheck, wS_bin, wS_eqv, wS_eqCells, wS_un, wS_conv, wS_mkFunc, wS_slice, wS_sliceStr, wS_sliceArr, wS_off, wS_idx, wS_idxA, wS_fieldV, wS_indexV, wS_indexS, wS_extract, wS_len, wS_lenS, wS_lenC, wS_most, wS_least, StillK_t, StillK_f, recheck, allL, run_load, run_loadN, most_int, least_int, ival_int, r_append, r_copy, r_make, b_add, b_sub, b_mul, b_eql, b_neq, b_lss, b_leq, b_gtr, b_geq, u_neg, u_not, q_nn, q_pn, q_np, q_b, q_sn, q_ss, om_s, b_tf, b_ff, b_tt, b_ft, b_xf, b_xt, n_dec, of_0, of_1, of_2, of_3, tup0, tup1, tup2, tup3, tup4, add_n, set_n, set_set, set_top, set_add', ma_at, ma_old, ms_at, ms_ne, load_pt, loadN_pt, store_pt, cellAt_s, cellsAt_s, putAt_s, writeN_w, offV_pt, someV_pt, idxK_at, idxAK_at, fieldV_t, fieldV_f, indexK_at, readN, fillL, newSlice, optK, setL_nil, setL_cons, c_int, c_bool, c_str, c_ptr, c_slice, c_agg, one_int, one_bool, one_str, one_ptr, one_slice, two_s, res_nil, res_cons, res_tmp, res_cell, res_cellN, resC_pt, resN_pt, if_true, if_false, ite_true, ite_false, reduceIte, Nat.reduceEqDiff, Nat.reduceAdd, Nat.reduceMul, Nat.add_zero, Nat.zero_add, Nat.succ_ne_self, and_true, true_and, and_false, false_and, decide_true, decide_false, List.map_cons, List.map_nil, List.length_cons, List.length_nil, List.all_cons, List.all_nil, List.take, List.drop, List.cons_append, List.nil_append, List.append_nil, Bool.and_true, Bool.true_and, Bool.not_true, Bool.not_false, List.getElem?_cons_zero, List.getElem?_cons_succ, List.set_cons_zero, List.set_cons_succ, List.toList_toArray, Option.bind_some, Option.map_some, Bool.false_eq_true, Bool.true_eq_false, Nat.le_refl, Nat.reduceLeDiff, times_0, times_1, times_2, times_3, times_4, times_5, times_6, List.size_toArray, List.getElem?_toArray, List.contains_cons, List.contains_nil, Nat.reduceBEq, beq_self_eq_true, Bool.or_false, Bool.true_or, Bool.false_or, Bool.or_true, Int.reduceLT, Int.reduceLE, Int.reduceEq, Int.reduceAdd, Int.reduceSub, Int.reduceNeg, Int.reduceToNat, Int.max_eq_left, Int.max_eq_right, Int.min_eq_left, Int.min_eq_right, dec_t, dec_f, Int.sub_zero, Int.add_zero, Int.zero_add, Int.lt_irrefl, Int.le_refl, IntWalk.i64_in, eq_self, ne_eq, not_true_eq_false, not_false_eq_true, reduceCtorEq]
  refine loopI known26.mono (fun e s => s = σ'.add ⟨[.int .i64 budget, .slice (some ⟨b, 0, none⟩) n c], true, 1⟩ ∧ ∃ i : Nat, i ≤ n ∧ e 4 = .int .i64 i ∧ e 3 = .int .i64 ((l.take i).foldl max 0) ∧ e 1 = .pointer (some ⟨σ'.n, 0, none⟩)) (fun e _ => n - (ival (e 4)).toNat) ?_ ?_
  · exact ⟨rfl, 0, Nat.zero_le _, rfl, rfl, rfl⟩
  · rintro e _ ⟨rfl, i, hi, h4, h3, h1⟩
    simp (config := { maxSteps := 5000000 }) -implicitDefEqProofs (disch := first | omega | (simp -implicitDefEqProofs only [add_n, set_n] <;> omega) | fail) only [w26_0, w26_1, w26_2, w26_3, w26_4, w26_5, w26_6, w26_7, w26_8, w26_9, w26_10, w26_11, w26_12, w26_13, w26_14, w26_15, w26_16, w26_17, w26_18, l26_0, l26_1, l26_2, l26_3, l26_6, l26_8, l26_14, wF26, r26, wO_nil, wO_cons, wO_guard, GuardO_tt, GuardO_ff, GuardO_tf, GuardO_ft, OpsK_eq, wI_nil, wI_move, wI_guard, GuardI_tt, GuardI_ff, GuardI_tf, GuardI_ft, ItemK_eq, SeqK_n, SeqK_r, SeqK_x, BlkK_n, BlkK_r, BlkK_x, EndK_n, EndK_r, RetK_some, CondW_t, CondW_f, LoopK_n, LoopK_x, LoopK_r, wA_skip, wA_ret, wA_exit, ev_tmp, ev_const, ev_func, putO_some, putO_none, put_eq, valK_some, bothK_some, r_move, pickV_t, pickV_f, pickV_b, r_pick, r_alloc, r_box, r_build, evParts, r_buildSlice, r_load, r_loadN, r_store, r_bin, r_eqv, r_un, r_conv, r_extract, extractV, r_call, r_len, lenS, r_lenC, r_most, r_least, r_off', r_nilCheck', r_idx', r_idxA', r_fieldV, r_indexV, wS_move, wS_pick, wS_build, wS_load, wS_loadN, wS_nilCheck, wS_bin, wS_eqv, wS_eqCells, wS_un, wS_conv, wS_mkFunc, wS_slice, wS_sliceStr, wS_sliceArr, wS_off, wS_idx, wS_idxA, wS_fieldV, wS_indexV, wS_indexS, wS_extract, wS_len, wS_lenS, wS_lenC, wS_most, wS_least, StillK_t, StillK_f, recheck, allL, run_load, run_loadN, most_int, least_int, ival_int, r_append, r_copy, r_make, b_add, b_sub, b_mul, b_eql, b_neq, b_lss, b_leq, b_gtr, b_geq, u_neg, u_not, q_nn, q_pn, q_np, q_b, q_sn, q_ss, om_s, b_tf, b_ff, b_tt, b_ft, b_xf, b_xt, n_dec, of_0, of_1, of_2, of_3, tup0, tup1, tup2, tup3, tup4, add_n, set_n, set_set, set_top, set_add', ma_at, ma_old, ms_at, ms_ne, load_pt, loadN_pt, store_pt, cellAt_s, cellsAt_s, putAt_s, writeN_w, offV_pt, someV_pt, idxK_at, idxAK_at, fieldV_t, fieldV_f, indexK_at, readN, fillL, newSlice, optK, setL_nil, setL_cons, c_int, c_bool, c_str, c_ptr, c_slice, c_agg, one_int, one_bool, one_str, one_ptr, one_slice, two_s, res_nil, res_cons, res_tmp, res_cell, res_cellN, resC_pt, resN_pt, if_true, if_false, ite_true, ite_false, reduceIte, Nat.reduceEqDiff, Nat.reduceAdd, Nat.reduceMul, Nat.add_zero, Nat.zero_add, Nat.succ_ne_self, and_true, true_and, and_false, false_and, decide_true, decide_false, List.map_cons, List.map_nil, List.length_cons, List.length_nil, List.all_cons, List.all_nil, List.take, List.drop, List.cons_append, List.nil_append, List.append_nil, Bool.and_true, Bool.true_and, Bool.not_true, Bool.not_false, List.getElem?_cons_zero, List.getElem?_cons_succ, List.set_cons_zero, List.set_cons_succ, List.toList_toArray, Option.bind_some, Option.map_some, Bool.false_eq_true, Bool.true_eq_false, Nat.le_refl, Nat.reduceLeDiff, times_0, times_1, times_2, times_3, times_4, times_5, times_6, List.size_toArray, List.getElem?_toArray, List.contains_cons, List.contains_nil, Nat.reduceBEq, beq_self_eq_true, Bool.or_false, Bool.true_or, Bool.false_or, Bool.or_true, Int.reduceLT, Int.reduceLE, Int.reduceEq, Int.reduceAdd, Int.reduceSub, Int.reduceNeg, Int.reduceToNat, Int.max_eq_left, Int.max_eq_right, Int.min_eq_left, Int.min_eq_right, dec_t, dec_f, Int.sub_zero, Int.add_zero, Int.zero_add, Int.lt_irrefl, Int.le_refl, IntWalk.i64_in, eq_self, ne_eq, not_true_eq_false, not_false_eq_true, reduceCtorEq, h4, h3, h1, Nat.add_one_ne_zero]
    refine CondW_d (fun hlt => ?_) (fun hge => ?_)
    · have hl' : i < l.length := by omega
      have hbne : b ≠ σ'.n := by omega
      have hci : (ints l)[i]? = some (.int .i64 l[i]) := ints_get hl'
      have hw : IntKind.i64.wrap ((i : Int) + 1) = ((i + 1 : Nat) : Int) := wrap_succ (by omega)
      simp (config := { maxSteps := 5000000 }) -implicitDefEqProofs (disch := first | omega | (simp -implicitDefEqProofs only [add_n, set_n] <;> omega) | fail) only [w26_0, w26_1, w26_2, w26_3, w26_4, w26_5, w26_6, w26_7, w26_8, w26_9, w26_10, w26_11, w26_12, w26_13, w26_14, w26_15, w26_16, w26_17, w26_18, l26_0, l26_1, l26_2, l26_3, l26_6, l26_8, l26_14, wF26, r26, wO_nil, wO_cons, wO_guard, GuardO_tt, GuardO_ff, GuardO_tf, GuardO_ft, OpsK_eq, wI_nil, wI_move, wI_guard, GuardI_tt, GuardI_ff, GuardI_tf, GuardI_ft, ItemK_eq, SeqK_n, SeqK_r, SeqK_x, BlkK_n, BlkK_r, BlkK_x, EndK_n, EndK_r, RetK_some, CondW_t, CondW_f, LoopK_n, LoopK_x, LoopK_r, wA_skip, wA_ret, wA_exit, ev_tmp, ev_const, ev_func, putO_some, putO_none, put_eq, valK_some, bothK_some, r_move, pickV_t, pickV_f, pickV_b, r_pick, r_alloc, r_box, r_build, evParts, r_buildSlice, r_load, r_loadN, r_store, r_bin, r_eqv, r_un, r_conv, r_extract, extractV, r_call, r_len, lenS, r_lenC, r_most, r_least, r_off', r_nilCheck', r_idx', r_idxA', r_fieldV, r_indexV, wS_move, wS_pick, wS_build, wS_load, wS_loadN, wS_nilCheck, wS_bin, wS_eqv, wS_eqCells, wS_un, wS_conv, wS_mkFunc, wS_slice, wS_sliceStr, wS_sliceArr, wS_off, wS_idx, wS_idxA, wS_fieldV, wS_indexV, wS_indexS, wS_extract, wS_len, wS_lenS, wS_lenC, wS_most, wS_least, StillK_t, StillK_f, recheck, allL, run_load, run_loadN, most_int, least_int, ival_int, r_append, r_copy, r_make, b_add, b_sub, b_mul, b_eql, b_neq, b_lss, b_leq, b_gtr, b_geq, u_neg, u_not, q_nn, q_pn, q_np, q_b, q_sn, q_ss, om_s, b_tf, b_ff, b_tt, b_ft, b_xf, b_xt, n_dec, of_0, of_1, of_2, of_3, tup0, tup1, tup2, tup3, tup4, add_n, set_n, set_set, set_top, set_add', ma_at, ma_old, ms_at, ms_ne, load_pt, loadN_pt, store_pt, cellAt_s, cellsAt_s, putAt_s, writeN_w, offV_pt, someV_pt, idxK_at, idxAK_at, fieldV_t, fieldV_f, indexK_at, readN, fillL, newSlice, optK, setL_nil, setL_cons, c_int, c_bool, c_str, c_ptr, c_slice, c_agg, one_int, one_bool, one_str, one_ptr, one_slice, two_s, res_nil, res_cons, res_tmp, res_cell, res_cellN, resC_pt, resN_pt, if_true, if_false, ite_true, ite_false, reduceIte, Nat.reduceEqDiff, Nat.reduceAdd, Nat.reduceMul, Nat.add_zero, Nat.zero_add, Nat.succ_ne_self, and_true, true_and, and_false, false_and, decide_true, decide_false, List.map_cons, List.map_nil, List.length_cons, List.length_nil, List.all_cons, List.all_nil, List.take, List.drop, List.cons_append, List.nil_append, List.append_nil, Bool.and_true, Bool.true_and, Bool.not_true, Bool.not_false, List.getElem?_cons_zero, List.getElem?_cons_succ, List.set_cons_zero, List.set_cons_succ, List.toList_toArray, Option.bind_some, Option.map_some, Bool.false_eq_true, Bool.true_eq_false, Nat.le_refl, Nat.reduceLeDiff, times_0, times_1, times_2, times_3, times_4, times_5, times_6, List.size_toArray, List.getElem?_toArray, List.contains_cons, List.contains_nil, Nat.reduceBEq, beq_self_eq_true, Bool.or_false, Bool.true_or, Bool.false_or, Bool.or_true, Int.reduceLT, Int.reduceLE, Int.reduceEq, Int.reduceAdd, Int.reduceSub, Int.reduceNeg, Int.reduceToNat, Int.max_eq_left, Int.max_eq_right, Int.min_eq_left, Int.min_eq_right, dec_t, dec_f, Int.sub_zero, Int.add_zero, Int.zero_add, Int.lt_irrefl, Int.le_refl, IntWalk.i64_in, eq_self, ne_eq, not_true_eq_false, not_false_eq_true, reduceCtorEq, h4, h3, h1, Nat.add_one_ne_zero, hbne, hb, hx, Int.toNat_natCast, Nat.mul_one, hci, hlt, hw, Int.natCast_nonneg]
      refine ⟨⟨i + 1, by omega, rfl, ?_⟩, by omega⟩
      rw [List.take_succ_eq_append_getElem hl', List.foldl_append]
      rfl
    · have hin : i = l.length := by omega
      simp (config := { maxSteps := 5000000 }) -implicitDefEqProofs (disch := first | omega | (simp -implicitDefEqProofs only [add_n, set_n] <;> omega) | fail) only [w26_0, w26_1, w26_2, w26_3, w26_4, w26_5, w26_6, w26_7, w26_8, w26_9, w26_10, w26_11, w26_12, w26_13, w26_14, w26_15, w26_16, w26_17, w26_18, l26_0, l26_1, l26_2, l26_3, l26_6, l26_8, l26_14, wF26, r26, wO_nil, wO_cons, wO_guard, GuardO_tt, GuardO_ff, GuardO_tf, GuardO_ft, OpsK_eq, wI_nil, wI_move, wI_guard, GuardI_tt, GuardI_ff, GuardI_tf, GuardI_ft, ItemK_eq, SeqK_n, SeqK_r, SeqK_x, BlkK_n, BlkK_r, BlkK_x, EndK_n, EndK_r, RetK_some, CondW_t, CondW_f, LoopK_n, LoopK_x, LoopK_r, wA_skip, wA_ret, wA_exit, ev_tmp, ev_const, ev_func, putO_some, putO_none, put_eq, valK_some, bothK_some, r_move, pickV_t, pickV_f, pickV_b, r_pick, r_alloc, r_box, r_build, evParts, r_buildSlice, r_load, r_loadN, r_store, r_bin, r_eqv, r_un, r_conv, r_extract, extractV, r_call, r_len, lenS, r_lenC, r_most, r_least, r_off', r_nilCheck', r_idx', r_idxA', r_fieldV, r_indexV, wS_move, wS_pick, wS_build, wS_load, wS_loadN, wS_nilCheck, wS_bin, wS_eqv, wS_eqCells, wS_un, wS_conv, wS_mkFunc, wS_slice, wS_sliceStr, wS_sliceArr, wS_off, wS_idx, wS_idxA, wS_fieldV, wS_indexV, wS_indexS, wS_extract, wS_len, wS_lenS, wS_lenC, wS_most, wS_least, StillK_t, StillK_f, recheck, allL, run_load, run_loadN, most_int, least_int, ival_int, r_append, r_copy, r_make, b_add, b_sub, b_mul, b_eql, b_neq, b_lss, b_leq, b_gtr, b_geq, u_neg, u_not, q_nn, q_pn, q_np, q_b, q_sn, q_ss, om_s, b_tf, b_ff, b_tt, b_ft, b_xf, b_xt, n_dec, of_0, of_1, of_2, of_3, tup0, tup1, tup2, tup3, tup4, add_n, set_n, set_set, set_top, set_add', ma_at, ma_old, ms_at, ms_ne, load_pt, loadN_pt, store_pt, cellAt_s, cellsAt_s, putAt_s, writeN_w, offV_pt, someV_pt, idxK_at, idxAK_at, fieldV_t, fieldV_f, indexK_at, readN, fillL, newSlice, optK, setL_nil, setL_cons, c_int, c_bool, c_str, c_ptr, c_slice, c_agg, one_int, one_bool, one_str, one_ptr, one_slice, two_s, res_nil, res_cons, res_tmp, res_cell, res_cellN, resC_pt, resN_pt, if_true, if_false, ite_true, ite_false, reduceIte, Nat.reduceEqDiff, Nat.reduceAdd, Nat.reduceMul, Nat.add_zero, Nat.zero_add, Nat.succ_ne_self, and_true, true_and, and_false, false_and, decide_true, decide_false, List.map_cons, List.map_nil, List.length_cons, List.length_nil, List.all_cons, List.all_nil, List.take, List.drop, List.cons_append, List.nil_append, List.append_nil, Bool.and_true, Bool.true_and, Bool.not_true, Bool.not_false, List.getElem?_cons_zero, List.getElem?_cons_succ, List.set_cons_zero, List.set_cons_succ, List.toList_toArray, Option.bind_some, Option.map_some, Bool.false_eq_true, Bool.true_eq_false, Nat.le_refl, Nat.reduceLeDiff, times_0, times_1, times_2, times_3, times_4, times_5, times_6, List.size_toArray, List.getElem?_toArray, List.contains_cons, List.contains_nil, Nat.reduceBEq, beq_self_eq_true, Bool.or_false, Bool.true_or, Bool.false_or, Bool.or_true, Int.reduceLT, Int.reduceLE, Int.reduceEq, Int.reduceAdd, Int.reduceSub, Int.reduceNeg, Int.reduceToNat, Int.max_eq_left, Int.max_eq_right, Int.min_eq_left, Int.min_eq_right, dec_t, dec_f, Int.sub_zero, Int.add_zero, Int.zero_add, Int.lt_irrefl, Int.le_refl, IntWalk.i64_in, eq_self, ne_eq, not_true_eq_false, not_false_eq_true, reduceCtorEq, h4, h3, h1, Nat.add_one_ne_zero]
      refine Fin.plain ((Ext.refl _).add _) hσ (.int _ _) ⟨?_, rfl⟩
      rw [hin, List.take_length]
def s26 : Spec := sp S26
theorem mono26 : MonoS s26 := MonoS.sp S26
theorem sim26 : Sim Try.prog 26 s26 := known26.rel tr26 run26
/- backstitch/backstitchref19.then -/
def l58_0 : List AOper := [⟨(some 2), .box 1 (.tmp 0), none⟩,
  ⟨(some 4), .alloc 1 [(.int .i64 0), (.slice none 0 0)], none⟩]
def c58_0 : AC := .region l58_0
theorem w58_0 : wpA T c58_0 Q e σ = wpOps T (Q .normal) l58_0 e σ := rfl
def l58_1 : List AOper := [⟨(some 7), .buildSlice 1 0 [(.int .i64 0)] [], none⟩,
  ⟨(some 5), .move (.tmp 7), none⟩]
def c58_1 : AC := .region l58_1
theorem w58_1 : wpA T c58_1 Q e σ = wpOps T (Q .normal) l58_1 e σ := rfl
def l58_2 : List AOper := [⟨(some 6), .move (.const (.int .i64 0)), none⟩]
def c58_2 : AC := .region l58_2
theorem w58_2 : wpA T c58_2 Q e σ = wpOps T (Q .normal) l58_2 e σ := rfl
def l58_3 : List AOper := [⟨(some 8), .move (.tmp 6), none⟩,
  ⟨(some 9), .off 1 (.tmp 2), none⟩,
  ⟨(some 10), .load (.tmp 9), none⟩,
  ⟨(some 11), .len (.tmp 10), none⟩,
  ⟨(some 12), .bin .lss (.tmp 8) (.tmp 11), none⟩]
def c58_3 : AC := .region l58_3
theorem w58_3 : wpA T c58_3 Q e σ = wpOps T (Q .normal) l58_3 e σ := rfl
def c58_4 : AC := .cond (.tmp 12) .skip (.exit 0)
theorem w58_4 : wpA T c58_4 Q e σ = CondW T (e.ev (.tmp 12)) .skip (.exit 0) Q e σ := rfl
def c58_5 : AC := .seq c58_3 c58_4
theorem w58_5 : wpA T c58_5 Q e σ = wpA T c58_3 (SeqK T c58_4 Q) e σ := rfl
def l58_6 : List AOper := [⟨(some 15), .move (.tmp 5), none⟩,
  ⟨(some 16), .off 1 (.tmp 2), none⟩,
  ⟨(some 17), .load (.tmp 16), none⟩,
  ⟨(some 18), .move (.tmp 6), none⟩,
  ⟨(some 19), .idx 1 (.tmp 17) (.tmp 18), none⟩,
  ⟨(some 20), .load (.tmp 19), none⟩,
  ⟨(some 21), .buildSlice 1 1 [(.int .i64 0)] [(0, 1, (.tmp 20))], none⟩,
  ⟨(some 22), .append 1 8 (.tmp 15) (.tmp 21), none⟩,
  ⟨(some 5), .move (.tmp 22), none⟩]
def c58_6 : AC := .region l58_6
theorem w58_6 : wpA T c58_6 Q e σ = wpOps T (Q .normal) l58_6 e σ := rfl
def c58_7 : AC := .block 1 c58_6
theorem w58_7 : wpA T c58_7 Q e σ = wpA T c58_6 (BlkK 1 Q) e σ := rfl
def l58_8 : List AOper := [⟨(some 13), .move (.tmp 6), none⟩,
  ⟨(some 14), .bin .add (.tmp 13) (.const (.int .i64 1)), none⟩,
  ⟨(some 6), .move (.tmp 14), none⟩]
def c58_8 : AC := .region l58_8
theorem w58_8 : wpA T c58_8 Q e σ = wpOps T (Q .normal) l58_8 e σ := rfl
def c58_9 : AC := .seq c58_7 c58_8
theorem w58_9 : wpA T c58_9 Q e σ = wpA T c58_7 (SeqK T c58_8 Q) e σ := rfl
def c58_10 : AC := .seq c58_5 c58_9
theorem w58_10 : wpA T c58_10 Q e σ = wpA T c58_5 (SeqK T c58_9 Q) e σ := rfl
def c58_11 : AC := .loop c58_10
theorem w58_11 : wpA T c58_11 Q e σ = wpA T (.loop c58_10) Q e σ := rfl
def c58_12 : AC := .block 0 c58_11
theorem w58_12 : wpA T c58_12 Q e σ = wpA T c58_11 (BlkK 0 Q) e σ := rfl
def c58_13 : AC := .seq c58_2 c58_12
theorem w58_13 : wpA T c58_13 Q e σ = wpA T c58_2 (SeqK T c58_12 Q) e σ := rfl
def l58_14 : List SItem := [⟨0, ⟨(some 23), .off 0 (.tmp 2), none⟩, false, false, []⟩,
  ⟨1, ⟨(some 24), .load (.tmp 23), none⟩, false, true, []⟩,
  ⟨2, ⟨(some 25), .move (.tmp 5), none⟩, false, false, []⟩,
  ⟨3, ⟨(some 26), .move (.tmp 1), none⟩, false, false, []⟩,
  ⟨4, ⟨(some 27), .buildSlice 1 1 [(.int .i64 0)] [(0, 1, (.tmp 26))], none⟩, true, false, [1]⟩,
  ⟨5, ⟨(some 28), .append 1 8 (.tmp 25) (.tmp 27), none⟩, true, false, [1]⟩,
  ⟨6, ⟨(some 29), .build [(.int .i64 0), (.slice none 0 0)] [(0, 1, (.tmp 24)), (1, 1, (.tmp 28))], none⟩, false, false, []⟩,
  ⟨7, ⟨none, .store 2 (.tmp 4) (.tmp 29), none⟩, true, false, []⟩]
def c58_14 : AC := .sched l58_14
theorem w58_14 : wpA T c58_14 Q e σ = wpI T (Q .normal) l58_14 [] e σ := rfl
def c58_15 : AC := .seq c58_14 .ret
theorem w58_15 : wpA T c58_15 Q e σ = wpA T c58_14 (SeqK T .ret Q) e σ := rfl
def c58_16 : AC := .seq c58_13 c58_15
theorem w58_16 : wpA T c58_16 Q e σ = wpA T c58_13 (SeqK T c58_15 Q) e σ := rfl
def c58_17 : AC := .seq c58_1 c58_16
theorem w58_17 : wpA T c58_17 Q e σ = wpA T c58_1 (SeqK T c58_16 Q) e σ := rfl
def c58_18 : AC := .seq c58_0 c58_17
theorem w58_18 : wpA T c58_18 Q e σ = wpA T c58_0 (SeqK T c58_17 Q) e σ := rfl
def r58 : List ARes := [.cellN 4 2]
def a58 : AFn := ⟨30, r58, c58_18⟩
theorem wF58 : wpF T a58 args σ K = (args.length ≤ 30 ∧ wpA T c58_18 (EndK r58 K) (Env.of args) σ) := rfl
theorem tr58 : trFn Try.prog 58 = some a58 := by kernel_rfl
def T58 : Specs := noSpecs
theorem known58 : Known Try.prog T58 := (Known.none Try.prog)
def S58 : Rel := fun args σ r σ' => ∃ b n c budget v l x, args = [.agg #[.int .i64 budget, .slice (some ⟨b, 0, none⟩) n c], .int .i64 v] ∧ σ.m b = some x ∧ x.cells = ints l ∧ l.length = n ∧ n < 1000000 ∧
  r = .agg #[.int .i64 budget, .slice (some ⟨σ.n, 0, none⟩) (n + 1) (n + 1)] ∧ σ' = σ.add ⟨ints (l ++ [v]), true, 1⟩
theorem run58 (args : List Value) (σ : Hp) (r : Value) (σ' : Hp) (hσ : σ.Ok) (h : S58 args σ r σ') : wpF T58 a58 args σ (Fin σ fun r1 σ1 => r1 = r ∧ σ1 = σ') := by
  obtain ⟨b, n, c, budget, v, l, x, rfl, hb, hx, hl, hn, rfl, rfl⟩ := h
  have hbn : b < σ.n := hσ b x hb
  simp (config := { maxSteps := 5000000 }) -implicitDefEqProofs (disch := first | omega | (simp -implicitDefEqProofs only [add_n, set_n] <;> omega) | fail) only [w58_0, w58_1, w58_2, w58_3, w58_4, w58_5, w58_6, w58_7, w58_8, w58_9, w58_10, w58_11, w58_12, w58_13, w58_14, w58_15, w58_16, w58_17, w58_18, l58_0, l58_1, l58_2, l58_3, l58_6, l58_8, l58_14, wF58, r58, wO_nil, wO_cons, wO_guard, GuardO_tt, GuardO_ff, GuardO_tf, GuardO_ft, OpsK_eq, wI_nil, wI_move, wI_guard, GuardI_tt, GuardI_ff, GuardI_tf, GuardI_ft, ItemK_eq, SeqK_n, SeqK_r, SeqK_x, BlkK_n, BlkK_r, BlkK_x, EndK_n, EndK_r, RetK_some, CondW_t, CondW_f, LoopK_n, LoopK_x, LoopK_r, wA_skip, wA_ret, wA_exit, ev_tmp, ev_const, ev_func, putO_some, putO_none, put_eq, valK_some, bothK_some, r_move, pickV_t, pickV_f, pickV_b, r_pick, r_alloc, r_box, r_build, evParts, r_buildSlice, r_load, r_loadN, r_store, r_bin, r_eqv, r_un, r_conv, r_extract, extractV, r_call, r_len, lenS, r_lenC, r_most, r_least, r_off', r_nilCheck', r_idx', r_idxA', r_fieldV, r_indexV, wS_move, wS_pick, wS_build, wS_load, wS_loadN, wS_nilCheck, wS_bin, wS_eqv, wS_eqCells, wS_un, wS_conv, wS_mkFunc, wS_slice, wS_sliceStr, wS_sliceArr, wS_off, wS_idx, wS_idxA, wS_fieldV, wS_indexV, wS_indexS, wS_extract, wS_len, wS_lenS, wS_lenC, wS_most, wS_least, StillK_t, StillK_f, recheck, allL, run_load, run_loadN, most_int, least_int, ival_int, r_append, r_copy, r_make, b_add, b_sub, b_mul, b_eql, b_neq, b_lss, b_leq, b_gtr, b_geq, u_neg, u_not, q_nn, q_pn, q_np, q_b, q_sn, q_ss, om_s, b_tf, b_ff, b_tt, b_ft, b_xf, b_xt, n_dec, of_0, of_1, of_2, of_3, tup0, tup1, tup2, tup3, tup4, add_n, set_n, set_set, set_top, set_add', ma_at, ma_old, ms_at, ms_ne, load_pt, loadN_pt, store_pt, cellAt_s, cellsAt_s, putAt_s, writeN_w, offV_pt, someV_pt, idxK_at, idxAK_at, fieldV_t, fieldV_f, indexK_at, readN, fillL, newSlice, optK, setL_nil, setL_cons, c_int, c_bool, c_str, c_ptr, c_slice, c_agg, one_int, one_bool, one_str, one_ptr, one_slice, two_s, res_nil, res_cons, res_tmp, res_cell, res_cellN, resC_pt, resN_pt, if_true, if_false, ite_true, ite_false, reduceIte, Nat.reduceEqDiff, Nat.reduceAdd, Nat.reduceMul, Nat.add_zero, Nat.zero_add, Nat.succ_ne_self, and_true, true_and, and_false, false_and, decide_true, decide_false, List.map_cons, List.map_nil, List.length_cons, List.length_nil, List.all_cons, List.all_nil, List.take, List.drop, List.cons_append, List.nil_append, List.append_nil, Bool.and_true, Bool.true_and, Bool.not_true, Bool.not_false, List.getElem?_cons_zero, List.getElem?_cons_succ, List.set_cons_zero, List.set_cons_succ, List.toList_toArray, Option.bind_some, Option.map_some, Bool.false_eq_true, Bool.true_eq_false, Nat.le_refl, Nat.reduceLeDiff, times_0, times_1, times_2, times_3, times_4, times_5, times_6, List.size_toArray, List.getElem?_toArray, List.contains_cons, List.contains_nil, Nat.reduceBEq, beq_self_eq_true, Bool.or_false, Bool.true_or, Bool.false_or, Bool.or_true, Int.reduceLT, Int.reduceLE, Int.reduceEq, Int.reduceAdd, Int.reduceSub, Int.reduceNeg, Int.reduceToNat, Int.max_eq_left, Int.max_eq_right, Int.min_eq_left, Int.min_eq_right, dec_t, dec_f, Int.sub_zero, Int.add_zero, Int.zero_add, Int.lt_irrefl, Int.le_refl, IntWalk.i64_in, eq_self, ne_eq, not_true_eq_false, not_false_eq_true, reduceCtorEq]
  refine loopI known58.mono (fun e s => Ext σ s ∧ s.m σ.n = some ⟨[.int .i64 budget, .slice (some ⟨b, 0, none⟩) n c], true, 1⟩ ∧ s.m (σ.n + 1) = some ⟨[.int .i64 0, .slice none 0 0], true, 1⟩ ∧ ∃ i b' : Nat, i ≤ n ∧ σ.n + 1 < b' ∧ b' < s.n ∧ e 6 = .int .i64 i ∧ e 5 = .slice (some ⟨b', 0, none⟩) i i ∧ s.m b' = some ⟨ints (l.take i), true, 1⟩ ∧
      e 1 = .int .i64 v ∧ e 2 = .pointer (some ⟨σ.n, 0, none⟩) ∧ e 4 = .pointer (some ⟨σ.n + 1, 0, none⟩)) (fun e _ => n - (ival (e 6)).toNat) ?_ ?_
  · refine ⟨(((Ext.refl _).add _).add _).add _, ?_, ?_, 0, σ.n + 2, by omega, by omega, by simp only [add_n]; omega, rfl, rfl, ?_, rfl, rfl, rfl⟩
    · simp (disch := first | omega | (simp -implicitDefEqProofs only [add_n, set_n] <;> omega) | fail) only [ma_at, ma_old, ms_at, ms_ne, add_n, set_n]
    · simp (disch := first | omega | (simp -implicitDefEqProofs only [add_n, set_n] <;> omega) | fail) only [ma_at, ma_old, ms_at, ms_ne, add_n, set_n]
    · simp (disch := first | omega | (simp -implicitDefEqProofs only [add_n, set_n] <;> omega) | fail) only [ma_at, ma_old, ms_at, ms_ne, add_n, set_n]
      rfl
  · rintro e s ⟨hE, hs0, hs1, i, b', hi, hb1, hb2, h6, h5, hsb, h1, h2, h4⟩
    have hbs : s.m b = some x := (hE.2 b hbn).trans hb
    have hln : (ints (l.take i)).length = i * 1 := by rw [ints_len_take (by omega), Nat.mul_one]
    simp (config := { maxSteps := 5000000 }) -implicitDefEqProofs (disch := first | omega | (simp -implicitDefEqProofs only [add_n, set_n] <;> omega) | fail) only [w58_0, w58_1, w58_2, w58_3, w58_4, w58_5, w58_6, w58_7, w58_8, w58_9, w58_10, w58_11, w58_12, w58_13, w58_14, w58_15, w58_16, w58_17, w58_18, l58_0, l58_1, l58_2, l58_3, l58_6, l58_8, l58_14, wF58, r58, wO_nil, wO_cons, wO_guard, GuardO_tt, GuardO_ff, GuardO_tf, GuardO_ft, OpsK_eq, wI_nil, wI_move, wI_guard, GuardI_tt, GuardI_ff, GuardI_tf, GuardI_ft, ItemK_eq, SeqK_n, SeqK_r, SeqK_x, BlkK_n, BlkK_r, BlkK_x, EndK_n, EndK_r, RetK_some, CondW_t, CondW_f, LoopK_n, LoopK_x, LoopK_r, wA_skip, wA_ret, wA_exit, ev_tmp, ev_const, ev_func, putO_some, putO_none, put_eq, valK_some, bothK_some, r_move, pickV_t, pickV_f, pickV_b, r_pick, r_alloc, r_box, r_build, evParts, r_buildSlice, r_load, r_loadN, r_store, r_bin, r_eqv, r_un, r_conv, r_extract, extractV, r_call, r_len, lenS, r_lenC, r_most, r_least, r_off', r_nilCheck', r_idx', r_idxA', r_fieldV, r_indexV, wS_move, wS_pick, wS_build, wS_load, wS_loadN, wS_nilCheck, wS_bin, wS_eqv, wS_eqCells, wS_un, wS_conv, wS_mkFunc, wS_slice, wS_sliceStr, wS_sliceArr, wS_off, wS_idx, wS_idxA, wS_fieldV, wS_indexV, wS_indexS, wS_extract, wS_len, wS_lenS, wS_lenC, wS_most, wS_least, StillK_t, StillK_f, recheck, allL, run_load, run_loadN, most_int, least_int, ival_int, r_append, r_copy, r_make, b_add, b_sub, b_mul, b_eql, b_neq, b_lss, b_leq, b_gtr, b_geq, u_neg, u_not, q_nn, q_pn, q_np, q_b, q_sn, q_ss, om_s, b_tf, b_ff, b_tt, b_ft, b_xf, b_xt, n_dec, of_0, of_1, of_2, of_3, tup0, tup1, tup2, tup3, tup4, add_n, set_n, set_set, set_top, set_add', ma_at, ma_old, ms_at, ms_ne, load_pt, loadN_pt, store_pt, cellAt_s, cellsAt_s, putAt_s, writeN_w, offV_pt, someV_pt, idxK_at, idxAK_at, fieldV_t, fieldV_f, indexK_at, readN, fillL, newSlice, optK, setL_nil, setL_cons, c_int, c_bool, c_str, c_ptr, c_slice, c_agg, one_int, one_bool, one_str, one_ptr, one_slice, two_s, res_nil, res_cons, res_tmp, res_cell, res_cellN, resC_pt, resN_pt, if_true, if_false, ite_true, ite_false, reduceIte, Nat.reduceEqDiff, Nat.reduceAdd, Nat.reduceMul, Nat.add_zero, Nat.zero_add, Nat.succ_ne_self, and_true, true_and, and_false, false_and, decide_true, decide_false, List.map_cons, List.map_nil, List.length_cons, List.length_nil, List.all_cons, List.all_nil, List.take, List.drop, List.cons_append, List.nil_append, List.append_nil, Bool.and_true, Bool.true_and, Bool.not_true, Bool.not_false, List.getElem?_cons_zero, List.getElem?_cons_succ, List.set_cons_zero, List.set_cons_succ, List.toList_toArray, Option.bind_some, Option.map_some, Bool.false_eq_true, Bool.true_eq_false, Nat.le_refl, Nat.reduceLeDiff, times_0, times_1, times_2, times_3, times_4, times_5, times_6, List.size_toArray, List.getElem?_toArray, List.contains_cons, List.contains_nil, Nat.reduceBEq, beq_self_eq_true, Bool.or_false, Bool.true_or, Bool.false_or, Bool.or_true, Int.reduceLT, Int.reduceLE, Int.reduceEq, Int.reduceAdd, Int.reduceSub, Int.reduceNeg, Int.reduceToNat, Int.max_eq_left, Int.max_eq_right, Int.min_eq_left, Int.min_eq_right, dec_t, dec_f, Int.sub_zero, Int.add_zero, Int.zero_add, Int.lt_irrefl, Int.le_refl, IntWalk.i64_in, eq_self, ne_eq, not_true_eq_false, not_false_eq_true, reduceCtorEq, h6, h5, h1, h2, h4, hs0, hs1, Nat.add_one_ne_zero]
    refine CondW_d (fun hlt => ?_) (fun hge => ?_)
    · have hl' : i < l.length := by omega
      have hci : (ints l)[i]? = some (.int .i64 l[i]) := ints_get hl'
      have hw : IntKind.i64.wrap ((i : Int) + 1) = ((i + 1 : Nat) : Int) := wrap_succ (by omega)
      have ha := append_box (bytes := 8) (vs := [.int .i64 l[i]]) hsb hb2 hln rfl (by omega) (by omega) rfl
      simp (config := { maxSteps := 5000000 }) -implicitDefEqProofs (disch := first | omega | (simp -implicitDefEqProofs only [add_n, set_n] <;> omega) | fail) only [w58_0, w58_1, w58_2, w58_3, w58_4, w58_5, w58_6, w58_7, w58_8, w58_9, w58_10, w58_11, w58_12, w58_13, w58_14, w58_15, w58_16, w58_17, w58_18, l58_0, l58_1, l58_2, l58_3, l58_6, l58_8, l58_14, wF58, r58, wO_nil, wO_cons, wO_guard, GuardO_tt, GuardO_ff, GuardO_tf, GuardO_ft, OpsK_eq, wI_nil, wI_move, wI_guard, GuardI_tt, GuardI_ff, GuardI_tf, GuardI_ft, ItemK_eq, SeqK_n, SeqK_r, SeqK_x, BlkK_n, BlkK_r, BlkK_x, EndK_n, EndK_r, RetK_some, CondW_t, CondW_f, LoopK_n, LoopK_x, LoopK_r, wA_skip, wA_ret, wA_exit, ev_tmp, ev_const, ev_func, putO_some, putO_none, put_eq, valK_some, bothK_some, r_move, pickV_t, pickV_f, pickV_b, r_pick, r_alloc, r_box, r_build, evParts, r_buildSlice, r_load, r_loadN, r_store, r_bin, r_eqv, r_un, r_conv, r_extract, extractV, r_call, r_len, lenS, r_lenC, r_most, r_least, r_off', r_nilCheck', r_idx', r_idxA', r_fieldV, r_indexV, wS_move, wS_pick, wS_build, wS_load, wS_loadN, wS_nilCheck, wS_bin, wS_eqv, wS_eqCells, wS_un, wS_conv, wS_mkFunc, wS_slice, wS_sliceStr, wS_sliceArr, wS_off, wS_idx, wS_idxA, wS_fieldV, wS_indexV, wS_indexS, wS_extract, wS_len, wS_lenS, wS_lenC, wS_most, wS_least, StillK_t, StillK_f, recheck, allL, run_load, run_loadN, most_int, least_int, ival_int, r_append, r_copy, r_make, b_add, b_sub, b_mul, b_eql, b_neq, b_lss, b_leq, b_gtr, b_geq, u_neg, u_not, q_nn, q_pn, q_np, q_b, q_sn, q_ss, om_s, b_tf, b_ff, b_tt, b_ft, b_xf, b_xt, n_dec, of_0, of_1, of_2, of_3, tup0, tup1, tup2, tup3, tup4, add_n, set_n, set_set, set_top, set_add', ma_at, ma_old, ms_at, ms_ne, load_pt, loadN_pt, store_pt, cellAt_s, cellsAt_s, putAt_s, writeN_w, offV_pt, someV_pt, idxK_at, idxAK_at, fieldV_t, fieldV_f, indexK_at, readN, fillL, newSlice, optK, setL_nil, setL_cons, c_int, c_bool, c_str, c_ptr, c_slice, c_agg, one_int, one_bool, one_str, one_ptr, one_slice, two_s, res_nil, res_cons, res_tmp, res_cell, res_cellN, resC_pt, resN_pt, if_true, if_false, ite_true, ite_false, reduceIte, Nat.reduceEqDiff, Nat.reduceAdd, Nat.reduceMul, Nat.add_zero, Nat.zero_add, Nat.succ_ne_self, and_true, true_and, and_false, false_and, decide_true, decide_false, List.map_cons, List.map_nil, List.length_cons, List.length_nil, List.all_cons, List.all_nil, List.take, List.drop, List.cons_append, List.nil_append, List.append_nil, Bool.and_true, Bool.true_and, Bool.not_true, Bool.not_false, List.getElem?_cons_zero, List.getElem?_cons_succ, List.set_cons_zero, List.set_cons_succ, List.toList_toArray, Option.bind_some, Option.map_some, Bool.false_eq_true, Bool.true_eq_false, Nat.le_refl, Nat.reduceLeDiff, times_0, times_1, times_2, times_3, times_4, times_5, times_6, List.size_toArray, List.getElem?_toArray, List.contains_cons, List.contains_nil, Nat.reduceBEq, beq_self_eq_true, Bool.or_false, Bool.true_or, Bool.false_or, Bool.or_true, Int.reduceLT, Int.reduceLE, Int.reduceEq, Int.reduceAdd, Int.reduceSub, Int.reduceNeg, Int.reduceToNat, Int.max_eq_left, Int.max_eq_right, Int.min_eq_left, Int.min_eq_right, dec_t, dec_f, Int.sub_zero, Int.add_zero, Int.zero_add, Int.lt_irrefl, Int.le_refl, IntWalk.i64_in, eq_self, ne_eq, not_true_eq_false, not_false_eq_true, reduceCtorEq, h6, h5, h1, h2, h4, hs0, hs1, Nat.add_one_ne_zero, hbs, hx, Int.toNat_natCast, Nat.mul_one, hci, hlt, hw, Int.natCast_nonneg, ha]
      refine ⟨⟨((hE.set (by omega) _).add _).add _, i + 1, s.n + 1, by omega, by omega, by omega, rfl, rfl, ?_⟩, by omega⟩
      · simp (disch := first | omega | (simp -implicitDefEqProofs only [add_n, set_n] <;> omega) | fail) only [ma_at, ma_old, ms_at, ms_ne, add_n, set_n]
        rw [ints_take hl']
    · have hin : i = l.length := by omega
      have ha := append_box (bytes := 8) (vs := [.int .i64 v]) hsb hb2 hln rfl (by omega) (by omega) rfl
      simp (config := { maxSteps := 5000000 }) -implicitDefEqProofs (disch := first | omega | (simp -implicitDefEqProofs only [add_n, set_n] <;> omega) | fail) only [w58_0, w58_1, w58_2, w58_3, w58_4, w58_5, w58_6, w58_7, w58_8, w58_9, w58_10, w58_11, w58_12, w58_13, w58_14, w58_15, w58_16, w58_17, w58_18, l58_0, l58_1, l58_2, l58_3, l58_6, l58_8, l58_14, wF58, r58, wO_nil, wO_cons, wO_guard, GuardO_tt, GuardO_ff, GuardO_tf, GuardO_ft, OpsK_eq, wI_nil, wI_move, wI_guard, GuardI_tt, GuardI_ff, GuardI_tf, GuardI_ft, ItemK_eq, SeqK_n, SeqK_r, SeqK_x, BlkK_n, BlkK_r, BlkK_x, EndK_n, EndK_r, RetK_some, CondW_t, CondW_f, LoopK_n, LoopK_x, LoopK_r, wA_skip, wA_ret, wA_exit, ev_tmp, ev_const, ev_func, putO_some, putO_none, put_eq, valK_some, bothK_some, r_move, pickV_t, pickV_f, pickV_b, r_pick, r_alloc, r_box, r_build, evParts, r_buildSlice, r_load, r_loadN, r_store, r_bin, r_eqv, r_un, r_conv, r_extract, extractV, r_call, r_len, lenS, r_lenC, r_most, r_least, r_off', r_nilCheck', r_idx', r_idxA', r_fieldV, r_indexV, wS_move, wS_pick, wS_build, wS_load, wS_loadN, wS_nilCheck, wS_bin, wS_eqv, wS_eqCells, wS_un, wS_conv, wS_mkFunc, wS_slice, wS_sliceStr, wS_sliceArr, wS_off, wS_idx, wS_idxA, wS_fieldV, wS_indexV, wS_indexS, wS_extract, wS_len, wS_lenS, wS_lenC, wS_most, wS_least, StillK_t, StillK_f, recheck, allL, run_load, run_loadN, most_int, least_int, ival_int, r_append, r_copy, r_make, b_add, b_sub, b_mul, b_eql, b_neq, b_lss, b_leq, b_gtr, b_geq, u_neg, u_not, q_nn, q_pn, q_np, q_b, q_sn, q_ss, om_s, b_tf, b_ff, b_tt, b_ft, b_xf, b_xt, n_dec, of_0, of_1, of_2, of_3, tup0, tup1, tup2, tup3, tup4, add_n, set_n, set_set, set_top, set_add', ma_at, ma_old, ms_at, ms_ne, load_pt, loadN_pt, store_pt, cellAt_s, cellsAt_s, putAt_s, writeN_w, offV_pt, someV_pt, idxK_at, idxAK_at, fieldV_t, fieldV_f, indexK_at, readN, fillL, newSlice, optK, setL_nil, setL_cons, c_int, c_bool, c_str, c_ptr, c_slice, c_agg, one_int, one_bool, one_str, one_ptr, one_slice, two_s, res_nil, res_cons, res_tmp, res_cell, res_cellN, resC_pt, resN_pt, if_true, if_false, ite_true, ite_false, reduceIte, Nat.reduceEqDiff, Nat.reduceAdd, Nat.reduceMul, Nat.add_zero, Nat.zero_add, Nat.succ_ne_self, and_true, true_and, and_false, false_and, decide_true, decide_false, List.map_cons, List.map_nil, List.length_cons, List.length_nil, List.all_cons, List.all_nil, List.take, List.drop, List.cons_append, List.nil_append, List.append_nil, Bool.and_true, Bool.true_and, Bool.not_true, Bool.not_false, List.getElem?_cons_zero, List.getElem?_cons_succ, List.set_cons_zero, List.set_cons_succ, List.toList_toArray, Option.bind_some, Option.map_some, Bool.false_eq_true, Bool.true_eq_false, Nat.le_refl, Nat.reduceLeDiff, times_0, times_1, times_2, times_3, times_4, times_5, times_6, List.size_toArray, List.getElem?_toArray, List.contains_cons, List.contains_nil, Nat.reduceBEq, beq_self_eq_true, Bool.or_false, Bool.true_or, Bool.false_or, Bool.or_true, Int.reduceLT, Int.reduceLE, Int.reduceEq, Int.reduceAdd, Int.reduceSub, Int.reduceNeg, Int.reduceToNat, Int.max_eq_left, Int.max_eq_right, Int.min_eq_left, Int.min_eq_right, dec_t, dec_f, Int.sub_zero, Int.add_zero, Int.zero_add, Int.lt_irrefl, Int.le_refl, IntWalk.i64_in, eq_self, ne_eq, not_true_eq_false, not_false_eq_true, reduceCtorEq, h6, h5, h1, h2, h4, hs0, hs1, Nat.add_one_ne_zero, ha]
      have hla : ints (l ++ [v]) = ints (l.take i) ++ [.int .i64 v] := by rw [hin, List.take_length, ints_app]; rfl
      refine Fin.new1 ((((hE.set (by omega) _).set (by omega) _).add _).add _) hσ (b := s.n + 1) (x := ⟨ints (l.take i) ++ [.int .i64 v], true, 1⟩) (x' := ⟨ints (l ++ [v]), true, 1⟩) (by omega) ?_ rfl id ?_ (.agg (.cons (.int _ _) (.cons ?_ .nil))) ⟨rfl, rfl⟩
      · simp (disch := first | omega | (simp -implicitDefEqProofs only [add_n, set_n] <;> omega) | fail) only [ma_at, ma_old, ms_at, ms_ne, add_n, set_n]
      · rw [← hla, List.take_length]
        exact F2.ints _
      · rw [hin, hl]
        exact Rn.slice' (by omega) (if_pos rfl)
def s58 : Spec := sp S58
theorem mono58 : MonoS s58 := MonoS.sp S58
theorem sim58 : Sim Try.prog 58 s58 := known58.rel tr58 run58
end Go.Ab
