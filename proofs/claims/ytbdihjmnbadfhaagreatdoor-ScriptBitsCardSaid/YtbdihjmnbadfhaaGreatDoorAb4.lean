/- The translation of an operation, and that it is right. -/
import Derived.Test.YtbdihjmnbadfhaaGreatDoorAb3
namespace Go.Ab
open Go.RowKit

def partsOf (size : Nat → Option (Nat × Nat)) : List (Nat × Operand) → Option (List (Nat × Nat × Operand))
  | [] => some []
  | (i, x) :: r => match size i, opd x, partsOf size r with
    | some (off, n), some x, some r => some ((off, n, x) :: r)
    | _, _, _ => none
def opds : List Operand → Option (List Operand)
  | [] => some []
  | x :: r => match opd x, opds r with
    | some x, some r => some (x :: r)
    | _, _ => none

def placesOf (P : Program) (fs : Array Field) (i : Nat) : Option (Nat × Nat) := match fs[i]? with
  | some f => (szOf P f.type).map fun n => (f.offset, n)
  | none => none

def enters (P : Program) (f : FuncId) : Bool := match P.funcs[f]? with
  | some fn => fn.body.isSome && !(fn.name == "runtime.NumGoroutine")
  | none => false

/-- The kinds of a type's cells, each an integer, a bool or a string, one beside the other, named, and comparable as such. -/
def flatCell (P : Program) (t : TypeId) : Option Nat := match P.underlying t with
  | some .bool => some 0
  | some (.int _) => some 1
  | some .string => some 2
  | _ => none
def flatFields (P : Program) : Nat → List Field → Option (List Nat)
  | _, [] => some []
  | i, f :: r => if f.offset = i ∧ f.name ≠ "_" then match flatCell P f.type, flatFields P (i + 1) r with
    | some k, some ks => some (k :: ks)
    | _, _ => none
    else none
def flatOf (P : Program) (t : TypeId) : Option (List Nat) := match P.underlying t with
  | some (.struct fs) => if P.eqGuardType P.depth t = false ∧ P.stoodInHeld t = false then flatFields P 0 fs.toList else none
  | some (.array n e) => if szOf P e = some 1 ∧ P.eqGuardType P.depth t = false then (flatCell P e).map fun k => List.replicate n k else none
  | _ => none

def kdOf : TypeDesc → Option Nat
  | .bool => some 0
  | .pointer _ => some 1
  | .slice _ => some 2
  | .func _ _ _ => some 3
  | _ => none

def trBin (P : Program) (op : BinOp) (t : TypeId) (x y : Operand) : Option AOp :=
  match P.underlying t with
  | some (.int _) | some .string => match opd x, opd y with
    | some x, some y => some (.bin op x y)
    | _, _ => none
  | some (.struct _) | some (.array _ _) => match op, flatOf P t, opd x, opd y with
    | .eql, some n, some x, some y => some (.eqCells false n x y)
    | .neq, some n, some x, some y => some (.eqCells true n x y)
    | _, _, _, _ => none
  | some d => match kdOf d, op, opd x, opd y with
    | some kd, .eql, some x, some y => some (.eqv kd false x y)
    | some kd, .neq, some x, some y => some (.eqv kd true x y)
    | _, _, _, _ => none
  | none => none

def trCall (P : Program) (c : Call) : Option AOp :=
  match c.callee with
  | .value (.func f) => if enters P f then (opds c.args.toList).map (.call f ·) else none
  | .value (.tmp t) => (opds c.args.toList).map (.callv (.tmp t) ·)
  | .builtin .append => match c.args.toList, c.argTypes.toList with
    | [s, x], [st, xt] => match P.underlying st, P.underlying xt, opd s, opd x with
      | some (.slice e), some (.slice _), some s, some x | some (.slice e), some .string, some s, some x => match szOf P e, byOf P e, zeroOf P e with
        | some es, some bytes, some z => if z.length = es then some (.append es bytes s x) else none
        | _, _, _ => none
      | some (.slice e), some (.int _), some s, some x => match szOf P e, byOf P e, zeroOf P e with
        | some es, some bytes, some z => if z.length = es ∧ 0 < es then some (.appendZ es bytes z s x) else none
        | _, _, _ => none
      | _, _, _, _ => none
    | _, _ => none
  | .builtin .copy => match c.args.toList, c.argTypes.toList with
    | [d, s], dt :: _ => match P.underlying dt, opd d, opd s with
      | some (.slice e), some d, some s => match szOf P e with
        | some es => some (.copy es d s)
        | none => none
      | _, _, _ => none
    | _, _ => none
  | .builtin .len => match c.args.toList, c.argTypes.toList with
    | [x], t :: _ => match P.underlying t, opd x with
      | some .string, some x => some (.lenS x)
      | some (.slice _), some x => some (.len x)
      | some (.array n _), _ => some (.lenC n)
      | some (.pointer arr), _ => match P.underlying arr with
        | some (.array n _) => some (.lenC n)
        | _ => none
      | _, _ => none
    | _, _ => none
  | .builtin .cap => match c.args.toList, c.argTypes.toList with
    | [x], [t] => match P.underlying t, opd x with
      | some (.slice _), some x => some (.capN x)
      | _, _ => none
    | _, _ => none
  | .builtin .max => match c.args.toList with
    | [x, y] => match opd x, opd y with
      | some x, some y => some (.most x y)
      | _, _ => none
    | _ => none
  | .builtin .min => match c.args.toList with
    | [x, y] => match opd x, opd y with
      | some x, some y => some (.least x y)
      | _, _ => none
    | _ => none
  | _ => none

def trOp (P : Program) (o : Oper) : Option AOp :=
  match o.op with
  | .move x | .assign x => (opd x).map .move
  | .pick c a b => match opd c, opd a, opd b with
    | some c, some a, some b => some (.pick c a b)
    | _, _, _ => none
  | .alloc t => if isBld P t = true then (match zeroOf P t with
      | some [.pointer none, .slice none 0 0] => some .newB
      | _ => none)
    else match esOf P t, zeroOf P t with
    | some es, some z => some (.alloc es z)
    | _, _ => none
  | .box t x => match esOf P t, opd x with
    | some es, some x => some (.box es x)
    | _, _ => none
  | .build t parts => match P.underlying t, zeroOf P t with
    | some (.struct fs), some z => if fs.toList.all fun f => (szOf P f.type).isSome then (partsOf (placesOf P fs) parts.toList).map (.build z ·) else none
    | some (.array _ e), some z => match szOf P e with
      | some n => (partsOf (fun i => some (i * n, n)) parts.toList).map (.build z ·)
      | none => none
    | _, _ => none
  | .buildSlice t len parts => match P.underlying t with
    | some (.slice e) => match szOf P e, zeroOf P e with
      | some n, some z => if len * n ≤ 16777216 ∧ z.length = n ∧ 0 < n then (partsOf (fun i => some (i * n, n)) parts.toList).map (.buildSlice n len z ·) else none
      | _, _ => none
    | _ => none
  | .load _ (.global _) => some .stuck
  | .load t x => match aggOf P t, opd x with
    | some true, some x => (szOf P t).map (.loadN · x)
    | some false, some x => some (.load x)
    | _, _ => none
  | .store t x y => match szOf P t, opd x, opd y with
    | some n, some x, some y => some (.store n x y)
    | _, _, _ => none
  | .nilCheck x => (opd x).map .nilCheck
  | .binOp op t x y _ => trBin P op t x y
  | .unOp op _ x => (opd x).map (.un op ·)
  | .convert s d x => match P.underlying s, P.underlying d, opd x with
    | some (.int _), some (.int k), some x => some (.conv k x)
    | some (.int _), some .string, some x => some (.encR x)
    | some (.slice t), some .string, some x => match P.underlying t with
      | some (.int .u8) => some (.strOf x)
      | some (.int .i32) => some (.strOfR x)
      | _ => none
    | some .string, some (.slice t), some x => match P.underlying t with
      | some (.int .i32) => some (.runesOf x)
      | _ => none
    | some (.slice _), some (.slice t), some x => match P.underlying t with
      | some (.int .u8) => if s = d then some (.mark x) else none
      | _ => none
    | _, _, _ => none
  | .range t x => match P.underlying t, opd x with
    | some .string, some x => some (.range x)
    | _, _ => none
  | .next x true => (opd x).map .next
  | .makeFunc (.func f) first captured => match opds first.toList, opds captured.toList with
    | some xs, some ys => some (.mkFunc f xs ys)
    | _, _ => none
  | .makeSlice t l c => match P.underlying t with
    | some (.slice e) => match szOf P e, byOf P e, zeroOf P e, opd l, opd c with
      | some n, some by_, some z, some l, some c => if z.length = n ∧ 0 < n then some (.makeSlice n by_ z l c) else none
      | _, _, _, _, _ => none
    | _ => none
  | .slice t x lo hi none => match P.underlying t, opd x, opdO lo, opdO hi with
    | some (.slice e), some x, some lo, some hi => (szOf P e).map (.slice · x lo hi)
    | some .string, some x, some lo, some hi => some (.sliceStr x lo hi)
    | some (.array n e), some x, some lo, some hi => (szOf P e).map (.sliceArr · n x lo hi)
    | _, _, _, _ => none
  | .fieldAddr s x i => match P.underlying s, opd x with
    | some (.struct fs), some x => match fs[i]? with
      | some f => match szOf P f.type with
        | some n => if n = 0 then none else some (.off f.offset x)
        | none => none
      | none => none
    | _, _ => none
  | .field t x i => match P.underlying t, opd x with
    | some (.struct fs), some x => match fs[i]? with
      | some f => match szOf P f.type, aggOf P f.type with
        | some n, some b => some (.fieldV f.offset n b x)
        | _, _ => none
      | none => none
    | _, _ => none
  | .indexAddr t x i => match P.underlying t, opd x, opd i with
    | some (.slice e), some x, some i => (szOf P e).map (.idx · x i)
    | some (.array n e), some x, some i => (szOf P e).map (.idxA n · x i)
    | _, _, _ => none
  | .index t x i => match P.underlying t, opd x, opd i with
    | some (.array n e), some x, some i => match szOf P e, aggOf P e with
      | some s, some b => some (.indexV n s b x i)
      | _, _ => none
    | some .string, some x, some i => some (.indexS x i)
    | _, _, _ => none
  | .slice t x none (some hi) (some mx) => match P.underlying t, opd x, opd hi, opd mx with
    | some (.slice d), some x, some hi, some mx => if (szOf P d).isSome then some (.sliceX x hi mx) else none
    | _, _, _, _ => none
  | .extract x i => (opd x).map (.extract · i)
  | .call c => trCall P c
  | .makeInterface _ _ | .panic _ => some .stuck
  | _ => none

section
variable {P : Program} {o : Oper} {a : Act} {w : World} {B : Base P} {N : Nat} {μ : Mu} {e : Env} {σ σ' : Hp} {v : Value}

theorem ok_move {x : Operand} (ho : o.op = .move x ∨ o.op = .assign x) (hx : okOpd x = true) (hr : (AOp.move x).run e σ = some (v, σ')) (he : EnvR μ N e a.tmps) (hR : R B μ σ w) : Done P o a w B μ v σ' := by
  simp only [AOp.run, Option.some.injEq, Prod.mk.injEq] at hr
  obtain ⟨rfl, rfl⟩ := hr
  rcases ho with ho | ho <;> exact .same hR (by simp [execOp, ho]) (he.ev hx)

theorem VR.bool_inv {b : Bool} {v' : Value} (h : VR μ (.bool b) v') : v' = .bool b := by cases h; rfl
theorem VR.int_inv {k : IntKind} {n : Int} {v' : Value} (h : VR μ (.int k n) v') : v' = .int k n := by cases h; rfl
theorem VR.string_inv {s : ByteArray} {v' : Value} (h : VR μ (.string s) v') : v' = .string s := by cases h; rfl

theorem ok_pick {c x y : Operand} (ho : o.op = .pick c x y) (hc : okOpd c = true) (hx : okOpd x = true) (hy : okOpd y = true) (hr : (AOp.pick c x y).run e σ = some (v, σ')) (he : EnvR μ N e a.tmps) (hR : R B μ σ w) : Done P o a w B μ v σ' := by
  have h := he.ev hc
  simp only [AOp.run] at hr
  split at hr
  · rename_i hb
    rw [hb] at h
    have hb' := h.bool_inv
    simp only [Option.some.injEq, Prod.mk.injEq] at hr
    obtain ⟨rfl, rfl⟩ := hr
    exact .same hR (by simp [execOp, ho, hb', asBool]) (he.ev hx)
  · rename_i hb
    rw [hb] at h
    have hb' := h.bool_inv
    simp only [Option.some.injEq, Prod.mk.injEq] at hr
    obtain ⟨rfl, rfl⟩ := hr
    exact .same hR (by simp [execOp, ho, hb', asBool]) (he.ev hy)
  · cases hr

/-- A new block whose cells are known. -/
theorem Done.new (hR : R B μ σ w) (cur : Array Value) (t : TypeId) (cells : List Value) (es : Nat) (v' : Value) (hc : F2 (VR μ) cells cur.toList)
    (hrun : (execOp a.eval o).run P w = .ok (.value v') (w.alloc (.cells cur t)))
    (hv : (μ.add σ.n ⟨w.heap.size, 0, cur.size, es, t, none⟩).at σ.n ⟨w.heap.size, 0, cur.size, es, t, none⟩ → VR (μ.add σ.n ⟨w.heap.size, 0, cur.size, es, t, none⟩) v v') : Done P o a w B μ v (σ.add ⟨cells, true, es⟩) := by
  have hlen : cells.length = cur.size := by simpa using hc.length
  obtain ⟨h1, h2⟩ := hR.add cur t cells es (by omega) (by rw [hlen, ← Array.length_toList, List.take_length]; exact hc)
  exact ⟨_, _, _, v', hrun, .inl rfl, h2, h1, hv ⟨by simp [Mu.add], rfl⟩, (Below.refl _ _).alloc hR.base _⟩

theorem ok_alloc {t : TypeId} {es : Nat} {z : List Value} (ho : o.op = .alloc t) (hz : zeroOf P t = some z) (hr : (AOp.alloc es z).run e σ = some (v, σ')) (hR : R B μ σ w) : Done P o a w B μ v σ' := by
  obtain ⟨z', h1, h2, h3⟩ := zeroOf_some hz
  simp only [AOp.run, Option.some.injEq, Prod.mk.injEq] at hr
  obtain ⟨rfl, rfl⟩ := hr
  refine .new hR z'.cells t z es (.pointer (some ⟨w.heap.size, 0, none⟩)) ?_ ?_ (fun h => .ptr (o := 0) h)
  · have : z = z'.cells.toList := h2.symm
    rw [this]
    rw [this] at h3
    exact VR.plainCells h3
  · simp [execOp, ho, Instr.alloc, h1, newVar, newRow]

theorem ok_box {t : TypeId} {es : Nat} {x : Operand} (ho : o.op = .box t x) (hx : okOpd x = true) (hr : (AOp.box es x).run e σ = some (v, σ')) (he : EnvR μ N e a.tmps) (hR : R B μ σ w) : Done P o a w B μ v σ' := by
  simp only [AOp.run] at hr
  split at hr
  · simp only [Option.some.injEq, Prod.mk.injEq] at hr
    obtain ⟨rfl, rfl⟩ := hr
    refine .new hR (a.eval x).cells t _ es (.pointer (some ⟨w.heap.size, 0, none⟩)) (he.ev hx).cells ?_ (fun h => .ptr (o := 0) h)
    simp [execOp, ho, Instr.box, newVar, newRow]
  · cases hr

/-! ### Loads and stores -/
theorem VR.ptr_inv {b n : Nat} {v' : Value} (h : VR μ (.pointer (some ⟨b, n, none⟩)) v') : ∃ g, μ.at b g ∧ v' = .pointer (some ⟨g.c, g.o + n, none⟩) := by
  cases h with
  | ptr h => exact ⟨_, h, rfl⟩

theorem ok_load {t : TypeId} {x : Operand} (ho : o.op = .load t x) (ht : aggOf P t = some false) (hx : okOpd x = true) (hr : (AOp.load x).run e σ = some (v, σ')) (he : EnvR μ N e a.tmps) (hR : R B μ σ w) : Done P o a w B μ v σ' := by
  have h := he.ev hx
  simp only [AOp.run] at hr
  split at hr
  · rename_i b n hb
    rw [hb] at h
    obtain ⟨g, hg, hv⟩ := h.ptr_inv
    split at hr
    · rename_i blk hblk
      obtain ⟨u, hu, hr⟩ := Option.map_eq_some_iff.1 hr
      simp only [Prod.mk.injEq] at hr
      obtain ⟨rfl, rfl⟩ := hr
      obtain ⟨u', h1, h2⟩ := (hR.get hblk hg.1).cell hg.2 n u hu
      refine .same hR ?_ h2
      simp [execOp, ho, Instr.loadAt, Instr.sureAddr, hv, loadVar, run_agg ht, h1]
    · cases hr
  · cases hr

theorem ok_loadN {t : TypeId} {x : Operand} {n : Nat} (ho : o.op = .load t x) (ht : aggOf P t = some true) (hn : szOf P t = some n) (hx : okOpd x = true) (hr : (AOp.loadN n x).run e σ = some (v, σ')) (he : EnvR μ N e a.tmps) (hR : R B μ σ w) : Done P o a w B μ v σ' := by
  have h := he.ev hx
  simp only [AOp.run] at hr
  split at hr
  · rename_i b n hb
    rw [hb] at h
    obtain ⟨g, hg, hv⟩ := h.ptr_inv
    split at hr
    · rename_i blk hblk
      obtain ⟨cs, hcs, hr⟩ := Option.map_eq_some_iff.1 hr
      simp only [Prod.mk.injEq] at hr
      obtain ⟨rfl, rfl⟩ := hr
      obtain ⟨cs', h1, h2⟩ := hR.reads hblk hg hcs
      refine .same hR ?_ (.agg h2)
      simp [execOp, ho, Instr.loadAt, Instr.sureAddr, hv, loadVar, run_agg ht, run_sz hn, h1 P w rfl]
    · cases hr
  · cases hr

theorem ok_store {t : TypeId} {x y : Operand} {n : Nat} (ho : o.op = .store t x y) (hn : szOf P t = some n) (hx : okOpd x = true) (hy : okOpd y = true) (hr : (AOp.store n x y).run e σ = some (v, σ')) (he : EnvR μ N e a.tmps) (hR : R B μ σ w) : Done P o a w B μ v σ' := by
  have h := he.ev hx
  have hcs := (he.ev hy).cells
  simp only [AOp.run] at hr
  split at hr
  · rename_i b off hb
    rw [hb] at h
    obtain ⟨g, hg, hv⟩ := h.ptr_inv
    split at hr
    · rename_i hsz
      split at hr
      · rename_i blk hblk
        unfold writeN at hr
        split at hr
        · rename_i blk' hw
          split at hw
          · rename_i hc
            obtain ⟨hown, hle, hall⟩ := hc
            injection hw with hw
            subst hw
            simp only [Option.some.injEq, Prod.mk.injEq] at hr
            obtain ⟨rfl, rfl⟩ := hr
            obtain ⟨w', h1, h2, h3⟩ := R.writes _ _ hcs (fun u hu => List.all_eq_true.1 hall u hu) σ w b off 0 blk g hR hblk hown hg hle
            refine ⟨.skip, w', μ, undef, ?_, .inr ⟨rfl, rfl⟩, μ.le_refl, h2, VR.undef μ, h3⟩
            have hs : (a.eval y).cells.size = n := by rw [← hsz, hcs.length]; simp
            simp [execOp, ho, Instr.storeAt, Instr.sureAddr, hv, storeVar, run_sz hn, hs, h1]
          · cases hw
        · cases hr
      · cases hr
    · cases hr
  · cases hr

theorem ok_nilCheck {x : Operand} (ho : o.op = .nilCheck x) (hx : okOpd x = true) (hr : (AOp.nilCheck x).run e σ = some (v, σ')) (he : EnvR μ N e a.tmps) (hR : R B μ σ w) : Done P o a w B μ v σ' := by
  have h := he.ev hx
  simp only [AOp.run] at hr
  split at hr
  · rename_i b hb
    simp only [Option.some.injEq, Prod.mk.injEq] at hr
    obtain ⟨rfl, rfl⟩ := hr
    rw [hb] at h
    generalize hv : a.eval x = u at h
    cases h with
    | ptr h' => exact .same hR (by simp [execOp, ho, hv]) (.ptr h')
  · rename_i f p q hb
    simp only [Option.some.injEq, Prod.mk.injEq] at hr
    obtain ⟨rfl, rfl⟩ := hr
    rw [hb] at h
    generalize hv : a.eval x = u at h
    cases h with
    | func h1 h2 => exact .same hR (by simp [execOp, ho, hv]) (.func h1 h2)
  · cases hr
end
end Go.Ab
