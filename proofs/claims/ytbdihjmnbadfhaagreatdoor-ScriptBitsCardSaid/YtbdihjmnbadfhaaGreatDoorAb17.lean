/- The abstract machine, step by step: rules by which 'simp only' goes through code. -/
import Derived.Test.YtbdihjmnbadfhaaGreatDoorAb16
namespace Go.Ab

def SeqK (T : Specs) (b : AC) (Q : AExit → Env → Hp → Prop) : AExit → Env → Hp → Prop := fun x e σ => match x with
  | .normal => wpA T b Q e σ
  | x => Q x e σ
def BlkK (id : Nat) (Q : AExit → Env → Hp → Prop) : AExit → Env → Hp → Prop := fun x e σ => match x with
  | .exit i => if i = id then Q .normal e σ else Q (.exit i) e σ
  | x => Q x e σ
def CondW (T : Specs) (v : Value) (a b : AC) (Q : AExit → Env → Hp → Prop) (e : Env) (σ : Hp) : Prop := match v with
  | .bool true => wpA T a Q e σ
  | .bool false => wpA T b Q e σ
  | _ => False
def OpsK (T : Specs) (Q : Env → Hp → Prop) (r : List AOper) (d : Option Nat) (e : Env) : Value → Hp → Prop := fun v σ => wpOps T Q r (e.putO d v) σ
def ItemK (T : Specs) (Q : Env → Hp → Prop) (r : List SItem) (d : Option Nat) (e : Env) (chk : List (Nat × (Hp → Prop))) (is : List Nat) : Value → Hp → Prop := fun v σ => recheck is σ chk ∧ wpI T Q r chk (e.putO d v) σ
def StillK (T : Specs) (Q : Env → Hp → Prop) (r : List SItem) (it : SItem) (e : Env) (chk : List (Nat × (Hp → Prop))) : Value → Hp → Prop := fun v σ =>
  wpI T Q r (if it.keep then (it.idx, fun σ' => it.o.op.run e σ' = some (v, σ')) :: chk else chk) (e.putO it.o.dst v) σ
def EndK (rs : List ARes) (K : Value → Hp → Prop) : AExit → Env → Hp → Prop := fun x e σ => match x with
  | .exit _ => False
  | _ => match resL e σ rs with
    | some vs => K (tupleOf vs) σ
    | none => False
def RetK (r : Option (List Value)) (K : Value → Hp → Prop) (σ : Hp) : Prop := match r with
  | some vs => K (tupleOf vs) σ
  | none => False
def optK {α : Type} (r : Option α) (k : α → Prop) : Prop := match r with
  | some v => k v
  | none => False
def valK (r : Option Value) (k : Value → Hp → Prop) (σ : Hp) : Prop := match r with
  | some v => k v σ
  | none => False
def bothK (r : Option (Value × Hp)) (k : Value → Hp → Prop) : Prop := match r with
  | some (v, σ) => k v σ
  | none => False

section
variable {T : Specs} {Q : AExit → Env → Hp → Prop} {q : Env → Hp → Prop} {e : Env} {σ σ' : Hp} {a b : AC} {k : Value → Hp → Prop} {v : Value} {K : Value → Hp → Prop}

theorem wpF_eq {f : AFn} {args : List Value} : wpF T f args σ K = (args.length ≤ f.ntmps ∧ wpA T f.body (EndK f.results K) (Env.of args) σ) := rfl
theorem EndK_n {rs : List ARes} : EndK rs K .normal e σ = RetK (resL e σ rs) K σ := rfl
theorem EndK_r {rs : List ARes} : EndK rs K .ret e σ = RetK (resL e σ rs) K σ := rfl
theorem RetK_some {vs : List Value} : RetK (some vs) K σ = K (tupleOf vs) σ := rfl
theorem SeqK_n : SeqK T b Q .normal e σ = wpA T b Q e σ := rfl
theorem SeqK_r : SeqK T b Q .ret e σ = Q .ret e σ := rfl
theorem SeqK_x {i : Nat} : SeqK T b Q (.exit i) e σ = Q (.exit i) e σ := rfl
theorem BlkK_n {i : Nat} : BlkK i Q .normal e σ = Q .normal e σ := rfl
theorem BlkK_r {i : Nat} : BlkK i Q .ret e σ = Q .ret e σ := rfl
theorem BlkK_x {i j : Nat} : BlkK i Q (.exit j) e σ = if j = i then Q .normal e σ else Q (.exit j) e σ := rfl
theorem CondW_t : CondW T (.bool true) a b Q e σ = wpA T a Q e σ := rfl
theorem CondW_f : CondW T (.bool false) a b Q e σ = wpA T b Q e σ := rfl
theorem CondW_d {p : Prop} [Decidable p] (ht : p → wpA T a Q e σ) (hf : ¬p → wpA T b Q e σ) : CondW T (.bool (decide p)) a b Q e σ := by
  by_cases h : p
  · rw [decide_eq_true h]; exact ht h
  · rw [decide_eq_false h]; exact hf h
theorem CondW_b {p : Bool} (ht : p = true → wpA T a Q e σ) (hf : p = false → wpA T b Q e σ) : CondW T (.bool p) a b Q e σ := by
  cases p
  · exact hf rfl
  · exact ht rfl
theorem wA_skip : wpA T .skip Q e σ = Q .normal e σ := rfl
theorem wA_ret : wpA T .ret Q e σ = Q .ret e σ := rfl
theorem wA_exit {i : Nat} : wpA T (.exit i) Q e σ = Q (.exit i) e σ := rfl
theorem wO_nil : wpOps T q [] e σ = q e σ := rfl
theorem wO_cons {d : Option Nat} {op : AOp} {r : List AOper} : wpOps T q (⟨d, op, none⟩ :: r) e σ = runOp T op e σ (OpsK T q r d e) := rfl
def wantV (v : Value) (b : Bool) : Bool := match v with
  | .bool c => c == b
  | _ => false
def GuardO (T : Specs) (v : Value) (b : Bool) (q : Env → Hp → Prop) (d : Option Nat) (op : AOp) (r : List AOper) (e : Env) (σ : Hp) : Prop :=
  if wantV v b = true then runOp T op e σ (OpsK T q r d e) else wpOps T q r (e.putO d undef) σ
theorem wO_guard {d : Option Nat} {op : AOp} {t : Nat} {c : Bool} {r : List AOper} : wpOps T q (⟨d, op, some (t, c)⟩ :: r) e σ = GuardO T (e t) c q d op r e σ := rfl
theorem GuardO_tt {d : Option Nat} {op : AOp} {r : List AOper} : GuardO T (.bool true) true q d op r e σ = runOp T op e σ (OpsK T q r d e) := rfl
theorem GuardO_ff {d : Option Nat} {op : AOp} {r : List AOper} : GuardO T (.bool false) false q d op r e σ = runOp T op e σ (OpsK T q r d e) := rfl
theorem GuardO_tf {d : Option Nat} {op : AOp} {r : List AOper} : GuardO T (.bool true) false q d op r e σ = wpOps T q r (e.putO d undef) σ := rfl
theorem GuardO_ft {d : Option Nat} {op : AOp} {r : List AOper} : GuardO T (.bool false) true q d op r e σ = wpOps T q r (e.putO d undef) σ := rfl
theorem OpsK_eq {r : List AOper} {d : Option Nat} : OpsK T q r d e v σ = wpOps T q r (e.putO d v) σ := rfl

theorem wI_nil {chk : List (Nat × (Hp → Prop))} : wpI T q [] chk e σ = q e σ := rfl
theorem wI_move {i : Nat} {d : Option Nat} {op : AOp} {kp : Bool} {is : List Nat} {r : List SItem} {chk : List (Nat × (Hp → Prop))} : wpI T q (⟨i, ⟨d, op, none⟩, true, kp, is⟩ :: r) chk e σ = runOp T op e σ (ItemK T q r d e chk is) := rfl
theorem ItemK_eq {d : Option Nat} {is : List Nat} {r : List SItem} {chk : List (Nat × (Hp → Prop))} : ItemK T q r d e chk is v σ = (recheck is σ chk ∧ wpI T q r chk (e.putO d v) σ) := rfl
theorem StillK_eq {it : SItem} {r : List SItem} {chk : List (Nat × (Hp → Prop))} : StillK T q r it e chk v σ = wpI T q r (if it.keep then (it.idx, fun σ' => it.o.op.run e σ' = some (v, σ')) :: chk else chk) (e.putO it.o.dst v) σ := rfl
/-- What only looks, goes the same way as elsewhere. -/
theorem runOp_still {op : AOp} (hs : op.still = true) {k : Value → Prop} : (match op.run e σ with
    | some (v, _) => k v
    | none => False) = runOp T op e σ fun v _ => k v := by
  cases op <;> simp [AOp.still] at hs <;> rfl
theorem wI_still {i : Nat} {d : Option Nat} {op : AOp} {kp : Bool} {is : List Nat} {r : List SItem} {chk : List (Nat × (Hp → Prop))} (hs : op.still = true) :
    wpI T q (⟨i, ⟨d, op, none⟩, false, kp, is⟩ :: r) chk e σ = runOp T op e σ (StillK T q r ⟨i, ⟨d, op, none⟩, false, kp, is⟩ e chk) := by
  have h1 : wpI T q (⟨i, ⟨d, op, none⟩, false, kp, is⟩ :: r) chk e σ = (match op.run e σ with
    | some (v, _) => StillK T q r ⟨i, ⟨d, op, none⟩, false, kp, is⟩ e chk v σ
    | none => False) := rfl
  rw [h1]
  have h2 : ∀ v σ', op.run e σ = some (v, σ') → σ' = σ := fun v σ' h => still_same hs h
  have h3 : ∀ k : Value → Hp → Prop, runOp T op e σ k = (match op.run e σ with
    | some (v, σ') => k v σ'
    | none => False) := by
    intro k
    cases op <;> simp [AOp.still] at hs <;> rfl
  rw [h3]
  cases hr : op.run e σ with
  | none => rfl
  | some p =>
    obtain ⟨v, σ'⟩ := p
    rw [h2 v σ' hr]
def GuardI (T : Specs) (v : Value) (b : Bool) (q : Env → Hp → Prop) (i : Nat) (d : Option Nat) (op : AOp) (m kp : Bool) (is : List Nat) (r : List SItem) (chk : List (Nat × (Hp → Prop))) (e : Env) (σ : Hp) : Prop :=
  if wantV v b = true then wpI T q (⟨i, ⟨d, op, none⟩, m, kp, is⟩ :: r) chk e σ else wpI T q r chk (e.putO d undef) σ
theorem wI_guard {i t : Nat} {c : Bool} {d : Option Nat} {op : AOp} {m kp : Bool} {is : List Nat} {r : List SItem} {chk : List (Nat × (Hp → Prop))} :
    wpI T q (⟨i, ⟨d, op, some (t, c)⟩, m, kp, is⟩ :: r) chk e σ = GuardI T (e t) c q i d op m kp is r chk e σ := rfl
theorem GuardI_tt {i : Nat} {d : Option Nat} {op : AOp} {m kp : Bool} {is : List Nat} {r : List SItem} {chk : List (Nat × (Hp → Prop))} : GuardI T (.bool true) true q i d op m kp is r chk e σ = wpI T q (⟨i, ⟨d, op, none⟩, m, kp, is⟩ :: r) chk e σ := rfl
theorem GuardI_ff {i : Nat} {d : Option Nat} {op : AOp} {m kp : Bool} {is : List Nat} {r : List SItem} {chk : List (Nat × (Hp → Prop))} : GuardI T (.bool false) false q i d op m kp is r chk e σ = wpI T q (⟨i, ⟨d, op, none⟩, m, kp, is⟩ :: r) chk e σ := rfl
theorem GuardI_tf {i : Nat} {d : Option Nat} {op : AOp} {m kp : Bool} {is : List Nat} {r : List SItem} {chk : List (Nat × (Hp → Prop))} : GuardI T (.bool true) false q i d op m kp is r chk e σ = wpI T q r chk (e.putO d undef) σ := rfl
theorem GuardI_ft {i : Nat} {d : Option Nat} {op : AOp} {m kp : Bool} {is : List Nat} {r : List SItem} {chk : List (Nat × (Hp → Prop))} : GuardI T (.bool false) true q i d op m kp is r chk e σ = wpI T q r chk (e.putO d undef) σ := rfl

/-! ### Slots -/
theorem ev_tmp {t : Nat} : e.ev (.tmp t) = e t := rfl
theorem ev_const : e.ev (.const v) = v := rfl
theorem ev_func {f : FuncId} : e.ev (.func f) = .func (.func f) #[] #[] := rfl
theorem putO_some {d : Nat} : e.putO (some d) v = e.put d v := rfl
theorem putO_none : e.putO none v = e := rfl
theorem put_same {d : Nat} : (e.put d v) d = v := if_pos rfl
theorem put_ne {d t : Nat} (h : t ≠ d) : (e.put d v) t = e t := if_neg h
theorem put_eq {d t : Nat} : (e.put d v) t = if t = d then v else e t := rfl

/-! ### Operations -/
theorem valK_some : valK (some v) k σ = k v σ := rfl
theorem bothK_some : bothK (some (v, σ')) k = k v σ' := rfl
theorem valK_ite {p : Prop} [Decidable p] {x y : Option Value} : valK (if p then x else y) k σ = if p then valK x k σ else valK y k σ := by split <;> rfl
theorem r_move {x : Operand} : runOp T (.move x) e σ k = k (e.ev x) σ := rfl
def pickV (c a b : Value) : Option Value := match c with
  | .bool true => some a
  | .bool false => some b
  | _ => none
theorem pickV_t {a b : Value} : pickV (.bool true) a b = some a := rfl
theorem pickV_f {a b : Value} : pickV (.bool false) a b = some b := rfl
theorem pickV_b {p : Bool} {a b : Value} : pickV (.bool p) a b = some (if p then a else b) := by cases p <;> rfl
theorem r_pick {c x y : Operand} : runOp T (.pick c x y) e σ k = valK (pickV (e.ev c) (e.ev x) (e.ev y)) k σ := by
  simp only [runOp, AOp.run]
  cases e.ev c <;> first | rfl | (rename_i b; cases b <;> rfl)
theorem r_alloc {es : Nat} {z : List Value} : runOp T (.alloc es z) e σ k = k (.pointer (some ⟨σ.n, 0, none⟩)) (σ.add ⟨z, true, es⟩) := rfl
theorem r_box {es : Nat} {x : Operand} : runOp T (.box es x) e σ k = if (cellsOf (e.ev x)).all one = true then k (.pointer (some ⟨σ.n, 0, none⟩)) (σ.add ⟨cellsOf (e.ev x), true, es⟩) else False := by
  show (match (if (cellsOf (e.ev x)).all one then some (Value.pointer (some ⟨σ.n, 0, none⟩), σ.add ⟨cellsOf (e.ev x), true, es⟩) else none) with
    | some (v, σ') => k v σ'
    | none => False) = _
  by_cases h : (cellsOf (e.ev x)).all one = true
  · rw [if_pos h, if_pos h]
  · rw [if_neg h, if_neg h]
def evParts (e : Env) : List (Nat × Nat × Operand) → List (Nat × Nat × Value)
  | [] => []
  | (a, b, x) :: r => (a, b, e.ev x) :: evParts e r
theorem evParts_eq {l : List (Nat × Nat × Operand)} : (l.map fun (o, s, x) => (o, s, e.ev x)) = evParts e l := by
  induction l with
  | nil => rfl
  | cons p l ih => obtain ⟨a, b, x⟩ := p; simp only [List.map_cons, evParts, ih]
theorem r_build {z : List Value} {ps : List (Nat × Nat × Operand)} : runOp T (.build z ps) e σ k = valK ((fillL z (evParts e ps)).map fun cs => .agg cs.toArray) k σ := by
  simp only [runOp, AOp.run, evParts_eq]
  cases fillL z (evParts e ps) <;> rfl
def newSlice (es ln : Nat) (σ : Hp) (k : Value → Hp → Prop) : Option (List Value) → Prop
  | some cs => cs.all one = true ∧ k (.slice (some ⟨σ.n, 0, none⟩) ln ln) (σ.add ⟨cs, true, es⟩)
  | none => False
theorem r_buildSlice {es ln : Nat} {z : List Value} {ps : List (Nat × Nat × Operand)} : runOp T (.buildSlice es ln z ps) e σ k = newSlice es ln σ k (fillL (times z ln) (evParts e ps)) := by
  simp only [runOp, AOp.run, evParts_eq]
  cases fillL (times z ln) (evParts e ps) with
  | none => rfl
  | some cs =>
    simp only [newSlice]
    by_cases h : cs.all one = true
    · simp only [h, if_true, true_and]
    · simp only [h, Bool.false_eq_true, if_false, false_and]
/-- One cell of the memory. -/
def Hp.load (σ : Hp) : Value → Option Value
  | .pointer (some ⟨b, o, none⟩) => match σ.m b with
    | some x => x.cells[o]?
    | none => none
  | _ => none
def Hp.loadN (σ : Hp) (n : Nat) : Value → Option Value
  | .pointer (some ⟨b, o, none⟩) => match σ.m b with
    | some x => (readN x o n).map fun cs => .agg cs.toArray
    | none => none
  | _ => none
theorem run_load {x : Operand} : (AOp.load x).run e σ = (σ.load (e.ev x)).map fun v => (v, σ) := by
  simp only [AOp.run]
  generalize e.ev x = v
  cases v <;> try rfl
  rename_i p
  rcases p with _ | ⟨b, o, sp⟩
  · rfl
  · cases sp with
    | some s => rfl
    | none =>
      simp only [Hp.load]
      cases σ.m b <;> rfl
theorem run_loadN {x : Operand} {n : Nat} : (AOp.loadN n x).run e σ = (σ.loadN n (e.ev x)).map fun v => (v, σ) := by
  simp only [AOp.run]
  generalize e.ev x = v
  cases v <;> try rfl
  rename_i p
  rcases p with _ | ⟨b, o, sp⟩
  · rfl
  · cases sp with
    | some s => rfl
    | none =>
      simp only [Hp.loadN]
      cases σ.m b with
      | none => rfl
      | some blk =>
        simp only
        cases readN blk o n <;> rfl
theorem valK_run {r : Option Value} : (match r.map fun v => (v, σ) with
    | some (v, σ') => k v σ'
    | none => False) = valK r k σ := by cases r <;> rfl
theorem r_load {x : Operand} : runOp T (.load x) e σ k = valK (σ.load (e.ev x)) k σ := by
  rw [← valK_run, ← run_load]; rfl
theorem r_loadN {n : Nat} {x : Operand} : runOp T (.loadN n x) e σ k = valK (σ.loadN n (e.ev x)) k σ := by
  rw [← valK_run, ← run_loadN]; rfl
theorem load_eq {b o : Nat} : σ.load (.pointer (some ⟨b, o, none⟩)) = match σ.m b with
  | some x => x.cells[o]?
  | none => none := rfl
def Hp.store (σ : Hp) (n : Nat) (a x : Value) : Option Hp := match a with
  | .pointer (some ⟨b, o, none⟩) => if (cellsOf x).length = n then (match σ.m b with
    | some blk => (writeN blk o (cellsOf x)).map fun y => σ.set b (some y)
    | none => none) else none
  | _ => none
theorem run_store {n : Nat} {x y : Operand} : (AOp.store n x y).run e σ = (σ.store n (e.ev x) (e.ev y)).map fun σ' => (undef, σ') := by
  simp only [AOp.run]
  generalize e.ev x = v
  cases v <;> try rfl
  rename_i p
  rcases p with _ | ⟨b, o, sp⟩
  · rfl
  · cases sp with
    | some s => rfl
    | none =>
      simp only [Hp.store]
      by_cases h : (cellsOf (e.ev y)).length = n
      · simp only [h, if_true]
        cases σ.m b with
        | none => rfl
        | some blk =>
          simp only
          cases writeN blk o (cellsOf (e.ev y)) <;> rfl
      · simp only [h, if_false]; rfl
theorem optK_run {r : Option Hp} : (match r.map fun σ' => (undef, σ') with
    | some (v, σ') => k v σ'
    | none => False) = optK r (k undef) := by cases r <;> rfl
theorem r_store {n : Nat} {x y : Operand} : runOp T (.store n x y) e σ k = optK (σ.store n (e.ev x) (e.ev y)) (k undef) := by
  rw [← optK_run, ← run_store]; rfl
theorem r_bin {op : BinOp} {x y : Operand} : runOp T (.bin op x y) e σ k = valK (bin2 op (e.ev x) (e.ev y)) k σ := by
  simp only [runOp, AOp.run]
  cases bin2 op (e.ev x) (e.ev y) <;> rfl
theorem r_eqv {kd : Nat} {neg : Bool} {x y : Operand} : runOp T (.eqv kd neg x y) e σ k = valK ((eqv2 kd (e.ev x) (e.ev y)).map fun b => .bool (b != neg)) k σ := by
  simp only [runOp, AOp.run]
  cases eqv2 kd (e.ev x) (e.ev y) <;> rfl
theorem r_un {op : UnOp} {x : Operand} : runOp T (.un op x) e σ k = valK (un1 op (e.ev x)) k σ := by
  simp only [runOp, AOp.run]
  cases un1 op (e.ev x) <;> rfl
theorem r_conv {kk : IntKind} {x : Operand} : runOp T (.conv kk x) e σ k = valK ((intV (e.ev x)).map fun n => .int kk (kk.wrap n)) k σ := by
  simp only [runOp, AOp.run]
  cases intV (e.ev x) <;> rfl
theorem r_nilCheck {x : Operand} {a : Addr} (h : e.ev x = .pointer (some a)) : runOp T (.nilCheck x) e σ k = k (.pointer (some a)) σ := by
  simp only [runOp, AOp.run, h]
theorem r_off {n : Nat} {x : Operand} {b o : Nat} (h : e.ev x = .pointer (some ⟨b, o, none⟩)) : runOp T (.off n x) e σ k = k (.pointer (some ⟨b, o + n, none⟩)) σ := by
  simp only [runOp, AOp.run, h]
def extractV (i : Nat) : Value → Option Value
  | .tuple vs => vs[i]?
  | _ => none
theorem r_extract {x : Operand} {i : Nat} : runOp T (.extract x i) e σ k = valK (extractV i (e.ev x)) k σ := by
  simp only [runOp, AOp.run]
  cases e.ev x <;> try rfl
  rename_i vs
  simp only [extractV]
  cases vs[i]? <;> rfl
theorem r_call {f : FuncId} {xs : List Operand} : runOp T (.call f xs) e σ k = T f (xs.map e.ev) σ k := rfl
theorem call_sps {U : Rels} {f : FuncId} {args : List Value} {r : Value} {σ' : Hp} (h : U f args σ r σ') (hk : k r σ') : sps U f args σ k := ⟨r, σ', h, hk⟩
def lenS : Value → Option Value
  | .slice _ n _ => some (.int .i64 n)
  | _ => none
theorem r_len {x : Operand} : runOp T (.len x) e σ k = valK (lenS (e.ev x)) k σ := by
  simp only [runOp, AOp.run]
  cases e.ev x <;> rfl
theorem r_idx {es : Nat} {x i : Operand} {b o n c : Nat} {kk : IntKind} {j : Int} (h : e.ev x = .slice (some ⟨b, o, none⟩) n c) (hi : e.ev i = .int kk j) : runOp T (.idx es x i) e σ k = if 0 ≤ j ∧ j < n then k (.pointer (some ⟨b, o + j.toNat * es, none⟩)) σ else False := by
  simp only [runOp, AOp.run, h, hi]
  by_cases hj : 0 ≤ j ∧ j < n
  · simp only [if_pos hj]
  · simp only [if_neg hj]
theorem r_lenC {n : Nat} : runOp T (.lenC n) e σ k = k (.int .i64 n) σ := rfl
theorem r_most {x y : Operand} : runOp T (.most x y) e σ k = valK (toMost (e.ev x) (e.ev y)) k σ := by
  simp only [runOp, AOp.run]
  cases toMost (e.ev x) (e.ev y) <;> rfl
theorem r_least {x y : Operand} : runOp T (.least x y) e σ k = valK (toLeast (e.ev x) (e.ev y)) k σ := by
  simp only [runOp, AOp.run]
  cases toLeast (e.ev x) (e.ev y) <;> rfl
end
end Go.Ab
