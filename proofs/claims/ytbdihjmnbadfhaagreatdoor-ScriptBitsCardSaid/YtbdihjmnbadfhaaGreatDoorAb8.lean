/- A part of the proofs of this seat: what functions of the program answer on the abstract machine. -/
import Derived.Test.YtbdihjmnbadfhaaGreatDoorAb7
namespace Go.Ab
open Go.RowKit

section
variable {P : Program} {o : Oper} {a : Act} {w : World} {B : Base P} {N : Nat} {μ : Mu} {e : Env} {σ σ' : Hp} {v : Value}

theorem VR.nils_inv {n c : Nat} {v' : Value} (h : VR μ (.slice none n c) v') : v' = .slice none 0 0 ∧ n = 0 ∧ c = 0 := by cases h; exact ⟨rfl, rfl, rfl⟩

/-! ### Lengths; the greater, the less -/
theorem lenV_ok {x x' : Value} {n : Nat} (h : lenV x = some n) (hx : VR μ x x') : lenV x' = some n := by
  cases hx <;> simp_all [lenV]

theorem run_call_builtin {c : Call} {b : Builtin} (ho : o.op = .call c) (hc : c.callee = .builtin b) (w : World) :
    ∃ cs, (execOp a.eval o).run P w = (builtin b c.argTypes o.type cs (c.args.map a.eval)).run P w := by
  refine ⟨c.args.map fun | .const _ => true | _ => false, ?_⟩
  simp only [execOp, ho, resolve, hc, invoke, Sem.run_bind, Sem.run_pure, Result.andThen_ok]
  rfl

theorem arr1 {α : Type} {c : Array α} {x : α} (h : c.toList = [x]) : c = #[x] := by rw [← Array.toList_inj]; simpa using h
theorem arr2 {α : Type} {c : Array α} {x y : α} (h : c.toList = [x, y]) : c = #[x, y] := by rw [← Array.toList_inj]; simpa using h
theorem arr_head {α : Type} {c : Array α} {x : α} {r : List α} (h : c.toList = x :: r) : c[0]? = some x := by rw [← Array.getElem?_toList, h]; rfl

theorem ok_len {c : Call} {x : Operand} {t u : TypeId} {ts : List TypeId} (ho : o.op = .call c) (hc : c.callee = .builtin .len) (ha : c.args.toList = [x]) (ht : c.argTypes.toList = t :: ts) (hu : P.underlying t = some (.slice u))
    (hx : okOpd x = true) (hr : (AOp.len x).run e σ = some (v, σ')) (he : EnvR μ N e a.tmps) (hR : R B μ σ w) : Done P o a w B μ v σ' := by
  have h := he.ev hx
  simp only [AOp.run] at hr
  split at hr
  · rename_i p n c' hp
    simp only [Option.some.injEq, Prod.mk.injEq] at hr
    obtain ⟨rfl, rfl⟩ := hr
    rw [hp] at h
    have : ∃ p' c'', a.eval x = .slice p' n c'' := by
      generalize a.eval x = y at h
      cases h <;> exact ⟨_, _, rfl⟩
    obtain ⟨p', c'', hy⟩ := this
    obtain ⟨cs, hrun⟩ := run_call_builtin (P := P) (a := a) ho hc w
    refine .same hR ?_ (.int .i64 n)
    simp [hrun, builtin, Builtin.len_, arr1 ha, arr_head ht, hy, run_und hu, goInt]
  · cases hr

theorem ok_capN {c : Call} {x : Operand} {t u : TypeId} (ho : o.op = .call c) (hc : c.callee = .builtin .cap) (ha : c.args.toList = [x]) (ht : c.argTypes.toList = [t]) (hu : P.underlying t = some (.slice u))
    (hx : okOpd x = true) (hr : (AOp.capN x).run e σ = some (v, σ')) (he : EnvR μ N e a.tmps) (hR : R B μ σ w) : Done P o a w B μ v σ' := by
  have h := he.ev hx
  simp only [AOp.run] at hr
  split at hr
  · rename_i hp
    simp only [Option.some.injEq, Prod.mk.injEq] at hr
    obtain ⟨rfl, rfl⟩ := hr
    rw [hp] at h
    obtain ⟨hq, _, _⟩ := h.nils_inv
    obtain ⟨cs, hrun⟩ := run_call_builtin (P := P) (a := a) ho hc w
    refine .same hR ?_ (.int .i64 0)
    simp [hrun, builtin, Builtin.cap_, arr1 ha, arr1 ht, hq, run_und hu, goInt]
  · cases hr

theorem ok_lenS {c : Call} {x : Operand} {t : TypeId} {ts : List TypeId} (ho : o.op = .call c) (hc : c.callee = .builtin .len) (ha : c.args.toList = [x]) (ht : c.argTypes.toList = t :: ts) (hu : P.underlying t = some .string)
    (hx : okOpd x = true) (hr : (AOp.lenS x).run e σ = some (v, σ')) (he : EnvR μ N e a.tmps) (hR : R B μ σ w) : Done P o a w B μ v σ' := by
  have h := he.ev hx
  simp only [AOp.run] at hr
  split at hr
  · rename_i s hp
    simp only [Option.some.injEq, Prod.mk.injEq] at hr
    obtain ⟨rfl, rfl⟩ := hr
    rw [hp] at h
    obtain ⟨cs, hrun⟩ := run_call_builtin (P := P) (a := a) ho hc w
    refine .same hR ?_ (.int .i64 s.size)
    simp [hrun, builtin, Builtin.len_, arr1 ha, arr_head ht, h.string_inv, run_und hu, goInt]
  · cases hr

theorem ok_lenC {c : Call} {x : Operand} {t : TypeId} {ts : List TypeId} {m : Nat} (ho : o.op = .call c) (hc : c.callee = .builtin .len) (ha : c.args.toList = [x]) (ht : c.argTypes.toList = t :: ts)
    (hu : (∃ u, P.underlying t = some (.array m u)) ∨ ∃ p u, P.underlying t = some (.pointer p) ∧ P.underlying p = some (.array m u))
    (hr : (AOp.lenC m).run e σ = some (v, σ')) (hR : R B μ σ w) : Done P o a w B μ v σ' := by
  simp only [AOp.run, Option.some.injEq, Prod.mk.injEq] at hr
  obtain ⟨rfl, rfl⟩ := hr
  obtain ⟨cs, hrun⟩ := run_call_builtin (P := P) (a := a) ho hc w
  refine .same hR ?_ (.int .i64 m)
  rcases hu with ⟨u, hu⟩ | ⟨p, u, hu, hp⟩
  · cases hv : a.eval x <;> simp [hrun, builtin, Builtin.len_, arr1 ha, arr_head ht, run_und hu, goInt, hv]
  · cases hv : a.eval x <;> simp [hrun, builtin, Builtin.len_, arr1 ha, arr_head ht, run_und hu, run_und hp, goInt, hv]

theorem ok_most {c : Call} {x y : Operand} (ho : o.op = .call c) (hc : c.callee = .builtin .max) (ha : c.args.toList = [x, y]) (hx : okOpd x = true) (hy : okOpd y = true) (hr : (AOp.most x y).run e σ = some (v, σ')) (he : EnvR μ N e a.tmps) (hR : R B μ σ w) : Done P o a w B μ v σ' := by
  simp only [AOp.run] at hr
  obtain ⟨z, hz, hr⟩ := Option.map_eq_some_iff.1 hr
  simp only [Prod.mk.injEq] at hr
  obtain ⟨rfl, rfl⟩ := hr
  have h := he.ev hx
  have h' := he.ev hy
  generalize e.ev x = p at *
  generalize e.ev y = q at *
  cases p <;> cases q <;> simp [toMost] at hz
  subst hz
  have e1 := h.int_inv
  have e2 := h'.int_inv
  obtain ⟨cs, hrun⟩ := run_call_builtin (P := P) (a := a) ho hc w
  exact .same hR (by simp [hrun, builtin, Builtin.max_, arr2 ha, e1, e2, Builtin.max2]) (.int _ _)

theorem ok_least {c : Call} {x y : Operand} (ho : o.op = .call c) (hc : c.callee = .builtin .min) (ha : c.args.toList = [x, y]) (hx : okOpd x = true) (hy : okOpd y = true) (hr : (AOp.least x y).run e σ = some (v, σ')) (he : EnvR μ N e a.tmps) (hR : R B μ σ w) : Done P o a w B μ v σ' := by
  simp only [AOp.run] at hr
  obtain ⟨z, hz, hr⟩ := Option.map_eq_some_iff.1 hr
  simp only [Prod.mk.injEq] at hr
  obtain ⟨rfl, rfl⟩ := hr
  have h := he.ev hx
  have h' := he.ev hy
  generalize e.ev x = p at *
  generalize e.ev y = q at *
  cases p <;> cases q <;> simp [toLeast] at hz
  subst hz
  have e1 := h.int_inv
  have e2 := h'.int_inv
  obtain ⟨cs, hrun⟩ := run_call_builtin (P := P) (a := a) ho hc w
  exact .same hR (by simp [hrun, builtin, Builtin.min_, arr2 ha, e1, e2, Builtin.min2]) (.int _ _)

/-! ### Cuts -/
theorem bound_ok {y d : Nat} {x : Option Operand} {n : Nat} (hx : ∀ u, x = some u → okOpd u = true) (h : bound y d (x.map e.ev) = some n) (he : EnvR μ N e a.tmps) :
    match x with
    | none => n = d
    | some u => ∃ k i, a.eval u = .int k i ∧ 0 ≤ i ∧ i ≤ y ∧ n = i.toNat := by
  cases x with
  | none => simp [bound] at h; exact h.symm
  | some u =>
    have hu := he.ev (hx u rfl)
    simp only [Option.map_some] at h
    unfold bound at h
    split at h
    · rename_i k i hk
      simp only [Option.some.injEq] at hk
      split at h
      · rename_i hc
        rw [hk] at hu
        exact ⟨k, i, hu.int_inv, hc.1, hc.2, by simpa using h.symm⟩
      · cases h
    · cases h
    · rename_i hn; cases hn

theorem bounds_ok {s : Bool} {ln cap cap' : Nat} {lo hi : Option Operand} {h l : Nat} (hlo : ∀ u, lo = some u → okOpd u = true) (hhi : ∀ u, hi = some u → okOpd u = true)
    (hh : bound cap ln (hi.map e.ev) = some h) (hl : bound h 0 (lo.map e.ev) = some l) (hcap : cap ≤ cap') (he : EnvR μ N e a.tmps) (w : World) :
    (Instr.sliceBounds s ln cap' (lo.map a.eval) (hi.map a.eval) none).run P w = .ok (l, h, cap') w := by
  have b1 := bound_ok hhi hh he
  have b2 := bound_ok hlo hl he
  unfold Instr.sliceBounds
  cases hi with
  | none =>
    simp only at b1
    subst b1
    cases lo with
    | none => simp only at b2; subst b2; simp
    | some u =>
      obtain ⟨k, i, e1, e2, e3, rfl⟩ := b2
      simp [e1, Instr.sliceBound, asIntOf, e2, e3]
  | some uh =>
    obtain ⟨kh, ih, f1, f2, f3, rfl⟩ := b1
    have f4 : ih ≤ (cap' : Int) := by omega
    cases lo with
    | none => simp only at b2; subst b2; simp [f1, Instr.sliceBound, asIntOf, f2, f4]
    | some u =>
      obtain ⟨k, i, e1, e2, e3, rfl⟩ := b2
      simp only [Option.map_some, e1, f1, Instr.sliceBound, asIntOf, Sem.run_bind, Sem.run_pure, Result.andThen_ok]
      rw [if_pos ⟨f2, f4⟩]
      simp only [Sem.run_pure, Result.andThen_ok]
      rw [if_pos ⟨e2, e3⟩]
      rfl

theorem bound_le {y d n : Nat} {x : Option Value} (h : bound y d x = some n) : n ≤ y ∨ (x = none ∧ n = d) := by
  unfold bound at h
  split at h
  · split at h
    · rename_i hc; simp at h; left; omega
    · cases h
  · cases h
  · right; exact ⟨rfl, by simpa using h.symm⟩

theorem bounds_le {ln cap : Nat} {lo hi : Option Operand} {h l : Nat} (hle : ln ≤ cap) (hh : bound cap ln (hi.map e.ev) = some h) (hl : bound h 0 (lo.map e.ev) = some l) : l ≤ h ∧ h ≤ cap := by
  rcases bound_le hh with h1 | ⟨_, h1⟩
  · rcases bound_le hl with h2 | ⟨_, h2⟩ <;> omega
  · rcases bound_le hl with h2 | ⟨_, h2⟩ <;> omega

theorem ok_slice {t d : TypeId} {n : Nat} {x : Operand} {lo hi : Option Operand} (ho : o.op = .slice t x lo hi none) (hu : P.underlying t = some (.slice d)) (hn : szOf P d = some n) (hx : okOpd x = true) (hlo : ∀ u, lo = some u → okOpd u = true) (hhi : ∀ u, hi = some u → okOpd u = true)
    (hr : (AOp.slice n x lo hi).run e σ = some (v, σ')) (he : EnvR μ N e a.tmps) (hR : R B μ σ w) : Done P o a w B μ v σ' := by
  have hv := he.ev hx
  simp only [AOp.run] at hr
  split at hr
  · rename_i p ln cap hp
    split at hr
    · rename_i hcut
      split at hr
      · rename_i h hh
        split at hr
        · rename_i l hl
          simp only [Option.some.injEq, Prod.mk.injEq] at hr
          obtain ⟨rfl, rfl⟩ := hr
          rw [hp] at hv
          have key : ∀ (p' : Option Addr) (cap' : Nat), a.eval x = .slice p' ln cap' → cap ≤ cap' →
              (execOp a.eval o).run P w = .ok (.value (.slice (if cap' = l then p' else p'.map (·.add (l * n))) (h - l) (cap' - l))) w := by
            intro p' cap' hy hle
            have hb := bounds_ok (P := P) (s := true) hlo hhi hh hl hle he w
            simp only [execOp, ho, Instr.sliceAt, Sem.run_bind, run_und hu, Result.andThen_ok, Instr.slice, hy, Option.map_none, hb, run_sz hn, Sem.run_pure]
          cases p with
          | none =>
            obtain ⟨hq, rfl, rfl⟩ := hv.nils_inv
            have := bounds_le (Nat.le_refl _) hh hl
            refine .same hR (key _ _ hq (Nat.le_refl _)) ?_
            have e1 : h = 0 := by omega
            subst e1
            simp only [Option.map_none, ite_self]
            rw [show (0 : Nat) - l = 0 from by omega]
            exact .nils
          | some A =>
            generalize hq : a.eval x = q at hv
            cases hv with
            | slice h1 h2 h3 h4 =>
              rename_i b off cap' g
              obtain ⟨k1, k2⟩ := bounds_le h2 hh hl
              refine .same hR (key _ _ hq h3) ?_
              by_cases hc : cap' = l
              · rw [if_pos hc, hc]
                rw [show l - l = 0 from by omega, show cap - l = 0 from by omega, show h - l = 0 from by omega]
                exact .slice0 _ h1
              · rw [if_neg hc]
                simp only [Option.map_some, addAt, add_none]
                rw [Nat.add_assoc]
                refine .slice h1 (by omega) (by omega) ?_
                cases lo with
                | none =>
                  have : l = 0 := by simpa [bound] using hl.symm
                  subst this
                  simpa using h4
                | some u =>
                  rw [Bool.or_eq_true] at hcut
                  rcases hcut with hcut | hcut
                  · have : cap = 0 := by simpa using hcut
                    have : l = 0 := by omega
                    subst this
                    simpa using h4
                  unfold mayCut at hcut
                  simp only at hcut
                  split at hcut
                  · rename_i blk hblk
                    have e1 := (hR.get hblk h1.1).es
                    have e2 : blk.es = n := by simpa using hcut
                    rw [e1, e2] at h4 ⊢
                    have : l * n + (cap' - l) * n = cap' * n := by rw [← Nat.add_mul]; congr 1; omega
                    omega
                  · cases hcut
            | slice0 A' h1 =>
              obtain ⟨k1, k2⟩ := bounds_le (Nat.le_refl _) hh hl
              refine .same hR (key _ _ hq (Nat.le_refl _)) ?_
              have e1 : l = 0 := by omega
              have e2 : h = 0 := by omega
              subst e1 e2
              simp only [Option.map_some, if_true]
              exact .slice0 _ h1
            | sliceX h1 h4 =>
              rename_i b off g
              obtain ⟨k1, k2⟩ := bounds_le (Nat.le_refl _) hh hl
              refine .same hR (key _ _ hq (Nat.le_refl _)) ?_
              by_cases hc : ln = l
              · rw [if_pos hc, hc]
                rw [show l - l = 0 from by omega, show h - l = 0 from by omega]
                exact .slice0 _ h1
              · rw [if_neg hc]
                simp only [Option.map_some, addAt, add_none]
                rw [Nat.add_assoc]
                refine .slice h1 (by omega) (by omega) ?_
                cases lo with
                | none =>
                  have : l = 0 := by simpa [bound] using hl.symm
                  subst this
                  simpa using h4
                | some u =>
                  rw [Bool.or_eq_true] at hcut
                  rcases hcut with hcut | hcut
                  · have : ln = 0 := by simpa using hcut
                    omega
                  unfold mayCut at hcut
                  simp only at hcut
                  split at hcut
                  · rename_i blk hblk
                    have e1 := (hR.get hblk h1.1).es
                    have e2 : blk.es = n := by simpa using hcut
                    rw [e1, e2] at h4 ⊢
                    have : l * n + (ln - l) * n = ln * n := by rw [← Nat.add_mul]; congr 1; omega
                    omega
                  · cases hcut
            | sliceX0 A' h1 =>
              obtain ⟨k1, k2⟩ := bounds_le (Nat.le_refl _) hh hl
              refine .same hR (key _ _ hq (Nat.le_refl _)) ?_
              have e1 : l = 0 := by omega
              have e2 : h = 0 := by omega
              subst e1 e2
              simp only [Option.map_some, if_true]
              exact .slice0 _ h1
        · cases hr
      · cases hr
    · cases hr
  · cases hr

theorem ok_sliceX {t d : TypeId} {x hi mx : Operand} (ho : o.op = .slice t x none (some hi) (some mx)) (hu : P.underlying t = some (.slice d)) {n : Nat} (hn : szOf P d = some n) (hx : okOpd x = true) (hhi : okOpd hi = true) (hmx : okOpd mx = true)
    (hr : (AOp.sliceX x hi mx).run e σ = some (v, σ')) (he : EnvR μ N e a.tmps) (hR : R B μ σ w) : Done P o a w B μ v σ' := by
  have hv := he.ev hx
  have hvh := he.ev hhi
  have hvm := he.ev hmx
  simp only [AOp.run] at hr
  split at hr
  · rename_i p ln cap hp
    split at hr
    · rename_i m hm
      split at hr
      · rename_i h hh
        split at hr
        · rename_i heq
          subst heq
          -- the numbers
          have hm' : ∃ km im, e.ev mx = .int km im ∧ 0 ≤ im ∧ im ≤ cap ∧ h = im.toNat := by
            unfold bound at hm
            split at hm
            · rename_i km im hq
              injection hq with hq
              split at hm
              · rename_i hc
                injection hm with hm
                exact ⟨km, im, hq, hc.1, hc.2, hm.symm⟩
              · cases hm
            · cases hm
            · rename_i hq; cases hq
          obtain ⟨km, im, q1, q2, q3, q4⟩ := hm'
          have hh' : ∃ kh ih, e.ev hi = .int kh ih ∧ 0 ≤ ih ∧ ih ≤ h ∧ h = ih.toNat := by
            unfold bound at hh
            split at hh
            · rename_i kh ih hq
              injection hq with hq
              split at hh
              · rename_i hc
                injection hh with hh
                exact ⟨kh, ih, hq, hc.1, hc.2, hh.symm⟩
              · cases hh
            · cases hh
            · rename_i hq; cases hq
          obtain ⟨kh, ih, r1, r2, r3, r4⟩ := hh'
          rw [q1] at hvm
          rw [r1] at hvh
          have v1 := hvm.int_inv
          have v2 := hvh.int_inv
          rw [hp] at hv
          have key : ∀ (p' : Option Addr) (cap' : Nat), a.eval x = .slice p' ln cap' → cap ≤ cap' →
              (execOp a.eval o).run P w = .ok (.value (.slice p' h h)) w := by
            intro p' cap' hy hle
            have e1 : ih = (h : Int) := by omega
            have e2 : im = (h : Int) := by omega
            subst e1 e2
            have hle' : h ≤ cap' := by omega
            have hb : (Instr.sliceBounds true ln cap' none (some (a.eval hi)) (some (a.eval mx))).run P w = .ok (0, h, h) w := by
              simp [Instr.sliceBounds, Instr.sliceBound, asIntOf, v1, v2, hle']
            simp only [execOp, ho, Instr.sliceAt, Sem.run_bind, run_und hu, Result.andThen_ok, Instr.slice, hy, Option.map_none, Option.map_some, hb, run_sz hn, Sem.run_pure, Nat.zero_mul, Nat.sub_zero]
            congr 3
            split
            · rfl
            · cases p' with
              | none => rfl
              | some A => simp [Addr.add]
          cases p with
          | none =>
            obtain ⟨hq, rfl, rfl⟩ := hv.nils_inv
            simp only [Option.some.injEq, Prod.mk.injEq] at hr
            obtain ⟨rfl, rfl⟩ := hr
            have h0 : h = 0 := by omega
            refine .same hR (key _ _ hq (Nat.le_refl _)) ?_
            rw [h0]
            exact .nils
          | some A =>
            obtain ⟨b, off, s⟩ := A
            cases s with
            | some _ => cases hr
            | none =>
              simp only [Option.some.injEq, Prod.mk.injEq] at hr
              obtain ⟨rfl, rfl⟩ := hr
              generalize hq : a.eval x = q at hv
              cases hv with
              | slice h1 h2 h3 h4 =>
                rename_i cap' g
                refine .same hR (key _ _ hq h3) (.sliceX h1 ?_)
                have : h * g.es ≤ cap' * g.es := Nat.mul_le_mul_right _ (by omega)
                omega
              | slice0 A' h1 =>
                have h0 : h = 0 := by omega
                refine .same hR (key _ _ hq (Nat.le_refl _)) ?_
                rw [h0]
                exact .sliceX0 _ h1
        · cases hr
      · cases hr
    · cases hr
  · cases hr

theorem ok_sliceStr {t : TypeId} {x : Operand} {lo hi : Option Operand} (ho : o.op = .slice t x lo hi none) (hu : P.underlying t = some .string) (hx : okOpd x = true) (hlo : ∀ u, lo = some u → okOpd u = true) (hhi : ∀ u, hi = some u → okOpd u = true)
    (hr : (AOp.sliceStr x lo hi).run e σ = some (v, σ')) (he : EnvR μ N e a.tmps) (hR : R B μ σ w) : Done P o a w B μ v σ' := by
  have hv := he.ev hx
  simp only [AOp.run] at hr
  split at hr
  · rename_i s hp
    split at hr
    · rename_i h hh
      split at hr
      · rename_i l hl
        simp only [Option.some.injEq, Prod.mk.injEq] at hr
        obtain ⟨rfl, rfl⟩ := hr
        rw [hp] at hv
        have hb := bounds_ok (P := P) (s := false) hlo hhi hh hl (Nat.le_refl _) he w
        refine .same hR (v' := .string (s.extract l h)) ?_ (.string _)
        simp only [execOp, ho, Instr.sliceAt, Sem.run_bind, run_und hu, Result.andThen_ok, Instr.slice, hv.string_inv, Option.map_none, Option.isSome_none, Bool.false_eq_true, if_false, hb, Sem.run_pure]
      · cases hr
    · cases hr
  · cases hr

theorem ok_sliceArr {t d : TypeId} {m n : Nat} {x : Operand} {lo hi : Option Operand} (ho : o.op = .slice t x lo hi none) (hu : P.underlying t = some (.array m d)) (hn : szOf P d = some n) (hx : okOpd x = true) (hlo : ∀ u, lo = some u → okOpd u = true) (hhi : ∀ u, hi = some u → okOpd u = true)
    (hr : (AOp.sliceArr n m x lo hi).run e σ = some (v, σ')) (he : EnvR μ N e a.tmps) (hR : R B μ σ w) : Done P o a w B μ v σ' := by
  have hv := he.ev hx
  simp only [AOp.run] at hr
  split at hr
  · rename_i b off hp
    split at hr
    · rename_i blk hblk
      split at hr
      · rename_i hc
        split at hr
        · rename_i h hh
          split at hr
          · rename_i l hl
            split at hr
            · rename_i hlm
              simp only [Option.some.injEq, Prod.mk.injEq] at hr
              obtain ⟨rfl, rfl⟩ := hr
              rw [hp] at hv
              obtain ⟨g, hg, hy⟩ := hv.ptr_inv
              obtain ⟨k1, k2⟩ := bounds_le (Nat.le_refl _) hh hl
              have hb := bounds_ok (P := P) (s := false) hlo hhi hh hl (Nat.le_refl _) he w
              have hlv := hR.get hblk hg.1
              obtain ⟨_, o2, _⟩ := hlv.own hg.2 hc.1
              refine .same hR (v' := .slice (some ⟨g.c, g.o + (off + l * n), none⟩) (h - l) (m - l)) ?_ (.slice hg (by omega) (Nat.le_refl _) ?_)
              · simp only [execOp, ho, Instr.sliceAt, Sem.run_bind, run_und hu, Result.andThen_ok, hy, Instr.sureAddr, Option.map_none, hb, run_sz hn, Sem.run_pure]
                rw [if_neg (by omega), add_none, Nat.add_assoc]
              · rw [hlv.es, hc.2.1]
                have : l * n + (m - l) * n = m * n := by rw [← Nat.add_mul]; congr 1; omega
                omega
            · cases hr
          · cases hr
        · cases hr
      · cases hr
    · cases hr
  · cases hr

theorem ok_makeSlice {t d : TypeId} {n by_ : Nat} {z : List Value} {x y : Operand} (ho : o.op = .makeSlice t x y) (hu : P.underlying t = some (.slice d)) (hn : szOf P d = some n) (hb : byOf P d = some by_) (hz : zeroOf P d = some z) (hx : okOpd x = true) (hy : okOpd y = true)
    (hzn : z.length = n) (h0 : 0 < n) (hr : (AOp.makeSlice n by_ z x y).run e σ = some (v, σ')) (he : EnvR μ N e a.tmps) (hR : R B μ σ w) : Done P o a w B μ v σ' := by
  have h1 := he.ev hx
  have h2 := he.ev hy
  obtain ⟨z', e1, e2, e3⟩ := zeroOf_some hz
  simp only [AOp.run] at hr
  split at hr
  · rename_i k l k' c hl hc
    split at hr
    · rename_i hcond
      obtain ⟨c1, c2, c3, c4⟩ := hcond
      simp only [Option.some.injEq, Prod.mk.injEq] at hr
      obtain ⟨rfl, rfl⟩ := hr
      rw [hl] at h1
      rw [hc] at h2
      have v1 := h1.int_inv
      have v2 := h2.int_inv
      obtain ⟨i, hi, hib⟩ := Option.map_eq_some_iff.1 hb
      have w1 : IntKind.i64.wrap l = l := IntWalk.i64_in _ (by omega)
      have w2 : IntKind.i64.wrap c = c := IntWalk.i64_in _ (by omega)
      have hzs : z'.cells.size = n := by rw [← hzn, ← e2]; simp [cellsOf]
      have hzl : z'.cells.toList = z := e2
      have hlen : (times z c.toNat).toArray.size = c.toNat * n := by simp [times_length, hzn]
      refine .new hR (times z c.toNat).toArray d (times z c.toNat) n (.slice (some ⟨w.heap.size, 0, none⟩) l.toNat c.toNat) ?_ ?_ (fun h => VR.slice (o := 0) h (by omega) (Nat.le_refl _) (by rw [hlen]; simp))
      · simpa using VR.plainCells (times_plain e3 _)
      · have ht : ¬ ((by_ : Int) * c > 281474976710656) := by omega
        have hinfo : ∀ w : World, (typeInfo d).run P w = .ok i w := fun w => by simp [typeInfo, hi]
        simp only [execOp, ho, Instr.makeSlice, Sem.run_bind, run_und hu, Result.andThen_ok, v1, v2, asInt, asIntOf, Sem.run_pure, hinfo, hib, w1, w2]
        have t1 : (decide (c < 0) || decide ((by_ : Int) * c > 2 ^ 48)) = false := by
          simp; omega
        have t2 : (decide (l < 0)) = false := by simp; omega
        have t3 : (decide (l > c)) = false := by simp; omega
        simp only [t1, t2, t3, Bool.or_false, Bool.false_eq_true, if_false, Sem.run_bind, run_askRoom, Result.andThen_ok, run_sz hn]
        by_cases hcn : c.toNat * n = 0
        · have hc0 : c.toNat = 0 := by
            rcases Nat.mul_eq_zero.1 hcn with h | h
            · exact h
            · omega
          have : (times z c.toNat) = [] := by rw [hc0]; rfl
          rw [if_pos hcn, this, hcn]
          simp [newRow, show Array.range 0 = #[] from rfl]
        · rw [if_neg hcn]
          have hcc : (Array.range (c.toNat * n)).map (fun i => z'.cells[i % z'.cells.size]!) = (times z c.toNat).toArray := by
            rw [← hzl, ← times_eq _ _ (by omega), hzs]
          simp only [Sem.run_bind, e1, Sem.run_pure, Result.andThen_ok, hcc]
          simp [newRow]
    · cases hr
  · cases hr
end
end Go.Ab
