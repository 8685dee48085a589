/- The value machine: its operations are the abstract machine's, second part. -/
import Derived.Test.YtbdihjmnbadfhaaGreatDoorV7
namespace Go.V
set_option linter.unusedVariables false
set_option linter.unusedSimpArgs false
open Go.Ab

section
variable {β : Type} {T : Specs} {c : Ctx} {e : VEnv} {ea : Env} {k : VV → Store → Option β} {y : β} {d : List Nat}

theorem bytesI_size (s : ByteArray) : (bytesI s).length = s.size := by simp [bytesI]
theorem bytesI_app (s t : ByteArray) : bytesI (s ++ t) = bytesI s ++ bytesI t := by
  simp [bytesI, ByteArray.data_append]
theorem toNat_inj_list : ∀ {l m : List UInt8}, (l.map fun b => (b.toNat : Int)) = m.map (fun b => (b.toNat : Int)) → l = m
  | [], [], _ => rfl
  | [], _ :: _, h => by simp at h
  | _ :: _, [], h => by simp at h
  | a :: l, b :: m, h => by
    simp only [List.map_cons, List.cons.injEq] at h
    rw [toNat_inj_list h.2, UInt8.toNat_inj.1 (Int.ofNat.inj h.1)]
theorem toList_data (s : ByteArray) : s.toList = s.data.toList := by
  rw [ByteArray.toList_eq]
theorem bytesI_eq (s t : ByteArray) : (s.toList == t.toList) = decide (bytesI s = bytesI t) := by
  rw [toList_data, toList_data]
  by_cases h : s.data.toList = t.data.toList
  · simp [bytesI, h]
  · have : bytesI s ≠ bytesI t := fun e => h (toNat_inj_list e)
    have h' : ¬s.data = t.data := fun e => h (by rw [e])
    simp [this, h']

theorem arithK_ok {op : BinOp} {kd : IntKind} {a b : Int} {kk : VV → Option β} (h : arithK op kd a b kk = some y) : ∃ v va, ints2 op kd a b = some va ∧ VRel c v va ∧ kk v = some y := by
  cases op <;> simp only [arithK] at h <;> try (cases h; done)
  case add => exact ⟨_, _, rfl, .int _ _, h⟩
  case sub => exact ⟨_, _, rfl, .int _ _, h⟩
  case mul => exact ⟨_, _, rfl, .int _ _, h⟩
  case quo =>
    obtain ⟨h1, h2⟩ := gd_some h
    exact ⟨_, _, if_neg (of_decide_eq_true h1), .int _ _, h2⟩
  case rem =>
    obtain ⟨h1, h2⟩ := gd_some h
    exact ⟨_, _, if_neg (of_decide_eq_true h1), .int _ _, h2⟩
  case and => exact ⟨_, _, rfl, .int _ _, h⟩
  case or => exact ⟨_, _, rfl, .int _ _, h⟩
  case xor => exact ⟨_, _, rfl, .int _ _, h⟩
  case andNot => exact ⟨_, _, rfl, .int _ _, h⟩
  case eql =>
    refine ⟨_, _, rfl, ?_, h⟩
    have : (a == b) = decide (a = b) := by by_cases h : a = b <;> simp [h]
    rw [this]
    exact .bool _
  case neq =>
    refine ⟨_, _, rfl, ?_, h⟩
    have : (a != b) = decide (a ≠ b) := by by_cases h : a = b <;> simp [h]
    rw [this]
    exact .bool _
  case lss => exact ⟨_, _, rfl, .bool _, h⟩
  case leq => exact ⟨_, _, rfl, .bool _, h⟩
  case gtr => exact ⟨_, _, rfl, .bool _, h⟩
  case geq => exact ⟨_, _, rfl, .bool _, h⟩
theorem bin_ok (hR : Rel c) (he : EnvRel c e ea) {op : BinOp} {x z : Operand} (h : binK op (ev e x) (ev e z) (fun v => k v c.S) = some y) : runOp T (.bin op x z) ea c.σ (Out c d k y) := by
  have hx := ev_rel he x
  have hz := ev_rel he z
  have key : ∀ v va, bin2 op (ea.ev x) (ea.ev z) = some va → VRel c v va → k v c.S = some y → runOp T (.bin op x z) ea c.σ (Out c d k y) := fun v va h1 h2 h3 =>
    run_of (by simp only [AOp.run, h1]; rfl) (Out.same hR h2 h3)
  generalize ev e x = xv at *
  generalize ev e z = zv at *
  unfold binK at h
  split at h
  · rename_i kx a kz b
    rw [hx.int_inv, hz.int_inv] at key
    cases hs : isShift op with
    | true =>
      rw [hs, cond_true] at h
      simp only [bin2, hs, if_true] at key
      cases op <;> simp only [shiftK] at h <;> try (cases h; done)
      · obtain ⟨h1, h2⟩ := gd_some h
        have h1 := of_decide_eq_true h1
        refine key _ _ ?_ (.int _ _) h2
        simp only [shift2]
        rw [if_neg (by omega)]
      · obtain ⟨h1, h2⟩ := gd_some h
        have h1 := of_decide_eq_true h1
        refine key _ _ ?_ (.int _ _) h2
        simp only [shift2]
        rw [if_neg (by omega)]
    | false =>
      rw [hs, cond_false] at h
      cases hk : decide (kx = kz) with
      | false => rw [hk] at h; cases h
      | true =>
        rw [hk, cond_true] at h
        have hk := of_decide_eq_true hk
        subst hk
        obtain ⟨v, va, h1, h2, h3⟩ := arithK_ok (c := c) h
        refine key v va ?_ h2 h3
        simp only [bin2, hs, Bool.false_eq_true, if_false, if_true, h1]
  · rename_i a b
    obtain ⟨s, e1, rfl⟩ := hx.str_inv
    obtain ⟨t, e2, rfl⟩ := hz.str_inv
    rw [e1, e2] at key
    cases hs : isShift op with
    | true => rw [hs] at h; cases h
    | false =>
      rw [hs, cond_false] at h
      simp only [bin2, hs, Bool.false_eq_true, if_false] at key
      cases op <;> simp only [strK] at h <;> try (cases h; done)
      · obtain ⟨h1, h2⟩ := gd_some h
        have h1 : (bytesI s).length + (bytesI t).length ≤ 9223372036854775807 := Nat.le_of_ble_eq_true h1
        rw [bytesI_size, bytesI_size] at h1
        refine key _ _ ?_ (.str (bytesI_app s t)) h2
        simp only [strs2]
        rw [if_neg]
        show ¬(((s.size + t.size : Nat) : Int) > 9223372036854775807)
        omega
      · refine key _ _ rfl ?_ h
        rw [bytesI_eq]
        exact .bool _
      · refine key _ _ rfl ?_ h
        rw [bytesI_eq]
        have : (!decide (bytesI s = bytesI t)) = decide (bytesI s ≠ bytesI t) := by simp
        rw [this]
        exact .bool _
  · cases h

theorem live_dim {b : Blk} (h : b.live = true) : ∃ dm, b.dim = some dm := by cases b <;> first | (cases h; done) | exact ⟨_, rfl⟩
theorem isPtr_addr {v : VV} {a : Value} (h : VRel c v a) (hp : isPtr c.S v = true) : ∃ x, a = .pointer (some x) := by
  cases v <;> try (cases hp; done)
  case ptr q o =>
    obtain ⟨dd, hh⟩ := live_dim hp
    cases h with
    | ptr hk _ hd => obtain ⟨b, _, h⟩ := hd dd hh; exact ⟨_, h⟩
  case pix q o n i =>
    obtain ⟨dd, hh⟩ := live_dim hp
    cases h with
    | pix hk _ _ hd => obtain ⟨b, _, h⟩ := hd dd hh; exact ⟨_, h⟩
  case pel q i o =>
    obtain ⟨dd, hh⟩ := live_dim hp
    cases h with
    | pel hk _ hd => obtain ⟨b, _, h⟩ := hd dd hh; exact ⟨_, h⟩
  case pin s x o => cases h; exact ⟨_, rfl⟩

theorem nilCheck_ok (hR : Rel c) (he : EnvRel c e ea) {x : Operand} (h : (match ev e x with
    | .fn f a b => k (.fn f a b) c.S
    | v => gd (isPtr c.S v) (k v c.S)) = some y) : runOp T (.nilCheck x) ea c.σ (Out c d k y) := by
  have hx := ev_rel he x
  split at h
  · rename_i f a b hv
    rw [hv] at hx
    have : ∃ a' b', ea.ev x = .func (.func f) a' b' := by
      generalize ea.ev x = xa at hx
      cases hx
      exact ⟨_, _, rfl⟩
    obtain ⟨a', b', h1⟩ := this
    rw [h1] at hx
    exact run_of (by simp only [AOp.run, h1]) (Out.same hR hx h)
  · obtain ⟨h1, h2⟩ := gd_some h
    obtain ⟨p, h3⟩ := isPtr_addr hx h1
    rw [h3] at hx
    exact run_of (by simp only [AOp.run, h3]) (Out.same hR hx h2)

theorem neg_eq {neg b : Bool} : (b != neg) = negB neg b := by cases neg <;> cases b <;> rfl
theorem eqv_ok (hR : Rel c) (he : EnvRel c e ea) {kd : Nat} {neg : Bool} {x z : Operand} {p : Bool} (hp : eqvV c.S kd (ev e x) (ev e z) = some p) (h : k (.bool (negB neg p)) c.S = some y) : runOp T (.eqv kd neg x z) ea c.σ (Out c d k y) := by
  have hx := ev_rel he x
  have hz := ev_rel he z
  have key : eqv2 kd (ea.ev x) (ea.ev z) = some p → runOp T (.eqv kd neg x z) ea c.σ (Out c d k y) := fun h1 =>
    run_of (v := .bool (p != neg)) (by simp only [AOp.run, h1]; rfl) (Out.same hR (by rw [neg_eq]; exact .bool _) h)
  generalize ev e x = xv at *
  generalize ev e z = zv at *
  unfold eqvV at hp
  split at hp
  · injection hp with hp; subst hp
    rw [hx.bool_inv, hz.bool_inv] at key
    exact key rfl
  · injection hp with hp; subst hp
    refine key ?_
    generalize ea.ev x = xa at *
    generalize ea.ev z = za at *
    cases hx; cases hz; rfl
  · cases hi : isPtr c.S zv with
    | false => rw [hi] at hp; cases hp
    | true =>
      rw [hi] at hp
      injection hp with hp; subst hp
      refine key ?_
      obtain ⟨q, h1⟩ := isPtr_addr hz hi
      rw [h1]
      generalize ea.ev x = xa at *
      cases hx
      rfl
  · cases hi : isPtr c.S xv with
    | false => rw [hi] at hp; cases hp
    | true =>
      rw [hi] at hp
      injection hp with hp; subst hp
      refine key ?_
      obtain ⟨q, h1⟩ := isPtr_addr hx hi
      rw [h1]
      generalize ea.ev z = za at *
      cases hz; rfl
  · injection hp with hp; subst hp
    refine key ?_
    generalize ea.ev x = xa at *
    generalize ea.ev z = za at *
    cases hx; cases hz; rfl
  · injection hp with hp; subst hp
    refine key ?_
    generalize ea.ev x = xa at *
    generalize ea.ev z = za at *
    cases hx; cases hz; rfl
  · injection hp with hp; subst hp
    refine key ?_
    generalize ea.ev x = xa at *
    generalize ea.ev z = za at *
    cases hx; cases hz; rfl
  · injection hp with hp; subst hp
    refine key ?_
    generalize ea.ev x = xa at *
    generalize ea.ev z = za at *
    cases hx; cases hz; rfl
  · cases hp

theorem eqC1_ok {kd : Nat} {v w : VV} {va wa : Value} {p : Bool} (h : eqC1 kd v w = some p) (hv : VRel c v va) (hw : VRel c w wa) : eqCells1 kd va wa = some p := by
  unfold eqC1 at h
  split at h
  · injection h with h; subst h
    rw [hv.bool_inv, hw.bool_inv]
    rfl
  · rename_i k1 a k2 b
    cases hk : decide (k1 = k2) with
    | false => rw [hk] at h; cases h
    | true =>
      rw [hk] at h
      injection h with h; subst h
      rw [hv.int_inv, hw.int_inv]
      simp only [eqCells1, of_decide_eq_true hk, if_true]
      by_cases e : a = b <;> simp [e]
  · injection h with h; subst h
    obtain ⟨s, e1, rfl⟩ := hv.str_inv
    obtain ⟨t, e2, rfl⟩ := hw.str_inv
    rw [e1, e2]
    simp only [eqCells1]
    rw [bytesI_eq]
  · cases h
theorem eqCL_ok : ∀ {ks : List Nat} {l m : List VV} {la ma : List Value} {p : Bool}, eqCL ks l m = some p → F2 (VRel c) l la → F2 (VRel c) m ma → eqCellsL ks la ma = some p := by
  intro ks
  induction ks with
  | nil =>
    intro l m la ma p h hl hm
    cases hl <;> cases hm <;> simp only [eqCL] at h <;> try (cases h; done)
    exact h
  | cons kd ks ih =>
    intro l m la ma p h hl hm
    cases hl with
    | nil => cases m <;> simp [eqCL] at h
    | cons h1 h2 =>
      cases hm with
      | nil => cases ks <;> simp [eqCL] at h
      | cons h3 h4 =>
        rename_i v va l' la' w wa m' ma'
        have key : ∀ q r, eqC1 kd v w = some q → eqCL ks l' m' = some r → p = (q && r) → eqCellsL (kd :: ks) (va :: la') (wa :: ma') = some p := by
          intro q r e1 e2 e3
          simp only [eqCellsL, eqC1_ok e1 h1 h3]
          cases q with
          | false => simp [e3]
          | true => rw [ih e2 h2 h4, e3]; simp
        unfold eqCL at h
        split at h
        · rename_i e1 e2 e3; cases e1
        · rename_i e1 e2 e3
          cases e1; cases e2; cases e3
          cases h2; cases h4
          exact key p true h rfl (by simp)
        · rename_i e1 e2 e3
          cases e1; cases e2; cases e3
          cases hq : eqC1 kd v w with
          | none => rw [hq] at h; cases h
          | some q =>
            rw [hq] at h
            simp only [Option.bind_some] at h
            cases hr : eqCL ks l' m' with
            | none => rw [hr] at h; cases h
            | some r =>
              rw [hr] at h
              injection h with h
              exact key q r hq hr h.symm
        · cases h
theorem eqCells_ok (hR : Rel c) (he : EnvRel c e ea) {ks : List Nat} {neg : Bool} {x z : Operand} {a b : List VV} {p : Bool} (h1 : ev e x = .agg a) (h2 : ev e z = .agg b) (hp : eqCL ks a b = some p) (h : k (.bool (negB neg p)) c.S = some y) :
    runOp T (.eqCells neg ks x z) ea c.σ (Out c d k y) := by
  have hx := ev_rel he x
  have hz := ev_rel he z
  rw [h1] at hx
  rw [h2] at hz
  obtain ⟨as, e1, f1⟩ := hx.agg_inv
  obtain ⟨bs, e2, f2⟩ := hz.agg_inv
  exact run_of (v := .bool (p != neg)) (by simp only [AOp.run, e1, e2, eqCL_ok hp f1 f2]; rfl) (Out.same hR (by rw [neg_eq]; exact .bool _) h)

theorem un_ok (hR : Rel c) (he : EnvRel c e ea) {op : UnOp} {x : Operand} (h : unK op (ev e x) (fun v => k v c.S) = some y) : runOp T (.un op x) ea c.σ (Out c d k y) := by
  have hx := ev_rel he x
  unfold unK at h
  split at h
  · rename_i kd n hv
    rw [hv] at hx
    exact run_of (by simp only [AOp.run, hx.int_inv]; rfl) (Out.same hR (.int _ _) h)
  · rename_i kd n hv
    rw [hv] at hx
    exact run_of (by simp only [AOp.run, hx.int_inv]; rfl) (Out.same hR (.int _ _) h)
  · rename_i b hv
    rw [hv] at hx
    exact run_of (by simp only [AOp.run, hx.bool_inv]; rfl) (Out.same hR (.bool _) h)
  · cases h
theorem intV_inv {v : VV} {n : Int} {a : Value} (h : intV? v = some n) (hv : VRel c v a) : ∃ kd, a = .int kd n := by
  cases v <;> simp only [intV?] at h <;> try (cases h; done)
  injection h with h; subst h
  exact ⟨_, hv.int_inv⟩
theorem conv_ok (hR : Rel c) (he : EnvRel c e ea) {kd : IntKind} {x : Operand} {n : Int} (hn : intV? (ev e x) = some n) (h : k (.int kd (kd.wrap n)) c.S = some y) : runOp T (.conv kd x) ea c.σ (Out c d k y) := by
  obtain ⟨kd', hx⟩ := intV_inv hn (ev_rel he x)
  exact run_of (by simp only [AOp.run, hx]; rfl) (Out.same hR (.int _ _) h)
theorem mkFunc_ok (hR : Rel c) (he : EnvRel c e ea) {f : Nat} {a b : List Operand} (h : k (.fn f (a.map (ev e)) (b.map (ev e))) c.S = some y) : runOp T (.mkFunc f a b) ea c.σ (Out c d k y) :=
  run_of rfl (Out.same hR (.fn (by simpa using ev_rels he a) (by simpa using ev_rels he b)) h)
theorem fieldV_ok (hR : Rel c) (he : EnvRel c e ea) {o n : Nat} {agg : Bool} {x : Operand} {cs : List VV} (hx : ev e x = .agg cs) (h : cond agg (k (.agg (extractL cs o n)) c.S) (optV c.S (nth cs o) k) = some y) : runOp T (.fieldV o n agg x) ea c.σ (Out c d k y) := by
  have hv := ev_rel he x
  rw [hx] at hv
  obtain ⟨as, e1, f1⟩ := hv.agg_inv
  cases agg with
  | true =>
    refine run_of (v := .agg (as.extract o (o + n))) (by simp only [AOp.run, e1]; rfl) (Out.same hR (.agg ?_) h)
    have := (f1.drop o).take n
    simpa [extractL, Array.toList_extract, List.extract_eq_take_drop] using this
  | false =>
    rw [cond_false] at h
    cases hn : nth cs o with
    | none => rw [hn] at h; cases h
    | some w =>
      rw [hn] at h
      obtain ⟨u, h1, h2⟩ := F2.nth f1 hn
      have h1' : as[o]? = some u := by simpa using h1
      exact run_of (by simp only [AOp.run, e1, h1']; rfl) (Out.same hR h2 h)
theorem extract_ok (hR : Rel c) (he : EnvRel c e ea) {i : Nat} {x : Operand} {cs : List VV} (hx : ev e x = .tup cs) (h : optV c.S (nth cs i) k = some y) : runOp T (.extract x i) ea c.σ (Out c d k y) := by
  have hv := ev_rel he x
  rw [hx] at hv
  obtain ⟨as, e1, f1⟩ := hv.tup_inv
  cases hn : nth cs i with
  | none => rw [hn] at h; cases h
  | some w =>
    rw [hn] at h
    obtain ⟨u, h1, h2⟩ := F2.nth f1 hn
    have h1' : as[i]? = some u := by simpa using h1
    exact run_of (by simp only [AOp.run, e1, h1']; rfl) (Out.same hR h2 h)
theorem ix_some {i : Int} {n j : Nat} (h : ix i n = some j) : 0 ≤ i ∧ i < n ∧ j = i.toNat ∧ j < n := by
  unfold ix at h
  cases hb : (decide (0 ≤ i) && decide (i < n)) with
  | false => rw [hb] at h; cases h
  | true =>
    rw [hb] at h
    injection h with h
    rw [Bool.and_eq_true] at hb
    have h1 := of_decide_eq_true hb.1
    have h2 := of_decide_eq_true hb.2
    exact ⟨h1, h2, h.symm, by omega⟩
theorem rd_some {α : Type} {l : List α} {i : Int} {x : α} (h : rd l i = some x) : 0 ≤ i ∧ i < l.length ∧ l[i.toNat]? = some x := by
  unfold rd at h
  cases hb : decide (0 ≤ i) with
  | false => rw [hb] at h; cases h
  | true =>
    rw [hb] at h
    have h1 := of_decide_eq_true hb
    have h2 : i.toNat < l.length := by
      rcases Nat.lt_or_ge i.toNat l.length with h3 | h3
      · exact h3
      · rw [cond_true, List.getElem?_eq_none h3] at h; cases h
    exact ⟨h1, by omega, h⟩
theorem bind_some' {α γ : Type} {x : Option α} {f : α → Option γ} {z : γ} (h : x.bind f = some z) : ∃ a, x = some a ∧ f a = some z := by
  cases x with
  | none => cases h
  | some a => exact ⟨a, rfl, h⟩
theorem indexV_ok (hR : Rel c) (he : EnvRel c e ea) {ln es : Nat} {agg : Bool} {x z : Operand} {cs : List VV} {kd : IntKind} {i : Int} (hx : ev e x = .agg cs) (hz : ev e z = .int kd i)
    (h : ((ix i ln).bind fun j => cond agg (k (.agg (extractL cs (j * es) es)) c.S) (gd (Nat.beq es 1 && Nat.beq cs.length ln) (anyOf cs j c.S k))) = some y) : runOp T (.indexV ln es agg x z) ea c.σ (Out c d k y) := by
  have hv := ev_rel he x
  have hw := ev_rel he z
  rw [hx] at hv
  rw [hz] at hw
  obtain ⟨as, e1, f1⟩ := hv.agg_inv
  have e2 := hw.int_inv
  obtain ⟨j, h1, h2⟩ := bind_some' h
  obtain ⟨h3, h4, rfl, h5⟩ := ix_some h1
  cases agg with
  | true =>
    refine run_of (v := .agg (as.extract (i.toNat * es) (i.toNat * es + es))) (by simp only [AOp.run, e1, e2]; rw [if_pos ⟨h3, h4⟩]; rfl) (Out.same hR (.agg ?_) h2)
    have := (f1.drop (i.toNat * es)).take es
    simpa [extractL, Array.toList_extract, List.extract_eq_take_drop] using this
  | false =>
    rw [cond_false] at h2
    obtain ⟨h6, h7⟩ := gd_some h2
    rw [Bool.and_eq_true] at h6
    have h8 := Nat.eq_of_beq_eq_true h6.1
    have h9 := Nat.eq_of_beq_eq_true h6.2
    subst h8
    obtain ⟨w, h10, h11⟩ := anyOf_ok (by omega) h7
    obtain ⟨u, h12, h13⟩ := f1.get _ _ h10
    have h14 : as[i.toNat * 1]? = some u := by rw [Nat.mul_one]; simpa using h12
    exact run_of (by simp only [AOp.run, e1, e2, h14]; rw [if_pos ⟨h3, h4⟩]; rfl) (Out.same hR h13 h11)
theorem indexS_ok (hR : Rel c) (he : EnvRel c e ea) {x z : Operand} {l : List Int} {kd : IntKind} {i : Int} (hx : ev e x = .str l) (hz : ev e z = .int kd i) (h : ((rd l i).bind fun b => k (.int .u8 b) c.S) = some y) : runOp T (.indexS x z) ea c.σ (Out c d k y) := by
  have hv := ev_rel he x
  have hw := ev_rel he z
  rw [hx] at hv
  rw [hz] at hw
  obtain ⟨s, e1, rfl⟩ := hv.str_inv
  have e2 := hw.int_inv
  obtain ⟨b, h1, h2⟩ := bind_some' h
  obtain ⟨h3, h4, h5⟩ := rd_some h1
  simp only [bytesI, List.getElem?_map] at h5
  cases hb : s.data.toList[i.toNat]? with
  | none => rw [hb] at h5; cases h5
  | some u =>
    rw [hb, Option.map_some] at h5
    injection h5 with h5
    subst h5
    have h6 : s[i.toNat]? = some u := by
      have : i.toNat < s.size := by rw [bytesI_size] at h4; omega
      rw [getElem?_pos s i.toNat this]
      rw [← hb, Array.getElem?_toList, getElem?_pos s.data i.toNat this]
      rfl
    exact run_of (v := .int .u8 u.toNat) (by simp only [AOp.run, e1, e2, h6]; rw [if_pos h3]; rfl) (Out.same hR (.int _ _) h2)
theorem most_ok (hR : Rel c) (he : EnvRel c e ea) {x z : Operand} {kd kd' : IntKind} {a b : Int} (hx : ev e x = .int kd a) (hz : ev e z = .int kd' b) (h : k (.int kd (max a b)) c.S = some y) : runOp T (.most x z) ea c.σ (Out c d k y) := by
  have hv := ev_rel he x
  have hw := ev_rel he z
  rw [hx] at hv
  rw [hz] at hw
  refine run_of (v := .int kd (max a b)) ?_ (Out.same hR (.int _ _) h)
  simp only [AOp.run, hv.int_inv, hw.int_inv, toMost, Option.map_some]
  congr 3
  split <;> omega
theorem least_ok (hR : Rel c) (he : EnvRel c e ea) {x z : Operand} {kd kd' : IntKind} {a b : Int} (hx : ev e x = .int kd a) (hz : ev e z = .int kd' b) (h : k (.int kd (min a b)) c.S = some y) : runOp T (.least x z) ea c.σ (Out c d k y) := by
  have hv := ev_rel he x
  have hw := ev_rel he z
  rw [hx] at hv
  rw [hz] at hw
  refine run_of (v := .int kd (min a b)) ?_ (Out.same hR (.int _ _) h)
  simp only [AOp.run, hv.int_inv, hw.int_inv, toLeast, Option.map_some]
  congr 3
  split <;> omega
end
end Go.V
