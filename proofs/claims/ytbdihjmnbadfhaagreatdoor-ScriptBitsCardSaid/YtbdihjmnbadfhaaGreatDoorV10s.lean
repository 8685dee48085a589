/- Texts: what goes through one, what is made of numbers and bytes. -/
import Derived.Test.YtbdihjmnbadfhaaGreatDoorV10
namespace Go.V
set_option linter.unusedVariables false
set_option linter.unusedSimpArgs false
open Go.Ab
section
variable {β : Type} {T : Ab.Specs} {c : Ctx} {e : VEnv} {ea : Env} {d : List Nat} {k : VV → Store → Option β} {y : β}

theorem bytesI_at (s : ByteArray) (j : Nat) : ((bytesI s).getD j 0).toNat = (s.get! j).toNat := by
  have e1 : s.get! j = s.data[j]! := rfl
  rw [e1]
  unfold bytesI
  rcases Nat.lt_or_ge j s.data.size with h' | h'
  · rw [getElem!_pos s.data j h', List.getD_eq_getElem?_getD, List.getElem?_map, Array.getElem?_toList, Array.getElem?_eq_getElem h']
    rfl
  · rw [getElem!_neg s.data j (by omega), List.getD_eq_getElem?_getD, List.getElem?_map, Array.getElem?_toList, Array.getElem?_eq_none h']
    rfl
theorem bytesI_len (s : ByteArray) : (bytesI s).length = s.size := by
  simp [bytesI]
theorem decode_eq (s : ByteArray) (i : Nat) : Utf8.decode s i = runeN (bytesI s) i := by
  unfold Utf8.decode runeN
  simp only [bytesI_at, bytesI_len]

theorem range_ok (hR : Rel c) (he : EnvRel c e ea) {x : Operand} {l : List Int} (hx : ev e x = .str l) (h : k (.it c.S.length l) (c.S ++ [.cells 1 false [.int .i64 0]]) = some y) : runOp T (.range x) ea c.σ (Out c d k y) := by
  have hv := ev_rel he x
  rw [hx] at hv
  obtain ⟨s, hs, hl⟩ := hv.str_inv
  refine run_of (v := .iface c.σ.n (.string s)) (σ' := c.σ.add ⟨[.int .i64 0], true, 1⟩) (by simp only [AOp.run, hs]) ?_
  refine Out.new (kill := none) hR (adds hR (blk := .cells 1 false [.int .i64 0]) (x := ⟨[.int .i64 0], true, 1⟩) (d := (1, 1)) rfl (Nat.le_refl _) rfl rfl (.cons (.int _ _) .nil)) (fun _ h => by cases h) ?_ h
  refine .it (by simp [killO]) rfl hl fun d' _ => ⟨c.σ.n, ?_, rfl⟩
  simp [newMu]

theorem newB_ok (hR : Rel c) (h : k (.bld c.S.length) (c.S ++ [.cells 1 false [.str []]]) = some y) : runOp T .newB ea c.σ (Out c d k y) := by
  refine run_of (v := .iface c.σ.n .nilFunc) (σ' := c.σ.add ⟨[.string ByteArray.empty], true, 1⟩) (by simp only [AOp.run]) ?_
  refine Out.new (kill := none) hR (adds hR (blk := .cells 1 false [.str []]) (x := ⟨[.string ByteArray.empty], true, 1⟩) (d := (1, 1)) rfl (Nat.le_refl _) rfl rfl (.cons (.str rfl) .nil)) (fun _ h => by cases h) ?_ h
  refine .bld (by simp [killO]) rfl fun d' _ => ⟨c.σ.n, ?_, rfl⟩
  simp [newMu]

theorem VRel.it_inv {q : Nat} {l : List Int} {a : Value} (h : VRel c (.it q l) a) : ∃ s, bytesI s = l ∧ ∀ d, (sget c.S q).dim = some d → ∃ b, c.μ q = some b ∧ a = .iface b (.string s) := by
  cases h with
  | it _ _ hs hd => exact ⟨_, hs, hd⟩

theorem next_ok (hR : Rel c) (he : EnvRel c e ea) {x : Operand} (hd : ∀ q, blkOf (ev e x) = some q → q ∈ d) (h : nextK c.S (ev e x) k = some y) : runOp T (.next x) ea c.σ (Out c d k y) := by
  have hv := ev_rel he x
  generalize ev e x = v at *
  unfold nextK at h
  split at h
  · rename_i q l
    split at h
    · rename_i es p r hb
      obtain ⟨h1, h2⟩ := gd_some h
      rw [Bool.and_eq_true] at h1
      have hp := of_decide_eq_true h1.1
      have hes := Nat.le_of_ble_eq_true h1.2
      generalize hax : ea.ev x = a at hv
      obtain ⟨s, hs, hdim⟩ := hv.it_inv
      · skip
        obtain ⟨b, hm, rfl⟩ := hdim (es, (VV.int .i64 p :: r).length) (by rw [hb]; rfl)
        obtain ⟨y0, cs, rest, q2, q3, q4, q5, q6⟩ := hR.block (k := q) (d := (es, (VV.int .i64 p :: r).length)) (by rw [hb]; rfl) hm
        rw [hb] at q4 q6
        simp only [Blk.vals] at q6
        cases q6 with
        | cons r1 r2 =>
          rename_i c0 cr
          cases r1
          have hcells : y0.cells = .int .i64 p :: (cr ++ rest) := q5
          have hsz : s.size = l.length := by rw [← hs, bytesI_len]
          by_cases hlt : p < l.length
          · rw [decide_eq_true hlt, cond_true] at h2
            have hw : Writes c q b (.cells es false (.int .i64 (runeW l p) :: r)) ⟨.int .i64 (runeW l p) :: (cr ++ rest), true, y0.es⟩ := by
              refine ⟨by rw [hb]; rfl, hm, by rw [hb]; rfl, rfl, y0, .int .i64 (runeW l p) :: cr, rest, (es, _), q2, by rw [hb]; rfl, q3, rfl, by rw [hcells]; rfl, rfl, .cons (.int _ _) r2⟩
            refine run_of (v := .tuple #[.bool true, .int .i64 p, .int .i32 (runeC l p)]) (σ' := c.σ.set b (some ⟨.int .i64 (runeW l p) :: (cr ++ rest), true, y0.es⟩)) ?_ ⟨.tup [.bool true, .int .i64 p, .int .i32 (runeC l p)], _, rfl, hw.le hR, hw.rel hR, hw.calm hR (hd q rfl), .tup (.cons (.bool _) (.cons (.int _ _) (.cons (.int _ _) .nil))), h2⟩
            simp only [AOp.run, hax, q2]
            rw [if_pos (q4 rfl), hcells]
            simp only []
            rw [if_pos hp, if_pos (by omega), decode_eq, hs]
            rfl
          · rw [decide_eq_false hlt, cond_false] at h2
            refine run_of (v := .tuple #[.bool false]) (σ' := c.σ) ?_ (Out.same hR (.tup (.cons (.bool _) .nil)) h2)
            simp only [AOp.run, hax, q2]
            rw [if_pos (q4 rfl), hcells]
            simp only []
            rw [if_pos hp, if_neg (by omega)]
    · cases h
  · cases h

theorem encR_ok (hR : Rel c) (he : EnvRel c e ea) {x : Operand} {n : Int} (hx : intV? (ev e x) = some n) (h : k (.str (utf8I n)) c.S = some y) : runOp T (.encR x) ea c.σ (Out c d k y) := by
  have hv := ev_rel he x
  have key : intV (ea.ev x) = some n := by
    generalize ea.ev x = a at hv
    generalize ev e x = v at *
    cases hv <;> simp only [intV?] at hx <;> first | (cases hx; done) | exact hx
  refine run_of (v := .string (Utf8.encode n)) (σ' := c.σ) ?_ (Out.same hR (.str rfl) h)
  simp only [AOp.run, key, Option.map_some]

theorem ints_rel : ∀ {cs : List VV} {as : List Value} {l : List Int}, ints? .u8 cs = some l → F2 (VRel c) cs as → bytesV as = some l
  | [], _, l, h, hf => by
    cases hf
    injection h with h
    subst h
    rfl
  | v :: cs, _, l, h, hf => by
    cases hf with
    | cons h1 h2 =>
      cases v with
      | int k' n =>
        unfold ints? at h
        by_cases hk : k' = .u8
        · subst hk
          rw [decide_eq_true rfl, cond_true] at h
          cases hr : ints? .u8 cs with
          | none => rw [hr] at h; cases h
          | some r =>
            rw [hr] at h
            injection h with h
            subst h
            cases h1
            unfold bytesV
            rw [ints_rel hr h2]
            rfl
        · rw [decide_eq_false hk] at h
          cases h
      | _ => cases h
theorem flat_bytes : ∀ {l : List Int} {as : List Value}, F2 (VRel c) (flatL (.int .u8) l) as → bytesV as = some l
  | [], _, hf => by cases hf; rfl
  | n :: l, _, hf => by
    cases hf with
    | cons h1 h2 =>
      cases h1
      unfold bytesV
      rw [flat_bytes (l := l) h2]
      rfl
theorem strB_I (l : List Int) : bytesI (strB l) = l.map byteI := by
  have key : ∀ (l : List Int) (s : ByteArray), bytesI (l.foldl (fun r n => r.push (UInt8.ofNat n.toNat)) s) = bytesI s ++ l.map byteI := by
    intro l
    induction l with
    | nil => intro s; simp
    | cons n l ih =>
      intro s
      rw [List.foldl_cons, ih, List.map_cons]
      have : bytesI (s.push (UInt8.ofNat n.toNat)) = bytesI s ++ [byteI n] := by
        simp [bytesI, byteI, ByteArray.push]
      rw [this, List.append_assoc]
      rfl
  have := key l ByteArray.empty
  simpa [strB, bytesI] using this
theorem strOf_ok (hR : Rel c) (he : EnvRel c e ea) {x : Operand} (h : strOfK c.S (ev e x) k = some y) : runOp T (.strOf x) ea c.σ (Out c d k y) := by
  have hv := ev_rel he x
  have key : ∀ (m : More) (l : List Int), (∀ t, ev e x ≠ .str t) → moreOf c.S 1 (ev e x) = some m → (∀ as, F2 (VRel c) m.cellsOf as → bytesV as = some l) → k (.str (l.map byteI)) c.S = some y → runOp T (.strOf x) ea c.σ (Out c d k y) := by
    intro m l hns hm hb hk
    obtain ⟨n, all, h1, h2, h3, h4, _⟩ := moreOf_ok hR hm hv
    have h5 := h2 n (Nat.le_refl _)
    rw [Nat.mul_one, List.take_of_length_le (by omega)] at h5
    have h6 := hb all h4
    obtain ⟨p, cp, hp⟩ : ∃ p cp, ea.ev x = .slice p n cp := by
      generalize ea.ev x = a at *
      cases a <;> simp [lenV] at h1
      · generalize ev e x = v at *
        have hdm : ∀ q, (moreOf c.S 1 (.full q) = some m ∨ ∃ o n, moreOf c.S 1 (.part q o n) = some m) → ∃ d, (sget c.S q).dim = some d := by
          intro q hq
          cases hg : sget c.S q with
          | dead => rcases hq with hq | ⟨_, _, hq⟩ <;> simp [moreOf, hg] at hq
          | cells es z l => exact ⟨_, rfl⟩
          | arr s z l => exact ⟨_, rfl⟩
        cases hv with
        | str _ => exact (hns _ rfl).elim
        | undef => simp [moreOf] at hm
        | ptr _ _ _ => simp [moreOf] at hm
        | it _ _ _ _ => simp [moreOf] at hm
        | bld _ _ _ => simp [moreOf] at hm
        | pix _ _ _ _ => simp [moreOf] at hm
        | pel _ _ _ => simp [moreOf] at hm
        | tgtn _ => simp [moreOf] at hm
        | full _ _ hd =>
          obtain ⟨d, hd'⟩ := hdm _ (.inl hm)
          obtain ⟨_, _, hs⟩ := hd d hd'
          rcases hs with ⟨e, _⟩ | ⟨_, _, _, e, _⟩ <;> cases e
        | part _ _ hd =>
          obtain ⟨d, hd'⟩ := hdm _ (.inr ⟨_, _, hm⟩)
          rcases hd d hd' with ⟨e, _⟩ | ⟨_, _, _, e, _⟩ <;> cases e
      · subst h1; exact ⟨_, _, rfl⟩
    refine run_of (v := .string (strB l)) (σ' := c.σ) ?_ (Out.same hR (.str (strB_I l)) hk)
    rw [hp] at h5
    simp only [AOp.run, hp, h5, h6, Option.map_some]
  unfold strOfK at h
  split at h
  · cases h
  · rename_i hns
    split at h
    · rename_i s l hm
      by_cases hs : s = .int .u8
      · subst hs
        rw [castEl_self] at h
        exact key _ l (fun t ht => hns t ht) hm (fun as ha => flat_bytes ha) h
      · unfold castEl at h
        rw [dif_neg (fun e => hs (by injection e))] at h
        cases h
    · rename_i cs hm
      cases hi : ints? .u8 cs with
      | none => rw [hi] at h; cases h
      | some l =>
        rw [hi] at h
        exact key _ l (fun t ht => hns t ht) hm (fun as ha => ints_rel hi ha) h
    · cases h
theorem ints_relR : ∀ {cs : List VV} {as : List Value} {l : List Int}, ints? .i32 cs = some l → F2 (VRel c) cs as → runesV as = some l
  | [], _, l, h, hf => by
    cases hf
    injection h with h
    subst h
    rfl
  | v :: cs, _, l, h, hf => by
    cases hf with
    | cons h1 h2 =>
      cases v with
      | int k' n =>
        unfold ints? at h
        by_cases hk : k' = .i32
        · subst hk
          rw [decide_eq_true rfl, cond_true] at h
          cases hr : ints? .i32 cs with
          | none => rw [hr] at h; cases h
          | some r =>
            rw [hr] at h
            injection h with h
            subst h
            cases h1
            unfold runesV
            rw [ints_relR hr h2]
            rfl
        · rw [decide_eq_false hk] at h
          cases h
      | _ => cases h
theorem flat_runes : ∀ {l : List Int} {as : List Value}, F2 (VRel c) (flatL (.int .i32) l) as → runesV as = some l
  | [], _, hf => by cases hf; rfl
  | n :: l, _, hf => by
    cases hf with
    | cons h1 h2 =>
      cases h1
      unfold runesV
      rw [flat_runes (l := l) h2]
      rfl
theorem strR_I (l : List Int) : bytesI (strR l) = l.flatMap utf8I := by
  have key : ∀ (l : List Int) (s : ByteArray), bytesI (l.foldl (fun r n => r ++ Utf8.encode n) s) = bytesI s ++ l.flatMap utf8I := by
    intro l
    induction l with
    | nil => intro s; simp
    | cons n l ih =>
      intro s
      rw [List.foldl_cons, ih, List.flatMap_cons, bytesI_app, List.append_assoc]
      rfl
  have := key l ByteArray.empty
  simpa [strR, bytesI] using this
theorem strR_ok (hR : Rel c) (he : EnvRel c e ea) {x : Operand} (h : strRK c.S (ev e x) k = some y) : runOp T (.strOfR x) ea c.σ (Out c d k y) := by
  have hv := ev_rel he x
  have key : ∀ (m : More) (l : List Int), (∀ t, ev e x ≠ .str t) → moreOf c.S 1 (ev e x) = some m → (∀ as, F2 (VRel c) m.cellsOf as → runesV as = some l) → k (.str (l.flatMap utf8I)) c.S = some y → runOp T (.strOfR x) ea c.σ (Out c d k y) := by
    intro m l hns hm hb hk
    obtain ⟨n, all, h1, h2, h3, h4, _⟩ := moreOf_ok hR hm hv
    have h5 := h2 n (Nat.le_refl _)
    rw [Nat.mul_one, List.take_of_length_le (by omega)] at h5
    have h6 := hb all h4
    obtain ⟨p, cp, hp⟩ : ∃ p cp, ea.ev x = .slice p n cp := by
      generalize ea.ev x = a at *
      cases a <;> simp [lenV] at h1
      · generalize ev e x = v at *
        have hdm : ∀ q, (moreOf c.S 1 (.full q) = some m ∨ ∃ o n, moreOf c.S 1 (.part q o n) = some m) → ∃ d, (sget c.S q).dim = some d := by
          intro q hq
          cases hg : sget c.S q with
          | dead => rcases hq with hq | ⟨_, _, hq⟩ <;> simp [moreOf, hg] at hq
          | cells es z l => exact ⟨_, rfl⟩
          | arr s z l => exact ⟨_, rfl⟩
        cases hv with
        | str _ => exact (hns _ rfl).elim
        | undef => simp [moreOf] at hm
        | ptr _ _ _ => simp [moreOf] at hm
        | it _ _ _ _ => simp [moreOf] at hm
        | bld _ _ _ => simp [moreOf] at hm
        | pix _ _ _ _ => simp [moreOf] at hm
        | pel _ _ _ => simp [moreOf] at hm
        | tgtn _ => simp [moreOf] at hm
        | full _ _ hd =>
          obtain ⟨d, hd'⟩ := hdm _ (.inl hm)
          obtain ⟨_, _, hs⟩ := hd d hd'
          rcases hs with ⟨e, _⟩ | ⟨_, _, _, e, _⟩ <;> cases e
        | part _ _ hd =>
          obtain ⟨d, hd'⟩ := hdm _ (.inr ⟨_, _, hm⟩)
          rcases hd d hd' with ⟨e, _⟩ | ⟨_, _, _, e, _⟩ <;> cases e
      · subst h1; exact ⟨_, _, rfl⟩
    refine run_of (v := .string (strR l)) (σ' := c.σ) ?_ (Out.same hR (.str (strR_I l)) hk)
    rw [hp] at h5
    simp only [AOp.run, hp, h5, h6, Option.map_some]
  unfold strRK at h
  split at h
  · cases h
  · rename_i hns
    split at h
    · rename_i s l hm
      by_cases hs : s = .int .i32
      · subst hs
        rw [castEl_self] at h
        exact key _ l (fun t ht => hns t ht) hm (fun as ha => flat_runes ha) h
      · unfold castEl at h
        rw [dif_neg (fun e => hs (by injection e))] at h
        cases h
    · rename_i cs hm
      cases hi : ints? .i32 cs with
      | none => rw [hi] at h; cases h
      | some l =>
        rw [hi] at h
        exact key _ l (fun t ht => hns t ht) hm (fun as ha => ints_relR hi ha) h
    · cases h
theorem runes_eq (s : ByteArray) : ∀ (b i : Nat) (acc : Array Value), (Conv.runesFrom s b i acc).toList = acc.toList ++ (runesL b (bytesI s) i).map (Value.int .i32)
  | 0, i, acc => by simp [Conv.runesFrom, runesL]
  | b + 1, i, acc => by
    unfold Conv.runesFrom runesL
    rw [bytesI_len]
    by_cases h : i < s.size
    · rw [if_pos h, if_pos h, runes_eq s b]
      simp only [Array.toList_push, List.append_assoc, List.map_cons, decode_eq]
      rfl
    · rw [if_neg h, if_neg h]
      simp
theorem runesA_eq (s : ByteArray) : runesA s = (runesI (bytesI s)).map (Value.int .i32) := by
  unfold runesA runesI
  rw [runes_eq, bytesI_len]
  rfl
theorem flat_ints (k : IntKind) : ∀ l : List Int, F2 (VRel c) (flatL (.int k) l) (l.map (Value.int k))
  | [] => .nil
  | n :: l => .cons (.int k n) (flat_ints k l)
theorem mark_ok (hR : Rel c) (he : EnvRel c e ea) {x : Operand} (h : markK c.S (ev e x) k = some y) : runOp T (.mark x) ea c.σ (Out c d k y) := by
  have hv := ev_rel he x
  unfold markK at h
  split at h
  · rename_i q hx
    split at h
    · rename_i es u r hb
      have h2 := h
      have hfz : (sget c.S q).frozen = false := by rw [hb]; rfl
      have hd : (sget c.S q).dim = some (es, (u :: r).length) := by rw [hb]; rfl
      rw [hx] at hv
      generalize hax : ea.ev x = a at hv
      have hv0 := hv
      cases hv with
      | full hk ho hdim =>
        obtain ⟨n, hn2, hs⟩ := hdim _ hd
        rcases hs with ⟨_, _, _, _, h0⟩ | ⟨b, cp, y0, rfl, hm, hle, hcp, hy, hle2⟩
        · simp at h0
        · obtain ⟨y1, cs, rest, q2, q3, q4, q5, q6⟩ := hR.block hd hm
          have hpos : 0 < n := Nat.pos_of_ne_zero (fun e => by subst e; rw [Nat.zero_mul] at hn2; simp at hn2)
          refine run_of (v := .slice (some ⟨b, 0 * es, none⟩) n cp) (σ' := c.σ) ?_ (Out.same hR hv0 h2)
          simp only [AOp.run, hax]
          rw [if_pos hpos, q2]
          simp only [q4 hfz, if_true]
    · cases h
  · cases h
theorem runes_ok (hR : Rel c) (he : EnvRel c e ea) {x : Operand} (h : runesK c.S (ev e x) k = some y) : runOp T (.runesOf x) ea c.σ (Out c d k y) := by
  have hv := ev_rel he x
  unfold runesK at h
  split at h
  · rename_i l hx
    obtain ⟨hg, hk⟩ := gd_some h
    have hg := Nat.le_of_ble_eq_true hg
    rw [hx] at hv
    obtain ⟨s, hs, hl⟩ := hv.str_inv
    have hsz : s.size = l.length := by rw [← hl, bytesI_len]
    have hra := runesA_eq s
    rw [hl] at hra
    refine run_of (v := .slice (some ⟨c.σ.n, 0, none⟩) (runesA s).length (runesA s).length) (σ' := c.σ.add ⟨runesA s, true, 1⟩) ?_ ?_
    · simp only [AOp.run, hs]
      rw [if_pos (by omega)]
    · have hlen : (runesA s).length = (runesI l).length := by rw [hra, List.length_map]
      have hmv : Moves c none (some c.σ.n) (.arr (.int .i32) false (runesI l)) (c.σ.add ⟨runesA s, true, 1⟩) := by
        refine ⟨(fun b h _ hb => by injection h with h; subst h; exact Nat.lt_irrefl _ (hR.fbl _ hb)), (fun _ h => by cases h), fun q x hx => ?_, Nat.le_succ _, fun i x hx _ => ?_, (1, (runesI l).length * 1), rfl, Nat.le_refl _, .inr ⟨c.σ.n, ⟨runesA s, true, 1⟩, runesA s, [], rfl, if_pos rfl, rfl, fun _ => rfl, (List.append_nil _).symm, by rw [hra]; exact flat_ints _ _, .inl fun w hw => ?_⟩⟩
        · simp only [Hp.add] at hx ⊢
          split at hx
          · omega
          · have := hR.ok q x hx; omega
        · have := hR.ok i x hx
          simp only [Hp.add]
          rw [if_neg (by omega)]
          exact hx
        · have := hR.ok _ _ hw; omega
      refine Out.new (kill := none) hR hmv (fun _ h => by cases h) (new_full (dm := (1, (runesI l).length * 1)) (n := (runesA s).length) (m := (runesA s).length) (yb := ⟨runesA s, true, 1⟩) rfl (by simp only; omega) (Nat.le_refl _) (if_pos rfl) ?_) hk
      simp
  · cases h
end
end Go.V
