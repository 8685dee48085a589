/- Strings: what goes through one, what is made of numbers and bytes. -/
import Derived.Test.YtbdihjmnbadfhaaGreatDoorAb9
import Derived.Laws.BytesString
import Derived.Laws.RangeAny
import Derived.Laws.IdiomStrings
import Derived.Laws.Cover4
import Derived.Lib.OthersKept
namespace Go.Ab
open Go.RowKit
section
variable {P : Program} {o : Oper} {a : Act} {w w' : World} {B : Base P} {N : Nat} {μ : Mu} {e : Env} {σ σ' : Hp} {v : Value}

/-- A new iterator. -/
theorem R.iter (h : R B μ σ w) (s : ByteArray) : R B (μ.add σ.n ⟨w.heap.size, 0, 0, 1, 0, some (.string s)⟩) (σ.add ⟨[.int .i64 0], true, 1⟩) (w.iter s 0) ∧ μ.le (μ.add σ.n ⟨w.heap.size, 0, 0, 1, 0, some (.string s)⟩) := by
  have hf : μ σ.n = none := h.fresh _ (Nat.le_refl _)
  have hle' : μ.le (μ.add σ.n ⟨w.heap.size, 0, 0, 1, 0, some (.string s)⟩) := Mu.le_add hf
  have old : ∀ b x, b ≠ σ.n → (σ.add ⟨[.int .i64 0], true, 1⟩).m b = some x → σ.m b = some x := by
    intro b x hb hx
    simpa [Hp.add, hb] using hx
  have new : ∀ x, (σ.add ⟨[.int .i64 0], true, 1⟩).m σ.n = some x → x = ⟨[.int .i64 0], true, 1⟩ := by
    intro x hx
    simp [Hp.add] at hx
    exact hx.symm
  have oldlt : ∀ b x g, σ.m b = some x → μ b = some g → g.c < w.heap.size := fun b x g hx hg => (h.get hx hg).lt
  have hsz : (w.iter s 0).heap.size = w.heap.size + 1 := by simp [World.iter]
  refine ⟨⟨by rw [hsz]; exact Nat.le_succ_of_le h.base, fun k hk => (Below.heap_alloc w _ _ (Nat.lt_of_lt_of_le hk h.base)).trans (h.old k hk), fun b hb => ?_, fun b x hx => ?_, fun b b' x x' g g' hx hx' hne ho hg hg' => ?_, ?_⟩, hle'⟩
  · have : σ.n + 1 ≤ b := hb
    unfold Mu.add
    rw [if_neg (by omega)]
    exact h.fresh b (by omega)
  · by_cases hb : b = σ.n
    · subst hb
      obtain rfl := new x hx
      exact ⟨⟨w.heap.size, 0, 0, 1, 0, some (.string s)⟩, by simp [Mu.add], ⟨by rw [hsz]; exact Nat.lt_succ_self _, rfl, fun h0 => (by cases h0), fun h0 => (by cases h0), fun s' hs => by
        injection hs with hs
        injection hs with hs
        subst hs
        exact ⟨h.base, 0, rfl, World.iter_heap w s 0⟩, fun hs => by injection hs with hs; cases hs⟩⟩
    · have hx' := old b x hb hx
      obtain ⟨g, h1, h2⟩ := h.live b x hx'
      exact ⟨g, hle' _ _ h1, (h2.mono hle').kept (by rw [hsz]; exact Nat.le_succ _) (Below.heap_alloc w _ _ h2.lt) (fun hi k hk => Below.heap_alloc w _ _ (h.buf hx' h1 hi hk).2.1)⟩
  · by_cases hb : b = σ.n
    · subst hb
      have hb' : b' ≠ σ.n := fun e => hne e.symm
      have : g.c = w.heap.size := by simp [Mu.add] at hg; rw [← hg]
      have h2 : μ b' = some g' := by simpa [Mu.add, hb'] using hg'
      have := oldlt b' x' g' (old _ _ hb' hx') h2
      omega
    · have h1 : μ b = some g := by simpa [Mu.add, hb] using hg
      have hx1 := old b x hb hx
      by_cases hb' : b' = σ.n
      · subst hb'
        have : g'.c = w.heap.size := by simp [Mu.add] at hg'; rw [← hg']
        have := oldlt b x g hx1 h1
        omega
      · have h2 : μ b' = some g' := by simpa [Mu.add, hb'] using hg'
        exact h.inj b b' x x' g g' hx1 (old _ _ hb' hx') hne ho h1 h2
  · refine h.sep.of (fun b x g hx hg => ?_) (fun b x g hx hg hi _ => ?_)
    · by_cases hb : b = σ.n
      · subst hb
        have e1 : g = ⟨w.heap.size, 0, 0, 1, 0, some (.string s)⟩ := by simp [Mu.add] at hg; exact hg.symm
        subst e1
        exact .inr ⟨fun h0 => (by injection h0 with h0; cases h0), fun b1 x1 g1 k h1 h2 h3 h4 e => by have := (h.buf h1 h2 h3 h4).2.1; simp only at e; omega⟩
      · exact .inl ⟨x, old b x hb hx, by simpa [Mu.add, hb] using hg⟩
    · unfold bufAt
      rw [show (w.iter s 0).heap[g.c]? = w.heap[g.c]? from Below.heap_alloc w _ _ (oldlt b x g hx hg)]

/-- A new builder of texts. -/
theorem R.newB (h : R B μ σ w) {t : TypeId} (ht : isBld P t = true) : R B (μ.add σ.n ⟨w.heap.size, 0, 0, 1, t, some .nilFunc⟩) (σ.add ⟨[.string ByteArray.empty], true, 1⟩) (w.alloc (.cells #[.pointer none, .slice none 0 0] t)) ∧ μ.le (μ.add σ.n ⟨w.heap.size, 0, 0, 1, t, some .nilFunc⟩) := by
  have hf : μ σ.n = none := h.fresh _ (Nat.le_refl _)
  have hle' : μ.le (μ.add σ.n ⟨w.heap.size, 0, 0, 1, t, some .nilFunc⟩) := Mu.le_add hf
  have old : ∀ b x, b ≠ σ.n → (σ.add ⟨[.string ByteArray.empty], true, 1⟩).m b = some x → σ.m b = some x := by
    intro b x hb hx
    simpa [Hp.add, hb] using hx
  have new : ∀ x, (σ.add ⟨[.string ByteArray.empty], true, 1⟩).m σ.n = some x → x = ⟨[.string ByteArray.empty], true, 1⟩ := by
    intro x hx
    simp [Hp.add] at hx
    exact hx.symm
  have oldlt : ∀ b x g, σ.m b = some x → μ b = some g → g.c < w.heap.size := fun b x g hx hg => (h.get hx hg).lt
  have hnew : (w.alloc (.cells #[.pointer none, .slice none 0 0] t)).heap[w.heap.size]? = some (.cells #[.pointer none, .slice none 0 0] t (0, 0)) := heap_alloc_new w _
  have hbn : bufAt (w.alloc (.cells #[.pointer none, .slice none 0 0] t)) w.heap.size = none := by
    unfold bufAt
    rw [hnew]
    rfl
  refine ⟨⟨Nat.le_trans h.base (by simp), fun b hb => (Below.heap_alloc w _ _ (Nat.lt_of_lt_of_le hb h.base)).trans (h.old b hb), fun b hb => ?_, fun b x hx => ?_, fun b b' x x' g g' hx hx' hne ho hg hg' => ?_, fun b x g hx hg hi k hk b' x' g' hx' hg' => ?_⟩, hle'⟩
  · have : σ.n + 1 ≤ b := hb
    unfold Mu.add
    rw [if_neg (by omega)]
    exact h.fresh b (by omega)
  · by_cases hb : b = σ.n
    · subst hb
      obtain rfl := new x hx
      exact ⟨⟨w.heap.size, 0, 0, 1, t, some .nilFunc⟩, by simp [Mu.add], ⟨by simp, rfl, fun h0 => (by cases h0), fun h0 => (by cases h0), fun s' hs => (by injection hs with hs; cases hs), fun _ =>
        ⟨ht, .pointer none, ByteArray.empty, .inl rfl, rfl, h.base, .slice none 0 0, hnew, World.ownsRowF_nil _ _ _ _, by simp [Value.ownBlock]⟩⟩⟩
    · have hx' := old b x hb hx
      obtain ⟨g, h1, h2⟩ := h.live b x hx'
      exact ⟨g, hle' _ _ h1, (h2.mono hle').kept (by simp) (Below.heap_alloc w _ _ h2.lt) (fun hi k hk => Below.heap_alloc w _ _ (h.buf hx' h1 hi hk).2.1)⟩
  · by_cases hb : b = σ.n
    · subst hb
      have hb' : b' ≠ σ.n := fun e => hne e.symm
      have : g.c = w.heap.size := by simp [Mu.add] at hg; rw [← hg]
      have h2 : μ b' = some g' := by simpa [Mu.add, hb'] using hg'
      have := oldlt b' x' g' (old _ _ hb' hx') h2
      omega
    · have h1 : μ b = some g := by simpa [Mu.add, hb] using hg
      have hx1 := old b x hb hx
      by_cases hb' : b' = σ.n
      · subst hb'
        have : g'.c = w.heap.size := by simp [Mu.add] at hg'; rw [← hg']
        have := oldlt b x g hx1 h1
        omega
      · have h2 : μ b' = some g' := by simpa [Mu.add, hb'] using hg'
        exact h.inj b b' x x' g g' hx1 (old _ _ hb' hx') hne ho h1 h2
  · by_cases hb : b = σ.n
    · subst hb
      have e1 : g.c = w.heap.size := by simp [Mu.add] at hg; rw [← hg]
      rw [e1, hbn] at hk
      cases hk
    · have h1 : μ b = some g := by simpa [Mu.add, hb] using hg
      have hx1 := old b x hb hx
      have hkw : bufAt w g.c = some k := by
        rw [← hk]
        unfold bufAt
        rw [Below.heap_alloc w _ _ (oldlt b x g hx1 h1)]
      have hklt := (h.buf hx1 h1 hi hkw).2.1
      by_cases hb' : b' = σ.n
      · subst hb'
        have e1 : g'.c = w.heap.size := by simp [Mu.add] at hg'; rw [← hg']
        refine ⟨by omega, fun _ _ hk' => ?_⟩
        rw [e1, hbn] at hk'
        cases hk'
      · have h2 : μ b' = some g' := by simpa [Mu.add, hb'] using hg'
        have hx2 := old b' x' hb' hx'
        obtain ⟨m1, m2⟩ := h.sep b x g hx1 h1 hi k hkw b' x' g' hx2 h2
        refine ⟨m1, fun hne hi' => ?_⟩
        have := m2 hne hi'
        unfold bufAt at this ⊢
        rw [Below.heap_alloc w _ _ (oldlt b' x' g' hx2 h2)]
        exact this
theorem ok_newB {t : TypeId} (ho : o.op = .alloc t) (ht : isBld P t = true) (hz : zeroOf P t = some [.pointer none, .slice none 0 0]) (hr : AOp.newB.run e σ = some (v, σ')) (hR : R B μ σ w) : Done P o a w B μ v σ' := by
  obtain ⟨z', h1, h2, h3⟩ := zeroOf_some hz
  simp only [AOp.run, Option.some.injEq, Prod.mk.injEq] at hr
  obtain ⟨rfl, rfl⟩ := hr
  obtain ⟨k1, k2⟩ := hR.newB ht
  have hc : z'.cells = #[.pointer none, .slice none 0 0] := Array.toList_inj.1 h2
  refine ⟨_, _, _, .pointer (some ⟨w.heap.size, 0, none⟩), ?_, .inl rfl, k2, k1, ?_, (Below.refl _ _).alloc hR.base _⟩
  · simp [execOp, ho, Instr.alloc, h1, newVar, newRow, hc]
  · exact .iter (g := ⟨w.heap.size, 0, 0, 1, t, some .nilFunc⟩) (by simp [Mu.add]) rfl

/-- An iterator goes on. -/
theorem R.step (h : R B μ σ w) {b : Nat} {x : Blk} {g : G} {s : ByteArray} (hx : σ.m b = some x) (ho : x.own = true) (hg : μ b = some g) (hit : g.it = some (.string s)) (q : Nat) :
    R B μ (σ.set b (some ⟨[.int .i64 (q : Int)], true, x.es⟩)) (w.iterAt g.c s q) := by
  have hl := h.get hx hg
  obtain ⟨o1, p, o3, o4⟩ := hl.iter s hit
  have hother : ∀ k, k ≠ g.c → (w.iterAt g.c s q).heap[k]? = w.heap[k]? := fun k hk => Lib.iterAt_other w _ k s q hk
  have hsz : (w.iterAt g.c s q).heap.size = w.heap.size := Lib.iterAt_size w _ s q
  have old : ∀ b' x', b' ≠ b → (σ.set b (some ⟨[.int .i64 (q : Int)], true, x.es⟩)).m b' = some x' → σ.m b' = some x' := by
    intro b' x' hb hx'
    simpa [Hp.set, hb] using hx'
  have new : ∀ x', (σ.set b (some ⟨[.int .i64 (q : Int)], true, x.es⟩)).m b = some x' → x' = ⟨[.int .i64 (q : Int)], true, x.es⟩ := by
    intro x' hx'
    simp [Hp.set] at hx'
    exact hx'.symm
  refine ⟨by rw [hsz]; exact h.base, fun k hk => (hother k (by omega)).trans (h.old k hk), h.fresh, fun b' x' hx' => ?_, fun b1 b2 x1 x2 g1 g2 h1 h2 hne hown hg1 hg2 => ?_, ?_⟩
  · by_cases hb : b' = b
    · subst hb
      obtain rfl := new x' hx'
      exact ⟨g, hg, ⟨by rw [hsz]; exact hl.lt, hl.es, fun h0 => (by rw [hit] at h0; cases h0), fun h0 => (by rw [hit] at h0; cases h0), fun s' hs => by
        rw [hit] at hs
        injection hs with hs
        injection hs with hs
        subst hs
        exact ⟨o1, q, rfl, Lib.iterAt_heap w _ s p q o4⟩, fun hs => by rw [hit] at hs; injection hs with hs; cases hs⟩⟩
    · have hx1 := old b' x' hb hx'
      obtain ⟨g', h1, h2⟩ := h.live b' x' hx1
      exact ⟨g', h1, h.stays hx1 h1 (by rw [hsz]; exact Nat.le_refl _) g.c (fun k hk _ => hother k hk) (fun e => h.inj b b' x x' g g' hx hx1 (fun e => hb e.symm) ho hg h1 e.symm) (fun hi hk => ((h.sep b' x' g' hx1 h1 hi _ hk b x g hx hg).1 rfl))⟩
  · have keyown : ∀ b' x', (σ.set b (some ⟨[.int .i64 (q : Int)], true, x.es⟩)).m b' = some x' → ∃ y, σ.m b' = some y ∧ y.own = x'.own := by
      intro b' x' hx'
      by_cases hb : b' = b
      · subst hb
        obtain rfl := new x' hx'
        exact ⟨x, hx, ho⟩
      · exact ⟨x', old b' x' hb hx', rfl⟩
    obtain ⟨y1, hy1, e1⟩ := keyown _ _ h1
    obtain ⟨y2, hy2, _⟩ := keyown _ _ h2
    exact h.inj b1 b2 y1 y2 g1 g2 hy1 hy2 hne (e1.trans hown) hg1 hg2
  · have oldl : ∀ b' x', (σ.set b (some ⟨[.int .i64 (q : Int)], true, x.es⟩)).m b' = some x' → ∃ y, σ.m b' = some y := by
      intro b' x' hx'
      by_cases hb : b' = b
      · subst hb; exact ⟨x, hx⟩
      · exact ⟨x', old b' x' hb hx'⟩
    refine h.sep.of (fun b' x' g' hx' hg' => .inl (let ⟨y, hy⟩ := oldl b' x' hx'; ⟨y, hy, hg'⟩)) (fun b' x' g' hx' hg' hi _ => ?_)
    have hne : b' ≠ b := fun e => by subst e; rw [hg] at hg'; injection hg' with hg'; subst hg'; rw [hit] at hi; injection hi with hi; cases hi
    unfold bufAt
    rw [hother _ (fun e => h.inj b b' x x' g g' hx hx' (fun e => hne e.symm) ho hg hg' e.symm)]

theorem ok_range {t : TypeId} {x : Operand} (ho : o.op = .range t x) (hu : P.underlying t = some .string) (hx : okOpd x = true) (hr : (AOp.range x).run e σ = some (v, σ')) (he : EnvR μ N e a.tmps) (hR : R B μ σ w) : Done P o a w B μ v σ' := by
  have h := he.ev hx
  simp only [AOp.run] at hr
  split at hr
  · rename_i s hs
    simp only [Option.some.injEq, Prod.mk.injEq] at hr
    obtain ⟨rfl, rfl⟩ := hr
    rw [hs] at h
    obtain ⟨h1, h2⟩ := hR.iter s
    refine ⟨_, _, _, .pointer (some ⟨w.heap.size, 0, none⟩), ?_, .inl rfl, h2, h1, ?_, (Below.refl _ _).alloc hR.base _⟩
    · have := run_range_string (P := P) w t s hu
      simp [execOp, ho, h.string_inv, this]
    · exact .iter (g := ⟨w.heap.size, 0, 0, 1, 0, some (.string s)⟩) (by simp [Mu.add]) rfl
  · cases hr

theorem ok_next {x : Operand} (ho : o.op = .next x true) (hx : okOpd x = true) (hr : (AOp.next x).run e σ = some (v, σ')) (he : EnvR μ N e a.tmps) (hR : R B μ σ w) : Done P o a w B μ v σ' := by
  have h := he.ev hx
  simp only [AOp.run] at hr
  split at hr
  · rename_i b s hs
    rw [hs] at h
    obtain ⟨g, hg, hit, hv⟩ : ∃ g, μ b = some g ∧ g.it = some (.string s) ∧ a.eval x = .pointer (some ⟨g.c, 0, none⟩) := by
      generalize a.eval x = u at h
      cases h with
      | iter k1 k2 => exact ⟨_, k1, k2, rfl⟩
    split at hr
    · rename_i blk hblk
      split at hr
      · rename_i hown
        split at hr
        · rename_i p r hp
          have hl := hR.get hblk hg
          obtain ⟨o1, q, o3, o4⟩ := hl.iter s hit
          rw [hp] at o3
          simp at o3
          obtain ⟨rfl, rfl⟩ := o3
          split at hr
          · rw [Int.toNat_natCast] at hr
            split at hr
            · rename_i hlt
              simp only [Option.some.injEq, Prod.mk.injEq] at hr
              obtain ⟨rfl, rfl⟩ := hr
              have h1 := hR.step hblk hown hg hit (q + (Utf8.decode s q).2)
              refine ⟨_, _, μ, .tuple #[.bool true, .int .i64 q, .int .i32 (Utf8.decode s q).1], ?_, .inl rfl, μ.le_refl, h1, .tuple (.cons (.bool _) (.cons (.int _ _) (.cons (.int _ _) .nil))), Lib.below_iterAt (Below.refl _ _) o1 s _⟩
              have := Lib.run_next_any_at (P := P) w g.c s q o.type o4 hlt
              simp [execOp, ho, hv, this]
            · rename_i hlt
              simp only [Option.some.injEq, Prod.mk.injEq] at hr
              obtain ⟨rfl, rfl⟩ := hr
              have := Lib.run_next_end_at (P := P) w g.c s q o.type o4 hlt
              exact .same hR (by simp [execOp, ho, hv, this]) (.tuple (.cons (.bool _) .nil))
          · cases hr
        · cases hr
      · cases hr
    · cases hr
  · cases hr

theorem ok_encR {s d : TypeId} {k' : IntKind} {x : Operand} (ho : o.op = .convert s d x) (hs : P.underlying s = some (.int k')) (hd : P.underlying d = some .string) (hx : okOpd x = true) (hr : (AOp.encR x).run e σ = some (v, σ')) (he : EnvR μ N e a.tmps) (hR : R B μ σ w) : Done P o a w B μ v σ' := by
  simp only [AOp.run] at hr
  obtain ⟨n, hn, hr⟩ := Option.map_eq_some_iff.1 hr
  simp only [Prod.mk.injEq] at hr
  obtain ⟨rfl, rfl⟩ := hr
  have h := he.ev hx
  generalize e.ev x = u at *
  cases u <;> simp [intV] at hn
  subst hn
  have := h.int_inv
  exact .same hR (by simp [execOp, ho, this, convert, run_und hs, run_und hd, Conv.intToString]) (.string _)

theorem bytesV_some {μ : Mu} : ∀ {cs cs' : List Value} {l : List Int}, F2 (VR μ) cs cs' → bytesV cs = some l → cs' = l.map (Value.int .u8)
  | [], _, l, h, hl => by
    cases h
    simp [bytesV] at hl
    subst hl
    rfl
  | c :: cs, _, l, h, hl => by
    cases h with
    | cons h1 h2 =>
      rename_i c' cs'
      unfold bytesV at hl
      split at hl
      · rename_i he; cases he
      · rename_i n r he
        injection he with e1 e2
        subst e1
        subst e2
        obtain ⟨l', h3, h4⟩ := Option.map_eq_some_iff.1 hl
        subst h4
        rw [bytesV_some h2 h3, h1.int_inv]
        rfl
      · cases hl

/-- A block is marked behind its end: what it stands for is as it was. -/
theorem freeze_othA (w : World) (a : Addr) (n : Nat) {k : Nat} (hk : k ≠ a.block) : (w.freeze a n).heap[k]? = w.heap[k]? := by
  unfold World.freeze
  split
  · rfl
  · simp only [Array.getElem?_modify]
    rw [if_neg (fun e => hk e.symm)]
theorem freeze_sizeA (w : World) (a : Addr) (n : Nat) : (w.freeze a n).heap.size = w.heap.size := by
  unfold World.freeze
  split
  · rfl
  · simp
theorem R.marked (h : R B μ σ w) {b : Nat} {x : Blk} {g : G} (hx : σ.m b = some x) (ho : x.own = true) (hg : μ b = some g) (hit : g.it = none) {cur : Array Value} {t : TypeId} {fr : Nat × Nat} (o4 : w.heap[g.c]? = some (.cells cur t fr)) :
    R B μ σ (w.freeze ⟨g.c, cur.size, none⟩ 1) ∧ Below B w (w.freeze ⟨g.c, cur.size, none⟩ 1) := by
  have hl := h.get hx hg
  obtain ⟨o1, o2, cur', e', fr', o4', o5, o6⟩ := hl.own hit ho
  rw [o4] at o4'
  simp only [Option.some.injEq, Obj.cells.injEq] at o4'
  obtain ⟨rfl, rfl, rfl⟩ := o4'
  have hother : ∀ k, k ≠ g.c → (w.freeze ⟨g.c, cur.size, none⟩ 1).heap[k]? = w.heap[k]? := fun k hk => freeze_othA w _ _ hk
  have hsame : ∃ fr2 : Nat × Nat, (w.freeze ⟨g.c, cur.size, none⟩ 1).heap[g.c]? = some (.cells cur t fr2) ∧ (cur.size ≤ fr2.1 ∨ fr2.1 = fr2.2) := by
    obtain ⟨lo, hi⟩ := fr
    refine ⟨if lo == hi then (cur.size, cur.size + 1) else (min lo cur.size, max hi (cur.size + 1)), ?_, ?_⟩
    · simp [World.freeze, Array.getElem?_modify, o4]
    · left
      simp only at o6
      by_cases hlh : lo = hi
      · simp [hlh]
      · simp [hlh]; omega
  obtain ⟨fr2, hs1, hs2⟩ := hsame
  refine ⟨⟨by rw [freeze_sizeA]; exact h.base, fun k hk => (hother k (by omega)).trans (h.old k hk), h.fresh, fun b' x' hx' => ?_, h.inj, ?_⟩, ⟨?_, ?_, ?_, by rw [freeze_sizeA]; exact Nat.le_refl _, fun k hk => hother k (by omega)⟩⟩
  · by_cases hb : b' = b
    · subst hb
      rw [hx] at hx'
      injection hx' with hx'
      subst hx'
      refine ⟨g, hg, ⟨by rw [freeze_sizeA]; exact hl.lt, hl.es, fun _ j u hu => ?_, fun _ _ => ⟨o1, o2, cur, t, fr2, hs1, o5, hs2⟩, fun s hs => (by rw [hit] at hs; cases hs), fun hs => by rw [hit] at hs; cases hs⟩⟩
      obtain ⟨u', h1, h2⟩ := hl.cell hit j u hu
      refine ⟨u', ?_, h2⟩
      rw [cell_of_row _ _ _ _ t fr o4] at h1
      rw [cell_of_row _ _ _ _ t fr2 hs1]
      exact h1
    · obtain ⟨g', h1, h2⟩ := h.live b' x' hx'
      exact ⟨g', h1, h.stays hx' h1 (by rw [freeze_sizeA]; exact Nat.le_refl _) g.c (fun k hk _ => hother k hk) (fun e => h.inj b b' x x' g g' hx hx' (fun e => hb e.symm) ho hg h1 e.symm) (fun hi hk => ((h.sep b' x' g' hx' h1 hi _ hk b x g hx hg).1 rfl))⟩
  · refine h.sep.of (fun b' x' g' hx' hg' => .inl ⟨x', hx', hg'⟩) (fun b' x' g' hx' hg' hi _ => ?_)
    have hne : b' ≠ b := fun e => by subst e; rw [hg] at hg'; injection hg' with hg'; subst hg'; rw [hit] at hi; cases hi
    unfold bufAt
    rw [hother _ (fun e => h.inj b b' x x' g g' hx hx' (fun e => hne e.symm) ho hg hg' e.symm)]
  · unfold World.freeze; split <;> rfl
  · unfold World.freeze; split <;> rfl
  · unfold World.freeze; split <;> rfl
theorem ok_mark {s t : TypeId} {x : Operand} (ho : o.op = .convert s s x) (hs : P.underlying s = some (.slice t)) (ht : P.underlying t = some (.int .u8)) (hx : okOpd x = true) (hr : (AOp.mark x).run e σ = some (v, σ')) (he : EnvR μ N e a.tmps) (hR : R B μ σ w) : Done P o a w B μ v σ' := by
  have h := he.ev hx
  simp only [AOp.run] at hr
  split at hr
  · rename_i b of n c hp
    rw [hp] at h
    split at hr
    · rename_i h0
      split at hr
      · rename_i blk hb
        split at hr
        · rename_i hown
          simp only [Option.some.injEq, Prod.mk.injEq] at hr
          obtain ⟨rfl, rfl⟩ := hr
          generalize hq : a.eval x = u at h
          cases h with
          | slice k1 k2 k3 k4 =>
            rename_i c' g
            obtain ⟨o1, o2, cur, e', fr, o4, o5, o6⟩ := (hR.get hb k1.1).own k1.2 hown
            obtain ⟨m1, m2⟩ := hR.marked hb hown k1.1 k1.2 o4
            refine ⟨_, _, μ, .slice (some ⟨g.c, g.o + of, none⟩) n c', ?_, .inl rfl, μ.le_refl, m1, .slice k1 k2 k3 k4, m2⟩
            have hsh : w.shape? g.c = some (e', cur.size) := by simp [World.shape?, o4]
            have h9 : (markStringish ⟨g.c, g.o + of, none⟩).run P w = .ok () (w.freeze ⟨g.c, cur.size, none⟩ 1) := by
              unfold markStringish shape
              simp only [Sem.run_bind]
              rw [show (Sem.shape g.c Sem.pure).run P w = .ok (w.shape? g.c) w from rfl, hsh]
              rfl
            simp [execOp, ho, hq, convert, run_und hs, run_und ht, h9]
          | slice0 A' k1 => omega
        · cases hr
      · cases hr
    · cases hr
  · cases hr

theorem ok_strOf {s d t : TypeId} {x : Operand} (ho : o.op = .convert s d x) (hs : P.underlying s = some (.slice t)) (ht : P.underlying t = some (.int .u8)) (hd : P.underlying d = some .string) (hx : okOpd x = true) (hr : (AOp.strOf x).run e σ = some (v, σ')) (he : EnvR μ N e a.tmps) (hR : R B μ σ w) : Done P o a w B μ v σ' := by
  have h := he.ev hx
  simp only [AOp.run] at hr
  split at hr
  · rename_i p n c hp
    rw [hp] at h
    split at hr
    · rename_i cs hcs
      obtain ⟨l, hl, hr⟩ := Option.map_eq_some_iff.1 hr
      simp only [Prod.mk.injEq] at hr
      obtain ⟨rfl, rfl⟩ := hr
      obtain ⟨arr, h1, h2⟩ := firstCells_ok (P := P) (es := 1) (n := n) (ln := n) rfl (Nat.le_refl _) hcs hR h
      have h3 := bytesV_some h2 hl
      have h1' := h1 w rfl
      have key : ∀ (q : Option Addr) (c' : Nat), a.eval x = .slice q n c' → (n = 0 ∨ ∃ z, q = some z) → (execOp a.eval o).run P w = .ok (.value (.string (strB l))) w := by
        intro q c' hq hz
        rw [hq] at h1'
        cases q with
        | none =>
          rcases hz with hz | ⟨z, hz⟩
          · subst hz
            simp [Builtin.firstCells] at h1'
            subst h1'
            have hl0 : l = [] := by simpa using h3.symm
            subst hl0
            simp [execOp, ho, hq, run_convert_bytes_string w s d t none 0 c' hs ht hd, Conv.bytesToString, strB]
          · cases hz
        | some z =>
          have hload : (loadCells z n).run P w = .ok (l.map (Value.int .u8)).toArray w := by
            simp only [Builtin.firstCells, Nat.mul_one] at h1'
            rw [h1', ← h3]
          simp [execOp, ho, hq, run_convert_bytes_string w s d t (some z) n c' hs ht hd, run_bytesToString w z n c' l hload, strB]
      generalize hq : a.eval x = u at h
      cases h with
      | nils => exact .same hR (key none 0 hq (.inl rfl)) (.string _)
      | slice k1 k2 k3 k4 => exact .same hR (key _ _ hq (.inr ⟨_, rfl⟩)) (.string _)
      | slice0 A' k1 => exact .same hR (key _ _ hq (.inl rfl)) (.string _)
      | sliceX k1 k2 => exact .same hR (key _ _ hq (.inr ⟨_, rfl⟩)) (.string _)
      | sliceX0 A' k1 => exact .same hR (key _ _ hq (.inl rfl)) (.string _)
    · cases hr
  · cases hr
theorem runesV_some {μ : Mu} : ∀ {cs cs' : List Value} {l : List Int}, F2 (VR μ) cs cs' → runesV cs = some l → cs' = l.map (Value.int .i32)
  | [], _, l, h, hl => by
    cases h
    simp [runesV] at hl
    subst hl
    rfl
  | c :: cs, _, l, h, hl => by
    cases h with
    | cons h1 h2 =>
      rename_i c' cs'
      unfold runesV at hl
      split at hl
      · rename_i he; cases he
      · rename_i n r he
        injection he with e1 e2
        subst e1
        subst e2
        obtain ⟨l', h3, h4⟩ := Option.map_eq_some_iff.1 hl
        subst h4
        rw [runesV_some h2 h3, h1.int_inv]
        rfl
      · cases hl

theorem ok_strOfR {s d t : TypeId} {x : Operand} (ho : o.op = .convert s d x) (hs : P.underlying s = some (.slice t)) (ht : P.underlying t = some (.int .i32)) (hd : P.underlying d = some .string) (hx : okOpd x = true) (hr : (AOp.strOfR x).run e σ = some (v, σ')) (he : EnvR μ N e a.tmps) (hR : R B μ σ w) : Done P o a w B μ v σ' := by
  have h := he.ev hx
  simp only [AOp.run] at hr
  split at hr
  · rename_i p n c hp
    rw [hp] at h
    split at hr
    · rename_i cs hcs
      obtain ⟨l, hl, hr⟩ := Option.map_eq_some_iff.1 hr
      simp only [Prod.mk.injEq] at hr
      obtain ⟨rfl, rfl⟩ := hr
      obtain ⟨arr, h1, h2⟩ := firstCells_ok (P := P) (es := 1) (n := n) (ln := n) rfl (Nat.le_refl _) hcs hR h
      have h3 := runesV_some h2 hl
      have h1' := h1 w rfl
      have key : ∀ (q : Option Addr) (c' : Nat), a.eval x = .slice q n c' → (n = 0 ∨ ∃ z, q = some z) → (execOp a.eval o).run P w = .ok (.value (.string (strR l))) w := by
        intro q c' hq hz
        rw [hq] at h1'
        cases q with
        | none =>
          rcases hz with hz | ⟨z, hz⟩
          · subst hz
            simp [Builtin.firstCells] at h1'
            subst h1'
            have hl0 : l = [] := by simpa using h3.symm
            subst hl0
            simp [execOp, ho, hq, run_convert_runes_string w s d t none 0 c' hs ht hd, Conv.runesToString, strR]
          · cases hz
        | some z =>
          have hload : (loadCells z n).run P w = .ok (l.map (Value.int .i32)).toArray w := by
            simp only [Builtin.firstCells, Nat.mul_one] at h1'
            rw [h1', ← h3]
          simp [execOp, ho, hq, run_convert_runes_string w s d t (some z) n c' hs ht hd, run_runesToString w z n c' l hload, strR, runesBytes]
      generalize hq : a.eval x = u at h
      cases h with
      | nils => exact .same hR (key none 0 hq (.inl rfl)) (.string _)
      | slice k1 k2 k3 k4 => exact .same hR (key _ _ hq (.inr ⟨_, rfl⟩)) (.string _)
      | slice0 A' k1 => exact .same hR (key _ _ hq (.inl rfl)) (.string _)
      | sliceX k1 k2 => exact .same hR (key _ _ hq (.inr ⟨_, rfl⟩)) (.string _)
      | sliceX0 A' k1 => exact .same hR (key _ _ hq (.inl rfl)) (.string _)
    · cases hr
  · cases hr
theorem ok_runesOf {s d t : TypeId} {x : Operand} (ho : o.op = .convert s d x) (hs : P.underlying s = some .string) (hd : P.underlying d = some (.slice t)) (ht : P.underlying t = some (.int .i32)) (hx : okOpd x = true) (hr : (AOp.runesOf x).run e σ = some (v, σ')) (he : EnvR μ N e a.tmps) (hR : R B μ σ w) : Done P o a w B μ v σ' := by
  have h := he.ev hx
  simp only [AOp.run] at hr
  split at hr
  · rename_i z hz
    rw [hz] at h
    split at hr
    · rename_i hsz
      simp only [Option.some.injEq, Prod.mk.injEq] at hr
      obtain ⟨rfl, rfl⟩ := hr
      have hv := h.string_inv
      have hn : (Conv.runesFrom z z.size 0 #[]).size ≤ 70368744177664 := by
        have := size_runesFrom z z.size 0 #[]
        simp at this
        omega
      have hrun := run_runes_of_string (P := P) w s d t z hs hd ht hn
      have hint : ∀ (s : ByteArray) (b i : Nat) (acc : Array Value), (∀ u ∈ acc.toList, ∃ n, u = Value.int .i32 n) → ∀ u ∈ (Conv.runesFrom s b i acc).toList, ∃ n, u = Value.int .i32 n := by
        intro s b
        induction b with
        | zero => intro i acc h u hu; exact h u hu
        | succ b ih =>
          intro i acc h u hu
          unfold Conv.runesFrom at hu
          split at hu
          · refine ih _ _ (fun y hy => ?_) u hu
            rw [Array.toList_push, List.mem_append] at hy
            rcases hy with hy | hy
            · exact h y hy
            · rw [List.mem_singleton] at hy; exact ⟨_, hy⟩
          · exact h u hu
      have hF : F2 (VR μ) (runesA z) (runesA z) := F2.same _ fun u hu => by
        obtain ⟨n, rfl⟩ := hint z z.size 0 #[] (fun u hu => by simp at hu) u hu
        exact .int _ _
      have hge := grownCap_ge w (Conv.runesFrom z z.size 0 #[]).size 0 t
      have hdrew : R B μ σ w.drew := hR.same rfl
      obtain ⟨m1, m2⟩ := hdrew.add (Conv.runesFrom z z.size 0 #[] ++ Array.replicate (grownCap w (Conv.runesFrom z z.size 0 #[]).size 0 t - (Conv.runesFrom z z.size 0 #[]).size) (.int .i32 0)) t (runesA z) 1 (by
        unfold runesA
        rw [Array.size_append, Array.length_toList]
        omega) (by
        unfold runesA
        rw [Array.toList_append, List.take_left]
        exact hF)
      have hlen : (runesA z).length = (Conv.runesFrom z z.size 0 #[]).size := by unfold runesA; simp
      refine ⟨_, _, _, .slice (some ⟨w.heap.size, 0, none⟩) (Conv.runesFrom z z.size 0 #[]).size (grownCap w (Conv.runesFrom z z.size 0 #[]).size 0 t), ?_, .inl rfl, m2, m1, ?_, ((Below.refl _ _).drew).alloc hR.base _⟩
      · simp [execOp, ho, hv, hrun]
      · rw [hlen]
        exact .slice (o := 0) (g := ⟨w.drew.heap.size, 0, _, 1, t, none⟩) ⟨by unfold Mu.add; exact if_pos rfl, rfl⟩ (Nat.le_refl _) hge (by
          simp only [Array.size_append, Array.size_replicate]
          omega)
    · cases hr
  · cases hr
end
end Go.Ab
