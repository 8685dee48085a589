/- The translation is right, operation by operation. -/
import Derived.Test.YtbdihjmnbadfhaaGreatDoorAb9s
namespace Go.Ab
open Go.RowKit

section
variable {P : Program} {o : Oper} {a : Act} {w : World} {B : Base P} {N : Nat} {μ : Mu} {e : Env} {σ σ' : Hp} {v : Value}

theorem opdO_some {x y : Option Operand} (h : opdO x = some y) : x = y ∧ ∀ u, y = some u → okOpd u = true := by
  unfold opdO at h
  split at h
  · rename_i x
    obtain ⟨z, hz, h⟩ := Option.map_eq_some_iff.1 h
    obtain ⟨rfl, h2⟩ := opd_some hz
    subst h
    exact ⟨rfl, fun u hu => by injection hu with hu; exact hu ▸ h2⟩
  · injection h with h
    subst h
    exact ⟨rfl, fun u hu => by cases hu⟩

def AOp.isCall : AOp → Bool
  | .call _ _ | .callv _ _ => true
  | _ => false

theorem trBin_ok {op : BinOp} {t t' : TypeId} {x y : Operand} {ao : AOp} (ho : o.op = .binOp op t x y t') (h : trBin P op t x y = some ao) (hr : ao.run e σ = some (v, σ')) (he : EnvR μ N e a.tmps) (hR : R B μ σ w) : Done P o a w B μ v σ' := by
  unfold trBin at h
  split at h
  · split at h
    · rename_i h1 h2
      obtain ⟨rfl, k1⟩ := opd_some h1
      obtain ⟨rfl, k2⟩ := opd_some h2
      injection h with h
      subst h
      exact ok_bin ho k1 k2 hr he hR
    · cases h
  · split at h
    · rename_i h1 h2
      obtain ⟨rfl, k1⟩ := opd_some h1
      obtain ⟨rfl, k2⟩ := opd_some h2
      injection h with h
      subst h
      exact ok_bin ho k1 k2 hr he hR
    · cases h
  · split at h
    · rename_i hf h1 h2
      obtain ⟨rfl, k1⟩ := opd_some h1
      obtain ⟨rfl, k2⟩ := opd_some h2
      injection h with h
      subst h
      exact ok_eqCells ho rfl hf k1 k2 hr he hR
    · rename_i hf h1 h2
      obtain ⟨rfl, k1⟩ := opd_some h1
      obtain ⟨rfl, k2⟩ := opd_some h2
      injection h with h
      subst h
      exact ok_eqCells ho rfl hf k1 k2 hr he hR
    · cases h
  · split at h
    · rename_i hf h1 h2
      obtain ⟨rfl, k1⟩ := opd_some h1
      obtain ⟨rfl, k2⟩ := opd_some h2
      injection h with h
      subst h
      exact ok_eqCells ho rfl hf k1 k2 hr he hR
    · rename_i hf h1 h2
      obtain ⟨rfl, k1⟩ := opd_some h1
      obtain ⟨rfl, k2⟩ := opd_some h2
      injection h with h
      subst h
      exact ok_eqCells ho rfl hf k1 k2 hr he hR
    · cases h
  · rename_i hu
    split at h
    · rename_i hk h1 h2
      obtain ⟨rfl, k1⟩ := opd_some h1
      obtain ⟨rfl, k2⟩ := opd_some h2
      injection h with h
      subst h
      exact ok_eqv ho rfl hu hk k1 k2 hr he hR
    · rename_i hk h1 h2
      obtain ⟨rfl, k1⟩ := opd_some h1
      obtain ⟨rfl, k2⟩ := opd_some h2
      injection h with h
      subst h
      exact ok_eqv ho rfl hu hk k1 k2 hr he hR
    · cases h
  · cases h

theorem trCall_ok {c : Call} {ao : AOp} (ho : o.op = .call c) (h : trCall P c = some ao) (hc : ao.isCall = false) (hr : ao.run e σ = some (v, σ')) (he : EnvR μ N e a.tmps) (hR : R B μ σ w) : Done P o a w B μ v σ' := by
  unfold trCall at h
  split at h
  · split at h
    · obtain ⟨x, _, h⟩ := Option.map_eq_some_iff.1 h
      subst h
      simp [AOp.isCall] at hc
    · cases h
  · obtain ⟨x, _, h⟩ := Option.map_eq_some_iff.1 h
    subst h
    simp [AOp.isCall] at hc
  · rename_i hcal
    split at h
    · rename_i ha ht
      split at h
      · rename_i hu1 hu2 h1 h2
        obtain ⟨rfl, k1⟩ := opd_some h1
        obtain ⟨rfl, k2⟩ := opd_some h2
        split at h
        · rename_i hn hb hz
          split at h
          · rename_i hzn
            injection h with h
            subst h
            exact ok_append ho hcal ha ht hu1 (.inl ⟨_, hu2⟩) hn hb hz hzn k1 k2 hr he hR
          · cases h
        · cases h
      · rename_i hu1 hu2 h1 h2
        obtain ⟨rfl, k1⟩ := opd_some h1
        obtain ⟨rfl, k2⟩ := opd_some h2
        split at h
        · rename_i hn hb hz
          split at h
          · rename_i hzn
            injection h with h
            subst h
            exact ok_append ho hcal ha ht hu1 (.inr hu2) hn hb hz hzn k1 k2 hr he hR
          · cases h
        · cases h
      · rename_i hu1 hu2 h1 h2
        obtain ⟨rfl, k1⟩ := opd_some h1
        obtain ⟨rfl, k2⟩ := opd_some h2
        split at h
        · rename_i hn hb hz
          split at h
          · rename_i hzn
            injection h with h
            subst h
            exact ok_appendZ ho hcal ha ht hu1 ⟨_, hu2⟩ hn hb hz hzn.1 hzn.2 k1 k2 hr he hR
          · cases h
        · cases h
      · cases h
    · cases h
  · rename_i hcal
    split at h
    · rename_i ha ht
      split at h
      · rename_i hu h1 h2
        obtain ⟨rfl, k1⟩ := opd_some h1
        obtain ⟨rfl, k2⟩ := opd_some h2
        split at h
        · rename_i hn
          injection h with h
          subst h
          exact ok_copy ho hcal ha ht hu hn k1 k2 hr he hR
        · cases h
      · cases h
    · cases h
  · rename_i hcal
    split at h
    · rename_i ha ht
      split at h
      · rename_i hu h1
        obtain ⟨rfl, k1⟩ := opd_some h1
        injection h with h
        subst h
        exact ok_lenS ho hcal ha ht hu k1 hr he hR
      · rename_i hu h1
        obtain ⟨rfl, k1⟩ := opd_some h1
        injection h with h
        subst h
        exact ok_len ho hcal ha ht hu k1 hr he hR
      · rename_i hu
        injection h with h
        subst h
        exact ok_lenC ho hcal ha ht (.inl ⟨_, hu⟩) hr hR
      · rename_i hu
        split at h
        · rename_i hp
          injection h with h
          subst h
          exact ok_lenC ho hcal ha ht (.inr ⟨_, _, hu, hp⟩) hr hR
        · cases h
      · cases h
    · cases h
  · rename_i hcal
    split at h
    · rename_i ha ht
      split at h
      · rename_i hu h1
        obtain ⟨rfl, k1⟩ := opd_some h1
        injection h with h
        subst h
        exact ok_capN ho hcal ha ht hu k1 hr he hR
      · cases h
    · cases h
  · rename_i hcal
    split at h
    · rename_i ha
      split at h
      · rename_i h1 h2
        obtain ⟨rfl, k1⟩ := opd_some h1
        obtain ⟨rfl, k2⟩ := opd_some h2
        injection h with h
        subst h
        exact ok_most ho hcal ha k1 k2 hr he hR
      · cases h
    · cases h
  · rename_i hcal
    split at h
    · rename_i ha
      split at h
      · rename_i h1 h2
        obtain ⟨rfl, k1⟩ := opd_some h1
        obtain ⟨rfl, k2⟩ := opd_some h2
        injection h with h
        subst h
        exact ok_least ho hcal ha k1 k2 hr he hR
      · cases h
    · cases h
  · cases h

theorem trOp_ok {ao : AOp} (h : trOp P o = some ao) (hc : ao.isCall = false) (hr : ao.run e σ = some (v, σ')) (he : EnvR μ N e a.tmps) (hR : R B μ σ w) : Done P o a w B μ v σ' := by
  unfold trOp at h
  split at h
  · rename_i ho
    obtain ⟨x, h1, h⟩ := Option.map_eq_some_iff.1 h
    obtain ⟨rfl, k1⟩ := opd_some h1
    subst h
    exact ok_move (.inl ho) k1 hr he hR
  · rename_i ho
    obtain ⟨x, h1, h⟩ := Option.map_eq_some_iff.1 h
    obtain ⟨rfl, k1⟩ := opd_some h1
    subst h
    exact ok_move (.inr ho) k1 hr he hR
  · rename_i ho
    split at h
    · rename_i h1 h2 h3
      obtain ⟨rfl, k1⟩ := opd_some h1
      obtain ⟨rfl, k2⟩ := opd_some h2
      obtain ⟨rfl, k3⟩ := opd_some h3
      injection h with h
      subst h
      exact ok_pick ho k1 k2 k3 hr he hR
    · cases h
  · rename_i ho
    split at h
    · rename_i hb
      split at h
      · rename_i hz
        injection h with h
        subst h
        exact ok_newB ho hb hz hr hR
      · cases h
    · split at h
      · rename_i hz
        injection h with h
        subst h
        exact ok_alloc ho hz hr hR
      · cases h
  · rename_i ho
    split at h
    · rename_i h1
      obtain ⟨rfl, k1⟩ := opd_some h1
      injection h with h
      subst h
      exact ok_box ho k1 hr he hR
    · cases h
  · rename_i ho
    split at h
    · rename_i hu hz
      split at h
      · rename_i hall
        obtain ⟨ps, hp, h⟩ := Option.map_eq_some_iff.1 h
        subst h
        exact ok_build_struct ho hu hz hall hp hr he hR
      · cases h
    · rename_i hu hz
      split at h
      · rename_i hn
        obtain ⟨ps, hp, h⟩ := Option.map_eq_some_iff.1 h
        subst h
        exact ok_build_array ho hu hn hz hp hr he hR
      · cases h
    · cases h
  · rename_i ho
    split at h
    · rename_i hu
      split at h
      · rename_i hn hz
        split at h
        · rename_i hcond
          obtain ⟨ps, hp, h⟩ := Option.map_eq_some_iff.1 h
          subst h
          exact ok_buildSlice ho hu hn hz hcond.1 hcond.2.1 hcond.2.2 hp hr he hR
        · cases h
      · cases h
    · cases h
  · injection h with h
    subst h
    cases hr
  · rename_i ho
    split at h
    · rename_i ht h1
      obtain ⟨rfl, k1⟩ := opd_some h1
      obtain ⟨n, hn, h⟩ := Option.map_eq_some_iff.1 h
      subst h
      exact ok_loadN ho ht hn k1 hr he hR
    · rename_i ht h1
      obtain ⟨rfl, k1⟩ := opd_some h1
      injection h with h
      subst h
      exact ok_load ho ht k1 hr he hR
    · cases h
  · rename_i ho
    split at h
    · rename_i hn h1 h2
      obtain ⟨rfl, k1⟩ := opd_some h1
      obtain ⟨rfl, k2⟩ := opd_some h2
      injection h with h
      subst h
      exact ok_store ho hn k1 k2 hr he hR
    · cases h
  · rename_i ho
    obtain ⟨x, h1, h⟩ := Option.map_eq_some_iff.1 h
    obtain ⟨rfl, k1⟩ := opd_some h1
    subst h
    exact ok_nilCheck ho k1 hr he hR
  · rename_i ho
    exact trBin_ok ho h hr he hR
  · rename_i ho
    obtain ⟨x, h1, h⟩ := Option.map_eq_some_iff.1 h
    obtain ⟨rfl, k1⟩ := opd_some h1
    subst h
    exact ok_un ho k1 hr he hR
  · rename_i ho
    split at h
    · rename_i hs hd h1
      obtain ⟨rfl, k1⟩ := opd_some h1
      injection h with h
      subst h
      exact ok_conv ho hs hd k1 hr he hR
    · rename_i hs hd h1
      obtain ⟨rfl, k1⟩ := opd_some h1
      injection h with h
      subst h
      exact ok_encR ho hs hd k1 hr he hR
    · rename_i hs hd h1
      obtain ⟨rfl, k1⟩ := opd_some h1
      split at h
      · rename_i ht
        injection h with h
        subst h
        exact ok_strOf ho hs ht hd k1 hr he hR
      · rename_i ht
        injection h with h
        subst h
        exact ok_strOfR ho hs ht hd k1 hr he hR
      · cases h
    · rename_i hs hd h1
      obtain ⟨rfl, k1⟩ := opd_some h1
      split at h
      · rename_i ht
        injection h with h
        subst h
        exact ok_runesOf ho hs hd ht k1 hr he hR
      · cases h
    · rename_i hs hd h1
      obtain ⟨rfl, k1⟩ := opd_some h1
      split at h
      · rename_i ht
        split at h
        · rename_i hsd
          subst hsd
          injection h with h
          subst h
          exact ok_mark ho hd ht k1 hr he hR
        · cases h
      · cases h
    · cases h
  · rename_i ho
    split at h
    · rename_i hu h1
      obtain ⟨rfl, k1⟩ := opd_some h1
      injection h with h
      subst h
      exact ok_range ho hu k1 hr he hR
    · cases h
  · rename_i ho
    obtain ⟨x, h1, h⟩ := Option.map_eq_some_iff.1 h
    obtain ⟨rfl, k1⟩ := opd_some h1
    subst h
    exact ok_next ho k1 hr he hR
  · rename_i ho
    split at h
    · rename_i h0 h1
      injection h with h
      subst h
      exact ok_mkFunc ho h0 h1 hr he hR
    · cases h
  · rename_i ho
    split at h
    · rename_i hu
      split at h
      · rename_i hn hb hz h1 h2
        obtain ⟨rfl, k1⟩ := opd_some h1
        obtain ⟨rfl, k2⟩ := opd_some h2
        split at h
        · rename_i hcond
          injection h with h
          subst h
          exact ok_makeSlice ho hu hn hb hz k1 k2 hcond.1 hcond.2 hr he hR
        · cases h
      · cases h
    · cases h
  · rename_i ho
    split at h
    · rename_i hu h1 h2 h3
      obtain ⟨rfl, k1⟩ := opd_some h1
      obtain ⟨rfl, k2⟩ := opdO_some h2
      obtain ⟨rfl, k3⟩ := opdO_some h3
      obtain ⟨n, hn, h⟩ := Option.map_eq_some_iff.1 h
      subst h
      exact ok_slice ho hu hn k1 k2 k3 hr he hR
    · rename_i hu h1 h2 h3
      obtain ⟨rfl, k1⟩ := opd_some h1
      obtain ⟨rfl, k2⟩ := opdO_some h2
      obtain ⟨rfl, k3⟩ := opdO_some h3
      injection h with h
      subst h
      exact ok_sliceStr ho hu k1 k2 k3 hr he hR
    · rename_i hu h1 h2 h3
      obtain ⟨rfl, k1⟩ := opd_some h1
      obtain ⟨rfl, k2⟩ := opdO_some h2
      obtain ⟨rfl, k3⟩ := opdO_some h3
      obtain ⟨n, hn, h⟩ := Option.map_eq_some_iff.1 h
      subst h
      exact ok_sliceArr ho hu hn k1 k2 k3 hr he hR
    · cases h
  · rename_i ho
    split at h
    · rename_i hu h1
      obtain ⟨rfl, k1⟩ := opd_some h1
      split at h
      · rename_i hi
        split at h
        · rename_i hn
          split at h
          · cases h
          · rename_i h0
            injection h with h
            subst h
            exact ok_off ho hu hi hn h0 k1 hr he hR
        · cases h
      · cases h
    · cases h
  · rename_i ho
    split at h
    · rename_i hu h1
      obtain ⟨rfl, k1⟩ := opd_some h1
      split at h
      · rename_i hi
        split at h
        · rename_i hn hb
          injection h with h
          subst h
          exact ok_fieldV ho hu hi hn hb k1 hr he hR
        · cases h
      · cases h
    · cases h
  · rename_i ho
    split at h
    · rename_i hu h1 h2
      obtain ⟨rfl, k1⟩ := opd_some h1
      obtain ⟨rfl, k2⟩ := opd_some h2
      obtain ⟨n, hn, h⟩ := Option.map_eq_some_iff.1 h
      subst h
      exact ok_idx ho hu hn k1 k2 hr he hR
    · rename_i hu h1 h2
      obtain ⟨rfl, k1⟩ := opd_some h1
      obtain ⟨rfl, k2⟩ := opd_some h2
      obtain ⟨n, hn, h⟩ := Option.map_eq_some_iff.1 h
      subst h
      exact ok_idxA ho hu hn k1 k2 hr he hR
    · cases h
  · rename_i ho
    split at h
    · rename_i hu h1 h2
      obtain ⟨rfl, k1⟩ := opd_some h1
      obtain ⟨rfl, k2⟩ := opd_some h2
      split at h
      · rename_i hn hb
        injection h with h
        subst h
        exact ok_indexV ho hu hn hb k1 k2 hr he hR
      · cases h
    · rename_i hu h1 h2
      obtain ⟨rfl, k1⟩ := opd_some h1
      obtain ⟨rfl, k2⟩ := opd_some h2
      injection h with h
      subst h
      exact ok_indexS ho hu k1 k2 hr he hR
    · cases h
  · rename_i ho
    split at h
    · rename_i hu h1 h2 h3
      obtain ⟨rfl, k1⟩ := opd_some h1
      obtain ⟨rfl, k2⟩ := opd_some h2
      obtain ⟨rfl, k3⟩ := opd_some h3
      split at h
      · rename_i hn
        injection h with h
        subst h
        obtain ⟨n, hn⟩ := Option.isSome_iff_exists.1 hn
        exact ok_sliceX ho hu hn k1 k2 k3 hr he hR
      · cases h
    · cases h
  · rename_i ho
    obtain ⟨x, h1, h⟩ := Option.map_eq_some_iff.1 h
    obtain ⟨rfl, k1⟩ := opd_some h1
    subst h
    exact ok_extract ho k1 hr he hR
  · rename_i ho
    exact trCall_ok ho h hc hr he hR
  · injection h with h
    subst h
    cases hr
  · injection h with h
    subst h
    cases hr
  · cases h
end
end Go.Ab
