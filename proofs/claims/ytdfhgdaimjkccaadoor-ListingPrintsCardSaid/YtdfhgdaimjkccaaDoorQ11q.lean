/- What the library's functions are, by their contracts: layings that the kit's tool has printed, and what they come to here. -/
import Derived.Shelf.LaysM
import Derived.Shelf.Strconv.Itoa1
import Derived.Shelf.Strconv.Itoa3
import Derived.Shelf.Strings.Repeat
import Derived.Shelf.Strings.OnBuilder
import Derived.Test.YtdfhgdaimjkccaaDoorProg
import Derived.Lib.AppendIntMem
import Derived.Test.YtdfhgdaimjkccaaDoorV26
import Derived.Test.YtdfhgdaimjkccaaDoorD11q
import Derived.Test.YtdfhgdaimjkccaaDoorRows
namespace Go.Proofs
set_option linter.unusedVariables false
set_option linter.unusedSimpArgs false
open Go.Shelf
def Tryd.laysM284_ren : Go.Shelf.Ren := ⟨fun | 284 => 62 | 129 => 69 | 317 => 68 | 318 => 70 | n => n, fun | 53 => 25 | 3 => 3 | 212 => 119 | 0 => 0 | 4 => 4 | 46 => 63 | 5 => 5 | 9 => 9 | n => n, fun | 17 => 0 | n => n⟩
theorem Tryd.laysM284 : Go.Proofs.LaysM.n284 Tryd.prog Tryd.laysM284_ren := {
  mixed := by kernel_rfl
  f129 := Tryd.func69.trans (congrArg some (by kernel_rfl))
  f284 := Tryd.func62.trans (congrArg some (by kernel_rfl))
  f317 := Tryd.func68.trans (congrArg some (by kernel_rfl))
  f318 := Tryd.func70.trans (congrArg some (by kernel_rfl))
  t0 := Tryd.underlying0
  a0 := Tryd.isAgg0
  z0 := Tryd.sizeOf0
  v0 := Tryd.zeroValue0
  t3 := Tryd.underlying3
  a3 := Tryd.isAgg3
  z3 := Tryd.sizeOf3
  v3 := Tryd.zeroValue3
  t4 := Tryd.underlying4
  a4 := Tryd.isAgg4
  z4 := Tryd.sizeOf4
  v4 := Tryd.zeroValue4
  t5 := Tryd.underlying5
  a5 := Tryd.isAgg5
  z5 := Tryd.sizeOf5
  v5 := Tryd.zeroValue5
  t9 := Tryd.underlying9
  a9 := Tryd.isAgg9
  z9 := Tryd.sizeOf9
  v9 := Tryd.zeroValue9
  t46 := Tryd.underlying63
  a46 := Tryd.isAgg63
  z46 := Tryd.sizeOf63
  v46 := Tryd.zeroValue63
  t53 := Tryd.underlying25
  a53 := Tryd.isAgg25
  z53 := Tryd.sizeOf25
  v53 := Tryd.zeroValue25
  t212 := Tryd.underlying119
  a212 := Tryd.isAgg119
  z212 := Tryd.sizeOf119
  v212 := Tryd.zeroValue119
  g17 := by kernel_rfl
  i0 := by kernel_rfl
  i3 := by kernel_rfl
  i4 := by kernel_rfl
  i5 := by kernel_rfl
  i9 := by kernel_rfl
  i46 := by kernel_rfl
  i53 := by kernel_rfl
  i212 := by kernel_rfl
  m17 := by kernel_rfl }
open Go.Lib in
theorem Tryd.internal_strconv_numDigits (u : Nat) (h1 : 1 ≤ u) (h2 : u < 18446744073709551616) (w : World) (htab : Lib.TabIs Tryd.prog w "internal/strconv.uint64pow10" .u64 Lib.pow10Tab) :
    Calls Tryd.prog 62 #[.int .u64 u] w fun e w' => e = .returned (.int .i64 (Lib.nDigits u)) ∧ w' = w := Any.internal_strconv_numDigits Tryd.laysM284 u h1 h2 w htab
def Tryd.laysM171_ren : Go.Shelf.Ren := ⟨fun | 171 => 13 | 243 => 27 | 246 => 49 | 283 => 61 | 284 => 62 | 285 => 63 | 286 => 64 | 129 => 69 | 317 => 68 | 318 => 70 | 319 => 71 | 320 => 72 | 337 => 73 | 338 => 74 | n => n, fun | 3 => 3 | 9 => 9 | 2 => 2 | 4 => 4 | 171 => 111 | 0 => 0 | 53 => 25 | 37 => 37 | 5 => 5 | 173 => 114 | 212 => 119 | 51 => 102 | 20 => 20 | 213 => 120 | 46 => 63 | 232 => 123 | 233 => 124 | n => n, fun | 17 => 0 | 18 => 2 | 19 => 3 | n => n⟩
theorem Tryd.laysM171 : Go.Proofs.LaysM.n171 Tryd.prog Tryd.laysM171_ren := {
  mixed := by kernel_rfl
  f129 := Tryd.func69.trans (congrArg some (by kernel_rfl))
  f171 := Tryd.func13.trans (congrArg some (by kernel_rfl))
  f243 := Tryd.func27.trans (congrArg some (by kernel_rfl))
  f246 := Tryd.func49.trans (congrArg some (by kernel_rfl))
  f283 := Tryd.func61.trans (congrArg some (by kernel_rfl))
  f284 := Tryd.func62.trans (congrArg some (by kernel_rfl))
  f285 := Tryd.func63.trans (congrArg some (by kernel_rfl))
  f286 := Tryd.func64.trans (congrArg some (by kernel_rfl))
  f317 := Tryd.func68.trans (congrArg some (by kernel_rfl))
  f318 := Tryd.func70.trans (congrArg some (by kernel_rfl))
  f319 := Tryd.func71.trans (congrArg some (by kernel_rfl))
  f320 := Tryd.func72.trans (congrArg some (by kernel_rfl))
  f337 := Tryd.func73.trans (congrArg some (by kernel_rfl))
  f338 := Tryd.func74.trans (congrArg some (by kernel_rfl))
  t0 := Tryd.underlying0
  a0 := Tryd.isAgg0
  z0 := Tryd.sizeOf0
  v0 := Tryd.zeroValue0
  t2 := Tryd.underlying2
  a2 := Tryd.isAgg2
  z2 := Tryd.sizeOf2
  v2 := Tryd.zeroValue2
  t3 := Tryd.underlying3
  a3 := Tryd.isAgg3
  z3 := Tryd.sizeOf3
  v3 := Tryd.zeroValue3
  t4 := Tryd.underlying4
  a4 := Tryd.isAgg4
  z4 := Tryd.sizeOf4
  v4 := Tryd.zeroValue4
  t5 := Tryd.underlying5
  a5 := Tryd.isAgg5
  z5 := Tryd.sizeOf5
  v5 := Tryd.zeroValue5
  t9 := Tryd.underlying9
  a9 := Tryd.isAgg9
  z9 := Tryd.sizeOf9
  v9 := Tryd.zeroValue9
  t20 := Tryd.underlying20
  a20 := Tryd.isAgg20
  z20 := Tryd.sizeOf20
  v20 := Tryd.zeroValue20
  t37 := Tryd.underlying37
  a37 := Tryd.isAgg37
  z37 := Tryd.sizeOf37
  v37 := Tryd.zeroValue37
  t46 := Tryd.underlying63
  a46 := Tryd.isAgg63
  z46 := Tryd.sizeOf63
  v46 := Tryd.zeroValue63
  t51 := Tryd.underlying102
  a51 := Tryd.isAgg102
  z51 := Tryd.sizeOf102
  v51 := Tryd.zeroValue102
  t53 := Tryd.underlying25
  a53 := Tryd.isAgg25
  z53 := Tryd.sizeOf25
  v53 := Tryd.zeroValue25
  t171 := Tryd.underlying111
  a171 := Tryd.isAgg111
  z171 := Tryd.sizeOf111
  v171 := Tryd.zeroValue111
  t173 := Tryd.underlying114
  a173 := Tryd.isAgg114
  z173 := Tryd.sizeOf114
  v173 := Tryd.zeroValue114
  t212 := Tryd.underlying119
  a212 := Tryd.isAgg119
  z212 := Tryd.sizeOf119
  v212 := Tryd.zeroValue119
  t213 := Tryd.underlying120
  a213 := Tryd.isAgg120
  z213 := Tryd.sizeOf120
  t232 := Tryd.underlying123
  a232 := Tryd.isAgg123
  z232 := Tryd.sizeOf123
  v232 := Tryd.zeroValue123
  t233 := Tryd.underlying124
  a233 := Tryd.isAgg124
  z233 := Tryd.sizeOf124
  v233 := Tryd.zeroValue124
  g17 := by kernel_rfl
  g18 := by kernel_rfl
  g19 := by kernel_rfl
  i0 := by kernel_rfl
  i2 := by kernel_rfl
  i3 := by kernel_rfl
  i4 := by kernel_rfl
  i5 := by kernel_rfl
  i9 := by kernel_rfl
  i20 := by kernel_rfl
  i37 := by kernel_rfl
  i46 := by kernel_rfl
  i51 := by kernel_rfl
  i53 := by kernel_rfl
  i171 := by kernel_rfl
  i173 := by kernel_rfl
  i212 := by kernel_rfl
  i232 := by kernel_rfl
  i233 := by kernel_rfl
  m17 := by kernel_rfl
  m18 := by kernel_rfl
  m19 := by kernel_rfl }
open Go.RowKit Go.Sort Go.Lib in
theorem Tryd.strconv_Itoa (n : Int) (h0 : -9223372036854775808 ≤ n) (h1 : n ≤ 9223372036854775807) (w : World) (htab : Lib.TabIs Tryd.prog w "internal/strconv.uint64pow10" .u64 Lib.pow10Tab) :
    Calls Tryd.prog 13 #[.int .i64 n] w fun e w' => e = .returned (.string ⟨(Lib.itoa n).toArray⟩) ∧ ∃ k os, w' = grow (w.drewN k) os := Any.strconv_Itoa Tryd.laysM171 n h0 h1 w htab
def Tryd.lays105_ren : Go.Shelf.Ren := ⟨fun | 105 => 14 | 212 => 28 | 99 => 29 | 165 => 30 | 166 => 12 | 170 => 31 | 169 => 15 | 263 => 50 | 264 => 51 | 206 => 52 | 240 => 26 | 241 => 53 | 276 => 48 | 277 => 65 | n => n, fun | 9 => 9 | 3 => 3 | 4 => 4 | 20 => 20 | 0 => 0 | 46 => 63 | 109 => 64 | 5 => 5 | 72 => 44 | 76 => 47 | 51 => 102 | 146 => 103 | 53 => 25 | 148 => 105 | 70 => 42 | 37 => 37 | 75 => 46 | 127 => 69 | 164 => 99 | 80 => 51 | n => n, fun | n => n⟩
theorem Tryd.lays105 : Go.Proofs.Lays.n105 Tryd.prog Tryd.lays105_ren := {
  mixed := by kernel_rfl
  f99 := Tryd.func29.trans (congrArg some (by kernel_rfl))
  f105 := Tryd.func14.trans (congrArg some (by kernel_rfl))
  f165 := Tryd.func30.trans (congrArg some (by kernel_rfl))
  f166 := Tryd.func12.trans (congrArg some (by kernel_rfl))
  f169 := Tryd.func15.trans (congrArg some (by kernel_rfl))
  f170 := Tryd.func31.trans (congrArg some (by kernel_rfl))
  f206 := Tryd.func52.trans (congrArg some (by kernel_rfl))
  f212 := Tryd.func28.trans (congrArg some (by kernel_rfl))
  f240 := Tryd.func26.trans (congrArg some (by kernel_rfl))
  f241 := Tryd.func53.trans (congrArg some (by kernel_rfl))
  f263 := Tryd.func50.trans (congrArg some (by kernel_rfl))
  f264 := Tryd.func51.trans (congrArg some (by kernel_rfl))
  f276 := Tryd.func48.trans (congrArg some (by kernel_rfl))
  f277 := Tryd.func65.trans (congrArg some (by kernel_rfl))
  t0 := Tryd.underlying0
  a0 := Tryd.isAgg0
  z0 := Tryd.sizeOf0
  v0 := Tryd.zeroValue0
  t3 := Tryd.underlying3
  a3 := Tryd.isAgg3
  z3 := Tryd.sizeOf3
  v3 := Tryd.zeroValue3
  t4 := Tryd.underlying4
  a4 := Tryd.isAgg4
  z4 := Tryd.sizeOf4
  v4 := Tryd.zeroValue4
  t5 := Tryd.underlying5
  a5 := Tryd.isAgg5
  z5 := Tryd.sizeOf5
  v5 := Tryd.zeroValue5
  t9 := Tryd.underlying9
  a9 := Tryd.isAgg9
  z9 := Tryd.sizeOf9
  v9 := Tryd.zeroValue9
  t20 := Tryd.underlying20
  a20 := Tryd.isAgg20
  z20 := Tryd.sizeOf20
  v20 := Tryd.zeroValue20
  t37 := Tryd.underlying37
  a37 := Tryd.isAgg37
  z37 := Tryd.sizeOf37
  v37 := Tryd.zeroValue37
  t46 := Tryd.underlying63
  a46 := Tryd.isAgg63
  z46 := Tryd.sizeOf63
  v46 := Tryd.zeroValue63
  t51 := Tryd.underlying102
  a51 := Tryd.isAgg102
  z51 := Tryd.sizeOf102
  v51 := Tryd.zeroValue102
  t53 := Tryd.underlying25
  a53 := Tryd.isAgg25
  z53 := Tryd.sizeOf25
  v53 := Tryd.zeroValue25
  t70 := Tryd.underlying42
  a70 := Tryd.isAgg42
  z70 := Tryd.sizeOf42
  v70 := Tryd.zeroValue42
  t72 := Tryd.underlying44
  a72 := Tryd.isAgg44
  z72 := Tryd.sizeOf44
  v72 := Tryd.zeroValue44
  t75 := Tryd.underlying46
  a75 := Tryd.isAgg46
  z75 := Tryd.sizeOf46
  v75 := Tryd.zeroValue46
  t76 := Tryd.underlying47
  a76 := Tryd.isAgg47
  z76 := Tryd.sizeOf47
  v76 := Tryd.zeroValue47
  t109 := Tryd.underlying64
  a109 := Tryd.isAgg64
  z109 := Tryd.sizeOf64
  v109 := Tryd.zeroValue64
  t127 := Tryd.underlying69
  a127 := Tryd.isAgg69
  z127 := Tryd.sizeOf69
  v127 := Tryd.zeroValue69
  t146 := Tryd.underlying103
  a146 := Tryd.isAgg103
  z146 := Tryd.sizeOf103
  v146 := Tryd.zeroValue103
  t148 := Tryd.underlying105
  a148 := Tryd.isAgg105
  z148 := Tryd.sizeOf105
  v148 := Tryd.zeroValue105
  t164 := Tryd.underlying99
  a164 := Tryd.isAgg99
  z164 := Tryd.sizeOf99
  v164 := Tryd.zeroValue99 }
theorem Tryd.Builder_Extra_105 : Builder.Extra Tryd.prog Tryd.lays105_ren := {
  sizeBuilder := by kernel_rfl
  liesBuilder := by kernel_rfl
  t5 := Tryd.underlying5
  a5 := Tryd.isAgg5
  z5 := Tryd.sizeOf5
  v5 := Tryd.zeroValue5
  infoByte := by kernel_rfl
  cellsByte := by kernel_rfl
  sizeByte := by kernel_rfl
  neB5 := by decide }
open Go.RowKit Go.Lib in
theorem Tryd.strings_Repeat (s : ByteArray) (c : Nat) (w : World) (hc : c ≤ 9223372036854775807) (hlen : s.size * c ≤ 140737488355328) :
    Calls Tryd.prog 14 #[.string s, .int .i64 c] w fun e w' => e = .returned (.string ⟨(Lib.repeatL s.data.toList c).toArray⟩) ∧ Below w.heap.size w w' := Any.strings_Repeat Tryd.lays105 Tryd.Builder_Extra_105 s c w hc hlen
end Go.Proofs
namespace Go.V
open Go.Ab Go.Proofs
theorem callok_numDigits : CallOk Tryd.prog 62 := ⟨_, Tryd.func62, by kernel_rfl, by kernel_rfl⟩
theorem tab_named : Tryd.prog.globalNamed "internal/strconv.uint64pow10" ≠ none := fun h => by
  have e : (Tryd.prog.globalNamed "internal/strconv.uint64pow10").isSome = true := by kernel_rfl
  rw [h] at e
  cases e
theorem Q_internal_strconv_numDigits : Right Tryd.prog ⟨62, [(.leaf (.int .u64))], [], [⟨.ret, [], ⟨[(.leaf (.int .i64))], [], []⟩⟩], fun t => D_internal_strconv_numDigits t⟩ :=
  prim_int callok_numDigits (fun _ => rfl) (fun _ _ => rfl) fun B w x y h hs ho => by
    have h : nDigP x = some y := h
    unfold nDigP at h
    split at h
    · rename_i hx
      injection h with h
      have := Tryd.internal_strconv_numDigits x.toNat (by omega) (by omega) w (B.tab w hs ho tab_named)
      rw [show ((x.toNat : Nat) : Int) = x by omega] at this
      rw [← h]
      exact this
    · cases h
theorem callok_Itoa : CallOk Tryd.prog 13 := ⟨_, Tryd.func13, by kernel_rfl, by kernel_rfl⟩
theorem itoaP_some {n : Int} {y : List Int} (hg : itoaP n = some y) : (-9223372036854775808 ≤ n ∧ n ≤ 9223372036854775807) ∧ itoaI n = y := by
  unfold itoaP at hg
  obtain ⟨hgd, hy⟩ := gd_some hg
  injection hy with hy
  rw [Bool.and_eq_true, decide_eq_true_eq, decide_eq_true_eq] at hgd
  exact ⟨hgd, hy⟩
theorem Q_strconv_Itoa : Right Tryd.prog ⟨13, [(.leaf (.int .i64))], [], [⟨.ret, [], ⟨[(.leaf .str)], [], []⟩⟩], fun t => D_strconv_Itoa t⟩ :=
  prim_below (vals := [(.leaf (.int .i64))]) (s := .str) (fun t => [.int .i64 t]) (fun y => .str y) callok_Itoa (fun _ => rfl) (fun _ _ => rfl) (fun _ => rfl) fun B μ w c t y args cargs hg hR hv ha => by
    have hg : itoaP t = some y := hg
    obtain ⟨hgd, hy⟩ := itoaP_some hg
    cases hv with
    | cons h1 h2 =>
    cases h2
    cases h1
    generalize hl' : cargs.toList = cl at ha
    cases ha with
    | cons k1 k2 =>
    cases k2
    cases k1
    have hc : cargs = #[.int .i64 t] := Array.toList_inj.1 hl'
    subst hc
    refine (Tryd.strconv_Itoa t hgd.1 hgd.2 w (B.tab w hR.base hR.old tab_named)).mono ?_
    rintro e w' ⟨rfl, k, os, rfl⟩
    exact ⟨_, rfl, fun c => .str ((bytesI_mk _).trans hy), fun μ => .string _, Go.Lib.below_grow _ w (Nat.le_refl _) k os⟩
theorem callok_Repeat : CallOk Tryd.prog 14 := ⟨_, Tryd.func14, by kernel_rfl, by kernel_rfl⟩
theorem repI_bytes (l : List UInt8) : ∀ n, u8I (Lib.repeatL l n) = repI (u8I l) n
  | 0 => rfl
  | n + 1 => by
    have ih := repI_bytes l n
    have e : Lib.repeatL l (n + 1) = l ++ Lib.repeatL l n := by simp [Lib.repeatL]
    rw [e, u8I_app, ih]
    rfl
theorem repP_some {l : List Int} {n : Int} {y : List Int} (hg : repP l n = some y) : 0 ≤ n ∧ n ≤ 1000000000 ∧ ((l.length : Nat) : Int) * n ≤ 140737488355328 ∧ repI l n.toNat = y := by
  unfold repP at hg
  obtain ⟨hgd, hy⟩ := gd_some hg
  injection hy with hy
  rw [Bool.and_eq_true, Bool.and_eq_true, decide_eq_true_eq, decide_eq_true_eq, decide_eq_true_eq] at hgd
  exact ⟨hgd.1.1, hgd.1.2, hgd.2, hy⟩
theorem Q_strings_Repeat : Right Tryd.prog ⟨14, [(.leaf .str), (.leaf (.int .i64))], [], [⟨.ret, [], ⟨[(.leaf .str)], [], []⟩⟩], fun t => D_strings_Repeat t.1 t.2⟩ :=
  prim_below (vals := [(.leaf .str), (.leaf (.int .i64))]) (s := .str) (fun t => [.str t.1, .int .i64 t.2]) (fun y => .str y) callok_Repeat (fun _ => rfl) (fun _ _ => rfl) (fun _ => rfl) fun B μ w c t y args cargs hg hR hv ha => by
    obtain ⟨l, n⟩ := t
    have hg : repP l n = some y := hg
    obtain ⟨h0, h1, h2, hy⟩ := repP_some hg
    cases hv with
    | cons a1 a2 =>
    cases a2 with
    | cons a2 a3 =>
    cases a3
    cases a2
    obtain ⟨s, rfl, hs⟩ := a1.str_inv
    generalize hl' : cargs.toList = cl at ha
    cases ha with
    | cons k1 k2 =>
    cases k2 with
    | cons k2 k3 =>
    cases k3
    cases k2
    cases k1
    have hc : cargs = #[.string s, .int .i64 n] := Array.toList_inj.1 hl'
    subst hc
    obtain ⟨m, rfl⟩ := Int.eq_ofNat_of_zero_le h0
    have hs : bytesI s = l := hs
    have hlen : s.size = l.length := by rw [← hs, bytesI_len]
    refine (Tryd.strings_Repeat s m w (by omega) (by rw [hlen]; have e : ((l.length * m : Nat) : Int) ≤ 140737488355328 := (by rw [Int.natCast_mul]; exact h2); omega)).mono ?_
    rintro e w' ⟨rfl, hb⟩
    refine ⟨_, rfl, fun c => .str ?_, fun μ => .string _, hb⟩
    rw [bytesI_mk, repI_bytes, ← hy, ← hs]
    rfl
theorem callok_WriteString : CallOk Tryd.prog 12 := ⟨_, Tryd.func12, by kernel_rfl, by kernel_rfl⟩
theorem callok_String : CallOk Tryd.prog 15 := ⟨_, Tryd.func15, by kernel_rfl, by kernel_rfl⟩
set_option maxRecDepth 100000 in
theorem bld_type (T : TypeId) (h : isBld Tryd.prog T = true) : T = 44 := by
  have hlt : T < Tryd.prog.types.size := by
    rcases Nat.lt_or_ge T Tryd.prog.types.size with h' | h'
    · exact h'
    · unfold isBld at h
      rw [Array.getElem?_eq_none h'] at h
      cases h
  have hall : (List.range Tryd.prog.types.size).all (fun u => !isBld Tryd.prog u || u == 44) = true := by kernel_rfl
  have := List.all_eq_true.1 hall T (List.mem_range.2 hlt)
  rw [h] at this
  simpa using this
theorem bld_byte : Tryd.prog.rt.byte = 5 := by kernel_rfl
theorem Q_bld : Blds Tryd.prog 12 15 := ⟨callok_WriteString, callok_String,
  fun T hT B b p hp bs s w h hl hB => by
    obtain rfl := bld_type T hT
    rw [bld_byte] at h ⊢
    have L := Tryd.lays105
    exact write_x { L with } Tryd.Builder_Extra_105 B b p hp bs s w h hl hB,
  fun T hT B b p l w h hB => by
    obtain rfl := bld_type T hT
    rw [bld_byte] at h ⊢
    have L := Tryd.lays105
    exact string_x { L with } Tryd.Builder_Extra_105 B b p l w h hB⟩
end Go.V
