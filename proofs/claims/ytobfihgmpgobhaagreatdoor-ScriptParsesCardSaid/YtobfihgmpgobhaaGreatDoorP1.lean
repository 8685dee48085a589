/- A part of the proofs of this claim: what functions of the program answer on an abstract machine, and plain laws. No condition. -/
import Derived.Shelf.LaysM
import Derived.Shelf.Strconv.Itoa1
import Derived.Shelf.Strconv.Itoa3
import Derived.Shelf.Strings.OnBuilder
import Derived.Ground.Names2Prog
import Derived.Lib.AppendIntMem
import Derived.Test.YtobfihgmpgobhaaGreatDoorA7
import Derived.Test.YtobfihgmpgobhaaGreatDoorD2
import Derived.Test.YtobfihgmpgobhaaGreatDoorRows
import Derived.KernelRfl
set_option linter.unusedVariables false
set_option linter.unusedSimpArgs false
set_option linter.unusedSectionVars false
namespace Go.Proofs
open Go.Shelf
def Tryz.lays156_ren :Go.Shelf.Ren:=⟨fun|156=>67|165=>99|166=>56|169=>59|240=>97|241=>143|276=>141|277=>199|n=>n,fun|31=>42|9=>9|3=>3|4=>4|0=>0|20=>20|72=>119|76=>123|70=>117|37=>92|75=>122|127=>181|164=>234|5=>5|80=>128|n=>n,fun|n=>n⟩
theorem Tryz.lays156 :Go.Proofs.Lays.n156 Tryz.prog Tryz.lays156_ren:={
 mixed:=by kernel_rfl
 f156:=Tryz.func67.trans (congrArg some (by kernel_rfl))
 f165:=Tryz.func99.trans (congrArg some (by kernel_rfl))
 f166:=Tryz.func56.trans (congrArg some (by kernel_rfl))
 f169:=Tryz.func59.trans (congrArg some (by kernel_rfl))
 f240:=Tryz.func97.trans (congrArg some (by kernel_rfl))
 f241:=Tryz.func143.trans (congrArg some (by kernel_rfl))
 f276:=Tryz.func141.trans (congrArg some (by kernel_rfl))
 f277:=Tryz.func199.trans (congrArg some (by kernel_rfl))
 t0:=Tryz.underlying0
 a0:=Tryz.isAgg0
 z0:=Tryz.sizeOf0
 v0:=Tryz.zeroValue0
 t3:=Tryz.underlying3
 a3:=Tryz.isAgg3
 z3:=Tryz.sizeOf3
 v3:=Tryz.zeroValue3
 t4:=Tryz.underlying4
 a4:=Tryz.isAgg4
 z4:=Tryz.sizeOf4
 v4:=Tryz.zeroValue4
 t9:=Tryz.underlying9
 a9:=Tryz.isAgg9
 z9:=Tryz.sizeOf9
 v9:=Tryz.zeroValue9
 t20:=Tryz.underlying20
 a20:=Tryz.isAgg20
 z20:=Tryz.sizeOf20
 v20:=Tryz.zeroValue20
 t31:=Tryz.underlying42
 a31:=Tryz.isAgg42
 z31:=Tryz.sizeOf42
 v31:=Tryz.zeroValue42
 t37:=Tryz.underlying92
 a37:=Tryz.isAgg92
 z37:=Tryz.sizeOf92
 v37:=Tryz.zeroValue92
 t70:=Tryz.underlying117
 a70:=Tryz.isAgg117
 z70:=Tryz.sizeOf117
 v70:=Tryz.zeroValue117
 t72:=Tryz.underlying119
 a72:=Tryz.isAgg119
 z72:=Tryz.sizeOf119
 v72:=Tryz.zeroValue119
 t75:=Tryz.underlying122
 a75:=Tryz.isAgg122
 z75:=Tryz.sizeOf122
 v75:=Tryz.zeroValue122
 t76:=Tryz.underlying123
 a76:=Tryz.isAgg123
 z76:=Tryz.sizeOf123
 v76:=Tryz.zeroValue123
 t127:=Tryz.underlying181
 a127:=Tryz.isAgg181
 z127:=Tryz.sizeOf181
 v127:=Tryz.zeroValue181
 t164:=Tryz.underlying234
 a164:=Tryz.isAgg234
 z164:=Tryz.sizeOf234
 v164:=Tryz.zeroValue234}
theorem Tryz.Builder_Extra_156 :Builder.Extra Tryz.prog Tryz.lays156_ren:={
 sizeBuilder:=by kernel_rfl
 liesBuilder:=by kernel_rfl
 t5:=Tryz.underlying5
 a5:=Tryz.isAgg5
 z5:=Tryz.sizeOf5
 v5:=Tryz.zeroValue5
 infoByte:=by kernel_rfl
 cellsByte:=by kernel_rfl
 sizeByte:=by kernel_rfl
 neB5:=by decide}
open Go.RowKit in
theorem Tryz.strings_Join_none (a:Option Addr)(c:Nat)(sep:ByteArray)(w:World):
  Calls Tryz.prog 67 #[.slice a 0 c, .string sep] w fun e w'=>e= .returned (.string ⟨#[]⟩)∧w'=w:=Any.strings_Join_none Tryz.lays156 Tryz.Builder_Extra_156 a c sep w
open Go.RowKit in
theorem Tryz.strings_Join (bk o c:Nat)(xs:List ByteArray)(sep:ByteArray)(w:World)(hcells: ∀(j:Nat) x,xs[j]?=some x→w.cell? ⟨bk,o+j,none⟩=some (.string x))(hbk:bk<w.heap.size)(hN:xs.length≤140737488355328)(hcap:xs.length≤c)(hlen:(Lib.join (xs.map (·.data.toList)) sep.data.toList).length≤140737488355328):
  Calls Tryz.prog 67 #[.slice (some ⟨bk,o,none⟩) xs.length c, .string sep] w fun e w'=>e= .returned (.string ⟨(Lib.join (xs.map (·.data.toList)) sep.data.toList).toArray⟩)∧Below w.heap.size w w':=Any.strings_Join Tryz.lays156 Tryz.Builder_Extra_156 bk o c xs sep w hcells hbk hN hcap hlen
def Tryz.laysM284_ren :Go.Shelf.Ren:=⟨fun|284=>138|129=>195|317=>194|318=>196|n=>n,fun|53=>36|3=>3|212=>286|0=>0|4=>4|46=>289|5=>5|9=>9|n=>n,fun|17=>0|n=>n⟩
theorem Tryz.laysM284 :Go.Proofs.LaysM.n284 Tryz.prog Tryz.laysM284_ren:={
 mixed:=by kernel_rfl
 f129:=Tryz.func195.trans (congrArg some (by kernel_rfl))
 f284:=Tryz.func138.trans (congrArg some (by kernel_rfl))
 f317:=Tryz.func194.trans (congrArg some (by kernel_rfl))
 f318:=Tryz.func196.trans (congrArg some (by kernel_rfl))
 t0:=Tryz.underlying0
 a0:=Tryz.isAgg0
 z0:=Tryz.sizeOf0
 v0:=Tryz.zeroValue0
 t3:=Tryz.underlying3
 a3:=Tryz.isAgg3
 z3:=Tryz.sizeOf3
 v3:=Tryz.zeroValue3
 t4:=Tryz.underlying4
 a4:=Tryz.isAgg4
 z4:=Tryz.sizeOf4
 v4:=Tryz.zeroValue4
 t5:=Tryz.underlying5
 a5:=Tryz.isAgg5
 z5:=Tryz.sizeOf5
 v5:=Tryz.zeroValue5
 t9:=Tryz.underlying9
 a9:=Tryz.isAgg9
 z9:=Tryz.sizeOf9
 v9:=Tryz.zeroValue9
 t46:=Tryz.underlying289
 a46:=Tryz.isAgg289
 z46:=Tryz.sizeOf289
 v46:=Tryz.zeroValue289
 t53:=Tryz.underlying36
 a53:=Tryz.isAgg36
 z53:=Tryz.sizeOf36
 v53:=Tryz.zeroValue36
 t212:=Tryz.underlying286
 a212:=Tryz.isAgg286
 z212:=Tryz.sizeOf286
 v212:=Tryz.zeroValue286
 g17:=by kernel_rfl
 i0:=by kernel_rfl
 i3:=by kernel_rfl
 i4:=by kernel_rfl
 i5:=by kernel_rfl
 i9:=by kernel_rfl
 i46:=by kernel_rfl
 i53:=by kernel_rfl
 i212:=by kernel_rfl
 m17:=by kernel_rfl}
open Go.Lib in
theorem Tryz.internal_strconv_numDigits (u:Nat)(h1:1≤u)(h2:u<18446744073709551616)(w:World)(htab:Lib.TabIs Tryz.prog w "internal/strconv.uint64pow10" .u64 Lib.pow10Tab):
  Calls Tryz.prog 138 #[.int .u64 u] w fun e w'=>e= .returned (.int .i64 (Lib.nDigits u))∧w'=w:=Any.internal_strconv_numDigits Tryz.laysM284 u h1 h2 w htab
def Tryz.laysM171_ren :Go.Shelf.Ren:=⟨fun|171=>28|243=>54|246=>96|283=>137|284=>138|285=>139|286=>140|129=>195|317=>194|318=>196|319=>197|320=>198|337=>248|338=>249|n=>n,fun|3=>3|9=>9|2=>2|4=>4|171=>230|0=>0|53=>36|37=>92|5=>5|173=>232|212=>286|51=>287|20=>20|213=>288|46=>289|232=>354|233=>355|n=>n,fun|17=>0|18=>2|19=>3|n=>n⟩
theorem Tryz.laysM171 :Go.Proofs.LaysM.n171 Tryz.prog Tryz.laysM171_ren:={
 mixed:=by kernel_rfl
 f129:=Tryz.func195.trans (congrArg some (by kernel_rfl))
 f171:=Tryz.func28.trans (congrArg some (by kernel_rfl))
 f243:=Tryz.func54.trans (congrArg some (by kernel_rfl))
 f246:=Tryz.func96.trans (congrArg some (by kernel_rfl))
 f283:=Tryz.func137.trans (congrArg some (by kernel_rfl))
 f284:=Tryz.func138.trans (congrArg some (by kernel_rfl))
 f285:=Tryz.func139.trans (congrArg some (by kernel_rfl))
 f286:=Tryz.func140.trans (congrArg some (by kernel_rfl))
 f317:=Tryz.func194.trans (congrArg some (by kernel_rfl))
 f318:=Tryz.func196.trans (congrArg some (by kernel_rfl))
 f319:=Tryz.func197.trans (congrArg some (by kernel_rfl))
 f320:=Tryz.func198.trans (congrArg some (by kernel_rfl))
 f337:=Tryz.func248.trans (congrArg some (by kernel_rfl))
 f338:=Tryz.func249.trans (congrArg some (by kernel_rfl))
 t0:=Tryz.underlying0
 a0:=Tryz.isAgg0
 z0:=Tryz.sizeOf0
 v0:=Tryz.zeroValue0
 t2:=Tryz.underlying2
 a2:=Tryz.isAgg2
 z2:=Tryz.sizeOf2
 v2:=Tryz.zeroValue2
 t3:=Tryz.underlying3
 a3:=Tryz.isAgg3
 z3:=Tryz.sizeOf3
 v3:=Tryz.zeroValue3
 t4:=Tryz.underlying4
 a4:=Tryz.isAgg4
 z4:=Tryz.sizeOf4
 v4:=Tryz.zeroValue4
 t5:=Tryz.underlying5
 a5:=Tryz.isAgg5
 z5:=Tryz.sizeOf5
 v5:=Tryz.zeroValue5
 t9:=Tryz.underlying9
 a9:=Tryz.isAgg9
 z9:=Tryz.sizeOf9
 v9:=Tryz.zeroValue9
 t20:=Tryz.underlying20
 a20:=Tryz.isAgg20
 z20:=Tryz.sizeOf20
 v20:=Tryz.zeroValue20
 t37:=Tryz.underlying92
 a37:=Tryz.isAgg92
 z37:=Tryz.sizeOf92
 v37:=Tryz.zeroValue92
 t46:=Tryz.underlying289
 a46:=Tryz.isAgg289
 z46:=Tryz.sizeOf289
 v46:=Tryz.zeroValue289
 t51:=Tryz.underlying287
 a51:=Tryz.isAgg287
 z51:=Tryz.sizeOf287
 v51:=Tryz.zeroValue287
 t53:=Tryz.underlying36
 a53:=Tryz.isAgg36
 z53:=Tryz.sizeOf36
 v53:=Tryz.zeroValue36
 t171:=Tryz.underlying230
 a171:=Tryz.isAgg230
 z171:=Tryz.sizeOf230
 v171:=Tryz.zeroValue230
 t173:=Tryz.underlying232
 a173:=Tryz.isAgg232
 z173:=Tryz.sizeOf232
 v173:=Tryz.zeroValue232
 t212:=Tryz.underlying286
 a212:=Tryz.isAgg286
 z212:=Tryz.sizeOf286
 v212:=Tryz.zeroValue286
 t213:=Tryz.underlying288
 a213:=Tryz.isAgg288
 z213:=Tryz.sizeOf288
 t232:=Tryz.underlying354
 a232:=Tryz.isAgg354
 z232:=Tryz.sizeOf354
 v232:=Tryz.zeroValue354
 t233:=Tryz.underlying355
 a233:=Tryz.isAgg355
 z233:=Tryz.sizeOf355
 v233:=Tryz.zeroValue355
 g17:=by kernel_rfl
 g18:=by kernel_rfl
 g19:=by kernel_rfl
 i0:=by kernel_rfl
 i2:=by kernel_rfl
 i3:=by kernel_rfl
 i4:=by kernel_rfl
 i5:=by kernel_rfl
 i9:=by kernel_rfl
 i20:=by kernel_rfl
 i37:=by kernel_rfl
 i46:=by kernel_rfl
 i51:=by kernel_rfl
 i53:=by kernel_rfl
 i171:=by kernel_rfl
 i173:=by kernel_rfl
 i212:=by kernel_rfl
 i232:=by kernel_rfl
 i233:=by kernel_rfl
 m17:=by kernel_rfl
 m18:=by kernel_rfl
 m19:=by kernel_rfl}
open Go.RowKit Go.Sort Go.Lib in
theorem Tryz.strconv_Itoa (n:Int)(h0: -9223372036854775808≤n)(h1:n≤9223372036854775807)(w:World)(htab:Lib.TabIs Tryz.prog w "internal/strconv.uint64pow10" .u64 Lib.pow10Tab):
  Calls Tryz.prog 28 #[.int .i64 n] w fun e w'=>e= .returned (.string ⟨(Lib.itoa n).toArray⟩)∧∃k os,w'=grow (w.drewN k) os:=Any.strconv_Itoa Tryz.laysM171 n h0 h1 w htab
end Go.Proofs
namespace Go.V
open Go.Ab Go.Proofs
section
open Bool renaming and_eq_true → aA
open List renaming length_map → aB
theorem y9 :lM Tryz.prog 138:=⟨_,Tryz.func138,by kernel_rfl,by kernel_rfl⟩
theorem E3 :Tryz.prog.globalNamed "internal/strconv.uint64pow10" ≠none:=fun h=>by
 have e:(Tryz.prog.globalNamed "internal/strconv.uint64pow10").isSome=true:=by kernel_rfl
 rw[h]at e;cases e
theorem nB :cd Tryz.prog ⟨138,[(.leaf (.int .u64))],[],[⟨.ret,[],⟨[(.leaf (.int .i64))],[],[]⟩⟩],fun t=>cO t⟩:=
 Nc y9 (fun _=>rfl) (fun _ _=>rfl) fun B w x y h hs ho=>by
  have h:J9 x=some y:=h;unfold J9 at h;split at h
  ·rename_i hx;injection h with h
   have:=Tryz.internal_strconv_numDigits x.toNat (by omega) (by omega) w (B.tab w hs ho E3);rw[show((x.toNat:Nat):Int)=x by omega]at this;rw[←h];exact this
  ·cases h
theorem GW :lM Tryz.prog 67:=⟨_,Tryz.func67,by kernel_rfl,by kernel_rfl⟩
theorem BM :cd Tryz.prog ⟨67,[(.leaf (.list .str)),(.leaf .str)],[],[⟨.ret,[],⟨[(.leaf .str)],[],[]⟩⟩],fun t=>fQ t.1 t.2⟩:=
 CZ (vals:=[(.leaf (.list .str)),(.leaf .str)]) (s:= .str) (fun t=>[.lst .str t.1, .str t.2]) (fun y=> .str y) GW (fun _=>rfl) (fun _ _=>rfl) (fun _=>rfl) fun B μ w c t y args cargs hg hR hv ha=>by
  obtain⟨l,s⟩:=t;have hg:J2 l s=some y:=hg;cases hv with
  |cons h1 h2=>
  cases h2 with
  |cons h2 h3=>
  cases h3;cases h2 with
  | @str _ sep hsep=>
  generalize hl':cargs.toList=cl at ha;cases ha with
  |cons k1 k2=>
  cases k2 with
  |cons k2 k3=>
  cases k3;cases k2;obtain⟨q,cp,xs,rfl,hcp,hxs,hq⟩:=LY hR h1 k1;have hc:cargs= #[.slice q xs.length cp, .string sep]:=Array.toList_inj.1 hl';subst hc;subst hsep;subst hxs;unfold J2 at hg;obtain⟨hgd,hy⟩:=ai hg;injection hy with hy
  rw[aA,decide_eq_true_eq,decide_eq_true_eq]at hgd;obtain⟨hj,hn⟩:=hgd;have hn:xs.length≤140737488355328:=by rw[aB]at hn;omega
  rw[←CG]at hj hy
  have hj:(Lib.join (xs.map (·.data.toList)) sep.data.toList).length≤140737488355328:=by
   rw[vx]at hj;unfold QW at hj;rw[aB]at hj;omega
  by_cases he:xs=[]
  ·subst he;refine(Tryz.strings_Join_none q cp sep w).mono ?_;rintro e w' ⟨rfl,rfl⟩;exact⟨_,rfl,fun c=> .str (by rw[←hy];rfl),fun μ=> .string _,Go.RowKit.Below.refl _ _⟩
  ·obtain⟨bk,o,rfl,hbk,hcells⟩:=hq (fun h=>he (List.map_eq_nil_iff.1 h));refine(Tryz.strings_Join bk o cp xs sep w hcells hbk hn hcp hj).mono ?_;rintro e w' ⟨rfl,hb⟩;exact⟨_,rfl,fun c=> .str hy,fun μ=> .string _,hb⟩
theorem GV :lM Tryz.prog 28:=⟨_,Tryz.func28,by kernel_rfl,by kernel_rfl⟩
theorem IZ {n:Int}{y:List Int}(hg:J1 n=some y):(-9223372036854775808≤n∧n≤9223372036854775807)∧P6 n=y:=by
 unfold J1 at hg;obtain⟨hgd,hy⟩:=ai hg;injection hy with hy
 rw[aA,decide_eq_true_eq,decide_eq_true_eq]at hgd;exact⟨hgd,hy⟩
theorem BL :cd Tryz.prog ⟨28,[(.leaf (.int .i64))],[],[⟨.ret,[],⟨[(.leaf .str)],[],[]⟩⟩],fun t=>kG t⟩:=
 CZ (vals:=[(.leaf (.int .i64))]) (s:= .str) (fun t=>[.int .i64 t]) (fun y=> .str y) GV (fun _=>rfl) (fun _ _=>rfl) (fun _=>rfl) fun B μ w c t y args cargs hg hR hv ha=>by
  have hg:J1 t=some y:=hg;obtain⟨hgd,hy⟩:=IZ hg;cases hv with
  |cons h1 h2=>
  cases h2;cases h1;generalize hl':cargs.toList=cl at ha;cases ha with
  |cons k1 k2=>
  cases k2;cases k1;have hc:cargs= #[.int .i64 t]:=Array.toList_inj.1 hl';subst hc;refine(Tryz.strconv_Itoa t hgd.1 hgd.2 w (B.tab w hR.base hR.old E3)).mono ?_;rintro e w' ⟨rfl,k,os,rfl⟩;exact⟨_,rfl,fun c=> .str ((vx _).trans hy),fun μ=> .string _,Go.Lib.below_grow _ w (Nat.le_refl _) k os⟩
theorem xd :lM Tryz.prog 56:=⟨_,Tryz.func56,by kernel_rfl,by kernel_rfl⟩
theorem D6 :lM Tryz.prog 59:=⟨_,Tryz.func59,by kernel_rfl,by kernel_rfl⟩
set_option maxRecDepth 100000 in
theorem GM (T:TypeId)(h:yr Tryz.prog T=true):T=119:=by
 have hlt:T<Tryz.prog.types.size:=by
  rcases Nat.lt_or_ge T Tryz.prog.types.size with h'|h'
  ·exact h'
  ·unfold yr at h;rw[Array.getElem?_eq_none h']at h;cases h
 have hall:(List.range Tryz.prog.types.size).all (fun u=> !yr Tryz.prog u||u==119)=true:=by kernel_rfl
 have:=List.all_eq_true.1 hall T (List.mem_range.2 hlt);rw[h]at this;simpa using this
theorem GL :Tryz.prog.rt.byte=5:=by kernel_rfl
theorem JM :Blds Tryz.prog 56 59:=⟨xd,D6,
 fun T hT B b p hp bs s w h hl hB=>by
  obtain rfl:=GM T hT;rw[GL]at h⊢;have L:=Tryz.lays156;exact PG {L with} Tryz.Builder_Extra_156 B b p hp bs s w h hl hB,
 fun T hT B b p l w h hB=>by
  obtain rfl:=GM T hT;rw[GL]at h⊢;have L:=Tryz.lays156
  exact ND {L with} Tryz.Builder_Extra_156 B b p l w h hB⟩
end
open Go.Ab Go.Proofs
section
def Cu :List Sh→Type→Type
 |[],r=>Unit→r
 |[s],r=>El s→r
 |s::s'::l,r=>El s→Cu (s'::l) r
def un {r:Type}:(l:List Sh)→Cu l r→pQ l→r
 |[],f,t=>f t
 |[_],f,t=>f t
 |_::s'::l,f,t=>un (s'::l) (f t.1) t.2
abbrev Rt :=cd Tryz.prog
theorem rq {P:Program}{f:FuncId}{tab:List FSum}{vals:List Sk}{objs:List OSk}{outs:List Alt}{run:pQ (iX.shs ⟨vals,[],objs⟩)→Option (mV outs)}(at':AT)(ht:cE P tab)(he: ∀t,zq P f ⟨tab,[]⟩ vals objs outs at' t=run t:=by intro _;kernel_rfl):cd P ⟨f,vals,objs,outs,run⟩:=Nj ht he
theorem C5 {P:Program}{f:FuncId}{tab:List FSum}(ins:List Inl){vals:List Sk}{objs:List OSk}{outs:List Alt}{run:pQ (iX.shs ⟨vals,[],objs⟩)→Option (mV outs)}(at':AT)(ht:cE P tab)(hi:ad P ins)(he: ∀t,zq P f ⟨tab,ins⟩ vals objs outs at' t=run t:=by intro _;kernel_rfl):cd P ⟨f,vals,objs,outs,run⟩:=EY ht hi he
section
variable {P:Program} {l:List FSum} {A B C D E F G H:FSum}
theorem gw (a:cd P A):cE P [A]:= .cons a (.nil _)
theorem rP (a:cd P A)(b:cd P B):cE P [A,B]:= .cons a (gw b)
theorem B4 (a:cd P A)(b:cd P B)(c:cd P C):cE P [A,B,C]:= .cons a (rP b c)
theorem JO (a:cd P A)(b:cd P B)(c:cd P C)(d:cd P D):cE P [A,B,C,D]:= .cons a (B4 b c d)
theorem Rn (a:cd P A)(b:cd P B)(c:cd P C)(d:cd P D)(e:cd P E):cE P [A,B,C,D,E]:= .cons a (JO b c d e)
theorem Rv (a:cd P A)(b:cd P B)(c:cd P C)(d:cd P D)(e:cd P E)(f:cd P F):cE P [A,B,C,D,E,F]:= .cons a (Rn b c d e f)
theorem TJ (a:cd P A)(b:cd P B)(c:cd P C)(d:cd P D)(e:cd P E)(f:cd P F)(g:cd P G):cE P [A,B,C,D,E,F,G]:= .cons a (Rv b c d e f g)
theorem Tb (a:cd P A)(b:cd P B)(c:cd P C)(d:cd P D)(e:cd P E)(f:cd P F)(g:cd P G)(h:cd P H):cE P [A,B,C,D,E,F,G,H]:= .cons a (TJ b c d e f g h)
theorem Rw (a:cd P A)(b:cd P B)(c:cd P C)(d:cd P D)(e:cd P E)(f:cd P F)(g:cd P G)(h:cd P H)(t:cE P l):cE P (A::B::C::D::E::F::G::H::l):= .cons a (.cons b (.cons c (.cons d (.cons e (.cons f (.cons g (.cons h t)))))))
end
abbrev AT.m (x:AT):AT:= .n .no x
abbrev NS :Sk:= .nils
set_option maxRecDepth 100000
abbrev PH :Sh:=(.int .u64)
abbrev v :Sh:=(.int .i64)
abbrev PI :Sh:=(.list PH)
abbrev Uj :Sh:=(.pair v PH)
abbrev Uk :Sh:=(.pair v (.pair .str PH))
abbrev Ul :Sh:=(.pair v Uj)
abbrev Um :Sh:=(.pair v (.pair PH v))
abbrev PJ :Sh:=(.pair v Uk)
abbrev Un :Sh:=(.pair v Ul)
abbrev Uo :Sh:=(.pair v Um)
abbrev It :Sh:=(.list PJ)
abbrev NO :Sh:=(.pair v Un)
abbrev Tm :Sh:=(.pair v Uo)
abbrev LG :Sh:=(.list NO)
abbrev Gk :Sh:=(.pair v Tm)
abbrev k :Sk:=(.ptr 0 0)
abbrev r :Sk:=(.leaf PI)
abbrev i :Sk:=(.leaf v)
abbrev q :Sk:=(.leaf PH)
abbrev fI :Sk:=(.leaf LG)
abbrev w :Sk:=(.leaf .str)
abbrev n :Sk:=(.leaf .bool)
abbrev p :Sk:=(.cint .i64 0)
abbrev Dw :Sk:=(.agg [i,i,i,i,q])
abbrev NP :Sk:=(.agg [i,i,(.leaf (.list v)),i,i,i,i,i])
abbrev tM :Sk:=(.agg [i,r,r,i,fI,i,fI,i,i])
abbrev m :OSk:=(.arr true PH)
abbrev y :OSk:=(.arr true v)
abbrev j :OSk:=(.arr false PH)
abbrev ec :OSk:=(.arr false v)
abbrev o :OSk:=(.arr true NO)
abbrev iy :OSk:=(.arr false NO)
abbrev lw :OSk:=(.cells 1 false [i])
abbrev oJ :OSk:=(.cells 1 true [(.full 9),i])
abbrev gZ :OSk:=(.cells 1 true [i,i,i])
abbrev mg :OSk:=(.cells 1 false [i,i,i])
abbrev oK :OSk:=(.cells 1 true [i,i,i,(.ptr 6 0)])
abbrev Bn :OSk:=(.cells 1 true [i,i,i,(.ptr 7 0)])
abbrev Gl :OSk:=(.cells 1 false [i,i,i,i,(.full 1)])
abbrev Dx :OSk:=(.cells 1 true [(.ptr 1 0),i,(.fn 115 [] []),n,n])
abbrev LH :OSk:=(.cells 1 false [q,q,q,q,q,q,q,q])
abbrev Eg :OSk:=(.cells 1 false [p,NS,NS,p,NS,p,NS,p,p])
abbrev Iu :OSk:=(.cells 1 true [i,i,(.leaf (.list v)),i,i,i,i,i])
abbrev xx :OSk:=(.cells 1 true [i,i,i,i,i,(.full 1),(.full 2),i,(.full 3),i,(.full 4),i,i,(.full 5),(.ptr 6 0),(.ptr 7 0),(.ptr 8 0),i,i,i,i,i,i,i,q])
abbrev Eh :OSk:=(.cells 1 true [i,i,i,i,i,(.full 2),(.full 3),i,(.full 4),i,(.full 5),i,i,(.full 6),(.ptr 7 0),(.ptr 8 0),(.ptr 9 0),i,i,i,i,i,i,i,q])
abbrev wg :OSk:=(.cells 1 false [i,i,i,i,i,(.full 1),(.full 2),i,(.full 3),i,(.full 4),i,i,(.full 5),(.ptr 6 0),(.ptr 7 0),(.ptr 8 0),i,i,i,i,i,i,i,q])
abbrev PK :OSk:=(.cells 1 false [i,i,i,i,i,(.full 2),(.full 3),i,(.full 4),i,(.full 5),i,i,(.full 6),(.ptr 7 0),(.ptr 8 0),(.ptr 9 0),i,i,i,i,i,i,i,q])
abbrev Q2 :OSk:=(.cells 1 false [i,i,i,i,i,(.full 3),(.full 4),i,(.full 5),i,(.full 6),i,i,(.full 7),(.ptr 8 0),(.ptr 9 0),(.ptr 10 0),i,i,i,i,i,i,i,q])
abbrev NQ :OSk:=(.cells 1 false [i,i,i,i,i,(.full 4),(.full 5),i,(.full 6),i,(.full 7),i,i,(.full 8),(.ptr 9 0),(.ptr 10 0),(.ptr 11 0),i,i,i,i,i,i,i,q])
abbrev fu :Alt:=⟨.ret,[],⟨[i],[],[]⟩⟩
abbrev eY :Alt:=⟨.ret,[],⟨[n],[],[]⟩⟩
abbrev TO :OSk:=(.cells 1 false [i,i,i,i,i,(.full 5),(.full 6),i,(.full 1),i,(.full 7),i,i,(.full 8),(.ptr 9 0),(.ptr 10 0),(.ptr 11 0),i,i,i,i,i,i,i,q])
abbrev TP :OSk:=(.cells 1 false [i,i,i,i,i,(.full 5),(.full 6),i,(.full 7),i,(.full 1),i,i,(.full 8),(.ptr 9 0),(.ptr 10 0),(.ptr 11 0),i,i,i,i,i,i,i,q])
abbrev Tn :OSk:=(.cells 1 true [i,i,i,i,i,(.full 1),(.full 2),i,(.full 3),i,(.full 4),i,i,(.full 5),(.ptr 6 0), .nilp,(.ptr 7 0),i,i,i,i,i,i,i,q])
abbrev Ri :Alt:=⟨.normal,[36],⟨[i],[j],[]⟩⟩
abbrev NR :Alt:=⟨(.exit 0),[],⟨[],[j],[]⟩⟩
abbrev TQ :AT:=(.m (.m (.m (.m (.m (.m (.n (.m (.n (.lp [14] Ri [NR] .no) .no)) .no)))))))
abbrev TR :AT:=(.m (.m (.n (.m (.n (.lp [] ⟨.normal,[8,3],⟨[i,(.full 0)],[],[j]⟩⟩ [⟨(.exit 0),[3],⟨[(.full 0)],[],[j]⟩⟩] .no) .no)) .no)))
abbrev NT :Alt:=⟨.normal,[5],⟨[i],[],[]⟩⟩
abbrev Dy :Alt:=⟨(.exit 0),[],⟨[],[],[]⟩⟩
abbrev TS :AT:=(.m (.m (.n (.m (.n (.lp [] NT [⟨.ret,[4],⟨[n],[],[]⟩⟩,Dy] .no) .no)) .no)))
abbrev TT :Alt:=⟨.ret,[],⟨[(.tup [(.agg [i,(.full 0),(.full 1),i,(.full 2),i,(.full 3),i,i]),i,i])],[],[j,j,iy,iy]⟩⟩
abbrev TU :OSk:=(.cells 1 false [i,(.full 11),(.full 12),i,(.full 6),i,(.full 7),i,i,(.fn 1000003 [] [(.ptr 1 0)]),w,(.full 8),i])
abbrev To :OSk:=(.cells 1 false [i,(.full 4),(.full 5),i,(.full 6),i,(.full 7),i,i,(.fn 1000003 [] [(.ptr 1 0)]),w,(.full 8),i])
abbrev NU :Alt:=⟨.ret,[4],⟨[i],[],[]⟩⟩
abbrev SQ :AT:=(.m (.n (.m (.n (.lp [] ⟨.normal,[8],⟨[i],[],[]⟩⟩ [NU,Dy] .no) .no)) .no))
abbrev SV :Alt:=⟨(.exit 0),[3],⟨[i],[],[]⟩⟩
abbrev RU :AT:=(.m (.n (.lp [] ⟨.normal,[11,3],⟨[i,i],[],[]⟩⟩ [SV] .no) .no))
abbrev Rh :OSk:=(.cells 1 false [(.cint .i64 2),i,w,q])
abbrev RV :Alt:=⟨.ret,[2,3,4],⟨[NS,i,(.cint .i64 2)],[Rh],[]⟩⟩
abbrev NV :AT:=(.m (.m .no))
abbrev SS :AT:=(.m (.n (.m NV) .no))
abbrev PL :AT:=(.m (.m (.n (.n (.m SS) .no) .no)))
abbrev Q3 :OSk:=(.cells 1 false [i,(.full 4),(.full 5),i,(.full 6),i,(.full 7),i,i])
abbrev SU :AT:=(.m (.n NV .no))
abbrev PM :AT:=(.m (.m (.n (.n (.m SU) .no) .no)))
abbrev RW :AT:=(.m (.m (.m (.m (.m (.m (.m NV)))))))
abbrev RX :Alt:=⟨.normal,[],⟨[],[(.cells 1 false [i,i,p,p,(.cint .u64 0)])],[]⟩⟩
abbrev SR :OSk:=(.cells 1 false [p,p,p,p,(.cint .u64 0)])
abbrev RY :Alt:=⟨.normal,[],⟨[],[SR],[]⟩⟩
abbrev RZ :AT:=(.m (.n (.n (.jn [] [] [⟨.normal,[3],⟨[n],[],[]⟩⟩] .no .no) .no) .no))
abbrev R3 :OSk:=(.cells 1 false [i,i,(.leaf (.list v)),i,i,i,i,i])
abbrev Q4 :Alt:=⟨.ret,[],⟨[(.tup [(.agg [i,(.full 0)]),i,i])],[],[iy]⟩⟩
abbrev R4 :Alt:=⟨.ret,[],⟨[(.tup [(.full 0),i,i])],[],[(.arr false PJ)]⟩⟩
abbrev R5 :Alt:=⟨.normal,[7,8,2],⟨[i,i,i],[j,j,LH],[]⟩⟩
abbrev R6 :Alt:=⟨.ret,[],⟨[(.tup [(.full 0),i])],[],[(.arr false Gk)]⟩⟩
abbrev Q5 :OSk:=(.cells 1 false [(.ptr 1 0),i,(.fn 115 [] []),n,n])
abbrev NW :OSk:=(.cells 1 false [(.ptr 3 0),i,(.fn 115 [] []),n,n])
abbrev R7 :AT:=(.n (.jn [] [] [⟨.normal,[16],⟨[n],[],[]⟩⟩] .no .no) .no)
abbrev R8 :AT:=(.n (.jn [] [] [⟨.normal,[21],⟨[n],[],[]⟩⟩] .no .no) .no)
abbrev Q6 :OSk:=(.cells 1 false [p,p,NS,p,p,p,p,p])
abbrev R9 :AT:=(.m (.jn [] [] [⟨.normal,[9],⟨[n],[],[]⟩⟩] .no .no))
abbrev Sc :OSk:=(.cells 1 false [(.cint .i64 1),i,w,(.cint .u64 0)])
abbrev Q7 :OSk:=(.cells 1 false [n,n,n,n,n,n,n])
abbrev Sd :OSk:=(.cells 1 false [k,i,(.fn 115 [] []),n,n])
abbrev Se :OSk:=(.cells 1 false [k,i,(.fn 116 [] []),n,n])
abbrev Si :OSk:=(.cells 1 false [k,i,(.fn 117 [] []),n,n])
abbrev Sj :Alt:=⟨.ret,[],⟨[(.tup [(.agg [i,i]),n])],[],[]⟩⟩
abbrev Sl :Alt:=⟨.ret,[],⟨[(.tup [(.agg [i,p]),n])],[],[]⟩⟩
abbrev Sm :AT:=(.jn [] [] [⟨.normal,[32],⟨[n],[],[]⟩⟩] .no .no)
abbrev Sn :Alt:=⟨.ret,[],⟨[(.agg [i,i,i,i])],[],[]⟩⟩
abbrev So :AT:=(.jn [] [] [⟨.normal,[8],⟨[n],[],[]⟩⟩] .no .no)
abbrev Sp :Alt:=⟨.ret,[],⟨[(.tup [.nilp,(.cint .i64 2)])],[],[]⟩⟩
abbrev AX :OSk:=(.cells 1 false [w])
abbrev Sq :Alt:=⟨(.exit 0),[],⟨[],[AX],[]⟩⟩
abbrev Sr :Alt:=⟨.ret,[3,4],⟨[i,(.cint .i64 3)],[Eg],[]⟩⟩
abbrev Q8 :Alt:=⟨.ret,[],⟨[(.tup [(.full 0),i])],[],[ec]⟩⟩
abbrev PN :OSk:=(.cells 1 true [i,i,i,i,(.full 1)])
abbrev Q9 :OSk:=(.cells 1 false [i,i,(.leaf (.list v))])
abbrev Ss :Alt:=⟨.ret,[],⟨[(.full 0)],[],[(.arr false .str)]⟩⟩
abbrev Ra :Alt:=⟨.ret,[],⟨[(.tup [])],[wg,mg,j],[]⟩⟩
abbrev St :OSk:=(.cells 1 false [k,i, .nilf,n,n])
abbrev Su :OSk:=(.cells 1 false [i,i,i,(.ptr 7 0)])
abbrev Sv :Alt:=⟨.ret,[],⟨[(.tup [k,p])],[],[mg]⟩⟩
abbrev PO :OSk:=(.cells 1 true [i,i,i,(.ptr 1 0)])
abbrev Sw :OSk:=(.cells 1 true [i,i,i,(.ptr 9 0)])
abbrev Sx :Alt:=⟨.ret,[],⟨[(.tup [.nilp,i])],[],[]⟩⟩
abbrev Sy :Alt:=⟨.ret,[],⟨[i],[wg,mg,j],[]⟩⟩
abbrev Sz :Alt:=⟨.ret,[],⟨[(.tup [])],[j,j],[]⟩⟩
abbrev SA :Alt:=⟨.ret,[],⟨[(.tup [])],[mg,j],[]⟩⟩
abbrev SB :Alt:=⟨.ret,[],⟨[(.tup [])],[wg,j],[]⟩⟩
abbrev LI :Alt:=⟨.ret,[],⟨[(.tup [i,i])],[],[]⟩⟩
abbrev PP :Alt:=⟨.ret,[],⟨[(.tup [i,n])],[],[]⟩⟩
abbrev Rb :Alt:=⟨.ret,[],⟨[(.tup [q,q])],[],[]⟩⟩
abbrev SC :Alt:=⟨.ret,[],⟨[(.tup [Dw,i])],[],[]⟩⟩
abbrev SD :OSk:=(.cells 1 false [i,i,i,i])
abbrev SE :Alt:=⟨.normal,[0,2],⟨[q,i],[],[]⟩⟩
abbrev SF :Alt:=⟨.normal,[3],⟨[(.full 1)],[],[ec]⟩⟩
abbrev SG :Alt:=⟨.ret,[],⟨[],[j,j,LH],[]⟩⟩
abbrev SH :Alt:=⟨.ret,[],⟨[(.full 10)],[],[j]⟩⟩
abbrev SI :Alt:=⟨.ret,[],⟨[i],[j,j],[]⟩⟩
abbrev NX :Alt:=⟨.ret,[],⟨[(.full 0)],[],[j]⟩⟩
abbrev SJ :Alt:=⟨.ret,[],⟨[(.full 0)],[],[ec]⟩⟩
abbrev PQ :Alt:=⟨.ret,[],⟨[(.tup [])],[j],[]⟩⟩
abbrev PR :OSk:=(.cells 1 false [(.full 1),i])
abbrev PS :OSk:=(.cells 1 false [(.full 2),i])
abbrev Rc :OSk:=(.cells 1 false [(.full 8),i])
abbrev SK :OSk:=(.cells 1 false [i,(.full 2)])
abbrev Rd :OSk:=(.cells 1 false [i,(.full 3)])
abbrev Bo :OSk:=(.cells 1 true [(.full 10),i])
abbrev SL :OSk:=(.cells 1 true [(.full 12),i])
abbrev SM :Alt:=⟨(.exit 0),[5],⟨[i],[],[]⟩⟩
abbrev PT :OSk:=(.cells 1 true [(.full 1),i])
abbrev PU :OSk:=(.cells 1 true [(.full 2),i])
abbrev Re :OSk:=(.cells 1 true [(.full 8),i])
abbrev SN :Alt:=⟨.normal,[4],⟨[n],[],[]⟩⟩
abbrev Rf :Alt:=⟨.ret,[],⟨[i],[j],[]⟩⟩
abbrev SO :Alt:=⟨.ret,[],⟨[i],[ec],[]⟩⟩
abbrev SP :Alt:=⟨.ret,[],⟨[i],[mg],[]⟩⟩
abbrev LJ :Alt:=⟨.ret,[],⟨[i],[Gl],[]⟩⟩
abbrev LK :OSk:=(.cells 1 true [i,fI])
abbrev Gm :Alt:=⟨.ret,[],⟨[w],[],[]⟩⟩
abbrev PV :OSk:=(.cells 1 false [p,NS])
abbrev NY :Alt:=⟨.normal,[],⟨[],[],[]⟩⟩
abbrev PW :OSk:=(.cells 1 false [n])
abbrev Rg :OSk:=(.cells 1 true [r])
abbrev Bp :OSk:=(.cells 1 true [i])
def dK :FSum:=⟨78,[.leaf PI],[],po PH,bn⟩
theorem cg :Rt dK:=uF (es:=1) (bytes:=8) (z:=[(.int .u64 0)]) (s:=PH) (by kernel_rfl) (fun _=>by kernel_rfl) (fun _=>by kernel_rfl) (by kernel_rfl)
theorem wI :Rt ⟨75,[r,i],[],[⟨.ret,[],⟨[(.tup [(.full 0),(.full 1),i])],[],[(.arr false PI),j]⟩⟩],un _ qy⟩:=rq ((.m (.m (.m (.m (.m (.n (.n (.lp [] ⟨.normal,[7,0,8],⟨[(.full 0),r,p],[],[(.arr false PI)]⟩⟩ [⟨(.exit 0),[8,7,0],⟨[i,(.full 0),r],[],[(.arr false PI)]⟩⟩] .no) .no) .no))))))) (gw cg)
theorem DV :Rt ⟨104,[r],[],[⟨.ret,[],⟨[(.fn 149 [] [k,(.ptr 1 0)])],[],[(.cells 1 false [(.cint .i64 (-1))]),(.cells 1 false [r])]⟩⟩],wx⟩:=rq (.no) (.nil _)
theorem Bf :Rt ⟨149,[k,(.ptr 1 0)],[lw,Rg],[⟨.ret,[],⟨[n],[lw],[]⟩⟩],un _ tb⟩:=rq (.no) (.nil _)
theorem DT :Rt ⟨76,[i,r],[],[⟨.ret,[],⟨[(.tup [(.full 0),i])],[],[(.arr false .bool)]⟩⟩],un _ wv⟩:=rq ((.m (.m (.m (.m (.m (.n (.m (.n (.lp [0] ⟨.normal,[18,7],⟨[i,(.full 2)],[lw],[(.arr false .bool)]⟩⟩ [⟨(.exit 0),[7],⟨[(.full 2)],[lw],[(.arr false .bool)]⟩⟩] .no) .no)) .no))))))) (rP DV Bf)
theorem Bg :Rt ⟨38,[r],[],[⟨.ret,[],⟨[(.tup [r,(.full 0),i])],[],[(.arr false .bool)]⟩⟩],tc⟩:=rq (.no) (rP wI DT)
theorem ux :Rt ⟨207,[i],[],[⟨.ret,[],⟨[(.agg [n,n,n,n])],[],[]⟩⟩],pY⟩:=rq ((.m (.n (.m (.n (.jn [] [] [SN] .no R9) .no)) .no))) (.nil _)
theorem tj :Rt ⟨208,[n,k,(.ptr 1 0),(.ptr 2 0)],[lw,Rg,PW],[⟨.ret,[],⟨[q],[lw,PW],[]⟩⟩],un _ ny⟩:=rq (.no) (.nil _)
theorem Ba :Rt ⟨209,[n,k],[(.cells 1 true [(.fn 208 [] [(.ptr 1 0),(.ptr 2 0),(.ptr 3 0)])]),lw,Rg,PW],[⟨.ret,[],⟨[i],[lw,PW],[]⟩⟩],un _ jr⟩:=rq (.no) (gw tj)
theorem DK :Rt ⟨150,[r],[],[⟨.ret,[],⟨[(.tup [Dw,i,i])],[],[]⟩⟩],wo⟩:=rq (.no) (B4 ux Ba tj)
theorem A7 :Rt ⟨105,[r],[],[⟨.ret,[],⟨[(.tup [(.full 0),i])],[],[iy]⟩⟩],s9⟩:=rq ((.m (.m (.m (.m (.n (.n (.lp [] ⟨.normal,[0,4,5],⟨[r,(.full 0),n],[],[iy]⟩⟩ [⟨(.exit 0),[5,4],⟨[n,(.full 0)],[],[iy]⟩⟩] .no) .no) .no)))))) (gw DK)
theorem ou :Rt ⟨106,[fI],[],[Q8],kj⟩:=C5 [⟨151,bx Tryz.prog 151 ⟨[],[⟨152,bx Tryz.prog 152 ⟨[],[]⟩ .no⟩]⟩ (.m (.m (.m (.m (.n (.m (.n (.lp [1,3] ⟨.normal,[11,5,6],⟨[i,(.full 4),n],[ec,(.cells 1 false [(.full 5)])],[ec,ec]⟩⟩ [⟨(.exit 0),[6,5],⟨[n,(.full 4)],[ec,(.cells 1 false [(.full 5)])],[ec,ec]⟩⟩] (.m (.m (.n (.n (.m (.jn [] [4] [⟨(.exit 0),[6,5],⟨[n,(.full 7)],[],[ec]⟩⟩,⟨.normal,[5,6],⟨[(.full 7),n],[],[ec]⟩⟩] R7 .no)) .no) .no)))) .no)) .no)))))⟩] (.no) (.nil _) (ad.cons (az (.nil _) (ad.cons (az (.nil _) (ad.nil _)) (ad.nil _))) (ad.nil _))
theorem tg :Rt ⟨79,[q],[],[fu],jq⟩:=rq (.no) (.nil _)
theorem xU :Rt ⟨77,[r,(.leaf (.list PI))],[],[⟨.ret,[],⟨[(.tup [(.full 0),i])],[],[(.arr false (.pair v LG))]⟩⟩],un _ pT⟩:=rq ((.m (.m (.n (.m (.n (.lp [] ⟨.normal,[15,6],⟨[i,(.full 0)],[],[(.arr false (.pair v LG))]⟩⟩ [⟨.ret,[4,5],⟨[NS,(.cint .i64 6)],[],[]⟩⟩,⟨(.exit 0),[6],⟨[(.full 0)],[],[(.arr false (.pair v LG))]⟩⟩] .no) .no)) .no)))) (B4 A7 ou tg)
theorem qz :Rt ⟨132,[n,i],[],[fu],un _ fy⟩:=rq (.no) (.nil _)
theorem uq :Rt ⟨88,[tM],[],[fu],un _ mC⟩:=rq (.no) (gw qz)
theorem oq :Rt ⟨192,[n,i],[],[fu],un _ cZ⟩:=rq (.no) (.nil _)
theorem uw :Rt ⟨205,[i],[],[eY],oZ⟩:=rq (.no) (.nil _)
theorem x8 :Rt ⟨318,[i,n],[],[eY],un _ gR⟩:=rq (.no) (.nil _)
theorem BU :Rt ⟨306,[Dw],[],[eY],un _ tZ⟩:=rq (.no) (B4 ux uw x8)
theorem rX :Rt ⟨305,[Dw],[],[eY],un _ jR⟩:=rq (.no) (gw BU)
theorem kS :Rt ⟨319,[fI,(.fn 305 [] [])],[],[fu],fk⟩:=rq (SQ) (gw rX)
theorem jh :Rt ⟨307,[fI,(.fn 305 [] [])],[],[eY],ej⟩:=rq (.no) (gw kS)
def ig :FSum:=⟨292,[(.agg [i,fI])],[],[fu],un _ fe⟩
theorem mN :Rt ig:=rq (.no) (B4 ou oq jh)
theorem qE :Rt ⟨320,[(.full 0)],[ec],[⟨.ret,[],⟨[(.tup [])],[ec],[]⟩⟩],jd⟩:=rq ((.m (.n (.lp [0] ⟨.normal,[2,3],⟨[i,i],[ec],[]⟩⟩ [⟨(.exit 0),[],⟨[],[ec],[]⟩⟩] .no) .no))) (.nil _)
theorem BT :Rt ⟨309,[Dw],[],[SJ],un _ tY⟩:=rq ((.m (.m (.jn [] [] [SF] (.m (.n (.jn [] [] [SF,⟨(.exit 0),[3],⟨[NS],[],[]⟩⟩] (.n (.jn [] [] [NY,⟨(.exit 2),[],⟨[],[],[]⟩⟩,Dy] .no .no) .no) .no) .no)) .no)))) (gw qE)
theorem tn :Rt ⟨247,[Dw],[],[PP],un _ nz⟩:=rq (.no) (gw ux)
theorem mO :Rt ⟨310,[i,k],[LK],[eY],un _ ga⟩:=rq (.no) (.nil _)
theorem pm :Rt ⟨228,[(.leaf (.list v)),(.fn 310 [] [k])],[LK],[fu],un _ ie⟩:=rq (SQ) (gw mO)
theorem mU :Rt ⟨179,[(.leaf (.list v)),(.fn 310 [] [k])],[LK],[eY],un _ gc⟩:=rq (.no) (gw pm)
theorem ot :Rt ⟨308,[Dw,k],[LK],[eY],un _ gP⟩:=rq ((.m (.m (.jn [] [2] [⟨.normal,[4],⟨[(.full 3)],[],[ec]⟩⟩] .no .no)))) (B4 BT tn mU)
theorem jA :Rt ⟨319,[fI,(.fn 308 [] [k])],[LK],[fu],un _ eC⟩:=rq (SQ) (gw ot)
theorem iE :Rt ⟨307,[fI,(.fn 308 [] [k])],[LK],[eY],un _ dG⟩:=rq (.no) (gw jA)
def eT :FSum:=⟨293,[(.agg [i,fI])],[],[fu],un _ dk⟩
theorem iM :Rt eT:=rq (.no) (rP oq iE)
theorem Gu :Rt ⟨311,[fI],[],[LI],Ak⟩:=C5 [⟨151,bx Tryz.prog 151 ⟨[],[⟨321,bx Tryz.prog 321 ⟨[],[]⟩ .no⟩]⟩ (.m (.m (.m (.m (.n (.m (.n (.lp [1] ⟨.normal,[11,5,6],⟨[i,(.full 2),n],[lw],[ec]⟩⟩ [⟨(.exit 0),[6,5],⟨[n,(.full 2)],[lw],[ec]⟩⟩] (.m (.m (.n (.n (.m (.jn [] [2] [⟨(.exit 0),[6,5],⟨[n,(.full 4)],[],[ec]⟩⟩,⟨.normal,[5,6],⟨[(.full 4),n],[],[ec]⟩⟩] R7 .no)) .no) .no)))) .no)) .no)))))⟩] (.no) (.nil _) (ad.cons (az (.nil _) (ad.cons (az (.nil _) (ad.nil _)) (ad.nil _))) (ad.nil _))
def gL :FSum:=⟨294,[(.agg [i,fI])],[],[fu],un _ eM⟩
theorem lH :Rt gL:=rq (.no) (rP Gu oq)
theorem Fs :Rt ⟨245,[i,q],[],[PP],un _ xM⟩:=rq (.no) (.nil _)
theorem Iy :Rt ⟨246,[(.leaf (.list v))],[],[fu],BI⟩:=rq ((.m (.m (.n (.m (.n (.lp [] ⟨.normal,[8,3],⟨[i,i],[],[]⟩⟩ [SV] .no) .no)) .no)))) (.nil _)
theorem uB :Rt ⟨193,[fI],[],[⟨.ret,[],⟨[(.tup [(.full 0),(.full 1),i,i])],[],[ec,ec]⟩⟩],o0⟩:=rq ((.m (.m (.n (.dr [0,1,3,4,2,6,5,7]) (.m (.m (.n (.m (.n (.lp [1,2] ⟨.normal,[34,8,5],⟨[i,(.full 4),p],[ec,ec],[(.arr false (.pair v v))]⟩⟩ [⟨(.exit 0),[5,8],⟨[i,(.full 4)],[ec,ec],[(.arr false (.pair v v))]⟩⟩] .no) .no)) (.jn [] [] [NT] .no .no)))))))) (JO ou Fs tn Iy)
def wD :FSum:=⟨135,[fI],[],[LI],fB⟩
theorem jg :Rt wD:=rq (.no) (gw uB)
def gp :FSum:=⟨295,[(.agg [i,fI])],[],[fu],un _ dY⟩
theorem kP :Rt gp:=rq (.no) (gw jg)
theorem Fc :Rt ⟨133,[(.agg [i,fI]),(.agg [i,fI])],[],[fu],un _ xD⟩:=C5 [⟨191,bx Tryz.prog 191 ⟨[ig,eT,gL,gp],[⟨244,bx Tryz.prog 244 ⟨[],[]⟩ .no⟩]⟩ (.m (.m (.n SS (.n (.m (.n (.n PL (.n PL (.n PL (.n PL (.m .no))))) .no)) .no))))⟩] (.no) (.nil _) (ad.cons (az (JO mN iM lH kP) (ad.cons (az (.nil _) (ad.nil _)) (ad.nil _))) (ad.nil _))
theorem qA :Rt ⟨89,[tM],[],[fu],un _ i6⟩:=rq (.no) (gw Fc)
theorem Fb :Rt ⟨134,[(.agg [i,fI]),(.agg [i,fI]),i,i],[],[fu],un _ xC⟩:=rq (R9) (gw oq)
theorem up :Rt ⟨90,[tM],[],[fu],un _ mB⟩:=rq (.no) (gw Fb)
theorem sf :Rt ⟨91,[tM],[],[fu],un _ jX⟩:=rq ((.m (.m (.jn [] [] [⟨.normal,[3],⟨[i],[],[]⟩⟩] .no .no)))) (gw qz)
theorem se :Rt ⟨92,[tM],[],[fu],un _ jW⟩:=rq (.no) (gw qz)
theorem pk :Rt ⟨48,[tM],[],[fu],un _ jV⟩:=rq ((.m (.m (.n (.m (.n (.lp [] ⟨.normal,[20],⟨[i],[],[]⟩⟩ [⟨.ret,[2],⟨[i],[],[]⟩⟩,Dy] .no) .no)) .no)))) (Rn uq qA up sf se)
theorem A6 :Rt ⟨39,[r],[],[⟨.ret,[],⟨[(.tup [(.agg [i,(.full 0),(.full 1),i,fI,i,fI,i,i]),(.full 2),i])],[],[j,j,j]⟩⟩],s8⟩:=rq ((.m (.m (.m (.m (.m (.m (.m (.m (.jn [0,1,2,4,5,6] [] [⟨.normal,[],⟨[],[(.cells 1 false [i,(.full 5),(.full 6),i,fI,i,fI,i,i]),(.arr false PI),j,(.arr false (.pair v LG)),j,j],[]⟩⟩] .no .no)))))))))) (Rn wI xU cg tg pk)
theorem oL :Rt ⟨93,[tM],[],[LI],un _ lO⟩:=rq (.no) (rP pk jg)
theorem x9 :Rt ⟨49,[tM],[],[⟨.ret,[],⟨[(.agg [i,i,i,i,i,i,i,i,i])],[],[]⟩⟩],un _ rT⟩:=rq ((.m (.m (.m (.m (.jn [] [] [⟨.normal,[7,8],⟨[i,i],[],[]⟩⟩] .no .no)))))) (gw oL)
theorem BW :Rt ⟨94,[(.agg [i,i,i,i,i,i,i,i,i]),i],[],[SJ],un _ wO⟩:=C5 [⟨136,bx Tryz.prog 136 ⟨[],[]⟩ .no⟩] ((.m (.m (.m (.m (.n (.m (.n (.lp [1] ⟨.normal,[10,7],⟨[i,(.full 2)],[lw],[ec]⟩⟩ [⟨(.exit 0),[7],⟨[(.full 2)],[lw],[ec]⟩⟩] .no) .no)) .no)))))) (.nil _) (ad.cons (az (.nil _) (ad.nil _)) (ad.nil _))
theorem Gv :Rt ⟨50,[(.agg [i,i,i,i,i,i,i,i,i]),i],[],[fu],un _ Al⟩:=rq (.no) (gw BW)
theorem qf :Rt ⟨23,[tM],[],[⟨.ret,[],⟨[(.tup [(.agg [i,i,i,i]),i])],[],[]⟩⟩],un _ mE⟩:=rq ((.m (.m (.m (.m (.jn [] [] [⟨.normal,[6],⟨[i],[],[]⟩⟩] .no (.m (.m (.n (.m (.n (.lp [3] ⟨.normal,[35],⟨[i],[SD],[]⟩⟩ [⟨(.exit 0),[],⟨[],[SD],[]⟩⟩] .no) .no)) .no))))))))) (B4 pk x9 Gv)
theorem qD :Rt ⟨40,[(.leaf (.list .bool)),n],[],[fu],un _ jc⟩:=rq (SQ) (.nil _)
theorem wF :Rt ⟨19,[r],[],[⟨.ret,[],⟨[(.tup [(.agg [i,(.full 0),(.full 1),i,fI,i,fI,i,i,r,(.full 2)]),i])],[],[j,j,(.arr false .bool)]⟩⟩],qv⟩:=rq ((.m (.m (.m (.m (.jn [0,2,3,4] [1] [⟨.normal,[],⟨[],[(.cells 1 false [i,(.full 2),(.full 3),i,fI,i,fI,i,i,r,(.full 5)]),j,j,j],[(.arr false .bool)]⟩⟩] .no .no)))))) (JO Bg A6 qf qD)
theorem nD :Rt ⟨153,[.leaf LG],[],po NO,dJ⟩:=uF (es:=5) (bytes:=40) (z:=[(.int .i64 0),(.int .i64 0),(.int .i64 0),(.int .i64 0),(.int .u64 0)]) (s:=NO) (by kernel_rfl) (fun _=>by kernel_rfl) (fun _=>by kernel_rfl) (by kernel_rfl)
theorem DM :Rt ⟨154,[tM],[],[Q8],un _ wq⟩:=rq (.no) (B4 qf x9 BW)
theorem DF :Rt ⟨107,[tM],[],[Sx,⟨.ret,[],⟨[(.tup [k,p])],[],[(.cells 1 false [i,i,i,i,i,(.full 1),(.full 2),i,(.full 3),i,(.full 4),i,i,(.full 5), .nilp, .nilp, .nilp,i,p,(.cint .i64 (-1)),p,p,p,p,(.cint .u64 0)]),j,j,iy,iy,ec]⟩⟩],un _ wk⟩:=rq (.no) (JO qf nD cg DM)
theorem DE :Rt ⟨155,[i],[],[fu],wj⟩:=rq (.no) (.nil _)
theorem Gq :Rt ⟨108,[i],[],[⟨.ret,[],⟨[(.tup [k,p])],[],[(.cells 1 false [(.full 1),p]),j]⟩⟩],tR⟩:=rq (.no) (gw DE)
theorem Ix :Rt ⟨156,[i,i,i],[],[Sp,Sv],un _ BF⟩:=rq (.no) (.nil _)
theorem Gt :Rt ⟨109,[i],[],[Sv],Aj⟩:=rq (.no) (gw Ix)
theorem su :Rt ⟨157,[k,i,i],[gZ],[eY],un _ ki⟩:=rq (.no) (.nil _)
theorem nY :Rt ⟨158,[k,i],[mg],[⟨.ret,[],⟨[(.tup [])],[mg],[]⟩⟩],un _ iT⟩:=rq (.no) (.nil _)
def gt :FSum:=⟨110,[k,i],[mg],[SP],un _ cQ⟩
theorem dv :Rt gt:=rq (.no) (rP su nY)
theorem wS :Rt ⟨159,[k],[PT,m],[fu],un _ oV⟩:=rq (.no) (.nil _)
theorem pi :Rt ⟨111,[k,i],[PR,m],[⟨.ret,[],⟨[(.tup [i,i])],[PR],[]⟩⟩],un _ gh⟩:=rq (.no) (gw wS)
theorem rc :Rt ⟨112,[k],[Tn,m,m,o,o,y,Re,gZ,m],[eY],un _ jD⟩:=rq (.no) (.nil _)
theorem yf :Rt ⟨160,[(.agg [i,i,i])],[],[eY],un _ p7⟩:=rq (.no) (.nil _)
def pg :FSum:=⟨161,[(.agg [i,i,i])],[],[fu],un _ eD⟩
theorem jB :Rt pg:=rq (.no) (.nil _)
def iV :FSum:=⟨162,[k,i,r],[PT,j],[Rf],un _ cJ⟩
theorem df :Rt iV:=C5 [⟨189,bx Tryz.prog 189 ⟨[],[⟨210,bx Tryz.prog 210 ⟨[],[]⟩ .no⟩]⟩ .no⟩] (.no) (.nil _) (ad.cons (az (.nil _) (ad.cons (az (.nil _) (ad.nil _)) (ad.nil _))) (ad.nil _))
theorem Gz :Rt ⟨113,[k,i,i],[PR,j],[⟨.ret,[],⟨[(.tup [(.ptr 2 0),p])],[PR,j],[(.cells 1 false [i,i,i,k])]⟩⟩],un _ An⟩:=rq (.no) (JO yf jB pi df)
theorem wU :Rt ⟨114,[k,i,r],[Tn,m,m,o,o,y,Re,gZ,j],[PQ],un _ jw⟩:=rq (.no) (gw df)
def mJ :FSum:=⟨114,[k,i,r],[xx,m,m,o,o,y,oJ,oK,gZ,j],[PQ],un _ ag⟩
theorem ck :Rt mJ:=rq (.no) (gw df)
theorem Gr :Rt ⟨80,[tM],[],[Sx,⟨.ret,[],⟨[(.tup [k,p])],[],[(.cells 1 false [i,i,i,i,i,(.full 1),(.full 2),i,(.full 3),i,(.full 4),i,i,(.full 5),(.ptr 6 0), .nilp,(.ptr 7 0),i,p,(.cint .i64 (-1)),p,p,p,p,(.cint .u64 0)]),j,j,iy,iy,ec,Rc,mg,j]⟩⟩,⟨.ret,[],⟨[(.tup [k,p])],[],[(.cells 1 false [i,i,i,i,i,(.full 1),(.full 2),i,(.full 3),i,(.full 4),i,i,(.full 5),(.ptr 6 0),(.ptr 7 0),(.ptr 8 0),i,p,(.cint .i64 (-1)),p,p,p,p,(.cint .u64 0)]),j,j,iy,iy,ec,(.cells 1 false [(.full 9),i]),(.cells 1 false [i,i,i,(.ptr 6 0)]),mg,j]⟩⟩],un _ Ah⟩:=rq ((.m (.m (.m (.m (.m (.m (.m (.jn [1,7,8] [] [⟨.normal,[],⟨[],[(.cells 1 false [i,i,i,i,i,(.full 2),(.full 3),i,(.full 4),i,(.full 5),i,i,(.full 6),(.ptr 7 0), .nilp,(.ptr 9 0),i,p,(.cint .i64 (-1)),p,p,p,p,(.cint .u64 0)]),Rc,j],[]⟩⟩,⟨.normal,[],⟨[],[(.cells 1 false [i,i,i,i,i,(.full 2),(.full 3),i,(.full 4),i,(.full 5),i,i,(.full 6),(.ptr 7 0),(.ptr 10 0),(.ptr 9 0),i,p,(.cint .i64 (-1)),p,p,p,p,(.cint .u64 0)]),Rc,j],[Su]⟩⟩] .no .no))))))))) (Rw DF Gq Gt dv pi rc Gz wU (gw ck))
theorem Gs :Rt ⟨81,[tM, .nilp],[],[⟨.ret,[],⟨[k],[],[(.cells 1 false [.nilp,i, .nilf,n,n])]⟩⟩,⟨.ret,[],⟨[k],[],[(.cells 1 false [.nilp,i,(.fn 115 [] []),n,n])]⟩⟩,⟨.ret,[],⟨[k],[],[(.cells 1 false [.nilp,i,(.fn 116 [] []),n,n])]⟩⟩,⟨.ret,[],⟨[k],[],[(.cells 1 false [.nilp,i,(.fn 117 [] []),n,n])]⟩⟩],un _ Ai⟩:=rq (.no) (.nil _)
theorem DG :Rt ⟨81,[tM,k],[Tn,m,m,o,o,y,Re,gZ,m],[⟨.ret,[],⟨[(.ptr 9 0)],[],[St]⟩⟩,⟨.ret,[],⟨[(.ptr 9 0)],[],[Sd]⟩⟩,⟨.ret,[],⟨[(.ptr 9 0)],[],[Se]⟩⟩,⟨.ret,[],⟨[(.ptr 9 0)],[],[Si]⟩⟩],un _ wl⟩:=rq (.no) (.nil _)
theorem DH :Rt ⟨81,[tM,k],[xx,m,m,o,o,y,oJ,oK,gZ,m],[⟨.ret,[],⟨[(.ptr 10 0)],[],[St]⟩⟩,⟨.ret,[],⟨[(.ptr 10 0)],[],[Sd]⟩⟩,⟨.ret,[],⟨[(.ptr 10 0)],[],[Se]⟩⟩,⟨.ret,[],⟨[(.ptr 10 0)],[],[Si]⟩⟩],un _ wm⟩:=rq (.no) (.nil _)
theorem xT :Rt ⟨41,[tM],[],[⟨.ret,[],⟨[(.tup [k,p])],[],[Q5,(.cells 1 false [i,i,i,i,i,(.full 2),(.full 3),i,(.full 4),i,(.full 5),i,i,(.full 6),(.ptr 7 0),(.ptr 8 0),(.ptr 9 0),i,p,(.cint .i64 (-1)),p,p,p,p,(.cint .u64 0)]),j,j,iy,iy,ec,(.cells 1 false [(.full 10),i]),Su,mg,j]⟩⟩],un _ rR⟩:=rq (.no) (JO Gr Gs DG DH)
theorem nZ :Rt ⟨42,[(.agg [i,r,r,i,fI,i,fI,i,i,r,(.leaf (.list .bool))]),k,i],[Dx,Eh,m,m,o,o,y,Bo,Bn,gZ,m],[⟨.ret,[],⟨[k],[],[]⟩⟩],un _ dR⟩:=rq ((.m (.n (.m (.n (.lp [] ⟨.normal,[14,1],⟨[i,k],[],[]⟩⟩ [⟨(.exit 0),[1],⟨[k],[],[]⟩⟩] .no) .no)) .no))) (.nil _)
theorem dS :Rt ⟨46,[k],[Dx,Eh,m,m,o,o,y,Bo,Bn,gZ,m],[⟨.ret,[],⟨[(.ptr 1 0)],[],[]⟩⟩],un _ de⟩:=rq (.no) (.nil _)
theorem wT :Rt ⟨52,[k],[xx,m,m,o,o,y,oJ,oK,gZ,m],[fu],un _ oW⟩:=rq (.no) (.nil _)
theorem nX :Rt ⟨26,[k],[Dx,Eh,m,m,o,o,y,Bo,Bn,gZ,m],[fu],un _ iS⟩:=rq (.no) (rP dS wT)
def gu :FSum:=⟨230,[(.agg [i,i,i]),i],[],[fu],un _ cF⟩
theorem gv :Rt gu:=rq (.no) (gw jB)
def gT :FSum:=⟨229,[k,i],[PT,m],[⟨.ret,[],⟨[(.tup [q,i])],[],[]⟩⟩],un _ fd⟩
theorem gX :Rt gT:=C5 [⟨189,bx Tryz.prog 189 ⟨[],[⟨190,bx Tryz.prog 190 ⟨[dK],[]⟩ .no⟩]⟩ .no⟩] (.no) (.nil _) (ad.cons (az (.nil _) (ad.cons (az (gw cg) (ad.nil _)) (ad.nil _))) (ad.nil _))
theorem wY :Rt ⟨181,[k],[PO,PU,m],[⟨.ret,[],⟨[(.full 3)],[],[ec]⟩⟩],un _ pa⟩:=rq ((.m (.m (.m (.n (.m (.n (.lp [] ⟨.normal,[14,3],⟨[i,(.full 3)],[],[ec]⟩⟩ [⟨(.exit 0),[3],⟨[(.full 3)],[],[ec]⟩⟩] .no) .no)) .no))))) (rP gv gX)
theorem nU :Rt ⟨127,[k],[xx,m,m,o,o,y,oJ,oK,gZ,m],[⟨.ret,[],⟨[(.agg [i,i,(.full 10)])],[],[ec]⟩⟩],un _ iP⟩:=rq (.no) (gw wY)
theorem uo :Rt ⟨164,[k],[Dx,Eh,m,m,o,o,y,Bo,Bn,gZ,m],[⟨.ret,[],⟨[(.agg [i,i,(.full 11)])],[],[ec]⟩⟩],un _ mz⟩:=rq (.no) (rP dS nU)
theorem BS :Rt ⟨178,[i],[],[eY],tV⟩:=rq (.no) (.nil _)
theorem ut :Rt ⟨177,[i,k],[Bp],[eY],un _ kb⟩:=rq (.no) (.nil _)
theorem nE :Rt ⟨228,[(.leaf (.list v)),(.fn 177 [] [k])],[Bp],[fu],un _ gC⟩:=rq (SQ) (gw ut)
theorem lz :Rt ⟨179,[(.leaf (.list v)),(.fn 177 [] [k])],[Bp],[eY],un _ fJ⟩:=rq (.no) (gw nE)
theorem kR :Rt ⟨180,[.leaf (.list v)],[],po v,gn⟩:=uF (es:=1) (bytes:=8) (z:=[(.int .i64 0)]) (s:=v) (by kernel_rfl) (fun _=>by kernel_rfl) (fun _=>by kernel_rfl) (by kernel_rfl)
theorem xZ :Rt ⟨126,[i,(.agg [i,i,(.leaf (.list v))])],[],[Sp,⟨.ret,[],⟨[(.tup [k,p])],[],[(.cells 1 false [i,i,i,p,(.full 1)]),ec]⟩⟩],un _ rS⟩:=rq (.no) (JO BS ut lz kR)
def wz :FSum:=⟨211,[i,(.agg [i,i,(.leaf (.list v))])],[],[eY],un _ wu⟩
theorem DR :Rt wz:=rq (.no) (gw xZ)
def p9 :FSum:=⟨212,[],[],[⟨.ret,[],⟨[(.tup [(.agg [p,p]),n])],[],[]⟩⟩],fun _=>fj⟩
theorem qg :Rt p9:=rq (.no) (.nil _)
def ub :FSum:=⟨213,[i,(.agg [i,i,(.leaf (.list v))])],[],[⟨.ret,[],⟨[NP],[],[]⟩⟩],un _ t8⟩
theorem BY :Rt ub:=rq ((.m (.m (.jn [0,1,2] [] [⟨.normal,[],⟨[],[Q9,Q6,(.cells 1 false [i,i,(.leaf (.list v)),i,(.cint .i64 (-1)),p,p,(.cint .i64 (-1))])],[]⟩⟩] .no (.n (.m (.n (.lp [0,1,2] ⟨.normal,[20],⟨[i],[Q9,Q6,R3],[]⟩⟩ [⟨(.exit 0),[],⟨[],[Q9,Q6,R3],[]⟩⟩] .no) .no)) .no))))) (.nil _)
def wA :FSum:=⟨254,[i,i],[],[⟨.ret,[],⟨[(.fn 296 [] [k,(.ptr 1 0)])],[],[lw,lw]⟩⟩],un _ gH⟩
theorem DS :Rt wA:=rq (.no) (.nil _)
theorem gN :Rt ⟨253,[NP],[],[eY],un _ eO⟩:=rq (.no) (.nil _)
def kH :FSum:=⟨252,[k],[Iu],[eY],un _ ko⟩
theorem sv :Rt kH:=rq (.no) (gw gN)
def te :FSum:=⟨296,[k,(.ptr 1 0)],[Bp,Bp],[Sj],un _ fa⟩
theorem Bd :Rt te:=rq (.no) (.nil _)
def kI :FSum:=⟨255,[k],[Iu],[eY],un _ kq⟩
theorem sw :Rt kI:=rq (.no) (.nil _)
def kJ :FSum:=⟨256,[k,(.ptr 1 0)],[Iu,Bp],[eY],un _ ku⟩
theorem sx :Rt kJ:=rq (.no) (gw gN)
def kK :FSum:=⟨257,[k],[Iu],[eY],un _ kv⟩
theorem sA :Rt kK:=rq (.no) (.nil _)
def nT :FSum:=⟨258,[NP],[],[Sl],un _ nQ⟩
theorem v8 :Rt nT:=rq (.no) (gw gN)
def kL :FSum:=⟨259,[k],[Iu],[eY],un _ kw⟩
theorem sB :Rt kL:=rq (.no) (.nil _)
def mK :FSum:=⟨260,[NP],[],[Sl],un _ mG⟩
theorem uz :Rt mK:=rq (.no) (gw qg)
def kM :FSum:=⟨261,[k],[Iu],[eY],un _ kA⟩
theorem sC :Rt kM:=rq (.no) (.nil _)
def kN :FSum:=⟨262,[k],[Iu],[eY],un _ kB⟩
theorem sD :Rt kN:=rq (.no) (.nil _)
def kO :FSum:=⟨263,[k],[Iu],[eY],un _ kC⟩
theorem sE :Rt kO:=rq (.no) (.nil _)
def qY :FSum:=⟨264,[],[],[eY],fun _=>qX⟩
theorem yV :Rt qY:=rq (.no) (.nil _)
theorem Fl :Rt ⟨322,[i],[],[eY],xI⟩:=rq (.no) (.nil _)
theorem x7 :Rt ⟨328,[q,q],[],[Rb],un _ pX⟩:=rq (.no) (.nil _)
theorem x6 :Rt ⟨195,[q],[],[fu],pW⟩:=rq ((.m (.jn [] [] [SE] .no (.jn [] [] [SE] .no .no)))) (.nil _)
theorem pl :Rt ⟨330,[q],[],[fu],ib⟩:=rq (.no) (gw x6)
theorem x5 :Rt ⟨329,[q,q,q],[],[Rb],un _ pV⟩:=rq ((.m (.m (.m (.m (.m (.m (.m (.m (.m (.m (.m (.m (.m (.m (.n (.n (.lp [] ⟨.normal,[15,16],⟨[q,q],[],[]⟩⟩ [⟨(.exit 0),[15],⟨[q],[],[]⟩⟩] .no) .no) (.m (.m (.m (.n (.n (.lp [] ⟨.normal,[18,16],⟨[q,q],[],[]⟩⟩ [⟨(.exit 2),[18],⟨[q],[],[]⟩⟩] .no) .no) .no)))))))))))))))))))) (gw pl)
theorem BP :Rt ⟨326,[i,i,i],[],[fu],un _ tS⟩:=rq (.no) (rP x7 x5)
theorem tf :Rt ⟨314,[i,i],[],[fu],un _ jp⟩:=rq ((.m (.m (.m (.m (.n (.m (.n (.lp [] ⟨.normal,[6,5],⟨[i,i],[],[]⟩⟩ [SM] .no) .no)) .no)))))) (gw BP)
theorem BX :Rt ⟨325,[i,i],[],[fu],un _ t7⟩:=rq (.no) (gw tf)
theorem DQ :Rt ⟨324,[i,k,(.ptr 1 0)],[Bp,Bp],[eY],un _ wt⟩:=rq (.no) (gw BX)
theorem Fk :Rt ⟨323,[i,(.fn 324 [] [k,(.ptr 1 0)])],[Bp,Bp],[fu],un _ xH⟩:=rq ((.m (.m (.n (.n (.lp [] ⟨.normal,[5,6],⟨[i,i],[],[]⟩⟩ [SM] .no) .no) .no)))) (gw DQ)
theorem Gy :Rt ⟨312,[i,i],[],[LI],un _ Am⟩:=rq (.no) (rP Fl Fk)
theorem Bc :Rt ⟨313,[(.leaf (.list v))],[],[fu],ta⟩:=rq ((.m (.m (.n RU .no)))) (.nil _)
theorem Fj :Rt ⟨297,[i,i],[],[LI],un _ xG⟩:=rq (.no) (B4 Gy tf Bc)
def mL :FSum:=⟨265,[NP],[],[⟨.ret,[],⟨[(.tup [(.agg [(.cint .i64 1),i]),n])],[],[]⟩⟩],un _ mH⟩
theorem uA :Rt mL:=rq (.no) (gw Fj)
theorem re :Rt ⟨115,[k],[Dx,Eh,m,m,o,o,y,Bo,Bn,gZ,m],[Sj],un _ lN⟩:=C5 [⟨163,bx Tryz.prog 163 ⟨[wz,p9,ub,kH,te,kI,kJ,kK,nT,kL,mK,kM,kN,kO,qY,mL],[⟨214,bx Tryz.prog 214 ⟨[wA],[]⟩ .no⟩]⟩ (.m (.m (.n (.m (.n (.m RW) .no)) .no)))⟩] (.no) (rP nX uo) (ad.cons (az (Rw DR qg BY sv Bd sw sx sA (Tb v8 sB uz sC sD sE yV uA)) (ad.cons (az (gw DS) (ad.nil _)) (ad.nil _))) (ad.nil _))
theorem pM :Rt ⟨112,[k],[xx,m,m,o,o,y,oJ,oK,gZ,m],[eY],un _ iI⟩:=rq (.no) (.nil _)
def pf :FSum:=⟨131,[k,i,i],[PT,m],[⟨.ret,[],⟨[(.tup [(.full 2),i])],[],[j]⟩⟩],un _ gg⟩
theorem jz :Rt pf:=C5 [⟨189,bx Tryz.prog 189 ⟨[],[⟨190,bx Tryz.prog 190 ⟨[dK],[]⟩ .no⟩]⟩ .no⟩] (.no) (.nil _) (ad.cons (az (.nil _) (ad.cons (az (gw cg) (ad.nil _)) (ad.nil _))) (ad.nil _))
def gq :FSum:=⟨87,[k,i],[xx,m,m,o,o,y,oJ,oK,gZ,m],[SH],un _ bm⟩
theorem ca :Rt gq:=rq (.no) (gw jz)
theorem mT :Rt ⟨280,[(.leaf (.list PI))],[],[NX],gb⟩:=C5 [⟨300,bx Tryz.prog 300 ⟨[],[]⟩ .no⟩] ((.m (.m (.n RU (.m (.n (.m (.n (.sz 0 (.lp [] ⟨.normal,[27,6],⟨[i,(.full 0)],[],[j]⟩⟩ [⟨(.exit 2),[6],⟨[(.full 0)],[],[j]⟩⟩] .no) (.lp [] ⟨.normal,[27,6],⟨[i,(.full 1)],[],[j]⟩⟩ [⟨(.exit 2),[6],⟨[(.full 1)],[],[j]⟩⟩] .no)) .no)) .no)))))) (.nil _) (ad.cons (az (.nil _) (ad.nil _)) (ad.nil _))
theorem ij :Rt ⟨221,[k,(.agg [i,fI]),r,r],[xx,m,m,o,o,y,oJ,oK,gZ,m],[SH],un _ ff⟩:=rq (.no) (rP ca mT)
theorem A3 :Rt ⟨315,[(.agg [i,fI])],[],[fu],un _ s5⟩:=C5 [⟨191,bx Tryz.prog 191 ⟨[ig,eT,gL,gp],[⟨244,bx Tryz.prog 244 ⟨[],[]⟩ .no⟩]⟩ (.m (.m (.n SU (.n (.m (.n (.n PM (.n PM (.n PM (.n PM (.m .no))))) .no)) .no))))⟩] (.no) (.nil _) (ad.cons (az (JO mN iM lH kP) (ad.cons (az (.nil _) (ad.nil _)) (ad.nil _))) (ad.nil _))
theorem Fr :Rt ⟨316,[fI],[],[Q8],xL⟩:=rq (.no) (gw uB)
def Ap :FSum:=⟨301,[(.agg [i,fI])],[],[R6],un _ mA⟩
theorem qc :Rt Ap:=rq ((.m (.m (.m (.m (.m (.m (.n (.m (.n (.lp [] ⟨.normal,[11,10,9],⟨[i,(.full 3),(.full 4)],[],[ec,(.arr false Gk)]⟩⟩ [⟨(.exit 0),[9],⟨[(.full 3)],[],[(.arr false Gk)]⟩⟩] (.m (.n (.n (.m (.jn [] [3,4] [⟨(.exit 1),[11,10,9],⟨[i,(.full 6),(.full 7)],[],[ec,(.arr false Gk)]⟩⟩,⟨.normal,[9,11,10],⟨[(.full 6),i,(.full 7)],[],[(.arr false Gk),ec]⟩⟩] (.n (.jn [] [] [⟨.normal,[43],⟨[n],[],[]⟩⟩] .no .no) .no) .no)) .no) .no))) .no)) .no)))))))) (B4 A3 ou Fr)
theorem Ft :Rt ⟨281,[(.agg [i,fI]),r,r],[],[R6],un _ xO⟩:=rq (.no) (rP qc jg)
theorem uv :Rt ⟨302,[Dw,q,q],[],[⟨.ret,[],⟨[q],[],[]⟩⟩],un _ oY⟩:=rq (.no) (.nil _)
theorem GA :Rt ⟨282,[(.full 0),(.full 1),(.full 2)],[(.arr true Gk),j,j],[SI],un _ Ao⟩:=rq ((.m (.m (.m (.n (.lp [1,2,3] ⟨.normal,[8,10,9],⟨[i,i,i],[j,j,LH],[]⟩⟩ [⟨.ret,[6],⟨[i],[j,j,LH],[]⟩⟩] .no) .no))))) (gw uv)
theorem wH :Rt ⟨222,[(.agg [i,(.full 0)]),(.full 1),(.full 2)],[o,j,j],[⟨.ret,[],⟨[(.tup [i,i])],[j,j],[]⟩⟩],un _ qx⟩:=rq (.no) (rP Ft GA)
def ii :FSum:=⟨172,[k],[wg,m,m,o,o,y,oJ,oK,gZ,j],[⟨.ret,[],⟨[(.tup [(.full 10),(.full 11)])],[wg,j],[j,j]⟩⟩],un _ fg⟩
theorem ik :Rt ii:=rq ((.m (.m (.n (.dr [0,1,2,3,4,5,6,8,9,10,11,12,15,1013,1016,7,13,1016,14,17,16,18]) .no)))) (Rn oL ca ij wH ck)
theorem uk :Rt ⟨173,[k,i],[xx,m,m,o,o,y,oJ,oK,gZ,m],[fu],un _ hC⟩:=rq (.no) (.nil _)
def xP :FSum:=⟨227,[(.agg [i,fI]),r],[],[NX],un _ oe⟩
theorem sd :Rt xP:=rq (.no) (gw cg)
def p8 :FSum:=⟨327,[Dw,q,q],[],[Rb],un _ kl⟩
theorem qe :Rt p8:=rq (.no) (.nil _)
theorem w9 :Rt ⟨317,[(.agg [(.full 0),(.full 1),(.full 2)]),Dw,i],[j,j,m],[Sz],un _ pe⟩:=rq (.no) (gw qe)
theorem wZ :Rt ⟨303,[(.agg [(.full 0),(.full 1),(.full 2)]),(.full 3),i],[j,j,m,(.arr true Gk)],[Sz],un _ pc⟩:=rq ((.m (.m (.m (.n (.lp [0,1,5] R5 [SG] .no) .no))))) (gw w9)
theorem yg :Rt ⟨283,[(.agg [i,(.full 0)]),(.full 1),(.full 2),(.full 3)],[o,j,j,m],[SI],un _ rW⟩:=rq (.no) (B4 qc jg wZ)
theorem vY :Rt ⟨226,[k,(.agg [i,(.full 1)]),(.full 2),(.full 3),(.full 4)],[TP,o,j,j,m,m,m,o,y,SL,Sw,gZ,j],[⟨.ret,[],⟨[(.tup [])],[TP,j,j,j],[]⟩⟩],un _ nN⟩:=rq (TQ) (B4 yg ck ca)
def jy :FSum:=⟨225,[k,r],[wg,m,m,o,o,y,oJ,oK,gZ,j],[SB],un _ jv⟩
theorem pj :Rt jy:=rq ((.m (.n (.dr [0,1,2,3,4,5,6,8,1009,7,10,9,11]) .no))) (Rv oL ij wH ck sd vY)
def gr :FSum:=⟨176,[k,i],[mg],[SP],un _ cn⟩
theorem eE :Rt gr:=rq (.no) (gw nY)
theorem nV :Rt ⟨174,[k,i],[wg,m,m,o,o,y,oJ,oK,mg,j],[Ra],un _ iQ⟩:=C5 [⟨223,bx Tryz.prog 223 ⟨[gt,gr],[⟨224,bx Tryz.prog 224 ⟨[gq,jy],[]⟩ .no⟩]⟩ .no⟩] (.no) (gw oL) (ad.cons (az (rP dv eE) (ad.cons (az (rP ca pj) (ad.nil _)) (ad.nil _))) (ad.nil _))
theorem uj :Rt ⟨125,[k,(.agg [i,i])],[wg,m,m,o,o,y,oJ,oK,mg,j],[Sy],un _ mv⟩:=C5 [⟨175,bx Tryz.prog 175 ⟨[gq,xP],[⟨226,bx Tryz.prog 226 ⟨[mJ,gq],[⟨283,bx Tryz.prog 283 ⟨[Ap,wD],[⟨303,bx Tryz.prog 303 ⟨[],[⟨317,bx Tryz.prog 317 ⟨[p8],[]⟩ .no⟩]⟩ (.m (.m (.m (.n (.lp [11,13,18] R5 [SG] .no) .no))))⟩]⟩ .no⟩]⟩ (.m (.m (.m (.m (.m (.m (.n (.m (.n (.sz 20 (.lp [19] Ri [NR] .no) (.lp [17] Ri [NR] .no)) .no)) .no)))))))⟩]⟩ .no⟩] ((.m (.jn [] [] [⟨.normal,[5],⟨[n],[],[]⟩⟩] .no (.jn [] [] [NU,NY] (.n (.jn [] [] [⟨.normal,[19],⟨[n],[],[]⟩⟩] .no (.m Sm)) .no) .no)))) (Tb dv ik uk df ck nV jz eE) (ad.cons (az (rP ca sd) (ad.cons (az (rP ck ca) (ad.cons (az (rP qc jg) (ad.cons (az (.nil _) (ad.cons (az (gw qe) (ad.nil _)) (ad.nil _))) (ad.nil _))) (ad.nil _))) (ad.nil _))) (ad.nil _))
theorem qb :Rt ⟨58,[i],[],[eY],jQ⟩:=rq (.no) (.nil _)
theorem uf :Rt ⟨55,[(.agg [i,i])],[],[eY],un _ oU⟩:=rq (RZ) (gw qb)
theorem rf :Rt ⟨182,[k],[PN,y],[⟨.ret,[],⟨[(.agg [.nilf,(.fn 231 [k] []),(.fn 232 [k] []),(.fn 233 [k] []),(.fn 234 [k] []),(.fn 235 [k] []),(.fn 236 [k] []),(.fn 237 [k] [])])],[],[]⟩⟩],un _ jE⟩:=rq (.no) (.nil _)
theorem pN :Rt ⟨231,[k,i],[Gl,y],[LJ],un _ iJ⟩:=rq (.no) (.nil _)
theorem rg :Rt ⟨232,[k,i],[PN,ec],[SO],un _ jF⟩:=rq (.no) (.nil _)
theorem pO :Rt ⟨233,[k,i],[Gl,y],[LJ],un _ iK⟩:=rq (.no) (.nil _)
theorem sm :Rt ⟨234,[k,i],[PN,ec],[SO],un _ kf⟩:=rq (.no) (.nil _)
theorem jH :Rt ⟨284,[k,i],[Gl,y],[LJ],un _ fP⟩:=rq (.no) (.nil _)
theorem sq :Rt ⟨235,[k,i],[Gl,y],[LJ],un _ kg⟩:=rq (.no) (gw jH)
theorem sj :Rt ⟨236,[k,i],[Gl,y],[LJ],un _ ke⟩:=rq (.no) (gw jH)
theorem pP :Rt ⟨237,[k,i],[Gl,y],[LJ],un _ iL⟩:=rq (.no) (.nil _)
theorem uu :Rt ⟨128,[k,(.agg [i,i])],[Gl,ec],[⟨.ret,[],⟨[i],[Gl,ec],[]⟩⟩],un _ mD⟩:=rq ((.m (.jn [] [] [⟨.ret,[4],⟨[(.cint .i64 2)],[],[]⟩⟩,NY] (.n (.m (.m So)) .no) .no))) (Rw uf rf pN rg pO sm sq sj (gw pP))
theorem ui :Rt ⟨129,[k],[xx,m,m,o,o,y,oJ,oK,gZ,m],[⟨.ret,[],⟨[(.agg [.nilf,(.fn 183 [k] []),(.fn 184 [k] []),(.fn 185 [k] []),(.fn 186 [k] []),(.fn 174 [k] []),(.fn 187 [k] []),(.fn 188 [k] [])])],[],[]⟩⟩],un _ mt⟩:=rq (.no) (.nil _)
theorem A5 :Rt ⟨285,[(.agg [i,fI]),r],[],[⟨.ret,[],⟨[(.tup [(.full 0),(.full 1),i])],[],[(.arr false Gk),j]⟩⟩],un _ s7⟩:=rq (.no) (gw qc)
theorem A4 :Rt ⟨287,[i,Dw],[],[⟨.ret,[],⟨[(.tup [])],[],[]⟩⟩],un _ s6⟩:=rq (.no) (.nil _)
theorem BQ :Rt ⟨286,[(.full 0),(.full 1),i,(.fn 287 [] [])],[(.arr true Gk),j],[PQ],un _ tT⟩:=rq ((.m (.m (.n (.lp [1,2] ⟨.normal,[9,11,10],⟨[i,i,i],[j,LH],[]⟩⟩ [⟨.ret,[],⟨[],[j,LH],[]⟩⟩] .no) .no)))) (rP uv A4)
theorem DI :Rt ⟨238,[(.agg [i,fI]),r],[],[⟨.ret,[],⟨[(.tup [(.full 0),i])],[],[j]⟩⟩],un _ wn⟩:=rq (.no) (rP A5 BQ)
theorem rY :Rt ⟨183,[k,i],[wg,m,m,o,o,y,oJ,oK,gZ,j],[SB],un _ jS⟩:=rq ((.m (.n (.lp [0,9] ⟨.normal,[8],⟨[i],[wg,j],[]⟩⟩ [⟨(.exit 0),[],⟨[],[wg,j],[]⟩⟩] (.m (.m (.n (.n (.m (.n (.dr [0,1,2,3,4,5,6,7,8,9,10,11,13,14,15,16,17,18,19,1020,12,20,21,22,23,24,25,26,27]) .no)) .no) .no)))) .no))) (JO ca ij DI ck)
theorem si :Rt ⟨130,[k],[PN,y],[⟨.ret,[],⟨[(.agg [i,i,(.full 2)])],[],[ec]⟩⟩],un _ cj⟩:=rq (.no) (gw kR)
def gU :FSum:=⟨304,[(.agg [i,i,i]),i],[],[eY],un _ gS⟩
theorem kT :Rt gU:=rq (.no) (.nil _)
theorem wc :Rt ⟨239,[k,i,i,r],[PO,PU,j],[Rf],un _ nS⟩:=C5 [⟨288,bx Tryz.prog 288 ⟨[gU,gu,gT],[⟨289,bx Tryz.prog 289 ⟨[iV],[]⟩ (.m (.n (.n So .no) .no))⟩]⟩ .no⟩] (.no) (.nil _) (ad.cons (az (B4 kT gv gX) (ad.cons (az (gw df) (ad.nil _)) (ad.nil _))) (ad.nil _))
theorem ul :Rt ⟨184,[k,i],[xx,m,m,o,o,y,oJ,oK,mg,j],[SA],un _ mw⟩:=rq (.no) (B4 dv ca wc)
theorem tI :Rt ⟨240,[k,i],[PO,PU,m],[⟨.ret,[],⟨[(.tup [i,(.full 3),i])],[],[j]⟩⟩],un _ lF⟩:=C5 [⟨288,bx Tryz.prog 288 ⟨[gU,gu,gT],[⟨290,bx Tryz.prog 290 ⟨[pf],[]⟩ .no⟩]⟩ .no⟩] (.no) (.nil _) (ad.cons (az (B4 kT gv gX) (ad.cons (az (gw jz) (ad.nil _)) (ad.nil _))) (ad.nil _))
theorem rZ :Rt ⟨185,[k,i],[xx,m,m,o,o,y,oJ,oK,gZ,j],[PQ],un _ jT⟩:=rq (.no) (rP tI ck)
theorem wX :Rt ⟨241,[k,i],[PO,PU,j],[Rf],un _ o9⟩:=C5 [⟨288,bx Tryz.prog 288 ⟨[gU,gu,gT],[⟨291,bx Tryz.prog 291 ⟨[pg,iV],[]⟩ .no⟩]⟩ .no⟩] (.no) (.nil _) (ad.cons (az (B4 kT gv gX) (ad.cons (az (rP jB df) (ad.nil _)) (ad.nil _))) (ad.nil _))
theorem v6 :Rt ⟨186,[k,i],[xx,m,m,o,o,y,oJ,oK,mg,j],[SA],un _ nP⟩:=rq (.no) (rP wX eE)
theorem tE :Rt ⟨226,[k,(.agg [i,(.full 1)]),(.full 2),(.full 3),(.full 4)],[TO,o,j,j,m,m,m,o,y,SL,Sw,gZ,j],[⟨.ret,[],⟨[(.tup [])],[TO,j,j,j],[]⟩⟩],un _ lB⟩:=rq (TQ) (B4 yg ck ca)
def iW :FSum:=⟨175,[k,(.full 1),(.full 2)],[Q2,j,m,m,m,o,o,y,(.cells 1 true [(.full 11),i]),(.cells 1 true [i,i,i,(.ptr 8 0)]),gZ,j],[⟨.ret,[],⟨[(.tup [])],[Q2,j,j],[]⟩⟩],un _ iR⟩
theorem nW :Rt iW:=rq (.no) (B4 ca sd tE)
theorem vZ :Rt ⟨187,[k,i],[wg,m,m,o,o,y,oJ,oK,mg,j],[Ra],un _ nO⟩:=C5 [⟨223,bx Tryz.prog 223 ⟨[gt,gr],[⟨242,bx Tryz.prog 242 ⟨[ii,jy,iW],[]⟩ .no⟩]⟩ .no⟩] (.no) (gw oL) (ad.cons (az (rP dv eE) (ad.cons (az (B4 ik pj nW) (ad.nil _)) (ad.nil _))) (ad.nil _))
theorem sa :Rt ⟨188,[k,i],[wg,m,m,o,o,y,oJ,oK,mg,j],[Ra],un _ jU⟩:=C5 [⟨223,bx Tryz.prog 223 ⟨[gt,gr],[⟨243,bx Tryz.prog 243 ⟨[ii,iW],[]⟩ .no⟩]⟩ .no⟩] (.no) (gw oL) (ad.cons (az (rP dv eE) (ad.cons (az (rP ik nW) (ad.nil _)) (ad.nil _))) (ad.nil _))
theorem xS :Rt ⟨84,[k,(.agg [i,i])],[wg,m,m,o,o,y,oJ,oK,mg,j],[Sy],un _ pS⟩:=rq (.no) (Rw pM uj nU xZ uu ui rY si (Rv ul rZ v6 nV vZ sa))
theorem mS :Rt ⟨43,[k],[Dx,PK,m,m,o,o,y,Bo,Bn,mg,j],[⟨.ret,[],⟨[(.tup [(.agg [i,i]),n,i])],[PK,mg,j],[]⟩⟩],un _ hY⟩:=rq (.no) (rP re xS)
theorem B0 :Rt ⟨21,[(.agg [i,i]),k],[lw],[⟨.ret,[],⟨[(.tup [])],[lw],[]⟩⟩],un _ ua⟩:=rq (.no) (.nil _)
theorem tG :Rt ⟨85,[k],[Dx,Eh,m,m,o,o,y,Bo,Bn,gZ,m],[eY],un _ lD⟩:=rq (.no) (gw re)
theorem gM :Rt ⟨44,[k],[Dx,Eh,m,m,o,o,y,Bo,Bn,gZ,m],[eY],un _ eN⟩:=rq (.no) (gw tG)
theorem vW :Rt ⟨86,[k],[wg,m,m,o,o,y,oJ,oK,gZ,m],[⟨.ret,[],⟨[i],[wg],[]⟩⟩],un _ nL⟩:=rq (.no) (.nil _)
theorem mQ :Rt ⟨45,[k,n],[Q5,PK,m,m,o,o,y,Bo,Bn,gZ,m],[⟨.ret,[],⟨[i],[Q5,PK],[]⟩⟩],un _ hU⟩:=rq (.no) (rP gM vW)
theorem wb :Rt ⟨20,[(.agg [i,r,r,i,fI,i,fI,i,i,r,(.leaf (.list .bool))]),(.fn 21 [] [k])],[lw],[⟨.ret,[],⟨[(.ptr 1 0)],[lw],[(.cells 1 false [(.ptr 2 0),i,(.fn 115 [] []),n,n]),Q2,j,j,iy,iy,ec,(.cells 1 false [(.full 11),i]),(.cells 1 false [i,i,i,(.ptr 8 0)]),mg,j]⟩⟩],un _ nR⟩:=rq ((.m (.m (.m (.m (.n (.lp [0,2,3,11,12] ⟨.normal,[5,7,8],⟨[(.ptr 2 0),i,i],[lw,NW,NQ,mg,j],[]⟩⟩ [⟨.ret,[4],⟨[(.ptr 2 0)],[lw,NW,NQ,mg,j],[]⟩⟩] .no) .no)))))) (Rv xT nZ mS B0 gM mQ)
theorem tD :Rt ⟨47,[k],[xx,m,m,o,o,y,oJ,oK,gZ,m],[⟨.ret,[],⟨[(.tup [(.agg [q,(.full 10),(.full 11)]),i])],[],[j,j]⟩⟩],un _ lA⟩:=rq (.no) (gw ca)
theorem kQ :Rt ⟨22,[k],[Dx,Eh,m,m,o,o,y,Bo,Bn,gZ,m],[⟨.ret,[],⟨[(.tup [(.agg [q,(.full 11),(.full 12)]),i])],[],[j,j]⟩⟩],un _ gi⟩:=rq (.no) (rP dS tD)
theorem DY :Rt ⟨24,[(.leaf (.list PI))],[],[NX],wy⟩:=rq (TR) (.nil _)
theorem ug :Rt ⟨51,[k],[xx,m,m,o,o,y,oJ,oK,gZ,m],[Sn],un _ mr⟩:=rq (.no) (.nil _)
theorem tF :Rt ⟨25,[k],[Dx,Eh,m,m,o,o,y,Bo,Bn,gZ,m],[Sn],un _ lC⟩:=rq (.no) (rP dS ug)
theorem wV :Rt ⟨95,[k],[gZ],[fu],un _ oX⟩:=rq (.no) (.nil _)
theorem vX :Rt ⟨53,[k],[xx,m,m,o,o,y,oJ,oK,gZ,m],[fu],un _ nM⟩:=rq (.no) (gw wV)
theorem um :Rt ⟨27,[k],[Dx,Eh,m,m,o,o,y,Bo,Bn,gZ,m],[fu],un _ my⟩:=rq (.no) (rP dS vX)
theorem Fm :Rt ⟨9,[r],[],[NX],xK⟩:=rq ((.m (.m (.m (.m (.m (.m (.m (.n (.dr [0,1,3,4,5,6,1002,7,1002,8,2,9,10]) (.m (.n (.m (.n (.lp [] ⟨.normal,[68,11],⟨[i,(.full 26)],[],[j]⟩⟩ [⟨(.exit 0),[11],⟨[(.full 26)],[],[j]⟩⟩] .no) .no)) .no))))))))))) (Tb wF wb kQ qf DY tF nX um)
theorem ya :Rt ⟨8,[r,r],[],[eY],un _ iA⟩:=rq (TS) (.nil _)
theorem uC :Rt ⟨28,[i],[],[Gm],kG⟩:=BL
theorem Be :Rt ⟨29,[(.agg [i,i]),k],[(.cells 1 false [NS])],[⟨.ret,[],⟨[(.tup [])],[(.cells 1 false [(.full 1)])],[(.cells 2 false [i,i])]⟩⟩],un _ A1⟩:=rq (.no) (.nil _)
theorem yd :Rt ⟨29,[(.agg [i,i]),k],[(.cells 1 false [(.full 1)]),(.arr false (.pair v v))],[⟨.ret,[],⟨[(.tup [])],[(.cells 1 false [(.full 2)]), .dead],[(.arr false (.pair v v))]⟩⟩],un _ pZ⟩:=rq (.no) (.nil _)
theorem tH :Rt ⟨20,[(.agg [i,r,r,i,fI,i,fI,i,i,r,(.leaf (.list .bool))]),(.fn 29 [] [k])],[(.cells 1 false [NS])],[⟨.ret,[],⟨[(.ptr 1 0)],[(.cells 1 false [(.full 2)])],[NW,(.arr false (.pair v v)),NQ,j,j,iy,iy,ec,(.cells 1 false [(.full 12),i]),(.cells 1 false [i,i,i,(.ptr 9 0)]),mg,j]⟩⟩],un _ lE⟩:=rq ((.m (.m (.m (.m (.n (.lp [0,2,3,11,12] ⟨.normal,[5,7,8],⟨[(.ptr 2 0),i,i],[(.cells 1 false [(.full 13)]),NW,NQ,mg,j],[(.arr false (.pair v v))]⟩⟩ [⟨.ret,[4],⟨[(.ptr 2 0)],[(.cells 1 false [(.full 13)]),NW,NQ,mg,j],[(.arr false (.pair v v))]⟩⟩] .no) .no)))))) (TJ xT nZ mS Be gM mQ yd)
theorem BO :Rt ⟨57,[],[],[⟨.ret,[],⟨[(.agg [w,w,w,w,w,w,w,w,w,w])],[],[]⟩⟩],fun _=>tQ⟩:=rq (.no) (.nil _)
theorem BN :Rt ⟨30,[(.leaf (.list (.pair v v)))],[],[⟨.ret,[],⟨[(.tup [w,i])],[],[]⟩⟩],tP⟩:=C5 [Qo 56,Qn 59] ((.m (.m (.n (.m (.n (.lp [0] ⟨.normal,[9],⟨[i],[AX],[]⟩⟩ [⟨.ret,[2,3],⟨[w,(.cint .i64 2)],[AX],[]⟩⟩,Sq] (.m (.m (.n (.n (.m (.m (.m (.jn [0] [] [⟨.normal,[],⟨[],[AX],[]⟩⟩] .no .no)))) .no) .no)))) .no)) .no)))) (JO uf BO qb uC) (ad.cons (Cc JM) (ad.cons (Cb JM) (ad.nil _)))
def je :FSum:=⟨137,[i],[],[Gm],cN⟩
theorem qB :Rt je:=rq (.no) (.nil _)
def gD :FSum:=⟨138,[q],[],[fu],cO⟩
theorem nC :Rt gD:=nB
def xR :FSum:=⟨60,[q],[],[Gm],gk⟩
theorem ye :Rt xR:=C5 [⟨98,bx Tryz.prog 98 ⟨[],[⟨142,bx Tryz.prog 142 ⟨[je,gD],[⟨139,bx Tryz.prog 139 ⟨[],[]⟩ (.m (.n (.n (.lp [0] ⟨.normal,[4,1],⟨[i,q],[(.arr false (.int .u8))],[]⟩⟩ [⟨(.exit 0),[1,4],⟨[q,i],[(.arr false (.int .u8))],[]⟩⟩] .no) .no) (.m (.jn [0] [] [⟨.normal,[4,12],⟨[i,(.leaf (.int .u32))],[(.arr false (.int .u8))],[]⟩⟩] .no .no))))⟩]⟩ .no⟩]⟩ .no⟩] (.no) (.nil _) (ad.cons (az (.nil _) (ad.cons (az (rP qB nC) (ad.cons (az (.nil _) (ad.nil _)) (ad.nil _))) (ad.nil _))) (ad.nil _))
theorem Fp :Rt ⟨31,[w,r],[],[Gm],un _ ol⟩:=C5 [Qo 56,Qn 59] ((.m (.m (.m (.n (.m (.n (.lp [0] ⟨.normal,[12],⟨[i],[AX],[]⟩⟩ [Sq] .no) .no)) .no))))) (gw ye) (ad.cons (Cc JM) (ad.cons (Cb JM) (ad.nil _)))
theorem DU :Rt ⟨10,[r],[],[Gm],ww⟩:=rq (.no) (Rv wF uC tH BN kQ Fp)
theorem Fe :Rt ⟨4,[],[],[eY],fun _=>og⟩:=rq (.no) (B4 Fm ya DU)
def wB :FSum:=⟨11,[w],[],[Ss],dw⟩
theorem qC :Rt wB:=rq ((.m (.m (.m (.n (.m (.n (.lp [0] ⟨.normal,[3,4],⟨[(.full 1),i],[lw],[(.arr false .str)]⟩⟩ [⟨(.exit 0),[4,3],⟨[i,(.full 1)],[lw],[(.arr false .str)]⟩⟩] .no) .no)) .no))))) (.nil _)
theorem DX :Rt ⟨61,[(.leaf (.int .i32))],[],[eY],dx⟩:=rq (.no) (.nil _)
theorem B1 :Rt ⟨62,[(.leaf (.int .i32))],[],[eY],dA⟩:=rq (.no) (.nil _)
theorem DW :Rt ⟨64,[(.leaf (.int .i32))],[],[fu],ei⟩:=rq (RZ) (.nil _)
theorem Fq :Rt ⟨66,[(.leaf (.int .i32))],[],[⟨.ret,[],⟨[(.leaf (.int .i32))],[],[]⟩⟩],gm⟩:=rq ((.m (.n (.m (.n (.jn [] [] [SN] .no .no) .no)) .no))) (.nil _)
def wC :FSum:=⟨32,[w],[],[R4],gI⟩
theorem wG :Rt wC:=C5 [⟨63,bx Tryz.prog 63 ⟨[],[]⟩ .no⟩,⟨65,bx Tryz.prog 65 ⟨[xR],[⟨63,bx Tryz.prog 63 ⟨[],[]⟩ .no⟩]⟩ .no⟩] ((.m (.m (.n (.m (.n (.lp [0,1] ⟨.normal,[],⟨[],[PS,lw],[(.arr false PJ)]⟩⟩ [⟨.ret,[2,3,4],⟨[NS,i,i],[PS,lw],[(.arr false PJ)]⟩⟩,⟨.ret,[2,3,4],⟨[(.full 2),p,p],[PS,lw],[(.arr false PJ)]⟩⟩,⟨(.exit 0),[],⟨[],[PS,lw],[(.arr false PJ)]⟩⟩] .no) .no)) .no)))) (JO DX B1 DW Fq) (ad.cons (az (.nil _) (ad.nil _)) (ad.cons (az (gw ye) (ad.cons (az (.nil _) (ad.nil _)) (ad.nil _))) (ad.nil _)))
def rb :FSum:=⟨69,[(.leaf It)],[],[⟨.ret,[],⟨[(.tup [(.full 0),n])],[],[j]⟩⟩],iC⟩
theorem yX :Rt rb:=rq ((.m (.m (.n (.m (.n (.lp [] ⟨.normal,[10,4],⟨[i,(.full 0)],[],[j]⟩⟩ [⟨.ret,[2,3],⟨[NS,n],[],[]⟩⟩,⟨(.exit 0),[4],⟨[(.full 0)],[],[j]⟩⟩] .no) .no)) .no)))) (.nil _)
def qZ :FSum:=⟨70,[w],[],[eY],eu⟩
theorem yW :Rt qZ:=rq ((.m (.n (.m (.n (.lp [0] ⟨.normal,[],⟨[],[lw],[]⟩⟩ [⟨.ret,[2],⟨[n],[lw],[]⟩⟩,⟨(.exit 0),[],⟨[],[lw],[]⟩⟩] .no) .no)) .no))) (.nil _)
def xQ :FSum:=⟨102,[r],[],[PP],dZ⟩
theorem Fo :Rt xQ:=rq (.no) (.nil _)
def uc :FSum:=⟨67,[(.leaf (.list .str)),w],[],[Gm],un _ fQ⟩
theorem B2 :Rt uc:=BM
theorem qd :Rt ⟨144,[(.leaf It)],[],[NX],fh⟩:=rq (TR) (.nil _)
theorem th :Rt ⟨145,[(.leaf It)],[],[Gm],gA⟩:=rq ((.m (.m (.n (.m (.n (.lp [] ⟨.normal,[4,3],⟨[i,(.full 0)],[],[(.arr false (.int .i32))]⟩⟩ [⟨(.exit 0),[3],⟨[(.full 0)],[],[(.arr false (.int .i32))]⟩⟩] (.m (.n (.n (.m R8) .no) .no))) .no)) .no)))) (.nil _)
theorem ti :Rt ⟨146,[r],[],[eY],bp⟩:=rq ((.m (.n (.m (.n (.lp [] ⟨.normal,[7],⟨[i],[],[]⟩⟩ [⟨.ret,[2],⟨[n],[],[]⟩⟩,Dy] .no) .no)) .no))) (.nil _)
theorem BR :Rt ⟨100,[(.leaf It)],[],[LI],jZ⟩:=rq ((.m (.m (.n (.n (.jn [] [] [⟨.normal,[7],⟨[n],[],[]⟩⟩] .no .no) .no) .no)))) (B4 qd th ti)
theorem BV :Rt ⟨206,[],[],[⟨.ret,[],⟨[(.agg [w,w,w,w,w,w,w,w])],[],[]⟩⟩],fun _=>t6⟩:=rq (.no) (.nil _)
theorem DJ :Rt ⟨148,[i],[],[Gm],qu⟩:=rq (.no) (rP uw BV)
theorem xX :Rt ⟨204,[r],[],[⟨.ret,[],⟨[(.agg [p,p,p,p,(.cint .u64 0)])],[],[]⟩⟩],jY⟩:=rq (.no) (.nil _)
theorem xW :Rt ⟨203,[r],[],[⟨.ret,[],⟨[(.agg [(.cint .i64 7),p,p,p,q])],[],[]⟩⟩],pU⟩:=rq (.no) (.nil _)
theorem xV :Rt ⟨202,[r],[],[⟨.ret,[],⟨[(.agg [(.cint .i64 5),i,p,p,q])],[],[]⟩⟩],gQ⟩:=rq (.no) (.nil _)
theorem A9 :Rt ⟨251,[r,k],[Bp],[⟨.ret,[],⟨[(.agg [i,i,i,p,(.cint .u64 0)])],[],[]⟩⟩],un _ gB⟩:=rq (.no) (.nil _)
theorem xY :Rt ⟨250,[r,k],[Bp],[⟨.ret,[],⟨[(.agg [i,i,i,i,(.cint .u64 0)])],[],[]⟩⟩],un _ da⟩:=rq (.no) (.nil _)
theorem v7 :Rt ⟨101,[(.leaf It)],[],[SC],fM⟩:=C5 [⟨147,bx Tryz.prog 147 ⟨[],[⟨200,bx Tryz.prog 200 ⟨[],[]⟩ .no⟩,⟨201,bx Tryz.prog 201 ⟨[],[]⟩ .no⟩]⟩ .no⟩] ((.m (.m (.n (.m (.n RW .no)) .no)))) (Rw th qd DJ ti xX xW xV A9 (gw xY)) (ad.cons (az (.nil _) (ad.cons (az (.nil _) (ad.nil _)) (ad.cons (az (.nil _) (ad.nil _)) (ad.nil _)))) (ad.nil _))
def td :FSum:=⟨68,[w],[],[Q4],eZ⟩
theorem A8 :Rt td:=rq ((.m (.m (.m (.m (.m (.n (.m (.n (.lp [0] ⟨.normal,[21,5],⟨[i,n],[SK],[iy]⟩⟩ [⟨.ret,[3,4],⟨[i,i],[PV],[]⟩⟩,⟨(.exit 0),[5],⟨[n],[SK],[iy]⟩⟩] .no) .no)) .no))))))) (JO qC wG BR v7)
theorem BZ :Rt ⟨5,[w],[],[TT],ic⟩:=C5 [⟨12,bx Tryz.prog 12 ⟨[wC],[⟨34,bx Tryz.prog 34 ⟨[rb,qZ],[⟨71,bx Tryz.prog 71 ⟨[xQ],[]⟩ .no⟩]⟩ (.m (.m (.m (.jn [2] [4,5,10] [⟨.ret,[6],⟨[(.cint .i64 3)],[TU],[j,j]⟩⟩,⟨.normal,[],⟨[],[TU],[j,j]⟩⟩] .no .no))))⟩,⟨33,bx Tryz.prog 33 ⟨[uc,td,wB],[]⟩ (.m (.m (.m (.n R8 .no))))⟩]⟩ (.m (.m (.jn [] [] [⟨.normal,[11],⟨[n],[],[]⟩⟩] .no (.n (.n Sm .no) .no))))⟩] ((.m (.m (.m (.m (.n (.m (.n (.lp [0,1,2] ⟨.normal,[22],⟨[i],[Eg,AX,To],[j,j,iy,iy,(.arr false .str)]⟩⟩ [⟨.ret,[3,4],⟨[i,i],[Eg,AX,To],[j,j,iy,iy,(.arr false .str)]⟩⟩,⟨(.exit 0),[],⟨[],[Eg,AX,To],[j,j,iy,iy,(.arr false .str)]⟩⟩] .no) .no)) .no)))))) (gw qC) (ad.cons (az (gw wG) (ad.cons (az (rP yX yW) (ad.cons (az (gw Fo) (ad.nil _)) (ad.nil _))) (ad.cons (az (B4 B2 A8 qC) (ad.nil _)) (ad.nil _)))) (ad.nil _))
theorem wE :Rt ⟨13,[w],[],[Ss],i7⟩:=rq ((.m (.m (.m (.m (.n (.m (.n (.lp [] ⟨.normal,[6,4,3,5],⟨[i,(.full 2),(.full 3),n],[],[(.arr false (.int .u8)),(.arr false .str)]⟩⟩ [⟨(.exit 0),[5,3,4],⟨[n,(.full 2),(.full 3)],[],[(.arr false .str),(.arr false (.int .u8))]⟩⟩] .no) .no)) .no)))))) (.nil _)
theorem Fg :Rt ⟨35,[w,i],[],[⟨.ret,[],⟨[(.tup [i,(.leaf (.int .u8))])],[],[]⟩⟩],un _ iz⟩:=rq ((.m (.m (.m (.jn [] [] [⟨.ret,[4,5],⟨[(.cint .i64 1),(.leaf (.int .u8))],[],[]⟩⟩,NY] .no (.m (.jn [] [] [⟨.normal,[7],⟨[w],[],[]⟩⟩] .no (.m (.jn [] [] [⟨.normal,[8],⟨[w],[],[]⟩⟩] .no .no))))))))) (.nil _)
theorem Ff :Rt ⟨36,[q],[],[Gm],oh⟩:=rq ((.m (.m (.m (.n (.n (.lp [] ⟨.normal,[0,4],⟨[q,w],[],[]⟩⟩ [⟨(.exit 0),[0,4],⟨[q,w],[],[]⟩⟩] .no) .no) .no))))) (.nil _)
theorem mi :Rt ⟨14,[w],[],[R4],ed⟩:=rq ((.m (.m (.m (.n (.n (.lp [] ⟨.normal,[6,5],⟨[i,(.full 1)],[],[(.arr false PJ)]⟩⟩ [⟨.ret,[2,3,4],⟨[(.full 1),i,i],[],[(.arr false PJ)]⟩⟩,⟨(.exit 0),[5],⟨[(.full 1)],[],[(.arr false PJ)]⟩⟩] (.m (.n (.m (.m (.m (.m (.jn [2] [] [⟨(.exit 1),[6],⟨[i],[(.cells 1 false [p,i,w,(.cint .u64 0)])],[]⟩⟩,⟨.normal,[6],⟨[i],[(.cells 1 false [i,i,w,q])],[]⟩⟩,RV] (.n (.m (.m (.jn [] [] [⟨.normal,[44],⟨[n],[],[]⟩⟩] .no (.n (.m (.n (.lp [2] ⟨.normal,[6],⟨[i],[Sc],[]⟩⟩ [⟨(.exit 3),[6],⟨[i],[Sc],[]⟩⟩] .no) .no)) (.jn [] [] [⟨.normal,[79],⟨[n],[],[]⟩⟩] .no (.n (.m (.n (.n (.lp [2] ⟨.normal,[8,6,7],⟨[(.leaf (.int .u8)),i,i],[Rh],[]⟩⟩ [RV,⟨(.exit 5),[6],⟨[i],[Rh],[]⟩⟩] (.m (.n (.m (.jn [] [] [⟨.ret,[2,3,4],⟨[NS,i,(.cint .i64 2)],[],[]⟩⟩,NY] .no .no)) .no))) .no) .no)) .no)))))) .no) .no))))) .no))) .no) .no))))) (rP Fg Ff)
theorem DP :Rt ⟨15,[w],[],[fu],fA⟩:=rq ((.m (.m (.n (.m (.n (.lp [] ⟨.normal,[4],⟨[i],[],[]⟩⟩ [⟨.ret,[2],⟨[i],[],[]⟩⟩,Dy] .no) .no)) .no)))) (.nil _)
theorem Gx :Rt ⟨16,[(.leaf (.list .str)),i],[],[fu],un _ eg⟩:=rq ((.m (.n (.m (.n (.lp [] NT [NU,Dy] .no) .no)) .no))) (gw mi)
theorem wW :Rt ⟨72,[(.leaf It),i,i,w],[],[eY],un _ ba⟩:=rq (.no) (.nil _)
theorem uy :Rt ⟨73,[(.agg [i,i,w,q])],[],[PP],un _ bv⟩:=rq (.no) (.nil _)
theorem yU :Rt ⟨103,[(.leaf It),i],[],[eY],un _ aq⟩:=rq (.no) (gw wW)
theorem Fh :Rt ⟨74,[(.leaf It)],[],[SC],oi⟩:=rq ((.m (.jn [0] [] [⟨.ret,[3],⟨[p],[SR],[]⟩⟩,RY] .no (.jn [0] [] [⟨.ret,[3],⟨[p],[(.cells 1 false [(.cint .i64 7),p,p,p,q])],[]⟩⟩,RY] .no (.m (.m (.m (.n (.jn [] [] [⟨.normal,[67],⟨[n],[],[]⟩⟩] .no (.m (.jn [] [] [⟨.normal,[84],⟨[n],[],[]⟩⟩] .no (.m (.jn [] [] [⟨.normal,[105],⟨[n],[],[]⟩⟩] .no (.m (.jn [] [] [⟨.normal,[142],⟨[n],[],[]⟩⟩] .no (.n (.m (.m (.m (.jn [1] [] [RX] .no (.jn [1] [] [RX] .no .no))))) .no)))))))) .no)))))))) (B4 wW yU uy)
theorem DN :Rt ⟨37,[w],[],[Q4],gG⟩:=rq ((.m (.m (.m (.m (.n (.m (.n (.lp [0,2] ⟨.normal,[7],⟨[i],[PV,Rd],[iy]⟩⟩ [⟨.ret,[3,4],⟨[i,i],[PV,Rd],[iy]⟩⟩,⟨(.exit 0),[],⟨[],[PV,Rd],[iy]⟩⟩] .no) .no)) .no)))))) (Rn wE mi wW uy Fh)
theorem Bb :Rt ⟨17,[(.leaf (.list .str)),i,i],[],[Q4],un _ dI⟩:=rq ((.m (.m (.m (.n (.m (.n (.lp [] ⟨.normal,[11,9,10],⟨[i,w,n],[],[]⟩⟩ [⟨(.exit 0),[9,10],⟨[w,n],[],[]⟩⟩] .no) .no)) .no))))) (rP mi DN)
theorem DO :Rt ⟨6,[w],[],[TT],ja⟩:=rq ((.m (.m (.m (.m (.m (.m (.n (.m (.n (.lp [0,2,3] ⟨.normal,[9,8],⟨[i,i],[Eg,Q3,Q7],[j,j,iy,iy]⟩⟩ [⟨.ret,[3,4],⟨[i,i],[Eg,Q3,Q7],[j,j,iy,iy]⟩⟩,⟨(.exit 0),[8],⟨[i],[Eg,Q3,Q7],[j,j,iy,iy]⟩⟩] (.m (.n (.n (.m (.m (.m (.m (.m (.m (.m (.m (.n (.m (.n (.lp [0] ⟨.normal,[15,14],⟨[i,(.full 10)],[Eg],[j]⟩⟩ [Sr,⟨(.exit 2),[14],⟨[(.full 10)],[Eg],[j]⟩⟩] .no) .no)) (.jn [0] [] [Sr,⟨.normal,[],⟨[],[Eg],[]⟩⟩] .no .no)))))))))) .no) .no))) .no)) .no)))))))) (Rn wE mi DP Gx Bb)
theorem Gw :Rt ⟨18,[fI,fI],[],[eY],un _ mF⟩:=rq (TS) (.nil _)
theorem Fi :Rt ⟨7,[tM,tM],[],[eY],un _ oj⟩:=rq (.no) (rP ya Gw)
theorem ur :Rt ⟨3,[w],[],[eY],ia⟩:=rq (.no) (JO Fe BZ DO Fi)
end
end Go.V
