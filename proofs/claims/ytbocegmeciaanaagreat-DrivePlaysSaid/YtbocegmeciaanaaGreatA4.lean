/- A part of the proofs of this claim: what functions of the program answer on an abstract machine, and plain laws. No condition. -/
import Derived.Test.YtbocegmeciaanaaGreatA3
set_option linter.unusedVariables false
set_option linter.unusedSimpArgs false
set_option linter.unusedSectionVars false
namespace Go.V
open Go.Ab
section
open Bool renaming and_eq_true → aB
open List renaming replicate → bD, nil_append → dD, append_assoc → fB, drop_append → fD, drop_of_length_le → gB, length_append → gD, length_cons → gN, length_take → gO, replicate_succ → gP, take_append_drop → gQ
open Nat renaming beq → aD, le_of_ble_eq_true → bB, eq_of_beq_eq_true → cB, ble → cD, le_refl → dB, zero_add → eD
section
variable {β:Type} {T:ia} {c:Ctx} {e:ej} {ea:dh} {k:VV→bu→Option β} {y:β} {d:List Nat}
theorem VRel.bool_inv {b:Bool}{a:Value}(h:VRel c (.bool b) a):a= .bool b:=by cases h;rfl
theorem VRel.int_inv {kd:IntKind}{n:Int}{a:Value}(h:VRel c (.int kd n) a):a= .int kd n:=by cases h;rfl
theorem VRel.str_inv {l:List Int}{a:Value}(h:VRel c (.str l) a): ∃s,a= .string s∧dw s=l:=by cases h;exact⟨_,rfl,by assumption⟩
theorem VRel.agg_inv {l:List VV}{a:Value}(h:VRel c (.agg l) a): ∃as:Array Value,a= .agg as∧F2 (VRel c) l as.toList:=by cases h;exact⟨_,rfl,by assumption⟩
theorem VRel.tup_inv {l:List VV}{a:Value}(h:VRel c (.tup l) a): ∃as:Array Value,a= .tuple as∧F2 (VRel c) l as.toList:=by cases h;exact⟨_,rfl,by assumption⟩
theorem bR7 {p:Bool}{x z v:VV}{xa za:Value}(h:cy6 p x z=some v)(hx:VRel c x xa)(hz:VRel c z za):VRel c v (cond p xa za):=by
 unfold cy6 at h;split at h
 ·rename_i k1 n1 k2 n2;cases hk:decide (k1=k2)with
  |false=>rw[hk]at h;cases h
  |true=>
   rw[hk]at h;injection h with h
   subst h;have:=of_decide_eq_true hk;subst this;rw[hx.int_inv,hz.int_inv];cases p<;>exact .int _ _
 ·injection h with h
  subst h;rw[hx.bool_inv,hz.bool_inv];cases p<;>exact .bool _
 ·injection h with h
  subst h;cases p<;>assumption
 ·cases h
theorem cE5 (hR:fe c)(he:bz c e ea){x:Operand}(h:k (ev e x) c.S=some y):ck T (.move x) ea c.σ (jd c d k y):=
 cw rfl (jd.same hR (cm he x) h)
theorem cG8 (hR:fe c)(he:bz c e ea){t a b:Operand}{p:Bool}(hp:ev e t= .bool p)(h:cw8 p (ev e a) (ev e b) c.S k=some y):ck T (.pick t a b) ea c.σ (jd c d k y):=by
 have ht:=cm he t;rw[hp]at ht;have ht:=ht.bool_inv
 have key: ∀v,VRel c v (cond p (ea.ev a) (ea.ev b))→k v c.S=some y→ck T (.pick t a b) ea c.σ (jd c d k y):=by
  intro v hv hk;refine cw (v:=cond p (ea.ev a) (ea.ev b)) (σ':=c.σ) ?_ (jd.same hR hv hk);simp only[AOp.run,ht];cases p<;>rfl
 unfold cw8 at h;split at h
 ·rename_i v hs;exact key v (bR7 hs (cm he a) (cm he b)) h
 ·cases p with
  |true=>exact key _ (cm he a) h
  |false=>exact key _ (cm he b) h
theorem jd.new {v:Value}{vv:VV}{b1:Option Nat}{blk:Blk}{σ':Hp}{kill:Option Nat}(hR:fe c)(h:Moves c kill b1 blk σ')(hd: ∀q,kill=some q→q∈d)(hv:VRel ⟨sU c b1,pt c.S kill++[blk],σ',c.fb⟩ vv v)(hk:k vv (pt c.S kill++[blk])=some y):jd c d k y v σ':=
 ⟨vv,_,rfl,h.le hR,h.rel hR,h.calm hR hd,hv,hk⟩
theorem cf3 {blk:Blk}{x:Ab.Blk}{dm:Nat×Nat}(_:blk.dim=some dm):VRel ⟨sU c (some c.σ.n),pt c.S none++[blk],c.σ.add x,c.fb⟩ (.ptr c.S.length 0) (.pointer (some ⟨c.σ.n,0,none⟩)):=by
 refine .ptr (by simp[pt]) rfl fun d' _=>⟨c.σ.n, ?_,rfl⟩
 simp[sU]
theorem cA1 : ∀{z:List Value},z.all cQ8=true→z=bD z.length (.int .u8 0)
 |[],_=>rfl
 |v::z,h=>by
  rw[List.all_cons,aB]at h
  have h1:v= .int .u8 0:=by
   have h0:=h.1;unfold cQ8 at h0;split at h0
   ·rw[of_decide_eq_true h0]
   ·cases h0
  rw[gN,gP,←cA1 h.2,h1]
theorem vA (es:Nat)(z:List Value):(am5 es z).dim=some (es,z.length)∧(am5 es z).frozen=false∧∀c:Ctx,F2 (VRel c) (am5 es z).vals z:=by
 unfold am5;cases hb:bW2 es z with
 |false=>
  rw[zD];exact⟨by simp[Blk.dim],rfl,fun c=>as3 c z⟩
 |true=>
  rw[zC];unfold bW2 at hb;rw[aB,aB]at hb;have he:=cB hb.1.1;subst he;refine⟨by simp[Blk.dim,Sh.w],rfl,fun c=> ?_⟩;have hz:=cA1 hb.2
  have key: ∀n,F2 (VRel c) (gb (.int .u8) (bD n (0:Int))) (bD n (.int .u8 0)):=by
   intro n;induction n with
   |zero=>exact .nil
   |succ n ih=>exact .cons (.int _ _) ih
  have h1:=key z.length;rw[←hz]at h1;exact h1
theorem cp9 (hR:fe c){es:Nat}{z:List Value}(h:gd (cD 1 es) (k (.ptr c.S.length 0) (c.S++[am5 es z]))=some y):ck T (.alloc es z) ea c.σ (jd c d k y):=by
 obtain⟨h1,h2⟩:=ca h;obtain⟨h3,h4,h5⟩:=vA es z;exact cw rfl (jd.new (kill:=none) hR (bJ9 hR (blk:=am5 es z) (x:=⟨z,true,es⟩) (d:=(es,z.length)) h3 (bB h1) rfl rfl (h5 c)) (fun _ h=>by cases h) (cf3 (dm:=(es,z.length)) h3) h2)
theorem cP7 (hR:fe c)(he:bz c e ea){es:Nat}{x:Operand}(h:gd (cD 1 es&&oL (nz (ev e x))) (k (.ptr c.S.length 0) (c.S++[.cells es false (nz (ev e x))]))=some y):ck T (.box es x) ea c.σ (jd c d k y):=by
 obtain⟨h1,h2⟩:=ca h;rw[aB]at h1;have hf:=aJ7 (cm he x) h1.2;refine cw (by simp only[AOp.run];rw[zE (lG hf h1.2)]) (jd.new (kill:=none) hR (bJ9 hR (blk:= .cells es false (nz (ev e x))) (x:=⟨cellsOf (ea.ev x),true,es⟩) (d:=(es,(nz (ev e x)).length)) rfl (bB h1.1) rfl rfl hf) (fun _ h=>by cases h) (cf3 (dm:=(es,_)) rfl) h2)
theorem vF (he:bz c e ea): ∀(ps:List (Nat×Nat×Operand)) {cs r:List VV} {as:List Value},aP8 cs (yr e ps)=some r→F2 (VRel c) cs as→∃ra,an4 as (ps.map fun(o,s,x)=>(o,s,ea.ev x))=some ra∧F2 (VRel c) r ra
 |[],cs,r,as,h,hf=>by
  injection h with h
  subst h;exact⟨as,rfl,hf⟩
 |(o,s,x)::ps,cs,r,as,h,hf=>by
  simp only[yr,List.map_cons,aP8]at h;cases hb:(aD (nz (ev e x)).length s&&cD (o+s) cs.length&&(nz (ev e x)).all cG6)with
  |false=>rw[hb]at h;cases h
  |true=>
   rw[hb,zC]at h;rw[aB,aB]at hb;have h1:=cB hb.1.1;have h2:=bB hb.1.2;have hx:=aJ7 (cm he x) hb.2;have h3:(cellsOf (ea.ev x)).length=s:=by rw[←hx.length];exact h1
   have h4:as.length=cs.length:=hf.length.symm;obtain⟨ra,h5,h6⟩:=vF he ps h (((hf.take o).append hx).append (hf.drop (o+s)));refine⟨ra, ?_,h6⟩;simp only[List.map_cons,an4];rw[zE ⟨h3,by omega⟩];exact h5
theorem cq9 (hR:fe c)(he:bz c e ea){z:List Value}{ps:List (Nat×Nat×Operand)}{cs:List VV}(hf:aP8 (z.map aT4) (yr e ps)=some cs)(h:k (.agg cs) c.S=some y):ck T (.build z ps) ea c.σ (jd c d k y):=by
 obtain⟨ra,h1,h2⟩:=vF he ps hf (as3 c z);exact cw (by simp only[AOp.run,h1];rfl) (jd.same hR (.agg (by simpa using h2)) h)
theorem ug {blk:Blk}{dm:Nat×Nat}{n m:Nat}{b:Nat}{yb:Ab.Blk}{σ':Hp}{kill:Option Nat}(hd:blk.dim=some dm)(hn:n*dm.1=dm.2)(hm:n≤m)(hy:σ'.m b=some yb)(hl:m*dm.1≤yb.cells.length):
  VRel ⟨sU c (some b),pt c.S kill++[blk],σ',c.fb⟩ (.full c.S.length) (.slice (some ⟨b,0,none⟩) n m):=by
 refine .full (by simp[vT]) rfl fun d' hd'=> ?_
 simp only[lq,if_true]at hd';rw[hd]at hd';injection hd' with hd'
 subst hd';exact⟨n,hn, .inr ⟨b,m,yb,by simp,by simp[sU],by rw[eD,hn];exact dB _,hm,hy,by rw[eD];exact hl⟩⟩
theorem aN1 : ∀(n:Nat) (z:List Value),F2 (VRel c) ((bD n (z.map aT4)).flatten) (fd z n)
 |0,_=> .nil
 |n+1,z=>by
  simp only[fd,gP,List.flatten_cons];exact(as3 c z).append (aN1 n z)
theorem bm4 (hR:fe c)(he:bz c e ea){es ln:Nat}{z:List Value}{ps:List (Nat×Nat×Operand)}{cs:List VV}(hf:aP8 ((bD ln (z.map aT4)).flatten) (yr e ps)=some cs)
  (h:gd (oL cs&&aD (ln*es) cs.length&&cD 1 es) (k (.full c.S.length) (c.S++[.cells es false cs]))=some y):ck T (.buildSlice es ln z ps) ea c.σ (jd c d k y):=by
 obtain⟨h1,h2⟩:=ca h;rw[aB,aB]at h1;obtain⟨ra,h3,h4⟩:=vF he ps hf (aN1 ln z);have h5:=cB h1.1.2;refine cw (by simp only[AOp.run,h3];rw[zE (lG h4 h1.1.1)]) (jd.new (kill:=none) hR (bJ9 hR (blk:= .cells es false cs) (x:=⟨ra,true,es⟩) (d:=(es,cs.length)) rfl (bB h1.2) rfl rfl h4) (fun _ h=>by cases h) ?_ h2);exact ug (dm:=(es,cs.length)) (yb:=⟨ra,true,es⟩) rfl h5 (dB _) (zE rfl) (by rw[←h4.length];exact Nat.le_of_eq h5)
theorem cD9 (hR:fe c)(he:bz c e ea){x:Operand}(h:br6 c.S 1 false (ev e x) k=some y):ck T (.load x) ea c.σ (jd c d k y):=by
 obtain⟨b,o,blk,h1,h2,h3,_⟩:=bP9 hR h (cm he x);obtain⟨u,w,h4,h5,h6⟩:=h3 rfl;exact cw (by simp only[AOp.run,h1,h2,h4];rfl) (jd.same hR h5 h6)
theorem cu0 (hR:fe c)(he:bz c e ea){n:Nat}{x:Operand}(h:br6 c.S n true (ev e x) k=some y):ck T (.loadN n x) ea c.σ (jd c d k y):=by
 obtain⟨b,o,blk,h1,h2,_,h3⟩:=bP9 hR h (cm he x);obtain⟨us,ws,h4,h5,h6⟩:=h3 rfl;exact cw (by simp only[AOp.run,h1,h2,h4];rfl) (jd.same hR (.agg (by simpa using h5)) h6)
theorem yX : ∀(vs cells:List Value) (o:Nat),(lL cells o vs).length=cells.length
 |[],_,_=>rfl
 |v::vs,cells,o=>by simp only[lL];rw[yX vs];simp
theorem F2.set {l:List VV}{m:List Value}(h:F2 (VRel c) l m){v:VV}{a:Value}(hv:VRel c v a): ∀i,F2 (VRel c) (l.set i v) (m.set i a):=by
 induction h with
 |nil=>intro i;simp;exact .nil
 |cons h1 h2 ih=>
  intro i;cases i with
  |zero=>exact .cons hv h2
  |succ i=>exact .cons h1 (ih i)
theorem bg8 : ∀{vs:List VV} {as:List Value},F2 (VRel c) vs as→∀{l:List VV} {m:List Value} (o:Nat),F2 (VRel c) l m→F2 (VRel c) (cI1 l o vs) (lL m o as)
 |_,_, .nil,_,_,_,h=>h
 |_,_, .cons h1 h2,_,_,o,h=>bg8 h2 (o+1) (F2.set h h1 o)
theorem ap0 : ∀(vs:List Value) (cs rest:List Value) (o:Nat),o+vs.length≤cs.length→lL (cs++rest) o vs=lL cs o vs++rest
 |[],_,_,_,_=>rfl
 |v::vs,cs,rest,o,h=>by
  simp only[gN]at h;simp only[lL];rw[List.set_append_left _ _ (by omega),ap0 vs _ _ _ (by simp;omega)]
theorem xd : ∀(vs:List Value) (pre cs:List Value) (o:Nat),lL (pre++cs) (pre.length+o) vs=pre++lL cs o vs
 |[],_,_,_=>rfl
 |v::vs,pre,cs,o=>by
  simp only[lL];rw[List.set_append_right _ _ (by omega),Nat.add_sub_cancel_left,Nat.add_assoc,xd vs]
theorem as9 {blk:Ab.Blk}{o:Nat}{vs:List Value}(h1:blk.own=true)(h2:o+vs.length≤blk.cells.length)(h3:vs.all one=true):uL blk o vs=some ⟨lL blk.cells o vs,true,blk.es⟩:=by
 unfold uL;rw[zE ⟨h1,h2,h3⟩,h1]
theorem aI2 (hR:fe c){q es o b:Nat}{l l' vs:List VV}{as:List Value}(hb:bn c.S q= .cells es false l)(hm:c.μ q=some b)(hf:F2 (VRel c) vs as)(h1:oL vs=true)(ho:o+vs.length≤l.length)
  (hl': ∀cs,F2 (VRel c) l cs→F2 (VRel c) l' (lL cs o as)): ∃blk,c.σ.m b=some blk∧∃blk',uL blk o as=some blk'∧Writes c q b (.cells es false l') blk':=by
 obtain⟨y0,cs,rest,h2,h3,h4,h5,h6⟩:=hR.block (k:=q) (d:=(es,l.length)) (by rw[hb];rfl) hm;rw[hb]at h4 h6;have hl:=F2.length h6;simp only[Blk.vals]at hl;have ha:=F2.length hf;refine⟨y0,h2,_,as9 (h4 rfl) (by rw[h5,gD];omega) (lG hf h1),⟨by rw[hb];rfl,hm, ?_,rfl,y0,lL cs o as,rest,(es,l.length),h2,by rw[hb];rfl,h3,rfl,yX _ _ _, ?_,hl' cs h6⟩⟩
 ·have:=F2.length (hl' cs h6);rw[yX]at this;simp only[hb,Blk.dim];rw[this,←hl]
 ·show lL y0.cells o as=_;rw[h5,ap0 _ _ _ _ (by omega)]
theorem bg7 {v:VV}{va:Value}(hv:VRel c v va): ∀{cs:List VV} {as:List Value} {i j:Nat} {r:List VV},bg6 v cs i j=some r→F2 (VRel c) cs as→F2 (VRel c) r (if j≤i then as.set (i-j) va else as)
 |[],_,i,j,r,h,hf=>by
  cases hf;injection h with h
  subst h;simp;exact .nil
 |w::cs,_,i,j,r,h,hf=>by
  cases hf with
  |cons h1 h2=>
   rename_i a as;simp only[bg6]at h;cases hs:cy6 (aD i j) v w with
   |none=>rw[hs]at h;cases h
   |some x=>
    rw[hs]at h;simp only[zG]at h;cases hr:bg6 v cs i (j+1)with
    |none=>rw[hr]at h;cases h
    |some r'=>
     rw[hr]at h;injection h with h
     subst h;have h3:=bg7 hv hr h2;have h4:=bR7 hs hv h1;by_cases hij:i=j
     ·subst hij;rw[zF (by omega)]at h3;rw[zE (dB _),Nat.sub_self];have:aD i i=true:=Nat.beq_refl i;rw[this]at h4;exact .cons h4 h3
     ·have hb:aD i j=false:=by
       cases hh:aD i j with
       |false=>rfl
       |true=>exact(hij (cB hh)).elim
      rw[hb]at h4;by_cases hlt:j+1≤i
      ·rw[zE hlt]at h3;rw[zE (by omega),show i-j=(i-(j+1))+1 by omega];exact .cons h4 h3
      ·rw[zF hlt]at h3;rw[zF (by omega)];exact .cons h4 h3
theorem bp5 {s:Sh}{x:El s}: ∀{l:List (El s)} {i:Nat},i<l.length→gb s (l.set i x)=(gb s l).take (i*s.w)++(er s x++(gb s l).drop (i*s.w+s.w))
 |[],_,h=>by simp at h
 |a::l,0,_=>by
  rw[List.set_cons_zero,ir,ir,Nat.zero_mul,List.take_zero,dD,eD,fD,et,Nat.sub_self,List.drop_zero,gB (by rw[et];exact dB _),dD]
 |a::l,i+1,h=>by
  have h1:(i+1)*s.w=s.w+i*s.w:=by rw[Nat.succ_mul];omega
  rw[List.set_cons_succ,ir,ir,bp5 (by simpa using h),h1,List.take_append,fD,et,List.take_of_length_le (l:=er s a) (by rw[et];omega),gB (l:=er s a) (by rw[et];omega),dD,fB];rw[show s.w+i*s.w-s.w=i*s.w by omega,show s.w+i*s.w+s.w-s.w=i*s.w+s.w by omega]
theorem aK3 (v:VV){q:Nat}(h:ua v=some q):q∈cm1 (ua v):=by rw[h];exact List.mem_singleton.2 rfl
theorem bg9 {vs cs:List Value}{p o w:Nat}(h1:o+vs.length≤w)(h2:p+w≤cs.length):lL cs (p+o) vs=cs.take p++(lL ((cs.drop p).take w) o vs++cs.drop (p+w)):=by
 have e1:cs=cs.take p++((cs.drop p).take w++cs.drop (p+w)):=by
  rw[←List.drop_drop,gQ,gQ]
 have hp:(cs.take p).length=p:=by rw[gO];omega
 have hw:((cs.drop p).take w).length=w:=by rw[gO,List.length_drop];omega
 conv=>lhs;rw[e1]
 have:=xd vs (cs.take p) ((cs.drop p).take w++cs.drop (p+w)) o;rw[hp]at this;rw[this,ap0 _ _ _ _ (by rw[hw];exact h1)]
theorem cz2 (hR:fe c)(he:bz c e ea){n:Nat}{a x:Operand}(hd: ∀q,ua (ev e a)=some q→q∈d)
  (h:gd (aD (nz (ev e x)).length n&&oL (nz (ev e x))) (cb6 c.S (ev e a) (nz (ev e x)) fun S'=>k .undef S')=some y):ck T (.store n a x) ea c.σ (jd c d k y):=by
 obtain⟨h1,h2⟩:=ca h;rw[aB]at h1;have hn:=cB h1.1;have hx:=aJ7 (cm he x) h1.2;have hlen:(cellsOf (ea.ev x)).length=n:=by rw[←hx.length];exact hn
 have ha:=cm he a
 have key: ∀(c1:Ctx) (q b o:Nat) (blk0:Ab.Blk) (blk:Blk) (blk':Ab.Blk),c1.σ=c.σ→Le c c1→tE d c c1→fe c1→q∈d→ea.ev a= .pointer (some ⟨b,o,none⟩)→c.σ.m b=some blk0→uL blk0 o (cellsOf (ea.ev x))=some blk'→Writes c1 q b blk blk'→
   k .undef (lN c1.S q blk)=some y→ck T (.store n a x) ea c.σ (jd c d k y):=by
  intro c1 q b o blk0 blk blk' hσ hle hcalm hR1 hq h3 h4 h5 h6 h7;refine cw (v:=undef) (σ':=c.σ.set b (some blk')) ?_ ?_
  ·simp only[AOp.run,h3,hlen,if_true,h4,h5]
  ·rw[←hσ];exact⟨.undef,_,rfl,hle.trans (h6.le hR1),h6.rel hR1,hcalm.trans (h6.calm hR1 hq) hle, .undef _,h7⟩
 generalize cellsOf (ea.ev x)=as at*;generalize ev e a=av at*;generalize nz (ev e x)=vs at*;unfold cb6 at h2;cases av with
 |ptr q o=>
  simp only at h2;cases hb:bn c.S q with
  |dead=>rw[hb]at h2;cases h2
  |arr s z l=>rw[hb]at h2;cases h2
  |cells es z l=>
   rw[hb]at h2;cases z with
   |true=>cases h2
   |false=>
    obtain⟨h3,h4⟩:=ca h2;cases ha with
    |ptr hk _ hd'=>
     obtain⟨b,hm,hav⟩:=hd' (es,l.length) (by rw[hb];rfl);obtain⟨blk0,h5,blk',h6,h7⟩:=aI2 hR hb hm hx h1.2 (bB h3) fun cs hcs=>bg8 hx o hcs
     exact key c q b o blk0 _ blk' rfl (Le.refl c) (tE.refl d c) hR (hd q rfl) hav h5 h6 h7 h4
 |pix q o m i=>
  simp only at h2;split at h2
  ·rename_i es l v hb;obtain⟨h3,h4⟩:=ca h2;have h3:=bB h3;split at h4
   ·rename_i l' hs;cases hx with
    |cons hv hnil=>
     rename_i va as';cases hnil;cases ha with
     |pix hk _ hi hd'=>
      obtain⟨b,hm,hav⟩:=hd' (es,l.length) (by rw[hb];rfl)
      obtain⟨blk0,h5,blk',h6,h7⟩:=aI2 (l':=l.take o++l'++l.drop (o+m)) (o:=o+i) hR hb hm (.cons hv .nil) h1.2 (by simp;omega) fun cs hcs=>by
       have hl:=hcs.length;rw[bg9 (w:=m) (by simp;omega) (by omega),fB];have h8:=bg7 hv hs ((hcs.drop o).take m);rw[zE (Nat.zero_le _),Nat.sub_zero]at h8;exact(hcs.take o).append (h8.append (hcs.drop _))
      exact key c q b (o+i) blk0 _ blk' rfl (Le.refl c) (tE.refl d c) hR (hd q rfl) hav h5 h6 h7 h4
   ·cases h4
  ·cases h2
 |pel q i o=>
  simp only at h2;cases hb:bn (fzL c.S vs) q with
  |dead=>rw[hb]at h2;cases h2
  |cells es z l=>rw[hb]at h2;cases h2
  |arr s z l=>
   rw[hb]at h2;cases z with
   |true=>cases h2
   |false=>
    simp only at h2;cases hx':l[i]? with
    |none=>rw[hx']at h2;cases h2
    |some x'=>
     rw[hx']at h2;simp only[zG]at h2;split at h2
     ·rename_i z hof;obtain⟨h3,h4⟩:=ca h2;have h3:=bB h3;have hfz:=ar7 c.S vs;have hR1:fe ⟨c.μ,fzL c.S vs,c.σ,c.fb⟩:=hfz.rel hR
      have hi:i<l.length:=by
       rcases Nat.lt_or_ge i l.length with h|h
       ·exact h
       ·rw[List.getElem?_eq_none h]at hx';cases hx'
      have hx1:F2 (VRel ⟨c.μ,fzL c.S vs,c.σ,c.fb⟩) vs as:=VRel.frames hfz.le hx;cases ha with
      |pel hk _ hd'=>
       have hdim:(bn (fzL c.S vs) q).dim=some (s.w,l.length*s.w):=by rw[hb];rfl
       obtain⟨b,hm,hav⟩:=hd' (s.w,l.length*s.w) (by rw[←hfz.dim];exact hdim);obtain⟨y0,cs,rest,h5,h6,h7,h8,h9⟩:=hR1.block (k:=q) hdim hm;rw[hb]at h7 h9;have hl:=h9.length;simp only[Blk.vals,i3]at hl;have hle:i*s.w+s.w≤l.length*s.w:=by rw[←Nat.succ_mul];exact Nat.mul_le_mul_right _ hi
       have hlen':vs.length=as.length:=hx.length;refine key ⟨c.μ,fzL c.S vs,c.σ,c.fb⟩ q b (i*s.w+o) y0 (.arr s false (l.set i z)) _ rfl hfz.le (hfz.calm d) hR1 (hd q rfl) hav h5 (as9 (h7 rfl) (by rw[h8,gD];omega) (lG hx h1.2)) ⟨by rw[hb];rfl,hm,by rw[hdim];simp[Blk.dim],rfl,y0,lL cs (i*s.w+o) as,rest,_,h5,hdim,h6,rfl,yX _ _ _,by rw[h8,ap0 _ _ _ _ (by omega)], ?_⟩ h4;obtain⟨pre,h10,h11,h12⟩:=ll hR1 s _ _ _ hof;rw[List.append_nil]at h10;subst h10;simp only[Blk.vals];rw[bp5 hi,bg9 (w:=s.w) (by omega) (by omega)];refine(h9.take _).append (F2.append (h12 _ (bg8 hx1 o ?_)) (h9.drop _));have h13:=(h9.drop (i*s.w)).take s.w;simp only[Blk.vals]at h13
       rwa [aK6 hx']at h13
     ·cases h2
 |_=>cases h2
end
end
section
open Bool renaming and_eq_true → aD, false_eq_true → bB
open List renaming extract_eq_take_drop → bD
open Nat renaming eq_of_beq_eq_true → cB
open Option renaming map_some → aB
section
variable {β:Type} {T:ia} {c:Ctx} {e:ej} {ea:dh} {k:VV→bu→Option β} {y:β} {d:List Nat}
theorem rl (s:ByteArray):(dw s).length=s.size:=by simp[dw]
theorem ba6 (s t:ByteArray):dw (s++t)=dw s++dw t:=by
 simp[dw,ByteArray.data_append]
theorem aq0 : ∀{l m:List UInt8},(l.map fun b=>(b.toNat:Int))=m.map (fun b=>(b.toNat:Int))→l=m
 |[],[],_=>rfl
 |[],_::_,h=>by simp at h
 |_::_,[],h=>by simp at h
 |a::l,b::m,h=>by
  simp only[List.map_cons,List.cons.injEq]at h;rw[aq0 h.2,UInt8.toNat_inj.1 (Int.ofNat.inj h.1)]
theorem aR1 (s:ByteArray):s.toList=s.data.toList:=by
 rw[ByteArray.toList_eq]
theorem aJ6 (s t:ByteArray):(s.toList==t.toList)=decide (dw s=dw t):=by
 rw[aR1,aR1];by_cases h:s.data.toList=t.data.toList
 ·simp[dw,h]
 ·have:dw s≠dw t:=fun e=>h (aq0 e)
  have h': ¬s.data=t.data:=fun e=>h (by rw[e])
  simp[this,h']
theorem ci2 {op:BinOp}{kd:IntKind}{a b:Int}{kk:VV→Option β}(h:bV7 op kd a b kk=some y): ∃v va,ce2 op kd a b=some va∧VRel c v va∧kk v=some y:=by
 cases op<;>simp only[bV7]at h<;>try(cases h;done)
 case add=>exact⟨_,_,rfl, .int _ _,h⟩
 case sub=>exact⟨_,_,rfl, .int _ _,h⟩
 case mul=>exact⟨_,_,rfl, .int _ _,h⟩
 case quo=>
  obtain⟨h1,h2⟩:=ca h;exact⟨_,_,zF (of_decide_eq_true h1), .int _ _,h2⟩
 case rem=>
  obtain⟨h1,h2⟩:=ca h;exact⟨_,_,zF (of_decide_eq_true h1), .int _ _,h2⟩
 case and=>exact⟨_,_,rfl, .int _ _,h⟩
 case or=>exact⟨_,_,rfl, .int _ _,h⟩
 case xor=>exact⟨_,_,rfl, .int _ _,h⟩
 case andNot=>exact⟨_,_,rfl, .int _ _,h⟩
 case eql=>
  refine⟨_,_,rfl, ?_,h⟩;have:(a==b)=decide (a=b):=by by_cases h:a=b<;>simp[h]
  rw[this];exact .bool _
 case neq=>
  refine⟨_,_,rfl, ?_,h⟩;have:(a !=b)=decide (a≠b):=by by_cases h:a=b<;>simp[h]
  rw[this];exact .bool _
 case lss=>exact⟨_,_,rfl, .bool _,h⟩
 case leq=>exact⟨_,_,rfl, .bool _,h⟩
 case gtr=>exact⟨_,_,rfl, .bool _,h⟩
 case geq=>exact⟨_,_,rfl, .bool _,h⟩
theorem cP6 (hR:fe c)(he:bz c e ea){op:BinOp}{x z:Operand}(h:cP5 op (ev e x) (ev e z) (fun v=>k v c.S)=some y):ck T (.bin op x z) ea c.σ (jd c d k y):=by
 have hx:=cm he x;have hz:=cm he z
 have key: ∀v va,yn op (ea.ev x) (ea.ev z)=some va→VRel c v va→k v c.S=some y→ck T (.bin op x z) ea c.σ (jd c d k y):=fun v va h1 h2 h3=>
  cw (by simp only[AOp.run,h1];rfl) (jd.same hR h2 h3)
 generalize ev e x=xv at*;generalize ev e z=zv at*;unfold cP5 at h;split at h
 ·rename_i kx a kz b;rw[hx.int_inv,hz.int_inv]at key;cases hs:tC op with
  |true=>
   rw[hs,zC]at h;simp only[yn,hs,if_true]at key;cases op<;>simp only[cy9]at h<;>try(cases h;done)
   ·obtain⟨h1,h2⟩:=ca h;have h1:=of_decide_eq_true h1;refine key _ _ ?_ (.int _ _) h2;simp only[bh1];rw[zF (by omega)]
   ·obtain⟨h1,h2⟩:=ca h;have h1:=of_decide_eq_true h1;refine key _ _ ?_ (.int _ _) h2;simp only[bh1];rw[zF (by omega)]
  |false=>
   rw[hs,zD]at h;cases hk:decide (kx=kz)with
   |false=>rw[hk]at h;cases h
   |true=>
    rw[hk,zC]at h;have hk:=of_decide_eq_true hk;subst hk;obtain⟨v,va,h1,h2,h3⟩:=ci2 (c:=c) h;refine key v va ?_ h2 h3;simp only[yn,hs,bB,if_false,if_true,h1]
 ·rename_i a b;obtain⟨s,e1,rfl⟩:=hx.str_inv;obtain⟨t,e2,rfl⟩:=hz.str_inv;rw[e1,e2]at key;cases hs:tC op with
  |true=>rw[hs]at h;cases h
  |false=>
   rw[hs,zD]at h;simp only[yn,hs,bB,if_false]at key;cases op<;>simp only[da9]at h<;>try(cases h;done)
   ·obtain⟨h1,h2⟩:=ca h;have h1:(dw s).length+(dw t).length≤9223372036854775807:=Nat.le_of_ble_eq_true h1;rw[rl,rl]at h1;refine key _ _ ?_ (.str (ba6 s t)) h2;simp only[cg8];rw[zF];show¬(((s.size+t.size:Nat):Int) > 9223372036854775807);omega
   ·refine key _ _ rfl ?_ h;rw[aJ6];exact .bool _
   ·refine key _ _ rfl ?_ h;rw[aJ6];have:(!decide (dw s=dw t))=decide (dw s≠dw t):=by simp
    rw[this];exact .bool _
 ·cases h
theorem sG {b:Blk}(h:b.live=true): ∃dm,b.dim=some dm:=by cases b<;>first|(cases h;done)|exact⟨_,rfl⟩
theorem ay4 {v:VV}{a:Value}(h:VRel c v a)(hp:bc7 c.S v=true): ∃x,a= .pointer (some x):=by
 cases v<;>try(cases hp;done)
 case ptr q o=>
  obtain⟨dd,hh⟩:=sG hp;cases h with
  |ptr hk _ hd=>obtain⟨b,_,h⟩:=hd dd hh;exact⟨_,h⟩
 case pix q o n i=>
  obtain⟨dd,hh⟩:=sG hp;cases h with
  |pix hk _ _ hd=>obtain⟨b,_,h⟩:=hd dd hh;exact⟨_,h⟩
 case pel q i o=>
  obtain⟨dd,hh⟩:=sG hp;cases h with
  |pel hk _ hd=>obtain⟨b,_,h⟩:=hd dd hh;exact⟨_,h⟩
 case pin s x o=>cases h;exact⟨_,rfl⟩
theorem bN8 (hR:fe c)(he:bz c e ea){x:Operand}(h:(match ev e x with
  | .fn f a b=>k (.fn f a b) c.S
  |v=>gd (bc7 c.S v) (k v c.S))=some y):ck T (.nilCheck x) ea c.σ (jd c d k y):=by
 have hx:=cm he x;split at h
 ·rename_i f a b hv;rw[hv]at hx
  have: ∃a' b',ea.ev x= .func (.func f) a' b':=by
   generalize ea.ev x=xa at hx;cases hx;exact⟨_,_,rfl⟩
  obtain⟨a',b',h1⟩:=this;rw[h1]at hx;exact cw (by simp only[AOp.run,h1]) (jd.same hR hx h)
 ·obtain⟨h1,h2⟩:=ca h;obtain⟨p,h3⟩:=ay4 hx h1;rw[h3]at hx;exact cw (by simp only[AOp.run,h3]) (jd.same hR hx h2)
theorem cu6 {neg b:Bool}:(b !=neg)=cu5 neg b:=by cases neg<;>cases b<;>rfl
theorem cP9 (hR:fe c)(he:bz c e ea){kd:Nat}{neg:Bool}{x z:Operand}{p:Bool}(hp:cP8 c.S kd (ev e x) (ev e z)=some p)(h:k (.bool (cu5 neg p)) c.S=some y):ck T (.eqv kd neg x z) ea c.σ (jd c d k y):=by
 have hx:=cm he x;have hz:=cm he z
 have key:bM0 kd (ea.ev x) (ea.ev z)=some p→ck T (.eqv kd neg x z) ea c.σ (jd c d k y):=fun h1=>
  cw (v:= .bool (p !=neg)) (by simp only[AOp.run,h1];rfl) (jd.same hR (by rw[cu6];exact .bool _) h)
 generalize ev e x=xv at*;generalize ev e z=zv at*;unfold cP8 at hp;split at hp
 ·injection hp with hp;subst hp
  rw[hx.bool_inv,hz.bool_inv]at key;exact key rfl
 ·injection hp with hp;subst hp
  refine key ?_;generalize ea.ev x=xa at*;generalize ea.ev z=za at*;cases hx;cases hz;rfl
 ·cases hi:bc7 c.S zv with
  |false=>rw[hi]at hp;cases hp
  |true=>
   rw[hi]at hp;injection hp with hp;subst hp
   refine key ?_;obtain⟨q,h1⟩:=ay4 hz hi;rw[h1];generalize ea.ev x=xa at*;cases hx;rfl
 ·cases hi:bc7 c.S xv with
  |false=>rw[hi]at hp;cases hp
  |true=>
   rw[hi]at hp;injection hp with hp;subst hp
   refine key ?_;obtain⟨q,h1⟩:=ay4 hx hi;rw[h1];generalize ea.ev z=za at*;cases hz;rfl
 ·injection hp with hp;subst hp
  refine key ?_;generalize ea.ev x=xa at*;generalize ea.ev z=za at*;cases hx;cases hz;rfl
 ·injection hp with hp;subst hp
  refine key ?_;generalize ea.ev x=xa at*;generalize ea.ev z=za at*;cases hx;cases hz;rfl
 ·injection hp with hp;subst hp
  refine key ?_;generalize ea.ev x=xa at*;generalize ea.ev z=za at*;cases hx;cases hz;rfl
 ·injection hp with hp;subst hp
  refine key ?_;generalize ea.ev x=xa at*;generalize ea.ev z=za at*;cases hx;cases hz;rfl
 ·cases hp
theorem cC2 {kd:Nat}{v w:VV}{va wa:Value}{p:Bool}(h:cj6 kd v w=some p)(hv:VRel c v va)(hw:VRel c w wa):uc kd va wa=some p:=by
 unfold cj6 at h;split at h
 ·injection h with h;subst h
  rw[hv.bool_inv,hw.bool_inv];rfl
 ·rename_i k1 a k2 b;cases hk:decide (k1=k2)with
  |false=>rw[hk]at h;cases h
  |true=>
   rw[hk]at h;injection h with h;subst h
   rw[hv.int_inv,hw.int_inv];simp only[uc,of_decide_eq_true hk,if_true];by_cases e:a=b<;>simp[e]
 ·injection h with h;subst h
  obtain⟨s,e1,rfl⟩:=hv.str_inv;obtain⟨t,e2,rfl⟩:=hw.str_inv;rw[e1,e2];simp only[uc];rw[aJ6]
 ·cases h
theorem cC3 : ∀{ks:List Nat} {l m:List VV} {la ma:List Value} {p:Bool},bm9 ks l m=some p→F2 (VRel c) l la→F2 (VRel c) m ma→kS ks la ma=some p:=by
 intro ks;induction ks with
 |nil=>
  intro l m la ma p h hl hm;cases hl<;>cases hm<;>simp only[bm9]at h<;>try(cases h;done)
  exact h
 |cons kd ks ih=>
  intro l m la ma p h hl hm;cases hl with
  |nil=>cases m<;>simp[bm9]at h
  |cons h1 h2=>
   cases hm with
   |nil=>cases ks<;>simp[bm9]at h
   |cons h3 h4=>
    rename_i v va l' la' w wa m' ma'
    have key: ∀q r,cj6 kd v w=some q→bm9 ks l' m'=some r→p=(q&&r)→kS (kd::ks) (va::la') (wa::ma')=some p:=by
     intro q r e1 e2 e3;simp only[kS,cC2 e1 h1 h3];cases q with
     |false=>simp[e3]
     |true=>rw[ih e2 h2 h4,e3];simp
    unfold bm9 at h;split at h
    ·rename_i e1 e2 e3;cases e1
    ·rename_i e1 e2 e3;cases e1;cases e2;cases e3;cases h2;cases h4;exact key p true h rfl (by simp)
    ·rename_i e1 e2 e3;cases e1;cases e2;cases e3;cases hq:cj6 kd v w with
     |none=>rw[hq]at h;cases h
     |some q=>
      rw[hq]at h;simp only[zG]at h;cases hr:bm9 ks l' m' with
      |none=>rw[hr]at h;cases h
      |some r=>
       rw[hr]at h;injection h with h
       exact key q r hq hr h.symm
    ·cases h
theorem bX1 (hR:fe c)(he:bz c e ea){ks:List Nat}{neg:Bool}{x z:Operand}{a b:List VV}{p:Bool}(h1:ev e x= .agg a)(h2:ev e z= .agg b)(hp:bm9 ks a b=some p)(h:k (.bool (cu5 neg p)) c.S=some y):
  ck T (.eqCells neg ks x z) ea c.σ (jd c d k y):=by
 have hx:=cm he x;have hz:=cm he z;rw[h1]at hx;rw[h2]at hz;obtain⟨as,e1,f1⟩:=hx.agg_inv;obtain⟨bs,e2,f2⟩:=hz.agg_inv;exact cw (v:= .bool (p !=neg)) (by simp only[AOp.run,e1,e2,cC3 hp f1 f2];rfl) (jd.same hR (by rw[cu6];exact .bool _) h)
theorem db3 (hR:fe c)(he:bz c e ea){op:UnOp}{x:Operand}(h:unK op (ev e x) (fun v=>k v c.S)=some y):ck T (.un op x) ea c.σ (jd c d k y):=by
 have hx:=cm he x;unfold unK at h;split at h
 ·rename_i kd n hv;rw[hv]at hx;exact cw (by simp only[AOp.run,hx.int_inv];rfl) (jd.same hR (.int _ _) h)
 ·rename_i kd n hv;rw[hv]at hx;exact cw (by simp only[AOp.run,hx.int_inv];rfl) (jd.same hR (.int _ _) h)
 ·rename_i b hv;rw[hv]at hx;exact cw (by simp only[AOp.run,hx.bool_inv];rfl) (jd.same hR (.bool _) h)
 ·cases h
theorem bc6 {v:VV}{n:Int}{a:Value}(h:aE9 v=some n)(hv:VRel c v a): ∃kd,a= .int kd n:=by
 cases v<;>simp only[aE9]at h<;>try(cases h;done)
 injection h with h;subst h
 exact⟨_,hv.int_inv⟩
theorem cB3 (hR:fe c)(he:bz c e ea){kd:IntKind}{x:Operand}{n:Int}(hn:aE9 (ev e x)=some n)(h:k (.int kd (kd.wrap n)) c.S=some y):ck T (.conv kd x) ea c.σ (jd c d k y):=by
 obtain⟨kd',hx⟩:=bc6 hn (cm he x);exact cw (by simp only[AOp.run,hx];rfl) (jd.same hR (.int _ _) h)
theorem cl2 (hR:fe c)(he:bz c e ea){f:Nat}{a b:List Operand}(h:k (.fn f (a.map (ev e)) (b.map (ev e))) c.S=some y):ck T (.mkFunc f a b) ea c.σ (jd c d k y):=
 cw rfl (jd.same hR (.fn (by simpa using aU4 he a) (by simpa using aU4 he b)) h)
theorem cj8 (hR:fe c)(he:bz c e ea){o n:Nat}{agg:Bool}{x:Operand}{cs:List VV}(hx:ev e x= .agg cs)(h:cond agg (k (.agg (yQ cs o n)) c.S) (cm2 c.S (nth cs o) k)=some y):ck T (.fieldV o n agg x) ea c.σ (jd c d k y):=by
 have hv:=cm he x;rw[hx]at hv;obtain⟨as,e1,f1⟩:=hv.agg_inv;cases agg with
 |true=>
  refine cw (v:= .agg (as.extract o (o+n))) (by simp only[AOp.run,e1];rfl) (jd.same hR (.agg ?_) h);have:=(f1.drop o).take n;simpa[yQ,Array.toList_extract,bD]using this
 |false=>
  rw[zD]at h;cases hn:nth cs o with
  |none=>rw[hn]at h;cases h
  |some w=>
   rw[hn]at h;obtain⟨u,h1,h2⟩:=F2.nth f1 hn;have h1':as[o]?=some u:=by simpa using h1
   exact cw (by simp only[AOp.run,e1,h1'];rfl) (jd.same hR h2 h)
theorem bX3 (hR:fe c)(he:bz c e ea){i:Nat}{x:Operand}{cs:List VV}(hx:ev e x= .tup cs)(h:cm2 c.S (nth cs i) k=some y):ck T (.extract x i) ea c.σ (jd c d k y):=by
 have hv:=cm he x;rw[hx]at hv;obtain⟨as,e1,f1⟩:=hv.tup_inv;cases hn:nth cs i with
 |none=>rw[hn]at h;cases h
 |some w=>
  rw[hn]at h;obtain⟨u,h1,h2⟩:=F2.nth f1 hn;have h1':as[i]?=some u:=by simpa using h1
  exact cw (by simp only[AOp.run,e1,h1'];rfl) (jd.same hR h2 h)
theorem ar9 {i:Int}{n j:Nat}(h:ix i n=some j):0≤i∧i<n∧j=i.toNat∧j<n:=by
 unfold ix at h;cases hb:(decide (0≤i)&&decide (i<n))with
 |false=>rw[hb]at h;cases h
 |true=>
  rw[hb]at h;injection h with h
  rw[aD]at hb;have h1:=of_decide_eq_true hb.1;have h2:=of_decide_eq_true hb.2;exact⟨h1,h2,h.symm,by omega⟩
theorem cg1 {α:Type}{l:List α}{i:Int}{x:α}(h:rd l i=some x):0≤i∧i<l.length∧l[i.toNat]?=some x:=by
 unfold rd at h;cases hb:decide (0≤i)with
 |false=>rw[hb]at h;cases h
 |true=>
  rw[hb]at h;have h1:=of_decide_eq_true hb
  have h2:i.toNat<l.length:=by
   rcases Nat.lt_or_ge i.toNat l.length with h3|h3
   ·exact h3
   ·rw[zC,List.getElem?_eq_none h3]at h;cases h
  exact⟨h1,by omega,h⟩
theorem bq {α γ:Type}{x:Option α}{f:α→Option γ}{z:γ}(h:x.bind f=some z): ∃a,x=some a∧f a=some z:=by
 cases x with
 |none=>cases h
 |some a=>exact⟨a,rfl,h⟩
theorem ck6 (hR:fe c)(he:bz c e ea){ln es:Nat}{agg:Bool}{x z:Operand}{cs:List VV}{kd:IntKind}{i:Int}(hx:ev e x= .agg cs)(hz:ev e z= .int kd i)
  (h:((ix i ln).bind fun j=>cond agg (k (.agg (yQ cs (j*es) es)) c.S) (gd (Nat.beq es 1&&Nat.beq cs.length ln) (bK3 cs j c.S k)))=some y):ck T (.indexV ln es agg x z) ea c.σ (jd c d k y):=by
 have hv:=cm he x;have hw:=cm he z;rw[hx]at hv;rw[hz]at hw;obtain⟨as,e1,f1⟩:=hv.agg_inv;have e2:=hw.int_inv;obtain⟨j,h1,h2⟩:=bq h;obtain⟨h3,h4,rfl,h5⟩:=ar9 h1;cases agg with
 |true=>
  refine cw (v:= .agg (as.extract (i.toNat*es) (i.toNat*es+es))) (by simp only[AOp.run,e1,e2];rw[zE ⟨h3,h4⟩];rfl) (jd.same hR (.agg ?_) h2);have:=(f1.drop (i.toNat*es)).take es;simpa[yQ,Array.toList_extract,bD]using this
 |false=>
  rw[zD]at h2;obtain⟨h6,h7⟩:=ca h2;rw[aD]at h6;have h8:=cB h6.1;have h9:=cB h6.2;subst h8;obtain⟨w,h10,h11⟩:=bK4 (by omega) h7;obtain⟨u,h12,h13⟩:=f1.get _ _ h10;have h14:as[i.toNat*1]?=some u:=by rw[Nat.mul_one];simpa using h12
  exact cw (by simp only[AOp.run,e1,e2,h14];rw[zE ⟨h3,h4⟩];rfl) (jd.same hR h13 h11)
theorem ck5 (hR:fe c)(he:bz c e ea){x z:Operand}{l:List Int}{kd:IntKind}{i:Int}(hx:ev e x= .str l)(hz:ev e z= .int kd i)(h:((rd l i).bind fun b=>k (.int .u8 b) c.S)=some y):ck T (.indexS x z) ea c.σ (jd c d k y):=by
 have hv:=cm he x;have hw:=cm he z;rw[hx]at hv;rw[hz]at hw;obtain⟨s,e1,rfl⟩:=hv.str_inv;have e2:=hw.int_inv;obtain⟨b,h1,h2⟩:=bq h;obtain⟨h3,h4,h5⟩:=cg1 h1;simp only[dw,List.getElem?_map]at h5;cases hb:s.data.toList[i.toNat]? with
 |none=>rw[hb]at h5;cases h5
 |some u=>
  rw[hb,aB]at h5;injection h5 with h5
  subst h5
  have h6:s[i.toNat]?=some u:=by
   have:i.toNat<s.size:=by rw[rl]at h4;omega
   rw[getElem?_pos s i.toNat this];rw[←hb,Array.getElem?_toList,getElem?_pos s.data i.toNat this];rfl
  exact cw (v:= .int .u8 u.toNat) (by simp only[AOp.run,e1,e2,h6];rw[zE h3];rfl) (jd.same hR (.int _ _) h2)
theorem cE4 (hR:fe c)(he:bz c e ea){x z:Operand}{kd kd':IntKind}{a b:Int}(hx:ev e x= .int kd a)(hz:ev e z= .int kd' b)(h:k (.int kd (max a b)) c.S=some y):ck T (.most x z) ea c.σ (jd c d k y):=by
 have hv:=cm he x;have hw:=cm he z;rw[hx]at hv;rw[hz]at hw;refine cw (v:= .int kd (max a b)) ?_ (jd.same hR (.int _ _) h);simp only[AOp.run,hv.int_inv,hw.int_inv,cc3,aB]
 congr 3
 split<;>omega
theorem ct6 (hR:fe c)(he:bz c e ea){x z:Operand}{kd kd':IntKind}{a b:Int}(hx:ev e x= .int kd a)(hz:ev e z= .int kd' b)(h:k (.int kd (min a b)) c.S=some y):ck T (.least x z) ea c.σ (jd c d k y):=by
 have hv:=cm he x;have hw:=cm he z;rw[hx]at hv;rw[hz]at hw;refine cw (v:= .int kd (min a b)) ?_ (jd.same hR (.int _ _) h);simp only[AOp.run,hv.int_inv,hw.int_inv,bG4,aB]
 congr 3
 split<;>omega
end
end
section
open Bool renaming and_eq_true → bB
open List renaming drop_take → eD, length_append → gO
open Nat renaming eq_of_beq_eq_true → aB, mul_le_mul_right → aD, le_refl → bD, add_mul → cB, le_of_ble_eq_true → cD, beq → dB, le_trans → dD, add_assoc → fB, eq_of_mul_eq_mul_right → fD, mul_div_cancel → gB, zero_add → gD
open Option renaming map_some → gN, map_none → gP
section
variable {β:Type} {T:ia} {c:Ctx} {e:ej} {ea:dh} {k:VV→bu→Option β} {y:β} {d:List Nat}
theorem SlR.len {q lo n:Nat}{dm:Nat×Nat}{a:Value}(h:SlR c q lo n dm a): ∃p cp,a= .slice p n cp∧n≤cp:=by
 rcases h with⟨rfl,_,rfl,_,_⟩|⟨b,cp,x,rfl,_,_,h,_⟩
 ·exact⟨none,0,rfl,bD _⟩
 ·exact⟨_,cp,rfl,h⟩
theorem ct8 (hR:fe c){v:VV}{a:Value}{n:Nat}(h:lenOf c.S v=some n)(hv:VRel c v a)(hs: ∀l,v≠ .str l): ∃p cp,a= .slice p n cp∧n≤cp:=by
 cases v<;>simp only[lenOf]at h<;>try(cases h;done)
 case nils=>injection h with h;subst h;cases hv;exact⟨none,0,rfl,bD _⟩
 case str l=>exact(hs l rfl).elim
 case lst s l=>
  injection h with h;subst h
  cases hv with
  |lstn=>exact⟨_,0,rfl,bD _⟩
  |lst _ _ _ h1 h2 _ _=>subst h1;exact⟨_,_,rfl,h2⟩
 case part q lo m=>
  cases hl:(bn c.S q).live with
  |false=>rw[hl]at h;cases h
  |true=>
   rw[hl]at h;injection h with h;subst h
   obtain⟨dd,hh⟩:=sG hl;cases hv with
   |part hk _ hd=>exact(hd dd hh).len
 case full q=>
  cases hv with
  |full hk _ hd=>
   cases hb:bn c.S q with
   |dead=>rw[hb]at h;cases h
   |arr s z l=>
    rw[hb]at h;injection h with h;subst h
    obtain⟨n,h1,h2⟩:=hd (s.w,l.length*s.w) (by rw[hb];rfl);have:n=l.length:=fD (nF s) h1;subst this;exact h2.len
   |cells es z l=>
    rw[hb]at h;injection h with h;subst h
    obtain⟨n,h1,h2⟩:=hd (es,l.length) (by rw[hb];rfl);have h3:=(hR.blk q (es,l.length) (by rw[hb];rfl)).1
    have:n=l.length / es:=by
     simp only at h1 h3;rw[←h1,gB _ h3]
    subst this;exact h2.len
theorem cR1 (hR:fe c)(he:bz c e ea){x:Operand}{n:Nat}(hs: ∀l,ev e x≠ .str l)(hn:lenOf c.S (ev e x)=some n)(h:k (.int .i64 n) c.S=some y):ck T (.len x) ea c.σ (jd c d k y):=by
 obtain⟨p,cp,h1,_⟩:=ct8 hR hn (cm he x) hs;exact cw (by simp only[AOp.run,h1]) (jd.same hR (.int _ _) h)
theorem cD8 (hR:fe c)(he:bz c e ea){x:Operand}{l:List Int}(hx:ev e x= .str l)(h:k (.int .i64 l.length) c.S=some y):ck T (.lenS x) ea c.σ (jd c d k y):=by
 have hv:=cm he x;rw[hx]at hv;obtain⟨s,h1,h2⟩:=hv.str_inv;refine cw (v:= .int .i64 s.size) (by simp only[AOp.run,h1]) (jd.same hR ?_ h);rw[←h2,rl];exact .int _ _
theorem aD9 (he:bz c e ea){lo:Option Operand}{a:Int}{m:Nat}(h:ag4 (lo.map (ev e))=some a)(h0:0≤a)(hm:a≤m):nJ m 0 (lo.map ea.ev)=some a.toNat:=by
 cases lo with
 |none=>
  simp only[gP,ag4]at h;injection h with h;subst h
  rfl
 |some x=>
  simp only[gN,ag4]at h⊢;obtain⟨kd,h1⟩:=bc6 h (cm he x);rw[h1];exact zE ⟨h0,hm⟩
theorem aD8 (he:bz c e ea){hi:Option Operand}{b:Int}{n cp:Nat}(h:uJ n (hi.map (ev e))=some b)(h0:0≤b)(hm:b≤n)(hc:n≤cp):nJ cp n (hi.map ea.ev)=some b.toNat:=by
 cases hi with
 |none=>
  simp only[gP,uJ]at h;injection h with h;subst h
  simp[nJ]
 |some x=>
  simp only[gN,uJ]at h⊢;obtain⟨kd,h1⟩:=bc6 h (cm he x);rw[h1];exact zE ⟨h0,by omega⟩
theorem rm {a b:Int}{n:Nat}(h:jK a b n=true):0≤a∧a≤b∧b≤n:=by
 unfold jK at h;rw[bB,bB]at h;exact⟨of_decide_eq_true h.1.1,of_decide_eq_true h.1.2,of_decide_eq_true h.2⟩
theorem as7 (he:bz c e ea){es:Nat}{x:Operand}{lo hi:Option Operand}{p:Option Addr}{n cp:Nat}{a b:Int}(hx:ea.ev x= .slice p n cp)(hn:n≤cp)(hp:cp≠0→∀q,p=some q→∃z,c.σ.m q.block=some z∧z.es=es)
  (hlo:ag4 (lo.map (ev e))=some a) (hhi:uJ n (hi.map (ev e))=some b) (hg:jK a b n=true):(AOp.slice es x lo hi).run ea c.σ=some (.slice (p.map (bn8 · (a.toNat*es))) (b.toNat-a.toNat) (cp-a.toNat),c.σ):=by
 obtain⟨h1,h2,h3⟩:=rm hg
 have hm:(cp==0||yq c.σ es p lo)=true:=by
  by_cases hc:cp=0
  ·simp[hc]
  ·unfold yq;split
   ·simp
   ·simp
   ·rename_i q;obtain⟨z,h4,h5⟩:=hp hc q rfl;rw[h4];simp[h5]
 simp only[AOp.run,hx,hm,if_true,aD8 he hhi (by omega) h3 hn,aD9 he hlo h1 (m:=b.toNat) (by omega)]
theorem SlR.cut {q lo n:Nat}{dm:Nat×Nat}{p:Option Addr}{cp A B:Nat}(h:SlR c q lo n dm (.slice p n cp))(hA:A≤B)(hB:B≤n):SlR c q (lo+A) (B-A) dm (.slice (p.map (bn8 · (A*dm.1))) (B-A) (cp-A)):=by
 rcases h with⟨h1,h2,h3,h4,h5⟩|⟨b,cp',z,h1,h2,h3,h4,h5,h6⟩
 ·injection h1 with e1 e2 e3
  subst e1;subst e3;have:A=0:=by omega
  have:B=0:=by omega
  subst A;subst B;exact .inl ⟨rfl,by omega,rfl,h4,h5⟩
 ·injection h1 with e1 e2 e3
  subst e1;subst e3;refine .inr ⟨b,cp-A,z, ?_,h2,dD (aD _ (by omega)) h3,by omega,h5,dD (aD _ (by omega)) h6⟩;simp only[gN,bn8,cB]
theorem SlR.es (hR:fe c){q lo n cp:Nat}{dm:Nat×Nat}{p:Option Addr}(hd:(bn c.S q).dim=some dm)(h:SlR c q lo n dm (.slice p n cp)): ∀z,p=some z→∃blk,c.σ.m z.block=some blk∧blk.es=dm.1:=by
 intro z hz;subst hz;rcases h with⟨h1,_⟩|⟨b,cp',x,h1,h2,_,_,h5,_⟩
 ·cases h1
 ·injection h1 with e1 e2 e3
  injection e1 with e1
  subst e1;obtain⟨blk,_,_,h6,h7,_⟩:=hR.block hd h2;exact⟨blk,h6,h7⟩
theorem aG1 (hR:fe c)(he:bz c e ea){es q o n:Nat}{dm:Nat×Nat}{x:Operand}{lo hi:Option Operand}{a b:Int}(hd:(bn c.S q).dim=some dm)(hes:es=dm.1)(hs:SlR c q o n dm (ea.ev x))
  (hlo:ag4 (lo.map (ev e))=some a) (hhi:uJ n (hi.map (ev e))=some b) (hg:jK a b n=true) (h:k (.part q (o+a.toNat) (b.toNat-a.toNat)) c.S=some y):ck T (.slice es x lo hi) ea c.σ (jd c d k y):=by
 obtain⟨p,cp,hx,hn⟩:=hs.len;rw[hx]at hs;obtain⟨h1,h2,h3⟩:=rm hg;subst hes;refine cw (as7 he hx hn (fun _=>hs.es hR hd) hlo hhi hg) (jd.same hR ?_ h);refine .part (ng (by rw[hd];simp)) rfl fun d' hd'=> ?_
 rw[hd]at hd';injection hd' with hd'
 subst hd';exact hs.cut (by omega) (by omega)
theorem tdt {α:Type}(L:List α){A B N p:Nat}(h:B≤N):((((L.drop p).take N).take B).drop A)=(L.drop (p+A)).take (B-A):=by
 rw[List.take_take,Nat.min_eq_left h,eD,List.drop_drop]
theorem cz0 (hR:fe c)(he:bz c e ea){es:Nat}{x:Operand}{lo hi:Option Operand}(h:cb3 c.S es (ev e x) (lo.map (ev e)) (hi.map (ev e)) k=some y):ck T (.slice es x lo hi) ea c.σ (jd c d k y):=by
 have hx:=cm he x;unfold cb3 at h;cases hln:lenOf c.S (ev e x)with
 |none=>rw[hln]at h;cases h
 |some n=>
  rw[hln]at h;simp only at h;cases hlo:ag4 (lo.map (ev e))with
  |none=>rw[hlo]at h;cases h
  |some a=>
   cases hhi:uJ n (hi.map (ev e))with
   |none=>rw[hlo,hhi]at h;cases h
   |some b=>
    rw[hlo,hhi]at h;simp only at h;split at h
    ·rename_i hv;rw[hv]at hx hln;obtain⟨h1,h2⟩:=ca h
     have hn0:n=0:=by
      simp only[lenOf]at hln;injection hln with hln
      exact hln.symm
     subst hn0;obtain⟨h3,h4,h5⟩:=rm h1;have ha0:a=0:=by omega
     have hb0:b=0:=by omega
     subst a;subst b;have hxe:ea.ev x= .slice none 0 0:=by generalize ea.ev x=xa at hx;cases hx;rfl
     exact cw (as7 he hxe (bD _) (fun _ q h=>by cases h) hlo hhi h1) (jd.same hR .nils h2)
    ·rename_i s l hv;rw[hv]at hx hln;simp only[lenOf]at hln;injection hln with hln
     subst hln;obtain⟨h1,h2⟩:=ca h;have hes:=aB h1
     have key:jK a b l.length=true→k (.lst s (au6 l a b)) c.S=some y→ck T (.slice es x lo hi) ea c.σ (jd c d k y):=by
      intro hg hk;obtain⟨h3,h4,h5⟩:=rm hg;generalize hxa:ea.ev x=xa at hx;cases hx with
      |lstn hq=>
       have hb0:b=0:=by simp at h5;omega
       have ha0:a=0:=by omega
       subst a;subst b;refine cw (as7 he hxa (bD _) (fun h=>(h rfl).elim) hlo hhi hg) (jd.same hR ?_ hk);refine .lstn fun z hz=> ?_
       obtain⟨z',_,h'⟩:=Option.map_eq_some_iff.1 hz;rw[←h'];rfl
      |lst hn hy he' h6 h7 h8 h9=>
       rename_i bb p cp z;refine cw (as7 he hxa h7 (fun _ q h=>by injection h with h;subst h;exact⟨z,hy,he'.trans hes.symm⟩) hlo (by rw[h6];exact hhi) (by rw[h6];exact hg)) (jd.same hR ?_ hk);subst hes;have hlen:(au6 l a b).length=b.toNat-a.toNat:=by simp only[au6,List.length_drop,List.length_take];omega
       refine .lst hn hy he' hlen.symm (by omega) ?_ ?_
       ·have:a.toNat*s.w+(b.toNat-a.toNat)*s.w≤l.length*s.w:=by rw[←cB];exact aD _ (by omega)
        simp only;rw[h6]at h8;omega
       ·simp only[au6];rw[wP,lI];have h10:=(h9.take (b.toNat*s.w)).drop (a.toNat*s.w);rw[tdt _ (by rw[h6];exact aD _ (by omega)),←Nat.sub_mul]at h10;exact h10
     split at h2
     ·rename_i e1 e2
      have hg:jK a b l.length=true:=by
       rw[e1]at hlo;rw[e2]at hhi;simp only[ag4]at hlo;simp only[uJ]at hhi;injection hlo with hlo
       injection hhi with hhi
       subst hlo;subst hhi;simp[jK]
      refine key hg ?_;rw[e1]at hlo;rw[e2]at hhi;simp only[ag4]at hlo;simp only[uJ]at hhi;injection hlo with hlo
      injection hhi with hhi
      subst hlo;subst hhi;simp only[au6,Int.toNat_natCast,Int.toNat_zero,List.drop_zero,List.take_length];exact h2
     ·obtain⟨h3,h4⟩:=ca h2;exact key h3 h4
    ·rename_i q hv;rw[hv]at hx hln;cases hx with
     |full hk _ hd=>
      cases hb:bn c.S q with
      |dead=>rw[hb]at h;cases h
      |arr s z l=>
       rw[hb]at h;obtain⟨h1,h2⟩:=ca h;obtain⟨h3,h4⟩:=ca h2;simp only[lenOf,hb]at hln;injection hln with hln
       obtain⟨n',h5,h6⟩:=hd (s.w,l.length*s.w) (by rw[hb];rfl);have:n'=n:=by rw[←hln];exact fD (nF s) h5
       subst this;exact aG1 hR he (by rw[hb];rfl) (aB h1) h6 hlo hhi h3 (by rw[gD];exact h4)
      |cells es' z l=>
       rw[hb]at h;obtain⟨h1,h2⟩:=ca h;obtain⟨h3,h4⟩:=ca h2;rw[bB]at h1;simp only[lenOf,hb]at hln;injection hln with hln
       obtain⟨n',h5,h6⟩:=hd (es',l.length) (by rw[hb];rfl);have he1:=aB h1.1;have he2:=cD h1.2
       have:n'=n:=by
        simp only at h5;rw[←hln,←h5,gB _ (by omega)]
       subst this;exact aG1 hR he (by rw[hb];rfl) he1 h6 hlo hhi h3 (by rw[gD];exact h4)
    ·rename_i q o m hv;rw[hv]at hx hln;cases hx with
     |part hk _ hd=>
      simp only[lenOf]at hln;cases hb:bn c.S q with
      |dead=>rw[hb]at h;cases h
      |arr s z l=>
       rw[hb]at h hln;injection hln with hln
       subst hln;obtain⟨h1,h2⟩:=ca h;obtain⟨h3,h4⟩:=ca h2;exact aG1 hR he (dm:=(s.w,l.length*s.w)) (by rw[hb];rfl) (aB h1) (hd _ (by rw[hb];rfl)) hlo hhi h3 h4
      |cells es' z l=>
       rw[hb]at h hln;injection hln with hln
       subst hln;obtain⟨h1,h2⟩:=ca h;obtain⟨h3,h4⟩:=ca h2;rw[bB]at h1;exact aG1 hR he (dm:=(es',l.length)) (by rw[hb];rfl) (aB h1.1) (hd _ (by rw[hb];rfl)) hlo hhi h3 h4
    ·cases h
theorem ba7 (s:ByteArray)(a b:Nat):dw (s.extract a b)=((dw s).take b).drop a:=by
 simp[dw,ByteArray.data_extract,Array.toList_extract,List.extract_eq_take_drop,List.map_drop,List.map_take,eD]
theorem bS3 (hR:fe c)(he:bz c e ea){x:Operand}{lo hi:Option Operand}(h:aM9 c.S (ev e x) (lo.map (ev e)) (hi.map (ev e)) k=some y):ck T (.sliceStr x lo hi) ea c.σ (jd c d k y):=by
 have hx:=cm he x;unfold aM9 at h;split at h
 ·rename_i l hv;rw[hv]at hx;obtain⟨s,h1,rfl⟩:=hx.str_inv;split at h
  ·rename_i a b hlo hhi;obtain⟨h2,h3⟩:=ca h;obtain⟨h4,h5,h6⟩:=rm h2;rw[rl]at h6 hhi;refine cw (v:= .string (s.extract a.toNat b.toNat)) ?_ (jd.same hR (.str (ba7 s _ _)) h3);simp only[AOp.run,h1,aD8 he hhi (by omega) h6 (bD _),aD9 he hlo h4 (m:=b.toNat) (by omega)]
  ·cases h
 ·cases h
theorem bm3 {blk:Blk}{dm:Nat×Nat}(h:blk.dim=some dm):blk.vals.length=dm.2:=by
 cases blk with
 |dead=>cases h
 |cells es z l=>injection h with h;subst h;rfl
 |arr s z l=>injection h with h;subst h;exact i3
theorem bS2 (hR:fe c)(he:bz c e ea){es n:Nat}{x:Operand}{lo hi:Option Operand}(h:aM8 c.S es n (ev e x) (lo.map (ev e)) (hi.map (ev e)) k=some y):ck T (.sliceArr es n x lo hi) ea c.σ (jd c d k y):=by
 have hx:=cm he x;unfold aM8 at h;split at h
 ·rename_i q o hv;rw[hv]at hx;split at h
  ·rename_i es' l hb;split at h
   ·rename_i a b hlo hhi;obtain⟨h1,h2⟩:=ca h;simp only[bB]at h1;obtain⟨⟨⟨⟨⟨h3,h4⟩,h5⟩,h6⟩,h7⟩,h8⟩:=h1;have h3:=aB h3;have h4:=cD h4;have h5:=aB h5;have h6:=cD h6;have h8:=of_decide_eq_true h8;obtain⟨h9,h10,h11⟩:=rm h7;subst h3;cases hx with
    |ptr hk _ hd=>
     have hdim:(bn c.S q).dim=some (es,l.length):=by rw[hb];rfl
     obtain⟨bb,hm,hp⟩:=hd _ hdim;obtain⟨z,cs,rest,h12,h13,h14,h15,h16⟩:=hR.block hdim hm;rw[hb]at h14 h16;have hl:=h16.length;simp only[Blk.vals]at hl;have hzl:l.length≤z.cells.length:=by rw[h15,gO,hl];omega
     have hdiv:o / es*es=o:=Nat.div_mul_cancel (Nat.dvd_of_mod_eq_zero h5);have hae:(o / es+a.toNat)*es=o+a.toNat*es:=by rw[cB,hdiv]
     refine cw (v:= .slice (some ⟨bb,o+a.toNat*es,none⟩) (b.toNat-a.toNat) (n-a.toNat)) (σ':=c.σ) ?_ (jd.same hR ?_ h2)
     ·simp only[AOp.run,hp,h12];rw[zE ⟨h14 rfl,h13,by omega⟩,aD8 he hhi (by omega) h11 (bD _)];simp only;rw[aD9 he hlo h9 (m:=b.toNat) (by omega)];simp only;rw[zE (by omega)]
     ·refine .part hk rfl fun d' hd'=> ?_
      rw[hdim]at hd';injection hd' with hd'
      subst hd';refine .inr ⟨bb,n-a.toNat,z,by simp only[hae],hm, ?_,by omega,h12, ?_⟩
      ·have h17:o / es+a.toNat+(b.toNat-a.toNat)=o / es+b.toNat:=by omega
       simp only;rw[h17,cB,hdiv];have:b.toNat*es≤n*es:=aD _ (by omega);omega
      ·have h17:o / es+a.toNat+(n-a.toNat)=o / es+n:=by omega
       simp only;rw[h17,cB,hdiv];omega
   ·cases h
  ·rename_i s l hb;split at h
   ·rename_i a b hlo hhi;obtain⟨h1,h2⟩:=ca h;simp only[bB]at h1;obtain⟨⟨⟨⟨h3,h5⟩,h6⟩,h7⟩,h8⟩:=h1;have h3:=aB h3;have h5:=aB h5;have h6:=cD h6;have h8:=of_decide_eq_true h8;obtain⟨h9,h10,h11⟩:=rm h7;subst h3;subst h5;cases hx with
    |ptr hk _ hd=>
     have hdim:(bn c.S q).dim=some (s.w,l.length*s.w):=by rw[hb];rfl
     obtain⟨bb,hm,hp⟩:=hd _ hdim;obtain⟨z,cs,rest,h12,h13,h14,h15,h16⟩:=hR.block hdim hm;have hl:=h16.length;rw[bm3 hdim]at hl;rw[hb]at h14;have hle:n*s.w≤l.length*s.w:=aD _ h6;have hzl:l.length*s.w≤z.cells.length:=by rw[h15,gO];simp only at hl;omega
     have h17:(a.toNat+(b.toNat-a.toNat))*s.w≤l.length*s.w:=aD _ (by omega);have h18:(a.toNat+(n-a.toNat))*s.w≤l.length*s.w:=aD _ (by omega);refine cw (v:= .slice (some ⟨bb,0+a.toNat*s.w,none⟩) (b.toNat-a.toNat) (n-a.toNat)) (σ':=c.σ) ?_ (jd.same hR ?_ h2)
     ·simp only[AOp.run,hp,h12];rw[zE ⟨h14 rfl,h13,by omega⟩,aD8 he hhi (by omega) h11 (bD _)];simp only;rw[aD9 he hlo h9 (m:=b.toNat) (by omega)];simp only;rw[zE (by omega)]
     ·refine .part hk rfl fun d' hd'=> ?_
      rw[hdim]at hd';injection hd' with hd'
      subst hd';exact .inr ⟨bb,n-a.toNat,z,by simp only[gD],hm,h17,by omega,h12,by simp only;omega⟩
   ·cases h
  ·cases h
 ·cases h
theorem cR6 (hR:fe c)(he:bz c e ea){n:Nat}{x:Operand}(h:cm2 c.S (cF3 c.S n (ev e x)) k=some y):ck T (.off n x) ea c.σ (jd c d k y):=by
 have hx:=cm he x
 have key: ∀w b o,ea.ev x= .pointer (some ⟨b,o,none⟩)→VRel c w (.pointer (some ⟨b,o+n,none⟩))→k w c.S=some y→ck T (.off n x) ea c.σ (jd c d k y):=by
  intro w b o h1 hw hk;exact cw (by simp only[AOp.run,h1]) (jd.same hR hw hk)
 generalize ev e x=xv at*;cases xv<;>simp only[cF3]at h<;>try(cases h;done)
 case ptr q o=>
  cases hl:(bn c.S q).live with
  |false=>rw[hl]at h;cases h
  |true=>
   rw[hl]at h;obtain⟨dd,hdd⟩:=sG hl;cases hx with
   |ptr hk _ hd=>
    obtain⟨b,hm,hp⟩:=hd dd hdd;exact key _ b o hp (.ptr hk rfl fun d' _=>⟨b,hm,rfl⟩) h
 case pix q o m i=>
  cases hl:(bn c.S q).live with
  |false=>rw[hl]at h;cases h
  |true=>
   rw[hl]at h;obtain⟨dd,hdd⟩:=sG hl;cases hx with
   |pix hk h1 hi hd=>
    obtain⟨b,hm,hp⟩:=hd dd hdd;cases hn:dB n 0 with
    |false=>rw[hn]at h;cases h
    |true=>
     rw[hn]at h;have:=aB hn;subst this;exact key _ b (o+i) hp (.pix hk rfl hi fun d' _=>⟨b,hm,rfl⟩) h
 case pel q i o=>
  cases hl:(bn c.S q).live with
  |false=>rw[hl]at h;cases h
  |true=>
   rw[hl]at h;obtain⟨dd,hdd⟩:=sG hl;cases hx with
   |pel hk _ hd=>
    obtain⟨b,hm,hp⟩:=hd dd hdd;refine key _ b _ hp (.pel hk rfl fun d' hd'=>⟨b,hm, ?_⟩) h;rw[hdd]at hd';injection hd' with hd'
    subst hd';rw[fB]
 case pin s z o=>
  generalize hxa:ea.ev x=xa at hx;cases hx with
  |pin hn hy hl hf=>
   refine key _ _ _ hxa ?_ h;rw[fB];exact .pin hn hy hl hf
theorem ce1 {es:Nat}{x i:Operand}{b o n cp:Nat}{kd:IntKind}{z:Int}(hx:ea.ev x= .slice (some ⟨b,o,none⟩) n cp)(hi:ea.ev i= .int kd z)(h0:0≤z)(hn:z<n):
  (AOp.idx es x i).run ea c.σ=some (.pointer (some ⟨b,o+z.toNat*es,none⟩),c.σ):=by
 simp only[AOp.run,hx,hi];rw[zE ⟨h0,hn⟩]
theorem yU (hR:fe c)(he:bz c e ea){es q o n:Nat}{dm:Nat×Nat}{x i:Operand}{z:Int}{w:VV}{kd:IntKind}(hs:SlR c q o n dm (ea.ev x))(hi:ea.ev i= .int kd z)(h0:0≤z)(hn:z<n)
  (hw: ∀b,c.μ q=some b→VRel c w (.pointer (some ⟨b,o*dm.1+z.toNat*es,none⟩))) (hk:k w c.S=some y):ck T (.idx es x i) ea c.σ (jd c d k y):=by
 rcases hs with⟨_,_,h3,_,_⟩|⟨b,cp,x',h1,h2,_⟩
 ·omega
 ·exact cw (ce1 h1 hi h0 hn) (jd.same hR (hw b h2) hk)
theorem cQ5 (hR:fe c)(he:bz c e ea){es:Nat}{x i:Operand}(h:cD4 c.S es (ev e x) (ev e i) k=some y):ck T (.idx es x i) ea c.σ (jd c d k y):=by
 have hx:=cm he x;have hi:=cm he i;unfold cD4 at h;split at h
 ·rename_i kd z hz;rw[hz]at hi;have hi:=hi.int_inv;split at h
  ·rename_i s l hv;rw[hv]at hx;obtain⟨h1,h2⟩:=ca h;have h1:=aB h1;obtain⟨el,h3,h4⟩:=bq h2;obtain⟨h5,h6,h7⟩:=cg1 h3;generalize hxa:ea.ev x=xa at hx;cases hx with
   |lstn=>simp at h6;omega
   |lst hn hy he' h8 h9 h10 h11=>
    rename_i b p cp blk;subst h1;refine cw (ce1 hxa hi h5 (by rw[h8];exact h6)) (jd.same hR ?_ h4);have h12:z.toNat*s.w+s.w≤l.length*s.w:=by rw[←Nat.succ_mul];exact aD _ (by omega)
    have h13:=(h11.drop (z.toNat*s.w)).take s.w;rw[aK6 h7,eD,List.drop_drop,List.take_take,Nat.min_eq_left (by rw[h8];omega)]at h13;exact VRel.pin (o:=0) hn hy (by rw[h8]at h10;exact dD (Nat.le_of_eq (fB _ _ _)) (dD (Nat.add_le_add_left h12 _) h10)) h13
  ·rename_i q hv;rw[hv]at hx;cases hx with
   |full hk _ hd=>
    cases hb:bn c.S q with
    |dead=>rw[hb]at h;cases h
    |arr s z' l=>
     rw[hb]at h;obtain⟨h1,h2⟩:=ca h;obtain⟨j,h3,h4⟩:=bq h2;obtain⟨h5,h6,rfl,h7⟩:=ar9 h3;have hdim:(bn c.S q).dim=some (s.w,l.length*s.w):=by rw[hb];rfl
     obtain⟨n,h8,h9⟩:=hd _ hdim;have:n=l.length:=fD (nF s) h8;subst this;refine yU hR he h9 hi h5 h6 (fun b hm=> .pel hk rfl fun d' hd'=>⟨b,hm, ?_⟩) h4;rw[hdim]at hd';injection hd' with hd'
     subst hd';rw[aB h1];simp
    |cells es' z' l=>
     rw[hb]at h;obtain⟨h1,h2⟩:=ca h;rw[bB]at h1;have h11:=aB h1.1;have h12:=cD h1.2;subst h11;obtain⟨j,h3,h4⟩:=bq h2;obtain⟨h5,h6,rfl,h7⟩:=ar9 h3;have hdim:(bn c.S q).dim=some (es,l.length):=by rw[hb];rfl
     obtain⟨n,h8,h9⟩:=hd _ hdim
     have hn:n=l.length / es:=by
      simp only at h8;rw[←h8,gB _ (by omega)]
     cases he1:dB es 1 with
     |true=>
      rw[he1]at h4;have he1:=aB he1;subst he1;refine yU hR he h9 hi h5 (by rw[hn];exact h6) (fun b hm=> .pix hk rfl (by rw[Nat.div_one]at h7;exact h7) fun d' hd'=>⟨b,hm,by simp⟩) h4
     |false=>
      rw[he1]at h4;refine yU hR he h9 hi h5 (by rw[hn];exact h6) (fun b hm=> .ptr hk rfl fun d' hd'=>⟨b,hm,by simp⟩) h4
  ·rename_i q o n hv;rw[hv]at hx;cases hx with
   |part hk _ hd=>
    cases hb:bn c.S q with
    |dead=>rw[hb]at h;cases h
    |arr s z' l=>
     rw[hb]at h;obtain⟨h1,h2⟩:=ca h;obtain⟨j,h3,h4⟩:=bq h2;obtain⟨h5,h6,rfl,h7⟩:=ar9 h3;have hdim:(bn c.S q).dim=some (s.w,l.length*s.w):=by rw[hb];rfl
     refine yU hR he (hd _ hdim) hi h5 h6 (fun b hm=> .pel hk rfl fun d' hd'=>⟨b,hm, ?_⟩) h4;rw[hdim]at hd';injection hd' with hd'
     subst hd';rw[aB h1,cB];simp
    |cells es' z' l=>
     rw[hb]at h;obtain⟨h1,h2⟩:=ca h;rw[bB]at h1;have h11:=aB h1.1;subst h11;obtain⟨j,h3,h4⟩:=bq h2;obtain⟨h5,h6,rfl,h7⟩:=ar9 h3;have hdim:(bn c.S q).dim=some (es,l.length):=by rw[hb];rfl
     cases he1:dB es 1 with
     |true=>
      rw[he1]at h4;have he1:=aB he1;subst he1;refine yU hR he (hd _ hdim) hi h5 h6 (fun b hm=> .pix hk rfl h7 fun d' hd'=>⟨b,hm,by simp⟩) h4
     |false=>
      rw[he1]at h4;refine yU hR he (hd _ hdim) hi h5 h6 (fun b hm=> .ptr hk rfl fun d' hd'=>⟨b,hm,by simp[cB]⟩) h4
  ·cases h
 ·cases h
theorem cD3 (hR:fe c)(he:bz c e ea){ln es:Nat}{x i:Operand}(h:ce0 c.S ln es (ev e x) (ev e i) k=some y):ck T (.idxA ln es x i) ea c.σ (jd c d k y):=by
 have hx:=cm he x;have hi:=cm he i;unfold ce0 at h;split at h
 ·rename_i q o kd z hv hz;rw[hv]at hx;rw[hz]at hi;have hi:=hi.int_inv;obtain⟨hl,h⟩:=ca h;obtain⟨j,h3,h4⟩:=bq h;obtain⟨h5,h6,rfl,h7⟩:=ar9 h3;cases hx with
  |ptr hk _ hd=>
    obtain⟨dd,hdd⟩:=sG hl;obtain⟨b,hm,hp⟩:=hd dd hdd
    have hrun:(AOp.idxA ln es x i).run ea c.σ=some (.pointer (some ⟨b,o+z.toNat*es,none⟩),c.σ):=by
     simp only[AOp.run,hp,hi];rw[zE ⟨h5,h6⟩]
    refine cw hrun ?_;cases he1:dB es 1 with
    |true=>
     rw[he1]at h4;have he1:=aB he1;subst he1;exact jd.same hR (.pix hk rfl h7 fun d' hd'=>⟨b,hm,by simp⟩) h4
    |false=>
     rw[he1]at h4;exact jd.same hR (.ptr hk rfl fun d' hd'=>⟨b,hm,rfl⟩) h4
 ·cases h
end
end
section
open Bool renaming and_eq_true → bB
open List renaming length_append → cD, length_take → dB, take_of_length_le → dD, replicate → gD, length_drop → gO, length_nil → gP, drop_zero → gR, replicate_succ → gS, append_assoc → gT, flatten_cons → gU, take_take → gV, drop_eq_nil_of_le → hY, getD_eq_getElem?_getD → hZ, length_cons → iA, take_append_of_le_length → iB
open Nat renaming beq → aB, eq_of_beq_eq_true → aD, le_refl → bD, zero_add → cB, add_mul → eD, le_of_ble_eq_true → fB, eq_of_mul_eq_mul_right → fD, mul_le_mul_right → gB, ble → gN, min_eq_left → gQ, eq_zero_or_pos → gW, min_le_left → gX, mul_div_cancel → gY, mul_one → gZ, mul_pos → hC, zero_mul → hO, le_of_mul_le_mul_right → iC, mul_le_mul_left → iD
open Option renaming getD_some → iE
section
variable {β:Type} {T:ia} {c:Ctx} {e:ej} {ea:dh} {k:VV→bu→Option β} {y:β} {d:List Nat}
theorem yY : ∀{z:List Value} {s:Sh},aQ9 z=some s→F2 (VRel c) (er s (sK s)) z
 |[],s,h=>by simp[aQ9]at h
 |v::r,s,h=>by
  unfold aQ9 at h;split at h
  ·rename_i h0;injection h0 with h1 h2
   subst h1;subst h2;injection h with h;subst h
   exact .cons (.int _ _) .nil
  ·rename_i h0;injection h0 with h1 h2
   subst h1;subst h2;injection h with h;subst h
   exact .cons (.bool _) .nil
  ·rename_i h0;injection h0 with h1 h2
   subst h1;subst h2;obtain⟨s',h3,h4⟩:=bq h;injection h4 with h4;subst h4
   exact .cons (.int _ _) (yY h3)
  ·rename_i h0;injection h0 with h1 h2
   subst h1;subst h2;obtain⟨s',h3,h4⟩:=bq h;injection h4 with h4;subst h4
   exact .cons (.bool _) (yY h3)
  ·cases h
theorem qJ {s:Sh}{x:El s}: ∀n,gb s (gD n x)=(gD n (er s x)).flatten
 |0=>rfl
 |n+1=>by rw[gS,ir,qJ n,gS,gU]
theorem bs9 (z:List Value)(m n:Nat):fd z (m+n)=fd z m++fd z n:=by
 simp only[fd];rw[←List.replicate_append_replicate,List.flatten_append]
theorem bt0 (z:List Value)(n:Nat):(fd z n).length=n*z.length:=by
 simp[fd,List.length_flatten,List.map_replicate]
theorem cE3 (hR:fe c)(he:bz c e ea){es bytes:Nat}{z:List Value}{l m:Operand}(h:cu3 c.S es bytes z (ev e l) (ev e m) k=some y):ck T (.makeSlice es bytes z l m) ea c.σ (jd c d k y):=by
 have hl:=cm he l;have hm:=cm he m;unfold cu3 at h;split at h
 ·rename_i k1 a k2 b s h1 h2 hs;rw[h1]at hl;rw[h2]at hm;obtain⟨hg,hk⟩:=ca h;simp only[bB]at hg;obtain⟨⟨⟨⟨g1,g2⟩,g3⟩,g4⟩,g5⟩:=hg;have g1:=aD g1;have g2:=of_decide_eq_true g2;have g3:=of_decide_eq_true g3;have g4:=of_decide_eq_true g4;have g5:=fB g5;have hz:=yY (c:=c) hs;have hzl:z.length=s.w:=by rw[←hz.length,et]
  have hb:b≤bytes*b:=by
   have:(1:Int)*b≤bytes*b:=Int.mul_le_mul_of_nonneg_right (by omega) (by omega);omega
  refine cw (v:= .slice (some ⟨c.σ.n,0,none⟩) a.toNat b.toNat) (σ':=c.σ.add ⟨fd z b.toNat,true,es⟩) ?_ ?_
  ·simp only[AOp.run,hl.int_inv,hm.int_inv];rw[zE ⟨g2,g3,by omega,by omega⟩]
  ·have hab:fd z b.toNat=fd z a.toNat++fd z (b.toNat-a.toNat):=by rw[←bs9];congr 1;omega
   have hrel:F2 (VRel c) (gb s (gD a.toNat (sK s))) (fd z a.toNat):=by
    rw[qJ];clear hab;generalize a.toNat=n;induction n with
    |zero=>exact .nil
    |succ n ih=>
     simp only[fd,gS,gU]at ih⊢;exact hz.append ih
   have hmv:Moves c none (some c.σ.n) (.arr s false (gD a.toNat (sK s))) (c.σ.add ⟨fd z b.toNat,true,es⟩):=by
    refine⟨(fun b h _ hb=>by injection h with h;subst h;exact Nat.lt_irrefl _ (hR.fbl _ hb)),(fun _ h=>by cases h),fun q x hx=> ?_,Nat.le_succ _,fun i x hx _=> ?_,(s.w,(gD a.toNat (sK s)).length*s.w),rfl,nF s, .inr ⟨c.σ.n,⟨fd z b.toNat,true,es⟩,fd z a.toNat,fd z (b.toNat-a.toNat),rfl,zE rfl,g1,fun _=>rfl,hab,hrel, .inl fun w hw=> ?_⟩⟩
    ·simp only[Hp.add]at hx⊢;split at hx
     ·omega
     ·have:=hR.ok q x hx;omega
    ·have:=hR.ok i x hx;simp only[Hp.add];rw[zF (by omega)];exact hx
    ·have:=hR.ok _ _ hw;omega
   refine jd.new (kill:=none) hR hmv (fun _ h=>by cases h) (ug (dm:=(s.w,(gD a.toNat (sK s)).length*s.w)) (n:=a.toNat) (m:=b.toNat) (yb:=⟨fd z b.toNat,true,es⟩) rfl (by simp) (by omega) (zE rfl) ?_) hk;rw[bt0,hzl];exact bD _
 ·cases h
def More.cellsOf :More→List VV
 | .cells l=>l
 | .lst s l=>gb s l
theorem be6 {x:Ab.Blk}{o n m:Nat}(h:o+n≤x.cells.length)(hm:m≤n):pv x o m=some (((x.cells.drop o).take n).take m):=by
 unfold pv;rw[zE (by omega),gV,gQ hm]
theorem as4 (hR:fe c){q o n es:Nat}{dm:Nat×Nat}{a:Value}(hd:(bn c.S q).dim=some dm)(he:dm.1=es)(hs:SlR c q o n dm a):
  ∃all,ai4 a=some n∧(∀m,m≤n→c.σ.slice es a m=some (all.take (m*es)))∧all.length=n*es∧F2 (VRel c) (((bn c.S q).vals.drop (o*es)).take (n*es)) all:=by
 subst he;rcases hs with⟨rfl,rfl,rfl,hm,hz⟩|⟨b,cp,x,rfl,hm,h3,h4,hx,h5⟩
 ·refine⟨[],rfl,fun m hm'=> ?_,by simp,by simp;exact .nil⟩;have:m=0:=by omega
  subst this;simp[Hp.slice]
 ·obtain⟨y0,cs,rest,h6,_,_,h7,h8⟩:=hR.block hd hm;rw[hx]at h6;injection h6 with h6
  subst h6;have hl:=h8.length
  have hvl:(bn c.S q).vals.length=dm.2:=by
   generalize bn c.S q=blk at hd;cases blk with
   |dead=>cases hd
   |cells es z l=>injection hd with hd;subst hd;rfl
   |arr s z l=>injection hd with hd;subst hd;exact i3
  rw[eD]at h3;have h9:((cs.drop (o*dm.1)).take (n*dm.1)).length=n*dm.1:=by rw[dB,gO];omega
  refine⟨(cs.drop (o*dm.1)).take (n*dm.1),rfl,fun m hm'=> ?_,h9,(h8.drop _).take _⟩;have h10:m*dm.1≤n*dm.1:=gB _ hm';by_cases hm0:m=0
  ·subst hm0;simp[Hp.slice]
  simp only[Hp.slice,hx,zF hm0];rw[be6 (n:=n*dm.1) (by rw[h7,cD];omega) h10,h7,List.drop_append_of_le_length (by omega),iB (l₁:=cs.drop (o*dm.1)) (by rw[gO];omega)]
theorem tc (hR:fe c){es:Nat}{v:VV}{a:Value}{m:More}(h:jl c.S es v=some m)(hv:VRel c v a):
  ∃n all,ai4 a=some n∧(∀i,i≤n→c.σ.slice es a i=some (all.take (i*es)))∧all.length=n*es∧F2 (VRel c) m.cellsOf all∧(∀s l,m= .lst s l→es=s.w∧n=l.length):=by
 cases v<;>simp only[jl]at h<;>try(cases h;done)
 case nils=>
  injection h with h;subst h
  cases hv;refine⟨0,[],rfl,fun i hi=> ?_,by simp, .nil,fun s l h=>by cases h⟩;have:i=0:=by omega
  subst this;simp[Hp.slice]
 case str l=>
  cases he:aB es 1 with
  |false=>rw[he]at h;cases h
  |true=>
   rw[he]at h;have he:=aD he;subst he;injection h with h;subst h
   obtain⟨s,rfl,rfl⟩:=hv.str_inv;refine⟨s.size,s.data.toList.map fun b=> .int .u8 b.toNat,rfl,fun i hi=> ?_,by simp, ?_,fun s' l h=> ?_⟩
   ·simp only[Hp.slice,if_true,gZ];simp[ByteArray.data_extract,Array.toList_extract,List.extract_eq_take_drop,List.map_take]
   ·simp only[More.cellsOf,dw,gb];generalize s.data.toList=l;induction l with
    |nil=>exact .nil
    |cons b l ih=>exact .cons (.int _ _) ih
   ·injection h with h1 h2
    subst h1;cases h2;exact⟨rfl,(rl s).symm⟩
 case lst s l=>
  cases he:aB es s.w with
  |false=>rw[he]at h;cases h
  |true=>
   rw[he]at h;have he:=aD he;subst he;injection h with h;subst h
   refine⟨l.length, ?_⟩;rcases hv.listAt with⟨qq,rfl,rfl,hqq⟩|⟨b,p,cp,x,rfl,h1,h2,h3,h4,h5⟩
   ·refine⟨[],rfl,fun i hi=> ?_,by simp, .nil,fun s' l h=>by injection h with h1 h2;subst h1;cases h2;exact⟨rfl,rfl⟩⟩;have:i=0:=by simp at hi;exact hi
    subst this;cases qq with
    |none=>simp[Hp.slice]
    |some z=>
     have:=hqq z rfl;obtain⟨zb,zo,zs⟩:=z;simp only at this;subst this;simp[Hp.slice]
   ·refine⟨(x.cells.drop p).take (l.length*s.w),rfl,fun i hi=> ?_,by rw[←h5.length,i3],h5,fun s' l' h=>by injection h with h1 h2;subst h1;cases h2;exact⟨rfl,rfl⟩⟩;by_cases hi0:i=0
    ·subst hi0;simp[Hp.slice]
    simp only[Hp.slice,h1,zF hi0];exact be6 h4 (gB _ hi)
 case full q=>
  cases hv with
  |full hk _ hd=>
   cases hb:bn c.S q with
   |dead=>rw[hb]at h;cases h
   |arr s z l=>
    rw[hb]at h;cases he:aB es s.w with
    |false=>simp only[he]at h;cases h
    |true=>
     simp only[he]at h;have he:=aD he;subst he;injection h with h;subst h
     have hdim:(bn c.S q).dim=some (s.w,l.length*s.w):=by rw[hb];rfl
     obtain⟨n,h1,h2⟩:=hd _ hdim;have:n=l.length:=fD (nF s) h1;subst this;obtain⟨all,h3,h4,h5,h6⟩:=as4 hR hdim rfl h2;rw[hb,hO,gR,dD (by simp[Blk.vals,i3])]at h6;exact⟨_,all,h3,h4,h5,h6,fun s' l' h=>by injection h with h1 h2;subst h1;cases h2;exact⟨rfl,rfl⟩⟩
   |cells es' z l=>
    rw[hb]at h;cases he:(aB es es'&&gN 1 es)with
    |false=>simp only[he]at h;cases h
    |true=>
     simp only[he]at h;rw[bB]at he;have he1:=aD he.1;subst he1;injection h with h;subst h
     have hdim:(bn c.S q).dim=some (es,l.length):=by rw[hb];rfl
     obtain⟨n,h1,h2⟩:=hd _ hdim;obtain⟨all,h3,h4,h5,h6⟩:=as4 hR hdim rfl h2;simp only at h1;rw[hb,hO,gR,h1,dD (by exact bD _)]at h6;exact⟨_,all,h3,h4,h5,h6,fun s' l' h=>by cases h⟩
 case part q o n=>
  cases hv with
  |part hk _ hd=>
   cases hb:bn c.S q with
   |dead=>rw[hb]at h;cases h
   |arr s z l=>
    rw[hb]at h;cases he:aB es s.w with
    |false=>simp only[he]at h;cases h
    |true=>
     simp only[he]at h;have he:=aD he;subst he;injection h with h;subst h
     have hdim:(bn c.S q).dim=some (s.w,l.length*s.w):=by rw[hb];rfl
     have h2:=hd _ hdim;obtain⟨all,h3,h4,h5,h6⟩:=as4 hR hdim rfl h2;rw[hb]at h6;simp only[Blk.vals]at h6;rw[←wP,←lI]at h6
     have h7:n=((l.drop o).take n).length:=by
      have:=h6.length;rw[i3,h5]at this;exact(fD (nF s) this).symm
     exact⟨_,all,h3,h4,h5,h6,fun s' l' h=>by injection h with h1 h2;subst h1;cases h2;exact⟨rfl,h7⟩⟩
   |cells es' z l=>
    rw[hb]at h;cases he:(aB es es'&&gN 1 es)with
    |false=>simp only[he]at h;cases h
    |true=>
     simp only[he]at h;rw[bB]at he;have he1:=aD he.1;subst he1;injection h with h;subst h
     have hdim:(bn c.S q).dim=some (es,l.length):=by rw[hb];rfl
     have h2:=hd _ hdim;obtain⟨all,h3,h4,h5,h6⟩:=as4 hR hdim rfl h2;rw[hb]at h6;exact⟨_,all,h3,h4,h5,h6,fun s' l' h=>by cases h⟩
def Base.cellsOf :Base→List VV
 | .none=>[]
 | .cells _ l=>l
 | .arr s l=>gb s l
structure BaseAt (c:Ctx)(es sl:Nat)(base:Base)(kill:Option Nat)(a:Value):Prop where
 no:kill=none→a= .slice none 0 0∧sl=0∧base= .none
 yes: ∀q,kill=some q→∃dm,(bn c.S q).dim=some dm∧dm.1=es∧(bn c.S q).frozen=false∧SlR c q 0 sl dm a∧base.cellsOf=(bn c.S q).vals.take (sl*es)
 es: ∀e l,base= .cells e l→e=es∧1≤es
theorem ab9 {blk:Blk}{dm:Nat×Nat}(h:blk.dim=some dm):blk.vals.length=dm.2:=by
 cases blk with
 |dead=>cases h
 |cells es z l=>injection h with h;subst h;rfl
 |arr s z l=>injection h with h;subst h;exact i3
theorem ci5 {es:Nat}{v:VV}{a:Value}{base:Base}{kill:Option Nat}(hR:fe c)(h:ym c.S es v=some (base,kill))(hv:VRel c v a): ∃sl,BaseAt c es sl base kill a∧base.cellsOf.length=sl*es∧(∀s l,base= .arr s l→es=s.w∧sl=l.length):=by
 cases v<;>try(cases h;done)
 case nils=>
  simp only[ym]at h;injection h with h
  injection h with h1 h2
  subst h1;subst h2;cases hv;exact⟨0,⟨fun _=>⟨rfl,rfl,rfl⟩,(fun q h=>by cases h),(fun e l h=>by cases h)⟩,by simp[Base.cellsOf],fun s l h=>by cases h⟩
 case full q=>
  simp only[ym]at h;cases hv with
  |full hk _ hd=>
   cases hb:bn c.S q with
   |dead=>rw[hb]at h;cases h
   |arr s z l=>
    rw[hb]at h;cases z with
    |true=>cases h
    |false=>
     simp only at h;cases he:aB es s.w with
     |false=>rw[he]at h;cases h
     |true=>
      rw[he]at h;have he:=aD he;subst he;injection h with h
      injection h with h1 h2
      subst h1;subst h2;have hdim:(bn c.S q).dim=some (s.w,l.length*s.w):=by rw[hb];rfl
      obtain⟨n,h1,h2⟩:=hd _ hdim;have:n=l.length:=fD (nF s) h1;subst this;refine⟨l.length,⟨(fun h=>by cases h),fun q' h=> ?_,(fun e l h=>by cases h)⟩,i3,fun s' l' h=>by injection h with h1 h2;subst h1;cases h2;exact⟨rfl,rfl⟩⟩;injection h with h
      subst h;refine⟨_,hdim,rfl,by rw[hb];rfl,h2, ?_⟩;rw[hb];exact(dD (by rw[show(Base.arr s l).cellsOf=gb s l from rfl,i3];exact bD _)).symm
   |cells es' z l=>
    rw[hb]at h;cases z with
    |true=>cases h
    |false=>
     simp only at h;cases he:(aB es es'&&gN 1 es)with
     |false=>rw[he]at h;cases h
     |true=>
      rw[he]at h;rw[bB]at he;have he1:=aD he.1;subst he1;injection h with h
      injection h with h1 h2
      subst h1;subst h2;have hdim:(bn c.S q).dim=some (es,l.length):=by rw[hb];rfl
      obtain⟨n,h1,h2⟩:=hd _ hdim;simp only at h1;refine⟨n,⟨(fun h=>by cases h),fun q' h=> ?_,fun e l h=>by injection h with h1 h2;exact⟨h1.symm,fB he.2⟩⟩,h1.symm,fun s' l' h=>by cases h⟩;injection h with h
      subst h;refine⟨_,hdim,rfl,by rw[hb];rfl,h2, ?_⟩;rw[hb,h1];exact(dD (bD _)).symm
 case part q lo n=>
  cases lo with
  |succ lo=>cases h
  |zero=>
   simp only[ym]at h;cases hv with
   |part hk _ hd=>
    cases hb:bn c.S q with
    |dead=>rw[hb]at h;cases h
    |arr s z l=>
     rw[hb]at h;cases z with
     |true=>cases h
     |false=>
      simp only at h;cases he:aB es s.w with
      |false=>rw[he]at h;cases h
      |true=>
       rw[he]at h;have he:=aD he;subst he;injection h with h
       injection h with h1 h2
       subst h1;subst h2;have hdim:(bn c.S q).dim=some (s.w,l.length*s.w):=by rw[hb];rfl
       have h2:=hd _ hdim
       have hn:n≤l.length:=by
        rcases h2 with⟨_,_,h3,_,_⟩|⟨b,cp,x,_,_,h3,_⟩
        ·omega
        ·rw[cB]at h3;exact iC h3 (nF s)
       have hlen:(l.take n).length=n:=by rw[dB];omega
       refine⟨n,⟨(fun h=>by cases h),fun q' h=> ?_,(fun e l h=>by cases h)⟩,by simp only[Base.cellsOf];rw[i3,hlen],fun s' l' h=>by injection h with h1 h2;subst h1;cases h2;exact⟨rfl,hlen.symm⟩⟩;injection h with h
       subst h;refine⟨_,hdim,rfl,by rw[hb];rfl,h2, ?_⟩;rw[hb];exact lI
    |cells es' z l=>
     rw[hb]at h;cases z with
     |true=>cases h
     |false=>
      simp only at h;cases he:(aB es es'&&gN 1 es)with
      |false=>rw[he]at h;cases h
      |true=>
       rw[he]at h;rw[bB]at he;have he1:=aD he.1;subst he1;injection h with h
       injection h with h1 h2
       subst h1;subst h2;have hdim:(bn c.S q).dim=some (es,l.length):=by rw[hb];rfl
       have h2:=hd _ hdim
       have hn:n*es≤l.length:=by
        rcases h2 with⟨_,_,h3,_,_⟩|⟨b,cp,x,_,_,h3,_⟩
        ·subst h3;simp
        ·rwa [cB]at h3
       refine⟨n,⟨(fun h=>by cases h),fun q' h=> ?_,fun e l h=>by injection h with h1 h2;exact⟨h1.symm,fB he.2⟩⟩,by simp only[Base.cellsOf];rw[dB];omega,fun s' l' h=>by cases h⟩;injection h with h
       subst h;exact⟨_,hdim,rfl,by rw[hb];rfl,h2,by rw[hb];rfl⟩
theorem cy7 {vs cs:List Value}(h:cs.length=vs.length):lL cs 0 vs=vs:=by
 induction vs generalizing cs with
 |nil=>simp only[lL];exact List.length_eq_zero_iff.1 h
 |cons v vs ih=>
  cases cs with
  |nil=>simp at h
  |cons a cs=>
   have h1:cs.length=vs.length:=by simpa using h
   show lL ((a::cs).set 0 v) (0+1) vs=_;have h2:=xd vs [v] cs 0;simp only[iA,gP,List.singleton_append,cB]at h2;rw[List.set_cons_zero,h2,ih h1]
theorem bG2 {vs cs:List Value}{p:Nat}(h:p+vs.length≤cs.length):lL cs p vs=cs.take p++(vs++cs.drop (p+vs.length)):=by
 have:=bg9 (vs:=vs) (cs:=cs) (p:=p) (o:=0) (w:=vs.length) (by omega) h;rw[Nat.add_zero,cy7 (by rw[dB,gO];omega)]at this;exact this
theorem bB0 {σ:Hp}{x z:Ab.Blk}{b i:Nat}(h:((σ.set b none).add x).m i=some z):i=σ.n∨(i≠b∧σ.m i=some z):=by
 by_cases h1:i=σ.n
 ·exact .inl h1
 ·refine .inr ?_;have h2:((σ.set b none).add x).m i=(σ.set b none).m i:=zF h1;rw[h2]at h;by_cases h3:i=b
  ·have h4:(σ.set b none).m i=none:=zE h3;rw[h4]at h;cases h
  ·have h4:(σ.set b none).m i=σ.m i:=zF h3;exact⟨h3,h4▸h⟩
theorem bJ8 {σ:Hp}{x:Ab.Blk}{b i:Nat}(h1:i≠σ.n)(h3:i≠b):((σ.set b none).add x).m i=σ.m i:=by
 have h2:((σ.set b none).add x).m i=(σ.set b none).m i:=zF h1;have h4:(σ.set b none).m i=σ.m i:=zF h3;exact h2.trans h4
structure Grown (c:Ctx)(base more:List VV)(es n:Nat)(blk:Blk):Prop where
 dim:blk.dim=some (es,n*es)
 fz:blk.frozen=false
 rel: ∀bs ms,F2 (VRel c) base bs→F2 (VRel c) more ms→F2 (VRel c) blk.vals (bs++ms)
theorem ri {c1:Ctx}{es bytes sl n:Nat}{base:Base}{kill:Option Nat}{more:List VV}{blk:Blk}{s:Operand}{op:AOp}{all:List Value}(hR:fe c1)(hS:sM c.S c1.S)(hμ:c1.μ=c.μ)(hσ:c1.σ=c.σ)(hle:Le c c1)(hcalm:tE d c c1)
  (he1:1≤es) (hb:BaseAt c es sl base kill (ea.ev s)) (hkz: ∀q,kill=some q→(bn c1.S q).frozen=false)
  (hop: ∀a sl' sc,ea.ev s= .slice a sl' sc→op.run ea c.σ=ny es bytes c.σ a sl' sc n all) (h3:all.length=n*es) (h4:F2 (VRel c1) more all) (h5:all.all one=true) (hg:Grown c1 base.cellsOf more es (sl+n) blk)
  (hf:iq (sl+n) bytes=true) (hd: ∀q,kill=some q→q∈d) (hk:k (.full c1.S.length) (pt c1.S kill++[blk])=some y):ck T op ea c.σ (jd c d k y):=by
 have hfit:(sl+n)*bytes≤140737488355328∧sl+n≤9223372036854775807:=by
  unfold iq at hf;rw[bB]at hf;have g1:=of_decide_eq_true hf.1;have g2:=fB hf.2;refine⟨g1, ?_⟩;have:(sl+n)*1≤(sl+n)*bytes:=iD _ g2;omega
 have hnew:all=[]→n=0:=by
  intro h;subst h;simp only[gP]at h3;rcases gW n with h|h
  ·exact h
  ·have:=hC h he1;omega
 have fin: ∀{v:Value} {σ':Hp} {b1:Option Nat},Moves c1 kill b1 blk σ'→VRel ⟨sU c1 b1,pt c1.S kill++[blk],σ',c1.fb⟩ (.full c1.S.length) v→jd c d k y v σ':=by
  intro v σ' b1 hm hv;exact⟨_,_,rfl,hle.trans (hm.le hR),hm.rel hR,hcalm.trans (hm.calm hR hd) hle,hv,hk⟩
 cases kill with
 |none=>
  obtain⟨e1,e2,e3⟩:=hb.no rfl;subst e2;subst e3;by_cases hn:n=0
  ·subst hn;have:all=[]:=by simpa using h3
   subst this;have hmv:Moves c1 none none blk c1.σ:=⟨(fun _ h=>by cases h),(fun _ h=>by cases h),hR.ok,bD _,fun _ _ h _=>h,_,hg.dim,he1, .inl ⟨rfl,by simp⟩⟩;refine cw (v:= .slice none 0 0) (σ':=c.σ) ?_ ?_
   ·rw[hop _ _ _ e1];unfold ny;rw[zE (by simp)];simp
   ·rw[←hσ];refine fin hmv (.full (by simp[pt]) rfl fun d' hd'=> ?_);simp only[lq,if_true]at hd';rw[hg.dim]at hd';injection hd' with hd'
    subst hd';exact⟨0,by simp, .inl ⟨rfl,rfl,rfl,by simp[sU],by simp⟩⟩
  ·have hmv:=bJ9 hR (blk:=blk) (x:=⟨all,true,es⟩) hg.dim he1 rfl rfl (by have:=hg.rel [] all .nil h4;simpa using this);refine cw (v:= .slice (some ⟨c.σ.n,0,none⟩) n n) (σ':=c.σ.add ⟨all,true,es⟩) ?_ ?_
   ·rw[hop _ _ _ e1];unfold ny;rw[zF (by omega),zE ⟨hfit.1,hfit.2,h5⟩];simp
   ·rw[←hσ];refine fin hmv (ug (yb:=⟨all,true,es⟩) hg.dim (by simp) (bD _) (zE rfl) ?_);show n*es≤all.length;omega
 |some q=>
  obtain⟨dm,g1,g2,g3,g4,g5⟩:=hb.yes q rfl;subst g2;have hdim1:(bn c1.S q).dim=some dm:=by rw[hS.dim];exact g1
  have hvals1:(bn c1.S q).vals=(bn c.S q).vals:=hS.vals q;rcases g4 with⟨e1,_,e2,e3,e4⟩|⟨b,cp,yb,e1,e3,e4,e5,e6,e7⟩
  ·subst e2;have hbase:base.cellsOf=[]:=by rw[g5];simp
   by_cases hn:n=0
   ·subst hn;have:all=[]:=by simpa using h3
    subst this;have hmv:Moves c1 (some q) none blk c1.σ:=⟨(fun _ h=>by cases h),(fun _ h=>by injection h with h;subst h;exact hkz q rfl),hR.ok,bD _,fun _ _ h _=>h,_,hg.dim,he1, .inl ⟨rfl,by simp⟩⟩;refine cw (v:= .slice none 0 0) (σ':=c.σ) ?_ ?_
    ·rw[hop _ _ _ e1];unfold ny;rw[zE (by simp)];simp
    ·rw[←hσ];refine fin hmv (.full (by simp[vT]) rfl fun d' hd'=> ?_);simp only[lq,if_true]at hd';rw[hg.dim]at hd';injection hd' with hd'
     subst hd';exact⟨0,by simp, .inl ⟨rfl,rfl,rfl,by simp[sU],by simp⟩⟩
   ·have hmv:Moves c1 (some q) (some c1.σ.n) blk (c1.σ.add ⟨all,true,dm.1⟩):=by
     have h0:=bJ9 hR (blk:=blk) (x:=⟨all,true,dm.1⟩) hg.dim he1 rfl rfl (by have:=hg.rel [] all (by rw[hbase];exact .nil) h4;simpa using this);refine⟨h0.fr,(fun _ h=>by injection h with h;subst h;exact hkz q rfl),h0.ok,h0.n,fun i z hz _=>h0.old i z hz (fun⟨_,h,_⟩=>by cases h), ?_⟩;obtain⟨dd,k1,k2,k3⟩:=h0.one;refine⟨dd,k1,k2, ?_⟩;rcases k3 with k3|⟨b',y',cs,rest,k3,k4,k5,k6,k7,k8,k9⟩
     ·exact .inl k3
     ·refine .inr ⟨b',y',cs,rest,k3,k4,k5,k6,k7,k8, .inl ?_⟩;rcases k9 with k9|⟨_,k9,_⟩
      ·exact k9
      ·cases k9
    refine cw (v:= .slice (some ⟨c.σ.n,0,none⟩) n n) (σ':=c.σ.add ⟨all,true,dm.1⟩) ?_ ?_
    ·rw[hop _ _ _ e1];unfold ny;rw[zF (by omega),zE ⟨hfit.1,hfit.2,h5⟩];simp
    ·rw[←hσ];refine fin hmv (ug (yb:=⟨all,true,dm.1⟩) hg.dim (by simp) (bD _) (zE rfl) ?_);show n*dm.1≤all.length;omega
  ·rw[hO]at e1;rw[cB]at e4 e7;have e3':c1.μ q=some b:=by rw[hμ];exact e3
   obtain⟨yb',cs,rest,f1,f2,f3,f4,f5⟩:=hR.block hdim1 e3';rw[hσ]at f1;rw[e6]at f1;injection f1 with f1
   subst f1;have hown:=f3 (hkz q rfl);have hcl:cs.length=dm.2:=by rw[←f5.length];exact ab9 hdim1
   have hbs:F2 (VRel c1) base.cellsOf (cs.take (sl*dm.1)):=by rw[g5,←hvals1];exact f5.take _
   have hrel:=hg.rel _ _ hbs h4;have hytake:yb.cells.take (sl*dm.1)=cs.take (sl*dm.1):=by rw[f4,iB (by omega)]
   have hcp:sl*dm.1≤cp*dm.1:=gB _ e5;by_cases hroom:sl+n≤cp
   ·have hroom':sl*dm.1+n*dm.1≤cp*dm.1:=by rw[←eD];exact gB _ hroom
    have hset:lL yb.cells (sl*dm.1) all=cs.take (sl*dm.1)++(all++yb.cells.drop (sl*dm.1+all.length)):=by rw[bG2 (by omega),hytake]
    have mk: ∀σ':Hp,σ'.Ok→σ'.n=c1.σ.n→(∀i,i≠b→σ'.m i=c1.σ.m i)→σ'.m b=some ⟨lL yb.cells (sl*dm.1) all,true,yb.es⟩→Moves c1 (some q) (some b) blk σ':=by
     intro σ' ho hn hm hb';refine⟨(fun b' h hz _=>by injection h with h;subst h;exact hz _ (by rw[hσ];exact e6)),(fun _ h=>by injection h with h;subst h;exact hkz q rfl),ho,by omega,fun i z hz hK=> ?_,(dm.1,(sl+n)*dm.1),hg.dim,he1, .inr ⟨b,_,cs.take (sl*dm.1)++all,yb.cells.drop (sl*dm.1+all.length),rfl,hb',f2,fun _=>rfl,by show lL _ _ _=_;rw[hset,gT],hrel, .inr ⟨q,rfl,e3'⟩⟩⟩;have:i≠b:=by rintro rfl;exact hK ⟨q,rfl,e3'⟩
     rw[hm i this];exact hz
    have hfull: ∀σ':Hp,σ'.m b=some ⟨lL yb.cells (sl*dm.1) all,true,yb.es⟩→VRel ⟨sU c1 (some b),pt c1.S (some q)++[blk],σ',c1.fb⟩ (.full c1.S.length) (.slice (some ⟨b,0,none⟩) (sl+n) cp):=by
     intro σ' hb';refine ug hg.dim rfl hroom hb' ?_;show cp*dm.1≤(lL yb.cells (sl*dm.1) all).length;rw[yX];exact e7
    by_cases hn:all=[]
    ·have hself:yb=⟨lL yb.cells (sl*dm.1) all,true,yb.es⟩:=by
      subst hn;cases yb;simp only[lL]at*;simp[hown]
     refine cw (v:= .slice (some ⟨b,0,none⟩) (sl+n) cp) (σ':=c.σ) ?_ ?_
     ·rw[hop _ _ _ e1];unfold ny;rw[zE hroom];simp[hn]
     ·rw[←hσ];have e6':c1.σ.m b=some ⟨lL yb.cells (sl*dm.1) all,true,yb.es⟩:=by rw[←hself,hσ];exact e6
      exact fin (mk c1.σ hR.ok rfl (fun _ _=>rfl) e6') (hfull _ e6')
    ·refine cw (v:= .slice (some ⟨b,0,none⟩) (sl+n) cp) (σ':=c.σ.set b (some ⟨lL yb.cells (sl*dm.1) all,true,yb.es⟩)) ?_ ?_
     ·rw[hop _ _ _ e1];unfold ny;rw[zE hroom];simp only[hn,if_false,e6,cB];rw[as9 hown (by omega) h5]
     ·rw[←hσ];refine fin (mk _ (fun i z hz=> ?_) rfl (fun i hi=>by simp[Hp.set,hi]) (by simp[Hp.set])) (hfull _ (by simp[Hp.set]));simp only[Hp.set]at hz;split at hz
      ·rename_i e;subst e;exact hR.ok _ _ (by rw[hσ];exact e6)
      ·exact hR.ok _ _ hz
   ·have hmv:Moves c1 (some q) (some c1.σ.n) blk ((c1.σ.set b none).add ⟨cs.take (sl*dm.1)++all,true,dm.1⟩):=by
     refine⟨(fun b h _ hb=>by injection h with h;subst h;exact Nat.lt_irrefl _ (hR.fbl _ hb)),(fun _ h=>by injection h with h;subst h;exact hkz q rfl),fun i z hz=> ?_,Nat.le_succ _,fun i z hz hK=> ?_,(dm.1,(sl+n)*dm.1),hg.dim,he1, .inr ⟨c1.σ.n,_,cs.take (sl*dm.1)++all,[],rfl,zE rfl,rfl,fun _=>rfl,by simp,hrel, .inl fun z hz=> ?_⟩⟩
     ·show i<c1.σ.n+1;rcases bB0 hz with h0|⟨_,h0⟩
      ·omega
      ·have:=hR.ok i z h0;omega
     ·have h0:i≠b:=by rintro rfl;exact hK ⟨q,rfl,e3'⟩
      have h9:=hR.ok i z hz;rw[bJ8 (by omega) h0];exact hz
     ·have:=hR.ok _ _ hz;omega
    refine cw (v:= .slice (some ⟨c.σ.n,0,none⟩) (sl+n) (sl+n)) (σ':=(c.σ.set b none).add ⟨cs.take (sl*dm.1)++all,true,dm.1⟩) ?_ ?_
    ·rw[hop _ _ _ e1];unfold ny;rw[zF hroom,zE ⟨hfit.1,hfit.2,h5⟩];simp only[e6];rw[zE ⟨hown,f2⟩]
     have:pv yb 0 (sl*dm.1)=some (cs.take (sl*dm.1)):=by
      unfold pv;rw[zE (by omega),gR,hytake]
     rw[this]
    ·rw[←hσ];refine fin hmv (ug (yb:=⟨cs.take (sl*dm.1)++all,true,dm.1⟩) hg.dim rfl (bD _) (zE rfl) ?_);show(sl+n)*dm.1≤(cs.take (sl*dm.1)++all).length;rw[cD,dB,eD];omega
theorem aN4 {S:bu}{s:Sh}{cs:List VV}{l:List (El s)}{c1:Ctx}(hR:fe c1)(hS:c1.S=S)(h:ch2 S s cs=some l):cs.length=l.length*s.w∧∀as,F2 (VRel c1) cs as→F2 (VRel c1) (gb s l) as:=by
 subst hS;exact aJ8 (ll hR s) _ _ _ h
theorem aZ1 (hR:fe c)(he:bz c e ea){es bytes:Nat}{s:Operand}{op:AOp}{mo:Option More}(hd: ∀q,ua (ev e s)=some q→q∈d)(h:aU2 c.S es bytes (ym c.S es (ev e s)) mo k=some y)
  (hm: ∀m,mo=some m→∃n all,(∀a sl' sc,ea.ev s= .slice a sl' sc→op.run ea c.σ=ny es bytes c.σ a sl' sc n all)∧all.length=n*es∧F2 (VRel c) m.cellsOf all∧(∀s l,m= .lst s l→es=s.w∧n=l.length)):ck T op ea c.σ (jd c d k y):=by
 have hs:=cm he s;unfold aU2 at h;cases hbo:ym c.S es (ev e s)with
 |none=>rw[hbo]at h;cases h
 |some p=>
  obtain⟨base,kill⟩:=p;cases mo with
  |none=>rw[hbo]at h;cases base<;>cases h
  |some m=>
   obtain⟨sl,hb,hbl,hba⟩:=ci5 hR hbo hs;obtain⟨n,all,hop,h3,h4,h5⟩:=hm m rfl
   have hkd: ∀q,kill=some q→q∈d:=by
    intro q hq;refine hd q ?_;subst hq;cases hv:ev e s<;>rw[hv]at hbo<;>try(cases hbo;done)
    case full b=>
     simp only[ym]at hbo;split at hbo
     ·rename_i s' l hbb;cases hh:aB es s'.w with
      |false=>rw[hh]at hbo;cases hbo
      |true=>rw[hh]at hbo;simp only[zC,Option.some.injEq,Prod.mk.injEq]at hbo;rw[←hbo.2];rfl
     ·rename_i es' l hbb;cases hh:(aB es es'&&gN 1 es)with
      |false=>rw[hh]at hbo;cases hbo
      |true=>rw[hh]at hbo;simp only[zC,Option.some.injEq,Prod.mk.injEq]at hbo;rw[←hbo.2];rfl
     ·cases hbo
    case part b lo m=>
     cases lo with
     |succ lo=>cases hbo
     |zero=>
      simp only[ym]at hbo;split at hbo
      ·rename_i s' l hbb;cases hh:aB es s'.w with
       |false=>rw[hh]at hbo;cases hbo
       |true=>rw[hh]at hbo;simp only[zC,Option.some.injEq,Prod.mk.injEq]at hbo;rw[←hbo.2];rfl
      ·rename_i es' l hbb;cases hh:(aB es es'&&gN 1 es)with
       |false=>rw[hh]at hbo;cases hbo
       |true=>rw[hh]at hbo;simp only[zC,Option.some.injEq,Prod.mk.injEq]at hbo;rw[←hbo.2];rfl
      ·cases hbo
   have hkz: ∀q,kill=some q→(bn c.S q).frozen=false:=by
    intro q hq;obtain⟨_,_,_,h,_⟩:=hb.yes q hq;exact h
   rw[hbo]at h;have one4: ∀(c1:Ctx) (l:List VV),F2 (VRel c1) l all→oL l=true→all.all one=true:=fun c1 l h1 h2=>lG h1 h2
   cases base with
   |arr s' l=>
    obtain⟨g1,g2⟩:=hba s' l rfl;subst g1;cases m with
    |lst s2 l'=>
     simp only at h;obtain⟨l2,k1,k2⟩:=bq h;obtain⟨ee,k3⟩:=mE k1;cases ee;subst k3;obtain⟨k4,k5⟩:=ca k2;obtain⟨_,k6⟩:=h5 _ _ rfl;refine ri hR (sM.refl _) rfl rfl (Le.refl c) (tE.refl d c) (nF _) hb hkz hop h3 h4 (one4 c _ h4 (rn _ _)) ⟨?_,rfl,fun bs ms f1 f2=> ?_⟩ (by rw[g2,k6];exact k4) hkd k5
     ·simp only[Blk.dim,cD,g2,k6]
     ·simp only[Blk.vals];rw[vS];exact f1.append f2
    |cells cs=>
     simp only at h;split at h
     ·rename_i s3 l3 hkk;obtain⟨l2,k1,k2⟩:=bq h;obtain⟨k4,k5⟩:=ca k2;have hfz:=ar7 c.S cs;have hR1:fe ⟨c.μ,fzL c.S cs,c.σ,c.fb⟩:=hfz.rel hR;obtain⟨k6,k7⟩:=aN4 hR1 rfl k1;have h4':F2 (VRel ⟨c.μ,fzL c.S cs,c.σ,c.fb⟩) cs all:=VRel.frames hfz.le h4
      have k8:n=l2.length:=by
       have:=h4.length;simp only[More.cellsOf]at this;rw[k6,h3]at this;exact(fD (nF _) this).symm
      have hkz': ∀q,kill=some q→(bn (fzL c.S cs) q).frozen=false:=by
       intro q hq;subst hq;simp only[iE]at hkk;rw[hkk];rfl
      refine ri (c1:=⟨c.μ,fzL c.S cs,c.σ,c.fb⟩) hR1 hfz rfl rfl hfz.le (hfz.calm d) (nF _) hb hkz' hop h3 h4' (one4 _ _ (k7 _ h4') (rn _ _)) ⟨?_,rfl,fun bs ms f1 f2=> ?_⟩ (by rw[g2,k8];exact k4) hkd k5
      ·simp only[Blk.dim,cD,g2,k8]
      ·simp only[Blk.vals];rw[vS];exact f1.append (k7 _ f2)
     ·cases h
   |cells es0 l=>
    obtain⟨g1,g2⟩:=hb.es _ _ rfl;subst g1;cases m with
    |lst s2 l'=>
     simp only at h;obtain⟨w1,w2⟩:=h5 _ _ rfl;subst w1;split at h
     ·rename_i s3 l3 hkk;obtain⟨l1,k1,k2⟩:=bq h;obtain⟨k4,k5⟩:=ca k2;have hfz:=ar7 c.S l;have hR1:fe ⟨c.μ,fzL c.S l,c.σ,c.fb⟩:=hfz.rel hR;obtain⟨k6,k7⟩:=aN4 hR1 rfl k1;have h4':F2 (VRel ⟨c.μ,fzL c.S l,c.σ,c.fb⟩) (gb s2 l') all:=VRel.frames hfz.le h4
      have k8:sl=l1.length:=by
       simp only[Base.cellsOf]at hbl;rw[k6]at hbl;exact(fD (nF _) hbl).symm
      have hkz': ∀q,kill=some q→(bn (fzL c.S l) q).frozen=false:=by
       intro q hq;subst hq;simp only[iE]at hkk;rw[hkk];rfl
      refine ri (c1:=⟨c.μ,fzL c.S l,c.σ,c.fb⟩) hR1 hfz rfl rfl hfz.le (hfz.calm d) (nF _) hb hkz' hop h3 h4' (one4 _ _ h4' (rn _ _)) ⟨?_,rfl,fun bs ms f1 f2=> ?_⟩ (by rw[w2,k8];exact k4) hkd k5
      ·simp only[Blk.dim,cD,w2,k8]
      ·simp only[Blk.vals];rw[vS];exact(k7 _ f1).append f2
     ·cases h
    |cells cs=>
     simp only at h;obtain⟨k4,k5⟩:=ca h;rw[bB]at k4;simp only[Base.cellsOf]at hbl;simp only[More.cellsOf]at h4;have k6:cs.length=n*es0:=by rw[h4.length];exact h3
     refine ri (blk:= .cells es0 false (l++cs)) hR (sM.refl _) rfl rfl (Le.refl c) (tE.refl d c) g2 hb hkz hop h3 h4 (one4 c _ h4 k4.2) ⟨?_,rfl,fun bs ms f1 f2=>F2.append (l:=l) f1 f2⟩ ?_ hkd k5
     ·simp only[Blk.dim,cD,hbl,k6,eD]
     ·have:(l.length+cs.length) / es0=sl+n:=by rw[hbl,k6,←eD,gY _ g2]
      rw[←this];exact k4.1
   |none=>
    have hsl:kill=none→sl=0:=fun hh=>(hb.no hh).2.1
    have hsl0: ∀(q:Nat),1≤es→sl=0:=by
     intro _ hh;simp only[Base.cellsOf,gP]at hbl;rcases gW sl with h|h
     ·exact h
     ·have:=hC h hh;omega
    cases m with
    |lst s2 l'=>
     simp only at h;obtain⟨w1,w2⟩:=h5 _ _ rfl;subst w1;have hz:=hsl0 0 (nF _);subst hz;obtain⟨k4,k5⟩:=ca h;refine ri hR (sM.refl _) rfl rfl (Le.refl c) (tE.refl d c) (nF _) hb hkz hop h3 h4 (one4 c _ h4 (rn _ _)) ⟨?_,rfl,fun bs ms f1 f2=> ?_⟩ (by rw[w2];exact k4) hkd k5
     ·simp only[Blk.dim,cD,w2,gP]
     ·cases f1;exact f2
    |cells cs=>
     simp only at h;obtain⟨k4,k5⟩:=ca h;rw[bB,bB]at k4;have g2:=fB k4.1.2;have hz:=hsl0 0 g2;subst hz;simp only[More.cellsOf]at h4;have k6:cs.length=n*es:=by rw[h4.length];exact h3
     refine ri (blk:= .cells es false cs) hR (sM.refl _) rfl rfl (Le.refl c) (tE.refl d c) g2 hb hkz hop h3 h4 (one4 c _ h4 k4.2) ⟨?_,rfl,fun bs ms f1 f2=>by cases f1;exact f2⟩ ?_ hkd k5
     ·simp only[Blk.dim,k6,cB]
     ·have:cs.length / es=0+n:=by rw[k6,gY _ g2,cB]
      rw[←this];exact k4.1.1
theorem co6 {s:Sh}{l:List (El s)}{a:Value}{bytes n:Nat}{all:List Value}(hv:VRel c (.tgt s l) a)(h3:all.length=n*s.w)(h1:1≤n)(h5:all.all one=true)(hf:iq (l.length+n) bytes=true):
  ∃p sc old,a= .slice p l.length sc∧F2 (VRel c) (gb s l) old∧ny s.w bytes c.σ p l.length sc n all=some (.slice (some ⟨c.σ.n,0,none⟩) (l.length+n) (l.length+n),c.σ.add ⟨old++all,true,s.w⟩):=by
 have hfit:(l.length+n)*bytes≤140737488355328∧l.length+n≤9223372036854775807:=by
  unfold iq at hf;rw[bB]at hf;have g1:=of_decide_eq_true hf.1;have g2:=fB hf.2;refine⟨g1, ?_⟩;have:(l.length+n)*1≤(l.length+n)*bytes:=iD _ g2;omega
 cases hv with
 |tgtn hq=>
  simp only[gP,cB]at hfit⊢;rcases hq with rfl|⟨b,o,rfl⟩
  ·refine⟨none,0,[],rfl, .nil, ?_⟩;unfold ny;rw[zF (by omega),zE (by rw[cB];exact⟨hfit.1,hfit.2,h5⟩)];simp
  ·refine⟨_,0,[],rfl, .nil, ?_⟩;unfold ny;rw[zF (by omega),zE (by rw[cB];exact⟨hfit.1,hfit.2,h5⟩)];simp
 |tgt hn hy he h4 hf'=>
  rename_i b p yb;by_cases h0:l=[]
  ·subst h0;simp only[gP,cB]at hfit⊢;refine⟨_,0,[],rfl, .nil, ?_⟩;unfold ny;rw[zF (by omega),zE (by rw[cB];exact⟨hfit.1,hfit.2,h5⟩)];simp
  ·have hl:l.length≠0:=fun h=>h0 (List.eq_nil_of_length_eq_zero h)
   refine⟨_,_,_,rfl,hf', ?_⟩;unfold ny;rw[zF (by omega),zE ⟨hfit.1,hfit.2,h5⟩];simp only[hl,if_false,hy,he,if_true]
   have:pv yb p (l.length*s.w)=some ((yb.cells.drop p).take (l.length*s.w)):=by
    unfold pv;rw[zE h4]
   rw[this]
theorem bh5 {c1:Ctx}{bytes n:Nat}{s:Sh}{l l2:List (El s)}{so:Operand}{op:AOp}{all:List Value}(hR:fe c1)(hσ:c1.σ=c.σ)(hle:Le c c1)(hcalm:tE d c c1)
  (hv:VRel c1 (.tgt s l) (ea.ev so)) (hop: ∀a sl' sc,ea.ev so= .slice a sl' sc→op.run ea c.σ=ny s.w bytes c.σ a sl' sc n all) (h3:all.length=n*s.w) (h4:F2 (VRel c1) (gb s l2) all) (h5:all.all one=true) (hn:n=l2.length) (h1:1≤n)
  (h:bM4 c1.S bytes s none l l2 k=some y):ck T op ea c.σ (jd c d k y):=by
 unfold bM4 at h;obtain⟨g1,g2⟩:=ca h;rw[←hn]at g1;obtain⟨p,sc,old,e1,f1,f2⟩:=co6 hv h3 h1 h5 g1;have hrel:F2 (VRel c1) (gb s (l++l2)) (old++all):=by rw[vS];exact f1.append h4
 have hmv:=bJ9 hR (blk:= .arr s false (l++l2)) (x:=⟨old++all,true,s.w⟩) (d:=(s.w,(l++l2).length*s.w)) rfl (nF s) rfl rfl hrel;refine cw (v:= .slice (some ⟨c.σ.n,0,none⟩) (l.length+n) (l.length+n)) (σ':=c.σ.add ⟨old++all,true,s.w⟩) ?_ ?_
 ·rw[hop _ _ _ e1,←hσ,f2]
 ·rw[←hσ];refine⟨_,_,rfl,hle.trans (hmv.le hR),hmv.rel hR,hcalm.trans (hmv.calm hR (fun q h=>by cases h)) hle, ?_,g2⟩;refine ug (yb:=⟨old++all,true,s.w⟩) (dm:=(s.w,(l++l2).length*s.w)) rfl (by simp[hn]) (bD _) (zE rfl) ?_;show(l.length+n)*s.w≤(old++all).length;rw[cD,←f1.length,i3,h3,eD];exact bD _
theorem cz7 (hR:fe c)(he:bz c e ea){es bytes:Nat}{s:Sh}{l:List (El s)}{so:Operand}{op:AOp}{mo:Option More}(hs:ev e so= .tgt s l)(h:cc2 c.S es bytes s l mo k=some y)
  (hm: ∀m,mo=some m→∃n all,(∀a sl' sc,ea.ev so= .slice a sl' sc→op.run ea c.σ=ny es bytes c.σ a sl' sc n all)∧all.length=n*es∧F2 (VRel c) m.cellsOf all∧(∀s l,m= .lst s l→es=s.w∧n=l.length)):ck T op ea c.σ (jd c d k y):=by
 have hv:=cm he so;rw[hs]at hv;unfold cc2 at h;cases mo with
 |none=>cases h
 |some m=>
  obtain⟨n,all,hop,h3,h4,h5⟩:=hm m rfl;cases m with
  |lst s' l'=>
   simp only at h;obtain⟨l2,k1,k2⟩:=bq h;obtain⟨ee,k3⟩:=mE k1;cases ee;subst k3;obtain⟨k4,k5⟩:=ca k2;rw[bB]at k4;have w1:=aD k4.1;have w2:=fB k4.2;subst w1;obtain⟨_,k6⟩:=h5 _ _ rfl;exact bh5 hR rfl (Le.refl c) (tE.refl d c) hv hop h3 h4 (lG h4 (rn _ _)) k6 (by rw[k6];exact w2) k5
  |cells cs=>
   simp only at h;obtain⟨l2,k1,k2⟩:=bq h;obtain⟨k4,k5⟩:=ca k2;rw[bB]at k4;have w1:=aD k4.1;have w2:=fB k4.2;subst w1;have hfz:=ar7 c.S cs;have hR1:fe ⟨c.μ,fzL c.S cs,c.σ,c.fb⟩:=hfz.rel hR;obtain⟨k6,k7⟩:=aN4 hR1 rfl k1;have h4':F2 (VRel ⟨c.μ,fzL c.S cs,c.σ,c.fb⟩) cs all:=VRel.frames hfz.le h4
   have k8:n=l2.length:=by
    have:=h4.length;simp only[More.cellsOf]at this;rw[k6,h3]at this;exact(fD (nF _) this).symm
   exact bh5 (c1:=⟨c.μ,fzL c.S cs,c.σ,c.fb⟩) hR1 rfl hfz.le (hfz.calm d) (hv.frame hfz.le) hop h3 (k7 _ h4') (lG (k7 _ h4') (rn _ _)) k8 (by rw[k8];exact w2) k5
theorem bS7 (hR:fe c){v:VV}{a:Value}{S1:bu}{s:Sh}{l:List (El s)}(h:bh4 c.S v=some (S1, .arr s l))(hv:VRel c v a):sM c.S S1∧VRel ⟨c.μ,S1,c.σ,c.fb⟩ (.lst s l) a:=by
 unfold bh4 at h;split at h
 ·simp only[Option.some.injEq,Prod.mk.injEq,Base.arr.injEq]at h;obtain⟨h1,rfl,h2⟩:=h;have h2:=eq_of_heq h2;subst h1;subst h2;exact⟨sM.refl _,hv⟩
 ·rename_i q;split at h
  ·rename_i s' z l' hb;simp only[Option.some.injEq,Prod.mk.injEq,Base.arr.injEq]at h;obtain⟨h1,rfl,h2⟩:=h;have h2:=eq_of_heq h2;subst h1;subst h2;have hfz:sM c.S (lN c.S q (bn c.S q).freeze):=sM.put;refine⟨hfz, ?_⟩;have hR1:=hfz.rel hR;have hq:q<c.S.length:=ng (by rw[hb];simp[Blk.dim]);have hg:bn (lN c.S q (bn c.S q).freeze) q= .arr s' true l':=by rw[cg7 hq,hb];rfl
   refine bd2 hR1 (ll hR1 s') (v:= .full q) ?_ (hv.frame hfz.le);show cond (bn (lN c.S q (bn c.S q).freeze) q).frozen _ _=_;rw[hg];simp only[Blk.frozen,zC,ao0,hg,vD,lj]
  ·cases h
 ·cases h
theorem cB0 (hR:fe c)(he:bz c e ea){x:Operand}(hx:ev e x= .nils)(h:k (.int .i64 0) c.S=some y):ck T (.capN x) ea c.σ (jd c d k y):=by
 have hv:=cm he x;rw[hx]at hv;have e1:ea.ev x= .slice none 0 0:=by generalize ea.ev x=q at hv;cases hv;rfl
 refine cw (v:= .int .i64 0) (σ':=c.σ) ?_ (jd.same hR (.int _ _) h);simp only[AOp.run,e1]
theorem cn7 (hR:fe c)(he:bz c e ea){x hi mx:Operand}(h:bG3 c.S (ev e x) (ev e hi) (ev e mx) k=some y):ck T (.sliceX x hi mx) ea c.σ (jd c d k y):=by
 have hv:=cm he x;have hvh:=cm he hi;have hvm:=cm he mx;unfold bG3 at h;split at h
 ·rename_i kh zh km zm eh em;rw[eh]at hvh;rw[em]at hvm;have q1:ea.ev hi= .int kh zh:=hvh.int_inv;have q2:ea.ev mx= .int km zm:=hvm.int_inv;obtain⟨g1,h1⟩:=ca h;clear h;have g1:=of_decide_eq_true g1;subst g1;have h:=h1;clear h1
  have run: ∀(p:Option Addr) (n cp:Nat) (r:Value),ea.ev x= .slice p n cp→0≤zh→zh≤cp→(match p with
    |none=>some (Value.slice none 0 0,c.σ)
    |some ⟨b,o,none⟩=>some (.slice (some ⟨b,o,some 0⟩) zh.toNat zh.toNat,c.σ)
    |_=>none)=some (r,c.σ)→(AOp.sliceX x hi mx).run ea c.σ=some (r,c.σ):=by
   intro p n cp r hp h0 h1 hr;have b1:nJ cp 0 (some (.int km zh))=some zh.toNat:=zE ⟨h0,h1⟩;have b2:nJ zh.toNat 0 (some (.int kh zh))=some zh.toNat:=zE ⟨h0,by omega⟩;simp only[AOp.run,hp,q1,q2,b1,b2,if_true];exact hr
  split at h
  ·rename_i hx;rw[hx]at hv;obtain⟨g2,h1⟩:=ca h;clear h;have h:=h1;clear h1;have g2:=of_decide_eq_true g2;subst g2;have e1:ea.ev x= .slice none 0 0:=by generalize ea.ev x=q at hv;cases hv;rfl
   exact cw (run _ _ _ (.slice none 0 0) e1 (by simp) (by simp) rfl) (jd.same hR .nils h)
  ·split at h
   ·rename_i S1 s l hsrc;obtain⟨g2,h1⟩:=ca h;clear h;have h:=h1;clear h1;obtain⟨c1,c2,c3⟩:=rm g2;obtain⟨hfz,hl⟩:=bS7 hR hsrc hv;have hR1:=hfz.rel hR;have out: ∀v:Value,VRel ⟨c.μ,S1,c.σ,c.fb⟩ (.tgt s (l.take zh.toNat)) v→jd c d k y v c.σ:=fun v hv=>⟨_,⟨c.μ,S1,c.σ,c.fb⟩,rfl,hfz.le,hR1,hfz.calm d,hv,h⟩
    cases hl':ea.ev x with
    |slice p n cp=>
     rw[hl']at hl;cases hl with
     |lstn hq=>
      have z0:zh=0:=by simp at c3;omega
      subst z0;cases p with
      |none=>exact cw (run _ _ _ (.slice none 0 0) hl' (by simp) (by simp) rfl) (out _ (.tgtn (.inl rfl)))
      |some A=>
       obtain⟨b,o,sp⟩:=A;have:sp=none:=hq _ rfl;subst this;exact cw (run _ _ _ (.slice (some ⟨b,o,some 0⟩) 0 0) hl' (by simp) (by simp) rfl) (out _ (.tgtn (.inr ⟨_,_,rfl⟩)))
     |lst hn hy he' h1 h2 h3 hf=>
      rename_i b o yb;refine cw (run _ _ _ (.slice (some ⟨b,o,some 0⟩) zh.toNat zh.toNat) hl' c2 (by omega) rfl) (out _ ?_);have hlen:(l.take zh.toNat).length=zh.toNat:=by rw[dB];omega
      have hmul:zh.toNat*s.w≤n*s.w:=gB _ (by omega)
      have:=VRel.tgt (c:=⟨c.μ,S1,c.σ,c.fb⟩) (l:=l.take zh.toNat) hn hy he' (p:=o) (by rw[hlen];omega) (by
       rw[hlen,lI];have h9:=hf.take (zh.toNat*s.w);rw[gV,gQ hmul]at h9
       exact h9)
      rw[hlen]at this;exact this
    |_=>rw[hl']at hl;cases hl
   ·cases h
 ·cases h
theorem bV5 (hR:fe c)(he:bz c e ea){es bytes:Nat}{s x:Operand}(hd: ∀q,ua (ev e s)=some q→q∈d)(h:aZ2 c.S es bytes (ev e s) (ev e x) k=some y)(hap:bB5 c.S es bytes (ev e s) (ev e x) k=some y→ck T (.append es bytes s x) ea c.σ (jd c d k y)):ck T (.append es bytes s x) ea c.σ (jd c d k y):=by
 unfold aZ2 at h;split at h
 ·rename_i s' l hs;refine cz7 hR he hs h fun m hmo=> ?_
  obtain⟨n,all,h1,h2,h3,h4,h5⟩:=tc hR hmo (cm he x);have h2n:=h2 n (bD _);rw[dD (by omega)]at h2n;refine⟨n,all,fun a sl' sc hs=> ?_,h3,h4,h5⟩;simp only[AOp.run,hs,h1,h2n]
 ·exact hap h
theorem ci0 (hR:fe c)(he:bz c e ea){es bytes:Nat}{s x:Operand}(hd: ∀q,ua (ev e s)=some q→q∈d)(h:bB5 c.S es bytes (ev e s) (ev e x) k=some y):ck T (.append es bytes s x) ea c.σ (jd c d k y):=by
 refine aZ1 hR he hd h fun m hmo=> ?_
 obtain⟨n,all,h1,h2,h3,h4,h5⟩:=tc hR hmo (cm he x);have h2n:=h2 n (bD _);rw[dD (by omega)]at h2n;refine⟨n,all,fun a sl' sc hs=> ?_,h3,h4,h5⟩;simp only[AOp.run,hs,h1,h2n]
theorem bV6 (hR:fe c)(he:bz c e ea){es bytes:Nat}{z:List Value}{s x:Operand}(hd: ∀q,ua (ev e s)=some q→q∈d)(h:aZ3 c.S es bytes z (ev e s) (ev e x) k=some y):ck T (.appendZ es bytes z s x) ea c.σ (jd c d k y):=by
 have hx:=cm he x;unfold aZ3 at h;split at h
 ·rename_i kd l hl;rw[hl]at hx;obtain⟨hg,h⟩:=ca h;unfold mJ at hg;rw[bB,bB]at hg;have g1:=of_decide_eq_true hg.1;have g2:=of_decide_eq_true hg.2.1;have g3:=of_decide_eq_true hg.2.2;refine aZ1 hR he hd h fun m hmo=> ?_
  unfold bT6 at hmo;split at hmo
  ·rename_i sh hs;cases hb:aB es sh.w with
   |false=>rw[hb]at hmo;cases hmo
   |true=>
    rw[hb]at hmo;simp only[zC,Option.some.injEq]at hmo;subst hmo;have he:=aD hb;subst he;have hz:=yY (c:=c) hs;have hzl:z.length=sh.w:=by rw[←hz.length,et]
    refine⟨l.toNat,fd z l.toNat,fun a sl' sc hs'=> ?_,by rw[vO,hzl], ?_,fun s' l' h'=> ?_⟩
    ·simp only[AOp.run,hs',hx.int_inv];rw[zE ⟨g1,g2,g3⟩]
    ·show F2 (VRel c) (gb sh (gD l.toNat (sK sh))) (fd z l.toNat);rw[qJ];generalize l.toNat=n;induction n with
     |zero=>exact .nil
     |succ n ih=>
      simp only[fd,gS,gU]at ih⊢;exact hz.append ih
    ·injection h' with h1 h2
     subst h1;have h2:=eq_of_heq h2;rw[←h2,List.length_replicate];exact⟨rfl,rfl⟩
  ·cases hmo
 ·cases h
theorem cn9 {S:bu}{q:Nat}:lN S q (bn S q)=S:=by
 induction S generalizing q with
 |nil=>rfl
 |cons a r ih=>
  cases q with
  |zero=>rfl
  |succ q=>simp only[lN,bn,ih]
theorem cy8 {σ:Hp}{b:Nat}{x:Ab.Blk}(h:σ.m b=some x):σ.set b (some x)=σ:=by
 have:(fun i=>if i=b then some x else σ.m i)=σ.m:=by
  funext i
  by_cases hi:i=b
  ·rw[zE hi,hi,h]
  ·rw[zF hi]
 show Hp.mk _ _=_;rw[this]
theorem cr5 {es n m b o cp:Nat}{x z:Operand}{all:List Value}{x0:Ab.Blk}(hx:ea.ev x= .slice (some ⟨b,o,none⟩) n cp)(h1:ai4 (ea.ev z)=some m)(h2:c.σ.slice es (ea.ev z) (min m n)=some all)(hy:c.σ.m b=some x0)
  (hown:x0.own=true) (hlen:o+all.length≤x0.cells.length) (hone:all.all one=true):(AOp.copy es x z).run ea c.σ=some (.int .i64 (min m n:Nat),c.σ.set b (some ⟨lL x0.cells o all,true,x0.es⟩)):=by
 simp only[AOp.run,hx,h1,h2];by_cases hn:all=[]
 ·rw[zE hn];subst hn;have:(⟨lL x0.cells o [],true,x0.es⟩:Ab.Blk)=x0:=by cases x0;simp only[lL]at*;simp[hown]
  rw[this,cy8 hy]
 ·rw[zF hn,hy];simp only[as9 hown hlen hone]
theorem bo7 (hR:fe c){es q o n m:Nat}{dm:Nat×Nat}{x z:Operand}{blk:Blk}{all:List Value}(hdim:(bn c.S q).dim=some dm)(hes:dm.1=es)(hz:(bn c.S q).frozen=false)(hs:SlR c q o n dm (ea.ev x))
  (h1:ai4 (ea.ev z)=some m) (h2:c.σ.slice es (ea.ev z) (min m n)=some all) (h3:all.length=min m n*es) (h5:all.all one=true) (hd:q∈d) (hbd:blk.dim=some dm) (hbz:blk.frozen=false) (hnil:dm.2=0→blk=bn c.S q)
  (hrel: ∀cs,F2 (VRel c) (bn c.S q).vals cs→F2 (VRel c) blk.vals (lL cs (o*es) all)) (hk:k (.int .i64 (min m n:Nat)) (lN c.S q blk)=some y):ck T (.copy es x z) ea c.σ (jd c d k y):=by
 subst hes;rcases hs with⟨e1,e2,e3,e4,e5⟩|⟨b,cp,yb,e1,e2,e3,e4,e5,e6⟩
 ·subst e2;subst e3;have:all=[]:=by simpa using h3
  subst this;refine cw (v:= .int .i64 (min m 0:Nat)) (σ':=c.σ) ?_ (jd.same hR (.int _ _) ?_)
  ·simp only[AOp.run,e1,h1,h2];simp
  ·rw[hnil e5,cn9]at hk;exact hk
 ·obtain⟨y0,cs,rest,f1,f2,f3,f4,f5⟩:=hR.block hdim e2;rw[e5]at f1;injection f1 with f1
  subst f1;have hl:=f5.length;rw[ab9 hdim]at hl
  have hle:o*dm.1+min m n*dm.1≤dm.2:=by
   have:(o+min m n)*dm.1≤(o+n)*dm.1:=gB _ (by omega);rw[eD]at this;omega
  have hlen:o*dm.1+all.length≤yb.cells.length:=by rw[f4,cD,h3];omega
  have hw:Writes c q b blk ⟨lL yb.cells (o*dm.1) all,true,yb.es⟩:=⟨hz,e2,hbd.trans hdim.symm,hbz,yb,lL cs (o*dm.1) all,rest,dm,e5,hdim,f2,rfl,yX _ _ _,by show lL _ _ _=_;rw[f4,ap0 _ _ _ _ (by omega)],hrel cs f5⟩;exact cw (cr5 e1 h1 h2 e5 (f3 hz) hlen h5) ⟨_,_,rfl,hw.le hR,hw.rel hR,hw.calm hR hd, .int _ _,hk⟩
theorem aL7 {kd:IntKind}: ∀{cs r:List VV} {m ml:List Int} {j:Nat} {as ms:List Value},aG0 kd m j cs=some r→F2 (VRel c) cs as→F2 (VRel c) (ml.map (VV.int kd)) ms→ml=(m.drop j).take cs.length→
  F2 (VRel c) r (ms++as.drop ms.length)
 |[],r,m,ml,j,as,ms,h,hf,hm,hl=>by
  simp only[aG0]at h;injection h with h;subst h
  cases hf;simp at hl;subst hl;cases hm;exact .nil
 |v::cs,r,m,ml,j,as,ms,h,hf,hm,hl=>by
  cases v<;>simp only[aG0]at h<;>try(cases h;done)
  rename_i k' n;cases hk:decide (k'=kd)with
  |false=>rw[hk]at h;cases h
  |true=>
   rw[hk,zC]at h;have hk:=of_decide_eq_true hk;subst hk;obtain⟨r',h1,h2⟩:=bq h;injection h2 with h2
   subst h2;cases hf with
   |cons hf1 hf2=>
    rename_i a as;have ha:=hf1.int_inv;subst ha;by_cases hj:j<m.length
    ·have hd:m.drop j=m[j]::m.drop (j+1):=List.drop_eq_getElem_cons hj;rw[hd]at hl;simp only[iA,List.take_succ_cons]at hl;subst hl;cases hm with
     |cons hm1 hm2=>
      rename_i b ms;have hb:=hm1.int_inv;subst hb;have:=aL7 h1 hf2 hm2 rfl;rw[hZ,List.getElem?_eq_getElem hj];exact .cons (.int _ _) this
    ·have hd:m.drop j=[]:=hY (by omega);rw[hd]at hl;simp only[List.take_nil]at hl;subst hl;cases hm;have:=aL7 (ml:=[]) h1 hf2 .nil (by rw[hY (by omega)];simp);rw[hZ,List.getElem?_eq_none (by omega)];exact .cons (.int _ _) this
theorem br4 {kd:IntKind}{m:List Int}: ∀{cs r:List VV} {j:Nat},aG0 kd m j cs=some r→r.length=cs.length
 |[],r,j,h=>by injection h with h;subst h;rfl
 |v::cs,r,j,h=>by
  cases v<;>simp only[aG0]at h<;>try(cases h;done)
  rename_i k' n;cases hk:decide (k'=kd)with
  |false=>rw[hk]at h;cases h
  |true=>
   rw[hk,zC]at h;obtain⟨r',h1,h2⟩:=bq h;injection h2 with h2
   subst h2;simp[br4 h1]
theorem bN5 {kd:IntKind}{m:List Int}:gb (.int kd) m=m.map (VV.int kd):=by
 induction m with
 |nil=>rfl
 |cons a m ih=>rw[ir,ih];rfl
theorem aJ4 {α:Type}{l m:List α}{o n:Nat}(h:o+n≤l.length):aD6 l o n m=l.take o++(m.take (min m.length n)++l.drop (o+min m.length n)):=by
 unfold aD6;rw[Nat.min_comm n m.length]
 congr 2
 by_cases hh:n≤m.length
 ·rw[Nat.min_eq_right hh]
 ·rw[gQ (by omega),dD (by omega),dD (by omega)]
theorem cq6 {α:Type}{l m:List α}{o n:Nat}(h:o+n≤l.length):(aD6 l o n m).length=l.length:=by
 rw[aJ4 h];simp only[cD,dB,gO];omega
theorem bL3 (hR:fe c){es q o n:Nat}{x z:Operand}{s:Sh}{l l2:List (El s)}{mc:List VV}{m:Nat}{all:List Value}(hb:bn c.S q= .arr s false l)(hs:SlR c q o n (s.w,l.length*s.w) (ea.ev x))(he:es=s.w)
  (h1:ai4 (ea.ev z)=some m) (h2: ∀i,i≤m→c.σ.slice es (ea.ev z) i=some (all.take (i*es))) (h3:all.length=m*es) (h4:F2 (VRel c) (gb s l2) all) (hm:m=l2.length) (hd:q∈d)
  (hk:k (.int .i64 (min l2.length n:Nat)) (lN c.S q (.arr s false (aD6 l o n l2)))=some y):ck T (.copy es x z) ea c.σ (jd c d k y):=by
 subst he;have hdim:(bn c.S q).dim=some (s.w,l.length*s.w):=by rw[hb];rfl
 have hle:o+n≤l.length:=by
  rcases hs with⟨_,e2,e3,_,_⟩|⟨b,cp,yb,_,_,e3,_⟩
  ·omega
  ·exact iC e3 (nF s)
 have h2':=h2 (min m n) (gX _ _)
 have hal:(all.take (min m n*s.w)).length=min m n*s.w:=by
  rw[dB,h3,gQ];exact gB _ (gX _ _)
 have h4':=h4.take (min m n*s.w);rw[←lI]at h4';rw[←hm]at hk;refine bo7 hR hdim rfl (by rw[hb];rfl) hs h1 h2' hal (lG h4' (rn _ _)) hd ?_ rfl (fun h0=> ?_) (fun cs hcs=> ?_) hk
 ·simp only[Blk.dim,cq6 hle]
 ·have:l.length=0:=by
   rcases gW l.length with h|h
   ·exact h
   ·have:=hC h (nF s);simp only at h0;omega
  rw[hb,aJ4 hle];rw[List.length_eq_zero_iff]at this;subst this;have hn:n=0:=by simp at hle;omega
  subst hn;simp
 ·rw[hb]at hcs;simp only[Blk.vals]at hcs⊢;have hcl:=hcs.length;rw[i3]at hcl;have hle2:o*s.w+min m n*s.w≤l.length*s.w:=by rw[←eD];exact gB _ (by omega)
  rw[bG2 (by rw[hal];omega),aJ4 hle,vS,vS,lI,wP,hal,←hm,eD];exact(hcs.take _).append (h4'.append (hcs.drop _))
theorem cB4 (hR:fe c)(he:bz c e ea){es:Nat}{x z:Operand}(hd: ∀q,ua (ev e x)=some q→q∈d)(h:cr4 c.S es (ev e x) (ev e z) k=some y):ck T (.copy es x z) ea c.σ (jd c d k y):=by
 have hx:=cm he x;have hz:=cm he z;unfold cr4 at h
 have go: ∀(q o n:Nat) (dm:Nat×Nat),(bn c.S q).dim=some dm→q∈d→SlR c q o n dm (ea.ev x)→
   (match bn c.S q,jl c.S es (ev e z)with
   | .arr s false l,some (.lst s' l')=>(md (.list s') (.list s) l').bind fun l2=>gd (aB es s.w) (k (.int .i64 (min l2.length n:Nat)) (lN c.S q (.arr s false (aD6 l o n l2))))
   | .arr s false l,some (.cells cs)=>(ue .u64 cs).bind fun m=>(md (.list (.int .u64)) (.list s) m).bind fun l2=>gd (aB es s.w) (k (.int .i64 (min l2.length n:Nat)) (lN c.S q (.arr s false (aD6 l o n l2))))
   | .cells 1 false l,some (.lst (.int kd) m)=>gd (aB es 1&&gN (o+n) l.length) (match aG0 kd m 0 ((l.drop o).take n)with
    |some c'=>k (.int .i64 (min m.length n:Nat)) (lN c.S q (.cells 1 false (l.take o++c'++l.drop (o+n))))
    |none=>none)
   |_,_=>none)=some y→ck T (.copy es x z) ea c.σ (jd c d k y):=by
  intro q o n dm hdim hqd hs h;split at h
  ·rename_i s l s' l' hb hm;obtain⟨m,all,h1,h2,h3,h4,h5⟩:=tc hR hm hz;obtain⟨l2,k1,k2⟩:=bq h;obtain⟨ee,k3⟩:=mE k1;cases ee;subst k3;obtain⟨k4,k5⟩:=ca k2;rw[hb]at hdim;injection hdim with hdim
   subst hdim;exact bL3 (mc:=[]) hR hb hs (aD k4) h1 h2 h3 h4 (h5 _ _ rfl).2 hqd k5
  ·rename_i s l cs hb hm;obtain⟨m,all,h1,h2,h3,h4,h5⟩:=tc hR hm hz;obtain⟨ml,k0,k1⟩:=bq h;obtain⟨l2,k1,k2⟩:=bq k1;obtain⟨ee,k3⟩:=mE k1;cases ee;subst k3;obtain⟨k4,k5⟩:=ca k2;rw[hb]at hdim;injection hdim with hdim
   subst hdim;have hcs:=aK9 k0;simp only[More.cellsOf]at h4;rw[hcs,←bN5]at h4;have he1:=aD k4
   have hml:m=l2.length:=by
    have:=h4.length;rw[i3,h3,he1]at this;exact(fD (nF _) this).symm
   exact bL3 (mc:=[]) hR hb hs he1 h1 h2 h3 h4 hml hqd k5
  ·rename_i l kd ml hb hm;obtain⟨m,all,h1,h2,h3,h4,h5⟩:=tc hR hm hz;obtain⟨k1,k2⟩:=ca h;rw[bB]at k1;have he1:=aD k1.1;have hle:=fB k1.2;subst he1;split at k2
   ·rename_i c' hov;have hml:=(h5 _ _ rfl).2;rw[hb]at hdim;injection hdim with hdim
    subst hdim;have h2':=h2 (min m n) (gX _ _);have hal:(all.take (min m n*1)).length=min m n*1:=by rw[dB,h3,gQ];omega
    simp only[More.cellsOf]at h4;have h4':F2 (VRel c) (gb (.int kd) (ml.take (min m n))) (all.take (min m n*1)):=by rw[lI];exact h4.take (min m n*1)
    have hc':=br4 hov;have hlen:((l.drop o).take n).length=n:=by rw[dB,gO];omega
    rw[←hml]at k2;refine bo7 hR (by rw[hb];rfl) rfl (by rw[hb];rfl) hs h1 h2' hal (lG h4' (rn _ _)) hqd ?_ rfl (fun h0=> ?_) (fun cs hcs=> ?_) k2
    ·simp only[Blk.dim,cD,dB,gO,hc']
     congr 2
     omega
    ·simp only at h0;have:l=[]:=List.length_eq_zero_iff.1 h0;subst this;rw[hb];simp at hle;have hn:n=0:=by omega
     subst hn;simp[aG0]at hov;subst hov;simp
    ·rw[hb]at hcs;simp only[Blk.vals]at hcs⊢;have hcl:=hcs.length;rw[bG2 (by rw[hal];omega),gT,gZ];refine(hcs.take _).append ?_;have h6:=aL7 (ml:=ml.take (min m n)) hov ((hcs.drop o).take n) (by rw[←bN5];exact h4') (by rw[hlen,gR,hml,Nat.min_comm,←gV,dD (l:=ml) (bD _)])
     have h7:cs.drop (o+(all.take (min m n*1)).length)=((cs.drop o).take n).drop (all.take (min m n*1)).length++cs.drop (o+n):=by
      rw[hal,gZ,List.drop_take,List.drop_drop]
      conv=>lhs;rw[←List.take_append_drop (n-min m n) (cs.drop (o+min m n))]
      rw[List.drop_drop]
      congr 2
      omega
     rw[h7,←gT];exact h6.append (hcs.drop _)
   ·cases k2
  ·cases h
 generalize ev e x=xv at*;cases xv<;>try(cases h;done)
 case full q=>
  simp only at h;cases hx with
  |full hk _ hdd=>
   split at h
   ·rename_i n hn;cases hb:bn c.S q with
    |dead=>simp only[lenOf,hb]at hn;cases hn
    |arr s z' l=>
     simp only[lenOf,hb]at hn;injection hn with hn
     have hdim:(bn c.S q).dim=some (s.w,l.length*s.w):=by rw[hb];rfl
     obtain⟨n',h1,h2⟩:=hdd _ hdim;have:n'=n:=by rw[←hn];exact fD (nF s) h1
     subst this;exact go q 0 n' _ hdim (hd q rfl) h2 h
    |cells es' z' l=>
     simp only[lenOf,hb]at hn;injection hn with hn
     have hdim:(bn c.S q).dim=some (es',l.length):=by rw[hb];rfl
     obtain⟨n',h1,h2⟩:=hdd _ hdim;have h3:=(hR.blk q _ hdim).1
     have:n'=n:=by
      simp only at h1 h3;rw[←hn,←h1,gY _ h3]
     subst this;exact go q 0 n' _ hdim (hd q rfl) h2 h
   ·cases h
 case part q o n=>
  simp only at h;cases hx with
  |part hk _ hdd=>
   cases hdm:(bn c.S q).dim with
   |none=>
    have:bn c.S q= .dead:=by
     generalize bn c.S q=blk at hdm;cases blk<;>first|rfl|(cases hdm;done)
    rw[this]at h;cases h
   |some dm=>exact go q o n dm hdm (hd q rfl) (hdd dm hdm) h
end
end
section
open List renaming append_assoc → aD, foldl_cons → bD, getD_eq_getElem?_getD → cB, getElem?_map → cD, take_of_length_le → dB
open Nat renaming le_refl → aB, le_of_ble_eq_true → dD
open Option renaming map_some → bB
section
variable {β:Type} {T:Ab.ia} {c:Ctx} {e:ej} {ea:dh} {d:List Nat} {k:VV→bu→Option β} {y:β}
theorem cj0 (s:ByteArray)(j:Nat):((dw s).getD j 0).toNat=(s.get! j).toNat:=by
 have e1:s.get! j=s.data[j]!:=rfl;rw[e1];unfold dw;rcases Nat.lt_or_ge j s.data.size with h'|h'
 ·rw[getElem!_pos s.data j h',cB,cD,Array.getElem?_toList,Array.getElem?_eq_getElem h'];rfl
 ·rw[getElem!_neg s.data j (by omega),cB,cD,Array.getElem?_toList,Array.getElem?_eq_none h'];rfl
theorem wI (s:ByteArray):(dw s).length=s.size:=by
 simp[dw]
theorem bo9 (s:ByteArray)(i:Nat):Utf8.decode s i=bs2 (dw s) i:=by
 unfold Utf8.decode bs2;simp only[cj0,wI]
theorem cx3 (hR:fe c)(he:bz c e ea){x:Operand}{l:List Int}(hx:ev e x= .str l)(h:k (.it c.S.length l) (c.S++[.cells 1 false [.int .i64 0]])=some y):ck T (.range x) ea c.σ (jd c d k y):=by
 have hv:=cm he x;rw[hx]at hv;obtain⟨s,hs,hl⟩:=hv.str_inv;refine cw (v:= .iface c.σ.n (.string s)) (σ':=c.σ.add ⟨[.int .i64 0],true,1⟩) (by simp only[AOp.run,hs]) ?_;refine jd.new (kill:=none) hR (bJ9 hR (blk:= .cells 1 false [.int .i64 0]) (x:=⟨[.int .i64 0],true,1⟩) (d:=(1,1)) rfl (aB _) rfl rfl (.cons (.int _ _) .nil)) (fun _ h=>by cases h) ?_ h;refine .it (by simp[pt]) rfl hl fun d' _=>⟨c.σ.n, ?_,rfl⟩
 simp[sU]
theorem cE7 (hR:fe c)(h:k (.bld c.S.length) (c.S++[.cells 1 false [.str []]])=some y):ck T .newB ea c.σ (jd c d k y):=by
 refine cw (v:= .iface c.σ.n .nilFunc) (σ':=c.σ.add ⟨[.string ByteArray.empty],true,1⟩) (by simp only[AOp.run]) ?_;refine jd.new (kill:=none) hR (bJ9 hR (blk:= .cells 1 false [.str []]) (x:=⟨[.string ByteArray.empty],true,1⟩) (d:=(1,1)) rfl (aB _) rfl rfl (.cons (.str rfl) .nil)) (fun _ h=>by cases h) ?_ h;refine .bld (by simp[pt]) rfl fun d' _=>⟨c.σ.n, ?_,rfl⟩
 simp[sU]
theorem VRel.it_inv {q:Nat}{l:List Int}{a:Value}(h:VRel c (.it q l) a): ∃s,dw s=l∧∀d,(bn c.S q).dim=some d→∃b,c.μ q=some b∧a= .iface b (.string s):=by
 cases h with
 |it _ _ hs hd=>exact⟨_,hs,hd⟩
theorem cE9 (hR:fe c)(he:bz c e ea){x:Operand}(hd: ∀q,ua (ev e x)=some q→q∈d)(h:cv3 c.S (ev e x) k=some y):ck T (.next x) ea c.σ (jd c d k y):=by
 have hv:=cm he x;generalize ev e x=v at*;unfold cv3 at h;split at h
 ·rename_i q l;split at h
  ·rename_i es p r hb;obtain⟨h1,h2⟩:=ca h;rw[Bool.and_eq_true]at h1;have hp:=of_decide_eq_true h1.1;have hes:=dD h1.2;generalize hax:ea.ev x=a at hv;obtain⟨s,hs,hdim⟩:=hv.it_inv
   ·skip
    obtain⟨b,hm,rfl⟩:=hdim (es,(VV.int .i64 p::r).length) (by rw[hb];rfl);obtain⟨y0,cs,rest,q2,q3,q4,q5,q6⟩:=hR.block (k:=q) (d:=(es,(VV.int .i64 p::r).length)) (by rw[hb];rfl) hm;rw[hb]at q4 q6;simp only[Blk.vals]at q6;cases q6 with
    |cons r1 r2=>
     rename_i c0 cr;cases r1;have hcells:y0.cells= .int .i64 p::(cr++rest):=q5;have hsz:s.size=l.length:=by rw[←hs,wI]
     by_cases hlt:p<l.length
     ·rw[zB hlt,zC]at h2
      have hw:Writes c q b (.cells es false (.int .i64 (bR4 l p)::r)) ⟨.int .i64 (bR4 l p)::(cr++rest),true,y0.es⟩:=by
       refine⟨by rw[hb];rfl,hm,by rw[hb];rfl,rfl,y0, .int .i64 (bR4 l p)::cr,rest,(es,_),q2,by rw[hb];rfl,q3,rfl,by rw[hcells];rfl,rfl, .cons (.int _ _) r2⟩
      refine cw (v:= .tuple #[.bool true, .int .i64 p, .int .i32 (cy0 l p)]) (σ':=c.σ.set b (some ⟨.int .i64 (bR4 l p)::(cr++rest),true,y0.es⟩)) ?_ ⟨.tup [.bool true, .int .i64 p, .int .i32 (cy0 l p)],_,rfl,hw.le hR,hw.rel hR,hw.calm hR (hd q rfl), .tup (.cons (.bool _) (.cons (.int _ _) (.cons (.int _ _) .nil))),h2⟩;simp only[AOp.run,hax,q2];rw[zE (q4 rfl),hcells];simp only[];rw[zE hp,zE (by omega),bo9,hs];rfl
     ·rw[zA hlt,zD]at h2;refine cw (v:= .tuple #[.bool false]) (σ':=c.σ) ?_ (jd.same hR (.tup (.cons (.bool _) .nil)) h2);simp only[AOp.run,hax,q2];rw[zE (q4 rfl),hcells];simp only[];rw[zE hp,zF (by omega)]
  ·cases h
 ·cases h
theorem cC1 (hR:fe c)(he:bz c e ea){x:Operand}{n:Int}(hx:aE9 (ev e x)=some n)(h:k (.str (bi0 n)) c.S=some y):ck T (.encR x) ea c.σ (jd c d k y):=by
 have hv:=cm he x
 have key:cs9 (ea.ev x)=some n:=by
  generalize ea.ev x=a at hv;generalize ev e x=v at*;cases hv<;>simp only[aE9]at hx<;>first|(cases hx;done)|exact hx
 refine cw (v:= .string (Utf8.encode n)) (σ':=c.σ) ?_ (jd.same hR (.str rfl) h);simp only[AOp.run,key,bB]
theorem bM6 : ∀{cs:List VV} {as:List Value} {l:List Int},ue .u8 cs=some l→F2 (VRel c) cs as→yo as=some l
 |[],_,l,h,hf=>by
  cases hf;injection h with h
  subst h;rfl
 |v::cs,_,l,h,hf=>by
  cases hf with
  |cons h1 h2=>
   cases v with
   |int k' n=>
    unfold ue at h;by_cases hk:k'= .u8
    ·subst hk;rw[zB rfl,zC]at h;cases hr:ue .u8 cs with
     |none=>rw[hr]at h;cases h
     |some r=>
      rw[hr]at h;injection h with h
      subst h;cases h1;unfold yo;rw[bM6 hr h2];rfl
    ·rw[zA hk]at h;cases h
   |_=>cases h
theorem bb9 : ∀{l:List Int} {as:List Value},F2 (VRel c) (gb (.int .u8) l) as→yo as=some l
 |[],_,hf=>by cases hf;rfl
 |n::l,_,hf=>by
  cases hf with
  |cons h1 h2=>
   cases h1;unfold yo;rw[bb9 (l:=l) h2];rfl
theorem cT3 (l:List Int):dw (cb7 l)=l.map ba5:=by
 have key: ∀(l:List Int) (s:ByteArray),dw (l.foldl (fun r n=>r.push (UInt8.ofNat n.toNat)) s)=dw s++l.map ba5:=by
  intro l;induction l with
  |nil=>intro s;simp
  |cons n l ih=>
   intro s;rw[bD,ih,List.map_cons]
   have:dw (s.push (UInt8.ofNat n.toNat))=dw s++[ba5 n]:=by
    simp[dw,ba5,ByteArray.push]
   rw[this,aD];rfl
 have:=key l ByteArray.empty;simpa[cb7,dw]using this
theorem cz3 (hR:fe c)(he:bz c e ea){x:Operand}(h:cb8 c.S (ev e x) k=some y):ck T (.strOf x) ea c.σ (jd c d k y):=by
 have hv:=cm he x
 have key: ∀(m:More) (l:List Int),(∀t,ev e x≠ .str t)→jl c.S 1 (ev e x)=some m→(∀as,F2 (VRel c) m.cellsOf as→yo as=some l)→k (.str (l.map ba5)) c.S=some y→ck T (.strOf x) ea c.σ (jd c d k y):=by
  intro m l hns hm hb hk;obtain⟨n,all,h1,h2,h3,h4,_⟩:=tc hR hm hv;have h5:=h2 n (aB _);rw[Nat.mul_one,dB (by omega)]at h5;have h6:=hb all h4
  obtain⟨p,cp,hp⟩: ∃p cp,ea.ev x= .slice p n cp:=by
   generalize ea.ev x=a at*;cases a<;>simp[ai4]at h1
   ·generalize ev e x=v at*
    have hdm: ∀q,(jl c.S 1 (.full q)=some m∨∃o n,jl c.S 1 (.part q o n)=some m)→∃d,(bn c.S q).dim=some d:=by
     intro q hq;cases hg:bn c.S q with
     |dead=>rcases hq with hq|⟨_,_,hq⟩<;>simp[jl,hg]at hq
     |cells es z l=>exact⟨_,rfl⟩
     |arr s z l=>exact⟨_,rfl⟩
    cases hv with
    |str _=>exact(hns _ rfl).elim
    |undef=>simp[jl]at hm
    |ptr _ _ _=>simp[jl]at hm
    |it _ _ _ _=>simp[jl]at hm
    |bld _ _ _=>simp[jl]at hm
    |pix _ _ _ _=>simp[jl]at hm
    |pel _ _ _=>simp[jl]at hm
    |tgtn _=>simp[jl]at hm
    |full _ _ hd=>
     obtain⟨d,hd'⟩:=hdm _ (.inl hm);obtain⟨_,_,hs⟩:=hd d hd';rcases hs with⟨e,_⟩|⟨_,_,_,e,_⟩<;>cases e
    |part _ _ hd=>
     obtain⟨d,hd'⟩:=hdm _ (.inr ⟨_,_,hm⟩);rcases hd d hd' with⟨e,_⟩|⟨_,_,_,e,_⟩<;>cases e
   ·subst h1;exact⟨_,_,rfl⟩
  refine cw (v:= .string (cb7 l)) (σ':=c.σ) ?_ (jd.same hR (.str (cT3 l)) hk);rw[hp]at h5;simp only[AOp.run,hp,h5,h6,bB]
 unfold cb8 at h;split at h
 ·cases h
 ·rename_i hns;split at h
  ·rename_i s l hm;by_cases hs:s= .int .u8
   ·subst hs;rw[lj]at h;exact key _ l (fun t ht=>hns t ht) hm (fun as ha=>bb9 ha) h
   ·unfold md at h;rw[dif_neg (fun e=>hs (by injection e))]at h;cases h
  ·rename_i cs hm;cases hi:ue .u8 cs with
   |none=>rw[hi]at h;cases h
   |some l=>
    rw[hi]at h;exact key _ l (fun t ht=>hns t ht) hm (fun as ha=>bM6 hi ha) h
  ·cases h
theorem bq0 : ∀{cs:List VV} {as:List Value} {l:List Int},ue .i32 cs=some l→F2 (VRel c) cs as→yu as=some l
 |[],_,l,h,hf=>by
  cases hf;injection h with h
  subst h;rfl
 |v::cs,_,l,h,hf=>by
  cases hf with
  |cons h1 h2=>
   cases v with
   |int k' n=>
    unfold ue at h;by_cases hk:k'= .i32
    ·subst hk;rw[zB rfl,zC]at h;cases hr:ue .i32 cs with
     |none=>rw[hr]at h;cases h
     |some r=>
      rw[hr]at h;injection h with h
      subst h;cases h1;unfold yu;rw[bq0 hr h2];rfl
    ·rw[zA hk]at h;cases h
   |_=>cases h
theorem bc0 : ∀{l:List Int} {as:List Value},F2 (VRel c) (gb (.int .i32) l) as→yu as=some l
 |[],_,hf=>by cases hf;rfl
 |n::l,_,hf=>by
  cases hf with
  |cons h1 h2=>
   cases h1;unfold yu;rw[bc0 (l:=l) h2];rfl
theorem cT4 (l:List Int):dw (cb9 l)=l.flatMap bi0:=by
 have key: ∀(l:List Int) (s:ByteArray),dw (l.foldl (fun r n=>r++Utf8.encode n) s)=dw s++l.flatMap bi0:=by
  intro l;induction l with
  |nil=>intro s;simp
  |cons n l ih=>
   intro s;rw[bD,ih,List.flatMap_cons,ba6,aD];rfl
 have:=key l ByteArray.empty;simpa[cb9,dw]using this
theorem cI8 (hR:fe c)(he:bz c e ea){x:Operand}(h:cz4 c.S (ev e x) k=some y):ck T (.strOfR x) ea c.σ (jd c d k y):=by
 have hv:=cm he x
 have key: ∀(m:More) (l:List Int),(∀t,ev e x≠ .str t)→jl c.S 1 (ev e x)=some m→(∀as,F2 (VRel c) m.cellsOf as→yu as=some l)→k (.str (l.flatMap bi0)) c.S=some y→ck T (.strOfR x) ea c.σ (jd c d k y):=by
  intro m l hns hm hb hk;obtain⟨n,all,h1,h2,h3,h4,_⟩:=tc hR hm hv;have h5:=h2 n (aB _);rw[Nat.mul_one,dB (by omega)]at h5;have h6:=hb all h4
  obtain⟨p,cp,hp⟩: ∃p cp,ea.ev x= .slice p n cp:=by
   generalize ea.ev x=a at*;cases a<;>simp[ai4]at h1
   ·generalize ev e x=v at*
    have hdm: ∀q,(jl c.S 1 (.full q)=some m∨∃o n,jl c.S 1 (.part q o n)=some m)→∃d,(bn c.S q).dim=some d:=by
     intro q hq;cases hg:bn c.S q with
     |dead=>rcases hq with hq|⟨_,_,hq⟩<;>simp[jl,hg]at hq
     |cells es z l=>exact⟨_,rfl⟩
     |arr s z l=>exact⟨_,rfl⟩
    cases hv with
    |str _=>exact(hns _ rfl).elim
    |undef=>simp[jl]at hm
    |ptr _ _ _=>simp[jl]at hm
    |it _ _ _ _=>simp[jl]at hm
    |bld _ _ _=>simp[jl]at hm
    |pix _ _ _ _=>simp[jl]at hm
    |pel _ _ _=>simp[jl]at hm
    |tgtn _=>simp[jl]at hm
    |full _ _ hd=>
     obtain⟨d,hd'⟩:=hdm _ (.inl hm);obtain⟨_,_,hs⟩:=hd d hd';rcases hs with⟨e,_⟩|⟨_,_,_,e,_⟩<;>cases e
    |part _ _ hd=>
     obtain⟨d,hd'⟩:=hdm _ (.inr ⟨_,_,hm⟩);rcases hd d hd' with⟨e,_⟩|⟨_,_,_,e,_⟩<;>cases e
   ·subst h1;exact⟨_,_,rfl⟩
  refine cw (v:= .string (cb9 l)) (σ':=c.σ) ?_ (jd.same hR (.str (cT4 l)) hk);rw[hp]at h5;simp only[AOp.run,hp,h5,h6,bB]
 unfold cz4 at h;split at h
 ·cases h
 ·rename_i hns;split at h
  ·rename_i s l hm;by_cases hs:s= .int .i32
   ·subst hs;rw[lj]at h;exact key _ l (fun t ht=>hns t ht) hm (fun as ha=>bc0 ha) h
   ·unfold md at h;rw[dif_neg (fun e=>hs (by injection e))]at h;cases h
  ·rename_i cs hm;cases hi:ue .i32 cs with
   |none=>rw[hi]at h;cases h
   |some l=>
    rw[hi]at h;exact key _ l (fun t ht=>hns t ht) hm (fun as ha=>bq0 hi ha) h
  ·cases h
theorem bR5 (s:ByteArray): ∀(b i:Nat) (acc:Array Value),(Conv.runesFrom s b i acc).toList=acc.toList++(bg4 b (dw s) i).map (Value.int .i32)
 |0,i,acc=>by simp[Conv.runesFrom,bg4]
 |b+1,i,acc=>by
  unfold Conv.runesFrom bg4;rw[wI];by_cases h:i<s.size
  ·rw[zE h,zE h,bR5 s b];simp only[Array.toList_push,aD,List.map_cons,bo9];rfl
  ·rw[zF h,zF h];simp
theorem cn5 (s:ByteArray):me s=(az8 (dw s)).map (Value.int .i32):=by
 unfold me az8;rw[bR5,wI];rfl
theorem bp6 (k:IntKind): ∀l:List Int,F2 (VRel c) (gb (.int k) l) (l.map (Value.int k))
 |[]=> .nil
 |n::l=> .cons (.int k n) (bp6 k l)
theorem cy1 (hR:fe c)(he:bz c e ea){x:Operand}(h:ca8 c.S (ev e x) k=some y):ck T (.runesOf x) ea c.σ (jd c d k y):=by
 have hv:=cm he x;unfold ca8 at h;split at h
 ·rename_i l hx;obtain⟨hg,hk⟩:=ca h;have hg:=dD hg;rw[hx]at hv;obtain⟨s,hs,hl⟩:=hv.str_inv;have hsz:s.size=l.length:=by rw[←hl,wI]
  have hra:=cn5 s;rw[hl]at hra;refine cw (v:= .slice (some ⟨c.σ.n,0,none⟩) (me s).length (me s).length) (σ':=c.σ.add ⟨me s,true,1⟩) ?_ ?_
  ·simp only[AOp.run,hs];rw[zE (by omega)]
  ·have hlen:(me s).length=(az8 l).length:=by rw[hra,List.length_map]
   have hmv:Moves c none (some c.σ.n) (.arr (.int .i32) false (az8 l)) (c.σ.add ⟨me s,true,1⟩):=by
    refine⟨(fun b h _ hb=>by injection h with h;subst h;exact Nat.lt_irrefl _ (hR.fbl _ hb)),(fun _ h=>by cases h),fun q x hx=> ?_,Nat.le_succ _,fun i x hx _=> ?_,(1,(az8 l).length*1),rfl,aB _, .inr ⟨c.σ.n,⟨me s,true,1⟩,me s,[],rfl,zE rfl,rfl,fun _=>rfl,(List.append_nil _).symm,by rw[hra];exact bp6 _ _, .inl fun w hw=> ?_⟩⟩
    ·simp only[Hp.add]at hx⊢;split at hx
     ·omega
     ·have:=hR.ok q x hx;omega
    ·have:=hR.ok i x hx;simp only[Hp.add];rw[zF (by omega)];exact hx
    ·have:=hR.ok _ _ hw;omega
   refine jd.new (kill:=none) hR hmv (fun _ h=>by cases h) (ug (dm:=(1,(az8 l).length*1)) (n:=(me s).length) (m:=(me s).length) (yb:=⟨me s,true,1⟩) rfl (by simp only;omega) (aB _) (zE rfl) ?_) hk;simp
 ·cases h
end
end
end Go.V
