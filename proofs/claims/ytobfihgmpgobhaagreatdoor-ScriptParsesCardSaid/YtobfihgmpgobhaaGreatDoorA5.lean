/- A part of the proofs of this claim: what functions of the program answer on an abstract machine, and plain laws. No condition. -/
import Derived.Test.YtobfihgmpgobhaaGreatDoorA4
set_option linter.unusedVariables false
set_option linter.unusedSimpArgs false
set_option linter.unusedSectionVars false
namespace Go.V
open Go.Ab
section
open Bool renaming and_eq_true → aE
open List renaming append_assoc → aB, singleton_append → aD, mem_cons_of_mem → aF, getElem?_eq_none → aH, length_take → aI, take_of_length_le → aJ
open Nat renaming beq → aA, eq_of_beq_eq_true → aC, lt_or_ge → aG
structure Still (c ct:Ctx):Prop where
 σ:ct.σ=c.σ
 nm: ∀b y,c.σ.m b=some y→¬c.mut b→¬ct.mut b
section
variable {c ct:Ctx}
theorem jm (h:Still c ct): ∀(s:Sh) (x:El s) (as:List Value),F2 (VRel c) (ce s x) as→F2 (VRel ct) (ce s x) as
 | .int k,n,as,hf=>by
  cases hf with
  |cons h1 h2=>cases h2;cases h1;exact .cons (.int _ _) .nil
 | .bool,b,as,hf=>by
  cases hf with
  |cons h1 h2=>cases h2;cases h1;exact .cons (.bool _) .nil
 | .str,l,as,hf=>by
  cases hf with
  |cons h1 h2=>cases h2;cases h1;exact .cons (.str (by assumption)) .nil
 | .list s,l,as,hf=>by
  cases hf with
  |cons h1 h2=>
   cases h2;refine .cons ?_ .nil;cases h1 with
   |lstn hq=>exact .lstn hq
   |lst hn hy he h3 h4 h5 h6=>
    refine .lst (h.nm _ _ hy hn) (by rw[h.σ];exact hy) he h3 h4 h5 ?_;clear hy he h4 h5 hn;subst h3;revert h6;rename_i b p cp y;generalize (y.cells.drop _).take _=as;clear y cp p b;intro h6;induction l generalizing as with
    |nil=>cases h6;exact .nil
    |cons x l ih=>
     rw[cL]at h6⊢;obtain⟨m1,m2,rfl,h7,h8⟩:=F2.app_left h6;exact(jm h s x m1 h7).append (ih _ h8)
 | .pair a b,x,as,hf=>by
  simp only[ce]at hf⊢;obtain⟨m1,m2,rfl,h7,h8⟩:=F2.app_left hf;exact(jm h a x.1 m1 h7).append (jm h b x.2 m2 h8)
theorem AA (h:Still c ct){s:Sh}{l:List (El s)}: ∀{as:List Value},F2 (VRel c) (cv s l) as→F2 (VRel ct) (cv s l) as:=by
 induction l with
 |nil=>intro as h6;cases h6;exact .nil
 |cons x l ih=>
  intro as h6;rw[cL]at h6⊢;obtain⟨m1,m2,rfl,h7,h8⟩:=F2.app_left h6;exact(jm h s x m1 h7).append (ih h8)
theorem ph.still (h:Still c ct){s:Sh}{l:List (El s)}{a:Value}(hl:ph c s l a):ph ct s l a:=by
 rcases hl with h1|⟨b,p,cp,y,h1,h2,h3,h4,h5,h6⟩
 ·exact .inl h1
 ·exact .inr ⟨b,p,cp,y,h1,by rw[h.σ];exact h2,h3,h4,h5,AA h h6⟩
structure Sub (st st':DSt):Prop where
 m: ∃t,st'.m=st.m++t
 lent: ∀k∈st.lent,k∈st'.lent
theorem Sub.refl (st:DSt):Sub st st:=⟨⟨[],by simp⟩,fun _ h=>h⟩
theorem Sub.trans {a b d:DSt}(h:Sub a b)(k:Sub b d):Sub a d:=by
 obtain⟨t,h1⟩:=h.m;obtain⟨u,h2⟩:=k.m;exact⟨⟨t++u,by rw[h2,h1,aB]⟩,fun i hi=>k.lent i (h.lent i hi)⟩
def ud (N:Nat)(m:List (Option Src))(j:Nat)(x:Option Src):Prop:=(j<N∧x=some ⟨j,none⟩)∨(N≤j∧nth m (j-N)=some x)
theorem yz {α:Type}{l t:List α}{i:Nat}{x:α}(h:nth l i=some x):nth (l++t) i=some x:=by
 rw[nJ]at h⊢
 have hi:i<l.length:=by
  rcases aG i l.length with h1|h1
  ·exact h1
  ·rw[aH h1]at h;cases h
 rw[List.getElem?_append_left hi];exact h
theorem ud.sub {N:Nat}{st st':DSt}(hs:Sub st st'){j:Nat}{x:Option Src}(h:ud N st.m j x):ud N st'.m j x:=by
 rcases h with h|⟨h1,h2⟩
 ·exact .inl h
 ·obtain⟨t,h3⟩:=hs.m;exact .inr ⟨h1,by rw[h3];exact yz h2⟩
theorem qk {N:Nat}{st st':DSt}{j:Nat}{x:Option Src}(h:st.link N j x=some st'):ud N st'.m j x∧st'.ls=st.ls∧st'.lent=st.lent∧Sub st st':=by
 unfold DSt.link at h;cases hb:Nat.blt j N with
 |true=>
  rw[hb,zC]at h;split at h
  ·rename_i k;cases hk:aA k j with
   |false=>rw[hk]at h;cases h
   |true=>
    rw[hk]at h;injection h with h
    subst h;have:=aC hk;subst this;exact⟨.inl ⟨Nat.le_of_ble_eq_true hb,rfl⟩,rfl,rfl,Sub.refl _⟩
  ·cases h
 |false=>
  rw[hb,zD]at h
  have hN:N≤j:=by
   rcases aG j N with h1|h1
   ·rw[show Nat.blt j N=true from Nat.ble_eq_true_of_le h1]at hb;cases hb
   ·exact h1
  split at h
  ·rename_i k hn;split at h
   ·rename_i k';cases hk:aA k k' with
    |false=>rw[hk]at h;cases h
    |true=>
     rw[hk]at h;injection h with h
     subst h;have:=aC hk;subst this;exact⟨.inr ⟨hN,hn⟩,rfl,rfl,Sub.refl _⟩
   ·cases h
  ·cases h
  ·rename_i hn;cases hk:aA (j-N) st.m.length with
   |false=>rw[hk]at h;cases h
   |true=>
    rw[hk]at h;injection h with h
    subst h;have:=aC hk;refine⟨.inr ⟨hN, ?_⟩,rfl,rfl,⟨⟨[x],rfl⟩,fun _ h=>h⟩⟩;rw[nJ,this];simp
def Lk (c ct:Ctx)(x:Option Src)(k':Nat):Prop:=k'<ct.S.length∧∀d',(aa ct.S k').dim=some d'→match x with
 |none=>d'.2=0∧ct.μ k'=none
 |some ⟨k,cut⟩=> ∃d,(aa c.S k).dim=some d∧d'.1=d.1∧ct.μ k'=c.μ k∧(match cut with
  |none=>d'.2=d.2
  |some n=>d'.2=min (n*d.1) d.2)
structure Tell (c ct:Ctx)(N:Nat)(f:Nat→Nat)(stf:DSt):Prop extends Still c ct where
 lk: ∀j x,ud N stf.m j x→Lk c ct x (f j)
 lent: ∀k,k∈stf.lent→(aa c.S k).dim≠none→∀b,c.μ k=some b→¬ct.mut b
theorem xy.tell {k k' n:Nat}{d:Nat×Nat}{d2':Nat}{a:Value}(hσ:ct.σ=c.σ)(hμ:ct.μ k'=c.μ k)(h2:d2'=n*d.1)(h:xy c k 0 n d a):xy ct k' 0 n (d.1,d2') a:=by
 rcases h with⟨h1,_,h3,h4,h5⟩|⟨b,cp,y,h1,h3,h4,h5,h6,h7⟩
 ·exact .inl ⟨h1,rfl,h3,hμ.trans h4,by rw[h2,h3];simp⟩
 ·exact .inr ⟨b,cp,y,h1,hμ.trans h3,by rw[h2,Nat.zero_add];exact Nat.le_refl _,h5,by rw[hσ];exact h6,h7⟩
theorem KM {N:Nat}{f:Nat→Nat}{stf:DSt}(hR:Rel c)(hT:Tell c ct N f stf){s:Sh}{v:VV}{l:List (El s)}{a:Value}(h:J7 c.S s v=some l)(hv:VRel c v a)(hl: ∀k,zy v=some k→k∈stf.lent):VRel ct (.lst s l) a:=by
 obtain⟨h1,h2⟩:=MH hR h hv;refine(h1.still hT.toStill).rel fun b p n cp e hc=> ?_
 rcases h2 b p n cp e hc with h3|⟨k,h3,h4,h5⟩
 ·rcases h1 with⟨q,e1,_⟩|⟨b',p',cp',y,e1,e2,_⟩
  ·rw[e1]at e;injection e with _ _ e
   exact(hc e.symm).elim
  ·rw[e1]at e;injection e with e _ _
   injection e with e
   injection e with e
   subst e;exact hT.nm _ _ e2 h3
 ·exact hT.lent k (hl k h3) h4 b h5
theorem EE {st:DSt}{v:VV}:(∀k,zy v=some k→k∈(st.lend v).lent)∧(st.lend v).m=st.m∧(st.lend v).ls=st.ls∧(∀k∈st.lent,k∈(st.lend v).lent):=by
 cases v<;>refine⟨fun k h=> ?_,rfl,rfl,fun k h=> ?_⟩<;>first|(cases h;done)|(injection h with h;subst h;exact List.mem_cons_self)|exact aF _ h|exact h
mutual
theorem Oe {S:ae}{N:Nat}: ∀(sk:Sk) (v:VV) (st st1:DSt),zg S N sk v st=some st1→Sub st st1
 | .undef,v,st,st1,h=>by
  simp only[zg]at h;injection h with h;subst h;exact Sub.refl _
 | .leaf s,v,st,st1,h=>by
  simp only[zg]at h;split at h
  ·rename_i k k' n;cases hk:decide (k'=k)with
   |false=>rw[hk]at h;cases h
   |true=>rw[hk]at h;injection h with h;subst h;exact⟨⟨[],by simp[DSt.push]⟩,fun _ h=>h⟩
  ·injection h with h;subst h;exact⟨⟨[],by simp[DSt.push]⟩,fun _ h=>h⟩
  ·injection h with h;subst h;exact⟨⟨[],by simp[DSt.push]⟩,fun _ h=>h⟩
  ·rename_i s;obtain⟨l,h1,h2⟩:=ah h;injection h2 with h2;subst h2
   obtain⟨_,h4,_,h6⟩:= @EE st v;exact⟨⟨[],by simp[DSt.push,h4]⟩,h6⟩
  ·cases h
 | .cint k n,v,st,st1,h=>by
  cases v<;>simp only[zg]at h<;>try(cases h;done)
  rename_i k' n';cases hk:(decide (k'=k)&&decide (n'=n))with
  |false=>rw[hk]at h;cases h
  |true=>rw[hk]at h;injection h with h;subst h;exact Sub.refl _
 | .nilp,v,st,st1,h=>by
  cases v<;>simp only[zg]at h<;>try(cases h;done)
  injection h with h;subst h;exact Sub.refl _
 | .nils,v,st,st1,h=>by
  cases v<;>simp only[zg]at h<;>try(cases h;done)
  injection h with h;subst h;exact Sub.refl _
 | .nilf,v,st,st1,h=>by
  cases v<;>simp only[zg]at h<;>try(cases h;done)
  injection h with h;subst h;exact Sub.refl _
 | .ptr j o,v,st,st1,h=>by
  cases v<;>simp only[zg]at h<;>try(cases h;done)
  rename_i k o';cases hk:aA o o' with
  |false=>rw[hk]at h;cases h
  |true=>rw[hk,zC]at h;exact(qk h).2.2.2
 | .full j,v,st,st1,h=>by
  simp only[zg]at h;split at h
  ·exact(qk h).2.2.2
  ·exact(qk h).2.2.2
  ·exact(qk h).2.2.2
  ·cases h
 | .pin s o,v,st,st1,h=>by
  cases v<;>simp only[zg]at h<;>try(cases h;done)
  rename_i s' x o';cases hk:aA o o' with
  |false=>rw[hk]at h;cases h
  |true=>
   rw[hk]at h;obtain⟨y,h1,h2⟩:=ah h;injection h2 with h2;subst h2;exact⟨⟨[],by simp[DSt.push]⟩,fun _ h=>h⟩
 | .fn g a b,v,st,st1,h=>by
  cases v<;>simp only[zg]at h<;>try(cases h;done)
  rename_i g' a' b';cases hk:aA g g' with
  |false=>rw[hk]at h;cases h
  |true=>
   rw[hk]at h;obtain⟨st2,h1,h2⟩:=ah h;exact(kX a a' st st2 h1).trans (kX b b' st2 st1 h2)
 | .agg l,v,st,st1,h=>by
  cases v<;>simp only[zg]at h<;>try(cases h;done)
  exact kX l _ st st1 h
 | .tup l,v,st,st1,h=>by
  cases v<;>simp only[zg]at h<;>try(cases h;done)
  exact kX l _ st st1 h
theorem kX {S:ae}{N:Nat}: ∀(l:List Sk) (vs:List VV) (st st1:DSt),xf S N l vs st=some st1→Sub st st1
 |[],vs,st,st1,h=>by
  cases vs<;>simp only[xf]at h<;>try(cases h;done)
  injection h with h;subst h;exact Sub.refl _
 |k::r,vs,st,st1,h=>by
  cases vs with
  |nil=>simp only[xf]at h;cases h
  |cons v vs=>
   simp only[xf]at h;obtain⟨st2,h1,h2⟩:=ah h;exact(Oe k v st st2 h1).trans (kX r vs st2 st1 h2)
end
theorem KR {N:Nat}{f:Nat→Nat}{stf:DSt}(hT:Tell c ct N f stf){j k:Nat}{a:Value}(hl:ud N stf.m j (some ⟨k,none⟩))(hv:VRel c (.full k) a):VRel ct (.full (f j)) a:=by
 obtain⟨h1,h2⟩:=hT.lk _ _ hl;cases hv with
 |full hk ho hd=>
  refine .full h1 ho fun d' hd'=> ?_
  obtain⟨d,h3,h4,h5,h6⟩:=h2 d' hd';obtain⟨n,h7,h8⟩:=hd d h3;simp only at h6;refine⟨n,by rw[h4,h6];exact h7, ?_⟩;have:=h8.tell hT.σ h5 (d2':=d'.2) (by rw[h6,h7]);rw[←h4]at this;exact this
theorem Me {N:Nat}{f:Nat→Nat}{stf:DSt}(hT:Tell c ct N f stf){j k n:Nat}{a:Value}(hl:ud N stf.m j (some ⟨k,some n⟩))(hv:VRel c (.part k 0 n) a):VRel ct (.full (f j)) a:=by
 obtain⟨h1,h2⟩:=hT.lk _ _ hl;cases hv with
 |part hk ho hd=>
  refine .full h1 ho fun d' hd'=> ?_
  obtain⟨d,h3,h4,h5,h6⟩:=h2 d' hd';simp only at h6
  have h7:n*d.1≤d.2:=by
   rcases hd d h3 with⟨_,_,e,_,_⟩|⟨_,_,_,_,_,e,_⟩
   ·rw[e];simp
   ·rwa [Nat.zero_add]at e
  rw[Nat.min_eq_left h7]at h6;refine⟨n,by rw[h4,h6], ?_⟩;have:=(hd d h3).tell hT.σ h5 (d2':=d'.2) h6;rw[←h4]at this;exact this
theorem MV {N:Nat}{f:Nat→Nat}{stf:DSt}(hT:Tell c ct N f stf){j:Nat}(hl:ud N stf.m j none):VRel ct (.full (f j)) (.slice none 0 0):=by
 obtain⟨h1,h2⟩:=hT.lk _ _ hl;refine .full h1 rfl fun d' hd'=> ?_
 obtain⟨h3,h4⟩:=h2 d' hd';exact⟨0,by rw[h3];simp, .inl ⟨rfl,rfl,rfl,h4,h3⟩⟩
mutual
theorem Of {N:Nat}{f:Nat→Nat}{stf:DSt}(hR:Rel c)(hT:Tell c ct N f stf): ∀(sk:Sk) (v:VV) (st st1:DSt) (a:Value),zg c.S N sk v st=some st1→Sub st1 stf→VRel c v a→
  ∃new,st1.ls=st.ls++new∧∀rest,∃v',enc f sk (new++rest)=some (v',rest)∧VRel ct v' a
 | .undef,v,st,st1,a,h,hs,hv=>by
  simp only[zg]at h;injection h with h;subst h
  exact⟨[],by simp,fun rest=>⟨.undef,by simp[enc], .undef _⟩⟩
 | .leaf s,v,st,st1,a,h,hs,hv=>by
  simp only[zg]at h;split at h
  ·rename_i k k' n;cases hk:decide (k'=k)with
   |false=>rw[hk]at h;cases h
   |true=>
    rw[hk]at h;injection h with h;subst h
    have:=of_decide_eq_true hk;subst this;refine⟨[⟨.int k',n⟩],rfl,fun rest=>⟨.int k' n, ?_, ?_⟩⟩
    ·simp only[aD,enc,ek,zG]
    ·rw[hv.int_inv];exact .int _ _
  ·rename_i b;injection h with h;subst h
   refine⟨[⟨.bool,b⟩],rfl,fun rest=>⟨.bool b, ?_, ?_⟩⟩
   ·simp only[aD,enc,ek,zG]
   ·rw[hv.bool_inv];exact .bool _
  ·rename_i l;injection h with h;subst h
   refine⟨[⟨.str,l⟩],rfl,fun rest=>⟨.str l, ?_, ?_⟩⟩
   ·simp only[aD,enc,ek,zG]
   ·obtain⟨s,h1,h2⟩:=hv.str_inv;rw[h1];exact .str h2
  ·rename_i s;obtain⟨l,h1,h2⟩:=ah h;injection h2 with h2;subst h2
   obtain⟨h3,h4,h5,h6⟩:= @EE st v;refine⟨[⟨.list s,l⟩],by simp[DSt.push,h5],fun rest=>⟨.lst s l, ?_, ?_⟩⟩
   ·simp only[aD,enc,ek,zG]
   ·exact KM hR hT h1 hv fun k hk=>hs.lent k (h3 k hk)
  ·cases h
 | .cint k n,v,st,st1,a,h,hs,hv=>by
  cases v<;>simp only[zg]at h<;>try(cases h;done)
  rename_i k' n';cases hk:(decide (k'=k)&&decide (n'=n))with
  |false=>rw[hk]at h;cases h
  |true=>
   rw[hk]at h;injection h with h;subst h
   rw[aE]at hk;have e1:=of_decide_eq_true hk.1;have e2:=of_decide_eq_true hk.2;subst e1;subst e2;refine⟨[],by simp,fun rest=>⟨.int k' n',by simp[enc], ?_⟩⟩;rw[hv.int_inv];exact .int _ _
 | .nilp,v,st,st1,a,h,hs,hv=>by
  cases v<;>simp only[zg]at h<;>try(cases h;done)
  injection h with h;subst h
  cases hv;exact⟨[],by simp,fun rest=>⟨.nilp,by simp[enc], .nilp⟩⟩
 | .nils,v,st,st1,a,h,hs,hv=>by
  cases v<;>simp only[zg]at h<;>try(cases h;done)
  injection h with h;subst h
  cases hv;exact⟨[],by simp,fun rest=>⟨.nils,by simp[enc], .nils⟩⟩
 | .nilf,v,st,st1,a,h,hs,hv=>by
  cases v<;>simp only[zg]at h<;>try(cases h;done)
  injection h with h;subst h
  cases hv;exact⟨[],by simp,fun rest=>⟨.nilf,by simp[enc], .nilf⟩⟩
 | .ptr j o,v,st,st1,a,h,hs,hv=>by
  cases v<;>simp only[zg]at h<;>try(cases h;done)
  rename_i k o';cases hk:aA o o' with
  |false=>rw[hk]at h;cases h
  |true=>
   rw[hk,zC]at h;have:=aC hk;subst this;obtain⟨h1,h2,h3,h4⟩:=qk h;obtain⟨h5,h6⟩:=hT.lk _ _ (h1.sub hs);refine⟨[],by simp[h2],fun rest=>⟨.ptr (f j) o,by simp[enc], ?_⟩⟩;cases hv with
   |ptr hk ho hd=>
    refine .ptr h5 ho fun d' hd'=> ?_
    obtain⟨d,h7,_,h8,_⟩:=h6 d' hd';obtain⟨b,h9,h10⟩:=hd d h7;exact⟨b,h8.trans h9,h10⟩
 | .full j,v,st,st1,a,h,hs,hv=>by
  simp only[zg]at h;split at h
  ·obtain⟨h1,h2,h3,h4⟩:=qk h;exact⟨[],by simp[h2],fun rest=>⟨.full (f j),by simp[enc],KR hT (h1.sub hs) hv⟩⟩
  ·obtain⟨h1,h2,h3,h4⟩:=qk h;exact⟨[],by simp[h2],fun rest=>⟨.full (f j),by simp[enc],Me hT (h1.sub hs) hv⟩⟩
  ·obtain⟨h1,h2,h3,h4⟩:=qk h;cases hv;exact⟨[],by simp[h2],fun rest=>⟨.full (f j),by simp[enc],MV hT (h1.sub hs)⟩⟩
  ·cases h
 | .pin s o,v,st,st1,a,h,hs,hv=>by
  cases v<;>simp only[zg]at h<;>try(cases h;done)
  rename_i s' x o';cases hk:aA o o' with
  |false=>rw[hk]at h;cases h
  |true=>
   rw[hk,zC]at h;have:=aC hk;subst this;obtain⟨y,h1,h2⟩:=ah h;obtain⟨ee,h3⟩:=fm h1;cases ee;subst h3;injection h2 with h2;subst h2
   refine⟨[⟨s,y⟩],rfl,fun rest=>⟨.pin s y o, ?_, ?_⟩⟩
   ·simp only[aD,enc,ek,zG]
   ·cases hv with
    |pin hn hy hl hf=>exact .pin (hT.nm _ _ hy hn) (by rw[hT.σ];exact hy) hl (jm hT.toStill _ _ _ hf)
 | .fn g p q,v,st,st1,a,h,hs,hv=>by
  cases v<;>simp only[zg]at h<;>try(cases h;done)
  rename_i g' p' q';cases hk:aA g g' with
  |false=>rw[hk]at h;cases h
  |true=>
   rw[hk,zC]at h;have:=aC hk;subst this;obtain⟨st2,h1,h2⟩:=ah h;cases hv with
   |fn f1 f2=>
    obtain⟨new1,e1,e2⟩:=mY hR hT p p' st st2 _ h1 ((kX q q' st2 st1 h2).trans hs) f1;obtain⟨new2,e3,e4⟩:=mY hR hT q q' st2 st1 _ h2 hs f2;refine⟨new1++new2,by rw[e3,e1,aB],fun rest=> ?_⟩;obtain⟨v1,e5,e6⟩:=e2 (new2++rest);obtain⟨v2,e7,e8⟩:=e4 rest;exact⟨.fn g v1 v2,by simp only[enc,aB,e5,zG,e7], .fn e6 e8⟩
 | .agg l,v,st,st1,a,h,hs,hv=>by
  cases v<;>simp only[zg]at h<;>try(cases h;done)
  cases hv with
  |agg f1=>
   obtain⟨new1,e1,e2⟩:=mY hR hT l _ st st1 _ h hs f1;refine⟨new1,e1,fun rest=> ?_⟩;obtain⟨v1,e5,e6⟩:=e2 rest;exact⟨.agg v1,by simp only[enc,e5,zG], .agg e6⟩
 | .tup l,v,st,st1,a,h,hs,hv=>by
  cases v<;>simp only[zg]at h<;>try(cases h;done)
  cases hv with
  |tup f1=>
   obtain⟨new1,e1,e2⟩:=mY hR hT l _ st st1 _ h hs f1;refine⟨new1,e1,fun rest=> ?_⟩;obtain⟨v1,e5,e6⟩:=e2 rest;exact⟨.tup v1,by simp only[enc,e5,zG], .tup e6⟩
theorem mY {N:Nat}{f:Nat→Nat}{stf:DSt}(hR:Rel c)(hT:Tell c ct N f stf): ∀(l:List Sk) (vs:List VV) (st st1:DSt) (as:List Value),xf c.S N l vs st=some st1→Sub st1 stf→F2 (VRel c) vs as→
  ∃new,st1.ls=st.ls++new∧∀rest,∃vs',D8 f l (new++rest)=some (vs',rest)∧F2 (VRel ct) vs' as
 |[],vs,st,st1,as,h,hs,hf=>by
  cases vs<;>simp only[xf]at h<;>try(cases h;done)
  injection h with h;subst h
  cases hf;exact⟨[],by simp,fun rest=>⟨[],by simp[D8], .nil⟩⟩
 |k::r,vs,st,st1,as,h,hs,hf=>by
  cases hf with
  |nil=>simp only[xf]at h;cases h
  |cons f1 f2=>
   simp only[xf]at h;obtain⟨st2,h1,h2⟩:=ah h;obtain⟨new1,e1,e2⟩:=Of hR hT k _ st st2 _ h1 ((kX r _ st2 st1 h2).trans hs) f1;obtain⟨new2,e3,e4⟩:=mY hR hT r _ st2 st1 _ h2 hs f2;refine⟨new1++new2,by rw[e3,e1,aB],fun rest=> ?_⟩;obtain⟨v1,e5,e6⟩:=e2 (new2++rest);obtain⟨v2,e7,e8⟩:=e4 rest;exact⟨v1::v2,by simp only[D8,aB,e5,zG,e7], .cons e6 e8⟩
end
def mh (c ct:Ctx)(o:OSk)(x:Option Src)(blk:Blk):Prop:=
 (o= .dead∧blk= .dead)∨(blk.frozen=o.ro∧match x with
  |none=>o.ro=false∧∃s,blk= .arr s false []
  |some ⟨k,cut⟩=>(o.ro=false→(aa c.S k).frozen=false)∧∃d,(aa c.S k).dim=some d∧(match cut with
   |none=>blk.dim=some d
   |some n=>blk.dim=some (d.1,min (n*d.1) d.2))∧∀cs,F2 (VRel c) (aa c.S k).vals cs→F2 (VRel ct) blk.vals (cs.take blk.vals.length))
theorem yk {S:ae}{N:Nat}{o:OSk}{x:Option Src}{st st1:DSt}(h:IL S N o x st=some st1):Sub st st1:=by
 unfold IL at h;split at h
 ·injection h with h;subst h;exact Sub.refl _
 ·split at h
  ·rename_i es ro l k _ es' fz cs hb;cases hk:(aA es es'&&(ro|| !fz))with
   |false=>rw[hk]at h;cases h
   |true=>
    rw[hk,zC]at h;have h1:=kX _ _ _ _ h;cases ro with
    |false=>exact h1
    |true=>exact Sub.trans ⟨⟨[],by simp⟩,fun _ h=>aF _ h⟩ h1
  ·cases h
 ·rename_i ro s;cases ro with
  |true=>cases h
  |false=>injection h with h;subst h;exact⟨⟨[],by simp[DSt.push]⟩,fun _ h=>h⟩
 ·rename_i ro s k cut;cases hk:(ro|| !(aa S k).frozen)with
  |false=>rw[hk]at h;cases h
  |true=>
   rw[hk,zC]at h;obtain⟨l,h1,h2⟩:=ah h;injection h2 with h2;subst h2
   cases ro with
   |false=>exact⟨⟨[],by simp[DSt.push]⟩,fun _ h=>h⟩
   |true=>exact⟨⟨[],by simp[DSt.push]⟩,fun _ h=>aF _ h⟩
 ·cases h
theorem G2 {N:Nat}{f:Nat→Nat}{stf:DSt}(hR:Rel c)(hT:Tell c ct N f stf){o:OSk}{x:Option Src}{st st1:DSt}(h:IL c.S N o x st=some st1)(hs:Sub st1 stf):
  ∃new,st1.ls=st.ls++new∧∀rest,∃blk,D9 f o (new++rest)=some (blk,rest)∧mh c ct o x blk:=by
 unfold IL at h;split at h
 ·injection h with h;subst h
  exact⟨[],by simp,fun rest=>⟨.dead,by simp[D9], .inl ⟨rfl,rfl⟩⟩⟩
 ·split at h
  ·rename_i es ro l k _ es' fz cs hb;cases hk:(aA es es'&&(ro|| !fz))with
   |false=>rw[hk]at h;cases h
   |true=>
    rw[hk,zC]at h;rw[aE]at hk;have he:=aC hk.1;subst he;have hdim:(aa c.S k).dim=some (es,cs.length):=by rw[hb];rfl
    obtain⟨h0,hblk⟩:=hR.blk k _ hdim
    have hf: ∃as,F2 (VRel c) cs as:=by
     rcases hblk with⟨e1,e2⟩|⟨b,y,as,rest,_,_,_,_,_,e3⟩
     ·have:cs=[]:=List.length_eq_zero_iff.1 e1;subst this;exact⟨[], .nil⟩
     ·rw[hb]at e3;exact⟨as,e3⟩
    obtain⟨as,hf⟩:=hf;obtain⟨new,e1,e2⟩:=mY hR hT l cs _ st1 as h hs hf;refine⟨new, ?_,fun rest=> ?_⟩
    ·rw[e1];cases ro<;>rfl
    ·obtain⟨vs,e3,e4⟩:=e2 rest;refine⟨.cells es ro vs,by simp only[D9,e3,zG], .inr ⟨rfl,fun hro=> ?_,(es,cs.length),hdim, ?_,fun cs' hcs'=> ?_⟩⟩
     ·simp only[OSk.ro]at hro;subst hro;rw[hb];have:=hk.2;simp only[Bool.false_or,Bool.not_eq_true']at this;exact this
     ·simp only[Blk.dim];rw[e4.length,hf.length]
     ·rw[hb]at hcs';obtain⟨new',e1',e2'⟩:=mY hR hT l cs _ st1 cs' h hs hcs'
      have:new'=new:=by
       rw[e1]at e1';exact(List.append_cancel_left e1').symm
      subst this;obtain⟨vs',e3',e4'⟩:=e2' rest;rw[e3]at e3';injection e3' with e3'
      injection e3' with e3' _
      subst e3';rw[aJ (by rw[←e4'.length];exact Nat.le_refl _)];exact e4'
  ·cases h
 ·rename_i ro s;cases ro with
  |true=>cases h
  |false=>
   injection h with h;subst h
   refine⟨[⟨.list s,[]⟩],rfl,fun rest=>⟨.arr s false [], ?_, .inr ⟨rfl,rfl,s,rfl⟩⟩⟩;simp only[aD,D9,ek,zG]
 ·rename_i ro s k cut;cases hk:(ro|| !(aa c.S k).frozen)with
  |false=>rw[hk]at h;cases h
  |true=>
   rw[hk,zC]at h;obtain⟨l,h1,h2⟩:=ah h;injection h2 with h2;subst h2
   obtain⟨d,h3,h4,h5,h6⟩:=jJ (eo hR s) h1;refine⟨[⟨.list s,Cm cut l⟩],by cases ro<;>rfl,fun rest=>⟨.arr s ro (Cm cut l), ?_, .inr ⟨rfl,fun hro=> ?_,d,h3, ?_,fun cs hcs=> ?_⟩⟩⟩
   ·simp only[aD,D9,ek,zG]
   ·simp only[OSk.ro]at hro;subst hro;simpa using hk
   ·cases cut with
    |none=>
     simp only[Blk.dim,Cm];rw[←h5,←h4]
    |some n=>
     simp only[Blk.dim,Cm,aI];rw[h5,h4,←Nat.mul_min_mul_right]
   ·have h7:=AA hT.toStill (h6 cs hcs);have h8:cs.length=l.length*s.w:=by rw[←h7.length,cM]
    cases cut with
    |none=>
     simp only[Blk.vals,Cm];rw[aJ (by rw[cM];omega)];exact h7
    |some n=>
     simp only[Blk.vals,Cm];have h9:((cv s (l.take n)).length)=min (n*s.w) cs.length:=by rw[eI,aI,cM,h8]
     rw[h9,eI,←List.take_take,List.take_length];exact h7.take (n*s.w)
 ·cases h
theorem xe {S:ae}{N:Nat}: ∀{os:List OSk} {js:List Nat} {st st1:DSt},zi S N os js st=some st1→Sub st st1
 |[],[],st,st1,h=>by injection h with h;subst h;exact Sub.refl _
 |[],_::_,st,st1,h=>by cases h
 |_::_,[],st,st1,h=>by cases h
 |o::os,j::js,st,st1,h=>by
  simp only[zi]at h;obtain⟨st2,h1,h2⟩:=ah h;exact(yk h1).trans (xe h2)
theorem iq {S:ae}{N:Nat}: ∀{os:List OSk} {i:Nat} {st st1:DSt},kW S N os i st=some st1→Sub st st1
 |[],i,st,st1,h=>by
  simp only[kW]at h;cases hb:aA i st.m.length with
  |false=>rw[hb]at h;cases h
  |true=>rw[hb]at h;injection h with h;subst h;exact Sub.refl _
 |o::os,i,st,st1,h=>by
  simp only[kW]at h;split at h
  ·obtain⟨st2,h1,h2⟩:=ah h;exact(yk h1).trans (iq h2)
  ·cases h
inductive qa (c ct:Ctx):List OSk→List Nat→List Blk→Prop where
 |nil:qa c ct [] [] []
 |cons {o:OSk} {j:Nat} {b:Blk} {os:List OSk} {js:List Nat} {bs:List Blk}:mh c ct o (some ⟨j,none⟩) b→qa c ct os js bs→qa c ct (o::os) (j::js) (b::bs)
inductive mM (c ct:Ctx):List OSk→List (Option Src)→List Blk→Prop where
 |nil:mM c ct [] [] []
 |cons {o:OSk} {x:Option Src} {b:Blk} {os:List OSk} {xs:List (Option Src)} {bs:List Blk}:mh c ct o x b→mM c ct os xs bs→mM c ct (o::os) (x::xs) (b::bs)
theorem Cn {N:Nat}{f:Nat→Nat}{stf:DSt}(hR:Rel c)(hT:Tell c ct N f stf): ∀{os:List OSk} {js:List Nat} {st st1:DSt},zi c.S N os js st=some st1→Sub st1 stf→
  ∃new,st1.ls=st.ls++new∧∀rest,∃bs,tq f os (new++rest)=some (bs,rest)∧qa c ct os js bs
 |[],[],st,st1,h,hs=>by injection h with h;subst h;exact⟨[],by simp,fun rest=>⟨[],by simp[tq], .nil⟩⟩
 |[],_::_,st,st1,h,hs=>by cases h
 |_::_,[],st,st1,h,hs=>by cases h
 |o::os,j::js,st,st1,h,hs=>by
  simp only[zi]at h;obtain⟨st2,h1,h2⟩:=ah h;obtain⟨new1,e1,e2⟩:=G2 hR hT h1 ((xe h2).trans hs);obtain⟨new2,e3,e4⟩:=Cn hR hT h2 hs;refine⟨new1++new2,by rw[e3,e1,aB],fun rest=> ?_⟩;obtain⟨v1,e5,e6⟩:=e2 (new2++rest);obtain⟨v2,e7,e8⟩:=e4 rest;exact⟨v1::v2,by simp only[tq,aB,e5,zG,e7], .cons e6 e8⟩
theorem Av {N:Nat}{f:Nat→Nat}{stf:DSt}(hR:Rel c)(hT:Tell c ct N f stf): ∀{os:List OSk} {i:Nat} {st st1:DSt},kW c.S N os i st=some st1→Sub st1 stf→
  ∃new,st1.ls=st.ls++new∧i+os.length=st1.m.length∧∀rest,∃bs,tq f os (new++rest)=some (bs,rest)∧mM c ct os (st1.m.drop i) bs
 |[],i,st,st1,h,hs=>by
  simp only[kW]at h;cases hb:aA i st.m.length with
  |false=>rw[hb]at h;cases h
  |true=>
   rw[hb]at h;injection h with h;subst h
   have:=aC hb;subst this;exact⟨[],by simp,by simp,fun rest=>⟨[],by simp[tq],by rw[List.drop_length];exact .nil⟩⟩
 |o::os,i,st,st1,h,hs=>by
  simp only[kW]at h;split at h
  ·rename_i x hx;obtain⟨st2,h1,h2⟩:=ah h;obtain⟨new1,e1,e2⟩:=G2 hR hT h1 ((iq h2).trans hs);obtain⟨new2,e3,e3',e4⟩:=Av hR hT h2 hs;refine⟨new1++new2,by rw[e3,e1,aB],by rw[←e3'];simp;omega,fun rest=> ?_⟩;obtain⟨v1,e5,e6⟩:=e2 (new2++rest);obtain⟨v2,e7,e8⟩:=e4 rest;refine⟨v1::v2,by simp only[tq,aB,e5,zG,e7], ?_⟩;obtain⟨t1,t2⟩:=(yk h1).m;obtain⟨t3,t4⟩:=(iq h2).m
   have hx':st1.m[i]?=some x:=by
    rw[←nJ,t4,t2];exact yz (yz hx)
   have hi:i<st1.m.length:=by
    rcases aG i st1.m.length with h|h
    ·exact h
    ·rw[aH h]at hx';cases hx'
   rw[List.drop_eq_getElem_cons hi];rw[List.getElem?_eq_getElem hi]at hx';injection hx' with hx'
   rw[hx'];exact .cons e6 e8
  ·cases h
theorem zk {N:Nat}{f:Nat→Nat}{fx:List Nat}{sk:iX}{vals:List VV}{as:List Value}{st:DSt}(hR:Rel c)(hT:Tell c ct N f st)(h:fT c.S N fx sk vals=some st)(hf:F2 (VRel c) vals as):
  ∃vs fs bs,fK f sk st.ls=some (vs,fs,bs)∧F2 (VRel ct) vs as∧qa c ct sk.fix fx fs∧mM c ct sk.free st.m bs:=by
 unfold fT at h;obtain⟨st1,h1,h⟩:=ah h;obtain⟨st2,h2,h⟩:=ah h;obtain⟨st3,h3,h⟩:=ah h
 have:st3=st:=by
  cases hb:(wJ (fx++gE st3.m)&&sL (fx++dX sk.free st3.m) st3.lent)with
  |false=>rw[hb]at h;cases h
  |true=>rw[hb]at h;injection h
 subst this;obtain⟨n1,e1,f1⟩:=mY hR hT _ _ _ _ _ h1 ((xe h2).trans (iq h3)) hf;obtain⟨n2,e2,f2⟩:=Cn hR hT h2 (iq h3);obtain⟨n3,e3,e4,f3⟩:=Av hR hT h3 (Sub.refl _);obtain⟨vs,g1,g2⟩:=f1 (n2++n3);obtain⟨fs,g3,g4⟩:=f2 n3;obtain⟨bs,g5,g6⟩:=f3 [];refine⟨vs,fs,bs, ?_,g2,g4,by rw[List.drop_zero]at g6;exact g6⟩;have hls:st3.ls=n1++(n2++n3):=by rw[e3,e2,e1];simp
 rw[List.append_nil]at g5;simp only[fK,hls,g1,zG,g3,g5]
theorem ir {S:ae}{N:Nat}{fx:List Nat}{sk:iX}{vals:List VV}{st:DSt}(h:fT S N fx sk vals=some st):wJ (fx++gE st.m)=true∧sL (fx++dX sk.free st.m) st.lent=true:=by
 unfold fT at h;obtain⟨st1,h1,h⟩:=ah h;obtain⟨st2,h2,h⟩:=ah h;obtain⟨st3,h3,h⟩:=ah h;cases hb:(wJ (fx++gE st3.m)&&sL (fx++dX sk.free st3.m) st3.lent)with
 |false=>rw[hb]at h;cases h
 |true=>
  rw[hb]at h;injection h with h
  subst h
  rwa [aE]at hb
theorem qm : ∀{ss:List Sh} {ls:List Leaf} {t:pQ ss},Gn ss ls=some t→BB ss t=ls
 |[],ls,t,h=>by
  cases ls with
  |nil=>rfl
  |cons=>simp[Gn]at h
 |[s],ls,t,h=>by
  cases ls with
  |nil=>simp[Gn]at h
  |cons x ls=>
   cases ls with
   |nil=>
    simp only[Gn]at h;obtain⟨ee,h1⟩:=fm h;obtain⟨s',v⟩:=x;simp only at ee;subst ee;subst h1;rfl
   |cons=>simp[Gn]at h
 |s::s'::r,ls,t,h=>by
  cases ls with
  |nil=>simp[Gn]at h
  |cons x ls=>
   simp only[Gn]at h;obtain⟨a,h1,h⟩:=ah h;obtain⟨b,h2,h⟩:=ah h;injection h with h
   subst h;obtain⟨ee,h3⟩:=fm h1;obtain⟨s0,v⟩:=x;simp only at ee;subst ee;subst h3;simp only[BB];rw[qm h2]
end
end
section
open Bool renaming and_eq_true → aF
open List renaming getElem?_eq_getElem → aA, all_eq_true → aB, getElem?_eq_none → aD, replicate → aE, mem_cons_of_mem → aG, mem_cons_self → aH, mem_of_getElem? → aI, nodup_cons → aJ
open Nat renaming lt_or_ge → aC, le_add_right → aK, lt_of_lt_of_le → aL
def rM (c:Ctx):Option Src→Option Nat
 |none=>none
 |some x=>c.μ x.k
theorem qa.get {c ct:Ctx}: ∀{os:List OSk} {js:List Nat} {bs:List Blk},qa c ct os js bs→js.length=bs.length∧os.length=bs.length∧∀(i j:Nat) (b:Blk),js[i]?=some j→bs[i]?=some b→∃o,os[i]?=some o∧mh c ct o (some ⟨j,none⟩) b
 |_,_,_, .nil=>⟨rfl,rfl,fun i j b h=>by simp at h⟩
 |_,_,_, .cons h1 h2=>by
  obtain⟨e1,e2,e3⟩:=h2.get;refine⟨by simp[e1],by simp[e2],fun i j b hj hb=> ?_⟩;cases i with
  |zero=>
   simp at hj hb;subst hj;subst hb;exact⟨_,rfl,h1⟩
  |succ i=>
   simp at hj hb;obtain⟨o,h3,h4⟩:=e3 i j b hj hb;exact⟨o,by simpa using h3,h4⟩
theorem mM.get {c ct:Ctx}: ∀{os:List OSk} {xs:List (Option Src)} {bs:List Blk},mM c ct os xs bs→xs.length=bs.length∧os.length=bs.length∧∀(i:Nat) (x:Option Src) (b:Blk),xs[i]?=some x→bs[i]?=some b→∃o,os[i]?=some o∧mh c ct o x b
 |_,_,_, .nil=>⟨rfl,rfl,fun i j b h=>by simp at h⟩
 |_,_,_, .cons h1 h2=>by
  obtain⟨e1,e2,e3⟩:=h2.get;refine⟨by simp[e1],by simp[e2],fun i j b hj hb=> ?_⟩;cases i with
  |zero=>
   simp at hj hb;subst hj;subst hb;exact⟨_,rfl,h1⟩
  |succ i=>
   simp at hj hb;obtain⟨o,h3,h4⟩:=e3 i j b hj hb;exact⟨o,by simpa using h3,h4⟩
theorem mh.blkRel {c ct:Ctx}(hR:Rel c)(hσ:ct.σ=c.σ){o:OSk}{x:Option Src}{b:Blk}{p:Nat}(h:mh c ct o x b)(hp:aa ct.S p=b)(hμ:b.dim≠none→ct.μ p=rM c x):BD ct p:=by
 intro d' hd';rw[hp]at hd';have hμ2:ct.μ p=rM c x:=hμ (by rw[hd'];simp);clear hμ;rcases h with⟨_,h⟩|⟨h1,h2⟩
 ·subst h;cases hd'
 ·cases x with
  |none=>
   obtain⟨_,s,h3⟩:=h2;subst h3;injection hd' with hd'
   subst hd';exact⟨fY s, .inl ⟨by simp,by simpa[rM]using hμ2⟩⟩
  |some x=>
   obtain⟨k,cut⟩:=x;obtain⟨h3,d,h4,h5,h6⟩:=h2;simp only[rM]at hμ2;obtain⟨h7,h8⟩:=hR.blk k d h4
   have hd1:d'.1=d.1∧d'.2≤d.2:=by
    cases cut with
    |none=>
     simp only at h5;rw[h5]at hd';injection hd' with hd'
     subst hd';exact⟨rfl,Nat.le_refl _⟩
    |some n=>
     simp only at h5;rw[h5]at hd';injection hd' with hd'
     subst hd';exact⟨rfl,Nat.min_le_right _ _⟩
   refine⟨by rw[hd1.1];exact h7, ?_⟩;rcases h8 with⟨h9,h10⟩|⟨bb,y,cs,rest,h9,h10,h11,h12,h13,h14⟩
   ·exact .inl ⟨by omega,hμ2.trans h10⟩
   ·have hlen:b.vals.length=d'.2:=sH hd';refine .inr ⟨bb,y,cs.take b.vals.length,cs.drop b.vals.length++rest,hμ2.trans h9,by rw[hσ];exact h10,by rw[hd1.1];exact h11,fun hz=> ?_,by rw[←List.append_assoc,List.take_append_drop];exact h13, ?_⟩
    ·rw[hp,h1]at hz;exact h12 (h3 hz)
    ·rw[hp];exact h6 cs h14
theorem JR (f:Nat→Nat): ∀n,∃K,∀j,j<n→f j<K
 |0=>⟨0,fun j h=>by omega⟩
 |n+1=>by
  obtain⟨K,h⟩:=JR f n;refine⟨max K (f n+1),fun j hj=> ?_⟩;rcases aC j n with h1|h1
  ·have:=h j h1;omega
  ·have:j=n:=by omega
   subst this;omega
theorem vb {n k:Nat}:aa (aE n Blk.dead) k= .dead:=by
 induction n generalizing k with
 |zero=>rfl
 |succ n ih=>
  cases k with
  |zero=>rfl
  |succ k=>exact ih
theorem Er {c:Ctx}{N:Nat}{f:Nat→Nat}{fx:List Nat}{sk:iX}{vals:List VV}{as:List Value}{st:DSt}(hR:Rel c)(h:fT c.S N fx sk vals=some st)(hf:F2 (VRel c) vals as):
  ∃ct0 vs fs bs,fK f sk st.ls=some (vs,fs,bs)∧qa c ct0 sk.fix fx fs∧mM c ct0 sk.free st.m bs:=by
 obtain⟨K,hK⟩:=JR f (N+st.m.length)
 have hT:Tell c ⟨fun _=>none,aE K .dead,c.σ,fun _=>False⟩ N f st:=by
  have hno: ∀b,¬(⟨fun _=>none,aE K .dead,c.σ,fun _=>False⟩:Ctx).mut b:=by
   rintro b (⟨k,h1,_⟩|h)
   ·simp only[vb]at h1;cases h1
   ·exact h
  refine⟨⟨rfl,fun b _ _ _=>hno b⟩,fun j x hl=>⟨?_,fun d' hd'=> ?_⟩,fun k _ _ b _=>hno b⟩
  ·simp only[List.length_replicate];refine hK j ?_;rcases hl with⟨h1,_⟩|⟨h1,h2⟩
   ·omega
   ·rw[nJ]at h2;rcases aC (j-N) st.m.length with h3|h3
    ·omega
    ·rw[aD h3]at h2;cases h2
  ·simp only[vb]at hd';cases hd'
 obtain⟨vs,fs,bs,h1,_,h2,h3⟩:=zk hR hT h hf;exact⟨_,vs,fs,bs,h1,h2,h3⟩
theorem dU {k:Nat}{l:List Nat}:eJ k l=true↔k∈l:=by
 induction l with
 |nil=>simp[eJ]
 |cons a l ih=>
  simp only[eJ,List.mem_cons];cases h:Nat.beq a k with
  |true=>
   have:=Nat.eq_of_beq_eq_true h;simp[this]
  |false=>
   have:a≠k:=by rintro rfl;rw[Nat.beq_refl]at h;cases h
   rw[zD,ih];simp[Ne.symm this]
theorem io {l:List Nat}:wJ l=true→l.Nodup:=by
 induction l with
 |nil=>intro _;exact List.nodup_nil
 |cons a l ih=>
  intro h;simp only[wJ]at h;cases hm:eJ a l with
  |true=>rw[hm]at h;cases h
  |false=>
   rw[hm]at h;refine List.nodup_cons.2 ⟨fun h1=> ?_,ih h⟩;rw[dU.2 h1]at hm;cases hm
theorem Cw {w l:List Nat}(h:sL w l=true){k:Nat}(hk:k∈w):k∉l:=by
 intro h1;simp only[sL,aB]at h;have:=h k hk;rw[dU.2 h1]at this;cases this
theorem pA {m:List (Option Src)}{i:Nat}{x:Src}(h:m[i]?=some (some x)):x.k∈gE m:=by
 induction m generalizing i with
 |nil=>simp at h
 |cons a m ih=>
  cases i with
  |zero=>
   simp at h;subst h;exact aH
  |succ i=>
   simp at h;have:=ih h;cases a with
   |none=>exact this
   |some a=>exact aG _ this
theorem yu {m:List (Option Src)}(hn:(gE m).Nodup){i j:Nat}{x y:Src}(h:m[i]?=some (some x))(h':m[j]?=some (some y))(e:x.k=y.k):i=j:=by
 induction m generalizing i j with
 |nil=>simp at h
 |cons a m ih=>
  cases i with
  |zero=>
   simp at h;subst h;cases j with
   |zero=>rfl
   |succ j=>
    simp at h';have h1:=pA h';simp only[gE,aJ]at hn;rw[e]at hn;exact(hn.1 h1).elim
  |succ i=>
   simp at h;cases j with
   |zero=>
    simp at h';subst h';have h1:=pA h;simp only[gE,aJ]at hn;rw[←e]at hn;exact(hn.1 h1).elim
   |succ j=>
    simp at h'
    have hn':(gE m).Nodup:=by
     cases a with
     |none=>exact hn
     |some a=>exact(List.nodup_cons.1 hn).2
    rw[ih hn' h h']
theorem yP {os:List OSk}{m:List (Option Src)}{i:Nat}{x:Src}{o:OSk}(h:m[i]?=some (some x))(ho:os[i]?=some o)(hr:o.ro=false):x.k∈dX os m:=by
 induction m generalizing os i with
 |nil=>simp at h
 |cons a m ih=>
  cases os with
  |nil=>simp at ho
  |cons o' os=>
   cases i with
   |zero=>
    simp at h ho;subst h;subst ho;simp only[dX,hr,zD];exact aH
   |succ i=>
    simp at h ho;have:=ih h ho;cases a with
    |none=>exact this
    |some a=>
     simp only[dX];cases o'.ro with
     |true=>exact this
     |false=>exact aG _ this
theorem QF {b:Blk}(h:b.may=true)(hd:b.dim≠none)(hz:b.frozen=true):False:=by
 cases b with
 |dead=>exact hd rfl
 |cells es z l=>simp only[Blk.may,Blk.frozen]at h hz;rw[hz]at h;cases h
 |arr s z l=>simp only[Blk.may,Blk.frozen]at h hz;rw[hz]at h;cases h
theorem JW {sk:iX}(h:sk.noRo=true):sk.fxRo=true:=by
 unfold iX.noRo at h;rw[aF]at h;exact h.1
structure GT (c c' ct:Ctx)(N:Nat)(f:Nat→Nat)(fx:List Nat)(sk:iX)(st:DSt)(fs bs:List Blk):Prop where
 σ:ct.σ=c'.σ
 fb:ct.fb=c.fb
 len:ct.S.length=c.S.length+bs.length
 oth: ∀k,k<c.S.length→(∀j,j∈fx→f j≠k)→aa ct.S k=aa c.S k∨aa ct.S k=(aa c.S k).freeze∨(aa ct.S k= .dead∧(aa c.S k).frozen=false)
 fix: ∀(i j:Nat) (b:Blk),fx[i]?=some j→fs[i]?=some b→aa ct.S (f j)=b
 fixlt: ∀j,j∈fx→f j<c.S.length
 free: ∀(i:Nat) (b:Blk),bs[i]?=some b→aa ct.S (c.S.length+i)=b
 fN: ∀i,f (N+i)=c.S.length+i
 μo: ∀k,k<c.S.length→ct.μ k=c.μ k
 μn: ∀(i:Nat) (x:Option Src),st.m[i]?=some x→ct.μ (c.S.length+i)=rM c' x
 un: ∀b y,c.σ.m b=some y→¬c.own b→c'.σ.m b=some y
 ow: ∀b y,c.σ.m b=some y→¬c.own b→¬c'.own b
 n:c.σ.n≤c'.σ.n
 oun: ∀k,k<c.S.length→(∀j,j∈fx→f j≠k)→(aa ct.S k).dim≠none→∀b y,c.μ k=some b→c.σ.m b=some y→c'.σ.m b=some y
 odis: ∀k,k<c.S.length→(∀j,j∈fx→f j≠k)→(aa ct.S k).dim≠none→∀s,(s∈fx∨s∈gE st.m)→(aa c'.S s).frozen=false→∀b,c'.μ s=some b→c.μ k≠some b
 wr: ∀j,j∈fx→(aa c'.S j).dim≠none→(aa c.S (f j)).dim=(aa c'.S j).dim∧c'.μ j=c.μ (f j)∧∀b y,c.μ (f j)=some b→c.σ.m b=some y→∃y',c'.σ.m b=some y'∧y'.cells.length=y.cells.length
 wrz: ∀j,j∈fx→(aa c.S (f j)).may=true
 finj: ∀j j',j∈fx→j'∈fx→f j=f j'→j=j'
 fbk: ∀k b,(aa c'.S k).dim≠none→c'.μ k=some b→¬c.fb b
 lk: ∀j,j<N→j∉fx→Lk c' ct (some ⟨j,none⟩) (f j)
 onm: ∀k,k<c.S.length→(∀j,j∈fx→f j≠k)→(aa ct.S k).frozen=false→∀b y,c.μ k=some b→c'.σ.m b=some y→c'.mut b
 olent: ∀k,k<c.S.length→(∀j,j∈fx→f j≠k)→(aa ct.S k).frozen=false→∀s,s∈st.lent→(aa c'.S s).dim≠none→∀b,c'.μ s=some b→c.μ k≠some b
 fbm: ∀b,c.fb b→c'.mut b
 fxN: ∀j,j∈fx→j<N
 noro:sk.fxRo=true
 roz:sk.noRo=true∨∀k,k<c.S.length→(∀j,j∈fx→f j≠k)→(aa ct.S k).dim≠none→(aa ct.S k).frozen=true
theorem GT.all {c c' ct:Ctx}{N:Nat}{f:Nat→Nat}{fx:List Nat}{sk:iX}{st:DSt}{fs bs:List Blk}{vals vs:List VV}{as:List Value}(g:GT c c' ct N f fx sk st fs bs)(hR:Rel c)(hR':Rel c')(hd:fT c'.S N fx sk vals=some st)
  (he:fK f sk st.ls=some (vs,fs,bs)) (hf:F2 (VRel c') vals as):Le c ct∧Rel ct∧F2 (VRel ct) vs as:=by
 obtain⟨ct0,vs0,fs0,bs0,p1,p2,p3⟩:=Er (f:=f) hR' hd hf;rw[he]at p1;injection p1 with p1
 injection p1 with q1 p1
 injection p1 with q2 q3
 subst q1;subst q2;subst q3;obtain⟨ap1,ap2⟩:=ir hd;have hnd:=io ap1;rw[List.nodup_append]at hnd;obtain⟨nd1,nd2,nd3⟩:=hnd;obtain⟨x1,x2,x3⟩:=p2.get;obtain⟨y1,y2,y3⟩:=p3.get;have hro:=g.noro;unfold iX.fxRo at hro;rw[aB]at hro
 have nro: ∀(i:Nat) (o:OSk),sk.fix[i]?=some o→o.ro=false:=by
  intro i o h;simpa using hro o (aI h)
 have nro2: ∀(i:Nat) (o:OSk),sk.noRo=true→sk.free[i]?=some o→o.ro=false:=by
  intro i o hn h;unfold iX.noRo at hn;rw[aF,aB,aB]at hn;simpa using hn.2 o (aI h)
 have fxget: ∀j,j∈fx→∃(i:Nat) (b:Blk) (o:OSk),fx[i]?=some j∧fs[i]?=some b∧sk.fix[i]?=some o∧aa ct.S (f j)=b∧mh c' ct0 o (some ⟨j,none⟩) b:=by
  intro j hj;obtain⟨i,hi,e⟩:=List.mem_iff_getElem.1 hj;have h1:fx[i]?=some j:=by rw[aA hi,e]
  have h2:i<fs.length:=by rw[←x1];exact hi
  obtain⟨o,h3,h4⟩:=x3 i j _ h1 (aA h2);exact⟨i,fs[i],o,h1,aA h2,h3,g.fix i j _ h1 (aA h2),h4⟩
 have frget: ∀i,i<bs.length→∃(b:Blk) (x:Option Src) (o:OSk),st.m[i]?=some x∧bs[i]?=some b∧sk.free[i]?=some o∧aa ct.S (c.S.length+i)=b∧ct.μ (c.S.length+i)=rM c' x∧mh c' ct0 o x b:=by
  intro i hi;have h2:i<st.m.length:=by rw[y1];exact hi
  obtain⟨o,h3,h4⟩:=y3 i _ _ (aA h2) (aA hi);exact⟨bs[i],st.m[i],o,aA h2,aA hi,h3,g.free i _ (aA hi),g.μn i _ (aA h2),h4⟩
 have three: ∀k,(aa ct.S k).dim≠none→(∃j,j∈fx∧f j=k)∨(k<c.S.length∧(∀j,j∈fx→f j≠k))∨(∃i,i<bs.length∧k=c.S.length+i):=by
  intro k hk;have hl:=eS hk;rw[g.len]at hl;by_cases h1:k<c.S.length
  ·by_cases h2: ∃j,j∈fx∧f j=k
   ·exact .inl h2
   ·exact .inr (.inl ⟨h1,fun j hj e=>h2 ⟨j,hj,e⟩⟩)
  ·exact .inr (.inr ⟨k-c.S.length,by omega,by omega⟩)
 have stay: ∀j,j∈fx→∀d,(aa ct.S (f j)).dim=some d→(aa c'.S j).dim=some d∧(aa c'.S j).frozen=false∧(aa c.S (f j)).dim=some d∧c'.μ j=c.μ (f j):=by
  intro j hj d hd';obtain⟨i,b,o,h1,h2,h3,h4,h5⟩:=fxget j hj;rw[h4]at hd';rcases h5 with⟨_,h5⟩|⟨h5,h6,d0,h7,h8,h9⟩
  ·subst h5;cases hd'
  ·simp only at h8;rw[h8]at hd';injection hd' with hd'
   subst hd';obtain⟨w1,w2,_⟩:=g.wr j hj (by rw[h7];simp);exact⟨h7,h6 (nro i o h3),by rw[w1,h7],w2⟩
 have found: ∀i,i<bs.length→∀d,(aa ct.S (c.S.length+i)).dim=some d→(∃x,st.m[i]?=some (some x)∧((aa ct.S (c.S.length+i)).frozen=false∨sk.noRo=true→(aa c'.S x.k).frozen=false)∧(aa c'.S x.k).dim≠none∧ct.μ (c.S.length+i)=c'.μ x.k)∨ct.μ (c.S.length+i)=none:=by
  intro i hi d hd';obtain⟨b,x,o,h1,h2,h3,h4,h5,h6⟩:=frget i hi;rw[h4]at hd';rcases h6 with⟨_,h6⟩|⟨h6,h7⟩
  ·subst h6;cases hd'
  ·cases x with
   |none=>exact .inr h5
   |some x=>
    obtain⟨k,cut⟩:=x;obtain⟨h7,d2,h8,_⟩:=h7;refine .inl ⟨_,h1,fun hz=>h7 ?_,by rw[h8];simp,h5⟩;rcases hz with hz|hz
    ·rw[h4,h6]at hz;exact hz
    ·exact nro2 i o hz h3
 have orig: ∀k b,(aa ct.S k).dim≠none→ct.μ k=some b→(k<c.S.length∧(∀j,j∈fx→f j≠k)∧c.μ k=some b)∨
   ∃s,(s∈fx∨s∈gE st.m)∧((aa ct.S k).frozen=false∨sk.noRo=true→(aa c'.S s).frozen=false)∧(aa c'.S s).dim≠none∧c'.μ s=some b∧((s∈fx∧k=f s)∨∃i x,st.m[i]?=some (some x)∧x.k=s∧k=c.S.length+i):=by
  intro k b hk hm;cases hdd:(aa ct.S k).dim with
  |none=>exact(hk hdd).elim
  |some d=>
   rcases three k hk with⟨j,hj,rfl⟩|⟨h1,h2⟩|⟨i,hi,rfl⟩
   ·obtain⟨h1,h2,h3,h4⟩:=stay j hj d hdd;exact .inr ⟨j, .inl hj,fun _=>h2,by rw[h1];simp,by rw[h4,←g.μo _ (g.fixlt j hj)];exact hm, .inl ⟨hj,rfl⟩⟩
   ·exact .inl ⟨h1,h2,by rw[←g.μo k h1];exact hm⟩
   ·rcases found i hi d hdd with⟨x,h1,h2,h2',h3⟩|h1
    ·exact .inr ⟨x.k, .inr (pA h1),h2,h2',by rw[←h3];exact hm, .inr ⟨i,x,h1,rfl,rfl⟩⟩
    ·rw[h1]at hm;cases hm
 have othdim: ∀k,k<c.S.length→(∀j,j∈fx→f j≠k)→(aa ct.S k).dim≠none→(aa ct.S k=aa c.S k∨aa ct.S k=(aa c.S k).freeze):=by
  intro k h1 h2 h3;rcases g.oth k h1 h2 with h|h|⟨h,_⟩
  ·exact .inl h
  ·exact .inr h
  ·rw[h]at h3;exact(h3 rfl).elim
 have othfz: ∀k,k<c.S.length→(∀j,j∈fx→f j≠k)→(aa ct.S k).frozen=false→aa ct.S k=aa c.S k:=by
  intro k h1 h2 h3;rcases othdim k h1 h2 (fE h3)with h|h
  ·exact h
  ·rw[h,ew]at h3;cases h3
 have hle:Le c ct:=by
  refine⟨by rw[g.len];exact aK _ _,fun k d hk hd'=>⟨?_,g.μo k hk⟩,fun k hz hdm=> ?_,fun k d b y hk hd' hm hy=> ?_,fun b y hy hn=>by rw[g.σ];exact g.un b y hy hn,fun b y hy hn=> ?_,by rw[g.σ];exact g.n,g.fb⟩
  ·rcases three k (by rw[hd'];simp)with⟨j,hj,rfl⟩|⟨h1,h2⟩|⟨i,hi,rfl⟩
   ·exact(stay j hj d hd').2.2.1
   ·rcases othdim k h1 h2 (by rw[hd'];simp)with h|h
    ·rw[←h];exact hd'
    ·rw[h,cD]at hd';exact hd'
   ·omega
  ·have hk:=eS hdm;by_cases h2: ∃j,j∈fx∧f j=k
   ·obtain⟨j,hj,rfl⟩:=h2;exact(QF (g.wrz j hj) hdm hz).elim
   ·rcases g.oth k hk (fun j hj e=>h2 ⟨j,hj,e⟩)with h|h|⟨_,h⟩
    ·exact h
    ·rw[h,rr hz]
    ·rw[h]at hz;cases hz
  ·rw[g.σ];rcases three k (by rw[hd'];simp)with⟨j,hj,rfl⟩|⟨h1,h2⟩|⟨i,hi,rfl⟩
   ·obtain⟨h1,h2,h3,h4⟩:=stay j hj d hd';exact(g.wr j hj (by rw[h1];simp)).2.2 b y hm hy
   ·exact⟨y,g.oun k h1 h2 (by rw[hd'];simp) b y hm hy,rfl⟩
   ·omega
  ·rintro⟨k,h1,h2⟩;rcases orig k b (fE h1) h2 with⟨h3,h4,h5⟩|⟨s,h3,h4,_,h5,_⟩
   ·exact hn ⟨k,by rw[←othfz k h3 h4 h1];exact h1,h5⟩
   ·exact g.ow b y hy hn ⟨s,h4 (.inl h1),h5⟩
 have hT:Tell c' ct N f st:=by
  have hsp: ∀k b,(aa ct.S k).frozen=false→ct.μ k=some b→(k<c.S.length∧(∀j,j∈fx→f j≠k)∧c.μ k=some b)∨∃s,(s∈fx∨s∈dX sk.free st.m)∧(aa c'.S s).frozen=false∧c'.μ s=some b:=by
   intro k b h1 h2;rcases orig k b (fE h1) h2 with h|⟨s,h3,h4,_,h5,h6⟩
   ·exact .inl h
   ·refine .inr ⟨s, ?_,h4 (.inl h1),h5⟩;rcases h6 with⟨h6,_⟩|⟨i,x,h6,h7,h8⟩
    ·exact .inl h6
    ·refine .inr ?_
     have hi:i<bs.length:=by
      rw[←y1];rcases aC i st.m.length with h|h
      ·exact h
      ·rw[aD h]at h6;cases h6
     obtain⟨b',x',o,q1,q2,q3,q4,q5,q6⟩:=frget i hi;rw[←h7];refine yP h6 q3 ?_;rcases q6 with⟨q6,_⟩|⟨q6,_⟩
     ·rw[q6];rfl
     ·rw[←q6,←q4,←h8];exact h1
  refine⟨⟨g.σ,fun b y hy hn=> ?_⟩,fun j x hl=> ?_,fun s hs hsd b hm=> ?_⟩
  ·rintro(⟨k,h1,h2⟩|h)
   ·rcases hsp k b h1 h2 with⟨h3,h4,h5⟩|⟨s,h3,h4,h5⟩
    ·exact hn (g.onm k h3 h4 h1 b y h5 hy)
    ·exact hn (.inl ⟨s,h4,h5⟩)
   ·rw[g.fb]at h;exact hn (g.fbm b h)
  ·rcases hl with⟨h1,rfl⟩|⟨h1,h2⟩
   ·by_cases hj:j∈fx
    ·refine⟨by rw[g.len];exact aL (g.fixlt j hj) (aK _ _),fun d' hd'=> ?_⟩;obtain⟨q1,q2,q3,q4⟩:=stay j hj d' hd';exact⟨d',q1,rfl,by rw[g.μo _ (g.fixlt j hj),q4],rfl⟩
    ·exact g.lk j h1 hj
   ·rw[nJ]at h2
    have hi:j-N<bs.length:=by
     rw[←y1];rcases aC (j-N) st.m.length with h|h
     ·exact h
     ·rw[aD h]at h2;cases h2
    have hfj:f j=c.S.length+(j-N):=by rw[←g.fN];congr 1;omega
    rw[hfj];refine⟨by rw[g.len];omega,fun d' hd'=> ?_⟩;obtain⟨b,x',o,q1,q2,q3,q4,q5,q6⟩:=frget (j-N) hi;rw[h2]at q1;injection q1 with q1
    subst q1;rw[q4]at hd';rcases q6 with⟨_,q6⟩|⟨q6,q7⟩
    ·subst q6;cases hd'
    ·cases x with
     |none=>
      obtain⟨_,s,q8⟩:=q7;subst q8;injection hd' with hd'
      subst hd';exact⟨by simp,q5⟩
     |some x=>
      obtain⟨k,cut⟩:=x;obtain⟨q8,d,q9,q10,q11⟩:=q7;refine⟨d,q9, ?_⟩;cases cut with
      |none=>
       simp only at q10;rw[q10]at hd';injection hd' with hd'
       subst hd';exact⟨rfl,q5,rfl⟩
      |some n=>
       simp only at q10;rw[q10]at hd';injection hd' with hd'
       subst hd';exact⟨rfl,q5,rfl⟩
  ·rintro(⟨k,h1,h2⟩|h)
   ·rcases hsp k b h1 h2 with⟨h3,h4,h5⟩|⟨s',h3,h4,h5⟩
    ·exact g.olent k h3 h4 h1 s hs hsd b hm h5
    ·have:=hR'.inj s' s b h4 hsd h5 hm;subst this;exact Cw ap2 (List.mem_append.2 h3) hs
   ·rw[g.fb]at h;exact g.fbk s b hsd hm h
 obtain⟨vs1,fs1,bs1,r1,r2,r3,r4⟩:=zk hR' hT hd hf;rw[he]at r1;injection r1 with r1
 injection r1 with e1 r1
 injection r1 with e2 e3
 subst e1;subst e2;subst e3;obtain⟨_,_,x4⟩:=r3.get;obtain⟨_,_,y4⟩:=r4.get;refine⟨hle,⟨by rw[g.σ];exact hR'.ok,fun k k' b hk hk' hm hm'=> ?_,fun k=> ?_,fun k b hk hm hb=> ?_,fun b hb=> ?_⟩,r2⟩
 ·rcases orig k b (fE hk) hm with⟨h1,h2,h3⟩|⟨s,h1,h2,_,h3,h4⟩
  ·rcases orig k' b hk' hm' with⟨g1,g2,g3⟩|⟨s',g1,g2,_,g3,g4⟩
   ·refine hR.inj k k' b (by rw[←othfz k h1 h2 hk];exact hk) ?_ h3 g3;rcases othdim k' g1 g2 hk' with h|h
    ·rw[←h];exact hk'
    ·rw[h,cD]at hk';exact hk'
   ·rcases g.roz with hn|hz
    ·exact(g.odis k h1 h2 (fE hk) s' g1 (g2 (.inr hn)) b g3 h3).elim
    ·rw[hz k h1 h2 (fE hk)]at hk;cases hk
  ·rcases orig k' b hk' hm' with⟨g1,g2,g3⟩|⟨s',g1,_,g2,g3,g4⟩
   ·exact(g.odis k' g1 g2 hk' s h1 (h2 (.inl hk)) b h3 g3).elim
   ·have:=hR'.inj s s' b (h2 (.inl hk)) g2 h3 g3;subst this;rcases h4 with⟨h4,h5⟩|⟨i,x,h4,h5,h6⟩
    ·rcases g4 with⟨g4,g5⟩|⟨i',x',g4,g5,g6⟩
     ·rw[h5,g5]
     ·subst g5;exact(nd3 _ h4 _ (pA g4) rfl).elim
    ·rcases g4 with⟨g4,g5⟩|⟨i',x',g4,g5,g6⟩
     ·subst h5;exact(nd3 _ g4 _ (pA h4) rfl).elim
     ·rw[h6,g6,yu nd2 h4 g4 (h5.trans g5.symm)]
 ·by_cases hdm:(aa ct.S k).dim=none
  ·intro d hd';rw[hdm]at hd';cases hd'
  ·rcases three k hdm with⟨j,hj,rfl⟩|⟨h1,h2⟩|⟨i,hi,rfl⟩
   ·obtain⟨i,b,o,q1,q2,q3,q4,q5⟩:=fxget j hj;obtain⟨o',q6,q7⟩:=x4 i j b q1 q2;refine q7.blkRel hR' g.σ q4 fun hb=> ?_
    cases hdd:(aa ct.S (f j)).dim with
    |none=>exact(hdm hdd).elim
    |some d=>
     obtain⟨_,_,_,q8⟩:=stay j hj d hdd;rw[g.μo _ (g.fixlt j hj),←q8];rfl
   ·intro d hd';have h3:=othdim k h1 h2 hdm
    have hdc:(aa c.S k).dim=some d:=by
     rcases h3 with h|h
     ·rw[←h];exact hd'
     ·rw[h,cD]at hd';exact hd'
    have hvc:(aa ct.S k).vals=(aa c.S k).vals:=by
     rcases h3 with h|h
     ·rw[h]
     ·rw[h,AS]
    obtain⟨q1,q2⟩:=hR.blk k d hdc;refine⟨q1, ?_⟩;rcases q2 with⟨q2,q3⟩|⟨b,y,cs,rest,q2,q3,q4,q5,q6,q7⟩
    ·exact .inl ⟨q2,(g.μo k h1).trans q3⟩
    ·refine .inr ⟨b,y,cs,rest,(g.μo k h1).trans q2,by rw[g.σ];exact g.oun k h1 h2 hdm b y q2 q3,q4,fun hz=> ?_,q6,by rw[hvc];exact VRel.frames hle q7⟩;rw[othfz k h1 h2 hz]at hz;exact q5 hz
   ·obtain⟨b,x,o,q1,q2,q3,q4,q5,q6⟩:=frget i hi;obtain⟨o',q7,q8⟩:=y4 i x b q1 q2;exact q8.blkRel hR' g.σ q4 fun _=>q5
 ·rw[g.fb]at hb;rcases orig k b hk hm with⟨h1,h2,h3⟩|⟨s,h1,_,h2,h3,_⟩
  ·refine hR.fbk k b ?_ h3 hb;rcases othdim k h1 h2 hk with h|h
   ·rw[←h];exact hk
   ·rw[h,cD]at hk;exact hk
  ·exact g.fbk s b h2 h3 hb
 ·rw[g.fb]at hb;rw[g.σ];exact aL (hR.fbl b hb) g.n
end
section
open Bool renaming or_eq_false_iff → aA
open List renaming cons_append → aC, length_append → aD, mem_of_getElem? → aE, nodup_append → aF
open Nat renaming zero_add → aB, add_sub_cancel_left → aG
theorem fD {fx mov:List Nat}{fz:Bool}: ∀{S:ae} {i:Nat},(dL fx mov fz i S).length=S.length
 |[],_=>rfl
 |_::r,i=>by simp[dL,fD (S:=r)]
theorem fC {fx mov:List Nat}{fz:Bool}: ∀{S:ae} {i k:Nat},k<S.length→aa (dL fx mov fz i S) k=cond (eJ (i+k) mov) (cond (aa S k).frozen (aa S k) .dead) (cond (eJ (i+k) fx) (aa S k) (cond fz (aa S k).freeze (aa S k)))
 |[],_,_,h=>by simp at h
 |b::r,i,0,_=>rfl
 |b::r,i,k+1,h=>by
  have:=fC (fx:=fx) (mov:=mov) (fz:=fz) (S:=r) (i:=i+1) (k:=k) (by simpa using h);rw[show i+1+k=i+(k+1)by omega]at this;exact this
theorem dV : ∀{js:List Nat} {bs:List Blk} {S S':ae},nq js bs S=some S'→js.length=bs.length∧S'.length=S.length∧(∀k,k∉js→aa S' k=aa S k)∧
  (js.Nodup→∀(i j:Nat) (b:Blk),js[i]?=some j→bs[i]?=some b→j<S.length→aa S' j=b)
 |[],[],S,S',h=>by
  injection h with h;subst h
  exact⟨rfl,rfl,fun _ _=>rfl,fun _ i j b h=>by simp at h⟩
 |[],_::_,S,S',h=>by cases h
 |_::_,[],S,S',h=>by cases h
 |j::js,b::bs,S,S',h=>by
  simp only[nq]at h;obtain⟨h1,h2,h3,h4⟩:=dV h;refine⟨by simp[h1],by rw[h2,vh],fun k hk=> ?_,fun hn i j' b' hi hb hl=> ?_⟩
  ·rw[h3 k (fun e=>hk (List.mem_cons_of_mem _ e))];exact Pw (fun e=>hk (by rw[e];exact List.mem_cons_self))
  ·rw[List.nodup_cons]at hn;cases i with
   |zero=>
    simp at hi hb;subst hi;subst hb;rw[h3 j hn.1];exact Kn hl
   |succ i=>
    simp at hi hb;exact h4 hn.2 i j' b' hi hb (by rw[vh];exact hl)
theorem nk : ∀{l:List Blk} {i:Nat} {b:Blk},l[i]?=some b→aa l i=b
 |[],i,b,h=>by simp at h
 |a::l,0,b,h=>by simpa[aa]using h
 |a::l,i+1,b,h=>nk (l:=l) (by simpa using h)
structure Within (c c1:Ctx)(fx mov:List Nat):Prop where
 le:Le c c1
 fr: ∀k,k<c.S.length→k∉fx→(k∉mov∨(aa c.S k).frozen=true)→aa c1.S k=(aa c.S k).freeze
 un: ∀k,k<c.S.length→k∉fx→(k∉mov∨(aa c.S k).frozen=true)→(aa c.S k).dim≠none→∀b y,c.μ k=some b→c.σ.m b=some y→c1.σ.m b=some y
theorem fq {S:ae}{fx:List Nat}(h:Bi S fx=true){j:Nat}(hj:j∈fx):j<S.length∧(aa S j).may=true:=by
 simp only[Bi,List.all_eq_true,Bool.and_eq_true]at h;obtain⟨h1,h2⟩:=h j hj;exact⟨Nat.le_of_ble_eq_true h1,h2⟩
theorem dO {k:Nat}{l:List Nat}(h:k∉l):eJ k l=false:=by
 cases hb:eJ k l with
 |false=>rfl
 |true=>exact(h (dU.1 hb)).elim
theorem oz {fx mov:List Nat}{fz:Bool}{S:ae}{k:Nat}(hk:k<S.length)(h1:k∉fx)(h2:(aa (dL fx mov fz 0 S) k).dim≠none):(k∉mov∨(aa S k).frozen=true)∧aa (dL fx mov fz 0 S) k=cond fz (aa S k).freeze (aa S k):=by
 rw[fC hk,aB,dO h1]at h2⊢;by_cases hm:k∈mov
 ·rw[dU.2 hm]at h2⊢;cases hz:(aa S k).frozen with
  |false=>rw[hz]at h2;exact(h2 rfl).elim
  |true=>exact⟨.inr rfl,by cases fz<;>simp[rr hz]⟩
 ·rw[dO hm];exact⟨.inl hm,rfl⟩
theorem P9 {c c1 c':Ctx}{fx mov:List Nat}{sk:iX}{vals vs:List VV}{as:List Value}{st:DSt}{fs bs:List Blk}{S':ae}(hR:Rel c)(hR':Rel c')(hw:Within c c1 fx mov)(hR1:Rel c1)(hle:Le c1 c')
  (hok:Bi c.S fx=true) (hro:sk.fxRo=true) (hd:fT c'.S c.S.length fx sk vals=some st) (he:fK id sk st.ls=some (vs,fs,bs)) (hf:F2 (VRel c') vals as) (hS:nq fx fs (dL fx mov true 0 c.S)=some S'):
  ∃ct:Ctx,ct.σ=c'.σ∧ct.S=S'++bs∧ct.fb=c.fb∧(∀k,k<c.S.length→ct.μ k=c.μ k)∧Le c ct∧Rel ct∧F2 (VRel ct) vs as∧
   (∀k,k<c.S.length→k∉fx→(aa ct.S k).dim≠none→(k∉mov∨(aa c.S k).frozen=true)∧∀b y,c.μ k=some b→c.σ.m b=some y→ct.σ.m b=some y):=by
 obtain⟨s1,s2,s3,s4⟩:=dV hS;rw[fD]at s2 s4;obtain⟨ap1,_⟩:=ir hd;have hnd:=io ap1;rw[aF]at hnd;obtain⟨nd1,_,_⟩:=hnd;have hcc:=hw.le.trans hle;have hfb:c'.fb=c.fb:=hcc.fb
 let ct:Ctx:=⟨fun i=>if i<c.S.length then c.μ i else match st.m[i-c.S.length]? with
  |some x=>rM c' x
  |none=>none,S'++bs,c'.σ,c.fb⟩
 have hget: ∀k,k<c.S.length→aa ct.S k=aa S' k:=fun k hk=>fX (by rw[s2];exact hk)
 have hoth: ∀k,k<c.S.length→k∉fx→aa ct.S k=aa (dL fx mov true 0 c.S) k:=fun k hk hn=>by rw[hget k hk,s3 k hn]
 have hoth2: ∀k,k<c.S.length→k∉fx→(aa ct.S k).dim≠none→(k∉mov∨(aa c.S k).frozen=true)∧aa ct.S k=(aa c.S k).freeze∧aa c'.S k=(aa c.S k).freeze∧c'.μ k=c.μ k∧(aa c.S k).dim≠none:=by
  intro k hk hn hdm;rw[hoth k hk hn]at hdm⊢;obtain⟨h1,h2⟩:=oz hk hn hdm;have h3:=hw.fr k hk hn h1;rw[h2]at hdm;simp only[zC]at hdm h2;rw[cD]at hdm
  have h4:aa c'.S k=(aa c.S k).freeze:=by
   rw[hle.fz k (by rw[h3,ew]) (by rw[h3,cD];exact hdm),h3]
  refine⟨h1,h2,h4, ?_,hdm⟩;cases hdd:(aa c.S k).dim with
  |none=>exact(hdm hdd).elim
  |some d=>exact(hcc.al k d hk (by rw[h4,cD];exact hdd)).2
 have hun2: ∀k,k<c.S.length→k∉fx→(aa ct.S k).dim≠none→∀b y,c.μ k=some b→c.σ.m b=some y→c'.σ.m b=some y:=by
  intro k hk hn hdm b y hm hy;obtain⟨h1,h2,h3,h4,h5⟩:=hoth2 k hk hn hdm;have h6:=hw.un k hk hn h1 h5 b y hm hy;have h7:=hw.fr k hk hn h1
  have hmu1:c1.μ k=some b:=by
   cases hdd:(aa c.S k).dim with
   |none=>exact(h5 hdd).elim
   |some d=>rw[(hw.le.al k d hk (by rw[h7,cD];exact hdd)).2];exact hm
  have h8: ¬c1.mut b:=hR1.fz_mut (by rw[h7,ew]) (by rw[h7,cD];exact h5) hmu1;exact hle.un b y h6 fun e=>h8 (.inl e)
 have g:GT c c' ct c.S.length id fx sk st fs bs:=by
  refine⟨rfl,rfl,by simp[ct,s2],fun k hk hn=> ?_,fun i j b hi hb=> ?_,fun j hj=>(fq hok hj).1,fun i b hb=> ?_,fun _=>rfl,fun k hk=>zE hk,fun i x hx=> ?_,hcc.un,hcc.ow,hcc.n,fun k hk hn hdm b y hm hy=> ?_,fun k hk hn hdm s hs hz b hm e=> ?_,fun j hj hdm=> ?_,fun j hj=>(fq hok hj).2,
   fun _ _ _ _ e=>e,fun k b hdm hm=> ?_,fun j hj hn=> ?_,fun k hk hn hz b y hm hy=> ?_,fun k hk hn hz s hs hsd b hm e=> ?_,fun b hb=> ?_,fun j hj=>(fq hok hj).1,hro, .inr fun k hk hn hdm=>by rw[(hoth2 k hk (fun e=>hn k e rfl) hdm).2.1,ew]⟩
  ·have hn':k∉fx:=fun e=>hn k e rfl
   rw[hoth k hk hn'];by_cases hdm:(aa (dL fx mov true 0 c.S) k).dim=none
   ·rw[fC hk,aB,dO hn']at hdm⊢;by_cases hm:k∈mov
    ·rw[dU.2 hm]at hdm⊢;cases hz:(aa c.S k).frozen with
     |false=>exact .inr (.inr ⟨rfl,rfl⟩)
     |true=>exact .inl rfl
    ·rw[dO hm];exact .inr (.inl rfl)
   ·exact .inr (.inl (oz hk hn' hdm).2)
  ·have hj:=aE hi;have hlt:=(fq hok hj).1;show aa ct.S j=b;rw[hget j hlt];exact s4 nd1 i j b hi hb hlt
  ·show aa (S'++bs) (c.S.length+i)=b;rw[←s2,jO];exact nk hb
  ·show(if c.S.length+i<c.S.length then _ else _)=_;rw[zF (by omega),aG,hx]
  ·exact hun2 k hk (fun e=>hn k e rfl) hdm b y hm hy
  ·obtain⟨h1,h2,h3,h4,h5⟩:=hoth2 k hk (fun e=>hn k e rfl) hdm;have:=hR'.inj s k b hz (by rw[h3,cD];exact h5) hm (h4.trans e);subst this;rw[h3,ew]at hz;cases hz
  ·have hlt:=(fq hok hj).1;cases hdd:(aa c'.S j).dim with
   |none=>exact(hdm hdd).elim
   |some d=>
    obtain⟨h1,h2⟩:=hcc.al j d hlt hdd;exact⟨h1,h2,fun b y hm hy=>hcc.ln j d b y hlt hdd hm hy⟩
  ·rw[←hfb];exact hR'.fbk k b hdm hm
  ·refine⟨by simp only[id,ct,aD,s2];omega,fun d' hd'=> ?_⟩;obtain⟨h1,h2,h3,h4,h5⟩:=hoth2 j hj hn (by rw[show id j=j from rfl]at hd';rw[hd'];simp);rw[show id j=j from rfl,h2]at hd';refine⟨d',by rw[h3];exact hd',rfl, ?_,rfl⟩;show(if j<c.S.length then c.μ j else _)=_;rw[zE hj,h4]
  ·obtain⟨h1,h2,h3,h4,h5⟩:=hoth2 k hk (fun e=>hn k e rfl) (fE hz);rw[h2,ew]at hz;cases hz
  ·obtain⟨h1,h2,h3,h4,h5⟩:=hoth2 k hk (fun e=>hn k e rfl) (fE hz);rw[h2,ew]at hz;cases hz
  ·exact .inr (by rw[hfb];exact hb)
 obtain⟨r1,r2,r3⟩:=g.all hR hR' hd he hf;exact⟨ct,rfl,rfl,rfl,fun k hk=>zE hk,r1,r2,r3,fun k hk hn hdm=>⟨(hoth2 k hk hn hdm).1,hun2 k hk hn hdm⟩⟩
end
section
open Bool renaming or_eq_false_iff → aA
open List renaming cons_append → aC, length_append → aD, mem_of_getElem? → aE, nodup_append → aF
open Nat renaming zero_add → aB, add_sub_cancel_left → aG
theorem KN {c:Ctx}{fx:List Nat}{sk:iX}{vals vs:List VV}{as:List Value}{st:DSt}{fs bs:List Blk}{S':ae}(hR:Rel c)
  (hok:Bi c.S fx=true) (hro:sk.fxRo=true) (hd:fT c.S c.S.length fx sk vals=some st) (he:fK id sk st.ls=some (vs,fs,bs)) (hf:F2 (VRel c) vals as) (hS:nq fx fs (dL fx (gE st.m) true 0 c.S)=some S'):
  ∃ct:Ctx,ct.σ=c.σ∧ct.S=S'++bs∧ct.fb=c.fb∧(∀k,k<c.S.length→ct.μ k=c.μ k)∧Le c ct∧Rel ct∧F2 (VRel ct) vs as:=by
 obtain⟨s1,s2,s3,s4⟩:=dV hS;rw[fD]at s2 s4;obtain⟨ap1,_⟩:=ir hd;have hnd:=io ap1;rw[aF]at hnd;obtain⟨nd1,_,_⟩:=hnd
 let ct:Ctx:=⟨fun i=>if i<c.S.length then c.μ i else match st.m[i-c.S.length]? with
  |some x=>rM c x
  |none=>none,S'++bs,c.σ,c.fb⟩
 have hget: ∀k,k<c.S.length→aa ct.S k=aa S' k:=fun k hk=>fX (by rw[s2];exact hk)
 have hoth: ∀k,k<c.S.length→k∉fx→aa ct.S k=aa (dL fx (gE st.m) true 0 c.S) k:=fun k hk hn=>by rw[hget k hk,s3 k hn]
 have hoth2: ∀k,k<c.S.length→k∉fx→(aa ct.S k).dim≠none→(k∉gE st.m∨(aa c.S k).frozen=true)∧aa ct.S k=(aa c.S k).freeze∧(aa c.S k).dim≠none:=by
  intro k hk hn hdm;rw[hoth k hk hn]at hdm⊢;obtain⟨h1,h2⟩:=oz hk hn hdm;rw[h2]at hdm;simp only[zC]at hdm h2;rw[cD]at hdm;exact⟨h1,h2,hdm⟩
 have g:GT c c ct c.S.length id fx sk st fs bs:=by
  refine⟨rfl,rfl,by simp[ct,s2],fun k hk hn=> ?_,fun i j b hi hb=> ?_,fun j hj=>(fq hok hj).1,fun i b hb=> ?_,fun _=>rfl,fun k hk=>zE hk,fun i x hx=> ?_,fun _ _ h _=>h,fun _ _ _ h=>h,Nat.le_refl _,fun k hk hn hdm b y hm hy=>hy,fun k hk hn hdm s hs hz b hm e=> ?_,fun j hj hdm=>⟨rfl,rfl,fun b y _ hy=>⟨y,hy,rfl⟩⟩,fun j hj=>(fq hok hj).2,
   fun _ _ _ _ e=>e,fun k b hdm hm=>hR.fbk k b hdm hm,fun j hj hn=> ?_,fun k hk hn hz b y hm hy=> ?_,fun k hk hn hz s hs hsd b hm e=> ?_,fun b hb=> .inr hb,fun j hj=>(fq hok hj).1,hro, .inr fun k hk hn hdm=>by rw[(hoth2 k hk (fun e=>hn k e rfl) hdm).2.1,ew]⟩
  ·have hn':k∉fx:=fun e=>hn k e rfl
   rw[hoth k hk hn'];by_cases hdm:(aa (dL fx (gE st.m) true 0 c.S) k).dim=none
   ·rw[fC hk,aB,dO hn']at hdm⊢;by_cases hm:k∈gE st.m
    ·rw[dU.2 hm]at hdm⊢;cases hz:(aa c.S k).frozen with
     |false=>exact .inr (.inr ⟨rfl,rfl⟩)
     |true=>exact .inl rfl
    ·rw[dO hm];exact .inr (.inl rfl)
   ·exact .inr (.inl (oz hk hn' hdm).2)
  ·have hj:=aE hi;have hlt:=(fq hok hj).1;show aa ct.S j=b;rw[hget j hlt];exact s4 nd1 i j b hi hb hlt
  ·show aa (S'++bs) (c.S.length+i)=b;rw[←s2,jO];exact nk hb
  ·show(if c.S.length+i<c.S.length then _ else _)=_;rw[zF (by omega),aG,hx]
  ·obtain⟨h1,h2,h5⟩:=hoth2 k hk (fun e=>hn k e rfl) hdm;have:=hR.inj s k b hz h5 hm e;subst this;rcases hs with hs|hs
   ·exact hn s hs rfl
   ·rcases h1 with h1|h1
    ·exact h1 hs
    ·rw[h1]at hz;cases hz
  ·refine⟨by simp only[id,ct,aD,s2];omega,fun d' hd'=> ?_⟩;obtain⟨h1,h2,h5⟩:=hoth2 j hj hn (by rw[show id j=j from rfl]at hd';rw[hd'];simp);rw[show id j=j from rfl,h2,cD]at hd';refine⟨d',hd',rfl, ?_,rfl⟩;show(if j<c.S.length then c.μ j else _)=_;rw[zE hj]
  ·obtain⟨h1,h2,h5⟩:=hoth2 k hk (fun e=>hn k e rfl) (fE hz);rw[h2,ew]at hz;cases hz
  ·obtain⟨h1,h2,h5⟩:=hoth2 k hk (fun e=>hn k e rfl) (fE hz);rw[h2,ew]at hz;cases hz
 obtain⟨r1,r2,r3⟩:=g.all hR hR hd he hf;exact⟨ct,rfl,rfl,rfl,fun k hk=>zE hk,r1,r2,r3⟩
theorem E9 {c c1:Ctx}{fx mov:List Nat}{fs bs:List Blk}{S':ae}(hle:Le c c1)(hS:nq fx fs (dL fx mov true 0 c.S)=some S')(h1:c1.S=S'++bs)
  (hun: ∀k,k<c.S.length→k∉fx→(k∉mov∨(aa c.S k).frozen=true)→(aa c.S k).dim≠none→∀b y,c.μ k=some b→c.σ.m b=some y→c1.σ.m b=some y):Within c c1 fx mov:=by
 obtain⟨s1,s2,s3,s4⟩:=dV hS;rw[fD]at s2;refine⟨hle,fun k hk hn hm=> ?_,hun⟩;rw[h1,fX (by rw[s2];exact hk),s3 k hn,fC hk,aB,dO hn];rcases hm with hm|hz
 ·rw[dO hm];rfl
 ·cases eJ k mov with
  |false=>rfl
  |true=>rw[hz];simp[rr hz]
section
variable {ctf ct:Ctx}
theorem VRel.thaw (hμ:ct.μ=ctf.μ)(hσ:ct.σ=ctf.σ)(hl:ct.S.length=ctf.S.length)(hd: ∀k,(aa ct.S k).dim=(aa ctf.S k).dim): ∀{v:VV} {a:Value},VRel ctf v a→Qj v=false→VRel ct v a
 |_,_, .undef a,_=> .undef a
 |_,_, .bool b,_=> .bool b
 |_,_, .int k n,_=> .int k n
 |_,_, .str hs,_=> .str hs
 |_,_, .nilp,_=> .nilp
 |_,_, .nils,_=> .nils
 |_,_, .nilf,_=> .nilf
 |_,_, .ptr hk h1 h2,_=> .ptr (by rw[hl];exact hk) h1 fun d h=>by rw[hd]at h;rw[hμ];exact h2 d h
 |_,_, .it hk h1 hs h2,_=> .it (by rw[hl];exact hk) h1 hs fun d h=>by rw[hd]at h;rw[hμ];exact h2 d h
 |_,_, .bld hk h1 h2,_=> .bld (by rw[hl];exact hk) h1 fun d h=>by rw[hd]at h;rw[hμ];exact h2 d h
 |_,_, .pix hk h1 hi h2,_=> .pix (by rw[hl];exact hk) h1 hi fun d h=>by rw[hd]at h;rw[hμ];exact h2 d h
 |_,_, .pel hk h1 h2,_=> .pel (by rw[hl];exact hk) h1 fun d h=>by rw[hd]at h;rw[hμ];exact h2 d h
 |_,_, .pin _ _ _ _,h=>by cases h
 |_,_, .lstn _,h=>by cases h
 |_,_, .tgtn _,h=>by cases h
 |_,_, .tgt _ _ _ _ _,h=>by cases h
 |_,_, .lst _ _ _ _ _ _ _,h=>by cases h
 |_,_, .full hk h1 h2,_=> .full (by rw[hl];exact hk) h1 fun d h=>by
  rw[hd]at h;obtain⟨n,h3,h4⟩:=h2 d h;refine⟨n,h3, ?_⟩;unfold xy at h4⊢;rw[hμ,hσ];exact h4
 |_,_, .part hk h1 h2,_=> .part (by rw[hl];exact hk) h1 fun d h=>by
  rw[hd]at h;have h4:=h2 d h;unfold xy at h4⊢;rw[hμ,hσ];exact h4
 |_,_, .fn h1 h2,h=>by
  simp only[Qj,aA]at h;exact .fn (go h1 h.1) (go h2 h.2)
 |_,_, .agg h1,h=>by
  simp only[Qj]at h;exact .agg (go h1 h)
 |_,_, .tup h1,h=>by
  simp only[Qj]at h;exact .tup (go h1 h)
where
 go: ∀{l:List VV} {m:List Value},F2 (VRel ctf) l m→Ej l=false→F2 (VRel ct) l m
  |_,_, .nil,_=> .nil
  |_,_, .cons h1 h2,h=>by
   simp only[Ej,aA]at h;exact .cons (VRel.thaw hμ hσ hl hd h1 h.1) (go h2 h.2)
theorem xu : ∀{s:Sh} (x:El s),s.al=false→Ej (ce s x)=false
 | .int _,_,_=>rfl
 | .bool,_,_=>rfl
 | .str,_,_=>rfl
 | .list _,_,h=>by cases h
 | .pair a b,x,h=>by
  simp only[Sh.al,aA]at h;have h1:=xu x.1 h.1;have h2:=xu x.2 h.2;simp only[ce];revert h1;generalize ce a x.1=l;intro h1;induction l with
  |nil=>exact h2
  |cons v l ih=>
   simp only[Ej,aA,aC]at h1⊢;exact⟨h1.1,ih h1.2⟩
theorem N4 {l m:List VV}(h1:Ej l=false)(h2:Ej m=false):Ej (l++m)=false:=by
 induction l with
 |nil=>exact h2
 |cons v l ih=>
  simp only[Ej,aA,aC]at h1⊢;exact⟨h1.1,ih h1.2⟩
theorem LU {b:Blk}(h:Ro b=false):Ej b.vals=false:=by
 cases b with
 |dead=>rfl
 |cells es z l=>exact h
 |arr s z l=>
  simp only[Blk.vals];induction l with
  |nil=>rfl
  |cons x l ih=>rw[cL];exact N4 (xu x h) (ih h)
theorem thaw {c:Ctx}{S2:ae}{vs:List VV}{as:List Value}(hR:Rel c)(hle:Le c ctf)(hRf:Rel ctf)(hf:F2 (VRel ctf) vs as)(hal:Ej vs=false)(hlen:S2.length=ctf.S.length)(hμ: ∀k,k<c.S.length→ctf.μ k=c.μ k)
  (hk: ∀k,(aa S2 k=aa ctf.S k∧((aa ctf.S k).dim≠none→((aa ctf.S k).frozen=false∧Ro (aa ctf.S k)=false)∨(k<c.S.length∧aa ctf.S k=aa c.S k∧∀b y,c.μ k=some b→c.σ.m b=some y→ctf.σ.m b=some y)))∨
   (k<c.S.length∧aa S2 k=aa c.S k∧aa ctf.S k=(aa c.S k).freeze∧((aa c.S k).dim≠none→∀b y,c.μ k=some b→c.σ.m b=some y→ctf.σ.m b=some y))):
  Le c ⟨ctf.μ,S2,ctf.σ,ctf.fb⟩∧Rel ⟨ctf.μ,S2,ctf.σ,ctf.fb⟩∧F2 (VRel ⟨ctf.μ,S2,ctf.σ,ctf.fb⟩) vs as:=by
 have hd: ∀k,(aa S2 k).dim=(aa ctf.S k).dim:=by
  intro k;rcases hk k with⟨h,_⟩|⟨_,h1,h2,_⟩
  ·rw[h]
  ·rw[h1,h2,cD]
 have hle2:Le c ⟨ctf.μ,S2,ctf.σ,ctf.fb⟩:=by
  refine⟨by rw[hlen];exact hle.len,fun k d hkl h=>hle.al k d hkl (by rw[←hd];exact h),fun k hz hdm=> ?_,fun k d b y hkl h=>hle.ln k d b y hkl (by rw[←hd];exact h),hle.un,fun b y hy hn=> ?_,hle.n,hle.fb⟩
  ·rcases hk k with⟨h,_⟩|⟨_,h1,h2,_⟩
   ·rw[h];exact hle.fz k hz hdm
   ·exact h1
  ·rintro⟨k,h1,h2⟩;rcases hk k with⟨h,_⟩|⟨h3,h4,h5,_⟩
   ·exact hle.ow b y hy hn ⟨k,by rw[←h];exact h1,h2⟩
   ·exact hn ⟨k,by rw[←h4];exact h1,by rw[←hμ k h3];exact h2⟩
 have hth: ∀{v:VV} {a:Value},VRel ctf v a→Qj v=false→VRel ⟨ctf.μ,S2,ctf.σ,ctf.fb⟩ v a:=fun h1 h2=>VRel.thaw (ctf:=ctf) (ct:=⟨ctf.μ,S2,ctf.σ,ctf.fb⟩) rfl rfl hlen hd h1 h2
 have hths: ∀{l:List VV} {m:List Value},F2 (VRel ctf) l m→Ej l=false→F2 (VRel ⟨ctf.μ,S2,ctf.σ,ctf.fb⟩) l m:=fun h1 h2=>VRel.thaw.go (ctf:=ctf) (ct:=⟨ctf.μ,S2,ctf.σ,ctf.fb⟩) rfl rfl hlen hd h1 h2
 refine⟨hle2,⟨hRf.ok,fun k k' b hz hdm hm hm'=> ?_,fun k=> ?_,fun k b hdm hm=>hRf.fbk k b (by rw[←hd];exact hdm) hm,hRf.fbl⟩,hths hf hal⟩
 ·have hdm':(aa ctf.S k').dim≠none:=by rw[←hd];exact hdm
  rcases hk k with⟨h,_⟩|⟨h3,h4,h5,_⟩
  ·exact hRf.inj k k' b (by rw[←h];exact hz) hdm' hm hm'
  ·rw[h4]at hz;rw[hμ k h3]at hm
   have hcase:(k'<c.S.length∧(aa c.S k').dim≠none)∨(aa ctf.S k').frozen=false:=by
    rcases hk k' with⟨g1,g2⟩|⟨g1,g2,g3,_⟩
    ·rcases g2 hdm' with⟨g2,_⟩|⟨g2,g3,_⟩
     ·exact .inr g2
     ·exact .inl ⟨g2,by rw[←g3];exact hdm'⟩
    ·exact .inl ⟨g1,by rw[←g2];exact hdm⟩
   rcases hcase with⟨g1,g2⟩|g1
   ·rw[hμ k' g1]at hm';exact hR.inj k k' b hz g2 hm hm'
   ·exact(hRf.inj k' k b g1 (by rw[h5,cD];exact fE hz) hm' (by rw[hμ k h3];exact hm)).symm
 ·intro d hdd
  have old:k<c.S.length→aa S2 k=aa c.S k→(∀b y,c.μ k=some b→c.σ.m b=some y→ctf.σ.m b=some y)→1≤d.1∧
   ((d.2=0∧ctf.μ k=none)∨∃b y cs rest,ctf.μ k=some b∧ctf.σ.m b=some y∧y.es=d.1∧((aa S2 k).frozen=false→y.own=true)∧y.cells=cs++rest∧F2 (VRel ⟨ctf.μ,S2,ctf.σ,ctf.fb⟩) (aa S2 k).vals cs):=by
   intro h1 h2 h3;obtain⟨q1,q2⟩:=hR.blk k d (by rw[←h2];exact hdd);refine⟨q1, ?_⟩;rcases q2 with⟨q2,q3⟩|⟨b,y,cs,rest,q2,q3,q4,q5,q6,q7⟩
   ·exact .inl ⟨q2,(hμ k h1).trans q3⟩
   ·exact .inr ⟨b,y,cs,rest,(hμ k h1).trans q2,h3 b y q2 q3,q4,by rw[h2];exact q5,q6,by rw[h2];exact VRel.frames hle2 q7⟩
  rcases hk k with⟨h,h'⟩|⟨h3,h4,h5,h6⟩
  ·have hdf:(aa ctf.S k).dim=some d:=by rw[←hd];exact hdd
   rcases h' (by rw[hdf];simp)with⟨h1,h2⟩|⟨h1,h2,h3⟩
   ·obtain⟨q1,q2⟩:=hRf.blk k d hdf;refine⟨q1, ?_⟩;rcases q2 with q2|⟨b,y,cs,rest,q2,q3,q4,q5,q6,q7⟩
    ·exact .inl q2
    ·exact .inr ⟨b,y,cs,rest,q2,q3,q4,by rw[h];exact q5,q6,by rw[h];exact hths q7 (LU h2)⟩
   ·exact old h1 (h.trans h2) h3
  ·exact old h3 h4 (h6 (by rw[←h4,hdd];simp))
end
end
section
open List renaming getElem?_eq_getElem → aA, nodup_nil → aB, getElem?_eq_none → aC, mem_cons_self → aD
theorem EO : ∀{m:List (Option Src)},EN m=true→∀(i:Nat) (x:Option Src),m[i]?=some x→∃k,x=some ⟨k,none⟩
 |[],_,i,x,h=>by simp at h
 |none::_,h,_,_,_=>by cases h
 |some ⟨k,some n⟩::_,h,_,_,_=>by cases h
 |some ⟨k,none⟩::r,h,0,x,hx=>by simp at hx;exact⟨k,hx.symm⟩
 |some ⟨k,none⟩::r,h,i+1,x,hx=>EO (m:=r) h i x (by simpa using hx)
theorem zt : ∀{os:List OSk} {i j:Nat},j∈lf os i↔∃p o,os[p]?=some o∧o.ro=false∧j=i+p
 |[],i,j=>by simp[lf]
 |o::os,i,j=>by
  simp only[lf];have ih:= @zt os (i+1) j;constructor
  ·intro h;cases hr:o.ro with
   |true=>
    rw[hr,zC]at h;obtain⟨p,o',h1,h2,h3⟩:=ih.1 h;exact⟨p+1,o',by simpa using h1,h2,by omega⟩
   |false=>
    rw[hr,zD]at h;rcases List.mem_cons.1 h with h|h
    ·exact⟨0,o,rfl,hr,by omega⟩
    ·obtain⟨p,o',h1,h2,h3⟩:=ih.1 h;exact⟨p+1,o',by simpa using h1,h2,by omega⟩
  ·rintro⟨p,o',h1,h2,h3⟩;cases p with
   |zero=>
    simp at h1;subst h1;rw[h2,zD];exact List.mem_cons.2 (.inl (by omega))
   |succ p=>
    have:=ih.2 ⟨p,o',by simpa using h1,h2,by omega⟩;cases o.ro with
    |true=>exact this
    |false=>exact List.mem_cons_of_mem _ this
theorem Ex : ∀{os:List OSk} {m:List (Option Src)} {i:Nat} {f:Nat→Nat},os.length=m.length→(∀(p:Nat) (x:Option Src),m[p]?=some x→∃k,x=some ⟨k,none⟩∧f (i+p)=k)→(lf os i).map f=dX os m
 |[],[],i,f,_,_=>rfl
 |[],_::_,_,_,h,_=>by simp at h
 |_::_,[],_,_,h,_=>by simp at h
 |o::os,x::m,i,f,h,hf=>by
  obtain⟨k,h1,h2⟩:=hf 0 x rfl;subst h1
  have ih:= @Ex os m (i+1) f (by simpa using h) fun p y hy=>by
   obtain⟨k',h3,h4⟩:=hf (p+1) y (by simpa using hy);exact⟨k',h3,by rw[←h4];congr 1;omega⟩
  simp only[lf,dX];cases o.ro with
  |true=>exact ih
  |false=>
   simp only[zD,List.map_cons,ih];rw[Nat.add_zero]at h2;rw[h2]
theorem vt : ∀{os:List OSk} {m:List (Option Src)} {k:Nat},k∈dX os m→∃(i:Nat) (o:OSk) (x:Src),m[i]?=some (some x)∧os[i]?=some o∧o.ro=false∧x.k=k
 |[],[],k,h=>by simp[dX]at h
 |[],_::_,k,h=>by simp[dX]at h
 |_::_,[],k,h=>by simp[dX]at h
 |o::os,none::m,k,h=>by
  obtain⟨i,o',x,h1,h2,h3,h4⟩:=vt (os:=os) (m:=m) h;exact⟨i+1,o',x,by simpa using h1,by simpa using h2,h3,h4⟩
 |o::os,some x::m,k,h=>by
  simp only[dX]at h;cases hr:o.ro with
  |true=>
   rw[hr,zC]at h;obtain⟨i,o',x',h1,h2,h3,h4⟩:=vt (os:=os) (m:=m) h;exact⟨i+1,o',x',by simpa using h1,by simpa using h2,h3,h4⟩
  |false=>
   rw[hr,zD]at h;rcases List.mem_cons.1 h with h|h
   ·exact⟨0,o,x,rfl,rfl,hr,h.symm⟩
   ·obtain⟨i,o',x',h1,h2,h3,h4⟩:=vt (os:=os) (m:=m) h;exact⟨i+1,o',x',by simpa using h1,by simpa using h2,h3,h4⟩
theorem CI : ∀{m:List (Option Src)} {k:Nat},k∈gE m→∃(i:Nat) (x:Src),m[i]?=some (some x)∧x.k=k
 |[],k,h=>by simp[gE]at h
 |none::m,k,h=>by
  obtain⟨i,x,h1,h2⟩:=CI (m:=m) h;exact⟨i+1,x,by simpa using h1,h2⟩
 |some x::m,k,h=>by
  rcases List.mem_cons.1 h with h|h
  ·exact⟨0,x,rfl,h.symm⟩
  ·obtain⟨i,x',h1,h2⟩:=CI (m:=m) h;exact⟨i+1,x',by simpa using h1,h2⟩
theorem mf : ∀{os:List OSk} {m:List (Option Src)},(gE m).Nodup→(dX os m).Nodup
 |[],[],_=>aB
 |[],_::_,_=>aB
 |_::_,[],_=>aB
 |o::os,none::m,h=>mf (os:=os) (m:=m) h
 |o::os,some x::m,h=>by
  have h1:=List.nodup_cons.1 h;have ih:=mf (os:=os) h1.2;simp only[dX];cases o.ro with
  |true=>exact ih
  |false=>
   refine List.nodup_cons.2 ⟨fun h2=>h1.1 ?_,ih⟩;obtain⟨i,o',x',h3,_,_,h4⟩:=vt h2;rw[←h4];exact pA h3
theorem F3 {S:ae}{N:Nat}: ∀{os:List OSk} {i:Nat} {st st1:DSt},kW S N os i st=some st1→∀(p:Nat) (o:OSk) (x:Src),os[p]?=some o→o.ro=true→st1.m[i+p]?=some (some x)→x.k∈st1.lent
 |[],i,st,st1,h,p,o,x,ho,_,_=>by simp at ho
 |o'::os,i,st,st1,h,p,o,x,ho,hr,hx=>by
  simp only[kW]at h;split at h
  ·rename_i y hy;obtain⟨st2,h1,h2⟩:=ah h;cases p with
   |succ p=>exact F3 h2 p o x (by simpa using ho) hr (by rw[←hx];congr 1;omega)
   |zero=>
    simp at ho;subst ho;obtain⟨t1,t2⟩:=(yk h1).m;obtain⟨t3,t4⟩:=(iq h2).m
    have hx':st1.m[i]?=some y:=by
     rw[←nJ,t4,t2];exact yz (yz hy)
    rw[Nat.add_zero,hx']at hx;injection hx with hx
    subst hx;refine(iq h2).lent _ ?_;unfold IL at h1;split at h1
    ·cases hr
    ·rename_i hxx;injection hxx with hxx
     subst hxx;split at h1
     ·rename_i es ro l k _ es' fz cs hb;simp only[OSk.ro]at hr;subst hr;cases hk:(Nat.beq es es'&&(true|| !fz))with
      |false=>rw[hk]at h1;cases h1
      |true=>
       rw[hk,zC]at h1;exact(kX _ _ _ _ h1).lent _ aD
     ·cases h1
    ·rename_i hxx;cases hxx
    ·rename_i hxx;injection hxx with hxx
     subst hxx;rename_i ro s cut _ _;simp only[OSk.ro]at hr;subst hr;cases hk:(true|| !(aa S _).frozen)with
     |false=>rw[hk]at h1;cases h1
     |true=>
      rw[hk,zC]at h1;obtain⟨l,h3,h4⟩:=ah h1;injection h4 with h4
      subst h4;exact aD
    ·cases h1
  ·cases h
def eH (c:Ctx)(st:DSt)(bs:List Blk):Ctx:=⟨fun i=>match st.m[i]? with
 |some x=>rM c x
 |none=>none,bs,c.σ,fun b=>c.mut b∧¬∃k,(k∈gE st.m∨k∈st.lent)∧(aa c.S k).dim≠none∧c.μ k=some b⟩
structure Entered (c c0:Ctx)(objs:List OSk)(st:DSt)(bs:List Blk):Prop where
 rel:Rel c0
 sub: ∀i,(aa c0.S i).dim≠none→∃x,st.m[i]?=some x∧c0.μ i=rM c x∧∀y,x=some y→(aa c.S y.k).dim≠none∧(y.cut=none→(aa c0.S i).dim=(aa c.S y.k).dim)∧((aa c0.S i).frozen=false→(aa c.S y.k).frozen=false)
 own: ∀b,c0.own b→c.own b
 fz: ∀(i:Nat) (o:OSk),objs[i]?=some o→o.ro=true→(aa c0.S i).frozen=true∧(aa c0.S i).dim≠none
 len:bs.length=objs.length∧st.m.length=objs.length
theorem enter {c:Ctx}{sk:iX}{vals vs:List VV}{as:List Value}{st:DSt}{fs bs:List Blk}(hR:Rel c)(h0:sk.fix=[])(hd:fT c.S 0 [] sk vals=some st)(he:fK id sk st.ls=some (vs,fs,bs))(hf:F2 (VRel c) vals as):
  Entered c (eH c st bs) sk.free st bs∧F2 (VRel (eH c st bs)) vs as:=by
 obtain⟨ct0,vs0,fs0,bs0,p1,p2,p3⟩:=Er (f:=id) hR hd hf;rw[he]at p1;injection p1 with p1
 injection p1 with q1 p1
 injection p1 with q2 q3
 subst q1;subst q2;subst q3;obtain⟨ap1,ap2⟩:=ir hd;have hnd:=io ap1;rw[List.nil_append]at hnd ap2;obtain⟨y1,y2,y3⟩:=p3.get
 have sub: ∀i,(aa bs i).dim≠none→∃(x:Option Src) (o:OSk),st.m[i]?=some x∧sk.free[i]?=some o∧mh c ct0 o x (aa bs i):=by
  intro i hi;have hlt:=eS hi;have hb:=aA hlt;have hm:i<st.m.length:=by rw[y1];exact hlt
  obtain⟨o,h1,h2⟩:=y3 i _ _ (aA hm) hb;rw[nk hb];exact⟨_,o,aA hm,h1,h2⟩
 have hmu: ∀i x,st.m[i]?=some x→(eH c st bs).μ i=rM c x:=by
  intro i x hx
  show(match st.m[i]? with
   |some x=>rM c x
   |none=>none)=_
  rw[hx]
 have src: ∀i,(aa bs i).frozen=false→∀b,(eH c st bs).μ i=some b→∃x,st.m[i]?=some (some x)∧(aa c.S x.k).frozen=false∧c.μ x.k=some b∧x.k∈dX sk.free st.m:=by
  intro i hz b hm;obtain⟨x,o,h1,h2,h3⟩:=sub i (fE hz);rw[hmu i x h1]at hm;rcases h3 with⟨_,h3⟩|⟨h3,h4⟩
  ·rw[h3]at hz;cases hz
  ·cases x with
   |none=>cases hm
   |some x=>
    obtain⟨k,cut⟩:=x;rw[h3]at hz;exact⟨_,h1,h4.1 hz,hm,yP h1 h2 hz⟩
 have src2: ∀i,(aa bs i).dim≠none→∀b,(eH c st bs).μ i=some b→∃x,st.m[i]?=some (some x)∧(aa c.S x.k).dim≠none∧c.μ x.k=some b:=by
  intro i hz b hm;obtain⟨x,o,h1,h2,h3⟩:=sub i hz;rw[hmu i x h1]at hm;rcases h3 with⟨_,h3⟩|⟨h3,h4⟩
  ·rw[h3]at hz;exact(hz rfl).elim
  ·cases x with
   |none=>cases hm
   |some x=>
    obtain⟨k,cut⟩:=x;obtain⟨_,d,h5,_⟩:=h4;exact⟨_,h1,by rw[h5];simp,hm⟩
 have hT:Tell c (eH c st bs) 0 id st:=by
  refine⟨⟨rfl,fun b y hy hn=> ?_⟩,fun j x hl=> ?_,fun s hs hsd b hm=> ?_⟩
  ·rintro(⟨i,h1,h2⟩|h)
   ·obtain⟨x,_,h3,h4,_⟩:=src i h1 b h2;exact hn (.inl ⟨x.k,h3,h4⟩)
   ·exact hn h.1
  ·rcases hl with⟨h1,_⟩|⟨_,h2⟩
   ·omega
   ·rw[Nat.sub_zero,nJ]at h2
    have hlt:j<bs.length:=by
     rw[←y1];rcases Nat.lt_or_ge j st.m.length with h|h
     ·exact h
     ·rw[aC h]at h2;cases h2
    refine⟨hlt,fun d' hd'=> ?_⟩;obtain⟨x',o,h1,h3,h4⟩:=sub j (by rw[show(aa bs j).dim=some d' from hd'];simp);rw[h2]at h1;injection h1 with h1
    subst h1;have hd'':(aa bs j).dim=some d':=hd';rcases h4 with⟨_,h4⟩|⟨h4,h5⟩
    ·rw[h4]at hd'';cases hd''
    ·cases x with
     |none=>
      obtain⟨_,s,h6⟩:=h5;rw[h6]at hd'';injection hd'' with hd''
      subst hd'';exact⟨by simp,hmu j _ h2⟩
     |some x=>
      obtain⟨k,cut⟩:=x;obtain⟨_,d,h6,h7,_⟩:=h5;refine⟨d,h6, ?_⟩;cases cut with
      |none=>
       simp only at h7;rw[h7]at hd'';injection hd'' with hd''
       subst hd'';exact⟨rfl,hmu j _ h2,rfl⟩
      |some n=>
       simp only at h7;rw[h7]at hd'';injection hd'' with hd''
       subst hd'';exact⟨rfl,hmu j _ h2,rfl⟩
  ·rintro(⟨i,h1,h2⟩|h)
   ·obtain⟨x,_,h3,h4,h5⟩:=src i h1 b h2;have:=hR.inj x.k s b h3 hsd h4 hm;rw[this]at h5;exact Cw ap2 h5 hs
   ·exact h.2 ⟨s, .inr hs,hsd,hm⟩
 obtain⟨vs1,fs1,bs1,r1,r2,r3,r4⟩:=zk hR hT hd hf;rw[he]at r1;injection r1 with r1
 injection r1 with e1 r1
 injection r1 with e2 e3
 subst e1;subst e2;subst e3;obtain⟨_,_,y4⟩:=r4.get;refine⟨⟨⟨hR.ok,fun i i' b hz hdm hm hm'=> ?_,fun i=> ?_,fun i b hdm hm hb=> ?_,fun b hb=> ?_⟩,fun i hi=> ?_,fun b hb=> ?_,fun i o ho hr=> ?_,⟨y2.symm,by rw[y1,y2]⟩⟩,r2⟩
 ·obtain⟨x,h1,h2,h3,_⟩:=src i hz b hm;obtain⟨x',h4,h5,h6⟩:=src2 i' hdm b hm';exact yu hnd h1 h4 (hR.inj _ _ b h2 h5 h3 h6)
 ·by_cases hdm:(aa bs i).dim=none
  ·intro d hd';rw[show(aa (eH c st bs).S i).dim=none from hdm]at hd';cases hd'
  ·have hlt:=eS hdm;have hb:=aA hlt;have hm:i<st.m.length:=by rw[y1];exact hlt
   obtain⟨o,h1,h2⟩:=y4 i _ _ (aA hm) hb;exact h2.blkRel (ct:=eH c st bs) hR rfl (nk hb) fun _=>hmu i _ (aA hm)
 ·obtain⟨x',h4,h5,h6⟩:=src2 i hdm b hm;exact hb.2 ⟨x'.k, .inl (pA h4),h5,h6⟩
 ·rcases hb.1 with⟨k,h1,h2⟩|h
  ·cases hdd:(aa c.S k).dim with
   |none=>exact(fE h1 hdd).elim
   |some d=>
    obtain⟨y,_,_,hy,_⟩:=hR.block hdd h2;exact hR.ok b y hy
  ·exact hR.fbl b h
 ·obtain⟨x,o,h1,h2,h3⟩:=sub i hi;refine⟨x,h1,hmu i x h1,fun y hy=> ?_⟩;subst hy;rcases h3 with⟨_,h3⟩|⟨h3,h4,d,h5,h6,_⟩
  ·rw[show aa (eH c st bs).S i=aa bs i from rfl,h3]at hi;exact(hi rfl).elim
  ·refine⟨by rw[h5];simp,fun hc=> ?_,fun hz=>h4 (by rw[←h3];exact hz)⟩;rw[hc]at h6;rw[h5];exact h6
 ·obtain⟨i,h1,h2⟩:=hb;obtain⟨x,_,h3,h4,_⟩:=src i h1 b h2;exact⟨x.k,h3,h4⟩
 ·have hi:i<bs.length:=by
   rw[←y2];rcases Nat.lt_or_ge i sk.free.length with h|h
   ·exact h
   ·rw[aC h]at ho;cases ho
  have hm:i<st.m.length:=by rw[y1];exact hi
  obtain⟨o',h1,h2⟩:=y3 i _ _ (aA hm) (aA hi);rw[ho]at h1;injection h1 with h1
  subst h1;rw[show aa (eH c st bs).S i=aa bs i from rfl,nk (aA hi)];rcases h2 with⟨h2,_⟩|⟨h2,h3⟩
  ·subst h2;cases hr
  ·refine⟨h2.trans hr, ?_⟩;cases hx:st.m[i]with
   |none=>rw[hx]at h3;obtain⟨h3,_⟩:=h3;rw[h3]at hr;cases hr
   |some x=>
    obtain⟨k,cut⟩:=x;rw[hx]at h3;obtain⟨_,d,_,h4,_⟩:=h3;cases cut with
    |none=>simp only at h4;rw[h4];simp
    |some n=>simp only at h4;rw[h4];simp
end
section
open List renaming getElem?_eq_getElem → aA, getElem?_eq_none → aB
open Nat renaming lt_or_ge → aC, add_sub_cancel_left → aD
theorem EA : ∀{l:List Nat} {S:ae} {k:Nat},k∈l→(aa (tu l S) k).frozen=true
 |[],S,k,h=>by simp at h
 |a::l,S,k,h=>by
  simp only[tu];by_cases hk:k∈l
  ·exact EA hk
  ·have:k=a:=by
    rcases List.mem_cons.1 h with h|h
    ·exact h
    ·exact(hk h).elim
   subst this;rcases(lT l (dQ S k (aa S k).freeze)).2 k with h1|h1
   ·rw[h1,oT];split
    ·exact ew
    ·rename_i hn;have: ¬k<S.length:=fun e=>hn ⟨rfl,e⟩
     rw[nn (by omega)];rfl
   ·rw[h1];exact ew
theorem K0 {c c0 c':Ctx}{objs:List OSk}{sk:iX}{vals vs:List VV}{as:List Value}{st st':DSt}{fs bs bs0:List Blk}{Sf:ae}(hR:Rel c)(h0:c0=eH c st bs0)(hE:Entered c c0 objs st bs0)(hle:Le c0 c')(hR':Rel c')
  (hcut:EN st.m=true) (hok:Bi c.S (dX objs st.m)=true) (hnd:(gE st.m).Nodup) (hlent: ∀(i:Nat) (o:OSk) (x:Src),objs[i]?=some o→o.ro=true→st.m[i]?=some (some x)→x.k∈st.lent)
  (hro:sk.noRo=true) (hd:fT c'.S objs.length (lf objs 0) sk vals=some st') (he:fK (nF st.m objs.length c.S.length) sk st'.ls=some (vs,fs,bs)) (hf:F2 (VRel c') vals as) (hS:nq (dX objs st.m) fs (tu st.lent c.S)=some Sf):
  ∃ct:Ctx,ct.σ=c'.σ∧ct.S=Sf++bs∧ct.fb=c.fb∧(∀k,k<c.S.length→ct.μ k=c.μ k)∧Le c ct∧Rel ct∧F2 (VRel ct) vs as∧
   (∀k,k<c.S.length→k∉dX objs st.m→(aa c.S k).dim≠none→∀b y,c.μ k=some b→c.σ.m b=some y→ct.σ.m b=some y):=by
 have hσ0:c0.σ=c.σ:=by rw[h0];rfl
 have hfb0: ∀b,c0.fb b↔(c.mut b∧¬∃k,(k∈gE st.m∨k∈st.lent)∧(aa c.S k).dim≠none∧c.μ k=some b):=by rw[h0];exact fun b=>Iff.rfl
 have hS0:c0.S=bs0:=by rw[h0];rfl
 have hfb':c'.fb=c0.fb:=hle.fb;obtain⟨l1,l2⟩:=hE.len;obtain⟨s1,s2,s3,s4⟩:=dV hS;rw[(lT st.lent c.S).1]at s2 s4;have hfz:=lT st.lent c.S
 have pos: ∀i,i<objs.length→∃k,st.m[i]?=some (some ⟨k,none⟩)∧nF st.m objs.length c.S.length i=k:=by
  intro i hi;have hm:i<st.m.length:=by omega
  obtain⟨k,hk⟩:=EO hcut i _ (aA hm);have h1:st.m[i]?=some (some ⟨k,none⟩):=by rw[aA hm,hk]
  refine⟨k,h1, ?_⟩;unfold nF;rw[show Nat.blt i objs.length=true from Nat.ble_eq_true_of_le hi,zC,nJ,h1]
 have fmap:(lf objs 0).map (nF st.m objs.length c.S.length)=dX objs st.m:=by
  refine Ex l2.symm fun p x hx=> ?_
  have hp:p<objs.length:=by
   rw[←l2];rcases aC p st.m.length with h|h
   ·exact h
   ·rw[aB h]at hx;cases hx
  obtain⟨k,h1,h2⟩:=pos p hp;rw[hx]at h1;injection h1 with h1
  exact⟨k,h1,by rw[Nat.zero_add];exact h2⟩
 have fxlt: ∀j,j∈lf objs 0→j<objs.length∧∃o,objs[j]?=some o∧o.ro=false:=by
  intro j hj;obtain⟨p,o,h1,h2,h3⟩:=zt.1 hj;rw[Nat.zero_add]at h3;subst h3;refine⟨?_,o,h1,h2⟩;rcases aC j objs.length with h|h
  ·exact h
  ·rw[aB h]at h1;cases h1
 have fxw: ∀j,j∈lf objs 0→nF st.m objs.length c.S.length j∈dX objs st.m:=fun j hj=>by rw[←fmap];exact List.mem_map_of_mem hj
 have wfx: ∀k,k∈dX objs st.m→∃j,j∈lf objs 0∧nF st.m objs.length c.S.length j=k:=fun k hk=>by rw[←fmap]at hk;obtain⟨j,h1,h2⟩:=List.mem_map.1 hk;exact⟨j,h1,h2⟩
 have oth: ∀k,(∀j,j∈lf objs 0→nF st.m objs.length c.S.length j≠k)→k∉dX objs st.m:=fun k hk h=>by obtain⟨j,h1,h2⟩:=wfx k h;exact hk j h1 h2
 let ct:Ctx:=⟨fun i=>if i<c.S.length then c.μ i else match st'.m[i-c.S.length]? with
  |some x=>rM c' x
  |none=>none,Sf++bs,c'.σ,c.fb⟩
 have hget: ∀k,k<c.S.length→aa ct.S k=aa Sf k:=fun k hk=>fX (by rw[s2];exact hk)
 have hoth: ∀k,k<c.S.length→k∉dX objs st.m→aa ct.S k=aa (tu st.lent c.S) k:=fun k hk hn=>by rw[hget k hk,s3 k hn]
 have own0: ∀b,c0.own b→∃k,k∈dX objs st.m∧(aa c.S k).frozen=false∧c.μ k=some b:=by
  rintro b ⟨i,h1,h2⟩;obtain⟨x,h3,h4,h5⟩:=hE.sub i (fE h1);rw[h4]at h2;cases x with
  |none=>cases h2
  |some x=>
   obtain⟨h6,_,h8⟩:=h5 x rfl
   have hi:i<objs.length:=by
    rw[←l2];rcases aC i st.m.length with h|h
    ·exact h
    ·rw[aB h]at h3;cases h3
   have ho:objs[i]?=some objs[i]:=aA hi;refine⟨x.k,yP h3 ho ?_,h8 h1,h2⟩;cases hr:(objs[i]).ro with
   |false=>rfl
   |true=>rw[(hE.fz i _ ho hr).1]at h1;cases h1
 have nown: ∀k,k∉dX objs st.m→(aa c.S k).dim≠none→∀b,c.μ k=some b→¬c0.own b:=by
  intro k hk hdm b hm h;obtain⟨k',h1,h2,h3⟩:=own0 b h;have:=hR.inj k' k b h2 hdm h3 hm;subst this;exact hk h1
 have hun: ∀k,k<c.S.length→k∉dX objs st.m→(aa c.S k).dim≠none→∀b y,c.μ k=some b→c.σ.m b=some y→c'.σ.m b=some y:=fun k _ hk hdm b y hm hy=>hle.un b y (by rw[hσ0];exact hy) (nown k hk hdm b hm)
 have exists_blk: ∀k b,(aa c.S k).dim≠none→c.μ k=some b→∃y,c.σ.m b=some y:=by
  intro k b hdm hm;cases hdd:(aa c.S k).dim with
  |none=>exact(hdm hdd).elim
  |some d=>
   obtain⟨y,_,_,hy,_⟩:=hR.block hdd hm;exact⟨y,hy⟩
 have dimo: ∀k,k<c.S.length→k∉dX objs st.m→(aa ct.S k).dim=(aa c.S k).dim:=fun k hk hn=>by rw[hoth k hk hn];exact hfz.dim k
 have notin: ∀k,k<c.S.length→k∉dX objs st.m→(aa ct.S k).frozen=false→∀b,c.μ k=some b→(aa c.S k).frozen=false∧¬∃k',(k'∈gE st.m∨k'∈st.lent)∧(aa c.S k').dim≠none∧c.μ k'=some b:=by
  intro k hk hn hz b hm;rw[hoth k hk hn]at hz;have hz':(aa c.S k).frozen=false:=by rw[←hfz.fz hz];exact hz
  refine⟨hz', ?_⟩;rintro⟨k',h1,h2,h3⟩;have:=hR.inj k k' b hz' h2 hm h3;subst this;have hnl:k∉st.lent:=fun e=>by rw[EA e]at hz;cases hz
  rcases h1 with h1|h1
  ·obtain⟨i,x,h4,h5⟩:=CI h1
   have hi:i<objs.length:=by
    rw[←l2];rcases aC i st.m.length with h|h
    ·exact h
    ·rw[aB h]at h4;cases h4
   have ho:objs[i]?=some objs[i]:=aA hi;cases hr:(objs[i]).ro with
   |true=>exact hnl (by rw[←h5];exact hlent i _ x ho hr h4)
   |false=>exact hn (by rw[←h5];exact yP h4 ho hr)
  ·exact hnl h1
 have g:GT c c' ct objs.length (nF st.m objs.length c.S.length) (lf objs 0) sk st' fs bs:=by
  refine⟨rfl,rfl,by simp[ct,s2],fun k hk hn=> ?_,fun i j b hi hb=> ?_,fun j hj=>(fq hok (fxw j hj)).1,fun i b hb=> ?_,fun i=> ?_,fun k hk=>zE hk,fun i x hx=> ?_,fun b y hy hn=>hle.un b y (by rw[hσ0];exact hy) fun e=>hn (hE.own b e),fun b y hy hn=>hle.ow b y (by rw[hσ0];exact hy) fun e=>hn (hE.own b e),by rw[←hσ0];exact hle.n,fun k hk hn hdm b y hm hy=> ?_,fun k hk hn hdm s hs hz b hm e=> ?_,fun j hj hdm=> ?_,fun j hj=>(fq hok (fxw j hj)).2,
   fun j j' hj hj' e=> ?_,fun k b hdm hm hb=> ?_,fun j hj hn=> ?_,fun k hk hn hz b y hm hy=> ?_,fun k hk hn hz s hs hsd b hm e=> ?_,fun b hb=> ?_,fun j hj=>(fxlt j hj).1,JW hro, .inl hro⟩
  ·rw[hoth k hk (oth k hn)];rcases hfz.2 k with h|h
   ·exact .inl h
   ·exact .inr (.inl h)
  ·have hj:=List.mem_of_getElem? hi;have hw:=fxw j hj;have hlt:=(fq hok hw).1;show aa ct.S _=b;rw[hget _ hlt];refine s4 (mf hnd) i _ b ?_ hb hlt;rw[←fmap,List.getElem?_map,hi];rfl
  ·show aa (Sf++bs) (c.S.length+i)=b;rw[←s2,jO];exact nk hb
  ·unfold nF
   have:Nat.blt (objs.length+i) objs.length=false:=by
    cases hb:Nat.blt (objs.length+i) objs.length with
    |false=>rfl
    |true=>have:=Nat.le_of_ble_eq_true hb;omega
   rw[this,zD,aD]
  ·show(if c.S.length+i<c.S.length then _ else _)=_;rw[zF (by omega),aD,hx]
  ·exact hun k hk (oth k hn) (by rw[←dimo k hk (oth k hn)];exact hdm) b y hm hy
  ·have hdm':(aa c.S k).dim≠none:=by rw[←dimo k hk (oth k hn)];exact hdm
   obtain⟨y,hy⟩:=exists_blk k b hdm' e;exact hle.ow b y (by rw[hσ0];exact hy) (nown k (oth k hn) hdm' b e) ⟨s,hz,hm⟩
  ·obtain⟨k,h1,h2⟩:=pos j (fxlt j hj).1;have hj0:j<c0.S.length:=by rw[hS0,l1];exact(fxlt j hj).1
   cases hdd:(aa c'.S j).dim with
   |none=>exact(hdm hdd).elim
   |some d=>
    obtain⟨h3,h4⟩:=hle.al j d hj0 hdd;obtain⟨x,h5,h6,h7⟩:=hE.sub j (by rw[h3];simp);rw[h1]at h5;injection h5 with h5
    subst h5;obtain⟨h8,h9,_⟩:=h7 _ rfl;rw[h2];refine⟨by rw[←h9 rfl,h3],h4.trans h6,fun b y hm hy=>hle.ln j d b y hj0 hdd (h6.trans hm) (by rw[hσ0];exact hy)⟩
  ·obtain⟨k,h1,h2⟩:=pos j (fxlt j hj).1;obtain⟨k',h3,h4⟩:=pos j' (fxlt j' hj').1;rw[h2,h4]at e;subst e;exact yu hnd h1 h3 rfl
  ·have h1:=hR'.fbk k b hdm hm;rw[hfb',hfb0]at h1;refine h1 ⟨.inr hb, ?_⟩;rintro⟨k',_,h3,h4⟩;exact hR.fbk k' b h3 h4 hb
  ·obtain⟨k,h1,h2⟩:=pos j hj;have ho:objs[j]?=some objs[j]:=aA hj
   have hr:(objs[j]).ro=true:=by
    cases hr:(objs[j]).ro with
    |true=>rfl
    |false=>exact(hn (zt.2 ⟨j,_,ho,hr,by omega⟩)).elim
   obtain⟨h3,h4⟩:=hE.fz j _ ho hr;obtain⟨x,h5,h6,h7⟩:=hE.sub j h4;rw[h1]at h5;injection h5 with h5
   subst h5;obtain⟨h8,h9,_⟩:=h7 _ rfl;simp only at h8 h9;have hkl:k<c.S.length:=eS h8
   have hkw:k∉dX objs st.m:=by
    intro hk;obtain⟨i,o,x,g1,g2,g3,g4⟩:=vt hk;have:=yu hnd g1 h1 g4;subst this;rw[ho]at g2;injection g2 with g2
    rw[g2,g3]at hr;cases hr
   have hj0:j<c0.S.length:=by rw[hS0,l1];exact hj
   have hsame:=hle.fz j h3 h4;rw[h2];refine⟨by simp only[ct,List.length_append,s2];omega,fun d' hd'=> ?_⟩;rw[dimo k hkl hkw]at hd';refine⟨d',by rw[hsame,h9 trivial];exact hd',rfl, ?_,rfl⟩;show(if k<c.S.length then c.μ k else _)=_;rw[zE hkl,(hle.al j d' hj0 (by rw[hsame,h9 trivial];exact hd')).2,h6];rfl
  ·obtain⟨h1,h2⟩:=notin k hk (oth k hn) hz b hm;exact .inr (by rw[hfb',hfb0];exact⟨.inl ⟨k,h1,hm⟩,h2⟩)
  ·obtain⟨h1,h2⟩:=notin k hk (oth k hn) hz b e;have h3:=hR'.fbk s b hsd hm;rw[hfb',hfb0]at h3;exact h3 ⟨.inl ⟨k,h1,e⟩,h2⟩
  ·refine .inr ?_;rw[hfb',hfb0];refine⟨.inr hb, ?_⟩;rintro⟨k',_,h3,h4⟩;exact hR.fbk k' b h3 h4 hb
 obtain⟨r1,r2,r3⟩:=g.all hR hR' hd he hf;exact⟨ct,rfl,rfl,rfl,fun k hk=>zE hk,r1,r2,r3,hun⟩
end
section
open Bool renaming or_eq_false_iff → aC
open List renaming getElem?_eq_getElem → aA, getElem_mem → aB, all_eq_true → aD, any_eq_false → aE, length_append → aF
theorem zZ : ∀{js:List Nat} {bs:List Blk} {S S1:ae},js.length=bs.length→∃S2,nq js bs S1=some S2
 |[],[],_,S1,_=>⟨S1,rfl⟩
 |[],_::_,_,_,h=>by simp at h
 |_::_,[],_,_,h=>by simp at h
 |j::js,b::bs,S,S1,h=>by
  obtain⟨S2,h1⟩:=zZ (js:=js) (bs:=bs) (S:=S) (S1:=dQ S1 j b) (by simpa using h);exact⟨S2,h1⟩
theorem Cp {f:Nat→Nat}: ∀{os:List OSk} {ls rest:List Leaf} {bs:List Blk},tq f os ls=some (bs,rest)→(∀o,o∈os→o.ro=false)→∀b,b∈bs→b.dim≠none→b.frozen=false
 |[],ls,rest,bs,h,_,b,hb,_=>by
  simp only[tq]at h;injection h with h
  injection h with h1 h2
  subst h1;simp at hb
 |o::os,ls,rest,bs,h,hr,b,hb,hd=>by
  simp only[tq]at h;obtain⟨p,h1,h⟩:=ah h;obtain⟨q,h2,h⟩:=ah h;injection h with h
  injection h with h3 h4
  subst h3;rcases List.mem_cons.1 hb with hb|hb
  ·subst hb;have ho:=hr o List.mem_cons_self;cases o with
   |dead=>
    simp only[D9]at h1;injection h1 with h1
    rw[←h1]at hd;exact(hd rfl).elim
   |cells es ro l=>
    simp only[D9]at h1;obtain⟨v,h5,h6⟩:=ah h1;injection h6 with h6
    rw[←h6];exact ho
   |arr ro s=>
    cases ls with
    |nil=>simp[D9]at h1
    |cons x ls=>
     simp only[D9]at h1;obtain⟨v,h5,h6⟩:=ah h1;injection h6 with h6
     rw[←h6];exact ho
  ·exact Cp h2 (fun o ho=>hr o (List.mem_cons_of_mem _ ho)) b hb hd
theorem G4 {f:Nat→Nat}{sk:iX}{ls:List Leaf}{vs:List VV}{fs bs:List Blk}(h:fK f sk ls=some (vs,fs,bs))(hr:sk.noRo=true):(∀b,b∈fs→b.dim≠none→b.frozen=false)∧∀b,b∈bs→b.dim≠none→b.frozen=false:=by
 unfold iX.noRo at hr;rw[Bool.and_eq_true,aD,aD]at hr;unfold fK at h;obtain⟨p,h1,h⟩:=ah h;obtain⟨q,h2,h⟩:=ah h;obtain⟨r,h3,h⟩:=ah h;split at h
 ·injection h with h
  injection h with e1 h
  injection h with e2 e3
  subst e2;subst e3;exact⟨Cp (rest:=q.2) h2 fun o ho=>by simpa using hr.1 o ho,Cp (rest:=r.2) h3 fun o ho=>by simpa using hr.2 o ho⟩
 ·cases h
theorem GD {vs:List VV}{fs bs:List Blk}(h:qi vs fs bs=false):Ej vs=false∧(∀b,b∈fs→Ro b=false)∧∀b,b∈bs→Ro b=false:=by
 unfold qi at h;rw[aC,aC,aE,aE]at h;exact⟨h.1.1,fun b hb=>by simpa using h.1.2 b hb,fun b hb=>by simpa using h.2 b hb⟩
theorem H5 {l:List Blk}{i:Nat}(h:(aa l i).dim≠none):aa l i∈l:=by
 have hi:=eS h;rw[nk (aA hi)];exact aB hi
theorem E4 {c ctf:Ctx}{js:List Nat}{vs:List VV}{as:List Value}{fs bs:List Blk}{Sa Sb S1 S2:ae}(hR:Rel c)(hle:Le c ctf)(hRf:Rel ctf)(hf:F2 (VRel ctf) vs as)(hal:qi vs fs bs=false)
  (hz1: ∀b,b∈fs→b.dim≠none→b.frozen=false) (hz2: ∀b,b∈bs→b.dim≠none→b.frozen=false) (hla:Sa.length=c.S.length) (hlb:Sb.length=c.S.length) (hS1:nq js fs Sa=some S1) (hS2:nq js fs Sb=some S2) (hjs:js.Nodup) (hjl: ∀j,j∈js→j<c.S.length)
  (hS:ctf.S=S1++bs) (hμ: ∀k,k<c.S.length→ctf.μ k=c.μ k)
  (hoth: ∀k,k<c.S.length→k∉js→(aa Sa k=aa Sb k∧((aa Sa k).dim≠none→aa Sa k=aa c.S k))∨(aa Sb k=aa c.S k∧aa Sa k=(aa c.S k).freeze))
  (hun: ∀k,k<c.S.length→k∉js→(aa Sa k).dim≠none→∀b y,c.μ k=some b→c.σ.m b=some y→ctf.σ.m b=some y):
  Le c ⟨ctf.μ,S2++bs,ctf.σ,ctf.fb⟩∧Rel ⟨ctf.μ,S2++bs,ctf.σ,ctf.fb⟩∧F2 (VRel ⟨ctf.μ,S2++bs,ctf.σ,ctf.fb⟩) vs as:=by
 obtain⟨a1,a2,a3⟩:=GD hal;obtain⟨p1,p2,p3,p4⟩:=dV hS1;obtain⟨q1,q2,q3,q4⟩:=dV hS2;refine thaw hR hle hRf hf a1 (by rw[hS,aF,aF,p2,q2,hla,hlb]) hμ fun k=> ?_
 by_cases hk:k<c.S.length
 ·have g1:aa (S2++bs) k=aa S2 k:=fX (by rw[q2,hlb];exact hk);have g2:aa ctf.S k=aa S1 k:=by rw[hS];exact fX (by rw[p2,hla];exact hk)
  by_cases hj:k∈js
  ·obtain⟨i,hi,e⟩:=List.mem_iff_getElem.1 hj;have hi':i<fs.length:=by rw[←p1];exact hi
   have e1:=p4 hjs i k _ (by rw[aA hi,e]) (aA hi') (by rw[hla];exact hk);have e2:=q4 hjs i k _ (by rw[aA hi,e]) (aA hi') (by rw[hlb];exact hk);refine .inl ⟨by rw[g1,g2,e1,e2],fun hdm=> .inl ?_⟩;rw[g2,e1]at hdm⊢;exact⟨hz1 _ (aB hi') hdm,a2 _ (aB hi')⟩
  ·rw[g1,g2,q3 k hj,p3 k hj];rcases hoth k hk hj with⟨h1,h2⟩|⟨h1,h2⟩
   ·exact .inl ⟨h1.symm,fun hdm=> .inr ⟨hk,h2 hdm,hun k hk hj hdm⟩⟩
   ·exact .inr ⟨hk,h1,h2,fun hdm=>hun k hk hj (by rw[h2,cD];exact hdm)⟩
 ·have h1:k=c.S.length+(k-c.S.length):=by omega
  have g1:aa (S2++bs) k=aa bs (k-c.S.length):=by
   rw[h1,←hlb,←q2,jO]
   congr 1
   omega
  have g2:aa ctf.S k=aa bs (k-c.S.length):=by
   rw[hS,h1,←hla,←p2,jO]
   congr 1
   omega
  refine .inl ⟨by rw[g1,g2],fun hdm=> .inl ?_⟩;rw[g2]at hdm⊢;exact⟨hz2 _ (H5 hdm) hdm,a3 _ (H5 hdm)⟩
theorem C4 {c c0 c':Ctx}{objs:List OSk}{sk:iX}{vals vs:List VV}{as:List Value}{st st':DSt}{fs bs bs0:List Blk}{S2:ae}(hR:Rel c)(h0:c0=eH c st bs0)(hE:Entered c c0 objs st bs0)(hle:Le c0 c')(hR':Rel c')
  (hcut:EN st.m=true) (hok:Bi c.S (dX objs st.m)=true) (hnd:(gE st.m).Nodup) (hlent: ∀(i:Nat) (o:OSk) (x:Src),objs[i]?=some o→o.ro=true→st.m[i]?=some (some x)→x.k∈st.lent)
  (hro:sk.noRo=true) (hd:fT c'.S objs.length (lf objs 0) sk vals=some st') (he:fK (nF st.m objs.length c.S.length) sk st'.ls=some (vs,fs,bs)) (hf:F2 (VRel c') vals as)
  (hS:nq (dX objs st.m) fs (cond (qi vs fs bs) (tu st.lent c.S) c.S)=some S2):
  ∃ct:Ctx,ct.σ=c'.σ∧ct.S=S2++bs∧Le c ct∧Rel ct∧F2 (VRel ct) vs as∧lx (dX objs st.m) c ct:=by
 obtain⟨q1,q2,q3,q4⟩:=dV hS;obtain⟨Sf,hSf⟩:=zZ (S:=c.S) (S1:=tu st.lent c.S) q1;obtain⟨ct,e1,e2,e3,e4,e5,e6,e7,e8⟩:=K0 hR h0 hE hle hR' hcut hok hnd hlent hro hd he hf hSf
 have calm: ∀ct':Ctx,ct'.σ=ct.σ→(∀k,(aa ct'.S k).dim=(aa ct.S k).dim)→lx (dX objs st.m) c ct':=by
  intro ct' h1 h2 k hk hn hdm;obtain⟨_,p2,p3,_⟩:=dV hSf;have hl:(tu st.lent c.S).length=c.S.length:=(lT st.lent c.S).1;refine⟨?_,fun b hm=> ?_⟩
  ·rw[h2,e2,fX (by rw[p2,hl];exact hk),p3 k hn,(lT st.lent c.S).dim];exact hdm
  ·cases hdd:(aa c.S k).dim with
   |none=>exact(hdm hdd).elim
   |some d=>
    obtain⟨y,_,_,hy,_⟩:=hR.block hdd hm;rw[hy,h1];exact e8 k hk hn hdm b y hm hy
 cases hal:qi vs fs bs with
 |true=>
  rw[hal,zC,hSf]at hS;injection hS with hS
  subst hS;exact⟨ct,e1,e2,e5,e6,e7,calm ct rfl fun _=>rfl⟩
 |false=>
  rw[hal,zD]at hS;obtain⟨z1,z2⟩:=G4 he hro;have hfz:=lT st.lent c.S
  obtain⟨r1,r2,r3⟩:=E4 hR e5 e6 e7 hal z1 z2 hfz.1 rfl hSf hS (mf hnd) (fun j hj=>(fq hok hj).1) e2 e4 (fun k hk hn=>by
   rcases hfz.2 k with h|h
   ·exact .inl ⟨h,fun _=>h⟩
   ·exact .inr ⟨rfl,h⟩) (fun k hk hn hdm=>e8 k hk hn (by rw[←hfz.dim];exact hdm))
  refine⟨⟨ct.μ,S2++bs,ct.σ,ct.fb⟩,e1,rfl,r1,r2,r3,calm _ rfl fun k=> ?_⟩;obtain⟨_,p2,p3,p4⟩:=dV hSf;rw[e2];show(aa (S2++bs) k).dim=(aa (Sf++bs) k).dim;by_cases hk:k<c.S.length
  ·rw[fX (S:=S2) (by rw[q2,hal];exact hk),fX (S:=Sf) (by rw[p2,hfz.1];exact hk)];by_cases hw:k∈dX objs st.m
   ·obtain⟨i,hi,e⟩:=List.mem_iff_getElem.1 hw;have hi':i<fs.length:=by rw[←q1];exact hi
    obtain⟨_,_,_,t4⟩:=dV hS
    rw[t4 (mf hnd) i k _ (by rw[aA hi,e]) (aA hi') hk,
     p4 (mf hnd) i k _ (by rw[aA hi,e]) (aA hi') (by rw[hfz.1];exact hk)]
   ·obtain⟨_,_,t3,_⟩:=dV hS;rw[t3 k hw,p3 k hw,hfz.dim]
  ·have h1:k=c.S.length+(k-c.S.length):=by omega
   have g1:aa (S2++bs) k=aa bs (k-c.S.length):=by
    obtain⟨_,t2,_,_⟩:=dV hS;rw[h1,←t2,jO]
    congr 1
    omega
   have g2:aa (Sf++bs) k=aa bs (k-c.S.length):=by
    rw[h1,←hfz.1,←p2,jO]
    congr 1
    omega
   rw[g1,g2]
theorem OG {c c1 c':Ctx}{fx mov:List Nat}{sk:iX}{vals vs:List VV}{as:List Value}{st:DSt}{fs bs:List Blk}{S2:ae}(hR:Rel c)(hR':Rel c')(hw:Within c c1 fx mov)(hR1:Rel c1)(hle:Le c1 c')
  (hok:Bi c.S fx=true) (hro:sk.noRo=true) (hd:fT c'.S c.S.length fx sk vals=some st) (he:fK id sk st.ls=some (vs,fs,bs)) (hf:F2 (VRel c') vals as) (hS:nq fx fs (dL fx mov (qi vs fs bs) 0 c.S)=some S2):
  ∃ct:Ctx,ct.σ=c'.σ∧ct.S=S2++bs∧Le c ct∧Rel ct∧F2 (VRel ct) vs as:=by
 obtain⟨q1,q2,q3,q4⟩:=dV hS;obtain⟨Sf,hSf⟩:=zZ (S:=c.S) (S1:=dL fx mov true 0 c.S) q1;obtain⟨ct,e1,e2,e3,e4,e5,e6,e7,e8⟩:=P9 hR hR' hw hR1 hle hok (JW hro) hd he hf hSf;cases hal:qi vs fs bs with
 |true=>
  rw[hal,hSf]at hS;injection hS with hS
  subst hS;exact⟨ct,e1,e2,e5,e6,e7⟩
 |false=>
  rw[hal]at hS;obtain⟨z1,z2⟩:=G4 he hro;obtain⟨ap1,_⟩:=ir hd;have hnd:=io ap1;rw[List.nodup_append]at hnd;obtain⟨_,p2,p3,_⟩:=dV hSf;rw[fD]at p2
  obtain⟨r1,r2,r3⟩:=E4 hR e5 e6 e7 hal z1 z2 fD fD hSf hS hnd.1 (fun j hj=>(fq hok hj).1) e2 e4 (fun k hk hn=>by
   rw[fC hk,fC hk,Nat.zero_add,dO hn];cases eJ k mov with
   |true=>
    refine .inl ⟨rfl,fun h=> ?_⟩;cases hz:(aa c.S k).frozen with
    |true=>rfl
    |false=>rw[hz]at h;exact(h rfl).elim
   |false=>exact .inr ⟨rfl,rfl⟩) (fun k hk hn hdm=>(e8 k hk hn (by rw[e2,fX (by rw[p2];exact hk),p3 k hn];exact hdm)).2)
  exact⟨⟨ct.μ,S2++bs,ct.σ,ct.fb⟩,e1,rfl,r1,r2,r3⟩
end
section
open List renaming mem_cons_of_mem → aA, mem_cons_self → aB
open Nat renaming eq_of_beq_eq_true → aC
def LX (l:List Alt)(s:mV l):Option (Σ a:Alt,a.Ty):=LW l s fun a u=>some ⟨a,u⟩
theorem Fz {β:Type}: ∀(l:List Alt) (s:mV l) (k:(a:Alt)→a.Ty→Option β),LW l s k=(LX l s).bind fun p=>k p.1 p.2
 |[],_,_=>rfl
 |[a],t,k=>rfl
 |a::b::r, .inl t,k=>rfl
 |a::b::r, .inr s,k=>Fz (b::r) s k
def FSum.spec (F:FSum):Ab.Fu:=fun args σ K=> ∃(c:Ctx) (vals:List VV) (st:DSt) (t:pQ F.ins.shs) (o:mV F.outs) (p:Σ a:Alt,a.Ty) (v:VV) (fs bs:List Blk) (S':ae),
 c.σ=σ∧Rel c∧F2 (VRel c) vals args∧fT c.S 0 [] F.ins vals=some st∧Gn F.ins.shs st.ls=some t∧EN st.m=true∧Bi c.S (dX F.objs st.m)=true∧F.run t=some o∧LX F.outs o=some p∧
 fK (nF st.m F.objs.length c.S.length) p.1.sk (BB p.1.sk.shs p.2)=some ([v],fs,bs)∧nq (dX F.objs st.m) fs (cond (qi [v] fs bs) (tu st.lent c.S) c.S)=some S'∧
 ∀r σ',(∃ct:Ctx,ct.σ=σ'∧ct.S=S'++bs∧Le c ct∧Rel ct∧VRel ct v r∧lx (dX F.objs st.m) c ct)→K r σ'
theorem FSum.mono (F:FSum):PX F.spec:=by
 rintro args σ K K' hk ⟨c,vals,st,t,o,p,v,fs,bs,S',h1,h2,h3,h4,h5,h6,h7,h8,h9,h10,h11,h12⟩;exact⟨c,vals,st,t,o,p,v,fs,bs,S',h1,h2,h3,h4,h5,h6,h7,h8,h9,h10,h11,fun r σ' h=>hk r σ' (h12 r σ' h)⟩
def Inl.spec (I:Inl):Ab.Fu:=fun args σ K=> ∃(β:Type) (y:β) (c:Ctx) (vals:List VV) (k:VV→ae→Option β),c.σ=σ∧Rel c∧F2 (VRel c) vals args∧I.run β vals c.S k=some y∧∀r σ',cK c (yZ c.S.length) k y r σ'→K r σ'
theorem Inl.mono (I:Inl):PX I.spec:=by
 rintro args σ K K' hk ⟨β,y,c,vals,k,h1,h2,h3,h4,h5⟩;exact⟨β,y,c,vals,k,h1,h2,h3,h4,fun r σ' h=>hk r σ' (h5 r σ' h)⟩
def cy (tab:Tab):Ab.dn:=fun f args σ K=>(∃F,F∈tab.fs∧F.f=f∧F.spec args σ K)∨∃I,I∈tab.is∧I.f=f∧I.spec args σ K
theorem bh (tab:Tab):lG (cy tab):=by
 rintro f args σ K K' hk (⟨F,h1,h2,h3⟩|⟨F,h1,h2,h3⟩)
 ·exact .inl ⟨F,h1,h2,F.mono args σ K K' hk h3⟩
 ·exact .inr ⟨F,h1,h2,F.mono args σ K K' hk h3⟩
def cd (P:Program)(F:FSum):Prop:=LL P F.f F.spec
def B3 (P:Program)(I:Inl):Prop:=LL P I.f I.spec
def cE (P:Program)(tab:List FSum):Prop:= ∀F,F∈tab→cd P F
def ad (P:Program)(is:List Inl):Prop:= ∀I,I∈is→B3 P I
theorem ad.nil (P:Program):ad P []:=fun F h=>by cases h
theorem ad.cons {P:Program}{F:Inl}{tab:List Inl}(h:B3 P F)(ht:ad P tab):ad P (F::tab):=fun G hG=>by
 rcases List.mem_cons.1 hG with rfl|hG
 ·exact h
 ·exact ht G hG
theorem cE.nil (P:Program):cE P []:=fun F h=>by cases h
theorem cE.cons {P:Program}{F:FSum}{tab:List FSum}(h:cd P F)(ht:cE P tab):cE P (F::tab):=fun G hG=>by
 rcases List.mem_cons.1 hG with rfl|hG
 ·exact h
 ·exact ht G hG
theorem vk {P:Program}{tab:Tab}(h:cE P tab.fs)(h':ad P tab.is)(f:FuncId):LL P f (cy tab f):=by
 rintro B μ σ w args cargs K (⟨F,h1,h2,h3⟩|⟨F,h1,h2,h3⟩) hR ha
 ·subst h2;exact h F h1 B μ σ w args cargs K h3 hR ha
 ·subst h2;exact h' F h1 B μ σ w args cargs K h3 hR ha
theorem GR {β:Type}{c:Ctx}{k:VV→ae→Option β}{y:β}{f:Nat}{args:List VV}{as:List Value}(hR:Rel c)(hf:F2 (VRel c) args as): ∀{tab:List FSum},Ck tab f args c.S k=some y→(fun f args σ K=> ∃F,F∈tab∧F.f=f∧F.spec args σ K:Ab.dn) f as c.σ (cK c (lS tab f args c.S) k y)
 |[],h=>by cases h
 |F::r,h=>by
  have next:Ck r f args c.S k=some y→lS (F::r) f args c.S=lS r f args c.S→(fun f args σ K=> ∃G,G∈F::r∧G.f=f∧G.spec args σ K:Ab.dn) f as c.σ (cK c (lS (F::r) f args c.S) k y):=by
   intro h1 h2;obtain⟨G,h3,h4,h5⟩:=GR hR hf h1;rw[h2];exact⟨G,aA _ h3,h4,h5⟩
  simp only[Ck]at h;cases hb:Nat.beq F.f f with
  |false=>
   rw[hb,zD]at h;exact next h (by simp only[lS,hb,zD])
  |true=>
   rw[hb,zC]at h;cases hd:fT (uK F.vals args c.S) 0 [] F.ins args with
   |none=>
    rw[hd]at h;exact next h (by simp only[lS,hb,zC,hd])
   |some st=>
    rw[hd]at h;simp only at h;cases ht:Gn F.ins.shs st.ls with
    |none=>
     rw[ht]at h;exact next h (by simp only[lS,hb,zC,hd,ht])
    |some t=>
     rw[ht]at h;simp only at h;obtain⟨h1,h2⟩:=ai h;rw[Bool.and_eq_true]at h1;have hdirty:lS (F::r) f args c.S=dX F.objs st.m:=by simp only[lS,hb,zC,hd,ht]
     rw[hdirty];unfold P1 at h2;obtain⟨o,h3,h4⟩:=ah h2;rw[Fz]at h4;obtain⟨p,h5,h6⟩:=ah h4;have hfz:=Cz F.vals args c.S;split at h6
     ·rename_i v fs bs he;split at h6
      ·rename_i S' hS;refine⟨F,aB,aC hb,⟨c.μ,uK F.vals args c.S,c.σ,c.fb⟩,args,st,t,o,p,v,fs,bs,S',rfl,hfz.rel hR,VRel.frames hfz.le hf,hd,ht,h1.1,h1.2,h3,h5,he,hS, ?_⟩;rintro rv σ' ⟨ct,e1,e2,e3,e4,e5,e6⟩;exact⟨v,ct,e1,hfz.le.trans e3,e4,(hfz.calm _).trans e6 hfz.le,e5,by rw[e2];exact h6⟩
      ·cases h6
     ·cases h6
theorem GS {β:Type}{c:Ctx}{k:VV→ae→Option β}{y:β}{f:Nat}{args:List VV}{as:List Value}(hR:Rel c)(hf:F2 (VRel c) args as): ∀{is:List Inl},JS is f args c.S k=some y→∃I,I∈is∧I.f=f∧I.spec as c.σ (cK c (yZ c.S.length) k y)
 |[],h=>by cases h
 |I::r,h=>by
  simp only[JS]at h;cases hb:Nat.beq I.f f with
  |false=>
   rw[hb,zD]at h;obtain⟨J,h1,h2,h3⟩:=GS hR hf h;exact⟨J,aA _ h1,h2,h3⟩
  |true=>
   rw[hb,zC]at h;exact⟨I,aB,aC hb,β,y,c,args,k,rfl,hR,hf,h,fun r σ' h=>h⟩
theorem GU {β:Type}{c:Ctx}{k:VV→ae→Option β}{y:β}{f:Nat}{args:List VV}{as:List Value}(hR:Rel c)(hf:F2 (VRel c) args as){tab:Tab}(h:JT tab f args c.S k=some y):cy tab f as c.σ (cK c (FD tab f args c.S) k y):=by
 unfold JT at h;unfold FD;cases hb:Oy tab.is f with
 |false=>
  rw[hb,zD]at h;rw[zD];exact .inl (GR hR hf h)
 |true=>
  rw[hb,zC]at h;rw[zC];exact .inr (GS hR hf h)
theorem ld {β:Type}{tab:Tab}{c:Ctx}{e:bu}{ea:br}{k:VV→ae→Option β}{y:β}(hR:Rel c)(he:an c e ea){op:AOp}(h:zp tab op e c.S k=some y):bj (cy tab) op ea c.σ (cK c (wK tab op e c.S) k y):=by
 cases op<;>simp only[zp]at h
 case move x=>exact OP hR he h
 case pick t a b=>
  split at h
  ·rename_i p hp;exact Pf hR he hp h
  ·cases h
 case alloc es z=>exact LV hR h
 case box es x=>exact Qp hR he h
 case build z ps=>
  split at h
  ·rename_i cs hc;exact L6 hR he hc h
  ·cases h
 case buildSlice es ln z ps=>
  split at h
  ·rename_i cs hc;exact D5 hR he hc h
  ·cases h
 case load x=>exact OK hR he h
 case loadN n x=>exact MI hR he h
 case store n a x=>exact NA hR he (fun q hq=>zl _ hq) h
 case nilCheck x=>exact Hu hR he h
 case bin op x z=>exact Qm hR he h
 case eqv kd neg x z=>
  split at h
  ·rename_i p hp;exact Qt hR he hp h
  ·cases h
 case eqCells neg ks x z=>
  split at h
  ·rename_i a b h1 h2;split at h
   ·rename_i p hp;exact IQ hR he h1 h2 hp h
   ·cases h
  ·cases h
 case un op x=>exact RS hR he h
 case conv kd x=>
  split at h
  ·rename_i n hn;exact Oc hR he hn h
  ·cases h
 case mkFunc f a b=>exact K2 hR he h
 case makeSlice es bytes z l m=>exact OM hR he h
 case slice es x lo hi=>exact Ny hR he h
 case sliceStr x lo hi=>exact Ia hR he h
 case sliceArr es n x lo hi=>exact H9 hR he h
 case off n x=>exact QH hR he h
 case idx es x i=>exact Qw hR he h
 case idxA ln es x i=>exact Oz hR he h
 case fieldV o n agg x=>
  split at h
  ·rename_i cs hc;exact KQ hR he hc h
  ·cases h
 case indexV ln es agg x i=>
  split at h
  ·rename_i cs kd i h1 h2;exact KW hR he h1 h2 h
  ·cases h
 case indexS x i=>
  split at h
  ·rename_i l kd i h1 h2;exact KV hR he h1 h2 h
  ·cases h
 case extract x i=>
  split at h
  ·rename_i vs hc;exact IT hR he hc h
  ·cases h
 case call f xs=>exact GU hR (Bs he xs) h
 case callv x xs=>
  have hx:=bg he x;split at h
  ·rename_i f a b hv;rw[hv]at hx
   have: ∃a' b',ea.ev x= .func (.func f) a' b'∧F2 (VRel c) a a'.toList∧F2 (VRel c) b b'.toList:=by
    generalize ea.ev x=xa at hx;cases hx;exact⟨_,_,rfl,by assumption,by assumption⟩
   obtain⟨a',b',h1,h2,h3⟩:=this;obtain⟨h0,h⟩:=ai h;have:=GU hR ((h2.append (Bs he xs)).append h3) h;simp only[bj,h1,wK,hv];exact⟨by simpa using h0,this⟩
  ·cases h
 case append es bytes s x=>exact IA hR he (fun q hq=>zl _ hq) h fun h=>Kx hR he (fun q hq=>zl _ hq) h
 case stuck=>cases h
 case capN x=>
  split at h
  ·rename_i hx;exact N7 hR he hx h
  ·cases h
 case sliceX x hi mx=>exact Lm hR he h
 case range x=>
  split at h
  ·rename_i l hx;exact Nf hR he hx h
  ·cases h
 case next x=>exact OU hR he (fun q hq=>zl _ hq) h
 case newB=>exact OT hR h
 case makeM kd=>exact MO hR h
 case lookM kd ok x i=>
  split at h
  ·rename_i key hk;exact MJ hR he hk h
  ·cases h
 case updM kd x i v=>
  split at h
  ·rename_i key k' n hk hn;exact PD hR he hk hn (fun q hq=>by simp only[wK,hq,Hz];exact List.mem_singleton.2 rfl) h
  ·cases h
 case lenM kd x=>exact OI hR he h
 case encR x=>
  split at h
  ·rename_i n hx;exact Oi hR he hx h
  ·cases h
 case strOf x=>exact NB hR he h
 case strOfR x=>exact Py hR he h
 case runesOf x=>exact Nn hR he h
 case mark x=>exact ON hR he h
 case appendZ es bytes z s x=>exact IB hR he (fun q hq=>zl _ hq) h
 case copy es s x=>exact Od hR he (fun q hq=>zl _ hq) h
 case len x=>
  split at h
  ·cases h
  ·rename_i hns;split at h
   ·rename_i n hn;exact QC hR he hns hn h
   ·cases h
 case lenS x=>
  split at h
  ·rename_i l hl;exact OJ hR he hl h
  ·cases h
 case lenC n=>exact bl rfl (cK.same hR (.int _ _) h)
 case most x z=>
  split at h
  ·rename_i kd a kd' b h1 h2;exact OO hR he h1 h2 h
  ·cases h
 case least x z=>
  split at h
  ·rename_i kd a kd' b h1 h2;exact MD hR he h1 h2 h
  ·cases h
end
end Go.V
