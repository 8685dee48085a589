/- A part of the proofs of this claim: what functions of the program answer on an abstract machine, and plain laws. No condition. -/
import Derived.Test.YtbocegmeciaanaaGreatA4
set_option linter.unusedVariables false
set_option linter.unusedSimpArgs false
set_option linter.unusedSectionVars false
namespace Go.V
open Go.Ab
open Option renaming some->C,none->O
open Bool renaming true->Za,false->Zb
open Decidable renaming decide->Zc
section
open Bool renaming and_eq_true -> cB
open List renaming append_assoc -> aD, singleton_append -> bD, mem_cons_of_mem -> cD, getElem?_eq_none -> dD, length_take -> eD, take_of_length_le -> fB
open Nat renaming beq -> aB, eq_of_beq_eq_true -> bB, lt_or_ge -> dB
structure Still (c ct:Ctx):Prop where
 Y:ct.Y=c.Y
 nm: ∀b y,c.Y.m b=C y->¬c.mut b->¬ct.mut b
section
variable {c ct:Ctx}
theorem zq (h:Still c ct): ∀(s:Sh) (x:El s) (as:List Value),F2 (VRel c) (gk s x) as->F2 (VRel ct) (gk s x) as
 | .int k,n,as,hf=>by
  cases hf with
  |cons h1 h2=>cases h2;cases h1;exact .cons (.int _ _) .nil
 | .bool,b,as,hf=>by
  cases hf with
  |cons h1 h2=>cases h2;cases h1;exact .cons (.bool _) .nil
 | .str,l,as,hf=>by
  cases hf with
  |cons h1 h2=>cases h2;cases h1;exact .cons (.str (by assumption)) .nil
 | .list s,l,as,hf=>by
  cases hf with
  |cons h1 h2=>
   cases h2;refine .cons ?_ .nil;cases h1 with
   |lstn hq=>exact .lstn hq
   |lst hn hy he h3 h4 h5 h6=>
    refine .lst (h.nm _ _ hy hn) (by rw[h.Y];exact hy) he h3 h4 h5 ?_;clear hy he h4 h5 hn;subst h3;revert h6;rename_i b p cp y;generalize (y.cells.drop _).take _=as;clear y cp p b;intro h6;induction l generalizing as with
    |nil=>cases h6;exact .nil
    |cons x l ih=>
     rw[jr]at h6⊢;obtain⟨m1,m2,rfl,h7,h8⟩:=F2.app_left h6;exact(zq h s x m1 h7).append (ih _ h8)
 | .pair a b,x,as,hf=>by
  simp only[gk]at hf⊢;obtain⟨m1,m2,rfl,h7,h8⟩:=F2.app_left hf;exact(zq h a x.1 m1 h7).append (zq h b x.2 m2 h8)
theorem bH7 (h:Still c ct){s:Sh}{l:List (El s)}: ∀{as:List Value},F2 (VRel c) (io s l) as->F2 (VRel ct) (io s l) as:=by
 induction l with
 |nil=>intro as h6;cases h6;exact .nil
 |cons x l ih=>
  intro as h6;rw[jr]at h6⊢;obtain⟨m1,m2,rfl,h7,h8⟩:=F2.app_left h6;exact(zq h s x m1 h7).append (ih h8)
theorem az4.still (h:Still c ct){s:Sh}{l:List (El s)}{a:Value}(hl:az4 c s l a):az4 ct s l a:=by
 rcases hl with h1|⟨b,p,cp,y,h1,h2,h3,h4,h5,h6⟩
 .exact .inl h1
 .exact .inr ⟨b,p,cp,y,h1,by rw[h.Y];exact h2,h3,h4,h5,bH7 h h6⟩
structure Sub (st st':DSt):Prop where
 m: ∃t,st'.m=st.m++t
 lent: ∀k∈st.lent,k∈st'.lent
theorem Sub.refl (st:DSt):Sub st st:=⟨⟨[],by simp⟩,λ_ h=>h⟩
theorem Sub.trans {a b d:DSt}(h:Sub a b)(k:Sub b d):Sub a d:=by
 obtain⟨t,h1⟩:=h.m;obtain⟨u,h2⟩:=k.m;exact⟨⟨t++u,by rw[h2,h1,aD]⟩,λi hi=>k.lent i (h.lent i hi)⟩
def bb1 (N:Nat)(m:List (Option Src))(j:Nat)(x:Option Src):Prop:=(j<N/\x=C ⟨j,O⟩)∨(N<=j/\nth m (j-N)=C x)
theorem bx0 {α:Type}{l t:List α}{i:Nat}{x:α}(h:nth l i=C x):nth (l++t) i=C x:=by
 rw[ar8]at h⊢
 have hi:i<l.length:=by
  rcases dB i l.length with h1|h1
  .exact h1
  .rw[dD h1]at h;cases h
 rw[List.getElem?_append_left hi];exact h
theorem bb1.sub {N:Nat}{st st':DSt}(hs:Sub st st'){j:Nat}{x:Option Src}(h:bb1 N st.m j x):bb1 N st'.m j x:=by
 rcases h with h|⟨h1,h2⟩
 .exact .inl h
 .obtain⟨t,h3⟩:=hs.m;exact .inr ⟨h1,by rw[h3];exact bx0 h2⟩
theorem aG3 {N:Nat}{st st':DSt}{j:Nat}{x:Option Src}(h:st.link N j x=C st'):bb1 N st'.m j x/\st'.ls=st.ls/\st'.lent=st.lent/\Sub st st':=by
 unfold DSt.link at h;cases hb:Nat.blt j N with
 |true=>
  rw[hb,yB]at h;split at h
  .rename_i k;cases hk:aB k j with
   |false=>rw[hk]at h;cases h
   |true=>
    rw[hk]at h;injection h with h
    subst h;have:=bB hk;subst this;exact⟨.inl ⟨Nat.le_of_ble_eq_true hb,rfl⟩,rfl,rfl,Sub.refl _⟩
  .cases h
 |false=>
  rw[hb,yD]at h
  have hN:N<=j:=by
   rcases dB j N with h1|h1
   .rw[show Nat.blt j N=Za from Nat.ble_eq_true_of_le h1]at hb;cases hb
   .exact h1
  split at h
  .rename_i k hn;split at h
   .rename_i k';cases hk:aB k k' with
    |false=>rw[hk]at h;cases h
    |true=>
     rw[hk]at h;injection h with h
     subst h;have:=bB hk;subst this;exact⟨.inr ⟨hN,hn⟩,rfl,rfl,Sub.refl _⟩
   .cases h
  .cases h
  .rename_i hn;cases hk:aB (j-N) st.m.length with
   |false=>rw[hk]at h;cases h
   |true=>
    rw[hk]at h;injection h with h
    subst h;have:=bB hk;refine⟨.inr ⟨hN, ?_⟩,rfl,rfl,⟨⟨[x],rfl⟩,λ_ h=>h⟩⟩;rw[ar8,this];simp
def Lk (c ct:Ctx)(x:Option Src)(k':Nat):Prop:=k'<ct.S.length/\∀d',(cc ct.S k').dim=C d'->match x with
 |none=>d'.2=0/\ct.Z k'=O
 |some ⟨k,cut⟩=> ∃d,(cc c.S k).dim=C d/\d'.1=d.1/\ct.Z k'=c.Z k/\(match cut with
  |none=>d'.2=d.2
  |some n=>d'.2=min (n*d.1) d.2)
structure Tell (c ct:Ctx)(N:Nat)(f:Nat->Nat)(stf:DSt):Prop extends Still c ct where
 lk: ∀j x,bb1 N stf.m j x->Lk c ct x (f j)
 lent: ∀k,k∈stf.lent->(cc c.S k).dim≠O->∀b,c.Z k=C b->¬ct.mut b
theorem SlR.tell {k k' n:Nat}{d:Nat×Nat}{d2':Nat}{a:Value}(hY:ct.Y=c.Y)(hZ:ct.Z k'=c.Z k)(h2:d2'=n*d.1)(h:SlR c k 0 n d a):SlR ct k' 0 n (d.1,d2') a:=by
 rcases h with⟨h1,_,h3,h4,h5⟩|⟨b,cp,y,h1,h3,h4,h5,h6,h7⟩
 .exact .inl ⟨h1,rfl,h3,hZ.trans h4,by rw[h2,h3];simp⟩
 .exact .inr ⟨b,cp,y,h1,hZ.trans h3,by rw[h2,Nat.zero_add];exact Nat.le_refl _,h5,by rw[hY];exact h6,h7⟩
theorem dc6 {N:Nat}{f:Nat->Nat}{stf:DSt}(hR:gw c)(hT:Tell c ct N f stf){s:Sh}{v:VV}{l:List (El s)}{a:Value}(h:cX8 c.S s v=C l)(hv:VRel c v a)(hl: ∀k,bC4 v=C k->k∈stf.lent):VRel ct (.lst s l) a:=by
 obtain⟨h1,h2⟩:=dn3 hR h hv;refine(h1.still hT.toStill).rel λb p n cp e hc=> ?_
 rcases h2 b p n cp e hc with h3|⟨k,h3,h4,h5⟩
 .rcases h1 with⟨q,e1,_⟩|⟨b',p',cp',y,e1,e2,_⟩
  .rw[e1]at e;injection e with _ _ e
   exact(hc e.symm).elim
  .rw[e1]at e;injection e with e _ _
   injection e with e
   injection e with e
   subst e;exact hT.nm _ _ e2 h3
 .exact hT.lent k (hl k h3) h4 b h5
theorem ci8 {st:DSt}{v:VV}:(∀k,bC4 v=C k->k∈(st.lend v).lent)/\(st.lend v).m=st.m/\(st.lend v).ls=st.ls/\(∀k∈st.lent,k∈(st.lend v).lent):=by
 cases v<;>refine⟨λk h=> ?_,rfl,rfl,λk h=> ?_⟩<;>first|(cases h;done)|(injection h with h;subst h;exact List.mem_cons_self)|exact cD _ h|exact h
mutual
theorem dv5 {S:ci}{N:Nat}: ∀(sk:Sk) (v:VV) (st st1:DSt),dec S N sk v st=C st1->Sub st st1
 | .undef,v,st,st1,h=>by
  simp only[dec]at h;injection h with h;subst h;exact Sub.refl _
 | .leaf s,v,st,st1,h=>by
  simp only[dec]at h;split at h
  .rename_i k k' n;cases hk:Zc (k'=k)with
   |false=>rw[hk]at h;cases h
   |true=>rw[hk]at h;injection h with h;subst h;exact⟨⟨[],by simp[DSt.push]⟩,λ_ h=>h⟩
  .injection h with h;subst h;exact⟨⟨[],by simp[DSt.push]⟩,λ_ h=>h⟩
  .injection h with h;subst h;exact⟨⟨[],by simp[DSt.push]⟩,λ_ h=>h⟩
  .rename_i s;obtain⟨l,h1,h2⟩:=cf h;injection h2 with h2;subst h2
   obtain⟨_,h4,_,h6⟩:= @ci8 st v;exact⟨⟨[],by simp[DSt.push,h4]⟩,h6⟩
  .cases h
 | .cint k n,v,st,st1,h=>by
  cases v<;>simp only[dec]at h<;>try(cases h;done)
  rename_i k' n';cases hk:(Zc (k'=k)&&Zc (n'=n))with
  |false=>rw[hk]at h;cases h
  |true=>rw[hk]at h;injection h with h;subst h;exact Sub.refl _
 | .nilp,v,st,st1,h=>by
  cases v<;>simp only[dec]at h<;>try(cases h;done)
  injection h with h;subst h;exact Sub.refl _
 | .nils,v,st,st1,h=>by
  cases v<;>simp only[dec]at h<;>try(cases h;done)
  injection h with h;subst h;exact Sub.refl _
 | .nilf,v,st,st1,h=>by
  cases v<;>simp only[dec]at h<;>try(cases h;done)
  injection h with h;subst h;exact Sub.refl _
 | .ptr j o,v,st,st1,h=>by
  cases v<;>simp only[dec]at h<;>try(cases h;done)
  rename_i k o';cases hk:aB o o' with
  |false=>rw[hk]at h;cases h
  |true=>rw[hk,yB]at h;exact(aG3 h).2.2.2
 | .full j,v,st,st1,h=>by
  simp only[dec]at h;split at h
  .exact(aG3 h).2.2.2
  .exact(aG3 h).2.2.2
  .exact(aG3 h).2.2.2
  .cases h
 | .pin s o,v,st,st1,h=>by
  cases v<;>simp only[dec]at h<;>try(cases h;done)
  rename_i s' x o';cases hk:aB o o' with
  |false=>rw[hk]at h;cases h
  |true=>
   rw[hk]at h;obtain⟨y,h1,h2⟩:=cf h;injection h2 with h2;subst h2;exact⟨⟨[],by simp[DSt.push]⟩,λ_ h=>h⟩
 | .fn g a b,v,st,st1,h=>by
  cases v<;>simp only[dec]at h<;>try(cases h;done)
  rename_i g' a' b';cases hk:aB g g' with
  |false=>rw[hk]at h;cases h
  |true=>
   rw[hk]at h;obtain⟨st2,h1,h2⟩:=cf h;exact(ah4 a a' st st2 h1).trans (ah4 b b' st2 st1 h2)
 | .agg l,v,st,st1,h=>by
  cases v<;>simp only[dec]at h<;>try(cases h;done)
  exact ah4 l _ st st1 h
 | .tup l,v,st,st1,h=>by
  cases v<;>simp only[dec]at h<;>try(cases h;done)
  exact ah4 l _ st st1 h
theorem ah4 {S:ci}{N:Nat}: ∀(l:List Sk) (vs:List VV) (st st1:DSt),bo8 S N l vs st=C st1->Sub st st1
 |[],vs,st,st1,h=>by
  cases vs<;>simp only[bo8]at h<;>try(cases h;done)
  injection h with h;subst h;exact Sub.refl _
 |k::r,vs,st,st1,h=>by
  cases vs with
  |nil=>simp only[bo8]at h;cases h
  |cons v vs=>
   simp only[bo8]at h;obtain⟨st2,h1,h2⟩:=cf h;exact(dv5 k v st st2 h1).trans (ah4 r vs st2 st1 h2)
end
theorem dd5 {N:Nat}{f:Nat->Nat}{stf:DSt}(hT:Tell c ct N f stf){j k:Nat}{a:Value}(hl:bb1 N stf.m j (C ⟨k,O⟩))(hv:VRel c (.full k) a):VRel ct (.full (f j)) a:=by
 obtain⟨h1,h2⟩:=hT.lk _ _ hl;cases hv with
 |full hk ho hd=>
  refine .full h1 ho λd' hd'=> ?_
  obtain⟨d,h3,h4,h5,h6⟩:=h2 d' hd';obtain⟨n,h7,h8⟩:=hd d h3;simp only at h6;refine⟨n,by rw[h4,h6];exact h7, ?_⟩;have:=h8.tell hT.Y h5 (d2':=d'.2) (by rw[h6,h7]);rw[<-h4]at this;exact this
theorem dk9 {N:Nat}{f:Nat->Nat}{stf:DSt}(hT:Tell c ct N f stf){j k n:Nat}{a:Value}(hl:bb1 N stf.m j (C ⟨k,C n⟩))(hv:VRel c (.part k 0 n) a):VRel ct (.full (f j)) a:=by
 obtain⟨h1,h2⟩:=hT.lk _ _ hl;cases hv with
 |part hk ho hd=>
  refine .full h1 ho λd' hd'=> ?_
  obtain⟨d,h3,h4,h5,h6⟩:=h2 d' hd';simp only at h6
  have h7:n*d.1<=d.2:=by
   rcases hd d h3 with⟨_,_,e,_,_⟩|⟨_,_,_,_,_,e,_⟩
   .rw[e];simp
   .rwa [Nat.zero_add]at e
  rw[Nat.min_eq_left h7]at h6;refine⟨n,by rw[h4,h6], ?_⟩;have:=(hd d h3).tell hT.Y h5 (d2':=d'.2) h6;rw[<-h4]at this;exact this
theorem dp0 {N:Nat}{f:Nat->Nat}{stf:DSt}(hT:Tell c ct N f stf){j:Nat}(hl:bb1 N stf.m j O):VRel ct (.full (f j)) (.slice O 0 0):=by
 obtain⟨h1,h2⟩:=hT.lk _ _ hl;refine .full h1 rfl λd' hd'=> ?_
 obtain⟨h3,h4⟩:=h2 d' hd';exact⟨0,by rw[h3];simp, .inl ⟨rfl,rfl,rfl,h4,h3⟩⟩
mutual
theorem dv6 {N:Nat}{f:Nat->Nat}{stf:DSt}(hR:gw c)(hT:Tell c ct N f stf): ∀(sk:Sk) (v:VV) (st st1:DSt) (a:Value),dec c.S N sk v st=C st1->Sub st1 stf->VRel c v a->
  ∃new,st1.ls=st.ls++new/\∀rest,∃v',enc f sk (new++rest)=C (v',rest)/\VRel ct v' a
 | .undef,v,st,st1,a,h,hs,hv=>by
  simp only[dec]at h;injection h with h;subst h
  exact⟨[],by simp,λrest=>⟨.undef,by simp[enc], .undef _⟩⟩
 | .leaf s,v,st,st1,a,h,hs,hv=>by
  simp only[dec]at h;split at h
  .rename_i k k' n;cases hk:Zc (k'=k)with
   |false=>rw[hk]at h;cases h
   |true=>
    rw[hk]at h;injection h with h;subst h
    have:=of_decide_eq_true hk;subst this;refine⟨[⟨.int k',n⟩],rfl,λrest=>⟨.int k' n, ?_, ?_⟩⟩
    .simp only[bD,enc,pj,wA]
    .rw[hv.int_inv];exact .int _ _
  .rename_i b;injection h with h;subst h
   refine⟨[⟨.bool,b⟩],rfl,λrest=>⟨.bool b, ?_, ?_⟩⟩
   .simp only[bD,enc,pj,wA]
   .rw[hv.bool_inv];exact .bool _
  .rename_i l;injection h with h;subst h
   refine⟨[⟨.str,l⟩],rfl,λrest=>⟨.str l, ?_, ?_⟩⟩
   .simp only[bD,enc,pj,wA]
   .obtain⟨s,h1,h2⟩:=hv.str_inv;rw[h1];exact .str h2
  .rename_i s;obtain⟨l,h1,h2⟩:=cf h;injection h2 with h2;subst h2
   obtain⟨h3,h4,h5,h6⟩:= @ci8 st v;refine⟨[⟨.list s,l⟩],by simp[DSt.push,h5],λrest=>⟨.lst s l, ?_, ?_⟩⟩
   .simp only[bD,enc,pj,wA]
   .exact dc6 hR hT h1 hv λk hk=>hs.lent k (h3 k hk)
  .cases h
 | .cint k n,v,st,st1,a,h,hs,hv=>by
  cases v<;>simp only[dec]at h<;>try(cases h;done)
  rename_i k' n';cases hk:(Zc (k'=k)&&Zc (n'=n))with
  |false=>rw[hk]at h;cases h
  |true=>
   rw[hk]at h;injection h with h;subst h
   rw[cB]at hk;have e1:=of_decide_eq_true hk.1;have e2:=of_decide_eq_true hk.2;subst e1;subst e2;refine⟨[],by simp,λrest=>⟨.int k' n',by simp[enc], ?_⟩⟩;rw[hv.int_inv];exact .int _ _
 | .nilp,v,st,st1,a,h,hs,hv=>by
  cases v<;>simp only[dec]at h<;>try(cases h;done)
  injection h with h;subst h
  cases hv;exact⟨[],by simp,λrest=>⟨.nilp,by simp[enc], .nilp⟩⟩
 | .nils,v,st,st1,a,h,hs,hv=>by
  cases v<;>simp only[dec]at h<;>try(cases h;done)
  injection h with h;subst h
  cases hv;exact⟨[],by simp,λrest=>⟨.nils,by simp[enc], .nils⟩⟩
 | .nilf,v,st,st1,a,h,hs,hv=>by
  cases v<;>simp only[dec]at h<;>try(cases h;done)
  injection h with h;subst h
  cases hv;exact⟨[],by simp,λrest=>⟨.nilf,by simp[enc], .nilf⟩⟩
 | .ptr j o,v,st,st1,a,h,hs,hv=>by
  cases v<;>simp only[dec]at h<;>try(cases h;done)
  rename_i k o';cases hk:aB o o' with
  |false=>rw[hk]at h;cases h
  |true=>
   rw[hk,yB]at h;have:=bB hk;subst this;obtain⟨h1,h2,h3,h4⟩:=aG3 h;obtain⟨h5,h6⟩:=hT.lk _ _ (h1.sub hs);refine⟨[],by simp[h2],λrest=>⟨.ptr (f j) o,by simp[enc], ?_⟩⟩;cases hv with
   |ptr hk ho hd=>
    refine .ptr h5 ho λd' hd'=> ?_
    obtain⟨d,h7,_,h8,_⟩:=h6 d' hd';obtain⟨b,h9,h10⟩:=hd d h7;exact⟨b,h8.trans h9,h10⟩
 | .full j,v,st,st1,a,h,hs,hv=>by
  simp only[dec]at h;split at h
  .obtain⟨h1,h2,h3,h4⟩:=aG3 h;exact⟨[],by simp[h2],λrest=>⟨.full (f j),by simp[enc],dd5 hT (h1.sub hs) hv⟩⟩
  .obtain⟨h1,h2,h3,h4⟩:=aG3 h;exact⟨[],by simp[h2],λrest=>⟨.full (f j),by simp[enc],dk9 hT (h1.sub hs) hv⟩⟩
  .obtain⟨h1,h2,h3,h4⟩:=aG3 h;cases hv;exact⟨[],by simp[h2],λrest=>⟨.full (f j),by simp[enc],dp0 hT (h1.sub hs)⟩⟩
  .cases h
 | .pin s o,v,st,st1,a,h,hs,hv=>by
  cases v<;>simp only[dec]at h<;>try(cases h;done)
  rename_i s' x o';cases hk:aB o o' with
  |false=>rw[hk]at h;cases h
  |true=>
   rw[hk,yB]at h;have:=bB hk;subst this;obtain⟨y,h1,h2⟩:=cf h;obtain⟨ee,h3⟩:=sv h1;cases ee;subst h3;injection h2 with h2;subst h2
   refine⟨[⟨s,y⟩],rfl,λrest=>⟨.pin s y o, ?_, ?_⟩⟩
   .simp only[bD,enc,pj,wA]
   .cases hv with
    |pin hn hy hl hf=>exact .pin (hT.nm _ _ hy hn) (by rw[hT.Y];exact hy) hl (zq hT.toStill _ _ _ hf)
 | .fn g p q,v,st,st1,a,h,hs,hv=>by
  cases v<;>simp only[dec]at h<;>try(cases h;done)
  rename_i g' p' q';cases hk:aB g g' with
  |false=>rw[hk]at h;cases h
  |true=>
   rw[hk,yB]at h;have:=bB hk;subst this;obtain⟨st2,h1,h2⟩:=cf h;cases hv with
   |fn f1 f2=>
    obtain⟨new1,e1,e2⟩:=ao8 hR hT p p' st st2 _ h1 ((ah4 q q' st2 st1 h2).trans hs) f1;obtain⟨new2,e3,e4⟩:=ao8 hR hT q q' st2 st1 _ h2 hs f2;refine⟨new1++new2,by rw[e3,e1,aD],λrest=> ?_⟩;obtain⟨v1,e5,e6⟩:=e2 (new2++rest);obtain⟨v2,e7,e8⟩:=e4 rest;exact⟨.fn g v1 v2,by simp only[enc,aD,e5,wA,e7], .fn e6 e8⟩
 | .agg l,v,st,st1,a,h,hs,hv=>by
  cases v<;>simp only[dec]at h<;>try(cases h;done)
  cases hv with
  |agg f1=>
   obtain⟨new1,e1,e2⟩:=ao8 hR hT l _ st st1 _ h hs f1;refine⟨new1,e1,λrest=> ?_⟩;obtain⟨v1,e5,e6⟩:=e2 rest;exact⟨.agg v1,by simp only[enc,e5,wA], .agg e6⟩
 | .tup l,v,st,st1,a,h,hs,hv=>by
  cases v<;>simp only[dec]at h<;>try(cases h;done)
  cases hv with
  |tup f1=>
   obtain⟨new1,e1,e2⟩:=ao8 hR hT l _ st st1 _ h hs f1;refine⟨new1,e1,λrest=> ?_⟩;obtain⟨v1,e5,e6⟩:=e2 rest;exact⟨.tup v1,by simp only[enc,e5,wA], .tup e6⟩
theorem ao8 {N:Nat}{f:Nat->Nat}{stf:DSt}(hR:gw c)(hT:Tell c ct N f stf): ∀(l:List Sk) (vs:List VV) (st st1:DSt) (as:List Value),bo8 c.S N l vs st=C st1->Sub st1 stf->F2 (VRel c) vs as->
  ∃new,st1.ls=st.ls++new/\∀rest,∃vs',ce8 f l (new++rest)=C (vs',rest)/\F2 (VRel ct) vs' as
 |[],vs,st,st1,as,h,hs,hf=>by
  cases vs<;>simp only[bo8]at h<;>try(cases h;done)
  injection h with h;subst h
  cases hf;exact⟨[],by simp,λrest=>⟨[],by simp[ce8], .nil⟩⟩
 |k::r,vs,st,st1,as,h,hs,hf=>by
  cases hf with
  |nil=>simp only[bo8]at h;cases h
  |cons f1 f2=>
   simp only[bo8]at h;obtain⟨st2,h1,h2⟩:=cf h;obtain⟨new1,e1,e2⟩:=dv6 hR hT k _ st st2 _ h1 ((ah4 r _ st2 st1 h2).trans hs) f1;obtain⟨new2,e3,e4⟩:=ao8 hR hT r _ st2 st1 _ h2 hs f2;refine⟨new1++new2,by rw[e3,e1,aD],λrest=> ?_⟩;obtain⟨v1,e5,e6⟩:=e2 (new2++rest);obtain⟨v2,e7,e8⟩:=e4 rest;exact⟨v1::v2,by simp only[ce8,aD,e5,wA,e7], .cons e6 e8⟩
end
def al1 (c ct:Ctx)(o:OSk)(x:Option Src)(blk:Blk):Prop:=
 (o= .dead/\blk= .dead)∨(blk.frozen=o.ro/\match x with
  |none=>o.ro=Zb/\∃s,blk= .arr s Zb []
  |some ⟨k,cut⟩=>(o.ro=Zb->(cc c.S k).frozen=Zb)/\∃d,(cc c.S k).dim=C d/\(match cut with
   |none=>blk.dim=C d
   |some n=>blk.dim=C (d.1,min (n*d.1) d.2))/\∀cs,F2 (VRel c) (cc c.S k).vals cs->F2 (VRel ct) blk.vals (cs.take blk.vals.length))
theorem bv5 {S:ci}{N:Nat}{o:OSk}{x:Option Src}{st st1:DSt}(h:cP2 S N o x st=C st1):Sub st st1:=by
 unfold cP2 at h;split at h
 .injection h with h;subst h;exact Sub.refl _
 .split at h
  .rename_i es ro l k _ es' fz cs hb;cases hk:(aB es es'&&(ro|| !fz))with
   |false=>rw[hk]at h;cases h
   |true=>
    rw[hk,yB]at h;have h1:=ah4 _ _ _ _ h;cases ro with
    |false=>exact h1
    |true=>exact Sub.trans ⟨⟨[],by simp⟩,λ_ h=>cD _ h⟩ h1
  .cases h
 .rename_i ro s;cases ro with
  |true=>cases h
  |false=>injection h with h;subst h;exact⟨⟨[],by simp[DSt.push]⟩,λ_ h=>h⟩
 .rename_i ro s k cut;cases hk:(ro|| !(cc S k).frozen)with
  |false=>rw[hk]at h;cases h
  |true=>
   rw[hk,yB]at h;obtain⟨l,h1,h2⟩:=cf h;injection h2 with h2;subst h2
   cases ro with
   |false=>exact⟨⟨[],by simp[DSt.push]⟩,λ_ h=>h⟩
   |true=>exact⟨⟨[],by simp[DSt.push]⟩,λ_ h=>cD _ h⟩
 .cases h
theorem cE4 {N:Nat}{f:Nat->Nat}{stf:DSt}(hR:gw c)(hT:Tell c ct N f stf){o:OSk}{x:Option Src}{st st1:DSt}(h:cP2 c.S N o x st=C st1)(hs:Sub st1 stf):
  ∃new,st1.ls=st.ls++new/\∀rest,∃blk,ce9 f o (new++rest)=C (blk,rest)/\al1 c ct o x blk:=by
 unfold cP2 at h;split at h
 .injection h with h;subst h
  exact⟨[],by simp,λrest=>⟨.dead,by simp[ce9], .inl ⟨rfl,rfl⟩⟩⟩
 .split at h
  .rename_i es ro l k _ es' fz cs hb;cases hk:(aB es es'&&(ro|| !fz))with
   |false=>rw[hk]at h;cases h
   |true=>
    rw[hk,yB]at h;rw[cB]at hk;have he:=bB hk.1;subst he;have hdim:(cc c.S k).dim=C (es,cs.length):=by rw[hb];rfl
    obtain⟨h0,hblk⟩:=hR.blk k _ hdim
    have hf: ∃as,F2 (VRel c) cs as:=by
     rcases hblk with⟨e1,e2⟩|⟨b,y,as,rest,_,_,_,_,_,e3⟩
     .have:cs=[]:=List.length_eq_zero_iff.1 e1;subst this;exact⟨[], .nil⟩
     .rw[hb]at e3;exact⟨as,e3⟩
    obtain⟨as,hf⟩:=hf;obtain⟨new,e1,e2⟩:=ao8 hR hT l cs _ st1 as h hs hf;refine⟨new, ?_,λrest=> ?_⟩
    .rw[e1];cases ro<;>rfl
    .obtain⟨vs,e3,e4⟩:=e2 rest;refine⟨.cells es ro vs,by simp only[ce9,e3,wA], .inr ⟨rfl,λhro=> ?_,(es,cs.length),hdim, ?_,λcs' hcs'=> ?_⟩⟩
     .simp only[OSk.ro]at hro;subst hro;rw[hb];have:=hk.2;simp only[Bool.false_or,Bool.not_eq_true']at this;exact this
     .simp only[Blk.dim];rw[e4.length,hf.length]
     .rw[hb]at hcs';obtain⟨new',e1',e2'⟩:=ao8 hR hT l cs _ st1 cs' h hs hcs'
      have:new'=new:=by
       rw[e1]at e1';exact(List.append_cancel_left e1').symm
      subst this;obtain⟨vs',e3',e4'⟩:=e2' rest;rw[e3]at e3';injection e3' with e3'
      injection e3' with e3' _
      subst e3';rw[fB (by rw[<-e4'.length];exact Nat.le_refl _)];exact e4'
  .cases h
 .rename_i ro s;cases ro with
  |true=>cases h
  |false=>
   injection h with h;subst h
   refine⟨[⟨.list s,[]⟩],rfl,λrest=>⟨.arr s Zb [], ?_, .inr ⟨rfl,rfl,s,rfl⟩⟩⟩;simp only[bD,ce9,pj,wA]
 .rename_i ro s k cut;cases hk:(ro|| !(cc c.S k).frozen)with
  |false=>rw[hk]at h;cases h
  |true=>
   rw[hk,yB]at h;obtain⟨l,h1,h2⟩:=cf h;injection h2 with h2;subst h2
   obtain⟨d,h3,h4,h5,h6⟩:=ac6 (pm hR s) h1;refine⟨[⟨.list s,bT0 cut l⟩],by cases ro<;>rfl,λrest=>⟨.arr s ro (bT0 cut l), ?_, .inr ⟨rfl,λhro=> ?_,d,h3, ?_,λcs hcs=> ?_⟩⟩⟩
   .simp only[bD,ce9,pj,wA]
   .simp only[OSk.ro]at hro;subst hro;simpa using hk
   .cases cut with
    |none=>
     simp only[Blk.dim,bT0];rw[<-h5,<-h4]
    |some n=>
     simp only[Blk.dim,bT0,eD];rw[h5,h4,<-Nat.mul_min_mul_right]
   .have h7:=bH7 hT.toStill (h6 cs hcs);have h8:cs.length=l.length*s.w:=by rw[<-h7.length,jx]
    cases cut with
    |none=>
     simp only[Blk.vals,bT0];rw[fB (by rw[jx];omega)];exact h7
    |some n=>
     simp only[Blk.vals,bT0];have h9:((io s (l.take n)).length)=min (n*s.w) cs.length:=by rw[qg,eD,jx,h8]
     rw[h9,qg,<-List.take_take,List.take_length];exact h7.take (n*s.w)
 .cases h
theorem bo7 {S:ci}{N:Nat}: ∀{os:List OSk} {js:List Nat} {st st1:DSt},bB8 S N os js st=C st1->Sub st st1
 |[],[],st,st1,h=>by injection h with h;subst h;exact Sub.refl _
 |[],_::_,st,st1,h=>by cases h
 |_::_,[],st,st1,h=>by cases h
 |o::os,j::js,st,st1,h=>by
  simp only[bB8]at h;obtain⟨st2,h1,h2⟩:=cf h;exact(bv5 h1).trans (bo7 h2)
theorem wS {S:ci}{N:Nat}: ∀{os:List OSk} {i:Nat} {st st1:DSt},ah3 S N os i st=C st1->Sub st st1
 |[],i,st,st1,h=>by
  simp only[ah3]at h;cases hb:aB i st.m.length with
  |false=>rw[hb]at h;cases h
  |true=>rw[hb]at h;injection h with h;subst h;exact Sub.refl _
 |o::os,i,st,st1,h=>by
  simp only[ah3]at h;split at h
  .obtain⟨st2,h1,h2⟩:=cf h;exact(bv5 h1).trans (wS h2)
  .cases h
inductive aF5 (c ct:Ctx):List OSk->List Nat->List Blk->Prop where
 |nil:aF5 c ct [] [] []
 |cons {o:OSk} {j:Nat} {b:Blk} {os:List OSk} {js:List Nat} {bs:List Blk}:al1 c ct o (C ⟨j,O⟩) b->aF5 c ct os js bs->aF5 c ct (o::os) (j::js) (b::bs)
inductive an6 (c ct:Ctx):List OSk->List (Option Src)->List Blk->Prop where
 |nil:an6 c ct [] [] []
 |cons {o:OSk} {x:Option Src} {b:Blk} {os:List OSk} {xs:List (Option Src)} {bs:List Blk}:al1 c ct o x b->an6 c ct os xs bs->an6 c ct (o::os) (x::xs) (b::bs)
theorem bT1 {N:Nat}{f:Nat->Nat}{stf:DSt}(hR:gw c)(hT:Tell c ct N f stf): ∀{os:List OSk} {js:List Nat} {st st1:DSt},bB8 c.S N os js st=C st1->Sub st1 stf->
  ∃new,st1.ls=st.ls++new/\∀rest,∃bs,aV6 f os (new++rest)=C (bs,rest)/\aF5 c ct os js bs
 |[],[],st,st1,h,hs=>by injection h with h;subst h;exact⟨[],by simp,λrest=>⟨[],by simp[aV6], .nil⟩⟩
 |[],_::_,st,st1,h,hs=>by cases h
 |_::_,[],st,st1,h,hs=>by cases h
 |o::os,j::js,st,st1,h,hs=>by
  simp only[bB8]at h;obtain⟨st2,h1,h2⟩:=cf h;obtain⟨new1,e1,e2⟩:=cE4 hR hT h1 ((bo7 h2).trans hs);obtain⟨new2,e3,e4⟩:=bT1 hR hT h2 hs;refine⟨new1++new2,by rw[e3,e1,aD],λrest=> ?_⟩;obtain⟨v1,e5,e6⟩:=e2 (new2++rest);obtain⟨v2,e7,e8⟩:=e4 rest;exact⟨v1::v2,by simp only[aV6,aD,e5,wA,e7], .cons e6 e8⟩
theorem bH2 {N:Nat}{f:Nat->Nat}{stf:DSt}(hR:gw c)(hT:Tell c ct N f stf): ∀{os:List OSk} {i:Nat} {st st1:DSt},ah3 c.S N os i st=C st1->Sub st1 stf->
  ∃new,st1.ls=st.ls++new/\i+os.length=st1.m.length/\∀rest,∃bs,aV6 f os (new++rest)=C (bs,rest)/\an6 c ct os (st1.m.drop i) bs
 |[],i,st,st1,h,hs=>by
  simp only[ah3]at h;cases hb:aB i st.m.length with
  |false=>rw[hb]at h;cases h
  |true=>
   rw[hb]at h;injection h with h;subst h
   have:=bB hb;subst this;exact⟨[],by simp,by simp,λrest=>⟨[],by simp[aV6],by rw[List.drop_length];exact .nil⟩⟩
 |o::os,i,st,st1,h,hs=>by
  simp only[ah3]at h;split at h
  .rename_i x hx;obtain⟨st2,h1,h2⟩:=cf h;obtain⟨new1,e1,e2⟩:=cE4 hR hT h1 ((wS h2).trans hs);obtain⟨new2,e3,e3',e4⟩:=bH2 hR hT h2 hs;refine⟨new1++new2,by rw[e3,e1,aD],by rw[<-e3'];simp;omega,λrest=> ?_⟩;obtain⟨v1,e5,e6⟩:=e2 (new2++rest);obtain⟨v2,e7,e8⟩:=e4 rest;refine⟨v1::v2,by simp only[aV6,aD,e5,wA,e7], ?_⟩;obtain⟨t1,t2⟩:=(bv5 h1).m;obtain⟨t3,t4⟩:=(wS h2).m
   have hx':st1.m[i]?=C x:=by
    rw[<-ar8,t4,t2];exact bx0 (bx0 hx)
   have hi:i<st1.m.length:=by
    rcases dB i st1.m.length with h|h
    .exact h
    .rw[dD h]at hx';cases hx'
   rw[List.drop_eq_getElem_cons hi];rw[List.getElem?_eq_getElem hi]at hx';injection hx' with hx'
   rw[hx'];exact .cons e6 e8
  .cases h
theorem bB9 {N:Nat}{f:Nat->Nat}{fx:List Nat}{sk:SSk}{vals:List VV}{as:List Value}{st:DSt}(hR:gw c)(hT:Tell c ct N f st)(h:vn c.S N fx sk vals=C st)(hf:F2 (VRel c) vals as):
  ∃vs fs bs,wY f sk st.ls=C (vs,fs,bs)/\F2 (VRel ct) vs as/\aF5 c ct sk.fix fx fs/\an6 c ct sk.free st.m bs:=by
 unfold vn at h;obtain⟨st1,h1,h⟩:=cf h;obtain⟨st2,h2,h⟩:=cf h;obtain⟨st3,h3,h⟩:=cf h
 have:st3=st:=by
  cases hb:(bm5 (fx++vo st3.m)&&aT0 (fx++pa sk.free st3.m) st3.lent)with
  |false=>rw[hb]at h;cases h
  |true=>rw[hb]at h;injection h
 subst this;obtain⟨n1,e1,f1⟩:=ao8 hR hT _ _ _ _ _ h1 ((bo7 h2).trans (wS h3)) hf;obtain⟨n2,e2,f2⟩:=bT1 hR hT h2 (wS h3);obtain⟨n3,e3,e4,f3⟩:=bH2 hR hT h3 (Sub.refl _);obtain⟨vs,g1,g2⟩:=f1 (n2++n3);obtain⟨fs,g3,g4⟩:=f2 n3;obtain⟨bs,g5,g6⟩:=f3 [];refine⟨vs,fs,bs, ?_,g2,g4,by rw[List.drop_zero]at g6;exact g6⟩;have hls:st3.ls=n1++(n2++n3):=by rw[e3,e2,e1];simp
 rw[List.append_nil]at g5;simp only[wY,hls,g1,wA,g3,g5]
theorem wV {S:ci}{N:Nat}{fx:List Nat}{sk:SSk}{vals:List VV}{st:DSt}(h:vn S N fx sk vals=C st):bm5 (fx++vo st.m)=Za/\aT0 (fx++pa sk.free st.m) st.lent=Za:=by
 unfold vn at h;obtain⟨st1,h1,h⟩:=cf h;obtain⟨st2,h2,h⟩:=cf h;obtain⟨st3,h3,h⟩:=cf h;cases hb:(bm5 (fx++vo st3.m)&&aT0 (fx++pa sk.free st3.m) st3.lent)with
 |false=>rw[hb]at h;cases h
 |true=>
  rw[hb]at h;injection h with h
  subst h
  rwa [cB]at hb
theorem bx1 : ∀{ss:List Sh} {ls:List Leaf} {t:Tup ss},ofL ss ls=C t->toL ss t=ls
 |[],ls,t,h=>by
  cases ls with
  |nil=>rfl
  |cons=>simp[ofL]at h
 |[s],ls,t,h=>by
  cases ls with
  |nil=>simp[ofL]at h
  |cons x ls=>
   cases ls with
   |nil=>
    simp only[ofL]at h;obtain⟨ee,h1⟩:=sv h;obtain⟨s',v⟩:=x;simp only at ee;subst ee;subst h1;rfl
   |cons=>simp[ofL]at h
 |s::s'::r,ls,t,h=>by
  cases ls with
  |nil=>simp[ofL]at h
  |cons x ls=>
   simp only[ofL]at h;obtain⟨a,h1,h⟩:=cf h;obtain⟨b,h2,h⟩:=cf h;injection h with h
   subst h;obtain⟨ee,h3⟩:=sv h1;obtain⟨s0,v⟩:=x;simp only at ee;subst ee;subst h3;simp only[toL];rw[bx1 h2]
end
end
section
open List renaming getElem?_eq_getElem -> aB, all_eq_true -> bB, getElem?_eq_none -> bD, replicate -> cB, mem_cons_of_mem -> cD, mem_cons_self -> dB, mem_of_getElem? -> dD, nodup_cons -> eD
open Nat renaming lt_or_ge -> aD, le_add_right -> fB, lt_of_lt_of_le -> fD
def aN2 (c:Ctx):Option Src->Option Nat
 |none=>O
 |some x=>c.Z x.k
theorem aF5.get {c ct:Ctx}: ∀{os:List OSk} {js:List Nat} {bs:List Blk},aF5 c ct os js bs->js.length=bs.length/\os.length=bs.length/\∀(i j:Nat) (b:Blk),js[i]?=C j->bs[i]?=C b->∃o,os[i]?=C o/\al1 c ct o (C ⟨j,O⟩) b
 |_,_,_, .nil=>⟨rfl,rfl,λi j b h=>by simp at h⟩
 |_,_,_, .cons h1 h2=>by
  obtain⟨e1,e2,e3⟩:=h2.get;refine⟨by simp[e1],by simp[e2],λi j b hj hb=> ?_⟩;cases i with
  |zero=>
   simp at hj hb;subst hj;subst hb;exact⟨_,rfl,h1⟩
  |succ i=>
   simp at hj hb;obtain⟨o,h3,h4⟩:=e3 i j b hj hb;exact⟨o,by simpa using h3,h4⟩
theorem an6.get {c ct:Ctx}: ∀{os:List OSk} {xs:List (Option Src)} {bs:List Blk},an6 c ct os xs bs->xs.length=bs.length/\os.length=bs.length/\∀(i:Nat) (x:Option Src) (b:Blk),xs[i]?=C x->bs[i]?=C b->∃o,os[i]?=C o/\al1 c ct o x b
 |_,_,_, .nil=>⟨rfl,rfl,λi j b h=>by simp at h⟩
 |_,_,_, .cons h1 h2=>by
  obtain⟨e1,e2,e3⟩:=h2.get;refine⟨by simp[e1],by simp[e2],λi j b hj hb=> ?_⟩;cases i with
  |zero=>
   simp at hj hb;subst hj;subst hb;exact⟨_,rfl,h1⟩
  |succ i=>
   simp at hj hb;obtain⟨o,h3,h4⟩:=e3 i j b hj hb;exact⟨o,by simpa using h3,h4⟩
theorem al1.blkRel {c ct:Ctx}(hR:gw c)(hY:ct.Y=c.Y){o:OSk}{x:Option Src}{b:Blk}{p:Nat}(h:al1 c ct o x b)(hp:cc ct.S p=b)(hZ:b.dim≠O->ct.Z p=aN2 c x):bN4 ct p:=by
 intro d' hd';rw[hp]at hd';have hZ2:ct.Z p=aN2 c x:=hZ (by rw[hd'];simp);clear hZ;rcases h with⟨_,h⟩|⟨h1,h2⟩
 .subst h;cases hd'
 .cases x with
  |none=>
   obtain⟨_,s,h3⟩:=h2;subst h3;injection hd' with hd'
   subst hd';exact⟨uy s, .inl ⟨by simp,by simpa[aN2]using hZ2⟩⟩
  |some x=>
   obtain⟨k,cut⟩:=x;obtain⟨h3,d,h4,h5,h6⟩:=h2;simp only[aN2]at hZ2;obtain⟨h7,h8⟩:=hR.blk k d h4
   have hd1:d'.1=d.1/\d'.2<=d.2:=by
    cases cut with
    |none=>
     simp only at h5;rw[h5]at hd';injection hd' with hd'
     subst hd';exact⟨rfl,Nat.le_refl _⟩
    |some n=>
     simp only at h5;rw[h5]at hd';injection hd' with hd'
     subst hd';exact⟨rfl,Nat.min_le_right _ _⟩
   refine⟨by rw[hd1.1];exact h7, ?_⟩;rcases h8 with⟨h9,h10⟩|⟨bb,y,cs,rest,h9,h10,h11,h12,h13,h14⟩
   .exact .inl ⟨by omega,hZ2.trans h10⟩
   .have hlen:b.vals.length=d'.2:=aS4 hd';refine .inr ⟨bb,y,cs.take b.vals.length,cs.drop b.vals.length++rest,hZ2.trans h9,by rw[hY];exact h10,by rw[hd1.1];exact h11,λhz=> ?_,by rw[<-List.append_assoc,List.take_append_drop];exact h13, ?_⟩
    .rw[hp,h1]at hz;exact h12 (h3 hz)
    .rw[hp];exact h6 cs h14
theorem cW0 (f:Nat->Nat): ∀n,∃K,∀j,j<n->f j<K
 |0=>⟨0,λj h=>by omega⟩
 |n+1=>by
  obtain⟨K,h⟩:=cW0 f n;refine⟨max K (f n+1),λj hj=> ?_⟩;rcases aD j n with h1|h1
  .have:=h j h1;omega
  .have:j=n:=by omega
   subst this;omega
theorem bf1 {n k:Nat}:cc (cB n Blk.dead) k= .dead:=by
 induction n generalizing k with
 |zero=>rfl
 |succ n ih=>
  cases k with
  |zero=>rfl
  |succ k=>exact ih
theorem ch4 {c:Ctx}{N:Nat}{f:Nat->Nat}{fx:List Nat}{sk:SSk}{vals:List VV}{as:List Value}{st:DSt}(hR:gw c)(h:vn c.S N fx sk vals=C st)(hf:F2 (VRel c) vals as):
  ∃ct0 vs fs bs,wY f sk st.ls=C (vs,fs,bs)/\aF5 c ct0 sk.fix fx fs/\an6 c ct0 sk.free st.m bs:=by
 obtain⟨K,hK⟩:=cW0 f (N+st.m.length)
 have hT:Tell c ⟨λ_=>O,cB K .dead,c.Y,λ_=>False⟩ N f st:=by
  have hno: ∀b,¬(⟨λ_=>O,cB K .dead,c.Y,λ_=>False⟩:Ctx).mut b:=by
   rintro b (⟨k,h1,_⟩|h)
   .simp only[bf1]at h1;cases h1
   .exact h
  refine⟨⟨rfl,λb _ _ _=>hno b⟩,λj x hl=>⟨?_,λd' hd'=> ?_⟩,λk _ _ b _=>hno b⟩
  .simp only[List.length_replicate];refine hK j ?_;rcases hl with⟨h1,_⟩|⟨h1,h2⟩
   .omega
   .rw[ar8]at h2;rcases aD (j-N) st.m.length with h3|h3
    .omega
    .rw[bD h3]at h2;cases h2
  .simp only[bf1]at hd';cases hd'
 obtain⟨vs,fs,bs,h1,_,h2,h3⟩:=bB9 hR hT h hf;exact⟨_,vs,fs,bs,h1,h2,h3⟩
theorem qi {k:Nat}{l:List Nat}:tx k l=Za↔k∈l:=by
 induction l with
 |nil=>simp[tx]
 |cons a l ih=>
  simp only[tx,List.mem_cons];cases h:Nat.beq a k with
  |true=>
   have:=Nat.eq_of_beq_eq_true h;simp[this]
  |false=>
   have:a≠k:=by rintro rfl;rw[Nat.beq_refl]at h;cases h
   rw[yD,ih];simp[Ne.symm this]
theorem wQ {l:List Nat}:bm5 l=Za->l.Nodup:=by
 induction l with
 |nil=>intro _;exact List.nodup_nil
 |cons a l ih=>
  intro h;simp only[bm5]at h;cases hm:tx a l with
  |true=>rw[hm]at h;cases h
  |false=>
   rw[hm]at h;refine List.nodup_cons.2 ⟨λh1=> ?_,ih h⟩;rw[qi.2 h1]at hm;cases hm
theorem bU2 {w l:List Nat}(h:aT0 w l=Za){k:Nat}(hk:k∈w):k∉l:=by
 intro h1;simp only[aT0,bB]at h;have:=h k hk;rw[qi.2 h1]at this;cases this
theorem aB7 {m:List (Option Src)}{i:Nat}{x:Src}(h:m[i]?=C (C x)):x.k∈vo m:=by
 induction m generalizing i with
 |nil=>simp at h
 |cons a m ih=>
  cases i with
  |zero=>
   simp at h;subst h;exact dB
  |succ i=>
   simp at h;have:=ih h;cases a with
   |none=>exact this
   |some a=>exact cD _ this
theorem bw4 {m:List (Option Src)}(hn:(vo m).Nodup){i j:Nat}{x y:Src}(h:m[i]?=C (C x))(h':m[j]?=C (C y))(e:x.k=y.k):i=j:=by
 induction m generalizing i j with
 |nil=>simp at h
 |cons a m ih=>
  cases i with
  |zero=>
   simp at h;subst h;cases j with
   |zero=>rfl
   |succ j=>
    simp at h';have h1:=aB7 h';simp only[vo,eD]at hn;rw[e]at hn;exact(hn.1 h1).elim
  |succ i=>
   simp at h;cases j with
   |zero=>
    simp at h';subst h';have h1:=aB7 h;simp only[vo,eD]at hn;rw[<-e]at hn;exact(hn.1 h1).elim
   |succ j=>
    simp at h'
    have hn':(vo m).Nodup:=by
     cases a with
     |none=>exact hn
     |some a=>exact(List.nodup_cons.1 hn).2
    rw[ih hn' h h']
theorem bz7 {os:List OSk}{m:List (Option Src)}{i:Nat}{x:Src}{o:OSk}(h:m[i]?=C (C x))(ho:os[i]?=C o)(hr:o.ro=Zb):x.k∈pa os m:=by
 induction m generalizing os i with
 |nil=>simp at h
 |cons a m ih=>
  cases os with
  |nil=>simp at ho
  |cons o' os=>
   cases i with
   |zero=>
    simp at h ho;subst h;subst ho;simp only[pa,hr,yD];exact dB
   |succ i=>
    simp at h ho;have:=ih h ho;cases a with
    |none=>exact this
    |some a=>
     simp only[pa];cases o'.ro with
     |true=>exact this
     |false=>exact cD _ this
theorem dM1 {b:Blk}(h:b.may=Za)(hd:b.dim≠O)(hz:b.frozen=Za):False:=by
 cases b with
 |dead=>exact hd rfl
 |cells es z l=>simp only[Blk.may,Blk.frozen]at h hz;rw[hz]at h;cases h
 |arr s z l=>simp only[Blk.may,Blk.frozen]at h hz;rw[hz]at h;cases h
structure GT (c c' ct:Ctx)(N:Nat)(f:Nat->Nat)(fx:List Nat)(sk:SSk)(st:DSt)(fs bs:List Blk):Prop where
 Y:ct.Y=c'.Y
 fb:ct.fb=c.fb
 len:ct.S.length=c.S.length+bs.length
 oth: ∀k,k<c.S.length->(∀j,j∈fx->f j≠k)->cc ct.S k=cc c.S k∨cc ct.S k=(cc c.S k).freeze∨(cc ct.S k= .dead/\(cc c.S k).frozen=Zb)
 fix: ∀(i j:Nat) (b:Blk),fx[i]?=C j->fs[i]?=C b->cc ct.S (f j)=b
 fixlt: ∀j,j∈fx->f j<c.S.length
 free: ∀(i:Nat) (b:Blk),bs[i]?=C b->cc ct.S (c.S.length+i)=b
 fN: ∀i,f (N+i)=c.S.length+i
 Zo: ∀k,k<c.S.length->ct.Z k=c.Z k
 Zn: ∀(i:Nat) (x:Option Src),st.m[i]?=C x->ct.Z (c.S.length+i)=aN2 c' x
 un: ∀b y,c.Y.m b=C y->¬c.own b->c'.Y.m b=C y
 ow: ∀b y,c.Y.m b=C y->¬c.own b->¬c'.own b
 n:c.Y.n<=c'.Y.n
 oun: ∀k,k<c.S.length->(∀j,j∈fx->f j≠k)->(cc ct.S k).dim≠O->∀b y,c.Z k=C b->c.Y.m b=C y->c'.Y.m b=C y
 odis: ∀k,k<c.S.length->(∀j,j∈fx->f j≠k)->(cc ct.S k).dim≠O->∀s,(s∈fx∨s∈vo st.m)->(cc c'.S s).frozen=Zb->∀b,c'.Z s=C b->c.Z k≠C b
 wr: ∀j,j∈fx->(cc c'.S j).dim≠O->(cc c.S (f j)).dim=(cc c'.S j).dim/\c'.Z j=c.Z (f j)/\∀b y,c.Z (f j)=C b->c.Y.m b=C y->∃y',c'.Y.m b=C y'/\y'.cells.length=y.cells.length
 wrz: ∀j,j∈fx->(cc c.S (f j)).may=Za
 finj: ∀j j',j∈fx->j'∈fx->f j=f j'->j=j'
 fbk: ∀k b,(cc c'.S k).dim≠O->c'.Z k=C b->¬c.fb b
 lk: ∀j,j<N->j∉fx->Lk c' ct (C ⟨j,O⟩) (f j)
 onm: ∀k,k<c.S.length->(∀j,j∈fx->f j≠k)->(cc ct.S k).frozen=Zb->∀b y,c.Z k=C b->c'.Y.m b=C y->c'.mut b
 olent: ∀k,k<c.S.length->(∀j,j∈fx->f j≠k)->(cc ct.S k).frozen=Zb->∀s,s∈st.lent->(cc c'.S s).dim≠O->∀b,c'.Z s=C b->c.Z k≠C b
 fbm: ∀b,c.fb b->c'.mut b
 fxN: ∀j,j∈fx->j<N
 noro:sk.noRo=Za
theorem GT.all {c c' ct:Ctx}{N:Nat}{f:Nat->Nat}{fx:List Nat}{sk:SSk}{st:DSt}{fs bs:List Blk}{vals vs:List VV}{as:List Value}(g:GT c c' ct N f fx sk st fs bs)(hR:gw c)(hR':gw c')(hd:vn c'.S N fx sk vals=C st)
  (he:wY f sk st.ls=C (vs,fs,bs)) (hf:F2 (VRel c') vals as):Le c ct/\gw ct/\F2 (VRel ct) vs as:=by
 obtain⟨ct0,vs0,fs0,bs0,p1,p2,p3⟩:=ch4 (f:=f) hR' hd hf;rw[he]at p1;injection p1 with p1
 injection p1 with q1 p1
 injection p1 with q2 q3
 subst q1;subst q2;subst q3;obtain⟨ap1,ap2⟩:=wV hd;have hnd:=wQ ap1;rw[List.nodup_append]at hnd;obtain⟨nd1,nd2,nd3⟩:=hnd;obtain⟨x1,x2,x3⟩:=p2.get;obtain⟨y1,y2,y3⟩:=p3.get;have hro:=g.noro;unfold SSk.noRo at hro;rw[Bool.and_eq_true,bB,bB]at hro
 have nro: ∀(i:Nat) (o:OSk),(sk.fix[i]?=C o∨sk.free[i]?=C o)->o.ro=Zb:=by
  intro i o h;rcases h with h|h
  .simpa using hro.1 o (dD h)
  .simpa using hro.2 o (dD h)
 have fxget: ∀j,j∈fx->∃(i:Nat) (b:Blk) (o:OSk),fx[i]?=C j/\fs[i]?=C b/\sk.fix[i]?=C o/\cc ct.S (f j)=b/\al1 c' ct0 o (C ⟨j,O⟩) b:=by
  intro j hj;obtain⟨i,hi,e⟩:=List.mem_iff_getElem.1 hj;have h1:fx[i]?=C j:=by rw[aB hi,e]
  have h2:i<fs.length:=by rw[<-x1];exact hi
  obtain⟨o,h3,h4⟩:=x3 i j _ h1 (aB h2);exact⟨i,fs[i],o,h1,aB h2,h3,g.fix i j _ h1 (aB h2),h4⟩
 have frget: ∀i,i<bs.length->∃(b:Blk) (x:Option Src) (o:OSk),st.m[i]?=C x/\bs[i]?=C b/\sk.free[i]?=C o/\cc ct.S (c.S.length+i)=b/\ct.Z (c.S.length+i)=aN2 c' x/\al1 c' ct0 o x b:=by
  intro i hi;have h2:i<st.m.length:=by rw[y1];exact hi
  obtain⟨o,h3,h4⟩:=y3 i _ _ (aB h2) (aB hi);exact⟨bs[i],st.m[i],o,aB h2,aB hi,h3,g.free i _ (aB hi),g.Zn i _ (aB h2),h4⟩
 have three: ∀k,(cc ct.S k).dim≠O->(∃j,j∈fx/\f j=k)∨(k<c.S.length/\(∀j,j∈fx->f j≠k))∨(∃i,i<bs.length/\k=c.S.length+i):=by
  intro k hk;have hl:=ud hk;rw[g.len]at hl;by_cases h1:k<c.S.length
  .by_cases h2: ∃j,j∈fx/\f j=k
   .exact .inl h2
   .exact .inr (.inl ⟨h1,λj hj e=>h2 ⟨j,hj,e⟩⟩)
  .exact .inr (.inr ⟨k-c.S.length,by omega,by omega⟩)
 have stay: ∀j,j∈fx->∀d,(cc ct.S (f j)).dim=C d->(cc c'.S j).dim=C d/\(cc c'.S j).frozen=Zb/\(cc c.S (f j)).dim=C d/\c'.Z j=c.Z (f j):=by
  intro j hj d hd';obtain⟨i,b,o,h1,h2,h3,h4,h5⟩:=fxget j hj;rw[h4]at hd';rcases h5 with⟨_,h5⟩|⟨h5,h6,d0,h7,h8,h9⟩
  .subst h5;cases hd'
  .simp only at h8;rw[h8]at hd';injection hd' with hd'
   subst hd';obtain⟨w1,w2,_⟩:=g.wr j hj (by rw[h7];simp);exact⟨h7,h6 (nro i o (.inl h3)),by rw[w1,h7],w2⟩
 have found: ∀i,i<bs.length->∀d,(cc ct.S (c.S.length+i)).dim=C d->(∃x,st.m[i]?=C (C x)/\(cc c'.S x.k).frozen=Zb/\ct.Z (c.S.length+i)=c'.Z x.k)∨ct.Z (c.S.length+i)=O:=by
  intro i hi d hd';obtain⟨b,x,o,h1,h2,h3,h4,h5,h6⟩:=frget i hi;rw[h4]at hd';rcases h6 with⟨_,h6⟩|⟨h6,h7⟩
  .subst h6;cases hd'
  .cases x with
   |none=>exact .inr h5
   |some x=>
    obtain⟨k,cut⟩:=x;exact .inl ⟨_,h1,h7.1 (nro i o (.inr h3)),h5⟩
 have orig: ∀k b,(cc ct.S k).dim≠O->ct.Z k=C b->(k<c.S.length/\(∀j,j∈fx->f j≠k)/\c.Z k=C b)∨
   ∃s,(s∈fx∨s∈vo st.m)/\(cc c'.S s).frozen=Zb/\c'.Z s=C b/\((s∈fx/\k=f s)∨∃i x,st.m[i]?=C (C x)/\x.k=s/\k=c.S.length+i):=by
  intro k b hk hm;cases hdd:(cc ct.S k).dim with
  |none=>exact(hk hdd).elim
  |some d=>
   rcases three k hk with⟨j,hj,rfl⟩|⟨h1,h2⟩|⟨i,hi,rfl⟩
   .obtain⟨h1,h2,h3,h4⟩:=stay j hj d hdd;exact .inr ⟨j, .inl hj,h2,by rw[h4,<-g.Zo _ (g.fixlt j hj)];exact hm, .inl ⟨hj,rfl⟩⟩
   .exact .inl ⟨h1,h2,by rw[<-g.Zo k h1];exact hm⟩
   .rcases found i hi d hdd with⟨x,h1,h2,h3⟩|h1
    .exact .inr ⟨x.k, .inr (aB7 h1),h2,by rw[<-h3];exact hm, .inr ⟨i,x,h1,rfl,rfl⟩⟩
    .rw[h1]at hm;cases hm
 have othdim: ∀k,k<c.S.length->(∀j,j∈fx->f j≠k)->(cc ct.S k).dim≠O->(cc ct.S k=cc c.S k∨cc ct.S k=(cc c.S k).freeze):=by
  intro k h1 h2 h3;rcases g.oth k h1 h2 with h|h|⟨h,_⟩
  .exact .inl h
  .exact .inr h
  .rw[h]at h3;exact(h3 rfl).elim
 have othfz: ∀k,k<c.S.length->(∀j,j∈fx->f j≠k)->(cc ct.S k).frozen=Zb->cc ct.S k=cc c.S k:=by
  intro k h1 h2 h3;rcases othdim k h1 h2 (tn h3)with h|h
  .exact h
  .rw[h,ut]at h3;cases h3
 have hle:Le c ct:=by
  refine⟨by rw[g.len];exact fB _ _,λk d hk hd'=>⟨?_,g.Zo k hk⟩,λk hz hdm=> ?_,λk d b y hk hd' hm hy=> ?_,λb y hy hn=>by rw[g.Y];exact g.un b y hy hn,λb y hy hn=> ?_,by rw[g.Y];exact g.n,g.fb⟩
  .rcases three k (by rw[hd'];simp)with⟨j,hj,rfl⟩|⟨h1,h2⟩|⟨i,hi,rfl⟩
   .exact(stay j hj d hd').2.2.1
   .rcases othdim k h1 h2 (by rw[hd'];simp)with h|h
    .rw[<-h];exact hd'
    .rw[h,iw]at hd';exact hd'
   .omega
  .have hk:=ud hdm;by_cases h2: ∃j,j∈fx/\f j=k
   .obtain⟨j,hj,rfl⟩:=h2;exact(dM1 (g.wrz j hj) hdm hz).elim
   .rcases g.oth k hk (λj hj e=>h2 ⟨j,hj,e⟩)with h|h|⟨_,h⟩
    .exact h
    .rw[h,aM5 hz]
    .rw[h]at hz;cases hz
  .rw[g.Y];rcases three k (by rw[hd'];simp)with⟨j,hj,rfl⟩|⟨h1,h2⟩|⟨i,hi,rfl⟩
   .obtain⟨h1,h2,h3,h4⟩:=stay j hj d hd';exact(g.wr j hj (by rw[h1];simp)).2.2 b y hm hy
   .exact⟨y,g.oun k h1 h2 (by rw[hd'];simp) b y hm hy,rfl⟩
   .omega
  .rintro⟨k,h1,h2⟩;rcases orig k b (tn h1) h2 with⟨h3,h4,h5⟩|⟨s,h3,h4,h5,_⟩
   .exact hn ⟨k,by rw[<-othfz k h3 h4 h1];exact h1,h5⟩
   .exact g.ow b y hy hn ⟨s,h4,h5⟩
 have hT:Tell c' ct N f st:=by
  have hsp: ∀k b,(cc ct.S k).frozen=Zb->ct.Z k=C b->(k<c.S.length/\(∀j,j∈fx->f j≠k)/\c.Z k=C b)∨∃s,(s∈fx∨s∈pa sk.free st.m)/\(cc c'.S s).frozen=Zb/\c'.Z s=C b:=by
   intro k b h1 h2;rcases orig k b (tn h1) h2 with h|⟨s,h3,h4,h5,h6⟩
   .exact .inl h
   .refine .inr ⟨s, ?_,h4,h5⟩;rcases h6 with⟨h6,_⟩|⟨i,x,h6,h7,_⟩
    .exact .inl h6
    .refine .inr ?_
     have hi:i<bs.length:=by
      rw[<-y1];rcases aD i st.m.length with h|h
      .exact h
      .rw[bD h]at h6;cases h6
     obtain⟨b',x',o,q1,q2,q3,_⟩:=frget i hi;rw[<-h7];exact bz7 h6 q3 (nro i o (.inr q3))
  refine⟨⟨g.Y,λb y hy hn=> ?_⟩,λj x hl=> ?_,λs hs hsd b hm=> ?_⟩
  .rintro(⟨k,h1,h2⟩|h)
   .rcases hsp k b h1 h2 with⟨h3,h4,h5⟩|⟨s,h3,h4,h5⟩
    .exact hn (g.onm k h3 h4 h1 b y h5 hy)
    .exact hn (.inl ⟨s,h4,h5⟩)
   .rw[g.fb]at h;exact hn (g.fbm b h)
  .rcases hl with⟨h1,rfl⟩|⟨h1,h2⟩
   .by_cases hj:j∈fx
    .refine⟨by rw[g.len];exact fD (g.fixlt j hj) (fB _ _),λd' hd'=> ?_⟩;obtain⟨q1,q2,q3,q4⟩:=stay j hj d' hd';exact⟨d',q1,rfl,by rw[g.Zo _ (g.fixlt j hj),q4],rfl⟩
    .exact g.lk j h1 hj
   .rw[ar8]at h2
    have hi:j-N<bs.length:=by
     rw[<-y1];rcases aD (j-N) st.m.length with h|h
     .exact h
     .rw[bD h]at h2;cases h2
    have hfj:f j=c.S.length+(j-N):=by rw[<-g.fN];congr 1;omega
    rw[hfj];refine⟨by rw[g.len];omega,λd' hd'=> ?_⟩;obtain⟨b,x',o,q1,q2,q3,q4,q5,q6⟩:=frget (j-N) hi;rw[h2]at q1;injection q1 with q1
    subst q1;rw[q4]at hd';rcases q6 with⟨_,q6⟩|⟨q6,q7⟩
    .subst q6;cases hd'
    .cases x with
     |none=>
      obtain⟨_,s,q8⟩:=q7;subst q8;injection hd' with hd'
      subst hd';exact⟨by simp,q5⟩
     |some x=>
      obtain⟨k,cut⟩:=x;obtain⟨q8,d,q9,q10,q11⟩:=q7;refine⟨d,q9, ?_⟩;cases cut with
      |none=>
       simp only at q10;rw[q10]at hd';injection hd' with hd'
       subst hd';exact⟨rfl,q5,rfl⟩
      |some n=>
       simp only at q10;rw[q10]at hd';injection hd' with hd'
       subst hd';exact⟨rfl,q5,rfl⟩
  .rintro(⟨k,h1,h2⟩|h)
   .rcases hsp k b h1 h2 with⟨h3,h4,h5⟩|⟨s',h3,h4,h5⟩
    .exact g.olent k h3 h4 h1 s hs hsd b hm h5
    .have:=hR'.inj s' s b h4 hsd h5 hm;subst this;exact bU2 ap2 (List.mem_append.2 h3) hs
   .rw[g.fb]at h;exact g.fbk s b hsd hm h
 obtain⟨vs1,fs1,bs1,r1,r2,r3,r4⟩:=bB9 hR' hT hd hf;rw[he]at r1;injection r1 with r1
 injection r1 with e1 r1
 injection r1 with e2 e3
 subst e1;subst e2;subst e3;obtain⟨_,_,x4⟩:=r3.get;obtain⟨_,_,y4⟩:=r4.get;refine⟨hle,⟨by rw[g.Y];exact hR'.ok,λk k' b hk hk' hm hm'=> ?_,λk=> ?_,λk b hk hm hb=> ?_,λb hb=> ?_⟩,r2⟩
 .rcases orig k b (tn hk) hm with⟨h1,h2,h3⟩|⟨s,h1,h2,h3,h4⟩
  .rcases orig k' b hk' hm' with⟨g1,g2,g3⟩|⟨s',g1,g2,g3,g4⟩
   .refine hR.inj k k' b (by rw[<-othfz k h1 h2 hk];exact hk) ?_ h3 g3;rcases othdim k' g1 g2 hk' with h|h
    .rw[<-h];exact hk'
    .rw[h,iw]at hk';exact hk'
   .exact(g.odis k h1 h2 (tn hk) s' g1 g2 b g3 h3).elim
  .rcases orig k' b hk' hm' with⟨g1,g2,g3⟩|⟨s',g1,g2,g3,g4⟩
   .exact(g.odis k' g1 g2 hk' s h1 h2 b h3 g3).elim
   .have:=hR'.inj s s' b h2 (tn g2) h3 g3;subst this;rcases h4 with⟨h4,h5⟩|⟨i,x,h4,h5,h6⟩
    .rcases g4 with⟨g4,g5⟩|⟨i',x',g4,g5,g6⟩
     .rw[h5,g5]
     .subst g5;exact(nd3 _ h4 _ (aB7 g4) rfl).elim
    .rcases g4 with⟨g4,g5⟩|⟨i',x',g4,g5,g6⟩
     .subst h5;exact(nd3 _ g4 _ (aB7 h4) rfl).elim
     .rw[h6,g6,bw4 nd2 h4 g4 (h5.trans g5.symm)]
 .by_cases hdm:(cc ct.S k).dim=O
  .intro d hd';rw[hdm]at hd';cases hd'
  .rcases three k hdm with⟨j,hj,rfl⟩|⟨h1,h2⟩|⟨i,hi,rfl⟩
   .obtain⟨i,b,o,q1,q2,q3,q4,q5⟩:=fxget j hj;obtain⟨o',q6,q7⟩:=x4 i j b q1 q2;refine q7.blkRel hR' g.Y q4 λhb=> ?_
    cases hdd:(cc ct.S (f j)).dim with
    |none=>exact(hdm hdd).elim
    |some d=>
     obtain⟨_,_,_,q8⟩:=stay j hj d hdd;rw[g.Zo _ (g.fixlt j hj),<-q8];rfl
   .intro d hd';have h3:=othdim k h1 h2 hdm
    have hdc:(cc c.S k).dim=C d:=by
     rcases h3 with h|h
     .rw[<-h];exact hd'
     .rw[h,iw]at hd';exact hd'
    have hvc:(cc ct.S k).vals=(cc c.S k).vals:=by
     rcases h3 with h|h
     .rw[h]
     .rw[h,bJ2]
    obtain⟨q1,q2⟩:=hR.blk k d hdc;refine⟨q1, ?_⟩;rcases q2 with⟨q2,q3⟩|⟨b,y,cs,rest,q2,q3,q4,q5,q6,q7⟩
    .exact .inl ⟨q2,(g.Zo k h1).trans q3⟩
    .refine .inr ⟨b,y,cs,rest,(g.Zo k h1).trans q2,by rw[g.Y];exact g.oun k h1 h2 hdm b y q2 q3,q4,λhz=> ?_,q6,by rw[hvc];exact VRel.frames hle q7⟩;rw[othfz k h1 h2 hz]at hz;exact q5 hz
   .obtain⟨b,x,o,q1,q2,q3,q4,q5,q6⟩:=frget i hi;obtain⟨o',q7,q8⟩:=y4 i x b q1 q2;exact q8.blkRel hR' g.Y q4 λ_=>q5
 .rw[g.fb]at hb;rcases orig k b hk hm with⟨h1,h2,h3⟩|⟨s,h1,h2,h3,_⟩
  .refine hR.fbk k b ?_ h3 hb;rcases othdim k h1 h2 hk with h|h
   .rw[<-h];exact hk
   .rw[h,iw]at hk;exact hk
  .exact g.fbk s b (tn h2) h3 hb
 .rw[g.fb]at hb;rw[g.Y];exact fD (hR.fbl b hb) g.n
end
section
open Bool renaming or_eq_false_iff -> aB
open List renaming cons_append -> bB, length_append -> bD, mem_of_getElem? -> cB, nodup_append -> cD
open Nat renaming zero_add -> aD, add_sub_cancel_left -> dB
theorem tj {fx mov:List Nat}{fz:Bool}: ∀{S:ci} {i:Nat},(om fx mov fz i S).length=S.length
 |[],_=>rfl
 |_::r,i=>by simp[om,tj (S:=r)]
theorem ti {fx mov:List Nat}{fz:Bool}: ∀{S:ci} {i k:Nat},k<S.length->cc (om fx mov fz i S) k=cond (tx (i+k) mov) (cond (cc S k).frozen (cc S k) .dead) (cond (tx (i+k) fx) (cc S k) (cond fz (cc S k).freeze (cc S k)))
 |[],_,_,h=>by simp at h
 |b::r,i,0,_=>rfl
 |b::r,i,k+1,h=>by
  have:=ti (fx:=fx) (mov:=mov) (fz:=fz) (S:=r) (i:=i+1) (k:=k) (by simpa using h);rw[show i+1+k=i+(k+1)by omega]at this;exact this
theorem oz : ∀{js:List Nat} {bs:List Blk} {S S':ci},ap9 js bs S=C S'->js.length=bs.length/\S'.length=S.length/\(∀k,k∉js->cc S' k=cc S k)/\
  (js.Nodup->∀(i j:Nat) (b:Blk),js[i]?=C j->bs[i]?=C b->j<S.length->cc S' j=b)
 |[],[],S,S',h=>by
  injection h with h;subst h
  exact⟨rfl,rfl,λ_ _=>rfl,λ_ i j b h=>by simp at h⟩
 |[],_::_,S,S',h=>by cases h
 |_::_,[],S,S',h=>by cases h
 |j::js,b::bs,S,S',h=>by
  simp only[ap9]at h;obtain⟨h1,h2,h3,h4⟩:=oz h;refine⟨by simp[h1],by rw[h2,bf3],λk hk=> ?_,λhn i j' b' hi hb hl=> ?_⟩
  .rw[h3 k (λe=>hk (List.mem_cons_of_mem _ e))];exact dC7 (λe=>hk (by rw[e];exact List.mem_cons_self))
  .rw[List.nodup_cons]at hn;cases i with
   |zero=>
    simp at hi hb;subst hi;subst hb;rw[h3 j hn.1];exact cZ9 hl
   |succ i=>
    simp at hi hb;exact h4 hn.2 i j' b' hi hb (by rw[bf3];exact hl)
theorem ap6 : ∀{l:List Blk} {i:Nat} {b:Blk},l[i]?=C b->cc l i=b
 |[],i,b,h=>by simp at h
 |a::l,0,b,h=>by simpa[cc]using h
 |a::l,i+1,b,h=>ap6 (l:=l) (by simpa using h)
structure Within (c c1:Ctx)(fx mov:List Nat):Prop where
 le:Le c c1
 fr: ∀k,k<c.S.length->k∉fx->(k∉mov∨(cc c.S k).frozen=Za)->cc c1.S k=(cc c.S k).freeze
 un: ∀k,k<c.S.length->k∉fx->(k∉mov∨(cc c.S k).frozen=Za)->(cc c.S k).dim≠O->∀b y,c.Z k=C b->c.Y.m b=C y->c1.Y.m b=C y
theorem sy {S:ci}{fx:List Nat}(h:bL6 S fx=Za){j:Nat}(hj:j∈fx):j<S.length/\(cc S j).may=Za:=by
 simp only[bL6,List.all_eq_true,Bool.and_eq_true]at h;obtain⟨h1,h2⟩:=h j hj;exact⟨Nat.le_of_ble_eq_true h1,h2⟩
theorem oo {k:Nat}{l:List Nat}(h:k∉l):tx k l=Zb:=by
 cases hb:tx k l with
 |false=>rfl
 |true=>exact(h (qi.1 hb)).elim
theorem av8 {fx mov:List Nat}{fz:Bool}{S:ci}{k:Nat}(hk:k<S.length)(h1:k∉fx)(h2:(cc (om fx mov fz 0 S) k).dim≠O):(k∉mov∨(cc S k).frozen=Za)/\cc (om fx mov fz 0 S) k=cond fz (cc S k).freeze (cc S k):=by
 rw[ti hk,aD,oo h1]at h2⊢;by_cases hm:k∈mov
 .rw[qi.2 hm]at h2⊢;cases hz:(cc S k).frozen with
  |false=>rw[hz]at h2;exact(h2 rfl).elim
  |true=>exact⟨.inr rfl,by cases fz<;>simp[aM5 hz]⟩
 .rw[oo hm];exact⟨.inl hm,rfl⟩
theorem dH9 {c c1 c':Ctx}{fx mov:List Nat}{sk:SSk}{vals vs:List VV}{as:List Value}{st:DSt}{fs bs:List Blk}{S':ci}(hR:gw c)(hR':gw c')(hw:Within c c1 fx mov)(hR1:gw c1)(hle:Le c1 c')
  (hok:bL6 c.S fx=Za) (hro:sk.noRo=Za) (hd:vn c'.S c.S.length fx sk vals=C st) (he:wY id sk st.ls=C (vs,fs,bs)) (hf:F2 (VRel c') vals as) (hS:ap9 fx fs (om fx mov Za 0 c.S)=C S'):
  ∃ct:Ctx,ct.Y=c'.Y/\ct.S=S'++bs/\ct.fb=c.fb/\(∀k,k<c.S.length->ct.Z k=c.Z k)/\Le c ct/\gw ct/\F2 (VRel ct) vs as/\
   (∀k,k<c.S.length->k∉fx->(cc ct.S k).dim≠O->(k∉mov∨(cc c.S k).frozen=Za)/\∀b y,c.Z k=C b->c.Y.m b=C y->ct.Y.m b=C y):=by
 obtain⟨s1,s2,s3,s4⟩:=oz hS;rw[tj]at s2 s4;obtain⟨ap1,_⟩:=wV hd;have hnd:=wQ ap1;rw[cD]at hnd;obtain⟨nd1,_,_⟩:=hnd;have hcc:=hw.le.trans hle;have hfb:c'.fb=c.fb:=hcc.fb
 let ct:Ctx:=⟨λi=>if i<c.S.length then c.Z i else match st.m[i-c.S.length]? with
  |some x=>aN2 c' x
  |none=>O,S'++bs,c'.Y,c.fb⟩
 have hget: ∀k,k<c.S.length->cc ct.S k=cc S' k:=λk hk=>uv (by rw[s2];exact hk)
 have hoth: ∀k,k<c.S.length->k∉fx->cc ct.S k=cc (om fx mov Za 0 c.S) k:=λk hk hn=>by rw[hget k hk,s3 k hn]
 have hoth2: ∀k,k<c.S.length->k∉fx->(cc ct.S k).dim≠O->(k∉mov∨(cc c.S k).frozen=Za)/\cc ct.S k=(cc c.S k).freeze/\cc c'.S k=(cc c.S k).freeze/\c'.Z k=c.Z k/\(cc c.S k).dim≠O:=by
  intro k hk hn hdm;rw[hoth k hk hn]at hdm⊢;obtain⟨h1,h2⟩:=av8 hk hn hdm;have h3:=hw.fr k hk hn h1;rw[h2]at hdm;simp only[yB]at hdm h2;rw[iw]at hdm
  have h4:cc c'.S k=(cc c.S k).freeze:=by
   rw[hle.fz k (by rw[h3,ut]) (by rw[h3,iw];exact hdm),h3]
  refine⟨h1,h2,h4, ?_,hdm⟩;cases hdd:(cc c.S k).dim with
  |none=>exact(hdm hdd).elim
  |some d=>exact(hcc.al k d hk (by rw[h4,iw];exact hdd)).2
 have hun2: ∀k,k<c.S.length->k∉fx->(cc ct.S k).dim≠O->∀b y,c.Z k=C b->c.Y.m b=C y->c'.Y.m b=C y:=by
  intro k hk hn hdm b y hm hy;obtain⟨h1,h2,h3,h4,h5⟩:=hoth2 k hk hn hdm;have h6:=hw.un k hk hn h1 h5 b y hm hy;have h7:=hw.fr k hk hn h1
  have hmu1:c1.Z k=C b:=by
   cases hdd:(cc c.S k).dim with
   |none=>exact(h5 hdd).elim
   |some d=>rw[(hw.le.al k d hk (by rw[h7,iw];exact hdd)).2];exact hm
  have h8: ¬c1.mut b:=hR1.fz_mut (by rw[h7,ut]) (by rw[h7,iw];exact h5) hmu1;exact hle.un b y h6 λe=>h8 (.inl e)
 have g:GT c c' ct c.S.length id fx sk st fs bs:=by
  refine⟨rfl,rfl,by simp[ct,s2],λk hk hn=> ?_,λi j b hi hb=> ?_,λj hj=>(sy hok hj).1,λi b hb=> ?_,λ_=>rfl,λk hk=>xB hk,λi x hx=> ?_,hcc.un,hcc.ow,hcc.n,λk hk hn hdm b y hm hy=> ?_,λk hk hn hdm s hs hz b hm e=> ?_,λj hj hdm=> ?_,λj hj=>(sy hok hj).2,
   λ_ _ _ _ e=>e,λk b hdm hm=> ?_,λj hj hn=> ?_,λk hk hn hz b y hm hy=> ?_,λk hk hn hz s hs hsd b hm e=> ?_,λb hb=> ?_,λj hj=>(sy hok hj).1,hro⟩
  .have hn':k∉fx:=λe=>hn k e rfl
   rw[hoth k hk hn'];by_cases hdm:(cc (om fx mov Za 0 c.S) k).dim=O
   .rw[ti hk,aD,oo hn']at hdm⊢;by_cases hm:k∈mov
    .rw[qi.2 hm]at hdm⊢;cases hz:(cc c.S k).frozen with
     |false=>exact .inr (.inr ⟨rfl,rfl⟩)
     |true=>exact .inl rfl
    .rw[oo hm];exact .inr (.inl rfl)
   .exact .inr (.inl (av8 hk hn' hdm).2)
  .have hj:=cB hi;have hlt:=(sy hok hj).1;show cc ct.S j=b;rw[hget j hlt];exact s4 nd1 i j b hi hb hlt
  .show cc (S'++bs) (c.S.length+i)=b;rw[<-s2,ad3];exact ap6 hb
  .show(if c.S.length+i<c.S.length then _ else _)=_;rw[xD (by omega),dB,hx]
  .exact hun2 k hk (λe=>hn k e rfl) hdm b y hm hy
  .obtain⟨h1,h2,h3,h4,h5⟩:=hoth2 k hk (λe=>hn k e rfl) hdm;have:=hR'.inj s k b hz (by rw[h3,iw];exact h5) hm (h4.trans e);subst this;rw[h3,ut]at hz;cases hz
  .have hlt:=(sy hok hj).1;cases hdd:(cc c'.S j).dim with
   |none=>exact(hdm hdd).elim
   |some d=>
    obtain⟨h1,h2⟩:=hcc.al j d hlt hdd;exact⟨h1,h2,λb y hm hy=>hcc.ln j d b y hlt hdd hm hy⟩
  .rw[<-hfb];exact hR'.fbk k b hdm hm
  .refine⟨by simp only[id,ct,bD,s2];omega,λd' hd'=> ?_⟩;obtain⟨h1,h2,h3,h4,h5⟩:=hoth2 j hj hn (by rw[show id j=j from rfl]at hd';rw[hd'];simp);rw[show id j=j from rfl,h2]at hd';refine⟨d',by rw[h3];exact hd',rfl, ?_,rfl⟩;show(if j<c.S.length then c.Z j else _)=_;rw[xB hj,h4]
  .obtain⟨h1,h2,h3,h4,h5⟩:=hoth2 k hk (λe=>hn k e rfl) (tn hz);rw[h2,ut]at hz;cases hz
  .obtain⟨h1,h2,h3,h4,h5⟩:=hoth2 k hk (λe=>hn k e rfl) (tn hz);rw[h2,ut]at hz;cases hz
  .exact .inr (by rw[hfb];exact hb)
 obtain⟨r1,r2,r3⟩:=g.all hR hR' hd he hf;exact⟨ct,rfl,rfl,rfl,λk hk=>xB hk,r1,r2,r3,λk hk hn hdm=>⟨(hoth2 k hk hn hdm).1,hun2 k hk hn hdm⟩⟩
theorem dc8 {c:Ctx}{fx:List Nat}{sk:SSk}{vals vs:List VV}{as:List Value}{st:DSt}{fs bs:List Blk}{S':ci}(hR:gw c)
  (hok:bL6 c.S fx=Za) (hro:sk.noRo=Za) (hd:vn c.S c.S.length fx sk vals=C st) (he:wY id sk st.ls=C (vs,fs,bs)) (hf:F2 (VRel c) vals as) (hS:ap9 fx fs (om fx (vo st.m) Za 0 c.S)=C S'):
  ∃ct:Ctx,ct.Y=c.Y/\ct.S=S'++bs/\ct.fb=c.fb/\(∀k,k<c.S.length->ct.Z k=c.Z k)/\Le c ct/\gw ct/\F2 (VRel ct) vs as:=by
 obtain⟨s1,s2,s3,s4⟩:=oz hS;rw[tj]at s2 s4;obtain⟨ap1,_⟩:=wV hd;have hnd:=wQ ap1;rw[cD]at hnd;obtain⟨nd1,_,_⟩:=hnd
 let ct:Ctx:=⟨λi=>if i<c.S.length then c.Z i else match st.m[i-c.S.length]? with
  |some x=>aN2 c x
  |none=>O,S'++bs,c.Y,c.fb⟩
 have hget: ∀k,k<c.S.length->cc ct.S k=cc S' k:=λk hk=>uv (by rw[s2];exact hk)
 have hoth: ∀k,k<c.S.length->k∉fx->cc ct.S k=cc (om fx (vo st.m) Za 0 c.S) k:=λk hk hn=>by rw[hget k hk,s3 k hn]
 have hoth2: ∀k,k<c.S.length->k∉fx->(cc ct.S k).dim≠O->(k∉vo st.m∨(cc c.S k).frozen=Za)/\cc ct.S k=(cc c.S k).freeze/\(cc c.S k).dim≠O:=by
  intro k hk hn hdm;rw[hoth k hk hn]at hdm⊢;obtain⟨h1,h2⟩:=av8 hk hn hdm;rw[h2]at hdm;simp only[yB]at hdm h2;rw[iw]at hdm;exact⟨h1,h2,hdm⟩
 have g:GT c c ct c.S.length id fx sk st fs bs:=by
  refine⟨rfl,rfl,by simp[ct,s2],λk hk hn=> ?_,λi j b hi hb=> ?_,λj hj=>(sy hok hj).1,λi b hb=> ?_,λ_=>rfl,λk hk=>xB hk,λi x hx=> ?_,λ_ _ h _=>h,λ_ _ _ h=>h,Nat.le_refl _,λk hk hn hdm b y hm hy=>hy,λk hk hn hdm s hs hz b hm e=> ?_,λj hj hdm=>⟨rfl,rfl,λb y _ hy=>⟨y,hy,rfl⟩⟩,λj hj=>(sy hok hj).2,
   λ_ _ _ _ e=>e,λk b hdm hm=>hR.fbk k b hdm hm,λj hj hn=> ?_,λk hk hn hz b y hm hy=> ?_,λk hk hn hz s hs hsd b hm e=> ?_,λb hb=> .inr hb,λj hj=>(sy hok hj).1,hro⟩
  .have hn':k∉fx:=λe=>hn k e rfl
   rw[hoth k hk hn'];by_cases hdm:(cc (om fx (vo st.m) Za 0 c.S) k).dim=O
   .rw[ti hk,aD,oo hn']at hdm⊢;by_cases hm:k∈vo st.m
    .rw[qi.2 hm]at hdm⊢;cases hz:(cc c.S k).frozen with
     |false=>exact .inr (.inr ⟨rfl,rfl⟩)
     |true=>exact .inl rfl
    .rw[oo hm];exact .inr (.inl rfl)
   .exact .inr (.inl (av8 hk hn' hdm).2)
  .have hj:=cB hi;have hlt:=(sy hok hj).1;show cc ct.S j=b;rw[hget j hlt];exact s4 nd1 i j b hi hb hlt
  .show cc (S'++bs) (c.S.length+i)=b;rw[<-s2,ad3];exact ap6 hb
  .show(if c.S.length+i<c.S.length then _ else _)=_;rw[xD (by omega),dB,hx]
  .obtain⟨h1,h2,h5⟩:=hoth2 k hk (λe=>hn k e rfl) hdm;have:=hR.inj s k b hz h5 hm e;subst this;rcases hs with hs|hs
   .exact hn s hs rfl
   .rcases h1 with h1|h1
    .exact h1 hs
    .rw[h1]at hz;cases hz
  .refine⟨by simp only[id,ct,bD,s2];omega,λd' hd'=> ?_⟩;obtain⟨h1,h2,h5⟩:=hoth2 j hj hn (by rw[show id j=j from rfl]at hd';rw[hd'];simp);rw[show id j=j from rfl,h2,iw]at hd';refine⟨d',hd',rfl, ?_,rfl⟩;show(if j<c.S.length then c.Z j else _)=_;rw[xB hj]
  .obtain⟨h1,h2,h5⟩:=hoth2 k hk (λe=>hn k e rfl) (tn hz);rw[h2,ut]at hz;cases hz
  .obtain⟨h1,h2,h5⟩:=hoth2 k hk (λe=>hn k e rfl) (tn hz);rw[h2,ut]at hz;cases hz
 obtain⟨r1,r2,r3⟩:=g.all hR hR hd he hf;exact⟨ct,rfl,rfl,rfl,λk hk=>xB hk,r1,r2,r3⟩
theorem cm1 {c c1:Ctx}{fx mov:List Nat}{fs bs:List Blk}{S':ci}(hle:Le c c1)(hS:ap9 fx fs (om fx mov Za 0 c.S)=C S')(h1:c1.S=S'++bs)
  (hun: ∀k,k<c.S.length->k∉fx->(k∉mov∨(cc c.S k).frozen=Za)->(cc c.S k).dim≠O->∀b y,c.Z k=C b->c.Y.m b=C y->c1.Y.m b=C y):Within c c1 fx mov:=by
 obtain⟨s1,s2,s3,s4⟩:=oz hS;rw[tj]at s2;refine⟨hle,λk hk hn hm=> ?_,hun⟩;rw[h1,uv (by rw[s2];exact hk),s3 k hn,ti hk,aD,oo hn];rcases hm with hm|hz
 .rw[oo hm];rfl
 .cases tx k mov with
  |false=>rfl
  |true=>rw[hz];simp[aM5 hz]
section
variable {ctf ct:Ctx}
theorem VRel.thaw (hZ:ct.Z=ctf.Z)(hY:ct.Y=ctf.Y)(hl:ct.S.length=ctf.S.length)(hd: ∀k,(cc ct.S k).dim=(cc ctf.S k).dim): ∀{v:VV} {a:Value},VRel ctf v a->alV v=Zb->VRel ct v a
 |_,_, .undef a,_=> .undef a
 |_,_, .bool b,_=> .bool b
 |_,_, .int k n,_=> .int k n
 |_,_, .str hs,_=> .str hs
 |_,_, .nilp,_=> .nilp
 |_,_, .nils,_=> .nils
 |_,_, .nilf,_=> .nilf
 |_,_, .ptr hk h1 h2,_=> .ptr (by rw[hl];exact hk) h1 λd h=>by rw[hd]at h;rw[hZ];exact h2 d h
 |_,_, .it hk h1 hs h2,_=> .it (by rw[hl];exact hk) h1 hs λd h=>by rw[hd]at h;rw[hZ];exact h2 d h
 |_,_, .bld hk h1 h2,_=> .bld (by rw[hl];exact hk) h1 λd h=>by rw[hd]at h;rw[hZ];exact h2 d h
 |_,_, .pix hk h1 hi h2,_=> .pix (by rw[hl];exact hk) h1 hi λd h=>by rw[hd]at h;rw[hZ];exact h2 d h
 |_,_, .pel hk h1 h2,_=> .pel (by rw[hl];exact hk) h1 λd h=>by rw[hd]at h;rw[hZ];exact h2 d h
 |_,_, .pin _ _ _ _,h=>by cases h
 |_,_, .lstn _,h=>by cases h
 |_,_, .tgtn _,h=>by cases h
 |_,_, .tgt _ _ _ _ _,h=>by cases h
 |_,_, .lst _ _ _ _ _ _ _,h=>by cases h
 |_,_, .full hk h1 h2,_=> .full (by rw[hl];exact hk) h1 λd h=>by
  rw[hd]at h;obtain⟨n,h3,h4⟩:=h2 d h;refine⟨n,h3, ?_⟩;unfold SlR at h4⊢;rw[hZ,hY];exact h4
 |_,_, .part hk h1 h2,_=> .part (by rw[hl];exact hk) h1 λd h=>by
  rw[hd]at h;have h4:=h2 d h;unfold SlR at h4⊢;rw[hZ,hY];exact h4
 |_,_, .fn h1 h2,h=>by
  simp only[alV,aB]at h;exact .fn (go h1 h.1) (go h2 h.2)
 |_,_, .agg h1,h=>by
  simp only[alV]at h;exact .agg (go h1 h)
 |_,_, .tup h1,h=>by
  simp only[alV]at h;exact .tup (go h1 h)
where
 go: ∀{l:List VV} {m:List Value},F2 (VRel ctf) l m->alL l=Zb->F2 (VRel ct) l m
  |_,_, .nil,_=> .nil
  |_,_, .cons h1 h2,h=>by
   simp only[alL,aB]at h;exact .cons (VRel.thaw hZ hY hl hd h1 h.1) (go h2 h.2)
theorem br3 : ∀{s:Sh} (x:El s),s.al=Zb->alL (gk s x)=Zb
 | .int _,_,_=>rfl
 | .bool,_,_=>rfl
 | .str,_,_=>rfl
 | .list _,_,h=>by cases h
 | .pair a b,x,h=>by
  simp only[Sh.al,aB]at h;have h1:=br3 x.1 h.1;have h2:=br3 x.2 h.2;simp only[gk];revert h1;generalize gk a x.1=l;intro h1;induction l with
  |nil=>exact h2
  |cons v l ih=>
   simp only[alL,aB,bB]at h1⊢;exact⟨h1.1,ih h1.2⟩
theorem du5 {l m:List VV}(h1:alL l=Zb)(h2:alL m=Zb):alL (l++m)=Zb:=by
 induction l with
 |nil=>exact h2
 |cons v l ih=>
  simp only[alL,aB,bB]at h1⊢;exact⟨h1.1,ih h1.2⟩
theorem dj1 {b:Blk}(h:alB b=Zb):alL b.vals=Zb:=by
 cases b with
 |dead=>rfl
 |cells es z l=>exact h
 |arr s z l=>
  simp only[Blk.vals];induction l with
  |nil=>rfl
  |cons x l ih=>rw[jr];exact du5 (br3 x h) (ih h)
theorem thaw {c:Ctx}{S2:ci}{vs:List VV}{as:List Value}(hR:gw c)(hle:Le c ctf)(hRf:gw ctf)(hf:F2 (VRel ctf) vs as)(hal:alL vs=Zb)(hlen:S2.length=ctf.S.length)(hZ: ∀k,k<c.S.length->ctf.Z k=c.Z k)
  (hk: ∀k,(cc S2 k=cc ctf.S k/\((cc ctf.S k).dim≠O->((cc ctf.S k).frozen=Zb/\alB (cc ctf.S k)=Zb)∨(k<c.S.length/\cc ctf.S k=cc c.S k/\∀b y,c.Z k=C b->c.Y.m b=C y->ctf.Y.m b=C y)))∨
   (k<c.S.length/\cc S2 k=cc c.S k/\cc ctf.S k=(cc c.S k).freeze/\((cc c.S k).dim≠O->∀b y,c.Z k=C b->c.Y.m b=C y->ctf.Y.m b=C y))):
  Le c ⟨ctf.Z,S2,ctf.Y,ctf.fb⟩/\gw ⟨ctf.Z,S2,ctf.Y,ctf.fb⟩/\F2 (VRel ⟨ctf.Z,S2,ctf.Y,ctf.fb⟩) vs as:=by
 have hd: ∀k,(cc S2 k).dim=(cc ctf.S k).dim:=by
  intro k;rcases hk k with⟨h,_⟩|⟨_,h1,h2,_⟩
  .rw[h]
  .rw[h1,h2,iw]
 have hle2:Le c ⟨ctf.Z,S2,ctf.Y,ctf.fb⟩:=by
  refine⟨by rw[hlen];exact hle.len,λk d hkl h=>hle.al k d hkl (by rw[<-hd];exact h),λk hz hdm=> ?_,λk d b y hkl h=>hle.ln k d b y hkl (by rw[<-hd];exact h),hle.un,λb y hy hn=> ?_,hle.n,hle.fb⟩
  .rcases hk k with⟨h,_⟩|⟨_,h1,h2,_⟩
   .rw[h];exact hle.fz k hz hdm
   .exact h1
  .rintro⟨k,h1,h2⟩;rcases hk k with⟨h,_⟩|⟨h3,h4,h5,_⟩
   .exact hle.ow b y hy hn ⟨k,by rw[<-h];exact h1,h2⟩
   .exact hn ⟨k,by rw[<-h4];exact h1,by rw[<-hZ k h3];exact h2⟩
 have hth: ∀{v:VV} {a:Value},VRel ctf v a->alV v=Zb->VRel ⟨ctf.Z,S2,ctf.Y,ctf.fb⟩ v a:=λh1 h2=>VRel.thaw (ctf:=ctf) (ct:=⟨ctf.Z,S2,ctf.Y,ctf.fb⟩) rfl rfl hlen hd h1 h2
 have hths: ∀{l:List VV} {m:List Value},F2 (VRel ctf) l m->alL l=Zb->F2 (VRel ⟨ctf.Z,S2,ctf.Y,ctf.fb⟩) l m:=λh1 h2=>VRel.thaw.go (ctf:=ctf) (ct:=⟨ctf.Z,S2,ctf.Y,ctf.fb⟩) rfl rfl hlen hd h1 h2
 refine⟨hle2,⟨hRf.ok,λk k' b hz hdm hm hm'=> ?_,λk=> ?_,λk b hdm hm=>hRf.fbk k b (by rw[<-hd];exact hdm) hm,hRf.fbl⟩,hths hf hal⟩
 .have hdm':(cc ctf.S k').dim≠O:=by rw[<-hd];exact hdm
  rcases hk k with⟨h,_⟩|⟨h3,h4,h5,_⟩
  .exact hRf.inj k k' b (by rw[<-h];exact hz) hdm' hm hm'
  .rw[h4]at hz;rw[hZ k h3]at hm
   have hcase:(k'<c.S.length/\(cc c.S k').dim≠O)∨(cc ctf.S k').frozen=Zb:=by
    rcases hk k' with⟨g1,g2⟩|⟨g1,g2,g3,_⟩
    .rcases g2 hdm' with⟨g2,_⟩|⟨g2,g3,_⟩
     .exact .inr g2
     .exact .inl ⟨g2,by rw[<-g3];exact hdm'⟩
    .exact .inl ⟨g1,by rw[<-g2];exact hdm⟩
   rcases hcase with⟨g1,g2⟩|g1
   .rw[hZ k' g1]at hm';exact hR.inj k k' b hz g2 hm hm'
   .exact(hRf.inj k' k b g1 (by rw[h5,iw];exact tn hz) hm' (by rw[hZ k h3];exact hm)).symm
 .intro d hdd
  have old:k<c.S.length->cc S2 k=cc c.S k->(∀b y,c.Z k=C b->c.Y.m b=C y->ctf.Y.m b=C y)->1<=d.1/\
   ((d.2=0/\ctf.Z k=O)∨∃b y cs rest,ctf.Z k=C b/\ctf.Y.m b=C y/\y.es=d.1/\((cc S2 k).frozen=Zb->y.own=Za)/\y.cells=cs++rest/\F2 (VRel ⟨ctf.Z,S2,ctf.Y,ctf.fb⟩) (cc S2 k).vals cs):=by
   intro h1 h2 h3;obtain⟨q1,q2⟩:=hR.blk k d (by rw[<-h2];exact hdd);refine⟨q1, ?_⟩;rcases q2 with⟨q2,q3⟩|⟨b,y,cs,rest,q2,q3,q4,q5,q6,q7⟩
   .exact .inl ⟨q2,(hZ k h1).trans q3⟩
   .exact .inr ⟨b,y,cs,rest,(hZ k h1).trans q2,h3 b y q2 q3,q4,by rw[h2];exact q5,q6,by rw[h2];exact VRel.frames hle2 q7⟩
  rcases hk k with⟨h,h'⟩|⟨h3,h4,h5,h6⟩
  .have hdf:(cc ctf.S k).dim=C d:=by rw[<-hd];exact hdd
   rcases h' (by rw[hdf];simp)with⟨h1,h2⟩|⟨h1,h2,h3⟩
   .obtain⟨q1,q2⟩:=hRf.blk k d hdf;refine⟨q1, ?_⟩;rcases q2 with q2|⟨b,y,cs,rest,q2,q3,q4,q5,q6,q7⟩
    .exact .inl q2
    .exact .inr ⟨b,y,cs,rest,q2,q3,q4,by rw[h];exact q5,q6,by rw[h];exact hths q7 (dj1 h2)⟩
   .exact old h1 (h.trans h2) h3
  .exact old h3 h4 (h6 (by rw[<-h4,hdd];simp))
end
end
section
open List renaming getElem?_eq_getElem -> aB, nodup_nil -> aD, getElem?_eq_none -> bB, mem_cons_self -> bD
theorem cj6 : ∀{m:List (Option Src)},cj5 m=Za->∀(i:Nat) (x:Option Src),m[i]?=C x->∃k,x=C ⟨k,O⟩
 |[],_,i,x,h=>by simp at h
 |none::_,h,_,_,_=>by cases h
 |some ⟨k,C n⟩::_,h,_,_,_=>by cases h
 |some ⟨k,O⟩::r,h,0,x,hx=>by simp at hx;exact⟨k,hx.symm⟩
 |some ⟨k,O⟩::r,h,i+1,x,hx=>cj6 (m:=r) h i x (by simpa using hx)
theorem bC2 : ∀{os:List OSk} {i j:Nat},j∈ah6 os i↔∃p o,os[p]?=C o/\o.ro=Zb/\j=i+p
 |[],i,j=>by simp[ah6]
 |o::os,i,j=>by
  simp only[ah6];have ih:= @bC2 os (i+1) j;constructor
  .intro h;cases hr:o.ro with
   |true=>
    rw[hr,yB]at h;obtain⟨p,o',h1,h2,h3⟩:=ih.1 h;exact⟨p+1,o',by simpa using h1,h2,by omega⟩
   |false=>
    rw[hr,yD]at h;rcases List.mem_cons.1 h with h|h
    .exact⟨0,o,rfl,hr,by omega⟩
    .obtain⟨p,o',h1,h2,h3⟩:=ih.1 h;exact⟨p+1,o',by simpa using h1,h2,by omega⟩
  .rintro⟨p,o',h1,h2,h3⟩;cases p with
   |zero=>
    simp at h1;subst h1;rw[h2,yD];exact List.mem_cons.2 (.inl (by omega))
   |succ p=>
    have:=ih.2 ⟨p,o',by simpa using h1,h2,by omega⟩;cases o.ro with
    |true=>exact this
    |false=>exact List.mem_cons_of_mem _ this
theorem ci0 : ∀{os:List OSk} {m:List (Option Src)} {i:Nat} {f:Nat->Nat},os.length=m.length->(∀(p:Nat) (x:Option Src),m[p]?=C x->∃k,x=C ⟨k,O⟩/\f (i+p)=k)->(ah6 os i).map f=pa os m
 |[],[],i,f,_,_=>rfl
 |[],_::_,_,_,h,_=>by simp at h
 |_::_,[],_,_,h,_=>by simp at h
 |o::os,x::m,i,f,h,hf=>by
  obtain⟨k,h1,h2⟩:=hf 0 x rfl;subst h1
  have ih:= @ci0 os m (i+1) f (by simpa using h) λp y hy=>by
   obtain⟨k',h3,h4⟩:=hf (p+1) y (by simpa using hy);exact⟨k',h3,by rw[<-h4];congr 1;omega⟩
  simp only[ah6,pa];cases o.ro with
  |true=>exact ih
  |false=>
   simp only[yD,List.map_cons,ih];rw[Nat.add_zero]at h2;rw[h2]
theorem bg5 : ∀{os:List OSk} {m:List (Option Src)} {k:Nat},k∈pa os m->∃(i:Nat) (o:OSk) (x:Src),m[i]?=C (C x)/\os[i]?=C o/\o.ro=Zb/\x.k=k
 |[],[],k,h=>by simp[pa]at h
 |[],_::_,k,h=>by simp[pa]at h
 |_::_,[],k,h=>by simp[pa]at h
 |o::os,O::m,k,h=>by
  obtain⟨i,o',x,h1,h2,h3,h4⟩:=bg5 (os:=os) (m:=m) h;exact⟨i+1,o',x,by simpa using h1,by simpa using h2,h3,h4⟩
 |o::os,C x::m,k,h=>by
  simp only[pa]at h;cases hr:o.ro with
  |true=>
   rw[hr,yB]at h;obtain⟨i,o',x',h1,h2,h3,h4⟩:=bg5 (os:=os) (m:=m) h;exact⟨i+1,o',x',by simpa using h1,by simpa using h2,h3,h4⟩
  |false=>
   rw[hr,yD]at h;rcases List.mem_cons.1 h with h|h
   .exact⟨0,o,x,rfl,rfl,hr,h.symm⟩
   .obtain⟨i,o',x',h1,h2,h3,h4⟩:=bg5 (os:=os) (m:=m) h;exact⟨i+1,o',x',by simpa using h1,by simpa using h2,h3,h4⟩
theorem bV1 : ∀{m:List (Option Src)} {k:Nat},k∈vo m->∃(i:Nat) (x:Src),m[i]?=C (C x)/\x.k=k
 |[],k,h=>by simp[vo]at h
 |none::m,k,h=>by
  obtain⟨i,x,h1,h2⟩:=bV1 (m:=m) h;exact⟨i+1,x,by simpa using h1,h2⟩
 |some x::m,k,h=>by
  rcases List.mem_cons.1 h with h|h
  .exact⟨0,x,rfl,h.symm⟩
  .obtain⟨i,x',h1,h2⟩:=bV1 (m:=m) h;exact⟨i+1,x',by simpa using h1,h2⟩
theorem ak9 : ∀{os:List OSk} {m:List (Option Src)},(vo m).Nodup->(pa os m).Nodup
 |[],[],_=>aD
 |[],_::_,_=>aD
 |_::_,[],_=>aD
 |o::os,O::m,h=>ak9 (os:=os) (m:=m) h
 |o::os,C x::m,h=>by
  have h1:=List.nodup_cons.1 h;have ih:=ak9 (os:=os) h1.2;simp only[pa];cases o.ro with
  |true=>exact ih
  |false=>
   refine List.nodup_cons.2 ⟨λh2=>h1.1 ?_,ih⟩;obtain⟨i,o',x',h3,_,_,h4⟩:=bg5 h2;rw[<-h4];exact aB7 h3
theorem cy7 {S:ci}{N:Nat}: ∀{os:List OSk} {i:Nat} {st st1:DSt},ah3 S N os i st=C st1->∀(p:Nat) (o:OSk) (x:Src),os[p]?=C o->o.ro=Za->st1.m[i+p]?=C (C x)->x.k∈st1.lent
 |[],i,st,st1,h,p,o,x,ho,_,_=>by simp at ho
 |o'::os,i,st,st1,h,p,o,x,ho,hr,hx=>by
  simp only[ah3]at h;split at h
  .rename_i y hy;obtain⟨st2,h1,h2⟩:=cf h;cases p with
   |succ p=>exact cy7 h2 p o x (by simpa using ho) hr (by rw[<-hx];congr 1;omega)
   |zero=>
    simp at ho;subst ho;obtain⟨t1,t2⟩:=(bv5 h1).m;obtain⟨t3,t4⟩:=(wS h2).m
    have hx':st1.m[i]?=C y:=by
     rw[<-ar8,t4,t2];exact bx0 (bx0 hy)
    rw[Nat.add_zero,hx']at hx;injection hx with hx
    subst hx;refine(wS h2).lent _ ?_;unfold cP2 at h1;split at h1
    .cases hr
    .rename_i hxx;injection hxx with hxx
     subst hxx;split at h1
     .rename_i es ro l k _ es' fz cs hb;simp only[OSk.ro]at hr;subst hr;cases hk:(Nat.beq es es'&&(Za|| !fz))with
      |false=>rw[hk]at h1;cases h1
      |true=>
       rw[hk,yB]at h1;exact(ah4 _ _ _ _ h1).lent _ bD
     .cases h1
    .rename_i hxx;cases hxx
    .rename_i hxx;injection hxx with hxx
     subst hxx;rename_i ro s cut _ _;simp only[OSk.ro]at hr;subst hr;cases hk:(Za|| !(cc S _).frozen)with
     |false=>rw[hk]at h1;cases h1
     |true=>
      rw[hk,yB]at h1;obtain⟨l,h3,h4⟩:=cf h1;injection h4 with h4
      subst h4;exact bD
    .cases h1
  .cases h
def sw (c:Ctx)(st:DSt)(bs:List Blk):Ctx:=⟨λi=>match st.m[i]? with
 |some x=>aN2 c x
 |none=>O,bs,c.Y,λb=>c.mut b/\¬∃k,(k∈vo st.m∨k∈st.lent)/\(cc c.S k).dim≠O/\c.Z k=C b⟩
structure Entered (c c0:Ctx)(objs:List OSk)(st:DSt)(bs:List Blk):Prop where
 rel:gw c0
 sub: ∀i,(cc c0.S i).dim≠O->∃x,st.m[i]?=C x/\c0.Z i=aN2 c x/\∀y,x=C y->(cc c.S y.k).dim≠O/\(y.cut=O->(cc c0.S i).dim=(cc c.S y.k).dim)/\((cc c0.S i).frozen=Zb->(cc c.S y.k).frozen=Zb)
 own: ∀b,c0.own b->c.own b
 fz: ∀(i:Nat) (o:OSk),objs[i]?=C o->o.ro=Za->(cc c0.S i).frozen=Za/\(cc c0.S i).dim≠O
 len:bs.length=objs.length/\st.m.length=objs.length
theorem enter {c:Ctx}{sk:SSk}{vals vs:List VV}{as:List Value}{st:DSt}{fs bs:List Blk}(hR:gw c)(h0:sk.fix=[])(hd:vn c.S 0 [] sk vals=C st)(he:wY id sk st.ls=C (vs,fs,bs))(hf:F2 (VRel c) vals as):
  Entered c (sw c st bs) sk.free st bs/\F2 (VRel (sw c st bs)) vs as:=by
 obtain⟨ct0,vs0,fs0,bs0,p1,p2,p3⟩:=ch4 (f:=id) hR hd hf;rw[he]at p1;injection p1 with p1
 injection p1 with q1 p1
 injection p1 with q2 q3
 subst q1;subst q2;subst q3;obtain⟨ap1,ap2⟩:=wV hd;have hnd:=wQ ap1;rw[List.nil_append]at hnd ap2;obtain⟨y1,y2,y3⟩:=p3.get
 have sub: ∀i,(cc bs i).dim≠O->∃(x:Option Src) (o:OSk),st.m[i]?=C x/\sk.free[i]?=C o/\al1 c ct0 o x (cc bs i):=by
  intro i hi;have hlt:=ud hi;have hb:=aB hlt;have hm:i<st.m.length:=by rw[y1];exact hlt
  obtain⟨o,h1,h2⟩:=y3 i _ _ (aB hm) hb;rw[ap6 hb];exact⟨_,o,aB hm,h1,h2⟩
 have hmu: ∀i x,st.m[i]?=C x->(sw c st bs).Z i=aN2 c x:=by
  intro i x hx
  show(match st.m[i]? with
   |some x=>aN2 c x
   |none=>O)=_
  rw[hx]
 have src: ∀i,(cc bs i).frozen=Zb->∀b,(sw c st bs).Z i=C b->∃x,st.m[i]?=C (C x)/\(cc c.S x.k).frozen=Zb/\c.Z x.k=C b/\x.k∈pa sk.free st.m:=by
  intro i hz b hm;obtain⟨x,o,h1,h2,h3⟩:=sub i (tn hz);rw[hmu i x h1]at hm;rcases h3 with⟨_,h3⟩|⟨h3,h4⟩
  .rw[h3]at hz;cases hz
  .cases x with
   |none=>cases hm
   |some x=>
    obtain⟨k,cut⟩:=x;rw[h3]at hz;exact⟨_,h1,h4.1 hz,hm,bz7 h1 h2 hz⟩
 have src2: ∀i,(cc bs i).dim≠O->∀b,(sw c st bs).Z i=C b->∃x,st.m[i]?=C (C x)/\(cc c.S x.k).dim≠O/\c.Z x.k=C b:=by
  intro i hz b hm;obtain⟨x,o,h1,h2,h3⟩:=sub i hz;rw[hmu i x h1]at hm;rcases h3 with⟨_,h3⟩|⟨h3,h4⟩
  .rw[h3]at hz;exact(hz rfl).elim
  .cases x with
   |none=>cases hm
   |some x=>
    obtain⟨k,cut⟩:=x;obtain⟨_,d,h5,_⟩:=h4;exact⟨_,h1,by rw[h5];simp,hm⟩
 have hT:Tell c (sw c st bs) 0 id st:=by
  refine⟨⟨rfl,λb y hy hn=> ?_⟩,λj x hl=> ?_,λs hs hsd b hm=> ?_⟩
  .rintro(⟨i,h1,h2⟩|h)
   .obtain⟨x,_,h3,h4,_⟩:=src i h1 b h2;exact hn (.inl ⟨x.k,h3,h4⟩)
   .exact hn h.1
  .rcases hl with⟨h1,_⟩|⟨_,h2⟩
   .omega
   .rw[Nat.sub_zero,ar8]at h2
    have hlt:j<bs.length:=by
     rw[<-y1];rcases Nat.lt_or_ge j st.m.length with h|h
     .exact h
     .rw[bB h]at h2;cases h2
    refine⟨hlt,λd' hd'=> ?_⟩;obtain⟨x',o,h1,h3,h4⟩:=sub j (by rw[show(cc bs j).dim=C d' from hd'];simp);rw[h2]at h1;injection h1 with h1
    subst h1;have hd'':(cc bs j).dim=C d':=hd';rcases h4 with⟨_,h4⟩|⟨h4,h5⟩
    .rw[h4]at hd'';cases hd''
    .cases x with
     |none=>
      obtain⟨_,s,h6⟩:=h5;rw[h6]at hd'';injection hd'' with hd''
      subst hd'';exact⟨by simp,hmu j _ h2⟩
     |some x=>
      obtain⟨k,cut⟩:=x;obtain⟨_,d,h6,h7,_⟩:=h5;refine⟨d,h6, ?_⟩;cases cut with
      |none=>
       simp only at h7;rw[h7]at hd'';injection hd'' with hd''
       subst hd'';exact⟨rfl,hmu j _ h2,rfl⟩
      |some n=>
       simp only at h7;rw[h7]at hd'';injection hd'' with hd''
       subst hd'';exact⟨rfl,hmu j _ h2,rfl⟩
  .rintro(⟨i,h1,h2⟩|h)
   .obtain⟨x,_,h3,h4,h5⟩:=src i h1 b h2;have:=hR.inj x.k s b h3 hsd h4 hm;rw[this]at h5;exact bU2 ap2 h5 hs
   .exact h.2 ⟨s, .inr hs,hsd,hm⟩
 obtain⟨vs1,fs1,bs1,r1,r2,r3,r4⟩:=bB9 hR hT hd hf;rw[he]at r1;injection r1 with r1
 injection r1 with e1 r1
 injection r1 with e2 e3
 subst e1;subst e2;subst e3;obtain⟨_,_,y4⟩:=r4.get;refine⟨⟨⟨hR.ok,λi i' b hz hdm hm hm'=> ?_,λi=> ?_,λi b hdm hm hb=> ?_,λb hb=> ?_⟩,λi hi=> ?_,λb hb=> ?_,λi o ho hr=> ?_,⟨y2.symm,by rw[y1,y2]⟩⟩,r2⟩
 .obtain⟨x,h1,h2,h3,_⟩:=src i hz b hm;obtain⟨x',h4,h5,h6⟩:=src2 i' hdm b hm';exact bw4 hnd h1 h4 (hR.inj _ _ b h2 h5 h3 h6)
 .by_cases hdm:(cc bs i).dim=O
  .intro d hd';rw[show(cc (sw c st bs).S i).dim=O from hdm]at hd';cases hd'
  .have hlt:=ud hdm;have hb:=aB hlt;have hm:i<st.m.length:=by rw[y1];exact hlt
   obtain⟨o,h1,h2⟩:=y4 i _ _ (aB hm) hb;exact h2.blkRel (ct:=sw c st bs) hR rfl (ap6 hb) λ_=>hmu i _ (aB hm)
 .obtain⟨x',h4,h5,h6⟩:=src2 i hdm b hm;exact hb.2 ⟨x'.k, .inl (aB7 h4),h5,h6⟩
 .rcases hb.1 with⟨k,h1,h2⟩|h
  .cases hdd:(cc c.S k).dim with
   |none=>exact(tn h1 hdd).elim
   |some d=>
    obtain⟨y,_,_,hy,_⟩:=hR.block hdd h2;exact hR.ok b y hy
  .exact hR.fbl b h
 .obtain⟨x,o,h1,h2,h3⟩:=sub i hi;refine⟨x,h1,hmu i x h1,λy hy=> ?_⟩;subst hy;rcases h3 with⟨_,h3⟩|⟨h3,h4,d,h5,h6,_⟩
  .rw[show cc (sw c st bs).S i=cc bs i from rfl,h3]at hi;exact(hi rfl).elim
  .refine⟨by rw[h5];simp,λhc=> ?_,λhz=>h4 (by rw[<-h3];exact hz)⟩;rw[hc]at h6;rw[h5];exact h6
 .obtain⟨i,h1,h2⟩:=hb;obtain⟨x,_,h3,h4,_⟩:=src i h1 b h2;exact⟨x.k,h3,h4⟩
 .have hi:i<bs.length:=by
   rw[<-y2];rcases Nat.lt_or_ge i sk.free.length with h|h
   .exact h
   .rw[bB h]at ho;cases ho
  have hm:i<st.m.length:=by rw[y1];exact hi
  obtain⟨o',h1,h2⟩:=y3 i _ _ (aB hm) (aB hi);rw[ho]at h1;injection h1 with h1
  subst h1;rw[show cc (sw c st bs).S i=cc bs i from rfl,ap6 (aB hi)];rcases h2 with⟨h2,_⟩|⟨h2,h3⟩
  .subst h2;cases hr
  .refine⟨h2.trans hr, ?_⟩;cases hx:st.m[i]with
   |none=>rw[hx]at h3;obtain⟨h3,_⟩:=h3;rw[h3]at hr;cases hr
   |some x=>
    obtain⟨k,cut⟩:=x;rw[hx]at h3;obtain⟨_,d,_,h4,_⟩:=h3;cases cut with
    |none=>simp only at h4;rw[h4];simp
    |some n=>simp only at h4;rw[h4];simp
end
section
open List renaming getElem?_eq_getElem -> aB, getElem?_eq_none -> aD
open Nat renaming lt_or_ge -> bB, add_sub_cancel_left -> bD
theorem ci4 : ∀{l:List Nat} {S:ci} {k:Nat},k∈l->(cc (aV7 l S) k).frozen=Za
 |[],S,k,h=>by simp at h
 |a::l,S,k,h=>by
  simp only[aV7];by_cases hk:k∈l
  .exact ci4 hk
  .have:k=a:=by
    rcases List.mem_cons.1 h with h|h
    .exact h
    .exact(hk h).elim
   subst this;rcases(ak1 l (ql S k (cc S k).freeze)).2 k with h1|h1
   .rw[h1,ax9];split
    .exact ut
    .rename_i hn;have: ¬k<S.length:=λe=>hn ⟨rfl,e⟩
     rw[ap7 (by omega)];rfl
   .rw[h1];exact ut
theorem de4 {c c0 c':Ctx}{objs:List OSk}{sk:SSk}{vals vs:List VV}{as:List Value}{st st':DSt}{fs bs bs0:List Blk}{Sf:ci}(hR:gw c)(h0:c0=sw c st bs0)(hE:Entered c c0 objs st bs0)(hle:Le c0 c')(hR':gw c')
  (hcut:cj5 st.m=Za) (hok:bL6 c.S (pa objs st.m)=Za) (hnd:(vo st.m).Nodup) (hlent: ∀(i:Nat) (o:OSk) (x:Src),objs[i]?=C o->o.ro=Za->st.m[i]?=C (C x)->x.k∈st.lent)
  (hro:sk.noRo=Za) (hd:vn c'.S objs.length (ah6 objs 0) sk vals=C st') (he:wY (ar2 st.m objs.length c.S.length) sk st'.ls=C (vs,fs,bs)) (hf:F2 (VRel c') vals as) (hS:ap9 (pa objs st.m) fs (aV7 st.lent c.S)=C Sf):
  ∃ct:Ctx,ct.Y=c'.Y/\ct.S=Sf++bs/\ct.fb=c.fb/\(∀k,k<c.S.length->ct.Z k=c.Z k)/\Le c ct/\gw ct/\F2 (VRel ct) vs as/\
   (∀k,k<c.S.length->k∉pa objs st.m->(cc c.S k).dim≠O->∀b y,c.Z k=C b->c.Y.m b=C y->ct.Y.m b=C y):=by
 have hY0:c0.Y=c.Y:=by rw[h0];rfl
 have hfb0: ∀b,c0.fb b↔(c.mut b/\¬∃k,(k∈vo st.m∨k∈st.lent)/\(cc c.S k).dim≠O/\c.Z k=C b):=by rw[h0];exact λb=>Iff.rfl
 have hS0:c0.S=bs0:=by rw[h0];rfl
 have hfb':c'.fb=c0.fb:=hle.fb;obtain⟨l1,l2⟩:=hE.len;obtain⟨s1,s2,s3,s4⟩:=oz hS;rw[(ak1 st.lent c.S).1]at s2 s4;have hfz:=ak1 st.lent c.S
 have pos: ∀i,i<objs.length->∃k,st.m[i]?=C (C ⟨k,O⟩)/\ar2 st.m objs.length c.S.length i=k:=by
  intro i hi;have hm:i<st.m.length:=by omega
  obtain⟨k,hk⟩:=cj6 hcut i _ (aB hm);have h1:st.m[i]?=C (C ⟨k,O⟩):=by rw[aB hm,hk]
  refine⟨k,h1, ?_⟩;unfold ar2;rw[show Nat.blt i objs.length=Za from Nat.ble_eq_true_of_le hi,yB,ar8,h1]
 have fmap:(ah6 objs 0).map (ar2 st.m objs.length c.S.length)=pa objs st.m:=by
  refine ci0 l2.symm λp x hx=> ?_
  have hp:p<objs.length:=by
   rw[<-l2];rcases bB p st.m.length with h|h
   .exact h
   .rw[aD h]at hx;cases hx
  obtain⟨k,h1,h2⟩:=pos p hp;rw[hx]at h1;injection h1 with h1
  exact⟨k,h1,by rw[Nat.zero_add];exact h2⟩
 have fxlt: ∀j,j∈ah6 objs 0->j<objs.length/\∃o,objs[j]?=C o/\o.ro=Zb:=by
  intro j hj;obtain⟨p,o,h1,h2,h3⟩:=bC2.1 hj;rw[Nat.zero_add]at h3;subst h3;refine⟨?_,o,h1,h2⟩;rcases bB j objs.length with h|h
  .exact h
  .rw[aD h]at h1;cases h1
 have fxw: ∀j,j∈ah6 objs 0->ar2 st.m objs.length c.S.length j∈pa objs st.m:=λj hj=>by rw[<-fmap];exact List.mem_map_of_mem hj
 have wfx: ∀k,k∈pa objs st.m->∃j,j∈ah6 objs 0/\ar2 st.m objs.length c.S.length j=k:=λk hk=>by rw[<-fmap]at hk;obtain⟨j,h1,h2⟩:=List.mem_map.1 hk;exact⟨j,h1,h2⟩
 have oth: ∀k,(∀j,j∈ah6 objs 0->ar2 st.m objs.length c.S.length j≠k)->k∉pa objs st.m:=λk hk h=>by obtain⟨j,h1,h2⟩:=wfx k h;exact hk j h1 h2
 let ct:Ctx:=⟨λi=>if i<c.S.length then c.Z i else match st'.m[i-c.S.length]? with
  |some x=>aN2 c' x
  |none=>O,Sf++bs,c'.Y,c.fb⟩
 have hget: ∀k,k<c.S.length->cc ct.S k=cc Sf k:=λk hk=>uv (by rw[s2];exact hk)
 have hoth: ∀k,k<c.S.length->k∉pa objs st.m->cc ct.S k=cc (aV7 st.lent c.S) k:=λk hk hn=>by rw[hget k hk,s3 k hn]
 have own0: ∀b,c0.own b->∃k,k∈pa objs st.m/\(cc c.S k).frozen=Zb/\c.Z k=C b:=by
  rintro b ⟨i,h1,h2⟩;obtain⟨x,h3,h4,h5⟩:=hE.sub i (tn h1);rw[h4]at h2;cases x with
  |none=>cases h2
  |some x=>
   obtain⟨h6,_,h8⟩:=h5 x rfl
   have hi:i<objs.length:=by
    rw[<-l2];rcases bB i st.m.length with h|h
    .exact h
    .rw[aD h]at h3;cases h3
   have ho:objs[i]?=C objs[i]:=aB hi;refine⟨x.k,bz7 h3 ho ?_,h8 h1,h2⟩;cases hr:(objs[i]).ro with
   |false=>rfl
   |true=>rw[(hE.fz i _ ho hr).1]at h1;cases h1
 have nown: ∀k,k∉pa objs st.m->(cc c.S k).dim≠O->∀b,c.Z k=C b->¬c0.own b:=by
  intro k hk hdm b hm h;obtain⟨k',h1,h2,h3⟩:=own0 b h;have:=hR.inj k' k b h2 hdm h3 hm;subst this;exact hk h1
 have hun: ∀k,k<c.S.length->k∉pa objs st.m->(cc c.S k).dim≠O->∀b y,c.Z k=C b->c.Y.m b=C y->c'.Y.m b=C y:=λk _ hk hdm b y hm hy=>hle.un b y (by rw[hY0];exact hy) (nown k hk hdm b hm)
 have exists_blk: ∀k b,(cc c.S k).dim≠O->c.Z k=C b->∃y,c.Y.m b=C y:=by
  intro k b hdm hm;cases hdd:(cc c.S k).dim with
  |none=>exact(hdm hdd).elim
  |some d=>
   obtain⟨y,_,_,hy,_⟩:=hR.block hdd hm;exact⟨y,hy⟩
 have dimo: ∀k,k<c.S.length->k∉pa objs st.m->(cc ct.S k).dim=(cc c.S k).dim:=λk hk hn=>by rw[hoth k hk hn];exact hfz.dim k
 have notin: ∀k,k<c.S.length->k∉pa objs st.m->(cc ct.S k).frozen=Zb->∀b,c.Z k=C b->(cc c.S k).frozen=Zb/\¬∃k',(k'∈vo st.m∨k'∈st.lent)/\(cc c.S k').dim≠O/\c.Z k'=C b:=by
  intro k hk hn hz b hm;rw[hoth k hk hn]at hz;have hz':(cc c.S k).frozen=Zb:=by rw[<-hfz.fz hz];exact hz
  refine⟨hz', ?_⟩;rintro⟨k',h1,h2,h3⟩;have:=hR.inj k k' b hz' h2 hm h3;subst this;have hnl:k∉st.lent:=λe=>by rw[ci4 e]at hz;cases hz
  rcases h1 with h1|h1
  .obtain⟨i,x,h4,h5⟩:=bV1 h1
   have hi:i<objs.length:=by
    rw[<-l2];rcases bB i st.m.length with h|h
    .exact h
    .rw[aD h]at h4;cases h4
   have ho:objs[i]?=C objs[i]:=aB hi;cases hr:(objs[i]).ro with
   |true=>exact hnl (by rw[<-h5];exact hlent i _ x ho hr h4)
   |false=>exact hn (by rw[<-h5];exact bz7 h4 ho hr)
  .exact hnl h1
 have g:GT c c' ct objs.length (ar2 st.m objs.length c.S.length) (ah6 objs 0) sk st' fs bs:=by
  refine⟨rfl,rfl,by simp[ct,s2],λk hk hn=> ?_,λi j b hi hb=> ?_,λj hj=>(sy hok (fxw j hj)).1,λi b hb=> ?_,λi=> ?_,λk hk=>xB hk,λi x hx=> ?_,λb y hy hn=>hle.un b y (by rw[hY0];exact hy) λe=>hn (hE.own b e),λb y hy hn=>hle.ow b y (by rw[hY0];exact hy) λe=>hn (hE.own b e),by rw[<-hY0];exact hle.n,λk hk hn hdm b y hm hy=> ?_,λk hk hn hdm s hs hz b hm e=> ?_,λj hj hdm=> ?_,λj hj=>(sy hok (fxw j hj)).2,
   λj j' hj hj' e=> ?_,λk b hdm hm hb=> ?_,λj hj hn=> ?_,λk hk hn hz b y hm hy=> ?_,λk hk hn hz s hs hsd b hm e=> ?_,λb hb=> ?_,λj hj=>(fxlt j hj).1,hro⟩
  .rw[hoth k hk (oth k hn)];rcases hfz.2 k with h|h
   .exact .inl h
   .exact .inr (.inl h)
  .have hj:=List.mem_of_getElem? hi;have hw:=fxw j hj;have hlt:=(sy hok hw).1;show cc ct.S _=b;rw[hget _ hlt];refine s4 (ak9 hnd) i _ b ?_ hb hlt;rw[<-fmap,List.getElem?_map,hi];rfl
  .show cc (Sf++bs) (c.S.length+i)=b;rw[<-s2,ad3];exact ap6 hb
  .unfold ar2
   have:Nat.blt (objs.length+i) objs.length=Zb:=by
    cases hb:Nat.blt (objs.length+i) objs.length with
    |false=>rfl
    |true=>have:=Nat.le_of_ble_eq_true hb;omega
   rw[this,yD,bD]
  .show(if c.S.length+i<c.S.length then _ else _)=_;rw[xD (by omega),bD,hx]
  .exact hun k hk (oth k hn) (by rw[<-dimo k hk (oth k hn)];exact hdm) b y hm hy
  .have hdm':(cc c.S k).dim≠O:=by rw[<-dimo k hk (oth k hn)];exact hdm
   obtain⟨y,hy⟩:=exists_blk k b hdm' e;exact hle.ow b y (by rw[hY0];exact hy) (nown k (oth k hn) hdm' b e) ⟨s,hz,hm⟩
  .obtain⟨k,h1,h2⟩:=pos j (fxlt j hj).1;have hj0:j<c0.S.length:=by rw[hS0,l1];exact(fxlt j hj).1
   cases hdd:(cc c'.S j).dim with
   |none=>exact(hdm hdd).elim
   |some d=>
    obtain⟨h3,h4⟩:=hle.al j d hj0 hdd;obtain⟨x,h5,h6,h7⟩:=hE.sub j (by rw[h3];simp);rw[h1]at h5;injection h5 with h5
    subst h5;obtain⟨h8,h9,_⟩:=h7 _ rfl;rw[h2];refine⟨by rw[<-h9 rfl,h3],h4.trans h6,λb y hm hy=>hle.ln j d b y hj0 hdd (h6.trans hm) (by rw[hY0];exact hy)⟩
  .obtain⟨k,h1,h2⟩:=pos j (fxlt j hj).1;obtain⟨k',h3,h4⟩:=pos j' (fxlt j' hj').1;rw[h2,h4]at e;subst e;exact bw4 hnd h1 h3 rfl
  .have h1:=hR'.fbk k b hdm hm;rw[hfb',hfb0]at h1;refine h1 ⟨.inr hb, ?_⟩;rintro⟨k',_,h3,h4⟩;exact hR.fbk k' b h3 h4 hb
  .obtain⟨k,h1,h2⟩:=pos j hj;have ho:objs[j]?=C objs[j]:=aB hj
   have hr:(objs[j]).ro=Za:=by
    cases hr:(objs[j]).ro with
    |true=>rfl
    |false=>exact(hn (bC2.2 ⟨j,_,ho,hr,by omega⟩)).elim
   obtain⟨h3,h4⟩:=hE.fz j _ ho hr;obtain⟨x,h5,h6,h7⟩:=hE.sub j h4;rw[h1]at h5;injection h5 with h5
   subst h5;obtain⟨h8,h9,_⟩:=h7 _ rfl;simp only at h8 h9;have hkl:k<c.S.length:=ud h8
   have hkw:k∉pa objs st.m:=by
    intro hk;obtain⟨i,o,x,g1,g2,g3,g4⟩:=bg5 hk;have:=bw4 hnd g1 h1 g4;subst this;rw[ho]at g2;injection g2 with g2
    rw[g2,g3]at hr;cases hr
   have hj0:j<c0.S.length:=by rw[hS0,l1];exact hj
   have hsame:=hle.fz j h3 h4;rw[h2];refine⟨by simp only[ct,List.length_append,s2];omega,λd' hd'=> ?_⟩;rw[dimo k hkl hkw]at hd';refine⟨d',by rw[hsame,h9 trivial];exact hd',rfl, ?_,rfl⟩;show(if k<c.S.length then c.Z k else _)=_;rw[xB hkl,(hle.al j d' hj0 (by rw[hsame,h9 trivial];exact hd')).2,h6];rfl
  .obtain⟨h1,h2⟩:=notin k hk (oth k hn) hz b hm;exact .inr (by rw[hfb',hfb0];exact⟨.inl ⟨k,h1,hm⟩,h2⟩)
  .obtain⟨h1,h2⟩:=notin k hk (oth k hn) hz b e;have h3:=hR'.fbk s b hsd hm;rw[hfb',hfb0]at h3;exact h3 ⟨.inl ⟨k,h1,e⟩,h2⟩
  .refine .inr ?_;rw[hfb',hfb0];refine⟨.inr hb, ?_⟩;rintro⟨k',_,h3,h4⟩;exact hR.fbk k' b h3 h4 hb
 obtain⟨r1,r2,r3⟩:=g.all hR hR' hd he hf;exact⟨ct,rfl,rfl,rfl,λk hk=>xB hk,r1,r2,r3,hun⟩
end
section
open Bool renaming or_eq_false_iff -> bB
open List renaming getElem?_eq_getElem -> aB, getElem_mem -> aD, all_eq_true -> bD, any_eq_false -> cB, length_append -> cD
theorem bE9 : ∀{js:List Nat} {bs:List Blk} {S S1:ci},js.length=bs.length->∃S2,ap9 js bs S1=C S2
 |[],[],_,S1,_=>⟨S1,rfl⟩
 |[],_::_,_,_,h=>by simp at h
 |_::_,[],_,_,h=>by simp at h
 |j::js,b::bs,S,S1,h=>by
  obtain⟨S2,h1⟩:=bE9 (js:=js) (bs:=bs) (S:=S) (S1:=ql S1 j b) (by simpa using h);exact⟨S2,h1⟩
theorem bT4 {f:Nat->Nat}: ∀{os:List OSk} {ls rest:List Leaf} {bs:List Blk},aV6 f os ls=C (bs,rest)->(∀o,o∈os->o.ro=Zb)->∀b,b∈bs->b.dim≠O->b.frozen=Zb
 |[],ls,rest,bs,h,_,b,hb,_=>by
  simp only[aV6]at h;injection h with h
  injection h with h1 h2
  subst h1;simp at hb
 |o::os,ls,rest,bs,h,hr,b,hb,hd=>by
  simp only[aV6]at h;obtain⟨p,h1,h⟩:=cf h;obtain⟨q,h2,h⟩:=cf h;injection h with h
  injection h with h3 h4
  subst h3;rcases List.mem_cons.1 hb with hb|hb
  .subst hb;have ho:=hr o List.mem_cons_self;cases o with
   |dead=>
    simp only[ce9]at h1;injection h1 with h1
    rw[<-h1]at hd;exact(hd rfl).elim
   |cells es ro l=>
    simp only[ce9]at h1;obtain⟨v,h5,h6⟩:=cf h1;injection h6 with h6
    rw[<-h6];exact ho
   |arr ro s=>
    cases ls with
    |nil=>simp[ce9]at h1
    |cons x ls=>
     simp only[ce9]at h1;obtain⟨v,h5,h6⟩:=cf h1;injection h6 with h6
     rw[<-h6];exact ho
  .exact bT4 h2 (λo ho=>hr o (List.mem_cons_of_mem _ ho)) b hb hd
theorem cE9 {f:Nat->Nat}{sk:SSk}{ls:List Leaf}{vs:List VV}{fs bs:List Blk}(h:wY f sk ls=C (vs,fs,bs))(hr:sk.noRo=Za):(∀b,b∈fs->b.dim≠O->b.frozen=Zb)/\∀b,b∈bs->b.dim≠O->b.frozen=Zb:=by
 unfold SSk.noRo at hr;rw[Bool.and_eq_true,bD,bD]at hr;unfold wY at h;obtain⟨p,h1,h⟩:=cf h;obtain⟨q,h2,h⟩:=cf h;obtain⟨r,h3,h⟩:=cf h;split at h
 .injection h with h
  injection h with e1 h
  injection h with e2 e3
  subst e2;subst e3;exact⟨bT4 (rest:=q.2) h2 λo ho=>by simpa using hr.1 o ho,bT4 (rest:=r.2) h3 λo ho=>by simpa using hr.2 o ho⟩
 .cases h
theorem cC9 {vs:List VV}{fs bs:List Blk}(h:aV5 vs fs bs=Zb):alL vs=Zb/\(∀b,b∈fs->alB b=Zb)/\∀b,b∈bs->alB b=Zb:=by
 unfold aV5 at h;rw[bB,bB,cB,cB]at h;exact⟨h.1.1,λb hb=>by simpa using h.1.2 b hb,λb hb=>by simpa using h.2 b hb⟩
theorem cK5 {l:List Blk}{i:Nat}(h:(cc l i).dim≠O):cc l i∈l:=by
 have hi:=ud h;rw[ap6 (aB hi)];exact aD hi
theorem cl2 {c ctf:Ctx}{js:List Nat}{vs:List VV}{as:List Value}{fs bs:List Blk}{Sa Sb S1 S2:ci}(hR:gw c)(hle:Le c ctf)(hRf:gw ctf)(hf:F2 (VRel ctf) vs as)(hal:aV5 vs fs bs=Zb)
  (hz1: ∀b,b∈fs->b.dim≠O->b.frozen=Zb) (hz2: ∀b,b∈bs->b.dim≠O->b.frozen=Zb) (hla:Sa.length=c.S.length) (hlb:Sb.length=c.S.length) (hS1:ap9 js fs Sa=C S1) (hS2:ap9 js fs Sb=C S2) (hjs:js.Nodup) (hjl: ∀j,j∈js->j<c.S.length)
  (hS:ctf.S=S1++bs) (hZ: ∀k,k<c.S.length->ctf.Z k=c.Z k)
  (hoth: ∀k,k<c.S.length->k∉js->(cc Sa k=cc Sb k/\((cc Sa k).dim≠O->cc Sa k=cc c.S k))∨(cc Sb k=cc c.S k/\cc Sa k=(cc c.S k).freeze))
  (hun: ∀k,k<c.S.length->k∉js->(cc Sa k).dim≠O->∀b y,c.Z k=C b->c.Y.m b=C y->ctf.Y.m b=C y):
  Le c ⟨ctf.Z,S2++bs,ctf.Y,ctf.fb⟩/\gw ⟨ctf.Z,S2++bs,ctf.Y,ctf.fb⟩/\F2 (VRel ⟨ctf.Z,S2++bs,ctf.Y,ctf.fb⟩) vs as:=by
 obtain⟨a1,a2,a3⟩:=cC9 hal;obtain⟨p1,p2,p3,p4⟩:=oz hS1;obtain⟨q1,q2,q3,q4⟩:=oz hS2;refine thaw hR hle hRf hf a1 (by rw[hS,cD,cD,p2,q2,hla,hlb]) hZ λk=> ?_
 by_cases hk:k<c.S.length
 .have g1:cc (S2++bs) k=cc S2 k:=uv (by rw[q2,hlb];exact hk);have g2:cc ctf.S k=cc S1 k:=by rw[hS];exact uv (by rw[p2,hla];exact hk)
  by_cases hj:k∈js
  .obtain⟨i,hi,e⟩:=List.mem_iff_getElem.1 hj;have hi':i<fs.length:=by rw[<-p1];exact hi
   have e1:=p4 hjs i k _ (by rw[aB hi,e]) (aB hi') (by rw[hla];exact hk);have e2:=q4 hjs i k _ (by rw[aB hi,e]) (aB hi') (by rw[hlb];exact hk);refine .inl ⟨by rw[g1,g2,e1,e2],λhdm=> .inl ?_⟩;rw[g2,e1]at hdm⊢;exact⟨hz1 _ (aD hi') hdm,a2 _ (aD hi')⟩
  .rw[g1,g2,q3 k hj,p3 k hj];rcases hoth k hk hj with⟨h1,h2⟩|⟨h1,h2⟩
   .exact .inl ⟨h1.symm,λhdm=> .inr ⟨hk,h2 hdm,hun k hk hj hdm⟩⟩
   .exact .inr ⟨hk,h1,h2,λhdm=>hun k hk hj (by rw[h2,iw];exact hdm)⟩
 .have h1:k=c.S.length+(k-c.S.length):=by omega
  have g1:cc (S2++bs) k=cc bs (k-c.S.length):=by
   rw[h1,<-hlb,<-q2,ad3]
   congr 1
   omega
  have g2:cc ctf.S k=cc bs (k-c.S.length):=by
   rw[hS,h1,<-hla,<-p2,ad3]
   congr 1
   omega
  refine .inl ⟨by rw[g1,g2],λhdm=> .inl ?_⟩;rw[g2]at hdm⊢;exact⟨hz2 _ (cK5 hdm) hdm,a3 _ (cK5 hdm)⟩
theorem bY0 {c c0 c':Ctx}{objs:List OSk}{sk:SSk}{vals vs:List VV}{as:List Value}{st st':DSt}{fs bs bs0:List Blk}{S2:ci}(hR:gw c)(h0:c0=sw c st bs0)(hE:Entered c c0 objs st bs0)(hle:Le c0 c')(hR':gw c')
  (hcut:cj5 st.m=Za) (hok:bL6 c.S (pa objs st.m)=Za) (hnd:(vo st.m).Nodup) (hlent: ∀(i:Nat) (o:OSk) (x:Src),objs[i]?=C o->o.ro=Za->st.m[i]?=C (C x)->x.k∈st.lent)
  (hro:sk.noRo=Za) (hd:vn c'.S objs.length (ah6 objs 0) sk vals=C st') (he:wY (ar2 st.m objs.length c.S.length) sk st'.ls=C (vs,fs,bs)) (hf:F2 (VRel c') vals as)
  (hS:ap9 (pa objs st.m) fs (cond (aV5 vs fs bs) (aV7 st.lent c.S) c.S)=C S2):
  ∃ct:Ctx,ct.Y=c'.Y/\ct.S=S2++bs/\Le c ct/\gw ct/\F2 (VRel ct) vs as/\am3 (pa objs st.m) c ct:=by
 obtain⟨q1,q2,q3,q4⟩:=oz hS;obtain⟨Sf,hSf⟩:=bE9 (S:=c.S) (S1:=aV7 st.lent c.S) q1;obtain⟨ct,e1,e2,e3,e4,e5,e6,e7,e8⟩:=de4 hR h0 hE hle hR' hcut hok hnd hlent hro hd he hf hSf
 have calm: ∀ct':Ctx,ct'.Y=ct.Y->(∀k,(cc ct'.S k).dim=(cc ct.S k).dim)->am3 (pa objs st.m) c ct':=by
  intro ct' h1 h2 k hk hn hdm;obtain⟨_,p2,p3,_⟩:=oz hSf;have hl:(aV7 st.lent c.S).length=c.S.length:=(ak1 st.lent c.S).1;refine⟨?_,λb hm=> ?_⟩
  .rw[h2,e2,uv (by rw[p2,hl];exact hk),p3 k hn,(ak1 st.lent c.S).dim];exact hdm
  .cases hdd:(cc c.S k).dim with
   |none=>exact(hdm hdd).elim
   |some d=>
    obtain⟨y,_,_,hy,_⟩:=hR.block hdd hm;rw[hy,h1];exact e8 k hk hn hdm b y hm hy
 cases hal:aV5 vs fs bs with
 |true=>
  rw[hal,yB,hSf]at hS;injection hS with hS
  subst hS;exact⟨ct,e1,e2,e5,e6,e7,calm ct rfl λ_=>rfl⟩
 |false=>
  rw[hal,yD]at hS;obtain⟨z1,z2⟩:=cE9 he hro;have hfz:=ak1 st.lent c.S
  obtain⟨r1,r2,r3⟩:=cl2 hR e5 e6 e7 hal z1 z2 hfz.1 rfl hSf hS (ak9 hnd) (λj hj=>(sy hok hj).1) e2 e4 (λk hk hn=>by
   rcases hfz.2 k with h|h
   .exact .inl ⟨h,λ_=>h⟩
   .exact .inr ⟨rfl,h⟩) (λk hk hn hdm=>e8 k hk hn (by rw[<-hfz.dim];exact hdm))
  refine⟨⟨ct.Z,S2++bs,ct.Y,ct.fb⟩,e1,rfl,r1,r2,r3,calm _ rfl λk=> ?_⟩;obtain⟨_,p2,p3,p4⟩:=oz hSf;rw[e2];show(cc (S2++bs) k).dim=(cc (Sf++bs) k).dim;by_cases hk:k<c.S.length
  .rw[uv (S:=S2) (by rw[q2,hal];exact hk),uv (S:=Sf) (by rw[p2,hfz.1];exact hk)];by_cases hw:k∈pa objs st.m
   .obtain⟨i,hi,e⟩:=List.mem_iff_getElem.1 hw;have hi':i<fs.length:=by rw[<-q1];exact hi
    obtain⟨_,_,_,t4⟩:=oz hS
    rw[t4 (ak9 hnd) i k _ (by rw[aB hi,e]) (aB hi') hk,
     p4 (ak9 hnd) i k _ (by rw[aB hi,e]) (aB hi') (by rw[hfz.1];exact hk)]
   .obtain⟨_,_,t3,_⟩:=oz hS;rw[t3 k hw,p3 k hw,hfz.dim]
  .have h1:k=c.S.length+(k-c.S.length):=by omega
   have g1:cc (S2++bs) k=cc bs (k-c.S.length):=by
    obtain⟨_,t2,_,_⟩:=oz hS;rw[h1,<-t2,ad3]
    congr 1
    omega
   have g2:cc (Sf++bs) k=cc bs (k-c.S.length):=by
    rw[h1,<-hfz.1,<-p2,ad3]
    congr 1
    omega
   rw[g1,g2]
theorem dy2 {c c1 c':Ctx}{fx mov:List Nat}{sk:SSk}{vals vs:List VV}{as:List Value}{st:DSt}{fs bs:List Blk}{S2:ci}(hR:gw c)(hR':gw c')(hw:Within c c1 fx mov)(hR1:gw c1)(hle:Le c1 c')
  (hok:bL6 c.S fx=Za) (hro:sk.noRo=Za) (hd:vn c'.S c.S.length fx sk vals=C st) (he:wY id sk st.ls=C (vs,fs,bs)) (hf:F2 (VRel c') vals as) (hS:ap9 fx fs (om fx mov (aV5 vs fs bs) 0 c.S)=C S2):
  ∃ct:Ctx,ct.Y=c'.Y/\ct.S=S2++bs/\Le c ct/\gw ct/\F2 (VRel ct) vs as:=by
 obtain⟨q1,q2,q3,q4⟩:=oz hS;obtain⟨Sf,hSf⟩:=bE9 (S:=c.S) (S1:=om fx mov Za 0 c.S) q1;obtain⟨ct,e1,e2,e3,e4,e5,e6,e7,e8⟩:=dH9 hR hR' hw hR1 hle hok hro hd he hf hSf;cases hal:aV5 vs fs bs with
 |true=>
  rw[hal,hSf]at hS;injection hS with hS
  subst hS;exact⟨ct,e1,e2,e5,e6,e7⟩
 |false=>
  rw[hal]at hS;obtain⟨z1,z2⟩:=cE9 he hro;obtain⟨ap1,_⟩:=wV hd;have hnd:=wQ ap1;rw[List.nodup_append]at hnd;obtain⟨_,p2,p3,_⟩:=oz hSf;rw[tj]at p2
  obtain⟨r1,r2,r3⟩:=cl2 hR e5 e6 e7 hal z1 z2 tj tj hSf hS hnd.1 (λj hj=>(sy hok hj).1) e2 e4 (λk hk hn=>by
   rw[ti hk,ti hk,Nat.zero_add,oo hn];cases tx k mov with
   |true=>
    refine .inl ⟨rfl,λh=> ?_⟩;cases hz:(cc c.S k).frozen with
    |true=>rfl
    |false=>rw[hz]at h;exact(h rfl).elim
   |false=>exact .inr ⟨rfl,rfl⟩) (λk hk hn hdm=>(e8 k hk hn (by rw[e2,uv (by rw[p2];exact hk),p3 k hn];exact hdm)).2)
  exact⟨⟨ct.Z,S2++bs,ct.Y,ct.fb⟩,e1,rfl,r1,r2,r3⟩
end
section
open List renaming mem_cons_of_mem -> aB, mem_cons_self -> aD
open Nat renaming eq_of_beq_eq_true -> bB
def dj4 (l:List Alt)(s:ao4 l):Option (Σ a:Alt,a.Ty):=dj3 l s λa u=>C ⟨a,u⟩
theorem cu3 {β:Type}: ∀(l:List Alt) (s:ao4 l) (k:(a:Alt)->a.Ty->Option β),dj3 l s k=(dj4 l s).bind λp=>k p.1 p.2
 |[],_,_=>rfl
 |[a],t,k=>rfl
 |a::b::r, .inl t,k=>rfl
 |a::b::r, .inr s,k=>cu3 (b::r) s k
def FSum.spec (F:FSum):Ab.bA9:=λargs Y K=> ∃(c:Ctx) (vals:List VV) (st:DSt) (t:Tup F.ins.shs) (o:ao4 F.outs) (p:Σ a:Alt,a.Ty) (v:VV) (fs bs:List Blk) (S':ci),
 c.Y=Y/\gw c/\F2 (VRel c) vals args/\vn c.S 0 [] F.ins vals=C st/\ofL F.ins.shs st.ls=C t/\cj5 st.m=Za/\bL6 c.S (pa F.objs st.m)=Za/\F.run t=C o/\dj4 F.outs o=C p/\
 wY (ar2 st.m F.objs.length c.S.length) p.1.sk (toL p.1.sk.shs p.2)=C ([v],fs,bs)/\ap9 (pa F.objs st.m) fs (cond (aV5 [v] fs bs) (aV7 st.lent c.S) c.S)=C S'/\
 ∀r Y',(∃ct:Ctx,ct.Y=Y'/\ct.S=S'++bs/\Le c ct/\gw ct/\VRel ct v r/\am3 (pa F.objs st.m) c ct)->K r Y'
theorem FSum.mono (F:FSum):bF9 F.spec:=by
 rintro args Y K K' hk ⟨c,vals,st,t,o,p,v,fs,bs,S',h1,h2,h3,h4,h5,h6,h7,h8,h9,h10,h11,h12⟩;exact⟨c,vals,st,t,o,p,v,fs,bs,S',h1,h2,h3,h4,h5,h6,h7,h8,h9,h10,h11,λr Y' h=>hk r Y' (h12 r Y' h)⟩
def Inl.spec (I:Inl):Ab.bA9:=λargs Y K=> ∃(β:Type) (y:β) (c:Ctx) (vals:List VV) (k:VV->ci->Option β),c.Y=Y/\gw c/\F2 (VRel c) vals args/\I.run β vals c.S k=C y/\∀r Y',kq c (bR9 c.S.length) k y r Y'->K r Y'
theorem Inl.mono (I:Inl):bF9 I.spec:=by
 rintro args Y K K' hk ⟨β,y,c,vals,k,h1,h2,h3,h4,h5⟩;exact⟨β,y,c,vals,k,h1,h2,h3,h4,λr Y' h=>hk r Y' (h5 r Y' h)⟩
def jv (tab:Tab):Ab.ja:=λf args Y K=>(∃F,F∈tab.fs/\F.f=f/\F.spec args Y K)∨∃I,I∈tab.is/\I.f=f/\I.spec args Y K
theorem ed (tab:Tab):ac0 (jv tab):=by
 rintro f args Y K K' hk (⟨F,h1,h2,h3⟩|⟨F,h1,h2,h3⟩)
 .exact .inl ⟨F,h1,h2,F.mono args Y K K' hk h3⟩
 .exact .inr ⟨F,h1,h2,F.mono args Y K K' hk h3⟩
def at0 (P:Program)(F:FSum):Prop:=Sim P F.f F.spec
def cO0 (P:Program)(I:Inl):Prop:=Sim P I.f I.spec
def nh (P:Program)(tab:List FSum):Prop:= ∀F,F∈tab->at0 P F
def cg (P:Program)(is:List Inl):Prop:= ∀I,I∈is->cO0 P I
theorem cg.nil (P:Program):cg P []:=λF h=>by cases h
theorem cg.cons {P:Program}{F:Inl}{tab:List Inl}(h:cO0 P F)(ht:cg P tab):cg P (F::tab):=λG hG=>by
 rcases List.mem_cons.1 hG with rfl|hG
 .exact h
 .exact ht G hG
theorem nh.nil (P:Program):nh P []:=λF h=>by cases h
theorem nh.cons {P:Program}{F:FSum}{tab:List FSum}(h:at0 P F)(ht:nh P tab):nh P (F::tab):=λG hG=>by
 rcases List.mem_cons.1 hG with rfl|hG
 .exact h
 .exact ht G hG
theorem nh.app {P:Program}{a b:List FSum}(h:nh P a)(k:nh P b):nh P (a++b):=λG hG=>by
 rcases List.mem_append.1 hG with hG|hG
 .exact h G hG
 .exact k G hG
theorem bf6 {P:Program}{tab:Tab}(h:nh P tab.fs)(h':cg P tab.is)(f:FuncId):Sim P f (jv tab f):=by
 rintro B Z Y w args cargs K (⟨F,h1,h2,h3⟩|⟨F,h1,h2,h3⟩) hR ha
 .subst h2;exact h F h1 B Z Y w args cargs K h3 hR ha
 .subst h2;exact h' F h1 B Z Y w args cargs K h3 hR ha
theorem cD9 {β:Type}{c:Ctx}{k:VV->ci->Option β}{y:β}{f:Nat}{args:List VV}{as:List Value}(hR:gw c)(hf:F2 (VRel c) args as): ∀{tab:List FSum},bS9 tab f args c.S k=C y->(λf args Y K=> ∃F,F∈tab/\F.f=f/\F.spec args Y K:Ab.ja) f as c.Y (kq c (aj9 tab f args c.S) k y)
 |[],h=>by cases h
 |F::r,h=>by
  have next:bS9 r f args c.S k=C y->aj9 (F::r) f args c.S=aj9 r f args c.S->(λf args Y K=> ∃G,G∈F::r/\G.f=f/\G.spec args Y K:Ab.ja) f as c.Y (kq c (aj9 (F::r) f args c.S) k y):=by
   intro h1 h2;obtain⟨G,h3,h4,h5⟩:=cD9 hR hf h1;rw[h2];exact⟨G,aB _ h3,h4,h5⟩
  simp only[bS9]at h;cases hb:Nat.beq F.f f with
  |false=>
   rw[hb,yD]at h;exact next h (by simp only[aj9,hb,yD])
  |true=>
   rw[hb,yB]at h;cases hd:vn (bd6 F.vals args c.S) 0 [] F.ins args with
   |none=>
    rw[hd]at h;exact next h (by simp only[aj9,hb,yB,hd])
   |some st=>
    rw[hd]at h;simp only at h;cases ht:ofL F.ins.shs st.ls with
    |none=>
     rw[ht]at h;exact next h (by simp only[aj9,hb,yB,hd,ht])
    |some t=>
     rw[ht]at h;simp only at h;obtain⟨h1,h2⟩:=co h;rw[Bool.and_eq_true]at h1;have hdirty:aj9 (F::r) f args c.S=pa F.objs st.m:=by simp only[aj9,hb,yB,hd,ht]
     rw[hdirty];unfold dH2 at h2;obtain⟨o,h3,h4⟩:=cf h2;rw[cu3]at h4;obtain⟨p,h5,h6⟩:=cf h4;have hfz:=bU4 F.vals args c.S;split at h6
     .rename_i v fs bs he;split at h6
      .rename_i S' hS;refine⟨F,aD,bB hb,⟨c.Z,bd6 F.vals args c.S,c.Y,c.fb⟩,args,st,t,o,p,v,fs,bs,S',rfl,hfz.rel hR,VRel.frames hfz.le hf,hd,ht,h1.1,h1.2,h3,h5,he,hS, ?_⟩;rintro rv Y' ⟨ct,e1,e2,e3,e4,e5,e6⟩;exact⟨v,ct,e1,hfz.le.trans e3,e4,(hfz.calm _).trans e6 hfz.le,e5,by rw[e2];exact h6⟩
      .cases h6
     .cases h6
theorem cE0 {β:Type}{c:Ctx}{k:VV->ci->Option β}{y:β}{f:Nat}{args:List VV}{as:List Value}(hR:gw c)(hf:F2 (VRel c) args as): ∀{is:List Inl},cW2 is f args c.S k=C y->∃I,I∈is/\I.f=f/\I.spec as c.Y (kq c (bR9 c.S.length) k y)
 |[],h=>by cases h
 |I::r,h=>by
  simp only[cW2]at h;cases hb:Nat.beq I.f f with
  |false=>
   rw[hb,yD]at h;obtain⟨J,h1,h2,h3⟩:=cE0 hR hf h;exact⟨J,aB _ h1,h2,h3⟩
  |true=>
   rw[hb,yB]at h;exact⟨I,aD,bB hb,β,y,c,args,k,rfl,hR,hf,h,λr Y' h=>h⟩
theorem cE1 {β:Type}{c:Ctx}{k:VV->ci->Option β}{y:β}{f:Nat}{args:List VV}{as:List Value}(hR:gw c)(hf:F2 (VRel c) args as){tab:Tab}(h:cW3 tab f args c.S k=C y):jv tab f as c.Y (kq c (cv3 tab f args c.S) k y):=by
 unfold cW3 at h;unfold cv3;cases hb:dx4 tab.is f with
 |false=>
  rw[hb,yD]at h;rw[yD];exact .inl (cD9 hR hf h)
 |true=>
  rw[hb,yB]at h;rw[yB];exact .inr (cE0 hR hf h)
theorem bv7 {β:Type}{tab:Tab}{c:Ctx}{e:gf}{ea:ey}{k:VV->ci->Option β}{y:β}(hR:gw c)(he:cn c e ea){op:AOp}(h:bT6 tab op e c.S k=C y):di (jv tab) op ea c.Y (kq c (bv6 tab op e c.S) k y):=by
 cases op<;>simp only[bT6]at h
 case move x=>exact dz0 hR he h
 case pick t a b=>
  split at h
  .rename_i p hp;exact dB3 hR he hp h
  .cases h
 case alloc es z=>exact dj2 hR h
 case box es x=>exact dK5 hR he h
 case build z ps=>
  split at h
  .rename_i cs hc;exact dk2 hR he hc h
  .cases h
 case buildSlice es ln z ps=>
  split at h
  .rename_i cs hc;exact ce5 hR he hc h
  .cases h
 case load x=>exact dy4 hR he h
 case loadN n x=>exact dn4 hR he h
 case store n a x=>exact ds9 hR he (λq hq=>bC0 _ hq) h
 case nilCheck x=>exact cG9 hR he h
 case bin op x z=>exact dK4 hR he h
 case eqv kd neg x z=>
  split at h
  .rename_i p hp;exact dK7 hR he hp h
  .cases h
 case eqCells neg ks x z=>
  split at h
  .rename_i a b h1 h2;split at h
   .rename_i p hp;exact cP6 hR he h1 h2 hp h
   .cases h
  .cases h
 case un op x=>exact dW3 hR he h
 case conv kd x=>
  split at h
  .rename_i n hn;exact dv3 hR he hn h
  .cases h
 case mkFunc f a b=>exact de6 hR he h
 case makeSlice es bytes z l m=>exact dy8 hR he h
 case slice es x lo hi=>exact ds7 hR he h
 case sliceStr x lo hi=>exact cL0 hR he h
 case sliceArr es n x lo hi=>exact cK9 hR he h
 case off n x=>exact dM6 hR he h
 case idx es x i=>exact dL3 hR he h
 case idxA ln es x i=>exact dx6 hR he h
 case fieldV o n agg x=>
  split at h
  .rename_i cs hc;exact dd1 hR he hc h
  .cases h
 case indexV ln es agg x i=>
  split at h
  .rename_i cs kd i h1 h2;exact de0 hR he h1 h2 h
  .cases h
 case indexS x i=>
  split at h
  .rename_i l kd i h1 h2;exact dd9 hR he h1 h2 h
  .cases h
 case extract x i=>
  split at h
  .rename_i vs hc;exact cP8 hR he hc h
  .cases h
 case call f xs=>exact cE1 hR (bM6 he xs) h
 case callv x xs=>
  have hx:=dk he x;split at h
  .rename_i f a b hv;rw[hv]at hx
   have: ∃a' b',ea.ev x= .func (.func f) a' b'/\F2 (VRel c) a a'.toList/\F2 (VRel c) b b'.toList:=by
    generalize ea.ev x=xa at hx;cases hx;exact⟨_,_,rfl,by assumption,by assumption⟩
   obtain⟨a',b',h1,h2,h3⟩:=this;have:=cE1 hR ((h2.append (bM6 he xs)).append h3) h;simp only[di,h1,bv6,hv];exact this
  .cases h
 case append es bytes s x=>exact cO1 hR he (λq hq=>bC0 _ hq) h λh=>db3 hR he (λq hq=>bC0 _ hq) h
 case stuck=>cases h
 case capN x=>
  split at h
  .rename_i hx;exact dv0 hR he hx h
  .cases h
 case sliceX x hi mx=>exact dh0 hR he h
 case range x=>
  split at h
  .rename_i l hx;exact dq8 hR he hx h
  .cases h
 case next x=>exact dz4 hR he (λq hq=>bC0 _ hq) h
 case newB=>exact dz2 hR h
 case encR x=>
  split at h
  .rename_i n hx;exact dw3 hR he hx h
  .cases h
 case strOf x=>exact dt0 hR he h
 case strOfR x=>exact dD0 hR he h
 case runesOf x=>exact dr6 hR he h
 case appendZ es bytes z s x=>exact cO2 hR he (λq hq=>bC0 _ hq) h
 case copy es s x=>exact dv4 hR he (λq hq=>bC0 _ hq) h
 case len x=>
  split at h
  .cases h
  .rename_i hns;split at h
   .rename_i n hn;exact dL9 hR he hns hn h
   .cases h
 case lenS x=>
  split at h
  .rename_i l hl;exact dy3 hR he hl h
  .cases h
 case lenC n=>exact dq rfl (kq.same hR (.int _ _) h)
 case most x z=>
  split at h
  .rename_i kd a kd' b h1 h2;exact dy9 hR he h1 h2 h
  .cases h
 case least x z=>
  split at h
  .rename_i kd a kd' b h1 h2;exact dn0 hR he h1 h2 h
  .cases h
end
end Go.V
