/- A part of the proofs of this claim: what functions of the program answer on an abstract machine, and plain laws. No condition. -/
import Derived.Test.YtabdgoepkddlbaaGreatA3
set_option linter.unusedVariables false
set_option linter.unusedSimpArgs false
set_option linter.unusedSectionVars false
namespace Go.V
open Go.Ab
open Option renaming some->Y,none->Z
open Bool renaming true->Za,false->Zb
open Decidable renaming decide->Zc
section
open Bool renaming and_eq_true -> bB
open List renaming length_append -> iA
open Nat renaming eq_of_beq_eq_true -> aB, mul_le_mul_right -> aD, add_mul -> bD, le_refl -> cB, le_of_ble_eq_true -> cD, beq -> dB, le_trans -> dD, add_assoc -> eD, eq_of_mul_eq_mul_right -> fB, mul_div_cancel -> fD, zero_add -> gB
open Option renaming map_some -> gD, map_none -> iB
section
variable {β:Type} {T:gr} {c:Ctx} {e:cz} {ea:cb} {k:VV->ai->Option β} {y:β} {d:List Nat}
theorem SlR.len {q lo n:Nat}{dm:Nat×Nat}{a:Value}(h:SlR c q lo n dm a): ∃p cp,a= .slice p n cp/\n<=cp:=by
 rcases h with⟨rfl,_,rfl,_,_⟩|⟨b,cp,x,rfl,_,_,h,_⟩
 .exact⟨Z,0,rfl,cB _⟩
 .exact⟨_,cp,rfl,h⟩
theorem do3 (hR:ec c){v:VV}{a:Value}{n:Nat}(h:lenOf c.S v=Y n)(hv:VRel c v a)(hs: ∀l,v≠ .str l): ∃p cp,a= .slice p n cp/\n<=cp:=by
 cases v<;>simp only[lenOf]at h<;>try(cases h;done)
 case nils=>injection h with h;subst h;cases hv;exact⟨Z,0,rfl,cB _⟩
 case str l=>exact(hs l rfl).elim
 case lst s l=>
  injection h with h;subst h
  cases hv with
  |lstn=>exact⟨_,0,rfl,cB _⟩
  |lst _ _ _ h1 h2 _ _=>subst h1;exact⟨_,_,rfl,h2⟩
 case part q lo m=>
  cases hl:(ae c.S q).live with
  |false=>rw[hl]at h;cases h
  |true=>
   rw[hl]at h;injection h with h;subst h
   obtain⟨dd,hh⟩:=yz hl;cases hv with
   |part hk _ hd=>exact(hd dd hh).len
 case full q=>
  cases hv with
  |full hk _ hd=>
   cases hb:ae c.S q with
   |dead=>rw[hb]at h;cases h
   |arr s z l=>
    rw[hb]at h;injection h with h;subst h
    obtain⟨n,h1,h2⟩:=hd (s.w,l.length*s.w) (by rw[hb];rfl);have:n=l.length:=fB (sZ s) h1;subst this;exact h2.len
   |cells es z l=>
    rw[hb]at h;injection h with h;subst h
    obtain⟨n,h1,h2⟩:=hd (es,l.length) (by rw[hb];rfl);have h3:=(hR.blk q (es,l.length) (by rw[hb];rfl)).1
    have:n=l.length / es:=by
     simp only at h1 h3;rw[<-h1,fD _ h3]
    subst this;exact h2.len
theorem dR1 (hR:ec c)(he:az c e ea){x:Operand}{n:Nat}(hs: ∀l,ev e x≠ .str l)(hn:lenOf c.S (ev e x)=Y n)(h:k (.int .i64 n) c.S=Y y):br T (.len x) ea c.σ (mp c d k y):=by
 obtain⟨p,cp,h1,_⟩:=do3 hR hn (bt he x) hs;exact bz (by simp only[AOp.run,h1]) (mp.same hR (.int _ _) h)
theorem bQ6 (he:az c e ea){lo:Option Operand}{a:Int}{m:Nat}(h:ba2 (lo.map (ev e))=Y a)(h0:0<=a)(hm:a<=m):uH m 0 (lo.map ea.ev)=Y a.toNat:=by
 cases lo with
 |none=>
  simp only[iB,ba2]at h;injection h with h;subst h
  rfl
 |some x=>
  simp only[gD,ba2]at h⊢;obtain⟨kd,h1⟩:=bS5 h (bt he x);rw[h1];exact zE ⟨h0,hm⟩
theorem bQ4 (he:az c e ea){hi:Option Operand}{b:Int}{n cp:Nat}(h:ao9 n (hi.map (ev e))=Y b)(h0:0<=b)(hm:b<=n)(hc:n<=cp):uH cp n (hi.map ea.ev)=Y b.toNat:=by
 cases hi with
 |none=>
  simp only[iB,ao9]at h;injection h with h;subst h
  simp[uH]
 |some x=>
  simp only[gD,ao9]at h⊢;obtain⟨kd,h1⟩:=bS5 h (bt he x);rw[h1];exact zE ⟨h0,by omega⟩
theorem zq {a b:Int}{n:Nat}(h:i5 a b n=Za):0<=a/\a<=b/\b<=n:=by
 unfold i5 at h;rw[bB,bB]at h;exact⟨of_decide_eq_true h.1.1,of_decide_eq_true h.1.2,of_decide_eq_true h.2⟩
theorem bf7 (he:az c e ea){es:Nat}{x:Operand}{lo hi:Option Operand}{p:Option Addr}{n cp:Nat}{a b:Int}(hx:ea.ev x= .slice p n cp)(hn:n<=cp)(hp:cp≠0->∀q,p=Y q->∃z,c.σ.m q.block=Y z/\z.es=es)
  (hlo:ba2 (lo.map (ev e))=Y a) (hhi:ao9 n (hi.map (ev e))=Y b) (hg:i5 a b n=Za):(AOp.slice es x lo hi).run ea c.σ=Y (.slice (p.map (ce0 · (a.toNat*es))) (b.toNat-a.toNat) (cp-a.toNat),c.σ):=by
 obtain⟨h1,h2,h3⟩:=zq hg
 have hm:(cp==0||az2 c.σ es p lo)=Za:=by
  by_cases hc:cp=0
  .simp[hc]
  .unfold az2;split
   .simp
   .simp
   .rename_i q;obtain⟨z,h4,h5⟩:=hp hc q rfl;rw[h4];simp[h5]
 simp only[AOp.run,hx,hm,if_true,bQ4 he hhi (by omega) h3 hn,bQ6 he hlo h1 (m:=b.toNat) (by omega)]
theorem SlR.cut {q lo n:Nat}{dm:Nat×Nat}{p:Option Addr}{cp A B:Nat}(h:SlR c q lo n dm (.slice p n cp))(hA:A<=B)(hB:B<=n):SlR c q (lo+A) (B-A) dm (.slice (p.map (ce0 · (A*dm.1))) (B-A) (cp-A)):=by
 rcases h with⟨h1,h2,h3,h4,h5⟩|⟨b,cp',z,h1,h2,h3,h4,h5,h6⟩
 .injection h1 with e1 e2 e3
  subst e1;subst e3;have:A=0:=by omega
  have:B=0:=by omega
  subst A;subst B;exact .inl ⟨rfl,by omega,rfl,h4,h5⟩
 .injection h1 with e1 e2 e3
  subst e1;subst e3;refine .inr ⟨b,cp-A,z, ?_,h2,dD (aD _ (by omega)) h3,by omega,h5,dD (aD _ (by omega)) h6⟩;simp only[gD,ce0,bD]
theorem SlR.es (hR:ec c){q lo n cp:Nat}{dm:Nat×Nat}{p:Option Addr}(hd:(ae c.S q).dim=Y dm)(h:SlR c q lo n dm (.slice p n cp)): ∀z,p=Y z->∃blk,c.σ.m z.block=Y blk/\blk.es=dm.1:=by
 intro z hz;subst hz;rcases h with⟨h1,_⟩|⟨b,cp',x,h1,h2,_,_,h5,_⟩
 .cases h1
 .injection h1 with e1 e2 e3
  injection e1 with e1
  subst e1;obtain⟨blk,_,_,h6,h7,_⟩:=hR.block hd h2;exact⟨blk,h6,h7⟩
theorem bu0 (hR:ec c)(he:az c e ea){es q o n:Nat}{dm:Nat×Nat}{x:Operand}{lo hi:Option Operand}{a b:Int}(hd:(ae c.S q).dim=Y dm)(hes:es=dm.1)(hs:SlR c q o n dm (ea.ev x))
  (hlo:ba2 (lo.map (ev e))=Y a) (hhi:ao9 n (hi.map (ev e))=Y b) (hg:i5 a b n=Za) (h:k (.part q (o+a.toNat) (b.toNat-a.toNat)) c.S=Y y):br T (.slice es x lo hi) ea c.σ (mp c d k y):=by
 obtain⟨p,cp,hx,hn⟩:=hs.len;rw[hx]at hs;obtain⟨h1,h2,h3⟩:=zq hg;subst hes;refine bz (bf7 he hx hn (λ_=>hs.es hR hd) hlo hhi hg) (mp.same hR ?_ h);refine .part (sC (by rw[hd];simp)) rfl λd' hd'=> ?_
 rw[hd]at hd';injection hd' with hd'
 subst hd';exact hs.cut (by omega) (by omega)
theorem tdt {α:Type}(L:List α){A B N p:Nat}(h:B<=N):((((L.drop p).take N).take B).drop A)=(L.drop (p+A)).take (B-A):=by
 rw[List.take_take,Nat.min_eq_left h,List.drop_take,List.drop_drop]
theorem du8 (hR:ec c)(he:az c e ea){es:Nat}{x:Operand}{lo hi:Option Operand}(h:cQ4 c.S es (ev e x) (lo.map (ev e)) (hi.map (ev e)) k=Y y):br T (.slice es x lo hi) ea c.σ (mp c d k y):=by
 have hx:=bt he x;unfold cQ4 at h;cases hln:lenOf c.S (ev e x)with
 |none=>rw[hln]at h;cases h
 |some n=>
  rw[hln]at h;simp only at h;cases hlo:ba2 (lo.map (ev e))with
  |none=>rw[hlo]at h;cases h
  |some a=>
   cases hhi:ao9 n (hi.map (ev e))with
   |none=>rw[hlo,hhi]at h;cases h
   |some b=>
    rw[hlo,hhi]at h;simp only at h;split at h
    .rename_i hv;rw[hv]at hx hln;obtain⟨h1,h2⟩:=au h
     have hn0:n=0:=by
      simp only[lenOf]at hln;injection hln with hln
      exact hln.symm
     subst hn0;obtain⟨h3,h4,h5⟩:=zq h1;have ha0:a=0:=by omega
     have hb0:b=0:=by omega
     subst a;subst b;have hxe:ea.ev x= .slice Z 0 0:=by generalize ea.ev x=xa at hx;cases hx;rfl
     exact bz (bf7 he hxe (cB _) (λ_ q h=>by cases h) hlo hhi h1) (mp.same hR .nils h2)
    .rename_i s l hv;rw[hv]at hx hln;simp only[lenOf]at hln;injection hln with hln
     subst hln;obtain⟨h1,h2⟩:=au h;have hes:=aB h1
     have key:i5 a b l.length=Za->k (.lst s (cA1 l a b)) c.S=Y y->br T (.slice es x lo hi) ea c.σ (mp c d k y):=by
      intro hg hk;obtain⟨h3,h4,h5⟩:=zq hg;generalize hxa:ea.ev x=xa at hx;cases hx with
      |lstn hq=>
       have hb0:b=0:=by simp at h5;omega
       have ha0:a=0:=by omega
       subst a;subst b;refine bz (bf7 he hxa (cB _) (λh=>(h rfl).elim) hlo hhi hg) (mp.same hR ?_ hk);refine .lstn λz hz=> ?_
       obtain⟨z',_,h'⟩:=Option.map_eq_some_iff.1 hz;rw[<-h'];rfl
      |lst hn hy he' h6 h7 h8 h9=>
       rename_i bb p cp z;refine bz (bf7 he hxa h7 (λ_ q h=>by injection h with h;subst h;exact⟨z,hy,he'.trans hes.symm⟩) hlo (by rw[h6];exact hhi) (by rw[h6];exact hg)) (mp.same hR ?_ hk);subst hes;have hlen:(cA1 l a b).length=b.toNat-a.toNat:=by simp only[cA1,List.length_drop,List.length_take];omega
       refine .lst hn hy he' hlen.symm (by omega) ?_ ?_
       .have:a.toNat*s.w+(b.toNat-a.toNat)*s.w<=l.length*s.w:=by rw[<-bD];exact aD _ (by omega)
        simp only;rw[h6]at h8;omega
       .simp only[cA1];rw[ao7,pq];have h10:=(h9.take (b.toNat*s.w)).drop (a.toNat*s.w);rw[tdt _ (by rw[h6];exact aD _ (by omega)),<-Nat.sub_mul]at h10;exact h10
     split at h2
     .rename_i e1 e2
      have hg:i5 a b l.length=Za:=by
       rw[e1]at hlo;rw[e2]at hhi;simp only[ba2]at hlo;simp only[ao9]at hhi;injection hlo with hlo
       injection hhi with hhi
       subst hlo;subst hhi;simp[i5]
      refine key hg ?_;rw[e1]at hlo;rw[e2]at hhi;simp only[ba2]at hlo;simp only[ao9]at hhi;injection hlo with hlo
      injection hhi with hhi
      subst hlo;subst hhi;simp only[cA1,Int.toNat_natCast,Int.toNat_zero,List.drop_zero,List.take_length];exact h2
     .obtain⟨h3,h4⟩:=au h2;exact key h3 h4
    .rename_i q hv;rw[hv]at hx hln;cases hx with
     |full hk _ hd=>
      cases hb:ae c.S q with
      |dead=>rw[hb]at h;cases h
      |arr s z l=>
       rw[hb]at h;obtain⟨h1,h2⟩:=au h;obtain⟨h3,h4⟩:=au h2;simp only[lenOf,hb]at hln;injection hln with hln
       obtain⟨n',h5,h6⟩:=hd (s.w,l.length*s.w) (by rw[hb];rfl);have:n'=n:=by rw[<-hln];exact fB (sZ s) h5
       subst this;exact bu0 hR he (by rw[hb];rfl) (aB h1) h6 hlo hhi h3 (by rw[gB];exact h4)
      |cells es' z l=>
       rw[hb]at h;obtain⟨h1,h2⟩:=au h;obtain⟨h3,h4⟩:=au h2;rw[bB]at h1;simp only[lenOf,hb]at hln;injection hln with hln
       obtain⟨n',h5,h6⟩:=hd (es',l.length) (by rw[hb];rfl);have he1:=aB h1.1;have he2:=cD h1.2
       have:n'=n:=by
        simp only at h5;rw[<-hln,<-h5,fD _ (by omega)]
       subst this;exact bu0 hR he (by rw[hb];rfl) he1 h6 hlo hhi h3 (by rw[gB];exact h4)
    .rename_i q o m hv;rw[hv]at hx hln;cases hx with
     |part hk _ hd=>
      simp only[lenOf]at hln;cases hb:ae c.S q with
      |dead=>rw[hb]at h;cases h
      |arr s z l=>
       rw[hb]at h hln;injection hln with hln
       subst hln;obtain⟨h1,h2⟩:=au h;obtain⟨h3,h4⟩:=au h2;exact bu0 hR he (dm:=(s.w,l.length*s.w)) (by rw[hb];rfl) (aB h1) (hd _ (by rw[hb];rfl)) hlo hhi h3 h4
      |cells es' z l=>
       rw[hb]at h hln;injection hln with hln
       subst hln;obtain⟨h1,h2⟩:=au h;obtain⟨h3,h4⟩:=au h2;rw[bB]at h1;exact bu0 hR he (dm:=(es',l.length)) (by rw[hb];rfl) (aB h1.1) (hd _ (by rw[hb];rfl)) hlo hhi h3 h4
    .cases h
theorem cc3 {blk:Blk}{dm:Nat×Nat}(h:blk.dim=Y dm):blk.vals.length=dm.2:=by
 cases blk with
 |dead=>cases h
 |cells es z l=>injection h with h;subst h;rfl
 |arr s z l=>injection h with h;subst h;exact iv
theorem cG4 (hR:ec c)(he:az c e ea){es n:Nat}{x:Operand}{lo hi:Option Operand}(h:bB0 c.S es n (ev e x) (lo.map (ev e)) (hi.map (ev e)) k=Y y):br T (.sliceArr es n x lo hi) ea c.σ (mp c d k y):=by
 have hx:=bt he x;unfold bB0 at h;split at h
 .rename_i q o hv;rw[hv]at hx;split at h
  .rename_i es' l hb;split at h
   .rename_i a b hlo hhi;obtain⟨h1,h2⟩:=au h;simp only[bB]at h1;obtain⟨⟨⟨⟨⟨h3,h4⟩,h5⟩,h6⟩,h7⟩,h8⟩:=h1;have h3:=aB h3;have h4:=cD h4;have h5:=aB h5;have h6:=cD h6;have h8:=of_decide_eq_true h8;obtain⟨h9,h10,h11⟩:=zq h7;subst h3;cases hx with
    |ptr hk _ hd=>
     have hdim:(ae c.S q).dim=Y (es,l.length):=by rw[hb];rfl
     obtain⟨bb,hm,hp⟩:=hd _ hdim;obtain⟨z,cs,rest,h12,h13,h14,h15,h16⟩:=hR.block hdim hm;rw[hb]at h14 h16;have hl:=h16.length;simp only[Blk.vals]at hl;have hzl:l.length<=z.cells.length:=by rw[h15,iA,hl];omega
     have hdiv:o / es*es=o:=Nat.div_mul_cancel (Nat.dvd_of_mod_eq_zero h5);have hae:(o / es+a.toNat)*es=o+a.toNat*es:=by rw[bD,hdiv]
     refine bz (v:= .slice (Y ⟨bb,o+a.toNat*es,Z⟩) (b.toNat-a.toNat) (n-a.toNat)) (σ':=c.σ) ?_ (mp.same hR ?_ h2)
     .simp only[AOp.run,hp,h12];rw[zE ⟨h14 rfl,h13,by omega⟩,bQ4 he hhi (by omega) h11 (cB _)];simp only;rw[bQ6 he hlo h9 (m:=b.toNat) (by omega)];simp only;rw[zE (by omega)]
     .refine .part hk rfl λd' hd'=> ?_
      rw[hdim]at hd';injection hd' with hd'
      subst hd';refine .inr ⟨bb,n-a.toNat,z,by simp only[hae],hm, ?_,by omega,h12, ?_⟩
      .have h17:o / es+a.toNat+(b.toNat-a.toNat)=o / es+b.toNat:=by omega
       simp only;rw[h17,bD,hdiv];have:b.toNat*es<=n*es:=aD _ (by omega);omega
      .have h17:o / es+a.toNat+(n-a.toNat)=o / es+n:=by omega
       simp only;rw[h17,bD,hdiv];omega
   .cases h
  .rename_i s l hb;split at h
   .rename_i a b hlo hhi;obtain⟨h1,h2⟩:=au h;simp only[bB]at h1;obtain⟨⟨⟨⟨h3,h5⟩,h6⟩,h7⟩,h8⟩:=h1;have h3:=aB h3;have h5:=aB h5;have h6:=cD h6;have h8:=of_decide_eq_true h8;obtain⟨h9,h10,h11⟩:=zq h7;subst h3;subst h5;cases hx with
    |ptr hk _ hd=>
     have hdim:(ae c.S q).dim=Y (s.w,l.length*s.w):=by rw[hb];rfl
     obtain⟨bb,hm,hp⟩:=hd _ hdim;obtain⟨z,cs,rest,h12,h13,h14,h15,h16⟩:=hR.block hdim hm;have hl:=h16.length;rw[cc3 hdim]at hl;rw[hb]at h14;have hle:n*s.w<=l.length*s.w:=aD _ h6;have hzl:l.length*s.w<=z.cells.length:=by rw[h15,iA];simp only at hl;omega
     have h17:(a.toNat+(b.toNat-a.toNat))*s.w<=l.length*s.w:=aD _ (by omega);have h18:(a.toNat+(n-a.toNat))*s.w<=l.length*s.w:=aD _ (by omega);refine bz (v:= .slice (Y ⟨bb,0+a.toNat*s.w,Z⟩) (b.toNat-a.toNat) (n-a.toNat)) (σ':=c.σ) ?_ (mp.same hR ?_ h2)
     .simp only[AOp.run,hp,h12];rw[zE ⟨h14 rfl,h13,by omega⟩,bQ4 he hhi (by omega) h11 (cB _)];simp only;rw[bQ6 he hlo h9 (m:=b.toNat) (by omega)];simp only;rw[zE (by omega)]
     .refine .part hk rfl λd' hd'=> ?_
      rw[hdim]at hd';injection hd' with hd'
      subst hd';exact .inr ⟨bb,n-a.toNat,z,by simp only[gB],hm,h17,by omega,h12,by simp only;omega⟩
   .cases h
  .cases h
 .cases h
theorem dS0 (hR:ec c)(he:az c e ea){n:Nat}{x:Operand}(h:de5 c.S (dE8 c.S n (ev e x)) k=Y y):br T (.off n x) ea c.σ (mp c d k y):=by
 have hx:=bt he x
 have key: ∀w b o,ea.ev x= .pointer (Y ⟨b,o,Z⟩)->VRel c w (.pointer (Y ⟨b,o+n,Z⟩))->k w c.S=Y y->br T (.off n x) ea c.σ (mp c d k y):=by
  intro w b o h1 hw hk;exact bz (by simp only[AOp.run,h1]) (mp.same hR hw hk)
 generalize ev e x=xv at*;cases xv<;>simp only[dE8]at h<;>try(cases h;done)
 case ptr q o=>
  cases hl:(ae c.S q).live with
  |false=>rw[hl]at h;cases h
  |true=>
   rw[hl]at h;obtain⟨dd,hdd⟩:=yz hl;cases hx with
   |ptr hk _ hd=>
    obtain⟨b,hm,hp⟩:=hd dd hdd;exact key _ b o hp (.ptr hk rfl λd' _=>⟨b,hm,rfl⟩) h
 case pix q o m i=>
  cases hl:(ae c.S q).live with
  |false=>rw[hl]at h;cases h
  |true=>
   rw[hl]at h;obtain⟨dd,hdd⟩:=yz hl;cases hx with
   |pix hk h1 hi hd=>
    obtain⟨b,hm,hp⟩:=hd dd hdd;cases hn:dB n 0 with
    |false=>rw[hn]at h;cases h
    |true=>
     rw[hn]at h;have:=aB hn;subst this;exact key _ b (o+i) hp (.pix hk rfl hi λd' _=>⟨b,hm,rfl⟩) h
 case pel q i o=>
  cases hl:(ae c.S q).live with
  |false=>rw[hl]at h;cases h
  |true=>
   rw[hl]at h;obtain⟨dd,hdd⟩:=yz hl;cases hx with
   |pel hk _ hd=>
    obtain⟨b,hm,hp⟩:=hd dd hdd;refine key _ b _ hp (.pel hk rfl λd' hd'=>⟨b,hm, ?_⟩) h;rw[hdd]at hd';injection hd' with hd'
    subst hd';rw[eD]
 case pin s z o=>
  generalize hxa:ea.ev x=xa at hx;cases hx with
  |pin hn hy hl hf=>
   refine key _ _ _ hxa ?_ h;rw[eD];exact .pin hn hy hl hf
theorem cU6 {es:Nat}{x i:Operand}{b o n cp:Nat}{kd:IntKind}{z:Int}(hx:ea.ev x= .slice (Y ⟨b,o,Z⟩) n cp)(hi:ea.ev i= .int kd z)(h0:0<=z)(hn:z<n):
  (AOp.idx es x i).run ea c.σ=Y (.pointer (Y ⟨b,o+z.toNat*es,Z⟩),c.σ):=by
 simp only[AOp.run,hx,hi];rw[zE ⟨h0,hn⟩]
theorem aD3 (hR:ec c)(he:az c e ea){es q o n:Nat}{dm:Nat×Nat}{x i:Operand}{z:Int}{w:VV}{kd:IntKind}(hs:SlR c q o n dm (ea.ev x))(hi:ea.ev i= .int kd z)(h0:0<=z)(hn:z<n)
  (hw: ∀b,c.μ q=Y b->VRel c w (.pointer (Y ⟨b,o*dm.1+z.toNat*es,Z⟩))) (hk:k w c.S=Y y):br T (.idx es x i) ea c.σ (mp c d k y):=by
 rcases hs with⟨_,_,h3,_,_⟩|⟨b,cp,x',h1,h2,_⟩
 .omega
 .exact bz (cU6 h1 hi h0 hn) (mp.same hR (hw b h2) hk)
theorem dQ4 (hR:ec c)(he:az c e ea){es:Nat}{x i:Operand}(h:dD2 c.S es (ev e x) (ev e i) k=Y y):br T (.idx es x i) ea c.σ (mp c d k y):=by
 have hx:=bt he x;have hi:=bt he i;unfold dD2 at h;split at h
 .rename_i kd z hz;rw[hz]at hi;have hi:=hi.int_inv;split at h
  .rename_i s l hv;rw[hv]at hx;obtain⟨h1,h2⟩:=au h;have h1:=aB h1;obtain⟨el,h3,h4⟩:=ag h2;obtain⟨h5,h6,h7⟩:=cW7 h3;generalize hxa:ea.ev x=xa at hx;cases hx with
   |lstn=>simp at h6;omega
   |lst hn hy he' h8 h9 h10 h11=>
    rename_i b p cp blk;subst h1;refine bz (cU6 hxa hi h5 (by rw[h8];exact h6)) (mp.same hR ?_ h4);have h12:z.toNat*s.w+s.w<=l.length*s.w:=by rw[<-Nat.succ_mul];exact aD _ (by omega)
    have h13:=(h11.drop (z.toNat*s.w)).take s.w;rw[bz3 h7,List.drop_take,List.drop_drop,List.take_take,Nat.min_eq_left (by rw[h8];omega)]at h13;exact VRel.pin (o:=0) hn hy (by rw[h8]at h10;exact dD (Nat.le_of_eq (eD _ _ _)) (dD (Nat.add_le_add_left h12 _) h10)) h13
  .rename_i q hv;rw[hv]at hx;cases hx with
   |full hk _ hd=>
    cases hb:ae c.S q with
    |dead=>rw[hb]at h;cases h
    |arr s z' l=>
     rw[hb]at h;obtain⟨h1,h2⟩:=au h;obtain⟨j,h3,h4⟩:=ag h2;obtain⟨h5,h6,rfl,h7⟩:=be8 h3;have hdim:(ae c.S q).dim=Y (s.w,l.length*s.w):=by rw[hb];rfl
     obtain⟨n,h8,h9⟩:=hd _ hdim;have:n=l.length:=fB (sZ s) h8;subst this;refine aD3 hR he h9 hi h5 h6 (λb hm=> .pel hk rfl λd' hd'=>⟨b,hm, ?_⟩) h4;rw[hdim]at hd';injection hd' with hd'
     subst hd';rw[aB h1];simp
    |cells es' z' l=>
     rw[hb]at h;obtain⟨h1,h2⟩:=au h;rw[bB]at h1;have h11:=aB h1.1;have h12:=cD h1.2;subst h11;obtain⟨j,h3,h4⟩:=ag h2;obtain⟨h5,h6,rfl,h7⟩:=be8 h3;have hdim:(ae c.S q).dim=Y (es,l.length):=by rw[hb];rfl
     obtain⟨n,h8,h9⟩:=hd _ hdim
     have hn:n=l.length / es:=by
      simp only at h8;rw[<-h8,fD _ (by omega)]
     cases he1:dB es 1 with
     |true=>
      rw[he1]at h4;have he1:=aB he1;subst he1;refine aD3 hR he h9 hi h5 (by rw[hn];exact h6) (λb hm=> .pix hk rfl (by rw[Nat.div_one]at h7;exact h7) λd' hd'=>⟨b,hm,by simp⟩) h4
     |false=>
      rw[he1]at h4;refine aD3 hR he h9 hi h5 (by rw[hn];exact h6) (λb hm=> .ptr hk rfl λd' hd'=>⟨b,hm,by simp⟩) h4
  .rename_i q o n hv;rw[hv]at hx;cases hx with
   |part hk _ hd=>
    cases hb:ae c.S q with
    |dead=>rw[hb]at h;cases h
    |arr s z' l=>
     rw[hb]at h;obtain⟨h1,h2⟩:=au h;obtain⟨j,h3,h4⟩:=ag h2;obtain⟨h5,h6,rfl,h7⟩:=be8 h3;have hdim:(ae c.S q).dim=Y (s.w,l.length*s.w):=by rw[hb];rfl
     refine aD3 hR he (hd _ hdim) hi h5 h6 (λb hm=> .pel hk rfl λd' hd'=>⟨b,hm, ?_⟩) h4;rw[hdim]at hd';injection hd' with hd'
     subst hd';rw[aB h1,bD];simp
    |cells es' z' l=>
     rw[hb]at h;obtain⟨h1,h2⟩:=au h;rw[bB]at h1;have h11:=aB h1.1;subst h11;obtain⟨j,h3,h4⟩:=ag h2;obtain⟨h5,h6,rfl,h7⟩:=be8 h3;have hdim:(ae c.S q).dim=Y (es,l.length):=by rw[hb];rfl
     cases he1:dB es 1 with
     |true=>
      rw[he1]at h4;have he1:=aB he1;subst he1;refine aD3 hR he (hd _ hdim) hi h5 h6 (λb hm=> .pix hk rfl h7 λd' hd'=>⟨b,hm,by simp⟩) h4
     |false=>
      rw[he1]at h4;refine aD3 hR he (hd _ hdim) hi h5 h6 (λb hm=> .ptr hk rfl λd' hd'=>⟨b,hm,by simp[bD]⟩) h4
  .cases h
 .cases h
theorem dD1 (hR:ec c)(he:az c e ea){ln es:Nat}{x i:Operand}(h:cU5 c.S ln es (ev e x) (ev e i) k=Y y):br T (.idxA ln es x i) ea c.σ (mp c d k y):=by
 have hx:=bt he x;have hi:=bt he i;unfold cU5 at h;split at h
 .rename_i q o kd z hv hz;rw[hv]at hx;rw[hz]at hi;have hi:=hi.int_inv;obtain⟨hl,h⟩:=au h;obtain⟨j,h3,h4⟩:=ag h;obtain⟨h5,h6,rfl,h7⟩:=be8 h3;cases hx with
  |ptr hk _ hd=>
    obtain⟨dd,hdd⟩:=yz hl;obtain⟨b,hm,hp⟩:=hd dd hdd
    have hrun:(AOp.idxA ln es x i).run ea c.σ=Y (.pointer (Y ⟨b,o+z.toNat*es,Z⟩),c.σ):=by
     simp only[AOp.run,hp,hi];rw[zE ⟨h5,h6⟩]
    refine bz hrun ?_;cases he1:dB es 1 with
    |true=>
     rw[he1]at h4;have he1:=aB he1;subst he1;exact mp.same hR (.pix hk rfl h7 λd' hd'=>⟨b,hm,by simp⟩) h4
    |false=>
     rw[he1]at h4;exact mp.same hR (.ptr hk rfl λd' hd'=>⟨b,hm,rfl⟩) h4
 .cases h
end
end
section
open Bool renaming and_eq_true -> bB
open List renaming length_append -> cD, length_take -> dB, take_of_length_le -> dD, replicate -> gD, length_drop -> iB, length_nil -> iC, drop_zero -> iE, replicate_succ -> iF, append_assoc -> iG, flatten_cons -> iH, take_take -> iI, drop_eq_nil_of_le -> iP, getD_eq_getElem?_getD -> iQ, length_cons -> iR, take_append_of_le_length -> iS
open Nat renaming beq -> aB, eq_of_beq_eq_true -> aD, le_refl -> bD, zero_add -> cB, add_mul -> eD, le_of_ble_eq_true -> fB, eq_of_mul_eq_mul_right -> fD, mul_le_mul_right -> gB, ble -> iA, min_eq_left -> iD, eq_zero_or_pos -> iJ, min_le_left -> iK, mul_div_cancel -> iL, mul_one -> iM, mul_pos -> iN, zero_mul -> iO, le_of_mul_le_mul_right -> iT, mul_le_mul_left -> iU
open Option renaming getD_some -> iV
section
variable {β:Type} {T:gr} {c:Ctx} {e:cz} {ea:cb} {k:VV->ai->Option β} {y:β} {d:List Nat}
theorem aD6 : ∀{z:List Value} {s:Sh},bE6 z=Y s->F2 (VRel c) (db s (yC s)) z
 |[],s,h=>by simp[bE6]at h
 |v::r,s,h=>by
  unfold bE6 at h;split at h
  .rename_i h0;injection h0 with h1 h2
   subst h1;subst h2;injection h with h;subst h
   exact .cons (.int _ _) .nil
  .rename_i h0;injection h0 with h1 h2
   subst h1;subst h2;injection h with h;subst h
   exact .cons (.bool _) .nil
  .rename_i h0;injection h0 with h1 h2
   subst h1;subst h2;obtain⟨s',h3,h4⟩:=ag h;injection h4 with h4;subst h4
   exact .cons (.int _ _) (aD6 h3)
  .rename_i h0;injection h0 with h1 h2
   subst h1;subst h2;obtain⟨s',h3,h4⟩:=ag h;injection h4 with h4;subst h4
   exact .cons (.bool _) (aD6 h3)
  .cases h
theorem wL {s:Sh}{x:El s}: ∀n,gh s (gD n x)=(gD n (db s x)).flatten
 |0=>rfl
 |n+1=>by rw[iF,il,wL n,iF,iH]
theorem ci5 (z:List Value)(m n:Nat):di z (m+n)=di z m++di z n:=by
 simp only[di];rw[<-List.replicate_append_replicate,List.flatten_append]
theorem ci6 (z:List Value)(n:Nat):(di z n).length=n*z.length:=by
 simp[di,List.length_flatten,List.map_replicate]
theorem dE0 (hR:ec c)(he:az c e ea){es bytes:Nat}{z:List Value}{l m:Operand}(h:do9 c.S es bytes z (ev e l) (ev e m) k=Y y):br T (.makeSlice es bytes z l m) ea c.σ (mp c d k y):=by
 have hl:=bt he l;have hm:=bt he m;unfold do9 at h;split at h
 .rename_i k1 a k2 b s h1 h2 hs;rw[h1]at hl;rw[h2]at hm;obtain⟨hg,hk⟩:=au h;simp only[bB]at hg;obtain⟨⟨⟨⟨g1,g2⟩,g3⟩,g4⟩,g5⟩:=hg;have g1:=aD g1;have g2:=of_decide_eq_true g2;have g3:=of_decide_eq_true g3;have g4:=of_decide_eq_true g4;have g5:=fB g5;have hz:=aD6 (c:=c) hs;have hzl:z.length=s.w:=by rw[<-hz.length,dj]
  have hb:b<=bytes*b:=by
   have:(1:Int)*b<=bytes*b:=Int.mul_le_mul_of_nonneg_right (by omega) (by omega);omega
  refine bz (v:= .slice (Y ⟨c.σ.n,0,Z⟩) a.toNat b.toNat) (σ':=c.σ.add ⟨di z b.toNat,Za,es⟩) ?_ ?_
  .simp only[AOp.run,hl.int_inv,hm.int_inv];rw[zE ⟨g2,g3,by omega,by omega⟩]
  .have hab:di z b.toNat=di z a.toNat++di z (b.toNat-a.toNat):=by rw[<-ci5];congr 1;omega
   have hrel:F2 (VRel c) (gh s (gD a.toNat (yC s))) (di z a.toNat):=by
    rw[wL];clear hab;generalize a.toNat=n;induction n with
    |zero=>exact .nil
    |succ n ih=>
     simp only[di,iF,iH]at ih⊢;exact hz.append ih
   have hmv:Moves c Z (Y c.σ.n) (.arr s Zb (gD a.toNat (yC s))) (c.σ.add ⟨di z b.toNat,Za,es⟩):=by
    refine⟨(λb h _ hb=>by injection h with h;subst h;exact Nat.lt_irrefl _ (hR.fbl _ hb)),(λ_ h=>by cases h),λq x hx=> ?_,Nat.le_succ _,λi x hx _=> ?_,(s.w,(gD a.toNat (yC s)).length*s.w),rfl,sZ s, .inr ⟨c.σ.n,⟨di z b.toNat,Za,es⟩,di z a.toNat,di z (b.toNat-a.toNat),rfl,zE rfl,g1,λ_=>rfl,hab,hrel, .inl λw hw=> ?_⟩⟩
    .simp only[Hp.add]at hx⊢;split at hx
     .omega
     .have:=hR.ok q x hx;omega
    .have:=hR.ok i x hx;simp only[Hp.add];rw[zF (by omega)];exact hx
    .have:=hR.ok _ _ hw;omega
   refine mp.new (kill:=Z) hR hmv (λ_ h=>by cases h) (ap6 (dm:=(s.w,(gD a.toNat (yC s)).length*s.w)) (n:=a.toNat) (m:=b.toNat) (yb:=⟨di z b.toNat,Za,es⟩) rfl (by simp) (by omega) (zE rfl) ?_) hk;rw[ci6,hzl];exact bD _
 .cases h
def More.cellsOf :More->List VV
 | .cells l=>l
 | .lst s l=>gh s l
theorem bU5 {x:Ab.Blk}{o n m:Nat}(h:o+n<=x.cells.length)(hm:m<=n):vk x o m=Y (((x.cells.drop o).take n).take m):=by
 unfold vk;rw[zE (by omega),iI,iD hm]
theorem bf3 (hR:ec c){q o n es:Nat}{dm:Nat×Nat}{a:Value}(hd:(ae c.S q).dim=Y dm)(he:dm.1=es)(hs:SlR c q o n dm a):
  ∃all,bi9 a=Y n/\(∀m,m<=n->c.σ.slice es a m=Y (all.take (m*es)))/\all.length=n*es/\F2 (VRel c) (((ae c.S q).vals.drop (o*es)).take (n*es)) all:=by
 subst he;rcases hs with⟨rfl,rfl,rfl,hm,hz⟩|⟨b,cp,x,rfl,hm,h3,h4,hx,h5⟩
 .refine⟨[],rfl,λm hm'=> ?_,by simp,by simp;exact .nil⟩;have:m=0:=by omega
  subst this;simp[Hp.slice]
 .obtain⟨y0,cs,rest,h6,_,_,h7,h8⟩:=hR.block hd hm;rw[hx]at h6;injection h6 with h6
  subst h6;have hl:=h8.length
  have hvl:(ae c.S q).vals.length=dm.2:=by
   generalize ae c.S q=blk at hd;cases blk with
   |dead=>cases hd
   |cells es z l=>injection hd with hd;subst hd;rfl
   |arr s z l=>injection hd with hd;subst hd;exact iv
  rw[eD]at h3;have h9:((cs.drop (o*dm.1)).take (n*dm.1)).length=n*dm.1:=by rw[dB,iB];omega
  refine⟨(cs.drop (o*dm.1)).take (n*dm.1),rfl,λm hm'=> ?_,h9,(h8.drop _).take _⟩;have h10:m*dm.1<=n*dm.1:=gB _ hm';by_cases hm0:m=0
  .subst hm0;simp[Hp.slice]
  simp only[Hp.slice,hx,zF hm0];rw[bU5 (n:=n*dm.1) (by rw[h7,cD];omega) h10,h7,List.drop_append_of_le_length (by omega),iS (l₁:=cs.drop (o*dm.1)) (by rw[iB];omega)]
theorem aD1 (hR:ec c){es:Nat}{v:VV}{a:Value}{m:More}(h:bA1 c.S es v=Y m)(hv:VRel c v a):
  ∃n all,bi9 a=Y n/\(∀i,i<=n->c.σ.slice es a i=Y (all.take (i*es)))/\all.length=n*es/\F2 (VRel c) m.cellsOf all/\(∀s l,m= .lst s l->es=s.w/\n=l.length):=by
 cases v<;>simp only[bA1]at h<;>try(cases h;done)
 case nils=>
  injection h with h;subst h
  cases hv;refine⟨0,[],rfl,λi hi=> ?_,by simp, .nil,λs l h=>by cases h⟩;have:i=0:=by omega
  subst this;simp[Hp.slice]
 case str l=>
  cases he:aB es 1 with
  |false=>rw[he]at h;cases h
  |true=>
   rw[he]at h;have he:=aD he;subst he;injection h with h;subst h
   obtain⟨s,rfl,rfl⟩:=hv.str_inv;refine⟨s.size,s.data.toList.map λb=> .int .u8 b.toNat,rfl,λi hi=> ?_,by simp, ?_,λs' l h=> ?_⟩
   .simp only[Hp.slice,if_true,iM];simp[ByteArray.data_extract,Array.toList_extract,List.extract_eq_take_drop,List.map_take]
   .simp only[More.cellsOf,lh,gh];generalize s.data.toList=l;induction l with
    |nil=>exact .nil
    |cons b l ih=>exact .cons (.int _ _) ih
   .injection h with h1 h2
    subst h1;cases h2;exact⟨rfl,(au2 s).symm⟩
 case lst s l=>
  cases he:aB es s.w with
  |false=>rw[he]at h;cases h
  |true=>
   rw[he]at h;have he:=aD he;subst he;injection h with h;subst h
   refine⟨l.length, ?_⟩;rcases hv.listAt with⟨qq,rfl,rfl,hqq⟩|⟨b,p,cp,x,rfl,h1,h2,h3,h4,h5⟩
   .refine⟨[],rfl,λi hi=> ?_,by simp, .nil,λs' l h=>by injection h with h1 h2;subst h1;cases h2;exact⟨rfl,rfl⟩⟩;have:i=0:=by simp at hi;exact hi
    subst this;cases qq with
    |none=>simp[Hp.slice]
    |some z=>
     have:=hqq z rfl;obtain⟨zb,zo,zs⟩:=z;simp only at this;subst this;simp[Hp.slice]
   .refine⟨(x.cells.drop p).take (l.length*s.w),rfl,λi hi=> ?_,by rw[<-h5.length,iv],h5,λs' l' h=>by injection h with h1 h2;subst h1;cases h2;exact⟨rfl,rfl⟩⟩;by_cases hi0:i=0
    .subst hi0;simp[Hp.slice]
    simp only[Hp.slice,h1,zF hi0];exact bU5 h4 (gB _ hi)
 case full q=>
  cases hv with
  |full hk _ hd=>
   cases hb:ae c.S q with
   |dead=>rw[hb]at h;cases h
   |arr s z l=>
    rw[hb]at h;cases he:aB es s.w with
    |false=>simp only[he]at h;cases h
    |true=>
     simp only[he]at h;have he:=aD he;subst he;injection h with h;subst h
     have hdim:(ae c.S q).dim=Y (s.w,l.length*s.w):=by rw[hb];rfl
     obtain⟨n,h1,h2⟩:=hd _ hdim;have:n=l.length:=fD (sZ s) h1;subst this;obtain⟨all,h3,h4,h5,h6⟩:=bf3 hR hdim rfl h2;rw[hb,iO,iE,dD (by simp[Blk.vals,iv])]at h6;exact⟨_,all,h3,h4,h5,h6,λs' l' h=>by injection h with h1 h2;subst h1;cases h2;exact⟨rfl,rfl⟩⟩
   |cells es' z l=>
    rw[hb]at h;cases he:(aB es es'&&iA 1 es)with
    |false=>simp only[he]at h;cases h
    |true=>
     simp only[he]at h;rw[bB]at he;have he1:=aD he.1;subst he1;injection h with h;subst h
     have hdim:(ae c.S q).dim=Y (es,l.length):=by rw[hb];rfl
     obtain⟨n,h1,h2⟩:=hd _ hdim;obtain⟨all,h3,h4,h5,h6⟩:=bf3 hR hdim rfl h2;simp only at h1;rw[hb,iO,iE,h1,dD (by exact bD _)]at h6;exact⟨_,all,h3,h4,h5,h6,λs' l' h=>by cases h⟩
 case part q o n=>
  cases hv with
  |part hk _ hd=>
   cases hb:ae c.S q with
   |dead=>rw[hb]at h;cases h
   |arr s z l=>
    rw[hb]at h;cases he:aB es s.w with
    |false=>simp only[he]at h;cases h
    |true=>
     simp only[he]at h;have he:=aD he;subst he;injection h with h;subst h
     have hdim:(ae c.S q).dim=Y (s.w,l.length*s.w):=by rw[hb];rfl
     have h2:=hd _ hdim;obtain⟨all,h3,h4,h5,h6⟩:=bf3 hR hdim rfl h2;rw[hb]at h6;simp only[Blk.vals]at h6;rw[<-ao7,<-pq]at h6
     have h7:n=((l.drop o).take n).length:=by
      have:=h6.length;rw[iv,h5]at this;exact(fD (sZ s) this).symm
     exact⟨_,all,h3,h4,h5,h6,λs' l' h=>by injection h with h1 h2;subst h1;cases h2;exact⟨rfl,h7⟩⟩
   |cells es' z l=>
    rw[hb]at h;cases he:(aB es es'&&iA 1 es)with
    |false=>simp only[he]at h;cases h
    |true=>
     simp only[he]at h;rw[bB]at he;have he1:=aD he.1;subst he1;injection h with h;subst h
     have hdim:(ae c.S q).dim=Y (es,l.length):=by rw[hb];rfl
     have h2:=hd _ hdim;obtain⟨all,h3,h4,h5,h6⟩:=bf3 hR hdim rfl h2;rw[hb]at h6;exact⟨_,all,h3,h4,h5,h6,λs' l' h=>by cases h⟩
def Base.cellsOf :Base->List VV
 | .none=>[]
 | .cells _ l=>l
 | .arr s l=>gh s l
structure BaseAt (c:Ctx)(es sl:Nat)(base:Base)(kill:Option Nat)(a:Value):Prop where
 no:kill=Z->a= .slice Z 0 0/\sl=0/\base= .none
 yes: ∀q,kill=Y q->∃dm,(ae c.S q).dim=Y dm/\dm.1=es/\(ae c.S q).frozen=Zb/\SlR c q 0 sl dm a/\base.cellsOf=(ae c.S q).vals.take (sl*es)
 es: ∀e l,base= .cells e l->e=es/\1<=es
theorem aK7 {blk:Blk}{dm:Nat×Nat}(h:blk.dim=Y dm):blk.vals.length=dm.2:=by
 cases blk with
 |dead=>cases h
 |cells es z l=>injection h with h;subst h;rfl
 |arr s z l=>injection h with h;subst h;exact iv
theorem da7 {es:Nat}{v:VV}{a:Value}{base:Base}{kill:Option Nat}(hR:ec c)(h:ay8 c.S es v=Y (base,kill))(hv:VRel c v a): ∃sl,BaseAt c es sl base kill a/\base.cellsOf.length=sl*es/\(∀s l,base= .arr s l->es=s.w/\sl=l.length):=by
 cases v<;>try(cases h;done)
 case nils=>
  simp only[ay8]at h;injection h with h
  injection h with h1 h2
  subst h1;subst h2;cases hv;exact⟨0,⟨λ_=>⟨rfl,rfl,rfl⟩,(λq h=>by cases h),(λe l h=>by cases h)⟩,by simp[Base.cellsOf],λs l h=>by cases h⟩
 case full q=>
  simp only[ay8]at h;cases hv with
  |full hk _ hd=>
   cases hb:ae c.S q with
   |dead=>rw[hb]at h;cases h
   |arr s z l=>
    rw[hb]at h;cases z with
    |true=>cases h
    |false=>
     simp only at h;cases he:aB es s.w with
     |false=>rw[he]at h;cases h
     |true=>
      rw[he]at h;have he:=aD he;subst he;injection h with h
      injection h with h1 h2
      subst h1;subst h2;have hdim:(ae c.S q).dim=Y (s.w,l.length*s.w):=by rw[hb];rfl
      obtain⟨n,h1,h2⟩:=hd _ hdim;have:n=l.length:=fD (sZ s) h1;subst this;refine⟨l.length,⟨(λh=>by cases h),λq' h=> ?_,(λe l h=>by cases h)⟩,iv,λs' l' h=>by injection h with h1 h2;subst h1;cases h2;exact⟨rfl,rfl⟩⟩;injection h with h
      subst h;refine⟨_,hdim,rfl,by rw[hb];rfl,h2, ?_⟩;rw[hb];exact(dD (by rw[show(Base.arr s l).cellsOf=gh s l from rfl,iv];exact bD _)).symm
   |cells es' z l=>
    rw[hb]at h;cases z with
    |true=>cases h
    |false=>
     simp only at h;cases he:(aB es es'&&iA 1 es)with
     |false=>rw[he]at h;cases h
     |true=>
      rw[he]at h;rw[bB]at he;have he1:=aD he.1;subst he1;injection h with h
      injection h with h1 h2
      subst h1;subst h2;have hdim:(ae c.S q).dim=Y (es,l.length):=by rw[hb];rfl
      obtain⟨n,h1,h2⟩:=hd _ hdim;simp only at h1;refine⟨n,⟨(λh=>by cases h),λq' h=> ?_,λe l h=>by injection h with h1 h2;exact⟨h1.symm,fB he.2⟩⟩,h1.symm,λs' l' h=>by cases h⟩;injection h with h
      subst h;refine⟨_,hdim,rfl,by rw[hb];rfl,h2, ?_⟩;rw[hb,h1];exact(dD (bD _)).symm
 case part q lo n=>
  cases lo with
  |succ lo=>cases h
  |zero=>
   simp only[ay8]at h;cases hv with
   |part hk _ hd=>
    cases hb:ae c.S q with
    |dead=>rw[hb]at h;cases h
    |arr s z l=>
     rw[hb]at h;cases z with
     |true=>cases h
     |false=>
      simp only at h;cases he:aB es s.w with
      |false=>rw[he]at h;cases h
      |true=>
       rw[he]at h;have he:=aD he;subst he;injection h with h
       injection h with h1 h2
       subst h1;subst h2;have hdim:(ae c.S q).dim=Y (s.w,l.length*s.w):=by rw[hb];rfl
       have h2:=hd _ hdim
       have hn:n<=l.length:=by
        rcases h2 with⟨_,_,h3,_,_⟩|⟨b,cp,x,_,_,h3,_⟩
        .omega
        .rw[cB]at h3;exact iT h3 (sZ s)
       have hlen:(l.take n).length=n:=by rw[dB];omega
       refine⟨n,⟨(λh=>by cases h),λq' h=> ?_,(λe l h=>by cases h)⟩,by simp only[Base.cellsOf];rw[iv,hlen],λs' l' h=>by injection h with h1 h2;subst h1;cases h2;exact⟨rfl,hlen.symm⟩⟩;injection h with h
       subst h;refine⟨_,hdim,rfl,by rw[hb];rfl,h2, ?_⟩;rw[hb];exact pq
    |cells es' z l=>
     rw[hb]at h;cases z with
     |true=>cases h
     |false=>
      simp only at h;cases he:(aB es es'&&iA 1 es)with
      |false=>rw[he]at h;cases h
      |true=>
       rw[he]at h;rw[bB]at he;have he1:=aD he.1;subst he1;injection h with h
       injection h with h1 h2
       subst h1;subst h2;have hdim:(ae c.S q).dim=Y (es,l.length):=by rw[hb];rfl
       have h2:=hd _ hdim
       have hn:n*es<=l.length:=by
        rcases h2 with⟨_,_,h3,_,_⟩|⟨b,cp,x,_,_,h3,_⟩
        .subst h3;simp
        .rwa [cB]at h3
       refine⟨n,⟨(λh=>by cases h),λq' h=> ?_,λe l h=>by injection h with h1 h2;exact⟨h1.symm,fB he.2⟩⟩,by simp only[Base.cellsOf];rw[dB];omega,λs' l' h=>by cases h⟩;injection h with h
       subst h;exact⟨_,hdim,rfl,by rw[hb];rfl,h2,by rw[hb];rfl⟩
theorem du5 {vs cs:List Value}(h:cs.length=vs.length):px cs 0 vs=vs:=by
 induction vs generalizing cs with
 |nil=>simp only[px];exact List.length_eq_zero_iff.1 h
 |cons v vs ih=>
  cases cs with
  |nil=>simp at h
  |cons a cs=>
   have h1:cs.length=vs.length:=by simpa using h
   show px ((a::cs).set 0 v) (0+1) vs=_;have h2:=ap9 vs [v] cs 0;simp only[iR,iC,List.singleton_append,cB]at h2;rw[List.set_cons_zero,h2,ih h1]
theorem cu0 {vs cs:List Value}{p:Nat}(h:p+vs.length<=cs.length):px cs p vs=cs.take p++(vs++cs.drop (p+vs.length)):=by
 have:=bW6 (vs:=vs) (cs:=cs) (p:=p) (o:=0) (w:=vs.length) (by omega) h;rw[Nat.add_zero,du5 (by rw[dB,iB];omega)]at this;exact this
theorem co8 {σ:Hp}{x z:Ab.Blk}{b i:Nat}(h:((σ.set b Z).add x).m i=Y z):i=σ.n∨(i≠b/\σ.m i=Y z):=by
 by_cases h1:i=σ.n
 .exact .inl h1
 .refine .inr ?_;have h2:((σ.set b Z).add x).m i=(σ.set b Z).m i:=zF h1;rw[h2]at h;by_cases h3:i=b
  .have h4:(σ.set b Z).m i=Z:=zE h3;rw[h4]at h;cases h
  .have h4:(σ.set b Z).m i=σ.m i:=zF h3;exact⟨h3,h4▸h⟩
theorem cy5 {σ:Hp}{x:Ab.Blk}{b i:Nat}(h1:i≠σ.n)(h3:i≠b):((σ.set b Z).add x).m i=σ.m i:=by
 have h2:((σ.set b Z).add x).m i=(σ.set b Z).m i:=zF h1;have h4:(σ.set b Z).m i=σ.m i:=zF h3;exact h2.trans h4
structure Grown (c:Ctx)(base more:List VV)(es n:Nat)(blk:Blk):Prop where
 dim:blk.dim=Y (es,n*es)
 fz:blk.frozen=Zb
 rel: ∀bs ms,F2 (VRel c) base bs->F2 (VRel c) more ms->F2 (VRel c) blk.vals (bs++ms)
theorem xm {c1:Ctx}{es bytes sl n:Nat}{base:Base}{kill:Option Nat}{more:List VV}{blk:Blk}{s:Operand}{op:AOp}{all:List Value}(hR:ec c1)(hS:yH c.S c1.S)(hμ:c1.μ=c.μ)(hσ:c1.σ=c.σ)(hle:Le c c1)(hcalm:zY d c c1)
  (he1:1<=es) (hb:BaseAt c es sl base kill (ea.ev s)) (hkz: ∀q,kill=Y q->(ae c1.S q).frozen=Zb)
  (hop: ∀a sl' sc,ea.ev s= .slice a sl' sc->op.run ea c.σ=sS es bytes c.σ a sl' sc n all) (h3:all.length=n*es) (h4:F2 (VRel c1) more all) (h5:all.all one=Za) (hg:Grown c1 base.cellsOf more es (sl+n) blk)
  (hf:mj (sl+n) bytes=Za) (hd: ∀q,kill=Y q->q∈d) (hk:k (.full c1.S.length) (wy c1.S kill++[blk])=Y y):br T op ea c.σ (mp c d k y):=by
 have hfit:(sl+n)*bytes<=140737488355328/\sl+n<=9223372036854775807:=by
  unfold mj at hf;rw[bB]at hf;have g1:=of_decide_eq_true hf.1;have g2:=fB hf.2;refine⟨g1, ?_⟩;have:(sl+n)*1<=(sl+n)*bytes:=iU _ g2;omega
 have hnew:all=[]->n=0:=by
  intro h;subst h;simp only[iC]at h3;rcases iJ n with h|h
  .exact h
  .have:=iN h he1;omega
 have fin: ∀{v:Value} {σ':Hp} {b1:Option Nat},Moves c1 kill b1 blk σ'->VRel ⟨ah2 c1 b1,wy c1.S kill++[blk],σ',c1.fb⟩ (.full c1.S.length) v->mp c d k y v σ':=by
  intro v σ' b1 hm hv;exact⟨_,_,rfl,hle.trans (hm.le hR),hm.rel hR,hcalm.trans (hm.calm hR hd) hle,hv,hk⟩
 cases kill with
 |none=>
  obtain⟨e1,e2,e3⟩:=hb.no rfl;subst e2;subst e3;by_cases hn:n=0
  .subst hn;have:all=[]:=by simpa using h3
   subst this;have hmv:Moves c1 Z Z blk c1.σ:=⟨(λ_ h=>by cases h),(λ_ h=>by cases h),hR.ok,bD _,λ_ _ h _=>h,_,hg.dim,he1, .inl ⟨rfl,by simp⟩⟩;refine bz (v:= .slice Z 0 0) (σ':=c.σ) ?_ ?_
   .rw[hop _ _ _ e1];unfold sS;rw[zE (by simp)];simp
   .rw[<-hσ];refine fin hmv (.full (by simp[wy]) rfl λd' hd'=> ?_);simp only[pa,if_true]at hd';rw[hg.dim]at hd';injection hd' with hd'
    subst hd';exact⟨0,by simp, .inl ⟨rfl,rfl,rfl,by simp[ah2],by simp⟩⟩
  .have hmv:=da1 hR (blk:=blk) (x:=⟨all,Za,es⟩) hg.dim he1 rfl rfl (by have:=hg.rel [] all .nil h4;simpa using this);refine bz (v:= .slice (Y ⟨c.σ.n,0,Z⟩) n n) (σ':=c.σ.add ⟨all,Za,es⟩) ?_ ?_
   .rw[hop _ _ _ e1];unfold sS;rw[zF (by omega),zE ⟨hfit.1,hfit.2,h5⟩];simp
   .rw[<-hσ];refine fin hmv (ap6 (yb:=⟨all,Za,es⟩) hg.dim (by simp) (bD _) (zE rfl) ?_);show n*es<=all.length;omega
 |some q=>
  obtain⟨dm,g1,g2,g3,g4,g5⟩:=hb.yes q rfl;subst g2;have hdim1:(ae c1.S q).dim=Y dm:=by rw[hS.dim];exact g1
  have hvals1:(ae c1.S q).vals=(ae c.S q).vals:=hS.vals q;rcases g4 with⟨e1,_,e2,e3,e4⟩|⟨b,cp,yb,e1,e3,e4,e5,e6,e7⟩
  .subst e2;have hbase:base.cellsOf=[]:=by rw[g5];simp
   by_cases hn:n=0
   .subst hn;have:all=[]:=by simpa using h3
    subst this;have hmv:Moves c1 (Y q) Z blk c1.σ:=⟨(λ_ h=>by cases h),(λ_ h=>by injection h with h;subst h;exact hkz q rfl),hR.ok,bD _,λ_ _ h _=>h,_,hg.dim,he1, .inl ⟨rfl,by simp⟩⟩;refine bz (v:= .slice Z 0 0) (σ':=c.σ) ?_ ?_
    .rw[hop _ _ _ e1];unfold sS;rw[zE (by simp)];simp
    .rw[<-hσ];refine fin hmv (.full (by simp[aj9]) rfl λd' hd'=> ?_);simp only[pa,if_true]at hd';rw[hg.dim]at hd';injection hd' with hd'
     subst hd';exact⟨0,by simp, .inl ⟨rfl,rfl,rfl,by simp[ah2],by simp⟩⟩
   .have hmv:Moves c1 (Y q) (Y c1.σ.n) blk (c1.σ.add ⟨all,Za,dm.1⟩):=by
     have h0:=da1 hR (blk:=blk) (x:=⟨all,Za,dm.1⟩) hg.dim he1 rfl rfl (by have:=hg.rel [] all (by rw[hbase];exact .nil) h4;simpa using this);refine⟨h0.fr,(λ_ h=>by injection h with h;subst h;exact hkz q rfl),h0.ok,h0.n,λi z hz _=>h0.old i z hz (λ⟨_,h,_⟩=>by cases h), ?_⟩;obtain⟨dd,k1,k2,k3⟩:=h0.one;refine⟨dd,k1,k2, ?_⟩;rcases k3 with k3|⟨b',y',cs,rest,k3,k4,k5,k6,k7,k8,k9⟩
     .exact .inl k3
     .refine .inr ⟨b',y',cs,rest,k3,k4,k5,k6,k7,k8, .inl ?_⟩;rcases k9 with k9|⟨_,k9,_⟩
      .exact k9
      .cases k9
    refine bz (v:= .slice (Y ⟨c.σ.n,0,Z⟩) n n) (σ':=c.σ.add ⟨all,Za,dm.1⟩) ?_ ?_
    .rw[hop _ _ _ e1];unfold sS;rw[zF (by omega),zE ⟨hfit.1,hfit.2,h5⟩];simp
    .rw[<-hσ];refine fin hmv (ap6 (yb:=⟨all,Za,dm.1⟩) hg.dim (by simp) (bD _) (zE rfl) ?_);show n*dm.1<=all.length;omega
  .rw[iO]at e1;rw[cB]at e4 e7;have e3':c1.μ q=Y b:=by rw[hμ];exact e3
   obtain⟨yb',cs,rest,f1,f2,f3,f4,f5⟩:=hR.block hdim1 e3';rw[hσ]at f1;rw[e6]at f1;injection f1 with f1
   subst f1;have hown:=f3 (hkz q rfl);have hcl:cs.length=dm.2:=by rw[<-f5.length];exact aK7 hdim1
   have hbs:F2 (VRel c1) base.cellsOf (cs.take (sl*dm.1)):=by rw[g5,<-hvals1];exact f5.take _
   have hrel:=hg.rel _ _ hbs h4;have hytake:yb.cells.take (sl*dm.1)=cs.take (sl*dm.1):=by rw[f4,iS (by omega)]
   have hcp:sl*dm.1<=cp*dm.1:=gB _ e5;by_cases hroom:sl+n<=cp
   .have hroom':sl*dm.1+n*dm.1<=cp*dm.1:=by rw[<-eD];exact gB _ hroom
    have hset:px yb.cells (sl*dm.1) all=cs.take (sl*dm.1)++(all++yb.cells.drop (sl*dm.1+all.length)):=by rw[cu0 (by omega),hytake]
    have mk: ∀σ':Hp,σ'.Ok->σ'.n=c1.σ.n->(∀i,i≠b->σ'.m i=c1.σ.m i)->σ'.m b=Y ⟨px yb.cells (sl*dm.1) all,Za,yb.es⟩->Moves c1 (Y q) (Y b) blk σ':=by
     intro σ' ho hn hm hb';refine⟨(λb' h hz _=>by injection h with h;subst h;exact hz _ (by rw[hσ];exact e6)),(λ_ h=>by injection h with h;subst h;exact hkz q rfl),ho,by omega,λi z hz hK=> ?_,(dm.1,(sl+n)*dm.1),hg.dim,he1, .inr ⟨b,_,cs.take (sl*dm.1)++all,yb.cells.drop (sl*dm.1+all.length),rfl,hb',f2,λ_=>rfl,by show px _ _ _=_;rw[hset,iG],hrel, .inr ⟨q,rfl,e3'⟩⟩⟩;have:i≠b:=by rintro rfl;exact hK ⟨q,rfl,e3'⟩
     rw[hm i this];exact hz
    have hfull: ∀σ':Hp,σ'.m b=Y ⟨px yb.cells (sl*dm.1) all,Za,yb.es⟩->VRel ⟨ah2 c1 (Y b),wy c1.S (Y q)++[blk],σ',c1.fb⟩ (.full c1.S.length) (.slice (Y ⟨b,0,Z⟩) (sl+n) cp):=by
     intro σ' hb';refine ap6 hg.dim rfl hroom hb' ?_;show cp*dm.1<=(px yb.cells (sl*dm.1) all).length;rw[aD5];exact e7
    by_cases hn:all=[]
    .have hself:yb=⟨px yb.cells (sl*dm.1) all,Za,yb.es⟩:=by
      subst hn;cases yb;simp only[px]at*;simp[hown]
     refine bz (v:= .slice (Y ⟨b,0,Z⟩) (sl+n) cp) (σ':=c.σ) ?_ ?_
     .rw[hop _ _ _ e1];unfold sS;rw[zE hroom];simp[hn]
     .rw[<-hσ];have e6':c1.σ.m b=Y ⟨px yb.cells (sl*dm.1) all,Za,yb.es⟩:=by rw[<-hself,hσ];exact e6
      exact fin (mk c1.σ hR.ok rfl (λ_ _=>rfl) e6') (hfull _ e6')
    .refine bz (v:= .slice (Y ⟨b,0,Z⟩) (sl+n) cp) (σ':=c.σ.set b (Y ⟨px yb.cells (sl*dm.1) all,Za,yb.es⟩)) ?_ ?_
     .rw[hop _ _ _ e1];unfold sS;rw[zE hroom];simp only[hn,if_false,e6,cB];rw[bg0 hown (by omega) h5]
     .rw[<-hσ];refine fin (mk _ (λi z hz=> ?_) rfl (λi hi=>by simp[Hp.set,hi]) (by simp[Hp.set])) (hfull _ (by simp[Hp.set]));simp only[Hp.set]at hz;split at hz
      .rename_i e;subst e;exact hR.ok _ _ (by rw[hσ];exact e6)
      .exact hR.ok _ _ hz
   .have hmv:Moves c1 (Y q) (Y c1.σ.n) blk ((c1.σ.set b Z).add ⟨cs.take (sl*dm.1)++all,Za,dm.1⟩):=by
     refine⟨(λb h _ hb=>by injection h with h;subst h;exact Nat.lt_irrefl _ (hR.fbl _ hb)),(λ_ h=>by injection h with h;subst h;exact hkz q rfl),λi z hz=> ?_,Nat.le_succ _,λi z hz hK=> ?_,(dm.1,(sl+n)*dm.1),hg.dim,he1, .inr ⟨c1.σ.n,_,cs.take (sl*dm.1)++all,[],rfl,zE rfl,rfl,λ_=>rfl,by simp,hrel, .inl λz hz=> ?_⟩⟩
     .show i<c1.σ.n+1;rcases co8 hz with h0|⟨_,h0⟩
      .omega
      .have:=hR.ok i z h0;omega
     .have h0:i≠b:=by rintro rfl;exact hK ⟨q,rfl,e3'⟩
      have h9:=hR.ok i z hz;rw[cy5 (by omega) h0];exact hz
     .have:=hR.ok _ _ hz;omega
    refine bz (v:= .slice (Y ⟨c.σ.n,0,Z⟩) (sl+n) (sl+n)) (σ':=(c.σ.set b Z).add ⟨cs.take (sl*dm.1)++all,Za,dm.1⟩) ?_ ?_
    .rw[hop _ _ _ e1];unfold sS;rw[zF hroom,zE ⟨hfit.1,hfit.2,h5⟩];simp only[e6];rw[zE ⟨hown,f2⟩]
     have:vk yb 0 (sl*dm.1)=Y (cs.take (sl*dm.1)):=by
      unfold vk;rw[zE (by omega),iE,hytake]
     rw[this]
    .rw[<-hσ];refine fin hmv (ap6 (yb:=⟨cs.take (sl*dm.1)++all,Za,dm.1⟩) hg.dim rfl (bD _) (zE rfl) ?_);show(sl+n)*dm.1<=(cs.take (sl*dm.1)++all).length;rw[cD,dB,eD];omega
theorem bB9 {S:ai}{s:Sh}{cs:List VV}{l:List (El s)}{c1:Ctx}(hR:ec c1)(hS:c1.S=S)(h:cY1 S s cs=Y l):cs.length=l.length*s.w/\∀as,F2 (VRel c1) cs as->F2 (VRel c1) (gh s l) as:=by
 subst hS;exact by5 (ov hR s) _ _ _ h
theorem bP0 (hR:ec c)(he:az c e ea){es bytes:Nat}{s:Operand}{op:AOp}{mo:Option More}(hd: ∀q,ao0 (ev e s)=Y q->q∈d)(h:bJ2 c.S es bytes (ay8 c.S es (ev e s)) mo k=Y y)
  (hm: ∀m,mo=Y m->∃n all,(∀a sl' sc,ea.ev s= .slice a sl' sc->op.run ea c.σ=sS es bytes c.σ a sl' sc n all)/\all.length=n*es/\F2 (VRel c) m.cellsOf all/\(∀s l,m= .lst s l->es=s.w/\n=l.length)):br T op ea c.σ (mp c d k y):=by
 have hs:=bt he s;unfold bJ2 at h;cases hbo:ay8 c.S es (ev e s)with
 |none=>rw[hbo]at h;cases h
 |some p=>
  obtain⟨base,kill⟩:=p;cases mo with
  |none=>rw[hbo]at h;cases base<;>cases h
  |some m=>
   obtain⟨sl,hb,hbl,hba⟩:=da7 hR hbo hs;obtain⟨n,all,hop,h3,h4,h5⟩:=hm m rfl
   have hkd: ∀q,kill=Y q->q∈d:=by
    intro q hq;refine hd q ?_;subst hq;cases hv:ev e s<;>rw[hv]at hbo<;>try(cases hbo;done)
    case full b=>
     simp only[ay8]at hbo;split at hbo
     .rename_i s' l hbb;cases hh:aB es s'.w with
      |false=>rw[hh]at hbo;cases hbo
      |true=>rw[hh]at hbo;simp only[zC,Option.some.injEq,Prod.mk.injEq]at hbo;rw[<-hbo.2];rfl
     .rename_i es' l hbb;cases hh:(aB es es'&&iA 1 es)with
      |false=>rw[hh]at hbo;cases hbo
      |true=>rw[hh]at hbo;simp only[zC,Option.some.injEq,Prod.mk.injEq]at hbo;rw[<-hbo.2];rfl
     .cases hbo
    case part b lo m=>
     cases lo with
     |succ lo=>cases hbo
     |zero=>
      simp only[ay8]at hbo;split at hbo
      .rename_i s' l hbb;cases hh:aB es s'.w with
       |false=>rw[hh]at hbo;cases hbo
       |true=>rw[hh]at hbo;simp only[zC,Option.some.injEq,Prod.mk.injEq]at hbo;rw[<-hbo.2];rfl
      .rename_i es' l hbb;cases hh:(aB es es'&&iA 1 es)with
       |false=>rw[hh]at hbo;cases hbo
       |true=>rw[hh]at hbo;simp only[zC,Option.some.injEq,Prod.mk.injEq]at hbo;rw[<-hbo.2];rfl
      .cases hbo
   have hkz: ∀q,kill=Y q->(ae c.S q).frozen=Zb:=by
    intro q hq;obtain⟨_,_,_,h,_⟩:=hb.yes q hq;exact h
   rw[hbo]at h;have one4: ∀(c1:Ctx) (l:List VV),F2 (VRel c1) l all->ux l=Za->all.all one=Za:=λc1 l h1 h2=>pn h1 h2
   cases base with
   |arr s' l=>
    obtain⟨g1,g2⟩:=hba s' l rfl;subst g1;cases m with
    |lst s2 l'=>
     simp only at h;obtain⟨l2,k1,k2⟩:=ag h;obtain⟨ee,k3⟩:=ru k1;cases ee;subst k3;obtain⟨k4,k5⟩:=au k2;obtain⟨_,k6⟩:=h5 _ _ rfl;refine xm hR (yH.refl _) rfl rfl (Le.refl c) (zY.refl d c) (sZ _) hb hkz hop h3 h4 (one4 c _ h4 (xq _ _)) ⟨?_,rfl,λbs ms f1 f2=> ?_⟩ (by rw[g2,k6];exact k4) hkd k5
     .simp only[Blk.dim,cD,g2,k6]
     .simp only[Blk.vals];rw[aj8];exact f1.append f2
    |cells cs=>
     simp only at h;split at h
     .rename_i s3 l3 hkk;obtain⟨l2,k1,k2⟩:=ag h;obtain⟨k4,k5⟩:=au k2;have hfz:=be6 c.S cs;have hR1:ec ⟨c.μ,fzL c.S cs,c.σ,c.fb⟩:=hfz.rel hR;obtain⟨k6,k7⟩:=bB9 hR1 rfl k1;have h4':F2 (VRel ⟨c.μ,fzL c.S cs,c.σ,c.fb⟩) cs all:=VRel.frames hfz.le h4
      have k8:n=l2.length:=by
       have:=h4.length;simp only[More.cellsOf]at this;rw[k6,h3]at this;exact(fD (sZ _) this).symm
      have hkz': ∀q,kill=Y q->(ae (fzL c.S cs) q).frozen=Zb:=by
       intro q hq;subst hq;simp only[iV]at hkk;rw[hkk];rfl
      refine xm (c1:=⟨c.μ,fzL c.S cs,c.σ,c.fb⟩) hR1 hfz rfl rfl hfz.le (hfz.calm d) (sZ _) hb hkz' hop h3 h4' (one4 _ _ (k7 _ h4') (xq _ _)) ⟨?_,rfl,λbs ms f1 f2=> ?_⟩ (by rw[g2,k8];exact k4) hkd k5
      .simp only[Blk.dim,cD,g2,k8]
      .simp only[Blk.vals];rw[aj8];exact f1.append (k7 _ f2)
     .cases h
   |cells es0 l=>
    obtain⟨g1,g2⟩:=hb.es _ _ rfl;subst g1;cases m with
    |lst s2 l'=>
     simp only at h;obtain⟨w1,w2⟩:=h5 _ _ rfl;subst w1;split at h
     .rename_i s3 l3 hkk;obtain⟨l1,k1,k2⟩:=ag h;obtain⟨k4,k5⟩:=au k2;have hfz:=be6 c.S l;have hR1:ec ⟨c.μ,fzL c.S l,c.σ,c.fb⟩:=hfz.rel hR;obtain⟨k6,k7⟩:=bB9 hR1 rfl k1;have h4':F2 (VRel ⟨c.μ,fzL c.S l,c.σ,c.fb⟩) (gh s2 l') all:=VRel.frames hfz.le h4
      have k8:sl=l1.length:=by
       simp only[Base.cellsOf]at hbl;rw[k6]at hbl;exact(fD (sZ _) hbl).symm
      have hkz': ∀q,kill=Y q->(ae (fzL c.S l) q).frozen=Zb:=by
       intro q hq;subst hq;simp only[iV]at hkk;rw[hkk];rfl
      refine xm (c1:=⟨c.μ,fzL c.S l,c.σ,c.fb⟩) hR1 hfz rfl rfl hfz.le (hfz.calm d) (sZ _) hb hkz' hop h3 h4' (one4 _ _ h4' (xq _ _)) ⟨?_,rfl,λbs ms f1 f2=> ?_⟩ (by rw[w2,k8];exact k4) hkd k5
      .simp only[Blk.dim,cD,w2,k8]
      .simp only[Blk.vals];rw[aj8];exact(k7 _ f1).append f2
     .cases h
    |cells cs=>
     simp only at h;obtain⟨k4,k5⟩:=au h;rw[bB]at k4;simp only[Base.cellsOf]at hbl;simp only[More.cellsOf]at h4;have k6:cs.length=n*es0:=by rw[h4.length];exact h3
     refine xm (blk:= .cells es0 Zb (l++cs)) hR (yH.refl _) rfl rfl (Le.refl c) (zY.refl d c) g2 hb hkz hop h3 h4 (one4 c _ h4 k4.2) ⟨?_,rfl,λbs ms f1 f2=>F2.append (l:=l) f1 f2⟩ ?_ hkd k5
     .simp only[Blk.dim,cD,hbl,k6,eD]
     .have:(l.length+cs.length) / es0=sl+n:=by rw[hbl,k6,<-eD,iL _ g2]
      rw[<-this];exact k4.1
   |none=>
    have hsl:kill=Z->sl=0:=λhh=>(hb.no hh).2.1
    have hsl0: ∀(q:Nat),1<=es->sl=0:=by
     intro _ hh;simp only[Base.cellsOf,iC]at hbl;rcases iJ sl with h|h
     .exact h
     .have:=iN h hh;omega
    cases m with
    |lst s2 l'=>
     simp only at h;obtain⟨w1,w2⟩:=h5 _ _ rfl;subst w1;have hz:=hsl0 0 (sZ _);subst hz;obtain⟨k4,k5⟩:=au h;refine xm hR (yH.refl _) rfl rfl (Le.refl c) (zY.refl d c) (sZ _) hb hkz hop h3 h4 (one4 c _ h4 (xq _ _)) ⟨?_,rfl,λbs ms f1 f2=> ?_⟩ (by rw[w2];exact k4) hkd k5
     .simp only[Blk.dim,cD,w2,iC]
     .cases f1;exact f2
    |cells cs=>
     simp only at h;obtain⟨k4,k5⟩:=au h;rw[bB,bB]at k4;have g2:=fB k4.1.2;have hz:=hsl0 0 g2;subst hz;simp only[More.cellsOf]at h4;have k6:cs.length=n*es:=by rw[h4.length];exact h3
     refine xm (blk:= .cells es Zb cs) hR (yH.refl _) rfl rfl (Le.refl c) (zY.refl d c) g2 hb hkz hop h3 h4 (one4 c _ h4 k4.2) ⟨?_,rfl,λbs ms f1 f2=>by cases f1;exact f2⟩ ?_ hkd k5
     .simp only[Blk.dim,k6,cB]
     .have:cs.length / es=0+n:=by rw[k6,iL _ g2,cB]
      rw[<-this];exact k4.1.1
theorem dg3 {s:Sh}{l:List (El s)}{a:Value}{bytes n:Nat}{all:List Value}(hv:VRel c (.tgt s l) a)(h3:all.length=n*s.w)(h1:1<=n)(h5:all.all one=Za)(hf:mj (l.length+n) bytes=Za):
  ∃p sc old,a= .slice p l.length sc/\F2 (VRel c) (gh s l) old/\sS s.w bytes c.σ p l.length sc n all=Y (.slice (Y ⟨c.σ.n,0,Z⟩) (l.length+n) (l.length+n),c.σ.add ⟨old++all,Za,s.w⟩):=by
 have hfit:(l.length+n)*bytes<=140737488355328/\l.length+n<=9223372036854775807:=by
  unfold mj at hf;rw[bB]at hf;have g1:=of_decide_eq_true hf.1;have g2:=fB hf.2;refine⟨g1, ?_⟩;have:(l.length+n)*1<=(l.length+n)*bytes:=iU _ g2;omega
 cases hv with
 |tgtn hq=>
  simp only[iC,cB]at hfit⊢;rcases hq with rfl|⟨b,o,rfl⟩
  .refine⟨Z,0,[],rfl, .nil, ?_⟩;unfold sS;rw[zF (by omega),zE (by rw[cB];exact⟨hfit.1,hfit.2,h5⟩)];simp
  .refine⟨_,0,[],rfl, .nil, ?_⟩;unfold sS;rw[zF (by omega),zE (by rw[cB];exact⟨hfit.1,hfit.2,h5⟩)];simp
 |tgt hn hy he h4 hf'=>
  rename_i b p yb;by_cases h0:l=[]
  .subst h0;simp only[iC,cB]at hfit⊢;refine⟨_,0,[],rfl, .nil, ?_⟩;unfold sS;rw[zF (by omega),zE (by rw[cB];exact⟨hfit.1,hfit.2,h5⟩)];simp
  .have hl:l.length≠0:=λh=>h0 (List.eq_nil_of_length_eq_zero h)
   refine⟨_,_,_,rfl,hf', ?_⟩;unfold sS;rw[zF (by omega),zE ⟨hfit.1,hfit.2,h5⟩];simp only[hl,if_false,hy,he,if_true]
   have:vk yb p (l.length*s.w)=Y ((yb.cells.drop p).take (l.length*s.w)):=by
    unfold vk;rw[zE h4]
   rw[this]
theorem bX1 {c1:Ctx}{bytes n:Nat}{s:Sh}{l l2:List (El s)}{so:Operand}{op:AOp}{all:List Value}(hR:ec c1)(hσ:c1.σ=c.σ)(hle:Le c c1)(hcalm:zY d c c1)
  (hv:VRel c1 (.tgt s l) (ea.ev so)) (hop: ∀a sl' sc,ea.ev so= .slice a sl' sc->op.run ea c.σ=sS s.w bytes c.σ a sl' sc n all) (h3:all.length=n*s.w) (h4:F2 (VRel c1) (gh s l2) all) (h5:all.all one=Za) (hn:n=l2.length) (h1:1<=n)
  (h:cB6 c1.S bytes s Z l l2 k=Y y):br T op ea c.σ (mp c d k y):=by
 unfold cB6 at h;obtain⟨g1,g2⟩:=au h;rw[<-hn]at g1;obtain⟨p,sc,old,e1,f1,f2⟩:=dg3 hv h3 h1 h5 g1;have hrel:F2 (VRel c1) (gh s (l++l2)) (old++all):=by rw[aj8];exact f1.append h4
 have hmv:=da1 hR (blk:= .arr s Zb (l++l2)) (x:=⟨old++all,Za,s.w⟩) (d:=(s.w,(l++l2).length*s.w)) rfl (sZ s) rfl rfl hrel;refine bz (v:= .slice (Y ⟨c.σ.n,0,Z⟩) (l.length+n) (l.length+n)) (σ':=c.σ.add ⟨old++all,Za,s.w⟩) ?_ ?_
 .rw[hop _ _ _ e1,<-hσ,f2]
 .rw[<-hσ];refine⟨_,_,rfl,hle.trans (hmv.le hR),hmv.rel hR,hcalm.trans (hmv.calm hR (λq h=>by cases h)) hle, ?_,g2⟩;refine ap6 (yb:=⟨old++all,Za,s.w⟩) (dm:=(s.w,(l++l2).length*s.w)) rfl (by simp[hn]) (bD _) (zE rfl) ?_;show(l.length+n)*s.w<=(old++all).length;rw[cD,<-f1.length,iv,h3,eD];exact bD _
theorem dv9 (hR:ec c)(he:az c e ea){es bytes:Nat}{s:Sh}{l:List (El s)}{so:Operand}{op:AOp}{mo:Option More}(hs:ev e so= .tgt s l)(h:cR2 c.S es bytes s l mo k=Y y)
  (hm: ∀m,mo=Y m->∃n all,(∀a sl' sc,ea.ev so= .slice a sl' sc->op.run ea c.σ=sS es bytes c.σ a sl' sc n all)/\all.length=n*es/\F2 (VRel c) m.cellsOf all/\(∀s l,m= .lst s l->es=s.w/\n=l.length)):br T op ea c.σ (mp c d k y):=by
 have hv:=bt he so;rw[hs]at hv;unfold cR2 at h;cases mo with
 |none=>cases h
 |some m=>
  obtain⟨n,all,hop,h3,h4,h5⟩:=hm m rfl;cases m with
  |lst s' l'=>
   simp only at h;obtain⟨l2,k1,k2⟩:=ag h;obtain⟨ee,k3⟩:=ru k1;cases ee;subst k3;obtain⟨k4,k5⟩:=au k2;rw[bB]at k4;have w1:=aD k4.1;have w2:=fB k4.2;subst w1;obtain⟨_,k6⟩:=h5 _ _ rfl;exact bX1 hR rfl (Le.refl c) (zY.refl d c) hv hop h3 h4 (pn h4 (xq _ _)) k6 (by rw[k6];exact w2) k5
  |cells cs=>
   simp only at h;obtain⟨l2,k1,k2⟩:=ag h;obtain⟨k4,k5⟩:=au k2;rw[bB]at k4;have w1:=aD k4.1;have w2:=fB k4.2;subst w1;have hfz:=be6 c.S cs;have hR1:ec ⟨c.μ,fzL c.S cs,c.σ,c.fb⟩:=hfz.rel hR;obtain⟨k6,k7⟩:=bB9 hR1 rfl k1;have h4':F2 (VRel ⟨c.μ,fzL c.S cs,c.σ,c.fb⟩) cs all:=VRel.frames hfz.le h4
   have k8:n=l2.length:=by
    have:=h4.length;simp only[More.cellsOf]at this;rw[k6,h3]at this;exact(fD (sZ _) this).symm
   exact bX1 (c1:=⟨c.μ,fzL c.S cs,c.σ,c.fb⟩) hR1 rfl hfz.le (hfz.calm d) (hv.frame hfz.le) hop h3 (k7 _ h4') (pn (k7 _ h4') (xq _ _)) k8 (by rw[k8];exact w2) k5
theorem cG9 (hR:ec c){v:VV}{a:Value}{S1:ai}{s:Sh}{l:List (El s)}(h:bX0 c.S v=Y (S1, .arr s l))(hv:VRel c v a):yH c.S S1/\VRel ⟨c.μ,S1,c.σ,c.fb⟩ (.lst s l) a:=by
 unfold bX0 at h;split at h
 .simp only[Option.some.injEq,Prod.mk.injEq,Base.arr.injEq]at h;obtain⟨h1,rfl,h2⟩:=h;have h2:=eq_of_heq h2;subst h1;subst h2;exact⟨yH.refl _,hv⟩
 .rename_i q;split at h
  .rename_i s' z l' hb;simp only[Option.some.injEq,Prod.mk.injEq,Base.arr.injEq]at h;obtain⟨h1,rfl,h2⟩:=h;have h2:=eq_of_heq h2;subst h1;subst h2;have hfz:yH c.S (qj c.S q (ae c.S q).freeze):=yH.put;refine⟨hfz, ?_⟩;have hR1:=hfz.rel hR;have hq:q<c.S.length:=sC (by rw[hb];simp[Blk.dim]);have hg:ae (qj c.S q (ae c.S q).freeze) q= .arr s' Za l':=by rw[cX4 hq,hb];rfl
   refine bT1 hR1 (ov hR1 s') (v:= .full q) ?_ (hv.frame hfz.le);show cond (ae (qj c.S q (ae c.S q).freeze) q).frozen _ _=_;rw[hg];simp only[Blk.frozen,zC,ba1,hg,ai8,te]
  .cases h
 .cases h
theorem dA0 (hR:ec c)(he:az c e ea){x:Operand}(hx:ev e x= .nils)(h:k (.int .i64 0) c.S=Y y):br T (.capN x) ea c.σ (mp c d k y):=by
 have hv:=bt he x;rw[hx]at hv;have e1:ea.ev x= .slice Z 0 0:=by generalize ea.ev x=q at hv;cases hv;rfl
 refine bz (v:= .int .i64 0) (σ':=c.σ) ?_ (mp.same hR (.int _ _) h);simp only[AOp.run,e1]
theorem df2 (hR:ec c)(he:az c e ea){x hi mx:Operand}(h:cu3 c.S (ev e x) (ev e hi) (ev e mx) k=Y y):br T (.sliceX x hi mx) ea c.σ (mp c d k y):=by
 have hv:=bt he x;have hvh:=bt he hi;have hvm:=bt he mx;unfold cu3 at h;split at h
 .rename_i kh zh km zm eh em;rw[eh]at hvh;rw[em]at hvm;have q1:ea.ev hi= .int kh zh:=hvh.int_inv;have q2:ea.ev mx= .int km zm:=hvm.int_inv;obtain⟨g1,h1⟩:=au h;clear h;have g1:=of_decide_eq_true g1;subst g1;have h:=h1;clear h1
  have run: ∀(p:Option Addr) (n cp:Nat) (r:Value),ea.ev x= .slice p n cp->0<=zh->zh<=cp->(match p with
    |none=>Y (Value.slice Z 0 0,c.σ)
    |some ⟨b,o,Z⟩=>Y (.slice (Y ⟨b,o,Y 0⟩) zh.toNat zh.toNat,c.σ)
    |_=>Z)=Y (r,c.σ)->(AOp.sliceX x hi mx).run ea c.σ=Y (r,c.σ):=by
   intro p n cp r hp h0 h1 hr;have b1:uH cp 0 (Y (.int km zh))=Y zh.toNat:=zE ⟨h0,h1⟩;have b2:uH zh.toNat 0 (Y (.int kh zh))=Y zh.toNat:=zE ⟨h0,by omega⟩;simp only[AOp.run,hp,q1,q2,b1,b2,if_true];exact hr
  split at h
  .rename_i hx;rw[hx]at hv;obtain⟨g2,h1⟩:=au h;clear h;have h:=h1;clear h1;have g2:=of_decide_eq_true g2;subst g2;have e1:ea.ev x= .slice Z 0 0:=by generalize ea.ev x=q at hv;cases hv;rfl
   exact bz (run _ _ _ (.slice Z 0 0) e1 (by simp) (by simp) rfl) (mp.same hR .nils h)
  .split at h
   .rename_i S1 s l hsrc;obtain⟨g2,h1⟩:=au h;clear h;have h:=h1;clear h1;obtain⟨c1,c2,c3⟩:=zq g2;obtain⟨hfz,hl⟩:=cG9 hR hsrc hv;have hR1:=hfz.rel hR;have out: ∀v:Value,VRel ⟨c.μ,S1,c.σ,c.fb⟩ (.tgt s (l.take zh.toNat)) v->mp c d k y v c.σ:=λv hv=>⟨_,⟨c.μ,S1,c.σ,c.fb⟩,rfl,hfz.le,hR1,hfz.calm d,hv,h⟩
    cases hl':ea.ev x with
    |slice p n cp=>
     rw[hl']at hl;cases hl with
     |lstn hq=>
      have z0:zh=0:=by simp at c3;omega
      subst z0;cases p with
      |none=>exact bz (run _ _ _ (.slice Z 0 0) hl' (by simp) (by simp) rfl) (out _ (.tgtn (.inl rfl)))
      |some A=>
       obtain⟨b,o,sp⟩:=A;have:sp=Z:=hq _ rfl;subst this;exact bz (run _ _ _ (.slice (Y ⟨b,o,Y 0⟩) 0 0) hl' (by simp) (by simp) rfl) (out _ (.tgtn (.inr ⟨_,_,rfl⟩)))
     |lst hn hy he' h1 h2 h3 hf=>
      rename_i b o yb;refine bz (run _ _ _ (.slice (Y ⟨b,o,Y 0⟩) zh.toNat zh.toNat) hl' c2 (by omega) rfl) (out _ ?_);have hlen:(l.take zh.toNat).length=zh.toNat:=by rw[dB];omega
      have hmul:zh.toNat*s.w<=n*s.w:=gB _ (by omega)
      have:=VRel.tgt (c:=⟨c.μ,S1,c.σ,c.fb⟩) (l:=l.take zh.toNat) hn hy he' (p:=o) (by rw[hlen];omega) (by
       rw[hlen,pq];have h9:=hf.take (zh.toNat*s.w);rw[iI,iD hmul]at h9
       exact h9)
      rw[hlen]at this;exact this
    |_=>rw[hl']at hl;cases hl
   .cases h
 .cases h
theorem cK6 (hR:ec c)(he:az c e ea){es bytes:Nat}{s x:Operand}(hd: ∀q,ao0 (ev e s)=Y q->q∈d)(h:bP1 c.S es bytes (ev e s) (ev e x) k=Y y)(hap:cp3 c.S es bytes (ev e s) (ev e x) k=Y y->br T (.append es bytes s x) ea c.σ (mp c d k y)):br T (.append es bytes s x) ea c.σ (mp c d k y):=by
 unfold bP1 at h;split at h
 .rename_i s' l hs;refine dv9 hR he hs h λm hmo=> ?_
  obtain⟨n,all,h1,h2,h3,h4,h5⟩:=aD1 hR hmo (bt he x);have h2n:=h2 n (bD _);rw[dD (by omega)]at h2n;refine⟨n,all,λa sl' sc hs=> ?_,h3,h4,h5⟩;simp only[AOp.run,hs,h1,h2n]
 .exact hap h
theorem da4 (hR:ec c)(he:az c e ea){es bytes:Nat}{s x:Operand}(hd: ∀q,ao0 (ev e s)=Y q->q∈d)(h:cp3 c.S es bytes (ev e s) (ev e x) k=Y y):br T (.append es bytes s x) ea c.σ (mp c d k y):=by
 refine bP0 hR he hd h λm hmo=> ?_
 obtain⟨n,all,h1,h2,h3,h4,h5⟩:=aD1 hR hmo (bt he x);have h2n:=h2 n (bD _);rw[dD (by omega)]at h2n;refine⟨n,all,λa sl' sc hs=> ?_,h3,h4,h5⟩;simp only[AOp.run,hs,h1,h2n]
theorem cK7 (hR:ec c)(he:az c e ea){es bytes:Nat}{z:List Value}{s x:Operand}(hd: ∀q,ao0 (ev e s)=Y q->q∈d)(h:bP2 c.S es bytes z (ev e s) (ev e x) k=Y y):br T (.appendZ es bytes z s x) ea c.σ (mp c d k y):=by
 have hx:=bt he x;unfold bP2 at h;split at h
 .rename_i kd l hl;rw[hl]at hx;obtain⟨hg,h⟩:=au h;unfold rZ at hg;rw[bB,bB]at hg;have g1:=of_decide_eq_true hg.1;have g2:=of_decide_eq_true hg.2.1;have g3:=of_decide_eq_true hg.2.2;refine bP0 hR he hd h λm hmo=> ?_
  unfold cI3 at hmo;split at hmo
  .rename_i sh hs;cases hb:aB es sh.w with
   |false=>rw[hb]at hmo;cases hmo
   |true=>
    rw[hb]at hmo;simp only[zC,Option.some.injEq]at hmo;subst hmo;have he:=aD hb;subst he;have hz:=aD6 (c:=c) hs;have hzl:z.length=sh.w:=by rw[<-hz.length,dj]
    refine⟨l.toNat,di z l.toNat,λa sl' sc hs'=> ?_,by rw[aj5,hzl], ?_,λs' l' h'=> ?_⟩
    .simp only[AOp.run,hs',hx.int_inv];rw[zE ⟨g1,g2,g3⟩]
    .show F2 (VRel c) (gh sh (gD l.toNat (yC sh))) (di z l.toNat);rw[wL];generalize l.toNat=n;induction n with
     |zero=>exact .nil
     |succ n ih=>
      simp only[di,iF,iH]at ih⊢;exact hz.append ih
    .injection h' with h1 h2
     subst h1;have h2:=eq_of_heq h2;rw[<-h2,List.length_replicate];exact⟨rfl,rfl⟩
  .cases hmo
 .cases h
theorem df4 {S:ai}{q:Nat}:qj S q (ae S q)=S:=by
 induction S generalizing q with
 |nil=>rfl
 |cons a r ih=>
  cases q with
  |zero=>rfl
  |succ q=>simp only[qj,ae,ih]
theorem du6 {σ:Hp}{b:Nat}{x:Ab.Blk}(h:σ.m b=Y x):σ.set b (Y x)=σ:=by
 have:(λi=>if i=b then Y x else σ.m i)=σ.m:=by
  funext i
  by_cases hi:i=b
  .rw[zE hi,hi,h]
  .rw[zF hi]
 show Hp.mk _ _=_;rw[this]
theorem dk7 {es n m b o cp:Nat}{x z:Operand}{all:List Value}{x0:Ab.Blk}(hx:ea.ev x= .slice (Y ⟨b,o,Z⟩) n cp)(h1:bi9 (ea.ev z)=Y m)(h2:c.σ.slice es (ea.ev z) (min m n)=Y all)(hy:c.σ.m b=Y x0)
  (hown:x0.own=Za) (hlen:o+all.length<=x0.cells.length) (hone:all.all one=Za):(AOp.copy es x z).run ea c.σ=Y (.int .i64 (min m n:Nat),c.σ.set b (Y ⟨px x0.cells o all,Za,x0.es⟩)):=by
 simp only[AOp.run,hx,h1,h2];by_cases hn:all=[]
 .rw[zE hn];subst hn;have:(⟨px x0.cells o [],Za,x0.es⟩:Ab.Blk)=x0:=by cases x0;simp only[px]at*;simp[hown]
  rw[this,du6 hy]
 .rw[zF hn,hy];simp only[bg0 hown hlen hone]
theorem cf1 (hR:ec c){es q o n m:Nat}{dm:Nat×Nat}{x z:Operand}{blk:Blk}{all:List Value}(hdim:(ae c.S q).dim=Y dm)(hes:dm.1=es)(hz:(ae c.S q).frozen=Zb)(hs:SlR c q o n dm (ea.ev x))
  (h1:bi9 (ea.ev z)=Y m) (h2:c.σ.slice es (ea.ev z) (min m n)=Y all) (h3:all.length=min m n*es) (h5:all.all one=Za) (hd:q∈d) (hbd:blk.dim=Y dm) (hbz:blk.frozen=Zb) (hnil:dm.2=0->blk=ae c.S q)
  (hrel: ∀cs,F2 (VRel c) (ae c.S q).vals cs->F2 (VRel c) blk.vals (px cs (o*es) all)) (hk:k (.int .i64 (min m n:Nat)) (qj c.S q blk)=Y y):br T (.copy es x z) ea c.σ (mp c d k y):=by
 subst hes;rcases hs with⟨e1,e2,e3,e4,e5⟩|⟨b,cp,yb,e1,e2,e3,e4,e5,e6⟩
 .subst e2;subst e3;have:all=[]:=by simpa using h3
  subst this;refine bz (v:= .int .i64 (min m 0:Nat)) (σ':=c.σ) ?_ (mp.same hR (.int _ _) ?_)
  .simp only[AOp.run,e1,h1,h2];simp
  .rw[hnil e5,df4]at hk;exact hk
 .obtain⟨y0,cs,rest,f1,f2,f3,f4,f5⟩:=hR.block hdim e2;rw[e5]at f1;injection f1 with f1
  subst f1;have hl:=f5.length;rw[aK7 hdim]at hl
  have hle:o*dm.1+min m n*dm.1<=dm.2:=by
   have:(o+min m n)*dm.1<=(o+n)*dm.1:=gB _ (by omega);rw[eD]at this;omega
  have hlen:o*dm.1+all.length<=yb.cells.length:=by rw[f4,cD,h3];omega
  have hw:Writes c q b blk ⟨px yb.cells (o*dm.1) all,Za,yb.es⟩:=⟨hz,e2,hbd.trans hdim.symm,hbz,yb,px cs (o*dm.1) all,rest,dm,e5,hdim,f2,rfl,aD5 _ _ _,by show px _ _ _=_;rw[f4,ba9 _ _ _ _ (by omega)],hrel cs f5⟩;exact bz (dk7 e1 h1 h2 e5 (f3 hz) hlen h5) ⟨_,_,rfl,hw.le hR,hw.rel hR,hw.calm hR hd, .int _ _,hk⟩
theorem bA2 {kd:IntKind}: ∀{cs r:List VV} {m ml:Zd} {j:Nat} {as ms:List Value},bt9 kd m j cs=Y r->F2 (VRel c) cs as->F2 (VRel c) (ml.map (VV.int kd)) ms->ml=(m.drop j).take cs.length->
  F2 (VRel c) r (ms++as.drop ms.length)
 |[],r,m,ml,j,as,ms,h,hf,hm,hl=>by
  simp only[bt9]at h;injection h with h;subst h
  cases hf;simp at hl;subst hl;cases hm;exact .nil
 |v::cs,r,m,ml,j,as,ms,h,hf,hm,hl=>by
  cases v<;>simp only[bt9]at h<;>try(cases h;done)
  rename_i k' n;cases hk:Zc (k'=kd)with
  |false=>rw[hk]at h;cases h
  |true=>
   rw[hk,zC]at h;have hk:=of_decide_eq_true hk;subst hk;obtain⟨r',h1,h2⟩:=ag h;injection h2 with h2
   subst h2;cases hf with
   |cons hf1 hf2=>
    rename_i a as;have ha:=hf1.int_inv;subst ha;by_cases hj:j<m.length
    .have hd:m.drop j=m[j]::m.drop (j+1):=List.drop_eq_getElem_cons hj;rw[hd]at hl;simp only[iR,List.take_succ_cons]at hl;subst hl;cases hm with
     |cons hm1 hm2=>
      rename_i b ms;have hb:=hm1.int_inv;subst hb;have:=bA2 h1 hf2 hm2 rfl;rw[iQ,List.getElem?_eq_getElem hj];exact .cons (.int _ _) this
    .have hd:m.drop j=[]:=iP (by omega);rw[hd]at hl;simp only[List.take_nil]at hl;subst hl;cases hm;have:=bA2 (ml:=[]) h1 hf2 .nil (by rw[iP (by omega)];simp);rw[iQ,List.getElem?_eq_none (by omega)];exact .cons (.int _ _) this
theorem ch7 {kd:IntKind}{m:Zd}: ∀{cs r:List VV} {j:Nat},bt9 kd m j cs=Y r->r.length=cs.length
 |[],r,j,h=>by injection h with h;subst h;rfl
 |v::cs,r,j,h=>by
  cases v<;>simp only[bt9]at h<;>try(cases h;done)
  rename_i k' n;cases hk:Zc (k'=kd)with
  |false=>rw[hk]at h;cases h
  |true=>
   rw[hk,zC]at h;obtain⟨r',h1,h2⟩:=ag h;injection h2 with h2
   subst h2;simp[ch7 h1]
theorem cC3 {kd:IntKind}{m:Zd}:gh (.int kd) m=m.map (VV.int kd):=by
 induction m with
 |nil=>rfl
 |cons a m ih=>rw[il,ih];rfl
theorem by2 {α:Type}{l m:List α}{o n:Nat}(h:o+n<=l.length):aC3 l o n m=l.take o++(m.take (min m.length n)++l.drop (o+min m.length n)):=by
 unfold aC3;rw[Nat.min_comm n m.length]
 congr 2
 by_cases hh:n<=m.length
 .rw[Nat.min_eq_right hh]
 .rw[iD (by omega),dD (by omega),dD (by omega)]
theorem dj7 {α:Type}{l m:List α}{o n:Nat}(h:o+n<=l.length):(aC3 l o n m).length=l.length:=by
 rw[by2 h];simp only[cD,dB,iB];omega
theorem cA0 (hR:ec c){es q o n:Nat}{x z:Operand}{s:Sh}{l l2:List (El s)}{mc:List VV}{m:Nat}{all:List Value}(hb:ae c.S q= .arr s Zb l)(hs:SlR c q o n (s.w,l.length*s.w) (ea.ev x))(he:es=s.w)
  (h1:bi9 (ea.ev z)=Y m) (h2: ∀i,i<=m->c.σ.slice es (ea.ev z) i=Y (all.take (i*es))) (h3:all.length=m*es) (h4:F2 (VRel c) (gh s l2) all) (hm:m=l2.length) (hd:q∈d)
  (hk:k (.int .i64 (min l2.length n:Nat)) (qj c.S q (.arr s Zb (aC3 l o n l2)))=Y y):br T (.copy es x z) ea c.σ (mp c d k y):=by
 subst he;have hdim:(ae c.S q).dim=Y (s.w,l.length*s.w):=by rw[hb];rfl
 have hle:o+n<=l.length:=by
  rcases hs with⟨_,e2,e3,_,_⟩|⟨b,cp,yb,_,_,e3,_⟩
  .omega
  .exact iT e3 (sZ s)
 have h2':=h2 (min m n) (iK _ _)
 have hal:(all.take (min m n*s.w)).length=min m n*s.w:=by
  rw[dB,h3,iD];exact gB _ (iK _ _)
 have h4':=h4.take (min m n*s.w);rw[<-pq]at h4';rw[<-hm]at hk;refine cf1 hR hdim rfl (by rw[hb];rfl) hs h1 h2' hal (pn h4' (xq _ _)) hd ?_ rfl (λh0=> ?_) (λcs hcs=> ?_) hk
 .simp only[Blk.dim,dj7 hle]
 .have:l.length=0:=by
   rcases iJ l.length with h|h
   .exact h
   .have:=iN h (sZ s);simp only at h0;omega
  rw[hb,by2 hle];rw[List.length_eq_zero_iff]at this;subst this;have hn:n=0:=by simp at hle;omega
  subst hn;simp
 .rw[hb]at hcs;simp only[Blk.vals]at hcs⊢;have hcl:=hcs.length;rw[iv]at hcl;have hle2:o*s.w+min m n*s.w<=l.length*s.w:=by rw[<-eD];exact gB _ (by omega)
  rw[cu0 (by rw[hal];omega),by2 hle,aj8,aj8,pq,ao7,hal,<-hm,eD];exact(hcs.take _).append (h4'.append (hcs.drop _))
theorem dA6 (hR:ec c)(he:az c e ea){es:Nat}{x z:Operand}(hd: ∀q,ao0 (ev e x)=Y q->q∈d)(h:dk6 c.S es (ev e x) (ev e z) k=Y y):br T (.copy es x z) ea c.σ (mp c d k y):=by
 have hx:=bt he x;have hz:=bt he z;unfold dk6 at h
 have go: ∀(q o n:Nat) (dm:Nat×Nat),(ae c.S q).dim=Y dm->q∈d->SlR c q o n dm (ea.ev x)->
   (match ae c.S q,bA1 c.S es (ev e z)with
   | .arr s Zb l,Y (.lst s' l')=>(uy (.list s') (.list s) l').bind λl2=>gd (aB es s.w) (k (.int .i64 (min l2.length n:Nat)) (qj c.S q (.arr s Zb (aC3 l o n l2))))
   | .arr s Zb l,Y (.cells cs)=>(bS6 .u64 cs).bind λm=>(uy (.list (.int .u64)) (.list s) m).bind λl2=>gd (aB es s.w) (k (.int .i64 (min l2.length n:Nat)) (qj c.S q (.arr s Zb (aC3 l o n l2))))
   | .cells 1 Zb l,Y (.lst (.int kd) m)=>gd (aB es 1&&iA (o+n) l.length) (match bt9 kd m 0 ((l.drop o).take n)with
    |some c'=>k (.int .i64 (min m.length n:Nat)) (qj c.S q (.cells 1 Zb (l.take o++c'++l.drop (o+n))))
    |none=>Z)
   |_,_=>Z)=Y y->br T (.copy es x z) ea c.σ (mp c d k y):=by
  intro q o n dm hdim hqd hs h;split at h
  .rename_i s l s' l' hb hm;obtain⟨m,all,h1,h2,h3,h4,h5⟩:=aD1 hR hm hz;obtain⟨l2,k1,k2⟩:=ag h;obtain⟨ee,k3⟩:=ru k1;cases ee;subst k3;obtain⟨k4,k5⟩:=au k2;rw[hb]at hdim;injection hdim with hdim
   subst hdim;exact cA0 (mc:=[]) hR hb hs (aD k4) h1 h2 h3 h4 (h5 _ _ rfl).2 hqd k5
  .rename_i s l cs hb hm;obtain⟨m,all,h1,h2,h3,h4,h5⟩:=aD1 hR hm hz;obtain⟨ml,k0,k1⟩:=ag h;obtain⟨l2,k1,k2⟩:=ag k1;obtain⟨ee,k3⟩:=ru k1;cases ee;subst k3;obtain⟨k4,k5⟩:=au k2;rw[hb]at hdim;injection hdim with hdim
   subst hdim;have hcs:=bz6 k0;simp only[More.cellsOf]at h4;rw[hcs,<-cC3]at h4;have he1:=aD k4
   have hml:m=l2.length:=by
    have:=h4.length;rw[iv,h3,he1]at this;exact(fD (sZ _) this).symm
   exact cA0 (mc:=[]) hR hb hs he1 h1 h2 h3 h4 hml hqd k5
  .rename_i l kd ml hb hm;obtain⟨m,all,h1,h2,h3,h4,h5⟩:=aD1 hR hm hz;obtain⟨k1,k2⟩:=au h;rw[bB]at k1;have he1:=aD k1.1;have hle:=fB k1.2;subst he1;split at k2
   .rename_i c' hov;have hml:=(h5 _ _ rfl).2;rw[hb]at hdim;injection hdim with hdim
    subst hdim;have h2':=h2 (min m n) (iK _ _);have hal:(all.take (min m n*1)).length=min m n*1:=by rw[dB,h3,iD];omega
    simp only[More.cellsOf]at h4;have h4':F2 (VRel c) (gh (.int kd) (ml.take (min m n))) (all.take (min m n*1)):=by rw[pq];exact h4.take (min m n*1)
    have hc':=ch7 hov;have hlen:((l.drop o).take n).length=n:=by rw[dB,iB];omega
    rw[<-hml]at k2;refine cf1 hR (by rw[hb];rfl) rfl (by rw[hb];rfl) hs h1 h2' hal (pn h4' (xq _ _)) hqd ?_ rfl (λh0=> ?_) (λcs hcs=> ?_) k2
    .simp only[Blk.dim,cD,dB,iB,hc']
     congr 2
     omega
    .simp only at h0;have:l=[]:=List.length_eq_zero_iff.1 h0;subst this;rw[hb];simp at hle;have hn:n=0:=by omega
     subst hn;simp[bt9]at hov;subst hov;simp
    .rw[hb]at hcs;simp only[Blk.vals]at hcs⊢;have hcl:=hcs.length;rw[cu0 (by rw[hal];omega),iG,iM];refine(hcs.take _).append ?_;have h6:=bA2 (ml:=ml.take (min m n)) hov ((hcs.drop o).take n) (by rw[<-cC3];exact h4') (by rw[hlen,iE,hml,Nat.min_comm,<-iI,dD (l:=ml) (bD _)])
     have h7:cs.drop (o+(all.take (min m n*1)).length)=((cs.drop o).take n).drop (all.take (min m n*1)).length++cs.drop (o+n):=by
      rw[hal,iM,List.drop_take,List.drop_drop]
      conv=>lhs;rw[<-List.take_append_drop (n-min m n) (cs.drop (o+min m n))]
      rw[List.drop_drop]
      congr 2
      omega
     rw[h7,<-iG];exact h6.append (hcs.drop _)
   .cases k2
  .cases h
 generalize ev e x=xv at*;cases xv<;>try(cases h;done)
 case full q=>
  simp only at h;cases hx with
  |full hk _ hdd=>
   split at h
   .rename_i n hn;cases hb:ae c.S q with
    |dead=>simp only[lenOf,hb]at hn;cases hn
    |arr s z' l=>
     simp only[lenOf,hb]at hn;injection hn with hn
     have hdim:(ae c.S q).dim=Y (s.w,l.length*s.w):=by rw[hb];rfl
     obtain⟨n',h1,h2⟩:=hdd _ hdim;have:n'=n:=by rw[<-hn];exact fD (sZ s) h1
     subst this;exact go q 0 n' _ hdim (hd q rfl) h2 h
    |cells es' z' l=>
     simp only[lenOf,hb]at hn;injection hn with hn
     have hdim:(ae c.S q).dim=Y (es',l.length):=by rw[hb];rfl
     obtain⟨n',h1,h2⟩:=hdd _ hdim;have h3:=(hR.blk q _ hdim).1
     have:n'=n:=by
      simp only at h1 h3;rw[<-hn,<-h1,iL _ h3]
     subst this;exact go q 0 n' _ hdim (hd q rfl) h2 h
   .cases h
 case part q o n=>
  simp only at h;cases hx with
  |part hk _ hdd=>
   cases hdm:(ae c.S q).dim with
   |none=>
    have:ae c.S q= .dead:=by
     generalize ae c.S q=blk at hdm;cases blk<;>first|rfl|(cases hdm;done)
    rw[this]at h;cases h
   |some dm=>exact go q o n dm hdm (hd q rfl) (hdd dm hdm) h
end
end
section
section
variable {β:Type} {T:Ab.gr} {c:Ctx} {e:cz} {ea:cb} {d:List Nat} {k:VV->ai->Option β} {y:β}
theorem VRel.it_inv {q:Nat}{l:Zd}{a:Value}(h:VRel c (.it q l) a): ∃s,lh s=l/\∀d,(ae c.S q).dim=Y d->∃b,c.μ q=Y b/\a= .iface b (.string s):=by
 cases h with
 |it _ _ hs hd=>exact⟨_,hs,hd⟩
end
end
section
open Bool renaming and_eq_true -> cB
open List renaming append_assoc -> aD, singleton_append -> bD, mem_cons_of_mem -> cD, getElem?_eq_none -> dD, length_take -> eD, take_of_length_le -> fB
open Nat renaming beq -> aB, eq_of_beq_eq_true -> bB, lt_or_ge -> dB
structure Still (c ct:Ctx):Prop where
 σ:ct.σ=c.σ
 nm: ∀b y,c.σ.m b=Y y->¬c.mut b->¬ct.mut b
section
variable {c ct:Ctx}
theorem wA (h:Still c ct): ∀(s:Sh) (x:El s) (as:List Value),F2 (VRel c) (db s x) as->F2 (VRel ct) (db s x) as
 | .int k,n,as,hf=>by
  cases hf with
  |cons h1 h2=>cases h2;cases h1;exact .cons (.int _ _) .nil
 | .bool,b,as,hf=>by
  cases hf with
  |cons h1 h2=>cases h2;cases h1;exact .cons (.bool _) .nil
 | .str,l,as,hf=>by
  cases hf with
  |cons h1 h2=>cases h2;cases h1;exact .cons (.str (by assumption)) .nil
 | .list s,l,as,hf=>by
  cases hf with
  |cons h1 h2=>
   cases h2;refine .cons ?_ .nil;cases h1 with
   |lstn hq=>exact .lstn hq
   |lst hn hy he h3 h4 h5 h6=>
    refine .lst (h.nm _ _ hy hn) (by rw[h.σ];exact hy) he h3 h4 h5 ?_;clear hy he h4 h5 hn;subst h3;revert h6;rename_i b p cp y;generalize (y.cells.drop _).take _=as;clear y cp p b;intro h6;induction l generalizing as with
    |nil=>cases h6;exact .nil
    |cons x l ih=>
     rw[il]at h6⊢;obtain⟨m1,m2,rfl,h7,h8⟩:=F2.app_left h6;exact(wA h s x m1 h7).append (ih _ h8)
 | .pair a b,x,as,hf=>by
  simp only[db]at hf⊢;obtain⟨m1,m2,rfl,h7,h8⟩:=F2.app_left hf;exact(wA h a x.1 m1 h7).append (wA h b x.2 m2 h8)
theorem bE0 (h:Still c ct){s:Sh}{l:List (El s)}: ∀{as:List Value},F2 (VRel c) (gh s l) as->F2 (VRel ct) (gh s l) as:=by
 induction l with
 |nil=>intro as h6;cases h6;exact .nil
 |cons x l ih=>
  intro as h6;rw[il]at h6⊢;obtain⟨m1,m2,rfl,h7,h8⟩:=F2.app_left h6;exact(wA h s x m1 h7).append (ih h8)
theorem am8.still (h:Still c ct){s:Sh}{l:List (El s)}{a:Value}(hl:am8 c s l a):am8 ct s l a:=by
 rcases hl with h1|⟨b,p,cp,y,h1,h2,h3,h4,h5,h6⟩
 .exact .inl h1
 .exact .inr ⟨b,p,cp,y,h1,by rw[h.σ];exact h2,h3,h4,h5,bE0 h h6⟩
structure Sub (st st':DSt):Prop where
 m: ∃t,st'.m=st.m++t
 lent: ∀k∈st.lent,k∈st'.lent
theorem Sub.refl (st:DSt):Sub st st:=⟨⟨[],by simp⟩,λ_ h=>h⟩
theorem Sub.trans {a b d:DSt}(h:Sub a b)(k:Sub b d):Sub a d:=by
 obtain⟨t,h1⟩:=h.m;obtain⟨u,h2⟩:=k.m;exact⟨⟨t++u,by rw[h2,h1,aD]⟩,λi hi=>k.lent i (h.lent i hi)⟩
def aW7 (N:Nat)(m:List (Option Src))(j:Nat)(x:Option Src):Prop:=(j<N/\x=Y ⟨j,Z⟩)∨(N<=j/\nth m (j-N)=Y x)
theorem bt6 {α:Type}{l t:List α}{i:Nat}{x:α}(h:nth l i=Y x):nth (l++t) i=Y x:=by
 rw[af1]at h⊢
 have hi:i<l.length:=by
  rcases dB i l.length with h1|h1
  .exact h1
  .rw[dD h1]at h;cases h
 rw[List.getElem?_append_left hi];exact h
theorem aW7.sub {N:Nat}{st st':DSt}(hs:Sub st st'){j:Nat}{x:Option Src}(h:aW7 N st.m j x):aW7 N st'.m j x:=by
 rcases h with h|⟨h1,h2⟩
 .exact .inl h
 .obtain⟨t,h3⟩:=hs.m;exact .inr ⟨h1,by rw[h3];exact bt6 h2⟩
theorem au4 {N:Nat}{st st':DSt}{j:Nat}{x:Option Src}(h:st.link N j x=Y st'):aW7 N st'.m j x/\st'.ls=st.ls/\st'.lent=st.lent/\Sub st st':=by
 unfold DSt.link at h;cases hb:Nat.blt j N with
 |true=>
  rw[hb,zC]at h;split at h
  .rename_i k;cases hk:aB k j with
   |false=>rw[hk]at h;cases h
   |true=>
    rw[hk]at h;injection h with h
    subst h;have:=bB hk;subst this;exact⟨.inl ⟨Nat.le_of_ble_eq_true hb,rfl⟩,rfl,rfl,Sub.refl _⟩
  .cases h
 |false=>
  rw[hb,zD]at h
  have hN:N<=j:=by
   rcases dB j N with h1|h1
   .rw[show Nat.blt j N=Za from Nat.ble_eq_true_of_le h1]at hb;cases hb
   .exact h1
  split at h
  .rename_i k hn;split at h
   .rename_i k';cases hk:aB k k' with
    |false=>rw[hk]at h;cases h
    |true=>
     rw[hk]at h;injection h with h
     subst h;have:=bB hk;subst this;exact⟨.inr ⟨hN,hn⟩,rfl,rfl,Sub.refl _⟩
   .cases h
  .cases h
  .rename_i hn;cases hk:aB (j-N) st.m.length with
   |false=>rw[hk]at h;cases h
   |true=>
    rw[hk]at h;injection h with h
    subst h;have:=bB hk;refine⟨.inr ⟨hN, ?_⟩,rfl,rfl,⟨⟨[x],rfl⟩,λ_ h=>h⟩⟩;rw[af1,this];simp
def Lk (c ct:Ctx)(x:Option Src)(k':Nat):Prop:=k'<ct.S.length/\∀d',(ae ct.S k').dim=Y d'->match x with
 |none=>d'.2=0/\ct.μ k'=Z
 |some ⟨k,cut⟩=> ∃d,(ae c.S k).dim=Y d/\d'.1=d.1/\ct.μ k'=c.μ k/\(match cut with
  |none=>d'.2=d.2
  |some n=>d'.2=min (n*d.1) d.2)
structure Tell (c ct:Ctx)(N:Nat)(f:Nat->Nat)(stf:DSt):Prop extends Still c ct where
 lk: ∀j x,aW7 N stf.m j x->Lk c ct x (f j)
 lent: ∀k,k∈stf.lent->(ae c.S k).dim≠Z->∀b,c.μ k=Y b->¬ct.mut b
theorem SlR.tell {k k' n:Nat}{d:Nat×Nat}{d2':Nat}{a:Value}(hσ:ct.σ=c.σ)(hμ:ct.μ k'=c.μ k)(h2:d2'=n*d.1)(h:SlR c k 0 n d a):SlR ct k' 0 n (d.1,d2') a:=by
 rcases h with⟨h1,_,h3,h4,h5⟩|⟨b,cp,y,h1,h3,h4,h5,h6,h7⟩
 .exact .inl ⟨h1,rfl,h3,hμ.trans h4,by rw[h2,h3];simp⟩
 .exact .inr ⟨b,cp,y,h1,hμ.trans h3,by rw[h2,Nat.zero_add];exact Nat.le_refl _,h5,by rw[hσ];exact h6,h7⟩
theorem db7 {N:Nat}{f:Nat->Nat}{stf:DSt}(hR:ec c)(hT:Tell c ct N f stf){s:Sh}{v:VV}{l:List (El s)}{a:Value}(h:cV2 c.S s v=Y l)(hv:VRel c v a)(hl: ∀k,bz4 v=Y k->k∈stf.lent):VRel ct (.lst s l) a:=by
 obtain⟨h1,h2⟩:=do4 hR h hv;refine(h1.still hT.toStill).rel λb p n cp e hc=> ?_
 rcases h2 b p n cp e hc with h3|⟨k,h3,h4,h5⟩
 .rcases h1 with⟨q,e1,_⟩|⟨b',p',cp',y,e1,e2,_⟩
  .rw[e1]at e;injection e with _ _ e
   exact(hc e.symm).elim
  .rw[e1]at e;injection e with e _ _
   injection e with e
   injection e with e
   subst e;exact hT.nm _ _ e2 h3
 .exact hT.lent k (hl k h3) h4 b h5
theorem cg6 {st:DSt}{v:VV}:(∀k,bz4 v=Y k->k∈(st.lend v).lent)/\(st.lend v).m=st.m/\(st.lend v).ls=st.ls/\(∀k∈st.lent,k∈(st.lend v).lent):=by
 cases v<;>refine⟨λk h=> ?_,rfl,rfl,λk h=> ?_⟩<;>first|(cases h;done)|(injection h with h;subst h;exact List.mem_cons_self)|exact cD _ h|exact h
mutual
theorem dA7 {S:ai}{N:Nat}: ∀(sk:Sk) (v:VV) (st st1:DSt),dec S N sk v st=Y st1->Sub st st1
 | .undef,v,st,st1,h=>by
  simp only[dec]at h;injection h with h;subst h;exact Sub.refl _
 | .leaf s,v,st,st1,h=>by
  simp only[dec]at h;split at h
  .rename_i k k' n;cases hk:Zc (k'=k)with
   |false=>rw[hk]at h;cases h
   |true=>rw[hk]at h;injection h with h;subst h;exact⟨⟨[],by simp[DSt.push]⟩,λ_ h=>h⟩
  .injection h with h;subst h;exact⟨⟨[],by simp[DSt.push]⟩,λ_ h=>h⟩
  .injection h with h;subst h;exact⟨⟨[],by simp[DSt.push]⟩,λ_ h=>h⟩
  .rename_i s;obtain⟨l,h1,h2⟩:=ag h;injection h2 with h2;subst h2
   obtain⟨_,h4,_,h6⟩:= @cg6 st v;exact⟨⟨[],by simp[DSt.push,h4]⟩,h6⟩
  .cases h
 | .cint k n,v,st,st1,h=>by
  cases v<;>simp only[dec]at h<;>try(cases h;done)
  rename_i k' n';cases hk:(Zc (k'=k)&&Zc (n'=n))with
  |false=>rw[hk]at h;cases h
  |true=>rw[hk]at h;injection h with h;subst h;exact Sub.refl _
 | .nilp,v,st,st1,h=>by
  cases v<;>simp only[dec]at h<;>try(cases h;done)
  injection h with h;subst h;exact Sub.refl _
 | .nils,v,st,st1,h=>by
  cases v<;>simp only[dec]at h<;>try(cases h;done)
  injection h with h;subst h;exact Sub.refl _
 | .nilf,v,st,st1,h=>by
  cases v<;>simp only[dec]at h<;>try(cases h;done)
  injection h with h;subst h;exact Sub.refl _
 | .ptr j o,v,st,st1,h=>by
  cases v<;>simp only[dec]at h<;>try(cases h;done)
  rename_i k o';cases hk:aB o o' with
  |false=>rw[hk]at h;cases h
  |true=>rw[hk,zC]at h;exact(au4 h).2.2.2
 | .full j,v,st,st1,h=>by
  simp only[dec]at h;split at h
  .exact(au4 h).2.2.2
  .exact(au4 h).2.2.2
  .exact(au4 h).2.2.2
  .cases h
 | .pin s o,v,st,st1,h=>by
  cases v<;>simp only[dec]at h<;>try(cases h;done)
  rename_i s' x o';cases hk:aB o o' with
  |false=>rw[hk]at h;cases h
  |true=>
   rw[hk]at h;obtain⟨y,h1,h2⟩:=ag h;injection h2 with h2;subst h2;exact⟨⟨[],by simp[DSt.push]⟩,λ_ h=>h⟩
 | .fn g a b,v,st,st1,h=>by
  cases v<;>simp only[dec]at h<;>try(cases h;done)
  rename_i g' a' b';cases hk:aB g g' with
  |false=>rw[hk]at h;cases h
  |true=>
   rw[hk]at h;obtain⟨st2,h1,h2⟩:=ag h;exact(yw a a' st st2 h1).trans (yw b b' st2 st1 h2)
 | .agg l,v,st,st1,h=>by
  cases v<;>simp only[dec]at h<;>try(cases h;done)
  exact yw l _ st st1 h
 | .tup l,v,st,st1,h=>by
  cases v<;>simp only[dec]at h<;>try(cases h;done)
  exact yw l _ st st1 h
theorem yw {S:ai}{N:Nat}: ∀(l:List Sk) (vs:List VV) (st st1:DSt),bm6 S N l vs st=Y st1->Sub st st1
 |[],vs,st,st1,h=>by
  cases vs<;>simp only[bm6]at h<;>try(cases h;done)
  injection h with h;subst h;exact Sub.refl _
 |k::r,vs,st,st1,h=>by
  cases vs with
  |nil=>simp only[bm6]at h;cases h
  |cons v vs=>
   simp only[bm6]at h;obtain⟨st2,h1,h2⟩:=ag h;exact(dA7 k v st st2 h1).trans (yw r vs st2 st1 h2)
end
theorem dc6 {N:Nat}{f:Nat->Nat}{stf:DSt}(hT:Tell c ct N f stf){j k:Nat}{a:Value}(hl:aW7 N stf.m j (Y ⟨k,Z⟩))(hv:VRel c (.full k) a):VRel ct (.full (f j)) a:=by
 obtain⟨h1,h2⟩:=hT.lk _ _ hl;cases hv with
 |full hk ho hd=>
  refine .full h1 ho λd' hd'=> ?_
  obtain⟨d,h3,h4,h5,h6⟩:=h2 d' hd';obtain⟨n,h7,h8⟩:=hd d h3;simp only at h6;refine⟨n,by rw[h4,h6];exact h7, ?_⟩;have:=h8.tell hT.σ h5 (d2':=d'.2) (by rw[h6,h7]);rw[<-h4]at this;exact this
theorem dl8 {N:Nat}{f:Nat->Nat}{stf:DSt}(hT:Tell c ct N f stf){j k n:Nat}{a:Value}(hl:aW7 N stf.m j (Y ⟨k,Y n⟩))(hv:VRel c (.part k 0 n) a):VRel ct (.full (f j)) a:=by
 obtain⟨h1,h2⟩:=hT.lk _ _ hl;cases hv with
 |part hk ho hd=>
  refine .full h1 ho λd' hd'=> ?_
  obtain⟨d,h3,h4,h5,h6⟩:=h2 d' hd';simp only at h6
  have h7:n*d.1<=d.2:=by
   rcases hd d h3 with⟨_,_,e,_,_⟩|⟨_,_,_,_,_,e,_⟩
   .rw[e];simp
   .rwa [Nat.zero_add]at e
  rw[Nat.min_eq_left h7]at h6;refine⟨n,by rw[h4,h6], ?_⟩;have:=(hd d h3).tell hT.σ h5 (d2':=d'.2) h6;rw[<-h4]at this;exact this
theorem dq0 {N:Nat}{f:Nat->Nat}{stf:DSt}(hT:Tell c ct N f stf){j:Nat}(hl:aW7 N stf.m j Z):VRel ct (.full (f j)) (.slice Z 0 0):=by
 obtain⟨h1,h2⟩:=hT.lk _ _ hl;refine .full h1 rfl λd' hd'=> ?_
 obtain⟨h3,h4⟩:=h2 d' hd';exact⟨0,by rw[h3];simp, .inl ⟨rfl,rfl,rfl,h4,h3⟩⟩
mutual
theorem dA8 {N:Nat}{f:Nat->Nat}{stf:DSt}(hR:ec c)(hT:Tell c ct N f stf): ∀(sk:Sk) (v:VV) (st st1:DSt) (a:Value),dec c.S N sk v st=Y st1->Sub st1 stf->VRel c v a->
  ∃new,st1.ls=st.ls++new/\∀rest,∃v',enc f sk (new++rest)=Y (v',rest)/\VRel ct v' a
 | .undef,v,st,st1,a,h,hs,hv=>by
  simp only[dec]at h;injection h with h;subst h
  exact⟨[],by simp,λrest=>⟨.undef,by simp[enc], .undef _⟩⟩
 | .leaf s,v,st,st1,a,h,hs,hv=>by
  simp only[dec]at h;split at h
  .rename_i k k' n;cases hk:Zc (k'=k)with
   |false=>rw[hk]at h;cases h
   |true=>
    rw[hk]at h;injection h with h;subst h
    have:=of_decide_eq_true hk;subst this;refine⟨[⟨.int k',n⟩],rfl,λrest=>⟨.int k' n, ?_, ?_⟩⟩
    .simp only[bD,enc,te,zG]
    .rw[hv.int_inv];exact .int _ _
  .rename_i b;injection h with h;subst h
   refine⟨[⟨.bool,b⟩],rfl,λrest=>⟨.bool b, ?_, ?_⟩⟩
   .simp only[bD,enc,te,zG]
   .rw[hv.bool_inv];exact .bool _
  .rename_i l;injection h with h;subst h
   refine⟨[⟨.str,l⟩],rfl,λrest=>⟨.str l, ?_, ?_⟩⟩
   .simp only[bD,enc,te,zG]
   .obtain⟨s,h1,h2⟩:=hv.str_inv;rw[h1];exact .str h2
  .rename_i s;obtain⟨l,h1,h2⟩:=ag h;injection h2 with h2;subst h2
   obtain⟨h3,h4,h5,h6⟩:= @cg6 st v;refine⟨[⟨.list s,l⟩],by simp[DSt.push,h5],λrest=>⟨.lst s l, ?_, ?_⟩⟩
   .simp only[bD,enc,te,zG]
   .exact db7 hR hT h1 hv λk hk=>hs.lent k (h3 k hk)
  .cases h
 | .cint k n,v,st,st1,a,h,hs,hv=>by
  cases v<;>simp only[dec]at h<;>try(cases h;done)
  rename_i k' n';cases hk:(Zc (k'=k)&&Zc (n'=n))with
  |false=>rw[hk]at h;cases h
  |true=>
   rw[hk]at h;injection h with h;subst h
   rw[cB]at hk;have e1:=of_decide_eq_true hk.1;have e2:=of_decide_eq_true hk.2;subst e1;subst e2;refine⟨[],by simp,λrest=>⟨.int k' n',by simp[enc], ?_⟩⟩;rw[hv.int_inv];exact .int _ _
 | .nilp,v,st,st1,a,h,hs,hv=>by
  cases v<;>simp only[dec]at h<;>try(cases h;done)
  injection h with h;subst h
  cases hv;exact⟨[],by simp,λrest=>⟨.nilp,by simp[enc], .nilp⟩⟩
 | .nils,v,st,st1,a,h,hs,hv=>by
  cases v<;>simp only[dec]at h<;>try(cases h;done)
  injection h with h;subst h
  cases hv;exact⟨[],by simp,λrest=>⟨.nils,by simp[enc], .nils⟩⟩
 | .nilf,v,st,st1,a,h,hs,hv=>by
  cases v<;>simp only[dec]at h<;>try(cases h;done)
  injection h with h;subst h
  cases hv;exact⟨[],by simp,λrest=>⟨.nilf,by simp[enc], .nilf⟩⟩
 | .ptr j o,v,st,st1,a,h,hs,hv=>by
  cases v<;>simp only[dec]at h<;>try(cases h;done)
  rename_i k o';cases hk:aB o o' with
  |false=>rw[hk]at h;cases h
  |true=>
   rw[hk,zC]at h;have:=bB hk;subst this;obtain⟨h1,h2,h3,h4⟩:=au4 h;obtain⟨h5,h6⟩:=hT.lk _ _ (h1.sub hs);refine⟨[],by simp[h2],λrest=>⟨.ptr (f j) o,by simp[enc], ?_⟩⟩;cases hv with
   |ptr hk ho hd=>
    refine .ptr h5 ho λd' hd'=> ?_
    obtain⟨d,h7,_,h8,_⟩:=h6 d' hd';obtain⟨b,h9,h10⟩:=hd d h7;exact⟨b,h8.trans h9,h10⟩
 | .full j,v,st,st1,a,h,hs,hv=>by
  simp only[dec]at h;split at h
  .obtain⟨h1,h2,h3,h4⟩:=au4 h;exact⟨[],by simp[h2],λrest=>⟨.full (f j),by simp[enc],dc6 hT (h1.sub hs) hv⟩⟩
  .obtain⟨h1,h2,h3,h4⟩:=au4 h;exact⟨[],by simp[h2],λrest=>⟨.full (f j),by simp[enc],dl8 hT (h1.sub hs) hv⟩⟩
  .obtain⟨h1,h2,h3,h4⟩:=au4 h;cases hv;exact⟨[],by simp[h2],λrest=>⟨.full (f j),by simp[enc],dq0 hT (h1.sub hs)⟩⟩
  .cases h
 | .pin s o,v,st,st1,a,h,hs,hv=>by
  cases v<;>simp only[dec]at h<;>try(cases h;done)
  rename_i s' x o';cases hk:aB o o' with
  |false=>rw[hk]at h;cases h
  |true=>
   rw[hk,zC]at h;have:=bB hk;subst this;obtain⟨y,h1,h2⟩:=ag h;obtain⟨ee,h3⟩:=ru h1;cases ee;subst h3;injection h2 with h2;subst h2
   refine⟨[⟨s,y⟩],rfl,λrest=>⟨.pin s y o, ?_, ?_⟩⟩
   .simp only[bD,enc,te,zG]
   .cases hv with
    |pin hn hy hl hf=>exact .pin (hT.nm _ _ hy hn) (by rw[hT.σ];exact hy) hl (wA hT.toStill _ _ _ hf)
 | .fn g p q,v,st,st1,a,h,hs,hv=>by
  cases v<;>simp only[dec]at h<;>try(cases h;done)
  rename_i g' p' q';cases hk:aB g g' with
  |false=>rw[hk]at h;cases h
  |true=>
   rw[hk,zC]at h;have:=bB hk;subst this;obtain⟨st2,h1,h2⟩:=ag h;cases hv with
   |fn f1 f2=>
    obtain⟨new1,e1,e2⟩:=ac3 hR hT p p' st st2 _ h1 ((yw q q' st2 st1 h2).trans hs) f1;obtain⟨new2,e3,e4⟩:=ac3 hR hT q q' st2 st1 _ h2 hs f2;refine⟨new1++new2,by rw[e3,e1,aD],λrest=> ?_⟩;obtain⟨v1,e5,e6⟩:=e2 (new2++rest);obtain⟨v2,e7,e8⟩:=e4 rest;exact⟨.fn g v1 v2,by simp only[enc,aD,e5,zG,e7], .fn e6 e8⟩
 | .agg l,v,st,st1,a,h,hs,hv=>by
  cases v<;>simp only[dec]at h<;>try(cases h;done)
  cases hv with
  |agg f1=>
   obtain⟨new1,e1,e2⟩:=ac3 hR hT l _ st st1 _ h hs f1;refine⟨new1,e1,λrest=> ?_⟩;obtain⟨v1,e5,e6⟩:=e2 rest;exact⟨.agg v1,by simp only[enc,e5,zG], .agg e6⟩
 | .tup l,v,st,st1,a,h,hs,hv=>by
  cases v<;>simp only[dec]at h<;>try(cases h;done)
  cases hv with
  |tup f1=>
   obtain⟨new1,e1,e2⟩:=ac3 hR hT l _ st st1 _ h hs f1;refine⟨new1,e1,λrest=> ?_⟩;obtain⟨v1,e5,e6⟩:=e2 rest;exact⟨.tup v1,by simp only[enc,e5,zG], .tup e6⟩
theorem ac3 {N:Nat}{f:Nat->Nat}{stf:DSt}(hR:ec c)(hT:Tell c ct N f stf): ∀(l:List Sk) (vs:List VV) (st st1:DSt) (as:List Value),bm6 c.S N l vs st=Y st1->Sub st1 stf->F2 (VRel c) vs as->
  ∃new,st1.ls=st.ls++new/\∀rest,∃vs',cc7 f l (new++rest)=Y (vs',rest)/\F2 (VRel ct) vs' as
 |[],vs,st,st1,as,h,hs,hf=>by
  cases vs<;>simp only[bm6]at h<;>try(cases h;done)
  injection h with h;subst h
  cases hf;exact⟨[],by simp,λrest=>⟨[],by simp[cc7], .nil⟩⟩
 |k::r,vs,st,st1,as,h,hs,hf=>by
  cases hf with
  |nil=>simp only[bm6]at h;cases h
  |cons f1 f2=>
   simp only[bm6]at h;obtain⟨st2,h1,h2⟩:=ag h;obtain⟨new1,e1,e2⟩:=dA8 hR hT k _ st st2 _ h1 ((yw r _ st2 st1 h2).trans hs) f1;obtain⟨new2,e3,e4⟩:=ac3 hR hT r _ st2 st1 _ h2 hs f2;refine⟨new1++new2,by rw[e3,e1,aD],λrest=> ?_⟩;obtain⟨v1,e5,e6⟩:=e2 (new2++rest);obtain⟨v2,e7,e8⟩:=e4 rest;exact⟨v1::v2,by simp only[cc7,aD,e5,zG,e7], .cons e6 e8⟩
end
def zO (c ct:Ctx)(o:OSk)(x:Option Src)(blk:Blk):Prop:=
 (o= .dead/\blk= .dead)∨(blk.frozen=o.ro/\match x with
  |none=>o.ro=Zb/\∃s,blk= .arr s Zb []
  |some ⟨k,cut⟩=>(o.ro=Zb->(ae c.S k).frozen=Zb)/\∃d,(ae c.S k).dim=Y d/\(match cut with
   |none=>blk.dim=Y d
   |some n=>blk.dim=Y (d.1,min (n*d.1) d.2))/\∀cs,F2 (VRel c) (ae c.S k).vals cs->F2 (VRel ct) blk.vals (cs.take blk.vals.length))
theorem br9 {S:ai}{N:Nat}{o:OSk}{x:Option Src}{st st1:DSt}(h:cM1 S N o x st=Y st1):Sub st st1:=by
 unfold cM1 at h;split at h
 .injection h with h;subst h;exact Sub.refl _
 .split at h
  .rename_i es ro l k _ es' fz cs hb;cases hk:(aB es es'&&(ro|| !fz))with
   |false=>rw[hk]at h;cases h
   |true=>
    rw[hk,zC]at h;have h1:=yw _ _ _ _ h;cases ro with
    |false=>exact h1
    |true=>exact Sub.trans ⟨⟨[],by simp⟩,λ_ h=>cD _ h⟩ h1
  .cases h
 .rename_i ro s;cases ro with
  |true=>cases h
  |false=>injection h with h;subst h;exact⟨⟨[],by simp[DSt.push]⟩,λ_ h=>h⟩
 .rename_i ro s k cut;cases hk:(ro|| !(ae S k).frozen)with
  |false=>rw[hk]at h;cases h
  |true=>
   rw[hk,zC]at h;obtain⟨l,h1,h2⟩:=ag h;injection h2 with h2;subst h2
   cases ro with
   |false=>exact⟨⟨[],by simp[DSt.push]⟩,λ_ h=>h⟩
   |true=>exact⟨⟨[],by simp[DSt.push]⟩,λ_ h=>cD _ h⟩
 .cases h
theorem cA2 {N:Nat}{f:Nat->Nat}{stf:DSt}(hR:ec c)(hT:Tell c ct N f stf){o:OSk}{x:Option Src}{st st1:DSt}(h:cM1 c.S N o x st=Y st1)(hs:Sub st1 stf):
  ∃new,st1.ls=st.ls++new/\∀rest,∃blk,cc8 f o (new++rest)=Y (blk,rest)/\zO c ct o x blk:=by
 unfold cM1 at h;split at h
 .injection h with h;subst h
  exact⟨[],by simp,λrest=>⟨.dead,by simp[cc8], .inl ⟨rfl,rfl⟩⟩⟩
 .split at h
  .rename_i es ro l k _ es' fz cs hb;cases hk:(aB es es'&&(ro|| !fz))with
   |false=>rw[hk]at h;cases h
   |true=>
    rw[hk,zC]at h;rw[cB]at hk;have he:=bB hk.1;subst he;have hdim:(ae c.S k).dim=Y (es,cs.length):=by rw[hb];rfl
    obtain⟨h0,hblk⟩:=hR.blk k _ hdim
    have hf: ∃as,F2 (VRel c) cs as:=by
     rcases hblk with⟨e1,e2⟩|⟨b,y,as,rest,_,_,_,_,_,e3⟩
     .have:cs=[]:=List.length_eq_zero_iff.1 e1;subst this;exact⟨[], .nil⟩
     .rw[hb]at e3;exact⟨as,e3⟩
    obtain⟨as,hf⟩:=hf;obtain⟨new,e1,e2⟩:=ac3 hR hT l cs _ st1 as h hs hf;refine⟨new, ?_,λrest=> ?_⟩
    .rw[e1];cases ro<;>rfl
    .obtain⟨vs,e3,e4⟩:=e2 rest;refine⟨.cells es ro vs,by simp only[cc8,e3,zG], .inr ⟨rfl,λhro=> ?_,(es,cs.length),hdim, ?_,λcs' hcs'=> ?_⟩⟩
     .simp only[OSk.ro]at hro;subst hro;rw[hb];have:=hk.2;simp only[Bool.false_or,Bool.not_eq_true']at this;exact this
     .simp only[Blk.dim];rw[e4.length,hf.length]
     .rw[hb]at hcs';obtain⟨new',e1',e2'⟩:=ac3 hR hT l cs _ st1 cs' h hs hcs'
      have:new'=new:=by
       rw[e1]at e1';exact(List.append_cancel_left e1').symm
      subst this;obtain⟨vs',e3',e4'⟩:=e2' rest;rw[e3]at e3';injection e3' with e3'
      injection e3' with e3' _
      subst e3';rw[fB (by rw[<-e4'.length];exact Nat.le_refl _)];exact e4'
  .cases h
 .rename_i ro s;cases ro with
  |true=>cases h
  |false=>
   injection h with h;subst h
   refine⟨[⟨.list s,[]⟩],rfl,λrest=>⟨.arr s Zb [], ?_, .inr ⟨rfl,rfl,s,rfl⟩⟩⟩;simp only[bD,cc8,te,zG]
 .rename_i ro s k cut;cases hk:(ro|| !(ae c.S k).frozen)with
  |false=>rw[hk]at h;cases h
  |true=>
   rw[hk,zC]at h;obtain⟨l,h1,h2⟩:=ag h;injection h2 with h2;subst h2
   obtain⟨d,h3,h4,h5,h6⟩:=xo (ov hR s) h1;refine⟨[⟨.list s,bR0 cut l⟩],by cases ro<;>rfl,λrest=>⟨.arr s ro (bR0 cut l), ?_, .inr ⟨rfl,λhro=> ?_,d,h3, ?_,λcs hcs=> ?_⟩⟩⟩
   .simp only[bD,cc8,te,zG]
   .simp only[OSk.ro]at hro;subst hro;simpa using hk
   .cases cut with
    |none=>
     simp only[Blk.dim,bR0];rw[<-h5,<-h4]
    |some n=>
     simp only[Blk.dim,bR0,eD];rw[h5,h4,<-Nat.mul_min_mul_right]
   .have h7:=bE0 hT.toStill (h6 cs hcs);have h8:cs.length=l.length*s.w:=by rw[<-h7.length,iv]
    cases cut with
    |none=>
     simp only[Blk.vals,bR0];rw[fB (by rw[iv];omega)];exact h7
    |some n=>
     simp only[Blk.vals,bR0];have h9:((gh s (l.take n)).length)=min (n*s.w) cs.length:=by rw[pq,eD,iv,h8]
     rw[h9,pq,<-List.take_take,List.take_length];exact h7.take (n*s.w)
 .cases h
theorem bm5 {S:ai}{N:Nat}: ∀{os:List OSk} {js:List Nat} {st st1:DSt},by8 S N os js st=Y st1->Sub st st1
 |[],[],st,st1,h=>by injection h with h;subst h;exact Sub.refl _
 |[],_::_,st,st1,h=>by cases h
 |_::_,[],st,st1,h=>by cases h
 |o::os,j::js,st,st1,h=>by
  simp only[by8]at h;obtain⟨st2,h1,h2⟩:=ag h;exact(br9 h1).trans (bm5 h2)
theorem ve {S:ai}{N:Nat}: ∀{os:List OSk} {i:Nat} {st st1:DSt},yv S N os i st=Y st1->Sub st st1
 |[],i,st,st1,h=>by
  simp only[yv]at h;cases hb:aB i st.m.length with
  |false=>rw[hb]at h;cases h
  |true=>rw[hb]at h;injection h with h;subst h;exact Sub.refl _
 |o::os,i,st,st1,h=>by
  simp only[yv]at h;split at h
  .obtain⟨st2,h1,h2⟩:=ag h;exact(br9 h1).trans (ve h2)
  .cases h
inductive at7 (c ct:Ctx):List OSk->List Nat->List Blk->Prop where
 |nil:at7 c ct [] [] []
 |cons {o:OSk} {j:Nat} {b:Blk} {os:List OSk} {js:List Nat} {bs:List Blk}:zO c ct o (Y ⟨j,Z⟩) b->at7 c ct os js bs->at7 c ct (o::os) (j::js) (b::bs)
inductive ab1 (c ct:Ctx):List OSk->List (Option Src)->List Blk->Prop where
 |nil:ab1 c ct [] [] []
 |cons {o:OSk} {x:Option Src} {b:Blk} {os:List OSk} {xs:List (Option Src)} {bs:List Blk}:zO c ct o x b->ab1 c ct os xs bs->ab1 c ct (o::os) (x::xs) (b::bs)
theorem bR1 {N:Nat}{f:Nat->Nat}{stf:DSt}(hR:ec c)(hT:Tell c ct N f stf): ∀{os:List OSk} {js:List Nat} {st st1:DSt},by8 c.S N os js st=Y st1->Sub st1 stf->
  ∃new,st1.ls=st.ls++new/\∀rest,∃bs,aO2 f os (new++rest)=Y (bs,rest)/\at7 c ct os js bs
 |[],[],st,st1,h,hs=>by injection h with h;subst h;exact⟨[],by simp,λrest=>⟨[],by simp[aO2], .nil⟩⟩
 |[],_::_,st,st1,h,hs=>by cases h
 |_::_,[],st,st1,h,hs=>by cases h
 |o::os,j::js,st,st1,h,hs=>by
  simp only[by8]at h;obtain⟨st2,h1,h2⟩:=ag h;obtain⟨new1,e1,e2⟩:=cA2 hR hT h1 ((bm5 h2).trans hs);obtain⟨new2,e3,e4⟩:=bR1 hR hT h2 hs;refine⟨new1++new2,by rw[e3,e1,aD],λrest=> ?_⟩;obtain⟨v1,e5,e6⟩:=e2 (new2++rest);obtain⟨v2,e7,e8⟩:=e4 rest;exact⟨v1::v2,by simp only[aO2,aD,e5,zG,e7], .cons e6 e8⟩
theorem bD5 {N:Nat}{f:Nat->Nat}{stf:DSt}(hR:ec c)(hT:Tell c ct N f stf): ∀{os:List OSk} {i:Nat} {st st1:DSt},yv c.S N os i st=Y st1->Sub st1 stf->
  ∃new,st1.ls=st.ls++new/\i+os.length=st1.m.length/\∀rest,∃bs,aO2 f os (new++rest)=Y (bs,rest)/\ab1 c ct os (st1.m.drop i) bs
 |[],i,st,st1,h,hs=>by
  simp only[yv]at h;cases hb:aB i st.m.length with
  |false=>rw[hb]at h;cases h
  |true=>
   rw[hb]at h;injection h with h;subst h
   have:=bB hb;subst this;exact⟨[],by simp,by simp,λrest=>⟨[],by simp[aO2],by rw[List.drop_length];exact .nil⟩⟩
 |o::os,i,st,st1,h,hs=>by
  simp only[yv]at h;split at h
  .rename_i x hx;obtain⟨st2,h1,h2⟩:=ag h;obtain⟨new1,e1,e2⟩:=cA2 hR hT h1 ((ve h2).trans hs);obtain⟨new2,e3,e3',e4⟩:=bD5 hR hT h2 hs;refine⟨new1++new2,by rw[e3,e1,aD],by rw[<-e3'];simp;omega,λrest=> ?_⟩;obtain⟨v1,e5,e6⟩:=e2 (new2++rest);obtain⟨v2,e7,e8⟩:=e4 rest;refine⟨v1::v2,by simp only[aO2,aD,e5,zG,e7], ?_⟩;obtain⟨t1,t2⟩:=(br9 h1).m;obtain⟨t3,t4⟩:=(ve h2).m
   have hx':st1.m[i]?=Y x:=by
    rw[<-af1,t4,t2];exact bt6 (bt6 hx)
   have hi:i<st1.m.length:=by
    rcases dB i st1.m.length with h|h
    .exact h
    .rw[dD h]at hx';cases hx'
   rw[List.drop_eq_getElem_cons hi];rw[List.getElem?_eq_getElem hi]at hx';injection hx' with hx'
   rw[hx'];exact .cons e6 e8
  .cases h
theorem by9 {N:Nat}{f:Nat->Nat}{fx:List Nat}{sk:SSk}{vals:List VV}{as:List Value}{st:DSt}(hR:ec c)(hT:Tell c ct N f st)(h:uc c.S N fx sk vals=Y st)(hf:F2 (VRel c) vals as):
  ∃vs fs bs,vh f sk st.ls=Y (vs,fs,bs)/\F2 (VRel ct) vs as/\at7 c ct sk.fix fx fs/\ab1 c ct sk.free st.m bs:=by
 unfold uc at h;obtain⟨st1,h1,h⟩:=ag h;obtain⟨st2,h2,h⟩:=ag h;obtain⟨st3,h3,h⟩:=ag h
 have:st3=st:=by
  cases hb:(bk1 (fx++ud st3.m)&&aL2 (fx++oc sk.free st3.m) st3.lent)with
  |false=>rw[hb]at h;cases h
  |true=>rw[hb]at h;injection h
 subst this;obtain⟨n1,e1,f1⟩:=ac3 hR hT _ _ _ _ _ h1 ((bm5 h2).trans (ve h3)) hf;obtain⟨n2,e2,f2⟩:=bR1 hR hT h2 (ve h3);obtain⟨n3,e3,e4,f3⟩:=bD5 hR hT h3 (Sub.refl _);obtain⟨vs,g1,g2⟩:=f1 (n2++n3);obtain⟨fs,g3,g4⟩:=f2 n3;obtain⟨bs,g5,g6⟩:=f3 [];refine⟨vs,fs,bs, ?_,g2,g4,by rw[List.drop_zero]at g6;exact g6⟩;have hls:st3.ls=n1++(n2++n3):=by rw[e3,e2,e1];simp
 rw[List.append_nil]at g5;simp only[vh,hls,g1,zG,g3,g5]
theorem vg {S:ai}{N:Nat}{fx:List Nat}{sk:SSk}{vals:List VV}{st:DSt}(h:uc S N fx sk vals=Y st):bk1 (fx++ud st.m)=Za/\aL2 (fx++oc sk.free st.m) st.lent=Za:=by
 unfold uc at h;obtain⟨st1,h1,h⟩:=ag h;obtain⟨st2,h2,h⟩:=ag h;obtain⟨st3,h3,h⟩:=ag h;cases hb:(bk1 (fx++ud st3.m)&&aL2 (fx++oc sk.free st3.m) st3.lent)with
 |false=>rw[hb]at h;cases h
 |true=>
  rw[hb]at h;injection h with h
  subst h
  rwa [cB]at hb
theorem bt7 : ∀{ss:List Sh} {ls:List Leaf} {t:Tup ss},ofL ss ls=Y t->toL ss t=ls
 |[],ls,t,h=>by
  cases ls with
  |nil=>rfl
  |cons=>simp[ofL]at h
 |[s],ls,t,h=>by
  cases ls with
  |nil=>simp[ofL]at h
  |cons x ls=>
   cases ls with
   |nil=>
    simp only[ofL]at h;obtain⟨ee,h1⟩:=ru h;obtain⟨s',v⟩:=x;simp only at ee;subst ee;subst h1;rfl
   |cons=>simp[ofL]at h
 |s::s'::r,ls,t,h=>by
  cases ls with
  |nil=>simp[ofL]at h
  |cons x ls=>
   simp only[ofL]at h;obtain⟨a,h1,h⟩:=ag h;obtain⟨b,h2,h⟩:=ag h;injection h with h
   subst h;obtain⟨ee,h3⟩:=ru h1;obtain⟨s0,v⟩:=x;simp only at ee;subst ee;subst h3;simp only[toL];rw[bt7 h2]
end
end
section
open List renaming getElem?_eq_getElem -> aB, all_eq_true -> bB, getElem?_eq_none -> bD, replicate -> cB, mem_cons_of_mem -> cD, mem_cons_self -> dB, mem_of_getElem? -> dD, nodup_cons -> eD
open Nat renaming lt_or_ge -> aD, le_add_right -> fB, lt_of_lt_of_le -> fD
def aD7 (c:Ctx):Option Src->Option Nat
 |none=>Z
 |some x=>c.μ x.k
theorem at7.get {c ct:Ctx}: ∀{os:List OSk} {js:List Nat} {bs:List Blk},at7 c ct os js bs->js.length=bs.length/\os.length=bs.length/\∀(i j:Nat) (b:Blk),js[i]?=Y j->bs[i]?=Y b->∃o,os[i]?=Y o/\zO c ct o (Y ⟨j,Z⟩) b
 |_,_,_, .nil=>⟨rfl,rfl,λi j b h=>by simp at h⟩
 |_,_,_, .cons h1 h2=>by
  obtain⟨e1,e2,e3⟩:=h2.get;refine⟨by simp[e1],by simp[e2],λi j b hj hb=> ?_⟩;cases i with
  |zero=>
   simp at hj hb;subst hj;subst hb;exact⟨_,rfl,h1⟩
  |succ i=>
   simp at hj hb;obtain⟨o,h3,h4⟩:=e3 i j b hj hb;exact⟨o,by simpa using h3,h4⟩
theorem ab1.get {c ct:Ctx}: ∀{os:List OSk} {xs:List (Option Src)} {bs:List Blk},ab1 c ct os xs bs->xs.length=bs.length/\os.length=bs.length/\∀(i:Nat) (x:Option Src) (b:Blk),xs[i]?=Y x->bs[i]?=Y b->∃o,os[i]?=Y o/\zO c ct o x b
 |_,_,_, .nil=>⟨rfl,rfl,λi j b h=>by simp at h⟩
 |_,_,_, .cons h1 h2=>by
  obtain⟨e1,e2,e3⟩:=h2.get;refine⟨by simp[e1],by simp[e2],λi j b hj hb=> ?_⟩;cases i with
  |zero=>
   simp at hj hb;subst hj;subst hb;exact⟨_,rfl,h1⟩
  |succ i=>
   simp at hj hb;obtain⟨o,h3,h4⟩:=e3 i j b hj hb;exact⟨o,by simpa using h3,h4⟩
theorem zO.blkRel {c ct:Ctx}(hR:ec c)(hσ:ct.σ=c.σ){o:OSk}{x:Option Src}{b:Blk}{p:Nat}(h:zO c ct o x b)(hp:ae ct.S p=b)(hμ:b.dim≠Z->ct.μ p=aD7 c x):bL0 ct p:=by
 intro d' hd';rw[hp]at hd';have hμ2:ct.μ p=aD7 c x:=hμ (by rw[hd'];simp);clear hμ;rcases h with⟨_,h⟩|⟨h1,h2⟩
 .subst h;cases hd'
 .cases x with
  |none=>
   obtain⟨_,s,h3⟩:=h2;subst h3;injection hd' with hd'
   subst hd';exact⟨sZ s, .inl ⟨by simp,by simpa[aD7]using hμ2⟩⟩
  |some x=>
   obtain⟨k,cut⟩:=x;obtain⟨h3,d,h4,h5,h6⟩:=h2;simp only[aD7]at hμ2;obtain⟨h7,h8⟩:=hR.blk k d h4
   have hd1:d'.1=d.1/\d'.2<=d.2:=by
    cases cut with
    |none=>
     simp only at h5;rw[h5]at hd';injection hd' with hd'
     subst hd';exact⟨rfl,Nat.le_refl _⟩
    |some n=>
     simp only at h5;rw[h5]at hd';injection hd' with hd'
     subst hd';exact⟨rfl,Nat.min_le_right _ _⟩
   refine⟨by rw[hd1.1];exact h7, ?_⟩;rcases h8 with⟨h9,h10⟩|⟨bb,y,cs,rest,h9,h10,h11,h12,h13,h14⟩
   .exact .inl ⟨by omega,hμ2.trans h10⟩
   .have hlen:b.vals.length=d'.2:=aK7 hd';refine .inr ⟨bb,y,cs.take b.vals.length,cs.drop b.vals.length++rest,hμ2.trans h9,by rw[hσ];exact h10,by rw[hd1.1];exact h11,λhz=> ?_,by rw[<-List.append_assoc,List.take_append_drop];exact h13, ?_⟩
    .rw[hp,h1]at hz;exact h12 (h3 hz)
    .rw[hp];exact h6 cs h14
theorem cS8 (f:Nat->Nat): ∀n,∃K,∀j,j<n->f j<K
 |0=>⟨0,λj h=>by omega⟩
 |n+1=>by
  obtain⟨K,h⟩:=cS8 f n;refine⟨max K (f n+1),λj hj=> ?_⟩;rcases aD j n with h1|h1
  .have:=h j h1;omega
  .have:j=n:=by omega
   subst this;omega
theorem bb1 {n k:Nat}:ae (cB n Blk.dead) k= .dead:=by
 induction n generalizing k with
 |zero=>rfl
 |succ n ih=>
  cases k with
  |zero=>rfl
  |succ k=>exact ih
theorem cf2 {c:Ctx}{N:Nat}{f:Nat->Nat}{fx:List Nat}{sk:SSk}{vals:List VV}{as:List Value}{st:DSt}(hR:ec c)(h:uc c.S N fx sk vals=Y st)(hf:F2 (VRel c) vals as):
  ∃ct0 vs fs bs,vh f sk st.ls=Y (vs,fs,bs)/\at7 c ct0 sk.fix fx fs/\ab1 c ct0 sk.free st.m bs:=by
 obtain⟨K,hK⟩:=cS8 f (N+st.m.length)
 have hT:Tell c ⟨λ_=>Z,cB K .dead,c.σ,λ_=>False⟩ N f st:=by
  have hno: ∀b,¬(⟨λ_=>Z,cB K .dead,c.σ,λ_=>False⟩:Ctx).mut b:=by
   rintro b (⟨k,h1,_⟩|h)
   .simp only[bb1]at h1;cases h1
   .exact h
  refine⟨⟨rfl,λb _ _ _=>hno b⟩,λj x hl=>⟨?_,λd' hd'=> ?_⟩,λk _ _ b _=>hno b⟩
  .simp only[List.length_replicate];refine hK j ?_;rcases hl with⟨h1,_⟩|⟨h1,h2⟩
   .omega
   .rw[af1]at h2;rcases aD (j-N) st.m.length with h3|h3
    .omega
    .rw[bD h3]at h2;cases h2
  .simp only[bb1]at hd';cases hd'
 obtain⟨vs,fs,bs,h1,_,h2,h3⟩:=by9 hR hT h hf;exact⟨_,vs,fs,bs,h1,h2,h3⟩
theorem pv {k:Nat}{l:List Nat}:sA k l=Za↔k∈l:=by
 induction l with
 |nil=>simp[sA]
 |cons a l ih=>
  simp only[sA,List.mem_cons];cases h:Nat.beq a k with
  |true=>
   have:=Nat.eq_of_beq_eq_true h;simp[this]
  |false=>
   have:a≠k:=by rintro rfl;rw[Nat.beq_refl]at h;cases h
   rw[zD,ih];simp[Ne.symm this]
theorem vd {l:List Nat}:bk1 l=Za->l.Nodup:=by
 induction l with
 |nil=>intro _;exact List.nodup_nil
 |cons a l ih=>
  intro h;simp only[bk1]at h;cases hm:sA a l with
  |true=>rw[hm]at h;cases h
  |false=>
   rw[hm]at h;refine List.nodup_cons.2 ⟨λh1=> ?_,ih h⟩;rw[pv.2 h1]at hm;cases hm
theorem bS0 {w l:List Nat}(h:aL2 w l=Za){k:Nat}(hk:k∈w):k∉l:=by
 intro h1;simp only[aL2,bB]at h;have:=h k hk;rw[pv.2 h1]at this;cases this
theorem ap3 {m:List (Option Src)}{i:Nat}{x:Src}(h:m[i]?=Y (Y x)):x.k∈ud m:=by
 induction m generalizing i with
 |nil=>simp at h
 |cons a m ih=>
  cases i with
  |zero=>
   simp at h;subst h;exact dB
  |succ i=>
   simp at h;have:=ih h;cases a with
   |none=>exact this
   |some a=>exact cD _ this
theorem bs9 {m:List (Option Src)}(hn:(ud m).Nodup){i j:Nat}{x y:Src}(h:m[i]?=Y (Y x))(h':m[j]?=Y (Y y))(e:x.k=y.k):i=j:=by
 induction m generalizing i j with
 |nil=>simp at h
 |cons a m ih=>
  cases i with
  |zero=>
   simp at h;subst h;cases j with
   |zero=>rfl
   |succ j=>
    simp at h';have h1:=ap3 h';simp only[ud,eD]at hn;rw[e]at hn;exact(hn.1 h1).elim
  |succ i=>
   simp at h;cases j with
   |zero=>
    simp at h';subst h';have h1:=ap3 h;simp only[ud,eD]at hn;rw[<-e]at hn;exact(hn.1 h1).elim
   |succ j=>
    simp at h'
    have hn':(ud m).Nodup:=by
     cases a with
     |none=>exact hn
     |some a=>exact(List.nodup_cons.1 hn).2
    rw[ih hn' h h']
theorem bw1 {os:List OSk}{m:List (Option Src)}{i:Nat}{x:Src}{o:OSk}(h:m[i]?=Y (Y x))(ho:os[i]?=Y o)(hr:o.ro=Zb):x.k∈oc os m:=by
 induction m generalizing os i with
 |nil=>simp at h
 |cons a m ih=>
  cases os with
  |nil=>simp at ho
  |cons o' os=>
   cases i with
   |zero=>
    simp at h ho;subst h;subst ho;simp only[oc,hr,zD];exact dB
   |succ i=>
    simp at h ho;have:=ih h ho;cases a with
    |none=>exact this
    |some a=>
     simp only[oc];cases o'.ro with
     |true=>exact this
     |false=>exact cD _ this
theorem dR5 {b:Blk}(h:b.may=Za)(hd:b.dim≠Z)(hz:b.frozen=Za):False:=by
 cases b with
 |dead=>exact hd rfl
 |cells es z l=>simp only[Blk.may,Blk.frozen]at h hz;rw[hz]at h;cases h
 |arr s z l=>simp only[Blk.may,Blk.frozen]at h hz;rw[hz]at h;cases h
structure GT (c c' ct:Ctx)(N:Nat)(f:Nat->Nat)(fx:List Nat)(sk:SSk)(st:DSt)(fs bs:List Blk):Prop where
 σ:ct.σ=c'.σ
 fb:ct.fb=c.fb
 len:ct.S.length=c.S.length+bs.length
 oth: ∀k,k<c.S.length->(∀j,j∈fx->f j≠k)->ae ct.S k=ae c.S k∨ae ct.S k=(ae c.S k).freeze∨(ae ct.S k= .dead/\(ae c.S k).frozen=Zb)
 fix: ∀(i j:Nat) (b:Blk),fx[i]?=Y j->fs[i]?=Y b->ae ct.S (f j)=b
 fixlt: ∀j,j∈fx->f j<c.S.length
 free: ∀(i:Nat) (b:Blk),bs[i]?=Y b->ae ct.S (c.S.length+i)=b
 fN: ∀i,f (N+i)=c.S.length+i
 μo: ∀k,k<c.S.length->ct.μ k=c.μ k
 μn: ∀(i:Nat) (x:Option Src),st.m[i]?=Y x->ct.μ (c.S.length+i)=aD7 c' x
 un: ∀b y,c.σ.m b=Y y->¬c.own b->c'.σ.m b=Y y
 ow: ∀b y,c.σ.m b=Y y->¬c.own b->¬c'.own b
 n:c.σ.n<=c'.σ.n
 oun: ∀k,k<c.S.length->(∀j,j∈fx->f j≠k)->(ae ct.S k).dim≠Z->∀b y,c.μ k=Y b->c.σ.m b=Y y->c'.σ.m b=Y y
 odis: ∀k,k<c.S.length->(∀j,j∈fx->f j≠k)->(ae ct.S k).dim≠Z->∀s,(s∈fx∨s∈ud st.m)->(ae c'.S s).frozen=Zb->∀b,c'.μ s=Y b->c.μ k≠Y b
 wr: ∀j,j∈fx->(ae c'.S j).dim≠Z->(ae c.S (f j)).dim=(ae c'.S j).dim/\c'.μ j=c.μ (f j)/\∀b y,c.μ (f j)=Y b->c.σ.m b=Y y->∃y',c'.σ.m b=Y y'/\y'.cells.length=y.cells.length
 wrz: ∀j,j∈fx->(ae c.S (f j)).may=Za
 finj: ∀j j',j∈fx->j'∈fx->f j=f j'->j=j'
 fbk: ∀k b,(ae c'.S k).dim≠Z->c'.μ k=Y b->¬c.fb b
 lk: ∀j,j<N->j∉fx->Lk c' ct (Y ⟨j,Z⟩) (f j)
 onm: ∀k,k<c.S.length->(∀j,j∈fx->f j≠k)->(ae ct.S k).frozen=Zb->∀b y,c.μ k=Y b->c'.σ.m b=Y y->c'.mut b
 olent: ∀k,k<c.S.length->(∀j,j∈fx->f j≠k)->(ae ct.S k).frozen=Zb->∀s,s∈st.lent->(ae c'.S s).dim≠Z->∀b,c'.μ s=Y b->c.μ k≠Y b
 fbm: ∀b,c.fb b->c'.mut b
 fxN: ∀j,j∈fx->j<N
 noro:sk.noRo=Za
theorem GT.all {c c' ct:Ctx}{N:Nat}{f:Nat->Nat}{fx:List Nat}{sk:SSk}{st:DSt}{fs bs:List Blk}{vals vs:List VV}{as:List Value}(g:GT c c' ct N f fx sk st fs bs)(hR:ec c)(hR':ec c')(hd:uc c'.S N fx sk vals=Y st)
  (he:vh f sk st.ls=Y (vs,fs,bs)) (hf:F2 (VRel c') vals as):Le c ct/\ec ct/\F2 (VRel ct) vs as:=by
 obtain⟨ct0,vs0,fs0,bs0,p1,p2,p3⟩:=cf2 (f:=f) hR' hd hf;rw[he]at p1;injection p1 with p1
 injection p1 with q1 p1
 injection p1 with q2 q3
 subst q1;subst q2;subst q3;obtain⟨ap1,ap2⟩:=vg hd;have hnd:=vd ap1;rw[List.nodup_append]at hnd;obtain⟨nd1,nd2,nd3⟩:=hnd;obtain⟨x1,x2,x3⟩:=p2.get;obtain⟨y1,y2,y3⟩:=p3.get;have hro:=g.noro;unfold SSk.noRo at hro;rw[Bool.and_eq_true,bB,bB]at hro
 have nro: ∀(i:Nat) (o:OSk),(sk.fix[i]?=Y o∨sk.free[i]?=Y o)->o.ro=Zb:=by
  intro i o h;rcases h with h|h
  .simpa using hro.1 o (dD h)
  .simpa using hro.2 o (dD h)
 have fxget: ∀j,j∈fx->∃(i:Nat) (b:Blk) (o:OSk),fx[i]?=Y j/\fs[i]?=Y b/\sk.fix[i]?=Y o/\ae ct.S (f j)=b/\zO c' ct0 o (Y ⟨j,Z⟩) b:=by
  intro j hj;obtain⟨i,hi,e⟩:=List.mem_iff_getElem.1 hj;have h1:fx[i]?=Y j:=by rw[aB hi,e]
  have h2:i<fs.length:=by rw[<-x1];exact hi
  obtain⟨o,h3,h4⟩:=x3 i j _ h1 (aB h2);exact⟨i,fs[i],o,h1,aB h2,h3,g.fix i j _ h1 (aB h2),h4⟩
 have frget: ∀i,i<bs.length->∃(b:Blk) (x:Option Src) (o:OSk),st.m[i]?=Y x/\bs[i]?=Y b/\sk.free[i]?=Y o/\ae ct.S (c.S.length+i)=b/\ct.μ (c.S.length+i)=aD7 c' x/\zO c' ct0 o x b:=by
  intro i hi;have h2:i<st.m.length:=by rw[y1];exact hi
  obtain⟨o,h3,h4⟩:=y3 i _ _ (aB h2) (aB hi);exact⟨bs[i],st.m[i],o,aB h2,aB hi,h3,g.free i _ (aB hi),g.μn i _ (aB h2),h4⟩
 have three: ∀k,(ae ct.S k).dim≠Z->(∃j,j∈fx/\f j=k)∨(k<c.S.length/\(∀j,j∈fx->f j≠k))∨(∃i,i<bs.length/\k=c.S.length+i):=by
  intro k hk;have hl:=sC hk;rw[g.len]at hl;by_cases h1:k<c.S.length
  .by_cases h2: ∃j,j∈fx/\f j=k
   .exact .inl h2
   .exact .inr (.inl ⟨h1,λj hj e=>h2 ⟨j,hj,e⟩⟩)
  .exact .inr (.inr ⟨k-c.S.length,by omega,by omega⟩)
 have stay: ∀j,j∈fx->∀d,(ae ct.S (f j)).dim=Y d->(ae c'.S j).dim=Y d/\(ae c'.S j).frozen=Zb/\(ae c.S (f j)).dim=Y d/\c'.μ j=c.μ (f j):=by
  intro j hj d hd';obtain⟨i,b,o,h1,h2,h3,h4,h5⟩:=fxget j hj;rw[h4]at hd';rcases h5 with⟨_,h5⟩|⟨h5,h6,d0,h7,h8,h9⟩
  .subst h5;cases hd'
  .simp only at h8;rw[h8]at hd';injection hd' with hd'
   subst hd';obtain⟨w1,w2,_⟩:=g.wr j hj (by rw[h7];simp);exact⟨h7,h6 (nro i o (.inl h3)),by rw[w1,h7],w2⟩
 have found: ∀i,i<bs.length->∀d,(ae ct.S (c.S.length+i)).dim=Y d->(∃x,st.m[i]?=Y (Y x)/\(ae c'.S x.k).frozen=Zb/\ct.μ (c.S.length+i)=c'.μ x.k)∨ct.μ (c.S.length+i)=Z:=by
  intro i hi d hd';obtain⟨b,x,o,h1,h2,h3,h4,h5,h6⟩:=frget i hi;rw[h4]at hd';rcases h6 with⟨_,h6⟩|⟨h6,h7⟩
  .subst h6;cases hd'
  .cases x with
   |none=>exact .inr h5
   |some x=>
    obtain⟨k,cut⟩:=x;exact .inl ⟨_,h1,h7.1 (nro i o (.inr h3)),h5⟩
 have orig: ∀k b,(ae ct.S k).dim≠Z->ct.μ k=Y b->(k<c.S.length/\(∀j,j∈fx->f j≠k)/\c.μ k=Y b)∨
   ∃s,(s∈fx∨s∈ud st.m)/\(ae c'.S s).frozen=Zb/\c'.μ s=Y b/\((s∈fx/\k=f s)∨∃i x,st.m[i]?=Y (Y x)/\x.k=s/\k=c.S.length+i):=by
  intro k b hk hm;cases hdd:(ae ct.S k).dim with
  |none=>exact(hk hdd).elim
  |some d=>
   rcases three k hk with⟨j,hj,rfl⟩|⟨h1,h2⟩|⟨i,hi,rfl⟩
   .obtain⟨h1,h2,h3,h4⟩:=stay j hj d hdd;exact .inr ⟨j, .inl hj,h2,by rw[h4,<-g.μo _ (g.fixlt j hj)];exact hm, .inl ⟨hj,rfl⟩⟩
   .exact .inl ⟨h1,h2,by rw[<-g.μo k h1];exact hm⟩
   .rcases found i hi d hdd with⟨x,h1,h2,h3⟩|h1
    .exact .inr ⟨x.k, .inr (ap3 h1),h2,by rw[<-h3];exact hm, .inr ⟨i,x,h1,rfl,rfl⟩⟩
    .rw[h1]at hm;cases hm
 have othdim: ∀k,k<c.S.length->(∀j,j∈fx->f j≠k)->(ae ct.S k).dim≠Z->(ae ct.S k=ae c.S k∨ae ct.S k=(ae c.S k).freeze):=by
  intro k h1 h2 h3;rcases g.oth k h1 h2 with h|h|⟨h,_⟩
  .exact .inl h
  .exact .inr h
  .rw[h]at h3;exact(h3 rfl).elim
 have othfz: ∀k,k<c.S.length->(∀j,j∈fx->f j≠k)->(ae ct.S k).frozen=Zb->ae ct.S k=ae c.S k:=by
  intro k h1 h2 h3;rcases othdim k h1 h2 (sq h3)with h|h
  .exact h
  .rw[h,sV]at h3;cases h3
 have hle:Le c ct:=by
  refine⟨by rw[g.len];exact fB _ _,λk d hk hd'=>⟨?_,g.μo k hk⟩,λk hz hdm=> ?_,λk d b y hk hd' hm hy=> ?_,λb y hy hn=>by rw[g.σ];exact g.un b y hy hn,λb y hy hn=> ?_,by rw[g.σ];exact g.n,g.fb⟩
  .rcases three k (by rw[hd'];simp)with⟨j,hj,rfl⟩|⟨h1,h2⟩|⟨i,hi,rfl⟩
   .exact(stay j hj d hd').2.2.1
   .rcases othdim k h1 h2 (by rw[hd'];simp)with h|h
    .rw[<-h];exact hd'
    .rw[h,gb]at hd';exact hd'
   .omega
  .have hk:=sC hdm;by_cases h2: ∃j,j∈fx/\f j=k
   .obtain⟨j,hj,rfl⟩:=h2;exact(dR5 (g.wrz j hj) hdm hz).elim
   .rcases g.oth k hk (λj hj e=>h2 ⟨j,hj,e⟩)with h|h|⟨_,h⟩
    .exact h
    .rw[h,aC8 hz]
    .rw[h]at hz;cases hz
  .rw[g.σ];rcases three k (by rw[hd'];simp)with⟨j,hj,rfl⟩|⟨h1,h2⟩|⟨i,hi,rfl⟩
   .obtain⟨h1,h2,h3,h4⟩:=stay j hj d hd';exact(g.wr j hj (by rw[h1];simp)).2.2 b y hm hy
   .exact⟨y,g.oun k h1 h2 (by rw[hd'];simp) b y hm hy,rfl⟩
   .omega
  .rintro⟨k,h1,h2⟩;rcases orig k b (sq h1) h2 with⟨h3,h4,h5⟩|⟨s,h3,h4,h5,_⟩
   .exact hn ⟨k,by rw[<-othfz k h3 h4 h1];exact h1,h5⟩
   .exact g.ow b y hy hn ⟨s,h4,h5⟩
 have hT:Tell c' ct N f st:=by
  have hsp: ∀k b,(ae ct.S k).frozen=Zb->ct.μ k=Y b->(k<c.S.length/\(∀j,j∈fx->f j≠k)/\c.μ k=Y b)∨∃s,(s∈fx∨s∈oc sk.free st.m)/\(ae c'.S s).frozen=Zb/\c'.μ s=Y b:=by
   intro k b h1 h2;rcases orig k b (sq h1) h2 with h|⟨s,h3,h4,h5,h6⟩
   .exact .inl h
   .refine .inr ⟨s, ?_,h4,h5⟩;rcases h6 with⟨h6,_⟩|⟨i,x,h6,h7,_⟩
    .exact .inl h6
    .refine .inr ?_
     have hi:i<bs.length:=by
      rw[<-y1];rcases aD i st.m.length with h|h
      .exact h
      .rw[bD h]at h6;cases h6
     obtain⟨b',x',o,q1,q2,q3,_⟩:=frget i hi;rw[<-h7];exact bw1 h6 q3 (nro i o (.inr q3))
  refine⟨⟨g.σ,λb y hy hn=> ?_⟩,λj x hl=> ?_,λs hs hsd b hm=> ?_⟩
  .rintro(⟨k,h1,h2⟩|h)
   .rcases hsp k b h1 h2 with⟨h3,h4,h5⟩|⟨s,h3,h4,h5⟩
    .exact hn (g.onm k h3 h4 h1 b y h5 hy)
    .exact hn (.inl ⟨s,h4,h5⟩)
   .rw[g.fb]at h;exact hn (g.fbm b h)
  .rcases hl with⟨h1,rfl⟩|⟨h1,h2⟩
   .by_cases hj:j∈fx
    .refine⟨by rw[g.len];exact fD (g.fixlt j hj) (fB _ _),λd' hd'=> ?_⟩;obtain⟨q1,q2,q3,q4⟩:=stay j hj d' hd';exact⟨d',q1,rfl,by rw[g.μo _ (g.fixlt j hj),q4],rfl⟩
    .exact g.lk j h1 hj
   .rw[af1]at h2
    have hi:j-N<bs.length:=by
     rw[<-y1];rcases aD (j-N) st.m.length with h|h
     .exact h
     .rw[bD h]at h2;cases h2
    have hfj:f j=c.S.length+(j-N):=by rw[<-g.fN];congr 1;omega
    rw[hfj];refine⟨by rw[g.len];omega,λd' hd'=> ?_⟩;obtain⟨b,x',o,q1,q2,q3,q4,q5,q6⟩:=frget (j-N) hi;rw[h2]at q1;injection q1 with q1
    subst q1;rw[q4]at hd';rcases q6 with⟨_,q6⟩|⟨q6,q7⟩
    .subst q6;cases hd'
    .cases x with
     |none=>
      obtain⟨_,s,q8⟩:=q7;subst q8;injection hd' with hd'
      subst hd';exact⟨by simp,q5⟩
     |some x=>
      obtain⟨k,cut⟩:=x;obtain⟨q8,d,q9,q10,q11⟩:=q7;refine⟨d,q9, ?_⟩;cases cut with
      |none=>
       simp only at q10;rw[q10]at hd';injection hd' with hd'
       subst hd';exact⟨rfl,q5,rfl⟩
      |some n=>
       simp only at q10;rw[q10]at hd';injection hd' with hd'
       subst hd';exact⟨rfl,q5,rfl⟩
  .rintro(⟨k,h1,h2⟩|h)
   .rcases hsp k b h1 h2 with⟨h3,h4,h5⟩|⟨s',h3,h4,h5⟩
    .exact g.olent k h3 h4 h1 s hs hsd b hm h5
    .have:=hR'.inj s' s b h4 hsd h5 hm;subst this;exact bS0 ap2 (List.mem_append.2 h3) hs
   .rw[g.fb]at h;exact g.fbk s b hsd hm h
 obtain⟨vs1,fs1,bs1,r1,r2,r3,r4⟩:=by9 hR' hT hd hf;rw[he]at r1;injection r1 with r1
 injection r1 with e1 r1
 injection r1 with e2 e3
 subst e1;subst e2;subst e3;obtain⟨_,_,x4⟩:=r3.get;obtain⟨_,_,y4⟩:=r4.get;refine⟨hle,⟨by rw[g.σ];exact hR'.ok,λk k' b hk hk' hm hm'=> ?_,λk=> ?_,λk b hk hm hb=> ?_,λb hb=> ?_⟩,r2⟩
 .rcases orig k b (sq hk) hm with⟨h1,h2,h3⟩|⟨s,h1,h2,h3,h4⟩
  .rcases orig k' b hk' hm' with⟨g1,g2,g3⟩|⟨s',g1,g2,g3,g4⟩
   .refine hR.inj k k' b (by rw[<-othfz k h1 h2 hk];exact hk) ?_ h3 g3;rcases othdim k' g1 g2 hk' with h|h
    .rw[<-h];exact hk'
    .rw[h,gb]at hk';exact hk'
   .exact(g.odis k h1 h2 (sq hk) s' g1 g2 b g3 h3).elim
  .rcases orig k' b hk' hm' with⟨g1,g2,g3⟩|⟨s',g1,g2,g3,g4⟩
   .exact(g.odis k' g1 g2 hk' s h1 h2 b h3 g3).elim
   .have:=hR'.inj s s' b h2 (sq g2) h3 g3;subst this;rcases h4 with⟨h4,h5⟩|⟨i,x,h4,h5,h6⟩
    .rcases g4 with⟨g4,g5⟩|⟨i',x',g4,g5,g6⟩
     .rw[h5,g5]
     .subst g5;exact(nd3 _ h4 _ (ap3 g4) rfl).elim
    .rcases g4 with⟨g4,g5⟩|⟨i',x',g4,g5,g6⟩
     .subst h5;exact(nd3 _ g4 _ (ap3 h4) rfl).elim
     .rw[h6,g6,bs9 nd2 h4 g4 (h5.trans g5.symm)]
 .by_cases hdm:(ae ct.S k).dim=Z
  .intro d hd';rw[hdm]at hd';cases hd'
  .rcases three k hdm with⟨j,hj,rfl⟩|⟨h1,h2⟩|⟨i,hi,rfl⟩
   .obtain⟨i,b,o,q1,q2,q3,q4,q5⟩:=fxget j hj;obtain⟨o',q6,q7⟩:=x4 i j b q1 q2;refine q7.blkRel hR' g.σ q4 λhb=> ?_
    cases hdd:(ae ct.S (f j)).dim with
    |none=>exact(hdm hdd).elim
    |some d=>
     obtain⟨_,_,_,q8⟩:=stay j hj d hdd;rw[g.μo _ (g.fixlt j hj),<-q8];rfl
   .intro d hd';have h3:=othdim k h1 h2 hdm
    have hdc:(ae c.S k).dim=Y d:=by
     rcases h3 with h|h
     .rw[<-h];exact hd'
     .rw[h,gb]at hd';exact hd'
    have hvc:(ae ct.S k).vals=(ae c.S k).vals:=by
     rcases h3 with h|h
     .rw[h]
     .rw[h,bF0]
    obtain⟨q1,q2⟩:=hR.blk k d hdc;refine⟨q1, ?_⟩;rcases q2 with⟨q2,q3⟩|⟨b,y,cs,rest,q2,q3,q4,q5,q6,q7⟩
    .exact .inl ⟨q2,(g.μo k h1).trans q3⟩
    .refine .inr ⟨b,y,cs,rest,(g.μo k h1).trans q2,by rw[g.σ];exact g.oun k h1 h2 hdm b y q2 q3,q4,λhz=> ?_,q6,by rw[hvc];exact VRel.frames hle q7⟩;rw[othfz k h1 h2 hz]at hz;exact q5 hz
   .obtain⟨b,x,o,q1,q2,q3,q4,q5,q6⟩:=frget i hi;obtain⟨o',q7,q8⟩:=y4 i x b q1 q2;exact q8.blkRel hR' g.σ q4 λ_=>q5
 .rw[g.fb]at hb;rcases orig k b hk hm with⟨h1,h2,h3⟩|⟨s,h1,h2,h3,_⟩
  .refine hR.fbk k b ?_ h3 hb;rcases othdim k h1 h2 hk with h|h
   .rw[<-h];exact hk
   .rw[h,gb]at hk;exact hk
  .exact g.fbk s b (sq h2) h3 hb
 .rw[g.fb]at hb;rw[g.σ];exact fD (hR.fbl b hb) g.n
end
section
open Bool renaming or_eq_false_iff -> aB
open List renaming cons_append -> bB, length_append -> bD, mem_of_getElem? -> cB, nodup_append -> cD
open Nat renaming zero_add -> aD, add_sub_cancel_left -> dB
theorem sm {fx mov:List Nat}{fz:Bool}: ∀{S:ai} {i:Nat},(nj fx mov fz i S).length=S.length
 |[],_=>rfl
 |_::r,i=>by simp[nj,sm (S:=r)]
theorem sj {fx mov:List Nat}{fz:Bool}: ∀{S:ai} {i k:Nat},k<S.length->ae (nj fx mov fz i S) k=cond (sA (i+k) mov) (cond (ae S k).frozen (ae S k) .dead) (cond (sA (i+k) fx) (ae S k) (cond fz (ae S k).freeze (ae S k)))
 |[],_,_,h=>by simp at h
 |b::r,i,0,_=>rfl
 |b::r,i,k+1,h=>by
  have:=sj (fx:=fx) (mov:=mov) (fz:=fz) (S:=r) (i:=i+1) (k:=k) (by simpa using h);rw[show i+1+k=i+(k+1)by omega]at this;exact this
theorem ob : ∀{js:List Nat} {bs:List Blk} {S S':ai},ad2 js bs S=Y S'->js.length=bs.length/\S'.length=S.length/\(∀k,k∉js->ae S' k=ae S k)/\
  (js.Nodup->∀(i j:Nat) (b:Blk),js[i]?=Y j->bs[i]?=Y b->j<S.length->ae S' j=b)
 |[],[],S,S',h=>by
  injection h with h;subst h
  exact⟨rfl,rfl,λ_ _=>rfl,λ_ i j b h=>by simp at h⟩
 |[],_::_,S,S',h=>by cases h
 |_::_,[],S,S',h=>by cases h
 |j::js,b::bs,S,S',h=>by
  simp only[ad2]at h;obtain⟨h1,h2,h3,h4⟩:=ob h;refine⟨by simp[h1],by rw[h2,bb4],λk hk=> ?_,λhn i j' b' hi hb hl=> ?_⟩
  .rw[h3 k (λe=>hk (List.mem_cons_of_mem _ e))];exact dH4 (λe=>hk (by rw[e];exact List.mem_cons_self))
  .rw[List.nodup_cons]at hn;cases i with
   |zero=>
    simp at hi hb;subst hi;subst hb;rw[h3 j hn.1];exact cX4 hl
   |succ i=>
    simp at hi hb;exact h4 hn.2 i j' b' hi hb (by rw[bb4];exact hl)
theorem ac9 : ∀{l:List Blk} {i:Nat} {b:Blk},l[i]?=Y b->ae l i=b
 |[],i,b,h=>by simp at h
 |a::l,0,b,h=>by simpa[ae]using h
 |a::l,i+1,b,h=>ac9 (l:=l) (by simpa using h)
structure Within (c c1:Ctx)(fx mov:List Nat):Prop where
 le:Le c c1
 fr: ∀k,k<c.S.length->k∉fx->(k∉mov∨(ae c.S k).frozen=Za)->ae c1.S k=(ae c.S k).freeze
 un: ∀k,k<c.S.length->k∉fx->(k∉mov∨(ae c.S k).frozen=Za)->(ae c.S k).dim≠Z->∀b y,c.μ k=Y b->c.σ.m b=Y y->c1.σ.m b=Y y
theorem rX {S:ai}{fx:List Nat}(h:bI3 S fx=Za){j:Nat}(hj:j∈fx):j<S.length/\(ae S j).may=Za:=by
 simp only[bI3,List.all_eq_true,Bool.and_eq_true]at h;obtain⟨h1,h2⟩:=h j hj;exact⟨Nat.le_of_ble_eq_true h1,h2⟩
theorem nk {k:Nat}{l:List Nat}(h:k∉l):sA k l=Zb:=by
 cases hb:sA k l with
 |false=>rfl
 |true=>exact(h (pv.1 hb)).elim
theorem ai7 {fx mov:List Nat}{fz:Bool}{S:ai}{k:Nat}(hk:k<S.length)(h1:k∉fx)(h2:(ae (nj fx mov fz 0 S) k).dim≠Z):(k∉mov∨(ae S k).frozen=Za)/\ae (nj fx mov fz 0 S) k=cond fz (ae S k).freeze (ae S k):=by
 rw[sj hk,aD,nk h1]at h2⊢;by_cases hm:k∈mov
 .rw[pv.2 hm]at h2⊢;cases hz:(ae S k).frozen with
  |false=>rw[hz]at h2;exact(h2 rfl).elim
  |true=>exact⟨.inr rfl,by cases fz<;>simp[aC8 hz]⟩
 .rw[nk hm];exact⟨.inl hm,rfl⟩
theorem dL6 {c c1 c':Ctx}{fx mov:List Nat}{sk:SSk}{vals vs:List VV}{as:List Value}{st:DSt}{fs bs:List Blk}{S':ai}(hR:ec c)(hR':ec c')(hw:Within c c1 fx mov)(hR1:ec c1)(hle:Le c1 c')
  (hok:bI3 c.S fx=Za) (hro:sk.noRo=Za) (hd:uc c'.S c.S.length fx sk vals=Y st) (he:vh id sk st.ls=Y (vs,fs,bs)) (hf:F2 (VRel c') vals as) (hS:ad2 fx fs (nj fx mov Za 0 c.S)=Y S'):
  ∃ct:Ctx,ct.σ=c'.σ/\ct.S=S'++bs/\ct.fb=c.fb/\(∀k,k<c.S.length->ct.μ k=c.μ k)/\Le c ct/\ec ct/\F2 (VRel ct) vs as/\
   (∀k,k<c.S.length->k∉fx->(ae ct.S k).dim≠Z->(k∉mov∨(ae c.S k).frozen=Za)/\∀b y,c.μ k=Y b->c.σ.m b=Y y->ct.σ.m b=Y y):=by
 obtain⟨s1,s2,s3,s4⟩:=ob hS;rw[sm]at s2 s4;obtain⟨ap1,_⟩:=vg hd;have hnd:=vd ap1;rw[cD]at hnd;obtain⟨nd1,_,_⟩:=hnd;have hcc:=hw.le.trans hle;have hfb:c'.fb=c.fb:=hcc.fb
 let ct:Ctx:=⟨λi=>if i<c.S.length then c.μ i else match st.m[i-c.S.length]? with
  |some x=>aD7 c' x
  |none=>Z,S'++bs,c'.σ,c.fb⟩
 have hget: ∀k,k<c.S.length->ae ct.S k=ae S' k:=λk hk=>sX (by rw[s2];exact hk)
 have hoth: ∀k,k<c.S.length->k∉fx->ae ct.S k=ae (nj fx mov Za 0 c.S) k:=λk hk hn=>by rw[hget k hk,s3 k hn]
 have hoth2: ∀k,k<c.S.length->k∉fx->(ae ct.S k).dim≠Z->(k∉mov∨(ae c.S k).frozen=Za)/\ae ct.S k=(ae c.S k).freeze/\ae c'.S k=(ae c.S k).freeze/\c'.μ k=c.μ k/\(ae c.S k).dim≠Z:=by
  intro k hk hn hdm;rw[hoth k hk hn]at hdm⊢;obtain⟨h1,h2⟩:=ai7 hk hn hdm;have h3:=hw.fr k hk hn h1;rw[h2]at hdm;simp only[zC]at hdm h2;rw[gb]at hdm
  have h4:ae c'.S k=(ae c.S k).freeze:=by
   rw[hle.fz k (by rw[h3,sV]) (by rw[h3,gb];exact hdm),h3]
  refine⟨h1,h2,h4, ?_,hdm⟩;cases hdd:(ae c.S k).dim with
  |none=>exact(hdm hdd).elim
  |some d=>exact(hcc.al k d hk (by rw[h4,gb];exact hdd)).2
 have hun2: ∀k,k<c.S.length->k∉fx->(ae ct.S k).dim≠Z->∀b y,c.μ k=Y b->c.σ.m b=Y y->c'.σ.m b=Y y:=by
  intro k hk hn hdm b y hm hy;obtain⟨h1,h2,h3,h4,h5⟩:=hoth2 k hk hn hdm;have h6:=hw.un k hk hn h1 h5 b y hm hy;have h7:=hw.fr k hk hn h1
  have hmu1:c1.μ k=Y b:=by
   cases hdd:(ae c.S k).dim with
   |none=>exact(h5 hdd).elim
   |some d=>rw[(hw.le.al k d hk (by rw[h7,gb];exact hdd)).2];exact hm
  have h8: ¬c1.mut b:=hR1.fz_mut (by rw[h7,sV]) (by rw[h7,gb];exact h5) hmu1;exact hle.un b y h6 λe=>h8 (.inl e)
 have g:GT c c' ct c.S.length id fx sk st fs bs:=by
  refine⟨rfl,rfl,by simp[ct,s2],λk hk hn=> ?_,λi j b hi hb=> ?_,λj hj=>(rX hok hj).1,λi b hb=> ?_,λ_=>rfl,λk hk=>zE hk,λi x hx=> ?_,hcc.un,hcc.ow,hcc.n,λk hk hn hdm b y hm hy=> ?_,λk hk hn hdm s hs hz b hm e=> ?_,λj hj hdm=> ?_,λj hj=>(rX hok hj).2,
   λ_ _ _ _ e=>e,λk b hdm hm=> ?_,λj hj hn=> ?_,λk hk hn hz b y hm hy=> ?_,λk hk hn hz s hs hsd b hm e=> ?_,λb hb=> ?_,λj hj=>(rX hok hj).1,hro⟩
  .have hn':k∉fx:=λe=>hn k e rfl
   rw[hoth k hk hn'];by_cases hdm:(ae (nj fx mov Za 0 c.S) k).dim=Z
   .rw[sj hk,aD,nk hn']at hdm⊢;by_cases hm:k∈mov
    .rw[pv.2 hm]at hdm⊢;cases hz:(ae c.S k).frozen with
     |false=>exact .inr (.inr ⟨rfl,rfl⟩)
     |true=>exact .inl rfl
    .rw[nk hm];exact .inr (.inl rfl)
   .exact .inr (.inl (ai7 hk hn' hdm).2)
  .have hj:=cB hi;have hlt:=(rX hok hj).1;show ae ct.S j=b;rw[hget j hlt];exact s4 nd1 i j b hi hb hlt
  .show ae (S'++bs) (c.S.length+i)=b;rw[<-s2,xx];exact ac9 hb
  .show(if c.S.length+i<c.S.length then _ else _)=_;rw[zF (by omega),dB,hx]
  .exact hun2 k hk (λe=>hn k e rfl) hdm b y hm hy
  .obtain⟨h1,h2,h3,h4,h5⟩:=hoth2 k hk (λe=>hn k e rfl) hdm;have:=hR'.inj s k b hz (by rw[h3,gb];exact h5) hm (h4.trans e);subst this;rw[h3,sV]at hz;cases hz
  .have hlt:=(rX hok hj).1;cases hdd:(ae c'.S j).dim with
   |none=>exact(hdm hdd).elim
   |some d=>
    obtain⟨h1,h2⟩:=hcc.al j d hlt hdd;exact⟨h1,h2,λb y hm hy=>hcc.ln j d b y hlt hdd hm hy⟩
  .rw[<-hfb];exact hR'.fbk k b hdm hm
  .refine⟨by simp only[id,ct,bD,s2];omega,λd' hd'=> ?_⟩;obtain⟨h1,h2,h3,h4,h5⟩:=hoth2 j hj hn (by rw[show id j=j from rfl]at hd';rw[hd'];simp);rw[show id j=j from rfl,h2]at hd';refine⟨d',by rw[h3];exact hd',rfl, ?_,rfl⟩;show(if j<c.S.length then c.μ j else _)=_;rw[zE hj,h4]
  .obtain⟨h1,h2,h3,h4,h5⟩:=hoth2 k hk (λe=>hn k e rfl) (sq hz);rw[h2,sV]at hz;cases hz
  .obtain⟨h1,h2,h3,h4,h5⟩:=hoth2 k hk (λe=>hn k e rfl) (sq hz);rw[h2,sV]at hz;cases hz
  .exact .inr (by rw[hfb];exact hb)
 obtain⟨r1,r2,r3⟩:=g.all hR hR' hd he hf;exact⟨ct,rfl,rfl,rfl,λk hk=>zE hk,r1,r2,r3,λk hk hn hdm=>⟨(hoth2 k hk hn hdm).1,hun2 k hk hn hdm⟩⟩
theorem db9 {c:Ctx}{fx:List Nat}{sk:SSk}{vals vs:List VV}{as:List Value}{st:DSt}{fs bs:List Blk}{S':ai}(hR:ec c)
  (hok:bI3 c.S fx=Za) (hro:sk.noRo=Za) (hd:uc c.S c.S.length fx sk vals=Y st) (he:vh id sk st.ls=Y (vs,fs,bs)) (hf:F2 (VRel c) vals as) (hS:ad2 fx fs (nj fx (ud st.m) Za 0 c.S)=Y S'):
  ∃ct:Ctx,ct.σ=c.σ/\ct.S=S'++bs/\ct.fb=c.fb/\(∀k,k<c.S.length->ct.μ k=c.μ k)/\Le c ct/\ec ct/\F2 (VRel ct) vs as:=by
 obtain⟨s1,s2,s3,s4⟩:=ob hS;rw[sm]at s2 s4;obtain⟨ap1,_⟩:=vg hd;have hnd:=vd ap1;rw[cD]at hnd;obtain⟨nd1,_,_⟩:=hnd
 let ct:Ctx:=⟨λi=>if i<c.S.length then c.μ i else match st.m[i-c.S.length]? with
  |some x=>aD7 c x
  |none=>Z,S'++bs,c.σ,c.fb⟩
 have hget: ∀k,k<c.S.length->ae ct.S k=ae S' k:=λk hk=>sX (by rw[s2];exact hk)
 have hoth: ∀k,k<c.S.length->k∉fx->ae ct.S k=ae (nj fx (ud st.m) Za 0 c.S) k:=λk hk hn=>by rw[hget k hk,s3 k hn]
 have hoth2: ∀k,k<c.S.length->k∉fx->(ae ct.S k).dim≠Z->(k∉ud st.m∨(ae c.S k).frozen=Za)/\ae ct.S k=(ae c.S k).freeze/\(ae c.S k).dim≠Z:=by
  intro k hk hn hdm;rw[hoth k hk hn]at hdm⊢;obtain⟨h1,h2⟩:=ai7 hk hn hdm;rw[h2]at hdm;simp only[zC]at hdm h2;rw[gb]at hdm;exact⟨h1,h2,hdm⟩
 have g:GT c c ct c.S.length id fx sk st fs bs:=by
  refine⟨rfl,rfl,by simp[ct,s2],λk hk hn=> ?_,λi j b hi hb=> ?_,λj hj=>(rX hok hj).1,λi b hb=> ?_,λ_=>rfl,λk hk=>zE hk,λi x hx=> ?_,λ_ _ h _=>h,λ_ _ _ h=>h,Nat.le_refl _,λk hk hn hdm b y hm hy=>hy,λk hk hn hdm s hs hz b hm e=> ?_,λj hj hdm=>⟨rfl,rfl,λb y _ hy=>⟨y,hy,rfl⟩⟩,λj hj=>(rX hok hj).2,
   λ_ _ _ _ e=>e,λk b hdm hm=>hR.fbk k b hdm hm,λj hj hn=> ?_,λk hk hn hz b y hm hy=> ?_,λk hk hn hz s hs hsd b hm e=> ?_,λb hb=> .inr hb,λj hj=>(rX hok hj).1,hro⟩
  .have hn':k∉fx:=λe=>hn k e rfl
   rw[hoth k hk hn'];by_cases hdm:(ae (nj fx (ud st.m) Za 0 c.S) k).dim=Z
   .rw[sj hk,aD,nk hn']at hdm⊢;by_cases hm:k∈ud st.m
    .rw[pv.2 hm]at hdm⊢;cases hz:(ae c.S k).frozen with
     |false=>exact .inr (.inr ⟨rfl,rfl⟩)
     |true=>exact .inl rfl
    .rw[nk hm];exact .inr (.inl rfl)
   .exact .inr (.inl (ai7 hk hn' hdm).2)
  .have hj:=cB hi;have hlt:=(rX hok hj).1;show ae ct.S j=b;rw[hget j hlt];exact s4 nd1 i j b hi hb hlt
  .show ae (S'++bs) (c.S.length+i)=b;rw[<-s2,xx];exact ac9 hb
  .show(if c.S.length+i<c.S.length then _ else _)=_;rw[zF (by omega),dB,hx]
  .obtain⟨h1,h2,h5⟩:=hoth2 k hk (λe=>hn k e rfl) hdm;have:=hR.inj s k b hz h5 hm e;subst this;rcases hs with hs|hs
   .exact hn s hs rfl
   .rcases h1 with h1|h1
    .exact h1 hs
    .rw[h1]at hz;cases hz
  .refine⟨by simp only[id,ct,bD,s2];omega,λd' hd'=> ?_⟩;obtain⟨h1,h2,h5⟩:=hoth2 j hj hn (by rw[show id j=j from rfl]at hd';rw[hd'];simp);rw[show id j=j from rfl,h2,gb]at hd';refine⟨d',hd',rfl, ?_,rfl⟩;show(if j<c.S.length then c.μ j else _)=_;rw[zE hj]
  .obtain⟨h1,h2,h5⟩:=hoth2 k hk (λe=>hn k e rfl) (sq hz);rw[h2,sV]at hz;cases hz
  .obtain⟨h1,h2,h5⟩:=hoth2 k hk (λe=>hn k e rfl) (sq hz);rw[h2,sV]at hz;cases hz
 obtain⟨r1,r2,r3⟩:=g.all hR hR hd he hf;exact⟨ct,rfl,rfl,rfl,λk hk=>zE hk,r1,r2,r3⟩
theorem cj0 {c c1:Ctx}{fx mov:List Nat}{fs bs:List Blk}{S':ai}(hle:Le c c1)(hS:ad2 fx fs (nj fx mov Za 0 c.S)=Y S')(h1:c1.S=S'++bs)
  (hun: ∀k,k<c.S.length->k∉fx->(k∉mov∨(ae c.S k).frozen=Za)->(ae c.S k).dim≠Z->∀b y,c.μ k=Y b->c.σ.m b=Y y->c1.σ.m b=Y y):Within c c1 fx mov:=by
 obtain⟨s1,s2,s3,s4⟩:=ob hS;rw[sm]at s2;refine⟨hle,λk hk hn hm=> ?_,hun⟩;rw[h1,sX (by rw[s2];exact hk),s3 k hn,sj hk,aD,nk hn];rcases hm with hm|hz
 .rw[nk hm];rfl
 .cases sA k mov with
  |false=>rfl
  |true=>rw[hz];simp[aC8 hz]
section
variable {ctf ct:Ctx}
theorem VRel.thaw (hμ:ct.μ=ctf.μ)(hσ:ct.σ=ctf.σ)(hl:ct.S.length=ctf.S.length)(hd: ∀k,(ae ct.S k).dim=(ae ctf.S k).dim): ∀{v:VV} {a:Value},VRel ctf v a->alV v=Zb->VRel ct v a
 |_,_, .undef a,_=> .undef a
 |_,_, .bool b,_=> .bool b
 |_,_, .int k n,_=> .int k n
 |_,_, .str hs,_=> .str hs
 |_,_, .nilp,_=> .nilp
 |_,_, .nils,_=> .nils
 |_,_, .nilf,_=> .nilf
 |_,_, .ptr hk h1 h2,_=> .ptr (by rw[hl];exact hk) h1 λd h=>by rw[hd]at h;rw[hμ];exact h2 d h
 |_,_, .it hk h1 hs h2,_=> .it (by rw[hl];exact hk) h1 hs λd h=>by rw[hd]at h;rw[hμ];exact h2 d h
 |_,_, .bld hk h1 h2,_=> .bld (by rw[hl];exact hk) h1 λd h=>by rw[hd]at h;rw[hμ];exact h2 d h
 |_,_, .pix hk h1 hi h2,_=> .pix (by rw[hl];exact hk) h1 hi λd h=>by rw[hd]at h;rw[hμ];exact h2 d h
 |_,_, .pel hk h1 h2,_=> .pel (by rw[hl];exact hk) h1 λd h=>by rw[hd]at h;rw[hμ];exact h2 d h
 |_,_, .pin _ _ _ _,h=>by cases h
 |_,_, .lstn _,h=>by cases h
 |_,_, .tgtn _,h=>by cases h
 |_,_, .tgt _ _ _ _ _,h=>by cases h
 |_,_, .lst _ _ _ _ _ _ _,h=>by cases h
 |_,_, .full hk h1 h2,_=> .full (by rw[hl];exact hk) h1 λd h=>by
  rw[hd]at h;obtain⟨n,h3,h4⟩:=h2 d h;refine⟨n,h3, ?_⟩;unfold SlR at h4⊢;rw[hμ,hσ];exact h4
 |_,_, .part hk h1 h2,_=> .part (by rw[hl];exact hk) h1 λd h=>by
  rw[hd]at h;have h4:=h2 d h;unfold SlR at h4⊢;rw[hμ,hσ];exact h4
 |_,_, .fn h1 h2,h=>by
  simp only[alV,aB]at h;exact .fn (go h1 h.1) (go h2 h.2)
 |_,_, .agg h1,h=>by
  simp only[alV]at h;exact .agg (go h1 h)
 |_,_, .tup h1,h=>by
  simp only[alV]at h;exact .tup (go h1 h)
where
 go: ∀{l:List VV} {m:List Value},F2 (VRel ctf) l m->alL l=Zb->F2 (VRel ct) l m
  |_,_, .nil,_=> .nil
  |_,_, .cons h1 h2,h=>by
   simp only[alL,aB]at h;exact .cons (VRel.thaw hμ hσ hl hd h1 h.1) (go h2 h.2)
theorem bo2 : ∀{s:Sh} (x:El s),s.al=Zb->alL (db s x)=Zb
 | .int _,_,_=>rfl
 | .bool,_,_=>rfl
 | .str,_,_=>rfl
 | .list _,_,h=>by cases h
 | .pair a b,x,h=>by
  simp only[Sh.al,aB]at h;have h1:=bo2 x.1 h.1;have h2:=bo2 x.2 h.2;simp only[db];revert h1;generalize db a x.1=l;intro h1;induction l with
  |nil=>exact h2
  |cons v l ih=>
   simp only[alL,aB,bB]at h1⊢;exact⟨h1.1,ih h1.2⟩
theorem dz6 {l m:List VV}(h1:alL l=Zb)(h2:alL m=Zb):alL (l++m)=Zb:=by
 induction l with
 |nil=>exact h2
 |cons v l ih=>
  simp only[alL,aB,bB]at h1⊢;exact⟨h1.1,ih h1.2⟩
theorem di3 {b:Blk}(h:alB b=Zb):alL b.vals=Zb:=by
 cases b with
 |dead=>rfl
 |cells es z l=>exact h
 |arr s z l=>
  simp only[Blk.vals];induction l with
  |nil=>rfl
  |cons x l ih=>rw[il];exact dz6 (bo2 x h) (ih h)
theorem thaw {c:Ctx}{S2:ai}{vs:List VV}{as:List Value}(hR:ec c)(hle:Le c ctf)(hRf:ec ctf)(hf:F2 (VRel ctf) vs as)(hal:alL vs=Zb)(hlen:S2.length=ctf.S.length)(hμ: ∀k,k<c.S.length->ctf.μ k=c.μ k)
  (hk: ∀k,(ae S2 k=ae ctf.S k/\((ae ctf.S k).dim≠Z->((ae ctf.S k).frozen=Zb/\alB (ae ctf.S k)=Zb)∨(k<c.S.length/\ae ctf.S k=ae c.S k/\∀b y,c.μ k=Y b->c.σ.m b=Y y->ctf.σ.m b=Y y)))∨
   (k<c.S.length/\ae S2 k=ae c.S k/\ae ctf.S k=(ae c.S k).freeze/\((ae c.S k).dim≠Z->∀b y,c.μ k=Y b->c.σ.m b=Y y->ctf.σ.m b=Y y))):
  Le c ⟨ctf.μ,S2,ctf.σ,ctf.fb⟩/\ec ⟨ctf.μ,S2,ctf.σ,ctf.fb⟩/\F2 (VRel ⟨ctf.μ,S2,ctf.σ,ctf.fb⟩) vs as:=by
 have hd: ∀k,(ae S2 k).dim=(ae ctf.S k).dim:=by
  intro k;rcases hk k with⟨h,_⟩|⟨_,h1,h2,_⟩
  .rw[h]
  .rw[h1,h2,gb]
 have hle2:Le c ⟨ctf.μ,S2,ctf.σ,ctf.fb⟩:=by
  refine⟨by rw[hlen];exact hle.len,λk d hkl h=>hle.al k d hkl (by rw[<-hd];exact h),λk hz hdm=> ?_,λk d b y hkl h=>hle.ln k d b y hkl (by rw[<-hd];exact h),hle.un,λb y hy hn=> ?_,hle.n,hle.fb⟩
  .rcases hk k with⟨h,_⟩|⟨_,h1,h2,_⟩
   .rw[h];exact hle.fz k hz hdm
   .exact h1
  .rintro⟨k,h1,h2⟩;rcases hk k with⟨h,_⟩|⟨h3,h4,h5,_⟩
   .exact hle.ow b y hy hn ⟨k,by rw[<-h];exact h1,h2⟩
   .exact hn ⟨k,by rw[<-h4];exact h1,by rw[<-hμ k h3];exact h2⟩
 have hth: ∀{v:VV} {a:Value},VRel ctf v a->alV v=Zb->VRel ⟨ctf.μ,S2,ctf.σ,ctf.fb⟩ v a:=λh1 h2=>VRel.thaw (ctf:=ctf) (ct:=⟨ctf.μ,S2,ctf.σ,ctf.fb⟩) rfl rfl hlen hd h1 h2
 have hths: ∀{l:List VV} {m:List Value},F2 (VRel ctf) l m->alL l=Zb->F2 (VRel ⟨ctf.μ,S2,ctf.σ,ctf.fb⟩) l m:=λh1 h2=>VRel.thaw.go (ctf:=ctf) (ct:=⟨ctf.μ,S2,ctf.σ,ctf.fb⟩) rfl rfl hlen hd h1 h2
 refine⟨hle2,⟨hRf.ok,λk k' b hz hdm hm hm'=> ?_,λk=> ?_,λk b hdm hm=>hRf.fbk k b (by rw[<-hd];exact hdm) hm,hRf.fbl⟩,hths hf hal⟩
 .have hdm':(ae ctf.S k').dim≠Z:=by rw[<-hd];exact hdm
  rcases hk k with⟨h,_⟩|⟨h3,h4,h5,_⟩
  .exact hRf.inj k k' b (by rw[<-h];exact hz) hdm' hm hm'
  .rw[h4]at hz;rw[hμ k h3]at hm
   have hcase:(k'<c.S.length/\(ae c.S k').dim≠Z)∨(ae ctf.S k').frozen=Zb:=by
    rcases hk k' with⟨g1,g2⟩|⟨g1,g2,g3,_⟩
    .rcases g2 hdm' with⟨g2,_⟩|⟨g2,g3,_⟩
     .exact .inr g2
     .exact .inl ⟨g2,by rw[<-g3];exact hdm'⟩
    .exact .inl ⟨g1,by rw[<-g2];exact hdm⟩
   rcases hcase with⟨g1,g2⟩|g1
   .rw[hμ k' g1]at hm';exact hR.inj k k' b hz g2 hm hm'
   .exact(hRf.inj k' k b g1 (by rw[h5,gb];exact sq hz) hm' (by rw[hμ k h3];exact hm)).symm
 .intro d hdd
  have old:k<c.S.length->ae S2 k=ae c.S k->(∀b y,c.μ k=Y b->c.σ.m b=Y y->ctf.σ.m b=Y y)->1<=d.1/\
   ((d.2=0/\ctf.μ k=Z)∨∃b y cs rest,ctf.μ k=Y b/\ctf.σ.m b=Y y/\y.es=d.1/\((ae S2 k).frozen=Zb->y.own=Za)/\y.cells=cs++rest/\F2 (VRel ⟨ctf.μ,S2,ctf.σ,ctf.fb⟩) (ae S2 k).vals cs):=by
   intro h1 h2 h3;obtain⟨q1,q2⟩:=hR.blk k d (by rw[<-h2];exact hdd);refine⟨q1, ?_⟩;rcases q2 with⟨q2,q3⟩|⟨b,y,cs,rest,q2,q3,q4,q5,q6,q7⟩
   .exact .inl ⟨q2,(hμ k h1).trans q3⟩
   .exact .inr ⟨b,y,cs,rest,(hμ k h1).trans q2,h3 b y q2 q3,q4,by rw[h2];exact q5,q6,by rw[h2];exact VRel.frames hle2 q7⟩
  rcases hk k with⟨h,h'⟩|⟨h3,h4,h5,h6⟩
  .have hdf:(ae ctf.S k).dim=Y d:=by rw[<-hd];exact hdd
   rcases h' (by rw[hdf];simp)with⟨h1,h2⟩|⟨h1,h2,h3⟩
   .obtain⟨q1,q2⟩:=hRf.blk k d hdf;refine⟨q1, ?_⟩;rcases q2 with q2|⟨b,y,cs,rest,q2,q3,q4,q5,q6,q7⟩
    .exact .inl q2
    .exact .inr ⟨b,y,cs,rest,q2,q3,q4,by rw[h];exact q5,q6,by rw[h];exact hths q7 (di3 h2)⟩
   .exact old h1 (h.trans h2) h3
  .exact old h3 h4 (h6 (by rw[<-h4,hdd];simp))
end
end
end Go.V
