/- A part of the proofs of this claim: what functions of the program answer on an abstract machine, and plain laws. No condition. -/
import Derived.Test.YtpipfcfblmfnjaaGreatA3
set_option linter.unusedVariables false
set_option linter.unusedSimpArgs false
set_option linter.unusedSectionVars false
namespace Go.V
open Go.Ab
section
open Bool renaming and_eq_true → aW
open List renaming length_append → bH
open Nat renaming eq_of_beq_eq_true → aB, mul_le_mul_right → aD, add_mul → aX, le_refl → aY, le_of_ble_eq_true → aZ, beq → bA, le_trans → bB, add_assoc → bC, eq_of_mul_eq_mul_right → bD, mul_div_cancel → bE, zero_add → bF
open Option renaming map_some → bG, map_none → bI
section
variable {β:Type} {T:fB} {c:Ctx} {e:ed} {ea:dM} {k:VV→co→Option β} {y:β} {d:List Nat}
theorem SlR.len {q lo n:Nat}{dm:Nat×Nat}{a:Value}(h:SlR c q lo n dm a): ∃p cp,a= .slice p n cp∧n≤cp:=by
 rcases h with⟨rfl,_,rfl,_,_⟩|⟨b,cp,x,rfl,_,_,h,_⟩
 ·exact⟨none,0,rfl,aY _⟩
 ·exact⟨_,cp,rfl,h⟩
theorem cj0 (hR:eI c){v:VV}{a:Value}{n:Nat}(h:lenOf c.S v=some n)(hv:VRel c v a)(hs: ∀l,v≠ .str l): ∃p cp,a= .slice p n cp∧n≤cp:=by
 cases v<;>simp only[lenOf]at h<;>try(cases h;done)
 case nils=>injection h with h;subst h;cases hv;exact⟨none,0,rfl,aY _⟩
 case str l=>exact(hs l rfl).elim
 case lst s l=>
  injection h with h;subst h
  cases hv with
  |lstn=>exact⟨_,0,rfl,aY _⟩
  |lst _ _ _ h1 h2 _ _=>subst h1;exact⟨_,_,rfl,h2⟩
 case part q lo m=>
  cases hl:(cl c.S q).live with
  |false=>rw[hl]at h;cases h
  |true=>
   rw[hl]at h;injection h with h;subst h
   obtain⟨dd,hh⟩:=pW hl;cases hv with
   |part hk _ hd=>exact(hd dd hh).len
 case full q=>
  cases hv with
  |full hk _ hd=>
   cases hb:cl c.S q with
   |dead=>rw[hb]at h;cases h
   |arr s z l=>
    rw[hb]at h;injection h with h;subst h
    obtain⟨n,h1,h2⟩:=hd (s.w,l.length*s.w) (by rw[hb];rfl);have:n=l.length:=bD (kv s) h1;subst this;exact h2.len
   |cells es z l=>
    rw[hb]at h;injection h with h;subst h
    obtain⟨n,h1,h2⟩:=hd (es,l.length) (by rw[hb];rfl);have h3:=(hR.blk q (es,l.length) (by rw[hb];rfl)).1
    have:n=l.length / es:=by
     simp only at h1 h3;rw[←h1,bE _ h3]
    subst this;exact h2.len
theorem cE1 (hR:eI c)(he:cy c e ea){x:Operand}{n:Nat}(hs: ∀l,ev e x≠ .str l)(hn:lenOf c.S (ev e x)=some n)(h:k (.int .i64 n) c.S=some y):dv T (.len x) ea c.σ (ia c d k y):=by
 obtain⟨p,cp,h1,_⟩:=cj0 hR hn (dy he x) hs;exact dK (by simp only[AOp.run,h1]) (ia.same hR (.int _ _) h)
theorem aS4 (he:cy c e ea){lo:Option Operand}{a:Int}{m:Nat}(h:af1 (lo.map (ev e))=some a)(h0:0≤a)(hm:a≤m):me m 0 (lo.map ea.ev)=some a.toNat:=by
 cases lo with
 |none=>
  simp only[bI,af1]at h;injection h with h;subst h
  rfl
 |some x=>
  simp only[bG,af1]at h⊢;obtain⟨kd,h1⟩:=aU4 h (dy he x);rw[h1];exact zE ⟨h0,hm⟩
theorem aS2 (he:cy c e ea){hi:Option Operand}{b:Int}{n cp:Nat}(h:ul n (hi.map (ev e))=some b)(h0:0≤b)(hm:b≤n)(hc:n≤cp):me cp n (hi.map ea.ev)=some b.toNat:=by
 cases hi with
 |none=>
  simp only[bI,ul]at h;injection h with h;subst h
  simp[me]
 |some x=>
  simp only[bG,ul]at h⊢;obtain⟨kd,h1⟩:=aU4 h (dy he x);rw[h1];exact zE ⟨h0,by omega⟩
theorem qz {a b:Int}{n:Nat}(h:gp a b n=true):0≤a∧a≤b∧b≤n:=by
 unfold gp at h;rw[aW,aW]at h;exact⟨of_decide_eq_true h.1.1,of_decide_eq_true h.1.2,of_decide_eq_true h.2⟩
theorem aj9 (he:cy c e ea){es:Nat}{x:Operand}{lo hi:Option Operand}{p:Option Addr}{n cp:Nat}{a b:Int}(hx:ea.ev x= .slice p n cp)(hn:n≤cp)(hp:cp≠0→∀q,p=some q→∃z,c.σ.m q.block=some z∧z.es=es)
  (hlo:af1 (lo.map (ev e))=some a) (hhi:ul n (hi.map (ev e))=some b) (hg:gp a b n=true):(AOp.slice es x lo hi).run ea c.σ=some (.slice (p.map (bf1 · (a.toNat*es))) (b.toNat-a.toNat) (cp-a.toNat),c.σ):=by
 obtain⟨h1,h2,h3⟩:=qz hg
 have hm:(cp==0||vZ c.σ es p lo)=true:=by
  by_cases hc:cp=0
  ·simp[hc]
  ·unfold vZ;split
   ·simp
   ·simp
   ·rename_i q;obtain⟨z,h4,h5⟩:=hp hc q rfl;rw[h4];simp[h5]
 simp only[AOp.run,hx,hm,if_true,aS2 he hhi (by omega) h3 hn,aS4 he hlo h1 (m:=b.toNat) (by omega)]
theorem SlR.cut {q lo n:Nat}{dm:Nat×Nat}{p:Option Addr}{cp A B:Nat}(h:SlR c q lo n dm (.slice p n cp))(hA:A≤B)(hB:B≤n):SlR c q (lo+A) (B-A) dm (.slice (p.map (bf1 · (A*dm.1))) (B-A) (cp-A)):=by
 rcases h with⟨h1,h2,h3,h4,h5⟩|⟨b,cp',z,h1,h2,h3,h4,h5,h6⟩
 ·injection h1 with e1 e2 e3
  subst e1;subst e3;have:A=0:=by omega
  have:B=0:=by omega
  subst A;subst B;exact .inl ⟨rfl,by omega,rfl,h4,h5⟩
 ·injection h1 with e1 e2 e3
  subst e1;subst e3;refine .inr ⟨b,cp-A,z, ?_,h2,bB (aD _ (by omega)) h3,by omega,h5,bB (aD _ (by omega)) h6⟩;simp only[bG,bf1,aX]
theorem SlR.es (hR:eI c){q lo n cp:Nat}{dm:Nat×Nat}{p:Option Addr}(hd:(cl c.S q).dim=some dm)(h:SlR c q lo n dm (.slice p n cp)): ∀z,p=some z→∃blk,c.σ.m z.block=some blk∧blk.es=dm.1:=by
 intro z hz;subst hz;rcases h with⟨h1,_⟩|⟨b,cp',x,h1,h2,_,_,h5,_⟩
 ·cases h1
 ·injection h1 with e1 e2 e3
  injection e1 with e1
  subst e1;obtain⟨blk,_,_,h6,h7,_⟩:=hR.block hd h2;exact⟨blk,h6,h7⟩
theorem ax1 (hR:eI c)(he:cy c e ea){es q o n:Nat}{dm:Nat×Nat}{x:Operand}{lo hi:Option Operand}{a b:Int}(hd:(cl c.S q).dim=some dm)(hes:es=dm.1)(hs:SlR c q o n dm (ea.ev x))
  (hlo:af1 (lo.map (ev e))=some a) (hhi:ul n (hi.map (ev e))=some b) (hg:gp a b n=true) (h:k (.part q (o+a.toNat) (b.toNat-a.toNat)) c.S=some y):dv T (.slice es x lo hi) ea c.σ (ia c d k y):=by
 obtain⟨p,cp,hx,hn⟩:=hs.len;rw[hx]at hs;obtain⟨h1,h2,h3⟩:=qz hg;subst hes;refine dK (aj9 he hx hn (fun _=>hs.es hR hd) hlo hhi hg) (ia.same hR ?_ h);refine .part (jP (by rw[hd];simp)) rfl fun d' hd'=> ?_
 rw[hd]at hd';injection hd' with hd'
 subst hd';exact hs.cut (by omega) (by omega)
theorem tdt {α:Type}(L:List α){A B N p:Nat}(h:B≤N):((((L.drop p).take N).take B).drop A)=(L.drop (p+A)).take (B-A):=by
 rw[List.take_take,Nat.min_eq_left h,List.drop_take,List.drop_drop]
theorem co2 (hR:eI c)(he:cy c e ea){es:Nat}{x:Operand}{lo hi:Option Operand}(h:bP3 c.S es (ev e x) (lo.map (ev e)) (hi.map (ev e)) k=some y):dv T (.slice es x lo hi) ea c.σ (ia c d k y):=by
 have hx:=dy he x;unfold bP3 at h;cases hln:lenOf c.S (ev e x)with
 |none=>rw[hln]at h;cases h
 |some n=>
  rw[hln]at h;simp only at h;cases hlo:af1 (lo.map (ev e))with
  |none=>rw[hlo]at h;cases h
  |some a=>
   cases hhi:ul n (hi.map (ev e))with
   |none=>rw[hlo,hhi]at h;cases h
   |some b=>
    rw[hlo,hhi]at h;simp only at h;split at h
    ·rename_i hv;rw[hv]at hx hln;obtain⟨h1,h2⟩:=cx h
     have hn0:n=0:=by
      simp only[lenOf]at hln;injection hln with hln
      exact hln.symm
     subst hn0;obtain⟨h3,h4,h5⟩:=qz h1;have ha0:a=0:=by omega
     have hb0:b=0:=by omega
     subst a;subst b;have hxe:ea.ev x= .slice none 0 0:=by generalize ea.ev x=xa at hx;cases hx;rfl
     exact dK (aj9 he hxe (aY _) (fun _ q h=>by cases h) hlo hhi h1) (ia.same hR .nils h2)
    ·rename_i s l hv;rw[hv]at hx hln;simp only[lenOf]at hln;injection hln with hln
     subst hln;obtain⟨h1,h2⟩:=cx h;have hes:=aB h1
     have key:gp a b l.length=true→k (.lst s (bY4 l a b)) c.S=some y→dv T (.slice es x lo hi) ea c.σ (ia c d k y):=by
      intro hg hk;obtain⟨h3,h4,h5⟩:=qz hg;generalize hxa:ea.ev x=xa at hx;cases hx with
      |lstn hq=>
       have hb0:b=0:=by simp at h5;omega
       have ha0:a=0:=by omega
       subst a;subst b;refine dK (aj9 he hxa (aY _) (fun h=>(h rfl).elim) hlo hhi hg) (ia.same hR ?_ hk);refine .lstn fun z hz=> ?_
       obtain⟨z',_,h'⟩:=Option.map_eq_some_iff.1 hz;rw[←h'];rfl
      |lst hn hy he' h6 h7 h8 h9=>
       rename_i bb p cp z;refine dK (aj9 he hxa h7 (fun _ q h=>by injection h with h;subst h;exact⟨z,hy,he'.trans hes.symm⟩) hlo (by rw[h6];exact hhi) (by rw[h6];exact hg)) (ia.same hR ?_ hk);subst hes;have hlen:(bY4 l a b).length=b.toNat-a.toNat:=by simp only[bY4,List.length_drop,List.length_take];omega
       refine .lst hn hy he' hlen.symm (by omega) ?_ ?_
       ·have:a.toNat*s.w+(b.toNat-a.toNat)*s.w≤l.length*s.w:=by rw[←aX];exact aD _ (by omega)
        simp only;rw[h6]at h8;omega
       ·simp only[bY4];rw[ui,iY];have h10:=(h9.take (b.toNat*s.w)).drop (a.toNat*s.w);rw[tdt _ (by rw[h6];exact aD _ (by omega)),←Nat.sub_mul]at h10;exact h10
     split at h2
     ·rename_i e1 e2
      have hg:gp a b l.length=true:=by
       rw[e1]at hlo;rw[e2]at hhi;simp only[af1]at hlo;simp only[ul]at hhi;injection hlo with hlo
       injection hhi with hhi
       subst hlo;subst hhi;simp[gp]
      refine key hg ?_;rw[e1]at hlo;rw[e2]at hhi;simp only[af1]at hlo;simp only[ul]at hhi;injection hlo with hlo
      injection hhi with hhi
      subst hlo;subst hhi;simp only[bY4,Int.toNat_natCast,Int.toNat_zero,List.drop_zero,List.take_length];exact h2
     ·obtain⟨h3,h4⟩:=cx h2;exact key h3 h4
    ·rename_i q hv;rw[hv]at hx hln;cases hx with
     |full hk _ hd=>
      cases hb:cl c.S q with
      |dead=>rw[hb]at h;cases h
      |arr s z l=>
       rw[hb]at h;obtain⟨h1,h2⟩:=cx h;obtain⟨h3,h4⟩:=cx h2;simp only[lenOf,hb]at hln;injection hln with hln
       obtain⟨n',h5,h6⟩:=hd (s.w,l.length*s.w) (by rw[hb];rfl);have:n'=n:=by rw[←hln];exact bD (kv s) h5
       subst this;exact ax1 hR he (by rw[hb];rfl) (aB h1) h6 hlo hhi h3 (by rw[bF];exact h4)
      |cells es' z l=>
       rw[hb]at h;obtain⟨h1,h2⟩:=cx h;obtain⟨h3,h4⟩:=cx h2;rw[aW]at h1;simp only[lenOf,hb]at hln;injection hln with hln
       obtain⟨n',h5,h6⟩:=hd (es',l.length) (by rw[hb];rfl);have he1:=aB h1.1;have he2:=aZ h1.2
       have:n'=n:=by
        simp only at h5;rw[←hln,←h5,bE _ (by omega)]
       subst this;exact ax1 hR he (by rw[hb];rfl) he1 h6 hlo hhi h3 (by rw[bF];exact h4)
    ·rename_i q o m hv;rw[hv]at hx hln;cases hx with
     |part hk _ hd=>
      simp only[lenOf]at hln;cases hb:cl c.S q with
      |dead=>rw[hb]at h;cases h
      |arr s z l=>
       rw[hb]at h hln;injection hln with hln
       subst hln;obtain⟨h1,h2⟩:=cx h;obtain⟨h3,h4⟩:=cx h2;exact ax1 hR he (dm:=(s.w,l.length*s.w)) (by rw[hb];rfl) (aB h1) (hd _ (by rw[hb];rfl)) hlo hhi h3 h4
      |cells es' z l=>
       rw[hb]at h hln;injection hln with hln
       subst hln;obtain⟨h1,h2⟩:=cx h;obtain⟨h3,h4⟩:=cx h2;rw[aW]at h1;exact ax1 hR he (dm:=(es',l.length)) (by rw[hb];rfl) (aB h1.1) (hd _ (by rw[hb];rfl)) hlo hhi h3 h4
    ·cases h
theorem bd8 {blk:Blk}{dm:Nat×Nat}(h:blk.dim=some dm):blk.vals.length=dm.2:=by
 cases blk with
 |dead=>cases h
 |cells es z l=>injection h with h;subst h;rfl
 |arr s z l=>injection h with h;subst h;exact fS
theorem bG9 (hR:eI c)(he:cy c e ea){es n:Nat}{x:Operand}{lo hi:Option Operand}(h:aD3 c.S es n (ev e x) (lo.map (ev e)) (hi.map (ev e)) k=some y):dv T (.sliceArr es n x lo hi) ea c.σ (ia c d k y):=by
 have hx:=dy he x;unfold aD3 at h;split at h
 ·rename_i q o hv;rw[hv]at hx;split at h
  ·rename_i es' l hb;split at h
   ·rename_i a b hlo hhi;obtain⟨h1,h2⟩:=cx h;simp only[aW]at h1;obtain⟨⟨⟨⟨⟨h3,h4⟩,h5⟩,h6⟩,h7⟩,h8⟩:=h1;have h3:=aB h3;have h4:=aZ h4;have h5:=aB h5;have h6:=aZ h6;have h8:=of_decide_eq_true h8;obtain⟨h9,h10,h11⟩:=qz h7;subst h3;cases hx with
    |ptr hk _ hd=>
     have hdim:(cl c.S q).dim=some (es,l.length):=by rw[hb];rfl
     obtain⟨bb,hm,hp⟩:=hd _ hdim;obtain⟨z,cs,rest,h12,h13,h14,h15,h16⟩:=hR.block hdim hm;rw[hb]at h14 h16;have hl:=h16.length;simp only[Blk.vals]at hl;have hzl:l.length≤z.cells.length:=by rw[h15,bH,hl];omega
     have hdiv:o / es*es=o:=Nat.div_mul_cancel (Nat.dvd_of_mod_eq_zero h5);have hae:(o / es+a.toNat)*es=o+a.toNat*es:=by rw[aX,hdiv]
     refine dK (v:= .slice (some ⟨bb,o+a.toNat*es,none⟩) (b.toNat-a.toNat) (n-a.toNat)) (σ':=c.σ) ?_ (ia.same hR ?_ h2)
     ·simp only[AOp.run,hp,h12];rw[zE ⟨h14 rfl,h13,by omega⟩,aS2 he hhi (by omega) h11 (aY _)];simp only;rw[aS4 he hlo h9 (m:=b.toNat) (by omega)];simp only;rw[zE (by omega)]
     ·refine .part hk rfl fun d' hd'=> ?_
      rw[hdim]at hd';injection hd' with hd'
      subst hd';refine .inr ⟨bb,n-a.toNat,z,by simp only[hae],hm, ?_,by omega,h12, ?_⟩
      ·have h17:o / es+a.toNat+(b.toNat-a.toNat)=o / es+b.toNat:=by omega
       simp only;rw[h17,aX,hdiv];have:b.toNat*es≤n*es:=aD _ (by omega);omega
      ·have h17:o / es+a.toNat+(n-a.toNat)=o / es+n:=by omega
       simp only;rw[h17,aX,hdiv];omega
   ·cases h
  ·rename_i s l hb;split at h
   ·rename_i a b hlo hhi;obtain⟨h1,h2⟩:=cx h;simp only[aW]at h1;obtain⟨⟨⟨⟨h3,h5⟩,h6⟩,h7⟩,h8⟩:=h1;have h3:=aB h3;have h5:=aB h5;have h6:=aZ h6;have h8:=of_decide_eq_true h8;obtain⟨h9,h10,h11⟩:=qz h7;subst h3;subst h5;cases hx with
    |ptr hk _ hd=>
     have hdim:(cl c.S q).dim=some (s.w,l.length*s.w):=by rw[hb];rfl
     obtain⟨bb,hm,hp⟩:=hd _ hdim;obtain⟨z,cs,rest,h12,h13,h14,h15,h16⟩:=hR.block hdim hm;have hl:=h16.length;rw[bd8 hdim]at hl;rw[hb]at h14;have hle:n*s.w≤l.length*s.w:=aD _ h6;have hzl:l.length*s.w≤z.cells.length:=by rw[h15,bH];simp only at hl;omega
     have h17:(a.toNat+(b.toNat-a.toNat))*s.w≤l.length*s.w:=aD _ (by omega);have h18:(a.toNat+(n-a.toNat))*s.w≤l.length*s.w:=aD _ (by omega);refine dK (v:= .slice (some ⟨bb,0+a.toNat*s.w,none⟩) (b.toNat-a.toNat) (n-a.toNat)) (σ':=c.σ) ?_ (ia.same hR ?_ h2)
     ·simp only[AOp.run,hp,h12];rw[zE ⟨h14 rfl,h13,by omega⟩,aS2 he hhi (by omega) h11 (aY _)];simp only;rw[aS4 he hlo h9 (m:=b.toNat) (by omega)];simp only;rw[zE (by omega)]
     ·refine .part hk rfl fun d' hd'=> ?_
      rw[hdim]at hd';injection hd' with hd'
      subst hd';exact .inr ⟨bb,n-a.toNat,z,by simp only[bF],hm,h17,by omega,h12,by simp only;omega⟩
   ·cases h
  ·cases h
 ·cases h
theorem cE7 (hR:eI c)(he:cy c e ea){n:Nat}{x:Operand}(h:cb7 c.S (cv0 c.S n (ev e x)) k=some y):dv T (.off n x) ea c.σ (ia c d k y):=by
 have hx:=dy he x
 have key: ∀w b o,ea.ev x= .pointer (some ⟨b,o,none⟩)→VRel c w (.pointer (some ⟨b,o+n,none⟩))→k w c.S=some y→dv T (.off n x) ea c.σ (ia c d k y):=by
  intro w b o h1 hw hk;exact dK (by simp only[AOp.run,h1]) (ia.same hR hw hk)
 generalize ev e x=xv at*;cases xv<;>simp only[cv0]at h<;>try(cases h;done)
 case ptr q o=>
  cases hl:(cl c.S q).live with
  |false=>rw[hl]at h;cases h
  |true=>
   rw[hl]at h;obtain⟨dd,hdd⟩:=pW hl;cases hx with
   |ptr hk _ hd=>
    obtain⟨b,hm,hp⟩:=hd dd hdd;exact key _ b o hp (.ptr hk rfl fun d' _=>⟨b,hm,rfl⟩) h
 case pix q o m i=>
  cases hl:(cl c.S q).live with
  |false=>rw[hl]at h;cases h
  |true=>
   rw[hl]at h;obtain⟨dd,hdd⟩:=pW hl;cases hx with
   |pix hk h1 hi hd=>
    obtain⟨b,hm,hp⟩:=hd dd hdd;cases hn:bA n 0 with
    |false=>rw[hn]at h;cases h
    |true=>
     rw[hn]at h;have:=aB hn;subst this;exact key _ b (o+i) hp (.pix hk rfl hi fun d' _=>⟨b,hm,rfl⟩) h
 case pel q i o=>
  cases hl:(cl c.S q).live with
  |false=>rw[hl]at h;cases h
  |true=>
   rw[hl]at h;obtain⟨dd,hdd⟩:=pW hl;cases hx with
   |pel hk _ hd=>
    obtain⟨b,hm,hp⟩:=hd dd hdd;refine key _ b _ hp (.pel hk rfl fun d' hd'=>⟨b,hm, ?_⟩) h;rw[hdd]at hd';injection hd' with hd'
    subst hd';rw[bC]
 case pin s z o=>
  generalize hxa:ea.ev x=xa at hx;cases hx with
  |pin hn hy hl hf=>
   refine key _ _ _ hxa ?_ h;rw[bC];exact .pin hn hy hl hf
theorem bT3 {es:Nat}{x i:Operand}{b o n cp:Nat}{kd:IntKind}{z:Int}(hx:ea.ev x= .slice (some ⟨b,o,none⟩) n cp)(hi:ea.ev i= .int kd z)(h0:0≤z)(hn:z<n):
  (AOp.idx es x i).run ea c.σ=some (.pointer (some ⟨b,o+z.toNat*es,none⟩),c.σ):=by
 simp only[AOp.run,hx,hi];rw[zE ⟨h0,hn⟩]
theorem wM (hR:eI c)(he:cy c e ea){es q o n:Nat}{dm:Nat×Nat}{x i:Operand}{z:Int}{w:VV}{kd:IntKind}(hs:SlR c q o n dm (ea.ev x))(hi:ea.ev i= .int kd z)(h0:0≤z)(hn:z<n)
  (hw: ∀b,c.μ q=some b→VRel c w (.pointer (some ⟨b,o*dm.1+z.toNat*es,none⟩))) (hk:k w c.S=some y):dv T (.idx es x i) ea c.σ (ia c d k y):=by
 rcases hs with⟨_,_,h3,_,_⟩|⟨b,cp,x',h1,h2,_⟩
 ·omega
 ·exact dK (bT3 h1 hi h0 hn) (ia.same hR (hw b h2) hk)
theorem cD5 (hR:eI c)(he:cy c e ea){es:Nat}{x i:Operand}(h:ct3 c.S es (ev e x) (ev e i) k=some y):dv T (.idx es x i) ea c.σ (ia c d k y):=by
 have hx:=dy he x;have hi:=dy he i;unfold ct3 at h;split at h
 ·rename_i kd z hz;rw[hz]at hi;have hi:=hi.int_inv;split at h
  ·rename_i s l hv;rw[hv]at hx;obtain⟨h1,h2⟩:=cx h;have h1:=aB h1;obtain⟨el,h3,h4⟩:=cm h2;obtain⟨h5,h6,h7⟩:=bV1 h3;generalize hxa:ea.ev x=xa at hx;cases hx with
   |lstn=>simp at h6;omega
   |lst hn hy he' h8 h9 h10 h11=>
    rename_i b p cp blk;subst h1;refine dK (bT3 hxa hi h5 (by rw[h8];exact h6)) (ia.same hR ?_ h4);have h12:z.toNat*s.w+s.w≤l.length*s.w:=by rw[←Nat.succ_mul];exact aD _ (by omega)
    have h13:=(h11.drop (z.toNat*s.w)).take s.w;rw[aB7 h7,List.drop_take,List.drop_drop,List.take_take,Nat.min_eq_left (by rw[h8];omega)]at h13;exact VRel.pin (o:=0) hn hy (by rw[h8]at h10;exact bB (Nat.le_of_eq (bC _ _ _)) (bB (Nat.add_le_add_left h12 _) h10)) h13
  ·rename_i q hv;rw[hv]at hx;cases hx with
   |full hk _ hd=>
    cases hb:cl c.S q with
    |dead=>rw[hb]at h;cases h
    |arr s z' l=>
     rw[hb]at h;obtain⟨h1,h2⟩:=cx h;obtain⟨j,h3,h4⟩:=cm h2;obtain⟨h5,h6,rfl,h7⟩:=aj1 h3;have hdim:(cl c.S q).dim=some (s.w,l.length*s.w):=by rw[hb];rfl
     obtain⟨n,h8,h9⟩:=hd _ hdim;have:n=l.length:=bD (kv s) h8;subst this;refine wM hR he h9 hi h5 h6 (fun b hm=> .pel hk rfl fun d' hd'=>⟨b,hm, ?_⟩) h4;rw[hdim]at hd';injection hd' with hd'
     subst hd';rw[aB h1];simp
    |cells es' z' l=>
     rw[hb]at h;obtain⟨h1,h2⟩:=cx h;rw[aW]at h1;have h11:=aB h1.1;have h12:=aZ h1.2;subst h11;obtain⟨j,h3,h4⟩:=cm h2;obtain⟨h5,h6,rfl,h7⟩:=aj1 h3;have hdim:(cl c.S q).dim=some (es,l.length):=by rw[hb];rfl
     obtain⟨n,h8,h9⟩:=hd _ hdim
     have hn:n=l.length / es:=by
      simp only at h8;rw[←h8,bE _ (by omega)]
     cases he1:bA es 1 with
     |true=>
      rw[he1]at h4;have he1:=aB he1;subst he1;refine wM hR he h9 hi h5 (by rw[hn];exact h6) (fun b hm=> .pix hk rfl (by rw[Nat.div_one]at h7;exact h7) fun d' hd'=>⟨b,hm,by simp⟩) h4
     |false=>
      rw[he1]at h4;refine wM hR he h9 hi h5 (by rw[hn];exact h6) (fun b hm=> .ptr hk rfl fun d' hd'=>⟨b,hm,by simp⟩) h4
  ·rename_i q o n hv;rw[hv]at hx;cases hx with
   |part hk _ hd=>
    cases hb:cl c.S q with
    |dead=>rw[hb]at h;cases h
    |arr s z' l=>
     rw[hb]at h;obtain⟨h1,h2⟩:=cx h;obtain⟨j,h3,h4⟩:=cm h2;obtain⟨h5,h6,rfl,h7⟩:=aj1 h3;have hdim:(cl c.S q).dim=some (s.w,l.length*s.w):=by rw[hb];rfl
     refine wM hR he (hd _ hdim) hi h5 h6 (fun b hm=> .pel hk rfl fun d' hd'=>⟨b,hm, ?_⟩) h4;rw[hdim]at hd';injection hd' with hd'
     subst hd';rw[aB h1,aX];simp
    |cells es' z' l=>
     rw[hb]at h;obtain⟨h1,h2⟩:=cx h;rw[aW]at h1;have h11:=aB h1.1;subst h11;obtain⟨j,h3,h4⟩:=cm h2;obtain⟨h5,h6,rfl,h7⟩:=aj1 h3;have hdim:(cl c.S q).dim=some (es,l.length):=by rw[hb];rfl
     cases he1:bA es 1 with
     |true=>
      rw[he1]at h4;have he1:=aB he1;subst he1;refine wM hR he (hd _ hdim) hi h5 h6 (fun b hm=> .pix hk rfl h7 fun d' hd'=>⟨b,hm,by simp⟩) h4
     |false=>
      rw[he1]at h4;refine wM hR he (hd _ hdim) hi h5 h6 (fun b hm=> .ptr hk rfl fun d' hd'=>⟨b,hm,by simp[aX]⟩) h4
  ·cases h
 ·cases h
theorem ct2 (hR:eI c)(he:cy c e ea){ln es:Nat}{x i:Operand}(h:bT2 c.S ln es (ev e x) (ev e i) k=some y):dv T (.idxA ln es x i) ea c.σ (ia c d k y):=by
 have hx:=dy he x;have hi:=dy he i;unfold bT2 at h;split at h
 ·rename_i q o kd z hv hz;rw[hv]at hx;rw[hz]at hi;have hi:=hi.int_inv;obtain⟨hl,h⟩:=cx h;obtain⟨j,h3,h4⟩:=cm h;obtain⟨h5,h6,rfl,h7⟩:=aj1 h3;cases hx with
  |ptr hk _ hd=>
    obtain⟨dd,hdd⟩:=pW hl;obtain⟨b,hm,hp⟩:=hd dd hdd
    have hrun:(AOp.idxA ln es x i).run ea c.σ=some (.pointer (some ⟨b,o+z.toNat*es,none⟩),c.σ):=by
     simp only[AOp.run,hp,hi];rw[zE ⟨h5,h6⟩]
    refine dK hrun ?_;cases he1:bA es 1 with
    |true=>
     rw[he1]at h4;have he1:=aB he1;subst he1;exact ia.same hR (.pix hk rfl h7 fun d' hd'=>⟨b,hm,by simp⟩) h4
    |false=>
     rw[he1]at h4;exact ia.same hR (.ptr hk rfl fun d' hd'=>⟨b,hm,rfl⟩) h4
 ·cases h
end
end
section
open Bool renaming and_eq_true → aW
open List renaming length_append → aZ, length_take → bA, take_of_length_le → bB, replicate → bG, length_drop → bI, length_nil → bJ, drop_zero → bL, replicate_succ → bM, append_assoc → bN, flatten_cons → bO, take_take → bP, drop_eq_nil_of_le → bW, getD_eq_getElem?_getD → bX, length_cons → bY, take_append_of_le_length → bZ
open Nat renaming beq → aB, eq_of_beq_eq_true → aD, le_refl → aX, zero_add → aY, add_mul → bC, le_of_ble_eq_true → bD, eq_of_mul_eq_mul_right → bE, mul_le_mul_right → bF, ble → bH, min_eq_left → bK, eq_zero_or_pos → bQ, min_le_left → bR, mul_div_cancel → bS, mul_one → bT, mul_pos → bU, zero_mul → bV, le_of_mul_le_mul_right → cA, mul_le_mul_left → cB
open Option renaming getD_some → cC
section
variable {β:Type} {T:fB} {c:Ctx} {e:ed} {ea:dM} {k:VV→co→Option β} {y:β} {d:List Nat}
theorem wP : ∀{z:List Value} {s:Sh},aG8 z=some s→F2 (VRel c) (ei s (pZ s)) z
 |[],s,h=>by simp[aG8]at h
 |v::r,s,h=>by
  unfold aG8 at h;split at h
  ·rename_i h0;injection h0 with h1 h2
   subst h1;subst h2;injection h with h;subst h
   exact .cons (.int _ _) .nil
  ·rename_i h0;injection h0 with h1 h2
   subst h1;subst h2;injection h with h;subst h
   exact .cons (.bool _) .nil
  ·rename_i h0;injection h0 with h1 h2
   subst h1;subst h2;obtain⟨s',h3,h4⟩:=cm h;injection h4 with h4;subst h4
   exact .cons (.int _ _) (wP h3)
  ·rename_i h0;injection h0 with h1 h2
   subst h1;subst h2;obtain⟨s',h3,h4⟩:=cm h;injection h4 with h4;subst h4
   exact .cons (.bool _) (wP h3)
  ·cases h
theorem ob {s:Sh}{x:El s}: ∀n,fg s (bG n x)=(bG n (ei s x)).flatten
 |0=>rfl
 |n+1=>by rw[bM,fK,ob n,bM,bO]
theorem bj3 (z:List Value)(m n:Nat):er z (m+n)=er z m++er z n:=by
 simp only[er];rw[←List.replicate_append_replicate,List.flatten_append]
theorem bj4 (z:List Value)(n:Nat):(er z n).length=n*z.length:=by
 simp[er,List.length_flatten,List.map_replicate]
theorem cu1 (hR:eI c)(he:cy c e ea){es bytes:Nat}{z:List Value}{l m:Operand}(h:cj7 c.S es bytes z (ev e l) (ev e m) k=some y):dv T (.makeSlice es bytes z l m) ea c.σ (ia c d k y):=by
 have hl:=dy he l;have hm:=dy he m;unfold cj7 at h;split at h
 ·rename_i k1 a k2 b s h1 h2 hs;rw[h1]at hl;rw[h2]at hm;obtain⟨hg,hk⟩:=cx h;simp only[aW]at hg;obtain⟨⟨⟨⟨g1,g2⟩,g3⟩,g4⟩,g5⟩:=hg;have g1:=aD g1;have g2:=of_decide_eq_true g2;have g3:=of_decide_eq_true g3;have g4:=of_decide_eq_true g4;have g5:=bD g5;have hz:=wP (c:=c) hs;have hzl:z.length=s.w:=by rw[←hz.length,eu]
  have hb:b≤bytes*b:=by
   have:(1:Int)*b≤bytes*b:=Int.mul_le_mul_of_nonneg_right (by omega) (by omega);omega
  refine dK (v:= .slice (some ⟨c.σ.n,0,none⟩) a.toNat b.toNat) (σ':=c.σ.add ⟨er z b.toNat,true,es⟩) ?_ ?_
  ·simp only[AOp.run,hl.int_inv,hm.int_inv];rw[zE ⟨g2,g3,by omega,by omega⟩]
  ·have hab:er z b.toNat=er z a.toNat++er z (b.toNat-a.toNat):=by rw[←bj3];congr 1;omega
   have hrel:F2 (VRel c) (fg s (bG a.toNat (pZ s))) (er z a.toNat):=by
    rw[ob];clear hab;generalize a.toNat=n;induction n with
    |zero=>exact .nil
    |succ n ih=>
     simp only[er,bM,bO]at ih⊢;exact hz.append ih
   have hmv:Moves c none (some c.σ.n) (.arr s false (bG a.toNat (pZ s))) (c.σ.add ⟨er z b.toNat,true,es⟩):=by
    refine⟨(fun b h _ hb=>by injection h with h;subst h;exact Nat.lt_irrefl _ (hR.fbl _ hb)),(fun _ h=>by cases h),fun q x hx=> ?_,Nat.le_succ _,fun i x hx _=> ?_,(s.w,(bG a.toNat (pZ s)).length*s.w),rfl,kv s, .inr ⟨c.σ.n,⟨er z b.toNat,true,es⟩,er z a.toNat,er z (b.toNat-a.toNat),rfl,zE rfl,g1,fun _=>rfl,hab,hrel, .inl fun w hw=> ?_⟩⟩
    ·simp only[Hp.add]at hx⊢;split at hx
     ·omega
     ·have:=hR.ok q x hx;omega
    ·have:=hR.ok i x hx;simp only[Hp.add];rw[zF (by omega)];exact hx
    ·have:=hR.ok _ _ hw;omega
   refine ia.new (kill:=none) hR hmv (fun _ h=>by cases h) (ut (dm:=(s.w,(bG a.toNat (pZ s)).length*s.w)) (n:=a.toNat) (m:=b.toNat) (yb:=⟨er z b.toNat,true,es⟩) rfl (by simp) (by omega) (zE rfl) ?_) hk;rw[bj4,hzl];exact aX _
 ·cases h
def More.cellsOf :More→List VV
 | .cells l=>l
 | .lst s l=>fg s l
theorem aW0 {x:Ab.Blk}{o n m:Nat}(h:o+n≤x.cells.length)(hm:m≤n):mK x o m=some (((x.cells.drop o).take n).take m):=by
 unfold mK;rw[zE (by omega),bP,bK hm]
theorem aj6 (hR:eI c){q o n es:Nat}{dm:Nat×Nat}{a:Value}(hd:(cl c.S q).dim=some dm)(he:dm.1=es)(hs:SlR c q o n dm a):
  ∃all,am3 a=some n∧(∀m,m≤n→c.σ.slice es a m=some (all.take (m*es)))∧all.length=n*es∧F2 (VRel c) (((cl c.S q).vals.drop (o*es)).take (n*es)) all:=by
 subst he;rcases hs with⟨rfl,rfl,rfl,hm,hz⟩|⟨b,cp,x,rfl,hm,h3,h4,hx,h5⟩
 ·refine⟨[],rfl,fun m hm'=> ?_,by simp,by simp;exact .nil⟩;have:m=0:=by omega
  subst this;simp[Hp.slice]
 ·obtain⟨y0,cs,rest,h6,_,_,h7,h8⟩:=hR.block hd hm;rw[hx]at h6;injection h6 with h6
  subst h6;have hl:=h8.length
  have hvl:(cl c.S q).vals.length=dm.2:=by
   generalize cl c.S q=blk at hd;cases blk with
   |dead=>cases hd
   |cells es z l=>injection hd with hd;subst hd;rfl
   |arr s z l=>injection hd with hd;subst hd;exact fS
  rw[bC]at h3;have h9:((cs.drop (o*dm.1)).take (n*dm.1)).length=n*dm.1:=by rw[bA,bI];omega
  refine⟨(cs.drop (o*dm.1)).take (n*dm.1),rfl,fun m hm'=> ?_,h9,(h8.drop _).take _⟩;have h10:m*dm.1≤n*dm.1:=bF _ hm';by_cases hm0:m=0
  ·subst hm0;simp[Hp.slice]
  simp only[Hp.slice,hx,zF hm0];rw[aW0 (n:=n*dm.1) (by rw[h7,aZ];omega) h10,h7,List.drop_append_of_le_length (by omega),bZ (l₁:=cs.drop (o*dm.1)) (by rw[bI];omega)]
theorem wL (hR:eI c){es:Nat}{v:VV}{a:Value}{m:More}(h:aC5 c.S es v=some m)(hv:VRel c v a):
  ∃n all,am3 a=some n∧(∀i,i≤n→c.σ.slice es a i=some (all.take (i*es)))∧all.length=n*es∧F2 (VRel c) m.cellsOf all∧(∀s l,m= .lst s l→es=s.w∧n=l.length):=by
 cases v<;>simp only[aC5]at h<;>try(cases h;done)
 case nils=>
  injection h with h;subst h
  cases hv;refine⟨0,[],rfl,fun i hi=> ?_,by simp, .nil,fun s l h=>by cases h⟩;have:i=0:=by omega
  subst this;simp[Hp.slice]
 case str l=>
  cases he:aB es 1 with
  |false=>rw[he]at h;cases h
  |true=>
   rw[he]at h;have he:=aD he;subst he;injection h with h;subst h
   obtain⟨s,rfl,rfl⟩:=hv.str_inv;refine⟨s.size,s.data.toList.map fun b=> .int .u8 b.toNat,rfl,fun i hi=> ?_,by simp, ?_,fun s' l h=> ?_⟩
   ·simp only[Hp.slice,if_true,bT];simp[ByteArray.data_extract,Array.toList_extract,List.extract_eq_take_drop,List.map_take]
   ·simp only[More.cellsOf,gM,fg];generalize s.data.toList=l;induction l with
    |nil=>exact .nil
    |cons b l ih=>exact .cons (.int _ _) ih
   ·injection h with h1 h2
    subst h1;cases h2;exact⟨rfl,(vj s).symm⟩
 case lst s l=>
  cases he:aB es s.w with
  |false=>rw[he]at h;cases h
  |true=>
   rw[he]at h;have he:=aD he;subst he;injection h with h;subst h
   refine⟨l.length, ?_⟩;rcases hv.listAt with⟨qq,rfl,rfl,hqq⟩|⟨b,p,cp,x,rfl,h1,h2,h3,h4,h5⟩
   ·refine⟨[],rfl,fun i hi=> ?_,by simp, .nil,fun s' l h=>by injection h with h1 h2;subst h1;cases h2;exact⟨rfl,rfl⟩⟩;have:i=0:=by simp at hi;exact hi
    subst this;cases qq with
    |none=>simp[Hp.slice]
    |some z=>
     have:=hqq z rfl;obtain⟨zb,zo,zs⟩:=z;simp only at this;subst this;simp[Hp.slice]
   ·refine⟨(x.cells.drop p).take (l.length*s.w),rfl,fun i hi=> ?_,by rw[←h5.length,fS],h5,fun s' l' h=>by injection h with h1 h2;subst h1;cases h2;exact⟨rfl,rfl⟩⟩;by_cases hi0:i=0
    ·subst hi0;simp[Hp.slice]
    simp only[Hp.slice,h1,zF hi0];exact aW0 h4 (bF _ hi)
 case full q=>
  cases hv with
  |full hk _ hd=>
   cases hb:cl c.S q with
   |dead=>rw[hb]at h;cases h
   |arr s z l=>
    rw[hb]at h;cases he:aB es s.w with
    |false=>simp only[he]at h;cases h
    |true=>
     simp only[he]at h;have he:=aD he;subst he;injection h with h;subst h
     have hdim:(cl c.S q).dim=some (s.w,l.length*s.w):=by rw[hb];rfl
     obtain⟨n,h1,h2⟩:=hd _ hdim;have:n=l.length:=bE (kv s) h1;subst this;obtain⟨all,h3,h4,h5,h6⟩:=aj6 hR hdim rfl h2;rw[hb,bV,bL,bB (by simp[Blk.vals,fS])]at h6;exact⟨_,all,h3,h4,h5,h6,fun s' l' h=>by injection h with h1 h2;subst h1;cases h2;exact⟨rfl,rfl⟩⟩
   |cells es' z l=>
    rw[hb]at h;cases he:(aB es es'&&bH 1 es)with
    |false=>simp only[he]at h;cases h
    |true=>
     simp only[he]at h;rw[aW]at he;have he1:=aD he.1;subst he1;injection h with h;subst h
     have hdim:(cl c.S q).dim=some (es,l.length):=by rw[hb];rfl
     obtain⟨n,h1,h2⟩:=hd _ hdim;obtain⟨all,h3,h4,h5,h6⟩:=aj6 hR hdim rfl h2;simp only at h1;rw[hb,bV,bL,h1,bB (by exact aX _)]at h6;exact⟨_,all,h3,h4,h5,h6,fun s' l' h=>by cases h⟩
 case part q o n=>
  cases hv with
  |part hk _ hd=>
   cases hb:cl c.S q with
   |dead=>rw[hb]at h;cases h
   |arr s z l=>
    rw[hb]at h;cases he:aB es s.w with
    |false=>simp only[he]at h;cases h
    |true=>
     simp only[he]at h;have he:=aD he;subst he;injection h with h;subst h
     have hdim:(cl c.S q).dim=some (s.w,l.length*s.w):=by rw[hb];rfl
     have h2:=hd _ hdim;obtain⟨all,h3,h4,h5,h6⟩:=aj6 hR hdim rfl h2;rw[hb]at h6;simp only[Blk.vals]at h6;rw[←ui,←iY]at h6
     have h7:n=((l.drop o).take n).length:=by
      have:=h6.length;rw[fS,h5]at this;exact(bE (kv s) this).symm
     exact⟨_,all,h3,h4,h5,h6,fun s' l' h=>by injection h with h1 h2;subst h1;cases h2;exact⟨rfl,h7⟩⟩
   |cells es' z l=>
    rw[hb]at h;cases he:(aB es es'&&bH 1 es)with
    |false=>simp only[he]at h;cases h
    |true=>
     simp only[he]at h;rw[aW]at he;have he1:=aD he.1;subst he1;injection h with h;subst h
     have hdim:(cl c.S q).dim=some (es,l.length):=by rw[hb];rfl
     have h2:=hd _ hdim;obtain⟨all,h3,h4,h5,h6⟩:=aj6 hR hdim rfl h2;rw[hb]at h6;exact⟨_,all,h3,h4,h5,h6,fun s' l' h=>by cases h⟩
def Base.cellsOf :Base→List VV
 | .none=>[]
 | .cells _ l=>l
 | .arr s l=>fg s l
structure BaseAt (c:Ctx)(es sl:Nat)(base:Base)(kill:Option Nat)(a:Value):Prop where
 no:kill=none→a= .slice none 0 0∧sl=0∧base= .none
 yes: ∀q,kill=some q→∃dm,(cl c.S q).dim=some dm∧dm.1=es∧(cl c.S q).frozen=false∧SlR c q 0 sl dm a∧base.cellsOf=(cl c.S q).vals.take (sl*es)
 es: ∀e l,base= .cells e l→e=es∧1≤es
theorem yj {blk:Blk}{dm:Nat×Nat}(h:blk.dim=some dm):blk.vals.length=dm.2:=by
 cases blk with
 |dead=>cases h
 |cells es z l=>injection h with h;subst h;rfl
 |arr s z l=>injection h with h;subst h;exact fS
theorem bX4 {es:Nat}{v:VV}{a:Value}{base:Base}{kill:Option Nat}(hR:eI c)(h:vV c.S es v=some (base,kill))(hv:VRel c v a): ∃sl,BaseAt c es sl base kill a∧base.cellsOf.length=sl*es∧(∀s l,base= .arr s l→es=s.w∧sl=l.length):=by
 cases v<;>try(cases h;done)
 case nils=>
  simp only[vV]at h;injection h with h
  injection h with h1 h2
  subst h1;subst h2;cases hv;exact⟨0,⟨fun _=>⟨rfl,rfl,rfl⟩,(fun q h=>by cases h),(fun e l h=>by cases h)⟩,by simp[Base.cellsOf],fun s l h=>by cases h⟩
 case full q=>
  simp only[vV]at h;cases hv with
  |full hk _ hd=>
   cases hb:cl c.S q with
   |dead=>rw[hb]at h;cases h
   |arr s z l=>
    rw[hb]at h;cases z with
    |true=>cases h
    |false=>
     simp only at h;cases he:aB es s.w with
     |false=>rw[he]at h;cases h
     |true=>
      rw[he]at h;have he:=aD he;subst he;injection h with h
      injection h with h1 h2
      subst h1;subst h2;have hdim:(cl c.S q).dim=some (s.w,l.length*s.w):=by rw[hb];rfl
      obtain⟨n,h1,h2⟩:=hd _ hdim;have:n=l.length:=bE (kv s) h1;subst this;refine⟨l.length,⟨(fun h=>by cases h),fun q' h=> ?_,(fun e l h=>by cases h)⟩,fS,fun s' l' h=>by injection h with h1 h2;subst h1;cases h2;exact⟨rfl,rfl⟩⟩;injection h with h
      subst h;refine⟨_,hdim,rfl,by rw[hb];rfl,h2, ?_⟩;rw[hb];exact(bB (by rw[show(Base.arr s l).cellsOf=fg s l from rfl,fS];exact aX _)).symm
   |cells es' z l=>
    rw[hb]at h;cases z with
    |true=>cases h
    |false=>
     simp only at h;cases he:(aB es es'&&bH 1 es)with
     |false=>rw[he]at h;cases h
     |true=>
      rw[he]at h;rw[aW]at he;have he1:=aD he.1;subst he1;injection h with h
      injection h with h1 h2
      subst h1;subst h2;have hdim:(cl c.S q).dim=some (es,l.length):=by rw[hb];rfl
      obtain⟨n,h1,h2⟩:=hd _ hdim;simp only at h1;refine⟨n,⟨(fun h=>by cases h),fun q' h=> ?_,fun e l h=>by injection h with h1 h2;exact⟨h1.symm,bD he.2⟩⟩,h1.symm,fun s' l' h=>by cases h⟩;injection h with h
      subst h;refine⟨_,hdim,rfl,by rw[hb];rfl,h2, ?_⟩;rw[hb,h1];exact(bB (aX _)).symm
 case part q lo n=>
  cases lo with
  |succ lo=>cases h
  |zero=>
   simp only[vV]at h;cases hv with
   |part hk _ hd=>
    cases hb:cl c.S q with
    |dead=>rw[hb]at h;cases h
    |arr s z l=>
     rw[hb]at h;cases z with
     |true=>cases h
     |false=>
      simp only at h;cases he:aB es s.w with
      |false=>rw[he]at h;cases h
      |true=>
       rw[he]at h;have he:=aD he;subst he;injection h with h
       injection h with h1 h2
       subst h1;subst h2;have hdim:(cl c.S q).dim=some (s.w,l.length*s.w):=by rw[hb];rfl
       have h2:=hd _ hdim
       have hn:n≤l.length:=by
        rcases h2 with⟨_,_,h3,_,_⟩|⟨b,cp,x,_,_,h3,_⟩
        ·omega
        ·rw[aY]at h3;exact cA h3 (kv s)
       have hlen:(l.take n).length=n:=by rw[bA];omega
       refine⟨n,⟨(fun h=>by cases h),fun q' h=> ?_,(fun e l h=>by cases h)⟩,by simp only[Base.cellsOf];rw[fS,hlen],fun s' l' h=>by injection h with h1 h2;subst h1;cases h2;exact⟨rfl,hlen.symm⟩⟩;injection h with h
       subst h;refine⟨_,hdim,rfl,by rw[hb];rfl,h2, ?_⟩;rw[hb];exact iY
    |cells es' z l=>
     rw[hb]at h;cases z with
     |true=>cases h
     |false=>
      simp only at h;cases he:(aB es es'&&bH 1 es)with
      |false=>rw[he]at h;cases h
      |true=>
       rw[he]at h;rw[aW]at he;have he1:=aD he.1;subst he1;injection h with h
       injection h with h1 h2
       subst h1;subst h2;have hdim:(cl c.S q).dim=some (es,l.length):=by rw[hb];rfl
       have h2:=hd _ hdim
       have hn:n*es≤l.length:=by
        rcases h2 with⟨_,_,h3,_,_⟩|⟨b,cp,x,_,_,h3,_⟩
        ·subst h3;simp
        ·rwa [aY]at h3
       refine⟨n,⟨(fun h=>by cases h),fun q' h=> ?_,fun e l h=>by injection h with h1 h2;exact⟨h1.symm,bD he.2⟩⟩,by simp only[Base.cellsOf];rw[bA];omega,fun s' l' h=>by cases h⟩;injection h with h
       subst h;exact⟨_,hdim,rfl,by rw[hb];rfl,h2,by rw[hb];rfl⟩
theorem cn9 {vs cs:List Value}(h:cs.length=vs.length):i3 cs 0 vs=vs:=by
 induction vs generalizing cs with
 |nil=>simp only[i3];exact List.length_eq_zero_iff.1 h
 |cons v vs ih=>
  cases cs with
  |nil=>simp at h
  |cons a cs=>
   have h1:cs.length=vs.length:=by simpa using h
   show i3 ((a::cs).set 0 v) (0+1) vs=_;have h2:=uv vs [v] cs 0;simp only[bY,bJ,List.singleton_append,aY]at h2;rw[List.set_cons_zero,h2,ih h1]
theorem bv1 {vs cs:List Value}{p:Nat}(h:p+vs.length≤cs.length):i3 cs p vs=cs.take p++(vs++cs.drop (p+vs.length)):=by
 have:=aX8 (vs:=vs) (cs:=cs) (p:=p) (o:=0) (w:=vs.length) (by omega) h;rw[Nat.add_zero,cn9 (by rw[bA,bI];omega)]at this;exact this
theorem bq0 {σ:Hp}{x z:Ab.Blk}{b i:Nat}(h:((σ.set b none).add x).m i=some z):i=σ.n∨(i≠b∧σ.m i=some z):=by
 by_cases h1:i=σ.n
 ·exact .inl h1
 ·refine .inr ?_;have h2:((σ.set b none).add x).m i=(σ.set b none).m i:=zF h1;rw[h2]at h;by_cases h3:i=b
  ·have h4:(σ.set b none).m i=none:=zE h3;rw[h4]at h;cases h
  ·have h4:(σ.set b none).m i=σ.m i:=zF h3;exact⟨h3,h4▸h⟩
theorem by9 {σ:Hp}{x:Ab.Blk}{b i:Nat}(h1:i≠σ.n)(h3:i≠b):((σ.set b none).add x).m i=σ.m i:=by
 have h2:((σ.set b none).add x).m i=(σ.set b none).m i:=zF h1;have h4:(σ.set b none).m i=σ.m i:=zF h3;exact h2.trans h4
structure Grown (c:Ctx)(base more:List VV)(es n:Nat)(blk:Blk):Prop where
 dim:blk.dim=some (es,n*es)
 fz:blk.frozen=false
 rel: ∀bs ms,F2 (VRel c) base bs→F2 (VRel c) more ms→F2 (VRel c) blk.vals (bs++ms)
theorem oE {c1:Ctx}{es bytes sl n:Nat}{base:Base}{kill:Option Nat}{more:List VV}{blk:Blk}{s:Operand}{op:AOp}{all:List Value}(hR:eI c1)(hS:qb c.S c1.S)(hμ:c1.μ=c.μ)(hσ:c1.σ=c.σ)(hle:Le c c1)(hcalm:qX d c c1)
  (he1:1≤es) (hb:BaseAt c es sl base kill (ea.ev s)) (hkz: ∀q,kill=some q→(cl c1.S q).frozen=false)
  (hop: ∀a sl' sc,ea.ev s= .slice a sl' sc→op.run ea c.σ=kj es bytes c.σ a sl' sc n all) (h3:all.length=n*es) (h4:F2 (VRel c1) more all) (h5:all.all one=true) (hg:Grown c1 base.cellsOf more es (sl+n) blk)
  (hf:fU (sl+n) bytes=true) (hd: ∀q,kill=some q→q∈d) (hk:k (.full c1.S.length) (nI c1.S kill++[blk])=some y):dv T op ea c.σ (ia c d k y):=by
 have hfit:(sl+n)*bytes≤140737488355328∧sl+n≤9223372036854775807:=by
  unfold fU at hf;rw[aW]at hf;have g1:=of_decide_eq_true hf.1;have g2:=bD hf.2;refine⟨g1, ?_⟩;have:(sl+n)*1≤(sl+n)*bytes:=cB _ g2;omega
 have hnew:all=[]→n=0:=by
  intro h;subst h;simp only[bJ]at h3;rcases bQ n with h|h
  ·exact h
  ·have:=bU h he1;omega
 have fin: ∀{v:Value} {σ':Hp} {b1:Option Nat},Moves c1 kill b1 blk σ'→VRel ⟨sJ c1 b1,nI c1.S kill++[blk],σ',c1.fb⟩ (.full c1.S.length) v→ia c d k y v σ':=by
  intro v σ' b1 hm hv;exact⟨_,_,rfl,hle.trans (hm.le hR),hm.rel hR,hcalm.trans (hm.calm hR hd) hle,hv,hk⟩
 cases kill with
 |none=>
  obtain⟨e1,e2,e3⟩:=hb.no rfl;subst e2;subst e3;by_cases hn:n=0
  ·subst hn;have:all=[]:=by simpa using h3
   subst this;have hmv:Moves c1 none none blk c1.σ:=⟨(fun _ h=>by cases h),(fun _ h=>by cases h),hR.ok,aX _,fun _ _ h _=>h,_,hg.dim,he1, .inl ⟨rfl,by simp⟩⟩;refine dK (v:= .slice none 0 0) (σ':=c.σ) ?_ ?_
   ·rw[hop _ _ _ e1];unfold kj;rw[zE (by simp)];simp
   ·rw[←hσ];refine fin hmv (.full (by simp[nI]) rfl fun d' hd'=> ?_);simp only[iO,if_true]at hd';rw[hg.dim]at hd';injection hd' with hd'
    subst hd';exact⟨0,by simp, .inl ⟨rfl,rfl,rfl,by simp[sJ],by simp⟩⟩
  ·have hmv:=bW8 hR (blk:=blk) (x:=⟨all,true,es⟩) hg.dim he1 rfl rfl (by have:=hg.rel [] all .nil h4;simpa using this);refine dK (v:= .slice (some ⟨c.σ.n,0,none⟩) n n) (σ':=c.σ.add ⟨all,true,es⟩) ?_ ?_
   ·rw[hop _ _ _ e1];unfold kj;rw[zF (by omega),zE ⟨hfit.1,hfit.2,h5⟩];simp
   ·rw[←hσ];refine fin hmv (ut (yb:=⟨all,true,es⟩) hg.dim (by simp) (aX _) (zE rfl) ?_);show n*es≤all.length;omega
 |some q=>
  obtain⟨dm,g1,g2,g3,g4,g5⟩:=hb.yes q rfl;subst g2;have hdim1:(cl c1.S q).dim=some dm:=by rw[hS.dim];exact g1
  have hvals1:(cl c1.S q).vals=(cl c.S q).vals:=hS.vals q;rcases g4 with⟨e1,_,e2,e3,e4⟩|⟨b,cp,yb,e1,e3,e4,e5,e6,e7⟩
  ·subst e2;have hbase:base.cellsOf=[]:=by rw[g5];simp
   by_cases hn:n=0
   ·subst hn;have:all=[]:=by simpa using h3
    subst this;have hmv:Moves c1 (some q) none blk c1.σ:=⟨(fun _ h=>by cases h),(fun _ h=>by injection h with h;subst h;exact hkz q rfl),hR.ok,aX _,fun _ _ h _=>h,_,hg.dim,he1, .inl ⟨rfl,by simp⟩⟩;refine dK (v:= .slice none 0 0) (σ':=c.σ) ?_ ?_
    ·rw[hop _ _ _ e1];unfold kj;rw[zE (by simp)];simp
    ·rw[←hσ];refine fin hmv (.full (by simp[tv]) rfl fun d' hd'=> ?_);simp only[iO,if_true]at hd';rw[hg.dim]at hd';injection hd' with hd'
     subst hd';exact⟨0,by simp, .inl ⟨rfl,rfl,rfl,by simp[sJ],by simp⟩⟩
   ·have hmv:Moves c1 (some q) (some c1.σ.n) blk (c1.σ.add ⟨all,true,dm.1⟩):=by
     have h0:=bW8 hR (blk:=blk) (x:=⟨all,true,dm.1⟩) hg.dim he1 rfl rfl (by have:=hg.rel [] all (by rw[hbase];exact .nil) h4;simpa using this);refine⟨h0.fr,(fun _ h=>by injection h with h;subst h;exact hkz q rfl),h0.ok,h0.n,fun i z hz _=>h0.old i z hz (fun⟨_,h,_⟩=>by cases h), ?_⟩;obtain⟨dd,k1,k2,k3⟩:=h0.one;refine⟨dd,k1,k2, ?_⟩;rcases k3 with k3|⟨b',y',cs,rest,k3,k4,k5,k6,k7,k8,k9⟩
     ·exact .inl k3
     ·refine .inr ⟨b',y',cs,rest,k3,k4,k5,k6,k7,k8, .inl ?_⟩;rcases k9 with k9|⟨_,k9,_⟩
      ·exact k9
      ·cases k9
    refine dK (v:= .slice (some ⟨c.σ.n,0,none⟩) n n) (σ':=c.σ.add ⟨all,true,dm.1⟩) ?_ ?_
    ·rw[hop _ _ _ e1];unfold kj;rw[zF (by omega),zE ⟨hfit.1,hfit.2,h5⟩];simp
    ·rw[←hσ];refine fin hmv (ut (yb:=⟨all,true,dm.1⟩) hg.dim (by simp) (aX _) (zE rfl) ?_);show n*dm.1≤all.length;omega
  ·rw[bV]at e1;rw[aY]at e4 e7;have e3':c1.μ q=some b:=by rw[hμ];exact e3
   obtain⟨yb',cs,rest,f1,f2,f3,f4,f5⟩:=hR.block hdim1 e3';rw[hσ]at f1;rw[e6]at f1;injection f1 with f1
   subst f1;have hown:=f3 (hkz q rfl);have hcl:cs.length=dm.2:=by rw[←f5.length];exact yj hdim1
   have hbs:F2 (VRel c1) base.cellsOf (cs.take (sl*dm.1)):=by rw[g5,←hvals1];exact f5.take _
   have hrel:=hg.rel _ _ hbs h4;have hytake:yb.cells.take (sl*dm.1)=cs.take (sl*dm.1):=by rw[f4,bZ (by omega)]
   have hcp:sl*dm.1≤cp*dm.1:=bF _ e5;by_cases hroom:sl+n≤cp
   ·have hroom':sl*dm.1+n*dm.1≤cp*dm.1:=by rw[←bC];exact bF _ hroom
    have hset:i3 yb.cells (sl*dm.1) all=cs.take (sl*dm.1)++(all++yb.cells.drop (sl*dm.1+all.length)):=by rw[bv1 (by omega),hytake]
    have mk: ∀σ':Hp,σ'.Ok→σ'.n=c1.σ.n→(∀i,i≠b→σ'.m i=c1.σ.m i)→σ'.m b=some ⟨i3 yb.cells (sl*dm.1) all,true,yb.es⟩→Moves c1 (some q) (some b) blk σ':=by
     intro σ' ho hn hm hb';refine⟨(fun b' h hz _=>by injection h with h;subst h;exact hz _ (by rw[hσ];exact e6)),(fun _ h=>by injection h with h;subst h;exact hkz q rfl),ho,by omega,fun i z hz hK=> ?_,(dm.1,(sl+n)*dm.1),hg.dim,he1, .inr ⟨b,_,cs.take (sl*dm.1)++all,yb.cells.drop (sl*dm.1+all.length),rfl,hb',f2,fun _=>rfl,by show i3 _ _ _=_;rw[hset,bN],hrel, .inr ⟨q,rfl,e3'⟩⟩⟩;have:i≠b:=by rintro rfl;exact hK ⟨q,rfl,e3'⟩
     rw[hm i this];exact hz
    have hfull: ∀σ':Hp,σ'.m b=some ⟨i3 yb.cells (sl*dm.1) all,true,yb.es⟩→VRel ⟨sJ c1 (some b),nI c1.S (some q)++[blk],σ',c1.fb⟩ (.full c1.S.length) (.slice (some ⟨b,0,none⟩) (sl+n) cp):=by
     intro σ' hb';refine ut hg.dim rfl hroom hb' ?_;show cp*dm.1≤(i3 yb.cells (sl*dm.1) all).length;rw[wO];exact e7
    by_cases hn:all=[]
    ·have hself:yb=⟨i3 yb.cells (sl*dm.1) all,true,yb.es⟩:=by
      subst hn;cases yb;simp only[i3]at*;simp[hown]
     refine dK (v:= .slice (some ⟨b,0,none⟩) (sl+n) cp) (σ':=c.σ) ?_ ?_
     ·rw[hop _ _ _ e1];unfold kj;rw[zE hroom];simp[hn]
     ·rw[←hσ];have e6':c1.σ.m b=some ⟨i3 yb.cells (sl*dm.1) all,true,yb.es⟩:=by rw[←hself,hσ];exact e6
      exact fin (mk c1.σ hR.ok rfl (fun _ _=>rfl) e6') (hfull _ e6')
    ·refine dK (v:= .slice (some ⟨b,0,none⟩) (sl+n) cp) (σ':=c.σ.set b (some ⟨i3 yb.cells (sl*dm.1) all,true,yb.es⟩)) ?_ ?_
     ·rw[hop _ _ _ e1];unfold kj;rw[zE hroom];simp only[hn,if_false,e6,aY];rw[ak1 hown (by omega) h5]
     ·rw[←hσ];refine fin (mk _ (fun i z hz=> ?_) rfl (fun i hi=>by simp[Hp.set,hi]) (by simp[Hp.set])) (hfull _ (by simp[Hp.set]));simp only[Hp.set]at hz;split at hz
      ·rename_i e;subst e;exact hR.ok _ _ (by rw[hσ];exact e6)
      ·exact hR.ok _ _ hz
   ·have hmv:Moves c1 (some q) (some c1.σ.n) blk ((c1.σ.set b none).add ⟨cs.take (sl*dm.1)++all,true,dm.1⟩):=by
     refine⟨(fun b h _ hb=>by injection h with h;subst h;exact Nat.lt_irrefl _ (hR.fbl _ hb)),(fun _ h=>by injection h with h;subst h;exact hkz q rfl),fun i z hz=> ?_,Nat.le_succ _,fun i z hz hK=> ?_,(dm.1,(sl+n)*dm.1),hg.dim,he1, .inr ⟨c1.σ.n,_,cs.take (sl*dm.1)++all,[],rfl,zE rfl,rfl,fun _=>rfl,by simp,hrel, .inl fun z hz=> ?_⟩⟩
     ·show i<c1.σ.n+1;rcases bq0 hz with h0|⟨_,h0⟩
      ·omega
      ·have:=hR.ok i z h0;omega
     ·have h0:i≠b:=by rintro rfl;exact hK ⟨q,rfl,e3'⟩
      have h9:=hR.ok i z hz;rw[by9 (by omega) h0];exact hz
     ·have:=hR.ok _ _ hz;omega
    refine dK (v:= .slice (some ⟨c.σ.n,0,none⟩) (sl+n) (sl+n)) (σ':=(c.σ.set b none).add ⟨cs.take (sl*dm.1)++all,true,dm.1⟩) ?_ ?_
    ·rw[hop _ _ _ e1];unfold kj;rw[zF hroom,zE ⟨hfit.1,hfit.2,h5⟩];simp only[e6];rw[zE ⟨hown,f2⟩]
     have:mK yb 0 (sl*dm.1)=some (cs.take (sl*dm.1)):=by
      unfold mK;rw[zE (by omega),bL,hytake]
     rw[this]
    ·rw[←hσ];refine fin hmv (ut (yb:=⟨cs.take (sl*dm.1)++all,true,dm.1⟩) hg.dim rfl (aX _) (zE rfl) ?_);show(sl+n)*dm.1≤(cs.take (sl*dm.1)++all).length;rw[aZ,bA,bC];omega
theorem aE1 {S:co}{s:Sh}{cs:List VV}{l:List (El s)}{c1:Ctx}(hR:eI c1)(hS:c1.S=S)(h:bW3 S s cs=some l):cs.length=l.length*s.w∧∀as,F2 (VRel c1) cs as→F2 (VRel c1) (fg s l) as:=by
 subst hS;exact aB0 (iM hR s) _ _ _ h
theorem aQ9 (hR:eI c)(he:cy c e ea){es bytes:Nat}{s:Operand}{op:AOp}{mo:Option More}(hd: ∀q,ua (ev e s)=some q→q∈d)(h:aL3 c.S es bytes (vV c.S es (ev e s)) mo k=some y)
  (hm: ∀m,mo=some m→∃n all,(∀a sl' sc,ea.ev s= .slice a sl' sc→op.run ea c.σ=kj es bytes c.σ a sl' sc n all)∧all.length=n*es∧F2 (VRel c) m.cellsOf all∧(∀s l,m= .lst s l→es=s.w∧n=l.length)):dv T op ea c.σ (ia c d k y):=by
 have hs:=dy he s;unfold aL3 at h;cases hbo:vV c.S es (ev e s)with
 |none=>rw[hbo]at h;cases h
 |some p=>
  obtain⟨base,kill⟩:=p;cases mo with
  |none=>rw[hbo]at h;cases base<;>cases h
  |some m=>
   obtain⟨sl,hb,hbl,hba⟩:=bX4 hR hbo hs;obtain⟨n,all,hop,h3,h4,h5⟩:=hm m rfl
   have hkd: ∀q,kill=some q→q∈d:=by
    intro q hq;refine hd q ?_;subst hq;cases hv:ev e s<;>rw[hv]at hbo<;>try(cases hbo;done)
    case full b=>
     simp only[vV]at hbo;split at hbo
     ·rename_i s' l hbb;cases hh:aB es s'.w with
      |false=>rw[hh]at hbo;cases hbo
      |true=>rw[hh]at hbo;simp only[zC,Option.some.injEq,Prod.mk.injEq]at hbo;rw[←hbo.2];rfl
     ·rename_i es' l hbb;cases hh:(aB es es'&&bH 1 es)with
      |false=>rw[hh]at hbo;cases hbo
      |true=>rw[hh]at hbo;simp only[zC,Option.some.injEq,Prod.mk.injEq]at hbo;rw[←hbo.2];rfl
     ·cases hbo
    case part b lo m=>
     cases lo with
     |succ lo=>cases hbo
     |zero=>
      simp only[vV]at hbo;split at hbo
      ·rename_i s' l hbb;cases hh:aB es s'.w with
       |false=>rw[hh]at hbo;cases hbo
       |true=>rw[hh]at hbo;simp only[zC,Option.some.injEq,Prod.mk.injEq]at hbo;rw[←hbo.2];rfl
      ·rename_i es' l hbb;cases hh:(aB es es'&&bH 1 es)with
       |false=>rw[hh]at hbo;cases hbo
       |true=>rw[hh]at hbo;simp only[zC,Option.some.injEq,Prod.mk.injEq]at hbo;rw[←hbo.2];rfl
      ·cases hbo
   have hkz: ∀q,kill=some q→(cl c.S q).frozen=false:=by
    intro q hq;obtain⟨_,_,_,h,_⟩:=hb.yes q hq;exact h
   rw[hbo]at h;have one4: ∀(c1:Ctx) (l:List VV),F2 (VRel c1) l all→lT l=true→all.all one=true:=fun c1 l h1 h2=>iV h1 h2
   cases base with
   |arr s' l=>
    obtain⟨g1,g2⟩:=hba s' l rfl;subst g1;cases m with
    |lst s2 l'=>
     simp only at h;obtain⟨l2,k1,k2⟩:=cm h;obtain⟨ee,k3⟩:=jw k1;cases ee;subst k3;obtain⟨k4,k5⟩:=cx k2;obtain⟨_,k6⟩:=h5 _ _ rfl;refine oE hR (qb.refl _) rfl rfl (Le.refl c) (qX.refl d c) (kv _) hb hkz hop h3 h4 (one4 c _ h4 (oH _ _)) ⟨?_,rfl,fun bs ms f1 f2=> ?_⟩ (by rw[g2,k6];exact k4) hkd k5
     ·simp only[Blk.dim,aZ,g2,k6]
     ·simp only[Blk.vals];rw[tu];exact f1.append f2
    |cells cs=>
     simp only at h;split at h
     ·rename_i s3 l3 hkk;obtain⟨l2,k1,k2⟩:=cm h;obtain⟨k4,k5⟩:=cx k2;have hfz:=ai8 c.S cs;have hR1:eI ⟨c.μ,fzL c.S cs,c.σ,c.fb⟩:=hfz.rel hR;obtain⟨k6,k7⟩:=aE1 hR1 rfl k1;have h4':F2 (VRel ⟨c.μ,fzL c.S cs,c.σ,c.fb⟩) cs all:=VRel.frames hfz.le h4
      have k8:n=l2.length:=by
       have:=h4.length;simp only[More.cellsOf]at this;rw[k6,h3]at this;exact(bE (kv _) this).symm
      have hkz': ∀q,kill=some q→(cl (fzL c.S cs) q).frozen=false:=by
       intro q hq;subst hq;simp only[cC]at hkk;rw[hkk];rfl
      refine oE (c1:=⟨c.μ,fzL c.S cs,c.σ,c.fb⟩) hR1 hfz rfl rfl hfz.le (hfz.calm d) (kv _) hb hkz' hop h3 h4' (one4 _ _ (k7 _ h4') (oH _ _)) ⟨?_,rfl,fun bs ms f1 f2=> ?_⟩ (by rw[g2,k8];exact k4) hkd k5
      ·simp only[Blk.dim,aZ,g2,k8]
      ·simp only[Blk.vals];rw[tu];exact f1.append (k7 _ f2)
     ·cases h
   |cells es0 l=>
    obtain⟨g1,g2⟩:=hb.es _ _ rfl;subst g1;cases m with
    |lst s2 l'=>
     simp only at h;obtain⟨w1,w2⟩:=h5 _ _ rfl;subst w1;split at h
     ·rename_i s3 l3 hkk;obtain⟨l1,k1,k2⟩:=cm h;obtain⟨k4,k5⟩:=cx k2;have hfz:=ai8 c.S l;have hR1:eI ⟨c.μ,fzL c.S l,c.σ,c.fb⟩:=hfz.rel hR;obtain⟨k6,k7⟩:=aE1 hR1 rfl k1;have h4':F2 (VRel ⟨c.μ,fzL c.S l,c.σ,c.fb⟩) (fg s2 l') all:=VRel.frames hfz.le h4
      have k8:sl=l1.length:=by
       simp only[Base.cellsOf]at hbl;rw[k6]at hbl;exact(bE (kv _) hbl).symm
      have hkz': ∀q,kill=some q→(cl (fzL c.S l) q).frozen=false:=by
       intro q hq;subst hq;simp only[cC]at hkk;rw[hkk];rfl
      refine oE (c1:=⟨c.μ,fzL c.S l,c.σ,c.fb⟩) hR1 hfz rfl rfl hfz.le (hfz.calm d) (kv _) hb hkz' hop h3 h4' (one4 _ _ h4' (oH _ _)) ⟨?_,rfl,fun bs ms f1 f2=> ?_⟩ (by rw[w2,k8];exact k4) hkd k5
      ·simp only[Blk.dim,aZ,w2,k8]
      ·simp only[Blk.vals];rw[tu];exact(k7 _ f1).append f2
     ·cases h
    |cells cs=>
     simp only at h;obtain⟨k4,k5⟩:=cx h;rw[aW]at k4;simp only[Base.cellsOf]at hbl;simp only[More.cellsOf]at h4;have k6:cs.length=n*es0:=by rw[h4.length];exact h3
     refine oE (blk:= .cells es0 false (l++cs)) hR (qb.refl _) rfl rfl (Le.refl c) (qX.refl d c) g2 hb hkz hop h3 h4 (one4 c _ h4 k4.2) ⟨?_,rfl,fun bs ms f1 f2=>F2.append (l:=l) f1 f2⟩ ?_ hkd k5
     ·simp only[Blk.dim,aZ,hbl,k6,bC]
     ·have:(l.length+cs.length) / es0=sl+n:=by rw[hbl,k6,←bC,bS _ g2]
      rw[←this];exact k4.1
   |none=>
    have hsl:kill=none→sl=0:=fun hh=>(hb.no hh).2.1
    have hsl0: ∀(q:Nat),1≤es→sl=0:=by
     intro _ hh;simp only[Base.cellsOf,bJ]at hbl;rcases bQ sl with h|h
     ·exact h
     ·have:=bU h hh;omega
    cases m with
    |lst s2 l'=>
     simp only at h;obtain⟨w1,w2⟩:=h5 _ _ rfl;subst w1;have hz:=hsl0 0 (kv _);subst hz;obtain⟨k4,k5⟩:=cx h;refine oE hR (qb.refl _) rfl rfl (Le.refl c) (qX.refl d c) (kv _) hb hkz hop h3 h4 (one4 c _ h4 (oH _ _)) ⟨?_,rfl,fun bs ms f1 f2=> ?_⟩ (by rw[w2];exact k4) hkd k5
     ·simp only[Blk.dim,aZ,w2,bJ]
     ·cases f1;exact f2
    |cells cs=>
     simp only at h;obtain⟨k4,k5⟩:=cx h;rw[aW,aW]at k4;have g2:=bD k4.1.2;have hz:=hsl0 0 g2;subst hz;simp only[More.cellsOf]at h4;have k6:cs.length=n*es:=by rw[h4.length];exact h3
     refine oE (blk:= .cells es false cs) hR (qb.refl _) rfl rfl (Le.refl c) (qX.refl d c) g2 hb hkz hop h3 h4 (one4 c _ h4 k4.2) ⟨?_,rfl,fun bs ms f1 f2=>by cases f1;exact f2⟩ ?_ hkd k5
     ·simp only[Blk.dim,k6,aY]
     ·have:cs.length / es=0+n:=by rw[k6,bS _ g2,aY]
      rw[←this];exact k4.1.1
theorem cd6 {s:Sh}{l:List (El s)}{a:Value}{bytes n:Nat}{all:List Value}(hv:VRel c (.tgt s l) a)(h3:all.length=n*s.w)(h1:1≤n)(h5:all.all one=true)(hf:fU (l.length+n) bytes=true):
  ∃p sc old,a= .slice p l.length sc∧F2 (VRel c) (fg s l) old∧kj s.w bytes c.σ p l.length sc n all=some (.slice (some ⟨c.σ.n,0,none⟩) (l.length+n) (l.length+n),c.σ.add ⟨old++all,true,s.w⟩):=by
 have hfit:(l.length+n)*bytes≤140737488355328∧l.length+n≤9223372036854775807:=by
  unfold fU at hf;rw[aW]at hf;have g1:=of_decide_eq_true hf.1;have g2:=bD hf.2;refine⟨g1, ?_⟩;have:(l.length+n)*1≤(l.length+n)*bytes:=cB _ g2;omega
 cases hv with
 |tgtn hq=>
  simp only[bJ,aY]at hfit⊢;rcases hq with rfl|⟨b,o,rfl⟩
  ·refine⟨none,0,[],rfl, .nil, ?_⟩;unfold kj;rw[zF (by omega),zE (by rw[aY];exact⟨hfit.1,hfit.2,h5⟩)];simp
  ·refine⟨_,0,[],rfl, .nil, ?_⟩;unfold kj;rw[zF (by omega),zE (by rw[aY];exact⟨hfit.1,hfit.2,h5⟩)];simp
 |tgt hn hy he h4 hf'=>
  rename_i b p yb;by_cases h0:l=[]
  ·subst h0;simp only[bJ,aY]at hfit⊢;refine⟨_,0,[],rfl, .nil, ?_⟩;unfold kj;rw[zF (by omega),zE (by rw[aY];exact⟨hfit.1,hfit.2,h5⟩)];simp
  ·have hl:l.length≠0:=fun h=>h0 (List.eq_nil_of_length_eq_zero h)
   refine⟨_,_,_,rfl,hf', ?_⟩;unfold kj;rw[zF (by omega),zE ⟨hfit.1,hfit.2,h5⟩];simp only[hl,if_false,hy,he,if_true]
   have:mK yb p (l.length*s.w)=some ((yb.cells.drop p).take (l.length*s.w)):=by
    unfold mK;rw[zE h4]
   rw[this]
theorem aY6 {c1:Ctx}{bytes n:Nat}{s:Sh}{l l2:List (El s)}{so:Operand}{op:AOp}{all:List Value}(hR:eI c1)(hσ:c1.σ=c.σ)(hle:Le c c1)(hcalm:qX d c c1)
  (hv:VRel c1 (.tgt s l) (ea.ev so)) (hop: ∀a sl' sc,ea.ev so= .slice a sl' sc→op.run ea c.σ=kj s.w bytes c.σ a sl' sc n all) (h3:all.length=n*s.w) (h4:F2 (VRel c1) (fg s l2) all) (h5:all.all one=true) (hn:n=l2.length) (h1:1≤n)
  (h:bB7 c1.S bytes s none l l2 k=some y):dv T op ea c.σ (ia c d k y):=by
 unfold bB7 at h;obtain⟨g1,g2⟩:=cx h;rw[←hn]at g1;obtain⟨p,sc,old,e1,f1,f2⟩:=cd6 hv h3 h1 h5 g1;have hrel:F2 (VRel c1) (fg s (l++l2)) (old++all):=by rw[tu];exact f1.append h4
 have hmv:=bW8 hR (blk:= .arr s false (l++l2)) (x:=⟨old++all,true,s.w⟩) (d:=(s.w,(l++l2).length*s.w)) rfl (kv s) rfl rfl hrel;refine dK (v:= .slice (some ⟨c.σ.n,0,none⟩) (l.length+n) (l.length+n)) (σ':=c.σ.add ⟨old++all,true,s.w⟩) ?_ ?_
 ·rw[hop _ _ _ e1,←hσ,f2]
 ·rw[←hσ];refine⟨_,_,rfl,hle.trans (hmv.le hR),hmv.rel hR,hcalm.trans (hmv.calm hR (fun q h=>by cases h)) hle, ?_,g2⟩;refine ut (yb:=⟨old++all,true,s.w⟩) (dm:=(s.w,(l++l2).length*s.w)) rfl (by simp[hn]) (aX _) (zE rfl) ?_;show(l.length+n)*s.w≤(old++all).length;rw[aZ,←f1.length,fS,h3,bC];exact aX _
theorem co7 (hR:eI c)(he:cy c e ea){es bytes:Nat}{s:Sh}{l:List (El s)}{so:Operand}{op:AOp}{mo:Option More}(hs:ev e so= .tgt s l)(h:bQ3 c.S es bytes s l mo k=some y)
  (hm: ∀m,mo=some m→∃n all,(∀a sl' sc,ea.ev so= .slice a sl' sc→op.run ea c.σ=kj es bytes c.σ a sl' sc n all)∧all.length=n*es∧F2 (VRel c) m.cellsOf all∧(∀s l,m= .lst s l→es=s.w∧n=l.length)):dv T op ea c.σ (ia c d k y):=by
 have hv:=dy he so;rw[hs]at hv;unfold bQ3 at h;cases mo with
 |none=>cases h
 |some m=>
  obtain⟨n,all,hop,h3,h4,h5⟩:=hm m rfl;cases m with
  |lst s' l'=>
   simp only at h;obtain⟨l2,k1,k2⟩:=cm h;obtain⟨ee,k3⟩:=jw k1;cases ee;subst k3;obtain⟨k4,k5⟩:=cx k2;rw[aW]at k4;have w1:=aD k4.1;have w2:=bD k4.2;subst w1;obtain⟨_,k6⟩:=h5 _ _ rfl;exact aY6 hR rfl (Le.refl c) (qX.refl d c) hv hop h3 h4 (iV h4 (oH _ _)) k6 (by rw[k6];exact w2) k5
  |cells cs=>
   simp only at h;obtain⟨l2,k1,k2⟩:=cm h;obtain⟨k4,k5⟩:=cx k2;rw[aW]at k4;have w1:=aD k4.1;have w2:=bD k4.2;subst w1;have hfz:=ai8 c.S cs;have hR1:eI ⟨c.μ,fzL c.S cs,c.σ,c.fb⟩:=hfz.rel hR;obtain⟨k6,k7⟩:=aE1 hR1 rfl k1;have h4':F2 (VRel ⟨c.μ,fzL c.S cs,c.σ,c.fb⟩) cs all:=VRel.frames hfz.le h4
   have k8:n=l2.length:=by
    have:=h4.length;simp only[More.cellsOf]at this;rw[k6,h3]at this;exact(bE (kv _) this).symm
   exact aY6 (c1:=⟨c.μ,fzL c.S cs,c.σ,c.fb⟩) hR1 rfl hfz.le (hfz.calm d) (hv.frame hfz.le) hop h3 (k7 _ h4') (iV (k7 _ h4') (oH _ _)) k8 (by rw[k8];exact w2) k5
theorem bH2 (hR:eI c){v:VV}{a:Value}{S1:co}{s:Sh}{l:List (El s)}(h:aY5 c.S v=some (S1, .arr s l))(hv:VRel c v a):qb c.S S1∧VRel ⟨c.μ,S1,c.σ,c.fb⟩ (.lst s l) a:=by
 unfold aY5 at h;split at h
 ·simp only[Option.some.injEq,Prod.mk.injEq,Base.arr.injEq]at h;obtain⟨h1,rfl,h2⟩:=h;have h2:=eq_of_heq h2;subst h1;subst h2;exact⟨qb.refl _,hv⟩
 ·rename_i q;split at h
  ·rename_i s' z l' hb;simp only[Option.some.injEq,Prod.mk.injEq,Base.arr.injEq]at h;obtain⟨h1,rfl,h2⟩:=h;have h2:=eq_of_heq h2;subst h1;subst h2;have hfz:qb c.S (ja c.S q (cl c.S q).freeze):=qb.put;refine⟨hfz, ?_⟩;have hR1:=hfz.rel hR;have hq:q<c.S.length:=jP (by rw[hb];simp[Blk.dim]);have hg:cl (ja c.S q (cl c.S q).freeze) q= .arr s' true l':=by rw[bV7 hq,hb];rfl
   refine aV0 hR1 (iM hR1 s') (v:= .full q) ?_ (hv.frame hfz.le);show cond (cl (ja c.S q (cl c.S q).freeze) q).frozen _ _=_;rw[hg];simp only[Blk.frozen,zC,af0,hg,te,kD]
  ·cases h
 ·cases h
theorem cq2 (hR:eI c)(he:cy c e ea){x:Operand}(hx:ev e x= .nils)(h:k (.int .i64 0) c.S=some y):dv T (.capN x) ea c.σ (ia c d k y):=by
 have hv:=dy he x;rw[hx]at hv;have e1:ea.ev x= .slice none 0 0:=by generalize ea.ev x=q at hv;cases hv;rfl
 refine dK (v:= .int .i64 0) (σ':=c.σ) ?_ (ia.same hR (.int _ _) h);simp only[AOp.run,e1]
theorem cc8 (hR:eI c)(he:cy c e ea){x hi mx:Operand}(h:bv4 c.S (ev e x) (ev e hi) (ev e mx) k=some y):dv T (.sliceX x hi mx) ea c.σ (ia c d k y):=by
 have hv:=dy he x;have hvh:=dy he hi;have hvm:=dy he mx;unfold bv4 at h;split at h
 ·rename_i kh zh km zm eh em;rw[eh]at hvh;rw[em]at hvm;have q1:ea.ev hi= .int kh zh:=hvh.int_inv;have q2:ea.ev mx= .int km zm:=hvm.int_inv;obtain⟨g1,h1⟩:=cx h;clear h;have g1:=of_decide_eq_true g1;subst g1;have h:=h1;clear h1
  have run: ∀(p:Option Addr) (n cp:Nat) (r:Value),ea.ev x= .slice p n cp→0≤zh→zh≤cp→(match p with
    |none=>some (Value.slice none 0 0,c.σ)
    |some ⟨b,o,none⟩=>some (.slice (some ⟨b,o,some 0⟩) zh.toNat zh.toNat,c.σ)
    |_=>none)=some (r,c.σ)→(AOp.sliceX x hi mx).run ea c.σ=some (r,c.σ):=by
   intro p n cp r hp h0 h1 hr;have b1:me cp 0 (some (.int km zh))=some zh.toNat:=zE ⟨h0,h1⟩;have b2:me zh.toNat 0 (some (.int kh zh))=some zh.toNat:=zE ⟨h0,by omega⟩;simp only[AOp.run,hp,q1,q2,b1,b2,if_true];exact hr
  split at h
  ·rename_i hx;rw[hx]at hv;obtain⟨g2,h1⟩:=cx h;clear h;have h:=h1;clear h1;have g2:=of_decide_eq_true g2;subst g2;have e1:ea.ev x= .slice none 0 0:=by generalize ea.ev x=q at hv;cases hv;rfl
   exact dK (run _ _ _ (.slice none 0 0) e1 (by simp) (by simp) rfl) (ia.same hR .nils h)
  ·split at h
   ·rename_i S1 s l hsrc;obtain⟨g2,h1⟩:=cx h;clear h;have h:=h1;clear h1;obtain⟨c1,c2,c3⟩:=qz g2;obtain⟨hfz,hl⟩:=bH2 hR hsrc hv;have hR1:=hfz.rel hR;have out: ∀v:Value,VRel ⟨c.μ,S1,c.σ,c.fb⟩ (.tgt s (l.take zh.toNat)) v→ia c d k y v c.σ:=fun v hv=>⟨_,⟨c.μ,S1,c.σ,c.fb⟩,rfl,hfz.le,hR1,hfz.calm d,hv,h⟩
    cases hl':ea.ev x with
    |slice p n cp=>
     rw[hl']at hl;cases hl with
     |lstn hq=>
      have z0:zh=0:=by simp at c3;omega
      subst z0;cases p with
      |none=>exact dK (run _ _ _ (.slice none 0 0) hl' (by simp) (by simp) rfl) (out _ (.tgtn (.inl rfl)))
      |some A=>
       obtain⟨b,o,sp⟩:=A;have:sp=none:=hq _ rfl;subst this;exact dK (run _ _ _ (.slice (some ⟨b,o,some 0⟩) 0 0) hl' (by simp) (by simp) rfl) (out _ (.tgtn (.inr ⟨_,_,rfl⟩)))
     |lst hn hy he' h1 h2 h3 hf=>
      rename_i b o yb;refine dK (run _ _ _ (.slice (some ⟨b,o,some 0⟩) zh.toNat zh.toNat) hl' c2 (by omega) rfl) (out _ ?_);have hlen:(l.take zh.toNat).length=zh.toNat:=by rw[bA];omega
      have hmul:zh.toNat*s.w≤n*s.w:=bF _ (by omega)
      have:=VRel.tgt (c:=⟨c.μ,S1,c.σ,c.fb⟩) (l:=l.take zh.toNat) hn hy he' (p:=o) (by rw[hlen];omega) (by
       rw[hlen,iY];have h9:=hf.take (zh.toNat*s.w);rw[bP,bK hmul]at h9
       exact h9)
      rw[hlen]at this;exact this
    |_=>rw[hl']at hl;cases hl
   ·cases h
 ·cases h
theorem bK0 (hR:eI c)(he:cy c e ea){es bytes:Nat}{s x:Operand}(hd: ∀q,ua (ev e s)=some q→q∈d)(h:aR0 c.S es bytes (ev e s) (ev e x) k=some y)(hap:bq5 c.S es bytes (ev e s) (ev e x) k=some y→dv T (.append es bytes s x) ea c.σ (ia c d k y)):dv T (.append es bytes s x) ea c.σ (ia c d k y):=by
 unfold aR0 at h;split at h
 ·rename_i s' l hs;refine co7 hR he hs h fun m hmo=> ?_
  obtain⟨n,all,h1,h2,h3,h4,h5⟩:=wL hR hmo (dy he x);have h2n:=h2 n (aX _);rw[bB (by omega)]at h2n;refine⟨n,all,fun a sl' sc hs=> ?_,h3,h4,h5⟩;simp only[AOp.run,hs,h1,h2n]
 ·exact hap h
theorem bX1 (hR:eI c)(he:cy c e ea){es bytes:Nat}{s x:Operand}(hd: ∀q,ua (ev e s)=some q→q∈d)(h:bq5 c.S es bytes (ev e s) (ev e x) k=some y):dv T (.append es bytes s x) ea c.σ (ia c d k y):=by
 refine aQ9 hR he hd h fun m hmo=> ?_
 obtain⟨n,all,h1,h2,h3,h4,h5⟩:=wL hR hmo (dy he x);have h2n:=h2 n (aX _);rw[bB (by omega)]at h2n;refine⟨n,all,fun a sl' sc hs=> ?_,h3,h4,h5⟩;simp only[AOp.run,hs,h1,h2n]
theorem bK1 (hR:eI c)(he:cy c e ea){es bytes:Nat}{z:List Value}{s x:Operand}(hd: ∀q,ua (ev e s)=some q→q∈d)(h:aR1 c.S es bytes z (ev e s) (ev e x) k=some y):dv T (.appendZ es bytes z s x) ea c.σ (ia c d k y):=by
 have hx:=dy he x;unfold aR1 at h;split at h
 ·rename_i kd l hl;rw[hl]at hx;obtain⟨hg,h⟩:=cx h;unfold jB at hg;rw[aW,aW]at hg;have g1:=of_decide_eq_true hg.1;have g2:=of_decide_eq_true hg.2.1;have g3:=of_decide_eq_true hg.2.2;refine aQ9 hR he hd h fun m hmo=> ?_
  unfold bI6 at hmo;split at hmo
  ·rename_i sh hs;cases hb:aB es sh.w with
   |false=>rw[hb]at hmo;cases hmo
   |true=>
    rw[hb]at hmo;simp only[zC,Option.some.injEq]at hmo;subst hmo;have he:=aD hb;subst he;have hz:=wP (c:=c) hs;have hzl:z.length=sh.w:=by rw[←hz.length,eu]
    refine⟨l.toNat,er z l.toNat,fun a sl' sc hs'=> ?_,by rw[tn,hzl], ?_,fun s' l' h'=> ?_⟩
    ·simp only[AOp.run,hs',hx.int_inv];rw[zE ⟨g1,g2,g3⟩]
    ·show F2 (VRel c) (fg sh (bG l.toNat (pZ sh))) (er z l.toNat);rw[ob];generalize l.toNat=n;induction n with
     |zero=>exact .nil
     |succ n ih=>
      simp only[er,bM,bO]at ih⊢;exact hz.append ih
    ·injection h' with h1 h2
     subst h1;have h2:=eq_of_heq h2;rw[←h2,List.length_replicate];exact⟨rfl,rfl⟩
  ·cases hmo
 ·cases h
theorem cd0 {S:co}{q:Nat}:ja S q (cl S q)=S:=by
 induction S generalizing q with
 |nil=>rfl
 |cons a r ih=>
  cases q with
  |zero=>rfl
  |succ q=>simp only[ja,cl,ih]
theorem co0 {σ:Hp}{b:Nat}{x:Ab.Blk}(h:σ.m b=some x):σ.set b (some x)=σ:=by
 have:(fun i=>if i=b then some x else σ.m i)=σ.m:=by
  funext i
  by_cases hi:i=b
  ·rw[zE hi,hi,h]
  ·rw[zF hi]
 show Hp.mk _ _=_;rw[this]
theorem cg9 {es n m b o cp:Nat}{x z:Operand}{all:List Value}{x0:Ab.Blk}(hx:ea.ev x= .slice (some ⟨b,o,none⟩) n cp)(h1:am3 (ea.ev z)=some m)(h2:c.σ.slice es (ea.ev z) (min m n)=some all)(hy:c.σ.m b=some x0)
  (hown:x0.own=true) (hlen:o+all.length≤x0.cells.length) (hone:all.all one=true):(AOp.copy es x z).run ea c.σ=some (.int .i64 (min m n:Nat),c.σ.set b (some ⟨i3 x0.cells o all,true,x0.es⟩)):=by
 simp only[AOp.run,hx,h1,h2];by_cases hn:all=[]
 ·rw[zE hn];subst hn;have:(⟨i3 x0.cells o [],true,x0.es⟩:Ab.Blk)=x0:=by cases x0;simp only[i3]at*;simp[hown]
  rw[this,co0 hy]
 ·rw[zF hn,hy];simp only[ak1 hown hlen hone]
theorem bf9 (hR:eI c){es q o n m:Nat}{dm:Nat×Nat}{x z:Operand}{blk:Blk}{all:List Value}(hdim:(cl c.S q).dim=some dm)(hes:dm.1=es)(hz:(cl c.S q).frozen=false)(hs:SlR c q o n dm (ea.ev x))
  (h1:am3 (ea.ev z)=some m) (h2:c.σ.slice es (ea.ev z) (min m n)=some all) (h3:all.length=min m n*es) (h5:all.all one=true) (hd:q∈d) (hbd:blk.dim=some dm) (hbz:blk.frozen=false) (hnil:dm.2=0→blk=cl c.S q)
  (hrel: ∀cs,F2 (VRel c) (cl c.S q).vals cs→F2 (VRel c) blk.vals (i3 cs (o*es) all)) (hk:k (.int .i64 (min m n:Nat)) (ja c.S q blk)=some y):dv T (.copy es x z) ea c.σ (ia c d k y):=by
 subst hes;rcases hs with⟨e1,e2,e3,e4,e5⟩|⟨b,cp,yb,e1,e2,e3,e4,e5,e6⟩
 ·subst e2;subst e3;have:all=[]:=by simpa using h3
  subst this;refine dK (v:= .int .i64 (min m 0:Nat)) (σ':=c.σ) ?_ (ia.same hR (.int _ _) ?_)
  ·simp only[AOp.run,e1,h1,h2];simp
  ·rw[hnil e5,cd0]at hk;exact hk
 ·obtain⟨y0,cs,rest,f1,f2,f3,f4,f5⟩:=hR.block hdim e2;rw[e5]at f1;injection f1 with f1
  subst f1;have hl:=f5.length;rw[yj hdim]at hl
  have hle:o*dm.1+min m n*dm.1≤dm.2:=by
   have:(o+min m n)*dm.1≤(o+n)*dm.1:=bF _ (by omega);rw[bC]at this;omega
  have hlen:o*dm.1+all.length≤yb.cells.length:=by rw[f4,aZ,h3];omega
  have hw:Writes c q b blk ⟨i3 yb.cells (o*dm.1) all,true,yb.es⟩:=⟨hz,e2,hbd.trans hdim.symm,hbz,yb,i3 cs (o*dm.1) all,rest,dm,e5,hdim,f2,rfl,wO _ _ _,by show i3 _ _ _=_;rw[f4,af9 _ _ _ _ (by omega)],hrel cs f5⟩;exact dK (cg9 e1 h1 h2 e5 (f3 hz) hlen h5) ⟨_,_,rfl,hw.le hR,hw.rel hR,hw.calm hR hd, .int _ _,hk⟩
theorem aC6 {kd:IntKind}: ∀{cs r:List VV} {m ml:List Int} {j:Nat} {as ms:List Value},ax0 kd m j cs=some r→F2 (VRel c) cs as→F2 (VRel c) (ml.map (VV.int kd)) ms→ml=(m.drop j).take cs.length→
  F2 (VRel c) r (ms++as.drop ms.length)
 |[],r,m,ml,j,as,ms,h,hf,hm,hl=>by
  simp only[ax0]at h;injection h with h;subst h
  cases hf;simp at hl;subst hl;cases hm;exact .nil
 |v::cs,r,m,ml,j,as,ms,h,hf,hm,hl=>by
  cases v<;>simp only[ax0]at h<;>try(cases h;done)
  rename_i k' n;cases hk:decide (k'=kd)with
  |false=>rw[hk]at h;cases h
  |true=>
   rw[hk,zC]at h;have hk:=of_decide_eq_true hk;subst hk;obtain⟨r',h1,h2⟩:=cm h;injection h2 with h2
   subst h2;cases hf with
   |cons hf1 hf2=>
    rename_i a as;have ha:=hf1.int_inv;subst ha;by_cases hj:j<m.length
    ·have hd:m.drop j=m[j]::m.drop (j+1):=List.drop_eq_getElem_cons hj;rw[hd]at hl;simp only[bY,List.take_succ_cons]at hl;subst hl;cases hm with
     |cons hm1 hm2=>
      rename_i b ms;have hb:=hm1.int_inv;subst hb;have:=aC6 h1 hf2 hm2 rfl;rw[bX,List.getElem?_eq_getElem hj];exact .cons (.int _ _) this
    ·have hd:m.drop j=[]:=bW (by omega);rw[hd]at hl;simp only[List.take_nil]at hl;subst hl;cases hm;have:=aC6 (ml:=[]) h1 hf2 .nil (by rw[bW (by omega)];simp);rw[bX,List.getElem?_eq_none (by omega)];exact .cons (.int _ _) this
theorem bi3 {kd:IntKind}{m:List Int}: ∀{cs r:List VV} {j:Nat},ax0 kd m j cs=some r→r.length=cs.length
 |[],r,j,h=>by injection h with h;subst h;rfl
 |v::cs,r,j,h=>by
  cases v<;>simp only[ax0]at h<;>try(cases h;done)
  rename_i k' n;cases hk:decide (k'=kd)with
  |false=>rw[hk]at h;cases h
  |true=>
   rw[hk,zC]at h;obtain⟨r',h1,h2⟩:=cm h;injection h2 with h2
   subst h2;simp[bi3 h1]
theorem bC5 {kd:IntKind}{m:List Int}:fg (.int kd) m=m.map (VV.int kd):=by
 induction m with
 |nil=>rfl
 |cons a m ih=>rw[fK,ih];rfl
theorem aA6 {α:Type}{l m:List α}{o n:Nat}(h:o+n≤l.length):au8 l o n m=l.take o++(m.take (min m.length n)++l.drop (o+min m.length n)):=by
 unfold au8;rw[Nat.min_comm n m.length]
 congr 2
 by_cases hh:n≤m.length
 ·rw[Nat.min_eq_right hh]
 ·rw[bK (by omega),bB (by omega),bB (by omega)]
theorem cf9 {α:Type}{l m:List α}{o n:Nat}(h:o+n≤l.length):(au8 l o n m).length=l.length:=by
 rw[aA6 h];simp only[aZ,bA,bI];omega
theorem bA3 (hR:eI c){es q o n:Nat}{x z:Operand}{s:Sh}{l l2:List (El s)}{mc:List VV}{m:Nat}{all:List Value}(hb:cl c.S q= .arr s false l)(hs:SlR c q o n (s.w,l.length*s.w) (ea.ev x))(he:es=s.w)
  (h1:am3 (ea.ev z)=some m) (h2: ∀i,i≤m→c.σ.slice es (ea.ev z) i=some (all.take (i*es))) (h3:all.length=m*es) (h4:F2 (VRel c) (fg s l2) all) (hm:m=l2.length) (hd:q∈d)
  (hk:k (.int .i64 (min l2.length n:Nat)) (ja c.S q (.arr s false (au8 l o n l2)))=some y):dv T (.copy es x z) ea c.σ (ia c d k y):=by
 subst he;have hdim:(cl c.S q).dim=some (s.w,l.length*s.w):=by rw[hb];rfl
 have hle:o+n≤l.length:=by
  rcases hs with⟨_,e2,e3,_,_⟩|⟨b,cp,yb,_,_,e3,_⟩
  ·omega
  ·exact cA e3 (kv s)
 have h2':=h2 (min m n) (bR _ _)
 have hal:(all.take (min m n*s.w)).length=min m n*s.w:=by
  rw[bA,h3,bK];exact bF _ (bR _ _)
 have h4':=h4.take (min m n*s.w);rw[←iY]at h4';rw[←hm]at hk;refine bf9 hR hdim rfl (by rw[hb];rfl) hs h1 h2' hal (iV h4' (oH _ _)) hd ?_ rfl (fun h0=> ?_) (fun cs hcs=> ?_) hk
 ·simp only[Blk.dim,cf9 hle]
 ·have:l.length=0:=by
   rcases bQ l.length with h|h
   ·exact h
   ·have:=bU h (kv s);simp only at h0;omega
  rw[hb,aA6 hle];rw[List.length_eq_zero_iff]at this;subst this;have hn:n=0:=by simp at hle;omega
  subst hn;simp
 ·rw[hb]at hcs;simp only[Blk.vals]at hcs⊢;have hcl:=hcs.length;rw[fS]at hcl;have hle2:o*s.w+min m n*s.w≤l.length*s.w:=by rw[←bC];exact bF _ (by omega)
  rw[bv1 (by rw[hal];omega),aA6 hle,tu,tu,iY,ui,hal,←hm,bC];exact(hcs.take _).append (h4'.append (hcs.drop _))
theorem cq6 (hR:eI c)(he:cy c e ea){es:Nat}{x z:Operand}(hd: ∀q,ua (ev e x)=some q→q∈d)(h:cg8 c.S es (ev e x) (ev e z) k=some y):dv T (.copy es x z) ea c.σ (ia c d k y):=by
 have hx:=dy he x;have hz:=dy he z;unfold cg8 at h
 have go: ∀(q o n:Nat) (dm:Nat×Nat),(cl c.S q).dim=some dm→q∈d→SlR c q o n dm (ea.ev x)→
   (match cl c.S q,aC5 c.S es (ev e z)with
   | .arr s false l,some (.lst s' l')=>(lU (.list s') (.list s) l').bind fun l2=>gd (aB es s.w) (k (.int .i64 (min l2.length n:Nat)) (ja c.S q (.arr s false (au8 l o n l2))))
   | .arr s false l,some (.cells cs)=>(aU5 .u64 cs).bind fun m=>(lU (.list (.int .u64)) (.list s) m).bind fun l2=>gd (aB es s.w) (k (.int .i64 (min l2.length n:Nat)) (ja c.S q (.arr s false (au8 l o n l2))))
   | .cells 1 false l,some (.lst (.int kd) m)=>gd (aB es 1&&bH (o+n) l.length) (match ax0 kd m 0 ((l.drop o).take n)with
    |some c'=>k (.int .i64 (min m.length n:Nat)) (ja c.S q (.cells 1 false (l.take o++c'++l.drop (o+n))))
    |none=>none)
   |_,_=>none)=some y→dv T (.copy es x z) ea c.σ (ia c d k y):=by
  intro q o n dm hdim hqd hs h;split at h
  ·rename_i s l s' l' hb hm;obtain⟨m,all,h1,h2,h3,h4,h5⟩:=wL hR hm hz;obtain⟨l2,k1,k2⟩:=cm h;obtain⟨ee,k3⟩:=jw k1;cases ee;subst k3;obtain⟨k4,k5⟩:=cx k2;rw[hb]at hdim;injection hdim with hdim
   subst hdim;exact bA3 (mc:=[]) hR hb hs (aD k4) h1 h2 h3 h4 (h5 _ _ rfl).2 hqd k5
  ·rename_i s l cs hb hm;obtain⟨m,all,h1,h2,h3,h4,h5⟩:=wL hR hm hz;obtain⟨ml,k0,k1⟩:=cm h;obtain⟨l2,k1,k2⟩:=cm k1;obtain⟨ee,k3⟩:=jw k1;cases ee;subst k3;obtain⟨k4,k5⟩:=cx k2;rw[hb]at hdim;injection hdim with hdim
   subst hdim;have hcs:=aC1 k0;simp only[More.cellsOf]at h4;rw[hcs,←bC5]at h4;have he1:=aD k4
   have hml:m=l2.length:=by
    have:=h4.length;rw[fS,h3,he1]at this;exact(bE (kv _) this).symm
   exact bA3 (mc:=[]) hR hb hs he1 h1 h2 h3 h4 hml hqd k5
  ·rename_i l kd ml hb hm;obtain⟨m,all,h1,h2,h3,h4,h5⟩:=wL hR hm hz;obtain⟨k1,k2⟩:=cx h;rw[aW]at k1;have he1:=aD k1.1;have hle:=bD k1.2;subst he1;split at k2
   ·rename_i c' hov;have hml:=(h5 _ _ rfl).2;rw[hb]at hdim;injection hdim with hdim
    subst hdim;have h2':=h2 (min m n) (bR _ _);have hal:(all.take (min m n*1)).length=min m n*1:=by rw[bA,h3,bK];omega
    simp only[More.cellsOf]at h4;have h4':F2 (VRel c) (fg (.int kd) (ml.take (min m n))) (all.take (min m n*1)):=by rw[iY];exact h4.take (min m n*1)
    have hc':=bi3 hov;have hlen:((l.drop o).take n).length=n:=by rw[bA,bI];omega
    rw[←hml]at k2;refine bf9 hR (by rw[hb];rfl) rfl (by rw[hb];rfl) hs h1 h2' hal (iV h4' (oH _ _)) hqd ?_ rfl (fun h0=> ?_) (fun cs hcs=> ?_) k2
    ·simp only[Blk.dim,aZ,bA,bI,hc']
     congr 2
     omega
    ·simp only at h0;have:l=[]:=List.length_eq_zero_iff.1 h0;subst this;rw[hb];simp at hle;have hn:n=0:=by omega
     subst hn;simp[ax0]at hov;subst hov;simp
    ·rw[hb]at hcs;simp only[Blk.vals]at hcs⊢;have hcl:=hcs.length;rw[bv1 (by rw[hal];omega),bN,bT];refine(hcs.take _).append ?_;have h6:=aC6 (ml:=ml.take (min m n)) hov ((hcs.drop o).take n) (by rw[←bC5];exact h4') (by rw[hlen,bL,hml,Nat.min_comm,←bP,bB (l:=ml) (aX _)])
     have h7:cs.drop (o+(all.take (min m n*1)).length)=((cs.drop o).take n).drop (all.take (min m n*1)).length++cs.drop (o+n):=by
      rw[hal,bT,List.drop_take,List.drop_drop]
      conv=>lhs;rw[←List.take_append_drop (n-min m n) (cs.drop (o+min m n))]
      rw[List.drop_drop]
      congr 2
      omega
     rw[h7,←bN];exact h6.append (hcs.drop _)
   ·cases k2
  ·cases h
 generalize ev e x=xv at*;cases xv<;>try(cases h;done)
 case full q=>
  simp only at h;cases hx with
  |full hk _ hdd=>
   split at h
   ·rename_i n hn;cases hb:cl c.S q with
    |dead=>simp only[lenOf,hb]at hn;cases hn
    |arr s z' l=>
     simp only[lenOf,hb]at hn;injection hn with hn
     have hdim:(cl c.S q).dim=some (s.w,l.length*s.w):=by rw[hb];rfl
     obtain⟨n',h1,h2⟩:=hdd _ hdim;have:n'=n:=by rw[←hn];exact bE (kv s) h1
     subst this;exact go q 0 n' _ hdim (hd q rfl) h2 h
    |cells es' z' l=>
     simp only[lenOf,hb]at hn;injection hn with hn
     have hdim:(cl c.S q).dim=some (es',l.length):=by rw[hb];rfl
     obtain⟨n',h1,h2⟩:=hdd _ hdim;have h3:=(hR.blk q _ hdim).1
     have:n'=n:=by
      simp only at h1 h3;rw[←hn,←h1,bS _ h3]
     subst this;exact go q 0 n' _ hdim (hd q rfl) h2 h
   ·cases h
 case part q o n=>
  simp only at h;cases hx with
  |part hk _ hdd=>
   cases hdm:(cl c.S q).dim with
   |none=>
    have:cl c.S q= .dead:=by
     generalize cl c.S q=blk at hdm;cases blk<;>first|rfl|(cases hdm;done)
    rw[this]at h;cases h
   |some dm=>exact go q o n dm hdm (hd q rfl) (hdd dm hdm) h
end
end
section
section
variable {β:Type} {T:Ab.fB} {c:Ctx} {e:ed} {ea:dM} {d:List Nat} {k:VV→co→Option β} {y:β}
theorem VRel.it_inv {q:Nat}{l:List Int}{a:Value}(h:VRel c (.it q l) a): ∃s,gM s=l∧∀d,(cl c.S q).dim=some d→∃b,c.μ q=some b∧a= .iface b (.string s):=by
 cases h with
 |it _ _ hs hd=>exact⟨_,hs,hd⟩
end
end
section
open Bool renaming and_eq_true → aY
open List renaming append_assoc → aD, singleton_append → aX, mem_cons_of_mem → aZ, getElem?_eq_none → bB, length_take → bC, take_of_length_le → bD
open Nat renaming beq → aB, eq_of_beq_eq_true → aW, lt_or_ge → bA
structure Still (c ct:Ctx):Prop where
 σ:ct.σ=c.σ
 nm: ∀b y,c.σ.m b=some y→¬c.mut b→¬ct.mut b
section
variable {c ct:Ctx}
theorem nK (h:Still c ct): ∀(s:Sh) (x:El s) (as:List Value),F2 (VRel c) (ei s x) as→F2 (VRel ct) (ei s x) as
 | .int k,n,as,hf=>by
  cases hf with
  |cons h1 h2=>cases h2;cases h1;exact .cons (.int _ _) .nil
 | .bool,b,as,hf=>by
  cases hf with
  |cons h1 h2=>cases h2;cases h1;exact .cons (.bool _) .nil
 | .str,l,as,hf=>by
  cases hf with
  |cons h1 h2=>cases h2;cases h1;exact .cons (.str (by assumption)) .nil
 | .list s,l,as,hf=>by
  cases hf with
  |cons h1 h2=>
   cases h2;refine .cons ?_ .nil;cases h1 with
   |lstn hq=>exact .lstn hq
   |lst hn hy he h3 h4 h5 h6=>
    refine .lst (h.nm _ _ hy hn) (by rw[h.σ];exact hy) he h3 h4 h5 ?_;clear hy he h4 h5 hn;subst h3;revert h6;rename_i b p cp y;generalize (y.cells.drop _).take _=as;clear y cp p b;intro h6;induction l generalizing as with
    |nil=>cases h6;exact .nil
    |cons x l ih=>
     rw[fK]at h6⊢;obtain⟨m1,m2,rfl,h7,h8⟩:=F2.app_left h6;exact(nK h s x m1 h7).append (ih _ h8)
 | .pair a b,x,as,hf=>by
  simp only[ei]at hf⊢;obtain⟨m1,m2,rfl,h7,h8⟩:=F2.app_left hf;exact(nK h a x.1 m1 h7).append (nK h b x.2 m2 h8)
theorem aG2 (h:Still c ct){s:Sh}{l:List (El s)}: ∀{as:List Value},F2 (VRel c) (fg s l) as→F2 (VRel ct) (fg s l) as:=by
 induction l with
 |nil=>intro as h6;cases h6;exact .nil
 |cons x l ih=>
  intro as h6;rw[fK]at h6⊢;obtain⟨m1,m2,rfl,h7,h8⟩:=F2.app_left h6;exact(nK h s x m1 h7).append (ih h8)
theorem tT.still (h:Still c ct){s:Sh}{l:List (El s)}{a:Value}(hl:tT c s l a):tT ct s l a:=by
 rcases hl with h1|⟨b,p,cp,y,h1,h2,h3,h4,h5,h6⟩
 ·exact .inl h1
 ·exact .inr ⟨b,p,cp,y,h1,by rw[h.σ];exact h2,h3,h4,h5,aG2 h h6⟩
structure Sub (st st':DSt):Prop where
 m: ∃t,st'.m=st.m++t
 lent: ∀k∈st.lent,k∈st'.lent
theorem Sub.refl (st:DSt):Sub st st:=⟨⟨[],by simp⟩,fun _ h=>h⟩
theorem Sub.trans {a b d:DSt}(h:Sub a b)(k:Sub b d):Sub a d:=by
 obtain⟨t,h1⟩:=h.m;obtain⟨u,h2⟩:=k.m;exact⟨⟨t++u,by rw[h2,h1,aD]⟩,fun i hi=>k.lent i (h.lent i hi)⟩
def ab7 (N:Nat)(m:List (Option Src))(j:Nat)(x:Option Src):Prop:=(j<N∧x=some ⟨j,none⟩)∨(N≤j∧nth m (j-N)=some x)
theorem aw7 {α:Type}{l t:List α}{i:Nat}{x:α}(h:nth l i=some x):nth (l++t) i=some x:=by
 rw[sm]at h⊢
 have hi:i<l.length:=by
  rcases bA i l.length with h1|h1
  ·exact h1
  ·rw[bB h1]at h;cases h
 rw[List.getElem?_append_left hi];exact h
theorem ab7.sub {N:Nat}{st st':DSt}(hs:Sub st st'){j:Nat}{x:Option Src}(h:ab7 N st.m j x):ab7 N st'.m j x:=by
 rcases h with h|⟨h1,h2⟩
 ·exact .inl h
 ·obtain⟨t,h3⟩:=hs.m;exact .inr ⟨h1,by rw[h3];exact aw7 h2⟩
theorem vl {N:Nat}{st st':DSt}{j:Nat}{x:Option Src}(h:st.link N j x=some st'):ab7 N st'.m j x∧st'.ls=st.ls∧st'.lent=st.lent∧Sub st st':=by
 unfold DSt.link at h;cases hb:Nat.blt j N with
 |true=>
  rw[hb,zC]at h;split at h
  ·rename_i k;cases hk:aB k j with
   |false=>rw[hk]at h;cases h
   |true=>
    rw[hk]at h;injection h with h
    subst h;have:=aW hk;subst this;exact⟨.inl ⟨Nat.le_of_ble_eq_true hb,rfl⟩,rfl,rfl,Sub.refl _⟩
  ·cases h
 |false=>
  rw[hb,zD]at h
  have hN:N≤j:=by
   rcases bA j N with h1|h1
   ·rw[show Nat.blt j N=true from Nat.ble_eq_true_of_le h1]at hb;cases hb
   ·exact h1
  split at h
  ·rename_i k hn;split at h
   ·rename_i k';cases hk:aB k k' with
    |false=>rw[hk]at h;cases h
    |true=>
     rw[hk]at h;injection h with h
     subst h;have:=aW hk;subst this;exact⟨.inr ⟨hN,hn⟩,rfl,rfl,Sub.refl _⟩
   ·cases h
  ·cases h
  ·rename_i hn;cases hk:aB (j-N) st.m.length with
   |false=>rw[hk]at h;cases h
   |true=>
    rw[hk]at h;injection h with h
    subst h;have:=aW hk;refine⟨.inr ⟨hN, ?_⟩,rfl,rfl,⟨⟨[x],rfl⟩,fun _ h=>h⟩⟩;rw[sm,this];simp
def Lk (c ct:Ctx)(x:Option Src)(k':Nat):Prop:=k'<ct.S.length∧∀d',(cl ct.S k').dim=some d'→match x with
 |none=>d'.2=0∧ct.μ k'=none
 |some ⟨k,cut⟩=> ∃d,(cl c.S k).dim=some d∧d'.1=d.1∧ct.μ k'=c.μ k∧(match cut with
  |none=>d'.2=d.2
  |some n=>d'.2=min (n*d.1) d.2)
structure Tell (c ct:Ctx)(N:Nat)(f:Nat→Nat)(stf:DSt):Prop extends Still c ct where
 lk: ∀j x,ab7 N stf.m j x→Lk c ct x (f j)
 lent: ∀k,k∈stf.lent→(cl c.S k).dim≠none→∀b,c.μ k=some b→¬ct.mut b
theorem SlR.tell {k k' n:Nat}{d:Nat×Nat}{d2':Nat}{a:Value}(hσ:ct.σ=c.σ)(hμ:ct.μ k'=c.μ k)(h2:d2'=n*d.1)(h:SlR c k 0 n d a):SlR ct k' 0 n (d.1,d2') a:=by
 rcases h with⟨h1,_,h3,h4,h5⟩|⟨b,cp,y,h1,h3,h4,h5,h6,h7⟩
 ·exact .inl ⟨h1,rfl,h3,hμ.trans h4,by rw[h2,h3];simp⟩
 ·exact .inr ⟨b,cp,y,h1,hμ.trans h3,by rw[h2,Nat.zero_add];exact Nat.le_refl _,h5,by rw[hσ];exact h6,h7⟩
theorem bY5 {N:Nat}{f:Nat→Nat}{stf:DSt}(hR:eI c)(hT:Tell c ct N f stf){s:Sh}{v:VV}{l:List (El s)}{a:Value}(h:bT9 c.S s v=some l)(hv:VRel c v a)(hl: ∀k,aC0 v=some k→k∈stf.lent):VRel ct (.lst s l) a:=by
 obtain⟨h1,h2⟩:=cj1 hR h hv;refine(h1.still hT.toStill).rel fun b p n cp e hc=> ?_
 rcases h2 b p n cp e hc with h3|⟨k,h3,h4,h5⟩
 ·rcases h1 with⟨q,e1,_⟩|⟨b',p',cp',y,e1,e2,_⟩
  ·rw[e1]at e;injection e with _ _ e
   exact(hc e.symm).elim
  ·rw[e1]at e;injection e with e _ _
   injection e with e
   injection e with e
   subst e;exact hT.nm _ _ e2 h3
 ·exact hT.lent k (hl k h3) h4 b h5
theorem bh2 {st:DSt}{v:VV}:(∀k,aC0 v=some k→k∈(st.lend v).lent)∧(st.lend v).m=st.m∧(st.lend v).ls=st.ls∧(∀k∈st.lent,k∈(st.lend v).lent):=by
 cases v<;>refine⟨fun k h=> ?_,rfl,rfl,fun k h=> ?_⟩<;>first|(cases h;done)|(injection h with h;subst h;exact List.mem_cons_self)|exact aZ _ h|exact h
mutual
theorem cq7 {S:co}{N:Nat}: ∀(sk:Sk) (v:VV) (st st1:DSt),dec S N sk v st=some st1→Sub st st1
 | .undef,v,st,st1,h=>by
  simp only[dec]at h;injection h with h;subst h;exact Sub.refl _
 | .leaf s,v,st,st1,h=>by
  simp only[dec]at h;split at h
  ·rename_i k k' n;cases hk:decide (k'=k)with
   |false=>rw[hk]at h;cases h
   |true=>rw[hk]at h;injection h with h;subst h;exact⟨⟨[],by simp[DSt.push]⟩,fun _ h=>h⟩
  ·injection h with h;subst h;exact⟨⟨[],by simp[DSt.push]⟩,fun _ h=>h⟩
  ·injection h with h;subst h;exact⟨⟨[],by simp[DSt.push]⟩,fun _ h=>h⟩
  ·rename_i s;obtain⟨l,h1,h2⟩:=cm h;injection h2 with h2;subst h2
   obtain⟨_,h4,_,h6⟩:= @bh2 st v;exact⟨⟨[],by simp[DSt.push,h4]⟩,h6⟩
  ·cases h
 | .cint k n,v,st,st1,h=>by
  cases v<;>simp only[dec]at h<;>try(cases h;done)
  rename_i k' n';cases hk:(decide (k'=k)&&decide (n'=n))with
  |false=>rw[hk]at h;cases h
  |true=>rw[hk]at h;injection h with h;subst h;exact Sub.refl _
 | .nilp,v,st,st1,h=>by
  cases v<;>simp only[dec]at h<;>try(cases h;done)
  injection h with h;subst h;exact Sub.refl _
 | .nils,v,st,st1,h=>by
  cases v<;>simp only[dec]at h<;>try(cases h;done)
  injection h with h;subst h;exact Sub.refl _
 | .nilf,v,st,st1,h=>by
  cases v<;>simp only[dec]at h<;>try(cases h;done)
  injection h with h;subst h;exact Sub.refl _
 | .ptr j o,v,st,st1,h=>by
  cases v<;>simp only[dec]at h<;>try(cases h;done)
  rename_i k o';cases hk:aB o o' with
  |false=>rw[hk]at h;cases h
  |true=>rw[hk,zC]at h;exact(vl h).2.2.2
 | .full j,v,st,st1,h=>by
  simp only[dec]at h;split at h
  ·exact(vl h).2.2.2
  ·exact(vl h).2.2.2
  ·exact(vl h).2.2.2
  ·cases h
 | .pin s o,v,st,st1,h=>by
  cases v<;>simp only[dec]at h<;>try(cases h;done)
  rename_i s' x o';cases hk:aB o o' with
  |false=>rw[hk]at h;cases h
  |true=>
   rw[hk]at h;obtain⟨y,h1,h2⟩:=cm h;injection h2 with h2;subst h2;exact⟨⟨[],by simp[DSt.push]⟩,fun _ h=>h⟩
 | .fn g a b,v,st,st1,h=>by
  cases v<;>simp only[dec]at h<;>try(cases h;done)
  rename_i g' a' b';cases hk:aB g g' with
  |false=>rw[hk]at h;cases h
  |true=>
   rw[hk]at h;obtain⟨st2,h1,h2⟩:=cm h;exact(pQ a a' st st2 h1).trans (pQ b b' st2 st1 h2)
 | .agg l,v,st,st1,h=>by
  cases v<;>simp only[dec]at h<;>try(cases h;done)
  exact pQ l _ st st1 h
 | .tup l,v,st,st1,h=>by
  cases v<;>simp only[dec]at h<;>try(cases h;done)
  exact pQ l _ st st1 h
theorem pQ {S:co}{N:Nat}: ∀(l:List Sk) (vs:List VV) (st st1:DSt),ap8 S N l vs st=some st1→Sub st st1
 |[],vs,st,st1,h=>by
  cases vs<;>simp only[ap8]at h<;>try(cases h;done)
  injection h with h;subst h;exact Sub.refl _
 |k::r,vs,st,st1,h=>by
  cases vs with
  |nil=>simp only[ap8]at h;cases h
  |cons v vs=>
   simp only[ap8]at h;obtain⟨st2,h1,h2⟩:=cm h;exact(cq7 k v st st2 h1).trans (pQ r vs st2 st1 h2)
end
theorem bZ6 {N:Nat}{f:Nat→Nat}{stf:DSt}(hT:Tell c ct N f stf){j k:Nat}{a:Value}(hl:ab7 N stf.m j (some ⟨k,none⟩))(hv:VRel c (.full k) a):VRel ct (.full (f j)) a:=by
 obtain⟨h1,h2⟩:=hT.lk _ _ hl;cases hv with
 |full hk ho hd=>
  refine .full h1 ho fun d' hd'=> ?_
  obtain⟨d,h3,h4,h5,h6⟩:=h2 d' hd';obtain⟨n,h7,h8⟩:=hd d h3;simp only at h6;refine⟨n,by rw[h4,h6];exact h7, ?_⟩;have:=h8.tell hT.σ h5 (d2':=d'.2) (by rw[h6,h7]);rw[←h4]at this;exact this
theorem ch2 {N:Nat}{f:Nat→Nat}{stf:DSt}(hT:Tell c ct N f stf){j k n:Nat}{a:Value}(hl:ab7 N stf.m j (some ⟨k,some n⟩))(hv:VRel c (.part k 0 n) a):VRel ct (.full (f j)) a:=by
 obtain⟨h1,h2⟩:=hT.lk _ _ hl;cases hv with
 |part hk ho hd=>
  refine .full h1 ho fun d' hd'=> ?_
  obtain⟨d,h3,h4,h5,h6⟩:=h2 d' hd';simp only at h6
  have h7:n*d.1≤d.2:=by
   rcases hd d h3 with⟨_,_,e,_,_⟩|⟨_,_,_,_,_,e,_⟩
   ·rw[e];simp
   ·rwa [Nat.zero_add]at e
  rw[Nat.min_eq_left h7]at h6;refine⟨n,by rw[h4,h6], ?_⟩;have:=(hd d h3).tell hT.σ h5 (d2':=d'.2) h6;rw[←h4]at this;exact this
theorem ck6 {N:Nat}{f:Nat→Nat}{stf:DSt}(hT:Tell c ct N f stf){j:Nat}(hl:ab7 N stf.m j none):VRel ct (.full (f j)) (.slice none 0 0):=by
 obtain⟨h1,h2⟩:=hT.lk _ _ hl;refine .full h1 rfl fun d' hd'=> ?_
 obtain⟨h3,h4⟩:=h2 d' hd';exact⟨0,by rw[h3];simp, .inl ⟨rfl,rfl,rfl,h4,h3⟩⟩
mutual
theorem cq8 {N:Nat}{f:Nat→Nat}{stf:DSt}(hR:eI c)(hT:Tell c ct N f stf): ∀(sk:Sk) (v:VV) (st st1:DSt) (a:Value),dec c.S N sk v st=some st1→Sub st1 stf→VRel c v a→
  ∃new,st1.ls=st.ls++new∧∀rest,∃v',enc f sk (new++rest)=some (v',rest)∧VRel ct v' a
 | .undef,v,st,st1,a,h,hs,hv=>by
  simp only[dec]at h;injection h with h;subst h
  exact⟨[],by simp,fun rest=>⟨.undef,by simp[enc], .undef _⟩⟩
 | .leaf s,v,st,st1,a,h,hs,hv=>by
  simp only[dec]at h;split at h
  ·rename_i k k' n;cases hk:decide (k'=k)with
   |false=>rw[hk]at h;cases h
   |true=>
    rw[hk]at h;injection h with h;subst h
    have:=of_decide_eq_true hk;subst this;refine⟨[⟨.int k',n⟩],rfl,fun rest=>⟨.int k' n, ?_, ?_⟩⟩
    ·simp only[aX,enc,kD,zG]
    ·rw[hv.int_inv];exact .int _ _
  ·rename_i b;injection h with h;subst h
   refine⟨[⟨.bool,b⟩],rfl,fun rest=>⟨.bool b, ?_, ?_⟩⟩
   ·simp only[aX,enc,kD,zG]
   ·rw[hv.bool_inv];exact .bool _
  ·rename_i l;injection h with h;subst h
   refine⟨[⟨.str,l⟩],rfl,fun rest=>⟨.str l, ?_, ?_⟩⟩
   ·simp only[aX,enc,kD,zG]
   ·obtain⟨s,h1,h2⟩:=hv.str_inv;rw[h1];exact .str h2
  ·rename_i s;obtain⟨l,h1,h2⟩:=cm h;injection h2 with h2;subst h2
   obtain⟨h3,h4,h5,h6⟩:= @bh2 st v;refine⟨[⟨.list s,l⟩],by simp[DSt.push,h5],fun rest=>⟨.lst s l, ?_, ?_⟩⟩
   ·simp only[aX,enc,kD,zG]
   ·exact bY5 hR hT h1 hv fun k hk=>hs.lent k (h3 k hk)
  ·cases h
 | .cint k n,v,st,st1,a,h,hs,hv=>by
  cases v<;>simp only[dec]at h<;>try(cases h;done)
  rename_i k' n';cases hk:(decide (k'=k)&&decide (n'=n))with
  |false=>rw[hk]at h;cases h
  |true=>
   rw[hk]at h;injection h with h;subst h
   rw[aY]at hk;have e1:=of_decide_eq_true hk.1;have e2:=of_decide_eq_true hk.2;subst e1;subst e2;refine⟨[],by simp,fun rest=>⟨.int k' n',by simp[enc], ?_⟩⟩;rw[hv.int_inv];exact .int _ _
 | .nilp,v,st,st1,a,h,hs,hv=>by
  cases v<;>simp only[dec]at h<;>try(cases h;done)
  injection h with h;subst h
  cases hv;exact⟨[],by simp,fun rest=>⟨.nilp,by simp[enc], .nilp⟩⟩
 | .nils,v,st,st1,a,h,hs,hv=>by
  cases v<;>simp only[dec]at h<;>try(cases h;done)
  injection h with h;subst h
  cases hv;exact⟨[],by simp,fun rest=>⟨.nils,by simp[enc], .nils⟩⟩
 | .nilf,v,st,st1,a,h,hs,hv=>by
  cases v<;>simp only[dec]at h<;>try(cases h;done)
  injection h with h;subst h
  cases hv;exact⟨[],by simp,fun rest=>⟨.nilf,by simp[enc], .nilf⟩⟩
 | .ptr j o,v,st,st1,a,h,hs,hv=>by
  cases v<;>simp only[dec]at h<;>try(cases h;done)
  rename_i k o';cases hk:aB o o' with
  |false=>rw[hk]at h;cases h
  |true=>
   rw[hk,zC]at h;have:=aW hk;subst this;obtain⟨h1,h2,h3,h4⟩:=vl h;obtain⟨h5,h6⟩:=hT.lk _ _ (h1.sub hs);refine⟨[],by simp[h2],fun rest=>⟨.ptr (f j) o,by simp[enc], ?_⟩⟩;cases hv with
   |ptr hk ho hd=>
    refine .ptr h5 ho fun d' hd'=> ?_
    obtain⟨d,h7,_,h8,_⟩:=h6 d' hd';obtain⟨b,h9,h10⟩:=hd d h7;exact⟨b,h8.trans h9,h10⟩
 | .full j,v,st,st1,a,h,hs,hv=>by
  simp only[dec]at h;split at h
  ·obtain⟨h1,h2,h3,h4⟩:=vl h;exact⟨[],by simp[h2],fun rest=>⟨.full (f j),by simp[enc],bZ6 hT (h1.sub hs) hv⟩⟩
  ·obtain⟨h1,h2,h3,h4⟩:=vl h;exact⟨[],by simp[h2],fun rest=>⟨.full (f j),by simp[enc],ch2 hT (h1.sub hs) hv⟩⟩
  ·obtain⟨h1,h2,h3,h4⟩:=vl h;cases hv;exact⟨[],by simp[h2],fun rest=>⟨.full (f j),by simp[enc],ck6 hT (h1.sub hs)⟩⟩
  ·cases h
 | .pin s o,v,st,st1,a,h,hs,hv=>by
  cases v<;>simp only[dec]at h<;>try(cases h;done)
  rename_i s' x o';cases hk:aB o o' with
  |false=>rw[hk]at h;cases h
  |true=>
   rw[hk,zC]at h;have:=aW hk;subst this;obtain⟨y,h1,h2⟩:=cm h;obtain⟨ee,h3⟩:=jw h1;cases ee;subst h3;injection h2 with h2;subst h2
   refine⟨[⟨s,y⟩],rfl,fun rest=>⟨.pin s y o, ?_, ?_⟩⟩
   ·simp only[aX,enc,kD,zG]
   ·cases hv with
    |pin hn hy hl hf=>exact .pin (hT.nm _ _ hy hn) (by rw[hT.σ];exact hy) hl (nK hT.toStill _ _ _ hf)
 | .fn g p q,v,st,st1,a,h,hs,hv=>by
  cases v<;>simp only[dec]at h<;>try(cases h;done)
  rename_i g' p' q';cases hk:aB g g' with
  |false=>rw[hk]at h;cases h
  |true=>
   rw[hk,zC]at h;have:=aW hk;subst this;obtain⟨st2,h1,h2⟩:=cm h;cases hv with
   |fn f1 f2=>
    obtain⟨new1,e1,e2⟩:=rH hR hT p p' st st2 _ h1 ((pQ q q' st2 st1 h2).trans hs) f1;obtain⟨new2,e3,e4⟩:=rH hR hT q q' st2 st1 _ h2 hs f2;refine⟨new1++new2,by rw[e3,e1,aD],fun rest=> ?_⟩;obtain⟨v1,e5,e6⟩:=e2 (new2++rest);obtain⟨v2,e7,e8⟩:=e4 rest;exact⟨.fn g v1 v2,by simp only[enc,aD,e5,zG,e7], .fn e6 e8⟩
 | .agg l,v,st,st1,a,h,hs,hv=>by
  cases v<;>simp only[dec]at h<;>try(cases h;done)
  cases hv with
  |agg f1=>
   obtain⟨new1,e1,e2⟩:=rH hR hT l _ st st1 _ h hs f1;refine⟨new1,e1,fun rest=> ?_⟩;obtain⟨v1,e5,e6⟩:=e2 rest;exact⟨.agg v1,by simp only[enc,e5,zG], .agg e6⟩
 | .tup l,v,st,st1,a,h,hs,hv=>by
  cases v<;>simp only[dec]at h<;>try(cases h;done)
  cases hv with
  |tup f1=>
   obtain⟨new1,e1,e2⟩:=rH hR hT l _ st st1 _ h hs f1;refine⟨new1,e1,fun rest=> ?_⟩;obtain⟨v1,e5,e6⟩:=e2 rest;exact⟨.tup v1,by simp only[enc,e5,zG], .tup e6⟩
theorem rH {N:Nat}{f:Nat→Nat}{stf:DSt}(hR:eI c)(hT:Tell c ct N f stf): ∀(l:List Sk) (vs:List VV) (st st1:DSt) (as:List Value),ap8 c.S N l vs st=some st1→Sub st1 stf→F2 (VRel c) vs as→
  ∃new,st1.ls=st.ls++new∧∀rest,∃vs',be2 f l (new++rest)=some (vs',rest)∧F2 (VRel ct) vs' as
 |[],vs,st,st1,as,h,hs,hf=>by
  cases vs<;>simp only[ap8]at h<;>try(cases h;done)
  injection h with h;subst h
  cases hf;exact⟨[],by simp,fun rest=>⟨[],by simp[be2], .nil⟩⟩
 |k::r,vs,st,st1,as,h,hs,hf=>by
  cases hf with
  |nil=>simp only[ap8]at h;cases h
  |cons f1 f2=>
   simp only[ap8]at h;obtain⟨st2,h1,h2⟩:=cm h;obtain⟨new1,e1,e2⟩:=cq8 hR hT k _ st st2 _ h1 ((pQ r _ st2 st1 h2).trans hs) f1;obtain⟨new2,e3,e4⟩:=rH hR hT r _ st2 st1 _ h2 hs f2;refine⟨new1++new2,by rw[e3,e1,aD],fun rest=> ?_⟩;obtain⟨v1,e5,e6⟩:=e2 (new2++rest);obtain⟨v2,e7,e8⟩:=e4 rest;exact⟨v1::v2,by simp only[be2,aD,e5,zG,e7], .cons e6 e8⟩
end
def qJ (c ct:Ctx)(o:OSk)(x:Option Src)(blk:Blk):Prop:=
 (o= .dead∧blk= .dead)∨(blk.frozen=o.ro∧match x with
  |none=>o.ro=false∧∃s,blk= .arr s false []
  |some ⟨k,cut⟩=>(o.ro=false→(cl c.S k).frozen=false)∧∃d,(cl c.S k).dim=some d∧(match cut with
   |none=>blk.dim=some d
   |some n=>blk.dim=some (d.1,min (n*d.1) d.2))∧∀cs,F2 (VRel c) (cl c.S k).vals cs→F2 (VRel ct) blk.vals (cs.take blk.vals.length))
theorem av3 {S:co}{N:Nat}{o:OSk}{x:Option Src}{st st1:DSt}(h:bL5 S N o x st=some st1):Sub st st1:=by
 unfold bL5 at h;split at h
 ·injection h with h;subst h;exact Sub.refl _
 ·split at h
  ·rename_i es ro l k _ es' fz cs hb;cases hk:(aB es es'&&(ro|| !fz))with
   |false=>rw[hk]at h;cases h
   |true=>
    rw[hk,zC]at h;have h1:=pQ _ _ _ _ h;cases ro with
    |false=>exact h1
    |true=>exact Sub.trans ⟨⟨[],by simp⟩,fun _ h=>aZ _ h⟩ h1
  ·cases h
 ·rename_i ro s;cases ro with
  |true=>cases h
  |false=>injection h with h;subst h;exact⟨⟨[],by simp[DSt.push]⟩,fun _ h=>h⟩
 ·rename_i ro s k cut;cases hk:(ro|| !(cl S k).frozen)with
  |false=>rw[hk]at h;cases h
  |true=>
   rw[hk,zC]at h;obtain⟨l,h1,h2⟩:=cm h;injection h2 with h2;subst h2
   cases ro with
   |false=>exact⟨⟨[],by simp[DSt.push]⟩,fun _ h=>h⟩
   |true=>exact⟨⟨[],by simp[DSt.push]⟩,fun _ h=>aZ _ h⟩
 ·cases h
theorem bA4 {N:Nat}{f:Nat→Nat}{stf:DSt}(hR:eI c)(hT:Tell c ct N f stf){o:OSk}{x:Option Src}{st st1:DSt}(h:bL5 c.S N o x st=some st1)(hs:Sub st1 stf):
  ∃new,st1.ls=st.ls++new∧∀rest,∃blk,be3 f o (new++rest)=some (blk,rest)∧qJ c ct o x blk:=by
 unfold bL5 at h;split at h
 ·injection h with h;subst h
  exact⟨[],by simp,fun rest=>⟨.dead,by simp[be3], .inl ⟨rfl,rfl⟩⟩⟩
 ·split at h
  ·rename_i es ro l k _ es' fz cs hb;cases hk:(aB es es'&&(ro|| !fz))with
   |false=>rw[hk]at h;cases h
   |true=>
    rw[hk,zC]at h;rw[aY]at hk;have he:=aW hk.1;subst he;have hdim:(cl c.S k).dim=some (es,cs.length):=by rw[hb];rfl
    obtain⟨h0,hblk⟩:=hR.blk k _ hdim
    have hf: ∃as,F2 (VRel c) cs as:=by
     rcases hblk with⟨e1,e2⟩|⟨b,y,as,rest,_,_,_,_,_,e3⟩
     ·have:cs=[]:=List.length_eq_zero_iff.1 e1;subst this;exact⟨[], .nil⟩
     ·rw[hb]at e3;exact⟨as,e3⟩
    obtain⟨as,hf⟩:=hf;obtain⟨new,e1,e2⟩:=rH hR hT l cs _ st1 as h hs hf;refine⟨new, ?_,fun rest=> ?_⟩
    ·rw[e1];cases ro<;>rfl
    ·obtain⟨vs,e3,e4⟩:=e2 rest;refine⟨.cells es ro vs,by simp only[be3,e3,zG], .inr ⟨rfl,fun hro=> ?_,(es,cs.length),hdim, ?_,fun cs' hcs'=> ?_⟩⟩
     ·simp only[OSk.ro]at hro;subst hro;rw[hb];have:=hk.2;simp only[Bool.false_or,Bool.not_eq_true']at this;exact this
     ·simp only[Blk.dim];rw[e4.length,hf.length]
     ·rw[hb]at hcs';obtain⟨new',e1',e2'⟩:=rH hR hT l cs _ st1 cs' h hs hcs'
      have:new'=new:=by
       rw[e1]at e1';exact(List.append_cancel_left e1').symm
      subst this;obtain⟨vs',e3',e4'⟩:=e2' rest;rw[e3]at e3';injection e3' with e3'
      injection e3' with e3' _
      subst e3';rw[bD (by rw[←e4'.length];exact Nat.le_refl _)];exact e4'
  ·cases h
 ·rename_i ro s;cases ro with
  |true=>cases h
  |false=>
   injection h with h;subst h
   refine⟨[⟨.list s,[]⟩],rfl,fun rest=>⟨.arr s false [], ?_, .inr ⟨rfl,rfl,s,rfl⟩⟩⟩;simp only[aX,be3,kD,zG]
 ·rename_i ro s k cut;cases hk:(ro|| !(cl c.S k).frozen)with
  |false=>rw[hk]at h;cases h
  |true=>
   rw[hk,zC]at h;obtain⟨l,h1,h2⟩:=cm h;injection h2 with h2;subst h2
   obtain⟨d,h3,h4,h5,h6⟩:=oG (iM hR s) h1;refine⟨[⟨.list s,aS9 cut l⟩],by cases ro<;>rfl,fun rest=>⟨.arr s ro (aS9 cut l), ?_, .inr ⟨rfl,fun hro=> ?_,d,h3, ?_,fun cs hcs=> ?_⟩⟩⟩
   ·simp only[aX,be3,kD,zG]
   ·simp only[OSk.ro]at hro;subst hro;simpa using hk
   ·cases cut with
    |none=>
     simp only[Blk.dim,aS9];rw[←h5,←h4]
    |some n=>
     simp only[Blk.dim,aS9,bC];rw[h5,h4,←Nat.mul_min_mul_right]
   ·have h7:=aG2 hT.toStill (h6 cs hcs);have h8:cs.length=l.length*s.w:=by rw[←h7.length,fS]
    cases cut with
    |none=>
     simp only[Blk.vals,aS9];rw[bD (by rw[fS];omega)];exact h7
    |some n=>
     simp only[Blk.vals,aS9];have h9:((fg s (l.take n)).length)=min (n*s.w) cs.length:=by rw[iY,bC,fS,h8]
     rw[h9,iY,←List.take_take,List.take_length];exact h7.take (n*s.w)
 ·cases h
theorem ap7 {S:co}{N:Nat}: ∀{os:List OSk} {js:List Nat} {st st1:DSt},aB3 S N os js st=some st1→Sub st st1
 |[],[],st,st1,h=>by injection h with h;subst h;exact Sub.refl _
 |[],_::_,st,st1,h=>by cases h
 |_::_,[],st,st1,h=>by cases h
 |o::os,j::js,st,st1,h=>by
  simp only[aB3]at h;obtain⟨st2,h1,h2⟩:=cm h;exact(av3 h1).trans (ap7 h2)
theorem mE {S:co}{N:Nat}: ∀{os:List OSk} {i:Nat} {st st1:DSt},pP S N os i st=some st1→Sub st st1
 |[],i,st,st1,h=>by
  simp only[pP]at h;cases hb:aB i st.m.length with
  |false=>rw[hb]at h;cases h
  |true=>rw[hb]at h;injection h with h;subst h;exact Sub.refl _
 |o::os,i,st,st1,h=>by
  simp only[pP]at h;split at h
  ·obtain⟨st2,h1,h2⟩:=cm h;exact(av3 h1).trans (mE h2)
  ·cases h
inductive ve (c ct:Ctx):List OSk→List Nat→List Blk→Prop where
 |nil:ve c ct [] [] []
 |cons {o:OSk} {j:Nat} {b:Blk} {os:List OSk} {js:List Nat} {bs:List Blk}:qJ c ct o (some ⟨j,none⟩) b→ve c ct os js bs→ve c ct (o::os) (j::js) (b::bs)
inductive rn (c ct:Ctx):List OSk→List (Option Src)→List Blk→Prop where
 |nil:rn c ct [] [] []
 |cons {o:OSk} {x:Option Src} {b:Blk} {os:List OSk} {xs:List (Option Src)} {bs:List Blk}:qJ c ct o x b→rn c ct os xs bs→rn c ct (o::os) (x::xs) (b::bs)
theorem aT0 {N:Nat}{f:Nat→Nat}{stf:DSt}(hR:eI c)(hT:Tell c ct N f stf): ∀{os:List OSk} {js:List Nat} {st st1:DSt},aB3 c.S N os js st=some st1→Sub st1 stf→
  ∃new,st1.ls=st.ls++new∧∀rest,∃bs,yS f os (new++rest)=some (bs,rest)∧ve c ct os js bs
 |[],[],st,st1,h,hs=>by injection h with h;subst h;exact⟨[],by simp,fun rest=>⟨[],by simp[yS], .nil⟩⟩
 |[],_::_,st,st1,h,hs=>by cases h
 |_::_,[],st,st1,h,hs=>by cases h
 |o::os,j::js,st,st1,h,hs=>by
  simp only[aB3]at h;obtain⟨st2,h1,h2⟩:=cm h;obtain⟨new1,e1,e2⟩:=bA4 hR hT h1 ((ap7 h2).trans hs);obtain⟨new2,e3,e4⟩:=aT0 hR hT h2 hs;refine⟨new1++new2,by rw[e3,e1,aD],fun rest=> ?_⟩;obtain⟨v1,e5,e6⟩:=e2 (new2++rest);obtain⟨v2,e7,e8⟩:=e4 rest;exact⟨v1::v2,by simp only[yS,aD,e5,zG,e7], .cons e6 e8⟩
theorem aF7 {N:Nat}{f:Nat→Nat}{stf:DSt}(hR:eI c)(hT:Tell c ct N f stf): ∀{os:List OSk} {i:Nat} {st st1:DSt},pP c.S N os i st=some st1→Sub st1 stf→
  ∃new,st1.ls=st.ls++new∧i+os.length=st1.m.length∧∀rest,∃bs,yS f os (new++rest)=some (bs,rest)∧rn c ct os (st1.m.drop i) bs
 |[],i,st,st1,h,hs=>by
  simp only[pP]at h;cases hb:aB i st.m.length with
  |false=>rw[hb]at h;cases h
  |true=>
   rw[hb]at h;injection h with h;subst h
   have:=aW hb;subst this;exact⟨[],by simp,by simp,fun rest=>⟨[],by simp[yS],by rw[List.drop_length];exact .nil⟩⟩
 |o::os,i,st,st1,h,hs=>by
  simp only[pP]at h;split at h
  ·rename_i x hx;obtain⟨st2,h1,h2⟩:=cm h;obtain⟨new1,e1,e2⟩:=bA4 hR hT h1 ((mE h2).trans hs);obtain⟨new2,e3,e3',e4⟩:=aF7 hR hT h2 hs;refine⟨new1++new2,by rw[e3,e1,aD],by rw[←e3'];simp;omega,fun rest=> ?_⟩;obtain⟨v1,e5,e6⟩:=e2 (new2++rest);obtain⟨v2,e7,e8⟩:=e4 rest;refine⟨v1::v2,by simp only[yS,aD,e5,zG,e7], ?_⟩;obtain⟨t1,t2⟩:=(av3 h1).m;obtain⟨t3,t4⟩:=(mE h2).m
   have hx':st1.m[i]?=some x:=by
    rw[←sm,t4,t2];exact aw7 (aw7 hx)
   have hi:i<st1.m.length:=by
    rcases bA i st1.m.length with h|h
    ·exact h
    ·rw[bB h]at hx';cases hx'
   rw[List.drop_eq_getElem_cons hi];rw[List.getElem?_eq_getElem hi]at hx';injection hx' with hx'
   rw[hx'];exact .cons e6 e8
  ·cases h
theorem aB4 {N:Nat}{f:Nat→Nat}{fx:List Nat}{sk:tZ}{vals:List VV}{as:List Value}{st:DSt}(hR:eI c)(hT:Tell c ct N f st)(h:lB c.S N fx sk vals=some st)(hf:F2 (VRel c) vals as):
  ∃vs fs bs,mG f sk st.ls=some (vs,fs,bs)∧F2 (VRel ct) vs as∧ve c ct sk.fix fx fs∧rn c ct sk.free st.m bs:=by
 unfold lB at h;obtain⟨st1,h1,h⟩:=cm h;obtain⟨st2,h2,h⟩:=cm h;obtain⟨st3,h3,h⟩:=cm h
 have:st3=st:=by
  cases hb:(an0 (fx++lC st3.m)&&yo (fx++iE sk.free st3.m) st3.lent)with
  |false=>rw[hb]at h;cases h
  |true=>rw[hb]at h;injection h
 subst this;obtain⟨n1,e1,f1⟩:=rH hR hT _ _ _ _ _ h1 ((ap7 h2).trans (mE h3)) hf;obtain⟨n2,e2,f2⟩:=aT0 hR hT h2 (mE h3);obtain⟨n3,e3,e4,f3⟩:=aF7 hR hT h3 (Sub.refl _);obtain⟨vs,g1,g2⟩:=f1 (n2++n3);obtain⟨fs,g3,g4⟩:=f2 n3;obtain⟨bs,g5,g6⟩:=f3 [];refine⟨vs,fs,bs, ?_,g2,g4,by rw[List.drop_zero]at g6;exact g6⟩;have hls:st3.ls=n1++(n2++n3):=by rw[e3,e2,e1];simp
 rw[List.append_nil]at g5;simp only[mG,hls,g1,zG,g3,g5]
theorem mF {S:co}{N:Nat}{fx:List Nat}{sk:tZ}{vals:List VV}{st:DSt}(h:lB S N fx sk vals=some st):an0 (fx++lC st.m)=true∧yo (fx++iE sk.free st.m) st.lent=true:=by
 unfold lB at h;obtain⟨st1,h1,h⟩:=cm h;obtain⟨st2,h2,h⟩:=cm h;obtain⟨st3,h3,h⟩:=cm h;cases hb:(an0 (fx++lC st3.m)&&yo (fx++iE sk.free st3.m) st3.lent)with
 |false=>rw[hb]at h;cases h
 |true=>
  rw[hb]at h;injection h with h
  subst h
  rwa [aY]at hb
theorem aw8 : ∀{ss:List Sh} {ls:List Leaf} {t:Tup ss},ofL ss ls=some t→toL ss t=ls
 |[],ls,t,h=>by
  cases ls with
  |nil=>rfl
  |cons=>simp[ofL]at h
 |[s],ls,t,h=>by
  cases ls with
  |nil=>simp[ofL]at h
  |cons x ls=>
   cases ls with
   |nil=>
    simp only[ofL]at h;obtain⟨ee,h1⟩:=jw h;obtain⟨s',v⟩:=x;simp only at ee;subst ee;subst h1;rfl
   |cons=>simp[ofL]at h
 |s::s'::r,ls,t,h=>by
  cases ls with
  |nil=>simp[ofL]at h
  |cons x ls=>
   simp only[ofL]at h;obtain⟨a,h1,h⟩:=cm h;obtain⟨b,h2,h⟩:=cm h;injection h with h
   subst h;obtain⟨ee,h3⟩:=jw h1;obtain⟨s0,v⟩:=x;simp only at ee;subst ee;subst h3;simp only[toL];rw[aw8 h2]
end
end
section
open List renaming getElem?_eq_getElem → aB, all_eq_true → aW, getElem?_eq_none → aX, replicate → aY, mem_cons_of_mem → aZ, mem_cons_self → bA, mem_of_getElem? → bB, nodup_cons → bC
open Nat renaming lt_or_ge → aD, le_add_right → bD, lt_of_lt_of_le → bE
def wR (c:Ctx):Option Src→Option Nat
 |none=>none
 |some x=>c.μ x.k
theorem ve.get {c ct:Ctx}: ∀{os:List OSk} {js:List Nat} {bs:List Blk},ve c ct os js bs→js.length=bs.length∧os.length=bs.length∧∀(i j:Nat) (b:Blk),js[i]?=some j→bs[i]?=some b→∃o,os[i]?=some o∧qJ c ct o (some ⟨j,none⟩) b
 |_,_,_, .nil=>⟨rfl,rfl,fun i j b h=>by simp at h⟩
 |_,_,_, .cons h1 h2=>by
  obtain⟨e1,e2,e3⟩:=h2.get;refine⟨by simp[e1],by simp[e2],fun i j b hj hb=> ?_⟩;cases i with
  |zero=>
   simp at hj hb;subst hj;subst hb;exact⟨_,rfl,h1⟩
  |succ i=>
   simp at hj hb;obtain⟨o,h3,h4⟩:=e3 i j b hj hb;exact⟨o,by simpa using h3,h4⟩
theorem rn.get {c ct:Ctx}: ∀{os:List OSk} {xs:List (Option Src)} {bs:List Blk},rn c ct os xs bs→xs.length=bs.length∧os.length=bs.length∧∀(i:Nat) (x:Option Src) (b:Blk),xs[i]?=some x→bs[i]?=some b→∃o,os[i]?=some o∧qJ c ct o x b
 |_,_,_, .nil=>⟨rfl,rfl,fun i j b h=>by simp at h⟩
 |_,_,_, .cons h1 h2=>by
  obtain⟨e1,e2,e3⟩:=h2.get;refine⟨by simp[e1],by simp[e2],fun i j b hj hb=> ?_⟩;cases i with
  |zero=>
   simp at hj hb;subst hj;subst hb;exact⟨_,rfl,h1⟩
  |succ i=>
   simp at hj hb;obtain⟨o,h3,h4⟩:=e3 i j b hj hb;exact⟨o,by simpa using h3,h4⟩
theorem qJ.blkRel {c ct:Ctx}(hR:eI c)(hσ:ct.σ=c.σ){o:OSk}{x:Option Src}{b:Blk}{p:Nat}(h:qJ c ct o x b)(hp:cl ct.S p=b)(hμ:b.dim≠none→ct.μ p=wR c x):aN3 ct p:=by
 intro d' hd';rw[hp]at hd';have hμ2:ct.μ p=wR c x:=hμ (by rw[hd'];simp);clear hμ;rcases h with⟨_,h⟩|⟨h1,h2⟩
 ·subst h;cases hd'
 ·cases x with
  |none=>
   obtain⟨_,s,h3⟩:=h2;subst h3;injection hd' with hd'
   subst hd';exact⟨kv s, .inl ⟨by simp,by simpa[wR]using hμ2⟩⟩
  |some x=>
   obtain⟨k,cut⟩:=x;obtain⟨h3,d,h4,h5,h6⟩:=h2;simp only[wR]at hμ2;obtain⟨h7,h8⟩:=hR.blk k d h4
   have hd1:d'.1=d.1∧d'.2≤d.2:=by
    cases cut with
    |none=>
     simp only at h5;rw[h5]at hd';injection hd' with hd'
     subst hd';exact⟨rfl,Nat.le_refl _⟩
    |some n=>
     simp only at h5;rw[h5]at hd';injection hd' with hd'
     subst hd';exact⟨rfl,Nat.min_le_right _ _⟩
   refine⟨by rw[hd1.1];exact h7, ?_⟩;rcases h8 with⟨h9,h10⟩|⟨bb,y,cs,rest,h9,h10,h11,h12,h13,h14⟩
   ·exact .inl ⟨by omega,hμ2.trans h10⟩
   ·have hlen:b.vals.length=d'.2:=yj hd';refine .inr ⟨bb,y,cs.take b.vals.length,cs.drop b.vals.length++rest,hμ2.trans h9,by rw[hσ];exact h10,by rw[hd1.1];exact h11,fun hz=> ?_,by rw[←List.append_assoc,List.take_append_drop];exact h13, ?_⟩
    ·rw[hp,h1]at hz;exact h12 (h3 hz)
    ·rw[hp];exact h6 cs h14
theorem bR4 (f:Nat→Nat): ∀n,∃K,∀j,j<n→f j<K
 |0=>⟨0,fun j h=>by omega⟩
 |n+1=>by
  obtain⟨K,h⟩:=bR4 f n;refine⟨max K (f n+1),fun j hj=> ?_⟩;rcases aD j n with h1|h1
  ·have:=h j h1;omega
  ·have:j=n:=by omega
   subst this;omega
theorem ag1 {n k:Nat}:cl (aY n Blk.dead) k= .dead:=by
 induction n generalizing k with
 |zero=>rfl
 |succ n ih=>
  cases k with
  |zero=>rfl
  |succ k=>exact ih
theorem bg0 {c:Ctx}{N:Nat}{f:Nat→Nat}{fx:List Nat}{sk:tZ}{vals:List VV}{as:List Value}{st:DSt}(hR:eI c)(h:lB c.S N fx sk vals=some st)(hf:F2 (VRel c) vals as):
  ∃ct0 vs fs bs,mG f sk st.ls=some (vs,fs,bs)∧ve c ct0 sk.fix fx fs∧rn c ct0 sk.free st.m bs:=by
 obtain⟨K,hK⟩:=bR4 f (N+st.m.length)
 have hT:Tell c ⟨fun _=>none,aY K .dead,c.σ,fun _=>False⟩ N f st:=by
  have hno: ∀b,¬(⟨fun _=>none,aY K .dead,c.σ,fun _=>False⟩:Ctx).mut b:=by
   rintro b (⟨k,h1,_⟩|h)
   ·simp only[ag1]at h1;cases h1
   ·exact h
  refine⟨⟨rfl,fun b _ _ _=>hno b⟩,fun j x hl=>⟨?_,fun d' hd'=> ?_⟩,fun k _ _ b _=>hno b⟩
  ·simp only[List.length_replicate];refine hK j ?_;rcases hl with⟨h1,_⟩|⟨h1,h2⟩
   ·omega
   ·rw[sm]at h2;rcases aD (j-N) st.m.length with h3|h3
    ·omega
    ·rw[aX h3]at h2;cases h2
  ·simp only[ag1]at hd';cases hd'
 obtain⟨vs,fs,bs,h1,_,h2,h3⟩:=aB4 hR hT h hf;exact⟨_,vs,fs,bs,h1,h2,h3⟩
theorem iZ {k:Nat}{l:List Nat}:jN k l=true↔k∈l:=by
 induction l with
 |nil=>simp[jN]
 |cons a l ih=>
  simp only[jN,List.mem_cons];cases h:Nat.beq a k with
  |true=>
   have:=Nat.eq_of_beq_eq_true h;simp[this]
  |false=>
   have:a≠k:=by rintro rfl;rw[Nat.beq_refl]at h;cases h
   rw[zD,ih];simp[Ne.symm this]
theorem mD {l:List Nat}:an0 l=true→l.Nodup:=by
 induction l with
 |nil=>intro _;exact List.nodup_nil
 |cons a l ih=>
  intro h;simp only[an0]at h;cases hm:jN a l with
  |true=>rw[hm]at h;cases h
  |false=>
   rw[hm]at h;refine List.nodup_cons.2 ⟨fun h1=> ?_,ih h⟩;rw[iZ.2 h1]at hm;cases hm
theorem aU0 {w l:List Nat}(h:yo w l=true){k:Nat}(hk:k∈w):k∉l:=by
 intro h1;simp only[yo,aW]at h;have:=h k hk;rw[iZ.2 h1]at this;cases this
theorem uo {m:List (Option Src)}{i:Nat}{x:Src}(h:m[i]?=some (some x)):x.k∈lC m:=by
 induction m generalizing i with
 |nil=>simp at h
 |cons a m ih=>
  cases i with
  |zero=>
   simp at h;subst h;exact bA
  |succ i=>
   simp at h;have:=ih h;cases a with
   |none=>exact this
   |some a=>exact aZ _ this
theorem aw2 {m:List (Option Src)}(hn:(lC m).Nodup){i j:Nat}{x y:Src}(h:m[i]?=some (some x))(h':m[j]?=some (some y))(e:x.k=y.k):i=j:=by
 induction m generalizing i j with
 |nil=>simp at h
 |cons a m ih=>
  cases i with
  |zero=>
   simp at h;subst h;cases j with
   |zero=>rfl
   |succ j=>
    simp at h';have h1:=uo h';simp only[lC,bC]at hn;rw[e]at hn;exact(hn.1 h1).elim
  |succ i=>
   simp at h;cases j with
   |zero=>
    simp at h';subst h';have h1:=uo h;simp only[lC,bC]at hn;rw[←e]at hn;exact(hn.1 h1).elim
   |succ j=>
    simp at h'
    have hn':(lC m).Nodup:=by
     cases a with
     |none=>exact hn
     |some a=>exact(List.nodup_cons.1 hn).2
    rw[ih hn' h h']
theorem ay8 {os:List OSk}{m:List (Option Src)}{i:Nat}{x:Src}{o:OSk}(h:m[i]?=some (some x))(ho:os[i]?=some o)(hr:o.ro=false):x.k∈iE os m:=by
 induction m generalizing os i with
 |nil=>simp at h
 |cons a m ih=>
  cases os with
  |nil=>simp at ho
  |cons o' os=>
   cases i with
   |zero=>
    simp at h ho;subst h;subst ho;simp only[iE,hr,zD];exact bA
   |succ i=>
    simp at h ho;have:=ih h ho;cases a with
    |none=>exact this
    |some a=>
     simp only[iE];cases o'.ro with
     |true=>exact this
     |false=>exact aZ _ this
theorem cE4 {b:Blk}(h:b.may=true)(hd:b.dim≠none)(hz:b.frozen=true):False:=by
 cases b with
 |dead=>exact hd rfl
 |cells es z l=>simp only[Blk.may,Blk.frozen]at h hz;rw[hz]at h;cases h
 |arr s z l=>simp only[Blk.may,Blk.frozen]at h hz;rw[hz]at h;cases h
structure GT (c c' ct:Ctx)(N:Nat)(f:Nat→Nat)(fx:List Nat)(sk:tZ)(st:DSt)(fs bs:List Blk):Prop where
 σ:ct.σ=c'.σ
 fb:ct.fb=c.fb
 len:ct.S.length=c.S.length+bs.length
 oth: ∀k,k<c.S.length→(∀j,j∈fx→f j≠k)→cl ct.S k=cl c.S k∨cl ct.S k=(cl c.S k).freeze∨(cl ct.S k= .dead∧(cl c.S k).frozen=false)
 fix: ∀(i j:Nat) (b:Blk),fx[i]?=some j→fs[i]?=some b→cl ct.S (f j)=b
 fixlt: ∀j,j∈fx→f j<c.S.length
 free: ∀(i:Nat) (b:Blk),bs[i]?=some b→cl ct.S (c.S.length+i)=b
 fN: ∀i,f (N+i)=c.S.length+i
 μo: ∀k,k<c.S.length→ct.μ k=c.μ k
 μn: ∀(i:Nat) (x:Option Src),st.m[i]?=some x→ct.μ (c.S.length+i)=wR c' x
 un: ∀b y,c.σ.m b=some y→¬c.own b→c'.σ.m b=some y
 ow: ∀b y,c.σ.m b=some y→¬c.own b→¬c'.own b
 n:c.σ.n≤c'.σ.n
 oun: ∀k,k<c.S.length→(∀j,j∈fx→f j≠k)→(cl ct.S k).dim≠none→∀b y,c.μ k=some b→c.σ.m b=some y→c'.σ.m b=some y
 odis: ∀k,k<c.S.length→(∀j,j∈fx→f j≠k)→(cl ct.S k).dim≠none→∀s,(s∈fx∨s∈lC st.m)→(cl c'.S s).frozen=false→∀b,c'.μ s=some b→c.μ k≠some b
 wr: ∀j,j∈fx→(cl c'.S j).dim≠none→(cl c.S (f j)).dim=(cl c'.S j).dim∧c'.μ j=c.μ (f j)∧∀b y,c.μ (f j)=some b→c.σ.m b=some y→∃y',c'.σ.m b=some y'∧y'.cells.length=y.cells.length
 wrz: ∀j,j∈fx→(cl c.S (f j)).may=true
 finj: ∀j j',j∈fx→j'∈fx→f j=f j'→j=j'
 fbk: ∀k b,(cl c'.S k).dim≠none→c'.μ k=some b→¬c.fb b
 lk: ∀j,j<N→j∉fx→Lk c' ct (some ⟨j,none⟩) (f j)
 onm: ∀k,k<c.S.length→(∀j,j∈fx→f j≠k)→(cl ct.S k).frozen=false→∀b y,c.μ k=some b→c'.σ.m b=some y→c'.mut b
 olent: ∀k,k<c.S.length→(∀j,j∈fx→f j≠k)→(cl ct.S k).frozen=false→∀s,s∈st.lent→(cl c'.S s).dim≠none→∀b,c'.μ s=some b→c.μ k≠some b
 fbm: ∀b,c.fb b→c'.mut b
 fxN: ∀j,j∈fx→j<N
 noro:sk.noRo=true
theorem GT.all {c c' ct:Ctx}{N:Nat}{f:Nat→Nat}{fx:List Nat}{sk:tZ}{st:DSt}{fs bs:List Blk}{vals vs:List VV}{as:List Value}(g:GT c c' ct N f fx sk st fs bs)(hR:eI c)(hR':eI c')(hd:lB c'.S N fx sk vals=some st)
  (he:mG f sk st.ls=some (vs,fs,bs)) (hf:F2 (VRel c') vals as):Le c ct∧eI ct∧F2 (VRel ct) vs as:=by
 obtain⟨ct0,vs0,fs0,bs0,p1,p2,p3⟩:=bg0 (f:=f) hR' hd hf;rw[he]at p1;injection p1 with p1
 injection p1 with q1 p1
 injection p1 with q2 q3
 subst q1;subst q2;subst q3;obtain⟨ap1,ap2⟩:=mF hd;have hnd:=mD ap1;rw[List.nodup_append]at hnd;obtain⟨nd1,nd2,nd3⟩:=hnd;obtain⟨x1,x2,x3⟩:=p2.get;obtain⟨y1,y2,y3⟩:=p3.get;have hro:=g.noro;unfold tZ.noRo at hro;rw[Bool.and_eq_true,aW,aW]at hro
 have nro: ∀(i:Nat) (o:OSk),(sk.fix[i]?=some o∨sk.free[i]?=some o)→o.ro=false:=by
  intro i o h;rcases h with h|h
  ·simpa using hro.1 o (bB h)
  ·simpa using hro.2 o (bB h)
 have fxget: ∀j,j∈fx→∃(i:Nat) (b:Blk) (o:OSk),fx[i]?=some j∧fs[i]?=some b∧sk.fix[i]?=some o∧cl ct.S (f j)=b∧qJ c' ct0 o (some ⟨j,none⟩) b:=by
  intro j hj;obtain⟨i,hi,e⟩:=List.mem_iff_getElem.1 hj;have h1:fx[i]?=some j:=by rw[aB hi,e]
  have h2:i<fs.length:=by rw[←x1];exact hi
  obtain⟨o,h3,h4⟩:=x3 i j _ h1 (aB h2);exact⟨i,fs[i],o,h1,aB h2,h3,g.fix i j _ h1 (aB h2),h4⟩
 have frget: ∀i,i<bs.length→∃(b:Blk) (x:Option Src) (o:OSk),st.m[i]?=some x∧bs[i]?=some b∧sk.free[i]?=some o∧cl ct.S (c.S.length+i)=b∧ct.μ (c.S.length+i)=wR c' x∧qJ c' ct0 o x b:=by
  intro i hi;have h2:i<st.m.length:=by rw[y1];exact hi
  obtain⟨o,h3,h4⟩:=y3 i _ _ (aB h2) (aB hi);exact⟨bs[i],st.m[i],o,aB h2,aB hi,h3,g.free i _ (aB hi),g.μn i _ (aB h2),h4⟩
 have three: ∀k,(cl ct.S k).dim≠none→(∃j,j∈fx∧f j=k)∨(k<c.S.length∧(∀j,j∈fx→f j≠k))∨(∃i,i<bs.length∧k=c.S.length+i):=by
  intro k hk;have hl:=jP hk;rw[g.len]at hl;by_cases h1:k<c.S.length
  ·by_cases h2: ∃j,j∈fx∧f j=k
   ·exact .inl h2
   ·exact .inr (.inl ⟨h1,fun j hj e=>h2 ⟨j,hj,e⟩⟩)
  ·exact .inr (.inr ⟨k-c.S.length,by omega,by omega⟩)
 have stay: ∀j,j∈fx→∀d,(cl ct.S (f j)).dim=some d→(cl c'.S j).dim=some d∧(cl c'.S j).frozen=false∧(cl c.S (f j)).dim=some d∧c'.μ j=c.μ (f j):=by
  intro j hj d hd';obtain⟨i,b,o,h1,h2,h3,h4,h5⟩:=fxget j hj;rw[h4]at hd';rcases h5 with⟨_,h5⟩|⟨h5,h6,d0,h7,h8,h9⟩
  ·subst h5;cases hd'
  ·simp only at h8;rw[h8]at hd';injection hd' with hd'
   subst hd';obtain⟨w1,w2,_⟩:=g.wr j hj (by rw[h7];simp);exact⟨h7,h6 (nro i o (.inl h3)),by rw[w1,h7],w2⟩
 have found: ∀i,i<bs.length→∀d,(cl ct.S (c.S.length+i)).dim=some d→(∃x,st.m[i]?=some (some x)∧(cl c'.S x.k).frozen=false∧ct.μ (c.S.length+i)=c'.μ x.k)∨ct.μ (c.S.length+i)=none:=by
  intro i hi d hd';obtain⟨b,x,o,h1,h2,h3,h4,h5,h6⟩:=frget i hi;rw[h4]at hd';rcases h6 with⟨_,h6⟩|⟨h6,h7⟩
  ·subst h6;cases hd'
  ·cases x with
   |none=>exact .inr h5
   |some x=>
    obtain⟨k,cut⟩:=x;exact .inl ⟨_,h1,h7.1 (nro i o (.inr h3)),h5⟩
 have orig: ∀k b,(cl ct.S k).dim≠none→ct.μ k=some b→(k<c.S.length∧(∀j,j∈fx→f j≠k)∧c.μ k=some b)∨
   ∃s,(s∈fx∨s∈lC st.m)∧(cl c'.S s).frozen=false∧c'.μ s=some b∧((s∈fx∧k=f s)∨∃i x,st.m[i]?=some (some x)∧x.k=s∧k=c.S.length+i):=by
  intro k b hk hm;cases hdd:(cl ct.S k).dim with
  |none=>exact(hk hdd).elim
  |some d=>
   rcases three k hk with⟨j,hj,rfl⟩|⟨h1,h2⟩|⟨i,hi,rfl⟩
   ·obtain⟨h1,h2,h3,h4⟩:=stay j hj d hdd;exact .inr ⟨j, .inl hj,h2,by rw[h4,←g.μo _ (g.fixlt j hj)];exact hm, .inl ⟨hj,rfl⟩⟩
   ·exact .inl ⟨h1,h2,by rw[←g.μo k h1];exact hm⟩
   ·rcases found i hi d hdd with⟨x,h1,h2,h3⟩|h1
    ·exact .inr ⟨x.k, .inr (uo h1),h2,by rw[←h3];exact hm, .inr ⟨i,x,h1,rfl,rfl⟩⟩
    ·rw[h1]at hm;cases hm
 have othdim: ∀k,k<c.S.length→(∀j,j∈fx→f j≠k)→(cl ct.S k).dim≠none→(cl ct.S k=cl c.S k∨cl ct.S k=(cl c.S k).freeze):=by
  intro k h1 h2 h3;rcases g.oth k h1 h2 with h|h|⟨h,_⟩
  ·exact .inl h
  ·exact .inr h
  ·rw[h]at h3;exact(h3 rfl).elim
 have othfz: ∀k,k<c.S.length→(∀j,j∈fx→f j≠k)→(cl ct.S k).frozen=false→cl ct.S k=cl c.S k:=by
  intro k h1 h2 h3;rcases othdim k h1 h2 (jH h3)with h|h
  ·exact h
  ·rw[h,ko]at h3;cases h3
 have hle:Le c ct:=by
  refine⟨by rw[g.len];exact bD _ _,fun k d hk hd'=>⟨?_,g.μo k hk⟩,fun k hz hdm=> ?_,fun k d b y hk hd' hm hy=> ?_,fun b y hy hn=>by rw[g.σ];exact g.un b y hy hn,fun b y hy hn=> ?_,by rw[g.σ];exact g.n,g.fb⟩
  ·rcases three k (by rw[hd'];simp)with⟨j,hj,rfl⟩|⟨h1,h2⟩|⟨i,hi,rfl⟩
   ·exact(stay j hj d hd').2.2.1
   ·rcases othdim k h1 h2 (by rw[hd'];simp)with h|h
    ·rw[←h];exact hd'
    ·rw[h,fc]at hd';exact hd'
   ·omega
  ·have hk:=jP hdm;by_cases h2: ∃j,j∈fx∧f j=k
   ·obtain⟨j,hj,rfl⟩:=h2;exact(cE4 (g.wrz j hj) hdm hz).elim
   ·rcases g.oth k hk (fun j hj e=>h2 ⟨j,hj,e⟩)with h|h|⟨_,h⟩
    ·exact h
    ·rw[h,wJ hz]
    ·rw[h]at hz;cases hz
  ·rw[g.σ];rcases three k (by rw[hd'];simp)with⟨j,hj,rfl⟩|⟨h1,h2⟩|⟨i,hi,rfl⟩
   ·obtain⟨h1,h2,h3,h4⟩:=stay j hj d hd';exact(g.wr j hj (by rw[h1];simp)).2.2 b y hm hy
   ·exact⟨y,g.oun k h1 h2 (by rw[hd'];simp) b y hm hy,rfl⟩
   ·omega
  ·rintro⟨k,h1,h2⟩;rcases orig k b (jH h1) h2 with⟨h3,h4,h5⟩|⟨s,h3,h4,h5,_⟩
   ·exact hn ⟨k,by rw[←othfz k h3 h4 h1];exact h1,h5⟩
   ·exact g.ow b y hy hn ⟨s,h4,h5⟩
 have hT:Tell c' ct N f st:=by
  have hsp: ∀k b,(cl ct.S k).frozen=false→ct.μ k=some b→(k<c.S.length∧(∀j,j∈fx→f j≠k)∧c.μ k=some b)∨∃s,(s∈fx∨s∈iE sk.free st.m)∧(cl c'.S s).frozen=false∧c'.μ s=some b:=by
   intro k b h1 h2;rcases orig k b (jH h1) h2 with h|⟨s,h3,h4,h5,h6⟩
   ·exact .inl h
   ·refine .inr ⟨s, ?_,h4,h5⟩;rcases h6 with⟨h6,_⟩|⟨i,x,h6,h7,_⟩
    ·exact .inl h6
    ·refine .inr ?_
     have hi:i<bs.length:=by
      rw[←y1];rcases aD i st.m.length with h|h
      ·exact h
      ·rw[aX h]at h6;cases h6
     obtain⟨b',x',o,q1,q2,q3,_⟩:=frget i hi;rw[←h7];exact ay8 h6 q3 (nro i o (.inr q3))
  refine⟨⟨g.σ,fun b y hy hn=> ?_⟩,fun j x hl=> ?_,fun s hs hsd b hm=> ?_⟩
  ·rintro(⟨k,h1,h2⟩|h)
   ·rcases hsp k b h1 h2 with⟨h3,h4,h5⟩|⟨s,h3,h4,h5⟩
    ·exact hn (g.onm k h3 h4 h1 b y h5 hy)
    ·exact hn (.inl ⟨s,h4,h5⟩)
   ·rw[g.fb]at h;exact hn (g.fbm b h)
  ·rcases hl with⟨h1,rfl⟩|⟨h1,h2⟩
   ·by_cases hj:j∈fx
    ·refine⟨by rw[g.len];exact bE (g.fixlt j hj) (bD _ _),fun d' hd'=> ?_⟩;obtain⟨q1,q2,q3,q4⟩:=stay j hj d' hd';exact⟨d',q1,rfl,by rw[g.μo _ (g.fixlt j hj),q4],rfl⟩
    ·exact g.lk j h1 hj
   ·rw[sm]at h2
    have hi:j-N<bs.length:=by
     rw[←y1];rcases aD (j-N) st.m.length with h|h
     ·exact h
     ·rw[aX h]at h2;cases h2
    have hfj:f j=c.S.length+(j-N):=by rw[←g.fN];congr 1;omega
    rw[hfj];refine⟨by rw[g.len];omega,fun d' hd'=> ?_⟩;obtain⟨b,x',o,q1,q2,q3,q4,q5,q6⟩:=frget (j-N) hi;rw[h2]at q1;injection q1 with q1
    subst q1;rw[q4]at hd';rcases q6 with⟨_,q6⟩|⟨q6,q7⟩
    ·subst q6;cases hd'
    ·cases x with
     |none=>
      obtain⟨_,s,q8⟩:=q7;subst q8;injection hd' with hd'
      subst hd';exact⟨by simp,q5⟩
     |some x=>
      obtain⟨k,cut⟩:=x;obtain⟨q8,d,q9,q10,q11⟩:=q7;refine⟨d,q9, ?_⟩;cases cut with
      |none=>
       simp only at q10;rw[q10]at hd';injection hd' with hd'
       subst hd';exact⟨rfl,q5,rfl⟩
      |some n=>
       simp only at q10;rw[q10]at hd';injection hd' with hd'
       subst hd';exact⟨rfl,q5,rfl⟩
  ·rintro(⟨k,h1,h2⟩|h)
   ·rcases hsp k b h1 h2 with⟨h3,h4,h5⟩|⟨s',h3,h4,h5⟩
    ·exact g.olent k h3 h4 h1 s hs hsd b hm h5
    ·have:=hR'.inj s' s b h4 hsd h5 hm;subst this;exact aU0 ap2 (List.mem_append.2 h3) hs
   ·rw[g.fb]at h;exact g.fbk s b hsd hm h
 obtain⟨vs1,fs1,bs1,r1,r2,r3,r4⟩:=aB4 hR' hT hd hf;rw[he]at r1;injection r1 with r1
 injection r1 with e1 r1
 injection r1 with e2 e3
 subst e1;subst e2;subst e3;obtain⟨_,_,x4⟩:=r3.get;obtain⟨_,_,y4⟩:=r4.get;refine⟨hle,⟨by rw[g.σ];exact hR'.ok,fun k k' b hk hk' hm hm'=> ?_,fun k=> ?_,fun k b hk hm hb=> ?_,fun b hb=> ?_⟩,r2⟩
 ·rcases orig k b (jH hk) hm with⟨h1,h2,h3⟩|⟨s,h1,h2,h3,h4⟩
  ·rcases orig k' b hk' hm' with⟨g1,g2,g3⟩|⟨s',g1,g2,g3,g4⟩
   ·refine hR.inj k k' b (by rw[←othfz k h1 h2 hk];exact hk) ?_ h3 g3;rcases othdim k' g1 g2 hk' with h|h
    ·rw[←h];exact hk'
    ·rw[h,fc]at hk';exact hk'
   ·exact(g.odis k h1 h2 (jH hk) s' g1 g2 b g3 h3).elim
  ·rcases orig k' b hk' hm' with⟨g1,g2,g3⟩|⟨s',g1,g2,g3,g4⟩
   ·exact(g.odis k' g1 g2 hk' s h1 h2 b h3 g3).elim
   ·have:=hR'.inj s s' b h2 (jH g2) h3 g3;subst this;rcases h4 with⟨h4,h5⟩|⟨i,x,h4,h5,h6⟩
    ·rcases g4 with⟨g4,g5⟩|⟨i',x',g4,g5,g6⟩
     ·rw[h5,g5]
     ·subst g5;exact(nd3 _ h4 _ (uo g4) rfl).elim
    ·rcases g4 with⟨g4,g5⟩|⟨i',x',g4,g5,g6⟩
     ·subst h5;exact(nd3 _ g4 _ (uo h4) rfl).elim
     ·rw[h6,g6,aw2 nd2 h4 g4 (h5.trans g5.symm)]
 ·by_cases hdm:(cl ct.S k).dim=none
  ·intro d hd';rw[hdm]at hd';cases hd'
  ·rcases three k hdm with⟨j,hj,rfl⟩|⟨h1,h2⟩|⟨i,hi,rfl⟩
   ·obtain⟨i,b,o,q1,q2,q3,q4,q5⟩:=fxget j hj;obtain⟨o',q6,q7⟩:=x4 i j b q1 q2;refine q7.blkRel hR' g.σ q4 fun hb=> ?_
    cases hdd:(cl ct.S (f j)).dim with
    |none=>exact(hdm hdd).elim
    |some d=>
     obtain⟨_,_,_,q8⟩:=stay j hj d hdd;rw[g.μo _ (g.fixlt j hj),←q8];rfl
   ·intro d hd';have h3:=othdim k h1 h2 hdm
    have hdc:(cl c.S k).dim=some d:=by
     rcases h3 with h|h
     ·rw[←h];exact hd'
     ·rw[h,fc]at hd';exact hd'
    have hvc:(cl ct.S k).vals=(cl c.S k).vals:=by
     rcases h3 with h|h
     ·rw[h]
     ·rw[h,aH1]
    obtain⟨q1,q2⟩:=hR.blk k d hdc;refine⟨q1, ?_⟩;rcases q2 with⟨q2,q3⟩|⟨b,y,cs,rest,q2,q3,q4,q5,q6,q7⟩
    ·exact .inl ⟨q2,(g.μo k h1).trans q3⟩
    ·refine .inr ⟨b,y,cs,rest,(g.μo k h1).trans q2,by rw[g.σ];exact g.oun k h1 h2 hdm b y q2 q3,q4,fun hz=> ?_,q6,by rw[hvc];exact VRel.frames hle q7⟩;rw[othfz k h1 h2 hz]at hz;exact q5 hz
   ·obtain⟨b,x,o,q1,q2,q3,q4,q5,q6⟩:=frget i hi;obtain⟨o',q7,q8⟩:=y4 i x b q1 q2;exact q8.blkRel hR' g.σ q4 fun _=>q5
 ·rw[g.fb]at hb;rcases orig k b hk hm with⟨h1,h2,h3⟩|⟨s,h1,h2,h3,_⟩
  ·refine hR.fbk k b ?_ h3 hb;rcases othdim k h1 h2 hk with h|h
   ·rw[←h];exact hk
   ·rw[h,fc]at hk;exact hk
  ·exact g.fbk s b (jH h2) h3 hb
 ·rw[g.fb]at hb;rw[g.σ];exact bE (hR.fbl b hb) g.n
end
section
open Bool renaming or_eq_false_iff → aB
open List renaming cons_append → aW, length_append → aX, mem_of_getElem? → aY, nodup_append → aZ
open Nat renaming zero_add → aD, add_sub_cancel_left → bA
theorem jG {fx mov:List Nat}{fz:Bool}: ∀{S:co} {i:Nat},(iw fx mov fz i S).length=S.length
 |[],_=>rfl
 |_::r,i=>by simp[iw,jG (S:=r)]
theorem jF {fx mov:List Nat}{fz:Bool}: ∀{S:co} {i k:Nat},k<S.length→cl (iw fx mov fz i S) k=cond (jN (i+k) mov) (cond (cl S k).frozen (cl S k) .dead) (cond (jN (i+k) fx) (cl S k) (cond fz (cl S k).freeze (cl S k)))
 |[],_,_,h=>by simp at h
 |b::r,i,0,_=>rfl
 |b::r,i,k+1,h=>by
  have:=jF (fx:=fx) (mov:=mov) (fz:=fz) (S:=r) (i:=i+1) (k:=k) (by simpa using h);rw[show i+1+k=i+(k+1)by omega]at this;exact this
theorem iD : ∀{js:List Nat} {bs:List Blk} {S S':co},rO js bs S=some S'→js.length=bs.length∧S'.length=S.length∧(∀k,k∉js→cl S' k=cl S k)∧
  (js.Nodup→∀(i j:Nat) (b:Blk),js[i]?=some j→bs[i]?=some b→j<S.length→cl S' j=b)
 |[],[],S,S',h=>by
  injection h with h;subst h
  exact⟨rfl,rfl,fun _ _=>rfl,fun _ i j b h=>by simp at h⟩
 |[],_::_,S,S',h=>by cases h
 |_::_,[],S,S',h=>by cases h
 |j::js,b::bs,S,S',h=>by
  simp only[rO]at h;obtain⟨h1,h2,h3,h4⟩:=iD h;refine⟨by simp[h1],by rw[h2,ag3],fun k hk=> ?_,fun hn i j' b' hi hb hl=> ?_⟩
  ·rw[h3 k (fun e=>hk (List.mem_cons_of_mem _ e))];exact cx7 (fun e=>hk (by rw[e];exact List.mem_cons_self))
  ·rw[List.nodup_cons]at hn;cases i with
   |zero=>
    simp at hi hb;subst hi;subst hb;rw[h3 j hn.1];exact bV7 hl
   |succ i=>
    simp at hi hb;exact h4 hn.2 i j' b' hi hb (by rw[ag3];exact hl)
theorem rL : ∀{l:List Blk} {i:Nat} {b:Blk},l[i]?=some b→cl l i=b
 |[],i,b,h=>by simp at h
 |a::l,0,b,h=>by simpa[cl]using h
 |a::l,i+1,b,h=>rL (l:=l) (by simpa using h)
structure Within (c c1:Ctx)(fx mov:List Nat):Prop where
 le:Le c c1
 fr: ∀k,k<c.S.length→k∉fx→(k∉mov∨(cl c.S k).frozen=true)→cl c1.S k=(cl c.S k).freeze
 un: ∀k,k<c.S.length→k∉fx→(k∉mov∨(cl c.S k).frozen=true)→(cl c.S k).dim≠none→∀b y,c.μ k=some b→c.σ.m b=some y→c1.σ.m b=some y
theorem jy {S:co}{fx:List Nat}(h:aK5 S fx=true){j:Nat}(hj:j∈fx):j<S.length∧(cl S j).may=true:=by
 simp only[aK5,List.all_eq_true,Bool.and_eq_true]at h;obtain⟨h1,h2⟩:=h j hj;exact⟨Nat.le_of_ble_eq_true h1,h2⟩
theorem iy {k:Nat}{l:List Nat}(h:k∉l):jN k l=false:=by
 cases hb:jN k l with
 |false=>rfl
 |true=>exact(h (iZ.1 hb)).elim
theorem td {fx mov:List Nat}{fz:Bool}{S:co}{k:Nat}(hk:k<S.length)(h1:k∉fx)(h2:(cl (iw fx mov fz 0 S) k).dim≠none):(k∉mov∨(cl S k).frozen=true)∧cl (iw fx mov fz 0 S) k=cond fz (cl S k).freeze (cl S k):=by
 rw[jF hk,aD,iy h1]at h2⊢;by_cases hm:k∈mov
 ·rw[iZ.2 hm]at h2⊢;cases hz:(cl S k).frozen with
  |false=>rw[hz]at h2;exact(h2 rfl).elim
  |true=>exact⟨.inr rfl,by cases fz<;>simp[wJ hz]⟩
 ·rw[iy hm];exact⟨.inl hm,rfl⟩
theorem cA4 {c c1 c':Ctx}{fx mov:List Nat}{sk:tZ}{vals vs:List VV}{as:List Value}{st:DSt}{fs bs:List Blk}{S':co}(hR:eI c)(hR':eI c')(hw:Within c c1 fx mov)(hR1:eI c1)(hle:Le c1 c')
  (hok:aK5 c.S fx=true) (hro:sk.noRo=true) (hd:lB c'.S c.S.length fx sk vals=some st) (he:mG id sk st.ls=some (vs,fs,bs)) (hf:F2 (VRel c') vals as) (hS:rO fx fs (iw fx mov true 0 c.S)=some S'):
  ∃ct:Ctx,ct.σ=c'.σ∧ct.S=S'++bs∧ct.fb=c.fb∧(∀k,k<c.S.length→ct.μ k=c.μ k)∧Le c ct∧eI ct∧F2 (VRel ct) vs as∧
   (∀k,k<c.S.length→k∉fx→(cl ct.S k).dim≠none→(k∉mov∨(cl c.S k).frozen=true)∧∀b y,c.μ k=some b→c.σ.m b=some y→ct.σ.m b=some y):=by
 obtain⟨s1,s2,s3,s4⟩:=iD hS;rw[jG]at s2 s4;obtain⟨ap1,_⟩:=mF hd;have hnd:=mD ap1;rw[aZ]at hnd;obtain⟨nd1,_,_⟩:=hnd;have hcc:=hw.le.trans hle;have hfb:c'.fb=c.fb:=hcc.fb
 let ct:Ctx:=⟨fun i=>if i<c.S.length then c.μ i else match st.m[i-c.S.length]? with
  |some x=>wR c' x
  |none=>none,S'++bs,c'.σ,c.fb⟩
 have hget: ∀k,k<c.S.length→cl ct.S k=cl S' k:=fun k hk=>kr (by rw[s2];exact hk)
 have hoth: ∀k,k<c.S.length→k∉fx→cl ct.S k=cl (iw fx mov true 0 c.S) k:=fun k hk hn=>by rw[hget k hk,s3 k hn]
 have hoth2: ∀k,k<c.S.length→k∉fx→(cl ct.S k).dim≠none→(k∉mov∨(cl c.S k).frozen=true)∧cl ct.S k=(cl c.S k).freeze∧cl c'.S k=(cl c.S k).freeze∧c'.μ k=c.μ k∧(cl c.S k).dim≠none:=by
  intro k hk hn hdm;rw[hoth k hk hn]at hdm⊢;obtain⟨h1,h2⟩:=td hk hn hdm;have h3:=hw.fr k hk hn h1;rw[h2]at hdm;simp only[zC]at hdm h2;rw[fc]at hdm
  have h4:cl c'.S k=(cl c.S k).freeze:=by
   rw[hle.fz k (by rw[h3,ko]) (by rw[h3,fc];exact hdm),h3]
  refine⟨h1,h2,h4, ?_,hdm⟩;cases hdd:(cl c.S k).dim with
  |none=>exact(hdm hdd).elim
  |some d=>exact(hcc.al k d hk (by rw[h4,fc];exact hdd)).2
 have hun2: ∀k,k<c.S.length→k∉fx→(cl ct.S k).dim≠none→∀b y,c.μ k=some b→c.σ.m b=some y→c'.σ.m b=some y:=by
  intro k hk hn hdm b y hm hy;obtain⟨h1,h2,h3,h4,h5⟩:=hoth2 k hk hn hdm;have h6:=hw.un k hk hn h1 h5 b y hm hy;have h7:=hw.fr k hk hn h1
  have hmu1:c1.μ k=some b:=by
   cases hdd:(cl c.S k).dim with
   |none=>exact(h5 hdd).elim
   |some d=>rw[(hw.le.al k d hk (by rw[h7,fc];exact hdd)).2];exact hm
  have h8: ¬c1.mut b:=hR1.fz_mut (by rw[h7,ko]) (by rw[h7,fc];exact h5) hmu1;exact hle.un b y h6 fun e=>h8 (.inl e)
 have g:GT c c' ct c.S.length id fx sk st fs bs:=by
  refine⟨rfl,rfl,by simp[ct,s2],fun k hk hn=> ?_,fun i j b hi hb=> ?_,fun j hj=>(jy hok hj).1,fun i b hb=> ?_,fun _=>rfl,fun k hk=>zE hk,fun i x hx=> ?_,hcc.un,hcc.ow,hcc.n,fun k hk hn hdm b y hm hy=> ?_,fun k hk hn hdm s hs hz b hm e=> ?_,fun j hj hdm=> ?_,fun j hj=>(jy hok hj).2,
   fun _ _ _ _ e=>e,fun k b hdm hm=> ?_,fun j hj hn=> ?_,fun k hk hn hz b y hm hy=> ?_,fun k hk hn hz s hs hsd b hm e=> ?_,fun b hb=> ?_,fun j hj=>(jy hok hj).1,hro⟩
  ·have hn':k∉fx:=fun e=>hn k e rfl
   rw[hoth k hk hn'];by_cases hdm:(cl (iw fx mov true 0 c.S) k).dim=none
   ·rw[jF hk,aD,iy hn']at hdm⊢;by_cases hm:k∈mov
    ·rw[iZ.2 hm]at hdm⊢;cases hz:(cl c.S k).frozen with
     |false=>exact .inr (.inr ⟨rfl,rfl⟩)
     |true=>exact .inl rfl
    ·rw[iy hm];exact .inr (.inl rfl)
   ·exact .inr (.inl (td hk hn' hdm).2)
  ·have hj:=aY hi;have hlt:=(jy hok hj).1;show cl ct.S j=b;rw[hget j hlt];exact s4 nd1 i j b hi hb hlt
  ·show cl (S'++bs) (c.S.length+i)=b;rw[←s2,oK];exact rL hb
  ·show(if c.S.length+i<c.S.length then _ else _)=_;rw[zF (by omega),bA,hx]
  ·exact hun2 k hk (fun e=>hn k e rfl) hdm b y hm hy
  ·obtain⟨h1,h2,h3,h4,h5⟩:=hoth2 k hk (fun e=>hn k e rfl) hdm;have:=hR'.inj s k b hz (by rw[h3,fc];exact h5) hm (h4.trans e);subst this;rw[h3,ko]at hz;cases hz
  ·have hlt:=(jy hok hj).1;cases hdd:(cl c'.S j).dim with
   |none=>exact(hdm hdd).elim
   |some d=>
    obtain⟨h1,h2⟩:=hcc.al j d hlt hdd;exact⟨h1,h2,fun b y hm hy=>hcc.ln j d b y hlt hdd hm hy⟩
  ·rw[←hfb];exact hR'.fbk k b hdm hm
  ·refine⟨by simp only[id,ct,aX,s2];omega,fun d' hd'=> ?_⟩;obtain⟨h1,h2,h3,h4,h5⟩:=hoth2 j hj hn (by rw[show id j=j from rfl]at hd';rw[hd'];simp);rw[show id j=j from rfl,h2]at hd';refine⟨d',by rw[h3];exact hd',rfl, ?_,rfl⟩;show(if j<c.S.length then c.μ j else _)=_;rw[zE hj,h4]
  ·obtain⟨h1,h2,h3,h4,h5⟩:=hoth2 k hk (fun e=>hn k e rfl) (jH hz);rw[h2,ko]at hz;cases hz
  ·obtain⟨h1,h2,h3,h4,h5⟩:=hoth2 k hk (fun e=>hn k e rfl) (jH hz);rw[h2,ko]at hz;cases hz
  ·exact .inr (by rw[hfb];exact hb)
 obtain⟨r1,r2,r3⟩:=g.all hR hR' hd he hf;exact⟨ct,rfl,rfl,rfl,fun k hk=>zE hk,r1,r2,r3,fun k hk hn hdm=>⟨(hoth2 k hk hn hdm).1,hun2 k hk hn hdm⟩⟩
theorem bY9 {c:Ctx}{fx:List Nat}{sk:tZ}{vals vs:List VV}{as:List Value}{st:DSt}{fs bs:List Blk}{S':co}(hR:eI c)
  (hok:aK5 c.S fx=true) (hro:sk.noRo=true) (hd:lB c.S c.S.length fx sk vals=some st) (he:mG id sk st.ls=some (vs,fs,bs)) (hf:F2 (VRel c) vals as) (hS:rO fx fs (iw fx (lC st.m) true 0 c.S)=some S'):
  ∃ct:Ctx,ct.σ=c.σ∧ct.S=S'++bs∧ct.fb=c.fb∧(∀k,k<c.S.length→ct.μ k=c.μ k)∧Le c ct∧eI ct∧F2 (VRel ct) vs as:=by
 obtain⟨s1,s2,s3,s4⟩:=iD hS;rw[jG]at s2 s4;obtain⟨ap1,_⟩:=mF hd;have hnd:=mD ap1;rw[aZ]at hnd;obtain⟨nd1,_,_⟩:=hnd
 let ct:Ctx:=⟨fun i=>if i<c.S.length then c.μ i else match st.m[i-c.S.length]? with
  |some x=>wR c x
  |none=>none,S'++bs,c.σ,c.fb⟩
 have hget: ∀k,k<c.S.length→cl ct.S k=cl S' k:=fun k hk=>kr (by rw[s2];exact hk)
 have hoth: ∀k,k<c.S.length→k∉fx→cl ct.S k=cl (iw fx (lC st.m) true 0 c.S) k:=fun k hk hn=>by rw[hget k hk,s3 k hn]
 have hoth2: ∀k,k<c.S.length→k∉fx→(cl ct.S k).dim≠none→(k∉lC st.m∨(cl c.S k).frozen=true)∧cl ct.S k=(cl c.S k).freeze∧(cl c.S k).dim≠none:=by
  intro k hk hn hdm;rw[hoth k hk hn]at hdm⊢;obtain⟨h1,h2⟩:=td hk hn hdm;rw[h2]at hdm;simp only[zC]at hdm h2;rw[fc]at hdm;exact⟨h1,h2,hdm⟩
 have g:GT c c ct c.S.length id fx sk st fs bs:=by
  refine⟨rfl,rfl,by simp[ct,s2],fun k hk hn=> ?_,fun i j b hi hb=> ?_,fun j hj=>(jy hok hj).1,fun i b hb=> ?_,fun _=>rfl,fun k hk=>zE hk,fun i x hx=> ?_,fun _ _ h _=>h,fun _ _ _ h=>h,Nat.le_refl _,fun k hk hn hdm b y hm hy=>hy,fun k hk hn hdm s hs hz b hm e=> ?_,fun j hj hdm=>⟨rfl,rfl,fun b y _ hy=>⟨y,hy,rfl⟩⟩,fun j hj=>(jy hok hj).2,
   fun _ _ _ _ e=>e,fun k b hdm hm=>hR.fbk k b hdm hm,fun j hj hn=> ?_,fun k hk hn hz b y hm hy=> ?_,fun k hk hn hz s hs hsd b hm e=> ?_,fun b hb=> .inr hb,fun j hj=>(jy hok hj).1,hro⟩
  ·have hn':k∉fx:=fun e=>hn k e rfl
   rw[hoth k hk hn'];by_cases hdm:(cl (iw fx (lC st.m) true 0 c.S) k).dim=none
   ·rw[jF hk,aD,iy hn']at hdm⊢;by_cases hm:k∈lC st.m
    ·rw[iZ.2 hm]at hdm⊢;cases hz:(cl c.S k).frozen with
     |false=>exact .inr (.inr ⟨rfl,rfl⟩)
     |true=>exact .inl rfl
    ·rw[iy hm];exact .inr (.inl rfl)
   ·exact .inr (.inl (td hk hn' hdm).2)
  ·have hj:=aY hi;have hlt:=(jy hok hj).1;show cl ct.S j=b;rw[hget j hlt];exact s4 nd1 i j b hi hb hlt
  ·show cl (S'++bs) (c.S.length+i)=b;rw[←s2,oK];exact rL hb
  ·show(if c.S.length+i<c.S.length then _ else _)=_;rw[zF (by omega),bA,hx]
  ·obtain⟨h1,h2,h5⟩:=hoth2 k hk (fun e=>hn k e rfl) hdm;have:=hR.inj s k b hz h5 hm e;subst this;rcases hs with hs|hs
   ·exact hn s hs rfl
   ·rcases h1 with h1|h1
    ·exact h1 hs
    ·rw[h1]at hz;cases hz
  ·refine⟨by simp only[id,ct,aX,s2];omega,fun d' hd'=> ?_⟩;obtain⟨h1,h2,h5⟩:=hoth2 j hj hn (by rw[show id j=j from rfl]at hd';rw[hd'];simp);rw[show id j=j from rfl,h2,fc]at hd';refine⟨d',hd',rfl, ?_,rfl⟩;show(if j<c.S.length then c.μ j else _)=_;rw[zE hj]
  ·obtain⟨h1,h2,h5⟩:=hoth2 k hk (fun e=>hn k e rfl) (jH hz);rw[h2,ko]at hz;cases hz
  ·obtain⟨h1,h2,h5⟩:=hoth2 k hk (fun e=>hn k e rfl) (jH hz);rw[h2,ko]at hz;cases hz
 obtain⟨r1,r2,r3⟩:=g.all hR hR hd he hf;exact⟨ct,rfl,rfl,rfl,fun k hk=>zE hk,r1,r2,r3⟩
theorem bj7 {c c1:Ctx}{fx mov:List Nat}{fs bs:List Blk}{S':co}(hle:Le c c1)(hS:rO fx fs (iw fx mov true 0 c.S)=some S')(h1:c1.S=S'++bs)
  (hun: ∀k,k<c.S.length→k∉fx→(k∉mov∨(cl c.S k).frozen=true)→(cl c.S k).dim≠none→∀b y,c.μ k=some b→c.σ.m b=some y→c1.σ.m b=some y):Within c c1 fx mov:=by
 obtain⟨s1,s2,s3,s4⟩:=iD hS;rw[jG]at s2;refine⟨hle,fun k hk hn hm=> ?_,hun⟩;rw[h1,kr (by rw[s2];exact hk),s3 k hn,jF hk,aD,iy hn];rcases hm with hm|hz
 ·rw[iy hm];rfl
 ·cases jN k mov with
  |false=>rfl
  |true=>rw[hz];simp[wJ hz]
section
variable {ctf ct:Ctx}
theorem VRel.thaw (hμ:ct.μ=ctf.μ)(hσ:ct.σ=ctf.σ)(hl:ct.S.length=ctf.S.length)(hd: ∀k,(cl ct.S k).dim=(cl ctf.S k).dim): ∀{v:VV} {a:Value},VRel ctf v a→alV v=false→VRel ct v a
 |_,_, .undef a,_=> .undef a
 |_,_, .bool b,_=> .bool b
 |_,_, .int k n,_=> .int k n
 |_,_, .str hs,_=> .str hs
 |_,_, .nilp,_=> .nilp
 |_,_, .nils,_=> .nils
 |_,_, .nilf,_=> .nilf
 |_,_, .ptr hk h1 h2,_=> .ptr (by rw[hl];exact hk) h1 fun d h=>by rw[hd]at h;rw[hμ];exact h2 d h
 |_,_, .it hk h1 hs h2,_=> .it (by rw[hl];exact hk) h1 hs fun d h=>by rw[hd]at h;rw[hμ];exact h2 d h
 |_,_, .bld hk h1 h2,_=> .bld (by rw[hl];exact hk) h1 fun d h=>by rw[hd]at h;rw[hμ];exact h2 d h
 |_,_, .pix hk h1 hi h2,_=> .pix (by rw[hl];exact hk) h1 hi fun d h=>by rw[hd]at h;rw[hμ];exact h2 d h
 |_,_, .pel hk h1 h2,_=> .pel (by rw[hl];exact hk) h1 fun d h=>by rw[hd]at h;rw[hμ];exact h2 d h
 |_,_, .pin _ _ _ _,h=>by cases h
 |_,_, .lstn _,h=>by cases h
 |_,_, .tgtn _,h=>by cases h
 |_,_, .tgt _ _ _ _ _,h=>by cases h
 |_,_, .lst _ _ _ _ _ _ _,h=>by cases h
 |_,_, .full hk h1 h2,_=> .full (by rw[hl];exact hk) h1 fun d h=>by
  rw[hd]at h;obtain⟨n,h3,h4⟩:=h2 d h;refine⟨n,h3, ?_⟩;unfold SlR at h4⊢;rw[hμ,hσ];exact h4
 |_,_, .part hk h1 h2,_=> .part (by rw[hl];exact hk) h1 fun d h=>by
  rw[hd]at h;have h4:=h2 d h;unfold SlR at h4⊢;rw[hμ,hσ];exact h4
 |_,_, .fn h1 h2,h=>by
  simp only[alV,aB]at h;exact .fn (go h1 h.1) (go h2 h.2)
 |_,_, .agg h1,h=>by
  simp only[alV]at h;exact .agg (go h1 h)
 |_,_, .tup h1,h=>by
  simp only[alV]at h;exact .tup (go h1 h)
where
 go: ∀{l:List VV} {m:List Value},F2 (VRel ctf) l m→alL l=false→F2 (VRel ct) l m
  |_,_, .nil,_=> .nil
  |_,_, .cons h1 h2,h=>by
   simp only[alL,aB]at h;exact .cons (VRel.thaw hμ hσ hl hd h1 h.1) (go h2 h.2)
theorem ar5 : ∀{s:Sh} (x:El s),s.al=false→alL (ei s x)=false
 | .int _,_,_=>rfl
 | .bool,_,_=>rfl
 | .str,_,_=>rfl
 | .list _,_,h=>by cases h
 | .pair a b,x,h=>by
  simp only[Sh.al,aB]at h;have h1:=ar5 x.1 h.1;have h2:=ar5 x.2 h.2;simp only[ei];revert h1;generalize ei a x.1=l;intro h1;induction l with
  |nil=>exact h2
  |cons v l ih=>
   simp only[alL,aB,aW]at h1⊢;exact⟨h1.1,ih h1.2⟩
theorem cp8 {l m:List VV}(h1:alL l=false)(h2:alL m=false):alL (l++m)=false:=by
 induction l with
 |nil=>exact h2
 |cons v l ih=>
  simp only[alL,aB,aW]at h1⊢;exact⟨h1.1,ih h1.2⟩
theorem ce6 {b:Blk}(h:alB b=false):alL b.vals=false:=by
 cases b with
 |dead=>rfl
 |cells es z l=>exact h
 |arr s z l=>
  simp only[Blk.vals];induction l with
  |nil=>rfl
  |cons x l ih=>rw[fK];exact cp8 (ar5 x h) (ih h)
theorem thaw {c:Ctx}{S2:co}{vs:List VV}{as:List Value}(hR:eI c)(hle:Le c ctf)(hRf:eI ctf)(hf:F2 (VRel ctf) vs as)(hal:alL vs=false)(hlen:S2.length=ctf.S.length)(hμ: ∀k,k<c.S.length→ctf.μ k=c.μ k)
  (hk: ∀k,(cl S2 k=cl ctf.S k∧((cl ctf.S k).dim≠none→((cl ctf.S k).frozen=false∧alB (cl ctf.S k)=false)∨(k<c.S.length∧cl ctf.S k=cl c.S k∧∀b y,c.μ k=some b→c.σ.m b=some y→ctf.σ.m b=some y)))∨
   (k<c.S.length∧cl S2 k=cl c.S k∧cl ctf.S k=(cl c.S k).freeze∧((cl c.S k).dim≠none→∀b y,c.μ k=some b→c.σ.m b=some y→ctf.σ.m b=some y))):
  Le c ⟨ctf.μ,S2,ctf.σ,ctf.fb⟩∧eI ⟨ctf.μ,S2,ctf.σ,ctf.fb⟩∧F2 (VRel ⟨ctf.μ,S2,ctf.σ,ctf.fb⟩) vs as:=by
 have hd: ∀k,(cl S2 k).dim=(cl ctf.S k).dim:=by
  intro k;rcases hk k with⟨h,_⟩|⟨_,h1,h2,_⟩
  ·rw[h]
  ·rw[h1,h2,fc]
 have hle2:Le c ⟨ctf.μ,S2,ctf.σ,ctf.fb⟩:=by
  refine⟨by rw[hlen];exact hle.len,fun k d hkl h=>hle.al k d hkl (by rw[←hd];exact h),fun k hz hdm=> ?_,fun k d b y hkl h=>hle.ln k d b y hkl (by rw[←hd];exact h),hle.un,fun b y hy hn=> ?_,hle.n,hle.fb⟩
  ·rcases hk k with⟨h,_⟩|⟨_,h1,h2,_⟩
   ·rw[h];exact hle.fz k hz hdm
   ·exact h1
  ·rintro⟨k,h1,h2⟩;rcases hk k with⟨h,_⟩|⟨h3,h4,h5,_⟩
   ·exact hle.ow b y hy hn ⟨k,by rw[←h];exact h1,h2⟩
   ·exact hn ⟨k,by rw[←h4];exact h1,by rw[←hμ k h3];exact h2⟩
 have hth: ∀{v:VV} {a:Value},VRel ctf v a→alV v=false→VRel ⟨ctf.μ,S2,ctf.σ,ctf.fb⟩ v a:=fun h1 h2=>VRel.thaw (ctf:=ctf) (ct:=⟨ctf.μ,S2,ctf.σ,ctf.fb⟩) rfl rfl hlen hd h1 h2
 have hths: ∀{l:List VV} {m:List Value},F2 (VRel ctf) l m→alL l=false→F2 (VRel ⟨ctf.μ,S2,ctf.σ,ctf.fb⟩) l m:=fun h1 h2=>VRel.thaw.go (ctf:=ctf) (ct:=⟨ctf.μ,S2,ctf.σ,ctf.fb⟩) rfl rfl hlen hd h1 h2
 refine⟨hle2,⟨hRf.ok,fun k k' b hz hdm hm hm'=> ?_,fun k=> ?_,fun k b hdm hm=>hRf.fbk k b (by rw[←hd];exact hdm) hm,hRf.fbl⟩,hths hf hal⟩
 ·have hdm':(cl ctf.S k').dim≠none:=by rw[←hd];exact hdm
  rcases hk k with⟨h,_⟩|⟨h3,h4,h5,_⟩
  ·exact hRf.inj k k' b (by rw[←h];exact hz) hdm' hm hm'
  ·rw[h4]at hz;rw[hμ k h3]at hm
   have hcase:(k'<c.S.length∧(cl c.S k').dim≠none)∨(cl ctf.S k').frozen=false:=by
    rcases hk k' with⟨g1,g2⟩|⟨g1,g2,g3,_⟩
    ·rcases g2 hdm' with⟨g2,_⟩|⟨g2,g3,_⟩
     ·exact .inr g2
     ·exact .inl ⟨g2,by rw[←g3];exact hdm'⟩
    ·exact .inl ⟨g1,by rw[←g2];exact hdm⟩
   rcases hcase with⟨g1,g2⟩|g1
   ·rw[hμ k' g1]at hm';exact hR.inj k k' b hz g2 hm hm'
   ·exact(hRf.inj k' k b g1 (by rw[h5,fc];exact jH hz) hm' (by rw[hμ k h3];exact hm)).symm
 ·intro d hdd
  have old:k<c.S.length→cl S2 k=cl c.S k→(∀b y,c.μ k=some b→c.σ.m b=some y→ctf.σ.m b=some y)→1≤d.1∧
   ((d.2=0∧ctf.μ k=none)∨∃b y cs rest,ctf.μ k=some b∧ctf.σ.m b=some y∧y.es=d.1∧((cl S2 k).frozen=false→y.own=true)∧y.cells=cs++rest∧F2 (VRel ⟨ctf.μ,S2,ctf.σ,ctf.fb⟩) (cl S2 k).vals cs):=by
   intro h1 h2 h3;obtain⟨q1,q2⟩:=hR.blk k d (by rw[←h2];exact hdd);refine⟨q1, ?_⟩;rcases q2 with⟨q2,q3⟩|⟨b,y,cs,rest,q2,q3,q4,q5,q6,q7⟩
   ·exact .inl ⟨q2,(hμ k h1).trans q3⟩
   ·exact .inr ⟨b,y,cs,rest,(hμ k h1).trans q2,h3 b y q2 q3,q4,by rw[h2];exact q5,q6,by rw[h2];exact VRel.frames hle2 q7⟩
  rcases hk k with⟨h,h'⟩|⟨h3,h4,h5,h6⟩
  ·have hdf:(cl ctf.S k).dim=some d:=by rw[←hd];exact hdd
   rcases h' (by rw[hdf];simp)with⟨h1,h2⟩|⟨h1,h2,h3⟩
   ·obtain⟨q1,q2⟩:=hRf.blk k d hdf;refine⟨q1, ?_⟩;rcases q2 with q2|⟨b,y,cs,rest,q2,q3,q4,q5,q6,q7⟩
    ·exact .inl q2
    ·exact .inr ⟨b,y,cs,rest,q2,q3,q4,by rw[h];exact q5,q6,by rw[h];exact hths q7 (ce6 h2)⟩
   ·exact old h1 (h.trans h2) h3
  ·exact old h3 h4 (h6 (by rw[←h4,hdd];simp))
end
end
end Go.V
