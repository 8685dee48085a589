/- A part of the proof. No condition. -/
import Derived.Test.YtknphpcjacoaeaaGreatA2
import Derived.IntWalk
import Derived.Below
set_option linter.unusedVariables false
set_option linter.unusedSimpArgs false
set_option linter.unusedSectionVars false
namespace Go.Ab
open Option renaming some->O,none->Y
open Bool renaming true->Za,false->Zb
open Decidable renaming decide->Zc
variable {i j t:Nat}{D:List Nat}{e e0:cm}{w:World}{Z:Hp}{a:Act}{v:Value}{x:Exit}{c:Code}
section
open Bool renaming and_eq_true -> bB, not_eq_true' -> eD
open List renaming mem_cons_of_mem -> aB, mem_cons_self -> aD, range -> bD, find?_some -> cB, getD_eq_getElem?_getD -> cD, getElem?_eq_none -> dB, all_eq_true -> fB, mem_of_find?_eq_some -> fD
open Nat renaming lt_or_ge -> dD
open Go.RowKit
theorem ah2 {g:Array Bool}(h:g.getD i Za=Zb):g.getD i Zb=Zb:=by
 rcases dD i g.size with h'|h'
 .simp[h']at h⊢;exact h
 .simp[Array.getElem?_eq_none h']at h
theorem aI6 {g:Array Bool}(p:i<g.size)(h:g.getD i Zb=Zb):g.getD i Za=Zb:=by
 simp[p]at h⊢;exact h
abbrev DL :=List (AOper×List Nat)
def qQ (al:DL)(i:Nat):Option Nat:=(al[i]?).bind (·.1.dst)
def Ji (al:DL)(i:Nat):List Nat:=match al[i]? with
 |some (o,_)=>o.looks
 |none=>[]
def Gk (al:DL):Bool:=
 (bD al.length).all λi=>
  (li al i).all (λq=>Zc (q<i))&&
  (match qQ al i with
   |none=>Za
   |some t=>(bD al.length).all λj=>i==j||((qQ al j !=O t)&&(!(Ji al j).contains t||AZ al i j||AZ al j i)))
section
variable {al:DL}
theorem VA (h:Gk al=Za){q:Nat}(g:i<al.length)(p:q∈li al i):q<i:=by
 have:=List.all_eq_true.1 h i (List.mem_range.2 g);simp only[bB,fB,decide_eq_true_eq]at this;exact this.1 q p
theorem E6 (h:qQ al i=O t):i<al.length:=by
 unfold qQ at h;rcases dD i al.length with h1|h1
 .exact h1
 .simp[dB h1]at h
theorem XG (h:Gk al=Za)(g:qQ al i=O t)(p:qQ al j=O t):i=j:=by
 have:=List.all_eq_true.1 h i (List.mem_range.2 (E6 g));simp only[bB,g]at this;have:=List.all_eq_true.1 this.2 j (List.mem_range.2 (E6 p));by_cases e:i=j
 .exact e
 .simp[p,e]at this
theorem XF (h:Gk al=Za)(s:qQ al i=O t)(g:j<al.length)(u:t∈Ji al j)(p:i≠j):AZ al i j=Za∨AZ al j i=Za:=by
 have:=List.all_eq_true.1 h i (List.mem_range.2 (E6 s));simp only[bB,s]at this;have:=List.all_eq_true.1 this.2 j (List.mem_range.2 g);simp[p,u]at this;exact this.2
def D8 (al:DL)(D:List Nat):Prop:= ∀i∈D,∀q∈li al i,q∈D
theorem XX {acc g:List Nat}{p:Nat}(h:(Ko acc g).testBit p=Za): ∃q∈g,q=p∨(acc.getD q 0).testBit p=Za:=by
 have s: ∀(g:List Nat) (m:Nat),(g.foldl (λm q=>m|||2 ^ q|||acc.getD q 0) m).testBit p=Za->m.testBit p=Za∨∃q∈g,q=p∨(acc.getD q 0).testBit p=Za:=by
  intro g;induction g with
  |nil=>intro m h;exact .inl h
  |cons q g A=>
   intro m h;rcases A _ h with h1|⟨C,h1,u⟩
   .simp only[Nat.testBit_or,Nat.testBit_two_pow,Bool.or_eq_true,decide_eq_true_eq]at h1;rcases h1 with(h1|h1)|h1
    .exact .inl h1
    .exact .inr ⟨q,aD .., .inl h1⟩
    .exact .inr ⟨q,aD .., .inr h1⟩
   .exact .inr ⟨C,aB _ h1,u⟩
 rcases s g 0 h with h1|h1
 .simp at h1
 .exact h1
theorem PR {u:DL}: ∀(r pre:DL) (g:List Nat),pre++r=u->g.length=pre.length->
  (∀j p,(g.getD j 0).testBit p=Za->∃q∈li u j,q=p∨(q<j/\(g.getD q 0).testBit p=Za))->
  ∀j p,((VW g r).getD j 0).testBit p=Za->∃q∈li u j,q=p∨(q<j/\((VW g r).getD q 0).testBit p=Za)
 |[],pre,g,_,_,h=>h
 |(o,A)::r,pre,g,U,V,h=>by
  simp only[VW];refine PR r (pre++[(o,A)]) (g++[Ko g A]) (by rw[List.append_assoc];exact U) (by simp[V]) λj p C=> ?_
  have M:li u g.length=A:=by
   unfold li;rw[<-U,V,List.getElem?_append_right (Nat.le_refl _)];simp
  have s: ∀q,q<g.length->(g++[Ko g A]).getD q 0=g.getD q 0:=by
   intro q F;simp only[cD];rw[List.getElem?_append_left F]
  by_cases W:j<g.length
  .rw[s j W]at C;obtain⟨q,H,J⟩:=h j p C;refine⟨q,H,J.imp id λ⟨L,E⟩=>⟨L, ?_⟩⟩;rw[s q (by omega)];exact E
  .by_cases H:j=g.length
   .subst H;have:(g++[Ko g A]).getD g.length 0=Ko g A:=by simp
    rw[this]at C;obtain⟨q,J,L⟩:=XX C;refine⟨q,by rw[M];exact J,L.imp id λE=> ?_⟩
    have F:q<g.length:=by
     rcases dD q g.length with h6|h6
     .exact h6
     .simp[cD,dB h6]at E
    exact⟨F,by rw[s q F];exact E⟩
   .have:(g++[Ko g A]).getD j 0=0:=by
     simp only[cD];rw[dB (by simp;omega)];rfl
    rw[this]at C;simp at C
theorem af2 {p:Nat}(h:AZ al p j=Za): ∃q∈li al j,q=p∨(q<j/\AZ al p q=Za):=
 PR al [] [] rfl rfl (λj p h=>by simp at h) j p h
theorem D8.bef (h:D8 al D): ∀(p j:Nat),AZ al p j=Za->(∀q∈li al j,q∈D)->p∈D:=by
 intro p j;induction j using Nat.strongRecOn with
 |_ j C=>
  intro g u;obtain⟨q,A,rfl|⟨s,g⟩⟩:=af2 g
  .exact u q A
  .exact C q s g (h q (u q A))
def mj (al:DL)(e0:cm)(g:Nat->Value)(D:List Nat):cm:=λt=>match D.find? (λi=>qQ al i==O t)with
 |some i=>g i
 |none=>e0 t
theorem vt {g:Nat->Value}(h:Gk al=Za)(u:i∈D)(p:qQ al i=O t):mj al e0 g D t=g i:=by
 unfold mj;cases s:D.find? (λi=>qQ al i==O t)with
 |none=>
  have:=List.find?_eq_none.1 s i u;simp[p]at this
 |some j=>
  have:=cB s;simp only[beq_iff_eq]at this;rw[XG h this p]
theorem sH {g:Nat->Value}(h: ∀i∈D,qQ al i≠O t):mj al e0 g D t=e0 t:=by
 unfold mj;have:D.find? (λi=>qQ al i==O t)=Y:=List.find?_eq_none.2 λi p=>by simpa using h i p
 rw[this]
theorem CT {s:Nat->Value}(h:Gk al=Za)(i:Nat)(C:i∉D):mj al e0 s (i::D)=(mj al e0 s D).putO (qQ al i) (s i):=by
 funext t
 cases u:qQ al i with
 |none=>
  simp only[cm.putO];by_cases p: ∃j∈D,qQ al j=O t
  .obtain⟨j,hj,g⟩:=p;rw[vt h (aB _ hj) g,vt h hj g]
  .rw[sH (λj hj g=>p ⟨j,hj,g⟩)];refine sH λj hj g=> ?_
   rcases List.mem_cons.1 hj with rfl|hj
   .rw[u]at g;cases g
   .exact p ⟨j,hj,g⟩
 |some d=>
  simp only[cm.putO,cm.put];split
  .rename_i A;subst A;exact vt h (aD ..) u
  .rename_i A;by_cases p: ∃j∈D,qQ al j=O t
   .obtain⟨j,hj,g⟩:=p;rw[vt h (aB _ hj) g,vt h hj g]
   .rw[sH (λj hj g=>p ⟨j,hj,g⟩)];refine sH λj hj g=> ?_
    rcases List.mem_cons.1 hj with rfl|hj
    .rw[u]at g;exact A (Option.some.inj g).symm
    .exact p ⟨j,hj,g⟩
def IF (al:DL)(e0:cm)(g:Nat->Value)(j:Nat):cm:=λt=>match(bD al.length).find? (λi=>qQ al i==O t&&AZ al i j)with
 |some i=>g i
 |none=>e0 t
theorem UH {p:Nat->Value}(h:Gk al=Za)(s:D8 al D)(u:j<al.length)(H:j∉D)(J: ∀q∈li al j,q∈D)(L:t∈Ji al j):
  mj al e0 p D t=IF al e0 p j t:=by
 unfold IF;cases E:(bD al.length).find? (λi=>qQ al i==O t&&AZ al i j)with
 |some i=>
  have:=cB E;simp only[bB,beq_iff_eq]at this;exact vt h (s.bef _ _ this.2 J) this.1
 |none=>
  refine sH λi F g=> ?_
  have C:=List.find?_eq_none.1 E i (List.mem_range.2 (E6 g));simp only[g,beq_self_eq_true,Bool.true_and]at C;have A:i≠j:=λe=>H (e▸F)
  rcases XF h g u L A with hb|hb
  .exact C hb
  .exact H (s.bef _ _ hb (s i F))
theorem az9 {h g:Nat->Value}(p:D8 al D)(u:j∈D)(A: ∀i∈D,g i=h i):IF al e0 g j=IF al e0 h j:=by
 funext t
 unfold IF;cases s:(bD al.length).find? (λi=>qQ al i==O t&&AZ al i j)with
 |none=>rfl
 |some i=>
  have:=cB s;simp only[bB,beq_iff_eq]at this;exact A i (p.bef _ _ this.2 (p j u))
theorem I7 {h g:Nat->Value}(s: ∀i∈D,g i=h i):mj al e0 g D=mj al e0 h D:=by
 funext t
 unfold mj;cases p:D.find? (λi=>qQ al i==O t)with
 |none=>rfl
 |some i=>exact s i (fD p)
def left (n:Nat)(D:List Nat):Nat:=((bD n).filter λi=> !D.contains i).length
theorem MA {n:Nat}(h:i<n)(g:i∉D):left n (i::D)<left n D:=by
 unfold left
 have:(bD n).filter (λj=> !(i::D).contains j)=((bD n).filter λj=> !D.contains j).filter λj=>j !=i:=by
  rw[List.filter_filter];apply List.filter_congr;intro j _;simp only[List.contains_cons,Bool.not_or];rfl
 rw[this];refine List.length_filter_lt_length_iff_exists.2 ⟨i, ?_,by simp⟩;simp[h,g]
theorem MB {n:Nat}(h:left n D=0)(g:i<n):i∈D:=by
 unfold left at h;have:=List.eq_nil_of_length_eq_zero h;rw[List.filter_eq_nil_iff]at this;have:=this i (List.mem_range.2 g);simpa using this
theorem au3 {n:Nat}(p:i<n)(g:i∉D):0<left n D:=by
 rcases Nat.eq_zero_or_pos (left n D)with h|h
 .exact absurd (MB h p) g
 .exact h
end
section
variable {P:Program} {T:mE} {al:DL} {ops:Array Oper} {B:Base P} {N:Nat}
structure Fits (P:Program)(N:Nat)(ops:Array Oper)(al:DL):Prop where
 len:ops.size=al.length
 op: ∀(i:Nat) o,ops[i]?=O o->∃x,al[i]?=O (x,li al i)/\M0 P N ops o=O x
 pred: ∀(i:Nat) o,ops[i]?=O o->∀q,q∈li al i↔∃e∈o.after,Region.binds .any e=Za/\e.on=q
def Nk (al:DL)(e0:cm)(g:Nat->Value)(Z:Hp)(chk:List (Nat×(Hp->Prop)))(j:Nat):Prop:=
 ∃x p,al[j]?=O (x,p)/\x.op.still=Za/\
  ((wanted x (IF al e0 g j)=Za/\x.op.run (IF al e0 g j) Z=O (g j,Z)/\
   (x.op.isLoad=Za->∃c,(j,c)∈chk/\∀Z',c Z'->x.op.run (IF al e0 g j) Z'=O (g j,Z')))∨
   (wanted x (IF al e0 g j)=Zb/\g j=undef))
structure Inv (al:DL)(e0:cm)(val:Nat->Value)(Z:Hp)(chk:List (Nat×(Hp->Prop)))(D L:List Nat):Prop where
 dc:D8 al D
 lc:D8 al L
 sub: ∀i∈L,i∈D
 lt: ∀i∈D,i<al.length
 tells: ∀j∈D,j∉L->Nk al e0 val Z chk j
theorem Ks {D:List Nat}{i:Nat}:Uy al D i=Za↔i∉D/\∀q∈li al i,q∈D:=by
 unfold Uy;simp only[bB,eD,fB,List.contains_iff_mem];constructor
 .rintro⟨g,p⟩;exact⟨λh=>by simp[h]at g,p⟩
 .rintro⟨g,p⟩;exact⟨by simpa using g,p⟩
theorem C7 {D:List Nat}{i:Nat}(h:mD al D=O i):i<al.length/\i∉D/\(∀q∈li al i,q∈D)/\GG al i=Za:=by
 unfold mD at h;have g:=cB h;have p:=fD h;simp only[bB]at g;obtain⟨s,u⟩:=Ks.1 g.1;exact⟨List.mem_range.1 p,s,u,g.2⟩
theorem PY {D:List Nat}(h:mD al D=Y){i:Nat}(s:i<al.length)(g:i∉D)(p: ∀q∈li al i,q∈D):GG al i=Zb:=by
 unfold mD at h;have:=List.find?_eq_none.1 h i (List.mem_range.2 s);simp only[Ks.2 ⟨g,p⟩,Bool.true_and]at this;simpa using this
theorem C5 {D:List Nat}{i:Nat}:i∈dj al D↔i<al.length/\i∉D/\(∀q∈li al i,q∈D)/\GG al i=Zb:=by
 unfold dj;simp only[List.mem_filter,List.mem_range,bB,eD,Ks,and_assoc]
theorem Vl {f:Nat->Prop}: ∀{l:List Nat},Rd f l->∀m∈l,f m
 |[],_,m,hm=>by cases hm
 |[x],h,m,hm=>by simp at hm;subst hm;exact h
 |x::y::r,h,m,hm=>by
  rcases List.mem_cons.1 hm with rfl|hm
  .exact h.1
  .exact Vl h.2 m hm
def upd (g:Nat->Value)(i:Nat)(v:Value):Nat->Value:=λk=>if k=i then v else g k
theorem Nk.upd {g:Nat->Value}{chk:List (Nat×(Hp->Prop))}{D:List Nat}{i j:Nat}(F:D8 al D)(s:j∈D)(H:i∉D)(h:Nk al e0 g Z chk j):Nk al e0 (upd g i v) Z chk j:=by
 obtain⟨x,p,A,C,E⟩:=h;have u: ∀k∈D,Ab.upd g i v k=g k:=λk J=>zF λ(e:k=i)=>H (e▸J)
 have L:=az9 (e0:=e0) F s u;refine⟨x,p,A,C, ?_⟩;rw[L,u j s];exact E
theorem Nk.more {s:Nat->Value}{chk g:List (Nat×(Hp->Prop))}{j:Nat}(h:Nk al e0 s Z chk j)(E: ∀c∈chk,c∈g):Nk al e0 s Z g j:=by
 obtain⟨x,p,u,A,C⟩:=h;refine⟨x,p,u,A,C.imp (λ⟨H,J,L⟩=>⟨H,J,λF=> ?_⟩) id⟩;obtain⟨c,M,U⟩:=L F;exact⟨c,E _ M,U⟩
theorem TA {Q:cm->Hp->Prop}(X:Gk al=Za){e0:cm}{Z:Hp}{L:List Nat}: ∀(f:Nat) (s:Nat->Value) (D:List Nat) (chk:List (Nat×(Hp->Prop))) (e:cm),KK T Q al f D chk e Z->left al.length D<=f->e=mj al e0 s D->
  Inv al e0 s Z chk D L->∃V u D' g,KK T Q al V D' g (mj al e0 u D') Z/\left al.length D'<=V/\Inv al e0 u Z g D' L/\mD al D'=Y/\(∀i∈D,u i=s i)/\∀i∈D,i∈D'
 |0,s,D,chk,e,h,hf,he,F=>by
  have hall: ∀i,i<al.length->i∈D:=λi hi=>MB (by omega) hi
  refine⟨0,s,D,chk,by rw[<-he];exact h,hf,F, ?_,λ_ _=>rfl,λ_ hi=>hi⟩;cases hn:mD al D with
  |none=>rfl
  |some i=>exact absurd (hall i (C7 hn).1) (C7 hn).2.1
 |f+1,s,D,chk,e,h,hf,he,F=>by
  cases hn:mD al D with
  |none=>exact⟨f+1,s,D,chk,by rw[<-he];exact h,hf,F,hn,λ_ _=>rfl,λ_ hi=>hi⟩
  |some i=>
   obtain⟨h1,h2,h3,h4⟩:=C7 hn;simp only[KK,hn]at h;split at h
   .rename_i x p hx;have hst:x.op.still=Za:=by simpa[GG,hx]using h4
    have E: ∀t∈x.looks,e t=IF al e0 s i t:=by
     intro t ht;rw[he];exact UH X F.dc h1 h2 h3 (by simpa[Ji,hx]using ht)
    have hdst:qQ al i=x.dst:=by simp[qQ,hx]
    have W:left al.length (i::D)<=f:=by have:=MA h1 h2;omega
    have hDc:D8 al (i::D):=by
     intro k hk q hq;rcases List.mem_cons.1 hk with rfl|hk
     .exact aB _ (h3 q hq)
     .exact aB _ (F.dc k hk q hq)
    have M: ∀(v:Value) (g:List (Nat×(Hp->Prop))),KK T Q al f (i::D) g (e.putO x.dst v) Z->(∀c∈chk,c∈g)->Nk al e0 (upd s i v) Z g i->
      ∃V u D' g,KK T Q al V D' g (mj al e0 u D') Z/\left al.length D'<=V/\Inv al e0 u Z g D' L/\mD al D'=Y/\(∀i∈D,u i=s i)/\∀i∈D,i∈D':=by
     intro v g hw hc ht;have J: ∀k∈D,upd s i v k=s k:=λk hk=>zF λ(e:k=i)=>h2 (e▸hk)
     have henv:e.putO x.dst v=mj al e0 (upd s i v) (i::D):=by
      rw[CT X i h2,I7 J,hdst,<-he]
      congr 1
      exact(zE rfl).symm
     obtain⟨V,u,D',U,g1,g2,g3,g4,g5,g6⟩:=TA X f (upd s i v) (i::D) g _ hw W henv ⟨hDc,F.lc,λk hk=>aB _ (F.sub k hk),λk hk=>(List.mem_cons.1 hk).elim (λe=>e▸h1) (F.lt k),λj hj hjL=>by
      rcases List.mem_cons.1 hj with rfl|hj
      .exact ht
      .exact((F.tells j hj hjL).upd F.dc hj h2).more hc⟩
     exact⟨V,u,D',U,g1,g2,g3,g4,λk hk=>(g5 k (aB _ hk)).trans (J k hk),λk hk=>g6 k (aB _ hk)⟩
    have A: ∀v,IF al e0 (upd s i v) i=IF al e0 s i:=by
     intro v
     funext t
     unfold IF;cases hf':(bD al.length).find? (λk=>qQ al k==O t&&AZ al k i)with
     |none=>rfl
     |some k=>
      have:=cB hf';simp only[bB,beq_iff_eq]at this;exact zF λ(e:k=i)=>h2 (e▸F.dc.bef _ _ this.2 h3)
    have hw0:=GL E;have hr0: ∀Z',x.op.run e Z'=x.op.run (IF al e0 s i) Z':=λZ'=>MQ λt ht=>E t (by simp[AOper.looks,ht])
    split at h
    .rename_i C;split at h
     .rename_i v Z1 H;obtain rfl:=KC hst H;refine M v _ h (λc hc=>by split<;>simp[hc]) ⟨x,p,hx,hst, .inl ⟨by rw[A,<-hw0];exact C,by rw[A,<-hr0];rw[H];congr 2;exact(zE rfl).symm,λhl=> ?_⟩⟩;refine⟨_,by rw[zE hl];exact aD ..,λZ' hZ'=> ?_⟩;rw[A,<-hr0,hZ']
      congr 2
      exact(zE rfl).symm
     .exact h.elim
    .rename_i C;exact M undef chk h (λc hc=>hc) ⟨x,p,hx,hst, .inr ⟨by rw[A,<-hw0];simpa using C,zE rfl⟩⟩
   .exact h.elim
theorem Mz {m:Nat}{Z:Hp}: ∀{chk:List (Nat×(Hp->Prop))},G5 al m Z chk->∀j c,(j,c)∈chk->AZ al j m=Zb->c Z
 |[],_,j,c,h,_=>by cases h
 |(i,d)::r,g,j,c,h,p=>by
  simp only[G5]at g;rcases List.mem_cons.1 h with h|h
  .injection h with s u
   subst s u;rw[zF (by simp[p])]at g;exact g.1
  .split at g
   .exact Mz g j c h p
   .exact Mz g.2 j c h p
theorem Fits.ready (u:Fits P N ops al){g:Array Bool}{L:List Nat}(hs:g.size=ops.size)(U: ∀i,i<ops.size->(g.getD i Zb=Za↔i∈L))(H: ∀i∈L,i<ops.size){i:Nat}:
  i∈Region.ready .any ops g↔i<al.length/\i∉L/\∀q∈li al i,q∈L:=by
 have A: ∀k,g.getD k Zb=Za↔k∈L:=by
  intro k;by_cases J:k<ops.size
  .exact U k J
  .constructor
   .intro h;have:g.getD k Zb=Zb:=by simp[Array.getElem?_eq_none (show g.size<=k by omega)]
    rw[this]at h;cases h
   .intro h;exact absurd (H k h) J
 rw[mem_ready];constructor
 .rintro⟨E,o,p,F⟩;have C:i<ops.size:=(Array.getElem?_eq_some_iff.1 p).1;refine⟨u.len▸C,λh=> ?_,λq hq=> ?_⟩
  .have s:=(A i).2 h;rw[ah2 E]at s;cases s
  .obtain⟨e,s,M,rfl⟩:=(u.pred i o p q).1 hq;exact(A _).1 (F e s M)
 .rintro⟨E,p,F⟩;have C:i<ops.size:=u.len▸E;refine⟨aI6 (by omega) ?_,ops[i],Array.getElem?_eq_getElem C,λe W V=>(A _).2 (F _ ((u.pred i _ (Array.getElem?_eq_getElem C) _).2 ⟨e,W,V,rfl⟩))⟩;cases X:g.getD i Zb with
  |true=>exact absurd ((A i).1 X) p
  |false=>rfl
theorem aH5 (hT: ∀f,Sim P f (T f))(hF:Fits P N ops al)(E:Gk al=Za){Q:AExit->cm->Hp->Prop}{μ0:Mu}{w0:World}: ∀(V:Nat) (f:Nat) (X:Nat->Value) (D L:List Nat) (chk:List (Nat×(Hp->Prop))) (u:Array Bool) (Z:Hp) (μ:Mu) (a:Act) (w:World),
  KK T (Q .normal) al f D chk (mj al e0 X D) Z->left al.length D<=f->left al.length L<=V->Inv al e0 X Z chk D L->u.size=ops.size->(∀i,i<ops.size->(u.getD i Zb=Za↔i∈L))->
  R B μ Z w->ig μ N (mj al e0 X L) a.tmps->a.defers=[]->μ0.le μ->Below B w0 w->wpAny P .any ops (wZ B N μ0 w0 Q) V u a w:=by
 intro V;induction V with
 |zero=>
  intro f X D L chk u Z μ a w h hf hfu hI hs hL hR he hd hμ hb;have hall: ∀i,i<al.length->i∈L:=λi hi=>MB (by omega) hi
  have hlt: ∀i∈L,i<ops.size:=λi hi=>by rw[hF.len];exact hI.lt i (hI.sub i hi)
  have hnil:Region.ready .any ops u=[]:=by
   cases hr:Region.ready .any ops u with
   |nil=>rfl
   |cons i r=>
    have:=(hF.ready hs hL hlt (i:=i)).1 (by rw[hr];exact aD ..);exact absurd (hall i this.1) this.2.1
  refine⟨hnil, ?_⟩;obtain⟨f',s,D',C,g1,g2,F,g4,g5,g6⟩:=TA (Q:=Q .normal) E f X D chk _ h hf rfl hI
  have hq:Q .normal (mj al e0 s D') Z:=by
   have hmv:dj al D'=[]:=by
    cases hm:dj al D' with
    |nil=>rfl
    |cons i r=>
     have:=C5.1 (show i∈dj al D' by rw[hm];exact aD ..);exact absurd (g6 i (hI.sub i (hall i this.1))) this.2.1
   cases f' with
   |zero=>exact g1
   |succ f'=>simp only[KK,g4,hmv]at g1;exact g1
  have henv:mj al e0 s D'=mj al e0 X L:=by
   funext t
   by_cases hx: ∃j,j<al.length/\qQ al j=O t
   .obtain⟨j,U,A⟩:=hx;rw[vt E (g6 j (hI.sub j (hall j U))) A,vt E (hall j U) A,g5 j (hI.sub j (hall j U))]
   .rw[sH (λj _ A=>hx ⟨j,E6 A,A⟩),sH (λj _ A=>hx ⟨j,E6 A,A⟩)]
  rw[henv]at hq;exact⟨.normal,_,Z,μ,trivial,hq,hμ,hR,he,hd,hb⟩
 |succ V ih=>
  intro f X D L chk u Z μ a w h hf hfu hI hs hL hR he hd hμ hb;have hlt: ∀i∈L,i<ops.size:=λi hi=>by rw[hF.len];exact hI.lt i (hI.sub i hi)
  obtain⟨f',s,D',C,g1,g2,F,g4,g5,g6⟩:=TA (Q:=Q .normal) E f X D chk _ h hf rfl hI;have hvL: ∀i∈L,s i=X i:=λi hi=>g5 i (hI.sub i hi)
  have he':ig μ N (mj al e0 s L) a.tmps:=by rw[I7 hvL];exact he
  have hL': ∀i,i<ops.size->∀(hi:i∉L),(∀k,k<ops.size->((u.setIfInBounds i Za).getD k Zb=Za↔k∈i::L)):=by
   intro i hi hiL k hk;by_cases e:k=i
   .subst e;simp[hs,hk]
   .rw[getD_set_ne Zb (λe'=>e e'.symm)];rw[hL k hk];simp[e]
  have hLc: ∀i,(∀q∈li al i,q∈L)->D8 al (i::L):=by
   intro i hp k hk q hq;rcases List.mem_cons.1 hk with rfl|hk
   .exact aB _ (hp q hq)
   .exact aB _ (hI.lc k hk q hq)
  refine⟨λhnil=> ?_,λi hi=> ?_⟩
  .
   have hDL: ∀j∈D',j∈L:=by
    intro j;induction j using Nat.strongRecOn with
    |_ j ihj=>
     intro U;by_cases M:j∈L
     .exact M
     .exfalso;have hr:=(hF.ready hs hL hlt (i:=j)).2 ⟨F.lt j U,M,λq hq=>ihj q (VA E (F.lt j U) hq) (F.dc j U q hq)⟩;rw[hnil]at hr;cases hr
   have hq:Q .normal (mj al e0 s D') Z:=by
    have hmv:dj al D'=[]:=by
     cases hm:dj al D' with
     |nil=>rfl
     |cons i r=>
      exfalso;have:=C5.1 (show i∈dj al D' by rw[hm];exact aD ..);have hr:=(hF.ready hs hL hlt (i:=i)).2 ⟨this.1,λh=>this.2.1 (F.sub i h),λq hq=>hDL q (this.2.2.1 q hq)⟩;rw[hnil]at hr;cases hr
    cases f' with
    |zero=>exact g1
    |succ f'=>simp only[KK,g4,hmv]at g1;exact g1
   have henv:mj al e0 s D'=mj al e0 s L:=by
    funext t
    by_cases hx: ∃j∈L,qQ al j=O t
    .obtain⟨j,U,A⟩:=hx;rw[vt E (F.sub j U) A,vt E U A]
    .rw[sH (λj U A=>hx ⟨j,hDL j U,A⟩),sH (λj U A=>hx ⟨j,U,A⟩)]
   rw[henv]at hq;exact⟨.normal,_,Z,μ,trivial,hq,hμ,hR,he',hd,hb⟩
  .
   obtain⟨k1,k2,k3⟩:=(hF.ready hs hL hlt).1 hi;have hio:i<ops.size:=hF.len▸k1;have hoi:ops[i]?=O ops[i]:=Array.getElem?_eq_getElem hio;obtain⟨x,hx,htr⟩:=hF.op i _ hoi;have hfu':left al.length (i::L)<=V:=by have:=MA k1 k2;omega
   have hs':(u.setIfInBounds i Za).size=ops.size:=by simpa using hs
   have hdst:qQ al i=x.dst:=by simp[qQ,hx]
   unfold M0 at htr;split at htr
   case h_2=>cases htr
   rename_i op g t1 t2;split at htr
   case isFalse=>cases htr
   rename_i t3;injection htr with htr
   subst htr
   have W: ∀t∈(⟨ops[i].dst,op,g⟩:AOper).looks,mj al e0 s L t=IF al e0 s i t:=by
    intro t ht;exact UH E F.lc k1 k2 k3 (by simpa[Ji,hx]using ht)
   have hwant:=Sy (op:=op) t2 he';rw[GL W]at hwant;unfold wpOp;rw[hoi];simp only;rw[hwant];by_cases J:i∈D'
   .
    obtain⟨x',p,y1,y2,y3⟩:=F.tells i J k2;rw[hx]at y1;injection y1 with y1
    injection y1 with y1 _
    subst y1
    have hInv': ∀(μ':Mu) (w':World),Inv al e0 s Z C D' (i::L):=λμ' w'=>
     ⟨F.dc,hLc i k3,λk hk=>(List.mem_cons.1 hk).elim (λe=>e▸J) (F.sub k),F.lt,λj U M=>F.tells j U λh=>M (aB _ h)⟩
    rcases y3 with⟨y4,y5,_⟩|⟨y4,y5⟩
    .rw[y4];rw[zE rfl];left
     have hrun:cc T op (mj al e0 s L) Z λv Z'=>v=s i/\Z'=Z:=by
      have:op.run (mj al e0 s L) Z=O (s i,Z):=by
       rw[MQ (e':=IF al e0 s i) λt ht=>W t (by simp[AOper.looks,ht])];exact y5
      unfold cc;cases op<;>simp[AOp.still]at y2<;>simp only[this]<;>exact⟨trivial,trivial⟩
     refine Qn hT t1 hrun he' hR λv Z' v' μ' w' hk hμ' hR' hv hbel=> ?_
     obtain⟨rfl,rfl⟩:=hk;refine ih f' s D' (i::L) C _ Z' μ' _ w' g1 g2 hfu' (hInv' μ' w') hs' (hL' i hio k2) hR' ?_ (by rw[zq];exact hd) (Mu.le_trans hμ hμ') (hb.trans hbel);rw[CT E i k2,hdst];exact(he'.mono hμ').putO t3 hv
    .rw[y4];simp only[Bool.false_eq_true,if_false];refine ih f' s D' (i::L) C _ Z μ _ w g1 g2 hfu' (hInv' μ w) hs' (hL' i hio k2) hR ?_ (by rw[zq];exact hd) hμ hb;rw[CT E i k2,hdst,y5];exact he'.putO t3 (VR.undef μ)
   .
    have hpD: ∀q∈li al i,q∈D':=λq hq=>F.sub q (k3 q hq)
    have hst:=PY g4 k1 J hpD;have hmem:i∈dj al D':=C5.2 ⟨k1,J,hpD,hst⟩
    have hlooksD: ∀t∈(⟨ops[i].dst,op,g⟩:AOper).looks,mj al e0 s D' t=IF al e0 s i t:=by
     intro t ht;exact UH E F.dc k1 J hpD (by simpa[Ji,hx]using ht)
    have hsame: ∀t∈(⟨ops[i].dst,op,g⟩:AOper).looks,mj al e0 s D' t=mj al e0 s L t:=λt ht=>(hlooksD t ht).trans (W t ht).symm
    obtain⟨f'',rfl⟩: ∃f'',f'=f''+1:=⟨f'-1,by have:=au3 k1 J;omega⟩
    have hleft:left al.length (i::D')<=f'':=by have:=MA k1 J;omega
    simp only[KK,g4]at g1
    have H:(if wanted ⟨ops[i].dst,op,g⟩ (mj al e0 s D')then cc T op (mj al e0 s D') Z λv Z'=>G5 al i Z' C/\KK T (Q .normal) al f'' (i::D') C ((mj al e0 s D').putO ops[i].dst v) Z'
      else KK T (Q .normal) al f'' (i::D') C ((mj al e0 s D').putO ops[i].dst undef) Z):=by
     cases hm:dj al D' with
     |nil=>rw[hm]at hmem;cases hmem
     |cons m r=>
      rw[hm]at g1 hmem;simp only at g1;have:=Vl g1 i hmem;simp only[hx]at this;exact this
    rw[GL hlooksD]at H
    have hDc:D8 al (i::D'):=by
     intro k hk q hq;rcases List.mem_cons.1 hk with rfl|hk
     .exact aB _ (hpD q hq)
     .exact aB _ (F.dc k hk q hq)
    have hlag: ∀j∈i::D',j∉i::L->j∈D'/\j∉L:=λj U M=>
     ⟨(List.mem_cons.1 U).elim (λe=>absurd (e▸aD ..) M) id,λh=>M (aB _ h)⟩
    have hval: ∀v,∀k∈D',upd s i v k=s k:=λv k hk=>zF λ(e:k=i)=>J (e▸hk)
    have henvD: ∀v,(mj al e0 s D').putO ops[i].dst v=mj al e0 (upd s i v) (i::D'):=by
     intro v;rw[CT E i J,I7 (hval v),hdst]
     congr 1
     exact(zE rfl).symm
    have henvL: ∀v,(mj al e0 s L).putO ops[i].dst v=mj al e0 (upd s i v) (i::L):=by
     intro v;rw[CT E i k2,I7 (λk hk=>hval v k (F.sub k hk)),hdst]
     congr 1
     exact(zE rfl).symm
    split at H
    .rename_i hw1;rw[hw1,zE rfl];left;refine Qn hT t1 (WC (λt ht=>hsame t (by simp[AOper.looks,ht])) H) he' hR λv Z' v' μ' w' hk hμ' hR' hv hbel=> ?_
     obtain⟨hk1,hk2⟩:=hk;rw[henvD v]at hk2;refine ih f'' (upd s i v) (i::D') (i::L) C _ Z' μ' _ w' hk2 hleft hfu' ⟨hDc,hLc i k3,λk hk=>(List.mem_cons.1 hk).elim (λe=>e▸aD ..) λh=>aB _ (F.sub k h),λk hk=>(List.mem_cons.1 hk).elim (λe=>e▸k1) (F.lt k),λj U M=> ?_⟩ hs' (hL' i hio k2) hR' ?_ (by rw[zq];exact hd) (Mu.le_trans hμ hμ') (hb.trans hbel)
     .obtain⟨hjD,hjL'⟩:=hlag j U M;have ht:=(F.tells j hjD hjL').upd (i:=i) (v:=v) F.dc hjD J;obtain⟨x',p,z1,z2,z3⟩:=ht;refine⟨x',p,z1,z2,z3.imp (λ⟨z4,z5,z6⟩=>⟨z4, ?_,z6⟩) id⟩;cases hl:x'.op.isLoad with
      |false=>exact al8 z2 hl z5 Z'
      |true=>
       obtain⟨c,z7,z8⟩:=z6 hl;refine z8 Z' (Mz hk1 j c z7 ?_);cases hbf:AZ al j i with
       |false=>rfl
       |true=>exact absurd (F.lc.bef _ _ hbf k3) hjL'
     .rw[<-henvL v];exact(he'.mono hμ').putO t3 hv
    .rename_i hw1;rw[zF hw1];rw[henvD undef]at H;refine ih f'' (upd s i undef) (i::D') (i::L) C _ Z μ _ w H hleft hfu' ⟨hDc,hLc i k3,λk hk=>(List.mem_cons.1 hk).elim (λe=>e▸aD ..) λh=>aB _ (F.sub k h),λk hk=>(List.mem_cons.1 hk).elim (λe=>e▸k1) (F.lt k),λj U M=> ?_⟩ hs' (hL' i hio k2) hR ?_ (by rw[zq];exact hd) hμ hb
     .obtain⟨hjD,hjL'⟩:=hlag j U M;exact(F.tells j hjD hjL').upd F.dc hjD J
     .rw[<-henvL undef];exact he'.putO t3 (VR.undef μ)
end
end
section
open Go.RowKit
def yM (T:mE):Prop:= ∀f g Z (K K':Value->Hp->Prop),(∀r Z',K r Z'->K' r Z')->T f g Z K->T f g Z K'
theorem sm {T:mE}(p:yM T){op:AOp}{k s:Value->Hp->Prop}(g: ∀v Z',k v Z'->s v Z')(h:cc T op e Z k):cc T op e Z s:=by
 unfold cc at*;cases op<;>simp only at h⊢
 case call f xs=>exact p _ _ _ _ _ g h
 case callv f xs=>
  split at h
  .exact p _ _ _ _ _ g h
  .exact h.elim
 all_goals
  split at h
  .exact g _ _ h
  .exact h.elim
section
variable {T:mE}
theorem GM (g:yM T){Q Q':cm->Hp->Prop}(p: ∀e Z,Q e Z->Q' e Z): ∀(l:List AOper) (e:cm) (Z:Hp),Di T Q l e Z->Di T Q' l e Z
 |[],e,Z,h=>p e Z h
 |o::l,e,Z,h=>by
  simp only[Di]at h⊢;split at h
  .rename_i s;rw[zE s];exact sm g (λv Z' u=>GM g p l _ Z' u) h
  .rename_i s;rw[zF s];exact GM g p l _ Z h
theorem Rx {f g:Nat->Prop}(h: ∀m,f m->g m): ∀{l:List Nat},Rd f l->Rd g l
 |[],_=>trivial
 |[_],p=>h _ p
 |_::_::_,p=>⟨h _ p.1,Rx h p.2⟩
theorem IU (s:yM T){Q Q':cm->Hp->Prop}(p: ∀e Z,Q e Z->Q' e Z){ops:List (AOper×List Nat)}: ∀(f:Nat) (done:List Nat) (chk:List (Nat×(Hp->Prop))) (e:cm) (Z:Hp),KK T Q ops f done chk e Z->KK T Q' ops f done chk e Z
 |0,done,chk,e,Z,h=>p e Z h
 |f+1,done,chk,e,Z,h=>by
  simp only[KK]at h⊢;split at h
  .split at h
   .split at h
    .rename_i g;rw[zE g];split at h
     .exact IU s p f _ _ _ _ h
     .exact h.elim
    .rename_i g;rw[zF g];exact IU s p f _ _ _ _ h
   .exact h.elim
  .split at h
   .exact p e Z h
   .refine Rx (λm u=> ?_) h;split at u
    .split at u
     .rename_i g;rw[zE g];exact sm s (λv Z' A=>⟨A.1,IU s p f _ _ _ _ A.2⟩) u
     .rename_i g;rw[zF g];exact IU s p f _ _ _ _ u
    .exact u.elim
theorem IV (g:yM T){Q Q':cm->Hp->Prop}(p: ∀e Z,Q e Z->Q' e Z): ∀(l:List SItem) (chk:List (Nat×(Hp->Prop))) (e:cm) (Z:Hp),UV T Q l chk e Z->UV T Q' l chk e Z
 |[],_,e,Z,h=>p e Z h
 |it::l,chk,e,Z,h=>by
  simp only[UV]at h⊢;split at h
  .rename_i u;rw[zE u];split at h
   .rename_i s;rw[zE s];exact sm g (λv Z' A=>⟨A.1,IV g p l _ _ Z' A.2⟩) h
   .rename_i s;rw[zF s];split at h
    .exact IV g p l _ _ Z h
    .exact h.elim
  .rename_i u;rw[zF u];exact IV g p l _ _ Z h
theorem IW {f:(AExit->cm->Hp->Prop)->cm->Hp->Prop}(s: ∀(Q Q':AExit->cm->Hp->Prop),(∀x e Z,Q x e Z->Q' x e Z)->∀e Z,f Q e Z->f Q' e Z){Q Q':AExit->cm->Hp->Prop}(g: ∀x e Z,Q x e Z->Q' x e Z):
  ∀(n:Nat) (e:cm) (Z:Hp),nZ f Q n e Z->nZ f Q' n e Z
 |0,_,_,h=>h.elim
 |n+1,e,Z,h=>by
  simp only[nZ]at h⊢;refine s _ _ (λx u Z' p=> ?_) e Z h;cases x with
  |normal=>exact IW s g n u Z' p
  |exit id=>exact g _ _ _ p
  |ret=>exact g _ _ _ p
theorem i8 (A:yM T): ∀(c:AC) (Q Q':AExit->cm->Hp->Prop),(∀x e Z,Q x e Z->Q' x e Z)->∀(e:cm) (Z:Hp),Bv T c Q e Z->Bv T c Q' e Z:=by
 intro c;induction c with
 |skip=>intro Q Q' g e Z h;exact g _ _ _ h
 |region ops=>intro Q Q' g e Z h;exact GM A (g .normal) ops e Z h
 |draw ops=>intro Q Q' g e Z h;exact IU A (g .normal) _ _ _ e Z h
 |sched F=>intro Q Q' g e Z h;exact IV A (g .normal) F [] e Z h
 |seq a b s u=>
  intro Q Q' g e Z h;refine s _ _ (λx H Z' p=> ?_) e Z h;cases x with
  |normal=>exact u Q Q' g H Z' p
  |exit id=>exact g _ _ _ p
  |ret=>exact g _ _ _ p
 |cond c a b s u=>
  intro Q Q' g e Z h;simp only[Bv]at h⊢;split at h
  .exact s Q Q' g e Z h
  .exact u Q Q' g e Z h
  .exact h.elim
 |block id b E=>
  intro Q Q' g e Z h;refine E _ _ (λx H Z' p=> ?_) e Z h;cases x with
  |normal=>exact g _ _ _ p
  |exit i=>
   simp only at p⊢;split at p
   .rename_i C;rw[zE C];exact g _ _ _ p
   .rename_i C;rw[zF C];exact g _ _ _ p
  |ret=>exact g _ _ _ p
 |loop b E=>
  intro Q Q' g e Z h;obtain⟨n,J⟩:=h;exact⟨n,IW (f:=Bv T b) E g n e Z J⟩
 |exit id=>intro Q Q' g e Z h;exact g _ _ _ h
 |ret=>intro Q Q' g e Z h;exact g _ _ _ h
def AC.outs :AC->Nat->Bool
 | .seq a b,i| .cond _ a b,i=>a.outs i||b.outs i
 | .block id b,i=>b.outs i&& !(i==id)
 | .loop b,i=>b.outs i
 | .exit j,i=>i==j
 |_,_=>Zb
def Xh (c:AC)(Q:AExit->cm->Hp->Prop):AExit->cm->Hp->Prop:=λx e Z=>(∀i,x= .exit i->c.outs i=Za)/\Q x e Z
theorem Iy {c:AC}{Q:AExit->cm->Hp->Prop}:Xh c Q .normal=Q .normal:=by
 funext e Z
 exact propext ⟨λh=>h.2,λh=>⟨λi g=>(by cases g),h⟩⟩
theorem NI {f:(AExit->cm->Hp->Prop)->cm->Hp->Prop}{b:AC}(s: ∀(Q Q':AExit->cm->Hp->Prop),(∀x e Z,Q x e Z->Q' x e Z)->∀e Z,f Q e Z->f Q' e Z)
  (u: ∀Q e Z,f Q e Z->f (Xh b Q) e Z) {Q:AExit->cm->Hp->Prop}: ∀(n:Nat) (e:cm) (Z:Hp),nZ f Q n e Z->nZ f (Xh b Q) n e Z
 |0,_,_,h=>h.elim
 |n+1,e,Z,h=>by
  simp only[nZ]at h⊢;refine s _ _ (λx A Z' C=> ?_) e Z (u _ e Z h);obtain⟨p,g⟩:=C;cases x with
  |normal=>exact NI s u n A Z' g
  |exit id=>exact⟨p,g⟩
  |ret=>exact⟨p,g⟩
theorem W6 (C:yM T): ∀(c:AC) (Q:AExit->cm->Hp->Prop) (e:cm) (Z:Hp),Bv T c Q e Z->Bv T c (Xh c Q) e Z:=by
 intro c;induction c with
 |skip=>intro Q e Z h;exact⟨λi g=>(by cases g),h⟩
 |region ops=>intro Q e Z h;simp only[Bv]at h⊢;rw[Iy];exact h
 |draw ops=>intro Q e Z h;simp only[Bv]at h⊢;rw[Iy];exact h
 |sched M=>intro Q e Z h;simp only[Bv]at h⊢;rw[Iy];exact h
 |seq a b u A=>
  intro Q e Z h;simp only[Bv]at h⊢;refine i8 C a _ _ (λx E Z' p=> ?_) e Z (u _ e Z h);obtain⟨F,s⟩:=p;cases x with
  |normal=>exact i8 C b _ _ (λx e Z p=>⟨λi g=>by rw[AC.outs,p.1 i g,Bool.or_true],p.2⟩) E Z' (A Q E Z' s)
  |exit id=>exact⟨λi g=>by rw[AC.outs,F i g,Bool.true_or],s⟩
  |ret=>exact⟨λi g=>(by cases g),s⟩
 |cond c a b u A=>
  intro Q e Z h;simp only[Bv]at h⊢;split at h
  .exact i8 C a _ _ (λx e Z p=>⟨λi g=>by rw[AC.outs,p.1 i g,Bool.true_or],p.2⟩) e Z (u Q e Z h)
  .exact i8 C b _ _ (λx e Z p=>⟨λi g=>by rw[AC.outs,p.1 i g,Bool.or_true],p.2⟩) e Z (A Q e Z h)
  .exact h.elim
 |block id b J=>
  intro Q e Z h;simp only[Bv]at h⊢;refine i8 C b _ _ (λx E Z' p=> ?_) e Z (J _ e Z h);obtain⟨F,s⟩:=p;cases x with
  |normal=>exact⟨λi g=>(by cases g),s⟩
  |exit i=>
   simp only at s⊢;split at s
   .rename_i g;rw[zE g];exact⟨λi g=>(by cases g),s⟩
   .rename_i g;rw[zF g];refine⟨λj H=> ?_,s⟩;injection H with H
    subst H;rw[AC.outs,F i rfl];simp[g]
  |ret=>exact⟨λi g=>(by cases g),s⟩
 |loop b J=>
  intro Q e Z h;obtain⟨n,L⟩:=h;exact⟨n,NI (f:=Bv T b) (i8 C b) J n e Z L⟩
 |exit id=>
  intro Q e Z h;refine⟨λi g=> ?_,h⟩;injection g with g
  subst g;simp[AC.outs]
 |ret=>intro Q e Z h;exact⟨λi g=>(by cases g),h⟩
end
end
section
open Bool renaming and_eq_true -> bB, or_eq_true -> bD, false_eq_true -> cB
open List renaming mem_cons_of_mem -> aB, mem_cons_self -> aD
open Go.RowKit
def MZ (P:Program)(N:Nat)(ops:Array Oper):List Oper->Option DL
 |[]=>O []
 |o::r=>match M0 P N ops o,MZ P N ops r with
  |some x,O l=>O ((x,(o.after.toList.filter (Region.binds .any ·)).map (·.on))::l)
  |_,_=>Y
def AC.outsL :AC->List Nat
 | .seq a b| .cond _ a b=>a.outsL++b.outsL
 | .block id b=>b.outsL.filter λi=> !(i==id)
 | .loop b=>b.outsL
 | .exit j=>[j]
 |_=>[]
theorem ay0 : ∀(c:AC) (i:Nat),c.outs i=Za->i∈c.outsL:=by
 intro c;induction c with
 |seq a b g p=>
  intro i h;simp only[AC.outs,bD]at h;exact List.mem_append.2 (h.elim (λh=> .inl (g i h)) λh=> .inr (p i h))
 |cond c a b g p=>
  intro i h;simp only[AC.outs,bD]at h;exact List.mem_append.2 (h.elim (λh=> .inl (g i h)) λh=> .inr (p i h))
 |block id b s=>
  intro i h;simp only[AC.outs,bB]at h;exact List.mem_filter.2 ⟨s i h.1,h.2⟩
 |loop b s=>intro i h;exact s i h
 |exit j=>intro i h;simp[AC.outs]at h;simp[AC.outsL,h]
 |_=>intro i h;simp[AC.outs]at h
def AC.noJump (c:AC):Bool:=c.outsL.all λi=>Zc (i<G4)
theorem R6 {c:AC}(h:c.noJump=Za)(g:c.outs i=Za):i<G4:=by
 have:=List.all_eq_true.1 h i (ay0 c i g);exact of_decide_eq_true this
def wV :Code->List Nat
 | .seq a b=>wV a++wV b
 | .label l=>[l]
 |_=>[]
theorem Ip : ∀(c:Code) (l:Nat),l∉wV c->findLabel c l=Y:=by
 intro c;induction c with
 |seq a b g p=>
  intro l h;simp only[wV,List.mem_append,not_or]at h;simp only[findLabel,g l h.1,p l h.2]
 |label s=>
  intro l h;simp only[wV,List.mem_singleton]at h;simp only[findLabel];rw[zF (by simpa using λe=>h e.symm)]
 |_=>intro l h;rfl
def Lm (l:Nat):Code->Bool
 | .goto g=>g==l
 | .seq a b| .cond _ a b=>Lm l a||Lm l b
 | .block _ b| .loop b| .scope b=>Lm l b
 |_=>Zb
def Jf :Code->Option Nat
 | .label l=>O l
 |_=>Y
theorem Uf {l:Nat}(h:Jf c=O l):c= .label l:=by
 cases c<;>simp[Jf]at h;rw[h]
def mf :Code->Option Nat
 | .seq a b=>match Jf a with
  |some l=>if Lm l b then O l else mf b
  |none=>mf b
 |_=>Y
def EF (l:Nat):Nat:=G4+2*l
def B3 (l:Nat):Nat:=G4+2*l+1
def aJ7 (l:Nat)(b:AC):AC:= .block (B3 l) (.loop (.block (EF l) (.seq b (.exit (B3 l)))))
def Lr (a b:Code):Bool:=match mf b with
 |some l=> !(wV a).contains l
 |none=>Za
def uL (x:Option AC):Option AC×Option AC:=(x,x)
def bd6 :Option AC->Option AC->Option AC
 |some a,O b=>O (.seq a b)
 |_,_=>Y
def Yy (a b:Code)(g h sb:Option AC):Option AC:=match Jf a with
 |some l=>if Lm l b then h.map (aJ7 l)else if Lr a b then sb.map (.seq .skip)else Y
 |none=>match g,sb with
  |some x,O y=>if Lr a b&&((mf b).isNone||x.noJump)then O (.seq x y)else Y
  |_,_=>Y
def QF (P:Program)(N:Nat):Code->Option AC×Option AC
 | .skip=>uL (O .skip)
 | .label _=>uL (O .skip)
 | .region _ ops draw=>uL (if draw then match MZ P N ops ops.toList with
   |some l=>if Gk l&&P.follows .mixedOrders then(match Jk l l.length [] []with
    |some g=>O (.sched g)
    |none=>O (.draw l))else Y
   |none=>Y
  else(LW P N ops ops.toList).map .region)
 | .seq a b=>(bd6 (QF P N a).1 (QF P N b).1,Yy a b (QF P N a).1 (QF P N b).1 (QF P N b).2)
 | .cond c a b=>uL (match Dl c,(QF P N a).1,(QF P N b).1 with
  |some c,O a,O b=>O (.cond c a b)
  |_,_,_=>Y)
 | .block id b=>uL (if id<G4 then((QF P N b).1).map (.block id)else Y)
 | .loop b=>uL (((QF P N b).1).map .loop)
 | .scope b=>uL (match(QF P N b).2 with
  |some h=>if h.noJump then O h else Y
  |none=>Y)
 | .exit id=>uL (if id<G4 then O (.exit id)else Y)
 | .goto l=>uL (O (.exit (EF l)))
 | .ret=>uL (O .ret)
 |_=>uL Y
def qg (P:Program)(N:Nat)(c:Code):Option AC:=(QF P N c).1
def UQ (P:Program)(N:Nat)(c:Code):Option AC:=(QF P N c).2
section
variable {P:Program} {T:mE} {ops:Array Oper} {B:Base P} {N:Nat}
theorem NG : ∀{l:List Oper} {al:DL},MZ P N ops l=O al->l.length=al.length/\∀(i:Nat) o,l[i]?=O o->∃x,al[i]?=O (x,(o.after.toList.filter (Region.binds .any ·)).map (·.on))/\M0 P N ops o=O x
 |[],al,h=>by
  simp[MZ]at h;subst h;exact⟨rfl,λi o h=>by simp at h⟩
 |o::l,al,h=>by
  simp only[MZ]at h;split at h
  .rename_i x r p s;injection h with h
   subst h;obtain⟨u,A⟩:=NG s;refine⟨by simp[u],λi C g=> ?_⟩;cases i with
   |zero=>simp at g;subst g;exact⟨x,rfl,p⟩
   |succ i=>simp at g;simpa using A i C g
  .cases h
theorem aI5 {al:DL}(h:MZ P N ops ops.toList=O al):Fits P N ops al:=by
 obtain⟨A,s⟩:=NG h;refine⟨by simpa using A,λi o p=> ?_,λi o p q=> ?_⟩
 .obtain⟨x,g,u⟩:=s i o (by simpa using p);refine⟨x, ?_,u⟩;have:li al i=(o.after.toList.filter (Region.binds .any ·)).map (·.on):=by simp[li,g]
  rw[this];exact g
 .obtain⟨x,g,u⟩:=s i o (by simpa using p);have:li al i=(o.after.toList.filter (Region.binds .any ·)).map (·.on):=by simp[li,g]
  rw[this];simp[and_assoc]
theorem UW {b:Code}{f:(AExit->cm->Hp->Prop)->cm->Hp->Prop}
  (hb: ∀(Q:AExit->cm->Hp->Prop) (e:cm) (Z:Hp) (μ:Mu) (a:Act) (w:World),f Q e Z->R B μ Z w->ig μ N e a.tmps->a.defers=[]->b.wp P (wZ B N μ w Q) a w)
  {Q:AExit->cm->Hp->Prop} {μ0:Mu} {X:World} {n:Nat}   {μ:Mu}   (h:nZ f Q n e Z) (hR:R B μ Z w) (he:ig μ N e a.tmps) (hd:a.defers=[]) (A:μ0.le μ) (p:Below B X w):
  (Code.loop b).wp P (wZ B N μ0 X Q) a w:=by
 intro bf k cs
 have key: ∀n e Z μ a w,nZ f Q n e Z->R B μ Z w->ig μ N e a.tmps->a.defers=[]->μ0.le μ->Below B X w->
   ∃x E W,wZ B N μ0 X Q x E W/\Arrives P (lone (bf.at a (.code b:: .inLoop b::k)) cs w) bf k cs x E W:=by
  intro n;induction n with
  |zero=>intro e Z μ a w h;exact h.elim
  |succ n ih=>
   intro e Z μ a w h hR he hd A p;simp only[nZ]at h;obtain⟨x,F,w₁,s,g⟩:=hb _ e Z μ a w h hR he hd bf (.inLoop b::k) cs;obtain⟨ax,H,Z1,μ1,C,s,J,L,M,U,V⟩:=s;cases ax with
   |normal=>
    cases x<;>simp[B0]at C;obtain⟨x₂,a₂,w₂,hq₂,u⟩:=ih H Z1 μ1 F w₁ s L M U (Mu.le_trans A J) (p.trans V);exact⟨x₂,a₂,w₂,hq₂, .of_steps (Steps.trans g (.one step_inLoop)) u⟩
   |exit id=>
    cases x with
    |exit j=>
     obtain⟨rfl,hj⟩:=C;exact⟨.exit id,F,w₁,⟨.exit id,H,Z1,μ1,⟨rfl,hj⟩,s,Mu.le_trans A J,L,M,U,p.trans V⟩, .pass (x:= .inLoop b) rfl (λ_ _=> .inl (by simp)) g⟩
    |goto l=>exact⟨.goto l,F,w₁,⟨.exit id,H,Z1,μ1,C,s,Mu.le_trans A J,L,M,U,p.trans V⟩,λk' hk=>g k' (by simp[gotoIn,hk])⟩
    |_=>exact C.elim
   |ret=>
    cases x<;>simp[B0]at C;exact⟨.ret,F,w₁,⟨.ret,H,Z1,μ1,trivial,s,Mu.le_trans A J,L,M,U,p.trans V⟩, .pass (x:= .inLoop b) rfl (λ_ _=> .inl (by simp)) g⟩
 obtain⟨x,E,W,s,g⟩:=key n e Z μ a w h hR he hd A p;exact⟨x,E,W,s, .of_steps (.one step_loop) g⟩
theorem Iz {is:List Nat}{Z:Hp}: ∀{chk:List (Nat×(Hp->Prop))},B5 is Z chk->∀i c,(i,c)∈chk->i∈is->c Z
 |[],_,i,c,h,_=>by cases h
 |(j,d)::r,g,i,c,h,p=>by
  simp only[B5]at g;rcases List.mem_cons.1 h with h|h
  .injection h with s u
   subst s u;rw[zE (by simpa using p)]at g;exact g.1
  .split at g
   .exact Iz g.2 i c h p
   .exact Iz g i c h p
theorem CZ {al:DL}{m:Nat}{Z:Hp}: ∀{chk:List (Nat×(Hp->Prop))},(∀i c,(i,c)∈chk->AZ al i m=Zb->c Z)->G5 al m Z chk
 |[],_=>trivial
 |(j,d)::r,h=>by
  simp only[G5];split
  .exact CZ λi c g=>h i c (aB _ g)
  .rename_i p;exact⟨h j d (aD ..) (by simpa using p),CZ λi c g=>h i c (aB _ g)⟩
theorem WD {op:AOp}{k s:Value->Hp->Prop}(p:yM T)(g: ∀v Z',k v Z'->s v Z')(h:cc T op e Z k):cc T op e Z s:=by
 unfold cc at*;cases op<;>simp only at h⊢
 case call f xs=>exact p _ _ _ _ _ g h
 case callv f xs=>
  split at h
  .exact p _ _ _ _ _ g h
  .exact h.elim
 all_goals
  split at h
  .exact g _ _ h
  .exact h.elim
theorem It (L:yM T){Q:cm->Hp->Prop}{al:DL}: ∀(f:Nat) (done s:List Nat) (C:List SItem) (chk A:List (Nat×(Hp->Prop))) (e:cm) (Z:Hp),Jk al f done s=O C->UV T Q C A e Z->
  (∀i c,(i,c)∈chk->i∈s)->(∀i c,(i,c)∈chk->at7 al i=Za->(i,c)∈A)->KK T Q al f done chk e Z
 |0,done,s,C,chk,A,e,Z,h,u,_,_=>by
  simp[Jk]at h;subst h;exact u
 |f+1,done,s,C,chk,A,e,Z,h,u,H,E=>by
  simp only[Jk]at h;simp only[KK];split at h
  .rename_i i hn;split at h
   .rename_i o p ho;obtain⟨r,U,h⟩:=Option.map_eq_some_iff.1 h;subst h;simp only[UV]at u;split at u
    .rename_i g;rw[zE g];simp only[cB,if_false]at u;split at u
     .rename_i v Z1 hrun;refine It L f _ _ _ _ _ _ _ U u (λj c hc=> ?_) (λj c hc F=> ?_)
      .by_cases J:o.op.isLoad=Za
       .rw[zE J]at hc⊢;rcases List.mem_cons.1 hc with hc|hc
        .injection hc with hc _
         subst hc;exact aD ..
        .exact aB _ (H j c hc)
       .rw[zF J]at hc⊢;exact H j c hc
      .by_cases J:o.op.isLoad=Za
       .rw[zE J]at hc;rcases List.mem_cons.1 hc with hc|hc
        .have hj:j=i:=by injection hc
         subst hj;rw[zE (by simp[J,F]),hc];exact aD ..
        .split
         .exact aB _ (E j c hc F)
         .exact E j c hc F
       .rw[zF J]at hc;split
        .exact aB _ (E j c hc F)
        .exact E j c hc F
     .exact u.elim
    .rename_i g;rw[zF g];refine It L f _ _ _ _ _ _ _ U u (λj c hc=> ?_) E;split
     .exact aB _ (H j c hc)
     .exact H j c hc
   .cases h
  .rename_i hn;split at h
   .rename_i M;rw[M];injection h with h
    subst h;exact u
   .rename_i m M;rw[M];simp only[Rd];split at h
    .rename_i o p ho;obtain⟨r,U,h⟩:=Option.map_eq_some_iff.1 h;subst h
     have X:X1 al m=Za:=by
      have:=(C5.1 (show m∈dj al done by rw[M];exact aD ..)).2.2.2;simpa[GG,X1,ho]using this
     have W:m<al.length:=(C5.1 (show m∈dj al done by rw[M];exact aD ..)).1;simp only[UV]at u⊢;split at u
     .rename_i g;rw[zE g];simp only[if_true]at u;refine WD L (λv Z' F=> ?_) u;refine⟨CZ λi c hc hb=> ?_,It L f _ _ _ _ _ _ _ U F.2 H E⟩;have V:at7 al i=Za:=List.any_eq_true.2 ⟨m,List.mem_range.2 W,by simp[X,hb]⟩;exact Iz F.1 i c (E i c hc V) (by simp[H i c hc,hb])
     .rename_i g;rw[zF g];exact It L f _ _ _ _ _ _ _ U u H E
    .cases h
   .cases h
def Nw (l:Nat)(J:Act->World->Prop)(Q:Exit->Act->World->Prop):Exit->Act->World->Prop
 | .goto g,a,w=>(g=l/\J a w)∨(g≠l/\Q (.goto g) a w)
 |x,a,w=>Q x a w
theorem WJ {rest:Code}{Q:Exit->Act->World->Prop}(l:Nat)(J:Nat->Act->World->Prop)(hf:findLabel c l=O rest)(hQ: ∀l' a w,¬Q (.goto l') a w)
  (first:c.wp P (Nw l (λa w=> ∃n,J n a w) Q) a w) (E: ∀n a w,J n a w->rest.wp P (Nw l (λa w=> ∃m,m<n/\J m a w) Q) a w):(Code.scope c).wp P Q a w:=by
 intro b k F;have hg:gotoIn l (.inScope c::k)=O (.code rest:: .inScope c::k):=by simp[gotoIn,hf]
 have W: ∀n a w,J n a w->∃e a' w',Q e a' w'/\Arrives P (lone (b.at a (.code rest:: .inScope c::k)) F w) b k F e a' w':=by
  intro n;induction n using Nat.strongRecOn with
  |_ n ih=>
   intro a w hJ;obtain⟨e,s,u,h,g⟩:=E n a w hJ b (.inScope c::k) F;cases e with
   |normal=>exact⟨.normal,s,u,h,Steps.trans g (.one step_inScope)⟩
   |exit id=>exact⟨.exit id,s,u,h,λV M=>g V (by simp[exitTo,M])⟩
   |goto l'=>
    rcases h with⟨rfl,m,U,A⟩|⟨_,h⟩
    .obtain⟨L,H,X,C,p⟩:=ih m U s u A;exact⟨L,H,X,C, .of_steps (g _ hg) p⟩
    .exact(hQ _ _ _ h).elim
   |ret=>exact⟨_,s,u,h,g⟩
   |panic ch=>exact⟨_,s,u,h,g⟩
   |outgrown=>exact⟨_,s,u,h,g⟩
 obtain⟨e,s,u,h,g⟩:=first b (.inScope c::k) F
 cases e with
 |normal=>exact⟨.normal,s,u,h, .head step_scope (Steps.trans g (.one step_inScope))⟩
 |exit id=>exact⟨.exit id,s,u,h,λV M=> .head step_scope (g V (by simp[exitTo,M]))⟩
 |goto l'=>
  rcases h with⟨rfl,n,A⟩|⟨_,h⟩
  .obtain⟨L,H,X,C,p⟩:=W n s u A;exact⟨L,H,X,C, .of_steps (.head step_scope (g _ hg)) p⟩
  .exact(hQ _ _ _ h).elim
 |ret=>exact⟨_,s,u,h, .of_steps (.one step_scope) g⟩
 |panic ch=>exact⟨_,s,u,h, .of_steps (.one step_scope) g⟩
 |outgrown=>exact⟨_,s,u,h, .of_steps (.one step_scope) g⟩
def Jst {P:Program}(B:Base P)(N:Nat)(h:Mu)(g:World)(L:Nat->cm->Hp->Prop)(n:Nat):Act->World->Prop:=λa w=>
 ∃e Z μ,L n e Z/\h.le μ/\R B μ Z w/\ig μ N e a.tmps/\a.defers=[]/\Below B g w
def Aok (P:Program)(T:mE)(B:Base P)(N:Nat)(c:Code):Prop:= ∀(g:AC),qg P N c=O g->∀(Q:AExit->cm->Hp->Prop) (e:cm) (Z:Hp) (μ:Mu) (a:Act) (w:World),Bv T g Q e Z->
  R B μ Z w->ig μ N e a.tmps->a.defers=[]->c.wp P (wZ B N μ w Q) a w
def YP (P:Program)(T:mE)(B:Base P)(N:Nat)(c:Code):Prop:= ∀(s:AC),UQ P N c=O s->∀(Q:AExit->cm->Hp->Prop),
 (mf c=Y->∀(e:cm) (Z:Hp) (μ:Mu) (a:Act) (w:World),Bv T s Q e Z->R B μ Z w->ig μ N e a.tmps->a.defers=[]->c.wp P (wZ B N μ w Q) a w)/\
 (∀l,mf c=O l->∃g L,findLabel c l=O g/\∀p h,
  (∀(e:cm) (Z:Hp) (μ:Mu) (a:Act) (w:World),Bv T s Q e Z->R B μ Z w->ig μ N e a.tmps->a.defers=[]->p.le μ->Below B h w->c.wp P (Nw l (λa w=> ∃n,Jst B N p h L n a w) (wZ B N p h Q)) a w)/\
  (∀n a w,Jst B N p h L n a w->g.wp P (Nw l (λa w=> ∃m,m<n/\Jst B N p h L m a w) (wZ B N p h Q)) a w))
theorem YP.of (u:UQ P N c=qg P N c)(A:mf c=Y)(h:Aok P T B N c):YP P T B N c:=λs g Q=>
 ⟨λ_=>h s (u▸g) Q,λl p=>by rw[A]at p;cases p⟩
theorem MK {μ:Mu}{Q:AExit->cm->Hp->Prop}{p:Act}{w':World}(h:wZ B N μ w Q x p w')(C:x≠ .normal): ∃ax e' Z' g,ax≠ .normal/\B0 ax x/\Q ax e' Z'/\μ.le g/\R B g Z' w'/\ig g N e' p.tmps/\p.defers=[]/\Below B w w':=by
 obtain⟨ax,e',Z',g,s,u,A⟩:=h;refine⟨ax,e',Z',g, ?_,s,u,A⟩;rintro rfl;cases x<;>first|exact s.elim|exact C rfl
theorem aM1 {μ:Mu}{Q Q':AExit->cm->Hp->Prop}{g:Act}{w':World}(h:wZ B N μ w Q x g w')(C: ∀ax e Z,B0 ax x->Q ax e Z->Q' ax e Z):wZ B N μ w Q' x g w':=by
 obtain⟨ax,s,Z',E,p,u,A⟩:=h;exact⟨ax,s,Z',E,p,C _ _ _ p u,A⟩
theorem Yu {x y:Code}{μ:Mu}{Q1:AExit->cm->Hp->Prop}{F:Exit->Act->World->Prop}(h:x.wp P (wZ B N μ w Q1) a w)
  (W: ∀e Z u g w',Q1 .normal e Z->μ.le u->R B u Z w'->ig u N e g.tmps->g.defers=[]->Below B w w'->y.wp P F g w')
  (s: ∀x g w',x≠ .normal->wZ B N μ w Q1 x g w'->F x g w'):(Code.seq x y).wp P F a w:=by
 refine wp_seq (wp_mono h λX g w' p=> ?_);cases X with
 |normal=>
  obtain⟨C,E,Z',u,A,H,J,L,M,U,V⟩:=p;cases C with
  |normal=>exact W E Z' u g w' H J L M U V
  |exit i=>exact A.elim
  |ret=>exact A.elim
 |exit i=>exact s _ g w' (by simp) p
 |goto l=>exact s _ g w' (by simp) p
 |ret=>exact s _ g w' (by simp) p
 |panic ch=>exact s _ g w' (by simp) p
 |outgrown=>exact s _ g w' (by simp) p
theorem VM {l:Nat}{J:Act->World->Prop}{F:Exit->Act->World->Prop}(p:x= .goto l->J a w)(h:x≠ .goto l->F x a w):Nw l J F x a w:=by
 cases x with
 |goto s=>
  by_cases g:s=l
  .subst g;exact .inl ⟨rfl,p rfl⟩
  .exact .inr ⟨g,h (by simpa using g)⟩
 |_=>exact h (by simp)
theorem PK {l:Nat}{J J':Act->World->Prop}{F F':Exit->Act->World->Prop}(u: ∀a w,J a w->J' a w)(s: ∀x a w,F x a w->F' x a w)(h:Nw l J F x a w):Nw l J' F' x a w:=by
 cases x with
 |goto A=>
  rcases h with⟨g,p⟩|⟨g,p⟩
  .exact .inl ⟨g,u _ _ p⟩
  .exact .inr ⟨g,s _ _ _ p⟩
 |_=>exact s _ _ _ h
theorem ar1 (hM:yM T)(hT: ∀f,Sim P f (T f)): ∀(c:Code),Aok P T B N c/\YP P T B N c:=by
 intro c;induction c with
 |skip=>
  refine(λA=>⟨A,YP.of rfl rfl A⟩) ?_;intro ac h Q e Z μ a w g s p u;simp[qg,QF,uL]at h;subst h;exact wp_skip ⟨.normal,e,Z,μ,trivial,g,μ.le_refl,s,p,u,Below.refl _ _⟩
 |label l=>
  refine(λA=>⟨A,YP.of rfl rfl A⟩) ?_;intro ac h Q e Z μ a w g s p u;simp[qg,QF,uL]at h;subst h;exact wp_label ⟨.normal,e,Z,μ,trivial,g,μ.le_refl,s,p,u,Below.refl _ _⟩
 |goto l=>
  refine(λA=>⟨A,YP.of rfl rfl A⟩) ?_;intro ac h Q e Z μ a w g s p u;simp[qg,QF,uL]at h;subst h;exact wp_goto ⟨.exit (EF l),e,Z,μ,rfl,g,μ.le_refl,s,p,u,Below.refl _ _⟩
 |region id ops draw=>
  refine(λA=>⟨A,YP.of rfl rfl A⟩) ?_;intro ac h Q e Z μ a w g s p u;simp only[qg,QF,uL]at h;cases draw with
  |false=>
   simp only[cB,if_false]at h;obtain⟨al,J,h⟩:=Option.map_eq_some_iff.1 h;subst h;exact wp_region_list (X6 hT ops.toList al e Z μ a w J g s p u μ.le_refl (Below.refl _ _))
  |true=>
   simp only[if_true]at h;split at h
   .rename_i al J;split at h
    .rename_i h2
     have g:KK T (Q .normal) al al.length [] [] e Z:=by
      split at h
      .rename_i its hits;injection h with h
       subst h;exact It hM al.length [] [] its [] [] e Z hits g (λi c hc=>(by cases hc)) (λi c hc=>(by cases hc))
      .injection h with h
       subst h;exact g
     simp only[bB]at h2;have hF:=aI5 J;have hempty: ∀(val:Nat->Value),mj al e val []=e:=λval=>funext λt=>sH λi hi=>by cases hi
     refine wp_region_any h2.2 ?_;have hl:left al.length []<=al.length:=by unfold left;exact Nat.le_trans (List.length_filter_le _ _) (by simp)
     refine aH5 hT hF h2.1 (e0:=e) ops.size al.length (λ_=>undef) [] [] [] _ Z μ a _ (by rw[hempty];exact g) hl (by rw[hF.len];exact hl) ⟨λi hi=>(by cases hi),λi hi=>(by cases hi),λi hi=>(by cases hi),λi hi=>(by cases hi),λi hi=>(by cases hi)⟩ (by simp) (λi hi=>by simp[hi]) (s.same rfl) (by rw[hempty];exact p) u μ.le_refl (Below.refl _ _).drew
    .cases h
   .cases h
 |seq x y ihx ihy=>
  refine⟨?_, ?_⟩
  .intro ac h Q e Z μ a w g s p u;have h:bd6 (qg P N x) (qg P N y)=O ac:=h;unfold bd6 at h;split at h
   .rename_i ax ay J h2;injection h with h
    subst h;simp only[Bv]at g;have J:qg P N x=O ax:=J;have h2:qg P N y=O ay:=h2;refine Yu (ihx.1 ax J _ e Z μ a w g s p u) (λF Z' H X U hq g1 g2 g3 g4 g5=> ?_) λx' X U hx hp=> ?_
    .exact wp_mono (ihy.1 ay h2 Q F Z' H X U hq g2 g3 g4) λx'' a'' w'' h''=>h''.trans g1 g5
    .obtain⟨E,F,Z',H,h0,h1',W,h3'⟩:=MK hp hx;refine⟨E,F,Z',H,h1', ?_,h3'⟩;cases E with
     |normal=>exact(h0 rfl).elim
     |exit i=>exact W
     |ret=>exact W
   .cases h
  .intro ac h Q;have h:Yy x y (qg P N x) (qg P N y) (UQ P N y)=O ac:=h;unfold Yy at h;split at h
   .rename_i l hl;obtain rfl:=Uf hl;split at h
    .
     rename_i hg;obtain⟨yc,J,h⟩:=Option.map_eq_some_iff.1 h;subst h;have hll:mf (.seq (.label l) y)=O l:=by simp[mf,Jf,hg]
     refine⟨λhn=>(by rw[hll]at hn;cases hn),λl' C=> ?_⟩;rw[hll]at C;injection C with C
     subst C
     let Q1:AExit->cm->Hp->Prop:=λx e Z=>match x with
      | .exit i=>if i=B3 l then Q .normal e Z else Q (.exit i) e Z
      |x=>Q x e Z
     let body:AC:= .block (EF l) (.seq yc (.exit (B3 l)))
     have hne:B3 l≠EF l:=by unfold B3 EF;omega
     have round: ∀(n:Nat) (e:cm) (Z:Hp) (μ:Mu) (a:Act) (w:World) (μ0:Mu) (w0:World),nZ (Bv T body) Q1 (n+1) e Z->R B μ Z w->ig μ N e a.tmps->a.defers=[]->μ0.le μ->Below B w0 w->
       y.wp P (Nw l (λa w=>Jst B N μ0 w0 (λn=>nZ (Bv T body) Q1 n) n a w) (wZ B N μ0 w0 Q)) a w:=by
      intro n e Z μ a w μ0 w0 g s p u hμ hb;simp only[nZ,body,Bv]at g;refine wp_mono (ihy.1 yc J _ e Z μ a w g s p u) λx' X U hp=> ?_
      obtain⟨ax,F,Z',H,q1,q2,q3,q4,q5,q6,q7⟩:=hp;refine VM (λhx=> ?_) λhx=> ?_
      .subst hx;cases ax with
       |exit i=>
        have q1:i=EF l:=q1;subst q1;simp only[if_true]at q2;exact⟨F,Z',H,q2,Mu.le_trans hμ q3,q4,q5,q6,hb.trans q7⟩
       |_=>exact q1.elim
      .cases ax with
       |normal=>
        simp only[zF hne]at q2;simp only[Q1,if_true]at q2;exact⟨.normal,F,Z',H,q1,q2,Mu.le_trans hμ q3,q4,q5,q6,hb.trans q7⟩
       |ret=>exact⟨.ret,F,Z',H,q1,q2,Mu.le_trans hμ q3,q4,q5,q6,hb.trans q7⟩
       |exit i=>
        have hi:i≠EF l/\i≠B3 l:=by
         cases x' with
         |exit j=>
          obtain⟨rfl,hj⟩:=q1;unfold EF B3;omega
         |goto l'=>
          have q1:i=G4+2*l':=q1;have:l'≠l:=λe=>hx (by rw[e])
          unfold EF B3;omega
         |_=>exact q1.elim
        simp only[zF hi.1,Q1,zF hi.2]at q2;exact⟨.exit i,F,Z',H,q1,q2,Mu.le_trans hμ q3,q4,q5,q6,hb.trans q7⟩
     refine⟨.seq .skip y,λn=>nZ (Bv T body) Q1 n,by simp[findLabel],λμ0 w0=>⟨λe Z μ a w g s p u hμ hb=> ?_,λn a w hJ=> ?_⟩⟩
     .have hw': ∃n,nZ (Bv T body) Q1 n e Z:=g
      obtain⟨n,hn⟩:=hw';cases n with
      |zero=>exact hn.elim
      |succ n=>
       refine wp_seq (wp_label ?_);exact wp_mono (round n e Z μ a w μ0 w0 hn s p u hμ hb) λx' X U h'=>PK (λ_ _ h=>⟨n,h⟩) (λ_ _ _ h=>h) h'
     .obtain⟨e,Z,μ,hn,hμ,s,p,u,hb⟩:=hJ;cases n with
      |zero=>exact hn.elim
      |succ n=>
       refine wp_seq (wp_skip ?_);exact wp_mono (round n e Z μ a w μ0 w0 hn s p u hμ hb) λx' X U h'=>PK (λ_ _ h=>⟨n,Nat.lt_succ_self n,h⟩) (λ_ _ _ h=>h) h'
    .
     rename_i hg;split at h
     .rename_i M;obtain⟨yc,J,h⟩:=Option.map_eq_some_iff.1 h;subst h;have hll:mf (.seq (.label l) y)=mf y:=by simp[mf,Jf,hg]
      obtain⟨s1,s2⟩:=ihy.2 yc J Q;refine⟨λhn e Z μ a w g s p u=>wp_seq (wp_label ?_),λl' C=> ?_⟩
      .exact s1 (hll▸hn) e Z μ a w g s p u
      .rw[hll]at C;obtain⟨V,L,hf,hJ⟩:=s2 l' C
       have hlab:findLabel (.seq (.label l) y) l'=O V:=by
        have:findLabel (.label l) l'=Y:=Ip _ _ (by
         unfold Lr at M;rw[C]at M
         simpa using M)
        simp[findLabel,hf]at this⊢;simp[this]
       refine⟨V,L,hlab,λμ0 w0=>⟨λe Z μ a w g s p u hμ hb=>wp_seq (wp_label ?_),(hJ μ0 w0).2⟩⟩;exact(hJ μ0 w0).1 e Z μ a w g s p u hμ hb
     .cases h
   .rename_i hl;split at h
    .rename_i ax ay J h2;split at h
     .rename_i M;rw[bB,bD]at M;obtain⟨M,hnj⟩:=M;injection h with h
      subst h;have hll:mf (.seq x y)=mf y:=by simp[mf,hl]
      obtain⟨s1,s2⟩:=ihy.2 ay h2 Q;refine⟨λhn e Z μ a w g s p u=> ?_,λl' C=> ?_⟩
      .simp only[Bv]at g;refine Yu (ihx.1 ax J _ e Z μ a w g s p u) (λF Z' H X U hq g1 g2 g3 g4 g5=> ?_) λx' X U hx hp=> ?_
       .exact wp_mono (s1 (hll▸hn) F Z' H X U hq g2 g3 g4) λx'' a'' w'' h''=>h''.trans g1 g5
       .obtain⟨E,F,Z',H,h0,h1',W,h3'⟩:=MK hp hx;refine⟨E,F,Z',H,h1', ?_,h3'⟩;cases E with
        |normal=>exact(h0 rfl).elim
        |exit i=>exact W
        |ret=>exact W
      .rw[hll]at C;obtain⟨V,L,hf,hJ⟩:=s2 l' C
       have hlab:findLabel (.seq x y) l'=O V:=by
        have:findLabel x l'=Y:=Ip _ _ (by
         unfold Lr at M;rw[C]at M
         simpa using M)
        simp[findLabel,hf,this]
       have hnj:ax.noJump=Za:=by
        rcases hnj with h|h
        .rw[C]at h;cases h
        .exact h
       refine⟨V,L,hlab,λμ0 w0=>⟨λe Z μ a w g s p u hμ hb=> ?_,(hJ μ0 w0).2⟩⟩;simp only[Bv]at g;refine Yu (ihx.1 ax J _ e Z μ a w (W6 hM _ _ e Z g) s p u) (λF Z' H X U hq g1 g2 g3 g4 g5=> ?_) λx' X U hx hp=> ?_
       .exact(hJ μ0 w0).1 F Z' H X U hq.2 g2 g3 g4 (Mu.le_trans hμ g1) (hb.trans g5)
       .obtain⟨E,F,Z',H,h0,h1',W,h3',h4',h5',h6',h7'⟩:=MK hp hx;refine VM (λhg=> ?_) λ_=> ?_
        .subst hg;cases E with
         |exit i=>
          have k1:i=G4+2*l':=h1';have:=R6 hnj (W.1 i rfl);omega
         |_=>exact h1'.elim
        .refine⟨E,F,Z',H,h1', ?_,Mu.le_trans hμ h3',h4',h5',h6',hb.trans h7'⟩;cases E with
         |normal=>exact(h0 rfl).elim
         |exit i=>exact W.2
         |ret=>exact W.2
     .cases h
    .cases h
 |cond c x y ihx ihy=>
  refine(λA=>⟨A,YP.of rfl rfl A⟩) ?_;intro ac h Q e Z μ a w g s p u;simp only[qg,QF,uL]at h;split at h
  .rename_i c' ax ay h0 J h2;injection h with h
   subst h;obtain⟨rfl,k0⟩:=au h0;have hv:=p.ev k0;simp only[Bv]at g;split at g
   .rename_i hb;rw[hb]at hv;exact wp_cond_true hv.bool_inv (ihx.1 ax J Q e Z μ a w g s p u)
   .rename_i hb;rw[hb]at hv;exact wp_cond_false hv.bool_inv (ihy.1 ay h2 Q e Z μ a w g s p u)
   .exact g.elim
  .cases h
 |block id b ih=>
  refine(λA=>⟨A,YP.of rfl rfl A⟩) ?_;intro ac h Q e Z μ a w g s p u;simp only[qg,QF,uL]at h;split at h
  .rename_i hlt;obtain⟨ab,J,h⟩:=Option.map_eq_some_iff.1 h;subst h;simp only[Bv]at g;refine wp_block (wp_mono (ih.1 ab J _ e Z μ a w g s p u) λx X U hx=> ?_);obtain⟨E,F,Z',H,hxr,hq,g1,g2,g3,g4,g5⟩:=hx;cases E with
   |normal=>
    cases x<;>simp[B0]at hxr;exact⟨.normal,F,Z',H,trivial,hq,g1,g2,g3,g4,g5⟩
   |exit i=>
    simp only at hq;cases x with
    |exit j=>
     obtain⟨rfl,hj⟩:=hxr;simp only[Exit.inBlock];split
     .rename_i hid;rw[zE hid]at hq;exact⟨.normal,F,Z',H,trivial,hq,g1,g2,g3,g4,g5⟩
     .rename_i hid;rw[zF hid]at hq;exact⟨.exit i,F,Z',H,⟨rfl,hj⟩,hq,g1,g2,g3,g4,g5⟩
    |goto l=>
     have hxr':i=G4+2*l:=hxr;rw[Zh]at hq;exact⟨.exit i,F,Z',H,hxr,hq,g1,g2,g3,g4,g5⟩
    |_=>exact hxr.elim
   |ret=>
    cases x<;>simp[B0]at hxr;exact⟨.ret,F,Z',H,trivial,hq,g1,g2,g3,g4,g5⟩
  .cases h
 |loop b ih=>
  refine(λA=>⟨A,YP.of rfl rfl A⟩) ?_;intro ac h Q e Z μ a w g s p u;simp only[qg,QF,uL]at h;obtain⟨ab,J,h⟩:=Option.map_eq_some_iff.1 h;subst h;simp only[Bv]at g;obtain⟨n,hn⟩:=g;exact UW (f:=Bv T ab) (λQ e Z μ a w hf=>ih.1 ab J Q e Z μ a w hf) hn s p u μ.le_refl (Below.refl _ _)
 |scope b ih=>
  refine(λA=>⟨A,YP.of rfl rfl A⟩) ?_;intro ac h Q e Z μ a w g s p u;simp only[qg,QF,uL]at h;split at h
  .rename_i ac' J;split at h
   .rename_i hno;injection h with h
    subst h;have hw':=W6 hM _ Q e Z g
    have hng: ∀(l':Nat) (a:Act) (U:World),¬wZ B N μ w (Xh ac' Q) (.goto l') a U:=by
     rintro l' a U ⟨ax,F,Z',H,k1,k2,_⟩;cases ax with
     |exit i=>
      have k1:i=G4+2*l':=k1;have:=R6 hno (k2.1 i rfl);omega
     |_=>exact k1.elim
    have fin: ∀{x:Exit} {X:Act} {U:World},wZ B N μ w (Xh ac' Q) x X U->wZ B N μ w Q x X U:=λh=>aM1 h λ_ _ _ _ h=>h.2
    obtain⟨s1,s2⟩:=ih.2 ac' J (Xh ac' Q);cases hl:mf b with
    |none=>
     refine wp_scope_straight (wp_mono (s1 hl e Z μ a w hw' s p u) λx X U hx=> ?_);cases x with
     |goto l'=>exact(hng l' X U hx).elim
     |_=>exact fin hx
    |some l=>
     obtain⟨V,L,hf,hJ⟩:=s2 l hl;obtain⟨j1,j2⟩:=hJ μ w;refine wp_mono (WJ l (Jst B N μ w L) hf hng (j1 e Z μ a w hw' s p u μ.le_refl (Below.refl _ _)) j2) λx X U hx=>fin hx
   .cases h
  .cases h
 |exit id=>
  refine(λA=>⟨A,YP.of rfl rfl A⟩) ?_;intro ac h Q e Z μ a w g s p u;simp only[qg,QF,uL]at h;split at h
  .rename_i hlt;injection h with h
   subst h;exact wp_exit ⟨.exit id,e,Z,μ,⟨rfl,hlt⟩,g,μ.le_refl,s,p,u,Below.refl _ _⟩
  .cases h
 |ret=>
  refine(λA=>⟨A,YP.of rfl rfl A⟩) ?_;intro ac h Q e Z μ a w g s p u;simp[qg,QF,uL]at h;subst h;exact wp_ret ⟨.ret,e,Z,μ,trivial,g,μ.le_refl,s,p,u,Below.refl _ _⟩
 |_=>
  refine(λA=>⟨A,YP.of rfl rfl A⟩) ?_;intro ac h;simp[qg,QF,uL]at h
theorem aG7 (p:yM T)(u: ∀f,Sim P f (T f))(c:Code)(g:AC)(h:qg P N c=O g)(Q:AExit->cm->Hp->Prop)(e:cm)(Z:Hp)(μ:Mu)(a:Act)(w:World)(E:Bv T g Q e Z)
  (s:R B μ Z w) (C:ig μ N e a.tmps) (A:a.defers=[]):c.wp P (wZ B N μ w Q) a w:=(ar1 p u c).1 g h Q e Z μ a w E s C A
end
end
section
open List renaming mapM_cons -> bD, getElem?_eq_getElem -> cB
open Result renaming andThen_ok -> aB
open Sem renaming run_bind -> aD, run_pure -> bB
open Go.RowKit
def QG (P:Program):List ResultVar->Option (List ARes)
 |[]=>O []
 | .tmp t::r=>(QG P r).map (.tmp t:: ·)
 | .cell a t::r=>match DU P t,ph P t,QG P r with
  |some Za,O n,O r=>O (.cellN a n::r)
  |some Zb,O _,O r=>O (.cell a::r)
  |_,_,_=>Y
def am8 (P:Program)(f:FuncId):Option AFn:=match P.funcs[f]? with
 |some g=>match g.body,XM P f with
  |some c,true=>match qg P g.ntmps c,QG P g.results.toList with
   |some h,O rs=>O ⟨g.ntmps,rs,h⟩
   |_,_=>Y
  |_,_=>Y
 |none=>Y
section
variable {P:Program} {T:mE} {B:Base P} {N:Nat} {μ:Mu} {Z:Hp} {w:World} {e:cm}
def Hy (g:Array Value):ResultVar->Sem Value
 | .tmp t=>pure (g.getD t undef)
 | .cell a t=>do loadVar t (<-asAddr (g.getD a undef))
theorem Yq (p:Func)(g:Array Value):results p g=(do
  let vs<-p.results.mapM (Hy g)
  pure (if h:vs.size=1 then vs[0]else .tuple vs)):=rfl
theorem UD {p:Array Value}(W:ig μ N e p)(V:R B μ Z w): ∀(l:List ResultVar) (rs:List ARes) (vs:List Value),QG P l=O rs->MP e Z rs=O vs->
  ∃u,(l.mapM (Hy p)).run P w= .ok u w/\F2 (VR μ) vs u
 |[],rs,vs,h,s=>by
  simp[QG]at h;subst h;simp[MP]at s;subst s;exact⟨[],by simp, .nil⟩
 | .tmp t::l,rs,vs,h,s=>by
  simp only[QG]at h;obtain⟨C,H,h⟩:=Option.map_eq_some_iff.1 h;subst h;simp only[MP]at s;split at s
  .rename_i v E J L;injection s with s
   subst s;simp[Qh]at J;subst J;obtain⟨u,A,M⟩:=UD W V l C E H L;refine⟨p.getD t undef::u, ?_, .cons (W.2 t) M⟩;have U:(Hy p (.tmp t)).run P w= .ok (p.getD t undef) w:=rfl;simp only[bD,aD,bB,aB,U,A]
  .cases s
 | .cell a t::l,rs,vs,h,s=>by
  simp only[QG]at h;have hv:=W.2 a;split at h
  .rename_i n C H J L;injection h with h
   subst h;simp only[MP]at s;split at s
   .rename_i v E A M;injection s with s
    subst s;obtain⟨u,h6,h7⟩:=UD W V l C E L M;simp only[Qh]at A;split at A
    .rename_i b o hb;rw[hb]at hv;obtain⟨g,X,hq⟩:=hv.ptr_inv;obtain⟨x,hx,A⟩:=Option.bind_eq_some_iff.1 A;obtain⟨cs,hcs,rfl⟩:=Option.map_eq_some_iff.1 A;obtain⟨F,k1,k2⟩:=V.reads hx X hcs;refine⟨.agg F.toArray::u, ?_, .cons (.agg k2) h7⟩
     have U:(Hy p (.cell a t)).run P w= .ok (.agg F.toArray) w:=by
      simp only[Hy,aD,hq,asAddr,bB,aB,loadVar,Jr H,if_true,qf J,k1 P w rfl]
     simp only[bD,aD,bB,aB,U,h6]
    .cases A
   .cases s
  .rename_i n C H J L;injection h with h
   subst h;simp only[MP]at s;split at s
   .rename_i v E A M;injection s with s
    subst s;obtain⟨u,h6,h7⟩:=UD W V l C E L M;simp only[Qh]at A;split at A
    .rename_i b o hb;rw[hb]at hv;obtain⟨g,X,hq⟩:=hv.ptr_inv;obtain⟨x,hx,A⟩:=Option.bind_eq_some_iff.1 A;obtain⟨v',k1,k2⟩:=(V.get hx X.1).cell X.2 o v A;refine⟨v'::u, ?_, .cons k2 h7⟩
     have U:(Hy p (.cell a t)).run P w= .ok v' w:=by
      simp only[Hy,aD,hq,asAddr,bB,aB,loadVar,Jr H,Bool.false_eq_true,if_false,run_load,k1]
     simp only[bD,aD,bB,aB,U,h6]
    .cases A
   .cases s
  .cases h
theorem as6 {f:FuncId}{af:AFn}(h:am8 P f=O af)(hM:yM T)(hT: ∀g,Sim P g (T g)):Sim P f (wpF T af):=by
 unfold am8 at h;split at h
 .rename_i C F;split at h
  .rename_i c hb A;split at h
   .rename_i ac rs h1 h2;injection h with h
    subst h;intro B μ Z w s p K hw hR ha;obtain⟨U,hw⟩:=hw
    have E:SN P f:=by
     unfold XM at A;rw[F]at A;simp only[Bool.and_eq_true,Bool.not_eq_true']at A;exact⟨C,F,A.1,A.2⟩
    refine⟨E,calls_of_wp F hb ?_⟩;have hsz:p.size=s.length:=by simpa using ha.length.symm
    have M:ig μ C.ntmps (cm.of s) (p++Array.replicate (C.ntmps-p.size) undef):=by
     refine⟨by simp only[Array.size_append,Array.size_replicate];simp only at U;omega,λt=> ?_⟩;unfold cm.of;by_cases ht:t<s.length
     .obtain⟨v',h3,h4⟩:=ha.get t s[t] (cB ht)
      have:(p++Array.replicate (C.ntmps-p.size) undef).getD t undef=v':=by
       simp only[Array.getD_eq_getD_getElem?];rw[Array.getElem?_append_left (by omega)];have:p[t]?=O v':=by simpa using h3
       simp[this]
      rw[this,cB ht];exact h4
     .have:(p++Array.replicate (C.ntmps-p.size) undef).getD t undef=undef:=by
       simp only[Array.getD_eq_getD_getElem?];rw[Array.getElem?_append_right (by omega),Array.getElem?_replicate];split<;>rfl
      rw[this,List.getElem?_eq_none (by omega)];exact VR.undef μ
    refine wp_mono (aG7 hM hT c ac h1 _ _ Z μ ⟨_,[]⟩ w hw hR M rfl) λx a' w' hx=> ?_
    obtain⟨ax,e',Z',μ',V,H,g1,g2,g3,g4,g5⟩:=hx
    have L:(match MP e' Z' rs with
      |some W=>K (D2 W) Z'
      |none=>False)->a'.defers=[]/\∃v,(results C a'.tmps).run P w'= .ok v w'/\bh5 P B μ w K (.returned v) w':=by
     intro H;refine⟨g4, ?_⟩;split at H
     .rename_i W X;obtain⟨J,k1,k2⟩:=UD (P:=P) g3 g2 C.results.toList rs W h2 X;have hl:=k2.length;refine⟨D2 J, ?_,_,Z',_,μ',rfl,H,g1,g2, ?_,g5,rfl⟩
      .rw[Yq,Array.mapM_eq_mapM_toList];simp only[aD,Sem.run_map,k1,aB,bB]
       congr 1
       match J,hl with
       |[],_=>rfl
       |[v],_=>rfl
       |v::u::r,_=>simp[D2]
      .match W,J,k2 with
       |[],_, .nil=>exact .tuple .nil
       |[v],_, .cons h .nil=>exact h
       |v::u::r,_, .cons h (.cons h' t)=>exact .tuple (.cons h (.cons h' t))
     .exact H.elim
    cases ax with
    |normal=>
     cases x<;>simp[B0]at V;exact L H
    |exit id=>exact H.elim
    |ret=>
     cases x<;>simp[B0]at V;exact L H
   .cases h
  .cases h
 .cases h
end
end
section
open Go.RowKit
section
variable {P:Program} {f:FuncId} {S S':Tt}
end
def Hp.Ok (Z:Hp):Prop:= ∀b x,Z.m b=O x->b<Z.n
section
variable {P:Program} {f:FuncId} {S S':Tt} {Z Z1:Hp} {K:Value->Hp->Prop}
end
section
variable {T:mE}
end
end
section
section
variable {T:mE} {Q:AExit->cm->Hp->Prop} {q:cm->Hp->Prop} {e:cm} {Z Z':Hp} {a b:AC} {k:Value->Hp->Prop} {v:Value} {K:Value->Hp->Prop}
end
end
section
def aT1 (s:Tt):Prop:= ∀g Z (K K':Value->Hp->Prop),(∀r Z',K r Z'->K' r Z')->s g Z K->s g Z K'
section
variable {T:mE} {Q:AExit->cm->Hp->Prop} {e:cm} {Z:Hp} {b:AC} {I:cm->Hp->Prop} {m:cm->Hp->Nat} {e0:cm} {Z0:Hp}
end
section
variable {k:IntKind} {a b:Int}
end
section
variable {a b c d:Value} {l:List Value}
end
section
variable {Z:Hp} {x y:Blk} {i b o:Nat} {z:Option Blk}
end
section
variable {e:cm} {Z:Hp} {rs:List ARes} {t n b o:Nat}
end
section
variable {T:mE} {e:cm} {Z:Hp} {k:Value->Hp->Prop} {q:cm->Hp->Prop}
end
section
variable {T:mE} {q:cm->Hp->Prop} {r:List SItem} {e:cm} {Z:Hp} {i:Nat} {d:Option Nat} {kp:Bool} {is:List Nat} {chk:List (Nat×(Hp->Prop))}
end
end
section
section
variable {T:mE} {e:cm} {Z:Hp} {k:Value->Hp->Prop}
end
section
variable {Z:Hp} {x:Blk} {i b:Nat} {z:Option Blk}
end
end
section
open List renaming getElem?_eq_none -> aB
open Go.RowKit (Below)
structure Row where
 c:Nat
 o:Nat
 ext:Nat
 es:Nat
 cells:List Value
def ae2 (P:Program)(w:World):Prop:=P.globalNamed "internal/strconv.uint64pow10" ≠Y->Lib.TabIs P w "internal/strconv.uint64pow10" .u64 Lib.pow10Tab
def Base.of {P:Program}(w:World)(A:ae2 P w):Base P:=⟨w.heap.size,λb=>w.heap[b]?,λE _ C p=>by
 have h:=A p;unfold Lib.TabIs World.var? at h⊢;cases u:P.globalNamed "internal/strconv.uint64pow10" with
 |none=>exact(p u).elim
 |some g=>
  simp only[u,zG]at h⊢
  have s:g<w.heap.size:=by
   rcases Nat.lt_or_ge g w.heap.size with h'|h'
   .exact h'
   .rw[Array.getElem?_eq_none h']at h;cases h
  rw[C g s]
  exact h⟩
def sj (rows:List Row):Mu:=λi=>(rows[i]?).map λr=>⟨r.c,r.o,r.ext,r.es,0,Y⟩
def uX (g:Nat)(rows:List Row):Hp:={m:=λi=>(rows[i]?).bind λr=>if r.c<g then O ⟨r.cells,Zb,r.es⟩else Y,n:=rows.length}
theorem bd3 {P:Program}(F:ae2 P w){rows:List Row}(h: ∀r∈rows,∀(i:Nat) (v:Value),r.cells[i]?=O v->∃v',w.cell? ⟨r.c,r.o+i,Y⟩=O v'/\VR (sj rows) v v'):
  R (Base.of w F) (sj rows) (uX w.heap.size rows) w:=by
 refine⟨Nat.le_refl _,λ_ _=>rfl,λb H=> ?_,λb x p=> ?_,λb M x V g U p _ _ C=> ?_,λb x g _ u J _ _=>(by
  simp only[sj]at u;cases s:rows[b]? with
  |none=>rw[s]at u;cases u
  |some r=>rw[s]at u;injection u with u;subst u;cases J)⟩
 .simp only[sj,aB H,Option.map_none]
 .simp only[uX]at p;cases s:rows[b]? with
  |none=>rw[s]at p;cases p
  |some r=>
   rw[s,zG]at p;split at p
   .rename_i A;injection p with p
    subst p;refine⟨⟨r.c,r.o,r.ext,r.es,0,Y⟩,by simp only[sj,s,Option.map_some],A,rfl,λ_ i v L=>h r (List.mem_of_getElem? s) i v L,λ_ C=>(by cases C),λ_ E=>(by cases E),λE=>by cases E⟩
   .cases p
 .simp only[uX]at p;cases s:rows[b]? with
  |none=>rw[s]at p;cases p
  |some r=>
   rw[s,zG]at p;split at p
   .injection p with p
    subst p;cases C
   .cases p
theorem aM8 {g:Nat}{rows:List Row}:(uX g rows).Ok:=by
 intro b x p;rcases Nat.lt_or_ge b rows.length with h|h
 .exact h
 .simp only[uX,aB h,Option.bind_none]at p;cases p
theorem bb4 {P:Program}{f:FuncId}{S:Tt}(E:Sim P f S)(u:ae2 P w){rows:List Row}{g:List Value}{cargs:Array Value}
  (s: ∀r∈rows,∀(i:Nat) (v:Value),r.cells[i]?=O v->∃v',w.cell? ⟨r.c,r.o+i,Y⟩=O v'/\VR (sj rows) v v')
  (p:F2 (VR (sj rows)) g cargs.toList) (h:S g (uX w.heap.size rows) λr _=>r= .bool Za):
  Calls P f cargs w λe w'=>e= .returned (.bool Za)/\Below w.heap.size w w':=by
 refine(E _ _ _ w g cargs _ h (bd3 u s) p).2.mono λx w' F=> ?_
 obtain⟨r,Z',H,J,rfl,rfl,_,_,C,A,_⟩:=F;cases C;exact⟨rfl,A⟩
section
variable {k:IntKind} {w:World} {a:Option Addr} {len cap:Nat} {zs:Zd} {rows:List Row} {j:Nat}
theorem aG5 {x:Addr}(h:w.cell? x=O v):x.block<w.heap.size:=by
 unfold World.cell? at h;split at h
 .rename_i g;exact(Array.getElem?_eq_some_iff.1 g).1
 .cases h
theorem al6 {x:Addr}(h:w.cell? (x.add 0)=O v):x.spot=Y:=by
 have:=World.cell?_spot h;simpa[Addr.add]using this
theorem Pn {x:Addr}{i:Nat}(g:x.spot=Y)(h:w.cell? (x.add i)=O v):w.cell? ⟨x.block,x.off+i,Y⟩=O v:=by
 obtain⟨b,o,s⟩:=x;simp only at g;subst g
 have:(⟨b,o,Y⟩:Addr).add i=⟨b,o+i,Y⟩:=by
  simp only[Addr.add];split
  .rename_i p;subst p;rfl
  .rfl
 rwa [this]at h
end
end
end Go.Ab
