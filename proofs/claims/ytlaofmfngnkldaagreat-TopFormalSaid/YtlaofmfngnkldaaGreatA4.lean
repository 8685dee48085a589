/- A part of the proof. No condition. -/
import Derived.Test.YtlaofmfngnkldaaGreatA3
import Derived.RangeFuncFrom
import Derived.RangeFuncLeaves
set_option linter.all false
namespace Go.Ab
open Option renaming some->O,none->Z
open Bool renaming true->Za,false->Zb
open Decidable renaming decide->Zc
open List renaming all_eq_true->aG
open List renaming length_eq_zero_iff->aK
open List renaming mem_append->aF
open List renaming mem_cons->aA
open List renaming mem_range->aH
open List renaming nodup_cons->aJ
open Option renaming bind_eq_some_iff->aM
open Option renaming map_eq_some_iff->aC
open List renaming length->b8
variable {i j t:Nat}{w:World}{D:List Nat}{e e0:bj}{a:Act}{c:Code}{x:Exit}{g:G}
section
open Bool renaming and_eq_true->bD
open List renaming mem_cons_of_mem->aB,range->aD,mem_cons_self->bB,find?_some->cB
open Go.RowKit
theorem XF {b:Array Bool}(h:b.getD i Za=Zb):b.getD i Zb=Zb:=by
 grind
def ax8 {b:Array Bool}(d:i<b.size)(h:b.getD i Zb=Zb):b.getD i Za=Zb:=by
 simp[d]at h⊢;exact h
abbrev DL :=List<|AOper×List Nat
def oq (al:DL)(i:Nat):Option Nat:=(al[i]?).bind (·.1.dst)
def ES (al:DL)(i:Nat):List Nat:=match al[i]? with
 |some (o,_)=>o.looks
 |none=>[]
def Ch (al:DL):Bool:=
 (aD<|b8 al).all λi=>
  (iH al i).all (λq=>Zc<|q<i)&&
  (match oq al i with
   |none=>Za
   |some t=>(aD<|b8 al).all λj=>i==j||((oq al j !=O t)&&(!(ES al j).contains t||tw al i j||tw al j i)))
section
variable {al:DL}
theorem RC (h:Ch al=Za){q:Nat}(b:i<b8 al)(d:q∈iH al i):q<i:=by
 have:=aG.1 h i (aH.2 b)
 grind
theorem AV (h:oq al i=O t):i<b8 al:=by
 unfold oq at h
 grind
theorem Ul (h:Ch al=Za)(b:oq al i=O t)(d:oq al j=O t):i=j:=by
 have:=aG.1 h i<|aH.2<|AV b;simp only[bD,b]at this;have:=aG.1 this.2 j (aH.2<|AV d)
 grind
theorem Uk (h:Ch al=Za)(b:oq al i=O t)(d:j<b8 al)(k:t∈ES al j)(f:i≠j):tw al i j=Za∨tw al j i=Za:=by
 have:=aG.1 h i (aH.2<|AV b)
 grind
def zX (al:DL)(D:List Nat):Prop:= ∀i∈D,∀q∈iH al i,q∈D
theorem Ux {acc b:List Nat}{p:Nat}(h:(Iw acc b).testBit p=Za): ∃q∈b,q=p∨(acc.getD q 0).testBit p=Za:=by
 have d: ∀(b:List Nat) (m:Nat),(b.foldl (λm q=>m|||2 ^ q|||acc.getD q 0) m).testBit p=Za->m.testBit p=Za∨∃q∈b,q=p∨(acc.getD q 0).testBit p=Za:=by
  intro b;induction b with
  |nil=>intro m h;exact .inl h
  |cons q b f=>
   intro m h;rcases f _ h with h1|⟨l,h1,k⟩
   .simp only[Nat.testBit_or,Nat.testBit_two_pow,Bool.or_eq_true,decide_eq_true_eq]at h1
    grind
   grind
 rcases d b 0 h with h1|h1
 .simp at h1
 exact h1
theorem LW {d:DL}: ∀(r pre:DL) (b:List Nat),pre++r=d->b8 b=b8 pre->
  (∀j p,(b.getD j 0).testBit p=Za->∃q∈iH d j,q=p∨(q<j/\(b.getD q 0).testBit p=Za))->
  ∀j p,((Sn b r).getD j 0).testBit p=Za->∃q∈iH d j,q=p∨(q<j/\((Sn b r).getD q 0).testBit p=Za)
 |[],pre,b,_,_,h=>h
 |(o,f)::r,pre,b,s,u,h=>by
  simp only[Sn];refine LW r (pre++[(o,f)]) (b++[Iw b f]) (by rw[List.append_assoc];exact s) (by simp[u]) λj p l=> ?_
  have y:iH d (b8 b)=f:=by
   unfold iH
   grind
  have k: ∀q,q<b8 b->(b++[Iw b f]).getD q 0=b.getD q 0:=by
   grind
  by_cases m:j<b8 b
  .rw[k j m]at l
   grind
  .by_cases n:j=b8 b
   .subst n;have:(b++[Iw b f]).getD (b8 b) 0=Iw b f:=by simp
    rw[this]at l;have⟨q,z,A⟩:=Ux l
    grind
   grind
def Xb {p:Nat}(h:tw al p j=Za): ∃q∈iH al j,q=p∨(q<j/\tw al p q=Za):=
 LW al [] [] rfl rfl (λj p h=>by simp at h) j p h
def zX.bef (h:zX al D): ∀(p j:Nat),tw al p j=Za->(∀q∈iH al j,q∈D)->p∈D:=by
 intro p j;induction j using Nat.strongRecOn with
 |_ j l=>
  intro b f;obtain⟨q,k,rfl|⟨d,b⟩⟩:=Xb b
  .exact f q k
  exact l q d b<|h q<|f q k
def jb (al:DL)(e0:bj)(val:Nat->Value)(D:List Nat):bj:=λt=>match D.find? (λi=>oq al i==O t)with
 |some i=>val i
 |none=>e0 t
theorem qQ {val:Nat->Value}(h:Ch al=Za)(f:i∈D)(b:oq al i=O t):jb al e0 val D t=val i:=by
 unfold jb;cases d:D.find? (λi=>oq al i==O t)with
 |none=>
  grind
 |some j=>
  have:=cB d;simp only[beq_iff_eq]at this;rw[Ul h this b]
theorem oJ {val:Nat->Value}(h: ∀i∈D,oq al i≠O t):jb al e0 val D t=e0 t:=by
 unfold jb
 grind
theorem ym {val:Nat->Value}(h:Ch al=Za)(i:Nat)(m:i∉D):jb al e0 val (i::D)=(jb al e0 val D).putO (oq al i) (val i):=by
 funext t
 cases l:oq al i with
 |none=>
  simp only[bj.putO];by_cases k: ∃j∈D,oq al j=O t
  .obtain⟨j,f,b⟩:=k;rw[qQ h (aB _ f) b,qQ h f b]
  rw[oJ<|λj f b=>k ⟨j,f,b⟩];refine oJ λj f b=> ?_
  grind
 |some d=>
  simp only[bj.putO,bj.put];split
  .rename_i ht;subst ht;exact qQ h (bB ..) l
  rename_i ht;by_cases k: ∃j∈D,oq al j=O t
  .obtain⟨j,f,b⟩:=k;rw[qQ h (aB _ f) b,qQ h f b]
  rw[oJ<|λj f b=>k ⟨j,f,b⟩];refine oJ λj f b=> ?_
  grind
def iJ (al:DL)(e0:bj)(val:Nat->Value)(j:Nat):bj:=λt=>match(aD<|b8 al).find? (λi=>oq al i==O t&&tw al i j)with
 |some i=>val i
 |none=>e0 t
def Qm {val:Nat->Value}(h:Ch al=Za)(d:zX al D)(f:j<b8 al)(p:j∉D)(r: ∀q∈iH al j,q∈D)(s:t∈ES al j):
  jb al e0 val D t=iJ al e0 val j t:=by
 unfold iJ;cases m:(aD<|b8 al).find? (λi=>oq al i==O t&&tw al i j)with
 |some i=>
  have:=cB m;simp only[bD,beq_iff_eq]at this;exact qQ h (d.bef _ _ this.2 r) this.1
 |none=>
  refine oJ λi n b=> ?_
  have l:=List.find?_eq_none.1 m i (aH.2<|AV b);simp only[b,beq_self_eq_true,Bool.true_and]at l;have k:i≠j:=λe=>p (e▸n)
  rcases Uk h b f s k with hb|hb
  .exact l hb
  .exact p (d.bef _ _ hb<|d i n)
def an4 {val b:Nat->Value}(d:zX al D)(h:j∈D)(k: ∀i∈D,b i=val i):iJ al e0 b j=iJ al e0 val j:=by
 funext t
 unfold iJ;cases f:(aD<|b8 al).find? (λi=>oq al i==O t&&tw al i j)with
 |none=>rfl
 |some i=>
  have:=cB f;simp only[bD,beq_iff_eq]at this;exact k i<|d.bef _ _ this.2<|d j h
theorem EH {val b:Nat->Value}(d: ∀i∈D,b i=val i):jb al e0 b D=jb al e0 val D:=by
 funext t
 unfold jb
 grind
def vR (n:Nat)(D:List Nat):Nat:=b8<|(aD n).filter λi=> !D.contains i
theorem It {n:Nat}(d:i<n)(b:i∉D):vR n (i::D)<vR n D:=by
 unfold vR
 have:(aD n).filter (λj=> !(i::D).contains j)=((aD n).filter λj=> !D.contains j).filter λj=>j !=i:=by
  rw[List.filter_filter]
  grind
 rw[this];refine List.length_filter_lt_length_iff_exists.2 ⟨i, ?_,V2⟩;simp[d,b]
theorem Iu {n:Nat}(h:vR n D=0)(b:i<n):i∈D:=by
 unfold vR at h
 simp_all
def ae4 {n:Nat}(d:i<n)(b:i∉D):0<vR n D:=by
 rcases Nat.eq_zero_or_pos (vR n D)with h|h
 .exact absurd (Iu h d) b
 exact h
end
section
variable {P:Program} {T:gw} {al:DL} {ops:Array Oper} {B:Base P} {N:Nat}
structure Fits (P:Program)(N:Nat)(ops:Array Oper)(al:DL):Prop where
 len:ops.size=b8 al
 op: ∀(i:Nat) o,ops[i]?=O o->∃x,al[i]?=O (x,iH al i)/\Gl P N ops o=O x
 pred: ∀(i:Nat) o,ops[i]?=O o->∀q,q∈iH al i↔∃e∈o.after,Region.binds .any e=Za/\e.on=q
def I5 (al:DL)(e0:bj)(val:Nat->Value)(σ:Hp)(b:List<|Nat×(Hp->Prop))(j:Nat):Prop:=
 ∃x p,al[j]?=O (x,p)/\x.op.still=Za/\
  ((wanted x (iJ al e0 val j)=Za/\x.op.run (iJ al e0 val j) σ=O (val j,σ)/\
   (x.op.isLoad=Za->∃c,(j,c)∈b/\∀σ',c σ'->x.op.run (iJ al e0 val j) σ'=O (val j,σ')))∨
   (wanted x (iJ al e0 val j)=Zb/\val j=undef))
structure Inv (al:DL)(e0:bj)(val:Nat->Value)(σ:Hp)(chk:List<|Nat×(Hp->Prop))(D L:List Nat):Prop where
 dc:zX al D
 lc:zX al L
 sub: ∀i∈L,i∈D
 lt: ∀i∈D,i<b8 al
 tells: ∀j∈D,j∉L->I5 al e0 val σ chk j
theorem Gb {D:List Nat}{i:Nat}:Qg al D i=Za↔i∉D/\∀q∈iH al i,q∈D:=by
 unfold Qg
 grind
theorem yA {D:List Nat}{i:Nat}(h:fG al D=O i):i<b8 al/\i∉D/\(∀q∈iH al i,q∈D)/\CG al i=Za:=by
 unfold fG at h;have b:=cB h;have d:=List.mem_of_find?_eq_some h;simp only[bD]at b;have⟨f,k⟩:=Gb.1 b.1
 grind
def L4 {D:List Nat}(h:fG al D=Z){i:Nat}(f:i<b8 al)(b:i∉D)(d: ∀q∈iH al i,q∈D):CG al i=Zb:=by
 unfold fG at h;have:=List.find?_eq_none.1 h i (aH.2 f);simp only[Gb.2 ⟨b,d⟩,Bool.true_and]at this;simpa using this
def yy {D:List Nat}{i:Nat}:i∈br al D↔i<b8 al/\i∉D/\(∀q∈iH al i,q∈D)/\CG al i=Zb:=by
 unfold br;simp only[List.mem_filter,List.mem_range,bD,Bool.not_eq_true',Gb,and_assoc]
def Ri {f:Nat->Prop}: ∀{l:List Nat},KV f l->∀m∈l,f m
 |[],_,m,hm=>by cases hm
 |[x],h,m,hm=>by simp at hm;subst hm;exact h
 |x::y::r,h,m,hm=>by
  rcases aA.1 hm with rfl|hm
  .exact h.1
  .exact Ri h.2 m hm
def upd (val:Nat->Value)(i:Nat)(v:Value):Nat->Value:=λk=>if k=i then v else val k
def I5.upd {val:Nat->Value}{σ:Hp}{b:List<|Nat×(Hp->Prop)}{D:List Nat}{i j:Nat}{v:Value}(q:zX al D)(d:j∈D)(r:i∉D)(h:I5 al e0 val σ b j):I5 al e0 (upd val i v) σ b j:=by
 have⟨x,p,l,m,n⟩:=h;have f: ∀k∈D,Ab.upd val i v k=val k:=λk s=>zF λ(e:k=i)=>r (e▸s)
 have u:=an4 (e0:=e0) q d f;refine⟨x,p,l,m, ?_⟩;rw[u,f j d];exact n
theorem I5.more {val:Nat->Value}{σ:Hp}{d b:List<|Nat×(Hp->Prop)}{j:Nat}(h:I5 al e0 val σ d j)(q: ∀c∈d,c∈b):I5 al e0 val σ b j:=by
 have⟨x,p,f,k,l⟩:=h;refine⟨x,p,f,k,l.imp (λ⟨m,n,s⟩=>⟨m,n,λr=> ?_⟩) id⟩
 grind
def Pt {Q:bj->Hp->Prop}(C:Ch al=Za){e0:bj}{σ:Hp}{L:List Nat}: ∀(f:Nat) (val:Nat->Value) (D:List Nat) (m:List<|Nat×(Hp->Prop)) (e:bj),CK T Q al f D m e σ->vR (b8 al) D<=f->e=jb al e0 val D->
  Inv al e0 val σ m D L->∃z d D' b,CK T Q al z D' b (jb al e0 d D') σ/\vR (b8 al) D'<=z/\Inv al e0 d σ b D' L/\fG al D'=Z/\(∀i∈D,d i=val i)/\∀i∈D,i∈D'
 |0,val,D,m,e,h,hf,M,r=>by
  have I: ∀i,i<b8 al->i∈D:=λi U=>Iu V1 U
  refine⟨0,val,D,m,by rw[<-M];exact h,hf,r, ?_,λ_ _=>rfl,λ_ U=>U⟩;cases H:fG al D with
  |none=>rfl
  |some i=>exact absurd (I i (yA H).1) (yA H).2.1
 |f+1,val,D,m,e,h,hf,M,r=>by
  cases H:fG al D with
  |none=>exact⟨f+1,val,D,m,by rw[<-M];exact h,hf,r,H,λ_ _=>rfl,λ_ U=>U⟩
  |some i=>
   have⟨Y,F,h3,h4⟩:=yA H;simp only[CK,H]at h;split at h
   .rename_i x p hx;have E:x.op.still=Za:=by simpa[CG,hx]using h4
    have n: ∀t∈x.looks,e t=iJ al e0 val i t:=by
     intro t W;rw[M];exact Qm C r.dc Y F h3 (by simpa[ES,hx]using W)
    have K:oq al i=x.dst:=by simp[oq,hx]
    have A:vR (b8 al) (i::D)<=f:=by have:=It Y F;omega
    have hDc:zX al<|i::D:=by
     intro k hk q hq;rcases aA.1 hk with rfl|hk
     .exact aB _ (h3 q hq)
     .exact aB _ (r.dc k hk q hq)
    have u: ∀(v:Value) (b:List<|Nat×(Hp->Prop)),CK T Q al f (i::D) b (e.putO x.dst v) σ->(∀c∈m,c∈b)->I5 al e0 (upd val i v) σ b i->
      ∃z d D' b,CK T Q al z D' b (jb al e0 d D') σ/\vR (b8 al) D'<=z/\Inv al e0 d σ b D' L/\fG al D'=Z/\(∀i∈D,d i=val i)/\∀i∈D,i∈D':=by
     intro v b hw J W;have s: ∀k∈D,upd val i v k=val k:=λk hk=>zF λ(e:k=i)=>F (e▸hk)
     have S:e.putO x.dst v=jb al e0 (upd val i v) (i::D):=by
      rw[ym C i F,EH s,K,<-M]
      congr 1
      exact(zE rfl).symm
     have⟨z,d,D',y,g1,g2,g3,g4,g5,g6⟩:=Pt C f (upd val i v) (i::D) b _ hw A S ⟨hDc,r.lc,λk hk=>aB _<|r.sub k hk,λk hk=>(aA.1 hk).elim (λe=>e▸Y)<|r.lt k,λj hj hjL=>by
      rcases aA.1 hj with rfl|hj
      .exact W
      .exact((r.tells j hj hjL).upd r.dc hj F).more J⟩
     exact⟨z,d,D',y,g1,g2,g3,g4,λk hk=>(g5 k<|aB _ hk).trans<|s k hk,λk hk=>g6 k<|aB _ hk⟩
    have l: ∀v,iJ al e0 (upd val i v) i=iJ al e0 val i:=by
     intro v
     funext t
     unfold iJ;cases hf':(aD<|b8 al).find? (λk=>oq al k==O t&&tw al k i)with
     |none=>rfl
     |some k=>
      have:=cB hf';simp only[bD,beq_iff_eq]at this;exact zF λ(e:k=i)=>F (e▸r.dc.bef _ _ this.2 h3)
    have X:=CI n;have V: ∀σ',x.op.run e σ'=x.op.run (iJ al e0 val i) σ':=λσ'=>Bm λt W=>n t (by simp[AOper.looks,W])
    split at h
    .rename_i hwant;split at h
     .rename_i v σ1 hrun;obtain rfl:=uH E hrun;refine u v _ h (λc J=>by split<;>simp[J]) ⟨x,p,hx,E, .inl ⟨by rw[l,<-X];exact hwant,by rw[l,<-V,hrun];congr 2;exact(zE rfl).symm,λhl=> ?_⟩⟩;refine⟨_,by rw[zE hl];exact bB ..,λσ' hσ'=> ?_⟩;rw[l,<-V,hσ']
      congr 2
      exact(zE rfl).symm
     .exact h.elim
    .rename_i hwant;exact u undef m h (λc J=>J) ⟨x,p,hx,E, .inr ⟨by rw[l,<-X];simpa using hwant,zE rfl⟩⟩
   .exact h.elim
theorem ER {m:Nat}{σ:Hp}: ∀{b:List<|Nat×(Hp->Prop)},A6 al m σ b->∀j c,(j,c)∈b->tw al j m=Zb->c σ
 |[],_,j,c,h,_=>by cases h
 |(i,d)::r,f,j,c,h,k=>by
  simp only[A6]at f;rcases aA.1 h with h|h
  .injection h with l n
   grind
  .split at f
   .exact ER f j c h k
   .exact ER f.2 j c h k
theorem Fits.ready (f:Fits P N ops al){b:Array Bool}{L:List Nat}(z:b.size=ops.size)(y: ∀i,i<ops.size->(b.getD i Zb=Za↔i∈L))(s: ∀i∈L,i<ops.size){i:Nat}:
  i∈Region.ready .any ops b↔i<b8 al/\i∉L/\∀q∈iH al i,q∈L:=by
 have m: ∀k,b.getD k Zb=Za↔k∈L:=by
  grind
 rw[mem_ready];constructor
 .rintro⟨h1,o,h2,h3⟩;have l:i<ops.size:=(Array.getElem?_eq_some_iff.1 h2).1;refine⟨f.len▸l,λh=> ?_,λq u=> ?_⟩
  .have d:=(m i).2 h;rw[XF h1]at d;cases d
  .obtain⟨e,d,n,rfl⟩:=(f.pred i o h2 q).1 u;exact(m _).1 (h3 e d n)
 .rintro⟨h1,h2,h3⟩;have l:i<ops.size:=f.len▸h1;refine⟨ax8 V1 ?_,ops[i],Array.getElem?_eq_getElem l,λe r p=>(m _).2<|h3 _<|(f.pred i _ (Array.getElem?_eq_getElem l) _).2 ⟨e,r,p,rfl⟩⟩
  grind
def av7 (hT: ∀f,Fm P f<|T f)(hF:Fits P N ops al)(s:Ch al=Za){Q:AExit->bj->Hp->Prop}{μ0:Mu}{w0:World}{ro:Option Nat}{ds:List Nat}: ∀(E:Nat) (f:Nat) (val:Nat->Value) (D L:List Nat) (chk:List<|Nat×(Hp->Prop)) (d:Array Bool) (σ:Hp) (μ:Mu) (a:Act) (w:World),
  CK T (Q .normal) al f D chk (jb al e0 val D) σ->vR (b8 al) D<=f->vR (b8 al) L<=E->Inv al e0 val σ chk D L->d.size=ops.size->(∀i,i<ops.size->(d.getD i Zb=Za↔i∈L))->
  R (more B ds) μ σ w->dk μ N (jb al e0 val L) a.tmps->a.defers=dfs ds->μ0.le μ->Below B w0 w->wpAnyIn (Rd ro) 0 P .any ops (mY B N μ0 w0 Q) E d a w:=by
 intro E;induction E with
 |zero=>
  intro f val D L chk d σ μ a w h hf hfu hI hs hL hR he hd hμ hb;have I: ∀i,i<b8 al->i∈L:=λi hi=>Iu V1 hi
  have hlt: ∀i∈L,i<ops.size:=λi hi=>by rw[hF.len];exact hI.lt i (hI.sub i hi)
  have Y:Region.ready .any ops d=[]:=by
   cases hr:Region.ready .any ops d with
   |nil=>rfl
   |cons i r=>
    have:=(hF.ready hs hL hlt (i:=i)).1 (by rw[hr];exact bB ..);exact absurd (I i this.1) this.2.1
  refine⟨Y, ?_⟩;have⟨f',b,D',n,g1,g2,u,g4,g5,g6⟩:=Pt (Q:=Q .normal) s f val D chk _ h hf rfl hI
  have H:Q .normal (jb al e0 b D') σ:=by
   have hmv:br al D'=[]:=by
    cases hm:br al D' with
    |nil=>rfl
    |cons i r=>
     have:=yy.1 (show i∈br al D' by rw[hm];exact bB ..);exact absurd (g6 i<|hI.sub i<|I i this.1) this.2.1
   cases f' with
   |zero=>exact g1
   |succ f'=>simp only[CK,g4,hmv]at g1;exact g1
  have henv:jb al e0 b D'=jb al e0 val L:=by
   funext t
   by_cases hx: ∃j,j<b8 al/\oq al j=O t
   .obtain⟨j,C,l⟩:=hx;rw[qQ s (g6 j<|hI.sub j<|I j C) l,qQ s (I j C) l,g5 j<|hI.sub j<|I j C]
   .rw[oJ (λj _ l=>hx ⟨j,AV l,l⟩),oJ<|λj _ l=>hx ⟨j,AV l,l⟩]
  rw[henv]at H;exact⟨.normal,_,σ,μ,trivial,H,hμ,⟨ds,hR,hd⟩,he,trivial,hb⟩
 |succ E ih=>
  intro f val D L chk d σ μ a w h hf hfu hI hs hL hR he hd hμ hb;have hlt: ∀i∈L,i<ops.size:=λi hi=>by rw[hF.len];exact hI.lt i (hI.sub i hi)
  have⟨f',b,D',n,g1,g2,u,g4,g5,g6⟩:=Pt (Q:=Q .normal) s f val D chk _ h hf rfl hI;have hvL: ∀i∈L,b i=val i:=λi hi=>g5 i (hI.sub i hi)
  have J:dk μ N (jb al e0 b L) a.tmps:=by rw[EH hvL];exact he
  have hL': ∀i,i<ops.size->∀(hi:i∉L),(∀k,k<ops.size->((d.setIfInBounds i Za).getD k Zb=Za↔k∈i::L)):=by
   intro i hi hiL k hk;by_cases e:k=i
   .subst e;simp[hs,hk]
   .rw[getD_set_ne Zb (λe'=>e e'.symm),hL k hk];simp[e]
  have hLc: ∀i,(∀q∈iH al i,q∈L)->zX al (i::L):=by
   intro i hp k hk q H;rcases aA.1 hk with rfl|hk
   .exact aB _ (hp q H)
   .exact aB _ (hI.lc k hk q H)
  refine⟨λY=> ?_,λi hi=> ?_⟩
  .
   have hDL: ∀j∈D',j∈L:=by
    intro j;induction j using Nat.strongRecOn with
    |_ j ihj=>
     intro C;by_cases A:j∈L
     .exact A
     .exfalso;have hr:=(hF.ready hs hL hlt (i:=j)).2 ⟨u.lt j C,A,λq H=>ihj q (RC s (u.lt j C) H)<|u.dc j C q H⟩;rw[Y]at hr;cases hr
   have H:Q .normal (jb al e0 b D') σ:=by
    have hmv:br al D'=[]:=by
     cases hm:br al D' with
     |nil=>rfl
     |cons i r=>
      exfalso;have:=yy.1 (show i∈br al D' by rw[hm];exact bB ..);have hr:=(hF.ready hs hL hlt (i:=i)).2 ⟨this.1,λh=>this.2.1<|u.sub i h,λq H=>hDL q<|this.2.2.1 q H⟩;rw[Y]at hr;cases hr
    cases f' with
    |zero=>exact g1
    |succ f'=>simp only[CK,g4,hmv]at g1;exact g1
   have henv:jb al e0 b D'=jb al e0 b L:=by
    funext t
    by_cases hx: ∃j∈L,oq al j=O t
    .obtain⟨j,C,l⟩:=hx;rw[qQ s (u.sub j C) l,qQ s C l]
    .rw[oJ (λj C l=>hx ⟨j,hDL j C,l⟩),oJ<|λj C l=>hx ⟨j,C,l⟩]
   rw[henv]at H;exact⟨.normal,_,σ,μ,trivial,H,hμ,⟨ds,hR,hd⟩,J,trivial,hb⟩
  .
   have⟨k1,k2,k3⟩:=(hF.ready hs hL hlt).1 hi;have hio:i<ops.size:=hF.len▸k1;have hoi:ops[i]?=O ops[i]:=Array.getElem?_eq_getElem hio;have⟨x,hx,M⟩:=hF.op i _ hoi;have V:vR (b8 al) (i::L)<=E:=by have:=It k1 k2;omega
   have hs':(d.setIfInBounds i Za).size=ops.size:=by simpa using hs
   have U:oq al i=x.dst:=by simp[oq,hx]
   unfold Gl at M;split at M
   case h_2=>cases M
   rename_i op g t1 t2;split at M
   case isFalse=>cases M
   rename_i t3;cases M
   have F: ∀t∈(⟨ops[i].dst,op,g⟩:AOper).looks,jb al e0 b L t=iJ al e0 b i t:=by
    intro t ht;exact Qm s u.lc k1 k2 k3 (by simpa[ES,hx]using ht)
   have hwant:=IU (op:=op) t2 J;rw[CI F]at hwant;unfold wpOpIn;rw[hoi];simp only;rw[hwant];by_cases z:i∈D'
   .
    have⟨x',p,y1,y2,y3⟩:=u.tells i z k2;rw[hx]at y1;injection y1 with y1
    injection y1 with y1 _
    subst y1
    have hInv': ∀(μ':Mu) (w':World),Inv al e0 b σ n D'<|i::L:=λμ' w'=>
     ⟨u.dc,hLc i k3,λk hk=>(aA.1 hk).elim (λe=>e▸z)<|u.sub k,u.lt,λj C A=>u.tells j C λh=>A<|aB _ h⟩
    rcases y3 with⟨y4,y5,_⟩|⟨y4,y5⟩
    .rw[y4,zE rfl]
     have hrun:bp T op (jb al e0 b L) σ λv σ'=>v=b i/\σ'=σ:=by
      have:op.run (jb al e0 b L) σ=O (b i,σ):=by
       rw[Bm (e':=iJ al e0 b i) λt ht=>F t (by simp[AOper.looks,ht])];exact y5
      unfold bp;cases op<;>simp[AOp.still]at y2<;>simp only[this]<;>exact⟨trivial,trivial⟩
     refine Hv hT t1 hrun J hR λv σ' v' μ' w' hk hμ' hR' hv hbel=> ?_
     obtain⟨rfl,rfl⟩:=hk;refine ih f' b D' (i::L) n _ σ' μ' _ w' g1 g2 V (hInv' μ' w') hs' (hL' i hio k2) hR' ?_ Zo (Mu.le_trans hμ hμ') (hb.trans hbel);rw[ym s i k2,U];exact(J.mono hμ').putO t3 hv
    .rw[y4];simp only[Bool.false_eq_true,if_false];refine⟨λ_ _=>trivial, ?_⟩;refine ih f' b D' (i::L) n _ σ μ _ w g1 g2 V (hInv' μ w) hs' (hL' i hio k2) hR ?_ Zo hμ hb;rw[ym s i k2,U,y5];exact J.putO t3 (VR.undef μ)
   .
    have hpD: ∀q∈iH al i,q∈D':=λq H=>u.sub q (k3 q H)
    have hst:=L4 g4 k1 z hpD;have X:i∈br al D':=yy.2 ⟨k1,z,hpD,hst⟩
    have K: ∀t∈(⟨ops[i].dst,op,g⟩:AOper).looks,jb al e0 b D' t=iJ al e0 b i t:=by
     intro t ht;exact Qm s u.dc k1 z hpD (by simpa[ES,hx]using ht)
    have hsame: ∀t∈(⟨ops[i].dst,op,g⟩:AOper).looks,jb al e0 b D' t=jb al e0 b L t:=λt ht=>(K t ht).trans (F t ht).symm
    obtain⟨S,rfl⟩: ∃S,f'=S+1:=⟨f'-1,by have:=ae4 k1 z;omega⟩
    have hleft:vR (b8 al) (i::D')<=S:=by have:=It k1 z;omega
    simp only[CK,g4]at g1
    have y:(if wanted ⟨ops[i].dst,op,g⟩ (jb al e0 b D')then bp T op (jb al e0 b D') σ λv σ'=>A6 al i σ' n/\CK T (Q .normal) al S (i::D') n ((jb al e0 b D').putO ops[i].dst v) σ'
      else CK T (Q .normal) al S (i::D') n ((jb al e0 b D').putO ops[i].dst undef) σ):=by
     cases hm:br al D' with
     |nil=>rw[hm]at X;cases X
     |cons m r=>
      rw[hm]at g1 X;simp only at g1;have:=Ri g1 i X;simp only[hx]at this;exact this
    rw[CI K]at y
    have hDc:zX al<|i::D':=by
     intro k hk q H;rcases aA.1 hk with rfl|hk
     .exact aB _ (hpD q H)
     .exact aB _ (u.dc k hk q H)
    have hlag: ∀j∈i::D',j∉i::L->j∈D'/\j∉L:=λj C A=>
     ⟨(aA.1 C).elim (λe=>absurd (e▸bB ..) A) id,λh=>A<|aB _ h⟩
    have hval: ∀v,∀k∈D',upd b i v k=b k:=λv k hk=>zF λ(e:k=i)=>z (e▸hk)
    have henvD: ∀v,(jb al e0 b D').putO ops[i].dst v=jb al e0 (upd b i v) (i::D'):=by
     intro v;rw[ym s i z,EH<|hval v,U]
     congr 1
     exact(zE rfl).symm
    have henvL: ∀v,(jb al e0 b L).putO ops[i].dst v=jb al e0 (upd b i v) (i::L):=by
     intro v;rw[ym s i k2,EH (λk hk=>hval v k<|u.sub k hk),U]
     congr 1
     exact(zE rfl).symm
    split at y
    .rename_i hw1;rw[hw1,zE rfl];refine Hv hT t1 (S6 (λt ht=>hsame t (by simp[AOper.looks,ht])) y) J hR λv σ' v' μ' w' hk hμ' hR' hv hbel=> ?_
     have⟨hk1,hk2⟩:=hk;rw[henvD v]at hk2;refine ih S (upd b i v) (i::D') (i::L) n _ σ' μ' _ w' hk2 hleft V ⟨hDc,hLc i k3,λk hk=>(aA.1 hk).elim (λe=>e▸bB ..) λh=>aB _<|u.sub k h,λk hk=>(aA.1 hk).elim (λe=>e▸k1)<|u.lt k,λj C A=> ?_⟩ hs' (hL' i hio k2) hR' ?_ Zo (Mu.le_trans hμ hμ') (hb.trans hbel)
     .obtain⟨hjD,W⟩:=hlag j C A;have ht:=(u.tells j hjD W).upd (i:=i) (v:=v) u.dc hjD z;have⟨x',p,z1,z2,z3⟩:=ht;refine⟨x',p,z1,z2,z3.imp (λ⟨z4,z5,z6⟩=>⟨z4, ?_,z6⟩) id⟩;cases hl:x'.op.isLoad with
      |false=>exact OR z2 hl z5 σ'
      |true=>
       have⟨c,z7,z8⟩:=z6 hl;refine z8 σ'<|ER hk1 j c z7 ?_;cases hbf:tw al j i with
       |false=>rfl
       |true=>exact absurd (u.lc.bef _ _ hbf k3) W
     .rw[<-henvL v];exact(J.mono hμ').putO t3 hv
    .rename_i hw1;rw[zF hw1];rw[henvD undef]at y;refine⟨λ_ _=>trivial, ?_⟩;refine ih S (upd b i undef) (i::D') (i::L) n _ σ μ _ w y hleft V ⟨hDc,hLc i k3,λk hk=>(aA.1 hk).elim (λe=>e▸bB ..) λh=>aB _<|u.sub k h,λk hk=>(aA.1 hk).elim (λe=>e▸k1)<|u.lt k,λj C A=> ?_⟩ hs' (hL' i hio k2) hR ?_ Zo hμ hb
     .obtain⟨hjD,W⟩:=hlag j C A;exact(u.tells j hjD W).upd u.dc hjD z
     .rw[<-henvL undef];exact J.putO t3<|VR.undef μ
end
end
section
open Go.RowKit
def pF (T:gw):Prop:= ∀f b σ (K K':Value->Hp->Prop),(∀r σ',K r σ'->K' r σ')->T f b σ K->T f b σ K'
def kX {T:gw}(d:pF T){op:AOp}{σ:Hp}{k l:Value->Hp->Prop}(b: ∀v σ',k v σ'->l v σ')(h:bp T op e σ k):bp T op e σ l:=by
 unfold bp at*;cases op<;>simp only at h⊢
 case call f xs=>exact d _ _ _ _ _ b h
 case callv f xs=>
  split at h
  .exact⟨h.1,d _ _ _ _ _ b h.2⟩
  exact h.elim
 case rangeF f n x=>
  split at h
  .exact⟨h.1,h.2.1,d _ _ _ _ _ (λ_ σ' q=>⟨q.1,b _ _ q.2⟩) h.2.2⟩
  exact h.elim
 all_goals
  split at h
  .exact b _ _ h
  exact h.elim
section
variable {T:gw}
def uK (b:pF T){Q Q':bj->Hp->Prop}(d: ∀e σ,Q e σ->Q' e σ): ∀(l:List AOper) (e:bj) (σ:Hp),kM T Q l e σ->kM T Q' l e σ
 |[],e,σ,h=>d e σ h
 |o::l,e,σ,h=>by
  simp only[kM]at h⊢;split at h
  .rename_i hw;rw[zE hw];exact kX b (λv σ' f=>uK b d l _ σ' f) h
  .rename_i hw;rw[zF hw];exact uK b d l _ σ h
def NB {f g:Nat->Prop}(h: ∀m,f m->g m): ∀{l:List Nat},KV f l->KV g l
 |[],_=>trivial
 |[_],b=>h _ b
 |_::_::_,b=>⟨h _ b.1,NB h b.2⟩
def Eu (k:pF T){Q Q':bj->Hp->Prop}(d: ∀e σ,Q e σ->Q' e σ){ops:List<|AOper×List Nat}: ∀(f:Nat) (done:List Nat) (b:List<|Nat×(Hp->Prop)) (e:bj) (σ:Hp),CK T Q ops f done b e σ->CK T Q' ops f done b e σ
 |0,done,b,e,σ,h=>d e σ h
 |f+1,done,b,e,σ,h=>by
  simp only[CK]at h⊢;split at h
  .split at h
   .split at h
    .rename_i hw;rw[zE hw];split at h
     .exact Eu k d f _ _ _ _ h
     .exact h.elim
    .rename_i hw;rw[zF hw];exact Eu k d f _ _ _ _ h
   .exact h.elim
  .split at h
   .exact d e σ h
   .refine NB (λm l=> ?_) h;split at l
    .split at l
     .rename_i hw;rw[zE hw];exact kX k (λv σ' n=>⟨n.1,Eu k d f _ _ _ _ n.2⟩) l
     .rename_i hw;rw[zF hw];exact Eu k d f _ _ _ _ l
    .exact l.elim
def Ew (d:pF T){Q Q':bj->Hp->Prop}(f: ∀e σ,Q e σ->Q' e σ): ∀(l:List SItem) (b:List<|Nat×(Hp->Prop)) (e:bj) (σ:Hp),QH T Q l b e σ->QH T Q' l b e σ
 |[],_,e,σ,h=>f e σ h
 |it::l,b,e,σ,h=>by
  simp only[QH]at h⊢;split at h
  .rename_i hw;rw[zE hw];split at h
   .rename_i hm;rw[zE hm];exact kX d (λv σ' k=>⟨k.1,Ew d f l _ _ σ' k.2⟩) h
   .rename_i hm;rw[zF hm];split at h
    .exact Ew d f l _ _ σ h
    .exact h.elim
  .rename_i hw;rw[zF hw];exact Ew d f l _ _ σ h
def zT {f:(AExit->bj->Hp->Prop)->bj->Hp->Prop}(k: ∀(Q Q':AExit->bj->Hp->Prop),(∀x e σ,Q x e σ->Q' x e σ)->∀e σ,f Q e σ->f Q' e σ){Q Q':AExit->bj->Hp->Prop}(b: ∀x e σ,Q x e σ->Q' x e σ):
  ∀(n:Nat) (e:bj) (σ:Hp),jN f Q n e σ->jN f Q' n e σ
 |0,_,_,h=>h.elim
 |n+1,e,σ,h=>by
  simp only[jN]at h⊢;refine k _ _ (λx l σ' d=> ?_) e σ h;cases x with
  |normal=>exact zT k b n l σ' d
  |exit id=>exact b _ _ _ d
  |ret=>exact b _ _ _ d
theorem de (l:pF T): ∀(c:AC) (Q Q':AExit->bj->Hp->Prop),(∀x e σ,Q x e σ->Q' x e σ)->∀(e:bj) (σ:Hp),rD T c Q e σ->rD T c Q' e σ:=by
 intro c;induction c with
 |skip=>intro Q Q' d e σ h;exact d _ _ _ h
 |region ops=>intro Q Q' d e σ h;exact uK l (d .normal) ops e σ h
 |draw ops=>intro Q Q' d e σ h;exact Eu l (d .normal) _ _ _ e σ h
 |sched q=>intro Q Q' d e σ h;exact Ew l (d .normal) q [] e σ h
 |seq a b k p=>
  intro Q Q' d e σ h;refine k _ _ (λx r σ' u=> ?_) e σ h
  grind
 |cond c a b k p=>
  intro Q Q' d e σ h;simp only[rD]at h⊢
  grind
 |block id b m=>
  intro Q Q' d e σ h;refine m _ _ (λx r σ' u=> ?_) e σ h
  grind
 |loop b m=>
  intro Q Q' d e σ h;have⟨n,s⟩:=h;exact⟨n,zT (f:=rD T b) m d n e σ s⟩
 |exit id=>intro Q Q' d e σ h;exact d _ _ _ h
 |ret=>intro Q Q' d e σ h;exact d _ _ _ h
def AC.outs :AC->Nat->Bool
 | .seq a b,i| .cond _ a b,i=>a.outs i||b.outs i
 | .block id b,i=>b.outs i&& !(i==id)
 | .loop b,i=>b.outs i
 | .exit j,i=>i==j
 |_,_=>Zb
def TD (c:AC)(Q:AExit->bj->Hp->Prop):AExit->bj->Hp->Prop:=λx e σ=>(∀i,x= .exit i->c.outs i=Za)/\Q x e σ
def Eb {c:AC}{Q:AExit->bj->Hp->Prop}:TD c Q .normal=Q .normal:=by
 funext e σ
 exact propext ⟨λh=>h.2,λh=>⟨λi b=>(by cases b),h⟩⟩
def Jt {f:(AExit->bj->Hp->Prop)->bj->Hp->Prop}{b:AC}(l: ∀(Q Q':AExit->bj->Hp->Prop),(∀x e σ,Q x e σ->Q' x e σ)->∀e σ,f Q e σ->f Q' e σ)
  (m: ∀Q e σ,f Q e σ->f (TD b Q) e σ) {Q:AExit->bj->Hp->Prop}: ∀(n:Nat) (e:bj) (σ:Hp),jN f Q n e σ->jN f (TD b Q) n e σ
 |0,_,_,h=>h.elim
 |n+1,e,σ,h=>by
  simp only[jN]at h⊢;refine l _ _ (λx p σ' q=> ?_) e σ<|m _ e σ h;have⟨k,d⟩:=q;cases x with
  |normal=>exact Jt l m n p σ' d
  |exit id=>exact⟨k,d⟩
  |ret=>exact⟨k,d⟩
def Tu (q:pF T): ∀(c:AC) (Q:AExit->bj->Hp->Prop) (e:bj) (σ:Hp),rD T c Q e σ->rD T c (TD c Q) e σ:=by
 intro c;induction c with
 |skip=>intro Q e σ h;exact⟨λi d=>aR,h⟩
 |region ops=>intro Q e σ h;simp only[rD]at h⊢;rw[Eb];exact h
 |draw ops=>intro Q e σ h;simp only[rD]at h⊢;rw[Eb];exact h
 |sched A=>intro Q e σ h;simp only[rD]at h⊢;rw[Eb];exact h
 |seq a b m p=>
  intro Q e σ h;simp only[rD]at h⊢;refine de q a _ _ (λx r σ' k=> ?_) e σ<|m _ e σ h;have⟨s,l⟩:=k;cases x with
  |normal=>exact de q b _ _ (λx e σ k=>⟨λi d=>by rw[AC.outs,k.1 i d,Bool.or_true],k.2⟩) r σ' (p Q r σ' l)
  |exit id=>exact⟨λi d=>by rw[AC.outs,s i d,Bool.true_or],l⟩
  |ret=>exact⟨λi d=>aR,l⟩
 |cond c a b m p=>
  intro Q e σ h;simp only[rD]at h⊢;split at h
  .exact de q a _ _ (λx e σ k=>⟨λi d=>by rw[AC.outs,k.1 i d,Bool.true_or],k.2⟩) e σ (m Q e σ h)
  .exact de q b _ _ (λx e σ k=>⟨λi d=>by rw[AC.outs,k.1 i d,Bool.or_true],k.2⟩) e σ (p Q e σ h)
  exact h.elim
 |block id b y=>
  intro Q e σ h;simp only[rD]at h⊢;refine de q b _ _ (λx r σ' k=> ?_) e σ<|y _ e σ h;have⟨s,l⟩:=k;cases x with
  |normal=>exact⟨λi d=>aR,l⟩
  |exit i=>
   simp only at l⊢;split at l
   .rename_i d;rw[zE d];exact⟨λi d=>aR,l⟩
   rename_i d;rw[zF d];refine⟨λj u=> ?_,l⟩;cases u;rw[AC.outs,s i rfl];simp[d]
  |ret=>exact⟨λi d=>aR,l⟩
 |loop b y=>
  intro Q e σ h;have⟨n,z⟩:=h;exact⟨n,Jt (f:=rD T b) (de q b) y n e σ z⟩
 |exit id=>
  intro Q e σ h;refine⟨λi d=> ?_,h⟩;cases d;simp[AC.outs]
 |ret=>intro Q e σ h;exact⟨λi d=>aR,h⟩
end
end
section
open List renaming mem_append_right->bB,mem_cons_of_mem->bD,mem_cons_self->cB
open Nat renaming le_refl->aB,lt_of_lt_of_le->aD
open Go.RowKit
section
variable {P:Program} {o:Oper} {a:Act} {w w':World} {B:Base P} {N:Nat} {μ:Mu} {e:bj} {σ σ':Hp} {v:Value}
def F2.ofIdx {α β:Type}{r:α->β->Prop}: ∀(l:List α) (m:List β),b8 l=b8 m->(∀(i:Nat) (a:α) (b:β),l[i]?=O a->m[i]?=O b->r a b)->F2 r l m
 |[],[],_,_=> .nil
 |a::l,b::m,h,k=> .cons (k 0 a b rfl rfl)<|F2.ofIdx l m V6 λi x y d f=>k (i+1) x y V7 (by simpa using f)
def dk.list {tmps:Array Value}(h:dk μ N e tmps):F2 (VR μ) ((List.range N).map e) tmps.toList:=by
 refine F2.ofIdx _ _ (by simp[h.1]) λi x y b d=> ?_
 have k:i<N:=by
  rcases Nat.lt_or_ge i N with q|q
  .exact q
  rw[List.getElem?_eq_none (by simpa using q)]at b;cases b
 simp[k]at b;subst b;have:=h.2 i
 have f:tmps.getD i Go.undef=y:=by
  rw[Array.getElem?_toList]at d;simp[Array.getD_eq_getD_getElem?,d]
 rw[f]at this;exact this
theorem R.addLoop (h:R B μ σ w)(f:FuncId)(r:Loop)(d:List Value)(F:yE P f=O (r.tmps.size,r.params,r.assign,r.body))(hp:r.pending=Z)(V:r.state= .ready)(Y:F2 (VR μ) d r.tmps.toList):
  R B (μ.add σ.n ⟨w.heap.size,0,r.tmps.size,1,f,O<|.bool Za⟩) (σ.add ⟨Ii Za::d,Za,1⟩) (w.alloc<|.loop r)/\μ.le (μ.add σ.n ⟨w.heap.size,0,r.tmps.size,1,f,O<|.bool Za⟩):=by
 have hf:μ σ.n=Z:=h.fresh _<|aB _;have u:μ.le<|μ.add σ.n ⟨w.heap.size,0,r.tmps.size,1,f,O<|.bool Za⟩:=Mu.le_add hf
 have old: ∀b x,b≠σ.n->(σ.add ⟨Ii Za::d,Za,1⟩).m b=O x->σ.m b=O x:=by
  intro b x s l;simpa[Hp.add,s]using l
 have W: ∀x,(σ.add ⟨Ii Za::d,Za,1⟩).m σ.n=O x->x=⟨Ii Za::d,Za,1⟩:=by
  intro x l;simp[Hp.add]at l;exact l.symm
 have p: ∀b x g,σ.m b=O x->μ b=O g->g.c<w.heap.size:=λb x g l z=>(h.get l z).lt
 have K:(w.alloc<|.loop r).heap.size=w.heap.size+1:=by simp
 refine⟨⟨by rw[K];exact Nat.le_succ_of_le h.base,λk C=>(Below.heap_alloc w _ _<|aD C h.base).trans<|h.old k C,λb s=> ?_,λb x l=> ?_,λb L x x' g Q l A S ho z E=> ?_, ?_,h.dfr_alloc _,h.mit_alloc _⟩,u⟩
 .have:σ.n+1<=b:=s;unfold Mu.add;rw[Zh];exact h.fresh b (by omega)
 .by_cases s:b=σ.n
  .subst s;obtain rfl:=W x l
   exact⟨⟨w.heap.size,0,r.tmps.size,1,f,O<|.bool Za⟩,by simp[Mu.add],⟨by rw[K];exact Nat.lt_succ_self _,rfl,λI=>(by cases I),λI=>(by cases I),λs' F=>(by injection F with F;cases F),λF=>(by injection F with F;cases F),λk' C=>(by injection C with C;cases C),λ_ _ C=>(by injection C with C;cases C),λ_=>
    ⟨h.base,r,heap_alloc_new w _,F,hp,rfl,λfl vs e=>(by
     injection e with M e2
     have M:=VI M;subst M e2
     exact⟨V,λ_=>(by
      have e3:List.take r.tmps.size d=d:=by
       rw[<-Array.length_toList,<-Y.length,List.take_length]
      show F2 _ (List.take r.tmps.size d) _;rw[e3]
      exact Y.imp λ_ _ k=>k.mono u)⟩)⟩⟩⟩
  .have A:=old b x s l;obtain⟨g,J,H⟩:=h.live b x A;exact⟨g,u _ _ J,(H.mono u).kept (by rw[K];exact Nat.le_succ _) (Below.heap_alloc w _ _ H.lt)<|λX q hq=>Below.heap_alloc w _ _ (h.buf A J X hq).2.1⟩
 .by_cases s:b=σ.n
  .subst s;have y:L≠σ.n:=λe=>S e.symm
   have:g.c=w.heap.size:=by simp[Mu.add]at z;rw[<-z]
   have H:μ L=O Q:=by simpa[Mu.add,y]using E
   have:=p L x' Q (old _ _ y A) H;omega
  .have J:μ b=O g:=by simpa[Mu.add,s]using z
   have U:=old b x s l;by_cases y:L=σ.n
   .subst y;have:Q.c=w.heap.size:=by simp[Mu.add]at E;rw[<-E]
    have:=p b x g U J;omega
   .have H:μ L=O Q:=by simpa[Mu.add,y]using E
    exact h.inj b L x x' g Q U (old _ _ y A) S ho J H
 .refine h.sep.of (λb x g l z=> ?_) (λb x g l z X _=> ?_)
  .by_cases s:b=σ.n
   .subst s;have M:g=⟨w.heap.size,0,r.tmps.size,1,f,O<|.bool Za⟩:=by simp[Mu.add]at z;exact z.symm
    subst M;exact .inr ⟨λI=>(by injection I with I;cases I),λb1 x1 g1 q J H h3 h4 e=>by have:=(h.buf J H h3 h4).2.1;simp only at e;omega⟩
   .exact .inl ⟨x,old b x s l,by simpa[Mu.add,s]using z⟩
  .unfold jW;rw[show(w.alloc<|.loop r).heap[g.c]?=w.heap[g.c]? from Below.heap_alloc w _ _<|p b x g l z]
def R.allocO (h:R B μ σ w)(o:Obj):R B μ σ<|w.alloc o:=by
 have l: ∀b x g,σ.m b=O x->μ b=O g->g.c<w.heap.size:=λb x g p C=>(h.get p C).lt
 refine⟨Nat.le_trans h.base V2,λk A=>(Below.heap_alloc w _ _<|aD A h.base).trans<|h.old k A,h.fresh,λb x p=> ?_,h.inj, ?_,h.dfr_alloc _,h.mit_alloc _⟩
 .obtain⟨g,u,y⟩:=h.live b x p;exact⟨g,u,y.kept V2 (Below.heap_alloc w _ _ y.lt)<|λz q E=>Below.heap_alloc w _ _ (h.buf p u z E).2.1⟩
 refine h.sep.of (λs r n f d=> .inl ⟨r,f,d⟩)<|λs r n f d z _=> ?_;unfold jW;rw[show(w.alloc o).heap[n.c]?=w.heap[n.c]? from Below.heap_alloc w _ _<|l s r n f d]
def R.moreD {ds:List Nat}{D:Nat}(h:R (more B ds) μ σ w)(m:w.heap[D]?=O (.deferred<|O []))(p:D∉(more B ds).ds)(f:B.n<=D):R (more B<|D::ds) μ σ w:=
 ⟨h.base,h.old,h.fresh,λb x q=>let⟨g,l,d⟩:=h.live b x q;⟨g,l,⟨d.lt,d.es,d.cell,d.own,d.iter,d.bld,d.mp,d.mg,d.lp⟩⟩,h.inj,h.sep,And.intro ⟨aJ.2 ⟨p,h.dfr.1.1⟩,λk hk=>(by
  rcases aA.1 (show k∈D::(ds++B.ds)from hk)with rfl|hk
  .exact f
  .exact h.dfr.1.2 k hk)⟩ (λk hk=>by
  rcases aA.1 (show k∈D::(ds++B.ds)from hk)with rfl|hk
  .exact m
  .exact h.dfr.2 k hk),h.mit⟩
def R.leave (h:R B μ σ w)(c:Nat)(A: ∀p∈B.mi,p.1≠c)(M:B.n<=c)(l: ∀b x g,σ.m b=O x->μ b=O g->g.c≠c/\(g.it=O .nilFunc->jW w g.c≠O c))(z:c∉B.ds)(s:w'.heap.size=w.heap.size)(d: ∀k,k≠c->w'.heap[k]?=w.heap[k]?):R B μ σ w':=by
 refine⟨by rw[s];exact h.base,λk r=>(d k V1).trans<|h.old k r,h.fresh,λb x y=> ?_,h.inj, ?_,⟨h.dfr.1,λk r=>(d k<|λe=>z<|e▸r).trans<|h.dfr.2 k r⟩,λp H=>let⟨I,J,K⟩:=h.mit p H;⟨I,J,(d _<|A p H).trans K⟩⟩
 .obtain⟨g,u,L⟩:=h.live b x y;exact⟨g,u,h.stays y u (by rw[s];exact aB _) c (λk r _=>d k r) (l b x g y u).1 (l b x g y u).2⟩
 refine h.sep.of (λE C F q f=> .inl ⟨C,q,f⟩)<|λE C F q f Q _=> ?_;unfold jW;rw[d _ (l E C F q f).1]
def R.less {ds:List Nat}(h:R (more B ds) μ σ w):R B μ σ w:=
 ⟨h.base,h.old,h.fresh,λb x m=>let⟨g,l,d⟩:=h.live b x m;⟨g,l,⟨d.lt,d.es,d.cell,d.own,d.iter,d.bld,d.mp,d.mg,d.lp⟩⟩,h.inj,h.sep,⟨⟨(List.nodup_append.1 h.dfr.1.1).2.1,λk f=>h.dfr.1.2 k<|bB _ f⟩,λk f=>h.dfr.2 k<|bB _ f⟩,h.mit⟩
def R.shut {ds:List Nat}{D:Nat}(h:R (more B<|D::ds) μ σ w):R (more B ds) μ σ<|w.putObj D<|.deferred Z:=by
 have U:=h.dfr.2 D<|cB ..;have d: ∀k,k≠D->(w.putObj D<|.deferred Z).heap[k]?=w.heap[k]?:=λk f=>World.putObj_heap_other f
 have L:=aJ.1 (show(D::(ds++B.ds)).Nodup from h.dfr.1.1);have W:B.n<=D:=h.dfr.1.2 D (cB ..)
 have cells: ∀{c:Nat} {cs:Array Value} {e:TypeId} {fr:Nat×Nat},w.heap[c]?=O (.cells cs e fr)->c≠D:=λC e=>by
  subst e;rw[U]at C;cases C
 have bld: ∀{b:Nat} {x:Blk} {g:G},σ.m b=O x->μ b=O g->g.it=O .nilFunc->g.c≠D/\∀k,jW w g.c=O k->k≠D:=λK hg F=>by
  have⟨_,p,s,_,_,hB,v,A,J,hne⟩:=(h.get K hg).bld F;refine⟨cells A,λk f=> ?_⟩;rcases J.2 with L|⟨q,cap,M,fz,Y,hg,V,rest⟩
  .rw[L.1]at A;simp[jW,A,Value.ownBlock]at f
  subst Y;simp[jW,A,Value.ownBlock]at f;subst f;exact cells V
 refine⟨by rw[World.putObj_size];exact h.base,λk f=>(d k<|Nat.ne_of_lt<|aD f W).trans<|h.old k f,h.fresh,λb x K=> ?_,h.inj, ?_,⟨⟨L.2,λk f=>h.dfr.1.2 k<|bD _ f⟩,λk f=>(d k λe=>L.1<|e▸f).trans<|h.dfr.2 k<|bD _ f⟩,h.mit_but (c:=D) (λo X e=>by rw[U]at e;cases e;cases X) λk f _=>d k f⟩
 .obtain⟨g,S,y⟩:=h.live b x K;refine⟨g,S, ?_⟩;by_cases C:g.c=D
  .have u:w.heap[g.c]?=O (.deferred<|O []):=by rw[C];exact U
   refine⟨by simpa using y.lt,y.es,λQ i v Y=> ?_,λQ X=> ?_,λs H=> ?_,λF=>((bld K S F).1 C).elim,λk H=> ?_,λks vn H=> ?_,λH=> ?_⟩
   .obtain⟨v',l,_⟩:=y.cell Q i v Y;simp[World.cell?,u]at l
   .obtain⟨_,_,M,e,fr,l,_⟩:=y.own Q X;exact(cells l C).elim
   .obtain⟨_,p,_,l⟩:=y.iter s H;rw[u]at l;cases l
   .obtain⟨_,es,cl,s,_,l,_⟩:=y.mp k H;rw[u]at l;cases l
   .obtain⟨_,es,cl,l,_⟩:=y.mg ks vn H;rw[u]at l;cases l
   have⟨_,r,l,_⟩:=y.lp H;rw[u]at l;cases l
  have z:Lives (more B<|D::ds) μ (w.putObj D<|.deferred Z) x g:=y.kept V2 (d _ C) λF k f=>d k ((bld K S F).2 k f)
  exact⟨z.lt,z.es,z.cell,z.own,z.iter,z.bld,z.mp,z.mg,z.lp⟩
 refine h.sep.of (λb' x' g' I E=> .inl ⟨x',I,E⟩)<|λb' x' g' I E F _=> ?_;unfold jW;rw[d _ (bld I E F).1]
def R.swap (h:R B μ σ w){b:Nat}{x E:Blk}(S:σ.m b=O x)(L:x.own=Za)(X:E.own=Za)(I:μ b=O g)(K:g.it=O (.bool Za))(Q:w'.heap.size=w.heap.size)(f: ∀k,k≠g.c->w'.heap[k]?=w.heap[k]?)(hL:Lives B μ w' E g):
  R B μ (σ.set b<|O E) w':=by
 have hl:=h.get S I;have⟨o1,r,o4,_⟩:=hl.lp K
 have old: ∀l y,l≠b->(σ.set b<|O E).m l=O y->σ.m l=O y:=by
  intro l y A q;simpa[Hp.set,A]using q
 have U: ∀y,(σ.set b<|O E).m b=O y->y=E:=by
  intro y q;simp[Hp.set]at q;exact q.symm
 have n: ∀l y,(σ.set b<|O E).m l=O y->∃z,σ.m l=O z/\z.own=y.own:=by
  intro l y q;by_cases A:l=b
  .subst A;obtain rfl:=U y q;exact⟨x,S,L.trans X.symm⟩
  .exact⟨y,old l y A q,rfl⟩
 refine⟨by rw[Q];exact h.base,λk s=>(f k V1).trans<|h.old k s,h.fresh,λl y q=> ?_,λb1 b2 x1 x2 g1 g2 H h2 C M V W=> ?_, ?_,h.dfr_but (c:=g.c) (λd=>by rw[o4];simp) (λk s _=>f k s),h.mit_but (c:=g.c) (λo L e=>by rw[o4]at e;cases e;cases L) λk s _=>f k s⟩
 .by_cases A:l=b
  .subst A;obtain rfl:=U y q;exact⟨g,I,hL⟩
  .have u:=old l y A q;have⟨F,H,h2⟩:=h.live l y u;exact⟨F,H,h.stays u H (by rw[Q];exact aB _) g.c (λk s _=>f k s) (λe=>h.inj b l x y g F S u (λe=>A e.symm) L I H e.symm)<|λJ s=>((h.sep l y F u H J _ s b x g S I).1 rfl)⟩
 .obtain⟨y1,Y,e1⟩:=n _ _ H;have⟨y2,hy2,_⟩:=n _ _ h2;exact h.inj b1 b2 y1 y2 g1 g2 Y hy2 C (e1.trans M) V W
 .refine h.sep.of (λl y F q p=> .inl (let⟨z,hz,_⟩:=n l y q;⟨z,hz,p⟩)) (λl y F q p J _=> ?_);have C:l≠b:=λe=>by subst e;rw[I]at p;cases p;rw[K]at J;injection J with J;cases J
  unfold jW;rw[f _<|λe=>h.inj b l x y g F S q (λe=>C e.symm) L I p e.symm]
def R.turn (h:R B μ σ w){b:Nat}{x:Blk}{l:List Value}{fl fl':Bool}(z:σ.m b=O x)(H:x.own=Za)(E:x.cells=Ii fl::l)(y:μ b=O g)(f:g.it=O (.bool Za)){r:Loop}(I:w.heap[g.c]?=O (.loop r)):
  R B μ (σ.set b<|O ⟨Ii fl'::l,Za,x.es⟩) (w.putObj g.c<|.loop {r with state:=if fl' then LoopState.ready else LoopState.busy,pending:=Z}):=by
 have q:=h.get z y;have⟨J,S,n,K,Q,L,M⟩:=q.lp f;rw[I]at n;injection n with n
 cases n;refine h.swap z H rfl y f V2 (λk F=>World.putObj_heap_other F) ?_;refine⟨by simpa using q.lt,q.es,λp=>(by rw[f]at p;cases p),λp=>(by rw[f]at p;cases p),λs d=>Z4,λd=>Z4,λk d=>Z4,λ_ _ d=>Z4,λ_=>⟨J,_,World.putObj_heap_same q.lt,K,rfl,L,λC U e=> ?_⟩⟩;injection e with u A
 have u:=VI u;subst u A;exact⟨rfl,(M fl l E).2⟩
def R.endLoop (h:R B μ σ w){b:Nat}{x:Blk}(C:σ.m b=O x)(M:x.own=Za)(u:μ b=O g)(z:g.it=O (.bool Za))(A:w'.heap.size=w.heap.size)(d: ∀k,k≠g.c->w'.heap[k]?=w.heap[k]?):
  R B μ (σ.set b Z) w':=by
 have⟨S,r,H,_⟩:=(h.get C u).lp z
 have L: ∀l y,(σ.set b Z).m l=O y->σ.m l=O y/\l≠b:=by
  intro l y f;simp only[Hp.set]at f;split at f
  .cases f
  .rename_i n;exact⟨f,n⟩
 refine(h.kill b).leave g.c (λp Q e=>by
  have⟨F,_,s⟩:=h.mit p Q;rw[e,H]at s;injection s with s
  rw[<-s]at F
  cases F) S (λl y E f q=> ?_) (λI=> ?_) A d
 .obtain⟨f,n⟩:=L l y f;exact⟨λe=>h.inj b l x y g E C f (λe=>n e.symm) M u q e.symm,λJ K=>(h.sep l y E f q J _ K b x g C u).1 rfl⟩
 .have:=h.dfr.2 _ I;rw[H]at this;cases this
end
end
section
open Bool renaming and_eq_true->aD,or_eq_true->bB,false_eq_true->bD
open List renaming mem_cons_self->aB,mem_append_left->cB,mem_append_right->cD,mem_cons_of_mem->cV
open Nat renaming le_succ_of_le->cW
open Go.RowKit
def IS (P:Program)(N:Nat)(ops:Array Oper):List Oper->Option DL
 |[]=>O []
 |o::r=>match Gl P N ops o,IS P N ops r with
  |some x,O l=>O ((x,(o.after.toList.filter (Region.binds .any ·)).map (·.on))::l)
  |_,_=>Z
def AC.outsL :AC->List Nat
 | .seq a b| .cond _ a b=>a.outsL++b.outsL
 | .block id b=>b.outsL.filter λi=> !(i==id)
 | .loop b=>b.outsL
 | .exit j=>[j]
 |_=>[]
def ai9 : ∀(c:AC) (i:Nat),c.outs i=Za->i∈c.outsL:=by
 intro c;induction c with
 |seq a b d f=>
  intro i h;simp only[AC.outs,bB]at h;exact aF.2 (h.elim (λh=> .inl<|d i h) λh=> .inr<|f i h)
 |cond c a b d f=>
  intro i h;simp only[AC.outs,bB]at h;exact aF.2 (h.elim (λh=> .inl<|d i h) λh=> .inr<|f i h)
 |block id b k=>
  intro i h;simp only[AC.outs,aD]at h;exact List.mem_filter.2 ⟨k i h.1,h.2⟩
 |loop b k=>intro i h;exact k i h
 |exit j=>intro i h;simp[AC.outs]at h;simp[AC.outsL,h]
 |_=>intro i h;simp[AC.outs]at h
def AC.noJump (c:AC):Bool:=c.outsL.all λi=>Zc<|i<C4
def Oy {c:AC}(h:c.noJump=Za)(b:c.outs i=Za):i<C4:=by
 have:=aG.1 h i<|ai9 c i b;exact of_decide_eq_true this
def se :Code->List Nat
 | .seq a b=>se a++se b
 | .label l=>[l]
 |_=>[]
theorem DX : ∀(c:Code) (l:Nat),l∉se c->findLabel c l=Z:=by
 intro c;induction c with
 |seq a b d f=>
  intro l h;simp only[se,List.mem_append,not_or]at h;simp only[findLabel,d l h.1,f l h.2]
 |label k=>
  intro l h;simp only[se,List.mem_singleton]at h;simp only[findLabel]
  grind
 |_=>intro l h;rfl
def G4 (l:Nat):Code->Bool
 | .goto d=>d==l
 | .seq a b| .cond _ a b=>G4 l a||G4 l b
 | .block _ b| .loop b| .scope b=>G4 l b
 |_=>Zb
def EP :Code->Option Nat
 | .label l=>O l
 |_=>Z
def P0 {l:Nat}(h:EP c=O l):c= .label l:=by
 cases c<;>simp[EP]at h;rw[h]
def iY :Code->Option Nat
 | .seq a b=>match EP a with
  |some l=>if G4 l b then O l else iY b
  |none=>iY b
 |_=>Z
def Ay (l:Nat):Nat:=C4+2*l
def xi (l:Nat):Nat:=C4+2*l+1
def az8 (l:Nat)(b:AC):AC:= .block (xi l)<|.loop<|.block (Ay l)<|.seq b<|.exit<|xi l
def Ha (a b:Code):Bool:=match iY b with
 |some l=> !(se a).contains l
 |none=>Za
def pX (x:Option AC):Option AC×Option AC:=(x,x)
def aT2 :Option AC->Option AC->Option AC
 |some a,O b=>O (.seq a b)
 |_,_=>Z
def U1 (a b:Code)(d f sb:Option AC):Option AC:=match EP a with
 |some l=>if G4 l b then f.map (az8 l)else if Ha a b then sb.map (.seq .skip)else Z
 |none=>match d,sb with
  |some x,O y=>if Ha a b&&((iY b).isNone||x.noJump)then O (.seq x y)else Z
  |_,_=>Z
def MH (P:Program)(fi:FuncId)(N:Nat):Code->Option AC×Option AC
 | .skip=>pX (O .skip)
 | .label _=>pX (O .skip)
 | .region _ ops draw=>pX (if draw then match IS P N ops ops.toList with
   |some l=>if Ch l&&P.follows .mixedOrders then(match ET l (b8 l) [] []with
    |some d=>O (.sched d)
    |none=>O<|.draw l)else Z
   |none=>Z
  else(me P N ops ops.toList).map .region)
 | .seq a b=>(aT2 (MH P fi N a).1 (MH P fi N b).1,U1 a b (MH P fi N a).1 (MH P fi N b).1 (MH P fi N b).2)
 | .cond c a b=>pX (match vh c,(MH P fi N a).1,(MH P fi N b).1 with
  |some c,O a,O b=>O (.cond c a b)
  |_,_,_=>Z)
 | .block id b=>pX (if id<C4 then((MH P fi N b).1).map (.block id)else Z)
 | .loop b=>pX (((MH P fi N b).1).map .loop)
 | .scope b=>pX (match(MH P fi N b).2 with
  |some f=>if f.noJump then O f else Z
  |none=>Z)
 | .exit id=>pX (if id<C4 then O (.exit id)else Z)
 | .goto l=>pX (O<|.exit<|Ay l)
 | .ret=>pX (O .ret)
 | .rangeFunc g _ _ _=>pX ((vh g).map λx=> .region [⟨Z, .rangeF fi N x,Z⟩])
 |_=>pX Z
def iL (P:Program)(fi:FuncId)(N:Nat)(c:Code):Option AC:=(MH P fi N c).1
def QA (P:Program)(fi:FuncId)(N:Nat)(c:Code):Option AC:=(MH P fi N c).2
section
variable {P:Program} {T:gw} {ops:Array Oper} {B:Base P} {N:Nat} {fi:FuncId} {ro:Option Nat}
theorem Jr : ∀{l:List Oper} {al:DL},IS P N ops l=O al->b8 l=b8 al/\∀(i:Nat) o,l[i]?=O o->∃x,al[i]?=O (x,(o.after.toList.filter (Region.binds .any ·)).map (·.on))/\Gl P N ops o=O x
 |[],al,h=>by
  simp[IS]at h
  grind
 |o::l,al,h=>by
  simp only[IS]at h;split at h
  .rename_i x r h1 h2;cases h;have⟨b,d⟩:=Jr h2
   grind
  .cases h
def ax2 {al:DL}(h:IS P N ops ops.toList=O al):Fits P N ops al:=by
 have⟨l,f⟩:=Jr h;refine⟨by simpa using l,λi o d=> ?_,λi o d q=> ?_⟩
 .obtain⟨x,b,k⟩:=f i o V7;refine⟨x, ?_,k⟩;have:iH al i=(o.after.toList.filter (Region.binds .any ·)).map (·.on):=by simp[iH,b]
  rw[this];exact b
 have⟨x,b,k⟩:=f i o V7;have:iH al i=(o.after.toList.filter (Region.binds .any ·)).map (·.on):=by simp[iH,b]
 rw[this];simp[and_assoc]
def QI {ro:Option Nat}{b:Code}{f:(AExit->bj->Hp->Prop)->bj->Hp->Prop}
  (hb: ∀(Q:AExit->bj->Hp->Prop) (e:bj) (σ:Hp) (μ:Mu) (a:Act) (w:World),f Q e σ->RD B μ σ w a->dk μ N e a.tmps->True->b.wpIn (Rd ro) 0 P (mY B N μ w Q) a w)
  {Q:AExit->bj->Hp->Prop} {L:Mu} {J:World} {n:Nat}  {σ:Hp} {μ:Mu}   (h:jN f Q n e σ) (W:RD B μ σ w a) (Y:dk μ N e a.tmps) (X:True) (s:L.le μ) (m:Below B J w):
  (Code.loop b).wpIn (Rd ro) 0 P (mY B N L J Q) a w:=by
 intro U k V hro r hr
 have key: ∀n e σ μ a w,jN f Q n e σ->RD B μ σ w a->dk μ N e a.tmps->True->L.le μ->Below B J w->
   ∃x y w',mY B N L J Q x y w'/\ArrivesIn (Machine.fenced P<|Rd ro) P (lone (U.atR a<|.code b:: .inLoop b::k) V w) U k V x y w':=by
  intro n;induction n with
  |zero=>intro e σ μ a w h;exact h.elim
  |succ n ih=>
   intro e σ μ a w h W Y X s m;simp only[jN]at h;have⟨x,z,K,p,d⟩:=hb _ e σ μ a w h W Y X U (.inLoop b::k) V hro r hr;obtain⟨ax,A,S,M,u,p,C,E,F,H,I⟩:=p;cases ax with
   |normal=>
    cases x<;>simp[pm]at u;have⟨x₂,a₂,w₂,hq₂,q⟩:=ih A S M z K p E F H (Mu.le_trans s C)<|m.trans I;exact⟨x₂,a₂,w₂,hq₂, .of_steps (StepsIn.trans d<|.one (fenced_calm r hr rfl) stepR_inLoop) q⟩
   |exit id=>
    cases x with
    |exit j=>
     obtain⟨rfl,hj⟩:=u;exact⟨.exit id,z,K,⟨.exit id,A,S,M,⟨rfl,hj⟩,p,Mu.le_trans s C,E,F,H,m.trans I⟩, .pass (x:= .inLoop b) rfl (λ_ _=> .inl V2) d⟩
    |goto l=>exact⟨.goto l,z,K,⟨.exit id,A,S,M,u,p,Mu.le_trans s C,E,F,H,m.trans I⟩, .pass (x:= .inLoop b) rfl (λ_ _=> .inl V2) d⟩
    |_=>exact u.elim
   |ret=>
    cases x<;>simp[pm]at u;exact⟨.ret,z,K,⟨.ret,A,S,M,trivial,p,Mu.le_trans s C,E,F,H,m.trans I⟩, .pass (x:= .inLoop b) rfl (λ_ _=> .inl V2) d⟩
 have⟨x,y,w',p,d⟩:=key n e σ μ a w h W Y X s m;exact⟨x,y,w',p, .of_steps (.one (fenced_calm r hr rfl) stepR_loop) d⟩
theorem Ee {l:List Nat}{σ:Hp}: ∀{b:List<|Nat×(Hp->Prop)},xl l σ b->∀i c,(i,c)∈b->i∈l->c σ
 |[],_,i,c,h,_=>by cases h
 |(j,d)::r,f,i,c,h,k=>by
  simp only[xl]at f;rcases aA.1 h with h|h
  .injection h with m n
   grind
  .split at f
   .exact Ee f.2 i c h k
   .exact Ee f i c h k
def pP {al:DL}{m:Nat}{σ:Hp}: ∀{b:List<|Nat×(Hp->Prop)},(∀i c,(i,c)∈b->tw al i m=Zb->c σ)->A6 al m σ b
 |[],_=>trivial
 |(j,d)::r,h=>by
  simp only[A6];split
  .exact pP λi c f=>h i c (cV _ f)
  .rename_i hb;exact⟨h j d (aB ..) (by simpa using hb),pP λi c f=>h i c<|cV _ f⟩
def S7 {op:AOp}{σ:Hp}{k l:Value->Hp->Prop}(d:pF T)(b: ∀v σ',k v σ'->l v σ')(h:bp T op e σ k):bp T op e σ l:=by
 unfold bp at*;cases op<;>simp only at h⊢
 case call f xs=>exact d _ _ _ _ _ b h
 case callv f xs=>
  split at h
  .exact⟨h.1,d _ _ _ _ _ b h.2⟩
  exact h.elim
 case rangeF f n x=>
  split at h
  .exact⟨h.1,h.2.1,d _ _ _ _ _ (λ_ σ' q=>⟨q.1,b _ _ q.2⟩) h.2.2⟩
  exact h.elim
 all_goals
  split at h
  .exact b _ _ h
  exact h.elim
theorem D5 (s:pF T){Q:bj->Hp->Prop}{al:DL}: ∀(f:Nat) (done b:List Nat) (n:List SItem) (l k:List<|Nat×(Hp->Prop)) (e:bj) (σ:Hp),ET al f done b=O n->QH T Q n k e σ->
  (∀i c,(i,c)∈l->i∈b)->(∀i c,(i,c)∈l->ad6 al i=Za->(i,c)∈k)->CK T Q al f done l e σ
 |0,done,b,n,l,k,e,σ,h,d,_,_=>by
  simp[ET]at h;subst h;exact d
 |f+1,done,b,n,l,k,e,σ,h,d,z,y=>by
  simp only[ET]at h;simp only[CK];split at h
  .rename_i i hn;split at h
   .rename_i o p ho;obtain⟨r,u,h⟩:=aC.1 h;subst h;simp only[QH]at d;split at d
    .rename_i hwant;rw[zE hwant];simp only[bD,if_false]at d;split at d
     .rename_i v σ1 hrun;refine D5 s f _ _ _ _ _ _ _ u d (λj c q=> ?_) (λj c q A=> ?_)
      .by_cases I:o.op.isLoad=Za
       .rw[zE I]at q⊢
        grind
       grind
      grind
     .exact d.elim
    .rename_i hwant;rw[zF hwant];refine D5 s f _ _ _ _ _ _ _ u d (λj c q=> ?_) y
     grind
   .cases h
  .rename_i hn;split at h
   .rename_i hm;rw[hm];cases h;exact d
   .rename_i m hm;rw[hm];simp only[KV];split at h
    .rename_i o p ho;obtain⟨r,u,h⟩:=aC.1 h;subst h
     have F:UC al m=Za:=by
      have:=(yy.1 (show m∈br al done by rw[hm];exact aB ..)).2.2.2;simpa[CG,UC,ho]using this
     have E:m<b8 al:=(yy.1 (show m∈br al done by rw[hm];exact aB ..)).1;simp only[QH]at d⊢;split at d
     .rename_i hwant;rw[zE hwant];simp only[if_true]at d;refine S7 s (λv σ' A=> ?_) d;refine⟨pP λi c q H=> ?_,D5 s f _ _ _ _ _ _ _ u A.2 z y⟩;have C:ad6 al i=Za:=List.any_eq_true.2 ⟨m,aH.2 E,by simp[F,H]⟩;exact Ee A.1 i c (y i c q C) (by simp[z i c q,H])
     .rename_i hwant;rw[zF hwant];exact D5 s f _ _ _ _ _ _ _ u d z y
    .cases h
   .cases h
def Jj (l:Nat)(J:Act->World->Prop)(Q:Exit->Act->World->Prop):Exit->Act->World->Prop
 | .goto b,a,w=>(b=l/\J a w)∨(b≠l/\Q (.goto b) a w)
 |x,a,w=>Q x a w
def iD {b:Frame}{k:List Item}{cs:List Frame}:step P (lone (b.atR a<|.code (.scope c)::k) cs w)= .next (lone (b.atR a<|.code c:: .inScope c::k) cs w):=
 step_lone_go (by simp[stepG,stepG.exec,Frame.atR])
def AE {b:Frame}{k:List Item}{cs:List Frame}:step P (lone (b.atR a<|.inScope c::k) cs w)= .next (lone (b.atR a k) cs w):=
 step_lone_go (by simp[stepG,stepG.exec,Frame.atR])
def qo (id:Nat)(c:Code)(k:List Item):exitTo id (.inScope c::k)=exitTo id k:=by simp[exitTo]
def Tc {ro:Option Nat}{rest:Code}{Q:Exit->Act->World->Prop}(l:Nat)(J:Nat->Act->World->Prop)(hf:findLabel c l=O rest)(Y: ∀l' a w,¬Q (.goto l') a w)
  (first:c.wpIn (Rd ro) 0 P (Jj l (λa w=> ∃n,J n a w) Q) a w) (C: ∀n a w,J n a w->rest.wpIn (Rd ro) 0 P (Jj l (λa w=> ∃m,m<n/\J m a w) Q) a w):(Code.scope c).wpIn (Rd ro) 0 P Q a w:=by
 intro b k z A r E;have X: ∀{a:Act} {w:World},(lone (b.atR a<|.inScope c::k) z w).fenced P<|Rd ro:=λ{a w}=>fenced_calm r E rfl
 have s:(lone (b.atR a<|.code (.scope c)::k) z w).fenced P<|Rd ro:=fenced_calm r E rfl;have hg:gotoIn l (.inScope c::k)=O (.code rest:: .inScope c::k):=by simp[gotoIn,hf]
 have U: ∀n a w,J n a w->∃e W w',Q e W w'/\ArrivesIn (Machine.fenced P<|Rd ro) P (lone (b.atR a<|.code rest:: .inScope c::k) z w) b k z e W w':=by
  intro n;induction n using Nat.strongRecOn with
  |_ n ih=>
   intro a w hJ;have⟨e,p,q,f,d⟩:=C n a w hJ b (.inScope c::k) z A r E;cases e with
   |normal=>exact⟨.normal,p,q,f,StepsIn.trans d<|.one X AE⟩
   |exit id=>exact⟨.exit id,p,q,f,λS L=>d.1 S (by rw[qo];exact L),λI K=>d.2 I (by rw[qo];exact K)⟩
   |goto l'=>
    rcases f with⟨rfl,m,M,u⟩|⟨_,f⟩
    .obtain⟨H,F,V,y,h⟩:=ih m M p q u;exact⟨H,F,V,y, .of_steps (d.1 _ hg) h⟩
    .exact(Y _ _ _ f).elim
   |ret=>exact⟨_,p,q,f,d⟩
   |panic ch=>exact⟨_,p,q,f,d⟩
   |outgrown=>exact⟨_,p,q,f,d⟩
 have⟨e,p,q,f,d⟩:=first b (.inScope c::k) z A r E
 cases e with
 |normal=>exact⟨.normal,p,q,f, .head s iD<|StepsIn.trans d<|.one X AE⟩
 |exit id=>exact⟨.exit id,p,q,f,λS L=> .head s iD<|d.1 S (by rw[qo];exact L),λI K=>let⟨k₁,h3,h4⟩:=d.2 I (by rw[qo];exact K);⟨k₁,h3, .head s iD h4⟩⟩
 |goto l'=>
  rcases f with⟨rfl,n,u⟩|⟨_,f⟩
  .obtain⟨H,F,V,y,h⟩:=U n p q u;exact⟨H,F,V,y, .of_steps (.head s iD<|d.1 _ hg) h⟩
  .exact(Y _ _ _ f).elim
 |ret=>exact⟨_,p,q,f, .of_steps (.one s iD) d⟩
 |panic ch=>exact⟨_,p,q,f, .of_steps (.one s iD) d⟩
 |outgrown=>exact⟨_,p,q,f, .of_steps (.one s iD) d⟩
def Fr {ro:Option Nat}{Q:Exit->Act->World->Prop}(h:c.wpIn (Rd ro) 0 P (Exit.noGoto Q) a w):(Code.scope c).wpIn (Rd ro) 0 P Q a w:=by
 intro b k r u f s;have y: ∀{a:Act} {w:World},(lone (b.atR a<|.inScope c::k) r w).fenced P<|Rd ro:=λ{a w}=>fenced_calm f s rfl
 have m:(lone (b.atR a<|.code (.scope c)::k) r w).fenced P<|Rd ro:=fenced_calm f s rfl;have⟨e,p,q,n,d⟩:=h b (.inScope c::k) r u f s;cases e with
 |normal=>exact⟨.normal,p,q,n, .head m iD<|StepsIn.trans d<|.one y AE⟩
 |exit id=>exact⟨.exit id,p,q,n,λH F=> .head m iD<|d.1 H (by rw[qo];exact F),λz A=>let⟨I,C,E⟩:=d.2 z (by rw[qo];exact A);⟨I,C, .head m iD E⟩⟩
 |goto l=>exact n.elim
 |ret=>exact⟨_,p,q,n, .of_steps (.one m iD) d⟩
 |panic J=>exact⟨_,p,q,n, .of_steps (.one m iD) d⟩
 |outgrown=>exact⟨_,p,q,n, .of_steps (.one m iD) d⟩
def Jst {P:Program}(B:Base P)(N:Nat)(d:Mu)(b:World)(L:Nat->bj->Hp->Prop)(n:Nat):Act->World->Prop:=λa w=>
 ∃e σ μ,L n e σ/\d.le μ/\RD B μ σ w a/\dk μ N e a.tmps/\True/\Below B b w
def Aok (P:Program)(T:gw)(B:Base P)(fi:FuncId)(ro:Option Nat)(N:Nat)(c:Code):Prop:= ∀(b:AC),iL P fi N c=O b->∀(Q:AExit->bj->Hp->Prop) (e:bj) (σ:Hp) (μ:Mu) (a:Act) (w:World),rD T b Q e σ->
  RD B μ σ w a->dk μ N e a.tmps->True->c.wpIn (Rd ro) 0 P (mY B N μ w Q) a w
def TO (P:Program)(T:gw)(B:Base P)(fi:FuncId)(ro:Option Nat)(N:Nat)(c:Code):Prop:= ∀(h:AC),QA P fi N c=O h->∀(Q:AExit->bj->Hp->Prop),
 (iY c=Z->∀(e:bj) (σ:Hp) (μ:Mu) (a:Act) (w:World),rD T h Q e σ->RD B μ σ w a->dk μ N e a.tmps->True->c.wpIn (Rd ro) 0 P (mY B N μ w Q) a w)/\
 (∀l,iY c=O l->∃b L,findLabel c l=O b/\∀f d,
  (∀(e:bj) (σ:Hp) (μ:Mu) (a:Act) (w:World),rD T h Q e σ->RD B μ σ w a->dk μ N e a.tmps->True->f.le μ->Below B d w->c.wpIn (Rd ro) 0 P (Jj l (λa w=> ∃n,Jst B N f d L n a w)<|mY B N f d Q) a w)/\
  (∀n a w,Jst B N f d L n a w->b.wpIn (Rd ro) 0 P (Jj l (λa w=> ∃m,m<n/\Jst B N f d L m a w)<|mY B N f d Q) a w))
def TO.of (k:QA P fi N c=iL P fi N c)(m:iY c=Z)(h:Aok P T B fi ro N c):TO P T B fi ro N c:=λf b Q=>
 ⟨λ_=>h f (k▸b) Q,λl d=>by rw[m]at d;cases d⟩
def ID {μ:Mu}{Q:AExit->bj->Hp->Prop}{a':Act}{w':World}(h:mY B N μ w Q x a' w')(l:x≠ .normal): ∃b e' σ' μ',b≠ .normal/\pm b x/\Q b e' σ'/\μ.le μ'/\RD B μ' σ' w' a'/\dk μ' N e' a'.tmps/\True/\Below B w w':=by
 have⟨b,e',σ',μ',d,f,k⟩:=h;refine⟨b,e',σ',μ', ?_,d,f,k⟩;rintro rfl;cases x<;>first|exact d.elim|exact l rfl
def aD2 {μ:Mu}{Q Q':AExit->bj->Hp->Prop}{a':Act}{w':World}(h:mY B N μ w Q x a' w')(m: ∀b e σ,pm b x->Q b e σ->Q' b e σ):mY B N μ w Q' x a' w':=by
 have⟨b,f,σ',n,d,k,l⟩:=h;exact⟨b,f,σ',n,d,m _ _ _ d k,l⟩
def UX {x y:Code}{μ:Mu}{Q1:AExit->bj->Hp->Prop}{F:Exit->Act->World->Prop}(h:x.wpIn (Rd ro) 0 P (mY B N μ w Q1) a w)
  (z: ∀e σ μ' a' w',Q1 .normal e σ->μ.le μ'->RD B μ' σ w' a'->dk μ' N e a'.tmps->True->Below B w w'->y.wpIn (Rd ro) 0 P F a' w')
  (d: ∀x a' w',x≠ .normal->mY B N μ w Q1 x a' w'->F x a' w'):(Code.seq x y).wpIn (Rd ro) 0 P F a w:=by
 refine wpIn_seq<|wpIn_mono h λA a' w' b=> ?_;cases A with
 |normal=>
  have⟨k,m,σ',μ',f,n,p,q,r,s,u⟩:=b;cases k with
  |normal=>exact z m σ' μ' a' w' n p q r s u
  |exit i=>exact f.elim
  |ret=>exact f.elim
 |exit i=>exact d _ a' w' V2 b
 |goto l=>exact d _ a' w' V2 b
 |ret=>exact d _ a' w' V2 b
 |panic C=>exact d _ a' w' V2 b
 |outgrown=>exact d _ a' w' V2 b
def R0 {l:Nat}{J:Act->World->Prop}{F:Exit->Act->World->Prop}(f:x= .goto l->J a w)(d:x≠ .goto l->F x a w):Jj l J F x a w:=by
 cases x with
 |goto h=>
  by_cases b:h=l
  .subst b;exact .inl ⟨rfl,f rfl⟩
  exact .inr ⟨b,d (by simpa using b)⟩
 |_=>exact d V2
def LJ {l:Nat}{J J':Act->World->Prop}{F F':Exit->Act->World->Prop}(k: ∀a w,J a w->J' a w)(f: ∀x a w,F x a w->F' x a w)(h:Jj l J F x a w):Jj l J' F' x a w:=by
 cases x with
 |goto m=>
  rcases h with⟨b,d⟩|⟨b,d⟩
  .exact .inl ⟨b,k _ _ d⟩
  exact .inr ⟨b,f _ _ _ d⟩
 |_=>exact f _ _ _ h
theorem am2 (hT: ∀f,Fm P f<|T f){g:Operand}{Y:Array Tmp}{x y:Code}(hs:yE P fi=O (N,Y,x,y)){g':Operand}(hg:vh g=O g'){Q:AExit->bj->Hp->Prop}{σ:Hp}{μ:Mu}(C:rD T (.region [⟨Z, .rangeF fi N g',Z⟩]) Q e σ)
  (s:RD B μ σ w a) (K:dk μ N e a.tmps):(Code.rangeFunc g Y x y).wpIn (Rd Z) 0 P (mY B N μ w Q) a w:=by
 obtain⟨ds,s,hd⟩:=s;obtain⟨rfl,V⟩:=az hg;have hv:=K.ev V;simp only[rD,kM,wanted,if_true,bp]at C;split at C
 .rename_i gf first caps hev
  rw[hev]at hv;obtain⟨p,l,C⟩:=C;obtain⟨x',y',e1,e2,e3⟩:=hv.func_inv p
  have e4:x'= #[]:=by
   have:=e2.length;rw[l]at this;exact Array.toList_inj.1 (aK.1 this.symm)
  subst e4
  have hy:Cl gf=Zb:=by
   unfold yR at p;unfold Cl;cases q:Nat.ble 2000000 gf with
   |false=>rfl
   |true=>
    rw[Nat.ble_eq]at q;have:Nat.ble 1000000 gf=Za:=by rw[Nat.ble_eq];omega
    rw[this]at p;cases p
  refine wpIn_rangeFunc λfn _=> ?_
  let I:Loop:={state:= .ready,pending:=Z,fn,tmps:=a.tmps,params:=Y,assign:=x,body:=y,defers:=w.heap.size}
  have L:R (more B ds) μ σ<|w.alloc<|.deferred<|O []:=s.allocO _;have hD:(w.alloc<|.deferred<|O []).heap[w.heap.size]?=O (.deferred<|O []):=World.alloc_heap_new w _;have M:=L.moreD hD (λhm=>Nat.lt_irrefl _ (Array.getElem?_eq_some_iff.1 (s.dfr.2 _ hm)).1) s.base;have A:F2 (VR μ) ((List.range N).map e) a.tmps.toList:=K.list;obtain⟨E,m⟩:=M.addLoop fi I _ (by rw[hs,<-K.1]) rfl rfl A;have hl:(w.alloc<|.deferred<|O []).heap.size=w.heap.size+1:=by simp
  rw[hl]at E m
  have W:VR (μ.add σ.n ⟨w.heap.size+1,0,a.tmps.size,1,fi,O<|.bool Za⟩) (YB fi σ.n)<|.func (.yield<|w.heap.size+1) #[] #[]:=
   VR.yl (g:=⟨w.heap.size+1,0,a.tmps.size,1,fi,O<|.bool Za⟩) (by simp[Mu.add]) rfl
  have u:F2 (VR<|μ.add σ.n ⟨w.heap.size+1,0,a.tmps.size,1,fi,O<|.bool Za⟩) (YB fi σ.n::caps.toList) (#[Value.func (.yield<|w.heap.size+1) #[] #[]]++y').toList:=by
   simpa using F2.cons W (e3.imp λ_ _ k=>k.mono m)
  obtain⟨z,d⟩:=(hT gf _ _ _ _ _ _ _ C E).1 hy u
  refine⟨w.heap.size+1,[{target:= .collected w.heap.size,args:= #[]}],(w.alloc<|.deferred<|O []).alloc<|.loop I,{target:= .fn (.func gf) y',args:= #[.func (.yield<|w.heap.size+1) #[] #[]]},(w.alloc<|.deferred<|O []).alloc<|.loop I,gf,
   #[.func (.yield<|w.heap.size+1) #[] #[]]++y',(w.alloc<|.deferred<|O []).alloc<|.loop I,run_enterLoop_outer _ _ _ _ _, ?_,λ_ _=>trivial, ?_,λh=>(by cases h), ?_⟩
  .have ec:a.eval (.const<|.func (.yield<|w.heap.size+1) #[] #[])= .func (.yield<|w.heap.size+1) #[] #[]:=rfl;simp[resolve,rangeCall,e1,Deferred.ofValue,ec]
  .simp[invoke,EG z]
  .refine Mg (d.mono λex w' hx=> ?_);obtain⟨r,σ',r',μ',rfl,⟨⟨bx,F,U,b⟩,hq⟩,q2,q3,q4,q5,_⟩:=hx;have H:=q2 _ _ (show(μ.add σ.n ⟨w.heap.size+1,0,a.tmps.size,1,fi,O<|.bool Za⟩) σ.n=O ⟨w.heap.size+1,0,a.tmps.size,1,fi,O<|.bool Za⟩by simp[Mu.add]);obtain⟨_,rr,X,k2,k3,_,k5⟩:=(q3.get F H).lp rfl
   obtain⟨vs,J⟩: ∃vs,bx.cells=Ii Za::vs:=by
    cases J:bx.cells with
    |nil=>rw[J]at b;cases b
    |cons c cs=>
     rw[J]at b;simp at b;exact⟨cs,by rw[b]⟩
   have k4:=(k5 Za vs J).1;have X:w'.heap[w.heap.size+1]?=O (.loop rr):=X;refine⟨Z,w'.putObj (w.heap.size+1)<|.loop {rr with state:= .exhausted}, ?_, .normal,e,σ'.set σ.n Z,μ',trivial,hq,Mu.le_trans m q2,⟨w.heap.size::ds, ?_, ?_⟩,K.mono<|Mu.le_trans m q2,trivial, ?_⟩
   .have:=run_endLoop (P:=P) X (by rw[k4];simp);exact this.trans (by rw[k3])
   .exact q3.endLoop F U H rfl (by simp) λk hk=>World.putObj_heap_other hk
   .show _++a.defers=_;rw[hd];rfl
   .have S:Below B w<|(w.alloc<|.deferred<|O []).alloc<|.loop I:=((Below.refl _ w).alloc s.base _).alloc (by rw[hl];exact cW s.base) _;refine(S.trans q5).trans ?_;exact(Below.refl _ w').grown (grownBy_putObj' w' _ _) (by have:=q3.base;exact this) (λk e=>by cases e;exact cW s.base)
 .exact C.elim
theorem aa1 (hM:pF T)(hT: ∀f,Fm P f<|T f): ∀(c:Code),(∀s∈jf c,ro=Z/\yE P fi=O (N,s))->Aok P T B fi ro N c/\TO P T B fi ro N c:=by
 intro c;induction c with
 |skip=>
  intro H;refine(λA=>⟨A,TO.of rfl rfl A⟩) ?_;intro W h Q e σ μ a w d k p m;simp[iL,MH,pX]at h;subst h;exact wpIn_skip ⟨.normal,e,σ,μ,trivial,d,μ.le_refl,k,p,m,Below.refl _ _⟩
 |label l=>
  intro H;refine(λA=>⟨A,TO.of rfl rfl A⟩) ?_;intro W h Q e σ μ a w d k p m;simp[iL,MH,pX]at h;subst h;exact wpIn_label ⟨.normal,e,σ,μ,trivial,d,μ.le_refl,k,p,m,Below.refl _ _⟩
 |goto l=>
  intro H;refine(λA=>⟨A,TO.of rfl rfl A⟩) ?_;intro W h Q e σ μ a w d k p m;simp[iL,MH,pX]at h;subst h;exact wpIn_goto ⟨.exit<|Ay l,e,σ,μ,rfl,d,μ.le_refl,k,p,m,Below.refl _ _⟩
 |region id ops draw=>
  intro H;refine(λA=>⟨A,TO.of rfl rfl A⟩) ?_;intro W h Q e σ μ a w d k p m;simp only[iL,MH,pX]at h;cases draw with
  |false=>
   simp only[bD,if_false]at h;obtain⟨al,r,h⟩:=aC.1 h;subst h;obtain⟨ds,k,m⟩:=k;exact wpIn_region_list (UK hT ops.toList al e σ μ a w r d k p m μ.le_refl<|Below.refl _ _)
  |true=>
   simp only[if_true]at h;split at h
   .rename_i al r;split at h
    .rename_i h2
     have d:CK T (Q .normal) al (b8 al) [] [] e σ:=by
      split at h
      .rename_i its hits;injection h with h
       subst h;exact D5 hM (b8 al) [] [] its [] [] e σ hits d (λi c hc=>(by cases hc)) (λi c hc=>(by cases hc))
      injection h with h
      subst h;exact d
     simp only[aD]at h2;have hF:=ax2 r;have hempty: ∀(val:Nat->Value),jb al e val []=e:=λval=>funext λt=>oJ λi X=>by cases X
     obtain⟨ds,k,m⟩:=k;refine wpIn_region_any h2.2 ?_;have hl:vR (b8 al) []<=b8 al:=by unfold vR;exact Nat.le_trans (List.length_filter_le _ _) V2
     refine av7 hT hF h2.1 (e0:=e) ops.size (b8 al) (λ_=>undef) [] [] [] _ σ μ a _ (by rw[hempty];exact d) hl (by rw[hF.len];exact hl) ⟨λi X=>aS,λi X=>aS,λi X=>aS,λi X=>aS,λi X=>aS⟩ V2 (λi X=>by simp[X]) (k.same rfl) (by rw[hempty];exact p) m μ.le_refl (Below.refl _ _).drew
    cases h
   cases h
 |seq x y F z=>
  intro H;have F:=F λs h=>H s (cB _ h)
  have z:=z λs h=>H s (cD _ h)
  refine⟨?_, ?_⟩
  .intro W h Q e σ μ a w d k p m;have h:aT2 (iL P fi N x) (iL P fi N y)=O W:=h;unfold aT2 at h;split at h
   .rename_i ax ay r h2;injection h with h
    subst h;simp only[rD]at d;have r:iL P fi N x=O ax:=r;have h2:iL P fi N y=O ay:=h2;refine UX (F.1 ax r _ e σ μ a w d k p m) (λu σ' C K w' hq g1 g2 g3 g4 g5=> ?_) λx' K w' Y hp=> ?_
    .exact wpIn_mono (z.1 ay h2 Q u σ' C K w' hq g2 g3 g4) λx'' a'' w'' h''=>h''.trans g1 g5
    have⟨J,u,σ',C,h0,h1',h2',h3'⟩:=ID hp Y;refine⟨J,u,σ',C,h1', ?_,h3'⟩
    grind
   cases h
  intro W h Q;have h:U1 x y (iL P fi N x) (iL P fi N y) (QA P fi N y)=O W:=h;unfold U1 at h;split at h
  .rename_i l hl;obtain rfl:=P0 hl;split at h
   .
    rename_i hg;obtain⟨yc,r,h⟩:=aC.1 h;subst h;have V:iY (.seq (.label l) y)=O l:=by simp[iY,EP,hg]
    refine⟨λhn=>(by rw[V]at hn;cases hn),λM q=> ?_⟩;rw[V]at q;injection q with q
    subst q
    let Q1:AExit->bj->Hp->Prop:=λx e σ=>match x with
     | .exit i=>if i=xi l then Q .normal e σ else Q (.exit i) e σ
     |x=>Q x e σ
    let S:AC:= .block (Ay l) (.seq yc<|.exit<|xi l)
    have hne:xi l≠Ay l:=by unfold xi Ay;omega
    have round: ∀(n:Nat) (e:bj) (σ:Hp) (μ:Mu) (a:Act) (w:World) (μ0:Mu) (w0:World),jN (rD T S) Q1 (n+1) e σ->RD B μ σ w a->dk μ N e a.tmps->True->μ0.le μ->Below B w0 w->
      y.wpIn (Rd ro) 0 P (Jj l (λa w=>Jst B N μ0 w0 (λn=>jN (rD T S) Q1 n) n a w)<|mY B N μ0 w0 Q) a w:=by
     intro n e σ μ a w μ0 w0 d k p m hμ U;simp only[jN,S,rD]at d;refine wpIn_mono (z.1 yc r _ e σ μ a w d k p m) λx' K w' hp=> ?_
     have⟨ax,u,σ',C,q1,q2,q3,q4,q5,q6,q7⟩:=hp;refine R0 (λY=> ?_) λY=> ?_
     .subst Y;cases ax with
      |exit i=>
       have q1:i=Ay l:=q1;subst q1;simp only[if_true]at q2;exact⟨u,σ',C,q2,Mu.le_trans hμ q3,q4,q5,q6,U.trans q7⟩
      |_=>exact q1.elim
     .cases ax with
      |normal=>
       simp only[zF hne]at q2;simp only[Q1,if_true]at q2;exact⟨.normal,u,σ',C,q1,q2,Mu.le_trans hμ q3,q4,q5,q6,U.trans q7⟩
      |ret=>exact⟨.ret,u,σ',C,q1,q2,Mu.le_trans hμ q3,q4,q5,q6,U.trans q7⟩
      |exit i=>
       have X:i≠Ay l/\i≠xi l:=by
        cases x' with
        |exit j=>
         obtain⟨rfl,hj⟩:=q1;unfold Ay xi;omega
        |goto M=>
         have q1:i=C4+2*M:=q1;have:M≠l:=λe=>Y (by rw[e])
         unfold Ay xi;omega
        |_=>exact q1.elim
       simp only[zF X.1,Q1,zF X.2]at q2;exact⟨.exit i,u,σ',C,q1,q2,Mu.le_trans hμ q3,q4,q5,q6,U.trans q7⟩
    refine⟨.seq .skip y,λn=>jN (rD T S) Q1 n,by simp[findLabel],λμ0 w0=>⟨λe σ μ a w d k p m hμ U=> ?_,λn a w hJ=> ?_⟩⟩
    .have hw': ∃n,jN (rD T S) Q1 n e σ:=d
     have⟨n,hn⟩:=hw';cases n with
     |zero=>exact hn.elim
     |succ n=>
      refine wpIn_seq<|wpIn_label ?_;exact wpIn_mono (round n e σ μ a w μ0 w0 hn k p m hμ U) λx' K w' h'=>LJ (λ_ _ h=>⟨n,h⟩) (λ_ _ _ h=>h) h'
    have⟨e,σ,μ,hn,hμ,k,p,m,U⟩:=hJ;cases n with
    |zero=>exact hn.elim
    |succ n=>
     refine wpIn_seq<|wpIn_skip ?_;exact wpIn_mono (round n e σ μ a w μ0 w0 hn k p m hμ U) λx' K w' h'=>LJ (λ_ _ h=>⟨n,Nat.lt_succ_self n,h⟩) (λ_ _ _ h=>h) h'
   
   rename_i hg;split at h
   .rename_i E;obtain⟨yc,r,h⟩:=aC.1 h;subst h;have V:iY (.seq (.label l) y)=iY y:=by simp[iY,EP,hg]
    have⟨s1,s2⟩:=z.2 yc r Q;refine⟨λhn e σ μ a w d k p m=>wpIn_seq<|wpIn_label ?_,λM q=> ?_⟩
    .exact s1 (V▸hn) e σ μ a w d k p m
    rw[V]at q;have⟨I,L,hf,hJ⟩:=s2 M q
    have hlab:findLabel (.seq (.label l) y) M=O I:=by
     have:findLabel (.label l) M=Z:=DX _ _ (by
      unfold Ha at E;rw[q]at E
      simpa using E)
     simp[findLabel,hf]at this⊢;simp[this]
    refine⟨I,L,hlab,λμ0 w0=>⟨λe σ μ a w d k p m hμ U=>wpIn_seq<|wpIn_label ?_,(hJ μ0 w0).2⟩⟩;exact(hJ μ0 w0).1 e σ μ a w d k p m hμ U
   cases h
  rename_i hl;split at h
  .rename_i ax ay r h2;split at h
   .rename_i E;rw[aD,bB]at E;obtain⟨E,hnj⟩:=E;injection h with h
    subst h;have V:iY (.seq x y)=iY y:=by simp[iY,hl]
    have⟨s1,s2⟩:=z.2 ay h2 Q;refine⟨λhn e σ μ a w d k p m=> ?_,λM q=> ?_⟩
    .simp only[rD]at d;refine UX (F.1 ax r _ e σ μ a w d k p m) (λu σ' C K w' hq g1 g2 g3 g4 g5=> ?_) λx' K w' Y hp=> ?_
     .exact wpIn_mono (s1 (V▸hn) u σ' C K w' hq g2 g3 g4) λx'' a'' w'' h''=>h''.trans g1 g5
     have⟨J,u,σ',C,h0,h1',h2',h3'⟩:=ID hp Y;refine⟨J,u,σ',C,h1', ?_,h3'⟩
     grind
    rw[V]at q;have⟨I,L,hf,hJ⟩:=s2 M q
    have hlab:findLabel (.seq x y) M=O I:=by
     have:findLabel x M=Z:=DX _ _ (by
      unfold Ha at E;rw[q]at E
      simpa using E)
     simp[findLabel,hf,this]
    have hnj:ax.noJump=Za:=by
     grind
    refine⟨I,L,hlab,λμ0 w0=>⟨λe σ μ a w d k p m hμ U=> ?_,(hJ μ0 w0).2⟩⟩;simp only[rD]at d;refine UX (F.1 ax r _ e σ μ a w (Tu hM _ _ e σ d) k p m) (λu σ' C K w' hq g1 g2 g3 g4 g5=> ?_) λx' K w' Y hp=> ?_
    .exact(hJ μ0 w0).1 u σ' C K w' hq.2 g2 g3 g4 (Mu.le_trans hμ g1) (U.trans g5)
    have⟨J,u,σ',C,h0,h1',h2',h3',h4',h5',h6',h7'⟩:=ID hp Y;refine R0 (λhg=> ?_) λ_=> ?_
    .subst hg;cases J with
     |exit i=>
      have k1:i=C4+2*M:=h1';have:=Oy hnj<|h2'.1 i rfl;omega
     |_=>exact h1'.elim
    refine⟨J,u,σ',C,h1', ?_,Mu.le_trans hμ h3',h4',h5',h6',U.trans h7'⟩;cases J with
    |normal=>exact(h0 rfl).elim
    |exit i=>exact h2'.2
    |ret=>exact h2'.2
   cases h
  cases h
 |cond c x y F z=>
  intro H;have F:=F λs h=>H s (cB _ h)
  have z:=z λs h=>H s (cD _ h)
  refine(λA=>⟨A,TO.of rfl rfl A⟩) ?_;intro W h Q e σ μ a w d k p m;simp only[iL,MH,pX]at h;split at h
  .rename_i c' ax ay h0 r h2;injection h with h
   subst h;obtain⟨rfl,k0⟩:=az h0;have hv:=p.ev k0;simp only[rD]at d;split at d
   .rename_i U;rw[U]at hv;exact wpIn_cond_true hv.bool_inv (F.1 ax r Q e σ μ a w d k p m)
   .rename_i U;rw[U]at hv;exact wpIn_cond_false hv.bool_inv (z.1 ay h2 Q e σ μ a w d k p m)
   exact d.elim
  cases h
 |block id b ih=>
  intro H;have ih:=ih H;refine(λA=>⟨A,TO.of rfl rfl A⟩) ?_;intro W h Q e σ μ a w d k p m;simp only[iL,MH,pX]at h;split at h
  .rename_i hlt;obtain⟨ab,r,h⟩:=aC.1 h;subst h;simp only[rD]at d;refine wpIn_block<|wpIn_mono (ih.1 ab r _ e σ μ a w d k p m) λx K w' Y=> ?_;have⟨J,u,σ',C,hxr,hq,g1,g2,g3,g4,g5⟩:=Y;cases J with
   |normal=>
    cases x<;>simp[pm]at hxr;exact⟨.normal,u,σ',C,trivial,hq,g1,g2,g3,g4,g5⟩
   |exit i=>
    simp only at hq;cases x with
    |exit j=>
     obtain⟨rfl,hj⟩:=hxr;simp only[Exit.inBlock];split
     .rename_i hid;rw[zE hid]at hq;exact⟨.normal,u,σ',C,trivial,hq,g1,g2,g3,g4,g5⟩
     rename_i hid;rw[zF hid]at hq;exact⟨.exit i,u,σ',C,⟨rfl,hj⟩,hq,g1,g2,g3,g4,g5⟩
    |goto l=>
     have hxr':i=C4+2*l:=hxr;rw[Zh]at hq;exact⟨.exit i,u,σ',C,hxr,hq,g1,g2,g3,g4,g5⟩
    |_=>exact hxr.elim
   |ret=>
    cases x<;>simp[pm]at hxr;exact⟨.ret,u,σ',C,trivial,hq,g1,g2,g3,g4,g5⟩
  cases h
 |loop b ih=>
  intro H;have ih:=ih H;refine(λA=>⟨A,TO.of rfl rfl A⟩) ?_;intro W h Q e σ μ a w d k p m;simp only[iL,MH,pX]at h;obtain⟨ab,r,h⟩:=aC.1 h;subst h;simp only[rD]at d;have⟨n,hn⟩:=d;exact QI (f:=rD T ab) (λQ e σ μ a w hf=>ih.1 ab r Q e σ μ a w hf) hn k p m μ.le_refl (Below.refl _ _)
 |scope b ih=>
  intro H;have ih:=ih H;refine(λA=>⟨A,TO.of rfl rfl A⟩) ?_;intro W h Q e σ μ a w d k p m;simp only[iL,MH,pX]at h;split at h
  .rename_i ac' r;split at h
   .rename_i hno;injection h with h
    subst h;have hw':=Tu hM _ Q e σ d
    have hng: ∀(M:Nat) (a:Act) (w':World),¬mY B N μ w (TD ac' Q) (.goto M) a w':=by
     rintro M a w' ⟨ax,u,σ',C,k1,k2,_⟩;cases ax with
     |exit i=>
      have k1:i=C4+2*M:=k1;have:=Oy hno<|k2.1 i rfl;omega
     |_=>exact k1.elim
    have fin: ∀{x:Exit} {K:Act} {w':World},mY B N μ w (TD ac' Q) x K w'->mY B N μ w Q x K w':=λh=>aD2 h λ_ _ _ _ h=>h.2
    have⟨s1,s2⟩:=ih.2 ac' r<|TD ac' Q;cases hl:iY b with
    |none=>
     refine Fr<|wpIn_mono (s1 hl e σ μ a w hw' k p m) λx K w' Y=> ?_;cases x with
     |goto M=>exact(hng M K w' Y).elim
     |_=>exact fin Y
    |some l=>
     have⟨I,L,hf,hJ⟩:=s2 l hl;have⟨j1,j2⟩:=hJ μ w;refine wpIn_mono (Tc l (Jst B N μ w L) hf hng (j1 e σ μ a w hw' k p m μ.le_refl<|Below.refl _ _) j2) λx K w' Y=>fin Y
   cases h
  cases h
 |exit id=>
  intro H;refine(λA=>⟨A,TO.of rfl rfl A⟩) ?_;intro W h Q e σ μ a w d k p m;simp only[iL,MH,pX]at h;split at h
  .rename_i hlt;injection h with h
   subst h;exact wpIn_exit ⟨.exit id,e,σ,μ,⟨rfl,hlt⟩,d,μ.le_refl,k,p,m,Below.refl _ _⟩
  cases h
 |ret=>
  intro H;refine(λA=>⟨A,TO.of rfl rfl A⟩) ?_;intro W h Q e σ μ a w d k p m;simp[iL,MH,pX]at h;subst h;exact wpIn_ret ⟨.ret,e,σ,μ,trivial,d,μ.le_refl,k,p,m,Below.refl _ _⟩
 |rangeFunc g ps x y F z=>
  intro H;refine(λA=>⟨A,TO.of rfl rfl A⟩) ?_;intro W h Q e σ μ a w d k p m;obtain⟨rfl,hsite⟩:=H _<|aB ..;have h:(vh g).map (λx=>AC.region [⟨Z, .rangeF fi N x,Z⟩])=O W:=h;obtain⟨x',r,rfl⟩:=aC.1 h;exact am2 hT hsite r d k p
 |refuse why=>
  intro H;refine(λA=>⟨A,TO.of rfl rfl A⟩) ?_;intro W h;simp[iL,MH,pX]at h
def Cf (d:pF T)(l: ∀f,Fm P f<|T f)(c:Code)(b:AC)(h:iL P fi N c=O b)(Q:AExit->bj->Hp->Prop)(e:bj)(σ:Hp)(μ:Mu)(a:Act)(w:World)(q:rD T b Q e σ)
  (k:RD B μ σ w a) (n:dk μ N e a.tmps) (m:True) (p: ∀s∈jf c,ro=Z/\yE P fi=O (N,s)):c.wpIn (Rd ro) 0 P (mY B N μ w Q) a w:=(aa1 d l c p).1 b h Q e σ μ a w q k n m
end
end
section
open List renaming getElem?_eq_getElem->bD,mem_cons_self->cB
open Result renaming andThen_ok->aB
open Sem renaming run_bind->aD,run_pure->bB
open Go.RowKit
def FG (P:Program):List ResultVar->Option (List ARes)
 |[]=>O []
 | .tmp t::r=>(FG P r).map (.tmp t:: ·)
 | .cell a t::r=>match zn P t,lE P t,FG P r with
  |some Za,O n,O r=>O (.cellN a n::r)
  |some Zb,O _,O r=>O (.cell a::r)
  |_,_,_=>Z
def Vc (P:Program)(f:FuncId):Option AFn:=match P.funcs[f]? with
 |some b=>match b.body,Ie P f with
  |some c,true=>match iL P f b.ntmps c,FG P b.results.toList,jf c with
   |some d,O h,[]|some d,O h,[_]=>O ⟨b.ntmps,h,d⟩
   |_,_,_=>Z
  |_,_=>Z
 |none=>Z
section
variable {P:Program} {T:gw} {B:Base P} {N:Nat} {μ:Mu} {σ:Hp} {w:World} {e:bj}
def Gf (tmps:Array Value):ResultVar->Sem Value
 | .tmp t=>pure (tmps.getD t undef)
 | .cell a t=>do loadVar t (<-asAddr (tmps.getD a undef))
def UV (fn:Func)(tmps:Array Value):results fn tmps=(do
  let vs<-fn.results.mapM (Gf tmps)
  pure (if h:vs.size=1 then vs[0]else .tuple vs)):=rfl
theorem Qi {tmps:Array Value}(u:dk μ N e tmps)(s:R B μ σ w): ∀(l:List ResultVar) (rs:List ARes) (vs:List Value),FG P l=O rs->Fq e σ rs=O vs->
  ∃f,(l.mapM<|Gf tmps).run P w= .ok f w/\F2 (VR μ) vs f
 |[],rs,vs,h,d=>by
  simp[FG]at h;subst h;simp[Fq]at d;subst d;exact⟨[],V2, .nil⟩
 | .tmp t::l,rs,vs,h,d=>by
  simp only[FG]at h;obtain⟨m,q,h⟩:=aC.1 h;subst h;simp only[Fq]at d;split at d
  .rename_i v vs1 h2 h3;cases d;simp[Mk]at h2;subst h2;have⟨f,k,r⟩:=Qi u s l m vs1 q h3;refine⟨tmps.getD t undef::f, ?_, .cons (u.2 t) r⟩;have J:(Gf tmps<|.tmp t).run P w= .ok (tmps.getD t undef) w:=rfl
   simp_all
  .cases d
 | .cell a t::l,rs,vs,h,d=>by
  simp only[FG]at h;have z:=u.2 a;split at h
  .rename_i n m q h2 h3;cases h;simp only[Fq]at d;split at d
   .rename_i v vs1 k r;cases d;have⟨f,L,A⟩:=Qi u s l m vs1 h3 r;simp only[Mk]at k;split at k
    .rename_i b o hb;rw[hb]at z;have⟨g,y,E⟩:=z.ptr_inv;obtain⟨x,F,k⟩:=aM.1 k;obtain⟨M,C,rfl⟩:=aC.1 k;have⟨p,H,I⟩:=s.reads F y C;refine⟨.agg p.toArray::f, ?_, .cons (.agg I) A⟩
     have J:(Gf tmps<|.cell a t).run P w= .ok (.agg p.toArray) w:=by
      simp only[Gf,aD,E,asAddr,bB,aB,loadVar,E5 q,if_true,my h2,H P w rfl]
     simp_all
    .cases k
   .cases d
  .rename_i n m q h2 h3;cases h;simp only[Fq]at d;split at d
   .rename_i v vs1 k r;cases d;have⟨f,L,A⟩:=Qi u s l m vs1 h3 r;simp only[Mk]at k;split at k
    .rename_i b o hb;rw[hb]at z;have⟨g,y,E⟩:=z.ptr_inv;obtain⟨x,F,k⟩:=aM.1 k;have⟨K,H,I⟩:=(s.get F y.1).cell y.2 o v k;refine⟨K::f, ?_, .cons I A⟩
     have J:(Gf tmps<|.cell a t).run P w= .ok K w:=by
      simp only[Gf,aD,E,asAddr,bB,aB,loadVar,E5 q,Bool.false_eq_true,if_false,run_load,H]
     simp_all
    .cases k
   .cases d
  .cases h
theorem Is {fn:Func}{rs:List ARes}(m:FG P fn.results.toList=O rs){K:Value->Hp->Prop}{tmps:Array Value}{e':bj}{σ':Hp}{μ':Mu}(n:dk μ' N e' tmps)(p:μ.le μ')(f:match Fq e' σ' rs with
  |some vs=>K (tO vs) σ'
  |none=>False): ∀(ds:List Nat) (w':World),R (more B ds) μ' σ' w'->Below B w w'->LeavesInM (Rd Z) 0 P fn tmps (WZ P B μ w K) (dfs ds) .returning w'
 |[],w',b,l=>by
  have b:R B μ' σ' w':=b;show LeavesIn _ _ _ _ _ _ _ _ _;split at f
  .rename_i vs hvs;obtain⟨d,z,q⟩:=Qi (P:=P) n b fn.results.toList rs vs m hvs;have y:=q.length;refine⟨tO d, ?_,_,σ',_,μ',rfl,f,p,b, ?_,l,rfl⟩
   .rw[UV,Array.mapM_eq_mapM_toList];simp only[aD,Sem.run_map,z,aB,bB]
    congr 1
    match d,y with
    |[],_=>rfl
    |[v],_=>rfl
    |v::u::r,_=>simp[tO]
   .match vs,d,q with
    |[],_, .nil=>exact .tuple .nil
    |[v],_, .cons h .nil=>exact h
    |v::u::r,_, .cons h (.cons s t)=>exact .tuple (.cons h<|.cons s t)
  .exact f.elim
 |D::ds,w',b,l=>by
  refine⟨by simp, .inl ⟨D,_,rfl,run_takeDeferred<|b.dfr.2 D<|cB ..,Is m n p f ds _ b.shut ?_⟩⟩;exact l.trans<|(Below.refl _ w').grown (grownBy_putObj' w' _ _) (by have:=b.base;exact this) (λk e=>by cases e;exact b.dfr.1.2 D<|cB ..)
def ac5 {f:FuncId}{I:AFn}(h:Vc P f=O I)(hM:pF T)(hT: ∀g,Fm P g<|T g):Fm P f<|wpF T I:=by
 unfold Vc at h;split at h
 .rename_i k hfn;split at h
  .rename_i c hb hen
   obtain⟨l,p,u,y,m,rfl⟩: ∃l p,iL P f k.ntmps c=O l/\FG P k.results.toList=O p/\(∀s∈jf c,(Z:Option Nat)=Z/\yE P f=O (k.ntmps,s))/\I=⟨k.ntmps,p,l⟩:=by
    split at h
    .rename_i l p u y m;injection h with h
     exact⟨l,p,u,y,λs E=>(by rw[m]at E;cases E),h.symm⟩
    .rename_i l p s0 u y m;injection h with h
     refine⟨l,p,u,y,λs E=>⟨rfl, ?_⟩,h.symm⟩;rw[m,List.mem_singleton]at E;subst E;unfold yE;rw[hfn];simp only[hb,Option.map_some,m]
    cases h
   have q:Bs P f:=by
    unfold Ie at hen;rw[hfn]at hen;simp only[Bool.and_eq_true,Bool.not_eq_true']at hen;exact⟨k,hfn,hen.1,hen.2⟩
   refine Fm.mk' q λB μ σ w d b K J hR M=> ?_
   obtain⟨A,J⟩:=J;refine callsIn_wide.1<|callsIn_of_wp_marks (F:=Rd Z) (n:=0) hfn hb trivial ?_;have hsz:b.size=d.length:=by simpa using M.length.symm
   have z:dk μ k.ntmps (bj.of d)<|b++Array.replicate (k.ntmps-b.size) undef:=by
    refine⟨by simp only[Array.size_append,Array.size_replicate];simp only at A;omega,λt=> ?_⟩;unfold bj.of;by_cases Q:t<d.length
    .obtain⟨S,m,h4⟩:=M.get t d[t] (bD Q)
     have:(b++Array.replicate (k.ntmps-b.size) undef).getD t undef=S:=by
      simp only[Array.getD_eq_getD_getElem?];rw[Array.getElem?_append_left V1];have:b[t]?=O S:=by simpa using m
      simp[this]
     rw[this,bD Q];exact h4
    have:(b++Array.replicate (k.ntmps-b.size) undef).getD t undef=undef:=by
     simp only[Array.getD_eq_getD_getElem?];rw[Array.getElem?_append_right V1,Array.getElem?_replicate];split<;>rfl
    rw[this,List.getElem?_eq_none V1];exact VR.undef μ
   refine wpIn_mono (Cf hM hT c l u _ _ σ μ ⟨_,[]⟩ w J ⟨[],hR,rfl⟩ z trivial m) λx L w' hx=> ?_
   obtain⟨U,W,σ',μ',H,C,X,⟨V,Y,g4⟩,g3,_,g5⟩:=hx
   have r:(match Fq W σ' p with
     |some vs=>K (tO vs) σ'
     |none=>False)->LeavesInM (Rd Z) 0 P k L.tmps (WZ P B μ w K) L.defers .returning w':=λC=>by
    rw[g4];exact Is y g3 X C V w' Y g5
   cases U with
   |normal=>
    cases x<;>simp[pm]at H;exact r C
   |exit id=>exact C.elim
   |ret=>
    cases x<;>simp[pm]at H;exact r C
  cases h
 cases h
def Fm.of {f:FuncId}{S S':HU}(h:Fm P f S)(d: ∀args σ K,S' args σ K->S args σ K):Fm P f S':=
 λB μ σ w args b K k=>h B μ σ w args b K<|d args σ K k
end
def VR.narrow {μ F μ':Mu}(n: ∀b g A,μ b=O g->F b=O A->μ' b=O A): ∀{v u:Value},VR μ v u->∀{K:Value},VR F v K->VR μ' v K
 |_,_, .bool b,_,h=>by cases h;exact .bool b
 |_,_, .int k m,_,h=>by cases h;exact .int k m
 |_,_, .string s,_,h=>by cases h;exact .string s
 |_,_, .nilp,_,h=>by cases h;exact .nilp
 |_,_, .ptr f,_,h=>by cases h with|ptr d=>exact .ptr ⟨n _ _ _ f.1 d.1,d.2⟩
 |_,_, .nils,_,h=>by cases h;exact .nils
 |_,_, .slice f _ _ _,_,h=>by cases h with
  |slice d q C E=>exact .slice ⟨n _ _ _ f.1 d.1,d.2⟩ q C E
  |slice0 A' d=>exact .slice0 _ ⟨n _ _ _ f.1 d.1,d.2⟩
 |_,_, .slice0 A' f,_,h=>by cases h with
  |slice d q C E=>exact .slice ⟨n _ _ _ f.1 d.1,d.2⟩ q C E
  |slice0 A' d=>exact .slice0 _ ⟨n _ _ _ f.1 d.1,d.2⟩
 |_,_, .sliceX f _,_,h=>by cases h with
  |sliceX d q=>exact .sliceX ⟨n _ _ _ f.1 d.1,d.2⟩ q
  |sliceX0 A' d=>exact .sliceX0 _ ⟨n _ _ _ f.1 d.1,d.2⟩
 |_,_, .sliceX0 A' f,_,h=>by cases h with
  |sliceX d q=>exact .sliceX ⟨n _ _ _ f.1 d.1,d.2⟩ q
  |sliceX0 A' d=>exact .sliceX0 _ ⟨n _ _ _ f.1 d.1,d.2⟩
 |_,_, .nilf,_,h=>by cases h;exact .nilf
 |_,_, .nilm,_,h=>by cases h;exact .nilm
 |_,_, .junk _,_,h=>by
  cases h with
  |junk h=>exact .junk h
 |_,_, .mp f _,_,h=>by
  obtain⟨g,d,q,rfl⟩:=h.mp_inv;exact .mp (n _ _ _ f d) q
 |_,_, .mg f _,_,h=>by
  obtain⟨g,d,q,rfl⟩:=h.mg_inv;exact .mg (n _ _ _ f d) q
 |_,_, @VR.yl _ L H f _,_,h=>by
  obtain⟨M,A,p,r,I,_,V,rfl⟩:=h.yl_inv (ad5 H.ty)
  have Q:H.ty=A.ty:=by
   unfold QR at I;exact Nat.add_left_cancel I
  have S:L=M:=by simpa using V
  subst S;rw[Q];exact .yl (n _ _ _ f p) r
 |_,_, .func z d q,_,h=>by cases h with
  |func U p r=>exact .func U (y d p) (y q r)
  |mp p r=>rw[VU]at z;cases z
  |mg p r=>cases z
  |yl p r=>rw[RZ]at z;cases z
 |_,_, .iter f _,_,h=>by cases h with|iter p r=>exact .iter (n _ _ _ f p) r
 |_,_, .nili,_,h=>by cases h;exact .nili
 |_,_, .agg d,_,h=>by cases h with|agg p=>exact .agg (y d p)
 |_,_, .tuple d,_,h=>by cases h with|tuple p=>exact .tuple<|y d p
where
 y {l m:List Value}:F2 (VR μ) l m->∀{J:List Value},F2 (VR F) l J->F2 (VR μ') l J
 | .nil,_,h=>by cases h;exact .nil
 | .cons d W,_,h=>by cases h with|cons p r=>exact .cons (VR.narrow n d p)<|y W r
end
end Go.Ab
