/- A part of the proof. No condition. -/
import Derived.Test.YtlmlogmcgeijcaaGreatDoorL4
import Derived.Test.YtlmlogmcgeijcaaGreatDoorA10
import Derived.Test.YtlmlogmcgeijcaaGreatDoorD3
set_option linter.unusedVariables false
set_option linter.unusedSimpArgs false
set_option linter.unusedSectionVars false
namespace Go.V
open Go.Ab
open Option renaming some->O,none->Y
open Bool renaming true->Za,false->Zb
open Decidable renaming decide->Zc
variable {W t:Zd}{b c d d' i j k l r s:Nat}{a x y:Int}
set_option maxRecDepth 100000
section
open Nat renaming le_of_eq -> aB
section
variable {c:Cx} (h:c.Ok) (wT:cv c.T) {W st ax at':Zd}
def jb (c:Cx)(t:Int)(x:Zd):TS:=tq c.fl (fill c.R (Fg c t x)) (cj c.fl.n)
include h wT
theorem Has.lens (H:Has c W st ax at'):st.length=c.X.length/\ax.length=c.X.length/\at'.length=c.T.length/\cv st/\cv ax/\cv at':=by
 refine⟨?_, ?_, ?_, ?_, ?_, ?_⟩
 .rw[<-H.s];exact dp (H.wd.in' h (i:=1) (by omega))
 .rw[<-H.x];exact dp (H.wd.in' h (i:=5) (by omega))
 .rw[<-H.a];exact dp (H.wd.in' h (i:=6) (by omega))
 .rw[<-H.s];exact H.w.seg _ _
 .rw[<-H.x];exact H.w.seg _ _
 .rw[<-H.a];exact H.w.seg _ _
theorem yD {t:Int}{x:Zd}(o:x.length=c.X.length)(p:cv x):cv (jb c t x).1/\cv (jb c t x).2.1/\(jb c t x).1.length=c.R.toNat/\(jb c t x).2.1.length=c.fl.n/\(jb c t x).1.take c.X.length=yC c t x:=by
 obtain⟨⟨v,w⟩,u,q,A,B,z⟩:=h.lens;obtain⟨e,f,g,m⟩:=F0 h.pl (r:=fill c.R (Fg c t x)) (t:=cj c.fl.n) (OD p wT).fill (cv.rep _);refine⟨e,f,g.trans (kw (by rw[DP t o];omega)),m.trans (cd _), ?_⟩;unfold jb yC;rw[NC]
omit wT in
theorem Has.stepR (H:Has c W st ax at')(p:Int):stepR c W p=jb c p st:=by
 unfold Go.V.stepR jb Fg;rw[H.s,H.t]
omit wT in
theorem Has.lossR (H:Has c W st ax at')(x:Zd):lossR c W x=tq c.fk (fill c.Q (x++(c.T++[]))) (cj c.fk.n):=by
 unfold Go.V.lossR;rw[H.t]
theorem Has.lossV (H:Has c W st ax at')(x:Zd):rg (Go.V.lossR c W x).1 0=lossV c x:=by
 rw[H.lossR h,NC];rfl
theorem Has.taped (H:Has c W st ax at')(p:Int):Has c (Go.V.put W (c.off 2) (Go.V.stepR c W p).1) st ax at':=by
 obtain⟨g,v,w,m,z,A⟩:=H.lens h wT;obtain⟨e,o,f,q,u⟩:=yD h wT (t:=p) g m;rw[H.stepR h];exact H.put h (i:=2) (by omega) (aB f) e (by omega) (by omega) (by omega) (by omega)
theorem Has.endd (H:Has c W st ax at'){x:Zd}(g:x.length=c.X.length)(m:cv x):Has c (HT c W x) st ((zt c x).take c.X.length) (yg c.X.length at' (zt c x)):=by
 obtain⟨⟨D,E⟩,B,A,J,K,I⟩:=h.lens;have C:(x++(c.T++[])).length=c.X.length+c.T.length:=by simp[g]
 have u:cv (x++(c.T++[])):=m.app (wT.app λv p=>by cases p);obtain⟨o,w,f,z⟩:=F0 h.pk (r:=fill c.Q (x++(c.T++[]))) (t:=cj c.fk.n) u.fill (cv.rep _);rw[kw (by omega)]at f;obtain⟨F,q⟩:=Q4 h wT g m;unfold HT;rw[H.lossR h];have H3:=H.put h (i:=3) (by omega) (aB f) o (by omega) (by omega) (by omega) (by omega);have e:(jr c.fk (tq c.fk (fill c.Q (x++(c.T++[]))) (cj c.fk.n)).1 (fill c.Q [1]) (tq c.fk (fill c.Q (x++(c.T++[]))) (cj c.fk.n)).2.1).2.1=zt c x:=rfl;rw[e];exact H3.back h (by omega) (by omega) q
theorem Has.turn (H:Has c W st ax at'){p:Int}{x:Zd}(f:x.length=c.X.length)(q:cv x):Has c (L6 c W (jb c p x).1 (jb c p x).2.1) st ((tY c p x ax).take c.X.length) (yg c.X.length at' (tY c p x ax)):=by
 obtain⟨⟨C,D⟩,v,u,I,J,F⟩:=h.lens;obtain⟨w,g,z,A,m,B⟩:=H.lens h wT;obtain⟨E,o⟩:=I1 h wT (t:=p) f q g m;unfold L6;rw[H.x];have e:(jr c.fl (jb c p x).1 (fill c.R ax) (jb c p x).2.1).2.1=tY c p x ax:=rfl;rw[e];exact H.back h (by omega) (by omega) o
theorem Has.adv1 (H:Has c W st ax at')(p:Int):Has c (Go.V.adv1 c W p) (yC c p st) ax at':=by
 obtain⟨⟨D,E⟩,w,v,I,J,F⟩:=h.lens;obtain⟨g,z,A,m,B,C⟩:=H.lens h wT
 have e:I7 c W p=JL c.fl (fill c.R (Fg c p st)):=by
  unfold I7 Fg;rw[H.s,H.t]
 obtain⟨f,o⟩:=LM h.pl (r:=fill c.R (Fg c p st)) (OD m wT).fill;rw[kw (by rw[DP p g];omega)]at f;obtain⟨q,u⟩:=zL h wT (t:=p) g m;unfold Go.V.adv1;rw[e];exact(H.put h (i:=2) (by omega) (aB f) o (by omega) (by omega) (by omega) (by omega)).put1 h q u
def F7 (c:Cx)(t:Int)(x:Zd):Nat->Zd
 |0=>x
 |i+1=>yC c (t+(i:Int)) (F7 c t x i)
theorem Has.advW (H:Has c W st ax at')(p:Int): ∀i,Has c (Go.V.advW c W p i) (F7 c p st i) ax at'
 |0=>H
 |i+1=>(Has.advW H p i).adv1 h wT _
theorem Ck {t:Int}{x:Zd}(e:x.length=c.X.length)(f:cv x): ∀i,(F7 c t x i).length=c.X.length/\cv (F7 c t x i)
 |0=>⟨e,f⟩
 |i+1=>zL h wT (Ck e f i).1 (Ck e f i).2
theorem Has.rev (H:Has c W st ax at')(p:Int):Has c (WB c W p) st ((tY c p st ax).take c.X.length) (yg c.X.length at' (tY c p st ax)):=by
 obtain⟨e,g,m,f,o,q⟩:=H.lens h wT;unfold WB;have:=(H.taped h wT p).turn h wT (p:=p) e f;rw[H.stepR h]at this⊢;exact this
theorem Has.both (H:Has c W st ax at')(p:Int):Has c (MX c W p) st ((tY c p st ((zt c (yC c p st)).take c.X.length)).take c.X.length) (yg c.X.length (yg c.X.length at' (zt c (yC c p st))) (tY c p st ((zt c (yC c p st)).take c.X.length))):=by
 obtain⟨e,z,A,f,B,C⟩:=H.lens h wT;obtain⟨q,u,v,w,g⟩:=yD h wT (t:=p) e f;obtain⟨m,o⟩:=zL h wT (t:=p) e f;unfold MX;have H2:=H.taped h wT p;rw[H.stepR h]at H2⊢;rw[g];exact(H2.endd h wT m o).turn h wT (p:=p) e f
end
end
section
open Nat renaming le_refl -> aB
def ch :Nat->Nat->Nat
 |_,0=>1
 |0,_+1=>0
 |n+1,k+1=>ch n k+ch n (k+1)
theorem OH (n:Nat):ch n 0=1:=by cases n<;>rfl
theorem Jy (n k:Nat):ch (n+1) (k+1)=ch n k+ch n (k+1):=rfl
theorem OI : ∀n k,ch (n+1) (k+1)*(k+1)=ch n k*(n+1)
 |0,0=>rfl
 |0,k+1=>by rw[Jy];simp[ch]
 |n+1,0=>by
  have h:=OI n 0;rw[OH]at h;rw[Jy (n+1) 0,OH];omega
 |n+1,k+1=>by
  have e:=OI n k;have f:=OI n (k+1);rw[Jy (n+1) (k+1),Nat.add_mul,f,show k+1+1=(k+1)+1 from rfl,Nat.mul_add (ch (n+1) (k+1)),e,Nat.mul_one,Jy n k,Nat.mul_add (ch n k+ch n (k+1)) (n+1) 1,Nat.add_mul];omega
theorem Sx : ∀{n k:Nat},k<=n->1<=ch n k
 |n,0,_=>by rw[OH];exact aB _
 |n+1,k+1,h=>by rw[Jy];have:=Sx (n:=n) (k:=k) (by omega);omega
theorem OJ : ∀{n k:Nat},n<k->ch n k=0
 |0,k+1,_=>rfl
 |n+1,k+1,h=>by rw[Jy,OJ (by omega),OJ (by omega)]
theorem TX (n:Nat):ch n n=1:=by
 induction n with
 |zero=>rfl
 |succ n e=>rw[Jy,e,OJ (by omega)]
theorem GF : ∀s a b,a+b=s->ch s a=ch s b
 |0,a,b,h=>by rw[show a=0 by omega,show b=0 by omega]
 |s+1,0,b,h=>by rw[show b=s+1 by omega,OH,TX]
 |s+1,a+1,0,h=>by rw[show a=s by omega,OH,TX]
 |s+1,a+1,b+1,h=>by
  rw[Jy,Jy,GF s a (b+1) (by omega),GF s (a+1) b (by omega)];omega
theorem aJ3 (d i:Nat):ch (d+i) i<=ch (d+(i+1)) (i+1):=by
 rw[show d+(i+1)=(d+i)+1 by omega,Jy];omega
theorem Xz (d:Nat)(h:i<=j):ch (d+i) i<=ch (d+j) j:=by
 induction j with
 |zero=>rw[show i=0 by omega];exact aB _
 |succ j e=>
  by_cases hi:i=j+1
  .rw[hi];exact aB _
  .exact Nat.le_trans (e (by omega)) (aJ3 d j)
theorem JS {s:Nat}(e:1<=s): ∀l,l+1<=ch (s+l) l
 |0=>by rw[OH];exact aB _
 |l+1=>by
  rw[show s+(l+1)=(s+l)+1 by omega,Jy];have:=JS e l;have:=Sx (n:=s+l) (k:=l+1) (by omega);omega
def wV :Nat:=1099511627776
def Vz (n k:Int):Int:=if n<0∨k<0∨n<k then 0 else((min wV (ch n.toNat k.toNat):Nat):Int)
theorem af7 (hi:1<=i):ch (d+(i-1)) (i-1)*(d+i) / i=ch (d+i) i:=by
 have:=OI (d+(i-1)) (i-1);rw[show i-1+1=i by omega,show d+(i-1)+1=d+i by omega]at this;rw[<-this];exact Nat.mul_div_cancel _ (by omega)
structure IsRep (l s r:Nat):Prop where
 up:l<=ch (s+r) r
 low: ∀x,x<r->ch (s+x) x<l
theorem IsRep.eq {e:Nat}(h:IsRep l s r)(f:IsRep l s e):r=e:=by
 rcases Nat.lt_trichotomy r e with k|k|k
 .have:=f.low _ k;have:=h.up;omega
 .exact k
 .have:=h.low _ k;have:=f.up;omega
theorem IsRep.le (h:IsRep l s r)(e:1<=s):r<=l:=by
 rcases Nat.lt_or_ge l r with k|k
 .have:=h.low _ k;have:=JS e l;omega
 .exact k
theorem aE1 (h:l<=ch (s+r) r)(h':r=0∨ch (s+(r-1)) (r-1)<l):IsRep l s r:=
 ⟨h,λx e=>by
  rcases h' with h'|h'
  .omega
  .exact Nat.lt_of_le_of_lt (Xz s (show x<=r-1 by omega)) h'⟩
def spI (n c r:Int):Int:=max 1 (max (Vz (c+r-2) c) (n-Vz (c+r-1) (c-1)))
theorem OG {n:Nat}(h:k<=n):Vz (n:Int) (k:Int)=((min wV (ch n k):Nat):Int):=by
 unfold Vz;rw[Zh];rfl
theorem az5 (n k:Int):0<=Vz n k/\Vz n k<=1099511627776:=by
 unfold Vz wV;split<;>omega
theorem aE9 {n:Nat}(z:2<=n)(w:1<=c)(m:IsRep n c r)(v:n<=65536):1<=spI n c r/\spI n c r<=n-1/\(c=1->spI n c r=n-1):=by
 have A:1<=r:=by
  rcases Nat.eq_zero_or_pos r with h|h
  .have:=m.up;rw[h,OH]at this;omega
  .exact h
 have g:=m.low (r-1) (by omega)
 have a1:Vz ((c:Int)+r-2) c<=(n:Int)-1:=by
  unfold Vz;split
  .omega
  .rename_i h;rw[show((c:Int)+r-2).toNat=c+r-2 by omega,Int.toNat_natCast];have q:ch (c+(r-1)) (r-1)=ch (c+(r-1)) c:=GF _ _ _ (by omega)
   have u:ch (c+r-2) c<=ch (c+(r-1)) c:=by
    obtain⟨e,rfl⟩: ∃e,c=e+1:=⟨c-1,by omega⟩
    rw[show e+1+(r-1)=(e+1+r-2)+1 by omega,Jy];omega
   omega
 have p:1<=Vz ((c:Int)+r-1) (c-1):=by
  rw[show(c:Int)+r-1=((c+r-1:Nat):Int)by omega,show(c:Int)-1=((c-1:Nat):Int)by omega,OG (by omega)];have:=Sx (n:=c+r-1) (k:=c-1) (by omega);unfold wV;omega
 unfold spI;refine⟨by omega,by omega,λf=> ?_⟩;subst f
 have o:Vz (((1:Nat):Int)+r-1) (((1:Nat):Int)-1)=1:=by
  rw[show(((1:Nat):Int))+r-1=((r:Nat):Int)by omega,show(((1:Nat):Int))-1=((0:Nat):Int)by omega,OG (by omega),OH];rfl
 rw[o];omega
end
section
open List renaming getElem_mem -> aB
structure Mc where
 L:Int
 p:Int
 q:Int
 t:Zd
def JC (a:Int×Int)(m:Mc):Option Mc:=
 if a.1=1 then(if 1<=a.2/\a.2<=65535/\m.p+a.2<=m.L then O {m with p:=m.p+a.2}else Y)
 else if a.1=2 then(if 0<=a.2/\a.2<m.t.length/\m.t.getD a.2.toNat 0<0 then O {m with t:=m.t.set a.2.toNat m.p}else Y)
 else if a.1=3 then(if 0<=a.2/\a.2<m.t.length/\0<=m.t.getD a.2.toNat 0 then O {m with p:=m.t.getD a.2.toNat 0}else Y)
 else if a.1=4 then(if 0<=a.2/\a.2<m.t.length/\0<=m.t.getD a.2.toNat 0 then O {m with t:=m.t.set a.2.toNat (-1)}else Y)
 else if a.1=5 then(if a.2=0/\m.q= -1/\m.p=m.L then O {m with q:=m.p}else Y)
 else if a.1=6 then(if a.2=0/\m.q= -1/\m.p=m.L-1 then O {m with q:=m.p}else Y)
 else if a.1=7 then(if a.2=0/\0<m.q/\m.p=m.q-1 then O {m with q:=m.p}else Y)
 else Y
inductive Run (nx:Mc->Option (Int×Int)):Mc->List (Int×Int)->Mc->Prop
 |nil (m:Mc):Run nx m [] m
 |cons {m m' m'':Mc} {a:Int×Int} {l:List (Int×Int)}:nx m=O a->JC a m=O m'->Run nx m' l m''->Run nx m (a::l) m''
theorem Run.append {f:Mc->Option (Int×Int)}{m m' e:Mc}{l l':List (Int×Int)}(h:Run f m l m')(g:Run f m' l' e):Run f m (l++l') e:=by
 induction h with
 |nil=>exact g
 |cons a b _ o=>exact .cons a b (o g)
theorem Run.one {e:Mc->Option (Int×Int)}{m m':Mc}{a:Int×Int}(f:e m=O a)(g:JC a m=O m'):Run e m [a] m':= .cons f g (.nil _)
def mO (t:Zd):Int:=t.foldl max (-1)
def zK (t:Zd)(x:Int):Nat:=t.findIdx λy=>Zc (y=x)
def CF (t:Zd):Nat:=t.countP λy=>Zc (y<0)
def Mf (t:Zd):Nat:=t.findIdx λy=>Zc (y<0)
def Hc (l s:Nat):Nat:=((List.range (l+1)).find? λr=>Zc (l<=ch (s+r) r)).getD 0
theorem UP (l:Nat)(g:1<=s):IsRep l s (Hc l s):=by
 unfold Hc;cases h:(List.range (l+1)).find? λr=>Zc (l<=ch (s+r) r)with
 |none=>
  have:=List.find?_eq_none.1 h l (List.mem_range.2 (by omega));have:=JS g l;simp only[decide_eq_true_eq]at*;omega
 |some r=>
  obtain⟨e,f⟩:=List.find?_range_eq_some.1 h;refine⟨of_decide_eq_true e,λx m=> ?_⟩;have:=f.2 x m;simp only[Bool.not_eq_true',decide_eq_false_iff_not]at this;omega
def A5 (m:Mc):Option (Int×Int):=
 let e:=if m.q<0 then m.L else m.q
 if 0<=m.q/\e<=mO m.t then O (4,zK m.t (mO m.t))
 else if m.q=0 then Y
 else if m.q<0/\m.p=m.L then O (5,0)
 else if m.p=e-1 then(if 0<=m.q then O (7,0)else O (6,0))
 else if mO m.t<0 then(if e<=m.p then Y else O (2,0))
 else if m.p<mO m.t∨e<=m.p then O (3,zK m.t (mO m.t))
 else if mO m.t<m.p/\0<CF m.t then O (2,Mf m.t)
 else if mO m.t<m.p then O (1,e-1-m.p)
 else O (1,spI (e-mO m.t) (CF m.t+1) (Hc (e-mO m.t).toNat (CF m.t+1)))
theorem uo (t:Zd): ∀x,x<=t.foldl max x/\(∀y∈t,y<=t.foldl max x)/\(t.foldl max x=x∨t.foldl max x∈t):=by
 induction t with
 |nil=>exact λx=>⟨Int.le_refl _,λy hy=>by(cases hy), .inl rfl⟩
 |cons z t f=>
  intro x;obtain⟨g,e,h3⟩:=f (max x z);rw[List.foldl_cons];refine⟨by omega,λy hy=> ?_, ?_⟩
  .rcases List.mem_cons.1 hy with rfl|hy
   .omega
   .exact e y hy
  .rcases h3 with h3|h3
   .rw[h3];rcases Int.le_total x z with k|k
    .exact .inr (by rw[Int.max_eq_right k];exact List.mem_cons_self ..)
    .exact .inl (Int.max_eq_left k)
   .exact .inr (List.mem_cons_of_mem _ h3)
theorem It (g: -1<=x)(e: ∀y∈t,y<=x)(f:x= -1∨x∈t):mO t=x:=by
 obtain⟨a,b,c⟩:=uo t (-1);unfold mO
 have u:t.foldl max (-1)<=x:=by
  rcases c with c|c
  .omega
  .exact e _ c
 have v:x<=t.foldl max (-1):=by
  rcases f with h|h
  .omega
  .exact b _ h
 omega
theorem aF7 (f:0<=x)(e: ∀y∈t,y<x):mO t<x:=by
 obtain⟨a,b,c⟩:=uo t (-1);unfold mO;rcases c with c|c
 .omega
 .exact e _ c
theorem GW (h:y∈t.set k a):y∈t∨y=a:=List.mem_or_eq_of_mem_set h
theorem ar7 (g:0<=a)(e:k<t.length)(h: ∀y∈t,y<a):mO (t.set k a)=a:=
 It (by omega) (λy f=>by rcases GW f with k|k;exact Int.le_of_lt (h y k);omega) (.inr (List.mem_set e a))
theorem ar0 (e:k<t.length)(h: ∀y∈t,y<a):zK (t.set k a) a=k:=by
 unfold zK;rw[List.findIdx_eq (by rw[List.length_set];exact e)];refine⟨by simp,λj f=> ?_⟩;have:=h t[j] (aB _);rw[List.getElem_set_ne (by omega)];exact zA (by omega)
theorem ab7 (h:0<CF t): ∃e:Mf t<t.length,t[Mf t]<0:=by
 unfold CF at h;obtain⟨y,g,f⟩:=List.countP_pos_iff.1 h;have e:Mf t<t.length:=List.findIdx_lt_length_of_exists ⟨y,g,f⟩;refine⟨e,of_decide_eq_true (List.findIdx_getElem (w:=e))⟩
theorem ai8 (f:0<=a)(e:k<t.length)(h:t[k]<0):CF (t.set k a)+1=CF t:=by
 unfold CF;rw[List.countP_set e,zB h,zA (show¬a<0 by omega)];have:0<t.countP λy=>Zc (y<0):=List.countP_pos_iff.2 ⟨_,aB e,zB h⟩
 simp only[if_true,Bool.false_eq_true,if_false];omega
end
section
open Int renaming reduceEq -> aB, toNat_natCast -> aD
open List renaming length_set -> bB, getD_eq_getElem?_getD -> bD, getElem_mem -> cB
def Y9 (n c:Nat):Nat:=(spI n c (Hc n c)).toNat
theorem aa0 {n:Nat}(m:2<=n)(e:1<=c)(g:n<=65536):1<=Y9 n c/\Y9 n c+1<=n/\(c=1->Y9 n c+1=n)/\((Y9 n c:Nat):Int)=spI n c (Hc n c):=by
 obtain⟨o,p,f⟩:=aE9 m e (UP n e) g;unfold Y9;exact⟨by omega,by omega,λh=>by have:=f h;omega,by omega⟩
def hld (t:Zd):List Bool:=t.map λy=>Zc (0<=y)
def pt :Nat->Bool->Nat->Nat->Nat->List Bool->Bool->List (Int×Int)
 |0,_,_,_,_,_,_=>[]
 |f+1,Zb,n,c,_,h,e=>if n=1 then [(if e then 6 else 7,0)]else(2,((h.findIdx λb=> !b:Nat):Int))::pt f Za n c (h.findIdx λb=> !b) (h.set (h.findIdx λb=> !b) Za) e
 |f+1,Za,n,c,k,h,e=>if n<=1 then [(7,0),(4,(k:Int))]else(1,(Y9 n c:Int))::(pt f Zb (n-Y9 n c) (c-1) 0 h e++(3,(k:Int))::pt f Za (Y9 n c) c k h Zb)
theorem aj7 (t:Zd):((hld t).findIdx λb=> !b)=Mf t:=by
 unfold hld Mf;rw[List.findIdx_map]
 congr 1
 funext y
 show(!Zc (0<=y))=Zc (y<0);by_cases h:0<=y
 .rw[zB h,Ze];rfl
 .rw[zA h,Zf];rfl
theorem aj6 (t:Zd)(k:Nat)(e:0<=a):hld (t.set k a)=(hld t).set k Za:=by
 unfold hld;rw[List.map_set,zB e]
theorem Qs (e:k<t.length):(t.set k a).getD k 0=a:=by
 rw[bD,List.getElem?_set_self e];rfl
structure At30 (L q a:Int)(n:Nat)(last:Bool):Prop where
 fa:0<=a
 fn:1<=n/\n<=65535
 fe:(if q<0 then L else q)=a+n
 fl:last=Za->q= -1
 fm:last=Zb->0<=q
 fL:a+n<=L
theorem YZ : ∀(f:Nat),(∀(n c k:Nat) (t:Zd) (e:Bool) (L q a:Int),2*n<=f->At30 L q a n e->(∀y∈t,y<a)->(∀y∈t,-1<=y)->CF t=c->(2<=n->1<=c)->Run A5 ⟨L,a,q,t⟩ (pt f Zb n c k (hld t) e) ⟨L,a,a,t⟩)/\
  (∀(n c k:Nat) (t:Zd) (e:Bool) (L q a:Int),2*n<=f+1->At30 L q a n e->(n=1->e=Zb)->(∀y∈t,y<a)->(∀y∈t,-1<=y)->(v:k<t.length)->t[k]<0->CF t=c->Run A5 ⟨L,a,q,t.set k a⟩ (pt f Za n c k (hld (t.set k a)) e) ⟨L,a,a,t⟩)
 |0=>⟨λn c k t e L q a w J=>by have:=J.fn;omega,λn c k t e L q a w J=>by have:=J.fn;omega⟩
 |f+1=>by
  obtain⟨ihp,H⟩:=YZ f;refine⟨λn c k t e L q a hf K o u M N=> ?_,λn c k t e L q a hf K V o u v E M=> ?_⟩
  .obtain⟨A,hn,p,I,D,hL⟩:=K;have g:=aF7 (t:=t) A o;unfold pt;by_cases w:n=1
   .rw[zE w];cases e with
    |true=>
     have hq:=I rfl;rw[Zg]at p;rw[zE rfl];refine .one (m':=⟨L,a,a,t⟩) ?_ ?_
     .unfold A5;simp only;rw[zE (show q<0 by omega),Zh,Zh,Zh,Zg,Zh]
     .unfold JC;simp only[aB,true_and,if_true,if_false];rw[Zg]
    |false=>
     have hq:=D rfl;rw[Zh]at p;rw[zF (by decide)];refine .one (m':=⟨L,a,a,t⟩) ?_ ?_
     .unfold A5;simp only;rw[zF (show¬q<0 by omega),Zh,Zh,Zh,Zg,Zg]
     .unfold JC;simp only[aB,true_and,if_true,if_false];rw[Zg]
   .rw[zF w,aj7,<-aj6 t _ A];have C:0<CF t:=by have:=N (by omega);omega
    obtain⟨hv,F⟩:=ab7 C;refine .cons (m':=⟨L,a,q,t.set (Mf t) a⟩) ?_ ?_ (H n c (Mf t) t e L q a (by omega) ⟨A,hn,p,I,D,hL⟩ (λh=>absurd h w) o u hv F M)
    .unfold A5;simp only;rw[p,Zh,zF (by split at p<;>omega),zF (by split at p<;>omega),Zh];by_cases ht:mO t<0
     .rw[zE ht,Zh]
      have:Mf t=0:=by
       unfold Mf;rw[List.findIdx_eq (by omega)];refine⟨zB ?_,λj hj=>by omega⟩;have:=(uo t (-1)).2.1 _ (cB (show 0<t.length by omega));unfold mO at ht;omega
      rw[this];rfl
     .rw[zF ht,Zh,zE ⟨by omega,C⟩]
    .unfold JC;simp only[aB,true_and,if_false,if_true,aD];rw[bD,List.getElem?_eq_getElem hv,zE ⟨by omega,by omega,F⟩]
  .obtain⟨A,hn,p,I,D,hL⟩:=K;have g:=ar7 A v o;have z:=ar0 v o;have hfre:=ai8 A v E;have hsl:k<(t.set k a).length:=by rw[bB];exact v
   have B:(t.set k a).set k (-1)=t:=by
    have X:t[k]= -1:=by have:=u _ (cB v);omega
    rw[List.set_set,<-X,List.set_getElem_self]
   unfold pt;by_cases w:n<=1
   .have Z:n=1:=by omega
    have hq:=D (V Z);rw[Zh]at p;rw[zE w];refine .cons (m':=⟨L,a,a,t.set k a⟩) ?_ ?_ (.one (m':=⟨L,a,a,t⟩) ?_ ?_)
    .unfold A5;simp only[g];rw[zF (show¬q<0 by omega),Zh,Zh,Zh,Zg,Zg]
    .unfold JC;simp only[aB,true_and,if_false,if_true];rw[Zg]
    .unfold A5;simp only[g,z];rw[zF (show¬a<0 by omega),Zg]
    .unfold JC;simp only[aB,true_and,if_false,if_true,aD,Qs v,B];rw[zE (by rw[bB];omega)]
   .rw[zF w];obtain⟨m1,m2,m3,m4⟩:=aa0 (n:=n) (c:=c) (by omega) (by omega) (by omega);generalize hm':Y9 n c=m at*;refine .cons (m':=⟨L,a+m,q,t.set k a⟩) ?_ ?_ (.append (m':=⟨L,a+m,a+m,t.set k a⟩) (ihp (n-m) (c-1) 0 (t.set k a) e L q (a+m) (by omega) ⟨by omega,by omega,by omega,I,D,by omega⟩ (λy hy=>(GW hy).elim (λh=>by have:=o y h;omega) λh=>by omega) (λy hy=>(GW hy).elim (λh=>u y h) λh=>by omega) (by omega) (λh=> ?_)) (.cons (m':=⟨L,a,a+m,t.set k a⟩) ?_ ?_ (H m c k t Zb L (a+m) a (by omega) ⟨A,by omega,by rw[Zh],(λh=>by cases h),λ_=>by omega,by omega⟩ (λ_=>rfl) o u v E M)))
    .unfold A5;simp only[g];rw[p,Zh,zF (by split at p<;>omega),zF (by split at p<;>omega),Zh,Zh,Zh,Zh,Zh];rw[show a+(n:Int)-a=(n:Int)by omega,aD,show((CF (t.set k a):Nat):Int)+1=(c:Int)by omega,show CF (t.set k a)+1=c by omega,m4]
    .unfold JC;simp only[aB,true_and,if_true];rw[Zg]
    .by_cases Q:c=1
     .have:=m3 Q;omega
     .omega
    .unfold A5;simp only[g,z];rw[zF (show¬a+(m:Int)<0 by omega),Zh,Zh,Zh,Zh,Zh,Zg]
    .unfold JC;simp only[aB,true_and,if_false,if_true,aD,Qs v];rw[zE (by rw[bB];omega)]
end
section
open Int renaming toNat_natCast -> bD
open List renaming getElem?_eq_getElem -> aB, getElem?_eq_none -> cB, map_congr_left -> cD
open Nat renaming mul_div_cancel -> aD, pow_succ -> bB, mul_le_mul_left -> cK, one_lt_two_pow -> cL, pow_le_pow_right -> cM
structure IsStr (k s d:Nat):Prop where
 pw: ∃e,d=2 ^ e
 gt:k<s*d
 lo:d=1∨s*(d / 2)<=k
theorem IsStr.pos (h:IsStr k s d):1<=d:=by
 obtain⟨e,rfl⟩:=h.pw;exact Nat.one_le_two_pow
theorem IsStr.eq (h:IsStr k s d)(g:IsStr k s d'):d=d':=by
 have m: ∀{d d':Nat},IsStr k s d->IsStr k s d'->¬d<d':=λ{d d'} h g o=>by
  obtain⟨e,rfl⟩:=h.pw;obtain⟨f,rfl⟩:=g.pw;have z:e<f:=(Nat.pow_lt_pow_iff_right (by omega)).1 o;have p:2 ^ e<=2 ^ (f-1):=cM (by omega) (by omega)
  have q:2 ^ f / 2=2 ^ (f-1):=by
   conv=>lhs;rw[show f=(f-1)+1 by omega,bB]
   exact aD _ (by omega)
  have u:=h.gt;have v:s*2 ^ e<=s*2 ^ (f-1):=cK _ p;have w:1<2 ^ f:=cL (by omega);rcases g.lo with h6|h6
  .omega
  .rw[q]at h6;omega
 have:=m h g;have:=m g h;omega
def vF (k s:Nat):Nat:=2 ^ (((List.range 17).find? λe=>Zc (k<s*2 ^ e)).getD 0)
theorem uQ (p:k<65536)(q:1<=s):IsStr k s (vF k s):=by
 unfold vF;cases h:(List.range 17).find? λe=>Zc (k<s*2 ^ e)with
 |none=>
  have:=List.find?_eq_none.1 h 16 (List.mem_range.2 (by omega));simp only[decide_eq_true_eq]at this;omega
 |some e=>
  obtain⟨f,g⟩:=List.find?_range_eq_some.1 h;have f:=of_decide_eq_true f;refine⟨⟨e,rfl⟩,f, ?_⟩;rcases Nat.eq_zero_or_pos e with he|he
  .left;subst he;rfl
  .right;have m:=g.2 (e-1) (by omega);simp only[Bool.not_eq_true',decide_eq_false_iff_not]at m;show s*(2 ^ e / 2)<=k
   have o:2 ^ e / 2=2 ^ (e-1):=by
    conv=>lhs;rw[show e=(e-1)+1 by omega,bB]
    exact aD _ (by omega)
   rw[o];omega
theorem IsStr.next (h:IsStr k s d)(g:IsStr (k+1) s d'):d ∣ d':=by
 obtain⟨e,rfl⟩:=h.pw;obtain⟨f,rfl⟩:=g.pw;refine Nat.pow_dvd_pow 2 ?_;rcases Nat.lt_or_ge f e with p|hge
 .exfalso;have m:2 ^ f<=2 ^ (e-1):=cM (by omega) (by omega)
  have o:2 ^ e / 2=2 ^ (e-1):=by
   conv=>lhs;rw[show e=(e-1)+1 by omega,bB]
   exact aD _ (by omega)
  have u:1<2 ^ e:=cL (by omega);have q:s*2 ^ f<=s*2 ^ (e-1):=cK _ m;have v:=g.gt;rcases h.lo with h7|h7
  .omega
  .rw[o]at h7;omega
 .exact hge
def an1 (d:Nat)(t:Zd):Zd:=t.filter λx=>Zc (0<=x/\x % (d:Int)≠0)
def SZ (d:Nat)(t:Zd):Option Int:=(an1 d t).min?
def qe (e:Bool)(m:Mc):Option (Int×Int):=
 let d:=vF m.L.toNat m.t.length
 if m.q<0 then
  (if m.p<m.L then O (1,m.L-m.p)
  else match SZ d m.t with
   |some x=>O (4,zK m.t x)
   |none=>if m.L % (d:Int)=0/\m.L∉m.t/\(-1:Int)∈m.t then O (2,zK m.t (-1))else if e then O (5,0)else Y)
 else if 0<=mO m.t/\m.q<=mO m.t then O (4,zK m.t (mO m.t))
 else if m.q=0 then Y
 else if m.p=m.q-1 then O (7,0)
 else if 0<=mO m.t/\(m.p<mO m.t∨m.q<=m.p)then O (3,zK m.t (mO m.t))
 else if m.p<m.q then O (1,m.q-1-m.p)
 else Y
structure Gd (k:Nat)(t:Zd)(d:Nat):Prop where
 ins: ∀x∈t,x= -1∨(0<=x/\x<k/\x % (d:Int)=0)
 all: ∀j:Nat,j<k->j % d=0->(j:Int)∈t
 one: ∀i j (hi:i<t.length) (hj:j<t.length),t[i]=t[j]->0<=t[i]->i=j
theorem Ed (h:x∈t): ∃e:zK t x<t.length,t[zK t x]=x:=by
 have e:zK t x<t.length:=List.findIdx_lt_length_of_exists ⟨x,h,zB rfl⟩;exact⟨e,of_decide_eq_true (List.findIdx_getElem (w:=e))⟩
def frd (d n:Nat)(t:Zd):Zd:=t.map λx=>if 0<=x/\x<(n:Int)/\x % (d:Int)≠0 then-1 else x
def Ql (d:Nat):Nat->Zd->List (Int×Int)×Zd
 |0,t=>([],t)
 |n+1,t=>if n % d≠0/\(n:Int)∈(Ql d n t).2 then((Ql d n t).1++[(4,(zK (Ql d n t).2 n:Int))],(Ql d n t).2.set (zK (Ql d n t).2 n) (-1))else Ql d n t
theorem aK3 (t:Zd):frd d 0 t=t:=by
 unfold frd
 conv=>rhs;rw[<-List.map_id t]
 refine cD λx e=> ?_
 rw[Zh];rfl
theorem GL {n:Nat}(hi:i<t.length):(frd d n t)[i]?=O (if 0<=t[i]/\t[i]<(n:Int)/\t[i] % (d:Int)≠0 then-1 else t[i]):=by
 unfold frd;rw[List.getElem?_map,aB hi];rfl
theorem qP {n:Nat}:(frd d n t).length=t.length:=by unfold frd;rw[List.length_map]
theorem Uj {n:Nat}(g:0<=x):x∈frd d n t↔x∈t/\¬(x<(n:Int)/\x % (d:Int)≠0):=by
 unfold frd;rw[List.mem_map];constructor
 .rintro⟨y,f,e⟩;by_cases h:0<=y/\y<(n:Int)/\y % (d:Int)≠0
  .rw[zE h]at e;omega
  .rw[zF h]at e;subst e;exact⟨f,by omega⟩
 .rintro⟨f,h⟩;exact⟨x,f,zF (by omega)⟩
theorem Qm {n:Nat}(q: ∀i j (hi:i<t.length) (w:j<t.length),t[i]=t[j]->0<=t[i]->i=j)(z:n % d≠0)(u:(n:Int)∈frd d n t):(frd d n t).set (zK (frd d n t) n) (-1)=frd d (n+1) t:=by
 obtain⟨m,e⟩:=Ed u;generalize zK (frd d n t) n=k at*;have p:k<t.length:=by rw[qP]at m;exact m
 have g:=GL (d:=d) (n:=n) p;rw[aB m,e]at g;injection g with g
 have o:t[k]=(n:Int):=by
  by_cases h:0<=t[k]/\t[k]<(n:Int)/\t[k] % (d:Int)≠0
  .rw[zE h]at g;omega
  .rw[zF h]at g;exact g.symm
 apply List.ext_getElem?;intro i;by_cases hi:i<t.length
 .rw[GL hi,List.getElem?_set];by_cases f:k=i
  .subst f;rw[zE rfl,zE m,o,zE ⟨by omega,by omega,by omega⟩]
  .rw[zF f,GL hi];have v:t[i]≠(n:Int):=λh=>f (q k i p hi (by rw[o,h]) (by omega))
   by_cases h:0<=t[i]/\t[i]<(n:Int)/\t[i] % (d:Int)≠0
   .rw[zE h,Zg]
   .rw[zF h,Zh]
 .rw[cB (by rw[List.length_set,qP];omega),cB (by rw[qP];omega)]
theorem XT {n:Nat}(h: ¬(n % d≠0/\(n:Int)∈frd d n t)):frd d n t=frd d (n+1) t:=by
 unfold frd at*;refine cD λx g=> ?_
 by_cases f:0<=x/\x<(n:Int)/\x % (d:Int)≠0
 .rw[zE f,Zg]
 .rw[zF f,zF];intro m;have e:x=(n:Int):=by omega
  subst e;refine h ⟨by omega, ?_⟩;exact List.mem_map.2 ⟨_,g,zF f⟩
theorem QP :x∈an1 d t↔x∈t/\0<=x/\x % (d:Int)≠0:=by
 unfold an1;rw[List.mem_filter,decide_eq_true_eq]
theorem QO (h:x∈t)(e:0<=x/\x % (d:Int)≠0)(f: ∀y∈t,0<=y->y % (d:Int)≠0->x<=y):SZ d t=O x:=by
 unfold SZ;rw[List.min?_eq_some_iff];exact⟨QP.2 ⟨h,e⟩,λy g=>by have:=QP.1 g;exact f y this.1 this.2.1 this.2.2⟩
theorem Ls (h: ∀y∈t,0<=y->y % (d:Int)=0):SZ d t=Y:=by
 unfold SZ
 have:an1 d t=[]:=List.filter_eq_nil_iff.2 λx e=>by
  have:=h x e;simp only[decide_eq_true_eq];omega
 rw[this];rfl
theorem YY {k d s:Nat}{t:Zd}{en:Bool}(p:d=vF k s)(q:t.length=s)(m: ∀i j (hi:i<t.length) (z:j<t.length),t[i]=t[j]->0<=t[i]->i=j): ∀n,(Ql d n t).2=frd d n t/\Run (qe en) ⟨k,k,-1,t⟩ (Ql d n t).1 ⟨k,k,-1,frd d n t⟩
 |0=>by rw[aK3];exact⟨rfl, .nil _⟩
 |n+1=>by
  obtain⟨f,g⟩:=YY (en:=en) p q m n;unfold Ql;rw[f];by_cases h:n % d≠0/\(n:Int)∈frd d n t
  .rw[zE h,Qm m h.1 h.2];refine⟨rfl,g.append (.one ?_ ?_)⟩
   .unfold qe;simp only;rw[Zg,Zh,qP,q,bD,<-p,QO h.2 (by omega) λy v u w=>by have:=(Uj u).1 v;omega]
   .obtain⟨o,e⟩:=Ed h.2;unfold JC;simp only[Int.reduceEq,if_false,if_true,bD];rw[List.getD_eq_getElem?_getD,aB o,e];simp only[Option.getD_some];rw[Zg,Qm m h.1 h.2]
  .rw[zF h,<-XT h];exact⟨f,g⟩
theorem Lq : ∀(N:Nat) (l:List Nat),l.Nodup->(∀x∈l,x<N)->l.length<=N
 |0,l,_,h=>by
  cases l with
  |nil=>exact Nat.le_refl _
  |cons x r=>have:=h x (List.mem_cons_self ..);omega
 |N+1,l,g,h=>by
  by_cases m:N∈l
  .have:=Lq N (l.erase N) (g.erase N) λx f=>by
    have o:=h x (List.mem_of_mem_erase f);have p:x≠N:=λe=>by subst e;exact(List.Nodup.not_mem_erase g) f
    omega
   rw[List.length_erase_of_mem m]at this;omega
  .have:=Lq N l g λx f=>by
    have o:=h x f;have p:x≠N:=λe=>m (e▸f)
    omega
   omega
end
section
open Go.IntKind renaming wrap -> zH, i64 -> zI, u64 -> zJ
open Int renaming natCast_add -> aB, eq_ofNat_of_zero_le -> cB
open IntKind renaming bits -> cD
open Nat renaming min_eq_left -> aD, mul_le_mul -> bB, min_eq_right -> bD, add_sub_cancel -> cK
theorem wUn {n:Nat}(h:n<18446744073709551616):zH zJ (n:Int)=(n:Int):=bl (by omega)
theorem aN1 {n:Nat}(h:n<=9223372036854775807):zH zI (n:Int)=(n:Int):=ad (by omega)
theorem HH {a:Nat}(m:a<18446744073709551616):ta .u64 (· &&& ·) (a:Int) 4294967295=((a % 4294967296:Nat):Int):=by
 have e:BitVec.ofInt 64 (a:Int)&&& BitVec.ofInt 64 4294967295=BitVec.ofNat 64 (a % 4294967296):=by
  apply BitVec.eq_of_toNat_eq;rw[BitVec.toNat_and,BitVec.toNat_ofInt,BitVec.toNat_ofInt,BitVec.toNat_ofNat];have f:((a:Int) % ((2 ^ 64:Nat):Int)).toNat=a:=by omega
  have g:((4294967295:Int) % ((2 ^ 64:Nat):Int)).toNat=2 ^ 32-1:=by decide
  rw[f,g,Nat.and_two_pow_sub_one_eq_mod];omega
 unfold ta;show zH zJ ((BitVec.ofInt 64 (a:Int)&&& BitVec.ofInt 64 4294967295).toNat:Int)=_;rw[e,BitVec.toNat_ofNat,Zk];omega
theorem Qi (a:Nat):Int.fdiv (a:Int) (2 ^ (min (Int.toNat 32) (cD .u64)))=((a / 4294967296:Nat):Int):=by
 rw[show(2:Int) ^ (min (Int.toNat 32) (cD .u64))=4294967296 from rfl,Int.fdiv_eq_ediv_of_nonneg _ (by omega)];rfl
theorem aL9 {a:Nat}(g:a<=1099511627776)(f:b<=4194304):oI (a:Int) (b:Int)=O (0,((a*b:Nat):Int)):=by
 have m:a / 4294967296*b<=256*4194304:=bB (by omega) f;have o:a % 4294967296*b<=4294967295*4194304:=bB (by omega) f;have u:a*b<=1099511627776*4194304:=bB g f;have e: ∀{n:Nat},n<18446744073709551616->IntKind.u64.wrap (n:Int)=(n:Int):=λh=>bl (by omega)
 unfold oI;rw[Qi a,Qi b,HH (a:=a) (by omega),HH (a:=b) (by omega),show b / 4294967296=0 by omega,show b % 4294967296=b by omega];simp only[<-Int.natCast_mul];rw[e (n:=a % 4294967296*b) (by omega),e (n:=a / 4294967296*b) (by omega),e (n:=a / 4294967296*0) (by omega),e (n:=a % 4294967296*0) (by omega),e (n:=a*b) (by omega),Qi];simp only[<-aB];generalize a / 4294967296*b=p at*;generalize a % 4294967296*b=q at*;rw[e (n:=p+q / 4294967296) (by omega),Qi,HH (by omega)];simp only[<-aB,Nat.mul_zero,Nat.add_zero,Nat.zero_add];rw[e (n:=(p+q / 4294967296) % 4294967296) (by omega),Qi,e (n:=(p+q / 4294967296) / 4294967296) (by omega)];simp only[<-aB];rw[e (by omega),show(p+q / 4294967296) / 4294967296+(p+q / 4294967296) % 4294967296 / 4294967296=0 by omega];rfl
theorem aJ4 {a:Nat}(e:a<18446744073709551616)(f:1<=b):oH 0 (a:Int) (b:Int)=O (((a / b:Nat):Int),((a % b:Nat):Int)):=by
 unfold oH;have:=Nat.div_le_self a b;rw[Ze,zD,Ze,zD,zB rfl,zC,Zf,ci,ci,show Int.tdiv (a:Int) (b:Int)=((a / b:Nat):Int)from rfl,show Int.tmod (a:Int) (b:Int)=((a % b:Nat):Int)from rfl,wUn (Nat.lt_of_le_of_lt this e)]
theorem eb {a:Nat}(e:a<=1099511627776)(f:b<=4194304)(hi:1<=i/\i<=4194304):rR (a:Int) (b:Int) (i:Int)=O ((min wV (a*b / i):Nat):Int):=by
 have g:a*b<=1099511627776*4194304:=bB e f;have m:a*b / i<=a*b:=Nat.div_le_self _ _;unfold rR wV;rw[bl (n:=(a:Int)) (by omega),bl (n:=(b:Int)) (by omega),bl (n:=(i:Int)) (by omega),aL9 e f];simp only[zG];rw[Ze,zD,aJ4 (by omega) hi.1];simp only[zG];generalize a*b / i=q at*;by_cases h:1099511627776<q
 .rw[Zf,zC,aD (by omega)];rfl
 .rw[Ze,zD,bD (by omega),Zi]
theorem az6 (hi:1<=i)(e:ch (d+(i-1)) (i-1)<wV):min wV (min wV (ch (d+(i-1)) (i-1))*(d+i) / i)=min wV (ch (d+i) i):=by
 rw[bD (Nat.le_of_lt e),af7 hi]
theorem SA {n:Nat}(w:2*k<=n)(z:n<=2097152): ∀f:Int×Int->Option ((Int×Int)⊕Int),(∀i c:Nat,1<=i->i<=k->c<wV->c<=wV->f ((i:Int),(c:Int))=O (.inl (((i+1:Nat):Int),((min wV (c*(n-k+i) / i):Nat):Int))))->(∀i c:Nat,(k<i∨wV<=c)->i<=k+1->c<=wV->f ((i:Int),(c:Int))=O (.inr (c:Int)))->aq f di (1,1)=O ((min wV (ch n k):Nat):Int):=by
 intro f u v;refine Uy (λs=> ∃i:Nat,s=((i:Int),((min wV (ch (n-k+(i-1)) (i-1)):Nat):Int))/\1<=i/\i<=k+1) (λs=>k+1-s.1.toNat) ⟨1, ?_,by omega,by omega⟩ (by simp;omega) ?_
 .rw[show 1-1=0 from rfl,OH];rfl
 .rintro s ⟨i,rfl,g,p⟩;by_cases hi:i<=k/\ch (n-k+(i-1)) (i-1)<wV
  .left;refine⟨_,u i _ g hi.1 (by omega) (Nat.min_le_left _ _),⟨i+1, ?_,by omega,by omega⟩,by simp only;omega⟩;rw[az6 g hi.2];rfl
  .right;rw[v i _ (by omega) p (Nat.min_le_left _ _)]
   congr 2
   have e:n-k+k=n:=by omega
   by_cases m:i=k+1
   .subst m;rw[cK,e]
   .have o:wV<=ch (n-k+(i-1)) (i-1):=by omega
    have q:=Xz (n-k) (show i-1<=k by omega);rw[e]at q;rw[aD o,aD (by omega)]
theorem af6 (n k:Nat)(e:k<=n):ch n (min k (n-k))=ch n k:=by
 rcases Nat.le_total k (n-k)with h|h
 .rw[aD h]
 .rw[bD h];exact GF n _ _ (by omega)
theorem As {n k:Int}(w:n<=2097152):lh n k=O (Vz n k):=by
 unfold lh Vz;by_cases f:n<0
 .rw[zB f,zE (.inl f)];rfl
 by_cases m:k<0
 .rw[zA f,zB m,zE (.inr (.inl m))];rfl
 by_cases o:n<k
 .rw[zA f,zA m,zB o,zE (.inr (.inr o))];rfl
 rw[zA f,zA m,zA o,Zh];simp only[zD];obtain⟨n,rfl⟩:=cB (show 0<=n by omega);obtain⟨k,rfl⟩:=cB (show 0<=k by omega)
 have u:min (k:Int) (zH zI ((n:Int)-(k:Int)))=((min k (n-k):Nat):Int):=by
  rw[Zi];omega
 have p:=SA (n:=n) (k:=min k (n-k)) (by omega) (by omega) (mU (n:Int) (k:Int)) (λi c v e q g=>by
  unfold mU;unfold wV at q g;simp only[u];rw[Zf,zC,zB (show(c:Int)<1099511627776 by omega),zC,ad (n:=(n:Int)-((min k (n-k):Nat):Int)) (by omega),ad (n:=(n:Int)-((min k (n-k):Nat):Int)+(i:Int)) (by omega),show(n:Int)-((min k (n-k):Nat):Int)+(i:Int)=((n-min k (n-k)+i:Nat):Int)by omega,eb g (by omega) (by omega)];simp only[zG];rw[Zi]
  rfl) (λi c h hi q=>by
  unfold mU;unfold wV at h;simp only[u];rcases h with h|h
  .rw[Ze,zD]
  .by_cases e:(i:Int)<=((min k (n-k):Nat):Int)
   .rw[zB e,zC,Ze,zD]
   .rw[zA e,zD])
 rw[p,af6 n k (by omega)];rfl
theorem al5 (f:1<=s/\s<=1048576)(e:r<=65536):sv (r:Int) (s:Int)=O ((min wV (ch (s+r) r):Nat):Int):=by
 unfold sv;rw[Ze,zD,Zi,As (by omega),show(s:Int)+(r:Int)=((s+r:Nat):Int)by omega,OG (by omega),GF (s+r) s r rfl];rfl
theorem WA (A:l<65536)(p:1<=s/\s<=1048576): ∃r:Nat,zd (l:Int) (s:Int)=O ((r:Int),0)/\IsRep l s r:=by
 unfold zd Bm;rw[Ze,zD,Ze,zD,Zf,zC,Zf];simp only[zG,Bool.not_true,zD];unfold Bl
 obtain⟨c,e,r,rfl,v⟩:=tj (f:=vS (l:Int) (s:Int)) (a:=(0,(l:Int))) (λa=> ∃g hi:Nat,a=((g:Int),(hi:Int))/\g<=hi/\hi<=l/\l<=ch (s+hi) hi/\(g=0∨ch (s+(g-1)) (g-1)<l)) (λa=>(a.2-a.1).toNat) (λc=> ∃r:Nat,c=(r:Int)/\IsRep l s r) ⟨0,l,rfl,by omega,by omega,by have:=JS p.1 l;omega, .inl rfl⟩ (by simp;omega) (by
  rintro a ⟨g,hi,rfl,w,z,m,o⟩;unfold vS zS;simp only;by_cases h:g<hi
  .have q:zH zI (Int.tdiv (zH zI ((g:Int)+(hi:Int))) 2)=(((g+hi) / 2:Nat):Int):=by
    rw[ad (n:=(g:Int)+(hi:Int)) (by omega),<-aB,show Int.tdiv ((g+hi:Nat):Int) 2=(((g+hi) / 2:Nat):Int)from rfl,aN1 (by omega)]
   rw[Zf,zC,q,al5 p (by omega)];simp only[zG];by_cases u:l<=ch (s+(g+hi) / 2) ((g+hi) / 2)
   .rw[zB (by unfold wV;omega),zC];exact .inl ⟨_,rfl,⟨g,(g+hi) / 2,rfl,by omega,by omega,u,o⟩,by simp only;omega⟩
   .rw[zA (by unfold wV;omega),zD,Zi];exact .inl ⟨_,rfl,⟨(g+hi) / 2+1,hi,rfl,by omega,by omega,m, .inr (by rw[cK];omega)⟩,by simp only;omega⟩
  .rw[Ze,zD];have:g=hi:=by omega
   subst this
   exact .inr ⟨_,rfl,g,rfl,aE1 m o⟩)
 rw[e];exact⟨r,rfl,v⟩
theorem VW (a b:Int):qI [1,a,b]=O (max 1 (max a b)):=by
 have e:qI [1,a,b]=O (max (max (max 1 1) a) b):=rfl;rw[e]
 congr 1
 omega
theorem aa2 {n:Nat}(o:2<=n/\n<65536)(e:1<=c/\c<=1048576):wR (n:Int) (c:Int)=O (spI n c (Hc n c),0):=by
 obtain⟨r,g,m⟩:=WA (l:=n) (s:=c) o.2 e;have f:=UP n e.1;have:r=Hc n c:=m.eq f;subst this;have z:=f.le e.1;have w:=az5 ((c:Int)+(Hc n c:Int)-1) ((c:Int)-1);have p:zH zI ((c:Int)+(Hc n c:Int))=(c:Int)+(Hc n c:Int):=ad (by omega);have q:zH zI ((c:Int)+(Hc n c:Int)-2)=(c:Int)+(Hc n c:Int)-2:=ad (by omega);have u:zH zI ((c:Int)+(Hc n c:Int)-1)=(c:Int)+(Hc n c:Int)-1:=ad (by omega);have v:zH zI ((c:Int)-1)=(c:Int)-1:=ad (by omega);unfold wR;rw[Ze,zD,g];simp only[zG];rw[zA (by simp),zD,p,q,u,v,As (by omega),As (by omega)];simp only[zG];rw[Zi,VW];rfl
end
section
open List renaming findIdx_append -> aB, findIdx_eq_length_of_false -> aD, findIdx_singleton -> bB
theorem ar6 (l:Zd)(x:Int):mO (l++[x])=max (mO l) x:=by
 unfold mO;rw[List.foldl_append];rfl
theorem ab4 (l:Zd): -1<=mO l:=(uo l (-1)).1
theorem aF8 (l:Zd)(h:y∈l):y<=mO l:=(uo l (-1)).2.1 _ h
theorem Pw {l:Zd}(h:0<=mO l):mO l∈l:=by
 rcases(uo l (-1)).2.2 with k|k
 .unfold mO at*;omega
 .exact k
theorem aq8 {l:Zd}(h:x∉l):zK (l++[x]) x=l.length:=by
 unfold zK;have g:l.findIdx (λy=>Zc (y=x))=l.length:=aD λy f=>zA λe=>h (e▸f)
 rw[aB,Zh,bB,zB rfl];simp
theorem aq9 {l:Zd}(h:y∈l):zK (l++[x]) y=zK l y:=by
 unfold zK;have:=(Ed h).1;unfold zK at this;rw[aB,zE this]
theorem ai7 (l:Zd)(x:Int):CF (l++[x])=CF l+(if x<0 then 1 else 0):=by
 unfold CF;rw[List.countP_append,List.countP_singleton];by_cases h:x<0
 .rw[zB h,zE rfl,zE h]
 .rw[zA h,zF (by simp),zF h]
theorem Uk (l:Zd):CF l<=l.length:=List.countP_le_length
theorem aK4 {l:Zd}(h:CF l=0): ∀y∈l,0<=y:=λy e=>by
 have:=List.countP_eq_zero.1 h y e;simp only[decide_eq_true_eq]at this;omega
theorem ar9 {l:Zd}(h:CF l=0)(e:x<0):Mf (l++[x])=l.length:=by
 unfold Mf;have g:l.findIdx (λy=>Zc (y<0))=l.length:=aD λy f=>zA (by have:=aK4 h y f;omega)
 rw[aB,Zh,bB,zB e];simp
theorem PB {l:Zd}(h:0<CF l):Mf (l++[x])=Mf l:=by
 unfold Mf;have:=(ab7 h).1;unfold Mf at this;rw[aB,zE this]
def RN (t:Zd):Int:=mO t
def RP (t:Zd):Int:=if mO t<0 then 0 else(zK t (mO t):Int)
def RO (t:Zd):Int:=(CF t:Int)
def ab8 (t:Zd):Int:=if CF t=0 then-1 else(Mf t:Int)
theorem al6 {L p q:Int}(E:t.length<1000000000):sw L p q t=O (p,q,t,(if q<0 then L else q),RN t,RP t,RO t,ab8 t):=by
 unfold sw
 have B:((cond (Zc (q<0)) (O ((p,q,t,p,q,t,L))) (O ((p,q,t,p,q,t,q)))):Option (Int×Int×(Zd)×Int×Int×(Zd)×Int))=O (p,q,t,p,q,t,(if q<0 then L else q)):=by
  rw[ag];split<;>rfl
 rw[B];simp only[zG];generalize (if q<0 then L else q)=e
 have o:=fj (f:=lA (p,q,t,p,q,t,e)) (n:=t.length) (λi=>(p,q,t,p,q,t,e,RN (t.take i),RP (t.take i),RO (t.take i),ab8 (t.take i))) (c:=(p,q,t,p,q,t,e,RN t,RP t,RO t,ab8 t)) (by omega)
  (λi hi=>by
   have g:(t.take i).length=i:=by rw[List.length_take];omega
   have C:=Uk (t.take i);have D:=ab4 (t.take i);simp only[lA];rw[Zf,zC,cl hi,List.take_succ_eq_append_getElem hi];simp only[zG];generalize t[i]=x;generalize F:t.take i=u at*;rw[ad (n:=(i:Int)+1) (by omega)];unfold RN RP RO ab8;rw[ad (n:=(CF u:Int)+1) (by omega),ar6,ai7];by_cases A:mO u<x
   .rw[zB A,zC,Int.max_eq_right (by omega),zF (show¬x<0 by omega),zF (show¬x<0 by omega),aq8 (λh=>by have:=aF8 u h;omega),g];simp only[Nat.add_zero]
    have:(if CF u=0 then(-1:Int)else(Mf (u++[x]):Int))=if CF u=0 then(-1:Int)else(Mf u:Int):=by
     split
     .rfl
     .rw[PB (by omega)]
    rw[this];rfl
   .rw[zA A,zD,Int.max_eq_left (by omega)]
    have z:(if mO u<0 then(0:Int)else(zK (u++[x]) (mO u):Int))=if mO u<0 then(0:Int)else(zK u (mO u):Int):=by
     split
     .rfl
     .rw[aq9 (Pw (by omega))]
    rw[z];by_cases m:x<0
    .rw[zB m,zC,zE m,zF (show¬CF u+1=0 by omega)];by_cases w:CF u=0
     .rw[zE w,Zf,zC,ar9 w m,g];rfl
     .rw[zF w,Ze,zD,PB (by omega)];rfl
    .rw[zA m,zD,zF m];simp only[Nat.add_zero]
     have:(if CF u=0 then(-1:Int)else(Mf (u++[x]):Int))=if CF u=0 then(-1:Int)else(Mf u:Int):=by
      split
      .rfl
      .rw[PB (by omega)]
     rw[this]
     rfl)
  (by
   simp only[lA]
   rw[zA (by simp),zD,List.take_length])
 rw[List.take_zero]at o;have v:aq (lA (p,q,t,p,q,t,e)) di (0,p,q,t,p,q,t,e,-1,0,0,-1)=_:=o;rw[v];rfl
theorem RQ (h: ¬mO t<0):RP t=(zK t (mO t):Int):=zF h
theorem as0 (h: ¬CF t=0):ab8 t=(Mf t:Int):=zF h
def aI9 :Option (Int×Int)->Int×Int×Bool
 |none=>(0,0,Zb)
 |some a=>(a.1,a.2,Za)
section
variable {c:Cx}
theorem av0 (h:c.Ok)(f:c.mode≠3){s:Dy}(hi:Inv c s):dj c.fixed c.tp c.sl c.ns c.mode c.R c.Q c.len c.words s.L s.p s.q s.c0 s.c1 s.c2 s.c3 s.z c.X c.T c.l c.k c.P c.tk (c.off 8:Int) c.ns (c.X.length:Int) s.lv s.pk c.words s.W=O (s.p,s.q,kR c s.W):=by
 unfold dj;rw[Hl h f hi.w λk e=>by have:=hi.tag k e;have:=hi.L;omega];rfl
def oO (c:Cx)(s:Dy):Mc:=⟨s.L,s.p,s.q,kR c s.W⟩
theorem S4 (h:c.Ok)(F:c.mode≠3)(hn:1<=c.ns){s:Dy}(hi:Inv c s)(g:Int)(en J:Bool):mh g en J c.fixed c.tp c.sl c.ns c.mode c.R c.Q c.len c.words s.L s.p s.q s.c0 s.c1 s.c2 s.c3 s.z c.X c.T c.l c.k c.P c.tk (c.off 8:Int) c.ns (c.X.length:Int) s.lv s.pk c.words s.W=O (aI9 (A5 (oO c s))):=by
 have N:=h.ns;have K:=hi.L;have V:=hi.p;have I:=hi.q;have E:(kR c s.W).length=c.ns.toNat:=nU;have o:=Hm (c:=c) (W:=s.W) hi.tag;have H:=(qA h F (k:=0) (by omega)).2.2;unfold mh fC fV i4;simp only[zG];rw[av0 h F hi];simp only[zG];unfold zT;rw[B8 K V I (by omega) o];simp only[zG,ck];rw[Zf,Bool.not_true,zD,al6 (by omega)];simp only[zG,lO,jv,jp,uc,nh,ni,nj,nk,np,nq,nr,nu,iD,pZ,oU,oV];unfold A5 oO RN RO;simp only;have hg:=ab4 (kR c s.W)
 have ht:mO (kR c s.W)<=s.L:=by
  rcases(uo (kR c s.W) (-1)).2.2 with k|k
  .unfold mO;omega
  .exact(o _ k).2
 have hf:=Uk (kR c s.W);have he:0<=(if s.q<0 then s.L else s.q)/\(if s.q<0 then s.L else s.q)<=s.L:=by split<;>omega
 generalize (if s.q<0 then s.L else s.q)=e at*;have Z:=I;have hsp: ∀x,¬mO (kR c s.W)<s.p->x=mO (kR c s.W)->True:=λ_ _ _=>trivial
 generalize htg:kR c s.W=t at*;rw[ad (n:=e-1) (by omega),ad (n:=e-1-s.p) (by omega),ad (n:=e-mO t) (by omega),ad (n:=(CF t:Int)+1) (by omega)];by_cases u:0<=s.q/\e<=mO t
 .rw[zE u,zB u.1,zC,zB u.2];simp only[zG,zC];rw[RQ (by omega)];rfl
 rw[zF u]
 have r1:(cond (Zc (0<=s.q)) (O (Zc (e<=mO t))) (O Zb):Option Bool)=O Zb:=by
  by_cases k:0<=s.q
  .rw[zB k,zC,zA (λD=>u ⟨k,D⟩)]
  .rw[zA k,zD]
 rw[r1];simp only[zG,zD];by_cases v:s.q=0
 .rw[zE v,zB v,zC];rfl
 rw[zF v,zA v,zD]
 have r3:(cond (!Zc (0<=s.q)) (O (Zc (s.p=s.L))) (O Zb):Option Bool)=O (Zc (s.q<0/\s.p=s.L)):=by
  by_cases k:0<=s.q
  .rw[zB k,Bool.not_true,zD,Ze]
  .rw[zA k,Bool.not_false,zC]
   congr 1
   exact decide_eq_decide.2 (by omega)
 rw[r3];simp only[zG];by_cases w:s.q<0/\s.p=s.L
 .rw[zE w,zB w,zC];rfl
 rw[zF w,zA w,zD];by_cases A:s.p=e-1
 .rw[zE A,zB A,zC];by_cases f:0<=s.q
  .rw[zE f,zB f];rfl
  .rw[zF f,zA f];rfl
 rw[zF A,zA A,zD];by_cases f:mO t<0
 .rw[zE f,zB f,zC];by_cases m:e<=s.p
  .rw[zE m,zB m];rfl
  .rw[zF m,zA m];rfl
 rw[zF f,zA f,zD]
 have r6:(cond (Zc (s.p<mO t)) (O Za) (O (Zc (e<=s.p))):Option Bool)=O (Zc (s.p<mO t∨e<=s.p)):=by
  by_cases k:s.p<mO t
  .rw[zB k,zC,zB (.inl k)]
  .rw[zA k,zD]
   congr 1
   exact decide_eq_decide.2 (by omega)
 rw[r6];simp only[zG];by_cases m:s.p<mO t∨e<=s.p
 .rw[zE m,zB m,zC,RQ f];rfl
 rw[zF m,zA m,zD]
 have r7:(cond (Zc (mO t<s.p)) (O (Zc (0<(CF t:Int)))) (O Zb):Option Bool)=O (Zc (mO t<s.p/\0<CF t)):=by
  by_cases k:mO t<s.p
  .rw[zB k,zC]
   congr 1
   exact decide_eq_decide.2 (by omega)
  .rw[zA k,zD,zA (λD=>k D.1)]
 rw[r7];simp only[zG];by_cases B:mO t<s.p/\0<CF t
 .rw[zE B,zB B,zC,as0 (by omega)];rfl
 rw[zF B,zA B,zD];by_cases C:mO t<s.p
 .rw[zE C,zB C,zC];rfl
 rw[zF C,zA C,zD];have M:e-mO t=(((e-mO t).toNat:Nat):Int):=by omega
 have:=aa2 (n:=(e-mO t).toNat) (c:=CF t+1) (by omega) (by omega);rw[<-M,show((CF t+1:Nat):Int)=(CF t:Int)+1 by omega]at this;rw[this];rfl
end
end
section
open Int renaming lt_irrefl -> bB, tmod_eq_emod_of_nonneg -> cB
open List renaming getElem_of_mem -> aB, getElem_mem -> aD
open Nat renaming pow_succ -> bD, eq_zero_or_pos -> cD
def Bst (P:Int->Prop)(R:Int->Int->Prop)(t:Zd)(i:Nat)(k:Int):Prop:=
 (k= -1/\∀j (h:j<t.length),j<i->¬P t[j])∨∃j,∃h:j<t.length,k=(j:Int)/\j<i/\P t[j]/\(∀e (f:e<t.length),e<i->P t[e]->¬R t[e] t[j])/\∀e (f:e<t.length),e<j->P t[e]->R t[j] t[e]
theorem Ez {P:Int->Prop}{R:Int->Int->Prop}[DecidablePred P][DecidableRel R]{f:Int×Int->Option ((Int×Int)⊕Int)}{pb:Int->Option Bool}{lb:Int->Int->Option Bool}(M:t.length<1000000000)
  (I: ∀s,f s=cond (Zc (s.1<(((List.length t):Nat):Int))) ((rd t s.1).bind λx=>(pb x).bind λr=>cond r (cond (Zc (s.2<0)) (O (.inl (IntKind.i64.wrap (s.1+1),s.1))) ((rd t s.2).bind λy=>(lb x y).bind λL=>cond L (O (.inl (IntKind.i64.wrap (s.1+1),s.1))) (O (.inl (IntKind.i64.wrap (s.1+1),s.2))))) (O (.inl (IntKind.i64.wrap (s.1+1),s.2)))) (O (.inr s.2)))
  (J: ∀x,pb x=O (Zc (P x))) (K: ∀x y,lb x y=O (Zc (R x y))) (F: ∀a,¬R a a) (H: ∀a b e,R a b->¬R e b->R a e) (as: ∀a b,R a b->¬R b a): ∃k,aq f di (0,-1)=O k/\Bst P R t t.length k:=by
 refine tj (λs=> ∃(i:Nat) (k:Int),s=((i:Int),k)/\i<=t.length/\Bst P R t i k) (λs=>t.length-s.1.toNat) _ ⟨0,-1,rfl,by omega, .inl ⟨rfl,λj h B=>by omega⟩⟩ (by simp;omega) ?_;rintro s ⟨i,k,rfl,hi,D⟩;rw[I];simp only;by_cases h:i<t.length
 .left;rw[Zf,zC,cl h];simp only[zG];rw[J,Zi,show(i:Int)+1=((i+1:Nat):Int)by omega];simp only[zG];by_cases z:P t[i]
  .rw[zB z,zC];rcases D with⟨rfl,C⟩|⟨j,B,rfl,E,w,g,q⟩
   .rw[Zf,zC];refine⟨_,rfl,⟨i+1,i,rfl,by omega, .inr ⟨i,h,rfl,by omega,z,λm o v p=> ?_,λm o v p=>absurd p (C m o v)⟩⟩,by simp only;omega⟩;by_cases u:m=i
    .subst u;exact F _
    .exact absurd p (C m o (by omega))
   .rw[Ze,zD,cl B];simp only[zG];rw[K];simp only[zG];by_cases A:R t[i] t[j]
    .rw[zB A,zC];refine⟨_,rfl,⟨i+1,i,rfl,by omega, .inr ⟨i,h,rfl,by omega,z,λm o v p=> ?_,λm o v p=>H _ _ _ A (g m o v p)⟩⟩,by simp only;omega⟩;by_cases u:m=i
     .subst u;exact F _
     .exact as _ _ (H _ _ _ A (g m o (by omega) p))
    .rw[zA A,zD];refine⟨_,rfl,⟨i+1,j,rfl,by omega, .inr ⟨j,B,rfl,by omega,w,λm o v p=> ?_,q⟩⟩,by simp only;omega⟩;by_cases u:m=i
     .subst u;exact A
     .exact g m o (by omega) p
  .rw[zA z,zD];refine⟨_,rfl,⟨i+1,k,rfl,by omega, ?_⟩,by simp only;omega⟩;rcases D with⟨rfl,C⟩|⟨j,B,rfl,E,w,g,q⟩
   .refine .inl ⟨rfl,λj o v=> ?_⟩;by_cases u:j=i
    .subst u;exact z
    .exact C j o (by omega)
   .refine .inr ⟨j,B,rfl,by omega,w,λm o v p=> ?_,q⟩;by_cases u:m=i
    .subst u;exact absurd p z
    .exact g m o (by omega) p
 .right;have:i=t.length:=by omega
  subst this;rw[Ze,zD];exact⟨_,rfl,D⟩
theorem Iq (g:j<t.length)(h: ∀e (m:e<t.length),e<j->t[e]≠t[j]):zK t t[j]=j:=by
 unfold zK;rw[List.findIdx_eq g];exact⟨zB rfl,λe f=>zA (h e (by omega) f)⟩
theorem Xo (D:1<=d)(A:t.length<1000000000):uJ t (d:Int)=O (match SZ d t with|none=> -1|some x=>(zK t x:Int)):=by
 unfold uJ
 obtain⟨k,e,h⟩:=Ez (P:=λx=>0<=x/\x % (d:Int)≠0) (R:=λx y=>x<y) (t:=t) (f:=AE t (d:Int)) (pb:=λx=>pJ x (d:Int)) (lb:=lP) A (λs=>rfl) (λx=>by
  unfold pJ;by_cases h:0<=x
  .rw[zB h,zC,zB (show(d:Int)≠0 by omega),ci,cB h]
   congr 1
   exact decide_eq_decide.2 ⟨λk=>⟨h,k⟩,λk=>k.2⟩
  .rw[zA h,zD,zA (λk=>h k.1)]) (λx y=>rfl) (λa=>bB a) (λa b e o u=>by omega) (λa b h=>by omega)
 rw[e];rcases h with⟨rfl,B⟩|⟨j,w,rfl,_,v,m,g⟩
 .rw[Ls λy q p=>by
   obtain⟨i,hi,rfl⟩:=aB q;have:=B i hi hi;by_cases k:t[i] % (d:Int)=0
   .exact k
   .exact absurd ⟨p,k⟩ this]
  rfl
 .rw[QO (x:=t[j]) (aD w) v λy q p o=>by
   obtain⟨i,hi,rfl⟩:=aB q;have:=m i hi hi ⟨p,o⟩
   omega]
  simp only[zG]
  rw[Iq w λC z o u=>by
   have:=g C z o (by rw[u];exact v)
   omega]
theorem Vs (q:t.length<1000000000): ∃k,qL t x=O k/\(k<0↔x∉t):=by
 unfold qL;obtain⟨k,e,h⟩:=Ez (P:=λy=>y=x) (R:=λx y=>x<y) (t:=t) (f:=xM t x) (pb:=λy=>ud y x) (lb:=lP) q (λs=>rfl) (λy=>rfl) (λx y=>rfl) (λa=>bB a) (λa b e w z=>by omega) (λa b h=>by omega);rw[e];refine⟨k,rfl, ?_⟩;rcases h with⟨rfl,u⟩|⟨j,p,rfl,_,o,m,g⟩
 .refine⟨λ_ v=> ?_,λ_=>by omega⟩;obtain⟨i,hi,e⟩:=aB v;exact u i hi hi e
 .exact⟨λh=>by omega,λh=>absurd (o▸aD p) h⟩
theorem Xq (z:t.length<1000000000)(m: ∀y∈t,-1<=y): ∃k,qM t=O k/\((-1:Int)∈t->k=(zK t (-1):Int))/\((-1:Int)∉t->k= -1):=by
 unfold qM;obtain⟨k,e,h⟩:=Ez (P:=λy=>y<0) (R:=λx y=>x<y) (t:=t) (f:=xN t) (pb:=λy=>ue y) (lb:=lP) z (λs=>rfl) (λy=>rfl) (λx y=>rfl) (λa=>bB a) (λa b e q w=>by omega) (λa b h=>by omega);rw[e];refine⟨k,rfl, ?_⟩;rcases h with⟨rfl,A⟩|⟨j,o,rfl,_,D,u,g⟩
 .refine⟨λB=> ?_,λ_=>rfl⟩;obtain⟨i,hi,e⟩:=aB B;exact absurd (show t[i]<0 by omega) (A i hi hi)
 .have p:t[j]= -1:=by have:=m _ (aD o);omega
  refine⟨λ_=> ?_,λh=>absurd (p▸aD o) h⟩
  rw[<-p,Iq o λC v q w=>by
   have:=g C v q (by omega)
   omega]
theorem Xp (z:t.length<1000000000): ∃k,qN t=O k/\(mO t<0->k= -1)/\(0<=mO t->k=(zK t (mO t):Int)):=by
 unfold qN;obtain⟨k,e,h⟩:=Ez (P:=λy=>0<=y) (R:=λx y=>y<x) (t:=t) (f:=xO t) (pb:=λy=>xP y) (lb:=uf) z (λs=>rfl) (λy=>rfl) (λx y=>rfl) (λa=>bB a) (λa b e p w=>by omega) (λa b h=>by omega);rw[e];refine⟨k,rfl, ?_⟩;rcases h with⟨rfl,A⟩|⟨j,q,rfl,_,D,m,g⟩
 .refine⟨λ_=>rfl,λo=> ?_⟩;obtain⟨i,hi,e⟩:=aB (Pw o);exact absurd (show 0<=t[i]by omega) (A i hi hi)
 .have u:mO t=t[j]:=It (by omega) (λy B=>by
   obtain⟨i,hi,rfl⟩:=aB B;by_cases o:0<=t[i]
   .have:=m i hi hi o;omega
   .omega) (.inr (aD q))
  refine⟨λh=>by omega,λ_=> ?_⟩
  rw[u,Iq q λC v p w=>by
   have:=g C v p (by omega)
   omega]
theorem WJ (q:k<65536)(f:1<=s/\s<=1048576):nS (k:Int) (s:Int)=O ((vF k s:Int),0):=by
 unfold nS;rw[Ze,zD,Ze,zD,Ze,zD,Ze,zD];have m:=uQ q f.1
 have g:aq (qT (k:Int) (s:Int)) di 1=O (vF k s:Int):=by
  refine Uy (λa=> ∃e:Nat,a=((2 ^ e:Nat):Int)/\(e=0∨s*2 ^ (e-1)<=k)) (λa=>4294967296-a.toNat) ⟨0,rfl, .inl rfl⟩ (by simp) ?_;rintro a ⟨e,rfl,he⟩
  have p:2 ^ e<=131072:=by
   rcases he with rfl|he
   .simp
   .have:1*2 ^ (e-1)<=s*2 ^ (e-1):=Nat.mul_le_mul_right _ f.1;rcases cD e with rfl|h
    .simp
    .rw[show e=(e-1)+1 by omega,bD];omega
  have v:1<=2 ^ e:=Nat.one_le_two_pow;have u:s*2 ^ e<=1048576*131072:=Nat.mul_le_mul f.2 p;unfold qT;rw[<-Int.natCast_mul,aN1 (by omega)];by_cases h:k<s*2 ^ e
  .right;rw[Zf,zC]
   have:IsStr k s (2 ^ e):=⟨⟨e,rfl⟩,h,by
    rcases he with rfl|he
    .exact .inl rfl
    .rcases cD e with rfl|h
     .exact .inl rfl
     .right
      have o:2 ^ e / 2=2 ^ (e-1):=by
       conv=>lhs;rw[show e=(e-1)+1 by omega,bD]
       exact Nat.mul_div_cancel _ (by omega)
      rw[o]
      exact he⟩
   rw[this.eq m]
  .left;rw[Ze,zD,Zi];refine⟨_,rfl,⟨e+1, ?_, .inr (by rw[Nat.add_sub_cancel];omega)⟩,by omega⟩;rw[bD];omega
 rw[g];rfl
section
variable {c:Cx}
theorem YH (h:c.Ok)(N:c.mode≠3)(hn:1<=c.ns){s:Dy}(hi:Inv c s)(g:Int)(en fa:Bool):nO g en fa c.fixed c.tp c.sl c.ns c.mode c.R c.Q c.len c.words s.L s.p s.q s.c0 s.c1 s.c2 s.c3 s.z c.X c.T c.l c.k c.P c.tk (c.off 8:Int) c.ns (c.X.length:Int) s.lv s.pk c.words s.W=O (aI9 (qe en (oO c s))):=by
 have hns:=h.ns;have H:=hi.L;have hp:=hi.p;have hq:=hi.q;have M:(kR c s.W).length=c.ns.toNat:=nU;have v:=Hm (c:=c) (W:=s.W) hi.tag;have V:=(qA h N (k:=0) (by omega)).2.2;unfold nO fD fW i4;simp only[zG];rw[av0 h N hi];simp only[zG];unfold zX;rw[B8 H hp hq (by omega) v];simp only[zG,ck];rw[Ze,zD];unfold qe oO;simp only;generalize htg:kR c s.W=t at*
 have hd:nS s.L ((t.length:Nat):Int)=O ((vF s.L.toNat t.length:Int),0):=by
  have:=WJ (k:=s.L.toNat) (s:=t.length) (by omega) (by omega);rw[Int.toNat_of_nonneg H.1]at this;exact this
 have I:1<=vF s.L.toNat t.length:=(uQ (by omega) (by omega)).pos;generalize vF s.L.toNat t.length=d at*;by_cases C:s.q<0
 .rw[zE C,zB C,zC];unfold xL;rw[hd];simp only[zG,ij,gO];by_cases m:s.p<s.L
  .rw[zE m,zB m,zC,Zi];rfl
  rw[zF m,zA m,zD,Xo I (by omega)];cases ho:SZ d t with
  |some x=>
   simp only[zG];rw[Zf,zC];rfl
  |none=>
   simp only[zG];rw[Ze,zD];obtain⟨k2,Z,B⟩:=Vs (t:=t) (x:=s.L) (by omega);obtain⟨J,e3,w,F⟩:=Xq (t:=t) (by omega) λy hy=>(v y hy).1
   rw[Z,e3];simp only[zG]
   have K:gd (Zc ((d:Int)≠0)) (cond (Zc ((Int.tmod s.L (d:Int))=0)) (cond (Zc (k2<0)) (O (Zc (0<=J))) (O Zb)) (O Zb))=O (Zc (s.L % (d:Int)=0/\s.L∉t/\(-1:Int)∈t)):=by
    rw[zB (show(d:Int)≠0 by omega),ci,cB H.1];by_cases a1:s.L % (d:Int)=0
    .rw[zB a1,zC];by_cases a2:s.L∉t
     .rw[zB (B.2 a2),zC]
      congr 1
      by_cases a3:(-1:Int)∈t
      .rw[zB (show 0<=J by rw[w a3];omega),zB ⟨a1,a2,a3⟩]
      .rw[zA (show¬0<=J by rw[F a3];omega),zA (λk=>a3 k.2.2)]
     .rw[zA (λk=>a2 (B.1 k)),zD,zA (λk=>a2 k.2.1)]
    .rw[zA a1,zD,zA (λk=>a1 k.1)]
   rw[K];simp only[zG];by_cases a:s.L % (d:Int)=0/\s.L∉t/\(-1:Int)∈t
   .rw[zE a,zB a,zC,w a.2.2];rfl
   .rw[zF a,zA a,zD];cases en<;>rfl
 rw[zF C,zA C,zD];unfold zY;obtain⟨k,e,hk0,A⟩:=Xp (t:=t) (by omega);rw[e];simp only[zG,ij,gO]
 have u:0<=mO t->0<=k/\rd t k=O (mO t):=λf=>by
  obtain⟨hs,e⟩:=Ed (Pw f);rw[A f,cl hs,e];exact⟨by omega,rfl⟩
 have K:(cond (Zc (0<=k)) ((rd t k).bind λx4=>O (Zc (s.q<=x4))) (O Zb):Option Bool)=O (Zc (0<=mO t/\s.q<=mO t)):=by
  by_cases f:0<=mO t
  .rw[zB (u f).1,zC,(u f).2];simp only[zG]
   congr 1
   exact decide_eq_decide.2 (by omega)
  .rw[zA (by rw[hk0 (by omega)];omega),zD,zA (λk=>f k.1)]
 rw[K];simp only[zG];by_cases m:0<=mO t/\s.q<=mO t
 .rw[zE m,zB m,zC,A m.1];rfl
 rw[zF m,zA m,zD];by_cases w:s.q=0
 .rw[zE w,zB w];rfl
 rw[zF w,zA w,zD,ad (n:=s.q-1) (by omega)];by_cases D:s.p=s.q-1
 .rw[zE D,zB D];rfl
 rw[zF D,zA D,zD]
 have r2:(cond (Zc (0<=k)) ((rd t k).bind λx9=>cond (Zc (s.p<x9)) (O Za) (O (Zc (s.q<=s.p)))) (O Zb):Option Bool)=O (Zc (0<=mO t/\(s.p<mO t∨s.q<=s.p))):=by
  by_cases f:0<=mO t
  .rw[zB (u f).1,zC,(u f).2];simp only[zG];by_cases o:s.p<mO t
   .rw[zB o,zC,zB ⟨f, .inl o⟩]
   .rw[zA o,zD]
    congr 1
    exact decide_eq_decide.2 (by omega)
  .rw[zA (by rw[hk0 (by omega)];omega),zD,zA (λk=>f k.1)]
 rw[r2];simp only[zG];by_cases o:0<=mO t/\(s.p<mO t∨s.q<=s.p)
 .rw[zE o,zB o,zC,A o.1];rfl
 rw[zF o,zA o,zD];by_cases E:s.p<s.q
 .rw[zE E,zB E,zC,Zi];rfl
 .rw[zF E,zA E];rfl
end
end
section
open Int renaming reduceEq -> aB, toNat_natCast -> aD
open List renaming getElem?_eq_getElem -> bB, getElem_mem -> bD, length_set -> cD, getD_eq_getElem?_getD -> cK, getElem_set -> cL, length_map -> cM, length_replicate -> cN, replicate -> cO, getElem?_eq_none -> cR, getElem_map -> cS, getElem_of_mem -> cT, map_congr_left -> cU
open Nat renaming div_add_mod -> cB, one_dvd -> cP, div_lt_iff_lt_mul -> cV, dvd_of_mod_eq_zero -> cW
open Option renaming getD_some -> cQ
theorem UW (h:x∈t):zK t x<t.length/\t[zK t x]?=O x:=by
 obtain⟨f,e⟩:=Ed h;exact⟨f,by rw[bB f,e]⟩
def tW (k:Nat)(t:Zd):List (Int×Int)×Zd:=
 if k % vF k t.length=0 then((Ql (vF k t.length) k t).1++[(2,(zK (Ql (vF k t.length) k t).2 (-1):Int))],(Ql (vF k t.length) k t).2.set (zK (Ql (vF k t.length) k t).2 (-1)) k)
 else Ql (vF k t.length) k t
theorem ah2 (h:d' ∣ d)(e:j % d=0):j % d'=0:=
 Nat.mod_eq_zero_of_dvd (Nat.dvd_trans h (cW e))
theorem Gd.frd (G:Gd k t d')(B:d' ∣ d):Gd k (frd d k t) d:=by
 refine⟨λx w=> ?_,λj o q=> ?_,λi j hi o e A=> ?_⟩
 .unfold Go.V.frd at w;obtain⟨y,C,rfl⟩:=List.mem_map.1 w;have:=G.ins y C;by_cases h:0<=y/\y<(k:Int)/\y % (d:Int)≠0
  .rw[zE h];exact .inl rfl
  .rw[zF h];rcases this with h1|h1
   .exact .inl h1
   .exact .inr ⟨h1.1,h1.2.1,by
     by_cases v:y % (d:Int)=0
     .exact v
     .exact absurd ⟨h1.1,h1.2.1,v⟩ h⟩
 .exact(Uj (by omega)).2 ⟨G.all j o (ah2 B q),by omega⟩
 .have m:i<t.length:=by rw[qP]at hi;exact hi
  have p:j<t.length:=by rw[qP]at o;exact o
  have f:=GL (d:=d) (n:=k) m;have g:=GL (d:=d) (n:=k) p;rw[bB hi]at f;rw[bB o]at g;injection f with f
  injection g with g
  have u:(Go.V.frd d k t)[i]=t[i]:=by
   by_cases h:0<=t[i]/\t[i]<(k:Int)/\t[i] % (d:Int)≠0
   .rw[zE h]at f;omega
   .rw[zF h]at f;exact f
  have z:(Go.V.frd d k t)[j]=t[j]:=by
   by_cases h:0<=t[j]/\t[j]<(k:Int)/\t[j] % (d:Int)≠0
   .rw[zE h]at g;omega
   .rw[zF h]at g;exact g
  exact G.one i j m p (by rw[<-u,<-z,e]) (by rw[<-u];exact A)
theorem Gd.free (G:Gd k t d)(E:1<=d)(A:k % d=0)(B:k<t.length*d):(-1:Int)∈t:=by
 by_cases h:(-1:Int)∈t
 .exact h
 exfalso
 have f: ∀i (hi:i<t.length),0<=t[i]/\t[i]<k/\t[i] % (d:Int)=0:=λi hi=>by
  rcases G.ins _ (bD hi)with h1|h1
  .exact absurd (h1▸bD hi) h
  .exact h1
 have o:=Lq (k / d) (t.map λx=>x.toNat / d) (by
  refine List.pairwise_iff_getElem.2 λi j hi m z e=> ?_
  rw[cM]at hi m;rw[cS,cS]at e;have a:=f i hi;have b:=f j m
  have v:t[i].toNat % d=0:=by
   have:=a.2.2;have g:t[i]=((t[i].toNat:Nat):Int):=by omega
   rw[g]at this;omega
  have w:t[j].toNat % d=0:=by
   have:=b.2.2;have g:t[j]=((t[j].toNat:Nat):Int):=by omega
   rw[g]at this;omega
  have h1:=cB t[i].toNat d;have q:=cB t[j].toNat d;rw[v]at h1;rw[w,<-e]at q;have:=G.one i j hi m (by omega) a.1
  omega) (λy D=>by
  obtain⟨x,C,rfl⟩:=List.mem_map.1 D;obtain⟨i,hi,rfl⟩:=cT C;have a:=f i hi;obtain⟨u,p⟩:=cW A;rw[cV (by omega),p,Nat.mul_div_cancel_left _ (by omega),Nat.mul_comm,<-p]
  omega)
 rw[cM]at o;have:=(cV (x:=k) (y:=t.length) (k:=d) (by omega)).2 B;omega
theorem Gd.store (G:Gd k t d)(D:k % d=0)(z:(-1:Int)∈t):Gd (k+1) (t.set (zK t (-1)) k) d:=by
 obtain⟨A,C⟩:=Ed z;generalize zK t (-1)=u at*;refine⟨λx B=> ?_,λj m q=> ?_,λi j hi m e o=> ?_⟩
 .rcases GW B with h|h
  .rcases G.ins x h with h1|h1
   .exact .inl h1
   .exact .inr ⟨h1.1,by omega,h1.2.2⟩
  .exact .inr ⟨by omega,by omega,by rw[h];omega⟩
 .by_cases v:j=k
  .subst v;exact List.mem_set A _
  .obtain⟨i,hi,e⟩:=cT (G.all j (by omega) q);have w:u≠i:=λh=>by subst h;omega
   have p:i<(t.set u (k:Int)).length:=by rw[cD];exact hi
   have:=bD p;rw[List.getElem_set_ne w,e]at this;exact this
 .rw[cD]at hi m;rw[cL,cL]at e;rw[cL]at o;by_cases g:u=i
  .by_cases f:u=j
   .omega
   .rw[zE g,zF f]at e;rcases G.ins _ (bD m)with h1|h1<;>omega
  .rw[zF g]at e o;by_cases f:u=j
   .rw[zE f]at e;rcases G.ins _ (bD hi)with h1|h1<;>omega
   .rw[zF f]at e;exact G.one i j hi m e o
theorem A1 {en:Bool}(I:k<65536)(e:t.length=s)(h1:1<=s)(G:Gd k t d')(H:d' ∣ vF k s):
  Run (qe en) ⟨k,k,-1,t⟩ (tW k t).1 ⟨k,k,-1,(tW k t).2⟩/\Gd (k+1) (tW k t).2 (vF k s)/\(tW k t).2.length=s/\qe en ⟨k,k,-1,(tW k t).2⟩=(if en then O (5,0)else Y)/\(k % vF k s=0->(-1:Int)∈frd (vF k s) k t):=by
 have C:=uQ I h1;have p:=C.pos;obtain⟨v,B⟩:=YY (k:=k) (d:=vF k s) (s:=s) (t:=t) (en:=en) rfl e G.one k;have G1:=G.frd H;unfold tW;rw[e,v];generalize m:vF k s=d at*
 have g: ∀u:Zd,u.length=s->Gd (k+1) u d->qe en ⟨k,k,-1,u⟩=(if en then O (5,0)else Y):=λu J G2=>by
  unfold qe;simp only;rw[Zg,Zh,J,aD,m,Ls λy A F=>by rcases G2.ins y A with h|h;omega;exact h.2.2];simp only;rw[zF];rintro⟨a,b,_⟩;exact b (G2.all k (by omega) (by omega))
 by_cases h:k % d=0
 .have q:=G1.free p h (by rw[qP,e];exact C.gt);have G2:=G1.store h q;obtain⟨z,D⟩:=Ed q;rw[zE h];have f:((frd d k t).set (zK (frd d k t) (-1)) (k:Int)).length=s:=by rw[cD,qP,e]
  refine⟨B.append (.one ?_ ?_),G2,f,g _ f G2,λ_=>q⟩
  .unfold qe;simp only;rw[Zg,Zh,qP,e,aD,m,Ls λy A F=>by rcases G1.ins y A with h|h;omega;exact h.2.2];simp only;rw[zE ⟨by omega,λK=>by rcases G1.ins _ K with h|h<;>omega,q⟩]
  .unfold JC;simp only[aB,if_false,if_true,aD];rw[cK,bB z,D];simp only[cQ];rw[Zg]
 .rw[zF h]
  have G2:Gd (k+1) (frd d k t) d:=⟨λx L=>by
   rcases G1.ins x L with h1|h1
   .exact .inl h1
   .exact .inr ⟨h1.1,by omega,h1.2.2⟩,λj M o=>by
   by_cases w:j=k
   .subst w;exact absurd o h
   .exact G1.all j (by omega) o,G1.one⟩
  have f:(Ql d k t).2.length=s:=by rw[v,qP,e]
  rw[v];refine⟨B,G2,by rw[qP,e],g _ (by rw[qP,e]) G2,λE=>absurd E h⟩
def ey (s:Nat):Nat->List (Int×Int)×Zd
 |0=>tW 0 (cO s (-1))
 |k+1=>((ey s k).1++[(1,1)]++(tW (k+1) (ey s k).2).1,(tW (k+1) (ey s k).2).2)
theorem Gd.none (s d:Nat):Gd 0 (cO s (-1)) d:=
 ⟨λx m=> .inl (List.eq_of_mem_replicate m),λj g=>by omega,λi j hi g e f=>by rw[List.getElem_replicate]at f;omega⟩
theorem Gy {s:Nat}(e:1<=s): ∀k,k<65536->Gd (k+1) (ey s k).2 (vF k s)/\(ey s k).2.length=s
 |0,h=>by
  obtain⟨_,b,c,_⟩:=A1 (en:=Zb) h (cN) e (Gd.none s 1) (cP _);exact⟨b,c⟩
 |k+1,h=>by
  obtain⟨a1,a2⟩:=Gy e k (by omega);obtain⟨_,b,c,_⟩:=A1 (en:=Zb) h a2 e a1 ((uQ (by omega) e).next (uQ h e));exact⟨b,c⟩
theorem TN (e:1<=s):Run (qe Zb) ⟨0,0,-1,cO s (-1)⟩ (ey s 0).1 ⟨0,0,-1,(ey s 0).2⟩/\qe Zb ⟨0,0,-1,(ey s 0).2⟩=Y:=by
 obtain⟨a,b,c,d,_⟩:=A1 (en:=Zb) (k:=0) (by omega) (cN) e (Gd.none s 1) (cP _);exact⟨a,d⟩
theorem TO (e:1<=s)(f:k+1<65536):Run (qe Zb) ⟨(k:Int)+1,k,-1,(ey s k).2⟩ ([(1,1)]++(tW (k+1) (ey s k).2).1) ⟨(k:Int)+1,(k:Int)+1,-1,(ey s (k+1)).2⟩/\qe Zb ⟨(k:Int)+1,(k:Int)+1,-1,(ey s (k+1)).2⟩=Y:=by
 obtain⟨a1,a2⟩:=Gy e k (by omega);obtain⟨a,b,c,d,_⟩:=A1 (en:=Zb) f a2 e a1 ((uQ (by omega) e).next (uQ f e));refine⟨Run.cons (m':=⟨((k+1:Nat):Int),((k+1:Nat):Int),-1,(ey s k).2⟩) ?_ ?_ a,d⟩
 .unfold qe;simp only;rw[Zg,Zg]
  congr 2
  omega
 .unfold JC;simp only[if_true];rw[Zg];rfl
theorem Xe (e:1<=s)(f:k<65536):qe Za ⟨k,k,-1,(ey s k).2⟩=O (5,0):=by
 cases k with
 |zero=>
  obtain⟨a,b,c,d,_⟩:=A1 (en:=Za) (k:=0) (by omega) (cN) e (Gd.none s 1) (cP _);exact d
 |succ k=>
  obtain⟨a1,a2⟩:=Gy e k (by omega);obtain⟨a,b,c,d,_⟩:=A1 (en:=Za) f a2 e a1 ((uQ (by omega) e).next (uQ f e));exact d
def cut (n:Nat)(t:Zd):Zd:=t.map λx=>if x<(n:Int)then x else-1
def frB (d:Nat)(t:Zd)(i:Nat):List (Int×Int):=if i % d=0 then [(4,(zK t i:Int))]else []
def bkF (d:Nat)(t:Zd):Nat->List (Int×Int)
 |0=>[]
 |i+1=>(3,(zK t ((i-i % d:Nat):Int):Int))::((if i % d≠0 then [(1,((i % d:Nat):Int))]else [])++(7,0)::(frB d t i++bkF d t i))
theorem OM {n:Nat}:(cut n t).length=t.length:=by unfold cut;rw[cM]
theorem TY {n:Nat}(hi:i<t.length):(cut n t)[i]?=O (if t[i]<(n:Int)then t[i]else-1):=by
 unfold cut;rw[List.getElem?_map,bB hi];rfl
theorem GG {n:Nat}(g:0<=x):x∈cut n t↔x∈t/\x<(n:Int):=by
 unfold cut;rw[List.mem_map];constructor
 .rintro⟨y,f,e⟩;by_cases h:y<(n:Int)
  .rw[zE h]at e;subst e;exact⟨f,h⟩
  .rw[zF h]at e;omega
 .rintro⟨f,h⟩;exact⟨x,f,zE h⟩
theorem Uc {n:Nat}(e:0<=x/\x<(n:Int)):zK (cut n t) x=zK t x:=by
 unfold zK cut;rw[List.findIdx_map]
 congr 1
 funext y
 show Zc ((if y<(n:Int)then y else-1)=x)=Zc (y=x);by_cases h:y<(n:Int)
 .rw[zE h]
 .rw[zF h,Ze,Ze]
theorem XH (one: ∀i j (hi:i<t.length) (g:j<t.length),t[i]=t[j]->0<=t[i]->i=j)(o:(i:Int)∈t):(cut (i+1) t).set (zK t i) (-1)=cut i t:=by
 obtain⟨m,e⟩:=Ed o;generalize zK t i=u at*;apply List.ext_getElem?;intro j;by_cases g:j<t.length
 .rw[TY g,List.getElem?_set];by_cases f:u=j
  .subst f;rw[zE rfl,zE (by rw[OM];exact m),Zh]
  .rw[zF f,TY g];have p:t[j]≠(i:Int):=λh=>f (one u j m g (by rw[e,h]) (by omega))
   by_cases h:t[j]<(i:Int)
   .rw[zE h,Zg]
   .rw[zF h,Zh]
 .rw[cR (by rw[cD,OM];omega),cR (by rw[OM];omega)]
theorem XG (e:(i:Int)∉t):cut (i+1) t=cut i t:=by
 unfold cut;refine cU λx f=> ?_
 have:x≠(i:Int):=λh=>e (h▸f)
 by_cases h:x<(i:Int)
 .rw[zE h,Zg]
 .rw[zF h,Zh]
theorem Uh {en:Bool}(G:Gd (l+1) t d)(hi:i<=l)(v:1<=d):Run (qe en) ⟨l,i,i,cut (i+1) t⟩ (frB d t i) ⟨l,i,i,cut i t⟩:=by
 unfold frB;by_cases h:i % d=0
 .have g:=G.all i (by omega) h;have e:(i:Int)∈cut (i+1) t:=(GG (by omega)).2 ⟨g,by omega⟩
  have q:mO (cut (i+1) t)=(i:Int):=It (by omega) (λy u=>by
   by_cases o:0<=y
   .have:=((GG o).1 u).2;omega
   .omega) (.inr e)
  have f:=Uc (n:=i+1) (t:=t) (x:=i) (by omega);obtain⟨p,m⟩:=UW e;rw[f]at p m;rw[zE h];refine .one ?_ ?_
  .unfold qe;simp only[q,f];rw[Zh,Zg]
  .unfold JC;simp only[aB,if_false,if_true,aD];rw[cK,m];simp only[cQ];rw[Zg,XH G.one g]
 .rw[zF h,XG λg=>by rcases G.ins _ g with h1|h1<;>omega];exact .nil _
theorem Xs {l d:Nat}{t:Zd}{en:Bool}(F:l<65536)(G:Gd (l+1) t d)(v:1<=d): ∀i,i<=l->Run (qe en) ⟨l,i,i,cut i t⟩ (bkF d t i) ⟨l,0,0,cut 0 t⟩
 |0,_=> .nil _
 |i+1,hi=>by
  have w:=Nat.mod_lt i (show d > 0 by omega);have H:=Nat.mod_le i d
  have p:(i-i % d) % d=0:=by
   have:=cB i d;rw[show i-i % d=d*(i / d)by omega];exact Nat.mul_mod_right _ _
  generalize z:i % d=r at*;have I:=G.all (i-r) (by omega) p;have m:((i-r:Nat):Int)∈cut (i+1) t:=(GG (by omega)).2 ⟨I,by omega⟩
  have q:mO (cut (i+1) t)=((i-r:Nat):Int):=It (by omega) (λy K=>by
   by_cases g:0<=y
   .obtain⟨A,L⟩:=(GG g).1 K;rcases G.ins y A with h3|h3
    .omega
    .obtain⟨y,rfl⟩:=Int.eq_ofNat_of_zero_le g;have B:y % d=0:=by have:=h3.2.2;omega
     have C:=cB i d;have D:=cB y d;rw[B]at D;rw[z]at C;have E:y / d<=i / d:=Nat.div_le_div_right (by omega);have M:d*(y / d)<=d*(i / d):=Nat.mul_le_mul_left _ E;omega
   .omega) (.inr m)
  have o:=Uc (n:=i+1) (t:=t) (x:=((i-r:Nat):Int)) (by omega);obtain⟨J,u⟩:=UW m;rw[o]at J u;unfold bkF;rw[z]
  have f:Run (qe en) ⟨l,i,((i+1:Nat):Int),cut (i+1) t⟩ ((7,0)::(frB d t i++bkF d t i)) ⟨l,0,0,cut 0 t⟩:=by
   refine .cons (m':=⟨l,i,i,cut (i+1) t⟩) ?_ ?_ ((Uh G (by omega) v).append (Xs F G v i (by omega)))
   .unfold qe;simp only[q];rw[Zh,Zh,Zh,Zg]
   .unfold JC;simp only[aB,if_false,if_true,true_and];rw[Zg]
  refine .cons (m':=⟨l,((i-r:Nat):Int),((i+1:Nat):Int),cut (i+1) t⟩) ?_ ?_ ?_
  .unfold qe;simp only[q,o];rw[Zh,Zh,Zh,Zh,Zg]
  .unfold JC;simp only[aB,if_false,if_true,aD];rw[cK,u];simp only[cQ];rw[Zg]
  .by_cases g:r≠0
   .rw[zE g];refine .cons (m':=⟨l,i,((i+1:Nat):Int),cut (i+1) t⟩) ?_ ?_ f
    .unfold qe;simp only[q];rw[Zh,Zh,Zh,Zh,Zh,Zg]
     congr 2
     omega
    .unfold JC;simp only[if_true];rw[Zg]
     congr 2
     omega
   .rw[zF g,List.nil_append];have e:((i-r:Nat):Int)=(i:Int):=by omega
    rw[e];exact f
def MU (l:Nat)(t:Zd):List (Int×Int):=(5,0)::(frB (vF l t.length) t l++bkF (vF l t.length) t l)
theorem Xm (f:l<65536)(g:1<=s):Run (qe Za) ⟨l,l,-1,(ey s l).2⟩ (MU l (ey s l).2) ⟨l,0,0,cut 0 (ey s l).2⟩/\qe Za ⟨l,0,0,cut 0 (ey s l).2⟩=Y:=by
 obtain⟨G,e⟩:=Gy g l f;have m:=(uQ f g).pos;unfold MU;rw[e];have q:=Xe (s:=s) (k:=l) g f;generalize (ey s l).2=t at*
 have p:cut (l+1) t=t:=by
  unfold cut
  conv=>rhs;rw[<-List.map_id t]
  refine cU λx v=> ?_
  rcases G.ins x v with h|h
  .rw[Zg];rfl
  .rw[Zg];rfl
 refine⟨.cons (m':=⟨l,l,l,t⟩) q ?_ (Run.append (m':=⟨l,l,l,cut l t⟩) ?_ (Xs f G m l (Nat.le_refl _))), ?_⟩
 .unfold JC;simp only[aB,if_false,if_true,true_and]
 .have:=Uh (en:=Za) (i:=l) G (Nat.le_refl _) m;rw[p]at this;exact this
 .have u:mO (cut 0 t)= -1:=It (by omega) (λy w=>by
   by_cases o:0<=y
   .have:=((GG o).1 w).2;omega
   .omega) (.inl rfl)
  unfold qe;simp only[u];rw[Zh,Zh,zE trivial]
end
section
open List renaming length_append -> aB, length_cons -> aD, length_singleton -> bB
theorem YP : ∀f,(∀n c k (h:List Bool) e,1<=n->n<=65536->(2<=n->1<=c)->(pt f Zb n c k h e).length+2<=5*n)/\∀n c k (h:List Bool) e,1<=n->n<=65536->1<=c->(pt f Za n c k h e).length+3<=5*n
 |0=>⟨λn c k h e o _ _=>by show 0+2<=_;omega,λn c k h e o _ _=>by show 0+3<=_;omega⟩
 |f+1=>by
  obtain⟨u,m⟩:=YP f;refine⟨λn c k h e o q p=> ?_,λn c k h e o q p=> ?_⟩
  .unfold pt;by_cases g:n=1
   .rw[zE g];simp;omega
   .rw[zF g,aD];have:=m n c (h.findIdx λb=> !b) (h.set (h.findIdx λb=> !b) Za) e o q (p (by omega));omega
  .unfold pt;by_cases g:n<=1
   .rw[zE g];simp;omega
   .rw[zF g,aD,aB,aD];obtain⟨w,A,z,_⟩:=aa0 (n:=n) (c:=c) (by omega) p q
    have a:=u (n-Y9 n c) (c-1) 0 h e (by omega) (by omega) (λh=>by
     by_cases v:c=1
     .have:=z v;omega
     .omega)
    have b:=m (Y9 n c) c k h Zb w (by omega) p;omega
theorem Ui (d:Nat)(t:Zd): ∀n,(Ql d n t).1.length<=n
 |0=>Nat.le_refl _
 |n+1=>by
  have:=Ui d t n;unfold Ql;split
  .rw[aB,bB];omega
  .omega
theorem Nj (k:Nat)(t:Zd):(tW k t).1.length<=k+1:=by
 have:=Ui (vF k t.length) t k;unfold tW;split
 .rw[aB,bB];omega
 .omega
theorem Ku (s:Nat): ∀k,(ey s k).1.length<=(k+1)*(k+2)
 |0=>by have:=Nj 0 (List.replicate s (-1));show(tW 0 _).1.length<=_;omega
 |k+1=>by
  have e:=Ku s k;have f:=Nj (k+1) (ey s k).2;show((ey s k).1++[(1,1)]++(tW (k+1) (ey s k).2).1).length<=_;rw[aB,aB,bB]
  have:(k+1+1)*(k+1+2)=(k+1)*(k+2)+2*(k+2):=by
   rw[show(k+1+1)=k+2 by omega,show k+1+2=(k+1)+2 by omega,Nat.mul_add,Nat.mul_comm (k+2) (k+1),Nat.mul_comm (k+2) 2]
  omega
theorem TR (d:Nat)(t:Zd): ∀i,(bkF d t i).length<=4*i
 |0=>Nat.le_refl _
 |i+1=>by
  have:=TR d t i;unfold bkF frB;rw[aD,aB,aD,aB]
  repeat' split
  all_goals simp;omega
end
section
open List renaming getElem?_eq_none -> aB, length_cons -> aD
theorem Rg {n:Int}(h:1<=n/\n<=65535):jT 1 n=Za:=by
 unfold jT;rw[Zh,Zh,zE rfl,Zf]
theorem Bb {n:Int}(e:2<=a/\a<=4)(h:0<=n/\n<1048576):jT a n=Za:=by
 unfold jT;rw[Zh,Zh,Zh,zE e.2,zB h]
theorem Ba {n:Int}(e:5<=a/\a<=9)(h:n=0):jT a n=Za:=by
 unfold jT;rw[Zh,Zh,Zh,Zh,zB h]
section
variable {c:Cx}
theorem Bi {W':Zd}(e:dy c W W'):kR c W'=kR c W:=by
 unfold kR;refine List.map_congr_left λk _=> ?_
 rw[e.tag]
theorem RE {w:Zd}(o:k<c.ns.toNat)(e:sp c k+w.length<=W.length)(m:w.length=c.X.length+1):kR c (put W (sp c k) w)=(kR c W).set k (w.getD 0 0-1):=by
 apply List.ext_getElem?;intro j;by_cases g:j<c.ns.toNat
 .rw[Ej g,List.getElem?_set];by_cases f:k=j
  .subst f;rw[zE rfl,zE (by rw[nU];exact o),xj e m]
  .rw[zF f,Ej g,J5 e m (λh=>f h.symm)]
 .rw[aB (by rw[nU];omega),aB (by rw[List.length_set,nU];omega)]
theorem xA (e:k<c.ns.toNat):(kR c W).getD k 0=gX c W k-1:=by
 rw[List.getD_eq_getElem?_getD,Ej e];rfl
theorem JT (h:c.Ok)(u:c.mode≠3){s:Dy}(hi:Inv c s){a:Int×Int}{m':Mc}(e:JC a (oO c s)=O m'):(CC c a.1 a.2 s).1=0/\oO c (CC c a.1 a.2 s).2=m':=by
 obtain⟨a,n⟩:=a;have m:=hi.w;have Z:=hi.L;have hp:=hi.p;have hq:=hi.q;have N:=h.ns;have F:(seg s.W (c.off 1) c.X.length).length=c.X.length:=dp (m.in' h (i:=1) (by omega));unfold JC oO at e;simp only[nU]at e;show(CC c a n s).1=0/\oO c (CC c a n s).2=m';by_cases v:a=1
 .subst v;rw[zE rfl]at e;by_cases f:1<=n/\n<=65535/\s.p+n<=s.L
  .rw[zE f]at e;injection e with e
   unfold CC;rw[zF (by rw[Rg (by omega)];simp),Zh,zE rfl,Zh];refine⟨rfl, ?_⟩;rw[<-e];unfold oO;simp only[Bi (JW h m s.p n.toNat)]
  .rw[zF f]at e;cases e
 rw[zF v]at e;by_cases z:a=2
 .subst z;rw[zE rfl]at e;by_cases f:0<=n/\n<(c.ns.toNat:Int)/\(kR c s.W).getD n.toNat 0<0
  .rw[zE f]at e;injection e with e
   have g:n.toNat<c.ns.toNat:=by omega
   obtain⟨H,I,J⟩:=qA h u g;obtain⟨K,M⟩:=m.tk h;have o:=xA (c:=c) (W:=s.W) g;unfold CC;rw[zF (by rw[Bb (by omega) (by omega)];simp),Zh,Zh,zE rfl,Zh];refine⟨rfl, ?_⟩;rw[<-e];unfold oO;simp only;rw[RE g (by rw[aD];omega) (by rw[aD,F])]
   have Q:(IntKind.u64.wrap (IntKind.i64.wrap (s.p+1))::seg s.W (c.off 1) c.X.length).getD 0 0=s.p+1:=by
    show IntKind.u64.wrap (IntKind.i64.wrap (s.p+1))=_;rw[Zi,Zk]
   rw[Q,show s.p+1-1=s.p by omega]
  .rw[zF f]at e;cases e
 rw[zF z]at e;by_cases A:a=3
 .subst A;rw[zE rfl]at e;by_cases f:0<=n/\n<(c.ns.toNat:Int)/\0<=(kR c s.W).getD n.toNat 0
  .rw[zE f]at e;injection e with e
   have g:n.toNat<c.ns.toNat:=by omega
   obtain⟨H,I,J⟩:=qA h u g;obtain⟨K,M⟩:=m.tk h;have o:=xA (c:=c) (W:=s.W) g;have V:(seg s.W (sp c n.toNat+1) c.X.length).length=c.X.length:=dp (by omega);unfold CC;rw[zF (by rw[Bb (by omega) (by omega)];simp),Zh,Zh,Zh,zE rfl,Zh];refine⟨rfl, ?_⟩;rw[<-e];unfold oO;simp only;rw[Bi (dy.put h (dy.refl s.W) m (i:=1) (by omega) (by rw[V];exact Nat.le_refl _)),o]
  .rw[zF f]at e;cases e
 rw[zF A]at e;by_cases B:a=4
 .subst B;rw[zE rfl]at e;by_cases f:0<=n/\n<(c.ns.toNat:Int)/\0<=(kR c s.W).getD n.toNat 0
  .rw[zE f]at e;injection e with e
   have g:n.toNat<c.ns.toNat:=by omega
   obtain⟨H,I,J⟩:=qA h u g;obtain⟨K,M⟩:=m.tk h;have o:=xA (c:=c) (W:=s.W) g;unfold CC;rw[zF (by rw[Bb (by omega) (by omega)];simp),Zh,Zh,Zh,Zh,zE rfl,Zh];refine⟨rfl, ?_⟩;rw[<-e];unfold oO;simp only;rw[RE g (by rw[cd];omega) (cd _)];rfl
  .rw[zF f]at e;cases e
 rw[zF B]at e;by_cases C:a=5
 .subst C;rw[zE rfl]at e;by_cases f:n=0/\s.q= -1/\s.p=s.L
  .rw[zE f]at e;injection e with e
   unfold CC;rw[zF (by rw[Ba (by omega) f.1];simp),Zh,Zh,Zh,Zh,Zh,zE rfl,Zh,Zh];refine⟨rfl, ?_⟩;rw[<-e];unfold oO;simp only[Bi (GQ h m F)]
  .rw[zF f]at e;cases e
 rw[zF C]at e;by_cases D:a=6
 .subst D;rw[zE rfl]at e;by_cases f:n=0/\s.q= -1/\s.p=s.L-1
  .rw[zE f]at e;injection e with e
   unfold CC;rw[zF (by rw[Ba (by omega) f.1];simp),Zh,Zh,Zh,Zh,Zh,Zh,zE rfl,Zh,Zh];refine⟨rfl, ?_⟩;rw[<-e];unfold oO;simp only[Bi (GP h m s.p).1]
  .rw[zF f]at e;cases e
 rw[zF D]at e;by_cases E:a=7
 .subst E;rw[zE rfl]at e;by_cases f:n=0/\0<s.q/\s.p=s.q-1
  .rw[zE f]at e;injection e with e
   unfold CC;rw[zF (by rw[Ba (by omega) f.1];simp),Zh,Zh,Zh,Zh,Zh,Zh,Zh,Zh,Zh];refine⟨rfl, ?_⟩;rw[<-e];unfold oO;simp only[Bi (JX h m s.p).1]
  .rw[zF f]at e;cases e
 rw[zF E]at e;cases e
theorem db {α β:Type}{x:Option α}{a:α}{f:α->Option β}{r:Option β}(h:x=O a)(e:f a=r):x.bind f=r:=by rw[h];exact e
end
end
section
theorem Ik {α γ:Type}{f:α->Option (α⊕γ)}{s g:α}{x:γ}(h:Reach f k s g)(m:k<18446744073709551615)(e:f g=O (.inr x)):aq f di s=O x:=by
 have:=h (18446744073709551616-k);rw[show 18446744073709551616-k+k=di by unfold di;omega,show 18446744073709551616-k=(18446744073709551615-k)+1 by omega]at this;rw[this,cb,e];rfl
section
variable {c:Cx}
end
end
section
open List renaming replicate -> aB, eq_of_mem_replicate -> aD, getElem?_eq_none -> bB
section
variable {a0:Int} {a1 a2:Zd} {a3:Int} {a4:List bx} {a5:Int} {a6:List bx} {a7 a8 a9:Int}
end
section
variable {c:Cx}
theorem Yv (h:c.Ok)(g:c.mode≠3)(e:fJ c.mode c.X.length c.T.length c.R c.l c.Q c.k c.len c.words=(c.fixed,c.tp,c.sl,c.ns,0)):1<=c.ns:=by
 have n:=h.num;have m:=n.sl;rw[zF g]at m;unfold fJ at e;rw[zF (by rw[h.hc];simp)]at e;by_cases f:c.words<vw c.X.length c.T.length c.R c.Q+tv c.mode c.l c.k+least c.mode c.len*tu c.mode c.X.length c.R c.l
 .rw[zE f]at e;injection e with _ e
  injection e with _ e
  injection e with _ e
  injection e with _ e
  cases e
 .rw[zF f,zF g]at e;injection e with _ e
  injection e with _ e
  injection e with _ e
  injection e with e _
  unfold least at f;rw[zF g]at f;have o:tu c.mode c.X.length c.R c.l=c.sl:=h.sl.symm;rw[o]at e f;rw[<-e];exact(Int.le_ediv_iff_mul_le (by omega)).2 (by omega)
theorem aa9 (h:c.Ok)(f:c.mode≠3):kR c (new2 c).W=aB c.ns.toNat (-1):=by
 apply List.ext_getElem?;intro k;by_cases e:k<c.ns.toNat
 .rw[Ej e,GX h f e,List.getElem?_replicate,zE e];rfl
 .rw[bB (by rw[nU];omega),bB (by rw[List.length_replicate];omega)]
theorem Yk (h:c.Ok)(e:c.mode≠3):oO c (new2 c)=⟨c.len,0,-1,aB c.ns.toNat (-1)⟩:=by
 unfold oO;rw[aa9 h e];rfl
theorem aj5 (s:Nat):hld (aB s (-1))=aB s Zb:=by
 unfold hld;rw[List.map_replicate];rfl
theorem aq4 (p:l<=400)(o:1<=s): ∃m',Run A5 ⟨l,0,-1,aB s (-1)⟩ (if l=0 then [(5,0)]else pt (2*l) Zb l s 0 (aB s Zb) Za) m'/\A5 m'=Y/\m'.q=0/\(if l=0 then [((5:Int),(0:Int))]else pt (2*l) Zb l s 0 (aB s Zb) Za).length<=2000:=by
 have f:mO (aB s (-1))= -1:=It (by omega) (λy g=>by rw[aD g];exact Int.le_refl _) (.inl rfl)
 have e: ∀L:Int,A5 ⟨L,0,0,aB s (-1)⟩=Y:=λL=>by
  unfold A5;simp only[f];rw[zF (show¬(0:Int)<0 by omega),Zh,zE trivial]
 by_cases m:l=0
 .subst m;rw[zE rfl];refine⟨⟨0,0,0,aB s (-1)⟩, .one ?_ ?_,e 0,rfl,by simp⟩
  .unfold A5;simp only[f];rw[zE (show(-1:Int)<0 by omega),Zh,Zh,Zg]
  .unfold JC;simp only[Int.reduceEq,if_false,if_true,true_and];rfl
 .rw[zF m];refine⟨⟨l,0,0,aB s (-1)⟩, ?_,e l,rfl,by have:=(YP (2*l)).1 l s 0 (aB s Zb) Za (by omega) (by omega) (λ_=>o);omega⟩;have:=(YZ (2*l)).1 l s 0 (aB s (-1)) Za l (-1) 0 (Nat.le_refl _) ⟨by omega,by omega,by rw[Zg];omega,λ_=>rfl,(λh=>by cases h),by omega⟩ (λy g=>by rw[aD g];omega) (λy g=>by rw[aD g];omega) (by unfold CF;rw[List.countP_replicate];simp) (λ_=>o);rw[aj5]at this;exact this
theorem aJ8 (h:c.Ok)(f:c.mode=1)(e:fJ c.mode c.X.length c.T.length c.R c.l c.Q c.k c.len c.words=(c.fixed,c.tp,c.sl,c.ns,0)):lw c.mode c.X c.T c.R c.l c.Q c.k c.len c.words=O (.inr (.inr (.inl (c.mode,Zb,Zb,c.fixed,c.tp,c.sl,c.ns,c.mode,c.R,c.Q,c.len,c.words,c.len,c.X,c.T,c.l,c.k,c.P,c.tk,(c.off 8:Int),c.ns,(c.X.length:Int),c.fixed,c.fixed,c.words,(new2 c).W)))):=by
 unfold lw;refine db (aI7 h (by omega) e) ?_
 refine db (show gq _ _ _ _ _ _ _ _ _ _ _ _ _ _ _ _ _ _ _ _ _ _ _ _ _ _ _ _ _ _ _ _ _ _ _ _ _ _ _=O (.inl (c.mode,Zb,Zb))from by
  unfold gq;rw[show ix c.mode 4=O 1 from by rw[f];rfl]
  rfl) ?_
 rfl
theorem aJ9 (h:c.Ok)(f:c.mode=2)(e:fJ c.mode c.X.length c.T.length c.R c.l c.Q c.k c.len c.words=(c.fixed,c.tp,c.sl,c.ns,0)):lw c.mode c.X c.T c.R c.l c.Q c.k c.len c.words=O (.inr (.inr (.inr (c.mode,Zb,Zb,c.fixed,c.tp,c.sl,c.ns,c.mode,c.R,c.Q,c.len,c.words,c.len,c.X,c.T,c.l,c.k,c.P,c.tk,(c.off 8:Int),c.ns,(c.X.length:Int),c.fixed,c.fixed,c.words,(new2 c).W)))):=by
 unfold lw;refine db (aI7 h (by omega) e) ?_
 refine db (show gq _ _ _ _ _ _ _ _ _ _ _ _ _ _ _ _ _ _ _ _ _ _ _ _ _ _ _ _ _ _ _ _ _ _ _ _ _ _ _=O (.inr (c.mode,Zb,Zb))from by
  unfold gq;rw[show ix c.mode 4=O 2 from by rw[f];rfl]
  rfl) ?_
 rfl
theorem Kv (e:1<=s)(f:k<65536):qe Zb ⟨k,k,-1,(ey s k).2⟩=Y:=by
 cases k with
 |zero=>exact(TN e).2
 |succ k=>exact(TO e f).2
end
end
end Go.V
