/- A part of the proof. No condition. -/
import Derived.Test.YtgnojcajllcmoaaGreatDoorL5
import Derived.KernelRfl
import Derived.Test.YtgnojcajllcmoaaGreatDoorA7
set_option linter.all false
namespace Go.V
open Go.Ab
open Option renaming some->O,none->Y
open Bool renaming true->Za,false->Zb
open Decidable renaming decide->Zc
open List renaming length_eq_zero_iff->dl
open List renaming mem_singleton->dy
open List renaming length->ft
open Int renaming toNat->fu
open Option renaming bind->gn
variable {cs d r rest t w:Zd}{a b x y:Int}{L f i k l:Nat}{s:Dy}{bs:List Bool}{en q:Bool}{es:List Ev}{o:bx}
set_option maxRecDepth 100000
section
open Go.IntKind renaming wrap->zH,i64->zI,u64->zJ
open Bool renaming not_true->bD
open Eq renaming trans->aD
open List renaming length_drop->aB,getElem?_cons_succ->cB,getElem?_cons_zero->cD,getElem_mem->cK,length_append->cL,length_take->cM,mem_of_mem_drop->cN,take_length->cO
open Nat renaming le_trans->bB
section
variable {l:List bx} {m:Zd}
end
section
variable {l:List bx} {m:Zd}
end
section
variable {a0:Int} {a1 a2:Zd} {a3:Int} {a4:List bx} {a5:Int} {a6:List bx} {a7 a8:Int}
end
theorem ay0 {f:(Int×Zd)->Option ((Int×Zd)⊕Zd)}{l:Zd}(s:Zd)(p:ft l<1000000)(g: ∀i,(hi:i<ft l)->f ((i:Int),s++l.take i)=O (.inl (((i+1:Nat):Int),s++l.take i++[l[i]])))(e:f ((ft l:Int),s++l)=O (.inr<|s++l)):am f cj (0,s)=O (s++l):=by
 have j:am f cj (0,s++l.take 0)=O (s++l):=by
  refine bz (n:=ft l) (λi=>s++l.take i) V1 (λi hi=> ?_) ?_
  .rw[g i hi,List.take_succ_eq_append_getElem hi,List.append_assoc]
  rw[cO,e]
 grind
section
variable {a0:Int} {a1 a2:Zd} {a3:Int} {a4:List bx} {a5:Int} {a6:List bx} {a7 a8:Int}
end
section
variable (a0:Int) (a1 a2:Zd) (a3:Int) (a4:List bx) (a5:Int) (a6:List bx) (a7 a8:Int)
end
def mC :Bool->Zd->Option (Int×Zd)
 |false,t=>O (0,t)
 |true,[]=>Y
 |true,x::t=>O (x,t)
def tj (b:Bool):Nat:=if b then 1 else 0
def mm (x:Int):Int:=min x 2147483647
def R7 :Zd->Int×Int×Int×Int×Int×Int×Int
 |[]=>(0,0,0,0,0,0,4)
 |k::t=>if 7<k then(0,0,0,0,0,0,6)else
  match mC (bu k).1 t with
  |none=>(0,0,0,0,0,0,4)
  |some (d,e)=>match mC (bu k).2.1 e with
   |none=>(0,0,0,0,0,0,4)
   |some (a,g)=>match mC (bu k).2.2.1 g with
    |none=>(0,0,0,0,0,0,4)
    |some (b,j)=>match mC (bu k).2.2.2 j with
     |none=>(0,0,0,0,0,0,4)
     |some (v,p)=>(k,mm d,mm a,mm b,v,((1+tj (bu k).1+tj (bu k).2.1+tj (bu k).2.2.1+tj (bu k).2.2.2:Nat):Int),0)
abbrev jB (w:Zd):Prop:= ∀x∈w,0<=x/\x<=18446744073709551615
def Dm {n:Nat}(h:w.drop n=x::t):n<ft w/\rd w (n:Int)=O x/\w.drop (n+1)=t/\x∈w:=by
 have e:n<ft w:=by
  rcases Nat.lt_or_ge n (ft w) with h1|h1
  .exact h1
  rw[List.drop_of_length_le h1]at h;cases h
 rw[<-List.getElem_cons_drop e]at h;injection h with h1 g
 exact⟨e,by rw[bq e,h1],g,by rw[<-h1];exact cK e⟩
theorem OK {n:Nat}(h:w.drop n=[]):ft w<=n:=by
 simp_all
def kV {n:Nat}{p:Zd}(h:w.drop n=t)(e:mC q t=O (x,p)):w.drop (n+tj q)=p/\(x=0∨x∈w)/\(n<=ft w->n+tj q<=ft w):=by
 cases q with
 |false=>
  injection e with e
  injection e with g j
  exact⟨by rw[<-j,<-h];rfl, .inl g.symm,λh=>h⟩
 |true=>
  cases t with
  |nil=>cases e
  |cons y t=>
   injection e with e
   injection e with g j
   have⟨u,A,v,z⟩:=Dm h;exact⟨by rw[<-j,<-v];rfl, .inr<|g▸z,λ_=>u⟩
def VS (p:ft w<=1000000){n:Nat}(h:w.drop n=t)(u:n<=100):
  jO q (n:Int) w Zb=O (match mC q t with
   |some (x,_)=>(x,((n+tj q:Nat):Int),Zb)
   |none=>(0,((n+1:Nat):Int),Za)):=by
 unfold jO;cases q with
 |false=>rfl
 |true=>
  simp only[bD,zD];rw[ad (n:=(n:Int)+1) V1,ad (n:=(n:Int)+1-1) V1,ah];cases t with
  |nil=>
   have:=OK h;rw[Zg];rfl
  |cons x t=>
   have⟨g,e,j,_⟩:=Dm h;rw[Zh,show(n:Int)+1-1=(n:Int)by omega,e];rfl
def EK (e:ft w<=1000000){n:Nat}(g:n<=100): ∃x m,jO q (n:Int) w Za=O (x,((m:Nat):Int),Za)/\m<=n+1:=by
 unfold jO;cases q with
 |false=>exact⟨_,n,rfl,V1⟩
 |true=>
  simp only[bD,zD];rw[ad (n:=(n:Int)+1) V1,ad (n:=(n:Int)+1-1) V1,ah];by_cases c:(ft w:Int)<(n:Int)+1
  .rw[zE c];exact⟨_,n+1,rfl,V1⟩
  rw[zF c,show(n:Int)+1-1=(n:Int)by omega,bq (show n<(ft w) by omega)];exact⟨_,n+1,rfl,V1⟩
theorem av5 (u:jB w)(e:ft w<=1000000){n:Nat}(h:w.drop n=t)(g:n<=100):
  gV q (n:Int) w Zb=O (match mC q t with
   |some (x,_)=>(mm x,((n+tj q:Nat):Int),Zb)
   |none=>(0,((n+1:Nat):Int),Za)):=by
 unfold gV;rw[VS e h g];cases j:mC q t with
 |none=>rfl
 |some p=>
  have⟨x,v⟩:=p;have⟨_,hx,_⟩:=kV h j
  have hx:0<=x:=by
   grind
  simp only[zG];rw[Zi];rfl
def Og (j:ft w<=1000000){n:Nat}(p:n<=100): ∃x m,gV q (n:Int) w Za=O (x,((m:Nat):Int),Za)/\m<=n+1:=by
 have⟨x,m,e,g⟩:=EK (q:=q) j p;unfold gV;rw[e];exact⟨_,m,rfl,g⟩
theorem Wc (z:jB w)(e:w.length<=1000000):w8 w=O (R7 w):=by
 unfold w8;cases w with
 |nil=>rfl
 |cons k t=>
  have hk:=z k V2;simp only[ah];rw[zF V3];have C:rd (k::t) 0=O k:=bq (l:=k::t) (i:=0) V2;rw[C];simp only[zG];simp only[R7];by_cases c:7<k
  .rw[Zg,zE c]
  rw[Zh,zF c,ad (n:=k) V1,Ly];simp only[zG];generalize bu k=q;obtain⟨g,j,p,v⟩:=q;simp only;have E:(k::t).drop 1=t:=rfl;have A:=av5 z e (q:=g) E V1;have A:gV g 1 (k::t) Zb=_:=A;have f1:tj g<=1:=by cases g<;>decide
  have f2:tj j<=1:=by cases j<;>decide
  have f3:tj p<=1:=by cases p<;>decide
  rw[A];cases V:mC g t with
  |none=>
   simp only[zG];obtain⟨x2,m2,Q,l2⟩:=Og (q:=j) e (n:=1+1) V1;rw[Q];simp only[zG];obtain⟨K,D,B,l3⟩:=Og (q:=p) e (n:=m2) V1;rw[B];simp only[zG];obtain⟨M,J,u,I⟩:=EK (q:=v) e (n:=D) V1;rw[u];rfl
  |some p1=>
   obtain⟨x1,t1⟩:=p1;obtain⟨F,_,_⟩:=kV E V;simp only[zG];rw[av5 z e (q:=j) F V1];cases W:mC j t1 with
   |none=>
    simp only[zG];obtain⟨K,D,B,l3⟩:=Og (q:=p) e (n:=1+tj g+1) V1;rw[B];simp only[zG];obtain⟨M,J,u,I⟩:=EK (q:=v) e (n:=D) V1;rw[u];rfl
   |some p2=>
    obtain⟨x2,t2⟩:=p2;obtain⟨H,_,_⟩:=kV F W;simp only[zG];rw[av5 z e (q:=p) H V1];cases Z:mC p t2 with
    |none=>
     simp only[zG];obtain⟨M,J,u,I⟩:=EK (q:=v) e (n:=1+tj g+tj j+1) V1;rw[u];rfl
    |some p3=>
     obtain⟨K,t3⟩:=p3;obtain⟨N,_,_⟩:=kV H Z;simp only[zG];rw[VS e (q:=v) N V1]
     grind
def HK (p:ft w<=1000000){n:Nat}(h:w.drop n=t)(u:n<=100){γ:Type}{ok:Int->Int->Option γ}{bad:Option γ}{skip:Option γ}(v:skip=ok 0 (n:Int)∨q=Za):
  (cond (!q) skip (cond (Zc<|(ft w:Int)<=(n:Int)) bad<|gn (rd w (n:Int)) λx=>ok x<|zH zI<|(n:Int)+1))=(match mC q t with
   |none=>bad
   |some (x,_)=>if q then ok x ((n+tj q:Nat):Int)else skip):=by
 cases q with
 |false=>rfl
 |true=>
  simp only[bD,zD,if_true];rw[ad (n:=(n:Int)+1) V1,ah];cases t with
  |nil=>
   have:=OK h;rw[Zg];rfl
  |cons x t=>
   have⟨g,e,j,_⟩:=Dm h;rw[Zh,e];rfl
theorem TE (x:Int){γ:Type}(f:Int->γ):cond (Zc<|2147483647<x) (f 2147483647) (f x)=f (mm x):=by
 rw[ah];unfold mm
 grind
theorem Yw (hu:jB w)(J:w.length<=1000000):zL w=O (R7 w):=by
 unfold zL;cases w with
 |nil=>rfl
 |cons k t=>
  have hk:=hu k V2;simp only[ah];rw[zF V3];have Q:rd (k::t) 0=O k:=bq (l:=k::t) (i:=0) V2;rw[Q];simp only[zG];simp only[R7];by_cases c:7<k
  .rw[zE c,zE c]
  rw[zF c,zF c,ad (n:=k) V1,CT];simp only[zG];generalize bu k=q;obtain⟨u,v,A,C⟩:=q;simp only;have Z:(k::t).drop 1=t:=rfl;have f1:tj u<=1:=by cases u<;>decide
  have f2:tj v<=1:=by cases v<;>decide
  have f3:tj A<=1:=by cases A<;>decide
  have H: ∀(y:Int),(y=0∨y∈k::t)->0<=mm y/\mm y<=2147483647:=by
   intro y hy
   have:0<=y:=by
    grind
   unfold mm;omega
  have s0: ∀(n:Nat) (B:Zd),(k::t).drop n=B->n<=100->fT (k::t) (u,v,A,C) (0,(n:Int),0,0,0,0)=(match mC u B with
    |none=>O (.inr<|.inl (0,0,0,0))
    |some (x,_)=>O<|.inl (1,((n+tj u:Nat):Int),mm x,0,0,0)):=by
   intro n B E F;have e:fT (k::t) (u,v,A,C) (0,(n:Int),0,0,0,0)=cond (!u) (O<|.inl (1,(n:Int),0,0,0,0)) (cond (Zc<|((k::t).length:Int)<=(n:Int)) (O<|.inr<|.inl (0,0,0,0))<|(rd (k::t) (n:Int)).bind λx=>cond (Zc<|2147483647<x) (O<|.inl (1,zH zI<|(n:Int)+1,2147483647,0,0,0))<|O<|.inl (1,zH zI<|(n:Int)+1,x,0,0,0)):=rfl;rw[e];refine aD (HK (γ:=(Int×Int×Int×Int×Int×Int)⊕((Int×Int×Int×Int)⊕(Int×Int×Int×Int×Int))) J E F (q:=u) (ok:=λx m=>cond (Zc<|2147483647<x) (O<|.inl (1,m,2147483647,0,0,0))<|O<|.inl (1,m,x,0,0,0)) (bad:=O<|.inr<|.inl (0,0,0,0)) (skip:=O<|.inl (1,(n:Int),0,0,0,0)) (by cases u;exact .inl rfl;exact .inr rfl)) ?_;cases z:mC u B with
   |none=>rfl
   |some p=>
    obtain⟨x,V⟩:=p;simp only;rw[TE x<|λy=>O<|Sum.inl (1,((n+tj u:Nat):Int),y,0,0,0)];cases u with
    |true=>rfl
    |false=>
     injection z with z
     injection z with z _
     rw[<-z];rfl
  have s1: ∀(n:Nat) (B:Zd) (g:Int),(k::t).drop n=B->n<=100->fT (k::t) (u,v,A,C) (1,(n:Int),g,0,0,0)=(match mC v B with
    |none=>O (.inr<|.inl (g,0,0,0))
    |some (x,_)=>O<|.inl (2,((n+tj v:Nat):Int),g,mm x,0,0)):=by
   intro n B g E F;have e:fT (k::t) (u,v,A,C) (1,(n:Int),g,0,0,0)=cond (!v) (O<|.inl (2,(n:Int),g,0,0,0)) (cond (Zc<|((k::t).length:Int)<=(n:Int)) (O<|.inr<|.inl (g,0,0,0))<|(rd (k::t) (n:Int)).bind λx=>cond (Zc<|2147483647<x) (O<|.inl (2,zH zI<|(n:Int)+1,g,2147483647,0,0))<|O<|.inl (2,zH zI<|(n:Int)+1,g,x,0,0)):=rfl;rw[e];refine aD (HK (γ:=(Int×Int×Int×Int×Int×Int)⊕((Int×Int×Int×Int)⊕(Int×Int×Int×Int×Int))) J E F (q:=v) (ok:=λx m=>cond (Zc<|2147483647<x) (O<|.inl (2,m,g,2147483647,0,0))<|O<|.inl (2,m,g,x,0,0)) (bad:=O<|.inr<|.inl (g,0,0,0)) (skip:=O<|.inl (2,(n:Int),g,0,0,0)) (by cases v;exact .inl rfl;exact .inr rfl)) ?_;cases z:mC v B with
   |none=>rfl
   |some p=>
    obtain⟨x,V⟩:=p;simp only;rw[TE x<|λy=>O<|Sum.inl (2,((n+tj v:Nat):Int),g,y,0,0)];cases v with
    |true=>rfl
    |false=>
     injection z with z
     injection z with z _
     rw[<-z];rfl
  have s2: ∀(n:Nat) (B:Zd) (g j:Int),(k::t).drop n=B->n<=100->fT (k::t) (u,v,A,C) (2,(n:Int),g,j,0,0)=(match mC A B with
    |none=>O (.inr<|.inl (g,j,0,0))
    |some (x,_)=>O<|.inl (3,((n+tj A:Nat):Int),g,j,mm x,0)):=by
   intro n B g j E F;have e:fT (k::t) (u,v,A,C) (2,(n:Int),g,j,0,0)=cond (!A) (O<|.inl (3,(n:Int),g,j,0,0)) (cond (Zc<|((k::t).length:Int)<=(n:Int)) (O<|.inr<|.inl (g,j,0,0))<|(rd (k::t) (n:Int)).bind λx=>cond (Zc<|2147483647<x) (O<|.inl (3,zH zI<|(n:Int)+1,g,j,2147483647,0))<|O<|.inl (3,zH zI<|(n:Int)+1,g,j,x,0)):=rfl;rw[e];refine aD (HK (γ:=(Int×Int×Int×Int×Int×Int)⊕((Int×Int×Int×Int)⊕(Int×Int×Int×Int×Int))) J E F (q:=A) (ok:=λx m=>cond (Zc<|2147483647<x) (O<|.inl (3,m,g,j,2147483647,0))<|O<|.inl (3,m,g,j,x,0)) (bad:=O<|.inr<|.inl (g,j,0,0)) (skip:=O<|.inl (3,(n:Int),g,j,0,0)) (by cases A;exact .inl rfl;exact .inr rfl)) ?_;cases z:mC A B with
   |none=>rfl
   |some p=>
    obtain⟨x,V⟩:=p;simp only;rw[TE x<|λy=>O<|Sum.inl (3,((n+tj A:Nat):Int),g,j,y,0)];cases A with
    |true=>rfl
    |false=>
     injection z with z
     injection z with z _
     rw[<-z];rfl
  have s3: ∀(n:Nat) (B:Zd) (g j D:Int),(k::t).drop n=B->n<=100->fT (k::t) (u,v,A,C) (3,(n:Int),g,j,D,0)=(match mC C B with
    |none=>O (.inr<|.inl (g,j,D,0))
    |some (x,_)=>O<|.inl (4,((n+tj C:Nat):Int),g,j,D,x)):=by
   intro n B g j D E F;have e:fT (k::t) (u,v,A,C) (3,(n:Int),g,j,D,0)=cond (!C) (O<|.inl (4,(n:Int),g,j,D,0)) (cond (Zc<|((k::t).length:Int)<=(n:Int)) (O<|.inr<|.inl (g,j,D,0))<|(rd (k::t) (n:Int)).bind λx=>O<|.inl (4,zH zI<|(n:Int)+1,g,j,D,x)):=rfl;rw[e];refine aD (HK (γ:=(Int×Int×Int×Int×Int×Int)⊕((Int×Int×Int×Int)⊕(Int×Int×Int×Int×Int))) J E F (q:=C) (ok:=λx m=>O<|.inl (4,m,g,j,D,x)) (bad:=O<|.inr<|.inl (g,j,D,0)) (skip:=O<|.inl (4,(n:Int),g,j,D,0)) (by cases C;exact .inl rfl;exact .inr rfl)) ?_;cases z:mC C B with
   |none=>rfl
   |some p=>
    obtain⟨x,V⟩:=p;simp only;cases C with
    |true=>rfl
    |false=>
     injection z with z
     injection z with z _
     rw[<-z];rfl
  have s4: ∀(n g j D v3:Int),fT (k::t) (u,v,A,C) (4,n,g,j,D,v3)=O (.inr<|.inr (n,g,j,D,v3)):=λ_ _ _ _ _=>rfl
  obtain⟨N,hB⟩: ∃N,cj=N+1+1+1+1+1:=⟨18446744073709551611,rfl⟩
  rw[hB,bh];have M:=s0 1 t Z V1;have M:fT (k::t) (u,v,A,C) (0,1,0,0,0,0)=_:=M;rw[M];cases h1:mC u t with
  |none=>simp only[zG,be]
  |some p1=>
   obtain⟨I,t1⟩:=p1;obtain⟨d2,m1,_⟩:=kV Z h1;have q1:=H I m1;simp only[zG,be];rw[bh,s1 (1+tj u) t1 (mm I) d2 V1];cases h2:mC v t1 with
   |none=>simp only[zG,be]
   |some p2=>
    obtain⟨K,t2⟩:=p2;obtain⟨d3,m2,_⟩:=kV d2 h2;have q2:=H K m2;simp only[zG,be];rw[bh,s2 (1+tj u+tj v) t2 (mm I) (mm K) d3 V1];cases h3:mC A t2 with
    |none=>simp only[zG,be]
    |some p3=>
     obtain⟨W,t3⟩:=p3;obtain⟨d4,m3,_⟩:=kV d3 h3;have q3:=H W m3;simp only[zG,be];rw[bh,s3 (1+tj u+tj v+tj A) t3 (mm I) (mm K) (mm W) d4 V1];cases h4:mC C t3 with
     |none=>simp only[zG,be]
     |some p4=>
      obtain⟨x4,t4⟩:=p4;simp only[zG,be];rw[bh,s4];simp only[zG,be];rw[ad (n:=mm I) V1,ad (n:=mm K) V1,ad (n:=mm W) V1]
theorem at6 (Z:jB w)(C:w≠[])(e:(R7 w).2.2.2.2.2.2=0): ∃n:Nat,(R7 w).2.2.2.2.2.1=(n:Int)/\1<=n/\n<=ft w/\0<=(R7 w).2.2.2.2.1/\(R7 w).2.2.2.2.1<=18446744073709551615:=by
 cases w with
 |nil=>exact(C rfl).elim
 |cons k t=>
  simp only[R7]at e⊢;have v:(k::t).drop 1=t:=rfl;by_cases c:7<k
  .rw[zE c]at e;cases e
  rw[zF c]at e⊢;cases g:mC (bu k).1 t with
  |none=>rw[g]at e;cases e
  |some I=>
   have⟨x1,N⟩:=I;have⟨z,_,D⟩:=kV v g;simp only[g]at e⊢;cases j:mC (bu k).2.1 N with
   |none=>rw[j]at e;cases e
   |some J=>
    have⟨x2,Q⟩:=J;have⟨A,_,E⟩:=kV z j;simp only[j]at e⊢;cases p:mC (bu k).2.2.1 Q with
    |none=>rw[p]at e;cases e
    |some K=>
     have⟨x3,V⟩:=K;have⟨B,_,F⟩:=kV A p;simp only[p]at e⊢;cases u:mC (bu k).2.2.2 V with
     |none=>rw[u]at e;cases e
     |some M=>
      have⟨x4,t4⟩:=M;have⟨W,m4,H⟩:=kV B u;simp only[u];refine⟨_,rfl,V1,H<|F<|E<|D V2, ?_⟩
      grind
def U :Nat->Zd->List bx->Option (List bx)
 |0,_,_=>Y
 |f+1,w,e=>if ft w=0 then O e else if(R7 w).2.2.2.2.2.2≠0 then Y else U f (w.drop<|fu (R7 w).2.2.2.2.2.1)<|e++[((R7 w).1,(R7 w).2.1,(R7 w).2.2.1,(R7 w).2.2.2.1,(R7 w).2.2.2.2.1)]
def Us (w:Zd):Option<|List bx:=U (ft w+1) w []
def iZ (w:Zd):Int×List bx:=match Us w with
 |some l=>(0,l)
 |none=>(6,[])
def jB.drop (h:jB w)(n:Nat):jB<|w.drop n:=λx hx=>h x<|cN hx
theorem bh6 : ∀(f:Nat) (w:Zd) (g l:List bx),jB w->U f w g=O l->(∀o∈g,0<=o.2.2.2.2/\o.2.2.2.2<=18446744073709551615)->ft l<=ft g+ft w/\∀o∈l,0<=o.2.2.2.2/\o.2.2.2.2<=18446744073709551615
 |0,w,g,l,_,h,_=>by cases h
 |f+1,w,g,l,j,h,u=>by
  simp only[U]at h;split at h
  .injection h with h
   subst h;exact⟨V1,u⟩
  .rename_i v;split at h
   .cases h
   .rename_i E;have⟨n,p,B,C,D⟩:=at6 j (λe=>v (by rw[e];rfl)) V1;rw[p]at h
    have⟨z,A⟩:=bh6 f _ _ l (j.drop _) h (λo F=>by
     grind)
    grind
def Hb (p:jB w)(u:ft w<=4000):OpsOk (iZ w).2:=by
 unfold iZ Us;cases h:U (ft w+1) w []with
 |none=>exact⟨V2,λo e=>by simp at e⟩
 |some l=>
  have⟨g,j⟩:=bh6 _ _ _ _ p h (λo e=>by simp at e);exact⟨by simp at g⊢;omega,j⟩
def Nu (j:jB w):ft (iZ w).2<=ft w:=by
 unfold iZ Us;cases h:U (ft w+1) w []with
 |none=>simp
 |some l=>
  have⟨e,p⟩:=bh6 _ _ _ _ j h (λo g=>by simp at g);simpa using e
theorem yd {n:Nat}:pV w (n:Int) (ft w:Int)=w.drop n:=by
 unfold pV
 simp_all
theorem Ir {a0:Zd}(B:jB a0)(I:ft a0<=100000):sD a0=O (iZ a0):=by
 unfold sD iZ
 have⟨c,F,h⟩:=nq (f:=sY) (a:=(a0,Za,([]:List bx))) (λs=> ∃w g f,s=(w,Za,g)/\ft w<f/\U f w g=Us a0/\jB w/\ft g+ft w<=ft a0) (λs=>ft s.1)
  (λc=>(c.1=Zb/\Us a0=Y)∨(c.1=Za/\Us a0=O c.2)) ⟨a0,[],ft a0+1,rfl,V1,rfl,B,V2⟩ V3 (by
  rintro _ ⟨w,g,f,rfl,H,j,u,z⟩;cases f with
  |zero=>omega
  |succ f=>
  simp only[U]at j;simp only[sY,ah];by_cases v:ft w=0
  .simp_all
  rw[zF v]at j;rw[Zg,Wc u V1,zG];by_cases p:(R7 w).2.2.2.2.2.2≠0
  .rw[zE p]at j
   simp_all
  rw[zF p]at j;rw[zF p];have⟨n,A,C,D,E⟩:=at6 u (λe=>v (by rw[e];rfl)) V1;rw[A]at j⊢;have j:U f (w.drop n) _=_:=j;rw[au V1 V1,Zl,bp,yd]
  refine .inl ⟨_,rfl,⟨_,_,f,rfl,by rw[aB];omega,j,u.drop n,by rw[cL,aB];simp;omega⟩,by simp;omega⟩)
 grind
theorem Kk {a0:Zd}(H:jB a0)(J:ft a0<=100000):qi a0=O (iZ a0):=by
 unfold qi iZ
 have⟨c,E,h⟩:=nq (f:=uB a0) (a:=((0:Int),([]:List bx))) (λs=> ∃(i:Nat) (g:List bx) (f:Nat),s=((i:Int),g)/\i<=ft a0/\ft (a0.drop i)<f/\U f (a0.drop i) g=Us a0/\ft g<=i) (λs=>ft a0-fu s.1)
  (λc=>(c= .inl ()/\Us a0=Y)∨∃l,c= .inr l/\Us a0=O l) ⟨0,[],ft a0+1,rfl,V1,V2,rfl,V2⟩ V3 (by
  rintro _ ⟨i,g,f,rfl,hi,F,j,A⟩;cases f with
  |zero=>omega
  |succ f=>
  simp only[U]at j;simp only[uB,ah];have B:=H.drop i;by_cases u:ft (a0.drop i)=0
  .grind
  rw[zF u]at j;have v:=u;rw[aB]at v F;rw[Zg,Zl,bp,yd,Yw B Z4,zG];by_cases z:(R7<|a0.drop i).2.2.2.2.2.2≠0
  .rw[zE z]at j
   grind
  rw[zF z]at j;rw[zF z];have⟨n,C,p,D,I⟩:=at6 B (λe=>u (by rw[e];rfl)) V1;rw[aB]at D;rw[C]at j⊢;have j:U f ((a0.drop i).drop n) _=_:=j;rw[List.drop_drop]at j;rw[au V1 V1,ad (n:=(i:Int)+(n:Int)) V1]
  refine .inl ⟨_,rfl,⟨i+n,_,f,by rw[show((i+n:Nat):Int)=(i:Int)+(n:Int)by omega],V1,by rw[aB];omega,j,by rw[cL];simp;omega⟩,by simp;omega⟩)
 rw[E,zG];rcases h with⟨rfl,p⟩|⟨l,rfl,p⟩
 .rw[p];rfl
 rw[p];rfl
def S :Nat->Zd->List Zd->Option (List (Zd)×Zd)
 |0,w,e=>O (e,w)
 |r+1,[],e=>Y
 |r+1,x::t,e=>if(ft t:Int)<x then Y else S r (t.drop<|fu x)<|e++[t.take<|fu x]
def aq7 (w:Zd):Option<|List (Zd)×Zd:=S 4 w []
def PV {K:Nat}(D:K<=100): ∀(r N:Nat) (w:Zd) (out:List Zd),ft out+r=K->jB w->ft w<=100000->
  (∃p,S r w out=O p/\am (kw (K:Int)) (N+r+1) (w,out)=O (0,p.2,p.1))∨(S r w out=Y/\∃w' H,am (kw (K:Int)) (N+r+1) (w,out)=O (4,w',H))
 |0,N,w,out,A,g,u=>by
  left;refine⟨_,rfl, ?_⟩;rw[bh];unfold kw;simp only;rw[ah,Zh];rfl
 |r+1,N,[],out,A,g,u=>by
  right;refine⟨rfl,[],out, ?_⟩;rw[bh];unfold kw;simp only;rw[ah,Zg,ah,zE V2];rfl
 |r+1,N,x::t,out,A,g,u=>by
  have hx:=g x V2;have v:rd (x::t) 0=O x:=bq (l:=x::t) (i:=0) V2;simp only[S];simp only[List.length_cons]at u
  have z:zH zJ (zH zI<|((ft t+1:Nat):Int)-1)=(ft t:Int):=by
   rw[show((ft t+1:Nat):Int)-1=(ft t:Int)by omega,ad (n:=(ft t:Int)) V1,wY V1]
  have e:kw (K:Int) (x::t,out)=cond (Zc<|(ft out:Int)<(K:Int)) (cond (Zc<|((ft t+1:Nat):Int)=0) (O<|.inr (4,x::t,out)) (gn (rd (x::t) 0) λJ=>cond (Zc<|zH zJ (zH zI<|((ft t+1:Nat):Int)-1)<J) (O<|.inr (4,x::t,out)) (gn (rd (x::t) 0) λj=>
    gd (eU 1 (zH zI<|zH zI j+1)<|ft t+1) (gn (aj<|pV (x::t) 1<|zH zI<|zH zI j+1) λI=>
    gd (dh (ft out+1) 24) (gd (eU (zH zI<|zH zI j+1) ((ft t+1:Nat):Int)<|ft t+1)<|O<|.inl (pV (x::t) (zH zI<|zH zI j+1) ((ft t+1:Nat):Int),out++[I])))))) (O<|.inr (0,x::t,out)):=rfl
  rw[v,zB (show(ft out:Int)<(K:Int)by omega),zC,zA (show¬((ft t+1:Nat):Int)=0 by omega),zD]at e;simp only[zG]at e;by_cases c:(ft t:Int)<x
  .right;rw[zE c];refine⟨rfl,x::t,out, ?_⟩;rw[zB (show zH zJ (zH zI<|((ft t+1:Nat):Int)-1)<x by rw[z];exact c),zC]at e;rw[bh,e];rfl
  .rw[zF c];have F:=PV D r N (t.drop<|fu x) (out++[t.take<|fu x]) V3 (λy E=>g y (by simp[cN E])) Z4
   have B:pV (x::t) 1 (x+1)=t.take (fu x):=by
    unfold pV;rw[show(fu<|x+1)=fu x+1 by omega,show(fu (1:Int))=1 from rfl];rfl
   have C:pV (x::t) (x+1) ((ft t+1:Nat):Int)=t.drop (fu x):=by
    unfold pV;rw[show(fu ((ft t+1:Nat):Int))=(ft<|x::t) by simp,cO,show(fu<|x+1)=fu x+1 by omega];rfl
   rw[zA (show¬IntKind.u64.wrap (zH zI<|((ft t+1:Nat):Int)-1)<x by rw[z];exact c),zD,ad (n:=x) V1,ad (n:=x+1) V1,Zl,bp,B]at e;unfold aj at e;rw[au (by rw[cM];omega) V1]at e;simp only[zG]at e;rw[au V1 V1,Zl,bp,C]at e;rw[show N+(r+1)+1=(N+r+1)+1 by omega,bh,e];simp only[zG,be];exact F
theorem KG {K:Nat}(v:K<=100)(A:jB w)(z:w.length<=100000):pe w (K:Int)=O (match S K w []with
  |some (l,rest)=>(0,l,rest)
  |none=>(4,[],[])):=by
 unfold pe;rw[ah,Zh];obtain⟨N,u⟩: ∃N,cj=N+K+1:=⟨18446744073709551615-K,by unfold cj;omega⟩
 rcases PV v K N w [] V2 A z with⟨p,g,j⟩|⟨g,E,D,j⟩
 .rw[u,j,g];simp only[zG];rw[zA V2,zD];unfold aj
  have B:p.2.length<=w.length:=by
   have: ∀(r:Nat) (w:Zd) (e:List Zd) (q:List (Zd)×Zd),S r w e=O q->q.2.length<=w.length:=by
    intro r;induction r with
    |zero=>intro w e q h;injection h with h;subst h;exact Nat.le_refl _
    |succ r C=>
     intro w e q h;cases w with
     |nil=>cases h
     |cons x t=>
      simp only[S]at h
      grind
   exact this _ _ _ _ g
  rw[au V1 V1];rfl
 .rw[u,j,g];rfl
def Xj (g:jB w)(e:ft w<=100000):pe w 4=O (match aq7 w with
  |some (l,rest)=>(0,l,rest)
  |none=>(4,[],[])):=KG (K:=4) V1 g e
theorem Yu {a0:Zd}(C:jB a0)(H:a0.length<=100000){n:Nat}(h:a0.drop n=x::t)(hx:x<=(t.length:Int)):uj a0 (n:Int) 0 (a0.length:Int)=O (a0,((n+1+x.toNat:Nat):Int),0,t.take x.toNat):=by
 obtain⟨E,p,u,v⟩:=Dm h;have D:=(C x v).1;have B:t.length=a0.length-(n+1):=by rw[<-u,aB]
 unfold uj FY DI;rw[zA (show¬(0:Int)≠0 by simp),zD,zA (show¬(a0.length:Int)<=(n:Int)by omega),zD,ad (n:=(n:Int)+1) V1,ad (n:=(n:Int)+1-1) V1,show(n:Int)+1-1=(n:Int)by omega,p];simp only[zG];rw[zA (show¬(0:Int)≠0 by simp),zD,zA (show¬(a0.length:Int)<0 by omega),zD,wY V1,zA (show¬(a0.length:Int)<x by omega),zD];simp only[zG];rw[zA (show¬(0:Int)≠0 by simp),zD,ad (n:=(a0.length:Int)-((n:Int)+1)) V1,ad (n:=x) V1,zA (show¬(a0.length:Int)-((n:Int)+1)<x by omega),zD];have A:(t.take x.toNat).length=x.toNat:=by rw[cM];omega
 have g:am (sE a0 (x,a0,(n:Int)+1,0)) cj (0,[])=O ([]++t.take x.toNat):=by
  refine ay0 (l:=t.take x.toNat) [] V1 (λj F=> ?_) ?_
  .unfold sE;simp only;have z:j<t.length:=by omega
   have e:rd a0 ((n:Int)+1+(j:Int))=O t[j]:=by
    rw[show(n:Int)+1+(j:Int)=((n+1+j:Nat):Int)by omega,bq (show n+1+j<a0.length by omega)]
    grind
   rw[ah,Zg,ad (n:=(n:Int)+1+(j:Int)) V1,e];simp only[zG];rw[au V3 V1,ad (n:=(j:Int)+1) V1,List.getElem_take];rfl
  unfold sE
  grind
 rw[g];simp only[zG,List.nil_append];rw[ad (n:=(n:Int)+1+x) V1,show((n+1+x.toNat:Nat):Int)=(n:Int)+1+x by omega]
def WD {K:Nat}(H:K<=100){a0:Zd}(v:jB a0)(B:ft a0<=100000): ∀(r N n:Nat) (w:Zd) (out:List Zd),ft out+r=K->a0.drop n=w->n<=ft a0->
  (∃p,∃m:Nat,S r w out=O p/\am (ip a0 (K:Int)) (N+r+1) (a0,(n:Int),0,out)=O (.inr (a0,(m:Int),0,p.1))/\p.2=a0.drop m/\m<=ft a0)∨(S r w out=Y/\∃c,am (ip a0 (K:Int)) (N+r+1) (a0,(n:Int),0,out)=O (.inl c))
 |0,N,n,w,out,C,g,u=>by
  left;refine⟨_,n,rfl, ?_,g.symm,u⟩;rw[bh];unfold ip;simp only;rw[ah,Zh];rfl
 |r+1,N,n,[],out,C,g,u=>by
  right;have:=OK g;refine⟨rfl,(a0,(n:Int),0), ?_⟩;rw[bh];unfold ip;simp only;rw[ah,Zg,ah,Zg];rfl
 |r+1,N,n,x::t,out,C,g,u=>by
  have⟨V,E,z,F⟩:=Dm g;have hx:=v x F;have J:ft t=ft a0-(n+1):=by rw[<-z,aB]
  have A:zH zJ (zH zI<|zH zI ((ft a0:Int)-(n:Int))-1)=(ft t:Int):=by
   have D:(ft a0:Int)-(n:Int)-1=(ft t:Int):=by omega
   rw[ad (n:=(ft a0:Int)-(n:Int)) V1,ad (n:=(ft a0:Int)-(n:Int)-1) V1,D,wY V1]
  have e:ip a0 (K:Int) (a0,(n:Int),0,out)=cond (Zc<|(ft out:Int)<(K:Int)) (cond (Zc<|(ft a0:Int)<=(n:Int)) (O<|.inr<|.inl (a0,(n:Int),0)) (gn (rd a0 (n:Int)) λQ=>cond (Zc<|zH zJ (zH zI<|zH zI ((ft a0:Int)-(n:Int))-1)<Q) (O<|.inr<|.inl (a0,(n:Int),0))
    (gn (uj a0 (n:Int) 0 (ft a0:Int)) λj=>gd (dh (ft out+1) 24)<|O<|.inl (j.1,j.2.1,j.2.2.1,out++[j.2.2.2])))) (O<|.inr<|.inr (a0,(n:Int),0,out)):=rfl
  rw[zB (show(ft out:Int)<(K:Int)by omega),zC,zA (show¬(ft a0:Int)<=(n:Int)by omega),zD,E]at e;simp only[zG]at e;simp only[S];by_cases c:(ft t:Int)<x
  .right;rw[zE c];rw[zB (show zH zJ (zH zI<|zH zI ((ft a0:Int)-(n:Int))-1)<x by rw[A];exact c),zC]at e;refine⟨rfl,(a0,(n:Int),0), ?_⟩;rw[bh,e];rfl
  .rw[zF c];have I:a0.drop (n+1+fu x)=t.drop (fu x):=by rw[<-z,List.drop_drop]
   have M:=WD H v B r N (n+1+fu x) (t.drop<|fu x) (out++[t.take<|fu x]) V3 I V1;rw[zA (show¬IntKind.u64.wrap (zH zI<|zH zI ((ft a0:Int)-(n:Int))-1)<x by rw[A];exact c),zD,Yu v B g V1]at e;simp only[zG]at e;rw[au V1 V1]at e;rw[show N+(r+1)+1=(N+r+1)+1 by omega,bh,e];simp only[zG,be];exact M
def Kj {K:Nat}(v:K<=100)(A:jB w)(z:ft w<=100000):pc w (K:Int)=O (match S K w []with
  |some (l,rest)=>(rest,0,l)
  |none=>([],4,[])):=by
 unfold pc;rw[ah,Zh];obtain⟨N,j⟩: ∃N,cj=N+K+1:=⟨18446744073709551615-K,by unfold cj;omega⟩
 rcases WD v A z K N 0 w [] V2 rfl (Nat.zero_le _)with⟨p,m,g,e,u,B⟩|⟨g,c,e⟩
 .have e:am (ip w (K:Int)) (N+K+1) (w,0,0,[])=_:=e;rw[j,e,g];simp only[zG,be];rw[Zl,bp,yd,u]
 .have e:am (ip w (K:Int)) (N+K+1) (w,0,0,[])=_:=e;rw[j,e,g];rfl
def Wp (g:jB w)(e:ft w<=100000):pc w 4=O (match aq7 w with
  |some (l,rest)=>(rest,0,l)
  |none=>([],4,[])):=Kj (K:=4) V1 g e
theorem LL (B:jB w){l:List<|Zd}(h:aq7 w=O (l,rest)): ∃j p u v,l=[j,p,u,v]/\(jB j/\ft j<=ft w)/\(jB p/\ft p<=ft w)/\(jB u/\ft u<=ft w)/\(jB v/\ft v<=ft w)/\ft rest<=ft w:=by
 have e: ∀(r:Nat) (w:Zd) (g:List Zd) (q:List (Zd)×Zd),jB w->S (r+1) w g=O q->∃y A,S r A (g++[y])=O q/\(jB y/\ft y<=ft w)/\jB A/\ft A<=ft w:=by
  intro r w g q B h;cases w with
  |nil=>cases h
  |cons x t=>
   simp only[S]at h
   grind
 have⟨j,W,C,I,N,l1⟩:=e 3 w [] _ B h;have⟨p,Z,D,J,Q,l2⟩:=e 2 W _ _ N C;have⟨u,w3,E,K,V,l3⟩:=e 1 Z _ _ Q D;have⟨v,w4,z,M,u4,l4⟩:=e 0 w3 _ _ V E;injection z with z
 injection z with F H
 exact⟨j,p,u,v,F.symm,I,⟨J.1,V1⟩,⟨K.1,V1⟩,⟨M.1,V1⟩,by rw[<-H];omega⟩
def xx (h:0<=x/\x<=18446744073709551615):lF x=O (mm x):=by
 unfold lF mm;rw[Zi]
def Ak (h:0<=x/\x<=18446744073709551615):kJ x=O (mm x):=by
 unfold kJ mm;rw[ah];split
 .congr 1;omega
 rw[Zi];congr 1;omega
def aF8 (R:Int)(e:Zd)(Q:Int)(g:Zd):Int×List (Int×List bx):=
 if(iZ e).1≠0∨bt (iZ e).2 0≠O 0∨(iZ g).1≠0∨bt (iZ g).2 0≠O 0 then(6,[])else(0,[(mm R,(iZ e).2),(mm Q,(iZ g).2)])
theorem MY {e g:Zd}{R Q:Int}(C:jB e)(D:jB g)(l0:ft e<=4000)(l1:ft g<=4000)(J:0<=R/\R<=18446744073709551615)(I:0<=Q/\Q<=18446744073709551615):
  pM [R,Q] [e,g]=O (aF8 R e Q g):=by
 have Z:=(Hb C l0).len;have o1:=(Hb D l1).len;have⟨m0,E⟩:=Bq (l:=(iZ e).2) V1;have⟨W,F⟩:=Bq (l:=(iZ g).2) V1;unfold pM;obtain⟨N,H⟩: ∃N,cj=N+1+1+1:=⟨18446744073709551613,rfl⟩
 have K:ik [R,Q] [e,g] (0,[])=O (if(iZ e).1≠0 then .inr (.inl ())else if bt (iZ e).2 0≠O 0 then .inr (.inl ())else .inl (1,[(mm R,(iZ e).2)])):=by
  have A:rd [e,g] 0=O e:=rfl;have B:rd [R,Q] 0=O R:=rfl;unfold ik;simp only[ah];rw[zE V2,A,zG,Ir C V1,zG,E,zG,B,zG,xx J];by_cases j:(iZ e).1≠0
  .rw[zE j,zE j]
  rw[zF j,zF j];by_cases u:bt (iZ e).2 0=O 0
  .rw[zE u,zF V2,zF (by simp[u])];rfl
  grind
 have M: ∀p,ik [R,Q] [e,g] (1,[p])=O (if(iZ g).1≠0 then .inr (.inl ())else if bt (iZ g).2 0≠O 0 then .inr (.inl ())else .inl (2,[p,(mm Q,(iZ g).2)])):=by
  intro p;have A:rd [e,g] 1=O g:=rfl;have B:rd [R,Q] 1=O Q:=rfl;unfold ik;simp only[ah];rw[zE V2,A,zG,Ir D V1,zG,F,zG,B,zG,xx I];by_cases j:(iZ g).1≠0
  .rw[zE j,zE j]
  rw[zF j,zF j];by_cases u:bt (iZ g).2 0=O 0
  .rw[zE u,zF V2,zF (by simp[u])];rfl
  grind
 have V: ∀p q,ik [R,Q] [e,g] (2,[p,q])=O (.inr<|.inr [p,q]):=λp q=>rfl
 unfold aF8;rw[H,bh,K];by_cases j:(iZ e).1≠0
 .rw[zE j,zE<|.inl j];rfl
 rw[zF j];by_cases u:bt (iZ e).2 0≠O 0
 .rw[zE u,zE<|.inr<|.inl u];rfl
 rw[zF u];simp only[zG,be];rw[bh,M];by_cases v:(iZ g).1≠0
 .rw[zE v,zE<|.inr<|.inr<|.inl v];rfl
 rw[zF v];by_cases z:bt (iZ g).2 0≠O 0
 .rw[zE z,zE<|.inr<|.inr<|.inr z];rfl
 rw[zF z,zF (by rintro(h|h|h|h)<;>contradiction)];simp only[zG,be];rw[bh,V];rfl
structure Hd where
 m:Int
 x:Zd
 t:Zd
 R:Int
 l:List bx
 Q:Int
 k:List bx
 n:Int
 b:Int
def Hd.chk (h:Hd):Int:=su h.m (ft h.x) (ft h.t) h.R h.l h.Q h.k h.n h.b
def an1 (w e g j p:Zd):Hd:=⟨w.getD 0 0,j,p,mm<|w.getD 1 0,(iZ e).2,mm<|w.getD 2 0,(iZ g).2,if w.getD 0 0=2 then 0 else mm<|w.getD 3 0,mm<|w.getD 4 0⟩
def FL (w:Zd):Int⊕(Hd×Zd):=if ft w<5 then .inl 4 else match aq7 (w.drop 5)with
 |some ([e,g,j,p],rest)=>if w.getD 0 0<1∨3<w.getD 0 0 then .inl 5 else if(iZ e).1≠0∨(iZ g).1≠0 then .inl 6 else
  if(an1 w e g j p).chk≠0 then .inl (an1 w e g j p).chk else .inr (an1 w e g j p,rest)
 |_=> .inl 4
def bH1 :Int⊕(Hd×Zd)->Int×Int×(List bx)×Int×(List bx)×Int×Int×Int×Zd×Zd×Zd
 | .inl e=>(0,0,[],0,[],0,0,e,[],[],[])
 | .inr (h,rest)=>(h.m,h.R,h.l,h.Q,h.k,h.n,h.b,0,h.x,h.t,rest)
def bH2 :Int⊕(Hd×Zd)->Int×Zd×Zd×Int×Int×Int×Int×Zd×Int×(List bx)×List bx
 | .inl e=>(0,[],[],0,0,0,0,[],e,[],[])
 | .inr (h,rest)=>(h.m,h.x,h.t,h.R,h.Q,h.n,h.b,rest,0,h.l,h.k)
theorem jB.getD (h:jB w)(i:Nat):0<=w.getD i 0/\w.getD i 0<=18446744073709551615:=by
 rw[List.getD_eq_getElem?_getD];by_cases hi:i<ft w
 .rw[List.getElem?_eq_getElem hi];exact h _ (cK hi)
 grind
theorem aO3 {m:Int}(g:1<=m/\m<=3)(x t:Nat)(R:Int)(l:List bx)(Q:Int)(k:List bx)(n b:Int)(h:bt l 0≠O 0∨bt k 0≠O 0):su m x t R l Q k n b=6:=by
 have e:hk0 m=0:=by
  unfold hk0;omega
 unfold su;rw[e,zF V2]
 have:mw R l Q k=6:=by
  unfold mw J5 JV
  grind
 rw[this,Zg]
def bj9 (h:5<=ft w):pV w 1 3=[w.getD 1 0,w.getD 2 0]:=by
 match w,h with
 |a::b::c::d::e::r,_=>rfl
def QO (j:jB w)(hl:w.length<=4000):sC w=O (bH1<|FL w):=by
 unfold sC FL;simp only[ah];by_cases E:w.length<5
 .rw[Zg,zE E];rfl
 rw[Zh,zF E,Zl,bp,show(5:Int)=((5:Nat):Int)from rfl,yd,Xj (j.drop 5) Z4];cases h:aq7 (w.drop 5)with
 |none=>rfl
 |some p=>
  obtain⟨l,rest⟩:=p;obtain⟨e,g,u,v,rfl,⟨H,l0⟩,⟨I,l1⟩,⟨u2,l2⟩,⟨u3,l3⟩,lr⟩:=LL (j.drop 5) h;rw[aB]at l0 l1 l2 l3 lr;simp only[zG];rw[zF V2];have r0:rd w 0=O (w.getD 0 0):=rh (l:=w) (i:=0) V1;have r3:rd w 3=O (w.getD 3 0):=rh (l:=w) (i:=3) V1;have r4:rd w 4=O (w.getD 4 0):=rh (l:=w) (i:=4) V1;have g0:=j.getD 0;have J:=j.getD 1;have K:=j.getD 2;rw[r0];simp only[zG];by_cases C:w.getD 0 0<1
  .rw[zE C,zE<|.inl C];rfl
  rw[zF C];by_cases D:3<w.getD 0 0
  .rw[zE D,zE<|.inr D];rfl
  rw[zF D,Zh,Zl,bp,bj9 V1];have N:ix 0 [e,g,u,v].length=O 0:=rfl;have Q:ix 1 [e,g,u,v].length=O 1:=rfl;have V:ix 2 [e,g,u,v].length=O 2:=rfl;have W:ix 3 [e,g,u,v].length=O 3:=rfl;rw[N,Q,V,W];simp only[zG,cD,cB];rw[MY H I V1 V1 J K];simp only[zG];unfold aF8;have M:1<=w.getD 0 0/\w.getD 0 0<=3:=by omega
  by_cases z:(iZ e).1≠0∨bt (iZ e).2 0≠O 0∨(iZ g).1≠0∨bt (iZ g).2 0≠O 0
  .rw[zE z];by_cases B:(iZ e).1≠0∨(iZ g).1≠0
   .rw[zE B];rfl
   rw[zF B]
   have:(an1 w e g u v).chk=6:=aO3 M _ _ _ _ _ _ _ _ (by
    rcases z with c|c|c|c
    .exact(B<|.inl c).elim
    .exact .inl c
    .exact(B<|.inr c).elim
    exact .inr c)
   rw[this];rfl
  rw[zF z,zF (show¬((iZ e).1≠0∨(iZ g).1≠0)from λh=>h.elim (λh=>z<|.inl h)<|λh=>z<|.inr<|.inr<|.inl h)];simp only[zG];rw[zF V2];have Z:ix 0 [(mm<|w.getD 1 0,(iZ e).2),(mm<|w.getD 2 0,(iZ g).2)].length=O 0:=rfl;have j1:ix 1 [(mm<|w.getD 1 0,(iZ e).2),(mm<|w.getD 2 0,(iZ g).2)].length=O 1:=rfl;rw[Z,j1];simp only[zG,cD,cB];rw[r3,r4];unfold aj;simp only[zG];rw[au V1 V1,au V1 V1];simp only[zG];rw[xx<|j.getD 3,xx<|j.getD 4,ad (n:=w.getD 0 0) V1];simp only[zG];have A: ∀n,kG (w.getD 0 0) u v (mm<|w.getD 1 0) (iZ e).2 (mm<|w.getD 2 0) (iZ g).2 n (mm<|w.getD 4 0)=O (su (w.getD 0 0) u.length v.length (mm<|w.getD 1 0) (iZ e).2 (mm<|w.getD 2 0) (iZ g).2 n<|mm<|w.getD 4 0):=λn=>EF (Hb H V1) (Hb I V1)
  unfold Hd.chk an1;simp only;by_cases F:w.getD 0 0=2
  .simp only[zE F,zG,A];split<;>rfl
  simp only[zF F,zG,A];split<;>rfl
def TX (e:jB w)(hl:w.length<=1500):qh w=O (bH2<|FL w):=by
 unfold qh FL;simp only[ah];by_cases H:w.length<5
 .rw[Zg,zE H];rfl
 rw[Zh,zF H,Zl,bp,show(5:Int)=((5:Nat):Int)from rfl,yd,Wp (e.drop 5) Z4];cases h:aq7 (w.drop 5)with
 |none=>rfl
 |some p=>
  obtain⟨l,rest⟩:=p;obtain⟨g,j,u,v,rfl,⟨E,Q⟩,⟨F,V⟩,⟨u2,W⟩,⟨u3,Z⟩,lr⟩:=LL (e.drop 5) h;rw[aB]at Q V W Z lr;simp only[zG];rw[zF V2];have r0:rd w 0=O (w.getD 0 0):=rh (l:=w) (i:=0) V1;have r1:rd w 1=O (w.getD 1 0):=rh (l:=w) (i:=1) V1;have r2:rd w 2=O (w.getD 2 0):=rh (l:=w) (i:=2) V1;have r3:rd w 3=O (w.getD 3 0):=rh (l:=w) (i:=3) V1;have r4:rd w 4=O (w.getD 4 0):=rh (l:=w) (i:=4) V1;have g0:=e.getD 0;rw[r0];simp only[zG];by_cases A:w.getD 0 0<1
  .rw[zE A,zE<|.inl A];rfl
  rw[zF A];by_cases B:3<w.getD 0 0
  .rw[zE B,zE<|.inr B];rfl
  rw[zF B,Zh];have J:ix 0 [g,j,u,v].length=O 0:=rfl;have K:ix 1 [g,j,u,v].length=O 1:=rfl;have M:ix 2 [g,j,u,v].length=O 2:=rfl;have N:ix 3 [g,j,u,v].length=O 3:=rfl;rw[J,K,M,N];simp only[zG,cD,cB];rw[Kk E V1,Kk F V1];simp only[zG];by_cases C:(iZ g).1≠0
  .rw[zE C,zE<|.inl C];rfl
  rw[zF C];by_cases D:(iZ j).1≠0
  .rw[zE D,zE<|.inr D];rfl
  rw[zF D,zF (by rintro(h|h)<;>contradiction),r1,r2,r3,r4];simp only[zG];rw[Ak<|e.getD 1,Ak<|e.getD 2,Ak<|e.getD 3,Ak<|e.getD 4,ad (n:=w.getD 0 0) V1];simp only[zG];have z: ∀n,mh (w.getD 0 0) u v (mm<|w.getD 1 0) (iZ g).2 (mm<|w.getD 2 0) (iZ j).2 n (mm<|w.getD 4 0)=O (su (w.getD 0 0) u.length v.length (mm<|w.getD 1 0) (iZ g).2 (mm<|w.getD 2 0) (iZ j).2 n<|mm<|w.getD 4 0):=λn=>GV (Hb E V1) (Hb F V1) (bB (Nu E) V1) (bB (Nu F) V1)
  unfold Hd.chk an1;simp only;by_cases I:w.getD 0 0=2
  .simp only[zE I,zF (show¬w.getD 0 0≠2 by omega),zG,z];split<;>rfl
  simp only[zF I,zE (show w.getD 0 0≠2 by omega),zG,z];split<;>rfl
def Vj (A:jB w)(J:ft w<=1500){h:Hd}(e:FL w= .inr (h,rest)):OpsOk h.l/\OpsOk h.k/\ft h.l<=1500/\ft h.k<=1500/\jB h.x/\jB h.t:=by
 unfold FL at e;split at e
 .cases e
 split at e
 .rename_i K M N Q r z;have⟨V,W,Z,y3,g,⟨j,B⟩,⟨p,C⟩,⟨H,D⟩,⟨I,E⟩,F⟩:=LL (A.drop 5) z;injection g with a1 g;injection g with a2 g;injection g with a3 g;injection g with a4 _
  subst a1;subst a2;subst a3;subst a4;rw[aB]at B C D E F;split at e
  .cases e
  split at e
  .cases e
  split at e
  .cases e
  injection e with e
  injection e with u v
  subst u;subst v;exact⟨Hb j V1,Hb p V1,bB (Nu j) V1,bB (Nu p) V1,H,I⟩
 cases e
def To (j:jB w)(g:ft w<=1500){h:Hd}(e:FL w= .inr (h,rest)):OpsOk h.l/\OpsOk h.k/\ft h.l<=1500/\ft h.k<=1500:=by
 have⟨a,b,c,d,_⟩:=Vj j g e;exact⟨a,b,c,d⟩
end
section
open Go.IntKind renaming wrap->zH,i64->zI,u64->zJ
open Int renaming tdiv->aB,tmod->aD,eq_ofNat_of_zero_le->cB,toNat_natCast->cD
open IntKind renaming bits->bB
open List renaming length_drop->bD,getElem?_eq_getElem->cK
open Nat renaming mod_eq_of_lt->cL
def aw2 {a b:Nat}(g:a<18446744073709551616)(j:b<18446744073709551616):vx .u64 (· &&& ·) (a:Int) (b:Int)=((a&&& b:Nat):Int):=by
 unfold vx
 have e:(BitVec.ofInt (bB .u64) (a:Int)&&& BitVec.ofInt (bB .u64) (b:Int)).toNat=a&&& b:=by
  rw[BitVec.ofInt_natCast,BitVec.ofInt_natCast,BitVec.toNat_and,BitVec.toNat_ofNat,BitVec.toNat_ofNat];rw[show 2 ^ bB .u64=18446744073709551616 from rfl,cL g,cL j]
 show zH zJ _=_;rw[e,cn];have:a&&& b<=a:=Nat.and_le_left;omega
def aj3 (w:Zd)(i:Nat):Bool:=Zc<|fu (w.getD (i / 64) 0) / 2 ^ (i % 64) % 2=1
def ae7 (h:i<64*ft w):rd w ((i / 64:Nat):Int)=O (w.getD (i / 64) 0):=rh V1
theorem ag4 (e: ∀x∈w,0<=x/\x<=18446744073709551615)(j:Nat):0<=w.getD j 0/\w.getD j 0<=18446744073709551615:=by
 rcases Nat.lt_or_ge j (ft w) with h|h
 .rw[List.getD_eq_getElem?_getD,cK h];exact e _ (List.getElem_mem h)
 grind
theorem aj4 (A: ∀x∈w,0<=x/\x<=18446744073709551615)(h:i<64*ft w)(D:ft w<=2000){γ:Type}(G:Bool)(F:Int->Bool->Option γ):
  (gn (rd w<|zH zI<|aB (zH zI<|(i:Int)-1+1) 64) λB=>gd (Zc<|0<=aD (zH zI<|(i:Int)-1+1) 64) (gd G (F (zH zI<|(i:Int)-1+1) (Zc ((vx .u64 (· &&& ·) (Int.fdiv B<|2 ^ (min (Int.toNat<|aD (zH zI<|(i:Int)-1+1) 64)<|bB .u64)) 1)=1)))))=gd G (F (i:Int)<|aj3 w i):=by
 have e:zH zI ((i:Int)-1+1)=(i:Int):=by
  rw[show(i:Int)-1+1=(i:Int)by omega,Zi]
 have g:zH zI (aB (i:Int) 64)=((i / 64:Nat):Int):=by
  rw[show aB (i:Int) 64=((i / 64:Nat):Int)from rfl,Zi]
 have j:aD (i:Int) 64=((i % 64:Nat):Int):=rfl;rw[e,g,j,ae7 h,zG];have⟨z,C⟩:=ag4 A<|i / 64;unfold aj3;generalize w.getD (i / 64) 0=x at*;obtain⟨x,rfl⟩:=cB z;rw[zB (show(0:Int)<=((i % 64:Nat):Int)by omega),bp]
 have p:min (Int.toNat ((i % 64:Nat):Int)) (bB .u64)=i % 64:=by
  show min (i % 64) 64=i % 64;omega
 rw[p]
 have u:Int.fdiv (x:Int) (2 ^ (i % 64))=((x / 2 ^ (i % 64):Nat):Int):=by
  grind
 have v:x / 2 ^ (i % 64)<18446744073709551616:=Nat.lt_of_le_of_lt (Nat.div_le_self _ _) V1;rw[u,show(1:Int)=((1:Nat):Int)from rfl,aw2 v V5,Nat.and_one_is_mod,cD];have:Zc (((x / 2 ^ (i % 64) % 2:Nat):Int)=((1:Nat):Int))=Zc (x / 2 ^ (i % 64) % 2=1):=decide_eq_decide.2 V1;rw[this]
def vy (w:Zd)(n:Nat):List Bool:=(List.range n).map<|aj3 w
def Oj (w:Zd)(n:Nat):vy w (n+1)=vy w n++[aj3 w n]:=by
 unfold vy;rw[List.range_succ,List.map_append];rfl
def Dg (w:Zd)(n:Nat):ft (vy w n)=n:=by simp[vy]
theorem bj1 (j: ∀x∈w,0<=x/\x<=18446744073709551615){n:Nat}(h:n<=64*ft w)(g:ft w<=2000):am (mV (n:Int) w) cj (0,(-1),[])=O ((n:Int)-1,vy w n):=by
 have:=bz (f:=mV (n:Int) w) (n:=n) (F:=λi=>((i:Int)-1,vy w i)) (c:=((n:Int)-1,vy w n)) V1 (λi hi=> ?_) ?_
 .exact this
 .unfold mV;simp only;rw[zB (show(i:Int)<(n:Int)by omega),zC];refine(aj4 j (i:=i) V1 g (γ:=(Int×Int×List Bool)⊕(Int×List Bool)) (dh (ft (vy w i)+1) 1)<|λa b=>O<|Sum.inl (zH zI<|(i:Int)+1,a,vy w i++[b])).trans ?_;have e:ft (vy w i)=i:=Dg w i;rw[e,au V1 V5,Oj,Zi]
  grind
 unfold mV
 grind
theorem aR7 (u: ∀x∈w,0<=x/\x<=18446744073709551615)(i:Nat)(l:List Bool):am (oN ((i:Int),l)) cj (0,w.getD (i / 64) 0)=O ((fu (w.getD (i / 64) 0) / 2 ^ (i % 64):Nat):Int):=by
 have⟨p,v⟩:=ag4 u<|i / 64;generalize w.getD (i / 64) 0=x at*;obtain⟨x,rfl⟩:=cB p;rw[cD];have:=bz (f:=oN ((i:Int),l)) (n:=i % 64) (F:=λk=>((x / 2 ^ k:Nat):Int)) (c:=((x / 2 ^ (i % 64):Nat):Int)) V1 (λk A=> ?_) ?_
 .rw[<-this];simp
 .unfold oN;simp only;have j:aD (i:Int) 64=((i % 64:Nat):Int):=rfl;rw[j,zB (show(k:Int)<((i % 64:Nat):Int)by omega),zC]
  have e:zH zI ((k:Int)+1)=((k+1:Nat):Int):=by
   show zH zI _=_;rw[Zi];omega
  have g:zH zJ (aB ((x / 2 ^ k:Nat):Int) 2)=((x / 2 ^ (k+1):Nat):Int):=by
   show zH zJ _=_;rw[show aB ((x / 2 ^ k:Nat):Int) 2=((x / 2 ^ k / 2:Nat):Int)from rfl,Nat.div_div_eq_div_mul,show 2 ^ k*2=2 ^ (k+1)from rfl];have:x / 2 ^ (k+1)<=x:=Nat.div_le_self _ _;generalize x / 2 ^ (k+1)=z at this⊢;exact cn V1
  rw[e,g]
 unfold oN
 grind
theorem bj2 (u: ∀x∈w,0<=x/\x<=18446744073709551615){n:Nat}(h:n<=64*ft w)(v:ft w<=2000):am (oO (n:Int) w) cj (0,[])=O (vy w n):=by
 refine bz (f:=oO (n:Int) w) (n:=n) (F:=λi=>vy w i) V1 (λi hi=> ?_) ?_
 .unfold oO;simp only
  have g:zH zI (aB (i:Int) 64)=((i / 64:Nat):Int):=by
   show zH zI _=_;rw[show aB (i:Int) 64=((i / 64:Nat):Int)from rfl,Zi]
  rw[zB (show(i:Int)<(n:Int)by omega),zC,g,ae7 V1,zG,aR7 u,zG];have p:List.length (vy w i)=i:=Dg w i;rw[p,au V1 V5,Oj]
  have e:zH zI ((i:Int)+1)=((i+1:Nat):Int):=by
   show zH zI _=_;rw[Zi];omega
  have j:Zc (aD ((fu (w.getD (i / 64) 0) / 2 ^ (i % 64):Nat):Int) 2=1)=aj3 w i:=by
   unfold aj3
   grind
  rw[e,j]
 unfold oO
 grind
def X2 (w:Zd):Option<|Zd×List Bool:=if ft w<5 then Y else match S 5 (w.drop 5) []with
 |none=>Y
 |some (l,rest)=>if w.getD 0 0=2 then(match rest with
  |[]=>Y
  |n::b=>if 64*(ft b:Int)<n then Y else O (l.getD 4 [],vy b<|fu n))else O (l.getD 4 [],[])
def S5 (g:jB w){l:List<|Zd}(h:S 5 w []=O (l,rest)):ft l=5/\jB rest/\ft rest<=ft w:=by
 have: ∀(r:Nat) (w:Zd) (e:List Zd) (q:List (Zd)×Zd),jB w->S r w e=O q->ft q.1=ft e+r/\jB q.2/\ft q.2<=ft w:=by
  intro r;induction r with
  |zero=>intro w e q g h;cases h;exact⟨rfl,g,Nat.le_refl _⟩
  |succ r z=>
   intro w e q g h;cases w with
   |nil=>cases h
   |cons x t=>
    simp only[S]at h;split at h
    .cases h
    have⟨j,p,u⟩:=z _ _ _ (λy v=>g y (by simp[List.mem_of_mem_drop v])) h;rw[bD]at u;refine⟨by simp at j;omega,p,by simp;omega⟩
 have⟨j,p,u⟩:=this 5 w [] _ g h;exact⟨by simpa using j,p,u⟩
theorem am4 (J:jB w)(W:ft w<=1500):sQ w=O (match X2 w with|some (c,b)=>(c,0,b)|none=>([],4,[])):=by
 unfold sQ X2;by_cases D:ft w<5
 .rw[Zf,zC,zE D]
 rw[Ze,zD,zF D,Zl,bp];have j:pV w 5 (ft w:Int)=w.drop 5:=yd (n:=5);rw[j];have v:jB<|w.drop 5:=J.drop 5;have I:=KG (K:=5) V1 v (by rw[bD];omega);refine du I ?_;cases e:S 5 (w.drop 5) []with
 |none=>rfl
 |some p=>
  have⟨l,rest⟩:=p;have⟨N,A,B⟩:=S5 v e;rw[bD]at B;show cond (Zc<|(0:Int)≠0) _ _=_;rw[zA V2,zD]
  have z:rd w 0=O (w.getD 0 0):=by
   exact rh (l:=w) (i:=0) V1
  refine du z ?_;have g: ∃hx:4<ft l,l[4]=l.getD 4 []:=⟨V1,ZR⟩
  obtain⟨hx,g⟩:=g;have F:ix 4 (ft l)=O 4:=bl (k:=4) V1;have E:l[4]?=O (l.getD 4 []):=by rw[cK hx,g]
  by_cases C:w.getD 0 0=2
  .rw[zB C,zC];simp only[zE C];cases rest with
   |nil=>rfl
   |cons n b=>
    show cond (Zc<|((ft b+1:Nat):Int)=0) _ _=_;rw[Ze,zD];have H:ft b+1<=1500:=by simp at B;omega
    have u:ix 0 (ft b+1)=O 0:=bl (k:=0) V1;have Z:=A n V2;refine du u ?_;refine du (a:=n) rfl ?_;show cond (Zc<|zH zJ (zH zI<|64*zH zI (((ft b+1:Nat):Int)-1))<n) _ _=_
    have M:zH zJ (zH zI<|64*zH zI (((ft b+1:Nat):Int)-1))=64*(ft b:Int):=by
     rw[show((ft b+1:Nat):Int)-1=(ft b:Int)by omega,ad (n:=(ft b:Int)) V1,ad (n:=64*(ft b:Int)) V1];exact cn V1
    rw[M];by_cases c:64*(ft b:Int)<n
    .rw[zB c,zC];simp only[zE c]
    rw[zA c,zD];simp only[zF c];refine du u ?_;refine du (a:=n) rfl ?_;show gd (eU 1 ((ft b+1:Nat):Int)<|ft b+1) ((rY (zH zI n) _).bind _)=_;rw[Zl,bp,ad (n:=n) V1]
    have Q:rY n (List.take (fu ((ft (n::b):Nat):Int)-1)<|List.drop 1<|n::b)=O (0,vy b<|fu n):=by
     have ht:List.take (fu ((ft (n::b):Nat):Int)-1) (List.drop 1<|n::b)=b:=by
      grind
     rw[ht];unfold rY;rw[Ze,zD,ad (n:=64*(ft b:Int)) V1,Ze,zD];have V:=bj1 (w:=b) (λx hx=>A x (by simp[hx])) (n:=fu n) V1 V1
     grind
    grind
  grind
end
section
open List renaming getElem?_cons_succ->aB,takeWhile_cons_of_pos->aD,takeWhile_prefix->bB
def TB : ∀{l:List Bool} {i:Nat},i<ft (l.takeWhile id)->l[i]?=O Za
 |[],i,h=>by simp at h
 |b::l,i,h=>by
  cases b with
  |false=>simp at h
  |true=>
   rw[aD (by rfl)]at h;cases i with
   |zero=>rfl
   |succ i=>
    rw[aB];exact TB V8
def O9 : ∀{l:List Bool},ft (l.takeWhile id)<ft l->l[ft<|l.takeWhile id]?=O Zb
 |[],h=>by simp at h
 |b::l,h=>by
  cases b with
  |false=>rfl
  |true=>
   rw[aD (by rfl)]at h⊢;rw[List.length_cons,aB];exact O9 V8
def Nn (l:List Bool):ft (l.takeWhile id)<=ft l:=(bB id).length_le
def Ru (l:List Bool):l.take (ft<|l.takeWhile id)=l.takeWhile id:=(List.prefix_iff_eq_take.1<|bB id).symm
theorem aA9 {l:List Bool}(v:ft l<=1000000):jm l Zb=O (if(ft<|l.takeWhile id)<ft l then(ft (l.takeWhile id):Int)else-1):=by
 have p:=Nn l;generalize u:ft (l.takeWhile id)=k at*
 have g:am (iy l Zb) cj 0=O (if k<ft l then .inl (k:Int)else .inr ()):=by
  refine nr (n:=k) V1 (λi hi=> ?_) ?_
  .have e:=TB (l:=l) (i:=i) V1;have j:i<ft l:=by omega
   unfold iy;rw[Zf,zC,bq j];rw[List.getElem?_eq_getElem j]at e;injection e with e
   rw[e];show O (Sum.inl<|IntKind.i64.wrap<|(i:Int)+1)=_;rw[Zi];rfl
  unfold iy;by_cases c:k<ft l
  .rw[Zf,zC,bq c,zE c];have e:=O9 (l:=l) V1
   grind
  grind
 unfold jm;refine du g ?_;split<;>rfl
theorem ap6 {l:List Bool}(e:Int)(u:ft l<=1000000):am (sN (e,l)) cj 0=O (ft (l.takeWhile id):Int):=by
 have p:=Nn l;generalize j:ft (l.takeWhile id)=k at*;refine nr (n:=k) V1 (λi hi=> ?_) ?_
 .have g:=TB (l:=l) (i:=i) V1;unfold sN;rw[zB (show(i:Int)<((ft l:Nat):Int)by omega),zC];refine du (bl (k:=i) (n:=ft l) V1) ?_;refine du g ?_;rw[zC,Zi];rfl
 unfold sN;by_cases c:k<ft l
 .rw[zB (show(k:Int)<((ft l:Nat):Int)by omega),zC];refine du (bl (k:=k) (n:=ft l) V1) ?_;have g:=O9 (l:=l) V1;rw[j]at g;exact du g rfl
 grind
def Hd.pl (h:Hd):Int:=(gy h.m (ft h.x) (ft h.t) h.R h.l h.Q h.k h.n h.b).2.2.2.2
def Fm (w:Zd):Int⊕(Hd×Zd×List Bool):=match X2 w with
 |none=> .inl 4
 |some (c,b)=>match FL w with
  | .inl e=> .inl e
  | .inr (h,_)=>if h.pl≠0 then .inl h.pl else if h.m=2/\65536<=ft (b.takeWhile id) then .inl 14 else .inr (h,c,b.takeWhile id)
theorem OB {e:Int}(h:FL w= .inl e):e≠0:=by
 unfold FL at h
 grind
def ay5 {h:Hd}(e:FL w= .inr (h,r)):h.m=w.getD 0 0/\h.chk=0:=by
 unfold FL at e;split at e
 .cases e
 split at e
 .split at e
  .cases e
  split at e
  .cases e
  split at e
  .cases e
  rename_i p;injection e with e;injection e with g j;subst g;exact⟨rfl,V1⟩
 cases e
theorem az8 (v:jB w)(C:ft w<=1500){c:Zd}{b:List Bool}(h:X2 w=O (c,b)):ft b<=100000/\(w.getD 0 0≠2->b=[]):=by
 unfold X2 at h;split at h
 .cases h
 split at h
 .cases h
 rename_i l rest u;have⟨A,g,e⟩:=S5 (v.drop 5) u;rw[List.length_drop]at e;split at h
 .rename_i j;split at h
  .cases h
  rename_i n z;split at h
  .cases h
  injection h with h
  injection h with B p
  subst p;have D:=g n V2;simp at e;exact⟨by rw[Dg];omega,λk=>(k j).elim⟩
 grind
theorem WR (j:jB w)(v:ft w<=1500):jk w=O (match Fm w with
  | .inl e=>(0,0,[],0,[],0,0,[],e,[],[],[])
  | .inr (h,c,b)=>(h.m,h.R,h.l,h.Q,h.k,h.n,h.b,c,0,h.x,h.t,b)):=by
 unfold jk Fm;refine du (am4 j v) ?_;cases e:X2 w with
 |none=>rfl
 |some p=>
  have⟨c,b⟩:=p;have⟨I,A⟩:=az8 j v e;show cond (Zc<|(0:Int)≠0) _ _=_;rw[zA V2,zD];refine du (QO j V1) ?_;cases u:FL w with
  |inl z=>
   show cond (Zc<|z≠0) _ _=_;rw[zB<|OB u,zC]
  |inr q=>
   have⟨h,r⟩:=q;have⟨C,D,E,F⟩:=To j v u;have⟨K,J⟩:=ay5 u;show cond (Zc<|(0:Int)≠0) _ ((io h.m h.x h.t h.R h.l h.Q h.k h.n h.b).bind _)=_;rw[zA V2,zD];refine du (LA C D) ?_;show cond (Zc<|h.pl≠0) _ _=_;simp only;by_cases g:h.pl≠0
   .rw[zB g,zC,zE g];rfl
   rw[zA g,zD,zF g];refine du (a:=(h.m,h.R,h.l,h.Q,h.k,h.n,h.b,c,h.x,h.t,r,b.takeWhile id)) ?_ ?_
   .refine du (aA9 V1) ?_;have B:=Nn b;by_cases k:ft (b.takeWhile id)<ft b
    .rw[zE k,Zf,zC,Zl,bp];show O (h.m,h.R,h.l,h.Q,h.k,h.n,h.b,c,h.x,h.t,r,List.take (fu (ft (b.takeWhile id):Int)-0) b)=_;rw[show(fu (ft (b.takeWhile id):Int))-0=(ft<|b.takeWhile id) by omega,Ru]
    .rw[zF k,Ze,zD]
     have:b=b.takeWhile id:=by
      have H:=Ru b
      grind
     rw[<-this]
   grind
end
section
open Go.IntKind renaming wrap->zH,i64->zI,u64->zJ
open List renaming length_drop->aB
theorem bo3 {h:Hd}(j:OpsOk h.l)(p:OpsOk h.k)(g:h.pl=0):0<=h.n/\h.n<=65535:=by
 have e:su h.m (ft h.x) (ft h.t) h.R h.l h.Q h.k h.n h.b=0:=by
  unfold Hd.pl gy at g
  grind
 exact(EG j p e).len
theorem Pw (hu:jB w)(hl:ft w<=1500):qX w=O (match Fm w with
  | .inl e=>(0,[],[],0,0,0,0,[],0,e,[],[])
  | .inr (h,c,b)=>(h.m,h.x,h.t,h.R,h.Q,h.n,h.b,c,if h.m≠2 then h.n else(ft b:Int),0,h.l,h.k)):=by
 unfold qX Fm X2;by_cases h5:ft w<5
 .grind
 rw[Ze,zD,zF h5,Zl,bp];have J:pV w 5 (ft w:Int)=w.drop 5:=yd (n:=5);rw[J];have N:jB<|w.drop 5:=hu.drop 5;have hs:=Kj (K:=5) V1 N Z4;refine du hs ?_;cases e:S 5 (w.drop 5) []with
 |none=>rfl
 |some p=>
  have⟨l,rest⟩:=p;have⟨e1,e2,e3⟩:=S5 N e;rw[aB]at e3;show cond (Zc<|(0:Int)≠0) _ _=_;rw[zA V2,zD];have F:rd w 0=O (w.getD 0 0):=rh (l:=w) (i:=0) V1
  have tail: ∀(b:List Bool),ft b<=100000->(w.getD 0 0≠2->b=[])->be (Sum.inr (α:=Unit) (ft (b.takeWhile id):Int)) (λu'12=>
    O (0,[],[],0,0,0,0,[],0,4,[],[]))
    (λw13=>
    gn (qh w) λ⟨g,v,z,A,B,j,C,r14_7,D,E,u⟩=>
    cond (Zc<|D≠0)
     (O (0,[],[],0,0,0,0,[],0,D,[],[]))
     (gn (gX g v z A E B u j C) λW=>
     cond (Zc<|W.2.2.2.2≠0)
     (O (0,[],[],0,0,0,0,[],0,W.2.2.2.2,[],[]))
     ((((cond (Zc<|g≠2)
      (O j)
      (O w13)):Option Int)).bind λZ=>
     cond (Zc<|65535<Z)
      (O (0,[],[],0,0,0,0,[],0,14,[],[]))
      (gn (ix 4<|ft l) λj17=>
      gn (l[j17]?) λx18=>
      O (g,v,z,A,B,j,C,x18,Z,0,E,u)))))=O (match(match O (l.getD 4 [],b)with
     |none=>(.inl 4:Int⊕(Hd×Zd×List Bool))
     |some (c,b)=>match FL w with
      | .inl e=> .inl e
      | .inr (h,_)=>if h.pl≠0 then .inl h.pl else if h.m=2/\65536<=ft (b.takeWhile id) then .inl 14 else .inr (h,c,b.takeWhile id))with
    | .inl e=>(0,[],[],0,0,0,0,[],0,e,[],[])
    | .inr (h,c,b)=>(h.m,h.x,h.t,h.R,h.Q,h.n,h.b,c,if h.m≠2 then h.n else(ft b:Int),0,h.l,h.k)):=by
   intro b hb hb2;rw[ci];refine du (TX hu V1) ?_;cases ed:FL w with
   |inl er=>
    show cond (Zc<|er≠0) _ _=_;rw[zB<|OB ed,zC]
   |inr q=>
    have⟨h,r⟩:=q;have⟨o4,o6,g4,g6⟩:=To hu hl ed;have⟨hm,hc⟩:=ay5 ed;show cond (Zc<|(0:Int)≠0) _ ((gX h.m h.x h.t h.R h.l h.Q h.k h.n h.b).bind _)=_;rw[zA V2,zD];refine du (Pu o4 o6 g4 g6) ?_;show cond (Zc<|h.pl≠0) _ _=_;simp only;by_cases M:h.pl≠0
    .rw[zB M,zC,zE M];rfl
    have hn:=bo3 o4 o6<|Decidable.not_not.1 M;rw[zA M,zD,zF M];have hle:=Nn b;refine du (a:=if h.m≠2 then h.n else(ft (b.takeWhile id):Int)) ?_ ?_
    .show cond (Zc<|h.m≠2) (O h.n) (O (ft (b.takeWhile id):Int))=_
     grind
    have V: ∃hx:4<ft l,l[4]=l.getD 4 []:=⟨V1,ZR⟩
    obtain⟨hx,V⟩:=V;have hi4:ix 4 (ft l)=O 4:=bl (k:=4) V1
    grind
  by_cases H:w.getD 0 0=2
  .simp only[zE H];cases rest with
   |nil=>
    refine du (a:= .inl ()) ?_ ?_
    .refine du F ?_;rw[zB H,zC];rfl
    .rfl
   |cons n b=>
    have hlb:ft b+1<=1500:=by simp at e3;omega
    have hn:=e2 n V2
    have hw:zH zJ (zH zI<|64*zH zI (((ft b+1:Nat):Int)-1))=64*(ft b:Int):=by
     rw[show((ft b+1:Nat):Int)-1=(ft b:Int)by omega,ad (n:=(ft b:Int)) V1,ad (n:=64*(ft b:Int)) V1];exact cn V1
    have I:rd (n::b) 0=O n:=bq (l:=n::b) (i:=0) V2;by_cases c:64*(ft b:Int)<n
    .refine du (a:= .inl ()) ?_ ?_
     .refine du F ?_;rw[zB H,zC];show cond (Zc<|((ft b+1:Nat):Int)=0) _ ((rd (n::b) 0).bind _)=_;rw[Ze,zD];refine du I ?_;show cond (Zc<|zH zJ (zH zI<|64*zH zI (((ft b+1:Nat):Int)-1))<n) _ _=_;rw[hw,zB c,zC]
     .simp only[zE c];rfl
    .refine du (a:= .inr (ft ((vy b<|fu n).takeWhile id):Int)) ?_ ?_
     .refine du F ?_;rw[zB H,zC];show cond (Zc<|((ft b+1:Nat):Int)=0) _ ((rd (n::b) 0).bind _)=_;rw[Ze,zD];refine du I ?_;show cond (Zc<|zH zJ (zH zI<|64*zH zI (((ft b+1:Nat):Int)-1))<n) _ ((rd (n::b) 0).bind _)=_;rw[hw,zA c,zD];refine du I ?_;show gd (eU 1 ((ft b+1:Nat):Int)<|ft b+1) ((uC (zH zI n)<|pV (n::b) 1 ((ft b+1:Nat):Int)).bind _)=_;rw[Zl,bp,ad (n:=n) V1]
      have hb:uC n (pV (n::b) 1 ((ft b+1:Nat):Int))=O (0,vy b<|fu n):=by
       have ht:pV (n::b) 1 ((ft b+1:Nat):Int)=b:=yd (w:=n::b) (n:=1);rw[ht];unfold uC;rw[Ze,zD,ad (n:=64*(ft b:Int)) V1,Ze,zD];have hk:=bj2 (w:=b) (λx hx=>e2 x (by simp[hx])) (n:=fu n) V1 V1
       grind
      refine du hb ?_;exact du (ap6 0 (by rw[Dg];omega)) rfl
     .simp only[zF c];exact tail (vy b<|fu n) (by rw[Dg];omega) (λk=>(k H).elim)
  .simp only[zF H];refine du (a:= .inr (ft (([]:List Bool).takeWhile id):Int)) ?_ ?_
   .refine du F ?_;rw[zA H,zD];rfl
   .exact tail [] V2 (λ_=>rfl)
end
section
open List renaming length_cons->aB,length_append->bB,length_singleton->bD,length_nil->cB,nil_append->cD
open Nat renaming zero_add->aD
open Option renaming isNone->cK
def LW {α γ:Type}{c:Cx}(h:c.Ok){f:α->Option (α⊕γ)}{st:Nat->Nat->Bool->Dy->List (Int×Int)->α}
  (F: ∀(i p:Nat) (en:Bool) (s:Dy) (j:List<|Int×Int) (a:Int×Int),i<20000->ft j<=100000->di c i s->QE c en s->vM c en s=O a->vP c a s->f (st i p en s j)=O (.inl<|st (i+1) p en (rR c a s)<|j++[a]))
  (I: ∀(i p:Nat) (s:Dy) (j:List<|Int×Int),i<20000->di c i s->c.mode=2->vM c Zb s=Y->s.q= -1->s.L<65535->p<l->f (st i p Zb s j)=O (.inl<|st (i+1) (p+1) Zb (H6 s) j))
  (J: ∀(i p:Nat) (s:Dy) (j:List<|Int×Int),i<20000->di c i s->c.mode=2->vM c Zb s=Y->s.q= -1->p=l->f (st i p Zb s j)=O (.inl<|st (i+1) (p+1) Za s j))
  {p:Nat}    {z:Nat} {u:Bool} {v:Dy} (H:Way c l p en s es z u v): ∀(i:Nat) (j:List<|Int×Int),di c i s->QE c en s->i+ft es<=20000->ft j+ft es<=100000->
   Reach f (ft es) (st i p en s j) (st (i+ft es) z u v<|j++pU es)/\QE c u v:=by
 induction H with
 |nil=>
  intro i j w q _ _;refine⟨?_,q⟩;rw[show pU []=([]:List<|Int×Int)from rfl,List.append_nil];exact Reach.refl
 | @act p en s a es z u v e m _ C=>
  intro i j w q A B;rw[aB]at A B;have⟨r,D⟩:=C (i+1) (j++[a]) (lH h w e m) (TN h w q e m) V1 (by rw[bB,bD];omega);refine⟨?_,D⟩;have:=(Reach.one<|F i p en s j a V1 V1 w q e m).trans r;rw[List.append_assoc]at this;rw[aB,show ft es+1=1+(ft es) by omega,show i+(1+ft es)=i+1+(ft es) by omega];exact this
 | @more p s es z u v a b d e g _ C=>
  intro i j w q A B;rw[aB]at A B;have⟨r,D⟩:=C (i+1) j (wV h w a d e) ⟨q.1,λE _=>by have E:0<=s.q:=E;omega⟩ V1 V1;refine⟨?_,D⟩;have:=(Reach.one<|I i p s j V1 w a b d e g).trans r;rw[aB,show ft es+1=1+(ft es) by omega,show i+(1+ft es)=i+1+(ft es) by omega];exact this
 | @stop p s es z u v a b d e _ C=>
  intro i j w q A B;rw[aB]at A B;have⟨r,D⟩:=C (i+1) j (Xh h (Nat.le_succ i) w) ⟨λk=>(k a).elim,λ_ _=>rfl⟩ V1 V1;refine⟨?_,D⟩;have:=(Reach.one<|J i p s j V1 w a b d e).trans r;rw[aB,show ft es+1=1+(ft es) by omega,show i+(1+ft es)=i+1+(ft es) by omega];exact this
section
variable {c:Cx} (h:c.Ok)
include h
theorem HO (w:di c i s):Wd c s.W/\ft s.W<=1048576:=by
 have e:Wd c s.W:=by
  unfold di at w;split at w
  .exact w.inv.w
  exact w.inv.w
 exact⟨e,(e.tk h).2⟩
theorem bu4 (g:c.mode=3)(e:gy c.mode (ft c.X) (ft c.T) c.R c.l c.Q c.k c.len c.words=(c.fixed,c.tp,c.sl,c.ns,0)):kl c.mode c.X c.T c.R c.l c.Q c.k c.len c.words=O (.inr<|.inl (c.mode,Zb,Zb,c.fixed,c.tp,c.sl,c.ns,c.mode,c.R,c.Q,c.len,c.words,c.len,c.X,c.T,c.l,c.k,c.P,c.tk,c.fixed,c.fixed,c.words,(new1 c).W)):=by
 unfold kl;refine du (bF7 h g e) ?_
 refine du (show md .. =O (c.mode,Zb,Zb)from by
  unfold md;rw[show ix c.mode 4=O 3 from by rw[g];rfl]
  rfl) ?_
 rfl
theorem ab0 (v:c.mode=3)(e0:gy c.mode (ft c.X) (ft c.T) c.R c.l c.Q c.k c.len c.words=(c.fixed,c.tp,c.sl,c.ns,0))(A:ft cs<=1000000)(bs:List Bool)(n:Int)(hi:i<=1000000)(w:di c i s)(q:QE c en s):
  ga c.mode c.X c.T c.R c.l c.Q c.k c.len c.words cs bs n c.mode en Zb c.fixed c.tp c.sl c.ns c.mode c.R c.Q c.len c.words s.L s.p s.q s.c0 s.c1 s.c2 s.c3 s.z c.X c.T c.l c.k c.P c.tk s.lv s.pk c.words s.W=O (c.mode,en,Zb,c.fixed,c.tp,c.sl,c.ns,c.mode,c.R,c.Q,c.len,c.words,s.L,s.p,s.q,s.c0,s.c1,s.c2,s.c3,s.z,c.X,c.T,c.l,c.k,c.P,c.tk,s.lv,s.pk,c.words,s.W):=by
 have e:=w;unfold di at e;rw[zE v]at e;have u:=HO h w;have B:en=Zb:=q.1 V1;subst B;have g:=bz (f:=rZ c.mode c.X c.T c.R c.l c.Q c.k c.len c.words cs n) (n:=ft cs) (F:=λ_=>(c.mode,Zb,Zb,c.fixed,c.tp,c.sl,c.ns,c.mode,c.R,c.Q,c.len,c.words,s.L,s.p,s.q,s.c0,s.c1,s.c2,s.c3,s.z,c.X,c.T,c.l,c.k,c.P,c.tk,s.lv,s.pk,c.words,s.W)) (c:=(c.mode,Zb,Zb,c.fixed,c.tp,c.sl,c.ns,c.mode,c.R,c.Q,c.len,c.words,s.L,s.p,s.q,s.c0,s.c1,s.c2,s.c3,s.z,c.X,c.T,c.l,c.k,c.P,c.tk,s.lv,s.pk,c.words,s.W)) V1 (λj C=> ?_) ?_
 .unfold ga;exact du g rfl
 .show cond (Zc<|(j:Int)<((ft cs:Nat):Int)) ((rd cs (j:Int)).bind _) _=_;rw[Zf,zC];refine du (bq C) ?_;by_cases hx:cs[j]=IntKind.u64.wrap n
  .rw[zB hx,zC];refine du (bv3 h u.1 u.2 c.mode Zb Zb) ?_;refine du (ar5 h v e0 e.inv e.cnt V1 u.2) ?_;simp only[ci,gM];rw[Zi];rfl
  .rw[zA hx,zD,Zi];rfl
 .show cond (Zc<|(ft cs:Int)<((ft cs:Nat):Int)) _ _=_
  grind
def I2 (c:Cx)(i g:Nat)(en:Bool)(s:Dy)(e:List<|Int×Int):=((ft e:Int),(g:Int),(ft e:Int),c.mode,en,Zb,c.fixed,c.tp,c.sl,c.ns,c.mode,c.R,c.Q,c.len,c.words,s.L,s.p,s.q,s.c0,s.c1,s.c2,s.c3,s.z,c.X,c.T,c.l,c.k,c.P,c.tk,s.lv,s.pk,c.words,s.W)
theorem aN0 (u:c.mode=3)(e0:gy c.mode (ft c.X) (ft c.T) c.R c.l c.Q c.k c.len c.words=(c.fixed,c.tp,c.sl,c.ns,0))(p:ft cs<=1000000)(bs:List Bool)(i j:Nat)(en:Bool)(s:Dy)(g:List<|Int×Int)(a:Int×Int)(hi:i<20000)(v:ft g<=100000)(w:di c i s)(q:QE c en s)(e:vM c en s=O a)(m:vP c a s):
  jR c.mode c.R c.l c.Q c.k c.len c.words cs c.X c.T bs (I2 c i j en s g)=O (.inl<|I2 c (i+1) j en (rR c a s)<|g++[a]):=by
 unfold I2 jR;refine du (bJ2 h u V1 w e m) ?_;show cond Za _ _=_;rw[zC];refine du (ab0 h u e0 p bs _ V1 (lH h w e m)<|TN h w q e m) ?_;rw[bB,bD,Zi,show((ft g+1:Nat):Int)=(ft g:Int)+1 by omega]
theorem aQ5 (u:c.mode=3)(i j:Nat)(en:Bool)(s:Dy)(g:List<|Int×Int)(w:di c i s)(e:vM c en s=Y)(A:c.mode=2->en=Za):
  jR c.mode c.R c.l c.Q c.k c.len c.words cs c.X c.T bs (I2 c i j en s g)=O (.inr ((ft g:Int),c.mode,en,Zb,c.fixed,c.tp,c.sl,c.ns,c.mode,c.R,c.Q,c.len,c.words,s.L,s.p,s.q,s.c0,s.c1,s.c2,s.c3,s.z,c.X,c.T,c.l,c.k,c.P,c.tk,s.lv,s.pk,c.words,s.W)):=by
 unfold I2 jR;refine du (bJ0 h u w e) ?_;show cond Zb _ _=_;rw[zD];refine du (bJ9 h u w) ?_
 rw[e,show(cK (Y:Option<|Int×Int)&&(Zc (c.mode=2)&& !en))=Zb from by
  by_cases v:c.mode=2
  .omega
  .rw[zA v];rfl,zD]
theorem aN5 (B:c.mode=3)(e0:gy c.mode (ft c.X) (ft c.T) c.R c.l c.Q c.k c.len c.words=(c.fixed,c.tp,c.sl,c.ns,0))(u:ft cs<=1000000)(E:l<=40)(I:c.mode=2->ft bs=l)(H:Way c l 0 Zb (oV c) es f en s)(F:Fin c l f en s es):
  am (jR c.mode c.R c.l c.Q c.k c.len c.words cs c.X c.T bs) cj (I2 c 0 0 Zb (oV c) [])=O ((ft (pU es):Int),c.mode,en,Zb,c.fixed,c.tp,c.sl,c.ns,c.mode,c.R,c.Q,c.len,c.words,s.L,s.p,s.q,s.c0,s.c1,s.c2,s.c3,s.z,c.X,c.T,c.l,c.k,c.P,c.tk,s.lv,s.pk,c.words,s.W):=by
 have w0:=nB h;have C:=H.well h w0;have A:=F.le E;obtain⟨r,q⟩:=LW h (f:=jR c.mode c.R c.l c.Q c.k c.len c.words cs c.X c.T bs) (st:=I2 c) (λi g en s j a hi D w q e m=>aN0 h B e0 u bs i g en s j a hi D w q e m) (λi g s j hi w v=>by omega) (λi g s j hi w v=>by omega) H 0 [] w0 LD V1 Zt;rw[aD,cD]at r;rw[aD]at C;exact LF r V1<|aQ5 h B (ft es) f en s (pU es) C F.no F.en
theorem ab1 (B:c.mode=1)(e0:gy c.mode (ft c.X) (ft c.T) c.R c.l c.Q c.k c.len c.words=(c.fixed,c.tp,c.sl,c.ns,0))(v:ft cs<=1000000)(bs:List Bool)(n:Int)(hi:i<=1000000)(w:di c i s)(q:QE c en s):
  gb c.mode c.X c.T c.R c.l c.Q c.k c.len c.words cs bs n c.mode en Zb c.fixed c.tp c.sl c.ns c.mode c.R c.Q c.len c.words s.L s.p s.q s.c0 s.c1 s.c2 s.c3 s.z c.X c.T c.l c.k c.P c.tk (c.off 8:Int) c.ns (ft c.X:Int) s.lv s.pk c.words s.W=O (c.mode,en,Zb,c.fixed,c.tp,c.sl,c.ns,c.mode,c.R,c.Q,c.len,c.words,s.L,s.p,s.q,s.c0,s.c1,s.c2,s.c3,s.z,c.X,c.T,c.l,c.k,c.P,c.tk,(c.off 8:Int),c.ns,(ft c.X:Int),s.lv,s.pk,c.words,s.W):=by
 have e:=w;unfold di at e;rw[Zh]at e;have u:=HO h w;have g:=bz (f:=sa c.mode c.X c.T c.R c.l c.Q c.k c.len c.words cs n) (n:=ft cs) (F:=λ_=>(c.mode,en,Zb,c.fixed,c.tp,c.sl,c.ns,c.mode,c.R,c.Q,c.len,c.words,s.L,s.p,s.q,s.c0,s.c1,s.c2,s.c3,s.z,c.X,c.T,c.l,c.k,c.P,c.tk,(c.off 8:Int),c.ns,(ft c.X:Int),s.lv,s.pk,c.words,s.W)) (c:=(c.mode,en,Zb,c.fixed,c.tp,c.sl,c.ns,c.mode,c.R,c.Q,c.len,c.words,s.L,s.p,s.q,s.c0,s.c1,s.c2,s.c3,s.z,c.X,c.T,c.l,c.k,c.P,c.tk,(c.off 8:Int),c.ns,(ft c.X:Int),s.lv,s.pk,c.words,s.W)) V1 (λj A=> ?_) ?_
 .unfold gb;exact du g rfl
 .show cond (Zc<|(j:Int)<((ft cs:Nat):Int)) ((rd cs (j:Int)).bind _) _=_;rw[Zf,zC];refine du (bq A) ?_;by_cases hx:cs[j]=IntKind.u64.wrap n
  .rw[zB hx,zC];refine du (bv4 h u.1 u.2 c.mode en Zb) ?_;refine du (ar6 h B e0 e.inv e.len e.cnt V1 u.2 q.1 q.2) ?_;simp only[ci,gM];rw[Zi];rfl
  .rw[zA hx,zD,Zi];rfl
 .show cond (Zc<|(ft cs:Int)<((ft cs:Nat):Int)) _ _=_
  grind
def I3 (c:Cx)(i g:Nat)(en:Bool)(s:Dy)(e:List<|Int×Int):=((ft e:Int),(g:Int),(ft e:Int),c.mode,en,Zb,c.fixed,c.tp,c.sl,c.ns,c.mode,c.R,c.Q,c.len,c.words,s.L,s.p,s.q,s.c0,s.c1,s.c2,s.c3,s.z,c.X,c.T,c.l,c.k,c.P,c.tk,(c.off 8:Int),c.ns,(ft c.X:Int),s.lv,s.pk,c.words,s.W)
theorem aN1 (u:c.mode=1)(v:1<=c.ns)(e0:gy c.mode (ft c.X) (ft c.T) c.R c.l c.Q c.k c.len c.words=(c.fixed,c.tp,c.sl,c.ns,0))(p:ft cs<=1000000)(bs:List Bool)(i j:Nat)(en:Bool)(s:Dy)(g:List<|Int×Int)(a:Int×Int)(hi:i<20000)(z:ft g<=100000)(w:di c i s)(q:QE c en s)(e:vM c en s=O a)(m:vP c a s):
  jS c.mode c.R c.l c.Q c.k c.len c.words cs c.X c.T bs (I3 c i j en s g)=O (.inl<|I3 c (i+1) j en (rR c a s)<|g++[a]):=by
 unfold I3 jS;refine du (bJ3 h u v V1 w e m) ?_;show cond Za _ _=_;rw[zC];refine du (ab1 h u e0 p bs _ V1 (lH h w e m)<|TN h w q e m) ?_;rw[bB,bD,Zi,show((ft g+1:Nat):Int)=(ft g:Int)+1 by omega]
theorem aQ6 (u:c.mode=1)(v:1<=c.ns)(i j:Nat)(en:Bool)(s:Dy)(g:List<|Int×Int)(w:di c i s)(e:vM c en s=Y)(B:c.mode=2->en=Za):
  jS c.mode c.R c.l c.Q c.k c.len c.words cs c.X c.T bs (I3 c i j en s g)=O (.inr ((ft g:Int),c.mode,en,Zb,c.fixed,c.tp,c.sl,c.ns,c.mode,c.R,c.Q,c.len,c.words,s.L,s.p,s.q,s.c0,s.c1,s.c2,s.c3,s.z,c.X,c.T,c.l,c.k,c.P,c.tk,(c.off 8:Int),c.ns,(ft c.X:Int),s.lv,s.pk,c.words,s.W)):=by
 unfold I3 jS;refine du (bJ1 h u v w e) ?_;show cond Zb _ _=_;rw[zD];refine du (bK0 h u v w) ?_
 rw[e,show(cK (Y:Option<|Int×Int)&&(Zc (c.mode=2)&& !en))=Zb from by
  by_cases A:c.mode=2
  .omega
  .rw[zA A];rfl,zD]
theorem aN6 (B:c.mode=1)(C:1<=c.ns)(e0:gy c.mode (ft c.X) (ft c.T) c.R c.l c.Q c.k c.len c.words=(c.fixed,c.tp,c.sl,c.ns,0))(u:ft cs<=1000000)(I:l<=40)(J:c.mode=2->ft bs=l)(H:Way c l 0 Zb (oV c) es f en s)(F:Fin c l f en s es):
  am (jS c.mode c.R c.l c.Q c.k c.len c.words cs c.X c.T bs) cj (I3 c 0 0 Zb (oV c) [])=O ((ft (pU es):Int),c.mode,en,Zb,c.fixed,c.tp,c.sl,c.ns,c.mode,c.R,c.Q,c.len,c.words,s.L,s.p,s.q,s.c0,s.c1,s.c2,s.c3,s.z,c.X,c.T,c.l,c.k,c.P,c.tk,(c.off 8:Int),c.ns,(ft c.X:Int),s.lv,s.pk,c.words,s.W):=by
 have w0:=nB h;have D:=H.well h w0;have A:=F.le I;obtain⟨r,q⟩:=LW h (f:=jS c.mode c.R c.l c.Q c.k c.len c.words cs c.X c.T bs) (st:=I3 c) (λi g en s j a hi E w q e m=>aN1 h B C e0 u bs i g en s j a hi E w q e m) (λi g s j hi w v=>by omega) (λi g s j hi w v=>by omega) H 0 [] w0 LD V1 Zt;rw[aD,cD]at r;rw[aD]at D;exact LF r V1<|aQ6 h B C (ft es) f en s (pU es) D F.no F.en
theorem ab2 (B:c.mode=2)(e0:gy c.mode (ft c.X) (ft c.T) c.R c.l c.Q c.k c.len c.words=(c.fixed,c.tp,c.sl,c.ns,0))(v:ft cs<=1000000)(bs:List Bool)(n:Int)(hi:i<=1000000)(w:di c i s)(q:QE c en s):
  gc c.mode c.X c.T c.R c.l c.Q c.k c.len c.words cs bs n c.mode en Zb c.fixed c.tp c.sl c.ns c.mode c.R c.Q c.len c.words s.L s.p s.q s.c0 s.c1 s.c2 s.c3 s.z c.X c.T c.l c.k c.P c.tk (c.off 8:Int) c.ns (ft c.X:Int) s.lv s.pk c.words s.W=O (c.mode,en,Zb,c.fixed,c.tp,c.sl,c.ns,c.mode,c.R,c.Q,c.len,c.words,s.L,s.p,s.q,s.c0,s.c1,s.c2,s.c3,s.z,c.X,c.T,c.l,c.k,c.P,c.tk,(c.off 8:Int),c.ns,(ft c.X:Int),s.lv,s.pk,c.words,s.W):=by
 have e:=w;unfold di at e;rw[Zh]at e;have u:=HO h w;have g:=bz (f:=sd c.mode c.X c.T c.R c.l c.Q c.k c.len c.words cs n) (n:=ft cs) (F:=λ_=>(c.mode,en,Zb,c.fixed,c.tp,c.sl,c.ns,c.mode,c.R,c.Q,c.len,c.words,s.L,s.p,s.q,s.c0,s.c1,s.c2,s.c3,s.z,c.X,c.T,c.l,c.k,c.P,c.tk,(c.off 8:Int),c.ns,(ft c.X:Int),s.lv,s.pk,c.words,s.W)) (c:=(c.mode,en,Zb,c.fixed,c.tp,c.sl,c.ns,c.mode,c.R,c.Q,c.len,c.words,s.L,s.p,s.q,s.c0,s.c1,s.c2,s.c3,s.z,c.X,c.T,c.l,c.k,c.P,c.tk,(c.off 8:Int),c.ns,(ft c.X:Int),s.lv,s.pk,c.words,s.W)) V1 (λj A=> ?_) ?_
 .unfold gc;exact du g rfl
 .show cond (Zc<|(j:Int)<((ft cs:Nat):Int)) ((rd cs (j:Int)).bind _) _=_;rw[Zf,zC];refine du (bq A) ?_;by_cases hx:cs[j]=IntKind.u64.wrap n
  .rw[zB hx,zC];refine du (bv5 h u.1 u.2 c.mode en Zb) ?_;refine du (ar7 h B e0 e.inv e.len e.cnt V1 u.2 q.1 q.2) ?_;simp only[ci,gM];rw[Zi];rfl
  .rw[zA hx,zD,Zi];rfl
 .show cond (Zc<|(ft cs:Int)<((ft cs:Nat):Int)) _ _=_
  grind
def wQ (c:Cx)(i g:Nat)(en:Bool)(s:Dy)(e:List<|Int×Int):=((ft e:Int),(g:Int),(ft e:Int),c.mode,en,Zb,c.fixed,c.tp,c.sl,c.ns,c.mode,c.R,c.Q,c.len,c.words,s.L,s.p,s.q,s.c0,s.c1,s.c2,s.c3,s.z,c.X,c.T,c.l,c.k,c.P,c.tk,(c.off 8:Int),c.ns,(ft c.X:Int),s.lv,s.pk,c.words,s.W)
theorem aN2 (u:c.mode=2)(v:1<=c.ns)(e0:gy c.mode (ft c.X) (ft c.T) c.R c.l c.Q c.k c.len c.words=(c.fixed,c.tp,c.sl,c.ns,0))(p:ft cs<=1000000)(bs:List Bool)(i j:Nat)(en:Bool)(s:Dy)(g:List<|Int×Int)(a:Int×Int)(hi:i<20000)(z:ft g<=100000)(w:di c i s)(q:QE c en s)(e:vM c en s=O a)(m:vP c a s):
  fU c.mode c.R c.l c.Q c.k c.len c.words cs c.X c.T bs (wQ c i j en s g)=O (.inl<|wQ c (i+1) j en (rR c a s)<|g++[a]):=by
 unfold wQ fU;refine du (bJ4 h u v V1 w e m) ?_;show cond Za _ _=_;rw[zC];refine du (ab2 h u e0 p bs _ V1 (lH h w e m)<|TN h w q e m) ?_;rw[bB,bD,Zi,show((ft g+1:Nat):Int)=(ft g:Int)+1 by omega]
theorem aQ7 (u:c.mode=2)(v:1<=c.ns)(i j:Nat)(en:Bool)(s:Dy)(g:List<|Int×Int)(w:di c i s)(e:vM c en s=Y)(B:c.mode=2->en=Za):
  fU c.mode c.R c.l c.Q c.k c.len c.words cs c.X c.T bs (wQ c i j en s g)=O (.inr ((ft g:Int),c.mode,en,Zb,c.fixed,c.tp,c.sl,c.ns,c.mode,c.R,c.Q,c.len,c.words,s.L,s.p,s.q,s.c0,s.c1,s.c2,s.c3,s.z,c.X,c.T,c.l,c.k,c.P,c.tk,(c.off 8:Int),c.ns,(ft c.X:Int),s.lv,s.pk,c.words,s.W)):=by
 unfold wQ fU;refine du (bp6 h u v w e) ?_;show cond Zb _ _=_;rw[zD];refine du (aJ5 h u v w) ?_
 rw[e,show(cK (Y:Option<|Int×Int)&&(Zc (c.mode=2)&& !en))=Zb from by
  by_cases A:c.mode=2
  .grind
  .rw[zA A];rfl,zD]
theorem aT5 (p:c.mode=2)(u:1<=c.ns)(A:ft bs<=1000000)(i g:Nat)(s:Dy)(j:List<|Int×Int)(w:di c i s)(e:vM c Zb s=Y)(z:s.q= -1)(v:s.L<65535)(B:g<ft bs):
  fU c.mode c.R c.l c.Q c.k c.len c.words cs c.X c.T bs (wQ c i g Zb s j)=O (.inl<|wQ c (i+1) (g+1) Zb (H6 s) j):=by
 unfold wQ fU;refine du (bp6 h p u w e) ?_;show cond Zb _ _=_;rw[zD];refine du (aJ5 h p u w) ?_;rw[e,zB p];show cond Za _ _=_;rw[zC,zB (show(g:Int)<((ft bs:Nat):Int)by omega)];refine du (fdm h p u w e z v) ?_;rw[Zi,show(g:Int)+1=((g+1:Nat):Int)by omega];rfl
theorem aY3 (p:c.mode=2)(u:1<=c.ns)(v:ft bs<=1000000)(i g:Nat)(s:Dy)(j:List<|Int×Int)(w:di c i s)(e:vM c Zb s=Y)(A:s.q= -1)(z:g=ft bs):
  fU c.mode c.R c.l c.Q c.k c.len c.words cs c.X c.T bs (wQ c i g Zb s j)=O (.inl<|wQ c (i+1) (g+1) Za s j):=by
 unfold wQ fU;refine du (bp6 h p u w e) ?_;show cond Zb _ _=_;rw[zD];refine du (aJ5 h p u w) ?_;rw[e,zB p];show cond Za _ _=_;rw[zC,zA (show¬(g:Int)<((ft bs:Nat):Int)by omega)];refine du (fds h p u w e) ?_;rw[Zi,show(g:Int)+1=((g+1:Nat):Int)by omega]
theorem aN7 (u:c.mode=2)(A:1<=c.ns)(e0:gy c.mode (ft c.X) (ft c.T) c.R c.l c.Q c.k c.len c.words=(c.fixed,c.tp,c.sl,c.ns,0))(B:ft cs<=1000000)(M:l<=40)(v:c.mode=2->ft bs=l)(H:Way c l 0 Zb (oV c) es f en s)(F:Fin c l f en s es):
  am (fU c.mode c.R c.l c.Q c.k c.len c.words cs c.X c.T bs) cj (wQ c 0 0 Zb (oV c) [])=O ((ft (pU es):Int),c.mode,en,Zb,c.fixed,c.tp,c.sl,c.ns,c.mode,c.R,c.Q,c.len,c.words,s.L,s.p,s.q,s.c0,s.c1,s.c2,s.c3,s.z,c.X,c.T,c.l,c.k,c.P,c.tk,(c.off 8:Int),c.ns,(ft c.X:Int),s.lv,s.pk,c.words,s.W):=by
 have w0:=nB h;have E:=H.well h w0;have D:=F.le M;obtain⟨r,q⟩:=LW h (f:=fU c.mode c.R c.l c.Q c.k c.len c.words cs c.X c.T bs) (st:=wQ c) (λi g en s j a hi K w q e m=>aN2 h u A e0 B bs i g en s j a hi K w q e m) (λi g s j hi w _ e C I J=>aT5 h u A Zn i g s j w e C I Zn) (λi g s j hi w _ e C J=>aY3 h u A Zn i g s j w e C Zn) H 0 [] w0 LD V1 Zt;rw[aD,cD]at r;rw[aD]at E;exact LF r V1<|aQ7 h u A (ft es) f en s (pU es) E F.no F.en
end
end
section
def aC3 (l:List bx):0<=IP l/\IP l<=30:=by
 unfold IP eb
 repeat' split
 all_goals simp
theorem ac2 (m:Int)(x t:Nat)(R:Int)(l:List bx)(Q:Int)(k:List bx)(n b:Int):0<=su m x t R l Q k n b/\su m x t R l Q k n b<=30:=by
 have p:0<=mw R l Q k/\mw R l Q k<=30:=by
  have a1:=aC0 l;have a2:=aC0 k;have a3:=aC1 R l;have a4:=aC1 Q k;have a5:=aC2 l;have a6:=aC2 k;have a7:=aC3 l;have a8:=aC3 k;unfold mw
  repeat' split
  all_goals omega
 have d:0<=yf R Q x t/\yf R Q x t<=30:=by
  unfold yf
  repeat' split
  all_goals omega
 unfold su hk0 hk3 hk4
 repeat' split
 all_goals omega
theorem RL {e:Int}(h:Fm w= .inl e):1<=e/\e<=30:=by
 unfold Fm at h;split at h
 .injection h with h;omega
 split at h
 .rename_i j g;injection h with h
  have u:=OB g
  have:0<=j/\j<=30:=by
   unfold FL at g;split at g
   .injection g with g;omega
   split at g
   .split at g
    .injection g with g;omega
    split at g
    .injection g with g;omega
    split at g
    .injection g with g
     rw[<-g];exact ac2 _ _ _ _ _ _ _ _ _
    cases g
   injection g with g;omega
  omega
 split at h
 .rename_i p r g v;injection h with h
  rw[<-h]
  have:0<=p.pl/\p.pl<=30:=by
   unfold Hd.pl gy;split
   .exact ac2 _ _ _ _ _ _ _ _ _
   split<;>simp
  omega
 grind
theorem aY0 (z:jB w): ∃b,w7 w=O b/\(b=Za->ft w<=1500/\∀g cs bs,Fm w= .inr (g,cs,bs)->(if g.m≠2 then g.n else(ft bs:Int))<=40/\ft cs<=1000000):=by
 unfold w7;by_cases u:(1500:Int)<((ft w:Nat):Int)
 .rw[zB u,zC]
  grind
 rw[zA u,zD];have j:=Pw z V1;cases e:Fm w with
 |inl J=>
  rw[e]at j;have V:=RL e;refine⟨Za, ?_,λ_=>⟨V1,λg cs bs k=>by cases k⟩⟩
  grind
 |inr p=>
  have⟨g,cs,bs⟩:=p;rw[e]at j
  obtain⟨r,D⟩: ∃r,FL w= .inr (g,r):=by
   unfold Fm at e
   grind
  have⟨H,I,K,M⟩:=To z V1 D;have⟨A,W,_⟩:=aX9 (a0:=g.m) (a1:=g.x) (a2:=g.t) (a3:=g.R) (a5:=g.Q) (a7:=g.n) (a8:=g.b) H.v I.v;by_cases E:(if g.m≠2 then g.n else(ft bs:Int))<=40
  .refine⟨if A then Zc (((ft cs:Nat):Int)<=200)else Zb, ?_,λN=>⟨V1,λF C B k=> ?_⟩⟩
   .refine du j ?_
    grind
   grind
  grind
end
section
end
section
open Go.IntKind renaming wrap->zH,i64->zI,u64->zJ
open Int renaming toNat_natCast->bB
open List renaming length_append->aB,length_singleton->aD
def Cg.rfl' (x:Int):Cg x x:=⟨0,V1⟩
def Cg.trans {z:Int}(h:Cg x y)(k:Cg y z):Cg x z:=by
 obtain⟨a,rfl⟩:=h;obtain⟨b,rfl⟩:=k;exact⟨a+b,V1⟩
def Cg.add {u v:Int}(h:Cg x y)(k:Cg u v):Cg (x+u)<|y+v:=by
 obtain⟨a,rfl⟩:=h;obtain⟨b,rfl⟩:=k;exact⟨a+b,V1⟩
theorem Cg.mul (h:Cg x y)(u:Int):Cg (x*u)<|y*u:=by
 obtain⟨a,rfl⟩:=h;exact⟨a*u,by grind⟩
def Cg.eq (h:Cg x y)(hx:yL x)(g:yL y):x=y:=by
 have⟨a,e⟩:=h;unfold yL at hx g;omega
def rN :Zd->Zd->Int
 |x::a,y::d=>x*y+rN a d
 |_,_=>0
def Hs (a:Zd):rN a []=0:=by cases a<;>rfl
def Dw (x:Int)(a:Zd)(k:Nat):rg (x::a) ((k+1:Nat):Int)=rg a (k:Int):=by
 rfl
theorem JS : ∀(a d:Zd) (k:Nat) (v:Int),k<ft a->rN (a.set k v) d=rN a d+(v-rg a (k:Int))*rg d (k:Int)
 |[],_,_,_,h=>by simp at h
 |x::a,[],k,v,h=>by rw[Hs,Hs];unfold rg;simp
 |x::a,y::d,0,v,_=>by
  show v*y+rN a d=x*y+rN a d+(v-x)*y
  grind
 |x::a,y::d,k+1,v,h=>by
  rw[Dw,Dw];show x*y+rN (a.set k v) d=x*y+rN a d+_;rw[JS a d k v (by simp at h;omega)];omega
def Dk : ∀(a d:Zd),rN a d=rN d a
 |[],d=>by rw[Hs];rfl
 |x::a,[]=>rfl
 |x::a,y::d=>by
  show x*y+rN a d=y*x+rN d a;rw[Dk a d,Int.mul_comm]
def ay9 (a d:Zd)(k:Nat)(v:Int)(h:k<ft d):rN a (d.set k v)=rN a d+rg a (k:Int)*(v-rg d (k:Int)):=by
 rw[Dk,JS d a k v h,Dk d a,Int.mul_comm]
def Nh : ∀(a a' d e:Zd),ft a=ft d->rN (a++a') (d++e)=rN a d+rN a' e
 |[],a',[],e,_=>by show _=0+_;rw[Int.zero_add];rfl
 |[],_,_::_,_,h=>by simp at h
 |_::_,_,[],_,h=>by simp at h
 |x::a,a',y::d,e,h=>by
  show x*y+rN (a++a') (d++e)=x*y+rN a d+_;rw[Nh a a' d e V8];omega
def tG : ∀(a:Zd) (n:Nat),rN a (List.replicate n 0)=0
 |[],_=>rfl
 |_::_,0=>rfl
 |x::a,n+1=>by
  show x*0+rN a (List.replicate n 0)=0;rw[tG a n];omega
def OI : ∀(a d:Zd),rN a d=rN (a.take<|ft d) d
 |[],_=>by rw[List.take_nil]
 |_::_,[]=>rfl
 |x::a,y::d=>by
  show x*y+rN a d=x*y+rN (a.take<|ft d) d;rw[<-OI a d]
def ay8 : ∀{a a':Zd} (d:Zd),ft a=ft a'->(∀i:Nat,i<ft a->Cg (rg a (i:Int)) (rg a' (i:Int)))->Cg (rN a d) (rN a' d)
 |[],[],d,_,_=> .rfl' _
 |[],_::_,_,h,_=>by simp at h
 |_::_,[],_,h,_=>by simp at h
 |x::a,g::a',[],_,_=> .rfl' _
 |x::a,g::a',y::d,h,k=>by
  have e:=k 0 V2
  have:=ay8 (a:=a) (a':=a') d V8 (λi hi=>by
   have:=k (i+1) V3
   rwa [Dw,Dw]at this)
  exact(Cg.mul e y).add this
def tn (o:bx)(x y dx e:Int):Int:=
 if o.1=1 then zH zJ (dx+e)else if o.1=2 then zH zJ (dx+zH zJ (0-e))else if o.1=3 then zH zJ (zH zJ (x*e)+zH zJ (dx*y))else if o.1=4 then zH zJ (0-dx)else if o.1=5 then 0 else dx
theorem bx6 (g:0<o.1/\o.1<7)(x y dx e:Int):Cg (tn o x y dx e)<|(par o x y).1*dx+(par o x y).2*e:=by
 have:o.1=1∨o.1=2∨o.1=3∨o.1=4∨o.1=5∨o.1=6:=by omega
 rcases this with h|h|h|h|h|h
 .unfold tn par;simp only[h,if_true];exact(Xu _).trans ⟨0,V1⟩
 .unfold tn par;simp[h];exact(Xu _).trans (((Cg.rfl' dx).add<|Xu<|-e).trans ⟨-e,V1⟩)
 .unfold tn par;simp[h];refine(Xu _).trans (((Xu _).add<|Xu _).trans ⟨0,by grind⟩)
 .unfold tn par;simp[h];exact(Xu _).trans ⟨-dx,V1⟩
 .unfold tn par;simp[h];exact .rfl' _
 unfold tn par;simp[h];exact .rfl' _
theorem aF9 (I:0<o.1/\o.1<7){R:Nat}(h:VC R o){D a:Zd}{t:Int}(ha:ft a=R)(hd:ft d=R)(J:D.set (fu o.2.1) t=r):
  Cg (rN (FN o D a t).2 d) (rN a<|d.set (fu o.2.1)<|tn o (rg r o.2.2.1) (rg r o.2.2.2.1) (rg d o.2.2.1)<|rg d o.2.2.2.1):=by
 have⟨e,g,p,E,F,H,V,W,Z⟩:=B6 h;have T:=bx6 I (rg r o.2.2.1) (rg r o.2.2.2.1) (rg d o.2.2.1)<|rg d o.2.2.2.1;unfold FN;simp only[J];revert T;rw[E,F,H];simp only[bB];generalize par o (rg r (g:Int)) (rg r (p:Int))=q;generalize tn o _ _ _ _=v;intro T;rw[ay9 a d e v V1];generalize j:(a.set e 0).set g _=A2;have l2:ft A2=ft a:=by rw[<-j];simp
 rw[JS A2 d p _ V1]
 have C2:Cg (rN A2 d)<|rN a d-rg a (e:Int)*rg d (e:Int)+q.1*rg a (e:Int)*rg d (g:Int):=by
  rw[<-j,JS _ d g _ V3,JS a d e 0 V1];generalize rg (a.set e 0) (g:Int)=z;have⟨u,B⟩:=Xu<|q.1*rg a (e:Int);have⟨A,C⟩:=Xu<|z+zH zJ (q.1*rg a (e:Int));rw[C,B];exact⟨(u+A)*rg d (g:Int),by grind⟩
 generalize rg A2 (p:Int)=z;have⟨u,B⟩:=Xu<|q.2*rg a (e:Int);have⟨A,C⟩:=Xu<|z+zH zJ (q.2*rg a (e:Int));have⟨K,N⟩:=C2;have⟨M,Q⟩:=T;rw[C,B,N,Q];exact⟨(u+A)*rg d (p:Int)+K-rg a (e:Int)*M,by grind⟩
def yS (o:bx)(s:Zd×Zd):Zd×Zd:=(s.1.set (fu o.2.1)<|app o (rg s.1 o.2.2.1)<|rg s.1 o.2.2.2.1,s.2.set (fu o.2.1)<|tn o (rg s.1 o.2.2.1) (rg s.1 o.2.2.2.1) (rg s.2 o.2.2.1)<|rg s.2 o.2.2.2.1)
def bk9 (l:List bx): ∀(r d t:Zd) (k:Nat),(pG yS l (r,d)).1=(pG iB l (r,t,k)).1:=by
 induction l with
 |nil=>intro r d t k;rfl
 |cons o l e=>intro r d t k;exact e _ _ _ _
def OV (l:List bx): ∀s:Zd×Zd,ft (pG yS l s).1=ft s.1/\ft (pG yS l s).2=ft s.2:=by
 induction l with
 |nil=>intro s;exact⟨rfl,rfl⟩
 |cons o l j=>
  intro s;have⟨e,g⟩:=j<|yS o s;exact⟨e.trans (by unfold yS;simp),g.trans (by unfold yS;simp)⟩
def bJ5 {dx e:Int}(hx:yL dx):yL<|tn o x y dx e:=by
 unfold tn
 repeat' split
 all_goals first|exact LV _|exact hx|(unfold yL;omega)
def aA1 (l:List bx): ∀s:Zd×Zd,ce s.2->ce (pG yS l s).2:=by
 induction l with
 |nil=>intro s h;exact h
 |cons o l e=>
  intro s h;exact e (yS o s)<|h.set (bJ5<|Kq h _) _
def Vo {R:Nat}: ∀(n:Nat) (l:List bx),ft l=n->∀(r g t a d:Zd),(∀o∈l,VC R o/\0<o.1/\o.1<7)->ft r=R->ft a=R->ft d=R->ft l<=ft g->(∀i,i<ft l->rg t (i:Int)=rg (pG iB l (r,g,0)).2.1 (i:Int))->
  Cg (rN (Fc (ri t) l ((pG iB l (r,g,0)).1,a,ft l)).2.1 d) (rN a (pG yS l (r,d)).2)
 |0,l,A,r,g,t,a,d,_,_,_,_,_,_=>by
  have:=dl.1 A;subst this;exact .rfl' _
 |n+1,l,A,r,g,t,a,d,J,K,H,I,V,ht=>by
  obtain⟨e,o,rfl⟩: ∃e o,l=e++[o]:=⟨l.take n,l[n]' V1,by
   rw[<-List.take_succ_eq_append_getElem V1,List.take_of_length_le V1]⟩
  rw[aB,aD]at A V;have B:ft e=n:=by omega
  have⟨E,F,u⟩:=OX e (r,g,0);have v:pG yS (e++[o]) (r,d)=yS o (pG yS e (r,d)):=by rw[Hz];rfl
  rw[Nf,v];have W:pG iB (e++[o]) (r,g,0)=iB o (pG iB e (r,g,0)):=by rw[Hz];rfl
  rw[W]at ht⊢;have⟨j,z⟩:=J o V2;have⟨kd,ka,kb,N,q2,q3,g1,g2,g3⟩:=B6 j;have E:ft (pG iB e (r,g,0)).1=R:=E.trans K;have F:ft (pG iB e (r,g,0)).2.1=ft g:=F;have u:(pG iB e (r,g,0)).2.2=ft e:=by rw[u];simp
  have C: ∀i,i<ft e->rg t (i:Int)=rg (pG iB e (r,g,0)).2.1 (i:Int):=λi hi=>by
   rw[ht i Zm];show rg ((pG iB e (r,g,0)).2.1.set (pG iB e (r,g,0)).2.2<|rg (pG iB e (r,g,0)).1 o.2.1) (i:Int)=_;exact RS V1
  have D:rg t ((ft e:Nat):Int)=rg (pG iB e (r,g,0)).1 (kd:Int):=by
   rw[ht (ft e) Zm];show rg ((pG iB e (r,g,0)).2.1.set (pG iB e (r,g,0)).2.2<|rg (pG iB e (r,g,0)).1 o.2.1) ((ft e:Nat):Int)=_;rw[u,N];exact Mv V1
  have M:(iB o<|pG iB e (r,g,0)).1.set (fu o.2.1) (rg t ((ft e:Nat):Int))=(pG iB e (r,g,0)).1:=by
   show((pG iB e (r,g,0)).1.set (fu o.2.1) _).set (fu o.2.1) _=_;rw[List.set_set,N,bB,D,aH5 V1]
  have p:Fc (ri t) [o] ((iB o<|pG iB e (r,g,0)).1,a,ft<|e++[o])=((pG iB e (r,g,0)).1,(FN o (iB o<|pG iB e (r,g,0)).1 a<|rg t ((ft e:Nat):Int)).2,ft e):=by
   rw[aB,aD];show((FN o (iB o<|pG iB e (r,g,0)).1 a<|rg t ((ft e+1-1:Nat):Int)).1,(FN o (iB o<|pG iB e (r,g,0)).1 a<|rg t ((ft e+1-1:Nat):Int)).2,ft e+1-1)=_;rw[Nat.add_sub_cancel];have:(FN o (iB o<|pG iB e (r,g,0)).1 a<|rg t ((ft e:Nat):Int)).1=(pG iB e (r,g,0)).1:=M;rw[this]
  rw[p];have Q:=(OV e (r,d)).2;have Z:=Vo n e B r g t (FN o (iB o<|pG iB e (r,g,0)).1 a<|rg t ((ft e:Nat):Int)).2 d (λx hx=>J x (by simp[hx])) K (((Kg o _ a _).2).trans H) I V1 C;refine Z.trans ?_;have P:=aF9 z j (a:=a) (d:=(pG yS e (r,d)).2) (t:=rg t ((ft e:Nat):Int)) H (Q.trans I) M;refine P.trans ?_;unfold yS;rw[<-bk9 e r d g 0];exact .rfl' _
end
section
open Int renaming add_zero->cD,toNat_natCast->cK,zero_add->cL
open List renaming replicate->aB,length_take->aD,range->bB,take_append_drop->bD,getD_eq_getElem?_getD->cM,append_assoc->cN,length_drop->cO,range_succ_eq_map->cP
open Nat renaming succ->cB
def KC (f:Fo)(r d:Zd):Zd:=(pG yS f.unroll (r,d)).2
section
variable {l:List bx} {R:Int} {f:Fo}
def RK (h:Prg R l f)(u:ft r<=fu R)(v:ft w<=fu R)(p:ft d=fu R):
  Cg (rN (Wk R f r w) d) (rN (fill R w)<|KC f (fill R r) d):=by
 have e:=h.ulen.1
 have D:=Vo (R:=fu R) f.n f.unroll e (fill R r) (aB f.n 0) (tO f (fill R r)<|aB f.n 0).2.1 (fill R w) d (λo g=>by
  have⟨z,j⟩:=wS f h.ok o g
  exact⟨(h.goodU o g).1,j⟩) (fA u) (fA v) p (by rw[List.length_replicate,e];omega) (λ_ _=>rfl)
 rw[e]at D;exact D
def KD (f:Fo)(r d:Zd):ft (KC f r d)=ft d:=(OV _ _).2
def aI5 (f:Fo)(r:Zd)(h:ce d):ce<|KC f r d:=aA1 _ _ h
end
def QI (R:Int)(a z:Zd):rN (fill R a) z=rN a (z.take<|ft a):=by
 unfold fill;by_cases h:ft a<=ft z
 .have e:z=z.take (ft a)++z.drop (ft a):=(bD _ _).symm
  conv=>lhs;rw[e]
  rw[Nh _ _ _ _ V9,Dk<|aB _ _,tG,cD]
 rw[List.take_of_length_le V1];have e:a=a.take (ft z)++a.drop (ft z):=(bD _ _).symm;rw[OI<|a++_,OI a,List.take_append_of_le_length V1]
def It (c:Cx)(dx dt:Zd):Nat->Zd
 |0=>dx
 |i+1=>(KC c.fl (fill c.R<|wH c (i:Int)<|iA c i)<|fill c.R<|It c dx dt i++(dt++[0])).take<|ft c.X
def Mp (c:Cx)(x dx dt:Zd):Int:=rg (KC c.fk (fill c.Q<|x++(c.T++[]))<|fill c.Q<|dx++(dt++[])) 0
section
variable {c:Cx} (h:c.Ok) (wT:ce c.T) (wX:ce c.X) {dx dt:Zd} (hx:ft dx=ft c.X) (ht:ft dt=ft c.T)
include h wT wX
theorem Bc {L:Nat}: ∀k,(ft (iE c L k).1=ft c.X/\ce (iE c L k).1)/\ft (iE c L k).2=ft c.T/\ce (iE c L k).2
 |0=>by
  have⟨⟨z,A⟩,v,u,C,D,B⟩:=h.lens;have⟨j,p⟩:=ny h wT wX L;have⟨e,g⟩:=GQ h wT j p;exact⟨⟨by show(ft<|(yl c<|iA c L).take<|ft c.X)=_;rw[aD,e];omega,g.take _⟩,by show(ft<|vq _ _ _)=_;rw[qz,cb],Xy _ _ _⟩
 |k+1=>by
  have⟨⟨z,A⟩,v,u,C,D,B⟩:=h.lens;have⟨⟨a1,a2⟩,a3,a4⟩:=Bc (L:=L) k;have⟨j,p⟩:=ny h wT wX<|L-(k+1);have⟨e,g⟩:=Cc h wT (t:=((L-(k+1):Nat):Int)) j p a1 a2;exact⟨⟨by show(ft<|(ru c _ _ _).take<|ft c.X)=_;rw[aD,e];omega,g.take _⟩,by show(ft<|vq _ _ _)=_;rw[qz,a3],Xy _ _ _⟩
omit h wT wX in
theorem UU {g a d:Zd}{x:Nat}(A:ft g=ft d)(F:x+ft d<=ft a):Cg (rN (vq x g a) d)<|rN g d+rN ((a.drop x).take<|ft d) d:=by
 have: ∀(d g a:Zd),ft g=ft d->ft a=ft d->rN ((bB<|ft d).map λ(i:Nat)=>rg g (i:Int)+rg a (i:Int)) d=rN g d+rN a d:=by
  intro d;induction d with
  |nil=>intro g a p z;rw[Hs,Hs,Hs];rfl
  |cons y d E=>
   intro g a p z;obtain⟨u,g,rfl⟩: ∃u j,g=u::j:=by cases g with|nil=>simp at p|cons u g=>exact⟨u,g,rfl⟩
   obtain⟨v,a,rfl⟩: ∃u j,a=u::j:=by cases a with|nil=>simp at z|cons u g=>exact⟨u,g,rfl⟩
   rw[List.length_cons,cP,List.map_cons,List.map_map]
   have e:((λ(i:Nat)=>rg (u::g) (i:Int)+rg (v::a) (i:Int))∘cB)=λ(i:Nat)=>rg g (i:Int)+rg a (i:Int):=by
    rfl
   rw[e];show(u+v)*y+rN _ d=u*y+rN g d+(v*y+rN a d);rw[E g a (by simpa using p) (by simpa using z)]
   grind
 have D:ft ((a.drop x).take<|ft d)=ft d:=by rw[aD,cO];omega
 rw[<-this d g _ A D];refine ay8 d (by rw[qz,List.length_map,List.length_range,A]) λi hi=> ?_
 rw[qz]at hi
 have B:rg (vq x g a) (i:Int)=IntKind.u64.wrap (rg g (i:Int)+rg a ((x+i:Nat):Int)):=by
  unfold vq;unfold rg
  simp_all
 have C:rg ((bB<|ft d).map λ(i:Nat)=>rg g (i:Int)+rg ((a.drop x).take<|ft d) (i:Int)) (i:Int)=rg g (i:Int)+rg a ((x+i:Nat):Int):=by
  conv=>lhs;unfold rg
  rw[cK,cM,List.getElem?_map,List.getElem?_range V1];show rg g (i:Int)+rg ((a.drop x).take<|ft d) (i:Int)=_
  congr 1
  unfold rg;rw[cK,cK,cM,cM,List.getElem?_take_of_lt V1,List.getElem?_drop]
 rw[B,C];exact Xu _
omit h wT wX in
theorem RI {R:Int}{p dx dt e:Zd}(C:ft p=fu R)(z:ft dx=ft c.X)(A:ft dt=ft c.T)(B:ft c.X+ft c.T<=fu R)(v: ∀y∈e,y=(0:Int)):
  rN p (fill R<|dx++(dt++e))=rN (p.take<|ft c.X) dx+rN ((p.drop<|ft c.X).take<|ft dt) dt:=by
 have u: ∃n,e=aB n 0:=⟨ft e,List.eq_replicate_iff.2 ⟨rfl,v⟩⟩
 obtain⟨n,rfl⟩:=u;unfold fill;generalize fu R-ft (dx++(dt++aB n (0:Int)))=m;have g:p=p.take (ft c.X)++((p.drop<|ft c.X).take (ft dt)++(p.drop<|ft c.X).drop (ft dt)):=by rw[bD,bD]
 have j:(dx++(dt++aB n (0:Int)))++aB m (0:Int)=dx++(dt++aB (n+m) 0):=by rw[cN,cN,List.replicate_append_replicate]
 rw[j]
 conv=>lhs;rw[g]
 rw[Nh _ _ _ _ V9,Nh _ _ _ _ (by rw[aD,cO];omega),tG,cD]
omit wT wX in
theorem Kx (hx:ft dx=ft c.X)(ht:ft dt=ft c.T): ∀i,ft (It c dx dt i)=ft c.X
 |0=>hx
 |i+1=>by
  have⟨⟨j,p⟩,g,e,v,z,u⟩:=h.lens;show(ft<|List.take _ _)=_;rw[aD,KD,fA (by simp[Kx hx ht i,ht];omega)];omega
include hx ht
theorem N3 {L:Nat}: ∀k,k<=L->Cg (rN (iE c L k).1 (It c dx dt<|L-k)+rN (iE c L k).2 dt) (Mp c (iA c L) (It c dx dt L) dt)
 |0,_=>by
  have⟨⟨J,K⟩,F,E,x1,x2,N⟩:=h.lens;have⟨p,B⟩:=ny h wT wX L;have⟨v,M⟩:=GQ h wT p B;have j:=Kx h hx ht L;have A:=UU (g:=zeros<|ft c.T) (a:=yl c<|iA c L) (d:=dt) (x:=ft c.X) (by rw[cb,ht]) V1;have u:ft (fill c.Q<|It c dx dt L++(dt++[]))=fu c.Q:=fA (by simp[j,ht];omega);have P:Cg (rN (yl c<|iA c L) _) _:=RK h.pk (r:=iA c L++(c.T++[])) (w:=[1]) (d:=fill c.Q<|It c dx dt L++(dt++[])) (by simp[p];omega) V3 u;rw[RI v j ht V1 V2]at P;have H:fill c.Q [1]=1::aB (fu c.Q-1) 0:=rfl
  have e:rN (fill c.Q [1]) (KC c.fk (fill c.Q<|iA c L++(c.T++[]))<|fill c.Q<|It c dx dt L++(dt++[]))=Mp c (iA c L) (It c dx dt L) dt:=by
   unfold Mp;rw[H];have C:=(KD c.fk (fill c.Q<|iA c L++(c.T++[]))<|fill c.Q<|It c dx dt L++(dt++[])).trans u;generalize KC c.fk _ _=z at C⊢;cases z with
   |nil=>simp at C;omega
   |cons y z=>
    show 1*y+rN (aB _ 0) z=y;rw[Dk,tG];omega
  rw[e]at P;have z0:rN (zeros<|ft c.T) dt=0:=by rw[Dk];exact tG _ _
  rw[z0,cL]at A;exact((Cg.rfl' _).add A).trans P
 |k+1,hk=>by
  have⟨⟨J,K⟩,F,E,x1,x2,N⟩:=h.lens;have I:=N3 (L:=L) k V1;have⟨⟨a1,a2⟩,a3,a4⟩:=Bc h wT wX (L:=L) k;have⟨p,B⟩:=ny h wT wX<|L-(k+1);have⟨v,M⟩:=Cc h wT (t:=((L-(k+1):Nat):Int)) p B a1 a2;have j:=Kx h hx ht<|L-(k+1);have A:=UU (g:=(iE c L k).2) (a:=ru c ((L-(k+1):Nat):Int) (iA c<|L-(k+1)) (iE c L k).1) (d:=dt) (x:=ft c.X) (by rw[a3,ht]) V1;have u:ft (fill c.R<|It c dx dt (L-(k+1))++(dt++[0]))=fu c.R:=fA (by simp[j,ht];omega);have P:Cg (rN (ru c ((L-(k+1):Nat):Int) (iA c<|L-(k+1)) (iE c L k).1) _) _:=RK h.pl (r:=wH c ((L-(k+1):Nat):Int)<|iA c<|L-(k+1)) (w:=(iE c L k).1) (d:=fill c.R<|It c dx dt (L-(k+1))++(dt++[0])) (by rw[vw _ p];omega) V1 u;rw[RI v j ht V1 V2]at P;have D:L-k=L-(k+1)+1:=by omega
  have e:rN (fill c.R (iE c L k).1) (KC c.fl (fill c.R<|wH c ((L-(k+1):Nat):Int)<|iA c<|L-(k+1))<|fill c.R<|It c dx dt (L-(k+1))++(dt++[0]))=rN (iE c L k).1 (It c dx dt<|L-k):=by
   rw[D];show _=rN _ (List.take _ _);rw[QI,a1]
  rw[e]at P;show Cg (rN ((ru c _ _ _).take<|ft c.X) (It c dx dt<|L-(k+1))+rN (vq _ _ _) dt) _;have⟨V,w1⟩:=A;have⟨W,w2⟩:=P;have⟨Z,w3⟩:=I;exact⟨V+W+Z,V1⟩
end
def one1 (n i:Nat):Zd:=(bB n).map λk=>if k=i then 1 else 0
def Pn (n i:Nat):ft (one1 n i)=n:=by unfold one1;simp
theorem OH : ∀(n:Nat) (a:Zd) (i:Nat),ft a=n->i<n->rN a (one1 n i)=rg a (i:Int)
 |0,_,_,_,h=>by omega
 |n+1,[],_,h,_=>by simp at h
 |n+1,x::a,i,h,hi=>by
  have h:ft a=n:=by simpa using h
  unfold one1;rw[cP,List.map_cons,List.map_map]
  have z: ∀(n:Nat) (a:Zd),rN a ((bB n).map<|(λk=>if k=0 then(1:Int)else 0)∘cB)=0:=λn a=>by
   rw[show((bB n).map<|(λk=>if k=0 then(1:Int)else 0)∘cB)=aB n 0 from by
    rw[List.eq_replicate_iff]
    exact⟨V2,λy e=>by obtain⟨k,_,rfl⟩:=List.mem_map.1 e;simp⟩,tG]
  cases i with
  |zero=>
   show x*1+rN a _=x;rw[z];omega
  |succ i=>
   rw[Dw];show x*(if(0:Nat)=i+1 then 1 else 0)+rN a _=_;rw[Zh,<-OH n a i h V1]
   have:((λk=>if k=i+1 then(1:Int)else 0)∘cB)=λk=>if k=i then 1 else 0:=by
    grind
   rw[this];show x*0+_=_;rw[Int.mul_zero,cL];rfl
def ce.one1 (n i:Nat):ce<|one1 n i:=λy e=>by
 obtain⟨k,_,rfl⟩:=List.mem_map.1 e;unfold yL;split<;>omega
def ce.zeros (n:Nat):ce<|zeros n:=ce.rep n
section
variable {c:Cx} (h:c.Ok) (wT:ce c.T) (wX:ce c.X)
def W3 {dx dt:Zd}(e:ce dx)(w2:ce dt): ∀i,ce (It c dx dt i)
 |0=>e
 |i+1=>(aI5 _ _ ((W3 e w2 i).app<|w2.app (λy g=>by rw[dy.1 g];unfold yL;omega)).fill).take _
def ad0 {x dx dt:Zd}(g:ce dx)(w2:ce dt):yL<|Mp c x dx dt:=Kq (aI5 _ _ (g.app (w2.app λy e=>by cases e)).fill) _
include h wT wX
theorem bl4 (hi:i<ft c.X):rg (iE c L L).1 (i:Int)=Mp c (iA c L) (It c (one1 (ft c.X) i) (Go.V.zeros<|ft c.T) L) (Go.V.zeros<|ft c.T):=by
 have⟨⟨a1,a2⟩,a3,a4⟩:=Bc h wT wX (L:=L) L;have A:=N3 h wT wX (dx:=one1 (ft c.X) i) (dt:=Go.V.zeros<|ft c.T) (Pn _ _) (cb _) (L:=L) L<|Nat.le_refl _;rw[Nat.sub_self,show rN (iE c L L).2 (Go.V.zeros<|ft c.T)=0 from tG _ _,cD,show It c (one1 (ft c.X) i) (Go.V.zeros<|ft c.T) 0=one1 (ft c.X) i from rfl,OH _ _ _ a1 hi]at A;exact A.eq (Kq a2 _)<|ad0 (W3 (.one1 _ _) (.zeros _) _)<|.zeros _
theorem bl3 {j:Nat}(e:j<ft c.T):rg (iE c L L).2 (j:Int)=Mp c (iA c L) (It c (Go.V.zeros<|ft c.X) (one1 (ft c.T) j) L) (one1 (ft c.T) j):=by
 have⟨⟨a1,a2⟩,a3,a4⟩:=Bc h wT wX (L:=L) L;have A:=N3 h wT wX (dx:=Go.V.zeros<|ft c.X) (dt:=one1 (ft c.T) j) (cb _) (Pn _ _) (L:=L) L<|Nat.le_refl _;rw[Nat.sub_self,show It c (Go.V.zeros<|ft c.X) (one1 (ft c.T) j) 0=Go.V.zeros (ft c.X) from rfl,show rN (iE c L L).1 (Go.V.zeros<|ft c.X)=0 from tG _ _,cL,OH _ _ _ a3 e]at A;exact A.eq (Kq a4 _)<|ad0 (W3 (.zeros _) (.one1 _ _) _)<|.one1 _ _
end
end
section
open Go.IntKind renaming wrap->zH,i64->zI,u64->zJ
open List renaming length_take->aB,getElem_mem->aD,take_succ_eq_append_getElem->bB
def Nx (h:k<ft r)(e:ft d=ft r):(r.zip d)[k]?=O (rg r (k:Int),rg d (k:Int)):=by
 rw[List.getElem?_zip_eq_some];exact⟨ia h,ia V1⟩
def ag7 (r d:Zd)(k:Nat)(v w:Int):(r.zip d).set k (v,w)=(r.set k v).zip (d.set k w):=by
 induction r generalizing d k with
 |nil=>simp
 |cons x r e=>
  cases d with
  |nil=>cases k<;>simp
  |cons y d=>
   cases k with
   |zero=>rfl
   |succ k=>simp[e]
def xA (e:ft d=ft r):ft (r.zip d)=ft r:=by rw[List.length_zip,e,Nat.min_self]
def Pr {c d:Int}(e:yL a)(g:yL b)(j:yL c)(p:yL d):ui a b c d=O (zH zJ<|a+c,zH zJ<|b+d):=by
 unfold ui;rw[IV e j,IV g p];rfl
def RP (e:yL a)(g:yL b):xI a b=O (zH zJ<|-a,zH zJ<|-b):=by
 unfold xI;rw[RO e,RO g];rfl
def YB (u:0<o.1/\o.1<7){dx j:Int}(hx:yL x)(e:yL dx)(g:yL y)(p:yL j):
  zQ o.1 o.2.1 o.2.2.1 o.2.2.2.1 o.2.2.2.2 x dx y j=O (app o x y,tn o x y dx j):=by
 have:o.1=1∨o.1=2∨o.1=3∨o.1=4∨o.1=5∨o.1=6:=by omega
 unfold zQ app tn Cp;rcases this with h|h|h|h|h|h<;>simp only[h]<;>simp
 .rw[Pr hx e g p];rfl
 .rw[RP g p];simp only[zG];rw[Pr hx e (LV _) (LV _)]
  have:zH zJ (x+zH zJ (-y))=zH zJ (x-y):=by
   rw[wU,wU,wU];omega
  rw[this];rfl
 .rw[GS hx p,GS e g,GS hx g];simp only[zG];rw[IV (LV _) (LV _)];rfl
 .rw[RP hx e];rfl
def aA0 (l:List bx): ∀(r d:Zd) (n:Nat),(pG yS l (r,d)).1=(pG M6 l (r,n)).1:=by
 induction l with
 |nil=>intro r d n;rfl
 |cons o l e=>intro r d n;exact e _ _ _
def ar2 {l:List bx}(hi:i<ft l)(s:Zd×Zd):pG yS (l.take<|i+1) s=yS l[i] (pG yS (l.take i) s):=by
 rw[bB hi,Hz];rfl
def Rk {R:Int}(e:ft r<=fu R)(hi:i<ft r):(fill R<|r.take i).set i r[i]=fill R (r.take<|i+1):=by
 unfold fill;rw[List.set_append_right _ _ Z4,aB,Nat.min_eq_left V1,Nat.sub_self,bB hi,List.append_assoc]
 congr 1
 rw[List.length_append,aB,Nat.min_eq_left V1,List.length_singleton,show fu R-i=fu R-(i+1)+1 by omega,List.replicate_succ];rfl
section
variable {l:List bx} {R:Int} {f:Fo}
theorem RQ (h:Prg R l f)(V:l.length<=1500)(z:r.length<=R.toNat)(e:d.length=r.length)(wr:ce r)(wd:ce d):
  xJ R l (r.zip d)=O (0,(EU f (fill R r)).zip (KC f (fill R r) (fill R d))):=by
 have hR:=h.R1;obtain⟨hu,hn⟩:=h.ulen;have v:=h.goodU;have Z:=xA e;unfold xJ;rw[TV h V];simp only[zG];rw[zA V2,zD,Ze,zD,zB (show 0<=R by omega),zB (show R<=R by omega),zB (show(16:Int)*R<=140737488355328 by omega)];show gd Za _=_;rw[bp]
 have k0:am (qf (r.zip d)) cj (0,List.replicate R.toNat ((0,0):Int×Int))=O ((fill R r).zip (fill R d)):=by
  have E:List.replicate R.toNat ((0,0):Int×Int)=(fill R (r.take 0)).zip (fill R (d.take 0)):=by
   rw[List.take_zero,List.take_zero];unfold fill;simp
  rw[E];refine bz (f:=qf (r.zip d)) (n:=r.length) (λi=>(fill R (r.take i)).zip (fill R (d.take i))) V1 (λi hi=> ?_) ?_
  .unfold qf
   have Q:((fill R (r.take i)).zip (fill R (d.take i))).length=R.toNat:=by
    have g:(fill R (r.take i)).length=R.toNat:=fA Z4;rw[xA (by rw[g,fA Z4]),g]
   rw[Zf,zC,bq V1];simp only[zG];rw[Q,bl V1];simp only[zG];rw[List.getElem?_eq_getElem V1];simp only[zG];rw[Zi,List.getElem_zip,ag7,Rk z hi,Rk V1 V1];rfl
  .unfold qf
   grind
 refine du k0 ?_;have g:(fill R r).length=R.toNat:=fA z;have l2:(fill R d).length=R.toNat:=fA V1
 have k1:am (qg (f.unroll,0)) cj (0,(fill R r).zip (fill R d))=O ((EU f (fill R r)).zip (KC f (fill R r) (fill R d))):=by
  refine bz (f:=qg (f.unroll,0)) (n:=f.unroll.length) (λi=>(pG yS (f.unroll.take i) (fill R r,fill R d)).1.zip (pG yS (f.unroll.take i) (fill R r,fill R d)).2) V1 (λi hi=> ?_) ?_
  .rw[ar2 hi];obtain⟨u,A⟩:=OV (f.unroll.take i) (fill R r,fill R d)
   have B:ce (pG yS (f.unroll.take i) (fill R r,fill R d)).1:=by
    rw[aA0 _ _ _ 0];exact aA2 _ _ wr.fill λo p=>(v o (List.mem_of_mem_take p)).2
   have C:ce (pG yS (f.unroll.take i) (fill R r,fill R d)).2:=aA1 _ _ wd.fill;generalize pG yS (f.unroll.take i) (fill R r,fill R d)=s at*;have u:s.1.length=R.toNat:=u.trans g;have A:s.2.length=R.toNat:=A.trans l2;have p:=v _ (aD hi);have N:=(wS f h.ok _ (aD hi)).2;have j:=p.1;unfold qg;simp only;rw[Zf,zC,bq hi];generalize f.unroll[i]=o at*;obtain⟨kd,ka,kb,F,H,I,J,K,M⟩:=B6 j;simp only[zG];have W:(s.1.zip s.2).length=R.toNat:=by rw[xA V1,u]
   rw[W];have D:=YB N (Kq B o.2.2.1) (Kq C o.2.2.1) (Kq B o.2.2.2.1) (Kq C o.2.2.2.1);unfold yS;rw[H]at D⊢;rw[I]at D⊢;rw[bl K];simp only[zG];rw[Nx V1 V1];simp only[zG];rw[bl M];simp only[zG];rw[Nx V1 V1];simp only[zG];rw[D];simp only[zG];rw[F,bl J];simp only[zG];rw[Nx V1 V1];simp only[zG];rw[Zi,ag7];rfl
  .unfold qg;simp only;rw[Ze,zD,List.take_length,aA0 _ _ _ 0];rfl
 refine du k1 rfl
end
end
section
open List renaming length_append->aB,length_take->aD,getElem_append_right->bB,getElem_zip->bD,take_of_length_le->cB,take_succ_eq_append_getElem->cD,append_nil->cK,getElem?_eq_getElem->cL,append_assoc->cN,eq_replicate_iff->cO,getElem_append_left->cP,getElem_take->cQ,take_length->cR
open Nat renaming add_sub_cancel_left->cM
theorem ae2 {n m:Nat}(h:k<m)(p:m<=n):(one1 n k).take m=one1 m k/\(one1 n k).drop m=zeros (n-m):=by
 unfold one1;refine⟨by rw[<-List.map_take,List.take_range,Nat.min_eq_left p], ?_⟩;unfold zeros;rw[cO];refine⟨V2,λy e=> ?_⟩;rw[<-List.map_drop]at e;obtain⟨j,g,rfl⟩:=List.mem_map.1 e;obtain⟨q,u,rfl⟩:=List.mem_iff_getElem.1 g
 grind
theorem ae1 {n m:Nat}(h:m<=k)(p:m<=n):(one1 n k).take m=zeros m/\(one1 n k).drop m=one1 (n-m) (k-m):=by
 unfold one1;constructor
 .unfold zeros;rw[cO];refine⟨by simp;omega,λy e=> ?_⟩;rw[<-List.map_take]at e
  grind
 refine List.ext_getElem V2 λi g j=> ?_
 grind
theorem ap7 {s u v xs ts dt:Zd}(e:ft s=ft xs)(z:ft d=ft xs)(ht:ft dt=ft ts)(hx:ft xs<=64)(E:ft ts<=64)(J:ft xs<=ft u)(F:ft v=ft u):
  am (mS xs (xs++ts) ((i:Int),(s++ts).zip<|d++dt) (0,u.zip v)) cj (0,[])=O ((u.take (ft xs)++ts).zip<|v.take (ft xs)++dt):=by
 have p:ft (u.take<|ft xs)=ft xs:=by rw[aD];omega
 have B:ft (v.take<|ft xs)=ft xs:=by rw[aD];omega
 have A:ft (xs++ts)=ft xs+ft ts:=aB;have H:ft ((s++ts).zip<|d++dt)=ft (xs++ts):=by rw[xA (by simp[e,z,ht]),aB,e,A]
 have I:ft ((u.take (ft xs)++ts).zip<|v.take (ft xs)++dt)=ft (xs++ts):=by rw[xA (by rw[aB,aB,p,B,ht]),aB,p,A]
 have g:ft (u.zip v)=ft u:=xA F;refine bz (f:=mS xs (xs++ts) ((i:Int),(s++ts).zip<|d++dt) (0,u.zip v)) (n:=ft<|xs++ts) (λj=>((u.take (ft xs)++ts).zip<|v.take (ft xs)++dt).take j) V1 (λj C=> ?_) ?_
 .unfold mS;simp only;rw[Zf,zC,cD V1,bD];by_cases D:j<ft xs
  .rw[Zf,zC,g,bl V1,zG,cL V1,zG,au V9 V1,Zi,bD,cP V1,cP V1,cQ,cQ];rfl
  .rw[Ze,zD,H,bl C,zG,cL V1,zG,au V9 V1,Zi,bD,bB V1,bB V1,bB V1,bB V1];simp only[p,B,e,z];rfl
 .unfold mS
  grind
section
variable {c:Cx} (h:c.Ok) (wT:ce c.T) (wX:ce c.X) (gl:ft c.l<=1500) (gk:ft c.k<=1500)
include h gl gk
theorem RR (j:L<=400):xK c.R c.l c.Q c.k (ft c.X:Int) c.T (L:Int)=O 0:=by
 have⟨e,g⟩:=HB h.hc;unfold xK FZ;rw[Ps h.hl h.hk gl gk,e,zG,zA V2,zD,IX,g]
 grind
include wT wX
theorem Ws (W:L<=400)(hk:k<c.X.length+c.T.length):xf c.R c.l c.Q c.k c.X c.T (L:Int) (k:Int)=
  O (lossV c (iA c L),Mp c (iA c L) (It c ((one1 (c.X.length+c.T.length) k).take c.X.length) ((one1 (c.X.length+c.T.length) k).drop c.X.length) L) ((one1 (c.X.length+c.T.length) k).drop c.X.length),0):=by
 obtain⟨⟨l1,l2⟩,hR,hQ,x1,x2,t2⟩:=h.lens;have ol:=Pn (c.X.length+c.T.length) k;have J:ce (one1 (c.X.length+c.T.length) k):= .one1 _ _;unfold xf;rw[RR h gl gk W];simp only[zG];rw[zA V2,zD,Ze,zD,Zi,Ze,zD,TW V1 V1 V2];simp only[zG,cK];have Z:(c.X++c.T).length=c.X.length+c.T.length:=aB
 have k0:am (mR (k:Int) (c.X++c.T)) cj (0,[])=O ((c.X++c.T).zip (one1 (c.X.length+c.T.length) k)):=by
  refine bz (f:=mR (k:Int) (c.X++c.T)) (n:=(c.X++c.T).length) (λi=>((c.X++c.T).zip (one1 (c.X.length+c.T.length) k)).take i) V1 (λi hi=> ?_) ?_
  .unfold mR;rw[Zf,zC]
   have e:(cond (Zc ((i:Int)=(k:Int))) (O 1) (O 0):Option Int)=O (if i=k then 1 else 0):=by
    grind
   rw[e];simp only[zG];rw[bl hi];simp only[zG];rw[cL hi];simp only[zG];have C:((c.X++c.T).zip (one1 (c.X.length+c.T.length) k)).length=(c.X++c.T).length:=xA V1;rw[au V9 V1,Zi,cD V1,bD];have:(one1 (c.X.length+c.T.length) k)[i]' V1=if i=k then 1 else 0:=by unfold one1;simp
   rw[this];rfl
  .unfold mR;rw[Ze,zD,<-xA (show(one1 (c.X.length+c.T.length) k).length=(c.X++c.T).length by omega),cR]
 refine du k0 ?_;obtain⟨dx,u⟩: ∃dx,dx=(one1 (c.X.length+c.T.length) k).take c.X.length:=⟨_,rfl⟩
 obtain⟨dt,p⟩: ∃dt,dt=(one1 (c.X.length+c.T.length) k).drop c.X.length:=⟨_,rfl⟩
 have A:dx.length=c.X.length:=by rw[u,aD];omega
 have g:dt.length=c.T.length:=by rw[p,List.length_drop];omega
 have B:ce dx:=by rw[u];exact J.take _
 have v:ce dt:=by rw[p];exact J.drop _
 have N:one1 (c.X.length+c.T.length) k=dx++dt:=by rw[u,p,List.take_append_drop]
 rw[<-u,<-p,N]
 have kk:am (mT c.R c.l c.X (L:Int) (c.X++c.T)) cj (0,(c.X++c.T).zip (dx++dt))=O ((iA c L++c.T).zip (It c dx dt L++dt)):=by
  refine bz (f:=mT c.R c.l c.X (L:Int) (c.X++c.T)) (n:=L) (λi=>(iA c i++c.T).zip (It c dx dt i++dt)) V1 (λi hi=> ?_) ?_
  .obtain⟨j,H⟩:=ny h wT wX i;obtain⟨n1,n2⟩:=ny h wT wX (i+1);have z:=Kx h A g i;have D:=W3 (c:=c) B v i;have C:((iA c i++c.T).zip (It c dx dt i++dt)).length=(c.X++c.T).length:=by rw[xA (by simp[j,z,g]),aB,j,Z]
   unfold mT;simp only;rw[Zf,zC,zB trivial,bp,Int.toNat_natCast,Zl,bp,<-C,cR,au V1 V1]
   have V:(iA c i++c.T).zip (It c dx dt i++dt)++[(IntKind.u64.wrap (i:Int),0)]=(wH c (i:Int) (iA c i)).zip (It c dx dt i++(dt++[0])):=by
    unfold wH;rw[<-cN,<-cN];rw[List.zip_append (l₁:=iA c i++c.T) (l₂:=It c dx dt i++dt) (r₁:=[IntKind.u64.wrap (i:Int)]) (r₂:=[0]) (by rw[aB,aB,j,z,g])];rfl
   rw[V,RQ h.pl gl (by rw[vw _ j];omega) (by rw[vw _ j];simp[z,g];omega) (Oi H wT) (D.app (v.app λy hy=>by rw[dy.1 hy];unfold yL;omega))];simp only[zG];have E:(fill c.R (wH c (i:Int) (iA c i))).length=c.R.toNat:=fA (by rw[vw _ j];omega);have F:(EU c.fl (fill c.R (wH c (i:Int) (iA c i)))).length=c.R.toNat:=(OW _ _).trans E;have K:(KC c.fl (fill c.R (wH c (i:Int) (iA c i))) (fill c.R (It c dx dt i++(dt++[0])))).length=c.R.toNat:=by rw[KD,fA (by simp[z,g];omega)]
   have en:iA c (i+1)=(EU c.fl (fill c.R (wH c (i:Int) (iA c i)))).take c.X.length:=Kw i;have M:It c dx dt (i+1)=(KC c.fl (fill c.R (wH c (i:Int) (iA c i))) (fill c.R (It c dx dt i++(dt++[0])))).take c.X.length:=rfl;have I:=ap7 (i:=i) (s:=iA c i) (d:=It c dx dt i) (xs:=c.X) (ts:=c.T) (dt:=dt) j z g x2 t2 (show c.X.length<=(EU c.fl (fill c.R (wH c (i:Int) (iA c i)))).length by omega) (K.trans F.symm);rw[<-en,<-M]at I;refine du I ?_;rw[Zi];rfl
  .unfold mT
   grind
 refine du kk ?_;obtain⟨j,H⟩:=ny h wT wX L;have z:=Kx h A g L;have D:=W3 (c:=c) B v L;rw[RQ h.pk gk (by simp[j];omega) (by simp[j,z,g]) (H.app wT) (D.app v)];simp only[zG];have E:(fill c.Q (iA c L++c.T)).length=c.Q.toNat:=fA (by simp[j];omega);have F:(EU c.fk (fill c.Q (iA c L++c.T))).length=c.Q.toNat:=(OW _ _).trans E;have K:(KC c.fk (fill c.Q (iA c L++c.T)) (fill c.Q (It c dx dt L++dt))).length=c.Q.toNat:=by rw[KD,fA (by simp[z,g];omega)]
 have C:((EU c.fk (fill c.Q (iA c L++c.T))).zip (KC c.fk (fill c.Q (iA c L++c.T)) (fill c.Q (It c dx dt L++dt)))).length=c.Q.toNat:=by rw[xA V1,F]
 rw[C,show ix 0 c.Q.toNat=O 0 from bl (k:=0) V1];simp only[zG];rw[Nx V1 V1];simp only[zG];unfold lossV Mp;rw[cK,cK];rfl
theorem Pt (g:L<=400):qQ c.R c.l c.Q c.k c.X c.T (L:Int)=O (lossV c<|iA c L,0,(iE c L L).1,(iE c L L).2):=by
 have⟨⟨v,z⟩,u,p,B,C,A⟩:=h.lens;have⟨⟨a1,a2⟩,a3,a4⟩:=Bc h wT wX (L:=L) L;unfold qQ;rw[RR h gl gk g,zG,zA V2,zD];have e:=bz (f:=mF c.R c.l c.Q c.k c.X c.T (L:Int)) (n:=ft c.X+ft c.T) (λi=>((if i=0 then 0 else lossV c<|iA c L),(iE c L L).1.take i,(iE c L L).2.take<|i-ft c.X)) (c:=(lossV c<|iA c L,(iE c L L).1,(iE c L L).2)) V1 (λi hi=> ?_) ?_
 .have j:((if(0:Nat)=0 then(0:Int)else lossV c<|iA c L),(iE c L L).1.take 0,(iE c L L).2.take<|0-ft c.X)=(0,[],[]):=by
   grind
  rw[j]at e;refine du e rfl
 .unfold mF;rw[ad (n:=(ft c.X:Int)+(ft c.T:Int)) V1,Zf,zC,Ws h wT wX gl gk g hi,zG,ad (n:=(i:Int)+1) V1,zF (show¬i+1=0 by omega)];by_cases hx:i<ft c.X
  .rw[Zf,zC,au V9 V1,(ae2 (n:=ft c.X+ft c.T) hx V1).1,(ae2 (n:=ft c.X+ft c.T) hx V1).2,cM,<-bl4 h wT wX hx,cD V1]
   have:rg (iE c L L).1 (i:Int)=(iE c L L).1[i]' V1:=by
    have:=ia (r:=(iE c L L).1) (k:=i) V1
    grind
   grind
  rw[Ze,zD,au V9 V1,(ae1 (n:=ft c.X+ft c.T) (show ft c.X<=i by omega) V1).1,(ae1 (n:=ft c.X+ft c.T) (show ft c.X<=i by omega) V1).2,cM,<-bl3 h wT wX (show i-ft c.X<(ft c.T) by omega),show i+1-ft c.X=(i-ft c.X)+1 by omega,cD (l:=(iE c L L).2) V1]
  have:rg (iE c L L).2 ((i-ft c.X:Nat):Int)=(iE c L L).2[i-ft c.X]' V1:=by
   have:=ia (r:=(iE c L L).2) (k:=i-ft c.X) V1
   grind
  rw[this,cB (l:=(iE c L L).1) V1,cB (l:=(iE c L L).1) V1];rfl
 unfold mF;rw[ad (n:=(ft c.X:Int)+(ft c.T:Int)) V1,Ze,zD,Zh,cM,cB V1,cB V1]
end
end
section
open List renaming replicate->aB
def ap8 {l:Int}{n:Nat}(h:0<=l/\l<65536)(g:n<=1048576):BU l n=O (l,-1,0,aB n<|-1):=by
 unfold BU;rw[Ze,zD,Ze,zD,Ze,zD,Ze,zD]
 have e:=bz (f:=uu n) (n:=n) (λi=>(l,aB i<|-1)) (c:=(l,aB n<|-1)) V1
  (λi hi=>by
   unfold uu;dsimp only;rw[Zf,zC,au ZJ V1,Zi,List.replicate_succ']
   rfl)
  (by
   unfold uu;dsimp only
   rw[Ze,zD])
 rw[List.replicate_zero]at e;rw[e];rfl
def vR (t:Zd):Nat:=t.countP λx=>Zc<|0<=x
def Mt (ht:ft t<=1048576):rX a b t=O (vR t:Int):=by
 unfold rX
 have e:=bz (f:=qW t) (n:=ft t) (λi=>(vR (t.take i):Int)) (c:=(vR t:Int)) V1
  (λi hi=>by
   unfold qW;dsimp only;rw[Zf,zC,bq hi,zG]
   have g:vR (t.take<|i+1)=vR (t.take i)+if 0<=t[i]then 1 else 0:=by
    unfold vR;rw[List.take_succ_eq_append_getElem hi,List.countP_append];simp
   have j:vR (t.take i)<=i:=by
    refine Nat.le_trans List.countP_le_length ?_;simp;omega
   rw[Zi,g];by_cases c:0<=t[i]
   .rw[zB c,zC,zE c,Zi];rfl
   rw[zA c,zD,zF c]
   rfl)
  (by
   unfold qW;dsimp only
   rw[Ze,zD,List.take_length])
 rw[show((vR (List.take 0 t):Nat):Int)=0 by simp[vR]]at e;rw[e];rfl
end
end Go.V
