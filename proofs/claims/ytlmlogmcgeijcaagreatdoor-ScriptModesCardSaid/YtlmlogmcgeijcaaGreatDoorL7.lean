/- A part of the proof. No condition. -/
import Derived.Test.YtlmlogmcgeijcaaGreatDoorL6
set_option linter.unusedVariables false
set_option linter.unusedSimpArgs false
set_option linter.unusedSectionVars false
namespace Go.V
open Go.Ab
open Option renaming some->O,none->Y
open Bool renaming true->Za,false->Zb
open Decidable renaming decide->Zc
variable {cs rest t w:Zd}{s:Dy}{bs:List Bool}{en q:Bool}{f i l:Nat}{es:List Ev}{Q x:Int}
set_option maxRecDepth 100000
section
open Go.IntKind renaming wrap -> zH, i64 -> zI, u64 -> zJ
open List renaming length_drop -> aB, mem_of_mem_drop -> aD, take_length -> bB, getElem?_cons_succ -> bD, getElem?_cons_zero -> cB, getElem_cons_drop -> cD, getElem_mem -> cK, length_append -> cL, length_take -> cM, mem_of_mem_take -> cN
section
variable {l:List bx} {m:Zd}
end
section
variable {l:List bx} {m:Zd}
end
section
variable {a0:Int} {a1 a2:Zd} {a3:Int} {a4:List bx} {a5:Int} {a6:List bx} {a7 a8:Int}
end
theorem XE {f:(Int×Zd)->Option ((Int×Zd)⊕Zd)}{l:Zd}(s:Zd)(e:l.length<1000000)(d: ∀i,(hi:i<l.length)->f ((i:Int),s++l.take i)=O (.inl (((i+1:Nat):Int),s++l.take i++[l[i]])))(b:f ((l.length:Int),s++l)=O (.inr (s++l))):aq f di (0,s)=O (s++l):=by
 have a:aq f di (0,s++l.take 0)=O (s++l):=by
  refine fj (n:=l.length) (λi=>s++l.take i) (by omega) (λi hi=> ?_) ?_
  .rw[d i hi,List.take_succ_eq_append_getElem hi,List.append_assoc]
  .rw[bB,b]
 rwa [List.take_zero,List.append_nil]at a
section
variable {a0:Int} {a1 a2:Zd} {a3:Int} {a4:List bx} {a5:Int} {a6:List bx} {a7 a8:Int}
end
section
variable (a0:Int) (a1 a2:Zd) (a3:Int) (a4:List bx) (a5:Int) (a6:List bx) (a7 a8:Int)
end
def vG :Bool->Zd->Option (Int×Zd)
 |false,t=>O (0,t)
 |true,[]=>Y
 |true,x::t=>O (x,t)
def B1 (b:Bool):Nat:=if b then 1 else 0
def mm (x:Int):Int:=min x 2147483647
def R7 :Zd->Int×Int×Int×Int×Int×Int×Int
 |[]=>(0,0,0,0,0,0,4)
 |k::t=>if 7<k then(0,0,0,0,0,0,6)else
  match vG (az k).1 t with
  |none=>(0,0,0,0,0,0,4)
  |some (d,e)=>match vG (az k).2.1 e with
   |none=>(0,0,0,0,0,0,4)
   |some (a,g)=>match vG (az k).2.2.1 g with
    |none=>(0,0,0,0,0,0,4)
    |some (b,j)=>match vG (az k).2.2.2 j with
     |none=>(0,0,0,0,0,0,4)
     |some (v,o)=>(k,mm d,mm a,mm b,v,((1+B1 (az k).1+B1 (az k).2.1+B1 (az k).2.2.1+B1 (az k).2.2.2:Nat):Int),0)
abbrev iL (w:Zd):Prop:= ∀x∈w,0<=x/\x<=18446744073709551615
theorem M6 {n:Nat}(h:w.drop n=x::t):n<w.length/\rd w (n:Int)=O x/\w.drop (n+1)=t/\x∈w:=by
 have a:n<w.length:=by
  rcases Nat.lt_or_ge n w.length with h1|h1
  .exact h1
  .rw[List.drop_of_length_le h1]at h;cases h
 rw[<-cD a]at h;injection h with h1 b
 exact⟨a,by rw[cl a,h1],b,by rw[<-h1];exact cK a⟩
theorem XN {n:Nat}(h:w.drop n=[]):w.length<=n:=by
 rcases Nat.lt_or_ge n w.length with h1|h1
 .rw[<-cD h1]at h;cases h
 .exact h1
theorem pC {n:Nat}{e:Zd}(h:w.drop n=t)(a:vG q t=O (x,e)):w.drop (n+B1 q)=e/\(x=0∨x∈w)/\(n<=w.length->n+B1 q<=w.length):=by
 cases q with
 |false=>
  injection a with a
  injection a with b d
  exact⟨by rw[<-d,<-h];rfl, .inl b.symm,λh=>h⟩
 |true=>
  cases t with
  |nil=>cases a
  |cons y t=>
   injection a with a
   injection a with b d
   obtain⟨g,o,j,k⟩:=M6 h;exact⟨by rw[<-d,<-j];rfl, .inr (b▸k),λ_=>g⟩
theorem QL (e:w.length<=1000000){n:Nat}(h:w.drop n=t)(g:n<=100):
  jt q (n:Int) w Zb=O (match vG q t with
   |some (x,_)=>(x,((n+B1 q:Nat):Int),Zb)
   |none=>(0,((n+1:Nat):Int),Za)):=by
 unfold jt;cases q with
 |false=>rfl
 |true=>
  simp only[Bool.not_true,zD];rw[ad (n:=(n:Int)+1) (by omega),ad (n:=(n:Int)+1-1) (by omega),ag];cases t with
  |nil=>
   have:=XN h;rw[Zg];rfl
  |cons x t=>
   obtain⟨b,a,d,_⟩:=M6 h;rw[Zh,show(n:Int)+1-1=(n:Int)by omega,a];rfl
theorem B9 (a:w.length<=1000000){n:Nat}(b:n<=100): ∃x m,jt q (n:Int) w Za=O (x,((m:Nat):Int),Za)/\m<=n+1:=by
 unfold jt;cases q with
 |false=>exact⟨_,n,rfl,by omega⟩
 |true=>
  simp only[Bool.not_true,zD];rw[ad (n:=(n:Int)+1) (by omega),ad (n:=(n:Int)+1-1) (by omega),ag];by_cases c:(w.length:Int)<(n:Int)+1
  .rw[zE c];exact⟨_,n+1,rfl,by omega⟩
  .rw[zF c,show(n:Int)+1-1=(n:Int)by omega,cl (show n<w.length by omega)];exact⟨_,n+1,rfl,by omega⟩
theorem Xl (e:iL w)(a:w.length<=1000000){n:Nat}(h:w.drop n=t)(b:n<=100):
  gw q (n:Int) w Zb=O (match vG q t with
   |some (x,_)=>(mm x,((n+B1 q:Nat):Int),Zb)
   |none=>(0,((n+1:Nat):Int),Za)):=by
 unfold gw;rw[QL a h b];cases d:vG q t with
 |none=>rfl
 |some p=>
  obtain⟨x,g⟩:=p;obtain⟨_,hx,_⟩:=pC h d
  have hx:0<=x:=by
   rcases hx with rfl|hx
   .omega
   .exact(e x hx).1
  simp only[zG];rw[Zi];rfl
theorem KE (d:w.length<=1000000){n:Nat}(e:n<=100): ∃x m,gw q (n:Int) w Za=O (x,((m:Nat):Int),Za)/\m<=n+1:=by
 obtain⟨x,m,a,b⟩:=B9 (q:=q) d e;unfold gw;rw[a];exact⟨_,m,rfl,b⟩
theorem QU (o:iL w)(a:w.length<=1000000):uE w=O (R7 w):=by
 unfold uE;cases w with
 |nil=>rfl
 |cons k t=>
  have hk:=o k (by simp);simp only[ag];rw[zF (by simp;omega)];have u:rd (k::t) 0=O k:=cl (l:=k::t) (i:=0) (by simp);rw[u];simp only[zG];simp only[R7];by_cases c:7<k
  .rw[Zg,zE c]
  rw[Zh,zF c,ad (n:=k) (by omega),If];simp only[zG];generalize az k=q;obtain⟨b,d,e,g⟩:=q;simp only;have y:(k::t).drop 1=t:=rfl;have p:=Xl o a (q:=b) y (by omega);have p:gw b 1 (k::t) Zb=_:=p;have f1:B1 b<=1:=by cases b<;>decide
  have f2:B1 d<=1:=by cases d<;>decide
  have f3:B1 e<=1:=by cases e<;>decide
  rw[p];cases I:vG b t with
  |none=>
   simp only[zG];obtain⟨x2,M,H,l2⟩:=KE (q:=d) a (n:=1+1) (by omega);rw[H];simp only[zG];obtain⟨D,v,r,L⟩:=KE (q:=e) a (n:=M) (by omega);rw[r];simp only[zG];obtain⟨E,C,j,B⟩:=B9 (q:=g) a (n:=v) (by omega);rw[j];rfl
  |some N=>
   obtain⟨x1,W⟩:=N;obtain⟨z,_,_⟩:=pC y I;simp only[zG];rw[Xl o a (q:=d) z (by omega)];cases J:vG d W with
   |none=>
    simp only[zG];obtain⟨D,v,r,L⟩:=KE (q:=e) a (n:=1+B1 b+1) (by omega);rw[r];simp only[zG];obtain⟨E,C,j,B⟩:=B9 (q:=g) a (n:=v) (by omega);rw[j];rfl
   |some T=>
    obtain⟨x2,X⟩:=T;obtain⟨A,_,_⟩:=pC z J;simp only[zG];rw[Xl o a (q:=e) A (by omega)];cases K:vG e X with
    |none=>
     simp only[zG];obtain⟨E,C,j,B⟩:=B9 (q:=g) a (n:=1+B1 b+B1 d+1) (by omega);rw[j];rfl
    |some V=>
     obtain⟨D,Z⟩:=V;obtain⟨F,_,_⟩:=pC A K;simp only[zG];rw[QL a (q:=g) F (by omega)];cases h4:vG g Z with
     |none=>rfl
     |some p4=>rfl
theorem au0 (u:iL w)(v:w≠[])(a:(R7 w).2.2.2.2.2.2=0): ∃n:Nat,(R7 w).2.2.2.2.2.1=(n:Int)/\1<=n/\n<=w.length/\0<=(R7 w).2.2.2.2.1/\(R7 w).2.2.2.2.1<=18446744073709551615:=by
 cases w with
 |nil=>exact(v rfl).elim
 |cons k t=>
  simp only[R7]at a⊢;have j:(k::t).drop 1=t:=rfl;by_cases c:7<k
  .rw[zE c]at a;cases a
  rw[zF c]at a⊢;cases b:vG (az k).1 t with
  |none=>rw[b]at a;cases a
  |some C=>
   obtain⟨N,H⟩:=C;obtain⟨o,_,y⟩:=pC j b;simp only[b]at a⊢;cases d:vG (az k).2.1 H with
   |none=>rw[d]at a;cases a
   |some D=>
    obtain⟨T,I⟩:=D;obtain⟨p,_,z⟩:=pC o d;simp only[d]at a⊢;cases e:vG (az k).2.2.1 I with
    |none=>rw[e]at a;cases a
    |some E=>
     obtain⟨V,J⟩:=E;obtain⟨r,_,A⟩:=pC p e;simp only[e]at a⊢;cases g:vG (az k).2.2.2 J with
     |none=>rw[g]at a;cases a
     |some F=>
      obtain⟨K,M⟩:=F;obtain⟨L,m4,B⟩:=pC r g;simp only[g];refine⟨_,rfl,by omega,B (A (z (y (by simp)))), ?_⟩;rcases m4 with rfl|m4
      .omega
      .exact u K m4
def U :Nat->Zd->List bx->Option (List bx)
 |0,_,_=>Y
 |f+1,w,a=>if w.length=0 then O a else if(R7 w).2.2.2.2.2.2≠0 then Y else U f (w.drop (R7 w).2.2.2.2.2.1.toNat) (a++[((R7 w).1,(R7 w).2.1,(R7 w).2.2.1,(R7 w).2.2.2.1,(R7 w).2.2.2.2.1)])
def TB (w:Zd):Option (List bx):=U (w.length+1) w []
def jd (w:Zd):Int×List bx:=match TB w with
 |some l=>(0,l)
 |none=>(6,[])
theorem iL.drop (h:iL w)(n:Nat):iL (w.drop n):=λx a=>h x (aD a)
theorem iL.take (h:iL w)(n:Nat):iL (w.take n):=λx a=>h x (cN a)
theorem ax8 : ∀(f:Nat) (w:Zd) (acc l:List bx),iL w->U f w acc=O l->(∀o∈acc,0<=o.2.2.2.2/\o.2.2.2.2<=18446744073709551615)->l.length<=acc.length+w.length/\∀o∈l,0<=o.2.2.2.2/\o.2.2.2.2<=18446744073709551615
 |0,w,acc,l,_,h,_=>by cases h
 |f+1,w,acc,l,d,h,b=>by
  simp only[U]at h;split at h
  .injection h with h
   subst h;exact⟨by omega,b⟩
  .rename_i p;split at h
   .cases h
   .rename_i v;obtain⟨n,j,r,u,k⟩:=au0 d (λe=>p (by rw[e];rfl)) (by omega);rw[j]at h
    obtain⟨a,g⟩:=ax8 f _ _ l (d.drop _) h (λo ho=>by
     rcases List.mem_append.1 ho with ho|ho
     .exact b o ho
     .simp at ho;subst ho
      exact k)
    refine⟨?_,g⟩;rw[cL,aB]at a;simp at a;omega
theorem Ix (e:iL w)(g:w.length<=4000):OpsOk (jd w).2:=by
 unfold jd TB;cases h:U (w.length+1) w []with
 |none=>exact⟨by simp,λo a=>by simp at a⟩
 |some l=>
  obtain⟨b,d⟩:=ax8 _ _ _ _ e h (λo a=>by simp at a);exact⟨by simp at b⊢;omega,d⟩
theorem U4 (d:iL w):(jd w).2.length<=w.length:=by
 unfold jd TB;cases h:U (w.length+1) w []with
 |none=>simp
 |some l=>
  obtain⟨a,e⟩:=ax8 _ _ _ _ d h (λo b=>by simp at b);simpa using a
theorem KT {n:Nat}:pm w (n:Int) (w.length:Int)=w.drop n:=by
 unfold pm;rw[show((w.length:Int)).toNat=w.length by omega,show((n:Int)).toNat=n by omega,bB]
theorem FB {a0:Zd}(v:iL a0)(B:a0.length<=100000):qF a0=O (jd a0):=by
 unfold qF jd
 obtain⟨c,u,h⟩:=tj (f:=qR) (a:=(a0,Za,([]:List bx))) (λs=> ∃w d f,s=(w,Za,d)/\w.length<f/\U f w d=TB a0/\iL w/\d.length+w.length<=a0.length) (λs=>s.1.length)
  (λc=>(c.1=Zb/\TB a0=Y)∨(c.1=Za/\TB a0=O c.2)) ⟨a0,[],a0.length+1,rfl,by omega,rfl,v,by simp⟩ (by simp;omega) (by
  rintro _ ⟨w,d,f,rfl,A,b,p,r⟩;cases f with
  |zero=>omega
  |succ f=>
  simp only[U]at b;simp only[qR,ag];by_cases o:w.length=0
  .rw[zE o]at b;rw[Zh];exact .inr ⟨_,rfl, .inr ⟨rfl,b.symm⟩⟩
  .rw[zF o]at b;rw[Zg,QU p (by omega)];simp only[zG];by_cases j:(R7 w).2.2.2.2.2.2≠0
   .rw[zE j]at b;rw[zE j];exact .inr ⟨_,rfl, .inl ⟨rfl,b.symm⟩⟩
   .rw[zF j]at b;rw[zF j];obtain⟨n,g,k,y,z⟩:=au0 p (λe=>o (by rw[e];rfl)) (by omega);rw[g]at b⊢;have b:U f (w.drop n) _=_:=b;rw[bp (by omega) (by omega),Zl,ci,KT]
    refine .inl ⟨_,rfl,⟨_,_,f,rfl,by rw[aB];omega,b,p.drop n,by rw[cL,aB];simp;omega⟩,by simp;omega⟩)
 rw[u];simp only[zG];rcases h with⟨g,k⟩|⟨g,k⟩
 .rw[g,k];rfl
 .rw[g,k];rfl
def S :Nat->Zd->List (Zd)->Option (List (Zd)×Zd)
 |0,w,a=>O (a,w)
 |r+1,[],a=>Y
 |r+1,x::t,a=>if(t.length:Int)<x then Y else S r (t.drop x.toNat) (a++[t.take x.toNat])
def aa1 (w:Zd):Option (List (Zd)×Zd):=S 4 w []
theorem L9 {K:Nat}(v:K<=100): ∀(r N:Nat) (w:Zd) (out:List (Zd)),out.length+r=K->iL w->w.length<=100000->
  (∃p,S r w out=O p/\aq (kc (K:Int)) (N+r+1) (w,out)=O (0,p.2,p.1))∨(S r w out=Y/\∃w' B,aq (kc (K:Int)) (N+r+1) (w,out)=O (4,w',B))
 |0,N,w,out,k,a,d=>by
  left;refine⟨_,rfl, ?_⟩;rw[cb];unfold kc;simp only;rw[ag,Zh];rfl
 |r+1,N,[],out,k,a,d=>by
  right;refine⟨rfl,[],out, ?_⟩;rw[cb];unfold kc;simp only;rw[ag,Zg,ag,zE (by simp)];rfl
 |r+1,N,x::t,out,k,a,d=>by
  have E:=a x (by simp);have g:rd (x::t) 0=O x:=cl (l:=x::t) (i:=0) (by simp);simp only[S];simp only[List.length_cons]at d
  have j:zH zJ (zH zI (((t.length+1:Nat):Int)-1))=(t.length:Int):=by
   rw[show(((t.length+1:Nat):Int))-1=(t.length:Int)by omega,ad (n:=(t.length:Int)) (by omega),uB (by omega)]
  have e:kc (K:Int) (x::t,out)=cond (Zc ((out.length:Int)<(K:Int))) (cond (Zc (((t.length+1:Nat):Int)=0)) (O (.inr (4,x::t,out))) ((rd (x::t) 0).bind λD=>cond (Zc (zH zJ (zH zI (((t.length+1:Nat):Int)-1))<D)) (O (.inr (4,x::t,out))) ((rd (x::t) 0).bind λb=>
    gd (eY 1 (zH zI (zH zI b+1)) (t.length+1)) ((ak (pm (x::t) 1 (zH zI (zH zI b+1)))).bind λC=>
    gd (fB (out.length+1) 24) (gd (eY (zH zI (zH zI b+1)) ((t.length+1:Nat):Int) (t.length+1)) (O (.inl (pm (x::t) (zH zI (zH zI b+1)) ((t.length+1:Nat):Int),out++[C])))))))) (O (.inr (0,x::t,out))):=rfl
  rw[g,zB (show(out.length:Int)<(K:Int)by omega),zC,zA (show¬((t.length+1:Nat):Int)=0 by omega),zD]at e;simp only[zG]at e;by_cases c:(t.length:Int)<x
  .right;rw[zE c];refine⟨rfl,x::t,out, ?_⟩;rw[zB (show zH zJ (zH zI (((t.length+1:Nat):Int)-1))<x by rw[j];exact c),zC]at e;rw[cb,e];rfl
  .rw[zF c];have A:=L9 v r N (t.drop x.toNat) (out++[t.take x.toNat]) (by simp;omega) (λy z=>a y (by simp[aD z])) (by rw[aB];omega)
   have o:pm (x::t) 1 (x+1)=t.take x.toNat:=by
    unfold pm;rw[show(x+1).toNat=x.toNat+1 by omega,show(1:Int).toNat=1 from rfl];rfl
   have u:pm (x::t) (x+1) ((t.length+1:Nat):Int)=t.drop x.toNat:=by
    unfold pm;rw[show(((t.length+1:Nat):Int)).toNat=(x::t).length by simp,bB,show(x+1).toNat=x.toNat+1 by omega];rfl
   rw[zA (show¬IntKind.u64.wrap (zH zI (((t.length+1:Nat):Int)-1))<x by rw[j];exact c),zD,ad (n:=x) (by omega),ad (n:=x+1) (by omega),Zl,ci,o]at e;unfold ak at e;rw[bp (by rw[cM];omega) (by omega)]at e;simp only[zG]at e;rw[bp (by omega) (by omega),Zl,ci,u]at e;rw[show N+(r+1)+1=(N+r+1)+1 by omega,cb,e];simp only[zG,bk];exact A
theorem Hs {K:Nat}(g:K<=100)(k:iL w)(j:w.length<=100000):ob w (K:Int)=O (match S K w []with
  |some (l,rest)=>(0,l,rest)
  |none=>(4,[],[])):=by
 unfold ob;rw[ag,Zh];obtain⟨N,e⟩: ∃N,di=N+K+1:=⟨18446744073709551615-K,by unfold di;omega⟩
 rcases L9 g K N w [] (by simp) k j with⟨p,b,d⟩|⟨b,y,v,d⟩
 .rw[e,d,b];simp only[zG];rw[zA (by simp),zD];unfold ak
  have u:p.2.length<=w.length:=by
   have: ∀(r:Nat) (w:Zd) (a:List (Zd)) (q:List (Zd)×Zd),S r w a=O q->q.2.length<=w.length:=by
    intro r;induction r with
    |zero=>intro w a q h;injection h with h;subst h;exact Nat.le_refl _
    |succ r o=>
     intro w a q h;cases w with
     |nil=>cases h
     |cons x t=>
      simp only[S]at h;split at h
      .cases h
      .have:=o _ _ _ h;rw[aB]at this;simp;omega
   exact this _ _ _ _ b
  rw[bp (by omega) (by omega)];rfl
 .rw[e,d,b];rfl
theorem RS (b:iL w)(a:w.length<=100000):ob w 4=O (match aa1 w with
  |some (l,rest)=>(0,l,rest)
  |none=>(4,[],[])):=Hs (K:=4) (by omega) b a
theorem NH (k:iL w){l:List (Zd)}(h:aa1 w=O (l,rest)): ∃d e g j,l=[d,e,g,j]/\(iL d/\d.length<=w.length)/\(iL e/\e.length<=w.length)/\(iL g/\g.length<=w.length)/\(iL j/\j.length<=w.length)/\rest.length<=w.length:=by
 have a: ∀(r:Nat) (w:Zd) (b:List (Zd)) (q:List (Zd)×Zd),iL w->S (r+1) w b=O q->∃y u,S r u (b++[y])=O q/\(iL y/\y.length<=w.length)/\iL u/\u.length<=w.length:=by
  intro r w b q k h;cases w with
  |nil=>cases h
  |cons x t=>
   simp only[S]at h;split at h
   .cases h
   .refine⟨_,_,h,⟨λy p=>k y (by simp[cN p]), ?_⟩,λy p=>k y (by simp[aD p]), ?_⟩
    .rw[cM];simp;omega
    .rw[aB];simp;omega
 obtain⟨d,L,v,D,I,T⟩:=a 3 w [] _ k h;obtain⟨e,M,z,E,J,V⟩:=a 2 L _ _ I v;obtain⟨g,N,A,F,K,W⟩:=a 1 M _ _ J z;obtain⟨j,w4,o,H,Z,X⟩:=a 0 N _ _ K A;injection o with o
 injection o with B C
 exact⟨d,e,g,j,B.symm,D,⟨E.1,by omega⟩,⟨F.1,by omega⟩,⟨H.1,by omega⟩,by rw[<-C];omega⟩
theorem uN (h:0<=x/\x<=18446744073709551615):li x=O (mm x):=by
 unfold li mm;rw[Zi]
def YO (R:Int)(a:Zd)(Q:Int)(b:Zd):Int×List (Int×List bx):=
 if(jd a).1≠0∨bm (jd a).2 0≠O 0∨(jd b).1≠0∨bm (jd b).2 0≠O 0 then(6,[])else(0,[(mm R,(jd a).2),(mm Q,(jd b).2)])
theorem JB {a b:Zd}{R:Int}(r:iL a)(u:iL b)(B:a.length<=4000)(l1:b.length<=4000)(A:0<=R/\R<=18446744073709551615)(z:0<=Q/\Q<=18446744073709551615):
  oG [R,Q] [a,b]=O (YO R a Q b):=by
 have I:=(Ix r B).len;have J:=(Ix u l1).len;obtain⟨F,e0⟩:=yx (l:=(jd a).2) (by omega);obtain⟨H,v⟩:=yx (l:=(jd b).2) (by omega);unfold oG;obtain⟨N,y⟩: ∃N,di=N+1+1+1:=⟨18446744073709551613,rfl⟩
 have C:gJ [R,Q] [a,b] (0,[])=O (if(jd a).1≠0 then .inr (.inl ())else if bm (jd a).2 0≠O 0 then .inr (.inl ())else .inl (1,[(mm R,(jd a).2)])):=by
  have k:rd [a,b] 0=O a:=rfl;have o:rd [R,Q] 0=O R:=rfl;unfold gJ;simp only[ag];rw[zE (by simp),k];simp only[zG];rw[FB r (by omega)];simp only[zG];rw[e0];simp only[zG];rw[o];simp only[zG];rw[uN A];by_cases d:(jd a).1≠0
  .rw[zE d,zE d]
  rw[zF d,zF d];by_cases e:bm (jd a).2 0=O 0
  .rw[zE e,zF (by simp),zF (by simp[e])];rfl
  .rw[zF e,zE (by simp),zE (by simp[e])]
 have D: ∀p,gJ [R,Q] [a,b] (1,[p])=O (if(jd b).1≠0 then .inr (.inl ())else if bm (jd b).2 0≠O 0 then .inr (.inl ())else .inl (2,[p,(mm Q,(jd b).2)])):=by
  intro p;have k:rd [a,b] 1=O b:=rfl;have o:rd [R,Q] 1=O Q:=rfl;unfold gJ;simp only[ag];rw[zE (by simp),k];simp only[zG];rw[FB u (by omega)];simp only[zG];rw[v];simp only[zG];rw[o];simp only[zG];rw[uN z];by_cases d:(jd b).1≠0
  .rw[zE d,zE d]
  rw[zF d,zF d];by_cases e:bm (jd b).2 0=O 0
  .rw[zE e,zF (by simp),zF (by simp[e])];rfl
  .rw[zF e,zE (by simp),zE (by simp[e])]
 have E: ∀p q,gJ [R,Q] [a,b] (2,[p,q])=O (.inr (.inr [p,q])):=λp q=>rfl
 unfold YO;rw[y,cb,C];by_cases d:(jd a).1≠0
 .rw[zE d,zE (.inl d)];rfl
 rw[zF d];by_cases e:bm (jd a).2 0≠O 0
 .rw[zE e,zE (.inr (.inl e))];rfl
 rw[zF e];simp only[zG,bk];rw[cb,D];by_cases g:(jd b).1≠0
 .rw[zE g,zE (.inr (.inr (.inl g)))];rfl
 rw[zF g];by_cases j:bm (jd b).2 0≠O 0
 .rw[zE j,zE (.inr (.inr (.inr j)))];rfl
 rw[zF j,zF (by rintro(h|h|h|h)<;>contradiction)];simp only[zG,bk];rw[cb,E];rfl
structure Hd where
 m:Int
 x:Zd
 t:Zd
 R:Int
 l:List bx
 Q:Int
 k:List bx
 n:Int
 b:Int
def Hd.chk (h:Hd):Int:=pu h.m h.x.length h.t.length h.R h.l h.Q h.k h.n h.b
def VY (w a b d e:Zd):Hd:=⟨w.getD 0 0,d,e,mm (w.getD 1 0),(jd a).2,mm (w.getD 2 0),(jd b).2,if w.getD 0 0=2 then 0 else mm (w.getD 3 0),mm (w.getD 4 0)⟩
def Jz (w:Zd):Int⊕(Hd×Zd):=if w.length<5 then .inl 4 else match aa1 (w.drop 5)with
 |some ([a,b,d,e],rest)=>if w.getD 0 0<1∨3<w.getD 0 0 then .inl 5 else if(jd a).1≠0∨(jd b).1≠0 then .inl 6 else
  if(VY w a b d e).chk≠0 then .inl (VY w a b d e).chk else .inr (VY w a b d e,rest)
 |_=> .inl 4
def aU9 :Int⊕(Hd×Zd)->Int×Int×(List bx)×Int×(List bx)×Int×Int×Int×(Zd)×(Zd)×Zd
 | .inl e=>(0,0,[],0,[],0,0,e,[],[],[])
 | .inr (h,rest)=>(h.m,h.R,h.l,h.Q,h.k,h.n,h.b,0,h.x,h.t,rest)
theorem iL.getD (h:iL w)(i:Nat):0<=w.getD i 0/\w.getD i 0<=18446744073709551615:=by
 rw[List.getD_eq_getElem?_getD];by_cases hi:i<w.length
 .rw[List.getElem?_eq_getElem hi];exact h _ (cK hi)
 .rw[List.getElem?_eq_none (by omega)];exact⟨by decide,by decide⟩
theorem af8 {m:Int}(d:1<=m/\m<=3)(x t:Nat)(R:Int)(l:List bx)(Q:Int)(k:List bx)(n b:Int)(h:bm l 0≠O 0∨bm k 0≠O 0):pu m x t R l Q k n b=6:=by
 have a:hk0 m=0:=by
  unfold hk0;rw[Zh,Zh]
 unfold pu;rw[a,zF (by simp)]
 have:lU R l Q k=6:=by
  unfold lU JY yt;rcases h with h|h
  .simp[h]
  .by_cases c:(Zc (bm l 0=O 0)&& !(l.any λo=> !jU o))=Za
   .rw[zE c];simp[h]
   .rw[zF c];simp
 rw[this,Zg]
theorem az7 (h:5<=w.length):pm w 1 3=[w.getD 1 0,w.getD 2 0]:=by
 match w,h with
 |a::b::c::d::e::r,_=>rfl
theorem MM (d:iL w)(hl:w.length<=4000):qE w=O (aU9 (Jz w)):=by
 unfold qE Jz;simp only[ag];by_cases v:w.length<5
 .rw[Zg,zE v];rfl
 rw[Zh,zF v,Zl,ci,show(5:Int)=((5:Nat):Int)from rfl,KT,RS (d.drop 5) (by rw[aB];omega)];cases h:aa1 (w.drop 5)with
 |none=>rfl
 |some p=>
  obtain⟨l,rest⟩:=p;obtain⟨a,b,e,g,rfl,⟨z,L⟩,⟨A,M⟩,⟨u2,N⟩,⟨u3,T⟩,V⟩:=NH (d.drop 5) h;rw[aB]at L M N T V;simp only[zG];rw[zF (by simp)];have W:rd w 0=O (w.getD 0 0):=zw (l:=w) (i:=0) (by omega);have X:rd w 3=O (w.getD 3 0):=zw (l:=w) (i:=3) (by omega);have Z:rd w 4=O (w.getD 4 0):=zw (l:=w) (i:=4) (by omega);have g0:=d.getD 0;have B:=d.getD 1;have C:=d.getD 2;rw[W];simp only[zG];by_cases r:w.getD 0 0<1
  .rw[zE r,zE (.inl r)];rfl
  rw[zF r];by_cases u:3<w.getD 0 0
  .rw[zE u,zE (.inr u)];rfl
  rw[zF u,Zh,Zl,ci,az7 (by omega)];have E:ix 0 [a,b,e,g].length=O 0:=rfl;have F:ix 1 [a,b,e,g].length=O 1:=rfl;have H:ix 2 [a,b,e,g].length=O 2:=rfl;have I:ix 3 [a,b,e,g].length=O 3:=rfl;rw[E,F,H,I];simp only[zG,cB,bD];rw[JB z A (by omega) (by omega) B C];simp only[zG];unfold YO;have D:1<=w.getD 0 0/\w.getD 0 0<=3:=by omega
  by_cases j:(jd a).1≠0∨bm (jd a).2 0≠O 0∨(jd b).1≠0∨bm (jd b).2 0≠O 0
  .rw[zE j];by_cases o:(jd a).1≠0∨(jd b).1≠0
   .rw[zE o];rfl
   .rw[zF o]
    have:(VY w a b e g).chk=6:=af8 D _ _ _ _ _ _ _ _ (by
     rcases j with c|c|c|c
     .exact(o (.inl c)).elim
     .exact .inl c
     .exact(o (.inr c)).elim
     .exact .inr c)
    rw[this];rfl
  .rw[zF j,zF (show¬((jd a).1≠0∨(jd b).1≠0)from λh=>h.elim (λh=>j (.inl h)) (λh=>j (.inr (.inr (.inl h)))))];simp only[zG];rw[zF (by simp)];have J:ix 0 [(mm (w.getD 1 0),(jd a).2),(mm (w.getD 2 0),(jd b).2)].length=O 0:=rfl;have K:ix 1 [(mm (w.getD 1 0),(jd a).2),(mm (w.getD 2 0),(jd b).2)].length=O 1:=rfl;rw[J,K];simp only[zG,cB,bD];rw[X,Z];unfold ak;simp only[zG];rw[bp (by omega) (by omega),bp (by omega) (by omega)];simp only[zG];rw[uN (d.getD 3),uN (d.getD 4),ad (n:=w.getD 0 0) (by omega)];simp only[zG];have k: ∀n,kj (w.getD 0 0) e g (mm (w.getD 1 0)) (jd a).2 (mm (w.getD 2 0)) (jd b).2 n (mm (w.getD 4 0))=O (pu (w.getD 0 0) e.length g.length (mm (w.getD 1 0)) (jd a).2 (mm (w.getD 2 0)) (jd b).2 n (mm (w.getD 4 0))):=λn=>B7 (Ix z (by omega)) (Ix A (by omega))
   unfold Hd.chk VY;simp only;by_cases y:w.getD 0 0=2
   .simp only[zE y,zG,k];split<;>rfl
   .simp only[zF y,zG,k];split<;>rfl
theorem ag3 (p:iL w)(B:w.length<=1500){h:Hd}(a:Jz w= .inr (h,rest)):OpsOk h.l/\OpsOk h.k/\h.l.length<=1500/\h.k.length<=1500:=by
 unfold Jz at a;split at a
 .cases a
 .split at a
  .rename_i E F H I r o;obtain⟨J,K,L,M,b,⟨d,u⟩,⟨e,v⟩,⟨C,y⟩,⟨D,z⟩,A⟩:=NH (p.drop 5) o;injection b with a1 b;injection b with a2 b;injection b with a3 b;injection b with a4 _
   subst a1;subst a2;subst a3;subst a4;rw[aB]at u v y z A;split at a
   .cases a
   split at a
   .cases a
   split at a
   .cases a
   .injection a with a
    injection a with g j
    subst g;subst j;exact⟨Ix d (by omega),Ix e (by omega),Nat.le_trans (U4 d) (by omega),Nat.le_trans (U4 e) (by omega)⟩
  .cases a
end
section
open Go.IntKind renaming wrap -> zH, i64 -> zI, u64 -> zJ
open IntKind renaming bits -> aB
open List renaming length_drop -> aD, getD_eq_getElem?_getD -> bB, getElem?_eq_getElem -> bD
open Nat renaming mod_eq_of_lt -> cB
theorem Xr {a b:Nat}(e:a<18446744073709551616)(g:b<18446744073709551616):ta .u64 (· &&& ·) (a:Int) (b:Int)=((a&&& b:Nat):Int):=by
 unfold ta
 have d:(BitVec.ofInt (aB .u64) (a:Int)&&& BitVec.ofInt (aB .u64) (b:Int)).toNat=a&&& b:=by
  rw[BitVec.ofInt_natCast,BitVec.ofInt_natCast,BitVec.toNat_and,BitVec.toNat_ofNat,BitVec.toNat_ofNat];rw[show 2 ^ aB .u64=18446744073709551616 from rfl,cB e,cB g]
 show zH zJ _=_;rw[d,bl];have:a&&& b<=a:=Nat.and_le_left;omega
def af3 (w:Zd)(i:Nat):Bool:=Zc ((w.getD (i / 64) 0).toNat / 2 ^ (i % 64) % 2=1)
theorem ap6 (h:i<64*w.length):rd w ((i / 64:Nat):Int)=O (w.getD (i / 64) 0):=zw (by omega)
theorem as2 (a: ∀x∈w,0<=x/\x<=18446744073709551615)(j:Nat):0<=w.getD j 0/\w.getD j 0<=18446744073709551615:=by
 rcases Nat.lt_or_ge j w.length with h|h
 .rw[bB,bD h];exact a _ (List.getElem_mem h)
 .rw[bB,List.getElem?_eq_none h];exact⟨Int.le_refl 0,by decide⟩
theorem Vt (o: ∀x∈w,0<=x/\x<=18446744073709551615)(h:i<64*w.length)(u:w.length<=2000){γ:Type}(G:Bool)(F:Int->Bool->Option γ):
  ((rd w (zH zI (Int.tdiv (zH zI ((i:Int)-1+1)) 64))).bind λp=>gd (Zc (0<=(Int.tmod (zH zI ((i:Int)-1+1)) 64))) (gd G (F (zH zI ((i:Int)-1+1)) (Zc ((ta .u64 (· &&& ·) (Int.fdiv p (2 ^ (min (Int.toNat (Int.tmod (zH zI ((i:Int)-1+1)) 64)) (aB .u64)))) 1)=1)))))=gd G (F (i:Int) (af3 w i)):=by
 have a:zH zI ((i:Int)-1+1)=(i:Int):=by
  rw[show(i:Int)-1+1=(i:Int)by omega,Zi]
 have b:zH zI (Int.tdiv (i:Int) 64)=((i / 64:Nat):Int):=by
  rw[show Int.tdiv (i:Int) 64=((i / 64:Nat):Int)from rfl,Zi]
 have d:Int.tmod (i:Int) 64=((i % 64:Nat):Int):=rfl;rw[a,b,d,ap6 h];simp only[zG];obtain⟨k,r⟩:=as2 o (i / 64);unfold af3;generalize w.getD (i / 64) 0=x at*;obtain⟨x,rfl⟩:=Int.eq_ofNat_of_zero_le k;rw[zB (show(0:Int)<=((i % 64:Nat):Int)by omega),ci]
 have e:min (Int.toNat ((i % 64:Nat):Int)) (aB .u64)=i % 64:=by
  show min (i % 64) 64=i % 64;omega
 rw[e]
 have g:Int.fdiv (x:Int) (2 ^ (i % 64))=((x / 2 ^ (i % 64):Nat):Int):=by
  rw[Int.fdiv_eq_ediv_of_nonneg _ (Int.le_of_lt (Int.pow_pos (by decide))),Int.natCast_ediv];rfl
 have j:x / 2 ^ (i % 64)<18446744073709551616:=Nat.lt_of_le_of_lt (Nat.div_le_self _ _) (by omega);rw[g,show(1:Int)=((1:Nat):Int)from rfl,Xr j (by decide),Nat.and_one_is_mod,Int.toNat_natCast];have:Zc (((x / 2 ^ (i % 64) % 2:Nat):Int)=((1:Nat):Int))=Zc (x / 2 ^ (i % 64) % 2=1):=decide_eq_decide.2 (by omega);rw[this]
def rA (w:Zd)(n:Nat):List Bool:=(List.range n).map (af3 w)
theorem St (w:Zd)(n:Nat):rA w (n+1)=rA w n++[af3 w n]:=by
 unfold rA;rw[List.range_succ,List.map_append];rfl
theorem HI (w:Zd)(n:Nat):(rA w n).length=n:=by simp[rA]
theorem az2 (j: ∀x∈w,0<=x/\x<=18446744073709551615){n:Nat}(h:n<=64*w.length)(g:w.length<=2000):aq (mA (n:Int) w) di ((0,(-1),[]))=O ((n:Int)-1,rA w n):=by
 have:=fj (f:=mA (n:Int) w) (n:=n) (F:=λi=>((i:Int)-1,rA w i)) (c:=((n:Int)-1,rA w n)) (by omega) (λi hi=> ?_) ?_
 .exact this
 .unfold mA;simp only;rw[zB (show(i:Int)<(n:Int)by omega),zC];refine(Vt j (i:=i) (by omega) g (γ:=(Int×Int×List Bool)⊕(Int×List Bool)) (fB ((rA w i).length+1) 1) (λa b=>O (Sum.inl (zH zI ((i:Int)+1),a,rA w i++[b])))).trans ?_;have e:(rA w i).length=i:=HI w i;rw[e,bp (by omega) (by decide),St,Zi];have d:((i+1:Nat):Int)-1=(i:Int):=by omega
  rw[d];rfl
 .unfold mA;simp only;rw[zA (show¬(n:Int)<(n:Int)by omega),zD]
def Qo (w:Zd):Option (Zd×List Bool):=if w.length<5 then Y else match S 5 (w.drop 5) []with
 |none=>Y
 |some (l,rest)=>if w.getD 0 0=2 then(match rest with
  |[]=>Y
  |n::b=>if 64*(b.length:Int)<n then Y else O (l.getD 4 [],rA b n.toNat))else O (l.getD 4 [],[])
theorem TJ (b:iL w){l:List (Zd)}(h:S 5 w []=O (l,rest)):l.length=5/\iL rest/\rest.length<=w.length:=by
 have: ∀(r:Nat) (w:Zd) (a:List (Zd)) (q:List (Zd)×Zd),iL w->S r w a=O q->q.1.length=a.length+r/\iL q.2/\q.2.length<=w.length:=by
  intro r;induction r with
  |zero=>intro w a q b h;injection h with h;subst h;exact⟨rfl,b,Nat.le_refl _⟩
  |succ r k=>
   intro w a q b h;cases w with
   |nil=>cases h
   |cons x t=>
    simp only[S]at h;split at h
    .cases h
    .obtain⟨d,e,g⟩:=k _ _ _ (λy j=>b y (by simp[List.mem_of_mem_drop j])) h;rw[aD]at g;refine⟨by simp at d;omega,e,by simp;omega⟩
 obtain⟨d,e,g⟩:=this 5 w [] _ b h;exact⟨by simpa using d,e,g⟩
theorem VO (L:iL w)(N:w.length<=1500):qJ w=O (match Qo w with|some (c,b)=>(c,0,b)|none=>([],4,[])):=by
 unfold qJ Qo;by_cases C:w.length<5
 .rw[Zf,zC,zE C]
 rw[Ze,zD,zF C,Zl,ci];have j:pm w 5 (w.length:Int)=w.drop 5:=KT (n:=5);rw[j];have u:iL (w.drop 5):=L.drop 5;have I:=Hs (K:=5) (by omega) u (by rw[aD];omega);refine db I ?_;cases e:S 5 (w.drop 5) []with
 |none=>rfl
 |some p=>
  obtain⟨l,rest⟩:=p;obtain⟨E,A,B⟩:=TJ u e;rw[aD]at B;show cond (Zc ((0:Int)≠0)) _ _=_;rw[zA (by simp),zD]
  have z:rd w 0=O (w.getD 0 0):=by
   exact zw (l:=w) (i:=0) (by omega)
  refine db z ?_;have g: ∃y:4<l.length,l[4]=l.getD 4 []:=⟨by omega,by simp[List.getD,show 4<l.length by omega]⟩
  obtain⟨y,g⟩:=g;have d:ix 4 l.length=O 4:=bq (k:=4) (by omega);have o:l[4]?=O (l.getD 4 []):=by rw[bD y,g]
  by_cases v:w.getD 0 0=2
  .rw[zB v,zC];simp only[zE v];cases rest with
   |nil=>rfl
   |cons n b=>
    show cond (Zc (((b.length+1:Nat):Int)=0)) _ _=_;rw[Ze,zD];have H:b.length+1<=1500:=by simp at B;omega
    have r:ix 0 (b.length+1)=O 0:=bq (k:=0) (by omega);have T:=A n (by simp);refine db r ?_;refine db (a:=n) rfl ?_;show cond (Zc (zH zJ (zH zI (64*(zH zI ((((b.length+1:Nat):Int))-1))))<n)) _ _=_
    have M:zH zJ (zH zI (64*(zH zI ((((b.length+1:Nat):Int))-1))))=64*(b.length:Int):=by
     rw[show(((b.length+1:Nat):Int))-1=(b.length:Int)by omega,ad (n:=(b.length:Int)) (by omega),ad (n:=64*(b.length:Int)) (by omega)];exact bl (by omega)
    rw[M];by_cases c:64*(b.length:Int)<n
    .rw[zB c,zC];simp only[zE c]
    .rw[zA c,zD];simp only[zF c];refine db r ?_;refine db (a:=n) rfl ?_;show gd (eY 1 ((b.length+1:Nat):Int) (b.length+1)) ((qr (zH zI n) _).bind _)=_;rw[Zl,ci,ad (n:=n) (by omega)]
     have F:qr n (List.take (((((n::b).length:Nat):Int)).toNat-1) (List.drop 1 (n::b)))=O (0,rA b n.toNat):=by
      have J:List.take (((((n::b).length:Nat):Int)).toNat-1) (List.drop 1 (n::b))=b:=by
       rw[show((((n::b).length:Nat):Int)).toNat-1=b.length by simp];simp
      rw[J];unfold qr;rw[Ze,zD,ad (n:=64*(b.length:Int)) (by omega),Ze,zD];have D:=az2 (w:=b) (λx y=>A x (by simp[y])) (n:=n.toNat) (by omega) (by omega);rw[show((n.toNat:Nat):Int)=n by omega]at D;exact db D rfl
     refine db F ?_;refine db (by rw[E]at d⊢;exact d) ?_;exact db o rfl
  .rw[zA v,zD];simp only[zF v];refine db d ?_;exact db o rfl
end
section
open List renaming getElem?_cons_succ -> aB, getElem?_eq_getElem -> aD, takeWhile_cons_of_pos -> bB, takeWhile_prefix -> bD
theorem Ut : ∀{l:List Bool} {i:Nat},i<(l.takeWhile id).length->l[i]?=O Za
 |[],i,h=>by simp at h
 |b::l,i,h=>by
  cases b with
  |false=>simp at h
  |true=>
   rw[bB (by rfl)]at h;cases i with
   |zero=>rfl
   |succ i=>
    rw[aB];exact Ut (by simpa using h)
theorem QB : ∀{l:List Bool},(l.takeWhile id).length<l.length->l[(l.takeWhile id).length]?=O Zb
 |[],h=>by simp at h
 |b::l,h=>by
  cases b with
  |false=>rfl
  |true=>
   rw[bB (by rfl)]at h⊢;rw[List.length_cons,aB];exact QB (by simpa using h)
theorem OZ (l:List Bool):(l.takeWhile id).length<=l.length:=(bD id).length_le
theorem Nn (l:List Bool):l.take (l.takeWhile id).length=l.takeWhile id:=(List.prefix_iff_eq_take.1 (bD id)).symm
theorem X2 {l:List Bool}(j:l.length<=1000000):iX l Zb=O (if(l.takeWhile id).length<l.length then((l.takeWhile id).length:Int)else-1):=by
 have g:=OZ l;generalize e:(l.takeWhile id).length=k at*
 have b:aq (gU l Zb) di 0=O (if k<l.length then .inl (k:Int)else .inr ()):=by
  refine pO (n:=k) (by omega) (λi hi=> ?_) ?_
  .have a:=Ut (l:=l) (i:=i) (by omega);have d:i<l.length:=by omega
   unfold gU;rw[Zf,zC,cl d];rw[aD d]at a;injection a with a
   rw[a];show O (Sum.inl (IntKind.i64.wrap ((i:Int)+1)))=_;rw[Zi];rfl
  .unfold gU;by_cases c:k<l.length
   .rw[Zf,zC,cl c,zE c];have a:=QB (l:=l) (by omega);rw[e,aD c]at a;injection a with a
    rw[a];rfl
   .rw[Ze,zD,zF c]
 unfold iX;refine db b ?_;split<;>rfl
def Hd.pl (h:Hd):Int:=(fJ h.m h.x.length h.t.length h.R h.l h.Q h.k h.n h.b).2.2.2.2
def UO (w:Zd):Int⊕(Hd×Zd×List Bool):=match Qo w with
 |none=> .inl 4
 |some (c,b)=>match Jz w with
  | .inl e=> .inl e
  | .inr (h,_)=>if h.pl≠0 then .inl h.pl else if h.m=2/\65536<=(b.takeWhile id).length then .inl 14 else .inr (h,c,b.takeWhile id)
theorem XJ {e:Int}(h:Jz w= .inl e):e≠0:=by
 unfold Jz at h;split at h
 .injection h with h;omega
 .split at h
  .split at h
   .injection h with h;omega
   split at h
   .injection h with h;omega
   split at h
   .rename_i a;injection h with h;rw[<-h];exact a
   .cases h
  .injection h with h;omega
theorem az8 {h:Hd}{r:Zd}(e:Jz w= .inr (h,r)):h.m=w.getD 0 0/\h.chk=0:=by
 unfold Jz at e;split at e
 .cases e
 .split at e
  .split at e
   .cases e
   split at e
   .cases e
   split at e
   .cases e
   .rename_i d;injection e with e;injection e with a b;subst a;exact⟨rfl,by omega⟩
  .cases e
theorem XU (p:iL w)(v:w.length<=1500){c:Zd}{b:List Bool}(h:Qo w=O (c,b)):b.length<=100000/\(w.getD 0 0≠2->b=[]):=by
 unfold Qo at h;split at h
 .cases h
 split at h
 .cases h
 .rename_i l rest o;obtain⟨u,e,d⟩:=TJ (p.drop 5) o;rw[List.length_drop]at d;split at h
  .rename_i j;split at h
   .cases h
   .rename_i n r;split at h
    .cases h
    .injection h with h
     injection h with g a
     subst a;have y:=e n (by simp);simp at d;exact⟨by rw[HI];omega,λk=>(k j).elim⟩
  .injection h with h
   injection h with g a
   subst a;exact⟨by simp,λ_=>rfl⟩
theorem Rs (g:iL w)(u:w.length<=1500):iW w=O (match UO w with
  | .inl e=>(0,0,[],0,[],0,0,[],e,[],[],[])
  | .inr (h,c,b)=>(h.m,h.R,h.l,h.Q,h.k,h.n,h.b,c,0,h.x,h.t,b)):=by
 unfold iW UO;refine db (VO g u) ?_;cases e:Qo w with
 |none=>rfl
 |some p=>
  obtain⟨c,b⟩:=p;obtain⟨H,A⟩:=XU g u e;show cond (Zc ((0:Int)≠0)) _ _=_;rw[zA (by simp),zD];refine db (MM g (by omega)) ?_;cases o:Jz w with
  |inl z=>
   show cond (Zc (z≠0)) _ _=_;rw[zB (XJ o),zC]
  |inr q=>
   obtain⟨h,r⟩:=q;obtain⟨C,D,E,F⟩:=ag3 g u o;obtain⟨J,I⟩:=az8 o;show cond (Zc ((0:Int)≠0)) _ ((gg h.m h.x h.t h.R h.l h.Q h.k h.n h.b).bind _)=_;rw[zA (by simp),zD];refine db (A7 C D) ?_;show cond (Zc (h.pl≠0)) _ _=_;simp only;by_cases d:h.pl≠0
   .rw[zB d,zC,zE d];rfl
   rw[zA d,zD,zF d];refine db (a:=(h.m,h.R,h.l,h.Q,h.k,h.n,h.b,c,h.x,h.t,r,b.takeWhile id)) ?_ ?_
   .refine db (X2 (by omega)) ?_;have B:=OZ b;by_cases k:(b.takeWhile id).length<b.length
    .rw[zE k,Zf,zC,Zl,ci];show O (h.m,h.R,h.l,h.Q,h.k,h.n,h.b,c,h.x,h.t,r,List.take (((b.takeWhile id).length:Int).toNat-0) b)=_;rw[show(((b.takeWhile id).length:Int)).toNat-0=(b.takeWhile id).length by omega,Nn]
    .rw[zF k,Ze,zD]
     have:b=b.takeWhile id:=by
      have v:=Nn b;rw[List.take_of_length_le (by omega)]at v;exact v
     rw[<-this]
   show cond (Zc (h.m=2)) (cond (Zc ((65536:Int)<=(((b.takeWhile id).length:Nat):Int))) _ _) _=_;by_cases j:h.m=2
   .rw[zB j,zC];by_cases y:65536<=(b.takeWhile id).length
    .rw[Zf,zC,zE ⟨j,y⟩]
    .rw[Ze,zD,zF (λk=>y k.2)]
   .rw[zA j,zD,zF (λk=>j k.1)]
end
section
open Go.IntKind renaming wrap -> zH, i64 -> zI, u64 -> zJ
open Bool renaming and_eq_true -> cL
open List renaming length_append -> aB, length_take -> aD, mem_cons -> bB, getElem_mem -> bD, length_cons -> cB, not_mem_nil -> cD, take_length -> cK, flatMap_append -> cM, flatMap_cons -> cN, getElem?_eq_getElem -> cO, mem_of_mem_take -> cP, take_succ_eq_append_getElem -> cQ
def gY (o:bx):Zd:=zH zJ o.1::((if(az o.1).1 then [zH zJ o.2.1]else [])++((if(az o.1).2.1 then [zH zJ o.2.2.1]else [])++((if(az o.1).2.2.1 then [zH zJ o.2.2.2.1]else [])++(if(az o.1).2.2.2 then [o.2.2.2.2]else []))))
theorem L8 (o:bx):(gY o).length<=5:=by
 unfold gY;generalize (az o.1).1=a;generalize (az o.1).2.1=b;generalize (az o.1).2.2.1=d;generalize (az o.1).2.2.2=e;cases a<;>cases b<;>cases d<;>cases e<;>simp
theorem Ra (o:bx):uH o.1 o.2.1 o.2.2.1 o.2.2.2.1 o.2.2.2.2=O (if jU o then(0,gY o)else(6,[])):=by
 unfold uH;rw[I3,Aw];simp only[zG];cases y:jU o with
 |false=>rfl
 |true=>
  simp only[Bool.not_true,zD,if_true];obtain⟨k,d,a,b,v⟩:=o;simp only at y⊢;unfold gY;simp only;generalize az k=q;obtain⟨e,g,j,p⟩:=q;simp only
  have r:aq (AD d a b v (e,g,j,p)) di (0,[zH zJ k])=O (zH zJ k::((if e then [zH zJ d]else [])++((if g then [zH zJ a]else [])++((if j then [zH zJ b]else [])++(if p then [v]else []))))):=by
   have u:di=18446744073709551611+1+1+1+1+1:=rfl;rw[u];cases e<;>cases g<;>cases j<;>cases p<;>rfl
  rw[r];rfl
def gy (l:List bx):Int×Zd:=if l.any (λo=> !jU o)then(6,[])else(0,l.flatMap gY)
theorem Qj (l:List bx):(l.flatMap gY).length<=5*l.length:=by
 induction l with
 |nil=>simp
 |cons o l a=>
  have:=L8 o;simp only[cN,aB,cB];omega
theorem VK {α β δ:Type}{f:(Int×β)->Option ((Int×β)⊕δ)}{l:List α}(p:α->Bool)(F:Nat->β)(c:Nat->δ)(e:δ)(B:l.length<1000000)
  (k: ∀i,(hi:i<l.length)->f ((i:Int),F i)=O (if p l[i]then .inr (c i)else .inl (((i+1:Nat):Int),F (i+1)))) (v:f ((l.length:Int),F l.length)=O (.inr e)):
  (l.any p=Za/\∃i:Nat,aq f di (0,F 0)=O (c i))∨(l.any p=Zb/\aq f di (0,F 0)=O e):=by
 by_cases h: ∃i,∃hi:i<l.length,p l[i]=Za
 .left
  have g: ∃i,(∃hi:i<l.length,p l[i]=Za)/\∀j,j<i->¬∃a:j<l.length,p l[j]=Za:=by
   obtain⟨i,hi⟩:=h;induction i using Nat.strongRecOn with
   |ind i A=>
    by_cases a: ∃j,j<i/\∃a:j<l.length,p l[j]=Za
    .obtain⟨j,d,u⟩:=a;exact A j d u
    .exact⟨i,hi,λj h d=>a ⟨j,h,d⟩⟩
  obtain⟨i,⟨hi,o⟩,r⟩:=g;refine⟨List.any_eq_true.2 ⟨l[i],bD hi,o⟩,i,fj (n:=i) F (by omega) (λj a=> ?_) ?_⟩
  .rw[k j (by omega),zF (λb=>r j a ⟨by omega,b⟩)]
  .rw[k i hi,zE o]
 .right;refine⟨?_,fj (n:=l.length) F (by omega) (λj a=> ?_) v⟩
  .rw[Bool.eq_false_iff];intro y;obtain⟨x,z,b⟩:=List.any_eq_true.1 y;obtain⟨i,hi,rfl⟩:=List.getElem_of_mem z;exact h ⟨i,hi,b⟩
  .rw[k j a,zF (λb=>h ⟨j,a,b⟩)]
theorem VN {l:List bx}(hi:i<l.length):(l.take (i+1)).flatMap gY=(l.take i).flatMap gY++gY l[i]:=by
 rw[cQ hi,cM];simp
theorem LB {l:List bx}(g:l.length<=4000):su l=O (gy l):=by
 unfold su gy
 rcases VK (f:=ll l) (l:=l) (λo=> !jU o) (λi=>(l.take i).flatMap gY) (λ_=> .inl ()) (.inr (l.flatMap gY)) (by omega) (λi hi=>by
  unfold ll;rw[ag,Zg,cl hi];simp only[zG];rw[Ra];simp only[zG];cases jU l[i]with
  |false=>rfl
  |true=>
   have d:=Qj (l.take i);have e:=L8 l[i];rw[aD]at d;simp only[if_true,Bool.not_true];rw[zA (by simp),zD,XE (l:=gY l[i]) ((l.take i).flatMap gY) (by omega) (λj b=> ?_) ?_]
   .simp only[zG];rw[ad (n:=(i:Int)+1) (by omega),VN hi];rfl
   .unfold vR;simp only;rw[ag,Zh]
   .unfold vR;simp only;rw[ag,Zg,bq b];simp only[zG];rw[cO b];simp only[zG];rw[bp (by rw[aB,aD];omega) (by omega),ad (n:=(j:Int)+1) (by omega)]
    rfl) (by
  unfold ll
  rw[ag,Zh,cK])with⟨h,i,a⟩|⟨h,a⟩
 .rw[h];have a:aq (ll l) di (0,[])=_:=a;rw[a];rfl
 .rw[h];have a:aq (ll l) di (0,[])=_:=a;rw[a];rfl
def eu (l:List (Zd)):Zd:=l.flatMap λx=>(x.length:Int)::x
theorem K4 {l:List (Zd)}(hi:i<l.length):eu (l.take (i+1))=eu (l.take i)++[(l[i].length:Int)]++l[i]:=by
 unfold eu;rw[cQ hi,cM];simp
theorem HZ {l:List (Zd)}{M:Nat}(h: ∀x∈l,x.length<=M):(eu l).length<=(M+1)*l.length:=by
 unfold eu;induction l with
 |nil=>simp
 |cons x l b=>
  have d:=b (λy a=>h y (by simp[a]));have e:=h x (by simp);simp only[cN,aB,cB];rw[Nat.mul_add];omega
theorem Ep {l:List (Zd)}(g:l.length<=10)(h: ∀x∈l,x.length<=100000):nZ l=O (eu l):=by
 unfold nZ
 have a:aq (mC l) di (0,eu (l.take 0))=O (eu l):=by
  refine fj (n:=l.length) (λi=>eu (l.take i)) (by omega) (λi hi=> ?_) ?_
  .have b:=HZ (l:=l.take i) (M:=100000) (λx d=>h x (cP d));have e:=h _ (bD hi);rw[aD]at b;unfold mC;rw[ag,Zg,cl hi];simp only[zG];rw[bp (by omega) (by omega),bp (by rw[aB];simp;omega) (by omega),uB (by omega),ad (n:=(i:Int)+1) (by omega),K4 hi];rfl
  .unfold mC;rw[ag,Zh,cK]
 have a:aq (mC l) di (0,[])=_:=a;rw[a];rfl
theorem Q8 {l:List (Zd)}(k:l.length<=10)(h: ∀x∈l,x.length<=100000):uG l=O (eu l):=by
 unfold uG
 have a:aq (mt l) di (0,eu (l.take 0))=O (eu l):=by
  refine fj (n:=l.length) (λi=>eu (l.take i)) (by omega) (λi hi=> ?_) ?_
  .have b:=HZ (l:=l.take i) (M:=100000) (λx e=>h x (cP e));have g:=h _ (bD hi);rw[aD]at b;unfold mt;rw[ag,Zg,cl hi];simp only[zG];rw[bp (by omega) (by omega),uB (by omega),XE (l:=l[i]) (eu (l.take i)++[(l[i].length:Int)]) (by omega) (λj d=> ?_) ?_]
   .simp only[zG];rw[ad (n:=(i:Int)+1) (by omega),K4 hi];rfl
   .unfold ua;simp only;rw[cl hi];simp only[zG];rw[ag,Zh]
   .unfold ua;simp only;rw[cl hi];simp only[zG];rw[ag,Zg,cl d];simp only[zG];rw[bp (by rw[aB,aB,aD];simp;omega) (by omega),ad (n:=(j:Int)+1) (by omega)];rfl
  .unfold mt;rw[ag,Zh,cK]
 have a:aq (mt l) di (0,[])=_:=a;rw[a];rfl
section
variable {a0:Int} {a1 a2:Zd} {a3:Int} {a4:List bx} {a5:Int} {a6:List bx} {a7 a8:Int}
def JA (a0:Int)(a1 a2:Zd)(a3:Int)(a4:List bx)(a5:Int)(a6:List bx)(a7 a8:Int):Zd:=[zH zJ a0,zH zJ a3,zH zJ a5,zH zJ a7,zH zJ a8]++eu [(gy a4).2,(gy a6).2,a1,a2]
theorem G5 (l:List bx):(gy l).2.length<=5*l.length:=by
 unfold gy;split
 .simp
 .exact Qj l
theorem M8 (b:OpsOk a4)(d:OpsOk a6)(l1:a1.length<=100000)(o:a2.length<=100000): ∀x∈[(gy a4).2,(gy a6).2,a1,a2],x.length<=100000:=by
 intro x a;have e:=G5 a4;have g:=G5 a6;have j:=b.len;have k:=d.len;simp only[bB,cD,or_false]at a;rcases a with rfl|rfl|rfl|rfl<;>omega
theorem Pj (b:OpsOk a4)(d:OpsOk a6)(k:a4.length<=1500)(o:a6.length<=1500)(l1:a1.length<=100000)(p:a2.length<=100000):sq a0 a1 a2 a3 a4 a5 a6 a7 a8=O (if pu a0 a1.length a2.length a3 a4 a5 a6 a7 a8≠0 then(pu a0 a1.length a2.length a3 a4 a5 a6 a7 a8,[])else(0,JA a0 a1 a2 a3 a4 a5 a6 a7 a8)):=by
 unfold sq;have e:=M8 b d l1 p;have a:=HZ e;rw[I4 b d k o,LB (l:=a4) (by omega),LB (l:=a6) (by omega)];simp only[zG,ag];rw[Q8 (by simp) e];simp only[zG];simp only[cB,List.length_nil]at a;rw[XE (l:=eu [(gy a4).2,(gy a6).2,a1,a2]) [zH zJ a0,zH zJ a3,zH zJ a5,zH zJ a7,zH zJ a8] (by omega) (λj g=> ?_) ?_]
 .simp only[zG];split<;>rfl
 .unfold sr;simp only;rw[ag,Zh]
 .unfold sr;simp only;rw[ag,Zg,bq g];simp only[zG];rw[cO g];simp only[zG];rw[bp (by rw[aB,aD];simp;omega) (by omega),ad (n:=(j:Int)+1) (by omega)];rfl
end
theorem On : ∀(l:List (Zd)) (acc:List (Zd)) (a:Zd),S l.length (eu l++a) acc=O (acc++l,a)
 |[],acc,a=>by simp[S,eu]
 |x::l,acc,a=>by
  have e:eu (x::l)++a=(x.length:Int)::(x++(eu l++a)):=by simp[eu]
  rw[e];show S (l.length+1) _ _=_;simp only[S];rw[zF (by simp;omega),show((x.length:Int)).toNat=x.length by omega,List.drop_left,List.take_left,On l];simp
theorem Hn (q:Bool)(x:Int)(r:Zd):vG q ((if q then [x]else [])++r)=O (if q then x else 0,r):=by cases q<;>rfl
theorem SV {n:Int}(h:A9 n q=Za):mm (if q then zH zJ n else 0)=n:=by
 unfold A9 at h;unfold mm;cases q with
 |false=>simp at h;rw[h];rfl
 |true=>
  simp at h;simp only[if_true];rw[Zk];omega
theorem W4 {o:bx}(h:jU o=Za)(F:0<=o.2.2.2.2/\o.2.2.2.2<=18446744073709551615)(r:Zd):R7 (gY o++r)=(o.1,o.2.1,o.2.2.1,o.2.2.2.1,o.2.2.2.2,((gY o).length:Int),0):=by
 obtain⟨k,d,a,b,v⟩:=o;unfold jU at h;simp only[cL,decide_eq_true_eq]at h;obtain⟨E,C,A,B,g⟩:=h
 have e:gY (k,d,a,b,v)++r=zH zJ k::((if(az k).1 then [zH zJ d]else [])++((if(az k).2.1 then [zH zJ a]else [])++((if(az k).2.2.1 then [zH zJ b]else [])++((if(az k).2.2.2 then [v]else [])++r)))):=by
  simp[gY]
 have j:(gY (k,d,a,b,v)).length=1+B1 (az k).1+B1 (az k).2.1+B1 (az k).2.2.1+B1 (az k).2.2.2:=by
  unfold gY B1;simp only;generalize (az k).1=p;generalize (az k).2.1=u;generalize (az k).2.2.1=y;generalize (az k).2.2.2=z;cases p<;>cases u<;>cases y<;>cases z<;>rfl
 rw[e,Zk,j];simp only[R7];rw[Zh,Hn];simp only;rw[Hn];simp only;rw[Hn];simp only;rw[Hn];simp only;rw[SV C,SV A,SV B]
 have:(if(az k).2.2.2=Za then v else 0)=v:=by
  cases D:(az k).2.2.2 with
  |true=>rfl
  |false=>rw[D]at g;simp at g;simp[g]
 rw[this]
theorem TC (o:bx):1<=(gY o).length:=by unfold gY;simp
theorem TL : ∀(l:List bx) (acc:List bx) (f:Nat),(∀o∈l,jU o=Za)->(∀o∈l,0<=o.2.2.2.2/\o.2.2.2.2<=18446744073709551615)->(l.flatMap gY).length<f->U f (l.flatMap gY) acc=O (acc++l)
 |[],acc,0,_,_,h=>by simp at h
 |[],acc,f+1,_,_,_=>by simp[U]
 |o::l,acc,0,_,_,h=>by simp at h
 |o::l,acc,f+1,b,d,h=>by
  have g:=b o (by simp);have j:=d o (by simp);have k:=TC o;have e:(o::l).flatMap gY=gY o++l.flatMap gY:=by simp
  rw[e]at h⊢;rw[aB]at h;simp only[U];rw[zF (by rw[aB];omega),W4 g j];simp only;rw[zF (by simp),show(((gY o).length:Int)).toNat=(gY o).length by omega,List.drop_left,TL l _ f (λo a=>b o (by simp[a])) (λo a=>d o (by simp[a])) (by omega)];simp
theorem Hr {l:List bx}(a:OpsOk l)(h:yt l=Za):jd (gy l).2=(0,l):=by
 unfold yt at h;rw[cL]at h;have b:(l.any λo=> !jU o)=Zb:=by simpa using h.2
 have d: ∀o∈l,jU o=Za:=by
  intro o a;have:=List.any_eq_false.1 b o a;simpa using this
 unfold gy;rw[zF (by simp[b])];unfold jd TB;simp only;rw[TL l [] _ d a.v (by omega)];rfl
theorem Wt {R:Int}{l k:List bx}(h:lU R l Q k=0):yt l=Za/\yt k=Za:=by
 unfold lU at h;split at h
 .rename_i c;exact(c h).elim
 split at h
 .rename_i c;exact(c h).elim
 rename_i a b;unfold JY at a b;constructor
 .cases d:yt l with
  |true=>rfl
  |false=>rw[d]at a;simp at a
 .cases d:yt k with
  |true=>rfl
  |false=>rw[d]at b;simp at b
theorem SN {m:Int}{x t:Nat}{R:Int}{l:List bx}{k:List bx}{n b:Int}(h:pu m x t R l Q k n b=0):hk0 m=0/\lU R l Q k=0/\yn R Q x t=0/\hk3 m n=0/\hk4 b=0:=by
 unfold pu at h;split at h
 .rename_i c;exact(c h).elim
 split at h
 .rename_i c;exact(c h).elim
 split at h
 .rename_i c;exact(c h).elim
 split at h
 .rename_i c;exact(c h).elim
 rename_i a d e g;refine⟨by omega,by omega,by omega,by omega,h⟩
section
variable {a0:Int} {a1 a2:Zd} {a3:Int} {a4:List bx} {a5:Int} {a6:List bx} {a7 a8:Int}
theorem ag4 (g:OpsOk a4)(j:OpsOk a6)(k:pu a0 a1.length a2.length a3 a4 a5 a6 a7 a8=0)(a:Zd):
  Jz (JA a0 a1 a2 a3 a4 a5 a6 a7 a8++a)= .inr (⟨a0,a1,a2,a3,a4,a5,a6,a7,a8⟩,a):=by
 have b:=FR g j k;obtain⟨_,z,_,d,_⟩:=SN k;obtain⟨o,p⟩:=Wt z
 have e:JA a0 a1 a2 a3 a4 a5 a6 a7 a8++a=[a0,a3,a5,a7,a8]++(eu [(gy a4).2,(gy a6).2,a1,a2]++a):=by
  unfold JA;have:=b.mode;have:=b.regs;have:=b.regs';have:=b.len;have:=b.bud;rw[bl (n:=a0) (by omega),bl (n:=a3) (by omega),bl (n:=a5) (by omega),bl (n:=a7) (by omega),bl (n:=a8) (by omega),List.append_assoc]
 rw[e];unfold Jz;rw[zF (by simp)];have r:([a0,a3,a5,a7,a8]++(eu [(gy a4).2,(gy a6).2,a1,a2]++a)).drop 5=eu [(gy a4).2,(gy a6).2,a1,a2]++a:=rfl;rw[r];have u:aa1 (eu [(gy a4).2,(gy a6).2,a1,a2]++a)=O ([(gy a4).2,(gy a6).2,a1,a2],a):=On [(gy a4).2,(gy a6).2,a1,a2] [] a;rw[u];simp only;have v:([a0,a3,a5,a7,a8]++(eu [(gy a4).2,(gy a6).2,a1,a2]++a)).getD 0 0=a0:=rfl;have E:=b.mode
 have y:VY ([a0,a3,a5,a7,a8]++(eu [(gy a4).2,(gy a6).2,a1,a2]++a)) (gy a4).2 (gy a6).2 a1 a2=⟨a0,a1,a2,a3,a4,a5,a6,a7,a8⟩:=by
  have A:mm a3=a3:=by unfold mm;have:=b.regs;omega
  have B:mm a5=a5:=by unfold mm;have:=b.regs';omega
  have D:mm a8=a8:=by unfold mm;have:=b.bud;omega
  have C:(if a0=2 then 0 else mm a7)=a7:=by
   have:=b.len;unfold hk3 at d;split
   .rename_i c;rw[zE c]at d;split at d
    .omega
    split at d<;>omega
   .unfold mm;omega
  show(⟨a0,a1,a2,mm a3,(jd (gy a4).2).2,mm a5,(jd (gy a6).2).2,if a0=2 then 0 else mm a7,mm a8⟩:Hd)=_;rw[A,B,C,D,Hr g o,Hr j p]
 rw[v,Zh,Hr g o,Hr j p,zF (by simp),y];have:(⟨a0,a1,a2,a3,a4,a5,a6,a7,a8⟩:Hd).chk=0:=k;rw[this,zF (by simp)]
theorem WW {o:bx}(a:0<=o.2.2.2.2/\o.2.2.2.2<=18446744073709551615):iL (gY o):=by
 have w: ∀n:Int,0<=IntKind.u64.wrap n/\IntKind.u64.wrap n<=18446744073709551615:=λn=>by rw[Ma];omega
 intro x hx;unfold gY at hx;simp only[bB,List.mem_append]at hx;rcases hx with rfl|hx|hx|hx|hx
 .exact w _
 .split at hx
  .simp at hx;subst hx;exact w _
  .simp at hx
 .split at hx
  .simp at hx;subst hx;exact w _
  .simp at hx
 .split at hx
  .simp at hx;subst hx;exact w _
  .simp at hx
 .split at hx
  .simp at hx;subst hx;exact a
  .simp at hx
theorem QX {l:List bx}(h:OpsOk l):iL (gy l).2:=by
 unfold gy;split
 .intro x a;simp at a
 .intro x a;obtain⟨o,b,a⟩:=List.mem_flatMap.1 a;exact WW (h.v o b) x a
theorem ah4 (a:OpsOk a4)(b:OpsOk a6)(k:iL a1)(o:iL a2)(l1:a1.length<=100000)(j:a2.length<=100000):iL (JA a0 a1 a2 a3 a4 a5 a6 a7 a8):=by
 have w: ∀n:Int,0<=IntKind.u64.wrap n/\IntKind.u64.wrap n<=18446744073709551615:=λn=>by rw[Ma];omega
 have d:=M8 a b l1 j;intro x hx;unfold JA at hx;rcases List.mem_append.1 hx with hx|hx
 .simp only[bB,cD,or_false]at hx;rcases hx with rfl|rfl|rfl|rfl|rfl<;>exact w _
 .obtain⟨y,hy,hx⟩:=List.mem_flatMap.1 hx;have g:=d y hy;simp only[bB,cD,or_false]at hy;rcases List.mem_cons.1 hx with e|hz
  .omega
  .rcases hy with hy|hy|hy|hy
   .rw[hy]at hz;exact QX a x hz
   .rw[hy]at hz;exact QX b x hz
   .rw[hy]at hz;exact k x hz
   .rw[hy]at hz;exact o x hz
end
end
section
open Bool renaming and_false -> cB, not_true -> cD
open List renaming length_cons -> aB, length_append -> bB, length_singleton -> bD, length_nil -> cK, nil_append -> cL
open Nat renaming zero_add -> aD
open Option renaming isNone -> cM
theorem Iz {α γ:Type}{c:Cx}(h:c.Ok){f:α->Option (α⊕γ)}{st:Nat->Nat->Bool->Dy->List (Int×Int)->α}
  (D: ∀(i o:Nat) (en:Bool) (s:Dy) (j:List (Int×Int)) (a:Int×Int),i<20000->j.length<=100000->cz c i s->QE c en s->tA c en s=O a->vU c a s->f (st i o en s j)=O (.inl (st (i+1) o en (rK c a s) (j++[a]))))
  (E: ∀(i o:Nat) (s:Dy) (j:List (Int×Int)),i<20000->cz c i s->c.mode=2->tA c Zb s=Y->s.q= -1->s.L<65535->o<l->f (st i o Zb s j)=O (.inl (st (i+1) (o+1) Zb (Fh s) j)))
  (F: ∀(i o:Nat) (s:Dy) (j:List (Int×Int)),i<20000->cz c i s->c.mode=2->tA c Zb s=Y->s.q= -1->o=l->f (st i o Zb s j)=O (.inl (st (i+1) (o+1) Za s j)))
  {o:Nat}    {v:Nat} {p:Bool} {u:Dy} (H:Way c l o en s es v p u): ∀(i:Nat) (j:List (Int×Int)),cz c i s->QE c en s->i+es.length<=20000->j.length+es.length<=100000->
   Reach f es.length (st i o en s j) (st (i+es.length) v p u (j++ul es))/\QE c p u:=by
 induction H with
 |nil=>
  intro i j w q _ _;refine⟨?_,q⟩;rw[show ul []=([]:List (Int×Int))from rfl,List.append_nil];exact Reach.refl
 | @act o en s a es v p u e m _ A=>
  intro i j w q y z;rw[aB]at y z;obtain⟨r,B⟩:=A (i+1) (j++[a]) (oe h w e m) (Pc h w q e m) (by omega) (by rw[bB,bD];omega);refine⟨?_,B⟩;have:=(Reach.one (D i o en s j a (by omega) (by omega) w q e m)).trans r;rw[List.append_assoc]at this;rw[aB,show es.length+1=1+es.length by omega,show i+(1+es.length)=i+1+es.length by omega];exact this
 | @more o s es v p u a b d e g _ A=>
  intro i j w q y z;rw[aB]at y z;obtain⟨r,B⟩:=A (i+1) j (Cp h w a d e) ⟨q.1,λC _=>by have C:0<=s.q:=C;omega⟩ (by omega) (by omega);refine⟨?_,B⟩;have:=(Reach.one (E i o s j (by omega) w a b d e g)).trans r;rw[aB,show es.length+1=1+es.length by omega,show i+(1+es.length)=i+1+es.length by omega];exact this
 | @stop o s es v p u a b d e _ A=>
  intro i j w q y z;rw[aB]at y z;obtain⟨r,B⟩:=A (i+1) j (RR h (Nat.le_succ i) w) ⟨λk=>(k a).elim,λ_ _=>rfl⟩ (by omega) (by omega);refine⟨?_,B⟩;have:=(Reach.one (F i o s j (by omega) w a b d e)).trans r;rw[aB,show es.length+1=1+es.length by omega,show i+(1+es.length)=i+1+es.length by omega];exact this
section
variable {c:Cx} (h:c.Ok)
include h
theorem E0 (w:cz c i s):Wd c s.W/\s.W.length<=1048576:=by
 have a:Wd c s.W:=by
  unfold cz at w;split at w
  .exact w.inv.w
  .exact w.inv.w
 exact⟨a,(a.tk h).2⟩
theorem aJ7 (a:c.mode=3)(e:fJ c.mode c.X.length c.T.length c.R c.l c.Q c.k c.len c.words=(c.fixed,c.tp,c.sl,c.ns,0)):lw c.mode c.X c.T c.R c.l c.Q c.k c.len c.words=O (.inr (.inl (c.mode,Zb,Zb,c.fixed,c.tp,c.sl,c.ns,c.mode,c.R,c.Q,c.len,c.words,c.len,c.X,c.T,c.l,c.k,c.P,c.tk,c.fixed,c.fixed,c.words,(new1 c).W))):=by
 unfold lw;refine db (aT9 h a e) ?_
 refine db (show lM _ _ _ _ _ _ _ _ _ _ _ _ _ _ _ _ _ _ _ _ _ _ _ _ _ _ _ _ _ _ _ _ _ _ _ _=O (c.mode,Zb,Zb)from by
  unfold lM;rw[show ix c.mode 4=O 3 from by rw[a];rfl]
  rfl) ?_
 rfl
theorem TZ (e:c.mode=3)(e0:fJ c.mode c.X.length c.T.length c.R c.l c.Q c.k c.len c.words=(c.fixed,c.tp,c.sl,c.ns,0))(o:cs.length<=1000000)(bs:List Bool)(n:Int)(hi:i<=1000000)(w:cz c i s)(q:QE c en s):
  iE c.mode c.X c.T c.R c.l c.Q c.k c.len c.words cs bs n c.mode en Zb c.fixed c.tp c.sl c.ns c.mode c.R c.Q c.len c.words s.L s.p s.q s.c0 s.c1 s.c2 s.c3 s.z c.X c.T c.l c.k c.P c.tk s.lv s.pk c.words s.W=O (c.mode,en,Zb,c.fixed,c.tp,c.sl,c.ns,c.mode,c.R,c.Q,c.len,c.words,s.L,s.p,s.q,s.c0,s.c1,s.c2,s.c3,s.z,c.X,c.T,c.l,c.k,c.P,c.tk,s.lv,s.pk,c.words,s.W):=by
 have a:=w;unfold cz at a;rw[zE e]at a;have d:=E0 h w;have r:en=Zb:=q.1 (by omega);subst r;have b:=fj (f:=qs c.mode c.X c.T c.R c.l c.Q c.k c.len c.words cs n) (n:=cs.length) (F:=λ_=>(c.mode,Zb,Zb,c.fixed,c.tp,c.sl,c.ns,c.mode,c.R,c.Q,c.len,c.words,s.L,s.p,s.q,s.c0,s.c1,s.c2,s.c3,s.z,c.X,c.T,c.l,c.k,c.P,c.tk,s.lv,s.pk,c.words,s.W)) (c:=(c.mode,Zb,Zb,c.fixed,c.tp,c.sl,c.ns,c.mode,c.R,c.Q,c.len,c.words,s.L,s.p,s.q,s.c0,s.c1,s.c2,s.c3,s.z,c.X,c.T,c.l,c.k,c.P,c.tk,s.lv,s.pk,c.words,s.W)) (by omega) (λj u=> ?_) ?_
 .unfold iE;exact db b rfl
 .show cond (Zc ((j:Int)<((cs.length:Nat):Int))) ((rd cs (j:Int)).bind _) _=_;rw[Zf,zC];refine db (cl u) ?_;by_cases g:cs[j]=IntKind.u64.wrap n
  .rw[zB g,zC];refine db (aK6 h d.1 d.2 c.mode Zb Zb) ?_;refine db (WN h e e0 a.inv a.cnt (by omega) d.2) ?_;simp only[ck,iw];rw[Zi];rfl
  .rw[zA g,zD,Zi];rfl
 .show cond (Zc ((cs.length:Int)<((cs.length:Nat):Int))) _ _=_;rw[Ze,zD]
def F5 (c:Cx)(i b:Nat)(en:Bool)(s:Dy)(a:List (Int×Int)):=((a.length:Int),(b:Int),(a.length:Int),c.mode,en,Zb,c.fixed,c.tp,c.sl,c.ns,c.mode,c.R,c.Q,c.len,c.words,s.L,s.p,s.q,s.c0,s.c1,s.c2,s.c3,s.z,c.X,c.T,c.l,c.k,c.P,c.tk,s.lv,s.pk,c.words,s.W)
theorem ae2 (j:c.mode=3)(e0:fJ c.mode c.X.length c.T.length c.R c.l c.Q c.k c.len c.words=(c.fixed,c.tp,c.sl,c.ns,0))(g:cs.length<=1000000)(bs:List Bool)(i d:Nat)(en:Bool)(s:Dy)(b:List (Int×Int))(a:Int×Int)(hi:i<20000)(o:b.length<=100000)(w:cz c i s)(q:QE c en s)(e:tA c en s=O a)(m:vU c a s):
  jw c.mode c.R c.l c.Q c.k c.len c.words cs c.X c.T bs (F5 c i d en s b)=O (.inl (F5 c (i+1) d en (rK c a s) (b++[a]))):=by
 unfold F5 jw;refine db (aW8 h j (by omega) w e m) ?_;show cond Za _ _=_;rw[zC];refine db (TZ h j e0 g bs _ (by omega) (oe h w e m) (Pc h w q e m)) ?_;rw[bB,bD,Zi,show((b.length+1:Nat):Int)=(b.length:Int)+1 by omega]
theorem ai3 (g:c.mode=3)(i b:Nat)(en:Bool)(s:Dy)(a:List (Int×Int))(w:cz c i s)(e:tA c en s=Y)(j:c.mode=2->en=Za):
  jw c.mode c.R c.l c.Q c.k c.len c.words cs c.X c.T bs (F5 c i b en s a)=O (.inr ((a.length:Int),c.mode,en,Zb,c.fixed,c.tp,c.sl,c.ns,c.mode,c.R,c.Q,c.len,c.words,s.L,s.p,s.q,s.c0,s.c1,s.c2,s.c3,s.z,c.X,c.T,c.l,c.k,c.P,c.tk,s.lv,s.pk,c.words,s.W)):=by
 unfold F5 jw;refine db (aW6 h g w e) ?_;show cond Zb _ _=_;rw[zD];refine db (aX2 h g w) ?_
 rw[e,show(cM (Y:Option (Int×Int))&&(Zc (c.mode=2)&& !en))=Zb from by
  by_cases d:c.mode=2
  .rw[j d,cD,cB];rfl
  .rw[zA d];rfl,zD]
theorem ae8 (u:c.mode=3)(e0:fJ c.mode c.X.length c.T.length c.R c.l c.Q c.k c.len c.words=(c.fixed,c.tp,c.sl,c.ns,0))(g:cs.length<=1000000)(A:l<=40)(B:c.mode=2->bs.length=l)(H:Way c l 0 Zb (rL c) es f en s)(F:Fin c l f en s es):
  aq (jw c.mode c.R c.l c.Q c.k c.len c.words cs c.X c.T bs) di (F5 c 0 0 Zb (rL c) [])=O (((ul es).length:Int),c.mode,en,Zb,c.fixed,c.tp,c.sl,c.ns,c.mode,c.R,c.Q,c.len,c.words,s.L,s.p,s.q,s.c0,s.c1,s.c2,s.c3,s.z,c.X,c.T,c.l,c.k,c.P,c.tk,s.lv,s.pk,c.words,s.W):=by
 have w0:=og h;have v:=H.well h w0;have o:=F.le A;obtain⟨r,q⟩:=Iz h (f:=jw c.mode c.R c.l c.Q c.k c.len c.words cs c.X c.T bs) (st:=F5 c) (λi b en s d a hi y w q e m=>ae2 h u e0 g bs i b en s d a hi y w q e m) (λi b s d hi w j=>by omega) (λi b s d hi w j=>by omega) H 0 [] w0 Ij (by omega) (by simp only[cK];omega);rw[aD,cL]at r;rw[aD]at v;exact Ik r (by omega) (ai3 h u es.length f en s (ul es) v F.no F.en)
theorem Ua (r:c.mode=1)(e0:fJ c.mode c.X.length c.T.length c.R c.l c.Q c.k c.len c.words=(c.fixed,c.tp,c.sl,c.ns,0))(g:cs.length<=1000000)(bs:List Bool)(n:Int)(hi:i<=1000000)(w:cz c i s)(q:QE c en s):
  iF c.mode c.X c.T c.R c.l c.Q c.k c.len c.words cs bs n c.mode en Zb c.fixed c.tp c.sl c.ns c.mode c.R c.Q c.len c.words s.L s.p s.q s.c0 s.c1 s.c2 s.c3 s.z c.X c.T c.l c.k c.P c.tk (c.off 8:Int) c.ns (c.X.length:Int) s.lv s.pk c.words s.W=O (c.mode,en,Zb,c.fixed,c.tp,c.sl,c.ns,c.mode,c.R,c.Q,c.len,c.words,s.L,s.p,s.q,s.c0,s.c1,s.c2,s.c3,s.z,c.X,c.T,c.l,c.k,c.P,c.tk,(c.off 8:Int),c.ns,(c.X.length:Int),s.lv,s.pk,c.words,s.W):=by
 have a:=w;unfold cz at a;rw[Zh]at a;have d:=E0 h w;have b:=fj (f:=qt c.mode c.X c.T c.R c.l c.Q c.k c.len c.words cs n) (n:=cs.length) (F:=λ_=>(c.mode,en,Zb,c.fixed,c.tp,c.sl,c.ns,c.mode,c.R,c.Q,c.len,c.words,s.L,s.p,s.q,s.c0,s.c1,s.c2,s.c3,s.z,c.X,c.T,c.l,c.k,c.P,c.tk,(c.off 8:Int),c.ns,(c.X.length:Int),s.lv,s.pk,c.words,s.W)) (c:=(c.mode,en,Zb,c.fixed,c.tp,c.sl,c.ns,c.mode,c.R,c.Q,c.len,c.words,s.L,s.p,s.q,s.c0,s.c1,s.c2,s.c3,s.z,c.X,c.T,c.l,c.k,c.P,c.tk,(c.off 8:Int),c.ns,(c.X.length:Int),s.lv,s.pk,c.words,s.W)) (by omega) (λj o=> ?_) ?_
 .unfold iF;exact db b rfl
 .show cond (Zc ((j:Int)<((cs.length:Nat):Int))) ((rd cs (j:Int)).bind _) _=_;rw[Zf,zC];refine db (cl o) ?_;by_cases e:cs[j]=IntKind.u64.wrap n
  .rw[zB e,zC];refine db (aK7 h d.1 d.2 c.mode en Zb) ?_;refine db (WO h r e0 a.inv a.len a.cnt (by omega) d.2 q.1 q.2) ?_;simp only[ck,iw];rw[Zi];rfl
  .rw[zA e,zD,Zi];rfl
 .show cond (Zc ((cs.length:Int)<((cs.length:Nat):Int))) _ _=_;rw[Ze,zD]
def F6 (c:Cx)(i b:Nat)(en:Bool)(s:Dy)(a:List (Int×Int)):=((a.length:Int),(b:Int),(a.length:Int),c.mode,en,Zb,c.fixed,c.tp,c.sl,c.ns,c.mode,c.R,c.Q,c.len,c.words,s.L,s.p,s.q,s.c0,s.c1,s.c2,s.c3,s.z,c.X,c.T,c.l,c.k,c.P,c.tk,(c.off 8:Int),c.ns,(c.X.length:Int),s.lv,s.pk,c.words,s.W)
theorem ae3 (j:c.mode=1)(o:1<=c.ns)(e0:fJ c.mode c.X.length c.T.length c.R c.l c.Q c.k c.len c.words=(c.fixed,c.tp,c.sl,c.ns,0))(g:cs.length<=1000000)(bs:List Bool)(i d:Nat)(en:Bool)(s:Dy)(b:List (Int×Int))(a:Int×Int)(hi:i<20000)(p:b.length<=100000)(w:cz c i s)(q:QE c en s)(e:tA c en s=O a)(m:vU c a s):
  jx c.mode c.R c.l c.Q c.k c.len c.words cs c.X c.T bs (F6 c i d en s b)=O (.inl (F6 c (i+1) d en (rK c a s) (b++[a]))):=by
 unfold F6 jx;refine db (aW9 h j o (by omega) w e m) ?_;show cond Za _ _=_;rw[zC];refine db (Ua h j e0 g bs _ (by omega) (oe h w e m) (Pc h w q e m)) ?_;rw[bB,bD,Zi,show((b.length+1:Nat):Int)=(b.length:Int)+1 by omega]
theorem ai4 (g:c.mode=1)(j:1<=c.ns)(i b:Nat)(en:Bool)(s:Dy)(a:List (Int×Int))(w:cz c i s)(e:tA c en s=Y)(o:c.mode=2->en=Za):
  jx c.mode c.R c.l c.Q c.k c.len c.words cs c.X c.T bs (F6 c i b en s a)=O (.inr ((a.length:Int),c.mode,en,Zb,c.fixed,c.tp,c.sl,c.ns,c.mode,c.R,c.Q,c.len,c.words,s.L,s.p,s.q,s.c0,s.c1,s.c2,s.c3,s.z,c.X,c.T,c.l,c.k,c.P,c.tk,(c.off 8:Int),c.ns,(c.X.length:Int),s.lv,s.pk,c.words,s.W)):=by
 unfold F6 jx;refine db (aW7 h g j w e) ?_;show cond Zb _ _=_;rw[zD];refine db (aX3 h g j w) ?_
 rw[e,show(cM (Y:Option (Int×Int))&&(Zc (c.mode=2)&& !en))=Zb from by
  by_cases d:c.mode=2
  .rw[o d,cD,cB];rfl
  .rw[zA d];rfl,zD]
theorem ae9 (u:c.mode=1)(v:1<=c.ns)(e0:fJ c.mode c.X.length c.T.length c.R c.l c.Q c.k c.len c.words=(c.fixed,c.tp,c.sl,c.ns,0))(g:cs.length<=1000000)(B:l<=40)(C:c.mode=2->bs.length=l)(H:Way c l 0 Zb (rL c) es f en s)(F:Fin c l f en s es):
  aq (jx c.mode c.R c.l c.Q c.k c.len c.words cs c.X c.T bs) di (F6 c 0 0 Zb (rL c) [])=O (((ul es).length:Int),c.mode,en,Zb,c.fixed,c.tp,c.sl,c.ns,c.mode,c.R,c.Q,c.len,c.words,s.L,s.p,s.q,s.c0,s.c1,s.c2,s.c3,s.z,c.X,c.T,c.l,c.k,c.P,c.tk,(c.off 8:Int),c.ns,(c.X.length:Int),s.lv,s.pk,c.words,s.W):=by
 have w0:=og h;have y:=H.well h w0;have o:=F.le B;obtain⟨r,q⟩:=Iz h (f:=jx c.mode c.R c.l c.Q c.k c.len c.words cs c.X c.T bs) (st:=F6 c) (λi b en s d a hi A w q e m=>ae3 h u v e0 g bs i b en s d a hi A w q e m) (λi b s d hi w j=>by omega) (λi b s d hi w j=>by omega) H 0 [] w0 Ij (by omega) (by simp only[cK];omega);rw[aD,cL]at r;rw[aD]at y;exact Ik r (by omega) (ai4 h u v es.length f en s (ul es) y F.no F.en)
theorem Ub (r:c.mode=2)(e0:fJ c.mode c.X.length c.T.length c.R c.l c.Q c.k c.len c.words=(c.fixed,c.tp,c.sl,c.ns,0))(g:cs.length<=1000000)(bs:List Bool)(n:Int)(hi:i<=1000000)(w:cz c i s)(q:QE c en s):
  iG c.mode c.X c.T c.R c.l c.Q c.k c.len c.words cs bs n c.mode en Zb c.fixed c.tp c.sl c.ns c.mode c.R c.Q c.len c.words s.L s.p s.q s.c0 s.c1 s.c2 s.c3 s.z c.X c.T c.l c.k c.P c.tk (c.off 8:Int) c.ns (c.X.length:Int) s.lv s.pk c.words s.W=O (c.mode,en,Zb,c.fixed,c.tp,c.sl,c.ns,c.mode,c.R,c.Q,c.len,c.words,s.L,s.p,s.q,s.c0,s.c1,s.c2,s.c3,s.z,c.X,c.T,c.l,c.k,c.P,c.tk,(c.off 8:Int),c.ns,(c.X.length:Int),s.lv,s.pk,c.words,s.W):=by
 have a:=w;unfold cz at a;rw[Zh]at a;have d:=E0 h w;have b:=fj (f:=qu c.mode c.X c.T c.R c.l c.Q c.k c.len c.words cs n) (n:=cs.length) (F:=λ_=>(c.mode,en,Zb,c.fixed,c.tp,c.sl,c.ns,c.mode,c.R,c.Q,c.len,c.words,s.L,s.p,s.q,s.c0,s.c1,s.c2,s.c3,s.z,c.X,c.T,c.l,c.k,c.P,c.tk,(c.off 8:Int),c.ns,(c.X.length:Int),s.lv,s.pk,c.words,s.W)) (c:=(c.mode,en,Zb,c.fixed,c.tp,c.sl,c.ns,c.mode,c.R,c.Q,c.len,c.words,s.L,s.p,s.q,s.c0,s.c1,s.c2,s.c3,s.z,c.X,c.T,c.l,c.k,c.P,c.tk,(c.off 8:Int),c.ns,(c.X.length:Int),s.lv,s.pk,c.words,s.W)) (by omega) (λj o=> ?_) ?_
 .unfold iG;exact db b rfl
 .show cond (Zc ((j:Int)<((cs.length:Nat):Int))) ((rd cs (j:Int)).bind _) _=_;rw[Zf,zC];refine db (cl o) ?_;by_cases e:cs[j]=IntKind.u64.wrap n
  .rw[zB e,zC];refine db (aK8 h d.1 d.2 c.mode en Zb) ?_;refine db (WP h r e0 a.inv a.len a.cnt (by omega) d.2 q.1 q.2) ?_;simp only[ck,iw];rw[Zi];rfl
  .rw[zA e,zD,Zi];rfl
 .show cond (Zc ((cs.length:Int)<((cs.length:Nat):Int))) _ _=_;rw[Ze,zD]
def ux (c:Cx)(i b:Nat)(en:Bool)(s:Dy)(a:List (Int×Int)):=((a.length:Int),(b:Int),(a.length:Int),c.mode,en,Zb,c.fixed,c.tp,c.sl,c.ns,c.mode,c.R,c.Q,c.len,c.words,s.L,s.p,s.q,s.c0,s.c1,s.c2,s.c3,s.z,c.X,c.T,c.l,c.k,c.P,c.tk,(c.off 8:Int),c.ns,(c.X.length:Int),s.lv,s.pk,c.words,s.W)
theorem ae4 (j:c.mode=2)(o:1<=c.ns)(e0:fJ c.mode c.X.length c.T.length c.R c.l c.Q c.k c.len c.words=(c.fixed,c.tp,c.sl,c.ns,0))(g:cs.length<=1000000)(bs:List Bool)(i d:Nat)(en:Bool)(s:Dy)(b:List (Int×Int))(a:Int×Int)(hi:i<20000)(p:b.length<=100000)(w:cz c i s)(q:QE c en s)(e:tA c en s=O a)(m:vU c a s):
  fh c.mode c.R c.l c.Q c.k c.len c.words cs c.X c.T bs (ux c i d en s b)=O (.inl (ux c (i+1) d en (rK c a s) (b++[a]))):=by
 unfold ux fh;refine db (aX0 h j o (by omega) w e m) ?_;show cond Za _ _=_;rw[zC];refine db (Ub h j e0 g bs _ (by omega) (oe h w e m) (Pc h w q e m)) ?_;rw[bB,bD,Zi,show((b.length+1:Nat):Int)=(b.length:Int)+1 by omega]
theorem ai5 (g:c.mode=2)(j:1<=c.ns)(i b:Nat)(en:Bool)(s:Dy)(a:List (Int×Int))(w:cz c i s)(e:tA c en s=Y)(o:c.mode=2->en=Za):
  fh c.mode c.R c.l c.Q c.k c.len c.words cs c.X c.T bs (ux c i b en s a)=O (.inr ((a.length:Int),c.mode,en,Zb,c.fixed,c.tp,c.sl,c.ns,c.mode,c.R,c.Q,c.len,c.words,s.L,s.p,s.q,s.c0,s.c1,s.c2,s.c3,s.z,c.X,c.T,c.l,c.k,c.P,c.tk,(c.off 8:Int),c.ns,(c.X.length:Int),s.lv,s.pk,c.words,s.W)):=by
 unfold ux fh;refine db (aF2 h g j w e) ?_;show cond Zb _ _=_;rw[zD];refine db (ac0 h g j w) ?_
 rw[e,show(cM (Y:Option (Int×Int))&&(Zc (c.mode=2)&& !en))=Zb from by
  by_cases d:c.mode=2
  .rw[o d,cD,cB];rfl
  .rw[zA d];rfl,zD]
theorem am1 (d:c.mode=2)(g:1<=c.ns)(p:bs.length<=1000000)(i a:Nat)(s:Dy)(b:List (Int×Int))(w:cz c i s)(e:tA c Zb s=Y)(o:s.q= -1)(j:s.L<65535)(r:a<bs.length):
  fh c.mode c.R c.l c.Q c.k c.len c.words cs c.X c.T bs (ux c i a Zb s b)=O (.inl (ux c (i+1) (a+1) Zb (Fh s) b)):=by
 unfold ux fh;refine db (aF2 h d g w e) ?_;show cond Zb _ _=_;rw[zD];refine db (ac0 h d g w) ?_;rw[e,zB d];show cond Za _ _=_;rw[zC,zB (show(a:Int)<((bs.length:Nat):Int)by omega)];refine db (fdm h d g w e o j) ?_;rw[Zi,show(a:Int)+1=((a+1:Nat):Int)by omega];rfl
theorem ar4 (d:c.mode=2)(g:1<=c.ns)(j:bs.length<=1000000)(i a:Nat)(s:Dy)(b:List (Int×Int))(w:cz c i s)(e:tA c Zb s=Y)(p:s.q= -1)(o:a=bs.length):
  fh c.mode c.R c.l c.Q c.k c.len c.words cs c.X c.T bs (ux c i a Zb s b)=O (.inl (ux c (i+1) (a+1) Za s b)):=by
 unfold ux fh;refine db (aF2 h d g w e) ?_;show cond Zb _ _=_;rw[zD];refine db (ac0 h d g w) ?_;rw[e,zB d];show cond Za _ _=_;rw[zC,zA (show¬(a:Int)<((bs.length:Nat):Int)by omega)];refine db (fds h d g w e) ?_;rw[Zi,show(a:Int)+1=((a+1:Nat):Int)by omega]
theorem af0 (g:c.mode=2)(o:1<=c.ns)(e0:fJ c.mode c.X.length c.T.length c.R c.l c.Q c.k c.len c.words=(c.fixed,c.tp,c.sl,c.ns,0))(u:cs.length<=1000000)(E:l<=40)(j:c.mode=2->bs.length=l)(H:Way c l 0 Zb (rL c) es f en s)(F:Fin c l f en s es):
  aq (fh c.mode c.R c.l c.Q c.k c.len c.words cs c.X c.T bs) di (ux c 0 0 Zb (rL c) [])=O (((ul es).length:Int),c.mode,en,Zb,c.fixed,c.tp,c.sl,c.ns,c.mode,c.R,c.Q,c.len,c.words,s.L,s.p,s.q,s.c0,s.c1,s.c2,s.c3,s.z,c.X,c.T,c.l,c.k,c.P,c.tk,(c.off 8:Int),c.ns,(c.X.length:Int),s.lv,s.pk,c.words,s.W):=by
 have w0:=og h;have A:=H.well h w0;have y:=F.le E;obtain⟨r,q⟩:=Iz h (f:=fh c.mode c.R c.l c.Q c.k c.len c.words cs c.X c.T bs) (st:=ux c) (λi b en s d a hi D w q e m=>ae4 h g o e0 u bs i b en s d a hi D w q e m) (λi b s d hi w _ e v B C=>am1 h g o (by have:=j g;omega) i b s d w e v B (by have:=j g;omega)) (λi b s d hi w _ e v C=>ar4 h g o (by have:=j g;omega) i b s d w e v (by have:=j g;omega)) H 0 [] w0 Ij (by omega) (by simp only[cK];omega);rw[aD,cL]at r;rw[aD]at A;exact Ik r (by omega) (ai5 h g o es.length f en s (ul es) A F.no F.en)
end
end
section
open Go.IntKind renaming wrap -> zH, i64 -> zI, u64 -> zJ
open Int renaming toNat_natCast -> cB
open List renaming length_take -> aB, length_append -> bB, range -> bD, length_cons -> cD, length_nil -> cK
open Nat renaming le_trans -> aD, zero_add -> cL
theorem LL {f:(Int×Zd)->Option ((Int×Zd)⊕(Zd))}{v:Zd}(e: ∀(i:Nat) (o:Zd),i<8->o.length<=10000->f ((i:Int),o)=O (.inl (((i+1:Nat):Int),o++[zH zJ (v.getD i 0)])))(d: ∀o,f (8,o)=O (.inr o)){a:Zd}(g:a.length<=9000):
  aq f di (0,a)=O (a++(bD 8).map λi=>IntKind.u64.wrap (v.getD i 0)):=by
 have b:=fj (f:=f) (n:=8) (F:=λi=>a++(bD i).map λi=>IntKind.u64.wrap (v.getD i 0)) (c:=a++(bD 8).map λi=>IntKind.u64.wrap (v.getD i 0)) (by omega) (λi hi=> ?_) (d _)
 .have:a++(bD 0).map (λi=>IntKind.u64.wrap (v.getD i 0))=a:=by simp
  rw[this]at b;exact b
 .rw[e i _ hi (by rw[bB,List.length_map,List.length_range];omega),List.range_succ,List.map_append,List.append_assoc];rfl
def YJ (c:Cx)(s:Dy)(n:Nat):Zd:=([0,s.z]++eu [seg s.W (c.off 5) c.X.length,seg s.W (c.off 6) c.T.length])++[zH zJ s.L,zH zJ c.ns,zH zJ s.c0,zH zJ s.c1,zH zJ s.c2,zH zJ s.c3,zH zJ s.pk,zH zJ (n:Int)]
section
variable {c:Cx} (h:c.Ok)
include h
theorem aq1 (j:c.mode=3)(e0:fJ c.mode c.X.length c.T.length c.R c.l c.Q c.k c.len c.words=(c.fixed,c.tp,c.sl,c.ns,0))(e:cs.length<=1000000)(p:iW w=O (c.mode,c.R,c.l,c.Q,c.k,c.len,c.words,cs,0,c.X,c.T,bs))(hl:l<=40)(y:c.mode=2->bs.length=l)(H:Way c l 0 Zb (rL c) es f en s)(F:Fin c l f en s es):
  ew w=O (YJ c s (ul es).length):=by
 have w0:=og h;have r:=H.well h w0;rw[cL]at r;have u:rL c=new1 c:=by unfold rL;rw[zE j]
 have b:=TZ h j e0 e bs 0 (i:=0) (by omega) w0 Ij;have d:=ae8 h j e0 e hl y H F;rw[u]at b d;have D:=h.num.x;have E:=h.num.t;have g:gg c.mode c.X c.T c.R c.l c.Q c.k c.len c.words=O (fJ c.mode c.X.length c.T.length c.R c.l c.Q c.k c.len c.words):=A7 h.hl h.hk;rw[e0]at g
 .unfold ew;refine db p ?_;show cond (Zc ((0:Int)≠0)) _ _=_;rw[zA (by simp),zD];refine db (aJ7 h j e0) ?_;simp only[ck,iw];refine db b ?_;refine db d ?_;have I:=E0 h r;refine db (a:=(s.z,0,seg s.W (c.off 5) c.X.length,seg s.W (c.off 6) c.T.length)) ?_ ?_
  .show jN _ _ _ _ _ _ _ _ _ _ _ _ _ _ _ _ _ _ _ _ _ _ _ _ _ _ _ _ _ _=_;unfold jN;rw[ap8 h I.1];unfold Db;rw[zF (by rw[F.q];simp)];rfl
  refine db g ?_;have B:(seg s.W (c.off 5) c.X.length).length<=64:=aD (by unfold seg;rw[aB];omega) (show c.X.length<=64 by omega);have C:(seg s.W (c.off 6) c.T.length).length<=64:=aD (by unfold seg;rw[aB];omega) (show c.T.length<=64 by omega);refine db (Ep (l:=[seg s.W (c.off 5) c.X.length,seg s.W (c.off 6) c.T.length]) (by simp) (by simp;omega)) ?_
  have A:(eu [seg s.W (c.off 5) c.X.length,seg s.W (c.off 6) c.T.length]).length<=200:=by
   unfold eu;simp;omega
  rw[bp (by omega) (by omega)];refine db (show om _ _ _ _ _ _ _ _ _ _ _ _ _ _ _ _ _ _ _ _ _ _ _ _ _ _ _ _ _ _=O (s.c0,s.c1,s.c2,s.c3)from rfl) ?_;refine db (show gc _ _ _ _ _ _ _ _ _ _ _ _ _ _ _ _ _ _ _ _ _ _ _ _ _ _ _ _ _ _=O s.L from rfl) ?_;refine db (show oP _ _ _ _ _ _ _ _ _ _ _ _ _ _ _ _ _ _ _ _ _ _ _ _ _ _ _ _ _ _=O s.pk from rfl) ?_;refine db (LL (v:=[s.L,c.ns,s.c0,s.c1,s.c2,s.c3,s.pk,((ul es).length:Int)]) (λi o hi J=> ?_) (λo=> ?_) (by rw[bB];simp only[cD,cK];omega)) ?_
  .show cond (Zc ((i:Int)<8)) ((ix (i:Int) 8).bind _) _=_;rw[Zf,zC];refine db (bq hi) ?_;show gd (fB (o.length+1) 8) _=_;rw[bp (by omega) (by omega)];show O (Sum.inl (zH zI ((i:Int)+1),_))=_;rw[Zi];rfl
  .rfl
  .rfl
theorem aq2 (j:c.mode=1)(D:1<=c.ns)(e0:fJ c.mode c.X.length c.T.length c.R c.l c.Q c.k c.len c.words=(c.fixed,c.tp,c.sl,c.ns,0))(e:cs.length<=1000000)(p:iW w=O (c.mode,c.R,c.l,c.Q,c.k,c.len,c.words,cs,0,c.X,c.T,bs))(hl:l<=40)(y:c.mode=2->bs.length=l)(H:Way c l 0 Zb (rL c) es f en s)(F:Fin c l f en s es):
  ew w=O (YJ c s (ul es).length):=by
 have w0:=og h;have r:=H.well h w0;rw[cL]at r;have u:rL c=new2 c:=by unfold rL;rw[Zh]
 have b:=Ua h j e0 e bs 0 (i:=0) (by omega) w0 Ij;have d:=ae9 h j D e0 e hl y H F;rw[u]at b d;have E:=h.num.x;have I:=h.num.t;have g:gg c.mode c.X c.T c.R c.l c.Q c.k c.len c.words=O (fJ c.mode c.X.length c.T.length c.R c.l c.Q c.k c.len c.words):=A7 h.hl h.hk;rw[e0]at g
 .unfold ew;refine db p ?_;show cond (Zc ((0:Int)≠0)) _ _=_;rw[zA (by simp),zD];refine db (aJ8 h j e0) ?_;simp only[ck,iw];refine db b ?_;refine db d ?_;have J:=E0 h r;refine db (a:=(s.z,0,seg s.W (c.off 5) c.X.length,seg s.W (c.off 6) c.T.length)) ?_ ?_
  .show iU _ _ _ _ _ _ _ _ _ _ _ _ _ _ _ _ _ _ _ _ _ _ _ _ _ _ _ _ _ _ _ _ _=_;unfold iU;rw[UQ h J.1];unfold Db;rw[zF (by rw[F.q];simp)];rfl
  refine db g ?_;have B:(seg s.W (c.off 5) c.X.length).length<=64:=aD (by unfold seg;rw[aB];omega) (show c.X.length<=64 by omega);have C:(seg s.W (c.off 6) c.T.length).length<=64:=aD (by unfold seg;rw[aB];omega) (show c.T.length<=64 by omega);refine db (Ep (l:=[seg s.W (c.off 5) c.X.length,seg s.W (c.off 6) c.T.length]) (by simp) (by simp;omega)) ?_
  have A:(eu [seg s.W (c.off 5) c.X.length,seg s.W (c.off 6) c.T.length]).length<=200:=by
   unfold eu;simp;omega
  rw[bp (by omega) (by omega)];refine db (show mf _ _ _ _ _ _ _ _ _ _ _ _ _ _ _ _ _ _ _ _ _ _ _ _ _ _ _ _ _ _ _ _ _=O (s.c0,s.c1,s.c2,s.c3)from rfl) ?_;refine db (show fC _ _ _ _ _ _ _ _ _ _ _ _ _ _ _ _ _ _ _ _ _ _ _ _ _ _ _ _ _ _ _ _ _=O s.L from rfl) ?_;refine db (show mY _ _ _ _ _ _ _ _ _ _ _ _ _ _ _ _ _ _ _ _ _ _ _ _ _ _ _ _ _ _ _ _ _=O s.pk from rfl) ?_;refine db (LL (v:=[s.L,c.ns,s.c0,s.c1,s.c2,s.c3,s.pk,((ul es).length:Int)]) (λi o hi K=> ?_) (λo=> ?_) (by rw[bB];simp only[cD,cK];omega)) ?_
  .show cond (Zc ((i:Int)<8)) ((ix (i:Int) 8).bind _) _=_;rw[Zf,zC];refine db (bq hi) ?_;show gd (fB (o.length+1) 8) _=_;rw[bp (by omega) (by omega)];show O (Sum.inl (zH zI ((i:Int)+1),_))=_;rw[Zi];rfl
  .rfl
  .rfl
theorem aq3 (j:c.mode=2)(D:1<=c.ns)(e0:fJ c.mode c.X.length c.T.length c.R c.l c.Q c.k c.len c.words=(c.fixed,c.tp,c.sl,c.ns,0))(e:cs.length<=1000000)(p:iW w=O (c.mode,c.R,c.l,c.Q,c.k,c.len,c.words,cs,0,c.X,c.T,bs))(hl:l<=40)(y:c.mode=2->bs.length=l)(H:Way c l 0 Zb (rL c) es f en s)(F:Fin c l f en s es):
  ew w=O (YJ c s (ul es).length):=by
 have w0:=og h;have r:=H.well h w0;rw[cL]at r;have u:rL c=new2 c:=by unfold rL;rw[Zh]
 have b:=Ub h j e0 e bs 0 (i:=0) (by omega) w0 Ij;have d:=af0 h j D e0 e hl y H F;rw[u]at b d;have E:=h.num.x;have I:=h.num.t;have g:gg c.mode c.X c.T c.R c.l c.Q c.k c.len c.words=O (fJ c.mode c.X.length c.T.length c.R c.l c.Q c.k c.len c.words):=A7 h.hl h.hk;rw[e0]at g
 .unfold ew;refine db p ?_;show cond (Zc ((0:Int)≠0)) _ _=_;rw[zA (by simp),zD];refine db (aJ9 h j e0) ?_;simp only[ck,iw];refine db b ?_;refine db d ?_;have J:=E0 h r;refine db (a:=(s.z,0,seg s.W (c.off 5) c.X.length,seg s.W (c.off 6) c.T.length)) ?_ ?_
  .show iV _ _ _ _ _ _ _ _ _ _ _ _ _ _ _ _ _ _ _ _ _ _ _ _ _ _ _ _ _ _ _ _ _=_;unfold iV;rw[UQ h J.1];unfold Db;rw[zF (by rw[F.q];simp)];rfl
  refine db g ?_;have B:(seg s.W (c.off 5) c.X.length).length<=64:=aD (by unfold seg;rw[aB];omega) (show c.X.length<=64 by omega);have C:(seg s.W (c.off 6) c.T.length).length<=64:=aD (by unfold seg;rw[aB];omega) (show c.T.length<=64 by omega);refine db (Ep (l:=[seg s.W (c.off 5) c.X.length,seg s.W (c.off 6) c.T.length]) (by simp) (by simp;omega)) ?_
  have A:(eu [seg s.W (c.off 5) c.X.length,seg s.W (c.off 6) c.T.length]).length<=200:=by
   unfold eu;simp;omega
  rw[bp (by omega) (by omega)];refine db (show mg _ _ _ _ _ _ _ _ _ _ _ _ _ _ _ _ _ _ _ _ _ _ _ _ _ _ _ _ _ _ _ _ _=O (s.c0,s.c1,s.c2,s.c3)from rfl) ?_;refine db (show fD _ _ _ _ _ _ _ _ _ _ _ _ _ _ _ _ _ _ _ _ _ _ _ _ _ _ _ _ _ _ _ _ _=O s.L from rfl) ?_;refine db (show mZ _ _ _ _ _ _ _ _ _ _ _ _ _ _ _ _ _ _ _ _ _ _ _ _ _ _ _ _ _ _ _ _ _=O s.pk from rfl) ?_;refine db (LL (v:=[s.L,c.ns,s.c0,s.c1,s.c2,s.c3,s.pk,((ul es).length:Int)]) (λi o hi K=> ?_) (λo=> ?_) (by rw[bB];simp only[cD,cK];omega)) ?_
  .show cond (Zc ((i:Int)<8)) ((ix (i:Int) 8).bind _) _=_;rw[Zf,zC];refine db (bq hi) ?_;show gd (fB (o.length+1) 8) _=_;rw[bp (by omega) (by omega)];show O (Sum.inl (zH zI ((i:Int)+1),_))=_;rw[Zi];rfl
  .rfl
  .rfl
theorem XS (d:cv c.T)(k:cv c.X)(H:Way c l 0 Zb (rL c) es f en s)(F:Fin c l f en s es):
  s.z=lossV c (lY c l)/\seg s.W (c.off 5) c.X.length=(qY c l l).1/\seg s.W (c.off 6) c.T.length=(qY c l l).2/\(qY c l l).1.length=c.X.length/\(qY c l l).2.length=c.T.length:=by
 have J:=H.je h d k (og h) (aC1 h d k);obtain⟨⟨u,o,J⟩,_⟩:=J;have a:=aE2 h d J F.q (by rw[F.L];omega);unfold Db at a;rw[zF (by rw[F.q];simp)]at a;rw[F.L]at a;injection a with e a
 injection a with v a
 injection a with g j
 obtain⟨b,_⟩:=J.adj (by rw[F.q];simp);unfold Xb at b;rw[F.L,F.q,Int.sub_zero,cB]at b;obtain⟨_,p,r,_⟩:=J.has.lens h d;rw[<-b];rw[cB,<-b]at g j;rw[cB]at e;exact⟨e,g,j,p,r⟩
theorem Ru (D:cv c.T)(E:cv c.X)(d:fJ c.mode c.X.length c.T.length c.R c.l c.Q c.k c.len c.words=(c.fixed,c.tp,c.sl,c.ns,0))(a:cs.length<=1000000)(b:iW w=O (c.mode,c.R,c.l,c.Q,c.k,c.len,c.words,cs,0,c.X,c.T,bs))(o:l<=40)(j:c.mode=2->bs.length=l)(e:c.mode≠2->c.len=l):
  ((qY c l l).1.length=c.X.length/\(qY c l l).2.length=c.T.length)/\∃v:Zd,v.length=7/\ew w=O (([0,lossV c (lY c l)]++eu [(qY c l l).1,(qY c l l).2])++(l:Int)::v):=by
 have C:=h.num.mode;obtain⟨es,f,en,s,H,F⟩:=as1 h d (show l<=400 by omega) e;obtain⟨u,y,z,A⟩:=XS h D E H F
 have p:ew w=O (YJ c s (ul es).length):=by
  by_cases r:c.mode=3
  .exact aq1 h r d a b o j H F
  have g:=Yv h r d;by_cases B:c.mode=1
  .exact aq2 h B g d a b o j H F
  .exact aq3 h (by omega) g d a b o j H F
 rw[p];unfold YJ;rw[u,y,z,F.L,bl (n:=(l:Int)) (by omega)];exact⟨A,_,rfl,rfl⟩
end
end
end Go.V
