/- A part of the proof. No condition. -/
import Derived.Test.YtlmlogmcgeijcaaGreatDoorL3
import Derived.KernelRfl
import Derived.Test.YtlmlogmcgeijcaaGreatDoorA6
set_option linter.all false
namespace Go.V
open Go.Ab
open Option renaming some->O,none->Y
open Bool renaming true->Za,false->Zb
open Decidable renaming decide->Zc
open List renaming length->dt
open Int renaming toNat->eL
open Option renaming bind->ek
variable {buf cs rest t w:Zd}{b f i j k l r v:Nat}{s:Dy}{en q:Bool}{bs:List Bool}{Q x:Int}{es:List Ev}{a:Int×Int}
set_option maxRecDepth 100000
section
open Bool renaming not_true -> aB
section
variable {c:Cx} (h:c.Ok)
def QE (c:Cx)(en:Bool)(s:Dy):Prop:=(c.mode≠2->en=Zb)/\(0<=s.q->c.mode=2->en=Za)
def Dc :QE c Zb (qE c):=⟨λ_=>rfl,λd _=>by
 have:(qE c).q= -1:=by unfold qE;split<;>rfl
 omega⟩
include h
def GZ (w:cy c i s)(Q:QE c en s)(e:rE c en s=O a)(m:wz c a s):QE c en (sQ c a s):=by
 refine⟨Q.1,λo p=> ?_⟩;by_cases A:0<=s.q
 .exact Q.2 A p
 have u: ¬c.mode=3:=by omega
 unfold rE at e;unfold wz at m;unfold sQ at o;unfold cy at w;rw[zF u]at e m o w;rw[zE p]at e;obtain⟨y,m⟩:=m;have f:=(Kx h u w.inv m).2;have B:(HG c a.1 a.2 s).2.q=y.q:=congrArg Mc.q f
 have g:a.1=1∨a.1=2∨a.1=4∨en=Za:=by
  unfold rB at e;simp only at e;rw[zE (show(qT c s).q<0 by show s.q<0;omega)]at e;split at e
  .injection e with e;subst e;exact .inl rfl
  .split at e
   .injection e with e;subst e;exact .inr (.inr (.inl rfl))
   .split at e
    .injection e with e;subst e;exact .inr (.inl rfl)
    .split at e
     .rename_i z;exact .inr (.inr (.inr z))
     .cases e
 have d:a.1=1∨a.1=2∨a.1=4->y.q=s.q:=λk=>by
  unfold Mf at m;rcases k with k|k|k
  all_goals
   rw[k]at m;simp only[Int.reduceEq,if_false,if_true]at m;split at m
   .injection m with m;subst m;rfl
   .cases m
 rcases g with k|k|k|k
 .have:=d (.inl k);omega
 .have:=d (.inr (.inl k));omega
 .have:=d (.inr (.inr k));omega
 .exact k
theorem TG (s:Dy)(g:Int)(en d:Bool):mb g en d c.fixed c.tp c.sl c.ns c.mode c.R c.Q c.len c.words s.L s.p s.q s.c0 s.c1 s.c2 s.c3 s.z c.X c.T c.l c.k c.P c.tk s.lv s.pk c.words s.W=O (match nxB s with|some a=>(a.1,Za)|none=>(0,Zb)):=by
 unfold mb;refine cd (ab6 s g en d) ?_;rw[show gx g en d c.fixed c.tp c.sl c.ns c.mode c.R c.Q c.len c.words s.L s.p s.q s.c0 s.c1 s.c2 s.c3 s.z c.X c.T c.l c.k c.P c.tk s.lv s.pk c.words s.W=O s.L from rfl];unfold nxB;by_cases c1:s.q<0
 .by_cases c2:s.p<s.L
  .simp only[zG,zB c1,zC,zB c2,zE c1,zE c2]
  .simp only[zG,zB c1,zC,zA c2,zE c1,zF c2,zD]
 .by_cases c2:0<s.q
  .simp only[zG,zA c1,zC,zB c2,zF c1,zE c2,zD]
  .simp only[zG,zA c1,zC,zA c2,zF c1,zF c2,zD]
omit h in
def aF0 (e:nxB s=O a):a.2=0:=by
 unfold nxB at e;split at e
 .split at e<;>(cases e;rfl)
 .split at e
  .injection e with e;subst e;rfl
  .cases e
omit h in
def ax6 (d:c.mode=3)(en:Bool)(s:Dy):rE c en s=nxB s:=by unfold rE;rw[zE d]
def aY0 (d:c.mode=3)(y:i<=1000000)(w:cy c i s)(e:rE c en s=O a)(m:wz c a s):
  gj c.mode en Zb c.fixed c.tp c.sl c.ns c.mode c.R c.Q c.len c.words s.L s.p s.q s.c0 s.c1 s.c2 s.c3 s.z c.X c.T c.l c.k c.P c.tk s.lv s.pk c.words s.W=O (a.1,Za,0,c.fixed,c.tp,c.sl,c.ns,c.mode,c.R,c.Q,c.len,c.words,(sQ c a s).L,(sQ c a s).p,(sQ c a s).q,(sQ c a s).c0,(sQ c a s).c1,(sQ c a s).c2,(sQ c a s).c3,(sQ c a s).z,(sQ c a s).lv,(sQ c a s).pk,c.words,(sQ c a s).W):=by
 have g:=w;unfold cy at g;rw[zE d]at g;rw[ax6 d]at e;have o:=aF0 e;unfold wz at m;rw[zE d,o]at m;have u:sQ c a s=(Gb c a.1 0 s).2:=by unfold sQ;rw[zE d,o]
 unfold gj;rw[zD];refine cd (TG h s c.mode en Zb) ?_;rw[e];show cond (!Za) _ _=_;rw[aB,zD];refine cd (do1 h d g.inv g.cnt V1) ?_;show cond (Zc ((Gb c a.1 0 s).1≠0)) _ _=_;rw[m,u];rfl
def aX8 (d:c.mode=3)(w:cy c i s)(e:rE c en s=Y):
  gj c.mode en Zb c.fixed c.tp c.sl c.ns c.mode c.R c.Q c.len c.words s.L s.p s.q s.c0 s.c1 s.c2 s.c3 s.z c.X c.T c.l c.k c.P c.tk s.lv s.pk c.words s.W=O (0,Zb,0,c.fixed,c.tp,c.sl,c.ns,c.mode,c.R,c.Q,c.len,c.words,s.L,s.p,s.q,s.c0,s.c1,s.c2,s.c3,s.z,s.lv,s.pk,c.words,s.W):=by
 have g:=w;unfold cy at g;rw[zE d]at g;rw[ax6 d]at e;unfold gj;rw[zD];refine cd (TG h s c.mode en Zb) ?_;rw[e];rfl
def bj2 (d:c.mode=3)(w:cy c i s):
  lA c.mode en Zb c.fixed c.tp c.sl c.ns c.mode c.R c.Q c.len c.words s.L s.p s.q s.c0 s.c1 s.c2 s.c3 s.z c.X c.T c.l c.k c.P c.tk s.lv s.pk c.words s.W=O (rE c en s).isNone:=by
 have e:=w;unfold cy at e;rw[zE d]at e;rw[ax6 d];unfold lA;rw[zD];refine cd (TG h s c.mode en Zb) ?_;cases nxB s<;>rfl
def aY9 (d:c.mode=3)(w:cy c i s):
  gG c.mode en Zb c.fixed c.tp c.sl c.ns c.mode c.R c.Q c.len c.words s.L s.p s.q s.c0 s.c1 s.c2 s.c3 s.z c.X c.T c.l c.k c.P c.tk s.lv s.pk c.words s.W=O ((rE c en s).isNone&&(Zc (c.mode=2)&& !en)):=by
 unfold gG;refine cd (bj2 h d w) ?_;cases(rE c en s).isNone<;>cases Zc (c.mode=2)<;>cases en<;>rfl
omit h in
def aO9 (d:c.mode=1)(en:Bool)(s:Dy):rE c en s=B6 (qT c s):=by unfold rE;rw[Zh,Zh]
def aY1 (y:c.mode=1)(A:1<=c.ns)(u:i<=1000000)(w:cy c i s)(e:rE c en s=O a)(m:wz c a s):
  fB c.mode en Zb c.fixed c.tp c.sl c.ns c.mode c.R c.Q c.len c.words s.L s.p s.q s.c0 s.c1 s.c2 s.c3 s.z c.X c.T c.l c.k c.P c.tk (c.off 8:Int) c.ns (dt c.X:Int) s.lv s.pk c.words s.W=O (a.1,a.2,Za,0,c.fixed,c.tp,c.sl,c.ns,c.mode,c.R,c.Q,c.len,c.words,(sQ c a s).L,(sQ c a s).p,(sQ c a s).q,(sQ c a s).c0,(sQ c a s).c1,(sQ c a s).c2,(sQ c a s).c3,(sQ c a s).z,(sQ c a s).lv,(sQ c a s).pk,c.words,(sQ c a s).W):=by
 have d:=w;unfold cy at d;rw[Zh]at d;rw[aO9 y]at e;unfold wz at m;rw[Zh]at m;obtain⟨B,m⟩:=m;have o:=(Kx h V1 d.inv m).1;have g:sQ c a s=(HG c a.1 a.2 s).2:=by unfold sQ;rw[Zh]
 unfold fB;rw[zD];refine cd (Uw h V1 A d.inv c.mode en Zb) ?_;rw[e];show cond (!Za) _ _=_;rw[aB,zD];refine cd (do2 h V1 d.inv d.cnt V1) ?_;show cond (Zc ((HG c a.1 a.2 s).1≠0)) _ _=_;rw[o,g];rfl
def aX9 (g:c.mode=1)(o:1<=c.ns)(w:cy c i s)(e:rE c en s=Y):
  fB c.mode en Zb c.fixed c.tp c.sl c.ns c.mode c.R c.Q c.len c.words s.L s.p s.q s.c0 s.c1 s.c2 s.c3 s.z c.X c.T c.l c.k c.P c.tk (c.off 8:Int) c.ns (dt c.X:Int) s.lv s.pk c.words s.W=O (0,0,Zb,0,c.fixed,c.tp,c.sl,c.ns,c.mode,c.R,c.Q,c.len,c.words,s.L,s.p,s.q,s.c0,s.c1,s.c2,s.c3,s.z,s.lv,s.pk,c.words,s.W):=by
 have d:=w;unfold cy at d;rw[Zh]at d;rw[aO9 g]at e;unfold fB;rw[zD];refine cd (Uw h V1 o d.inv c.mode en Zb) ?_;rw[e];rfl
def bj3 (e:c.mode=1)(g:1<=c.ns)(w:cy c i s):
  jB c.mode en Zb c.fixed c.tp c.sl c.ns c.mode c.R c.Q c.len c.words s.L s.p s.q s.c0 s.c1 s.c2 s.c3 s.z c.X c.T c.l c.k c.P c.tk (c.off 8:Int) c.ns (dt c.X:Int) s.lv s.pk c.words s.W=O (rE c en s).isNone:=by
 have d:=w;unfold cy at d;rw[Zh]at d;rw[aO9 e];unfold jB;rw[zD];refine cd (Uw h V1 g d.inv c.mode en Zb) ?_;cases B6 (qT c s)<;>rfl
def aZ0 (d:c.mode=1)(e:1<=c.ns)(w:cy c i s):
  gc c.mode en Zb c.fixed c.tp c.sl c.ns c.mode c.R c.Q c.len c.words s.L s.p s.q s.c0 s.c1 s.c2 s.c3 s.z c.X c.T c.l c.k c.P c.tk (c.off 8:Int) c.ns (dt c.X:Int) s.lv s.pk c.words s.W=O ((rE c en s).isNone&&(Zc (c.mode=2)&& !en)):=by
 unfold gc;refine cd (bj3 h d e w) ?_;cases(rE c en s).isNone<;>cases Zc (c.mode=2)<;>cases en<;>rfl
omit h in
def aP0 (d:c.mode=2)(en:Bool)(s:Dy):rE c en s=rB en (qT c s):=by unfold rE;rw[Zh,zE d]
def aY2 (y:c.mode=2)(A:1<=c.ns)(u:i<=1000000)(w:cy c i s)(e:rE c en s=O a)(m:wz c a s):
  fC c.mode en Zb c.fixed c.tp c.sl c.ns c.mode c.R c.Q c.len c.words s.L s.p s.q s.c0 s.c1 s.c2 s.c3 s.z c.X c.T c.l c.k c.P c.tk (c.off 8:Int) c.ns (dt c.X:Int) s.lv s.pk c.words s.W=O (a.1,a.2,Za,0,c.fixed,c.tp,c.sl,c.ns,c.mode,c.R,c.Q,c.len,c.words,(sQ c a s).L,(sQ c a s).p,(sQ c a s).q,(sQ c a s).c0,(sQ c a s).c1,(sQ c a s).c2,(sQ c a s).c3,(sQ c a s).z,(sQ c a s).lv,(sQ c a s).pk,c.words,(sQ c a s).W):=by
 have d:=w;unfold cy at d;rw[Zh]at d;rw[aP0 y]at e;unfold wz at m;rw[Zh]at m;obtain⟨B,m⟩:=m;have o:=(Kx h V1 d.inv m).1;have g:sQ c a s=(HG c a.1 a.2 s).2:=by unfold sQ;rw[Zh]
 unfold fC;rw[zD];refine cd (ah6 h V1 A d.inv c.mode en Zb) ?_;rw[e];show cond (!Za) _ _=_;rw[aB,zD];refine cd (do2 h V1 d.inv d.cnt V1) ?_;show cond (Zc ((HG c a.1 a.2 s).1≠0)) _ _=_;rw[o,g];rfl
def Ya (g:c.mode=2)(o:1<=c.ns)(w:cy c i s)(e:rE c en s=Y):
  fC c.mode en Zb c.fixed c.tp c.sl c.ns c.mode c.R c.Q c.len c.words s.L s.p s.q s.c0 s.c1 s.c2 s.c3 s.z c.X c.T c.l c.k c.P c.tk (c.off 8:Int) c.ns (dt c.X:Int) s.lv s.pk c.words s.W=O (0,0,Zb,0,c.fixed,c.tp,c.sl,c.ns,c.mode,c.R,c.Q,c.len,c.words,s.L,s.p,s.q,s.c0,s.c1,s.c2,s.c3,s.z,s.lv,s.pk,c.words,s.W):=by
 have d:=w;unfold cy at d;rw[Zh]at d;rw[aP0 g]at e;unfold fC;rw[zD];refine cd (ah6 h V1 o d.inv c.mode en Zb) ?_;rw[e];rfl
def bj4 (e:c.mode=2)(g:1<=c.ns)(w:cy c i s):
  jC c.mode en Zb c.fixed c.tp c.sl c.ns c.mode c.R c.Q c.len c.words s.L s.p s.q s.c0 s.c1 s.c2 s.c3 s.z c.X c.T c.l c.k c.P c.tk (c.off 8:Int) c.ns (dt c.X:Int) s.lv s.pk c.words s.W=O (rE c en s).isNone:=by
 have d:=w;unfold cy at d;rw[Zh]at d;rw[aP0 e];unfold jC;rw[zD];refine cd (ah6 h V1 g d.inv c.mode en Zb) ?_;cases rB en (qT c s)<;>rfl
def Tm (d:c.mode=2)(e:1<=c.ns)(w:cy c i s):
  ge c.mode en Zb c.fixed c.tp c.sl c.ns c.mode c.R c.Q c.len c.words s.L s.p s.q s.c0 s.c1 s.c2 s.c3 s.z c.X c.T c.l c.k c.P c.tk (c.off 8:Int) c.ns (dt c.X:Int) s.lv s.pk c.words s.W=O ((rE c en s).isNone&&(Zc (c.mode=2)&& !en)):=by
 unfold ge;refine cd (bj4 h d e w) ?_;cases(rE c en s).isNone<;>cases Zc (c.mode=2)<;>cases en<;>rfl
def fdm (o:c.mode=2)(u:1<=c.ns)(w:cy c i s)(e:rE c Zb s=Y)(A:s.q= -1)(y:s.L<65535):
  fy Za c.mode Zb Zb c.fixed c.tp c.sl c.ns c.mode c.R c.Q c.len c.words s.L s.p s.q s.c0 s.c1 s.c2 s.c3 s.z c.X c.T c.l c.k c.P c.tk (c.off 8:Int) c.ns (dt c.X:Int) s.lv s.pk c.words s.W=O (0,c.mode,Zb,Zb,c.fixed,c.tp,c.sl,c.ns,c.mode,c.R,c.Q,c.len,c.words,(Ga s).L,(Ga s).p,(Ga s).q,(Ga s).c0,(Ga s).c1,(Ga s).c2,(Ga s).c3,(Ga s).z):=by
 have g:=w;unfold cy at g;rw[Zh]at g
 have d:xM c s=(0,Ga s):=by
  unfold xM;rw[Zh,Zh,Zh];rfl
 unfold fy;rw[zD];refine cd (Tm h o u w) ?_;rw[e,zB o];show cond (!Za) _ _=_;rw[aB,zD,zD];refine cd (aW9 g.inv.L) ?_;rw[d];rfl
def fds (d:c.mode=2)(g:1<=c.ns)(w:cy c i s)(e:rE c Zb s=Y):
  fy Zb c.mode Zb Zb c.fixed c.tp c.sl c.ns c.mode c.R c.Q c.len c.words s.L s.p s.q s.c0 s.c1 s.c2 s.c3 s.z c.X c.T c.l c.k c.P c.tk (c.off 8:Int) c.ns (dt c.X:Int) s.lv s.pk c.words s.W=O (0,c.mode,Za,Zb,c.fixed,c.tp,c.sl,c.ns,c.mode,c.R,c.Q,c.len,c.words,s.L,s.p,s.q,s.c0,s.c1,s.c2,s.c3,s.z):=by
 unfold fy;rw[zD];refine cd (Tm h d g w) ?_;rw[e,zB d];rfl
end
end
section
open Go.IntKind renaming wrap -> zH, i64 -> zI, u64 -> zJ
open Bool renaming not_true -> bD
open Eq renaming trans -> aD
open List renaming length_drop -> aB, getElem?_cons_succ -> cB, getElem?_cons_zero -> cD, getElem?_eq_getElem -> cK, length_append -> cL, length_take -> cM, mem_of_mem_drop -> cN, take_length -> cO, getElem_cons_drop -> cP, getElem_mem -> cQ
open Nat renaming le_trans -> bB
section
variable {l:List bz} {m:Zd}
end
section
variable {l:List bz} {m:Zd}
end
section
variable {a0:Int} {a1 a2:Zd} {a3:Int} {a4:List bz} {a5:Int} {a6:List bz} {a7 a8:Int}
end
def Vu {f:(Int×Zd)->Option ((Int×Zd)⊕Zd)}{l:Zd}(s:Zd)(o:dt l<1000000)(g: ∀i,(hi:i<dt l)->f ((i:Int),s++l.take i)=O (.inl (((i+1:Nat):Int),s++l.take i++[l[i]])))(e:f ((dt l:Int),s++l)=O (.inr (s++l))):am f cv (0,s)=O (s++l):=by
 have d:am f cv (0,s++l.take 0)=O (s++l):=by
  refine eZ (n:=dt l) (λi=>s++l.take i) V1 (λi hi=> ?_) ?_
  .rw[g i hi,List.take_succ_eq_append_getElem hi,List.append_assoc]
  .rw[cO,e]
 rwa [List.take_zero,List.append_nil]at d
section
variable {a0:Int} {a1 a2:Zd} {a3:Int} {a4:List bz} {a5:Int} {a6:List bz} {a7 a8:Int}
end
section
variable (a0:Int) (a1 a2:Zd) (a3:Int) (a4:List bz) (a5:Int) (a6:List bz) (a7 a8:Int)
end
def lI :Bool->Zd->Option (Int×Zd)
 |false,t=>O (0,t)
 |true,[]=>Y
 |true,x::t=>O (x,t)
def pT (b:Bool):Nat:=if b then 1 else 0
def mm (x:Int):Int:=min x 2147483647
def R7 :Zd->Int×Int×Int×Int×Int×Int×Int
 |[]=>(0,0,0,0,0,0,4)
 |k::t=>if 7<k then(0,0,0,0,0,0,6)else
  match lI (ba k).1 t with
  |none=>(0,0,0,0,0,0,4)
  |some (d,e)=>match lI (ba k).2.1 e with
   |none=>(0,0,0,0,0,0,4)
   |some (a,g)=>match lI (ba k).2.2.1 g with
    |none=>(0,0,0,0,0,0,4)
    |some (b,o)=>match lI (ba k).2.2.2 o with
     |none=>(0,0,0,0,0,0,4)
     |some (v,p)=>(k,mm d,mm a,mm b,v,((1+pT (ba k).1+pT (ba k).2.1+pT (ba k).2.2.1+pT (ba k).2.2.2:Nat):Int),0)
abbrev gE (w:Zd):Prop:= ∀x∈w,0<=x/\x<=18446744073709551615
def BX {n:Nat}(h:w.drop n=x::t):n<dt w/\rd w (n:Int)=O x/\w.drop (n+1)=t/\x∈w:=by
 have d:n<dt w:=by
  rcases Nat.lt_or_ge n (dt w) with h1|h1
  .exact h1
  .rw[List.drop_of_length_le h1]at h;cases h
 rw[<-cP d]at h;injection h with h1 e
 exact⟨d,by rw[cg d,h1],e,by rw[<-h1];exact cQ d⟩
def LM {n:Nat}(h:w.drop n=[]):dt w<=n:=by
 rcases Nat.lt_or_ge n (dt w) with h1|h1
 .rw[<-cP h1]at h;cases h
 .exact h1
def lh {n:Nat}{o:Zd}(h:w.drop n=t)(d:lI q t=O (x,o)):w.drop (n+pT q)=o/\(x=0∨x∈w)/\(n<=dt w->n+pT q<=dt w):=by
 cases q with
 |false=>
  injection d with d
  injection d with e g
  exact⟨by rw[<-g,<-h];rfl, .inl e.symm,λh=>h⟩
 |true=>
  cases t with
  |nil=>cases d
  |cons y t=>
   injection d with d
   injection d with e g
   have⟨p,A,u,z⟩:=BX h;exact⟨by rw[<-g,<-u];rfl, .inr (e▸z),λ_=>p⟩
def Sc (o:dt w<=1000000){n:Nat}(h:w.drop n=t)(p:n<=100):
  jM q (n:Int) w Zb=O (match lI q t with
   |some (x,_)=>(x,((n+pT q:Nat):Int),Zb)
   |none=>(0,((n+1:Nat):Int),Za)):=by
 unfold jM;cases q with
 |false=>rfl
 |true=>
  simp only[bD,zD];rw[ad (n:=(n:Int)+1) V1,ad (n:=(n:Int)+1-1) V1,ag];cases t with
  |nil=>
   have:=LM h;rw[Zg];rfl
  |cons x t=>
   have⟨e,d,g,_⟩:=BX h;rw[Zh,show(n:Int)+1-1=(n:Int)by omega,d];rfl
def C6 (d:dt w<=1000000){n:Nat}(e:n<=100): ∃x m,jM q (n:Int) w Za=O (x,((m:Nat):Int),Za)/\m<=n+1:=by
 unfold jM;cases q with
 |false=>exact⟨_,n,rfl,V1⟩
 |true=>
  simp only[bD,zD];rw[ad (n:=(n:Int)+1) V1,ad (n:=(n:Int)+1-1) V1,ag];by_cases c:(dt w:Int)<(n:Int)+1
  .rw[zE c];exact⟨_,n+1,rfl,V1⟩
  .rw[zF c,show(n:Int)+1-1=(n:Int)by omega,cg (show n<(dt w) by omega)];exact⟨_,n+1,rfl,V1⟩
def YW (o:gE w)(d:dt w<=1000000){n:Nat}(h:w.drop n=t)(e:n<=100):
  gQ q (n:Int) w Zb=O (match lI q t with
   |some (x,_)=>(mm x,((n+pT q:Nat):Int),Zb)
   |none=>(0,((n+1:Nat):Int),Za)):=by
 unfold gQ;rw[Sc d h e];cases g:lI q t with
 |none=>rfl
 |some p=>
  have⟨x,u⟩:=p;have⟨_,hx,_⟩:=lh h g
  have hx:0<=x:=by
   rcases hx with rfl|hx
   .omega
   .exact(o x hx).1
  simp only[zG];rw[Zi];rfl
def Lo (g:dt w<=1000000){n:Nat}(o:n<=100): ∃x m,gQ q (n:Int) w Za=O (x,((m:Nat):Int),Za)/\m<=n+1:=by
 have⟨x,m,d,e⟩:=C6 (q:=q) g o;unfold gQ;rw[d];exact⟨_,m,rfl,e⟩
def Sq (y:gE w)(d:w.length<=1000000):vM w=O (R7 w):=by
 unfold vM;cases w with
 |nil=>rfl
 |cons k t=>
  have hk:=y k V2;simp only[ag];rw[zF V3];have B:rd (k::t) 0=O k:=cg (l:=k::t) (i:=0) V2;rw[B];simp only[zG];simp only[R7];by_cases c:7<k
  .rw[Zg,zE c]
  rw[Zh,zF c,ad (n:=k) V1,I4];simp only[zG];generalize ba k=q;obtain⟨e,g,o,p⟩:=q;simp only;have D:(k::t).drop 1=t:=rfl;have z:=YW y d (q:=e) D V1;have z:gQ e 1 (k::t) Zb=_:=z;have f1:pT e<=1:=by cases e<;>decide
  have f2:pT g<=1:=by cases g<;>decide
  have f3:pT o<=1:=by cases o<;>decide
  rw[z];cases N:lI e t with
  |none=>
   simp only[zG];obtain⟨x2,X,M,l2⟩:=Lo (q:=g) d (n:=1+1) V1;rw[M];simp only[zG];obtain⟨J,C,A,W⟩:=Lo (q:=o) d (n:=X) V1;rw[A];simp only[zG];obtain⟨K,I,u,H⟩:=C6 (q:=p) d (n:=C) V1;rw[u];rfl
  |some Z=>
   obtain⟨x1,t1⟩:=Z;obtain⟨E,_,_⟩:=lh D N;simp only[zG];rw[YW y d (q:=g) E V1];cases T:lI g t1 with
   |none=>
    simp only[zG];obtain⟨J,C,A,W⟩:=Lo (q:=o) d (n:=1+pT e+1) V1;rw[A];simp only[zG];obtain⟨K,I,u,H⟩:=C6 (q:=p) d (n:=C) V1;rw[u];rfl
   |some p2=>
    obtain⟨x2,t2⟩:=p2;obtain⟨F,_,_⟩:=lh E T;simp only[zG];rw[YW y d (q:=o) F V1];cases V:lI o t2 with
    |none=>
     simp only[zG];obtain⟨K,I,u,H⟩:=C6 (q:=p) d (n:=1+pT e+pT g+1) V1;rw[u];rfl
    |some p3=>
     obtain⟨J,t3⟩:=p3;obtain⟨L,_,_⟩:=lh F V;simp only[zG];rw[Sc d (q:=p) L V1];cases h4:lI p t3 with
     |none=>rfl
     |some p4=>rfl
def FT (o:dt w<=1000000){n:Nat}(h:w.drop n=t)(p:n<=100){γ:Type}{ok:Int->Int->Option γ}{bad:Option γ}{skip:Option γ}(u:skip=ok 0 (n:Int)∨q=Za):
  (cond (!q) skip (cond (Zc ((dt w:Int)<=(n:Int))) bad (ek (rd w (n:Int)) λx=>ok x (zH zI ((n:Int)+1)))))=(match lI q t with
   |none=>bad
   |some (x,_)=>if q then ok x ((n+pT q:Nat):Int)else skip):=by
 cases q with
 |false=>rfl
 |true=>
  simp only[bD,zD,if_true];rw[ad (n:=(n:Int)+1) V1,ag];cases t with
  |nil=>
   have:=LM h;rw[Zg];rfl
  |cons x t=>
   have⟨e,d,g,_⟩:=BX h;rw[Zh,d];rfl
def Qh (x:Int){γ:Type}(f:Int->γ):cond (Zc (2147483647<x)) (f 2147483647) (f x)=f (mm x):=by
 rw[ag];unfold mm;split
 .rw[show min x 2147483647=2147483647 by omega]
 .rw[show min x 2147483647=x by omega]
def UH (hu:gE w)(J:w.length<=1000000):xT w=O (R7 w):=by
 unfold xT;cases w with
 |nil=>rfl
 |cons k t=>
  have hk:=hu k V2;simp only[ag];rw[zF V3];have M:rd (k::t) 0=O k:=cg (l:=k::t) (i:=0) V2;rw[M];simp only[zG];simp only[R7];by_cases c:7<k
  .rw[zE c,zE c]
  rw[zF c,zF c,ad (n:=k) V1,wb];simp only[zG];generalize ba k=q;obtain⟨o,u,A,C⟩:=q;simp only;have W:(k::t).drop 1=t:=rfl;have f1:pT o<=1:=by cases o<;>decide
  have f2:pT u<=1:=by cases u<;>decide
  have f3:pT A<=1:=by cases A<;>decide
  have H: ∀(y:Int),(y=0∨y∈k::t)->0<=mm y/\mm y<=2147483647:=by
   intro y hy
   have:0<=y:=by
    rcases hy with rfl|hy
    .omega
    .exact(hu y hy).1
   unfold mm;omega
  have s0: ∀(n:Nat) (B:Zd),(k::t).drop n=B->n<=100->fH (k::t) (o,u,A,C) (0,(n:Int),0,0,0,0)=(match lI o B with
    |none=>O (.inr (.inl (0,0,0,0)))
    |some (x,_)=>O (.inl (1,((n+pT o:Nat):Int),mm x,0,0,0))):=by
   intro n B E F;have e:fH (k::t) (o,u,A,C) (0,(n:Int),0,0,0,0)=cond (!o) (O (.inl (1,(n:Int),0,0,0,0))) (cond (Zc (((k::t).length:Int)<=(n:Int))) (O (.inr (.inl (0,0,0,0)))) ((rd (k::t) (n:Int)).bind λx=>cond (Zc (2147483647<x)) (O (.inl (1,zH zI ((n:Int)+1),2147483647,0,0,0))) (O (.inl (1,zH zI ((n:Int)+1),x,0,0,0))))):=rfl;rw[e];refine aD (FT (γ:=(Int×Int×Int×Int×Int×Int)⊕((Int×Int×Int×Int)⊕(Int×Int×Int×Int×Int))) J E F (q:=o) (ok:=λx m=>cond (Zc (2147483647<x)) (O (.inl (1,m,2147483647,0,0,0))) (O (.inl (1,m,x,0,0,0)))) (bad:=O (.inr (.inl (0,0,0,0)))) (skip:=O (.inl (1,(n:Int),0,0,0,0))) (by cases o;exact .inl rfl;exact .inr rfl)) ?_;cases z:lI o B with
   |none=>rfl
   |some p=>
    obtain⟨x,T⟩:=p;simp only;rw[Qh x (λy=>O (Sum.inl (1,((n+pT o:Nat):Int),y,0,0,0)))];cases o with
    |true=>rfl
    |false=>
     injection z with z
     injection z with z _
     rw[<-z];rfl
  have s1: ∀(n:Nat) (B:Zd) (d:Int),(k::t).drop n=B->n<=100->fH (k::t) (o,u,A,C) (1,(n:Int),d,0,0,0)=(match lI u B with
    |none=>O (.inr (.inl (d,0,0,0)))
    |some (x,_)=>O (.inl (2,((n+pT u:Nat):Int),d,mm x,0,0))):=by
   intro n B d E F;have e:fH (k::t) (o,u,A,C) (1,(n:Int),d,0,0,0)=cond (!u) (O (.inl (2,(n:Int),d,0,0,0))) (cond (Zc (((k::t).length:Int)<=(n:Int))) (O (.inr (.inl (d,0,0,0)))) ((rd (k::t) (n:Int)).bind λx=>cond (Zc (2147483647<x)) (O (.inl (2,zH zI ((n:Int)+1),d,2147483647,0,0))) (O (.inl (2,zH zI ((n:Int)+1),d,x,0,0))))):=rfl;rw[e];refine aD (FT (γ:=(Int×Int×Int×Int×Int×Int)⊕((Int×Int×Int×Int)⊕(Int×Int×Int×Int×Int))) J E F (q:=u) (ok:=λx m=>cond (Zc (2147483647<x)) (O (.inl (2,m,d,2147483647,0,0))) (O (.inl (2,m,d,x,0,0)))) (bad:=O (.inr (.inl (d,0,0,0)))) (skip:=O (.inl (2,(n:Int),d,0,0,0))) (by cases u;exact .inl rfl;exact .inr rfl)) ?_;cases z:lI u B with
   |none=>rfl
   |some p=>
    obtain⟨x,T⟩:=p;simp only;rw[Qh x (λy=>O (Sum.inl (2,((n+pT u:Nat):Int),d,y,0,0)))];cases u with
    |true=>rfl
    |false=>
     injection z with z
     injection z with z _
     rw[<-z];rfl
  have s2: ∀(n:Nat) (B:Zd) (d g:Int),(k::t).drop n=B->n<=100->fH (k::t) (o,u,A,C) (2,(n:Int),d,g,0,0)=(match lI A B with
    |none=>O (.inr (.inl (d,g,0,0)))
    |some (x,_)=>O (.inl (3,((n+pT A:Nat):Int),d,g,mm x,0))):=by
   intro n B d g E F;have e:fH (k::t) (o,u,A,C) (2,(n:Int),d,g,0,0)=cond (!A) (O (.inl (3,(n:Int),d,g,0,0))) (cond (Zc (((k::t).length:Int)<=(n:Int))) (O (.inr (.inl (d,g,0,0)))) ((rd (k::t) (n:Int)).bind λx=>cond (Zc (2147483647<x)) (O (.inl (3,zH zI ((n:Int)+1),d,g,2147483647,0))) (O (.inl (3,zH zI ((n:Int)+1),d,g,x,0))))):=rfl;rw[e];refine aD (FT (γ:=(Int×Int×Int×Int×Int×Int)⊕((Int×Int×Int×Int)⊕(Int×Int×Int×Int×Int))) J E F (q:=A) (ok:=λx m=>cond (Zc (2147483647<x)) (O (.inl (3,m,d,g,2147483647,0))) (O (.inl (3,m,d,g,x,0)))) (bad:=O (.inr (.inl (d,g,0,0)))) (skip:=O (.inl (3,(n:Int),d,g,0,0))) (by cases A;exact .inl rfl;exact .inr rfl)) ?_;cases z:lI A B with
   |none=>rfl
   |some p=>
    obtain⟨x,T⟩:=p;simp only;rw[Qh x (λy=>O (Sum.inl (3,((n+pT A:Nat):Int),d,g,y,0)))];cases A with
    |true=>rfl
    |false=>
     injection z with z
     injection z with z _
     rw[<-z];rfl
  have s3: ∀(n:Nat) (B:Zd) (d g D:Int),(k::t).drop n=B->n<=100->fH (k::t) (o,u,A,C) (3,(n:Int),d,g,D,0)=(match lI C B with
    |none=>O (.inr (.inl (d,g,D,0)))
    |some (x,_)=>O (.inl (4,((n+pT C:Nat):Int),d,g,D,x))):=by
   intro n B d g D E F;have e:fH (k::t) (o,u,A,C) (3,(n:Int),d,g,D,0)=cond (!C) (O (.inl (4,(n:Int),d,g,D,0))) (cond (Zc (((k::t).length:Int)<=(n:Int))) (O (.inr (.inl (d,g,D,0)))) ((rd (k::t) (n:Int)).bind λx=>O (.inl (4,zH zI ((n:Int)+1),d,g,D,x)))):=rfl;rw[e];refine aD (FT (γ:=(Int×Int×Int×Int×Int×Int)⊕((Int×Int×Int×Int)⊕(Int×Int×Int×Int×Int))) J E F (q:=C) (ok:=λx m=>O (.inl (4,m,d,g,D,x))) (bad:=O (.inr (.inl (d,g,D,0)))) (skip:=O (.inl (4,(n:Int),d,g,D,0))) (by cases C;exact .inl rfl;exact .inr rfl)) ?_;cases z:lI C B with
   |none=>rfl
   |some p=>
    obtain⟨x,T⟩:=p;simp only;cases C with
    |true=>rfl
    |false=>
     injection z with z
     injection z with z _
     rw[<-z];rfl
  have s4: ∀(n d g D v3:Int),fH (k::t) (o,u,A,C) (4,n,d,g,D,v3)=O (.inr (.inr (n,d,g,D,v3))):=λ_ _ _ _ _=>rfl
  obtain⟨N,hB⟩: ∃N,cv=N+1+1+1+1+1:=⟨18446744073709551611,rfl⟩
  rw[hB,bm];have L:=s0 1 t W V1;have L:fH (k::t) (o,u,A,C) (0,1,0,0,0,0)=_:=L;rw[L];cases h1:lI o t with
  |none=>simp only[zG,bg]
  |some p1=>
   obtain⟨I,t1⟩:=p1;obtain⟨X,m1,_⟩:=lh W h1;have q1:=H I m1;simp only[zG,bg];rw[bm,s1 (1+pT o) t1 (mm I) X V1];cases h2:lI u t1 with
   |none=>simp only[zG,bg]
   |some p2=>
    obtain⟨K,t2⟩:=p2;obtain⟨Z,m2,_⟩:=lh X h2;have q2:=H K m2;simp only[zG,bg];rw[bm,s2 (1+pT o+pT u) t2 (mm I) (mm K) Z V1];cases h3:lI A t2 with
    |none=>simp only[zG,bg]
    |some p3=>
     obtain⟨V,t3⟩:=p3;obtain⟨d4,m3,_⟩:=lh Z h3;have q3:=H V m3;simp only[zG,bg];rw[bm,s3 (1+pT o+pT u+pT A) t3 (mm I) (mm K) (mm V) d4 V1];cases h4:lI C t3 with
     |none=>simp only[zG,bg]
     |some p4=>
      obtain⟨x4,t4⟩:=p4;simp only[zG,bg];rw[bm,s4];simp only[zG,bg];rw[ad (n:=mm I) V1,ad (n:=mm K) V1,ad (n:=mm V) V1]
def YE (B:gE w)(C:w≠[])(d:(R7 w).2.2.2.2.2.2=0): ∃n:Nat,(R7 w).2.2.2.2.2.1=(n:Int)/\1<=n/\n<=dt w/\0<=(R7 w).2.2.2.2.1/\(R7 w).2.2.2.2.1<=18446744073709551615:=by
 cases w with
 |nil=>exact(C rfl).elim
 |cons k t=>
  simp only[R7]at d⊢;have u:(k::t).drop 1=t:=rfl;by_cases c:7<k
  .rw[zE c]at d;cases d
  rw[zF c]at d⊢;cases e:lI (ba k).1 t with
  |none=>rw[e]at d;cases d
  |some I=>
   have⟨Z,M⟩:=I;have⟨y,_,D⟩:=lh u e;simp only[e]at d⊢;cases g:lI (ba k).2.1 M with
   |none=>rw[g]at d;cases d
   |some J=>
    have⟨x2,N⟩:=J;have⟨z,_,E⟩:=lh y g;simp only[g]at d⊢;cases o:lI (ba k).2.2.1 N with
    |none=>rw[o]at d;cases d
    |some K=>
     have⟨x3,T⟩:=K;have⟨A,_,F⟩:=lh z o;simp only[o]at d⊢;cases p:lI (ba k).2.2.2 T with
     |none=>rw[p]at d;cases d
     |some L=>
      have⟨V,X⟩:=L;have⟨W,m4,H⟩:=lh A p;simp only[p];refine⟨_,rfl,V1,H (F (E (D V2))), ?_⟩;rcases m4 with rfl|m4
      .omega
      .exact B V m4
def U :Nat->Zd->List bz->Option (List bz)
 |0,_,_=>Y
 |f+1,w,d=>if dt w=0 then O d else if(R7 w).2.2.2.2.2.2≠0 then Y else U f (w.drop (eL (R7 w).2.2.2.2.2.1)) (d++[((R7 w).1,(R7 w).2.1,(R7 w).2.2.1,(R7 w).2.2.2.1,(R7 w).2.2.2.2.1)])
def NL (w:Zd):Option (List bz):=U (dt w+1) w []
def iv (w:Zd):Int×List bz:=match NL w with
 |some l=>(0,l)
 |none=>(6,[])
def gE.drop (h:gE w)(n:Nat):gE (w.drop n):=λx d=>h x (cN d)
def aJ3 : ∀(f:Nat) (w:Zd) (d l:List bz),gE w->U f w d=O l->(∀o∈d,0<=o.2.2.2.2/\o.2.2.2.2<=18446744073709551615)->dt l<=dt d+dt w/\∀o∈l,0<=o.2.2.2.2/\o.2.2.2.2<=18446744073709551615
 |0,w,d,l,_,h,_=>by cases h
 |f+1,w,d,l,u,h,p=>by
  simp only[U]at h;split at h
  .injection h with h
   subst h;exact⟨V1,p⟩
  .rename_i B;split at h
   .cases h
   .rename_i E;have⟨n,z,C,D,A⟩:=YE u (λe=>B (by rw[e];rfl)) V1;rw[z]at h
    have⟨g,y⟩:=aJ3 f _ _ l (u.drop _) h (λo ho=>by
     rcases List.mem_append.1 ho with ho|ho
     .exact p o ho
     .simp at ho;subst ho
      exact A)
    refine⟨?_,y⟩;rw[cL,aB]at g;simp at g;omega
def Fm (p:gE w)(u:dt w<=4000):OpsOk (iv w).2:=by
 unfold iv NL;cases h:U (dt w+1) w []with
 |none=>exact⟨V2,λo d=>by simp at d⟩
 |some l=>
  have⟨e,g⟩:=aJ3 _ _ _ _ p h (λo d=>by simp at d);exact⟨by simp at e⊢;omega,g⟩
def KH (g:gE w):dt (iv w).2<=dt w:=by
 unfold iv NL;cases h:U (dt w+1) w []with
 |none=>simp
 |some l=>
  have⟨d,p⟩:=aJ3 _ _ _ _ g h (λo e=>by simp at e);simpa using d
def wK {n:Nat}:pU w (n:Int) (dt w:Int)=w.drop n:=by
 unfold pU;rw[show(eL ((dt w:Int)))=(dt w) by omega,show(eL ((n:Int)))=n by omega,cO]
def Gv {a0:Zd}(C:gE a0)(H:dt a0<=100000):sj a0=O (iv a0):=by
 unfold sj iv
 have⟨c,B,h⟩:=qC (f:=sI) (a:=(a0,Za,([]:List bz))) (λs=> ∃w g f,s=(w,Za,g)/\(dt w)<f/\U f w g=NL a0/\gE w/\(dt g)+dt w<=dt a0) (λs=>dt s.1)
  (λc=>(c.1=Zb/\NL a0=Y)∨(c.1=Za/\NL a0=O c.2)) ⟨a0,[],dt a0+1,rfl,V1,rfl,C,V2⟩ V3 (by
  rintro _ ⟨w,g,f,rfl,F,d,z,A⟩;cases f with
  |zero=>omega
  |succ f=>
  simp only[U]at d;simp only[sI,ag];by_cases y:dt w=0
  .rw[zE y]at d;rw[Zh];exact .inr ⟨_,rfl, .inr ⟨rfl,d.symm⟩⟩
  .rw[zF y]at d;rw[Zg,Sq z V1,zG];by_cases p:(R7 w).2.2.2.2.2.2≠0
   .rw[zE p]at d;rw[zE p];exact .inr ⟨_,rfl, .inl ⟨rfl,d.symm⟩⟩
   .rw[zF p]at d;rw[zF p];have⟨n,o,u,D,E⟩:=YE z (λe=>y (by rw[e];rfl)) V1;rw[o]at d⊢;have d:U f (w.drop n) _=_:=d;rw[bn V1 V1,Zl,cf,wK]
    refine .inl ⟨_,rfl,⟨_,_,f,rfl,by rw[aB];omega,d,z.drop n,by rw[cL,aB];simp;omega⟩,by simp;omega⟩)
 rw[B,zG];rcases h with⟨o,u⟩|⟨o,u⟩
 .rw[o,u];rfl
 .rw[o,u];rfl
def H4 {a0:Zd}(F:gE a0)(I:dt a0<=100000):qd a0=O (iv a0):=by
 unfold qd iv
 have⟨c,D,h⟩:=qC (f:=tR a0) (a:=((0:Int),([]:List bz))) (λs=> ∃(i:Nat) (g:List bz) (f:Nat),s=((i:Int),g)/\i<=dt a0/\(dt (a0.drop i))<f/\U f (a0.drop i) g=NL a0/\(dt g)<=i) (λs=>dt a0-eL s.1)
  (λc=>(c= .inl ()/\NL a0=Y)∨∃l,c= .inr l/\NL a0=O l) ⟨0,[],dt a0+1,rfl,V1,V2,rfl,V2⟩ V3 (by
  rintro _ ⟨i,g,f,rfl,hi,E,d,z⟩;cases f with
  |zero=>omega
  |succ f=>
  simp only[U]at d;simp only[tR,ag];have A:=F.drop i;by_cases o:dt (a0.drop i)=0
  .rw[zE o]at d;rw[aB]at o;rw[Zh];exact .inr ⟨_,rfl, .inr ⟨_,rfl,d.symm⟩⟩
  .rw[zF o]at d;have y:=o;rw[aB]at y E;rw[Zg,Zl,cf,wK,UH A Z2,zG];by_cases p:(R7 (a0.drop i)).2.2.2.2.2.2≠0
   .rw[zE p]at d;rw[zE p];exact .inr ⟨_,rfl, .inl ⟨rfl,d.symm⟩⟩
   .rw[zF p]at d;rw[zF p];have⟨n,B,u,C,H⟩:=YE A (λe=>o (by rw[e];rfl)) V1;rw[aB]at C;rw[B]at d⊢;have d:U f ((a0.drop i).drop n) _=_:=d;rw[List.drop_drop]at d;rw[bn V1 V1,ad (n:=(i:Int)+(n:Int)) V1]
    refine .inl ⟨_,rfl,⟨i+n,_,f,by rw[show((i+n:Nat):Int)=(i:Int)+(n:Int)by omega],V1,by rw[aB];omega,d,by rw[cL];simp;omega⟩,by simp;omega⟩)
 rw[D,zG];rcases h with⟨rfl,u⟩|⟨l,rfl,u⟩
 .rw[u];rfl
 .rw[u];rfl
def S :Nat->Zd->List (Zd)->Option (List (Zd)×Zd)
 |0,w,d=>O (d,w)
 |r+1,[],d=>Y
 |r+1,x::t,d=>if(dt t:Int)<x then Y else S r (t.drop (eL x)) (d++[t.take (eL x)])
def UX (w:Zd):Option (List (Zd)×Zd):=S 4 w []
def M1 {K:Nat}(D:K<=100): ∀(r N:Nat) (w:Zd) (out:List (Zd)),dt out+r=K->gE w->dt w<=100000->
  (∃p,S r w out=O p/\am (kG (K:Int)) (N+r+1) (w,out)=O (0,p.2,p.1))∨(S r w out=Y/\∃w' H,am (kG (K:Int)) (N+r+1) (w,out)=O (4,w',H))
 |0,N,w,out,A,d,o=>by
  left;refine⟨_,rfl, ?_⟩;rw[bm];unfold kG;simp only;rw[ag,Zh];rfl
 |r+1,N,[],out,A,d,o=>by
  right;refine⟨rfl,[],out, ?_⟩;rw[bm];unfold kG;simp only;rw[ag,Zg,ag,zE V2];rfl
 |r+1,N,x::t,out,A,d,o=>by
  have L:=d x V2;have u:rd (x::t) 0=O x:=cg (l:=x::t) (i:=0) V2;simp only[S];simp only[List.length_cons]at o
  have z:zH zJ (zH zI (((dt t+1:Nat):Int)-1))=(dt t:Int):=by
   rw[show(((dt t+1:Nat):Int))-1=(dt t:Int)by omega,ad (n:=(dt t:Int)) V1,qW V1]
  have e:kG (K:Int) (x::t,out)=cond (Zc ((dt out:Int)<(K:Int))) (cond (Zc (((dt t+1:Nat):Int)=0)) (O (.inr (4,x::t,out))) (ek (rd (x::t) 0) λJ=>cond (Zc (zH zJ (zH zI (((dt t+1:Nat):Int)-1))<J)) (O (.inr (4,x::t,out))) (ek (rd (x::t) 0) λg=>
    gd (dv 1 (zH zI (zH zI g+1)) (dt t+1)) (ek (ak (pU (x::t) 1 (zH zI (zH zI g+1)))) λI=>
    gd (fd (dt out+1) 24) (gd (dv (zH zI (zH zI g+1)) ((dt t+1:Nat):Int) (dt t+1)) (O (.inl (pU (x::t) (zH zI (zH zI g+1)) ((dt t+1:Nat):Int),out++[I])))))))) (O (.inr (0,x::t,out))):=rfl
  rw[u,zB (show(dt out:Int)<(K:Int)by omega),zC,zA (show¬((dt t+1:Nat):Int)=0 by omega),zD]at e;simp only[zG]at e;by_cases c:(dt t:Int)<x
  .right;rw[zE c];refine⟨rfl,x::t,out, ?_⟩;rw[zB (show zH zJ (zH zI (((dt t+1:Nat):Int)-1))<x by rw[z];exact c),zC]at e;rw[bm,e];rfl
  .rw[zF c];have F:=M1 D r N (t.drop (eL x)) (out++[t.take (eL x)]) V3 (λy E=>d y (by simp[cN E])) Z2
   have B:pU (x::t) 1 (x+1)=t.take (eL x):=by
    unfold pU;rw[show(eL (x+1))=eL x+1 by omega,show(eL (1:Int))=1 from rfl];rfl
   have C:pU (x::t) (x+1) ((dt t+1:Nat):Int)=t.drop (eL x):=by
    unfold pU;rw[show(eL (((dt t+1:Nat):Int)))=(dt (x::t)) by simp,cO,show(eL (x+1))=eL x+1 by omega];rfl
   rw[zA (show¬IntKind.u64.wrap (zH zI (((dt t+1:Nat):Int)-1))<x by rw[z];exact c),zD,ad (n:=x) V1,ad (n:=x+1) V1,Zl,cf,B]at e;unfold ak at e;rw[bn (by rw[cM];omega) V1]at e;simp only[zG]at e;rw[bn V1 V1,Zl,cf,C]at e;rw[show N+(r+1)+1=(N+r+1)+1 by omega,bm,e];simp only[zG,bg];exact F
def Il {K:Nat}(u:K<=100)(z:gE w)(y:w.length<=100000):pf w (K:Int)=O (match S K w []with
  |some (l,rest)=>(0,l,rest)
  |none=>(4,[],[])):=by
 unfold pf;rw[ag,Zh];obtain⟨N,o⟩: ∃N,cv=N+K+1:=⟨18446744073709551615-K,by unfold cv;omega⟩
 rcases M1 u K N w [] V2 z y with⟨p,e,g⟩|⟨e,D,C,g⟩
 .rw[o,g,e];simp only[zG];rw[zA V2,zD];unfold ak
  have B:p.2.length<=w.length:=by
   have: ∀(r:Nat) (w:Zd) (d:List (Zd)) (q:List (Zd)×Zd),S r w d=O q->q.2.length<=w.length:=by
    intro r;induction r with
    |zero=>intro w d q h;injection h with h;subst h;exact Nat.le_refl _
    |succ r A=>
     intro w d q h;cases w with
     |nil=>cases h
     |cons x t=>
      simp only[S]at h;split at h
      .cases h
      .have:=A _ _ _ h;rw[aB]at this;simp;omega
   exact this _ _ _ _ e
  rw[bn V1 V1];rfl
 .rw[o,g,e];rfl
def Tj (e:gE w)(d:dt w<=100000):pf w 4=O (match UX w with
  |some (l,rest)=>(0,l,rest)
  |none=>(4,[],[])):=Il (K:=4) V1 e d
def UF {a0:Zd}(A:gE a0)(E:a0.length<=100000){n:Nat}(h:a0.drop n=x::t)(F:x<=(t.length:Int)):tK a0 (n:Int) 0 (a0.length:Int)=O (a0,((n+1+x.toNat:Nat):Int),0,t.take x.toNat):=by
 obtain⟨C,p,o,u⟩:=BX h;have B:=(A x u).1;have z:t.length=a0.length-(n+1):=by rw[<-o,aB]
 unfold tK Eh Ck;rw[zA (show¬(0:Int)≠0 by simp),zD,zA (show¬(a0.length:Int)<=(n:Int)by omega),zD,ad (n:=(n:Int)+1) V1,ad (n:=(n:Int)+1-1) V1,show(n:Int)+1-1=(n:Int)by omega,p];simp only[zG];rw[zA (show¬(0:Int)≠0 by simp),zD,zA (show¬(a0.length:Int)<0 by omega),zD,qW V1,zA (show¬(a0.length:Int)<x by omega),zD];simp only[zG];rw[zA (show¬(0:Int)≠0 by simp),zD,ad (n:=(a0.length:Int)-((n:Int)+1)) V1,ad (n:=x) V1,zA (show¬(a0.length:Int)-((n:Int)+1)<x by omega),zD];have y:(t.take x.toNat).length=x.toNat:=by rw[cM];omega
 have g:am (sm a0 (x,a0,(n:Int)+1,0)) cv (0,[])=O ([]++t.take x.toNat):=by
  refine Vu (l:=t.take x.toNat) [] V1 (λj D=> ?_) ?_
  .unfold sm;simp only;have e:j<t.length:=by omega
   have d:rd a0 ((n:Int)+1+(j:Int))=O t[j]:=by
    rw[show(n:Int)+1+(j:Int)=((n+1+j:Nat):Int)by omega,cg (show n+1+j<a0.length by omega)]
    congr 1
    have:(a0.drop (n+1))[j]?=t[j]?:=by rw[o]
    rw[List.getElem?_drop,cK (show n+1+j<a0.length by omega),cK e]at this;injection this
   rw[ag,Zg,ad (n:=(n:Int)+1+(j:Int)) V1,d];simp only[zG];rw[bn V3 V1,ad (n:=(j:Int)+1) V1,List.getElem_take];rfl
  .unfold sm;simp only;rw[ag,Zh]
 rw[g];simp only[zG,List.nil_append];rw[ad (n:=(n:Int)+1+x) V1,show((n+1+x.toNat:Nat):Int)=(n:Int)+1+x by omega]
def SI {K:Nat}(F:K<=100){a0:Zd}(u:gE a0)(A:dt a0<=100000): ∀(r N n:Nat) (w:Zd) (out:List (Zd)),dt out+r=K->a0.drop n=w->n<=dt a0->
  (∃p,∃m:Nat,S r w out=O p/\am (ib a0 (K:Int)) (N+r+1) (a0,(n:Int),0,out)=O (.inr (a0,(m:Int),0,p.1))/\p.2=a0.drop m/\m<=dt a0)∨(S r w out=Y/\∃c,am (ib a0 (K:Int)) (N+r+1) (a0,(n:Int),0,out)=O (.inl c))
 |0,N,n,w,out,B,d,o=>by
  left;refine⟨_,n,rfl, ?_,d.symm,o⟩;rw[bm];unfold ib;simp only;rw[ag,Zh];rfl
 |r+1,N,n,[],out,B,d,o=>by
  right;have:=LM d;refine⟨rfl,(a0,(n:Int),0), ?_⟩;rw[bm];unfold ib;simp only;rw[ag,Zg,ag,Zg];rfl
 |r+1,N,n,x::t,out,B,d,o=>by
  have⟨M,D,y,E⟩:=BX d;have T:=u x E;have I:dt t=dt a0-(n+1):=by rw[<-y,aB]
  have z:zH zJ (zH zI (zH zI ((dt a0:Int)-(n:Int))-1))=(dt t:Int):=by
   have C:(dt a0:Int)-(n:Int)-1=(dt t:Int):=by omega
   rw[ad (n:=(dt a0:Int)-(n:Int)) V1,ad (n:=(dt a0:Int)-(n:Int)-1) V1,C,qW V1]
  have e:ib a0 (K:Int) (a0,(n:Int),0,out)=cond (Zc ((dt out:Int)<(K:Int))) (cond (Zc ((dt a0:Int)<=(n:Int))) (O (.inr (.inl (a0,(n:Int),0)))) (ek (rd a0 (n:Int)) λL=>cond (Zc (zH zJ (zH zI (zH zI ((dt a0:Int)-(n:Int))-1))<L)) (O (.inr (.inl (a0,(n:Int),0))))
    (ek (tK a0 (n:Int) 0 (dt a0:Int)) λg=>gd (fd (dt out+1) 24) (O (.inl (g.1,g.2.1,g.2.2.1,out++[g.2.2.2])))))) (O (.inr (.inr (a0,(n:Int),0,out)))):=rfl
  rw[zB (show(dt out:Int)<(K:Int)by omega),zC,zA (show¬(dt a0:Int)<=(n:Int)by omega),zD,D]at e;simp only[zG]at e;simp only[S];by_cases c:(dt t:Int)<x
  .right;rw[zE c];rw[zB (show zH zJ (zH zI (zH zI ((dt a0:Int)-(n:Int))-1))<x by rw[z];exact c),zC]at e;refine⟨rfl,(a0,(n:Int),0), ?_⟩;rw[bm,e];rfl
  .rw[zF c];have H:a0.drop (n+1+eL x)=t.drop (eL x):=by rw[<-y,List.drop_drop]
   have J:=SI F u A r N (n+1+eL x) (t.drop (eL x)) (out++[t.take (eL x)]) V3 H V1;rw[zA (show¬IntKind.u64.wrap (zH zI (zH zI ((dt a0:Int)-(n:Int))-1))<x by rw[z];exact c),zD,UF u A d V1]at e;simp only[zG]at e;rw[bn V1 V1]at e;rw[show N+(r+1)+1=(N+r+1)+1 by omega,bm,e];simp only[zG,bg];exact J
def H3 {K:Nat}(u:K<=100)(z:gE w)(y:dt w<=100000):pc w (K:Int)=O (match S K w []with
  |some (l,rest)=>(rest,0,l)
  |none=>([],4,[])):=by
 unfold pc;rw[ag,Zh];obtain⟨N,g⟩: ∃N,cv=N+K+1:=⟨18446744073709551615-K,by unfold cv;omega⟩
 rcases SI u z y K N 0 w [] V2 rfl (Nat.zero_le _)with⟨p,m,e,d,o,A⟩|⟨e,c,d⟩
 .have d:am (ib w (K:Int)) (N+K+1) (w,0,0,[])=_:=d;rw[g,d,e];simp only[zG,bg];rw[Zl,cf,wK,o]
 .have d:am (ib w (K:Int)) (N+K+1) (w,0,0,[])=_:=d;rw[g,d,e];rfl
def SE (e:gE w)(d:dt w<=100000):pc w 4=O (match UX w with
  |some (l,rest)=>(rest,0,l)
  |none=>([],4,[])):=H3 (K:=4) V1 e d
def Je (z:gE w){l:List (Zd)}(h:UX w=O (l,rest)): ∃g o p u,l=[g,o,p,u]/\(gE g/\(dt g)<=dt w)/\(gE o/\(dt o)<=dt w)/\(gE p/\(dt p)<=dt w)/\(gE u/\(dt u)<=dt w)/\(dt rest)<=dt w:=by
 have d: ∀(r:Nat) (w:Zd) (e:List (Zd)) (q:List (Zd)×Zd),gE w->S (r+1) w e=O q->∃y C,S r C (e++[y])=O q/\(gE y/\(dt y)<=dt w)/\gE C/\(dt C)<=dt w:=by
  intro r w e q z h;cases w with
  |nil=>cases h
  |cons x t=>
   simp only[S]at h;split at h
   .cases h
   .refine⟨_,_,h,⟨λy B=>z y (by simp[List.mem_of_mem_take B]), ?_⟩,λy B=>z y (by simp[cN B]), ?_⟩
    .rw[cM];simp;omega
    .rw[aB];simp;omega
 have⟨g,W,D,J,N,l1⟩:=d 3 w [] _ z h;have⟨o,X,E,K,T,l2⟩:=d 2 W _ _ N D;have⟨p,Z,F,L,V,l3⟩:=d 1 X _ _ T E;have⟨u,w4,A,M,u4,l4⟩:=d 0 Z _ _ V F;injection A with A
 injection A with H I
 exact⟨g,o,p,u,H.symm,J,⟨K.1,V1⟩,⟨L.1,V1⟩,⟨M.1,V1⟩,by rw[<-I];omega⟩
def vX (h:0<=x/\x<=18446744073709551615):lS x=O (mm x):=by
 unfold lS mm;rw[Zi]
def yq (h:0<=x/\x<=18446744073709551615):kQ x=O (mm x):=by
 unfold kQ mm;rw[ag];split
 .congr 1;omega
 .rw[Zi];congr 1;omega
def ai6 (R:Int)(d:Zd)(Q:Int)(e:Zd):Int×List (Int×List bz):=
 if(iv d).1≠0∨bu (iv d).2 0≠O 0∨(iv e).1≠0∨bu (iv e).2 0≠O 0 then(6,[])else(0,[(mm R,(iv d).2),(mm Q,(iv e).2)])
def Kg {d e:Zd}{R:Int}(B:gE d)(C:gE e)(J:dt d<=4000)(l1:dt e<=4000)(I:0<=R/\R<=18446744073709551615)(H:0<=Q/\Q<=18446744073709551615):
  pK [R,Q] [d,e]=O (ai6 R d Q e):=by
 have W:=(Fm B J).len;have X:=(Fm C l1).len;have⟨T,D⟩:=zR (l:=(iv d).2) V1;have⟨V,E⟩:=zR (l:=(iv e).2) V1;unfold pK;obtain⟨N,F⟩: ∃N,cv=N+1+1+1:=⟨18446744073709551613,rfl⟩
 have K:hY [R,Q] [d,e] (0,[])=O (if(iv d).1≠0 then .inr (.inl ())else if bu (iv d).2 0≠O 0 then .inr (.inl ())else .inl (1,[(mm R,(iv d).2)])):=by
  have z:rd [d,e] 0=O d:=rfl;have A:rd [R,Q] 0=O R:=rfl;unfold hY;simp only[ag];rw[zE V2,z,zG,Gv B V1,zG,D,zG,A,zG,vX I];by_cases g:(iv d).1≠0
  .rw[zE g,zE g]
  rw[zF g,zF g];by_cases o:bu (iv d).2 0=O 0
  .rw[zE o,zF V2,zF (by simp[o])];rfl
  .rw[zF o,zE V2,zE (by simp[o])]
 have L: ∀p,hY [R,Q] [d,e] (1,[p])=O (if(iv e).1≠0 then .inr (.inl ())else if bu (iv e).2 0≠O 0 then .inr (.inl ())else .inl (2,[p,(mm Q,(iv e).2)])):=by
  intro p;have z:rd [d,e] 1=O e:=rfl;have A:rd [R,Q] 1=O Q:=rfl;unfold hY;simp only[ag];rw[zE V2,z,zG,Gv C V1,zG,E,zG,A,zG,vX H];by_cases g:(iv e).1≠0
  .rw[zE g,zE g]
  rw[zF g,zF g];by_cases o:bu (iv e).2 0=O 0
  .rw[zE o,zF V2,zF (by simp[o])];rfl
  .rw[zF o,zE V2,zE (by simp[o])]
 have M: ∀p q,hY [R,Q] [d,e] (2,[p,q])=O (.inr (.inr [p,q])):=λp q=>rfl
 unfold ai6;rw[F,bm,K];by_cases g:(iv d).1≠0
 .rw[zE g,zE (.inl g)];rfl
 rw[zF g];by_cases o:bu (iv d).2 0≠O 0
 .rw[zE o,zE (.inr (.inl o))];rfl
 rw[zF o];simp only[zG,bg];rw[bm,L];by_cases u:(iv e).1≠0
 .rw[zE u,zE (.inr (.inr (.inl u)))];rfl
 rw[zF u];by_cases y:bu (iv e).2 0≠O 0
 .rw[zE y,zE (.inr (.inr (.inr y)))];rfl
 rw[zF y,zF (by rintro(h|h|h|h)<;>contradiction)];simp only[zG,bg];rw[bm,M];rfl
structure Hd where
 m:Int
 x:Zd
 t:Zd
 R:Int
 l:List bz
 Q:Int
 k:List bz
 n:Int
 b:Int
def Hd.chk (h:Hd):Int:=mO h.m (dt h.x) (dt h.t) h.R h.l h.Q h.k h.n h.b
def Uh (w d e g o:Zd):Hd:=⟨w.getD 0 0,g,o,mm (w.getD 1 0),(iv d).2,mm (w.getD 2 0),(iv e).2,if w.getD 0 0=2 then 0 else mm (w.getD 3 0),mm (w.getD 4 0)⟩
def D7 (w:Zd):Int⊕(Hd×Zd):=if dt w<5 then .inl 4 else match UX (w.drop 5)with
 |some ([d,e,g,o],rest)=>if w.getD 0 0<1∨3<w.getD 0 0 then .inl 5 else if(iv d).1≠0∨(iv e).1≠0 then .inl 6 else
  if(Uh w d e g o).chk≠0 then .inl (Uh w d e g o).chk else .inr (Uh w d e g o,rest)
 |_=> .inl 4
def bh6 :Int⊕(Hd×Zd)->Int×Int×(List bz)×Int×(List bz)×Int×Int×Int×(Zd)×(Zd)×Zd
 | .inl e=>(0,0,[],0,[],0,0,e,[],[],[])
 | .inr (h,rest)=>(h.m,h.R,h.l,h.Q,h.k,h.n,h.b,0,h.x,h.t,rest)
def bh7 :Int⊕(Hd×Zd)->Int×(Zd)×(Zd)×Int×Int×Int×Int×(Zd)×Int×(List bz)×List bz
 | .inl e=>(0,[],[],0,0,0,0,[],e,[],[])
 | .inr (h,rest)=>(h.m,h.x,h.t,h.R,h.Q,h.n,h.b,rest,0,h.l,h.k)
def gE.getD (h:gE w)(i:Nat):0<=w.getD i 0/\w.getD i 0<=18446744073709551615:=by
 rw[List.getD_eq_getElem?_getD];by_cases hi:i<dt w
 .rw[cK hi];exact h _ (cQ hi)
 .rw[List.getElem?_eq_none V1];exact⟨V4,V4⟩
def as3 {m:Int}(e:1<=m/\m<=3)(x t:Nat)(R:Int)(l:List bz)(Q:Int)(k:List bz)(n b:Int)(h:bu l 0≠O 0∨bu k 0≠O 0):mO m x t R l Q k n b=6:=by
 have d:hk0 m=0:=by
  unfold hk0;rw[Zh,Zh]
 unfold mO;rw[d,zF V2]
 have:kw R l Q k=6:=by
  unfold kw IY zM;rcases h with h|h
  .simp[h]
  .by_cases c:(Zc (bu l 0=O 0)&& !(l.any λo=> !kB o))=Za
   .rw[zE c];simp[h]
   .rw[zF c];simp
 rw[this,Zg]
def aL8 (h:5<=dt w):pU w 1 3=[w.getD 1 0,w.getD 2 0]:=by
 match w,h with
 |a::b::c::d::e::r,_=>rfl
def NF (g:gE w)(hl:w.length<=4000):si w=O (bh6 (D7 w)):=by
 unfold si D7;simp only[ag];by_cases D:w.length<5
 .rw[Zg,zE D];rfl
 rw[Zh,zF D,Zl,cf,show(5:Int)=((5:Nat):Int)from rfl,wK,Tj (g.drop 5) Z2];cases h:UX (w.drop 5)with
 |none=>rfl
 |some p=>
  obtain⟨l,rest⟩:=p;obtain⟨d,e,o,u,rfl,⟨F,X⟩,⟨H,Z⟩,⟨u2,l2⟩,⟨u3,l3⟩,lr⟩:=Je (g.drop 5) h;rw[aB]at X Z l2 l3 lr;simp only[zG];rw[zF V2];have r0:rd w 0=O (w.getD 0 0):=qV (l:=w) (i:=0) V1;have r3:rd w 3=O (w.getD 3 0):=qV (l:=w) (i:=3) V1;have r4:rd w 4=O (w.getD 4 0):=qV (l:=w) (i:=4) V1;have g0:=g.getD 0;have I:=g.getD 1;have J:=g.getD 2;rw[r0];simp only[zG];by_cases B:w.getD 0 0<1
  .rw[zE B,zE (.inl B)];rfl
  rw[zF B];by_cases C:3<w.getD 0 0
  .rw[zE C,zE (.inr C)];rfl
  rw[zF C,Zh,Zl,cf,aL8 V1];have L:ix 0 [d,e,o,u].length=O 0:=rfl;have M:ix 1 [d,e,o,u].length=O 1:=rfl;have N:ix 2 [d,e,o,u].length=O 2:=rfl;have T:ix 3 [d,e,o,u].length=O 3:=rfl;rw[L,M,N,T];simp only[zG,cD,cB];rw[Kg F H V1 V1 I J];simp only[zG];unfold ai6;have K:1<=w.getD 0 0/\w.getD 0 0<=3:=by omega
  by_cases y:(iv d).1≠0∨bu (iv d).2 0≠O 0∨(iv e).1≠0∨bu (iv e).2 0≠O 0
  .rw[zE y];by_cases A:(iv d).1≠0∨(iv e).1≠0
   .rw[zE A];rfl
   .rw[zF A]
    have:(Uh w d e o u).chk=6:=as3 K _ _ _ _ _ _ _ _ (by
     rcases y with c|c|c|c
     .exact(A (.inl c)).elim
     .exact .inl c
     .exact(A (.inr c)).elim
     .exact .inr c)
    rw[this];rfl
  .rw[zF y,zF (show¬((iv d).1≠0∨(iv e).1≠0)from λh=>h.elim (λh=>y (.inl h)) (λh=>y (.inr (.inr (.inl h)))))];simp only[zG];rw[zF V2];have V:ix 0 [(mm (w.getD 1 0),(iv d).2),(mm (w.getD 2 0),(iv e).2)].length=O 0:=rfl;have W:ix 1 [(mm (w.getD 1 0),(iv d).2),(mm (w.getD 2 0),(iv e).2)].length=O 1:=rfl;rw[V,W];simp only[zG,cD,cB];rw[r3,r4];unfold ak;simp only[zG];rw[bn V1 V1,bn V1 V1];simp only[zG];rw[vX (g.getD 3),vX (g.getD 4),ad (n:=w.getD 0 0) V1];simp only[zG];have z: ∀n,kN (w.getD 0 0) o u (mm (w.getD 1 0)) (iv d).2 (mm (w.getD 2 0)) (iv e).2 n (mm (w.getD 4 0))=O (mO (w.getD 0 0) o.length u.length (mm (w.getD 1 0)) (iv d).2 (mm (w.getD 2 0)) (iv e).2 n (mm (w.getD 4 0))):=λn=>C4 (Fm F V1) (Fm H V1)
   unfold Hd.chk Uh;simp only;by_cases E:w.getD 0 0=2
   .simp only[zE E,zG,z];split<;>rfl
   .simp only[zF E,zG,z];split<;>rfl
def Qv (d:gE w)(hl:w.length<=1500):qc w=O (bh7 (D7 w)):=by
 unfold qc D7;simp only[ag];by_cases F:w.length<5
 .rw[Zg,zE F];rfl
 rw[Zh,zF F,Zl,cf,show(5:Int)=((5:Nat):Int)from rfl,wK,SE (d.drop 5) Z2];cases h:UX (w.drop 5)with
 |none=>rfl
 |some p=>
  obtain⟨l,rest⟩:=p;obtain⟨e,g,o,u,rfl,⟨D,M⟩,⟨E,N⟩,⟨u2,T⟩,⟨u3,V⟩,W⟩:=Je (d.drop 5) h;rw[aB]at M N T V W;simp only[zG];rw[zF V2];have X:rd w 0=O (w.getD 0 0):=qV (l:=w) (i:=0) V1;have Z:rd w 1=O (w.getD 1 0):=qV (l:=w) (i:=1) V1;have r2:rd w 2=O (w.getD 2 0):=qV (l:=w) (i:=2) V1;have r3:rd w 3=O (w.getD 3 0):=qV (l:=w) (i:=3) V1;have r4:rd w 4=O (w.getD 4 0):=qV (l:=w) (i:=4) V1;have g0:=d.getD 0;rw[X];simp only[zG];by_cases z:w.getD 0 0<1
  .rw[zE z,zE (.inl z)];rfl
  rw[zF z];by_cases A:3<w.getD 0 0
  .rw[zE A,zE (.inr A)];rfl
  rw[zF A,Zh];have I:ix 0 [e,g,o,u].length=O 0:=rfl;have J:ix 1 [e,g,o,u].length=O 1:=rfl;have K:ix 2 [e,g,o,u].length=O 2:=rfl;have L:ix 3 [e,g,o,u].length=O 3:=rfl;rw[I,J,K,L];simp only[zG,cD,cB];rw[H4 D V1,H4 E V1];simp only[zG];by_cases B:(iv e).1≠0
  .rw[zE B,zE (.inl B)];rfl
  rw[zF B];by_cases C:(iv g).1≠0
  .rw[zE C,zE (.inr C)];rfl
  rw[zF C,zF (by rintro(h|h)<;>contradiction),Z,r2,r3,r4];simp only[zG];rw[yq (d.getD 1),yq (d.getD 2),yq (d.getD 3),yq (d.getD 4),ad (n:=w.getD 0 0) V1];simp only[zG];have y: ∀n,kF (w.getD 0 0) o u (mm (w.getD 1 0)) (iv e).2 (mm (w.getD 2 0)) (iv g).2 n (mm (w.getD 4 0))=O (mO (w.getD 0 0) o.length u.length (mm (w.getD 1 0)) (iv e).2 (mm (w.getD 2 0)) (iv g).2 n (mm (w.getD 4 0))):=λn=>AQ (Fm D V1) (Fm E V1) (bB (KH D) V1) (bB (KH E) V1)
  unfold Hd.chk Uh;simp only;by_cases H:w.getD 0 0=2
  .simp only[zE H,zF (show¬w.getD 0 0≠2 by omega),zG,y];split<;>rfl
  .simp only[zF H,zE (show w.getD 0 0≠2 by omega),zG,y];split<;>rfl
def PW (z:gE w)(F:dt w<=1500){h:Hd}(d:D7 w= .inr (h,rest)):OpsOk h.l/\OpsOk h.k/\(dt h.l)<=1500/\(dt h.k)<=1500:=by
 unfold D7 at d;split at d
 .cases d
 .split at d
  .rename_i J K L M r y;have⟨N,T,V,W,e,⟨g,A⟩,⟨o,B⟩,⟨H,C⟩,⟨I,D⟩,E⟩:=Je (z.drop 5) y;injection e with a1 e;injection e with a2 e;injection e with a3 e;injection e with a4 _
   subst a1;subst a2;subst a3;subst a4;rw[aB]at A B C D E;split at d
   .cases d
   split at d
   .cases d
   split at d
   .cases d
   .injection d with d
    injection d with p u
    subst p;subst u;exact⟨Fm g V1,Fm o V1,bB (KH g) V1,bB (KH o) V1⟩
  .cases d
end
section
open Go.IntKind renaming wrap -> zH, i64 -> zI, u64 -> zJ
open Int renaming tdiv -> aB, tmod -> aD, eq_ofNat_of_zero_le -> cB, toNat_natCast -> cD
open IntKind renaming bits -> bB
open List renaming length_drop -> bD, getD_eq_getElem?_getD -> cK, getElem?_eq_getElem -> cL
open Nat renaming mod_eq_of_lt -> cM
def Y2 {a:Nat}(e:a<18446744073709551616)(g:b<18446744073709551616):uB .u64 (· &&& ·) (a:Int) (b:Int)=((a&&& b:Nat):Int):=by
 unfold uB
 have d:(BitVec.ofInt (bB .u64) (a:Int)&&& BitVec.ofInt (bB .u64) (b:Int)).toNat=a&&& b:=by
  rw[BitVec.ofInt_natCast,BitVec.ofInt_natCast,BitVec.toNat_and,BitVec.toNat_ofNat,BitVec.toNat_ofNat];rw[show 2 ^ bB .u64=18446744073709551616 from rfl,cM e,cM g]
 show zH zJ _=_;rw[d,bt];have:a&&& b<=a:=Nat.and_le_left;omega
def W5 (w:Zd)(i:Nat):Bool:=Zc (eL (w.getD (i / 64) 0) / 2 ^ (i % 64) % 2=1)
def Wh (h:i<64*dt w):rd w ((i / 64:Nat):Int)=O (w.getD (i / 64) 0):=qV V1
def Wy (d: ∀x∈w,0<=x/\x<=18446744073709551615)(j:Nat):0<=w.getD j 0/\w.getD j 0<=18446744073709551615:=by
 rcases Nat.lt_or_ge j (dt w) with h|h
 .rw[cK,cL h];exact d _ (List.getElem_mem h)
 .rw[cK,List.getElem?_eq_none h];exact⟨Int.le_refl 0,V4⟩
def W6 (z: ∀x∈w,0<=x/\x<=18446744073709551615)(h:i<64*dt w)(C:dt w<=2000){γ:Type}(G:Bool)(F:Int->Bool->Option γ):
  (ek (rd w (zH zI (aB (zH zI ((i:Int)-1+1)) 64))) λA=>gd (Zc (0<=(aD (zH zI ((i:Int)-1+1)) 64))) (gd G (F (zH zI ((i:Int)-1+1)) (Zc ((uB .u64 (· &&& ·) (Int.fdiv A (2 ^ (min (Int.toNat (aD (zH zI ((i:Int)-1+1)) 64)) (bB .u64)))) 1)=1)))))=gd G (F (i:Int) (W5 w i)):=by
 have d:zH zI ((i:Int)-1+1)=(i:Int):=by
  rw[show(i:Int)-1+1=(i:Int)by omega,Zi]
 have e:zH zI (aB (i:Int) 64)=((i / 64:Nat):Int):=by
  rw[show aB (i:Int) 64=((i / 64:Nat):Int)from rfl,Zi]
 have g:aD (i:Int) 64=((i % 64:Nat):Int):=rfl;rw[d,e,g,Wh h,zG];have⟨y,B⟩:=Wy z (i / 64);unfold W5;generalize w.getD (i / 64) 0=x at*;obtain⟨x,rfl⟩:=cB y;rw[zB (show(0:Int)<=((i % 64:Nat):Int)by omega),cf]
 have o:min (Int.toNat ((i % 64:Nat):Int)) (bB .u64)=i % 64:=by
  show min (i % 64) 64=i % 64;omega
 rw[o]
 have p:Int.fdiv (x:Int) (2 ^ (i % 64))=((x / 2 ^ (i % 64):Nat):Int):=by
  rw[Int.fdiv_eq_ediv_of_nonneg _ (Int.le_of_lt (Int.pow_pos V4)),Int.natCast_ediv];rfl
 have u:x / 2 ^ (i % 64)<18446744073709551616:=Nat.lt_of_le_of_lt (Nat.div_le_self _ _) V1;rw[p,show(1:Int)=((1:Nat):Int)from rfl,Y2 u V4,Nat.and_one_is_mod,cD];have:Zc (((x / 2 ^ (i % 64) % 2:Nat):Int)=((1:Nat):Int))=Zc (x / 2 ^ (i % 64) % 2=1):=decide_eq_decide.2 V1;rw[this]
def pR (w:Zd)(n:Nat):List Bool:=(List.range n).map (W5 w)
def Lr (w:Zd)(n:Nat):pR w (n+1)=pR w n++[W5 w n]:=by
 unfold pR;rw[List.range_succ,List.map_append];rfl
def yv (w:Zd)(n:Nat):dt (pR w n)=n:=by simp[pR]
def aL0 (o: ∀x∈w,0<=x/\x<=18446744073709551615){n:Nat}(h:n<=64*dt w)(g:dt w<=2000):am (nj (n:Int) w) cv ((0,(-1),[]))=O ((n:Int)-1,pR w n):=by
 have:=eZ (f:=nj (n:Int) w) (n:=n) (F:=λi=>((i:Int)-1,pR w i)) (c:=((n:Int)-1,pR w n)) V1 (λi hi=> ?_) ?_
 .exact this
 .unfold nj;simp only;rw[zB (show(i:Int)<(n:Int)by omega),zC];refine(W6 o (i:=i) V1 g (γ:=(Int×Int×List Bool)⊕(Int×List Bool)) (fd (dt (pR w i)+1) 1) (λa b=>O (Sum.inl (zH zI ((i:Int)+1),a,pR w i++[b])))).trans ?_;have e:dt (pR w i)=i:=yv w i;rw[e,bn V1 V4,Lr,Zi];have d:((i+1:Nat):Int)-1=(i:Int):=by omega
  rw[d];rfl
 .unfold nj;simp only;rw[zA (show¬(n:Int)<(n:Int)by omega),zD]
def av6 (p: ∀x∈w,0<=x/\x<=18446744073709551615)(i:Nat)(l:List Bool):am (oT ((i:Int),l)) cv ((0,w.getD (i / 64) 0))=O ((eL (w.getD (i / 64) 0) / 2 ^ (i % 64):Nat):Int):=by
 have⟨o,u⟩:=Wy p (i / 64);generalize w.getD (i / 64) 0=x at*;obtain⟨x,rfl⟩:=cB o;rw[cD];have:=eZ (f:=oT ((i:Int),l)) (n:=i % 64) (F:=λk=>((x / 2 ^ k:Nat):Int)) (c:=((x / 2 ^ (i % 64):Nat):Int)) V1 (λk y=> ?_) ?_
 .rw[<-this];simp
 .unfold oT;simp only;have d:aD (i:Int) 64=((i % 64:Nat):Int):=rfl;rw[d,zB (show(k:Int)<((i % 64:Nat):Int)by omega),zC]
  have e:zH zI ((k:Int)+1)=((k+1:Nat):Int):=by
   show zH zI _=_;rw[Zi];omega
  have g:zH zJ (aB ((x / 2 ^ k:Nat):Int) 2)=((x / 2 ^ (k+1):Nat):Int):=by
   show zH zJ _=_;rw[show aB ((x / 2 ^ k:Nat):Int) 2=((x / 2 ^ k / 2:Nat):Int)from rfl,Nat.div_div_eq_div_mul,show 2 ^ k*2=2 ^ (k+1)from rfl];have:x / 2 ^ (k+1)<=x:=Nat.div_le_self _ _;generalize x / 2 ^ (k+1)=z at this⊢;exact bt V1
  rw[e,g]
 .unfold oT;simp only;have d:aD (i:Int) 64=((i % 64:Nat):Int):=rfl;rw[d,zA (show¬((i % 64:Nat):Int)<((i % 64:Nat):Int)by omega),zD]
def aL1 (p: ∀x∈w,0<=x/\x<=18446744073709551615){n:Nat}(h:n<=64*dt w)(u:dt w<=2000):am (oU (n:Int) w) cv ((0,[]))=O (pR w n):=by
 refine eZ (f:=oU (n:Int) w) (n:=n) (F:=λi=>pR w i) V1 (λi hi=> ?_) ?_
 .unfold oU;simp only
  have e:zH zI (aB (i:Int) 64)=((i / 64:Nat):Int):=by
   show zH zI _=_;rw[show aB (i:Int) 64=((i / 64:Nat):Int)from rfl,Zi]
  rw[zB (show(i:Int)<(n:Int)by omega),zC,e,Wh V1,zG,av6 p,zG];have o:List.length (pR w i)=i:=yv w i;rw[o,bn V1 V4,Lr]
  have d:zH zI ((i:Int)+1)=((i+1:Nat):Int):=by
   show zH zI _=_;rw[Zi];omega
  have g:Zc (aD ((eL (w.getD (i / 64) 0) / 2 ^ (i % 64):Nat):Int) 2=1)=W5 w i:=by
   unfold W5;refine decide_eq_decide.2 ?_;rw[show aD ((eL (w.getD (i / 64) 0) / 2 ^ (i % 64):Nat):Int) 2=((eL (w.getD (i / 64) 0) / 2 ^ (i % 64) % 2:Nat):Int)from rfl];omega
  rw[d,g]
 .unfold oU;simp only;rw[zA (show¬(n:Int)<(n:Int)by omega),zD]
def P5 (w:Zd):Option (Zd×List Bool):=if dt w<5 then Y else match S 5 (w.drop 5) []with
 |none=>Y
 |some (l,rest)=>if w.getD 0 0=2 then(match rest with
  |[]=>Y
  |n::b=>if 64*(dt b:Int)<n then Y else O (l.getD 4 [],pR b (eL n)))else O (l.getD 4 [],[])
def Pv (e:gE w){l:List (Zd)}(h:S 5 w []=O (l,rest)):dt l=5/\gE rest/\(dt rest)<=dt w:=by
 have: ∀(r:Nat) (w:Zd) (d:List (Zd)) (q:List (Zd)×Zd),gE w->S r w d=O q->dt q.1=dt d+r/\gE q.2/\(dt q.2)<=dt w:=by
  intro r;induction r with
  |zero=>intro w d q e h;cases h;exact⟨rfl,e,Nat.le_refl _⟩
  |succ r z=>
   intro w d q e h;cases w with
   |nil=>cases h
   |cons x t=>
    simp only[S]at h;split at h
    .cases h
    .obtain⟨g,o,p⟩:=z _ _ _ (λy u=>e y (by simp[List.mem_of_mem_drop u])) h;rw[bD]at p;refine⟨by simp at g;omega,o,by simp;omega⟩
 have⟨g,o,p⟩:=this 5 w [] _ e h;exact⟨Z3,o,p⟩
def Xv (T:gE w)(W:dt w<=1500):sy w=O (match P5 w with|some (c,b)=>(c,0,b)|none=>([],4,[])):=by
 unfold sy P5;by_cases F:dt w<5
 .rw[Zf,zC,zE F]
 rw[Ze,zD,zF F,Zl,cf];have o:pU w 5 (dt w:Int)=w.drop 5:=wK (n:=5);rw[o];have z:gE (w.drop 5):=T.drop 5;have M:=Il (K:=5) V1 z (by rw[bD];omega);refine cd M ?_;cases e:S 5 (w.drop 5) []with
 |none=>rfl
 |some p=>
  have⟨l,rest⟩:=p;have⟨I,D,E⟩:=Pv z e;rw[bD]at E;show cond (Zc ((0:Int)≠0)) _ _=_;rw[zA V2,zD]
  have C:rd w 0=O (w.getD 0 0):=by
   exact qV (l:=w) (i:=0) V1
  refine cd C ?_;have g: ∃B:4<dt l,l[4]=l.getD 4 []:=⟨V1,ZR⟩
  obtain⟨B,g⟩:=g;have d:ix 4 (dt l)=O 4:=br (k:=4) V1;have u:l[4]?=O (l.getD 4 []):=by rw[cL B,g]
  by_cases A:w.getD 0 0=2
  .rw[zB A,zC];simp only[zE A];cases rest with
   |nil=>rfl
   |cons n b=>
    show cond (Zc (((dt b+1:Nat):Int)=0)) _ _=_;rw[Ze,zD];have L:dt b+1<=1500:=by simp at E;omega
    have y:ix 0 (dt b+1)=O 0:=br (k:=0) V1;have X:=D n V2;refine cd y ?_;refine cd (a:=n) rfl ?_;show cond (Zc (zH zJ (zH zI (64*(zH zI ((((dt b+1:Nat):Int))-1))))<n)) _ _=_
    have V:zH zJ (zH zI (64*(zH zI ((((dt b+1:Nat):Int))-1))))=64*(dt b:Int):=by
     rw[show(((dt b+1:Nat):Int))-1=(dt b:Int)by omega,ad (n:=(dt b:Int)) V1,ad (n:=64*(dt b:Int)) V1];exact bt V1
    rw[V];by_cases c:64*(dt b:Int)<n
    .rw[zB c,zC];simp only[zE c]
    .rw[zA c,zD];simp only[zF c];refine cd y ?_;refine cd (a:=n) rfl ?_;show gd (dv 1 ((dt b+1:Nat):Int) (dt b+1)) ((rO (zH zI n) _).bind _)=_;rw[Zl,cf,ad (n:=n) V1]
     have J:rO n (List.take (eL (((dt (n::b):Nat):Int))-1) (List.drop 1 (n::b)))=O (0,pR b (eL n)):=by
      have N:List.take (eL (((dt (n::b):Nat):Int))-1) (List.drop 1 (n::b))=b:=by
       rw[show(eL (((dt (n::b):Nat):Int)))-1=(dt b) by simp];simp
      rw[N];unfold rO;rw[Ze,zD,ad (n:=64*(dt b:Int)) V1,Ze,zD];have H:=aL0 (w:=b) (λx B=>D x (by simp[B])) (n:=eL n) V1 V1;rw[show((eL n:Nat):Int)=n by omega]at H;exact cd H rfl
     refine cd J ?_;refine cd (by rw[I]at d⊢;exact d) ?_;exact cd u rfl
  .rw[zA A,zD];simp only[zF A];refine cd d ?_;exact cd u rfl
end
section
open List renaming getElem?_cons_succ -> aB, getElem?_eq_getElem -> aD, takeWhile_cons_of_pos -> bB, takeWhile_prefix -> bD
def Qd : ∀{l:List Bool} {i:Nat},i<dt (l.takeWhile id)->l[i]?=O Za
 |[],i,h=>by simp at h
 |b::l,i,h=>by
  cases b with
  |false=>simp at h
  |true=>
   rw[bB (by rfl)]at h;cases i with
   |zero=>rfl
   |succ i=>
    rw[aB];exact Qd V9
def Mb : ∀{l:List Bool},dt (l.takeWhile id)<dt l->l[dt (l.takeWhile id)]?=O Zb
 |[],h=>by simp at h
 |b::l,h=>by
  cases b with
  |false=>rfl
  |true=>
   rw[bB (by rfl)]at h⊢;rw[List.length_cons,aB];exact Mb V9
def HP (l:List Bool):dt (l.takeWhile id)<=dt l:=(bD id).length_le
def Ol (l:List Bool):l.take (dt (l.takeWhile id))=l.takeWhile id:=(List.prefix_iff_eq_take.1 (bD id)).symm
def ad2 {l:List Bool}(u:dt l<=1000000):jh l Zb=O (if(dt (l.takeWhile id))<dt l then(dt (l.takeWhile id):Int)else-1):=by
 have p:=HP l;generalize o:dt (l.takeWhile id)=k at*
 have e:am (ip l Zb) cv 0=O (if k<dt l then .inl (k:Int)else .inr ()):=by
  refine pi (n:=k) V1 (λi hi=> ?_) ?_
  .have d:=Qd (l:=l) (i:=i) V1;have g:i<dt l:=by omega
   unfold ip;rw[Zf,zC,cg g];rw[aD g]at d;injection d with d
   rw[d];show O (Sum.inl (IntKind.i64.wrap ((i:Int)+1)))=_;rw[Zi];rfl
  .unfold ip;by_cases c:k<dt l
   .rw[Zf,zC,cg c,zE c];have d:=Mb (l:=l) V1;rw[o,aD c]at d;injection d with d
    rw[d];rfl
   .rw[Ze,zD,zF c]
 unfold jh;refine cd e ?_;split<;>rfl
def X3 {l:List Bool}(e:Int)(p:dt l<=1000000):am (sv (e,l)) cv 0=O (dt (l.takeWhile id):Int):=by
 have o:=HP l;generalize g:dt (l.takeWhile id)=k at*;refine pi (n:=k) V1 (λi hi=> ?_) ?_
 .have d:=Qd (l:=l) (i:=i) V1;unfold sv;rw[zB (show(i:Int)<((dt l:Nat):Int)by omega),zC];refine cd (br (k:=i) (n:=dt l) V1) ?_;refine cd d ?_;rw[zC,Zi];rfl
 .unfold sv;by_cases c:k<dt l
  .rw[zB (show(k:Int)<((dt l:Nat):Int)by omega),zC];refine cd (br (k:=k) (n:=dt l) V1) ?_;have d:=Mb (l:=l) V1;rw[g]at d;exact cd d rfl
  .rw[zA (show¬(k:Int)<((dt l:Nat):Int)by omega),zD]
def Hd.pl (h:Hd):Int:=(eo h.m (dt h.x) (dt h.t) h.R h.l h.Q h.k h.n h.b).2.2.2.2
def E4 (w:Zd):Int⊕(Hd×Zd×List Bool):=match P5 w with
 |none=> .inl 4
 |some (c,b)=>match D7 w with
  | .inl e=> .inl e
  | .inr (h,_)=>if h.pl≠0 then .inl h.pl else if h.m=2/\65536<=dt (b.takeWhile id) then .inl 14 else .inr (h,c,b.takeWhile id)
def LG {e:Int}(h:D7 w= .inl e):e≠0:=by
 unfold D7 at h;split at h
 .injection h with h;omega
 .split at h
  .split at h
   .injection h with h;omega
   split at h
   .injection h with h;omega
   split at h
   .rename_i d;injection h with h;rw[<-h];exact d
   .cases h
  .injection h with h;omega
def ab0 {h:Hd}{r:Zd}(e:D7 w= .inr (h,r)):h.m=w.getD 0 0/\h.chk=0:=by
 unfold D7 at e;split at e
 .cases e
 .split at e
  .split at e
   .cases e
   split at e
   .cases e
   split at e
   .cases e
   .rename_i o;injection e with e;injection e with d g;subst d;exact⟨rfl,V1⟩
  .cases e
def ac4 (y:gE w)(B:dt w<=1500){c:Zd}{b:List Bool}(h:P5 w=O (c,b)):dt b<=100000/\(w.getD 0 0≠2->b=[]):=by
 unfold P5 at h;split at h
 .cases h
 split at h
 .cases h
 .rename_i l rest u;have⟨A,g,e⟩:=Pv (y.drop 5) u;rw[List.length_drop]at e;split at h
  .rename_i p;split at h
   .cases h
   .rename_i n z;split at h
    .cases h
    .injection h with h
     injection h with o d
     subst d;have C:=g n V2;simp at e;exact⟨by rw[yv];omega,λk=>(k p).elim⟩
  .injection h with h
   injection h with o d
   subst d;exact⟨V2,λ_=>rfl⟩
def JL (g:gE w)(y:dt w<=1500):fM w=O (match E4 w with
  | .inl e=>(0,0,[],0,[],0,0,[],e,[],[],[])
  | .inr (h,c,b)=>(h.m,h.R,h.l,h.Q,h.k,h.n,h.b,c,0,h.x,h.t,b)):=by
 unfold fM E4;refine cd (Xv g y) ?_;cases e:P5 w with
 |none=>rfl
 |some p=>
  have⟨c,b⟩:=p;have⟨J,C⟩:=ac4 g y e;show cond (Zc ((0:Int)≠0)) _ _=_;rw[zA V2,zD];refine cd (NF g V1) ?_;cases u:D7 w with
  |inl B=>
   show cond (Zc (B≠0)) _ _=_;rw[zB (LG u),zC]
  |inr q=>
   have⟨h,r⟩:=q;have⟨E,F,H,I⟩:=PW g y u;have⟨L,K⟩:=ab0 u;show cond (Zc ((0:Int)≠0)) _ ((gA h.m h.x h.t h.R h.l h.Q h.k h.n h.b).bind _)=_;rw[zA V2,zD];refine cd (B8 E F) ?_;show cond (Zc (h.pl≠0)) _ _=_;simp only;by_cases d:h.pl≠0
   .rw[zB d,zC,zE d];rfl
   rw[zA d,zD,zF d];refine cd (a:=(h.m,h.R,h.l,h.Q,h.k,h.n,h.b,c,h.x,h.t,r,b.takeWhile id)) ?_ ?_
   .refine cd (ad2 V1) ?_;have D:=HP b;by_cases k:dt (b.takeWhile id)<dt b
    .rw[zE k,Zf,zC,Zl,cf];show O (h.m,h.R,h.l,h.Q,h.k,h.n,h.b,c,h.x,h.t,r,List.take (eL (dt (b.takeWhile id):Int)-0) b)=_;rw[show(eL ((dt (b.takeWhile id):Int)))-0=(dt (b.takeWhile id)) by omega,Ol]
    .rw[zF k,Ze,zD]
     have:b=b.takeWhile id:=by
      have z:=Ol b;rw[List.take_of_length_le V1]at z;exact z
     rw[<-this]
   show cond (Zc (h.m=2)) (cond (Zc ((65536:Int)<=((dt (b.takeWhile id):Nat):Int))) _ _) _=_;by_cases o:h.m=2
   .rw[zB o,zC];by_cases A:65536<=dt (b.takeWhile id)
    .rw[Zf,zC,zE ⟨o,A⟩]
    .rw[Ze,zD,zF (λk=>A k.2)]
   .rw[zA o,zD,zF (λk=>o k.1)]
end
section
open Go.IntKind renaming wrap -> zH, i64 -> zI, u64 -> zJ
open List renaming length_drop -> aB
def aP9 {h:Hd}(g:OpsOk h.l)(o:OpsOk h.k)(d:h.pl=0):0<=h.n/\h.n<=65535:=by
 have e:mO h.m (dt h.x) (dt h.t) h.R h.l h.Q h.k h.n h.b=0:=by
  unfold Hd.pl eo at d;split at d
  .exact d
  .rename_i c;exact Decidable.not_not.1 c
 exact(zO g o e).len
def UP (hu:gE w)(hl:dt w<=1500):xZ w=O (match E4 w with
  | .inl e=>(0,[],[],0,0,0,0,[],0,e,[],[])
  | .inr (h,c,b)=>(h.m,h.x,h.t,h.R,h.Q,h.n,h.b,c,if h.m≠2 then h.n else(dt b:Int),0,h.l,h.k)):=by
 unfold xZ E4 P5;by_cases h5:dt w<5
 .rw[Zf,zC,zE h5]
 rw[Ze,zD,zF h5,Zl,cf];have J:pU w 5 (dt w:Int)=w.drop 5:=wK (n:=5);rw[J];have M:gE (w.drop 5):=hu.drop 5;have hs:=H3 (K:=5) V1 M Z2;refine cd hs ?_;cases e:S 5 (w.drop 5) []with
 |none=>rfl
 |some p=>
  have⟨l,rest⟩:=p;have⟨e1,e2,e3⟩:=Pv M e;rw[aB]at e3;show cond (Zc ((0:Int)≠0)) _ _=_;rw[zA V2,zD];have E:rd w 0=O (w.getD 0 0):=qV (l:=w) (i:=0) V1
  have tail: ∀(b:List Bool),dt b<=100000->(w.getD 0 0≠2->b=[])->bg (Sum.inr (α:=Unit) (dt (b.takeWhile id):Int)) (λu'12=>
    O ((0,[],[],0,0,0,0,[],0,4,[],[])))
    (λw13=>
    ek (qc w) λ⟨d,u,y,z,A,g,B,r14_7,C,D,o⟩=>
    cond (Zc (C≠0))
     (O ((0,[],[],0,0,0,0,[],0,C,[],[])))
     (ek (qN d u y z D A o g B) λN=>
     cond (Zc (N.2.2.2.2≠0))
     (O ((0,[],[],0,0,0,0,[],0,N.2.2.2.2,[],[])))
     ((((cond (Zc (d≠2))
      (O g)
      (O w13)):Option (Int))).bind λT=>
     cond (Zc (65535<T))
      (O ((0,[],[],0,0,0,0,[],0,14,[],[])))
      (ek (ix 4 (dt l)) λj17=>
      ek (l[j17]?) λx18=>
      O ((d,u,y,z,A,g,B,x18,T,0,D,o))))))=O (match(match O (l.getD 4 [],b)with
     |none=>(.inl 4:Int⊕(Hd×Zd×List Bool))
     |some (c,b)=>match D7 w with
      | .inl e=> .inl e
      | .inr (h,_)=>if h.pl≠0 then .inl h.pl else if h.m=2/\65536<=dt (b.takeWhile id) then .inl 14 else .inr (h,c,b.takeWhile id))with
    | .inl e=>(0,[],[],0,0,0,0,[],0,e,[],[])
    | .inr (h,c,b)=>(h.m,h.x,h.t,h.R,h.Q,h.n,h.b,c,if h.m≠2 then h.n else(dt b:Int),0,h.l,h.k)):=by
   intro b hb hb2;rw[cb];refine cd (Qv hu V1) ?_;cases W:D7 w with
   |inl er=>
    show cond (Zc (er≠0)) _ _=_;rw[zB (LG W),zC]
   |inr q=>
    have⟨h,r⟩:=q;have⟨o4,o6,g4,g6⟩:=PW hu hl W;have⟨hm,hc⟩:=ab0 W;show cond (Zc ((0:Int)≠0)) _ ((qN h.m h.x h.t h.R h.l h.Q h.k h.n h.b).bind _)=_;rw[zA V2,zD];refine cd (UM o4 o6 g4 g6) ?_;show cond (Zc (h.pl≠0)) _ _=_;simp only;by_cases L:h.pl≠0
    .rw[zB L,zC,zE L];rfl
    have hn:=aP9 o4 o6 (Decidable.not_not.1 L);rw[zA L,zD,zF L];have hle:=HP b;refine cd (a:=if h.m≠2 then h.n else(dt (b.takeWhile id):Int)) ?_ ?_
    .show cond (Zc (h.m≠2)) (O h.n) (O (dt (b.takeWhile id):Int))=_;by_cases k:h.m≠2
     .rw[zB k,zC,zE k]
     .rw[zA k,zD,zF k]
    have I: ∃V:4<dt l,l[4]=l.getD 4 []:=⟨V1,ZR⟩
    obtain⟨V,I⟩:=I;have Z:ix 4 (dt l)=O 4:=br (k:=4) V1;have X:l[4]?=O (l.getD 4 []):=by rw[List.getElem?_eq_getElem V,I]
    by_cases k:h.m=2/\65536<=dt (b.takeWhile id)
    .rw[zE k,zF (λc=>c k.1),Zf,zC]
    .rw[zF k,zA (by split<;>omega),zD];refine cd Z ?_;exact cd X rfl
  by_cases F:w.getD 0 0=2
  .simp only[zE F];cases rest with
   |nil=>
    refine cd (a:= .inl ()) ?_ ?_
    .refine cd E ?_;rw[zB F,zC];rfl
    .rfl
   |cons n b=>
    have hlb:dt b+1<=1500:=by simp at e3;omega
    have hn:=e2 n V2
    have hw:zH zJ (zH zI (64*(zH zI ((((dt b+1:Nat):Int))-1))))=64*(dt b:Int):=by
     rw[show(((dt b+1:Nat):Int))-1=(dt b:Int)by omega,ad (n:=(dt b:Int)) V1,ad (n:=64*(dt b:Int)) V1];exact bt V1
    have H:rd (n::b) 0=O n:=cg (l:=n::b) (i:=0) V2;by_cases c:64*(dt b:Int)<n
    .refine cd (a:= .inl ()) ?_ ?_
     .refine cd E ?_;rw[zB F,zC];show cond (Zc (((dt b+1:Nat):Int)=0)) _ ((rd (n::b) 0).bind _)=_;rw[Ze,zD];refine cd H ?_;show cond (Zc (zH zJ (zH zI (64*(zH zI ((((dt b+1:Nat):Int))-1))))<n)) _ _=_;rw[hw,zB c,zC]
     .simp only[zE c];rfl
    .refine cd (a:= .inr (dt ((pR b (eL n)).takeWhile id):Int)) ?_ ?_
     .refine cd E ?_;rw[zB F,zC];show cond (Zc (((dt b+1:Nat):Int)=0)) _ ((rd (n::b) 0).bind _)=_;rw[Ze,zD];refine cd H ?_;show cond (Zc (zH zJ (zH zI (64*(zH zI ((((dt b+1:Nat):Int))-1))))<n)) _ ((rd (n::b) 0).bind _)=_;rw[hw,zA c,zD];refine cd H ?_;show gd (dv 1 ((dt b+1:Nat):Int) (dt b+1)) ((tS (zH zI n) (pU (n::b) 1 ((dt b+1:Nat):Int))).bind _)=_;rw[Zl,cf,ad (n:=n) V1]
      have hb:tS n (pU (n::b) 1 ((dt b+1:Nat):Int))=O (0,pR b (eL n)):=by
       have ht:pU (n::b) 1 ((dt b+1:Nat):Int)=b:=wK (w:=n::b) (n:=1);rw[ht];unfold tS;rw[Ze,zD,ad (n:=64*(dt b:Int)) V1,Ze,zD];have hk:=aL1 (w:=b) (λx V=>e2 x (by simp[V])) (n:=eL n) V1 V1;rw[show((eL n:Nat):Int)=n by omega]at hk;exact cd hk rfl
      refine cd hb ?_;exact cd (X3 0 (by rw[yv];omega)) rfl
     .simp only[zF c];exact tail (pR b (eL n)) (by rw[yv];omega) (λk=>(k F).elim)
  .simp only[zF F];refine cd (a:= .inr (dt ((([]:List Bool)).takeWhile id):Int)) ?_ ?_
   .refine cd E ?_;rw[zA F,zD];rfl
   .exact tail [] V2 (λ_=>rfl)
end
section
open Bool renaming and_false -> bD, not_true -> cB
open List renaming length_append -> aD, length_singleton -> bB, length_cons -> cD, length_nil -> cK, nil_append -> cL
open Nat renaming zero_add -> aB
open Option renaming isNone -> cM
def yJ {α γ:Type}{c:Cx}(h:c.Ok){f:α->Option (α⊕γ)}{st:Nat->Nat->Bool->Dy->List (Int×Int)->α}
  (F: ∀(i p:Nat) (en:Bool) (s:Dy) (o:List (Int×Int)) (a:Int×Int),i<20000->dt o<=100000->cy c i s->QE c en s->rE c en s=O a->wz c a s->f (st i p en s o)=O (.inl (st (i+1) p en (sQ c a s) (o++[a]))))
  (I: ∀(i p:Nat) (s:Dy) (o:List (Int×Int)),i<20000->cy c i s->c.mode=2->rE c Zb s=Y->s.q= -1->s.L<65535->p<l->f (st i p Zb s o)=O (.inl (st (i+1) (p+1) Zb (Ga s) o)))
  (J: ∀(i p:Nat) (s:Dy) (o:List (Int×Int)),i<20000->cy c i s->c.mode=2->rE c Zb s=Y->s.q= -1->p=l->f (st i p Zb s o)=O (.inl (st (i+1) (p+1) Za s o)))
  {p:Nat}    {z:Nat} {u:Bool} {y:Dy} (H:Way c l p en s es z u y): ∀(i:Nat) (o:List (Int×Int)),cy c i s->QE c en s->i+dt es<=20000->dt o+dt es<=100000->
   Reach f (dt es) (st i p en s o) (st (i+dt es) z u y (o++kW es))/\QE c u y:=by
 induction H with
 |nil=>
  intro i o w q _ _;refine⟨?_,q⟩;rw[show kW []=([]:List (Int×Int))from rfl,List.append_nil];exact Reach.refl
 | @act p en s a es z u y e m _ C=>
  intro i o w q A B;rw[cD]at A B;have⟨r,D⟩:=C (i+1) (o++[a]) (lW h w e m) (GZ h w q e m) V1 (by rw[aD,bB];omega);refine⟨?_,D⟩;have:=(Reach.one (F i p en s o a V1 V1 w q e m)).trans r;rw[List.append_assoc]at this;rw[cD,show dt es+1=1+(dt es) by omega,show i+(1+dt es)=i+1+(dt es) by omega];exact this
 | @more p s es z u y a b d e g _ C=>
  intro i o w q A B;rw[cD]at A B;have⟨r,D⟩:=C (i+1) o (G7 h w a d e) ⟨q.1,λE _=>by have E:0<=s.q:=E;omega⟩ V1 V1;refine⟨?_,D⟩;have:=(Reach.one (I i p s o V1 w a b d e g)).trans r;rw[cD,show dt es+1=1+(dt es) by omega,show i+(1+dt es)=i+1+(dt es) by omega];exact this
 | @stop p s es z u y a b d e _ C=>
  intro i o w q A B;rw[cD]at A B;have⟨r,D⟩:=C (i+1) o (Ti h (Nat.le_succ i) w) ⟨λk=>(k a).elim,λ_ _=>rfl⟩ V1 V1;refine⟨?_,D⟩;have:=(Reach.one (J i p s o V1 w a b d e)).trans r;rw[cD,show dt es+1=1+(dt es) by omega,show i+(1+dt es)=i+1+(dt es) by omega];exact this
section
variable {c:Cx} (h:c.Ok)
include h
def we (w:cy c i s):Wd c s.W/\(dt s.W)<=1048576:=by
 have d:Wd c s.W:=by
  unfold cy at w;split at w
  .exact w.inv.w
  .exact w.inv.w
 exact⟨d,(d.tk h).2⟩
def ab7 (d:c.mode=3)(e:eo c.mode (dt c.X) (dt c.T) c.R c.l c.Q c.k c.len c.words=(c.fixed,c.tp,c.sl,c.ns,0)):je c.mode c.X c.T c.R c.l c.Q c.k c.len c.words=O (.inr (.inl (c.mode,Zb,Zb,c.fixed,c.tp,c.sl,c.ns,c.mode,c.R,c.Q,c.len,c.words,c.len,c.X,c.T,c.l,c.k,c.P,c.tk,c.fixed,c.fixed,c.words,(new1 c).W))):=by
 unfold je;refine cd (bg4 h d e) ?_
 refine cd (show mA .. =O (c.mode,Zb,Zb)from by
  unfold mA;rw[show ix c.mode 4=O 3 from by rw[d];rfl]
  rfl) ?_
 rfl
def PS (o:c.mode=3)(e0:eo c.mode (dt c.X) (dt c.T) c.R c.l c.Q c.k c.len c.words=(c.fixed,c.tp,c.sl,c.ns,0))(y:dt cs<=1000000)(bs:List Bool)(n:Int)(hi:i<=1000000)(w:cy c i s)(q:QE c en s):
  eV c.mode c.X c.T c.R c.l c.Q c.k c.len c.words cs bs n c.mode en Zb c.fixed c.tp c.sl c.ns c.mode c.R c.Q c.len c.words s.L s.p s.q s.c0 s.c1 s.c2 s.c3 s.z c.X c.T c.l c.k c.P c.tk s.lv s.pk c.words s.W=O (c.mode,en,Zb,c.fixed,c.tp,c.sl,c.ns,c.mode,c.R,c.Q,c.len,c.words,s.L,s.p,s.q,s.c0,s.c1,s.c2,s.c3,s.z,c.X,c.T,c.l,c.k,c.P,c.tk,s.lv,s.pk,c.words,s.W):=by
 have d:=w;unfold cy at d;rw[zE o]at d;have g:=we h w;have A:en=Zb:=q.1 V1;subst A;have e:=eZ (f:=rP c.mode c.X c.T c.R c.l c.Q c.k c.len c.words cs n) (n:=dt cs) (F:=λ_=>(c.mode,Zb,Zb,c.fixed,c.tp,c.sl,c.ns,c.mode,c.R,c.Q,c.len,c.words,s.L,s.p,s.q,s.c0,s.c1,s.c2,s.c3,s.z,c.X,c.T,c.l,c.k,c.P,c.tk,s.lv,s.pk,c.words,s.W)) (c:=(c.mode,Zb,Zb,c.fixed,c.tp,c.sl,c.ns,c.mode,c.R,c.Q,c.len,c.words,s.L,s.p,s.q,s.c0,s.c1,s.c2,s.c3,s.z,c.X,c.T,c.l,c.k,c.P,c.tk,s.lv,s.pk,c.words,s.W)) V1 (λj B=> ?_) ?_
 .unfold eV;exact cd e rfl
 .show cond (Zc ((j:Int)<((dt cs:Nat):Int))) ((rd cs (j:Int)).bind _) _=_;rw[Zf,zC];refine cd (cg B) ?_;by_cases u:cs[j]=IntKind.u64.wrap n
  .rw[zB u,zC];refine cd (aV9 h g.1 g.2 c.mode Zb Zb) ?_;refine cd (Ym h o e0 d.inv d.cnt V1 g.2) ?_;simp only[cb,gi];rw[Zi];rfl
  .rw[zA u,zD,Zi];rfl
 .show cond (Zc ((dt cs:Int)<((dt cs:Nat):Int))) _ _=_;rw[Ze,zD]
def G4 (c:Cx)(i e:Nat)(en:Bool)(s:Dy)(d:List (Int×Int)):=((dt d:Int),(e:Int),(dt d:Int),c.mode,en,Zb,c.fixed,c.tp,c.sl,c.ns,c.mode,c.R,c.Q,c.len,c.words,s.L,s.p,s.q,s.c0,s.c1,s.c2,s.c3,s.z,c.X,c.T,c.l,c.k,c.P,c.tk,s.lv,s.pk,c.words,s.W)
def aq7 (p:c.mode=3)(e0:eo c.mode (dt c.X) (dt c.T) c.R c.l c.Q c.k c.len c.words=(c.fixed,c.tp,c.sl,c.ns,0))(o:dt cs<=1000000)(bs:List Bool)(i g:Nat)(en:Bool)(s:Dy)(d:List (Int×Int))(a:Int×Int)(hi:i<20000)(u:dt d<=100000)(w:cy c i s)(q:QE c en s)(e:rE c en s=O a)(m:wz c a s):
  jP c.mode c.R c.l c.Q c.k c.len c.words cs c.X c.T bs (G4 c i g en s d)=O (.inl (G4 c (i+1) g en (sQ c a s) (d++[a]))):=by
 unfold G4 jP;refine cd (aY0 h p V1 w e m) ?_;show cond Za _ _=_;rw[zC];refine cd (PS h p e0 o bs _ V1 (lW h w e m) (GZ h w q e m)) ?_;rw[aD,bB,Zi,show((dt d+1:Nat):Int)=(dt d:Int)+1 by omega]
def au7 (u:c.mode=3)(i g:Nat)(en:Bool)(s:Dy)(d:List (Int×Int))(w:cy c i s)(e:rE c en s=Y)(y:c.mode=2->en=Za):
  jP c.mode c.R c.l c.Q c.k c.len c.words cs c.X c.T bs (G4 c i g en s d)=O (.inr ((dt d:Int),c.mode,en,Zb,c.fixed,c.tp,c.sl,c.ns,c.mode,c.R,c.Q,c.len,c.words,s.L,s.p,s.q,s.c0,s.c1,s.c2,s.c3,s.z,c.X,c.T,c.l,c.k,c.P,c.tk,s.lv,s.pk,c.words,s.W)):=by
 unfold G4 jP;refine cd (aX8 h u w e) ?_;show cond Zb _ _=_;rw[zD];refine cd (aY9 h u w) ?_
 rw[e,show(cM (Y:Option (Int×Int))&&(Zc (c.mode=2)&& !en))=Zb from by
  by_cases o:c.mode=2
  .rw[y o,cB,bD];rfl
  .rw[zA o];rfl,zD]
def ar3 (A:c.mode=3)(e0:eo c.mode (dt c.X) (dt c.T) c.R c.l c.Q c.k c.len c.words=(c.fixed,c.tp,c.sl,c.ns,0))(o:dt cs<=1000000)(D:l<=40)(E:c.mode=2->dt bs=l)(H:Way c l 0 Zb (qE c) es f en s)(F:Fin c l f en s es):
  am (jP c.mode c.R c.l c.Q c.k c.len c.words cs c.X c.T bs) cv (G4 c 0 0 Zb (qE c) [])=O ((dt (kW es):Int),c.mode,en,Zb,c.fixed,c.tp,c.sl,c.ns,c.mode,c.R,c.Q,c.len,c.words,s.L,s.p,s.q,s.c0,s.c1,s.c2,s.c3,s.z,c.X,c.T,c.l,c.k,c.P,c.tk,s.lv,s.pk,c.words,s.W):=by
 have w0:=kJ h;have B:=H.well h w0;have y:=F.le D;obtain⟨r,q⟩:=yJ h (f:=jP c.mode c.R c.l c.Q c.k c.len c.words cs c.X c.T bs) (st:=G4 c) (λi d en s g a hi C w q e m=>aq7 h A e0 o bs i d en s g a hi C w q e m) (λi d s g hi w u=>by omega) (λi d s g hi w u=>by omega) H 0 [] w0 Dc V1 Z7;rw[aB,cL]at r;rw[aB]at B;exact yF r V1 (au7 h A (dt es) f en s (kW es) B F.no F.en)
def zW (c:Cx)(i e:Nat)(en:Bool)(s:Dy)(d:List (Int×Int)):=((dt d:Int),(e:Int),c.mode,en,Zb,d,c.fixed,c.tp,c.sl,c.ns,c.mode,c.R,c.Q,c.len,c.words,s.L,s.p,s.q,s.c0,s.c1,s.c2,s.c3,s.z,c.X,c.T,c.l,c.k,c.P,c.tk,s.lv,s.pk,c.words,s.W)
def WO (p:c.mode=3)(e0:eo c.mode (dt c.X) (dt c.T) c.R c.l c.Q c.k c.len c.words=(c.fixed,c.tp,c.sl,c.ns,0))(o:dt cs<=1000000)(bs:List Bool)(i g:Nat)(en:Bool)(s:Dy)(d:List (Int×Int))(a:Int×Int)(hi:i<20000)(z:dt d<=100000)(w:cy c i s)(q:QE c en s)(e:rE c en s=O a)(m:wz c a s):
  ic c.mode c.R c.l c.Q c.k c.len c.words cs c.X c.T bs (zW c i g en s d)=O (.inl (zW c (i+1) g en (sQ c a s) (d++[a]))):=by
 have y:a=(a.1,0):=by
  have u:=e;rw[ax6 p]at u;exact Prod.ext rfl (aF0 u)
 unfold zW ic;refine cd (aY0 h p V1 w e m) ?_;show cond Za _ _=_;rw[zC,bn V1 V1];refine cd (PS h p e0 o bs _ V1 (lW h w e m) (GZ h w q e m)) ?_;rw[aD,bB,Zi,show((dt d+1:Nat):Int)=(dt d:Int)+1 by omega,y]
def Xo (u:c.mode=3)(i g:Nat)(en:Bool)(s:Dy)(d:List (Int×Int))(w:cy c i s)(e:rE c en s=Y)(y:c.mode=2->en=Za):
  ic c.mode c.R c.l c.Q c.k c.len c.words cs c.X c.T bs (zW c i g en s d)=O (.inr (c.mode,en,Zb,d,c.fixed,c.tp,c.sl,c.ns,c.mode,c.R,c.Q,c.len,c.words,s.L,s.p,s.q,s.c0,s.c1,s.c2,s.c3,s.z,c.X,c.T,c.l,c.k,c.P,c.tk,s.lv,s.pk,c.words,s.W)):=by
 unfold zW ic;refine cd (aX8 h u w e) ?_;show cond Zb _ _=_;rw[zD];refine cd (aY9 h u w) ?_
 rw[e,show(cM (Y:Option (Int×Int))&&(Zc (c.mode=2)&& !en))=Zb from by
  by_cases o:c.mode=2
  .rw[y o,cB,bD];rfl
  .rw[zA o];rfl,zD]
def WS (A:c.mode=3)(e0:eo c.mode (dt c.X) (dt c.T) c.R c.l c.Q c.k c.len c.words=(c.fixed,c.tp,c.sl,c.ns,0))(o:dt cs<=1000000)(D:l<=40)(E:c.mode=2->dt bs=l)(H:Way c l 0 Zb (qE c) es f en s)(F:Fin c l f en s es):
  am (ic c.mode c.R c.l c.Q c.k c.len c.words cs c.X c.T bs) cv (zW c 0 0 Zb (qE c) [])=O (c.mode,en,Zb,(kW es),c.fixed,c.tp,c.sl,c.ns,c.mode,c.R,c.Q,c.len,c.words,s.L,s.p,s.q,s.c0,s.c1,s.c2,s.c3,s.z,c.X,c.T,c.l,c.k,c.P,c.tk,s.lv,s.pk,c.words,s.W):=by
 have w0:=kJ h;have B:=H.well h w0;have y:=F.le D;obtain⟨r,q⟩:=yJ h (f:=ic c.mode c.R c.l c.Q c.k c.len c.words cs c.X c.T bs) (st:=zW c) (λi d en s g a hi C w q e m=>WO h A e0 o bs i d en s g a hi C w q e m) (λi d s g hi w u=>by omega) (λi d s g hi w u=>by omega) H 0 [] w0 Dc V1 Z7;rw[aB,cL]at r;rw[aB]at B;exact yF r V1 (Xo h A (dt es) f en s (kW es) B F.no F.en)
def PT (A:c.mode=1)(e0:eo c.mode (dt c.X) (dt c.T) c.R c.l c.Q c.k c.len c.words=(c.fixed,c.tp,c.sl,c.ns,0))(u:dt cs<=1000000)(bs:List Bool)(n:Int)(hi:i<=1000000)(w:cy c i s)(q:QE c en s):
  eW c.mode c.X c.T c.R c.l c.Q c.k c.len c.words cs bs n c.mode en Zb c.fixed c.tp c.sl c.ns c.mode c.R c.Q c.len c.words s.L s.p s.q s.c0 s.c1 s.c2 s.c3 s.z c.X c.T c.l c.k c.P c.tk (c.off 8:Int) c.ns (dt c.X:Int) s.lv s.pk c.words s.W=O (c.mode,en,Zb,c.fixed,c.tp,c.sl,c.ns,c.mode,c.R,c.Q,c.len,c.words,s.L,s.p,s.q,s.c0,s.c1,s.c2,s.c3,s.z,c.X,c.T,c.l,c.k,c.P,c.tk,(c.off 8:Int),c.ns,(dt c.X:Int),s.lv,s.pk,c.words,s.W):=by
 have d:=w;unfold cy at d;rw[Zh]at d;have g:=we h w;have e:=eZ (f:=rQ c.mode c.X c.T c.R c.l c.Q c.k c.len c.words cs n) (n:=dt cs) (F:=λ_=>(c.mode,en,Zb,c.fixed,c.tp,c.sl,c.ns,c.mode,c.R,c.Q,c.len,c.words,s.L,s.p,s.q,s.c0,s.c1,s.c2,s.c3,s.z,c.X,c.T,c.l,c.k,c.P,c.tk,(c.off 8:Int),c.ns,(dt c.X:Int),s.lv,s.pk,c.words,s.W)) (c:=(c.mode,en,Zb,c.fixed,c.tp,c.sl,c.ns,c.mode,c.R,c.Q,c.len,c.words,s.L,s.p,s.q,s.c0,s.c1,s.c2,s.c3,s.z,c.X,c.T,c.l,c.k,c.P,c.tk,(c.off 8:Int),c.ns,(dt c.X:Int),s.lv,s.pk,c.words,s.W)) V1 (λj y=> ?_) ?_
 .unfold eW;exact cd e rfl
 .show cond (Zc ((j:Int)<((dt cs:Nat):Int))) ((rd cs (j:Int)).bind _) _=_;rw[Zf,zC];refine cd (cg y) ?_;by_cases o:cs[j]=IntKind.u64.wrap n
  .rw[zB o,zC];refine cd (aW0 h g.1 g.2 c.mode en Zb) ?_;refine cd (Yn h A e0 d.inv d.len d.cnt V1 g.2 q.1 q.2) ?_;simp only[cb,gi];rw[Zi];rfl
  .rw[zA o,zD,Zi];rfl
 .show cond (Zc ((dt cs:Int)<((dt cs:Nat):Int))) _ _=_;rw[Ze,zD]
def G5 (c:Cx)(i e:Nat)(en:Bool)(s:Dy)(d:List (Int×Int)):=((dt d:Int),(e:Int),(dt d:Int),c.mode,en,Zb,c.fixed,c.tp,c.sl,c.ns,c.mode,c.R,c.Q,c.len,c.words,s.L,s.p,s.q,s.c0,s.c1,s.c2,s.c3,s.z,c.X,c.T,c.l,c.k,c.P,c.tk,(c.off 8:Int),c.ns,(dt c.X:Int),s.lv,s.pk,c.words,s.W)
def aq8 (p:c.mode=1)(u:1<=c.ns)(e0:eo c.mode (dt c.X) (dt c.T) c.R c.l c.Q c.k c.len c.words=(c.fixed,c.tp,c.sl,c.ns,0))(o:dt cs<=1000000)(bs:List Bool)(i g:Nat)(en:Bool)(s:Dy)(d:List (Int×Int))(a:Int×Int)(hi:i<20000)(y:dt d<=100000)(w:cy c i s)(q:QE c en s)(e:rE c en s=O a)(m:wz c a s):
  jQ c.mode c.R c.l c.Q c.k c.len c.words cs c.X c.T bs (G5 c i g en s d)=O (.inl (G5 c (i+1) g en (sQ c a s) (d++[a]))):=by
 unfold G5 jQ;refine cd (aY1 h p u V1 w e m) ?_;show cond Za _ _=_;rw[zC];refine cd (PT h p e0 o bs _ V1 (lW h w e m) (GZ h w q e m)) ?_;rw[aD,bB,Zi,show((dt d+1:Nat):Int)=(dt d:Int)+1 by omega]
def au8 (u:c.mode=1)(y:1<=c.ns)(i g:Nat)(en:Bool)(s:Dy)(d:List (Int×Int))(w:cy c i s)(e:rE c en s=Y)(A:c.mode=2->en=Za):
  jQ c.mode c.R c.l c.Q c.k c.len c.words cs c.X c.T bs (G5 c i g en s d)=O (.inr ((dt d:Int),c.mode,en,Zb,c.fixed,c.tp,c.sl,c.ns,c.mode,c.R,c.Q,c.len,c.words,s.L,s.p,s.q,s.c0,s.c1,s.c2,s.c3,s.z,c.X,c.T,c.l,c.k,c.P,c.tk,(c.off 8:Int),c.ns,(dt c.X:Int),s.lv,s.pk,c.words,s.W)):=by
 unfold G5 jQ;refine cd (aX9 h u y w e) ?_;show cond Zb _ _=_;rw[zD];refine cd (aZ0 h u y w) ?_
 rw[e,show(cM (Y:Option (Int×Int))&&(Zc (c.mode=2)&& !en))=Zb from by
  by_cases o:c.mode=2
  .rw[A o,cB,bD];rfl
  .rw[zA o];rfl,zD]
def ar4 (A:c.mode=1)(B:1<=c.ns)(e0:eo c.mode (dt c.X) (dt c.T) c.R c.l c.Q c.k c.len c.words=(c.fixed,c.tp,c.sl,c.ns,0))(o:dt cs<=1000000)(E:l<=40)(I:c.mode=2->dt bs=l)(H:Way c l 0 Zb (qE c) es f en s)(F:Fin c l f en s es):
  am (jQ c.mode c.R c.l c.Q c.k c.len c.words cs c.X c.T bs) cv (G5 c 0 0 Zb (qE c) [])=O ((dt (kW es):Int),c.mode,en,Zb,c.fixed,c.tp,c.sl,c.ns,c.mode,c.R,c.Q,c.len,c.words,s.L,s.p,s.q,s.c0,s.c1,s.c2,s.c3,s.z,c.X,c.T,c.l,c.k,c.P,c.tk,(c.off 8:Int),c.ns,(dt c.X:Int),s.lv,s.pk,c.words,s.W):=by
 have w0:=kJ h;have C:=H.well h w0;have y:=F.le E;obtain⟨r,q⟩:=yJ h (f:=jQ c.mode c.R c.l c.Q c.k c.len c.words cs c.X c.T bs) (st:=G5 c) (λi d en s g a hi D w q e m=>aq8 h A B e0 o bs i d en s g a hi D w q e m) (λi d s g hi w u=>by omega) (λi d s g hi w u=>by omega) H 0 [] w0 Dc V1 Z7;rw[aB,cL]at r;rw[aB]at C;exact yF r V1 (au8 h A B (dt es) f en s (kW es) C F.no F.en)
def zX (c:Cx)(i e:Nat)(en:Bool)(s:Dy)(d:List (Int×Int)):=((dt d:Int),(e:Int),c.mode,en,Zb,d,c.fixed,c.tp,c.sl,c.ns,c.mode,c.R,c.Q,c.len,c.words,s.L,s.p,s.q,s.c0,s.c1,s.c2,s.c3,s.z,c.X,c.T,c.l,c.k,c.P,c.tk,(c.off 8:Int),c.ns,(dt c.X:Int),s.lv,s.pk,c.words,s.W)
def WP (p:c.mode=1)(u:1<=c.ns)(e0:eo c.mode (dt c.X) (dt c.T) c.R c.l c.Q c.k c.len c.words=(c.fixed,c.tp,c.sl,c.ns,0))(o:dt cs<=1000000)(bs:List Bool)(i g:Nat)(en:Bool)(s:Dy)(d:List (Int×Int))(a:Int×Int)(hi:i<20000)(y:dt d<=100000)(w:cy c i s)(q:QE c en s)(e:rE c en s=O a)(m:wz c a s):
  ie c.mode c.R c.l c.Q c.k c.len c.words cs c.X c.T bs (zX c i g en s d)=O (.inl (zX c (i+1) g en (sQ c a s) (d++[a]))):=by
 unfold zX ie;refine cd (aY1 h p u V1 w e m) ?_;show cond Za _ _=_;rw[zC,bn V1 V1];refine cd (PT h p e0 o bs _ V1 (lW h w e m) (GZ h w q e m)) ?_;rw[aD,bB,Zi,show((dt d+1:Nat):Int)=(dt d:Int)+1 by omega]
def Xp (u:c.mode=1)(y:1<=c.ns)(i g:Nat)(en:Bool)(s:Dy)(d:List (Int×Int))(w:cy c i s)(e:rE c en s=Y)(A:c.mode=2->en=Za):
  ie c.mode c.R c.l c.Q c.k c.len c.words cs c.X c.T bs (zX c i g en s d)=O (.inr (c.mode,en,Zb,d,c.fixed,c.tp,c.sl,c.ns,c.mode,c.R,c.Q,c.len,c.words,s.L,s.p,s.q,s.c0,s.c1,s.c2,s.c3,s.z,c.X,c.T,c.l,c.k,c.P,c.tk,(c.off 8:Int),c.ns,(dt c.X:Int),s.lv,s.pk,c.words,s.W)):=by
 unfold zX ie;refine cd (aX9 h u y w e) ?_;show cond Zb _ _=_;rw[zD];refine cd (aZ0 h u y w) ?_
 rw[e,show(cM (Y:Option (Int×Int))&&(Zc (c.mode=2)&& !en))=Zb from by
  by_cases o:c.mode=2
  .rw[A o,cB,bD];rfl
  .rw[zA o];rfl,zD]
def WT (A:c.mode=1)(B:1<=c.ns)(e0:eo c.mode (dt c.X) (dt c.T) c.R c.l c.Q c.k c.len c.words=(c.fixed,c.tp,c.sl,c.ns,0))(o:dt cs<=1000000)(E:l<=40)(I:c.mode=2->dt bs=l)(H:Way c l 0 Zb (qE c) es f en s)(F:Fin c l f en s es):
  am (ie c.mode c.R c.l c.Q c.k c.len c.words cs c.X c.T bs) cv (zX c 0 0 Zb (qE c) [])=O (c.mode,en,Zb,(kW es),c.fixed,c.tp,c.sl,c.ns,c.mode,c.R,c.Q,c.len,c.words,s.L,s.p,s.q,s.c0,s.c1,s.c2,s.c3,s.z,c.X,c.T,c.l,c.k,c.P,c.tk,(c.off 8:Int),c.ns,(dt c.X:Int),s.lv,s.pk,c.words,s.W):=by
 have w0:=kJ h;have C:=H.well h w0;have y:=F.le E;obtain⟨r,q⟩:=yJ h (f:=ie c.mode c.R c.l c.Q c.k c.len c.words cs c.X c.T bs) (st:=zX c) (λi d en s g a hi D w q e m=>WP h A B e0 o bs i d en s g a hi D w q e m) (λi d s g hi w u=>by omega) (λi d s g hi w u=>by omega) H 0 [] w0 Dc V1 Z7;rw[aB,cL]at r;rw[aB]at C;exact yF r V1 (Xp h A B (dt es) f en s (kW es) C F.no F.en)
def PU (A:c.mode=2)(e0:eo c.mode (dt c.X) (dt c.T) c.R c.l c.Q c.k c.len c.words=(c.fixed,c.tp,c.sl,c.ns,0))(u:dt cs<=1000000)(bs:List Bool)(n:Int)(hi:i<=1000000)(w:cy c i s)(q:QE c en s):
  eX c.mode c.X c.T c.R c.l c.Q c.k c.len c.words cs bs n c.mode en Zb c.fixed c.tp c.sl c.ns c.mode c.R c.Q c.len c.words s.L s.p s.q s.c0 s.c1 s.c2 s.c3 s.z c.X c.T c.l c.k c.P c.tk (c.off 8:Int) c.ns (dt c.X:Int) s.lv s.pk c.words s.W=O (c.mode,en,Zb,c.fixed,c.tp,c.sl,c.ns,c.mode,c.R,c.Q,c.len,c.words,s.L,s.p,s.q,s.c0,s.c1,s.c2,s.c3,s.z,c.X,c.T,c.l,c.k,c.P,c.tk,(c.off 8:Int),c.ns,(dt c.X:Int),s.lv,s.pk,c.words,s.W):=by
 have d:=w;unfold cy at d;rw[Zh]at d;have g:=we h w;have e:=eZ (f:=rR c.mode c.X c.T c.R c.l c.Q c.k c.len c.words cs n) (n:=dt cs) (F:=λ_=>(c.mode,en,Zb,c.fixed,c.tp,c.sl,c.ns,c.mode,c.R,c.Q,c.len,c.words,s.L,s.p,s.q,s.c0,s.c1,s.c2,s.c3,s.z,c.X,c.T,c.l,c.k,c.P,c.tk,(c.off 8:Int),c.ns,(dt c.X:Int),s.lv,s.pk,c.words,s.W)) (c:=(c.mode,en,Zb,c.fixed,c.tp,c.sl,c.ns,c.mode,c.R,c.Q,c.len,c.words,s.L,s.p,s.q,s.c0,s.c1,s.c2,s.c3,s.z,c.X,c.T,c.l,c.k,c.P,c.tk,(c.off 8:Int),c.ns,(dt c.X:Int),s.lv,s.pk,c.words,s.W)) V1 (λj y=> ?_) ?_
 .unfold eX;exact cd e rfl
 .show cond (Zc ((j:Int)<((dt cs:Nat):Int))) ((rd cs (j:Int)).bind _) _=_;rw[Zf,zC];refine cd (cg y) ?_;by_cases o:cs[j]=IntKind.u64.wrap n
  .rw[zB o,zC];refine cd (aW1 h g.1 g.2 c.mode en Zb) ?_;refine cd (Yo h A e0 d.inv d.len d.cnt V1 g.2 q.1 q.2) ?_;simp only[cb,gi];rw[Zi];rfl
  .rw[zA o,zD,Zi];rfl
 .show cond (Zc ((dt cs:Int)<((dt cs:Nat):Int))) _ _=_;rw[Ze,zD]
def vH (c:Cx)(i e:Nat)(en:Bool)(s:Dy)(d:List (Int×Int)):=((dt d:Int),(e:Int),(dt d:Int),c.mode,en,Zb,c.fixed,c.tp,c.sl,c.ns,c.mode,c.R,c.Q,c.len,c.words,s.L,s.p,s.q,s.c0,s.c1,s.c2,s.c3,s.z,c.X,c.T,c.l,c.k,c.P,c.tk,(c.off 8:Int),c.ns,(dt c.X:Int),s.lv,s.pk,c.words,s.W)
def aq9 (p:c.mode=2)(u:1<=c.ns)(e0:eo c.mode (dt c.X) (dt c.T) c.R c.l c.Q c.k c.len c.words=(c.fixed,c.tp,c.sl,c.ns,0))(o:dt cs<=1000000)(bs:List Bool)(i g:Nat)(en:Bool)(s:Dy)(d:List (Int×Int))(a:Int×Int)(hi:i<20000)(y:dt d<=100000)(w:cy c i s)(q:QE c en s)(e:rE c en s=O a)(m:wz c a s):
  fI c.mode c.R c.l c.Q c.k c.len c.words cs c.X c.T bs (vH c i g en s d)=O (.inl (vH c (i+1) g en (sQ c a s) (d++[a]))):=by
 unfold vH fI;refine cd (aY2 h p u V1 w e m) ?_;show cond Za _ _=_;rw[zC];refine cd (PU h p e0 o bs _ V1 (lW h w e m) (GZ h w q e m)) ?_;rw[aD,bB,Zi,show((dt d+1:Nat):Int)=(dt d:Int)+1 by omega]
def au9 (u:c.mode=2)(y:1<=c.ns)(i g:Nat)(en:Bool)(s:Dy)(d:List (Int×Int))(w:cy c i s)(e:rE c en s=Y)(A:c.mode=2->en=Za):
  fI c.mode c.R c.l c.Q c.k c.len c.words cs c.X c.T bs (vH c i g en s d)=O (.inr ((dt d:Int),c.mode,en,Zb,c.fixed,c.tp,c.sl,c.ns,c.mode,c.R,c.Q,c.len,c.words,s.L,s.p,s.q,s.c0,s.c1,s.c2,s.c3,s.z,c.X,c.T,c.l,c.k,c.P,c.tk,(c.off 8:Int),c.ns,(dt c.X:Int),s.lv,s.pk,c.words,s.W)):=by
 unfold vH fI;refine cd (Ya h u y w e) ?_;show cond Zb _ _=_;rw[zD];refine cd (Tm h u y w) ?_
 rw[e,show(cM (Y:Option (Int×Int))&&(Zc (c.mode=2)&& !en))=Zb from by
  by_cases o:c.mode=2
  .rw[A o,cB,bD];rfl
  .rw[zA o];rfl,zD]
def ax0 (o:c.mode=2)(p:1<=c.ns)(z:dt bs<=1000000)(i d:Nat)(s:Dy)(g:List (Int×Int))(w:cy c i s)(e:rE c Zb s=Y)(y:s.q= -1)(u:s.L<65535)(A:d<dt bs):
  fI c.mode c.R c.l c.Q c.k c.len c.words cs c.X c.T bs (vH c i d Zb s g)=O (.inl (vH c (i+1) (d+1) Zb (Ga s) g)):=by
 unfold vH fI;refine cd (Ya h o p w e) ?_;show cond Zb _ _=_;rw[zD];refine cd (Tm h o p w) ?_;rw[e,zB o];show cond Za _ _=_;rw[zC,zB (show(d:Int)<((dt bs:Nat):Int)by omega)];refine cd (fdm h o p w e y u) ?_;rw[Zi,show(d:Int)+1=((d+1:Nat):Int)by omega];rfl
def aB5 (o:c.mode=2)(p:1<=c.ns)(u:dt bs<=1000000)(i d:Nat)(s:Dy)(g:List (Int×Int))(w:cy c i s)(e:rE c Zb s=Y)(z:s.q= -1)(y:d=dt bs):
  fI c.mode c.R c.l c.Q c.k c.len c.words cs c.X c.T bs (vH c i d Zb s g)=O (.inl (vH c (i+1) (d+1) Za s g)):=by
 unfold vH fI;refine cd (Ya h o p w e) ?_;show cond Zb _ _=_;rw[zD];refine cd (Tm h o p w) ?_;rw[e,zB o];show cond Za _ _=_;rw[zC,zA (show¬(d:Int)<((dt bs:Nat):Int)by omega)];refine cd (fds h o p w e) ?_;rw[Zi,show(d:Int)+1=((d+1:Nat):Int)by omega]
def ar5 (o:c.mode=2)(y:1<=c.ns)(e0:eo c.mode (dt c.X) (dt c.T) c.R c.l c.Q c.k c.len c.words=(c.fixed,c.tp,c.sl,c.ns,0))(A:dt cs<=1000000)(K:l<=40)(u:c.mode=2->dt bs=l)(H:Way c l 0 Zb (qE c) es f en s)(F:Fin c l f en s es):
  am (fI c.mode c.R c.l c.Q c.k c.len c.words cs c.X c.T bs) cv (vH c 0 0 Zb (qE c) [])=O ((dt (kW es):Int),c.mode,en,Zb,c.fixed,c.tp,c.sl,c.ns,c.mode,c.R,c.Q,c.len,c.words,s.L,s.p,s.q,s.c0,s.c1,s.c2,s.c3,s.z,c.X,c.T,c.l,c.k,c.P,c.tk,(c.off 8:Int),c.ns,(dt c.X:Int),s.lv,s.pk,c.words,s.W):=by
 have w0:=kJ h;have D:=H.well h w0;have C:=F.le K;obtain⟨r,q⟩:=yJ h (f:=fI c.mode c.R c.l c.Q c.k c.len c.words cs c.X c.T bs) (st:=vH c) (λi d en s g a hi J w q e m=>aq9 h o y e0 A bs i d en s g a hi J w q e m) (λi d s g hi w _ e B E I=>ax0 h o y Z4 i d s g w e B E Z4) (λi d s g hi w _ e B I=>aB5 h o y Z4 i d s g w e B Z4) H 0 [] w0 Dc V1 Z7;rw[aB,cL]at r;rw[aB]at D;exact yF r V1 (au9 h o y (dt es) f en s (kW es) D F.no F.en)
def nE (c:Cx)(i e:Nat)(en:Bool)(s:Dy)(d:List (Int×Int)):=((dt d:Int),(e:Int),c.mode,en,Zb,d,c.fixed,c.tp,c.sl,c.ns,c.mode,c.R,c.Q,c.len,c.words,s.L,s.p,s.q,s.c0,s.c1,s.c2,s.c3,s.z,c.X,c.T,c.l,c.k,c.P,c.tk,(c.off 8:Int),c.ns,(dt c.X:Int),s.lv,s.pk,c.words,s.W)
def WQ (p:c.mode=2)(u:1<=c.ns)(e0:eo c.mode (dt c.X) (dt c.T) c.R c.l c.Q c.k c.len c.words=(c.fixed,c.tp,c.sl,c.ns,0))(o:dt cs<=1000000)(bs:List Bool)(i g:Nat)(en:Bool)(s:Dy)(d:List (Int×Int))(a:Int×Int)(hi:i<20000)(y:dt d<=100000)(w:cy c i s)(q:QE c en s)(e:rE c en s=O a)(m:wz c a s):
  dz c.mode c.R c.l c.Q c.k c.len c.words cs c.X c.T bs (nE c i g en s d)=O (.inl (nE c (i+1) g en (sQ c a s) (d++[a]))):=by
 unfold nE dz;refine cd (aY2 h p u V1 w e m) ?_;show cond Za _ _=_;rw[zC,bn V1 V1];refine cd (PU h p e0 o bs _ V1 (lW h w e m) (GZ h w q e m)) ?_;rw[aD,bB,Zi,show((dt d+1:Nat):Int)=(dt d:Int)+1 by omega]
def Xq (u:c.mode=2)(y:1<=c.ns)(i g:Nat)(en:Bool)(s:Dy)(d:List (Int×Int))(w:cy c i s)(e:rE c en s=Y)(A:c.mode=2->en=Za):
  dz c.mode c.R c.l c.Q c.k c.len c.words cs c.X c.T bs (nE c i g en s d)=O (.inr (c.mode,en,Zb,d,c.fixed,c.tp,c.sl,c.ns,c.mode,c.R,c.Q,c.len,c.words,s.L,s.p,s.q,s.c0,s.c1,s.c2,s.c3,s.z,c.X,c.T,c.l,c.k,c.P,c.tk,(c.off 8:Int),c.ns,(dt c.X:Int),s.lv,s.pk,c.words,s.W)):=by
 unfold nE dz;refine cd (Ya h u y w e) ?_;show cond Zb _ _=_;rw[zD];refine cd (Tm h u y w) ?_
 rw[e,show(cM (Y:Option (Int×Int))&&(Zc (c.mode=2)&& !en))=Zb from by
  by_cases o:c.mode=2
  .rw[A o,cB,bD];rfl
  .rw[zA o];rfl,zD]
def XN (o:c.mode=2)(p:1<=c.ns)(z:dt bs<=1000000)(i d:Nat)(s:Dy)(g:List (Int×Int))(w:cy c i s)(e:rE c Zb s=Y)(y:s.q= -1)(u:s.L<65535)(A:d<dt bs):
  dz c.mode c.R c.l c.Q c.k c.len c.words cs c.X c.T bs (nE c i d Zb s g)=O (.inl (nE c (i+1) (d+1) Zb (Ga s) g)):=by
 unfold nE dz;refine cd (Ya h o p w e) ?_;show cond Zb _ _=_;rw[zD];refine cd (Tm h o p w) ?_;rw[e,zB o];show cond Za _ _=_;rw[zC,zB (show(d:Int)<((dt bs:Nat):Int)by omega)];refine cd (fdm h o p w e y u) ?_;rw[Zi,show(d:Int)+1=((d+1:Nat):Int)by omega];rfl
def Yb (o:c.mode=2)(p:1<=c.ns)(u:dt bs<=1000000)(i d:Nat)(s:Dy)(g:List (Int×Int))(w:cy c i s)(e:rE c Zb s=Y)(z:s.q= -1)(y:d=dt bs):
  dz c.mode c.R c.l c.Q c.k c.len c.words cs c.X c.T bs (nE c i d Zb s g)=O (.inl (nE c (i+1) (d+1) Za s g)):=by
 unfold nE dz;refine cd (Ya h o p w e) ?_;show cond Zb _ _=_;rw[zD];refine cd (Tm h o p w) ?_;rw[e,zB o];show cond Za _ _=_;rw[zC,zA (show¬(d:Int)<((dt bs:Nat):Int)by omega)];refine cd (fds h o p w e) ?_;rw[Zi,show(d:Int)+1=((d+1:Nat):Int)by omega]
def WU (o:c.mode=2)(y:1<=c.ns)(e0:eo c.mode (dt c.X) (dt c.T) c.R c.l c.Q c.k c.len c.words=(c.fixed,c.tp,c.sl,c.ns,0))(A:dt cs<=1000000)(K:l<=40)(u:c.mode=2->dt bs=l)(H:Way c l 0 Zb (qE c) es f en s)(F:Fin c l f en s es):
  am (dz c.mode c.R c.l c.Q c.k c.len c.words cs c.X c.T bs) cv (nE c 0 0 Zb (qE c) [])=O (c.mode,en,Zb,(kW es),c.fixed,c.tp,c.sl,c.ns,c.mode,c.R,c.Q,c.len,c.words,s.L,s.p,s.q,s.c0,s.c1,s.c2,s.c3,s.z,c.X,c.T,c.l,c.k,c.P,c.tk,(c.off 8:Int),c.ns,(dt c.X:Int),s.lv,s.pk,c.words,s.W):=by
 have w0:=kJ h;have D:=H.well h w0;have C:=F.le K;obtain⟨r,q⟩:=yJ h (f:=dz c.mode c.R c.l c.Q c.k c.len c.words cs c.X c.T bs) (st:=nE c) (λi d en s g a hi J w q e m=>WQ h o y e0 A bs i d en s g a hi J w q e m) (λi d s g hi w _ e B E I=>XN h o y Z4 i d s g w e B E Z4) (λi d s g hi w _ e B I=>Yb h o y Z4 i d s g w e B Z4) H 0 [] w0 Dc V1 Z7;rw[aB,cL]at r;rw[aB]at D;exact yF r V1 (Xq h o y (dt es) f en s (kW es) D F.no F.en)
end
end
section
def af0 (l:List bz):0<=I1 l/\I1 l<=30:=by
 unfold I1 di
 repeat' split
 all_goals simp
theorem VI (m:Int)(x t:Nat)(R:Int)(l:List bz)(Q:Int)(k:List bz)(n b:Int):0<=mO m x t R l Q k n b/\mO m x t R l Q k n b<=30:=by
 have p:0<=kw R l Q k/\kw R l Q k<=30:=by
  have a1:=ae7 l;have a2:=ae7 k;have a3:=ae8 R l;have a4:=ae8 Q k;have a5:=ae9 l;have a6:=ae9 k;have a7:=af0 l;have a8:=af0 k;unfold kw
  repeat' split
  all_goals omega
 have d:0<=vk R Q x t/\vk R Q x t<=30:=by
  unfold vk
  repeat' split
  all_goals omega
 unfold mO hk0 hk3 hk4
 repeat' split
 all_goals omega
theorem X2 {e:Int}(h:E4 w= .inl e):1<=e/\e<=30:=by
 unfold E4 at h;split at h
 .injection h with h;omega
 .split at h
  .rename_i g d;injection h with h
   have p:=LG d
   have:0<=g/\g<=30:=by
    unfold D7 at d;split at d
    .injection d with d;omega
    .split at d
     .split at d
      .injection d with d;omega
      split at d
      .injection d with d;omega
      split at d
      .injection d with d
       rw[<-d];exact VI _ _ _ _ _ _ _ _ _
      .cases d
     .injection d with d;omega
   omega
  .split at h
   .rename_i o r d u;injection h with h
    rw[<-h]
    have:0<=o.pl/\o.pl<=30:=by
     unfold Hd.pl eo;split
     .exact VI _ _ _ _ _ _ _ _ _
     split<;>simp
    omega
   split at h
   .injection h with h;omega
   .cases h
def aB2 (D:gE w): ∃b,rJ w=O b/\(b=Za->dt w<=1500/\∀d cs bs,E4 w= .inr (d,cs,bs)->(if d.m≠2 then d.n else(dt bs:Int))<=40/\(dt cs)<=1000000):=by
 unfold rJ;by_cases C:(1500:Int)<((dt w:Nat):Int)
 .rw[zB C,zC];exact⟨Zb,rfl,λk=>by cases k⟩
 rw[zA C,zD];have o:=UP D V1;cases e:E4 w with
 |inl I=>
  rw[e]at o;have X:=X2 e;refine⟨Za, ?_,λ_=>⟨V1,λd cs bs k=>by cases k⟩⟩;refine cd o ?_;show cond (Zc (I≠0)) _ _=_;rw[Zf,zC]
 |inr p=>
  have⟨d,cs,bs⟩:=p;rw[e]at o
  obtain⟨r,y⟩: ∃r,D7 w= .inr (d,r):=by
   unfold E4 at e;split at e
   .cases e
   .split at e
    .cases e
    .rename_i z r y;split at e
     .cases e
     split at e
     .cases e
     .injection e with e
      injection e with H T
      subst H;exact⟨_,y⟩
  have⟨M,N,V,W⟩:=PW D V1 y;have⟨u,J,_⟩:=aB1 (a0:=d.m) (a1:=d.x) (a2:=d.t) (a3:=d.R) (a5:=d.Q) (a7:=d.n) (a8:=d.b) M.v N.v;by_cases g:(if d.m≠2 then d.n else(dt bs:Int))<=40
  .refine⟨if u then Zc (((dt cs:Nat):Int)<=200)else Zb, ?_,λB=>⟨V1,λz F E k=> ?_⟩⟩
   .refine cd o ?_;show cond (Zc ((0:Int)≠0)) _ (cond (Zc ((if d.m≠2 then d.n else(dt bs:Int))<=40)) _ _)=_;rw[zA V2,zD,zB g,zC];refine cd J ?_;cases u<;>rfl
   .injection k with k
    injection k with K A
    injection A with A L
    subst K A L;refine⟨g, ?_⟩;cases u with
    |false=>cases B
    |true=>have:=of_decide_eq_true B;omega
  .refine⟨Zb, ?_,λk=>by cases k⟩;refine cd o ?_;show cond (Zc ((0:Int)≠0)) _ (cond (Zc ((if d.m≠2 then d.n else(dt bs:Int))<=40)) _ _)=_;rw[zA V2,zD,zA g,zD]
end
section
open Go.IntKind renaming wrap -> zH, i64 -> zI, u64 -> zJ
open Bool renaming and_eq_true -> cL
open List renaming length_append -> aB, length_take -> aD, mem_cons -> bB, getElem_mem -> bD, length_cons -> cB, not_mem_nil -> cD, take_length -> cK, flatMap_append -> cM, flatMap_cons -> cN, getElem?_eq_getElem -> cO, mem_of_mem_take -> cP, take_succ_eq_append_getElem -> cQ
def iu (o:bz):Zd:=zH zJ o.1::((if(ba o.1).1 then [zH zJ o.2.1]else [])++((if(ba o.1).2.1 then [zH zJ o.2.2.1]else [])++((if(ba o.1).2.2.1 then [zH zJ o.2.2.2.1]else [])++(if(ba o.1).2.2.2 then [o.2.2.2.2]else []))))
def M0 (o:bz):dt (iu o)<=5:=by
 unfold iu;generalize (ba o.1).1=d;generalize (ba o.1).2.1=e;generalize (ba o.1).2.2.1=g;generalize (ba o.1).2.2.2=p;cases d<;>cases e<;>cases g<;>cases p<;>simp
def SF (o:bz):vQ o.1 o.2.1 o.2.2.1 o.2.2.2.1 o.2.2.2.2=O (if kB o then(0,iu o)else(6,[])):=by
 unfold vQ;rw[JK,wb];simp only[zG];cases A:kB o with
 |false=>rfl
 |true=>
  simp only[Bool.not_true,zD,if_true];obtain⟨k,d,a,b,v⟩:=o;simp only at A⊢;unfold iu;simp only;generalize ba k=q;obtain⟨e,g,p,u⟩:=q;simp only
  have y:am (BC d a b v (e,g,p,u)) cv (0,[zH zJ k])=O (zH zJ k::((if e then [zH zJ d]else [])++((if g then [zH zJ a]else [])++((if p then [zH zJ b]else [])++(if u then [v]else []))))):=by
   have z:cv=18446744073709551611+1+1+1+1+1:=rfl;rw[z];cases e<;>cases g<;>cases p<;>cases u<;>rfl
  rw[y];rfl
def gT (l:List bz):Int×Zd:=if l.any (λo=> !kB o)then(6,[])else(0,l.flatMap iu)
def RK (l:List bz):dt (l.flatMap iu)<=5*dt l:=by
 induction l with
 |nil=>simp
 |cons o l d=>
  have:=M0 o;simp only[cN,aB,cB];omega
def Xr {α β δ:Type}{f:(Int×β)->Option ((Int×β)⊕δ)}{l:List α}(p:α->Bool)(F:Nat->β)(c:Nat->δ)(e:δ)(I:dt l<1000000)
  (y: ∀i,(hi:i<dt l)->f ((i:Int),F i)=O (if p l[i]then .inr (c i)else .inl (((i+1:Nat):Int),F (i+1)))) (C:f ((dt l:Int),F (dt l))=O (.inr e)):
  (l.any p=Za/\∃i:Nat,am f cv (0,F 0)=O (c i))∨(l.any p=Zb/\am f cv (0,F 0)=O e):=by
 by_cases h: ∃i,∃hi:i<dt l,p l[i]=Za
 .left
  have u: ∃i,(∃hi:i<dt l,p l[i]=Za)/\∀j,j<i->¬∃d:j<dt l,p l[j]=Za:=by
   have⟨i,hi⟩:=h;induction i using Nat.strongRecOn with
   |ind i H=>
    by_cases d: ∃j,j<i/\∃d:j<dt l,p l[j]=Za
    .obtain⟨j,o,B⟩:=d;exact H j o B
    .exact⟨i,hi,λj h o=>d ⟨j,h,o⟩⟩
  have⟨i,⟨hi,z⟩,A⟩:=u;refine⟨List.any_eq_true.2 ⟨l[i],bD hi,z⟩,i,eZ (n:=i) F V1 (λj d=> ?_) ?_⟩
  .rw[y j V1,zF (λg=>A j d ⟨V1,g⟩)]
  .rw[y i hi,zE z]
 .right;refine⟨?_,eZ (n:=dt l) F V1 (λj d=> ?_) C⟩
  .rw[Bool.eq_false_iff];intro D;have⟨x,E,g⟩:=List.any_eq_true.1 D;obtain⟨i,hi,rfl⟩:=List.getElem_of_mem E;exact h ⟨i,hi,g⟩
  .rw[y j d,zF (λg=>h ⟨j,d,g⟩)]
def Xu {l:List bz}(hi:i<dt l):(l.take (i+1)).flatMap iu=(l.take i).flatMap iu++iu l[i]:=by
 rw[cQ hi,cM];simp
def My {l:List bz}(u:dt l<=4000):tQ l=O (gT l):=by
 unfold tQ gT
 rcases Xr (f:=lU l) (l:=l) (λo=> !kB o) (λi=>(l.take i).flatMap iu) (λ_=> .inl ()) (.inr (l.flatMap iu)) V1 (λi hi=>by
  unfold lU;rw[ag,Zg,cg hi,zG,SF,zG];cases kB l[i]with
  |false=>rfl
  |true=>
   have g:=RK (l.take i);have p:=M0 l[i];rw[aD]at g;simp only[if_true,Bool.not_true];rw[zA V2,zD,Vu (l:=iu l[i]) ((l.take i).flatMap iu) V1 (λj e=> ?_) ?_]
   .simp only[zG];rw[ad (n:=(i:Int)+1) V1,Xu hi];rfl
   .unfold xg;simp only;rw[ag,Zh]
   .unfold xg;simp only;rw[ag,Zg,br e,zG,cO e,zG,bn (by rw[aB,aD];omega) V1,ad (n:=(j:Int)+1) V1]
    rfl) (by
  unfold lU
  rw[ag,Zh,cK])with⟨h,i,d⟩|⟨h,d⟩
 .rw[h];have d:am (lU l) cv (0,[])=_:=d;rw[d];rfl
 .rw[h];have d:am (lU l) cv (0,[])=_:=d;rw[d];rfl
def ff (l:List (Zd)):Zd:=l.flatMap λx=>(dt x:Int)::x
def LU {l:List (Zd)}(hi:i<dt l):ff (l.take (i+1))=ff (l.take i)++[(dt l[i]:Int)]++l[i]:=by
 unfold ff;rw[cQ hi,cM];simp
def IQ {l:List (Zd)}{M:Nat}(h: ∀x∈l,dt x<=M):dt (ff l)<=(M+1)*dt l:=by
 unfold ff;induction l with
 |nil=>simp
 |cons x l e=>
  have g:=e (λy d=>h y (by simp[d]));have o:=h x V2;simp only[cN,aB,cB];rw[Nat.mul_add];omega
def Fq {l:List (Zd)}(p:l.length<=10)(h: ∀x∈l,x.length<=100000):pe l=O (ff l):=by
 unfold pe
 have d:am (np l) cv (0,ff (l.take 0))=O (ff l):=by
  refine eZ (n:=l.length) (λi=>ff (l.take i)) V1 (λi hi=> ?_) ?_
  .have e:=IQ (l:=l.take i) (M:=100000) (λx g=>h x (cP g));have o:=h _ (bD hi);rw[aD]at e;unfold np;rw[ag,Zg,cg hi];simp only[zG];rw[bn V1 V1,bn (by rw[aB];simp;omega) V1,qW V1,ad (n:=(i:Int)+1) V1,LU hi];rfl
  .unfold np;rw[ag,Zh,cK]
 have d:am (np l) cv (0,[])=_:=d;rw[d];rfl
def SD {l:List (Zd)}(u:l.length<=10)(h: ∀x∈l,x.length<=100000):vP l=O (ff l):=by
 unfold vP
 have d:am (nb l) cv (0,ff (l.take 0))=O (ff l):=by
  refine eZ (n:=l.length) (λi=>ff (l.take i)) V1 (λi hi=> ?_) ?_
  .have e:=IQ (l:=l.take i) (M:=100000) (λx o=>h x (cP o));have p:=h _ (bD hi);rw[aD]at e;unfold nb;rw[ag,Zg,cg hi];simp only[zG];rw[bn V1 V1,qW V1,Vu (l:=l[i]) (ff (l.take i)++[(l[i].length:Int)]) V1 (λj g=> ?_) ?_]
   .simp only[zG];rw[ad (n:=(i:Int)+1) V1,LU hi];rfl
   .unfold vn;simp only;rw[cg hi];simp only[zG];rw[ag,Zh]
   .unfold vn;simp only;rw[cg hi];simp only[zG];rw[ag,Zg,cg g];simp only[zG];rw[bn (by rw[aB,aB,aD];simp;omega) V1,ad (n:=(j:Int)+1) V1];rfl
  .unfold nb;rw[ag,Zh,cK]
 have d:am (nb l) cv (0,[])=_:=d;rw[d];rfl
section
variable {a0:Int} {a1 a2:Zd} {a3:Int} {a4:List bz} {a5:Int} {a6:List bz} {a7 a8:Int}
def Kf (a0:Int)(a1 a2:Zd)(a3:Int)(a4:List bz)(a5:Int)(a6:List bz)(a7 a8:Int):Zd:=[zH zJ a0,zH zJ a3,zH zJ a5,zH zJ a7,zH zJ a8]++ff [(gT a4).2,(gT a6).2,a1,a2]
def HY (l:List bz):dt (gT l).2<=5*dt l:=by
 unfold gT;split
 .simp
 .exact RK l
def N5 (e:OpsOk a4)(g:OpsOk a6)(l1:dt a1<=100000)(z:dt a2<=100000): ∀x∈[(gT a4).2,(gT a6).2,a1,a2],dt x<=100000:=by
 intro x d;have o:=HY a4;have p:=HY a6;have u:=e.len;have y:=g.len;simp only[bB,cD,or_false]at d;rcases d with rfl|rfl|rfl|rfl<;>omega
def Qw (e:OpsOk a4)(g:OpsOk a6)(u:dt a4<=1500)(y:dt a6<=1500)(l1:dt a1<=100000)(z:dt a2<=100000):tO a0 a1 a2 a3 a4 a5 a6 a7 a8=O (if mO a0 (dt a1) (dt a2) a3 a4 a5 a6 a7 a8≠0 then(mO a0 (dt a1) (dt a2) a3 a4 a5 a6 a7 a8,[])else(0,Kf a0 a1 a2 a3 a4 a5 a6 a7 a8)):=by
 unfold tO;have o:=N5 e g l1 z;have d:=IQ o;rw[AQ e g u y,My (l:=a4) V1,My (l:=a6) V1];simp only[zG,ag];rw[SD V2 o,zG];simp only[cB,List.length_nil]at d;rw[Vu (l:=ff [(gT a4).2,(gT a6).2,a1,a2]) [zH zJ a0,zH zJ a3,zH zJ a5,zH zJ a7,zH zJ a8] V1 (λj p=> ?_) ?_]
 .simp only[zG];split<;>rfl
 .unfold tP;simp only;rw[ag,Zh]
 .unfold tP;simp only;rw[ag,Zg,br p,zG,cO p,zG,bn (by rw[aB,aD];simp;omega) V1,ad (n:=(j:Int)+1) V1];rfl
end
def Pw : ∀(l:List (Zd)) (g:List (Zd)) (d:Zd),S (dt l) (ff l++d) g=O (g++l,d)
 |[],g,d=>by simp[S,ff]
 |x::l,g,d=>by
  have e:ff (x::l)++d=(dt x:Int)::(x++(ff l++d)):=by simp[ff]
  rw[e];show S (dt l+1) _ _=_;simp only[S];rw[zF V3,show(eL ((dt x:Int)))=(dt x) by omega,List.drop_left,List.take_left,Pw l];simp
def Ig (q:Bool)(x:Int)(r:Zd):lI q ((if q then [x]else [])++r)=O (if q then x else 0,r):=by cases q<;>rfl
def Ur {n:Int}(h:Ca n q=Za):mm (if q then zH zJ n else 0)=n:=by
 unfold Ca at h;unfold mm;cases q with
 |false=>simp at h;rw[h];rfl
 |true=>
  simp at h;simp only[if_true];rw[Zk];omega
def YF {o:bz}(h:kB o=Za)(H:0<=o.2.2.2.2/\o.2.2.2.2<=18446744073709551615)(r:Zd):R7 (iu o++r)=(o.1,o.2.1,o.2.2.1,o.2.2.2.1,o.2.2.2.2,(dt (iu o):Int),0):=by
 have⟨k,d,a,b,v⟩:=o;unfold kB at h;simp only[cL,decide_eq_true_eq]at h;have⟨F,D,B,C,g⟩:=h
 have e:iu (k,d,a,b,v)++r=zH zJ k::((if(ba k).1 then [zH zJ d]else [])++((if(ba k).2.1 then [zH zJ a]else [])++((if(ba k).2.2.1 then [zH zJ b]else [])++((if(ba k).2.2.2 then [v]else [])++r)))):=by
  simp[iu]
 have p:dt (iu (k,d,a,b,v))=1+pT (ba k).1+pT (ba k).2.1+pT (ba k).2.2.1+pT (ba k).2.2.2:=by
  unfold iu pT;simp only;generalize (ba k).1=u;generalize (ba k).2.1=y;generalize (ba k).2.2.1=z;generalize (ba k).2.2.2=A;cases u<;>cases y<;>cases z<;>cases A<;>rfl
 rw[e,Zk,p];simp only[R7];rw[Zh,Ig];simp only;rw[Ig];simp only;rw[Ig];simp only;rw[Ig];simp only;rw[Ur D,Ur B,Ur C]
 have:(if(ba k).2.2.2=Za then v else 0)=v:=by
  cases E:(ba k).2.2.2 with
  |true=>rfl
  |false=>rw[E]at g;simp at g;simp[g]
 rw[this]
def Va (o:bz):1<=dt (iu o):=by unfold iu;simp
def Vh : ∀(l:List bz) (d:List bz) (f:Nat),(∀o∈l,kB o=Za)->(∀o∈l,0<=o.2.2.2.2/\o.2.2.2.2<=18446744073709551615)->dt (l.flatMap iu)<f->U f (l.flatMap iu) d=O (d++l)
 |[],d,0,_,_,h=>by simp at h
 |[],d,f+1,_,_,_=>by simp[U]
 |o::l,d,0,_,_,h=>by simp at h
 |o::l,d,f+1,p,u,h=>by
  have y:=p o V2;have z:=u o V2;have A:=Va o;have e:(o::l).flatMap iu=iu o++l.flatMap iu:=by simp
  rw[e]at h⊢;rw[aB]at h;simp only[U];rw[zF Z2,YF y z];simp only;rw[zF V2,show(eL ((dt (iu o):Int)))=(dt (iu o)) by omega,List.drop_left,Vh l _ f (λo g=>p o cI) (λo g=>u o cI) V1];simp
def Ik {l:List bz}(d:OpsOk l)(h:zM l=Za):iv (gT l).2=(0,l):=by
 unfold zM at h;rw[cL]at h;have e:(l.any λo=> !kB o)=Zb:=by simpa using h.2
 have g: ∀o∈l,kB o=Za:=by
  intro o d;have:=List.any_eq_false.1 e o d;simpa using this
 unfold gT;rw[zF cJ];unfold iv NL;simp only;rw[Vh l [] _ g d.v V1];rfl
def XU {R:Int}{l k:List bz}(h:kw R l Q k=0):zM l=Za/\zM k=Za:=by
 unfold kw at h;split at h
 .rename_i c;exact(c h).elim
 split at h
 .rename_i c;exact(c h).elim
 rename_i d e;unfold IY at d e;constructor
 .cases g:zM l with
  |true=>rfl
  |false=>rw[g]at d;simp at d
 .cases g:zM k with
  |true=>rfl
  |false=>rw[g]at e;simp at e
def Ug {m:Int}{x t:Nat}{R:Int}{l:List bz}{k:List bz}{n b:Int}(h:mO m x t R l Q k n b=0):hk0 m=0/\kw R l Q k=0/\vk R Q x t=0/\hk3 m n=0/\hk4 b=0:=by
 unfold mO at h;split at h
 .rename_i c;exact(c h).elim
 split at h
 .rename_i c;exact(c h).elim
 split at h
 .rename_i c;exact(c h).elim
 split at h
 .rename_i c;exact(c h).elim
 rename_i d e g o;refine⟨V1,V1,V1,V1,h⟩
section
variable {a0:Int} {a1 a2:Zd} {a3:Int} {a4:List bz} {a5:Int} {a6:List bz} {a7 a8:Int}
def as8 (p:OpsOk a4)(u:OpsOk a6)(y:mO a0 (dt a1) (dt a2) a3 a4 a5 a6 a7 a8=0)(d:Zd):
  D7 (Kf a0 a1 a2 a3 a4 a5 a6 a7 a8++d)= .inr (⟨a0,a1,a2,a3,a4,a5,a6,a7,a8⟩,d):=by
 have g:=zO p u y;have⟨_,F,_,o,_⟩:=Ug y;have⟨z,A⟩:=XU F
 have e:Kf a0 a1 a2 a3 a4 a5 a6 a7 a8++d=[a0,a3,a5,a7,a8]++(ff [(gT a4).2,(gT a6).2,a1,a2]++d):=by
  unfold Kf;have:=g.mode;have:=g.regs;have:=g.regs';have:=g.len;have:=g.bud;rw[bt (n:=a0) V1,bt (n:=a3) V1,bt (n:=a5) V1,bt (n:=a7) V1,bt (n:=a8) V1,List.append_assoc]
 rw[e];unfold D7;rw[zF V2];have B:([a0,a3,a5,a7,a8]++(ff [(gT a4).2,(gT a6).2,a1,a2]++d)).drop 5=ff [(gT a4).2,(gT a6).2,a1,a2]++d:=rfl;rw[B];have C:UX (ff [(gT a4).2,(gT a6).2,a1,a2]++d)=O ([(gT a4).2,(gT a6).2,a1,a2],d):=Pw [(gT a4).2,(gT a6).2,a1,a2] [] d;rw[C];simp only;have D:([a0,a3,a5,a7,a8]++(ff [(gT a4).2,(gT a6).2,a1,a2]++d)).getD 0 0=a0:=rfl;have L:=g.mode
 have E:Uh ([a0,a3,a5,a7,a8]++(ff [(gT a4).2,(gT a6).2,a1,a2]++d)) (gT a4).2 (gT a6).2 a1 a2=⟨a0,a1,a2,a3,a4,a5,a6,a7,a8⟩:=by
  have H:mm a3=a3:=by unfold mm;have:=g.regs;omega
  have I:mm a5=a5:=by unfold mm;have:=g.regs';omega
  have K:mm a8=a8:=by unfold mm;have:=g.bud;omega
  have J:(if a0=2 then 0 else mm a7)=a7:=by
   have:=g.len;unfold hk3 at o;split
   .rename_i c;rw[zE c]at o;split at o
    .omega
    split at o<;>omega
   .unfold mm;omega
  show(⟨a0,a1,a2,mm a3,(iv (gT a4).2).2,mm a5,(iv (gT a6).2).2,if a0=2 then 0 else mm a7,mm a8⟩:Hd)=_;rw[H,I,J,K,Ik p z,Ik u A]
 rw[D,Zh,Ik p z,Ik u A,zF V2,E];have:(⟨a0,a1,a2,a3,a4,a5,a6,a7,a8⟩:Hd).chk=0:=y;rw[this,zF V2]
def Yv {o:bz}(d:0<=o.2.2.2.2/\o.2.2.2.2<=18446744073709551615):gE (iu o):=by
 have w: ∀n:Int,0<=IntKind.u64.wrap n/\IntKind.u64.wrap n<=18446744073709551615:=λn=>by rw[OS];omega
 intro x hx;unfold iu at hx;simp only[bB,List.mem_append]at hx;rcases hx with rfl|hx|hx|hx|hx
 .exact w _
 .split at hx
  .simp at hx;subst hx;exact w _
  .simp at hx
 .split at hx
  .simp at hx;subst hx;exact w _
  .simp at hx
 .split at hx
  .simp at hx;subst hx;exact w _
  .simp at hx
 .split at hx
  .simp at hx;subst hx;exact d
  .simp at hx
def Ss {l:List bz}(h:OpsOk l):gE (gT l).2:=by
 unfold gT;split
 .intro x d;simp at d
 .intro x d;obtain⟨o,e,d⟩:=List.mem_flatMap.1 d;exact Yv (h.v o e) x d
def at8 (d:OpsOk a4)(g:OpsOk a6)(z:gE a1)(A:gE a2)(l1:dt a1<=100000)(u:dt a2<=100000):gE (Kf a0 a1 a2 a3 a4 a5 a6 a7 a8):=by
 have w: ∀n:Int,0<=IntKind.u64.wrap n/\IntKind.u64.wrap n<=18446744073709551615:=λn=>by rw[OS];omega
 have o:=N5 d g l1 u;intro x hx;unfold Kf at hx;rcases List.mem_append.1 hx with hx|hx
 .simp only[bB,cD,or_false]at hx;rcases hx with rfl|rfl|rfl|rfl|rfl<;>exact w _
 .obtain⟨y,hy,hx⟩:=List.mem_flatMap.1 hx;have p:=o y hy;simp only[bB,cD,or_false]at hy;rcases List.mem_cons.1 hx with e|hz
  .omega
  .rcases hy with hy|hy|hy|hy
   .rw[hy]at hz;exact Ss d x hz
   .rw[hy]at hz;exact Ss g x hz
   .rw[hy]at hz;exact z x hz
   .rw[hy]at hz;exact A x hz
end
end
section
open Go.IntKind renaming wrap -> zH, i64 -> zI, u64 -> zJ
open Int renaming toNat -> aD, tmod -> bD, tdiv -> cD, toNat_natCast -> cK
open List renaming set -> aB, append_assoc -> cL, length -> cM, drop -> cO, map -> cP, take -> cQ, cons_append -> cT, length_set -> cU, nil_append -> cV, replicate -> cW
open Nat renaming beq -> bB, sub_zero -> cB, ble -> cN, mul_comm -> cR, pow_succ -> cS, lt_of_lt_of_le -> cX, div_lt_of_lt_mul -> cY, mod_eq_of_lt -> cZ, pow_le_pow_right -> dA
def ER (n:Nat):Zd:=if h:n<10 then [48+(n:Int)]else ER (n / 10)++[48+((n % 10:Nat):Int)]
termination_by n
decreasing_by omega
def zw {n:Nat}(h:n<10):ER n=[48+(n:Int)]:=by rw[ER,dif_pos h]
def HE {n:Nat}(h: ¬n<10):ER n=ER (n / 10)++[48+((n % 10:Nat):Int)]:=by rw[ER,dif_neg h]
def ab2 (n:Nat):dt (ER n)=Lib.nDigits n:=by
 induction n using Nat.strongRecOn with
 |ind n d=>
  by_cases h:n<10
  .rw[zw h,Lib.nDigits_small h];rfl
  .rw[HE h,Lib.nDigits_big h,List.length_append,d _ V1];rfl
def pV :Nat->Nat->Zd
 |0,_=>[]
 |k+1,v=>pV k (v / 10)++[48+((v % 10:Nat):Int)]
def ab3 (n:Nat):ER n=pV (Lib.nDigits n) n:=by
 induction n using Nat.strongRecOn with
 |ind n d=>
  by_cases h:n<10
  .rw[zw h,Lib.nDigits_small h,pV,pV,cZ h];rfl
  .rw[HE h,Lib.nDigits_big h,pV,d _ V1]
def Mo (a:Nat): ∀b v,pV (a+b) v=pV a (v / 10 ^ b)++pV b v
 |0,v=>by simp[pV]
 |b+1,v=>by
  rw[<-Nat.add_assoc,pV,Mo a b (v / 10),pV,cL,Nat.div_div_eq_div_mul,cS,cR 10]
def Mp : ∀b v,pV b (v % 10 ^ b)=pV b v
 |0,v=>rfl
 |b+1,v=>by
  have d:v % 10 ^ (b+1) / 10=v / 10 % 10 ^ b:=by rw[cS,cR,Nat.mod_mul_right_div_self]
  have e:v % 10 ^ (b+1) % 10=v % 10:=Nat.mod_mod_of_dvd _ (by rw[cS];exact Nat.dvd_mul_left _ _);rw[pV,pV,d,e,Mp b]
def aX4 (v:Nat):pV 2 v=[48+((v / 10 % 10:Nat):Int),48+((v % 10:Nat):Int)]:=rfl
def aE9 : ∀k n,1<=k->n<10 ^ k->Lib.nDigits n<=k
 |0,_,h,_=>by omega
 |k+1,n,_,h=>by
  by_cases d:n<10
  .rw[Lib.nDigits_small d];omega
  .rw[Lib.nDigits_big d]
   have:1<=k:=by
    rcases Nat.eq_zero_or_pos k with h2|h2
    .subst h2;simp at h;omega
    .exact h2
   have:=aE9 k (n / 10) this (by rw[cS]at h;omega);omega
def aO8 (n:Nat)(h:n<18446744073709551616):Lib.nDigits n<=20:=aE9 20 n V1 (cX h V4)
def al4 {a:Nat}(h:a+b<=9223372036854775807):tg a b=Za:=Nat.ble_eq_true_of_le h
def B3 {β:Type}{a:Nat}{x:Option β}(h:a+b<=9223372036854775807):gd (tg a b) x=x:=by rw[al4 h];rfl
def X8 {n:Nat}(h:n<100):gM (n:Int)=O (ER n):=by
 have e: ∀k:_root_.Fin 10,gM ((k:Nat):Int)=O ([48+((k:Nat):Int)]:Zd):=by decide+kernel
 have g: ∀k:_root_.Fin 90,gM (((k:Nat)+10:Nat):Int)=O ([48+((((k:Nat)+10) / 10:Nat):Int),48+((((k:Nat)+10) % 10:Nat):Int)]:Zd):=by decide+kernel
 by_cases d:n<10
 .rw[zw d];exact e ⟨n,d⟩
 .have:=g ⟨n-10,V1⟩;simp only at this;rw[show n-10+10=n by omega]at this;rw[this,HE d,zw V1];rfl
def QW {n:Int}(h:0<=n/\n<4294967296):IntKind.u32.wrap n=n:=by
 show n % 4294967296=n;omega
def AS (h:v<100):rd oY (IntKind.u32.wrap ((IntKind.u32.wrap ((v:Int)*2))+1))=O (48+((v % 10:Nat):Int)):=by
 have d: ∀k:_root_.Fin 100,rd oY (IntKind.u32.wrap ((IntKind.u32.wrap (((k:Nat):Int)*2))+1))=O (48+(((k:Nat) % 10:Nat):Int)):=by decide+kernel
 exact d ⟨v,h⟩
def wZ (h:v<100):rd oY (IntKind.u32.wrap ((v:Int)*2))=O (48+((v / 10 % 10:Nat):Int)):=by
 have d: ∀k:_root_.Fin 100,rd oY (IntKind.u32.wrap (((k:Nat):Int)*2))=O (48+(((k:Nat) / 10 % 10:Nat):Int)):=by decide+kernel
 exact d ⟨v,h⟩
def wQ (l:Zd)(i r:Nat):Zd:=(l.take r).drop i
def ak0 {l:Zd}(h:j<r)(d:r<=dt l):wQ (l.set j x) j r=x::wQ l (j+1) r:=by
 unfold wQ;rw[List.drop_eq_getElem_cons V3]
 congr 1
 .simp
 .rw[List.drop_take,List.drop_take]
  congr 1
  rw[List.drop_set_of_lt V1]
def ad6 (h:k<i)(hi:i<=r)(d:r<=20):ix (zH zI ((i:Int)-((k+1:Nat):Int))) ((aD (r:Int))-0)=O (i-(k+1)):=by
 rw[Zi];have:((i:Int)-((k+1:Nat):Int))=((i-(k+1):Nat):Int):=by omega
 rw[this,cK,cB];exact br V1
def P6 {l:Zd}(h:j<dt l):l[(0+j)]?=O (l[j]'h):=by rw[Nat.zero_add];exact List.getElem?_eq_getElem h
def tm8 (a:Nat):bD (a:Int) 100000000=((a % 100000000:Nat):Int):=rfl
def tm4 (a:Nat):bD (a:Int) 10000=((a % 10000:Nat):Int):=rfl
def tm2 (a:Nat):bD (a:Int) 100=((a % 100:Nat):Int):=rfl
def td8 (a:Nat):cD (a:Int) 100000000=((a / 100000000:Nat):Int):=rfl
def td4 (a:Nat):cD (a:Int) 10000=((a / 10000:Nat):Int):=rfl
def td2 (a:Nat):cD (a:Int) 100=((a / 100:Nat):Int):=rfl
def QT {a:Nat}(h:a<4294967296):IntKind.u32.wrap (a:Int)=(a:Int):=QW V1
def bh9 (h:k<i)(hi:i<=r)(e:r<=20){q:Int}(d:q=((k+1:Nat):Int)):ix (zH zI ((i:Int)-q)) ((aD (r:Int))-0)=O (i-(k+1)):=by
 rw[d];exact ad6 h hi e
def qx {α:Type}{a b:α}{l m:List α}(h:a=b)(k:l=m):a::l=b::m:=by rw[h,k]
def xN {β:Type}{l:Zd}(g:dt l=24){q:Int}(d:q=((k+1:Nat):Int))(h:k<i)(hi:i<=r)(e:r<=20)(K:Nat->Option β):
  (ek (ix (zH zI ((i:Int)-q)) ((aD (r:Int))-0)) λj=>ek (l[(0+j)]?) λ_=>K j)=K (i-(k+1)):=by
 rw[bh9 h hi e d,zG,P6 V1];rfl
def ar {l:Zd}(h:dt l=24):dt (aB l j x)=24:=by rw[cU];exact h
def iV {l:Zd}(e:dt l=24)(h:k<i)(hi:i<=r)(g:r<=20)(d:wQ l (i-k) r=t):wQ (aB l (0+(i-(k+1))) x) (i-(k+1)) r=x::t:=by
 rw[Nat.zero_add,ak0 V1 V1,show i-(k+1)+1=i-k by omega,d]
def Yl (p:8<=i)(hi:i<=r)(e:r<=20)(d:dt buf=24)(u:v<18446744073709551616):
  ∃g,lV (r:Int) ((i:Int),(v:Int),buf)=O (.inl (((i-8:Nat):Int),((v / 100000000:Nat):Int),g))/\(dt g)=24/\wQ g (i-8) r=pV 8 v++wQ buf i r:=by
 unfold lV;simp only[ag];rw[Zg];simp only[tm8,td8];rw[QT (show v % 100000000<4294967296 by omega)];simp only[tm4,td4,tm2,td2];generalize o:v % 100000000=w;rw[QT (show w / 10000<4294967296 by omega),QT (show w % 10000 / 100<4294967296 by omega)];simp only[tm2,td2];rw[QT (show w / 10000 / 100<4294967296 by omega)]
 rw[AS (show w % 10000 % 100<100 by omega),wZ (show w % 10000 % 100<100 by omega),AS (show w % 10000 / 100<100 by omega),wZ (show w % 10000 / 100<100 by omega),
  AS (show w / 10000 % 100<100 by omega),wZ (show w / 10000 % 100<100 by omega),AS (show w / 10000 / 100<100 by omega),wZ (show w / 10000 / 100<100 by omega)]
 simp only[zG];rw[xN (q:=1) (k:=0) d rfl V1 hi e,xN (q:=2) (k:=1) (ar d) rfl V1 hi e,xN (q:=3) (k:=2) (ar (ar d)) rfl V1 hi e,xN (q:=4) (k:=3) (ar (ar (ar d))) rfl V1 hi e,xN (q:=5) (k:=4) (ar (ar (ar (ar d)))) rfl V1 hi e,xN (q:=6) (k:=5) (ar (ar (ar (ar (ar d))))) rfl V1 hi e,xN (q:=7) (k:=6) (ar (ar (ar (ar (ar (ar d)))))) rfl V1 hi e,xN (q:=8) (k:=7) (ar (ar (ar (ar (ar (ar (ar d))))))) rfl V1 hi e,ad (show-9223372036854775808<=(i:Int)-8/\(i:Int)-8<=9223372036854775807 by omega),qW (show v / 100000000<9223372036854775808 by omega),show((i:Int)-8)=((i-8:Nat):Int)by omega];refine⟨_,rfl, ?_, ?_⟩
 .exact ar (ar (ar (ar (ar (ar (ar (ar d)))))))
 .refine(iV (k:=7) (ar (ar (ar (ar (ar (ar (ar d))))))) V1 hi e
   (iV (k:=6) (ar (ar (ar (ar (ar (ar d)))))) V1 hi e
   (iV (k:=5) (ar (ar (ar (ar (ar d))))) V1 hi e
   (iV (k:=4) (ar (ar (ar (ar d)))) V1 hi e
   (iV (k:=3) (ar (ar (ar d))) V1 hi e
   (iV (k:=2) (ar (ar d)) V1 hi e
   (iV (k:=1) (ar d) V1 hi e
   (iV (k:=0) d V1 hi e rfl)))))))).trans ?_
  subst o;rw[<-Mp 8 v];simp only[pV,cV,cT,cL,cB,Nat.reducePow];refine qx ?_ (qx ?_ (qx ?_ (qx ?_ (qx ?_ (qx ?_ (qx ?_ (qx ?_ rfl)))))))
  all_goals omega
def NZ : ∀l:Zd,(∀n∈l,0<=n/\n<=255)->l.map wH=l
 |[],_=>rfl
 |n::l,h=>by
  have e:=h n List.mem_cons_self;rw[List.map_cons,NZ l λx d=>h x (List.mem_cons_of_mem _ d)]
  congr 1
  show(((UInt8.ofNat n.toNat).toNat:Nat):Int)=n;rw[UInt8.toNat_ofNat'];have:n.toNat<2 ^ 8:=by omega
  rw[cZ this];omega
def St : ∀k v,∀n∈pV k v,48<=n/\n<=57
 |0,_,n,h=>by cases h
 |k+1,v,n,h=>by
  rw[pV,List.mem_append]at h;rcases h with h|h
  .exact St k _ n h
  .rw[List.mem_singleton]at h;omega
def Yk {n:Nat}(A:r=Lib.nDigits n)(H:n<18446744073709551616): ∃(i v:Nat) (buf:Zd),am (lV (r:Int)) cv ((r:Int),(n:Int),cW 24 (0:Int))=O ((v:Int),(i:Int),buf)/\i<8/\i<=r/\(dt buf)=24/\pV r n=pV i v++wQ buf i r/\v<=n/\v<10 ^ i:=by
 have e:r<=20:=by rw[A];exact aO8 n H
 have⟨c,E,i,v,buf,z⟩:=qC (f:=lV (r:Int)) (a:=((r:Int),(n:Int),cW 24 (0:Int)))
  (λs=> ∃(i v:Nat),s.1=(i:Int)/\s.2.1=(v:Int)/\i<=r/\(dt s.2.2)=24/\pV r n=pV i v++wQ s.2.2 i r/\v<=n/\v<10 ^ i) (λs=>eL s.1)
  (λc=> ∃(i v:Nat) (buf:Zd),c=((v:Int),(i:Int),buf)/\i<8/\i<=r/\(dt buf)=24/\pV r n=pV i v++wQ buf i r/\v<=n/\v<10 ^ i)
  ⟨r,n,rfl,rfl,Nat.le_refl _,rfl,by unfold wQ;simp,Nat.le_refl _,by rw[A];exact Lib.lt_pow_nDigits n⟩ V3 (λs ⟨i,v,u,y,hi,g,o,I,d⟩=>by
   have⟨J,K,buf⟩:=s;simp only at u y g o;subst u;subst y;by_cases F:8<=i
   .left;have⟨p,B,C,D⟩:=Yl F hi e g (by omega:v<18446744073709551616);refine⟨_,B,⟨i-8,v / 100000000,rfl,rfl,V1,C, ?_,V1, ?_⟩,by simp;omega⟩
    .rw[D,<-cL,o]
     congr 1
     have:=Mo (i-8) 8 v;rw[show i-8+8=i by omega]at this;exact this
    .have:i=i-8+8:=by omega
     rw[this,Nat.pow_add]at d;exact cY (by rw[cR];exact d)
   .right;refine⟨_, ?_,i,v,buf,rfl,V1,hi,g,o,I,d⟩;unfold lV;simp only[ag]
    rw[Zh])
 exact⟨i,v,buf,by rw[E,z.1],z.2⟩
def Yj {β:Type}(I:4<=i)(hi:i<=r)(u:r<=20)(g:buf.length=24)(J:v<100000000)(K:Int×Int×Zd->Option β):
  ∃d,d.length=24/\wQ d (i-4) r=pV 4 v++wQ buf i r/\
  (((cond (Zc (4<=(i:Int)))
   ((rd (oY) (IntKind.u32.wrap ((IntKind.u32.wrap ((bD (bD (IntKind.u32.wrap (v:Int)) 10000) 100)*2))+1))).bind λp=>
   (rd (oY) (IntKind.u32.wrap ((bD (bD (IntKind.u32.wrap (v:Int)) 10000) 100)*2))).bind λz=>
   (ix (zH zI ((i:Int)-1)) (((aD (r:Int))-0))).bind λe=>
   (buf[(0+e)]?).bind λD=>
   (ix (zH zI ((i:Int)-2)) (((aD (r:Int))-0))).bind λo=>
   (((aB buf (0+e) p))[(0+o)]?).bind λE=>
   (rd (oY) (IntKind.u32.wrap ((IntKind.u32.wrap ((IntKind.u32.wrap (cD (bD (IntKind.u32.wrap (v:Int)) 10000) 100))*2))+1))).bind λB=>
   (rd (oY) (IntKind.u32.wrap ((IntKind.u32.wrap (cD (bD (IntKind.u32.wrap (v:Int)) 10000) 100))*2))).bind λC=>
   (ix (zH zI ((i:Int)-3)) (((aD (r:Int))-0))).bind λy=>
   (((aB ((aB buf (0+e) p)) (0+o) z))[(0+y)]?).bind λF=>
   (ix (zH zI ((i:Int)-4)) (((aD (r:Int))-0))).bind λA=>
   (((aB ((aB ((aB buf (0+e) p)) (0+o) z)) (0+y) B))[(0+A)]?).bind λH=>
   O ((zH zI ((i:Int)-4),IntKind.u32.wrap (cD (IntKind.u32.wrap (v:Int)) 10000),(aB ((aB ((aB ((aB buf (0+e) p)) (0+o) z)) (0+y) B)) (0+A) C))))
   (O (((i:Int),IntKind.u32.wrap (v:Int),buf)))):Option (Int×Int×Zd))).bind K=K (((i-4:Nat):Int),((v / 10000:Nat):Int),d):=by
 refine⟨_,ar (j:=0+(i-(3+1))) (x:=48+((v % 10000 / 100 / 10 % 10:Nat):Int)) (ar (j:=0+(i-(2+1))) (x:=48+((v % 10000 / 100 % 10:Nat):Int)) (ar (j:=0+(i-(1+1))) (x:=48+((v % 10000 % 100 / 10 % 10:Nat):Int)) (ar (j:=0+(i-(0+1))) (x:=48+((v % 10000 % 100 % 10:Nat):Int)) g))), ?_, ?_⟩
 .refine(iV (k:=3) (ar (ar (ar g))) V1 hi u
   (iV (k:=2) (ar (ar g)) V1 hi u
   (iV (k:=1) (ar g) V1 hi u
   (iV (k:=0) g V1 hi u rfl)))).trans ?_
  rw[<-Mp 4 v];simp only[pV,cV,cT,cL,cB,Nat.reducePow];refine qx ?_ (qx ?_ (qx ?_ (qx ?_ rfl)))
  all_goals omega
 .simp only[ag];rw[Zg,QT (show v<4294967296 by omega)];simp only[tm4,td4,tm2,td2];rw[QT (show v % 10000 / 100<4294967296 by omega),QT (show v / 10000<4294967296 by omega)];rw[AS (show v % 10000 % 100<100 by omega),wZ (show v % 10000 % 100<100 by omega),AS (show v % 10000 / 100<100 by omega),wZ (show v % 10000 / 100<100 by omega)];simp only[zG];rw[xN (q:=1) (k:=0) g rfl V1 hi u];rw[xN (q:=2) (k:=1) (ar g) rfl V1 hi u];rw[xN (q:=3) (k:=2) (ar (ar g)) rfl V1 hi u];rw[xN (q:=4) (k:=3) (ar (ar (ar g))) rfl V1 hi u];simp only[zG];rw[ad (show-9223372036854775808<=(i:Int)-4/\(i:Int)-4<=9223372036854775807 by omega),show((i:Int)-4)=((i-4:Nat):Int)by omega]
def Ih (g:r<=20)(d:dt buf=24)(e: ∀n∈wQ buf 0 r,0<=n/\n<=255):gd (bB 1 1&&bB 0 0&&cN 24 (cM buf)&&dv 0 (r:Int) 24&&Zc (0<24)) (O (cP wH (cQ ((aD (r:Int))-0) (cO 0 buf))))=O (wQ buf 0 r):=by
 rw[d,Zl];show O _=_;rw[cK,cB,List.drop_zero]
 congr 1
 exact NZ _ e
def UU (n:Nat)(T:n<18446744073709551616):tV (n:Int)=O (ER n):=by
 unfold tV;by_cases h:n<100
 .rw[show Zc ((n:Int)<100)=Za from zB V1,zC,Zi,X8 h];rfl
 rw[show Zc ((n:Int)<100)=Zb from zA V1,zD];unfold gP VU;rw[Zg,cK];simp only[zG];generalize L:Lib.nDigits n=r;have d:r<=20:=by rw[<-L];exact aO8 n T
 rw[show gd (bB 1 1&&bB 0 0&&cN 24 (cM (cW 24 (0:Int)))&&dv 0 (r:Int) 24&&Zc (0<24))=gd (β:=Zd) Za by
  rw[Zl];rfl,cf]
 rw[cK,cB];obtain⟨i,v,buf,h1,h8,hi,o,V,hv,g⟩:=Yk L.symm T;rw[h1];simp only[zG];rw[ab3,L,V];have A: ∀x∈pV r n,0<=x/\x<=255:=λx C=>by have:=St r n x C;omega
 rw[V]at A
 have H: ∀(i v:Nat) (buf:Zd),i<4->i<=r->buf.length=24->v<10 ^ i->(∀x∈pV i v++wQ buf i r,0<=x/\x<=255)->
   (cond (Zc (2<=(i:Int)))
   ((rd (oY) (IntKind.u32.wrap ((IntKind.u32.wrap ((bD (v:Int) 100)*2))+1))).bind λy=>
   (rd (oY) (IntKind.u32.wrap ((bD (v:Int) 100)*2))).bind λz=>
   (ix (zH zI ((i:Int)-1)) (((aD (r:Int))-0))).bind λp=>
   (buf[(0+p)]?).bind λx50=>
   (ix (zH zI ((i:Int)-2)) (((aD (r:Int))-0))).bind λu=>
   (((aB buf (0+p) y))[(0+u)]?).bind λx52=>
   cond (Zc (0<(zH zI ((i:Int)-2))))
    ((ix 0 (((aD (r:Int))-0))).bind λD=>
    (((aB ((aB buf (0+p) y)) (0+u) z))[(0+D)]?).bind λx54=>
    gd (bB 1 1&&bB 0 0&&cN 24 (cM ((aB ((aB ((aB buf (0+p) y)) (0+u) z)) (0+D) (IntKind.u8.wrap (IntKind.u32.wrap (48+(IntKind.u32.wrap (cD (v:Int) 100))))))))&&dv 0 (r:Int) 24&&Zc (0<24)) (O ((cP wH ((cQ (((aD (r:Int))-0)) (cO 0 ((aB ((aB ((aB buf (0+p) y)) (0+u) z)) (0+D) (IntKind.u8.wrap (IntKind.u32.wrap (48+(IntKind.u32.wrap (cD (v:Int) 100))))))))))))))
    (gd (bB 1 1&&bB 0 0&&cN 24 (cM ((aB ((aB buf (0+p) y)) (0+u) z)))&&dv 0 (r:Int) 24&&Zc (0<24)) (O ((cP wH ((cQ (((aD (r:Int))-0)) (cO 0 ((aB ((aB buf (0+p) y)) (0+u) z))))))))))
   (cond (Zc (0<(i:Int)))
    ((ix 0 (((aD (r:Int))-0))).bind λE=>
    (buf[(0+E)]?).bind λx56=>
    gd (bB 1 1&&bB 0 0&&cN 24 (cM ((aB buf (0+E) (IntKind.u8.wrap (IntKind.u32.wrap (48+(v:Int)))))))&&dv 0 (r:Int) 24&&Zc (0<24)) (O ((cP wH ((cQ (((aD (r:Int))-0)) (cO 0 ((aB buf (0+E) (IntKind.u8.wrap (IntKind.u32.wrap (48+(v:Int)))))))))))))
    (gd (bB 1 1&&bB 0 0&&cN 24 (cM buf)&&dv 0 (r:Int) 24&&Zc (0<24)) (O ((cP wH ((cQ (((aD (r:Int))-0)) (cO 0 buf)))))))))
    =O (pV i v++wQ buf i r):=by
  intro i v buf N hi o g C;simp only[ag];have cases:i=0∨i=1∨i=2∨i=3:=by omega
  rcases cases with rfl|rfl|rfl|rfl
  .rw[zF V4,zF V4,Ih d o C];rfl
  .rw[zF V4,zE V4,cK,cB,show(0:Int)=((0:Nat):Int)from rfl,br V1];simp only[zG];rw[P6 V1];simp only[zG];have W:v<10:=by simpa using g
   have e:IntKind.u8.wrap (IntKind.u32.wrap (48+(v:Int)))=48+((v % 10:Nat):Int):=by
    rw[QW V1];show(48+(v:Int)) % 256=_;omega
   rw[e];have B:wQ (aB buf (0+0) (48+((v % 10:Nat):Int))) 0 r=(48+((v % 10:Nat):Int))::wQ buf 1 r:=iV (i:=1) (k:=0) o V1 hi d rfl;have:=Ih d (ar (j:=0+0) (x:=48+((v % 10:Nat):Int)) o) (by rw[B];exact C);rw[cK,cB]at this;refine this.trans ?_;rw[B];rfl
  .rw[zE V4];simp only[tm2];have M:v<100:=by simpa using g
   rw[AS (show v % 100<100 by omega),wZ (show v % 100<100 by omega)];simp only[zG];rw[xN (q:=1) (k:=0) o rfl V1 hi d];rw[xN (q:=2) (k:=1) (ar o) rfl V1 hi d];rw[zF V4];have B:=iV (x:=48+((v % 100 / 10 % 10:Nat):Int)) (k:=1) (ar (j:=0+(2-(0+1))) (x:=48+((v % 100 % 10:Nat):Int)) o) V1 hi d (iV (k:=0) o V1 hi d rfl)
   have J:pV 2 v++wQ buf 2 r=(48+((v % 100 / 10 % 10:Nat):Int))::(48+((v % 100 % 10:Nat):Int))::wQ buf (2-0) r:=by
    rw[aX4];refine qx ?_ (qx ?_ rfl)
    all_goals omega
   rw[J]at C⊢;refine(Ih d (ar (ar o)) (by rw[show(0:Nat)=2-(1+1)from rfl,B];exact C)).trans ?_;exact congrArg O B
  .rw[zE V4];simp only[tm2,td2];have I:v<1000:=by simpa using g
   rw[AS (show v % 100<100 by omega),wZ (show v % 100<100 by omega)];simp only[zG];rw[xN (q:=1) (k:=0) o rfl V1 hi d];rw[xN (q:=2) (k:=1) (ar o) rfl V1 hi d];rw[zE V4,cK,cB,show(0:Int)=((0:Nat):Int)from rfl,br V1];simp only[zG];rw[P6 (by rw[cU,cU];omega)];simp only[zG]
   have e:IntKind.u8.wrap (IntKind.u32.wrap (48+(IntKind.u32.wrap ((v / 100:Nat):Int))))=48+((v / 100 % 10:Nat):Int):=by
    rw[QT V1,QW V1];show(48+((v / 100:Nat):Int)) % 256=_;omega
   rw[e]
   have B:=iV (x:=48+((v / 100 % 10:Nat):Int)) (k:=2) (ar (j:=0+(3-(1+1))) (x:=48+((v % 100 / 10 % 10:Nat):Int)) (ar (j:=0+(3-(0+1))) (x:=48+((v % 100 % 10:Nat):Int)) o)) V1 hi d
    (iV (k:=1) (ar o) V1 hi d (iV (k:=0) o V1 hi d rfl))
   have J:pV 3 v++wQ buf 3 r=(48+((v / 100 % 10:Nat):Int))::(48+((v % 100 / 10 % 10:Nat):Int))::(48+((v % 100 % 10:Nat):Int))::wQ buf (3-0) r:=by
    simp only[pV,cV,cT,cL,cB];refine qx ?_ (qx ?_ (qx ?_ rfl))
    all_goals omega
   rw[J]at C⊢
   have:=Ih d (ar (j:=0+(3-(2+1))) (x:=48+((v / 100 % 10:Nat):Int)) (ar (j:=0+(3-(1+1))) (x:=48+((v % 100 / 10 % 10:Nat):Int)) (ar (j:=0+(3-(0+1))) (x:=48+((v % 100 % 10:Nat):Int)) o))) (by
    rw[show wQ _ 0 r=_ from B];exact C)
   rw[cK,cB]at this;exact this.trans (congrArg O B)
 by_cases N:4<=i
 .obtain⟨F,X,Z,g3⟩:=Yj N hi d o (cX g (dA V1 (by omega:i<=8))) (λs46=>_);refine g3.trans ?_
  have K:pV i v++wQ buf i r=pV (i-4) (v / 10000)++wQ F (i-4) r:=by
   rw[Z,<-cL]
   congr 1
   have:=Mo (i-4) 4 v;rw[show i-4+4=i by omega]at this;exact this
  rw[K]at A⊢;refine H _ _ _ V1 V1 X ?_ A
  have:i=i-4+4:=by omega
  rw[this,Nat.pow_add]at g;exact cY (by rw[cR];exact g)
 .simp only[ag];rw[Zh,QT (cX g (Nat.le_trans (dA V1 (by omega:i<=4)) V4))];simp only[zG];have:=H i v buf V1 hi o g A
  simp only[ag]at this;exact this
end
end Go.V
