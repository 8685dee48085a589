/- A part of the proof. No condition. -/
import Derived.Test.YtknphpcjacoaeaaGreatL7
import Derived.Test.YtknphpcjacoaeaaGreatL6
set_option linter.unusedVariables false
set_option linter.unusedSimpArgs false
set_option linter.unusedSectionVars false
namespace Go.V
open Go.Ab
open Option renaming some->O,none->Y
open Bool renaming true->Za,false->Zb
open Decidable renaming decide->Zc
variable {s s':Dy}{i:Nat}{en en':Bool}{l t:Zd}{m:Mc}{a:Int×Int}{x:Int}{r:RS}
section
open Int renaming eq_ofNat_of_zero_le -> aB, tmod_eq_emod_of_nonneg -> aD
open List renaming findIdx_cons -> bB, getElem_mem -> bD
set_option maxRecDepth 100000
theorem EJ {a b:Int}(d:t.length<1000000000):xz a b t x=O (if x∈t then(G7 t x:Int)else-1):=AD d
theorem Si (b:t.length<1000000000):am (vK t) cj (0,-1)=O (nv t):=by
 refine Jj (l:=t) (λs x=>max s x) (-1) (c:=id) (by omega) ?_ ?_
 .intro i hi s;unfold vK;simp only;rw[Zf,zC,bh hi];simp only[zG];rw[Zi];rfl
 .intro s;unfold vK;simp only;rw[Ze,zD];rfl
theorem aj8 (b:t.length<1000000000):am (GW t) cj (0,-1)=O (nv t):=Si b
theorem as7 (hi:i<t.length):Dk (t.take (i+1))=Dk (t.take i)+if t[i]<0 then 1 else 0:=by
 rw[List.take_succ_eq_append_getElem hi,Y2]
theorem ID {a b:Int}(f:t.length<1000000000):vg a b t=O (Dk t:Int):=by
 unfold vg
 have d:am (uq t) cj (0,((Dk (t.take 0):Nat):Int))=O ((Dk (t.take t.length):Nat):Int):=by
  refine cx (n:=t.length) (λi=>((Dk (t.take i):Nat):Int)) (by omega) (λi hi=> ?_) ?_
  .have e:Dk (t.take i)<=t.length:=Nat.le_trans List.countP_le_length (by rw[List.length_take];omega);unfold uq;simp only;rw[Zf,zC,bh hi];simp only[zG];rw[as7 hi];by_cases k:t[i]<0
   .rw[zB k,zC,zE k,Zi,Zi];rfl
   .rw[zA k,zD,zF k,Zi];rfl
  .unfold uq;simp only;rw[Ze,zD]
 rw[List.take_length]at d;exact bv d rfl
theorem as8 (e: ∀x∈t,-1<=x)(h:0<Dk t):(-1:Int)∈t/\G7 t (-1)=Sx t:=by
 obtain⟨f,o⟩:=YH h;have p:=e _ (bD f);have j:t[Sx t]= -1:=by omega
 refine⟨by rw[<-j];exact bD f, ?_⟩
 have d: ∀l:Zd,(∀x∈l,-1<=x)->G7 l (-1)=Sx l:=λl=>by
  induction l with
  |nil=>exact λ_=>rfl
  |cons a l k=>
   intro g;have q:=g a (List.mem_cons_self ..);have:=k λx b=>g x (List.mem_cons_of_mem _ b)
   unfold G7 Sx at*;rw[bB,bB,this,decide_eq_decide.2 (show a= -1↔a<0 by omega)]
 exact d t e
theorem az0 {L p q:Int}(A:0<=L/\L<=65535)(B:0<=p/\p<=L)(C: -1<=q/\q<=L)(K:1<=t.length)(J:t.length<=524288)(w: ∀x∈t,-1<=x/\x<=L):xy L p q t=O (ap3 (Uo ⟨L,p,q,t⟩)):=by
 have I: -1<=nv t:=UN t
 have M:nv t<=L:=by
  rcases(wQ t (-1)).2.2 with k|k
  .unfold nv;omega
  .exact(w _ k).2
 have H:=Ua t
 have f:DM L p q t=O Za:=by
  unfold DM;refine bv (Qe A B C (by omega) w) ?_;show cond (Zc ((0:Int)=0)) (O (Zc (1<=((t.length:Nat):Int)))) (O Zb)=_;rw[zB rfl,zC,Zf]
 unfold xy;refine bv f ?_;rw[Bool.not_true,zD];refine bv (a:=if q<0 then L else q) ?_ ?_
 .by_cases k:q<0
  .rw[zE k,Ze,zD]
  .rw[zF k,Zf,zC]
 refine bv (Si (by omega)) ?_;unfold Uo;simp only;have F:0<=(if q<0 then L else q)/\(if q<0 then L else q)<=L:=by split<;>omega
 generalize (if q<0 then L else q)=e at*;refine bv (a:=Zc (0<=q/\e<=nv t)) ?_ ?_
 .by_cases k:e<=nv t
  .rw[zB k,zC]
   congr 1
   exact decide_eq_decide.2 ⟨λh=>⟨h,k⟩,λh=>h.1⟩
  .rw[zA k,zD,zA λh=>k h.2]
 by_cases g:0<=q/\e<=nv t
 .rw[zE g,zB g,zC];refine bv (EJ (by omega)) ?_;rw[zE (yx (by omega))];rfl
 rw[zF g,zA g,zD];by_cases j:q=0
 .rw[zE j,zB j,zC];rfl
 rw[zF j,zA j,zD];by_cases b:q<0/\p=L
 .rw[zE b,zB b.1,zC,zB b.2,zC];rfl
 rw[zF b];refine bv (a:= .inr ()) ?_ ?_
 .by_cases k:q<0
  .rw[zB k,zC,zA (λE=>b ⟨k,E⟩),zD]
  .rw[zA k,zD]
 rw[bg,ad (n:=e-1) (by omega)];by_cases o:p=e-1
 .rw[zE o,zB o,zC];by_cases k:q<0
  .rw[zB k,zC,Zh];rfl
  .rw[zA k,zD,Zg];rfl
 rw[zF o,zA o,zD];by_cases u:nv t<0
 .rw[zE u,zB u,zC];by_cases k:p<e
  .rw[zB k,zC,Zh];rfl
  .rw[zA k,zD,Zg];rfl
 rw[zF u,zA u,zD];refine bv (a:=Zc (p<nv t∨e<=p)) ?_ ?_
 .by_cases k:p<nv t
  .rw[zB k,zC,zB (.inl k)]
  .rw[zA k,zD]
   congr 1
   exact decide_eq_decide.2 ⟨.inr,λh=>h.resolve_left k⟩
 by_cases v:p<nv t∨e<=p
 .rw[zE v,zB v,zC];refine bv (EJ (by omega)) ?_;rw[zE (yx (by omega))];rfl
 rw[zF v,zA v,zD];by_cases d:nv t<p
 .rw[zB d,zC];refine bv (ID (by omega)) ?_;by_cases k:0<Dk t
  .rw[Zf,zC,zE ⟨d,k⟩];refine bv (EJ (by omega)) ?_;obtain⟨y,z⟩:=as8 (λx D=>(w x D).1) k;rw[zE y,z];rfl
  .rw[Ze,zD,Zh,zE d,Zi];rfl
 .rw[zA d,zD,Zh,zF d];refine bv (ID (by omega)) ?_;rw[ad (n:=e-nv t) (by omega),ad (n:=(Dk t:Int)+1) (by omega)];have:=(YA (n:=(e-nv t).toNat) (c:=Dk t+1) (by omega) (by omega)).2;rw[show(((e-nv t).toNat:Nat):Int)=e-nv t by omega,show((Dk t+1:Nat):Int)=(Dk t:Int)+1 by omega]at this;refine bv this ?_;rfl
theorem aB0 {d:Nat}(f:1<=d)(b:t.length<1000000000):(gd (Zc ((d:Int)≠0)) (cond (Zc ((Int.tmod (i:Int) (d:Int))≠0)) ((lY t (i:Int)).bind λe=>O (Zc (0<=e))) (O Zb)):Option Bool)=O (Zc ((i:Int) % (d:Int)≠0/\(i:Int)∈t)):=by
 rw[zB (show(d:Int)≠0 by omega),bw,aD (by omega),AD b];by_cases k:(i:Int) % (d:Int)≠0
 .rw[zB k,zC];by_cases m:(i:Int)∈t
  .rw[zE m,zB (show(i:Int) % (d:Int)≠0/\(i:Int)∈t from⟨k,m⟩)];show O (Zc (0<=(G7 t (i:Int):Int)))=_;rw[Zf]
  .rw[zF m,zA (λh=>m h.2)];rfl
 .rw[zA k,zD,zA (λh=>k h.1)]
theorem aB1 {L d:Nat}(C:L<=65535)(o:1<=d)(f:t.length<1000000000)(w: ∀x∈t,-1<=x/\x<=(L:Int)):
  am (pm (L:Int) t ((d:Int),0)) cj 0=O (match MH d t with|some x=> .inl (Za,(G7 t x:Int))|none=> .inr ()):=by
 have b: ∀i:Nat,i<=L->¬((i:Int) % (d:Int)≠0/\(i:Int)∈t)->pm (L:Int) t ((d:Int),0) (i:Int)=O (.inl ((i+1:Nat):Int)):=λi hi h=>by
  unfold pm;rw[zB (show(i:Int)<=(L:Int)by omega),zC];refine bv (aB0 o f) ?_;rw[zA h,zD,Zi];rfl
 cases e:MH d t with
 |none=>
  have g: ∀y∈t,0<=y->y % (d:Int)=0:=λy z p=>by
   unfold MH at e;have v:=List.min?_eq_none_iff.1 e;by_cases k:y % (d:Int)=0
   .exact k
   .have:y∈aw8 d t:=Fc.2 ⟨z,p,k⟩;rw[v]at this;cases this
  refine oi (n:=L+1) (by omega) (λi hi=>b i (by omega) λh=>h.1 (g _ h.2 (by omega))) ?_;unfold pm;rw[Ze,zD]
 |some x=>
  unfold MH at e;rw[List.min?_eq_some_iff]at e;obtain⟨q,u⟩:=e;obtain⟨j,A,B⟩:=Fc.1 q;obtain⟨n,rfl⟩:=aB A;have D:=(w _ j).2;refine oi (n:=n) (by omega) (λi hi=>b i (by omega) λh=> ?_) ?_
  .have:=u (i:Int) (Fc.2 ⟨h.2,by omega,h.1⟩);omega
  .unfold pm;rw[zB (show(n:Int)<=(L:Int)by omega),zC];refine bv (aB0 o f) ?_;rw[zB (show(n:Int) % (d:Int)≠0/\(n:Int)∈t from⟨B,j⟩),zC];refine bv (AD f) ?_;rw[zE j]
theorem az1 {L p q:Int}(u:0<=L/\L<=65535)(A:0<=p/\p<=L)(B: -1<=q/\q<=L)(y:1<=t.length)(w:t.length<=1048576)(o: ∀x∈t,-1<=x/\x<=L)(en:Bool):xA L en p q t=O (ap3 (Rn en ⟨L,p,q,t⟩)):=by
 obtain⟨l,rfl⟩:=aB u.1;have C:=Ov (k:=l) (s:=t.length) (by omega) y;have z:=C.pos;unfold xA;refine bv (Qe u A B w o) ?_;show cond (Zc ((0:Int)≠0)) _ _=_;rw[zA (by simp),zD,Ze,zD];unfold Rn;simp only;rw[show(l:Int).toNat=l by omega];by_cases e:q<0
 .rw[zE e,zB e,zC];by_cases b:p<(l:Int)
  .rw[zE b,zB b,zC,Zi];rfl
  rw[zF b,zA b,zD];refine bv (Yp (k:=l) (s:=t.length) (by omega) ⟨y,w⟩) ?_;refine bv (aB1 (L:=l) (by omega) z (by omega) o) ?_;cases MH (Hz l t.length) t with
  |some x=>rfl
  |none=>
   simp only[bg];refine bv (a:=Zc ((l:Int) % (Hz l t.length:Int)=0/\(l:Int)∉t/\(-1:Int)∈t)) ?_ ?_
   .rw[zB (show(Hz l t.length:Int)≠0 by omega),bw,aD (by omega)];by_cases k:(l:Int) % (Hz l t.length:Int)=0
    .rw[zB k,zC];refine bv (AD (by omega)) ?_;by_cases m:(l:Int)∈t
     .rw[zE m,Ze,zD,zA (λh=>h.2.1 m)]
     .rw[zF m,Zf,zC];refine bv (AD (by omega)) ?_;by_cases v:(-1:Int)∈t
      .rw[zE v,zB (show(l:Int) % (Hz l t.length:Int)=0/\(l:Int)∉t/\(-1:Int)∈t from⟨k,m,v⟩),Zf]
      .rw[zF v,zA (show¬((l:Int) % (Hz l t.length:Int)=0/\(l:Int)∉t/\(-1:Int)∈t)from λh=>v h.2.2)];rfl
    .rw[zA k,zD,zA (λh=>k h.1)]
   .by_cases k:(l:Int) % (Hz l t.length:Int)=0/\(l:Int)∉t/\(-1:Int)∈t
    .rw[zE k,zB k,zC];refine bv (AD (by omega)) ?_;rw[zE k.2.2];rfl
    .rw[zF k,zA k,zD];cases en<;>rfl
 rw[zF e,zA e,zD];refine bv (aj8 (by omega)) ?_;have D: -1<=nv t:=UN t
 have E:nv t<=(l:Int):=by
  rcases(wQ t (-1)).2.2 with k|k
  .unfold nv;omega
  .exact(o _ k).2
 by_cases b:q<=nv t
 .rw[zB b,zC,zE ⟨by omega,b⟩];refine bv (AD (by omega)) ?_;rw[zE (yx (by omega))];rfl
 rw[zA b,zD,zF (λh=>b h.2)];by_cases f:q=0
 .rw[zE f,zB f,zC];rfl
 rw[zF f,zA f,zD,ad (n:=q-1) (by omega)];by_cases g:p=q-1
 .rw[zE g,zB g,zC];rfl
 rw[zF g,zA g,zD];refine bv (a:=Zc (0<=nv t/\(p<nv t∨q<=p))) ?_ ?_
 .by_cases k:0<=nv t
  .rw[zB k,zC];by_cases m:p<nv t
   .rw[zB m,zC,zB ⟨k, .inl m⟩]
   .rw[zA m,zD]
    congr 1
    exact decide_eq_decide.2 ⟨λh=>⟨k, .inr h⟩,λh=>h.2.resolve_left m⟩
  .rw[zA k,zD,zA (λh=>k h.1)]
 by_cases d:0<=nv t/\(p<nv t∨q<=p)
 .rw[zE d,zB d,zC];refine bv (AD (by omega)) ?_;rw[zE (yx d.1)];rfl
 rw[zF d,zA d,zD];by_cases j:p<q
 .rw[zE j,zB j,zC,Zi];rfl
 .rw[zF j,zA j,zD];rfl
end
section
section
variable {c:Cx}
end
end
section
open Int renaming reduceEq -> aB, toNat_natCast -> aD
theorem Uj {n:Int}(h:1<=n/\n<=65535/\m.p+n<=m.L): ∃b,Uh (1,n) m=O b:=⟨_,zE h⟩
theorem bk9 (h:m.q= -1/\m.p=m.L): ∃b,Uh (5,0) m=O b:=by
 unfold Uh;simp only[aB,if_false,if_true,true_and];exact⟨_,zE h⟩
theorem bz7 (h:m.q= -1/\m.p=m.L-1): ∃b,Uh (6,0) m=O b:=by
 unfold Uh;simp only[aB,if_false,if_true,true_and];exact⟨_,zE h⟩
theorem bl0 (h:0<m.q/\m.p=m.q-1): ∃b,Uh (7,0) m=O b:=by
 unfold Uh;simp only[aB,if_false,if_true,true_and];exact⟨_,zE h⟩
theorem Ui {k:Nat}(d: ∃h:k<m.t.length,m.t[k]<0): ∃e,Uh (2,(k:Int)) m=O e:=by
 obtain⟨h,b⟩:=d;have g:m.t.getD k 0=m.t[k]:=by simp[List.getD,h]
 unfold Uh;simp only[aB,if_false,if_true,aD,g];exact⟨_,zE ⟨by omega,by omega,b⟩⟩
theorem Lu (h:x∈m.t)(d:0<=x):(∃b,Uh (3,(G7 m.t x:Int)) m=O b)/\∃b,Uh (4,(G7 m.t x:Int)) m=O b:=by
 obtain⟨e,f⟩:=Qz h;have g:m.t.getD (G7 m.t x) 0=x:=by simp[List.getD,e,f]
 unfold Uh;simp only[aB,if_false,if_true,aD,g];exact⟨⟨_,zE ⟨by omega,by omega,d⟩⟩,⟨_,zE ⟨by omega,by omega,d⟩⟩⟩
theorem bk4 (u:0<=m.L/\m.L<=65535)(w:0<=m.p/\m.p<=m.L)(y: -1<=m.q/\m.q<=m.L)(v:1<=m.t.length)(e:Uo m=O a): ∃o,Uh a m=O o:=by
 unfold Uo at e;have d:0<=(if m.q<0 then m.L else m.q)/\(if m.q<0 then m.L else m.q)<=m.L/\(m.q<0->(if m.q<0 then m.L else m.q)=m.L)/\(0<=m.q->(if m.q<0 then m.L else m.q)=m.q):=by split<;>omega
 simp only at e;generalize (if m.q<0 then m.L else m.q)=x at e d;split at e
 .injection e with e;subst e;exact(Lu (yx (by omega)) (by omega)).2
 split at e
 .cases e
 split at e
 .injection e with e;subst e;exact bk9 ⟨by omega,by omega⟩
 split at e
 .split at e
  .injection e with e;subst e;exact bl0 ⟨by omega,by omega⟩
  .injection e with e;subst e;exact bz7 ⟨by omega,by omega⟩
 split at e
 .split at e
  .cases e
  .injection e with e;subst e
   rename_i j _;have b:m.t[0]∈m.t:=List.getElem_mem _;have:=(wQ m.t (-1)).2.1 _ b;exact Ui (k:=0) ⟨by omega,by unfold nv at j;omega⟩
 split at e
 .injection e with e;subst e;exact(Lu (yx (by omega)) (by omega)).1
 split at e
 .rename_i f;injection e with e;subst e;exact Ui (YH f.2)
 split at e
 .injection e with e;subst e;exact Uj (by omega)
 .injection e with e;subst e
  have g:=UC (x-nv m.t).toNat (s:=Dk m.t+1) (by omega);have:=bd9 (n:=(x-nv m.t).toNat) (c:=Dk m.t+1) (by omega) (by omega) g (by omega);rw[show(((x-nv m.t).toNat:Nat):Int)=x-nv m.t by omega,show((Dk m.t+1:Nat):Int)=(Dk m.t:Int)+1 by omega]at this;exact Uj (by omega)
theorem bk5 (en:Bool)(o:0<=m.L/\m.L<=65535)(u:0<=m.p/\m.p<=m.L)(v: -1<=m.q/\m.q<=m.L)(e:Rn en m=O a): ∃j,Uh a m=O j:=by
 unfold Rn at e;simp only at e;split at e
 .split at e
  .injection e with e;subst e;exact Uj (by omega)
  cases d:MH (Hz m.L.toNat m.t.length) m.t with
  |some x=>
   rw[d]at e;injection e with e;subst e
   have b:=List.min?_mem d;obtain⟨f,g,_⟩:=Fc.1 b;exact(Lu f g).2
  |none=>
   rw[d]at e;simp only at e;split at e
   .rename_i h;injection e with e;subst e
    obtain⟨b,k⟩:=Qz h.2.2;exact Ui ⟨b,by omega⟩
   split at e
   .injection e with e;subst e;exact bk9 ⟨by omega,by omega⟩
   .cases e
 split at e
 .rename_i h;injection e with e;subst e;exact(Lu (yx h.1) h.1).2
 split at e
 .cases e
 split at e
 .injection e with e;subst e;exact bl0 ⟨by omega,by omega⟩
 split at e
 .rename_i h;injection e with e;subst e;exact(Lu (yx h.1) h.1).1
 split at e
 .injection e with e;subst e;exact Uj (by omega)
 .cases e
theorem PT {c:Cx}(h:c.Ok)(d:c.mode≠3->1<=c.ns)(w:ei c i s)(e:yz c en s=O a):J8 c a s:=by
 unfold yz at e;unfold J8;unfold ei at w;by_cases b:c.mode=3
 .rw[zE b]at e w⊢;have g:=w.inv.p;unfold nxB at e;unfold N8;split at e
  .split at e
   .injection e with e;subst e
    rw[zE rfl,zF (by simp),Zh,Zh]
   .injection e with e;subst e
    rw[zF (by simp),zE rfl,zF (by simp),Zh,Zh]
  .split at e
   .injection e with e;subst e
    rw[zF (by simp),zF (by simp),zE rfl,zF (by simp),Zh]
   .cases e
 .rw[zF b]at e w⊢;have hi:=w.inv
  have f:1<=(B4 c s).t.length:=by
   show 1<=(mN c s.W).length;have:=d b;rw[mz];omega
  split at e
  .exact bk5 en hi.L hi.p hi.q e
  .exact bk4 hi.L hi.p hi.q f e
end
section
open Go.IntKind renaming wrap -> zH, i64 -> zI, u64 -> zJ
open Bool renaming and_self -> aB
section
variable {c:Cx} {r:RS}
theorem ei.one (b:c.mode=3)(w:ei c i s):Well1 c i s:=by
 unfold ei at w;rw[zE b]at w;exact w
theorem ei.two (b:c.mode≠3)(w:ei c i s):Well2 c i s:=by
 unfold ei at w;rw[zF b]at w;exact w
def Nx (c:Cx)(r:RS)(en:Bool)(s:Dy):Prop:=rK c.mode c.X c.T c.R c.l c.Q c.k c.len c.words c.R c.l c.Q c.k (c.X.length:Int) c.T c.fixed c.tp c.sl c.ns r.L r.p r.q r.st r.sl r.sx r.kp r.ax r.th r.ls r.n0 r.n1 r.n2 r.n3 r.pk en Zb=O (ap3 (yz c en s))
theorem dwt (n:Nx c r en s):pY c.mode c.X c.T c.R c.l c.Q c.k c.len c.words c.R c.l c.Q c.k (c.X.length:Int) c.T c.fixed c.tp c.sl c.ns r.L r.p r.q r.st r.sl r.sx r.kp r.ax r.th r.ls r.n0 r.n1 r.n2 r.n3 r.pk en Zb=O ((yz c en s).isNone&&(Zc (c.mode=2)&& !en)):=by
 unfold pY;refine bv n ?_;cases yz c en s<;>cases Zc (c.mode=2)<;>cases en<;>rfl
theorem ddn (n:Nx c r en s)(H:RelD c s r):ut c.mode c.X c.T c.R c.l c.Q c.k c.len c.words c.R c.l c.Q c.k (c.X.length:Int) c.T c.fixed c.tp c.sl c.ns r.L r.p r.q r.st r.sl r.sx r.kp r.ax r.th r.ls r.n0 r.n1 r.n2 r.n3 r.pk en Zb=O ((yz c en s).isNone&&Zc (s.q=0)):=by
 unfold ut;refine bv n ?_;rw[H.q];cases yz c en s<;>rfl
theorem XH {r':RS}(n:Nx c r en s)(e:yz c en s=O a){z:Int}(d:tE c.mode c.X c.T c.R c.l c.Q c.k c.len c.words c.R c.l c.Q c.k (c.X.length:Int) c.T c.fixed c.tp c.sl c.ns r.L r.p r.q r.st r.sl r.sx r.kp r.ax r.th r.ls r.n0 r.n1 r.n2 r.n3 r.pk a.1 a.2=O (VB c r' z)):
  pE c.mode c.X c.T c.R c.l c.Q c.k c.len c.words c.R c.l c.Q c.k (c.X.length:Int) c.T c.fixed c.tp c.sl c.ns r.L r.p r.q r.st r.sl r.sx r.kp r.ax r.th r.ls r.n0 r.n1 r.n2 r.n3 r.pk en Zb=O (c.mode,c.X,c.T,c.R,c.l,c.Q,c.k,c.len,c.words,c.R,c.l,c.Q,c.k,(c.X.length:Int),c.T,c.fixed,c.tp,c.sl,c.ns,r'.L,r'.p,r'.q,r'.st,r'.sl,r'.sx,r'.kp,r'.ax,r'.th,r'.ls,r'.n0,r'.n1,r'.n2,r'.n3,r'.pk,en,Zb,a.1,a.2,Za,0):=by
 unfold pE;rw[zD];refine bv n ?_;rw[e];show cond (!Za) _ ((tE c.mode c.X c.T c.R c.l c.Q c.k c.len c.words c.R c.l c.Q c.k (c.X.length:Int) c.T c.fixed c.tp c.sl c.ns r.L r.p r.q r.st r.sl r.sx r.kp r.ax r.th r.ls r.n0 r.n1 r.n2 r.n3 r.pk a.1 a.2).bind _)=_;rw[Bool.not_true,zD];exact bv d rfl
theorem XI (n:Nx c r en s)(e:yz c en s=Y):
  pE c.mode c.X c.T c.R c.l c.Q c.k c.len c.words c.R c.l c.Q c.k (c.X.length:Int) c.T c.fixed c.tp c.sl c.ns r.L r.p r.q r.st r.sl r.sx r.kp r.ax r.th r.ls r.n0 r.n1 r.n2 r.n3 r.pk en Zb=O (c.mode,c.X,c.T,c.R,c.l,c.Q,c.k,c.len,c.words,c.R,c.l,c.Q,c.k,(c.X.length:Int),c.T,c.fixed,c.tp,c.sl,c.ns,r.L,r.p,r.q,r.st,r.sl,r.sx,r.kp,r.ax,r.th,r.ls,r.n0,r.n1,r.n2,r.n3,r.pk,en,Zb,0,0,Zb,0):=by
 unfold pE;rw[zD];refine bv n ?_;rw[e];rfl
theorem XE (n:Nx c r en s)(e:((yz c en s).isNone&&(Zc (c.mode=2)&& !en))=Zb)(b:Bool):
  pC c.mode c.X c.T c.R c.l c.Q c.k c.len c.words c.R c.l c.Q c.k (c.X.length:Int) c.T c.fixed c.tp c.sl c.ns r.L r.p r.q r.st r.sl r.sx r.kp r.ax r.th r.ls r.n0 r.n1 r.n2 r.n3 r.pk en Zb b=O (c.mode,c.X,c.T,c.R,c.l,c.Q,c.k,c.len,c.words,c.R,c.l,c.Q,c.k,(c.X.length:Int),c.T,c.fixed,c.tp,c.sl,c.ns,r.L,r.p,r.q,r.st,r.sl,r.sx,r.kp,r.ax,r.th,r.ls,r.n0,r.n1,r.n2,r.n3,r.pk,en,Zb,19):=by
 unfold pC;rw[zD];refine bv (dwt n) ?_;rw[e];rfl
theorem dsc {lv:Int}(b:df c.mode c.X c.T c.R c.l c.Q c.k c.len c.words c.R c.l c.Q c.k (c.X.length:Int) c.T c.fixed c.tp c.sl c.ns r.L r.p r.q r.st r.sl r.sx r.kp r.ax r.th r.ls r.n0 r.n1 r.n2 r.n3 r.pk=O lv):nA c.mode c.X c.T c.R c.l c.Q c.k c.len c.words c.R c.l c.Q c.k (c.X.length:Int) c.T c.fixed c.tp c.sl c.ns r.L r.p r.q r.st r.sl r.sx r.kp r.ax r.th r.ls r.n0 r.n1 r.n2 r.n3 r.pk=O (zH zJ c.mode,zH zJ r.L,zH zJ r.p,zH zJ (zH zI (r.q+1)),zH zJ c.ns,zH zJ r.n0,zH zJ r.n1,zH zJ r.n2,zH zJ r.n3,zH zJ lv,zH zJ r.pk,r.ls):=by
 unfold nA;rw[b];rfl
theorem drs :qI c.mode c.X c.T c.R c.l c.Q c.k c.len c.words c.R c.l c.Q c.k (c.X.length:Int) c.T c.fixed c.tp c.sl c.ns r.L r.p r.q r.st r.sl r.sx r.kp r.ax r.th r.ls r.n0 r.n1 r.n2 r.n3 r.pk=O (if r.q≠0 then(0,[],[],19)else(r.ls,r.ax,r.th,0)):=by
 unfold qI;by_cases b:r.q≠0
 .rw[zB b,zC,zE b]
 .rw[zA b,zD,zF b]
theorem aT7 (b:c.mode=3):ju c.mode c.X c.T c.R c.l c.Q c.k c.len c.words c.R c.l c.Q c.k (c.X.length:Int) c.T c.fixed c.tp c.sl c.ns r.L r.p r.q r.st r.sl r.sx r.kp r.ax r.th r.ls r.n0 r.n1 r.n2 r.n3 r.pk=O (r.p,r.q,[]):=by
 unfold ju;rw[zA (by simp[b]),zD]
 skip
theorem as0 (h:c.Ok)(b:c.mode≠3)(S:Slo c s.W r):ju c.mode c.X c.T c.R c.l c.Q c.k c.len c.words c.R c.l c.Q c.k (c.X.length:Int) c.T c.fixed c.tp c.sl c.ns r.L r.p r.q r.st r.sl r.sx r.kp r.ax r.th r.ls r.n0 r.n1 r.n2 r.n3 r.pk=O (r.p,r.q,mN c s.W):=by
 unfold ju;rw[zB b,zC,Qc S h];rfl
variable (h:c.Ok)
include h
theorem PB {lv:Int}(en:Bool)(H:RelD c s r)(b:df c.mode c.X c.T c.R c.l c.Q c.k c.len c.words c.R c.l c.Q c.k (c.X.length:Int) c.T c.fixed c.tp c.sl c.ns r.L r.p r.q r.st r.sl r.sx r.kp r.ax r.th r.ls r.n0 r.n1 r.n2 r.n3 r.pk=O lv):et c.mode c.X c.T c.R c.l c.Q c.k c.len c.words c.R c.l c.Q c.k (c.X.length:Int) c.T c.fixed c.tp c.sl c.ns r.L r.p r.q r.st r.sl r.sx r.kp r.ax r.th r.ls r.n0 r.n1 r.n2 r.n3 r.pk en Zb=O (zH zJ c.mode,zH zJ s.L,zH zJ s.p,zH zJ (zH zI (s.q+1)),zH zJ c.ns,zH zJ s.c0,zH zJ s.c1,zH zJ s.c2,zH zJ s.c3,zH zJ lv,zH zJ s.pk,s.z,bI en,0):=by
 unfold et;refine bv (dsc b) ?_;rw[H.L,H.p,H.q,H.n0,H.n1,H.n2,H.n3,H.ls,H.pk];cases en<;>rfl
theorem ar6 (e:c.mode=3)(en:Bool)(H:RelD c s r):Nx c r en s:=by
 unfold Nx rK;refine bv (aT7 e) ?_;rw[H.L,H.p,H.q,aw4 e];show cond (Zc (c.mode=1)) _ (cond (Zc (c.mode=2)) _ (cond (Zc (s.q<0)) (cond (Zc (s.p<s.L)) _ _) (cond (Zc (s.q=0)) _ _)))=_;rw[zA (show¬c.mode=1 by omega),zD,zA (show¬c.mode=2 by omega),zD];unfold nxB;by_cases b:s.q<0
 .by_cases d:s.p<s.L
  .rw[zB b,zC,zB d,zC,zE b,zE d];rfl
  .rw[zB b,zC,zA d,zD,zE b,zF d];rfl
 .by_cases d:s.q=0
  .rw[zA b,zD,zB d,zC,zF b,Zh];rfl
  .rw[zA b,zD,zA d,zD,zF b,Zg];rfl
theorem Pu (b:c.mode≠3)(o:1<=c.ns)(en:Bool)(w:ei c i s)(H:RelD c s r)(S:Slo c s.W r):Nx c r en s:=by
 have hi:=(w.two b).inv;have e:=(tn h b (k:=0) (by omega)).2.2;have j:=h.ns;have g:=h.num.mode;have d:(mN c s.W).length=c.ns.toNat:=mz;unfold Nx rK;refine bv (as0 h b S) ?_;rw[H.L,H.p,H.q];show cond (Zc (c.mode=1)) ((xy s.L s.p s.q (mN c s.W)).bind _) (cond (Zc (c.mode=2)) ((xA s.L en s.p s.q (mN c s.W)).bind _) _)=_;by_cases k:c.mode=1
 .rw[zB k,zC,aK6 k];exact bv (az0 hi.L hi.p hi.q (by omega) (by omega) (Df (c:=c) (W:=s.W) hi.tag)) rfl
 .have f:c.mode=2:=by omega
  rw[zA k,zD,zB f,zC,aK7 f];exact bv (az1 hi.L hi.p hi.q (by omega) (by omega) (Df (c:=c) (W:=s.W) hi.tag) en) rfl
theorem bz0 (v:bn c.T)(d:c.mode=3)(hi:InvB c s)(H:RelD c s r)(S:Bas c s r)(b:r.sx=0){B:Int}(u:DD B s)(o:B<=2305843009213693952)(a n:Int):
  ∃r',tE c.mode c.X c.T c.R c.l c.Q c.k c.len c.words c.R c.l c.Q c.k (c.X.length:Int) c.T c.fixed c.tp c.sl c.ns r.L r.p r.q r.st r.sl r.sx r.kp r.ax r.th r.ls r.n0 r.n1 r.n2 r.n3 r.pk a n=O (VB c r' (N8 c a n s).1)/\RelD c (N8 c a n s).2 r'/\Bas c (N8 c a n s).2 r'/\r'.sx=0:=by
 obtain⟨r',e,f,g,j⟩:=Wu h v d hi H S b u o a n;refine⟨r', ?_,f,g,j⟩;unfold tE;rw[zB d,zC];exact bv e rfl
def Ve (c:Cx)(r:RS)(en:Bool)(s:Dy):Prop:=pu c.mode c.X c.T c.R c.l c.Q c.k c.len c.words c.R c.l c.Q c.k (c.X.length:Int) c.T c.fixed c.tp c.sl c.ns r.L r.p r.q r.st r.sl r.sx r.kp r.ax r.th r.ls r.n0 r.n1 r.n2 r.n3 r.pk en Zb c.mode en Zb c.fixed c.tp c.sl c.ns c.mode c.R c.Q c.len c.words s.L s.p s.q s.c0 s.c1 s.c2 s.c3 s.z c.X c.T c.l c.k c.P c.tk s.lv s.pk c.words s.W=O Za
theorem WG (B:bn c.T)(e:c.mode=3)(e0:Pl c)(en:Bool)(w:ei c i s)(n:Nx c r en s)(H:RelD c s r)(S:Bas c s r):Ve c r en s:=by
 have C:=w.one e;have hi:=C.inv;have y:=hi.w;have D:=hi.L;obtain⟨E,F,I,_,_,_⟩:=H.has.lens h B;have J:=h.lens;have u:=aT7 e (r:=r);have b:=Jh h e hi S;have o:=dsc b;have j:=drs (c:=c) (r:=r);have d:=bd7 h B e e0 hi H.has S;have g:=dwt n;have f:=ddn n H;unfold Ve;rw[H.L,H.p,H.q,H.n0,H.n1,H.n2,H.n3,H.ls,H.pk]at u b o j d g f⊢;unfold pu;refine bv (show lw _ _ _ _ _ _ _ _ _ _ _ _ _ _ _ _ _ _ _ _ _ _ _ _ _ _ _ _ _ _=O (Hy c s)by unfold lw;rw[aM7 h y];rfl) ?_;refine bv j ?_;refine bv (TR s c.mode en Zb) ?_;refine bv u ?_;refine bv (Ys (by simp)) ?_;rw[zC];refine bv (show ja _ _ _ _ _ _ _ _ _ _ _ _ _ _ _ _ _ _ _ _ _ _ _ _ _ _ _ _ _ _=O s.L from rfl) ?_;rw[zB rfl,zC];refine bv (as2 s c.mode en Zb) ?_;refine bv o ?_;show cond _ _ _=_;simp only[Qq,decide_true,aB,zC];refine bv (bp9 h e w) ?_
 refine bv g ?_;rw[beq_self_eq_true,zC];refine bv (bz1 h e w) ?_;refine bv f ?_;rw[beq_self_eq_true,zC];refine bv (show oQ _ _ _ _ _ _ _ _ _ _ _ _ _ _ _ _ _ _ _ _ _ _ _ _ _ _ _ _ _ _=O _ by unfold oQ;rw[be2 h y];rfl) ?_;rw[H.has.s];refine bv (Yr (by omega)) ?_;rw[zC];refine bv (show tv _ _ _ _ _ _ _ _ _ _ _ _ _ _ _ _ _ _ _ _ _ _ _ _ _ _ _ _ _ _=O s.lv from rfl) ?_;refine bv b ?_;rw[zB rfl,zC];refine bv (show tw _ _ _ _ _ _ _ _ _ _ _ _ _ _ _ _ _ _ _ _ _ _ _ _ _ _ _ _ _ _=O s.pk from rfl) ?_;rw[zB rfl,zC];refine bv (show sL _ _ _ _ _ _ _ _ _ _ _ _ _ _ _ _ _ _ _ _ _ _ _ _ _ _ _ _ _ _=O (s.c0,s.c1,s.c2,s.c3)from rfl) ?_;simp only[decide_true,aB,zC];have A:gj c.mode en Zb c.fixed c.tp c.sl c.ns c.mode c.R c.Q c.len c.words s.L s.p s.q s.c0 s.c1 s.c2 s.c3 s.z c.X c.T c.l c.k c.P c.tk s.lv s.pk c.words s.W=O s.W:=by unfold gj;rw[at6 h y];rfl
 unfold Hy;by_cases v:s.q≠0
 .rw[zE v,zE v];refine bv (MR (by simp) (by simp)) ?_;simp only[zC,decide_true];exact bv A (bv d rfl)
 .rw[zF v,zF v,H.has.x,H.has.a];show(jt s.z r.ax r.th s.z r.ax r.th).bind _=_;refine bv (MR (by omega) (by omega)) ?_;simp only[zC,decide_true];exact bv A (bv d rfl)
def Vf (c:Cx)(r:RS)(en:Bool)(s:Dy):Prop:=mX c.mode c.X c.T c.R c.l c.Q c.k c.len c.words c.R c.l c.Q c.k (c.X.length:Int) c.T c.fixed c.tp c.sl c.ns r.L r.p r.q r.st r.sl r.sx r.kp r.ax r.th r.ls r.n0 r.n1 r.n2 r.n3 r.pk en Zb c.mode en Zb c.fixed c.tp c.sl c.ns c.mode c.R c.Q c.len c.words s.L s.p s.q s.c0 s.c1 s.c2 s.c3 s.z c.X c.T c.l c.k c.P c.tk (c.off 8:Int) c.ns (c.X.length:Int) s.lv s.pk c.words s.W=O Za
theorem WH (C:bn c.T)(A:c.mode=1)(B:1<=c.ns)(e0:Pl c)(en:Bool)(w:ei c i s)(n:Nx c r en s)(H:RelD c s r)(S:Slo c s.W r):Vf c r en s:=by
 have D:=w.two (by omega);have hi:=D.inv;have v:=hi.w;have E:=hi.L;obtain⟨F,I,J,_,_,_⟩:=H.has.lens h C;have K:=h.lens;have o:=as0 h (by omega) S;have b:=zn h hi S;have j:=dsc b;have g:=drs (c:=c) (r:=r);have d:=aA4 h (by omega) e0 hi H.has S;have f:=dwt n;have e:=ddn n H;unfold Vf;rw[H.L,H.p,H.q,H.n0,H.n1,H.n2,H.n3,H.ls,H.pk]at o b j g d f e⊢;unfold mX;refine bv (show jj _ _ _ _ _ _ _ _ _ _ _ _ _ _ _ _ _ _ _ _ _ _ _ _ _ _ _ _ _ _ _ _ _=O (Hy c s)by unfold jj;rw[ab8 h v];rfl) ?_;refine bv g ?_;refine bv (XJ h (by omega) s hi c.mode en Zb) ?_;refine bv o ?_;refine bv (Ys (by rw[mz];have:=h.ns;omega)) ?_;rw[zC];refine bv (show gk _ _ _ _ _ _ _ _ _ _ _ _ _ _ _ _ _ _ _ _ _ _ _ _ _ _ _ _ _ _ _ _ _=O s.L from rfl) ?_;rw[zB rfl,zC];refine bv (as3 s c.mode en Zb) ?_;refine bv j ?_;show cond _ _ _=_
 simp only[Qq,decide_true,aB,zC];refine bv (bq0 h A B w) ?_;refine bv f ?_;rw[beq_self_eq_true,zC];refine bv (bz2 h A B w) ?_;refine bv e ?_;rw[beq_self_eq_true,zC];refine bv (show ni _ _ _ _ _ _ _ _ _ _ _ _ _ _ _ _ _ _ _ _ _ _ _ _ _ _ _ _ _ _ _ _ _=O _ by unfold ni;rw[aA7 h v];rfl) ?_;rw[H.has.s];refine bv (Yr (by omega)) ?_;rw[zC];refine bv (show ru _ _ _ _ _ _ _ _ _ _ _ _ _ _ _ _ _ _ _ _ _ _ _ _ _ _ _ _ _ _ _ _ _=O s.lv from rfl) ?_;refine bv b ?_;rw[zB rfl,zC];refine bv (show rA _ _ _ _ _ _ _ _ _ _ _ _ _ _ _ _ _ _ _ _ _ _ _ _ _ _ _ _ _ _ _ _ _=O s.pk from rfl) ?_;rw[zB rfl,zC];refine bv (show qv _ _ _ _ _ _ _ _ _ _ _ _ _ _ _ _ _ _ _ _ _ _ _ _ _ _ _ _ _ _ _ _ _=O (s.c0,s.c1,s.c2,s.c3)from rfl) ?_;simp only[decide_true,aB,zC];have y:fc c.mode en Zb c.fixed c.tp c.sl c.ns c.mode c.R c.Q c.len c.words s.L s.p s.q s.c0 s.c1 s.c2 s.c3 s.z c.X c.T c.l c.k c.P c.tk (c.off 8:Int) c.ns (c.X.length:Int) s.lv s.pk c.words s.W=O s.W:=by unfold fc;rw[Ue h v];rfl
 unfold Hy;by_cases u:s.q≠0
 .rw[zE u,zE u];refine bv (MR (by simp) (by simp)) ?_;simp only[zC,decide_true];exact bv y (bv d rfl)
 .rw[zF u,zF u,H.has.x,H.has.a];show(jt s.z r.ax r.th s.z r.ax r.th).bind _=_;refine bv (MR (by omega) (by omega)) ?_;simp only[zC,decide_true];exact bv y (bv d rfl)
def Vg (c:Cx)(r:RS)(en:Bool)(s:Dy):Prop:=mY c.mode c.X c.T c.R c.l c.Q c.k c.len c.words c.R c.l c.Q c.k (c.X.length:Int) c.T c.fixed c.tp c.sl c.ns r.L r.p r.q r.st r.sl r.sx r.kp r.ax r.th r.ls r.n0 r.n1 r.n2 r.n3 r.pk en Zb c.mode en Zb c.fixed c.tp c.sl c.ns c.mode c.R c.Q c.len c.words s.L s.p s.q s.c0 s.c1 s.c2 s.c3 s.z c.X c.T c.l c.k c.P c.tk (c.off 8:Int) c.ns (c.X.length:Int) s.lv s.pk c.words s.W=O Za
theorem WI (C:bn c.T)(A:c.mode=2)(B:1<=c.ns)(e0:Pl c)(en:Bool)(w:ei c i s)(n:Nx c r en s)(H:RelD c s r)(S:Slo c s.W r):Vg c r en s:=by
 have D:=w.two (by omega);have hi:=D.inv;have v:=hi.w;have E:=hi.L;obtain⟨F,I,J,_,_,_⟩:=H.has.lens h C;have K:=h.lens;have o:=as0 h (by omega) S;have b:=zn h hi S;have j:=dsc b;have g:=drs (c:=c) (r:=r);have d:=aA4 h (by omega) e0 hi H.has S;have f:=dwt n;have e:=ddn n H;unfold Vg;rw[H.L,H.p,H.q,H.n0,H.n1,H.n2,H.n3,H.ls,H.pk]at o b j g d f e⊢;unfold mY;refine bv (show jk _ _ _ _ _ _ _ _ _ _ _ _ _ _ _ _ _ _ _ _ _ _ _ _ _ _ _ _ _ _ _ _ _=O (Hy c s)by unfold jk;rw[ab8 h v];rfl) ?_;refine bv g ?_;refine bv (XL h (by omega) s hi c.mode en Zb) ?_;refine bv o ?_;refine bv (Ys (by rw[mz];have:=h.ns;omega)) ?_;rw[zC];refine bv (show gl _ _ _ _ _ _ _ _ _ _ _ _ _ _ _ _ _ _ _ _ _ _ _ _ _ _ _ _ _ _ _ _ _=O s.L from rfl) ?_;rw[zB rfl,zC];refine bv (as4 s c.mode en Zb) ?_;refine bv j ?_;show cond _ _ _=_
 simp only[Qq,decide_true,aB,zC];refine bv (aR8 h A B w) ?_;refine bv f ?_;rw[beq_self_eq_true,zC];refine bv (bz3 h A B w) ?_;refine bv e ?_;rw[beq_self_eq_true,zC];refine bv (show nj _ _ _ _ _ _ _ _ _ _ _ _ _ _ _ _ _ _ _ _ _ _ _ _ _ _ _ _ _ _ _ _ _=O _ by unfold nj;rw[aA7 h v];rfl) ?_;rw[H.has.s];refine bv (Yr (by omega)) ?_;rw[zC];refine bv (show rz _ _ _ _ _ _ _ _ _ _ _ _ _ _ _ _ _ _ _ _ _ _ _ _ _ _ _ _ _ _ _ _ _=O s.lv from rfl) ?_;refine bv b ?_;rw[zB rfl,zC];refine bv (show rB _ _ _ _ _ _ _ _ _ _ _ _ _ _ _ _ _ _ _ _ _ _ _ _ _ _ _ _ _ _ _ _ _=O s.pk from rfl) ?_;rw[zB rfl,zC];refine bv (show qw _ _ _ _ _ _ _ _ _ _ _ _ _ _ _ _ _ _ _ _ _ _ _ _ _ _ _ _ _ _ _ _ _=O (s.c0,s.c1,s.c2,s.c3)from rfl) ?_;simp only[decide_true,aB,zC];have y:fd c.mode en Zb c.fixed c.tp c.sl c.ns c.mode c.R c.Q c.len c.words s.L s.p s.q s.c0 s.c1 s.c2 s.c3 s.z c.X c.T c.l c.k c.P c.tk (c.off 8:Int) c.ns (c.X.length:Int) s.lv s.pk c.words s.W=O s.W:=by unfold fd;rw[Ue h v];rfl
 unfold Hy;by_cases u:s.q≠0
 .rw[zE u,zE u];refine bv (MR (by simp) (by simp)) ?_;simp only[zC,decide_true];exact bv y (bv d rfl)
 .rw[zF u,zF u,H.has.x,H.has.a];show(jt s.z r.ax r.th s.z r.ax r.th).bind _=_;refine bv (MR (by omega) (by omega)) ?_;simp only[zC,decide_true];exact bv y (bv d rfl)
end
end
section
open Bool renaming not_true -> aB, and_self -> aD
open Nat renaming le_succ -> bB
section
variable {c:Cx} {r:RS} (h:c.Ok)
structure BE1 (c:Cx)(i:Nat)(en:Bool)(s:Dy)(r:RS):Prop where
 w:ei c i s
 Q:QE c en s
 H:RelD c s r
 S:Bas c s r
 sx:r.sx=0
structure BE2 (c:Cx)(i:Nat)(en:Bool)(s:Dy)(r:RS):Prop where
 w:ei c i s
 Q:QE c en s
 H:RelD c s r
 S:Slo c s.W r
 L:c.mode=2->s.L<=i
include h
theorem UU (w:ei c i s):Wd c s.W/\s.W.length<=1048576:=by
 have b:Wd c s.W:=by
  unfold ei at w;split at w
  .exact w.inv.w
  .exact w.inv.w
 exact⟨b,(b.tk h).2⟩
theorem BE1.up (b:BE1 c i en s r):BE1 c (i+1) en s r:=⟨QJ h (bB i) b.w,b.Q,b.H,b.S,b.sx⟩
theorem BE2.up (b:BE2 c i en s r):BE2 c (i+1) en s r:=⟨QJ h (bB i) b.w,b.Q,b.H,b.S,λk=>by have:=b.L k;omega⟩
def O1 (c:Cx)(r:RS)(en:Bool)(s:Dy):=(c.mode,c.X,c.T,c.R,c.l,c.Q,c.k,c.len,c.words,c.R,c.l,c.Q,c.k,(c.X.length:Int),c.T,c.fixed,c.tp,c.sl,c.ns,r.L,r.p,r.q,r.st,r.sl,r.sx,r.kp,r.ax,r.th,r.ls,r.n0,r.n1,r.n2,r.n3,r.pk,en,Zb,Za,c.mode,en,Zb,c.fixed,c.tp,c.sl,c.ns,c.mode,c.R,c.Q,c.len,c.words,s.L,s.p,s.q,s.c0,s.c1,s.c2,s.c3,s.z,s.lv,s.pk,c.words,s.W)
def C1 (c:Cx)(r:RS)(en:Bool)(s:Dy)(x:Int)(r':RS)(en':Bool)(s':Dy):Prop:=tz c.mode c.X c.T c.R c.l c.Q c.k c.len c.words c.R c.l c.Q c.k (c.X.length:Int) c.T c.fixed c.tp c.sl c.ns r.L r.p r.q r.st r.sl r.sx r.kp r.ax r.th r.ls r.n0 r.n1 r.n2 r.n3 r.pk en Zb c.mode c.X c.T c.R c.l c.Q c.k c.len c.words x c.mode en Zb c.fixed c.tp c.sl c.ns c.mode c.R c.Q c.len c.words s.L s.p s.q s.c0 s.c1 s.c2 s.c3 s.z c.X c.T c.l c.k c.P c.tk s.lv s.pk c.words s.W=O (.inl (O1 c r' en' s'))
theorem aF3 (v:bn c.T)(d:c.mode=3)(u:i<=1000)(b:BE1 c i en s r)(e:yz c en s=O a)(m:J8 c a s):
  ∃r',BE1 c (i+1) en (zk c a s) r'/\C1 c r en s 0 r' en (zk c a s):=by
 have j:=b.w.one d;have q:=aU7 (show nxB s=O a by rw[<-aw4 d en];exact e);obtain⟨r',k,f,g,o⟩:=bz0 h v d j.inv b.H b.S b.sx j.cnt (by omega) a.1 a.2;have p:zk c a s=(N8 c a.1 a.2 s).2:=by unfold zk;rw[zE d]
 rw[<-p]at f g;refine⟨r',⟨M3 h b.w e m,X9 h b.w b.Q e m,f,g,o⟩, ?_⟩;unfold C1 tz;rw[zB (show(0:Int)=0 from rfl),zC];refine bv (bB2 h d (by omega) b.w e m) ?_;refine bv (XH (ar6 h d en b.H) e k) ?_;show cond (Zc (a.1=a.1)&&Zc ((0:Int)=a.2)) (cond (Za==Za) (O _) _) _=_;rw[q,zB rfl,zB rfl,aD,zC];rfl
theorem aF6 (d:c.mode=3)(b:BE1 c i en s r)(e:yz c en s=Y):C1 c r en s 0 r en s:=by
 unfold C1 tz;rw[zB (show(0:Int)=0 from rfl),zC];refine bv (bA9 h d b.w e) ?_;exact bv (XI (ar6 h d en b.H) e) rfl
theorem aI2 (f:c.mode=3)(b:BE1 c i en s r)(e:((yz c en s).isNone&&(Zc (c.mode=2)&& !en))=Zb)(g:x≠0)(d:x=1∨x=2):C1 c r en s x r en s:=by
 unfold C1 tz;rw[zA g,zD];refine bv (a:=Za) (by rcases d with k|k<;>subst k<;>rfl) ?_;rw[zC];refine bv (XE (ar6 h f en b.H) e _) ?_;refine bv (a:=(19,c.mode,en,Zb,c.fixed,c.tp,c.sl,c.ns,c.mode,c.R,c.Q,c.len,c.words,s.L,s.p,s.q,s.c0,s.c1,s.c2,s.c3,s.z)) ?_ rfl;unfold tu;rw[zD];refine bv (bp9 h f b.w) ?_;rw[e];rfl
def LP (c:Cx)(i:Nat)(en:Bool)(s:Dy)(r:RS):=((i:Int),c.mode,c.X,c.T,c.R,c.l,c.Q,c.k,c.len,c.words,c.mode,c.X,c.T,c.R,c.l,c.Q,c.k,c.len,c.words,c.R,c.l,c.Q,c.k,(c.X.length:Int),c.T,c.fixed,c.tp,c.sl,c.ns,r.L,r.p,r.q,r.st,r.sl,r.sx,r.kp,r.ax,r.th,r.ls,r.n0,r.n1,r.n2,r.n3,r.pk,en,Zb,c.mode,en,Zb,c.fixed,c.tp,c.sl,c.ns,c.mode,c.R,c.Q,c.len,c.words,s.L,s.p,s.q,s.c0,s.c1,s.c2,s.c3,s.z,c.X,c.T,c.l,c.k,c.P,c.tk,s.lv,s.pk,c.words,s.W)
theorem ax8 (hi:i<l.length)(e:l.length<=120){r':RS}(b:C1 c r en s l[i] r' en' s')(d:Ve c r' en' s'):
  dy l (LP c i en s r)=O (.inl (LP c (i+1) en' s' r')):=by
 unfold LP;show cond (Zc ((i:Int)<((l.length:Nat):Int))) ((rd l (i:Int)).bind _) _=_;rw[Zf,zC];refine bv (bh hi) ?_;refine bv b ?_;rw[ej];show cond (!Za) _ ((pu _ _ _ _ _ _ _ _ _ _ _ _ _ _ _ _ _ _ _ _ _ _ _ _ _ _ _ _ _ _ _ _ _ _ en' Zb c.mode en' Zb _ _ _ _ _ _ _ _ _ _ _ _ _ _ _ _ _ _ _ _ _ _ _ _ _ _ _).bind _)=_;rw[aB,zD];refine bv d ?_;rw[aB,zD,Zi,show(i:Int)+1=((i+1:Nat):Int)by omega]
theorem bc6 (g:c.mode=3)(e0:Pl c)(hi:i<l.length)(A:l.length<=120)(b:BE1 c i en s r)(u:l[i]≠0)(d: ¬(l[i]=1∨l[i]=2))(v:Ve c r en s):
  dy l (LP c i en s r)=O (.inl (LP c (i+1) en s r)):=by
 have j:=b.w.one g;have e:=UU h b.w;have y:en=Zb:=b.Q.1 (by omega);subst y;have f:=PB h Zb b.H (Jh h g j.inv b.S);unfold LP;show cond (Zc ((i:Int)<((l.length:Nat):Int))) ((rd l (i:Int)).bind _) _=_;rw[Zf,zC];refine bv (bh hi) ?_;refine bv (a:= .inr (c.mode,c.X,c.T,c.R,c.l,c.Q,c.k,c.len,c.words,c.R,c.l,c.Q,c.k,(c.X.length:Int),c.T,c.fixed,c.tp,c.sl,c.ns,r.L,r.p,r.q,r.st,r.sl,r.sx,r.kp,r.ax,r.th,r.ls,r.n0,r.n1,r.n2,r.n3,r.pk,Zb,Zb,Za,c.mode,Zb,Zb,c.fixed,c.tp,c.sl,c.ns,c.mode,c.R,c.Q,c.len,c.words,s.L,s.p,s.q,s.c0,s.c1,s.c2,s.c3,s.z,s.lv,s.pk,c.words,s.W,c.mode,Zb,Zb,c.fixed,c.tp,c.sl,c.ns,c.mode,c.R,c.Q,c.len,c.words,s.L,s.p,s.q,s.c0,s.c1,s.c2,s.c3,s.z,c.X,c.T,c.l,c.k,c.P,c.tk,s.lv,s.pk,c.words,s.W)) ?_ ?_
 .unfold tz;rw[zA u,zD];refine bv (a:=Zb) (by rw[zA λk=>d (.inl k),zD,zA λk=>d (.inr k)]) ?_;rw[zD];refine bv (bk0 h e.1 e.2 c.mode Zb Zb) ?_;refine bv (Jq e.2 Zb Zb) ?_;refine bv (am3 h g e0 j.inv j.cnt (by omega) e.2) ?_;simp only[bg,ej,decide_true,zC];refine bv f ?_;show cond _ _ _=_;have o:bI Zb=0:=rfl;simp only[o,decide_true,aD,zC]
 rw[bg];show cond (!Za) _ ((pu _ _ _ _ _ _ _ _ _ _ _ _ _ _ _ _ _ _ _ _ _ _ _ _ _ _ _ _ _ _ _ _ _ _ Zb Zb c.mode Zb Zb _ _ _ _ _ _ _ _ _ _ _ _ _ _ _ _ _ _ _ _ _ _ _ _ _ _ _).bind _)=_;rw[aB,zD];refine bv v ?_;rw[aB,zD,Zi,show(i:Int)+1=((i+1:Nat):Int)by omega]
def O2 (c:Cx)(r:RS)(en:Bool)(s:Dy):=(c.mode,c.X,c.T,c.R,c.l,c.Q,c.k,c.len,c.words,c.R,c.l,c.Q,c.k,(c.X.length:Int),c.T,c.fixed,c.tp,c.sl,c.ns,r.L,r.p,r.q,r.st,r.sl,r.sx,r.kp,r.ax,r.th,r.ls,r.n0,r.n1,r.n2,r.n3,r.pk,en,Zb,Za,c.mode,en,Zb,c.fixed,c.tp,c.sl,c.ns,c.mode,c.R,c.Q,c.len,c.words,s.L,s.p,s.q,s.c0,s.c1,s.c2,s.c3,s.z,s.lv,s.pk,c.words,s.W)
def C2 (c:Cx)(r:RS)(en:Bool)(s:Dy)(x:Int)(r':RS)(en':Bool)(s':Dy):Prop:=pV c.mode c.X c.T c.R c.l c.Q c.k c.len c.words c.R c.l c.Q c.k (c.X.length:Int) c.T c.fixed c.tp c.sl c.ns r.L r.p r.q r.st r.sl r.sx r.kp r.ax r.th r.ls r.n0 r.n1 r.n2 r.n3 r.pk en Zb c.mode c.X c.T c.R c.l c.Q c.k c.len c.words x c.mode en Zb c.fixed c.tp c.sl c.ns c.mode c.R c.Q c.len c.words s.L s.p s.q s.c0 s.c1 s.c2 s.c3 s.z c.X c.T c.l c.k c.P c.tk (c.off 8:Int) c.ns (c.X.length:Int) s.lv s.pk c.words s.W=O (.inl (O2 c r' en' s'))
theorem aF4 (y:bn c.T)(v:c.mode=1)(g:1<=c.ns)(u:i<=1000)(b:BE2 c i en s r)(e:yz c en s=O a)(m:J8 c a s):
  ∃r',BE2 c (i+1) en (zk c a s) r'/\C2 c r en s 0 r' en (zk c a s):=by
 have j:=b.w.two (by omega);obtain⟨r',o,d,f⟩:=Sj h y (by omega) j.inv b.H b.S j.cnt (by omega) a.1 a.2;have p:zk c a s=(HF c a.1 a.2 s).2:=by unfold zk;rw[Zh]
 have q:=ar7 a.1 a.2 s (c:=c);rw[<-p]at d f q;refine⟨r',⟨M3 h b.w e m,X9 h b.w b.Q e m,d,f,λk=>by have:=b.L k;omega⟩, ?_⟩;unfold C2 pV;rw[zB (show(0:Int)=0 from rfl),zC];refine bv (bB3 h v g (by omega) b.w e m) ?_;refine bv (XH (Pu h (by omega) g en b.w b.H b.S) e o) ?_;show cond (Zc (a.1=a.1)&&Zc (a.2=a.2)) (cond (Za==Za) (O _) _) _=_;rw[zB rfl,zB rfl,aD,zC];rfl
theorem aF7 (f:c.mode=1)(d:1<=c.ns)(b:BE2 c i en s r)(e:yz c en s=Y):C2 c r en s 0 r en s:=by
 unfold C2 pV;rw[zB (show(0:Int)=0 from rfl),zC];refine bv (bB0 h f d b.w e) ?_;exact bv (XI (Pu h (by omega) d en b.w b.H b.S) e) rfl
theorem aI3 (j:c.mode=1)(f:1<=c.ns)(b:BE2 c i en s r)(e:((yz c en s).isNone&&(Zc (c.mode=2)&& !en))=Zb)(g:x≠0)(d:x=1∨x=2):C2 c r en s x r en s:=by
 unfold C2 pV;rw[zA g,zD];refine bv (a:=Za) (by rcases d with k|k<;>subst k<;>rfl) ?_;rw[zC];refine bv (XE (Pu h (by omega) f en b.w b.H b.S) e _) ?_;refine bv (a:=(19,c.mode,en,Zb,c.fixed,c.tp,c.sl,c.ns,c.mode,c.R,c.Q,c.len,c.words,s.L,s.p,s.q,s.c0,s.c1,s.c2,s.c3,s.z)) ?_ rfl;unfold rr;rw[zD];refine bv (bq0 h j f b.w) ?_;rw[e];rfl
def LQ (c:Cx)(i:Nat)(en:Bool)(s:Dy)(r:RS):=((i:Int),c.mode,c.X,c.T,c.R,c.l,c.Q,c.k,c.len,c.words,c.mode,c.X,c.T,c.R,c.l,c.Q,c.k,c.len,c.words,c.R,c.l,c.Q,c.k,(c.X.length:Int),c.T,c.fixed,c.tp,c.sl,c.ns,r.L,r.p,r.q,r.st,r.sl,r.sx,r.kp,r.ax,r.th,r.ls,r.n0,r.n1,r.n2,r.n3,r.pk,en,Zb,c.mode,en,Zb,c.fixed,c.tp,c.sl,c.ns,c.mode,c.R,c.Q,c.len,c.words,s.L,s.p,s.q,s.c0,s.c1,s.c2,s.c3,s.z,c.X,c.T,c.l,c.k,c.P,c.tk,(c.off 8:Int),c.ns,(c.X.length:Int),s.lv,s.pk,c.words,s.W)
theorem ax9 (hi:i<l.length)(e:l.length<=120){r':RS}(b:C2 c r en s l[i] r' en' s')(d:Vf c r' en' s'):
  dz l (LQ c i en s r)=O (.inl (LQ c (i+1) en' s' r')):=by
 unfold LQ;show cond (Zc ((i:Int)<((l.length:Nat):Int))) ((rd l (i:Int)).bind _) _=_;rw[Zf,zC];refine bv (bh hi) ?_;refine bv b ?_;rw[ej];show cond (!Za) _ ((mX _ _ _ _ _ _ _ _ _ _ _ _ _ _ _ _ _ _ _ _ _ _ _ _ _ _ _ _ _ _ _ _ _ _ en' Zb c.mode en' Zb _ _ _ _ _ _ _ _ _ _ _ _ _ _ _ _ _ _ _ _ _ _ _ _ _ _ _ _ _ _).bind _)=_;rw[aB,zD];refine bv d ?_;rw[aB,zD,Zi,show(i:Int)+1=((i+1:Nat):Int)by omega]
theorem bc7 (v:c.mode=1)(A:1<=c.ns)(e0:Pl c)(hi:i<l.length)(y:l.length<=120)(b:BE2 c i en s r)(o:l[i]≠0)(d: ¬(l[i]=1∨l[i]=2))(u:Vf c r en s):
  dz l (LQ c i en s r)=O (.inl (LQ c (i+1) en s r)):=by
 have e:=b.w.two (by omega);have f:=UU h b.w;have g:=PB h en b.H (zn h e.inv b.S);unfold LQ;show cond (Zc ((i:Int)<((l.length:Nat):Int))) ((rd l (i:Int)).bind _) _=_;rw[Zf,zC];refine bv (bh hi) ?_;refine bv (a:= .inr (c.mode,c.X,c.T,c.R,c.l,c.Q,c.k,c.len,c.words,c.R,c.l,c.Q,c.k,(c.X.length:Int),c.T,c.fixed,c.tp,c.sl,c.ns,r.L,r.p,r.q,r.st,r.sl,r.sx,r.kp,r.ax,r.th,r.ls,r.n0,r.n1,r.n2,r.n3,r.pk,en,Zb,Za,c.mode,en,Zb,c.fixed,c.tp,c.sl,c.ns,c.mode,c.R,c.Q,c.len,c.words,s.L,s.p,s.q,s.c0,s.c1,s.c2,s.c3,s.z,s.lv,s.pk,c.words,s.W,c.mode,en,Zb,c.fixed,c.tp,c.sl,c.ns,c.mode,c.R,c.Q,c.len,c.words,s.L,s.p,s.q,s.c0,s.c1,s.c2,s.c3,s.z,c.X,c.T,c.l,c.k,c.P,c.tk,(c.off 8:Int),c.ns,(c.X.length:Int),s.lv,s.pk,c.words,s.W)) ?_ ?_
 .unfold pV;rw[zA o,zD];refine bv (a:=Zb) (by rw[zA λk=>d (.inl k),zD,zA λk=>d (.inr k)]) ?_;rw[zD];refine bv (bk1 h f.1 f.2 c.mode en Zb) ?_;refine bv (Jq f.2 en Zb) ?_;refine bv (am4 h v e0 e.inv e.len e.cnt (by omega) f.2 b.Q.1 b.Q.2) ?_;simp only[bg,ej,decide_true,zC];refine bv g ?_;show cond _ _ _=_;have j:bI Zb=0:=rfl;simp only[j,decide_true,aD,zC]
 rw[bg];show cond (!Za) _ ((mX _ _ _ _ _ _ _ _ _ _ _ _ _ _ _ _ _ _ _ _ _ _ _ _ _ _ _ _ _ _ _ _ _ _ en Zb c.mode en Zb _ _ _ _ _ _ _ _ _ _ _ _ _ _ _ _ _ _ _ _ _ _ _ _ _ _ _ _ _ _).bind _)=_;rw[aB,zD];refine bv u ?_;rw[aB,zD,Zi,show(i:Int)+1=((i+1:Nat):Int)by omega]
def O3 (c:Cx)(r:RS)(en:Bool)(s:Dy):=(c.mode,c.X,c.T,c.R,c.l,c.Q,c.k,c.len,c.words,c.R,c.l,c.Q,c.k,(c.X.length:Int),c.T,c.fixed,c.tp,c.sl,c.ns,r.L,r.p,r.q,r.st,r.sl,r.sx,r.kp,r.ax,r.th,r.ls,r.n0,r.n1,r.n2,r.n3,r.pk,en,Zb,Za,c.mode,en,Zb,c.fixed,c.tp,c.sl,c.ns,c.mode,c.R,c.Q,c.len,c.words,s.L,s.p,s.q,s.c0,s.c1,s.c2,s.c3,s.z,s.lv,s.pk,c.words,s.W)
def C3 (c:Cx)(r:RS)(en:Bool)(s:Dy)(x:Int)(r':RS)(en':Bool)(s':Dy):Prop:=mL c.mode c.X c.T c.R c.l c.Q c.k c.len c.words c.R c.l c.Q c.k (c.X.length:Int) c.T c.fixed c.tp c.sl c.ns r.L r.p r.q r.st r.sl r.sx r.kp r.ax r.th r.ls r.n0 r.n1 r.n2 r.n3 r.pk en Zb c.mode c.X c.T c.R c.l c.Q c.k c.len c.words x c.mode en Zb c.fixed c.tp c.sl c.ns c.mode c.R c.Q c.len c.words s.L s.p s.q s.c0 s.c1 s.c2 s.c3 s.z c.X c.T c.l c.k c.P c.tk (c.off 8:Int) c.ns (c.X.length:Int) s.lv s.pk c.words s.W=O (.inl (O3 c r' en' s'))
theorem aF5 (y:bn c.T)(v:c.mode=2)(g:1<=c.ns)(u:i<=1000)(b:BE2 c i en s r)(e:yz c en s=O a)(m:J8 c a s):
  ∃r',BE2 c (i+1) en (zk c a s) r'/\C3 c r en s 0 r' en (zk c a s):=by
 have j:=b.w.two (by omega);obtain⟨r',o,d,f⟩:=Sj h y (by omega) j.inv b.H b.S j.cnt (by omega) a.1 a.2;have p:zk c a s=(HF c a.1 a.2 s).2:=by unfold zk;rw[Zh]
 have q:=ar7 a.1 a.2 s (c:=c);rw[<-p]at d f q;refine⟨r',⟨M3 h b.w e m,X9 h b.w b.Q e m,d,f,λk=>by have:=b.L k;omega⟩, ?_⟩;unfold C3 mL;rw[zB (show(0:Int)=0 from rfl),zC];refine bv (bB4 h v g (by omega) b.w e m) ?_;refine bv (XH (Pu h (by omega) g en b.w b.H b.S) e o) ?_;show cond (Zc (a.1=a.1)&&Zc (a.2=a.2)) (cond (Za==Za) (O _) _) _=_;rw[zB rfl,zB rfl,aD,zC];rfl
theorem aF8 (f:c.mode=2)(d:1<=c.ns)(b:BE2 c i en s r)(e:yz c en s=Y):C3 c r en s 0 r en s:=by
 unfold C3 mL;rw[zB (show(0:Int)=0 from rfl),zC];refine bv (bB1 h f d b.w e) ?_;exact bv (XI (Pu h (by omega) d en b.w b.H b.S) e) rfl
theorem aI4 (j:c.mode=2)(f:1<=c.ns)(b:BE2 c i en s r)(e:((yz c en s).isNone&&(Zc (c.mode=2)&& !en))=Zb)(g:x≠0)(d:x=1∨x=2):C3 c r en s x r en s:=by
 unfold C3 mL;rw[zA g,zD];refine bv (a:=Za) (by rcases d with k|k<;>subst k<;>rfl) ?_;rw[zC];refine bv (XE (Pu h (by omega) f en b.w b.H b.S) e _) ?_;refine bv (a:=(19,c.mode,en,Zb,c.fixed,c.tp,c.sl,c.ns,c.mode,c.R,c.Q,c.len,c.words,s.L,s.p,s.q,s.c0,s.c1,s.c2,s.c3,s.z)) ?_ rfl;unfold fp;rw[zD];refine bv (aR8 h j f b.w) ?_;rw[e];rfl
def LR (c:Cx)(i:Nat)(en:Bool)(s:Dy)(r:RS):=((i:Int),c.mode,c.X,c.T,c.R,c.l,c.Q,c.k,c.len,c.words,c.mode,c.X,c.T,c.R,c.l,c.Q,c.k,c.len,c.words,c.R,c.l,c.Q,c.k,(c.X.length:Int),c.T,c.fixed,c.tp,c.sl,c.ns,r.L,r.p,r.q,r.st,r.sl,r.sx,r.kp,r.ax,r.th,r.ls,r.n0,r.n1,r.n2,r.n3,r.pk,en,Zb,c.mode,en,Zb,c.fixed,c.tp,c.sl,c.ns,c.mode,c.R,c.Q,c.len,c.words,s.L,s.p,s.q,s.c0,s.c1,s.c2,s.c3,s.z,c.X,c.T,c.l,c.k,c.P,c.tk,(c.off 8:Int),c.ns,(c.X.length:Int),s.lv,s.pk,c.words,s.W)
theorem X5 (hi:i<l.length)(e:l.length<=120){r':RS}(b:C3 c r en s l[i] r' en' s')(d:Vg c r' en' s'):
  ec l (LR c i en s r)=O (.inl (LR c (i+1) en' s' r')):=by
 unfold LR;show cond (Zc ((i:Int)<((l.length:Nat):Int))) ((rd l (i:Int)).bind _) _=_;rw[Zf,zC];refine bv (bh hi) ?_;refine bv b ?_;rw[ej];show cond (!Za) _ ((mY _ _ _ _ _ _ _ _ _ _ _ _ _ _ _ _ _ _ _ _ _ _ _ _ _ _ _ _ _ _ _ _ _ _ en' Zb c.mode en' Zb _ _ _ _ _ _ _ _ _ _ _ _ _ _ _ _ _ _ _ _ _ _ _ _ _ _ _ _ _ _).bind _)=_;rw[aB,zD];refine bv d ?_;rw[aB,zD,Zi,show(i:Int)+1=((i+1:Nat):Int)by omega]
theorem bc8 (v:c.mode=2)(A:1<=c.ns)(e0:Pl c)(hi:i<l.length)(y:l.length<=120)(b:BE2 c i en s r)(o:l[i]≠0)(d: ¬(l[i]=1∨l[i]=2))(u:Vg c r en s):
  ec l (LR c i en s r)=O (.inl (LR c (i+1) en s r)):=by
 have e:=b.w.two (by omega);have f:=UU h b.w;have g:=PB h en b.H (zn h e.inv b.S);unfold LR;show cond (Zc ((i:Int)<((l.length:Nat):Int))) ((rd l (i:Int)).bind _) _=_;rw[Zf,zC];refine bv (bh hi) ?_;refine bv (a:= .inr (c.mode,c.X,c.T,c.R,c.l,c.Q,c.k,c.len,c.words,c.R,c.l,c.Q,c.k,(c.X.length:Int),c.T,c.fixed,c.tp,c.sl,c.ns,r.L,r.p,r.q,r.st,r.sl,r.sx,r.kp,r.ax,r.th,r.ls,r.n0,r.n1,r.n2,r.n3,r.pk,en,Zb,Za,c.mode,en,Zb,c.fixed,c.tp,c.sl,c.ns,c.mode,c.R,c.Q,c.len,c.words,s.L,s.p,s.q,s.c0,s.c1,s.c2,s.c3,s.z,s.lv,s.pk,c.words,s.W,c.mode,en,Zb,c.fixed,c.tp,c.sl,c.ns,c.mode,c.R,c.Q,c.len,c.words,s.L,s.p,s.q,s.c0,s.c1,s.c2,s.c3,s.z,c.X,c.T,c.l,c.k,c.P,c.tk,(c.off 8:Int),c.ns,(c.X.length:Int),s.lv,s.pk,c.words,s.W)) ?_ ?_
 .unfold mL;rw[zA o,zD];refine bv (a:=Zb) (by rw[zA λk=>d (.inl k),zD,zA λk=>d (.inr k)]) ?_;rw[zD];refine bv (bk2 h f.1 f.2 c.mode en Zb) ?_;refine bv (Jq f.2 en Zb) ?_;refine bv (am5 h v e0 e.inv e.len e.cnt (by omega) f.2 b.Q.1 b.Q.2) ?_;simp only[bg,ej,decide_true,zC];refine bv g ?_;show cond _ _ _=_;have j:bI Zb=0:=rfl;simp only[j,decide_true,aD,zC]
 rw[bg];show cond (!Za) _ ((mY _ _ _ _ _ _ _ _ _ _ _ _ _ _ _ _ _ _ _ _ _ _ _ _ _ _ _ _ _ _ _ _ _ _ en Zb c.mode en Zb _ _ _ _ _ _ _ _ _ _ _ _ _ _ _ _ _ _ _ _ _ _ _ _ _ _ _ _ _ _).bind _)=_;rw[aB,zD];refine bv u ?_;rw[aB,zD,Zi,show(i:Int)+1=((i+1:Nat):Int)by omega]
theorem ba3 (d:c.mode=2)(o:1<=c.ns)(C:i<=1000)(b:BE2 c i Zb s r)(e:yz c Zb s=Y)(f:x=1∨x=2):
  ∃en' s' r',BE2 c (i+1) en' s' r'/\C3 c r Zb s x r' en' s':=by
 have B:=b.w.two (show c.mode≠3 by omega)
 have A:s.q= -1:=by
  have:=B.inv.q;by_cases k:0<=s.q
  .cases b.Q.2 k d
  .omega
 have D:=b.L d;have g:=B.inv.L
 have j:qh c s=(0,yr s):=by
  unfold qh;rw[Zh,Zh,Zh];rfl
 have u:=Pu h (show c.mode≠3 by omega) o Zb b.w b.H b.S;rcases f with k|k
 .subst k;have y:=b.H.more;have z:=b.S.more;have v:=Ym b.H g;rw[j]at y z v;refine⟨Zb,yr s,{r with L:=(yr s).L},⟨YI h b.w d A (by omega),⟨λ_=>rfl,λk _=> ?_⟩,y,z,λ_=>by show s.L+1<=_;omega⟩, ?_⟩
  .have:(yr s).q=s.q:=rfl;omega
  .unfold C3 mL;rw[Ze,zD];refine bv (a:=Za) rfl ?_;rw[zC];refine bv (a:=(c.mode,c.X,c.T,c.R,c.l,c.Q,c.k,c.len,c.words,c.R,c.l,c.Q,c.k,(c.X.length:Int),c.T,c.fixed,c.tp,c.sl,c.ns,({r with L:=(yr s).L}:RS).L,({r with L:=(yr s).L}:RS).p,({r with L:=(yr s).L}:RS).q,({r with L:=(yr s).L}:RS).st,({r with L:=(yr s).L}:RS).sl,({r with L:=(yr s).L}:RS).sx,({r with L:=(yr s).L}:RS).kp,({r with L:=(yr s).L}:RS).ax,({r with L:=(yr s).L}:RS).th,({r with L:=(yr s).L}:RS).ls,({r with L:=(yr s).L}:RS).n0,({r with L:=(yr s).L}:RS).n1,({r with L:=(yr s).L}:RS).n2,({r with L:=(yr s).L}:RS).n3,({r with L:=(yr s).L}:RS).pk,Zb,Zb,0)) ?_ ?_
   .unfold pC;rw[zD];refine bv (dwt u) ?_;rw[e,zB d];show cond (!Za) _ (cond (!Za) _ _)=_;rw[aB,zD,zD];exact bv v rfl
   exact bv (fdm h d o b.w e A (by omega)) rfl
 .subst k;refine⟨Za,s,r,⟨QJ h (bB i) b.w,⟨λk=>(k d).elim,λ_ _=>rfl⟩,b.H,b.S,λ_=>by omega⟩, ?_⟩;unfold C3 mL;rw[Ze,zD];refine bv (a:=Za) rfl ?_;rw[zC];refine bv (a:=(c.mode,c.X,c.T,c.R,c.l,c.Q,c.k,c.len,c.words,c.R,c.l,c.Q,c.k,(c.X.length:Int),c.T,c.fixed,c.tp,c.sl,c.ns,r.L,r.p,r.q,r.st,r.sl,r.sx,r.kp,r.ax,r.th,r.ls,r.n0,r.n1,r.n2,r.n3,r.pk,Za,Zb,0)) ?_ ?_
  .unfold pC;rw[zD];refine bv (dwt u) ?_;rw[e,zB d];rfl
  exact bv (fds h d o b.w e) rfl
end
end
section
open Bool renaming not_true -> aD, and_eq_true -> bD
open Nat renaming zero_le -> bB
open Option renaming bind -> aB
theorem Mv :rC=O Za:=by kernel_rfl
section
variable {c:Cx} (h:c.Ok)
include h
theorem bj3 (b:c.mode=3)(e:oX c.mode c.X.length c.T.length c.R c.l c.Q c.k c.len c.words=(c.fixed,c.tp,c.sl,c.ns,0)):mK c.mode c.X c.T c.R c.l c.Q c.k c.len c.words=O (.inr (.inl (c.mode,Zb,Zb,c.fixed,c.tp,c.sl,c.ns,c.mode,c.R,c.Q,c.len,c.words,c.len,c.X,c.T,c.l,c.k,c.P,c.tk,c.fixed,c.fixed,c.words,(new1 c).W))):=by
 unfold mK;refine bv (bx7 h b e) ?_
 refine bv (show pT _ _ _ _ _ _ _ _ _ _ _ _ _ _ _ _ _ _ _ _ _ _ _ _ _ _ _ _ _ _ _ _ _ _ _ _=O (c.mode,Zb,Zb)from by
  unfold pT;rw[show ix c.mode 4=O 3 from by rw[b];rfl]
  rfl) ?_
 rfl
theorem bd0 (u:bn c.T)(g:c.mode=3)(e0:Pl c)(p:l.length<=120)(hi:i<l.length)(b:BE1 c i en s r):
  ∃en' s' r',BE1 c (i+1) en' s' r'/\dy l (LP c i en s r)=O (.inl (LP c (i+1) en' s' r')):=by
 have f: ∀{i en s r},BE1 c i en s r->Ve c r en s:=λb=>WG h u g e0 _ b.w (ar6 h g _ b.H) b.H b.S
 have d:C1 c r en s l[i] r en s->∃en' s' r',BE1 c (i+1) en' s' r'/\dy l (LP c i en s r)=O (.inl (LP c (i+1) en' s' r')):=λy=>⟨en,s,r,b.up h,ax8 h hi p y (f b)⟩
 by_cases o:l[i]=0
 .cases e:yz c en s with
  |none=>exact d (by rw[o];exact aF6 h g b e)
  |some a=>
   obtain⟨r',q,v⟩:=aF3 h u g (i:=i) (by omega) b e (PT h (λk=>by exact(k g).elim) b.w e);exact⟨en,_,r',q,ax8 h hi p (by rw[o];exact v) (f q)⟩
 by_cases j:l[i]=1∨l[i]=2
 .exact d (aI2 h g b (by rw[zA (show¬c.mode=2 by omega)];cases(yz c en s).isNone<;>rfl) o j)
 .exact⟨en,s,r,b.up h,bc6 h g e0 hi p b o j (f b)⟩
theorem au7 (v:bn c.T)(q:c.mode=3)(e0:Pl c)(p:l.length<=120)(b:BE1 c 0 Zb s r):
  ∃z,am (dy l) cj (LP c 0 Zb s r)=O (.inr z):=by
 obtain⟨y,j,z,k⟩:=qR (f:=dy l) (a:=LP c 0 Zb s r) (λa=> ∃i en s r,a=LP c i en s r/\i<=l.length/\BE1 c i en s r) (λa=>((l.length:Int)-a.1).toNat) (λy=> ∃z,y= .inr z) ⟨0,Zb,s,r,rfl,bB _,b⟩ (by show((l.length:Int)-((0:Nat):Int)).toNat<_;omega) (λa o=>by
  obtain⟨i,en,s,r,rfl,hi,b⟩:=o;by_cases d:i<l.length
  .left;obtain⟨en',s',u,g,e⟩:=bd0 h v q e0 p d b;exact⟨_,e,⟨i+1,en',s',u,rfl,d,g⟩,by show((l.length:Int)-((i+1:Nat):Int)).toNat<((l.length:Int)-(i:Int)).toNat;omega⟩
  .right;refine⟨.inr ?_, ?_,_,rfl⟩
   rotate_left
   .unfold LP;simp only[dy]
    rw[Ze,zD])
 exact⟨z,by rw[j,k]⟩
theorem bd1 (v:bn c.T)(o:c.mode=1)(g:1<=c.ns)(e0:Pl c)(q:l.length<=120)(hi:i<l.length)(b:BE2 c i en s r):
  ∃en' s' r',BE2 c (i+1) en' s' r'/\dz l (LQ c i en s r)=O (.inl (LQ c (i+1) en' s' r')):=by
 have f: ∀{i en s r},BE2 c i en s r->Vf c r en s:=λb=>WH h v o g e0 _ b.w (Pu h (by omega) g _ b.w b.H b.S) b.H b.S
 have d:C2 c r en s l[i] r en s->∃en' s' r',BE2 c (i+1) en' s' r'/\dz l (LQ c i en s r)=O (.inl (LQ c (i+1) en' s' r')):=λz=>⟨en,s,r,b.up h,ax9 h hi q z (f b)⟩
 by_cases p:l[i]=0
 .cases e:yz c en s with
  |none=>exact d (by rw[p];exact aF7 h o g b e)
  |some a=>
   obtain⟨r',u,y⟩:=aF4 h v o g (i:=i) (by omega) b e (PT h (λk=>by omega) b.w e);exact⟨en,_,r',u,ax9 h hi q (by rw[p];exact y) (f u)⟩
 by_cases j:l[i]=1∨l[i]=2
 .exact d (aI3 h o g b (by rw[zA (show¬c.mode=2 by omega)];cases(yz c en s).isNone<;>rfl) p j)
 .exact⟨en,s,r,b.up h,bc7 h o g e0 hi q b p j (f b)⟩
theorem au8 (w:bn c.T)(q:c.mode=1)(u:1<=c.ns)(e0:Pl c)(p:l.length<=120)(b:BE2 c 0 Zb s r):
  ∃z,am (dz l) cj (LQ c 0 Zb s r)=O (.inr z):=by
 obtain⟨y,j,z,k⟩:=qR (f:=dz l) (a:=LQ c 0 Zb s r) (λa=> ∃i en s r,a=LQ c i en s r/\i<=l.length/\BE2 c i en s r) (λa=>((l.length:Int)-a.1).toNat) (λy=> ∃z,y= .inr z) ⟨0,Zb,s,r,rfl,bB _,b⟩ (by show((l.length:Int)-((0:Nat):Int)).toNat<_;omega) (λa o=>by
  obtain⟨i,en,s,r,rfl,hi,b⟩:=o;by_cases d:i<l.length
  .left;obtain⟨en',s',v,g,e⟩:=bd1 h w q u e0 p d b;exact⟨_,e,⟨i+1,en',s',v,rfl,d,g⟩,by show((l.length:Int)-((i+1:Nat):Int)).toNat<((l.length:Int)-(i:Int)).toNat;omega⟩
  .right;refine⟨.inr ?_, ?_,_,rfl⟩
   rotate_left
   .unfold LQ;simp only[dz]
    rw[Ze,zD])
 exact⟨z,by rw[j,k]⟩
theorem bd2 (z:bn c.T)(o:c.mode=2)(j:1<=c.ns)(e0:Pl c)(u:l.length<=120)(hi:i<l.length)(b:BE2 c i en s r):
  ∃en' s' r',BE2 c (i+1) en' s' r'/\ec l (LR c i en s r)=O (.inl (LR c (i+1) en' s' r')):=by
 have d: ∀{i en s r},BE2 c i en s r->Vg c r en s:=λb=>WI h z o j e0 _ b.w (Pu h (by omega) j _ b.w b.H b.S) b.H b.S
 have f:C3 c r en s l[i] r en s->∃en' s' r',BE2 c (i+1) en' s' r'/\ec l (LR c i en s r)=O (.inl (LR c (i+1) en' s' r')):=λC=>⟨en,s,r,b.up h,X5 h hi u C (d b)⟩
 by_cases q:l[i]=0
 .cases e:yz c en s with
  |none=>exact f (by rw[q];exact aF8 h o j b e)
  |some a=>
   obtain⟨r',p,v⟩:=aF5 h z o j (i:=i) (by omega) b e (PT h (λk=>by omega) b.w e);exact⟨en,_,r',p,X5 h hi u (by rw[q];exact v) (d p)⟩
 by_cases g:l[i]=1∨l[i]=2
 .cases y:((yz c en s).isNone&&(Zc (c.mode=2)&& !en))with
  |false=>exact f (aI4 h o j b y q g)
  |true=>
   rw[bD,bD]at y;obtain⟨A,E,B⟩:=y;have D:en=Zb:=by cases en with|false=>rfl|true=>cases B
   subst D;obtain⟨en',s',r',p,v⟩:=ba3 h o j (i:=i) (by omega) b (Option.isNone_iff_eq_none.1 A) g;exact⟨en',s',r',p,X5 h hi u v (d p)⟩
 .exact⟨en,s,r,b.up h,bc8 h o j e0 hi u b q g (d b)⟩
theorem au9 (w:bn c.T)(q:c.mode=2)(u:1<=c.ns)(e0:Pl c)(p:l.length<=120)(b:BE2 c 0 Zb s r):
  ∃z,am (ec l) cj (LR c 0 Zb s r)=O (.inr z):=by
 obtain⟨y,j,z,k⟩:=qR (f:=ec l) (a:=LR c 0 Zb s r) (λa=> ∃i en s r,a=LR c i en s r/\i<=l.length/\BE2 c i en s r) (λa=>((l.length:Int)-a.1).toNat) (λy=> ∃z,y= .inr z) ⟨0,Zb,s,r,rfl,bB _,b⟩ (by show((l.length:Int)-((0:Nat):Int)).toNat<_;omega) (λa o=>by
  obtain⟨i,en,s,r,rfl,hi,b⟩:=o;by_cases d:i<l.length
  .left;obtain⟨en',s',v,g,e⟩:=bd2 h w q u e0 p d b;exact⟨_,e,⟨i+1,en',s',v,rfl,d,g⟩,by show((l.length:Int)-((i+1:Nat):Int)).toNat<((l.length:Int)-(i:Int)).toNat;omega⟩
  .right;refine⟨.inr ?_, ?_,_,rfl⟩
   rotate_left
   .unfold LR;simp only[ec]
    rw[Ze,zD])
 exact⟨z,by rw[j,k]⟩
end
section
variable {a0:Int} {a1 a2:Zd} {a3:Int} {a4:List bu} {a5:Int} {a6:List bu} {a7 a8:Int}
theorem VP {a9:Zd}(J:bn a1)(j:bn a2)(X: ∀o∈a4,Uq o)(Z: ∀o∈a6,Uq o):uO a0 a1 a2 a3 a4 a5 a6 a7 a8 a9=O Za:=by
 unfold uO;rcases aN5 (a0:=a0) (a1:=a1) (a2:=a2) (a3:=a3) (a5:=a5) (a7:=a7) (a8:=a8) X Z with B|⟨B,C,D,x1,x2⟩
 .rw[B];refine bv (a:=Za) rfl ?_;rw[zC];exact bv Mv rfl
 rw[B];refine bv (a:=Zc ((120:Int)<((a9.length:Nat):Int))) rfl ?_;by_cases I:(120:Int)<((a9.length:Nat):Int)
 .rw[zB I,zC];exact bv Mv rfl
 rw[zA I,zD];generalize y:oX a0 a1.length a2.length a3 a4 a5 a6 a7 a8=pl;by_cases u:pl.2.2.2.2≠0
 .subst y;refine bv (a:= .inl (oX a0 a1.length a2.length a3 a4 a5 a6 a7 a8).2.2.2.2) ?_ ?_
  .unfold mK;refine bv (aF0 C D u) ?_;rw[ej,zB u,zC]
  rw[ej];unfold pD;refine bv (bv (aj9 C D u) rfl) ?_;generalize (oX a0 a1.length a2.length a3 a4 a5 a6 a7 a8).2.2.2.2=e at u;show cond (Zc (e≠0)) (cond (Zc (e=e)) _ _) _=_;rw[zB u,zC,zB rfl,zC];exact bv Mv rfl
 subst y;obtain⟨c,d,K,L,M,N,Q,T,U,V,W,g⟩:=bz8 C D (Decidable.not_not.1 u);subst K L M N Q T U V W;have hmm:=d.num.mode;by_cases f:c.mode=3
 .obtain⟨E,F⟩:=aw0 d j J f;have v:Ul c=new1 c:=by unfold Ul;rw[zE f]
  have b:BE1 c 0 Zb (new1 c) (av9 c):=⟨v▸SB d,v▸ay7,E,F,rfl⟩;obtain⟨z,A⟩:=au7 d j f g (l:=a9) (by omega) b;refine bv (bj3 d f g) ?_;simp only[bg,ej];unfold pD;refine bv (bv (Yn d f g) rfl) ?_;show cond (Zc ((0:Int)≠0)) _ _=_;rw[zA (by simp),zD];refine(congrArg (λt=>aB t _) (WG d j f g Zb b.w (ar6 d f _ b.H) b.H b.S)).trans ?_;simp only[zG,aD,zD];refine(congrArg (λt=>aB t _) A).trans ?_;simp only[zG,bg];rw[Mv];rfl
 have q:=bb9 d f g;obtain⟨E,F⟩:=aw1 d j J f;have v:Ul c=new2 c:=by unfold Ul;rw[zF f]
 have b:BE2 c 0 Zb (new2 c) (PX c):=⟨v▸SB d,v▸ay7,E,F,λk=>by have:=bb6 d k;show c.len<=_;omega⟩;by_cases p:c.mode=1
 .obtain⟨z,A⟩:=au8 d j p q g (l:=a9) (by omega) b;refine bv (bj4 d p g) ?_;simp only[bg,ej];unfold pD;refine bv (bv (Qg d f g) rfl) ?_;show cond (Zc ((0:Int)≠0)) _ _=_;rw[zA (by simp),zD];refine(congrArg (λt=>aB t _) (WH d j p q g Zb b.w (Pu d f q _ b.w b.H b.S) b.H b.S)).trans ?_;simp only[zG,aD,zD];refine(congrArg (λt=>aB t _) A).trans ?_;simp only[zG,bg];rw[Mv];rfl
 have p:c.mode=2:=by omega
 obtain⟨z,A⟩:=au9 d j p q g (l:=a9) (by omega) b;refine bv (bj5 d p g) ?_;simp only[bg,ej];unfold pD;refine bv (bv (Qg d f g) rfl) ?_;show cond (Zc ((0:Int)≠0)) _ _=_;rw[zA (by simp),zD];refine(congrArg (λt=>aB t _) (WI d j p q g Zb b.w (Pu d f q _ b.w b.H b.S) b.H b.S)).trans ?_;simp only[zG,aD,zD];refine(congrArg (λt=>aB t _) A).trans ?_;simp only[zG,bg];rw[Mv];rfl
end
end
end Go.V
