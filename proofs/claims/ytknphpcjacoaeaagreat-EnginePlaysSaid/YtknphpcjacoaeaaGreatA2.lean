/- A part of the proof. No condition. -/
import Derived.Test.YtknphpcjacoaeaaGreatA1
import Derived.Laws.BytesString
import Derived.Laws.RangeAny
import Derived.Laws.IdiomStrings
import Derived.Laws.Cover4
import Derived.Lib.OthersKept
set_option linter.unusedVariables false
set_option linter.unusedSimpArgs false
set_option linter.unusedSectionVars false
namespace Go.Ab
open Option renaming some->O,none->Y
open Bool renaming true->Za,false->Zb
open Decidable renaming decide->Zc
variable {x y:Operand}{c:Call}{e e':cm}{ao op:AOp}{lo:Option Operand}{f:FuncId}{args:List Operand}{Z:Hp}
section
open List renaming getElem?_eq_none -> bB, length_cons -> bD
open Result renaming andThen_ok -> aB
open Sem renaming run_bind -> aD
open Go.RowKit
section
variable {P:Program} {o:Oper} {a:Act} {w:World} {B:Base P} {N:Nat} {μ:Mu} {e:cm} {Z Z':Hp} {v:Value}
theorem LN (b:Nat): ∀(vs:List Value) (k:Nat) (cells:Array Value),b+k+vs.length<=cells.size->
  ((vs.zipIdx k).foldl (λcs (p:Value×Nat)=>cs.setIfInBounds (b+p.2) p.1) cells).toList=cells.toList.take (b+k)++vs++cells.toList.drop (b+k+vs.length)
 |[],k,cells,_=>by simp
 |v::vs,k,cells,h=>by
  simp only[bD]at h;rw[List.zipIdx_cons,List.foldl_cons,LN b vs (k+1) _ (by simp;omega)];have d:b+k<cells.toList.length:=by simp;omega
  simp only[Array.toList_setIfInBounds,bD];rw[List.take_set,List.drop_set_of_lt (by omega)];rw[show b+(k+1)=b+k+1 from by omega,List.take_add_one,show b+k+1+vs.length=b+k+(vs.length+1)from by omega]
  have g:(cells.toList.take (b+k)++(cells.toList[b+k]?).toList).set (b+k) v=cells.toList.take (b+k)++[v]:=by
   rw[List.getElem?_eq_getElem d];rw[List.set_append_right _ _ (by simp;omega)];have:b+k-(List.take (b+k) cells.toList).length=0:=by rw[List.length_take];omega
   rw[this];simp
  rw[g];simp
theorem Yz (b:Nat)(vs:Array Value)(cells:Array Value)(h:b+vs.size<=cells.size):
  (vs.zipIdx.foldl (λcs (c,j)=>cs.setIfInBounds (b+j) c) cells).toList=cells.toList.take b++vs.toList++cells.toList.drop (b+vs.size):=by
 have:=LN b vs.toList 0 cells (by simpa using h);rw[<-Array.foldl_toList,Array.toList_zipIdx];simpa using this
theorem B1 {g:Nat->Option (Nat×Nat)}(u:ig μ N e a.tmps): ∀(d:List (Nat×Operand)) (b:List (Nat×Nat×Operand)) (z:List Value) (p:Array Value) (cs:List Value),zW g d=O b->
  Io z (b.map λ(o,s,x)=>(o,s,e.ev x))=O cs->F2 (VR μ) z p.toList->∃h,Instr.fill g p (d.map λ(i,x)=>(i,a.eval x))=O h/\F2 (VR μ) cs h.toList
 |[],b,z,p,cs,k,m,q=>by
  simp[zW]at k;subst k;simp[Io]at m;subst m;exact⟨p,rfl,q⟩
 |(i,x)::r,b,z,p,cs,k,m,q=>by
  simp only[zW]at k;split at k
  .rename_i t n M L C D E;injection k with k
   subst k;obtain⟨rfl,J⟩:=au D;simp only[List.map_cons,Io]at m;split at m
   .rename_i I;have A:=(u.ev J).cells;have l:(a.eval x).cells.size=n:=by rw[<-I.1,A.length];simp
    have K:z.length=p.size:=by simpa using q.length
    obtain⟨h,F,H⟩:=B1 u r L _ ((a.eval x).cells.zipIdx.foldl (λcs (c,j)=>cs.setIfInBounds (t+j) c) p) cs E m (by
     rw[Yz _ _ _ (by omega),l]
     exact((q.take _).append A).append (q.drop _))
    refine⟨h, ?_,H⟩;simp only[List.map_cons,Instr.fill,C,l];rw[zF (by simp;omega)];exact F
   .cases m
  .cases k
theorem WE {α β:Type}(P:Program)(w:World)(f:α->Sem β)(g:α->β): ∀(l:List α),(∀x∈l,(f x).run P w= .ok (g x) w)->(l.mapM f).run P w= .ok (l.map g) w
 |[],_=>by simp
 |x::l,h=>by
  have:=WE P w f g l (λy b=>h y (by simp[b]));simp[List.mapM_cons,h x (by simp),this]
theorem N5 {t:TypeId}{b:Array (Nat×Operand)}{d:Array Field}{z:List Value}{q:List (Nat×Nat×Operand)}(K:o.op= .build t b)(M:P.underlying t=O (.struct d))(Q:tX P t=O z)
  (g:(d.toList.all λf=>(ph P f.type).isSome)=Za) (L:zW (LA P d) b.toList=O q) (j:(AOp.build z q).run e Z=O (v,Z')) (F:ig μ N e a.tmps) (E:R B μ Z w):oV P o a w B μ v Z':=by
 obtain⟨S,u,r,A⟩:=rj Q;simp only[AOp.run]at j;obtain⟨s,H,j⟩:=Option.map_eq_some_iff.1 j;simp only[Prod.mk.injEq]at j;obtain⟨rfl,rfl⟩:=j;obtain⟨l,C,D⟩:=B1 F b.toList q z S.cells s L H (r▸VR.plainCells (r▸A))
 have J:(d.mapM λf=>(do pure (f.offset,<-sizeOf f.type):Sem (Nat×Nat))).run P w= .ok (d.map λf=>(f.offset,(ph P f.type).getD 0)) w:=by
  rw[Array.mapM_eq_mapM_toList]
  have:=WE P w (λf:Field=>(do pure (f.offset,<-sizeOf f.type):Sem (Nat×Nat))) (λf=>(f.offset,(ph P f.type).getD 0)) d.toList (λf m=>by
   have:=List.all_eq_true.1 g f m;obtain⟨n,k⟩:=Option.isSome_iff_exists.1 this
   simp[qf k,k])
  simp only[Sem.run_map,this,aB];rw[<-Array.toList_map]
 have p:(λi=>(d.map λf=>(f.offset,(ph P f.type).getD 0))[i]?)=LA P d:=by
  funext i
  unfold LA;rw[Array.getElem?_map];cases I:d[i]? with
  |none=>rfl
  |some f=>
   have h:f∈d.toList:=by
    have:=Array.mem_of_getElem? I;simpa using this
   obtain⟨n,k⟩:=Option.isSome_iff_exists.1 (List.all_eq_true.1 g f h);simp[k]
 refine .same E (v':= .agg l) ?_ (.agg (by simpa using D));simp only[execOp,K,Instr.build,aD,u,aB,fg M,J,p];rw[Array.toList_map];simp only[C];rfl
theorem P0 {t d:TypeId}{m n:Nat}{b:Array (Nat×Operand)}{z:List Value}{j:List (Nat×Nat×Operand)}(E:o.op= .build t b)(H:P.underlying t=O (.array m d))(D:ph P d=O n)(I:tX P t=O z)
  (F:zW (λi=>O (i*n,n)) b.toList=O j) (g:(AOp.build z j).run e Z=O (v,Z')) (A:ig μ N e a.tmps) (u:R B μ Z w):oV P o a w B μ v Z':=by
 obtain⟨J,p,k,q⟩:=rj I;simp only[AOp.run]at g;obtain⟨l,C,g⟩:=Option.map_eq_some_iff.1 g;simp only[Prod.mk.injEq]at g;obtain⟨rfl,rfl⟩:=g;obtain⟨h,r,s⟩:=B1 A b.toList j z J.cells l F C (k▸VR.plainCells (k▸q));refine .same u (v':= .agg h) ?_ (.agg (by simpa using s));simp only[execOp,E,Instr.build,aD,p,aB,fg H,qf D];rw[Array.toList_map];simp only[r];rfl
theorem QD (z:Array Value)(n:Nat)(j:0<z.size):((Array.range (n*z.size)).map (λi=>z[i % z.size]!)).toList=eo z.toList n:=by
 unfold eo;apply List.ext_getElem?;intro i;have b:(List.replicate n z.toList).flatten.length=n*z.size:=by simp
 by_cases g:i<n*z.size
 .have h:((Array.range (n*z.size)).map (λi=>z[i % z.size]!)).toList[i]?=O (z[i % z.size]'(Nat.mod_lt _ j)):=by
   simp[g,Nat.mod_lt _ j]
  rw[h];clear h;induction n generalizing i with
  |zero=>simp at g
  |succ n m=>
   rw[List.replicate_succ,List.flatten_cons];by_cases d:i<z.size
   .rw[List.getElem?_append_left (by simpa using d)];simp[Nat.mod_eq_of_lt d,d]
   .rw[List.getElem?_append_right (by simpa using d)];have k:=m (i-z.size) (by simp) (by rw[Nat.succ_mul]at g;omega);rw[Array.length_toList,<-k];have l:i % z.size=(i-z.size) % z.size:=by rw[Nat.mod_eq_sub_mod (by omega)]
    simp only[l]
 .rw[bB (by simp;omega),bB (by rw[b];omega)]
theorem B9 (z:List Value)(n:Nat):(eo z n).length=n*z.length:=by simp[eo]
theorem IN {z:List Value}(h:z.all Ce=Za)(n:Nat):(eo z n).all Ce=Za:=by
 unfold eo;rw[List.all_eq_true]at*;intro x b;simp only[List.mem_flatten,List.mem_replicate]at b;obtain⟨l,⟨_,rfl⟩,b⟩:=b;exact h x b
theorem Ro {t d:TypeId}{b n:Nat}{g:Array (Nat×Operand)}{z:List Value}{k:List (Nat×Nat×Operand)}(ho:o.op= .buildSlice t b g)(hu:P.underlying t=O (.slice d))(hn:ph P d=O n)(hz:tX P d=O z)
  (Q:b*n<=16777216) (A:z.length=n) (h0:0<n)
  (hp:zW (λi=>O (i*n,n)) g.toList=O k) (q:(AOp.buildSlice n b z k).run e Z=O (v,Z')) (he:ig μ N e a.tmps) (X:R B μ Z w):oV P o a w B μ v Z':=by
 obtain⟨r,V,J,W⟩:=rj hz;simp only[AOp.run]at q;split at q
 .rename_i E M;split at q
  .simp only[Option.some.injEq,Prod.mk.injEq]at q;obtain⟨rfl,rfl⟩:=q;have H:r.cells.size=n:=by rw[<-A,<-J];simp[cellsOf]
   have F:r.cells.toList=z:=J
   have j: ∀C:Array Value,(b*n=0->C= #[])->(b*n≠0->C=r.cells)->((Array.range (b*n)).map (λi=>C[i % C.size]!)).toList=eo z b:=by
    intro C S U;by_cases m:b*n=0
    .have:b=0:=by
      rcases Nat.mul_eq_zero.1 m with h|h
      .exact h
      .omega
     subst this;simp[eo]
    .rw[U m,<-H,QD _ _ (by omega),F]
   have I:F2 (VR μ) (eo z b) (eo z b):=VR.plainCells (IN W b);obtain⟨s,K,L⟩:=B1 he g.toList k (eo z b) (eo z b).toArray E hp M (by simpa using I)
   have u:s.size=b*n:=by
    have S:E.length=b*n:=by
     have: ∀(k:List (Nat×Nat×Value)) (x y:List Value),Io x k=O y->y.length=x.length:=by
      intro k;induction k with
      |nil=>intro x y h;simp[Io]at h;rw[h]
      |cons p k ih=>
       obtain⟨p1,p2,p3⟩:=p;intro x y h;simp only[Io]at h;split at h
       .rename_i D;rw[ih _ _ h];simp;omega
       .cases h
     rw[this _ _ _ M,B9,A]
    have:=L.length;simp at this;omega
   refine .new X s d E n (.slice (O ⟨w.heap.size,0,Y⟩) b b) L ?_ (λh=>VR.slice (o:=0) h (Nat.le_refl _) (Nat.le_refl _) (by simp[u]));simp only[execOp,ho,Instr.buildSlice,aD,fg hu,aB,qf hn];rw[Zh];by_cases m:b*n=0
   .have D:=j #[] (λ_=>rfl) (λh=>absurd m h);have l:(Array.range (b*n)).map (λi=>(#[]:Array Value)[i % (#[]:Array Value).size]!)=(eo z b).toArray:=by rw[<-D]
    rw[zE m];simp only[aD,Sem.run_pure,aB,l];rw[Array.toList_map];simp[K,newRow]
   .have D:=j r.cells (λh=>absurd h m) (λ_=>rfl);have l:(Array.range (b*n)).map (λi=>r.cells[i % r.cells.size]!)=(eo z b).toArray:=by rw[<-D]
    rw[zF m];simp only[V,aD,Sem.run_pure,aB,l];rw[Array.toList_map];simp[K,newRow]
  .cases q
 .cases q
end
end
section
open Bool renaming or_eq_true -> fB
open Builtin renaming len_ -> dB
open Nat renaming le_refl -> aB, add_assoc -> dD, add_mul -> eD
open Option renaming map_some -> cB, map_none -> cD
open Result renaming andThen_ok -> aD
open Sem renaming run_bind -> bB, run_pure -> bD
open Go.RowKit
section
variable {P:Program} {o:Oper} {a:Act} {w:World} {B:Base P} {N:Nat} {μ:Mu} {e:cm} {Z Z':Hp} {v:Value}
theorem VR.nils_inv {n c:Nat}{v':Value}(h:VR μ (.slice Y n c) v'):v'= .slice Y 0 0/\n=0/\c=0:=by cases h;exact⟨rfl,rfl,rfl⟩
theorem aa0 {x b:Value}{n:Nat}(h:JH x=O n)(d:VR μ x b):JH b=O n:=by
 cases d<;>simp_all [JH]
theorem lf {b:Builtin}(g:o.op= .call c)(d:c.callee= .builtin b)(w:World):
  ∃cs,(execOp a.eval o).run P w=(builtin b c.argTypes o.type cs (c.args.map a.eval)).run P w:=by
 refine⟨c.args.map λ| .const _=>Za|_=>Zb, ?_⟩;simp only[execOp,g,resolve,d,invoke,bB,bD,aD];rfl
theorem ap5 {α:Type}{c:Array α}{x:α}(h:c.toList=[x]):c= #[x]:=by rw[<-Array.toList_inj];simpa using h
theorem O8 {α:Type}{c:Array α}{x y:α}(h:c.toList=[x,y]):c= #[x,y]:=by rw[<-Array.toList_inj];simpa using h
theorem K8 {α:Type}{c:Array α}{x:α}{r:List α}(h:c.toList=x::r):c[0]?=O x:=by rw[<-Array.getElem?_toList,h];rfl
theorem bc4 {t u:TypeId}{ts:List TypeId}(q:o.op= .call c)(l:c.callee= .builtin .len)(k:c.args.toList=[x])(s:c.argTypes.toList=t::ts)(z:P.underlying t=O (.slice u))
  (A:di x=Za) (d:(AOp.len x).run e Z=O (v,Z')) (m:ig μ N e a.tmps) (j:R B μ Z w):oV P o a w B μ v Z':=by
 have h:=m.ev A;simp only[AOp.run]at d;split at d
 .rename_i p n D r;simp only[Option.some.injEq,Prod.mk.injEq]at d;obtain⟨rfl,rfl⟩:=d;rw[r]at h
  have: ∃i b,a.eval x= .slice i n b:=by
   generalize a.eval x=y at h;cases h<;>exact⟨_,_,rfl⟩
  obtain⟨i,b,C⟩:=this;obtain⟨E,g⟩:=lf (P:=P) (a:=a) q l w;refine .same j ?_ (.int .i64 n);simp[g,builtin,dB,ap5 k,K8 s,C,fg z,goInt]
 .cases d
theorem aL0 {t u:TypeId}(l:o.op= .call c)(j:c.callee= .builtin .cap)(i:c.args.toList=[x])(p:c.argTypes.toList=[t])(q:P.underlying t=O (.slice u))
  (r:di x=Za) (b:(AOp.capN x).run e Z=O (v,Z')) (k:ig μ N e a.tmps) (g:R B μ Z w):oV P o a w B μ v Z':=by
 have h:=k.ev r;simp only[AOp.run]at b;split at b
 .rename_i m;simp only[Option.some.injEq,Prod.mk.injEq]at b;obtain⟨rfl,rfl⟩:=b;rw[m]at h;obtain⟨n,_,_⟩:=h.nils_inv;obtain⟨s,d⟩:=lf (P:=P) (a:=a) l j w;refine .same g ?_ (.int .i64 0);simp[d,builtin,Builtin.cap_,ap5 i,ap5 p,n,fg q,goInt]
 .cases b
theorem ab0 {t:TypeId}{ts:List TypeId}{m:Nat}(n:o.op= .call c)(l:c.callee= .builtin .len)(h:c.args.toList=[x])(j:c.argTypes.toList=t::ts)
  (d:(∃u,P.underlying t=O (.array m u))∨∃p u,P.underlying t=O (.pointer p)/\P.underlying p=O (.array m u))
  (i:(AOp.lenC m).run e Z=O (v,Z')) (k:R B μ Z w):oV P o a w B μ v Z':=by
 simp only[AOp.run,Option.some.injEq,Prod.mk.injEq]at i;obtain⟨rfl,rfl⟩:=i;obtain⟨r,b⟩:=lf (P:=P) (a:=a) n l w;refine .same k ?_ (.int .i64 m);rcases d with⟨u,d⟩|⟨p,u,d,q⟩
 .cases g:a.eval x<;>simp[b,builtin,dB,ap5 h,K8 j,fg d,goInt,g]
 .cases g:a.eval x<;>simp[b,builtin,dB,ap5 h,K8 j,fg d,fg q,goInt,g]
theorem aL5 (s:o.op= .call c)(r:c.callee= .builtin .max)(n:c.args.toList=[x,y])(t:di x=Za)(u:di y=Za)(b:(AOp.most x y).run e Z=O (v,Z'))(g:ig μ N e a.tmps)(m:R B μ Z w):oV P o a w B μ v Z':=by
 simp only[AOp.run]at b;obtain⟨z,i,b⟩:=Option.map_eq_some_iff.1 b;simp only[Prod.mk.injEq]at b;obtain⟨rfl,rfl⟩:=b;have h:=g.ev t;have l:=g.ev u;generalize e.ev x=p at*;generalize e.ev y=q at*;cases p<;>cases q<;>simp[YF]at i;subst i;have j:=h.int_inv;have k:=l.int_inv;obtain⟨A,d⟩:=lf (P:=P) (a:=a) s r w;exact .same m (by simp[d,builtin,Builtin.max_,O8 n,j,k,Builtin.max2]) (.int _ _)
theorem ax2 (s:o.op= .call c)(r:c.callee= .builtin .min)(n:c.args.toList=[x,y])(t:di x=Za)(u:di y=Za)(b:(AOp.least x y).run e Z=O (v,Z'))(g:ig μ N e a.tmps)(m:R B μ Z w):oV P o a w B μ v Z':=by
 simp only[AOp.run]at b;obtain⟨z,i,b⟩:=Option.map_eq_some_iff.1 b;simp only[Prod.mk.injEq]at b;obtain⟨rfl,rfl⟩:=b;have h:=g.ev t;have l:=g.ev u;generalize e.ev x=p at*;generalize e.ev y=q at*;cases p<;>cases q<;>simp[UM]at i;subst i;have j:=h.int_inv;have k:=l.int_inv;obtain⟨A,d⟩:=lf (P:=P) (a:=a) s r w;exact .same m (by simp[d,builtin,Builtin.min_,O8 n,j,k,Builtin.min2]) (.int _ _)
theorem Vr {y d:Nat}{x:Option Operand}{n:Nat}(p: ∀u,x=O u->di u=Za)(h:tj y d (x.map e.ev)=O n)(l:ig μ N e a.tmps):
  match x with
  |none=>n=d
  |some u=> ∃k i,a.eval u= .int k i/\0<=i/\i<=y/\n=i.toNat:=by
 cases x with
 |none=>simp[tj]at h;exact h.symm
 |some u=>
  have j:=l.ev (p u rfl);simp only[cB]at h;unfold tj at h;split at h
  .rename_i k i g;simp only[Option.some.injEq]at g;split at h
   .rename_i b;rw[g]at j;exact⟨k,i,j.int_inv,b.1,b.2,by simpa using h.symm⟩
   .cases h
  .cases h
  .rename_i m;cases m
theorem RB {s:Bool}{F g b:Nat}{j:Option Operand}{h l:Nat}(t: ∀u,lo=O u->di u=Za)(r: ∀u,j=O u->di u=Za)
  (H:tj g F (j.map e.ev)=O h) (I:tj h 0 (lo.map e.ev)=O l) (D:g<=b) (E:ig μ N e a.tmps) (w:World):
  (Instr.sliceBounds s F b (lo.map a.eval) (j.map a.eval) Y).run P w= .ok (l,h,b) w:=by
 have m:=Vr r H E;have d:=Vr t I E;unfold Instr.sliceBounds;cases j with
 |none=>
  simp only at m;subst m;cases lo with
  |none=>simp only at d;subst d;simp
  |some u=>
   obtain⟨k,i,n,p,q,rfl⟩:=d;simp[n,Instr.sliceBound,asIntOf,p,q]
 |some M=>
  obtain⟨L,J,z,A,K,rfl⟩:=m;have C:J<=(b:Int):=by omega
  cases lo with
  |none=>simp only at d;subst d;simp[z,Instr.sliceBound,asIntOf,A,C]
  |some u=>
   obtain⟨k,i,n,p,q,rfl⟩:=d;simp only[cB,n,z,Instr.sliceBound,asIntOf,bB,bD,aD];rw[zE ⟨A,C⟩];simp only[bD,aD];rw[zE ⟨p,q⟩];rfl
theorem Ph {y d n:Nat}{x:Option Value}(h:tj y d x=O n):n<=y∨(x=Y/\n=d):=by
 unfold tj at h;split at h
 .split at h
  .rename_i b;simp at h;left;omega
  .cases h
 .cases h
 .right;exact⟨rfl,by simpa using h.symm⟩
theorem Ca {i b:Nat}{m:Option Operand}{h l:Nat}(n:i<=b)(k:tj b i (m.map e.ev)=O h)(g:tj h 0 (lo.map e.ev)=O l):l<=h/\h<=b:=by
 rcases Ph k with j|⟨_,j⟩
 .rcases Ph g with d|⟨_,d⟩<;>omega
 .rcases Ph g with d|⟨_,d⟩<;>omega
theorem ax4 {t d:TypeId}{n:Nat}{V:Option Operand}(ho:o.op= .slice t x lo V Y)(hu:P.underlying t=O (.slice d))(hn:ph P d=O n)(hx:di x=Za)(X: ∀u,lo=O u->di u=Za)(U: ∀u,V=O u->di u=Za)
  (m:(AOp.slice n x lo V).run e Z=O (v,Z')) (he:ig μ N e a.tmps) (H:R B μ Z w):oV P o a w B μ v Z':=by
 have Q:=he.ev hx;simp only[AOp.run]at m;split at m
 .rename_i p M E hp;split at m
  .rename_i hcut;split at m
   .rename_i h K;split at m
    .rename_i l C;simp only[Option.some.injEq,Prod.mk.injEq]at m;obtain⟨rfl,rfl⟩:=m;rw[hp]at Q
     have r: ∀(S:Option Addr) (i:Nat),a.eval x= .slice S M i->E<=i->
       (execOp a.eval o).run P w= .ok (.value (.slice (if i=l then S else S.map (·.add (l*n))) (h-l) (i-l))) w:=by
      intro S i hy W;have hb:=RB (P:=P) (s:=Za) X U K C W he w;simp only[execOp,ho,Instr.sliceAt,bB,fg hu,aD,Instr.slice,hy,cD,hb,qf hn,bD]
     cases p with
     |none=>
      obtain⟨L,rfl,rfl⟩:=Q.nils_inv;have:=Ca (aB _) K C;refine .same H (r _ _ L (aB _)) ?_;have z:h=0:=by omega
      subst z;simp only[cD,ite_self];rw[show(0:Nat)-l=0 from by omega];exact .nils
     |some A=>
      generalize L:a.eval x=q at Q;cases Q with
      |slice j h2 h3 J=>
       rename_i b off i g;obtain⟨k1,k2⟩:=Ca h2 K C;refine .same H (r _ _ L h3) ?_;by_cases I:i=l
       .rw[zE I,I];rw[show l-l=0 from by omega,show E-l=0 from by omega,show h-l=0 from by omega];exact .slice0 _ j
       .rw[zF I];simp only[cB,Rw,vq];rw[dD];refine .slice j (by omega) (by omega) ?_;cases lo with
        |none=>
         have:l=0:=by simpa[tj]using C.symm
         subst this;simpa using J
        |some u=>
         rw[fB]at hcut;rcases hcut with hcut|hcut
         .have:E=0:=by simpa using hcut
          have:l=0:=by omega
          subst this;simpa using J
         unfold EG at hcut;simp only at hcut;split at hcut
         .rename_i D k;have z:=(H.get k j.1).es;have F:D.es=n:=by simpa using hcut
          rw[z,F]at J⊢;have:l*n+(i-l)*n=i*n:=by rw[<-eD];congr 1;omega
          omega
         .cases hcut
      |slice0 A' j=>
       obtain⟨k1,k2⟩:=Ca (aB _) K C;refine .same H (r _ _ L (aB _)) ?_;have z:l=0:=by omega
       have F:h=0:=by omega
       subst z F;simp only[cB,if_true];exact .slice0 _ j
      |sliceX j J=>
       rename_i b off g;obtain⟨k1,k2⟩:=Ca (aB _) K C;refine .same H (r _ _ L (aB _)) ?_;by_cases I:M=l
       .rw[zE I,I];rw[show l-l=0 from by omega,show h-l=0 from by omega];exact .slice0 _ j
       .rw[zF I];simp only[cB,Rw,vq];rw[dD];refine .slice j (by omega) (by omega) ?_;cases lo with
        |none=>
         have:l=0:=by simpa[tj]using C.symm
         subst this;simpa using J
        |some u=>
         rw[fB]at hcut;rcases hcut with hcut|hcut
         .have:M=0:=by simpa using hcut
          omega
         unfold EG at hcut;simp only at hcut;split at hcut
         .rename_i D k;have z:=(H.get k j.1).es;have F:D.es=n:=by simpa using hcut
          rw[z,F]at J⊢;have:l*n+(M-l)*n=M*n:=by rw[<-eD];congr 1;omega
          omega
         .cases hcut
      |sliceX0 A' j=>
       obtain⟨k1,k2⟩:=Ca (aB _) K C;refine .same H (r _ _ L (aB _)) ?_;have z:l=0:=by omega
       have F:h=0:=by omega
       subst z F;simp only[cB,if_true];exact .slice0 _ j
    .cases m
   .cases m
  .cases m
 .cases m
theorem ai8 {t d:TypeId}{F K:Operand}(ho:o.op= .slice t x Y (O F) (O K))(hu:P.underlying t=O (.slice d)){n:Nat}(hn:ph P d=O n)(hx:di x=Za)(hhi:di F=Za)(hmx:di K=Za)
  (k:(AOp.sliceX x F K).run e Z=O (v,Z')) (X:ig μ N e a.tmps) (W:R B μ Z w):oV P o a w B μ v Z':=by
 have L:=X.ev hx;have I:=X.ev hhi;have J:=X.ev hmx;simp only[AOp.run]at k;split at k
 .rename_i p ln D hp;split at k
  .rename_i m r;split at k
   .rename_i h l;split at k
    .rename_i heq;subst heq
     have hm': ∃Q z,e.ev K= .int Q z/\0<=z/\z<=D/\h=z.toNat:=by
      unfold tj at r;split at r
      .rename_i Q z j;injection j with j
       split at r
       .rename_i E;injection r with r
        exact⟨Q,z,j,E.1,E.2,r.symm⟩
       .cases r
      .cases r
      .rename_i j;cases j
     obtain⟨Q,z,q1,q2,q3,q4⟩:=hm'
     have hh': ∃M u,e.ev F= .int M u/\0<=u/\u<=h/\h=u.toNat:=by
      unfold tj at l;split at l
      .rename_i M u j;injection j with j
       split at l
       .rename_i E;injection l with l
        exact⟨M,u,j,E.1,E.2,l.symm⟩
       .cases l
      .cases l
      .rename_i j;cases j
     obtain⟨M,u,r1,r2,r3,r4⟩:=hh';rw[q1]at J;rw[r1]at I;have v1:=J.int_inv;have v2:=I.int_inv;rw[hp]at L
     have C: ∀(S:Option Addr) (i:Nat),a.eval x= .slice S ln i->D<=i->
       (execOp a.eval o).run P w= .ok (.value (.slice S h h)) w:=by
      intro S i hy hle;have e1:u=(h:Int):=by omega
      have e2:z=(h:Int):=by omega
      subst e1 e2;have H:h<=i:=by omega
      have hb:(Instr.sliceBounds Za ln i Y (O (a.eval F)) (O (a.eval K))).run P w= .ok (0,h,h) w:=by
       simp[Instr.sliceBounds,Instr.sliceBound,asIntOf,v1,v2,H]
      simp only[execOp,ho,Instr.sliceAt,bB,fg hu,aD,Instr.slice,hy,cD,cB,hb,qf hn,bD,Nat.zero_mul,Nat.sub_zero]
      congr 3
      split
      .rfl
      .cases S with
       |none=>rfl
       |some A=>simp[Addr.add]
     cases p with
     |none=>
      obtain⟨j,rfl,rfl⟩:=L.nils_inv;simp only[Option.some.injEq,Prod.mk.injEq]at k;obtain⟨rfl,rfl⟩:=k;have U:h=0:=by omega
      refine .same W (C _ _ j (aB _)) ?_;rw[U];exact .nils
     |some A=>
      obtain⟨b,off,s⟩:=A;cases s with
      |some _=>cases k
      |none=>
       simp only[Option.some.injEq,Prod.mk.injEq]at k;obtain⟨rfl,rfl⟩:=k;generalize j:a.eval x=q at L;cases L with
       |slice V h2 h3 h4=>
        rename_i i g;refine .same W (C _ _ j h3) (.sliceX V ?_);have:h*g.es<=i*g.es:=Nat.mul_le_mul_right _ (by omega);omega
       |slice0 A' V=>
        have U:h=0:=by omega
        refine .same W (C _ _ j (aB _)) ?_;rw[U];exact .sliceX0 _ V
    .cases k
   .cases k
  .cases k
 .cases k
theorem Wc {t d:TypeId}{m n:Nat}{r:Option Operand}(Q:o.op= .slice t x lo r Y)(U:P.underlying t=O (.array m d))(M:ph P d=O n)(V:di x=Za)(z: ∀u,lo=O u->di u=Za)(q: ∀u,r=O u->di u=Za)
  (i:(AOp.sliceArr n m x lo r).run e Z=O (v,Z')) (E:ig μ N e a.tmps) (C:R B μ Z w):oV P o a w B μ v Z':=by
 have I:=E.ev V;simp only[AOp.run]at i;split at i
 .rename_i b A S;split at i
  .rename_i J j;split at i
   .rename_i D;split at i
    .rename_i h F;split at i
     .rename_i l H;split at i
      .rename_i L;simp only[Option.some.injEq,Prod.mk.injEq]at i;obtain⟨rfl,rfl⟩:=i;rw[S]at I;obtain⟨g,p,W⟩:=I.ptr_inv;obtain⟨X,k2⟩:=Ca (aB _) F H;have K:=RB (P:=P) (s:=Zb) z q F H (aB _) E w;have k:=C.get j p.1;obtain⟨_,o2,_⟩:=k.own p.2 D.1;refine .same C (v':= .slice (O ⟨g.c,g.o+(A+l*n),Y⟩) (h-l) (m-l)) ?_ (.slice p (by omega) (aB _) ?_)
       .simp only[execOp,Q,Instr.sliceAt,bB,fg U,aD,W,Instr.sureAddr,cD,K,qf M,bD];rw[Zh,vq,dD]
       .rw[k.es,D.2.1];have:l*n+(m-l)*n=m*n:=by rw[<-eD];congr 1;omega
        omega
      .cases i
     .cases i
    .cases i
   .cases i
  .cases i
 .cases i
theorem Ur {t d:TypeId}{n b:Nat}{z:List Value}(X:o.op= .makeSlice t x y)(hu:P.underlying t=O (.slice d))(W:ph P d=O n)(Q:Vs P d=O b)(hz:tX P d=O z)(hx:di x=Za)(hy:di y=Za)
  (r:z.length=n) (h0:0<n) (p:(AOp.makeSlice n b z x y).run e Z=O (v,Z')) (J:ig μ N e a.tmps) (M:R B μ Z w):oV P o a w B μ v Z':=by
 have H:=J.ev hx;have I:=J.ev hy;obtain⟨s,K,F,L⟩:=rj hz;simp only[AOp.run]at p;split at p
 .rename_i k l k' c V S;split at p
  .rename_i j;obtain⟨c1,c2,c3,c4⟩:=j;simp only[Option.some.injEq,Prod.mk.injEq]at p;obtain⟨rfl,rfl⟩:=p;rw[V]at H;rw[S]at I;have v1:=H.int_inv;have v2:=I.int_inv;obtain⟨i,U,C⟩:=Option.map_eq_some_iff.1 Q;have w1:IntKind.i64.wrap l=l:=IntWalk.i64_in _ (by omega);have w2:IntKind.i64.wrap c=c:=IntWalk.i64_in _ (by omega);have E:s.cells.size=n:=by rw[<-r,<-F];simp[cellsOf]
   have D:s.cells.toList=z:=F;have q:(eo z c.toNat).toArray.size=c.toNat*n:=by simp[B9,r]
   refine .new M (eo z c.toNat).toArray d (eo z c.toNat) n (.slice (O ⟨w.heap.size,0,Y⟩) l.toNat c.toNat) ?_ ?_ (λh=>VR.slice (o:=0) h (by omega) (aB _) (by rw[q];simp))
   .simpa using VR.plainCells (IN L _)
   .have ht: ¬((b:Int)*c > 281474976710656):=by omega
    have m: ∀w:World,(typeInfo d).run P w= .ok i w:=λw=>by simp[typeInfo,U]
    simp only[execOp,X,Instr.makeSlice,bB,fg hu,aD,v1,v2,asInt,asIntOf,bD,m,C,w1,w2]
    have t1:(Zc (c<0)||Zc ((b:Int)*c > 2 ^ 48))=Zb:=by
     simp;omega
    have t2:(Zc (l<0))=Zb:=by simp;omega
    have t3:(Zc (l > c))=Zb:=by simp;omega
    simp only[t1,t2,t3,Bool.or_false,Bool.false_eq_true,if_false,bB,run_askRoom,aD,qf W];by_cases g:c.toNat*n=0
    .have u:c.toNat=0:=by
      rcases Nat.mul_eq_zero.1 g with h|h
      .exact h
      .omega
     have:(eo z c.toNat)=[]:=by rw[u];rfl
     rw[zE g,this,g];simp[newRow,show Array.range 0= #[]from rfl]
    .rw[zF g]
     have A:(Array.range (c.toNat*n)).map (λi=>s.cells[i % s.cells.size]!)=(eo z c.toNat).toArray:=by
      rw[<-D,<-QD _ _ (by omega),E]
     simp only[bB,K,bD,aD,A];simp[newRow]
  .cases p
 .cases p
end
end
section
open Bool renaming false_eq_true -> eD
open Builtin renaming firstCells -> aB, zeroCells -> bD, append_ -> iA, lenOf -> iB
open List renaming length_append -> dB, map_cons -> fB, map_nil -> fD, map_toArray -> gB, take_left -> iC, getElem?_drop -> iE, getElem?_take -> iF, append_assoc -> iG, getElem?_eq_getElem -> iH, getElem?_eq_none -> iI
open Nat renaming le_refl -> cB, add_mul -> dD, zero_add -> gD, mul_le_mul_right -> iD
open Result renaming andThen_ok -> aD
open Sem renaming run_bind -> bB, run_pure -> cD
open Go.RowKit
section
variable {P:Program} {o:Oper} {a:Act} {w w':World} {B:Base P} {N:Nat} {μ:Mu} {e:cm} {Z Z':Hp} {v:Value}
theorem P6 {x:Blk}{o:Nat}{cs:List Value}(h:uK x o 0=O cs):cs=[]:=by
 unfold uK at h;split at h
 .simpa using h.symm
 .cases h
theorem J0 {es n t:Nat}{x z:Value}{cs:List Value}(q:JH x=O t)(H:n<=t)(h:Z.slice es x n=O cs)(F:R B μ Z w)(i:VR μ x z):
  ∃arr:Array Value,(∀w':World,w'.heap=w.heap->(aB es n z).run P w'= .ok arr w')/\F2 (VR μ) cs arr.toList:=by
 unfold Hp.slice at h;split at h
 .rename_i b I l c;simp[JH]at q;subst q;split at h
  .rename_i k;injection h with h
   subst h;subst k;rcases i.slice_inv with⟨g,C,p,_,_,_,rfl⟩|⟨rfl,rfl,A',rfl,_⟩
   .exact⟨#[],λ_ _=>by simp[aB,loadCells,loadCellsFrom], .nil⟩
   .exact⟨#[],λ_ _=>by simp[aB,loadCells,loadCellsFrom], .nil⟩
  split at h
  .rename_i A d;rcases i.slice_inv with⟨g,C,p,_,_,_,rfl⟩|⟨rfl,rfl,A',rfl,_⟩
   .obtain⟨j,D,E⟩:=F.reads d p h;exact⟨j.toArray,λw' m=>by simp[aB,D P w' m],E⟩
   .have:n=0:=by omega
    subst this;rw[Nat.zero_mul]at h;rw[P6 h];exact⟨#[],λ_ _=>by simp[aB,loadCells,loadCellsFrom], .nil⟩
  .cases h
 .obtain⟨rfl,_,_⟩:=i.nils_inv;split at h
  .injection h with h
   subst h;exact⟨#[],λ_ _=>by simp[aB], .nil⟩
  .cases h
 .rename_i s;split at h
  case isFalse=>cases h
  injection h with h
  subst h;obtain rfl:=i.string_inv;refine⟨_,λ_ _=>by simp only[aB];rfl, ?_⟩;simp only[Array.toList_map]
  exact F2.same _ λu r=>by
   simp only[List.mem_map]at r;obtain⟨c,_,rfl⟩:=r;exact .int _ _
 .cases h
theorem NJ {x y:Blk}{b:Nat}{vs:List Value}(h:EK x b vs=O y):x.own=Za/\b+vs.length<=x.cells.length/\(∀v∈vs,one v=Za)/\y=⟨oI x.cells b vs,x.own,x.es⟩:=by
 unfold EK at h;split at h
 .rename_i d;injection h with h
  exact⟨d.1,d.2.1,λv g=>List.all_eq_true.1 d.2.2 v g,h.symm⟩
 .cases h
theorem aL2 {t d:TypeId}{ts:List TypeId}{n:Nat}(ho:o.op= .call c)(hc:c.callee= .builtin .copy)(ha:c.args.toList=[x,y])(ht:c.argTypes.toList=t::ts)(hu:P.underlying t=O (.slice d))(hn:ph P d=O n)
  (hx:di x=Za) (hy:di y=Za) (i:(AOp.copy n x y).run e Z=O (v,Z')) (X:ig μ N e a.tmps) (L:R B μ Z w):oV P o a w B μ v Z':=by
 have m:=X.ev hx;have F:=X.ev hy;obtain⟨cst,E⟩:=lf (P:=P) (a:=a) ho hc w;simp only[AOp.run]at i;split at i
 .rename_i p s dc hp;rw[hp]at m
  have Q: ∃z l,a.eval x= .slice z s l:=by
   generalize a.eval x=q at m;cases m<;>exact⟨_,_,rfl⟩
  obtain⟨z,l,hq⟩:=Q;split at i
  .rename_i H D;have u:=aa0 D F
   have M:(iB (a.eval y)).run P w= .ok H w:=by
    generalize a.eval y=q at*;cases q<;>simp[JH]at u<;>simp[iB,u]
   split at i
   .rename_i U h;obtain⟨r,f1,K⟩:=J0 (P:=P) D (Nat.min_le_left _ _) h L F
    have head:(execOp a.eval o).run P w=((do
      if let O a:=z then storeCells a r.toList
      pure (goInt (Nat.min H s)):Sem Value).run P w).andThen λv w=> .ok (.value v) w:=by
     simp only[E,builtin,Builtin.copy_,O8 ha,gB,fB,fD,K8 ht,hq,bB];have e1:(#[Value.slice z s l,a.eval y]:Array Value)[0]?=O (.slice z s l):=rfl;have e2:(#[Value.slice z s l,a.eval y]:Array Value)[1]?=O (a.eval y):=rfl;simp only[e1,e2,bB,fg hu,aD,M,qf hn];have J:(aB n (H.min s) (a.eval y)).run P w= .ok r w:=f1 w rfl;simp only[J,aD];rfl
    have k:U=[]->oV P o a w B μ (.int .i64 (min H s:Nat)) Z:=by
     intro j;subst j
     have:r= #[]:=by
      cases A:r.toList with
      |nil=>simpa using A
      |cons _ _=>rw[A]at K;cases K
     subst this;refine .same L ?_ (.int _ _);rw[head];cases z<;>simp[storeCells,goInt]<;>rfl
    split at i
    .rename_i b V;split at i
     .rename_i j;simp only[Option.some.injEq,Prod.mk.injEq]at i;obtain⟨rfl,rfl⟩:=i;exact k j
     .rename_i j;split at i
      .rename_i I C;split at i
       .rename_i W hw;simp only[Option.some.injEq,Prod.mk.injEq]at i;obtain⟨rfl,rfl⟩:=i;obtain⟨k1,k2,k3,rfl⟩:=NJ hw;rw[hq]at m;rcases m.slice_inv with⟨g,c',hg,_,_,_,hv⟩|⟨rfl,_⟩
        .injection hv with S hv2 hv3
         subst S;obtain⟨w',g1,g2,g3⟩:=R.writes _ _ K k3 Z w b V 0 I g L C k1 hg (by omega);refine⟨_,w',μ, .int .i64 (min H s:Nat), ?_, .inl rfl,μ.le_refl,g2, .int _ _,g3⟩;rw[head];simp[g1,goInt]
        .exfalso;rw[Nat.min_zero]at h;unfold Hp.slice at h;split at h
         .simp at h;exact j h
         .simp at h;exact j h
         .simp at h;exact j h.2
         .cases h
       .cases i
      .cases i
    .split at i
     .rename_i j;simp only[Option.some.injEq,Prod.mk.injEq]at i;obtain⟨rfl,rfl⟩:=i;exact k j
     .cases i
    .cases i
   .cases i
  .cases i
 .cases i
theorem K7 {arr:Array Value}(h:F2 (VR μ) [] arr.toList):arr= #[]:=by
 cases b:arr.toList with
 |nil=>simpa using b
 |cons _ _=>rw[b]at h;cases h
theorem Vo {st t d:TypeId}{n l:Nat}{z:List Value}(ho:o.op= .call c)(hc:c.callee= .builtin .append)(V:c.args.toList=[x,y])(ht:c.argTypes.toList=[st,t])(hu:P.underlying st=O (.slice d))
  (I:(∃q,P.underlying t=O (.slice q))∨P.underlying t=O .string) (X:ph P d=O n) (hb:Vs P d=O l) (hz:tX P d=O z)
  {s:Option Addr} {sl j g:Nat} (hq:a.eval x= .slice s sl j) (D:JH (a.eval y)=O g) {arr:Array Value} (u:(aB n g (a.eval y)).run P w= .ok arr w):
  (sl+g<=j->(execOp a.eval o).run P w=((do
    if let O a:=s then storeCells (a.add (sl*n)) arr.toList
    pure (.slice s (sl+g) j):Sem Value).run P w).andThen λv w=> .ok (.value v) w)/\
  (j<sl+g->(sl+g)*l<=140737488355328->sl+g<=9223372036854775807->∀r:Array Value,(aB n sl (.slice s sl j)).run P w.drew= .ok r w.drew->(aB n g (a.eval y)).run P w.drew= .ok arr w.drew->
   ∃m,sl+g<=m/\∃J:Value,cellsOf J=z/\(execOp a.eval o).run P w= .ok (.value (.slice (O ⟨w.heap.size,0,Y⟩) (sl+g) m)) (w.drew.alloc (.cells (r++arr++bD J.cells (m-(sl+g))) d))):=by
 obtain⟨cst,k⟩:=lf (P:=P) (a:=a) ho hc w
 have E:(iB (a.eval y)).run P w= .ok g w:=by
  generalize a.eval y=q at*;cases q<;>simp[JH]at D<;>simp[iB,D]
 obtain⟨i,hi,C⟩:=Option.map_eq_some_iff.1 hb;have b: ∀w:World,(typeInfo d).run P w= .ok i w:=λw=>by simp[typeInfo,hi]
 have M:(#[Value.slice s sl j,a.eval y]:Array Value)[0]?=O (.slice s sl j):=rfl;have Q:(#[Value.slice s sl j,a.eval y]:Array Value)[1]?=O (a.eval y):=rfl;have S:(#[st,t]:Array TypeId)[0]?=O st:=rfl;have U:(#[st,t]:Array TypeId)[1]?=O t:=rfl;refine⟨λA=> ?_,λp h W r H F=> ?_⟩
 .rw[k];rcases I with⟨q,hdd⟩|hdd
  all_goals
   simp only[builtin,iA,O8 V,O8 ht,gB,fB,fD,hq,M,Q,S,U,bB,fg hu,fg hdd,aD,qf X,cD,eD,if_false,E,Bool.not_false,if_true];rw[zE A];simp only[bB,u,aD];rfl
 .obtain⟨J,z1,z2,z3⟩:=rj hz;refine⟨grownCap w (sl+g) j d,grownCap_ge _ _ _ _,J,z2, ?_⟩;have L:=growslice_fits p h;rw[k];rcases I with⟨q,hdd⟩|hdd
  all_goals
   simp only[builtin,iA,O8 V,O8 ht,gB,fB,fD,hq,M,Q,S,U,bB,fg hu,fg hdd,aD,qf X,cD,eD,if_false,E,Bool.not_false,if_true];rw[Zh];simp only[bB,b,aD,C,false_or]
   have K: ¬(((sl+g:Nat):Int) > IntKind.i64.max/\l=0):=by
    have:IntKind.i64.max=9223372036854775807:=by decide
    omega
   rw[zF K];simp only[bB,b,aD,C];rw[Zh];simp only[bB,run_choose,Question.forced,eD,if_false,World.drew_eq,aD,b,run_askRoom,H,F,z1,newRow,run_newObj,cD,World.alloc_eq];rfl
theorem Dj (z:Array Value)(n:Nat):(bD z n).size=n*z.size:=by simp[bD]
theorem GC (Z:Hp)(b:R B μ Z w):R B μ Z w.drew:=b.same rfl
theorem aB2 {α:Type}(A M T:List α):(A++(M++T)).take (A.length+M.length)=A++M:=by
 rw[<-iG,<-dB,iC]
theorem MM {x:Blk}{o n:Nat}{cs:List Value}(h:uK x o n=O cs):cs.length=n:=by
 unfold uK at h;split at h
 .injection h with h
  subst h;simp;omega
 .cases h
theorem al5 {es n:Nat}{x:Value}{cs:List Value}(h:Z.slice es x n=O cs)(g: ∀s,x= .string s->n<=s.size):cs.length=n*es:=by
 unfold Hp.slice at h;split at h
 .split at h
  .rename_i b;injection h with h;subst h b;simp
  split at h
  .exact MM h
  .cases h
 .split at h
  .rename_i b;injection h with h;subst h b;simp
  .cases h
 .rename_i s;split at h
  case isFalse=>cases h
  rename_i d;injection h with h
  subst h;have i:=g s rfl;subst d;simp;omega
 .cases h
theorem R.moved (s:R B μ Z w){b:Nat}{blk:Blk}{g:G}(j:Z.m b=O blk)(q:blk.own=Za)(H:μ.at b g){d n:Nat}{cells:List Value}{E:Array Value}{t:TypeId}
  (X:w.heap.size=w'.heap.size) (Q:w'.heap[g.c]?=O (.cells E t (0,0))) (I: ∀k,k≠g.c->w'.heap[k]?=w.heap[k]?) (hsz:g.o+g.ext<=E.size) (hfit:d+cells.length<=g.ext)
  (hc:F2 (VR μ) cells ((E.toList.drop (g.o+d)).take cells.length)):
  R B (μ.add Z.n ⟨g.c,g.o+d,g.ext-d,n,t,Y⟩) ((Z.set b Y).add ⟨cells,Za,n⟩) w'/\μ.le (μ.add Z.n ⟨g.c,g.o+d,g.ext-d,n,t,Y⟩):=by
 have hf:μ Z.n=Y:=s.fresh _ (cB _);have A:μ.le (μ.add Z.n ⟨g.c,g.o+d,g.ext-d,n,t,Y⟩):=Mu.le_add hf;have hl:=s.get j H.1;obtain⟨o1,o2,_⟩:=hl.own H.2 q;have hbn:b≠Z.n:=λe=>by have:=H.1;rw[e,hf]at this;cases this
 have old: ∀l x,l≠Z.n->((Z.set b Y).add ⟨cells,Za,n⟩).m l=O x->Z.m l=O x/\l≠b:=by
  intro l x z r;have F:l≠(Z.set b Y).n:=z;simp only[Hp.add,zF F]at r;simp only[Hp.set]at r;split at r
  .cases r
  .rename_i h;exact⟨r,h⟩
 have new: ∀x,((Z.set b Y).add ⟨cells,Za,n⟩).m Z.n=O x->x=⟨cells,Za,n⟩:=by
  intro x r;have F:Z.n=(Z.set b Y).n:=rfl;simp only[Hp.add,zE F]at r;exact(Option.some.inj r).symm
 refine⟨⟨by rw[<-X];exact s.base,λk hk=>(I k (by omega)).trans (s.old k hk),λl z=> ?_,λl x r=> ?_,λS U x x' g1 g2 r u K ho W J=> ?_, ?_⟩,A⟩
 .have:Z.n+1<=l:=z;unfold Mu.add;rw[Zh];exact s.fresh l (by omega)
 .by_cases z:l=Z.n
  .subst z;obtain rfl:=new x r;refine⟨⟨g.c,g.o+d,g.ext-d,n,t,Y⟩,by simp[Mu.add],⟨by rw[<-X];exact hl.lt,rfl,λ_ i v hv=> ?_,λ_ _=>⟨o1,by simp;omega,E,t,Q,by simp;omega⟩,λ_ hs=>(by cases hs),λhs=>by cases hs⟩⟩;obtain⟨v',D,M⟩:=hc.get i v hv
   have hi:i<cells.length:=by
    rcases Nat.lt_or_ge i cells.length with h3|h3
    .exact h3
    .simp[iI h3]at hv
   refine⟨v', ?_,M.mono A⟩;rw[cell_of_row _ _ _ E t (0,0) Q];rw[iF,zE hi,iE]at D;simpa using D
  .obtain⟨u,V⟩:=old l x z r;obtain⟨L,D,M⟩:=s.live l x u;have K:L.c≠g.c:=λe=>s.inj b l blk x g L j u (λe=>V e.symm) q H.1 D e.symm
   exact⟨L,A _ _ D,(s.stays u D (by rw[X];exact cB _) g.c (λk hk _=>I k hk) K (λhi hk=>(s.sep l x L u D hi _ hk b blk g j H.1).1 rfl)).mono A⟩
 .by_cases z:S=Z.n
  .subst z;have C:U≠Z.n:=λe=>K e.symm
   have e1:g1.c=g.c:=by simp[Mu.add]at W;rw[<-W]
   have M:μ U=O g2:=by simpa[Mu.add,C]using J
   obtain⟨hx2,F⟩:=old U x' C u;rw[e1];exact s.inj b U blk x' g g2 j hx2 (λe=>F e.symm) q H.1 M
  .have D:μ S=O g1:=by simpa[Mu.add,z]using W
   obtain⟨hx1,hb1⟩:=old S x z r;by_cases C:U=Z.n
   .subst C;have e1:g2.c=g.c:=by simp[Mu.add]at J;rw[<-J]
    rw[e1];exact λe=>s.inj b S blk x g g1 j hx1 (λe=>hb1 e.symm) q H.1 D e.symm
   .have M:μ U=O g2:=by simpa[Mu.add,C]using J
    exact s.inj S U x x' g1 g2 hx1 (old _ _ C u).1 K ho D M
 .refine s.sep.of (λl x L r p=> ?_) (λl x L r p hi hl'=> ?_)
  .by_cases z:l=Z.n
   .subst z;have e1:L=⟨g.c,g.o+d,g.ext-d,n,t,Y⟩:=by simp[Mu.add]at p;exact p.symm
    subst e1;exact .inr ⟨λh0=>(by cases h0),λS x1 g1 k D M h3 h4=>(s.sep S x1 g1 D M h3 k h4 b blk g j H.1).1⟩
   .exact .inl ⟨x,(old l x z r).1,by simpa[Mu.add,z]using p⟩
  .have V:l≠b:=λe=>by subst e;rw[H.1]at p;injection p with p;subst p;rw[H.2]at hi;cases hi
   unfold Bq;rw[I _ (λe=>s.inj b l blk x g L j r (λe=>V e.symm) q H.1 p e.symm)]
theorem Ny {d:TypeId}{n by_:Nat}{z:List Value}{p:Option Addr}{sl sc H:Nat}{I:List Value}{arr:Array Value}(hzn:z.length=n)(f2:F2 (VR μ) I arr.toList)(m:I.length=H*n)
  (hp:e.ev x= .slice p sl sc) (hx:di x=Za) (s:qM n by_ Z p sl sc H I=O (v,Z')) (he:ig μ N e a.tmps) (hR:R B μ Z w)
  (L: ∀{U:Option Addr} {D:Nat},a.eval x= .slice U sl D->(sl+H<=D->(execOp a.eval o).run P w=((do
    if let O a:=U then storeCells (a.add (sl*n)) arr.toList
    pure (.slice U (sl+H) D):Sem Value).run P w).andThen λv w=> .ok (.value v) w)/\
   (D<sl+H->(sl+H)*by_<=140737488355328->sl+H<=9223372036854775807->∀C:Array Value,(aB n sl (.slice U sl D)).run P w.drew= .ok C w.drew->
    ∃A,sl+H<=A/\∃zz:Value,cellsOf zz=z/\(execOp a.eval o).run P w= .ok (.value (.slice (O ⟨w.heap.size,0,Y⟩) (sl+H) A)) (w.drew.alloc (.cells (C++arr++bD zz.cells (A-(sl+H))) d)))):oV P o a w B μ v Z':=by
 have hvx:=he.ev hx;rw[hp]at hvx;unfold qM at s;split at s
 .rename_i hfit;split at s
  .rename_i b l
   have Q: ∃U D,a.eval x= .slice U sl D/\sc<=D/\VR μ (.slice (O ⟨b,l,Y⟩) (sl+H) sc) (.slice U (sl+H) D)/\(I≠[]->∃g,μ.at b g/\U=O ⟨g.c,g.o+l,Y⟩):=by
    rcases hvx.slice_inv with⟨g,c',hg,W,h2,h3,hv⟩|⟨W,h2,A',hv,g0,hg0⟩
    .exact⟨_,c',hv,h2, .slice hg hfit h2 h3,λ_=>⟨g,hg,rfl⟩⟩
    .subst W h2;have:H=0:=by omega
     subst this;exact⟨_,0,hv,cB _, .slice0 _ hg0,λhne=>absurd (List.eq_nil_of_length_eq_zero (by simpa using m)) hne⟩
   obtain⟨U,D,hq,hle,hvr,hwhere⟩:=Q;obtain⟨head,_⟩:=L hq;have head:=head (by omega);split at s
   .rename_i hn0;simp only[Option.some.injEq,Prod.mk.injEq]at s;obtain⟨rfl,rfl⟩:=s;subst hn0;have:=K7 f2;subst this;refine .same hR ?_ hvr;rw[head];cases U<;>simp[storeCells]
   .rename_i hn0;split at s
    .rename_i blk M;split at s
     .rename_i blk' hw;simp only[Option.some.injEq,Prod.mk.injEq]at s;obtain⟨rfl,rfl⟩:=s;obtain⟨k1,k2,k3,rfl⟩:=NJ hw;obtain⟨g,hg,rfl⟩:=hwhere hn0;obtain⟨w',g1,g2,g3⟩:=R.writes _ _ f2 k3 Z w b (l+sl*n) 0 blk g hR M k1 hg (by omega);refine⟨_,w',μ,_, ?_, .inl rfl,μ.le_refl,g2,hvr,g3⟩;rw[head];simp[vq,Nat.add_assoc];simp[g1]
     .cases s
    .cases s
  .split at s
   .rename_i hn0;obtain⟨hn0,W,h2,h3⟩:=hn0;simp only[Option.some.injEq,Prod.mk.injEq]at s;obtain⟨rfl,rfl⟩:=s;subst W h2 h3 hn0;obtain⟨hq,_,_⟩:=hvx.nils_inv;have:=K7 f2;subst this;obtain⟨head,_⟩:=L hq;refine .same hR ?_ .nils;rw[head (by omega)];simp
   .cases s
  .cases s
 .rename_i hfit;split at s
  .rename_i hbig;obtain⟨hb1,hb2,hall⟩:=hbig;have hone: ∀u∈I,one u=Za:=λu hu=>List.all_eq_true.1 hall u hu
   split at s
   .rename_i b l;split at s
    .rename_i blk M;split at s
     .rename_i hown;split at s
      .rename_i C r;simp only[Option.some.injEq,Prod.mk.injEq]at s;obtain⟨rfl,rfl⟩:=s;have j:=MM r
       have Q: ∃U D,a.eval x= .slice U sl D/\sc<=D/\(∃S:Array Value,(aB n sl (.slice U sl D)).run P w.drew= .ok S w.drew/\F2 (VR μ) C S.toList)/\
         (sl+H<=D->∃g,μ.at b g/\U=O ⟨g.c,g.o+l,Y⟩/\l+D*g.es<=g.ext):=by
        rcases hvx.slice_inv with⟨g,c',hg,W,h2,h3,hv⟩|⟨W,h2,A',hv,g0,hg0⟩
        .obtain⟨cs',r1,r2⟩:=(GC Z hR).reads M hg r;exact⟨_,c',hv,h2,⟨cs'.toArray,by simp[aB,r1 P w.drew rfl],r2⟩,λ_=>⟨g,hg,rfl,h3⟩⟩
        .subst W h2;rw[Nat.zero_mul]at r;have:=P6 r;subst this;exact⟨_,0,hv,cB _,⟨#[],by simp[aB,loadCells,loadCellsFrom], .nil⟩,λh=>absurd h (by omega)⟩
       obtain⟨U,D,hq,hle,⟨S,q1,q2⟩,hin⟩:=Q;by_cases hin':sl+H<=D
       .
        obtain⟨head,_⟩:=L hq;have head:=head hin';obtain⟨g,hg,rfl,hext⟩:=hin hin';have hlv:=hR.get M hg.1;obtain⟨o1,o2,F,t,o3,o4⟩:=hlv.own hg.2 hown.1;have hes:g.es=n:=hlv.es.trans hown.2;rw[hes]at hext;have hsum:(sl+H)*n<=D*n:=iD _ hin';rw[dD]at hsum;have E:arr.toList.length=H*n:=by rw[<-f2.length,m]
        have hone': ∀u∈arr.toList,u.oneCell'=Za:=by
         intro u hu;obtain⟨i,hi,he'⟩:=List.getElem_of_mem hu;obtain⟨u',W,h2⟩:=f2.get i (I[i]'(by rw[m,<-E];exact hi)) (iH _);rw[iH hi]at W;injection W with W
         rw[<-he',W,<-h2.one_iff];exact hone _ (List.getElem_mem _)
        have hst:=run_storeCells_at (P:=P) g.c (g.o+l+sl*n) t arr.toList 0 F w o3 (by omega) hone';rw[Nat.add_zero]at hst;have hrow:=setRow_heap w g.c F (F.toList.take (g.o+l+sl*n)++arr.toList++F.toList.drop (g.o+l+sl*n+arr.toList.length)).toArray t (0,0) o3
        have hold':F2 (VR μ) C ((F.toList.drop (g.o+l)).take (sl*n)):=by
         obtain⟨cs',r1,r2⟩:=hR.reads M hg r;refine F2.of_get _ _ (by rw[j];simp;omega) λi u u' hu hu'=> ?_
         have hi:i<sl*n:=by
          rcases Nat.lt_or_ge i (sl*n)with h3|h3
          .exact h3
          .rw[iI (by omega)]at hu;cases hu
         unfold uK at r;split at r
         .injection r with r
          rw[<-r,iF,zE hi,iE]at hu;obtain⟨u'',W,h2⟩:=hlv.cell hg.2 (l+i) u hu;rw[cell_of_row _ _ _ F t (0,0) o3]at W;rw[iF,zE hi,iE]at hu'
          have:u'=u'':=by
           have e1:F[g.o+(l+i)]?=O u':=by rw[<-Array.getElem?_toList,<-Nat.add_assoc];exact hu'
           rw[e1]at W;exact Option.some.inj W
          rw[this];exact h2
         .cases r
        have hcells:F2 (VR μ) (C++I) (((F.toList.take (g.o+l+sl*n)++arr.toList++F.toList.drop (g.o+l+sl*n+arr.toList.length)).toArray.toList.drop (g.o+l)).take (C++I).length):=by
         have:((F.toList.take (g.o+l+sl*n)++arr.toList++F.toList.drop (g.o+l+sl*n+arr.toList.length)).toArray.toList.drop (g.o+l)).take (C++I).length=((F.toList.drop (g.o+l)).take (sl*n))++arr.toList:=by
          rw[dB,j,m,iG];rw[List.drop_append_of_le_length (by simp;omega)];rw[List.drop_take,show g.o+l+sl*n-(g.o+l)=sl*n from by omega];have e1:((F.toList.drop (g.o+l)).take (sl*n)).length=sl*n:=by simp;omega
          have e2:=aB2 ((F.toList.drop (g.o+l)).take (sl*n)) arr.toList (F.toList.drop (g.o+l+sl*n+arr.toList.length));rw[e1,E]at e2;rw[E];exact e2
         rw[this];exact hold'.append f2
        obtain⟨m1,m2⟩:=R.moved (w':=w.setRow g.c (F.toList.take (g.o+l+sl*n)++arr.toList++F.toList.drop (g.o+l+sl*n+arr.toList.length)).toArray) (n:=n) hR M hown.1 hg (by simp) hrow (λk hk=>setRow_other _ _ _ _ hk) (by simp;omega) (by rw[dB,j,m];omega) hcells;refine⟨_,_,_,_, ?_, .inl rfl,m2,m1, .slice (o:=0) (g:=⟨g.c,g.o+l,g.ext-l,n,t,Y⟩) ⟨by simp[Mu.add],rfl⟩ (cB _) hin' (by simp;omega), ?_⟩
        .rw[head];simp only[vq];simp only[bB,hst,aD,cD];rfl
        .refine⟨rfl,rfl,rfl,by simp,λk hk=>setRow_other _ _ _ _ (by omega)⟩
       .
        obtain⟨_,head⟩:=L hq;obtain⟨A,J,zz,hzz,V⟩:=head (by omega) hb1 hb2 S q1;have K:=GC Z hR;have hzs:zz.cells.size=n:=by rw[<-hzn,<-hzz];simp[cellsOf]
        have hoal:S.toList.length=sl*n:=by rw[<-q2.length,j]
        have E:arr.toList.length=H*n:=by rw[<-f2.length,m]
        have hcs:(S++arr++bD zz.cells (A-(sl+H))).size=A*n:=by
         have hoas:S.size=sl*n:=by simpa using hoal
         have X:arr.size=H*n:=by simpa using E
         rw[Array.size_append,Array.size_append,Dj,hzs,hoas,X,<-dD,<-dD]
         congr 1
         omega
        have hk:=K.kill b
        obtain⟨m1,m2⟩:=hk.add (S++arr++bD zz.cells (A-(sl+H))) d (C++I) n (by rw[dB,j,m,hcs,<-dD];exact iD _ J) (by
         have:((S++arr++bD zz.cells (A-(sl+H))).toList).take (C++I).length=S.toList++arr.toList:=by
          rw[dB,j,m,<-hoal,<-E,<-dB];simp only[Array.toList_append];exact iC
         rw[this]
         exact q2.append f2)
        refine⟨_,_,_,_,V, .inl rfl,m2,m1, .slice (o:=0) (g:=⟨w.drew.heap.size,0,_,n,_,Y⟩) ⟨by unfold Mu.add;exact zE rfl,rfl⟩ (cB _) J (by simp only[gD];rw[hcs];exact cB _), ?_⟩;exact((Below.refl _ _).drew).alloc hR.base _
      .cases s
     .cases s
    .cases s
   .split at s
    .rename_i hsl;subst hsl;simp only[Option.some.injEq,Prod.mk.injEq]at s;obtain⟨rfl,rfl⟩:=s;obtain⟨hq,_,hsc⟩:=hvx.nils_inv;subst hsc;obtain⟨_,head⟩:=L hq;obtain⟨A,J,zz,hzz,V⟩:=head (by omega) hb1 hb2 #[] (by simp[aB]);rw[gD]at J V;have K:=GC Z hR;have hzs:zz.cells.size=n:=by rw[<-hzn,<-hzz];simp[cellsOf]
     have E:arr.toList.length=H*n:=by rw[<-f2.length,m]
     have hcs:((#[]:Array Value)++arr++bD zz.cells (A-H)).size=A*n:=by
      have X:arr.size=H*n:=by simpa using E
      rw[Array.size_append,Array.size_append,Dj,hzs,X,Array.size_empty,gD,<-dD]
      congr 1
      omega
     obtain⟨m1,m2⟩:=K.add ((#[]:Array Value)++arr++bD zz.cells (A-H)) d I n (by rw[m,hcs];exact iD _ J) (by
      have:(((#[]:Array Value)++arr++bD zz.cells (A-H)).toList).take I.length=arr.toList:=by
       rw[m,<-E];simp only[Array.toList_append,List.nil_append];exact iC
      rw[this]
      exact f2)
     refine⟨_,_,_,_,V, .inl rfl,m2,m1, ?_,((Below.refl _ _).drew).alloc hR.base _⟩;exact .slice (o:=0) (g:=⟨w.drew.heap.size,0,_,n,_,Y⟩) ⟨by unfold Mu.add;exact zE rfl,rfl⟩ (cB _) J (by rw[hcs];show 0+A*n<=A*n;omega)
    .cases s
   .
    rename_i b l q
    have Q: ∃U,a.eval x= .slice U sl sc/\sl=sc/\(sl≠0->∃g,μ.at b g/\U=O ⟨g.c,g.o+l,Y⟩):=by
     generalize hq:a.eval x=q' at hvx;cases hvx with
     |sliceX W h2=>exact⟨_,rfl,rfl,λ_=>⟨_,W,rfl⟩⟩
     |sliceX0 A' W=>exact⟨_,rfl,rfl,λh=>(h rfl).elim⟩
    obtain⟨U,hq,hsc,hgo⟩:=Q;have K:=GC Z hR
    have hfin: ∀(C:List Value) (S:Array Value),C.length=sl*n->(aB n sl (.slice U sl sc)).run P w.drew= .ok S w.drew->F2 (VR μ) C S.toList->
      oV P o a w B μ (.slice (O ⟨Z.n,0,Y⟩) (sl+H) (sl+H)) (Z.add ⟨C++I,Za,n⟩):=by
     intro C S j q1 q2;obtain⟨_,head⟩:=L hq;obtain⟨A,J,zz,hzz,V⟩:=head (by omega) hb1 hb2 S q1;have hzs:zz.cells.size=n:=by rw[<-hzn,<-hzz];simp[cellsOf]
     have hoal:S.toList.length=sl*n:=by rw[<-q2.length,j]
     have E:arr.toList.length=H*n:=by rw[<-f2.length,m]
     have hcs:(S++arr++bD zz.cells (A-(sl+H))).size=A*n:=by
      have hoas:S.size=sl*n:=by simpa using hoal
      have X:arr.size=H*n:=by simpa using E
      rw[Array.size_append,Array.size_append,Dj,hzs,hoas,X,<-dD,<-dD]
      congr 1
      omega
     obtain⟨m1,m2⟩:=K.add (S++arr++bD zz.cells (A-(sl+H))) d (C++I) n (by rw[dB,j,m,hcs,<-dD];exact iD _ J) (by
      have:((S++arr++bD zz.cells (A-(sl+H))).toList).take (C++I).length=S.toList++arr.toList:=by
       rw[dB,j,m,<-hoal,<-E,<-dB];simp only[Array.toList_append];exact iC
      rw[this]
      exact q2.append f2)
     refine⟨_,_,_,_,V, .inl rfl,m2,m1, .slice (o:=0) (g:=⟨w.drew.heap.size,0,_,n,_,Y⟩) ⟨by unfold Mu.add;exact zE rfl,rfl⟩ (cB _) J (by simp only[gD];rw[hcs];exact cB _), ?_⟩;exact((Below.refl _ _).drew).alloc hR.base _
    split at s
    .rename_i hsl;simp only[Option.some.injEq,Prod.mk.injEq]at s;obtain⟨rfl,rfl⟩:=s;have:=hfin [] #[] (by rw[hsl];simp) (by rw[hsl];cases U<;>simp[aB,loadCells,loadCellsFrom]) .nil;rw[hsl,gD]at this;exact this
    .rename_i hsl;split at s
     .rename_i blk M;split at s
      .split at s
       .rename_i C r;simp only[Option.some.injEq,Prod.mk.injEq]at s;obtain⟨rfl,rfl⟩:=s;obtain⟨g,hg,rfl⟩:=hgo hsl;obtain⟨cs',r1,r2⟩:=K.reads M hg r;exact hfin C cs'.toArray (MM r) (by simp[aB,r1 P w.drew rfl]) r2
       .cases s
      .cases s
     .cases s
  .cases s
theorem R7 {st D d:TypeId}{n i:Nat}{z:List Value}(W:o.op= .call c)(U:c.callee= .builtin .append)(Q:c.args.toList=[x,y])(ht:c.argTypes.toList=[st,D])(hu:P.underlying st=O (.slice d))
  (t:(∃q,P.underlying D=O (.slice q))∨P.underlying D=O .string) (V:ph P d=O n) (S:Vs P d=O i) (hz:tX P d=O z) (u:z.length=n)
  (hx:di x=Za) (hy:di y=Za) (h:(AOp.append n i x y).run e Z=O (v,Z')) (H:ig μ N e a.tmps) (F:R B μ Z w):oV P o a w B μ v Z':=by
 have l:=H.ev hy;simp only[AOp.run]at h;split at h
 .rename_i p sl sc X;split at h
  .rename_i ln b;have k:=aa0 b l;split at h
   .rename_i A g;obtain⟨I,E,K⟩:=J0 (P:=P) b (cB _) g F l;have J:=E w rfl;have r:=E w.drew rfl;have m:=t
    have j:A.length=ln*n:=al5 g λs hs=>by
     rw[hs]at b;simp[JH]at b;omega
    exact Ny u K j X hx h H F λhq=>by
     obtain⟨L,M⟩:=Vo W U Q ht hu m V S hz hq k J;exact⟨L,λq1 q2 q3 C q4=>M q1 q2 q3 C q4 r⟩
   .cases h
  .cases h
 .cases h
theorem TE {st J d:TypeId}{n r:Nat}{z:List Value}(ho:o.op= .call c)(hc:c.callee= .builtin .append)(ha:c.args.toList=[x,y])(ht:c.argTypes.toList=[st,J])(hu:P.underlying st=O (.slice d))
  (S: ∃q,P.underlying J=O (.int q)) (hn:ph P d=O n) (hb:Vs P d=O r) (hz:tX P d=O z) (V:z.length=n) (h0:0<n)
  {D:Option Addr} {sl j:Nat} {k:IntKind} {l:Int} (hq:a.eval x= .slice D sl j) (hl:a.eval y= .int k l) (l0:0<=l) (l1:l<=9223372036854775807) (l2:l*r<=281474976710656):
  (sl+l.toNat<=j->(execOp a.eval o).run P w=((do
    if let O a:=D then storeCells (a.add (sl*n)) (eo z l.toNat).toArray.toList
    pure (.slice D (sl+l.toNat) j):Sem Value).run P w).andThen λv w=> .ok (.value v) w)/\
  (j<sl+l.toNat->(sl+l.toNat)*r<=140737488355328->sl+l.toNat<=9223372036854775807->∀C:Array Value,(aB n sl (.slice D sl j)).run P w.drew= .ok C w.drew->
   ∃s,sl+l.toNat<=s/\∃E:Value,cellsOf E=z/\(execOp a.eval o).run P w= .ok (.value (.slice (O ⟨w.heap.size,0,Y⟩) (sl+l.toNat) s)) (w.drew.alloc (.cells (C++(eo z l.toNat).toArray++bD E.cells (s-(sl+l.toNat))) d))):=by
 obtain⟨cst,p⟩:=lf (P:=P) (a:=a) ho hc w;obtain⟨i,hi,A⟩:=Option.map_eq_some_iff.1 hb;have b: ∀w:World,(typeInfo d).run P w= .ok i w:=λw=>by simp[typeInfo,hi]
 have X:(#[Value.slice D sl j,Value.int k l]:Array Value)[0]?=O (.slice D sl j):=rfl;have e2:(#[Value.slice D sl j,Value.int k l]:Array Value)[1]?=O (.int k l):=rfl;have e3:(#[st,J]:Array TypeId)[0]?=O st:=rfl;have e4:(#[st,J]:Array TypeId)[1]?=O J:=rfl;obtain⟨E,z1,W,z3⟩:=rj hz;obtain⟨q,F⟩:=S;have w1:IntKind.i64.wrap l=l:=IntWalk.i64_in _ (by omega);have hzs:E.cells.size=n:=by rw[<-V,<-W];simp[cellsOf]
 have U:E.cells.toList=z:=W
 have m: ∀w:World,((if l.toNat*n=0 then pure #[]else do pure (bD (<-zeroValue d).cells l.toNat)):Sem (Array Value)).run P w= .ok (eo z l.toNat).toArray w:=by
  intro w;by_cases t:l.toNat*n=0
  .have L:l.toNat=0:=by
    rcases Nat.mul_eq_zero.1 t with h|h
    .exact h
    .omega
   have:(eo z l.toNat)=[]:=by rw[L];rfl
   rw[zE t,this];simp
  .rw[zF t]
   have M:bD E.cells l.toNat=(eo z l.toNat).toArray:=by
    unfold bD;rw[<-U,<-QD _ _ (by omega)]
   simp only[bB,z1,cD,aD,M]
 refine⟨λH=> ?_,λu g hmax C I=> ?_⟩
 .rw[p];simp only[builtin,iA,O8 ha,O8 ht,gB,fB,fD,hq,hl,X,e2,e3,e4,bB,fg hu,fg F,aD,qf hn,cD,eD,if_false,asInt,asIntOf,w1,Bool.not_true,if_true];rw[Zh];simp only[bB,b,aD,A];rw[Zh];simp only[bB,cD,aD];rw[zE H];simp only[bB,m,aD];rfl
 .refine⟨grownCap w (sl+l.toNat) j d,grownCap_ge _ _ _ _,E,W, ?_⟩;have Q:=growslice_fits u g;rw[p];simp only[builtin,iA,O8 ha,O8 ht,gB,fB,fD,hq,hl,X,e2,e3,e4,bB,fg hu,fg F,aD,qf hn,cD,eD,if_false,asInt,asIntOf,w1,Bool.not_true,if_true];rw[Zh];simp only[bB,b,aD,A];rw[Zh];simp only[bB,cD,aD];rw[Zh];simp only[bB,b,aD,true_or,and_true]
  have K: ¬((sl+l.toNat:Nat):Int) > IntKind.i64.max:=by
   have:IntKind.i64.max=9223372036854775807:=by decide
   omega
  rw[zF K];simp only[bB,b,aD,A];rw[Zh];simp only[bB,run_choose,Question.forced,eD,if_false,World.drew_eq,aD,b,run_askRoom,I,m,z1,newRow,run_newObj,cD,World.alloc_eq];rfl
theorem X3 {st u d:TypeId}{n i:Nat}{z:List Value}(I:o.op= .call c)(F:c.callee= .builtin .append)(D:c.args.toList=[x,y])(L:c.argTypes.toList=[st,u])(M:P.underlying st=O (.slice d))
  (r: ∃q,P.underlying u=O (.int q)) (H:ph P d=O n) (E:Vs P d=O i) (t:tX P d=O z) (g:z.length=n) (A:0<n)
  (Q:di x=Za) (S:di y=Za) (h:(AOp.appendZ n i z x y).run e Z=O (v,Z')) (s:ig μ N e a.tmps) (C:R B μ Z w):oV P o a w B μ v Z':=by
 have j:=s.ev S;obtain⟨zz,z1,z2,V⟩:=rj t;simp only[AOp.run]at h;split at h
 .rename_i p X W k l J K;split at h
  .rename_i b;rw[K]at j;have U:=j.int_inv;refine Ny (d:=d) (arr:=(eo z l.toNat).toArray) g (by simpa using VR.plainCells (IN V _)) (by simp[B9,g]) J Q h s C λm=> ?_
   exact TE I F D L M r H E t g A m U b.1 b.2.1 b.2.2
  .cases h
 .cases h
end
end
section
open Go.RowKit
section
variable {P:Program} {o:Oper} {a:Act} {w w':World} {B:Base P} {N:Nat} {μ:Mu} {e:cm} {Z Z':Hp} {v:Value}
end
end
section
open Go.RowKit
section
variable {P:Program} {o:Oper} {a:Act} {w:World} {B:Base P} {N:Nat} {μ:Mu} {e:cm} {Z Z':Hp} {v:Value}
theorem Jo {x y:Option Operand}(h:aL8 x=O y):x=y/\∀u,y=O u->di u=Za:=by
 unfold aL8 at h;split at h
 .rename_i x;obtain⟨z,g,h⟩:=Option.map_eq_some_iff.1 h;obtain⟨rfl,d⟩:=au g;subst h;exact⟨rfl,λu b=>by injection b with b;exact b▸d⟩
 .injection h with h
  subst h;exact⟨rfl,λu b=>by cases b⟩
def AOp.isCall :AOp->Bool
 | .call _ _| .callv _ _=>Za
 |_=>Zb
theorem aB6 {op:BinOp}{t r:TypeId}(l:o.op= .binOp op t x y r)(h:WV P op t x y=O ao)(m:ao.run e Z=O (v,Z'))(k:ig μ N e a.tmps)(j:R B μ Z w):oV P o a w B μ v Z':=by
 unfold WV at h;split at h
 .split at h
  .rename_i b d;obtain⟨rfl,g⟩:=au b;obtain⟨rfl,i⟩:=au d;injection h with h
   subst h;exact ax0 l g i m k j
  .cases h
 .split at h
  .rename_i b d;obtain⟨rfl,g⟩:=au b;obtain⟨rfl,i⟩:=au d;injection h with h
   subst h;exact ax0 l g i m k j
  .cases h
 .split at h
  .rename_i n b d;obtain⟨rfl,g⟩:=au b;obtain⟨rfl,i⟩:=au d;injection h with h
   subst h;exact Gt l rfl n g i m k j
  .rename_i n b d;obtain⟨rfl,g⟩:=au b;obtain⟨rfl,i⟩:=au d;injection h with h
   subst h;exact Gt l rfl n g i m k j
  .cases h
 .split at h
  .rename_i n b d;obtain⟨rfl,g⟩:=au b;obtain⟨rfl,i⟩:=au d;injection h with h
   subst h;exact Gt l rfl n g i m k j
  .rename_i n b d;obtain⟨rfl,g⟩:=au b;obtain⟨rfl,i⟩:=au d;injection h with h
   subst h;exact Gt l rfl n g i m k j
  .cases h
 .rename_i q;split at h
  .rename_i p b d;obtain⟨rfl,g⟩:=au b;obtain⟨rfl,i⟩:=au d;injection h with h
   subst h;exact ax1 l rfl q p g i m k j
  .rename_i p b d;obtain⟨rfl,g⟩:=au b;obtain⟨rfl,i⟩:=au d;injection h with h
   subst h;exact ax1 l rfl q p g i m k j
  .cases h
 .cases h
theorem am7 (r:o.op= .call c)(h:GK P c=O ao)(D:ao.isCall=Zb)(s:ao.run e Z=O (v,Z'))(u:ig μ N e a.tmps)(q:R B μ Z w):oV P o a w B μ v Z':=by
 unfold GK at h;split at h
 .split at h
  .obtain⟨x,_,h⟩:=Option.map_eq_some_iff.1 h;subst h;simp[AOp.isCall]at D
  .cases h
 .obtain⟨x,_,h⟩:=Option.map_eq_some_iff.1 h;subst h;simp[AOp.isCall]at D
 .rename_i b;split at h
  .rename_i g l;split at h
   .rename_i m n d k;obtain⟨rfl,i⟩:=au d;obtain⟨rfl,p⟩:=au k;split at h
    .rename_i z A C;split at h
     .rename_i j;injection h with h
      subst h;exact R7 r b g l m (.inl ⟨_,n⟩) z A C j i p s u q
     .cases h
    .cases h
   .rename_i m n d k;obtain⟨rfl,i⟩:=au d;obtain⟨rfl,p⟩:=au k;split at h
    .rename_i z A C;split at h
     .rename_i j;injection h with h
      subst h;exact R7 r b g l m (.inr n) z A C j i p s u q
     .cases h
    .cases h
   .rename_i m n d k;obtain⟨rfl,i⟩:=au d;obtain⟨rfl,p⟩:=au k;split at h
    .rename_i z A C;split at h
     .rename_i j;injection h with h
      subst h;exact X3 r b g l m ⟨_,n⟩ z A C j.1 j.2 i p s u q
     .cases h
    .cases h
   .cases h
  .cases h
 .rename_i b;split at h
  .rename_i g l;split at h
   .rename_i t d k;obtain⟨rfl,i⟩:=au d;obtain⟨rfl,p⟩:=au k;split at h
    .rename_i z;injection h with h
     subst h;exact aL2 r b g l t z i p s u q
    .cases h
   .cases h
  .cases h
 .rename_i b;split at h
  .rename_i g l;split at h
   .rename_i t d;obtain⟨rfl,i⟩:=au d;injection h with h
    subst h;exact bc4 r b g l t i s u q
   .rename_i t;injection h with h
    subst h;exact ab0 r b g l (.inl ⟨_,t⟩) s q
   .rename_i t;split at h
    .rename_i E;injection h with h
     subst h;exact ab0 r b g l (.inr ⟨_,_,t,E⟩) s q
    .cases h
   .cases h
  .cases h
 .rename_i b;split at h
  .rename_i g l;split at h
   .rename_i t d;obtain⟨rfl,i⟩:=au d;injection h with h
    subst h;exact aL0 r b g l t i s u q
   .cases h
  .cases h
 .rename_i b;split at h
  .rename_i g;split at h
   .rename_i d k;obtain⟨rfl,i⟩:=au d;obtain⟨rfl,p⟩:=au k;injection h with h
    subst h;exact aL5 r b g i p s u q
   .cases h
  .cases h
 .rename_i b;split at h
  .rename_i g;split at h
   .rename_i d k;obtain⟨rfl,i⟩:=au d;obtain⟨rfl,p⟩:=au k;injection h with h
    subst h;exact ax2 r b g i p s u q
   .cases h
  .cases h
 .cases h
theorem aR5 (h:WX P o=O ao)(I:ao.isCall=Zb)(i:ao.run e Z=O (v,Z'))(l:ig μ N e a.tmps)(j:R B μ Z w):oV P o a w B μ v Z':=by
 unfold WX at h;split at h
 .rename_i b;obtain⟨x,d,h⟩:=Option.map_eq_some_iff.1 h;obtain⟨rfl,g⟩:=au d;subst h;exact ab1 (.inl b) g i l j
 .rename_i b;obtain⟨x,d,h⟩:=Option.map_eq_some_iff.1 h;obtain⟨rfl,g⟩:=au d;subst h;exact ab1 (.inr b) g i l j
 .rename_i b;split at h
  .rename_i d q t;obtain⟨rfl,g⟩:=au d;obtain⟨rfl,r⟩:=au q;obtain⟨rfl,u⟩:=au t;injection h with h
   subst h;exact aL6 b g r u i l j
  .cases h
 .rename_i b;split at h
  .cases h
  .split at h
   .rename_i s;injection h with h
    subst h;exact aw9 b s i j
   .cases h
 .rename_i b;split at h
  .rename_i d;obtain⟨rfl,g⟩:=au d;injection h with h
   subst h;exact bc2 b g i l j
  .cases h
 .rename_i b;split at h
  .rename_i p s;split at h
   .rename_i z;obtain⟨H,C,h⟩:=Option.map_eq_some_iff.1 h;subst h;exact N5 b p s z C i l j
   .cases h
  .rename_i p s;split at h
   .rename_i m;obtain⟨H,C,h⟩:=Option.map_eq_some_iff.1 h;subst h;exact P0 b p m s C i l j
   .cases h
  .cases h
 .rename_i b;split at h
  .rename_i p;split at h
   .rename_i m s;split at h
    .rename_i k;obtain⟨H,C,h⟩:=Option.map_eq_some_iff.1 h;subst h;exact Ro b p m s k.1 k.2.1 k.2.2 C i l j
    .cases h
   .cases h
  .cases h
 .injection h with h
  subst h;cases i
 .rename_i b;split at h
  .rename_i F d;obtain⟨rfl,g⟩:=au d;obtain⟨n,m,h⟩:=Option.map_eq_some_iff.1 h;subst h;exact ax3 b F m g i l j
  .rename_i F d;obtain⟨rfl,g⟩:=au d;injection h with h
   subst h;exact aL4 b F g i l j
  .cases h
 .rename_i b;split at h
  .rename_i m d q;obtain⟨rfl,g⟩:=au d;obtain⟨rfl,r⟩:=au q;injection h with h
   subst h;exact ax5 b m g r i l j
  .cases h
 .rename_i b;obtain⟨x,d,h⟩:=Option.map_eq_some_iff.1 h;obtain⟨rfl,g⟩:=au d;subst h;exact Wb b g i l j
 .rename_i b;exact aB6 b h i l j
 .rename_i b;obtain⟨x,d,h⟩:=Option.map_eq_some_iff.1 h;obtain⟨rfl,g⟩:=au d;subst h;exact bn1 b g i l j
 .rename_i b;split at h
  .rename_i K J d;obtain⟨rfl,g⟩:=au d;injection h with h
   subst h;exact aL1 b K J g i l j
  .cases h
 .rename_i b;split at h
  .rename_i D d;injection h with h
   subst h;exact ai7 b D d i l j
  .cases h
 .rename_i b;split at h
  .rename_i p;split at h
   .rename_i m A s d q;obtain⟨rfl,g⟩:=au d;obtain⟨rfl,r⟩:=au q;split at h
    .rename_i k;injection h with h
     subst h;exact Ur b p m A s g r k.1 k.2 i l j
    .cases h
   .cases h
  .cases h
 .rename_i b;split at h
  .rename_i p d q t;obtain⟨rfl,g⟩:=au d;obtain⟨rfl,r⟩:=Jo q;obtain⟨rfl,u⟩:=Jo t;obtain⟨n,m,h⟩:=Option.map_eq_some_iff.1 h;subst h;exact ax4 b p m g r u i l j
  .rename_i p d q t;obtain⟨rfl,g⟩:=au d;obtain⟨rfl,r⟩:=Jo q;obtain⟨rfl,u⟩:=Jo t;obtain⟨n,m,h⟩:=Option.map_eq_some_iff.1 h;subst h;exact Wc b p m g r u i l j
  .cases h
 .rename_i b;split at h
  .rename_i p d;obtain⟨rfl,g⟩:=au d;split at h
   .rename_i E;split at h
    .rename_i m;split at h
     .cases h
     .rename_i D;injection h with h
      subst h;exact bc5 b p E m D g i l j
    .cases h
   .cases h
  .cases h
 .rename_i b;split at h
  .rename_i p d;obtain⟨rfl,g⟩:=au d;split at h
   .rename_i E;split at h
    .rename_i m A;injection h with h
     subst h;exact ai4 b p E m A g i l j
    .cases h
   .cases h
  .cases h
 .rename_i b;split at h
  .rename_i p d q;obtain⟨rfl,g⟩:=au d;obtain⟨rfl,r⟩:=au q;obtain⟨n,m,h⟩:=Option.map_eq_some_iff.1 h;subst h;exact bc3 b p m g r i l j
  .rename_i p d q;obtain⟨rfl,g⟩:=au d;obtain⟨rfl,r⟩:=au q;obtain⟨n,m,h⟩:=Option.map_eq_some_iff.1 h;subst h;exact aL3 b p m g r i l j
  .cases h
 .rename_i b;split at h
  .rename_i p d q;obtain⟨rfl,g⟩:=au d;obtain⟨rfl,r⟩:=au q;split at h
   .rename_i m A;injection h with h
    subst h;exact ai6 b p m A g r i l j
   .cases h
  .rename_i p d q;obtain⟨rfl,g⟩:=au d;obtain⟨rfl,r⟩:=au q;injection h with h
   subst h;exact ai5 b p g r i l j
  .cases h
 .rename_i b;split at h
  .rename_i p d q t;obtain⟨rfl,g⟩:=au d;obtain⟨rfl,r⟩:=au q;obtain⟨rfl,u⟩:=au t;split at h
   .rename_i m;injection h with h
    subst h;obtain⟨n,m⟩:=Option.isSome_iff_exists.1 m;exact ai8 b p m g r u i l j
   .cases h
  .cases h
 .rename_i b;obtain⟨x,d,h⟩:=Option.map_eq_some_iff.1 h;obtain⟨rfl,g⟩:=au d;subst h;exact X4 b g i l j
 .rename_i b;exact am7 b h I i l j
 .injection h with h
  subst h;cases i
 .injection h with h
  subst h;cases i
 .cases h
end
end
section
open Result renaming andThen_ok -> aB
open Sem renaming run_bind -> aD, run_pure -> bB
open Go.RowKit
def UP (d:Array Oper):Option (Nat×Bool)->Option (Option (Nat×Bool))
 |none=>O Y
 |some (j,b)=>match(d[j]?).bind (·.dst)with
  |some t=>O (O (t,b))
  |none=>Y
def as1 (N:Nat):Option Nat->Bool
 |none=>Za
 |some d=>d<N
def M0 (P:Program)(N:Nat)(b:Array Oper)(o:Oper):Option AOper:=match WX P o,UP b o.guard with
 |some op,O g=>if as1 N o.dst then O ⟨o.dst,op,g⟩else Y
 |_,_=>Y
def LW (P:Program)(N:Nat)(b:Array Oper):List Oper->Option (List AOper)
 |[]=>O []
 |o::r=>match M0 P N b o,LW P N b r with
  |some x,O l=>O (x::l)
  |_,_=>Y
def SN (P:Program)(f:FuncId):Prop:= ∃b,P.funcs[f]?=O b/\b.body.isSome=Za/\(b.name== "runtime.NumGoroutine")=Zb
def bh5 (P:Program)(B:Base P)(μ:Mu)(w:World)(K:Value->Hp->Prop):Ending->World->Prop:=λx w'=>
 ∃r Z' d b,x= .returned d/\K r Z'/\μ.le b/\R B b Z' w'/\VR b r d/\Below B w w'/\P=P
def Sim (P:Program)(f:FuncId)(S:Tt):Prop:=
 ∀(B:Base P) μ Z w args (b:Array Value) K,S args Z K->R B μ Z w->F2 (VR μ) args b.toList->SN P f/\Calls P f b w (bh5 P B μ w K)
def G4 :Nat:=1000000
def B0 :AExit->Exit->Prop
 | .normal, .normal=>True
 | .exit i, .exit j=>i=j/\j<G4
 | .exit i, .goto l=>i=G4+2*l
 | .ret, .ret=>True
 |_,_=>False
def wZ {P:Program}(B:Base P)(N:Nat)(μ:Mu)(w:World)(Q:AExit->cm->Hp->Prop):Exit->Act->World->Prop:=λx d w'=>
 ∃g e' Z' b,B0 g x/\Q g e' Z'/\μ.le b/\R B b Z' w'/\ig b N e' d.tmps/\d.defers=[]/\Below B w w'
section
variable {P:Program} {T:mE} {o:Oper} {a:Act} {w:World} {B:Base P} {N:Nat} {μ:Mu} {e:cm} {Z Z':Hp} {v:Value}
theorem wZ.trans {i:Mu}{w':World}{Q:AExit->cm->Hp->Prop}(t:μ.le i)(s:Below B w w'){x:Exit}{g:Act}{b:World}(h:wZ B N i w' Q x g b):wZ B N μ w Q x g b:=by
 obtain⟨j,e',Z',d,k,l,m,n,p,q,r⟩:=h;exact⟨j,e',Z',d,k,l,Mu.le_trans t m,n,p,q,s.trans r⟩
theorem Sy {k:Array Oper}{g:Option (Nat×Bool)}(d:UP k o.guard=O g)(q:ig μ N e a.tmps):Region.wanted o (yielded k a.tmps)=wanted ⟨o.dst,op,g⟩ e:=by
 unfold UP at d;unfold Region.wanted wanted;split at d
 .rename_i h;injection d with d
  subst d;simp[h]
 .rename_i j l h;split at d
  .rename_i t r;injection d with d
   subst d;simp only[h];have n:=q.2 t;unfold yielded;rw[r];simp only[zG];by_cases i:t<a.tmps.size
   .have m:a.tmps[t]?=O (a.tmps.getD t undef):=by simp[i]
    rw[m];generalize a.tmps.getD t undef=u at*;generalize e t=s at*;cases n<;>simp
    try(rename_i b;cases b<;>cases l<;>rfl)
   .have m:a.tmps[t]?=Y:=Array.getElem?_eq_none (Nat.le_of_not_lt i);have p:a.tmps.getD t undef=undef:=by simp[m]
    rw[p]at n;rw[m];generalize e t=u at*;cases n;simp
  .cases d
theorem ig.putO (h:ig μ N e a.tmps){d:Option Nat}(b:as1 N d=Za){v':Value}(g:VR μ v v'):ig μ N (e.putO d v) (a.put d v').tmps:=by
 cases d with
 |none=>exact h
 |some d=>exact h.put d (by simpa[as1]using b) g
theorem zq (d:Option Nat)(v':Value):(a.put d v').defers=a.defers:=by cases d<;>rfl
theorem RL (h:SN P f)(args:Array Value)(w:World):(callFunc f args).run P w= .ok (.enter f args) w:=by
 obtain⟨b,d,g,i⟩:=h;have j:b.body.isNone=Zb:=by cases k:b.body<;>simp[k]at g⊢
 simp only[callFunc,aD,run_program,aB,d,i,j,Bool.false_eq_true,if_false,bB]
theorem VR.func_inv {f:Fn}{x y:Array Value}{v':Value}(h:VR μ (.func f x y) v'): ∃b d,v'= .func f b d/\F2 (VR μ) x.toList b.toList/\F2 (VR μ) y.toList d.toList:=by
 cases h with
 |func g i=>exact⟨_,_,rfl,g,i⟩
theorem am9 (h:WX P o=O (.call f args)): ∃c,o.op= .call c/\GK P c=O (.call f args):=by
 unfold WX at h;split at h
 all_goals first
  |exact⟨_,‹_›,h⟩
  |(exfalso;revert h;unfold WV;(repeat' split)<;>simp)
  |(exfalso;revert h;(repeat' split)<;>simp)
theorem YG {f:Operand}(h:WX P o=O (.callv f args)): ∃c,o.op= .call c/\GK P c=O (.callv f args):=by
 unfold WX at h;split at h
 all_goals first
  |exact⟨_,‹_›,h⟩
  |(exfalso;revert h;unfold WV;(repeat' split)<;>simp)
  |(exfalso;revert h;(repeat' split)<;>simp)
theorem WW (h:GK P c=O (.call f args)):c.callee= .value (.func f)/\N7 c.args.toList=O args:=by
 unfold GK at h;split at h
 .rename_i d;split at h
  .simp at h;obtain⟨b,rfl⟩:=h;exact⟨d,b⟩
  .cases h
 all_goals (exfalso;revert h;(repeat' split)<;>simp)
theorem UO {f:Operand}(h:GK P c=O (.callv f args)):c.callee= .value f/\di f=Za/\N7 c.args.toList=O args:=by
 unfold GK at h;split at h
 .exfalso;revert h;split<;>simp
 .rename_i d;simp at h;obtain⟨b,rfl⟩:=h;exact⟨d,rfl,b⟩
 all_goals (exfalso;revert h;(repeat' split)<;>simp)
theorem YW (j: ∀f,Sim P f (T f)){args:List Value}{cargs:Array Value}{k:Value->Hp->Prop}(n:T f args Z k)(i:R B μ Z w)(l:F2 (VR μ) args cargs.toList)
  (b:SN P f->(execOp a.eval o).run P w= .ok (.enter f cargs) w) {next:Act->World->Prop} {Q:Exit->Act->World->Prop}
  (m: ∀v Z' v' d w',k v Z'->μ.le d->R B d Z' w'->VR d v v'->Below B w w'->next (a.put o.dst v') w'):o.wp P a w next Q:=by
 obtain⟨g,h⟩:=j f B μ Z w args cargs k n i l;unfold Oper.wp;rw[b g];simp only[Oper.upon];refine h.mono λx w' p=> ?_
 obtain⟨r,Z',A,d,rfl,q,s,t,u,z,_⟩:=p;exact m r Z' A d w' q s t u z
theorem Qn (H: ∀f,Sim P f (T f))(h:WX P o=O op){k:Value->Hp->Prop}(d:cc T op e Z k)(r:ig μ N e a.tmps)(t:R B μ Z w)
  {next:Act->World->Prop} {Q:Exit->Act->World->Prop}
  (s: ∀v Z' v' l w',k v Z'->μ.le l->R B l Z' w'->VR l v v'->Below B w w'->next (a.put o.dst v') w'):o.wp P a w next Q:=by
 by_cases z:op.isCall=Za
 .cases op<;>simp[AOp.isCall]at z
  case call f args=>
   obtain⟨c,A,m⟩:=am9 h;obtain⟨n,j⟩:=WW m;have u:=Li r j;simp only[cc]at d;refine YW (cargs:=c.args.map a.eval) H d t (by simpa using u) (λb=> ?_) s;simp only[execOp,A,resolve,n,aD,Act.eval,Deferred.ofValue,bB,aB,invoke];simp[RL b]
  case callv f args=>
   obtain⟨c,A,m⟩:=YG h;obtain⟨n,q,j⟩:=UO m;have u:=Li r j;have I:=r.ev q;simp only[cc]at d;split at d
   .rename_i g first i M
    rw[M]at I;obtain⟨S,U,J,K,L⟩:=I.func_inv;refine YW (cargs:=S++c.args.map a.eval++U) H d t (by simpa using(K.append u).append L) (λb=> ?_) s;simp only[execOp,A,resolve,n,J,aD,Deferred.ofValue,bB,aB,invoke];simp[RL b]
   .exact d.elim
 .have C: ∃v Z',op.run e Z=O (v,Z')/\k v Z':=by
   unfold cc at d;cases op<;>simp[AOp.isCall]at z<;>simp only at d
   all_goals
    split at d
    .rename_i v Z' D;exact⟨v,Z',D,d⟩
    .exact d.elim
  obtain⟨v,Z',D,p⟩:=C;obtain⟨V,w',l,v',m,n,j,q,E,F⟩:=aR5 h (by simpa using z) D r t;unfold Oper.wp;rw[m];rcases n with rfl|⟨rfl,rfl⟩
  .exact s v Z' v' l w' p j q E F
  .exact s v Z' undef l w' p j q E F
theorem X6 (z: ∀f,Sim P f (T f)){p:Array Oper}{Q:AExit->cm->Hp->Prop}{H:Mu}{F:World}: ∀(l:List Oper) (q:List AOper) (e:cm) (Z:Hp) (μ:Mu) (a:Act) (w:World),LW P N p l=O q->Di T (Q .normal) q e Z->
  R B μ Z w->ig μ N e a.tmps->a.defers=[]->H.le μ->Below B F w->wpList P p (wZ B N H F Q) l a w
 |[],q,e,Z,μ,a,w,h,j,s,m,t,d,b=>by
  simp[LW]at h;subst h;exact⟨.normal,e,Z,μ,trivial,j,d,s,m,t,b⟩
 |o::l,q,e,Z,μ,a,w,h,j,s,m,t,d,b=>by
  simp only[LW]at h;split at h
  .rename_i x r i C;injection h with h
   subst h;unfold M0 at i;split at i
   .rename_i op g I J;split at i
    .rename_i D;injection i with i
     subst i;have k:=Sy (op:=op) J m;unfold wpList;simp only[Di]at j;rw[k];split
     .rename_i A;rw[zE A]at j;left;refine Qn z I j m s λv Z' M S w' K E u L n=> ?_
      exact X6 z l r _ Z' S (a.put o.dst M) w' C K u ((m.mono E).putO D L) (by rw[zq];exact t) (Mu.le_trans d E) (b.trans n)
     .rename_i A;rw[zF A]at j;exact X6 z l r _ Z μ (a.put o.dst undef) w C j s (m.putO D (VR.undef μ)) (by rw[zq];exact t) d b
    .cases i
   .cases i
  .cases h
end
end
section
open List renaming map_congr_left -> aB, mem_append -> aD
open Go.RowKit
def qT :Operand->List Nat
 | .tmp t=>[t]
 |_=>[]
def aB5 :Option Operand->List Nat
 |some x=>qT x
 |none=>[]
def AOp.reads :AOp->List Nat
 | .move x| .box _ x| .load x| .loadN _ x| .nilCheck x| .un _ x| .conv _ x| .off _ x| .fieldV _ _ _ x| .extract x _| .len x| .capN x=>qT x
 | .pick c a b| .sliceX c a b=>qT c++qT a++qT b
 | .alloc _ _| .lenC _| .stuck=>[]
 | .build _ h| .buildSlice _ _ _ h=>h.flatMap λp=>qT p.2.2
 | .store _ a x=>qT a++qT x
 | .bin _ x y| .eqv _ _ x y| .eqCells _ _ x y| .idx _ x y| .idxA _ _ x y| .indexV _ _ _ x y| .indexS x y| .append _ _ x y| .appendZ _ _ _ x y| .copy _ x y| .most x y| .least x y| .makeSlice _ _ _ x y=>qT x++qT y
 | .mkFunc _ d i=>d.flatMap qT++i.flatMap qT
 | .slice _ x lo g| .sliceArr _ _ x lo g=>qT x++aB5 lo++aB5 g
 | .call _ d=>d.flatMap qT
 | .callv f d=>qT f++d.flatMap qT
theorem bm (h: ∀t∈qT x,e t=e' t):e.ev x=e'.ev x:=by
 cases x<;>first|rfl|exact h _ (by simp[qT])
theorem I9 {x:Option Operand}(h: ∀t∈aB5 x,e t=e' t):x.map e.ev=x.map e'.ev:=by
 cases x with
 |none=>rfl
 |some x=>simp only[Option.map_some];rw[bm h]
theorem I8 {b:List Operand}(h: ∀t∈b.flatMap qT,e t=e' t):b.map e.ev=b.map e'.ev:=by
 apply aB;intro x g;exact bm λt d=>h t (List.mem_flatMap.2 ⟨x,g,d⟩)
theorem RM {b:List (Nat×Nat×Operand)}(h: ∀t∈b.flatMap (λp=>qT p.2.2),e t=e' t):(b.map λ(o,s,x)=>(o,s,e.ev x))=b.map λ(o,s,x)=>(o,s,e'.ev x):=by
 apply aB;rintro⟨o,s,x⟩ g;simp only;rw[bm λt d=>h t (List.mem_flatMap.2 ⟨_,g,d⟩)]
theorem MQ (h: ∀t∈op.reads,e t=e' t):op.run e Z=op.run e' Z:=by
 cases op<;>simp only[AOp.reads,aD]at h<;>simp only[AOp.run]
 case move x=>rw[bm h]
 case pick c a b=>rw[bm λt g=>h t (.inl (.inl g)),bm λt g=>h t (.inl (.inr g)),bm λt g=>h t (.inr g)]
 case box es x=>rw[bm h]
 case build z ps=>rw[RM h]
 case buildSlice es ln z ps=>rw[RM h]
 case load x=>rw[bm h]
 case loadN n x=>rw[bm h]
 case store n a x=>rw[bm λt g=>h t (.inl g),bm λt g=>h t (.inr g)]
 case nilCheck x=>rw[bm h]
 case bin op x y=>rw[bm λt g=>h t (.inl g),bm λt g=>h t (.inr g)]
 case eqv kd neg x y=>rw[bm λt g=>h t (.inl g),bm λt g=>h t (.inr g)]
 case eqCells neg ks x y=>rw[bm λt g=>h t (.inl g),bm λt g=>h t (.inr g)]
 case un op x=>rw[bm h]
 case conv k x=>rw[bm h]
 case mkFunc f xs cs=>rw[I8 λt g=>h t (.inl g),I8 λt g=>h t (.inr g)]
 case makeSlice es by_ z l c=>rw[bm λt g=>h t (.inl g),bm λt g=>h t (.inr g)]
 case slice es x lo hi=>rw[bm λt g=>h t (.inl (.inl g)),I9 λt g=>h t (.inl (.inr g)),I9 λt g=>h t (.inr g)]
 case sliceArr es n x lo hi=>rw[bm λt g=>h t (.inl (.inl g)),I9 λt g=>h t (.inl (.inr g)),I9 λt g=>h t (.inr g)]
 case off n x=>rw[bm h]
 case idx es x i=>rw[bm λt g=>h t (.inl g),bm λt g=>h t (.inr g)]
 case idxA ln es x i=>rw[bm λt g=>h t (.inl g),bm λt g=>h t (.inr g)]
 case fieldV fo n agg x=>rw[bm h]
 case indexV ln es agg x i=>rw[bm λt g=>h t (.inl g),bm λt g=>h t (.inr g)]
 case indexS x i=>rw[bm λt g=>h t (.inl g),bm λt g=>h t (.inr g)]
 case extract x i=>rw[bm h]
 case append es by_ s x=>rw[bm λt g=>h t (.inl g),bm λt g=>h t (.inr g)]
 case appendZ es by_ z s x=>rw[bm λt g=>h t (.inl g),bm λt g=>h t (.inr g)]
 case copy es d s=>rw[bm λt g=>h t (.inl g),bm λt g=>h t (.inr g)]
 case len x=>rw[bm h]
 case capN x=>rw[bm h]
 case sliceX c a b=>rw[bm λt g=>h t (.inl (.inl g)),bm λt g=>h t (.inl (.inr g)),bm λt g=>h t (.inr g)]
 case most x y=>rw[bm λt g=>h t (.inl g),bm λt g=>h t (.inr g)]
 case least x y=>rw[bm λt g=>h t (.inl g),bm λt g=>h t (.inr g)]
theorem WC {T:mE}{k:Value->Hp->Prop}(h: ∀t∈op.reads,e t=e' t)(b:cc T op e Z k):cc T op e' Z k:=by
 by_cases g:op.isCall=Za
 .cases op<;>simp[AOp.isCall]at g
  case call f xs=>
   simp only[cc,AOp.reads]at*;rw[<-I8 h];exact b
  case callv f xs=>
   simp only[cc,AOp.reads,aD]at*;rw[<-I8 λt d=>h t (.inr d),<-bm λt d=>h t (.inl d)];exact b
 .unfold cc at*;cases op<;>simp[AOp.isCall]at g<;>simp only at b⊢ <;>rw[<-MQ h]<;>exact b
def AOper.looks (o:AOper):List Nat:=o.op.reads++(match o.guard with|some (t,_)=>[t]|none=>[])
theorem GL {o:AOper}(h: ∀t∈o.looks,e t=e' t):wanted o e=wanted o e':=by
 unfold wanted;unfold AOper.looks at h;cases b:o.guard with
 |none=>rfl
 |some g=>
  rw[b]at h;have:=h g.1 (by simp);simp only[this]
theorem KC {Z':Hp}{v:Value}(b:op.still=Za)(h:op.run e Z=O (v,Z')):Z'=Z:=by
 cases op<;>simp[AOp.still]at b<;>simp only[AOp.run]at h
 all_goals
  revert h
  repeat' split
  all_goals first
   |(intro h;cases h;done)
   |(intro h;simp only[Option.some.injEq,Prod.mk.injEq]at h;exact h.2.symm)
   |(intro h;obtain⟨_,_,h⟩:=Option.map_eq_some_iff.1 h;simp only[Prod.mk.injEq]at h;exact h.2.symm)
theorem al8 {v:Value}(d:op.still=Za)(b:op.isLoad=Zb)(h:op.run e Z=O (v,Z))(Z':Hp):op.run e Z'=O (v,Z'):=by
 cases op<;>simp[AOp.still]at d
 case slice es x lo hi=>
  cases lo with
  |some _=>simp[AOp.isLoad]at b
  |none=>
   simp only[AOp.run,EG,Bool.or_true,if_true]at h⊢;revert h
   repeat' split
   all_goals first
    |(intro h;cases h;done)
    |(intro h;simp only[Option.some.injEq,Prod.mk.injEq]at h⊢;exact⟨h.1,trivial⟩)
    |simp_all
 all_goals first
  |(simp[AOp.isLoad]at b;done)
  |(simp only[AOp.run]at h⊢
    revert h
    repeat' split
    all_goals first
     |(intro h;cases h;done)
     |(intro h;simp only[Option.some.injEq,Prod.mk.injEq]at h⊢;exact⟨h.1,trivial⟩)
     |(intro h;obtain⟨u,g,h⟩:=Option.map_eq_some_iff.1 h;simp only[Prod.mk.injEq]at h;rw[g];simp[h.1]))
end
end Go.Ab
