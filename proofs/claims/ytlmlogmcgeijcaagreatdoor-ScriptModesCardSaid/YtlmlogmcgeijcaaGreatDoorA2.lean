/- A part of the proof. No condition. -/
import Derived.Test.YtlmlogmcgeijcaaGreatDoorA1
import Derived.Laws.BytesString
import Derived.Laws.RangeAny
import Derived.Laws.IdiomStrings
import Derived.Laws.Cover4
import Derived.Lib.OthersKept
set_option linter.unusedVariables false
set_option linter.unusedSimpArgs false
set_option linter.unusedSectionVars false
namespace Go.Ab
open Option renaming some->O,none->Y
open Bool renaming true->Za,false->Zb
open Decidable renaming decide->Zc
variable {x y:Operand}{c:Call}{lo:Option Operand}{g:G}
section
open List renaming getElem?_eq_none -> bB, length_cons -> bD
open Result renaming andThen_ok -> aB
open Sem renaming run_bind -> aD
open Go.RowKit
section
variable {P:Program} {o:Oper} {a:Act} {w:World} {B:Base P} {N:Nat} {μ:Mu} {e:cf} {Z Z':Hp} {v:Value}
theorem Hi (b:Nat): ∀(vs:List Value) (k:Nat) (cells:Array Value),b+k+vs.length<=cells.size->
  ((vs.zipIdx k).foldl (λcs (p:Value×Nat)=>cs.setIfInBounds (b+p.2) p.1) cells).toList=cells.toList.take (b+k)++vs++cells.toList.drop (b+k+vs.length)
 |[],k,cells,_=>by simp
 |v::vs,k,cells,h=>by
  simp only[bD]at h;rw[List.zipIdx_cons,List.foldl_cons,Hi b vs (k+1) _ (by simp;omega)];have d:b+k<cells.toList.length:=by simp;omega
  simp only[Array.toList_setIfInBounds,bD];rw[List.take_set,List.drop_set_of_lt (by omega)];rw[show b+(k+1)=b+k+1 from by omega,List.take_add_one,show b+k+1+vs.length=b+k+(vs.length+1)from by omega]
  have f:(cells.toList.take (b+k)++(cells.toList[b+k]?).toList).set (b+k) v=cells.toList.take (b+k)++[v]:=by
   rw[List.getElem?_eq_getElem d];rw[List.set_append_right _ _ (by simp;omega)];have:b+k-(List.take (b+k) cells.toList).length=0:=by rw[List.length_take];omega
   rw[this];simp
  rw[f];simp
theorem Tp (b:Nat)(vs:Array Value)(cells:Array Value)(h:b+vs.size<=cells.size):
  (vs.zipIdx.foldl (λcs (c,j)=>cs.setIfInBounds (b+j) c) cells).toList=cells.toList.take b++vs.toList++cells.toList.drop (b+vs.size):=by
 have:=Hi b vs.toList 0 cells (by simpa using h);rw[<-Array.foldl_toList,Array.toList_zipIdx];simpa using this
theorem xe {f:Nat->Option (Nat×Nat)}(u:eU μ N e a.tmps): ∀(d:List (Nat×Operand)) (b:List (Nat×Nat×Operand)) (z:List Value) (p:Array Value) (cs:List Value),uP f d=O b->
  DV z (b.map λ(o,s,x)=>(o,s,e.ev x))=O cs->F2 (VR μ) z p.toList->∃h,Instr.fill f p (d.map λ(i,x)=>(i,a.eval x))=O h/\F2 (VR μ) cs h.toList
 |[],b,z,p,cs,k,m,q=>by
  simp[uP]at k;subst k;simp[DV]at m;subst m;exact⟨p,rfl,q⟩
 |(i,x)::r,b,z,p,cs,k,m,q=>by
  simp only[uP]at k;split at k
  .rename_i t n M L C D E;injection k with k
   subst k;obtain⟨rfl,J⟩:=ar D;simp only[List.map_cons,DV]at m;split at m
   .rename_i I;have A:=(u.ev J).cells;have l:(a.eval x).cells.size=n:=by rw[<-I.1,A.length];simp
    have K:z.length=p.size:=by simpa using q.length
    obtain⟨h,F,H⟩:=xe u r L _ ((a.eval x).cells.zipIdx.foldl (λcs (c,j)=>cs.setIfInBounds (t+j) c) p) cs E m (by
     rw[Tp _ _ _ (by omega),l]
     exact((q.take _).append A).append (q.drop _))
    refine⟨h, ?_,H⟩;simp only[List.map_cons,Instr.fill,C,l];rw[zF (by simp;omega)];exact F
   .cases m
  .cases k
theorem Rl {α β:Type}(P:Program)(w:World)(f:α->Sem β)(g:α->β): ∀(l:List α),(∀x∈l,(f x).run P w= .ok (g x) w)->(l.mapM f).run P w= .ok (l.map g) w
 |[],_=>by simp
 |x::l,h=>by
  have:=Rl P w f g l (λy b=>h y (by simp[b]));simp[List.mapM_cons,h x (by simp),this]
theorem JH {t:TypeId}{b:Array (Nat×Operand)}{d:Array Field}{z:List Value}{r:List (Nat×Nat×Operand)}(L:o.op= .build t b)(Q:P.underlying t=O (.struct d))(S:nM P t=O z)
  (h:(d.toList.all λf=>(lg P f.type).isSome)=Za) (M:uP (G7 P d) b.toList=O r) (k:(AOp.build z r).run e Z=O (v,Z')) (H:eU μ N e a.tmps) (F:R B μ Z w):iH P o a w B μ v Z':=by
 obtain⟨T,A,s,C⟩:=lK S;simp only[AOp.run]at k;obtain⟨u,I,k⟩:=Option.map_eq_some_iff.1 k;simp only[Prod.mk.injEq]at k;obtain⟨rfl,rfl⟩:=k;obtain⟨m,D,E⟩:=xe H b.toList r z T.cells u M I (s▸VR.plainCells (s▸C))
 have K:(d.mapM λf=>(do pure (f.offset,<-sizeOf f.type):Sem (Nat×Nat))).run P w= .ok (d.map λf=>(f.offset,(lg P f.type).getD 0)) w:=by
  rw[Array.mapM_eq_mapM_toList]
  have:=Rl P w (λf:Field=>(do pure (f.offset,<-sizeOf f.type):Sem (Nat×Nat))) (λf=>(f.offset,(lg P f.type).getD 0)) d.toList (λf p=>by
   have:=List.all_eq_true.1 h f p;obtain⟨n,l⟩:=Option.isSome_iff_exists.1 this
   simp[lW l,l])
  simp only[Sem.run_map,this,aB];rw[<-Array.toList_map]
 have q:(λi=>(d.map λf=>(f.offset,(lg P f.type).getD 0))[i]?)=G7 P d:=by
  funext i
  unfold G7;rw[Array.getElem?_map];cases J:d[i]? with
  |none=>rfl
  |some f=>
   have j:f∈d.toList:=by
    have:=Array.mem_of_getElem? J;simpa using this
   obtain⟨n,l⟩:=Option.isSome_iff_exists.1 (List.all_eq_true.1 h f j);simp[l]
 refine .same F (v':= .agg m) ?_ (.agg (by simpa using E));simp only[execOp,L,Instr.build,aD,A,aB,da Q,K,q];rw[Array.toList_map];simp only[D];rfl
theorem Lt {t d:TypeId}{m n:Nat}{b:Array (Nat×Operand)}{z:List Value}{j:List (Nat×Nat×Operand)}(E:o.op= .build t b)(H:P.underlying t=O (.array m d))(D:lg P d=O n)(I:nM P t=O z)
  (F:uP (λi=>O (i*n,n)) b.toList=O j) (f:(AOp.build z j).run e Z=O (v,Z')) (A:eU μ N e a.tmps) (u:R B μ Z w):iH P o a w B μ v Z':=by
 obtain⟨J,p,k,q⟩:=lK I;simp only[AOp.run]at f;obtain⟨l,C,f⟩:=Option.map_eq_some_iff.1 f;simp only[Prod.mk.injEq]at f;obtain⟨rfl,rfl⟩:=f;obtain⟨h,r,s⟩:=xe A b.toList j z J.cells l F C (k▸VR.plainCells (k▸q));refine .same u (v':= .agg h) ?_ (.agg (by simpa using s));simp only[execOp,E,Instr.build,aD,p,aB,da H,lW D];rw[Array.toList_map];simp only[r];rfl
theorem L3 (z:Array Value)(n:Nat)(j:0<z.size):((Array.range (n*z.size)).map (λi=>z[i % z.size]!)).toList=eb z.toList n:=by
 unfold eb;apply List.ext_getElem?;intro i;have b:(List.replicate n z.toList).flatten.length=n*z.size:=by simp
 by_cases f:i<n*z.size
 .have h:((Array.range (n*z.size)).map (λi=>z[i % z.size]!)).toList[i]?=O (z[i % z.size]'(Nat.mod_lt _ j)):=by
   simp[f,Nat.mod_lt _ j]
  rw[h];clear h;induction n generalizing i with
  |zero=>simp at f
  |succ n m=>
   rw[List.replicate_succ,List.flatten_cons];by_cases d:i<z.size
   .rw[List.getElem?_append_left (by simpa using d)];simp[Nat.mod_eq_of_lt d,d]
   .rw[List.getElem?_append_right (by simpa using d)];have k:=m (i-z.size) (by simp) (by rw[Nat.succ_mul]at f;omega);rw[Array.length_toList,<-k];have l:i % z.size=(i-z.size) % z.size:=by rw[Nat.mod_eq_sub_mod (by omega)]
    simp only[l]
 .rw[bB (by simp;omega),bB (by rw[b];omega)]
theorem xk (z:List Value)(n:Nat):(eb z n).length=n*z.length:=by simp[eb]
theorem Ek {z:List Value}(h:z.all xx=Za)(n:Nat):(eb z n).all xx=Za:=by
 unfold eb;rw[List.all_eq_true]at*;intro x b;simp only[List.mem_flatten,List.mem_replicate]at b;obtain⟨l,⟨_,rfl⟩,b⟩:=b;exact h x b
theorem MN {t d:TypeId}{b n:Nat}{f:Array (Nat×Operand)}{z:List Value}{k:List (Nat×Nat×Operand)}(ho:o.op= .buildSlice t b f)(hu:P.underlying t=O (.slice d))(hn:lg P d=O n)(hz:nM P d=O z)
  (Q:b*n<=16777216) (A:z.length=n) (h0:0<n)
  (hp:uP (λi=>O (i*n,n)) f.toList=O k) (q:(AOp.buildSlice n b z k).run e Z=O (v,Z')) (X:eU μ N e a.tmps) (W:R B μ Z w):iH P o a w B μ v Z':=by
 obtain⟨r,U,J,V⟩:=lK hz;simp only[AOp.run]at q;split at q
 .rename_i E M;split at q
  .simp only[Option.some.injEq,Prod.mk.injEq]at q;obtain⟨rfl,rfl⟩:=q;have H:r.cells.size=n:=by rw[<-A,<-J];simp[cellsOf]
   have F:r.cells.toList=z:=J
   have j: ∀C:Array Value,(b*n=0->C= #[])->(b*n≠0->C=r.cells)->((Array.range (b*n)).map (λi=>C[i % C.size]!)).toList=eb z b:=by
    intro C S T;by_cases m:b*n=0
    .have:b=0:=by
      rcases Nat.mul_eq_zero.1 m with h|h
      .exact h
      .omega
     subst this;simp[eb]
    .rw[T m,<-H,L3 _ _ (by omega),F]
   have I:F2 (VR μ) (eb z b) (eb z b):=VR.plainCells (Ek V b);obtain⟨s,K,L⟩:=xe X f.toList k (eb z b) (eb z b).toArray E hp M (by simpa using I)
   have u:s.size=b*n:=by
    have S:E.length=b*n:=by
     have: ∀(k:List (Nat×Nat×Value)) (x y:List Value),DV x k=O y->y.length=x.length:=by
      intro k;induction k with
      |nil=>intro x y h;simp[DV]at h;rw[h]
      |cons p k ih=>
       obtain⟨p1,p2,p3⟩:=p;intro x y h;simp only[DV]at h;split at h
       .rename_i D;rw[ih _ _ h];simp;omega
       .cases h
     rw[this _ _ _ M,xk,A]
    have:=L.length;simp at this;omega
   refine .new W s d E n (.slice (O ⟨w.heap.size,0,Y⟩) b b) L ?_ (λh=>VR.slice (o:=0) h (Nat.le_refl _) (Nat.le_refl _) (by simp[u]));simp only[execOp,ho,Instr.buildSlice,aD,da hu,aB,lW hn];rw[Zh];by_cases m:b*n=0
   .have D:=j #[] (λ_=>rfl) (λh=>absurd m h);have l:(Array.range (b*n)).map (λi=>(#[]:Array Value)[i % (#[]:Array Value).size]!)=(eb z b).toArray:=by rw[<-D]
    rw[zE m];simp only[aD,Sem.run_pure,aB,l];rw[Array.toList_map];simp[K,newRow]
   .have D:=j r.cells (λh=>absurd h m) (λ_=>rfl);have l:(Array.range (b*n)).map (λi=>r.cells[i % r.cells.size]!)=(eb z b).toArray:=by rw[<-D]
    rw[zF m];simp only[U,aD,Sem.run_pure,aB,l];rw[Array.toList_map];simp[K,newRow]
  .cases q
 .cases q
end
end
section
open Bool renaming false_eq_true -> cN, or_eq_true -> cO
open Builtin renaming len_ -> cK
open Nat renaming le_refl -> aB, add_assoc -> cL, add_mul -> cM
open Option renaming map_some -> cB, map_none -> cD
open Result renaming andThen_ok -> aD
open Sem renaming run_bind -> bB, run_pure -> bD
open Go.RowKit
section
variable {P:Program} {o:Oper} {a:Act} {w:World} {B:Base P} {N:Nat} {μ:Mu} {e:cf} {Z Z':Hp} {v:Value}
theorem VR.nils_inv {n c:Nat}{v':Value}(h:VR μ (.slice Y n c) v'):v'= .slice Y 0 0/\n=0/\c=0:=by cases h;exact⟨rfl,rfl,rfl⟩
theorem Uu {x b:Value}{n:Nat}(h:C9 x=O n)(d:VR μ x b):C9 b=O n:=by
 cases d<;>simp_all [C9]
theorem gb {b:Builtin}(f:o.op= .call c)(d:c.callee= .builtin b)(w:World):
  ∃cs,(execOp a.eval o).run P w=(builtin b c.argTypes o.type cs (c.args.map a.eval)).run P w:=by
 refine⟨c.args.map λ| .const _=>Za|_=>Zb, ?_⟩;simp only[execOp,f,resolve,d,invoke,bB,bD,aD];rfl
theorem Vo {α:Type}{c:Array α}{x:α}(h:c.toList=[x]):c= #[x]:=by rw[<-Array.toList_inj];simpa using h
theorem KC {α:Type}{c:Array α}{x y:α}(h:c.toList=[x,y]):c= #[x,y]:=by rw[<-Array.toList_inj];simpa using h
theorem DO {α:Type}{c:Array α}{x:α}{r:List α}(h:c.toList=x::r):c[0]?=O x:=by rw[<-Array.getElem?_toList,h];rfl
theorem aD8 {t u:TypeId}{ts:List TypeId}(q:o.op= .call c)(l:c.callee= .builtin .len)(k:c.args.toList=[x])(s:c.argTypes.toList=t::ts)(z:P.underlying t=O (.slice u))
  (A:co x=Za) (d:(AOp.len x).run e Z=O (v,Z')) (m:eU μ N e a.tmps) (j:R B μ Z w):iH P o a w B μ v Z':=by
 have h:=m.ev A;simp only[AOp.run]at d;split at d
 .rename_i p n D r;simp only[Option.some.injEq,Prod.mk.injEq]at d;obtain⟨rfl,rfl⟩:=d;rw[r]at h
  have: ∃i b,a.eval x= .slice i n b:=by
   generalize a.eval x=y at h;cases h<;>exact⟨_,_,rfl⟩
  obtain⟨i,b,C⟩:=this;obtain⟨E,f⟩:=gb (P:=P) (a:=a) q l w;refine .same j ?_ (.int .i64 n);simp[f,builtin,cK,Vo k,DO s,C,da z,goInt]
 .cases d
theorem an3 {t u:TypeId}(l:o.op= .call c)(j:c.callee= .builtin .cap)(i:c.args.toList=[x])(p:c.argTypes.toList=[t])(q:P.underlying t=O (.slice u))
  (r:co x=Za) (b:(AOp.capN x).run e Z=O (v,Z')) (k:eU μ N e a.tmps) (f:R B μ Z w):iH P o a w B μ v Z':=by
 have h:=k.ev r;simp only[AOp.run]at b;split at b
 .rename_i m;simp only[Option.some.injEq,Prod.mk.injEq]at b;obtain⟨rfl,rfl⟩:=b;rw[m]at h;obtain⟨n,_,_⟩:=h.nils_inv;obtain⟨s,d⟩:=gb (P:=P) (a:=a) l j w;refine .same f ?_ (.int .i64 0);simp[d,builtin,Builtin.cap_,Vo i,Vo p,n,da q,goInt]
 .cases b
theorem an8 {t:TypeId}{ts:List TypeId}(l:o.op= .call c)(j:c.callee= .builtin .len)(i:c.args.toList=[x])(n:c.argTypes.toList=t::ts)(p:P.underlying t=O .string)
  (q:co x=Za) (b:(AOp.lenS x).run e Z=O (v,Z')) (k:eU μ N e a.tmps) (f:R B μ Z w):iH P o a w B μ v Z':=by
 have h:=k.ev q;simp only[AOp.run]at b;split at b
 .rename_i s m;simp only[Option.some.injEq,Prod.mk.injEq]at b;obtain⟨rfl,rfl⟩:=b;rw[m]at h;obtain⟨r,d⟩:=gb (P:=P) (a:=a) l j w;refine .same f ?_ (.int .i64 s.size);simp[d,builtin,cK,Vo i,DO n,h.string_inv,da p,goInt]
 .cases b
theorem UI {t:TypeId}{ts:List TypeId}{m:Nat}(n:o.op= .call c)(l:c.callee= .builtin .len)(h:c.args.toList=[x])(j:c.argTypes.toList=t::ts)
  (d:(∃u,P.underlying t=O (.array m u))∨∃p u,P.underlying t=O (.pointer p)/\P.underlying p=O (.array m u))
  (i:(AOp.lenC m).run e Z=O (v,Z')) (k:R B μ Z w):iH P o a w B μ v Z':=by
 simp only[AOp.run,Option.some.injEq,Prod.mk.injEq]at i;obtain⟨rfl,rfl⟩:=i;obtain⟨r,b⟩:=gb (P:=P) (a:=a) n l w;refine .same k ?_ (.int .i64 m);rcases d with⟨u,d⟩|⟨p,u,d,q⟩
 .cases f:a.eval x<;>simp[b,builtin,cK,Vo h,DO j,da d,goInt,f]
 .cases f:a.eval x<;>simp[b,builtin,cK,Vo h,DO j,da d,da q,goInt,f]
theorem ao1 (s:o.op= .call c)(r:c.callee= .builtin .max)(n:c.args.toList=[x,y])(t:co x=Za)(u:co y=Za)(b:(AOp.most x y).run e Z=O (v,Z'))(f:eU μ N e a.tmps)(m:R B μ Z w):iH P o a w B μ v Z':=by
 simp only[AOp.run]at b;obtain⟨z,i,b⟩:=Option.map_eq_some_iff.1 b;simp only[Prod.mk.injEq]at b;obtain⟨rfl,rfl⟩:=b;have h:=f.ev t;have l:=f.ev u;generalize e.ev x=p at*;generalize e.ev y=q at*;cases p<;>cases q<;>simp[Tz]at i;subst i;have j:=h.int_inv;have k:=l.int_inv;obtain⟨A,d⟩:=gb (P:=P) (a:=a) s r w;exact .same m (by simp[d,builtin,Builtin.max_,KC n,j,k,Builtin.max2]) (.int _ _)
theorem YB (s:o.op= .call c)(r:c.callee= .builtin .min)(n:c.args.toList=[x,y])(t:co x=Za)(u:co y=Za)(b:(AOp.least x y).run e Z=O (v,Z'))(f:eU μ N e a.tmps)(m:R B μ Z w):iH P o a w B μ v Z':=by
 simp only[AOp.run]at b;obtain⟨z,i,b⟩:=Option.map_eq_some_iff.1 b;simp only[Prod.mk.injEq]at b;obtain⟨rfl,rfl⟩:=b;have h:=f.ev t;have l:=f.ev u;generalize e.ev x=p at*;generalize e.ev y=q at*;cases p<;>cases q<;>simp[Pv]at i;subst i;have j:=h.int_inv;have k:=l.int_inv;obtain⟨A,d⟩:=gb (P:=P) (a:=a) s r w;exact .same m (by simp[d,builtin,Builtin.min_,KC n,j,k,Builtin.min2]) (.int _ _)
theorem P5 {y d:Nat}{x:Option Operand}{n:Nat}(p: ∀u,x=O u->co u=Za)(h:mS y d (x.map e.ev)=O n)(l:eU μ N e a.tmps):
  match x with
  |none=>n=d
  |some u=> ∃k i,a.eval u= .int k i/\0<=i/\i<=y/\n=i.toNat:=by
 cases x with
 |none=>simp[mS]at h;exact h.symm
 |some u=>
  have j:=l.ev (p u rfl);simp only[cB]at h;unfold mS at h;split at h
  .rename_i k i f;simp only[Option.some.injEq]at f;split at h
   .rename_i b;rw[f]at j;exact⟨k,i,j.int_inv,b.1,b.2,by simpa using h.symm⟩
   .cases h
  .cases h
  .rename_i m;cases m
theorem HK {s:Bool}{ln f b:Nat}{j:Option Operand}{h l:Nat}(t: ∀u,lo=O u->co u=Za)(r: ∀u,j=O u->co u=Za)
  (F:mS f ln (j.map e.ev)=O h) (H:mS h 0 (lo.map e.ev)=O l) (D:f<=b) (E:eU μ N e a.tmps) (w:World):
  (Instr.sliceBounds s ln b (lo.map a.eval) (j.map a.eval) Y).run P w= .ok (l,h,b) w:=by
 have m:=P5 r F E;have d:=P5 t H E;unfold Instr.sliceBounds;cases j with
 |none=>
  simp only at m;subst m;cases lo with
  |none=>simp only at d;subst d;simp
  |some u=>
   obtain⟨k,i,n,p,q,rfl⟩:=d;simp[n,Instr.sliceBound,asIntOf,p,q]
 |some L=>
  obtain⟨K,I,z,A,J,rfl⟩:=m;have C:I<=(b:Int):=by omega
  cases lo with
  |none=>simp only at d;subst d;simp[z,Instr.sliceBound,asIntOf,A,C]
  |some u=>
   obtain⟨k,i,n,p,q,rfl⟩:=d;simp only[cB,n,z,Instr.sliceBound,asIntOf,bB,bD,aD];rw[zE ⟨A,C⟩];simp only[bD,aD];rw[zE ⟨p,q⟩];rfl
theorem KL {y d n:Nat}{x:Option Value}(h:mS y d x=O n):n<=y∨(x=Y/\n=d):=by
 unfold mS at h;split at h
 .split at h
  .rename_i b;simp at h;left;omega
  .cases h
 .cases h
 .right;exact⟨rfl,by simpa using h.symm⟩
theorem xm {ln b:Nat}{k:Option Operand}{h l:Nat}(m:ln<=b)(j:mS b ln (k.map e.ev)=O h)(f:mS h 0 (lo.map e.ev)=O l):l<=h/\h<=b:=by
 rcases KL j with i|⟨_,i⟩
 .rcases KL f with d|⟨_,d⟩<;>omega
 .rcases KL f with d|⟨_,d⟩<;>omega
theorem YE {t d:TypeId}{n:Nat}{T:Option Operand}(ho:o.op= .slice t x lo T Y)(hu:P.underlying t=O (.slice d))(hn:lg P d=O n)(hx:co x=Za)(V: ∀u,lo=O u->co u=Za)(S: ∀u,T=O u->co u=Za)
  (k:(AOp.slice n x lo T).run e Z=O (v,Z')) (he:eU μ N e a.tmps) (F:R B μ Z w):iH P o a w B μ v Z':=by
 have M:=he.ev hx;simp only[AOp.run]at k;split at k
 .rename_i p L D hp;split at k
  .rename_i hcut;split at k
   .rename_i h J;split at k
    .rename_i l z;simp only[Option.some.injEq,Prod.mk.injEq]at k;obtain⟨rfl,rfl⟩:=k;rw[hp]at M
     have m: ∀(Q:Option Addr) (f:Nat),a.eval x= .slice Q L f->D<=f->
       (execOp a.eval o).run P w= .ok (.value (.slice (if f=l then Q else Q.map (·.add (l*n))) (h-l) (f-l))) w:=by
      intro Q f hy U;have hb:=HK (P:=P) (s:=Za) V S J z U he w;simp only[execOp,ho,Instr.sliceAt,bB,da hu,aD,Instr.slice,hy,cD,hb,lW hn,bD]
     cases p with
     |none=>
      obtain⟨K,rfl,rfl⟩:=M.nils_inv;have:=xm (aB _) J z;refine .same F (m _ _ K (aB _)) ?_;have r:h=0:=by omega
      subst r;simp only[cD,ite_self];rw[show(0:Nat)-l=0 from by omega];exact .nils
     |some A=>
      generalize K:a.eval x=q at M;cases M with
      |slice i h2 h3 I=>
       rename_i b off f g;obtain⟨W,X⟩:=xm h2 J z;refine .same F (m _ _ K h3) ?_;by_cases H:f=l
       .rw[zE H,H];rw[show l-l=0 from by omega,show D-l=0 from by omega,show h-l=0 from by omega];exact .slice0 _ i
       .rw[zF H];simp only[cB,MR,ph];rw[cL];refine .slice i (by omega) (by omega) ?_;cases lo with
        |none=>
         have:l=0:=by simpa[mS]using z.symm
         subst this;simpa using I
        |some u=>
         rw[cO]at hcut;rcases hcut with hcut|hcut
         .have:D=0:=by simpa using hcut
          have:l=0:=by omega
          subst this;simpa using I
         unfold Au at hcut;simp only at hcut;split at hcut
         .rename_i C j;have r:=(F.get j i.1).es;have E:C.es=n:=by simpa using hcut
          rw[r,E]at I⊢;have:l*n+(f-l)*n=f*n:=by rw[<-cM];congr 1;omega
          omega
         .cases hcut
      |slice0 A' i=>
       obtain⟨W,X⟩:=xm (aB _) J z;refine .same F (m _ _ K (aB _)) ?_;have r:l=0:=by omega
       have E:h=0:=by omega
       subst r E;simp only[cB,if_true];exact .slice0 _ i
      |sliceX i I=>
       rename_i b off g;obtain⟨W,X⟩:=xm (aB _) J z;refine .same F (m _ _ K (aB _)) ?_;by_cases H:L=l
       .rw[zE H,H];rw[show l-l=0 from by omega,show h-l=0 from by omega];exact .slice0 _ i
       .rw[zF H];simp only[cB,MR,ph];rw[cL];refine .slice i (by omega) (by omega) ?_;cases lo with
        |none=>
         have:l=0:=by simpa[mS]using z.symm
         subst this;simpa using I
        |some u=>
         rw[cO]at hcut;rcases hcut with hcut|hcut
         .have:L=0:=by simpa using hcut
          omega
         unfold Au at hcut;simp only at hcut;split at hcut
         .rename_i C j;have r:=(F.get j i.1).es;have E:C.es=n:=by simpa using hcut
          rw[r,E]at I⊢;have:l*n+(L-l)*n=L*n:=by rw[<-cM];congr 1;omega
          omega
         .cases hcut
      |sliceX0 A' i=>
       obtain⟨W,X⟩:=xm (aB _) J z;refine .same F (m _ _ K (aB _)) ?_;have r:l=0:=by omega
       have E:h=0:=by omega
       subst r E;simp only[cB,if_true];exact .slice0 _ i
    .cases k
   .cases k
  .cases k
 .cases k
theorem Wo {t d:TypeId}{E J:Operand}(ho:o.op= .slice t x Y (O E) (O J))(hu:P.underlying t=O (.slice d)){n:Nat}(hn:lg P d=O n)(hx:co x=Za)(hhi:co E=Za)(hmx:co J=Za)
  (j:(AOp.sliceX x E J).run e Z=O (v,Z')) (V:eU μ N e a.tmps) (U:R B μ Z w):iH P o a w B μ v Z':=by
 have K:=V.ev hx;have H:=V.ev hhi;have I:=V.ev hmx;simp only[AOp.run]at j;split at j
 .rename_i p ln C hp;split at j
  .rename_i m l;split at j
   .rename_i h k;split at j
    .rename_i W;subst W
     have hm': ∃M u,e.ev J= .int M u/\0<=u/\u<=C/\h=u.toNat:=by
      unfold mS at l;split at l
      .rename_i M u i;injection i with i
       split at l
       .rename_i D;injection l with l
        exact⟨M,u,i,D.1,D.2,l.symm⟩
       .cases l
      .cases l
      .rename_i i;cases i
     obtain⟨M,u,q1,q2,q3,q4⟩:=hm'
     have X: ∃L r,e.ev E= .int L r/\0<=r/\r<=h/\h=r.toNat:=by
      unfold mS at k;split at k
      .rename_i L r i;injection i with i
       split at k
       .rename_i D;injection k with k
        exact⟨L,r,i,D.1,D.2,k.symm⟩
       .cases k
      .cases k
      .rename_i i;cases i
     obtain⟨L,r,r1,r2,r3,r4⟩:=X;rw[q1]at I;rw[r1]at H;have v1:=I.int_inv;have v2:=H.int_inv;rw[hp]at K
     have z: ∀(Q:Option Addr) (f:Nat),a.eval x= .slice Q ln f->C<=f->
       (execOp a.eval o).run P w= .ok (.value (.slice Q h h)) w:=by
      intro Q f hy hle;have e1:r=(h:Int):=by omega
      have e2:u=(h:Int):=by omega
      subst e1 e2;have F:h<=f:=by omega
      have hb:(Instr.sliceBounds Za ln f Y (O (a.eval E)) (O (a.eval J))).run P w= .ok (0,h,h) w:=by
       simp[Instr.sliceBounds,Instr.sliceBound,asIntOf,v1,v2,F]
      simp only[execOp,ho,Instr.sliceAt,bB,da hu,aD,Instr.slice,hy,cD,cB,hb,lW hn,bD,Nat.zero_mul,Nat.sub_zero]
      congr 3
      split
      .rfl
      .cases Q with
       |none=>rfl
       |some A=>simp[Addr.add]
     cases p with
     |none=>
      obtain⟨i,rfl,rfl⟩:=K.nils_inv;simp only[Option.some.injEq,Prod.mk.injEq]at j;obtain⟨rfl,rfl⟩:=j;have S:h=0:=by omega
      refine .same U (z _ _ i (aB _)) ?_;rw[S];exact .nils
     |some A=>
      obtain⟨b,off,s⟩:=A;cases s with
      |some _=>cases j
      |none=>
       simp only[Option.some.injEq,Prod.mk.injEq]at j;obtain⟨rfl,rfl⟩:=j;generalize i:a.eval x=q at K;cases K with
       |slice T h2 h3 h4=>
        rename_i f g;refine .same U (z _ _ i h3) (.sliceX T ?_);have:h*g.es<=f*g.es:=Nat.mul_le_mul_right _ (by omega);omega
       |slice0 A' T=>
        have S:h=0:=by omega
        refine .same U (z _ _ i (aB _)) ?_;rw[S];exact .sliceX0 _ T
    .cases j
   .cases j
  .cases j
 .cases j
theorem QS {t:TypeId}{f:Option Operand}(r:o.op= .slice t x lo f Y)(A:P.underlying t=O .string)(C:co x=Za)(i: ∀u,lo=O u->co u=Za)(d: ∀u,f=O u->co u=Za)
  (b:(AOp.sliceStr x lo f).run e Z=O (v,Z')) (j:eU μ N e a.tmps) (m:R B μ Z w):iH P o a w B μ v Z':=by
 have k:=j.ev C;simp only[AOp.run]at b;split at b
 .rename_i s z;split at b
  .rename_i h p;split at b
   .rename_i l q;simp only[Option.some.injEq,Prod.mk.injEq]at b;obtain⟨rfl,rfl⟩:=b;rw[z]at k;have n:=HK (P:=P) (s:=Zb) i d p q (aB _) j w;refine .same m (v':= .string (s.extract l h)) ?_ (.string _);simp only[execOp,r,Instr.sliceAt,bB,da A,aD,Instr.slice,k.string_inv,cD,Option.isSome_none,cN,if_false,n,bD]
   .cases b
  .cases b
 .cases b
theorem QR {t d:TypeId}{m n:Nat}{q:Option Operand}(M:o.op= .slice t x lo q Y)(S:P.underlying t=O (.array m d))(L:lg P d=O n)(T:co x=Za)(r: ∀u,lo=O u->co u=Za)(p: ∀u,q=O u->co u=Za)
  (f:(AOp.sliceArr n m x lo q).run e Z=O (v,Z')) (D:eU μ N e a.tmps) (A:R B μ Z w):iH P o a w B μ v Z':=by
 have H:=D.ev T;simp only[AOp.run]at f;split at f
 .rename_i b z Q;split at f
  .rename_i I i;split at f
   .rename_i C;split at f
    .rename_i h E;split at f
     .rename_i l F;split at f
      .rename_i K;simp only[Option.some.injEq,Prod.mk.injEq]at f;obtain⟨rfl,rfl⟩:=f;rw[Q]at H;obtain⟨g,k,U⟩:=H.ptr_inv;obtain⟨V,W⟩:=xm (aB _) E F;have J:=HK (P:=P) (s:=Zb) r p E F (aB _) D w;have j:=A.get i k.1;obtain⟨_,X,_⟩:=j.own k.2 C.1;refine .same A (v':= .slice (O ⟨g.c,g.o+(z+l*n),Y⟩) (h-l) (m-l)) ?_ (.slice k (by omega) (aB _) ?_)
       .simp only[execOp,M,Instr.sliceAt,bB,da S,aD,U,Instr.sureAddr,cD,J,lW L,bD];rw[Zh,ph,cL]
       .rw[j.es,C.2.1];have:l*n+(m-l)*n=m*n:=by rw[<-cM];congr 1;omega
        omega
      .cases f
     .cases f
    .cases f
   .cases f
  .cases f
 .cases f
theorem O7 {t d:TypeId}{n b:Nat}{z:List Value}(W:o.op= .makeSlice t x y)(X:P.underlying t=O (.slice d))(V:lg P d=O n)(Q:P6 P d=O b)(hz:nM P d=O z)(hx:co x=Za)(hy:co y=Za)
  (r:z.length=n) (h0:0<n) (p:(AOp.makeSlice n b z x y).run e Z=O (v,Z')) (J:eU μ N e a.tmps) (M:R B μ Z w):iH P o a w B μ v Z':=by
 have H:=J.ev hx;have I:=J.ev hy;obtain⟨s,K,F,L⟩:=lK hz;simp only[AOp.run]at p;split at p
 .rename_i k l k' c U S;split at p
  .rename_i j;obtain⟨c1,c2,c3,c4⟩:=j;simp only[Option.some.injEq,Prod.mk.injEq]at p;obtain⟨rfl,rfl⟩:=p;rw[U]at H;rw[S]at I;have v1:=H.int_inv;have v2:=I.int_inv;obtain⟨i,T,C⟩:=Option.map_eq_some_iff.1 Q;have w1:IntKind.i64.wrap l=l:=IntWalk.i64_in _ (by omega);have w2:IntKind.i64.wrap c=c:=IntWalk.i64_in _ (by omega);have E:s.cells.size=n:=by rw[<-r,<-F];simp[cellsOf]
   have D:s.cells.toList=z:=F;have q:(eb z c.toNat).toArray.size=c.toNat*n:=by simp[xk,r]
   refine .new M (eb z c.toNat).toArray d (eb z c.toNat) n (.slice (O ⟨w.heap.size,0,Y⟩) l.toNat c.toNat) ?_ ?_ (λh=>VR.slice (o:=0) h (by omega) (aB _) (by rw[q];simp))
   .simpa using VR.plainCells (Ek L _)
   .have ht: ¬((b:Int)*c > 281474976710656):=by omega
    have m: ∀w:World,(typeInfo d).run P w= .ok i w:=λw=>by simp[typeInfo,T]
    simp only[execOp,W,Instr.makeSlice,bB,da X,aD,v1,v2,asInt,asIntOf,bD,m,C,w1,w2]
    have t1:(Zc (c<0)||Zc ((b:Int)*c > 2 ^ 48))=Zb:=by
     simp;omega
    have t2:(Zc (l<0))=Zb:=by simp;omega
    have t3:(Zc (l > c))=Zb:=by simp;omega
    simp only[t1,t2,t3,Bool.or_false,cN,if_false,bB,run_askRoom,aD,lW V];by_cases f:c.toNat*n=0
    .have u:c.toNat=0:=by
      rcases Nat.mul_eq_zero.1 f with h|h
      .exact h
      .omega
     have:(eb z c.toNat)=[]:=by rw[u];rfl
     rw[zE f,this,f];simp[newRow,show Array.range 0= #[]from rfl]
    .rw[zF f]
     have A:(Array.range (c.toNat*n)).map (λi=>s.cells[i % s.cells.size]!)=(eb z c.toNat).toArray:=by
      rw[<-D,<-L3 _ _ (by omega),E]
     simp only[bB,K,bD,aD,A];simp[newRow]
  .cases p
 .cases p
end
end
section
open Bool renaming false_eq_true -> cM
open Builtin renaming firstCells -> bB, zeroCells -> bD, append_ -> cR, lenOf -> cS
open List renaming length_append -> cK, map_cons -> cN, map_nil -> cO, map_toArray -> cP, take_left -> cT, getElem?_drop -> cV, getElem?_take -> cW, append_assoc -> cY, getElem?_eq_getElem -> cZ, getElem?_eq_none -> dA
open Nat renaming le_refl -> cB, add_mul -> cL, zero_add -> cQ, mul_le_mul_right -> cU, add_assoc -> cX
open Result renaming andThen_ok -> aB
open Sem renaming run_bind -> aD, run_pure -> cD
open Go.RowKit
section
variable {P:Program} {o:Oper} {a:Act} {w w':World} {B:Base P} {N:Nat} {μ:Mu} {e:cf} {Z Z':Hp} {v:Value}
theorem Ly {x:Blk}{o:Nat}{cs:List Value}(h:pz x o 0=O cs):cs=[]:=by
 unfold pz at h;split at h
 .simpa using h.symm
 .cases h
theorem uM {es n ln:Nat}{x r:Value}{cs:List Value}(p:C9 x=O ln)(E:n<=ln)(h:Z.slice es x n=O cs)(D:R B μ Z w)(f:VR μ x r):
  ∃arr:Array Value,(∀w':World,w'.heap=w.heap->(bB es n r).run P w'= .ok arr w')/\F2 (VR μ) cs arr.toList:=by
 unfold Hp.slice at h;split at h
 .rename_i b F l c;simp[C9]at p;subst p;split at h
  .rename_i j;injection h with h
   subst h;subst j;rcases f.slice_inv with⟨g,z,m,_,_,_,rfl⟩|⟨rfl,rfl,A',rfl,_⟩
   .exact⟨#[],λ_ _=>by simp[bB,loadCells,loadCellsFrom], .nil⟩
   .exact⟨#[],λ_ _=>by simp[bB,loadCells,loadCellsFrom], .nil⟩
  split at h
  .rename_i t d;rcases f.slice_inv with⟨g,z,m,_,_,_,rfl⟩|⟨rfl,rfl,A',rfl,_⟩
   .obtain⟨i,A,C⟩:=D.reads d m h;exact⟨i.toArray,λw' k=>by simp[bB,A P w' k],C⟩
   .have:n=0:=by omega
    subst this;rw[Nat.zero_mul]at h;rw[Ly h];exact⟨#[],λ_ _=>by simp[bB,loadCells,loadCellsFrom], .nil⟩
  .cases h
 .obtain⟨rfl,_,_⟩:=f.nils_inv;split at h
  .injection h with h
   subst h;exact⟨#[],λ_ _=>by simp[bB], .nil⟩
  .cases h
 .rename_i s;split at h
  case isFalse=>cases h
  injection h with h
  subst h;obtain rfl:=f.string_inv;refine⟨_,λ_ _=>by simp only[bB];rfl, ?_⟩;simp only[Array.toList_map]
  exact F2.same _ λu q=>by
   simp only[List.mem_map]at q;obtain⟨c,_,rfl⟩:=q;exact .int _ _
 .cases h
theorem Jc {x y:Blk}{b:Nat}{vs:List Value}(h:wh x b vs=O y):x.own=Za/\b+vs.length<=x.cells.length/\(∀v∈vs,one v=Za)/\y=⟨kD x.cells b vs,x.own,x.es⟩:=by
 unfold wh at h;split at h
 .rename_i d;injection h with h
  exact⟨d.1,d.2.1,λv f=>List.all_eq_true.1 d.2.2 v f,h.symm⟩
 .cases h
theorem an5 {t d:TypeId}{ts:List TypeId}{n:Nat}(ho:o.op= .call c)(hc:c.callee= .builtin .copy)(ha:c.args.toList=[x,y])(ht:c.argTypes.toList=t::ts)(hu:P.underlying t=O (.slice d))(hn:lg P d=O n)
  (hx:co x=Za) (hy:co y=Za) (h:(AOp.copy n x y).run e Z=O (v,Z')) (V:eU μ N e a.tmps) (K:R B μ Z w):iH P o a w B μ v Z':=by
 have l:=V.ev hx;have E:=V.ev hy;obtain⟨X,D⟩:=gb (P:=P) (a:=a) ho hc w;simp only[AOp.run]at h;split at h
 .rename_i p r dc hp;rw[hp]at l
  have M: ∃u k,a.eval x= .slice u r k:=by
   generalize a.eval x=q at l;cases l<;>exact⟨_,_,rfl⟩
  obtain⟨u,k,W⟩:=M;split at h
  .rename_i F C;have s:=Uu C E
   have L:(cS (a.eval y)).run P w= .ok F w:=by
    generalize a.eval y=q at*;cases q<;>simp[C9]at s<;>simp[cS,s]
   split at h
   .rename_i S f;obtain⟨m,f1,J⟩:=uM (P:=P) C (Nat.min_le_left _ _) f K E
    have head:(execOp a.eval o).run P w=((do
      if let O a:=u then storeCells a m.toList
      pure (goInt (Nat.min F r)):Sem Value).run P w).andThen λv w=> .ok (.value v) w:=by
     simp only[D,builtin,Builtin.copy_,KC ha,cP,cN,cO,DO ht,W,aD];have e1:(#[Value.slice u r k,a.eval y]:Array Value)[0]?=O (.slice u r k):=rfl;have e2:(#[Value.slice u r k,a.eval y]:Array Value)[1]?=O (a.eval y):=rfl;simp only[e1,e2,aD,da hu,aB,L,lW hn];have I:(bB n (F.min r) (a.eval y)).run P w= .ok m w:=f1 w rfl;simp only[I,aB];rfl
    have j:S=[]->iH P o a w B μ (.int .i64 (min F r:Nat)) Z:=by
     intro i;subst i
     have:m= #[]:=by
      cases z:m.toList with
      |nil=>simpa using z
      |cons _ _=>rw[z]at J;cases J
     subst this;refine .same K ?_ (.int _ _);rw[head];cases u<;>simp[storeCells,goInt]<;>rfl
    split at h
    .rename_i b T;split at h
     .rename_i i;simp only[Option.some.injEq,Prod.mk.injEq]at h;obtain⟨rfl,rfl⟩:=h;exact j i
     .rename_i i;split at h
      .rename_i H A;split at h
       .rename_i U hw;simp only[Option.some.injEq,Prod.mk.injEq]at h;obtain⟨rfl,rfl⟩:=h;obtain⟨k1,k2,k3,rfl⟩:=Jc hw;rw[W]at l;rcases l.slice_inv with⟨g,c',hg,_,_,_,hv⟩|⟨rfl,_⟩
        .injection hv with Q hv2 hv3
         subst Q;obtain⟨w',g1,g2,g3⟩:=R.writes _ _ J k3 Z w b T 0 H g K A k1 hg (by omega);refine⟨_,w',μ, .int .i64 (min F r:Nat), ?_, .inl rfl,μ.le_refl,g2, .int _ _,g3⟩;rw[head];simp[g1,goInt]
        .exfalso;rw[Nat.min_zero]at f;unfold Hp.slice at f;split at f
         .simp at f;exact i f
         .simp at f;exact i f
         .simp at f;exact i f.2
         .cases f
       .cases h
      .cases h
    .split at h
     .rename_i i;simp only[Option.some.injEq,Prod.mk.injEq]at h;obtain⟨rfl,rfl⟩:=h;exact j i
     .cases h
    .cases h
   .cases h
  .cases h
 .cases h
theorem Gz {arr:Array Value}(h:F2 (VR μ) [] arr.toList):arr= #[]:=by
 cases b:arr.toList with
 |nil=>simpa using b
 |cons _ _=>rw[b]at h;cases h
theorem P2 {st t d:TypeId}{n l:Nat}{z:List Value}(ho:o.op= .call c)(hc:c.callee= .builtin .append)(U:c.args.toList=[x,y])(ht:c.argTypes.toList=[st,t])(hu:P.underlying st=O (.slice d))
  (I:(∃q,P.underlying t=O (.slice q))∨P.underlying t=O .string) (W:lg P d=O n) (hb:P6 P d=O l) (hz:nM P d=O z)
  {s:Option Addr} {b j ln:Nat} (X:a.eval x= .slice s b j) (D:C9 (a.eval y)=O ln) {arr:Array Value} (u:(bB n ln (a.eval y)).run P w= .ok arr w):
  (b+ln<=j->(execOp a.eval o).run P w=((do
    if let O a:=s then storeCells (a.add (b*n)) arr.toList
    pure (.slice s (b+ln) j):Sem Value).run P w).andThen λv w=> .ok (.value v) w)/\
  (j<b+ln->(b+ln)*l<=140737488355328->b+ln<=9223372036854775807->∀r:Array Value,(bB n b (.slice s b j)).run P w.drew= .ok r w.drew->(bB n ln (a.eval y)).run P w.drew= .ok arr w.drew->
   ∃m,b+ln<=m/\∃J:Value,cellsOf J=z/\(execOp a.eval o).run P w= .ok (.value (.slice (O ⟨w.heap.size,0,Y⟩) (b+ln) m)) (w.drew.alloc (.cells (r++arr++bD J.cells (m-(b+ln))) d))):=by
 obtain⟨cst,k⟩:=gb (P:=P) (a:=a) ho hc w
 have E:(cS (a.eval y)).run P w= .ok ln w:=by
  generalize a.eval y=q at*;cases q<;>simp[C9]at D<;>simp[cS,D]
 obtain⟨i,hi,C⟩:=Option.map_eq_some_iff.1 hb;have f: ∀w:World,(typeInfo d).run P w= .ok i w:=λw=>by simp[typeInfo,hi]
 have M:(#[Value.slice s b j,a.eval y]:Array Value)[0]?=O (.slice s b j):=rfl;have Q:(#[Value.slice s b j,a.eval y]:Array Value)[1]?=O (a.eval y):=rfl;have S:(#[st,t]:Array TypeId)[0]?=O st:=rfl;have T:(#[st,t]:Array TypeId)[1]?=O t:=rfl;refine⟨λA=> ?_,λp h V r H F=> ?_⟩
 .rw[k];rcases I with⟨q,hdd⟩|hdd
  all_goals
   simp only[builtin,cR,KC U,KC ht,cP,cN,cO,X,M,Q,S,T,aD,da hu,da hdd,aB,lW W,cD,cM,if_false,E,Bool.not_false,if_true];rw[zE A];simp only[aD,u,aB];rfl
 .obtain⟨J,z1,z2,z3⟩:=lK hz;refine⟨grownCap w (b+ln) j d,grownCap_ge _ _ _ _,J,z2, ?_⟩;have L:=growslice_fits p h;rw[k];rcases I with⟨q,hdd⟩|hdd
  all_goals
   simp only[builtin,cR,KC U,KC ht,cP,cN,cO,X,M,Q,S,T,aD,da hu,da hdd,aB,lW W,cD,cM,if_false,E,Bool.not_false,if_true];rw[Zh];simp only[aD,f,aB,C,false_or]
   have K: ¬(((b+ln:Nat):Int) > IntKind.i64.max/\l=0):=by
    have:IntKind.i64.max=9223372036854775807:=by decide
    omega
   rw[zF K];simp only[aD,f,aB,C];rw[Zh];simp only[aD,run_choose,Question.forced,cM,if_false,World.drew_eq,aB,f,run_askRoom,H,F,z1,newRow,run_newObj,cD,World.alloc_eq];rfl
theorem yG (z:Array Value)(n:Nat):(bD z n).size=n*z.size:=by simp[bD]
theorem Ci (Z:Hp)(b:R B μ Z w):R B μ Z w.drew:=b.same rfl
theorem ab0 {α:Type}(A M T:List α):(A++(M++T)).take (A.length+M.length)=A++M:=by
 rw[<-cY,<-cK,cT]
theorem Il {x:Blk}{o n:Nat}{cs:List Value}(h:pz x o n=O cs):cs.length=n:=by
 unfold pz at h;split at h
 .injection h with h
  subst h;simp;omega
 .cases h
theorem WH {es n:Nat}{x:Value}{cs:List Value}(h:Z.slice es x n=O cs)(f: ∀s,x= .string s->n<=s.size):cs.length=n*es:=by
 unfold Hp.slice at h;split at h
 .split at h
  .rename_i b;injection h with h;subst h b;simp
  split at h
  .exact Il h
  .cases h
 .split at h
  .rename_i b;injection h with h;subst h b;simp
  .cases h
 .rename_i s;split at h
  case isFalse=>cases h
  rename_i d;injection h with h
  subst h;have i:=f s rfl;subst d;simp;omega
 .cases h
theorem Eh (g o:Nat)(t:TypeId)(d:Nat×Nat): ∀(vs:List Value) (i:Nat) (b:Array Value) (w:World),w.heap[g]?=O (.cells b t d)->(b.size<=d.1∨d.1=d.2)->o+i+vs.length<=b.size->(∀v∈vs,v.oneCell'=Za)->
  (storeCells ⟨g,o,Y⟩ vs i).run P w= .ok () (w.setRow g (b.toList.take (o+i)++vs++b.toList.drop (o+i+vs.length)).toArray)
 |[],i,b,w,j,_,_,_=>by
  simp only[storeCells,List.append_nil,List.length_nil,Nat.add_zero,List.take_append_drop,Array.toArray_toList];rw[setRow_self w g b t d j];rfl
 |v::f,i,b,w,j,n,k,m=>by
  have p:o+i<b.size:=by simp at k;omega
  have h:w.cell? ⟨g,o+i,Y⟩=O b[o+i]:=by simp[World.cell?,j,p]
  have l:(store ((⟨g,o,Y⟩:Addr).add i) v).run P w= .ok () (w.setRow g (b.setIfInBounds (o+i) v)):=by
   rw[ph,run_store P w _ v _ (m v (by simp)),h];simp[K6 w g (o+i) b t d j p n,setCell_eq_setRow w g (o+i) b t d v j]
  have r:=Eh g o t d f (i+1) (b.setIfInBounds (o+i) v) (w.setRow g (b.setIfInBounds (o+i) v)) (setRow_heap w g b _ t _ j) (by simpa using n) (by simp at k⊢;omega) (λx q=>m x (by simp[q]));simp only[storeCells,aD,l,aB,r,setRow_setRow]
  congr 3
  have e:=list_seg_step b.toList (o+i) v f (by simp at k⊢;omega);simpa[Array.toList_setIfInBounds,cX]using e
theorem R.moved (r:R B μ Z w){b:Nat}{blk:Blk}(f:Z.m b=O blk)(p:blk.own=Za)(F:μ.at b g){d n:Nat}{cells:List Value}{A:Array Value}{t:TypeId}{W:Nat×Nat}(hfr:A.size<=W.1∨W.1=W.2)
  (V:w.heap.size=w'.heap.size) (M:w'.heap[g.c]?=O (.cells A t W)) (H: ∀k,k≠g.c->w'.heap[k]?=w.heap[k]?) (hsz:g.o+g.ext<=A.size) (hfit:d+cells.length<=g.ext)
  (hc:F2 (VR μ) cells ((A.toList.drop (g.o+d)).take cells.length)):
  R B (μ.add Z.n ⟨g.c,g.o+d,g.ext-d,n,t,Y⟩) ((Z.set b Y).add ⟨cells,Za,n⟩) w'/\μ.le (μ.add Z.n ⟨g.c,g.o+d,g.ext-d,n,t,Y⟩):=by
 have hf:μ Z.n=Y:=r.fresh _ (cB _);have z:μ.le (μ.add Z.n ⟨g.c,g.o+d,g.ext-d,n,t,Y⟩):=Mu.le_add hf;have hl:=r.get f F.1;obtain⟨o1,o2,_⟩:=hl.own F.2 p;have hbn:b≠Z.n:=λe=>by have:=F.1;rw[e,hf]at this;cases this
 have old: ∀j x,j≠Z.n->((Z.set b Y).add ⟨cells,Za,n⟩).m j=O x->Z.m j=O x/\j≠b:=by
  intro j x u q;have E:j≠(Z.set b Y).n:=u;simp only[Hp.add,zF E]at q;simp only[Hp.set]at q;split at q
  .cases q
  .rename_i h;exact⟨q,h⟩
 have new: ∀x,((Z.set b Y).add ⟨cells,Za,n⟩).m Z.n=O x->x=⟨cells,Za,n⟩:=by
  intro x q;have E:Z.n=(Z.set b Y).n:=rfl;simp only[Hp.add,zE E]at q;exact(Option.some.inj q).symm
 refine⟨⟨by rw[<-V];exact r.base,λk hk=>(H k (by omega)).trans (r.old k hk),λj u=> ?_,λj x q=> ?_,λQ S x x' X g2 q s J ho U I=> ?_, ?_⟩,z⟩
 .have:Z.n+1<=j:=u;unfold Mu.add;rw[Zh];exact r.fresh j (by omega)
 .by_cases u:j=Z.n
  .subst u;obtain rfl:=new x q;refine⟨⟨g.c,g.o+d,g.ext-d,n,t,Y⟩,by simp[Mu.add],⟨by rw[<-V];exact hl.lt,rfl,λ_ i v hv=> ?_,λ_ _=>⟨o1,by simp;omega,A,t,W,M,by simp;omega,hfr⟩,λ_ hs=>(by cases hs),λhs=>by cases hs⟩⟩;obtain⟨v',D,L⟩:=hc.get i v hv
   have hi:i<cells.length:=by
    rcases Nat.lt_or_ge i cells.length with h3|h3
    .exact h3
    .simp[dA h3]at hv
   refine⟨v', ?_,L.mono z⟩;rw[cell_of_row _ _ _ A t W M];rw[cW,zE hi,cV]at D;simpa using D
  .obtain⟨s,T⟩:=old j x u q;obtain⟨K,D,L⟩:=r.live j x s;have J:K.c≠g.c:=λe=>r.inj b j blk x g K f s (λe=>T e.symm) p F.1 D e.symm
   exact⟨K,z _ _ D,(r.stays s D (by rw[V];exact cB _) g.c (λk hk _=>H k hk) J (λhi hk=>(r.sep j x K s D hi _ hk b blk g f F.1).1 rfl)).mono z⟩
 .by_cases u:Q=Z.n
  .subst u;have C:S≠Z.n:=λe=>J e.symm
   have e1:X.c=g.c:=by simp[Mu.add]at U;rw[<-U]
   have L:μ S=O g2:=by simpa[Mu.add,C]using I
   obtain⟨hx2,E⟩:=old S x' C s;rw[e1];exact r.inj b S blk x' g g2 f hx2 (λe=>E e.symm) p F.1 L
  .have D:μ Q=O X:=by simpa[Mu.add,u]using U
   obtain⟨hx1,hb1⟩:=old Q x u q;by_cases C:S=Z.n
   .subst C;have e1:g2.c=g.c:=by simp[Mu.add]at I;rw[<-I]
    rw[e1];exact λe=>r.inj b Q blk x g X f hx1 (λe=>hb1 e.symm) p F.1 D e.symm
   .have L:μ S=O g2:=by simpa[Mu.add,C]using I
    exact r.inj Q S x x' X g2 hx1 (old _ _ C s).1 J ho D L
 .refine r.sep.of (λj x K q l=> ?_) (λj x K q l hi hl'=> ?_)
  .by_cases u:j=Z.n
   .subst u;have e1:K=⟨g.c,g.o+d,g.ext-d,n,t,Y⟩:=by simp[Mu.add]at l;exact l.symm
    subst e1;exact .inr ⟨λh0=>(by cases h0),λQ x1 X k D L h3 h4=>(r.sep Q x1 X D L h3 k h4 b blk g f F.1).1⟩
   .exact .inl ⟨x,(old j x u q).1,by simpa[Mu.add,u]using l⟩
  .have T:j≠b:=λe=>by subst e;rw[F.1]at l;injection l with l;subst l;rw[F.2]at hi;cases hi
   unfold oN;rw[H _ (λe=>r.inj b j blk x g K f q (λe=>T e.symm) p F.1 l e.symm)]
theorem I0 {d:TypeId}{n by_:Nat}{z:List Value}{p:Option Addr}{l sc ln:Nat}{H:List Value}{arr:Array Value}(hzn:z.length=n)(f2:F2 (VR μ) H arr.toList)(m:H.length=ln*n)
  (hp:e.ev x= .slice p l sc) (hx:co x=Za) (s:mE n by_ Z p l sc ln H=O (v,Z')) (he:eU μ N e a.tmps) (hR:R B μ Z w)
  (K: ∀{S:Option Addr} {D:Nat},a.eval x= .slice S l D->(l+ln<=D->(execOp a.eval o).run P w=((do
    if let O a:=S then storeCells (a.add (l*n)) arr.toList
    pure (.slice S (l+ln) D):Sem Value).run P w).andThen λv w=> .ok (.value v) w)/\
   (D<l+ln->(l+ln)*by_<=140737488355328->l+ln<=9223372036854775807->∀C:Array Value,(bB n l (.slice S l D)).run P w.drew= .ok C w.drew->
    ∃A,l+ln<=A/\∃zz:Value,cellsOf zz=z/\(execOp a.eval o).run P w= .ok (.value (.slice (O ⟨w.heap.size,0,Y⟩) (l+ln) A)) (w.drew.alloc (.cells (C++arr++bD zz.cells (A-(l+ln))) d)))):iH P o a w B μ v Z':=by
 have hvx:=he.ev hx;rw[hp]at hvx;unfold mE at s;split at s
 .rename_i hfit;split at s
  .rename_i b j
   have M: ∃S D,a.eval x= .slice S l D/\sc<=D/\VR μ (.slice (O ⟨b,j,Y⟩) (l+ln) sc) (.slice S (l+ln) D)/\(H≠[]->∃g,μ.at b g/\S=O ⟨g.c,g.o+j,Y⟩):=by
    rcases hvx.slice_inv with⟨g,c',hg,U,h2,h3,hv⟩|⟨U,h2,A',hv,g0,hg0⟩
    .exact⟨_,c',hv,h2, .slice hg hfit h2 h3,λ_=>⟨g,hg,rfl⟩⟩
    .subst U h2;have:ln=0:=by omega
     subst this;exact⟨_,0,hv,cB _, .slice0 _ hg0,λhne=>absurd (List.eq_nil_of_length_eq_zero (by simpa using m)) hne⟩
   obtain⟨S,D,hq,hle,hvr,hwhere⟩:=M;obtain⟨head,_⟩:=K hq;have head:=head (by omega);split at s
   .rename_i hn0;simp only[Option.some.injEq,Prod.mk.injEq]at s;obtain⟨rfl,rfl⟩:=s;subst hn0;have:=Gz f2;subst this;refine .same hR ?_ hvr;rw[head];cases S<;>simp[storeCells]
   .rename_i hn0;split at s
    .rename_i blk L;split at s
     .rename_i blk' hw;simp only[Option.some.injEq,Prod.mk.injEq]at s;obtain⟨rfl,rfl⟩:=s;obtain⟨k1,k2,k3,rfl⟩:=Jc hw;obtain⟨g,hg,rfl⟩:=hwhere hn0;obtain⟨w',g1,g2,g3⟩:=R.writes _ _ f2 k3 Z w b (j+l*n) 0 blk g hR L k1 hg (by omega);refine⟨_,w',μ,_, ?_, .inl rfl,μ.le_refl,g2,hvr,g3⟩;rw[head];simp[ph,cX];simp[g1]
     .cases s
    .cases s
  .split at s
   .rename_i hn0;obtain⟨hn0,U,h2,h3⟩:=hn0;simp only[Option.some.injEq,Prod.mk.injEq]at s;obtain⟨rfl,rfl⟩:=s;subst U h2 h3 hn0;obtain⟨hq,_,_⟩:=hvx.nils_inv;have:=Gz f2;subst this;obtain⟨head,_⟩:=K hq;refine .same hR ?_ .nils;rw[head (by omega)];simp
   .cases s
  .cases s
 .rename_i hfit;split at s
  .rename_i hbig;obtain⟨hb1,hb2,hall⟩:=hbig;have hone: ∀u∈H,one u=Za:=λu hu=>List.all_eq_true.1 hall u hu
   split at s
   .rename_i b j;split at s
    .rename_i blk L;split at s
     .rename_i hown;split at s
      .rename_i C r;simp only[Option.some.injEq,Prod.mk.injEq]at s;obtain⟨rfl,rfl⟩:=s;have f:=Il r
       have M: ∃S D,a.eval x= .slice S l D/\sc<=D/\(∃Q:Array Value,(bB n l (.slice S l D)).run P w.drew= .ok Q w.drew/\F2 (VR μ) C Q.toList)/\
         (l+ln<=D->∃g,μ.at b g/\S=O ⟨g.c,g.o+j,Y⟩/\j+D*g.es<=g.ext):=by
        rcases hvx.slice_inv with⟨g,c',hg,U,h2,h3,hv⟩|⟨U,h2,A',hv,g0,hg0⟩
        .obtain⟨cs',r1,r2⟩:=(Ci Z hR).reads L hg r;exact⟨_,c',hv,h2,⟨cs'.toArray,by simp[bB,r1 P w.drew rfl],r2⟩,λ_=>⟨g,hg,rfl,h3⟩⟩
        .subst U h2;rw[Nat.zero_mul]at r;have:=Ly r;subst this;exact⟨_,0,hv,cB _,⟨#[],by simp[bB,loadCells,loadCellsFrom], .nil⟩,λh=>absurd h (by omega)⟩
       obtain⟨S,D,hq,hle,⟨Q,q1,q2⟩,hin⟩:=M;by_cases hin':l+ln<=D
       .
        obtain⟨head,_⟩:=K hq;have head:=head hin';obtain⟨g,hg,rfl,hext⟩:=hin hin';have hlv:=hR.get L hg.1;obtain⟨o1,o2,F,t,fr,o3,o4,o5⟩:=hlv.own hg.2 hown.1;have hes:g.es=n:=hlv.es.trans hown.2;rw[hes]at hext;have hsum:(l+ln)*n<=D*n:=cU _ hin';rw[cL]at hsum;have E:arr.toList.length=ln*n:=by rw[<-f2.length,m]
        have hone': ∀u∈arr.toList,u.oneCell'=Za:=by
         intro u hu;obtain⟨i,hi,he'⟩:=List.getElem_of_mem hu;obtain⟨u',U,h2⟩:=f2.get i (H[i]'(by rw[m,<-E];exact hi)) (cZ _);rw[cZ hi]at U;injection U with U
         rw[<-he',U,<-h2.one_iff];exact hone _ (List.getElem_mem _)
        have hst:=Eh (P:=P) g.c (g.o+j+l*n) t fr arr.toList 0 F w o3 o5 (by omega) hone';rw[Nat.add_zero]at hst;have hrow:=setRow_heap w g.c F (F.toList.take (g.o+j+l*n)++arr.toList++F.toList.drop (g.o+j+l*n+arr.toList.length)).toArray t fr o3
        have hold':F2 (VR μ) C ((F.toList.drop (g.o+j)).take (l*n)):=by
         obtain⟨cs',r1,r2⟩:=hR.reads L hg r;refine F2.of_get _ _ (by rw[f];simp;omega) λi u u' hu hu'=> ?_
         have hi:i<l*n:=by
          rcases Nat.lt_or_ge i (l*n)with h3|h3
          .exact h3
          .rw[dA (by omega)]at hu;cases hu
         unfold pz at r;split at r
         .injection r with r
          rw[<-r,cW,zE hi,cV]at hu;obtain⟨u'',U,h2⟩:=hlv.cell hg.2 (j+i) u hu;rw[cell_of_row _ _ _ F t fr o3]at U;rw[cW,zE hi,cV]at hu'
          have:u'=u'':=by
           have e1:F[g.o+(j+i)]?=O u':=by rw[<-Array.getElem?_toList,<-cX];exact hu'
           rw[e1]at U;exact Option.some.inj U
          rw[this];exact h2
         .cases r
        have hcells:F2 (VR μ) (C++H) (((F.toList.take (g.o+j+l*n)++arr.toList++F.toList.drop (g.o+j+l*n+arr.toList.length)).toArray.toList.drop (g.o+j)).take (C++H).length):=by
         have:((F.toList.take (g.o+j+l*n)++arr.toList++F.toList.drop (g.o+j+l*n+arr.toList.length)).toArray.toList.drop (g.o+j)).take (C++H).length=((F.toList.drop (g.o+j)).take (l*n))++arr.toList:=by
          rw[cK,f,m,cY];rw[List.drop_append_of_le_length (by simp;omega)];rw[List.drop_take,show g.o+j+l*n-(g.o+j)=l*n from by omega];have e1:((F.toList.drop (g.o+j)).take (l*n)).length=l*n:=by simp;omega
          have e2:=ab0 ((F.toList.drop (g.o+j)).take (l*n)) arr.toList (F.toList.drop (g.o+j+l*n+arr.toList.length));rw[e1,E]at e2;rw[E];exact e2
         rw[this];exact hold'.append f2
        obtain⟨m1,m2⟩:=R.moved (w':=w.setRow g.c (F.toList.take (g.o+j+l*n)++arr.toList++F.toList.drop (g.o+j+l*n+arr.toList.length)).toArray) (n:=n) hR L hown.1 hg (o5.imp (λo5=>by have h9:g.o+j+l*n+arr.toList.length<=F.size:=(by omega);rw[Array.length_toList]at h9;simp;omega) id) (by simp) hrow (λk hk=>setRow_other _ _ _ _ hk) (by simp;omega) (by rw[cK,f,m];omega) hcells;refine⟨_,_,_,_, ?_, .inl rfl,m2,m1, .slice (o:=0) (g:=⟨g.c,g.o+j,g.ext-j,n,t,Y⟩) ⟨by simp[Mu.add],rfl⟩ (cB _) hin' (by simp;omega), ?_⟩
        .rw[head];simp only[ph];simp only[aD,hst,aB,cD];rfl
        .refine⟨rfl,rfl,rfl,by simp,λk hk=>setRow_other _ _ _ _ (by omega)⟩
       .
        obtain⟨_,head⟩:=K hq;obtain⟨A,I,zz,hzz,T⟩:=head (by omega) hb1 hb2 Q q1;have J:=Ci Z hR;have hzs:zz.cells.size=n:=by rw[<-hzn,<-hzz];simp[cellsOf]
        have X:Q.toList.length=l*n:=by rw[<-q2.length,f]
        have E:arr.toList.length=ln*n:=by rw[<-f2.length,m]
        have W:(Q++arr++bD zz.cells (A-(l+ln))).size=A*n:=by
         have hoas:Q.size=l*n:=by simpa using X
         have V:arr.size=ln*n:=by simpa using E
         rw[Array.size_append,Array.size_append,yG,hzs,hoas,V,<-cL,<-cL]
         congr 1
         omega
        have hk:=J.kill b
        obtain⟨m1,m2⟩:=hk.add (Q++arr++bD zz.cells (A-(l+ln))) d (C++H) n (by rw[cK,f,m,W,<-cL];exact cU _ I) (by
         have:((Q++arr++bD zz.cells (A-(l+ln))).toList).take (C++H).length=Q.toList++arr.toList:=by
          rw[cK,f,m,<-X,<-E,<-cK];simp only[Array.toList_append];exact cT
         rw[this]
         exact q2.append f2)
        refine⟨_,_,_,_,T, .inl rfl,m2,m1, .slice (o:=0) (g:=⟨w.drew.heap.size,0,_,n,_,Y⟩) ⟨by unfold Mu.add;exact zE rfl,rfl⟩ (cB _) I (by simp only[cQ];rw[W];exact cB _), ?_⟩;exact((Below.refl _ _).drew).alloc hR.base _
      .cases s
     .cases s
    .cases s
   .split at s
    .rename_i hsl;subst hsl;simp only[Option.some.injEq,Prod.mk.injEq]at s;obtain⟨rfl,rfl⟩:=s;obtain⟨hq,_,hsc⟩:=hvx.nils_inv;subst hsc;obtain⟨_,head⟩:=K hq;obtain⟨A,I,zz,hzz,T⟩:=head (by omega) hb1 hb2 #[] (by simp[bB]);rw[cQ]at I T;have J:=Ci Z hR;have hzs:zz.cells.size=n:=by rw[<-hzn,<-hzz];simp[cellsOf]
     have E:arr.toList.length=ln*n:=by rw[<-f2.length,m]
     have W:((#[]:Array Value)++arr++bD zz.cells (A-ln)).size=A*n:=by
      have V:arr.size=ln*n:=by simpa using E
      rw[Array.size_append,Array.size_append,yG,hzs,V,Array.size_empty,cQ,<-cL]
      congr 1
      omega
     obtain⟨m1,m2⟩:=J.add ((#[]:Array Value)++arr++bD zz.cells (A-ln)) d H n (by rw[m,W];exact cU _ I) (by
      have:(((#[]:Array Value)++arr++bD zz.cells (A-ln)).toList).take H.length=arr.toList:=by
       rw[m,<-E];simp only[Array.toList_append,List.nil_append];exact cT
      rw[this]
      exact f2)
     refine⟨_,_,_,_,T, .inl rfl,m2,m1, ?_,((Below.refl _ _).drew).alloc hR.base _⟩;exact .slice (o:=0) (g:=⟨w.drew.heap.size,0,_,n,_,Y⟩) ⟨by unfold Mu.add;exact zE rfl,rfl⟩ (cB _) I (by rw[W];show 0+A*n<=A*n;omega)
    .cases s
   .
    rename_i b j q
    have M: ∃S,a.eval x= .slice S l sc/\l=sc/\(l≠0->∃g,μ.at b g/\S=O ⟨g.c,g.o+j,Y⟩):=by
     generalize hq:a.eval x=q' at hvx;cases hvx with
     |sliceX U h2=>exact⟨_,rfl,rfl,λ_=>⟨_,U,rfl⟩⟩
     |sliceX0 A' U=>exact⟨_,rfl,rfl,λh=>(h rfl).elim⟩
    obtain⟨S,hq,hsc,hgo⟩:=M;have J:=Ci Z hR
    have hfin: ∀(C:List Value) (Q:Array Value),C.length=l*n->(bB n l (.slice S l sc)).run P w.drew= .ok Q w.drew->F2 (VR μ) C Q.toList->
      iH P o a w B μ (.slice (O ⟨Z.n,0,Y⟩) (l+ln) (l+ln)) (Z.add ⟨C++H,Za,n⟩):=by
     intro C Q f q1 q2;obtain⟨_,head⟩:=K hq;obtain⟨A,I,zz,hzz,T⟩:=head (by omega) hb1 hb2 Q q1;have hzs:zz.cells.size=n:=by rw[<-hzn,<-hzz];simp[cellsOf]
     have X:Q.toList.length=l*n:=by rw[<-q2.length,f]
     have E:arr.toList.length=ln*n:=by rw[<-f2.length,m]
     have W:(Q++arr++bD zz.cells (A-(l+ln))).size=A*n:=by
      have hoas:Q.size=l*n:=by simpa using X
      have V:arr.size=ln*n:=by simpa using E
      rw[Array.size_append,Array.size_append,yG,hzs,hoas,V,<-cL,<-cL]
      congr 1
      omega
     obtain⟨m1,m2⟩:=J.add (Q++arr++bD zz.cells (A-(l+ln))) d (C++H) n (by rw[cK,f,m,W,<-cL];exact cU _ I) (by
      have:((Q++arr++bD zz.cells (A-(l+ln))).toList).take (C++H).length=Q.toList++arr.toList:=by
       rw[cK,f,m,<-X,<-E,<-cK];simp only[Array.toList_append];exact cT
      rw[this]
      exact q2.append f2)
     refine⟨_,_,_,_,T, .inl rfl,m2,m1, .slice (o:=0) (g:=⟨w.drew.heap.size,0,_,n,_,Y⟩) ⟨by unfold Mu.add;exact zE rfl,rfl⟩ (cB _) I (by simp only[cQ];rw[W];exact cB _), ?_⟩;exact((Below.refl _ _).drew).alloc hR.base _
    split at s
    .rename_i hsl;simp only[Option.some.injEq,Prod.mk.injEq]at s;obtain⟨rfl,rfl⟩:=s;have:=hfin [] #[] (by rw[hsl];simp) (by rw[hsl];cases S<;>simp[bB,loadCells,loadCellsFrom]) .nil;rw[hsl,cQ]at this;exact this
    .rename_i hsl;split at s
     .rename_i blk L;split at s
      .split at s
       .rename_i C r;simp only[Option.some.injEq,Prod.mk.injEq]at s;obtain⟨rfl,rfl⟩:=s;obtain⟨g,hg,rfl⟩:=hgo hsl;obtain⟨cs',r1,r2⟩:=J.reads L hg r;exact hfin C cs'.toArray (Il r) (by simp[bB,r1 P w.drew rfl]) r2
       .cases s
      .cases s
     .cases s
  .cases s
theorem Ny {st D d:TypeId}{n i:Nat}{z:List Value}(V:o.op= .call c)(T:c.callee= .builtin .append)(Q:c.args.toList=[x,y])(ht:c.argTypes.toList=[st,D])(hu:P.underlying st=O (.slice d))
  (t:(∃q,P.underlying D=O (.slice q))∨P.underlying D=O .string) (U:lg P d=O n) (S:P6 P d=O i) (hz:nM P d=O z) (u:z.length=n)
  (hx:co x=Za) (hy:co y=Za) (h:(AOp.append n i x y).run e Z=O (v,Z')) (H:eU μ N e a.tmps) (F:R B μ Z w):iH P o a w B μ v Z':=by
 have l:=H.ev hy;simp only[AOp.run]at h;split at h
 .rename_i p sl sc W;split at h
  .rename_i ln b;have k:=Uu b l;split at h
   .rename_i A f;obtain⟨I,E,K⟩:=uM (P:=P) b (cB _) f F l;have J:=E w rfl;have r:=E w.drew rfl;have m:=t
    have j:A.length=ln*n:=WH f λs hs=>by
     rw[hs]at b;simp[C9]at b;omega
    exact I0 u K j W hx h H F λX=>by
     obtain⟨L,M⟩:=P2 V T Q ht hu m U S hz X k J;exact⟨L,λq1 q2 q3 C q4=>M q1 q2 q3 C q4 r⟩
   .cases h
  .cases h
 .cases h
theorem OB {st K d:TypeId}{n s:Nat}{z:List Value}(ho:o.op= .call c)(hc:c.callee= .builtin .append)(ha:c.args.toList=[x,y])(ht:c.argTypes.toList=[st,K])(hu:P.underlying st=O (.slice d))
  (T: ∃q,P.underlying K=O (.int q)) (hn:lg P d=O n) (hb:P6 P d=O s) (hz:nM P d=O z) (V:z.length=n) (h0:0<n)
  {E:Option Addr} {f m:Nat} {k:IntKind} {l:Int} (hq:a.eval x= .slice E f m) (hl:a.eval y= .int k l) (l0:0<=l) (l1:l<=9223372036854775807) (l2:l*s<=281474976710656):
  (f+l.toNat<=m->(execOp a.eval o).run P w=((do
    if let O a:=E then storeCells (a.add (f*n)) (eb z l.toNat).toArray.toList
    pure (.slice E (f+l.toNat) m):Sem Value).run P w).andThen λv w=> .ok (.value v) w)/\
  (m<f+l.toNat->(f+l.toNat)*s<=140737488355328->f+l.toNat<=9223372036854775807->∀D:Array Value,(bB n f (.slice E f m)).run P w.drew= .ok D w.drew->
   ∃t,f+l.toNat<=t/\∃F:Value,cellsOf F=z/\(execOp a.eval o).run P w= .ok (.value (.slice (O ⟨w.heap.size,0,Y⟩) (f+l.toNat) t)) (w.drew.alloc (.cells (D++(eb z l.toNat).toArray++bD F.cells (t-(f+l.toNat))) d))):=by
 obtain⟨cst,r⟩:=gb (P:=P) (a:=a) ho hc w;obtain⟨i,hi,C⟩:=Option.map_eq_some_iff.1 hb;have b: ∀w:World,(typeInfo d).run P w= .ok i w:=λw=>by simp[typeInfo,hi]
 have X:(#[Value.slice E f m,Value.int k l]:Array Value)[0]?=O (.slice E f m):=rfl;have e2:(#[Value.slice E f m,Value.int k l]:Array Value)[1]?=O (.int k l):=rfl;have e3:(#[st,K]:Array TypeId)[0]?=O st:=rfl;have e4:(#[st,K]:Array TypeId)[1]?=O K:=rfl;obtain⟨F,z1,W,z3⟩:=lK hz;obtain⟨q,H⟩:=T;have w1:IntKind.i64.wrap l=l:=IntWalk.i64_in _ (by omega);have hzs:F.cells.size=n:=by rw[<-V,<-W];simp[cellsOf]
 have U:F.cells.toList=z:=W
 have p: ∀w:World,((if l.toNat*n=0 then pure #[]else do pure (bD (<-zeroValue d).cells l.toNat)):Sem (Array Value)).run P w= .ok (eb z l.toNat).toArray w:=by
  intro w;by_cases u:l.toNat*n=0
  .have M:l.toNat=0:=by
    rcases Nat.mul_eq_zero.1 u with h|h
    .exact h
    .omega
   have:(eb z l.toNat)=[]:=by rw[M];rfl
   rw[zE u,this];simp
  .rw[zF u]
   have Q:bD F.cells l.toNat=(eb z l.toNat).toArray:=by
    unfold bD;rw[<-U,<-L3 _ _ (by omega)]
   simp only[aD,z1,cD,aB,Q]
 refine⟨λI=> ?_,λA j hmax D J=> ?_⟩
 .rw[r];simp only[builtin,cR,KC ha,KC ht,cP,cN,cO,hq,hl,X,e2,e3,e4,aD,da hu,da H,aB,lW hn,cD,cM,if_false,asInt,asIntOf,w1,Bool.not_true,if_true];rw[Zh];simp only[aD,b,aB,C];rw[Zh];simp only[aD,cD,aB];rw[zE I];simp only[aD,p,aB];rfl
 .refine⟨grownCap w (f+l.toNat) m d,grownCap_ge _ _ _ _,F,W, ?_⟩;have S:=growslice_fits A j;rw[r];simp only[builtin,cR,KC ha,KC ht,cP,cN,cO,hq,hl,X,e2,e3,e4,aD,da hu,da H,aB,lW hn,cD,cM,if_false,asInt,asIntOf,w1,Bool.not_true,if_true];rw[Zh];simp only[aD,b,aB,C];rw[Zh];simp only[aD,cD,aB];rw[Zh];simp only[aD,b,aB,true_or,and_true]
  have L: ¬((f+l.toNat:Nat):Int) > IntKind.i64.max:=by
   have:IntKind.i64.max=9223372036854775807:=by decide
   omega
  rw[zF L];simp only[aD,b,aB,C];rw[Zh];simp only[aD,run_choose,Question.forced,cM,if_false,World.drew_eq,aB,b,run_askRoom,J,p,z1,newRow,run_newObj,cD,World.alloc_eq];rfl
theorem S6 {st u d:TypeId}{n i:Nat}{z:List Value}(I:o.op= .call c)(F:c.callee= .builtin .append)(D:c.args.toList=[x,y])(L:c.argTypes.toList=[st,u])(M:P.underlying st=O (.slice d))
  (r: ∃q,P.underlying u=O (.int q)) (H:lg P d=O n) (E:P6 P d=O i) (t:nM P d=O z) (f:z.length=n) (A:0<n)
  (Q:co x=Za) (S:co y=Za) (h:(AOp.appendZ n i z x y).run e Z=O (v,Z')) (s:eU μ N e a.tmps) (C:R B μ Z w):iH P o a w B μ v Z':=by
 have j:=s.ev S;obtain⟨zz,X,z2,U⟩:=lK t;simp only[AOp.run]at h;split at h
 .rename_i p W V k l J K;split at h
  .rename_i b;rw[K]at j;have T:=j.int_inv;refine I0 (d:=d) (arr:=(eb z l.toNat).toArray) f (by simpa using VR.plainCells (Ek U _)) (by simp[xk,f]) J Q h s C λm=> ?_
   exact OB I F D L M r H E t f A m T b.1 b.2.1 b.2.2
  .cases h
 .cases h
end
end
section
open Builtin renaming firstCells -> aD
open Nat renaming le_refl -> aB, lt_of_lt_of_le -> bB
open Go.RowKit
section
variable {P:Program} {o:Oper} {a:Act} {w w':World} {B:Base P} {N:Nat} {μ:Mu} {e:cf} {Z Z':Hp} {v:Value}
theorem R.iter (h:R B μ Z w)(s:ByteArray):R B (μ.add Z.n ⟨w.heap.size,0,0,1,0,O (.string s)⟩) (Z.add ⟨[.int .i64 0],Za,1⟩) (w.iter s 0)/\μ.le (μ.add Z.n ⟨w.heap.size,0,0,1,0,O (.string s)⟩):=by
 have T:μ Z.n=Y:=h.fresh _ (aB _);have p:μ.le (μ.add Z.n ⟨w.heap.size,0,0,1,0,O (.string s)⟩):=Mu.le_add T
 have old: ∀b x,b≠Z.n->(Z.add ⟨[.int .i64 0],Za,1⟩).m b=O x->Z.m b=O x:=by
  intro b x i d;simpa[Hp.add,i]using d
 have J: ∀x,(Z.add ⟨[.int .i64 0],Za,1⟩).m Z.n=O x->x=⟨[.int .i64 0],Za,1⟩:=by
  intro x d;simp[Hp.add]at d;exact d.symm
 have f: ∀b x g,Z.m b=O x->μ b=O g->g.c<w.heap.size:=λb x g d l=>(h.get d l).lt
 have C:(w.iter s 0).heap.size=w.heap.size+1:=by simp[World.iter]
 refine⟨⟨by rw[C];exact Nat.le_succ_of_le h.base,λk I=>(Below.heap_alloc w _ _ (bB I h.base)).trans (h.old k I),λb i=> ?_,λb x d=> ?_,λb D x L g E d q F U l r=> ?_, ?_⟩,p⟩
 .have:Z.n+1<=b:=i;unfold Mu.add;rw[Zh];exact h.fresh b (by omega)
 .by_cases i:b=Z.n
  .subst i;obtain rfl:=J x d
   exact⟨⟨w.heap.size,0,0,1,0,O (.string s)⟩,by simp[Mu.add],⟨by rw[C];exact Nat.lt_succ_self _,rfl,λz=>(by cases z),λz=>(by cases z),λX t=>by
    injection t with t
    injection t with t
    subst t
    exact⟨h.base,0,rfl,World.iter_heap w s 0⟩,λt=>by injection t with t;cases t⟩⟩
  .have q:=old b x i d;obtain⟨g,A,u⟩:=h.live b x q;exact⟨g,p _ _ A,(u.mono p).kept (by rw[C];exact Nat.le_succ _) (Below.heap_alloc w _ _ u.lt) (λK k I=>Below.heap_alloc w _ _ (h.buf q A K I).2.1)⟩
 .by_cases i:b=Z.n
  .subst i;have j:D≠Z.n:=λe=>F e.symm
   have:g.c=w.heap.size:=by simp[Mu.add]at l;rw[<-l]
   have u:μ D=O E:=by simpa[Mu.add,j]using r
   have:=f D L E (old _ _ j q) u;omega
  .have A:μ b=O g:=by simpa[Mu.add,i]using l
   have H:=old b x i d;by_cases j:D=Z.n
   .subst j;have:E.c=w.heap.size:=by simp[Mu.add]at r;rw[<-r]
    have:=f b x g H A;omega
   .have u:μ D=O E:=by simpa[Mu.add,j]using r
    exact h.inj b D x L g E H (old _ _ j q) F U A u
 .refine h.sep.of (λb x g d l=> ?_) (λb x g d l K _=> ?_)
  .by_cases i:b=Z.n
   .subst i;have M:g=⟨w.heap.size,0,0,1,0,O (.string s)⟩:=by simp[Mu.add]at l;exact l.symm
    subst M;exact .inr ⟨λz=>(by injection z with z;cases z),λV x1 W k A u Q S e=>by have:=(h.buf A u Q S).2.1;simp only at e;omega⟩
   .exact .inl ⟨x,old b x i d,by simpa[Mu.add,i]using l⟩
  .unfold oN;rw[show(w.iter s 0).heap[g.c]?=w.heap[g.c]? from Below.heap_alloc w _ _ (f b x g d l)]
theorem R.newB (h:R B μ Z w){t:TypeId}(ht:Ur P t=Za):R B (μ.add Z.n ⟨w.heap.size,0,0,1,t,O .nilFunc⟩) (Z.add ⟨[.string ByteArray.empty],Za,1⟩) (w.alloc (.cells #[.pointer Y, .slice Y 0 0] t))/\μ.le (μ.add Z.n ⟨w.heap.size,0,0,1,t,O .nilFunc⟩):=by
 have X:μ Z.n=Y:=h.fresh _ (aB _);have s:μ.le (μ.add Z.n ⟨w.heap.size,0,0,1,t,O .nilFunc⟩):=Mu.le_add X
 have old: ∀b x,b≠Z.n->(Z.add ⟨[.string ByteArray.empty],Za,1⟩).m b=O x->Z.m b=O x:=by
  intro b x i p;simpa[Hp.add,i]using p
 have V: ∀x,(Z.add ⟨[.string ByteArray.empty],Za,1⟩).m Z.n=O x->x=⟨[.string ByteArray.empty],Za,1⟩:=by
  intro x p;simp[Hp.add]at p;exact p.symm
 have f: ∀b x g,Z.m b=O x->μ b=O g->g.c<w.heap.size:=λb x g p C=>(h.get p C).lt
 have E:(w.alloc (.cells #[.pointer Y, .slice Y 0 0] t)).heap[w.heap.size]?=O (.cells #[.pointer Y, .slice Y 0 0] t (0,0)):=heap_alloc_new w _
 have H:oN (w.alloc (.cells #[.pointer Y, .slice Y 0 0] t)) w.heap.size=Y:=by
  unfold oN;rw[E];rfl
 refine⟨⟨Nat.le_trans h.base (by simp),λb i=>(Below.heap_alloc w _ _ (bB i h.base)).trans (h.old b i),λb i=> ?_,λb x p=> ?_,λb r x F g u p l D ho C j=> ?_,λb x g p C M k I r F u l j=> ?_⟩,s⟩
 .have:Z.n+1<=b:=i;unfold Mu.add;rw[Zh];exact h.fresh b (by omega)
 .by_cases i:b=Z.n
  .subst i;obtain rfl:=V x p
   exact⟨⟨w.heap.size,0,0,1,t,O .nilFunc⟩,by simp[Mu.add],⟨by simp,rfl,λS=>(by cases S),λS=>(by cases S),λs' U=>(by injection U with U;cases U),λ_=>
    ⟨ht, .pointer Y,ByteArray.empty, .inl rfl,rfl,h.base, .slice Y 0 0,E,World.ownsRowF_nil _ _ _ _,by simp[Value.ownBlock]⟩⟩⟩
  .have l:=old b x i p;obtain⟨g,z,A⟩:=h.live b x l;exact⟨g,s _ _ z,(A.mono s).kept (by simp) (Below.heap_alloc w _ _ A.lt) (λM k I=>Below.heap_alloc w _ _ (h.buf l z M I).2.1)⟩
 .by_cases i:b=Z.n
  .subst i;have d:r≠Z.n:=λe=>D e.symm
   have:g.c=w.heap.size:=by simp[Mu.add]at C;rw[<-C]
   have A:μ r=O u:=by simpa[Mu.add,d]using j
   have:=f r F u (old _ _ d l) A;omega
  .have z:μ b=O g:=by simpa[Mu.add,i]using C
   have q:=old b x i p;by_cases d:r=Z.n
   .subst d;have:u.c=w.heap.size:=by simp[Mu.add]at j;rw[<-j]
    have:=f b x g q z;omega
   .have A:μ r=O u:=by simpa[Mu.add,d]using j
    exact h.inj b r x F g u q (old _ _ d l) D ho z A
 .by_cases i:b=Z.n
  .subst i;have Q:g.c=w.heap.size:=by simp[Mu.add]at C;rw[<-C]
   rw[Q,H]at I;cases I
  .have z:μ b=O g:=by simpa[Mu.add,i]using C
   have q:=old b x i p
   have K:oN w g.c=O k:=by
    rw[<-I];unfold oN;rw[Below.heap_alloc w _ _ (f b x g q z)]
   have W:=(h.buf q z M K).2.1;by_cases d:r=Z.n
   .subst d;have Q:u.c=w.heap.size:=by simp[Mu.add]at j;rw[<-j]
    refine⟨by omega,λ_ _ J=> ?_⟩;rw[Q,H]at J;cases J
   .have A:μ r=O u:=by simpa[Mu.add,d]using j
    have L:=old r F d l;obtain⟨m1,m2⟩:=h.sep b x g q z M k K r F u L A;refine⟨m1,λD T=> ?_⟩;have:=m2 D T;unfold oN at this⊢;rw[Below.heap_alloc w _ _ (f r F u L A)];exact this
theorem ao2 {t:TypeId}(j:o.op= .alloc t)(k:Ur P t=Za)(l:nM P t=O [.pointer Y, .slice Y 0 0])(d:AOp.newB.run e Z=O (v,Z'))(b:R B μ Z w):iH P o a w B μ v Z':=by
 obtain⟨p,f,h,q⟩:=lK l;simp only[AOp.run,Option.some.injEq,Prod.mk.injEq]at d;obtain⟨rfl,rfl⟩:=d;obtain⟨m,n⟩:=b.newB k;have i:p.cells= #[.pointer Y, .slice Y 0 0]:=Array.toList_inj.1 h;refine⟨_,_,_, .pointer (O ⟨w.heap.size,0,Y⟩), ?_, .inl rfl,n,m, ?_,(Below.refl _ _).alloc b.base _⟩
 .simp[execOp,j,Instr.alloc,f,newVar,newRow,i]
 .exact .iter (g:=⟨w.heap.size,0,0,1,t,O .nilFunc⟩) (by simp[Mu.add]) rfl
theorem R.step (h:R B μ Z w){b:Nat}{x:Blk}{s:ByteArray}(J:Z.m b=O x)(V:x.own=Za)(H:μ b=O g)(r:g.it=O (.string s))(q:Nat):
  R B μ (Z.set b (O ⟨[.int .i64 (q:Int)],Za,x.es⟩)) (w.iterAt g.c s q):=by
 have U:=h.get J H;obtain⟨o1,p,o3,o4⟩:=U.iter s r;have j: ∀k,k≠g.c->(w.iterAt g.c s q).heap[k]?=w.heap[k]?:=λk A=>Lib.iterAt_other w _ k s q A
 have D:(w.iterAt g.c s q).heap.size=w.heap.size:=Lib.iterAt_size w _ s q
 have old: ∀i f,i≠b->(Z.set b (O ⟨[.int .i64 (q:Int)],Za,x.es⟩)).m i=O f->Z.m i=O f:=by
  intro i f t d;simpa[Hp.set,t]using d
 have M: ∀f,(Z.set b (O ⟨[.int .i64 (q:Int)],Za,x.es⟩)).m b=O f->f=⟨[.int .i64 (q:Int)],Za,x.es⟩:=by
  intro f d;simp[Hp.set]at d;exact d.symm
 refine⟨by rw[D];exact h.base,λk A=>(j k (by omega)).trans (h.old k A),h.fresh,λi f d=> ?_,λb1 b2 x1 x2 g1 g2 F h2 C L S T=> ?_, ?_⟩
 .by_cases t:i=b
  .subst t;obtain rfl:=M f d
   exact⟨g,H,⟨by rw[D];exact U.lt,U.es,λK=>(by rw[r]at K;cases K),λK=>(by rw[r]at K;cases K),λs' u=>by
    rw[r]at u;injection u with u
    injection u with u
    subst u
    exact⟨o1,q,rfl,Lib.iterAt_heap w _ s p q o4⟩,λu=>by rw[r]at u;injection u with u;cases u⟩⟩
  .have z:=old i f t d;obtain⟨E,F,h2⟩:=h.live i f z;exact⟨E,F,h.stays z F (by rw[D];exact aB _) g.c (λk A _=>j k A) (λe=>h.inj b i x f g E J z (λe=>t e.symm) V H F e.symm) (λI A=>((h.sep i f E z F I _ A b x g J H).1 rfl))⟩
 .have n: ∀i f,(Z.set b (O ⟨[.int .i64 (q:Int)],Za,x.es⟩)).m i=O f->∃y,Z.m i=O y/\y.own=f.own:=by
   intro i f d;by_cases t:i=b
   .subst t;obtain rfl:=M f d;exact⟨x,J,V⟩
   .exact⟨f,old i f t d,rfl⟩
  obtain⟨y1,W,e1⟩:=n _ _ F;obtain⟨y2,X,_⟩:=n _ _ h2;exact h.inj b1 b2 y1 y2 g1 g2 W X C (e1.trans L) S T
 .have Q: ∀i f,(Z.set b (O ⟨[.int .i64 (q:Int)],Za,x.es⟩)).m i=O f->∃y,Z.m i=O y:=by
   intro i f d;by_cases t:i=b
   .subst t;exact⟨x,J⟩
   .exact⟨f,old i f t d⟩
  refine h.sep.of (λi f E d l=> .inl (let⟨y,hy⟩:=Q i f d;⟨y,hy,l⟩)) (λi f E d l I _=> ?_);have C:i≠b:=λe=>by subst e;rw[H]at l;injection l with l;subst l;rw[r]at I;injection I with I;cases I
  unfold oN;rw[j _ (λe=>h.inj b i x f g E J d (λe=>C e.symm) V H l e.symm)]
theorem YD {t:TypeId}(k:o.op= .range t x)(m:P.underlying t=O .string)(n:co x=Za)(b:(AOp.range x).run e Z=O (v,Z'))(j:eU μ N e a.tmps)(d:R B μ Z w):iH P o a w B μ v Z':=by
 have h:=j.ev n;simp only[AOp.run]at b;split at b
 .rename_i s l;simp only[Option.some.injEq,Prod.mk.injEq]at b;obtain⟨rfl,rfl⟩:=b;rw[l]at h;obtain⟨f,i⟩:=d.iter s;refine⟨_,_,_, .pointer (O ⟨w.heap.size,0,Y⟩), ?_, .inl rfl,i,f, ?_,(Below.refl _ _).alloc d.base _⟩
  .have:=run_range_string (P:=P) w t s m;simp[execOp,k,h.string_inv,this]
  .exact .iter (g:=⟨w.heap.size,0,0,1,0,O (.string s)⟩) (by simp[Mu.add]) rfl
 .cases b
theorem ao3 (t:o.op= .next x Za)(J:co x=Za)(d:(AOp.next x).run e Z=O (v,Z'))(E:eU μ N e a.tmps)(l:R B μ Z w):iH P o a w B μ v Z':=by
 have h:=E.ev J;simp only[AOp.run]at d;split at d
 .rename_i b s I;rw[I]at h
  obtain⟨g,n,j,z⟩: ∃g,μ b=O g/\g.it=O (.string s)/\a.eval x= .pointer (O ⟨g.c,0,Y⟩):=by
   generalize a.eval x=u at h;cases h with
   |iter K L=>exact⟨_,K,L,rfl⟩
  split at d
  .rename_i C f;split at d
   .rename_i k;split at d
    .rename_i p r H;have F:=l.get f n;obtain⟨M,q,m,A⟩:=F.iter s j;rw[H]at m;simp at m;obtain⟨rfl,rfl⟩:=m;split at d
     .rw[Int.toNat_natCast]at d;split at d
      .rename_i i;simp only[Option.some.injEq,Prod.mk.injEq]at d;obtain⟨rfl,rfl⟩:=d;have D:=l.step f k n j (q+(Utf8.decode s q).2);refine⟨_,_,μ, .tuple #[.bool Za, .int .i64 q, .int .i32 (Utf8.decode s q).1], ?_, .inl rfl,μ.le_refl,D, .tuple (.cons (.bool _) (.cons (.int _ _) (.cons (.int _ _) .nil))),Lib.below_iterAt (Below.refl _ _) M s _⟩;have:=Lib.run_next_any_at (P:=P) w g.c s q o.type A i;simp[execOp,t,z,this]
      .rename_i i;simp only[Option.some.injEq,Prod.mk.injEq]at d;obtain⟨rfl,rfl⟩:=d;have:=Lib.run_next_end_at (P:=P) w g.c s q o.type A i;exact .same l (by simp[execOp,t,z,this]) (.tuple (.cons (.bool _) .nil))
     .cases d
    .cases d
   .cases d
  .cases d
 .cases d
theorem an6 {s d:TypeId}{q:IntKind}(l:o.op= .convert s d x)(m:P.underlying s=O (.int q))(j:P.underlying d=O .string)(p:co x=Za)(b:(AOp.encR x).run e Z=O (v,Z'))(k:eU μ N e a.tmps)(i:R B μ Z w):iH P o a w B μ v Z':=by
 simp only[AOp.run]at b;obtain⟨n,f,b⟩:=Option.map_eq_some_iff.1 b;simp only[Prod.mk.injEq]at b;obtain⟨rfl,rfl⟩:=b;have h:=k.ev p;generalize e.ev x=u at*;cases u<;>simp[X3]at f;subst f;have:=h.int_inv;exact .same i (by simp[execOp,l,this,convert,da m,da j,Conv.intToString]) (.string _)
theorem IN {μ:Mu}: ∀{cs b:List Value} {l:Zd},F2 (VR μ) cs b->Ar cs=O l->b=l.map (Value.int .u8)
 |[],_,l,h,d=>by
  cases h;simp[Ar]at d;subst d;rfl
 |c::cs,_,l,h,d=>by
  cases h with
  |cons k m=>
   rename_i s b;unfold Ar at d;split at d
   .rename_i f;cases f
   .rename_i n r f;injection f with i j
    subst i;subst j;obtain⟨t,p,q⟩:=Option.map_eq_some_iff.1 d;subst q;rw[IN m p,k.int_inv];rfl
   .cases d
theorem Qn (w:World)(a:Addr)(n:Nat){k:Nat}(b:k≠a.block):(w.freeze a n).heap[k]?=w.heap[k]?:=by
 unfold World.freeze;split
 .rfl
 .simp only[Array.getElem?_modify];rw[zF (λe=>b e.symm)]
theorem xf (w:World)(a:Addr)(n:Nat):(w.freeze a n).heap.size=w.heap.size:=by
 unfold World.freeze;split
 .rfl
 .simp
theorem R.marked (h:R B μ Z w){b:Nat}{x:Blk}(L:Z.m b=O x)(T:x.own=Za)(H:μ b=O g)(p:g.it=Y){d:Array Value}{t:TypeId}{Q:Nat×Nat}(V:w.heap[g.c]?=O (.cells d t Q)):
  R B μ Z (w.freeze ⟨g.c,d.size,Y⟩ 1)/\Below B w (w.freeze ⟨g.c,d.size,Y⟩ 1):=by
 have M:=h.get L H;obtain⟨o1,o2,W,e',fr',D,o5,o6⟩:=M.own p T;rw[V]at D;simp only[Option.some.injEq,Obj.cells.injEq]at D;obtain⟨rfl,rfl,rfl⟩:=D;have i: ∀k,k≠g.c->(w.freeze ⟨g.c,d.size,Y⟩ 1).heap[k]?=w.heap[k]?:=λk z=>Qn w _ _ z
 have C: ∃l:Nat×Nat,(w.freeze ⟨g.c,d.size,Y⟩ 1).heap[g.c]?=O (.cells d t l)/\(d.size<=l.1∨l.1=l.2):=by
  obtain⟨lo,r⟩:=Q;refine⟨if lo==r then(d.size,d.size+1)else(min lo d.size,max r (d.size+1)), ?_, ?_⟩
  .simp[World.freeze,Array.getElem?_modify,V]
  .left;simp only at o6;by_cases I:lo=r
   .simp[I]
   .simp[I];omega
 obtain⟨l,K,U⟩:=C;refine⟨⟨by rw[xf];exact h.base,λk z=>(i k (by omega)).trans (h.old k z),h.fresh,λq E f=> ?_,h.inj, ?_⟩,⟨?_, ?_, ?_,by rw[xf];exact aB _,λk z=>i k (by omega)⟩⟩
 .by_cases hb:q=b
  .subst hb;rw[L]at f;injection f with f
   subst f;refine⟨g,H,⟨by rw[xf];exact M.lt,M.es,λ_ j u hu=> ?_,λ_ _=>⟨o1,o2,d,t,l,K,o5,U⟩,λs J=>(by rw[p]at J;cases J),λJ=>by rw[p]at J;cases J⟩⟩;obtain⟨u',A,X⟩:=M.cell p j u hu;refine⟨u', ?_,X⟩;rw[cell_of_row _ _ _ _ t Q V]at A;rw[cell_of_row _ _ _ _ t l K];exact A
  .obtain⟨F,A,X⟩:=h.live q E f;exact⟨F,A,h.stays f A (by rw[xf];exact aB _) g.c (λk z _=>i k z) (λe=>h.inj b q x E g F L f (λe=>hb e.symm) T H A e.symm) (λr z=>((h.sep q E F f A r _ z b x g L H).1 rfl))⟩
 .refine h.sep.of (λq E F f n=> .inl ⟨E,f,n⟩) (λq E F f n r _=> ?_);have S:q≠b:=λe=>by subst e;rw[H]at n;injection n with n;subst n;rw[p]at r;cases r
  unfold oN;rw[i _ (λe=>h.inj b q x E g F L f (λe=>S e.symm) T H n e.symm)]
 .unfold World.freeze;split<;>rfl
 .unfold World.freeze;split<;>rfl
 .unfold World.freeze;split<;>rfl
theorem ao0 {s t:TypeId}(E:o.op= .convert s s x)(I:P.underlying s=O (.slice t))(J:P.underlying t=O (.int .u8))(K:co x=Za)(d:(AOp.mark x).run e Z=O (v,Z'))(D:eU μ N e a.tmps)(l:R B μ Z w):iH P o a w B μ v Z':=by
 have h:=D.ev K;simp only[AOp.run]at d;split at d
 .rename_i b q n c F;rw[F]at h;split at d
  .rename_i V;split at d
   .rename_i r m;split at d
    .rename_i f;simp only[Option.some.injEq,Prod.mk.injEq]at d;obtain⟨rfl,rfl⟩:=d;generalize H:a.eval x=u at h;cases h with
     |slice i L M Q=>
      rename_i z g;obtain⟨W,X,j,A,U,p,o5,o6⟩:=(l.get m i.1).own i.2 f;obtain⟨S,T⟩:=l.marked m f i.1 i.2 p;refine⟨_,_,μ, .slice (O ⟨g.c,g.o+q,Y⟩) n z, ?_, .inl rfl,μ.le_refl,S, .slice i L M Q,T⟩;have k:w.shape? g.c=O (A,j.size):=by simp[World.shape?,p]
      have C:(markStringish ⟨g.c,g.o+q,Y⟩).run P w= .ok () (w.freeze ⟨g.c,j.size,Y⟩ 1):=by
       unfold markStringish shape;simp only[Sem.run_bind];rw[show(Sem.shape g.c Sem.pure).run P w= .ok (w.shape? g.c) w from rfl,k];rfl
      simp[execOp,E,H,convert,da I,da J,C]
     |slice0 A' i=>omega
    .cases d
   .cases d
  .cases d
 .cases d
theorem YG {s d t:TypeId}(I:o.op= .convert s d x)(J:P.underlying s=O (.slice t))(K:P.underlying t=O (.int .u8))(H:P.underlying d=O .string)(V:co x=Za)(j:(AOp.strOf x).run e Z=O (v,Z'))(S:eU μ N e a.tmps)(m:R B μ Z w):iH P o a w B μ v Z':=by
 have h:=S.ev V;simp only[AOp.run]at j;split at j
 .rename_i p n c U;rw[U]at h;split at j
  .rename_i X C;obtain⟨l,T,j⟩:=Option.map_eq_some_iff.1 j;simp only[Prod.mk.injEq]at j;obtain⟨rfl,rfl⟩:=j;obtain⟨L,M,Q⟩:=uM (P:=P) (es:=1) (n:=n) (ln:=n) rfl (aB _) C m h;have F:=IN Q T;have b:=M w rfl
   have f: ∀(q:Option Addr) (r:Nat),a.eval x= .slice q n r->(n=0∨∃z,q=O z)->(execOp a.eval o).run P w= .ok (.value (.string (Tr l))) w:=by
    intro q r i A;rw[i]at b;cases q with
    |none=>
     rcases A with A|⟨z,A⟩
     .subst A;simp[aD]at b;subst b;have D:l=[]:=by simpa using F.symm
      subst D;simp[execOp,I,i,run_convert_bytes_string w s d t Y 0 r J K H,Conv.bytesToString,Tr]
     .cases A
    |some z=>
     have k:(loadCells z n).run P w= .ok (l.map (Value.int .u8)).toArray w:=by
      simp only[aD,Nat.mul_one]at b;rw[b,<-F]
     simp[execOp,I,i,run_convert_bytes_string w s d t (O z) n r J K H,run_bytesToString w z n r l k,Tr]
   generalize i:a.eval x=u at h;cases h with
   |nils=>exact .same m (f Y 0 i (.inl rfl)) (.string _)
   |slice E W k3 k4=>exact .same m (f _ _ i (.inr ⟨_,rfl⟩)) (.string _)
   |slice0 A' E=>exact .same m (f _ _ i (.inl rfl)) (.string _)
   |sliceX E W=>exact .same m (f _ _ i (.inr ⟨_,rfl⟩)) (.string _)
   |sliceX0 A' E=>exact .same m (f _ _ i (.inl rfl)) (.string _)
  .cases j
 .cases j
theorem I5 {μ:Mu}: ∀{cs b:List Value} {l:Zd},F2 (VR μ) cs b->Ax cs=O l->b=l.map (Value.int .i32)
 |[],_,l,h,d=>by
  cases h;simp[Ax]at d;subst d;rfl
 |c::cs,_,l,h,d=>by
  cases h with
  |cons k m=>
   rename_i s b;unfold Ax at d;split at d
   .rename_i f;cases f
   .rename_i n r f;injection f with i j
    subst i;subst j;obtain⟨t,p,q⟩:=Option.map_eq_some_iff.1 d;subst q;rw[I5 m p,k.int_inv];rfl
   .cases d
theorem Wp {s d t:TypeId}(I:o.op= .convert s d x)(J:P.underlying s=O (.slice t))(K:P.underlying t=O (.int .i32))(H:P.underlying d=O .string)(V:co x=Za)(j:(AOp.strOfR x).run e Z=O (v,Z'))(S:eU μ N e a.tmps)(m:R B μ Z w):iH P o a w B μ v Z':=by
 have h:=S.ev V;simp only[AOp.run]at j;split at j
 .rename_i p n c U;rw[U]at h;split at j
  .rename_i X C;obtain⟨l,T,j⟩:=Option.map_eq_some_iff.1 j;simp only[Prod.mk.injEq]at j;obtain⟨rfl,rfl⟩:=j;obtain⟨L,M,Q⟩:=uM (P:=P) (es:=1) (n:=n) (ln:=n) rfl (aB _) C m h;have F:=I5 Q T;have b:=M w rfl
   have f: ∀(q:Option Addr) (r:Nat),a.eval x= .slice q n r->(n=0∨∃z,q=O z)->(execOp a.eval o).run P w= .ok (.value (.string (Tt l))) w:=by
    intro q r i A;rw[i]at b;cases q with
    |none=>
     rcases A with A|⟨z,A⟩
     .subst A;simp[aD]at b;subst b;have D:l=[]:=by simpa using F.symm
      subst D;simp[execOp,I,i,run_convert_runes_string w s d t Y 0 r J K H,Conv.runesToString,Tt]
     .cases A
    |some z=>
     have k:(loadCells z n).run P w= .ok (l.map (Value.int .i32)).toArray w:=by
      simp only[aD,Nat.mul_one]at b;rw[b,<-F]
     simp[execOp,I,i,run_convert_runes_string w s d t (O z) n r J K H,run_runesToString w z n r l k,Tt,runesBytes]
   generalize i:a.eval x=u at h;cases h with
   |nils=>exact .same m (f Y 0 i (.inl rfl)) (.string _)
   |slice E W k3 k4=>exact .same m (f _ _ i (.inr ⟨_,rfl⟩)) (.string _)
   |slice0 A' E=>exact .same m (f _ _ i (.inl rfl)) (.string _)
   |sliceX E W=>exact .same m (f _ _ i (.inr ⟨_,rfl⟩)) (.string _)
   |sliceX0 A' E=>exact .same m (f _ _ i (.inl rfl)) (.string _)
  .cases j
 .cases j
theorem S8 {s d t:TypeId}(H:o.op= .convert s d x)(I:P.underlying s=O .string)(D:P.underlying d=O (.slice t))(K:P.underlying t=O (.int .i32))(M:co x=Za)(l:(AOp.runesOf x).run e Z=O (v,Z'))(E:eU μ N e a.tmps)(A:R B μ Z w):iH P o a w B μ v Z':=by
 have h:=E.ev M;simp only[AOp.run]at l;split at l
 .rename_i z Q;rw[Q]at h;split at l
  .rename_i J;simp only[Option.some.injEq,Prod.mk.injEq]at l;obtain⟨rfl,rfl⟩:=l;have L:=h.string_inv
   have F:(Conv.runesFrom z z.size 0 #[]).size<=70368744177664:=by
    have:=size_runesFrom z z.size 0 #[];simp at this;omega
   have q:=run_runes_of_string (P:=P) w s d t z I D K F
   have m: ∀(s:ByteArray) (b i:Nat) (j:Array Value),(∀u∈j.toList,∃n,u=Value.int .i32 n)->∀u∈(Conv.runesFrom s b i j).toList,∃n,u=Value.int .i32 n:=by
    intro s b;induction b with
    |zero=>intro i j h u f;exact h u f
    |succ b S=>
     intro i j h u f;unfold Conv.runesFrom at f;split at f
     .refine S _ _ (λy hy=> ?_) u f;rw[Array.toList_push,List.mem_append]at hy;rcases hy with hy|hy
      .exact h y hy
      .rw[List.mem_singleton]at hy;exact⟨_,hy⟩
     .exact h u f
   have C:F2 (VR μ) (lf z) (lf z):=F2.same _ λu f=>by
    obtain⟨n,rfl⟩:=m z z.size 0 #[] (λu f=>by simp at f) u f;exact .int _ _
   have r:=grownCap_ge w (Conv.runesFrom z z.size 0 #[]).size 0 t;have k:R B μ Z w.drew:=A.same rfl
   obtain⟨T,U⟩:=k.add (Conv.runesFrom z z.size 0 #[]++Array.replicate (grownCap w (Conv.runesFrom z z.size 0 #[]).size 0 t-(Conv.runesFrom z z.size 0 #[]).size) (.int .i32 0)) t (lf z) 1 (by
    unfold lf;rw[Array.size_append,Array.length_toList]
    omega) (by
    unfold lf;rw[Array.toList_append,List.take_left]
    exact C)
   have p:(lf z).length=(Conv.runesFrom z z.size 0 #[]).size:=by unfold lf;simp
   refine⟨_,_,_, .slice (O ⟨w.heap.size,0,Y⟩) (Conv.runesFrom z z.size 0 #[]).size (grownCap w (Conv.runesFrom z z.size 0 #[]).size 0 t), ?_, .inl rfl,U,T, ?_,((Below.refl _ _).drew).alloc A.base _⟩
   .simp[execOp,H,L,q]
   .rw[p]
    exact .slice (o:=0) (g:=⟨w.drew.heap.size,0,_,1,t,Y⟩) ⟨by unfold Mu.add;exact zE rfl,rfl⟩ (aB _) r (by
     simp only[Array.size_append,Array.size_replicate]
     omega)
  .cases l
 .cases l
end
end
end Go.Ab
