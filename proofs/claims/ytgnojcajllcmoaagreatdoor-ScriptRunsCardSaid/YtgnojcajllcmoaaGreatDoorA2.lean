/- A part of the proof. No condition. -/
import Derived.Test.YtgnojcajllcmoaaGreatDoorA1
import Derived.Laws.BytesString
import Derived.Laws.RangeAny
import Derived.Laws.IdiomStrings
import Derived.Laws.Cover4
import Derived.Lib.OthersKept
set_option linter.all false
namespace Go.Ab
open Option renaming some->O,none->Y
open Bool renaming true->Za,false->Zb
open Decidable renaming decide->Zc
open List renaming all_eq_true->bo
open List renaming mem_append->cI
open List renaming mem_cons->bf
open List renaming mem_flatMap->cc
open List renaming mem_range->cJ
open Option renaming isSome_iff_exists->eW
open Option renaming map_eq_some_iff->aw
open List renaming length->ft
open Option.some renaming injEq->ez
open Prod.mk renaming injEq->fq
variable {e e' e0:cx}{i j t:Nat}{D:List Nat}{x y:Operand}{Z:Hp}{c:Call}{ao op:AOp}{w:World}{a:Act}{f:FuncId}{args:List Operand}{v:Value}
section
open Bool renaming false_eq_true->cK
open Builtin renaming firstCells->bB,zeroCells->bD,append_->cO,lenOf->cP
open List renaming map_cons->cL,map_nil->cM,map_toArray->cN,length_append->cR,getElem?_eq_getElem->cS
open Nat renaming le_refl->cD,add_mul->cQ,mul_le_mul_right->cT
open Result renaming andThen_ok->aB
open Sem renaming run_bind->aD,run_pure->cB
open Go.RowKit
section
variable {P:Program} {o:Oper} {a:Act} {w w':World} {B:Base P} {N:Nat} {μ:Mu} {e:cx} {Z Z':Hp} {v:Value}
theorem Yt {x:Blk}{o:Nat}{cs:List Value}(h:rz x o 0=O cs):cs=[]:=by
 unfold rz at h
 grind
def CQ {es n ln:Nat}{x C:Value}{cs:List Value}(z:GK x=O ln)(K:n<=ln)(h:Z.slice es x n=O cs)(J:R B μ Z w)(k:VR μ x C):
  ∃arr:Array Value,(∀w':World,w'.heap=w.heap->(bB es n C).run P w'= .ok arr w')/\F2 (VR μ) cs arr.toList:=by
 unfold Hp.slice at h;split at h
 .rename_i b L l c;simp[GK]at z;subst z;split at h
  .rename_i p;cases h;subst p;rcases k.slice_inv with⟨g,F,r,_,_,_,rfl⟩|⟨rfl,rfl,A',rfl,_⟩
   .exact⟨#[],λ_ _=>by simp[bB,loadCells,loadCellsFrom], .nil⟩
   .exact⟨#[],λ_ _=>by simp[bB,loadCells,loadCellsFrom], .nil⟩
  split at h
  .rename_i E d;rcases k.slice_inv with⟨g,F,r,_,_,_,rfl⟩|⟨rfl,rfl,A',rfl,_⟩
   .obtain⟨m,H,I⟩:=J.reads d r h;exact⟨m.toArray,λw' q=>by simp[bB,H P w' q],I⟩
   omega
  .cases h
 .obtain⟨rfl,_,_⟩:=k.nils_inv;split at h
  .injection h with h
   subst h;exact⟨#[],λ_ _=>by simp[bB], .nil⟩
  .cases h
 .rename_i s;split at h
  case isFalse=>cases h
  cases h;obtain rfl:=k.string_inv;refine⟨_,λ_ _=>by simp only[bB];rfl, ?_⟩;simp only[Array.toList_map]
  exact F2.same _ λu A=>by
   simp only[List.mem_map]at A;obtain⟨c,_,rfl⟩:=A;exact .int _ _
 .cases h
theorem MC {x y:Blk}{b:Nat}{vs:List Value}(h:CU x b vs=O y):x.own=Za/\b+ft vs<=ft x.cells/\(∀v∈vs,one v=Za)/\y=⟨lq x.cells b vs,x.own,x.es⟩:=by
 unfold CU at h
 grind
theorem aU6 {t d:TypeId}{ts:List TypeId}{n:Nat}(ho:o.op= .call c)(hc:c.callee= .builtin .copy)(ha:c.args.toList=[x,y])(ht:c.argTypes.toList=t::ts)(hu:P.underlying t=O (.slice d))(hn:lC P d=O n)
  (hx:dw x=Za) (hy:dw y=Za) (k:(AOp.copy n x y).run e Z=O (v,Z')) (he:gp μ N e a.tmps) (S:R B μ Z w):kA P o a w B μ v Z':=by
 have r:=he.ev hx;have I:=he.ev hy;have⟨cst,H⟩:=jc (P:=P) (a:=a) ho hc w;simp only[AOp.run]at k;split at k
 .rename_i p u dc hp;rw[hp]at r
  have V: ∃A m,a.eval x= .slice A u m:=by
   generalize a.eval x=q at r;cases r<;>exact⟨_,_,rfl⟩
  have⟨A,m,hq⟩:=V;split at k
  .rename_i J F;have z:=ac7 F I
   have U:(cP<|a.eval y).run P w= .ok J w:=by
    generalize a.eval y=q at*;cases q<;>simp[GK]at z<;>simp[cP,z]
   split at k
   .rename_i X h;have⟨s,f1,Q⟩:=CQ (P:=P) F (Nat.min_le_left _ _) h S I
    have head:(execOp a.eval o).run P w=((do
      if let O a:=A then storeCells a s.toList
      pure (goInt<|Nat.min J u):Sem Value).run P w).andThen λv w=> .ok (.value v) w:=by
     simp only[H,builtin,Builtin.copy_,Oe ha,cN,cL,cM,U4 ht,hq,aD];have e1:(#[Value.slice A u m,a.eval y]:Array Value)[0]?=O (.slice A u m):=rfl;have e2:(#[Value.slice A u m,a.eval y]:Array Value)[1]?=O (a.eval y):=rfl;simp only[e1,e2,aD,fX hu,aB,U,my hn];have M:(bB n (J.min u)<|a.eval y).run P w= .ok s w:=f1 w rfl;simp only[M,aB];rfl
    have K:X=[]->kA P o a w B μ (.int .i64 (min J u:Nat)) Z:=by
     intro l;subst l
     have:s= #[]:=by
      cases C:s.toList with
      |nil=>simpa using C
      |cons _ _=>rw[C]at Q;cases Q
     subst this;refine .same S ?_ (.int _ _);rw[head];cases A<;>simp[storeCells,goInt]<;>rfl
    split at k
    .rename_i b off;split at k
     .rename_i l
      grind
     .rename_i l;split at k
      .rename_i L E;split at k
       .rename_i blk' hw;cases k;obtain⟨k1,k2,k3,rfl⟩:=MC hw;rw[hq]at r;rcases r.slice_inv with⟨g,c',hg,_,_,_,hv⟩|⟨rfl,_⟩
        .injection hv with W hv2 hv3
         subst W;have⟨w',g1,g2,g3⟩:=R.writes _ _ Q k3 Z w b off 0 L g S E k1 hg V1;refine⟨_,w',μ, .int .i64 (min J u:Nat), ?_, .inl rfl,μ.le_refl,g2, .int _ _,g3⟩;rw[head];simp[g1,goInt]
        .exfalso;rw[Nat.min_zero]at h;unfold Hp.slice at h;split at h
         .simp at h;exact l h
         .simp at h;exact l h
         .simp at h;exact l h.2
         .cases h
       .cases k
      .cases k
    .split at k
     .rename_i l
      grind
     .cases k
    .cases k
   .cases k
  .cases k
 .cases k
def JI {arr:Array Value}(h:F2 (VR μ) [] arr.toList):arr= #[]:=by
 cases b:arr.toList with
 |nil=>simpa using b
 |cons _ _=>rw[b]at h;cases h
def U3 {st r d:TypeId}{n l:Nat}{z:List Value}(ho:o.op= .call c)(hc:c.callee= .builtin .append)(V:c.args.toList=[x,y])(ht:c.argTypes.toList=[st,r])(hu:P.underlying st=O (.slice d))
  (I:(∃q,P.underlying r=O (.slice q))∨P.underlying r=O .string) (X:lC P d=O n) (hb:Va P d=O l) (hz:oH P d=O z)
  {p:Option Addr} {sl h ln:Nat} (hq:a.eval x= .slice p sl h) (C:GK (a.eval y)=O ln) {arr:Array Value} (s:(bB n ln<|a.eval y).run P w= .ok arr w):
  (sl+ln<=h->(execOp a.eval o).run P w=((do
    if let O a:=p then storeCells (a.add<|sl*n) arr.toList
    pure (.slice p (sl+ln) h):Sem Value).run P w).andThen λv w=> .ok (.value v) w)/\
  (h<sl+ln->(sl+ln)*l<=140737488355328->sl+ln<=9223372036854775807->∀old:Array Value,(bB n sl<|.slice p sl h).run P w.drew= .ok old w.drew->(bB n ln<|a.eval y).run P w.drew= .ok arr w.drew->
   ∃cap,sl+ln<=cap/\∃J:Value,cellsOf J=z/\(execOp a.eval o).run P w= .ok (.value<|.slice (O ⟨w.heap.size,0,Y⟩) (sl+ln) cap) (w.drew.alloc<|.cells (old++arr++bD J.cells (cap-(sl+ln))) d)):=by
 have⟨cst,k⟩:=jc (P:=P) (a:=a) ho hc w
 have E:(cP<|a.eval y).run P w= .ok ln w:=by
  generalize a.eval y=q at*;cases q<;>simp[GK]at C<;>simp[cP,C]
 have⟨i,hi,A⟩:=aw.1 hb;have b: ∀w:World,(typeInfo d).run P w= .ok i w:=λw=>by simp[typeInfo,hi]
 have M:(#[Value.slice p sl h,a.eval y]:Array Value)[0]?=O (.slice p sl h):=rfl;have Q:(#[Value.slice p sl h,a.eval y]:Array Value)[1]?=O (a.eval y):=rfl;have S:(#[st,r]:Array TypeId)[0]?=O st:=rfl;have U:(#[st,r]:Array TypeId)[1]?=O r:=rfl;refine⟨λu=> ?_,λm g W old H F=> ?_⟩
 .rw[k];rcases I with⟨q,hdd⟩|hdd
  all_goals
   simp only[builtin,cO,Oe V,Oe ht,cN,cL,cM,hq,M,Q,S,U,aD,fX hu,fX hdd,aB,my X,cB,cK,if_false,E,Bool.not_false,if_true];rw[zE u];simp only[aD,s,aB];rfl
 .obtain⟨J,z1,z2,z3⟩:=mb hz;refine⟨grownCap w (sl+ln) h d,grownCap_ge _ _ _ _,J,z2, ?_⟩;have L:=growslice_fits m g;rw[k];rcases I with⟨q,hdd⟩|hdd
  all_goals
   simp only[builtin,cO,Oe V,Oe ht,cN,cL,cM,hq,M,Q,S,U,aD,fX hu,fX hdd,aB,my X,cB,cK,if_false,E,Bool.not_false,if_true];rw[Zh];simp only[aD,b,aB,A,false_or]
   have K: ¬(((sl+ln:Nat):Int) > IntKind.i64.max/\l=0):=by
    have:IntKind.i64.max=9223372036854775807:=by decide
    omega
   rw[zF K];simp only[aD,b,aB,A];rw[Zh];simp only[aD,run_choose,Question.forced,cK,if_false,World.drew_eq,aB,b,run_askRoom,H,F,z1,newRow,run_newObj,cB,World.alloc_eq];rfl
def PX (z:Array Value)(n:Nat):(bD z n).size=n*z.size:=by simp[bD]
def EV (Z:Hp)(b:R B μ Z w):R B μ Z w.drew:=b.same rfl
theorem LG {x:Blk}{o n:Nat}{cs:List Value}(h:rz x o n=O cs):ft cs=n:=by
 unfold rz at h
 grind
theorem aq6 {es n:Nat}{x:Value}{cs:List Value}(h:Z.slice es x n=O cs)(g: ∀s,x= .string s->n<=s.size):ft cs=n*es:=by
 unfold Hp.slice at h;split at h
 .split at h
  .rename_i b;injection h with h;subst h b;simp
  split at h
  .exact LG h
  cases h
 .split at h
  .rename_i b;injection h with h;subst h b;simp
  cases h
 .rename_i s;split at h
  case isFalse=>cases h
  rename_i d;injection h with h
  subst h
  simp_all
 cases h
def G5 (g o:Nat)(t:TypeId)(d:Nat×Nat): ∀(vs:List Value) (i:Nat) (b:Array Value) (w:World),w.heap[g]?=O (.cells b t d)->(b.size<=d.1∨d.1=d.2)->o+i+ft vs<=b.size->(∀v∈vs,v.oneCell'=Za)->
  (storeCells ⟨g,o,Y⟩ vs i).run P w= .ok () (w.setRow g (b.toList.take (o+i)++vs++b.toList.drop (o+i+ft vs)).toArray)
 |[],i,b,w,l,_,_,_=>by
  simp only[storeCells,List.append_nil,List.length_nil,Nat.add_zero,List.take_append_drop,Array.toArray_toList];rw[setRow_self w g b t d l];rfl
 |v::h,i,b,w,l,q,m,p=>by
  have r:o+i<b.size:=by simp at m;omega
  have k:w.cell? ⟨g,o+i,Y⟩=O b[o+i]:=by simp[World.cell?,l,r]
  have n:(store ((⟨g,o,Y⟩:Addr).add i) v).run P w= .ok () (w.setRow g<|b.setIfInBounds (o+i) v):=by
   rw[qA,run_store P w _ v _<|p v V2,k];simp[OU w g (o+i) b t d l r q,setCell_eq_setRow w g (o+i) b t d v l]
  have u:=G5 g o t d h (i+1) (b.setIfInBounds (o+i) v) (w.setRow g<|b.setIfInBounds (o+i) v) (setRow_heap w g b _ t _ l) (by simpa using q) (by simp at m⊢;omega)<|λx s=>p x (by simp[s]);simp only[storeCells,aD,n,aB,u,setRow_setRow]
  congr 3
  have e:=list_seg_step b.toList (o+i) v h (by simp at m⊢;omega);simpa[Array.toList_setIfInBounds,Nat.add_assoc]using e
theorem R.moved (r:R B μ Z w){b:Nat}{blk:Blk}{g:G}(h:Z.m b=O blk)(q:blk.own=Za)(H:μ.at b g){d n:Nat}{cells:List Value}{C:Array Value}{t:TypeId}{fr:Nat×Nat}(hfr:C.size<=fr.1∨fr.1=fr.2)
  (hlt:w.heap.size=w'.heap.size) (S:w'.heap[g.c]?=O (.cells C t fr)) (I: ∀k,k≠g.c->w'.heap[k]?=w.heap[k]?) (hsz:g.o+g.ext<=C.size) (hfit:d+ft cells<=g.ext)
  (hc:F2 (VR μ) cells<|(C.toList.drop<|g.o+d).take<|ft cells):
  R B (μ.add Z.n ⟨g.c,g.o+d,g.ext-d,n,t,Y⟩) ((Z.set b Y).add ⟨cells,Za,n⟩) w'/\μ.le (μ.add Z.n ⟨g.c,g.o+d,g.ext-d,n,t,Y⟩):=by
 have hf:μ Z.n=Y:=r.fresh _<|cD _;have z:μ.le<|μ.add Z.n ⟨g.c,g.o+d,g.ext-d,n,t,Y⟩:=Mu.le_add hf;have hl:=r.get h H.1;have⟨o1,o2,_⟩:=hl.own H.2 q;have hbn:b≠Z.n:=λe=>by have:=H.1;rw[e,hf]at this;cases this
 have old: ∀l x,l≠Z.n->((Z.set b Y).add ⟨cells,Za,n⟩).m l=O x->Z.m l=O x/\l≠b:=by
  intro l x u A;have F:l≠(Z.set b Y).n:=u;simp only[Hp.add,zF F]at A;simp only[Hp.set]at A
  grind
 have new: ∀x,((Z.set b Y).add ⟨cells,Za,n⟩).m Z.n=O x->x=⟨cells,Za,n⟩:=by
  intro x A;have F:Z.n=(Z.set b Y).n:=rfl;simp only[Hp.add,zE F]at A;exact(Option.some.inj A).symm
 refine⟨⟨by rw[<-hlt];exact r.base,λk hk=>(I k V1).trans<|r.old k hk,λl u=> ?_,λl x A=> ?_,λU V x x' g1 g2 A s L ho X K=> ?_, ?_⟩,z⟩
 .have:Z.n+1<=l:=u;unfold Mu.add;rw[Zh];exact r.fresh l V1
 .by_cases u:l=Z.n
  .subst u;obtain rfl:=new x A;refine⟨⟨g.c,g.o+d,g.ext-d,n,t,Y⟩,ZP,⟨by rw[<-hlt];exact hl.lt,rfl,λ_ i v hv=> ?_,λ_ _=>⟨o1,by simp;omega,C,t,fr,S,by simp;omega,hfr⟩,λ_ hs=>(by cases hs),λhs=>by cases hs⟩⟩;have⟨v',J,Q⟩:=hc.get i v hv
   have hi:i<ft cells:=by
    grind
   refine⟨v', ?_,Q.mono z⟩;rw[cell_of_row _ _ _ C t fr S]
   grind
  .obtain⟨s,W⟩:=old l x u A;have⟨M,J,Q⟩:=r.live l x s;have L:M.c≠g.c:=λe=>r.inj b l blk x g M h s (λe=>W e.symm) q H.1 J e.symm
   exact⟨M,z _ _ J,(r.stays s J (by rw[hlt];exact cD _) g.c (λk hk _=>I k hk) L<|λhi hk=>(r.sep l x M s J hi _ hk b blk g h H.1).1 rfl).mono z⟩
 .by_cases u:U=Z.n
  .subst u;have E:V≠Z.n:=λe=>L e.symm
   have e1:g1.c=g.c:=by simp[Mu.add]at X;rw[<-X]
   have Q:μ V=O g2:=by simpa[Mu.add,E]using K
   have⟨hx2,F⟩:=old V x' E s;rw[e1];exact r.inj b V blk x' g g2 h hx2 (λe=>F e.symm) q H.1 Q
  .have J:μ U=O g1:=by simpa[Mu.add,u]using X
   have⟨hx1,hb1⟩:=old U x u A;by_cases E:V=Z.n
   .subst E;have e1:g2.c=g.c:=by simp[Mu.add]at K;rw[<-K]
    rw[e1];exact λe=>r.inj b U blk x g g1 h hx1 (λe=>hb1 e.symm) q H.1 J e.symm
   .have Q:μ V=O g2:=by simpa[Mu.add,E]using K
    exact r.inj U V x x' g1 g2 hx1 (old _ _ E s).1 L ho J Q
 .refine r.sep.of (λl x M A p=> ?_) (λl x M A p hi hl'=> ?_)
  .by_cases u:l=Z.n
   .subst u;have e1:M=⟨g.c,g.o+d,g.ext-d,n,t,Y⟩:=by simp[Mu.add]at p;exact p.symm
    subst e1;exact .inr ⟨λh0=>(by cases h0),λU x1 g1 k J Q h3 h4=>(r.sep U x1 g1 J Q h3 k h4 b blk g h H.1).1⟩
   .exact .inl ⟨x,(old l x u A).1,by simpa[Mu.add,u]using p⟩
  .have W:l≠b:=λe=>by subst e;rw[H.1]at p;cases p;rw[H.2]at hi;cases hi
   unfold jd;rw[I _<|λe=>r.inj b l blk x g M h A (λe=>W e.symm) q H.1 p e.symm]
theorem Mq {d:TypeId}{n by_:Nat}{z:List Value}{p:Option Addr}{sl sc ln:Nat}{F:List Value}{arr:Array Value}(hzn:z.length=n)(f2:F2 (VR μ) F arr.toList)(K:F.length=ln*n)
  (hp:e.ev x= .slice p sl sc) (hx:dw x=Za) (A:pF n by_ Z p sl sc ln F=O (v,Z')) (he:gp μ N e a.tmps) (hR:R B μ Z w)
  (L: ∀{H:Option Addr} {m:Nat},a.eval x= .slice H sl m->(sl+ln<=m->(execOp a.eval o).run P w=((do
    if let O a:=H then storeCells (a.add<|sl*n) arr.toList
    pure (.slice H (sl+ln) m):Sem Value).run P w).andThen λv w=> .ok (.value v) w)/\
   (m<sl+ln->(sl+ln)*by_<=140737488355328->sl+ln<=9223372036854775807->∀old:Array Value,(bB n sl<|.slice H sl m).run P w.drew= .ok old w.drew->
    ∃cap,sl+ln<=cap/\∃zz:Value,cellsOf zz=z/\(execOp a.eval o).run P w= .ok (.value<|.slice (O ⟨w.heap.size,0,Y⟩) (sl+ln) cap) (w.drew.alloc<|.cells (old++arr++bD zz.cells (cap-(sl+ln))) d))):kA P o a w B μ v Z':=by
 have W: ∀{H:Option Addr} {m:Nat} {τ:Hp} {old:List Value} {oa:Array Value},a.eval x= .slice H sl m->m<sl+ln->(sl+ln)*by_<=140737488355328->sl+ln<=9223372036854775807->R B μ τ w.drew->old.length=sl*n->(bB n sl<|.slice H sl m).run P w.drew= .ok oa w.drew->F2 (VR μ) old oa.toList->
   kA P o a w B μ (.slice (O ⟨τ.n,0,Y⟩) (sl+ln)<|sl+ln) (τ.add ⟨old++F,Za,n⟩):=by
  intro H m τ old oa hq hlt hb1 hb2 J r q1 q2;obtain⟨_,head⟩:=L hq;obtain⟨cap,hcap,zz,hzz,hrun⟩:=head hlt hb1 hb2 oa q1;have hzs:zz.cells.size=n:=by rw[<-hzn,<-hzz];simp[cellsOf]
  have hoal:oa.toList.length=sl*n:=by rw[<-q2.length,r]
  have harl:arr.toList.length=ln*n:=by rw[<-f2.length,K]
  have hcs:(oa++arr++bD zz.cells (cap-(sl+ln))).size=cap*n:=by
   have hoas:oa.size=sl*n:=by simpa using hoal
   have hars:arr.size=ln*n:=by simpa using harl
   rw[Array.size_append,Array.size_append,PX,hzs,hoas,hars,<-cQ,<-cQ]
   congr 1
   omega
  obtain⟨m1,m2⟩:=J.add (oa++arr++bD zz.cells (cap-(sl+ln))) d (old++F) n (by rw[cR,r,K,hcs,<-cQ];exact cT _ hcap) (by
   have:((oa++arr++bD zz.cells (cap-(sl+ln))).toList).take (old++F).length=oa.toList++arr.toList:=by
    grind
   rw[this]
   exact q2.append f2)
  refine⟨_,_,_,_,hrun, .inl rfl,m2,m1, .slice (o:=0) (g:=⟨w.drew.heap.size,0,_,n,_,Y⟩) ⟨by unfold Mu.add;exact zE rfl,rfl⟩ (cD _) hcap (by simp only[Nat.zero_add];rw[hcs];exact cD _), ?_⟩;exact((Below.refl _ _).drew).alloc hR.base _
 have U:=he.ev hx;rw[hp]at U;unfold pF at A;split at A
 .rename_i hfit;split at A
  .rename_i b l
   have I: ∃H m,a.eval x= .slice H sl m/\sc<=m/\VR μ (.slice (O ⟨b,l,Y⟩) (sl+ln) sc) (.slice H (sl+ln) m)/\(F≠[]->∃g,μ.at b g/\H=O ⟨g.c,g.o+l,Y⟩):=by
    rcases U.slice_inv with⟨g,c',Q,M,V,h3,hv⟩|⟨M,V,A',hv,g0,hg0⟩
    .exact⟨_,c',hv,V, .slice Q hfit V h3,λ_=>⟨g,Q,rfl⟩⟩
    .subst M V;have:ln=0:=by omega
     subst this
     grind
   obtain⟨H,m,hq,hle,hvr,hwhere⟩:=I;obtain⟨head,_⟩:=L hq;have head:=head V1;split at A
   .rename_i S;cases A;subst S;have:=JI f2;subst this;refine .same hR ?_ hvr;rw[head];cases H<;>simp[storeCells]
   .rename_i S;split at A
    .rename_i blk E;split at A
     .rename_i blk' hw;cases A;obtain⟨k1,k2,k3,rfl⟩:=MC hw;obtain⟨g,Q,rfl⟩:=hwhere S;obtain⟨w',g1,g2,g3⟩:=R.writes _ _ f2 k3 Z w b (l+sl*n) 0 blk g hR E k1 Q V1;refine⟨_,w',μ,_, ?_, .inl rfl,μ.le_refl,g2,hvr,g3⟩;rw[head];simp[qA,Nat.add_assoc];simp[g1]
     .cases A
    .cases A
  .split at A
   .rename_i S;obtain⟨S,M,V,h3⟩:=S;cases A;subst M V h3 S;obtain⟨hq,_,_⟩:=U.nils_inv;have:=JI f2;subst this;obtain⟨head,_⟩:=L hq;refine .same hR ?_ .nils;rw[head V1];simp
   .cases A
  .cases A
 .rename_i hfit;split at A
  .rename_i hbig;obtain⟨hb1,hb2,hall⟩:=hbig;have hone: ∀u∈F,one u=Za:=λu hu=>bo.1 hall u hu
   split at A
   .rename_i b l;split at A
    .rename_i blk E;split at A
     .rename_i hown;split at A
      .rename_i old s;cases A;have r:=LG s
       have I: ∃H m,a.eval x= .slice H sl m/\sc<=m/\(∃oa:Array Value,(bB n sl<|.slice H sl m).run P w.drew= .ok oa w.drew/\F2 (VR μ) old oa.toList)/\
         (sl+ln<=m->∃g,μ.at b g/\H=O ⟨g.c,g.o+l,Y⟩/\l+m*g.es<=g.ext):=by
        rcases U.slice_inv with⟨g,c',Q,M,V,h3,hv⟩|⟨M,V,A',hv,g0,hg0⟩
        .obtain⟨cs',r1,r2⟩:=(EV Z hR).reads E Q s;exact⟨_,c',hv,V,⟨cs'.toArray,by simp[bB,r1 P w.drew rfl],r2⟩,λ_=>⟨g,Q,rfl,h3⟩⟩
        .subst M V;rw[Nat.zero_mul]at s;have:=Yt s;subst this;exact⟨_,0,hv,cD _,⟨#[],by simp[bB,loadCells,loadCellsFrom], .nil⟩,λh=>absurd h V1⟩
       obtain⟨H,m,hq,hle,⟨oa,q1,q2⟩,hin⟩:=I;by_cases X:sl+ln<=m
       .
        obtain⟨head,_⟩:=L hq;have head:=head X;obtain⟨g,Q,rfl,hext⟩:=hin X;have hlv:=hR.get E Q.1;obtain⟨o1,o2,C,t,fr,o3,o4,o5⟩:=hlv.own Q.2 hown.1;have hes:g.es=n:=hlv.es.trans hown.2;rw[hes]at hext;have hsum:(sl+ln)*n<=m*n:=cT _ X;rw[cQ]at hsum;have harl:arr.toList.length=ln*n:=by rw[<-f2.length,K]
        have hone': ∀u∈arr.toList,u.oneCell'=Za:=by
         intro u hu;obtain⟨i,hi,he'⟩:=List.getElem_of_mem hu;obtain⟨u',M,V⟩:=f2.get i (F[i]'(by rw[K,<-harl];exact hi))<|cS _;rw[cS hi]at M;injection M with M
         rw[<-he',M,<-V.one_iff];exact hone _ (List.getElem_mem _)
        have hst:=G5 (P:=P) g.c (g.o+l+sl*n) t fr arr.toList 0 C w o3 o5 V1 hone';rw[Nat.add_zero]at hst;have hrow:=setRow_heap w g.c C (C.toList.take (g.o+l+sl*n)++arr.toList++C.toList.drop (g.o+l+sl*n+arr.toList.length)).toArray t fr o3
        have hold':F2 (VR μ) old<|(C.toList.drop<|g.o+l).take<|sl*n:=by
         obtain⟨cs',r1,r2⟩:=hR.reads E Q s;refine F2.of_get _ _ (by rw[r];simp;omega) λi u u' hu hu'=> ?_
         have hi:i<sl*n:=by
          grind
         unfold rz at s;split at s
         .injection s with s
          rw[<-s,List.getElem?_take,zE hi,List.getElem?_drop]at hu;obtain⟨u'',M,V⟩:=hlv.cell Q.2 (l+i) u hu;rw[cell_of_row _ _ _ C t fr o3]at M
          grind
         .cases s
        have hcells:F2 (VR μ) (old++F)<|((C.toList.take (g.o+l+sl*n)++arr.toList++C.toList.drop (g.o+l+sl*n+arr.toList.length)).toArray.toList.drop<|g.o+l).take (old++F).length:=by
         have:((C.toList.take (g.o+l+sl*n)++arr.toList++C.toList.drop (g.o+l+sl*n+arr.toList.length)).toArray.toList.drop<|g.o+l).take (old++F).length=((C.toList.drop<|g.o+l).take<|sl*n)++arr.toList:=by
          rw[cR,r,K,List.append_assoc];rw[List.drop_append_of_le_length V3];rw[List.drop_take,show g.o+l+sl*n-(g.o+l)=sl*n from by omega];have e1:((C.toList.drop<|g.o+l).take<|sl*n).length=sl*n:=by simp;omega
          grind
         rw[this];exact hold'.append f2
        obtain⟨m1,m2⟩:=R.moved (w':=w.setRow g.c (C.toList.take (g.o+l+sl*n)++arr.toList++C.toList.drop (g.o+l+sl*n+arr.toList.length)).toArray) (n:=n) hR E hown.1 Q (o5.imp (λo5=>by have h9:g.o+l+sl*n+arr.toList.length<=C.size:=V1;rw[Array.length_toList]at h9;simp;omega) id) V2 hrow (λk hk=>setRow_other _ _ _ _ hk) V3 (by rw[cR,r,K];omega) hcells;refine⟨_,_,_,_, ?_, .inl rfl,m2,m1, .slice (o:=0) (g:=⟨g.c,g.o+l,g.ext-l,n,t,Y⟩) ⟨ZP,rfl⟩ (cD _) X V3, ?_⟩
        .rw[head];simp only[qA];simp only[aD,hst,aB,cB];rfl
        .refine⟨rfl,rfl,rfl,V2,λk hk=>setRow_other _ _ _ _ V1⟩
       .exact W hq V1 hb1 hb2 ((EV Z hR).kill b) r q1 q2
      .cases A
     .cases A
    .cases A
   .split at A
    .rename_i hsl;subst hsl;cases A;obtain⟨hq,_,hsc⟩:=U.nils_inv;subst hsc;have:=W (old:=[]) (oa:= #[]) hq V1 hb1 hb2 (EV Z hR) V2 (by simp[bB]) .nil;rw[Nat.zero_add]at this;exact this
    .cases A
   .
    rename_i b l q
    have I: ∃H,a.eval x= .slice H sl sc/\sl=sc/\(sl≠0->∃g,μ.at b g/\H=O ⟨g.c,g.o+l,Y⟩):=by
     generalize hq:a.eval x=q' at U;cases U with
     |sliceX M V=>exact⟨_,rfl,rfl,λ_=>⟨_,M,rfl⟩⟩
     |sliceX0 A' M=>exact⟨_,rfl,rfl,λh=>(h rfl).elim⟩
    obtain⟨H,hq,hsc,hgo⟩:=I;have J:=EV Z hR;split at A
    .rename_i hsl;cases A;have:=W (old:=[]) (oa:= #[]) hq V1 hb1 hb2 J (by rw[hsl];simp) (by rw[hsl];cases H<;>simp[bB,loadCells,loadCellsFrom]) .nil
     grind
    .rename_i hsl;split at A
     .rename_i blk E;split at A
      .split at A
       .rename_i old s;cases A;obtain⟨g,Q,rfl⟩:=hgo hsl;obtain⟨cs',r1,r2⟩:=J.reads E Q s;exact W (oa:=cs'.toArray) hq V1 hb1 hb2 J (LG s) (by simp[bB,r1 P w.drew rfl]) r2
       .cases A
      .cases A
     .cases A
  .cases A
def RF {st I d:TypeId}{n k:Nat}{z:List Value}(ho:o.op= .call c)(hc:c.callee= .builtin .append)(W:c.args.toList=[x,y])(ht:c.argTypes.toList=[st,I])(hu:P.underlying st=O (.slice d))
  (C:(∃q,P.underlying I=O (.slice q))∨P.underlying I=O .string) (hn:lC P d=O n) (X:Va P d=O k) (hz:oH P d=O z) (E:ft z=n)
  (hx:dw x=Za) (hy:dw y=Za) (h:(AOp.append n k x y).run e Z=O (v,Z')) (L:gp μ N e a.tmps) (K:R B μ Z w):kA P o a w B μ v Z':=by
 have r:=L.ev hy;simp only[AOp.run]at h;split at h
 .rename_i p sl sc hp;split at h
  .rename_i ln b;have m:=ac7 b r;split at h
   .rename_i F g;have⟨M,J,S⟩:=CQ (P:=P) b (cD _) g K r;have Q:=J w rfl;have A:=J w.drew rfl;have u:=C
    have l:ft F=ln*n:=aq6 g λs hs=>by
     rw[hs]at b;simp[GK]at b;omega
    exact Mq E S l hp hx h L K λhq=>by
     have⟨U,V⟩:=U3 ho hc W ht hu u hn X hz hq m Q;exact⟨U,λq1 q2 q3 H q4=>V q1 q2 q3 H q4 A⟩
   .cases h
  .cases h
 .cases h
theorem Th {st K d:TypeId}{n s:Nat}{z:List Value}(ho:o.op= .call c)(hc:c.callee= .builtin .append)(ha:c.args.toList=[x,y])(ht:c.argTypes.toList=[st,K])(hu:P.underlying st=O (.slice d))
  (S: ∃q,P.underlying K=O (.int q)) (hn:lC P d=O n) (hb:Va P d=O s) (hz:oH P d=O z) (V:ft z=n) (h0:0<n)
  {E:Option Addr} {sl m:Nat} {k:IntKind} {l:Int} (hq:a.eval x= .slice E sl m) (hl:a.eval y= .int k l) (l0:0<=l) (l1:l<=9223372036854775807) (l2:l*s<=281474976710656):
  (sl+l.toNat<=m->(execOp a.eval o).run P w=((do
    if let O a:=E then storeCells (a.add<|sl*n) (fd z l.toNat).toArray.toList
    pure (.slice E (sl+l.toNat) m):Sem Value).run P w).andThen λv w=> .ok (.value v) w)/\
  (m<sl+l.toNat->(sl+l.toNat)*s<=140737488355328->sl+l.toNat<=9223372036854775807->∀old:Array Value,(bB n sl<|.slice E sl m).run P w.drew= .ok old w.drew->
   ∃cap,sl+l.toNat<=cap/\∃F:Value,cellsOf F=z/\(execOp a.eval o).run P w= .ok (.value<|.slice (O ⟨w.heap.size,0,Y⟩) (sl+l.toNat) cap) (w.drew.alloc<|.cells (old++(fd z l.toNat).toArray++bD F.cells (cap-(sl+l.toNat))) d)):=by
 have⟨cst,r⟩:=jc (P:=P) (a:=a) ho hc w;have⟨i,hi,C⟩:=aw.1 hb;have b: ∀w:World,(typeInfo d).run P w= .ok i w:=λw=>by simp[typeInfo,hi]
 have X:(#[Value.slice E sl m,Value.int k l]:Array Value)[0]?=O (.slice E sl m):=rfl;have e2:(#[Value.slice E sl m,Value.int k l]:Array Value)[1]?=O (.int k l):=rfl;have e3:(#[st,K]:Array TypeId)[0]?=O st:=rfl;have e4:(#[st,K]:Array TypeId)[1]?=O K:=rfl;have⟨F,z1,W,z3⟩:=mb hz;have⟨q,H⟩:=S;have w1:IntKind.i64.wrap l=l:=IntWalk.i64_in _ V1;have hzs:F.cells.size=n:=by rw[<-V,<-W];simp[cellsOf]
 have U:F.cells.toList=z:=W
 have p: ∀w:World,((if l.toNat*n=0 then pure #[]else do pure (bD (<-zeroValue d).cells l.toNat)):Sem<|Array Value).run P w= .ok (fd z l.toNat).toArray w:=by
  intro w;by_cases u:l.toNat*n=0
  .have M:l.toNat=0:=by
    rcases Nat.mul_eq_zero.1 u with h|h
    .exact h
    .omega
   have:(fd z l.toNat)=[]:=by rw[M];rfl
   rw[zE u,this];simp
  .rw[zF u]
   have hcc:bD F.cells l.toNat=(fd z l.toNat).toArray:=by
    unfold bD;rw[<-U,<-PR _ _ V1]
   simp_all
 refine⟨λI=> ?_,λA g hmax old J=> ?_⟩
 .rw[r];simp only[builtin,cO,Oe ha,Oe ht,cN,cL,cM,hq,hl,X,e2,e3,e4,aD,fX hu,fX H,aB,my hn,cB,cK,if_false,asInt,asIntOf,w1,Bool.not_true,if_true];rw[Zh];simp only[aD,b,aB,C];rw[Zh];simp only[aD,cB,aB];rw[zE I];simp only[aD,p,aB];rfl
 .refine⟨grownCap w (sl+l.toNat) m d,grownCap_ge _ _ _ _,F,W, ?_⟩;have Q:=growslice_fits A g;rw[r];simp only[builtin,cO,Oe ha,Oe ht,cN,cL,cM,hq,hl,X,e2,e3,e4,aD,fX hu,fX H,aB,my hn,cB,cK,if_false,asInt,asIntOf,w1,Bool.not_true,if_true];rw[Zh];simp only[aD,b,aB,C];rw[Zh];simp only[aD,cB,aB];rw[Zh];simp only[aD,b,aB,true_or,and_true]
  have L: ¬((sl+l.toNat:Nat):Int) > IntKind.i64.max:=by
   have:IntKind.i64.max=9223372036854775807:=by decide
   omega
  rw[zF L];simp only[aD,b,aB,C];rw[Zh];simp only[aD,run_choose,Question.forced,cK,if_false,World.drew_eq,aB,b,run_askRoom,J,p,z1,newRow,run_newObj,cB,World.alloc_eq];rfl
def Yj {st E d:TypeId}{n m:Nat}{z:List Value}(M:o.op= .call c)(K:c.callee= .builtin .append)(I:c.args.toList=[x,y])(U:c.argTypes.toList=[st,E])(V:P.underlying st=O (.slice d))
  (u: ∃q,P.underlying E=O (.int q)) (L:lC P d=O n) (J:Va P d=O m) (C:oH P d=O z) (g:ft z=n) (F:0<n)
  (W:dw x=Za) (X:dw y=Za) (h:(AOp.appendZ n m z x y).run e Z=O (v,Z')) (A:gp μ N e a.tmps) (H:R B μ Z w):kA P o a w B μ v Z':=by
 have r:=A.ev X;have⟨zz,z1,z2,z3⟩:=mb C;simp only[AOp.run]at h;split at h
 .rename_i p sl sc k l Q S;split at h
  .rename_i b;rw[S]at r;have v1:=r.int_inv;refine Mq (d:=d) (arr:=(fd z l.toNat).toArray) g (by simpa using VR.plainCells (G8 z3 _)) (by simp[An,g]) Q W h A H λs=> ?_
   exact Th M K I U V u L J C g F s v1 b.1 b.2.1 b.2.2
  .cases h
 .cases h
end
end
section
open Builtin renaming firstCells->aB
open Go.RowKit
section
variable {P:Program} {o:Oper} {a:Act} {w w':World} {B:Base P} {N:Nat} {μ:Mu} {e:cx} {Z Z':Hp} {v:Value}
theorem R.newB (h:R B μ Z w){t:TypeId}(ht:JY P t=Za):R B (μ.add Z.n ⟨w.heap.size,0,0,1,t,O .nilFunc⟩) (Z.add ⟨[.string ByteArray.empty],Za,1⟩) (w.alloc<|.cells #[.pointer Y, .slice Y 0 0] t)/\μ.le (μ.add Z.n ⟨w.heap.size,0,0,1,t,O .nilFunc⟩):=by
 have hf:μ Z.n=Y:=h.fresh _<|Nat.le_refl _;have A:μ.le<|μ.add Z.n ⟨w.heap.size,0,0,1,t,O .nilFunc⟩:=Mu.le_add hf
 have old: ∀b x,b≠Z.n->(Z.add ⟨[.string ByteArray.empty],Za,1⟩).m b=O x->Z.m b=O x:=by
  intro b x l r;simpa[Hp.add,l]using r
 have new: ∀x,(Z.add ⟨[.string ByteArray.empty],Za,1⟩).m Z.n=O x->x=⟨[.string ByteArray.empty],Za,1⟩:=by
  intro x r;simp[Hp.add]at r;exact r.symm
 have q: ∀b x g,Z.m b=O x->μ b=O g->g.c<w.heap.size:=λb x g r F=>(h.get r F).lt
 have J:(w.alloc<|.cells #[.pointer Y, .slice Y 0 0] t).heap[w.heap.size]?=O (.cells #[.pointer Y, .slice Y 0 0] t (0,0)):=heap_alloc_new w _
 have V:jd (w.alloc<|.cells #[.pointer Y, .slice Y 0 0] t) w.heap.size=Y:=by
  unfold jd;rw[J];rfl
 refine⟨⟨Nat.le_trans h.base V2,λb l=>(Below.heap_alloc w _ _<|Nat.lt_of_lt_of_le l h.base).trans<|h.old b l,λb l=> ?_,λb x r=> ?_,λb z x Q g C r s H ho F p=> ?_,λb x g r F S k K z Q C s p=> ?_⟩,A⟩
 .have:Z.n+1<=b:=l;unfold Mu.add;rw[Zh];exact h.fresh b V1
 .by_cases l:b=Z.n
  .subst l;obtain rfl:=new x r
   exact⟨⟨w.heap.size,0,0,1,t,O .nilFunc⟩,ZP,⟨V2,rfl,λU=>(by cases U),λU=>(by cases U),λs' X=>(by injection X with X;cases X),λ_=>
    ⟨ht, .pointer Y,ByteArray.empty, .inl rfl,rfl,h.base, .slice Y 0 0,J,World.ownsRowF_nil _ _ _ _,by simp[Value.ownBlock]⟩⟩⟩
  have s:=old b x l r;have⟨g,E,I⟩:=h.live b x s;exact⟨g,A _ _ E,(I.mono A).kept V2 (Below.heap_alloc w _ _ I.lt)<|λS k K=>Below.heap_alloc w _ _ (h.buf s E S K).2.1⟩
 .by_cases l:b=Z.n
  .subst l;have d:z≠Z.n:=λe=>H e.symm
   have:g.c=w.heap.size:=by simp[Mu.add]at F;rw[<-F]
   have I:μ z=O C:=by simpa[Mu.add,d]using p
   grind
  have E:μ b=O g:=by simpa[Mu.add,l]using F
  have u:=old b x l r;by_cases d:z=Z.n
  .subst d;have:C.c=w.heap.size:=by simp[Mu.add]at p;rw[<-p]
   have:=q b x g u E;omega
  have I:μ z=O C:=by simpa[Mu.add,d]using p
  exact h.inj b z x Q g C u (old _ _ d s) H ho E I
 by_cases l:b=Z.n
 .subst l;have e1:g.c=w.heap.size:=by simp[Mu.add]at F;rw[<-F]
  rw[e1,V]at K;cases K
 have E:μ b=O g:=by simpa[Mu.add,l]using F
 have u:=old b x l r
 have L:jd w g.c=O k:=by
  rw[<-K];unfold jd;rw[Below.heap_alloc w _ _<|q b x g u E]
 have hklt:=(h.buf u E S L).2.1;by_cases d:z=Z.n
 .subst d;have e1:C.c=w.heap.size:=by simp[Mu.add]at p;rw[<-p]
  grind
 have I:μ z=O C:=by simpa[Mu.add,d]using p
 have M:=old z Q d s;have⟨m1,m2⟩:=h.sep b x g u E S k L z Q C M I;refine⟨m1,λH W=> ?_⟩;have:=m2 H W;unfold jd at this⊢;rw[Below.heap_alloc w _ _<|q z Q C M I];exact this
def aV0 {t:TypeId}(m:o.op= .alloc t)(n:JY P t=Za)(p:oH P t=O [.pointer Y, .slice Y 0 0])(d:AOp.newB.run e Z=O (v,Z'))(b:R B μ Z w):kA P o a w B μ v Z':=by
 have⟨s,h,k,u⟩:=mb p;simp only[AOp.run,ez,fq]at d;obtain⟨rfl,rfl⟩:=d;have⟨q,r⟩:=b.newB n;have l:s.cells= #[.pointer Y, .slice Y 0 0]:=Array.toList_inj.1 k;refine⟨_,_,_, .pointer<|O ⟨w.heap.size,0,Y⟩, ?_, .inl rfl,r,q, ?_,(Below.refl _ _).alloc b.base _⟩
 .simp[execOp,m,Instr.alloc,h,newVar,newRow,l]
 exact .iter (g:=⟨w.heap.size,0,0,1,t,O .nilFunc⟩) ZP rfl
def Me {μ:Mu}: ∀{cs b:List Value} {l:Zd},F2 (VR μ) cs b->CO cs=O l->b=l.map (Value.int .u8)
 |[],_,l,h,d=>by
  cases h;simp[CO]at d;subst d;rfl
 |c::cs,_,l,h,d=>by
  cases h with
  |cons p q=>
   rename_i z b;unfold CO at d;split at d
   .rename_i g;cases g
   .rename_i n r g;injection g with k m
    subst k;subst m;have⟨A,s,u⟩:=aw.1 d;subst u;rw[Me q s,p.int_inv];rfl
   .cases d
def aE7 {s d t:TypeId}(L:o.op= .convert s d x)(M:P.underlying s=O (.slice t))(Q:P.underlying t=O (.int .u8))(K:P.underlying d=O .string)(hx:dw x=Za)(m:(AOp.strOf x).run e Z=O (v,Z'))(W:gp μ N e a.tmps)(A:R B μ Z w):kA P o a w B μ v Z':=by
 have h:=W.ev hx;simp only[AOp.run]at m;split at m
 .rename_i p n c hp;rw[hp]at h;split at m
  .rename_i cs F;obtain⟨l,X,m⟩:=aw.1 m;simp only[fq]at m;obtain⟨rfl,rfl⟩:=m;have⟨S,U,V⟩:=CQ (P:=P) (es:=1) (n:=n) (ln:=n) rfl (Nat.le_refl _) F A h;have J:=Me V X;have b:=U w rfl
   have g: ∀(q:Option Addr) (C:Nat),a.eval x= .slice q n C->(n=0∨∃z,q=O z)->(execOp a.eval o).run P w= .ok (.value<|.string<|YS l) w:=by
    intro q C k E;rw[k]at b;cases q with
    |none=>
     rcases E with E|⟨z,E⟩
     .subst E;simp[aB]at b;subst b;have H:l=[]:=by simpa using J.symm
      subst H;simp[execOp,L,k,run_convert_bytes_string w s d t Y 0 C M Q K,Conv.bytesToString,YS]
     cases E
    |some z=>
     have r:(loadCells z n).run P w= .ok (l.map<|Value.int .u8).toArray w:=by
      simp only[aB,Nat.mul_one]at b;rw[b,<-J]
     simp[execOp,L,k,run_convert_bytes_string w s d t (O z) n C M Q K,run_bytesToString w z n C l r,YS]
   generalize k:a.eval x=u at h;cases h with
   |nils=>exact .same A (g Y 0 k<|.inl rfl) (.string _)
   |slice I k2 k3 k4=>exact .same A (g _ _ k<|.inr ⟨_,rfl⟩) (.string _)
   |slice0 A' I=>exact .same A (g _ _ k<|.inl rfl) (.string _)
   |sliceX I k2=>exact .same A (g _ _ k<|.inr ⟨_,rfl⟩) (.string _)
   |sliceX0 A' I=>exact .same A (g _ _ k<|.inl rfl) (.string _)
  cases m
 cases m
end
end
section
open Go.RowKit
section
variable {P:Program} {o:Oper} {a:Act} {w:World} {B:Base P} {N:Nat} {μ:Mu} {e:cx} {Z Z':Hp} {v:Value}
theorem Aw {x y:Option Operand}(h:aV3 x=O y):x=y/\∀u,y=O u->dw u=Za:=by
 unfold aV3 at h;split at h
 .rename_i x;obtain⟨z,b,h⟩:=aw.1 h;obtain⟨rfl,d⟩:=bc b
  grind
 grind
def AOp.isCall :AOp->Bool
 | .call _ _| .callv _ _=>Za
 |_=>Zb
def aJ0 {op:BinOp}{t u:TypeId}(n:o.op= .binOp op t x y u)(h:W9 P op t x y=O ao)(p:ao.run e Z=O (v,Z'))(m:gp μ N e a.tmps)(l:R B μ Z w):kA P o a w B μ v Z':=by
 unfold W9 at h;split at h
 .split at h
  .rename_i b d;obtain⟨rfl,g⟩:=bc b;obtain⟨rfl,k⟩:=bc d;cases h;exact aE1 n g k p m l
  cases h
 .split at h
  .rename_i b d;obtain⟨rfl,g⟩:=bc b;obtain⟨rfl,k⟩:=bc d;cases h;exact aE1 n g k p m l
  cases h
 .split at h
  .rename_i q b d;obtain⟨rfl,g⟩:=bc b;obtain⟨rfl,k⟩:=bc d;cases h;exact EL n rfl q g k p m l
  .rename_i q b d;obtain⟨rfl,g⟩:=bc b;obtain⟨rfl,k⟩:=bc d;cases h;exact EL n rfl q g k p m l
  cases h
 .split at h
  .rename_i q b d;obtain⟨rfl,g⟩:=bc b;obtain⟨rfl,k⟩:=bc d;cases h;exact EL n rfl q g k p m l
  .rename_i q b d;obtain⟨rfl,g⟩:=bc b;obtain⟨rfl,k⟩:=bc d;cases h;exact EL n rfl q g k p m l
  cases h
 .rename_i s;split at h
  .rename_i r b d;obtain⟨rfl,g⟩:=bc b;obtain⟨rfl,k⟩:=bc d;cases h;exact aE2 n rfl s r g k p m l
  .rename_i r b d;obtain⟨rfl,g⟩:=bc b;obtain⟨rfl,k⟩:=bc d;cases h;exact aE2 n rfl s r g k p m l
  cases h
 cases h
def ar9 (z:o.op= .call c)(h:E0 P c=O ao)(I:ao.isCall=Zb)(A:ao.run e Z=O (v,Z'))(u:gp μ N e a.tmps)(s:R B μ Z w):kA P o a w B μ v Z':=by
 unfold E0 at h;split at h
 .split at h
  .obtain⟨x,_,h⟩:=aw.1 h;subst h;simp[AOp.isCall]at I
  cases h
 .obtain⟨x,_,h⟩:=aw.1 h;subst h;simp[AOp.isCall]at I
 .rename_i b;split at h
  .rename_i k r;split at h
   .rename_i n p d m;obtain⟨rfl,g⟩:=bc d;obtain⟨rfl,q⟩:=bc m;split at h
    .rename_i C E H;split at h
     .rename_i l;cases h;exact RF z b k r n (.inl ⟨_,p⟩) C E H l g q A u s
     cases h
    cases h
   .rename_i n p d m;obtain⟨rfl,g⟩:=bc d;obtain⟨rfl,q⟩:=bc m;split at h
    .rename_i C E H;split at h
     .rename_i l;cases h;exact RF z b k r n (.inr p) C E H l g q A u s
     cases h
    cases h
   .rename_i n p d m;obtain⟨rfl,g⟩:=bc d;obtain⟨rfl,q⟩:=bc m;split at h
    .rename_i C E H;split at h
     .rename_i l;cases h;exact Yj z b k r n ⟨_,p⟩ C E H l.1 l.2 g q A u s
     cases h
    cases h
   cases h
  cases h
 .rename_i b;split at h
  .rename_i k r;split at h
   .rename_i F d m;obtain⟨rfl,g⟩:=bc d;obtain⟨rfl,q⟩:=bc m;split at h
    .rename_i C;cases h;exact aU6 z b k r F C g q A u s
    cases h
   cases h
  cases h
 .rename_i b;split at h
  .rename_i k r;split at h
   .rename_i F d;obtain⟨rfl,g⟩:=bc d;cases h;exact bo0 z b k r F g A u s
   cases h
  cases h
 .rename_i b;split at h
  .rename_i k r;split at h
   .rename_i F d;obtain⟨rfl,g⟩:=bc d;cases h;exact aU4 z b k r F g A u s
   cases h
  cases h
 .rename_i b;split at h
  .rename_i k;split at h
   .rename_i d m;obtain⟨rfl,g⟩:=bc d;obtain⟨rfl,q⟩:=bc m;cases h;exact aU9 z b k g q A u s
   cases h
  cases h
 .rename_i b;split at h
  .rename_i k;split at h
   .rename_i d m;obtain⟨rfl,g⟩:=bc d;obtain⟨rfl,q⟩:=bc m;cases h;exact aE3 z b k g q A u s
   cases h
  cases h
 cases h
def aY6 (h:Xb P o=O ao)(S:ao.isCall=Zb)(k:ao.run e Z=O (v,Z'))(m:gp μ N e a.tmps)(l:R B μ Z w):kA P o a w B μ v Z':=by
 unfold Xb at h;split at h
 .rename_i b;obtain⟨x,d,h⟩:=aw.1 h;obtain⟨rfl,g⟩:=bc d;subst h;exact ae0 (.inl b) g k m l
 .rename_i b;obtain⟨x,d,h⟩:=aw.1 h;obtain⟨rfl,g⟩:=bc d;subst h;exact ae0 (.inr b) g k m l
 .rename_i b;split at h
  .rename_i d s A;obtain⟨rfl,g⟩:=bc d;obtain⟨rfl,u⟩:=bc s;obtain⟨rfl,C⟩:=bc A;cases h;exact aV1 b g u C k m l
  cases h
 .rename_i b;split at h
  .rename_i E;split at h
   .rename_i z;cases h;exact aV0 b E z k l
   cases h
  split at h
  .rename_i z;cases h;exact aE0 b z k l
  cases h
 .rename_i b;split at h
  .rename_i d;obtain⟨rfl,g⟩:=bc d;cases h;exact bn8 b g k m l
  cases h
 .rename_i b;split at h
  .rename_i r z;split at h
   .rename_i F;obtain⟨Q,H,h⟩:=aw.1 h;subst h;exact M2 b r z F H k m l
   cases h
  .rename_i r z;split at h
   .rename_i q;obtain⟨Q,H,h⟩:=aw.1 h;subst h;exact Pm b r q z H k m l
   cases h
  cases h
 .rename_i b;split at h
  .rename_i r;split at h
   .rename_i q z;split at h
    .rename_i p;obtain⟨Q,H,h⟩:=aw.1 h;subst h;exact QP b r q z p.1 p.2.1 p.2.2 H k m l
    cases h
   cases h
  cases h
 .injection h with h
  subst h;cases k
 .rename_i b;split at h
  .rename_i I d;obtain⟨rfl,g⟩:=bc d;obtain⟨n,q,h⟩:=aw.1 h;subst h;exact aE4 b I q g k m l
  .rename_i I d;obtain⟨rfl,g⟩:=bc d;cases h;exact aU8 b I g k m l
  cases h
 .rename_i b;split at h
  .rename_i q d s;obtain⟨rfl,g⟩:=bc d;obtain⟨rfl,u⟩:=bc s;cases h;exact aE6 b q g u k m l
  cases h
 .rename_i b;obtain⟨x,d,h⟩:=aw.1 h;obtain⟨rfl,g⟩:=bc d;subst h;exact VY b g k m l
 .rename_i b;exact aJ0 b h k m l
 .rename_i b;obtain⟨x,d,h⟩:=aw.1 h;obtain⟨rfl,g⟩:=bc d;subst h;exact bx0 b g k m l
 .rename_i b;split at h
  .rename_i M K d;obtain⟨rfl,g⟩:=bc d;cases h;exact aU5 b M K g k m l
  .rename_i M K d;obtain⟨rfl,g⟩:=bc d;split at h
   .rename_i I;cases h;exact aE7 b M I K g k m l
   cases h
  cases h
 .rename_i b;split at h
  .rename_i J d;cases h;exact ao5 b J d k m l
  cases h
 .rename_i b;split at h
  .rename_i r;split at h
   .rename_i q E z d s;obtain⟨rfl,g⟩:=bc d;obtain⟨rfl,u⟩:=bc s;split at h
    .rename_i p;cases h;exact TK b r q E z g u p.1 p.2 k m l
    cases h
   cases h
  cases h
 .rename_i b;split at h
  .rename_i r d s A;obtain⟨rfl,g⟩:=bc d;obtain⟨rfl,u⟩:=Aw s;obtain⟨rfl,C⟩:=Aw A;obtain⟨n,q,h⟩:=aw.1 h;subst h;exact aE5 b r q g u C k m l
  .rename_i r d s A;obtain⟨rfl,g⟩:=bc d;obtain⟨rfl,u⟩:=Aw s;obtain⟨rfl,C⟩:=Aw A;cases h;exact V0 b r g u C k m l
  .rename_i r d s A;obtain⟨rfl,g⟩:=bc d;obtain⟨rfl,u⟩:=Aw s;obtain⟨rfl,C⟩:=Aw A;obtain⟨n,q,h⟩:=aw.1 h;subst h;exact VZ b r q g u C k m l
  cases h
 .rename_i b;split at h
  .rename_i r d;obtain⟨rfl,g⟩:=bc d;split at h
   .rename_i L;split at h
    .rename_i q;split at h
     .cases h
     rename_i J;cases h;exact bo1 b r L q J g k m l
    cases h
   cases h
  cases h
 .rename_i b;split at h
  .rename_i r d;obtain⟨rfl,g⟩:=bc d;split at h
   .rename_i L;split at h
    .rename_i q E;cases h;exact ao2 b r L q E g k m l
    cases h
   cases h
  cases h
 .rename_i b;split at h
  .rename_i r d s;obtain⟨rfl,g⟩:=bc d;obtain⟨rfl,u⟩:=bc s;obtain⟨n,q,h⟩:=aw.1 h;subst h;exact bn9 b r q g u k m l
  .rename_i r d s;obtain⟨rfl,g⟩:=bc d;obtain⟨rfl,u⟩:=bc s;obtain⟨n,q,h⟩:=aw.1 h;subst h;exact aU7 b r q g u k m l
  cases h
 .rename_i b;split at h
  .rename_i r d s;obtain⟨rfl,g⟩:=bc d;obtain⟨rfl,u⟩:=bc s;split at h
   .rename_i q E;cases h;exact ao4 b r q E g u k m l
   cases h
  .rename_i r d s;obtain⟨rfl,g⟩:=bc d;obtain⟨rfl,u⟩:=bc s;cases h;exact ao3 b r g u k m l
  cases h
 .rename_i b;split at h
  .rename_i r d s A;obtain⟨rfl,g⟩:=bc d;obtain⟨rfl,u⟩:=bc s;obtain⟨rfl,C⟩:=bc A;split at h
   .rename_i q;cases h;obtain⟨n,q⟩:=eW.1 q;exact ao6 b r q g u C k m l
   cases h
  cases h
 .rename_i b;obtain⟨x,d,h⟩:=aw.1 h;obtain⟨rfl,g⟩:=bc d;subst h;exact Yk b g k m l
 .rename_i b;exact ar9 b h S k m l
 .injection h with h
  subst h;cases k
 .injection h with h
  subst h;cases k
 cases h
end
end
section
open Result renaming andThen_ok->aB
open Sem renaming run_bind->aD,run_pure->bB
open Go.RowKit
def Up (ops:Array Oper):Option (Nat×Bool)->Option (Option<|Nat×Bool)
 |none=>O Y
 |some (j,b)=>match(ops[j]?).bind (·.dst)with
  |some t=>O (O (t,b))
  |none=>Y
def az1 (N:Nat):Option Nat->Bool
 |none=>Za
 |some d=>d<N
def LR (P:Program)(N:Nat)(ops:Array Oper)(o:Oper):Option AOper:=match Xb P o,Up ops o.guard with
 |some op,O g=>if az1 N o.dst then O ⟨o.dst,op,g⟩else Y
 |_,_=>Y
def KE (P:Program)(N:Nat)(ops:Array Oper):List Oper->Option (List AOper)
 |[]=>O []
 |o::r=>match LR P N ops o,KE P N ops r with
  |some x,O l=>O (x::l)
  |_,_=>Y
def yy (P:Program)(f:FuncId):Prop:= ∃b,P.funcs[f]?=O b/\b.body.isSome=Za/\(b.name== "runtime.NumGoroutine")=Zb
def bs9 (P:Program)(B:Base P)(μ:Mu)(w:World)(K:Value->Hp->Prop):Ending->World->Prop:=λx w'=>
 ∃r Z' d b,x= .returned d/\K r Z'/\μ.le b/\R B b Z' w'/\VR b r d/\Below B w w'/\P=P
def Sim (P:Program)(f:FuncId)(S:S6):Prop:=
 ∀(B:Base P) μ Z w args (b:Array Value) K,S args Z K->R B μ Z w->F2 (VR μ) args b.toList->yy P f/\Calls P f b w (bs9 P B μ w K)
def Fj :Nat:=1000000
def Af :AExit->Exit->Prop
 | .normal, .normal=>True
 | .exit i, .exit j=>i=j/\j<Fj
 | .exit i, .goto l=>i=Fj+2*l
 | .ret, .ret=>True
 |_,_=>False
def sf {P:Program}(B:Base P)(N:Nat)(μ:Mu)(w:World)(Q:AExit->cx->Hp->Prop):Exit->Act->World->Prop:=λx d w'=>
 ∃g e' Z' b,Af g x/\Q g e' Z'/\μ.le b/\R B b Z' w'/\gp b N e' d.tmps/\d.defers=[]/\Below B w w'
section
variable {P:Program} {T:iX} {o:Oper} {a:Act} {w:World} {B:Base P} {N:Nat} {μ:Mu} {e:cx} {Z Z':Hp} {v:Value}
def sf.trans {g:Mu}{w':World}{Q:AExit->cx->Hp->Prop}(z:μ.le g)(u:Below B w w'){x:Exit}{a':Act}{b:World}(h:sf B N g w' Q x a' b):sf B N μ w Q x a' b:=by
 have⟨k,e',Z',d,l,m,n,p,q,r,s⟩:=h;exact⟨k,e',Z',d,l,m,Mu.le_trans z n,p,q,r,u.trans s⟩
def R9 {ops:Array Oper}{g:Option<|Nat×Bool}(d:Up ops o.guard=O g)(q:gp μ N e a.tmps):Region.wanted o (yielded ops a.tmps)=wanted ⟨o.dst,op,g⟩ e:=by
 unfold Up at d;unfold Region.wanted wanted;split at d
 .rename_i h;cases d;simp[h]
 rename_i j l h;split at d
 .rename_i t r;cases d;simp only[h];have n:=q.2 t;unfold yielded;rw[r,zG];by_cases k:t<a.tmps.size
  .have m:a.tmps[t]?=O (a.tmps.getD t undef):=by simp[k]
   rw[m];generalize a.tmps.getD t undef=u at*;generalize e t=s at*;cases n<;>simp
   try(rename_i b;cases b<;>cases l<;>rfl)
  have m:a.tmps[t]?=Y:=Array.getElem?_eq_none (Nat.le_of_not_lt k);have p:a.tmps.getD t undef=undef:=by simp[m]
  rw[p]at n;rw[m];generalize e t=u at*;cases n;simp
 cases d
def gp.putO (h:gp μ N e a.tmps){d:Option Nat}(b:az1 N d=Za){v':Value}(g:VR μ v v'):gp μ N (e.putO d v) (a.put d v').tmps:=by
 cases d with
 |none=>exact h
 |some d=>exact h.put d (by simpa[az1]using b) g
def wM (d:Option Nat)(v':Value):(a.put d v').defers=a.defers:=by cases d<;>rfl
def Rg (h:yy P f)(args:Array Value)(w:World):(callFunc f args).run P w= .ok (.enter f args) w:=by
 have⟨b,d,g,k⟩:=h;have l:b.body.isNone=Zb:=by cases m:b.body<;>simp[m]at g⊢
 simp only[callFunc,aD,run_program,aB,d,k,l,Bool.false_eq_true,if_false,bB]
def VR.func_inv {f:Fn}{x y:Array Value}{v':Value}(h:VR μ (.func f x y) v'): ∃b d,v'= .func f b d/\F2 (VR μ) x.toList b.toList/\F2 (VR μ) y.toList d.toList:=by
 cases h with
 |func g k=>exact⟨_,_,rfl,g,k⟩
def as1 (h:Xb P o=O (.call f args)): ∃c,o.op= .call c/\E0 P c=O (.call f args):=by
 unfold Xb at h;split at h
 all_goals first
  |exact⟨_,‹_›,h⟩
  |(exfalso;revert h;unfold W9;(repeat' split)<;>simp)
  |(exfalso;revert h;(repeat' split)<;>simp)
def YZ {f:Operand}(h:Xb P o=O (.callv f args)): ∃c,o.op= .call c/\E0 P c=O (.callv f args):=by
 unfold Xb at h;split at h
 all_goals first
  |exact⟨_,‹_›,h⟩
  |(exfalso;revert h;unfold W9;(repeat' split)<;>simp)
  |(exfalso;revert h;(repeat' split)<;>simp)
theorem Xa (h:E0 P c=O (.call f args)):c.callee= .value (.func f)/\M4 c.args.toList=O args:=by
 unfold E0 at h;split at h
 .rename_i b
  simp_all
 all_goals (exfalso;revert h;(repeat' split)<;>simp)
def Uo {f:Operand}(h:E0 P c=O (.callv f args)):c.callee= .value f/\dw f=Za/\M4 c.args.toList=O args:=by
 unfold E0 at h;split at h
 .exfalso;revert h;split<;>simp
 .rename_i d;simp at h;obtain⟨b,rfl⟩:=h;exact⟨d,rfl,b⟩
 all_goals (exfalso;revert h;(repeat' split)<;>simp)
def aa5 (m: ∀f,Sim P f<|T f){args:List Value}{cargs:Array Value}{k:Value->Hp->Prop}(q:T f args Z k)(l:R B μ Z w)(n:F2 (VR μ) args cargs.toList)
  (b:yy P f->(execOp a.eval o).run P w= .ok (.enter f cargs) w) {next:Act->World->Prop} {Q:Exit->Act->World->Prop}
  (p: ∀v Z' v' d w',k v Z'->μ.le d->R B d Z' w'->VR d v v'->Below B w w'->next (a.put o.dst v') w'):o.wp P a w next Q:=by
 have⟨g,h⟩:=m f B μ Z w args cargs k q l n;unfold Oper.wp;rw[b g];simp only[Oper.upon];refine h.mono λx w' s=> ?_
 obtain⟨r,Z',F,d,rfl,u,z,A,C,E,_⟩:=s;exact p r Z' F d w' u z A C E
theorem PB (K: ∀f,Sim P f<|T f)(h:Xb P o=O op){k:Value->Hp->Prop}(d:cg T op e Z k)(u:gp μ N e a.tmps)(A:R B μ Z w)
  {next:Act->World->Prop} {Q:Exit->Act->World->Prop}
  (z: ∀v Z' v' n w',k v Z'->μ.le n->R B n Z' w'->VR n v v'->Below B w w'->next (a.put o.dst v') w'):o.wp P a w next Q:=by
 by_cases E:op.isCall=Za
 .cases op<;>simp[AOp.isCall]at E
  case call f args=>
   have⟨c,F,p⟩:=as1 h;have⟨q,m⟩:=Xa p;have C:=JT u m;simp only[cg]at d;refine aa5 (cargs:=c.args.map a.eval) K d A (by simpa using C) (λb=> ?_) z;simp only[execOp,F,resolve,q,aD,Act.eval,Deferred.ofValue,bB,aB,invoke];simp[Rg b]
  case callv f args=>
   have⟨c,F,p⟩:=YZ h;have⟨q,s,m⟩:=Uo p;have C:=JT u m;have L:=u.ev s;simp only[cg]at d;split at d
   .rename_i g first l V
    rw[V]at L;have⟨X,y',M,S,U⟩:=L.func_inv;refine aa5 (cargs:=X++c.args.map a.eval++y') K d A (by simpa using(S.append C).append U) (λb=> ?_) z;simp only[execOp,F,resolve,q,M,aD,Deferred.ofValue,bB,aB,invoke];simp[Rg b]
   .exact d.elim
 .have H: ∃v Z',op.run e Z=O (v,Z')/\k v Z':=by
   unfold cg at d;cases op<;>simp[AOp.isCall]at E<;>simp only at d
   all_goals
    split at d
    .grind
    .exact d.elim
  have⟨v,Z',W,r⟩:=H;have⟨nx,w',n,v',p,q,m,s,I,J⟩:=aY6 h (by simpa using E) W u A;unfold Oper.wp;rw[p];rcases q with rfl|⟨rfl,rfl⟩
  .exact z v Z' v' n w' r m s I J
  .exact z v Z' undef n w' r m s I J
def Ym (A: ∀f,Sim P f<|T f){ops:Array Oper}{Q:AExit->cx->Hp->Prop}{J:Mu}{I:World}: ∀(l:List Oper) (al:List AOper) (e:cx) (Z:Hp) (μ:Mu) (a:Act) (w:World),KE P N ops l=O al->BE T (Q .normal) al e Z->
  R B μ Z w->gp μ N e a.tmps->a.defers=[]->J.le μ->Below B I w->wpList P ops (sf B N J I Q) l a w
 |[],al,e,Z,μ,a,w,h,m,s,p,u,d,b=>by
  simp[KE]at h;subst h;exact⟨.normal,e,Z,μ,trivial,m,d,s,p,u,b⟩
 |o::l,al,e,Z,μ,a,w,h,m,s,p,u,d,b=>by
  simp only[KE]at h;split at h
  .rename_i x r k E;cases h;unfold LR at k;split at k
   .rename_i op g K L;split at k
    .rename_i F;cases k;have n:=R9 (op:=op) L p;unfold wpList;simp only[BE]at m;rw[n];split
     .rename_i C;rw[zE C]at m;left;refine PB A K m p s λv Z' U V w' M H z S q=> ?_
      exact Ym A l r _ Z' V (a.put o.dst U) w' E M z ((p.mono H).putO F S) (by rw[wM];exact u) (Mu.le_trans d H) (b.trans q)
     .rename_i C;rw[zF C]at m;exact Ym A l r _ Z μ (a.put o.dst undef) w E m s (p.putO F<|VR.undef μ) (by rw[wM];exact u) d b
    .cases k
   .cases k
  .cases h
end
end
section
open List renaming map_congr_left->aB,mem_append->aD
open Go.RowKit
def nz :Operand->List Nat
 | .tmp t=>[t]
 |_=>[]
def aI8 :Option Operand->List Nat
 |some x=>nz x
 |none=>[]
def AOp.reads :AOp->List Nat
 | .move x| .box _ x| .load x| .loadN _ x| .nilCheck x| .un _ x| .conv _ x| .off _ x| .fieldV _ _ _ x| .extract x _| .len x| .capN x| .strOf x=>nz x
 | .pick c a b| .sliceX c a b=>nz c++nz a++nz b
 | .alloc _ _| .stuck| .newB=>[]
 | .build _ k| .buildSlice _ _ _ k=>k.flatMap λp=>nz p.2.2
 | .store _ a x=>nz a++nz x
 | .bin _ x y| .eqv _ _ x y| .eqCells _ _ x y| .idx _ x y| .idxA _ _ x y| .indexV _ _ _ x y| .indexS x y| .append _ _ x y| .appendZ _ _ _ x y| .copy _ x y| .most x y| .least x y| .makeSlice _ _ _ x y=>nz x++nz y
 | .mkFunc _ d l=>d.flatMap nz++l.flatMap nz
 | .slice _ x h g| .sliceStr x h g| .sliceArr _ _ x h g=>nz x++aI8 h++aI8 g
 | .call _ d=>d.flatMap nz
 | .callv f d=>nz f++d.flatMap nz
def bn (h: ∀t∈nz x,e t=e' t):e.ev x=e'.ev x:=by
 cases x<;>first|rfl|exact h _ (by simp[nz])
def Ar {x:Option Operand}(h: ∀t∈aI8 x,e t=e' t):x.map e.ev=x.map e'.ev:=by
 cases x with
 |none=>rfl
 |some x=>simp only[Option.map_some];rw[bn h]
def Hu {xs:List Operand}(h: ∀t∈xs.flatMap nz,e t=e' t):xs.map e.ev=xs.map e'.ev:=by
 apply aB;intro x d;exact bn λt b=>h t<|cc.2 ⟨x,d,b⟩
def Ri {b:List<|Nat×Nat×Operand}(h: ∀t∈b.flatMap (λp=>nz p.2.2),e t=e' t):(b.map λ(o,s,x)=>(o,s,e.ev x))=b.map λ(o,s,x)=>(o,s,e'.ev x):=by
 apply aB;rintro⟨o,s,x⟩ g;simp only;rw[bn λt d=>h t<|cc.2 ⟨_,g,d⟩]
def DB (h: ∀t∈op.reads,e t=e' t):op.run e Z=op.run e' Z:=by
 cases op<;>simp only[AOp.reads,aD]at h<;>simp only[AOp.run]
 case move x=>rw[bn h]
 case pick c a b=>rw[bn λt g=>h t<|.inl<|.inl g,bn λt g=>h t<|.inl<|.inr g,bn λt g=>h t<|.inr g]
 case box es x=>rw[bn h]
 case build z ps=>rw[Ri h]
 case buildSlice es ln z ps=>rw[Ri h]
 case load x=>rw[bn h]
 case loadN n x=>rw[bn h]
 case store n a x=>rw[bn λt g=>h t<|.inl g,bn λt g=>h t<|.inr g]
 case nilCheck x=>rw[bn h]
 case bin op x y=>rw[bn λt g=>h t<|.inl g,bn λt g=>h t<|.inr g]
 case eqv kd neg x y=>rw[bn λt g=>h t<|.inl g,bn λt g=>h t<|.inr g]
 case eqCells neg ks x y=>rw[bn λt g=>h t<|.inl g,bn λt g=>h t<|.inr g]
 case un op x=>rw[bn h]
 case conv k x=>rw[bn h]
 case mkFunc f xs cs=>rw[Hu λt g=>h t<|.inl g,Hu λt g=>h t<|.inr g]
 case makeSlice es by_ z l c=>rw[bn λt g=>h t<|.inl g,bn λt g=>h t<|.inr g]
 case slice es x lo hi=>rw[bn λt g=>h t<|.inl<|.inl g,Ar λt g=>h t<|.inl<|.inr g,Ar λt g=>h t<|.inr g]
 case sliceStr x lo hi=>rw[bn λt g=>h t<|.inl<|.inl g,Ar λt g=>h t<|.inl<|.inr g,Ar λt g=>h t<|.inr g]
 case sliceArr es n x lo hi=>rw[bn λt g=>h t<|.inl<|.inl g,Ar λt g=>h t<|.inl<|.inr g,Ar λt g=>h t<|.inr g]
 case off n x=>rw[bn h]
 case idx es x i=>rw[bn λt g=>h t<|.inl g,bn λt g=>h t<|.inr g]
 case idxA ln es x i=>rw[bn λt g=>h t<|.inl g,bn λt g=>h t<|.inr g]
 case fieldV fo n agg x=>rw[bn h]
 case indexV ln es agg x i=>rw[bn λt g=>h t<|.inl g,bn λt g=>h t<|.inr g]
 case indexS x i=>rw[bn λt g=>h t<|.inl g,bn λt g=>h t<|.inr g]
 case extract x i=>rw[bn h]
 case append es by_ s x=>rw[bn λt g=>h t<|.inl g,bn λt g=>h t<|.inr g]
 case appendZ es by_ z s x=>rw[bn λt g=>h t<|.inl g,bn λt g=>h t<|.inr g]
 case copy es d s=>rw[bn λt g=>h t<|.inl g,bn λt g=>h t<|.inr g]
 case len x=>rw[bn h]
 case capN x=>rw[bn h]
 case strOf x=>rw[bn h]
 case sliceX c a b=>rw[bn λt g=>h t<|.inl<|.inl g,bn λt g=>h t<|.inl<|.inr g,bn λt g=>h t<|.inr g]
 case most x y=>rw[bn λt g=>h t<|.inl g,bn λt g=>h t<|.inr g]
 case least x y=>rw[bn λt g=>h t<|.inl g,bn λt g=>h t<|.inr g]
def WL {T:iX}{k:Value->Hp->Prop}(h: ∀t∈op.reads,e t=e' t)(b:cg T op e Z k):cg T op e' Z k:=by
 by_cases g:op.isCall=Za
 .cases op<;>simp[AOp.isCall]at g
  case call f xs=>
   simp only[cg,AOp.reads]at*;rw[<-Hu h];exact b
  case callv f xs=>
   simp only[cg,AOp.reads,aD]at*;rw[<-Hu λt d=>h t<|.inr d,<-bn λt d=>h t<|.inl d];exact b
 unfold cg at*;cases op<;>simp[AOp.isCall]at g<;>simp only at b⊢ <;>rw[<-DB h]<;>exact b
def AOper.looks (o:AOper):List Nat:=o.op.reads++(match o.guard with|some (t,_)=>[t]|none=>[])
theorem E2 {o:AOper}(h: ∀t∈o.looks,e t=e' t):wanted o e=wanted o e':=by
 unfold wanted;unfold AOper.looks at h
 grind
def wR {Z':Hp}(b:op.still=Za)(h:op.run e Z=O (v,Z')):Z'=Z:=by
 cases op<;>simp[AOp.still]at b<;>simp only[AOp.run]at h
 all_goals
  revert h
  repeat' split
  all_goals first
   |(intro h;cases h;done)
   |(intro h;simp only[ez,fq]at h;exact h.2.symm)
   |(intro h;obtain⟨_,_,h⟩:=aw.1 h;simp only[fq]at h;exact h.2.symm)
theorem RY (d:op.still=Za)(b:op.isLoad=Zb)(h:op.run e Z=O (v,Z))(Z':Hp):op.run e Z'=O (v,Z'):=by
 cases op<;>simp[AOp.still]at d
 case slice es x lo hi=>
  cases lo with
  |some _=>simp[AOp.isLoad]at b
  |none=>
   simp only[AOp.run,EI,Bool.or_true,if_true]at h⊢;revert h
   repeat' split
   all_goals first
    |(intro h;cases h;done)
    |(intro h;simp only[ez,fq]at h⊢;exact⟨h.1,trivial⟩)
    |simp_all
 all_goals first
  |(simp[AOp.isLoad]at b;done)
  |(simp only[AOp.run]at h⊢
    revert h
    repeat' split
    all_goals first
     |(intro h;cases h;done)
     |(intro h;simp only[ez,fq]at h⊢;exact⟨h.1,trivial⟩)
     |(intro h;obtain⟨u,g,h⟩:=aw.1 h;simp only[fq]at h;rw[g];simp[h.1]))
end
section
open Bool renaming and_eq_true->bD
open List renaming mem_cons_of_mem->aB,range->aD,mem_cons_self->bB,find?_some->cB
open Go.RowKit
theorem am8 {b:Array Bool}(h:b.getD i Za=Zb):b.getD i Zb=Zb:=by
 grind
def aR4 {b:Array Bool}(d:i<b.size)(h:b.getD i Zb=Zb):b.getD i Za=Zb:=by
 simp[d]at h⊢;exact h
abbrev DL :=List<|AOper×List Nat
def oU (al:DL)(i:Nat):Option Nat:=(al[i]?).bind (·.1.dst)
def HF (al:DL)(i:Nat):List Nat:=match al[i]? with
 |some (o,_)=>o.looks
 |none=>[]
def EB (al:DL):Bool:=
 (aD<|ft al).all λi=>
  (iz al i).all (λq=>Zc<|q<i)&&
  (match oU al i with
   |none=>Za
   |some t=>(aD<|ft al).all λj=>i==j||((oU al j !=O t)&&(!(HF al j).contains t||vu al i j||vu al j i)))
section
variable {al:DL}
theorem Vn (h:EB al=Za){q:Nat}(b:i<ft al)(d:q∈iz al i):q<i:=by
 have:=bo.1 h i (cJ.2 b)
 grind
theorem Dn (h:oU al i=O t):i<ft al:=by
 unfold oU at h
 grind
theorem XV (h:EB al=Za)(b:oU al i=O t)(d:oU al j=O t):i=j:=by
 have:=bo.1 h i<|cJ.2<|Dn b;simp only[bD,b]at this;have:=bo.1 this.2 j (cJ.2<|Dn d)
 grind
theorem XU (h:EB al=Za)(b:oU al i=O t)(d:j<ft al)(k:t∈HF al j)(g:i≠j):vu al i j=Za∨vu al j i=Za:=by
 have:=bo.1 h i (cJ.2<|Dn b)
 grind
def Cn (al:DL)(D:List Nat):Prop:= ∀i∈D,∀q∈iz al i,q∈D
theorem Yb {acc b:List Nat}{p:Nat}(h:(Lv acc b).testBit p=Za): ∃q∈b,q=p∨(acc.getD q 0).testBit p=Za:=by
 have d: ∀(b:List Nat) (m:Nat),(b.foldl (λm q=>m|||2 ^ q|||acc.getD q 0) m).testBit p=Za->m.testBit p=Za∨∃q∈b,q=p∨(acc.getD q 0).testBit p=Za:=by
  intro b;induction b with
  |nil=>intro m h;exact .inl h
  |cons q b g=>
   intro m h;rcases g _ h with h1|⟨l,h1,k⟩
   .simp only[Nat.testBit_or,Nat.testBit_two_pow,Bool.or_eq_true,decide_eq_true_eq]at h1
    grind
   grind
 rcases d b 0 h with h1|h1
 .simp at h1
 exact h1
theorem Pd {d:DL}: ∀(r pre:DL) (b:List Nat),pre++r=d->ft b=ft pre->
  (∀j p,(b.getD j 0).testBit p=Za->∃q∈iz d j,q=p∨(q<j/\(b.getD q 0).testBit p=Za))->
  ∀j p,((VN b r).getD j 0).testBit p=Za->∃q∈iz d j,q=p∨(q<j/\((VN b r).getD q 0).testBit p=Za)
 |[],pre,b,_,_,h=>h
 |(o,g)::r,pre,b,s,u,h=>by
  simp only[VN];refine Pd r (pre++[(o,g)]) (b++[Lv b g]) (by rw[List.append_assoc];exact s) (by simp[u]) λj p l=> ?_
  have z:iz d (ft b)=g:=by
   unfold iz
   grind
  have k: ∀q,q<ft b->(b++[Lv b g]).getD q 0=b.getD q 0:=by
   grind
  by_cases m:j<ft b
  .rw[k j m]at l
   grind
  .by_cases n:j=ft b
   .subst n;have:(b++[Lv b g]).getD (ft b) 0=Lv b g:=by simp
    rw[this]at l;have⟨q,A,C⟩:=Yb l
    grind
   grind
def aj1 {p:Nat}(h:vu al p j=Za): ∃q∈iz al j,q=p∨(q<j/\vu al p q=Za):=
 Pd al [] [] rfl rfl (λj p h=>by simp at h) j p h
def Cn.bef (h:Cn al D): ∀(p j:Nat),vu al p j=Za->(∀q∈iz al j,q∈D)->p∈D:=by
 intro p j;induction j using Nat.strongRecOn with
 |_ j l=>
  intro b g;obtain⟨q,k,rfl|⟨d,b⟩⟩:=aj1 b
  .exact g q k
  exact l q d b<|h q<|g q k
def iR (al:DL)(e0:cx)(b:Nat->Value)(D:List Nat):cx:=λt=>match D.find? (λi=>oU al i==O t)with
 |some i=>b i
 |none=>e0 t
theorem sq {b:Nat->Value}(h:EB al=Za)(k:i∈D)(d:oU al i=O t):iR al e0 b D t=b i:=by
 unfold iR;cases g:D.find? (λi=>oU al i==O t)with
 |none=>
  grind
 |some j=>
  have:=cB g;simp only[beq_iff_eq]at this;rw[XV h this d]
theorem pg {b:Nat->Value}(h: ∀i∈D,oU al i≠O t):iR al e0 b D t=e0 t:=by
 unfold iR
 grind
theorem Bi {k:Nat->Value}(h:EB al=Za)(i:Nat)(p:i∉D):iR al e0 k (i::D)=(iR al e0 k D).putO (oU al i) (k i):=by
 funext t
 cases n:oU al i with
 |none=>
  simp only[cx.putO];by_cases l: ∃j∈D,oU al j=O t
  .obtain⟨j,g,b⟩:=l;rw[sq h (aB _ g) b,sq h g b]
  rw[pg<|λj g b=>l ⟨j,g,b⟩];refine pg λj g b=> ?_
  grind
 |some d=>
  simp only[cx.putO,cx.put];split
  .rename_i m;subst m;exact sq h (bB ..) n
  rename_i m;by_cases l: ∃j∈D,oU al j=O t
  .obtain⟨j,g,b⟩:=l;rw[sq h (aB _ g) b,sq h g b]
  rw[pg<|λj g b=>l ⟨j,g,b⟩];refine pg λj g b=> ?_
  grind
def GW (al:DL)(e0:cx)(b:Nat->Value)(j:Nat):cx:=λt=>match(aD<|ft al).find? (λi=>oU al i==O t&&vu al i j)with
 |some i=>b i
 |none=>e0 t
def Ue {d:Nat->Value}(h:EB al=Za)(g:Cn al D)(k:j<ft al)(r:j∉D)(s: ∀q∈iz al j,q∈D)(u:t∈HF al j):
  iR al e0 d D t=GW al e0 d j t:=by
 unfold GW;cases n:(aD<|ft al).find? (λi=>oU al i==O t&&vu al i j)with
 |some i=>
  have:=cB n;simp only[bD,beq_iff_eq]at this;exact sq h (g.bef _ _ this.2 s) this.1
 |none=>
  refine pg λi p b=> ?_
  have m:=List.find?_eq_none.1 n i (cJ.2<|Dn b);simp only[b,beq_self_eq_true,Bool.true_and]at m;have l:i≠j:=λe=>r (e▸p)
  rcases XU h b k u l with hb|hb
  .exact m hb
  .exact r (g.bef _ _ hb<|g i p)
def aH2 {d b:Nat->Value}(g:Cn al D)(k:j∈D)(l: ∀i∈D,b i=d i):GW al e0 b j=GW al e0 d j:=by
 funext t
 unfold GW;cases h:(aD<|ft al).find? (λi=>oU al i==O t&&vu al i j)with
 |none=>rfl
 |some i=>
  have:=cB h;simp only[bD,beq_iff_eq]at this;exact l i<|g.bef _ _ this.2<|g j k
theorem Ht {d b:Nat->Value}(g: ∀i∈D,b i=d i):iR al e0 b D=iR al e0 d D:=by
 funext t
 unfold iR
 grind
def left (n:Nat)(D:List Nat):Nat:=ft<|(aD n).filter λi=> !D.contains i
theorem Ls {n:Nat}(d:i<n)(b:i∉D):left n (i::D)<left n D:=by
 unfold left
 have:(aD n).filter (λj=> !(i::D).contains j)=((aD n).filter λj=> !D.contains j).filter λj=>j !=i:=by
  rw[List.filter_filter]
  grind
 rw[this];refine List.length_filter_lt_length_iff_exists.2 ⟨i, ?_,V2⟩;simp[d,b]
theorem Lt {n:Nat}(h:left n D=0)(b:i<n):i∈D:=by
 unfold left at h
 simp_all
def aB6 {n:Nat}(d:i<n)(b:i∉D):0<left n D:=by
 rcases Nat.eq_zero_or_pos (left n D)with h|h
 .exact absurd (Lt h d) b
 exact h
end
section
variable {P:Program} {T:iX} {al:DL} {ops:Array Oper} {B:Base P} {N:Nat}
structure Fits (P:Program)(N:Nat)(ops:Array Oper)(al:DL):Prop where
 len:ops.size=ft al
 op: ∀(i:Nat) o,ops[i]?=O o->∃x,al[i]?=O (x,iz al i)/\LR P N ops o=O x
 pred: ∀(i:Nat) o,ops[i]?=O o->∀q,q∈iz al i↔∃e∈o.after,Region.binds .any e=Za/\e.on=q
def Ma (al:DL)(e0:cx)(b:Nat->Value)(Z:Hp)(d:List<|Nat×(Hp->Prop))(j:Nat):Prop:=
 ∃x p,al[j]?=O (x,p)/\x.op.still=Za/\
  ((wanted x (GW al e0 b j)=Za/\x.op.run (GW al e0 b j) Z=O (b j,Z)/\
   (x.op.isLoad=Za->∃c,(j,c)∈d/\∀Z',c Z'->x.op.run (GW al e0 b j) Z'=O (b j,Z')))∨
   (wanted x (GW al e0 b j)=Zb/\b j=undef))
structure Inv (al:DL)(e0:cx)(val:Nat->Value)(Z:Hp)(chk:List<|Nat×(Hp->Prop))(D L:List Nat):Prop where
 dc:Cn al D
 lc:Cn al L
 sub: ∀i∈L,i∈D
 lt: ∀i∈D,i<ft al
 tells: ∀j∈D,j∉L->Ma al e0 val Z chk j
theorem IT {D:List Nat}{i:Nat}:TT al D i=Za↔i∉D/\∀q∈iz al i,q∈D:=by
 unfold TT
 grind
theorem Bs {D:List Nat}{i:Nat}(h:eV al D=O i):i<ft al/\i∉D/\(∀q∈iz al i,q∈D)/\EY al i=Za:=by
 unfold eV at h;have b:=cB h;have d:=List.mem_of_find?_eq_some h;simp only[bD]at b;have⟨g,k⟩:=IT.1 b.1
 grind
def Pg {D:List Nat}(h:eV al D=Y){i:Nat}(g:i<ft al)(b:i∉D)(d: ∀q∈iz al i,q∈D):EY al i=Zb:=by
 unfold eV at h;have:=List.find?_eq_none.1 h i (cJ.2 g);simp only[IT.2 ⟨b,d⟩,Bool.true_and]at this;simpa using this
def Bp {D:List Nat}{i:Nat}:i∈bw al D↔i<ft al/\i∉D/\(∀q∈iz al i,q∈D)/\EY al i=Zb:=by
 unfold bw;simp only[List.mem_filter,List.mem_range,bD,Bool.not_eq_true',IT,and_assoc]
def UZ {f:Nat->Prop}: ∀{l:List Nat},N8 f l->∀m∈l,f m
 |[],_,m,hm=>by cases hm
 |[x],h,m,hm=>by simp at hm;subst hm;exact h
 |x::y::r,h,m,hm=>by
  rcases bf.1 hm with rfl|hm
  .exact h.1
  .exact UZ h.2 m hm
def upd (b:Nat->Value)(i:Nat)(v:Value):Nat->Value:=λk=>if k=i then v else b k
def Ma.upd {b:Nat->Value}{d:List<|Nat×(Hp->Prop)}{D:List Nat}{i j:Nat}(r:Cn al D)(g:j∈D)(s:i∉D)(h:Ma al e0 b Z d j):Ma al e0 (upd b i v) Z d j:=by
 have⟨x,p,m,n,q⟩:=h;have l: ∀k∈D,Ab.upd b i v k=b k:=λk u=>zF λ(e:k=i)=>s (e▸u)
 have z:=aH2 (e0:=e0) r g l;refine⟨x,p,m,n, ?_⟩;rw[z,l j g];exact q
theorem Ma.more {g:Nat->Value}{d b:List<|Nat×(Hp->Prop)}{j:Nat}(h:Ma al e0 g Z d j)(r: ∀c∈d,c∈b):Ma al e0 g Z b j:=by
 have⟨x,p,k,l,m⟩:=h;refine⟨x,p,k,l,m.imp (λ⟨n,q,u⟩=>⟨n,q,λs=> ?_⟩) id⟩
 grind
def Td {Q:cx->Hp->Prop}(H:EB al=Za){e0:cx}{Z:Hp}{L:List Nat}: ∀(f:Nat) (d:Nat->Value) (D:List Nat) (m:List<|Nat×(Hp->Prop)) (e:cx),E3 T Q al f D m e Z->left (ft al) D<=f->e=iR al e0 d D->
  Inv al e0 d Z m D L->∃E g D' b,E3 T Q al E D' b (iR al e0 g D') Z/\left (ft al) D'<=E/\Inv al e0 g Z b D' L/\eV al D'=Y/\(∀i∈D,g i=d i)/\∀i∈D,i∈D'
 |0,d,D,m,e,h,hf,V,s=>by
  have M: ∀i,i<ft al->i∈D:=λi X=>Lt V1 X
  refine⟨0,d,D,m,by rw[<-V];exact h,hf,s, ?_,λ_ _=>rfl,λ_ X=>X⟩;cases K:eV al D with
  |none=>rfl
  |some i=>exact absurd (M i (Bs K).1) (Bs K).2.1
 |f+1,d,D,m,e,h,hf,V,s=>by
  cases K:eV al D with
  |none=>exact⟨f+1,d,D,m,by rw[<-V];exact h,hf,s,K,λ_ _=>rfl,λ_ X=>X⟩
  |some i=>
   have⟨h1,J,h3,h4⟩:=Bs K;simp only[E3,K]at h;split at h
   .rename_i x p hx;have I:x.op.still=Za:=by simpa[EY,hx]using h4
    have r: ∀t∈x.looks,e t=GW al e0 d i t:=by
     intro t ht;rw[V];exact Ue H s.dc h1 J h3 Zo
    have U:oU al i=x.dst:=by simp[oU,hx]
    have F:left (ft al) (i::D)<=f:=by have:=Ls h1 J;omega
    have hDc:Cn al<|i::D:=by
     intro k hk q hq;rcases bf.1 hk with rfl|hk
     .exact aB _ (h3 q hq)
     .exact aB _ (s.dc k hk q hq)
    have A: ∀(v:Value) (b:List<|Nat×(Hp->Prop)),E3 T Q al f (i::D) b (e.putO x.dst v) Z->(∀c∈m,c∈b)->Ma al e0 (upd d i v) Z b i->
      ∃E g D' b,E3 T Q al E D' b (iR al e0 g D') Z/\left (ft al) D'<=E/\Inv al e0 g Z b D' L/\eV al D'=Y/\(∀i∈D,g i=d i)/\∀i∈D,i∈D':=by
     intro v b hw S ht;have z: ∀k∈D,upd d i v k=d k:=λk hk=>zF λ(e:k=i)=>J (e▸hk)
     have W:e.putO x.dst v=iR al e0 (upd d i v) (i::D):=by
      rw[Bi H i J,Ht z,U,<-V]
      congr 1
      exact(zE rfl).symm
     have⟨E,g,D',C,g1,g2,g3,g4,g5,g6⟩:=Td H f (upd d i v) (i::D) b _ hw F W ⟨hDc,s.lc,λk hk=>aB _<|s.sub k hk,λk hk=>(bf.1 hk).elim (λe=>e▸h1)<|s.lt k,λj hj hjL=>by
      rcases bf.1 hj with rfl|hj
      .exact ht
      .exact((s.tells j hj hjL).upd s.dc hj J).more S⟩
     exact⟨E,g,D',C,g1,g2,g3,g4,λk hk=>(g5 k<|aB _ hk).trans<|z k hk,λk hk=>g6 k<|aB _ hk⟩
    have l: ∀v,GW al e0 (upd d i v) i=GW al e0 d i:=by
     intro v
     funext t
     unfold GW;cases hf':(aD<|ft al).find? (λk=>oU al k==O t&&vu al k i)with
     |none=>rfl
     |some k=>
      have:=cB hf';simp only[bD,beq_iff_eq]at this;exact zF λ(e:k=i)=>J (e▸s.dc.bef _ _ this.2 h3)
    have hw0:=E2 r;have hr0: ∀Z',x.op.run e Z'=x.op.run (GW al e0 d i) Z':=λZ'=>DB λt ht=>r t Zr
    split at h
    .rename_i n;split at h
     .rename_i v Z1 u;obtain rfl:=wR I u;refine A v _ h (λc S=>by split<;>simp[S]) ⟨x,p,hx,I, .inl ⟨by rw[l,<-hw0];exact n,by rw[l,<-hr0,u];congr 2;exact(zE rfl).symm,λhl=> ?_⟩⟩;refine⟨_,by rw[zE hl];exact bB ..,λZ' hZ'=> ?_⟩;rw[l,<-hr0,hZ']
      congr 2
      exact(zE rfl).symm
     .exact h.elim
    .rename_i n;exact A undef m h (λc S=>S) ⟨x,p,hx,I, .inr ⟨by rw[l,<-hw0];simpa using n,zE rfl⟩⟩
   .exact h.elim
theorem HE {m:Nat}{Z:Hp}: ∀{b:List<|Nat×(Hp->Prop)},Ds al m Z b->∀j c,(j,c)∈b->vu al j m=Zb->c Z
 |[],_,j,c,h,_=>by cases h
 |(i,d)::r,g,j,c,h,k=>by
  simp only[Ds]at g;rcases bf.1 h with h|h
  .injection h with l n
   grind
  .split at g
   .exact HE g j c h k
   .exact HE g.2 j c h k
theorem Fits.ready (g:Fits P N ops al){b:Array Bool}{L:List Nat}(F:b.size=ops.size)(E: ∀i,i<ops.size->(b.getD i Zb=Za↔i∈L))(A: ∀i∈L,i<ops.size){i:Nat}:
  i∈Region.ready .any ops b↔i<ft al/\i∉L/\∀q∈iz al i,q∈L:=by
 have r: ∀k,b.getD k Zb=Za↔k∈L:=by
  grind
 rw[mem_ready];constructor
 .rintro⟨m,o,n,p⟩;have l:i<ops.size:=(Array.getElem?_eq_some_iff.1 n).1;refine⟨g.len▸l,λh=> ?_,λq C=> ?_⟩
  .have d:=(r i).2 h;rw[am8 m]at d;cases d
  .obtain⟨e,d,s,rfl⟩:=(g.pred i o n q).1 C;exact(r _).1 (p e d s)
 .rintro⟨m,n,p⟩;have l:i<ops.size:=g.len▸m;refine⟨aR4 V1 ?_,ops[i],Array.getElem?_eq_getElem l,λe z u=>(r _).2<|p _<|(g.pred i _ (Array.getElem?_eq_getElem l) _).2 ⟨e,z,u,rfl⟩⟩
  grind
def aP5 (hT: ∀f,Sim P f<|T f)(hF:Fits P N ops al)(s:EB al=Za){Q:AExit->cx->Hp->Prop}{μ0:Mu}{w0:World}: ∀(F:Nat) (f:Nat) (I:Nat->Value) (D L:List Nat) (chk:List<|Nat×(Hp->Prop)) (d:Array Bool) (Z:Hp) (μ:Mu) (a:Act) (w:World),
  E3 T (Q .normal) al f D chk (iR al e0 I D) Z->left (ft al) D<=f->left (ft al) L<=F->Inv al e0 I Z chk D L->d.size=ops.size->(∀i,i<ops.size->(d.getD i Zb=Za↔i∈L))->
  R B μ Z w->gp μ N (iR al e0 I L) a.tmps->a.defers=[]->μ0.le μ->Below B w0 w->wpAny P .any ops (sf B N μ0 w0 Q) F d a w:=by
 intro F;induction F with
 |zero=>
  intro f I D L chk d Z μ a w h hf hfu hI hs hL hR he hd hμ hb;have K: ∀i,i<ft al->i∈L:=λi hi=>Lt V1 hi
  have hlt: ∀i∈L,i<ops.size:=λi hi=>by rw[hF.len];exact hI.lt i (hI.sub i hi)
  have hnil:Region.ready .any ops d=[]:=by
   cases hr:Region.ready .any ops d with
   |nil=>rfl
   |cons i r=>
    have:=(hF.ready hs hL hlt (i:=i)).1 (by rw[hr];exact bB ..);exact absurd (K i this.1) this.2.1
  refine⟨hnil, ?_⟩;have⟨f',b,D',n,g1,g2,u,g4,g5,g6⟩:=Td (Q:=Q .normal) s f I D chk _ h hf rfl hI
  have J:Q .normal (iR al e0 b D') Z:=by
   have hmv:bw al D'=[]:=by
    cases hm:bw al D' with
    |nil=>rfl
    |cons i r=>
     have:=Bp.1 (show i∈bw al D' by rw[hm];exact bB ..);exact absurd (g6 i<|hI.sub i<|K i this.1) this.2.1
   cases f' with
   |zero=>exact g1
   |succ f'=>simp only[E3,g4,hmv]at g1;exact g1
  have henv:iR al e0 b D'=iR al e0 I L:=by
   funext t
   by_cases hx: ∃j,j<ft al/\oU al j=O t
   .obtain⟨j,E,l⟩:=hx;rw[sq s (g6 j<|hI.sub j<|K j E) l,sq s (K j E) l,g5 j<|hI.sub j<|K j E]
   .rw[pg (λj _ l=>hx ⟨j,Dn l,l⟩),pg<|λj _ l=>hx ⟨j,Dn l,l⟩]
  rw[henv]at J;exact⟨.normal,_,Z,μ,trivial,J,hμ,hR,he,hd,hb⟩
 |succ F ih=>
  intro f I D L chk d Z μ a w h hf hfu hI hs hL hR he hd hμ hb;have hlt: ∀i∈L,i<ops.size:=λi hi=>by rw[hF.len];exact hI.lt i (hI.sub i hi)
  have⟨f',b,D',n,g1,g2,u,g4,g5,g6⟩:=Td (Q:=Q .normal) s f I D chk _ h hf rfl hI;have hvL: ∀i∈L,b i=I i:=λi hi=>g5 i (hI.sub i hi)
  have M:gp μ N (iR al e0 b L) a.tmps:=by rw[Ht hvL];exact he
  have hL': ∀i,i<ops.size->∀(hi:i∉L),(∀k,k<ops.size->((d.setIfInBounds i Za).getD k Zb=Za↔k∈i::L)):=by
   intro i hi hiL k hk;by_cases e:k=i
   .subst e;simp[hs,hk]
   .rw[getD_set_ne Zb (λe'=>e e'.symm),hL k hk];simp[e]
  have hLc: ∀i,(∀q∈iz al i,q∈L)->Cn al (i::L):=by
   intro i hp k hk q J;rcases bf.1 hk with rfl|hk
   .exact aB _ (hp q J)
   .exact aB _ (hI.lc k hk q J)
  refine⟨λhnil=> ?_,λi hi=> ?_⟩
  .
   have hDL: ∀j∈D',j∈L:=by
    intro j;induction j using Nat.strongRecOn with
    |_ j ihj=>
     intro E;by_cases C:j∈L
     .exact C
     .exfalso;have hr:=(hF.ready hs hL hlt (i:=j)).2 ⟨u.lt j E,C,λq J=>ihj q (Vn s (u.lt j E) J)<|u.dc j E q J⟩;rw[hnil]at hr;cases hr
   have J:Q .normal (iR al e0 b D') Z:=by
    have hmv:bw al D'=[]:=by
     cases hm:bw al D' with
     |nil=>rfl
     |cons i r=>
      exfalso;have:=Bp.1 (show i∈bw al D' by rw[hm];exact bB ..);have hr:=(hF.ready hs hL hlt (i:=i)).2 ⟨this.1,λh=>this.2.1<|u.sub i h,λq J=>hDL q<|this.2.2.1 q J⟩;rw[hnil]at hr;cases hr
    cases f' with
    |zero=>exact g1
    |succ f'=>simp only[E3,g4,hmv]at g1;exact g1
   have henv:iR al e0 b D'=iR al e0 b L:=by
    funext t
    by_cases hx: ∃j∈L,oU al j=O t
    .obtain⟨j,E,l⟩:=hx;rw[sq s (u.sub j E) l,sq s E l]
    .rw[pg (λj E l=>hx ⟨j,hDL j E,l⟩),pg<|λj E l=>hx ⟨j,E,l⟩]
   rw[henv]at J;exact⟨.normal,_,Z,μ,trivial,J,hμ,hR,M,hd,hb⟩
  .
   have⟨k1,k2,k3⟩:=(hF.ready hs hL hlt).1 hi;have hio:i<ops.size:=hF.len▸k1;have hoi:ops[i]?=O ops[i]:=Array.getElem?_eq_getElem hio;have⟨x,hx,U⟩:=hF.op i _ hoi;have X:left (ft al) (i::L)<=F:=by have:=Ls k1 k2;omega
   have hs':(d.setIfInBounds i Za).size=ops.size:=by simpa using hs
   have W:oU al i=x.dst:=by simp[oU,hx]
   unfold LR at U;split at U
   case h_2=>cases U
   rename_i op g t1 t2;split at U
   case isFalse=>cases U
   rename_i t3;cases U
   have H: ∀t∈(⟨ops[i].dst,op,g⟩:AOper).looks,iR al e0 b L t=GW al e0 b i t:=by
    intro t ht;exact Ue s u.lc k1 k2 k3 Zo
   have hwant:=R9 (op:=op) t2 M;rw[E2 H]at hwant;unfold wpOp;rw[hoi];simp only;rw[hwant];by_cases A:i∈D'
   .
    have⟨x',p,y1,y2,y3⟩:=u.tells i A k2;rw[hx]at y1;injection y1 with y1
    injection y1 with y1 _
    subst y1
    have hInv': ∀(μ':Mu) (w':World),Inv al e0 b Z n D'<|i::L:=λμ' w'=>
     ⟨u.dc,hLc i k3,λk hk=>(bf.1 hk).elim (λe=>e▸A)<|u.sub k,u.lt,λj E C=>u.tells j E λh=>C<|aB _ h⟩
    rcases y3 with⟨y4,y5,_⟩|⟨y4,y5⟩
    .rw[y4,zE rfl];left
     have hrun:cg T op (iR al e0 b L) Z λv Z'=>v=b i/\Z'=Z:=by
      have:op.run (iR al e0 b L) Z=O (b i,Z):=by
       rw[DB (e':=GW al e0 b i) λt ht=>H t Zr];exact y5
      unfold cg;cases op<;>simp[AOp.still]at y2<;>simp only[this]<;>exact⟨trivial,trivial⟩
     refine PB hT t1 hrun M hR λv Z' v' μ' w' hk hμ' hR' hv hbel=> ?_
     obtain⟨rfl,rfl⟩:=hk;refine ih f' b D' (i::L) n _ Z' μ' _ w' g1 g2 X (hInv' μ' w') hs' (hL' i hio k2) hR' ?_ ZY (Mu.le_trans hμ hμ') (hb.trans hbel);rw[Bi s i k2,W];exact(M.mono hμ').putO t3 hv
    .rw[y4];simp only[Bool.false_eq_true,if_false];refine ih f' b D' (i::L) n _ Z μ _ w g1 g2 X (hInv' μ w) hs' (hL' i hio k2) hR ?_ ZY hμ hb;rw[Bi s i k2,W,y5];exact M.putO t3 (VR.undef μ)
   .
    have hpD: ∀q∈iz al i,q∈D':=λq J=>u.sub q (k3 q J)
    have hst:=Pg g4 k1 A hpD;have hmem:i∈bw al D':=Bp.2 ⟨k1,A,hpD,hst⟩
    have S: ∀t∈(⟨ops[i].dst,op,g⟩:AOper).looks,iR al e0 b D' t=GW al e0 b i t:=by
     intro t ht;exact Ue s u.dc k1 A hpD Zo
    have hsame: ∀t∈(⟨ops[i].dst,op,g⟩:AOper).looks,iR al e0 b D' t=iR al e0 b L t:=λt ht=>(S t ht).trans (H t ht).symm
    obtain⟨V,rfl⟩: ∃V,f'=V+1:=⟨f'-1,by have:=aB6 k1 A;omega⟩
    have hleft:left (ft al) (i::D')<=V:=by have:=Ls k1 A;omega
    simp only[E3,g4]at g1
    have z:(if wanted ⟨ops[i].dst,op,g⟩ (iR al e0 b D')then cg T op (iR al e0 b D') Z λv Z'=>Ds al i Z' n/\E3 T (Q .normal) al V (i::D') n ((iR al e0 b D').putO ops[i].dst v) Z'
      else E3 T (Q .normal) al V (i::D') n ((iR al e0 b D').putO ops[i].dst undef) Z):=by
     cases hm:bw al D' with
     |nil=>rw[hm]at hmem;cases hmem
     |cons m r=>
      rw[hm]at g1 hmem;simp only at g1;have:=UZ g1 i hmem;simp only[hx]at this;exact this
    rw[E2 S]at z
    have hDc:Cn al<|i::D':=by
     intro k hk q J;rcases bf.1 hk with rfl|hk
     .exact aB _ (hpD q J)
     .exact aB _ (u.dc k hk q J)
    have hlag: ∀j∈i::D',j∉i::L->j∈D'/\j∉L:=λj E C=>
     ⟨(bf.1 E).elim (λe=>absurd (e▸bB ..) C) id,λh=>C<|aB _ h⟩
    have hval: ∀v,∀k∈D',upd b i v k=b k:=λv k hk=>zF λ(e:k=i)=>A (e▸hk)
    have henvD: ∀v,(iR al e0 b D').putO ops[i].dst v=iR al e0 (upd b i v) (i::D'):=by
     intro v;rw[Bi s i A,Ht<|hval v,W]
     congr 1
     exact(zE rfl).symm
    have henvL: ∀v,(iR al e0 b L).putO ops[i].dst v=iR al e0 (upd b i v) (i::L):=by
     intro v;rw[Bi s i k2,Ht (λk hk=>hval v k<|u.sub k hk),W]
     congr 1
     exact(zE rfl).symm
    split at z
    .rename_i hw1;rw[hw1,zE rfl];left;refine PB hT t1 (WL (λt ht=>hsame t Zr) z) M hR λv Z' v' μ' w' hk hμ' hR' hv hbel=> ?_
     have⟨hk1,hk2⟩:=hk;rw[henvD v]at hk2;refine ih V (upd b i v) (i::D') (i::L) n _ Z' μ' _ w' hk2 hleft X ⟨hDc,hLc i k3,λk hk=>(bf.1 hk).elim (λe=>e▸bB ..) λh=>aB _<|u.sub k h,λk hk=>(bf.1 hk).elim (λe=>e▸k1)<|u.lt k,λj E C=> ?_⟩ hs' (hL' i hio k2) hR' ?_ ZY (Mu.le_trans hμ hμ') (hb.trans hbel)
     .obtain⟨hjD,hjL'⟩:=hlag j E C;have ht:=(u.tells j hjD hjL').upd (i:=i) (v:=v) u.dc hjD A;have⟨x',p,z1,z2,z3⟩:=ht;refine⟨x',p,z1,z2,z3.imp (λ⟨z4,z5,z6⟩=>⟨z4, ?_,z6⟩) id⟩;cases hl:x'.op.isLoad with
      |false=>exact RY z2 hl z5 Z'
      |true=>
       have⟨c,z7,z8⟩:=z6 hl;refine z8 Z'<|HE hk1 j c z7 ?_;cases hbf:vu al j i with
       |false=>rfl
       |true=>exact absurd (u.lc.bef _ _ hbf k3) hjL'
     .rw[<-henvL v];exact(M.mono hμ').putO t3 hv
    .rename_i hw1;rw[zF hw1];rw[henvD undef]at z;refine ih V (upd b i undef) (i::D') (i::L) n _ Z μ _ w z hleft X ⟨hDc,hLc i k3,λk hk=>(bf.1 hk).elim (λe=>e▸bB ..) λh=>aB _<|u.sub k h,λk hk=>(bf.1 hk).elim (λe=>e▸k1)<|u.lt k,λj E C=> ?_⟩ hs' (hL' i hio k2) hR ?_ ZY hμ hb
     .obtain⟨hjD,hjL'⟩:=hlag j E C;exact(u.tells j hjD hjL').upd u.dc hjD A
     .rw[<-henvL undef];exact M.putO t3<|VR.undef μ
end
end
section
open Go.RowKit
def we (T:iX):Prop:= ∀f args Z (K K':Value->Hp->Prop),(∀r Z',K r Z'->K' r Z')->T f args Z K->T f args Z K'
def kU {T:iX}(d:we T){k g:Value->Hp->Prop}(b: ∀v Z',k v Z'->g v Z')(h:cg T op e Z k):cg T op e Z g:=by
 unfold cg at*;cases op<;>simp only at h⊢
 case call f xs=>exact d _ _ _ _ _ b h
 case callv f xs=>
  split at h
  .exact d _ _ _ _ _ b h
  exact h.elim
 all_goals
  split at h
  .exact b _ _ h
  exact h.elim
section
variable {T:iX}
def E4 (b:we T){Q Q':cx->Hp->Prop}(d: ∀e Z,Q e Z->Q' e Z): ∀(l:List AOper) (e:cx) (Z:Hp),BE T Q l e Z->BE T Q' l e Z
 |[],e,Z,h=>d e Z h
 |o::l,e,Z,h=>by
  simp only[BE]at h⊢;split at h
  .rename_i g;rw[zE g];exact kU b (λv Z' k=>E4 b d l _ Z' k) h
  .rename_i g;rw[zF g];exact E4 b d l _ Z h
def Q0 {f g:Nat->Prop}(h: ∀m,f m->g m): ∀{l:List Nat},N8 f l->N8 g l
 |[],_=>trivial
 |[_],b=>h _ b
 |_::_::_,b=>⟨h _ b.1,Q0 h b.2⟩
def Hf (k:we T){Q Q':cx->Hp->Prop}(g: ∀e Z,Q e Z->Q' e Z){ops:List<|AOper×List Nat}: ∀(f:Nat) (done:List Nat) (b:List<|Nat×(Hp->Prop)) (e:cx) (Z:Hp),E3 T Q ops f done b e Z->E3 T Q' ops f done b e Z
 |0,done,b,e,Z,h=>g e Z h
 |f+1,done,b,e,Z,h=>by
  simp only[E3]at h⊢;split at h
  .split at h
   .split at h
    .rename_i d;rw[zE d];split at h
     .exact Hf k g f _ _ _ _ h
     .exact h.elim
    .rename_i d;rw[zF d];exact Hf k g f _ _ _ _ h
   .exact h.elim
  .split at h
   .exact g e Z h
   .refine Q0 (λm l=> ?_) h;split at l
    .split at l
     .rename_i d;rw[zE d];exact kU k (λv Z' n=>⟨n.1,Hf k g f _ _ _ _ n.2⟩) l
     .rename_i d;rw[zF d];exact Hf k g f _ _ _ _ l
    .exact l.elim
def Hg (d:we T){Q Q':cx->Hp->Prop}(g: ∀e Z,Q e Z->Q' e Z): ∀(l:List SItem) (b:List<|Nat×(Hp->Prop)) (e:cx) (Z:Hp),Uv T Q l b e Z->Uv T Q' l b e Z
 |[],_,e,Z,h=>g e Z h
 |it::l,b,e,Z,h=>by
  simp only[Uv]at h⊢;split at h
  .rename_i m;rw[zE m];split at h
   .rename_i k;rw[zE k];exact kU d (λv Z' n=>⟨n.1,Hg d g l _ _ Z' n.2⟩) h
   .rename_i k;rw[zF k];split at h
    .exact Hg d g l _ _ Z h
    .exact h.elim
  .rename_i m;rw[zF m];exact Hg d g l _ _ Z h
def Ck {f:(AExit->cx->Hp->Prop)->cx->Hp->Prop}(g: ∀(Q Q':AExit->cx->Hp->Prop),(∀x e Z,Q x e Z->Q' x e Z)->∀e Z,f Q e Z->f Q' e Z){Q Q':AExit->cx->Hp->Prop}(b: ∀x e Z,Q x e Z->Q' x e Z):
  ∀(n:Nat) (e:cx) (Z:Hp),jA f Q n e Z->jA f Q' n e Z
 |0,_,_,h=>h.elim
 |n+1,e,Z,h=>by
  simp only[jA]at h⊢;refine g _ _ (λx e' Z' d=> ?_) e Z h;cases x with
  |normal=>exact Ck g b n e' Z' d
  |exit id=>exact b _ _ _ d
  |ret=>exact b _ _ _ d
theorem fW (k:we T): ∀(c:AC) (Q Q':AExit->cx->Hp->Prop),(∀x e Z,Q x e Z->Q' x e Z)->∀(e:cx) (Z:Hp),yw T c Q e Z->yw T c Q' e Z:=by
 intro c;induction c with
 |skip=>intro Q Q' d e Z h;exact d _ _ _ h
 |region ops=>intro Q Q' d e Z h;exact E4 k (d .normal) ops e Z h
 |draw ops=>intro Q Q' d e Z h;exact Hf k (d .normal) _ _ _ e Z h
 |sched p=>intro Q Q' d e Z h;exact Hg k (d .normal) p [] e Z h
 |seq a b g m=>
  intro Q Q' d e Z h;refine g _ _ (λx e' Z' r=> ?_) e Z h
  grind
 |cond c a b g m=>
  intro Q Q' d e Z h;simp only[yw]at h⊢
  grind
 |block id b l=>
  intro Q Q' d e Z h;refine l _ _ (λx e' Z' r=> ?_) e Z h
  grind
 |loop b l=>
  intro Q Q' d e Z h;have⟨n,q⟩:=h;exact⟨n,Ck (f:=yw T b) l d n e Z q⟩
 |exit id=>intro Q Q' d e Z h;exact d _ _ _ h
 |ret=>intro Q Q' d e Z h;exact d _ _ _ h
def AC.outs :AC->Nat->Bool
 | .seq a b,i| .cond _ a b,i=>a.outs i||b.outs i
 | .block id b,i=>b.outs i&& !(i==id)
 | .loop b,i=>b.outs i
 | .exit j,i=>i==j
 |_,_=>Zb
def Xv (c:AC)(Q:AExit->cx->Hp->Prop):AExit->cx->Hp->Prop:=λx e Z=>(∀i,x= .exit i->c.outs i=Za)/\Q x e Z
def GO {c:AC}{Q:AExit->cx->Hp->Prop}:Xv c Q .normal=Q .normal:=by
 funext e Z
 exact propext ⟨λh=>h.2,λh=>⟨λi b=>(by cases b),h⟩⟩
def MB {f:(AExit->cx->Hp->Prop)->cx->Hp->Prop}{b:AC}(k: ∀(Q Q':AExit->cx->Hp->Prop),(∀x e Z,Q x e Z->Q' x e Z)->∀e Z,f Q e Z->f Q' e Z)
  (l: ∀Q e Z,f Q e Z->f (Xv b Q) e Z) {Q:AExit->cx->Hp->Prop}: ∀(n:Nat) (e:cx) (Z:Hp),jA f Q n e Z->jA f (Xv b Q) n e Z
 |0,_,_,h=>h.elim
 |n+1,e,Z,h=>by
  simp only[jA]at h⊢;refine k _ _ (λx e' Z' m=> ?_) e Z<|l _ e Z h;have⟨g,d⟩:=m;cases x with
  |normal=>exact MB k l n e' Z' d
  |exit id=>exact⟨g,d⟩
  |ret=>exact⟨g,d⟩
def Xk (p:we T): ∀(c:AC) (Q:AExit->cx->Hp->Prop) (e:cx) (Z:Hp),yw T c Q e Z->yw T c (Xv c Q) e Z:=by
 intro c;induction c with
 |skip=>intro Q e Z h;exact⟨λi d=>Zx,h⟩
 |region ops=>intro Q e Z h;simp only[yw]at h⊢;rw[GO];exact h
 |draw ops=>intro Q e Z h;simp only[yw]at h⊢;rw[GO];exact h
 |sched z=>intro Q e Z h;simp only[yw]at h⊢;rw[GO];exact h
 |seq a b l m=>
  intro Q e Z h;simp only[yw]at h⊢;refine fW p a _ _ (λx e' Z' g=> ?_) e Z<|l _ e Z h;have⟨q,k⟩:=g;cases x with
  |normal=>exact fW p b _ _ (λx e Z g=>⟨λi d=>by rw[AC.outs,g.1 i d,Bool.or_true],g.2⟩) e' Z' (m Q e' Z' k)
  |exit id=>exact⟨λi d=>by rw[AC.outs,q i d,Bool.true_or],k⟩
  |ret=>exact⟨λi d=>Zx,k⟩
 |cond c a b l m=>
  intro Q e Z h;simp only[yw]at h⊢;split at h
  .exact fW p a _ _ (λx e Z g=>⟨λi d=>by rw[AC.outs,g.1 i d,Bool.true_or],g.2⟩) e Z (l Q e Z h)
  .exact fW p b _ _ (λx e Z g=>⟨λi d=>by rw[AC.outs,g.1 i d,Bool.or_true],g.2⟩) e Z (m Q e Z h)
  exact h.elim
 |block id b s=>
  intro Q e Z h;simp only[yw]at h⊢;refine fW p b _ _ (λx e' Z' g=> ?_) e Z<|s _ e Z h;have⟨q,k⟩:=g;cases x with
  |normal=>exact⟨λi d=>Zx,k⟩
  |exit i=>
   simp only at k⊢;split at k
   .rename_i d;rw[zE d];exact⟨λi d=>Zx,k⟩
   rename_i d;rw[zF d];refine⟨λj r=> ?_,k⟩;cases r;rw[AC.outs,q i rfl];simp[d]
  |ret=>exact⟨λi d=>Zx,k⟩
 |loop b s=>
  intro Q e Z h;have⟨n,u⟩:=h;exact⟨n,MB (f:=yw T b) (fW p b) s n e Z u⟩
 |exit id=>
  intro Q e Z h;refine⟨λi d=> ?_,h⟩;cases d;simp[AC.outs]
 |ret=>intro Q e Z h;exact⟨λi d=>Zx,h⟩
end
end
section
open Bool renaming and_eq_true->aB,or_eq_true->aD,false_eq_true->bD
open List renaming mem_cons_self->bB,mem_cons_of_mem->cB
open Go.RowKit
def LQ (P:Program)(N:Nat)(ops:Array Oper):List Oper->Option DL
 |[]=>O []
 |o::r=>match LR P N ops o,LQ P N ops r with
  |some x,O l=>O ((x,(o.after.toList.filter (Region.binds .any ·)).map (·.on))::l)
  |_,_=>Y
def AC.outsL :AC->List Nat
 | .seq a b| .cond _ a b=>a.outsL++b.outsL
 | .block id b=>b.outsL.filter λi=> !(i==id)
 | .loop b=>b.outsL
 | .exit j=>[j]
 |_=>[]
def aF2 : ∀(c:AC) (i:Nat),c.outs i=Za->i∈c.outsL:=by
 intro c;induction c with
 |seq a b d g=>
  intro i h;simp only[AC.outs,aD]at h;exact cI.2 (h.elim (λh=> .inl<|d i h) λh=> .inr<|g i h)
 |cond c a b d g=>
  intro i h;simp only[AC.outs,aD]at h;exact cI.2 (h.elim (λh=> .inl<|d i h) λh=> .inr<|g i h)
 |block id b k=>
  intro i h;simp only[AC.outs,aB]at h;exact List.mem_filter.2 ⟨k i h.1,h.2⟩
 |loop b k=>intro i h;exact k i h
 |exit j=>intro i h;simp[AC.outs]at h;simp[AC.outsL,h]
 |_=>intro i h;simp[AC.outs]at h
def AC.noJump (c:AC):Bool:=c.outsL.all λi=>Zc<|i<Fj
def RE {c:AC}(h:c.noJump=Za)(b:c.outs i=Za):i<Fj:=by
 have:=bo.1 h i<|aF2 c i b;exact of_decide_eq_true this
def tL :Code->List Nat
 | .seq a b=>tL a++tL b
 | .label l=>[l]
 |_=>[]
theorem GF : ∀(c:Code) (l:Nat),l∉tL c->findLabel c l=Y:=by
 intro c;induction c with
 |seq a b d g=>
  intro l h;simp only[tL,List.mem_append,not_or]at h;simp only[findLabel,d l h.1,g l h.2]
 |label k=>
  intro l h;simp only[tL,List.mem_singleton]at h;simp only[findLabel]
  grind
 |_=>intro l h;rfl
def JX (l:Nat):Code->Bool
 | .goto d=>d==l
 | .seq a b| .cond _ a b=>JX l a||JX l b
 | .block _ b| .loop b| .scope b=>JX l b
 |_=>Zb
def HC :Code->Option Nat
 | .label l=>O l
 |_=>Y
def TA {c:Code}{l:Nat}(h:HC c=O l):c= .label l:=by
 cases c<;>simp[HC]at h;rw[h]
def iP :Code->Option Nat
 | .seq a b=>match HC a with
  |some l=>if JX l b then O l else iP b
  |none=>iP b
 |_=>Y
def CR (l:Nat):Nat:=Fj+2*l
def Ah (l:Nat):Nat:=Fj+2*l+1
def aT2 (l:Nat)(b:AC):AC:= .block (Ah l)<|.loop<|.block (CR l)<|.seq b<|.exit<|Ah l
def J2 (a b:Code):Bool:=match iP b with
 |some l=> !(tL a).contains l
 |none=>Za
def rC (x:Option AC):Option AC×Option AC:=(x,x)
def bp0 :Option AC->Option AC->Option AC
 |some a,O b=>O (.seq a b)
 |_,_=>Y
def YO (a b:Code)(d g sb:Option AC):Option AC:=match HC a with
 |some l=>if JX l b then g.map (aT2 l)else if J2 a b then sb.map (.seq .skip)else Y
 |none=>match d,sb with
  |some x,O y=>if J2 a b&&((iP b).isNone||x.noJump)then O (.seq x y)else Y
  |_,_=>Y
def PS (P:Program)(N:Nat):Code->Option AC×Option AC
 | .skip=>rC (O .skip)
 | .label _=>rC (O .skip)
 | .region _ ops draw=>rC (if draw then match LQ P N ops ops.toList with
   |some l=>if EB l&&P.follows .mixedOrders then(match HG l (ft l) [] []with
    |some d=>O (.sched d)
    |none=>O<|.draw l)else Y
   |none=>Y
  else(KE P N ops ops.toList).map .region)
 | .seq a b=>(bp0 (PS P N a).1 (PS P N b).1,YO a b (PS P N a).1 (PS P N b).1 (PS P N b).2)
 | .cond c a b=>rC (match BG c,(PS P N a).1,(PS P N b).1 with
  |some c,O a,O b=>O (.cond c a b)
  |_,_,_=>Y)
 | .block id b=>rC (if id<Fj then((PS P N b).1).map (.block id)else Y)
 | .loop b=>rC (((PS P N b).1).map .loop)
 | .scope b=>rC (match(PS P N b).2 with
  |some g=>if g.noJump then O g else Y
  |none=>Y)
 | .exit id=>rC (if id<Fj then O (.exit id)else Y)
 | .goto l=>rC (O<|.exit<|CR l)
 | .ret=>rC (O .ret)
 |_=>rC Y
def mz (P:Program)(N:Nat)(c:Code):Option AC:=(PS P N c).1
def Uq (P:Program)(N:Nat)(c:Code):Option AC:=(PS P N c).2
section
variable {P:Program} {T:iX} {ops:Array Oper} {B:Base P} {N:Nat}
theorem Mz : ∀{l:List Oper} {al:DL},LQ P N ops l=O al->ft l=ft al/\∀(i:Nat) o,l[i]?=O o->∃x,al[i]?=O (x,(o.after.toList.filter (Region.binds .any ·)).map (·.on))/\LR P N ops o=O x
 |[],al,h=>by
  simp[LQ]at h
  grind
 |o::l,al,h=>by
  simp only[LQ]at h;split at h
  .rename_i x r d b;cases h;have⟨g,k⟩:=Mz b
   grind
  .cases h
def aQ9 {al:DL}(h:LQ P N ops ops.toList=O al):Fits P N ops al:=by
 have⟨l,g⟩:=Mz h;refine⟨by simpa using l,λi o d=> ?_,λi o d q=> ?_⟩
 .obtain⟨x,b,k⟩:=g i o Z2;refine⟨x, ?_,k⟩;have:iz al i=(o.after.toList.filter (Region.binds .any ·)).map (·.on):=by simp[iz,b]
  rw[this];exact b
 have⟨x,b,k⟩:=g i o Z2;have:iz al i=(o.after.toList.filter (Region.binds .any ·)).map (·.on):=by simp[iz,b]
 rw[this];simp[and_assoc]
def Uw {b:Code}{f:(AExit->cx->Hp->Prop)->cx->Hp->Prop}
  (hb: ∀(Q:AExit->cx->Hp->Prop) (e:cx) (Z:Hp) (μ:Mu) (a:Act) (w:World),f Q e Z->R B μ Z w->gp μ N e a.tmps->a.defers=[]->b.wp P (sf B N μ w Q) a w)
  {Q:AExit->cx->Hp->Prop} {K:Mu} {I:World} {n:Nat}   {μ:Mu}   (h:jA f Q n e Z) (U:R B μ Z w) (W:gp μ N e a.tmps) (V:a.defers=[]) (q:K.le μ) (g:Below B I w):
  (Code.loop b).wp P (sf B N K I Q) a w:=by
 intro M k S
 have key: ∀n e Z μ a w,jA f Q n e Z->R B μ Z w->gp μ N e a.tmps->a.defers=[]->K.le μ->Below B I w->
   ∃x s w',sf B N K I Q x s w'/\Arrives P (lone (M.at a<|.code b:: .inLoop b::k) S w) M k S x s w':=by
  intro n;induction n with
  |zero=>intro e Z μ a w h;exact h.elim
  |succ n ih=>
   intro e Z μ a w h U W V q g;simp only[jA]at h;have⟨x,u,J,m,d⟩:=hb _ e Z μ a w h U W V M (.inLoop b::k) S;obtain⟨ax,z,Z1,L,r,m,A,C,E,F,H⟩:=m;cases ax with
   |normal=>
    cases x<;>simp[Af]at r;have⟨x₂,a₂,w₂,X,p⟩:=ih z Z1 L u J m C E F (Mu.le_trans q A)<|g.trans H;exact⟨x₂,a₂,w₂,X, .of_steps (Steps.trans d<|.one step_inLoop) p⟩
   |exit id=>
    cases x with
    |exit j=>
     obtain⟨rfl,hj⟩:=r;exact⟨.exit id,u,J,⟨.exit id,z,Z1,L,⟨rfl,hj⟩,m,Mu.le_trans q A,C,E,F,g.trans H⟩, .pass (x:= .inLoop b) rfl (λ_ _=> .inl V2) d⟩
    |goto l=>exact⟨.goto l,u,J,⟨.exit id,z,Z1,L,r,m,Mu.le_trans q A,C,E,F,g.trans H⟩,λk' hk=>d k' (by simp[gotoIn,hk])⟩
    |_=>exact r.elim
   |ret=>
    cases x<;>simp[Af]at r;exact⟨.ret,u,J,⟨.ret,z,Z1,L,trivial,m,Mu.le_trans q A,C,E,F,g.trans H⟩, .pass (x:= .inLoop b) rfl (λ_ _=> .inl V2) d⟩
 have⟨x,s,w',m,d⟩:=key n e Z μ a w h U W V q g;exact⟨x,s,w',m, .of_steps (.one step_loop) d⟩
theorem GR {l:List Nat}{Z:Hp}: ∀{b:List<|Nat×(Hp->Prop)},Ai l Z b->∀i c,(i,c)∈b->i∈l->c Z
 |[],_,i,c,h,_=>by cases h
 |(j,d)::r,g,i,c,h,k=>by
  simp only[Ai]at g;rcases bf.1 h with h|h
  .injection h with m n
   grind
  .split at g
   .exact GR g.2 i c h k
   .exact GR g i c h k
def qG {al:DL}{m:Nat}{Z:Hp}: ∀{b:List<|Nat×(Hp->Prop)},(∀i c,(i,c)∈b->vu al i m=Zb->c Z)->Ds al m Z b
 |[],_=>trivial
 |(j,d)::r,h=>by
  simp only[Ds];split
  .exact qG λi c g=>h i c (cB _ g)
  .rename_i k;exact⟨h j d (bB ..) (by simpa using k),qG λi c g=>h i c<|cB _ g⟩
def WM {k g:Value->Hp->Prop}(d:we T)(b: ∀v Z',k v Z'->g v Z')(h:cg T op e Z k):cg T op e Z g:=by
 unfold cg at*;cases op<;>simp only at h⊢
 case call f xs=>exact d _ _ _ _ _ b h
 case callv f xs=>
  split at h
  .exact d _ _ _ _ _ b h
  exact h.elim
 all_goals
  split at h
  .exact b _ _ h
  exact h.elim
theorem GJ (s:we T){Q:cx->Hp->Prop}{al:DL}: ∀(f:Nat) (done d:List Nat) (n:List SItem) (l k:List<|Nat×(Hp->Prop)) (e:cx) (Z:Hp),HG al f done d=O n->Uv T Q n k e Z->
  (∀i c,(i,c)∈l->i∈d)->(∀i c,(i,c)∈l->aB0 al i=Za->(i,c)∈k)->E3 T Q al f done l e Z
 |0,done,d,n,l,k,e,Z,h,g,_,_=>by
  simp[HG]at h;subst h;exact g
 |f+1,done,d,n,l,k,e,Z,h,g,C,A=>by
  simp only[HG]at h;simp only[E3];split at h
  .rename_i i S;split at h
   .rename_i o p K;obtain⟨r,z,h⟩:=aw.1 h;subst h;simp only[Uv]at g;split at g
    .rename_i b;rw[zE b];simp only[bD,if_false]at g;split at g
     .rename_i v Z1 L;refine GJ s f _ _ _ _ _ _ _ z g (λj c q=> ?_) (λj c q E=> ?_)
      .by_cases M:o.op.isLoad=Za
       .rw[zE M]at q⊢
        grind
       grind
      grind
     .exact g.elim
    .rename_i b;rw[zF b];refine GJ s f _ _ _ _ _ _ _ z g (λj c q=> ?_) A
     grind
   .cases h
  .rename_i S;split at h
   .rename_i u;rw[u];cases h;exact g
   .rename_i m u;rw[u];simp only[N8];split at h
    .rename_i o p K;obtain⟨r,z,h⟩:=aw.1 h;subst h
     have I:Yg al m=Za:=by
      have:=(Bp.1 (show m∈bw al done by rw[u];exact bB ..)).2.2.2;simpa[EY,Yg,K]using this
     have H:m<ft al:=(Bp.1 (show m∈bw al done by rw[u];exact bB ..)).1;simp only[Uv]at g⊢;split at g
     .rename_i b;rw[zE b];simp only[if_true]at g;refine WM s (λv Z' E=> ?_) g;refine⟨qG λi c q J=> ?_,GJ s f _ _ _ _ _ _ _ z E.2 C A⟩;have F:aB0 al i=Za:=List.any_eq_true.2 ⟨m,cJ.2 H,by simp[I,J]⟩;exact GR E.1 i c (A i c q F) (by simp[C i c q,J])
     .rename_i b;rw[zF b];exact GJ s f _ _ _ _ _ _ _ z g C A
    .cases h
   .cases h
def Mo (l:Nat)(J:Act->World->Prop)(Q:Exit->Act->World->Prop):Exit->Act->World->Prop
 | .goto b,a,w=>(b=l/\J a w)∨(b≠l/\Q (.goto b) a w)
 |x,a,w=>Q x a w
def WQ {c rest:Code}{Q:Exit->Act->World->Prop}(l:Nat)(J:Nat->Act->World->Prop)(W:findLabel c l=O rest)(M: ∀l' a w,¬Q (.goto l') a w)
  (first:c.wp P (Mo l (λa w=> ∃n,J n a w) Q) a w) (u: ∀n a w,J n a w->rest.wp P (Mo l (λa w=> ∃m,m<n/\J m a w) Q) a w):(Code.scope c).wp P Q a w:=by
 intro b k z;have S:gotoIn l (.inScope c::k)=O (.code rest:: .inScope c::k):=by simp[gotoIn,W]
 have I: ∀n a w,J n a w->∃e L w',Q e L w'/\Arrives P (lone (b.at a<|.code rest:: .inScope c::k) z w) b k z e L w':=by
  intro n;induction n using Nat.strongRecOn with
  |_ n X=>
   intro a w V;have⟨e,p,q,g,d⟩:=u n a w V b (.inScope c::k) z;cases e with
   |normal=>exact⟨.normal,p,q,g,Steps.trans d<|.one step_inScope⟩
   |exit id=>exact⟨.exit id,p,q,g,λH E=>d H (by simp[exitTo,E])⟩
   |goto l'=>
    rcases g with⟨rfl,m,F,r⟩|⟨_,g⟩
    .obtain⟨C,A,K,s,h⟩:=X m F p q r;exact⟨C,A,K,s, .of_steps (d _ S) h⟩
    .exact(M _ _ _ g).elim
   |ret=>exact⟨_,p,q,g,d⟩
   |panic U=>exact⟨_,p,q,g,d⟩
   |outgrown=>exact⟨_,p,q,g,d⟩
 have⟨e,p,q,g,d⟩:=first b (.inScope c::k) z
 cases e with
 |normal=>exact⟨.normal,p,q,g, .head step_scope<|Steps.trans d<|.one step_inScope⟩
 |exit id=>exact⟨.exit id,p,q,g,λH E=> .head step_scope<|d H (by simp[exitTo,E])⟩
 |goto l'=>
  rcases g with⟨rfl,n,r⟩|⟨_,g⟩
  .obtain⟨C,A,K,s,h⟩:=I n p q r;exact⟨C,A,K,s, .of_steps (.head step_scope<|d _ S) h⟩
  .exact(M _ _ _ g).elim
 |ret=>exact⟨_,p,q,g, .of_steps (.one step_scope) d⟩
 |panic U=>exact⟨_,p,q,g, .of_steps (.one step_scope) d⟩
 |outgrown=>exact⟨_,p,q,g, .of_steps (.one step_scope) d⟩
def Jst {P:Program}(B:Base P)(N:Nat)(d:Mu)(b:World)(L:Nat->cx->Hp->Prop)(n:Nat):Act->World->Prop:=λa w=>
 ∃e Z μ,L n e Z/\d.le μ/\R B μ Z w/\gp μ N e a.tmps/\a.defers=[]/\Below B b w
def Aok (P:Program)(T:iX)(B:Base P)(N:Nat)(c:Code):Prop:= ∀(b:AC),mz P N c=O b->∀(Q:AExit->cx->Hp->Prop) (e:cx) (Z:Hp) (μ:Mu) (a:Act) (w:World),yw T b Q e Z->
  R B μ Z w->gp μ N e a.tmps->a.defers=[]->c.wp P (sf B N μ w Q) a w
def Y6 (P:Program)(T:iX)(B:Base P)(N:Nat)(c:Code):Prop:= ∀(h:AC),Uq P N c=O h->∀(Q:AExit->cx->Hp->Prop),
 (iP c=Y->∀(e:cx) (Z:Hp) (μ:Mu) (a:Act) (w:World),yw T h Q e Z->R B μ Z w->gp μ N e a.tmps->a.defers=[]->c.wp P (sf B N μ w Q) a w)/\
 (∀l,iP c=O l->∃b L,findLabel c l=O b/\∀g d,
  (∀(e:cx) (Z:Hp) (μ:Mu) (a:Act) (w:World),yw T h Q e Z->R B μ Z w->gp μ N e a.tmps->a.defers=[]->g.le μ->Below B d w->c.wp P (Mo l (λa w=> ∃n,Jst B N g d L n a w)<|sf B N g d Q) a w)/\
  (∀n a w,Jst B N g d L n a w->b.wp P (Mo l (λa w=> ∃m,m<n/\Jst B N g d L m a w)<|sf B N g d Q) a w))
def Y6.of {c:Code}(k:Uq P N c=mz P N c)(m:iP c=Y)(h:Aok P T B N c):Y6 P T B N c:=λg b Q=>
 ⟨λ_=>h g (k▸b) Q,λl d=>by rw[m]at d;cases d⟩
def LB {μ:Mu}{Q:AExit->cx->Hp->Prop}{x:Exit}{a':Act}{w':World}(h:sf B N μ w Q x a' w')(m:x≠ .normal): ∃b e' Z' d,b≠ .normal/\Af b x/\Q b e' Z'/\μ.le d/\R B d Z' w'/\gp d N e' a'.tmps/\a'.defers=[]/\Below B w w':=by
 have⟨b,e',Z',d,g,k,l⟩:=h;refine⟨b,e',Z',d, ?_,g,k,l⟩;rintro rfl;cases x<;>first|exact g.elim|exact m rfl
def aV8 {μ:Mu}{Q Q':AExit->cx->Hp->Prop}{x:Exit}{a':Act}{w':World}(h:sf B N μ w Q x a' w')(l: ∀b e Z,Af b x->Q b e Z->Q' b e Z):sf B N μ w Q' x a' w':=by
 have⟨b,e',Z',m,d,g,k⟩:=h;exact⟨b,e',Z',m,d,l _ _ _ d g,k⟩
def YK {x y:Code}{μ:Mu}{Q1:AExit->cx->Hp->Prop}{F:Exit->Act->World->Prop}(h:x.wp P (sf B N μ w Q1) a w)
  (z: ∀e Z g a' w',Q1 .normal e Z->μ.le g->R B g Z w'->gp g N e a'.tmps->a'.defers=[]->Below B w w'->y.wp P F a' w')
  (d: ∀x a' w',x≠ .normal->sf B N μ w Q1 x a' w'->F x a' w'):(Code.seq x y).wp P F a w:=by
 refine wp_seq<|wp_mono h λA a' w' b=> ?_;cases A with
 |normal=>
  have⟨m,e',Z',g,k,n,p,q,r,s,u⟩:=b;cases m with
  |normal=>exact z e' Z' g a' w' n p q r s u
  |exit i=>exact k.elim
  |ret=>exact k.elim
 |exit i=>exact d _ a' w' V2 b
 |goto l=>exact d _ a' w' V2 b
 |ret=>exact d _ a' w' V2 b
 |panic C=>exact d _ a' w' V2 b
 |outgrown=>exact d _ a' w' V2 b
def VE {l:Nat}{J:Act->World->Prop}{F:Exit->Act->World->Prop}{x:Exit}(g:x= .goto l->J a w)(d:x≠ .goto l->F x a w):Mo l J F x a w:=by
 cases x with
 |goto h=>
  by_cases b:h=l
  .subst b;exact .inl ⟨rfl,g rfl⟩
  exact .inr ⟨b,d (by simpa using b)⟩
 |_=>exact d V2
def O4 {l:Nat}{J J':Act->World->Prop}{F F':Exit->Act->World->Prop}(k: ∀a w,J a w->J' a w)(g: ∀x a w,F x a w->F' x a w){x:Exit}(h:Mo l J F x a w):Mo l J' F' x a w:=by
 cases x with
 |goto m=>
  rcases h with⟨b,d⟩|⟨b,d⟩
  .exact .inl ⟨b,k _ _ d⟩
  exact .inr ⟨b,g _ _ _ d⟩
 |_=>exact g _ _ _ h
theorem ax8 (hM:we T)(hT: ∀f,Sim P f<|T f): ∀(c:Code),Aok P T B N c/\Y6 P T B N c:=by
 intro c;induction c with
 |skip=>
  refine(λA=>⟨A,Y6.of rfl rfl A⟩) ?_;intro U h Q e Z μ a w d k g m;simp[mz,PS,rC]at h;subst h;exact wp_skip ⟨.normal,e,Z,μ,trivial,d,μ.le_refl,k,g,m,Below.refl _ _⟩
 |label l=>
  refine(λA=>⟨A,Y6.of rfl rfl A⟩) ?_;intro U h Q e Z μ a w d k g m;simp[mz,PS,rC]at h;subst h;exact wp_label ⟨.normal,e,Z,μ,trivial,d,μ.le_refl,k,g,m,Below.refl _ _⟩
 |goto l=>
  refine(λA=>⟨A,Y6.of rfl rfl A⟩) ?_;intro U h Q e Z μ a w d k g m;simp[mz,PS,rC]at h;subst h;exact wp_goto ⟨.exit<|CR l,e,Z,μ,rfl,d,μ.le_refl,k,g,m,Below.refl _ _⟩
 |region id ops draw=>
  refine(λA=>⟨A,Y6.of rfl rfl A⟩) ?_;intro U h Q e Z μ a w d k g m;simp only[mz,PS,rC]at h;cases draw with
  |false=>
   simp only[bD,if_false]at h;obtain⟨al,r,h⟩:=aw.1 h;subst h;exact wp_region_list (Ym hT ops.toList al e Z μ a w r d k g m μ.le_refl<|Below.refl _ _)
  |true=>
   simp only[if_true]at h;split at h
   .rename_i al r;split at h
    .rename_i h2
     have d:E3 T (Q .normal) al (ft al) [] [] e Z:=by
      split at h
      .rename_i its hits;injection h with h
       subst h;exact GJ hM (ft al) [] [] its [] [] e Z hits d (λi c hc=>(by cases hc)) (λi c hc=>(by cases hc))
      injection h with h
      subst h;exact d
     simp only[aB]at h2;have hF:=aQ9 r;have V: ∀(val:Nat->Value),iR al e val []=e:=λval=>funext λt=>pg λi J=>by cases J
     refine wp_region_any h2.2 ?_;have hl:left (ft al) []<=ft al:=by unfold left;exact Nat.le_trans (List.length_filter_le _ _) V2
     refine aP5 hT hF h2.1 (e0:=e) ops.size (ft al) (λ_=>undef) [] [] [] _ Z μ a _ (by rw[V];exact d) hl (by rw[hF.len];exact hl) ⟨λi J=>eo,λi J=>eo,λi J=>eo,λi J=>eo,λi J=>eo⟩ V2 (λi J=>by simp[J]) (k.same rfl) (by rw[V];exact g) m μ.le_refl (Below.refl _ _).drew
    cases h
   cases h
 |seq x y ihx ihy=>
  refine⟨?_, ?_⟩
  .intro U h Q e Z μ a w d k g m;have h:bp0 (mz P N x) (mz P N y)=O U:=h;unfold bp0 at h;split at h
   .rename_i X ay r h2;injection h with h
    subst h;simp only[yw]at d;have r:mz P N x=O X:=r;have h2:mz P N y=O ay:=h2;refine YK (ihx.1 X r _ e Z μ a w d k g m) (λe' Z' q C w' S g1 g2 g3 g4 g5=> ?_) λx' C w' K hp=> ?_
    .exact wp_mono (ihy.1 ay h2 Q e' Z' q C w' S g2 g3 g4) λx'' a'' w'' h''=>h''.trans g1 g5
    have⟨z,e',Z',q,h0,M,h2',h3'⟩:=LB hp K;refine⟨z,e',Z',q,M, ?_,h3'⟩
    grind
   cases h
  intro U h Q;have h:YO x y (mz P N x) (mz P N y) (Uq P N y)=O U:=h;unfold YO at h;split at h
  .rename_i l hl;obtain rfl:=TA hl;split at h
   .
    rename_i hg;obtain⟨yc,r,h⟩:=aw.1 h;subst h;have I:iP (.seq (.label l) y)=O l:=by simp[iP,HC,hg]
    refine⟨λW=>(by rw[I]at W;cases W),λE p=> ?_⟩;rw[I]at p;injection p with p
    subst p
    let Q1:AExit->cx->Hp->Prop:=λx e Z=>match x with
     | .exit i=>if i=Ah l then Q .normal e Z else Q (.exit i) e Z
     |x=>Q x e Z
    let F:AC:= .block (CR l) (.seq yc<|.exit<|Ah l)
    have hne:Ah l≠CR l:=by unfold Ah CR;omega
    have round: ∀(n:Nat) (e:cx) (Z:Hp) (μ:Mu) (a:Act) (w:World) (μ0:Mu) (w0:World),jA (yw T F) Q1 (n+1) e Z->R B μ Z w->gp μ N e a.tmps->a.defers=[]->μ0.le μ->Below B w0 w->
      y.wp P (Mo l (λa w=>Jst B N μ0 w0 (λn=>jA (yw T F) Q1 n) n a w)<|sf B N μ0 w0 Q) a w:=by
     intro n e Z μ a w μ0 w0 d k g m hμ H;simp only[jA,F,yw]at d;refine wp_mono (ihy.1 yc r _ e Z μ a w d k g m) λx' C w' hp=> ?_
     have⟨X,e',Z',q,q1,q2,q3,q4,q5,q6,q7⟩:=hp;refine VE (λK=> ?_) λK=> ?_
     .subst K;cases X with
      |exit i=>
       have q1:i=CR l:=q1;subst q1;simp only[if_true]at q2;exact⟨e',Z',q,q2,Mu.le_trans hμ q3,q4,q5,q6,H.trans q7⟩
      |_=>exact q1.elim
     .cases X with
      |normal=>
       simp only[zF hne]at q2;simp only[Q1,if_true]at q2;exact⟨.normal,e',Z',q,q1,q2,Mu.le_trans hμ q3,q4,q5,q6,H.trans q7⟩
      |ret=>exact⟨.ret,e',Z',q,q1,q2,Mu.le_trans hμ q3,q4,q5,q6,H.trans q7⟩
      |exit i=>
       have J:i≠CR l/\i≠Ah l:=by
        cases x' with
        |exit j=>
         obtain⟨rfl,hj⟩:=q1;unfold CR Ah;omega
        |goto E=>
         have q1:i=Fj+2*E:=q1;have:E≠l:=λe=>K (by rw[e])
         unfold CR Ah;omega
        |_=>exact q1.elim
       simp only[zF J.1,Q1,zF J.2]at q2;exact⟨.exit i,e',Z',q,q1,q2,Mu.le_trans hμ q3,q4,q5,q6,H.trans q7⟩
    refine⟨.seq .skip y,λn=>jA (yw T F) Q1 n,by simp[findLabel],λμ0 w0=>⟨λe Z μ a w d k g m hμ H=> ?_,λn a w hJ=> ?_⟩⟩
    .have hw': ∃n,jA (yw T F) Q1 n e Z:=d
     have⟨n,W⟩:=hw';cases n with
     |zero=>exact W.elim
     |succ n=>
      refine wp_seq<|wp_label ?_;exact wp_mono (round n e Z μ a w μ0 w0 W k g m hμ H) λx' C w' h'=>O4 (λ_ _ h=>⟨n,h⟩) (λ_ _ _ h=>h) h'
    have⟨e,Z,μ,W,hμ,k,g,m,H⟩:=hJ;cases n with
    |zero=>exact W.elim
    |succ n=>
     refine wp_seq<|wp_skip ?_;exact wp_mono (round n e Z μ a w μ0 w0 W k g m hμ H) λx' C w' h'=>O4 (λ_ _ h=>⟨n,Nat.lt_succ_self n,h⟩) (λ_ _ _ h=>h) h'
   
   rename_i hg;split at h
   .rename_i s;obtain⟨yc,r,h⟩:=aw.1 h;subst h;have I:iP (.seq (.label l) y)=iP y:=by simp[iP,HC,hg]
    have⟨s1,s2⟩:=ihy.2 yc r Q;refine⟨λW e Z μ a w d k g m=>wp_seq<|wp_label ?_,λE p=> ?_⟩
    .exact s1 (I▸W) e Z μ a w d k g m
    rw[I]at p;have⟨u,L,hf,hJ⟩:=s2 E p
    have hlab:findLabel (.seq (.label l) y) E=O u:=by
     have:findLabel (.label l) E=Y:=GF _ _ (by
      unfold J2 at s;rw[p]at s
      simpa using s)
     simp[findLabel,hf]at this⊢;simp[this]
    refine⟨u,L,hlab,λμ0 w0=>⟨λe Z μ a w d k g m hμ H=>wp_seq<|wp_label ?_,(hJ μ0 w0).2⟩⟩;exact(hJ μ0 w0).1 e Z μ a w d k g m hμ H
   cases h
  rename_i hl;split at h
  .rename_i X ay r h2;split at h
   .rename_i s;rw[aB,aD]at s;obtain⟨s,hnj⟩:=s;injection h with h
    subst h;have I:iP (.seq x y)=iP y:=by simp[iP,hl]
    have⟨s1,s2⟩:=ihy.2 ay h2 Q;refine⟨λW e Z μ a w d k g m=> ?_,λE p=> ?_⟩
    .simp only[yw]at d;refine YK (ihx.1 X r _ e Z μ a w d k g m) (λe' Z' q C w' S g1 g2 g3 g4 g5=> ?_) λx' C w' K hp=> ?_
     .exact wp_mono (s1 (I▸W) e' Z' q C w' S g2 g3 g4) λx'' a'' w'' h''=>h''.trans g1 g5
     have⟨z,e',Z',q,h0,M,h2',h3'⟩:=LB hp K;refine⟨z,e',Z',q,M, ?_,h3'⟩
     grind
    rw[I]at p;have⟨u,L,hf,hJ⟩:=s2 E p
    have hlab:findLabel (.seq x y) E=O u:=by
     have:findLabel x E=Y:=GF _ _ (by
      unfold J2 at s;rw[p]at s
      simpa using s)
     simp[findLabel,hf,this]
    have hnj:X.noJump=Za:=by
     grind
    refine⟨u,L,hlab,λμ0 w0=>⟨λe Z μ a w d k g m hμ H=> ?_,(hJ μ0 w0).2⟩⟩;simp only[yw]at d;refine YK (ihx.1 X r _ e Z μ a w (Xk hM _ _ e Z d) k g m) (λe' Z' q C w' S g1 g2 g3 g4 g5=> ?_) λx' C w' K hp=> ?_
    .exact(hJ μ0 w0).1 e' Z' q C w' S.2 g2 g3 g4 (Mu.le_trans hμ g1) (H.trans g5)
    have⟨z,e',Z',q,h0,M,h2',h3',h4',h5',h6',h7'⟩:=LB hp K;refine VE (λhg=> ?_) λ_=> ?_
    .subst hg;cases z with
     |exit i=>
      have k1:i=Fj+2*E:=M;have:=RE hnj<|h2'.1 i rfl;omega
     |_=>exact M.elim
    refine⟨z,e',Z',q,M, ?_,Mu.le_trans hμ h3',h4',h5',h6',H.trans h7'⟩;cases z with
    |normal=>exact(h0 rfl).elim
    |exit i=>exact h2'.2
    |ret=>exact h2'.2
   cases h
  cases h
 |cond c x y ihx ihy=>
  refine(λA=>⟨A,Y6.of rfl rfl A⟩) ?_;intro U h Q e Z μ a w d k g m;simp only[mz,PS,rC]at h;split at h
  .rename_i c' X ay h0 r h2;injection h with h
   subst h;obtain⟨rfl,k0⟩:=bc h0;have hv:=g.ev k0;simp only[yw]at d;split at d
   .rename_i H;rw[H]at hv;exact wp_cond_true hv.bool_inv (ihx.1 X r Q e Z μ a w d k g m)
   .rename_i H;rw[H]at hv;exact wp_cond_false hv.bool_inv (ihy.1 ay h2 Q e Z μ a w d k g m)
   exact d.elim
  cases h
 |block id b ih=>
  refine(λA=>⟨A,Y6.of rfl rfl A⟩) ?_;intro U h Q e Z μ a w d k g m;simp only[mz,PS,rC]at h;split at h
  .rename_i hlt;obtain⟨ab,r,h⟩:=aw.1 h;subst h;simp only[yw]at d;refine wp_block<|wp_mono (ih.1 ab r _ e Z μ a w d k g m) λx C w' K=> ?_;have⟨z,e',Z',q,hxr,S,g1,g2,g3,g4,g5⟩:=K;cases z with
   |normal=>
    cases x<;>simp[Af]at hxr;exact⟨.normal,e',Z',q,trivial,S,g1,g2,g3,g4,g5⟩
   |exit i=>
    simp only at S;cases x with
    |exit j=>
     obtain⟨rfl,hj⟩:=hxr;simp only[Exit.inBlock];split
     .rename_i hid;rw[zE hid]at S;exact⟨.normal,e',Z',q,trivial,S,g1,g2,g3,g4,g5⟩
     rename_i hid;rw[zF hid]at S;exact⟨.exit i,e',Z',q,⟨rfl,hj⟩,S,g1,g2,g3,g4,g5⟩
    |goto l=>
     have hxr':i=Fj+2*l:=hxr;rw[Zh]at S;exact⟨.exit i,e',Z',q,hxr,S,g1,g2,g3,g4,g5⟩
    |_=>exact hxr.elim
   |ret=>
    cases x<;>simp[Af]at hxr;exact⟨.ret,e',Z',q,trivial,S,g1,g2,g3,g4,g5⟩
  cases h
 |loop b ih=>
  refine(λA=>⟨A,Y6.of rfl rfl A⟩) ?_;intro U h Q e Z μ a w d k g m;simp only[mz,PS,rC]at h;obtain⟨ab,r,h⟩:=aw.1 h;subst h;simp only[yw]at d;have⟨n,W⟩:=d;exact Uw (f:=yw T ab) (λQ e Z μ a w hf=>ih.1 ab r Q e Z μ a w hf) W k g m μ.le_refl (Below.refl _ _)
 |scope b ih=>
  refine(λA=>⟨A,Y6.of rfl rfl A⟩) ?_;intro U h Q e Z μ a w d k g m;simp only[mz,PS,rC]at h;split at h
  .rename_i ac' r;split at h
   .rename_i hno;injection h with h
    subst h;have hw':=Xk hM _ Q e Z d
    have hng: ∀(E:Nat) (a:Act) (w':World),¬sf B N μ w (Xv ac' Q) (.goto E) a w':=by
     rintro E a w' ⟨X,e',Z',q,k1,k2,_⟩;cases X with
     |exit i=>
      have k1:i=Fj+2*E:=k1;have:=RE hno<|k2.1 i rfl;omega
     |_=>exact k1.elim
    have fin: ∀{x:Exit} {C:Act} {w':World},sf B N μ w (Xv ac' Q) x C w'->sf B N μ w Q x C w':=λh=>aV8 h λ_ _ _ _ h=>h.2
    have⟨s1,s2⟩:=ih.2 ac' r<|Xv ac' Q;cases hl:iP b with
    |none=>
     refine wp_scope_straight<|wp_mono (s1 hl e Z μ a w hw' k g m) λx C w' K=> ?_;cases x with
     |goto E=>exact(hng E C w' K).elim
     |_=>exact fin K
    |some l=>
     have⟨u,L,hf,hJ⟩:=s2 l hl;have⟨j1,j2⟩:=hJ μ w;refine wp_mono (WQ l (Jst B N μ w L) hf hng (j1 e Z μ a w hw' k g m μ.le_refl<|Below.refl _ _) j2) λx C w' K=>fin K
   cases h
  cases h
 |exit id=>
  refine(λA=>⟨A,Y6.of rfl rfl A⟩) ?_;intro U h Q e Z μ a w d k g m;simp only[mz,PS,rC]at h;split at h
  .rename_i hlt;injection h with h
   subst h;exact wp_exit ⟨.exit id,e,Z,μ,⟨rfl,hlt⟩,d,μ.le_refl,k,g,m,Below.refl _ _⟩
  cases h
 |ret=>
  refine(λA=>⟨A,Y6.of rfl rfl A⟩) ?_;intro U h Q e Z μ a w d k g m;simp[mz,PS,rC]at h;subst h;exact wp_ret ⟨.ret,e,Z,μ,trivial,d,μ.le_refl,k,g,m,Below.refl _ _⟩
 |_=>
  refine(λA=>⟨A,Y6.of rfl rfl A⟩) ?_;intro U h;simp[mz,PS,rC]at h
def aO6 (d:we T)(k: ∀f,Sim P f<|T f)(c:Code)(b:AC)(h:mz P N c=O b)(Q:AExit->cx->Hp->Prop)(e:cx)(Z:Hp)(μ:Mu)(a:Act)(w:World)(n:yw T b Q e Z)
  (g:R B μ Z w) (m:gp μ N e a.tmps) (l:a.defers=[]):c.wp P (sf B N μ w Q) a w:=(ax8 d k c).1 b h Q e Z μ a w n g m l
end
end
end Go.Ab
