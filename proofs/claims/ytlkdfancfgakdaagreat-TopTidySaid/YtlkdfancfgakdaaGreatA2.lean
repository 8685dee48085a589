/- A part of the proof. No condition. -/
import Derived.Test.YtlkdfancfgakdaaGreatA1
import Derived.Laws.BytesString
import Derived.Laws.RangeAny
import Derived.Laws.IdiomStrings
import Derived.Laws.Cover4
import Derived.Lib.OthersKept
import Derived.MapKept
import Derived.RangeFuncIn
import Derived.OrdersIn
import Derived.TacticsIn
set_option linter.unusedVariables false
set_option linter.unusedSimpArgs false
set_option linter.unusedSectionVars false
namespace Go.Ab
open Option renaming some->O,none->Y
open Bool renaming true->Za,false->Zb
open Decidable renaming decide->Zc
variable {x y:Operand}{c:Call}{e e' e0:cj}{i j t:Nat}{D:List Nat}{ao op:AOp}{kd:IntKind}{f:FuncId}{Z:Hp}{g:G}{args:List Operand}{s:ByteArray}{v:Value}
section
open Bool renaming false_eq_true -> dB
open Builtin renaming firstCells -> bB, zeroCells -> bD, append_ -> gD, lenOf -> iA
open List renaming length_append -> dD, map_cons -> eD, map_nil -> fB, map_toArray -> fD, getElem?_drop -> iC, getElem?_take -> iD, append_assoc -> iG, getElem?_eq_getElem -> iH, getElem?_eq_none -> iI
open Nat renaming le_refl -> cD, add_mul -> iB, add_assoc -> iE, zero_add -> iF, mul_le_mul_right -> iJ
open Result renaming andThen_ok -> aB
open Sem renaming run_bind -> aD, run_pure -> cB
open Go.RowKit
section
variable {P:Program} {o:Oper} {a:Act} {w w':World} {B:Base P} {N:Nat} {μ:Mu} {e:cj} {Z Z':Hp} {v:Value}
theorem N2 {x:Blk}{o:Nat}{cs:List Value}(h:uG x o 0=O cs):cs=[]:=by
 unfold uG at h;split at h
 .simpa using h.symm
 .cases h
theorem yR {es n ln:Nat}{x C:Value}{cs:List Value}(z:FK x=O ln)(K:n<=ln)(h:Z.slice es x n=O cs)(J:R B μ Z w)(k:VR μ x C):
  ∃arr:Array Value,(∀w':World,w'.heap=w.heap->(bB es n C).run P w'= .ok arr w')/\F2 (VR μ) cs arr.toList:=by
 unfold Hp.slice at h;split at h
 .rename_i b L l c;simp[FK]at z;subst z;split at h
  .rename_i p;injection h with h
   subst h;subst p;rcases k.slice_inv with⟨g,F,r,_,_,_,rfl⟩|⟨rfl,rfl,A',rfl,_⟩
   .exact⟨#[],λ_ _=>by simp[bB,loadCells,loadCellsFrom], .nil⟩
   .exact⟨#[],λ_ _=>by simp[bB,loadCells,loadCellsFrom], .nil⟩
  split at h
  .rename_i E d;rcases k.slice_inv with⟨g,F,r,_,_,_,rfl⟩|⟨rfl,rfl,A',rfl,_⟩
   .obtain⟨m,H,I⟩:=J.reads d r h;exact⟨m.toArray,λw' q=>by simp[bB,H P w' q],I⟩
   .have:n=0:=by omega
    subst this;rw[Nat.zero_mul]at h;rw[N2 h];exact⟨#[],λ_ _=>by simp[bB,loadCells,loadCellsFrom], .nil⟩
  .cases h
 .obtain⟨rfl,_,_⟩:=k.nils_inv;split at h
  .injection h with h
   subst h;exact⟨#[],λ_ _=>by simp[bB], .nil⟩
  .cases h
 .rename_i s;split at h
  case isFalse=>cases h
  injection h with h
  subst h;obtain rfl:=k.string_inv;refine⟨_,λ_ _=>by simp only[bB];rfl, ?_⟩;simp only[Array.toList_map]
  exact F2.same _ λu A=>by
   simp only[List.mem_map]at A;obtain⟨c,_,rfl⟩:=A;exact .int _ _
 .cases h
theorem LG {x y:Blk}{b:Nat}{vs:List Value}(h:Dk x b vs=O y):x.own=Za/\b+vs.length<=x.cells.length/\(∀v∈vs,one v=Za)/\y=⟨qr x.cells b vs,x.own,x.es⟩:=by
 unfold Dk at h;split at h
 .rename_i d;injection h with h
  exact⟨d.1,d.2.1,λv k=>List.all_eq_true.1 d.2.2 v k,h.symm⟩
 .cases h
theorem aB1 {t d:TypeId}{ts:List TypeId}{n:Nat}(ho:o.op= .call c)(hc:c.callee= .builtin .copy)(ha:c.args.toList=[x,y])(ht:c.argTypes.toList=t::ts)(hu:P.underlying t=O (.slice d))(hn:qF P d=O n)
  (hx:cm x=Za) (hy:cm y=Za) (k:(AOp.copy n x y).run e Z=O (v,Z')) (he:di μ N e a.tmps) (U:R B μ Z w):kr P o a w B μ v Z':=by
 have u:=he.ev hx;have K:=he.ev hy;obtain⟨cst,J⟩:=gw (P:=P) (a:=a) ho hc w;simp only[AOp.run]at k;split at k
 .rename_i p A dc hp;rw[hp]at u
  have W: ∃E r,a.eval x= .slice E A r:=by
   generalize a.eval x=q at u;cases u<;>exact⟨_,_,rfl⟩
  obtain⟨E,r,hq⟩:=W;split at k
  .rename_i L I;have C:=WO I K
   have V:(iA (a.eval y)).run P w= .ok L w:=by
    generalize a.eval y=q at*;cases q<;>simp[FK]at C<;>simp[iA,C]
   split at k
   .rename_i new h;obtain⟨z,f1,S⟩:=yR (P:=P) I (Nat.min_le_left _ _) h U K
    have head:(execOp a.eval o).run P w=((do
      if let O a:=E then storeCells a z.toList
      pure (goInt (Nat.min L A)):Sem Value).run P w).andThen λv w=> .ok (.value v) w:=by
     simp only[J,builtin,Builtin.copy_,MY ha,fD,eD,fB,DA ht,hq,aD];have e1:(#[Value.slice E A r,a.eval y]:Array Value)[0]?=O (.slice E A r):=rfl;have e2:(#[Value.slice E A r,a.eval y]:Array Value)[1]?=O (a.eval y):=rfl;simp only[e1,e2,aD,cy hu,aB,V,rl hn];have Q:(bB n (L.min A) (a.eval y)).run P w= .ok z w:=f1 w rfl;simp only[Q,aB];rfl
    have m:new=[]->kr P o a w B μ (.int .i64 (min L A:Nat)) Z:=by
     intro l;subst l
     have:z= #[]:=by
      cases F:z.toList with
      |nil=>simpa using F
      |cons _ _=>rw[F]at S;cases S
     subst this;refine .same U ?_ (.int _ _);rw[head];cases E<;>simp[storeCells,goInt]<;>rfl
    split at k
    .rename_i b off;split at k
     .rename_i l;simp only[Option.some.injEq,Prod.mk.injEq]at k;obtain⟨rfl,rfl⟩:=k;exact m l
     .rename_i l;split at k
      .rename_i M H;split at k
       .rename_i blk' hw;simp only[Option.some.injEq,Prod.mk.injEq]at k;obtain⟨rfl,rfl⟩:=k;obtain⟨k1,k2,k3,rfl⟩:=LG hw;rw[hq]at u;rcases u.slice_inv with⟨g,c',hg,_,_,_,hv⟩|⟨rfl,_⟩
        .injection hv with X hv2 hv3
         subst X;obtain⟨w',g1,g2,g3⟩:=R.writes _ _ S k3 Z w b off 0 M g U H k1 hg (by omega);refine⟨_,w',μ, .int .i64 (min L A:Nat), ?_, .inl rfl,μ.le_refl,g2, .int _ _,g3⟩;rw[head];simp[g1,goInt]
        .exfalso;rw[Nat.min_zero]at h;unfold Hp.slice at h;split at h
         .simp at h;exact l h
         .simp at h;exact l h
         .simp at h;exact l h.2
         .cases h
       .cases k
      .cases k
    .split at k
     .rename_i l;simp only[Option.some.injEq,Prod.mk.injEq]at k;obtain⟨rfl,rfl⟩:=k;exact m l
     .cases k
    .cases k
   .cases k
  .cases k
 .cases k
theorem I9 {arr:Array Value}(h:F2 (VR μ) [] arr.toList):arr= #[]:=by
 cases b:arr.toList with
 |nil=>simpa using b
 |cons _ _=>rw[b]at h;cases h
theorem SD {st C d:TypeId}{n p:Nat}{z:List Value}(ho:o.op= .call c)(hc:c.callee= .builtin .append)(ha:c.args.toList=[x,y])(ht:c.argTypes.toList=[st,C])(hu:P.underlying st=O (.slice d))
  (M:(∃q,P.underlying C=O (.slice q))∨P.underlying C=O .string) (hn:qF P d=O n) (hb:SH P d=O p) (hz:sS P d=O z)
  {A:Option Addr} {b l ln:Nat} (hq:a.eval x= .slice A b l) (I:FK (a.eval y)=O ln) {arr:Array Value} (E:(bB n ln (a.eval y)).run P w= .ok arr w):
  (b+ln<=l->(execOp a.eval o).run P w=((do
    if let O a:=A then storeCells (a.add (b*n)) arr.toList
    pure (.slice A (b+ln) l):Sem Value).run P w).andThen λv w=> .ok (.value v) w)/\
  (l<b+ln->(b+ln)*p<=140737488355328->b+ln<=9223372036854775807->∀old:Array Value,(bB n b (.slice A b l)).run P w.drew= .ok old w.drew->(bB n ln (a.eval y)).run P w.drew= .ok arr w.drew->
   ∃r,b+ln<=r/\∃Q:Value,cellsOf Q=z/\(execOp a.eval o).run P w= .ok (.value (.slice (O ⟨w.heap.size,0,Y⟩) (b+ln) r)) (w.drew.alloc (.cells (old++arr++bD Q.cells (r-(b+ln))) d))):=by
 obtain⟨cst,m⟩:=gw (P:=P) (a:=a) ho hc w
 have J:(iA (a.eval y)).run P w= .ok ln w:=by
  generalize a.eval y=q at*;cases q<;>simp[FK]at I<;>simp[iA,I]
 obtain⟨i,hi,H⟩:=Option.map_eq_some_iff.1 hb;have h: ∀w:World,(typeInfo d).run P w= .ok i w:=λw=>by simp[typeInfo,hi]
 have V:(#[Value.slice A b l,a.eval y]:Array Value)[0]?=O (.slice A b l):=rfl;have W:(#[Value.slice A b l,a.eval y]:Array Value)[1]?=O (a.eval y):=rfl;have X:(#[st,C]:Array TypeId)[0]?=O st:=rfl;have e4:(#[st,C]:Array TypeId)[1]?=O C:=rfl;refine⟨λF=> ?_,λu k hmax old L K=> ?_⟩
 .rw[m];rcases M with⟨q,hdd⟩|hdd
  all_goals
   simp only[builtin,gD,MY ha,MY ht,fD,eD,fB,hq,V,W,X,e4,aD,cy hu,cy hdd,aB,rl hn,cB,dB,if_false,J,Bool.not_false,if_true];rw[zE F];simp only[aD,E,aB];rfl
 .obtain⟨Q,z1,z2,z3⟩:=rb hz;refine⟨grownCap w (b+ln) l d,grownCap_ge _ _ _ _,Q,z2, ?_⟩;have U:=growslice_fits u k;rw[m];rcases M with⟨q,hdd⟩|hdd
  all_goals
   simp only[builtin,gD,MY ha,MY ht,fD,eD,fB,hq,V,W,X,e4,aD,cy hu,cy hdd,aB,rl hn,cB,dB,if_false,J,Bool.not_false,if_true];rw[Zh];simp only[aD,h,aB,H,false_or]
   have S: ¬(((b+ln:Nat):Int) > IntKind.i64.max/\p=0):=by
    have:IntKind.i64.max=9223372036854775807:=by decide
    omega
   rw[zF S];simp only[aD,h,aB,H];rw[Zh];simp only[aD,run_choose,Question.forced,dB,if_false,World.drew_eq,aB,h,run_askRoom,L,K,z1,newRow,run_newObj,cB,World.alloc_eq];rfl
theorem Ox (z:Array Value)(n:Nat):(bD z n).size=n*z.size:=by simp[bD]
theorem E3 (Z:Hp)(b:R B μ Z w):R B μ Z w.drew:=b.same rfl
theorem ap5 {α:Type}(A M T:List α):(A++(M++T)).take (A.length+M.length)=A++M:=by
 rw[<-iG,<-dD,List.take_left]
theorem KN {x:Blk}{o n:Nat}{cs:List Value}(h:uG x o n=O cs):cs.length=n:=by
 unfold uG at h;split at h
 .injection h with h
  subst h;simp;omega
 .cases h
theorem YP {es n:Nat}{x:Value}{cs:List Value}(h:Z.slice es x n=O cs)(k: ∀s,x= .string s->n<=s.size):cs.length=n*es:=by
 unfold Hp.slice at h;split at h
 .split at h
  .rename_i b;injection h with h;subst h b;simp
  split at h
  .exact KN h
  .cases h
 .split at h
  .rename_i b;injection h with h;subst h b;simp
  .cases h
 .rename_i s;split at h
  case isFalse=>cases h
  rename_i d;injection h with h
  subst h;have l:=k s rfl;subst d;simp;omega
 .cases h
theorem GX (g o:Nat)(t:TypeId)(d:Nat×Nat): ∀(vs:List Value) (i:Nat) (b:Array Value) (w:World),w.heap[g]?=O (.cells b t d)->(b.size<=d.1∨d.1=d.2)->o+i+vs.length<=b.size->(∀v∈vs,v.oneCell'=Za)->
  (storeCells ⟨g,o,Y⟩ vs i).run P w= .ok () (w.setRow g (b.toList.take (o+i)++vs++b.toList.drop (o+i+vs.length)).toArray)
 |[],i,b,w,l,_,_,_=>by
  simp only[storeCells,List.append_nil,List.length_nil,Nat.add_zero,List.take_append_drop,Array.toArray_toList];rw[setRow_self w g b t d l];rfl
 |v::h,i,b,w,l,q,m,p=>by
  have r:o+i<b.size:=by simp at m;omega
  have k:w.cell? ⟨g,o+i,Y⟩=O b[o+i]:=by simp[World.cell?,l,r]
  have n:(store ((⟨g,o,Y⟩:Addr).add i) v).run P w= .ok () (w.setRow g (b.setIfInBounds (o+i) v)):=by
   rw[tZ,run_store P w _ v _ (p v (by simp)),k];simp[Ns w g (o+i) b t d l r q,setCell_eq_setRow w g (o+i) b t d v l]
  have z:=GX g o t d h (i+1) (b.setIfInBounds (o+i) v) (w.setRow g (b.setIfInBounds (o+i) v)) (setRow_heap w g b _ t _ l) (by simpa using q) (by simp at m⊢;omega) (λx u=>p x (by simp[u]));simp only[storeCells,aD,n,aB,z,setRow_setRow]
  congr 3
  have e:=list_seg_step b.toList (o+i) v h (by simp at m⊢;omega);simpa[Array.toList_setIfInBounds,iE]using e
theorem R.moved (A:R B μ Z w){b:Nat}{blk:Blk}(p:Z.m b=O blk)(u:blk.own=Za)(M:μ.at b g){l n:Nat}{cells:List Value}{I:Array Value}{t:TypeId}{fr:Nat×Nat}(hfr:I.size<=fr.1∨fr.1=fr.2)
  (hlt:w.heap.size=w'.heap.size) (W:w'.heap[g.c]?=O (.cells I t fr)) (H: ∀k,k≠g.c->w'.heap[k]?=w.heap[k]?) (hsz:g.o+g.ext<=I.size) (hfit:l+cells.length<=g.ext)
  (hc:F2 (VR μ) cells ((I.toList.drop (g.o+l)).take cells.length)):
  R B (μ.add Z.n ⟨g.c,g.o+l,g.ext-l,n,t,Y⟩) ((Z.set b Y).add ⟨cells,Za,n⟩) w'/\μ.le (μ.add Z.n ⟨g.c,g.o+l,g.ext-l,n,t,Y⟩):=by
 have hf:μ Z.n=Y:=A.fresh _ (cD _);have F:μ.le (μ.add Z.n ⟨g.c,g.o+l,g.ext-l,n,t,Y⟩):=Mu.le_add hf;have hl:=A.get p M.1;obtain⟨o1,o2,cur0,e0,fr0,o40,_⟩:=hl.own M.2 u;have hbn:b≠Z.n:=λe=>by have:=M.1;rw[e,hf]at this;cases this
 have old: ∀q x,q≠Z.n->((Z.set b Y).add ⟨cells,Za,n⟩).m q=O x->Z.m q=O x/\q≠b:=by
  intro q x E z;have L:q≠(Z.set b Y).n:=E;simp only[Hp.add,zF L]at z;simp only[Hp.set]at z;split at z
  .cases z
  .rename_i h;exact⟨z,h⟩
 have new: ∀x,((Z.set b Y).add ⟨cells,Za,n⟩).m Z.n=O x->x=⟨cells,Za,n⟩:=by
  intro x z;have L:Z.n=(Z.set b Y).n:=rfl;simp only[Hp.add,zE L]at z;exact(Option.some.inj z).symm
 refine⟨⟨by rw[<-hlt];exact A.base,λk hk=>(H k (by omega)).trans (A.old k hk),λq E=> ?_,λq x z=> ?_,λX b2 x x' g1 g2 z C S ho hg1 Q=> ?_, ?_,A.dfr_but (c:=g.c) (λd=>by rw[o40];simp) λk hk _=>H k hk⟩,F⟩
 .have:Z.n+1<=q:=E;unfold Mu.add;rw[Zh];exact A.fresh q (by omega)
 .by_cases E:q=Z.n
  .subst E;obtain rfl:=new x z;refine⟨⟨g.c,g.o+l,g.ext-l,n,t,Y⟩,by simp[Mu.add],⟨by rw[<-hlt];exact hl.lt,rfl,λ_ i v hv=> ?_,λ_ _=>⟨o1,by simp;omega,I,t,fr,W,by simp;omega,hfr⟩,λ_ hs=>(by cases hs),λhs=>(by cases hs),λ_ hs=>(by cases hs),λhs=>by cases hs⟩⟩;obtain⟨v',K,V⟩:=hc.get i v hv
   have hi:i<cells.length:=by
    rcases Nat.lt_or_ge i cells.length with h3|h3
    .exact h3
    .simp[iI h3]at hv
   refine⟨v', ?_,V.mono F⟩;rw[cell_of_row _ _ _ I t fr W];rw[iD,zE hi,iC]at K;simpa using K
  .obtain⟨C,hbb⟩:=old q x E z;obtain⟨U,K,V⟩:=A.live q x C;have S:U.c≠g.c:=λe=>A.inj b q blk x g U p C (λe=>hbb e.symm) u M.1 K e.symm
   exact⟨U,F _ _ K,(A.stays C K (by rw[hlt];exact cD _) g.c (λk hk _=>H k hk) S (λhi hk=>(A.sep q x U C K hi _ hk b blk g p M.1).1 rfl)).mono F⟩
 .by_cases E:X=Z.n
  .subst E;have J:b2≠Z.n:=λe=>S e.symm
   have e1:g1.c=g.c:=by simp[Mu.add]at hg1;rw[<-hg1]
   have V:μ b2=O g2:=by simpa[Mu.add,J]using Q
   obtain⟨hx2,L⟩:=old b2 x' J C;rw[e1];exact A.inj b b2 blk x' g g2 p hx2 (λe=>L e.symm) u M.1 V
  .have K:μ X=O g1:=by simpa[Mu.add,E]using hg1
   obtain⟨hx1,hb1⟩:=old X x E z;by_cases J:b2=Z.n
   .subst J;have e1:g2.c=g.c:=by simp[Mu.add]at Q;rw[<-Q]
    rw[e1];exact λe=>A.inj b X blk x g g1 p hx1 (λe=>hb1 e.symm) u M.1 K e.symm
   .have V:μ b2=O g2:=by simpa[Mu.add,J]using Q
    exact A.inj X b2 x x' g1 g2 hx1 (old _ _ J C).1 S ho K V
 .refine A.sep.of (λq x U z r=> ?_) (λq x U z r hi hl'=> ?_)
  .by_cases E:q=Z.n
   .subst E;have e1:U=⟨g.c,g.o+l,g.ext-l,n,t,Y⟩:=by simp[Mu.add]at r;exact r.symm
    subst e1;exact .inr ⟨λh0=>(by cases h0),λX x1 g1 k K V h3 h4=>(A.sep X x1 g1 K V h3 k h4 b blk g p M.1).1⟩
   .exact .inl ⟨x,(old q x E z).1,by simpa[Mu.add,E]using r⟩
  .have hbb:q≠b:=λe=>by subst e;rw[M.1]at r;injection r with r;subst r;rw[M.2]at hi;cases hi
   unfold nz;rw[H _ (λe=>A.inj b q blk x g U p z (λe=>hbb e.symm) u M.1 r e.symm)]
theorem Lv {d:TypeId}{n by_:Nat}{z:List Value}{p:Option Addr}{m sc ln:Nat}{J:List Value}{arr:Array Value}(hzn:z.length=n)(f2:F2 (VR μ) J arr.toList)(I:J.length=ln*n)
  (hp:e.ev x= .slice p m sc) (hx:cm x=Za) (E:rJ n by_ Z p m sc ln J=O (v,Z')) (he:di μ N e a.tmps) (hR:R B μ Z w)
  (U: ∀{K:Option Addr} {A:Nat},a.eval x= .slice K m A->(m+ln<=A->(execOp a.eval o).run P w=((do
    if let O a:=K then storeCells (a.add (m*n)) arr.toList
    pure (.slice K (m+ln) A):Sem Value).run P w).andThen λv w=> .ok (.value v) w)/\
   (A<m+ln->(m+ln)*by_<=140737488355328->m+ln<=9223372036854775807->∀old:Array Value,(bB n m (.slice K m A)).run P w.drew= .ok old w.drew->
    ∃V,m+ln<=V/\∃zz:Value,cellsOf zz=z/\(execOp a.eval o).run P w= .ok (.value (.slice (O ⟨w.heap.size,0,Y⟩) (m+ln) V)) (w.drew.alloc (.cells (old++arr++bD zz.cells (V-(m+ln))) d)))):kr P o a w B μ v Z':=by
 have hfin: ∀{K:Option Addr} {A:Nat} {τ:Hp} {old:List Value} {oa:Array Value},a.eval x= .slice K m A->A<m+ln->(m+ln)*by_<=140737488355328->m+ln<=9223372036854775807->R B μ τ w.drew->old.length=m*n->(bB n m (.slice K m A)).run P w.drew= .ok oa w.drew->F2 (VR μ) old oa.toList->
   kr P o a w B μ (.slice (O ⟨τ.n,0,Y⟩) (m+ln) (m+ln)) (τ.add ⟨old++J,Za,n⟩):=by
  intro K A τ old oa hq hlt hb1 hb2 M r q1 q2;obtain⟨_,head⟩:=U hq;obtain⟨V,hcap,zz,hzz,hrun⟩:=head hlt hb1 hb2 oa q1;have hzs:zz.cells.size=n:=by rw[<-hzn,<-hzz];simp[cellsOf]
  have hoal:oa.toList.length=m*n:=by rw[<-q2.length,r]
  have Q:arr.toList.length=ln*n:=by rw[<-f2.length,I]
  have hcs:(oa++arr++bD zz.cells (V-(m+ln))).size=V*n:=by
   have hoas:oa.size=m*n:=by simpa using hoal
   have hars:arr.size=ln*n:=by simpa using Q
   rw[Array.size_append,Array.size_append,Ox,hzs,hoas,hars,<-iB,<-iB]
   congr 1
   omega
  obtain⟨m1,m2⟩:=M.add (oa++arr++bD zz.cells (V-(m+ln))) d (old++J) n (by rw[dD,r,I,hcs,<-iB];exact iJ _ hcap) (by
   have:((oa++arr++bD zz.cells (V-(m+ln))).toList).take (old++J).length=oa.toList++arr.toList:=by
    rw[dD,r,I,<-hoal,<-Q,<-dD];simp only[Array.toList_append];exact List.take_left
   rw[this]
   exact q2.append f2)
  refine⟨_,_,_,_,hrun, .inl rfl,m2,m1, .slice (o:=0) (g:=⟨w.drew.heap.size,0,_,n,_,Y⟩) ⟨by unfold Mu.add;exact zE rfl,rfl⟩ (cD _) hcap (by simp only[iF];rw[hcs];exact cD _), ?_⟩;exact((Below.refl _ _).drew).alloc hR.base _
 have hvx:=he.ev hx;rw[hp]at hvx;unfold rJ at E;split at E
 .rename_i hfit;split at E
  .rename_i b l
   have L: ∃K A,a.eval x= .slice K m A/\sc<=A/\VR μ (.slice (O ⟨b,l,Y⟩) (m+ln) sc) (.slice K (m+ln) A)/\(J≠[]->∃g,μ.at b g/\K=O ⟨g.c,g.o+l,Y⟩):=by
    rcases hvx.slice_inv with⟨g,c',X,S,W,h3,hv⟩|⟨S,W,A',hv,g0,hg0⟩
    .exact⟨_,c',hv,W, .slice X hfit W h3,λ_=>⟨g,X,rfl⟩⟩
    .subst S W;have:ln=0:=by omega
     subst this;exact⟨_,0,hv,cD _, .slice0 _ hg0,λhne=>absurd (List.eq_nil_of_length_eq_zero (by simpa using I)) hne⟩
   obtain⟨K,A,hq,hle,hvr,hwhere⟩:=L;obtain⟨head,_⟩:=U hq;have head:=head (by omega);split at E
   .rename_i hn0;simp only[Option.some.injEq,Prod.mk.injEq]at E;obtain⟨rfl,rfl⟩:=E;subst hn0;have:=I9 f2;subst this;refine .same hR ?_ hvr;rw[head];cases K<;>simp[storeCells]
   .rename_i hn0;split at E
    .rename_i blk H;split at E
     .rename_i blk' hw;simp only[Option.some.injEq,Prod.mk.injEq]at E;obtain⟨rfl,rfl⟩:=E;obtain⟨k1,k2,k3,rfl⟩:=LG hw;obtain⟨g,X,rfl⟩:=hwhere hn0;obtain⟨w',g1,g2,g3⟩:=R.writes _ _ f2 k3 Z w b (l+m*n) 0 blk g hR H k1 X (by omega);refine⟨_,w',μ,_, ?_, .inl rfl,μ.le_refl,g2,hvr,g3⟩;rw[head];simp[tZ,iE];simp[g1]
     .cases E
    .cases E
  .split at E
   .rename_i hn0;obtain⟨hn0,S,W,h3⟩:=hn0;simp only[Option.some.injEq,Prod.mk.injEq]at E;obtain⟨rfl,rfl⟩:=E;subst S W h3 hn0;obtain⟨hq,_,_⟩:=hvx.nils_inv;have:=I9 f2;subst this;obtain⟨head,_⟩:=U hq;refine .same hR ?_ .nils;rw[head (by omega)];simp
   .cases E
  .cases E
 .rename_i hfit;split at E
  .rename_i hbig;obtain⟨hb1,hb2,hall⟩:=hbig;have hone: ∀u∈J,one u=Za:=λu hu=>List.all_eq_true.1 hall u hu
   split at E
   .rename_i b l;split at E
    .rename_i blk H;split at E
     .rename_i hown;split at E
      .rename_i old C;simp only[Option.some.injEq,Prod.mk.injEq]at E;obtain⟨rfl,rfl⟩:=E;have r:=KN C
       have L: ∃K A,a.eval x= .slice K m A/\sc<=A/\(∃oa:Array Value,(bB n m (.slice K m A)).run P w.drew= .ok oa w.drew/\F2 (VR μ) old oa.toList)/\
         (m+ln<=A->∃g,μ.at b g/\K=O ⟨g.c,g.o+l,Y⟩/\l+A*g.es<=g.ext):=by
        rcases hvx.slice_inv with⟨g,c',X,S,W,h3,hv⟩|⟨S,W,A',hv,g0,hg0⟩
        .obtain⟨cs',r1,r2⟩:=(E3 Z hR).reads H X C;exact⟨_,c',hv,W,⟨cs'.toArray,by simp[bB,r1 P w.drew rfl],r2⟩,λ_=>⟨g,X,rfl,h3⟩⟩
        .subst S W;rw[Nat.zero_mul]at C;have:=N2 C;subst this;exact⟨_,0,hv,cD _,⟨#[],by simp[bB,loadCells,loadCellsFrom], .nil⟩,λh=>absurd h (by omega)⟩
       obtain⟨K,A,hq,hle,⟨oa,q1,q2⟩,hin⟩:=L;by_cases hin':m+ln<=A
       .
        obtain⟨head,_⟩:=U hq;have head:=head hin';obtain⟨g,X,rfl,hext⟩:=hin hin';have hlv:=hR.get H X.1;obtain⟨o1,o2,F,t,fr,o3,o4,o5⟩:=hlv.own X.2 hown.1;have hes:g.es=n:=hlv.es.trans hown.2;rw[hes]at hext;have hsum:(m+ln)*n<=A*n:=iJ _ hin';rw[iB]at hsum;have Q:arr.toList.length=ln*n:=by rw[<-f2.length,I]
        have hone': ∀u∈arr.toList,u.oneCell'=Za:=by
         intro u hu;obtain⟨i,hi,he'⟩:=List.getElem_of_mem hu;obtain⟨u',S,W⟩:=f2.get i (J[i]'(by rw[I,<-Q];exact hi)) (iH _);rw[iH hi]at S;injection S with S
         rw[<-he',S,<-W.one_iff];exact hone _ (List.getElem_mem _)
        have hst:=GX (P:=P) g.c (g.o+l+m*n) t fr arr.toList 0 F w o3 o5 (by omega) hone';rw[Nat.add_zero]at hst;have hrow:=setRow_heap w g.c F (F.toList.take (g.o+l+m*n)++arr.toList++F.toList.drop (g.o+l+m*n+arr.toList.length)).toArray t fr o3
        have hold':F2 (VR μ) old ((F.toList.drop (g.o+l)).take (m*n)):=by
         obtain⟨cs',r1,r2⟩:=hR.reads H X C;refine F2.of_get _ _ (by rw[r];simp;omega) λi u u' hu hu'=> ?_
         have hi:i<m*n:=by
          rcases Nat.lt_or_ge i (m*n)with h3|h3
          .exact h3
          .rw[iI (by omega)]at hu;cases hu
         unfold uG at C;split at C
         .injection C with C
          rw[<-C,iD,zE hi,iC]at hu;obtain⟨u'',S,W⟩:=hlv.cell X.2 (l+i) u hu;rw[cell_of_row _ _ _ F t fr o3]at S;rw[iD,zE hi,iC]at hu'
          have:u'=u'':=by
           have e1:F[g.o+(l+i)]?=O u':=by rw[<-Array.getElem?_toList,<-iE];exact hu'
           rw[e1]at S;exact Option.some.inj S
          rw[this];exact W
         .cases C
        have hcells:F2 (VR μ) (old++J) (((F.toList.take (g.o+l+m*n)++arr.toList++F.toList.drop (g.o+l+m*n+arr.toList.length)).toArray.toList.drop (g.o+l)).take (old++J).length):=by
         have:((F.toList.take (g.o+l+m*n)++arr.toList++F.toList.drop (g.o+l+m*n+arr.toList.length)).toArray.toList.drop (g.o+l)).take (old++J).length=((F.toList.drop (g.o+l)).take (m*n))++arr.toList:=by
          rw[dD,r,I,iG];rw[List.drop_append_of_le_length (by simp;omega)];rw[List.drop_take,show g.o+l+m*n-(g.o+l)=m*n from by omega];have e1:((F.toList.drop (g.o+l)).take (m*n)).length=m*n:=by simp;omega
          have e2:=ap5 ((F.toList.drop (g.o+l)).take (m*n)) arr.toList (F.toList.drop (g.o+l+m*n+arr.toList.length));rw[e1,Q]at e2;rw[Q];exact e2
         rw[this];exact hold'.append f2
        obtain⟨m1,m2⟩:=R.moved (w':=w.setRow g.c (F.toList.take (g.o+l+m*n)++arr.toList++F.toList.drop (g.o+l+m*n+arr.toList.length)).toArray) (n:=n) hR H hown.1 X (o5.imp (λo5=>by have h9:g.o+l+m*n+arr.toList.length<=F.size:=(by omega);rw[Array.length_toList]at h9;simp;omega) id) (by simp) hrow (λk hk=>setRow_other _ _ _ _ hk) (by simp;omega) (by rw[dD,r,I];omega) hcells;refine⟨_,_,_,_, ?_, .inl rfl,m2,m1, .slice (o:=0) (g:=⟨g.c,g.o+l,g.ext-l,n,t,Y⟩) ⟨by simp[Mu.add],rfl⟩ (cD _) hin' (by simp;omega), ?_⟩
        .rw[head];simp only[tZ];simp only[aD,hst,aB,cB];rfl
        .refine⟨rfl,rfl,rfl,by simp,λk hk=>setRow_other _ _ _ _ (by omega)⟩
       .exact hfin hq (by omega) hb1 hb2 ((E3 Z hR).kill b) r q1 q2
      .cases E
     .cases E
    .cases E
   .split at E
    .rename_i hsl;subst hsl;simp only[Option.some.injEq,Prod.mk.injEq]at E;obtain⟨rfl,rfl⟩:=E;obtain⟨hq,_,hsc⟩:=hvx.nils_inv;subst hsc;have:=hfin (old:=[]) (oa:= #[]) hq (by omega) hb1 hb2 (E3 Z hR) (by simp) (by simp[bB]) .nil;rw[iF]at this;exact this
    .cases E
   .
    rename_i b l q
    have L: ∃K,a.eval x= .slice K m sc/\m=sc/\(m≠0->∃g,μ.at b g/\K=O ⟨g.c,g.o+l,Y⟩):=by
     generalize hq:a.eval x=q' at hvx;cases hvx with
     |sliceX S W=>exact⟨_,rfl,rfl,λ_=>⟨_,S,rfl⟩⟩
     |sliceX0 A' S=>exact⟨_,rfl,rfl,λh=>(h rfl).elim⟩
    obtain⟨K,hq,hsc,hgo⟩:=L;have M:=E3 Z hR;split at E
    .rename_i hsl;simp only[Option.some.injEq,Prod.mk.injEq]at E;obtain⟨rfl,rfl⟩:=E;have:=hfin (old:=[]) (oa:= #[]) hq (by omega) hb1 hb2 M (by rw[hsl];simp) (by rw[hsl];cases K<;>simp[bB,loadCells,loadCellsFrom]) .nil;rw[hsl,iF]at this;exact this
    .rename_i hsl;split at E
     .rename_i blk H;split at E
      .split at E
       .rename_i old C;simp only[Option.some.injEq,Prod.mk.injEq]at E;obtain⟨rfl,rfl⟩:=E;obtain⟨g,X,rfl⟩:=hgo hsl;obtain⟨cs',r1,r2⟩:=M.reads H X C;exact hfin (oa:=cs'.toArray) hq (by omega) hb1 hb2 M (KN C) (by simp[bB,r1 P w.drew rfl]) r2
       .cases E
      .cases E
     .cases E
  .cases E
theorem PY {st J d:TypeId}{n l:Nat}{z:List Value}(ho:o.op= .call c)(hc:c.callee= .builtin .append)(X:c.args.toList=[x,y])(ht:c.argTypes.toList=[st,J])(hu:P.underlying st=O (.slice d))
  (E:(∃q,P.underlying J=O (.slice q))∨P.underlying J=O .string) (hn:qF P d=O n) (hb:SH P d=O l) (hz:sS P d=O z) (F:z.length=n)
  (hx:cm x=Za) (hy:cm y=Za) (k:(AOp.append n l x y).run e Z=O (v,Z')) (M:di μ N e a.tmps) (L:R B μ Z w):kr P o a w B μ v Z':=by
 have u:=M.ev hy;simp only[AOp.run]at k;split at k
 .rename_i p sl sc hp;split at k
  .rename_i ln b;have r:=WO b u;split at k
   .rename_i H h;obtain⟨Q,K,U⟩:=yR (P:=P) b (cD _) h L u;have S:=K w rfl;have C:=K w.drew rfl;have A:=E
    have m:H.length=ln*n:=YP h λs hs=>by
     rw[hs]at b;simp[FK]at b;omega
    exact Lv F U m hp hx k M L λhq=>by
     obtain⟨V,W⟩:=SD ho hc X ht hu A hn hb hz hq r S;exact⟨V,λq1 q2 q3 I q4=>W q1 q2 q3 I q4 C⟩
   .cases k
  .cases k
 .cases k
theorem QS {st S d:TypeId}{n C:Nat}{z:List Value}(ho:o.op= .call c)(hc:c.callee= .builtin .append)(ha:c.args.toList=[x,y])(ht:c.argTypes.toList=[st,S])(hu:P.underlying st=O (.slice d))
  (hxt: ∃q,P.underlying S=O (.int q)) (hn:qF P d=O n) (hb:SH P d=O C) (hz:sS P d=O z) (hzn:z.length=n) (h0:0<n)
  {J:Option Addr} {m r:Nat} {k:IntKind} {l:Int} (hq:a.eval x= .slice J m r) (hl:a.eval y= .int k l) (l0:0<=l) (l1:l<=9223372036854775807) (l2:l*C<=281474976710656):
  (m+l.toNat<=r->(execOp a.eval o).run P w=((do
    if let O a:=J then storeCells (a.add (m*n)) (eg z l.toNat).toArray.toList
    pure (.slice J (m+l.toNat) r):Sem Value).run P w).andThen λv w=> .ok (.value v) w)/\
  (r<m+l.toNat->(m+l.toNat)*C<=140737488355328->m+l.toNat<=9223372036854775807->∀old:Array Value,(bB n m (.slice J m r)).run P w.drew= .ok old w.drew->
   ∃E,m+l.toNat<=E/\∃K:Value,cellsOf K=z/\(execOp a.eval o).run P w= .ok (.value (.slice (O ⟨w.heap.size,0,Y⟩) (m+l.toNat) E)) (w.drew.alloc (.cells (old++(eg z l.toNat).toArray++bD K.cells (E-(m+l.toNat))) d))):=by
 obtain⟨cst,A⟩:=gw (P:=P) (a:=a) ho hc w;obtain⟨i,hi,I⟩:=Option.map_eq_some_iff.1 hb;have b: ∀w:World,(typeInfo d).run P w= .ok i w:=λw=>by simp[typeInfo,hi]
 have e1:(#[Value.slice J m r,Value.int k l]:Array Value)[0]?=O (.slice J m r):=rfl;have e2:(#[Value.slice J m r,Value.int k l]:Array Value)[1]?=O (.int k l):=rfl;have e3:(#[st,S]:Array TypeId)[0]?=O st:=rfl;have e4:(#[st,S]:Array TypeId)[1]?=O S:=rfl;obtain⟨K,z1,z2,z3⟩:=rb hz;obtain⟨q,L⟩:=hxt;have w1:IntKind.i64.wrap l=l:=IntWalk.i64_in _ (by omega);have hzs:K.cells.size=n:=by rw[<-hzn,<-z2];simp[cellsOf]
 have hzl:K.cells.toList=z:=z2
 have u: ∀w:World,((if l.toNat*n=0 then pure #[]else do pure (bD (<-zeroValue d).cells l.toNat)):Sem (Array Value)).run P w= .ok (eg z l.toNat).toArray w:=by
  intro w;by_cases F:l.toNat*n=0
  .have V:l.toNat=0:=by
    rcases Nat.mul_eq_zero.1 F with h|h
    .exact h
    .omega
   have:(eg z l.toNat)=[]:=by rw[V];rfl
   rw[zE F,this];simp
  .rw[zF F]
   have W:bD K.cells l.toNat=(eg z l.toNat).toArray:=by
    unfold bD;rw[<-hzl,<-Oq _ _ (by omega)]
   simp only[aD,z1,cB,aB,W]
 refine⟨λM=> ?_,λH p hmax old Q=> ?_⟩
 .rw[A];simp only[builtin,gD,MY ha,MY ht,fD,eD,fB,hq,hl,e1,e2,e3,e4,aD,cy hu,cy L,aB,rl hn,cB,dB,if_false,asInt,asIntOf,w1,Bool.not_true,if_true];rw[Zh];simp only[aD,b,aB,I];rw[Zh];simp only[aD,cB,aB];rw[zE M];simp only[aD,u,aB];rfl
 .refine⟨grownCap w (m+l.toNat) r d,grownCap_ge _ _ _ _,K,z2, ?_⟩;have X:=growslice_fits H p;rw[A];simp only[builtin,gD,MY ha,MY ht,fD,eD,fB,hq,hl,e1,e2,e3,e4,aD,cy hu,cy L,aB,rl hn,cB,dB,if_false,asInt,asIntOf,w1,Bool.not_true,if_true];rw[Zh];simp only[aD,b,aB,I];rw[Zh];simp only[aD,cB,aB];rw[Zh];simp only[aD,b,aB,true_or,and_true]
  have U: ¬((m+l.toNat:Nat):Int) > IntKind.i64.max:=by
   have:IntKind.i64.max=9223372036854775807:=by decide
   omega
  rw[zF U];simp only[aD,b,aB,I];rw[Zh];simp only[aD,run_choose,Question.forced,dB,if_false,World.drew_eq,aB,b,run_askRoom,Q,u,z1,newRow,run_newObj,cB,World.alloc_eq];rfl
theorem VB {st H d:TypeId}{n r:Nat}{z:List Value}(S:o.op= .call c)(M:c.callee= .builtin .append)(K:c.args.toList=[x,y])(W:c.argTypes.toList=[st,H])(X:P.underlying st=O (.slice d))
  (C: ∃q,P.underlying H=O (.int q)) (Q:qF P d=O n) (L:SH P d=O r) (F:sS P d=O z) (h:z.length=n) (I:0<n)
  (hx:cm x=Za) (hy:cm y=Za) (m:(AOp.appendZ n r z x y).run e Z=O (v,Z')) (E:di μ N e a.tmps) (J:R B μ Z w):kr P o a w B μ v Z':=by
 have u:=E.ev hy;obtain⟨zz,z1,z2,z3⟩:=rb F;simp only[AOp.run]at m;split at m
 .rename_i p sl sc k l U V;split at m
  .rename_i b;rw[V]at u;have v1:=u.int_inv;refine Lv (d:=d) (arr:=(eg z l.toNat).toArray) h (by simpa using VR.plainCells (G4 z3 _)) (by simp[A6,h]) U hx m E J λA=> ?_
   exact QS S M K W X C Q L F h I A v1 b.1 b.2.1 b.2.2
  .cases m
 .cases m
end
end
section
open Builtin renaming firstCells -> aD
open Nat renaming le_refl -> aB, lt_of_lt_of_le -> bB
open Go.RowKit
section
variable {P:Program} {o:Oper} {a:Act} {w w':World} {B:Base P} {N:Nat} {μ:Mu} {e:cj} {Z Z':Hp} {v:Value}
theorem R.iter (h:R B μ Z w)(s:ByteArray):R B (μ.add Z.n ⟨w.heap.size,0,0,1,0,O (.string s)⟩) (Z.add ⟨[.int .i64 0],Za,1⟩) (w.iter s 0)/\μ.le (μ.add Z.n ⟨w.heap.size,0,0,1,0,O (.string s)⟩):=by
 have hf:μ Z.n=Y:=h.fresh _ (aB _);have z:μ.le (μ.add Z.n ⟨w.heap.size,0,0,1,0,O (.string s)⟩):=Mu.le_add hf
 have old: ∀b x,b≠Z.n->(Z.add ⟨[.int .i64 0],Za,1⟩).m b=O x->Z.m b=O x:=by
  intro b x q l;simpa[Hp.add,q]using l
 have S: ∀x,(Z.add ⟨[.int .i64 0],Za,1⟩).m Z.n=O x->x=⟨[.int .i64 0],Za,1⟩:=by
  intro x l;simp[Hp.add]at l;exact l.symm
 have p: ∀b x g,Z.m b=O x->μ b=O g->g.c<w.heap.size:=λb x g l u=>(h.get l u).lt
 have I:(w.iter s 0).heap.size=w.heap.size+1:=by simp[World.iter]
 refine⟨⟨by rw[I];exact Nat.le_succ_of_le h.base,λk Q=>(Below.heap_alloc w _ _ (bB Q h.base)).trans (h.old k Q),λb q=> ?_,λb x l=> ?_,λb J x V g K l A L ho u C=> ?_, ?_,h.dfr_alloc _⟩,z⟩
 .have:Z.n+1<=b:=q;unfold Mu.add;rw[Zh];exact h.fresh b (by omega)
 .by_cases q:b=Z.n
  .subst q;obtain rfl:=S x l
   exact⟨⟨w.heap.size,0,0,1,0,O (.string s)⟩,by simp[Mu.add],⟨by rw[I];exact Nat.lt_succ_self _,rfl,λF=>(by cases F),λF=>(by cases F),λs' d=>by
    injection d with d
    injection d with d
    subst d
    exact⟨h.base,0,rfl,World.iter_heap w s 0⟩,λd=>(by injection d with d;cases d),λ_ d=>(by injection d with d;cases d),λd=>by injection d with d;cases d⟩⟩
  .have A:=old b x q l;obtain⟨g,H,E⟩:=h.live b x A;exact⟨g,z _ _ H,(E.mono z).kept (by rw[I];exact Nat.le_succ _) (Below.heap_alloc w _ _ E.lt) (λU k Q=>Below.heap_alloc w _ _ (h.buf A H U Q).2.1)⟩
 .by_cases q:b=Z.n
  .subst q;have r:J≠Z.n:=λe=>L e.symm
   have:g.c=w.heap.size:=by simp[Mu.add]at u;rw[<-u]
   have E:μ J=O K:=by simpa[Mu.add,r]using C
   have:=p J V K (old _ _ r A) E;omega
  .have H:μ b=O g:=by simpa[Mu.add,q]using u
   have M:=old b x q l;by_cases r:J=Z.n
   .subst r;have:K.c=w.heap.size:=by simp[Mu.add]at C;rw[<-C]
    have:=p b x g M H;omega
   .have E:μ J=O K:=by simpa[Mu.add,r]using C
    exact h.inj b J x V g K M (old _ _ r A) L ho H E
 .refine h.sep.of (λb x g l u=> ?_) (λb x g l u U _=> ?_)
  .by_cases q:b=Z.n
   .subst q;have W:g=⟨w.heap.size,0,0,1,0,O (.string s)⟩:=by simp[Mu.add]at u;exact u.symm
    subst W;exact .inr ⟨λF=>(by injection F with F;cases F),λb1 x1 g1 k H E X h4 e=>by have:=(h.buf H E X h4).2.1;simp only at e;omega⟩
   .exact .inl ⟨x,old b x q l,by simpa[Mu.add,q]using u⟩
  .unfold nz;rw[show(w.iter s 0).heap[g.c]?=w.heap[g.c]? from Below.heap_alloc w _ _ (p b x g l u)]
theorem R.newB (h:R B μ Z w){t:TypeId}(ht:WK P t=Za):R B (μ.add Z.n ⟨w.heap.size,0,0,1,t,O .nilFunc⟩) (Z.add ⟨[.string ByteArray.empty],Za,1⟩) (w.alloc (.cells #[.pointer Y, .slice Y 0 0] t))/\μ.le (μ.add Z.n ⟨w.heap.size,0,0,1,t,O .nilFunc⟩):=by
 have hf:μ Z.n=Y:=h.fresh _ (aB _);have C:μ.le (μ.add Z.n ⟨w.heap.size,0,0,1,t,O .nilFunc⟩):=Mu.le_add hf
 have old: ∀b x,b≠Z.n->(Z.add ⟨[.string ByteArray.empty],Za,1⟩).m b=O x->Z.m b=O x:=by
  intro b x p u;simpa[Hp.add,p]using u
 have new: ∀x,(Z.add ⟨[.string ByteArray.empty],Za,1⟩).m Z.n=O x->x=⟨[.string ByteArray.empty],Za,1⟩:=by
  intro x u;simp[Hp.add]at u;exact u.symm
 have l: ∀b x g,Z.m b=O x->μ b=O g->g.c<w.heap.size:=λb x g u J=>(h.get u J).lt
 have L:(w.alloc (.cells #[.pointer Y, .slice Y 0 0] t)).heap[w.heap.size]?=O (.cells #[.pointer Y, .slice Y 0 0] t (0,0)):=heap_alloc_new w _
 have Q:nz (w.alloc (.cells #[.pointer Y, .slice Y 0 0] t)) w.heap.size=Y:=by
  unfold nz;rw[L];rfl
 refine⟨⟨Nat.le_trans h.base (by simp),λb p=>(Below.heap_alloc w _ _ (bB p h.base)).trans (h.old b p),λb p=> ?_,λb x u=> ?_,λb A x M g F u r K ho J q=> ?_,λb x g u J X k S A M F r q=> ?_,h.dfr_alloc _⟩,C⟩
 .have:Z.n+1<=b:=p;unfold Mu.add;rw[Zh];exact h.fresh b (by omega)
 .by_cases p:b=Z.n
  .subst p;obtain rfl:=new x u
   exact⟨⟨w.heap.size,0,0,1,t,O .nilFunc⟩,by simp[Mu.add],⟨by simp,rfl,λh0=>(by cases h0),λh0=>(by cases h0),λs' E=>(by injection E with E;cases E),λ_=>
    ⟨ht, .pointer Y,ByteArray.empty, .inl rfl,rfl,h.base, .slice Y 0 0,L,World.ownsRowF_nil _ _ _ _,by simp[Value.ownBlock]⟩,λ_ E=>(by injection E with E;cases E),λE=>by injection E with E;cases E⟩⟩
  .have r:=old b x p u;obtain⟨g,H,I⟩:=h.live b x r;exact⟨g,C _ _ H,(I.mono C).kept (by simp) (Below.heap_alloc w _ _ I.lt) (λX k S=>Below.heap_alloc w _ _ (h.buf r H X S).2.1)⟩
 .by_cases p:b=Z.n
  .subst p;have d:A≠Z.n:=λe=>K e.symm
   have:g.c=w.heap.size:=by simp[Mu.add]at J;rw[<-J]
   have I:μ A=O F:=by simpa[Mu.add,d]using q
   have:=l A M F (old _ _ d r) I;omega
  .have H:μ b=O g:=by simpa[Mu.add,p]using J
   have z:=old b x p u;by_cases d:A=Z.n
   .subst d;have:F.c=w.heap.size:=by simp[Mu.add]at q;rw[<-q]
    have:=l b x g z H;omega
   .have I:μ A=O F:=by simpa[Mu.add,d]using q
    exact h.inj b A x M g F z (old _ _ d r) K ho H I
 .by_cases p:b=Z.n
  .subst p;have e1:g.c=w.heap.size:=by simp[Mu.add]at J;rw[<-J]
   rw[e1,Q]at S;cases S
  .have H:μ b=O g:=by simpa[Mu.add,p]using J
   have z:=old b x p u
   have V:nz w g.c=O k:=by
    rw[<-S];unfold nz;rw[Below.heap_alloc w _ _ (l b x g z H)]
   have hklt:=(h.buf z H X V).2.1;by_cases d:A=Z.n
   .subst d;have e1:F.c=w.heap.size:=by simp[Mu.add]at q;rw[<-q]
    refine⟨by omega,λ_ _ U=> ?_⟩;rw[e1,Q]at U;cases U
   .have I:μ A=O F:=by simpa[Mu.add,d]using q
    have W:=old A M d r;obtain⟨m1,m2⟩:=h.sep b x g z H X k V A M F W I;refine⟨m1,λK hi'=> ?_⟩;have:=m2 K hi';unfold nz at this⊢;rw[Below.heap_alloc w _ _ (l A M F W I)];exact this
theorem aB9 {t:TypeId}(m:o.op= .alloc t)(n:WK P t=Za)(p:sS P t=O [.pointer Y, .slice Y 0 0])(d:AOp.newB.run e Z=O (v,Z'))(b:R B μ Z w):kr P o a w B μ v Z':=by
 obtain⟨u,h,k,z⟩:=rb p;simp only[AOp.run,Option.some.injEq,Prod.mk.injEq]at d;obtain⟨rfl,rfl⟩:=d;obtain⟨q,r⟩:=b.newB n;have l:u.cells= #[.pointer Y, .slice Y 0 0]:=Array.toList_inj.1 k;refine⟨_,_,_, .pointer (O ⟨w.heap.size,0,Y⟩), ?_, .inl rfl,r,q, ?_,(Below.refl _ _).alloc b.base _⟩
 .simp[execOp,m,Instr.alloc,h,newVar,newRow,l]
 .exact .iter (g:=⟨w.heap.size,0,0,1,t,O .nilFunc⟩) (by simp[Mu.add]) rfl
theorem R.step (h:R B μ Z w){b:Nat}{x:Blk}(U:Z.m b=O x)(ho:x.own=Za)(Q:μ b=O g)(A:g.it=O (.string s))(q:Nat):
  R B μ (Z.set b (O ⟨[.int .i64 (q:Int)],Za,x.es⟩)) (w.iterAt g.c s q):=by
 have hl:=h.get U Q;obtain⟨o1,p,o3,o4⟩:=hl.iter s A;have u: ∀k,k≠g.c->(w.iterAt g.c s q).heap[k]?=w.heap[k]?:=λk H=>Lib.iterAt_other w _ k s q H
 have K:(w.iterAt g.c s q).heap.size=w.heap.size:=Lib.iterAt_size w _ s q
 have old: ∀r n,r≠b->(Z.set b (O ⟨[.int .i64 (q:Int)],Za,x.es⟩)).m r=O n->Z.m r=O n:=by
  intro r n F l;simpa[Hp.set,F]using l
 have X: ∀n,(Z.set b (O ⟨[.int .i64 (q:Int)],Za,x.es⟩)).m b=O n->n=⟨[.int .i64 (q:Int)],Za,x.es⟩:=by
  intro n l;simp[Hp.set]at l;exact l.symm
 refine⟨by rw[K];exact h.base,λk H=>(u k (by omega)).trans (h.old k H),h.fresh,λr n l=> ?_,λb1 b2 x1 x2 g1 g2 M h2 J W hg1 hg2=> ?_, ?_,h.dfr_but (c:=g.c) (λd=>by rw[o4];simp) λk H _=>u k H⟩
 .by_cases F:r=b
  .subst F;obtain rfl:=X n l
   exact⟨g,Q,⟨by rw[K];exact hl.lt,hl.es,λV=>(by rw[A]at V;cases V),λV=>(by rw[A]at V;cases V),λs' z=>by
    rw[A]at z;injection z with z
    injection z with z
    subst z
    exact⟨o1,q,rfl,Lib.iterAt_heap w _ s p q o4⟩,λz=>(by rw[A]at z;injection z with z;cases z),λ_ z=>(by rw[A]at z;injection z with z;cases z),λz=>by rw[A]at z;injection z with z;cases z⟩⟩
  .have I:=old r n F l;obtain⟨L,M,h2⟩:=h.live r n I;exact⟨L,M,h.stays I M (by rw[K];exact aB _) g.c (λk H _=>u k H) (λe=>h.inj b r x n g L U I (λe=>F e.symm) ho Q M e.symm) (λS H=>((h.sep r n L I M S _ H b x g U Q).1 rfl))⟩
 .have E: ∀r n,(Z.set b (O ⟨[.int .i64 (q:Int)],Za,x.es⟩)).m r=O n->∃y,Z.m r=O y/\y.own=n.own:=by
   intro r n l;by_cases F:r=b
   .subst F;obtain rfl:=X n l;exact⟨x,U,ho⟩
   .exact⟨n,old r n F l,rfl⟩
  obtain⟨y1,hy1,e1⟩:=E _ _ M;obtain⟨y2,hy2,_⟩:=E _ _ h2;exact h.inj b1 b2 y1 y2 g1 g2 hy1 hy2 J (e1.trans W) hg1 hg2
 .have oldl: ∀r n,(Z.set b (O ⟨[.int .i64 (q:Int)],Za,x.es⟩)).m r=O n->∃y,Z.m r=O y:=by
   intro r n l;by_cases F:r=b
   .subst F;exact⟨x,U⟩
   .exact⟨n,old r n F l⟩
  refine h.sep.of (λr n L l C=> .inl (let⟨y,hy⟩:=oldl r n l;⟨y,hy,C⟩)) (λr n L l C S _=> ?_);have J:r≠b:=λe=>by subst e;rw[Q]at C;injection C with C;subst C;rw[A]at S;injection S with S;cases S
  unfold nz;rw[u _ (λe=>h.inj b r x n g L U l (λe=>J e.symm) ho Q C e.symm)]
theorem aj7 {t:TypeId}(n:o.op= .range t x)(q:P.underlying t=O .string)(r:cm x=Za)(b:(AOp.range x).run e Z=O (v,Z'))(m:di μ N e a.tmps)(d:R B μ Z w):kr P o a w B μ v Z':=by
 have h:=m.ev r;simp only[AOp.run]at b;split at b
 .rename_i s p;simp only[Option.some.injEq,Prod.mk.injEq]at b;obtain⟨rfl,rfl⟩:=b;rw[p]at h;obtain⟨k,l⟩:=d.iter s;refine⟨_,_,_, .pointer (O ⟨w.heap.size,0,Y⟩), ?_, .inl rfl,l,k, ?_,(Below.refl _ _).alloc d.base _⟩
  .have:=run_range_string (P:=P) w t s q;simp[execOp,n,h.string_inv,this]
  .exact .iter (g:=⟨w.heap.size,0,0,1,0,O (.string s)⟩) (by simp[Mu.add]) rfl
 .cases b
theorem aC0 (E:o.op= .next x Za)(S:cm x=Za)(d:(AOp.next x).run e Z=O (v,Z'))(K:di μ N e a.tmps)(z:R B μ Z w):kr P o a w B μ v Z':=by
 have h:=K.ev S;simp only[AOp.run]at d;split at d
 .rename_i b s Q;rw[Q]at h
  obtain⟨g,C,m,F⟩: ∃g,μ b=O g/\g.it=O (.string s)/\a.eval x= .pointer (O ⟨g.c,0,Y⟩):=by
   generalize a.eval x=u at h;cases h with
   |iter U V=>exact⟨_,U,V,rfl⟩
  split at d
  .rename_i I k;split at d
   .rename_i n;split at d
    .rename_i p r M;have L:=z.get k C;obtain⟨W,q,A,H⟩:=L.iter s m;rw[M]at A;simp at A;obtain⟨rfl,rfl⟩:=A;split at d
     .rw[Int.toNat_natCast]at d;split at d
      .rename_i l;simp only[Option.some.injEq,Prod.mk.injEq]at d;obtain⟨rfl,rfl⟩:=d;have J:=z.step k n C m (q+(Utf8.decode s q).2);refine⟨_,_,μ, .tuple #[.bool Za, .int .i64 q, .int .i32 (Utf8.decode s q).1], ?_, .inl rfl,μ.le_refl,J, .tuple (.cons (.bool _) (.cons (.int _ _) (.cons (.int _ _) .nil))),Lib.below_iterAt (Below.refl _ _) W s _⟩;have:=Lib.run_next_any_at (P:=P) w g.c s q o.type H l;simp[execOp,E,F,this]
      .rename_i l;simp only[Option.some.injEq,Prod.mk.injEq]at d;obtain⟨rfl,rfl⟩:=d;have:=Lib.run_next_end_at (P:=P) w g.c s q o.type H l;exact .same z (by simp[execOp,E,F,this]) (.tuple (.cons (.bool _) .nil))
     .cases d
    .cases d
   .cases d
  .cases d
 .cases d
theorem aB2 {s d:TypeId}{A:IntKind}(q:o.op= .convert s d x)(r:P.underlying s=O (.int A))(m:P.underlying d=O .string)(z:cm x=Za)(b:(AOp.encR x).run e Z=O (v,Z'))(p:di μ N e a.tmps)(l:R B μ Z w):kr P o a w B μ v Z':=by
 simp only[AOp.run]at b;obtain⟨n,k,b⟩:=Option.map_eq_some_iff.1 b;simp only[Prod.mk.injEq]at b;obtain⟨rfl,rfl⟩:=b;have h:=p.ev z;generalize e.ev x=u at*;cases u<;>simp[af3]at k;subst k;have:=h.int_inv;exact .same l (by simp[execOp,q,this,convert,cy r,cy m,Conv.intToString]) (.string _)
theorem Lf {μ:Mu}: ∀{cs b:List Value} {l:Zd},F2 (VR μ) cs b->Db cs=O l->b=l.map (Value.int .u8)
 |[],_,l,h,d=>by
  cases h;simp[Db]at d;subst d;rfl
 |c::cs,_,l,h,d=>by
  cases h with
  |cons q u=>
   rename_i C b;unfold Db at d;split at d
   .rename_i k;cases k
   .rename_i n r k;injection k with m p
    subst m;subst p;obtain⟨E,z,A⟩:=Option.map_eq_some_iff.1 d;subst A;rw[Lf u z,q.int_inv];rfl
   .cases d
theorem S4 (w:World)(a:Addr)(n:Nat){k:Nat}(b:k≠a.block):(w.freeze a n).heap[k]?=w.heap[k]?:=by
 unfold World.freeze;split
 .rfl
 .simp only[Array.getElem?_modify];rw[zF (λe=>b e.symm)]
theorem AZ (w:World)(a:Addr)(n:Nat):(w.freeze a n).heap.size=w.heap.size:=by
 unfold World.freeze;split
 .rfl
 .simp
theorem R.marked (h:R B μ Z w){b:Nat}{x:Blk}(U:Z.m b=O x)(ho:x.own=Za)(M:μ b=O g)(z:g.it=Y){n:Array Value}{t:TypeId}{X:Nat×Nat}(W:w.heap[g.c]?=O (.cells n t X)):
  R B μ Z (w.freeze ⟨g.c,n.size,Y⟩ 1)/\Below B w (w.freeze ⟨g.c,n.size,Y⟩ 1):=by
 have V:=h.get U M;obtain⟨o1,o2,cur',e',fr',J,o5,o6⟩:=V.own z ho;rw[W]at J;simp only[Option.some.injEq,Obj.cells.injEq]at J;obtain⟨rfl,rfl,rfl⟩:=J;have l: ∀k,k≠g.c->(w.freeze ⟨g.c,n.size,Y⟩ 1).heap[k]?=w.heap[k]?:=λk C=>S4 w _ _ C
 have I: ∃q:Nat×Nat,(w.freeze ⟨g.c,n.size,Y⟩ 1).heap[g.c]?=O (.cells n t q)/\(n.size<=q.1∨q.1=q.2):=by
  obtain⟨lo,F⟩:=X;refine⟨if lo==F then(n.size,n.size+1)else(min lo n.size,max F (n.size+1)), ?_, ?_⟩
  .simp[World.freeze,Array.getElem?_modify,W]
  .left;simp only at o6;by_cases Q:lo=F
   .simp[Q]
   .simp[Q];omega
 obtain⟨q,S,hs2⟩:=I;refine⟨⟨by rw[AZ];exact h.base,λk C=>(l k (by omega)).trans (h.old k C),h.fresh,λE K p=> ?_,h.inj, ?_,h.dfr_but (c:=g.c) (λd=>by rw[W];simp) λk C _=>l k C⟩,⟨?_, ?_, ?_,by rw[AZ];exact aB _,λk C=>l k (by omega)⟩⟩
 .by_cases hb:E=b
  .subst hb;rw[U]at p;injection p with p
   subst p;refine⟨g,M,⟨by rw[AZ];exact V.lt,V.es,λ_ j u hu=> ?_,λ_ _=>⟨o1,o2,n,t,q,S,o5,hs2⟩,λs A=>(by rw[z]at A;cases A),λA=>(by rw[z]at A;cases A),λ_ A=>(by rw[z]at A;cases A),λA=>by rw[z]at A;cases A⟩⟩;obtain⟨u',H,h2⟩:=V.cell z j u hu;refine⟨u', ?_,h2⟩;rw[cell_of_row _ _ _ _ t X W]at H;rw[cell_of_row _ _ _ _ t q S];exact H
  .obtain⟨L,H,h2⟩:=h.live E K p;exact⟨L,H,h.stays p H (by rw[AZ];exact aB _) g.c (λk C _=>l k C) (λe=>h.inj b E x K g L U p (λe=>hb e.symm) ho M H e.symm) (λF C=>((h.sep E K L p H F _ C b x g U M).1 rfl))⟩
 .refine h.sep.of (λE K L p r=> .inl ⟨K,p,r⟩) (λE K L p r F _=> ?_);have hne:E≠b:=λe=>by subst e;rw[M]at r;injection r with r;subst r;rw[z]at F;cases F
  unfold nz;rw[l _ (λe=>h.inj b E x K g L U p (λe=>hne e.symm) ho M r e.symm)]
 .unfold World.freeze;split<;>rfl
 .unfold World.freeze;split<;>rfl
 .unfold World.freeze;split<;>rfl
theorem aB7 {s t:TypeId}(I:o.op= .convert s s x)(L:P.underlying s=O (.slice t))(M:P.underlying t=O (.int .u8))(Q:cm x=Za)(d:(AOp.mark x).run e Z=O (v,Z'))(H:di μ N e a.tmps)(q:R B μ Z w):kr P o a w B μ v Z':=by
 have h:=H.ev Q;simp only[AOp.run]at d;split at d
 .rename_i b A n c J;rw[J]at h;split at d
  .rename_i h0;split at d
   .rename_i C r;split at d
    .rename_i k;simp only[Option.some.injEq,Prod.mk.injEq]at d;obtain⟨rfl,rfl⟩:=d;generalize K:a.eval x=u at h;cases h with
     |slice l S U V=>
      rename_i E g;obtain⟨o1,o2,m,e',fr,z,o5,o6⟩:=(q.get r l.1).own l.2 k;obtain⟨W,X⟩:=q.marked r k l.1 l.2 z;refine⟨_,_,μ, .slice (O ⟨g.c,g.o+A,Y⟩) n E, ?_, .inl rfl,μ.le_refl,W, .slice l S U V,X⟩;have p:w.shape? g.c=O (e',m.size):=by simp[World.shape?,z]
      have F:(markStringish ⟨g.c,g.o+A,Y⟩).run P w= .ok () (w.freeze ⟨g.c,m.size,Y⟩ 1):=by
       unfold markStringish shape;simp only[Sem.run_bind];rw[show(Sem.shape g.c Sem.pure).run P w= .ok (w.shape? g.c) w from rfl,p];rfl
      simp[execOp,I,K,convert,cy L,cy M,F]
     |slice0 A' l=>omega
    .cases d
   .cases d
  .cases d
 .cases d
theorem ak0 {s d t:TypeId}(M:o.op= .convert s d x)(Q:P.underlying s=O (.slice t))(S:P.underlying t=O (.int .u8))(L:P.underlying d=O .string)(hx:cm x=Za)(r:(AOp.strOf x).run e Z=O (v,Z'))(X:di μ N e a.tmps)(C:R B μ Z w):kr P o a w B μ v Z':=by
 have h:=X.ev hx;simp only[AOp.run]at r;split at r
 .rename_i p n c hp;rw[hp]at h;split at r
  .rename_i cs H;obtain⟨l,hl,r⟩:=Option.map_eq_some_iff.1 r;simp only[Prod.mk.injEq]at r;obtain⟨rfl,rfl⟩:=r;obtain⟨U,V,W⟩:=yR (P:=P) (es:=1) (n:=n) (ln:=n) rfl (aB _) H C h;have K:=Lf W hl;have b:=V w rfl
   have k: ∀(q:Option Addr) (E:Nat),a.eval x= .slice q n E->(n=0∨∃z,q=O z)->(execOp a.eval o).run P w= .ok (.value (.string (GY l))) w:=by
    intro q E m F;rw[m]at b;cases q with
    |none=>
     rcases F with F|⟨z,F⟩
     .subst F;simp[aD]at b;subst b;have I:l=[]:=by simpa using K.symm
      subst I;simp[execOp,M,m,run_convert_bytes_string w s d t Y 0 E Q S L,Conv.bytesToString,GY]
     .cases F
    |some z=>
     have A:(loadCells z n).run P w= .ok (l.map (Value.int .u8)).toArray w:=by
      simp only[aD,Nat.mul_one]at b;rw[b,<-K]
     simp[execOp,M,m,run_convert_bytes_string w s d t (O z) n E Q S L,run_bytesToString w z n E l A,GY]
   generalize m:a.eval x=u at h;cases h with
   |nils=>exact .same C (k Y 0 m (.inl rfl)) (.string _)
   |slice J k2 k3 k4=>exact .same C (k _ _ m (.inr ⟨_,rfl⟩)) (.string _)
   |slice0 A' J=>exact .same C (k _ _ m (.inl rfl)) (.string _)
   |sliceX J k2=>exact .same C (k _ _ m (.inr ⟨_,rfl⟩)) (.string _)
   |sliceX0 A' J=>exact .same C (k _ _ m (.inl rfl)) (.string _)
  .cases r
 .cases r
theorem Ly {μ:Mu}: ∀{cs b:List Value} {l:Zd},F2 (VR μ) cs b->Dh cs=O l->b=l.map (Value.int .i32)
 |[],_,l,h,d=>by
  cases h;simp[Dh]at d;subst d;rfl
 |c::cs,_,l,h,d=>by
  cases h with
  |cons q u=>
   rename_i C b;unfold Dh at d;split at d
   .rename_i k;cases k
   .rename_i n r k;injection k with m p
    subst m;subst p;obtain⟨E,z,A⟩:=Option.map_eq_some_iff.1 d;subst A;rw[Ly u z,q.int_inv];rfl
   .cases d
theorem Yw {s d t:TypeId}(M:o.op= .convert s d x)(Q:P.underlying s=O (.slice t))(S:P.underlying t=O (.int .i32))(L:P.underlying d=O .string)(hx:cm x=Za)(r:(AOp.strOfR x).run e Z=O (v,Z'))(X:di μ N e a.tmps)(C:R B μ Z w):kr P o a w B μ v Z':=by
 have h:=X.ev hx;simp only[AOp.run]at r;split at r
 .rename_i p n c hp;rw[hp]at h;split at r
  .rename_i cs H;obtain⟨l,hl,r⟩:=Option.map_eq_some_iff.1 r;simp only[Prod.mk.injEq]at r;obtain⟨rfl,rfl⟩:=r;obtain⟨U,V,W⟩:=yR (P:=P) (es:=1) (n:=n) (ln:=n) rfl (aB _) H C h;have K:=Ly W hl;have b:=V w rfl
   have k: ∀(q:Option Addr) (E:Nat),a.eval x= .slice q n E->(n=0∨∃z,q=O z)->(execOp a.eval o).run P w= .ok (.value (.string (V0 l))) w:=by
    intro q E m F;rw[m]at b;cases q with
    |none=>
     rcases F with F|⟨z,F⟩
     .subst F;simp[aD]at b;subst b;have I:l=[]:=by simpa using K.symm
      subst I;simp[execOp,M,m,run_convert_runes_string w s d t Y 0 E Q S L,Conv.runesToString,V0]
     .cases F
    |some z=>
     have A:(loadCells z n).run P w= .ok (l.map (Value.int .i32)).toArray w:=by
      simp only[aD,Nat.mul_one]at b;rw[b,<-K]
     simp[execOp,M,m,run_convert_runes_string w s d t (O z) n E Q S L,run_runesToString w z n E l A,V0,runesBytes]
   generalize m:a.eval x=u at h;cases h with
   |nils=>exact .same C (k Y 0 m (.inl rfl)) (.string _)
   |slice J k2 k3 k4=>exact .same C (k _ _ m (.inr ⟨_,rfl⟩)) (.string _)
   |slice0 A' J=>exact .same C (k _ _ m (.inl rfl)) (.string _)
   |sliceX J k2=>exact .same C (k _ _ m (.inr ⟨_,rfl⟩)) (.string _)
   |sliceX0 A' J=>exact .same C (k _ _ m (.inl rfl)) (.string _)
  .cases r
 .cases r
theorem VD {s d t:TypeId}(K:o.op= .convert s d x)(L:P.underlying s=O .string)(H:P.underlying d=O (.slice t))(Q:P.underlying t=O (.int .i32))(U:cm x=Za)(p:(AOp.runesOf x).run e Z=O (v,Z'))(I:di μ N e a.tmps)(E:R B μ Z w):kr P o a w B μ v Z':=by
 have h:=I.ev U;simp only[AOp.run]at p;split at p
 .rename_i z V;rw[V]at h;split at p
  .rename_i M;simp only[Option.some.injEq,Prod.mk.injEq]at p;obtain⟨rfl,rfl⟩:=p;have S:=h.string_inv
   have J:(Conv.runesFrom z z.size 0 #[]).size<=70368744177664:=by
    have:=size_runesFrom z z.size 0 #[];simp at this;omega
   have A:=run_runes_of_string (P:=P) w s d t z L H Q J
   have q: ∀(s:ByteArray) (b i:Nat) (l:Array Value),(∀u∈l.toList,∃n,u=Value.int .i32 n)->∀u∈(Conv.runesFrom s b i l).toList,∃n,u=Value.int .i32 n:=by
    intro s b;induction b with
    |zero=>intro i l h u k;exact h u k
    |succ b W=>
     intro i l h u k;unfold Conv.runesFrom at k;split at k
     .refine W _ _ (λy hy=> ?_) u k;rw[Array.toList_push,List.mem_append]at hy;rcases hy with hy|hy
      .exact h y hy
      .rw[List.mem_singleton]at hy;exact⟨_,hy⟩
     .exact h u k
   have F:F2 (VR μ) (qE z) (qE z):=F2.same _ λu k=>by
    obtain⟨n,rfl⟩:=q z z.size 0 #[] (λu k=>by simp at k) u k;exact .int _ _
   have C:=grownCap_ge w (Conv.runesFrom z z.size 0 #[]).size 0 t;have m:R B μ Z w.drew:=E.same rfl
   obtain⟨X,m2⟩:=m.add (Conv.runesFrom z z.size 0 #[]++Array.replicate (grownCap w (Conv.runesFrom z z.size 0 #[]).size 0 t-(Conv.runesFrom z z.size 0 #[]).size) (.int .i32 0)) t (qE z) 1 (by
    unfold qE;rw[Array.size_append,Array.length_toList]
    omega) (by
    unfold qE;rw[Array.toList_append,List.take_left]
    exact F)
   have r:(qE z).length=(Conv.runesFrom z z.size 0 #[]).size:=by unfold qE;simp
   refine⟨_,_,_, .slice (O ⟨w.heap.size,0,Y⟩) (Conv.runesFrom z z.size 0 #[]).size (grownCap w (Conv.runesFrom z z.size 0 #[]).size 0 t), ?_, .inl rfl,m2,X, ?_,((Below.refl _ _).drew).alloc E.base _⟩
   .simp[execOp,K,S,A]
   .rw[r]
    exact .slice (o:=0) (g:=⟨w.drew.heap.size,0,_,1,t,Y⟩) ⟨by unfold Mu.add;exact zE rfl,rfl⟩ (aB _) C (by
     simp only[Array.size_append,Array.size_replicate]
     omega)
  .cases p
 .cases p
end
end
section
open List renaming replicate -> aB, map_cons -> aD, find?_cons -> cB, getElem?_map -> cD, getElem?_eq_getElem -> dB, mem_cons_of_mem -> dD, mem_cons_self -> eD
open Nat renaming le_refl -> bB
open Option renaming map_some -> fB
open Result renaming andThen -> bD
open Go.RowKit
section
variable {P:Program} {o:Oper} {a:Act} {w w':World} {B:Base P} {N:Nat} {μ:Mu} {e:cj} {Z Z':Hp} {v:Value}
theorem R.newM (h:R B μ Z w)(k:IntKind):R B (μ.add Z.n ⟨w.heap.size,0,0,1,0,O (.int k 0)⟩) (Z.add ⟨[.string ByteArray.empty],Za,1⟩) (w.alloc (.map #[] 0))/\μ.le (μ.add Z.n ⟨w.heap.size,0,0,1,0,O (.int k 0)⟩):=by
 have hf:μ Z.n=Y:=h.fresh _ (bB _);have z:μ.le (μ.add Z.n ⟨w.heap.size,0,0,1,0,O (.int k 0)⟩):=Mu.le_add hf
 have old: ∀b x,b≠Z.n->(Z.add ⟨[.string ByteArray.empty],Za,1⟩).m b=O x->Z.m b=O x:=by
  intro b x p d;simpa[Hp.add,p]using d
 have U: ∀x,(Z.add ⟨[.string ByteArray.empty],Za,1⟩).m Z.n=O x->x=⟨[.string ByteArray.empty],Za,1⟩:=by
  intro x d;simp[Hp.add]at d;exact d.symm
 have l: ∀b x g,Z.m b=O x->μ b=O g->g.c<w.heap.size:=λb x g d u=>(h.get d u).lt
 have K:(w.alloc (.map #[] 0)).heap.size=w.heap.size+1:=by simp
 refine⟨⟨by rw[K];exact Nat.le_succ_of_le h.base,λk H=>(Below.heap_alloc w _ _ (Nat.lt_of_lt_of_le H h.base)).trans (h.old k H),λb p=> ?_,λb x d=> ?_,λb L x W g M d C Q ho u E=> ?_, ?_,h.dfr_alloc _⟩,z⟩
 .have:Z.n+1<=b:=p;unfold Mu.add;rw[Zh];exact h.fresh b (by omega)
 .by_cases p:b=Z.n
  .subst p;obtain rfl:=U x d
   exact⟨⟨w.heap.size,0,0,1,0,O (.int k 0)⟩,by simp[Mu.add],⟨by rw[K];exact Nat.lt_succ_self _,rfl,λI=>(by cases I),λI=>(by cases I),λs' A=>(by injection A with A;cases A),λA=>(by injection A with A;cases A),λk' H=>(by
    injection H with H
    injection H with H
    subst H
    exact⟨h.base, #[],0,ByteArray.empty,rfl,heap_alloc_new w _,[],rfl,rfl⟩),λA=>by injection A with A;cases A⟩⟩
  .have C:=old b x p d;obtain⟨g,J,F⟩:=h.live b x C;exact⟨g,z _ _ J,(F.mono z).kept (by rw[K];exact Nat.le_succ _) (Below.heap_alloc w _ _ F.lt) (λV q hq=>Below.heap_alloc w _ _ (h.buf C J V hq).2.1)⟩
 .by_cases p:b=Z.n
  .subst p;have r:L≠Z.n:=λe=>Q e.symm
   have:g.c=w.heap.size:=by simp[Mu.add]at u;rw[<-u]
   have F:μ L=O M:=by simpa[Mu.add,r]using E
   have:=l L W M (old _ _ r C) F;omega
  .have J:μ b=O g:=by simpa[Mu.add,p]using u
   have S:=old b x p d;by_cases r:L=Z.n
   .subst r;have:M.c=w.heap.size:=by simp[Mu.add]at E;rw[<-E]
    have:=l b x g S J;omega
   .have F:μ L=O M:=by simpa[Mu.add,r]using E
    exact h.inj b L x W g M S (old _ _ r C) Q ho J F
 .refine h.sep.of (λb x g d u=> ?_) (λb x g d u V _=> ?_)
  .by_cases p:b=Z.n
   .subst p;have X:g=⟨w.heap.size,0,0,1,0,O (.int k 0)⟩:=by simp[Mu.add]at u;exact u.symm
    subst X;exact .inr ⟨λI=>(by injection I with I;cases I),λb1 x1 g1 q J F h3 h4 e=>by have:=(h.buf J F h3 h4).2.1;simp only at e;omega⟩
   .exact .inl ⟨x,old b x p d,by simpa[Mu.add,p]using u⟩
  .unfold nz;rw[show(w.alloc (.map #[] 0)).heap[g.c]?=w.heap[g.c]? from Below.heap_alloc w _ _ (l b x g d u)]
def Jy (w:World)(r:Nat)(o:Obj):World:={w with heap:=w.heap.setIfInBounds r o}
theorem GF (w:World)(r k:Nat)(o:Obj)(h:k≠r):(Jy w r o).heap[k]?=w.heap[k]?:=by
 simp only[Jy];rw[Array.getElem?_setIfInBounds_ne (λe=>h e.symm)]
theorem Iz (w:World)(r:Nat)(o:Obj):(Jy w r o).heap.size=w.heap.size:=by simp[Jy]
theorem Vy (w:World)(r:Nat)(o x:Obj)(h:w.heap[r]?=O x):(Jy w r o).heap[r]?=O o:=by
 have b:r<w.heap.size:=by
  rcases Nat.lt_or_ge r w.heap.size with h1|h1
  .exact h1
  .rw[Array.getElem?_eq_none h1]at h;cases h
 simp only[Jy];rw[Array.getElem?_setIfInBounds_self_of_lt b]
theorem R.setM (h:R B μ Z w){b:Nat}{x:Blk}(V:Z.m b=O x)(ho:x.own=Za)(S:μ b=O g)(r:g.it=O (.int kd 0)){E:Array MapEntry}{J:ByteArray}(H:Nat)(hm:FZ kd E J):
  R B μ (Z.set b (O ⟨[.string J],Za,x.es⟩)) (Jy w g.c (.map E H)):=by
 have hl:=h.get V S;obtain⟨o1,es,cl,s,o3,o4,o5⟩:=hl.mp kd r;have q: ∀k,k≠g.c->(Jy w g.c (.map E H)).heap[k]?=w.heap[k]?:=λk u=>GF w _ k _ u
 have L:(Jy w g.c (.map E H)).heap.size=w.heap.size:=Iz w _ _
 have old: ∀p n,p≠b->(Z.set b (O ⟨[.string J],Za,x.es⟩)).m p=O n->Z.m p=O n:=by
  intro p n F l;simpa[Hp.set,F]using l
 have new: ∀n,(Z.set b (O ⟨[.string J],Za,x.es⟩)).m b=O n->n=⟨[.string J],Za,x.es⟩:=by
  intro n l;simp[Hp.set]at l;exact l.symm
 refine⟨by rw[L];exact h.base,λk u=>(q k (by omega)).trans (h.old k u),h.fresh,λp n l=> ?_,λb1 b2 x1 x2 g1 g2 Q h2 K X hg1 hg2=> ?_, ?_,h.dfr_but (c:=g.c) (λd=>by rw[o4];simp) λk u _=>q k u⟩
 .by_cases F:p=b
  .subst F;obtain rfl:=new n l
   exact⟨g,S,⟨by rw[L];exact hl.lt,hl.es,λW=>(by rw[r]at W;cases W),λW=>(by rw[r]at W;cases W),λs2 A=>(by rw[r]at A;injection A with A;cases A),λA=>(by rw[r]at A;injection A with A;cases A),λk' u=>(by
    rw[r]at u;injection u with u
    injection u with u
    subst u
    exact⟨o1,E,H,J,rfl,Vy w _ _ _ o4,hm⟩),λA=>by rw[r]at A;injection A with A;cases A⟩⟩
  .have I:=old p n F l;obtain⟨M,Q,h2⟩:=h.live p n I;exact⟨M,Q,h.stays I Q (by rw[L];exact bB _) g.c (λk u _=>q k u) (λe=>h.inj b p x n g M V I (λe=>F e.symm) ho S Q e.symm) (λU u=>((h.sep p n M I Q U _ u b x g V S).1 rfl))⟩
 .have C: ∀p n,(Z.set b (O ⟨[.string J],Za,x.es⟩)).m p=O n->∃y,Z.m p=O y/\y.own=n.own:=by
   intro p n l;by_cases F:p=b
   .subst F;obtain rfl:=new n l;exact⟨x,V,ho⟩
   .exact⟨n,old p n F l,rfl⟩
  obtain⟨y1,hy1,e1⟩:=C _ _ Q;obtain⟨y2,hy2,_⟩:=C _ _ h2;exact h.inj b1 b2 y1 y2 g1 g2 hy1 hy2 K (e1.trans X) hg1 hg2
 .have oldl: ∀p n,(Z.set b (O ⟨[.string J],Za,x.es⟩)).m p=O n->∃y,Z.m p=O y:=by
   intro p n l;by_cases F:p=b
   .subst F;exact⟨x,V⟩
   .exact⟨n,old p n F l⟩
  refine h.sep.of (λp n M l z=> .inl (let⟨y,hy⟩:=oldl p n l;⟨y,hy,z⟩)) (λp n M l z U _=> ?_);have K:p≠b:=λe=>by subst e;rw[S]at z;injection z with z;subst z;rw[r]at U;injection U with U;cases U
  unfold nz;rw[q _ (λe=>h.inj b p x n g M V l (λe=>K e.symm) ho S z e.symm)]
theorem Yp : ∀(k r:Zd),CE (k.flatMap (λb=>[1,b])++0::r)=(k,match r with|[]=>[]|_=>r):=by
 intro k r;induction k with
 |nil=>cases r with
  |nil=>rfl
  |cons x r=>simp[CE]
 |cons b k d=>
  show CE (1::b::(k.flatMap (λb=>[1,b])++0::r))=_;unfold CE;rw[zE rfl,d]
theorem NN (r:Zd): ∀n,yw (aB n 1++0::r)=(n,r)
 |0=>by simp[yw]
 |n+1=>by
  show yw (1::(aB n 1++0::r))=_;unfold yw;rw[zE rfl,NN r n]
theorem Vu (k:Zd){r:Zd}(h:r≠[]):CE (k.flatMap (λb=>[1,b])++0::r)=(k,r):=by
 rw[Yp];cases r with
 |nil=>exact(h rfl).elim
 |cons x r=>rfl
theorem PP : ∀(l:List (Zd×Int)) (n:Nat),(CD l).length<=n->PO n (CD l)=l
 |[],0,_=>rfl
 |[],_+1,_=>rfl
 |(k,v)::r,n,h=>by
  have q:aB v.toNat (1:Int)++0::(aB (-v).toNat 1++0::CD r)≠[]:=by simp
  have e0:CD ((k,v)::r)=k.flatMap (λb=>[1,b])++0::(aB v.toNat 1++0::(aB (-v).toNat 1++0::CD r)):=rfl;have d:=Vu k q;rw[<-e0]at d
  have p:(CD r).length+1<=(CD ((k,v)::r)).length:=by
   rw[e0];simp only[List.length_append,List.length_cons,List.length_replicate];omega
  cases n with
  |zero=>omega
  |succ n=>
   cases m:CD ((k,v)::r)with
   |nil=>rw[m]at p;simp at p
   |cons x l=>
    unfold PO;rw[m]at d;rw[d];simp only[NN];rw[PP r n (by rw[m]at p h;omega)]
    congr 2
    omega
theorem Yo (l:List (Zd×Int)):Lu (CD l)=l:=PP l _ (bB _)
theorem M8 (s:ByteArray): ∀x∈au s,0<=x/\x<256:=by
 intro x d;unfold au at d;obtain⟨b,_,rfl⟩:=List.mem_map.1 d;have:=b.toNat_lt;omega
theorem NM : ∀l:List (Zd×Int),(∀p∈l,∀x∈p.1,0<=x/\x<256)->∀x∈CD l,0<=x/\x<256
 |[],_,x,hx=>by cases hx
 |(k,v)::r,h,x,hx=>by
  have m:=h _ (eD ..);have q:=NM r λp n=>h p (dD _ n)
  unfold CD at hx;simp only[List.mem_append,List.mem_cons,List.mem_flatMap,List.mem_replicate,List.not_mem_nil,or_false]at hx;rcases hx with⟨b,d,rfl|rfl⟩|rfl|⟨_,rfl⟩|rfl|⟨_,rfl⟩|rfl|hx
  .omega
  .exact m _ d
  all_goals first|omega|exact q _ hx
theorem EI {a b:ByteArray}(h:au a=au b):a=b:=by
 unfold au at h
 have:a.data.toList=b.data.toList:=by
  have k: ∀(l d:List UInt8),l.map (λb=>(b.toNat:Int))=d.map (λb=>(b.toNat:Int))->l=d:=by
   intro l;induction l with
   |nil=>intro d h;cases d with
    |nil=>rfl
    |cons x r=>cases h
   |cons x r m=>intro d h;cases d with
    |nil=>cases h
    |cons y n=>
     simp only[aD,List.cons.injEq]at h;have:x.toNat=y.toNat:=by omega
     rw[UInt8.toNat_inj.1 this,m n h.2]
  exact k _ _ h
 cases a;cases b
 congr 1
 exact Array.toList_inj.1 this
theorem Ld (l:Zd)(h: ∀x∈l,0<=x/\x<256):au (GY l)=l:=by
 have b: ∀(l:Zd) (s:ByteArray),(∀x∈l,0<=x/\x<256)->au (l.foldl (λr n=>r.push (UInt8.ofNat n.toNat)) s)=au s++l:=by
  intro l;induction l with
  |nil=>intro s _;simp
  |cons n l m=>
   intro s d;rw[List.foldl_cons,m _ λx k=>d x (dD _ k)];have p:=d n (eD ..)
   have:au (s.push (UInt8.ofNat n.toNat))=au s++[n]:=by
    unfold au;simp only[ByteArray.push,Array.toList_push,List.map_append,aD,List.map_nil]
    congr 2
    rw[UInt8.toNat_ofNat'];omega
   rw[this,List.append_assoc];rfl
 rw[show GY l=l.foldl (λr n=>r.push (UInt8.ofNat n.toNat)) ByteArray.empty from rfl,b l _ h];rfl
theorem No {kd:IntKind}(key:ByteArray): ∀(es:List MapEntry) (l:List (ByteArray×Int)) (n:Nat),es.map (λe=>(e.key,e.val))=l.map (λp=>(Value.string p.1,Value.int kd p.2))->
  ((l.find? λp=>Zc (p.1=key))=Y/\Instr.findNow .string (.string key) es n=O Y)∨∃i p,(l.find? λp=>Zc (p.1=key))=O p/\Instr.findNow .string (.string key) es n=O (O (n+i, .int kd p.2))/\l[i]?=O p/\p.1=key/\∀j,j<i->∀q,l[j]?=O q->q.1≠key
 |[],[],n,_=> .inl ⟨rfl,rfl⟩
 |[],_::_,n,h=>by cases h
 |_::_,[],n,h=>by cases h
 |e::es,p::l,n,h=>by
  simp only[aD,List.cons.injEq,Prod.mk.injEq]at h;obtain⟨⟨u,z⟩,A⟩:=h;unfold Instr.findNow;rw[u,z];simp only[Instr.sameNow];by_cases b:p.1=key
  .right;refine⟨0,p, ?_, ?_,rfl,b,λj E=>by omega⟩
   .rw[cB,zB b]
   .rw[b,(MapKept.bytes_beq key key).2 rfl];rfl
  .have C:(key==p.1)=Zb:=by
    cases F:key==p.1 with
    |false=>rfl
    |true=>exact(b ((MapKept.bytes_beq _ _).1 F).symm).elim
   rw[C];simp only;rw[cB,zA b];simp only;rcases No key es l (n+1) A with⟨k,m⟩|⟨i,q,k,m,H,I,J⟩
   .exact .inl ⟨k,m⟩
   .refine .inr ⟨i+1,q,k,by rw[m];congr 3;omega,H,I,λj E r d=> ?_⟩;cases j with
    |zero=>simp at d;rw[<-d];exact b
    |succ j=>exact J j (by omega) r (by simpa using d)
theorem Vg (key:ByteArray)(l:List (ByteArray×Int)):((l.map λp=>(au p.1,p.2)).find? λp=>Zc (p.1=au key)).map (·.2)=(l.find? λp=>Zc (p.1=key)).map (·.2):=by
 induction l with
 |nil=>rfl
 |cons p l d=>
  rw[aD,cB,cB];by_cases b:p.1=key
  .rw[zB b,zB (by rw[b])];rfl
  .rw[zA b,zA (λe=>b (EI e))];exact d
theorem KL (key:ByteArray)(v:Int): ∀l:List (ByteArray×Int),GC (au key) v (l.map λp=>(au p.1,p.2))=List.map (λp:ByteArray×Int=>(au p.1,p.2)) (match l.findIdx? (λp=>Zc (p.1=key))with
  |some i=>l.modify i λp=>(p.1,v)
  |none=>l++[(key,v)])
 |[]=>rfl
 |p::l=>by
  rw[aD];unfold GC;rw[List.findIdx?_cons];by_cases b:p.1=key
  .rw[zE (by rw[b]),zB b];rfl
  .rw[zF (λe=>b (EI e)),zA b,KL key v l];cases d:l.findIdx? λp=>Zc (p.1=key)with
   |none=>rfl
   |some i=>rfl
theorem FZ.all {es:Array MapEntry}(h:FZ kd es s): ∃l:List (ByteArray×Int),es.toList.map (λe=>(e.key,e.val))=l.map (λp=>(Value.string p.1,Value.int kd p.2))/\Lu (au s)=l.map λp=>(au p.1,p.2):=by
 obtain⟨l,b,d⟩:=h;exact⟨l,b,by rw[d,Yo]⟩
theorem aj6 {t:TypeId}(h:o.op= .makeMap t Y)(d:(AOp.makeM kd).run e Z=O (v,Z'))(b:R B μ Z w):kr P o a w B μ v Z':=by
 simp only[AOp.run,Option.some.injEq,Prod.mk.injEq]at d;obtain⟨rfl,rfl⟩:=d;obtain⟨k,l⟩:=b.newM kd;refine⟨_,_,_, .map (O w.heap.size), ?_, .inl rfl,l,k, ?_,(Below.refl _ _).alloc b.base _⟩
 .simp[execOp,h,Instr.makeMap]
 .exact .mp (g:=⟨w.heap.size,0,0,1,0,O (.int kd 0)⟩) (by simp[Mu.add]) rfl
theorem Rn {k:IntKind}{b:Nat}{blk:Blk}{r:List Value}{u:Value}(C:R B μ Z w)(H:VR μ (WX k b) u)(E:Z.m b=O blk)(F:blk.cells= .string s::r): ∃g es h,u= .map (O g.c)/\μ b=O g/\g.it=O (.int k 0)/\w.heap[g.c]?=O (.map es h)/\FZ k es s/\B.n<=g.c/\r=[]:=by
 obtain⟨g,p,d,rfl⟩:=H.mp_inv;obtain⟨q,es,h,I,l,z,A⟩:=(C.get E p).mp k d;rw[F]at l;simp at l;obtain⟨rfl,rfl⟩:=l;exact⟨g,es,h,rfl,p,d,z,A,q,rfl⟩
theorem aj5 {t F K:TypeId}{ok:Bool}{i:Operand}(Q:o.op= .lookup t x i ok)(S:P.underlying t=O (.map F K))(A:P.underlying F=O .string)(hz:Xx P K=O kd)(hx:cm x=Za)(hi:cm i=Za)(d:(AOp.lookM kd ok x i).run e Z=O (v,Z'))(M:di μ N e a.tmps)(z:R B μ Z w):kr P o a w B μ v Z':=by
 have L:=M.ev hx;have m:=M.ev hi;simp only[AOp.run]at d;split at d
 .rename_i b h W u;rw[Iv W]at L;rw[u]at m;have m:=m.string_inv;split at d
  .rename_i U n;split at d
   .rename_i s r X;simp only[Option.some.injEq,Prod.mk.injEq]at d;obtain⟨rfl,rfl⟩:=d;obtain⟨g,J,cl,H,_,_,I,V,_,_⟩:=Rn z L n X;obtain⟨l,l1,l2⟩:=V.all;have q:(Instr.checkKey J.isEmpty 10000 F (.string h)).run P w= .ok () w:=MapKept.run_checkKey (k:= .string h) A (by simp[MapKept.IsKey]) _ 9999;unfold WS H7;rw[l2,Vg];rcases No (kd:=kd) h J.toList l 0 l1 with⟨C,E⟩|⟨i',p,C,E,_,_,_⟩
    .rw[C];refine .same z (v':=if ok then .tuple #[.int kd 0, .bool Zb]else .int kd 0) ?_ ?_
     .simp[execOp,Q,H,m,Instr.lookup,cy S,MapKept.run_getObj_map I,q,MapKept.run_findKey A E,Wh hz,bD]
     .cases ok
      .exact .int _ _
      .exact .tuple (.cons (.int _ _) (.cons (.bool _) .nil))
    .rw[C];refine .same z (v':=if ok then .tuple #[.int kd p.2, .bool Za]else .int kd p.2) ?_ ?_
     .simp[execOp,Q,H,m,Instr.lookup,cy S,MapKept.run_getObj_map I,q,MapKept.run_findKey A E,bD]
     .cases ok
      .exact .int _ _
      .exact .tuple (.cons (.int _ _) (.cons (.bool _) .nil))
   .cases d
  .cases d
 .cases d
theorem ac8 {x:Zd}{l:List (ByteArray×Int)}{key:ByteArray}{n:Int}(h:Lu x=l.map λp=>(au p.1,p.2)): ∀p∈GC (au key) n (Lu x),∀y∈p.1,0<=y/\y<256:=by
 rw[h,KL];intro p b;obtain⟨q,_,rfl⟩:=List.mem_map.1 b;exact M8 q.1
theorem FZ.put {b:Array MapEntry}{key:ByteArray}{n:Int}{l:List (ByteArray×Int)}(d:Lu (au s)=l.map λp=>(au p.1,p.2))
  (h:b.toList.map (λe=>(e.key,e.val))=List.map (λp:ByteArray×Int=>(Value.string p.1,Value.int kd p.2)) (match l.findIdx? (λp=>Zc (p.1=key))with
  |some i=>l.modify i λp=>(p.1,n)
  |none=>l++[(key,n)])):FZ kd b (GY (DN (au s) (au key) n)):=by
 refine⟨_,h, ?_⟩;unfold DN;rw[Ld _ (NM _ (ac8 d)),d,KL]
theorem aC2 {t kt et:TypeId}{i u:Operand}(ho:o.op= .mapUpdate t x i u)(hu:P.underlying t=O (.map kt et))(hk:P.underlying kt=O .string)(hx:cm x=Za)(hi:cm i=Za)(hv:cm u=Za)(d:(AOp.updM kd x i u).run e Z=O (v,Z'))(he:di μ N e a.tmps)(hR:R B μ Z w):kr P o a w B μ v Z':=by
 have h1:=he.ev hx;have J:=he.ev hi;have K:=he.ev hv;simp only[AOp.run]at d;split at d
 .rename_i b key U n hb A hn;rw[Iv hb]at h1;rw[A]at J;rw[hn]at K;have J:=J.string_inv;have K:=K.int_inv;split at d
  .rename_i hkk;subst hkk;split at d
   .rename_i blk m;split at d
    .rename_i E;split at d
     .rename_i s r hc;simp only[Option.some.injEq,Prod.mk.injEq]at d;obtain⟨rfl,rfl⟩:=d;obtain⟨g,I,cl,e1,hg,Q,V,e3,e4,rfl⟩:=Rn hR h1 m hc;obtain⟨l,X,l2⟩:=e3.all;have L:(Instr.checkKey Zb 10000 kt (.string key)).run P w= .ok () w:=MapKept.run_checkKey (k:= .string key) hk (by simp[MapKept.IsKey]) _ 9999;rcases No (kd:=U) key I.toList l 0 X with⟨k1,W⟩|⟨C,p,k1,W,F,k4,k5⟩
      .have hf:l.findIdx? (λp=>Zc (p.1=key))=Y:=by
        rw[List.findIdx?_eq_none_iff];intro q hq;have:=List.find?_eq_none.1 k1 q hq;simpa using this
       have hm:FZ U (I.push {key:= .string key,val:= .int U n,born:=cl}) (GY (DN (au s) (au key) n)):=FZ.put l2 (by
        rw[hf]
        simp[X])
       refine⟨.skip,_,μ,undef, ?_, .inr ⟨rfl,rfl⟩,μ.le_refl,hR.setM m E hg Q (cl+1) hm,VR.undef μ, ?_⟩
       .simp[execOp,ho,e1,J,K,Instr.mapUpdate,cy hu,MapKept.run_getObj_map V,L,MapKept.run_findKey hk W,MapKept.run_setObj_map _ V,bD];rfl
       .exact⟨rfl,rfl,rfl,by rw[Iz];exact bB _,λq hq=>GF _ _ _ _ (by omega)⟩
      .have hf:l.findIdx? (λp=>Zc (p.1=key))=O C:=by
        have S:C<l.length:=by
         rcases Nat.lt_or_ge C l.length with h|h
         .exact h
         .rw[List.getElem?_eq_none h]at F;cases F
        rw[List.findIdx?_eq_some_iff_getElem];refine⟨S, ?_,λj H=> ?_⟩
        .rw[dB S]at F;injection F with F
         rw[F];simpa using k4
        .have:=k5 j H _ (dB (by omega));simpa using this
       have A:(I[C]?).map (·.key)=O (.string key):=by
        have:=congrArg (λz=>(z[C]?).map Prod.fst) X;simp only[cD,F,Option.map_map,fB]at this;rw[Array.getElem?_toList]at this;rw[<-k4];simpa[Function.comp]using this
       have hm:FZ U (I.modify C λe=>{e with key:= .string key,val:= .int U n}) (GY (DN (au s) (au key) n)):=FZ.put l2 (by
        rw[hf];simp only;rw[Array.toList_modify];apply List.ext_getElem?;intro j;have H:=congrArg (λz=>z[j]?) X;simp only[cD]at H;simp only[cD,List.getElem?_modify];by_cases M:C=j
        .subst M;rw[F]at H⊢;cases hes:I.toList[C]? with
         |none=>rw[hes]at H;cases H
         |some e0=>
          simp only[fB,if_true,Option.map_eq_map,Option.some.injEq];rw[k4]
        .simp only[zF M]
         simpa using H)
       refine⟨.skip,_,μ,undef, ?_, .inr ⟨rfl,rfl⟩,μ.le_refl,hR.setM m E hg Q cl hm,VR.undef μ, ?_⟩
       .have hst:(Instr.keyThatStays (((I[C]?).map (·.key)).getD (.string key)) (.string key)).run P w= .ok (.string key) w:=by
         rw[A];rw[Option.getD_some];unfold Instr.keyThatStays;rw[zE (show Instr.sameBits 10000 (.string key) (.string key)=Za from(MapKept.bytes_beq key key).2 rfl)];rfl
        rw[Nat.zero_add]at W;simp[execOp,ho,e1,J,K,Instr.mapUpdate,cy hu,MapKept.run_getObj_map V,L,MapKept.run_findKey hk W,MapKept.run_setObj_map _ V,hst,bD];rfl
       .exact⟨rfl,rfl,rfl,by rw[Iz];exact bB _,λq hq=>GF _ _ _ _ (by omega)⟩
     .cases d
    .cases d
   .cases d
  .cases d
 .cases d
theorem aB4 {t U E:TypeId}{ts:List TypeId}(L:o.op= .call c)(I:c.callee= .builtin .len)(F:c.args.toList=[x])(M:c.argTypes.toList=t::ts)(Q:P.underlying t=O (.map U E))
  (S:cm x=Za) (d:(AOp.lenM kd x).run e Z=O (v,Z')) (J:di μ N e a.tmps) (p:R B μ Z w):kr P o a w B μ v Z':=by
 have h:=J.ev S;simp only[AOp.run]at d;split at d
 .rename_i b H;rw[Iv H]at h;split at d
  .rename_i q k;split at d
   .rename_i s r n;simp only[Option.some.injEq,Prod.mk.injEq]at d;obtain⟨rfl,rfl⟩:=d;obtain⟨g,C,X,u,_,_,z,A,_,_⟩:=Rn p h k n;obtain⟨l,V,W⟩:=A.all
    have K:PS (au s)=C.size:=by
     unfold PS;rw[W,List.length_map];have:=congrArg List.length V;simpa using this.symm
    obtain⟨cs,m⟩:=gw (P:=P) (a:=a) L I w;rw[K];refine .same p ?_ (.int .i64 _);simp[m,builtin,Builtin.len_,UV F,DA M,u,cy Q,MapKept.run_getObj_map z,goInt,bD]
   .cases d
  .cases d
 .cases d
end
end
section
open Go.RowKit
section
variable {P:Program} {o:Oper} {a:Act} {w:World} {B:Base P} {N:Nat} {μ:Mu} {e:cj} {Z Z':Hp} {v:Value}
theorem Bf {x y:Option Operand}(h:aC4 x=O y):x=y/\∀u,y=O u->cm u=Za:=by
 unfold aC4 at h;split at h
 .rename_i x;obtain⟨z,k,h⟩:=Option.map_eq_some_iff.1 h;obtain⟨rfl,d⟩:=aq k;subst h;exact⟨rfl,λu b=>by injection b with b;exact b▸d⟩
 .injection h with h
  subst h;exact⟨rfl,λu b=>by cases b⟩
def AOp.isCall :AOp->Bool
 | .call _ _| .callv _ _| .rangeF _ _ _=>Za
 |_=>Zb
theorem aq6 {op:BinOp}{t A:TypeId}(p:o.op= .binOp op t x y A)(h:Ql P op t x y=O ao)(q:ao.run e Z=O (v,Z'))(n:di μ N e a.tmps)(m:R B μ Z w):kr P o a w B μ v Z':=by
 unfold Ql at h;split at h
 .split at h
  .rename_i b d;obtain⟨rfl,k⟩:=aq b;obtain⟨rfl,l⟩:=aq d;injection h with h
   subst h;exact aj1 p k l q n m
  .cases h
 .split at h
  .rename_i b d;obtain⟨rfl,k⟩:=aq b;obtain⟨rfl,l⟩:=aq d;injection h with h
   subst h;exact aj1 p k l q n m
  .cases h
 .split at h
  .rename_i r b d;obtain⟨rfl,k⟩:=aq b;obtain⟨rfl,l⟩:=aq d;injection h with h
   subst h;exact ES p rfl r k l q n m
  .rename_i r b d;obtain⟨rfl,k⟩:=aq b;obtain⟨rfl,l⟩:=aq d;injection h with h
   subst h;exact ES p rfl r k l q n m
  .cases h
 .split at h
  .rename_i r b d;obtain⟨rfl,k⟩:=aq b;obtain⟨rfl,l⟩:=aq d;injection h with h
   subst h;exact ES p rfl r k l q n m
  .rename_i r b d;obtain⟨rfl,k⟩:=aq b;obtain⟨rfl,l⟩:=aq d;injection h with h
   subst h;exact ES p rfl r k l q n m
  .cases h
 .rename_i z;split at h
  .rename_i u b d;obtain⟨rfl,k⟩:=aq b;obtain⟨rfl,l⟩:=aq d;injection h with h
   subst h;exact aj2 p rfl z u k l q n m
  .rename_i u b d;obtain⟨rfl,k⟩:=aq b;obtain⟨rfl,l⟩:=aq d;injection h with h
   subst h;exact aj2 p rfl z u k l q n m
  .cases h
 .cases h
theorem Y4 (r:o.op= .call c)(h:Aq P c=O ao)(K:ao.isCall=Zb)(u:ao.run e Z=O (v,Z'))(F:di μ N e a.tmps)(q:R B μ Z w):kr P o a w B μ v Z':=by
 unfold Aq at h;split at h
 .split at h
  .obtain⟨x,_,h⟩:=Option.map_eq_some_iff.1 h;subst h;simp[AOp.isCall]at K
  .cases h
 .obtain⟨x,_,h⟩:=Option.map_eq_some_iff.1 h;subst h;simp[AOp.isCall]at K
 .rename_i b;split at h
  .rename_i l m;split at h
   .rename_i A C d z;obtain⟨rfl,k⟩:=aq d;obtain⟨rfl,E⟩:=aq z;split at h
    .rename_i H I J;split at h
     .rename_i p;injection h with h
      subst h;exact PY r b l m A (.inl ⟨_,C⟩) H I J p k E u F q
     .cases h
    .cases h
   .rename_i A C d z;obtain⟨rfl,k⟩:=aq d;obtain⟨rfl,E⟩:=aq z;split at h
    .rename_i H I J;split at h
     .rename_i p;injection h with h
      subst h;exact PY r b l m A (.inr C) H I J p k E u F q
     .cases h
    .cases h
   .rename_i A C d z;obtain⟨rfl,k⟩:=aq d;obtain⟨rfl,E⟩:=aq z;split at h
    .rename_i H I J;split at h
     .rename_i p;injection h with h
      subst h;exact VB r b l m A ⟨_,C⟩ H I J p.1 p.2 k E u F q
     .cases h
    .cases h
   .cases h
  .cases h
 .rename_i b;split at h
  .rename_i l m;split at h
   .rename_i n d z;obtain⟨rfl,k⟩:=aq d;obtain⟨rfl,E⟩:=aq z;split at h
    .rename_i H;injection h with h
     subst h;exact aB1 r b l m n H k E u F q
    .cases h
   .cases h
  .cases h
 .rename_i b;split at h
  .rename_i l m;split at h
   .rename_i n d;obtain⟨rfl,k⟩:=aq d;injection h with h
    subst h;exact aB5 r b l m n k u F q
   .rename_i n d;obtain⟨rfl,k⟩:=aq d;injection h with h
    subst h;exact aP4 r b l m n k u F q
   .rename_i n d;obtain⟨rfl,k⟩:=aq d;split at h
    .injection h with h
     subst h;exact aB4 r b l m n k u F q
    .cases h
   .rename_i n;injection h with h
    subst h;exact W7 r b l m (.inl ⟨_,n⟩) u q
   .rename_i n;split at h
    .rename_i L;injection h with h
     subst h;exact W7 r b l m (.inr ⟨_,_,n,L⟩) u q
    .cases h
   .cases h
  .cases h
 .rename_i b;split at h
  .rename_i l m;split at h
   .rename_i n d;obtain⟨rfl,k⟩:=aq d;injection h with h
    subst h;exact aA9 r b l m n k u F q
   .cases h
  .cases h
 .rename_i b;split at h
  .rename_i l;split at h
   .rename_i d z;obtain⟨rfl,k⟩:=aq d;obtain⟨rfl,E⟩:=aq z;injection h with h
    subst h;exact aB8 r b l k E u F q
   .cases h
  .cases h
 .rename_i b;split at h
  .rename_i l;split at h
   .rename_i d z;obtain⟨rfl,k⟩:=aq d;obtain⟨rfl,E⟩:=aq z;injection h with h
    subst h;exact aj3 r b l k E u F q
   .cases h
  .cases h
 .cases h
theorem aF6 (h:L8 P o=O ao)(X:ao.isCall=Zb)(l:ao.run e Z=O (v,Z'))(p:di μ N e a.tmps)(m:R B μ Z w):kr P o a w B μ v Z':=by
 unfold L8 at h;split at h
 .rename_i b;obtain⟨x,d,h⟩:=Option.map_eq_some_iff.1 h;obtain⟨rfl,k⟩:=aq d;subst h;exact W8 (.inl b) k l p m
 .rename_i b;obtain⟨x,d,h⟩:=Option.map_eq_some_iff.1 h;obtain⟨rfl,k⟩:=aq d;subst h;exact W8 (.inr b) k l p m
 .rename_i b;split at h
  .rename_i d z E;obtain⟨rfl,k⟩:=aq d;obtain⟨rfl,A⟩:=aq z;obtain⟨rfl,H⟩:=aq E;injection h with h
   subst h;exact aC1 b k A H l p m
  .cases h
 .rename_i b;split at h
  .rename_i K;split at h
   .rename_i C;injection h with h
    subst h;exact aB9 b K C l m
   .cases h
  .split at h
   .rename_i C;injection h with h
    subst h;exact aj0 b C l m
   .cases h
 .rename_i b;split at h
  .rename_i d;obtain⟨rfl,k⟩:=aq d;injection h with h
   subst h;exact aP2 b k l p m
  .cases h
 .rename_i b;split at h
  .rename_i q C;split at h
   .rename_i L;obtain⟨W,M,h⟩:=Option.map_eq_some_iff.1 h;subst h;exact L3 b q C L M l p m
   .cases h
  .rename_i q C;split at h
   .rename_i u;obtain⟨W,M,h⟩:=Option.map_eq_some_iff.1 h;subst h;exact NT b q u C M l p m
   .cases h
  .cases h
 .rename_i b;split at h
  .rename_i q;split at h
   .rename_i u C;split at h
    .rename_i r;obtain⟨W,M,h⟩:=Option.map_eq_some_iff.1 h;subst h;exact O9 b q u C r.1 r.2.1 r.2.2 M l p m
    .cases h
   .cases h
  .cases h
 .injection h with h
  subst h;cases l
 .rename_i b;split at h
  .rename_i F d;obtain⟨rfl,k⟩:=aq d;obtain⟨n,u,h⟩:=Option.map_eq_some_iff.1 h;subst h;exact aj4 b F u k l p m
  .rename_i F d;obtain⟨rfl,k⟩:=aq d;injection h with h
   subst h;exact aB6 b F k l p m
  .cases h
 .rename_i b;split at h
  .rename_i u d z;obtain⟨rfl,k⟩:=aq d;obtain⟨rfl,A⟩:=aq z;injection h with h
   subst h;exact aj9 b u k A l p m
  .cases h
 .rename_i b;obtain⟨x,d,h⟩:=Option.map_eq_some_iff.1 h;obtain⟨rfl,k⟩:=aq d;subst h;exact Tw b k l p m
 .rename_i b;exact aq6 b h l p m
 .rename_i b;obtain⟨x,d,h⟩:=Option.map_eq_some_iff.1 h;obtain⟨rfl,k⟩:=aq d;subst h;exact aY6 b k l p m
 .rename_i b;split at h
  .rename_i J I d;obtain⟨rfl,k⟩:=aq d;injection h with h
   subst h;exact aB0 b J I k l p m
  .rename_i J I d;obtain⟨rfl,k⟩:=aq d;injection h with h
   subst h;exact aB2 b J I k l p m
  .rename_i J I d;obtain⟨rfl,k⟩:=aq d;split at h
   .rename_i F;injection h with h
    subst h;exact ak0 b J F I k l p m
   .rename_i F;injection h with h
    subst h;exact Yw b J F I k l p m
   .cases h
  .rename_i J I d;obtain⟨rfl,k⟩:=aq d;split at h
   .rename_i F;injection h with h
    subst h;exact VD b J I F k l p m
   .cases h
  .rename_i J I d;obtain⟨rfl,k⟩:=aq d;split at h
   .rename_i F;split at h
    .rename_i V;subst V;injection h with h
     subst h;exact aB7 b I F k l p m
    .cases h
   .cases h
  .cases h
 .rename_i b;split at h
  .rename_i q d;obtain⟨rfl,k⟩:=aq d;injection h with h
   subst h;exact aj7 b q k l p m
  .cases h
 .rename_i b;obtain⟨x,d,h⟩:=Option.map_eq_some_iff.1 h;obtain⟨rfl,k⟩:=aq d;subst h;exact aC0 b k l p m
 .rename_i b;split at h
  .split at h
   .injection h with h
    subst h;exact aj6 b l m
   .cases h
  .cases h
 .rename_i b;split at h
  .rename_i q d z;obtain⟨rfl,k⟩:=aq d;obtain⟨rfl,A⟩:=aq z;split at h
   .rename_i U C;injection h with h
    subst h;exact aj5 b q U C k A l p m
   .cases h
  .cases h
 .rename_i b;split at h
  .rename_i q d z E;obtain⟨rfl,k⟩:=aq d;obtain⟨rfl,A⟩:=aq z;obtain⟨rfl,H⟩:=aq E;split at h
   .rename_i U he';injection h with h
    subst h;exact aC2 b q U k A H l p m
   .cases h
  .cases h
 .rename_i b;split at h
  .rename_i Q d;injection h with h
   subst h;exact Yu b Q d l p m
  .cases h
 .rename_i b;split at h
  .rename_i q;split at h
   .rename_i u K C d z;obtain⟨rfl,k⟩:=aq d;obtain⟨rfl,A⟩:=aq z;split at h
    .rename_i r;injection h with h
     subst h;exact Rw b q u K C k A r.1 r.2 l p m
    .cases h
   .cases h
  .cases h
 .rename_i b;split at h
  .rename_i q d z E;obtain⟨rfl,k⟩:=aq d;obtain⟨rfl,A⟩:=Bf z;obtain⟨rfl,H⟩:=Bf E;obtain⟨n,u,h⟩:=Option.map_eq_some_iff.1 h;subst h;exact aj8 b q u k A H l p m
  .rename_i q d z E;obtain⟨rfl,k⟩:=aq d;obtain⟨rfl,A⟩:=Bf z;obtain⟨rfl,H⟩:=Bf E;injection h with h
   subst h;exact Tz b q k A H l p m
  .rename_i q d z E;obtain⟨rfl,k⟩:=aq d;obtain⟨rfl,A⟩:=Bf z;obtain⟨rfl,H⟩:=Bf E;obtain⟨n,u,h⟩:=Option.map_eq_some_iff.1 h;subst h;exact Tx b q u k A H l p m
  .cases h
 .rename_i b;split at h
  .rename_i q d;obtain⟨rfl,k⟩:=aq d;split at h
   .rename_i S;split at h
    .rename_i u;split at h
     .cases h
     .rename_i Q;injection h with h
      subst h;exact aP5 b q S u Q k l p m
    .cases h
   .cases h
  .cases h
 .rename_i b;split at h
  .rename_i q d;obtain⟨rfl,k⟩:=aq d;split at h
   .rename_i S;split at h
    .rename_i u K;injection h with h
     subst h;exact Yr b q S u K k l p m
    .cases h
   .cases h
  .cases h
 .rename_i b;split at h
  .rename_i q d z;obtain⟨rfl,k⟩:=aq d;obtain⟨rfl,A⟩:=aq z;obtain⟨n,u,h⟩:=Option.map_eq_some_iff.1 h;subst h;exact aP3 b q u k A l p m
  .rename_i q d z;obtain⟨rfl,k⟩:=aq d;obtain⟨rfl,A⟩:=aq z;obtain⟨n,u,h⟩:=Option.map_eq_some_iff.1 h;subst h;exact aB3 b q u k A l p m
  .cases h
 .rename_i b;split at h
  .rename_i q d z;obtain⟨rfl,k⟩:=aq d;obtain⟨rfl,A⟩:=aq z;split at h
   .rename_i u K;injection h with h
    subst h;exact Yt b q u K k A l p m
   .cases h
  .rename_i q d z;obtain⟨rfl,k⟩:=aq d;obtain⟨rfl,A⟩:=aq z;injection h with h
   subst h;exact Ys b q k A l p m
  .cases h
 .rename_i b;split at h
  .rename_i q d z E;obtain⟨rfl,k⟩:=aq d;obtain⟨rfl,A⟩:=aq z;obtain⟨rfl,H⟩:=aq E;split at h
   .rename_i u;injection h with h
    subst h;obtain⟨n,u⟩:=Option.isSome_iff_exists.1 u;exact Yv b q u k A H l p m
   .cases h
  .cases h
 .rename_i b;obtain⟨x,d,h⟩:=Option.map_eq_some_iff.1 h;obtain⟨rfl,k⟩:=aq d;subst h;exact VC b k l p m
 .rename_i b;exact Y4 b h X l p m
 .injection h with h
  subst h;cases l
 .injection h with h
  subst h;cases l
 .cases h
end
end
section
open Result renaming andThen_ok -> aB
open Sem renaming run_bind -> aD, run_pure -> bB
open Go.RowKit
def RT (ops:Array Oper):Option (Nat×Bool)->Option (Option (Nat×Bool))
 |none=>O Y
 |some (j,b)=>match(ops[j]?).bind (·.dst)with
  |some t=>O (O (t,b))
  |none=>Y
def ae0 (N:Nat):Option Nat->Bool
 |none=>Za
 |some d=>d<N
def K0 (P:Program)(N:Nat)(ops:Array Oper)(o:Oper):Option AOper:=match L8 P o,RT ops o.guard with
 |some op,O g=>if ae0 N o.dst then O ⟨o.dst,op,g⟩else Y
 |_,_=>Y
def JS (P:Program)(N:Nat)(ops:Array Oper):List Oper->Option (List AOper)
 |[]=>O []
 |o::r=>match K0 P N ops o,JS P N ops r with
  |some x,O l=>O (x::l)
  |_,_=>Y
def MB (P:Program)(f:FuncId):Prop:= ∃b,P.funcs[f]?=O b/\b.body.isSome=Za/\(b.name== "runtime.NumGoroutine")=Zb
def aa2 (P:Program)(B:Base P)(μ:Mu)(w:World)(K:Value->Hp->Prop):Ending->World->Prop:=λx w'=>
 ∃r Z' d b,x= .returned d/\K r Z'/\μ.le b/\R B b Z' w'/\VR b r d/\Below B w w'/\P=P
def at4 (P:Program)(l:Nat)(args:Array Value)(w:World)(Q:Ending->World->Prop):Prop:=
 ∃h d a b,(Instr.yield l args).run P w= .ok (.round l h d a b) w/\RoundIn Fence.wide 0 P l h d a b w Q
def QJ (P:Program)(f:FuncId)(S:MQ):Prop:=
 ∀(B:Base P) μ Z w args (d:Array Value) K,S args Z K->R B μ Z w->
  (EQ f=Zb->F2 (VR μ) args d.toList->MB P f/\Calls P f d w (aa2 P B μ w K))/\
  (EQ f=Za->∀(h:List Value) (b:Nat) (g:G),args=h++[.pointer (O ⟨b,0,Y⟩)]->f=UE g.ty->μ b=O g->g.it=O (.bool Za)->F2 (VR μ) h d.toList->at4 P g.c d w (aa2 P B μ w K))
theorem QJ.mk' {P:Program}{S:MQ}(b:MB P f)(h: ∀(B:Base P) μ Z w args (cargs:Array Value) K,S args Z K->R B μ Z w->F2 (VR μ) args cargs.toList->Calls P f cargs w (aa2 P B μ w K)):QJ P f S:=
 λB μ Z w args cargs K n l=>⟨λ_ m=>⟨b,h B μ Z w args cargs K n l m⟩,λd=>by
  obtain⟨p,k,_⟩:=b;have q:=(Array.getElem?_eq_some_iff.1 k).1;have r:=B.small;unfold EQ at d;rw[Nat.ble_eq]at d
  omega⟩
def Rd (ro:Option Nat):Fence:={Fence.wide with round:=ro}
theorem TN {P:Program}{ro:Option Nat}{args:Array Value}{w:World}{Q:Ending->World->Prop}(h:Calls P f args w Q):CallsIn (Rd ro) 0 P f args w Q:=
 callsIn_wide (n:=0).2 h
theorem an0 {P:Program}{ro:Option Nat}{l d:Nat}{tmps:Array Value}{a b:Code}{w:World}{Q:Ending->World->Prop}(h:RoundIn Fence.wide 0 P l d tmps a b w Q):RoundIn (Rd ro) 0 P l d tmps a b w Q:=h
def dfs (ds:List Nat):List Deferred:=ds.map λD=>{target:= .collected D,args:= #[]}
def more {P:Program}(B:Base P)(ds:List Nat):Base P:={B with ds:=ds++B.ds}
def Fu :Nat:=1000000
def AX :AExit->Exit->Prop
 | .normal, .normal=>True
 | .exit i, .exit j=>i=j/\j<Fu
 | .exit i, .goto l=>i=Fu+2*l
 | .ret, .ret=>True
 |_,_=>False
def RD {P:Program}(B:Base P)(μ:Mu)(Z:Hp)(w:World)(a:Act):Prop:= ∃b,R (more B b) μ Z w/\a.defers=dfs b
def uN {P:Program}(B:Base P)(N:Nat)(μ:Mu)(w:World)(Q:AExit->cj->Hp->Prop):Exit->Act->World->Prop:=λx d w'=>
 ∃h e' Z' b,AX h x/\Q h e' Z'/\μ.le b/\RD B b Z' w' d/\di b N e' d.tmps/\True/\Below B w w'
section
variable {P:Program} {T:lj} {o:Oper} {a:Act} {w:World} {B:Base P} {N:Nat} {μ:Mu} {e:cj} {Z Z':Hp} {v:Value}
theorem uN.trans {l:Mu}{w':World}{Q:AExit->cj->Hp->Prop}(E:μ.le l)(C:Below B w w'){x:Exit}{k:Act}{b:World}(h:uN B N l w' Q x k b):uN B N μ w Q x k b:=by
 obtain⟨m,e',Z',d,n,p,q,r,u,z,A⟩:=h;exact⟨m,e',Z',d,n,p,Mu.le_trans E q,r,u,z,C.trans A⟩
theorem Qm {ops:Array Oper}{g:Option (Nat×Bool)}(d:RT ops o.guard=O g)(q:di μ N e a.tmps):Region.wanted o (yielded ops a.tmps)=wanted ⟨o.dst,op,g⟩ e:=by
 unfold RT at d;unfold Region.wanted wanted;split at d
 .rename_i h;injection d with d
  subst d;simp[h]
 .rename_i j l h;split at d
  .rename_i t r;injection d with d
   subst d;simp only[h];have n:=q.2 t;unfold yielded;rw[r];simp only[zG];by_cases k:t<a.tmps.size
   .have m:a.tmps[t]?=O (a.tmps.getD t undef):=by simp[k]
    rw[m];generalize a.tmps.getD t undef=u at*;generalize e t=z at*;cases n<;>simp[WX,ylV]
    try(rename_i b;cases b<;>cases l<;>rfl)
   .have m:a.tmps[t]?=Y:=Array.getElem?_eq_none (Nat.le_of_not_lt k);have p:a.tmps.getD t undef=undef:=by simp[m]
    rw[p]at n;rw[m];generalize e t=u at*;cases n;simp
  .cases d
theorem di.putO (h:di μ N e a.tmps){d:Option Nat}(b:ae0 N d=Za){v':Value}(k:VR μ v v'):di μ N (e.putO d v) (a.put d v').tmps:=by
 cases d with
 |none=>exact h
 |some d=>exact h.put d (by simpa[ae0]using b) k
theorem yy (d:Option Nat)(v':Value):(a.put d v').defers=a.defers:=by cases d<;>rfl
theorem Kq (h:MB P f)(args:Array Value)(w:World):(callFunc f args).run P w= .ok (.enter f args) w:=by
 obtain⟨b,d,k,l⟩:=h;have m:b.body.isNone=Zb:=by cases n:b.body<;>simp[n]at k⊢
 simp only[callFunc,aD,run_program,aB,d,l,m,Bool.false_eq_true,if_false,bB]
theorem Y6 (h:L8 P o=O (.call f args)): ∃c,o.op= .call c/\Aq P c=O (.call f args):=by
 unfold L8 at h;split at h
 all_goals first
  |exact⟨_,‹_›,h⟩
  |(exfalso;revert h;unfold Ql;(repeat' split)<;>simp)
  |(exfalso;revert h;(repeat' split)<;>simp)
theorem Wf {f:Operand}(h:L8 P o=O (.callv f args)): ∃c,o.op= .call c/\Aq P c=O (.callv f args):=by
 unfold L8 at h;split at h
 all_goals first
  |exact⟨_,‹_›,h⟩
  |(exfalso;revert h;unfold Ql;(repeat' split)<;>simp)
  |(exfalso;revert h;(repeat' split)<;>simp)
theorem Uv (h:Aq P c=O (.call f args)):c.callee= .value (.func f)/\L5 c.args.toList=O args:=by
 unfold Aq at h;split at h
 .rename_i d;split at h
  .simp at h;obtain⟨b,rfl⟩:=h;exact⟨d,b⟩
  .cases h
 all_goals (exfalso;revert h;(repeat' split)<;>simp)
theorem Y3 (h:Aq P c=O (.call f args)):f<P.funcs.size:=by
 unfold Aq at h;split at h
 .split at h
  .rename_i b;simp at h;obtain⟨k,rfl⟩:=h;unfold Q7 at b;split at b
   .rename_i d;exact(Array.getElem?_eq_some_iff.1 d).1
   .cases b
  .cases h
 all_goals (exfalso;revert h;(repeat' split)<;>simp)
theorem RS {f:Operand}(h:Aq P c=O (.callv f args)):c.callee= .value f/\cm f=Za/\L5 c.args.toList=O args:=by
 unfold Aq at h;split at h
 .exfalso;revert h;split<;>simp
 .rename_i d;simp at h;obtain⟨b,rfl⟩:=h;exact⟨d,rfl,b⟩
 all_goals (exfalso;revert h;(repeat' split)<;>simp)
theorem Wv (q: ∀f,QJ P f (T f)){args:List Value}{cargs:Array Value}{k:Value->Hp->Prop}(z:EQ f=Zb)(C:T f args Z k)(p:R B μ Z w)(u:F2 (VR μ) args cargs.toList){ro:Option Nat}(l: ∀c,o.op≠ .defer c)
  (b:MB P f->(execOp a.eval o).run P w= .ok (.enter f cargs) w) {next:Act->World->Prop} {Q:Exit->Act->World->Prop}
  (A: ∀v Z' v' d w',k v Z'->μ.le d->R B d Z' w'->VR d v v'->Below B w w'->next (a.put o.dst v') w'):o.wpIn (Rd ro) 0 P a w next Q:=by
 obtain⟨m,n⟩:=(q f B μ Z w args cargs k C p).1 z u;refine⟨λ_ _=>trivial, ?_⟩;rw[Oper.semAt_eq _ _ _ l,b m];refine⟨λh=>(by cases h),TN (n.mono λx w' E=> ?_)⟩;obtain⟨r,Z',L,d,rfl,F,H,I,J,K,_⟩:=E;exact A r Z' L d w' F H I J K
theorem ar2 (E: ∀f,QJ P f (T f)){f b:Nat}{q:List Value}{cargs:Array Value}{k:Value->Hp->Prop}(H:EQ f=Za)(n:f=UE g.ty)(I:μ b=O g)(p:g.it=O (.bool Za))(K:T f (q++[.pointer (O ⟨b,0,Y⟩)]) Z k)(C:R B μ Z w)(F:F2 (VR μ) q cargs.toList){ro:Option Nat}(m: ∀c,o.op≠ .defer c)
  (d:(execOp a.eval o).run P w=(Instr.yield g.c cargs).run P w) {next:Act->World->Prop} {Q:Exit->Act->World->Prop}
  (J: ∀v Z' v' l w',k v Z'->μ.le l->R B l Z' w'->VR l v v'->Below B w w'->next (a.put o.dst v') w'):o.wpIn (Rd ro) 0 P a w next Q:=by
 obtain⟨fn,u,as,bo,z,A⟩:=(E f B μ Z w _ cargs k K C).2 H q b g rfl n I p F;refine⟨λ_ _=>trivial, ?_⟩;rw[Oper.semAt_eq _ _ _ m,d,z];refine⟨λh=>(by cases h),an0 (A.mono λx w' L=> ?_)⟩;obtain⟨r,Z',X,l,rfl,M,S,U,V,W,_⟩:=L;exact J r Z' X l w' M S U V W
theorem Wg (h:L8 P o=O op)(c:Call):o.op≠ .defer c:=λb=>by
 simp[L8,b]at h
theorem Uw {f n:Nat}(h:L8 P o=O (.rangeF f n x)):False:=by
 unfold L8 at h;split at h
 all_goals first
  |(revert h;unfold Ql;(repeat' split)<;>simp)
  |(revert h;unfold Aq;(repeat' split)<;>simp)
  |(revert h;(repeat' split)<;>simp)
theorem N9 (U: ∀f,QJ P f (T f))(h:L8 P o=O op){k:Value->Hp->Prop}(d:bn T op e Z k)(M:di μ N e a.tmps)(K:R B μ Z w)
  {next:Act->World->Prop} {Q:Exit->Act->World->Prop}
  (E: ∀v Z' v' C w',k v Z'->μ.le C->R B C Z' w'->VR C v v'->Below B w w'->next (a.put o.dst v') w') {ro:Option Nat}:o.wpIn (Rd ro) 0 P a w next Q:=by
 have m:=Wg h;by_cases V:op.isCall=Za
 .cases op<;>simp[AOp.isCall]at V
  case rangeF f n x=>exact(Uw h).elim
  case call f args=>
   obtain⟨c,S,u⟩:=Y6 h;obtain⟨z,A⟩:=Uv u;have L:=Ji M A;simp only[bn]at d;by_cases q:EQ f=Za
   .have I:=Y3 u;have J:=B.small;unfold EQ at q;rw[Nat.ble_eq]at q;exact absurd (Nat.lt_of_lt_of_le I J) (Nat.not_lt.2 q)
   refine Wv (cargs:=c.args.map a.eval) U (by simpa using q) d K (by simpa using L) m (λl=> ?_) E;simp only[execOp,S,resolve,z,aD,Act.eval,Deferred.ofValue,bB,aB,invoke];simp[Kq l]
  case callv f args=>
   obtain⟨c,S,u⟩:=Wf h;obtain⟨z,H,A⟩:=RS u;have L:=Ji M A;have W:=M.ev H;simp only[bn]at d;split at d
   .rename_i g first r hg
    rw[hg]at W;obtain⟨p,d⟩:=d;by_cases q:EQ g=Za
    .obtain⟨b,gg,k1,k2,k3,rfl,rfl,k6⟩:=W.yl_inv q;have d:T g (args.map e.ev++[.pointer (O ⟨b,0,Y⟩)]) Z k:=by simpa using d
     refine ar2 (cargs:=c.args.map a.eval) U q k3 k1 k2 d K (by simpa using L) m ?_ E;simp only[execOp,S,resolve,z,k6,aD,Deferred.ofValue,bB,aB,invoke];simp
    have p:Cg g=Zb:=by
     unfold aO4 at p;simpa[q]using p
    obtain⟨x',y',e1,e2,e3⟩:=W.func_inv p;refine Wv (cargs:=x'++c.args.map a.eval++y') U (by simpa using q) d K (by simpa using(e2.append L).append e3) m (λl=> ?_) E;simp only[execOp,S,resolve,z,e1,aD,Deferred.ofValue,bB,aB,invoke];simp[Kq l]
   .exact d.elim
 .have X: ∃v Z',op.run e Z=O (v,Z')/\k v Z':=by
   unfold bn at d;cases op<;>simp[AOp.isCall]at V<;>simp only at d
   all_goals
    split at d
    .rename_i v Z' hv;exact⟨v,Z',hv,d⟩
    .exact d.elim
  obtain⟨v,Z',hv,F⟩:=X;obtain⟨nx,w',C,v',u,z,A,H,I,J⟩:=aF6 h (by simpa using V) hv M K;refine⟨λ_ _=>trivial, ?_⟩;rw[Oper.semAt_eq _ _ _ m,u];rcases z with rfl|⟨rfl,rfl⟩
  .exact E v Z' v' C w' F A H I J
  .exact E v Z' undef C w' F A H I J
theorem VE (C: ∀f,QJ P f (T f)){ro:Option Nat}{ops:Array Oper}{Q:AExit->cj->Hp->Prop}{K:Mu}{J:World}{ds:List Nat}: ∀(l:List Oper) (al:List AOper) (e:cj) (Z:Hp) (μ:Mu) (a:Act) (w:World),JS P N ops l=O al->AH T (Q .normal) al e Z->
  R (more B ds) μ Z w->di μ N e a.tmps->a.defers=dfs ds->K.le μ->Below B J w->wpListIn (Rd ro) 0 P ops (uN B N K J Q) l a w
 |[],al,e,Z,μ,a,w,h,m,u,p,z,d,b=>by
  simp[JS]at h;subst h;exact⟨.normal,e,Z,μ,trivial,m,d,⟨ds,u,z⟩,p,trivial,b⟩
 |o::l,al,e,Z,μ,a,w,h,m,u,p,z,d,b=>by
  simp only[JS]at h;split at h
  .rename_i x r k F;injection h with h
   subst h;unfold K0 at k;split at k
   .rename_i op g L M;split at k
    .rename_i H;injection k with k
     subst k;have n:=Qm (op:=op) M p;unfold wpListIn;simp only[AH]at m;rw[n];split
     .rename_i E;rw[zE E]at m;refine N9 C L m p u λv Z' V W w' S I A U q=> ?_
      exact VE C l r _ Z' W (a.put o.dst V) w' F S A ((p.mono I).putO H U) (by rw[yy];exact z) (Mu.le_trans d I) (b.trans q)
     .rename_i E;rw[zF E]at m;exact⟨λ_ _=>trivial,VE C l r _ Z μ (a.put o.dst undef) w F m u (p.putO H (VR.undef μ)) (by rw[yy];exact z) d b⟩
    .cases k
   .cases k
  .cases h
end
end
section
open List renaming map_congr_left -> aB, mem_append -> aD, range -> bB
open Go.RowKit
def mw :Operand->List Nat
 | .tmp t=>[t]
 |_=>[]
def aq0 :Option Operand->List Nat
 |some x=>mw x
 |none=>[]
def AOp.reads :AOp->List Nat
 | .move x| .box _ x| .load x| .loadN _ x| .nilCheck x| .un _ x| .conv _ x| .off _ x| .fieldV _ _ _ x| .extract x _| .len x| .lenS x| .capN x| .range x| .next x| .encR x| .mark x| .strOf x| .strOfR x| .runesOf x=>mw x
 | .pick c a b| .sliceX c a b=>mw c++mw a++mw b
 | .alloc _ _| .lenC _| .stuck| .newB| .makeM _=>[]
 | .lookM _ _ x i=>mw x++mw i
 | .updM _ x i v=>mw x++mw i++mw v
 | .lenM _ x=>mw x
 | .build _ l| .buildSlice _ _ _ l=>l.flatMap λp=>mw p.2.2
 | .store _ a x=>mw a++mw x
 | .bin _ x y| .eqv _ _ x y| .eqCells _ _ x y| .idx _ x y| .idxA _ _ x y| .indexV _ _ _ x y| .indexS x y| .append _ _ x y| .appendZ _ _ _ x y| .copy _ x y| .most x y| .least x y| .makeSlice _ _ _ x y=>mw x++mw y
 | .mkFunc _ d m=>d.flatMap mw++m.flatMap mw
 | .slice _ x k h| .sliceStr x k h| .sliceArr _ _ x k h=>mw x++aq0 k++aq0 h
 | .call _ d=>d.flatMap mw
 | .callv f d=>mw f++d.flatMap mw
 | .rangeF _ n x=>mw x++bB n
theorem az (h: ∀t∈mw x,e t=e' t):e.ev x=e'.ev x:=by
 cases x<;>first|rfl|exact h _ (by simp[mw])
theorem Bb {x:Option Operand}(h: ∀t∈aq0 x,e t=e' t):x.map e.ev=x.map e'.ev:=by
 cases x with
 |none=>rfl
 |some x=>simp only[Option.map_some];rw[az h]
theorem Hk {b:List Operand}(h: ∀t∈b.flatMap mw,e t=e' t):b.map e.ev=b.map e'.ev:=by
 apply aB;intro x k;exact az λt d=>h t (List.mem_flatMap.2 ⟨x,k,d⟩)
theorem Pu {b:List (Nat×Nat×Operand)}(h: ∀t∈b.flatMap (λp=>mw p.2.2),e t=e' t):(b.map λ(o,s,x)=>(o,s,e.ev x))=b.map λ(o,s,x)=>(o,s,e'.ev x):=by
 apply aB;rintro⟨o,s,x⟩ k;simp only;rw[az λt d=>h t (List.mem_flatMap.2 ⟨_,k,d⟩)]
theorem DU (h: ∀t∈op.reads,e t=e' t):op.run e Z=op.run e' Z:=by
 cases op<;>simp only[AOp.reads,aD]at h<;>simp only[AOp.run]
 case move x=>rw[az h]
 case pick c a b=>rw[az λt m=>h t (.inl (.inl m)),az λt m=>h t (.inl (.inr m)),az λt m=>h t (.inr m)]
 case box es x=>rw[az h]
 case build z ps=>rw[Pu h]
 case buildSlice es ln z ps=>rw[Pu h]
 case load x=>rw[az h]
 case loadN n x=>rw[az h]
 case store n a x=>rw[az λt m=>h t (.inl m),az λt m=>h t (.inr m)]
 case nilCheck x=>rw[az h]
 case bin op x y=>rw[az λt m=>h t (.inl m),az λt m=>h t (.inr m)]
 case eqv kd neg x y=>rw[az λt m=>h t (.inl m),az λt m=>h t (.inr m)]
 case eqCells neg ks x y=>rw[az λt m=>h t (.inl m),az λt m=>h t (.inr m)]
 case un op x=>rw[az h]
 case conv k x=>rw[az h]
 case mkFunc f xs cs=>rw[Hk λt m=>h t (.inl m),Hk λt m=>h t (.inr m)]
 case makeSlice es by_ z l c=>rw[az λt m=>h t (.inl m),az λt m=>h t (.inr m)]
 case slice es x lo hi=>rw[az λt m=>h t (.inl (.inl m)),Bb λt m=>h t (.inl (.inr m)),Bb λt m=>h t (.inr m)]
 case sliceStr x lo hi=>rw[az λt m=>h t (.inl (.inl m)),Bb λt m=>h t (.inl (.inr m)),Bb λt m=>h t (.inr m)]
 case sliceArr es n x lo hi=>rw[az λt m=>h t (.inl (.inl m)),Bb λt m=>h t (.inl (.inr m)),Bb λt m=>h t (.inr m)]
 case off n x=>rw[az h]
 case idx es x i=>rw[az λt m=>h t (.inl m),az λt m=>h t (.inr m)]
 case idxA ln es x i=>rw[az λt m=>h t (.inl m),az λt m=>h t (.inr m)]
 case fieldV fo n agg x=>rw[az h]
 case indexV ln es agg x i=>rw[az λt m=>h t (.inl m),az λt m=>h t (.inr m)]
 case indexS x i=>rw[az λt m=>h t (.inl m),az λt m=>h t (.inr m)]
 case extract x i=>rw[az h]
 case append es by_ s x=>rw[az λt m=>h t (.inl m),az λt m=>h t (.inr m)]
 case appendZ es by_ z s x=>rw[az λt m=>h t (.inl m),az λt m=>h t (.inr m)]
 case copy es d s=>rw[az λt m=>h t (.inl m),az λt m=>h t (.inr m)]
 case len x=>rw[az h]
 case lenS x=>rw[az h]
 case capN x=>rw[az h]
 case range x=>rw[az h]
 case next x=>rw[az h]
 case encR x=>rw[az h]
 case strOf x=>rw[az h]
 case strOfR x=>rw[az h]
 case runesOf x=>rw[az h]
 case mark x=>rw[az h]
 case lookM k ok x i=>rw[az λt m=>h t (.inl m),az λt m=>h t (.inr m)]
 case updM k x i v=>rw[az λt m=>h t (.inl (.inl m)),az λt m=>h t (.inl (.inr m)),az λt m=>h t (.inr m)]
 case lenM k x=>rw[az h]
 case sliceX c a b=>rw[az λt m=>h t (.inl (.inl m)),az λt m=>h t (.inl (.inr m)),az λt m=>h t (.inr m)]
 case most x y=>rw[az λt m=>h t (.inl m),az λt m=>h t (.inr m)]
 case least x y=>rw[az λt m=>h t (.inl m),az λt m=>h t (.inr m)]
theorem TX {T:lj}{k:Value->Hp->Prop}(h: ∀t∈op.reads,e t=e' t)(d:bn T op e Z k):bn T op e' Z k:=by
 by_cases l:op.isCall=Za
 .cases op<;>simp[AOp.isCall]at l
  case call f xs=>
   simp only[bn,AOp.reads]at*;rw[<-Hk h];exact d
  case callv f xs=>
   simp only[bn,AOp.reads,aD]at*;rw[<-Hk λt b=>h t (.inr b),<-az λt b=>h t (.inl b)];exact d
  case rangeF f n x=>
   simp only[bn,AOp.reads,aD]at*;have m:(bB n).map e=(bB n).map e':=aB λt b=>h t (.inr b)
   rw[<-m,<-az λt b=>h t (.inl b)];exact d
 .unfold bn at*;cases op<;>simp[AOp.isCall]at l<;>simp only at d⊢ <;>rw[<-DU h]<;>exact d
def AOper.looks (o:AOper):List Nat:=o.op.reads++(match o.guard with|some (t,_)=>[t]|none=>[])
theorem E9 {o:AOper}(h: ∀t∈o.looks,e t=e' t):wanted o e=wanted o e':=by
 unfold wanted;unfold AOper.looks at h;cases b:o.guard with
 |none=>rfl
 |some g=>
  rw[b]at h;have:=h g.1 (by simp);simp only[this]
theorem yC {Z':Hp}(b:op.still=Za)(h:op.run e Z=O (v,Z')):Z'=Z:=by
 cases op<;>simp[AOp.still]at b<;>simp only[AOp.run]at h
 all_goals
  revert h
  repeat' split
  all_goals first
   |(intro h;cases h;done)
   |(intro h;simp only[Option.some.injEq,Prod.mk.injEq]at h;exact h.2.symm)
   |(intro h;obtain⟨_,_,h⟩:=Option.map_eq_some_iff.1 h;simp only[Prod.mk.injEq]at h;exact h.2.symm)
theorem Qd (d:op.still=Za)(b:op.isLoad=Zb)(h:op.run e Z=O (v,Z))(Z':Hp):op.run e Z'=O (v,Z'):=by
 cases op<;>simp[AOp.still]at d
 case slice es x lo hi=>
  cases lo with
  |some _=>simp[AOp.isLoad]at b
  |none=>
   simp only[AOp.run,Df,Bool.or_true,if_true]at h⊢;revert h
   repeat' split
   all_goals first
    |(intro h;cases h;done)
    |(intro h;simp only[Option.some.injEq,Prod.mk.injEq]at h⊢;exact⟨h.1,trivial⟩)
    |simp_all
 all_goals first
  |(simp[AOp.isLoad]at b;done)
  |(simp only[AOp.run]at h⊢
    revert h
    repeat' split
    all_goals first
     |(intro h;cases h;done)
     |(intro h;simp only[Option.some.injEq,Prod.mk.injEq]at h⊢;exact⟨h.1,trivial⟩)
     |(intro h;obtain⟨u,k,h⟩:=Option.map_eq_some_iff.1 h;simp only[Prod.mk.injEq]at h;rw[k];simp[h.1]))
end
section
open Bool renaming and_eq_true -> bB, not_eq_true' -> eD
open List renaming mem_cons_of_mem -> aB, mem_cons_self -> aD, range -> bD, find?_some -> cB, getD_eq_getElem?_getD -> cD, getElem?_eq_none -> dB, all_eq_true -> fB, mem_of_find?_eq_some -> fD
open Nat renaming lt_or_ge -> dD
open Go.RowKit
theorem Yc {b:Array Bool}(h:b.getD i Za=Zb):b.getD i Zb=Zb:=by
 rcases dD i b.size with h'|h'
 .simp[h']at h⊢;exact h
 .simp[Array.getElem?_eq_none h']at h
theorem ax3 {b:Array Bool}(d:i<b.size)(h:b.getD i Zb=Zb):b.getD i Za=Zb:=by
 simp[d]at h⊢;exact h
abbrev DL :=List (AOper×List Nat)
def rM (al:DL)(i:Nat):Option Nat:=(al[i]?).bind (·.1.dst)
def Ht (al:DL)(i:Nat):List Nat:=match al[i]? with
 |some (o,_)=>o.looks
 |none=>[]
def EL (al:DL):Bool:=
 (bD al.length).all λi=>
  (ko al i).all (λq=>Zc (q<i))&&
  (match rM al i with
   |none=>Za
   |some t=>(bD al.length).all λj=>i==j||((rM al j !=O t)&&(!(Ht al j).contains t||xr al i j||xr al j i)))
section
variable {al:DL}
theorem SP (h:EL al=Za){q:Nat}(b:i<al.length)(d:q∈ko al i):q<i:=by
 have:=List.all_eq_true.1 h i (List.mem_range.2 b);simp only[bB,fB,decide_eq_true_eq]at this;exact this.1 q d
theorem DD (h:rM al i=O t):i<al.length:=by
 unfold rM at h;rcases dD i al.length with h1|h1
 .exact h1
 .simp[dB h1]at h
theorem Va (h:EL al=Za)(b:rM al i=O t)(d:rM al j=O t):i=j:=by
 have:=List.all_eq_true.1 h i (List.mem_range.2 (DD b));simp only[bB,b]at this;have:=List.all_eq_true.1 this.2 j (List.mem_range.2 (DD d));by_cases e:i=j
 .exact e
 .simp[d,e]at this
theorem U9 (h:EL al=Za)(k:rM al i=O t)(b:j<al.length)(l:t∈Ht al j)(d:i≠j):xr al i j=Za∨xr al j i=Za:=by
 have:=List.all_eq_true.1 h i (List.mem_range.2 (DD k));simp only[bB,k]at this;have:=List.all_eq_true.1 this.2 j (List.mem_range.2 b);simp[d,l]at this;exact this.2
def CP (al:DL)(D:List Nat):Prop:= ∀i∈D,∀q∈ko al i,q∈D
theorem Vp {acc b:List Nat}{p:Nat}(h:(Iw acc b).testBit p=Za): ∃q∈b,q=p∨(acc.getD q 0).testBit p=Za:=by
 have d: ∀(b:List Nat) (m:Nat),(b.foldl (λm q=>m|||2 ^ q|||acc.getD q 0) m).testBit p=Za->m.testBit p=Za∨∃q∈b,q=p∨(acc.getD q 0).testBit p=Za:=by
  intro b;induction b with
  |nil=>intro m h;exact .inl h
  |cons q b l=>
   intro m h;rcases l _ h with h1|⟨n,h1,k⟩
   .simp only[Nat.testBit_or,Nat.testBit_two_pow,Bool.or_eq_true,decide_eq_true_eq]at h1;rcases h1 with(h1|h1)|h1
    .exact .inl h1
    .exact .inr ⟨q,aD .., .inl h1⟩
    .exact .inr ⟨q,aD .., .inr h1⟩
   .exact .inr ⟨n,aB _ h1,k⟩
 rcases d b 0 h with h1|h1
 .simp at h1
 .exact h1
theorem NJ {k:DL}: ∀(r pre:DL) (b:List Nat),pre++r=k->b.length=pre.length->
  (∀j p,(b.getD j 0).testBit p=Za->∃q∈ko k j,q=p∨(q<j/\(b.getD q 0).testBit p=Za))->
  ∀j p,((Tp b r).getD j 0).testBit p=Za->∃q∈ko k j,q=p∨(q<j/\((Tp b r).getD q 0).testBit p=Za)
 |[],pre,b,_,_,h=>h
 |(o,l)::r,pre,b,F,H,h=>by
  simp only[Tp];refine NJ r (pre++[(o,l)]) (b++[Iw b l]) (by rw[List.append_assoc];exact F) (by simp[H]) λj p m=> ?_
  have E:ko k b.length=l:=by
   unfold ko;rw[<-F,H,List.getElem?_append_right (Nat.le_refl _)];simp
  have d: ∀q,q<b.length->(b++[Iw b l]).getD q 0=b.getD q 0:=by
   intro q u;simp only[cD];rw[List.getElem?_append_left u]
  by_cases I:j<b.length
  .rw[d j I]at m;obtain⟨q,z,A⟩:=h j p m;refine⟨q,z,A.imp id λ⟨C,n⟩=>⟨C, ?_⟩⟩;rw[d q (by omega)];exact n
  .by_cases z:j=b.length
   .subst z;have:(b++[Iw b l]).getD b.length 0=Iw b l:=by simp
    rw[this]at m;obtain⟨q,A,C⟩:=Vp m;refine⟨q,by rw[E];exact A,C.imp id λn=> ?_⟩
    have u:q<b.length:=by
     rcases dD q b.length with h6|h6
     .exact h6
     .simp[cD,dB h6]at n
    exact⟨u,by rw[d q u];exact n⟩
   .have:(b++[Iw b l]).getD j 0=0:=by
     simp only[cD];rw[dB (by simp;omega)];rfl
    rw[this]at m;simp at m
theorem XN {p:Nat}(h:xr al p j=Za): ∃q∈ko al j,q=p∨(q<j/\xr al p q=Za):=
 NJ al [] [] rfl rfl (λj p h=>by simp at h) j p h
theorem CP.bef (h:CP al D): ∀(p j:Nat),xr al p j=Za->(∀q∈ko al j,q∈D)->p∈D:=by
 intro p j;induction j using Nat.strongRecOn with
 |_ j m=>
  intro b k;obtain⟨q,l,rfl|⟨d,b⟩⟩:=XN b
  .exact k q l
  .exact m q d b (h q (k q l))
def lx (al:DL)(e0:cj)(val:Nat->Value)(D:List Nat):cj:=λt=>match D.find? (λi=>rM al i==O t)with
 |some i=>val i
 |none=>e0 t
theorem vc {val:Nat->Value}(h:EL al=Za)(k:i∈D)(b:rM al i=O t):lx al e0 val D t=val i:=by
 unfold lx;cases d:D.find? (λi=>rM al i==O t)with
 |none=>
  have:=List.find?_eq_none.1 d i k;simp[b]at this
 |some j=>
  have:=cB d;simp only[beq_iff_eq]at this;rw[Va h this b]
theorem te {val:Nat->Value}(h: ∀i∈D,rM al i≠O t):lx al e0 val D t=e0 t:=by
 unfold lx;have:D.find? (λi=>rM al i==O t)=Y:=List.find?_eq_none.2 λi b=>by simpa using h i b
 rw[this]
theorem BP {val:Nat->Value}(h:EL al=Za)(i:Nat)(n:i∉D):lx al e0 val (i::D)=(lx al e0 val D).putO (rM al i) (val i):=by
 funext t
 cases l:rM al i with
 |none=>
  simp only[cj.putO];by_cases k: ∃j∈D,rM al j=O t
  .obtain⟨j,hj,b⟩:=k;rw[vc h (aB _ hj) b,vc h hj b]
  .rw[te (λj hj b=>k ⟨j,hj,b⟩)];refine te λj hj b=> ?_
   rcases List.mem_cons.1 hj with rfl|hj
   .rw[l]at b;cases b
   .exact k ⟨j,hj,b⟩
 |some d=>
  simp only[cj.putO,cj.put];split
  .rename_i m;subst m;exact vc h (aD ..) l
  .rename_i m;by_cases k: ∃j∈D,rM al j=O t
   .obtain⟨j,hj,b⟩:=k;rw[vc h (aB _ hj) b,vc h hj b]
   .rw[te (λj hj b=>k ⟨j,hj,b⟩)];refine te λj hj b=> ?_
    rcases List.mem_cons.1 hj with rfl|hj
    .rw[l]at b;exact m (Option.some.inj b).symm
    .exact k ⟨j,hj,b⟩
def GO (al:DL)(e0:cj)(val:Nat->Value)(j:Nat):cj:=λt=>match(bD al.length).find? (λi=>rM al i==O t&&xr al i j)with
 |some i=>val i
 |none=>e0 t
theorem RI {val:Nat->Value}(h:EL al=Za)(d:CP al D)(k:j<al.length)(r:j∉D)(u: ∀q∈ko al j,q∈D)(z:t∈Ht al j):
  lx al e0 val D t=GO al e0 val j t:=by
 unfold GO;cases n:(bD al.length).find? (λi=>rM al i==O t&&xr al i j)with
 |some i=>
  have:=cB n;simp only[bB,beq_iff_eq]at this;exact vc h (d.bef _ _ this.2 u) this.1
 |none=>
  refine te λi p b=> ?_
  have m:=List.find?_eq_none.1 n i (List.mem_range.2 (DD b));simp only[b,beq_self_eq_true,Bool.true_and]at m;have l:i≠j:=λe=>r (e▸p)
  rcases U9 h b k z l with hb|hb
  .exact m hb
  .exact r (d.bef _ _ hb (d i p))
theorem ao0 {val b:Nat->Value}(d:CP al D)(k:j∈D)(l: ∀i∈D,b i=val i):GO al e0 b j=GO al e0 val j:=by
 funext t
 unfold GO;cases h:(bD al.length).find? (λi=>rM al i==O t&&xr al i j)with
 |none=>rfl
 |some i=>
  have:=cB h;simp only[bB,beq_iff_eq]at this;exact l i (d.bef _ _ this.2 (d j k))
theorem Hj {val b:Nat->Value}(h: ∀i∈D,b i=val i):lx al e0 b D=lx al e0 val D:=by
 funext t
 unfold lx;cases d:D.find? (λi=>rM al i==O t)with
 |none=>rfl
 |some i=>exact h i (fD d)
def left (n:Nat)(D:List Nat):Nat:=((bD n).filter λi=> !D.contains i).length
theorem KC {n:Nat}(d:i<n)(b:i∉D):left n (i::D)<left n D:=by
 unfold left
 have:(bD n).filter (λj=> !(i::D).contains j)=((bD n).filter λj=> !D.contains j).filter λj=>j !=i:=by
  rw[List.filter_filter];apply List.filter_congr;intro j _;simp only[List.contains_cons,Bool.not_or];rfl
 rw[this];refine List.length_filter_lt_length_iff_exists.2 ⟨i, ?_,by simp⟩;simp[d,b]
theorem KD {n:Nat}(h:left n D=0)(b:i<n):i∈D:=by
 unfold left at h;have:=List.eq_nil_of_length_eq_zero h;rw[List.filter_eq_nil_iff]at this;have:=this i (List.mem_range.2 b);simpa using this
theorem ag3 {n:Nat}(d:i<n)(b:i∉D):0<left n D:=by
 rcases Nat.eq_zero_or_pos (left n D)with h|h
 .exact absurd (KD h d) b
 .exact h
end
section
variable {P:Program} {T:lj} {al:DL} {ops:Array Oper} {B:Base P} {N:Nat}
structure Fits (P:Program)(N:Nat)(ops:Array Oper)(al:DL):Prop where
 len:ops.size=al.length
 op: ∀(i:Nat) o,ops[i]?=O o->∃x,al[i]?=O (x,ko al i)/\K0 P N ops o=O x
 pred: ∀(i:Nat) o,ops[i]?=O o->∀q,q∈ko al i↔∃e∈o.after,Region.binds .any e=Za/\e.on=q
def Lb (al:DL)(e0:cj)(val:Nat->Value)(Z:Hp)(b:List (Nat×(Hp->Prop)))(j:Nat):Prop:=
 ∃x p,al[j]?=O (x,p)/\x.op.still=Za/\
  ((wanted x (GO al e0 val j)=Za/\x.op.run (GO al e0 val j) Z=O (val j,Z)/\
   (x.op.isLoad=Za->∃c,(j,c)∈b/\∀Z',c Z'->x.op.run (GO al e0 val j) Z'=O (val j,Z')))∨
   (wanted x (GO al e0 val j)=Zb/\val j=undef))
structure Inv (al:DL)(e0:cj)(val:Nat->Value)(Z:Hp)(chk:List (Nat×(Hp->Prop)))(D L:List Nat):Prop where
 dc:CP al D
 lc:CP al L
 sub: ∀i∈L,i∈D
 lt: ∀i∈D,i<al.length
 tells: ∀j∈D,j∉L->Lb al e0 val Z chk j
theorem IA {D:List Nat}{i:Nat}:RB al D i=Za↔i∉D/\∀q∈ko al i,q∈D:=by
 unfold RB;simp only[bB,eD,fB,List.contains_iff_mem];constructor
 .rintro⟨b,d⟩;exact⟨λh=>by simp[h]at b,d⟩
 .rintro⟨b,d⟩;exact⟨by simpa using b,d⟩
theorem BX {D:List Nat}{i:Nat}(h:dy al D=O i):i<al.length/\i∉D/\(∀q∈ko al i,q∈D)/\E6 al i=Za:=by
 unfold dy at h;have b:=cB h;have d:=fD h;simp only[bB]at b;obtain⟨k,l⟩:=IA.1 b.1;exact⟨List.mem_range.1 d,k,l,b.2⟩
theorem NO {D:List Nat}(h:dy al D=Y){i:Nat}(k:i<al.length)(b:i∉D)(d: ∀q∈ko al i,q∈D):E6 al i=Zb:=by
 unfold dy at h;have:=List.find?_eq_none.1 h i (List.mem_range.2 k);simp only[IA.2 ⟨b,d⟩,Bool.true_and]at this;simpa using this
theorem BW {D:List Nat}{i:Nat}:i∈bp al D↔i<al.length/\i∉D/\(∀q∈ko al i,q∈D)/\E6 al i=Zb:=by
 unfold bp;simp only[List.mem_filter,List.mem_range,bB,eD,IA,and_assoc]
theorem SA {f:Nat->Prop}: ∀{l:List Nat},MU f l->∀m∈l,f m
 |[],_,m,hm=>by cases hm
 |[x],h,m,hm=>by simp at hm;subst hm;exact h
 |x::y::r,h,m,hm=>by
  rcases List.mem_cons.1 hm with rfl|hm
  .exact h.1
  .exact SA h.2 m hm
def upd (val:Nat->Value)(i:Nat)(v:Value):Nat->Value:=λk=>if k=i then v else val k
theorem Lb.upd {val:Nat->Value}{b:List (Nat×(Hp->Prop))}{D:List Nat}{i j:Nat}(r:CP al D)(d:j∈D)(u:i∉D)(h:Lb al e0 val Z b j):Lb al e0 (upd val i v) Z b j:=by
 obtain⟨x,p,m,n,q⟩:=h;have l: ∀k∈D,Ab.upd val i v k=val k:=λk z=>zF λ(e:k=i)=>u (e▸z)
 have A:=ao0 (e0:=e0) r d l;refine⟨x,p,m,n, ?_⟩;rw[A,l j d];exact q
theorem Lb.more {val:Nat->Value}{d b:List (Nat×(Hp->Prop))}{j:Nat}(h:Lb al e0 val Z d j)(n: ∀c∈d,c∈b):Lb al e0 val Z b j:=by
 obtain⟨x,p,k,l,m⟩:=h;refine⟨x,p,k,l,m.imp (λ⟨r,u,z⟩=>⟨r,u,λq=> ?_⟩) id⟩;obtain⟨c,A,C⟩:=z q;exact⟨c,n _ A,C⟩
theorem QN {Q:cj->Hp->Prop}(I:EL al=Za){e0:cj}{Z:Hp}{L:List Nat}: ∀(f:Nat) (val:Nat->Value) (D:List Nat) (m:List (Nat×(Hp->Prop))) (e:cj),Fb T Q al f D m e Z->left al.length D<=f->e=lx al e0 val D->
  Inv al e0 val Z m D L->∃F d D' b,Fb T Q al F D' b (lx al e0 d D') Z/\left al.length D'<=F/\Inv al e0 d Z b D' L/\dy al D'=Y/\(∀i∈D,d i=val i)/\∀i∈D,i∈D'
 |0,val,D,m,e,h,hf,W,u=>by
  have S: ∀i,i<al.length->i∈D:=λi hi=>KD (by omega) hi
  refine⟨0,val,D,m,by rw[<-W];exact h,hf,u, ?_,λ_ _=>rfl,λ_ hi=>hi⟩;cases M:dy al D with
  |none=>rfl
  |some i=>exact absurd (S i (BX M).1) (BX M).2.1
 |f+1,val,D,m,e,h,hf,W,u=>by
  cases M:dy al D with
  |none=>exact⟨f+1,val,D,m,by rw[<-W];exact h,hf,u,M,λ_ _=>rfl,λ_ hi=>hi⟩
  |some i=>
   obtain⟨h1,K,h3,h4⟩:=BX M;simp only[Fb,M]at h;split at h
   .rename_i x p hx;have J:x.op.still=Za:=by simpa[E6,hx]using h4
    have r: ∀t∈x.looks,e t=GO al e0 val i t:=by
     intro t ht;rw[W];exact RI I u.dc h1 K h3 (by simpa[Ht,hx]using ht)
    have V:rM al i=x.dst:=by simp[rM,hx]
    have H:left al.length (i::D)<=f:=by have:=KC h1 K;omega
    have hDc:CP al (i::D):=by
     intro k hk q hq;rcases List.mem_cons.1 hk with rfl|hk
     .exact aB _ (h3 q hq)
     .exact aB _ (u.dc k hk q hq)
    have C: ∀(v:Value) (b:List (Nat×(Hp->Prop))),Fb T Q al f (i::D) b (e.putO x.dst v) Z->(∀c∈m,c∈b)->Lb al e0 (upd val i v) Z b i->
      ∃F d D' b,Fb T Q al F D' b (lx al e0 d D') Z/\left al.length D'<=F/\Inv al e0 d Z b D' L/\dy al D'=Y/\(∀i∈D,d i=val i)/\∀i∈D,i∈D':=by
     intro v b hw U ht;have A: ∀k∈D,upd val i v k=val k:=λk hk=>zF λ(e:k=i)=>K (e▸hk)
     have X:e.putO x.dst v=lx al e0 (upd val i v) (i::D):=by
      rw[BP I i K,Hj A,V,<-W]
      congr 1
      exact(zE rfl).symm
     obtain⟨F,d,D',E,g1,g2,g3,g4,g5,g6⟩:=QN I f (upd val i v) (i::D) b _ hw H X ⟨hDc,u.lc,λk hk=>aB _ (u.sub k hk),λk hk=>(List.mem_cons.1 hk).elim (λe=>e▸h1) (u.lt k),λj hj hjL=>by
      rcases List.mem_cons.1 hj with rfl|hj
      .exact ht
      .exact((u.tells j hj hjL).upd u.dc hj K).more U⟩
     exact⟨F,d,D',E,g1,g2,g3,g4,λk hk=>(g5 k (aB _ hk)).trans (A k hk),λk hk=>g6 k (aB _ hk)⟩
    have l: ∀v,GO al e0 (upd val i v) i=GO al e0 val i:=by
     intro v
     funext t
     unfold GO;cases hf':(bD al.length).find? (λk=>rM al k==O t&&xr al k i)with
     |none=>rfl
     |some k=>
      have:=cB hf';simp only[bB,beq_iff_eq]at this;exact zF λ(e:k=i)=>K (e▸u.dc.bef _ _ this.2 h3)
    have hw0:=E9 r;have hr0: ∀Z',x.op.run e Z'=x.op.run (GO al e0 val i) Z':=λZ'=>DU λt ht=>r t (by simp[AOper.looks,ht])
    split at h
    .rename_i n;split at h
     .rename_i v Z1 z;obtain rfl:=yC J z;refine C v _ h (λc U=>by split<;>simp[U]) ⟨x,p,hx,J, .inl ⟨by rw[l,<-hw0];exact n,by rw[l,<-hr0];rw[z];congr 2;exact(zE rfl).symm,λhl=> ?_⟩⟩;refine⟨_,by rw[zE hl];exact aD ..,λZ' hZ'=> ?_⟩;rw[l,<-hr0,hZ']
      congr 2
      exact(zE rfl).symm
     .exact h.elim
    .rename_i n;exact C undef m h (λc U=>U) ⟨x,p,hx,J, .inr ⟨by rw[l,<-hw0];simpa using n,zE rfl⟩⟩
   .exact h.elim
theorem Hs {m:Nat}{Z:Hp}: ∀{k:List (Nat×(Hp->Prop))},DK al m Z k->∀j c,(j,c)∈k->xr al j m=Zb->c Z
 |[],_,j,c,h,_=>by cases h
 |(i,d)::r,b,j,c,h,l=>by
  simp only[DK]at b;rcases List.mem_cons.1 h with h|h
  .injection h with n p
   subst n p;rw[zF (by simp[l])]at b;exact b.1
  .split at b
   .exact Hs b j c h l
   .exact Hs b.2 j c h l
theorem Fits.ready (m:Fits P N ops al){b:Array Bool}{L:List Nat}(K:b.size=ops.size)(E: ∀i,i<ops.size->(b.getD i Zb=Za↔i∈L))(z: ∀i∈L,i<ops.size){i:Nat}:
  i∈Region.ready .any ops b↔i<al.length/\i∉L/\∀q∈ko al i,q∈L:=by
 have n: ∀k,b.getD k Zb=Za↔k∈L:=by
  intro k;by_cases A:k<ops.size
  .exact E k A
  .constructor
   .intro h;have:b.getD k Zb=Zb:=by simp[Array.getElem?_eq_none (show b.size<=k by omega)]
    rw[this]at h;cases h
   .intro h;exact absurd (z k h) A
 rw[mem_ready];constructor
 .rintro⟨r,o,d,u⟩;have p:i<ops.size:=(Array.getElem?_eq_some_iff.1 d).1;refine⟨m.len▸p,λh=> ?_,λq J=> ?_⟩
  .have l:=(n i).2 h;rw[Yc r]at l;cases l
  .obtain⟨e,l,C,rfl⟩:=(m.pred i o d q).1 J;exact(n _).1 (u e l C)
 .rintro⟨r,d,u⟩;have p:i<ops.size:=m.len▸r;refine⟨ax3 (by omega) ?_,ops[i],Array.getElem?_eq_getElem p,λe H F=>(n _).2 (u _ ((m.pred i _ (Array.getElem?_eq_getElem p) _).2 ⟨e,H,F,rfl⟩))⟩;cases I:b.getD i Zb with
  |true=>exact absurd ((n i).1 I) d
  |false=>rfl
theorem av5 (hT: ∀f,QJ P f (T f))(hF:Fits P N ops al)(u:EL al=Za){Q:AExit->cj->Hp->Prop}{μ0:Mu}{w0:World}{ro:Option Nat}{ds:List Nat}: ∀(H:Nat) (f:Nat) (val:Nat->Value) (D L:List Nat) (chk:List (Nat×(Hp->Prop))) (d:Array Bool) (Z:Hp) (μ:Mu) (a:Act) (w:World),
  Fb T (Q .normal) al f D chk (lx al e0 val D) Z->left al.length D<=f->left al.length L<=H->Inv al e0 val Z chk D L->d.size=ops.size->(∀i,i<ops.size->(d.getD i Zb=Za↔i∈L))->
  R (more B ds) μ Z w->di μ N (lx al e0 val L) a.tmps->a.defers=dfs ds->μ0.le μ->Below B w0 w->wpAnyIn (Rd ro) 0 P .any ops (uN B N μ0 w0 Q) H d a w:=by
 intro H;induction H with
 |zero=>
  intro f val D L chk d Z μ a w h hf hfu hI hs hL hR he hd hμ hb;have K: ∀i,i<al.length->i∈L:=λi hi=>KD (by omega) hi
  have hlt: ∀i∈L,i<ops.size:=λi hi=>by rw[hF.len];exact hI.lt i (hI.sub i hi)
  have hnil:Region.ready .any ops d=[]:=by
   cases hr:Region.ready .any ops d with
   |nil=>rfl
   |cons i r=>
    have:=(hF.ready hs hL hlt (i:=i)).1 (by rw[hr];exact aD ..);exact absurd (K i this.1) this.2.1
  refine⟨hnil, ?_⟩;obtain⟨f',b,D',n,g1,g2,z,g4,g5,g6⟩:=QN (Q:=Q .normal) u f val D chk _ h hf rfl hI
  have J:Q .normal (lx al e0 b D') Z:=by
   have hmv:bp al D'=[]:=by
    cases hm:bp al D' with
    |nil=>rfl
    |cons i r=>
     have:=BW.1 (show i∈bp al D' by rw[hm];exact aD ..);exact absurd (g6 i (hI.sub i (K i this.1))) this.2.1
   cases f' with
   |zero=>exact g1
   |succ f'=>simp only[Fb,g4,hmv]at g1;exact g1
  have henv:lx al e0 b D'=lx al e0 val L:=by
   funext t
   by_cases hx: ∃j,j<al.length/\rM al j=O t
   .obtain⟨j,F,l⟩:=hx;rw[vc u (g6 j (hI.sub j (K j F))) l,vc u (K j F) l,g5 j (hI.sub j (K j F))]
   .rw[te (λj _ l=>hx ⟨j,DD l,l⟩),te (λj _ l=>hx ⟨j,DD l,l⟩)]
  rw[henv]at J;exact⟨.normal,_,Z,μ,trivial,J,hμ,⟨ds,hR,hd⟩,he,trivial,hb⟩
 |succ H ih=>
  intro f val D L chk d Z μ a w h hf hfu hI hs hL hR he hd hμ hb;have hlt: ∀i∈L,i<ops.size:=λi hi=>by rw[hF.len];exact hI.lt i (hI.sub i hi)
  obtain⟨f',b,D',n,g1,g2,z,g4,g5,g6⟩:=QN (Q:=Q .normal) u f val D chk _ h hf rfl hI;have hvL: ∀i∈L,b i=val i:=λi hi=>g5 i (hI.sub i hi)
  have M:di μ N (lx al e0 b L) a.tmps:=by rw[Hj hvL];exact he
  have hL': ∀i,i<ops.size->∀(hi:i∉L),(∀k,k<ops.size->((d.setIfInBounds i Za).getD k Zb=Za↔k∈i::L)):=by
   intro i hi hiL k hk;by_cases e:k=i
   .subst e;simp[hs,hk]
   .rw[getD_set_ne Zb (λe'=>e e'.symm)];rw[hL k hk];simp[e]
  have hLc: ∀i,(∀q∈ko al i,q∈L)->CP al (i::L):=by
   intro i hp k hk q J;rcases List.mem_cons.1 hk with rfl|hk
   .exact aB _ (hp q J)
   .exact aB _ (hI.lc k hk q J)
  refine⟨λhnil=> ?_,λi hi=> ?_⟩
  .
   have hDL: ∀j∈D',j∈L:=by
    intro j;induction j using Nat.strongRecOn with
    |_ j ihj=>
     intro F;by_cases E:j∈L
     .exact E
     .exfalso;have hr:=(hF.ready hs hL hlt (i:=j)).2 ⟨z.lt j F,E,λq J=>ihj q (SP u (z.lt j F) J) (z.dc j F q J)⟩;rw[hnil]at hr;cases hr
   have J:Q .normal (lx al e0 b D') Z:=by
    have hmv:bp al D'=[]:=by
     cases hm:bp al D' with
     |nil=>rfl
     |cons i r=>
      exfalso;have:=BW.1 (show i∈bp al D' by rw[hm];exact aD ..);have hr:=(hF.ready hs hL hlt (i:=i)).2 ⟨this.1,λh=>this.2.1 (z.sub i h),λq J=>hDL q (this.2.2.1 q J)⟩;rw[hnil]at hr;cases hr
    cases f' with
    |zero=>exact g1
    |succ f'=>simp only[Fb,g4,hmv]at g1;exact g1
   have henv:lx al e0 b D'=lx al e0 b L:=by
    funext t
    by_cases hx: ∃j∈L,rM al j=O t
    .obtain⟨j,F,l⟩:=hx;rw[vc u (z.sub j F) l,vc u F l]
    .rw[te (λj F l=>hx ⟨j,hDL j F,l⟩),te (λj F l=>hx ⟨j,F,l⟩)]
   rw[henv]at J;exact⟨.normal,_,Z,μ,trivial,J,hμ,⟨ds,hR,hd⟩,M,trivial,hb⟩
  .
   obtain⟨k1,k2,k3⟩:=(hF.ready hs hL hlt).1 hi;have hio:i<ops.size:=hF.len▸k1;have hoi:ops[i]?=O ops[i]:=Array.getElem?_eq_getElem hio;obtain⟨x,hx,U⟩:=hF.op i _ hoi;have X:left al.length (i::L)<=H:=by have:=KC k1 k2;omega
   have hs':(d.setIfInBounds i Za).size=ops.size:=by simpa using hs
   have W:rM al i=x.dst:=by simp[rM,hx]
   unfold K0 at U;split at U
   case h_2=>cases U
   rename_i op g t1 t2;split at U
   case isFalse=>cases U
   rename_i t3;injection U with U
   subst U
   have I: ∀t∈(⟨ops[i].dst,op,g⟩:AOper).looks,lx al e0 b L t=GO al e0 b i t:=by
    intro t ht;exact RI u z.lc k1 k2 k3 (by simpa[Ht,hx]using ht)
   have hwant:=Qm (op:=op) t2 M;rw[E9 I]at hwant;unfold wpOpIn;rw[hoi];simp only;rw[hwant];by_cases C:i∈D'
   .
    obtain⟨x',p,y1,y2,y3⟩:=z.tells i C k2;rw[hx]at y1;injection y1 with y1
    injection y1 with y1 _
    subst y1
    have hInv': ∀(μ':Mu) (w':World),Inv al e0 b Z n D' (i::L):=λμ' w'=>
     ⟨z.dc,hLc i k3,λk hk=>(List.mem_cons.1 hk).elim (λe=>e▸C) (z.sub k),z.lt,λj F E=>z.tells j F λh=>E (aB _ h)⟩
    rcases y3 with⟨y4,y5,_⟩|⟨y4,y5⟩
    .rw[y4];rw[zE rfl]
     have hrun:bn T op (lx al e0 b L) Z λv Z'=>v=b i/\Z'=Z:=by
      have:op.run (lx al e0 b L) Z=O (b i,Z):=by
       rw[DU (e':=GO al e0 b i) λt ht=>I t (by simp[AOper.looks,ht])];exact y5
      unfold bn;cases op<;>simp[AOp.still]at y2<;>simp only[this]<;>exact⟨trivial,trivial⟩
     refine N9 hT t1 hrun M hR λv Z' v' μ' w' hk hμ' hR' hv hbel=> ?_
     obtain⟨rfl,rfl⟩:=hk;refine ih f' b D' (i::L) n _ Z' μ' _ w' g1 g2 X (hInv' μ' w') hs' (hL' i hio k2) hR' ?_ (by rw[yy];exact hd) (Mu.le_trans hμ hμ') (hb.trans hbel);rw[BP u i k2,W];exact(M.mono hμ').putO t3 hv
    .rw[y4];simp only[Bool.false_eq_true,if_false];refine⟨λ_ _=>trivial, ?_⟩;refine ih f' b D' (i::L) n _ Z μ _ w g1 g2 X (hInv' μ w) hs' (hL' i hio k2) hR ?_ (by rw[yy];exact hd) hμ hb;rw[BP u i k2,W,y5];exact M.putO t3 (VR.undef μ)
   .
    have hpD: ∀q∈ko al i,q∈D':=λq J=>z.sub q (k3 q J)
    have hst:=NO g4 k1 C hpD;have hmem:i∈bp al D':=BW.2 ⟨k1,C,hpD,hst⟩
    have S: ∀t∈(⟨ops[i].dst,op,g⟩:AOper).looks,lx al e0 b D' t=GO al e0 b i t:=by
     intro t ht;exact RI u z.dc k1 C hpD (by simpa[Ht,hx]using ht)
    have hsame: ∀t∈(⟨ops[i].dst,op,g⟩:AOper).looks,lx al e0 b D' t=lx al e0 b L t:=λt ht=>(S t ht).trans (I t ht).symm
    obtain⟨V,rfl⟩: ∃V,f'=V+1:=⟨f'-1,by have:=ag3 k1 C;omega⟩
    have hleft:left al.length (i::D')<=V:=by have:=KC k1 C;omega
    simp only[Fb,g4]at g1
    have A:(if wanted ⟨ops[i].dst,op,g⟩ (lx al e0 b D')then bn T op (lx al e0 b D') Z λv Z'=>DK al i Z' n/\Fb T (Q .normal) al V (i::D') n ((lx al e0 b D').putO ops[i].dst v) Z'
      else Fb T (Q .normal) al V (i::D') n ((lx al e0 b D').putO ops[i].dst undef) Z):=by
     cases hm:bp al D' with
     |nil=>rw[hm]at hmem;cases hmem
     |cons m r=>
      rw[hm]at g1 hmem;simp only at g1;have:=SA g1 i hmem;simp only[hx]at this;exact this
    rw[E9 S]at A
    have hDc:CP al (i::D'):=by
     intro k hk q J;rcases List.mem_cons.1 hk with rfl|hk
     .exact aB _ (hpD q J)
     .exact aB _ (z.dc k hk q J)
    have hlag: ∀j∈i::D',j∉i::L->j∈D'/\j∉L:=λj F E=>
     ⟨(List.mem_cons.1 F).elim (λe=>absurd (e▸aD ..) E) id,λh=>E (aB _ h)⟩
    have hval: ∀v,∀k∈D',upd b i v k=b k:=λv k hk=>zF λ(e:k=i)=>C (e▸hk)
    have henvD: ∀v,(lx al e0 b D').putO ops[i].dst v=lx al e0 (upd b i v) (i::D'):=by
     intro v;rw[BP u i C,Hj (hval v),W]
     congr 1
     exact(zE rfl).symm
    have henvL: ∀v,(lx al e0 b L).putO ops[i].dst v=lx al e0 (upd b i v) (i::L):=by
     intro v;rw[BP u i k2,Hj (λk hk=>hval v k (z.sub k hk)),W]
     congr 1
     exact(zE rfl).symm
    split at A
    .rename_i hw1;rw[hw1,zE rfl];refine N9 hT t1 (TX (λt ht=>hsame t (by simp[AOper.looks,ht])) A) M hR λv Z' v' μ' w' hk hμ' hR' hv hbel=> ?_
     obtain⟨hk1,hk2⟩:=hk;rw[henvD v]at hk2;refine ih V (upd b i v) (i::D') (i::L) n _ Z' μ' _ w' hk2 hleft X ⟨hDc,hLc i k3,λk hk=>(List.mem_cons.1 hk).elim (λe=>e▸aD ..) λh=>aB _ (z.sub k h),λk hk=>(List.mem_cons.1 hk).elim (λe=>e▸k1) (z.lt k),λj F E=> ?_⟩ hs' (hL' i hio k2) hR' ?_ (by rw[yy];exact hd) (Mu.le_trans hμ hμ') (hb.trans hbel)
     .obtain⟨hjD,hjL'⟩:=hlag j F E;have ht:=(z.tells j hjD hjL').upd (i:=i) (v:=v) z.dc hjD C;obtain⟨x',p,z1,z2,z3⟩:=ht;refine⟨x',p,z1,z2,z3.imp (λ⟨z4,z5,z6⟩=>⟨z4, ?_,z6⟩) id⟩;cases hl:x'.op.isLoad with
      |false=>exact Qd z2 hl z5 Z'
      |true=>
       obtain⟨c,z7,z8⟩:=z6 hl;refine z8 Z' (Hs hk1 j c z7 ?_);cases hbf:xr al j i with
       |false=>rfl
       |true=>exact absurd (z.lc.bef _ _ hbf k3) hjL'
     .rw[<-henvL v];exact(M.mono hμ').putO t3 hv
    .rename_i hw1;rw[zF hw1];rw[henvD undef]at A;refine⟨λ_ _=>trivial, ?_⟩;refine ih V (upd b i undef) (i::D') (i::L) n _ Z μ _ w A hleft X ⟨hDc,hLc i k3,λk hk=>(List.mem_cons.1 hk).elim (λe=>e▸aD ..) λh=>aB _ (z.sub k h),λk hk=>(List.mem_cons.1 hk).elim (λe=>e▸k1) (z.lt k),λj F E=> ?_⟩ hs' (hL' i hio k2) hR ?_ (by rw[yy];exact hd) hμ hb
     .obtain⟨hjD,hjL'⟩:=hlag j F E;exact(z.tells j hjD hjL').upd z.dc hjD C
     .rw[<-henvL undef];exact M.putO t3 (VR.undef μ)
end
end
section
open Go.RowKit
def w8 (T:lj):Prop:= ∀f args Z (K K':Value->Hp->Prop),(∀r Z',K r Z'->K' r Z')->T f args Z K->T f args Z K'
theorem qo {T:lj}(d:w8 T){k l:Value->Hp->Prop}(b: ∀v Z',k v Z'->l v Z')(h:bn T op e Z k):bn T op e Z l:=by
 unfold bn at*;cases op<;>simp only at h⊢
 case call f xs=>exact d _ _ _ _ _ b h
 case callv f xs=>
  split at h
  .exact⟨h.1,d _ _ _ _ _ b h.2⟩
  .exact h.elim
 case rangeF f n x=>
  split at h
  .exact⟨h.1,h.2.1,d _ _ _ _ _ (λ_ Z' q=>⟨q.1,b _ _ q.2⟩) h.2.2⟩
  .exact h.elim
 all_goals
  split at h
  .exact b _ _ h
  .exact h.elim
section
variable {T:lj}
theorem Fc (b:w8 T){Q Q':cj->Hp->Prop}(d: ∀e Z,Q e Z->Q' e Z): ∀(l:List AOper) (e:cj) (Z:Hp),AH T Q l e Z->AH T Q' l e Z
 |[],e,Z,h=>d e Z h
 |o::l,e,Z,h=>by
  simp only[AH]at h⊢;split at h
  .rename_i k;rw[zE k];exact qo b (λv Z' m=>Fc b d l _ Z' m) h
  .rename_i k;rw[zF k];exact Fc b d l _ Z h
theorem Pe {f g:Nat->Prop}(h: ∀m,f m->g m): ∀{l:List Nat},MU f l->MU g l
 |[],_=>trivial
 |[_],b=>h _ b
 |_::_::_,b=>⟨h _ b.1,Pe h b.2⟩
theorem Ha (l:w8 T){Q Q':cj->Hp->Prop}(k: ∀e Z,Q e Z->Q' e Z){ops:List (AOper×List Nat)}: ∀(f:Nat) (done:List Nat) (b:List (Nat×(Hp->Prop))) (e:cj) (Z:Hp),Fb T Q ops f done b e Z->Fb T Q' ops f done b e Z
 |0,done,b,e,Z,h=>k e Z h
 |f+1,done,b,e,Z,h=>by
  simp only[Fb]at h⊢;split at h
  .split at h
   .split at h
    .rename_i d;rw[zE d];split at h
     .exact Ha l k f _ _ _ _ h
     .exact h.elim
    .rename_i d;rw[zF d];exact Ha l k f _ _ _ _ h
   .exact h.elim
  .split at h
   .exact k e Z h
   .refine Pe (λm n=> ?_) h;split at n
    .split at n
     .rename_i d;rw[zE d];exact qo l (λv Z' p=>⟨p.1,Ha l k f _ _ _ _ p.2⟩) n
     .rename_i d;rw[zF d];exact Ha l k f _ _ _ _ n
    .exact n.elim
theorem Hb (d:w8 T){Q Q':cj->Hp->Prop}(k: ∀e Z,Q e Z->Q' e Z): ∀(l:List SItem) (b:List (Nat×(Hp->Prop))) (e:cj) (Z:Hp),R0 T Q l b e Z->R0 T Q' l b e Z
 |[],_,e,Z,h=>k e Z h
 |it::l,b,e,Z,h=>by
  simp only[R0]at h⊢;split at h
  .rename_i n;rw[zE n];split at h
   .rename_i m;rw[zE m];exact qo d (λv Z' p=>⟨p.1,Hb d k l _ _ Z' p.2⟩) h
   .rename_i m;rw[zF m];split at h
    .exact Hb d k l _ _ Z h
    .exact h.elim
  .rename_i n;rw[zF n];exact Hb d k l _ _ Z h
theorem CM {f:(AExit->cj->Hp->Prop)->cj->Hp->Prop}(k: ∀(Q Q':AExit->cj->Hp->Prop),(∀x e Z,Q x e Z->Q' x e Z)->∀e Z,f Q e Z->f Q' e Z){Q Q':AExit->cj->Hp->Prop}(b: ∀x e Z,Q x e Z->Q' x e Z):
  ∀(n:Nat) (e:cj) (Z:Hp),od f Q n e Z->od f Q' n e Z
 |0,_,_,h=>h.elim
 |n+1,e,Z,h=>by
  simp only[od]at h⊢;refine k _ _ (λx e' Z' d=> ?_) e Z h;cases x with
  |normal=>exact CM k b n e' Z' d
  |exit id=>exact b _ _ _ d
  |ret=>exact b _ _ _ d
theorem fg (p:w8 T): ∀(c:AC) (Q Q':AExit->cj->Hp->Prop),(∀x e Z,Q x e Z->Q' x e Z)->∀(e:cj) (Z:Hp),yd T c Q e Z->yd T c Q' e Z:=by
 intro c;induction c with
 |skip=>intro Q Q' d e Z h;exact d _ _ _ h
 |region ops=>intro Q Q' d e Z h;exact Fc p (d .normal) ops e Z h
 |draw ops=>intro Q Q' d e Z h;exact Ha p (d .normal) _ _ _ e Z h
 |sched u=>intro Q Q' d e Z h;exact Hb p (d .normal) u [] e Z h
 |seq a b l m=>
  intro Q Q' d e Z h;refine l _ _ (λx e' Z' k=> ?_) e Z h;cases x with
  |normal=>exact m Q Q' d e' Z' k
  |exit id=>exact d _ _ _ k
  |ret=>exact d _ _ _ k
 |cond c a b l m=>
  intro Q Q' d e Z h;simp only[yd]at h⊢;split at h
  .exact l Q Q' d e Z h
  .exact m Q Q' d e Z h
  .exact h.elim
 |block id b r=>
  intro Q Q' d e Z h;refine r _ _ (λx e' Z' k=> ?_) e Z h;cases x with
  |normal=>exact d _ _ _ k
  |exit i=>
   simp only at k⊢;split at k
   .rename_i q;rw[zE q];exact d _ _ _ k
   .rename_i q;rw[zF q];exact d _ _ _ k
  |ret=>exact d _ _ _ k
 |loop b r=>
  intro Q Q' d e Z h;obtain⟨n,z⟩:=h;exact⟨n,CM (f:=yd T b) r d n e Z z⟩
 |exit id=>intro Q Q' d e Z h;exact d _ _ _ h
 |ret=>intro Q Q' d e Z h;exact d _ _ _ h
def AC.outs :AC->Nat->Bool
 | .seq a b,i| .cond _ a b,i=>a.outs i||b.outs i
 | .block id b,i=>b.outs i&& !(i==id)
 | .loop b,i=>b.outs i
 | .exit j,i=>i==j
 |_,_=>Zb
def UM (c:AC)(Q:AExit->cj->Hp->Prop):AExit->cj->Hp->Prop:=λx e Z=>(∀i,x= .exit i->c.outs i=Za)/\Q x e Z
theorem GH {c:AC}{Q:AExit->cj->Hp->Prop}:UM c Q .normal=Q .normal:=by
 funext e Z
 exact propext ⟨λh=>h.2,λh=>⟨λi b=>(by cases b),h⟩⟩
theorem LF {f:(AExit->cj->Hp->Prop)->cj->Hp->Prop}{b:AC}(l: ∀(Q Q':AExit->cj->Hp->Prop),(∀x e Z,Q x e Z->Q' x e Z)->∀e Z,f Q e Z->f Q' e Z)
  (m: ∀Q e Z,f Q e Z->f (UM b Q) e Z) {Q:AExit->cj->Hp->Prop}: ∀(n:Nat) (e:cj) (Z:Hp),od f Q n e Z->od f (UM b Q) n e Z
 |0,_,_,h=>h.elim
 |n+1,e,Z,h=>by
  simp only[od]at h⊢;refine l _ _ (λx e' Z' p=> ?_) e Z (m _ e Z h);obtain⟨k,d⟩:=p;cases x with
  |normal=>exact LF l m n e' Z' d
  |exit id=>exact⟨k,d⟩
  |ret=>exact⟨k,d⟩
theorem UD (q:w8 T): ∀(c:AC) (Q:AExit->cj->Hp->Prop) (e:cj) (Z:Hp),yd T c Q e Z->yd T c (UM c Q) e Z:=by
 intro c;induction c with
 |skip=>intro Q e Z h;exact⟨λi d=>(by cases d),h⟩
 |region ops=>intro Q e Z h;simp only[yd]at h⊢;rw[GH];exact h
 |draw ops=>intro Q e Z h;simp only[yd]at h⊢;rw[GH];exact h
 |sched C=>intro Q e Z h;simp only[yd]at h⊢;rw[GH];exact h
 |seq a b m p=>
  intro Q e Z h;simp only[yd]at h⊢;refine fg q a _ _ (λx e' Z' k=> ?_) e Z (m _ e Z h);obtain⟨r,l⟩:=k;cases x with
  |normal=>exact fg q b _ _ (λx e Z k=>⟨λi d=>by rw[AC.outs,k.1 i d,Bool.or_true],k.2⟩) e' Z' (p Q e' Z' l)
  |exit id=>exact⟨λi d=>by rw[AC.outs,r i d,Bool.true_or],l⟩
  |ret=>exact⟨λi d=>(by cases d),l⟩
 |cond c a b m p=>
  intro Q e Z h;simp only[yd]at h⊢;split at h
  .exact fg q a _ _ (λx e Z k=>⟨λi d=>by rw[AC.outs,k.1 i d,Bool.true_or],k.2⟩) e Z (m Q e Z h)
  .exact fg q b _ _ (λx e Z k=>⟨λi d=>by rw[AC.outs,k.1 i d,Bool.or_true],k.2⟩) e Z (p Q e Z h)
  .exact h.elim
 |block id b z=>
  intro Q e Z h;simp only[yd]at h⊢;refine fg q b _ _ (λx e' Z' k=> ?_) e Z (z _ e Z h);obtain⟨r,l⟩:=k;cases x with
  |normal=>exact⟨λi d=>(by cases d),l⟩
  |exit i=>
   simp only at l⊢;split at l
   .rename_i d;rw[zE d];exact⟨λi d=>(by cases d),l⟩
   .rename_i d;rw[zF d];refine⟨λj u=> ?_,l⟩;injection u with u
    subst u;rw[AC.outs,r i rfl];simp[d]
  |ret=>exact⟨λi d=>(by cases d),l⟩
 |loop b z=>
  intro Q e Z h;obtain⟨n,A⟩:=h;exact⟨n,LF (f:=yd T b) (fg q b) z n e Z A⟩
 |exit id=>
  intro Q e Z h;refine⟨λi d=> ?_,h⟩;injection d with d
  subst d;simp[AC.outs]
 |ret=>intro Q e Z h;exact⟨λi d=>(by cases d),h⟩
end
end
end Go.Ab
