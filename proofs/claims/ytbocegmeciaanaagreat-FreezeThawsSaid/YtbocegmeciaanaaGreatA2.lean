/- A part of the proofs of this claim: what functions of the program answer on an abstract machine, and plain laws. No condition. -/
import Derived.Test.YtbocegmeciaanaaGreatA1
import Derived.Laws.BytesString
import Derived.Laws.RangeAny
import Derived.Laws.IdiomStrings
import Derived.Laws.Cover4
import Derived.Lib.OthersKept
set_option linter.unusedVariables false
set_option linter.unusedSimpArgs false
set_option linter.unusedSectionVars false
namespace Go.Ab
open Option renaming some->C,none->O
open Bool renaming true->Za,false->Zb
open Decidable renaming decide->Zc
section
open Bool renaming false_eq_true -> eD
open Builtin renaming firstCells -> aB, zeroCells -> bD, append_ -> iA, lenOf -> iB
open List renaming length_append -> dB, map_cons -> fB, map_nil -> fD, map_toArray -> gB, take_left -> iC, getElem?_drop -> iE, getElem?_take -> iF, append_assoc -> iG, getElem?_eq_getElem -> iH, getElem?_eq_none -> iI
open Nat renaming le_refl -> cB, add_mul -> dD, zero_add -> gD, mul_le_mul_right -> iD
open Result renaming andThen_ok -> aD
open Sem renaming run_bind -> bB, run_pure -> cD
open Go.RowKit
section
variable {P:Program} {o:Oper} {a:Act} {w w':World} {B:Base P} {N:Nat} {Z:Mu} {e:ey} {Y Y':Hp} {v:Value}
theorem bW9 {x:Blk}{o:Nat}{cs:List Value}(h:w8 x o 0=C cs):cs=[]:=by
 unfold w8 at h;split at h
 .simpa using h.symm
 .cases h
theorem am0 {es n ln:Nat}{x x':Value}{cs:List Value}(hl:aZ3 x=C ln)(hle:n<=ln)(h:Y.slice es x n=C cs)(hR:R B Z Y w)(hx:VR Z x x'):
  ∃arr:Array Value,(∀w':World,w'.heap=w.heap->(aB es n x').run P w'= .ok arr w')/\F2 (VR Z) cs arr.toList:=by
 unfold Hp.slice at h;split at h
 .rename_i b off l c;simp[aZ3]at hl;subst hl;split at h
  .rename_i hn0;injection h with h
   subst h;subst hn0;rcases hx.slice_inv with⟨g,c',hg,_,_,_,rfl⟩|⟨rfl,rfl,A',rfl,_⟩
   .exact⟨#[],λ_ _=>by simp[aB,loadCells,loadCellsFrom], .nil⟩
   .exact⟨#[],λ_ _=>by simp[aB,loadCells,loadCellsFrom], .nil⟩
  split at h
  .rename_i blk hblk;rcases hx.slice_inv with⟨g,c',hg,_,_,_,rfl⟩|⟨rfl,rfl,A',rfl,_⟩
   .obtain⟨cs',h1,h2⟩:=hR.reads hblk hg h;exact⟨cs'.toArray,λw' hw'=>by simp[aB,h1 P w' hw'],h2⟩
   .have:n=0:=by omega
    subst this;rw[Nat.zero_mul]at h;rw[bW9 h];exact⟨#[],λ_ _=>by simp[aB,loadCells,loadCellsFrom], .nil⟩
  .cases h
 .obtain⟨rfl,_,_⟩:=hx.nils_inv;split at h
  .injection h with h
   subst h;exact⟨#[],λ_ _=>by simp[aB], .nil⟩
  .cases h
 .rename_i s;split at h
  case isFalse=>cases h
  injection h with h
  subst h;obtain rfl:=hx.string_inv;refine⟨_,λ_ _=>by simp only[aB];rfl, ?_⟩;simp only[Array.toList_map]
  exact F2.same _ λu hu=>by
   simp only[List.mem_map]at hu;obtain⟨c,_,rfl⟩:=hu;exact .int _ _
 .cases h
theorem bJ4 {x y:Blk}{off:Nat}{vs:List Value}(h:ar9 x off vs=C y):x.own=Za/\off+vs.length<=x.cells.length/\(∀v∈vs,one v=Za)/\y=⟨qk x.cells off vs,x.own,x.es⟩:=by
 unfold ar9 at h;split at h
 .rename_i hc;injection h with h
  exact⟨hc.1,hc.2.1,λv hv=>List.all_eq_true.1 hc.2.2 v hv,h.symm⟩
 .cases h
theorem dA2 {c:Call}{x y:Operand}{t d:TypeId}{ts:List TypeId}{n:Nat}(ho:o.op= .call c)(hc:c.callee= .builtin .copy)(ha:c.args.toList=[x,y])(ht:c.argTypes.toList=t::ts)(hu:P.underlying t=C (.slice d))(hn:rm P d=C n)
  (hx:fd x=Za) (hy:fd y=Za) (hr:(AOp.copy n x y).run e Y=C (v,Y')) (he:ig Z N e a.tmps) (hR:R B Z Y w):mq P o a w B Z v Y':=by
 have hvx:=he.ev hx;have hvy:=he.ev hy;obtain⟨cst,hrun⟩:=jo (P:=P) (a:=a) ho hc w;simp only[AOp.run]at hr;split at hr
 .rename_i p dl dc hp;rw[hp]at hvx
  have hsh: ∃p' dc',a.eval x= .slice p' dl dc':=by
   generalize a.eval x=q at hvx;cases hvx<;>exact⟨_,_,rfl⟩
  obtain⟨p',dc',hq⟩:=hsh;split at hr
  .rename_i ln hln;have hln':=cX6 hln hvy
   have hlr:(iB (a.eval y)).run P w= .ok ln w:=by
    generalize a.eval y=q at*;cases q<;>simp[aZ3]at hln'<;>simp[iB,hln']
   split at hr
   .rename_i new hnew;obtain⟨arr,f1,f2⟩:=am0 (P:=P) hln (Nat.min_le_left _ _) hnew hR hvy
    have head:(execOp a.eval o).run P w=((do
      if let C a:=p' then storeCells a arr.toList
      pure (goInt (Nat.min ln dl)):Sem Value).run P w).andThen λv w=> .ok (.value v) w:=by
     simp only[hrun,builtin,Builtin.copy_,bR6 ha,gB,fB,fD,bc7 ht,hq,bB];have e1:(#[Value.slice p' dl dc',a.eval y]:Array Value)[0]?=C (.slice p' dl dc'):=rfl;have e2:(#[Value.slice p' dl dc',a.eval y]:Array Value)[1]?=C (a.eval y):=rfl;simp only[e1,e2,bB,gj hu,aD,hlr,tu hn];have f1':(aB n (ln.min dl) (a.eval y)).run P w= .ok arr w:=f1 w rfl;simp only[f1',aD];rfl
    have hstill:new=[]->mq P o a w B Z (.int .i64 (min ln dl:Nat)) Y:=by
     intro hn0;subst hn0
     have:arr= #[]:=by
      cases f2':arr.toList with
      |nil=>simpa using f2'
      |cons _ _=>rw[f2']at f2;cases f2
     subst this;refine .same hR ?_ (.int _ _);rw[head];cases p'<;>simp[storeCells,goInt]<;>rfl
    split at hr
    .rename_i b off;split at hr
     .rename_i hn0;simp only[Option.some.injEq,Prod.mk.injEq]at hr;obtain⟨rfl,rfl⟩:=hr;exact hstill hn0
     .rename_i hn0;split at hr
      .rename_i blk hblk;split at hr
       .rename_i blk' hw;simp only[Option.some.injEq,Prod.mk.injEq]at hr;obtain⟨rfl,rfl⟩:=hr;obtain⟨k1,k2,k3,rfl⟩:=bJ4 hw;rw[hq]at hvx;rcases hvx.slice_inv with⟨g,c',hg,_,_,_,hv⟩|⟨rfl,_⟩
        .injection hv with hv1 hv2 hv3
         subst hv1;obtain⟨w',g1,g2,g3⟩:=R.writes _ _ f2 k3 Y w b off 0 blk g hR hblk k1 hg (by omega);refine⟨_,w',Z, .int .i64 (min ln dl:Nat), ?_, .inl rfl,Z.le_refl,g2, .int _ _,g3⟩;rw[head];simp[g1,goInt]
        .exfalso;rw[Nat.min_zero]at hnew;unfold Hp.slice at hnew;split at hnew
         .simp at hnew;exact hn0 hnew
         .simp at hnew;exact hn0 hnew
         .simp at hnew;exact hn0 hnew.2
         .cases hnew
       .cases hr
      .cases hr
    .split at hr
     .rename_i hn0;simp only[Option.some.injEq,Prod.mk.injEq]at hr;obtain⟨rfl,rfl⟩:=hr;exact hstill hn0
     .cases hr
    .cases hr
   .cases hr
  .cases hr
 .cases hr
theorem bu9 {arr:Array Value}(h:F2 (VR Z) [] arr.toList):arr= #[]:=by
 cases f2':arr.toList with
 |nil=>simpa using f2'
 |cons _ _=>rw[f2']at h;cases h
theorem cD4 {c:Call}{x y:Operand}{st xt d:TypeId}{n by_:Nat}{z:List Value}(ho:o.op= .call c)(hc:c.callee= .builtin .append)(ha:c.args.toList=[x,y])(ht:c.argTypes.toList=[st,xt])(hu:P.underlying st=C (.slice d))
  (hxt:(∃q,P.underlying xt=C (.slice q))∨P.underlying xt=C .string) (hn:rm P d=C n) (hb:cD8 P d=C by_) (hz:vi P d=C z)
  {p':Option Addr} {sl sc ln:Nat} (hq:a.eval x= .slice p' sl sc) (hln:aZ3 (a.eval y)=C ln) {arr:Array Value} (harr:(aB n ln (a.eval y)).run P w= .ok arr w):
  (sl+ln<=sc->(execOp a.eval o).run P w=((do
    if let C a:=p' then storeCells (a.add (sl*n)) arr.toList
    pure (.slice p' (sl+ln) sc):Sem Value).run P w).andThen λv w=> .ok (.value v) w)/\
  (sc<sl+ln->(sl+ln)*by_<=140737488355328->sl+ln<=9223372036854775807->∀old:Array Value,(aB n sl (.slice p' sl sc)).run P w.drew= .ok old w.drew->(aB n ln (a.eval y)).run P w.drew= .ok arr w.drew->
   ∃cap,sl+ln<=cap/\∃zz:Value,cellsOf zz=z/\(execOp a.eval o).run P w= .ok (.value (.slice (C ⟨w.heap.size,0,O⟩) (sl+ln) cap)) (w.drew.alloc (.cells (old++arr++bD zz.cells (cap-(sl+ln))) d))):=by
 obtain⟨cst,hrun⟩:=jo (P:=P) (a:=a) ho hc w
 have hlr:(iB (a.eval y)).run P w= .ok ln w:=by
  generalize a.eval y=q at*;cases q<;>simp[aZ3]at hln<;>simp[iB,hln]
 obtain⟨i,hi,hib⟩:=Option.map_eq_some_iff.1 hb;have hinfo: ∀w:World,(typeInfo d).run P w= .ok i w:=λw=>by simp[typeInfo,hi]
 have e1:(#[Value.slice p' sl sc,a.eval y]:Array Value)[0]?=C (.slice p' sl sc):=rfl;have e2:(#[Value.slice p' sl sc,a.eval y]:Array Value)[1]?=C (a.eval y):=rfl;have e3:(#[st,xt]:Array TypeId)[0]?=C st:=rfl;have e4:(#[st,xt]:Array TypeId)[1]?=C xt:=rfl;refine⟨λhfit=> ?_,λhgrow hbytes hmax old hold hnew=> ?_⟩
 .rw[hrun];rcases hxt with⟨q,hdd⟩|hdd
  all_goals
   simp only[builtin,iA,bR6 ha,bR6 ht,gB,fB,fD,hq,e1,e2,e3,e4,bB,gj hu,gj hdd,aD,tu hn,cD,eD,if_false,hlr,Bool.not_false,if_true];rw[xB hfit];simp only[bB,harr,aD];rfl
 .obtain⟨zz,z1,z2,z3⟩:=tc hz;refine⟨grownCap w (sl+ln) sc d,grownCap_ge _ _ _ _,zz,z2, ?_⟩;have hfits:=growslice_fits hgrow hbytes;rw[hrun];rcases hxt with⟨q,hdd⟩|hdd
  all_goals
   simp only[builtin,iA,bR6 ha,bR6 ht,gB,fB,fD,hq,e1,e2,e3,e4,bB,gj hu,gj hdd,aD,tu hn,cD,eD,if_false,hlr,Bool.not_false,if_true];rw[xD (by omega)];simp only[bB,hinfo,aD,hib,false_or]
   have h63: ¬(((sl+ln:Nat):Int) > IntKind.i64.max/\by_=0):=by
    have:IntKind.i64.max=9223372036854775807:=by decide
    omega
   rw[xD h63];simp only[bB,hinfo,aD,hib];rw[xD (by omega)];simp only[bB,run_choose,Question.forced,eD,if_false,World.drew_eq,aD,hinfo,run_askRoom,hold,hnew,z1,newRow,run_newObj,cD,World.alloc_eq];rfl
theorem aD2 (z:Array Value)(n:Nat):(bD z n).size=n*z.size:=by simp[bD]
theorem aU2 (Y:Hp)(hR:R B Z Y w):R B Z Y w.drew:=hR.same rfl
theorem dt4 {α:Type}(A M T:List α):(A++(M++T)).take (A.length+M.length)=A++M:=by
 rw[<-iG,<-dB,iC]
theorem bD9 {x:Blk}{o n:Nat}{cs:List Value}(h:w8 x o n=C cs):cs.length=n:=by
 unfold w8 at h;split at h
 .injection h with h
  subst h;simp;omega
 .cases h
theorem dh1 {es n:Nat}{x:Value}{cs:List Value}(h:Y.slice es x n=C cs)(hs: ∀s,x= .string s->n<=s.size):cs.length=n*es:=by
 unfold Hp.slice at h;split at h
 .split at h
  .rename_i hn;injection h with h;subst h hn;simp
  split at h
  .exact bD9 h
  .cases h
 .split at h
  .rename_i hn;injection h with h;subst h hn;simp
  .cases h
 .rename_i s;split at h
  case isFalse=>cases h
  rename_i h2;injection h with h
  subst h;have h1:=hs s rfl;subst h2;simp;omega
 .cases h
theorem R.moved (hR:R B Z Y w){b:Nat}{blk:Blk}{g:G}(hblk:Y.m b=C blk)(hown:blk.own=Za)(hg:Z.at b g){off n:Nat}{cells:List Value}{cur:Array Value}{t:TypeId}
  (hlt:w.heap.size=w'.heap.size) (hnew:w'.heap[g.c]?=C (.cells cur t (0,0))) (hoth: ∀k,k≠g.c->w'.heap[k]?=w.heap[k]?) (hsz:g.o+g.ext<=cur.size) (hfit:off+cells.length<=g.ext)
  (hc:F2 (VR Z) cells ((cur.toList.drop (g.o+off)).take cells.length)):
  R B (Z.add Y.n ⟨g.c,g.o+off,g.ext-off,n,t,O⟩) ((Y.set b O).add ⟨cells,Za,n⟩) w'/\Z.le (Z.add Y.n ⟨g.c,g.o+off,g.ext-off,n,t,O⟩):=by
 have hf:Z Y.n=O:=hR.fresh _ (cB _);have hle':Z.le (Z.add Y.n ⟨g.c,g.o+off,g.ext-off,n,t,O⟩):=Mu.le_add hf;have hl:=hR.get hblk hg.1;obtain⟨o1,o2,_⟩:=hl.own hg.2 hown;have hbn:b≠Y.n:=λe=>by have:=hg.1;rw[e,hf]at this;cases this
 have old: ∀b' x,b'≠Y.n->((Y.set b O).add ⟨cells,Za,n⟩).m b'=C x->Y.m b'=C x/\b'≠b:=by
  intro b' x hb hx;have hb2:b'≠(Y.set b O).n:=hb;simp only[Hp.add,xD hb2]at hx;simp only[Hp.set]at hx;split at hx
  .cases hx
  .rename_i h;exact⟨hx,h⟩
 have new: ∀x,((Y.set b O).add ⟨cells,Za,n⟩).m Y.n=C x->x=⟨cells,Za,n⟩:=by
  intro x hx;have hb2:Y.n=(Y.set b O).n:=rfl;simp only[Hp.add,xB hb2]at hx;exact(Option.some.inj hx).symm
 refine⟨⟨by rw[<-hlt];exact hR.base,λk hk=>(hoth k (by omega)).trans (hR.old k hk),λb' hb=> ?_,λb' x hx=> ?_,λb1 b2 x x' g1 g2 hx hx' hne ho hg1 hg2=> ?_, ?_⟩,hle'⟩
 .have:Y.n+1<=b':=hb;unfold Mu.add;rw[xD (by omega)];exact hR.fresh b' (by omega)
 .by_cases hb:b'=Y.n
  .subst hb;obtain rfl:=new x hx;refine⟨⟨g.c,g.o+off,g.ext-off,n,t,O⟩,by simp[Mu.add],⟨by rw[<-hlt];exact hl.lt,rfl,λ_ i v hv=> ?_,λ_ _=>⟨o1,by simp;omega,cur,t,hnew,by simp;omega⟩,λ_ hs=>(by cases hs),λhs=>by cases hs⟩⟩;obtain⟨v',h1,h2⟩:=hc.get i v hv
   have hi:i<cells.length:=by
    rcases Nat.lt_or_ge i cells.length with h3|h3
    .exact h3
    .simp[iI h3]at hv
   refine⟨v', ?_,h2.mono hle'⟩;rw[cell_of_row _ _ _ cur t (0,0) hnew];rw[iF,xB hi,iE]at h1;simpa using h1
  .obtain⟨hx',hbb⟩:=old b' x hb hx;obtain⟨g',h1,h2⟩:=hR.live b' x hx';have hne:g'.c≠g.c:=λe=>hR.inj b b' blk x g g' hblk hx' (λe=>hbb e.symm) hown hg.1 h1 e.symm
   exact⟨g',hle' _ _ h1,(hR.stays hx' h1 (by rw[hlt];exact cB _) g.c (λk hk _=>hoth k hk) hne (λhi hk=>(hR.sep b' x g' hx' h1 hi _ hk b blk g hblk hg.1).1 rfl)).mono hle'⟩
 .by_cases hb:b1=Y.n
  .subst hb;have hb':b2≠Y.n:=λe=>hne e.symm
   have e1:g1.c=g.c:=by simp[Mu.add]at hg1;rw[<-hg1]
   have h2:Z b2=C g2:=by simpa[Mu.add,hb']using hg2
   obtain⟨hx2,hb2⟩:=old b2 x' hb' hx';rw[e1];exact hR.inj b b2 blk x' g g2 hblk hx2 (λe=>hb2 e.symm) hown hg.1 h2
  .have h1:Z b1=C g1:=by simpa[Mu.add,hb]using hg1
   obtain⟨hx1,hb1⟩:=old b1 x hb hx;by_cases hb':b2=Y.n
   .subst hb';have e1:g2.c=g.c:=by simp[Mu.add]at hg2;rw[<-hg2]
    rw[e1];exact λe=>hR.inj b b1 blk x g g1 hblk hx1 (λe=>hb1 e.symm) hown hg.1 h1 e.symm
   .have h2:Z b2=C g2:=by simpa[Mu.add,hb']using hg2
    exact hR.inj b1 b2 x x' g1 g2 hx1 (old _ _ hb' hx').1 hne ho h1 h2
 .refine hR.sep.of (λb' x g' hx hg'=> ?_) (λb' x g' hx hg' hi hl'=> ?_)
  .by_cases hb:b'=Y.n
   .subst hb;have e1:g'=⟨g.c,g.o+off,g.ext-off,n,t,O⟩:=by simp[Mu.add]at hg';exact hg'.symm
    subst e1;exact .inr ⟨λh0=>(by cases h0),λb1 x1 g1 k h1 h2 h3 h4=>(hR.sep b1 x1 g1 h1 h2 h3 k h4 b blk g hblk hg.1).1⟩
   .exact .inl ⟨x,(old b' x hb hx).1,by simpa[Mu.add,hb]using hg'⟩
  .have hbb:b'≠b:=λe=>by subst e;rw[hg.1]at hg';injection hg' with hg';subst hg';rw[hg.2]at hi;cases hi
   unfold wR;rw[hoth _ (λe=>hR.inj b b' blk x g g' hblk hx (λe=>hbb e.symm) hown hg.1 hg' e.symm)]
theorem bI2 {x:Operand}{d:TypeId}{n by_:Nat}{z:List Value}{p:Option Addr}{sl sc ln:Nat}{new:List Value}{arr:Array Value}(hzn:z.length=n)(f2:F2 (VR Z) new arr.toList)(hlen:new.length=ln*n)
  (hp:e.ev x= .slice p sl sc) (hx:fd x=Za) (hr:up n by_ Y p sl sc ln new=C (v,Y')) (he:ig Z N e a.tmps) (hR:R B Z Y w)
  (hhead: ∀{p':Option Addr} {sc':Nat},a.eval x= .slice p' sl sc'->(sl+ln<=sc'->(execOp a.eval o).run P w=((do
    if let C a:=p' then storeCells (a.add (sl*n)) arr.toList
    pure (.slice p' (sl+ln) sc'):Sem Value).run P w).andThen λv w=> .ok (.value v) w)/\
   (sc'<sl+ln->(sl+ln)*by_<=140737488355328->sl+ln<=9223372036854775807->∀old:Array Value,(aB n sl (.slice p' sl sc')).run P w.drew= .ok old w.drew->
    ∃cap,sl+ln<=cap/\∃zz:Value,cellsOf zz=z/\(execOp a.eval o).run P w= .ok (.value (.slice (C ⟨w.heap.size,0,O⟩) (sl+ln) cap)) (w.drew.alloc (.cells (old++arr++bD zz.cells (cap-(sl+ln))) d)))):mq P o a w B Z v Y':=by
 have hvx:=he.ev hx;rw[hp]at hvx;unfold up at hr;split at hr
 .rename_i hfit;split at hr
  .rename_i b off
   have hcase: ∃p' sc',a.eval x= .slice p' sl sc'/\sc<=sc'/\VR Z (.slice (C ⟨b,off,O⟩) (sl+ln) sc) (.slice p' (sl+ln) sc')/\(new≠[]->∃g,Z.at b g/\p'=C ⟨g.c,g.o+off,O⟩):=by
    rcases hvx.slice_inv with⟨g,c',hg,h1,h2,h3,hv⟩|⟨h1,h2,A',hv,g0,hg0⟩
    .exact⟨_,c',hv,h2, .slice hg hfit h2 h3,λ_=>⟨g,hg,rfl⟩⟩
    .subst h1 h2;have:ln=0:=by omega
     subst this;exact⟨_,0,hv,cB _, .slice0 _ hg0,λhne=>absurd (List.eq_nil_of_length_eq_zero (by simpa using hlen)) hne⟩
   obtain⟨p',sc',hq,hle,hvr,hwhere⟩:=hcase;obtain⟨head,_⟩:=hhead hq;have head:=head (by omega);split at hr
   .rename_i hn0;simp only[Option.some.injEq,Prod.mk.injEq]at hr;obtain⟨rfl,rfl⟩:=hr;subst hn0;have:=bu9 f2;subst this;refine .same hR ?_ hvr;rw[head];cases p'<;>simp[storeCells]
   .rename_i hn0;split at hr
    .rename_i blk hblk;split at hr
     .rename_i blk' hw;simp only[Option.some.injEq,Prod.mk.injEq]at hr;obtain⟨rfl,rfl⟩:=hr;obtain⟨k1,k2,k3,rfl⟩:=bJ4 hw;obtain⟨g,hg,rfl⟩:=hwhere hn0;obtain⟨w',g1,g2,g3⟩:=R.writes _ _ f2 k3 Y w b (off+sl*n) 0 blk g hR hblk k1 hg (by omega);refine⟨_,w',Z,_, ?_, .inl rfl,Z.le_refl,g2,hvr,g3⟩;rw[head];simp[zk,Nat.add_assoc];simp[g1]
     .cases hr
    .cases hr
  .split at hr
   .rename_i hn0;obtain⟨hn0,h1,h2,h3⟩:=hn0;simp only[Option.some.injEq,Prod.mk.injEq]at hr;obtain⟨rfl,rfl⟩:=hr;subst h1 h2 h3 hn0;obtain⟨hq,_,_⟩:=hvx.nils_inv;have:=bu9 f2;subst this;obtain⟨head,_⟩:=hhead hq;refine .same hR ?_ .nils;rw[head (by omega)];simp
   .cases hr
  .cases hr
 .rename_i hfit;split at hr
  .rename_i hbig;obtain⟨hb1,hb2,hall⟩:=hbig;have hone: ∀u∈new,one u=Za:=λu hu=>List.all_eq_true.1 hall u hu
   split at hr
   .rename_i b off;split at hr
    .rename_i blk hblk;split at hr
     .rename_i hown;split at hr
      .rename_i old hold;simp only[Option.some.injEq,Prod.mk.injEq]at hr;obtain⟨rfl,rfl⟩:=hr;have holdlen:=bD9 hold
       have hcase: ∃p' sc',a.eval x= .slice p' sl sc'/\sc<=sc'/\(∃oa:Array Value,(aB n sl (.slice p' sl sc')).run P w.drew= .ok oa w.drew/\F2 (VR Z) old oa.toList)/\
         (sl+ln<=sc'->∃g,Z.at b g/\p'=C ⟨g.c,g.o+off,O⟩/\off+sc'*g.es<=g.ext):=by
        rcases hvx.slice_inv with⟨g,c',hg,h1,h2,h3,hv⟩|⟨h1,h2,A',hv,g0,hg0⟩
        .obtain⟨cs',r1,r2⟩:=(aU2 Y hR).reads hblk hg hold;exact⟨_,c',hv,h2,⟨cs'.toArray,by simp[aB,r1 P w.drew rfl],r2⟩,λ_=>⟨g,hg,rfl,h3⟩⟩
        .subst h1 h2;rw[Nat.zero_mul]at hold;have:=bW9 hold;subst this;exact⟨_,0,hv,cB _,⟨#[],by simp[aB,loadCells,loadCellsFrom], .nil⟩,λh=>absurd h (by omega)⟩
       obtain⟨p',sc',hq,hle,⟨oa,q1,q2⟩,hin⟩:=hcase;by_cases hin':sl+ln<=sc'
       .
        obtain⟨head,_⟩:=hhead hq;have head:=head hin';obtain⟨g,hg,rfl,hext⟩:=hin hin';have hlv:=hR.get hblk hg.1;obtain⟨o1,o2,cur,t,o3,o4⟩:=hlv.own hg.2 hown.1;have hes:g.es=n:=hlv.es.trans hown.2;rw[hes]at hext;have hsum:(sl+ln)*n<=sc'*n:=iD _ hin';rw[dD]at hsum;have harl:arr.toList.length=ln*n:=by rw[<-f2.length,hlen]
        have hone': ∀u∈arr.toList,u.oneCell'=Za:=by
         intro u hu;obtain⟨i,hi,he'⟩:=List.getElem_of_mem hu;obtain⟨u',h1,h2⟩:=f2.get i (new[i]'(by rw[hlen,<-harl];exact hi)) (iH _);rw[iH hi]at h1;injection h1 with h1
         rw[<-he',h1,<-h2.one_iff];exact hone _ (List.getElem_mem _)
        have hst:=run_storeCells_at (P:=P) g.c (g.o+off+sl*n) t arr.toList 0 cur w o3 (by omega) hone';rw[Nat.add_zero]at hst;have hrow:=setRow_heap w g.c cur (cur.toList.take (g.o+off+sl*n)++arr.toList++cur.toList.drop (g.o+off+sl*n+arr.toList.length)).toArray t (0,0) o3
        have hold':F2 (VR Z) old ((cur.toList.drop (g.o+off)).take (sl*n)):=by
         obtain⟨cs',r1,r2⟩:=hR.reads hblk hg hold;refine F2.of_get _ _ (by rw[holdlen];simp;omega) λi u u' hu hu'=> ?_
         have hi:i<sl*n:=by
          rcases Nat.lt_or_ge i (sl*n)with h3|h3
          .exact h3
          .rw[iI (by omega)]at hu;cases hu
         unfold w8 at hold;split at hold
         .injection hold with hold
          rw[<-hold,iF,xB hi,iE]at hu;obtain⟨u'',h1,h2⟩:=hlv.cell hg.2 (off+i) u hu;rw[cell_of_row _ _ _ cur t (0,0) o3]at h1;rw[iF,xB hi,iE]at hu'
          have:u'=u'':=by
           have e1:cur[g.o+(off+i)]?=C u':=by rw[<-Array.getElem?_toList,<-Nat.add_assoc];exact hu'
           rw[e1]at h1;exact Option.some.inj h1
          rw[this];exact h2
         .cases hold
        have hcells:F2 (VR Z) (old++new) (((cur.toList.take (g.o+off+sl*n)++arr.toList++cur.toList.drop (g.o+off+sl*n+arr.toList.length)).toArray.toList.drop (g.o+off)).take (old++new).length):=by
         have:((cur.toList.take (g.o+off+sl*n)++arr.toList++cur.toList.drop (g.o+off+sl*n+arr.toList.length)).toArray.toList.drop (g.o+off)).take (old++new).length=((cur.toList.drop (g.o+off)).take (sl*n))++arr.toList:=by
          rw[dB,holdlen,hlen,iG];rw[List.drop_append_of_le_length (by simp;omega)];rw[List.drop_take,show g.o+off+sl*n-(g.o+off)=sl*n from by omega];have e1:((cur.toList.drop (g.o+off)).take (sl*n)).length=sl*n:=by simp;omega
          have e2:=dt4 ((cur.toList.drop (g.o+off)).take (sl*n)) arr.toList (cur.toList.drop (g.o+off+sl*n+arr.toList.length));rw[e1,harl]at e2;rw[harl];exact e2
         rw[this];exact hold'.append f2
        obtain⟨m1,m2⟩:=R.moved (w':=w.setRow g.c (cur.toList.take (g.o+off+sl*n)++arr.toList++cur.toList.drop (g.o+off+sl*n+arr.toList.length)).toArray) (n:=n) hR hblk hown.1 hg (by simp) hrow (λk hk=>setRow_other _ _ _ _ hk) (by simp;omega) (by rw[dB,holdlen,hlen];omega) hcells;refine⟨_,_,_,_, ?_, .inl rfl,m2,m1, .slice (o:=0) (g:=⟨g.c,g.o+off,g.ext-off,n,t,O⟩) ⟨by simp[Mu.add],rfl⟩ (cB _) hin' (by simp;omega), ?_⟩
        .rw[head];simp only[zk];simp only[bB,hst,aD,cD];rfl
        .refine⟨rfl,rfl,rfl,by simp,λk hk=>setRow_other _ _ _ _ (by omega)⟩
       .
        obtain⟨_,head⟩:=hhead hq;obtain⟨cap,hcap,zz,hzz,hrun⟩:=head (by omega) hb1 hb2 oa q1;have hdrew:=aU2 Y hR;have hzs:zz.cells.size=n:=by rw[<-hzn,<-hzz];simp[cellsOf]
        have hoal:oa.toList.length=sl*n:=by rw[<-q2.length,holdlen]
        have harl:arr.toList.length=ln*n:=by rw[<-f2.length,hlen]
        have hcs:(oa++arr++bD zz.cells (cap-(sl+ln))).size=cap*n:=by
         have hoas:oa.size=sl*n:=by simpa using hoal
         have hars:arr.size=ln*n:=by simpa using harl
         rw[Array.size_append,Array.size_append,aD2,hzs,hoas,hars,<-dD,<-dD]
         congr 1
         omega
        have hk:=hdrew.kill b
        obtain⟨m1,m2⟩:=hk.add (oa++arr++bD zz.cells (cap-(sl+ln))) d (old++new) n (by rw[dB,holdlen,hlen,hcs,<-dD];exact iD _ hcap) (by
         have:((oa++arr++bD zz.cells (cap-(sl+ln))).toList).take (old++new).length=oa.toList++arr.toList:=by
          rw[dB,holdlen,hlen,<-hoal,<-harl,<-dB];simp only[Array.toList_append];exact iC
         rw[this]
         exact q2.append f2)
        refine⟨_,_,_,_,hrun, .inl rfl,m2,m1, .slice (o:=0) (g:=⟨w.drew.heap.size,0,_,n,_,O⟩) ⟨by unfold Mu.add;exact xB rfl,rfl⟩ (cB _) hcap (by simp only[gD];rw[hcs];exact cB _), ?_⟩;exact((Below.refl _ _).drew).alloc hR.base _
      .cases hr
     .cases hr
    .cases hr
   .split at hr
    .rename_i hsl;subst hsl;simp only[Option.some.injEq,Prod.mk.injEq]at hr;obtain⟨rfl,rfl⟩:=hr;obtain⟨hq,_,hsc⟩:=hvx.nils_inv;subst hsc;obtain⟨_,head⟩:=hhead hq;obtain⟨cap,hcap,zz,hzz,hrun⟩:=head (by omega) hb1 hb2 #[] (by simp[aB]);rw[gD]at hcap hrun;have hdrew:=aU2 Y hR;have hzs:zz.cells.size=n:=by rw[<-hzn,<-hzz];simp[cellsOf]
     have harl:arr.toList.length=ln*n:=by rw[<-f2.length,hlen]
     have hcs:((#[]:Array Value)++arr++bD zz.cells (cap-ln)).size=cap*n:=by
      have hars:arr.size=ln*n:=by simpa using harl
      rw[Array.size_append,Array.size_append,aD2,hzs,hars,Array.size_empty,gD,<-dD]
      congr 1
      omega
     obtain⟨m1,m2⟩:=hdrew.add ((#[]:Array Value)++arr++bD zz.cells (cap-ln)) d new n (by rw[hlen,hcs];exact iD _ hcap) (by
      have:(((#[]:Array Value)++arr++bD zz.cells (cap-ln)).toList).take new.length=arr.toList:=by
       rw[hlen,<-harl];simp only[Array.toList_append,List.nil_append];exact iC
      rw[this]
      exact f2)
     refine⟨_,_,_,_,hrun, .inl rfl,m2,m1, ?_,((Below.refl _ _).drew).alloc hR.base _⟩;exact .slice (o:=0) (g:=⟨w.drew.heap.size,0,_,n,_,O⟩) ⟨by unfold Mu.add;exact xB rfl,rfl⟩ (cB _) hcap (by rw[hcs];show 0+cap*n<=cap*n;omega)
    .cases hr
   .
    rename_i b off q
    have hcase: ∃p',a.eval x= .slice p' sl sc/\sl=sc/\(sl≠0->∃g,Z.at b g/\p'=C ⟨g.c,g.o+off,O⟩):=by
     generalize hq:a.eval x=q' at hvx;cases hvx with
     |sliceX h1 h2=>exact⟨_,rfl,rfl,λ_=>⟨_,h1,rfl⟩⟩
     |sliceX0 A' h1=>exact⟨_,rfl,rfl,λh=>(h rfl).elim⟩
    obtain⟨p',hq,hsc,hgo⟩:=hcase;have hdrew:=aU2 Y hR
    have hfin: ∀(old:List Value) (oa:Array Value),old.length=sl*n->(aB n sl (.slice p' sl sc)).run P w.drew= .ok oa w.drew->F2 (VR Z) old oa.toList->
      mq P o a w B Z (.slice (C ⟨Y.n,0,O⟩) (sl+ln) (sl+ln)) (Y.add ⟨old++new,Za,n⟩):=by
     intro old oa holdlen q1 q2;obtain⟨_,head⟩:=hhead hq;obtain⟨cap,hcap,zz,hzz,hrun⟩:=head (by omega) hb1 hb2 oa q1;have hzs:zz.cells.size=n:=by rw[<-hzn,<-hzz];simp[cellsOf]
     have hoal:oa.toList.length=sl*n:=by rw[<-q2.length,holdlen]
     have harl:arr.toList.length=ln*n:=by rw[<-f2.length,hlen]
     have hcs:(oa++arr++bD zz.cells (cap-(sl+ln))).size=cap*n:=by
      have hoas:oa.size=sl*n:=by simpa using hoal
      have hars:arr.size=ln*n:=by simpa using harl
      rw[Array.size_append,Array.size_append,aD2,hzs,hoas,hars,<-dD,<-dD]
      congr 1
      omega
     obtain⟨m1,m2⟩:=hdrew.add (oa++arr++bD zz.cells (cap-(sl+ln))) d (old++new) n (by rw[dB,holdlen,hlen,hcs,<-dD];exact iD _ hcap) (by
      have:((oa++arr++bD zz.cells (cap-(sl+ln))).toList).take (old++new).length=oa.toList++arr.toList:=by
       rw[dB,holdlen,hlen,<-hoal,<-harl,<-dB];simp only[Array.toList_append];exact iC
      rw[this]
      exact q2.append f2)
     refine⟨_,_,_,_,hrun, .inl rfl,m2,m1, .slice (o:=0) (g:=⟨w.drew.heap.size,0,_,n,_,O⟩) ⟨by unfold Mu.add;exact xB rfl,rfl⟩ (cB _) hcap (by simp only[gD];rw[hcs];exact cB _), ?_⟩;exact((Below.refl _ _).drew).alloc hR.base _
    split at hr
    .rename_i hsl;simp only[Option.some.injEq,Prod.mk.injEq]at hr;obtain⟨rfl,rfl⟩:=hr;have:=hfin [] #[] (by rw[hsl];simp) (by rw[hsl];cases p'<;>simp[aB,loadCells,loadCellsFrom]) .nil;rw[hsl,gD]at this;exact this
    .rename_i hsl;split at hr
     .rename_i blk hblk;split at hr
      .split at hr
       .rename_i old hold;simp only[Option.some.injEq,Prod.mk.injEq]at hr;obtain⟨rfl,rfl⟩:=hr;obtain⟨g,hg,rfl⟩:=hgo hsl;obtain⟨cs',r1,r2⟩:=hdrew.reads hblk hg hold;exact hfin old cs'.toArray (bD9 hold) (by simp[aB,r1 P w.drew rfl]) r2
       .cases hr
      .cases hr
     .cases hr
  .cases hr
theorem cj8 {c:Call}{x y:Operand}{st xt d:TypeId}{n by_:Nat}{z:List Value}(ho:o.op= .call c)(hc:c.callee= .builtin .append)(ha:c.args.toList=[x,y])(ht:c.argTypes.toList=[st,xt])(hu:P.underlying st=C (.slice d))
  (hxt:(∃q,P.underlying xt=C (.slice q))∨P.underlying xt=C .string) (hn:rm P d=C n) (hb:cD8 P d=C by_) (hz:vi P d=C z) (hzn:z.length=n)
  (hx:fd x=Za) (hy:fd y=Za) (hr:(AOp.append n by_ x y).run e Y=C (v,Y')) (he:ig Z N e a.tmps) (hR:R B Z Y w):mq P o a w B Z v Y':=by
 have hvy:=he.ev hy;simp only[AOp.run]at hr;split at hr
 .rename_i p sl sc hp;split at hr
  .rename_i ln hln;have hln':=cX6 hln hvy;split at hr
   .rename_i new hnew;obtain⟨arr,f0,f2⟩:=am0 (P:=P) hln (cB _) hnew hR hvy;have f1:=f0 w rfl;have f1d:=f0 w.drew rfl;have hxt':=hxt
    have hlen:new.length=ln*n:=dh1 hnew λs hs=>by
     rw[hs]at hln;simp[aZ3]at hln;omega
    exact bI2 hzn f2 hlen hp hx hr he hR λhq=>by
     obtain⟨h1,h2⟩:=cD4 ho hc ha ht hu hxt' hn hb hz hq hln' f1;exact⟨h1,λq1 q2 q3 old q4=>h2 q1 q2 q3 old q4 f1d⟩
   .cases hr
  .cases hr
 .cases hr
theorem cu5 {c:Call}{x y:Operand}{st xt d:TypeId}{n by_:Nat}{z:List Value}(ho:o.op= .call c)(hc:c.callee= .builtin .append)(ha:c.args.toList=[x,y])(ht:c.argTypes.toList=[st,xt])(hu:P.underlying st=C (.slice d))
  (hxt: ∃q,P.underlying xt=C (.int q)) (hn:rm P d=C n) (hb:cD8 P d=C by_) (hz:vi P d=C z) (hzn:z.length=n) (h0:0<n)
  {p':Option Addr} {sl sc:Nat} {k:IntKind} {l:Int} (hq:a.eval x= .slice p' sl sc) (hl:a.eval y= .int k l) (l0:0<=l) (l1:l<=9223372036854775807) (l2:l*by_<=281474976710656):
  (sl+l.toNat<=sc->(execOp a.eval o).run P w=((do
    if let C a:=p' then storeCells (a.add (sl*n)) (gv z l.toNat).toArray.toList
    pure (.slice p' (sl+l.toNat) sc):Sem Value).run P w).andThen λv w=> .ok (.value v) w)/\
  (sc<sl+l.toNat->(sl+l.toNat)*by_<=140737488355328->sl+l.toNat<=9223372036854775807->∀old:Array Value,(aB n sl (.slice p' sl sc)).run P w.drew= .ok old w.drew->
   ∃cap,sl+l.toNat<=cap/\∃zz:Value,cellsOf zz=z/\(execOp a.eval o).run P w= .ok (.value (.slice (C ⟨w.heap.size,0,O⟩) (sl+l.toNat) cap)) (w.drew.alloc (.cells (old++(gv z l.toNat).toArray++bD zz.cells (cap-(sl+l.toNat))) d))):=by
 obtain⟨cst,hrun⟩:=jo (P:=P) (a:=a) ho hc w;obtain⟨i,hi,hib⟩:=Option.map_eq_some_iff.1 hb;have hinfo: ∀w:World,(typeInfo d).run P w= .ok i w:=λw=>by simp[typeInfo,hi]
 have e1:(#[Value.slice p' sl sc,Value.int k l]:Array Value)[0]?=C (.slice p' sl sc):=rfl;have e2:(#[Value.slice p' sl sc,Value.int k l]:Array Value)[1]?=C (.int k l):=rfl;have e3:(#[st,xt]:Array TypeId)[0]?=C st:=rfl;have e4:(#[st,xt]:Array TypeId)[1]?=C xt:=rfl;obtain⟨zz,z1,z2,z3⟩:=tc hz;obtain⟨q,hdd⟩:=hxt;have w1:IntKind.i64.wrap l=l:=IntWalk.i64_in _ (by omega);have hzs:zz.cells.size=n:=by rw[<-hzn,<-z2];simp[cellsOf]
 have hzl:zz.cells.toList=z:=z2
 have happ: ∀w:World,((if l.toNat*n=0 then pure #[]else do pure (bD (<-zeroValue d).cells l.toNat)):Sem (Array Value)).run P w= .ok (gv z l.toNat).toArray w:=by
  intro w;by_cases hcn:l.toNat*n=0
  .have hc0:l.toNat=0:=by
    rcases Nat.mul_eq_zero.1 hcn with h|h
    .exact h
    .omega
   have:(gv z l.toNat)=[]:=by rw[hc0];rfl
   rw[xB hcn,this];simp
  .rw[xD hcn]
   have hcc:bD zz.cells l.toNat=(gv z l.toNat).toArray:=by
    unfold bD;rw[<-hzl,<-bZ8 _ _ (by omega)]
   simp only[bB,z1,cD,aD,hcc]
 refine⟨λhfit=> ?_,λhgrow hbytes hmax old hold=> ?_⟩
 .rw[hrun];simp only[builtin,iA,bR6 ha,bR6 ht,gB,fB,fD,hq,hl,e1,e2,e3,e4,bB,gj hu,gj hdd,aD,tu hn,cD,eD,if_false,asInt,asIntOf,w1,Bool.not_true,if_true];rw[xD (by omega)];simp only[bB,hinfo,aD,hib];rw[xD (by omega)];simp only[bB,cD,aD];rw[xB hfit];simp only[bB,happ,aD];rfl
 .refine⟨grownCap w (sl+l.toNat) sc d,grownCap_ge _ _ _ _,zz,z2, ?_⟩;have hfits:=growslice_fits hgrow hbytes;rw[hrun];simp only[builtin,iA,bR6 ha,bR6 ht,gB,fB,fD,hq,hl,e1,e2,e3,e4,bB,gj hu,gj hdd,aD,tu hn,cD,eD,if_false,asInt,asIntOf,w1,Bool.not_true,if_true];rw[xD (by omega)];simp only[bB,hinfo,aD,hib];rw[xD (by omega)];simp only[bB,cD,aD];rw[xD (by omega)];simp only[bB,hinfo,aD,true_or,and_true]
  have h63: ¬((sl+l.toNat:Nat):Int) > IntKind.i64.max:=by
   have:IntKind.i64.max=9223372036854775807:=by decide
   omega
  rw[xD h63];simp only[bB,hinfo,aD,hib];rw[xD (by omega)];simp only[bB,run_choose,Question.forced,eD,if_false,World.drew_eq,aD,hinfo,run_askRoom,hold,happ,z1,newRow,run_newObj,cD,World.alloc_eq];rfl
theorem cR4 {c:Call}{x y:Operand}{st xt d:TypeId}{n by_:Nat}{z:List Value}(ho:o.op= .call c)(hc:c.callee= .builtin .append)(ha:c.args.toList=[x,y])(ht:c.argTypes.toList=[st,xt])(hu:P.underlying st=C (.slice d))
  (hxt: ∃q,P.underlying xt=C (.int q)) (hn:rm P d=C n) (hb:cD8 P d=C by_) (hz:vi P d=C z) (hzn:z.length=n) (h0:0<n)
  (hx:fd x=Za) (hy:fd y=Za) (hr:(AOp.appendZ n by_ z x y).run e Y=C (v,Y')) (he:ig Z N e a.tmps) (hR:R B Z Y w):mq P o a w B Z v Y':=by
 have hvy:=he.ev hy;obtain⟨zz,z1,z2,z3⟩:=tc hz;simp only[AOp.run]at hr;split at hr
 .rename_i p sl sc k l hp hq;split at hr
  .rename_i hcond;rw[hq]at hvy;have v1:=hvy.int_inv;refine bI2 (d:=d) (arr:=(gv z l.toNat).toArray) hzn (by simpa using VR.plainCells (bf7 z3 _)) (by simp[ax1,hzn]) hp hx hr he hR λhq'=> ?_
   exact cu5 ho hc ha ht hu hxt hn hb hz hzn h0 hq' v1 hcond.1 hcond.2.1 hcond.2.2
  .cases hr
 .cases hr
end
end
section
open Builtin renaming firstCells -> aD
open Nat renaming le_refl -> aB, lt_of_lt_of_le -> bB
open Go.RowKit
section
variable {P:Program} {o:Oper} {a:Act} {w w':World} {B:Base P} {N:Nat} {Z:Mu} {e:ey} {Y Y':Hp} {v:Value}
theorem R.iter (h:R B Z Y w)(s:ByteArray):R B (Z.add Y.n ⟨w.heap.size,0,0,1,0,C (.string s)⟩) (Y.add ⟨[.int .i64 0],Za,1⟩) (w.iter s 0)/\Z.le (Z.add Y.n ⟨w.heap.size,0,0,1,0,C (.string s)⟩):=by
 have hf:Z Y.n=O:=h.fresh _ (aB _);have hle':Z.le (Z.add Y.n ⟨w.heap.size,0,0,1,0,C (.string s)⟩):=Mu.le_add hf
 have old: ∀b x,b≠Y.n->(Y.add ⟨[.int .i64 0],Za,1⟩).m b=C x->Y.m b=C x:=by
  intro b x hb hx;simpa[Hp.add,hb]using hx
 have new: ∀x,(Y.add ⟨[.int .i64 0],Za,1⟩).m Y.n=C x->x=⟨[.int .i64 0],Za,1⟩:=by
  intro x hx;simp[Hp.add]at hx;exact hx.symm
 have oldlt: ∀b x g,Y.m b=C x->Z b=C g->g.c<w.heap.size:=λb x g hx hg=>(h.get hx hg).lt
 have hsz:(w.iter s 0).heap.size=w.heap.size+1:=by simp[World.iter]
 refine⟨⟨by rw[hsz];exact Nat.le_succ_of_le h.base,λk hk=>(Below.heap_alloc w _ _ (bB hk h.base)).trans (h.old k hk),λb hb=> ?_,λb x hx=> ?_,λb b' x x' g g' hx hx' hne ho hg hg'=> ?_, ?_⟩,hle'⟩
 .have:Y.n+1<=b:=hb;unfold Mu.add;rw[xD (by omega)];exact h.fresh b (by omega)
 .by_cases hb:b=Y.n
  .subst hb;obtain rfl:=new x hx
   exact⟨⟨w.heap.size,0,0,1,0,C (.string s)⟩,by simp[Mu.add],⟨by rw[hsz];exact Nat.lt_succ_self _,rfl,λh0=>(by cases h0),λh0=>(by cases h0),λs' hs=>by
    injection hs with hs
    injection hs with hs
    subst hs
    exact⟨h.base,0,rfl,World.iter_heap w s 0⟩,λhs=>by injection hs with hs;cases hs⟩⟩
  .have hx':=old b x hb hx;obtain⟨g,h1,h2⟩:=h.live b x hx';exact⟨g,hle' _ _ h1,(h2.mono hle').kept (by rw[hsz];exact Nat.le_succ _) (Below.heap_alloc w _ _ h2.lt) (λhi k hk=>Below.heap_alloc w _ _ (h.buf hx' h1 hi hk).2.1)⟩
 .by_cases hb:b=Y.n
  .subst hb;have hb':b'≠Y.n:=λe=>hne e.symm
   have:g.c=w.heap.size:=by simp[Mu.add]at hg;rw[<-hg]
   have h2:Z b'=C g':=by simpa[Mu.add,hb']using hg'
   have:=oldlt b' x' g' (old _ _ hb' hx') h2;omega
  .have h1:Z b=C g:=by simpa[Mu.add,hb]using hg
   have hx1:=old b x hb hx;by_cases hb':b'=Y.n
   .subst hb';have:g'.c=w.heap.size:=by simp[Mu.add]at hg';rw[<-hg']
    have:=oldlt b x g hx1 h1;omega
   .have h2:Z b'=C g':=by simpa[Mu.add,hb']using hg'
    exact h.inj b b' x x' g g' hx1 (old _ _ hb' hx') hne ho h1 h2
 .refine h.sep.of (λb x g hx hg=> ?_) (λb x g hx hg hi _=> ?_)
  .by_cases hb:b=Y.n
   .subst hb;have e1:g=⟨w.heap.size,0,0,1,0,C (.string s)⟩:=by simp[Mu.add]at hg;exact hg.symm
    subst e1;exact .inr ⟨λh0=>(by injection h0 with h0;cases h0),λb1 x1 g1 k h1 h2 h3 h4 e=>by have:=(h.buf h1 h2 h3 h4).2.1;simp only at e;omega⟩
   .exact .inl ⟨x,old b x hb hx,by simpa[Mu.add,hb]using hg⟩
  .unfold wR;rw[show(w.iter s 0).heap[g.c]?=w.heap[g.c]? from Below.heap_alloc w _ _ (oldlt b x g hx hg)]
theorem R.newB (h:R B Z Y w){t:TypeId}(ht:cX4 P t=Za):R B (Z.add Y.n ⟨w.heap.size,0,0,1,t,C .nilFunc⟩) (Y.add ⟨[.string ByteArray.empty],Za,1⟩) (w.alloc (.cells #[.pointer O, .slice O 0 0] t))/\Z.le (Z.add Y.n ⟨w.heap.size,0,0,1,t,C .nilFunc⟩):=by
 have hf:Z Y.n=O:=h.fresh _ (aB _);have hle':Z.le (Z.add Y.n ⟨w.heap.size,0,0,1,t,C .nilFunc⟩):=Mu.le_add hf
 have old: ∀b x,b≠Y.n->(Y.add ⟨[.string ByteArray.empty],Za,1⟩).m b=C x->Y.m b=C x:=by
  intro b x hb hx;simpa[Hp.add,hb]using hx
 have new: ∀x,(Y.add ⟨[.string ByteArray.empty],Za,1⟩).m Y.n=C x->x=⟨[.string ByteArray.empty],Za,1⟩:=by
  intro x hx;simp[Hp.add]at hx;exact hx.symm
 have oldlt: ∀b x g,Y.m b=C x->Z b=C g->g.c<w.heap.size:=λb x g hx hg=>(h.get hx hg).lt
 have hnew:(w.alloc (.cells #[.pointer O, .slice O 0 0] t)).heap[w.heap.size]?=C (.cells #[.pointer O, .slice O 0 0] t (0,0)):=heap_alloc_new w _
 have hbn:wR (w.alloc (.cells #[.pointer O, .slice O 0 0] t)) w.heap.size=O:=by
  unfold wR;rw[hnew];rfl
 refine⟨⟨Nat.le_trans h.base (by simp),λb hb=>(Below.heap_alloc w _ _ (bB hb h.base)).trans (h.old b hb),λb hb=> ?_,λb x hx=> ?_,λb b' x x' g g' hx hx' hne ho hg hg'=> ?_,λb x g hx hg hi k hk b' x' g' hx' hg'=> ?_⟩,hle'⟩
 .have:Y.n+1<=b:=hb;unfold Mu.add;rw[xD (by omega)];exact h.fresh b (by omega)
 .by_cases hb:b=Y.n
  .subst hb;obtain rfl:=new x hx
   exact⟨⟨w.heap.size,0,0,1,t,C .nilFunc⟩,by simp[Mu.add],⟨by simp,rfl,λh0=>(by cases h0),λh0=>(by cases h0),λs' hs=>(by injection hs with hs;cases hs),λ_=>
    ⟨ht, .pointer O,ByteArray.empty, .inl rfl,rfl,h.base, .slice O 0 0,hnew,World.ownsRowF_nil _ _ _ _,by simp[Value.ownBlock]⟩⟩⟩
  .have hx':=old b x hb hx;obtain⟨g,h1,h2⟩:=h.live b x hx';exact⟨g,hle' _ _ h1,(h2.mono hle').kept (by simp) (Below.heap_alloc w _ _ h2.lt) (λhi k hk=>Below.heap_alloc w _ _ (h.buf hx' h1 hi hk).2.1)⟩
 .by_cases hb:b=Y.n
  .subst hb;have hb':b'≠Y.n:=λe=>hne e.symm
   have:g.c=w.heap.size:=by simp[Mu.add]at hg;rw[<-hg]
   have h2:Z b'=C g':=by simpa[Mu.add,hb']using hg'
   have:=oldlt b' x' g' (old _ _ hb' hx') h2;omega
  .have h1:Z b=C g:=by simpa[Mu.add,hb]using hg
   have hx1:=old b x hb hx;by_cases hb':b'=Y.n
   .subst hb';have:g'.c=w.heap.size:=by simp[Mu.add]at hg';rw[<-hg']
    have:=oldlt b x g hx1 h1;omega
   .have h2:Z b'=C g':=by simpa[Mu.add,hb']using hg'
    exact h.inj b b' x x' g g' hx1 (old _ _ hb' hx') hne ho h1 h2
 .by_cases hb:b=Y.n
  .subst hb;have e1:g.c=w.heap.size:=by simp[Mu.add]at hg;rw[<-hg]
   rw[e1,hbn]at hk;cases hk
  .have h1:Z b=C g:=by simpa[Mu.add,hb]using hg
   have hx1:=old b x hb hx
   have hkw:wR w g.c=C k:=by
    rw[<-hk];unfold wR;rw[Below.heap_alloc w _ _ (oldlt b x g hx1 h1)]
   have hklt:=(h.buf hx1 h1 hi hkw).2.1;by_cases hb':b'=Y.n
   .subst hb';have e1:g'.c=w.heap.size:=by simp[Mu.add]at hg';rw[<-hg']
    refine⟨by omega,λ_ _ hk'=> ?_⟩;rw[e1,hbn]at hk';cases hk'
   .have h2:Z b'=C g':=by simpa[Mu.add,hb']using hg'
    have hx2:=old b' x' hb' hx';obtain⟨m1,m2⟩:=h.sep b x g hx1 h1 hi k hkw b' x' g' hx2 h2;refine⟨m1,λhne hi'=> ?_⟩;have:=m2 hne hi';unfold wR at this⊢;rw[Below.heap_alloc w _ _ (oldlt b' x' g' hx2 h2)];exact this
theorem dA8 {t:TypeId}(ho:o.op= .alloc t)(ht:cX4 P t=Za)(hz:vi P t=C [.pointer O, .slice O 0 0])(hr:AOp.newB.run e Y=C (v,Y'))(hR:R B Z Y w):mq P o a w B Z v Y':=by
 obtain⟨z',h1,h2,h3⟩:=tc hz;simp only[AOp.run,Option.some.injEq,Prod.mk.injEq]at hr;obtain⟨rfl,rfl⟩:=hr;obtain⟨k1,k2⟩:=hR.newB ht;have hc:z'.cells= #[.pointer O, .slice O 0 0]:=Array.toList_inj.1 h2;refine⟨_,_,_, .pointer (C ⟨w.heap.size,0,O⟩), ?_, .inl rfl,k2,k1, ?_,(Below.refl _ _).alloc hR.base _⟩
 .simp[execOp,ho,Instr.alloc,h1,newVar,newRow,hc]
 .exact .iter (g:=⟨w.heap.size,0,0,1,t,C .nilFunc⟩) (by simp[Mu.add]) rfl
theorem R.step (h:R B Z Y w){b:Nat}{x:Blk}{g:G}{s:ByteArray}(hx:Y.m b=C x)(ho:x.own=Za)(hg:Z b=C g)(hit:g.it=C (.string s))(q:Nat):
  R B Z (Y.set b (C ⟨[.int .i64 (q:Int)],Za,x.es⟩)) (w.iterAt g.c s q):=by
 have hl:=h.get hx hg;obtain⟨o1,p,o3,o4⟩:=hl.iter s hit;have hother: ∀k,k≠g.c->(w.iterAt g.c s q).heap[k]?=w.heap[k]?:=λk hk=>Lib.iterAt_other w _ k s q hk
 have hsz:(w.iterAt g.c s q).heap.size=w.heap.size:=Lib.iterAt_size w _ s q
 have old: ∀b' x',b'≠b->(Y.set b (C ⟨[.int .i64 (q:Int)],Za,x.es⟩)).m b'=C x'->Y.m b'=C x':=by
  intro b' x' hb hx';simpa[Hp.set,hb]using hx'
 have new: ∀x',(Y.set b (C ⟨[.int .i64 (q:Int)],Za,x.es⟩)).m b=C x'->x'=⟨[.int .i64 (q:Int)],Za,x.es⟩:=by
  intro x' hx';simp[Hp.set]at hx';exact hx'.symm
 refine⟨by rw[hsz];exact h.base,λk hk=>(hother k (by omega)).trans (h.old k hk),h.fresh,λb' x' hx'=> ?_,λb1 b2 x1 x2 g1 g2 h1 h2 hne hown hg1 hg2=> ?_, ?_⟩
 .by_cases hb:b'=b
  .subst hb;obtain rfl:=new x' hx'
   exact⟨g,hg,⟨by rw[hsz];exact hl.lt,hl.es,λh0=>(by rw[hit]at h0;cases h0),λh0=>(by rw[hit]at h0;cases h0),λs' hs=>by
    rw[hit]at hs;injection hs with hs
    injection hs with hs
    subst hs
    exact⟨o1,q,rfl,Lib.iterAt_heap w _ s p q o4⟩,λhs=>by rw[hit]at hs;injection hs with hs;cases hs⟩⟩
  .have hx1:=old b' x' hb hx';obtain⟨g',h1,h2⟩:=h.live b' x' hx1;exact⟨g',h1,h.stays hx1 h1 (by rw[hsz];exact aB _) g.c (λk hk _=>hother k hk) (λe=>h.inj b b' x x' g g' hx hx1 (λe=>hb e.symm) ho hg h1 e.symm) (λhi hk=>((h.sep b' x' g' hx1 h1 hi _ hk b x g hx hg).1 rfl))⟩
 .have keyown: ∀b' x',(Y.set b (C ⟨[.int .i64 (q:Int)],Za,x.es⟩)).m b'=C x'->∃y,Y.m b'=C y/\y.own=x'.own:=by
   intro b' x' hx';by_cases hb:b'=b
   .subst hb;obtain rfl:=new x' hx';exact⟨x,hx,ho⟩
   .exact⟨x',old b' x' hb hx',rfl⟩
  obtain⟨y1,hy1,e1⟩:=keyown _ _ h1;obtain⟨y2,hy2,_⟩:=keyown _ _ h2;exact h.inj b1 b2 y1 y2 g1 g2 hy1 hy2 hne (e1.trans hown) hg1 hg2
 .have oldl: ∀b' x',(Y.set b (C ⟨[.int .i64 (q:Int)],Za,x.es⟩)).m b'=C x'->∃y,Y.m b'=C y:=by
   intro b' x' hx';by_cases hb:b'=b
   .subst hb;exact⟨x,hx⟩
   .exact⟨x',old b' x' hb hx'⟩
  refine h.sep.of (λb' x' g' hx' hg'=> .inl (let⟨y,hy⟩:=oldl b' x' hx';⟨y,hy,hg'⟩)) (λb' x' g' hx' hg' hi _=> ?_);have hne:b'≠b:=λe=>by subst e;rw[hg]at hg';injection hg' with hg';subst hg';rw[hit]at hi;injection hi with hi;cases hi
  unfold wR;rw[hother _ (λe=>h.inj b b' x x' g g' hx hx' (λe=>hne e.symm) ho hg hg' e.symm)]
theorem dp7 {t:TypeId}{x:Operand}(ho:o.op= .range t x)(hu:P.underlying t=C .string)(hx:fd x=Za)(hr:(AOp.range x).run e Y=C (v,Y'))(he:ig Z N e a.tmps)(hR:R B Z Y w):mq P o a w B Z v Y':=by
 have h:=he.ev hx;simp only[AOp.run]at hr;split at hr
 .rename_i s hs;simp only[Option.some.injEq,Prod.mk.injEq]at hr;obtain⟨rfl,rfl⟩:=hr;rw[hs]at h;obtain⟨h1,h2⟩:=hR.iter s;refine⟨_,_,_, .pointer (C ⟨w.heap.size,0,O⟩), ?_, .inl rfl,h2,h1, ?_,(Below.refl _ _).alloc hR.base _⟩
  .have:=run_range_string (P:=P) w t s hu;simp[execOp,ho,h.string_inv,this]
  .exact .iter (g:=⟨w.heap.size,0,0,1,0,C (.string s)⟩) (by simp[Mu.add]) rfl
 .cases hr
theorem dA9 {x:Operand}(ho:o.op= .next x Za)(hx:fd x=Za)(hr:(AOp.next x).run e Y=C (v,Y'))(he:ig Z N e a.tmps)(hR:R B Z Y w):mq P o a w B Z v Y':=by
 have h:=he.ev hx;simp only[AOp.run]at hr;split at hr
 .rename_i b s hs;rw[hs]at h
  obtain⟨g,hg,hit,hv⟩: ∃g,Z b=C g/\g.it=C (.string s)/\a.eval x= .pointer (C ⟨g.c,0,O⟩):=by
   generalize a.eval x=u at h;cases h with
   |iter k1 k2=>exact⟨_,k1,k2,rfl⟩
  split at hr
  .rename_i blk hblk;split at hr
   .rename_i hown;split at hr
    .rename_i p r hp;have hl:=hR.get hblk hg;obtain⟨o1,q,o3,o4⟩:=hl.iter s hit;rw[hp]at o3;simp at o3;obtain⟨rfl,rfl⟩:=o3;split at hr
     .rw[Int.toNat_natCast]at hr;split at hr
      .rename_i hlt;simp only[Option.some.injEq,Prod.mk.injEq]at hr;obtain⟨rfl,rfl⟩:=hr;have h1:=hR.step hblk hown hg hit (q+(Utf8.decode s q).2);refine⟨_,_,Z, .tuple #[.bool Za, .int .i64 q, .int .i32 (Utf8.decode s q).1], ?_, .inl rfl,Z.le_refl,h1, .tuple (.cons (.bool _) (.cons (.int _ _) (.cons (.int _ _) .nil))),Lib.below_iterAt (Below.refl _ _) o1 s _⟩;have:=Lib.run_next_any_at (P:=P) w g.c s q o.type o4 hlt;simp[execOp,ho,hv,this]
      .rename_i hlt;simp only[Option.some.injEq,Prod.mk.injEq]at hr;obtain⟨rfl,rfl⟩:=hr;have:=Lib.run_next_end_at (P:=P) w g.c s q o.type o4 hlt;exact .same hR (by simp[execOp,ho,hv,this]) (.tuple (.cons (.bool _) .nil))
     .cases hr
    .cases hr
   .cases hr
  .cases hr
 .cases hr
theorem dA3 {s d:TypeId}{k':IntKind}{x:Operand}(ho:o.op= .convert s d x)(hs:P.underlying s=C (.int k'))(hd:P.underlying d=C .string)(hx:fd x=Za)(hr:(AOp.encR x).run e Y=C (v,Y'))(he:ig Z N e a.tmps)(hR:R B Z Y w):mq P o a w B Z v Y':=by
 simp only[AOp.run]at hr;obtain⟨n,hn,hr⟩:=Option.map_eq_some_iff.1 hr;simp only[Prod.mk.injEq]at hr;obtain⟨rfl,rfl⟩:=hr;have h:=he.ev hx;generalize e.ev x=u at*;cases u<;>simp[dm4]at hn;subst hn;have:=h.int_inv;exact .same hR (by simp[execOp,ho,this,convert,gj hs,gj hd,Conv.intToString]) (.string _)
theorem bH0 {Z:Mu}: ∀{cs cs':List Value} {l:Zd},F2 (VR Z) cs cs'->aJ4 cs=C l->cs'=l.map (Value.int .u8)
 |[],_,l,h,hl=>by
  cases h;simp[aJ4]at hl;subst hl;rfl
 |c::cs,_,l,h,hl=>by
  cases h with
  |cons h1 h2=>
   rename_i c' cs';unfold aJ4 at hl;split at hl
   .rename_i he;cases he
   .rename_i n r he;injection he with e1 e2
    subst e1;subst e2;obtain⟨l',h3,h4⟩:=Option.map_eq_some_iff.1 hl;subst h4;rw[bH0 h2 h3,h1.int_inv];rfl
   .cases hl
theorem dq0 {s d t:TypeId}{x:Operand}(ho:o.op= .convert s d x)(hs:P.underlying s=C (.slice t))(ht:P.underlying t=C (.int .u8))(hd:P.underlying d=C .string)(hx:fd x=Za)(hr:(AOp.strOf x).run e Y=C (v,Y'))(he:ig Z N e a.tmps)(hR:R B Z Y w):mq P o a w B Z v Y':=by
 have h:=he.ev hx;simp only[AOp.run]at hr;split at hr
 .rename_i p n c hp;rw[hp]at h;split at hr
  .rename_i cs hcs;obtain⟨l,hl,hr⟩:=Option.map_eq_some_iff.1 hr;simp only[Prod.mk.injEq]at hr;obtain⟨rfl,rfl⟩:=hr;obtain⟨arr,h1,h2⟩:=am0 (P:=P) (es:=1) (n:=n) (ln:=n) rfl (aB _) hcs hR h;have h3:=bH0 h2 hl;have h1':=h1 w rfl
   have key: ∀(q:Option Addr) (c':Nat),a.eval x= .slice q n c'->(n=0∨∃z,q=C z)->(execOp a.eval o).run P w= .ok (.value (.string (cU1 l))) w:=by
    intro q c' hq hz;rw[hq]at h1';cases q with
    |none=>
     rcases hz with hz|⟨z,hz⟩
     .subst hz;simp[aD]at h1';subst h1';have hl0:l=[]:=by simpa using h3.symm
      subst hl0;simp[execOp,ho,hq,run_convert_bytes_string w s d t O 0 c' hs ht hd,Conv.bytesToString,cU1]
     .cases hz
    |some z=>
     have hload:(loadCells z n).run P w= .ok (l.map (Value.int .u8)).toArray w:=by
      simp only[aD,Nat.mul_one]at h1';rw[h1',<-h3]
     simp[execOp,ho,hq,run_convert_bytes_string w s d t (C z) n c' hs ht hd,run_bytesToString w z n c' l hload,cU1]
   generalize hq:a.eval x=u at h;cases h with
   |nils=>exact .same hR (key O 0 hq (.inl rfl)) (.string _)
   |slice k1 k2 k3 k4=>exact .same hR (key _ _ hq (.inr ⟨_,rfl⟩)) (.string _)
   |slice0 A' k1=>exact .same hR (key _ _ hq (.inl rfl)) (.string _)
   |sliceX k1 k2=>exact .same hR (key _ _ hq (.inr ⟨_,rfl⟩)) (.string _)
   |sliceX0 A' k1=>exact .same hR (key _ _ hq (.inl rfl)) (.string _)
  .cases hr
 .cases hr
theorem bI7 {Z:Mu}: ∀{cs cs':List Value} {l:Zd},F2 (VR Z) cs cs'->aK0 cs=C l->cs'=l.map (Value.int .i32)
 |[],_,l,h,hl=>by
  cases h;simp[aK0]at hl;subst hl;rfl
 |c::cs,_,l,h,hl=>by
  cases h with
  |cons h1 h2=>
   rename_i c' cs';unfold aK0 at hl;split at hl
   .rename_i he;cases he
   .rename_i n r he;injection he with e1 e2
    subst e1;subst e2;obtain⟨l',h3,h4⟩:=Option.map_eq_some_iff.1 hl;subst h4;rw[bI7 h2 h3,h1.int_inv];rfl
   .cases hl
theorem df4 {s d t:TypeId}{x:Operand}(ho:o.op= .convert s d x)(hs:P.underlying s=C (.slice t))(ht:P.underlying t=C (.int .i32))(hd:P.underlying d=C .string)(hx:fd x=Za)(hr:(AOp.strOfR x).run e Y=C (v,Y'))(he:ig Z N e a.tmps)(hR:R B Z Y w):mq P o a w B Z v Y':=by
 have h:=he.ev hx;simp only[AOp.run]at hr;split at hr
 .rename_i p n c hp;rw[hp]at h;split at hr
  .rename_i cs hcs;obtain⟨l,hl,hr⟩:=Option.map_eq_some_iff.1 hr;simp only[Prod.mk.injEq]at hr;obtain⟨rfl,rfl⟩:=hr;obtain⟨arr,h1,h2⟩:=am0 (P:=P) (es:=1) (n:=n) (ln:=n) rfl (aB _) hcs hR h;have h3:=bI7 h2 hl;have h1':=h1 w rfl
   have key: ∀(q:Option Addr) (c':Nat),a.eval x= .slice q n c'->(n=0∨∃z,q=C z)->(execOp a.eval o).run P w= .ok (.value (.string (cU3 l))) w:=by
    intro q c' hq hz;rw[hq]at h1';cases q with
    |none=>
     rcases hz with hz|⟨z,hz⟩
     .subst hz;simp[aD]at h1';subst h1';have hl0:l=[]:=by simpa using h3.symm
      subst hl0;simp[execOp,ho,hq,run_convert_runes_string w s d t O 0 c' hs ht hd,Conv.runesToString,cU3]
     .cases hz
    |some z=>
     have hload:(loadCells z n).run P w= .ok (l.map (Value.int .i32)).toArray w:=by
      simp only[aD,Nat.mul_one]at h1';rw[h1',<-h3]
     simp[execOp,ho,hq,run_convert_runes_string w s d t (C z) n c' hs ht hd,run_runesToString w z n c' l hload,cU3,runesBytes]
   generalize hq:a.eval x=u at h;cases h with
   |nils=>exact .same hR (key O 0 hq (.inl rfl)) (.string _)
   |slice k1 k2 k3 k4=>exact .same hR (key _ _ hq (.inr ⟨_,rfl⟩)) (.string _)
   |slice0 A' k1=>exact .same hR (key _ _ hq (.inl rfl)) (.string _)
   |sliceX k1 k2=>exact .same hR (key _ _ hq (.inr ⟨_,rfl⟩)) (.string _)
   |sliceX0 A' k1=>exact .same hR (key _ _ hq (.inl rfl)) (.string _)
  .cases hr
 .cases hr
theorem cR6 {s d t:TypeId}{x:Operand}(ho:o.op= .convert s d x)(hs:P.underlying s=C .string)(hd:P.underlying d=C (.slice t))(ht:P.underlying t=C (.int .i32))(hx:fd x=Za)(hr:(AOp.runesOf x).run e Y=C (v,Y'))(he:ig Z N e a.tmps)(hR:R B Z Y w):mq P o a w B Z v Y':=by
 have h:=he.ev hx;simp only[AOp.run]at hr;split at hr
 .rename_i z hz;rw[hz]at h;split at hr
  .rename_i hsz;simp only[Option.some.injEq,Prod.mk.injEq]at hr;obtain⟨rfl,rfl⟩:=hr;have hv:=h.string_inv
   have hn:(Conv.runesFrom z z.size 0 #[]).size<=70368744177664:=by
    have:=size_runesFrom z z.size 0 #[];simp at this;omega
   have hrun:=run_runes_of_string (P:=P) w s d t z hs hd ht hn
   have hint: ∀(s:ByteArray) (b i:Nat) (acc:Array Value),(∀u∈acc.toList,∃n,u=Value.int .i32 n)->∀u∈(Conv.runesFrom s b i acc).toList,∃n,u=Value.int .i32 n:=by
    intro s b;induction b with
    |zero=>intro i acc h u hu;exact h u hu
    |succ b ih=>
     intro i acc h u hu;unfold Conv.runesFrom at hu;split at hu
     .refine ih _ _ (λy hy=> ?_) u hu;rw[Array.toList_push,List.mem_append]at hy;rcases hy with hy|hy
      .exact h y hy
      .rw[List.mem_singleton]at hy;exact⟨_,hy⟩
     .exact h u hu
   have hF:F2 (VR Z) (rl z) (rl z):=F2.same _ λu hu=>by
    obtain⟨n,rfl⟩:=hint z z.size 0 #[] (λu hu=>by simp at hu) u hu;exact .int _ _
   have hge:=grownCap_ge w (Conv.runesFrom z z.size 0 #[]).size 0 t;have hdrew:R B Z Y w.drew:=hR.same rfl
   obtain⟨m1,m2⟩:=hdrew.add (Conv.runesFrom z z.size 0 #[]++Array.replicate (grownCap w (Conv.runesFrom z z.size 0 #[]).size 0 t-(Conv.runesFrom z z.size 0 #[]).size) (.int .i32 0)) t (rl z) 1 (by
    unfold rl;rw[Array.size_append,Array.length_toList]
    omega) (by
    unfold rl;rw[Array.toList_append,List.take_left]
    exact hF)
   have hlen:(rl z).length=(Conv.runesFrom z z.size 0 #[]).size:=by unfold rl;simp
   refine⟨_,_,_, .slice (C ⟨w.heap.size,0,O⟩) (Conv.runesFrom z z.size 0 #[]).size (grownCap w (Conv.runesFrom z z.size 0 #[]).size 0 t), ?_, .inl rfl,m2,m1, ?_,((Below.refl _ _).drew).alloc hR.base _⟩
   .simp[execOp,ho,hv,hrun]
   .rw[hlen]
    exact .slice (o:=0) (g:=⟨w.drew.heap.size,0,_,1,t,O⟩) ⟨by unfold Mu.add;exact xB rfl,rfl⟩ (aB _) hge (by
     simp only[Array.size_append,Array.size_replicate]
     omega)
  .cases hr
 .cases hr
end
end
section
open Go.RowKit
section
variable {P:Program} {o:Oper} {a:Act} {w:World} {B:Base P} {N:Nat} {Z:Mu} {e:ey} {Y Y':Hp} {v:Value}
theorem ax7 {x y:Option Operand}(h:dB2 x=C y):x=y/\∀u,y=C u->fd u=Za:=by
 unfold dB2 at h;split at h
 .rename_i x;obtain⟨z,hz,h⟩:=Option.map_eq_some_iff.1 h;obtain⟨rfl,h2⟩:=cl hz;subst h;exact⟨rfl,λu hu=>by injection hu with hu;exact hu▸h2⟩
 .injection h with h
  subst h;exact⟨rfl,λu hu=>by cases hu⟩
def AOp.isCall :AOp->Bool
 | .call _ _| .callv _ _=>Za
 |_=>Zb
theorem dt8 {op:BinOp}{t t':TypeId}{x y:Operand}{ao:AOp}(ho:o.op= .binOp op t x y t')(h:cL4 P op t x y=C ao)(hr:ao.run e Y=C (v,Y'))(he:ig Z N e a.tmps)(hR:R B Z Y w):mq P o a w B Z v Y':=by
 unfold cL4 at h;split at h
 .split at h
  .rename_i h1 h2;obtain⟨rfl,k1⟩:=cl h1;obtain⟨rfl,k2⟩:=cl h2;injection h with h
   subst h;exact dp3 ho k1 k2 hr he hR
  .cases h
 .split at h
  .rename_i h1 h2;obtain⟨rfl,k1⟩:=cl h1;obtain⟨rfl,k2⟩:=cl h2;injection h with h
   subst h;exact dp3 ho k1 k2 hr he hR
  .cases h
 .split at h
  .rename_i hf h1 h2;obtain⟨rfl,k1⟩:=cl h1;obtain⟨rfl,k2⟩:=cl h2;injection h with h
   subst h;exact aT5 ho rfl hf k1 k2 hr he hR
  .rename_i hf h1 h2;obtain⟨rfl,k1⟩:=cl h1;obtain⟨rfl,k2⟩:=cl h2;injection h with h
   subst h;exact aT5 ho rfl hf k1 k2 hr he hR
  .cases h
 .split at h
  .rename_i hf h1 h2;obtain⟨rfl,k1⟩:=cl h1;obtain⟨rfl,k2⟩:=cl h2;injection h with h
   subst h;exact aT5 ho rfl hf k1 k2 hr he hR
  .rename_i hf h1 h2;obtain⟨rfl,k1⟩:=cl h1;obtain⟨rfl,k2⟩:=cl h2;injection h with h
   subst h;exact aT5 ho rfl hf k1 k2 hr he hR
  .cases h
 .rename_i hu;split at h
  .rename_i hk h1 h2;obtain⟨rfl,k1⟩:=cl h1;obtain⟨rfl,k2⟩:=cl h2;injection h with h
   subst h;exact dp4 ho rfl hu hk k1 k2 hr he hR
  .rename_i hk h1 h2;obtain⟨rfl,k1⟩:=cl h1;obtain⟨rfl,k2⟩:=cl h2;injection h with h
   subst h;exact dp4 ho rfl hu hk k1 k2 hr he hR
  .cases h
 .cases h
theorem dh8 {c:Call}{ao:AOp}(ho:o.op= .call c)(h:aU8 P c=C ao)(hc:ao.isCall=Zb)(hr:ao.run e Y=C (v,Y'))(he:ig Z N e a.tmps)(hR:R B Z Y w):mq P o a w B Z v Y':=by
 unfold aU8 at h;split at h
 .split at h
  .obtain⟨x,_,h⟩:=Option.map_eq_some_iff.1 h;subst h;simp[AOp.isCall]at hc
  .cases h
 .obtain⟨x,_,h⟩:=Option.map_eq_some_iff.1 h;subst h;simp[AOp.isCall]at hc
 .rename_i hcal;split at h
  .rename_i ha ht;split at h
   .rename_i hu1 hu2 h1 h2;obtain⟨rfl,k1⟩:=cl h1;obtain⟨rfl,k2⟩:=cl h2;split at h
    .rename_i hn hb hz;split at h
     .rename_i hzn;injection h with h
      subst h;exact cj8 ho hcal ha ht hu1 (.inl ⟨_,hu2⟩) hn hb hz hzn k1 k2 hr he hR
     .cases h
    .cases h
   .rename_i hu1 hu2 h1 h2;obtain⟨rfl,k1⟩:=cl h1;obtain⟨rfl,k2⟩:=cl h2;split at h
    .rename_i hn hb hz;split at h
     .rename_i hzn;injection h with h
      subst h;exact cj8 ho hcal ha ht hu1 (.inr hu2) hn hb hz hzn k1 k2 hr he hR
     .cases h
    .cases h
   .rename_i hu1 hu2 h1 h2;obtain⟨rfl,k1⟩:=cl h1;obtain⟨rfl,k2⟩:=cl h2;split at h
    .rename_i hn hb hz;split at h
     .rename_i hzn;injection h with h
      subst h;exact cR4 ho hcal ha ht hu1 ⟨_,hu2⟩ hn hb hz hzn.1 hzn.2 k1 k2 hr he hR
     .cases h
    .cases h
   .cases h
  .cases h
 .rename_i hcal;split at h
  .rename_i ha ht;split at h
   .rename_i hu h1 h2;obtain⟨rfl,k1⟩:=cl h1;obtain⟨rfl,k2⟩:=cl h2;split at h
    .rename_i hn;injection h with h
     subst h;exact dA2 ho hcal ha ht hu hn k1 k2 hr he hR
    .cases h
   .cases h
  .cases h
 .rename_i hcal;split at h
  .rename_i ha ht;split at h
   .rename_i hu h1;obtain⟨rfl,k1⟩:=cl h1;injection h with h
    subst h;exact dA5 ho hcal ha ht hu k1 hr he hR
   .rename_i hu h1;obtain⟨rfl,k1⟩:=cl h1;injection h with h
    subst h;exact dM9 ho hcal ha ht hu k1 hr he hR
   .rename_i hu;injection h with h
    subst h;exact cY6 ho hcal ha ht (.inl ⟨_,hu⟩) hr hR
   .rename_i hu;split at h
    .rename_i hp;injection h with h
     subst h;exact cY6 ho hcal ha ht (.inr ⟨_,_,hu,hp⟩) hr hR
    .cases h
   .cases h
  .cases h
 .rename_i hcal;split at h
  .rename_i ha ht;split at h
   .rename_i hu h1;obtain⟨rfl,k1⟩:=cl h1;injection h with h
    subst h;exact dA0 ho hcal ha ht hu k1 hr he hR
   .cases h
  .cases h
 .rename_i hcal;split at h
  .rename_i ha;split at h
   .rename_i h1 h2;obtain⟨rfl,k1⟩:=cl h1;obtain⟨rfl,k2⟩:=cl h2;injection h with h
    subst h;exact dA7 ho hcal ha k1 k2 hr he hR
   .cases h
  .cases h
 .rename_i hcal;split at h
  .rename_i ha;split at h
   .rename_i h1 h2;obtain⟨rfl,k1⟩:=cl h1;obtain⟨rfl,k2⟩:=cl h2;injection h with h
    subst h;exact dp5 ho hcal ha k1 k2 hr he hR
   .cases h
  .cases h
 .cases h
theorem dG8 {ao:AOp}(h:cL7 P o=C ao)(hc:ao.isCall=Zb)(hr:ao.run e Y=C (v,Y'))(he:ig Z N e a.tmps)(hR:R B Z Y w):mq P o a w B Z v Y':=by
 unfold cL7 at h;split at h
 .rename_i ho;obtain⟨x,h1,h⟩:=Option.map_eq_some_iff.1 h;obtain⟨rfl,k1⟩:=cl h1;subst h;exact cY7 (.inl ho) k1 hr he hR
 .rename_i ho;obtain⟨x,h1,h⟩:=Option.map_eq_some_iff.1 h;obtain⟨rfl,k1⟩:=cl h1;subst h;exact cY7 (.inr ho) k1 hr he hR
 .rename_i ho;split at h
  .rename_i h1 h2 h3;obtain⟨rfl,k1⟩:=cl h1;obtain⟨rfl,k2⟩:=cl h2;obtain⟨rfl,k3⟩:=cl h3;injection h with h
   subst h;exact dB0 ho k1 k2 k3 hr he hR
  .cases h
 .rename_i ho;split at h
  .rename_i hb;split at h
   .rename_i hz;injection h with h
    subst h;exact dA8 ho hb hz hr hR
   .cases h
  .split at h
   .rename_i hz;injection h with h
    subst h;exact dp2 ho hz hr hR
   .cases h
 .rename_i ho;split at h
  .rename_i h1;obtain⟨rfl,k1⟩:=cl h1;injection h with h
   subst h;exact dM7 ho k1 hr he hR
  .cases h
 .rename_i ho;split at h
  .rename_i hu hz;split at h
   .rename_i hall;obtain⟨ps,hp,h⟩:=Option.map_eq_some_iff.1 h;subst h;exact bL7 ho hu hz hall hp hr he hR
   .cases h
  .rename_i hu hz;split at h
   .rename_i hn;obtain⟨ps,hp,h⟩:=Option.map_eq_some_iff.1 h;subst h;exact bW2 ho hu hn hz hp hr he hR
   .cases h
  .cases h
 .rename_i ho;split at h
  .rename_i hu;split at h
   .rename_i hn hz;split at h
    .rename_i hcond;obtain⟨ps,hp,h⟩:=Option.map_eq_some_iff.1 h;subst h;exact cf4 ho hu hn hz hcond.1 hcond.2.1 hcond.2.2 hp hr he hR
    .cases h
   .cases h
  .cases h
 .injection h with h
  subst h;cases hr
 .rename_i ho;split at h
  .rename_i ht h1;obtain⟨rfl,k1⟩:=cl h1;obtain⟨n,hn,h⟩:=Option.map_eq_some_iff.1 h;subst h;exact dp6 ho ht hn k1 hr he hR
  .rename_i ht h1;obtain⟨rfl,k1⟩:=cl h1;injection h with h
   subst h;exact dA6 ho ht k1 hr he hR
  .cases h
 .rename_i ho;split at h
  .rename_i hn h1 h2;obtain⟨rfl,k1⟩:=cl h1;obtain⟨rfl,k2⟩:=cl h2;injection h with h
   subst h;exact dp9 ho hn k1 k2 hr he hR
  .cases h
 .rename_i ho;obtain⟨x,h1,h⟩:=Option.map_eq_some_iff.1 h;obtain⟨rfl,k1⟩:=cl h1;subst h;exact cH2 ho k1 hr he hR
 .rename_i ho;exact dt8 ho h hr he hR
 .rename_i ho;obtain⟨x,h1,h⟩:=Option.map_eq_some_iff.1 h;obtain⟨rfl,k1⟩:=cl h1;subst h;exact dT7 ho k1 hr he hR
 .rename_i ho;split at h
  .rename_i hs hd h1;obtain⟨rfl,k1⟩:=cl h1;injection h with h
   subst h;exact dA1 ho hs hd k1 hr he hR
  .rename_i hs hd h1;obtain⟨rfl,k1⟩:=cl h1;injection h with h
   subst h;exact dA3 ho hs hd k1 hr he hR
  .rename_i hs hd h1;obtain⟨rfl,k1⟩:=cl h1;split at h
   .rename_i ht;injection h with h
    subst h;exact dq0 ho hs ht hd k1 hr he hR
   .rename_i ht;injection h with h
    subst h;exact df4 ho hs ht hd k1 hr he hR
   .cases h
  .rename_i hs hd h1;obtain⟨rfl,k1⟩:=cl h1;split at h
   .rename_i ht;injection h with h
    subst h;exact cR6 ho hs hd ht k1 hr he hR
   .cases h
  .cases h
 .rename_i ho;split at h
  .rename_i hu h1;obtain⟨rfl,k1⟩:=cl h1;injection h with h
   subst h;exact dp7 ho hu k1 hr he hR
  .cases h
 .rename_i ho;obtain⟨x,h1,h⟩:=Option.map_eq_some_iff.1 h;obtain⟨rfl,k1⟩:=cl h1;subst h;exact dA9 ho k1 hr he hR
 .rename_i ho;split at h
  .rename_i h0 h1;injection h with h
   subst h;exact df2 ho h0 h1 hr he hR
  .cases h
 .rename_i ho;split at h
  .rename_i hu;split at h
   .rename_i hn hb hz h1 h2;obtain⟨rfl,k1⟩:=cl h1;obtain⟨rfl,k2⟩:=cl h2;split at h
    .rename_i hcond;injection h with h
     subst h;exact cx3 ho hu hn hb hz k1 k2 hcond.1 hcond.2 hr he hR
    .cases h
   .cases h
  .cases h
 .rename_i ho;split at h
  .rename_i hu h1 h2 h3;obtain⟨rfl,k1⟩:=cl h1;obtain⟨rfl,k2⟩:=ax7 h2;obtain⟨rfl,k3⟩:=ax7 h3;obtain⟨n,hn,h⟩:=Option.map_eq_some_iff.1 h;subst h;exact dp8 ho hu hn k1 k2 k3 hr he hR
  .rename_i hu h1 h2 h3;obtain⟨rfl,k1⟩:=cl h1;obtain⟨rfl,k2⟩:=ax7 h2;obtain⟨rfl,k3⟩:=ax7 h3;injection h with h
   subst h;exact cH4 ho hu k1 k2 k3 hr he hR
  .rename_i hu h1 h2 h3;obtain⟨rfl,k1⟩:=cl h1;obtain⟨rfl,k2⟩:=ax7 h2;obtain⟨rfl,k3⟩:=ax7 h3;obtain⟨n,hn,h⟩:=Option.map_eq_some_iff.1 h;subst h;exact cH3 ho hu hn k1 k2 k3 hr he hR
  .cases h
 .rename_i ho;split at h
  .rename_i hu h1;obtain⟨rfl,k1⟩:=cl h1;split at h
   .rename_i hi;split at h
    .rename_i hn;split at h
     .cases h
     .rename_i h0;injection h with h
      subst h;exact dN0 ho hu hi hn h0 k1 hr he hR
    .cases h
   .cases h
  .cases h
 .rename_i ho;split at h
  .rename_i hu h1;obtain⟨rfl,k1⟩:=cl h1;split at h
   .rename_i hi;split at h
    .rename_i hn hb;injection h with h
     subst h;exact de9 ho hu hi hn hb k1 hr he hR
    .cases h
   .cases h
  .cases h
 .rename_i ho;split at h
  .rename_i hu h1 h2;obtain⟨rfl,k1⟩:=cl h1;obtain⟨rfl,k2⟩:=cl h2;obtain⟨n,hn,h⟩:=Option.map_eq_some_iff.1 h;subst h;exact dM8 ho hu hn k1 k2 hr he hR
  .rename_i hu h1 h2;obtain⟨rfl,k1⟩:=cl h1;obtain⟨rfl,k2⟩:=cl h2;obtain⟨n,hn,h⟩:=Option.map_eq_some_iff.1 h;subst h;exact dA4 ho hu hn k1 k2 hr he hR
  .cases h
 .rename_i ho;split at h
  .rename_i hu h1 h2;obtain⟨rfl,k1⟩:=cl h1;obtain⟨rfl,k2⟩:=cl h2;split at h
   .rename_i hn hb;injection h with h
    subst h;exact df1 ho hu hn hb k1 k2 hr he hR
   .cases h
  .rename_i hu h1 h2;obtain⟨rfl,k1⟩:=cl h1;obtain⟨rfl,k2⟩:=cl h2;injection h with h
   subst h;exact df0 ho hu k1 k2 hr he hR
  .cases h
 .rename_i ho;split at h
  .rename_i hu h1 h2 h3;obtain⟨rfl,k1⟩:=cl h1;obtain⟨rfl,k2⟩:=cl h2;obtain⟨rfl,k3⟩:=cl h3;split at h
   .rename_i hn;injection h with h
    subst h;obtain⟨n,hn⟩:=Option.isSome_iff_exists.1 hn;exact df3 ho hu hn k1 k2 k3 hr he hR
   .cases h
  .cases h
 .rename_i ho;obtain⟨x,h1,h⟩:=Option.map_eq_some_iff.1 h;obtain⟨rfl,k1⟩:=cl h1;subst h;exact cR5 ho k1 hr he hR
 .rename_i ho;exact dh8 ho h hc hr he hR
 .injection h with h
  subst h;cases hr
 .injection h with h
  subst h;cases hr
 .cases h
end
end
section
open Result renaming andThen_ok -> aB
open Sem renaming run_bind -> aD, run_pure -> bB
open Go.RowKit
def cz5 (ops:Array Oper):Option (Nat×Bool)->Option (Option (Nat×Bool))
 |none=>C O
 |some (j,want)=>match(ops[j]?).bind (·.dst)with
  |some t=>C (C (t,want))
  |none=>O
def dl2 (N:Nat):Option Nat->Bool
 |none=>Za
 |some d=>d<N
def bF2 (P:Program)(N:Nat)(ops:Array Oper)(o:Oper):Option AOper:=match cL7 P o,cz5 ops o.guard with
 |some op,C g=>if dl2 N o.dst then C ⟨o.dst,op,g⟩else O
 |_,_=>O
def bz4 (P:Program)(N:Nat)(ops:Array Oper):List Oper->Option (List AOper)
 |[]=>C []
 |o::r=>match bF2 P N ops o,bz4 P N ops r with
  |some x,C l=>C (x::l)
  |_,_=>O
def cm4 (P:Program)(f:FuncId):Prop:= ∃fn,P.funcs[f]?=C fn/\fn.body.isSome=Za/\(fn.name== "runtime.NumGoroutine")=Zb
def dP5 (P:Program)(B:Base P)(Z:Mu)(w:World)(K:Value->Hp->Prop):Ending->World->Prop:=λx w'=>
 ∃r Y' r' Z',x= .returned r'/\K r Y'/\Z.le Z'/\R B Z' Y' w'/\VR Z' r r'/\Below B w w'/\P=P
def Sim (P:Program)(f:FuncId)(S:bA9):Prop:=
 ∀(B:Base P) Z Y w args (cargs:Array Value) K,S args Y K->R B Z Y w->F2 (VR Z) args cargs.toList->cm4 P f/\Calls P f cargs w (dP5 P B Z w K)
def aV8 :Nat:=1000000
def aw0 :AExit->Exit->Prop
 | .normal, .normal=>True
 | .exit i, .exit j=>i=j/\j<aV8
 | .exit i, .goto l=>i=aV8+2*l
 | .ret, .ret=>True
 |_,_=>False
def ad6 {P:Program}(B:Base P)(N:Nat)(Z:Mu)(w:World)(Q:AExit->ey->Hp->Prop):Exit->Act->World->Prop:=λx a' w'=>
 ∃ax e' Y' Z',aw0 ax x/\Q ax e' Y'/\Z.le Z'/\R B Z' Y' w'/\ig Z' N e' a'.tmps/\a'.defers=[]/\Below B w w'
section
variable {P:Program} {T:ja} {o:Oper} {a:Act} {w:World} {B:Base P} {N:Nat} {Z:Mu} {e:ey} {Y Y':Hp} {v:Value}
theorem ad6.trans {Z':Mu}{w':World}{Q:AExit->ey->Hp->Prop}(hZ:Z.le Z')(hb:Below B w w'){x:Exit}{a':Act}{w'':World}(h:ad6 B N Z' w' Q x a' w''):ad6 B N Z w Q x a' w'':=by
 obtain⟨ax,e',Y',Z'',h1,h2,h3,h4,h5,h6,h7⟩:=h;exact⟨ax,e',Y',Z'',h1,h2,Mu.le_trans hZ h3,h4,h5,h6,hb.trans h7⟩
theorem cl8 {ops:Array Oper}{g:Option (Nat×Bool)}{op:AOp}(hg:cz5 ops o.guard=C g)(he:ig Z N e a.tmps):Region.wanted o (yielded ops a.tmps)=wanted ⟨o.dst,op,g⟩ e:=by
 unfold cz5 at hg;unfold Region.wanted wanted;split at hg
 .rename_i h;injection hg with hg
  subst hg;simp[h]
 .rename_i j want h;split at hg
  .rename_i t ht;injection hg with hg
   subst hg;simp only[h];have hv:=he.2 t;unfold yielded;rw[ht];simp only[wA];by_cases hlt:t<a.tmps.size
   .have e1:a.tmps[t]?=C (a.tmps.getD t undef):=by simp[hlt]
    rw[e1];generalize a.tmps.getD t undef=u at*;generalize e t=u' at*;cases hv<;>simp
    try(rename_i b;cases b<;>cases want<;>rfl)
   .have e1:a.tmps[t]?=O:=Array.getElem?_eq_none (Nat.le_of_not_lt hlt);have e2:a.tmps.getD t undef=undef:=by simp[e1]
    rw[e2]at hv;rw[e1];generalize e t=u at*;cases hv;simp
  .cases hg
theorem ig.putO (h:ig Z N e a.tmps){d:Option Nat}(hd:dl2 N d=Za){v':Value}(hv:VR Z v v'):ig Z N (e.putO d v) (a.put d v').tmps:=by
 cases d with
 |none=>exact h
 |some d=>exact h.put d (by simpa[dl2]using hd) hv
theorem ak5 (d:Option Nat)(v':Value):(a.put d v').defers=a.defers:=by cases d<;>rfl
theorem ch8 {f:FuncId}(h:cm4 P f)(args:Array Value)(w:World):(callFunc f args).run P w= .ok (.enter f args) w:=by
 obtain⟨fn,h1,h2,h3⟩:=h;have h4:fn.body.isNone=Zb:=by cases hb:fn.body<;>simp[hb]at h2⊢
 simp only[callFunc,aD,run_program,aB,h1,h3,h4,Bool.false_eq_true,if_false,bB]
theorem VR.func_inv {f:Fn}{x y:Array Value}{v':Value}(h:VR Z (.func f x y) v'): ∃x' y',v'= .func f x' y'/\F2 (VR Z) x.toList x'.toList/\F2 (VR Z) y.toList y'.toList:=by
 cases h with
 |func h1 h2=>exact⟨_,_,rfl,h1,h2⟩
theorem dh9 {f:FuncId}{args:List Operand}(h:cL7 P o=C (.call f args)): ∃c,o.op= .call c/\aU8 P c=C (.call f args):=by
 unfold cL7 at h;split at h
 all_goals first
  |exact⟨_,‹_›,h⟩
  |(exfalso;revert h;unfold cL4;(repeat' split)<;>simp)
  |(exfalso;revert h;(repeat' split)<;>simp)
theorem cV0 {f:Operand}{args:List Operand}(h:cL7 P o=C (.callv f args)): ∃c,o.op= .call c/\aU8 P c=C (.callv f args):=by
 unfold cL7 at h;split at h
 all_goals first
  |exact⟨_,‹_›,h⟩
  |(exfalso;revert h;unfold cL4;(repeat' split)<;>simp)
  |(exfalso;revert h;(repeat' split)<;>simp)
theorem cL5 {c:Call}{f:FuncId}{args:List Operand}(h:aU8 P c=C (.call f args)):c.callee= .value (.func f)/\bL9 c.args.toList=C args:=by
 unfold aU8 at h;split at h
 .rename_i hc;split at h
  .simp at h;obtain⟨h1,rfl⟩:=h;exact⟨hc,h1⟩
  .cases h
 all_goals (exfalso;revert h;(repeat' split)<;>simp)
theorem cz4 {c:Call}{f:Operand}{args:List Operand}(h:aU8 P c=C (.callv f args)):c.callee= .value f/\fd f=Za/\bL9 c.args.toList=C args:=by
 unfold aU8 at h;split at h
 .exfalso;revert h;split<;>simp
 .rename_i hc;simp at h;obtain⟨h1,rfl⟩:=h;exact⟨hc,rfl,h1⟩
 all_goals (exfalso;revert h;(repeat' split)<;>simp)
theorem cW4 (hT: ∀f,Sim P f (T f)){f:FuncId}{args:List Value}{cargs:Array Value}{k:Value->Hp->Prop}(hr:T f args Y k)(hR:R B Z Y w)(ha:F2 (VR Z) args cargs.toList)
  (hrun:cm4 P f->(execOp a.eval o).run P w= .ok (.enter f cargs) w) {next:Act->World->Prop} {Q:Exit->Act->World->Prop}
  (hk: ∀v Y' v' Z' w',k v Y'->Z.le Z'->R B Z' Y' w'->VR Z' v v'->Below B w w'->next (a.put o.dst v') w'):o.wp P a w next Q:=by
 obtain⟨h1,h2⟩:=hT f B Z Y w args cargs k hr hR ha;unfold Oper.wp;rw[hrun h1];simp only[Oper.upon];refine h2.mono λx w' hx=> ?_
 obtain⟨r,Y',r',Z',rfl,q1,q2,q3,q4,q5,_⟩:=hx;exact hk r Y' r' Z' w' q1 q2 q3 q4 q5
theorem bY3 (hT: ∀f,Sim P f (T f)){op:AOp}(h:cL7 P o=C op){k:Value->Hp->Prop}(hr:di T op e Y k)(he:ig Z N e a.tmps)(hR:R B Z Y w)
  {next:Act->World->Prop} {Q:Exit->Act->World->Prop}
  (hk: ∀v Y' v' Z' w',k v Y'->Z.le Z'->R B Z' Y' w'->VR Z' v v'->Below B w w'->next (a.put o.dst v') w'):o.wp P a w next Q:=by
 by_cases hc:op.isCall=Za
 .cases op<;>simp[AOp.isCall]at hc
  case call f args=>
   obtain⟨c,ho,h1⟩:=dh9 h;obtain⟨h2,h3⟩:=cL5 h1;have ha:=bv8 he h3;simp only[di]at hr;refine cW4 (cargs:=c.args.map a.eval) hT hr hR (by simpa using ha) (λhcall=> ?_) hk;simp only[execOp,ho,resolve,h2,aD,Act.eval,Deferred.ofValue,bB,aB,invoke];simp[ch8 hcall]
  case callv f args=>
   obtain⟨c,ho,h1⟩:=cV0 h;obtain⟨h2,h4,h3⟩:=cz4 h1;have ha:=bv8 he h3;have hf:=he.ev h4;simp only[di]at hr;split at hr
   .rename_i g first captured hg
    rw[hg]at hf;obtain⟨x',y',e1,e2,e3⟩:=hf.func_inv;refine cW4 (cargs:=x'++c.args.map a.eval++y') hT hr hR (by simpa using(e2.append ha).append e3) (λhcall=> ?_) hk;simp only[execOp,ho,resolve,h2,e1,aD,Deferred.ofValue,bB,aB,invoke];simp[ch8 hcall]
   .exact hr.elim
 .have hr': ∃v Y',op.run e Y=C (v,Y')/\k v Y':=by
   unfold di at hr;cases op<;>simp[AOp.isCall]at hc<;>simp only at hr
   all_goals
    split at hr
    .rename_i v Y' hv;exact⟨v,Y',hv,hr⟩
    .exact hr.elim
  obtain⟨v,Y',hv,hkv⟩:=hr';obtain⟨nx,w',Z',v',h1,h2,h3,h4,h5,h6⟩:=dG8 h (by simpa using hc) hv he hR;unfold Oper.wp;rw[h1];rcases h2 with rfl|⟨rfl,rfl⟩
  .exact hk v Y' v' Z' w' hkv h3 h4 h5 h6
  .exact hk v Y' undef Z' w' hkv h3 h4 h5 h6
theorem cx6 (hT: ∀f,Sim P f (T f)){ops:Array Oper}{Q:AExit->ey->Hp->Prop}{Z0:Mu}{w0:World}: ∀(l:List Oper) (al:List AOper) (e:ey) (Y:Hp) (Z:Mu) (a:Act) (w:World),bz4 P N ops l=C al->aD1 T (Q .normal) al e Y->
  R B Z Y w->ig Z N e a.tmps->a.defers=[]->Z0.le Z->Below B w0 w->wpList P ops (ad6 B N Z0 w0 Q) l a w
 |[],al,e,Y,Z,a,w,h,hw,hR,he,hd,hZ0,hb0=>by
  simp[bz4]at h;subst h;exact⟨.normal,e,Y,Z,trivial,hw,hZ0,hR,he,hd,hb0⟩
 |o::l,al,e,Y,Z,a,w,h,hw,hR,he,hd,hZ0,hb0=>by
  simp only[bz4]at h;split at h
  .rename_i x r h1 h2;injection h with h
   subst h;unfold bF2 at h1;split at h1
   .rename_i op g h3 h4;split at h1
    .rename_i h5;injection h1 with h1
     subst h1;have hwant:=cl8 (op:=op) h4 he;unfold wpList;simp only[aD1]at hw;rw[hwant];split
     .rename_i hb;rw[xB hb]at hw;left;refine bY3 hT h3 hw he hR λv Y' v' Z' w' hk hZ hR' hv hbel=> ?_
      exact cx6 hT l r _ Y' Z' (a.put o.dst v') w' h2 hk hR' ((he.mono hZ).putO h5 hv) (by rw[ak5];exact hd) (Mu.le_trans hZ0 hZ) (hb0.trans hbel)
     .rename_i hb;rw[xD hb]at hw;exact cx6 hT l r _ Y Z (a.put o.dst undef) w h2 hw hR (he.putO h5 (VR.undef Z)) (by rw[ak5];exact hd) hZ0 hb0
    .cases h1
   .cases h1
  .cases h
end
end
section
open List renaming map_congr_left -> aB, mem_append -> aD
open Go.RowKit
def ux :Operand->List Nat
 | .tmp t=>[t]
 |_=>[]
def dt7 :Option Operand->List Nat
 |some x=>ux x
 |none=>[]
def AOp.reads :AOp->List Nat
 | .move x| .box _ x| .load x| .loadN _ x| .nilCheck x| .un _ x| .conv _ x| .off _ x| .fieldV _ _ _ x| .extract x _| .len x| .lenS x| .capN x| .range x| .next x| .encR x| .strOf x| .strOfR x| .runesOf x=>ux x
 | .pick c a b| .sliceX c a b=>ux c++ux a++ux b
 | .alloc _ _| .lenC _| .stuck| .newB=>[]
 | .build _ ps| .buildSlice _ _ _ ps=>ps.flatMap λp=>ux p.2.2
 | .store _ a x=>ux a++ux x
 | .bin _ x y| .eqv _ _ x y| .eqCells _ _ x y| .idx _ x y| .idxA _ _ x y| .indexV _ _ _ x y| .indexS x y| .append _ _ x y| .appendZ _ _ _ x y| .copy _ x y| .most x y| .least x y| .makeSlice _ _ _ x y=>ux x++ux y
 | .mkFunc _ xs cs=>xs.flatMap ux++cs.flatMap ux
 | .slice _ x lo hi| .sliceStr x lo hi| .sliceArr _ _ x lo hi=>ux x++dt7 lo++dt7 hi
 | .call _ xs=>xs.flatMap ux
 | .callv f xs=>ux f++xs.flatMap ux
theorem cu {e e':ey}{x:Operand}(h: ∀t∈ux x,e t=e' t):e.ev x=e'.ev x:=by
 cases x<;>first|rfl|exact h _ (by simp[ux])
theorem ax3 {e e':ey}{x:Option Operand}(h: ∀t∈dt7 x,e t=e' t):x.map e.ev=x.map e'.ev:=by
 cases x with
 |none=>rfl
 |some x=>simp only[Option.map_some];rw[cu h]
theorem bh2 {e e':ey}{xs:List Operand}(h: ∀t∈xs.flatMap ux,e t=e' t):xs.map e.ev=xs.map e'.ev:=by
 apply aB;intro x hx;exact cu λt ht=>h t (List.mem_flatMap.2 ⟨x,hx,ht⟩)
theorem ch9 {e e':ey}{ps:List (Nat×Nat×Operand)}(h: ∀t∈ps.flatMap (λp=>ux p.2.2),e t=e' t):(ps.map λ(o,s,x)=>(o,s,e.ev x))=ps.map λ(o,s,x)=>(o,s,e'.ev x):=by
 apply aB;rintro⟨o,s,x⟩ hx;simp only;rw[cu λt ht=>h t (List.mem_flatMap.2 ⟨_,hx,ht⟩)]
theorem bE4 {e e':ey}{Y:Hp}{op:AOp}(h: ∀t∈op.reads,e t=e' t):op.run e Y=op.run e' Y:=by
 cases op<;>simp only[AOp.reads,aD]at h<;>simp only[AOp.run]
 case move x=>rw[cu h]
 case pick c a b=>rw[cu λt ht=>h t (.inl (.inl ht)),cu λt ht=>h t (.inl (.inr ht)),cu λt ht=>h t (.inr ht)]
 case box es x=>rw[cu h]
 case build z ps=>rw[ch9 h]
 case buildSlice es ln z ps=>rw[ch9 h]
 case load x=>rw[cu h]
 case loadN n x=>rw[cu h]
 case store n a x=>rw[cu λt ht=>h t (.inl ht),cu λt ht=>h t (.inr ht)]
 case nilCheck x=>rw[cu h]
 case bin op x y=>rw[cu λt ht=>h t (.inl ht),cu λt ht=>h t (.inr ht)]
 case eqv kd neg x y=>rw[cu λt ht=>h t (.inl ht),cu λt ht=>h t (.inr ht)]
 case eqCells neg ks x y=>rw[cu λt ht=>h t (.inl ht),cu λt ht=>h t (.inr ht)]
 case un op x=>rw[cu h]
 case conv k x=>rw[cu h]
 case mkFunc f xs cs=>rw[bh2 λt ht=>h t (.inl ht),bh2 λt ht=>h t (.inr ht)]
 case makeSlice es by_ z l c=>rw[cu λt ht=>h t (.inl ht),cu λt ht=>h t (.inr ht)]
 case slice es x lo hi=>rw[cu λt ht=>h t (.inl (.inl ht)),ax3 λt ht=>h t (.inl (.inr ht)),ax3 λt ht=>h t (.inr ht)]
 case sliceStr x lo hi=>rw[cu λt ht=>h t (.inl (.inl ht)),ax3 λt ht=>h t (.inl (.inr ht)),ax3 λt ht=>h t (.inr ht)]
 case sliceArr es n x lo hi=>rw[cu λt ht=>h t (.inl (.inl ht)),ax3 λt ht=>h t (.inl (.inr ht)),ax3 λt ht=>h t (.inr ht)]
 case off n x=>rw[cu h]
 case idx es x i=>rw[cu λt ht=>h t (.inl ht),cu λt ht=>h t (.inr ht)]
 case idxA ln es x i=>rw[cu λt ht=>h t (.inl ht),cu λt ht=>h t (.inr ht)]
 case fieldV fo n agg x=>rw[cu h]
 case indexV ln es agg x i=>rw[cu λt ht=>h t (.inl ht),cu λt ht=>h t (.inr ht)]
 case indexS x i=>rw[cu λt ht=>h t (.inl ht),cu λt ht=>h t (.inr ht)]
 case extract x i=>rw[cu h]
 case append es by_ s x=>rw[cu λt ht=>h t (.inl ht),cu λt ht=>h t (.inr ht)]
 case appendZ es by_ z s x=>rw[cu λt ht=>h t (.inl ht),cu λt ht=>h t (.inr ht)]
 case copy es d s=>rw[cu λt ht=>h t (.inl ht),cu λt ht=>h t (.inr ht)]
 case len x=>rw[cu h]
 case lenS x=>rw[cu h]
 case capN x=>rw[cu h]
 case range x=>rw[cu h]
 case next x=>rw[cu h]
 case encR x=>rw[cu h]
 case strOf x=>rw[cu h]
 case strOfR x=>rw[cu h]
 case runesOf x=>rw[cu h]
 case sliceX c a b=>rw[cu λt ht=>h t (.inl (.inl ht)),cu λt ht=>h t (.inl (.inr ht)),cu λt ht=>h t (.inr ht)]
 case most x y=>rw[cu λt ht=>h t (.inl ht),cu λt ht=>h t (.inr ht)]
 case least x y=>rw[cu λt ht=>h t (.inl ht),cu λt ht=>h t (.inr ht)]
theorem cJ7 {T:ja}{e e':ey}{Y:Hp}{op:AOp}{k:Value->Hp->Prop}(h: ∀t∈op.reads,e t=e' t)(hr:di T op e Y k):di T op e' Y k:=by
 by_cases hc:op.isCall=Za
 .cases op<;>simp[AOp.isCall]at hc
  case call f xs=>
   simp only[di,AOp.reads]at*;rw[<-bh2 h];exact hr
  case callv f xs=>
   simp only[di,AOp.reads,aD]at*;rw[<-bh2 λt ht=>h t (.inr ht),<-cu λt ht=>h t (.inl ht)];exact hr
 .unfold di at*;cases op<;>simp[AOp.isCall]at hc<;>simp only at hr⊢ <;>rw[<-bE4 h]<;>exact hr
def AOper.looks (o:AOper):List Nat:=o.op.reads++(match o.guard with|some (t,_)=>[t]|none=>[])
theorem aU9 {e e':ey}{o:AOper}(h: ∀t∈o.looks,e t=e' t):wanted o e=wanted o e':=by
 unfold wanted;unfold AOper.looks at h;cases hg:o.guard with
 |none=>rfl
 |some g=>
  rw[hg]at h;have:=h g.1 (by simp);simp only[this]
theorem br2 {e:ey}{Y Y':Hp}{op:AOp}{v:Value}(hs:op.still=Za)(h:op.run e Y=C (v,Y')):Y'=Y:=by
 cases op<;>simp[AOp.still]at hs<;>simp only[AOp.run]at h
 all_goals
  revert h
  repeat' split
  all_goals first
   |(intro h;cases h;done)
   |(intro h;simp only[Option.some.injEq,Prod.mk.injEq]at h;exact h.2.symm)
   |(intro h;obtain⟨_,_,h⟩:=Option.map_eq_some_iff.1 h;simp only[Prod.mk.injEq]at h;exact h.2.symm)
theorem dh3 {e:ey}{Y:Hp}{op:AOp}{v:Value}(hs:op.still=Za)(hl:op.isLoad=Zb)(h:op.run e Y=C (v,Y))(Y':Hp):op.run e Y'=C (v,Y'):=by
 cases op<;>simp[AOp.still]at hs
 case slice es x lo hi=>
  cases lo with
  |some _=>simp[AOp.isLoad]at hl
  |none=>
   simp only[AOp.run,aJ6,Bool.or_true,if_true]at h⊢;revert h
   repeat' split
   all_goals first
    |(intro h;cases h;done)
    |(intro h;simp only[Option.some.injEq,Prod.mk.injEq]at h⊢;exact⟨h.1,trivial⟩)
    |simp_all
 all_goals first
  |(simp[AOp.isLoad]at hl;done)
  |(simp only[AOp.run]at h⊢
    revert h
    repeat' split
    all_goals first
     |(intro h;cases h;done)
     |(intro h;simp only[Option.some.injEq,Prod.mk.injEq]at h⊢;exact⟨h.1,trivial⟩)
     |(intro h;obtain⟨u,hu,h⟩:=Option.map_eq_some_iff.1 h;simp only[Prod.mk.injEq]at h;rw[hu];simp[h.1]))
end
section
open Bool renaming and_eq_true -> bB, not_eq_true' -> eD
open List renaming mem_cons_of_mem -> aB, mem_cons_self -> aD, range -> bD, find?_some -> cB, getD_eq_getElem?_getD -> cD, getElem?_eq_none -> dB, all_eq_true -> fB, mem_of_find?_eq_some -> fD
open Nat renaming lt_or_ge -> dD
open Go.RowKit
theorem dd8 {listed:Array Bool}{i:Nat}(h:listed.getD i Za=Zb):listed.getD i Zb=Zb:=by
 rcases dD i listed.size with h'|h'
 .simp[h']at h⊢;exact h
 .simp[Array.getElem?_eq_none h']at h
theorem dx1 {listed:Array Bool}{i:Nat}(hi:i<listed.size)(h:listed.getD i Zb=Zb):listed.getD i Za=Zb:=by
 simp[hi]at h⊢;exact h
abbrev DL :=List (AOper×List Nat)
def ur (al:DL)(i:Nat):Option Nat:=(al[i]?).bind (·.1.dst)
def bh9 (al:DL)(i:Nat):List Nat:=match al[i]? with
 |some (o,_)=>o.looks
 |none=>[]
def aS8 (al:DL):Bool:=
 (bD al.length).all λi=>
  (lf al i).all (λq=>Zc (q<i))&&
  (match ur al i with
   |none=>Za
   |some t=>(bD al.length).all λj=>i==j||((ur al j !=C t)&&(!(bh9 al j).contains t||ar3 al i j||ar3 al j i)))
section
variable {al:DL}
theorem cE6 (h:aS8 al=Za){i q:Nat}(hi:i<al.length)(hq:q∈lf al i):q<i:=by
 have:=List.all_eq_true.1 h i (List.mem_range.2 hi);simp only[bB,fB,decide_eq_true_eq]at this;exact this.1 q hq
theorem aM2 {i t:Nat}(h:ur al i=C t):i<al.length:=by
 unfold ur at h;rcases dD i al.length with h1|h1
 .exact h1
 .simp[dB h1]at h
theorem cP4 (h:aS8 al=Za){i j t:Nat}(hi:ur al i=C t)(hj:ur al j=C t):i=j:=by
 have:=List.all_eq_true.1 h i (List.mem_range.2 (aM2 hi));simp only[bB,hi]at this;have:=List.all_eq_true.1 this.2 j (List.mem_range.2 (aM2 hj));by_cases e:i=j
 .exact e
 .simp[hj,e]at this
theorem cP3 (h:aS8 al=Za){i j t:Nat}(hi:ur al i=C t)(hjl:j<al.length)(hj:t∈bh9 al j)(hne:i≠j):ar3 al i j=Za∨ar3 al j i=Za:=by
 have:=List.all_eq_true.1 h i (List.mem_range.2 (aM2 hi));simp only[bB,hi]at this;have:=List.all_eq_true.1 this.2 j (List.mem_range.2 hjl);simp[hne,hj]at this;exact this.2
def aH3 (al:DL)(D:List Nat):Prop:= ∀i∈D,∀q∈lf al i,q∈D
theorem cQ9 {acc ps:List Nat}{p:Nat}(h:(bp7 acc ps).testBit p=Za): ∃q∈ps,q=p∨(acc.getD q 0).testBit p=Za:=by
 have key: ∀(ps:List Nat) (m:Nat),(ps.foldl (λm q=>m|||2 ^ q|||acc.getD q 0) m).testBit p=Za->m.testBit p=Za∨∃q∈ps,q=p∨(acc.getD q 0).testBit p=Za:=by
  intro ps;induction ps with
  |nil=>intro m h;exact .inl h
  |cons q ps ih=>
   intro m h;rcases ih _ h with h1|⟨q',h1,h2⟩
   .simp only[Nat.testBit_or,Nat.testBit_two_pow,Bool.or_eq_true,decide_eq_true_eq]at h1;rcases h1 with(h1|h1)|h1
    .exact .inl h1
    .exact .inr ⟨q,aD .., .inl h1⟩
    .exact .inr ⟨q,aD .., .inr h1⟩
   .exact .inr ⟨q',aB _ h1,h2⟩
 rcases key ps 0 h with h1|h1
 .simp at h1
 .exact h1
theorem bV7 {al0:DL}: ∀(r pre:DL) (acc:List Nat),pre++r=al0->acc.length=pre.length->
  (∀j p,(acc.getD j 0).testBit p=Za->∃q∈lf al0 j,q=p∨(q<j/\(acc.getD q 0).testBit p=Za))->
  ∀j p,((cG7 acc r).getD j 0).testBit p=Za->∃q∈lf al0 j,q=p∨(q<j/\((cG7 acc r).getD q 0).testBit p=Za)
 |[],pre,acc,_,_,h=>h
 |(o,ps)::r,pre,acc,he,hl,h=>by
  simp only[cG7];refine bV7 r (pre++[(o,ps)]) (acc++[bp7 acc ps]) (by rw[List.append_assoc];exact he) (by simp[hl]) λj p hj=> ?_
  have hps:lf al0 acc.length=ps:=by
   unfold lf;rw[<-he,hl,List.getElem?_append_right (Nat.le_refl _)];simp
  have hget: ∀q,q<acc.length->(acc++[bp7 acc ps]).getD q 0=acc.getD q 0:=by
   intro q hq;simp only[cD];rw[List.getElem?_append_left hq]
  by_cases h1:j<acc.length
  .rw[hget j h1]at hj;obtain⟨q,h2,h3⟩:=h j p hj;refine⟨q,h2,h3.imp id λ⟨h4,h5⟩=>⟨h4, ?_⟩⟩;rw[hget q (by omega)];exact h5
  .by_cases h2:j=acc.length
   .subst h2;have:(acc++[bp7 acc ps]).getD acc.length 0=bp7 acc ps:=by simp
    rw[this]at hj;obtain⟨q,h3,h4⟩:=cQ9 hj;refine⟨q,by rw[hps];exact h3,h4.imp id λh5=> ?_⟩
    have hq:q<acc.length:=by
     rcases dD q acc.length with h6|h6
     .exact h6
     .simp[cD,dB h6]at h5
    exact⟨hq,by rw[hget q hq];exact h5⟩
   .have:(acc++[bp7 acc ps]).getD j 0=0:=by
     simp only[cD];rw[dB (by simp;omega)];rfl
    rw[this]at hj;simp at hj
theorem db9 {p j:Nat}(h:ar3 al p j=Za): ∃q∈lf al j,q=p∨(q<j/\ar3 al p q=Za):=
 bV7 al [] [] rfl rfl (λj p h=>by simp at h) j p h
theorem aH3.bef {D:List Nat}(h:aH3 al D): ∀(p j:Nat),ar3 al p j=Za->(∀q∈lf al j,q∈D)->p∈D:=by
 intro p j;induction j using Nat.strongRecOn with
 |_ j ih=>
  intro hb hj;obtain⟨q,hq,rfl|⟨hlt,hb⟩⟩:=db9 hb
  .exact hj q hq
  .exact ih q hlt hb (h q (hj q hq))
def mh (al:DL)(e0:ey)(val:Nat->Value)(D:List Nat):ey:=λt=>match D.find? (λi=>ur al i==C t)with
 |some i=>val i
 |none=>e0 t
theorem zl {e0:ey}{val:Nat->Value}{D:List Nat}(h:aS8 al=Za){i t:Nat}(hi:i∈D)(hd:ur al i=C t):mh al e0 val D t=val i:=by
 unfold mh;cases hf:D.find? (λi=>ur al i==C t)with
 |none=>
  have:=List.find?_eq_none.1 hf i hi;simp[hd]at this
 |some j=>
  have:=cB hf;simp only[beq_iff_eq]at this;rw[cP4 h this hd]
theorem vx {e0:ey}{val:Nat->Value}{D:List Nat}{t:Nat}(h: ∀i∈D,ur al i≠C t):mh al e0 val D t=e0 t:=by
 unfold mh;have:D.find? (λi=>ur al i==C t)=O:=List.find?_eq_none.2 λi hi=>by simpa using h i hi
 rw[this]
theorem aB1 {e0:ey}{val:Nat->Value}{D:List Nat}(h:aS8 al=Za)(i:Nat)(hi:i∉D):mh al e0 val (i::D)=(mh al e0 val D).putO (ur al i) (val i):=by
 funext t
 cases hd:ur al i with
 |none=>
  simp only[ey.putO];by_cases hx: ∃j∈D,ur al j=C t
  .obtain⟨j,hj,hjt⟩:=hx;rw[zl h (aB _ hj) hjt,zl h hj hjt]
  .rw[vx (λj hj hjt=>hx ⟨j,hj,hjt⟩)];refine vx λj hj hjt=> ?_
   rcases List.mem_cons.1 hj with rfl|hj
   .rw[hd]at hjt;cases hjt
   .exact hx ⟨j,hj,hjt⟩
 |some d=>
  simp only[ey.putO,ey.put];split
  .rename_i ht;subst ht;exact zl h (aD ..) hd
  .rename_i ht;by_cases hx: ∃j∈D,ur al j=C t
   .obtain⟨j,hj,hjt⟩:=hx;rw[zl h (aB _ hj) hjt,zl h hj hjt]
   .rw[vx (λj hj hjt=>hx ⟨j,hj,hjt⟩)];refine vx λj hj hjt=> ?_
    rcases List.mem_cons.1 hj with rfl|hj
    .rw[hd]at hjt;exact ht (Option.some.inj hjt).symm
    .exact hx ⟨j,hj,hjt⟩
def be8 (al:DL)(e0:ey)(val:Nat->Value)(j:Nat):ey:=λt=>match(bD al.length).find? (λi=>ur al i==C t&&ar3 al i j)with
 |some i=>val i
 |none=>e0 t
theorem cz0 {e0:ey}{val:Nat->Value}{D:List Nat}(h:aS8 al=Za)(hD:aH3 al D){j:Nat}(hjl:j<al.length)(hj:j∉D)(hp: ∀q∈lf al j,q∈D){t:Nat}(ht:t∈bh9 al j):
  mh al e0 val D t=be8 al e0 val j t:=by
 unfold be8;cases hf:(bD al.length).find? (λi=>ur al i==C t&&ar3 al i j)with
 |some i=>
  have:=cB hf;simp only[bB,beq_iff_eq]at this;exact zl h (hD.bef _ _ this.2 hp) this.1
 |none=>
  refine vx λi hi hit=> ?_
  have h1:=List.find?_eq_none.1 hf i (List.mem_range.2 (aM2 hit));simp only[hit,beq_self_eq_true,Bool.true_and]at h1;have hne:i≠j:=λe=>hj (e▸hi)
  rcases cP3 h hit hjl ht hne with hb|hb
  .exact h1 hb
  .exact hj (hD.bef _ _ hb (hD i hi))
theorem dr9 {e0:ey}{val val':Nat->Value}{D:List Nat}(hD:aH3 al D){j:Nat}(hj:j∈D)(hv: ∀i∈D,val' i=val i):be8 al e0 val' j=be8 al e0 val j:=by
 funext t
 unfold be8;cases hf:(bD al.length).find? (λi=>ur al i==C t&&ar3 al i j)with
 |none=>rfl
 |some i=>
  have:=cB hf;simp only[bB,beq_iff_eq]at this;exact hv i (hD.bef _ _ this.2 (hD j hj))
theorem bh1 {e0:ey}{val val':Nat->Value}{D:List Nat}(hv: ∀i∈D,val' i=val i):mh al e0 val' D=mh al e0 val D:=by
 funext t
 unfold mh;cases hf:D.find? (λi=>ur al i==C t)with
 |none=>rfl
 |some i=>exact hv i (fD hf)
def left (n:Nat)(D:List Nat):Nat:=((bD n).filter λi=> !D.contains i).length
theorem bC8 {n i:Nat}{D:List Nat}(hi:i<n)(hD:i∉D):left n (i::D)<left n D:=by
 unfold left
 have:(bD n).filter (λj=> !(i::D).contains j)=((bD n).filter λj=> !D.contains j).filter λj=>j !=i:=by
  rw[List.filter_filter];apply List.filter_congr;intro j _;simp only[List.contains_cons,Bool.not_or];rfl
 rw[this];refine List.length_filter_lt_length_iff_exists.2 ⟨i, ?_,by simp⟩;simp[hi,hD]
theorem bC9 {n:Nat}{D:List Nat}(h:left n D=0){i:Nat}(hi:i<n):i∈D:=by
 unfold left at h;have:=List.eq_nil_of_length_eq_zero h;rw[List.filter_eq_nil_iff]at this;have:=this i (List.mem_range.2 hi);simpa using this
theorem dn1 {n i:Nat}{D:List Nat}(hi:i<n)(hD:i∉D):0<left n D:=by
 rcases Nat.eq_zero_or_pos (left n D)with h|h
 .exact absurd (bC9 h hi) hD
 .exact h
end
section
variable {P:Program} {T:ja} {al:DL} {ops:Array Oper} {B:Base P} {N:Nat}
structure Fits (P:Program)(N:Nat)(ops:Array Oper)(al:DL):Prop where
 len:ops.size=al.length
 op: ∀(i:Nat) o,ops[i]?=C o->∃x,al[i]?=C (x,lf al i)/\bF2 P N ops o=C x
 pred: ∀(i:Nat) o,ops[i]?=C o->∀q,q∈lf al i↔∃e∈o.after,Region.binds .any e=Za/\e.on=q
def bG8 (al:DL)(e0:ey)(val:Nat->Value)(Y:Hp)(chk:List (Nat×(Hp->Prop)))(j:Nat):Prop:=
 ∃x p,al[j]?=C (x,p)/\x.op.still=Za/\
  ((wanted x (be8 al e0 val j)=Za/\x.op.run (be8 al e0 val j) Y=C (val j,Y)/\
   (x.op.isLoad=Za->∃c,(j,c)∈chk/\∀Y',c Y'->x.op.run (be8 al e0 val j) Y'=C (val j,Y')))∨
   (wanted x (be8 al e0 val j)=Zb/\val j=undef))
structure Inv (al:DL)(e0:ey)(val:Nat->Value)(Y:Hp)(chk:List (Nat×(Hp->Prop)))(D L:List Nat):Prop where
 dc:aH3 al D
 lc:aH3 al L
 sub: ∀i∈L,i∈D
 lt: ∀i∈D,i<al.length
 tells: ∀j∈D,j∉L->bG8 al e0 val Y chk j
theorem bq1 {D:List Nat}{i:Nat}:cy2 al D i=Za↔i∉D/\∀q∈lf al i,q∈D:=by
 unfold cy2;simp only[bB,eD,fB,List.contains_iff_mem];constructor
 .rintro⟨h1,h2⟩;exact⟨λh=>by simp[h]at h1,h2⟩
 .rintro⟨h1,h2⟩;exact⟨by simpa using h1,h2⟩
theorem aC0 {D:List Nat}{i:Nat}(h:mw al D=C i):i<al.length/\i∉D/\(∀q∈lf al i,q∈D)/\aU5 al i=Za:=by
 unfold mw at h;have h1:=cB h;have h2:=fD h;simp only[bB]at h1;obtain⟨h3,h4⟩:=bq1.1 h1.1;exact⟨List.mem_range.1 h2,h3,h4,h1.2⟩
theorem bW1 {D:List Nat}(h:mw al D=O){i:Nat}(hi:i<al.length)(h1:i∉D)(h2: ∀q∈lf al i,q∈D):aU5 al i=Zb:=by
 unfold mw at h;have:=List.find?_eq_none.1 h i (List.mem_range.2 hi);simp only[bq1.2 ⟨h1,h2⟩,Bool.true_and]at this;simpa using this
theorem aB9 {D:List Nat}{i:Nat}:i∈ge al D↔i<al.length/\i∉D/\(∀q∈lf al i,q∈D)/\aU5 al i=Zb:=by
 unfold ge;simp only[List.mem_filter,List.mem_range,bB,eD,bq1,and_assoc]
theorem cD1 {f:Nat->Prop}: ∀{l:List Nat},ce3 f l->∀m∈l,f m
 |[],_,m,hm=>by cases hm
 |[x],h,m,hm=>by simp at hm;subst hm;exact h
 |x::y::r,h,m,hm=>by
  rcases List.mem_cons.1 hm with rfl|hm
  .exact h.1
  .exact cD1 h.2 m hm
def upd (val:Nat->Value)(i:Nat)(v:Value):Nat->Value:=λk=>if k=i then v else val k
theorem bG8.upd {e0:ey}{val:Nat->Value}{Y:Hp}{chk:List (Nat×(Hp->Prop))}{D:List Nat}{i j:Nat}{v:Value}(hD:aH3 al D)(hj:j∈D)(hi:i∉D)(h:bG8 al e0 val Y chk j):bG8 al e0 (upd val i v) Y chk j:=by
 obtain⟨x,p,h1,h2,h3⟩:=h;have hv: ∀k∈D,Ab.upd val i v k=val k:=λk hk=>xD λ(e:k=i)=>hi (e▸hk)
 have hs:=dr9 (e0:=e0) hD hj hv;refine⟨x,p,h1,h2, ?_⟩;rw[hs,hv j hj];exact h3
theorem bG8.more {e0:ey}{val:Nat->Value}{Y:Hp}{chk chk':List (Nat×(Hp->Prop))}{j:Nat}(h:bG8 al e0 val Y chk j)(hc: ∀c∈chk,c∈chk'):bG8 al e0 val Y chk' j:=by
 obtain⟨x,p,h1,h2,h3⟩:=h;refine⟨x,p,h1,h2,h3.imp (λ⟨k1,k2,k3⟩=>⟨k1,k2,λhl=> ?_⟩) id⟩;obtain⟨c,k4,k5⟩:=k3 hl;exact⟨c,hc _ k4,k5⟩
theorem cu1 {Q:ey->Hp->Prop}(hok:aS8 al=Za){e0:ey}{Y:Hp}{L:List Nat}: ∀(f:Nat) (val:Nat->Value) (D:List Nat) (chk:List (Nat×(Hp->Prop))) (e:ey),wpD T Q al f D chk e Y->left al.length D<=f->e=mh al e0 val D->
  Inv al e0 val Y chk D L->∃f' val' D' chk',wpD T Q al f' D' chk' (mh al e0 val' D') Y/\left al.length D'<=f'/\Inv al e0 val' Y chk' D' L/\mw al D'=O/\(∀i∈D,val' i=val i)/\∀i∈D,i∈D'
 |0,val,D,chk,e,h,hf,he,hI=>by
  have hall: ∀i,i<al.length->i∈D:=λi hi=>bC9 (by omega) hi
  refine⟨0,val,D,chk,by rw[<-he];exact h,hf,hI, ?_,λ_ _=>rfl,λ_ hi=>hi⟩;cases hn:mw al D with
  |none=>rfl
  |some i=>exact absurd (hall i (aC0 hn).1) (aC0 hn).2.1
 |f+1,val,D,chk,e,h,hf,he,hI=>by
  cases hn:mw al D with
  |none=>exact⟨f+1,val,D,chk,by rw[<-he];exact h,hf,hI,hn,λ_ _=>rfl,λ_ hi=>hi⟩
  |some i=>
   obtain⟨h1,h2,h3,h4⟩:=aC0 hn;simp only[wpD,hn]at h;split at h
   .rename_i x p hx;have hst:x.op.still=Za:=by simpa[aU5,hx]using h4
    have hlooks: ∀t∈x.looks,e t=be8 al e0 val i t:=by
     intro t ht;rw[he];exact cz0 hok hI.dc h1 h2 h3 (by simpa[bh9,hx]using ht)
    have hdst:ur al i=x.dst:=by simp[ur,hx]
    have hleft:left al.length (i::D)<=f:=by have:=bC8 h1 h2;omega
    have hDc:aH3 al (i::D):=by
     intro k hk q hq;rcases List.mem_cons.1 hk with rfl|hk
     .exact aB _ (h3 q hq)
     .exact aB _ (hI.dc k hk q hq)
    have step: ∀(v:Value) (chk':List (Nat×(Hp->Prop))),wpD T Q al f (i::D) chk' (e.putO x.dst v) Y->(∀c∈chk,c∈chk')->bG8 al e0 (upd val i v) Y chk' i->
      ∃f' val' D' chk',wpD T Q al f' D' chk' (mh al e0 val' D') Y/\left al.length D'<=f'/\Inv al e0 val' Y chk' D' L/\mw al D'=O/\(∀i∈D,val' i=val i)/\∀i∈D,i∈D':=by
     intro v chk' hw hc ht;have hval: ∀k∈D,upd val i v k=val k:=λk hk=>xD λ(e:k=i)=>h2 (e▸hk)
     have henv:e.putO x.dst v=mh al e0 (upd val i v) (i::D):=by
      rw[aB1 hok i h2,bh1 hval,hdst,<-he]
      congr 1
      exact(xB rfl).symm
     obtain⟨f',val',D',chk'',g1,g2,g3,g4,g5,g6⟩:=cu1 hok f (upd val i v) (i::D) chk' _ hw hleft henv ⟨hDc,hI.lc,λk hk=>aB _ (hI.sub k hk),λk hk=>(List.mem_cons.1 hk).elim (λe=>e▸h1) (hI.lt k),λj hj hjL=>by
      rcases List.mem_cons.1 hj with rfl|hj
      .exact ht
      .exact((hI.tells j hj hjL).upd hI.dc hj h2).more hc⟩
     exact⟨f',val',D',chk'',g1,g2,g3,g4,λk hk=>(g5 k (aB _ hk)).trans (hval k hk),λk hk=>g6 k (aB _ hk)⟩
    have hseen: ∀v,be8 al e0 (upd val i v) i=be8 al e0 val i:=by
     intro v
     funext t
     unfold be8;cases hf':(bD al.length).find? (λk=>ur al k==C t&&ar3 al k i)with
     |none=>rfl
     |some k=>
      have:=cB hf';simp only[bB,beq_iff_eq]at this;exact xD λ(e:k=i)=>h2 (e▸hI.dc.bef _ _ this.2 h3)
    have hw0:=aU9 hlooks;have hr0: ∀Y',x.op.run e Y'=x.op.run (be8 al e0 val i) Y':=λY'=>bE4 λt ht=>hlooks t (by simp[AOper.looks,ht])
    split at h
    .rename_i hwant;split at h
     .rename_i v Y1 hrun;obtain rfl:=br2 hst hrun;refine step v _ h (λc hc=>by split<;>simp[hc]) ⟨x,p,hx,hst, .inl ⟨by rw[hseen,<-hw0];exact hwant,by rw[hseen,<-hr0];rw[hrun];congr 2;exact(xB rfl).symm,λhl=> ?_⟩⟩;refine⟨_,by rw[xB hl];exact aD ..,λY' hY'=> ?_⟩;rw[hseen,<-hr0,hY']
      congr 2
      exact(xB rfl).symm
     .exact h.elim
    .rename_i hwant;exact step undef chk h (λc hc=>hc) ⟨x,p,hx,hst, .inr ⟨by rw[hseen,<-hw0];simpa using hwant,xB rfl⟩⟩
   .exact h.elim
theorem bC7 {m:Nat}{Y:Hp}: ∀{chk:List (Nat×(Hp->Prop))},aV9 al m Y chk->∀j c,(j,c)∈chk->ar3 al j m=Zb->c Y
 |[],_,j,c,h,_=>by cases h
 |(i,d)::r,hk,j,c,h,hb=>by
  simp only[aV9]at hk;rcases List.mem_cons.1 h with h|h
  .injection h with h1 h2
   subst h1 h2;rw[xD (by simp[hb])]at hk;exact hk.1
  .split at hk
   .exact bC7 hk j c h hb
   .exact bC7 hk.2 j c h hb
theorem Fits.ready (hF:Fits P N ops al){listed:Array Bool}{L:List Nat}(hs:listed.size=ops.size)(hL: ∀i,i<ops.size->(listed.getD i Zb=Za↔i∈L))(hlt: ∀i∈L,i<ops.size){i:Nat}:
  i∈Region.ready .any ops listed↔i<al.length/\i∉L/\∀q∈lf al i,q∈L:=by
 have hg: ∀k,listed.getD k Zb=Za↔k∈L:=by
  intro k;by_cases hk:k<ops.size
  .exact hL k hk
  .constructor
   .intro h;have:listed.getD k Zb=Zb:=by simp[Array.getElem?_eq_none (show listed.size<=k by omega)]
    rw[this]at h;cases h
   .intro h;exact absurd (hlt k h) hk
 rw[mem_ready];constructor
 .rintro⟨h1,o,h2,h3⟩;have hi:i<ops.size:=(Array.getElem?_eq_some_iff.1 h2).1;refine⟨hF.len▸hi,λh=> ?_,λq hq=> ?_⟩
  .have h4:=(hg i).2 h;rw[dd8 h1]at h4;cases h4
  .obtain⟨e,h4,h5,rfl⟩:=(hF.pred i o h2 q).1 hq;exact(hg _).1 (h3 e h4 h5)
 .rintro⟨h1,h2,h3⟩;have hi:i<ops.size:=hF.len▸h1;refine⟨dx1 (by omega) ?_,ops[i],Array.getElem?_eq_getElem hi,λe he hb=>(hg _).2 (h3 _ ((hF.pred i _ (Array.getElem?_eq_getElem hi) _).2 ⟨e,he,hb,rfl⟩))⟩;cases hh:listed.getD i Zb with
  |true=>exact absurd ((hg i).1 hh) h2
  |false=>rfl
theorem dw0 (hT: ∀f,Sim P f (T f))(hF:Fits P N ops al)(hok:aS8 al=Za){Q:AExit->ey->Hp->Prop}{e0:ey}{Z0:Mu}{w0:World}: ∀(fuel:Nat) (f:Nat) (val:Nat->Value) (D L:List Nat) (chk:List (Nat×(Hp->Prop))) (listed:Array Bool) (Y:Hp) (Z:Mu) (a:Act) (w:World),
  wpD T (Q .normal) al f D chk (mh al e0 val D) Y->left al.length D<=f->left al.length L<=fuel->Inv al e0 val Y chk D L->listed.size=ops.size->(∀i,i<ops.size->(listed.getD i Zb=Za↔i∈L))->
  R B Z Y w->ig Z N (mh al e0 val L) a.tmps->a.defers=[]->Z0.le Z->Below B w0 w->wpAny P .any ops (ad6 B N Z0 w0 Q) fuel listed a w:=by
 intro fuel;induction fuel with
 |zero=>
  intro f val D L chk listed Y Z a w h hf hfu hI hs hL hR he hd hZ hb;have hall: ∀i,i<al.length->i∈L:=λi hi=>bC9 (by omega) hi
  have hlt: ∀i∈L,i<ops.size:=λi hi=>by rw[hF.len];exact hI.lt i (hI.sub i hi)
  have hnil:Region.ready .any ops listed=[]:=by
   cases hr:Region.ready .any ops listed with
   |nil=>rfl
   |cons i r=>
    have:=(hF.ready hs hL hlt (i:=i)).1 (by rw[hr];exact aD ..);exact absurd (hall i this.1) this.2.1
  refine⟨hnil, ?_⟩;obtain⟨f',val',D',chk',g1,g2,g3,g4,g5,g6⟩:=cu1 (Q:=Q .normal) hok f val D chk _ h hf rfl hI
  have hq:Q .normal (mh al e0 val' D') Y:=by
   have hmv:ge al D'=[]:=by
    cases hm:ge al D' with
    |nil=>rfl
    |cons i r=>
     have:=aB9.1 (show i∈ge al D' by rw[hm];exact aD ..);exact absurd (g6 i (hI.sub i (hall i this.1))) this.2.1
   cases f' with
   |zero=>exact g1
   |succ f'=>simp only[wpD,g4,hmv]at g1;exact g1
  have henv:mh al e0 val' D'=mh al e0 val L:=by
   funext t
   by_cases hx: ∃j,j<al.length/\ur al j=C t
   .obtain⟨j,hj,hjt⟩:=hx;rw[zl hok (g6 j (hI.sub j (hall j hj))) hjt,zl hok (hall j hj) hjt,g5 j (hI.sub j (hall j hj))]
   .rw[vx (λj _ hjt=>hx ⟨j,aM2 hjt,hjt⟩),vx (λj _ hjt=>hx ⟨j,aM2 hjt,hjt⟩)]
  rw[henv]at hq;exact⟨.normal,_,Y,Z,trivial,hq,hZ,hR,he,hd,hb⟩
 |succ fuel ih=>
  intro f val D L chk listed Y Z a w h hf hfu hI hs hL hR he hd hZ hb;have hlt: ∀i∈L,i<ops.size:=λi hi=>by rw[hF.len];exact hI.lt i (hI.sub i hi)
  obtain⟨f',val',D',chk',g1,g2,g3,g4,g5,g6⟩:=cu1 (Q:=Q .normal) hok f val D chk _ h hf rfl hI;have hvL: ∀i∈L,val' i=val i:=λi hi=>g5 i (hI.sub i hi)
  have he':ig Z N (mh al e0 val' L) a.tmps:=by rw[bh1 hvL];exact he
  have hL': ∀i,i<ops.size->∀(hi:i∉L),(∀k,k<ops.size->((listed.setIfInBounds i Za).getD k Zb=Za↔k∈i::L)):=by
   intro i hi hiL k hk;by_cases e:k=i
   .subst e;simp[hs,hk]
   .rw[getD_set_ne Zb (λe'=>e e'.symm)];rw[hL k hk];simp[e]
  have hLc: ∀i,(∀q∈lf al i,q∈L)->aH3 al (i::L):=by
   intro i hp k hk q hq;rcases List.mem_cons.1 hk with rfl|hk
   .exact aB _ (hp q hq)
   .exact aB _ (hI.lc k hk q hq)
  refine⟨λhnil=> ?_,λi hi=> ?_⟩
  .
   have hDL: ∀j∈D',j∈L:=by
    intro j;induction j using Nat.strongRecOn with
    |_ j ihj=>
     intro hj;by_cases hjL:j∈L
     .exact hjL
     .exfalso;have hr:=(hF.ready hs hL hlt (i:=j)).2 ⟨g3.lt j hj,hjL,λq hq=>ihj q (cE6 hok (g3.lt j hj) hq) (g3.dc j hj q hq)⟩;rw[hnil]at hr;cases hr
   have hq:Q .normal (mh al e0 val' D') Y:=by
    have hmv:ge al D'=[]:=by
     cases hm:ge al D' with
     |nil=>rfl
     |cons i r=>
      exfalso;have:=aB9.1 (show i∈ge al D' by rw[hm];exact aD ..);have hr:=(hF.ready hs hL hlt (i:=i)).2 ⟨this.1,λh=>this.2.1 (g3.sub i h),λq hq=>hDL q (this.2.2.1 q hq)⟩;rw[hnil]at hr;cases hr
    cases f' with
    |zero=>exact g1
    |succ f'=>simp only[wpD,g4,hmv]at g1;exact g1
   have henv:mh al e0 val' D'=mh al e0 val' L:=by
    funext t
    by_cases hx: ∃j∈L,ur al j=C t
    .obtain⟨j,hj,hjt⟩:=hx;rw[zl hok (g3.sub j hj) hjt,zl hok hj hjt]
    .rw[vx (λj hj hjt=>hx ⟨j,hDL j hj,hjt⟩),vx (λj hj hjt=>hx ⟨j,hj,hjt⟩)]
   rw[henv]at hq;exact⟨.normal,_,Y,Z,trivial,hq,hZ,hR,he',hd,hb⟩
  .
   obtain⟨k1,k2,k3⟩:=(hF.ready hs hL hlt).1 hi;have hio:i<ops.size:=hF.len▸k1;have hoi:ops[i]?=C ops[i]:=Array.getElem?_eq_getElem hio;obtain⟨x,hx,htr⟩:=hF.op i _ hoi;have hfu':left al.length (i::L)<=fuel:=by have:=bC8 k1 k2;omega
   have hs':(listed.setIfInBounds i Za).size=ops.size:=by simpa using hs
   have hdst:ur al i=x.dst:=by simp[ur,hx]
   unfold bF2 at htr;split at htr
   case h_2=>cases htr
   rename_i op g t1 t2;split at htr
   case isFalse=>cases htr
   rename_i t3;injection htr with htr
   subst htr
   have hlooks: ∀t∈(⟨ops[i].dst,op,g⟩:AOper).looks,mh al e0 val' L t=be8 al e0 val' i t:=by
    intro t ht;exact cz0 hok g3.lc k1 k2 k3 (by simpa[bh9,hx]using ht)
   have hwant:=cl8 (op:=op) t2 he';rw[aU9 hlooks]at hwant;unfold wpOp;rw[hoi];simp only;rw[hwant];by_cases hiD:i∈D'
   .
    obtain⟨x',p,y1,y2,y3⟩:=g3.tells i hiD k2;rw[hx]at y1;injection y1 with y1
    injection y1 with y1 _
    subst y1
    have hInv': ∀(Z':Mu) (w':World),Inv al e0 val' Y chk' D' (i::L):=λZ' w'=>
     ⟨g3.dc,hLc i k3,λk hk=>(List.mem_cons.1 hk).elim (λe=>e▸hiD) (g3.sub k),g3.lt,λj hj hjL=>g3.tells j hj λh=>hjL (aB _ h)⟩
    rcases y3 with⟨y4,y5,_⟩|⟨y4,y5⟩
    .rw[y4];rw[xB rfl];left
     have hrun:di T op (mh al e0 val' L) Y λv Y'=>v=val' i/\Y'=Y:=by
      have:op.run (mh al e0 val' L) Y=C (val' i,Y):=by
       rw[bE4 (e':=be8 al e0 val' i) λt ht=>hlooks t (by simp[AOper.looks,ht])];exact y5
      unfold di;cases op<;>simp[AOp.still]at y2<;>simp only[this]<;>exact⟨trivial,trivial⟩
     refine bY3 hT t1 hrun he' hR λv Y' v' Z' w' hk hZ' hR' hv hbel=> ?_
     obtain⟨rfl,rfl⟩:=hk;refine ih f' val' D' (i::L) chk' _ Y' Z' _ w' g1 g2 hfu' (hInv' Z' w') hs' (hL' i hio k2) hR' ?_ (by rw[ak5];exact hd) (Mu.le_trans hZ hZ') (hb.trans hbel);rw[aB1 hok i k2,hdst];exact(he'.mono hZ').putO t3 hv
    .rw[y4];simp only[Bool.false_eq_true,if_false];refine ih f' val' D' (i::L) chk' _ Y Z _ w g1 g2 hfu' (hInv' Z w) hs' (hL' i hio k2) hR ?_ (by rw[ak5];exact hd) hZ hb;rw[aB1 hok i k2,hdst,y5];exact he'.putO t3 (VR.undef Z)
   .
    have hpD: ∀q∈lf al i,q∈D':=λq hq=>g3.sub q (k3 q hq)
    have hst:=bW1 g4 k1 hiD hpD;have hmem:i∈ge al D':=aB9.2 ⟨k1,hiD,hpD,hst⟩
    have hlooksD: ∀t∈(⟨ops[i].dst,op,g⟩:AOper).looks,mh al e0 val' D' t=be8 al e0 val' i t:=by
     intro t ht;exact cz0 hok g3.dc k1 hiD hpD (by simpa[bh9,hx]using ht)
    have hsame: ∀t∈(⟨ops[i].dst,op,g⟩:AOper).looks,mh al e0 val' D' t=mh al e0 val' L t:=λt ht=>(hlooksD t ht).trans (hlooks t ht).symm
    obtain⟨f'',rfl⟩: ∃f'',f'=f''+1:=⟨f'-1,by have:=dn1 k1 hiD;omega⟩
    have hleft:left al.length (i::D')<=f'':=by have:=bC8 k1 hiD;omega
    simp only[wpD,g4]at g1
    have hcomp:(if wanted ⟨ops[i].dst,op,g⟩ (mh al e0 val' D')then di T op (mh al e0 val' D') Y λv Y'=>aV9 al i Y' chk'/\wpD T (Q .normal) al f'' (i::D') chk' ((mh al e0 val' D').putO ops[i].dst v) Y'
      else wpD T (Q .normal) al f'' (i::D') chk' ((mh al e0 val' D').putO ops[i].dst undef) Y):=by
     cases hm:ge al D' with
     |nil=>rw[hm]at hmem;cases hmem
     |cons m r=>
      rw[hm]at g1 hmem;simp only at g1;have:=cD1 g1 i hmem;simp only[hx]at this;exact this
    rw[aU9 hlooksD]at hcomp
    have hDc:aH3 al (i::D'):=by
     intro k hk q hq;rcases List.mem_cons.1 hk with rfl|hk
     .exact aB _ (hpD q hq)
     .exact aB _ (g3.dc k hk q hq)
    have hlag: ∀j∈i::D',j∉i::L->j∈D'/\j∉L:=λj hj hjL=>
     ⟨(List.mem_cons.1 hj).elim (λe=>absurd (e▸aD ..) hjL) id,λh=>hjL (aB _ h)⟩
    have hval: ∀v,∀k∈D',upd val' i v k=val' k:=λv k hk=>xD λ(e:k=i)=>hiD (e▸hk)
    have henvD: ∀v,(mh al e0 val' D').putO ops[i].dst v=mh al e0 (upd val' i v) (i::D'):=by
     intro v;rw[aB1 hok i hiD,bh1 (hval v),hdst]
     congr 1
     exact(xB rfl).symm
    have henvL: ∀v,(mh al e0 val' L).putO ops[i].dst v=mh al e0 (upd val' i v) (i::L):=by
     intro v;rw[aB1 hok i k2,bh1 (λk hk=>hval v k (g3.sub k hk)),hdst]
     congr 1
     exact(xB rfl).symm
    split at hcomp
    .rename_i hw1;rw[hw1,xB rfl];left;refine bY3 hT t1 (cJ7 (λt ht=>hsame t (by simp[AOper.looks,ht])) hcomp) he' hR λv Y' v' Z' w' hk hZ' hR' hv hbel=> ?_
     obtain⟨hk1,hk2⟩:=hk;rw[henvD v]at hk2;refine ih f'' (upd val' i v) (i::D') (i::L) chk' _ Y' Z' _ w' hk2 hleft hfu' ⟨hDc,hLc i k3,λk hk=>(List.mem_cons.1 hk).elim (λe=>e▸aD ..) λh=>aB _ (g3.sub k h),λk hk=>(List.mem_cons.1 hk).elim (λe=>e▸k1) (g3.lt k),λj hj hjL=> ?_⟩ hs' (hL' i hio k2) hR' ?_ (by rw[ak5];exact hd) (Mu.le_trans hZ hZ') (hb.trans hbel)
     .obtain⟨hjD,hjL'⟩:=hlag j hj hjL;have ht:=(g3.tells j hjD hjL').upd (i:=i) (v:=v) g3.dc hjD hiD;obtain⟨x',p,z1,z2,z3⟩:=ht;refine⟨x',p,z1,z2,z3.imp (λ⟨z4,z5,z6⟩=>⟨z4, ?_,z6⟩) id⟩;cases hl:x'.op.isLoad with
      |false=>exact dh3 z2 hl z5 Y'
      |true=>
       obtain⟨c,z7,z8⟩:=z6 hl;refine z8 Y' (bC7 hk1 j c z7 ?_);cases hbf:ar3 al j i with
       |false=>rfl
       |true=>exact absurd (g3.lc.bef _ _ hbf k3) hjL'
     .rw[<-henvL v];exact(he'.mono hZ').putO t3 hv
    .rename_i hw1;rw[xD hw1];rw[henvD undef]at hcomp;refine ih f'' (upd val' i undef) (i::D') (i::L) chk' _ Y Z _ w hcomp hleft hfu' ⟨hDc,hLc i k3,λk hk=>(List.mem_cons.1 hk).elim (λe=>e▸aD ..) λh=>aB _ (g3.sub k h),λk hk=>(List.mem_cons.1 hk).elim (λe=>e▸k1) (g3.lt k),λj hj hjL=> ?_⟩ hs' (hL' i hio k2) hR ?_ (by rw[ak5];exact hd) hZ hb
     .obtain⟨hjD,hjL'⟩:=hlag j hj hjL;exact(g3.tells j hjD hjL').upd g3.dc hjD hiD
     .rw[<-henvL undef];exact he'.putO t3 (VR.undef Z)
end
end
section
open Go.RowKit
def ac0 (T:ja):Prop:= ∀f args Y (K K':Value->Hp->Prop),(∀r Y',K r Y'->K' r Y')->T f args Y K->T f args Y K'
theorem ve {T:ja}(hT:ac0 T){op:AOp}{e:ey}{Y:Hp}{k k':Value->Hp->Prop}(hk: ∀v Y',k v Y'->k' v Y')(h:di T op e Y k):di T op e Y k':=by
 unfold di at*;cases op<;>simp only at h⊢
 case call f xs=>exact hT _ _ _ _ _ hk h
 case callv f xs=>
  split at h
  .exact hT _ _ _ _ _ hk h
  .exact h.elim
 all_goals
  split at h
  .exact hk _ _ h
  .exact h.elim
section
variable {T:ja}
theorem aV0 (hT:ac0 T){Q Q':ey->Hp->Prop}(hq: ∀e Y,Q e Y->Q' e Y): ∀(l:List AOper) (e:ey) (Y:Hp),aD1 T Q l e Y->aD1 T Q' l e Y
 |[],e,Y,h=>hq e Y h
 |o::l,e,Y,h=>by
  simp only[aD1]at h⊢;split at h
  .rename_i hw;rw[xB hw];exact ve hT (λv Y' hk=>aV0 hT hq l _ Y' hk) h
  .rename_i hw;rw[xD hw];exact aV0 hT hq l _ Y h
theorem cg5 {f g:Nat->Prop}(h: ∀m,f m->g m): ∀{l:List Nat},ce3 f l->ce3 g l
 |[],_=>trivial
 |[_],hf=>h _ hf
 |_::_::_,hf=>⟨h _ hf.1,cg5 h hf.2⟩
theorem bg2 (hT:ac0 T){Q Q':ey->Hp->Prop}(hq: ∀e Y,Q e Y->Q' e Y){ops:List (AOper×List Nat)}: ∀(f:Nat) (done:List Nat) (chk:List (Nat×(Hp->Prop))) (e:ey) (Y:Hp),wpD T Q ops f done chk e Y->wpD T Q' ops f done chk e Y
 |0,done,chk,e,Y,h=>hq e Y h
 |f+1,done,chk,e,Y,h=>by
  simp only[wpD]at h⊢;split at h
  .split at h
   .split at h
    .rename_i hw;rw[xB hw];split at h
     .exact bg2 hT hq f _ _ _ _ h
     .exact h.elim
    .rename_i hw;rw[xD hw];exact bg2 hT hq f _ _ _ _ h
   .exact h.elim
  .split at h
   .exact hq e Y h
   .refine cg5 (λm hm=> ?_) h;split at hm
    .split at hm
     .rename_i hw;rw[xB hw];exact ve hT (λv Y' hk=>⟨hk.1,bg2 hT hq f _ _ _ _ hk.2⟩) hm
     .rename_i hw;rw[xD hw];exact bg2 hT hq f _ _ _ _ hm
    .exact hm.elim
theorem bg3 (hT:ac0 T){Q Q':ey->Hp->Prop}(hq: ∀e Y,Q e Y->Q' e Y): ∀(l:List SItem) (chk:List (Nat×(Hp->Prop))) (e:ey) (Y:Hp),wpI T Q l chk e Y->wpI T Q' l chk e Y
 |[],_,e,Y,h=>hq e Y h
 |it::l,chk,e,Y,h=>by
  simp only[wpI]at h⊢;split at h
  .rename_i hw;rw[xB hw];split at h
   .rename_i hm;rw[xB hm];exact ve hT (λv Y' hk=>⟨hk.1,bg3 hT hq l _ _ Y' hk.2⟩) h
   .rename_i hm;rw[xD hm];split at h
    .exact bg3 hT hq l _ _ Y h
    .exact h.elim
  .rename_i hw;rw[xD hw];exact bg3 hT hq l _ _ Y h
theorem bg4 {f:(AExit->ey->Hp->Prop)->ey->Hp->Prop}(hf: ∀(Q Q':AExit->ey->Hp->Prop),(∀x e Y,Q x e Y->Q' x e Y)->∀e Y,f Q e Y->f Q' e Y){Q Q':AExit->ey->Hp->Prop}(hq: ∀x e Y,Q x e Y->Q' x e Y):
  ∀(n:Nat) (e:ey) (Y:Hp),ph f Q n e Y->ph f Q' n e Y
 |0,_,_,h=>h.elim
 |n+1,e,Y,h=>by
  simp only[ph]at h⊢;refine hf _ _ (λx e' Y' hx=> ?_) e Y h;cases x with
  |normal=>exact bg4 hf hq n e' Y' hx
  |exit id=>exact hq _ _ _ hx
  |ret=>exact hq _ _ _ hx
theorem jc (hT:ac0 T): ∀(c:AC) (Q Q':AExit->ey->Hp->Prop),(∀x e Y,Q x e Y->Q' x e Y)->∀(e:ey) (Y:Hp),wpA T c Q e Y->wpA T c Q' e Y:=by
 intro c;induction c with
 |skip=>intro Q Q' hq e Y h;exact hq _ _ _ h
 |region ops=>intro Q Q' hq e Y h;exact aV0 hT (hq .normal) ops e Y h
 |draw ops=>intro Q Q' hq e Y h;exact bg2 hT (hq .normal) _ _ _ e Y h
 |sched its=>intro Q Q' hq e Y h;exact bg3 hT (hq .normal) its [] e Y h
 |seq a b iha ihb=>
  intro Q Q' hq e Y h;refine iha _ _ (λx e' Y' hx=> ?_) e Y h;cases x with
  |normal=>exact ihb Q Q' hq e' Y' hx
  |exit id=>exact hq _ _ _ hx
  |ret=>exact hq _ _ _ hx
 |cond c a b iha ihb=>
  intro Q Q' hq e Y h;simp only[wpA]at h⊢;split at h
  .exact iha Q Q' hq e Y h
  .exact ihb Q Q' hq e Y h
  .exact h.elim
 |block id b ih=>
  intro Q Q' hq e Y h;refine ih _ _ (λx e' Y' hx=> ?_) e Y h;cases x with
  |normal=>exact hq _ _ _ hx
  |exit i=>
   simp only at hx⊢;split at hx
   .rename_i hi;rw[xB hi];exact hq _ _ _ hx
   .rename_i hi;rw[xD hi];exact hq _ _ _ hx
  |ret=>exact hq _ _ _ hx
 |loop b ih=>
  intro Q Q' hq e Y h;obtain⟨n,hn⟩:=h;exact⟨n,bg4 (f:=wpA T b) ih hq n e Y hn⟩
 |exit id=>intro Q Q' hq e Y h;exact hq _ _ _ h
 |ret=>intro Q Q' hq e Y h;exact hq _ _ _ h
def AC.outs :AC->Nat->Bool
 | .seq a b,i| .cond _ a b,i=>a.outs i||b.outs i
 | .block id b,i=>b.outs i&& !(i==id)
 | .loop b,i=>b.outs i
 | .exit j,i=>i==j
 |_,_=>Zb
def cN4 (c:AC)(Q:AExit->ey->Hp->Prop):AExit->ey->Hp->Prop:=λx e Y=>(∀i,x= .exit i->c.outs i=Za)/\Q x e Y
theorem be3 {c:AC}{Q:AExit->ey->Hp->Prop}:cN4 c Q .normal=Q .normal:=by
 funext e Y
 exact propext ⟨λh=>h.2,λh=>⟨λi hi=>(by cases hi),h⟩⟩
theorem bJ3 {f:(AExit->ey->Hp->Prop)->ey->Hp->Prop}{b:AC}(hf: ∀(Q Q':AExit->ey->Hp->Prop),(∀x e Y,Q x e Y->Q' x e Y)->∀e Y,f Q e Y->f Q' e Y)
  (ho: ∀Q e Y,f Q e Y->f (cN4 b Q) e Y) {Q:AExit->ey->Hp->Prop}: ∀(n:Nat) (e:ey) (Y:Hp),ph f Q n e Y->ph f (cN4 b Q) n e Y
 |0,_,_,h=>h.elim
 |n+1,e,Y,h=>by
  simp only[ph]at h⊢;refine hf _ _ (λx e' Y' hx=> ?_) e Y (ho _ e Y h);obtain⟨h1,h2⟩:=hx;cases x with
  |normal=>exact bJ3 hf ho n e' Y' h2
  |exit id=>exact⟨h1,h2⟩
  |ret=>exact⟨h1,h2⟩
theorem cM1 (hT:ac0 T): ∀(c:AC) (Q:AExit->ey->Hp->Prop) (e:ey) (Y:Hp),wpA T c Q e Y->wpA T c (cN4 c Q) e Y:=by
 intro c;induction c with
 |skip=>intro Q e Y h;exact⟨λi hi=>(by cases hi),h⟩
 |region ops=>intro Q e Y h;simp only[wpA]at h⊢;rw[be3];exact h
 |draw ops=>intro Q e Y h;simp only[wpA]at h⊢;rw[be3];exact h
 |sched its=>intro Q e Y h;simp only[wpA]at h⊢;rw[be3];exact h
 |seq a b iha ihb=>
  intro Q e Y h;simp only[wpA]at h⊢;refine jc hT a _ _ (λx e' Y' hx=> ?_) e Y (iha _ e Y h);obtain⟨h1,h2⟩:=hx;cases x with
  |normal=>exact jc hT b _ _ (λx e Y hx=>⟨λi hi=>by rw[AC.outs,hx.1 i hi,Bool.or_true],hx.2⟩) e' Y' (ihb Q e' Y' h2)
  |exit id=>exact⟨λi hi=>by rw[AC.outs,h1 i hi,Bool.true_or],h2⟩
  |ret=>exact⟨λi hi=>(by cases hi),h2⟩
 |cond c a b iha ihb=>
  intro Q e Y h;simp only[wpA]at h⊢;split at h
  .exact jc hT a _ _ (λx e Y hx=>⟨λi hi=>by rw[AC.outs,hx.1 i hi,Bool.true_or],hx.2⟩) e Y (iha Q e Y h)
  .exact jc hT b _ _ (λx e Y hx=>⟨λi hi=>by rw[AC.outs,hx.1 i hi,Bool.or_true],hx.2⟩) e Y (ihb Q e Y h)
  .exact h.elim
 |block id b ih=>
  intro Q e Y h;simp only[wpA]at h⊢;refine jc hT b _ _ (λx e' Y' hx=> ?_) e Y (ih _ e Y h);obtain⟨h1,h2⟩:=hx;cases x with
  |normal=>exact⟨λi hi=>(by cases hi),h2⟩
  |exit i=>
   simp only at h2⊢;split at h2
   .rename_i hi;rw[xB hi];exact⟨λi hi=>(by cases hi),h2⟩
   .rename_i hi;rw[xD hi];refine⟨λj hj=> ?_,h2⟩;injection hj with hj
    subst hj;rw[AC.outs,h1 i rfl];simp[hi]
  |ret=>exact⟨λi hi=>(by cases hi),h2⟩
 |loop b ih=>
  intro Q e Y h;obtain⟨n,hn⟩:=h;exact⟨n,bJ3 (f:=wpA T b) (jc hT b) ih n e Y hn⟩
 |exit id=>
  intro Q e Y h;refine⟨λi hi=> ?_,h⟩;injection hi with hi
  subst hi;simp[AC.outs]
 |ret=>intro Q e Y h;exact⟨λi hi=>(by cases hi),h⟩
end
end
section
open Bool renaming and_eq_true -> bB, or_eq_true -> bD, false_eq_true -> cB
open List renaming mem_cons_of_mem -> aB, mem_cons_self -> aD
open Go.RowKit
def bF1 (P:Program)(N:Nat)(ops:Array Oper):List Oper->Option DL
 |[]=>C []
 |o::r=>match bF2 P N ops o,bF1 P N ops r with
  |some x,C l=>C ((x,(o.after.toList.filter (Region.binds .any ·)).map (·.on))::l)
  |_,_=>O
def AC.outsL :AC->List Nat
 | .seq a b| .cond _ a b=>a.outsL++b.outsL
 | .block id b=>b.outsL.filter λi=> !(i==id)
 | .loop b=>b.outsL
 | .exit j=>[j]
 |_=>[]
theorem dq1 : ∀(c:AC) (i:Nat),c.outs i=Za->i∈c.outsL:=by
 intro c;induction c with
 |seq a b iha ihb=>
  intro i h;simp only[AC.outs,bD]at h;exact List.mem_append.2 (h.elim (λh=> .inl (iha i h)) λh=> .inr (ihb i h))
 |cond c a b iha ihb=>
  intro i h;simp only[AC.outs,bD]at h;exact List.mem_append.2 (h.elim (λh=> .inl (iha i h)) λh=> .inr (ihb i h))
 |block id b ih=>
  intro i h;simp only[AC.outs,bB]at h;exact List.mem_filter.2 ⟨ih i h.1,h.2⟩
 |loop b ih=>intro i h;exact ih i h
 |exit j=>intro i h;simp[AC.outs]at h;simp[AC.outsL,h]
 |_=>intro i h;simp[AC.outs]at h
def AC.noJump (c:AC):Bool:=c.outsL.all λi=>Zc (i<aV8)
theorem cj7 {c:AC}(h:c.noJump=Za){i:Nat}(hi:c.outs i=Za):i<aV8:=by
 have:=List.all_eq_true.1 h i (dq1 c i hi);exact of_decide_eq_true this
def ad4 :Code->List Nat
 | .seq a b=>ad4 a++ad4 b
 | .label l=>[l]
 |_=>[]
theorem bd5 : ∀(c:Code) (l:Nat),l∉ad4 c->findLabel c l=O:=by
 intro c;induction c with
 |seq a b iha ihb=>
  intro l h;simp only[ad4,List.mem_append,not_or]at h;simp only[findLabel,iha l h.1,ihb l h.2]
 |label l'=>
  intro l h;simp only[ad4,List.mem_singleton]at h;simp only[findLabel];rw[xD (by simpa using λe=>h e.symm)]
 |_=>intro l h;rfl
def bw1 (l:Nat):Code->Bool
 | .goto l'=>l'==l
 | .seq a b| .cond _ a b=>bw1 l a||bw1 l b
 | .block _ b| .loop b| .scope b=>bw1 l b
 |_=>Zb
def bh7 :Code->Option Nat
 | .label l=>C l
 |_=>O
theorem cw5 {c:Code}{l:Nat}(h:bh7 c=C l):c= .label l:=by
 cases c<;>simp[bh7]at h;rw[h]
def mb :Code->Option Nat
 | .seq a b=>match bh7 a with
  |some l=>if bw1 l b then C l else mb b
  |none=>mb b
 |_=>O
def aJ5 (l:Nat):Nat:=aV8+2*l
def aw3 (l:Nat):Nat:=aV8+2*l+1
def dy6 (l:Nat)(b:AC):AC:= .block (aw3 l) (.loop (.block (aJ5 l) (.seq b (.exit (aw3 l)))))
def bw5 (a b:Code):Bool:=match mb b with
 |some l=> !(ad4 a).contains l
 |none=>Za
def yi (x:Option AC):Option AC×Option AC:=(x,x)
def dN5 :Option AC->Option AC->Option AC
 |some a,C b=>C (.seq a b)
 |_,_=>O
def cT8 (a b:Code)(xa xb sb:Option AC):Option AC:=match bh7 a with
 |some l=>if bw1 l b then xb.map (dy6 l)else if bw5 a b then sb.map (.seq .skip)else O
 |none=>match xa,sb with
  |some x,C y=>if bw5 a b&&((mb b).isNone||x.noJump)then C (.seq x y)else O
  |_,_=>O
def tr2 (P:Program)(N:Nat):Code->Option AC×Option AC
 | .skip=>yi (C .skip)
 | .label _=>yi (C .skip)
 | .region _ ops draw=>yi (if draw then match bF1 P N ops ops.toList with
   |some l=>if aS8 l&&P.follows .mixedOrders then(match bi0 l l.length [] []with
    |some its=>C (.sched its)
    |none=>C (.draw l))else O
   |none=>O
  else(bz4 P N ops ops.toList).map .region)
 | .seq a b=>(dN5 (tr2 P N a).1 (tr2 P N b).1,cT8 a b (tr2 P N a).1 (tr2 P N b).1 (tr2 P N b).2)
 | .cond c a b=>yi (match opd c,(tr2 P N a).1,(tr2 P N b).1 with
  |some c,C a,C b=>C (.cond c a b)
  |_,_,_=>O)
 | .block id b=>yi (if id<aV8 then((tr2 P N b).1).map (.block id)else O)
 | .loop b=>yi (((tr2 P N b).1).map .loop)
 | .scope b=>yi (match(tr2 P N b).2 with
  |some ac=>if ac.noJump then C ac else O
  |none=>O)
 | .exit id=>yi (if id<aV8 then C (.exit id)else O)
 | .goto l=>yi (C (.exit (aJ5 l)))
 | .ret=>yi (C .ret)
 |_=>yi O
def tv (P:Program)(N:Nat)(c:Code):Option AC:=(tr2 P N c).1
def cz6 (P:Program)(N:Nat)(c:Code):Option AC:=(tr2 P N c).2
section
variable {P:Program} {T:ja} {ops:Array Oper} {B:Base P} {N:Nat}
theorem bJ1 : ∀{l:List Oper} {al:DL},bF1 P N ops l=C al->l.length=al.length/\∀(i:Nat) o,l[i]?=C o->∃x,al[i]?=C (x,(o.after.toList.filter (Region.binds .any ·)).map (·.on))/\bF2 P N ops o=C x
 |[],al,h=>by
  simp[bF1]at h;subst h;exact⟨rfl,λi o h=>by simp at h⟩
 |o::l,al,h=>by
  simp only[bF1]at h;split at h
  .rename_i x r h1 h2;injection h with h
   subst h;obtain⟨h3,h4⟩:=bJ1 h2;refine⟨by simp[h3],λi o' ho=> ?_⟩;cases i with
   |zero=>simp at ho;subst ho;exact⟨x,rfl,h1⟩
   |succ i=>simp at ho;simpa using h4 i o' ho
  .cases h
theorem dx0 {al:DL}(h:bF1 P N ops ops.toList=C al):Fits P N ops al:=by
 obtain⟨h1,h2⟩:=bJ1 h;refine⟨by simpa using h1,λi o ho=> ?_,λi o ho q=> ?_⟩
 .obtain⟨x,h3,h4⟩:=h2 i o (by simpa using ho);refine⟨x, ?_,h4⟩;have:lf al i=(o.after.toList.filter (Region.binds .any ·)).map (·.on):=by simp[lf,h3]
  rw[this];exact h3
 .obtain⟨x,h3,h4⟩:=h2 i o (by simpa using ho);have:lf al i=(o.after.toList.filter (Region.binds .any ·)).map (·.on):=by simp[lf,h3]
  rw[this];simp[and_assoc]
theorem cA0 {b:Code}{f:(AExit->ey->Hp->Prop)->ey->Hp->Prop}
  (hb: ∀(Q:AExit->ey->Hp->Prop) (e:ey) (Y:Hp) (Z:Mu) (a:Act) (w:World),f Q e Y->R B Z Y w->ig Z N e a.tmps->a.defers=[]->b.wp P (ad6 B N Z w Q) a w)
  {Q:AExit->ey->Hp->Prop} {Z0:Mu} {w0:World} {n:Nat} {e:ey} {Y:Hp} {Z:Mu} {a:Act} {w:World} (h:ph f Q n e Y) (hR:R B Z Y w) (he:ig Z N e a.tmps) (hd:a.defers=[]) (hZ:Z0.le Z) (hbel:Below B w0 w):
  (Code.loop b).wp P (ad6 B N Z0 w0 Q) a w:=by
 intro bf k cs
 have key: ∀n e Y Z a w,ph f Q n e Y->R B Z Y w->ig Z N e a.tmps->a.defers=[]->Z0.le Z->Below B w0 w->
   ∃x a' w',ad6 B N Z0 w0 Q x a' w'/\Arrives P (lone (bf.at a (.code b:: .inLoop b::k)) cs w) bf k cs x a' w':=by
  intro n;induction n with
  |zero=>intro e Y Z a w h;exact h.elim
  |succ n ih=>
   intro e Y Z a w h hR he hd hZ hbel;simp only[ph]at h;obtain⟨x,a₁,w₁,hq,harr⟩:=hb _ e Y Z a w h hR he hd bf (.inLoop b::k) cs;obtain⟨ax,e1,Y1,Z1,hx,hq,h1,h2,h3,h4,h5⟩:=hq;cases ax with
   |normal=>
    cases x<;>simp[aw0]at hx;obtain⟨x₂,a₂,w₂,hq₂,harr₂⟩:=ih e1 Y1 Z1 a₁ w₁ hq h2 h3 h4 (Mu.le_trans hZ h1) (hbel.trans h5);exact⟨x₂,a₂,w₂,hq₂, .of_steps (Steps.trans harr (.one step_inLoop)) harr₂⟩
   |exit id=>
    cases x with
    |exit j=>
     obtain⟨rfl,hj⟩:=hx;exact⟨.exit id,a₁,w₁,⟨.exit id,e1,Y1,Z1,⟨rfl,hj⟩,hq,Mu.le_trans hZ h1,h2,h3,h4,hbel.trans h5⟩, .pass (x:= .inLoop b) rfl (λ_ _=> .inl (by simp)) harr⟩
    |goto l=>exact⟨.goto l,a₁,w₁,⟨.exit id,e1,Y1,Z1,hx,hq,Mu.le_trans hZ h1,h2,h3,h4,hbel.trans h5⟩,λk' hk=>harr k' (by simp[gotoIn,hk])⟩
    |_=>exact hx.elim
   |ret=>
    cases x<;>simp[aw0]at hx;exact⟨.ret,a₁,w₁,⟨.ret,e1,Y1,Z1,trivial,hq,Mu.le_trans hZ h1,h2,h3,h4,hbel.trans h5⟩, .pass (x:= .inLoop b) rfl (λ_ _=> .inl (by simp)) harr⟩
 obtain⟨x,a',w',hq,harr⟩:=key n e Y Z a w h hR he hd hZ hbel;exact⟨x,a',w',hq, .of_steps (.one step_loop) harr⟩
theorem be4 {is:List Nat}{Y:Hp}: ∀{chk:List (Nat×(Hp->Prop))},aw4 is Y chk->∀i c,(i,c)∈chk->i∈is->c Y
 |[],_,i,c,h,_=>by cases h
 |(j,d)::r,hr,i,c,h,hi=>by
  simp only[aw4]at hr;rcases List.mem_cons.1 h with h|h
  .injection h with h1 h2
   subst h1 h2;rw[xB (by simpa using hi)]at hr;exact hr.1
  .split at hr
   .exact be4 hr.2 i c h hi
   .exact be4 hr i c h hi
theorem aB6 {al:DL}{m:Nat}{Y:Hp}: ∀{chk:List (Nat×(Hp->Prop))},(∀i c,(i,c)∈chk->ar3 al i m=Zb->c Y)->aV9 al m Y chk
 |[],_=>trivial
 |(j,d)::r,h=>by
  simp only[aV9];split
  .exact aB6 λi c hc=>h i c (aB _ hc)
  .rename_i hb;exact⟨h j d (aD ..) (by simpa using hb),aB6 λi c hc=>h i c (aB _ hc)⟩
theorem cJ8 {op:AOp}{e:ey}{Y:Hp}{k k':Value->Hp->Prop}(hT:ac0 T)(hk: ∀v Y',k v Y'->k' v Y')(h:di T op e Y k):di T op e Y k':=by
 unfold di at*;cases op<;>simp only at h⊢
 case call f xs=>exact hT _ _ _ _ _ hk h
 case callv f xs=>
  split at h
  .exact hT _ _ _ _ _ hk h
  .exact h.elim
 all_goals
  split at h
  .exact hk _ _ h
  .exact h.elim
theorem bd9 (hT:ac0 T){Q:ey->Hp->Prop}{al:DL}: ∀(f:Nat) (done loads:List Nat) (its:List SItem) (chk chk':List (Nat×(Hp->Prop))) (e:ey) (Y:Hp),bi0 al f done loads=C its->wpI T Q its chk' e Y->
  (∀i c,(i,c)∈chk->i∈loads)->(∀i c,(i,c)∈chk->dm5 al i=Za->(i,c)∈chk')->wpD T Q al f done chk e Y
 |0,done,loads,its,chk,chk',e,Y,h,hw,_,_=>by
  simp[bi0]at h;subst h;exact hw
 |f+1,done,loads,its,chk,chk',e,Y,h,hw,h1,h2=>by
  simp only[bi0]at h;simp only[wpD];split at h
  .rename_i i hn;split at h
   .rename_i o p ho;obtain⟨r,hr,h⟩:=Option.map_eq_some_iff.1 h;subst h;simp only[wpI]at hw;split at hw
    .rename_i hwant;rw[xB hwant];simp only[cB,if_false]at hw;split at hw
     .rename_i v Y1 hrun;refine bd9 hT f _ _ _ _ _ _ _ hr hw (λj c hc=> ?_) (λj c hc hk=> ?_)
      .by_cases hl:o.op.isLoad=Za
       .rw[xB hl]at hc⊢;rcases List.mem_cons.1 hc with hc|hc
        .injection hc with hc _
         subst hc;exact aD ..
        .exact aB _ (h1 j c hc)
       .rw[xD hl]at hc⊢;exact h1 j c hc
      .by_cases hl:o.op.isLoad=Za
       .rw[xB hl]at hc;rcases List.mem_cons.1 hc with hc|hc
        .have hj:j=i:=by injection hc
         subst hj;rw[xB (by simp[hl,hk]),hc];exact aD ..
        .split
         .exact aB _ (h2 j c hc hk)
         .exact h2 j c hc hk
       .rw[xD hl]at hc;split
        .exact aB _ (h2 j c hc hk)
        .exact h2 j c hc hk
     .exact hw.elim
    .rename_i hwant;rw[xD hwant];refine bd9 hT f _ _ _ _ _ _ _ hr hw (λj c hc=> ?_) h2;split
     .exact aB _ (h1 j c hc)
     .exact h1 j c hc
   .cases h
  .rename_i hn;split at h
   .rename_i hm;rw[hm];injection h with h
    subst h;exact hw
   .rename_i m hm;rw[hm];simp only[ce3];split at h
    .rename_i o p ho;obtain⟨r,hr,h⟩:=Option.map_eq_some_iff.1 h;subst h
     have hmv:cR3 al m=Za:=by
      have:=(aB9.1 (show m∈ge al done by rw[hm];exact aD ..)).2.2.2;simpa[aU5,cR3,ho]using this
     have hml:m<al.length:=(aB9.1 (show m∈ge al done by rw[hm];exact aD ..)).1;simp only[wpI]at hw⊢;split at hw
     .rename_i hwant;rw[xB hwant];simp only[if_true]at hw;refine cJ8 hT (λv Y' hk=> ?_) hw;refine⟨aB6 λi c hc hb=> ?_,bd9 hT f _ _ _ _ _ _ _ hr hk.2 h1 h2⟩;have hkp:dm5 al i=Za:=List.any_eq_true.2 ⟨m,List.mem_range.2 hml,by simp[hmv,hb]⟩;exact be4 hk.1 i c (h2 i c hc hkp) (by simp[h1 i c hc,hb])
     .rename_i hwant;rw[xD hwant];exact bd9 hT f _ _ _ _ _ _ _ hr hw h1 h2
    .cases h
   .cases h
def bI0 (l:Nat)(J:Act->World->Prop)(Q:Exit->Act->World->Prop):Exit->Act->World->Prop
 | .goto l',a,w=>(l'=l/\J a w)∨(l'≠l/\Q (.goto l') a w)
 |x,a,w=>Q x a w
theorem cK3 {c rest:Code}{Q:Exit->Act->World->Prop}{a:Act}{w:World}(l:Nat)(J:Nat->Act->World->Prop)(hf:findLabel c l=C rest)(hQ: ∀l' a w,¬Q (.goto l') a w)
  (first:c.wp P (bI0 l (λa w=> ∃n,J n a w) Q) a w) (pass: ∀n a w,J n a w->rest.wp P (bI0 l (λa w=> ∃m,m<n/\J m a w) Q) a w):(Code.scope c).wp P Q a w:=by
 intro b k cs;have hg:gotoIn l (.inScope c::k)=C (.code rest:: .inScope c::k):=by simp[gotoIn,hf]
 have key: ∀n a w,J n a w->∃e a' w',Q e a' w'/\Arrives P (lone (b.at a (.code rest:: .inScope c::k)) cs w) b k cs e a' w':=by
  intro n;induction n using Nat.strongRecOn with
  |_ n ih=>
   intro a w hJ;obtain⟨e,a₁,w₁,hq,harr⟩:=pass n a w hJ b (.inScope c::k) cs;cases e with
   |normal=>exact⟨.normal,a₁,w₁,hq,Steps.trans harr (.one step_inScope)⟩
   |exit id=>exact⟨.exit id,a₁,w₁,hq,λk' hk=>harr k' (by simp[exitTo,hk])⟩
   |goto l'=>
    rcases hq with⟨rfl,m,hlt,hJ'⟩|⟨_,hq⟩
    .obtain⟨e₂,a₂,w₂,hq₂,harr₂⟩:=ih m hlt a₁ w₁ hJ';exact⟨e₂,a₂,w₂,hq₂, .of_steps (harr _ hg) harr₂⟩
    .exact(hQ _ _ _ hq).elim
   |ret=>exact⟨_,a₁,w₁,hq,harr⟩
   |panic ch=>exact⟨_,a₁,w₁,hq,harr⟩
   |outgrown=>exact⟨_,a₁,w₁,hq,harr⟩
 obtain⟨e,a₁,w₁,hq,harr⟩:=first b (.inScope c::k) cs
 cases e with
 |normal=>exact⟨.normal,a₁,w₁,hq, .head step_scope (Steps.trans harr (.one step_inScope))⟩
 |exit id=>exact⟨.exit id,a₁,w₁,hq,λk' hk=> .head step_scope (harr k' (by simp[exitTo,hk]))⟩
 |goto l'=>
  rcases hq with⟨rfl,n,hJ'⟩|⟨_,hq⟩
  .obtain⟨e₂,a₂,w₂,hq₂,harr₂⟩:=key n a₁ w₁ hJ';exact⟨e₂,a₂,w₂,hq₂, .of_steps (.head step_scope (harr _ hg)) harr₂⟩
  .exact(hQ _ _ _ hq).elim
 |ret=>exact⟨_,a₁,w₁,hq, .of_steps (.one step_scope) harr⟩
 |panic ch=>exact⟨_,a₁,w₁,hq, .of_steps (.one step_scope) harr⟩
 |outgrown=>exact⟨_,a₁,w₁,hq, .of_steps (.one step_scope) harr⟩
def Jst {P:Program}(B:Base P)(N:Nat)(Z0:Mu)(w0:World)(L:Nat->ey->Hp->Prop)(n:Nat):Act->World->Prop:=λa w=>
 ∃e Y Z,L n e Y/\Z0.le Z/\R B Z Y w/\ig Z N e a.tmps/\a.defers=[]/\Below B w0 w
def Aok (P:Program)(T:ja)(B:Base P)(N:Nat)(c:Code):Prop:= ∀(ac:AC),tv P N c=C ac->∀(Q:AExit->ey->Hp->Prop) (e:ey) (Y:Hp) (Z:Mu) (a:Act) (w:World),wpA T ac Q e Y->
  R B Z Y w->ig Z N e a.tmps->a.defers=[]->c.wp P (ad6 B N Z w Q) a w
def Sok (P:Program)(T:ja)(B:Base P)(N:Nat)(c:Code):Prop:= ∀(ac:AC),cz6 P N c=C ac->∀(Q:AExit->ey->Hp->Prop),
 (mb c=O->∀(e:ey) (Y:Hp) (Z:Mu) (a:Act) (w:World),wpA T ac Q e Y->R B Z Y w->ig Z N e a.tmps->a.defers=[]->c.wp P (ad6 B N Z w Q) a w)/\
 (∀l,mb c=C l->∃rest L,findLabel c l=C rest/\∀Z0 w0,
  (∀(e:ey) (Y:Hp) (Z:Mu) (a:Act) (w:World),wpA T ac Q e Y->R B Z Y w->ig Z N e a.tmps->a.defers=[]->Z0.le Z->Below B w0 w->c.wp P (bI0 l (λa w=> ∃n,Jst B N Z0 w0 L n a w) (ad6 B N Z0 w0 Q)) a w)/\
  (∀n a w,Jst B N Z0 w0 L n a w->rest.wp P (bI0 l (λa w=> ∃m,m<n/\Jst B N Z0 w0 L m a w) (ad6 B N Z0 w0 Q)) a w))
theorem Sok.of {c:Code}(h1:cz6 P N c=tv P N c)(h2:mb c=O)(h:Aok P T B N c):Sok P T B N c:=λac hac Q=>
 ⟨λ_=>h ac (h1▸hac) Q,λl hl=>by rw[h2]at hl;cases hl⟩
theorem bD7 {Z:Mu}{w:World}{Q:AExit->ey->Hp->Prop}{x:Exit}{a':Act}{w':World}(h:ad6 B N Z w Q x a' w')(hx:x≠ .normal): ∃ax e' Y' Z',ax≠ .normal/\aw0 ax x/\Q ax e' Y'/\Z.le Z'/\R B Z' Y' w'/\ig Z' N e' a'.tmps/\a'.defers=[]/\Below B w w':=by
 obtain⟨ax,e',Y',Z',h1,h2,h3⟩:=h;refine⟨ax,e',Y',Z', ?_,h1,h2,h3⟩;rintro rfl;cases x<;>first|exact h1.elim|exact hx rfl
theorem dB5 {Z:Mu}{w:World}{Q Q':AExit->ey->Hp->Prop}{x:Exit}{a':Act}{w':World}(h:ad6 B N Z w Q x a' w')(hq: ∀ax e Y,aw0 ax x->Q ax e Y->Q' ax e Y):ad6 B N Z w Q' x a' w':=by
 obtain⟨ax,e',Y',Z',h1,h2,h3⟩:=h;exact⟨ax,e',Y',Z',h1,hq _ _ _ h1 h2,h3⟩
theorem cT4 {x y:Code}{a:Act}{w:World}{Z:Mu}{Q1:AExit->ey->Hp->Prop}{F:Exit->Act->World->Prop}(h:x.wp P (ad6 B N Z w Q1) a w)
  (hn: ∀e Y Z' a' w',Q1 .normal e Y->Z.le Z'->R B Z' Y w'->ig Z' N e a'.tmps->a'.defers=[]->Below B w w'->y.wp P F a' w')
  (ho: ∀x a' w',x≠ .normal->ad6 B N Z w Q1 x a' w'->F x a' w'):(Code.seq x y).wp P F a w:=by
 refine wp_seq (wp_mono h λx' a' w' hx=> ?_);cases x' with
 |normal=>
  obtain⟨ax,e',Y',Z',h1,h2,h3,h4,h5,h6,h7⟩:=hx;cases ax with
  |normal=>exact hn e' Y' Z' a' w' h2 h3 h4 h5 h6 h7
  |exit i=>exact h1.elim
  |ret=>exact h1.elim
 |exit i=>exact ho _ a' w' (by simp) hx
 |goto l=>exact ho _ a' w' (by simp) hx
 |ret=>exact ho _ a' w' (by simp) hx
 |panic ch=>exact ho _ a' w' (by simp) hx
 |outgrown=>exact ho _ a' w' (by simp) hx
theorem cG0 {l:Nat}{J:Act->World->Prop}{F:Exit->Act->World->Prop}{x:Exit}{a:Act}{w:World}(hg:x= .goto l->J a w)(hF:x≠ .goto l->F x a w):bI0 l J F x a w:=by
 cases x with
 |goto l'=>
  by_cases hl:l'=l
  .subst hl;exact .inl ⟨rfl,hg rfl⟩
  .exact .inr ⟨hl,hF (by simpa using hl)⟩
 |_=>exact hF (by simp)
theorem bU8 {l:Nat}{J J':Act->World->Prop}{F F':Exit->Act->World->Prop}(hJ: ∀a w,J a w->J' a w)(hF: ∀x a w,F x a w->F' x a w){x:Exit}{a:Act}{w:World}(h:bI0 l J F x a w):bI0 l J' F' x a w:=by
 cases x with
 |goto l'=>
  rcases h with⟨h1,h2⟩|⟨h1,h2⟩
  .exact .inl ⟨h1,hJ _ _ h2⟩
  .exact .inr ⟨h1,hF _ _ _ h2⟩
 |_=>exact hF _ _ _ h
theorem dk6 (hM:ac0 T)(hT: ∀f,Sim P f (T f)): ∀(c:Code),Aok P T B N c/\Sok P T B N c:=by
 intro c;induction c with
 |skip=>
  refine(λA=>⟨A,Sok.of rfl rfl A⟩) ?_;intro ac h Q e Y Z a w hw hR he hd;simp[tv,tr2,yi]at h;subst h;exact wp_skip ⟨.normal,e,Y,Z,trivial,hw,Z.le_refl,hR,he,hd,Below.refl _ _⟩
 |label l=>
  refine(λA=>⟨A,Sok.of rfl rfl A⟩) ?_;intro ac h Q e Y Z a w hw hR he hd;simp[tv,tr2,yi]at h;subst h;exact wp_label ⟨.normal,e,Y,Z,trivial,hw,Z.le_refl,hR,he,hd,Below.refl _ _⟩
 |goto l=>
  refine(λA=>⟨A,Sok.of rfl rfl A⟩) ?_;intro ac h Q e Y Z a w hw hR he hd;simp[tv,tr2,yi]at h;subst h;exact wp_goto ⟨.exit (aJ5 l),e,Y,Z,rfl,hw,Z.le_refl,hR,he,hd,Below.refl _ _⟩
 |region id ops draw=>
  refine(λA=>⟨A,Sok.of rfl rfl A⟩) ?_;intro ac h Q e Y Z a w hw hR he hd;simp only[tv,tr2,yi]at h;cases draw with
  |false=>
   simp only[cB,if_false]at h;obtain⟨al,h1,h⟩:=Option.map_eq_some_iff.1 h;subst h;exact wp_region_list (cx6 hT ops.toList al e Y Z a w h1 hw hR he hd Z.le_refl (Below.refl _ _))
  |true=>
   simp only[if_true]at h;split at h
   .rename_i al h1;split at h
    .rename_i h2
     have hw:wpD T (Q .normal) al al.length [] [] e Y:=by
      split at h
      .rename_i its hits;injection h with h
       subst h;exact bd9 hM al.length [] [] its [] [] e Y hits hw (λi c hc=>(by cases hc)) (λi c hc=>(by cases hc))
      .injection h with h
       subst h;exact hw
     simp only[bB]at h2;have hF:=dx0 h1;have hempty: ∀(val:Nat->Value),mh al e val []=e:=λval=>funext λt=>vx λi hi=>by cases hi
     refine wp_region_any h2.2 ?_;have hl:left al.length []<=al.length:=by unfold left;exact Nat.le_trans (List.length_filter_le _ _) (by simp)
     refine dw0 hT hF h2.1 (e0:=e) ops.size al.length (λ_=>undef) [] [] [] _ Y Z a _ (by rw[hempty];exact hw) hl (by rw[hF.len];exact hl) ⟨λi hi=>(by cases hi),λi hi=>(by cases hi),λi hi=>(by cases hi),λi hi=>(by cases hi),λi hi=>(by cases hi)⟩ (by simp) (λi hi=>by simp[hi]) (hR.same rfl) (by rw[hempty];exact he) hd Z.le_refl (Below.refl _ _).drew
    .cases h
   .cases h
 |seq x y ihx ihy=>
  refine⟨?_, ?_⟩
  .intro ac h Q e Y Z a w hw hR he hd;have h:dN5 (tv P N x) (tv P N y)=C ac:=h;unfold dN5 at h;split at h
   .rename_i ax ay h1 h2;injection h with h
    subst h;simp only[wpA]at hw;have h1:tv P N x=C ax:=h1;have h2:tv P N y=C ay:=h2;refine cT4 (ihx.1 ax h1 _ e Y Z a w hw hR he hd) (λe' Y' Z' a' w' hq g1 g2 g3 g4 g5=> ?_) λx' a' w' hx hp=> ?_
    .exact wp_mono (ihy.1 ay h2 Q e' Y' Z' a' w' hq g2 g3 g4) λx'' a'' w'' h''=>h''.trans g1 g5
    .obtain⟨axx,e',Y',Z',h0,h1',h2',h3'⟩:=bD7 hp hx;refine⟨axx,e',Y',Z',h1', ?_,h3'⟩;cases axx with
     |normal=>exact(h0 rfl).elim
     |exit i=>exact h2'
     |ret=>exact h2'
   .cases h
  .intro ac h Q;have h:cT8 x y (tv P N x) (tv P N y) (cz6 P N y)=C ac:=h;unfold cT8 at h;split at h
   .rename_i l hl;obtain rfl:=cw5 hl;split at h
    .
     rename_i hg;obtain⟨yc,h1,h⟩:=Option.map_eq_some_iff.1 h;subst h;have hll:mb (.seq (.label l) y)=C l:=by simp[mb,bh7,hg]
     refine⟨λhn=>(by rw[hll]at hn;cases hn),λl' hl'=> ?_⟩;rw[hll]at hl';injection hl' with hl'
     subst hl'
     let Q1:AExit->ey->Hp->Prop:=λx e Y=>match x with
      | .exit i=>if i=aw3 l then Q .normal e Y else Q (.exit i) e Y
      |x=>Q x e Y
     let body:AC:= .block (aJ5 l) (.seq yc (.exit (aw3 l)))
     have hne:aw3 l≠aJ5 l:=by unfold aw3 aJ5;omega
     have round: ∀(n:Nat) (e:ey) (Y:Hp) (Z:Mu) (a:Act) (w:World) (Z0:Mu) (w0:World),ph (wpA T body) Q1 (n+1) e Y->R B Z Y w->ig Z N e a.tmps->a.defers=[]->Z0.le Z->Below B w0 w->
       y.wp P (bI0 l (λa w=>Jst B N Z0 w0 (λn=>ph (wpA T body) Q1 n) n a w) (ad6 B N Z0 w0 Q)) a w:=by
      intro n e Y Z a w Z0 w0 hw hR he hd hZ hb;simp only[ph,body,wpA]at hw;refine wp_mono (ihy.1 yc h1 _ e Y Z a w hw hR he hd) λx' a' w' hp=> ?_
      obtain⟨ax,e',Y',Z',q1,q2,q3,q4,q5,q6,q7⟩:=hp;refine cG0 (λhx=> ?_) λhx=> ?_
      .subst hx;cases ax with
       |exit i=>
        have q1:i=aJ5 l:=q1;subst q1;simp only[if_true]at q2;exact⟨e',Y',Z',q2,Mu.le_trans hZ q3,q4,q5,q6,hb.trans q7⟩
       |_=>exact q1.elim
      .cases ax with
       |normal=>
        simp only[xD hne]at q2;simp only[Q1,if_true]at q2;exact⟨.normal,e',Y',Z',q1,q2,Mu.le_trans hZ q3,q4,q5,q6,hb.trans q7⟩
       |ret=>exact⟨.ret,e',Y',Z',q1,q2,Mu.le_trans hZ q3,q4,q5,q6,hb.trans q7⟩
       |exit i=>
        have hi:i≠aJ5 l/\i≠aw3 l:=by
         cases x' with
         |exit j=>
          obtain⟨rfl,hj⟩:=q1;unfold aJ5 aw3;omega
         |goto l'=>
          have q1:i=aV8+2*l':=q1;have:l'≠l:=λe=>hx (by rw[e])
          unfold aJ5 aw3;omega
         |_=>exact q1.elim
        simp only[xD hi.1,Q1,xD hi.2]at q2;exact⟨.exit i,e',Y',Z',q1,q2,Mu.le_trans hZ q3,q4,q5,q6,hb.trans q7⟩
     refine⟨.seq .skip y,λn=>ph (wpA T body) Q1 n,by simp[findLabel],λZ0 w0=>⟨λe Y Z a w hw hR he hd hZ hb=> ?_,λn a w hJ=> ?_⟩⟩
     .have hw': ∃n,ph (wpA T body) Q1 n e Y:=hw
      obtain⟨n,hn⟩:=hw';cases n with
      |zero=>exact hn.elim
      |succ n=>
       refine wp_seq (wp_label ?_);exact wp_mono (round n e Y Z a w Z0 w0 hn hR he hd hZ hb) λx' a' w' h'=>bU8 (λ_ _ h=>⟨n,h⟩) (λ_ _ _ h=>h) h'
     .obtain⟨e,Y,Z,hn,hZ,hR,he,hd,hb⟩:=hJ;cases n with
      |zero=>exact hn.elim
      |succ n=>
       refine wp_seq (wp_skip ?_);exact wp_mono (round n e Y Z a w Z0 w0 hn hR he hd hZ hb) λx' a' w' h'=>bU8 (λ_ _ h=>⟨n,Nat.lt_succ_self n,h⟩) (λ_ _ _ h=>h) h'
    .
     rename_i hg;split at h
     .rename_i hlo;obtain⟨yc,h1,h⟩:=Option.map_eq_some_iff.1 h;subst h;have hll:mb (.seq (.label l) y)=mb y:=by simp[mb,bh7,hg]
      obtain⟨s1,s2⟩:=ihy.2 yc h1 Q;refine⟨λhn e Y Z a w hw hR he hd=>wp_seq (wp_label ?_),λl' hl'=> ?_⟩
      .exact s1 (hll▸hn) e Y Z a w hw hR he hd
      .rw[hll]at hl';obtain⟨rest,L,hf,hJ⟩:=s2 l' hl'
       have hlab:findLabel (.seq (.label l) y) l'=C rest:=by
        have:findLabel (.label l) l'=O:=bd5 _ _ (by
         unfold bw5 at hlo;rw[hl']at hlo
         simpa using hlo)
        simp[findLabel,hf]at this⊢;simp[this]
       refine⟨rest,L,hlab,λZ0 w0=>⟨λe Y Z a w hw hR he hd hZ hb=>wp_seq (wp_label ?_),(hJ Z0 w0).2⟩⟩;exact(hJ Z0 w0).1 e Y Z a w hw hR he hd hZ hb
     .cases h
   .rename_i hl;split at h
    .rename_i ax ay h1 h2;split at h
     .rename_i hlo;rw[bB,bD]at hlo;obtain⟨hlo,hnj⟩:=hlo;injection h with h
      subst h;have hll:mb (.seq x y)=mb y:=by simp[mb,hl]
      obtain⟨s1,s2⟩:=ihy.2 ay h2 Q;refine⟨λhn e Y Z a w hw hR he hd=> ?_,λl' hl'=> ?_⟩
      .simp only[wpA]at hw;refine cT4 (ihx.1 ax h1 _ e Y Z a w hw hR he hd) (λe' Y' Z' a' w' hq g1 g2 g3 g4 g5=> ?_) λx' a' w' hx hp=> ?_
       .exact wp_mono (s1 (hll▸hn) e' Y' Z' a' w' hq g2 g3 g4) λx'' a'' w'' h''=>h''.trans g1 g5
       .obtain⟨axx,e',Y',Z',h0,h1',h2',h3'⟩:=bD7 hp hx;refine⟨axx,e',Y',Z',h1', ?_,h3'⟩;cases axx with
        |normal=>exact(h0 rfl).elim
        |exit i=>exact h2'
        |ret=>exact h2'
      .rw[hll]at hl';obtain⟨rest,L,hf,hJ⟩:=s2 l' hl'
       have hlab:findLabel (.seq x y) l'=C rest:=by
        have:findLabel x l'=O:=bd5 _ _ (by
         unfold bw5 at hlo;rw[hl']at hlo
         simpa using hlo)
        simp[findLabel,hf,this]
       have hnj:ax.noJump=Za:=by
        rcases hnj with h|h
        .rw[hl']at h;cases h
        .exact h
       refine⟨rest,L,hlab,λZ0 w0=>⟨λe Y Z a w hw hR he hd hZ hb=> ?_,(hJ Z0 w0).2⟩⟩;simp only[wpA]at hw;refine cT4 (ihx.1 ax h1 _ e Y Z a w (cM1 hM _ _ e Y hw) hR he hd) (λe' Y' Z' a' w' hq g1 g2 g3 g4 g5=> ?_) λx' a' w' hx hp=> ?_
       .exact(hJ Z0 w0).1 e' Y' Z' a' w' hq.2 g2 g3 g4 (Mu.le_trans hZ g1) (hb.trans g5)
       .obtain⟨axx,e',Y',Z',h0,h1',h2',h3',h4',h5',h6',h7'⟩:=bD7 hp hx;refine cG0 (λhg=> ?_) λ_=> ?_
        .subst hg;cases axx with
         |exit i=>
          have k1:i=aV8+2*l':=h1';have:=cj7 hnj (h2'.1 i rfl);omega
         |_=>exact h1'.elim
        .refine⟨axx,e',Y',Z',h1', ?_,Mu.le_trans hZ h3',h4',h5',h6',hb.trans h7'⟩;cases axx with
         |normal=>exact(h0 rfl).elim
         |exit i=>exact h2'.2
         |ret=>exact h2'.2
     .cases h
    .cases h
 |cond c x y ihx ihy=>
  refine(λA=>⟨A,Sok.of rfl rfl A⟩) ?_;intro ac h Q e Y Z a w hw hR he hd;simp only[tv,tr2,yi]at h;split at h
  .rename_i c' ax ay h0 h1 h2;injection h with h
   subst h;obtain⟨rfl,k0⟩:=cl h0;have hv:=he.ev k0;simp only[wpA]at hw;split at hw
   .rename_i hb;rw[hb]at hv;exact wp_cond_true hv.bool_inv (ihx.1 ax h1 Q e Y Z a w hw hR he hd)
   .rename_i hb;rw[hb]at hv;exact wp_cond_false hv.bool_inv (ihy.1 ay h2 Q e Y Z a w hw hR he hd)
   .exact hw.elim
  .cases h
 |block id b ih=>
  refine(λA=>⟨A,Sok.of rfl rfl A⟩) ?_;intro ac h Q e Y Z a w hw hR he hd;simp only[tv,tr2,yi]at h;split at h
  .rename_i hlt;obtain⟨ab,h1,h⟩:=Option.map_eq_some_iff.1 h;subst h;simp only[wpA]at hw;refine wp_block (wp_mono (ih.1 ab h1 _ e Y Z a w hw hR he hd) λx a' w' hx=> ?_);obtain⟨axx,e',Y',Z',hxr,hq,g1,g2,g3,g4,g5⟩:=hx;cases axx with
   |normal=>
    cases x<;>simp[aw0]at hxr;exact⟨.normal,e',Y',Z',trivial,hq,g1,g2,g3,g4,g5⟩
   |exit i=>
    simp only at hq;cases x with
    |exit j=>
     obtain⟨rfl,hj⟩:=hxr;simp only[Exit.inBlock];split
     .rename_i hid;rw[xB hid]at hq;exact⟨.normal,e',Y',Z',trivial,hq,g1,g2,g3,g4,g5⟩
     .rename_i hid;rw[xD hid]at hq;exact⟨.exit i,e',Y',Z',⟨rfl,hj⟩,hq,g1,g2,g3,g4,g5⟩
    |goto l=>
     have hxr':i=aV8+2*l:=hxr;rw[xD (by omega)]at hq;exact⟨.exit i,e',Y',Z',hxr,hq,g1,g2,g3,g4,g5⟩
    |_=>exact hxr.elim
   |ret=>
    cases x<;>simp[aw0]at hxr;exact⟨.ret,e',Y',Z',trivial,hq,g1,g2,g3,g4,g5⟩
  .cases h
 |loop b ih=>
  refine(λA=>⟨A,Sok.of rfl rfl A⟩) ?_;intro ac h Q e Y Z a w hw hR he hd;simp only[tv,tr2,yi]at h;obtain⟨ab,h1,h⟩:=Option.map_eq_some_iff.1 h;subst h;simp only[wpA]at hw;obtain⟨n,hn⟩:=hw;exact cA0 (f:=wpA T ab) (λQ e Y Z a w hf=>ih.1 ab h1 Q e Y Z a w hf) hn hR he hd Z.le_refl (Below.refl _ _)
 |scope b ih=>
  refine(λA=>⟨A,Sok.of rfl rfl A⟩) ?_;intro ac h Q e Y Z a w hw hR he hd;simp only[tv,tr2,yi]at h;split at h
  .rename_i ac' h1;split at h
   .rename_i hno;injection h with h
    subst h;have hw':=cM1 hM _ Q e Y hw
    have hng: ∀(l':Nat) (a:Act) (w':World),¬ad6 B N Z w (cN4 ac' Q) (.goto l') a w':=by
     rintro l' a w' ⟨ax,e',Y',Z',k1,k2,_⟩;cases ax with
     |exit i=>
      have k1:i=aV8+2*l':=k1;have:=cj7 hno (k2.1 i rfl);omega
     |_=>exact k1.elim
    have fin: ∀{x:Exit} {a':Act} {w':World},ad6 B N Z w (cN4 ac' Q) x a' w'->ad6 B N Z w Q x a' w':=λh=>dB5 h λ_ _ _ _ h=>h.2
    obtain⟨s1,s2⟩:=ih.2 ac' h1 (cN4 ac' Q);cases hl:mb b with
    |none=>
     refine wp_scope_straight (wp_mono (s1 hl e Y Z a w hw' hR he hd) λx a' w' hx=> ?_);cases x with
     |goto l'=>exact(hng l' a' w' hx).elim
     |_=>exact fin hx
    |some l=>
     obtain⟨rest,L,hf,hJ⟩:=s2 l hl;obtain⟨j1,j2⟩:=hJ Z w;refine wp_mono (cK3 l (Jst B N Z w L) hf hng (j1 e Y Z a w hw' hR he hd Z.le_refl (Below.refl _ _)) j2) λx a' w' hx=>fin hx
   .cases h
  .cases h
 |exit id=>
  refine(λA=>⟨A,Sok.of rfl rfl A⟩) ?_;intro ac h Q e Y Z a w hw hR he hd;simp only[tv,tr2,yi]at h;split at h
  .rename_i hlt;injection h with h
   subst h;exact wp_exit ⟨.exit id,e,Y,Z,⟨rfl,hlt⟩,hw,Z.le_refl,hR,he,hd,Below.refl _ _⟩
  .cases h
 |ret=>
  refine(λA=>⟨A,Sok.of rfl rfl A⟩) ?_;intro ac h Q e Y Z a w hw hR he hd;simp[tv,tr2,yi]at h;subst h;exact wp_ret ⟨.ret,e,Y,Z,trivial,hw,Z.le_refl,hR,he,hd,Below.refl _ _⟩
 |_=>
  refine(λA=>⟨A,Sok.of rfl rfl A⟩) ?_;intro ac h;simp[tv,tr2,yi]at h
theorem dv2 (hM:ac0 T)(hT: ∀f,Sim P f (T f))(c:Code)(ac:AC)(h:tv P N c=C ac)(Q:AExit->ey->Hp->Prop)(e:ey)(Y:Hp)(Z:Mu)(a:Act)(w:World)(hw:wpA T ac Q e Y)
  (hR:R B Z Y w) (he:ig Z N e a.tmps) (hd:a.defers=[]):c.wp P (ad6 B N Z w Q) a w:=(dk6 hM hT c).1 ac h Q e Y Z a w hw hR he hd
end
end
end Go.Ab
