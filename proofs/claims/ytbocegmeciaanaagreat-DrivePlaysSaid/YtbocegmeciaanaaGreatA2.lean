/- A part of the proofs of this claim: what functions of the program answer on an abstract machine, and plain laws. No condition. -/
import Derived.Test.YtbocegmeciaanaaGreatA1
import Derived.Laws.BytesString
import Derived.Laws.RangeAny
import Derived.Laws.IdiomStrings
import Derived.Laws.Cover4
import Derived.Lib.OthersKept
set_option linter.unusedVariables false
set_option linter.unusedSimpArgs false
set_option linter.unusedSectionVars false
namespace Go.Ab
section
open Bool renaming false_eq_true → eD
open Builtin renaming firstCells → aB, zeroCells → bD, append_ → gN, lenOf → gO
open List renaming length_append → dB, map_cons → fB, map_nil → fD, map_toArray → gB, take_left → gP, getElem?_drop → gR, getElem?_take → gS, append_assoc → gT, getElem?_eq_getElem → gU, getElem?_eq_none → gV
open Nat renaming le_refl → cB, add_mul → dD, zero_add → gD, mul_le_mul_right → gQ
open Result renaming andThen_ok → aD
open Sem renaming run_bind → bB, run_pure → cD
open Go.RowKit
section
variable {P:Program} {o:Oper} {a:Act} {w w':World} {B:Base P} {N:Nat} {μ:Mu} {e:dh} {σ σ':Hp} {v:Value}
theorem be7 {x:Blk}{o:Nat}{cs:List Value}(h:pv x o 0=some cs):cs=[]:=by
 unfold pv at h;split at h
 ·simpa using h.symm
 ·cases h
theorem tB {es n ln:Nat}{x x':Value}{cs:List Value}(hl:ai4 x=some ln)(hle:n≤ln)(h:σ.slice es x n=some cs)(hR:R B μ σ w)(hx:VR μ x x'):
  ∃arr:Array Value,(∀w':World,w'.heap=w.heap→(aB es n x').run P w'= .ok arr w')∧F2 (VR μ) cs arr.toList:=by
 unfold Hp.slice at h;split at h
 ·rename_i b off l c;simp[ai4]at hl;subst hl;split at h
  ·rename_i hn0;injection h with h
   subst h;subst hn0;rcases hx.slice_inv with⟨g,c',hg,_,_,_,rfl⟩|⟨rfl,rfl,A',rfl,_⟩
   ·exact⟨#[],fun _ _=>by simp[aB,loadCells,loadCellsFrom], .nil⟩
   ·exact⟨#[],fun _ _=>by simp[aB,loadCells,loadCellsFrom], .nil⟩
  split at h
  ·rename_i blk hblk;rcases hx.slice_inv with⟨g,c',hg,_,_,_,rfl⟩|⟨rfl,rfl,A',rfl,_⟩
   ·obtain⟨cs',h1,h2⟩:=hR.reads hblk hg h;exact⟨cs'.toArray,fun w' hw'=>by simp[aB,h1 P w' hw'],h2⟩
   ·have:n=0:=by omega
    subst this;rw[Nat.zero_mul]at h;rw[be7 h];exact⟨#[],fun _ _=>by simp[aB,loadCells,loadCellsFrom], .nil⟩
  ·cases h
 ·obtain⟨rfl,_,_⟩:=hx.nils_inv;split at h
  ·injection h with h
   subst h;exact⟨#[],fun _ _=>by simp[aB], .nil⟩
  ·cases h
 ·rename_i s;split at h
  case isFalse=>cases h
  injection h with h
  subst h;obtain rfl:=hx.string_inv;refine⟨_,fun _ _=>by simp only[aB];rfl, ?_⟩;simp only[Array.toList_map]
  exact F2.same _ fun u hu=>by
   simp only[List.mem_map]at hu;obtain⟨c,_,rfl⟩:=hu;exact .int _ _
 ·cases h
theorem aR5 {x y:Blk}{off:Nat}{vs:List Value}(h:uL x off vs=some y):x.own=true∧off+vs.length≤x.cells.length∧(∀v∈vs,one v=true)∧y=⟨lL x.cells off vs,x.own,x.es⟩:=by
 unfold uL at h;split at h
 ·rename_i hc;injection h with h
  exact⟨hc.1,hc.2.1,fun v hv=>List.all_eq_true.1 hc.2.2 v hv,h.symm⟩
 ·cases h
theorem cF7 {c:Call}{x y:Operand}{t d:TypeId}{ts:List TypeId}{n:Nat}(ho:o.op= .call c)(hc:c.callee= .builtin .copy)(ha:c.args.toList=[x,y])(ht:c.argTypes.toList=t::ts)(hu:P.underlying t=some (.slice d))(hn:mf P d=some n)
  (hx:dn x=true) (hy:dn y=true) (hr:(AOp.copy n x y).run e σ=some (v,σ')) (he:fp μ N e a.tmps) (hR:R B μ σ w):jS P o a w B μ v σ':=by
 have hvx:=he.ev hx;have hvy:=he.ev hy;obtain⟨cst,hrun⟩:=ip (P:=P) (a:=a) ho hc w;simp only[AOp.run]at hr;split at hr
 ·rename_i p dl dc hp;rw[hp]at hvx
  have hsh: ∃p' dc',a.eval x= .slice p' dl dc':=by
   generalize a.eval x=q at hvx;cases hvx<;>exact⟨_,_,rfl⟩
  obtain⟨p',dc',hq⟩:=hsh;split at hr
  ·rename_i ln hln;have hln':=ce5 hln hvy
   have hlr:(gO (a.eval y)).run P w= .ok ln w:=by
    generalize a.eval y=q at*;cases q<;>simp[ai4]at hln'<;>simp[gO,hln']
   split at hr
   ·rename_i new hnew;obtain⟨arr,f1,f2⟩:=tB (P:=P) hln (Nat.min_le_left _ _) hnew hR hvy
    have head:(execOp a.eval o).run P w=((do
      if let some a:=p' then storeCells a arr.toList
      pure (goInt (Nat.min ln dl)):Sem Value).run P w).andThen fun v w=> .ok (.value v) w:=by
     simp only[hrun,builtin,Builtin.copy_,aZ5 ha,gB,fB,fD,am6 ht,hq,bB];have e1:(#[Value.slice p' dl dc',a.eval y]:Array Value)[0]?=some (.slice p' dl dc'):=rfl;have e2:(#[Value.slice p' dl dc',a.eval y]:Array Value)[1]?=some (a.eval y):=rfl;simp only[e1,e2,bB,eo hu,aD,hlr,mU hn];have f1':(aB n (ln.min dl) (a.eval y)).run P w= .ok arr w:=f1 w rfl;simp only[f1',aD];rfl
    have hstill:new=[]→jS P o a w B μ (.int .i64 (min ln dl:Nat)) σ:=by
     intro hn0;subst hn0
     have:arr= #[]:=by
      cases f2':arr.toList with
      |nil=>simpa using f2'
      |cons _ _=>rw[f2']at f2;cases f2
     subst this;refine .same hR ?_ (.int _ _);rw[head];cases p'<;>simp[storeCells,goInt]<;>rfl
    split at hr
    ·rename_i b off;split at hr
     ·rename_i hn0;simp only[Option.some.injEq,Prod.mk.injEq]at hr;obtain⟨rfl,rfl⟩:=hr;exact hstill hn0
     ·rename_i hn0;split at hr
      ·rename_i blk hblk;split at hr
       ·rename_i blk' hw;simp only[Option.some.injEq,Prod.mk.injEq]at hr;obtain⟨rfl,rfl⟩:=hr;obtain⟨k1,k2,k3,rfl⟩:=aR5 hw;rw[hq]at hvx;rcases hvx.slice_inv with⟨g,c',hg,_,_,_,hv⟩|⟨rfl,_⟩
        ·injection hv with hv1 hv2 hv3
         subst hv1;obtain⟨w',g1,g2,g3⟩:=R.writes _ _ f2 k3 σ w b off 0 blk g hR hblk k1 hg (by omega);refine⟨_,w',μ, .int .i64 (min ln dl:Nat), ?_, .inl rfl,μ.le_refl,g2, .int _ _,g3⟩;rw[head];simp[g1,goInt]
        ·exfalso;rw[Nat.min_zero]at hnew;unfold Hp.slice at hnew;split at hnew
         ·simp at hnew;exact hn0 hnew
         ·simp at hnew;exact hn0 hnew
         ·simp at hnew;exact hn0 hnew.2
         ·cases hnew
       ·cases hr
      ·cases hr
    ·split at hr
     ·rename_i hn0;simp only[Option.some.injEq,Prod.mk.injEq]at hr;obtain⟨rfl,rfl⟩:=hr;exact hstill hn0
     ·cases hr
    ·cases hr
   ·cases hr
  ·cases hr
 ·cases hr
theorem aD4 {arr:Array Value}(h:F2 (VR μ) [] arr.toList):arr= #[]:=by
 cases f2':arr.toList with
 |nil=>simpa using f2'
 |cons _ _=>rw[f2']at h;cases h
theorem bK5 {c:Call}{x y:Operand}{st xt d:TypeId}{n by_:Nat}{z:List Value}(ho:o.op= .call c)(hc:c.callee= .builtin .append)(ha:c.args.toList=[x,y])(ht:c.argTypes.toList=[st,xt])(hu:P.underlying st=some (.slice d))
  (hxt:(∃q,P.underlying xt=some (.slice q))∨P.underlying xt=some .string) (hn:mf P d=some n) (hb:bK9 P d=some by_) (hz:oq P d=some z)
  {p':Option Addr} {sl sc ln:Nat} (hq:a.eval x= .slice p' sl sc) (hln:ai4 (a.eval y)=some ln) {arr:Array Value} (harr:(aB n ln (a.eval y)).run P w= .ok arr w):
  (sl+ln≤sc→(execOp a.eval o).run P w=((do
    if let some a:=p' then storeCells (a.add (sl*n)) arr.toList
    pure (.slice p' (sl+ln) sc):Sem Value).run P w).andThen fun v w=> .ok (.value v) w)∧
  (sc<sl+ln→(sl+ln)*by_≤140737488355328→sl+ln≤9223372036854775807→∀old:Array Value,(aB n sl (.slice p' sl sc)).run P w.drew= .ok old w.drew→(aB n ln (a.eval y)).run P w.drew= .ok arr w.drew→
   ∃cap,sl+ln≤cap∧∃zz:Value,cellsOf zz=z∧(execOp a.eval o).run P w= .ok (.value (.slice (some ⟨w.heap.size,0,none⟩) (sl+ln) cap)) (w.drew.alloc (.cells (old++arr++bD zz.cells (cap-(sl+ln))) d))):=by
 obtain⟨cst,hrun⟩:=ip (P:=P) (a:=a) ho hc w
 have hlr:(gO (a.eval y)).run P w= .ok ln w:=by
  generalize a.eval y=q at*;cases q<;>simp[ai4]at hln<;>simp[gO,hln]
 obtain⟨i,hi,hib⟩:=Option.map_eq_some_iff.1 hb;have hinfo: ∀w:World,(typeInfo d).run P w= .ok i w:=fun w=>by simp[typeInfo,hi]
 have e1:(#[Value.slice p' sl sc,a.eval y]:Array Value)[0]?=some (.slice p' sl sc):=rfl;have e2:(#[Value.slice p' sl sc,a.eval y]:Array Value)[1]?=some (a.eval y):=rfl;have e3:(#[st,xt]:Array TypeId)[0]?=some st:=rfl;have e4:(#[st,xt]:Array TypeId)[1]?=some xt:=rfl;refine⟨fun hfit=> ?_,fun hgrow hbytes hmax old hold hnew=> ?_⟩
 ·rw[hrun];rcases hxt with⟨q,hdd⟩|hdd
  all_goals
   simp only[builtin,gN,aZ5 ha,aZ5 ht,gB,fB,fD,hq,e1,e2,e3,e4,bB,eo hu,eo hdd,aD,mU hn,cD,eD,if_false,hlr,Bool.not_false,if_true];rw[zE hfit];simp only[bB,harr,aD];rfl
 ·obtain⟨zz,z1,z2,z3⟩:=mK hz;refine⟨grownCap w (sl+ln) sc d,grownCap_ge _ _ _ _,zz,z2, ?_⟩;have hfits:=growslice_fits hgrow hbytes;rw[hrun];rcases hxt with⟨q,hdd⟩|hdd
  all_goals
   simp only[builtin,gN,aZ5 ha,aZ5 ht,gB,fB,fD,hq,e1,e2,e3,e4,bB,eo hu,eo hdd,aD,mU hn,cD,eD,if_false,hlr,Bool.not_false,if_true];rw[zF (by omega)];simp only[bB,hinfo,aD,hib,false_or]
   have h63: ¬(((sl+ln:Nat):Int) > IntKind.i64.max∧by_=0):=by
    have:IntKind.i64.max=9223372036854775807:=by decide
    omega
   rw[zF h63];simp only[bB,hinfo,aD,hib];rw[zF (by omega)];simp only[bB,run_choose,Question.forced,eD,if_false,World.drew_eq,aD,hinfo,run_askRoom,hold,hnew,z1,newRow,run_newObj,cD,World.alloc_eq];rfl
theorem xg (z:Array Value)(n:Nat):(bD z n).size=n*z.size:=by simp[bD]
theorem ae1 (σ:Hp)(hR:R B μ σ w):R B μ σ w.drew:=hR.same rfl
theorem cz5 {α:Type}(A M T:List α):(A++(M++T)).take (A.length+M.length)=A++M:=by
 rw[←gT,←dB,gP]
theorem aM1 {x:Blk}{o n:Nat}{cs:List Value}(h:pv x o n=some cs):cs.length=n:=by
 unfold pv at h;split at h
 ·injection h with h
  subst h;simp;omega
 ·cases h
theorem cn8 {es n:Nat}{x:Value}{cs:List Value}(h:σ.slice es x n=some cs)(hs: ∀s,x= .string s→n≤s.size):cs.length=n*es:=by
 unfold Hp.slice at h;split at h
 ·split at h
  ·rename_i hn;injection h with h;subst h hn;simp
  split at h
  ·exact aM1 h
  ·cases h
 ·split at h
  ·rename_i hn;injection h with h;subst h hn;simp
  ·cases h
 ·rename_i s;split at h
  case isFalse=>cases h
  rename_i h2;injection h with h
  subst h;have h1:=hs s rfl;subst h2;simp;omega
 ·cases h
theorem R.moved (hR:R B μ σ w){b:Nat}{blk:Blk}{g:G}(hblk:σ.m b=some blk)(hown:blk.own=true)(hg:μ.at b g){off n:Nat}{cells:List Value}{cur:Array Value}{t:TypeId}
  (hlt:w.heap.size=w'.heap.size) (hnew:w'.heap[g.c]?=some (.cells cur t (0,0))) (hoth: ∀k,k≠g.c→w'.heap[k]?=w.heap[k]?) (hsz:g.o+g.ext≤cur.size) (hfit:off+cells.length≤g.ext)
  (hc:F2 (VR μ) cells ((cur.toList.drop (g.o+off)).take cells.length)):
  R B (μ.add σ.n ⟨g.c,g.o+off,g.ext-off,n,t,none⟩) ((σ.set b none).add ⟨cells,true,n⟩) w'∧μ.le (μ.add σ.n ⟨g.c,g.o+off,g.ext-off,n,t,none⟩):=by
 have hf:μ σ.n=none:=hR.fresh _ (cB _);have hle':μ.le (μ.add σ.n ⟨g.c,g.o+off,g.ext-off,n,t,none⟩):=Mu.le_add hf;have hl:=hR.get hblk hg.1;obtain⟨o1,o2,_⟩:=hl.own hg.2 hown;have hbn:b≠σ.n:=fun e=>by have:=hg.1;rw[e,hf]at this;cases this
 have old: ∀b' x,b'≠σ.n→((σ.set b none).add ⟨cells,true,n⟩).m b'=some x→σ.m b'=some x∧b'≠b:=by
  intro b' x hb hx;have hb2:b'≠(σ.set b none).n:=hb;simp only[Hp.add,zF hb2]at hx;simp only[Hp.set]at hx;split at hx
  ·cases hx
  ·rename_i h;exact⟨hx,h⟩
 have new: ∀x,((σ.set b none).add ⟨cells,true,n⟩).m σ.n=some x→x=⟨cells,true,n⟩:=by
  intro x hx;have hb2:σ.n=(σ.set b none).n:=rfl;simp only[Hp.add,zE hb2]at hx;exact(Option.some.inj hx).symm
 refine⟨⟨by rw[←hlt];exact hR.base,fun k hk=>(hoth k (by omega)).trans (hR.old k hk),fun b' hb=> ?_,fun b' x hx=> ?_,fun b1 b2 x x' g1 g2 hx hx' hne ho hg1 hg2=> ?_, ?_⟩,hle'⟩
 ·have:σ.n+1≤b':=hb;unfold Mu.add;rw[zF (by omega)];exact hR.fresh b' (by omega)
 ·by_cases hb:b'=σ.n
  ·subst hb;obtain rfl:=new x hx;refine⟨⟨g.c,g.o+off,g.ext-off,n,t,none⟩,by simp[Mu.add],⟨by rw[←hlt];exact hl.lt,rfl,fun _ i v hv=> ?_,fun _ _=>⟨o1,by simp;omega,cur,t,hnew,by simp;omega⟩,fun _ hs=>(by cases hs),fun hs=>by cases hs⟩⟩;obtain⟨v',h1,h2⟩:=hc.get i v hv
   have hi:i<cells.length:=by
    rcases Nat.lt_or_ge i cells.length with h3|h3
    ·exact h3
    ·simp[gV h3]at hv
   refine⟨v', ?_,h2.mono hle'⟩;rw[cell_of_row _ _ _ cur t (0,0) hnew];rw[gS,zE hi,gR]at h1;simpa using h1
  ·obtain⟨hx',hbb⟩:=old b' x hb hx;obtain⟨g',h1,h2⟩:=hR.live b' x hx';have hne:g'.c≠g.c:=fun e=>hR.inj b b' blk x g g' hblk hx' (fun e=>hbb e.symm) hown hg.1 h1 e.symm
   exact⟨g',hle' _ _ h1,(hR.stays hx' h1 (by rw[hlt];exact cB _) g.c (fun k hk _=>hoth k hk) hne (fun hi hk=>(hR.sep b' x g' hx' h1 hi _ hk b blk g hblk hg.1).1 rfl)).mono hle'⟩
 ·by_cases hb:b1=σ.n
  ·subst hb;have hb':b2≠σ.n:=fun e=>hne e.symm
   have e1:g1.c=g.c:=by simp[Mu.add]at hg1;rw[←hg1]
   have h2:μ b2=some g2:=by simpa[Mu.add,hb']using hg2
   obtain⟨hx2,hb2⟩:=old b2 x' hb' hx';rw[e1];exact hR.inj b b2 blk x' g g2 hblk hx2 (fun e=>hb2 e.symm) hown hg.1 h2
  ·have h1:μ b1=some g1:=by simpa[Mu.add,hb]using hg1
   obtain⟨hx1,hb1⟩:=old b1 x hb hx;by_cases hb':b2=σ.n
   ·subst hb';have e1:g2.c=g.c:=by simp[Mu.add]at hg2;rw[←hg2]
    rw[e1];exact fun e=>hR.inj b b1 blk x g g1 hblk hx1 (fun e=>hb1 e.symm) hown hg.1 h1 e.symm
   ·have h2:μ b2=some g2:=by simpa[Mu.add,hb']using hg2
    exact hR.inj b1 b2 x x' g1 g2 hx1 (old _ _ hb' hx').1 hne ho h1 h2
 ·refine hR.sep.of (fun b' x g' hx hg'=> ?_) (fun b' x g' hx hg' hi hl'=> ?_)
  ·by_cases hb:b'=σ.n
   ·subst hb;have e1:g'=⟨g.c,g.o+off,g.ext-off,n,t,none⟩:=by simp[Mu.add]at hg';exact hg'.symm
    subst e1;exact .inr ⟨fun h0=>(by cases h0),fun b1 x1 g1 k h1 h2 h3 h4=>(hR.sep b1 x1 g1 h1 h2 h3 k h4 b blk g hblk hg.1).1⟩
   ·exact .inl ⟨x,(old b' x hb hx).1,by simpa[Mu.add,hb]using hg'⟩
  ·have hbb:b'≠b:=fun e=>by subst e;rw[hg.1]at hg';injection hg' with hg';subst hg';rw[hg.2]at hi;cases hi
   unfold pn;rw[hoth _ (fun e=>hR.inj b b' blk x g g' hblk hx (fun e=>hbb e.symm) hown hg.1 hg' e.symm)]
theorem aQ3 {x:Operand}{d:TypeId}{n by_:Nat}{z:List Value}{p:Option Addr}{sl sc ln:Nat}{new:List Value}{arr:Array Value}(hzn:z.length=n)(f2:F2 (VR μ) new arr.toList)(hlen:new.length=ln*n)
  (hp:e.ev x= .slice p sl sc) (hx:dn x=true) (hr:ny n by_ σ p sl sc ln new=some (v,σ')) (he:fp μ N e a.tmps) (hR:R B μ σ w)
  (hhead: ∀{p':Option Addr} {sc':Nat},a.eval x= .slice p' sl sc'→(sl+ln≤sc'→(execOp a.eval o).run P w=((do
    if let some a:=p' then storeCells (a.add (sl*n)) arr.toList
    pure (.slice p' (sl+ln) sc'):Sem Value).run P w).andThen fun v w=> .ok (.value v) w)∧
   (sc'<sl+ln→(sl+ln)*by_≤140737488355328→sl+ln≤9223372036854775807→∀old:Array Value,(aB n sl (.slice p' sl sc')).run P w.drew= .ok old w.drew→
    ∃cap,sl+ln≤cap∧∃zz:Value,cellsOf zz=z∧(execOp a.eval o).run P w= .ok (.value (.slice (some ⟨w.heap.size,0,none⟩) (sl+ln) cap)) (w.drew.alloc (.cells (old++arr++bD zz.cells (cap-(sl+ln))) d)))):jS P o a w B μ v σ':=by
 have hvx:=he.ev hx;rw[hp]at hvx;unfold ny at hr;split at hr
 ·rename_i hfit;split at hr
  ·rename_i b off
   have hcase: ∃p' sc',a.eval x= .slice p' sl sc'∧sc≤sc'∧VR μ (.slice (some ⟨b,off,none⟩) (sl+ln) sc) (.slice p' (sl+ln) sc')∧(new≠[]→∃g,μ.at b g∧p'=some ⟨g.c,g.o+off,none⟩):=by
    rcases hvx.slice_inv with⟨g,c',hg,h1,h2,h3,hv⟩|⟨h1,h2,A',hv,g0,hg0⟩
    ·exact⟨_,c',hv,h2, .slice hg hfit h2 h3,fun _=>⟨g,hg,rfl⟩⟩
    ·subst h1 h2;have:ln=0:=by omega
     subst this;exact⟨_,0,hv,cB _, .slice0 _ hg0,fun hne=>absurd (List.eq_nil_of_length_eq_zero (by simpa using hlen)) hne⟩
   obtain⟨p',sc',hq,hle,hvr,hwhere⟩:=hcase;obtain⟨head,_⟩:=hhead hq;have head:=head (by omega);split at hr
   ·rename_i hn0;simp only[Option.some.injEq,Prod.mk.injEq]at hr;obtain⟨rfl,rfl⟩:=hr;subst hn0;have:=aD4 f2;subst this;refine .same hR ?_ hvr;rw[head];cases p'<;>simp[storeCells]
   ·rename_i hn0;split at hr
    ·rename_i blk hblk;split at hr
     ·rename_i blk' hw;simp only[Option.some.injEq,Prod.mk.injEq]at hr;obtain⟨rfl,rfl⟩:=hr;obtain⟨k1,k2,k3,rfl⟩:=aR5 hw;obtain⟨g,hg,rfl⟩:=hwhere hn0;obtain⟨w',g1,g2,g3⟩:=R.writes _ _ f2 k3 σ w b (off+sl*n) 0 blk g hR hblk k1 hg (by omega);refine⟨_,w',μ,_, ?_, .inl rfl,μ.le_refl,g2,hvr,g3⟩;rw[head];simp[qs,Nat.add_assoc];simp[g1]
     ·cases hr
    ·cases hr
  ·split at hr
   ·rename_i hn0;obtain⟨hn0,h1,h2,h3⟩:=hn0;simp only[Option.some.injEq,Prod.mk.injEq]at hr;obtain⟨rfl,rfl⟩:=hr;subst h1 h2 h3 hn0;obtain⟨hq,_,_⟩:=hvx.nils_inv;have:=aD4 f2;subst this;obtain⟨head,_⟩:=hhead hq;refine .same hR ?_ .nils;rw[head (by omega)];simp
   ·cases hr
  ·cases hr
 ·rename_i hfit;split at hr
  ·rename_i hbig;obtain⟨hb1,hb2,hall⟩:=hbig;have hone: ∀u∈new,one u=true:=fun u hu=>List.all_eq_true.1 hall u hu
   split at hr
   ·rename_i b off;split at hr
    ·rename_i blk hblk;split at hr
     ·rename_i hown;split at hr
      ·rename_i old hold;simp only[Option.some.injEq,Prod.mk.injEq]at hr;obtain⟨rfl,rfl⟩:=hr;have holdlen:=aM1 hold
       have hcase: ∃p' sc',a.eval x= .slice p' sl sc'∧sc≤sc'∧(∃oa:Array Value,(aB n sl (.slice p' sl sc')).run P w.drew= .ok oa w.drew∧F2 (VR μ) old oa.toList)∧
         (sl+ln≤sc'→∃g,μ.at b g∧p'=some ⟨g.c,g.o+off,none⟩∧off+sc'*g.es≤g.ext):=by
        rcases hvx.slice_inv with⟨g,c',hg,h1,h2,h3,hv⟩|⟨h1,h2,A',hv,g0,hg0⟩
        ·obtain⟨cs',r1,r2⟩:=(ae1 σ hR).reads hblk hg hold;exact⟨_,c',hv,h2,⟨cs'.toArray,by simp[aB,r1 P w.drew rfl],r2⟩,fun _=>⟨g,hg,rfl,h3⟩⟩
        ·subst h1 h2;rw[Nat.zero_mul]at hold;have:=be7 hold;subst this;exact⟨_,0,hv,cB _,⟨#[],by simp[aB,loadCells,loadCellsFrom], .nil⟩,fun h=>absurd h (by omega)⟩
       obtain⟨p',sc',hq,hle,⟨oa,q1,q2⟩,hin⟩:=hcase;by_cases hin':sl+ln≤sc'
       ·
        obtain⟨head,_⟩:=hhead hq;have head:=head hin';obtain⟨g,hg,rfl,hext⟩:=hin hin';have hlv:=hR.get hblk hg.1;obtain⟨o1,o2,cur,t,o3,o4⟩:=hlv.own hg.2 hown.1;have hes:g.es=n:=hlv.es.trans hown.2;rw[hes]at hext;have hsum:(sl+ln)*n≤sc'*n:=gQ _ hin';rw[dD]at hsum;have harl:arr.toList.length=ln*n:=by rw[←f2.length,hlen]
        have hone': ∀u∈arr.toList,u.oneCell'=true:=by
         intro u hu;obtain⟨i,hi,he'⟩:=List.getElem_of_mem hu;obtain⟨u',h1,h2⟩:=f2.get i (new[i]'(by rw[hlen,←harl];exact hi)) (gU _);rw[gU hi]at h1;injection h1 with h1
         rw[←he',h1,←h2.one_iff];exact hone _ (List.getElem_mem _)
        have hst:=run_storeCells_at (P:=P) g.c (g.o+off+sl*n) t arr.toList 0 cur w o3 (by omega) hone';rw[Nat.add_zero]at hst;have hrow:=setRow_heap w g.c cur (cur.toList.take (g.o+off+sl*n)++arr.toList++cur.toList.drop (g.o+off+sl*n+arr.toList.length)).toArray t (0,0) o3
        have hold':F2 (VR μ) old ((cur.toList.drop (g.o+off)).take (sl*n)):=by
         obtain⟨cs',r1,r2⟩:=hR.reads hblk hg hold;refine F2.of_get _ _ (by rw[holdlen];simp;omega) fun i u u' hu hu'=> ?_
         have hi:i<sl*n:=by
          rcases Nat.lt_or_ge i (sl*n)with h3|h3
          ·exact h3
          ·rw[gV (by omega)]at hu;cases hu
         unfold pv at hold;split at hold
         ·injection hold with hold
          rw[←hold,gS,zE hi,gR]at hu;obtain⟨u'',h1,h2⟩:=hlv.cell hg.2 (off+i) u hu;rw[cell_of_row _ _ _ cur t (0,0) o3]at h1;rw[gS,zE hi,gR]at hu'
          have:u'=u'':=by
           have e1:cur[g.o+(off+i)]?=some u':=by rw[←Array.getElem?_toList,←Nat.add_assoc];exact hu'
           rw[e1]at h1;exact Option.some.inj h1
          rw[this];exact h2
         ·cases hold
        have hcells:F2 (VR μ) (old++new) (((cur.toList.take (g.o+off+sl*n)++arr.toList++cur.toList.drop (g.o+off+sl*n+arr.toList.length)).toArray.toList.drop (g.o+off)).take (old++new).length):=by
         have:((cur.toList.take (g.o+off+sl*n)++arr.toList++cur.toList.drop (g.o+off+sl*n+arr.toList.length)).toArray.toList.drop (g.o+off)).take (old++new).length=((cur.toList.drop (g.o+off)).take (sl*n))++arr.toList:=by
          rw[dB,holdlen,hlen,gT];rw[List.drop_append_of_le_length (by simp;omega)];rw[List.drop_take,show g.o+off+sl*n-(g.o+off)=sl*n from by omega];have e1:((cur.toList.drop (g.o+off)).take (sl*n)).length=sl*n:=by simp;omega
          have e2:=cz5 ((cur.toList.drop (g.o+off)).take (sl*n)) arr.toList (cur.toList.drop (g.o+off+sl*n+arr.toList.length));rw[e1,harl]at e2;rw[harl];exact e2
         rw[this];exact hold'.append f2
        obtain⟨m1,m2⟩:=R.moved (w':=w.setRow g.c (cur.toList.take (g.o+off+sl*n)++arr.toList++cur.toList.drop (g.o+off+sl*n+arr.toList.length)).toArray) (n:=n) hR hblk hown.1 hg (by simp) hrow (fun k hk=>setRow_other _ _ _ _ hk) (by simp;omega) (by rw[dB,holdlen,hlen];omega) hcells;refine⟨_,_,_,_, ?_, .inl rfl,m2,m1, .slice (o:=0) (g:=⟨g.c,g.o+off,g.ext-off,n,t,none⟩) ⟨by simp[Mu.add],rfl⟩ (cB _) hin' (by simp;omega), ?_⟩
        ·rw[head];simp only[qs];simp only[bB,hst,aD,cD];rfl
        ·refine⟨rfl,rfl,rfl,by simp,fun k hk=>setRow_other _ _ _ _ (by omega)⟩
       ·
        obtain⟨_,head⟩:=hhead hq;obtain⟨cap,hcap,zz,hzz,hrun⟩:=head (by omega) hb1 hb2 oa q1;have hdrew:=ae1 σ hR;have hzs:zz.cells.size=n:=by rw[←hzn,←hzz];simp[cellsOf]
        have hoal:oa.toList.length=sl*n:=by rw[←q2.length,holdlen]
        have harl:arr.toList.length=ln*n:=by rw[←f2.length,hlen]
        have hcs:(oa++arr++bD zz.cells (cap-(sl+ln))).size=cap*n:=by
         have hoas:oa.size=sl*n:=by simpa using hoal
         have hars:arr.size=ln*n:=by simpa using harl
         rw[Array.size_append,Array.size_append,xg,hzs,hoas,hars,←dD,←dD]
         congr 1
         omega
        have hk:=hdrew.kill b
        obtain⟨m1,m2⟩:=hk.add (oa++arr++bD zz.cells (cap-(sl+ln))) d (old++new) n (by rw[dB,holdlen,hlen,hcs,←dD];exact gQ _ hcap) (by
         have:((oa++arr++bD zz.cells (cap-(sl+ln))).toList).take (old++new).length=oa.toList++arr.toList:=by
          rw[dB,holdlen,hlen,←hoal,←harl,←dB];simp only[Array.toList_append];exact gP
         rw[this]
         exact q2.append f2)
        refine⟨_,_,_,_,hrun, .inl rfl,m2,m1, .slice (o:=0) (g:=⟨w.drew.heap.size,0,_,n,_,none⟩) ⟨by unfold Mu.add;exact zE rfl,rfl⟩ (cB _) hcap (by simp only[gD];rw[hcs];exact cB _), ?_⟩;exact((Below.refl _ _).drew).alloc hR.base _
      ·cases hr
     ·cases hr
    ·cases hr
   ·split at hr
    ·rename_i hsl;subst hsl;simp only[Option.some.injEq,Prod.mk.injEq]at hr;obtain⟨rfl,rfl⟩:=hr;obtain⟨hq,_,hsc⟩:=hvx.nils_inv;subst hsc;obtain⟨_,head⟩:=hhead hq;obtain⟨cap,hcap,zz,hzz,hrun⟩:=head (by omega) hb1 hb2 #[] (by simp[aB]);rw[gD]at hcap hrun;have hdrew:=ae1 σ hR;have hzs:zz.cells.size=n:=by rw[←hzn,←hzz];simp[cellsOf]
     have harl:arr.toList.length=ln*n:=by rw[←f2.length,hlen]
     have hcs:((#[]:Array Value)++arr++bD zz.cells (cap-ln)).size=cap*n:=by
      have hars:arr.size=ln*n:=by simpa using harl
      rw[Array.size_append,Array.size_append,xg,hzs,hars,Array.size_empty,gD,←dD]
      congr 1
      omega
     obtain⟨m1,m2⟩:=hdrew.add ((#[]:Array Value)++arr++bD zz.cells (cap-ln)) d new n (by rw[hlen,hcs];exact gQ _ hcap) (by
      have:(((#[]:Array Value)++arr++bD zz.cells (cap-ln)).toList).take new.length=arr.toList:=by
       rw[hlen,←harl];simp only[Array.toList_append,List.nil_append];exact gP
      rw[this]
      exact f2)
     refine⟨_,_,_,_,hrun, .inl rfl,m2,m1, ?_,((Below.refl _ _).drew).alloc hR.base _⟩;exact .slice (o:=0) (g:=⟨w.drew.heap.size,0,_,n,_,none⟩) ⟨by unfold Mu.add;exact zE rfl,rfl⟩ (cB _) hcap (by rw[hcs];show 0+cap*n≤cap*n;omega)
    ·cases hr
   ·
    rename_i b off q
    have hcase: ∃p',a.eval x= .slice p' sl sc∧sl=sc∧(sl≠0→∃g,μ.at b g∧p'=some ⟨g.c,g.o+off,none⟩):=by
     generalize hq:a.eval x=q' at hvx;cases hvx with
     |sliceX h1 h2=>exact⟨_,rfl,rfl,fun _=>⟨_,h1,rfl⟩⟩
     |sliceX0 A' h1=>exact⟨_,rfl,rfl,fun h=>(h rfl).elim⟩
    obtain⟨p',hq,hsc,hgo⟩:=hcase;have hdrew:=ae1 σ hR
    have hfin: ∀(old:List Value) (oa:Array Value),old.length=sl*n→(aB n sl (.slice p' sl sc)).run P w.drew= .ok oa w.drew→F2 (VR μ) old oa.toList→
      jS P o a w B μ (.slice (some ⟨σ.n,0,none⟩) (sl+ln) (sl+ln)) (σ.add ⟨old++new,true,n⟩):=by
     intro old oa holdlen q1 q2;obtain⟨_,head⟩:=hhead hq;obtain⟨cap,hcap,zz,hzz,hrun⟩:=head (by omega) hb1 hb2 oa q1;have hzs:zz.cells.size=n:=by rw[←hzn,←hzz];simp[cellsOf]
     have hoal:oa.toList.length=sl*n:=by rw[←q2.length,holdlen]
     have harl:arr.toList.length=ln*n:=by rw[←f2.length,hlen]
     have hcs:(oa++arr++bD zz.cells (cap-(sl+ln))).size=cap*n:=by
      have hoas:oa.size=sl*n:=by simpa using hoal
      have hars:arr.size=ln*n:=by simpa using harl
      rw[Array.size_append,Array.size_append,xg,hzs,hoas,hars,←dD,←dD]
      congr 1
      omega
     obtain⟨m1,m2⟩:=hdrew.add (oa++arr++bD zz.cells (cap-(sl+ln))) d (old++new) n (by rw[dB,holdlen,hlen,hcs,←dD];exact gQ _ hcap) (by
      have:((oa++arr++bD zz.cells (cap-(sl+ln))).toList).take (old++new).length=oa.toList++arr.toList:=by
       rw[dB,holdlen,hlen,←hoal,←harl,←dB];simp only[Array.toList_append];exact gP
      rw[this]
      exact q2.append f2)
     refine⟨_,_,_,_,hrun, .inl rfl,m2,m1, .slice (o:=0) (g:=⟨w.drew.heap.size,0,_,n,_,none⟩) ⟨by unfold Mu.add;exact zE rfl,rfl⟩ (cB _) hcap (by simp only[gD];rw[hcs];exact cB _), ?_⟩;exact((Below.refl _ _).drew).alloc hR.base _
    split at hr
    ·rename_i hsl;simp only[Option.some.injEq,Prod.mk.injEq]at hr;obtain⟨rfl,rfl⟩:=hr;have:=hfin [] #[] (by rw[hsl];simp) (by rw[hsl];cases p'<;>simp[aB,loadCells,loadCellsFrom]) .nil;rw[hsl,gD]at this;exact this
    ·rename_i hsl;split at hr
     ·rename_i blk hblk;split at hr
      ·split at hr
       ·rename_i old hold;simp only[Option.some.injEq,Prod.mk.injEq]at hr;obtain⟨rfl,rfl⟩:=hr;obtain⟨g,hg,rfl⟩:=hgo hsl;obtain⟨cs',r1,r2⟩:=hdrew.reads hblk hg hold;exact hfin old cs'.toArray (aM1 hold) (by simp[aB,r1 P w.drew rfl]) r2
       ·cases hr
      ·cases hr
     ·cases hr
  ·cases hr
theorem br2 {c:Call}{x y:Operand}{st xt d:TypeId}{n by_:Nat}{z:List Value}(ho:o.op= .call c)(hc:c.callee= .builtin .append)(ha:c.args.toList=[x,y])(ht:c.argTypes.toList=[st,xt])(hu:P.underlying st=some (.slice d))
  (hxt:(∃q,P.underlying xt=some (.slice q))∨P.underlying xt=some .string) (hn:mf P d=some n) (hb:bK9 P d=some by_) (hz:oq P d=some z) (hzn:z.length=n)
  (hx:dn x=true) (hy:dn y=true) (hr:(AOp.append n by_ x y).run e σ=some (v,σ')) (he:fp μ N e a.tmps) (hR:R B μ σ w):jS P o a w B μ v σ':=by
 have hvy:=he.ev hy;simp only[AOp.run]at hr;split at hr
 ·rename_i p sl sc hp;split at hr
  ·rename_i ln hln;have hln':=ce5 hln hvy;split at hr
   ·rename_i new hnew;obtain⟨arr,f0,f2⟩:=tB (P:=P) hln (cB _) hnew hR hvy;have f1:=f0 w rfl;have f1d:=f0 w.drew rfl;have hxt':=hxt
    have hlen:new.length=ln*n:=cn8 hnew fun s hs=>by
     rw[hs]at hln;simp[ai4]at hln;omega
    exact aQ3 hzn f2 hlen hp hx hr he hR fun hq=>by
     obtain⟨h1,h2⟩:=bK5 ho hc ha ht hu hxt' hn hb hz hq hln' f1;exact⟨h1,fun q1 q2 q3 old q4=>h2 q1 q2 q3 old q4 f1d⟩
   ·cases hr
  ·cases hr
 ·cases hr
theorem bB6 {c:Call}{x y:Operand}{st xt d:TypeId}{n by_:Nat}{z:List Value}(ho:o.op= .call c)(hc:c.callee= .builtin .append)(ha:c.args.toList=[x,y])(ht:c.argTypes.toList=[st,xt])(hu:P.underlying st=some (.slice d))
  (hxt: ∃q,P.underlying xt=some (.int q)) (hn:mf P d=some n) (hb:bK9 P d=some by_) (hz:oq P d=some z) (hzn:z.length=n) (h0:0<n)
  {p':Option Addr} {sl sc:Nat} {k:IntKind} {l:Int} (hq:a.eval x= .slice p' sl sc) (hl:a.eval y= .int k l) (l0:0≤l) (l1:l≤9223372036854775807) (l2:l*by_≤281474976710656):
  (sl+l.toNat≤sc→(execOp a.eval o).run P w=((do
    if let some a:=p' then storeCells (a.add (sl*n)) (fd z l.toNat).toArray.toList
    pure (.slice p' (sl+l.toNat) sc):Sem Value).run P w).andThen fun v w=> .ok (.value v) w)∧
  (sc<sl+l.toNat→(sl+l.toNat)*by_≤140737488355328→sl+l.toNat≤9223372036854775807→∀old:Array Value,(aB n sl (.slice p' sl sc)).run P w.drew= .ok old w.drew→
   ∃cap,sl+l.toNat≤cap∧∃zz:Value,cellsOf zz=z∧(execOp a.eval o).run P w= .ok (.value (.slice (some ⟨w.heap.size,0,none⟩) (sl+l.toNat) cap)) (w.drew.alloc (.cells (old++(fd z l.toNat).toArray++bD zz.cells (cap-(sl+l.toNat))) d))):=by
 obtain⟨cst,hrun⟩:=ip (P:=P) (a:=a) ho hc w;obtain⟨i,hi,hib⟩:=Option.map_eq_some_iff.1 hb;have hinfo: ∀w:World,(typeInfo d).run P w= .ok i w:=fun w=>by simp[typeInfo,hi]
 have e1:(#[Value.slice p' sl sc,Value.int k l]:Array Value)[0]?=some (.slice p' sl sc):=rfl;have e2:(#[Value.slice p' sl sc,Value.int k l]:Array Value)[1]?=some (.int k l):=rfl;have e3:(#[st,xt]:Array TypeId)[0]?=some st:=rfl;have e4:(#[st,xt]:Array TypeId)[1]?=some xt:=rfl;obtain⟨zz,z1,z2,z3⟩:=mK hz;obtain⟨q,hdd⟩:=hxt;have w1:IntKind.i64.wrap l=l:=IntWalk.i64_in _ (by omega);have hzs:zz.cells.size=n:=by rw[←hzn,←z2];simp[cellsOf]
 have hzl:zz.cells.toList=z:=z2
 have happ: ∀w:World,((if l.toNat*n=0 then pure #[]else do pure (bD (←zeroValue d).cells l.toNat)):Sem (Array Value)).run P w= .ok (fd z l.toNat).toArray w:=by
  intro w;by_cases hcn:l.toNat*n=0
  ·have hc0:l.toNat=0:=by
    rcases Nat.mul_eq_zero.1 hcn with h|h
    ·exact h
    ·omega
   have:(fd z l.toNat)=[]:=by rw[hc0];rfl
   rw[zE hcn,this];simp
  ·rw[zF hcn]
   have hcc:bD zz.cells l.toNat=(fd z l.toNat).toArray:=by
    unfold bD;rw[←hzl,←bh6 _ _ (by omega)]
   simp only[bB,z1,cD,aD,hcc]
 refine⟨fun hfit=> ?_,fun hgrow hbytes hmax old hold=> ?_⟩
 ·rw[hrun];simp only[builtin,gN,aZ5 ha,aZ5 ht,gB,fB,fD,hq,hl,e1,e2,e3,e4,bB,eo hu,eo hdd,aD,mU hn,cD,eD,if_false,asInt,asIntOf,w1,Bool.not_true,if_true];rw[zF (by omega)];simp only[bB,hinfo,aD,hib];rw[zF (by omega)];simp only[bB,cD,aD];rw[zE hfit];simp only[bB,happ,aD];rfl
 ·refine⟨grownCap w (sl+l.toNat) sc d,grownCap_ge _ _ _ _,zz,z2, ?_⟩;have hfits:=growslice_fits hgrow hbytes;rw[hrun];simp only[builtin,gN,aZ5 ha,aZ5 ht,gB,fB,fD,hq,hl,e1,e2,e3,e4,bB,eo hu,eo hdd,aD,mU hn,cD,eD,if_false,asInt,asIntOf,w1,Bool.not_true,if_true];rw[zF (by omega)];simp only[bB,hinfo,aD,hib];rw[zF (by omega)];simp only[bB,cD,aD];rw[zF (by omega)];simp only[bB,hinfo,aD,true_or,and_true]
  have h63: ¬((sl+l.toNat:Nat):Int) > IntKind.i64.max:=by
   have:IntKind.i64.max=9223372036854775807:=by decide
   omega
  rw[zF h63];simp only[bB,hinfo,aD,hib];rw[zF (by omega)];simp only[bB,run_choose,Question.forced,eD,if_false,World.drew_eq,aD,hinfo,run_askRoom,hold,happ,z1,newRow,run_newObj,cD,World.alloc_eq];rfl
theorem bY8 {c:Call}{x y:Operand}{st xt d:TypeId}{n by_:Nat}{z:List Value}(ho:o.op= .call c)(hc:c.callee= .builtin .append)(ha:c.args.toList=[x,y])(ht:c.argTypes.toList=[st,xt])(hu:P.underlying st=some (.slice d))
  (hxt: ∃q,P.underlying xt=some (.int q)) (hn:mf P d=some n) (hb:bK9 P d=some by_) (hz:oq P d=some z) (hzn:z.length=n) (h0:0<n)
  (hx:dn x=true) (hy:dn y=true) (hr:(AOp.appendZ n by_ z x y).run e σ=some (v,σ')) (he:fp μ N e a.tmps) (hR:R B μ σ w):jS P o a w B μ v σ':=by
 have hvy:=he.ev hy;obtain⟨zz,z1,z2,z3⟩:=mK hz;simp only[AOp.run]at hr;split at hr
 ·rename_i p sl sc k l hp hq;split at hr
  ·rename_i hcond;rw[hq]at hvy;have v1:=hvy.int_inv;refine aQ3 (d:=d) (arr:=(fd z l.toNat).toArray) hzn (by simpa using VR.plainCells (ap8 z3 _)) (by simp[vO,hzn]) hp hx hr he hR fun hq'=> ?_
   exact bB6 ho hc ha ht hu hxt hn hb hz hzn h0 hq' v1 hcond.1 hcond.2.1 hcond.2.2
  ·cases hr
 ·cases hr
end
end
section
open Builtin renaming firstCells → aD
open Nat renaming le_refl → aB, lt_of_lt_of_le → bB
open Go.RowKit
section
variable {P:Program} {o:Oper} {a:Act} {w w':World} {B:Base P} {N:Nat} {μ:Mu} {e:dh} {σ σ':Hp} {v:Value}
theorem R.iter (h:R B μ σ w)(s:ByteArray):R B (μ.add σ.n ⟨w.heap.size,0,0,1,0,some (.string s)⟩) (σ.add ⟨[.int .i64 0],true,1⟩) (w.iter s 0)∧μ.le (μ.add σ.n ⟨w.heap.size,0,0,1,0,some (.string s)⟩):=by
 have hf:μ σ.n=none:=h.fresh _ (aB _);have hle':μ.le (μ.add σ.n ⟨w.heap.size,0,0,1,0,some (.string s)⟩):=Mu.le_add hf
 have old: ∀b x,b≠σ.n→(σ.add ⟨[.int .i64 0],true,1⟩).m b=some x→σ.m b=some x:=by
  intro b x hb hx;simpa[Hp.add,hb]using hx
 have new: ∀x,(σ.add ⟨[.int .i64 0],true,1⟩).m σ.n=some x→x=⟨[.int .i64 0],true,1⟩:=by
  intro x hx;simp[Hp.add]at hx;exact hx.symm
 have oldlt: ∀b x g,σ.m b=some x→μ b=some g→g.c<w.heap.size:=fun b x g hx hg=>(h.get hx hg).lt
 have hsz:(w.iter s 0).heap.size=w.heap.size+1:=by simp[World.iter]
 refine⟨⟨by rw[hsz];exact Nat.le_succ_of_le h.base,fun k hk=>(Below.heap_alloc w _ _ (bB hk h.base)).trans (h.old k hk),fun b hb=> ?_,fun b x hx=> ?_,fun b b' x x' g g' hx hx' hne ho hg hg'=> ?_, ?_⟩,hle'⟩
 ·have:σ.n+1≤b:=hb;unfold Mu.add;rw[zF (by omega)];exact h.fresh b (by omega)
 ·by_cases hb:b=σ.n
  ·subst hb;obtain rfl:=new x hx
   exact⟨⟨w.heap.size,0,0,1,0,some (.string s)⟩,by simp[Mu.add],⟨by rw[hsz];exact Nat.lt_succ_self _,rfl,fun h0=>(by cases h0),fun h0=>(by cases h0),fun s' hs=>by
    injection hs with hs
    injection hs with hs
    subst hs
    exact⟨h.base,0,rfl,World.iter_heap w s 0⟩,fun hs=>by injection hs with hs;cases hs⟩⟩
  ·have hx':=old b x hb hx;obtain⟨g,h1,h2⟩:=h.live b x hx';exact⟨g,hle' _ _ h1,(h2.mono hle').kept (by rw[hsz];exact Nat.le_succ _) (Below.heap_alloc w _ _ h2.lt) (fun hi k hk=>Below.heap_alloc w _ _ (h.buf hx' h1 hi hk).2.1)⟩
 ·by_cases hb:b=σ.n
  ·subst hb;have hb':b'≠σ.n:=fun e=>hne e.symm
   have:g.c=w.heap.size:=by simp[Mu.add]at hg;rw[←hg]
   have h2:μ b'=some g':=by simpa[Mu.add,hb']using hg'
   have:=oldlt b' x' g' (old _ _ hb' hx') h2;omega
  ·have h1:μ b=some g:=by simpa[Mu.add,hb]using hg
   have hx1:=old b x hb hx;by_cases hb':b'=σ.n
   ·subst hb';have:g'.c=w.heap.size:=by simp[Mu.add]at hg';rw[←hg']
    have:=oldlt b x g hx1 h1;omega
   ·have h2:μ b'=some g':=by simpa[Mu.add,hb']using hg'
    exact h.inj b b' x x' g g' hx1 (old _ _ hb' hx') hne ho h1 h2
 ·refine h.sep.of (fun b x g hx hg=> ?_) (fun b x g hx hg hi _=> ?_)
  ·by_cases hb:b=σ.n
   ·subst hb;have e1:g=⟨w.heap.size,0,0,1,0,some (.string s)⟩:=by simp[Mu.add]at hg;exact hg.symm
    subst e1;exact .inr ⟨fun h0=>(by injection h0 with h0;cases h0),fun b1 x1 g1 k h1 h2 h3 h4 e=>by have:=(h.buf h1 h2 h3 h4).2.1;simp only at e;omega⟩
   ·exact .inl ⟨x,old b x hb hx,by simpa[Mu.add,hb]using hg⟩
  ·unfold pn;rw[show(w.iter s 0).heap[g.c]?=w.heap[g.c]? from Below.heap_alloc w _ _ (oldlt b x g hx hg)]
theorem R.newB (h:R B μ σ w){t:TypeId}(ht:ce3 P t=true):R B (μ.add σ.n ⟨w.heap.size,0,0,1,t,some .nilFunc⟩) (σ.add ⟨[.string ByteArray.empty],true,1⟩) (w.alloc (.cells #[.pointer none, .slice none 0 0] t))∧μ.le (μ.add σ.n ⟨w.heap.size,0,0,1,t,some .nilFunc⟩):=by
 have hf:μ σ.n=none:=h.fresh _ (aB _);have hle':μ.le (μ.add σ.n ⟨w.heap.size,0,0,1,t,some .nilFunc⟩):=Mu.le_add hf
 have old: ∀b x,b≠σ.n→(σ.add ⟨[.string ByteArray.empty],true,1⟩).m b=some x→σ.m b=some x:=by
  intro b x hb hx;simpa[Hp.add,hb]using hx
 have new: ∀x,(σ.add ⟨[.string ByteArray.empty],true,1⟩).m σ.n=some x→x=⟨[.string ByteArray.empty],true,1⟩:=by
  intro x hx;simp[Hp.add]at hx;exact hx.symm
 have oldlt: ∀b x g,σ.m b=some x→μ b=some g→g.c<w.heap.size:=fun b x g hx hg=>(h.get hx hg).lt
 have hnew:(w.alloc (.cells #[.pointer none, .slice none 0 0] t)).heap[w.heap.size]?=some (.cells #[.pointer none, .slice none 0 0] t (0,0)):=heap_alloc_new w _
 have hbn:pn (w.alloc (.cells #[.pointer none, .slice none 0 0] t)) w.heap.size=none:=by
  unfold pn;rw[hnew];rfl
 refine⟨⟨Nat.le_trans h.base (by simp),fun b hb=>(Below.heap_alloc w _ _ (bB hb h.base)).trans (h.old b hb),fun b hb=> ?_,fun b x hx=> ?_,fun b b' x x' g g' hx hx' hne ho hg hg'=> ?_,fun b x g hx hg hi k hk b' x' g' hx' hg'=> ?_⟩,hle'⟩
 ·have:σ.n+1≤b:=hb;unfold Mu.add;rw[zF (by omega)];exact h.fresh b (by omega)
 ·by_cases hb:b=σ.n
  ·subst hb;obtain rfl:=new x hx
   exact⟨⟨w.heap.size,0,0,1,t,some .nilFunc⟩,by simp[Mu.add],⟨by simp,rfl,fun h0=>(by cases h0),fun h0=>(by cases h0),fun s' hs=>(by injection hs with hs;cases hs),fun _=>
    ⟨ht, .pointer none,ByteArray.empty, .inl rfl,rfl,h.base, .slice none 0 0,hnew,World.ownsRowF_nil _ _ _ _,by simp[Value.ownBlock]⟩⟩⟩
  ·have hx':=old b x hb hx;obtain⟨g,h1,h2⟩:=h.live b x hx';exact⟨g,hle' _ _ h1,(h2.mono hle').kept (by simp) (Below.heap_alloc w _ _ h2.lt) (fun hi k hk=>Below.heap_alloc w _ _ (h.buf hx' h1 hi hk).2.1)⟩
 ·by_cases hb:b=σ.n
  ·subst hb;have hb':b'≠σ.n:=fun e=>hne e.symm
   have:g.c=w.heap.size:=by simp[Mu.add]at hg;rw[←hg]
   have h2:μ b'=some g':=by simpa[Mu.add,hb']using hg'
   have:=oldlt b' x' g' (old _ _ hb' hx') h2;omega
  ·have h1:μ b=some g:=by simpa[Mu.add,hb]using hg
   have hx1:=old b x hb hx;by_cases hb':b'=σ.n
   ·subst hb';have:g'.c=w.heap.size:=by simp[Mu.add]at hg';rw[←hg']
    have:=oldlt b x g hx1 h1;omega
   ·have h2:μ b'=some g':=by simpa[Mu.add,hb']using hg'
    exact h.inj b b' x x' g g' hx1 (old _ _ hb' hx') hne ho h1 h2
 ·by_cases hb:b=σ.n
  ·subst hb;have e1:g.c=w.heap.size:=by simp[Mu.add]at hg;rw[←hg]
   rw[e1,hbn]at hk;cases hk
  ·have h1:μ b=some g:=by simpa[Mu.add,hb]using hg
   have hx1:=old b x hb hx
   have hkw:pn w g.c=some k:=by
    rw[←hk];unfold pn;rw[Below.heap_alloc w _ _ (oldlt b x g hx1 h1)]
   have hklt:=(h.buf hx1 h1 hi hkw).2.1;by_cases hb':b'=σ.n
   ·subst hb';have e1:g'.c=w.heap.size:=by simp[Mu.add]at hg';rw[←hg']
    refine⟨by omega,fun _ _ hk'=> ?_⟩;rw[e1,hbn]at hk';cases hk'
   ·have h2:μ b'=some g':=by simpa[Mu.add,hb']using hg'
    have hx2:=old b' x' hb' hx';obtain⟨m1,m2⟩:=h.sep b x g hx1 h1 hi k hkw b' x' g' hx2 h2;refine⟨m1,fun hne hi'=> ?_⟩;have:=m2 hne hi';unfold pn at this⊢;rw[Below.heap_alloc w _ _ (oldlt b' x' g' hx2 h2)];exact this
theorem cG3 {t:TypeId}(ho:o.op= .alloc t)(ht:ce3 P t=true)(hz:oq P t=some [.pointer none, .slice none 0 0])(hr:AOp.newB.run e σ=some (v,σ'))(hR:R B μ σ w):jS P o a w B μ v σ':=by
 obtain⟨z',h1,h2,h3⟩:=mK hz;simp only[AOp.run,Option.some.injEq,Prod.mk.injEq]at hr;obtain⟨rfl,rfl⟩:=hr;obtain⟨k1,k2⟩:=hR.newB ht;have hc:z'.cells= #[.pointer none, .slice none 0 0]:=Array.toList_inj.1 h2;refine⟨_,_,_, .pointer (some ⟨w.heap.size,0,none⟩), ?_, .inl rfl,k2,k1, ?_,(Below.refl _ _).alloc hR.base _⟩
 ·simp[execOp,ho,Instr.alloc,h1,newVar,newRow,hc]
 ·exact .iter (g:=⟨w.heap.size,0,0,1,t,some .nilFunc⟩) (by simp[Mu.add]) rfl
theorem R.step (h:R B μ σ w){b:Nat}{x:Blk}{g:G}{s:ByteArray}(hx:σ.m b=some x)(ho:x.own=true)(hg:μ b=some g)(hit:g.it=some (.string s))(q:Nat):
  R B μ (σ.set b (some ⟨[.int .i64 (q:Int)],true,x.es⟩)) (w.iterAt g.c s q):=by
 have hl:=h.get hx hg;obtain⟨o1,p,o3,o4⟩:=hl.iter s hit;have hother: ∀k,k≠g.c→(w.iterAt g.c s q).heap[k]?=w.heap[k]?:=fun k hk=>Lib.iterAt_other w _ k s q hk
 have hsz:(w.iterAt g.c s q).heap.size=w.heap.size:=Lib.iterAt_size w _ s q
 have old: ∀b' x',b'≠b→(σ.set b (some ⟨[.int .i64 (q:Int)],true,x.es⟩)).m b'=some x'→σ.m b'=some x':=by
  intro b' x' hb hx';simpa[Hp.set,hb]using hx'
 have new: ∀x',(σ.set b (some ⟨[.int .i64 (q:Int)],true,x.es⟩)).m b=some x'→x'=⟨[.int .i64 (q:Int)],true,x.es⟩:=by
  intro x' hx';simp[Hp.set]at hx';exact hx'.symm
 refine⟨by rw[hsz];exact h.base,fun k hk=>(hother k (by omega)).trans (h.old k hk),h.fresh,fun b' x' hx'=> ?_,fun b1 b2 x1 x2 g1 g2 h1 h2 hne hown hg1 hg2=> ?_, ?_⟩
 ·by_cases hb:b'=b
  ·subst hb;obtain rfl:=new x' hx'
   exact⟨g,hg,⟨by rw[hsz];exact hl.lt,hl.es,fun h0=>(by rw[hit]at h0;cases h0),fun h0=>(by rw[hit]at h0;cases h0),fun s' hs=>by
    rw[hit]at hs;injection hs with hs
    injection hs with hs
    subst hs
    exact⟨o1,q,rfl,Lib.iterAt_heap w _ s p q o4⟩,fun hs=>by rw[hit]at hs;injection hs with hs;cases hs⟩⟩
  ·have hx1:=old b' x' hb hx';obtain⟨g',h1,h2⟩:=h.live b' x' hx1;exact⟨g',h1,h.stays hx1 h1 (by rw[hsz];exact aB _) g.c (fun k hk _=>hother k hk) (fun e=>h.inj b b' x x' g g' hx hx1 (fun e=>hb e.symm) ho hg h1 e.symm) (fun hi hk=>((h.sep b' x' g' hx1 h1 hi _ hk b x g hx hg).1 rfl))⟩
 ·have keyown: ∀b' x',(σ.set b (some ⟨[.int .i64 (q:Int)],true,x.es⟩)).m b'=some x'→∃y,σ.m b'=some y∧y.own=x'.own:=by
   intro b' x' hx';by_cases hb:b'=b
   ·subst hb;obtain rfl:=new x' hx';exact⟨x,hx,ho⟩
   ·exact⟨x',old b' x' hb hx',rfl⟩
  obtain⟨y1,hy1,e1⟩:=keyown _ _ h1;obtain⟨y2,hy2,_⟩:=keyown _ _ h2;exact h.inj b1 b2 y1 y2 g1 g2 hy1 hy2 hne (e1.trans hown) hg1 hg2
 ·have oldl: ∀b' x',(σ.set b (some ⟨[.int .i64 (q:Int)],true,x.es⟩)).m b'=some x'→∃y,σ.m b'=some y:=by
   intro b' x' hx';by_cases hb:b'=b
   ·subst hb;exact⟨x,hx⟩
   ·exact⟨x',old b' x' hb hx'⟩
  refine h.sep.of (fun b' x' g' hx' hg'=> .inl (let⟨y,hy⟩:=oldl b' x' hx';⟨y,hy,hg'⟩)) (fun b' x' g' hx' hg' hi _=> ?_);have hne:b'≠b:=fun e=>by subst e;rw[hg]at hg';injection hg' with hg';subst hg';rw[hit]at hi;injection hi with hi;cases hi
  unfold pn;rw[hother _ (fun e=>h.inj b b' x x' g g' hx hx' (fun e=>hne e.symm) ho hg hg' e.symm)]
theorem cw2 {t:TypeId}{x:Operand}(ho:o.op= .range t x)(hu:P.underlying t=some .string)(hx:dn x=true)(hr:(AOp.range x).run e σ=some (v,σ'))(he:fp μ N e a.tmps)(hR:R B μ σ w):jS P o a w B μ v σ':=by
 have h:=he.ev hx;simp only[AOp.run]at hr;split at hr
 ·rename_i s hs;simp only[Option.some.injEq,Prod.mk.injEq]at hr;obtain⟨rfl,rfl⟩:=hr;rw[hs]at h;obtain⟨h1,h2⟩:=hR.iter s;refine⟨_,_,_, .pointer (some ⟨w.heap.size,0,none⟩), ?_, .inl rfl,h2,h1, ?_,(Below.refl _ _).alloc hR.base _⟩
  ·have:=run_range_string (P:=P) w t s hu;simp[execOp,ho,h.string_inv,this]
  ·exact .iter (g:=⟨w.heap.size,0,0,1,0,some (.string s)⟩) (by simp[Mu.add]) rfl
 ·cases hr
theorem cG4 {x:Operand}(ho:o.op= .next x true)(hx:dn x=true)(hr:(AOp.next x).run e σ=some (v,σ'))(he:fp μ N e a.tmps)(hR:R B μ σ w):jS P o a w B μ v σ':=by
 have h:=he.ev hx;simp only[AOp.run]at hr;split at hr
 ·rename_i b s hs;rw[hs]at h
  obtain⟨g,hg,hit,hv⟩: ∃g,μ b=some g∧g.it=some (.string s)∧a.eval x= .pointer (some ⟨g.c,0,none⟩):=by
   generalize a.eval x=u at h;cases h with
   |iter k1 k2=>exact⟨_,k1,k2,rfl⟩
  split at hr
  ·rename_i blk hblk;split at hr
   ·rename_i hown;split at hr
    ·rename_i p r hp;have hl:=hR.get hblk hg;obtain⟨o1,q,o3,o4⟩:=hl.iter s hit;rw[hp]at o3;simp at o3;obtain⟨rfl,rfl⟩:=o3;split at hr
     ·rw[Int.toNat_natCast]at hr;split at hr
      ·rename_i hlt;simp only[Option.some.injEq,Prod.mk.injEq]at hr;obtain⟨rfl,rfl⟩:=hr;have h1:=hR.step hblk hown hg hit (q+(Utf8.decode s q).2);refine⟨_,_,μ, .tuple #[.bool true, .int .i64 q, .int .i32 (Utf8.decode s q).1], ?_, .inl rfl,μ.le_refl,h1, .tuple (.cons (.bool _) (.cons (.int _ _) (.cons (.int _ _) .nil))),Lib.below_iterAt (Below.refl _ _) o1 s _⟩;have:=Lib.run_next_any_at (P:=P) w g.c s q o.type o4 hlt;simp[execOp,ho,hv,this]
      ·rename_i hlt;simp only[Option.some.injEq,Prod.mk.injEq]at hr;obtain⟨rfl,rfl⟩:=hr;have:=Lib.run_next_end_at (P:=P) w g.c s q o.type o4 hlt;exact .same hR (by simp[execOp,ho,hv,this]) (.tuple (.cons (.bool _) .nil))
     ·cases hr
    ·cases hr
   ·cases hr
  ·cases hr
 ·cases hr
theorem cF8 {s d:TypeId}{k':IntKind}{x:Operand}(ho:o.op= .convert s d x)(hs:P.underlying s=some (.int k'))(hd:P.underlying d=some .string)(hx:dn x=true)(hr:(AOp.encR x).run e σ=some (v,σ'))(he:fp μ N e a.tmps)(hR:R B μ σ w):jS P o a w B μ v σ':=by
 simp only[AOp.run]at hr;obtain⟨n,hn,hr⟩:=Option.map_eq_some_iff.1 hr;simp only[Prod.mk.injEq]at hr;obtain⟨rfl,rfl⟩:=hr;have h:=he.ev hx;generalize e.ev x=u at*;cases u<;>simp[cs9]at hn;subst hn;have:=h.int_inv;exact .same hR (by simp[execOp,ho,this,convert,eo hs,eo hd,Conv.intToString]) (.string _)
theorem aP2 {μ:Mu}: ∀{cs cs':List Value} {l:List Int},F2 (VR μ) cs cs'→yo cs=some l→cs'=l.map (Value.int .u8)
 |[],_,l,h,hl=>by
  cases h;simp[yo]at hl;subst hl;rfl
 |c::cs,_,l,h,hl=>by
  cases h with
  |cons h1 h2=>
   rename_i c' cs';unfold yo at hl;split at hl
   ·rename_i he;cases he
   ·rename_i n r he;injection he with e1 e2
    subst e1;subst e2;obtain⟨l',h3,h4⟩:=Option.map_eq_some_iff.1 hl;subst h4;rw[aP2 h2 h3,h1.int_inv];rfl
   ·cases hl
theorem cw5 {s d t:TypeId}{x:Operand}(ho:o.op= .convert s d x)(hs:P.underlying s=some (.slice t))(ht:P.underlying t=some (.int .u8))(hd:P.underlying d=some .string)(hx:dn x=true)(hr:(AOp.strOf x).run e σ=some (v,σ'))(he:fp μ N e a.tmps)(hR:R B μ σ w):jS P o a w B μ v σ':=by
 have h:=he.ev hx;simp only[AOp.run]at hr;split at hr
 ·rename_i p n c hp;rw[hp]at h;split at hr
  ·rename_i cs hcs;obtain⟨l,hl,hr⟩:=Option.map_eq_some_iff.1 hr;simp only[Prod.mk.injEq]at hr;obtain⟨rfl,rfl⟩:=hr;obtain⟨arr,h1,h2⟩:=tB (P:=P) (es:=1) (n:=n) (ln:=n) rfl (aB _) hcs hR h;have h3:=aP2 h2 hl;have h1':=h1 w rfl
   have key: ∀(q:Option Addr) (c':Nat),a.eval x= .slice q n c'→(n=0∨∃z,q=some z)→(execOp a.eval o).run P w= .ok (.value (.string (cb7 l))) w:=by
    intro q c' hq hz;rw[hq]at h1';cases q with
    |none=>
     rcases hz with hz|⟨z,hz⟩
     ·subst hz;simp[aD]at h1';subst h1';have hl0:l=[]:=by simpa using h3.symm
      subst hl0;simp[execOp,ho,hq,run_convert_bytes_string w s d t none 0 c' hs ht hd,Conv.bytesToString,cb7]
     ·cases hz
    |some z=>
     have hload:(loadCells z n).run P w= .ok (l.map (Value.int .u8)).toArray w:=by
      simp only[aD,Nat.mul_one]at h1';rw[h1',←h3]
     simp[execOp,ho,hq,run_convert_bytes_string w s d t (some z) n c' hs ht hd,run_bytesToString w z n c' l hload,cb7]
   generalize hq:a.eval x=u at h;cases h with
   |nils=>exact .same hR (key none 0 hq (.inl rfl)) (.string _)
   |slice k1 k2 k3 k4=>exact .same hR (key _ _ hq (.inr ⟨_,rfl⟩)) (.string _)
   |slice0 A' k1=>exact .same hR (key _ _ hq (.inl rfl)) (.string _)
   |sliceX k1 k2=>exact .same hR (key _ _ hq (.inr ⟨_,rfl⟩)) (.string _)
   |sliceX0 A' k1=>exact .same hR (key _ _ hq (.inl rfl)) (.string _)
  ·cases hr
 ·cases hr
theorem aQ8 {μ:Mu}: ∀{cs cs':List Value} {l:List Int},F2 (VR μ) cs cs'→yu cs=some l→cs'=l.map (Value.int .i32)
 |[],_,l,h,hl=>by
  cases h;simp[yu]at hl;subst hl;rfl
 |c::cs,_,l,h,hl=>by
  cases h with
  |cons h1 h2=>
   rename_i c' cs';unfold yu at hl;split at hl
   ·rename_i he;cases he
   ·rename_i n r he;injection he with e1 e2
    subst e1;subst e2;obtain⟨l',h3,h4⟩:=Option.map_eq_some_iff.1 hl;subst h4;rw[aQ8 h2 h3,h1.int_inv];rfl
   ·cases hl
theorem cm0 {s d t:TypeId}{x:Operand}(ho:o.op= .convert s d x)(hs:P.underlying s=some (.slice t))(ht:P.underlying t=some (.int .i32))(hd:P.underlying d=some .string)(hx:dn x=true)(hr:(AOp.strOfR x).run e σ=some (v,σ'))(he:fp μ N e a.tmps)(hR:R B μ σ w):jS P o a w B μ v σ':=by
 have h:=he.ev hx;simp only[AOp.run]at hr;split at hr
 ·rename_i p n c hp;rw[hp]at h;split at hr
  ·rename_i cs hcs;obtain⟨l,hl,hr⟩:=Option.map_eq_some_iff.1 hr;simp only[Prod.mk.injEq]at hr;obtain⟨rfl,rfl⟩:=hr;obtain⟨arr,h1,h2⟩:=tB (P:=P) (es:=1) (n:=n) (ln:=n) rfl (aB _) hcs hR h;have h3:=aQ8 h2 hl;have h1':=h1 w rfl
   have key: ∀(q:Option Addr) (c':Nat),a.eval x= .slice q n c'→(n=0∨∃z,q=some z)→(execOp a.eval o).run P w= .ok (.value (.string (cb9 l))) w:=by
    intro q c' hq hz;rw[hq]at h1';cases q with
    |none=>
     rcases hz with hz|⟨z,hz⟩
     ·subst hz;simp[aD]at h1';subst h1';have hl0:l=[]:=by simpa using h3.symm
      subst hl0;simp[execOp,ho,hq,run_convert_runes_string w s d t none 0 c' hs ht hd,Conv.runesToString,cb9]
     ·cases hz
    |some z=>
     have hload:(loadCells z n).run P w= .ok (l.map (Value.int .i32)).toArray w:=by
      simp only[aD,Nat.mul_one]at h1';rw[h1',←h3]
     simp[execOp,ho,hq,run_convert_runes_string w s d t (some z) n c' hs ht hd,run_runesToString w z n c' l hload,cb9,runesBytes]
   generalize hq:a.eval x=u at h;cases h with
   |nils=>exact .same hR (key none 0 hq (.inl rfl)) (.string _)
   |slice k1 k2 k3 k4=>exact .same hR (key _ _ hq (.inr ⟨_,rfl⟩)) (.string _)
   |slice0 A' k1=>exact .same hR (key _ _ hq (.inl rfl)) (.string _)
   |sliceX k1 k2=>exact .same hR (key _ _ hq (.inr ⟨_,rfl⟩)) (.string _)
   |sliceX0 A' k1=>exact .same hR (key _ _ hq (.inl rfl)) (.string _)
  ·cases hr
 ·cases hr
theorem bZ0 {s d t:TypeId}{x:Operand}(ho:o.op= .convert s d x)(hs:P.underlying s=some .string)(hd:P.underlying d=some (.slice t))(ht:P.underlying t=some (.int .i32))(hx:dn x=true)(hr:(AOp.runesOf x).run e σ=some (v,σ'))(he:fp μ N e a.tmps)(hR:R B μ σ w):jS P o a w B μ v σ':=by
 have h:=he.ev hx;simp only[AOp.run]at hr;split at hr
 ·rename_i z hz;rw[hz]at h;split at hr
  ·rename_i hsz;simp only[Option.some.injEq,Prod.mk.injEq]at hr;obtain⟨rfl,rfl⟩:=hr;have hv:=h.string_inv
   have hn:(Conv.runesFrom z z.size 0 #[]).size≤70368744177664:=by
    have:=size_runesFrom z z.size 0 #[];simp at this;omega
   have hrun:=run_runes_of_string (P:=P) w s d t z hs hd ht hn
   have hint: ∀(s:ByteArray) (b i:Nat) (acc:Array Value),(∀u∈acc.toList,∃n,u=Value.int .i32 n)→∀u∈(Conv.runesFrom s b i acc).toList,∃n,u=Value.int .i32 n:=by
    intro s b;induction b with
    |zero=>intro i acc h u hu;exact h u hu
    |succ b ih=>
     intro i acc h u hu;unfold Conv.runesFrom at hu;split at hu
     ·refine ih _ _ (fun y hy=> ?_) u hu;rw[Array.toList_push,List.mem_append]at hy;rcases hy with hy|hy
      ·exact h y hy
      ·rw[List.mem_singleton]at hy;exact⟨_,hy⟩
     ·exact h u hu
   have hF:F2 (VR μ) (me z) (me z):=F2.same _ fun u hu=>by
    obtain⟨n,rfl⟩:=hint z z.size 0 #[] (fun u hu=>by simp at hu) u hu;exact .int _ _
   have hge:=grownCap_ge w (Conv.runesFrom z z.size 0 #[]).size 0 t;have hdrew:R B μ σ w.drew:=hR.same rfl
   obtain⟨m1,m2⟩:=hdrew.add (Conv.runesFrom z z.size 0 #[]++Array.replicate (grownCap w (Conv.runesFrom z z.size 0 #[]).size 0 t-(Conv.runesFrom z z.size 0 #[]).size) (.int .i32 0)) t (me z) 1 (by
    unfold me;rw[Array.size_append,Array.length_toList]
    omega) (by
    unfold me;rw[Array.toList_append,List.take_left]
    exact hF)
   have hlen:(me z).length=(Conv.runesFrom z z.size 0 #[]).size:=by unfold me;simp
   refine⟨_,_,_, .slice (some ⟨w.heap.size,0,none⟩) (Conv.runesFrom z z.size 0 #[]).size (grownCap w (Conv.runesFrom z z.size 0 #[]).size 0 t), ?_, .inl rfl,m2,m1, ?_,((Below.refl _ _).drew).alloc hR.base _⟩
   ·simp[execOp,ho,hv,hrun]
   ·rw[hlen]
    exact .slice (o:=0) (g:=⟨w.drew.heap.size,0,_,1,t,none⟩) ⟨by unfold Mu.add;exact zE rfl,rfl⟩ (aB _) hge (by
     simp only[Array.size_append,Array.size_replicate]
     omega)
  ·cases hr
 ·cases hr
end
end
section
open Go.RowKit
section
variable {P:Program} {o:Oper} {a:Act} {w:World} {B:Base P} {N:Nat} {μ:Mu} {e:dh} {σ σ':Hp} {v:Value}
theorem vV {x y:Option Operand}(h:cG7 x=some y):x=y∧∀u,y=some u→dn u=true:=by
 unfold cG7 at h;split at h
 ·rename_i x;obtain⟨z,hz,h⟩:=Option.map_eq_some_iff.1 h;obtain⟨rfl,h2⟩:=bx hz;subst h;exact⟨rfl,fun u hu=>by injection hu with hu;exact hu▸h2⟩
 ·injection h with h
  subst h;exact⟨rfl,fun u hu=>by cases hu⟩
def AOp.isCall :AOp→Bool
 | .call _ _| .callv _ _=>true
 |_=>false
theorem cz9 {op:BinOp}{t t':TypeId}{x y:Operand}{ao:AOp}(ho:o.op= .binOp op t x y t')(h:bS8 P op t x y=some ao)(hr:ao.run e σ=some (v,σ'))(he:fp μ N e a.tmps)(hR:R B μ σ w):jS P o a w B μ v σ':=by
 unfold bS8 at h;split at h
 ·split at h
  ·rename_i h1 h2;obtain⟨rfl,k1⟩:=bx h1;obtain⟨rfl,k2⟩:=bx h2;injection h with h
   subst h;exact cv8 ho k1 k2 hr he hR
  ·cases h
 ·split at h
  ·rename_i h1 h2;obtain⟨rfl,k1⟩:=bx h1;obtain⟨rfl,k2⟩:=bx h2;injection h with h
   subst h;exact cv8 ho k1 k2 hr he hR
  ·cases h
 ·split at h
  ·rename_i hf h1 h2;obtain⟨rfl,k1⟩:=bx h1;obtain⟨rfl,k2⟩:=bx h2;injection h with h
   subst h;exact ad1 ho rfl hf k1 k2 hr he hR
  ·rename_i hf h1 h2;obtain⟨rfl,k1⟩:=bx h1;obtain⟨rfl,k2⟩:=bx h2;injection h with h
   subst h;exact ad1 ho rfl hf k1 k2 hr he hR
  ·cases h
 ·split at h
  ·rename_i hf h1 h2;obtain⟨rfl,k1⟩:=bx h1;obtain⟨rfl,k2⟩:=bx h2;injection h with h
   subst h;exact ad1 ho rfl hf k1 k2 hr he hR
  ·rename_i hf h1 h2;obtain⟨rfl,k1⟩:=bx h1;obtain⟨rfl,k2⟩:=bx h2;injection h with h
   subst h;exact ad1 ho rfl hf k1 k2 hr he hR
  ·cases h
 ·rename_i hu;split at h
  ·rename_i hk h1 h2;obtain⟨rfl,k1⟩:=bx h1;obtain⟨rfl,k2⟩:=bx h2;injection h with h
   subst h;exact cv9 ho rfl hu hk k1 k2 hr he hR
  ·rename_i hk h1 h2;obtain⟨rfl,k1⟩:=bx h1;obtain⟨rfl,k2⟩:=bx h2;injection h with h
   subst h;exact cv9 ho rfl hu hk k1 k2 hr he hR
  ·cases h
 ·cases h
theorem co7 {c:Call}{ao:AOp}(ho:o.op= .call c)(h:ae7 P c=some ao)(hc:ao.isCall=false)(hr:ao.run e σ=some (v,σ'))(he:fp μ N e a.tmps)(hR:R B μ σ w):jS P o a w B μ v σ':=by
 unfold ae7 at h;split at h
 ·split at h
  ·obtain⟨x,_,h⟩:=Option.map_eq_some_iff.1 h;subst h;simp[AOp.isCall]at hc
  ·cases h
 ·obtain⟨x,_,h⟩:=Option.map_eq_some_iff.1 h;subst h;simp[AOp.isCall]at hc
 ·rename_i hcal;split at h
  ·rename_i ha ht;split at h
   ·rename_i hu1 hu2 h1 h2;obtain⟨rfl,k1⟩:=bx h1;obtain⟨rfl,k2⟩:=bx h2;split at h
    ·rename_i hn hb hz;split at h
     ·rename_i hzn;injection h with h
      subst h;exact br2 ho hcal ha ht hu1 (.inl ⟨_,hu2⟩) hn hb hz hzn k1 k2 hr he hR
     ·cases h
    ·cases h
   ·rename_i hu1 hu2 h1 h2;obtain⟨rfl,k1⟩:=bx h1;obtain⟨rfl,k2⟩:=bx h2;split at h
    ·rename_i hn hb hz;split at h
     ·rename_i hzn;injection h with h
      subst h;exact br2 ho hcal ha ht hu1 (.inr hu2) hn hb hz hzn k1 k2 hr he hR
     ·cases h
    ·cases h
   ·rename_i hu1 hu2 h1 h2;obtain⟨rfl,k1⟩:=bx h1;obtain⟨rfl,k2⟩:=bx h2;split at h
    ·rename_i hn hb hz;split at h
     ·rename_i hzn;injection h with h
      subst h;exact bY8 ho hcal ha ht hu1 ⟨_,hu2⟩ hn hb hz hzn.1 hzn.2 k1 k2 hr he hR
     ·cases h
    ·cases h
   ·cases h
  ·cases h
 ·rename_i hcal;split at h
  ·rename_i ha ht;split at h
   ·rename_i hu h1 h2;obtain⟨rfl,k1⟩:=bx h1;obtain⟨rfl,k2⟩:=bx h2;split at h
    ·rename_i hn;injection h with h
     subst h;exact cF7 ho hcal ha ht hu hn k1 k2 hr he hR
    ·cases h
   ·cases h
  ·cases h
 ·rename_i hcal;split at h
  ·rename_i ha ht;split at h
   ·rename_i hu h1;obtain⟨rfl,k1⟩:=bx h1;injection h with h
    subst h;exact cG0 ho hcal ha ht hu k1 hr he hR
   ·rename_i hu h1;obtain⟨rfl,k1⟩:=bx h1;injection h with h
    subst h;exact cR9 ho hcal ha ht hu k1 hr he hR
   ·rename_i hu;injection h with h
    subst h;exact cf5 ho hcal ha ht (.inl ⟨_,hu⟩) hr hR
   ·rename_i hu;split at h
    ·rename_i hp;injection h with h
     subst h;exact cf5 ho hcal ha ht (.inr ⟨_,_,hu,hp⟩) hr hR
    ·cases h
   ·cases h
  ·cases h
 ·rename_i hcal;split at h
  ·rename_i ha ht;split at h
   ·rename_i hu h1;obtain⟨rfl,k1⟩:=bx h1;injection h with h
    subst h;exact cF5 ho hcal ha ht hu k1 hr he hR
   ·cases h
  ·cases h
 ·rename_i hcal;split at h
  ·rename_i ha;split at h
   ·rename_i h1 h2;obtain⟨rfl,k1⟩:=bx h1;obtain⟨rfl,k2⟩:=bx h2;injection h with h
    subst h;exact cG2 ho hcal ha k1 k2 hr he hR
   ·cases h
  ·cases h
 ·rename_i hcal;split at h
  ·rename_i ha;split at h
   ·rename_i h1 h2;obtain⟨rfl,k1⟩:=bx h1;obtain⟨rfl,k2⟩:=bx h2;injection h with h
    subst h;exact cw0 ho hcal ha k1 k2 hr he hR
   ·cases h
  ·cases h
 ·cases h
theorem cM5 {ao:AOp}(h:bT1 P o=some ao)(hc:ao.isCall=false)(hr:ao.run e σ=some (v,σ'))(he:fp μ N e a.tmps)(hR:R B μ σ w):jS P o a w B μ v σ':=by
 unfold bT1 at h;split at h
 ·rename_i ho;obtain⟨x,h1,h⟩:=Option.map_eq_some_iff.1 h;obtain⟨rfl,k1⟩:=bx h1;subst h;exact cf6 (.inl ho) k1 hr he hR
 ·rename_i ho;obtain⟨x,h1,h⟩:=Option.map_eq_some_iff.1 h;obtain⟨rfl,k1⟩:=bx h1;subst h;exact cf6 (.inr ho) k1 hr he hR
 ·rename_i ho;split at h
  ·rename_i h1 h2 h3;obtain⟨rfl,k1⟩:=bx h1;obtain⟨rfl,k2⟩:=bx h2;obtain⟨rfl,k3⟩:=bx h3;injection h with h
   subst h;exact cG5 ho k1 k2 k3 hr he hR
  ·cases h
 ·rename_i ho;split at h
  ·rename_i hb;split at h
   ·rename_i hz;injection h with h
    subst h;exact cG3 ho hb hz hr hR
   ·cases h
  ·split at h
   ·rename_i hz;injection h with h
    subst h;exact cv7 ho hz hr hR
   ·cases h
 ·rename_i ho;split at h
  ·rename_i h1;obtain⟨rfl,k1⟩:=bx h1;injection h with h
   subst h;exact cR7 ho k1 hr he hR
  ·cases h
 ·rename_i ho;split at h
  ·rename_i hu hz;split at h
   ·rename_i hall;obtain⟨ps,hp,h⟩:=Option.map_eq_some_iff.1 h;subst h;exact aT6 ho hu hz hall hp hr he hR
   ·cases h
  ·rename_i hu hz;split at h
   ·rename_i hn;obtain⟨ps,hp,h⟩:=Option.map_eq_some_iff.1 h;subst h;exact be1 ho hu hn hz hp hr he hR
   ·cases h
  ·cases h
 ·rename_i ho;split at h
  ·rename_i hu;split at h
   ·rename_i hn hz;split at h
    ·rename_i hcond;obtain⟨ps,hp,h⟩:=Option.map_eq_some_iff.1 h;subst h;exact bn2 ho hu hn hz hcond.1 hcond.2.1 hcond.2.2 hp hr he hR
    ·cases h
   ·cases h
  ·cases h
 ·injection h with h
  subst h;cases hr
 ·rename_i ho;split at h
  ·rename_i ht h1;obtain⟨rfl,k1⟩:=bx h1;obtain⟨n,hn,h⟩:=Option.map_eq_some_iff.1 h;subst h;exact cw1 ho ht hn k1 hr he hR
  ·rename_i ht h1;obtain⟨rfl,k1⟩:=bx h1;injection h with h
   subst h;exact cG1 ho ht k1 hr he hR
  ·cases h
 ·rename_i ho;split at h
  ·rename_i hn h1 h2;obtain⟨rfl,k1⟩:=bx h1;obtain⟨rfl,k2⟩:=bx h2;injection h with h
   subst h;exact cw4 ho hn k1 k2 hr he hR
  ·cases h
 ·rename_i ho;obtain⟨x,h1,h⟩:=Option.map_eq_some_iff.1 h;obtain⟨rfl,k1⟩:=bx h1;subst h;exact bO2 ho k1 hr he hR
 ·rename_i ho;exact cz9 ho h hr he hR
 ·rename_i ho;obtain⟨x,h1,h⟩:=Option.map_eq_some_iff.1 h;obtain⟨rfl,k1⟩:=bx h1;subst h;exact cY8 ho k1 hr he hR
 ·rename_i ho;split at h
  ·rename_i hs hd h1;obtain⟨rfl,k1⟩:=bx h1;injection h with h
   subst h;exact cF6 ho hs hd k1 hr he hR
  ·rename_i hs hd h1;obtain⟨rfl,k1⟩:=bx h1;injection h with h
   subst h;exact cF8 ho hs hd k1 hr he hR
  ·rename_i hs hd h1;obtain⟨rfl,k1⟩:=bx h1;split at h
   ·rename_i ht;injection h with h
    subst h;exact cw5 ho hs ht hd k1 hr he hR
   ·rename_i ht;injection h with h
    subst h;exact cm0 ho hs ht hd k1 hr he hR
   ·cases h
  ·rename_i hs hd h1;obtain⟨rfl,k1⟩:=bx h1;split at h
   ·rename_i ht;injection h with h
    subst h;exact bZ0 ho hs hd ht k1 hr he hR
   ·cases h
  ·cases h
 ·rename_i ho;split at h
  ·rename_i hu h1;obtain⟨rfl,k1⟩:=bx h1;injection h with h
   subst h;exact cw2 ho hu k1 hr he hR
  ·cases h
 ·rename_i ho;obtain⟨x,h1,h⟩:=Option.map_eq_some_iff.1 h;obtain⟨rfl,k1⟩:=bx h1;subst h;exact cG4 ho k1 hr he hR
 ·rename_i ho;split at h
  ·rename_i h0 h1;injection h with h
   subst h;exact cl8 ho h0 h1 hr he hR
  ·cases h
 ·rename_i ho;split at h
  ·rename_i hu;split at h
   ·rename_i hn hb hz h1 h2;obtain⟨rfl,k1⟩:=bx h1;obtain⟨rfl,k2⟩:=bx h2;split at h
    ·rename_i hcond;injection h with h
     subst h;exact bE4 ho hu hn hb hz k1 k2 hcond.1 hcond.2 hr he hR
    ·cases h
   ·cases h
  ·cases h
 ·rename_i ho;split at h
  ·rename_i hu h1 h2 h3;obtain⟨rfl,k1⟩:=bx h1;obtain⟨rfl,k2⟩:=vV h2;obtain⟨rfl,k3⟩:=vV h3;obtain⟨n,hn,h⟩:=Option.map_eq_some_iff.1 h;subst h;exact cw3 ho hu hn k1 k2 k3 hr he hR
  ·rename_i hu h1 h2 h3;obtain⟨rfl,k1⟩:=bx h1;obtain⟨rfl,k2⟩:=vV h2;obtain⟨rfl,k3⟩:=vV h3;injection h with h
   subst h;exact bO4 ho hu k1 k2 k3 hr he hR
  ·rename_i hu h1 h2 h3;obtain⟨rfl,k1⟩:=bx h1;obtain⟨rfl,k2⟩:=vV h2;obtain⟨rfl,k3⟩:=vV h3;obtain⟨n,hn,h⟩:=Option.map_eq_some_iff.1 h;subst h;exact bO3 ho hu hn k1 k2 k3 hr he hR
  ·cases h
 ·rename_i ho;split at h
  ·rename_i hu h1;obtain⟨rfl,k1⟩:=bx h1;split at h
   ·rename_i hi;split at h
    ·rename_i hn;split at h
     ·cases h
     ·rename_i h0;injection h with h
      subst h;exact cS0 ho hu hi hn h0 k1 hr he hR
    ·cases h
   ·cases h
  ·cases h
 ·rename_i ho;split at h
  ·rename_i hu h1;obtain⟨rfl,k1⟩:=bx h1;split at h
   ·rename_i hi;split at h
    ·rename_i hn hb;injection h with h
     subst h;exact cl5 ho hu hi hn hb k1 hr he hR
    ·cases h
   ·cases h
  ·cases h
 ·rename_i ho;split at h
  ·rename_i hu h1 h2;obtain⟨rfl,k1⟩:=bx h1;obtain⟨rfl,k2⟩:=bx h2;obtain⟨n,hn,h⟩:=Option.map_eq_some_iff.1 h;subst h;exact cR8 ho hu hn k1 k2 hr he hR
  ·rename_i hu h1 h2;obtain⟨rfl,k1⟩:=bx h1;obtain⟨rfl,k2⟩:=bx h2;obtain⟨n,hn,h⟩:=Option.map_eq_some_iff.1 h;subst h;exact cF9 ho hu hn k1 k2 hr he hR
  ·cases h
 ·rename_i ho;split at h
  ·rename_i hu h1 h2;obtain⟨rfl,k1⟩:=bx h1;obtain⟨rfl,k2⟩:=bx h2;split at h
   ·rename_i hn hb;injection h with h
    subst h;exact cl7 ho hu hn hb k1 k2 hr he hR
   ·cases h
  ·rename_i hu h1 h2;obtain⟨rfl,k1⟩:=bx h1;obtain⟨rfl,k2⟩:=bx h2;injection h with h
   subst h;exact cl6 ho hu k1 k2 hr he hR
  ·cases h
 ·rename_i ho;split at h
  ·rename_i hu h1 h2 h3;obtain⟨rfl,k1⟩:=bx h1;obtain⟨rfl,k2⟩:=bx h2;obtain⟨rfl,k3⟩:=bx h3;split at h
   ·rename_i hn;injection h with h
    subst h;obtain⟨n,hn⟩:=Option.isSome_iff_exists.1 hn;exact cl9 ho hu hn k1 k2 k3 hr he hR
   ·cases h
  ·cases h
 ·rename_i ho;obtain⟨x,h1,h⟩:=Option.map_eq_some_iff.1 h;obtain⟨rfl,k1⟩:=bx h1;subst h;exact bY9 ho k1 hr he hR
 ·rename_i ho;exact co7 ho h hc hr he hR
 ·injection h with h
  subst h;cases hr
 ·injection h with h
  subst h;cases hr
 ·cases h
end
end
section
open Result renaming andThen_ok → aB
open Sem renaming run_bind → aD, run_pure → bB
open Go.RowKit
def bG6 (ops:Array Oper):Option (Nat×Bool)→Option (Option (Nat×Bool))
 |none=>some none
 |some (j,want)=>match(ops[j]?).bind (·.dst)with
  |some t=>some (some (t,want))
  |none=>none
def cr9 (N:Nat):Option Nat→Bool
 |none=>true
 |some d=>d<N
def aN3 (P:Program)(N:Nat)(ops:Array Oper)(o:Oper):Option AOper:=match bT1 P o,bG6 ops o.guard with
 |some op,some g=>if cr9 N o.dst then some ⟨o.dst,op,g⟩else none
 |_,_=>none
def aH8 (P:Program)(N:Nat)(ops:Array Oper):List Oper→Option (List AOper)
 |[]=>some []
 |o::r=>match aN3 P N ops o,aH8 P N ops r with
  |some x,some l=>some (x::l)
  |_,_=>none
def bt7 (P:Program)(f:FuncId):Prop:= ∃fn,P.funcs[f]?=some fn∧fn.body.isSome=true∧(fn.name== "runtime.NumGoroutine")=false
def cU5 (P:Program)(B:Base P)(μ:Mu)(w:World)(K:Value→Hp→Prop):Ending→World→Prop:=fun x w'=>
 ∃r σ' r' μ',x= .returned r'∧K r σ'∧μ.le μ'∧R B μ' σ' w'∧VR μ' r r'∧Below B w w'∧P=P
def Sim (P:Program)(f:FuncId)(S:aJ2):Prop:=
 ∀(B:Base P) μ σ w args (cargs:Array Value) K,S args σ K→R B μ σ w→F2 (VR μ) args cargs.toList→bt7 P f∧Calls P f cargs w (cU5 P B μ w K)
def ag2 :Nat:=1000000
def vE :AExit→Exit→Prop
 | .normal, .normal=>True
 | .exit i, .exit j=>i=j∧j<ag2
 | .exit i, .goto l=>i=ag2+2*l
 | .ret, .ret=>True
 |_,_=>False
def rA {P:Program}(B:Base P)(N:Nat)(μ:Mu)(w:World)(Q:AExit→dh→Hp→Prop):Exit→Act→World→Prop:=fun x a' w'=>
 ∃ax e' σ' μ',vE ax x∧Q ax e' σ'∧μ.le μ'∧R B μ' σ' w'∧fp μ' N e' a'.tmps∧a'.defers=[]∧Below B w w'
section
variable {P:Program} {T:ia} {o:Oper} {a:Act} {w:World} {B:Base P} {N:Nat} {μ:Mu} {e:dh} {σ σ':Hp} {v:Value}
theorem rA.trans {μ':Mu}{w':World}{Q:AExit→dh→Hp→Prop}(hμ:μ.le μ')(hb:Below B w w'){x:Exit}{a':Act}{w'':World}(h:rA B N μ' w' Q x a' w''):rA B N μ w Q x a' w'':=by
 obtain⟨ax,e',σ',μ'',h1,h2,h3,h4,h5,h6,h7⟩:=h;exact⟨ax,e',σ',μ'',h1,h2,Mu.le_trans hμ h3,h4,h5,h6,hb.trans h7⟩
theorem bt2 {ops:Array Oper}{g:Option (Nat×Bool)}{op:AOp}(hg:bG6 ops o.guard=some g)(he:fp μ N e a.tmps):Region.wanted o (yielded ops a.tmps)=wanted ⟨o.dst,op,g⟩ e:=by
 unfold bG6 at hg;unfold Region.wanted wanted;split at hg
 ·rename_i h;injection hg with hg
  subst hg;simp[h]
 ·rename_i j want h;split at hg
  ·rename_i t ht;injection hg with hg
   subst hg;simp only[h];have hv:=he.2 t;unfold yielded;rw[ht];simp only[zG];by_cases hlt:t<a.tmps.size
   ·have e1:a.tmps[t]?=some (a.tmps.getD t undef):=by simp[hlt]
    rw[e1];generalize a.tmps.getD t undef=u at*;generalize e t=u' at*;cases hv<;>simp
    try(rename_i b;cases b<;>cases want<;>rfl)
   ·have e1:a.tmps[t]?=none:=Array.getElem?_eq_none (Nat.le_of_not_lt hlt);have e2:a.tmps.getD t undef=undef:=by simp[e1]
    rw[e2]at hv;rw[e1];generalize e t=u at*;cases hv;simp
  ·cases hg
theorem fp.putO (h:fp μ N e a.tmps){d:Option Nat}(hd:cr9 N d=true){v':Value}(hv:VR μ v v'):fp μ N (e.putO d v) (a.put d v').tmps:=by
 cases d with
 |none=>exact h
 |some d=>exact h.put d (by simpa[cr9]using hd) hv
theorem td (d:Option Nat)(v':Value):(a.put d v').defers=a.defers:=by cases d<;>rfl
theorem bp2 {f:FuncId}(h:bt7 P f)(args:Array Value)(w:World):(callFunc f args).run P w= .ok (.enter f args) w:=by
 obtain⟨fn,h1,h2,h3⟩:=h;have h4:fn.body.isNone=false:=by cases hb:fn.body<;>simp[hb]at h2⊢
 simp only[callFunc,aD,run_program,aB,h1,h3,h4,Bool.false_eq_true,if_false,bB]
theorem VR.func_inv {f:Fn}{x y:Array Value}{v':Value}(h:VR μ (.func f x y) v'): ∃x' y',v'= .func f x' y'∧F2 (VR μ) x.toList x'.toList∧F2 (VR μ) y.toList y'.toList:=by
 cases h with
 |func h1 h2=>exact⟨_,_,rfl,h1,h2⟩
theorem co8 {f:FuncId}{args:List Operand}(h:bT1 P o=some (.call f args)): ∃c,o.op= .call c∧ae7 P c=some (.call f args):=by
 unfold bT1 at h;split at h
 all_goals first
  |exact⟨_,‹_›,h⟩
  |(exfalso;revert h;unfold bS8;(repeat' split)<;>simp)
  |(exfalso;revert h;(repeat' split)<;>simp)
theorem cc4 {f:Operand}{args:List Operand}(h:bT1 P o=some (.callv f args)): ∃c,o.op= .call c∧ae7 P c=some (.callv f args):=by
 unfold bT1 at h;split at h
 all_goals first
  |exact⟨_,‹_›,h⟩
  |(exfalso;revert h;unfold bS8;(repeat' split)<;>simp)
  |(exfalso;revert h;(repeat' split)<;>simp)
theorem bS9 {c:Call}{f:FuncId}{args:List Operand}(h:ae7 P c=some (.call f args)):c.callee= .value (.func f)∧aT8 c.args.toList=some args:=by
 unfold ae7 at h;split at h
 ·rename_i hc;split at h
  ·simp at h;obtain⟨h1,rfl⟩:=h;exact⟨hc,h1⟩
  ·cases h
 all_goals (exfalso;revert h;(repeat' split)<;>simp)
theorem bG5 {c:Call}{f:Operand}{args:List Operand}(h:ae7 P c=some (.callv f args)):c.callee= .value f∧dn f=true∧aT8 c.args.toList=some args:=by
 unfold ae7 at h;split at h
 ·exfalso;revert h;split<;>simp
 ·rename_i hc;simp at h;obtain⟨h1,rfl⟩:=h;exact⟨hc,rfl,h1⟩
 all_goals (exfalso;revert h;(repeat' split)<;>simp)
theorem cd4 (hT: ∀f,Sim P f (T f)){f:FuncId}{args:List Value}{cargs:Array Value}{k:Value→Hp→Prop}(hr:T f args σ k)(hR:R B μ σ w)(ha:F2 (VR μ) args cargs.toList)
  (hrun:bt7 P f→(execOp a.eval o).run P w= .ok (.enter f cargs) w) {next:Act→World→Prop} {Q:Exit→Act→World→Prop}
  (hk: ∀v σ' v' μ' w',k v σ'→μ.le μ'→R B μ' σ' w'→VR μ' v v'→Below B w w'→next (a.put o.dst v') w'):o.wp P a w next Q:=by
 obtain⟨h1,h2⟩:=hT f B μ σ w args cargs k hr hR ha;unfold Oper.wp;rw[hrun h1];simp only[Oper.upon];refine h2.mono fun x w' hx=> ?_
 obtain⟨r,σ',r',μ',rfl,q1,q2,q3,q4,q5,_⟩:=hx;exact hk r σ' r' μ' w' q1 q2 q3 q4 q5
theorem bg1 (hT: ∀f,Sim P f (T f)){op:AOp}(h:bT1 P o=some op){k:Value→Hp→Prop}(hr:ck T op e σ k)(he:fp μ N e a.tmps)(hR:R B μ σ w)
  {next:Act→World→Prop} {Q:Exit→Act→World→Prop}
  (hk: ∀v σ' v' μ' w',k v σ'→μ.le μ'→R B μ' σ' w'→VR μ' v v'→Below B w w'→next (a.put o.dst v') w'):o.wp P a w next Q:=by
 by_cases hc:op.isCall=true
 ·cases op<;>simp[AOp.isCall]at hc
  case call f args=>
   obtain⟨c,ho,h1⟩:=co8 h;obtain⟨h2,h3⟩:=bS9 h1;have ha:=aE4 he h3;simp only[ck]at hr;refine cd4 (cargs:=c.args.map a.eval) hT hr hR (by simpa using ha) (fun hcall=> ?_) hk;simp only[execOp,ho,resolve,h2,aD,Act.eval,Deferred.ofValue,bB,aB,invoke];simp[bp2 hcall]
  case callv f args=>
   obtain⟨c,ho,h1⟩:=cc4 h;obtain⟨h2,h4,h3⟩:=bG5 h1;have ha:=aE4 he h3;have hf:=he.ev h4;simp only[ck]at hr;split at hr
   ·rename_i g first captured hg
    rw[hg]at hf;obtain⟨x',y',e1,e2,e3⟩:=hf.func_inv;refine cd4 (cargs:=x'++c.args.map a.eval++y') hT hr hR (by simpa using(e2.append ha).append e3) (fun hcall=> ?_) hk;simp only[execOp,ho,resolve,h2,e1,aD,Deferred.ofValue,bB,aB,invoke];simp[bp2 hcall]
   ·exact hr.elim
 ·have hr': ∃v σ',op.run e σ=some (v,σ')∧k v σ':=by
   unfold ck at hr;cases op<;>simp[AOp.isCall]at hc<;>simp only at hr
   all_goals
    split at hr
    ·rename_i v σ' hv;exact⟨v,σ',hv,hr⟩
    ·exact hr.elim
  obtain⟨v,σ',hv,hkv⟩:=hr';obtain⟨nx,w',μ',v',h1,h2,h3,h4,h5,h6⟩:=cM5 h (by simpa using hc) hv he hR;unfold Oper.wp;rw[h1];rcases h2 with rfl|⟨rfl,rfl⟩
  ·exact hk v σ' v' μ' w' hkv h3 h4 h5 h6
  ·exact hk v σ' undef μ' w' hkv h3 h4 h5 h6
theorem bE7 (hT: ∀f,Sim P f (T f)){ops:Array Oper}{Q:AExit→dh→Hp→Prop}{μ0:Mu}{w0:World}: ∀(l:List Oper) (al:List AOper) (e:dh) (σ:Hp) (μ:Mu) (a:Act) (w:World),aH8 P N ops l=some al→xf T (Q .normal) al e σ→
  R B μ σ w→fp μ N e a.tmps→a.defers=[]→μ0.le μ→Below B w0 w→wpList P ops (rA B N μ0 w0 Q) l a w
 |[],al,e,σ,μ,a,w,h,hw,hR,he,hd,hμ0,hb0=>by
  simp[aH8]at h;subst h;exact⟨.normal,e,σ,μ,trivial,hw,hμ0,hR,he,hd,hb0⟩
 |o::l,al,e,σ,μ,a,w,h,hw,hR,he,hd,hμ0,hb0=>by
  simp only[aH8]at h;split at h
  ·rename_i x r h1 h2;injection h with h
   subst h;unfold aN3 at h1;split at h1
   ·rename_i op g h3 h4;split at h1
    ·rename_i h5;injection h1 with h1
     subst h1;have hwant:=bt2 (op:=op) h4 he;unfold wpList;simp only[xf]at hw;rw[hwant];split
     ·rename_i hb;rw[zE hb]at hw;left;refine bg1 hT h3 hw he hR fun v σ' v' μ' w' hk hμ hR' hv hbel=> ?_
      exact bE7 hT l r _ σ' μ' (a.put o.dst v') w' h2 hk hR' ((he.mono hμ).putO h5 hv) (by rw[td];exact hd) (Mu.le_trans hμ0 hμ) (hb0.trans hbel)
     ·rename_i hb;rw[zF hb]at hw;exact bE7 hT l r _ σ μ (a.put o.dst undef) w h2 hw hR (he.putO h5 (VR.undef μ)) (by rw[td];exact hd) hμ0 hb0
    ·cases h1
   ·cases h1
  ·cases h
end
end
section
open List renaming map_congr_left → aB, mem_append → aD
open Go.RowKit
def nE :Operand→List Nat
 | .tmp t=>[t]
 |_=>[]
def cz8 :Option Operand→List Nat
 |some x=>nE x
 |none=>[]
def AOp.reads :AOp→List Nat
 | .move x| .box _ x| .load x| .loadN _ x| .nilCheck x| .un _ x| .conv _ x| .off _ x| .fieldV _ _ _ x| .extract x _| .len x| .lenS x| .capN x| .range x| .next x| .encR x| .strOf x| .strOfR x| .runesOf x=>nE x
 | .pick c a b| .sliceX c a b=>nE c++nE a++nE b
 | .alloc _ _| .lenC _| .stuck| .newB=>[]
 | .build _ ps| .buildSlice _ _ _ ps=>ps.flatMap fun p=>nE p.2.2
 | .store _ a x=>nE a++nE x
 | .bin _ x y| .eqv _ _ x y| .eqCells _ _ x y| .idx _ x y| .idxA _ _ x y| .indexV _ _ _ x y| .indexS x y| .append _ _ x y| .appendZ _ _ _ x y| .copy _ x y| .most x y| .least x y| .makeSlice _ _ _ x y=>nE x++nE y
 | .mkFunc _ xs cs=>xs.flatMap nE++cs.flatMap nE
 | .slice _ x lo hi| .sliceStr x lo hi| .sliceArr _ _ x lo hi=>nE x++cz8 lo++cz8 hi
 | .call _ xs=>xs.flatMap nE
 | .callv f xs=>nE f++xs.flatMap nE
theorem cb {e e':dh}{x:Operand}(h: ∀t∈nE x,e t=e' t):e.ev x=e'.ev x:=by
 cases x<;>first|rfl|exact h _ (by simp[nE])
theorem vQ {e e':dh}{x:Option Operand}(h: ∀t∈cz8 x,e t=e' t):x.map e.ev=x.map e'.ev:=by
 cases x with
 |none=>rfl
 |some x=>simp only[Option.map_some];rw[cb h]
theorem ar3 {e e':dh}{xs:List Operand}(h: ∀t∈xs.flatMap nE,e t=e' t):xs.map e.ev=xs.map e'.ev:=by
 apply aB;intro x hx;exact cb fun t ht=>h t (List.mem_flatMap.2 ⟨x,hx,ht⟩)
theorem bp3 {e e':dh}{ps:List (Nat×Nat×Operand)}(h: ∀t∈ps.flatMap (fun p=>nE p.2.2),e t=e' t):(ps.map fun(o,s,x)=>(o,s,e.ev x))=ps.map fun(o,s,x)=>(o,s,e'.ev x):=by
 apply aB;rintro⟨o,s,x⟩ hx;simp only;rw[cb fun t ht=>h t (List.mem_flatMap.2 ⟨_,hx,ht⟩)]
theorem aM5 {e e':dh}{σ:Hp}{op:AOp}(h: ∀t∈op.reads,e t=e' t):op.run e σ=op.run e' σ:=by
 cases op<;>simp only[AOp.reads,aD]at h<;>simp only[AOp.run]
 case move x=>rw[cb h]
 case pick c a b=>rw[cb fun t ht=>h t (.inl (.inl ht)),cb fun t ht=>h t (.inl (.inr ht)),cb fun t ht=>h t (.inr ht)]
 case box es x=>rw[cb h]
 case build z ps=>rw[bp3 h]
 case buildSlice es ln z ps=>rw[bp3 h]
 case load x=>rw[cb h]
 case loadN n x=>rw[cb h]
 case store n a x=>rw[cb fun t ht=>h t (.inl ht),cb fun t ht=>h t (.inr ht)]
 case nilCheck x=>rw[cb h]
 case bin op x y=>rw[cb fun t ht=>h t (.inl ht),cb fun t ht=>h t (.inr ht)]
 case eqv kd neg x y=>rw[cb fun t ht=>h t (.inl ht),cb fun t ht=>h t (.inr ht)]
 case eqCells neg ks x y=>rw[cb fun t ht=>h t (.inl ht),cb fun t ht=>h t (.inr ht)]
 case un op x=>rw[cb h]
 case conv k x=>rw[cb h]
 case mkFunc f xs cs=>rw[ar3 fun t ht=>h t (.inl ht),ar3 fun t ht=>h t (.inr ht)]
 case makeSlice es by_ z l c=>rw[cb fun t ht=>h t (.inl ht),cb fun t ht=>h t (.inr ht)]
 case slice es x lo hi=>rw[cb fun t ht=>h t (.inl (.inl ht)),vQ fun t ht=>h t (.inl (.inr ht)),vQ fun t ht=>h t (.inr ht)]
 case sliceStr x lo hi=>rw[cb fun t ht=>h t (.inl (.inl ht)),vQ fun t ht=>h t (.inl (.inr ht)),vQ fun t ht=>h t (.inr ht)]
 case sliceArr es n x lo hi=>rw[cb fun t ht=>h t (.inl (.inl ht)),vQ fun t ht=>h t (.inl (.inr ht)),vQ fun t ht=>h t (.inr ht)]
 case off n x=>rw[cb h]
 case idx es x i=>rw[cb fun t ht=>h t (.inl ht),cb fun t ht=>h t (.inr ht)]
 case idxA ln es x i=>rw[cb fun t ht=>h t (.inl ht),cb fun t ht=>h t (.inr ht)]
 case fieldV fo n agg x=>rw[cb h]
 case indexV ln es agg x i=>rw[cb fun t ht=>h t (.inl ht),cb fun t ht=>h t (.inr ht)]
 case indexS x i=>rw[cb fun t ht=>h t (.inl ht),cb fun t ht=>h t (.inr ht)]
 case extract x i=>rw[cb h]
 case append es by_ s x=>rw[cb fun t ht=>h t (.inl ht),cb fun t ht=>h t (.inr ht)]
 case appendZ es by_ z s x=>rw[cb fun t ht=>h t (.inl ht),cb fun t ht=>h t (.inr ht)]
 case copy es d s=>rw[cb fun t ht=>h t (.inl ht),cb fun t ht=>h t (.inr ht)]
 case len x=>rw[cb h]
 case lenS x=>rw[cb h]
 case capN x=>rw[cb h]
 case range x=>rw[cb h]
 case next x=>rw[cb h]
 case encR x=>rw[cb h]
 case strOf x=>rw[cb h]
 case strOfR x=>rw[cb h]
 case runesOf x=>rw[cb h]
 case sliceX c a b=>rw[cb fun t ht=>h t (.inl (.inl ht)),cb fun t ht=>h t (.inl (.inr ht)),cb fun t ht=>h t (.inr ht)]
 case most x y=>rw[cb fun t ht=>h t (.inl ht),cb fun t ht=>h t (.inr ht)]
 case least x y=>rw[cb fun t ht=>h t (.inl ht),cb fun t ht=>h t (.inr ht)]
theorem bR0 {T:ia}{e e':dh}{σ:Hp}{op:AOp}{k:Value→Hp→Prop}(h: ∀t∈op.reads,e t=e' t)(hr:ck T op e σ k):ck T op e' σ k:=by
 by_cases hc:op.isCall=true
 ·cases op<;>simp[AOp.isCall]at hc
  case call f xs=>
   simp only[ck,AOp.reads]at*;rw[←ar3 h];exact hr
  case callv f xs=>
   simp only[ck,AOp.reads,aD]at*;rw[←ar3 fun t ht=>h t (.inr ht),←cb fun t ht=>h t (.inl ht)];exact hr
 ·unfold ck at*;cases op<;>simp[AOp.isCall]at hc<;>simp only at hr⊢ <;>rw[←aM5 h]<;>exact hr
def AOper.looks (o:AOper):List Nat:=o.op.reads++(match o.guard with|some (t,_)=>[t]|none=>[])
theorem ae8 {e e':dh}{o:AOper}(h: ∀t∈o.looks,e t=e' t):wanted o e=wanted o e':=by
 unfold wanted;unfold AOper.looks at h;cases hg:o.guard with
 |none=>rfl
 |some g=>
  rw[hg]at h;have:=h g.1 (by simp);simp only[this]
theorem aA1 {e:dh}{σ σ':Hp}{op:AOp}{v:Value}(hs:op.still=true)(h:op.run e σ=some (v,σ')):σ'=σ:=by
 cases op<;>simp[AOp.still]at hs<;>simp only[AOp.run]at h
 all_goals
  revert h
  repeat' split
  all_goals first
   |(intro h;cases h;done)
   |(intro h;simp only[Option.some.injEq,Prod.mk.injEq]at h;exact h.2.symm)
   |(intro h;obtain⟨_,_,h⟩:=Option.map_eq_some_iff.1 h;simp only[Prod.mk.injEq]at h;exact h.2.symm)
theorem co2 {e:dh}{σ:Hp}{op:AOp}{v:Value}(hs:op.still=true)(hl:op.isLoad=false)(h:op.run e σ=some (v,σ))(σ':Hp):op.run e σ'=some (v,σ'):=by
 cases op<;>simp[AOp.still]at hs
 case slice es x lo hi=>
  cases lo with
  |some _=>simp[AOp.isLoad]at hl
  |none=>
   simp only[AOp.run,yq,Bool.or_true,if_true]at h⊢;revert h
   repeat' split
   all_goals first
    |(intro h;cases h;done)
    |(intro h;simp only[Option.some.injEq,Prod.mk.injEq]at h⊢;exact⟨h.1,trivial⟩)
    |simp_all
 all_goals first
  |(simp[AOp.isLoad]at hl;done)
  |(simp only[AOp.run]at h⊢
    revert h
    repeat' split
    all_goals first
     |(intro h;cases h;done)
     |(intro h;simp only[Option.some.injEq,Prod.mk.injEq]at h⊢;exact⟨h.1,trivial⟩)
     |(intro h;obtain⟨u,hu,h⟩:=Option.map_eq_some_iff.1 h;simp only[Prod.mk.injEq]at h;rw[hu];simp[h.1]))
end
section
open Bool renaming and_eq_true → bB, not_eq_true' → eD
open List renaming mem_cons_of_mem → aB, mem_cons_self → aD, range → bD, find?_some → cB, getD_eq_getElem?_getD → cD, getElem?_eq_none → dB, all_eq_true → fB, mem_of_find?_eq_some → fD
open Nat renaming lt_or_ge → dD
open Go.RowKit
theorem ck4 {listed:Array Bool}{i:Nat}(h:listed.getD i true=false):listed.getD i false=false:=by
 rcases dD i listed.size with h'|h'
 ·simp[h']at h⊢;exact h
 ·simp[Array.getElem?_eq_none h']at h
theorem cC9 {listed:Array Bool}{i:Nat}(hi:i<listed.size)(h:listed.getD i false=false):listed.getD i true=false:=by
 simp[hi]at h⊢;exact h
abbrev DL :=List (AOper×List Nat)
def nA (al:DL)(i:Nat):Option Nat:=(al[i]?).bind (·.1.dst)
def as0 (al:DL)(i:Nat):List Nat:=match al[i]? with
 |some (o,_)=>o.looks
 |none=>[]
def ac3 (al:DL):Bool:=
 (bD al.length).all fun i=>
  (jk al i).all (fun q=>decide (q<i))&&
  (match nA al i with
   |none=>true
   |some t=>(bD al.length).all fun j=>i==j||((nA al j !=some t)&&(!(as0 al j).contains t||uF al i j||uF al j i)))
section
variable {al:DL}
theorem bL7 (h:ac3 al=true){i q:Nat}(hi:i<al.length)(hq:q∈jk al i):q<i:=by
 have:=List.all_eq_true.1 h i (List.mem_range.2 hi);simp only[bB,fB,decide_eq_true_eq]at this;exact this.1 q hq
theorem yP {i t:Nat}(h:nA al i=some t):i<al.length:=by
 unfold nA at h;rcases dD i al.length with h1|h1
 ·exact h1
 ·simp[dB h1]at h
theorem bW9 (h:ac3 al=true){i j t:Nat}(hi:nA al i=some t)(hj:nA al j=some t):i=j:=by
 have:=List.all_eq_true.1 h i (List.mem_range.2 (yP hi));simp only[bB,hi]at this;have:=List.all_eq_true.1 this.2 j (List.mem_range.2 (yP hj));by_cases e:i=j
 ·exact e
 ·simp[hj,e]at this
theorem bW8 (h:ac3 al=true){i j t:Nat}(hi:nA al i=some t)(hjl:j<al.length)(hj:t∈as0 al j)(hne:i≠j):uF al i j=true∨uF al j i=true:=by
 have:=List.all_eq_true.1 h i (List.mem_range.2 (yP hi));simp only[bB,hi]at this;have:=List.all_eq_true.1 this.2 j (List.mem_range.2 hjl);simp[hne,hj]at this;exact this.2
def xR (al:DL)(D:List Nat):Prop:= ∀i∈D,∀q∈jk al i,q∈D
theorem bY3 {acc ps:List Nat}{p:Nat}(h:(ay8 acc ps).testBit p=true): ∃q∈ps,q=p∨(acc.getD q 0).testBit p=true:=by
 have key: ∀(ps:List Nat) (m:Nat),(ps.foldl (fun m q=>m|||2 ^ q|||acc.getD q 0) m).testBit p=true→m.testBit p=true∨∃q∈ps,q=p∨(acc.getD q 0).testBit p=true:=by
  intro ps;induction ps with
  |nil=>intro m h;exact .inl h
  |cons q ps ih=>
   intro m h;rcases ih _ h with h1|⟨q',h1,h2⟩
   ·simp only[Nat.testBit_or,Nat.testBit_two_pow,Bool.or_eq_true,decide_eq_true_eq]at h1;rcases h1 with(h1|h1)|h1
    ·exact .inl h1
    ·exact .inr ⟨q,aD .., .inl h1⟩
    ·exact .inr ⟨q,aD .., .inr h1⟩
   ·exact .inr ⟨q',aB _ h1,h2⟩
 rcases key ps 0 h with h1|h1
 ·simp at h1
 ·exact h1
theorem bd6 {al0:DL}: ∀(r pre:DL) (acc:List Nat),pre++r=al0→acc.length=pre.length→
  (∀j p,(acc.getD j 0).testBit p=true→∃q∈jk al0 j,q=p∨(q<j∧(acc.getD q 0).testBit p=true))→
  ∀j p,((bN6 acc r).getD j 0).testBit p=true→∃q∈jk al0 j,q=p∨(q<j∧((bN6 acc r).getD q 0).testBit p=true)
 |[],pre,acc,_,_,h=>h
 |(o,ps)::r,pre,acc,he,hl,h=>by
  simp only[bN6];refine bd6 r (pre++[(o,ps)]) (acc++[ay8 acc ps]) (by rw[List.append_assoc];exact he) (by simp[hl]) fun j p hj=> ?_
  have hps:jk al0 acc.length=ps:=by
   unfold jk;rw[←he,hl,List.getElem?_append_right (Nat.le_refl _)];simp
  have hget: ∀q,q<acc.length→(acc++[ay8 acc ps]).getD q 0=acc.getD q 0:=by
   intro q hq;simp only[cD];rw[List.getElem?_append_left hq]
  by_cases h1:j<acc.length
  ·rw[hget j h1]at hj;obtain⟨q,h2,h3⟩:=h j p hj;refine⟨q,h2,h3.imp id fun⟨h4,h5⟩=>⟨h4, ?_⟩⟩;rw[hget q (by omega)];exact h5
  ·by_cases h2:j=acc.length
   ·subst h2;have:(acc++[ay8 acc ps]).getD acc.length 0=ay8 acc ps:=by simp
    rw[this]at hj;obtain⟨q,h3,h4⟩:=bY3 hj;refine⟨q,by rw[hps];exact h3,h4.imp id fun h5=> ?_⟩
    have hq:q<acc.length:=by
     rcases dD q acc.length with h6|h6
     ·exact h6
     ·simp[cD,dB h6]at h5
    exact⟨hq,by rw[hget q hq];exact h5⟩
   ·have:(acc++[ay8 acc ps]).getD j 0=0:=by
     simp only[cD];rw[dB (by simp;omega)];rfl
    rw[this]at hj;simp at hj
theorem ci6 {p j:Nat}(h:uF al p j=true): ∃q∈jk al j,q=p∨(q<j∧uF al p q=true):=
 bd6 al [] [] rfl rfl (fun j p h=>by simp at h) j p h
theorem xR.bef {D:List Nat}(h:xR al D): ∀(p j:Nat),uF al p j=true→(∀q∈jk al j,q∈D)→p∈D:=by
 intro p j;induction j using Nat.strongRecOn with
 |_ j ih=>
  intro hb hj;obtain⟨q,hq,rfl|⟨hlt,hb⟩⟩:=ci6 hb
  ·exact hj q hq
  ·exact ih q hlt hb (h q (hj q hq))
def jI (al:DL)(e0:dh)(val:Nat→Value)(D:List Nat):dh:=fun t=>match D.find? (fun i=>nA al i==some t)with
 |some i=>val i
 |none=>e0 t
theorem qt {e0:dh}{val:Nat→Value}{D:List Nat}(h:ac3 al=true){i t:Nat}(hi:i∈D)(hd:nA al i=some t):jI al e0 val D t=val i:=by
 unfold jI;cases hf:D.find? (fun i=>nA al i==some t)with
 |none=>
  have:=List.find?_eq_none.1 hf i hi;simp[hd]at this
 |some j=>
  have:=cB hf;simp only[beq_iff_eq]at this;rw[bW9 h this hd]
theorem oH {e0:dh}{val:Nat→Value}{D:List Nat}{t:Nat}(h: ∀i∈D,nA al i≠some t):jI al e0 val D t=e0 t:=by
 unfold jI;have:D.find? (fun i=>nA al i==some t)=none:=List.find?_eq_none.2 fun i hi=>by simpa using h i hi
 rw[this]
theorem wL {e0:dh}{val:Nat→Value}{D:List Nat}(h:ac3 al=true)(i:Nat)(hi:i∉D):jI al e0 val (i::D)=(jI al e0 val D).putO (nA al i) (val i):=by
 funext t
 cases hd:nA al i with
 |none=>
  simp only[dh.putO];by_cases hx: ∃j∈D,nA al j=some t
  ·obtain⟨j,hj,hjt⟩:=hx;rw[qt h (aB _ hj) hjt,qt h hj hjt]
  ·rw[oH (fun j hj hjt=>hx ⟨j,hj,hjt⟩)];refine oH fun j hj hjt=> ?_
   rcases List.mem_cons.1 hj with rfl|hj
   ·rw[hd]at hjt;cases hjt
   ·exact hx ⟨j,hj,hjt⟩
 |some d=>
  simp only[dh.putO,dh.put];split
  ·rename_i ht;subst ht;exact qt h (aD ..) hd
  ·rename_i ht;by_cases hx: ∃j∈D,nA al j=some t
   ·obtain⟨j,hj,hjt⟩:=hx;rw[qt h (aB _ hj) hjt,qt h hj hjt]
   ·rw[oH (fun j hj hjt=>hx ⟨j,hj,hjt⟩)];refine oH fun j hj hjt=> ?_
    rcases List.mem_cons.1 hj with rfl|hj
    ·rw[hd]at hjt;exact ht (Option.some.inj hjt).symm
    ·exact hx ⟨j,hj,hjt⟩
def ao9 (al:DL)(e0:dh)(val:Nat→Value)(j:Nat):dh:=fun t=>match(bD al.length).find? (fun i=>nA al i==some t&&uF al i j)with
 |some i=>val i
 |none=>e0 t
theorem bG1 {e0:dh}{val:Nat→Value}{D:List Nat}(h:ac3 al=true)(hD:xR al D){j:Nat}(hjl:j<al.length)(hj:j∉D)(hp: ∀q∈jk al j,q∈D){t:Nat}(ht:t∈as0 al j):
  jI al e0 val D t=ao9 al e0 val j t:=by
 unfold ao9;cases hf:(bD al.length).find? (fun i=>nA al i==some t&&uF al i j)with
 |some i=>
  have:=cB hf;simp only[bB,beq_iff_eq]at this;exact qt h (hD.bef _ _ this.2 hp) this.1
 |none=>
  refine oH fun i hi hit=> ?_
  have h1:=List.find?_eq_none.1 hf i (List.mem_range.2 (yP hit));simp only[hit,beq_self_eq_true,Bool.true_and]at h1;have hne:i≠j:=fun e=>hj (e▸hi)
  rcases bW8 h hit hjl ht hne with hb|hb
  ·exact h1 hb
  ·exact hj (hD.bef _ _ hb (hD i hi))
theorem cy5 {e0:dh}{val val':Nat→Value}{D:List Nat}(hD:xR al D){j:Nat}(hj:j∈D)(hv: ∀i∈D,val' i=val i):ao9 al e0 val' j=ao9 al e0 val j:=by
 funext t
 unfold ao9;cases hf:(bD al.length).find? (fun i=>nA al i==some t&&uF al i j)with
 |none=>rfl
 |some i=>
  have:=cB hf;simp only[bB,beq_iff_eq]at this;exact hv i (hD.bef _ _ this.2 (hD j hj))
theorem ar2 {e0:dh}{val val':Nat→Value}{D:List Nat}(hv: ∀i∈D,val' i=val i):jI al e0 val' D=jI al e0 val D:=by
 funext t
 unfold jI;cases hf:D.find? (fun i=>nA al i==some t)with
 |none=>rfl
 |some i=>exact hv i (fD hf)
def left (n:Nat)(D:List Nat):Nat:=((bD n).filter fun i=> !D.contains i).length
theorem aL1 {n i:Nat}{D:List Nat}(hi:i<n)(hD:i∉D):left n (i::D)<left n D:=by
 unfold left
 have:(bD n).filter (fun j=> !(i::D).contains j)=((bD n).filter fun j=> !D.contains j).filter fun j=>j !=i:=by
  rw[List.filter_filter];apply List.filter_congr;intro j _;simp only[List.contains_cons,Bool.not_or];rfl
 rw[this];refine List.length_filter_lt_length_iff_exists.2 ⟨i, ?_,by simp⟩;simp[hi,hD]
theorem aL2 {n:Nat}{D:List Nat}(h:left n D=0){i:Nat}(hi:i<n):i∈D:=by
 unfold left at h;have:=List.eq_nil_of_length_eq_zero h;rw[List.filter_eq_nil_iff]at this;have:=this i (List.mem_range.2 hi);simpa using this
theorem ct7 {n i:Nat}{D:List Nat}(hi:i<n)(hD:i∉D):0<left n D:=by
 rcases Nat.eq_zero_or_pos (left n D)with h|h
 ·exact absurd (aL2 h hi) hD
 ·exact h
end
section
variable {P:Program} {T:ia} {al:DL} {ops:Array Oper} {B:Base P} {N:Nat}
structure Fits (P:Program)(N:Nat)(ops:Array Oper)(al:DL):Prop where
 len:ops.size=al.length
 op: ∀(i:Nat) o,ops[i]?=some o→∃x,al[i]?=some (x,jk al i)∧aN3 P N ops o=some x
 pred: ∀(i:Nat) o,ops[i]?=some o→∀q,q∈jk al i↔∃e∈o.after,Region.binds .any e=true∧e.on=q
def aP0 (al:DL)(e0:dh)(val:Nat→Value)(σ:Hp)(chk:List (Nat×(Hp→Prop)))(j:Nat):Prop:=
 ∃x p,al[j]?=some (x,p)∧x.op.still=true∧
  ((wanted x (ao9 al e0 val j)=true∧x.op.run (ao9 al e0 val j) σ=some (val j,σ)∧
   (x.op.isLoad=true→∃c,(j,c)∈chk∧∀σ',c σ'→x.op.run (ao9 al e0 val j) σ'=some (val j,σ')))∨
   (wanted x (ao9 al e0 val j)=false∧val j=undef))
structure Inv (al:DL)(e0:dh)(val:Nat→Value)(σ:Hp)(chk:List (Nat×(Hp→Prop)))(D L:List Nat):Prop where
 dc:xR al D
 lc:xR al L
 sub: ∀i∈L,i∈D
 lt: ∀i∈D,i<al.length
 tells: ∀j∈D,j∉L→aP0 al e0 val σ chk j
theorem az2 {D:List Nat}{i:Nat}:bF2 al D i=true↔i∉D∧∀q∈jk al i,q∈D:=by
 unfold bF2;simp only[bB,eD,fB,List.contains_iff_mem];constructor
 ·rintro⟨h1,h2⟩;exact⟨fun h=>by simp[h]at h1,h2⟩
 ·rintro⟨h1,h2⟩;exact⟨by simpa using h1,h2⟩
theorem wZ {D:List Nat}{i:Nat}(h:jV al D=some i):i<al.length∧i∉D∧(∀q∈jk al i,q∈D)∧ae4 al i=true:=by
 unfold jV at h;have h1:=cB h;have h2:=fD h;simp only[bB]at h1;obtain⟨h3,h4⟩:=az2.1 h1.1;exact⟨List.mem_range.1 h2,h3,h4,h1.2⟩
theorem be0 {D:List Nat}(h:jV al D=none){i:Nat}(hi:i<al.length)(h1:i∉D)(h2: ∀q∈jk al i,q∈D):ae4 al i=false:=by
 unfold jV at h;have:=List.find?_eq_none.1 h i (List.mem_range.2 hi);simp only[az2.2 ⟨h1,h2⟩,Bool.true_and]at this;simpa using this
theorem wY {D:List Nat}{i:Nat}:i∈ei al D↔i<al.length∧i∉D∧(∀q∈jk al i,q∈D)∧ae4 al i=false:=by
 unfold ei;simp only[List.mem_filter,List.mem_range,bB,eD,az2,and_assoc]
theorem bK2 {f:Nat→Prop}: ∀{l:List Nat},bm2 f l→∀m∈l,f m
 |[],_,m,hm=>by cases hm
 |[x],h,m,hm=>by simp at hm;subst hm;exact h
 |x::y::r,h,m,hm=>by
  rcases List.mem_cons.1 hm with rfl|hm
  ·exact h.1
  ·exact bK2 h.2 m hm
def upd (val:Nat→Value)(i:Nat)(v:Value):Nat→Value:=fun k=>if k=i then v else val k
theorem aP0.upd {e0:dh}{val:Nat→Value}{σ:Hp}{chk:List (Nat×(Hp→Prop))}{D:List Nat}{i j:Nat}{v:Value}(hD:xR al D)(hj:j∈D)(hi:i∉D)(h:aP0 al e0 val σ chk j):aP0 al e0 (upd val i v) σ chk j:=by
 obtain⟨x,p,h1,h2,h3⟩:=h;have hv: ∀k∈D,Ab.upd val i v k=val k:=fun k hk=>zF fun(e:k=i)=>hi (e▸hk)
 have hs:=cy5 (e0:=e0) hD hj hv;refine⟨x,p,h1,h2, ?_⟩;rw[hs,hv j hj];exact h3
theorem aP0.more {e0:dh}{val:Nat→Value}{σ:Hp}{chk chk':List (Nat×(Hp→Prop))}{j:Nat}(h:aP0 al e0 val σ chk j)(hc: ∀c∈chk,c∈chk'):aP0 al e0 val σ chk' j:=by
 obtain⟨x,p,h1,h2,h3⟩:=h;refine⟨x,p,h1,h2,h3.imp (fun⟨k1,k2,k3⟩=>⟨k1,k2,fun hl=> ?_⟩) id⟩;obtain⟨c,k4,k5⟩:=k3 hl;exact⟨c,hc _ k4,k5⟩
theorem bB2 {Q:dh→Hp→Prop}(hok:ac3 al=true){e0:dh}{σ:Hp}{L:List Nat}: ∀(f:Nat) (val:Nat→Value) (D:List Nat) (chk:List (Nat×(Hp→Prop))) (e:dh),wpD T Q al f D chk e σ→left al.length D≤f→e=jI al e0 val D→
  Inv al e0 val σ chk D L→∃f' val' D' chk',wpD T Q al f' D' chk' (jI al e0 val' D') σ∧left al.length D'≤f'∧Inv al e0 val' σ chk' D' L∧jV al D'=none∧(∀i∈D,val' i=val i)∧∀i∈D,i∈D'
 |0,val,D,chk,e,h,hf,he,hI=>by
  have hall: ∀i,i<al.length→i∈D:=fun i hi=>aL2 (by omega) hi
  refine⟨0,val,D,chk,by rw[←he];exact h,hf,hI, ?_,fun _ _=>rfl,fun _ hi=>hi⟩;cases hn:jV al D with
  |none=>rfl
  |some i=>exact absurd (hall i (wZ hn).1) (wZ hn).2.1
 |f+1,val,D,chk,e,h,hf,he,hI=>by
  cases hn:jV al D with
  |none=>exact⟨f+1,val,D,chk,by rw[←he];exact h,hf,hI,hn,fun _ _=>rfl,fun _ hi=>hi⟩
  |some i=>
   obtain⟨h1,h2,h3,h4⟩:=wZ hn;simp only[wpD,hn]at h;split at h
   ·rename_i x p hx;have hst:x.op.still=true:=by simpa[ae4,hx]using h4
    have hlooks: ∀t∈x.looks,e t=ao9 al e0 val i t:=by
     intro t ht;rw[he];exact bG1 hok hI.dc h1 h2 h3 (by simpa[as0,hx]using ht)
    have hdst:nA al i=x.dst:=by simp[nA,hx]
    have hleft:left al.length (i::D)≤f:=by have:=aL1 h1 h2;omega
    have hDc:xR al (i::D):=by
     intro k hk q hq;rcases List.mem_cons.1 hk with rfl|hk
     ·exact aB _ (h3 q hq)
     ·exact aB _ (hI.dc k hk q hq)
    have step: ∀(v:Value) (chk':List (Nat×(Hp→Prop))),wpD T Q al f (i::D) chk' (e.putO x.dst v) σ→(∀c∈chk,c∈chk')→aP0 al e0 (upd val i v) σ chk' i→
      ∃f' val' D' chk',wpD T Q al f' D' chk' (jI al e0 val' D') σ∧left al.length D'≤f'∧Inv al e0 val' σ chk' D' L∧jV al D'=none∧(∀i∈D,val' i=val i)∧∀i∈D,i∈D':=by
     intro v chk' hw hc ht;have hval: ∀k∈D,upd val i v k=val k:=fun k hk=>zF fun(e:k=i)=>h2 (e▸hk)
     have henv:e.putO x.dst v=jI al e0 (upd val i v) (i::D):=by
      rw[wL hok i h2,ar2 hval,hdst,←he]
      congr 1
      exact(zE rfl).symm
     obtain⟨f',val',D',chk'',g1,g2,g3,g4,g5,g6⟩:=bB2 hok f (upd val i v) (i::D) chk' _ hw hleft henv ⟨hDc,hI.lc,fun k hk=>aB _ (hI.sub k hk),fun k hk=>(List.mem_cons.1 hk).elim (fun e=>e▸h1) (hI.lt k),fun j hj hjL=>by
      rcases List.mem_cons.1 hj with rfl|hj
      ·exact ht
      ·exact((hI.tells j hj hjL).upd hI.dc hj h2).more hc⟩
     exact⟨f',val',D',chk'',g1,g2,g3,g4,fun k hk=>(g5 k (aB _ hk)).trans (hval k hk),fun k hk=>g6 k (aB _ hk)⟩
    have hseen: ∀v,ao9 al e0 (upd val i v) i=ao9 al e0 val i:=by
     intro v
     funext t
     unfold ao9;cases hf':(bD al.length).find? (fun k=>nA al k==some t&&uF al k i)with
     |none=>rfl
     |some k=>
      have:=cB hf';simp only[bB,beq_iff_eq]at this;exact zF fun(e:k=i)=>h2 (e▸hI.dc.bef _ _ this.2 h3)
    have hw0:=ae8 hlooks;have hr0: ∀σ',x.op.run e σ'=x.op.run (ao9 al e0 val i) σ':=fun σ'=>aM5 fun t ht=>hlooks t (by simp[AOper.looks,ht])
    split at h
    ·rename_i hwant;split at h
     ·rename_i v σ1 hrun;obtain rfl:=aA1 hst hrun;refine step v _ h (fun c hc=>by split<;>simp[hc]) ⟨x,p,hx,hst, .inl ⟨by rw[hseen,←hw0];exact hwant,by rw[hseen,←hr0];rw[hrun];congr 2;exact(zE rfl).symm,fun hl=> ?_⟩⟩;refine⟨_,by rw[zE hl];exact aD ..,fun σ' hσ'=> ?_⟩;rw[hseen,←hr0,hσ']
      congr 2
      exact(zE rfl).symm
     ·exact h.elim
    ·rename_i hwant;exact step undef chk h (fun c hc=>hc) ⟨x,p,hx,hst, .inr ⟨by rw[hseen,←hw0];simpa using hwant,zE rfl⟩⟩
   ·exact h.elim
theorem aL0 {m:Nat}{σ:Hp}: ∀{chk:List (Nat×(Hp→Prop))},ag3 al m σ chk→∀j c,(j,c)∈chk→uF al j m=false→c σ
 |[],_,j,c,h,_=>by cases h
 |(i,d)::r,hk,j,c,h,hb=>by
  simp only[ag3]at hk;rcases List.mem_cons.1 h with h|h
  ·injection h with h1 h2
   subst h1 h2;rw[zF (by simp[hb])]at hk;exact hk.1
  ·split at hk
   ·exact aL0 hk j c h hb
   ·exact aL0 hk.2 j c h hb
theorem Fits.ready (hF:Fits P N ops al){listed:Array Bool}{L:List Nat}(hs:listed.size=ops.size)(hL: ∀i,i<ops.size→(listed.getD i false=true↔i∈L))(hlt: ∀i∈L,i<ops.size){i:Nat}:
  i∈Region.ready .any ops listed↔i<al.length∧i∉L∧∀q∈jk al i,q∈L:=by
 have hg: ∀k,listed.getD k false=true↔k∈L:=by
  intro k;by_cases hk:k<ops.size
  ·exact hL k hk
  ·constructor
   ·intro h;have:listed.getD k false=false:=by simp[Array.getElem?_eq_none (show listed.size≤k by omega)]
    rw[this]at h;cases h
   ·intro h;exact absurd (hlt k h) hk
 rw[mem_ready];constructor
 ·rintro⟨h1,o,h2,h3⟩;have hi:i<ops.size:=(Array.getElem?_eq_some_iff.1 h2).1;refine⟨hF.len▸hi,fun h=> ?_,fun q hq=> ?_⟩
  ·have h4:=(hg i).2 h;rw[ck4 h1]at h4;cases h4
  ·obtain⟨e,h4,h5,rfl⟩:=(hF.pred i o h2 q).1 hq;exact(hg _).1 (h3 e h4 h5)
 ·rintro⟨h1,h2,h3⟩;have hi:i<ops.size:=hF.len▸h1;refine⟨cC9 (by omega) ?_,ops[i],Array.getElem?_eq_getElem hi,fun e he hb=>(hg _).2 (h3 _ ((hF.pred i _ (Array.getElem?_eq_getElem hi) _).2 ⟨e,he,hb,rfl⟩))⟩;cases hh:listed.getD i false with
  |true=>exact absurd ((hg i).1 hh) h2
  |false=>rfl
theorem cC0 (hT: ∀f,Sim P f (T f))(hF:Fits P N ops al)(hok:ac3 al=true){Q:AExit→dh→Hp→Prop}{e0:dh}{μ0:Mu}{w0:World}: ∀(fuel:Nat) (f:Nat) (val:Nat→Value) (D L:List Nat) (chk:List (Nat×(Hp→Prop))) (listed:Array Bool) (σ:Hp) (μ:Mu) (a:Act) (w:World),
  wpD T (Q .normal) al f D chk (jI al e0 val D) σ→left al.length D≤f→left al.length L≤fuel→Inv al e0 val σ chk D L→listed.size=ops.size→(∀i,i<ops.size→(listed.getD i false=true↔i∈L))→
  R B μ σ w→fp μ N (jI al e0 val L) a.tmps→a.defers=[]→μ0.le μ→Below B w0 w→wpAny P .any ops (rA B N μ0 w0 Q) fuel listed a w:=by
 intro fuel;induction fuel with
 |zero=>
  intro f val D L chk listed σ μ a w h hf hfu hI hs hL hR he hd hμ hb;have hall: ∀i,i<al.length→i∈L:=fun i hi=>aL2 (by omega) hi
  have hlt: ∀i∈L,i<ops.size:=fun i hi=>by rw[hF.len];exact hI.lt i (hI.sub i hi)
  have hnil:Region.ready .any ops listed=[]:=by
   cases hr:Region.ready .any ops listed with
   |nil=>rfl
   |cons i r=>
    have:=(hF.ready hs hL hlt (i:=i)).1 (by rw[hr];exact aD ..);exact absurd (hall i this.1) this.2.1
  refine⟨hnil, ?_⟩;obtain⟨f',val',D',chk',g1,g2,g3,g4,g5,g6⟩:=bB2 (Q:=Q .normal) hok f val D chk _ h hf rfl hI
  have hq:Q .normal (jI al e0 val' D') σ:=by
   have hmv:ei al D'=[]:=by
    cases hm:ei al D' with
    |nil=>rfl
    |cons i r=>
     have:=wY.1 (show i∈ei al D' by rw[hm];exact aD ..);exact absurd (g6 i (hI.sub i (hall i this.1))) this.2.1
   cases f' with
   |zero=>exact g1
   |succ f'=>simp only[wpD,g4,hmv]at g1;exact g1
  have henv:jI al e0 val' D'=jI al e0 val L:=by
   funext t
   by_cases hx: ∃j,j<al.length∧nA al j=some t
   ·obtain⟨j,hj,hjt⟩:=hx;rw[qt hok (g6 j (hI.sub j (hall j hj))) hjt,qt hok (hall j hj) hjt,g5 j (hI.sub j (hall j hj))]
   ·rw[oH (fun j _ hjt=>hx ⟨j,yP hjt,hjt⟩),oH (fun j _ hjt=>hx ⟨j,yP hjt,hjt⟩)]
  rw[henv]at hq;exact⟨.normal,_,σ,μ,trivial,hq,hμ,hR,he,hd,hb⟩
 |succ fuel ih=>
  intro f val D L chk listed σ μ a w h hf hfu hI hs hL hR he hd hμ hb;have hlt: ∀i∈L,i<ops.size:=fun i hi=>by rw[hF.len];exact hI.lt i (hI.sub i hi)
  obtain⟨f',val',D',chk',g1,g2,g3,g4,g5,g6⟩:=bB2 (Q:=Q .normal) hok f val D chk _ h hf rfl hI;have hvL: ∀i∈L,val' i=val i:=fun i hi=>g5 i (hI.sub i hi)
  have he':fp μ N (jI al e0 val' L) a.tmps:=by rw[ar2 hvL];exact he
  have hL': ∀i,i<ops.size→∀(hi:i∉L),(∀k,k<ops.size→((listed.setIfInBounds i true).getD k false=true↔k∈i::L)):=by
   intro i hi hiL k hk;by_cases e:k=i
   ·subst e;simp[hs,hk]
   ·rw[getD_set_ne false (fun e'=>e e'.symm)];rw[hL k hk];simp[e]
  have hLc: ∀i,(∀q∈jk al i,q∈L)→xR al (i::L):=by
   intro i hp k hk q hq;rcases List.mem_cons.1 hk with rfl|hk
   ·exact aB _ (hp q hq)
   ·exact aB _ (hI.lc k hk q hq)
  refine⟨fun hnil=> ?_,fun i hi=> ?_⟩
  ·
   have hDL: ∀j∈D',j∈L:=by
    intro j;induction j using Nat.strongRecOn with
    |_ j ihj=>
     intro hj;by_cases hjL:j∈L
     ·exact hjL
     ·exfalso;have hr:=(hF.ready hs hL hlt (i:=j)).2 ⟨g3.lt j hj,hjL,fun q hq=>ihj q (bL7 hok (g3.lt j hj) hq) (g3.dc j hj q hq)⟩;rw[hnil]at hr;cases hr
   have hq:Q .normal (jI al e0 val' D') σ:=by
    have hmv:ei al D'=[]:=by
     cases hm:ei al D' with
     |nil=>rfl
     |cons i r=>
      exfalso;have:=wY.1 (show i∈ei al D' by rw[hm];exact aD ..);have hr:=(hF.ready hs hL hlt (i:=i)).2 ⟨this.1,fun h=>this.2.1 (g3.sub i h),fun q hq=>hDL q (this.2.2.1 q hq)⟩;rw[hnil]at hr;cases hr
    cases f' with
    |zero=>exact g1
    |succ f'=>simp only[wpD,g4,hmv]at g1;exact g1
   have henv:jI al e0 val' D'=jI al e0 val' L:=by
    funext t
    by_cases hx: ∃j∈L,nA al j=some t
    ·obtain⟨j,hj,hjt⟩:=hx;rw[qt hok (g3.sub j hj) hjt,qt hok hj hjt]
    ·rw[oH (fun j hj hjt=>hx ⟨j,hDL j hj,hjt⟩),oH (fun j hj hjt=>hx ⟨j,hj,hjt⟩)]
   rw[henv]at hq;exact⟨.normal,_,σ,μ,trivial,hq,hμ,hR,he',hd,hb⟩
  ·
   obtain⟨k1,k2,k3⟩:=(hF.ready hs hL hlt).1 hi;have hio:i<ops.size:=hF.len▸k1;have hoi:ops[i]?=some ops[i]:=Array.getElem?_eq_getElem hio;obtain⟨x,hx,htr⟩:=hF.op i _ hoi;have hfu':left al.length (i::L)≤fuel:=by have:=aL1 k1 k2;omega
   have hs':(listed.setIfInBounds i true).size=ops.size:=by simpa using hs
   have hdst:nA al i=x.dst:=by simp[nA,hx]
   unfold aN3 at htr;split at htr
   case h_2=>cases htr
   rename_i op g t1 t2;split at htr
   case isFalse=>cases htr
   rename_i t3;injection htr with htr
   subst htr
   have hlooks: ∀t∈(⟨ops[i].dst,op,g⟩:AOper).looks,jI al e0 val' L t=ao9 al e0 val' i t:=by
    intro t ht;exact bG1 hok g3.lc k1 k2 k3 (by simpa[as0,hx]using ht)
   have hwant:=bt2 (op:=op) t2 he';rw[ae8 hlooks]at hwant;unfold wpOp;rw[hoi];simp only;rw[hwant];by_cases hiD:i∈D'
   ·
    obtain⟨x',p,y1,y2,y3⟩:=g3.tells i hiD k2;rw[hx]at y1;injection y1 with y1
    injection y1 with y1 _
    subst y1
    have hInv': ∀(μ':Mu) (w':World),Inv al e0 val' σ chk' D' (i::L):=fun μ' w'=>
     ⟨g3.dc,hLc i k3,fun k hk=>(List.mem_cons.1 hk).elim (fun e=>e▸hiD) (g3.sub k),g3.lt,fun j hj hjL=>g3.tells j hj fun h=>hjL (aB _ h)⟩
    rcases y3 with⟨y4,y5,_⟩|⟨y4,y5⟩
    ·rw[y4];rw[zE rfl];left
     have hrun:ck T op (jI al e0 val' L) σ fun v σ'=>v=val' i∧σ'=σ:=by
      have:op.run (jI al e0 val' L) σ=some (val' i,σ):=by
       rw[aM5 (e':=ao9 al e0 val' i) fun t ht=>hlooks t (by simp[AOper.looks,ht])];exact y5
      unfold ck;cases op<;>simp[AOp.still]at y2<;>simp only[this]<;>exact⟨trivial,trivial⟩
     refine bg1 hT t1 hrun he' hR fun v σ' v' μ' w' hk hμ' hR' hv hbel=> ?_
     obtain⟨rfl,rfl⟩:=hk;refine ih f' val' D' (i::L) chk' _ σ' μ' _ w' g1 g2 hfu' (hInv' μ' w') hs' (hL' i hio k2) hR' ?_ (by rw[td];exact hd) (Mu.le_trans hμ hμ') (hb.trans hbel);rw[wL hok i k2,hdst];exact(he'.mono hμ').putO t3 hv
    ·rw[y4];simp only[Bool.false_eq_true,if_false];refine ih f' val' D' (i::L) chk' _ σ μ _ w g1 g2 hfu' (hInv' μ w) hs' (hL' i hio k2) hR ?_ (by rw[td];exact hd) hμ hb;rw[wL hok i k2,hdst,y5];exact he'.putO t3 (VR.undef μ)
   ·
    have hpD: ∀q∈jk al i,q∈D':=fun q hq=>g3.sub q (k3 q hq)
    have hst:=be0 g4 k1 hiD hpD;have hmem:i∈ei al D':=wY.2 ⟨k1,hiD,hpD,hst⟩
    have hlooksD: ∀t∈(⟨ops[i].dst,op,g⟩:AOper).looks,jI al e0 val' D' t=ao9 al e0 val' i t:=by
     intro t ht;exact bG1 hok g3.dc k1 hiD hpD (by simpa[as0,hx]using ht)
    have hsame: ∀t∈(⟨ops[i].dst,op,g⟩:AOper).looks,jI al e0 val' D' t=jI al e0 val' L t:=fun t ht=>(hlooksD t ht).trans (hlooks t ht).symm
    obtain⟨f'',rfl⟩: ∃f'',f'=f''+1:=⟨f'-1,by have:=ct7 k1 hiD;omega⟩
    have hleft:left al.length (i::D')≤f'':=by have:=aL1 k1 hiD;omega
    simp only[wpD,g4]at g1
    have hcomp:(if wanted ⟨ops[i].dst,op,g⟩ (jI al e0 val' D')then ck T op (jI al e0 val' D') σ fun v σ'=>ag3 al i σ' chk'∧wpD T (Q .normal) al f'' (i::D') chk' ((jI al e0 val' D').putO ops[i].dst v) σ'
      else wpD T (Q .normal) al f'' (i::D') chk' ((jI al e0 val' D').putO ops[i].dst undef) σ):=by
     cases hm:ei al D' with
     |nil=>rw[hm]at hmem;cases hmem
     |cons m r=>
      rw[hm]at g1 hmem;simp only at g1;have:=bK2 g1 i hmem;simp only[hx]at this;exact this
    rw[ae8 hlooksD]at hcomp
    have hDc:xR al (i::D'):=by
     intro k hk q hq;rcases List.mem_cons.1 hk with rfl|hk
     ·exact aB _ (hpD q hq)
     ·exact aB _ (g3.dc k hk q hq)
    have hlag: ∀j∈i::D',j∉i::L→j∈D'∧j∉L:=fun j hj hjL=>
     ⟨(List.mem_cons.1 hj).elim (fun e=>absurd (e▸aD ..) hjL) id,fun h=>hjL (aB _ h)⟩
    have hval: ∀v,∀k∈D',upd val' i v k=val' k:=fun v k hk=>zF fun(e:k=i)=>hiD (e▸hk)
    have henvD: ∀v,(jI al e0 val' D').putO ops[i].dst v=jI al e0 (upd val' i v) (i::D'):=by
     intro v;rw[wL hok i hiD,ar2 (hval v),hdst]
     congr 1
     exact(zE rfl).symm
    have henvL: ∀v,(jI al e0 val' L).putO ops[i].dst v=jI al e0 (upd val' i v) (i::L):=by
     intro v;rw[wL hok i k2,ar2 (fun k hk=>hval v k (g3.sub k hk)),hdst]
     congr 1
     exact(zE rfl).symm
    split at hcomp
    ·rename_i hw1;rw[hw1,zE rfl];left;refine bg1 hT t1 (bR0 (fun t ht=>hsame t (by simp[AOper.looks,ht])) hcomp) he' hR fun v σ' v' μ' w' hk hμ' hR' hv hbel=> ?_
     obtain⟨hk1,hk2⟩:=hk;rw[henvD v]at hk2;refine ih f'' (upd val' i v) (i::D') (i::L) chk' _ σ' μ' _ w' hk2 hleft hfu' ⟨hDc,hLc i k3,fun k hk=>(List.mem_cons.1 hk).elim (fun e=>e▸aD ..) fun h=>aB _ (g3.sub k h),fun k hk=>(List.mem_cons.1 hk).elim (fun e=>e▸k1) (g3.lt k),fun j hj hjL=> ?_⟩ hs' (hL' i hio k2) hR' ?_ (by rw[td];exact hd) (Mu.le_trans hμ hμ') (hb.trans hbel)
     ·obtain⟨hjD,hjL'⟩:=hlag j hj hjL;have ht:=(g3.tells j hjD hjL').upd (i:=i) (v:=v) g3.dc hjD hiD;obtain⟨x',p,z1,z2,z3⟩:=ht;refine⟨x',p,z1,z2,z3.imp (fun⟨z4,z5,z6⟩=>⟨z4, ?_,z6⟩) id⟩;cases hl:x'.op.isLoad with
      |false=>exact co2 z2 hl z5 σ'
      |true=>
       obtain⟨c,z7,z8⟩:=z6 hl;refine z8 σ' (aL0 hk1 j c z7 ?_);cases hbf:uF al j i with
       |false=>rfl
       |true=>exact absurd (g3.lc.bef _ _ hbf k3) hjL'
     ·rw[←henvL v];exact(he'.mono hμ').putO t3 hv
    ·rename_i hw1;rw[zF hw1];rw[henvD undef]at hcomp;refine ih f'' (upd val' i undef) (i::D') (i::L) chk' _ σ μ _ w hcomp hleft hfu' ⟨hDc,hLc i k3,fun k hk=>(List.mem_cons.1 hk).elim (fun e=>e▸aD ..) fun h=>aB _ (g3.sub k h),fun k hk=>(List.mem_cons.1 hk).elim (fun e=>e▸k1) (g3.lt k),fun j hj hjL=> ?_⟩ hs' (hL' i hio k2) hR ?_ (by rw[td];exact hd) hμ hb
     ·obtain⟨hjD,hjL'⟩:=hlag j hj hjL;exact(g3.tells j hjD hjL').upd g3.dc hjD hiD
     ·rw[←henvL undef];exact he'.putO t3 (VR.undef μ)
end
end
section
open Go.RowKit
def qZ (T:ia):Prop:= ∀f args σ (K K':Value→Hp→Prop),(∀r σ',K r σ'→K' r σ')→T f args σ K→T f args σ K'
theorem ol {T:ia}(hT:qZ T){op:AOp}{e:dh}{σ:Hp}{k k':Value→Hp→Prop}(hk: ∀v σ',k v σ'→k' v σ')(h:ck T op e σ k):ck T op e σ k':=by
 unfold ck at*;cases op<;>simp only at h⊢
 case call f xs=>exact hT _ _ _ _ _ hk h
 case callv f xs=>
  split at h
  ·exact hT _ _ _ _ _ hk h
  ·exact h.elim
 all_goals
  split at h
  ·exact hk _ _ h
  ·exact h.elim
section
variable {T:ia}
theorem ae9 (hT:qZ T){Q Q':dh→Hp→Prop}(hq: ∀e σ,Q e σ→Q' e σ): ∀(l:List AOper) (e:dh) (σ:Hp),xf T Q l e σ→xf T Q' l e σ
 |[],e,σ,h=>hq e σ h
 |o::l,e,σ,h=>by
  simp only[xf]at h⊢;split at h
  ·rename_i hw;rw[zE hw];exact ol hT (fun v σ' hk=>ae9 hT hq l _ σ' hk) h
  ·rename_i hw;rw[zF hw];exact ae9 hT hq l _ σ h
theorem bn9 {f g:Nat→Prop}(h: ∀m,f m→g m): ∀{l:List Nat},bm2 f l→bm2 g l
 |[],_=>trivial
 |[_],hf=>h _ hf
 |_::_::_,hf=>⟨h _ hf.1,bn9 h hf.2⟩
theorem aq3 (hT:qZ T){Q Q':dh→Hp→Prop}(hq: ∀e σ,Q e σ→Q' e σ){ops:List (AOper×List Nat)}: ∀(f:Nat) (done:List Nat) (chk:List (Nat×(Hp→Prop))) (e:dh) (σ:Hp),wpD T Q ops f done chk e σ→wpD T Q' ops f done chk e σ
 |0,done,chk,e,σ,h=>hq e σ h
 |f+1,done,chk,e,σ,h=>by
  simp only[wpD]at h⊢;split at h
  ·split at h
   ·split at h
    ·rename_i hw;rw[zE hw];split at h
     ·exact aq3 hT hq f _ _ _ _ h
     ·exact h.elim
    ·rename_i hw;rw[zF hw];exact aq3 hT hq f _ _ _ _ h
   ·exact h.elim
  ·split at h
   ·exact hq e σ h
   ·refine bn9 (fun m hm=> ?_) h;split at hm
    ·split at hm
     ·rename_i hw;rw[zE hw];exact ol hT (fun v σ' hk=>⟨hk.1,aq3 hT hq f _ _ _ _ hk.2⟩) hm
     ·rename_i hw;rw[zF hw];exact aq3 hT hq f _ _ _ _ hm
    ·exact hm.elim
theorem aq4 (hT:qZ T){Q Q':dh→Hp→Prop}(hq: ∀e σ,Q e σ→Q' e σ): ∀(l:List SItem) (chk:List (Nat×(Hp→Prop))) (e:dh) (σ:Hp),wpI T Q l chk e σ→wpI T Q' l chk e σ
 |[],_,e,σ,h=>hq e σ h
 |it::l,chk,e,σ,h=>by
  simp only[wpI]at h⊢;split at h
  ·rename_i hw;rw[zE hw];split at h
   ·rename_i hm;rw[zE hm];exact ol hT (fun v σ' hk=>⟨hk.1,aq4 hT hq l _ _ σ' hk.2⟩) h
   ·rename_i hm;rw[zF hm];split at h
    ·exact aq4 hT hq l _ _ σ h
    ·exact h.elim
  ·rename_i hw;rw[zF hw];exact aq4 hT hq l _ _ σ h
theorem aq5 {f:(AExit→dh→Hp→Prop)→dh→Hp→Prop}(hf: ∀(Q Q':AExit→dh→Hp→Prop),(∀x e σ,Q x e σ→Q' x e σ)→∀e σ,f Q e σ→f Q' e σ){Q Q':AExit→dh→Hp→Prop}(hq: ∀x e σ,Q x e σ→Q' x e σ):
  ∀(n:Nat) (e:dh) (σ:Hp),lf f Q n e σ→lf f Q' n e σ
 |0,_,_,h=>h.elim
 |n+1,e,σ,h=>by
  simp only[lf]at h⊢;refine hf _ _ (fun x e' σ' hx=> ?_) e σ h;cases x with
  |normal=>exact aq5 hf hq n e' σ' hx
  |exit id=>exact hq _ _ _ hx
  |ret=>exact hq _ _ _ hx
theorem ic (hT:qZ T): ∀(c:AC) (Q Q':AExit→dh→Hp→Prop),(∀x e σ,Q x e σ→Q' x e σ)→∀(e:dh) (σ:Hp),vb T c Q e σ→vb T c Q' e σ:=by
 intro c;induction c with
 |skip=>intro Q Q' hq e σ h;exact hq _ _ _ h
 |region ops=>intro Q Q' hq e σ h;exact ae9 hT (hq .normal) ops e σ h
 |draw ops=>intro Q Q' hq e σ h;exact aq3 hT (hq .normal) _ _ _ e σ h
 |sched its=>intro Q Q' hq e σ h;exact aq4 hT (hq .normal) its [] e σ h
 |seq a b iha ihb=>
  intro Q Q' hq e σ h;refine iha _ _ (fun x e' σ' hx=> ?_) e σ h;cases x with
  |normal=>exact ihb Q Q' hq e' σ' hx
  |exit id=>exact hq _ _ _ hx
  |ret=>exact hq _ _ _ hx
 |cond c a b iha ihb=>
  intro Q Q' hq e σ h;simp only[vb]at h⊢;split at h
  ·exact iha Q Q' hq e σ h
  ·exact ihb Q Q' hq e σ h
  ·exact h.elim
 |block id b ih=>
  intro Q Q' hq e σ h;refine ih _ _ (fun x e' σ' hx=> ?_) e σ h;cases x with
  |normal=>exact hq _ _ _ hx
  |exit i=>
   simp only at hx⊢;split at hx
   ·rename_i hi;rw[zE hi];exact hq _ _ _ hx
   ·rename_i hi;rw[zF hi];exact hq _ _ _ hx
  |ret=>exact hq _ _ _ hx
 |loop b ih=>
  intro Q Q' hq e σ h;obtain⟨n,hn⟩:=h;exact⟨n,aq5 (f:=vb T b) ih hq n e σ hn⟩
 |exit id=>intro Q Q' hq e σ h;exact hq _ _ _ h
 |ret=>intro Q Q' hq e σ h;exact hq _ _ _ h
def AC.outs :AC→Nat→Bool
 | .seq a b,i| .cond _ a b,i=>a.outs i||b.outs i
 | .block id b,i=>b.outs i&& !(i==id)
 | .loop b,i=>b.outs i
 | .exit j,i=>i==j
 |_,_=>false
def bU7 (c:AC)(Q:AExit→dh→Hp→Prop):AExit→dh→Hp→Prop:=fun x e σ=>(∀i,x= .exit i→c.outs i=true)∧Q x e σ
theorem ao3 {c:AC}{Q:AExit→dh→Hp→Prop}:bU7 c Q .normal=Q .normal:=by
 funext e σ
 exact propext ⟨fun h=>h.2,fun h=>⟨fun i hi=>(by cases hi),h⟩⟩
theorem aR4 {f:(AExit→dh→Hp→Prop)→dh→Hp→Prop}{b:AC}(hf: ∀(Q Q':AExit→dh→Hp→Prop),(∀x e σ,Q x e σ→Q' x e σ)→∀e σ,f Q e σ→f Q' e σ)
  (ho: ∀Q e σ,f Q e σ→f (bU7 b Q) e σ) {Q:AExit→dh→Hp→Prop}: ∀(n:Nat) (e:dh) (σ:Hp),lf f Q n e σ→lf f (bU7 b Q) n e σ
 |0,_,_,h=>h.elim
 |n+1,e,σ,h=>by
  simp only[lf]at h⊢;refine hf _ _ (fun x e' σ' hx=> ?_) e σ (ho _ e σ h);obtain⟨h1,h2⟩:=hx;cases x with
  |normal=>exact aR4 hf ho n e' σ' h2
  |exit id=>exact⟨h1,h2⟩
  |ret=>exact⟨h1,h2⟩
theorem bT5 (hT:qZ T): ∀(c:AC) (Q:AExit→dh→Hp→Prop) (e:dh) (σ:Hp),vb T c Q e σ→vb T c (bU7 c Q) e σ:=by
 intro c;induction c with
 |skip=>intro Q e σ h;exact⟨fun i hi=>(by cases hi),h⟩
 |region ops=>intro Q e σ h;simp only[vb]at h⊢;rw[ao3];exact h
 |draw ops=>intro Q e σ h;simp only[vb]at h⊢;rw[ao3];exact h
 |sched its=>intro Q e σ h;simp only[vb]at h⊢;rw[ao3];exact h
 |seq a b iha ihb=>
  intro Q e σ h;simp only[vb]at h⊢;refine ic hT a _ _ (fun x e' σ' hx=> ?_) e σ (iha _ e σ h);obtain⟨h1,h2⟩:=hx;cases x with
  |normal=>exact ic hT b _ _ (fun x e σ hx=>⟨fun i hi=>by rw[AC.outs,hx.1 i hi,Bool.or_true],hx.2⟩) e' σ' (ihb Q e' σ' h2)
  |exit id=>exact⟨fun i hi=>by rw[AC.outs,h1 i hi,Bool.true_or],h2⟩
  |ret=>exact⟨fun i hi=>(by cases hi),h2⟩
 |cond c a b iha ihb=>
  intro Q e σ h;simp only[vb]at h⊢;split at h
  ·exact ic hT a _ _ (fun x e σ hx=>⟨fun i hi=>by rw[AC.outs,hx.1 i hi,Bool.true_or],hx.2⟩) e σ (iha Q e σ h)
  ·exact ic hT b _ _ (fun x e σ hx=>⟨fun i hi=>by rw[AC.outs,hx.1 i hi,Bool.or_true],hx.2⟩) e σ (ihb Q e σ h)
  ·exact h.elim
 |block id b ih=>
  intro Q e σ h;simp only[vb]at h⊢;refine ic hT b _ _ (fun x e' σ' hx=> ?_) e σ (ih _ e σ h);obtain⟨h1,h2⟩:=hx;cases x with
  |normal=>exact⟨fun i hi=>(by cases hi),h2⟩
  |exit i=>
   simp only at h2⊢;split at h2
   ·rename_i hi;rw[zE hi];exact⟨fun i hi=>(by cases hi),h2⟩
   ·rename_i hi;rw[zF hi];refine⟨fun j hj=> ?_,h2⟩;injection hj with hj
    subst hj;rw[AC.outs,h1 i rfl];simp[hi]
  |ret=>exact⟨fun i hi=>(by cases hi),h2⟩
 |loop b ih=>
  intro Q e σ h;obtain⟨n,hn⟩:=h;exact⟨n,aR4 (f:=vb T b) (ic hT b) ih n e σ hn⟩
 |exit id=>
  intro Q e σ h;refine⟨fun i hi=> ?_,h⟩;injection hi with hi
  subst hi;simp[AC.outs]
 |ret=>intro Q e σ h;exact⟨fun i hi=>(by cases hi),h⟩
end
end
section
open Bool renaming and_eq_true → bB, or_eq_true → bD, false_eq_true → cB
open List renaming mem_cons_of_mem → aB, mem_cons_self → aD
open Go.RowKit
def aN2 (P:Program)(N:Nat)(ops:Array Oper):List Oper→Option DL
 |[]=>some []
 |o::r=>match aN3 P N ops o,aN2 P N ops r with
  |some x,some l=>some ((x,(o.after.toList.filter (Region.binds .any ·)).map (·.on))::l)
  |_,_=>none
def AC.outsL :AC→List Nat
 | .seq a b| .cond _ a b=>a.outsL++b.outsL
 | .block id b=>b.outsL.filter fun i=> !(i==id)
 | .loop b=>b.outsL
 | .exit j=>[j]
 |_=>[]
theorem cw6 : ∀(c:AC) (i:Nat),c.outs i=true→i∈c.outsL:=by
 intro c;induction c with
 |seq a b iha ihb=>
  intro i h;simp only[AC.outs,bD]at h;exact List.mem_append.2 (h.elim (fun h=> .inl (iha i h)) fun h=> .inr (ihb i h))
 |cond c a b iha ihb=>
  intro i h;simp only[AC.outs,bD]at h;exact List.mem_append.2 (h.elim (fun h=> .inl (iha i h)) fun h=> .inr (ihb i h))
 |block id b ih=>
  intro i h;simp only[AC.outs,bB]at h;exact List.mem_filter.2 ⟨ih i h.1,h.2⟩
 |loop b ih=>intro i h;exact ih i h
 |exit j=>intro i h;simp[AC.outs]at h;simp[AC.outsL,h]
 |_=>intro i h;simp[AC.outs]at h
def AC.noJump (c:AC):Bool:=c.outsL.all fun i=>decide (i<ag2)
theorem br1 {c:AC}(h:c.noJump=true){i:Nat}(hi:c.outs i=true):i<ag2:=by
 have:=List.all_eq_true.1 h i (cw6 c i hi);exact of_decide_eq_true this
def ru :Code→List Nat
 | .seq a b=>ru a++ru b
 | .label l=>[l]
 |_=>[]
theorem an5 : ∀(c:Code) (l:Nat),l∉ru c→findLabel c l=none:=by
 intro c;induction c with
 |seq a b iha ihb=>
  intro l h;simp only[ru,List.mem_append,not_or]at h;simp only[findLabel,iha l h.1,ihb l h.2]
 |label l'=>
  intro l h;simp only[ru,List.mem_singleton]at h;simp only[findLabel];rw[zF (by simpa using fun e=>h e.symm)]
 |_=>intro l h;rfl
def aE7 (l:Nat):Code→Bool
 | .goto l'=>l'==l
 | .seq a b| .cond _ a b=>aE7 l a||aE7 l b
 | .block _ b| .loop b| .scope b=>aE7 l b
 |_=>false
def ar8 :Code→Option Nat
 | .label l=>some l
 |_=>none
theorem bD5 {c:Code}{l:Nat}(h:ar8 c=some l):c= .label l:=by
 cases c<;>simp[ar8]at h;rw[h]
def jx :Code→Option Nat
 | .seq a b=>match ar8 a with
  |some l=>if aE7 l b then some l else jx b
  |none=>jx b
 |_=>none
def yp (l:Nat):Nat:=ag2+2*l
def vI (l:Nat):Nat:=ag2+2*l+1
def cE1 (l:Nat)(b:AC):AC:= .block (vI l) (.loop (.block (yp l) (.seq b (.exit (vI l)))))
def aF1 (a b:Code):Bool:=match jx b with
 |some l=> !(ru a).contains l
 |none=>true
def pW (x:Option AC):Option AC×Option AC:=(x,x)
def cS4 :Option AC→Option AC→Option AC
 |some a,some b=>some (.seq a b)
 |_,_=>none
def cb4 (a b:Code)(xa xb sb:Option AC):Option AC:=match ar8 a with
 |some l=>if aE7 l b then xb.map (cE1 l)else if aF1 a b then sb.map (.seq .skip)else none
 |none=>match xa,sb with
  |some x,some y=>if aF1 a b&&((jx b).isNone||x.noJump)then some (.seq x y)else none
  |_,_=>none
def tr2 (P:Program)(N:Nat):Code→Option AC×Option AC
 | .skip=>pW (some .skip)
 | .label _=>pW (some .skip)
 | .region _ ops draw=>pW (if draw then match aN2 P N ops ops.toList with
   |some l=>if ac3 l&&P.follows .mixedOrders then(match as1 l l.length [] []with
    |some its=>some (.sched its)
    |none=>some (.draw l))else none
   |none=>none
  else(aH8 P N ops ops.toList).map .region)
 | .seq a b=>(cS4 (tr2 P N a).1 (tr2 P N b).1,cb4 a b (tr2 P N a).1 (tr2 P N b).1 (tr2 P N b).2)
 | .cond c a b=>pW (match vU c,(tr2 P N a).1,(tr2 P N b).1 with
  |some c,some a,some b=>some (.cond c a b)
  |_,_,_=>none)
 | .block id b=>pW (if id<ag2 then((tr2 P N b).1).map (.block id)else none)
 | .loop b=>pW (((tr2 P N b).1).map .loop)
 | .scope b=>pW (match(tr2 P N b).2 with
  |some ac=>if ac.noJump then some ac else none
  |none=>none)
 | .exit id=>pW (if id<ag2 then some (.exit id)else none)
 | .goto l=>pW (some (.exit (yp l)))
 | .ret=>pW (some .ret)
 |_=>pW none
def mV (P:Program)(N:Nat)(c:Code):Option AC:=(tr2 P N c).1
def bG7 (P:Program)(N:Nat)(c:Code):Option AC:=(tr2 P N c).2
section
variable {P:Program} {T:ia} {ops:Array Oper} {B:Base P} {N:Nat}
theorem aR2 : ∀{l:List Oper} {al:DL},aN2 P N ops l=some al→l.length=al.length∧∀(i:Nat) o,l[i]?=some o→∃x,al[i]?=some (x,(o.after.toList.filter (Region.binds .any ·)).map (·.on))∧aN3 P N ops o=some x
 |[],al,h=>by
  simp[aN2]at h;subst h;exact⟨rfl,fun i o h=>by simp at h⟩
 |o::l,al,h=>by
  simp only[aN2]at h;split at h
  ·rename_i x r h1 h2;injection h with h
   subst h;obtain⟨h3,h4⟩:=aR2 h2;refine⟨by simp[h3],fun i o' ho=> ?_⟩;cases i with
   |zero=>simp at ho;subst ho;exact⟨x,rfl,h1⟩
   |succ i=>simp at ho;simpa using h4 i o' ho
  ·cases h
theorem cC8 {al:DL}(h:aN2 P N ops ops.toList=some al):Fits P N ops al:=by
 obtain⟨h1,h2⟩:=aR2 h;refine⟨by simpa using h1,fun i o ho=> ?_,fun i o ho q=> ?_⟩
 ·obtain⟨x,h3,h4⟩:=h2 i o (by simpa using ho);refine⟨x, ?_,h4⟩;have:jk al i=(o.after.toList.filter (Region.binds .any ·)).map (·.on):=by simp[jk,h3]
  rw[this];exact h3
 ·obtain⟨x,h3,h4⟩:=h2 i o (by simpa using ho);have:jk al i=(o.after.toList.filter (Region.binds .any ·)).map (·.on):=by simp[jk,h3]
  rw[this];simp[and_assoc]
theorem bH1 {b:Code}{f:(AExit→dh→Hp→Prop)→dh→Hp→Prop}
  (hb: ∀(Q:AExit→dh→Hp→Prop) (e:dh) (σ:Hp) (μ:Mu) (a:Act) (w:World),f Q e σ→R B μ σ w→fp μ N e a.tmps→a.defers=[]→b.wp P (rA B N μ w Q) a w)
  {Q:AExit→dh→Hp→Prop} {μ0:Mu} {w0:World} {n:Nat} {e:dh} {σ:Hp} {μ:Mu} {a:Act} {w:World} (h:lf f Q n e σ) (hR:R B μ σ w) (he:fp μ N e a.tmps) (hd:a.defers=[]) (hμ:μ0.le μ) (hbel:Below B w0 w):
  (Code.loop b).wp P (rA B N μ0 w0 Q) a w:=by
 intro bf k cs
 have key: ∀n e σ μ a w,lf f Q n e σ→R B μ σ w→fp μ N e a.tmps→a.defers=[]→μ0.le μ→Below B w0 w→
   ∃x a' w',rA B N μ0 w0 Q x a' w'∧Arrives P (lone (bf.at a (.code b:: .inLoop b::k)) cs w) bf k cs x a' w':=by
  intro n;induction n with
  |zero=>intro e σ μ a w h;exact h.elim
  |succ n ih=>
   intro e σ μ a w h hR he hd hμ hbel;simp only[lf]at h;obtain⟨x,a₁,w₁,hq,harr⟩:=hb _ e σ μ a w h hR he hd bf (.inLoop b::k) cs;obtain⟨ax,e1,σ1,μ1,hx,hq,h1,h2,h3,h4,h5⟩:=hq;cases ax with
   |normal=>
    cases x<;>simp[vE]at hx;obtain⟨x₂,a₂,w₂,hq₂,harr₂⟩:=ih e1 σ1 μ1 a₁ w₁ hq h2 h3 h4 (Mu.le_trans hμ h1) (hbel.trans h5);exact⟨x₂,a₂,w₂,hq₂, .of_steps (Steps.trans harr (.one step_inLoop)) harr₂⟩
   |exit id=>
    cases x with
    |exit j=>
     obtain⟨rfl,hj⟩:=hx;exact⟨.exit id,a₁,w₁,⟨.exit id,e1,σ1,μ1,⟨rfl,hj⟩,hq,Mu.le_trans hμ h1,h2,h3,h4,hbel.trans h5⟩, .pass (x:= .inLoop b) rfl (fun _ _=> .inl (by simp)) harr⟩
    |goto l=>exact⟨.goto l,a₁,w₁,⟨.exit id,e1,σ1,μ1,hx,hq,Mu.le_trans hμ h1,h2,h3,h4,hbel.trans h5⟩,fun k' hk=>harr k' (by simp[gotoIn,hk])⟩
    |_=>exact hx.elim
   |ret=>
    cases x<;>simp[vE]at hx;exact⟨.ret,a₁,w₁,⟨.ret,e1,σ1,μ1,trivial,hq,Mu.le_trans hμ h1,h2,h3,h4,hbel.trans h5⟩, .pass (x:= .inLoop b) rfl (fun _ _=> .inl (by simp)) harr⟩
 obtain⟨x,a',w',hq,harr⟩:=key n e σ μ a w h hR he hd hμ hbel;exact⟨x,a',w',hq, .of_steps (.one step_loop) harr⟩
theorem ao4 {is:List Nat}{σ:Hp}: ∀{chk:List (Nat×(Hp→Prop))},vJ is σ chk→∀i c,(i,c)∈chk→i∈is→c σ
 |[],_,i,c,h,_=>by cases h
 |(j,d)::r,hr,i,c,h,hi=>by
  simp only[vJ]at hr;rcases List.mem_cons.1 h with h|h
  ·injection h with h1 h2
   subst h1 h2;rw[zE (by simpa using hi)]at hr;exact hr.1
  ·split at hr
   ·exact ao4 hr.2 i c h hi
   ·exact ao4 hr i c h hi
theorem wR {al:DL}{m:Nat}{σ:Hp}: ∀{chk:List (Nat×(Hp→Prop))},(∀i c,(i,c)∈chk→uF al i m=false→c σ)→ag3 al m σ chk
 |[],_=>trivial
 |(j,d)::r,h=>by
  simp only[ag3];split
  ·exact wR fun i c hc=>h i c (aB _ hc)
  ·rename_i hb;exact⟨h j d (aD ..) (by simpa using hb),wR fun i c hc=>h i c (aB _ hc)⟩
theorem bR1 {op:AOp}{e:dh}{σ:Hp}{k k':Value→Hp→Prop}(hT:qZ T)(hk: ∀v σ',k v σ'→k' v σ')(h:ck T op e σ k):ck T op e σ k':=by
 unfold ck at*;cases op<;>simp only at h⊢
 case call f xs=>exact hT _ _ _ _ _ hk h
 case callv f xs=>
  split at h
  ·exact hT _ _ _ _ _ hk h
  ·exact h.elim
 all_goals
  split at h
  ·exact hk _ _ h
  ·exact h.elim
theorem an9 (hT:qZ T){Q:dh→Hp→Prop}{al:DL}: ∀(f:Nat) (done loads:List Nat) (its:List SItem) (chk chk':List (Nat×(Hp→Prop))) (e:dh) (σ:Hp),as1 al f done loads=some its→wpI T Q its chk' e σ→
  (∀i c,(i,c)∈chk→i∈loads)→(∀i c,(i,c)∈chk→ct1 al i=true→(i,c)∈chk')→wpD T Q al f done chk e σ
 |0,done,loads,its,chk,chk',e,σ,h,hw,_,_=>by
  simp[as1]at h;subst h;exact hw
 |f+1,done,loads,its,chk,chk',e,σ,h,hw,h1,h2=>by
  simp only[as1]at h;simp only[wpD];split at h
  ·rename_i i hn;split at h
   ·rename_i o p ho;obtain⟨r,hr,h⟩:=Option.map_eq_some_iff.1 h;subst h;simp only[wpI]at hw;split at hw
    ·rename_i hwant;rw[zE hwant];simp only[cB,if_false]at hw;split at hw
     ·rename_i v σ1 hrun;refine an9 hT f _ _ _ _ _ _ _ hr hw (fun j c hc=> ?_) (fun j c hc hk=> ?_)
      ·by_cases hl:o.op.isLoad=true
       ·rw[zE hl]at hc⊢;rcases List.mem_cons.1 hc with hc|hc
        ·injection hc with hc _
         subst hc;exact aD ..
        ·exact aB _ (h1 j c hc)
       ·rw[zF hl]at hc⊢;exact h1 j c hc
      ·by_cases hl:o.op.isLoad=true
       ·rw[zE hl]at hc;rcases List.mem_cons.1 hc with hc|hc
        ·have hj:j=i:=by injection hc
         subst hj;rw[zE (by simp[hl,hk]),hc];exact aD ..
        ·split
         ·exact aB _ (h2 j c hc hk)
         ·exact h2 j c hc hk
       ·rw[zF hl]at hc;split
        ·exact aB _ (h2 j c hc hk)
        ·exact h2 j c hc hk
     ·exact hw.elim
    ·rename_i hwant;rw[zF hwant];refine an9 hT f _ _ _ _ _ _ _ hr hw (fun j c hc=> ?_) h2;split
     ·exact aB _ (h1 j c hc)
     ·exact h1 j c hc
   ·cases h
  ·rename_i hn;split at h
   ·rename_i hm;rw[hm];injection h with h
    subst h;exact hw
   ·rename_i m hm;rw[hm];simp only[bm2];split at h
    ·rename_i o p ho;obtain⟨r,hr,h⟩:=Option.map_eq_some_iff.1 h;subst h
     have hmv:bY7 al m=true:=by
      have:=(wY.1 (show m∈ei al done by rw[hm];exact aD ..)).2.2.2;simpa[ae4,bY7,ho]using this
     have hml:m<al.length:=(wY.1 (show m∈ei al done by rw[hm];exact aD ..)).1;simp only[wpI]at hw⊢;split at hw
     ·rename_i hwant;rw[zE hwant];simp only[if_true]at hw;refine bR1 hT (fun v σ' hk=> ?_) hw;refine⟨wR fun i c hc hb=> ?_,an9 hT f _ _ _ _ _ _ _ hr hk.2 h1 h2⟩;have hkp:ct1 al i=true:=List.any_eq_true.2 ⟨m,List.mem_range.2 hml,by simp[hmv,hb]⟩;exact ao4 hk.1 i c (h2 i c hc hkp) (by simp[h1 i c hc,hb])
     ·rename_i hwant;rw[zF hwant];exact an9 hT f _ _ _ _ _ _ _ hr hw h1 h2
    ·cases h
   ·cases h
def aQ2 (l:Nat)(J:Act→World→Prop)(Q:Exit→Act→World→Prop):Exit→Act→World→Prop
 | .goto l',a,w=>(l'=l∧J a w)∨(l'≠l∧Q (.goto l') a w)
 |x,a,w=>Q x a w
theorem bR6 {c rest:Code}{Q:Exit→Act→World→Prop}{a:Act}{w:World}(l:Nat)(J:Nat→Act→World→Prop)(hf:findLabel c l=some rest)(hQ: ∀l' a w,¬Q (.goto l') a w)
  (first:c.wp P (aQ2 l (fun a w=> ∃n,J n a w) Q) a w) (pass: ∀n a w,J n a w→rest.wp P (aQ2 l (fun a w=> ∃m,m<n∧J m a w) Q) a w):(Code.scope c).wp P Q a w:=by
 intro b k cs;have hg:gotoIn l (.inScope c::k)=some (.code rest:: .inScope c::k):=by simp[gotoIn,hf]
 have key: ∀n a w,J n a w→∃e a' w',Q e a' w'∧Arrives P (lone (b.at a (.code rest:: .inScope c::k)) cs w) b k cs e a' w':=by
  intro n;induction n using Nat.strongRecOn with
  |_ n ih=>
   intro a w hJ;obtain⟨e,a₁,w₁,hq,harr⟩:=pass n a w hJ b (.inScope c::k) cs;cases e with
   |normal=>exact⟨.normal,a₁,w₁,hq,Steps.trans harr (.one step_inScope)⟩
   |exit id=>exact⟨.exit id,a₁,w₁,hq,fun k' hk=>harr k' (by simp[exitTo,hk])⟩
   |goto l'=>
    rcases hq with⟨rfl,m,hlt,hJ'⟩|⟨_,hq⟩
    ·obtain⟨e₂,a₂,w₂,hq₂,harr₂⟩:=ih m hlt a₁ w₁ hJ';exact⟨e₂,a₂,w₂,hq₂, .of_steps (harr _ hg) harr₂⟩
    ·exact(hQ _ _ _ hq).elim
   |ret=>exact⟨_,a₁,w₁,hq,harr⟩
   |panic ch=>exact⟨_,a₁,w₁,hq,harr⟩
   |outgrown=>exact⟨_,a₁,w₁,hq,harr⟩
 obtain⟨e,a₁,w₁,hq,harr⟩:=first b (.inScope c::k) cs
 cases e with
 |normal=>exact⟨.normal,a₁,w₁,hq, .head step_scope (Steps.trans harr (.one step_inScope))⟩
 |exit id=>exact⟨.exit id,a₁,w₁,hq,fun k' hk=> .head step_scope (harr k' (by simp[exitTo,hk]))⟩
 |goto l'=>
  rcases hq with⟨rfl,n,hJ'⟩|⟨_,hq⟩
  ·obtain⟨e₂,a₂,w₂,hq₂,harr₂⟩:=key n a₁ w₁ hJ';exact⟨e₂,a₂,w₂,hq₂, .of_steps (.head step_scope (harr _ hg)) harr₂⟩
  ·exact(hQ _ _ _ hq).elim
 |ret=>exact⟨_,a₁,w₁,hq, .of_steps (.one step_scope) harr⟩
 |panic ch=>exact⟨_,a₁,w₁,hq, .of_steps (.one step_scope) harr⟩
 |outgrown=>exact⟨_,a₁,w₁,hq, .of_steps (.one step_scope) harr⟩
def Jst {P:Program}(B:Base P)(N:Nat)(μ0:Mu)(w0:World)(L:Nat→dh→Hp→Prop)(n:Nat):Act→World→Prop:=fun a w=>
 ∃e σ μ,L n e σ∧μ0.le μ∧R B μ σ w∧fp μ N e a.tmps∧a.defers=[]∧Below B w0 w
def Aok (P:Program)(T:ia)(B:Base P)(N:Nat)(c:Code):Prop:= ∀(ac:AC),mV P N c=some ac→∀(Q:AExit→dh→Hp→Prop) (e:dh) (σ:Hp) (μ:Mu) (a:Act) (w:World),vb T ac Q e σ→
  R B μ σ w→fp μ N e a.tmps→a.defers=[]→c.wp P (rA B N μ w Q) a w
def Sok (P:Program)(T:ia)(B:Base P)(N:Nat)(c:Code):Prop:= ∀(ac:AC),bG7 P N c=some ac→∀(Q:AExit→dh→Hp→Prop),
 (jx c=none→∀(e:dh) (σ:Hp) (μ:Mu) (a:Act) (w:World),vb T ac Q e σ→R B μ σ w→fp μ N e a.tmps→a.defers=[]→c.wp P (rA B N μ w Q) a w)∧
 (∀l,jx c=some l→∃rest L,findLabel c l=some rest∧∀μ0 w0,
  (∀(e:dh) (σ:Hp) (μ:Mu) (a:Act) (w:World),vb T ac Q e σ→R B μ σ w→fp μ N e a.tmps→a.defers=[]→μ0.le μ→Below B w0 w→c.wp P (aQ2 l (fun a w=> ∃n,Jst B N μ0 w0 L n a w) (rA B N μ0 w0 Q)) a w)∧
  (∀n a w,Jst B N μ0 w0 L n a w→rest.wp P (aQ2 l (fun a w=> ∃m,m<n∧Jst B N μ0 w0 L m a w) (rA B N μ0 w0 Q)) a w))
theorem Sok.of {c:Code}(h1:bG7 P N c=mV P N c)(h2:jx c=none)(h:Aok P T B N c):Sok P T B N c:=fun ac hac Q=>
 ⟨fun _=>h ac (h1▸hac) Q,fun l hl=>by rw[h2]at hl;cases hl⟩
theorem aL9 {μ:Mu}{w:World}{Q:AExit→dh→Hp→Prop}{x:Exit}{a':Act}{w':World}(h:rA B N μ w Q x a' w')(hx:x≠ .normal): ∃ax e' σ' μ',ax≠ .normal∧vE ax x∧Q ax e' σ'∧μ.le μ'∧R B μ' σ' w'∧fp μ' N e' a'.tmps∧a'.defers=[]∧Below B w w':=by
 obtain⟨ax,e',σ',μ',h1,h2,h3⟩:=h;refine⟨ax,e',σ',μ', ?_,h1,h2,h3⟩;rintro rfl;cases x<;>first|exact h1.elim|exact hx rfl
theorem cH0 {μ:Mu}{w:World}{Q Q':AExit→dh→Hp→Prop}{x:Exit}{a':Act}{w':World}(h:rA B N μ w Q x a' w')(hq: ∀ax e σ,vE ax x→Q ax e σ→Q' ax e σ):rA B N μ w Q' x a' w':=by
 obtain⟨ax,e',σ',μ',h1,h2,h3⟩:=h;exact⟨ax,e',σ',μ',h1,hq _ _ _ h1 h2,h3⟩
theorem cb0 {x y:Code}{a:Act}{w:World}{μ:Mu}{Q1:AExit→dh→Hp→Prop}{F:Exit→Act→World→Prop}(h:x.wp P (rA B N μ w Q1) a w)
  (hn: ∀e σ μ' a' w',Q1 .normal e σ→μ.le μ'→R B μ' σ w'→fp μ' N e a'.tmps→a'.defers=[]→Below B w w'→y.wp P F a' w')
  (ho: ∀x a' w',x≠ .normal→rA B N μ w Q1 x a' w'→F x a' w'):(Code.seq x y).wp P F a w:=by
 refine wp_seq (wp_mono h fun x' a' w' hx=> ?_);cases x' with
 |normal=>
  obtain⟨ax,e',σ',μ',h1,h2,h3,h4,h5,h6,h7⟩:=hx;cases ax with
  |normal=>exact hn e' σ' μ' a' w' h2 h3 h4 h5 h6 h7
  |exit i=>exact h1.elim
  |ret=>exact h1.elim
 |exit i=>exact ho _ a' w' (by simp) hx
 |goto l=>exact ho _ a' w' (by simp) hx
 |ret=>exact ho _ a' w' (by simp) hx
 |panic ch=>exact ho _ a' w' (by simp) hx
 |outgrown=>exact ho _ a' w' (by simp) hx
theorem bM8 {l:Nat}{J:Act→World→Prop}{F:Exit→Act→World→Prop}{x:Exit}{a:Act}{w:World}(hg:x= .goto l→J a w)(hF:x≠ .goto l→F x a w):aQ2 l J F x a w:=by
 cases x with
 |goto l'=>
  by_cases hl:l'=l
  ·subst hl;exact .inl ⟨rfl,hg rfl⟩
  ·exact .inr ⟨hl,hF (by simpa using hl)⟩
 |_=>exact hF (by simp)
theorem bc8 {l:Nat}{J J':Act→World→Prop}{F F':Exit→Act→World→Prop}(hJ: ∀a w,J a w→J' a w)(hF: ∀x a w,F x a w→F' x a w){x:Exit}{a:Act}{w:World}(h:aQ2 l J F x a w):aQ2 l J' F' x a w:=by
 cases x with
 |goto l'=>
  rcases h with⟨h1,h2⟩|⟨h1,h2⟩
  ·exact .inl ⟨h1,hJ _ _ h2⟩
  ·exact .inr ⟨h1,hF _ _ _ h2⟩
 |_=>exact hF _ _ _ h
theorem cr3 (hM:qZ T)(hT: ∀f,Sim P f (T f)): ∀(c:Code),Aok P T B N c∧Sok P T B N c:=by
 intro c;induction c with
 |skip=>
  refine(fun A=>⟨A,Sok.of rfl rfl A⟩) ?_;intro ac h Q e σ μ a w hw hR he hd;simp[mV,tr2,pW]at h;subst h;exact wp_skip ⟨.normal,e,σ,μ,trivial,hw,μ.le_refl,hR,he,hd,Below.refl _ _⟩
 |label l=>
  refine(fun A=>⟨A,Sok.of rfl rfl A⟩) ?_;intro ac h Q e σ μ a w hw hR he hd;simp[mV,tr2,pW]at h;subst h;exact wp_label ⟨.normal,e,σ,μ,trivial,hw,μ.le_refl,hR,he,hd,Below.refl _ _⟩
 |goto l=>
  refine(fun A=>⟨A,Sok.of rfl rfl A⟩) ?_;intro ac h Q e σ μ a w hw hR he hd;simp[mV,tr2,pW]at h;subst h;exact wp_goto ⟨.exit (yp l),e,σ,μ,rfl,hw,μ.le_refl,hR,he,hd,Below.refl _ _⟩
 |region id ops draw=>
  refine(fun A=>⟨A,Sok.of rfl rfl A⟩) ?_;intro ac h Q e σ μ a w hw hR he hd;simp only[mV,tr2,pW]at h;cases draw with
  |false=>
   simp only[cB,if_false]at h;obtain⟨al,h1,h⟩:=Option.map_eq_some_iff.1 h;subst h;exact wp_region_list (bE7 hT ops.toList al e σ μ a w h1 hw hR he hd μ.le_refl (Below.refl _ _))
  |true=>
   simp only[if_true]at h;split at h
   ·rename_i al h1;split at h
    ·rename_i h2
     have hw:wpD T (Q .normal) al al.length [] [] e σ:=by
      split at h
      ·rename_i its hits;injection h with h
       subst h;exact an9 hM al.length [] [] its [] [] e σ hits hw (fun i c hc=>(by cases hc)) (fun i c hc=>(by cases hc))
      ·injection h with h
       subst h;exact hw
     simp only[bB]at h2;have hF:=cC8 h1;have hempty: ∀(val:Nat→Value),jI al e val []=e:=fun val=>funext fun t=>oH fun i hi=>by cases hi
     refine wp_region_any h2.2 ?_;have hl:left al.length []≤al.length:=by unfold left;exact Nat.le_trans (List.length_filter_le _ _) (by simp)
     refine cC0 hT hF h2.1 (e0:=e) ops.size al.length (fun _=>undef) [] [] [] _ σ μ a _ (by rw[hempty];exact hw) hl (by rw[hF.len];exact hl) ⟨fun i hi=>(by cases hi),fun i hi=>(by cases hi),fun i hi=>(by cases hi),fun i hi=>(by cases hi),fun i hi=>(by cases hi)⟩ (by simp) (fun i hi=>by simp[hi]) (hR.same rfl) (by rw[hempty];exact he) hd μ.le_refl (Below.refl _ _).drew
    ·cases h
   ·cases h
 |seq x y ihx ihy=>
  refine⟨?_, ?_⟩
  ·intro ac h Q e σ μ a w hw hR he hd;have h:cS4 (mV P N x) (mV P N y)=some ac:=h;unfold cS4 at h;split at h
   ·rename_i ax ay h1 h2;injection h with h
    subst h;simp only[vb]at hw;have h1:mV P N x=some ax:=h1;have h2:mV P N y=some ay:=h2;refine cb0 (ihx.1 ax h1 _ e σ μ a w hw hR he hd) (fun e' σ' μ' a' w' hq g1 g2 g3 g4 g5=> ?_) fun x' a' w' hx hp=> ?_
    ·exact wp_mono (ihy.1 ay h2 Q e' σ' μ' a' w' hq g2 g3 g4) fun x'' a'' w'' h''=>h''.trans g1 g5
    ·obtain⟨axx,e',σ',μ',h0,h1',h2',h3'⟩:=aL9 hp hx;refine⟨axx,e',σ',μ',h1', ?_,h3'⟩;cases axx with
     |normal=>exact(h0 rfl).elim
     |exit i=>exact h2'
     |ret=>exact h2'
   ·cases h
  ·intro ac h Q;have h:cb4 x y (mV P N x) (mV P N y) (bG7 P N y)=some ac:=h;unfold cb4 at h;split at h
   ·rename_i l hl;obtain rfl:=bD5 hl;split at h
    ·
     rename_i hg;obtain⟨yc,h1,h⟩:=Option.map_eq_some_iff.1 h;subst h;have hll:jx (.seq (.label l) y)=some l:=by simp[jx,ar8,hg]
     refine⟨fun hn=>(by rw[hll]at hn;cases hn),fun l' hl'=> ?_⟩;rw[hll]at hl';injection hl' with hl'
     subst hl'
     let Q1:AExit→dh→Hp→Prop:=fun x e σ=>match x with
      | .exit i=>if i=vI l then Q .normal e σ else Q (.exit i) e σ
      |x=>Q x e σ
     let body:AC:= .block (yp l) (.seq yc (.exit (vI l)))
     have hne:vI l≠yp l:=by unfold vI yp;omega
     have round: ∀(n:Nat) (e:dh) (σ:Hp) (μ:Mu) (a:Act) (w:World) (μ0:Mu) (w0:World),lf (vb T body) Q1 (n+1) e σ→R B μ σ w→fp μ N e a.tmps→a.defers=[]→μ0.le μ→Below B w0 w→
       y.wp P (aQ2 l (fun a w=>Jst B N μ0 w0 (fun n=>lf (vb T body) Q1 n) n a w) (rA B N μ0 w0 Q)) a w:=by
      intro n e σ μ a w μ0 w0 hw hR he hd hμ hb;simp only[lf,body,vb]at hw;refine wp_mono (ihy.1 yc h1 _ e σ μ a w hw hR he hd) fun x' a' w' hp=> ?_
      obtain⟨ax,e',σ',μ',q1,q2,q3,q4,q5,q6,q7⟩:=hp;refine bM8 (fun hx=> ?_) fun hx=> ?_
      ·subst hx;cases ax with
       |exit i=>
        have q1:i=yp l:=q1;subst q1;simp only[if_true]at q2;exact⟨e',σ',μ',q2,Mu.le_trans hμ q3,q4,q5,q6,hb.trans q7⟩
       |_=>exact q1.elim
      ·cases ax with
       |normal=>
        simp only[zF hne]at q2;simp only[Q1,if_true]at q2;exact⟨.normal,e',σ',μ',q1,q2,Mu.le_trans hμ q3,q4,q5,q6,hb.trans q7⟩
       |ret=>exact⟨.ret,e',σ',μ',q1,q2,Mu.le_trans hμ q3,q4,q5,q6,hb.trans q7⟩
       |exit i=>
        have hi:i≠yp l∧i≠vI l:=by
         cases x' with
         |exit j=>
          obtain⟨rfl,hj⟩:=q1;unfold yp vI;omega
         |goto l'=>
          have q1:i=ag2+2*l':=q1;have:l'≠l:=fun e=>hx (by rw[e])
          unfold yp vI;omega
         |_=>exact q1.elim
        simp only[zF hi.1,Q1,zF hi.2]at q2;exact⟨.exit i,e',σ',μ',q1,q2,Mu.le_trans hμ q3,q4,q5,q6,hb.trans q7⟩
     refine⟨.seq .skip y,fun n=>lf (vb T body) Q1 n,by simp[findLabel],fun μ0 w0=>⟨fun e σ μ a w hw hR he hd hμ hb=> ?_,fun n a w hJ=> ?_⟩⟩
     ·have hw': ∃n,lf (vb T body) Q1 n e σ:=hw
      obtain⟨n,hn⟩:=hw';cases n with
      |zero=>exact hn.elim
      |succ n=>
       refine wp_seq (wp_label ?_);exact wp_mono (round n e σ μ a w μ0 w0 hn hR he hd hμ hb) fun x' a' w' h'=>bc8 (fun _ _ h=>⟨n,h⟩) (fun _ _ _ h=>h) h'
     ·obtain⟨e,σ,μ,hn,hμ,hR,he,hd,hb⟩:=hJ;cases n with
      |zero=>exact hn.elim
      |succ n=>
       refine wp_seq (wp_skip ?_);exact wp_mono (round n e σ μ a w μ0 w0 hn hR he hd hμ hb) fun x' a' w' h'=>bc8 (fun _ _ h=>⟨n,Nat.lt_succ_self n,h⟩) (fun _ _ _ h=>h) h'
    ·
     rename_i hg;split at h
     ·rename_i hlo;obtain⟨yc,h1,h⟩:=Option.map_eq_some_iff.1 h;subst h;have hll:jx (.seq (.label l) y)=jx y:=by simp[jx,ar8,hg]
      obtain⟨s1,s2⟩:=ihy.2 yc h1 Q;refine⟨fun hn e σ μ a w hw hR he hd=>wp_seq (wp_label ?_),fun l' hl'=> ?_⟩
      ·exact s1 (hll▸hn) e σ μ a w hw hR he hd
      ·rw[hll]at hl';obtain⟨rest,L,hf,hJ⟩:=s2 l' hl'
       have hlab:findLabel (.seq (.label l) y) l'=some rest:=by
        have:findLabel (.label l) l'=none:=an5 _ _ (by
         unfold aF1 at hlo;rw[hl']at hlo
         simpa using hlo)
        simp[findLabel,hf]at this⊢;simp[this]
       refine⟨rest,L,hlab,fun μ0 w0=>⟨fun e σ μ a w hw hR he hd hμ hb=>wp_seq (wp_label ?_),(hJ μ0 w0).2⟩⟩;exact(hJ μ0 w0).1 e σ μ a w hw hR he hd hμ hb
     ·cases h
   ·rename_i hl;split at h
    ·rename_i ax ay h1 h2;split at h
     ·rename_i hlo;rw[bB,bD]at hlo;obtain⟨hlo,hnj⟩:=hlo;injection h with h
      subst h;have hll:jx (.seq x y)=jx y:=by simp[jx,hl]
      obtain⟨s1,s2⟩:=ihy.2 ay h2 Q;refine⟨fun hn e σ μ a w hw hR he hd=> ?_,fun l' hl'=> ?_⟩
      ·simp only[vb]at hw;refine cb0 (ihx.1 ax h1 _ e σ μ a w hw hR he hd) (fun e' σ' μ' a' w' hq g1 g2 g3 g4 g5=> ?_) fun x' a' w' hx hp=> ?_
       ·exact wp_mono (s1 (hll▸hn) e' σ' μ' a' w' hq g2 g3 g4) fun x'' a'' w'' h''=>h''.trans g1 g5
       ·obtain⟨axx,e',σ',μ',h0,h1',h2',h3'⟩:=aL9 hp hx;refine⟨axx,e',σ',μ',h1', ?_,h3'⟩;cases axx with
        |normal=>exact(h0 rfl).elim
        |exit i=>exact h2'
        |ret=>exact h2'
      ·rw[hll]at hl';obtain⟨rest,L,hf,hJ⟩:=s2 l' hl'
       have hlab:findLabel (.seq x y) l'=some rest:=by
        have:findLabel x l'=none:=an5 _ _ (by
         unfold aF1 at hlo;rw[hl']at hlo
         simpa using hlo)
        simp[findLabel,hf,this]
       have hnj:ax.noJump=true:=by
        rcases hnj with h|h
        ·rw[hl']at h;cases h
        ·exact h
       refine⟨rest,L,hlab,fun μ0 w0=>⟨fun e σ μ a w hw hR he hd hμ hb=> ?_,(hJ μ0 w0).2⟩⟩;simp only[vb]at hw;refine cb0 (ihx.1 ax h1 _ e σ μ a w (bT5 hM _ _ e σ hw) hR he hd) (fun e' σ' μ' a' w' hq g1 g2 g3 g4 g5=> ?_) fun x' a' w' hx hp=> ?_
       ·exact(hJ μ0 w0).1 e' σ' μ' a' w' hq.2 g2 g3 g4 (Mu.le_trans hμ g1) (hb.trans g5)
       ·obtain⟨axx,e',σ',μ',h0,h1',h2',h3',h4',h5',h6',h7'⟩:=aL9 hp hx;refine bM8 (fun hg=> ?_) fun _=> ?_
        ·subst hg;cases axx with
         |exit i=>
          have k1:i=ag2+2*l':=h1';have:=br1 hnj (h2'.1 i rfl);omega
         |_=>exact h1'.elim
        ·refine⟨axx,e',σ',μ',h1', ?_,Mu.le_trans hμ h3',h4',h5',h6',hb.trans h7'⟩;cases axx with
         |normal=>exact(h0 rfl).elim
         |exit i=>exact h2'.2
         |ret=>exact h2'.2
     ·cases h
    ·cases h
 |cond c x y ihx ihy=>
  refine(fun A=>⟨A,Sok.of rfl rfl A⟩) ?_;intro ac h Q e σ μ a w hw hR he hd;simp only[mV,tr2,pW]at h;split at h
  ·rename_i c' ax ay h0 h1 h2;injection h with h
   subst h;obtain⟨rfl,k0⟩:=bx h0;have hv:=he.ev k0;simp only[vb]at hw;split at hw
   ·rename_i hb;rw[hb]at hv;exact wp_cond_true hv.bool_inv (ihx.1 ax h1 Q e σ μ a w hw hR he hd)
   ·rename_i hb;rw[hb]at hv;exact wp_cond_false hv.bool_inv (ihy.1 ay h2 Q e σ μ a w hw hR he hd)
   ·exact hw.elim
  ·cases h
 |block id b ih=>
  refine(fun A=>⟨A,Sok.of rfl rfl A⟩) ?_;intro ac h Q e σ μ a w hw hR he hd;simp only[mV,tr2,pW]at h;split at h
  ·rename_i hlt;obtain⟨ab,h1,h⟩:=Option.map_eq_some_iff.1 h;subst h;simp only[vb]at hw;refine wp_block (wp_mono (ih.1 ab h1 _ e σ μ a w hw hR he hd) fun x a' w' hx=> ?_);obtain⟨axx,e',σ',μ',hxr,hq,g1,g2,g3,g4,g5⟩:=hx;cases axx with
   |normal=>
    cases x<;>simp[vE]at hxr;exact⟨.normal,e',σ',μ',trivial,hq,g1,g2,g3,g4,g5⟩
   |exit i=>
    simp only at hq;cases x with
    |exit j=>
     obtain⟨rfl,hj⟩:=hxr;simp only[Exit.inBlock];split
     ·rename_i hid;rw[zE hid]at hq;exact⟨.normal,e',σ',μ',trivial,hq,g1,g2,g3,g4,g5⟩
     ·rename_i hid;rw[zF hid]at hq;exact⟨.exit i,e',σ',μ',⟨rfl,hj⟩,hq,g1,g2,g3,g4,g5⟩
    |goto l=>
     have hxr':i=ag2+2*l:=hxr;rw[zF (by omega)]at hq;exact⟨.exit i,e',σ',μ',hxr,hq,g1,g2,g3,g4,g5⟩
    |_=>exact hxr.elim
   |ret=>
    cases x<;>simp[vE]at hxr;exact⟨.ret,e',σ',μ',trivial,hq,g1,g2,g3,g4,g5⟩
  ·cases h
 |loop b ih=>
  refine(fun A=>⟨A,Sok.of rfl rfl A⟩) ?_;intro ac h Q e σ μ a w hw hR he hd;simp only[mV,tr2,pW]at h;obtain⟨ab,h1,h⟩:=Option.map_eq_some_iff.1 h;subst h;simp only[vb]at hw;obtain⟨n,hn⟩:=hw;exact bH1 (f:=vb T ab) (fun Q e σ μ a w hf=>ih.1 ab h1 Q e σ μ a w hf) hn hR he hd μ.le_refl (Below.refl _ _)
 |scope b ih=>
  refine(fun A=>⟨A,Sok.of rfl rfl A⟩) ?_;intro ac h Q e σ μ a w hw hR he hd;simp only[mV,tr2,pW]at h;split at h
  ·rename_i ac' h1;split at h
   ·rename_i hno;injection h with h
    subst h;have hw':=bT5 hM _ Q e σ hw
    have hng: ∀(l':Nat) (a:Act) (w':World),¬rA B N μ w (bU7 ac' Q) (.goto l') a w':=by
     rintro l' a w' ⟨ax,e',σ',μ',k1,k2,_⟩;cases ax with
     |exit i=>
      have k1:i=ag2+2*l':=k1;have:=br1 hno (k2.1 i rfl);omega
     |_=>exact k1.elim
    have fin: ∀{x:Exit} {a':Act} {w':World},rA B N μ w (bU7 ac' Q) x a' w'→rA B N μ w Q x a' w':=fun h=>cH0 h fun _ _ _ _ h=>h.2
    obtain⟨s1,s2⟩:=ih.2 ac' h1 (bU7 ac' Q);cases hl:jx b with
    |none=>
     refine wp_scope_straight (wp_mono (s1 hl e σ μ a w hw' hR he hd) fun x a' w' hx=> ?_);cases x with
     |goto l'=>exact(hng l' a' w' hx).elim
     |_=>exact fin hx
    |some l=>
     obtain⟨rest,L,hf,hJ⟩:=s2 l hl;obtain⟨j1,j2⟩:=hJ μ w;refine wp_mono (bR6 l (Jst B N μ w L) hf hng (j1 e σ μ a w hw' hR he hd μ.le_refl (Below.refl _ _)) j2) fun x a' w' hx=>fin hx
   ·cases h
  ·cases h
 |exit id=>
  refine(fun A=>⟨A,Sok.of rfl rfl A⟩) ?_;intro ac h Q e σ μ a w hw hR he hd;simp only[mV,tr2,pW]at h;split at h
  ·rename_i hlt;injection h with h
   subst h;exact wp_exit ⟨.exit id,e,σ,μ,⟨rfl,hlt⟩,hw,μ.le_refl,hR,he,hd,Below.refl _ _⟩
  ·cases h
 |ret=>
  refine(fun A=>⟨A,Sok.of rfl rfl A⟩) ?_;intro ac h Q e σ μ a w hw hR he hd;simp[mV,tr2,pW]at h;subst h;exact wp_ret ⟨.ret,e,σ,μ,trivial,hw,μ.le_refl,hR,he,hd,Below.refl _ _⟩
 |_=>
  refine(fun A=>⟨A,Sok.of rfl rfl A⟩) ?_;intro ac h;simp[mV,tr2,pW]at h
theorem cB2 (hM:qZ T)(hT: ∀f,Sim P f (T f))(c:Code)(ac:AC)(h:mV P N c=some ac)(Q:AExit→dh→Hp→Prop)(e:dh)(σ:Hp)(μ:Mu)(a:Act)(w:World)(hw:vb T ac Q e σ)
  (hR:R B μ σ w) (he:fp μ N e a.tmps) (hd:a.defers=[]):c.wp P (rA B N μ w Q) a w:=(cr3 hM hT c).1 ac h Q e σ μ a w hw hR he hd
end
end
end Go.Ab
