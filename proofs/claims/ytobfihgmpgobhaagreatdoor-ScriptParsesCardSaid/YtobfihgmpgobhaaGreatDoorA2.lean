/- A part of the proofs of this claim: what functions of the program answer on an abstract machine, and plain laws. No condition. -/
import Derived.Test.YtobfihgmpgobhaaGreatDoorA1
import Derived.Laws.BytesString
import Derived.Laws.RangeAny
import Derived.Laws.IdiomStrings
import Derived.Laws.Cover4
import Derived.Lib.OthersKept
import Derived.MapKept
set_option linter.unusedVariables false
set_option linter.unusedSimpArgs false
set_option linter.unusedSectionVars false
namespace Go.Ab
section
open Bool renaming false_eq_true → aG
open Builtin renaming firstCells → aC, zeroCells → aD, append_ → aL, lenOf → aM
open List renaming length_append → aH, map_cons → aI, map_nil → aJ, map_toArray → aK, getElem?_drop → aO, getElem?_take → aP, append_assoc → aS, getElem?_eq_getElem → aT, getElem?_eq_none → aU
open Nat renaming le_refl → aF, add_mul → aN, add_assoc → aQ, zero_add → aR, mul_le_mul_right → aV
open Result renaming andThen_ok → aA
open Sem renaming run_bind → aB, run_pure → aE
open Go.RowKit
section
variable {P:Program} {o:Oper} {a:Act} {w w':World} {B:Base P} {N:Nat} {μ:Mu} {e:br} {σ σ':Hp} {v:Value}
theorem C1 {x:Blk}{o:Nat}{cs:List Value}(h:iN x o 0=some cs):cs=[]:=by
 unfold iN at h;split at h
 ·simpa using h.symm
 ·cases h
theorem mm {es n ln:Nat}{x x':Value}{cs:List Value}(hl:tK x=some ln)(hle:n≤ln)(h:σ.slice es x n=some cs)(hR:R B μ σ w)(hx:VR μ x x'):
  ∃arr:Array Value,(∀w':World,w'.heap=w.heap→(aC es n x').run P w'= .ok arr w')∧F2 (VR μ) cs arr.toList:=by
 unfold Hp.slice at h;split at h
 ·rename_i b off l c;simp[tK]at hl;subst hl;split at h
  ·rename_i hn0;injection h with h
   subst h;subst hn0;rcases hx.slice_inv with⟨g,c',hg,_,_,_,rfl⟩|⟨rfl,rfl,A',rfl,_⟩
   ·exact⟨#[],fun _ _=>by simp[aC,loadCells,loadCellsFrom], .nil⟩
   ·exact⟨#[],fun _ _=>by simp[aC,loadCells,loadCellsFrom], .nil⟩
  split at h
  ·rename_i blk hblk;rcases hx.slice_inv with⟨g,c',hg,_,_,_,rfl⟩|⟨rfl,rfl,A',rfl,_⟩
   ·obtain⟨cs',h1,h2⟩:=hR.reads hblk hg h;exact⟨cs'.toArray,fun w' hw'=>by simp[aC,h1 P w' hw'],h2⟩
   ·have:n=0:=by omega
    subst this;rw[Nat.zero_mul]at h;rw[C1 h];exact⟨#[],fun _ _=>by simp[aC,loadCells,loadCellsFrom], .nil⟩
  ·cases h
 ·obtain⟨rfl,_,_⟩:=hx.nils_inv;split at h
  ·injection h with h
   subst h;exact⟨#[],fun _ _=>by simp[aC], .nil⟩
  ·cases h
 ·rename_i s;split at h
  case isFalse=>cases h
  injection h with h
  subst h;obtain rfl:=hx.string_inv;refine⟨_,fun _ _=>by simp only[aC];rfl, ?_⟩;simp only[Array.toList_map]
  exact F2.same _ fun u hu=>by
   simp only[List.mem_map]at hu;obtain⟨c,_,rfl⟩:=hu;exact .int _ _
 ·cases h
theorem AW {x y:Blk}{off:Nat}{vs:List Value}(h:qO x off vs=some y):x.own=true∧off+vs.length≤x.cells.length∧(∀v∈vs,one v=true)∧y=⟨eL x.cells off vs,x.own,x.es⟩:=by
 unfold qO at h;split at h
 ·rename_i hc;injection h with h
  exact⟨hc.1,hc.2.1,fun v hv=>List.all_eq_true.1 hc.2.2 v hv,h.symm⟩
 ·cases h
theorem O0 {c:Call}{x y:Operand}{t d:TypeId}{ts:List TypeId}{n:Nat}(ho:o.op= .call c)(hc:c.callee= .builtin .copy)(ha:c.args.toList=[x,y])(ht:c.argTypes.toList=t::ts)(hu:P.underlying t=some (.slice d))(hn:eX P d=some n)
  (hx:bq x=true) (hy:bq y=true) (hr:(AOp.copy n x y).run e σ=some (v,σ')) (he:cq μ N e a.tmps) (hR:R B μ σ w):cY P o a w B μ v σ':=by
 have hvx:=he.ev hx;have hvy:=he.ev hy;obtain⟨cst,hrun⟩:=cB (P:=P) (a:=a) ho hc w;simp only[AOp.run]at hr;split at hr
 ·rename_i p dl dc hp;rw[hp]at hvx
  have hsh: ∃p' dc',a.eval x= .slice p' dl dc':=by
   generalize a.eval x=q at hvx;cases hvx<;>exact⟨_,_,rfl⟩
  obtain⟨p',dc',hq⟩:=hsh;split at hr
  ·rename_i ln hln;have hln':=J5 hln hvy
   have hlr:(aM (a.eval y)).run P w= .ok ln w:=by
    generalize a.eval y=q at*;cases q<;>simp[tK]at hln'<;>simp[aM,hln']
   split at hr
   ·rename_i new hnew;obtain⟨arr,f1,f2⟩:=mm (P:=P) hln (Nat.min_le_left _ _) hnew hR hvy
    have head:(execOp a.eval o).run P w=((do
      if let some a:=p' then storeCells a arr.toList
      pure (goInt (Nat.min ln dl)):Sem Value).run P w).andThen fun v w=> .ok (.value v) w:=by
     simp only[hrun,builtin,Builtin.copy_,Ca ha,aK,aI,aJ,rh ht,hq,aB];have e1:(#[Value.slice p' dl dc',a.eval y]:Array Value)[0]?=some (.slice p' dl dc'):=rfl;have e2:(#[Value.slice p' dl dc',a.eval y]:Array Value)[1]?=some (a.eval y):=rfl;simp only[e1,e2,aB,bw hu,aA,hlr,fF hn];have f1':(aC n (ln.min dl) (a.eval y)).run P w= .ok arr w:=f1 w rfl;simp only[f1',aA];rfl
    have hstill:new=[]→cY P o a w B μ (.int .i64 (min ln dl:Nat)) σ:=by
     intro hn0;subst hn0
     have:arr= #[]:=by
      cases f2':arr.toList with
      |nil=>simpa using f2'
      |cons _ _=>rw[f2']at f2;cases f2
     subst this;refine .same hR ?_ (.int _ _);rw[head];cases p'<;>simp[storeCells,goInt]<;>rfl
    split at hr
    ·rename_i b off;split at hr
     ·rename_i hn0;simp only[Option.some.injEq,Prod.mk.injEq]at hr;obtain⟨rfl,rfl⟩:=hr;exact hstill hn0
     ·rename_i hn0;split at hr
      ·rename_i blk hblk;split at hr
       ·rename_i blk' hw;simp only[Option.some.injEq,Prod.mk.injEq]at hr;obtain⟨rfl,rfl⟩:=hr;obtain⟨k1,k2,k3,rfl⟩:=AW hw;rw[hq]at hvx;rcases hvx.slice_inv with⟨g,c',hg,_,_,_,hv⟩|⟨rfl,_⟩
        ·injection hv with hv1 hv2 hv3
         subst hv1;obtain⟨w',g1,g2,g3⟩:=R.writes _ _ f2 k3 σ w b off 0 blk g hR hblk k1 hg (by omega);refine⟨_,w',μ, .int .i64 (min ln dl:Nat), ?_, .inl rfl,μ.le_refl,g2, .int _ _,g3⟩;rw[head];simp[g1,goInt]
        ·exfalso;rw[Nat.min_zero]at hnew;unfold Hp.slice at hnew;split at hnew
         ·simp at hnew;exact hn0 hnew
         ·simp at hnew;exact hn0 hnew
         ·simp at hnew;exact hn0 hnew.2
         ·cases hnew
       ·cases hr
      ·cases hr
    ·split at hr
     ·rename_i hn0;simp only[Option.some.injEq,Prod.mk.injEq]at hr;obtain⟨rfl,rfl⟩:=hr;exact hstill hn0
     ·cases hr
    ·cases hr
   ·cases hr
  ·cases hr
 ·cases hr
theorem yh {arr:Array Value}(h:F2 (VR μ) [] arr.toList):arr= #[]:=by
 cases f2':arr.toList with
 |nil=>simpa using f2'
 |cons _ _=>rw[f2']at h;cases h
theorem GK {c:Call}{x y:Operand}{st xt d:TypeId}{n by_:Nat}{z:List Value}(ho:o.op= .call c)(hc:c.callee= .builtin .append)(ha:c.args.toList=[x,y])(ht:c.argTypes.toList=[st,xt])(hu:P.underlying st=some (.slice d))
  (hxt:(∃q,P.underlying xt=some (.slice q))∨P.underlying xt=some .string) (hn:eX P d=some n) (hb:GQ P d=some by_) (hz:gz P d=some z)
  {p':Option Addr} {sl sc ln:Nat} (hq:a.eval x= .slice p' sl sc) (hln:tK (a.eval y)=some ln) {arr:Array Value} (harr:(aC n ln (a.eval y)).run P w= .ok arr w):
  (sl+ln≤sc→(execOp a.eval o).run P w=((do
    if let some a:=p' then storeCells (a.add (sl*n)) arr.toList
    pure (.slice p' (sl+ln) sc):Sem Value).run P w).andThen fun v w=> .ok (.value v) w)∧
  (sc<sl+ln→(sl+ln)*by_≤140737488355328→sl+ln≤9223372036854775807→∀old:Array Value,(aC n sl (.slice p' sl sc)).run P w.drew= .ok old w.drew→(aC n ln (a.eval y)).run P w.drew= .ok arr w.drew→
   ∃cap,sl+ln≤cap∧∃zz:Value,cellsOf zz=z∧(execOp a.eval o).run P w= .ok (.value (.slice (some ⟨w.heap.size,0,none⟩) (sl+ln) cap)) (w.drew.alloc (.cells (old++arr++aD zz.cells (cap-(sl+ln))) d))):=by
 obtain⟨cst,hrun⟩:=cB (P:=P) (a:=a) ho hc w
 have hlr:(aM (a.eval y)).run P w= .ok ln w:=by
  generalize a.eval y=q at*;cases q<;>simp[tK]at hln<;>simp[aM,hln]
 obtain⟨i,hi,hib⟩:=Option.map_eq_some_iff.1 hb;have hinfo: ∀w:World,(typeInfo d).run P w= .ok i w:=fun w=>by simp[typeInfo,hi]
 have e1:(#[Value.slice p' sl sc,a.eval y]:Array Value)[0]?=some (.slice p' sl sc):=rfl;have e2:(#[Value.slice p' sl sc,a.eval y]:Array Value)[1]?=some (a.eval y):=rfl;have e3:(#[st,xt]:Array TypeId)[0]?=some st:=rfl;have e4:(#[st,xt]:Array TypeId)[1]?=some xt:=rfl;refine⟨fun hfit=> ?_,fun hgrow hbytes hmax old hold hnew=> ?_⟩
 ·rw[hrun];rcases hxt with⟨q,hdd⟩|hdd
  all_goals
   simp only[builtin,aL,Ca ha,Ca ht,aK,aI,aJ,hq,e1,e2,e3,e4,aB,bw hu,bw hdd,aA,fF hn,aE,aG,if_false,hlr,Bool.not_false,if_true];rw[zE hfit];simp only[aB,harr,aA];rfl
 ·obtain⟨zz,z1,z2,z3⟩:=fv hz;refine⟨grownCap w (sl+ln) sc d,grownCap_ge _ _ _ _,zz,z2, ?_⟩;have hfits:=growslice_fits hgrow hbytes;rw[hrun];rcases hxt with⟨q,hdd⟩|hdd
  all_goals
   simp only[builtin,aL,Ca ha,Ca ht,aK,aI,aJ,hq,e1,e2,e3,e4,aB,bw hu,bw hdd,aA,fF hn,aE,aG,if_false,hlr,Bool.not_false,if_true];rw[zF (by omega)];simp only[aB,hinfo,aA,hib,false_or]
   have h63: ¬(((sl+ln:Nat):Int) > IntKind.i64.max∧by_=0):=by
    have:IntKind.i64.max=9223372036854775807:=by decide
    omega
   rw[zF h63];simp only[aB,hinfo,aA,hib];rw[zF (by omega)];simp only[aB,run_choose,Question.forced,aG,if_false,World.drew_eq,aA,hinfo,run_askRoom,hold,hnew,z1,newRow,run_newObj,aE,World.alloc_eq];rfl
theorem Dv (z:Array Value)(n:Nat):(aD z n).size=n*z.size:=by simp[aD]
theorem sT (σ:Hp)(hR:R B μ σ w):R B μ σ w.drew:=hR.same rfl
theorem NE {α:Type}(A M T:List α):(A++(M++T)).take (A.length+M.length)=A++M:=by
 rw[←aS,←aH,List.take_left]
theorem zS {x:Blk}{o n:Nat}{cs:List Value}(h:iN x o n=some cs):cs.length=n:=by
 unfold iN at h;split at h
 ·injection h with h
  subst h;simp;omega
 ·cases h
theorem Lo {es n:Nat}{x:Value}{cs:List Value}(h:σ.slice es x n=some cs)(hs: ∀s,x= .string s→n≤s.size):cs.length=n*es:=by
 unfold Hp.slice at h;split at h
 ·split at h
  ·rename_i hn;injection h with h;subst h hn;simp
  split at h
  ·exact zS h
  ·cases h
 ·split at h
  ·rename_i hn;injection h with h;subst h hn;simp
  ·cases h
 ·rename_i s;split at h
  case isFalse=>cases h
  rename_i h2;injection h with h
  subst h;have h1:=hs s rfl;subst h2;simp;omega
 ·cases h
theorem vi (g o:Nat)(t:TypeId)(fr:Nat×Nat): ∀(vs:List Value) (i:Nat) (cur:Array Value) (w:World),w.heap[g]?=some (.cells cur t fr)→(cur.size≤fr.1∨fr.1=fr.2)→o+i+vs.length≤cur.size→(∀v∈vs,v.oneCell'=true)→
  (storeCells ⟨g,o,none⟩ vs i).run P w= .ok () (w.setRow g (cur.toList.take (o+i)++vs++cur.toList.drop (o+i+vs.length)).toArray)
 |[],i,cur,w,hg,_,_,_=>by
  simp only[storeCells,List.append_nil,List.length_nil,Nat.add_zero,List.take_append_drop,Array.toArray_toList];rw[setRow_self w g cur t fr hg];rfl
 |v::rest,i,cur,w,hg,hf,hl,h1=>by
  have hi:o+i<cur.size:=by simp at hl;omega
  have hcell:w.cell? ⟨g,o+i,none⟩=some cur[o+i]:=by simp[World.cell?,hg,hi]
  have hst:(store ((⟨g,o,none⟩:Addr).add i) v).run P w= .ok () (w.setRow g (cur.setIfInBounds (o+i) v)):=by
   rw[il,run_store P w _ v _ (h1 v (by simp)),hcell];simp[Cy w g (o+i) cur t fr hg hi hf,setCell_eq_setRow w g (o+i) cur t fr v hg]
  have ih:=vi g o t fr rest (i+1) (cur.setIfInBounds (o+i) v) (w.setRow g (cur.setIfInBounds (o+i) v)) (setRow_heap w g cur _ t _ hg) (by simpa using hf) (by simp at hl⊢;omega) (fun x hx=>h1 x (by simp[hx]));simp only[storeCells,aB,hst,aA,ih,setRow_setRow]
  congr 3
  have e:=list_seg_step cur.toList (o+i) v rest (by simp at hl⊢;omega);simpa[Array.toList_setIfInBounds,aQ]using e
theorem R.moved (hR:R B μ σ w){b:Nat}{blk:Blk}{g:G}(hblk:σ.m b=some blk)(hown:blk.own=true)(hg:μ.at b g){off n:Nat}{cells:List Value}{cur:Array Value}{t:TypeId}{fr:Nat×Nat}(hfr:cur.size≤fr.1∨fr.1=fr.2)
  (hlt:w.heap.size=w'.heap.size) (hnew:w'.heap[g.c]?=some (.cells cur t fr)) (hoth: ∀k,k≠g.c→w'.heap[k]?=w.heap[k]?) (hsz:g.o+g.ext≤cur.size) (hfit:off+cells.length≤g.ext)
  (hc:F2 (VR μ) cells ((cur.toList.drop (g.o+off)).take cells.length)):
  R B (μ.add σ.n ⟨g.c,g.o+off,g.ext-off,n,t,none⟩) ((σ.set b none).add ⟨cells,true,n⟩) w'∧μ.le (μ.add σ.n ⟨g.c,g.o+off,g.ext-off,n,t,none⟩):=by
 have hf:μ σ.n=none:=hR.fresh _ (aF _);have hle':μ.le (μ.add σ.n ⟨g.c,g.o+off,g.ext-off,n,t,none⟩):=Mu.le_add hf;have hl:=hR.get hblk hg.1;obtain⟨o1,o2,_⟩:=hl.own hg.2 hown;have hbn:b≠σ.n:=fun e=>by have:=hg.1;rw[e,hf]at this;cases this
 have old: ∀b' x,b'≠σ.n→((σ.set b none).add ⟨cells,true,n⟩).m b'=some x→σ.m b'=some x∧b'≠b:=by
  intro b' x hb hx;have hb2:b'≠(σ.set b none).n:=hb;simp only[Hp.add,zF hb2]at hx;simp only[Hp.set]at hx;split at hx
  ·cases hx
  ·rename_i h;exact⟨hx,h⟩
 have new: ∀x,((σ.set b none).add ⟨cells,true,n⟩).m σ.n=some x→x=⟨cells,true,n⟩:=by
  intro x hx;have hb2:σ.n=(σ.set b none).n:=rfl;simp only[Hp.add,zE hb2]at hx;exact(Option.some.inj hx).symm
 refine⟨⟨by rw[←hlt];exact hR.base,fun k hk=>(hoth k (by omega)).trans (hR.old k hk),fun b' hb=> ?_,fun b' x hx=> ?_,fun b1 b2 x x' g1 g2 hx hx' hne ho hg1 hg2=> ?_, ?_⟩,hle'⟩
 ·have:σ.n+1≤b':=hb;unfold Mu.add;rw[zF (by omega)];exact hR.fresh b' (by omega)
 ·by_cases hb:b'=σ.n
  ·subst hb;obtain rfl:=new x hx;refine⟨⟨g.c,g.o+off,g.ext-off,n,t,none⟩,by simp[Mu.add],⟨by rw[←hlt];exact hl.lt,rfl,fun _ i v hv=> ?_,fun _ _=>⟨o1,by simp;omega,cur,t,fr,hnew,by simp;omega,hfr⟩,fun _ hs=>(by cases hs),fun hs=>(by cases hs),fun _ hs=>by cases hs⟩⟩;obtain⟨v',h1,h2⟩:=hc.get i v hv
   have hi:i<cells.length:=by
    rcases Nat.lt_or_ge i cells.length with h3|h3
    ·exact h3
    ·simp[aU h3]at hv
   refine⟨v', ?_,h2.mono hle'⟩;rw[cell_of_row _ _ _ cur t fr hnew];rw[aP,zE hi,aO]at h1;simpa using h1
  ·obtain⟨hx',hbb⟩:=old b' x hb hx;obtain⟨g',h1,h2⟩:=hR.live b' x hx';have hne:g'.c≠g.c:=fun e=>hR.inj b b' blk x g g' hblk hx' (fun e=>hbb e.symm) hown hg.1 h1 e.symm
   exact⟨g',hle' _ _ h1,(hR.stays hx' h1 (by rw[hlt];exact aF _) g.c (fun k hk _=>hoth k hk) hne (fun hi hk=>(hR.sep b' x g' hx' h1 hi _ hk b blk g hblk hg.1).1 rfl)).mono hle'⟩
 ·by_cases hb:b1=σ.n
  ·subst hb;have hb':b2≠σ.n:=fun e=>hne e.symm
   have e1:g1.c=g.c:=by simp[Mu.add]at hg1;rw[←hg1]
   have h2:μ b2=some g2:=by simpa[Mu.add,hb']using hg2
   obtain⟨hx2,hb2⟩:=old b2 x' hb' hx';rw[e1];exact hR.inj b b2 blk x' g g2 hblk hx2 (fun e=>hb2 e.symm) hown hg.1 h2
  ·have h1:μ b1=some g1:=by simpa[Mu.add,hb]using hg1
   obtain⟨hx1,hb1⟩:=old b1 x hb hx;by_cases hb':b2=σ.n
   ·subst hb';have e1:g2.c=g.c:=by simp[Mu.add]at hg2;rw[←hg2]
    rw[e1];exact fun e=>hR.inj b b1 blk x g g1 hblk hx1 (fun e=>hb1 e.symm) hown hg.1 h1 e.symm
   ·have h2:μ b2=some g2:=by simpa[Mu.add,hb']using hg2
    exact hR.inj b1 b2 x x' g1 g2 hx1 (old _ _ hb' hx').1 hne ho h1 h2
 ·refine hR.sep.of (fun b' x g' hx hg'=> ?_) (fun b' x g' hx hg' hi hl'=> ?_)
  ·by_cases hb:b'=σ.n
   ·subst hb;have e1:g'=⟨g.c,g.o+off,g.ext-off,n,t,none⟩:=by simp[Mu.add]at hg';exact hg'.symm
    subst e1;exact .inr ⟨fun h0=>(by cases h0),fun b1 x1 g1 k h1 h2 h3 h4=>(hR.sep b1 x1 g1 h1 h2 h3 k h4 b blk g hblk hg.1).1⟩
   ·exact .inl ⟨x,(old b' x hb hx).1,by simpa[Mu.add,hb]using hg'⟩
  ·have hbb:b'≠b:=fun e=>by subst e;rw[hg.1]at hg';injection hg' with hg';subst hg';rw[hg.2]at hi;cases hi
   unfold cV;rw[hoth _ (fun e=>hR.inj b b' blk x g g' hblk hx (fun e=>hbb e.symm) hown hg.1 hg' e.symm)]
theorem AJ {x:Operand}{d:TypeId}{n by_:Nat}{z:List Value}{p:Option Addr}{sl sc ln:Nat}{new:List Value}{arr:Array Value}(hzn:z.length=n)(f2:F2 (VR μ) new arr.toList)(hlen:new.length=ln*n)
  (hp:e.ev x= .slice p sl sc) (hx:bq x=true) (hr:fR n by_ σ p sl sc ln new=some (v,σ')) (he:cq μ N e a.tmps) (hR:R B μ σ w)
  (hhead: ∀{p':Option Addr} {sc':Nat},a.eval x= .slice p' sl sc'→(sl+ln≤sc'→(execOp a.eval o).run P w=((do
    if let some a:=p' then storeCells (a.add (sl*n)) arr.toList
    pure (.slice p' (sl+ln) sc'):Sem Value).run P w).andThen fun v w=> .ok (.value v) w)∧
   (sc'<sl+ln→(sl+ln)*by_≤140737488355328→sl+ln≤9223372036854775807→∀old:Array Value,(aC n sl (.slice p' sl sc')).run P w.drew= .ok old w.drew→
    ∃cap,sl+ln≤cap∧∃zz:Value,cellsOf zz=z∧(execOp a.eval o).run P w= .ok (.value (.slice (some ⟨w.heap.size,0,none⟩) (sl+ln) cap)) (w.drew.alloc (.cells (old++arr++aD zz.cells (cap-(sl+ln))) d)))):cY P o a w B μ v σ':=by
 have hfin: ∀{p':Option Addr} {sc':Nat} {τ:Hp} {old:List Value} {oa:Array Value},a.eval x= .slice p' sl sc'→sc'<sl+ln→(sl+ln)*by_≤140737488355328→sl+ln≤9223372036854775807→R B μ τ w.drew→old.length=sl*n→(aC n sl (.slice p' sl sc')).run P w.drew= .ok oa w.drew→F2 (VR μ) old oa.toList→
   cY P o a w B μ (.slice (some ⟨τ.n,0,none⟩) (sl+ln) (sl+ln)) (τ.add ⟨old++new,true,n⟩):=by
  intro p' sc' τ old oa hq hlt hb1 hb2 hdrew holdlen q1 q2;obtain⟨_,head⟩:=hhead hq;obtain⟨cap,hcap,zz,hzz,hrun⟩:=head hlt hb1 hb2 oa q1;have hzs:zz.cells.size=n:=by rw[←hzn,←hzz];simp[cellsOf]
  have hoal:oa.toList.length=sl*n:=by rw[←q2.length,holdlen]
  have harl:arr.toList.length=ln*n:=by rw[←f2.length,hlen]
  have hcs:(oa++arr++aD zz.cells (cap-(sl+ln))).size=cap*n:=by
   have hoas:oa.size=sl*n:=by simpa using hoal
   have hars:arr.size=ln*n:=by simpa using harl
   rw[Array.size_append,Array.size_append,Dv,hzs,hoas,hars,←aN,←aN]
   congr 1
   omega
  obtain⟨m1,m2⟩:=hdrew.add (oa++arr++aD zz.cells (cap-(sl+ln))) d (old++new) n (by rw[aH,holdlen,hlen,hcs,←aN];exact aV _ hcap) (by
   have:((oa++arr++aD zz.cells (cap-(sl+ln))).toList).take (old++new).length=oa.toList++arr.toList:=by
    rw[aH,holdlen,hlen,←hoal,←harl,←aH];simp only[Array.toList_append];exact List.take_left
   rw[this]
   exact q2.append f2)
  refine⟨_,_,_,_,hrun, .inl rfl,m2,m1, .slice (o:=0) (g:=⟨w.drew.heap.size,0,_,n,_,none⟩) ⟨by unfold Mu.add;exact zE rfl,rfl⟩ (aF _) hcap (by simp only[aR];rw[hcs];exact aF _), ?_⟩;exact((Below.refl _ _).drew).alloc hR.base _
 have hvx:=he.ev hx;rw[hp]at hvx;unfold fR at hr;split at hr
 ·rename_i hfit;split at hr
  ·rename_i b off
   have hcase: ∃p' sc',a.eval x= .slice p' sl sc'∧sc≤sc'∧VR μ (.slice (some ⟨b,off,none⟩) (sl+ln) sc) (.slice p' (sl+ln) sc')∧(new≠[]→∃g,μ.at b g∧p'=some ⟨g.c,g.o+off,none⟩):=by
    rcases hvx.slice_inv with⟨g,c',hg,h1,h2,h3,hv⟩|⟨h1,h2,A',hv,g0,hg0⟩
    ·exact⟨_,c',hv,h2, .slice hg hfit h2 h3,fun _=>⟨g,hg,rfl⟩⟩
    ·subst h1 h2;have:ln=0:=by omega
     subst this;exact⟨_,0,hv,aF _, .slice0 _ hg0,fun hne=>absurd (List.eq_nil_of_length_eq_zero (by simpa using hlen)) hne⟩
   obtain⟨p',sc',hq,hle,hvr,hwhere⟩:=hcase;obtain⟨head,_⟩:=hhead hq;have head:=head (by omega);split at hr
   ·rename_i hn0;simp only[Option.some.injEq,Prod.mk.injEq]at hr;obtain⟨rfl,rfl⟩:=hr;subst hn0;have:=yh f2;subst this;refine .same hR ?_ hvr;rw[head];cases p'<;>simp[storeCells]
   ·rename_i hn0;split at hr
    ·rename_i blk hblk;split at hr
     ·rename_i blk' hw;simp only[Option.some.injEq,Prod.mk.injEq]at hr;obtain⟨rfl,rfl⟩:=hr;obtain⟨k1,k2,k3,rfl⟩:=AW hw;obtain⟨g,hg,rfl⟩:=hwhere hn0;obtain⟨w',g1,g2,g3⟩:=R.writes _ _ f2 k3 σ w b (off+sl*n) 0 blk g hR hblk k1 hg (by omega);refine⟨_,w',μ,_, ?_, .inl rfl,μ.le_refl,g2,hvr,g3⟩;rw[head];simp[il,aQ];simp[g1]
     ·cases hr
    ·cases hr
  ·split at hr
   ·rename_i hn0;obtain⟨hn0,h1,h2,h3⟩:=hn0;simp only[Option.some.injEq,Prod.mk.injEq]at hr;obtain⟨rfl,rfl⟩:=hr;subst h1 h2 h3 hn0;obtain⟨hq,_,_⟩:=hvx.nils_inv;have:=yh f2;subst this;obtain⟨head,_⟩:=hhead hq;refine .same hR ?_ .nils;rw[head (by omega)];simp
   ·cases hr
  ·cases hr
 ·rename_i hfit;split at hr
  ·rename_i hbig;obtain⟨hb1,hb2,hall⟩:=hbig;have hone: ∀u∈new,one u=true:=fun u hu=>List.all_eq_true.1 hall u hu
   split at hr
   ·rename_i b off;split at hr
    ·rename_i blk hblk;split at hr
     ·rename_i hown;split at hr
      ·rename_i old hold;simp only[Option.some.injEq,Prod.mk.injEq]at hr;obtain⟨rfl,rfl⟩:=hr;have holdlen:=zS hold
       have hcase: ∃p' sc',a.eval x= .slice p' sl sc'∧sc≤sc'∧(∃oa:Array Value,(aC n sl (.slice p' sl sc')).run P w.drew= .ok oa w.drew∧F2 (VR μ) old oa.toList)∧
         (sl+ln≤sc'→∃g,μ.at b g∧p'=some ⟨g.c,g.o+off,none⟩∧off+sc'*g.es≤g.ext):=by
        rcases hvx.slice_inv with⟨g,c',hg,h1,h2,h3,hv⟩|⟨h1,h2,A',hv,g0,hg0⟩
        ·obtain⟨cs',r1,r2⟩:=(sT σ hR).reads hblk hg hold;exact⟨_,c',hv,h2,⟨cs'.toArray,by simp[aC,r1 P w.drew rfl],r2⟩,fun _=>⟨g,hg,rfl,h3⟩⟩
        ·subst h1 h2;rw[Nat.zero_mul]at hold;have:=C1 hold;subst this;exact⟨_,0,hv,aF _,⟨#[],by simp[aC,loadCells,loadCellsFrom], .nil⟩,fun h=>absurd h (by omega)⟩
       obtain⟨p',sc',hq,hle,⟨oa,q1,q2⟩,hin⟩:=hcase;by_cases hin':sl+ln≤sc'
       ·
        obtain⟨head,_⟩:=hhead hq;have head:=head hin';obtain⟨g,hg,rfl,hext⟩:=hin hin';have hlv:=hR.get hblk hg.1;obtain⟨o1,o2,cur,t,fr,o3,o4,o5⟩:=hlv.own hg.2 hown.1;have hes:g.es=n:=hlv.es.trans hown.2;rw[hes]at hext;have hsum:(sl+ln)*n≤sc'*n:=aV _ hin';rw[aN]at hsum;have harl:arr.toList.length=ln*n:=by rw[←f2.length,hlen]
        have hone': ∀u∈arr.toList,u.oneCell'=true:=by
         intro u hu;obtain⟨i,hi,he'⟩:=List.getElem_of_mem hu;obtain⟨u',h1,h2⟩:=f2.get i (new[i]'(by rw[hlen,←harl];exact hi)) (aT _);rw[aT hi]at h1;injection h1 with h1
         rw[←he',h1,←h2.one_iff];exact hone _ (List.getElem_mem _)
        have hst:=vi (P:=P) g.c (g.o+off+sl*n) t fr arr.toList 0 cur w o3 o5 (by omega) hone';rw[Nat.add_zero]at hst;have hrow:=setRow_heap w g.c cur (cur.toList.take (g.o+off+sl*n)++arr.toList++cur.toList.drop (g.o+off+sl*n+arr.toList.length)).toArray t fr o3
        have hold':F2 (VR μ) old ((cur.toList.drop (g.o+off)).take (sl*n)):=by
         obtain⟨cs',r1,r2⟩:=hR.reads hblk hg hold;refine F2.of_get _ _ (by rw[holdlen];simp;omega) fun i u u' hu hu'=> ?_
         have hi:i<sl*n:=by
          rcases Nat.lt_or_ge i (sl*n)with h3|h3
          ·exact h3
          ·rw[aU (by omega)]at hu;cases hu
         unfold iN at hold;split at hold
         ·injection hold with hold
          rw[←hold,aP,zE hi,aO]at hu;obtain⟨u'',h1,h2⟩:=hlv.cell hg.2 (off+i) u hu;rw[cell_of_row _ _ _ cur t fr o3]at h1;rw[aP,zE hi,aO]at hu'
          have:u'=u'':=by
           have e1:cur[g.o+(off+i)]?=some u':=by rw[←Array.getElem?_toList,←aQ];exact hu'
           rw[e1]at h1;exact Option.some.inj h1
          rw[this];exact h2
         ·cases hold
        have hcells:F2 (VR μ) (old++new) (((cur.toList.take (g.o+off+sl*n)++arr.toList++cur.toList.drop (g.o+off+sl*n+arr.toList.length)).toArray.toList.drop (g.o+off)).take (old++new).length):=by
         have:((cur.toList.take (g.o+off+sl*n)++arr.toList++cur.toList.drop (g.o+off+sl*n+arr.toList.length)).toArray.toList.drop (g.o+off)).take (old++new).length=((cur.toList.drop (g.o+off)).take (sl*n))++arr.toList:=by
          rw[aH,holdlen,hlen,aS];rw[List.drop_append_of_le_length (by simp;omega)];rw[List.drop_take,show g.o+off+sl*n-(g.o+off)=sl*n from by omega];have e1:((cur.toList.drop (g.o+off)).take (sl*n)).length=sl*n:=by simp;omega
          have e2:=NE ((cur.toList.drop (g.o+off)).take (sl*n)) arr.toList (cur.toList.drop (g.o+off+sl*n+arr.toList.length));rw[e1,harl]at e2;rw[harl];exact e2
         rw[this];exact hold'.append f2
        obtain⟨m1,m2⟩:=R.moved (w':=w.setRow g.c (cur.toList.take (g.o+off+sl*n)++arr.toList++cur.toList.drop (g.o+off+sl*n+arr.toList.length)).toArray) (n:=n) hR hblk hown.1 hg (o5.imp (fun o5=>by have h9:g.o+off+sl*n+arr.toList.length≤cur.size:=(by omega);rw[Array.length_toList]at h9;simp;omega) id) (by simp) hrow (fun k hk=>setRow_other _ _ _ _ hk) (by simp;omega) (by rw[aH,holdlen,hlen];omega) hcells;refine⟨_,_,_,_, ?_, .inl rfl,m2,m1, .slice (o:=0) (g:=⟨g.c,g.o+off,g.ext-off,n,t,none⟩) ⟨by simp[Mu.add],rfl⟩ (aF _) hin' (by simp;omega), ?_⟩
        ·rw[head];simp only[il];simp only[aB,hst,aA,aE];rfl
        ·refine⟨rfl,rfl,rfl,by simp,fun k hk=>setRow_other _ _ _ _ (by omega)⟩
       ·exact hfin hq (by omega) hb1 hb2 ((sT σ hR).kill b) holdlen q1 q2
      ·cases hr
     ·cases hr
    ·cases hr
   ·split at hr
    ·rename_i hsl;subst hsl;simp only[Option.some.injEq,Prod.mk.injEq]at hr;obtain⟨rfl,rfl⟩:=hr;obtain⟨hq,_,hsc⟩:=hvx.nils_inv;subst hsc;have:=hfin (old:=[]) (oa:= #[]) hq (by omega) hb1 hb2 (sT σ hR) (by simp) (by simp[aC]) .nil;rw[aR]at this;exact this
    ·cases hr
   ·
    rename_i b off q
    have hcase: ∃p',a.eval x= .slice p' sl sc∧sl=sc∧(sl≠0→∃g,μ.at b g∧p'=some ⟨g.c,g.o+off,none⟩):=by
     generalize hq:a.eval x=q' at hvx;cases hvx with
     |sliceX h1 h2=>exact⟨_,rfl,rfl,fun _=>⟨_,h1,rfl⟩⟩
     |sliceX0 A' h1=>exact⟨_,rfl,rfl,fun h=>(h rfl).elim⟩
    obtain⟨p',hq,hsc,hgo⟩:=hcase;have hdrew:=sT σ hR;split at hr
    ·rename_i hsl;simp only[Option.some.injEq,Prod.mk.injEq]at hr;obtain⟨rfl,rfl⟩:=hr;have:=hfin (old:=[]) (oa:= #[]) hq (by omega) hb1 hb2 hdrew (by rw[hsl];simp) (by rw[hsl];cases p'<;>simp[aC,loadCells,loadCellsFrom]) .nil;rw[hsl,aR]at this;exact this
    ·rename_i hsl;split at hr
     ·rename_i blk hblk;split at hr
      ·split at hr
       ·rename_i old hold;simp only[Option.some.injEq,Prod.mk.injEq]at hr;obtain⟨rfl,rfl⟩:=hr;obtain⟨g,hg,rfl⟩:=hgo hsl;obtain⟨cs',r1,r2⟩:=hdrew.reads hblk hg hold;exact hfin (oa:=cs'.toArray) hq (by omega) hb1 hb2 hdrew (zS hold) (by simp[aC,r1 P w.drew rfl]) r2
       ·cases hr
      ·cases hr
     ·cases hr
  ·cases hr
theorem ER {c:Call}{x y:Operand}{st xt d:TypeId}{n by_:Nat}{z:List Value}(ho:o.op= .call c)(hc:c.callee= .builtin .append)(ha:c.args.toList=[x,y])(ht:c.argTypes.toList=[st,xt])(hu:P.underlying st=some (.slice d))
  (hxt:(∃q,P.underlying xt=some (.slice q))∨P.underlying xt=some .string) (hn:eX P d=some n) (hb:GQ P d=some by_) (hz:gz P d=some z) (hzn:z.length=n)
  (hx:bq x=true) (hy:bq y=true) (hr:(AOp.append n by_ x y).run e σ=some (v,σ')) (he:cq μ N e a.tmps) (hR:R B μ σ w):cY P o a w B μ v σ':=by
 have hvy:=he.ev hy;simp only[AOp.run]at hr;split at hr
 ·rename_i p sl sc hp;split at hr
  ·rename_i ln hln;have hln':=J5 hln hvy;split at hr
   ·rename_i new hnew;obtain⟨arr,f0,f2⟩:=mm (P:=P) hln (aF _) hnew hR hvy;have f1:=f0 w rfl;have f1d:=f0 w.drew rfl;have hxt':=hxt
    have hlen:new.length=ln*n:=Lo hnew fun s hs=>by
     rw[hs]at hln;simp[tK]at hln;omega
    exact AJ hzn f2 hlen hp hx hr he hR fun hq=>by
     obtain⟨h1,h2⟩:=GK ho hc ha ht hu hxt' hn hb hz hq hln' f1;exact⟨h1,fun q1 q2 q3 old q4=>h2 q1 q2 q3 old q4 f1d⟩
   ·cases hr
  ·cases hr
 ·cases hr
theorem FB {c:Call}{x y:Operand}{st xt d:TypeId}{n by_:Nat}{z:List Value}(ho:o.op= .call c)(hc:c.callee= .builtin .append)(ha:c.args.toList=[x,y])(ht:c.argTypes.toList=[st,xt])(hu:P.underlying st=some (.slice d))
  (hxt: ∃q,P.underlying xt=some (.int q)) (hn:eX P d=some n) (hb:GQ P d=some by_) (hz:gz P d=some z) (hzn:z.length=n) (h0:0<n)
  {p':Option Addr} {sl sc:Nat} {k:IntKind} {l:Int} (hq:a.eval x= .slice p' sl sc) (hl:a.eval y= .int k l) (l0:0≤l) (l1:l≤9223372036854775807) (l2:l*by_≤281474976710656):
  (sl+l.toNat≤sc→(execOp a.eval o).run P w=((do
    if let some a:=p' then storeCells (a.add (sl*n)) (co z l.toNat).toArray.toList
    pure (.slice p' (sl+l.toNat) sc):Sem Value).run P w).andThen fun v w=> .ok (.value v) w)∧
  (sc<sl+l.toNat→(sl+l.toNat)*by_≤140737488355328→sl+l.toNat≤9223372036854775807→∀old:Array Value,(aC n sl (.slice p' sl sc)).run P w.drew= .ok old w.drew→
   ∃cap,sl+l.toNat≤cap∧∃zz:Value,cellsOf zz=z∧(execOp a.eval o).run P w= .ok (.value (.slice (some ⟨w.heap.size,0,none⟩) (sl+l.toNat) cap)) (w.drew.alloc (.cells (old++(co z l.toNat).toArray++aD zz.cells (cap-(sl+l.toNat))) d))):=by
 obtain⟨cst,hrun⟩:=cB (P:=P) (a:=a) ho hc w;obtain⟨i,hi,hib⟩:=Option.map_eq_some_iff.1 hb;have hinfo: ∀w:World,(typeInfo d).run P w= .ok i w:=fun w=>by simp[typeInfo,hi]
 have e1:(#[Value.slice p' sl sc,Value.int k l]:Array Value)[0]?=some (.slice p' sl sc):=rfl;have e2:(#[Value.slice p' sl sc,Value.int k l]:Array Value)[1]?=some (.int k l):=rfl;have e3:(#[st,xt]:Array TypeId)[0]?=some st:=rfl;have e4:(#[st,xt]:Array TypeId)[1]?=some xt:=rfl;obtain⟨zz,z1,z2,z3⟩:=fv hz;obtain⟨q,hdd⟩:=hxt;have w1:IntKind.i64.wrap l=l:=IntWalk.i64_in _ (by omega);have hzs:zz.cells.size=n:=by rw[←hzn,←z2];simp[cellsOf]
 have hzl:zz.cells.toList=z:=z2
 have happ: ∀w:World,((if l.toNat*n=0 then pure #[]else do pure (aD (←zeroValue d).cells l.toNat)):Sem (Array Value)).run P w= .ok (co z l.toNat).toArray w:=by
  intro w;by_cases hcn:l.toNat*n=0
  ·have hc0:l.toNat=0:=by
    rcases Nat.mul_eq_zero.1 hcn with h|h
    ·exact h
    ·omega
   have:(co z l.toNat)=[]:=by rw[hc0];rfl
   rw[zE hcn,this];simp
  ·rw[zF hcn]
   have hcc:aD zz.cells l.toNat=(co z l.toNat).toArray:=by
    unfold aD;rw[←hzl,←Dr _ _ (by omega)]
   simp only[aB,z1,aE,aA,hcc]
 refine⟨fun hfit=> ?_,fun hgrow hbytes hmax old hold=> ?_⟩
 ·rw[hrun];simp only[builtin,aL,Ca ha,Ca ht,aK,aI,aJ,hq,hl,e1,e2,e3,e4,aB,bw hu,bw hdd,aA,fF hn,aE,aG,if_false,asInt,asIntOf,w1,Bool.not_true,if_true];rw[zF (by omega)];simp only[aB,hinfo,aA,hib];rw[zF (by omega)];simp only[aB,aE,aA];rw[zE hfit];simp only[aB,happ,aA];rfl
 ·refine⟨grownCap w (sl+l.toNat) sc d,grownCap_ge _ _ _ _,zz,z2, ?_⟩;have hfits:=growslice_fits hgrow hbytes;rw[hrun];simp only[builtin,aL,Ca ha,Ca ht,aK,aI,aJ,hq,hl,e1,e2,e3,e4,aB,bw hu,bw hdd,aA,fF hn,aE,aG,if_false,asInt,asIntOf,w1,Bool.not_true,if_true];rw[zF (by omega)];simp only[aB,hinfo,aA,hib];rw[zF (by omega)];simp only[aB,aE,aA];rw[zF (by omega)];simp only[aB,hinfo,aA,true_or,and_true]
  have h63: ¬((sl+l.toNat:Nat):Int) > IntKind.i64.max:=by
   have:IntKind.i64.max=9223372036854775807:=by decide
   omega
  rw[zF h63];simp only[aB,hinfo,aA,hib];rw[zF (by omega)];simp only[aB,run_choose,Question.forced,aG,if_false,World.drew_eq,aA,hinfo,run_askRoom,hold,happ,z1,newRow,run_newObj,aE,World.alloc_eq];rfl
theorem I7 {c:Call}{x y:Operand}{st xt d:TypeId}{n by_:Nat}{z:List Value}(ho:o.op= .call c)(hc:c.callee= .builtin .append)(ha:c.args.toList=[x,y])(ht:c.argTypes.toList=[st,xt])(hu:P.underlying st=some (.slice d))
  (hxt: ∃q,P.underlying xt=some (.int q)) (hn:eX P d=some n) (hb:GQ P d=some by_) (hz:gz P d=some z) (hzn:z.length=n) (h0:0<n)
  (hx:bq x=true) (hy:bq y=true) (hr:(AOp.appendZ n by_ z x y).run e σ=some (v,σ')) (he:cq μ N e a.tmps) (hR:R B μ σ w):cY P o a w B μ v σ':=by
 have hvy:=he.ev hy;obtain⟨zz,z1,z2,z3⟩:=fv hz;simp only[AOp.run]at hr;split at hr
 ·rename_i p sl sc k l hp hq;split at hr
  ·rename_i hcond;rw[hq]at hvy;have v1:=hvy.int_inv;refine AJ (d:=d) (arr:=(co z l.toNat).toArray) hzn (by simpa using VR.plainCells (vl z3 _)) (by simp[oI,hzn]) hp hx hr he hR fun hq'=> ?_
   exact FB ho hc ha ht hu hxt hn hb hz hzn h0 hq' v1 hcond.1 hcond.2.1 hcond.2.2
  ·cases hr
 ·cases hr
end
end
section
open Builtin renaming firstCells → aB
open Nat renaming le_refl → aA, lt_of_lt_of_le → aC
open Go.RowKit
section
variable {P:Program} {o:Oper} {a:Act} {w w':World} {B:Base P} {N:Nat} {μ:Mu} {e:br} {σ σ':Hp} {v:Value}
theorem R.iter (h:R B μ σ w)(s:ByteArray):R B (μ.add σ.n ⟨w.heap.size,0,0,1,0,some (.string s)⟩) (σ.add ⟨[.int .i64 0],true,1⟩) (w.iter s 0)∧μ.le (μ.add σ.n ⟨w.heap.size,0,0,1,0,some (.string s)⟩):=by
 have hf:μ σ.n=none:=h.fresh _ (aA _);have hle':μ.le (μ.add σ.n ⟨w.heap.size,0,0,1,0,some (.string s)⟩):=Mu.le_add hf
 have old: ∀b x,b≠σ.n→(σ.add ⟨[.int .i64 0],true,1⟩).m b=some x→σ.m b=some x:=by
  intro b x hb hx;simpa[Hp.add,hb]using hx
 have new: ∀x,(σ.add ⟨[.int .i64 0],true,1⟩).m σ.n=some x→x=⟨[.int .i64 0],true,1⟩:=by
  intro x hx;simp[Hp.add]at hx;exact hx.symm
 have oldlt: ∀b x g,σ.m b=some x→μ b=some g→g.c<w.heap.size:=fun b x g hx hg=>(h.get hx hg).lt
 have hsz:(w.iter s 0).heap.size=w.heap.size+1:=by simp[World.iter]
 refine⟨⟨by rw[hsz];exact Nat.le_succ_of_le h.base,fun k hk=>(Below.heap_alloc w _ _ (aC hk h.base)).trans (h.old k hk),fun b hb=> ?_,fun b x hx=> ?_,fun b b' x x' g g' hx hx' hne ho hg hg'=> ?_, ?_⟩,hle'⟩
 ·have:σ.n+1≤b:=hb;unfold Mu.add;rw[zF (by omega)];exact h.fresh b (by omega)
 ·by_cases hb:b=σ.n
  ·subst hb;obtain rfl:=new x hx
   exact⟨⟨w.heap.size,0,0,1,0,some (.string s)⟩,by simp[Mu.add],⟨by rw[hsz];exact Nat.lt_succ_self _,rfl,fun h0=>(by cases h0),fun h0=>(by cases h0),fun s' hs=>by
    injection hs with hs
    injection hs with hs
    subst hs
    exact⟨h.base,0,rfl,World.iter_heap w s 0⟩,fun hs=>(by injection hs with hs;cases hs),fun _ hs=>by injection hs with hs;cases hs⟩⟩
  ·have hx':=old b x hb hx;obtain⟨g,h1,h2⟩:=h.live b x hx';exact⟨g,hle' _ _ h1,(h2.mono hle').kept (by rw[hsz];exact Nat.le_succ _) (Below.heap_alloc w _ _ h2.lt) (fun hi k hk=>Below.heap_alloc w _ _ (h.buf hx' h1 hi hk).2.1)⟩
 ·by_cases hb:b=σ.n
  ·subst hb;have hb':b'≠σ.n:=fun e=>hne e.symm
   have:g.c=w.heap.size:=by simp[Mu.add]at hg;rw[←hg]
   have h2:μ b'=some g':=by simpa[Mu.add,hb']using hg'
   have:=oldlt b' x' g' (old _ _ hb' hx') h2;omega
  ·have h1:μ b=some g:=by simpa[Mu.add,hb]using hg
   have hx1:=old b x hb hx;by_cases hb':b'=σ.n
   ·subst hb';have:g'.c=w.heap.size:=by simp[Mu.add]at hg';rw[←hg']
    have:=oldlt b x g hx1 h1;omega
   ·have h2:μ b'=some g':=by simpa[Mu.add,hb']using hg'
    exact h.inj b b' x x' g g' hx1 (old _ _ hb' hx') hne ho h1 h2
 ·refine h.sep.of (fun b x g hx hg=> ?_) (fun b x g hx hg hi _=> ?_)
  ·by_cases hb:b=σ.n
   ·subst hb;have e1:g=⟨w.heap.size,0,0,1,0,some (.string s)⟩:=by simp[Mu.add]at hg;exact hg.symm
    subst e1;exact .inr ⟨fun h0=>(by injection h0 with h0;cases h0),fun b1 x1 g1 k h1 h2 h3 h4 e=>by have:=(h.buf h1 h2 h3 h4).2.1;simp only at e;omega⟩
   ·exact .inl ⟨x,old b x hb hx,by simpa[Mu.add,hb]using hg⟩
  ·unfold cV;rw[show(w.iter s 0).heap[g.c]?=w.heap[g.c]? from Below.heap_alloc w _ _ (oldlt b x g hx hg)]
theorem R.newB (h:R B μ σ w){t:TypeId}(ht:yr P t=true):R B (μ.add σ.n ⟨w.heap.size,0,0,1,t,some .nilFunc⟩) (σ.add ⟨[.string ByteArray.empty],true,1⟩) (w.alloc (.cells #[.pointer none, .slice none 0 0] t))∧μ.le (μ.add σ.n ⟨w.heap.size,0,0,1,t,some .nilFunc⟩):=by
 have hf:μ σ.n=none:=h.fresh _ (aA _);have hle':μ.le (μ.add σ.n ⟨w.heap.size,0,0,1,t,some .nilFunc⟩):=Mu.le_add hf
 have old: ∀b x,b≠σ.n→(σ.add ⟨[.string ByteArray.empty],true,1⟩).m b=some x→σ.m b=some x:=by
  intro b x hb hx;simpa[Hp.add,hb]using hx
 have new: ∀x,(σ.add ⟨[.string ByteArray.empty],true,1⟩).m σ.n=some x→x=⟨[.string ByteArray.empty],true,1⟩:=by
  intro x hx;simp[Hp.add]at hx;exact hx.symm
 have oldlt: ∀b x g,σ.m b=some x→μ b=some g→g.c<w.heap.size:=fun b x g hx hg=>(h.get hx hg).lt
 have hnew:(w.alloc (.cells #[.pointer none, .slice none 0 0] t)).heap[w.heap.size]?=some (.cells #[.pointer none, .slice none 0 0] t (0,0)):=heap_alloc_new w _
 have hbn:cV (w.alloc (.cells #[.pointer none, .slice none 0 0] t)) w.heap.size=none:=by
  unfold cV;rw[hnew];rfl
 refine⟨⟨Nat.le_trans h.base (by simp),fun b hb=>(Below.heap_alloc w _ _ (aC hb h.base)).trans (h.old b hb),fun b hb=> ?_,fun b x hx=> ?_,fun b b' x x' g g' hx hx' hne ho hg hg'=> ?_,fun b x g hx hg hi k hk b' x' g' hx' hg'=> ?_⟩,hle'⟩
 ·have:σ.n+1≤b:=hb;unfold Mu.add;rw[zF (by omega)];exact h.fresh b (by omega)
 ·by_cases hb:b=σ.n
  ·subst hb;obtain rfl:=new x hx
   exact⟨⟨w.heap.size,0,0,1,t,some .nilFunc⟩,by simp[Mu.add],⟨by simp,rfl,fun h0=>(by cases h0),fun h0=>(by cases h0),fun s' hs=>(by injection hs with hs;cases hs),fun _=>
    ⟨ht, .pointer none,ByteArray.empty, .inl rfl,rfl,h.base, .slice none 0 0,hnew,World.ownsRowF_nil _ _ _ _,by simp[Value.ownBlock]⟩,fun _ hs=>by injection hs with hs;cases hs⟩⟩
  ·have hx':=old b x hb hx;obtain⟨g,h1,h2⟩:=h.live b x hx';exact⟨g,hle' _ _ h1,(h2.mono hle').kept (by simp) (Below.heap_alloc w _ _ h2.lt) (fun hi k hk=>Below.heap_alloc w _ _ (h.buf hx' h1 hi hk).2.1)⟩
 ·by_cases hb:b=σ.n
  ·subst hb;have hb':b'≠σ.n:=fun e=>hne e.symm
   have:g.c=w.heap.size:=by simp[Mu.add]at hg;rw[←hg]
   have h2:μ b'=some g':=by simpa[Mu.add,hb']using hg'
   have:=oldlt b' x' g' (old _ _ hb' hx') h2;omega
  ·have h1:μ b=some g:=by simpa[Mu.add,hb]using hg
   have hx1:=old b x hb hx;by_cases hb':b'=σ.n
   ·subst hb';have:g'.c=w.heap.size:=by simp[Mu.add]at hg';rw[←hg']
    have:=oldlt b x g hx1 h1;omega
   ·have h2:μ b'=some g':=by simpa[Mu.add,hb']using hg'
    exact h.inj b b' x x' g g' hx1 (old _ _ hb' hx') hne ho h1 h2
 ·by_cases hb:b=σ.n
  ·subst hb;have e1:g.c=w.heap.size:=by simp[Mu.add]at hg;rw[←hg]
   rw[e1,hbn]at hk;cases hk
  ·have h1:μ b=some g:=by simpa[Mu.add,hb]using hg
   have hx1:=old b x hb hx
   have hkw:cV w g.c=some k:=by
    rw[←hk];unfold cV;rw[Below.heap_alloc w _ _ (oldlt b x g hx1 h1)]
   have hklt:=(h.buf hx1 h1 hi hkw).2.1;by_cases hb':b'=σ.n
   ·subst hb';have e1:g'.c=w.heap.size:=by simp[Mu.add]at hg';rw[←hg']
    refine⟨by omega,fun _ _ hk'=> ?_⟩;rw[e1,hbn]at hk';cases hk'
   ·have h2:μ b'=some g':=by simpa[Mu.add,hb']using hg'
    have hx2:=old b' x' hb' hx';obtain⟨m1,m2⟩:=h.sep b x g hx1 h1 hi k hkw b' x' g' hx2 h2;refine⟨m1,fun hne hi'=> ?_⟩;have:=m2 hne hi';unfold cV at this⊢;rw[Below.heap_alloc w _ _ (oldlt b' x' g' hx2 h2)];exact this
theorem O8 {t:TypeId}(ho:o.op= .alloc t)(ht:yr P t=true)(hz:gz P t=some [.pointer none, .slice none 0 0])(hr:AOp.newB.run e σ=some (v,σ'))(hR:R B μ σ w):cY P o a w B μ v σ':=by
 obtain⟨z',h1,h2,h3⟩:=fv hz;simp only[AOp.run,Option.some.injEq,Prod.mk.injEq]at hr;obtain⟨rfl,rfl⟩:=hr;obtain⟨k1,k2⟩:=hR.newB ht;have hc:z'.cells= #[.pointer none, .slice none 0 0]:=Array.toList_inj.1 h2;refine⟨_,_,_, .pointer (some ⟨w.heap.size,0,none⟩), ?_, .inl rfl,k2,k1, ?_,(Below.refl _ _).alloc hR.base _⟩
 ·simp[execOp,ho,Instr.alloc,h1,newVar,newRow,hc]
 ·exact .iter (g:=⟨w.heap.size,0,0,1,t,some .nilFunc⟩) (by simp[Mu.add]) rfl
theorem R.step (h:R B μ σ w){b:Nat}{x:Blk}{g:G}{s:ByteArray}(hx:σ.m b=some x)(ho:x.own=true)(hg:μ b=some g)(hit:g.it=some (.string s))(q:Nat):
  R B μ (σ.set b (some ⟨[.int .i64 (q:Int)],true,x.es⟩)) (w.iterAt g.c s q):=by
 have hl:=h.get hx hg;obtain⟨o1,p,o3,o4⟩:=hl.iter s hit;have hother: ∀k,k≠g.c→(w.iterAt g.c s q).heap[k]?=w.heap[k]?:=fun k hk=>Lib.iterAt_other w _ k s q hk
 have hsz:(w.iterAt g.c s q).heap.size=w.heap.size:=Lib.iterAt_size w _ s q
 have old: ∀b' x',b'≠b→(σ.set b (some ⟨[.int .i64 (q:Int)],true,x.es⟩)).m b'=some x'→σ.m b'=some x':=by
  intro b' x' hb hx';simpa[Hp.set,hb]using hx'
 have new: ∀x',(σ.set b (some ⟨[.int .i64 (q:Int)],true,x.es⟩)).m b=some x'→x'=⟨[.int .i64 (q:Int)],true,x.es⟩:=by
  intro x' hx';simp[Hp.set]at hx';exact hx'.symm
 refine⟨by rw[hsz];exact h.base,fun k hk=>(hother k (by omega)).trans (h.old k hk),h.fresh,fun b' x' hx'=> ?_,fun b1 b2 x1 x2 g1 g2 h1 h2 hne hown hg1 hg2=> ?_, ?_⟩
 ·by_cases hb:b'=b
  ·subst hb;obtain rfl:=new x' hx'
   exact⟨g,hg,⟨by rw[hsz];exact hl.lt,hl.es,fun h0=>(by rw[hit]at h0;cases h0),fun h0=>(by rw[hit]at h0;cases h0),fun s' hs=>by
    rw[hit]at hs;injection hs with hs
    injection hs with hs
    subst hs
    exact⟨o1,q,rfl,Lib.iterAt_heap w _ s p q o4⟩,fun hs=>(by rw[hit]at hs;injection hs with hs;cases hs),fun _ hs=>by rw[hit]at hs;injection hs with hs;cases hs⟩⟩
  ·have hx1:=old b' x' hb hx';obtain⟨g',h1,h2⟩:=h.live b' x' hx1;exact⟨g',h1,h.stays hx1 h1 (by rw[hsz];exact aA _) g.c (fun k hk _=>hother k hk) (fun e=>h.inj b b' x x' g g' hx hx1 (fun e=>hb e.symm) ho hg h1 e.symm) (fun hi hk=>((h.sep b' x' g' hx1 h1 hi _ hk b x g hx hg).1 rfl))⟩
 ·have keyown: ∀b' x',(σ.set b (some ⟨[.int .i64 (q:Int)],true,x.es⟩)).m b'=some x'→∃y,σ.m b'=some y∧y.own=x'.own:=by
   intro b' x' hx';by_cases hb:b'=b
   ·subst hb;obtain rfl:=new x' hx';exact⟨x,hx,ho⟩
   ·exact⟨x',old b' x' hb hx',rfl⟩
  obtain⟨y1,hy1,e1⟩:=keyown _ _ h1;obtain⟨y2,hy2,_⟩:=keyown _ _ h2;exact h.inj b1 b2 y1 y2 g1 g2 hy1 hy2 hne (e1.trans hown) hg1 hg2
 ·have oldl: ∀b' x',(σ.set b (some ⟨[.int .i64 (q:Int)],true,x.es⟩)).m b'=some x'→∃y,σ.m b'=some y:=by
   intro b' x' hx';by_cases hb:b'=b
   ·subst hb;exact⟨x,hx⟩
   ·exact⟨x',old b' x' hb hx'⟩
  refine h.sep.of (fun b' x' g' hx' hg'=> .inl (let⟨y,hy⟩:=oldl b' x' hx';⟨y,hy,hg'⟩)) (fun b' x' g' hx' hg' hi _=> ?_);have hne:b'≠b:=fun e=>by subst e;rw[hg]at hg';injection hg' with hg';subst hg';rw[hit]at hi;injection hi with hi;cases hi
  unfold cV;rw[hother _ (fun e=>h.inj b b' x x' g g' hx hx' (fun e=>hne e.symm) ho hg hg' e.symm)]
theorem M4 {t:TypeId}{x:Operand}(ho:o.op= .range t x)(hu:P.underlying t=some .string)(hx:bq x=true)(hr:(AOp.range x).run e σ=some (v,σ'))(he:cq μ N e a.tmps)(hR:R B μ σ w):cY P o a w B μ v σ':=by
 have h:=he.ev hx;simp only[AOp.run]at hr;split at hr
 ·rename_i s hs;simp only[Option.some.injEq,Prod.mk.injEq]at hr;obtain⟨rfl,rfl⟩:=hr;rw[hs]at h;obtain⟨h1,h2⟩:=hR.iter s;refine⟨_,_,_, .pointer (some ⟨w.heap.size,0,none⟩), ?_, .inl rfl,h2,h1, ?_,(Below.refl _ _).alloc hR.base _⟩
  ·have:=run_range_string (P:=P) w t s hu;simp[execOp,ho,h.string_inv,this]
  ·exact .iter (g:=⟨w.heap.size,0,0,1,0,some (.string s)⟩) (by simp[Mu.add]) rfl
 ·cases hr
theorem O9 {x:Operand}(ho:o.op= .next x true)(hx:bq x=true)(hr:(AOp.next x).run e σ=some (v,σ'))(he:cq μ N e a.tmps)(hR:R B μ σ w):cY P o a w B μ v σ':=by
 have h:=he.ev hx;simp only[AOp.run]at hr;split at hr
 ·rename_i b s hs;rw[hs]at h
  obtain⟨g,hg,hit,hv⟩: ∃g,μ b=some g∧g.it=some (.string s)∧a.eval x= .pointer (some ⟨g.c,0,none⟩):=by
   generalize a.eval x=u at h;cases h with
   |iter k1 k2=>exact⟨_,k1,k2,rfl⟩
  split at hr
  ·rename_i blk hblk;split at hr
   ·rename_i hown;split at hr
    ·rename_i p r hp;have hl:=hR.get hblk hg;obtain⟨o1,q,o3,o4⟩:=hl.iter s hit;rw[hp]at o3;simp at o3;obtain⟨rfl,rfl⟩:=o3;split at hr
     ·rw[Int.toNat_natCast]at hr;split at hr
      ·rename_i hlt;simp only[Option.some.injEq,Prod.mk.injEq]at hr;obtain⟨rfl,rfl⟩:=hr;have h1:=hR.step hblk hown hg hit (q+(Utf8.decode s q).2);refine⟨_,_,μ, .tuple #[.bool true, .int .i64 q, .int .i32 (Utf8.decode s q).1], ?_, .inl rfl,μ.le_refl,h1, .tuple (.cons (.bool _) (.cons (.int _ _) (.cons (.int _ _) .nil))),Lib.below_iterAt (Below.refl _ _) o1 s _⟩;have:=Lib.run_next_any_at (P:=P) w g.c s q o.type o4 hlt;simp[execOp,ho,hv,this]
      ·rename_i hlt;simp only[Option.some.injEq,Prod.mk.injEq]at hr;obtain⟨rfl,rfl⟩:=hr;have:=Lib.run_next_end_at (P:=P) w g.c s q o.type o4 hlt;exact .same hR (by simp[execOp,ho,hv,this]) (.tuple (.cons (.bool _) .nil))
     ·cases hr
    ·cases hr
   ·cases hr
  ·cases hr
 ·cases hr
theorem O1 {s d:TypeId}{k':IntKind}{x:Operand}(ho:o.op= .convert s d x)(hs:P.underlying s=some (.int k'))(hd:P.underlying d=some .string)(hx:bq x=true)(hr:(AOp.encR x).run e σ=some (v,σ'))(he:cq μ N e a.tmps)(hR:R B μ σ w):cY P o a w B μ v σ':=by
 simp only[AOp.run]at hr;obtain⟨n,hn,hr⟩:=Option.map_eq_some_iff.1 hr;simp only[Prod.mk.injEq]at hr;obtain⟨rfl,rfl⟩:=hr;have h:=he.ev hx;generalize e.ev x=u at*;cases u<;>simp[Mt]at hn;subst hn;have:=h.int_inv;exact .same hR (by simp[execOp,ho,this,convert,bw hs,bw hd,Conv.intToString]) (.string _)
theorem At {μ:Mu}: ∀{cs cs':List Value} {l:List Int},F2 (VR μ) cs cs'→qH cs=some l→cs'=l.map (Value.int .u8)
 |[],_,l,h,hl=>by
  cases h;simp[qH]at hl;subst hl;rfl
 |c::cs,_,l,h,hl=>by
  cases h with
  |cons h1 h2=>
   rename_i c' cs';unfold qH at hl;split at hl
   ·rename_i he;cases he
   ·rename_i n r he;injection he with e1 e2
    subst e1;subst e2;obtain⟨l',h3,h4⟩:=Option.map_eq_some_iff.1 hl;subst h4;rw[At h2 h3,h1.int_inv];rfl
   ·cases hl
theorem G8 (w:World)(a:Addr)(n:Nat){k:Nat}(hk:k≠a.block):(w.freeze a n).heap[k]?=w.heap[k]?:=by
 unfold World.freeze;split
 ·rfl
 ·simp only[Array.getElem?_modify];rw[zF (fun e=>hk e.symm)]
theorem oE (w:World)(a:Addr)(n:Nat):(w.freeze a n).heap.size=w.heap.size:=by
 unfold World.freeze;split
 ·rfl
 ·simp
theorem R.marked (h:R B μ σ w){b:Nat}{x:Blk}{g:G}(hx:σ.m b=some x)(ho:x.own=true)(hg:μ b=some g)(hit:g.it=none){cur:Array Value}{t:TypeId}{fr:Nat×Nat}(o4:w.heap[g.c]?=some (.cells cur t fr)):
  R B μ σ (w.freeze ⟨g.c,cur.size,none⟩ 1)∧Below B w (w.freeze ⟨g.c,cur.size,none⟩ 1):=by
 have hl:=h.get hx hg;obtain⟨o1,o2,cur',e',fr',o4',o5,o6⟩:=hl.own hit ho;rw[o4]at o4';simp only[Option.some.injEq,Obj.cells.injEq]at o4';obtain⟨rfl,rfl,rfl⟩:=o4';have hother: ∀k,k≠g.c→(w.freeze ⟨g.c,cur.size,none⟩ 1).heap[k]?=w.heap[k]?:=fun k hk=>G8 w _ _ hk
 have hsame: ∃fr2:Nat×Nat,(w.freeze ⟨g.c,cur.size,none⟩ 1).heap[g.c]?=some (.cells cur t fr2)∧(cur.size≤fr2.1∨fr2.1=fr2.2):=by
  obtain⟨lo,hi⟩:=fr;refine⟨if lo==hi then(cur.size,cur.size+1)else(min lo cur.size,max hi (cur.size+1)), ?_, ?_⟩
  ·simp[World.freeze,Array.getElem?_modify,o4]
  ·left;simp only at o6;by_cases hlh:lo=hi
   ·simp[hlh]
   ·simp[hlh];omega
 obtain⟨fr2,hs1,hs2⟩:=hsame;refine⟨⟨by rw[oE];exact h.base,fun k hk=>(hother k (by omega)).trans (h.old k hk),h.fresh,fun b' x' hx'=> ?_,h.inj, ?_⟩,⟨?_, ?_, ?_,by rw[oE];exact aA _,fun k hk=>hother k (by omega)⟩⟩
 ·by_cases hb:b'=b
  ·subst hb;rw[hx]at hx';injection hx' with hx'
   subst hx';refine⟨g,hg,⟨by rw[oE];exact hl.lt,hl.es,fun _ j u hu=> ?_,fun _ _=>⟨o1,o2,cur,t,fr2,hs1,o5,hs2⟩,fun s hs=>(by rw[hit]at hs;cases hs),fun hs=>(by rw[hit]at hs;cases hs),fun _ hs=>by rw[hit]at hs;cases hs⟩⟩;obtain⟨u',h1,h2⟩:=hl.cell hit j u hu;refine⟨u', ?_,h2⟩;rw[cell_of_row _ _ _ _ t fr o4]at h1;rw[cell_of_row _ _ _ _ t fr2 hs1];exact h1
  ·obtain⟨g',h1,h2⟩:=h.live b' x' hx';exact⟨g',h1,h.stays hx' h1 (by rw[oE];exact aA _) g.c (fun k hk _=>hother k hk) (fun e=>h.inj b b' x x' g g' hx hx' (fun e=>hb e.symm) ho hg h1 e.symm) (fun hi hk=>((h.sep b' x' g' hx' h1 hi _ hk b x g hx hg).1 rfl))⟩
 ·refine h.sep.of (fun b' x' g' hx' hg'=> .inl ⟨x',hx',hg'⟩) (fun b' x' g' hx' hg' hi _=> ?_);have hne:b'≠b:=fun e=>by subst e;rw[hg]at hg';injection hg' with hg';subst hg';rw[hit]at hi;cases hi
  unfold cV;rw[hother _ (fun e=>h.inj b b' x x' g g' hx hx' (fun e=>hne e.symm) ho hg hg' e.symm)]
 ·unfold World.freeze;split<;>rfl
 ·unfold World.freeze;split<;>rfl
 ·unfold World.freeze;split<;>rfl
theorem O6 {s t:TypeId}{x:Operand}(ho:o.op= .convert s s x)(hs:P.underlying s=some (.slice t))(ht:P.underlying t=some (.int .u8))(hx:bq x=true)(hr:(AOp.mark x).run e σ=some (v,σ'))(he:cq μ N e a.tmps)(hR:R B μ σ w):cY P o a w B μ v σ':=by
 have h:=he.ev hx;simp only[AOp.run]at hr;split at hr
 ·rename_i b of n c hp;rw[hp]at h;split at hr
  ·rename_i h0;split at hr
   ·rename_i blk hb;split at hr
    ·rename_i hown;simp only[Option.some.injEq,Prod.mk.injEq]at hr;obtain⟨rfl,rfl⟩:=hr;generalize hq:a.eval x=u at h;cases h with
     |slice k1 k2 k3 k4=>
      rename_i c' g;obtain⟨o1,o2,cur,e',fr,o4,o5,o6⟩:=(hR.get hb k1.1).own k1.2 hown;obtain⟨m1,m2⟩:=hR.marked hb hown k1.1 k1.2 o4;refine⟨_,_,μ, .slice (some ⟨g.c,g.o+of,none⟩) n c', ?_, .inl rfl,μ.le_refl,m1, .slice k1 k2 k3 k4,m2⟩;have hsh:w.shape? g.c=some (e',cur.size):=by simp[World.shape?,o4]
      have h9:(markStringish ⟨g.c,g.o+of,none⟩).run P w= .ok () (w.freeze ⟨g.c,cur.size,none⟩ 1):=by
       unfold markStringish shape;simp only[Sem.run_bind];rw[show(Sem.shape g.c Sem.pure).run P w= .ok (w.shape? g.c) w from rfl,hsh];rfl
      simp[execOp,ho,hq,convert,bw hs,bw ht,h9]
     |slice0 A' k1=>omega
    ·cases hr
   ·cases hr
  ·cases hr
 ·cases hr
theorem M7 {s d t:TypeId}{x:Operand}(ho:o.op= .convert s d x)(hs:P.underlying s=some (.slice t))(ht:P.underlying t=some (.int .u8))(hd:P.underlying d=some .string)(hx:bq x=true)(hr:(AOp.strOf x).run e σ=some (v,σ'))(he:cq μ N e a.tmps)(hR:R B μ σ w):cY P o a w B μ v σ':=by
 have h:=he.ev hx;simp only[AOp.run]at hr;split at hr
 ·rename_i p n c hp;rw[hp]at h;split at hr
  ·rename_i cs hcs;obtain⟨l,hl,hr⟩:=Option.map_eq_some_iff.1 hr;simp only[Prod.mk.injEq]at hr;obtain⟨rfl,rfl⟩:=hr;obtain⟨arr,h1,h2⟩:=mm (P:=P) (es:=1) (n:=n) (ln:=n) rfl (aA _) hcs hR h;have h3:=At h2 hl;have h1':=h1 w rfl
   have key: ∀(q:Option Addr) (c':Nat),a.eval x= .slice q n c'→(n=0∨∃z,q=some z)→(execOp a.eval o).run P w= .ok (.value (.string (vj l))) w:=by
    intro q c' hq hz;rw[hq]at h1';cases q with
    |none=>
     rcases hz with hz|⟨z,hz⟩
     ·subst hz;simp[aB]at h1';subst h1';have hl0:l=[]:=by simpa using h3.symm
      subst hl0;simp[execOp,ho,hq,run_convert_bytes_string w s d t none 0 c' hs ht hd,Conv.bytesToString,vj]
     ·cases hz
    |some z=>
     have hload:(loadCells z n).run P w= .ok (l.map (Value.int .u8)).toArray w:=by
      simp only[aB,Nat.mul_one]at h1';rw[h1',←h3]
     simp[execOp,ho,hq,run_convert_bytes_string w s d t (some z) n c' hs ht hd,run_bytesToString w z n c' l hload,vj]
   generalize hq:a.eval x=u at h;cases h with
   |nils=>exact .same hR (key none 0 hq (.inl rfl)) (.string _)
   |slice k1 k2 k3 k4=>exact .same hR (key _ _ hq (.inr ⟨_,rfl⟩)) (.string _)
   |slice0 A' k1=>exact .same hR (key _ _ hq (.inl rfl)) (.string _)
   |sliceX k1 k2=>exact .same hR (key _ _ hq (.inr ⟨_,rfl⟩)) (.string _)
   |sliceX0 A' k1=>exact .same hR (key _ _ hq (.inl rfl)) (.string _)
  ·cases hr
 ·cases hr
theorem AM {μ:Mu}: ∀{cs cs':List Value} {l:List Int},F2 (VR μ) cs cs'→qN cs=some l→cs'=l.map (Value.int .i32)
 |[],_,l,h,hl=>by
  cases h;simp[qN]at hl;subst hl;rfl
 |c::cs,_,l,h,hl=>by
  cases h with
  |cons h1 h2=>
   rename_i c' cs';unfold qN at hl;split at hl
   ·rename_i he;cases he
   ·rename_i n r he;injection he with e1 e2
    subst e1;subst e2;obtain⟨l',h3,h4⟩:=Option.map_eq_some_iff.1 hl;subst h4;rw[AM h2 h3,h1.int_inv];rfl
   ·cases hl
theorem Lc {s d t:TypeId}{x:Operand}(ho:o.op= .convert s d x)(hs:P.underlying s=some (.slice t))(ht:P.underlying t=some (.int .i32))(hd:P.underlying d=some .string)(hx:bq x=true)(hr:(AOp.strOfR x).run e σ=some (v,σ'))(he:cq μ N e a.tmps)(hR:R B μ σ w):cY P o a w B μ v σ':=by
 have h:=he.ev hx;simp only[AOp.run]at hr;split at hr
 ·rename_i p n c hp;rw[hp]at h;split at hr
  ·rename_i cs hcs;obtain⟨l,hl,hr⟩:=Option.map_eq_some_iff.1 hr;simp only[Prod.mk.injEq]at hr;obtain⟨rfl,rfl⟩:=hr;obtain⟨arr,h1,h2⟩:=mm (P:=P) (es:=1) (n:=n) (ln:=n) rfl (aA _) hcs hR h;have h3:=AM h2 hl;have h1':=h1 w rfl
   have key: ∀(q:Option Addr) (c':Nat),a.eval x= .slice q n c'→(n=0∨∃z,q=some z)→(execOp a.eval o).run P w= .ok (.value (.string (JB l))) w:=by
    intro q c' hq hz;rw[hq]at h1';cases q with
    |none=>
     rcases hz with hz|⟨z,hz⟩
     ·subst hz;simp[aB]at h1';subst h1';have hl0:l=[]:=by simpa using h3.symm
      subst hl0;simp[execOp,ho,hq,run_convert_runes_string w s d t none 0 c' hs ht hd,Conv.runesToString,JB]
     ·cases hz
    |some z=>
     have hload:(loadCells z n).run P w= .ok (l.map (Value.int .i32)).toArray w:=by
      simp only[aB,Nat.mul_one]at h1';rw[h1',←h3]
     simp[execOp,ho,hq,run_convert_runes_string w s d t (some z) n c' hs ht hd,run_runesToString w z n c' l hload,JB,runesBytes]
   generalize hq:a.eval x=u at h;cases h with
   |nils=>exact .same hR (key none 0 hq (.inl rfl)) (.string _)
   |slice k1 k2 k3 k4=>exact .same hR (key _ _ hq (.inr ⟨_,rfl⟩)) (.string _)
   |slice0 A' k1=>exact .same hR (key _ _ hq (.inl rfl)) (.string _)
   |sliceX k1 k2=>exact .same hR (key _ _ hq (.inr ⟨_,rfl⟩)) (.string _)
   |sliceX0 A' k1=>exact .same hR (key _ _ hq (.inl rfl)) (.string _)
  ·cases hr
 ·cases hr
theorem I9 {s d t:TypeId}{x:Operand}(ho:o.op= .convert s d x)(hs:P.underlying s=some .string)(hd:P.underlying d=some (.slice t))(ht:P.underlying t=some (.int .i32))(hx:bq x=true)(hr:(AOp.runesOf x).run e σ=some (v,σ'))(he:cq μ N e a.tmps)(hR:R B μ σ w):cY P o a w B μ v σ':=by
 have h:=he.ev hx;simp only[AOp.run]at hr;split at hr
 ·rename_i z hz;rw[hz]at h;split at hr
  ·rename_i hsz;simp only[Option.some.injEq,Prod.mk.injEq]at hr;obtain⟨rfl,rfl⟩:=hr;have hv:=h.string_inv
   have hn:(Conv.runesFrom z z.size 0 #[]).size≤70368744177664:=by
    have:=size_runesFrom z z.size 0 #[];simp at this;omega
   have hrun:=run_runes_of_string (P:=P) w s d t z hs hd ht hn
   have hint: ∀(s:ByteArray) (b i:Nat) (acc:Array Value),(∀u∈acc.toList,∃n,u=Value.int .i32 n)→∀u∈(Conv.runesFrom s b i acc).toList,∃n,u=Value.int .i32 n:=by
    intro s b;induction b with
    |zero=>intro i acc h u hu;exact h u hu
    |succ b ih=>
     intro i acc h u hu;unfold Conv.runesFrom at hu;split at hu
     ·refine ih _ _ (fun y hy=> ?_) u hu;rw[Array.toList_push,List.mem_append]at hy;rcases hy with hy|hy
      ·exact h y hy
      ·rw[List.mem_singleton]at hy;exact⟨_,hy⟩
     ·exact h u hu
   have hF:F2 (VR μ) (eV z) (eV z):=F2.same _ fun u hu=>by
    obtain⟨n,rfl⟩:=hint z z.size 0 #[] (fun u hu=>by simp at hu) u hu;exact .int _ _
   have hge:=grownCap_ge w (Conv.runesFrom z z.size 0 #[]).size 0 t;have hdrew:R B μ σ w.drew:=hR.same rfl
   obtain⟨m1,m2⟩:=hdrew.add (Conv.runesFrom z z.size 0 #[]++Array.replicate (grownCap w (Conv.runesFrom z z.size 0 #[]).size 0 t-(Conv.runesFrom z z.size 0 #[]).size) (.int .i32 0)) t (eV z) 1 (by
    unfold eV;rw[Array.size_append,Array.length_toList]
    omega) (by
    unfold eV;rw[Array.toList_append,List.take_left]
    exact hF)
   have hlen:(eV z).length=(Conv.runesFrom z z.size 0 #[]).size:=by unfold eV;simp
   refine⟨_,_,_, .slice (some ⟨w.heap.size,0,none⟩) (Conv.runesFrom z z.size 0 #[]).size (grownCap w (Conv.runesFrom z z.size 0 #[]).size 0 t), ?_, .inl rfl,m2,m1, ?_,((Below.refl _ _).drew).alloc hR.base _⟩
   ·simp[execOp,ho,hv,hrun]
   ·rw[hlen]
    exact .slice (o:=0) (g:=⟨w.drew.heap.size,0,_,1,t,none⟩) ⟨by unfold Mu.add;exact zE rfl,rfl⟩ (aA _) hge (by
     simp only[Array.size_append,Array.size_replicate]
     omega)
  ·cases hr
 ·cases hr
end
end
section
open List renaming replicate → aA, map_cons → aB, find?_cons → aE, getElem?_map → aF, getElem?_eq_getElem → aG, mem_cons_of_mem → aH, mem_cons_self → aI
open Nat renaming le_refl → aC
open Option renaming map_some → aJ
open Result renaming andThen → aD
open Go.RowKit
section
variable {P:Program} {o:Oper} {a:Act} {w w':World} {B:Base P} {N:Nat} {μ:Mu} {e:br} {σ σ':Hp} {v:Value}
theorem R.newM (h:R B μ σ w)(k:IntKind):R B (μ.add σ.n ⟨w.heap.size,0,0,1,0,some (.int k 0)⟩) (σ.add ⟨[.string ByteArray.empty],true,1⟩) (w.alloc (.map #[] 0))∧μ.le (μ.add σ.n ⟨w.heap.size,0,0,1,0,some (.int k 0)⟩):=by
 have hf:μ σ.n=none:=h.fresh _ (aC _);have hle':μ.le (μ.add σ.n ⟨w.heap.size,0,0,1,0,some (.int k 0)⟩):=Mu.le_add hf
 have old: ∀b x,b≠σ.n→(σ.add ⟨[.string ByteArray.empty],true,1⟩).m b=some x→σ.m b=some x:=by
  intro b x hb hx;simpa[Hp.add,hb]using hx
 have new: ∀x,(σ.add ⟨[.string ByteArray.empty],true,1⟩).m σ.n=some x→x=⟨[.string ByteArray.empty],true,1⟩:=by
  intro x hx;simp[Hp.add]at hx;exact hx.symm
 have oldlt: ∀b x g,σ.m b=some x→μ b=some g→g.c<w.heap.size:=fun b x g hx hg=>(h.get hx hg).lt
 have hsz:(w.alloc (.map #[] 0)).heap.size=w.heap.size+1:=by simp
 refine⟨⟨by rw[hsz];exact Nat.le_succ_of_le h.base,fun k hk=>(Below.heap_alloc w _ _ (Nat.lt_of_lt_of_le hk h.base)).trans (h.old k hk),fun b hb=> ?_,fun b x hx=> ?_,fun b b' x x' g g' hx hx' hne ho hg hg'=> ?_, ?_⟩,hle'⟩
 ·have:σ.n+1≤b:=hb;unfold Mu.add;rw[zF (by omega)];exact h.fresh b (by omega)
 ·by_cases hb:b=σ.n
  ·subst hb;obtain rfl:=new x hx
   exact⟨⟨w.heap.size,0,0,1,0,some (.int k 0)⟩,by simp[Mu.add],⟨by rw[hsz];exact Nat.lt_succ_self _,rfl,fun h0=>(by cases h0),fun h0=>(by cases h0),fun s' hs=>(by injection hs with hs;cases hs),fun hs=>(by injection hs with hs;cases hs),fun k' hk=>by
    injection hk with hk
    injection hk with hk
    subst hk
    exact⟨h.base, #[],0,ByteArray.empty,rfl,heap_alloc_new w _,[],rfl,rfl⟩⟩⟩
  ·have hx':=old b x hb hx;obtain⟨g,h1,h2⟩:=h.live b x hx';exact⟨g,hle' _ _ h1,(h2.mono hle').kept (by rw[hsz];exact Nat.le_succ _) (Below.heap_alloc w _ _ h2.lt) (fun hi q hq=>Below.heap_alloc w _ _ (h.buf hx' h1 hi hq).2.1)⟩
 ·by_cases hb:b=σ.n
  ·subst hb;have hb':b'≠σ.n:=fun e=>hne e.symm
   have:g.c=w.heap.size:=by simp[Mu.add]at hg;rw[←hg]
   have h2:μ b'=some g':=by simpa[Mu.add,hb']using hg'
   have:=oldlt b' x' g' (old _ _ hb' hx') h2;omega
  ·have h1:μ b=some g:=by simpa[Mu.add,hb]using hg
   have hx1:=old b x hb hx;by_cases hb':b'=σ.n
   ·subst hb';have:g'.c=w.heap.size:=by simp[Mu.add]at hg';rw[←hg']
    have:=oldlt b x g hx1 h1;omega
   ·have h2:μ b'=some g':=by simpa[Mu.add,hb']using hg'
    exact h.inj b b' x x' g g' hx1 (old _ _ hb' hx') hne ho h1 h2
 ·refine h.sep.of (fun b x g hx hg=> ?_) (fun b x g hx hg hi _=> ?_)
  ·by_cases hb:b=σ.n
   ·subst hb;have e1:g=⟨w.heap.size,0,0,1,0,some (.int k 0)⟩:=by simp[Mu.add]at hg;exact hg.symm
    subst e1;exact .inr ⟨fun h0=>(by injection h0 with h0;cases h0),fun b1 x1 g1 q h1 h2 h3 h4 e=>by have:=(h.buf h1 h2 h3 h4).2.1;simp only at e;omega⟩
   ·exact .inl ⟨x,old b x hb hx,by simpa[Mu.add,hb]using hg⟩
  ·unfold cV;rw[show(w.alloc (.map #[] 0)).heap[g.c]?=w.heap[g.c]? from Below.heap_alloc w _ _ (oldlt b x g hx hg)]
def yA (w:World)(r:Nat)(o:Obj):World:={w with heap:=w.heap.setIfInBounds r o}
theorem uR (w:World)(r k:Nat)(o:Obj)(h:k≠r):(yA w r o).heap[k]?=w.heap[k]?:=by
 simp only[yA];rw[Array.getElem?_setIfInBounds_ne (fun e=>h e.symm)]
theorem xo (w:World)(r:Nat)(o:Obj):(yA w r o).heap.size=w.heap.size:=by simp[yA]
theorem I6 (w:World)(r:Nat)(o x:Obj)(h:w.heap[r]?=some x):(yA w r o).heap[r]?=some o:=by
 have hr:r<w.heap.size:=by
  rcases Nat.lt_or_ge r w.heap.size with h1|h1
  ·exact h1
  ·rw[Array.getElem?_eq_none h1]at h;cases h
 simp only[yA];rw[Array.getElem?_setIfInBounds_self_of_lt hr]
theorem R.setM (h:R B μ σ w){b:Nat}{x:Blk}{g:G}{kd:IntKind}(hx:σ.m b=some x)(ho:x.own=true)(hg:μ b=some g)(hit:g.it=some (.int kd 0)){es':Array MapEntry}{s':ByteArray}(cl':Nat)(hm:ue kd es' s'):
  R B μ (σ.set b (some ⟨[.string s'],true,x.es⟩)) (yA w g.c (.map es' cl')):=by
 have hl:=h.get hx hg;obtain⟨o1,es,cl,s,o3,o4,o5⟩:=hl.mp kd hit;have hother: ∀k,k≠g.c→(yA w g.c (.map es' cl')).heap[k]?=w.heap[k]?:=fun k hk=>uR w _ k _ hk
 have hsz:(yA w g.c (.map es' cl')).heap.size=w.heap.size:=xo w _ _
 have old: ∀b' x',b'≠b→(σ.set b (some ⟨[.string s'],true,x.es⟩)).m b'=some x'→σ.m b'=some x':=by
  intro b' x' hb hx';simpa[Hp.set,hb]using hx'
 have new: ∀x',(σ.set b (some ⟨[.string s'],true,x.es⟩)).m b=some x'→x'=⟨[.string s'],true,x.es⟩:=by
  intro x' hx';simp[Hp.set]at hx';exact hx'.symm
 refine⟨by rw[hsz];exact h.base,fun k hk=>(hother k (by omega)).trans (h.old k hk),h.fresh,fun b' x' hx'=> ?_,fun b1 b2 x1 x2 g1 g2 h1 h2 hne hown hg1 hg2=> ?_, ?_⟩
 ·by_cases hb:b'=b
  ·subst hb;obtain rfl:=new x' hx'
   exact⟨g,hg,⟨by rw[hsz];exact hl.lt,hl.es,fun h0=>(by rw[hit]at h0;cases h0),fun h0=>(by rw[hit]at h0;cases h0),fun s2 hs=>(by rw[hit]at hs;injection hs with hs;cases hs),fun hs=>(by rw[hit]at hs;injection hs with hs;cases hs),fun k' hk=>by
    rw[hit]at hk;injection hk with hk
    injection hk with hk
    subst hk
    exact⟨o1,es',cl',s',rfl,I6 w _ _ _ o4,hm⟩⟩⟩
  ·have hx1:=old b' x' hb hx';obtain⟨g',h1,h2⟩:=h.live b' x' hx1;exact⟨g',h1,h.stays hx1 h1 (by rw[hsz];exact aC _) g.c (fun k hk _=>hother k hk) (fun e=>h.inj b b' x x' g g' hx hx1 (fun e=>hb e.symm) ho hg h1 e.symm) (fun hi hk=>((h.sep b' x' g' hx1 h1 hi _ hk b x g hx hg).1 rfl))⟩
 ·have keyown: ∀b' x',(σ.set b (some ⟨[.string s'],true,x.es⟩)).m b'=some x'→∃y,σ.m b'=some y∧y.own=x'.own:=by
   intro b' x' hx';by_cases hb:b'=b
   ·subst hb;obtain rfl:=new x' hx';exact⟨x,hx,ho⟩
   ·exact⟨x',old b' x' hb hx',rfl⟩
  obtain⟨y1,hy1,e1⟩:=keyown _ _ h1;obtain⟨y2,hy2,_⟩:=keyown _ _ h2;exact h.inj b1 b2 y1 y2 g1 g2 hy1 hy2 hne (e1.trans hown) hg1 hg2
 ·have oldl: ∀b' x',(σ.set b (some ⟨[.string s'],true,x.es⟩)).m b'=some x'→∃y,σ.m b'=some y:=by
   intro b' x' hx';by_cases hb:b'=b
   ·subst hb;exact⟨x,hx⟩
   ·exact⟨x',old b' x' hb hx'⟩
  refine h.sep.of (fun b' x' g' hx' hg'=> .inl (let⟨y,hy⟩:=oldl b' x' hx';⟨y,hy,hg'⟩)) (fun b' x' g' hx' hg' hi _=> ?_);have hne:b'≠b:=fun e=>by subst e;rw[hg]at hg';injection hg' with hg';subst hg';rw[hit]at hi;injection hi with hi;cases hi
  unfold cV;rw[hother _ (fun e=>h.inj b b' x x' g g' hx hx' (fun e=>hne e.symm) ho hg hg' e.symm)]
theorem K3 : ∀(k r:List Int),ql (k.flatMap (fun b=>[1,b])++0::r)=(k,match r with|[]=>[]|_=>r):=by
 intro k r;induction k with
 |nil=>cases r with
  |nil=>rfl
  |cons x r=>simp[ql]
 |cons b k ih=>
  show ql (1::b::(k.flatMap (fun b=>[1,b])++0::r))=_;unfold ql;rw[zE rfl,ih]
theorem CT (r:List Int): ∀n,lW (aA n 1++0::r)=(n,r)
 |0=>by simp[lW]
 |n+1=>by
  show lW (1::(aA n 1++0::r))=_;unfold lW;rw[zE rfl,CT r n]
theorem I4 (k:List Int){r:List Int}(h:r≠[]):ql (k.flatMap (fun b=>[1,b])++0::r)=(k,r):=by
 rw[K3];cases r with
 |nil=>exact(h rfl).elim
 |cons x r=>rfl
theorem EH : ∀(l:List (List Int×Int)) (n:Nat),(dp l).length≤n→EG n (dp l)=l
 |[],0,_=>rfl
 |[],_+1,_=>rfl
 |(k,v)::r,n,h=>by
  have hne:aA v.toNat (1:Int)++0::(aA (-v).toNat 1++0::dp r)≠[]:=by simp
  have e0:dp ((k,v)::r)=k.flatMap (fun b=>[1,b])++0::(aA v.toNat 1++0::(aA (-v).toNat 1++0::dp r)):=rfl;have e1:=I4 k hne;rw[←e0]at e1
  have hl:(dp r).length+1≤(dp ((k,v)::r)).length:=by
   rw[e0];simp only[List.length_append,List.length_cons,List.length_replicate];omega
  cases n with
  |zero=>omega
  |succ n=>
   cases hc:dp ((k,v)::r)with
   |nil=>rw[hc]at hl;simp at hl
   |cons x l=>
    unfold EG;rw[hc]at e1;rw[e1];simp only[CT];rw[EH r n (by rw[hc]at hl h;omega)]
    congr 2
    omega
theorem vN (l:List (List Int×Int)):AH (dp l)=l:=EH l _ (aC _)
theorem Ci (s:ByteArray): ∀x∈ak s,0≤x∧x<256:=by
 intro x hx;unfold ak at hx;obtain⟨b,_,rfl⟩:=List.mem_map.1 hx;have:=b.toNat_lt;omega
theorem CS : ∀l:List (List Int×Int),(∀p∈l,∀x∈p.1,0≤x∧x<256)→∀x∈dp l,0≤x∧x<256
 |[],_,x,hx=>by cases hx
 |(k,v)::r,h,x,hx=>by
  have hk:=h _ (aI ..);have ih:=CS r fun p hp=>h p (aH _ hp)
  unfold dp at hx;simp only[List.mem_append,List.mem_cons,List.mem_flatMap,List.mem_replicate,List.not_mem_nil,or_false]at hx;rcases hx with⟨b,hb,rfl|rfl⟩|rfl|⟨_,rfl⟩|rfl|⟨_,rfl⟩|rfl|hx
  ·omega
  ·exact hk _ hb
  all_goals first|omega|exact ih _ hx
theorem sI {a b:ByteArray}(h:ak a=ak b):a=b:=by
 unfold ak at h
 have:a.data.toList=b.data.toList:=by
  have hi: ∀(l l':List UInt8),l.map (fun b=>(b.toNat:Int))=l'.map (fun b=>(b.toNat:Int))→l=l':=by
   intro l;induction l with
   |nil=>intro l' h;cases l' with
    |nil=>rfl
    |cons x r=>cases h
   |cons x r ih=>intro l' h;cases l' with
    |nil=>cases h
    |cons y r'=>
     simp only[aB,List.cons.injEq]at h;have:x.toNat=y.toNat:=by omega
     rw[UInt8.toNat_inj.1 this,ih r' h.2]
  exact hi _ _ h
 cases a;cases b
 congr 1
 exact Array.toList_inj.1 this
theorem As (l:List Int)(h: ∀x∈l,0≤x∧x<256):ak (vj l)=l:=by
 have key: ∀(l:List Int) (s:ByteArray),(∀x∈l,0≤x∧x<256)→ak (l.foldl (fun r n=>r.push (UInt8.ofNat n.toNat)) s)=ak s++l:=by
  intro l;induction l with
  |nil=>intro s _;simp
  |cons n l ih=>
   intro s hl;rw[List.foldl_cons,ih _ fun x hx=>hl x (aH _ hx)];have h0:=hl n (aI ..)
   have:ak (s.push (UInt8.ofNat n.toNat))=ak s++[n]:=by
    unfold ak;simp only[ByteArray.push,Array.toList_push,List.map_append,aB,List.map_nil]
    congr 2
    rw[UInt8.toNat_ofNat'];omega
   rw[this,List.append_assoc];rfl
 rw[show vj l=l.foldl (fun r n=>r.push (UInt8.ofNat n.toNat)) ByteArray.empty from rfl,key l _ h];rfl
theorem Cs {kd:IntKind}(key:ByteArray): ∀(es:List MapEntry) (l:List (ByteArray×Int)) (n:Nat),es.map (fun e=>(e.key,e.val))=l.map (fun p=>(Value.string p.1,Value.int kd p.2))→
  ((l.find? fun p=>decide (p.1=key))=none∧Instr.findNow .string (.string key) es n=some none)∨∃i p,(l.find? fun p=>decide (p.1=key))=some p∧Instr.findNow .string (.string key) es n=some (some (n+i, .int kd p.2))∧l[i]?=some p∧p.1=key∧∀j,j<i→∀q,l[j]?=some q→q.1≠key
 |[],[],n,_=> .inl ⟨rfl,rfl⟩
 |[],_::_,n,h=>by cases h
 |_::_,[],n,h=>by cases h
 |e::es,p::l,n,h=>by
  simp only[aB,List.cons.injEq,Prod.mk.injEq]at h;obtain⟨⟨h1,h2⟩,h3⟩:=h;unfold Instr.findNow;rw[h1,h2];simp only[Instr.sameNow];by_cases hk:p.1=key
  ·right;refine⟨0,p, ?_, ?_,rfl,hk,fun j hj=>by omega⟩
   ·rw[aE,zB hk]
   ·rw[hk,(MapKept.bytes_beq key key).2 rfl];rfl
  ·have hb:(key==p.1)=false:=by
    cases hq:key==p.1 with
    |false=>rfl
    |true=>exact(hk ((MapKept.bytes_beq _ _).1 hq).symm).elim
   rw[hb];simp only;rw[aE,zA hk];simp only;rcases Cs key es l (n+1) h3 with⟨k1,k2⟩|⟨i,q,k1,k2,k3,k4,k5⟩
   ·exact .inl ⟨k1,k2⟩
   ·refine .inr ⟨i+1,q,k1,by rw[k2];congr 3;omega,k3,k4,fun j hj r hr=> ?_⟩;cases j with
    |zero=>simp at hr;rw[←hr];exact hk
    |succ j=>exact k5 j (by omega) r (by simpa using hr)
theorem IV (key:ByteArray)(l:List (ByteArray×Int)):((l.map fun p=>(ak p.1,p.2)).find? fun p=>decide (p.1=ak key)).map (·.2)=(l.find? fun p=>decide (p.1=key)).map (·.2):=by
 induction l with
 |nil=>rfl
 |cons p l ih=>
  rw[aB,aE,aE];by_cases hk:p.1=key
  ·rw[zB hk,zB (by rw[hk])];rfl
  ·rw[zA hk,zA (fun e=>hk (sI e))];exact ih
theorem zR (key:ByteArray)(v:Int): ∀l:List (ByteArray×Int),sN (ak key) v (l.map fun p=>(ak p.1,p.2))=List.map (fun p:ByteArray×Int=>(ak p.1,p.2)) (match l.findIdx? (fun p=>decide (p.1=key))with
  |some i=>l.modify i fun p=>(p.1,v)
  |none=>l++[(key,v)])
 |[]=>rfl
 |p::l=>by
  rw[aB];unfold sN;rw[List.findIdx?_cons];by_cases hk:p.1=key
  ·rw[zE (by rw[hk]),zB hk];rfl
  ·rw[zF (fun e=>hk (sI e)),zA hk,zR key v l];cases hf:l.findIdx? fun p=>decide (p.1=key)with
   |none=>rfl
   |some i=>rfl
theorem ue.all {kd:IntKind}{es:Array MapEntry}{s:ByteArray}(h:ue kd es s): ∃l:List (ByteArray×Int),es.toList.map (fun e=>(e.key,e.val))=l.map (fun p=>(Value.string p.1,Value.int kd p.2))∧AH (ak s)=l.map fun p=>(ak p.1,p.2):=by
 obtain⟨l,h1,h2⟩:=h;exact⟨l,h1,by rw[h2,vN]⟩
theorem M3 {t:TypeId}{kd:IntKind}(ho:o.op= .makeMap t none)(hr:(AOp.makeM kd).run e σ=some (v,σ'))(hR:R B μ σ w):cY P o a w B μ v σ':=by
 simp only[AOp.run,Option.some.injEq,Prod.mk.injEq]at hr;obtain⟨rfl,rfl⟩:=hr;obtain⟨k1,k2⟩:=hR.newM kd;refine⟨_,_,_, .map (some w.heap.size), ?_, .inl rfl,k2,k1, ?_,(Below.refl _ _).alloc hR.base _⟩
 ·simp[execOp,ho,Instr.makeMap]
 ·exact .mp (g:=⟨w.heap.size,0,0,1,0,some (.int kd 0)⟩) (by simp[Mu.add]) rfl
theorem FU {k:IntKind}{b:Nat}{blk:Blk}{s:ByteArray}{r:List Value}{u:Value}(hR:R B μ σ w)(hv:VR μ (LN k b) u)(hb:σ.m b=some blk)(hc:blk.cells= .string s::r): ∃g es cl,u= .map (some g.c)∧μ b=some g∧g.it=some (.int k 0)∧w.heap[g.c]?=some (.map es cl)∧ue k es s∧B.n≤g.c∧r=[]:=by
 obtain⟨g,hg,hit,rfl⟩:=hv.mp_inv;obtain⟨h1,es,cl,s',h2,h3,h4⟩:=(hR.get hb hg).mp k hit;rw[hc]at h2;simp at h2;obtain⟨rfl,rfl⟩:=h2;exact⟨g,es,cl,rfl,hg,hit,h3,h4,h1,rfl⟩
theorem M2 {t kt et:TypeId}{kd:IntKind}{ok:Bool}{x i:Operand}(ho:o.op= .lookup t x i ok)(hu:P.underlying t=some (.map kt et))(hk:P.underlying kt=some .string)(hz:Ku P et=some kd)(hx:bq x=true)(hi:bq i=true)(hr:(AOp.lookM kd ok x i).run e σ=some (v,σ'))(he:cq μ N e a.tmps)(hR:R B μ σ w):cY P o a w B μ v σ':=by
 have h1:=he.ev hx;have h2:=he.ev hi;simp only[AOp.run]at hr;split at hr
 ·rename_i b key hb hkey;rw[xk hb]at h1;rw[hkey]at h2;have h2:=h2.string_inv;split at hr
  ·rename_i blk hblk;split at hr
   ·rename_i s r hc;simp only[Option.some.injEq,Prod.mk.injEq]at hr;obtain⟨rfl,rfl⟩:=hr;obtain⟨g,es,cl,e1,_,_,e2,e3,_,_⟩:=FU hR h1 hblk hc;obtain⟨l,l1,l2⟩:=e3.all;have hc1:(Instr.checkKey es.isEmpty 10000 kt (.string key)).run P w= .ok () w:=MapKept.run_checkKey (k:= .string key) hk (by simp[MapKept.IsKey]) _ 9999;unfold J8 fV;rw[l2,IV];rcases Cs (kd:=kd) key es.toList l 0 l1 with⟨k1,k2⟩|⟨i',p,k1,k2,_,_,_⟩
    ·rw[k1];refine .same hR (v':=if ok then .tuple #[.int kd 0, .bool false]else .int kd 0) ?_ ?_
     ·simp[execOp,ho,e1,h2,Instr.lookup,bw hu,MapKept.run_getObj_map e2,hc1,MapKept.run_findKey hk k2,JI hz,aD]
     ·cases ok
      ·exact .int _ _
      ·exact .tuple (.cons (.int _ _) (.cons (.bool _) .nil))
    ·rw[k1];refine .same hR (v':=if ok then .tuple #[.int kd p.2, .bool true]else .int kd p.2) ?_ ?_
     ·simp[execOp,ho,e1,h2,Instr.lookup,bw hu,MapKept.run_getObj_map e2,hc1,MapKept.run_findKey hk k2,aD]
     ·cases ok
      ·exact .int _ _
      ·exact .tuple (.cons (.int _ _) (.cons (.bool _) .nil))
   ·cases hr
  ·cases hr
 ·cases hr
theorem L7 {x:List Int}{l:List (ByteArray×Int)}{key:ByteArray}{n:Int}(h:AH x=l.map fun p=>(ak p.1,p.2)): ∀p∈sN (ak key) n (AH x),∀y∈p.1,0≤y∧y<256:=by
 rw[h,zR];intro p hp;obtain⟨q,_,rfl⟩:=List.mem_map.1 hp;exact Ci q.1
theorem ue.put {kd:IntKind}{es':Array MapEntry}{s key:ByteArray}{n:Int}{l:List (ByteArray×Int)}(h2:AH (ak s)=l.map fun p=>(ak p.1,p.2))
  (h3:es'.toList.map (fun e=>(e.key,e.val))=List.map (fun p:ByteArray×Int=>(Value.string p.1,Value.int kd p.2)) (match l.findIdx? (fun p=>decide (p.1=key))with
  |some i=>l.modify i fun p=>(p.1,n)
  |none=>l++[(key,n)])):ue kd es' (vj (lJ (ak s) (ak key) n)):=by
 refine⟨_,h3, ?_⟩;unfold lJ;rw[As _ (CS _ (L7 h2)),h2,zR]
theorem Pb {t kt et:TypeId}{kd:IntKind}{x i u:Operand}(ho:o.op= .mapUpdate t x i u)(hu:P.underlying t=some (.map kt et))(hk:P.underlying kt=some .string)(hx:bq x=true)(hi:bq i=true)(hv:bq u=true)(hr:(AOp.updM kd x i u).run e σ=some (v,σ'))(he:cq μ N e a.tmps)(hR:R B μ σ w):cY P o a w B μ v σ':=by
 have h1:=he.ev hx;have h2:=he.ev hi;have h3:=he.ev hv;simp only[AOp.run]at hr;split at hr
 ·rename_i b key k' n hb hkey hn;rw[xk hb]at h1;rw[hkey]at h2;rw[hn]at h3;have h2:=h2.string_inv;have h3:=h3.int_inv;split at hr
  ·rename_i hkk;subst hkk;split at hr
   ·rename_i blk hblk;split at hr
    ·rename_i hown;split at hr
     ·rename_i s r hc;simp only[Option.some.injEq,Prod.mk.injEq]at hr;obtain⟨rfl,rfl⟩:=hr;obtain⟨g,es,cl,e1,hg,hit,e2,e3,e4,rfl⟩:=FU hR h1 hblk hc;obtain⟨l,l1,l2⟩:=e3.all;have hc1:(Instr.checkKey false 10000 kt (.string key)).run P w= .ok () w:=MapKept.run_checkKey (k:= .string key) hk (by simp[MapKept.IsKey]) _ 9999;rcases Cs (kd:=k') key es.toList l 0 l1 with⟨k1,k2⟩|⟨i',p,k1,k2,k3,k4,k5⟩
      ·have hf:l.findIdx? (fun p=>decide (p.1=key))=none:=by
        rw[List.findIdx?_eq_none_iff];intro q hq;have:=List.find?_eq_none.1 k1 q hq;simpa using this
       have hm:ue k' (es.push {key:= .string key,val:= .int k' n,born:=cl}) (vj (lJ (ak s) (ak key) n)):=ue.put l2 (by
        rw[hf]
        simp[l1])
       refine⟨.skip,_,μ,undef, ?_, .inr ⟨rfl,rfl⟩,μ.le_refl,hR.setM hblk hown hg hit (cl+1) hm,VR.undef μ, ?_⟩
       ·simp[execOp,ho,e1,h2,h3,Instr.mapUpdate,bw hu,MapKept.run_getObj_map e2,hc1,MapKept.run_findKey hk k2,MapKept.run_setObj_map _ e2,aD];rfl
       ·exact⟨rfl,rfl,rfl,by rw[xo];exact aC _,fun q hq=>uR _ _ _ _ (by omega)⟩
      ·have hf:l.findIdx? (fun p=>decide (p.1=key))=some i':=by
        have hlt:i'<l.length:=by
         rcases Nat.lt_or_ge i' l.length with h|h
         ·exact h
         ·rw[List.getElem?_eq_none h]at k3;cases k3
        rw[List.findIdx?_eq_some_iff_getElem];refine⟨hlt, ?_,fun j hj=> ?_⟩
        ·rw[aG hlt]at k3;injection k3 with k3
         rw[k3];simpa using k4
        ·have:=k5 j hj _ (aG (by omega));simpa using this
       have hkey:(es[i']?).map (·.key)=some (.string key):=by
        have:=congrArg (fun z=>(z[i']?).map Prod.fst) l1;simp only[aF,k3,Option.map_map,aJ]at this;rw[Array.getElem?_toList]at this;rw[←k4];simpa[Function.comp]using this
       have hm:ue k' (es.modify i' fun e=>{e with key:= .string key,val:= .int k' n}) (vj (lJ (ak s) (ak key) n)):=ue.put l2 (by
        rw[hf];simp only;rw[Array.toList_modify];apply List.ext_getElem?;intro j;have hj:=congrArg (fun z=>z[j]?) l1;simp only[aF]at hj;simp only[aF,List.getElem?_modify];by_cases hij:i'=j
        ·subst hij;rw[k3]at hj⊢;cases hes:es.toList[i']? with
         |none=>rw[hes]at hj;cases hj
         |some e0=>
          simp only[aJ,if_true,Option.map_eq_map,Option.some.injEq];rw[k4]
        ·simp only[zF hij]
         simpa using hj)
       refine⟨.skip,_,μ,undef, ?_, .inr ⟨rfl,rfl⟩,μ.le_refl,hR.setM hblk hown hg hit cl hm,VR.undef μ, ?_⟩
       ·have hst:(Instr.keyThatStays (((es[i']?).map (·.key)).getD (.string key)) (.string key)).run P w= .ok (.string key) w:=by
         rw[hkey];rw[Option.getD_some];unfold Instr.keyThatStays;rw[zE (show Instr.sameBits 10000 (.string key) (.string key)=true from(MapKept.bytes_beq key key).2 rfl)];rfl
        rw[Nat.zero_add]at k2;simp[execOp,ho,e1,h2,h3,Instr.mapUpdate,bw hu,MapKept.run_getObj_map e2,hc1,MapKept.run_findKey hk k2,MapKept.run_setObj_map _ e2,hst,aD];rfl
       ·exact⟨rfl,rfl,rfl,by rw[xo];exact aC _,fun q hq=>uR _ _ _ _ (by omega)⟩
     ·cases hr
    ·cases hr
   ·cases hr
  ·cases hr
 ·cases hr
theorem O3 {c:Call}{x:Operand}{t kt et:TypeId}{kd:IntKind}{ts:List TypeId}(ho:o.op= .call c)(hc:c.callee= .builtin .len)(ha:c.args.toList=[x])(ht:c.argTypes.toList=t::ts)(hu:P.underlying t=some (.map kt et))
  (hx:bq x=true) (hr:(AOp.lenM kd x).run e σ=some (v,σ')) (he:cq μ N e a.tmps) (hR:R B μ σ w):cY P o a w B μ v σ':=by
 have h:=he.ev hx;simp only[AOp.run]at hr;split at hr
 ·rename_i b hb;rw[xk hb]at h;split at hr
  ·rename_i blk hblk;split at hr
   ·rename_i s r hcl;simp only[Option.some.injEq,Prod.mk.injEq]at hr;obtain⟨rfl,rfl⟩:=hr;obtain⟨g,es,cl,e1,_,_,e2,e3,_,_⟩:=FU hR h hblk hcl;obtain⟨l,l1,l2⟩:=e3.all
    have hl:rB (ak s)=es.size:=by
     unfold rB;rw[l2,List.length_map];have:=congrArg List.length l1;simpa using this.symm
    obtain⟨cs,hrun⟩:=cB (P:=P) (a:=a) ho hc w;rw[hl];refine .same hR ?_ (.int .i64 _);simp[hrun,builtin,Builtin.len_,IE ha,rh ht,e1,bw hu,MapKept.run_getObj_map e2,goInt,aD]
   ·cases hr
  ·cases hr
 ·cases hr
end
end
section
open Go.RowKit
section
variable {P:Program} {o:Oper} {a:Act} {w:World} {B:Base P} {N:Nat} {μ:Mu} {e:br} {σ σ':Hp} {v:Value}
theorem oR {x y:Option Operand}(h:Pd x=some y):x=y∧∀u,y=some u→bq u=true:=by
 unfold Pd at h;split at h
 ·rename_i x;obtain⟨z,hz,h⟩:=Option.map_eq_some_iff.1 h;obtain⟨rfl,h2⟩:=aj hz;subst h;exact⟨rfl,fun u hu=>by injection hu with hu;exact hu▸h2⟩
 ·injection h with h
  subst h;exact⟨rfl,fun u hu=>by cases hu⟩
def AOp.isCall :AOp→Bool
 | .call _ _| .callv _ _=>true
 |_=>false
theorem NJ {op:BinOp}{t t':TypeId}{x y:Operand}{ao:AOp}(ho:o.op= .binOp op t x y t')(h:In P op t x y=some ao)(hr:ao.run e σ=some (v,σ'))(he:cq μ N e a.tmps)(hR:R B μ σ w):cY P o a w B μ v σ':=by
 unfold In at h;split at h
 ·split at h
  ·rename_i h1 h2;obtain⟨rfl,k1⟩:=aj h1;obtain⟨rfl,k2⟩:=aj h2;injection h with h
   subst h;exact MY ho k1 k2 hr he hR
  ·cases h
 ·split at h
  ·rename_i h1 h2;obtain⟨rfl,k1⟩:=aj h1;obtain⟨rfl,k2⟩:=aj h2;injection h with h
   subst h;exact MY ho k1 k2 hr he hR
  ·cases h
 ·split at h
  ·rename_i hf h1 h2;obtain⟨rfl,k1⟩:=aj h1;obtain⟨rfl,k2⟩:=aj h2;injection h with h
   subst h;exact sQ ho rfl hf k1 k2 hr he hR
  ·rename_i hf h1 h2;obtain⟨rfl,k1⟩:=aj h1;obtain⟨rfl,k2⟩:=aj h2;injection h with h
   subst h;exact sQ ho rfl hf k1 k2 hr he hR
  ·cases h
 ·split at h
  ·rename_i hf h1 h2;obtain⟨rfl,k1⟩:=aj h1;obtain⟨rfl,k2⟩:=aj h2;injection h with h
   subst h;exact sQ ho rfl hf k1 k2 hr he hR
  ·rename_i hf h1 h2;obtain⟨rfl,k1⟩:=aj h1;obtain⟨rfl,k2⟩:=aj h2;injection h with h
   subst h;exact sQ ho rfl hf k1 k2 hr he hR
  ·cases h
 ·rename_i hu;split at h
  ·rename_i hk h1 h2;obtain⟨rfl,k1⟩:=aj h1;obtain⟨rfl,k2⟩:=aj h2;injection h with h
   subst h;exact MZ ho rfl hu hk k1 k2 hr he hR
  ·rename_i hk h1 h2;obtain⟨rfl,k1⟩:=aj h1;obtain⟨rfl,k2⟩:=aj h2;injection h with h
   subst h;exact MZ ho rfl hu hk k1 k2 hr he hR
  ·cases h
 ·cases h
theorem LB {c:Call}{ao:AOp}(ho:o.op= .call c)(h:sW P c=some ao)(hc:ao.isCall=false)(hr:ao.run e σ=some (v,σ'))(he:cq μ N e a.tmps)(hR:R B μ σ w):cY P o a w B μ v σ':=by
 unfold sW at h;split at h
 ·split at h
  ·obtain⟨x,_,h⟩:=Option.map_eq_some_iff.1 h;subst h;simp[AOp.isCall]at hc
  ·cases h
 ·obtain⟨x,_,h⟩:=Option.map_eq_some_iff.1 h;subst h;simp[AOp.isCall]at hc
 ·rename_i hcal;split at h
  ·rename_i ha ht;split at h
   ·rename_i hu1 hu2 h1 h2;obtain⟨rfl,k1⟩:=aj h1;obtain⟨rfl,k2⟩:=aj h2;split at h
    ·rename_i hn hb hz;split at h
     ·rename_i hzn;injection h with h
      subst h;exact ER ho hcal ha ht hu1 (.inl ⟨_,hu2⟩) hn hb hz hzn k1 k2 hr he hR
     ·cases h
    ·cases h
   ·rename_i hu1 hu2 h1 h2;obtain⟨rfl,k1⟩:=aj h1;obtain⟨rfl,k2⟩:=aj h2;split at h
    ·rename_i hn hb hz;split at h
     ·rename_i hzn;injection h with h
      subst h;exact ER ho hcal ha ht hu1 (.inr hu2) hn hb hz hzn k1 k2 hr he hR
     ·cases h
    ·cases h
   ·rename_i hu1 hu2 h1 h2;obtain⟨rfl,k1⟩:=aj h1;obtain⟨rfl,k2⟩:=aj h2;split at h
    ·rename_i hn hb hz;split at h
     ·rename_i hzn;injection h with h
      subst h;exact I7 ho hcal ha ht hu1 ⟨_,hu2⟩ hn hb hz hzn.1 hzn.2 k1 k2 hr he hR
     ·cases h
    ·cases h
   ·cases h
  ·cases h
 ·rename_i hcal;split at h
  ·rename_i ha ht;split at h
   ·rename_i hu h1 h2;obtain⟨rfl,k1⟩:=aj h1;obtain⟨rfl,k2⟩:=aj h2;split at h
    ·rename_i hn;injection h with h
     subst h;exact O0 ho hcal ha ht hu hn k1 k2 hr he hR
    ·cases h
   ·cases h
  ·cases h
 ·rename_i hcal;split at h
  ·rename_i ha ht;split at h
   ·rename_i hu h1;obtain⟨rfl,k1⟩:=aj h1;injection h with h
    subst h;exact O4 ho hcal ha ht hu k1 hr he hR
   ·rename_i hu h1;obtain⟨rfl,k1⟩:=aj h1;injection h with h
    subst h;exact QL ho hcal ha ht hu k1 hr he hR
   ·rename_i hu h1;obtain⟨rfl,k1⟩:=aj h1;split at h
    ·injection h with h
     subst h;exact O3 ho hcal ha ht hu k1 hr he hR
    ·cases h
   ·rename_i hu;injection h with h
    subst h;exact Kf ho hcal ha ht (.inl ⟨_,hu⟩) hr hR
   ·rename_i hu;split at h
    ·rename_i hp;injection h with h
     subst h;exact Kf ho hcal ha ht (.inr ⟨_,_,hu,hp⟩) hr hR
    ·cases h
   ·cases h
  ·cases h
 ·rename_i hcal;split at h
  ·rename_i ha ht;split at h
   ·rename_i hu h1;obtain⟨rfl,k1⟩:=aj h1;injection h with h
    subst h;exact OY ho hcal ha ht hu k1 hr he hR
   ·cases h
  ·cases h
 ·rename_i hcal;split at h
  ·rename_i ha;split at h
   ·rename_i h1 h2;obtain⟨rfl,k1⟩:=aj h1;obtain⟨rfl,k2⟩:=aj h2;injection h with h
    subst h;exact O7 ho hcal ha k1 k2 hr he hR
   ·cases h
  ·cases h
 ·rename_i hcal;split at h
  ·rename_i ha;split at h
   ·rename_i h1 h2;obtain⟨rfl,k1⟩:=aj h1;obtain⟨rfl,k2⟩:=aj h2;injection h with h
    subst h;exact M0 ho hcal ha k1 k2 hr he hR
   ·cases h
  ·cases h
 ·cases h
theorem PA {ao:AOp}(h:Ip P o=some ao)(hc:ao.isCall=false)(hr:ao.run e σ=some (v,σ'))(he:cq μ N e a.tmps)(hR:R B μ σ w):cY P o a w B μ v σ':=by
 unfold Ip at h;split at h
 ·rename_i ho;obtain⟨x,h1,h⟩:=Option.map_eq_some_iff.1 h;obtain⟨rfl,k1⟩:=aj h1;subst h;exact Kg (.inl ho) k1 hr he hR
 ·rename_i ho;obtain⟨x,h1,h⟩:=Option.map_eq_some_iff.1 h;obtain⟨rfl,k1⟩:=aj h1;subst h;exact Kg (.inr ho) k1 hr he hR
 ·rename_i ho;split at h
  ·rename_i h1 h2 h3;obtain⟨rfl,k1⟩:=aj h1;obtain⟨rfl,k2⟩:=aj h2;obtain⟨rfl,k3⟩:=aj h3;injection h with h
   subst h;exact Pa ho k1 k2 k3 hr he hR
  ·cases h
 ·rename_i ho;split at h
  ·rename_i hb;split at h
   ·rename_i hz;injection h with h
    subst h;exact O8 ho hb hz hr hR
   ·cases h
  ·split at h
   ·rename_i hz;injection h with h
    subst h;exact MX ho hz hr hR
   ·cases h
 ·rename_i ho;split at h
  ·rename_i h1;obtain⟨rfl,k1⟩:=aj h1;injection h with h
   subst h;exact QJ ho k1 hr he hR
  ·cases h
 ·rename_i ho;split at h
  ·rename_i hu hz;split at h
   ·rename_i hall;obtain⟨ps,hp,h⟩:=Option.map_eq_some_iff.1 h;subst h;exact Bj ho hu hz hall hp hr he hR
   ·cases h
  ·rename_i hu hz;split at h
   ·rename_i hn;obtain⟨ps,hp,h⟩:=Option.map_eq_some_iff.1 h;subst h;exact CX ho hu hn hz hp hr he hR
   ·cases h
  ·cases h
 ·rename_i ho;split at h
  ·rename_i hu;split at h
   ·rename_i hn hz;split at h
    ·rename_i hcond;obtain⟨ps,hp,h⟩:=Option.map_eq_some_iff.1 h;subst h;exact Ed ho hu hn hz hcond.1 hcond.2.1 hcond.2.2 hp hr he hR
    ·cases h
   ·cases h
  ·cases h
 ·injection h with h
  subst h;cases hr
 ·rename_i ho;split at h
  ·rename_i ht h1;obtain⟨rfl,k1⟩:=aj h1;obtain⟨n,hn,h⟩:=Option.map_eq_some_iff.1 h;subst h;exact M1 ho ht hn k1 hr he hR
  ·rename_i ht h1;obtain⟨rfl,k1⟩:=aj h1;injection h with h
   subst h;exact O5 ho ht k1 hr he hR
  ·cases h
 ·rename_i ho;split at h
  ·rename_i hn h1 h2;obtain⟨rfl,k1⟩:=aj h1;obtain⟨rfl,k2⟩:=aj h2;injection h with h
   subst h;exact M6 ho hn k1 k2 hr he hR
  ·cases h
 ·rename_i ho;obtain⟨x,h1,h⟩:=Option.map_eq_some_iff.1 h;obtain⟨rfl,k1⟩:=aj h1;subst h;exact Hw ho k1 hr he hR
 ·rename_i ho;exact NJ ho h hr he hR
 ·rename_i ho;obtain⟨x,h1,h⟩:=Option.map_eq_some_iff.1 h;obtain⟨rfl,k1⟩:=aj h1;subst h;exact RM ho k1 hr he hR
 ·rename_i ho;split at h
  ·rename_i hs hd h1;obtain⟨rfl,k1⟩:=aj h1;injection h with h
   subst h;exact OZ ho hs hd k1 hr he hR
  ·rename_i hs hd h1;obtain⟨rfl,k1⟩:=aj h1;injection h with h
   subst h;exact O1 ho hs hd k1 hr he hR
  ·rename_i hs hd h1;obtain⟨rfl,k1⟩:=aj h1;split at h
   ·rename_i ht;injection h with h
    subst h;exact M7 ho hs ht hd k1 hr he hR
   ·rename_i ht;injection h with h
    subst h;exact Lc ho hs ht hd k1 hr he hR
   ·cases h
  ·rename_i hs hd h1;obtain⟨rfl,k1⟩:=aj h1;split at h
   ·rename_i ht;injection h with h
    subst h;exact I9 ho hs hd ht k1 hr he hR
   ·cases h
  ·rename_i hs hd h1;obtain⟨rfl,k1⟩:=aj h1;split at h
   ·rename_i ht;split at h
    ·rename_i hsd;subst hsd;injection h with h
     subst h;exact O6 ho hd ht k1 hr he hR
    ·cases h
   ·cases h
  ·cases h
 ·rename_i ho;split at h
  ·rename_i hu h1;obtain⟨rfl,k1⟩:=aj h1;injection h with h
   subst h;exact M4 ho hu k1 hr he hR
  ·cases h
 ·rename_i ho;obtain⟨x,h1,h⟩:=Option.map_eq_some_iff.1 h;obtain⟨rfl,k1⟩:=aj h1;subst h;exact O9 ho k1 hr he hR
 ·rename_i ho;split at h
  ·split at h
   ·injection h with h
    subst h;exact M3 ho hr hR
   ·cases h
  ·cases h
 ·rename_i ho;split at h
  ·rename_i hu h1 h2;obtain⟨rfl,k1⟩:=aj h1;obtain⟨rfl,k2⟩:=aj h2;split at h
   ·rename_i hk hz;injection h with h
    subst h;exact M2 ho hu hk hz k1 k2 hr he hR
   ·cases h
  ·cases h
 ·rename_i ho;split at h
  ·rename_i hu h1 h2 h3;obtain⟨rfl,k1⟩:=aj h1;obtain⟨rfl,k2⟩:=aj h2;obtain⟨rfl,k3⟩:=aj h3;split at h
   ·rename_i hk he';injection h with h
    subst h;exact Pb ho hu hk k1 k2 k3 hr he hR
   ·cases h
  ·cases h
 ·rename_i ho;split at h
  ·rename_i h0 h1;injection h with h
   subst h;exact La ho h0 h1 hr he hR
  ·cases h
 ·rename_i ho;split at h
  ·rename_i hu;split at h
   ·rename_i hn hb hz h1 h2;obtain⟨rfl,k1⟩:=aj h1;obtain⟨rfl,k2⟩:=aj h2;split at h
    ·rename_i hcond;injection h with h
     subst h;exact FW ho hu hn hb hz k1 k2 hcond.1 hcond.2 hr he hR
    ·cases h
   ·cases h
  ·cases h
 ·rename_i ho;split at h
  ·rename_i hu h1 h2 h3;obtain⟨rfl,k1⟩:=aj h1;obtain⟨rfl,k2⟩:=oR h2;obtain⟨rfl,k3⟩:=oR h3;obtain⟨n,hn,h⟩:=Option.map_eq_some_iff.1 h;subst h;exact M5 ho hu hn k1 k2 k3 hr he hR
  ·rename_i hu h1 h2 h3;obtain⟨rfl,k1⟩:=aj h1;obtain⟨rfl,k2⟩:=oR h2;obtain⟨rfl,k3⟩:=oR h3;injection h with h
   subst h;exact Hy ho hu k1 k2 k3 hr he hR
  ·rename_i hu h1 h2 h3;obtain⟨rfl,k1⟩:=aj h1;obtain⟨rfl,k2⟩:=oR h2;obtain⟨rfl,k3⟩:=oR h3;obtain⟨n,hn,h⟩:=Option.map_eq_some_iff.1 h;subst h;exact Hx ho hu hn k1 k2 k3 hr he hR
  ·cases h
 ·rename_i ho;split at h
  ·rename_i hu h1;obtain⟨rfl,k1⟩:=aj h1;split at h
   ·rename_i hi;split at h
    ·rename_i hn;split at h
     ·cases h
     ·rename_i h0;injection h with h
      subst h;exact QM ho hu hi hn h0 k1 hr he hR
    ·cases h
   ·cases h
  ·cases h
 ·rename_i ho;split at h
  ·rename_i hu h1;obtain⟨rfl,k1⟩:=aj h1;split at h
   ·rename_i hi;split at h
    ·rename_i hn hb;injection h with h
     subst h;exact K7 ho hu hi hn hb k1 hr he hR
    ·cases h
   ·cases h
  ·cases h
 ·rename_i ho;split at h
  ·rename_i hu h1 h2;obtain⟨rfl,k1⟩:=aj h1;obtain⟨rfl,k2⟩:=aj h2;obtain⟨n,hn,h⟩:=Option.map_eq_some_iff.1 h;subst h;exact QK ho hu hn k1 k2 hr he hR
  ·rename_i hu h1 h2;obtain⟨rfl,k1⟩:=aj h1;obtain⟨rfl,k2⟩:=aj h2;obtain⟨n,hn,h⟩:=Option.map_eq_some_iff.1 h;subst h;exact O2 ho hu hn k1 k2 hr he hR
  ·cases h
 ·rename_i ho;split at h
  ·rename_i hu h1 h2;obtain⟨rfl,k1⟩:=aj h1;obtain⟨rfl,k2⟩:=aj h2;split at h
   ·rename_i hn hb;injection h with h
    subst h;exact K9 ho hu hn hb k1 k2 hr he hR
   ·cases h
  ·rename_i hu h1 h2;obtain⟨rfl,k1⟩:=aj h1;obtain⟨rfl,k2⟩:=aj h2;injection h with h
   subst h;exact K8 ho hu k1 k2 hr he hR
  ·cases h
 ·rename_i ho;split at h
  ·rename_i hu h1 h2 h3;obtain⟨rfl,k1⟩:=aj h1;obtain⟨rfl,k2⟩:=aj h2;obtain⟨rfl,k3⟩:=aj h3;split at h
   ·rename_i hn;injection h with h
    subst h;obtain⟨n,hn⟩:=Option.isSome_iff_exists.1 hn;exact Lb ho hu hn k1 k2 k3 hr he hR
   ·cases h
  ·cases h
 ·rename_i ho;obtain⟨x,h1,h⟩:=Option.map_eq_some_iff.1 h;obtain⟨rfl,k1⟩:=aj h1;subst h;exact I8 ho k1 hr he hR
 ·rename_i ho;exact LB ho h hc hr he hR
 ·injection h with h
  subst h;cases hr
 ·injection h with h
  subst h;cases hr
 ·cases h
end
end
section
open Result renaming andThen_ok → aA
open Sem renaming run_bind → aB, run_pure → aC
open Go.RowKit
def Gf (ops:Array Oper):Option (Nat×Bool)→Option (Option (Nat×Bool))
 |none=>some none
 |some (j,want)=>match(ops[j]?).bind (·.dst)with
  |some t=>some (some (t,want))
  |none=>none
def Mi (N:Nat):Option Nat→Bool
 |none=>true
 |some d=>d<N
def Ad (P:Program)(N:Nat)(ops:Array Oper)(o:Oper):Option AOper:=match Ip P o,Gf ops o.guard with
 |some op,some g=>if Mi N o.dst then some ⟨o.dst,op,g⟩else none
 |_,_=>none
def yN (P:Program)(N:Nat)(ops:Array Oper):List Oper→Option (List AOper)
 |[]=>some []
 |o::r=>match Ad P N ops o,yN P N ops r with
  |some x,some l=>some (x::l)
  |_,_=>none
def lM (P:Program)(f:FuncId):Prop:= ∃fn,P.funcs[f]?=some fn∧fn.body.isSome=true∧(fn.name== "runtime.NumGoroutine")=false
def Rq (P:Program)(B:Base P)(μ:Mu)(w:World)(K:Value→Hp→Prop):Ending→World→Prop:=fun x w'=>
 ∃r σ' r' μ',x= .returned r'∧K r σ'∧μ.le μ'∧R B μ' σ' w'∧VR μ' r r'∧Below B w w'∧P=P
def LL (P:Program)(f:FuncId)(S:Fu):Prop:=
 ∀(B:Base P) μ σ w args (cargs:Array Value) K,S args σ K→R B μ σ w→F2 (VR μ) args cargs.toList→lM P f∧Calls P f cargs w (Rq P B μ w K)
def tw :Nat:=1000000
def oC :AExit→Exit→Prop
 | .normal, .normal=>True
 | .exit i, .exit j=>i=j∧j<tw
 | .exit i, .goto l=>i=tw+2*l
 | .ret, .ret=>True
 |_,_=>False
def jf {P:Program}(B:Base P)(N:Nat)(μ:Mu)(w:World)(Q:AExit→br→Hp→Prop):Exit→Act→World→Prop:=fun x a' w'=>
 ∃ax e' σ' μ',oC ax x∧Q ax e' σ'∧μ.le μ'∧R B μ' σ' w'∧cq μ' N e' a'.tmps∧a'.defers=[]∧Below B w w'
section
variable {P:Program} {T:dn} {o:Oper} {a:Act} {w:World} {B:Base P} {N:Nat} {μ:Mu} {e:br} {σ σ':Hp} {v:Value}
theorem jf.trans {μ':Mu}{w':World}{Q:AExit→br→Hp→Prop}(hμ:μ.le μ')(hb:Below B w w'){x:Exit}{a':Act}{w'':World}(h:jf B N μ' w' Q x a' w''):jf B N μ w Q x a' w'':=by
 obtain⟨ax,e',σ',μ'',h1,h2,h3,h4,h5,h6,h7⟩:=h;exact⟨ax,e',σ',μ'',h1,h2,Mu.le_trans hμ h3,h4,h5,h6,hb.trans h7⟩
theorem E8 {ops:Array Oper}{g:Option (Nat×Bool)}{op:AOp}(hg:Gf ops o.guard=some g)(he:cq μ N e a.tmps):Region.wanted o (yielded ops a.tmps)=wanted ⟨o.dst,op,g⟩ e:=by
 unfold Gf at hg;unfold Region.wanted wanted;split at hg
 ·rename_i h;injection hg with hg
  subst hg;simp[h]
 ·rename_i j want h;split at hg
  ·rename_i t ht;injection hg with hg
   subst hg;simp only[h];have hv:=he.2 t;unfold yielded;rw[ht];simp only[zG];by_cases hlt:t<a.tmps.size
   ·have e1:a.tmps[t]?=some (a.tmps.getD t undef):=by simp[hlt]
    rw[e1];generalize a.tmps.getD t undef=u at*;generalize e t=u' at*;cases hv<;>simp[LN]
    try(rename_i b;cases b<;>cases want<;>rfl)
   ·have e1:a.tmps[t]?=none:=Array.getElem?_eq_none (Nat.le_of_not_lt hlt);have e2:a.tmps.getD t undef=undef:=by simp[e1]
    rw[e2]at hv;rw[e1];generalize e t=u at*;cases hv;simp
  ·cases hg
theorem cq.putO (h:cq μ N e a.tmps){d:Option Nat}(hd:Mi N d=true){v':Value}(hv:VR μ v v'):cq μ N (e.putO d v) (a.put d v').tmps:=by
 cases d with
 |none=>exact h
 |some d=>exact h.put d (by simpa[Mi]using hd) hv
theorem lY (d:Option Nat)(v':Value):(a.put d v').defers=a.defers:=by cases d<;>rfl
theorem Et {f:FuncId}(h:lM P f)(args:Array Value)(w:World):(callFunc f args).run P w= .ok (.enter f args) w:=by
 obtain⟨fn,h1,h2,h3⟩:=h;have h4:fn.body.isNone=false:=by cases hb:fn.body<;>simp[hb]at h2⊢
 simp only[callFunc,aB,run_program,aA,h1,h3,h4,Bool.false_eq_true,if_false,aC]
theorem LD {f:FuncId}{args:List Operand}(h:Ip P o=some (.call f args)): ∃c,o.op= .call c∧sW P c=some (.call f args):=by
 unfold Ip at h;split at h
 all_goals first
  |exact⟨_,‹_›,h⟩
  |(exfalso;revert h;unfold In;(repeat' split)<;>simp)
  |(exfalso;revert h;(repeat' split)<;>simp)
theorem JG {f:Operand}{args:List Operand}(h:Ip P o=some (.callv f args)): ∃c,o.op= .call c∧sW P c=some (.callv f args):=by
 unfold Ip at h;split at h
 all_goals first
  |exact⟨_,‹_›,h⟩
  |(exfalso;revert h;unfold In;(repeat' split)<;>simp)
  |(exfalso;revert h;(repeat' split)<;>simp)
theorem Io {c:Call}{f:FuncId}{args:List Operand}(h:sW P c=some (.call f args)):c.callee= .value (.func f)∧Bk c.args.toList=some args:=by
 unfold sW at h;split at h
 ·rename_i hc;split at h
  ·simp at h;obtain⟨h1,rfl⟩:=h;exact⟨hc,h1⟩
  ·cases h
 all_goals (exfalso;revert h;(repeat' split)<;>simp)
theorem Ge {c:Call}{f:Operand}{args:List Operand}(h:sW P c=some (.callv f args)):c.callee= .value f∧bq f=true∧Bk c.args.toList=some args:=by
 unfold sW at h;split at h
 ·exfalso;revert h;split<;>simp
 ·rename_i hc;simp at h;obtain⟨h1,rfl⟩:=h;exact⟨hc,rfl,h1⟩
 all_goals (exfalso;revert h;(repeat' split)<;>simp)
theorem JU (hT: ∀f,LL P f (T f)){f:FuncId}{args:List Value}{cargs:Array Value}{k:Value→Hp→Prop}(hr:T f args σ k)(hR:R B μ σ w)(ha:F2 (VR μ) args cargs.toList)
  (hrun:lM P f→(execOp a.eval o).run P w= .ok (.enter f cargs) w) {next:Act→World→Prop} {Q:Exit→Act→World→Prop}
  (hk: ∀v σ' v' μ' w',k v σ'→μ.le μ'→R B μ' σ' w'→VR μ' v v'→Below B w w'→next (a.put o.dst v') w'):o.wp P a w next Q:=by
 obtain⟨h1,h2⟩:=hT f B μ σ w args cargs k hr hR ha;unfold Oper.wp;rw[hrun h1];simp only[Oper.upon];refine h2.mono fun x w' hx=> ?_
 obtain⟨r,σ',r',μ',rfl,q1,q2,q3,q4,q5,_⟩:=hx;exact hk r σ' r' μ' w' q1 q2 q3 q4 q5
theorem C6 (hT: ∀f,LL P f (T f)){op:AOp}(h:Ip P o=some op){k:Value→Hp→Prop}(hr:bj T op e σ k)(he:cq μ N e a.tmps)(hR:R B μ σ w)
  {next:Act→World→Prop} {Q:Exit→Act→World→Prop}
  (hk: ∀v σ' v' μ' w',k v σ'→μ.le μ'→R B μ' σ' w'→VR μ' v v'→Below B w w'→next (a.put o.dst v') w'):o.wp P a w next Q:=by
 by_cases hc:op.isCall=true
 ·cases op<;>simp[AOp.isCall]at hc
  case call f args=>
   obtain⟨c,ho,h1⟩:=LD h;obtain⟨h2,h3⟩:=Io h1;have ha:=ym he h3;simp only[bj]at hr;refine JU (cargs:=c.args.map a.eval) hT hr hR (by simpa using ha) (fun hcall=> ?_) hk;simp only[execOp,ho,resolve,h2,aB,Act.eval,Deferred.ofValue,aC,aA,invoke];simp[Et hcall]
  case callv f args=>
   obtain⟨c,ho,h1⟩:=JG h;obtain⟨h2,h4,h3⟩:=Ge h1;have ha:=ym he h3;have hf:=he.ev h4;simp only[bj]at hr;split at hr
   ·rename_i g first captured hg
    rw[hg]at hf;obtain⟨hmp,hr⟩:=hr;obtain⟨x',y',e1,e2,e3⟩:=hf.func_inv hmp;refine JU (cargs:=x'++c.args.map a.eval++y') hT hr hR (by simpa using(e2.append ha).append e3) (fun hcall=> ?_) hk;simp only[execOp,ho,resolve,h2,e1,aB,Deferred.ofValue,aC,aA,invoke];simp[Et hcall]
   ·exact hr.elim
 ·have hr': ∃v σ',op.run e σ=some (v,σ')∧k v σ':=by
   unfold bj at hr;cases op<;>simp[AOp.isCall]at hc<;>simp only at hr
   all_goals
    split at hr
    ·rename_i v σ' hv;exact⟨v,σ',hv,hr⟩
    ·exact hr.elim
  obtain⟨v,σ',hv,hkv⟩:=hr';obtain⟨nx,w',μ',v',h1,h2,h3,h4,h5,h6⟩:=PA h (by simpa using hc) hv he hR;unfold Oper.wp;rw[h1];rcases h2 with rfl|⟨rfl,rfl⟩
  ·exact hk v σ' v' μ' w' hkv h3 h4 h5 h6
  ·exact hk v σ' undef μ' w' hkv h3 h4 h5 h6
theorem Jd (hT: ∀f,LL P f (T f)){ops:Array Oper}{Q:AExit→br→Hp→Prop}{μ0:Mu}{w0:World}: ∀(l:List Oper) (al:List AOper) (e:br) (σ:Hp) (μ:Mu) (a:Act) (w:World),yN P N ops l=some al→pK T (Q .normal) al e σ→
  R B μ σ w→cq μ N e a.tmps→a.defers=[]→μ0.le μ→Below B w0 w→wpList P ops (jf B N μ0 w0 Q) l a w
 |[],al,e,σ,μ,a,w,h,hw,hR,he,hd,hμ0,hb0=>by
  simp[yN]at h;subst h;exact⟨.normal,e,σ,μ,trivial,hw,hμ0,hR,he,hd,hb0⟩
 |o::l,al,e,σ,μ,a,w,h,hw,hR,he,hd,hμ0,hb0=>by
  simp only[yN]at h;split at h
  ·rename_i x r h1 h2;injection h with h
   subst h;unfold Ad at h1;split at h1
   ·rename_i op g h3 h4;split at h1
    ·rename_i h5;injection h1 with h1
     subst h1;have hwant:=E8 (op:=op) h4 he;unfold wpList;simp only[pK]at hw;rw[hwant];split
     ·rename_i hb;rw[zE hb]at hw;left;refine C6 hT h3 hw he hR fun v σ' v' μ' w' hk hμ hR' hv hbel=> ?_
      exact Jd hT l r _ σ' μ' (a.put o.dst v') w' h2 hk hR' ((he.mono hμ).putO h5 hv) (by rw[lY];exact hd) (Mu.le_trans hμ0 hμ) (hb0.trans hbel)
     ·rename_i hb;rw[zF hb]at hw;exact Jd hT l r _ σ μ (a.put o.dst undef) w h2 hw hR (he.putO h5 (VR.undef μ)) (by rw[lY];exact hd) hμ0 hb0
    ·cases h1
   ·cases h1
  ·cases h
end
end
section
open List renaming map_congr_left → aA, mem_append → aB
open Go.RowKit
def dD :Operand→List Nat
 | .tmp t=>[t]
 |_=>[]
def NH :Option Operand→List Nat
 |some x=>dD x
 |none=>[]
def AOp.reads :AOp→List Nat
 | .move x| .box _ x| .load x| .loadN _ x| .nilCheck x| .un _ x| .conv _ x| .off _ x| .fieldV _ _ _ x| .extract x _| .len x| .lenS x| .capN x| .range x| .next x| .encR x| .mark x| .strOf x| .strOfR x| .runesOf x=>dD x
 | .pick c a b| .sliceX c a b=>dD c++dD a++dD b
 | .alloc _ _| .lenC _| .stuck| .newB| .makeM _=>[]
 | .lookM _ _ x i=>dD x++dD i
 | .updM _ x i v=>dD x++dD i++dD v
 | .lenM _ x=>dD x
 | .build _ ps| .buildSlice _ _ _ ps=>ps.flatMap fun p=>dD p.2.2
 | .store _ a x=>dD a++dD x
 | .bin _ x y| .eqv _ _ x y| .eqCells _ _ x y| .idx _ x y| .idxA _ _ x y| .indexV _ _ _ x y| .indexS x y| .append _ _ x y| .appendZ _ _ _ x y| .copy _ x y| .most x y| .least x y| .makeSlice _ _ _ x y=>dD x++dD y
 | .mkFunc _ xs cs=>xs.flatMap dD++cs.flatMap dD
 | .slice _ x lo hi| .sliceStr x lo hi| .sliceArr _ _ x lo hi=>dD x++NH lo++NH hi
 | .call _ xs=>xs.flatMap dD
 | .callv f xs=>dD f++xs.flatMap dD
theorem ar {e e':br}{x:Operand}(h: ∀t∈dD x,e t=e' t):e.ev x=e'.ev x:=by
 cases x<;>first|rfl|exact h _ (by simp[dD])
theorem oO {e e':br}{x:Option Operand}(h: ∀t∈NH x,e t=e' t):x.map e.ev=x.map e'.ev:=by
 cases x with
 |none=>rfl
 |some x=>simp only[Option.map_some];rw[ar h]
theorem vB {e e':br}{xs:List Operand}(h: ∀t∈xs.flatMap dD,e t=e' t):xs.map e.ev=xs.map e'.ev:=by
 apply aA;intro x hx;exact ar fun t ht=>h t (List.mem_flatMap.2 ⟨x,hx,ht⟩)
theorem Ev {e e':br}{ps:List (Nat×Nat×Operand)}(h: ∀t∈ps.flatMap (fun p=>dD p.2.2),e t=e' t):(ps.map fun(o,s,x)=>(o,s,e.ev x))=ps.map fun(o,s,x)=>(o,s,e'.ev x):=by
 apply aA;rintro⟨o,s,x⟩ hx;simp only;rw[ar fun t ht=>h t (List.mem_flatMap.2 ⟨_,hx,ht⟩)]
theorem rF {e e':br}{σ:Hp}{op:AOp}(h: ∀t∈op.reads,e t=e' t):op.run e σ=op.run e' σ:=by
 cases op<;>simp only[AOp.reads,aB]at h<;>simp only[AOp.run]
 case move x=>rw[ar h]
 case pick c a b=>rw[ar fun t ht=>h t (.inl (.inl ht)),ar fun t ht=>h t (.inl (.inr ht)),ar fun t ht=>h t (.inr ht)]
 case box es x=>rw[ar h]
 case build z ps=>rw[Ev h]
 case buildSlice es ln z ps=>rw[Ev h]
 case load x=>rw[ar h]
 case loadN n x=>rw[ar h]
 case store n a x=>rw[ar fun t ht=>h t (.inl ht),ar fun t ht=>h t (.inr ht)]
 case nilCheck x=>rw[ar h]
 case bin op x y=>rw[ar fun t ht=>h t (.inl ht),ar fun t ht=>h t (.inr ht)]
 case eqv kd neg x y=>rw[ar fun t ht=>h t (.inl ht),ar fun t ht=>h t (.inr ht)]
 case eqCells neg ks x y=>rw[ar fun t ht=>h t (.inl ht),ar fun t ht=>h t (.inr ht)]
 case un op x=>rw[ar h]
 case conv k x=>rw[ar h]
 case mkFunc f xs cs=>rw[vB fun t ht=>h t (.inl ht),vB fun t ht=>h t (.inr ht)]
 case makeSlice es by_ z l c=>rw[ar fun t ht=>h t (.inl ht),ar fun t ht=>h t (.inr ht)]
 case slice es x lo hi=>rw[ar fun t ht=>h t (.inl (.inl ht)),oO fun t ht=>h t (.inl (.inr ht)),oO fun t ht=>h t (.inr ht)]
 case sliceStr x lo hi=>rw[ar fun t ht=>h t (.inl (.inl ht)),oO fun t ht=>h t (.inl (.inr ht)),oO fun t ht=>h t (.inr ht)]
 case sliceArr es n x lo hi=>rw[ar fun t ht=>h t (.inl (.inl ht)),oO fun t ht=>h t (.inl (.inr ht)),oO fun t ht=>h t (.inr ht)]
 case off n x=>rw[ar h]
 case idx es x i=>rw[ar fun t ht=>h t (.inl ht),ar fun t ht=>h t (.inr ht)]
 case idxA ln es x i=>rw[ar fun t ht=>h t (.inl ht),ar fun t ht=>h t (.inr ht)]
 case fieldV fo n agg x=>rw[ar h]
 case indexV ln es agg x i=>rw[ar fun t ht=>h t (.inl ht),ar fun t ht=>h t (.inr ht)]
 case indexS x i=>rw[ar fun t ht=>h t (.inl ht),ar fun t ht=>h t (.inr ht)]
 case extract x i=>rw[ar h]
 case append es by_ s x=>rw[ar fun t ht=>h t (.inl ht),ar fun t ht=>h t (.inr ht)]
 case appendZ es by_ z s x=>rw[ar fun t ht=>h t (.inl ht),ar fun t ht=>h t (.inr ht)]
 case copy es d s=>rw[ar fun t ht=>h t (.inl ht),ar fun t ht=>h t (.inr ht)]
 case len x=>rw[ar h]
 case lenS x=>rw[ar h]
 case capN x=>rw[ar h]
 case range x=>rw[ar h]
 case next x=>rw[ar h]
 case encR x=>rw[ar h]
 case strOf x=>rw[ar h]
 case strOfR x=>rw[ar h]
 case runesOf x=>rw[ar h]
 case mark x=>rw[ar h]
 case lookM k ok x i=>rw[ar fun t ht=>h t (.inl ht),ar fun t ht=>h t (.inr ht)]
 case updM k x i v=>rw[ar fun t ht=>h t (.inl (.inl ht)),ar fun t ht=>h t (.inl (.inr ht)),ar fun t ht=>h t (.inr ht)]
 case lenM k x=>rw[ar h]
 case sliceX c a b=>rw[ar fun t ht=>h t (.inl (.inl ht)),ar fun t ht=>h t (.inl (.inr ht)),ar fun t ht=>h t (.inr ht)]
 case most x y=>rw[ar fun t ht=>h t (.inl ht),ar fun t ht=>h t (.inr ht)]
 case least x y=>rw[ar fun t ht=>h t (.inl ht),ar fun t ht=>h t (.inr ht)]
theorem HU {T:dn}{e e':br}{σ:Hp}{op:AOp}{k:Value→Hp→Prop}(h: ∀t∈op.reads,e t=e' t)(hr:bj T op e σ k):bj T op e' σ k:=by
 by_cases hc:op.isCall=true
 ·cases op<;>simp[AOp.isCall]at hc
  case call f xs=>
   simp only[bj,AOp.reads]at*;rw[←vB h];exact hr
  case callv f xs=>
   simp only[bj,AOp.reads,aB]at*;rw[←vB fun t ht=>h t (.inr ht),←ar fun t ht=>h t (.inl ht)];exact hr
 ·unfold bj at*;cases op<;>simp[AOp.isCall]at hc<;>simp only at hr⊢ <;>rw[←rF h]<;>exact hr
def AOper.looks (o:AOper):List Nat:=o.op.reads++(match o.guard with|some (t,_)=>[t]|none=>[])
theorem sX {e e':br}{o:AOper}(h: ∀t∈o.looks,e t=e' t):wanted o e=wanted o e':=by
 unfold wanted;unfold AOper.looks at h;cases hg:o.guard with
 |none=>rfl
 |some g=>
  rw[hg]at h;have:=h g.1 (by simp);simp only[this]
theorem md {e:br}{σ σ':Hp}{op:AOp}{v:Value}(hs:op.still=true)(h:op.run e σ=some (v,σ')):σ'=σ:=by
 cases op<;>simp[AOp.still]at hs<;>simp only[AOp.run]at h
 all_goals
  revert h
  repeat' split
  all_goals first
   |(intro h;cases h;done)
   |(intro h;simp only[Option.some.injEq,Prod.mk.injEq]at h;exact h.2.symm)
   |(intro h;obtain⟨_,_,h⟩:=Option.map_eq_some_iff.1 h;simp only[Prod.mk.injEq]at h;exact h.2.symm)
theorem E1 {e:br}{σ:Hp}{op:AOp}{v:Value}(hs:op.still=true)(hl:op.isLoad=false)(h:op.run e σ=some (v,σ))(σ':Hp):op.run e σ'=some (v,σ'):=by
 cases op<;>simp[AOp.still]at hs
 case slice es x lo hi=>
  cases lo with
  |some _=>simp[AOp.isLoad]at hl
  |none=>
   simp only[AOp.run,qJ,Bool.or_true,if_true]at h⊢;revert h
   repeat' split
   all_goals first
    |(intro h;cases h;done)
    |(intro h;simp only[Option.some.injEq,Prod.mk.injEq]at h⊢;exact⟨h.1,trivial⟩)
    |simp_all
 all_goals first
  |(simp[AOp.isLoad]at hl;done)
  |(simp only[AOp.run]at h⊢
    revert h
    repeat' split
    all_goals first
     |(intro h;cases h;done)
     |(intro h;simp only[Option.some.injEq,Prod.mk.injEq]at h⊢;exact⟨h.1,trivial⟩)
     |(intro h;obtain⟨u,hu,h⟩:=Option.map_eq_some_iff.1 h;simp only[Prod.mk.injEq]at h;rw[hu];simp[h.1]))
end
section
open Bool renaming and_eq_true → aC, not_eq_true' → aI
open List renaming mem_cons_of_mem → aA, mem_cons_self → aB, range → aD, find?_some → aE, getD_eq_getElem?_getD → aF, getElem?_eq_none → aG, all_eq_true → aJ, mem_of_find?_eq_some → aK
open Nat renaming lt_or_ge → aH
open Go.RowKit
theorem KT {listed:Array Bool}{i:Nat}(h:listed.getD i true=false):listed.getD i false=false:=by
 rcases aH i listed.size with h'|h'
 ·simp[h']at h⊢;exact h
 ·simp[Array.getElem?_eq_none h']at h
theorem Ow {listed:Array Bool}{i:Nat}(hi:i<listed.size)(h:listed.getD i false=false):listed.getD i true=false:=by
 simp[hi]at h⊢;exact h
abbrev DL :=List (AOper×List Nat)
def fU (al:DL)(i:Nat):Option Nat:=(al[i]?).bind (·.1.dst)
def vJ (al:DL)(i:Nat):List Nat:=match al[i]? with
 |some (o,_)=>o.looks
 |none=>[]
def sK (al:DL):Bool:=
 (aD al.length).all fun i=>
  (cW al i).all (fun q=>decide (q<i))&&
  (match fU al i with
   |none=>true
   |some t=>(aD al.length).all fun j=>i==j||((fU al j !=some t)&&(!(vJ al j).contains t||kU al i j||kU al j i)))
section
variable {al:DL}
theorem G3 (h:sK al=true){i q:Nat}(hi:i<al.length)(hq:q∈cW al i):q<i:=by
 have:=List.all_eq_true.1 h i (List.mem_range.2 hi);simp only[aC,aJ,decide_eq_true_eq]at this;exact this.1 q hq
theorem rm {i t:Nat}(h:fU al i=some t):i<al.length:=by
 unfold fU at h;rcases aH i al.length with h1|h1
 ·exact h1
 ·simp[aG h1]at h
theorem IN (h:sK al=true){i j t:Nat}(hi:fU al i=some t)(hj:fU al j=some t):i=j:=by
 have:=List.all_eq_true.1 h i (List.mem_range.2 (rm hi));simp only[aC,hi]at this;have:=List.all_eq_true.1 this.2 j (List.mem_range.2 (rm hj));by_cases e:i=j
 ·exact e
 ·simp[hj,e]at this
theorem IM (h:sK al=true){i j t:Nat}(hi:fU al i=some t)(hjl:j<al.length)(hj:t∈vJ al j)(hne:i≠j):kU al i j=true∨kU al j i=true:=by
 have:=List.all_eq_true.1 h i (List.mem_range.2 (rm hi));simp only[aC,hi]at this;have:=List.all_eq_true.1 this.2 j (List.mem_range.2 hjl);simp[hne,hj]at this;exact this.2
def qs (al:DL)(D:List Nat):Prop:= ∀i∈D,∀q∈cW al i,q∈D
theorem I2 {acc ps:List Nat}{p:Nat}(h:(xl acc ps).testBit p=true): ∃q∈ps,q=p∨(acc.getD q 0).testBit p=true:=by
 have key: ∀(ps:List Nat) (m:Nat),(ps.foldl (fun m q=>m|||2 ^ q|||acc.getD q 0) m).testBit p=true→m.testBit p=true∨∃q∈ps,q=p∨(acc.getD q 0).testBit p=true:=by
  intro ps;induction ps with
  |nil=>intro m h;exact .inl h
  |cons q ps ih=>
   intro m h;rcases ih _ h with h1|⟨q',h1,h2⟩
   ·simp only[Nat.testBit_or,Nat.testBit_two_pow,Bool.or_eq_true,decide_eq_true_eq]at h1;rcases h1 with(h1|h1)|h1
    ·exact .inl h1
    ·exact .inr ⟨q,aB .., .inl h1⟩
    ·exact .inr ⟨q,aB .., .inr h1⟩
   ·exact .inr ⟨q',aA _ h1,h2⟩
 rcases key ps 0 h with h1|h1
 ·simp at h1
 ·exact h1
theorem CQ {al0:DL}: ∀(r pre:DL) (acc:List Nat),pre++r=al0→acc.length=pre.length→
  (∀j p,(acc.getD j 0).testBit p=true→∃q∈cW al0 j,q=p∨(q<j∧(acc.getD q 0).testBit p=true))→
  ∀j p,((Hq acc r).getD j 0).testBit p=true→∃q∈cW al0 j,q=p∨(q<j∧((Hq acc r).getD q 0).testBit p=true)
 |[],pre,acc,_,_,h=>h
 |(o,ps)::r,pre,acc,he,hl,h=>by
  simp only[Hq];refine CQ r (pre++[(o,ps)]) (acc++[xl acc ps]) (by rw[List.append_assoc];exact he) (by simp[hl]) fun j p hj=> ?_
  have hps:cW al0 acc.length=ps:=by
   unfold cW;rw[←he,hl,List.getElem?_append_right (Nat.le_refl _)];simp
  have hget: ∀q,q<acc.length→(acc++[xl acc ps]).getD q 0=acc.getD q 0:=by
   intro q hq;simp only[aF];rw[List.getElem?_append_left hq]
  by_cases h1:j<acc.length
  ·rw[hget j h1]at hj;obtain⟨q,h2,h3⟩:=h j p hj;refine⟨q,h2,h3.imp id fun⟨h4,h5⟩=>⟨h4, ?_⟩⟩;rw[hget q (by omega)];exact h5
  ·by_cases h2:j=acc.length
   ·subst h2;have:(acc++[xl acc ps]).getD acc.length 0=xl acc ps:=by simp
    rw[this]at hj;obtain⟨q,h3,h4⟩:=I2 hj;refine⟨q,by rw[hps];exact h3,h4.imp id fun h5=> ?_⟩
    have hq:q<acc.length:=by
     rcases aH q acc.length with h6|h6
     ·exact h6
     ·simp[aF,aG h6]at h5
    exact⟨hq,by rw[hget q hq];exact h5⟩
   ·have:(acc++[xl acc ps]).getD j 0=0:=by
     simp only[aF];rw[aG (by simp;omega)];rfl
    rw[this]at hj;simp at hj
theorem KB {p j:Nat}(h:kU al p j=true): ∃q∈cW al j,q=p∨(q<j∧kU al p q=true):=
 CQ al [] [] rfl rfl (fun j p h=>by simp at h) j p h
theorem qs.bef {D:List Nat}(h:qs al D): ∀(p j:Nat),kU al p j=true→(∀q∈cW al j,q∈D)→p∈D:=by
 intro p j;induction j using Nat.strongRecOn with
 |_ j ih=>
  intro hb hj;obtain⟨q,hq,rfl|⟨hlt,hb⟩⟩:=KB hb
  ·exact hj q hq
  ·exact ih q hlt hb (h q (hj q hq))
def dj (al:DL)(e0:br)(val:Nat→Value)(D:List Nat):br:=fun t=>match D.find? (fun i=>fU al i==some t)with
 |some i=>val i
 |none=>e0 t
theorem jj {e0:br}{val:Nat→Value}{D:List Nat}(h:sK al=true){i t:Nat}(hi:i∈D)(hd:fU al i=some t):dj al e0 val D t=val i:=by
 unfold dj;cases hf:D.find? (fun i=>fU al i==some t)with
 |none=>
  have:=List.find?_eq_none.1 hf i hi;simp[hd]at this
 |some j=>
  have:=aE hf;simp only[beq_iff_eq]at this;rw[IN h this hd]
theorem gJ {e0:br}{val:Nat→Value}{D:List Nat}{t:Nat}(h: ∀i∈D,fU al i≠some t):dj al e0 val D t=e0 t:=by
 unfold dj;have:D.find? (fun i=>fU al i==some t)=none:=List.find?_eq_none.2 fun i hi=>by simpa using h i hi
 rw[this]
theorem pq {e0:br}{val:Nat→Value}{D:List Nat}(h:sK al=true)(i:Nat)(hi:i∉D):dj al e0 val (i::D)=(dj al e0 val D).putO (fU al i) (val i):=by
 funext t
 cases hd:fU al i with
 |none=>
  simp only[br.putO];by_cases hx: ∃j∈D,fU al j=some t
  ·obtain⟨j,hj,hjt⟩:=hx;rw[jj h (aA _ hj) hjt,jj h hj hjt]
  ·rw[gJ (fun j hj hjt=>hx ⟨j,hj,hjt⟩)];refine gJ fun j hj hjt=> ?_
   rcases List.mem_cons.1 hj with rfl|hj
   ·rw[hd]at hjt;cases hjt
   ·exact hx ⟨j,hj,hjt⟩
 |some d=>
  simp only[br.putO,br.put];split
  ·rename_i ht;subst ht;exact jj h (aB ..) hd
  ·rename_i ht;by_cases hx: ∃j∈D,fU al j=some t
   ·obtain⟨j,hj,hjt⟩:=hx;rw[jj h (aA _ hj) hjt,jj h hj hjt]
   ·rw[gJ (fun j hj hjt=>hx ⟨j,hj,hjt⟩)];refine gJ fun j hj hjt=> ?_
    rcases List.mem_cons.1 hj with rfl|hj
    ·rw[hd]at hjt;exact ht (Option.some.inj hjt).symm
    ·exact hx ⟨j,hj,hjt⟩
def uX (al:DL)(e0:br)(val:Nat→Value)(j:Nat):br:=fun t=>match(aD al.length).find? (fun i=>fU al i==some t&&kU al i j)with
 |some i=>val i
 |none=>e0 t
theorem F6 {e0:br}{val:Nat→Value}{D:List Nat}(h:sK al=true)(hD:qs al D){j:Nat}(hjl:j<al.length)(hj:j∉D)(hp: ∀q∈cW al j,q∈D){t:Nat}(ht:t∈vJ al j):
  dj al e0 val D t=uX al e0 val j t:=by
 unfold uX;cases hf:(aD al.length).find? (fun i=>fU al i==some t&&kU al i j)with
 |some i=>
  have:=aE hf;simp only[aC,beq_iff_eq]at this;exact jj h (hD.bef _ _ this.2 hp) this.1
 |none=>
  refine gJ fun i hi hit=> ?_
  have h1:=List.find?_eq_none.1 hf i (List.mem_range.2 (rm hit));simp only[hit,beq_self_eq_true,Bool.true_and]at h1;have hne:i≠j:=fun e=>hj (e▸hi)
  rcases IM h hit hjl ht hne with hb|hb
  ·exact h1 hb
  ·exact hj (hD.bef _ _ hb (hD i hi))
theorem No {e0:br}{val val':Nat→Value}{D:List Nat}(hD:qs al D){j:Nat}(hj:j∈D)(hv: ∀i∈D,val' i=val i):uX al e0 val' j=uX al e0 val j:=by
 funext t
 unfold uX;cases hf:(aD al.length).find? (fun i=>fU al i==some t&&kU al i j)with
 |none=>rfl
 |some i=>
  have:=aE hf;simp only[aC,beq_iff_eq]at this;exact hv i (hD.bef _ _ this.2 (hD j hj))
theorem vA {e0:br}{val val':Nat→Value}{D:List Nat}(hv: ∀i∈D,val' i=val i):dj al e0 val' D=dj al e0 val D:=by
 funext t
 unfold dj;cases hf:D.find? (fun i=>fU al i==some t)with
 |none=>rfl
 |some i=>exact hv i (aK hf)
def left (n:Nat)(D:List Nat):Nat:=((aD n).filter fun i=> !D.contains i).length
theorem zL {n i:Nat}{D:List Nat}(hi:i<n)(hD:i∉D):left n (i::D)<left n D:=by
 unfold left
 have:(aD n).filter (fun j=> !(i::D).contains j)=((aD n).filter fun j=> !D.contains j).filter fun j=>j !=i:=by
  rw[List.filter_filter];apply List.filter_congr;intro j _;simp only[List.contains_cons,Bool.not_or];rfl
 rw[this];refine List.length_filter_lt_length_iff_exists.2 ⟨i, ?_,by simp⟩;simp[hi,hD]
theorem zM {n:Nat}{D:List Nat}(h:left n D=0){i:Nat}(hi:i<n):i∈D:=by
 unfold left at h;have:=List.eq_nil_of_length_eq_zero h;rw[List.filter_eq_nil_iff]at this;have:=this i (List.mem_range.2 hi);simpa using this
theorem ME {n i:Nat}{D:List Nat}(hi:i<n)(hD:i∉D):0<left n D:=by
 rcases Nat.eq_zero_or_pos (left n D)with h|h
 ·exact absurd (zM h hi) hD
 ·exact h
end
section
variable {P:Program} {T:dn} {al:DL} {ops:Array Oper} {B:Base P} {N:Nat}
structure Fits (P:Program)(N:Nat)(ops:Array Oper)(al:DL):Prop where
 len:ops.size=al.length
 op: ∀(i:Nat) o,ops[i]?=some o→∃x,al[i]?=some (x,cW al i)∧Ad P N ops o=some x
 pred: ∀(i:Nat) o,ops[i]?=some o→∀q,q∈cW al i↔∃e∈o.after,Region.binds .any e=true∧e.on=q
def Ar (al:DL)(e0:br)(val:Nat→Value)(σ:Hp)(chk:List (Nat×(Hp→Prop)))(j:Nat):Prop:=
 ∃x p,al[j]?=some (x,p)∧x.op.still=true∧
  ((wanted x (uX al e0 val j)=true∧x.op.run (uX al e0 val j) σ=some (val j,σ)∧
   (x.op.isLoad=true→∃c,(j,c)∈chk∧∀σ',c σ'→x.op.run (uX al e0 val j) σ'=some (val j,σ')))∨
   (wanted x (uX al e0 val j)=false∧val j=undef))
structure Inv (al:DL)(e0:br)(val:Nat→Value)(σ:Hp)(chk:List (Nat×(Hp→Prop)))(D L:List Nat):Prop where
 dc:qs al D
 lc:qs al L
 sub: ∀i∈L,i∈D
 lt: ∀i∈D,i<al.length
 tells: ∀j∈D,j∉L→Ar al e0 val σ chk j
theorem xp {D:List Nat}{i:Nat}:F0 al D i=true↔i∉D∧∀q∈cW al i,q∈D:=by
 unfold F0;simp only[aC,aI,aJ,List.contains_iff_mem];constructor
 ·rintro⟨h1,h2⟩;exact⟨fun h=>by simp[h]at h1,h2⟩
 ·rintro⟨h1,h2⟩;exact⟨by simpa using h1,h2⟩
theorem pE {D:List Nat}{i:Nat}(h:ci al D=some i):i<al.length∧i∉D∧(∀q∈cW al i,q∈D)∧sU al i=true:=by
 unfold ci at h;have h1:=aE h;have h2:=aK h;simp only[aC]at h1;obtain⟨h3,h4⟩:=xp.1 h1.1;exact⟨List.mem_range.1 h2,h3,h4,h1.2⟩
theorem CV {D:List Nat}(h:ci al D=none){i:Nat}(hi:i<al.length)(h1:i∉D)(h2: ∀q∈cW al i,q∈D):sU al i=false:=by
 unfold ci at h;have:=List.find?_eq_none.1 h i (List.mem_range.2 hi);simp only[xp.2 ⟨h1,h2⟩,Bool.true_and]at this;simpa using this
theorem pC {D:List Nat}{i:Nat}:i∈bi al D↔i<al.length∧i∉D∧(∀q∈cW al i,q∈D)∧sU al i=false:=by
 unfold bi;simp only[List.mem_filter,List.mem_range,aC,aI,xp,and_assoc]
theorem GH {f:Nat→Prop}: ∀{l:List Nat},B5 f l→∀m∈l,f m
 |[],_,m,hm=>by cases hm
 |[x],h,m,hm=>by simp at hm;subst hm;exact h
 |x::y::r,h,m,hm=>by
  rcases List.mem_cons.1 hm with rfl|hm
  ·exact h.1
  ·exact GH h.2 m hm
def upd (val:Nat→Value)(i:Nat)(v:Value):Nat→Value:=fun k=>if k=i then v else val k
theorem Ar.upd {e0:br}{val:Nat→Value}{σ:Hp}{chk:List (Nat×(Hp→Prop))}{D:List Nat}{i j:Nat}{v:Value}(hD:qs al D)(hj:j∈D)(hi:i∉D)(h:Ar al e0 val σ chk j):Ar al e0 (upd val i v) σ chk j:=by
 obtain⟨x,p,h1,h2,h3⟩:=h;have hv: ∀k∈D,Ab.upd val i v k=val k:=fun k hk=>zF fun(e:k=i)=>hi (e▸hk)
 have hs:=No (e0:=e0) hD hj hv;refine⟨x,p,h1,h2, ?_⟩;rw[hs,hv j hj];exact h3
theorem Ar.more {e0:br}{val:Nat→Value}{σ:Hp}{chk chk':List (Nat×(Hp→Prop))}{j:Nat}(h:Ar al e0 val σ chk j)(hc: ∀c∈chk,c∈chk'):Ar al e0 val σ chk' j:=by
 obtain⟨x,p,h1,h2,h3⟩:=h;refine⟨x,p,h1,h2,h3.imp (fun⟨k1,k2,k3⟩=>⟨k1,k2,fun hl=> ?_⟩) id⟩;obtain⟨c,k4,k5⟩:=k3 hl;exact⟨c,hc _ k4,k5⟩
theorem Fx {Q:br→Hp→Prop}(hok:sK al=true){e0:br}{σ:Hp}{L:List Nat}: ∀(f:Nat) (val:Nat→Value) (D:List Nat) (chk:List (Nat×(Hp→Prop))) (e:br),sY T Q al f D chk e σ→left al.length D≤f→e=dj al e0 val D→
  Inv al e0 val σ chk D L→∃f' val' D' chk',sY T Q al f' D' chk' (dj al e0 val' D') σ∧left al.length D'≤f'∧Inv al e0 val' σ chk' D' L∧ci al D'=none∧(∀i∈D,val' i=val i)∧∀i∈D,i∈D'
 |0,val,D,chk,e,h,hf,he,hI=>by
  have hall: ∀i,i<al.length→i∈D:=fun i hi=>zM (by omega) hi
  refine⟨0,val,D,chk,by rw[←he];exact h,hf,hI, ?_,fun _ _=>rfl,fun _ hi=>hi⟩;cases hn:ci al D with
  |none=>rfl
  |some i=>exact absurd (hall i (pE hn).1) (pE hn).2.1
 |f+1,val,D,chk,e,h,hf,he,hI=>by
  cases hn:ci al D with
  |none=>exact⟨f+1,val,D,chk,by rw[←he];exact h,hf,hI,hn,fun _ _=>rfl,fun _ hi=>hi⟩
  |some i=>
   obtain⟨h1,h2,h3,h4⟩:=pE hn;simp only[sY,hn]at h;split at h
   ·rename_i x p hx;have hst:x.op.still=true:=by simpa[sU,hx]using h4
    have hlooks: ∀t∈x.looks,e t=uX al e0 val i t:=by
     intro t ht;rw[he];exact F6 hok hI.dc h1 h2 h3 (by simpa[vJ,hx]using ht)
    have hdst:fU al i=x.dst:=by simp[fU,hx]
    have hleft:left al.length (i::D)≤f:=by have:=zL h1 h2;omega
    have hDc:qs al (i::D):=by
     intro k hk q hq;rcases List.mem_cons.1 hk with rfl|hk
     ·exact aA _ (h3 q hq)
     ·exact aA _ (hI.dc k hk q hq)
    have step: ∀(v:Value) (chk':List (Nat×(Hp→Prop))),sY T Q al f (i::D) chk' (e.putO x.dst v) σ→(∀c∈chk,c∈chk')→Ar al e0 (upd val i v) σ chk' i→
      ∃f' val' D' chk',sY T Q al f' D' chk' (dj al e0 val' D') σ∧left al.length D'≤f'∧Inv al e0 val' σ chk' D' L∧ci al D'=none∧(∀i∈D,val' i=val i)∧∀i∈D,i∈D':=by
     intro v chk' hw hc ht;have hval: ∀k∈D,upd val i v k=val k:=fun k hk=>zF fun(e:k=i)=>h2 (e▸hk)
     have henv:e.putO x.dst v=dj al e0 (upd val i v) (i::D):=by
      rw[pq hok i h2,vA hval,hdst,←he]
      congr 1
      exact(zE rfl).symm
     obtain⟨f',val',D',chk'',g1,g2,g3,g4,g5,g6⟩:=Fx hok f (upd val i v) (i::D) chk' _ hw hleft henv ⟨hDc,hI.lc,fun k hk=>aA _ (hI.sub k hk),fun k hk=>(List.mem_cons.1 hk).elim (fun e=>e▸h1) (hI.lt k),fun j hj hjL=>by
      rcases List.mem_cons.1 hj with rfl|hj
      ·exact ht
      ·exact((hI.tells j hj hjL).upd hI.dc hj h2).more hc⟩
     exact⟨f',val',D',chk'',g1,g2,g3,g4,fun k hk=>(g5 k (aA _ hk)).trans (hval k hk),fun k hk=>g6 k (aA _ hk)⟩
    have hseen: ∀v,uX al e0 (upd val i v) i=uX al e0 val i:=by
     intro v
     funext t
     unfold uX;cases hf':(aD al.length).find? (fun k=>fU al k==some t&&kU al k i)with
     |none=>rfl
     |some k=>
      have:=aE hf';simp only[aC,beq_iff_eq]at this;exact zF fun(e:k=i)=>h2 (e▸hI.dc.bef _ _ this.2 h3)
    have hw0:=sX hlooks;have hr0: ∀σ',x.op.run e σ'=x.op.run (uX al e0 val i) σ':=fun σ'=>rF fun t ht=>hlooks t (by simp[AOper.looks,ht])
    split at h
    ·rename_i hwant;split at h
     ·rename_i v σ1 hrun;obtain rfl:=md hst hrun;refine step v _ h (fun c hc=>by split<;>simp[hc]) ⟨x,p,hx,hst, .inl ⟨by rw[hseen,←hw0];exact hwant,by rw[hseen,←hr0];rw[hrun];congr 2;exact(zE rfl).symm,fun hl=> ?_⟩⟩;refine⟨_,by rw[zE hl];exact aB ..,fun σ' hσ'=> ?_⟩;rw[hseen,←hr0,hσ']
      congr 2
      exact(zE rfl).symm
     ·exact h.elim
    ·rename_i hwant;exact step undef chk h (fun c hc=>hc) ⟨x,p,hx,hst, .inr ⟨by rw[hseen,←hw0];simpa using hwant,zE rfl⟩⟩
   ·exact h.elim
theorem vH {m:Nat}{σ:Hp}: ∀{chk:List (Nat×(Hp→Prop))},rz al m σ chk→∀j c,(j,c)∈chk→kU al j m=false→c σ
 |[],_,j,c,h,_=>by cases h
 |(i,d)::r,hk,j,c,h,hb=>by
  simp only[rz]at hk;rcases List.mem_cons.1 h with h|h
  ·injection h with h1 h2
   subst h1 h2;rw[zF (by simp[hb])]at hk;exact hk.1
  ·split at hk
   ·exact vH hk j c h hb
   ·exact vH hk.2 j c h hb
theorem Fits.ready (hF:Fits P N ops al){listed:Array Bool}{L:List Nat}(hs:listed.size=ops.size)(hL: ∀i,i<ops.size→(listed.getD i false=true↔i∈L))(hlt: ∀i∈L,i<ops.size){i:Nat}:
  i∈Region.ready .any ops listed↔i<al.length∧i∉L∧∀q∈cW al i,q∈L:=by
 have hg: ∀k,listed.getD k false=true↔k∈L:=by
  intro k;by_cases hk:k<ops.size
  ·exact hL k hk
  ·constructor
   ·intro h;have:listed.getD k false=false:=by simp[Array.getElem?_eq_none (show listed.size≤k by omega)]
    rw[this]at h;cases h
   ·intro h;exact absurd (hlt k h) hk
 rw[mem_ready];constructor
 ·rintro⟨h1,o,h2,h3⟩;have hi:i<ops.size:=(Array.getElem?_eq_some_iff.1 h2).1;refine⟨hF.len▸hi,fun h=> ?_,fun q hq=> ?_⟩
  ·have h4:=(hg i).2 h;rw[KT h1]at h4;cases h4
  ·obtain⟨e,h4,h5,rfl⟩:=(hF.pred i o h2 q).1 hq;exact(hg _).1 (h3 e h4 h5)
 ·rintro⟨h1,h2,h3⟩;have hi:i<ops.size:=hF.len▸h1;refine⟨Ow (by omega) ?_,ops[i],Array.getElem?_eq_getElem hi,fun e he hb=>(hg _).2 (h3 _ ((hF.pred i _ (Array.getElem?_eq_getElem hi) _).2 ⟨e,he,hb,rfl⟩))⟩;cases hh:listed.getD i false with
  |true=>exact absurd ((hg i).1 hh) h2
  |false=>rfl
theorem Oh (hT: ∀f,LL P f (T f))(hF:Fits P N ops al)(hok:sK al=true){Q:AExit→br→Hp→Prop}{e0:br}{μ0:Mu}{w0:World}: ∀(fuel:Nat) (f:Nat) (val:Nat→Value) (D L:List Nat) (chk:List (Nat×(Hp→Prop))) (listed:Array Bool) (σ:Hp) (μ:Mu) (a:Act) (w:World),
  sY T (Q .normal) al f D chk (dj al e0 val D) σ→left al.length D≤f→left al.length L≤fuel→Inv al e0 val σ chk D L→listed.size=ops.size→(∀i,i<ops.size→(listed.getD i false=true↔i∈L))→
  R B μ σ w→cq μ N (dj al e0 val L) a.tmps→a.defers=[]→μ0.le μ→Below B w0 w→wpAny P .any ops (jf B N μ0 w0 Q) fuel listed a w:=by
 intro fuel;induction fuel with
 |zero=>
  intro f val D L chk listed σ μ a w h hf hfu hI hs hL hR he hd hμ hb;have hall: ∀i,i<al.length→i∈L:=fun i hi=>zM (by omega) hi
  have hlt: ∀i∈L,i<ops.size:=fun i hi=>by rw[hF.len];exact hI.lt i (hI.sub i hi)
  have hnil:Region.ready .any ops listed=[]:=by
   cases hr:Region.ready .any ops listed with
   |nil=>rfl
   |cons i r=>
    have:=(hF.ready hs hL hlt (i:=i)).1 (by rw[hr];exact aB ..);exact absurd (hall i this.1) this.2.1
  refine⟨hnil, ?_⟩;obtain⟨f',val',D',chk',g1,g2,g3,g4,g5,g6⟩:=Fx (Q:=Q .normal) hok f val D chk _ h hf rfl hI
  have hq:Q .normal (dj al e0 val' D') σ:=by
   have hmv:bi al D'=[]:=by
    cases hm:bi al D' with
    |nil=>rfl
    |cons i r=>
     have:=pC.1 (show i∈bi al D' by rw[hm];exact aB ..);exact absurd (g6 i (hI.sub i (hall i this.1))) this.2.1
   cases f' with
   |zero=>exact g1
   |succ f'=>simp only[sY,g4,hmv]at g1;exact g1
  have henv:dj al e0 val' D'=dj al e0 val L:=by
   funext t
   by_cases hx: ∃j,j<al.length∧fU al j=some t
   ·obtain⟨j,hj,hjt⟩:=hx;rw[jj hok (g6 j (hI.sub j (hall j hj))) hjt,jj hok (hall j hj) hjt,g5 j (hI.sub j (hall j hj))]
   ·rw[gJ (fun j _ hjt=>hx ⟨j,rm hjt,hjt⟩),gJ (fun j _ hjt=>hx ⟨j,rm hjt,hjt⟩)]
  rw[henv]at hq;exact⟨.normal,_,σ,μ,trivial,hq,hμ,hR,he,hd,hb⟩
 |succ fuel ih=>
  intro f val D L chk listed σ μ a w h hf hfu hI hs hL hR he hd hμ hb;have hlt: ∀i∈L,i<ops.size:=fun i hi=>by rw[hF.len];exact hI.lt i (hI.sub i hi)
  obtain⟨f',val',D',chk',g1,g2,g3,g4,g5,g6⟩:=Fx (Q:=Q .normal) hok f val D chk _ h hf rfl hI;have hvL: ∀i∈L,val' i=val i:=fun i hi=>g5 i (hI.sub i hi)
  have he':cq μ N (dj al e0 val' L) a.tmps:=by rw[vA hvL];exact he
  have hL': ∀i,i<ops.size→∀(hi:i∉L),(∀k,k<ops.size→((listed.setIfInBounds i true).getD k false=true↔k∈i::L)):=by
   intro i hi hiL k hk;by_cases e:k=i
   ·subst e;simp[hs,hk]
   ·rw[getD_set_ne false (fun e'=>e e'.symm)];rw[hL k hk];simp[e]
  have hLc: ∀i,(∀q∈cW al i,q∈L)→qs al (i::L):=by
   intro i hp k hk q hq;rcases List.mem_cons.1 hk with rfl|hk
   ·exact aA _ (hp q hq)
   ·exact aA _ (hI.lc k hk q hq)
  refine⟨fun hnil=> ?_,fun i hi=> ?_⟩
  ·
   have hDL: ∀j∈D',j∈L:=by
    intro j;induction j using Nat.strongRecOn with
    |_ j ihj=>
     intro hj;by_cases hjL:j∈L
     ·exact hjL
     ·exfalso;have hr:=(hF.ready hs hL hlt (i:=j)).2 ⟨g3.lt j hj,hjL,fun q hq=>ihj q (G3 hok (g3.lt j hj) hq) (g3.dc j hj q hq)⟩;rw[hnil]at hr;cases hr
   have hq:Q .normal (dj al e0 val' D') σ:=by
    have hmv:bi al D'=[]:=by
     cases hm:bi al D' with
     |nil=>rfl
     |cons i r=>
      exfalso;have:=pC.1 (show i∈bi al D' by rw[hm];exact aB ..);have hr:=(hF.ready hs hL hlt (i:=i)).2 ⟨this.1,fun h=>this.2.1 (g3.sub i h),fun q hq=>hDL q (this.2.2.1 q hq)⟩;rw[hnil]at hr;cases hr
    cases f' with
    |zero=>exact g1
    |succ f'=>simp only[sY,g4,hmv]at g1;exact g1
   have henv:dj al e0 val' D'=dj al e0 val' L:=by
    funext t
    by_cases hx: ∃j∈L,fU al j=some t
    ·obtain⟨j,hj,hjt⟩:=hx;rw[jj hok (g3.sub j hj) hjt,jj hok hj hjt]
    ·rw[gJ (fun j hj hjt=>hx ⟨j,hDL j hj,hjt⟩),gJ (fun j hj hjt=>hx ⟨j,hj,hjt⟩)]
   rw[henv]at hq;exact⟨.normal,_,σ,μ,trivial,hq,hμ,hR,he',hd,hb⟩
  ·
   obtain⟨k1,k2,k3⟩:=(hF.ready hs hL hlt).1 hi;have hio:i<ops.size:=hF.len▸k1;have hoi:ops[i]?=some ops[i]:=Array.getElem?_eq_getElem hio;obtain⟨x,hx,htr⟩:=hF.op i _ hoi;have hfu':left al.length (i::L)≤fuel:=by have:=zL k1 k2;omega
   have hs':(listed.setIfInBounds i true).size=ops.size:=by simpa using hs
   have hdst:fU al i=x.dst:=by simp[fU,hx]
   unfold Ad at htr;split at htr
   case h_2=>cases htr
   rename_i op g t1 t2;split at htr
   case isFalse=>cases htr
   rename_i t3;injection htr with htr
   subst htr
   have hlooks: ∀t∈(⟨ops[i].dst,op,g⟩:AOper).looks,dj al e0 val' L t=uX al e0 val' i t:=by
    intro t ht;exact F6 hok g3.lc k1 k2 k3 (by simpa[vJ,hx]using ht)
   have hwant:=E8 (op:=op) t2 he';rw[sX hlooks]at hwant;unfold wpOp;rw[hoi];simp only;rw[hwant];by_cases hiD:i∈D'
   ·
    obtain⟨x',p,y1,y2,y3⟩:=g3.tells i hiD k2;rw[hx]at y1;injection y1 with y1
    injection y1 with y1 _
    subst y1
    have hInv': ∀(μ':Mu) (w':World),Inv al e0 val' σ chk' D' (i::L):=fun μ' w'=>
     ⟨g3.dc,hLc i k3,fun k hk=>(List.mem_cons.1 hk).elim (fun e=>e▸hiD) (g3.sub k),g3.lt,fun j hj hjL=>g3.tells j hj fun h=>hjL (aA _ h)⟩
    rcases y3 with⟨y4,y5,_⟩|⟨y4,y5⟩
    ·rw[y4];rw[zE rfl];left
     have hrun:bj T op (dj al e0 val' L) σ fun v σ'=>v=val' i∧σ'=σ:=by
      have:op.run (dj al e0 val' L) σ=some (val' i,σ):=by
       rw[rF (e':=uX al e0 val' i) fun t ht=>hlooks t (by simp[AOper.looks,ht])];exact y5
      unfold bj;cases op<;>simp[AOp.still]at y2<;>simp only[this]<;>exact⟨trivial,trivial⟩
     refine C6 hT t1 hrun he' hR fun v σ' v' μ' w' hk hμ' hR' hv hbel=> ?_
     obtain⟨rfl,rfl⟩:=hk;refine ih f' val' D' (i::L) chk' _ σ' μ' _ w' g1 g2 hfu' (hInv' μ' w') hs' (hL' i hio k2) hR' ?_ (by rw[lY];exact hd) (Mu.le_trans hμ hμ') (hb.trans hbel);rw[pq hok i k2,hdst];exact(he'.mono hμ').putO t3 hv
    ·rw[y4];simp only[Bool.false_eq_true,if_false];refine ih f' val' D' (i::L) chk' _ σ μ _ w g1 g2 hfu' (hInv' μ w) hs' (hL' i hio k2) hR ?_ (by rw[lY];exact hd) hμ hb;rw[pq hok i k2,hdst,y5];exact he'.putO t3 (VR.undef μ)
   ·
    have hpD: ∀q∈cW al i,q∈D':=fun q hq=>g3.sub q (k3 q hq)
    have hst:=CV g4 k1 hiD hpD;have hmem:i∈bi al D':=pC.2 ⟨k1,hiD,hpD,hst⟩
    have hlooksD: ∀t∈(⟨ops[i].dst,op,g⟩:AOper).looks,dj al e0 val' D' t=uX al e0 val' i t:=by
     intro t ht;exact F6 hok g3.dc k1 hiD hpD (by simpa[vJ,hx]using ht)
    have hsame: ∀t∈(⟨ops[i].dst,op,g⟩:AOper).looks,dj al e0 val' D' t=dj al e0 val' L t:=fun t ht=>(hlooksD t ht).trans (hlooks t ht).symm
    obtain⟨f'',rfl⟩: ∃f'',f'=f''+1:=⟨f'-1,by have:=ME k1 hiD;omega⟩
    have hleft:left al.length (i::D')≤f'':=by have:=zL k1 hiD;omega
    simp only[sY,g4]at g1
    have hcomp:(if wanted ⟨ops[i].dst,op,g⟩ (dj al e0 val' D')then bj T op (dj al e0 val' D') σ fun v σ'=>rz al i σ' chk'∧sY T (Q .normal) al f'' (i::D') chk' ((dj al e0 val' D').putO ops[i].dst v) σ'
      else sY T (Q .normal) al f'' (i::D') chk' ((dj al e0 val' D').putO ops[i].dst undef) σ):=by
     cases hm:bi al D' with
     |nil=>rw[hm]at hmem;cases hmem
     |cons m r=>
      rw[hm]at g1 hmem;simp only at g1;have:=GH g1 i hmem;simp only[hx]at this;exact this
    rw[sX hlooksD]at hcomp
    have hDc:qs al (i::D'):=by
     intro k hk q hq;rcases List.mem_cons.1 hk with rfl|hk
     ·exact aA _ (hpD q hq)
     ·exact aA _ (g3.dc k hk q hq)
    have hlag: ∀j∈i::D',j∉i::L→j∈D'∧j∉L:=fun j hj hjL=>
     ⟨(List.mem_cons.1 hj).elim (fun e=>absurd (e▸aB ..) hjL) id,fun h=>hjL (aA _ h)⟩
    have hval: ∀v,∀k∈D',upd val' i v k=val' k:=fun v k hk=>zF fun(e:k=i)=>hiD (e▸hk)
    have henvD: ∀v,(dj al e0 val' D').putO ops[i].dst v=dj al e0 (upd val' i v) (i::D'):=by
     intro v;rw[pq hok i hiD,vA (hval v),hdst]
     congr 1
     exact(zE rfl).symm
    have henvL: ∀v,(dj al e0 val' L).putO ops[i].dst v=dj al e0 (upd val' i v) (i::L):=by
     intro v;rw[pq hok i k2,vA (fun k hk=>hval v k (g3.sub k hk)),hdst]
     congr 1
     exact(zE rfl).symm
    split at hcomp
    ·rename_i hw1;rw[hw1,zE rfl];left;refine C6 hT t1 (HU (fun t ht=>hsame t (by simp[AOper.looks,ht])) hcomp) he' hR fun v σ' v' μ' w' hk hμ' hR' hv hbel=> ?_
     obtain⟨hk1,hk2⟩:=hk;rw[henvD v]at hk2;refine ih f'' (upd val' i v) (i::D') (i::L) chk' _ σ' μ' _ w' hk2 hleft hfu' ⟨hDc,hLc i k3,fun k hk=>(List.mem_cons.1 hk).elim (fun e=>e▸aB ..) fun h=>aA _ (g3.sub k h),fun k hk=>(List.mem_cons.1 hk).elim (fun e=>e▸k1) (g3.lt k),fun j hj hjL=> ?_⟩ hs' (hL' i hio k2) hR' ?_ (by rw[lY];exact hd) (Mu.le_trans hμ hμ') (hb.trans hbel)
     ·obtain⟨hjD,hjL'⟩:=hlag j hj hjL;have ht:=(g3.tells j hjD hjL').upd (i:=i) (v:=v) g3.dc hjD hiD;obtain⟨x',p,z1,z2,z3⟩:=ht;refine⟨x',p,z1,z2,z3.imp (fun⟨z4,z5,z6⟩=>⟨z4, ?_,z6⟩) id⟩;cases hl:x'.op.isLoad with
      |false=>exact E1 z2 hl z5 σ'
      |true=>
       obtain⟨c,z7,z8⟩:=z6 hl;refine z8 σ' (vH hk1 j c z7 ?_);cases hbf:kU al j i with
       |false=>rfl
       |true=>exact absurd (g3.lc.bef _ _ hbf k3) hjL'
     ·rw[←henvL v];exact(he'.mono hμ').putO t3 hv
    ·rename_i hw1;rw[zF hw1];rw[henvD undef]at hcomp;refine ih f'' (upd val' i undef) (i::D') (i::L) chk' _ σ μ _ w hcomp hleft hfu' ⟨hDc,hLc i k3,fun k hk=>(List.mem_cons.1 hk).elim (fun e=>e▸aB ..) fun h=>aA _ (g3.sub k h),fun k hk=>(List.mem_cons.1 hk).elim (fun e=>e▸k1) (g3.lt k),fun j hj hjL=> ?_⟩ hs' (hL' i hio k2) hR ?_ (by rw[lY];exact hd) hμ hb
     ·obtain⟨hjD,hjL'⟩:=hlag j hj hjL;exact(g3.tells j hjD hjL').upd g3.dc hjD hiD
     ·rw[←henvL undef];exact he'.putO t3 (VR.undef μ)
end
end
section
open Go.RowKit
def lG (T:dn):Prop:= ∀f args σ (K K':Value→Hp→Prop),(∀r σ',K r σ'→K' r σ')→T f args σ K→T f args σ K'
theorem eK {T:dn}(hT:lG T){op:AOp}{e:br}{σ:Hp}{k k':Value→Hp→Prop}(hk: ∀v σ',k v σ'→k' v σ')(h:bj T op e σ k):bj T op e σ k':=by
 unfold bj at*;cases op<;>simp only at h⊢
 case call f xs=>exact hT _ _ _ _ _ hk h
 case callv f xs=>
  split at h
  ·exact⟨h.1,hT _ _ _ _ _ hk h.2⟩
  ·exact h.elim
 all_goals
  split at h
  ·exact hk _ _ h
  ·exact h.elim
section
variable {T:dn}
theorem sZ (hT:lG T){Q Q':br→Hp→Prop}(hq: ∀e σ,Q e σ→Q' e σ): ∀(l:List AOper) (e:br) (σ:Hp),pK T Q l e σ→pK T Q' l e σ
 |[],e,σ,h=>hq e σ h
 |o::l,e,σ,h=>by
  simp only[pK]at h⊢;split at h
  ·rename_i hw;rw[zE hw];exact eK hT (fun v σ' hk=>sZ hT hq l _ σ' hk) h
  ·rename_i hw;rw[zF hw];exact sZ hT hq l _ σ h
theorem Ek {f g:Nat→Prop}(h: ∀m,f m→g m): ∀{l:List Nat},B5 f l→B5 g l
 |[],_=>trivial
 |[_],hf=>h _ hf
 |_::_::_,hf=>⟨h _ hf.1,Ek h hf.2⟩
theorem vp (hT:lG T){Q Q':br→Hp→Prop}(hq: ∀e σ,Q e σ→Q' e σ){ops:List (AOper×List Nat)}: ∀(f:Nat) (done:List Nat) (chk:List (Nat×(Hp→Prop))) (e:br) (σ:Hp),sY T Q ops f done chk e σ→sY T Q' ops f done chk e σ
 |0,done,chk,e,σ,h=>hq e σ h
 |f+1,done,chk,e,σ,h=>by
  simp only[sY]at h⊢;split at h
  ·split at h
   ·split at h
    ·rename_i hw;rw[zE hw];split at h
     ·exact vp hT hq f _ _ _ _ h
     ·exact h.elim
    ·rename_i hw;rw[zF hw];exact vp hT hq f _ _ _ _ h
   ·exact h.elim
  ·split at h
   ·exact hq e σ h
   ·refine Ek (fun m hm=> ?_) h;split at hm
    ·split at hm
     ·rename_i hw;rw[zE hw];exact eK hT (fun v σ' hk=>⟨hk.1,vp hT hq f _ _ _ _ hk.2⟩) hm
     ·rename_i hw;rw[zF hw];exact vp hT hq f _ _ _ _ hm
    ·exact hm.elim
theorem vq (hT:lG T){Q Q':br→Hp→Prop}(hq: ∀e σ,Q e σ→Q' e σ): ∀(l:List SItem) (chk:List (Nat×(Hp→Prop))) (e:br) (σ:Hp),Gi T Q l chk e σ→Gi T Q' l chk e σ
 |[],_,e,σ,h=>hq e σ h
 |it::l,chk,e,σ,h=>by
  simp only[Gi]at h⊢;split at h
  ·rename_i hw;rw[zE hw];split at h
   ·rename_i hm;rw[zE hm];exact eK hT (fun v σ' hk=>⟨hk.1,vq hT hq l _ _ σ' hk.2⟩) h
   ·rename_i hm;rw[zF hm];split at h
    ·exact vq hT hq l _ _ σ h
    ·exact h.elim
  ·rename_i hw;rw[zF hw];exact vq hT hq l _ _ σ h
theorem qr {f:(AExit→br→Hp→Prop)→br→Hp→Prop}(hf: ∀(Q Q':AExit→br→Hp→Prop),(∀x e σ,Q x e σ→Q' x e σ)→∀e σ,f Q e σ→f Q' e σ){Q Q':AExit→br→Hp→Prop}(hq: ∀x e σ,Q x e σ→Q' x e σ):
  ∀(n:Nat) (e:br) (σ:Hp),dE f Q n e σ→dE f Q' n e σ
 |0,_,_,h=>h.elim
 |n+1,e,σ,h=>by
  simp only[dE]at h⊢;refine hf _ _ (fun x e' σ' hx=> ?_) e σ h;cases x with
  |normal=>exact qr hf hq n e' σ' hx
  |exit id=>exact hq _ _ _ hx
  |ret=>exact hq _ _ _ hx
theorem cx (hT:lG T): ∀(c:AC) (Q Q':AExit→br→Hp→Prop),(∀x e σ,Q x e σ→Q' x e σ)→∀(e:br) (σ:Hp),nw T c Q e σ→nw T c Q' e σ:=by
 intro c;induction c with
 |skip=>intro Q Q' hq e σ h;exact hq _ _ _ h
 |region ops=>intro Q Q' hq e σ h;exact sZ hT (hq .normal) ops e σ h
 |draw ops=>intro Q Q' hq e σ h;exact vp hT (hq .normal) _ _ _ e σ h
 |sched its=>intro Q Q' hq e σ h;exact vq hT (hq .normal) its [] e σ h
 |seq a b iha ihb=>
  intro Q Q' hq e σ h;refine iha _ _ (fun x e' σ' hx=> ?_) e σ h;cases x with
  |normal=>exact ihb Q Q' hq e' σ' hx
  |exit id=>exact hq _ _ _ hx
  |ret=>exact hq _ _ _ hx
 |cond c a b iha ihb=>
  intro Q Q' hq e σ h;simp only[nw]at h⊢;split at h
  ·exact iha Q Q' hq e σ h
  ·exact ihb Q Q' hq e σ h
  ·exact h.elim
 |block id b ih=>
  intro Q Q' hq e σ h;refine ih _ _ (fun x e' σ' hx=> ?_) e σ h;cases x with
  |normal=>exact hq _ _ _ hx
  |exit i=>
   simp only at hx⊢;split at hx
   ·rename_i hi;rw[zE hi];exact hq _ _ _ hx
   ·rename_i hi;rw[zF hi];exact hq _ _ _ hx
  |ret=>exact hq _ _ _ hx
 |loop b ih=>
  intro Q Q' hq e σ h;obtain⟨n,hn⟩:=h;exact⟨n,qr (f:=nw T b) ih hq n e σ hn⟩
 |exit id=>intro Q Q' hq e σ h;exact hq _ _ _ h
 |ret=>intro Q Q' hq e σ h;exact hq _ _ _ h
def AC.outs :AC→Nat→Bool
 | .seq a b,i| .cond _ a b,i=>a.outs i||b.outs i
 | .block id b,i=>b.outs i&& !(i==id)
 | .loop b,i=>b.outs i
 | .exit j,i=>i==j
 |_,_=>false
def Iw (c:AC)(Q:AExit→br→Hp→Prop):AExit→br→Hp→Prop:=fun x e σ=>(∀i,x= .exit i→c.outs i=true)∧Q x e σ
theorem uT {c:AC}{Q:AExit→br→Hp→Prop}:Iw c Q .normal=Q .normal:=by
 funext e σ
 exact propext ⟨fun h=>h.2,fun h=>⟨fun i hi=>(by cases hi),h⟩⟩
theorem AU {f:(AExit→br→Hp→Prop)→br→Hp→Prop}{b:AC}(hf: ∀(Q Q':AExit→br→Hp→Prop),(∀x e σ,Q x e σ→Q' x e σ)→∀e σ,f Q e σ→f Q' e σ)
  (ho: ∀Q e σ,f Q e σ→f (Iw b Q) e σ) {Q:AExit→br→Hp→Prop}: ∀(n:Nat) (e:br) (σ:Hp),dE f Q n e σ→dE f (Iw b Q) n e σ
 |0,_,_,h=>h.elim
 |n+1,e,σ,h=>by
  simp only[dE]at h⊢;refine hf _ _ (fun x e' σ' hx=> ?_) e σ (ho _ e σ h);obtain⟨h1,h2⟩:=hx;cases x with
  |normal=>exact AU hf ho n e' σ' h2
  |exit id=>exact⟨h1,h2⟩
  |ret=>exact⟨h1,h2⟩
theorem Ir (hT:lG T): ∀(c:AC) (Q:AExit→br→Hp→Prop) (e:br) (σ:Hp),nw T c Q e σ→nw T c (Iw c Q) e σ:=by
 intro c;induction c with
 |skip=>intro Q e σ h;exact⟨fun i hi=>(by cases hi),h⟩
 |region ops=>intro Q e σ h;simp only[nw]at h⊢;rw[uT];exact h
 |draw ops=>intro Q e σ h;simp only[nw]at h⊢;rw[uT];exact h
 |sched its=>intro Q e σ h;simp only[nw]at h⊢;rw[uT];exact h
 |seq a b iha ihb=>
  intro Q e σ h;simp only[nw]at h⊢;refine cx hT a _ _ (fun x e' σ' hx=> ?_) e σ (iha _ e σ h);obtain⟨h1,h2⟩:=hx;cases x with
  |normal=>exact cx hT b _ _ (fun x e σ hx=>⟨fun i hi=>by rw[AC.outs,hx.1 i hi,Bool.or_true],hx.2⟩) e' σ' (ihb Q e' σ' h2)
  |exit id=>exact⟨fun i hi=>by rw[AC.outs,h1 i hi,Bool.true_or],h2⟩
  |ret=>exact⟨fun i hi=>(by cases hi),h2⟩
 |cond c a b iha ihb=>
  intro Q e σ h;simp only[nw]at h⊢;split at h
  ·exact cx hT a _ _ (fun x e σ hx=>⟨fun i hi=>by rw[AC.outs,hx.1 i hi,Bool.true_or],hx.2⟩) e σ (iha Q e σ h)
  ·exact cx hT b _ _ (fun x e σ hx=>⟨fun i hi=>by rw[AC.outs,hx.1 i hi,Bool.or_true],hx.2⟩) e σ (ihb Q e σ h)
  ·exact h.elim
 |block id b ih=>
  intro Q e σ h;simp only[nw]at h⊢;refine cx hT b _ _ (fun x e' σ' hx=> ?_) e σ (ih _ e σ h);obtain⟨h1,h2⟩:=hx;cases x with
  |normal=>exact⟨fun i hi=>(by cases hi),h2⟩
  |exit i=>
   simp only at h2⊢;split at h2
   ·rename_i hi;rw[zE hi];exact⟨fun i hi=>(by cases hi),h2⟩
   ·rename_i hi;rw[zF hi];refine⟨fun j hj=> ?_,h2⟩;injection hj with hj
    subst hj;rw[AC.outs,h1 i rfl];simp[hi]
  |ret=>exact⟨fun i hi=>(by cases hi),h2⟩
 |loop b ih=>
  intro Q e σ h;obtain⟨n,hn⟩:=h;exact⟨n,AU (f:=nw T b) (cx hT b) ih n e σ hn⟩
 |exit id=>
  intro Q e σ h;refine⟨fun i hi=> ?_,h⟩;injection hi with hi
  subst hi;simp[AC.outs]
 |ret=>intro Q e σ h;exact⟨fun i hi=>(by cases hi),h⟩
end
end
end Go.Ab
