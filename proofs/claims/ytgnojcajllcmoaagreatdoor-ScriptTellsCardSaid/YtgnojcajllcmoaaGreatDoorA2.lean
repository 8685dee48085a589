/- A part of the proof. No condition. -/
import Derived.Test.YtgnojcajllcmoaaGreatDoorA1
import Derived.Laws.BytesString
import Derived.Laws.RangeAny
import Derived.Laws.IdiomStrings
import Derived.Laws.Cover4
import Derived.Lib.OthersKept
import Derived.IntWalk
import Derived.Below
set_option linter.all false
namespace Go.Ab
open Option renaming some->O,none->Y
open Bool renaming true->Za,false->Zb
open Decidable renaming decide->Zc
open List renaming all_eq_true->bo
open List renaming mem_append->cI
open List renaming mem_cons->aw
open List renaming mem_flatMap->dl
open List renaming mem_range->cJ
open Option renaming isSome_iff_exists->eL
open Option renaming map_eq_some_iff->aa
open List renaming length->hW
open Option renaming bind->im
open Option.some renaming injEq->hO
open Prod.mk renaming injEq->hU
variable {e e' e0:cy}{i j t:Nat}{D:List Nat}{Z:Hp}{w:World}{ao op:AOp}{f:FuncId}{v:Value}{x:Exit}{a:Act}{args:List Operand}{c:Call}
section
open Builtin renaming firstCells->aB
open Go.RowKit
section
variable {P:Program} {o:Oper} {a:Act} {w w':World} {B:Base P} {N:Nat} {μ:Mu} {e:cy} {Z Z':Hp} {v:Value}
theorem R.newB (h:R B μ Z w){t:TypeId}(ht:JJ P t=Za):R B (μ.add Z.n ⟨w.heap.size,0,0,1,t,O .nilFunc⟩) (Z.add ⟨[.string ByteArray.empty],Za,1⟩) (w.alloc<|.cells #[.pointer Y, .slice Y 0 0] t)/\μ.le (μ.add Z.n ⟨w.heap.size,0,0,1,t,O .nilFunc⟩):=by
 have hf:μ Z.n=Y:=h.fresh _<|Nat.le_refl _;have J:μ.le<|μ.add Z.n ⟨w.heap.size,0,0,1,t,O .nilFunc⟩:=Mu.le_add hf
 have old: ∀b x,b≠Z.n->(Z.add ⟨[.string ByteArray.empty],Za,1⟩).m b=O x->Z.m b=O x:=by
  intro b x s C;simpa[Hp.add,s]using C
 have new: ∀x,(Z.add ⟨[.string ByteArray.empty],Za,1⟩).m Z.n=O x->x=⟨[.string ByteArray.empty],Za,1⟩:=by
  intro x C;simp[Hp.add]at C;exact C.symm
 have A: ∀b x g,Z.m b=O x->μ b=O g->g.c<w.heap.size:=λb x g C U=>(h.get C U).lt
 have X:(w.alloc<|.cells #[.pointer Y, .slice Y 0 0] t).heap[w.heap.size]?=O (.cells #[.pointer Y, .slice Y 0 0] t (0,0)):=heap_alloc_new w _
 have hbn:jj (w.alloc<|.cells #[.pointer Y, .slice Y 0 0] t) w.heap.size=Y:=by
  unfold jj;rw[X];rfl
 refine⟨⟨Nat.le_trans h.base V2,λb s=>(Below.heap_alloc w _ _<|Nat.lt_of_lt_of_le s h.base).trans<|h.old b s,λb s=> ?_,λb x C=> ?_,λb H x x' g L C E V ho U u=> ?_,λb x g C U hi k hk H x' L E u=> ?_⟩,J⟩
 .have:Z.n+1<=b:=s;unfold Mu.add;rw[Zh];exact h.fresh b V1
 .by_cases s:b=Z.n
  .subst s;obtain rfl:=new x C
   exact⟨⟨w.heap.size,0,0,1,t,O .nilFunc⟩,ZR,⟨V2,rfl,λh0=>(by cases h0),λh0=>(by cases h0),λs' hs=>(by injection hs with hs;cases hs),λ_=>
    ⟨ht, .pointer Y,ByteArray.empty, .inl rfl,rfl,h.base, .slice Y 0 0,X,World.ownsRowF_nil _ _ _ _,by simp[Value.ownBlock]⟩⟩⟩
  have E:=old b x s C;have⟨g,M,W⟩:=h.live b x E;exact⟨g,J _ _ M,(W.mono J).kept V2 (Below.heap_alloc w _ _ W.lt)<|λhi k hk=>Below.heap_alloc w _ _ (h.buf E M hi hk).2.1⟩
 .by_cases s:b=Z.n
  .subst s;have p:H≠Z.n:=λe=>V e.symm
   have:g.c=w.heap.size:=by simp[Mu.add]at U;rw[<-U]
   have W:μ H=O L:=by simpa[Mu.add,p]using u
   grind
  have M:μ b=O g:=by simpa[Mu.add,s]using U
  have F:=old b x s C;by_cases p:H=Z.n
  .subst p;have:L.c=w.heap.size:=by simp[Mu.add]at u;rw[<-u]
   have:=A b x g F M;omega
  have W:μ H=O L:=by simpa[Mu.add,p]using u
  exact h.inj b H x x' g L F (old _ _ p E) V ho M W
 by_cases s:b=Z.n
 .subst s;have e1:g.c=w.heap.size:=by simp[Mu.add]at U;rw[<-U]
  rw[e1,hbn]at hk;cases hk
 have M:μ b=O g:=by simpa[Mu.add,s]using U
 have F:=old b x s C
 have hkw:jj w g.c=O k:=by
  rw[<-hk];unfold jj;rw[Below.heap_alloc w _ _<|A b x g F M]
 have hklt:=(h.buf F M hi hkw).2.1;by_cases p:H=Z.n
 .subst p;have e1:L.c=w.heap.size:=by simp[Mu.add]at u;rw[<-u]
  grind
 have W:μ H=O L:=by simpa[Mu.add,p]using u
 have hx2:=old H x' p E;have⟨m1,m2⟩:=h.sep b x g F M hi k hkw H x' L hx2 W;refine⟨m1,λV hi'=> ?_⟩;have:=m2 V hi';unfold jj at this⊢;rw[Below.heap_alloc w _ _<|A H x' L hx2 W];exact this
def aT0 {t:TypeId}(C:o.op= .alloc t)(E:JJ P t=Za)(F:pg P t=O [.pointer Y, .slice Y 0 0])(p:AOp.newB.run e Z=O (v,Z'))(h:R B μ Z w):kO P o a w B μ v Z':=by
 have⟨L,s,u,M⟩:=mI F;simp only[AOp.run,hO,hU]at p;obtain⟨rfl,rfl⟩:=p;have⟨H,J⟩:=h.newB E;have A:L.cells= #[.pointer Y, .slice Y 0 0]:=Array.toList_inj.1 u;refine⟨_,_,_, .pointer<|O ⟨w.heap.size,0,Y⟩, ?_, .inl rfl,J,H, ?_,(Below.refl _ _).alloc h.base _⟩
 .simp[execOp,C,Instr.alloc,s,newVar,newRow,A]
 exact .iter (g:=⟨w.heap.size,0,0,1,t,O .nilFunc⟩) ZR rfl
def LW {μ:Mu}: ∀{cs g:List Value} {l:Zd},F2 (VR μ) cs g->CL cs=O l->g=l.map (Value.int .u8)
 |[],_,l,h,p=>by
  cases h;simp[CL]at p;subst p;rfl
 |c::cs,_,l,h,p=>by
  cases h with
  |cons C E=>
   rename_i J g;unfold CL at p;split at p
   .rename_i s;cases s
   .rename_i n r s;injection s with u A
    subst u;subst A;have⟨L,F,H⟩:=aa.1 p;subst H;rw[LW E F,C.int_inv];rfl
   .cases p
def aD8 {s d t:TypeId}{x:Operand}(ho:o.op= .convert s d x)(hs:P.underlying s=O (.slice t))(ht:P.underlying t=O (.int .u8))(X:P.underlying d=O .string)(hx:dw x=Za)(E:(AOp.strOf x).run e Z=O (v,Z'))(he:gq μ N e a.tmps)(H:R B μ Z w):kO P o a w B μ v Z':=by
 have h:=he.ev hx;simp only[AOp.run]at E;split at E
 .rename_i p n c hp;rw[hp]at h;split at E
  .rename_i cs M;obtain⟨l,hl,E⟩:=aa.1 E;simp only[hU]at E;obtain⟨rfl,rfl⟩:=E;have⟨arr,h1,h2⟩:=CN (P:=P) (es:=1) (n:=n) (ln:=n) rfl (Nat.le_refl _) M H h;have W:=LW h2 hl;have g:=h1 w rfl
   have A: ∀(q:Option Addr) (J:Nat),a.eval x= .slice q n J->(n=0∨∃z,q=O z)->(execOp a.eval o).run P w= .ok (.value<|.string<|Yz l) w:=by
    intro q J C L;rw[C]at g;cases q with
    |none=>
     rcases L with L|⟨z,L⟩
     .subst L;simp[aB]at g;subst g;have U:l=[]:=by simpa using W.symm
      subst U;simp[execOp,ho,C,run_convert_bytes_string w s d t Y 0 J hs ht X,Conv.bytesToString,Yz]
     cases L
    |some z=>
     have F:(loadCells z n).run P w= .ok (l.map<|Value.int .u8).toArray w:=by
      simp only[aB,Nat.mul_one]at g;rw[g,<-W]
     simp[execOp,ho,C,run_convert_bytes_string w s d t (O z) n J hs ht X,run_bytesToString w z n J l F,Yz]
   generalize C:a.eval x=u at h;cases h with
   |nils=>exact .same H (A Y 0 C<|.inl rfl) (.string _)
   |slice V k2 k3 k4=>exact .same H (A _ _ C<|.inr ⟨_,rfl⟩) (.string _)
   |slice0 A' V=>exact .same H (A _ _ C<|.inl rfl) (.string _)
   |sliceX V k2=>exact .same H (A _ _ C<|.inr ⟨_,rfl⟩) (.string _)
   |sliceX0 A' V=>exact .same H (A _ _ C<|.inl rfl) (.string _)
  cases E
 cases E
end
end
section
open Go.RowKit
section
variable {P:Program} {o:Oper} {a:Act} {w:World} {B:Base P} {N:Nat} {μ:Mu} {e:cy} {Z Z':Hp} {v:Value}
theorem Au {x y:Option Operand}(h:aT3 x=O y):x=y/\∀u,y=O u->dw u=Za:=by
 unfold aT3 at h;split at h
 .rename_i x;obtain⟨z,g,h⟩:=aa.1 h;obtain⟨rfl,p⟩:=bc g
  grind
 grind
def AOp.isCall :AOp->Bool
 | .call _ _| .callv _ _=>Za
 |_=>Zb
def aI3 {op:BinOp}{t M:TypeId}{x y:Operand}(E:o.op= .binOp op t x y M)(h:WO P op t x y=O ao)(F:ao.run e Z=O (v,Z'))(C:gq μ N e a.tmps)(A:R B μ Z w):kO P o a w B μ v Z':=by
 unfold WO at h;split at h
 .split at h
  .rename_i g p;obtain⟨rfl,s⟩:=bc g;obtain⟨rfl,u⟩:=bc p;cases h;exact aD2 E s u F C A
  cases h
 .split at h
  .rename_i g p;obtain⟨rfl,s⟩:=bc g;obtain⟨rfl,u⟩:=bc p;cases h;exact aD2 E s u F C A
  cases h
 .split at h
  .rename_i H g p;obtain⟨rfl,s⟩:=bc g;obtain⟨rfl,u⟩:=bc p;cases h;exact EH E rfl H s u F C A
  .rename_i H g p;obtain⟨rfl,s⟩:=bc g;obtain⟨rfl,u⟩:=bc p;cases h;exact EH E rfl H s u F C A
  cases h
 .split at h
  .rename_i H g p;obtain⟨rfl,s⟩:=bc g;obtain⟨rfl,u⟩:=bc p;cases h;exact EH E rfl H s u F C A
  .rename_i H g p;obtain⟨rfl,s⟩:=bc g;obtain⟨rfl,u⟩:=bc p;cases h;exact EH E rfl H s u F C A
  cases h
 .rename_i L;split at h
  .rename_i J g p;obtain⟨rfl,s⟩:=bc g;obtain⟨rfl,u⟩:=bc p;cases h;exact aD3 E rfl L J s u F C A
  .rename_i J g p;obtain⟨rfl,s⟩:=bc g;obtain⟨rfl,u⟩:=bc p;cases h;exact aD3 E rfl L J s u F C A
  cases h
 cases h
def ar6 (U:o.op= .call c)(h:EU P c=O ao)(hc:ao.isCall=Zb)(V:ao.run e Z=O (v,Z'))(M:gq μ N e a.tmps)(L:R B μ Z w):kO P o a w B μ v Z':=by
 unfold EU at h;split at h
 .split at h
  .obtain⟨x,_,h⟩:=aa.1 h;subst h;simp[AOp.isCall]at hc
  cases h
 .obtain⟨x,_,h⟩:=aa.1 h;subst h;simp[AOp.isCall]at hc
 .rename_i g;split at h
  .rename_i u J;split at h
   .rename_i E F p C;obtain⟨rfl,s⟩:=bc p;obtain⟨rfl,H⟩:=bc C;split at h
    .rename_i W X hz;split at h
     .rename_i A;cases h;exact Rn U g u J E (.inl ⟨_,F⟩) W X hz A s H V M L
     cases h
    cases h
   .rename_i E F p C;obtain⟨rfl,s⟩:=bc p;obtain⟨rfl,H⟩:=bc C;split at h
    .rename_i W X hz;split at h
     .rename_i A;cases h;exact Rn U g u J E (.inr F) W X hz A s H V M L
     cases h
    cases h
   .rename_i E F p C;obtain⟨rfl,s⟩:=bc p;obtain⟨rfl,H⟩:=bc C;split at h
    .rename_i W X hz;split at h
     .rename_i A;cases h;exact X0 U g u J E ⟨_,F⟩ W X hz A.1 A.2 s H V M L
     cases h
    cases h
   cases h
  cases h
 .rename_i g;split at h
  .rename_i u J;split at h
   .rename_i hu p C;obtain⟨rfl,s⟩:=bc p;obtain⟨rfl,H⟩:=bc C;split at h
    .rename_i W;cases h;exact aS6 U g u J hu W s H V M L
    cases h
   cases h
  cases h
 .rename_i g;split at h
  .rename_i u J;split at h
   .rename_i hu p;obtain⟨rfl,s⟩:=bc p;cases h;exact bl4 U g u J hu s V M L
   cases h
  cases h
 .rename_i g;split at h
  .rename_i u J;split at h
   .rename_i hu p;obtain⟨rfl,s⟩:=bc p;cases h;exact aS4 U g u J hu s V M L
   cases h
  cases h
 .rename_i g;split at h
  .rename_i u;split at h
   .rename_i p C;obtain⟨rfl,s⟩:=bc p;obtain⟨rfl,H⟩:=bc C;cases h;exact aS9 U g u s H V M L
   cases h
  cases h
 .rename_i g;split at h
  .rename_i u;split at h
   .rename_i p C;obtain⟨rfl,s⟩:=bc p;obtain⟨rfl,H⟩:=bc C;cases h;exact aD4 U g u s H V M L
   cases h
  cases h
 cases h
def aW5 (h:WQ P o=O ao)(hc:ao.isCall=Zb)(u:ao.run e Z=O (v,Z'))(C:gq μ N e a.tmps)(A:R B μ Z w):kO P o a w B μ v Z':=by
 unfold WQ at h;split at h
 .rename_i g;obtain⟨x,p,h⟩:=aa.1 h;obtain⟨rfl,s⟩:=bc p;subst h;exact ac0 (.inl g) s u C A
 .rename_i g;obtain⟨x,p,h⟩:=aa.1 h;obtain⟨rfl,s⟩:=bc p;subst h;exact ac0 (.inr g) s u C A
 .rename_i g;split at h
  .rename_i p J U;obtain⟨rfl,s⟩:=bc p;obtain⟨rfl,L⟩:=bc J;obtain⟨rfl,V⟩:=bc U;cases h;exact aT1 g s L V u C A
  cases h
 .rename_i g;split at h
  .rename_i W;split at h
   .rename_i M;cases h;exact aT0 g W M u A
   cases h
  split at h
  .rename_i M;cases h;exact aD1 g M u A
  cases h
 .rename_i g;split at h
  .rename_i p;obtain⟨rfl,s⟩:=bc p;cases h;exact bl2 g s u C A
  cases h
 .rename_i g;split at h
  .rename_i H M;split at h
   .rename_i X;obtain⟨ps,hp,h⟩:=aa.1 h;subst h;exact MP g H M X hp u C A
   cases h
  .rename_i H M;split at h
   .rename_i F;obtain⟨ps,hp,h⟩:=aa.1 h;subst h;exact O8 g H F M hp u C A
   cases h
  cases h
 .rename_i g;split at h
  .rename_i H;split at h
   .rename_i F M;split at h
    .rename_i E;obtain⟨ps,hp,h⟩:=aa.1 h;subst h;exact Qx g H F M E.1 E.2.1 E.2.2 hp u C A
    cases h
   cases h
  cases h
 .injection h with h
  subst h;cases u
 .rename_i g;split at h
  .rename_i ht p;obtain⟨rfl,s⟩:=bc p;obtain⟨n,F,h⟩:=aa.1 h;subst h;exact aD5 g ht F s u C A
  .rename_i ht p;obtain⟨rfl,s⟩:=bc p;cases h;exact aS8 g ht s u C A
  cases h
 .rename_i g;split at h
  .rename_i F p J;obtain⟨rfl,s⟩:=bc p;obtain⟨rfl,L⟩:=bc J;cases h;exact aD7 g F s L u C A
  cases h
 .rename_i g;obtain⟨x,p,h⟩:=aa.1 h;obtain⟨rfl,s⟩:=bc p;subst h;exact VL g s u C A
 .rename_i g;exact aI3 g h u C A
 .rename_i g;obtain⟨x,p,h⟩:=aa.1 h;obtain⟨rfl,s⟩:=bc p;subst h;exact bt8 g s u C A
 .rename_i g;split at h
  .rename_i hs hd p;obtain⟨rfl,s⟩:=bc p;cases h;exact aS5 g hs hd s u C A
  .rename_i hs hd p;obtain⟨rfl,s⟩:=bc p;split at h
   .rename_i ht;cases h;exact aD8 g hs ht hd s u C A
   cases h
  cases h
 .rename_i g;split at h
  .rename_i h0 p;cases h;exact an6 g h0 p u C A
  cases h
 .rename_i g;split at h
  .rename_i H;split at h
   .rename_i F W M p J;obtain⟨rfl,s⟩:=bc p;obtain⟨rfl,L⟩:=bc J;split at h
    .rename_i E;cases h;exact TA g H F W M s L E.1 E.2 u C A
    cases h
   cases h
  cases h
 .rename_i g;split at h
  .rename_i H p J U;obtain⟨rfl,s⟩:=bc p;obtain⟨rfl,L⟩:=Au J;obtain⟨rfl,V⟩:=Au U;obtain⟨n,F,h⟩:=aa.1 h;subst h;exact aD6 g H F s L V u C A
  .rename_i H p J U;obtain⟨rfl,s⟩:=bc p;obtain⟨rfl,L⟩:=Au J;obtain⟨rfl,V⟩:=Au U;cases h;exact VN g H s L V u C A
  .rename_i H p J U;obtain⟨rfl,s⟩:=bc p;obtain⟨rfl,L⟩:=Au J;obtain⟨rfl,V⟩:=Au U;obtain⟨n,F,h⟩:=aa.1 h;subst h;exact VM g H F s L V u C A
  cases h
 .rename_i g;split at h
  .rename_i H p;obtain⟨rfl,s⟩:=bc p;split at h
   .rename_i hi;split at h
    .rename_i F;split at h
     .cases h
     rename_i h0;cases h;exact bl5 g H hi F h0 s u C A
    cases h
   cases h
  cases h
 .rename_i g;split at h
  .rename_i H p;obtain⟨rfl,s⟩:=bc p;split at h
   .rename_i hi;split at h
    .rename_i F W;cases h;exact an3 g H hi F W s u C A
    cases h
   cases h
  cases h
 .rename_i g;split at h
  .rename_i H p J;obtain⟨rfl,s⟩:=bc p;obtain⟨rfl,L⟩:=bc J;obtain⟨n,F,h⟩:=aa.1 h;subst h;exact bl3 g H F s L u C A
  .rename_i H p J;obtain⟨rfl,s⟩:=bc p;obtain⟨rfl,L⟩:=bc J;obtain⟨n,F,h⟩:=aa.1 h;subst h;exact aS7 g H F s L u C A
  cases h
 .rename_i g;split at h
  .rename_i H p J;obtain⟨rfl,s⟩:=bc p;obtain⟨rfl,L⟩:=bc J;split at h
   .rename_i F W;cases h;exact an5 g H F W s L u C A
   cases h
  .rename_i H p J;obtain⟨rfl,s⟩:=bc p;obtain⟨rfl,L⟩:=bc J;cases h;exact an4 g H s L u C A
  cases h
 .rename_i g;split at h
  .rename_i H p J U;obtain⟨rfl,s⟩:=bc p;obtain⟨rfl,L⟩:=bc J;obtain⟨rfl,V⟩:=bc U;split at h
   .rename_i F;cases h;obtain⟨n,F⟩:=eL.1 F;exact an7 g H F s L V u C A
   cases h
  cases h
 .rename_i g;obtain⟨x,p,h⟩:=aa.1 h;obtain⟨rfl,s⟩:=bc p;subst h;exact X1 g s u C A
 .rename_i g;exact ar6 g h hc u C A
 .injection h with h
  subst h;cases u
 .injection h with h
  subst h;cases u
 cases h
end
end
section
open Result renaming andThen_ok->aB
open Sem renaming run_bind->aD,run_pure->bB
open Go.RowKit
def Uf (ops:Array Oper):Option (Nat×Bool)->Option (Option<|Nat×Bool)
 |none=>O Y
 |some (j,g)=>match(ops[j]?).bind (·.dst)with
  |some t=>O (O (t,g))
  |none=>Y
def ay3 (N:Nat):Option Nat->Bool
 |none=>Za
 |some d=>d<N
def LB (P:Program)(N:Nat)(ops:Array Oper)(o:Oper):Option AOper:=match WQ P o,Uf ops o.guard with
 |some op,O g=>if ay3 N o.dst then O ⟨o.dst,op,g⟩else Y
 |_,_=>Y
def Kq (P:Program)(N:Nat)(ops:Array Oper):List Oper->Option (List AOper)
 |[]=>O []
 |o::r=>match LB P N ops o,Kq P N ops r with
  |some x,O l=>O (x::l)
  |_,_=>Y
def yw (P:Program)(f:FuncId):Prop:= ∃g,P.funcs[f]?=O g/\g.body.isSome=Za/\(g.name== "runtime.NumGoroutine")=Zb
def bq0 (P:Program)(B:Base P)(μ:Mu)(w:World)(K:Value->Hp->Prop):Ending->World->Prop:=λx w'=>
 ∃r Z' h g,x= .returned h/\K r Z'/\μ.le g/\R B g Z' w'/\VR g r h/\Below B w w'/\P=P
def Sim (P:Program)(f:FuncId)(S:SN):Prop:=
 ∀(B:Base P) μ Z w args (g:Array Value) K,S args Z K->R B μ Z w->F2 (VR μ) args g.toList->yw P f/\Calls P f g w (bq0 P B μ w K)
def Fc :Nat:=1000000
def Ac :AExit->Exit->Prop
 | .normal, .normal=>True
 | .exit i, .exit j=>i=j/\j<Fc
 | .exit i, .goto l=>i=Fc+2*l
 | .ret, .ret=>True
 |_,_=>False
def sD {P:Program}(B:Base P)(N:Nat)(μ:Mu)(w:World)(Q:AExit->cy->Hp->Prop):Exit->Act->World->Prop:=λx h w'=>
 ∃p e' Z' g,Ac p x/\Q p e' Z'/\μ.le g/\R B g Z' w'/\gq g N e' h.tmps/\h.defers=[]/\Below B w w'
section
variable {P:Program} {T:i7} {o:Oper} {a:Act} {w:World} {B:Base P} {N:Nat} {μ:Mu} {e:cy} {Z Z':Hp} {v:Value}
def sD.trans {s:Mu}{w':World}{Q:AExit->cy->Hp->Prop}(U:μ.le s)(M:Below B w w'){a':Act}{g:World}(h:sD B N s w' Q x a' g):sD B N μ w Q x a' g:=by
 have⟨u,e',Z',p,A,C,E,F,H,J,L⟩:=h;exact⟨u,e',Z',p,A,C,Mu.le_trans U E,F,H,J,M.trans L⟩
def RP {ops:Array Oper}{g:Option<|Nat×Bool}(p:Uf ops o.guard=O g)(H:gq μ N e a.tmps):Region.wanted o (yielded ops a.tmps)=wanted ⟨o.dst,op,g⟩ e:=by
 unfold Uf at p;unfold Region.wanted wanted;split at p
 .rename_i h;cases p;simp[h]
 rename_i j A h;split at p
 .rename_i t J;cases p;simp only[h];have E:=H.2 t;unfold yielded;rw[J,zG];by_cases s:t<a.tmps.size
  .have C:a.tmps[t]?=O (a.tmps.getD t undef):=by simp[s]
   rw[C];generalize a.tmps.getD t undef=u at*;generalize e t=L at*;cases E<;>simp
   try(rename_i b;cases b<;>cases A<;>rfl)
  have C:a.tmps[t]?=Y:=Array.getElem?_eq_none (Nat.le_of_not_lt s);have F:a.tmps.getD t undef=undef:=by simp[C]
  rw[F]at E;rw[C];generalize e t=u at*;cases E;simp
 cases p
def gq.putO (h:gq μ N e a.tmps){d:Option Nat}(g:ay3 N d=Za){v':Value}(p:VR μ v v'):gq μ N (e.putO d v) (a.put d v').tmps:=by
 cases d with
 |none=>exact h
 |some d=>exact h.put d (by simpa[ay3]using g) p
def wO (d:Option Nat)(v':Value):(a.put d v').defers=a.defers:=by cases d<;>rfl
def QX (h:yw P f)(args:Array Value)(w:World):(callFunc f args).run P w= .ok (.enter f args) w:=by
 have⟨g,p,s,u⟩:=h;have A:g.body.isNone=Zb:=by cases C:g.body<;>simp[C]at s⊢
 simp only[callFunc,aD,run_program,aB,p,u,A,Bool.false_eq_true,if_false,bB]
def VR.func_inv {f:Fn}{x y:Array Value}{v':Value}(h:VR μ (.func f x y) v'): ∃g p,v'= .func f g p/\F2 (VR μ) x.toList g.toList/\F2 (VR μ) y.toList p.toList:=by
 cases h with
 |func s u=>exact⟨_,_,rfl,s,u⟩
def ar8 (h:WQ P o=O (.call f args)): ∃c,o.op= .call c/\EU P c=O (.call f args):=by
 unfold WQ at h;split at h
 all_goals first
  |exact⟨_,‹_›,h⟩
  |(exfalso;revert h;unfold WO;(repeat' split)<;>simp)
  |(exfalso;revert h;(repeat' split)<;>simp)
def YH {f:Operand}(h:WQ P o=O (.callv f args)): ∃c,o.op= .call c/\EU P c=O (.callv f args):=by
 unfold WQ at h;split at h
 all_goals first
  |exact⟨_,‹_›,h⟩
  |(exfalso;revert h;unfold WO;(repeat' split)<;>simp)
  |(exfalso;revert h;(repeat' split)<;>simp)
theorem WP (h:EU P c=O (.call f args)):c.callee= .value (.func f)/\MR c.args.toList=O args:=by
 unfold EU at h;split at h
 .rename_i g
  simp_all
 all_goals (exfalso;revert h;(repeat' split)<;>simp)
def Ue {f:Operand}(h:EU P c=O (.callv f args)):c.callee= .value f/\dw f=Za/\MR c.args.toList=O args:=by
 unfold EU at h;split at h
 .exfalso;revert h;split<;>simp
 .rename_i p;simp at h;obtain⟨g,rfl⟩:=h;exact⟨p,rfl,g⟩
 all_goals (exfalso;revert h;(repeat' split)<;>simp)
def YW (A: ∀f,Sim P f<|T f){args:List Value}{cargs:Array Value}{k:Value->Hp->Prop}(F:T f args Z k)(u:R B μ Z w)(C:F2 (VR μ) args cargs.toList)
  (g:yw P f->(execOp a.eval o).run P w= .ok (.enter f cargs) w) {next:Act->World->Prop} {Q:Exit->Act->World->Prop}
  (E: ∀v Z' v' h w',k v Z'->μ.le h->R B h Z' w'->VR h v v'->Below B w w'->next (a.put o.dst v') w'):o.wp P a w next Q:=by
 have⟨p,s⟩:=A f B μ Z w args cargs k F u C;unfold Oper.wp;rw[g p];simp only[Oper.upon];refine s.mono λx w' H=> ?_
 obtain⟨r,Z',W,h,rfl,J,L,M,U,V,_⟩:=H;exact E r Z' W h w' J L M U V
theorem Ps (hT: ∀f,Sim P f<|T f)(h:WQ P o=O op){k:Value->Hp->Prop}(s:cj T op e Z k)(L:gq μ N e a.tmps)(U:R B μ Z w)
  {next:Act->World->Prop} {Q:Exit->Act->World->Prop}
  (M: ∀v Z' v' C w',k v Z'->μ.le C->R B C Z' w'->VR C v v'->Below B w w'->next (a.put o.dst v') w'):o.wp P a w next Q:=by
 by_cases W:op.isCall=Za
 .cases op<;>simp[AOp.isCall]at W
  case call f args=>
   have⟨c,X,E⟩:=ar8 h;have⟨F,A⟩:=WP E;have V:=JD L A;simp only[cj]at s;refine YW (cargs:=c.args.map a.eval) hT s U (by simpa using V) (λp=> ?_) M;simp only[execOp,X,resolve,F,aD,Act.eval,Deferred.ofValue,bB,aB,invoke];simp[QX p]
  case callv f args=>
   have⟨c,X,E⟩:=YH h;have⟨F,J,A⟩:=Ue E;have V:=JD L A;have hf:=L.ev J;simp only[cj]at s;split at s
   .rename_i g first u hg
    rw[hg]at hf;have⟨x',y',e1,e2,e3⟩:=hf.func_inv;refine YW (cargs:=x'++c.args.map a.eval++y') hT s U (by simpa using(e2.append V).append e3) (λp=> ?_) M;simp only[execOp,X,resolve,F,e1,aD,Deferred.ofValue,bB,aB,invoke];simp[QX p]
   .exact s.elim
 .have hr': ∃v Z',op.run e Z=O (v,Z')/\k v Z':=by
   unfold cj at s;cases op<;>simp[AOp.isCall]at W<;>simp only at s
   all_goals
    split at s
    .grind
    .exact s.elim
  have⟨v,Z',hv,H⟩:=hr';have⟨nx,w',C,v',E,F,A,J,h5,h6⟩:=aW5 h (by simpa using W) hv L U;unfold Oper.wp;rw[E];rcases F with rfl|⟨rfl,rfl⟩
  .exact M v Z' v' C w' H A J h5 h6
  .exact M v Z' undef C w' H A J h5 h6
def X3 (M: ∀f,Sim P f<|T f){ops:Array Oper}{Q:AExit->cy->Hp->Prop}{μ0:Mu}{w0:World}: ∀(l:List Oper) (al:List AOper) (e:cy) (Z:Hp) (μ:Mu) (a:Act) (w:World),Kq P N ops l=O al->BB T (Q .normal) al e Z->
  R B μ Z w->gq μ N e a.tmps->a.defers=[]->μ0.le μ->Below B w0 w->wpList P ops (sD B N μ0 w0 Q) l a w
 |[],al,e,Z,μ,a,w,h,A,H,E,J,s,p=>by
  simp[Kq]at h;subst h;exact⟨.normal,e,Z,μ,trivial,A,s,H,E,J,p⟩
 |o::l,al,e,Z,μ,a,w,h,A,H,E,J,s,p=>by
  simp only[Kq]at h;split at h
  .rename_i x r u V;cases h;unfold LB at u;split at u
   .rename_i op g h3 h4;split at u
    .rename_i W;cases u;have C:=RP (op:=op) h4 E;unfold wpList;simp only[BB]at A;rw[C];split
     .rename_i U;rw[zE U]at A;left;refine Ps M h3 A E H λv Z' v' μ' w' hk X L hv F=> ?_
      exact X3 M l r _ Z' μ' (a.put o.dst v') w' V hk L ((E.mono X).putO W hv) (by rw[wO];exact J) (Mu.le_trans s X) (p.trans F)
     .rename_i U;rw[zF U]at A;exact X3 M l r _ Z μ (a.put o.dst undef) w V A H (E.putO W<|VR.undef μ) (by rw[wO];exact J) s p
    .cases u
   .cases u
  .cases h
end
end
section
open List renaming map_congr_left->aB,mem_append->aD
open Go.RowKit
def nU :Operand->List Nat
 | .tmp t=>[t]
 |_=>[]
def aI1 :Option Operand->List Nat
 |some x=>nU x
 |none=>[]
def AOp.reads :AOp->List Nat
 | .move x| .box _ x| .load x| .loadN _ x| .nilCheck x| .un _ x| .conv _ x| .off _ x| .fieldV _ _ _ x| .extract x _| .len x| .capN x| .strOf x=>nU x
 | .pick c a b| .sliceX c a b=>nU c++nU a++nU b
 | .alloc _ _| .stuck| .newB=>[]
 | .build _ u| .buildSlice _ _ _ u=>u.flatMap λp=>nU p.2.2
 | .store _ a x=>nU a++nU x
 | .bin _ x y| .eqv _ _ x y| .eqCells _ _ x y| .idx _ x y| .idxA _ _ x y| .indexV _ _ _ x y| .indexS x y| .append _ _ x y| .appendZ _ _ _ x y| .copy _ x y| .most x y| .least x y| .makeSlice _ _ _ x y=>nU x++nU y
 | .mkFunc _ g A=>g.flatMap nU++A.flatMap nU
 | .slice _ x s h| .sliceStr x s h| .sliceArr _ _ x s h=>nU x++aI1 s++aI1 h
 | .call _ g=>g.flatMap nU
 | .callv f g=>nU f++g.flatMap nU
def bq {x:Operand}(h: ∀t∈nU x,e t=e' t):e.ev x=e'.ev x:=by
 cases x<;>first|rfl|exact h _ (by simp[nU])
def Ap {x:Option Operand}(h: ∀t∈aI1 x,e t=e' t):x.map e.ev=x.map e'.ev:=by
 cases x with
 |none=>rfl
 |some x=>simp only[Option.map_some];rw[bq h]
def Hi {xs:List Operand}(h: ∀t∈xs.flatMap nU,e t=e' t):xs.map e.ev=xs.map e'.ev:=by
 apply aB;intro x p;exact bq λt g=>h t<|dl.2 ⟨x,p,g⟩
def QZ {g:List<|Nat×Nat×Operand}(h: ∀t∈g.flatMap (λp=>nU p.2.2),e t=e' t):(g.map λ(o,s,x)=>(o,s,e.ev x))=g.map λ(o,s,x)=>(o,s,e'.ev x):=by
 apply aB;rintro⟨o,s,x⟩ A;simp only;rw[bq λt u=>h t<|dl.2 ⟨_,A,u⟩]
def DA (h: ∀t∈op.reads,e t=e' t):op.run e Z=op.run e' Z:=by
 cases op<;>simp only[AOp.reads,aD]at h<;>simp only[AOp.run]
 case move x=>rw[bq h]
 case pick c a b=>rw[bq λt g=>h t<|.inl<|.inl g,bq λt g=>h t<|.inl<|.inr g,bq λt g=>h t<|.inr g]
 case box es x=>rw[bq h]
 case build z ps=>rw[QZ h]
 case buildSlice es ln z ps=>rw[QZ h]
 case load x=>rw[bq h]
 case loadN n x=>rw[bq h]
 case store n a x=>rw[bq λt g=>h t<|.inl g,bq λt g=>h t<|.inr g]
 case nilCheck x=>rw[bq h]
 case bin op x y=>rw[bq λt g=>h t<|.inl g,bq λt g=>h t<|.inr g]
 case eqv kd neg x y=>rw[bq λt g=>h t<|.inl g,bq λt g=>h t<|.inr g]
 case eqCells neg ks x y=>rw[bq λt g=>h t<|.inl g,bq λt g=>h t<|.inr g]
 case un op x=>rw[bq h]
 case conv k x=>rw[bq h]
 case mkFunc f xs cs=>rw[Hi λt g=>h t<|.inl g,Hi λt g=>h t<|.inr g]
 case makeSlice es by_ z l c=>rw[bq λt g=>h t<|.inl g,bq λt g=>h t<|.inr g]
 case slice es x lo hi=>rw[bq λt g=>h t<|.inl<|.inl g,Ap λt g=>h t<|.inl<|.inr g,Ap λt g=>h t<|.inr g]
 case sliceStr x lo hi=>rw[bq λt g=>h t<|.inl<|.inl g,Ap λt g=>h t<|.inl<|.inr g,Ap λt g=>h t<|.inr g]
 case sliceArr es n x lo hi=>rw[bq λt g=>h t<|.inl<|.inl g,Ap λt g=>h t<|.inl<|.inr g,Ap λt g=>h t<|.inr g]
 case off n x=>rw[bq h]
 case idx es x i=>rw[bq λt g=>h t<|.inl g,bq λt g=>h t<|.inr g]
 case idxA ln es x i=>rw[bq λt g=>h t<|.inl g,bq λt g=>h t<|.inr g]
 case fieldV fo n agg x=>rw[bq h]
 case indexV ln es agg x i=>rw[bq λt g=>h t<|.inl g,bq λt g=>h t<|.inr g]
 case indexS x i=>rw[bq λt g=>h t<|.inl g,bq λt g=>h t<|.inr g]
 case extract x i=>rw[bq h]
 case append es by_ s x=>rw[bq λt g=>h t<|.inl g,bq λt g=>h t<|.inr g]
 case appendZ es by_ z s x=>rw[bq λt g=>h t<|.inl g,bq λt g=>h t<|.inr g]
 case copy es d s=>rw[bq λt g=>h t<|.inl g,bq λt g=>h t<|.inr g]
 case len x=>rw[bq h]
 case capN x=>rw[bq h]
 case strOf x=>rw[bq h]
 case sliceX c a b=>rw[bq λt g=>h t<|.inl<|.inl g,bq λt g=>h t<|.inl<|.inr g,bq λt g=>h t<|.inr g]
 case most x y=>rw[bq λt g=>h t<|.inl g,bq λt g=>h t<|.inr g]
 case least x y=>rw[bq λt g=>h t<|.inl g,bq λt g=>h t<|.inr g]
def Wu {T:i7}{k:Value->Hp->Prop}(h: ∀t∈op.reads,e t=e' t)(g:cj T op e Z k):cj T op e' Z k:=by
 by_cases s:op.isCall=Za
 .cases op<;>simp[AOp.isCall]at s
  case call f xs=>
   simp only[cj,AOp.reads]at*;rw[<-Hi h];exact g
  case callv f xs=>
   simp only[cj,AOp.reads,aD]at*;rw[<-Hi λt p=>h t<|.inr p,<-bq λt p=>h t<|.inl p];exact g
 unfold cj at*;cases op<;>simp[AOp.isCall]at s<;>simp only at g⊢ <;>rw[<-DA h]<;>exact g
def AOper.looks (o:AOper):List Nat:=o.op.reads++(match o.guard with|some (t,_)=>[t]|none=>[])
theorem EW {o:AOper}(h: ∀t∈o.looks,e t=e' t):wanted o e=wanted o e':=by
 unfold wanted;unfold AOper.looks at h
 grind
def wS {Z':Hp}(g:op.still=Za)(h:op.run e Z=O (v,Z')):Z'=Z:=by
 cases op<;>simp[AOp.still]at g<;>simp only[AOp.run]at h
 all_goals
  revert h
  repeat' split
  all_goals first
   |(intro h;cases h;done)
   |(intro h;simp only[hO,hU]at h;exact h.2.symm)
   |(intro h;obtain⟨_,_,h⟩:=aa.1 h;simp only[hU]at h;exact h.2.symm)
theorem RH (p:op.still=Za)(g:op.isLoad=Zb)(h:op.run e Z=O (v,Z))(Z':Hp):op.run e Z'=O (v,Z'):=by
 cases op<;>simp[AOp.still]at p
 case slice es x lo hi=>
  cases lo with
  |some _=>simp[AOp.isLoad]at g
  |none=>
   simp only[AOp.run,EE,Bool.or_true,if_true]at h⊢;revert h
   repeat' split
   all_goals first
    |(intro h;cases h;done)
    |(intro h;simp only[hO,hU]at h⊢;exact⟨h.1,trivial⟩)
    |simp_all
 all_goals first
  |(simp[AOp.isLoad]at g;done)
  |(simp only[AOp.run]at h⊢
    revert h
    repeat' split
    all_goals first
     |(intro h;cases h;done)
     |(intro h;simp only[hO,hU]at h⊢;exact⟨h.1,trivial⟩)
     |(intro h;obtain⟨u,s,h⟩:=aa.1 h;simp only[hU]at h;rw[s];simp[h.1]))
end
section
open Bool renaming and_eq_true->bD
open List renaming mem_cons_of_mem->aB,range->aD,mem_cons_self->bB,find?_some->cB
open Go.RowKit
theorem al8 {g:Array Bool}(h:g.getD i Za=Zb):g.getD i Zb=Zb:=by
 grind
def aP3 {g:Array Bool}(p:i<g.size)(h:g.getD i Zb=Zb):g.getD i Za=Zb:=by
 simp[p]at h⊢;exact h
abbrev DL :=List<|AOper×List Nat
def pA (al:DL)(i:Nat):Option Nat:=(al[i]?).bind (·.1.dst)
def Hu (al:DL)(i:Nat):List Nat:=match al[i]? with
 |some (o,_)=>o.looks
 |none=>[]
def Ex (al:DL):Bool:=
 (aD<|hW al).all λi=>
  (iD al i).all (λq=>Zc<|q<i)&&
  (match pA al i with
   |none=>Za
   |some t=>(aD<|hW al).all λj=>i==j||((pA al j !=O t)&&(!(Hu al j).contains t||vx al i j||vx al j i)))
section
variable {al:DL}
theorem Vb (h:Ex al=Za){q:Nat}(g:i<hW al)(p:q∈iD al i):q<i:=by
 have:=bo.1 h i (cJ.2 g)
 grind
theorem Dl (h:pA al i=O t):i<hW al:=by
 unfold pA at h
 grind
theorem XA (h:Ex al=Za)(g:pA al i=O t)(p:pA al j=O t):i=j:=by
 have:=bo.1 h i<|cJ.2<|Dl g;simp only[bD,g]at this;have:=bo.1 this.2 j (cJ.2<|Dl p)
 grind
theorem Xz (h:Ex al=Za)(g:pA al i=O t)(p:j<hW al)(u:t∈Hu al j)(s:i≠j):vx al i j=Za∨vx al j i=Za:=by
 have:=bo.1 h i (cJ.2<|Dl g)
 grind
def Cj (al:DL)(D:List Nat):Prop:= ∀i∈D,∀q∈iD al i,q∈D
theorem XR {acc g:List Nat}{p:Nat}(h:(Lg acc g).testBit p=Za): ∃q∈g,q=p∨(acc.getD q 0).testBit p=Za:=by
 have s: ∀(g:List Nat) (m:Nat),(g.foldl (λm q=>m|||2 ^ q|||acc.getD q 0) m).testBit p=Za->m.testBit p=Za∨∃q∈g,q=p∨(acc.getD q 0).testBit p=Za:=by
  intro g;induction g with
  |nil=>intro m h;exact .inl h
  |cons q g u=>
   intro m h;rcases u _ h with h1|⟨C,h1,A⟩
   .simp only[Nat.testBit_or,Nat.testBit_two_pow,Bool.or_eq_true,decide_eq_true_eq]at h1
    grind
   grind
 rcases s g 0 h with h1|h1
 .simp at h1
 exact h1
theorem O1 {s:DL}: ∀(r pre:DL) (g:List Nat),pre++r=s->hW g=hW pre->
  (∀j p,(g.getD j 0).testBit p=Za->∃q∈iD s j,q=p∨(q<j/\(g.getD q 0).testBit p=Za))->
  ∀j p,((VC g r).getD j 0).testBit p=Za->∃q∈iD s j,q=p∨(q<j/\((VC g r).getD q 0).testBit p=Za)
 |[],pre,g,_,_,h=>h
 |(o,u)::r,pre,g,H,J,h=>by
  simp only[VC];refine O1 r (pre++[(o,u)]) (g++[Lg g u]) (by rw[List.append_assoc];exact H) (by simp[J]) λj p C=> ?_
  have L:iD s (hW g)=u:=by
   unfold iD
   grind
  have A: ∀q,q<hW g->(g++[Lg g u]).getD q 0=g.getD q 0:=by
   grind
  by_cases E:j<hW g
  .rw[A j E]at C
   grind
  .by_cases F:j=hW g
   .subst F;have:(g++[Lg g u]).getD (hW g) 0=Lg g u:=by simp
    rw[this]at C;have⟨q,M,U⟩:=XR C
    grind
   grind
def ah7 {p:Nat}(h:vx al p j=Za): ∃q∈iD al j,q=p∨(q<j/\vx al p q=Za):=
 O1 al [] [] rfl rfl (λj p h=>by simp at h) j p h
def Cj.bef (h:Cj al D): ∀(p j:Nat),vx al p j=Za->(∀q∈iD al j,q∈D)->p∈D:=by
 intro p j;induction j using Nat.strongRecOn with
 |_ j C=>
  intro g u;obtain⟨q,A,rfl|⟨s,g⟩⟩:=ah7 g
  .exact u q A
  exact C q s g<|h q<|u q A
def iV (al:DL)(e0:cy)(g:Nat->Value)(D:List Nat):cy:=λt=>match D.find? (λi=>pA al i==O t)with
 |some i=>g i
 |none=>e0 t
theorem sI {g:Nat->Value}(h:Ex al=Za)(u:i∈D)(p:pA al i=O t):iV al e0 g D t=g i:=by
 unfold iV;cases s:D.find? (λi=>pA al i==O t)with
 |none=>
  grind
 |some j=>
  have:=cB s;simp only[beq_iff_eq]at this;rw[XA h this p]
theorem pL {g:Nat->Value}(h: ∀i∈D,pA al i≠O t):iV al e0 g D t=e0 t:=by
 unfold iV
 grind
theorem Bf {s:Nat->Value}(h:Ex al=Za)(i:Nat)(E:i∉D):iV al e0 s (i::D)=(iV al e0 s D).putO (pA al i) (s i):=by
 funext t
 cases C:pA al i with
 |none=>
  simp only[cy.putO];by_cases u: ∃j∈D,pA al j=O t
  .obtain⟨j,p,g⟩:=u;rw[sI h (aB _ p) g,sI h p g]
  rw[pL<|λj p g=>u ⟨j,p,g⟩];refine pL λj p g=> ?_
  grind
 |some d=>
  simp only[cy.putO,cy.put];split
  .rename_i A;subst A;exact sI h (bB ..) C
  rename_i A;by_cases u: ∃j∈D,pA al j=O t
  .obtain⟨j,p,g⟩:=u;rw[sI h (aB _ p) g,sI h p g]
  rw[pL<|λj p g=>u ⟨j,p,g⟩];refine pL λj p g=> ?_
  grind
def GL (al:DL)(e0:cy)(g:Nat->Value)(j:Nat):cy:=λt=>match(aD<|hW al).find? (λi=>pA al i==O t&&vx al i j)with
 |some i=>g i
 |none=>e0 t
def TU {p:Nat->Value}(h:Ex al=Za)(s:Cj al D)(u:j<hW al)(H:j∉D)(J: ∀q∈iD al j,q∈D)(L:t∈Hu al j):
  iV al e0 p D t=GL al e0 p j t:=by
 unfold GL;cases E:(aD<|hW al).find? (λi=>pA al i==O t&&vx al i j)with
 |some i=>
  have:=cB E;simp only[bD,beq_iff_eq]at this;exact sI h (s.bef _ _ this.2 J) this.1
 |none=>
  refine pL λi F g=> ?_
  have C:=List.find?_eq_none.1 E i (cJ.2<|Dl g);simp only[g,beq_self_eq_true,Bool.true_and]at C;have A:i≠j:=λe=>H (e▸F)
  rcases Xz h g u L A with hb|hb
  .exact C hb
  .exact H (s.bef _ _ hb<|s i F)
def aG3 {h g:Nat->Value}(p:Cj al D)(u:j∈D)(A: ∀i∈D,g i=h i):GL al e0 g j=GL al e0 h j:=by
 funext t
 unfold GL;cases s:(aD<|hW al).find? (λi=>pA al i==O t&&vx al i j)with
 |none=>rfl
 |some i=>
  have:=cB s;simp only[bD,beq_iff_eq]at this;exact A i<|p.bef _ _ this.2<|p j u
theorem Hh {h g:Nat->Value}(p: ∀i∈D,g i=h i):iV al e0 g D=iV al e0 h D:=by
 funext t
 unfold iV
 grind
def left (n:Nat)(D:List Nat):Nat:=hW<|(aD n).filter λi=> !D.contains i
theorem Lc {n:Nat}(h:i<n)(g:i∉D):left n (i::D)<left n D:=by
 unfold left
 have:(aD n).filter (λj=> !(i::D).contains j)=((aD n).filter λj=> !D.contains j).filter λj=>j !=i:=by
  rw[List.filter_filter]
  grind
 rw[this];refine List.length_filter_lt_length_iff_exists.2 ⟨i, ?_,V2⟩;simp[h,g]
theorem Ld {n:Nat}(h:left n D=0)(g:i<n):i∈D:=by
 unfold left at h
 simp_all
def aA9 {n:Nat}(p:i<n)(g:i∉D):0<left n D:=by
 rcases Nat.eq_zero_or_pos (left n D)with h|h
 .exact absurd (Ld h p) g
 exact h
end
section
variable {P:Program} {T:i7} {al:DL} {ops:Array Oper} {B:Base P} {N:Nat}
structure Fits (P:Program)(N:Nat)(ops:Array Oper)(al:DL):Prop where
 len:ops.size=hW al
 op: ∀(i:Nat) o,ops[i]?=O o->∃x,al[i]?=O (x,iD al i)/\LB P N ops o=O x
 pred: ∀(i:Nat) o,ops[i]?=O o->∀q,q∈iD al i↔∃e∈o.after,Region.binds .any e=Za/\e.on=q
def LS (al:DL)(e0:cy)(g:Nat->Value)(Z:Hp)(chk:List<|Nat×(Hp->Prop))(j:Nat):Prop:=
 ∃x p,al[j]?=O (x,p)/\x.op.still=Za/\
  ((wanted x (GL al e0 g j)=Za/\x.op.run (GL al e0 g j) Z=O (g j,Z)/\
   (x.op.isLoad=Za->∃c,(j,c)∈chk/\∀Z',c Z'->x.op.run (GL al e0 g j) Z'=O (g j,Z')))∨
   (wanted x (GL al e0 g j)=Zb/\g j=undef))
structure Inv (al:DL)(e0:cy)(val:Nat->Value)(Z:Hp)(chk:List<|Nat×(Hp->Prop))(D L:List Nat):Prop where
 dc:Cj al D
 lc:Cj al L
 sub: ∀i∈L,i∈D
 lt: ∀i∈D,i<hW al
 tells: ∀j∈D,j∉L->LS al e0 val Z chk j
theorem IF {D:List Nat}{i:Nat}:TI al D i=Za↔i∉D/\∀q∈iD al i,q∈D:=by
 unfold TI
 grind
theorem Bp {D:List Nat}{i:Nat}(h:eZ al D=O i):i<hW al/\i∉D/\(∀q∈iD al i,q∈D)/\ES al i=Za:=by
 unfold eZ at h;have g:=cB h;have p:=List.mem_of_find?_eq_some h;simp only[bD]at g;have⟨s,u⟩:=IF.1 g.1
 grind
def O4 {D:List Nat}(h:eZ al D=Y){i:Nat}(s:i<hW al)(g:i∉D)(p: ∀q∈iD al i,q∈D):ES al i=Zb:=by
 unfold eZ at h;have:=List.find?_eq_none.1 h i (cJ.2 s);simp only[IF.2 ⟨g,p⟩,Bool.true_and]at this;simpa using this
def Bm {D:List Nat}{i:Nat}:i∈bw al D↔i<hW al/\i∉D/\(∀q∈iD al i,q∈D)/\ES al i=Zb:=by
 unfold bw;simp only[List.mem_filter,List.mem_range,bD,Bool.not_eq_true',IF,and_assoc]
def UP {f:Nat->Prop}: ∀{l:List Nat},NX f l->∀m∈l,f m
 |[],_,m,hm=>by cases hm
 |[x],h,m,hm=>by simp at hm;subst hm;exact h
 |x::y::r,h,m,hm=>by
  rcases aw.1 hm with rfl|hm
  .exact h.1
  .exact UP h.2 m hm
def upd (g:Nat->Value)(i:Nat)(v:Value):Nat->Value:=λk=>if k=i then v else g k
def LS.upd {g:Nat->Value}{chk:List<|Nat×(Hp->Prop)}{D:List Nat}{i j:Nat}(F:Cj al D)(s:j∈D)(H:i∉D)(h:LS al e0 g Z chk j):LS al e0 (upd g i v) Z chk j:=by
 have⟨x,p,A,C,E⟩:=h;have u: ∀k∈D,Ab.upd g i v k=g k:=λk J=>zF λ(e:k=i)=>H (e▸J)
 have L:=aG3 (e0:=e0) F s u;refine⟨x,p,A,C, ?_⟩;rw[L,u j s];exact E
theorem LS.more {s:Nat->Value}{chk g:List<|Nat×(Hp->Prop)}{j:Nat}(h:LS al e0 s Z chk j)(H: ∀c∈chk,c∈g):LS al e0 s Z g j:=by
 have⟨x,p,u,A,C⟩:=h;refine⟨x,p,u,A,C.imp (λ⟨E,F,L⟩=>⟨E,F,λJ=> ?_⟩) id⟩
 grind
def SU {Q:cy->Hp->Prop}(X:Ex al=Za){e0:cy}{Z:Hp}{L:List Nat}: ∀(f:Nat) (s:Nat->Value) (D:List Nat) (chk:List<|Nat×(Hp->Prop)) (e:cy),EX T Q al f D chk e Z->left (hW al) D<=f->e=iV al e0 s D->
  Inv al e0 s Z chk D L->∃V u D' g,EX T Q al V D' g (iV al e0 u D') Z/\left (hW al) D'<=V/\Inv al e0 u Z g D' L/\eZ al D'=Y/\(∀i∈D,u i=s i)/\∀i∈D,i∈D'
 |0,s,D,chk,e,h,hf,he,F=>by
  have hall: ∀i,i<hW al->i∈D:=λi hi=>Ld V1 hi
  refine⟨0,s,D,chk,by rw[<-he];exact h,hf,F, ?_,λ_ _=>rfl,λ_ hi=>hi⟩;cases hn:eZ al D with
  |none=>rfl
  |some i=>exact absurd (hall i (Bp hn).1) (Bp hn).2.1
 |f+1,s,D,chk,e,h,hf,he,F=>by
  cases hn:eZ al D with
  |none=>exact⟨f+1,s,D,chk,by rw[<-he];exact h,hf,F,hn,λ_ _=>rfl,λ_ hi=>hi⟩
  |some i=>
   have⟨h1,h2,h3,h4⟩:=Bp hn;simp only[EX,hn]at h;split at h
   .rename_i x p hx;have hst:x.op.still=Za:=by simpa[ES,hx]using h4
    have E: ∀t∈x.looks,e t=GL al e0 s i t:=by
     intro t ht;rw[he];exact TU X F.dc h1 h2 h3 Zw
    have hdst:pA al i=x.dst:=by simp[pA,hx]
    have W:left (hW al) (i::D)<=f:=by have:=Lc h1 h2;omega
    have hDc:Cj al<|i::D:=by
     intro k hk q hq;rcases aw.1 hk with rfl|hk
     .exact aB _ (h3 q hq)
     .exact aB _ (F.dc k hk q hq)
    have M: ∀(v:Value) (g:List<|Nat×(Hp->Prop)),EX T Q al f (i::D) g (e.putO x.dst v) Z->(∀c∈chk,c∈g)->LS al e0 (upd s i v) Z g i->
      ∃V u D' g,EX T Q al V D' g (iV al e0 u D') Z/\left (hW al) D'<=V/\Inv al e0 u Z g D' L/\eZ al D'=Y/\(∀i∈D,u i=s i)/\∀i∈D,i∈D':=by
     intro v g hw hc ht;have J: ∀k∈D,upd s i v k=s k:=λk hk=>zF λ(e:k=i)=>h2 (e▸hk)
     have henv:e.putO x.dst v=iV al e0 (upd s i v) (i::D):=by
      rw[Bf X i h2,Hh J,hdst,<-he]
      congr 1
      exact(zE rfl).symm
     have⟨V,u,D',U,g1,g2,g3,g4,g5,g6⟩:=SU X f (upd s i v) (i::D) g _ hw W henv ⟨hDc,F.lc,λk hk=>aB _<|F.sub k hk,λk hk=>(aw.1 hk).elim (λe=>e▸h1)<|F.lt k,λj hj hjL=>by
      rcases aw.1 hj with rfl|hj
      .exact ht
      .exact((F.tells j hj hjL).upd F.dc hj h2).more hc⟩
     exact⟨V,u,D',U,g1,g2,g3,g4,λk hk=>(g5 k<|aB _ hk).trans<|J k hk,λk hk=>g6 k<|aB _ hk⟩
    have A: ∀v,GL al e0 (upd s i v) i=GL al e0 s i:=by
     intro v
     funext t
     unfold GL;cases hf':(aD<|hW al).find? (λk=>pA al k==O t&&vx al k i)with
     |none=>rfl
     |some k=>
      have:=cB hf';simp only[bD,beq_iff_eq]at this;exact zF λ(e:k=i)=>h2 (e▸F.dc.bef _ _ this.2 h3)
    have hw0:=EW E;have hr0: ∀Z',x.op.run e Z'=x.op.run (GL al e0 s i) Z':=λZ'=>DA λt ht=>E t Zx
    split at h
    .rename_i C;split at h
     .rename_i v Z1 H;obtain rfl:=wS hst H;refine M v _ h (λc hc=>by split<;>simp[hc]) ⟨x,p,hx,hst, .inl ⟨by rw[A,<-hw0];exact C,by rw[A,<-hr0,H];congr 2;exact(zE rfl).symm,λhl=> ?_⟩⟩;refine⟨_,by rw[zE hl];exact bB ..,λZ' hZ'=> ?_⟩;rw[A,<-hr0,hZ']
      congr 2
      exact(zE rfl).symm
     .exact h.elim
    .rename_i C;exact M undef chk h (λc hc=>hc) ⟨x,p,hx,hst, .inr ⟨by rw[A,<-hw0];simpa using C,zE rfl⟩⟩
   .exact h.elim
theorem Ht {m:Nat}{Z:Hp}: ∀{chk:List<|Nat×(Hp->Prop)},Dr al m Z chk->∀j c,(j,c)∈chk->vx al j m=Zb->c Z
 |[],_,j,c,h,_=>by cases h
 |(i,d)::r,g,j,c,h,p=>by
  simp only[Dr]at g;rcases aw.1 h with h|h
  .injection h with s u
   grind
  .split at g
   .exact Ht g j c h p
   .exact Ht g.2 j c h p
theorem Fits.ready (s:Fits P N ops al){g:Array Bool}{L:List Nat}(X:g.size=ops.size)(W: ∀i,i<ops.size->(g.getD i Zb=Za↔i∈L))(U: ∀i∈L,i<ops.size){i:Nat}:
  i∈Region.ready .any ops g↔i<hW al/\i∉L/\∀q∈iD al i,q∈L:=by
 have F: ∀k,g.getD k Zb=Za↔k∈L:=by
  grind
 rw[mem_ready];constructor
 .rintro⟨A,o,C,E⟩;have u:i<ops.size:=(Array.getElem?_eq_some_iff.1 C).1;refine⟨s.len▸u,λh=> ?_,λq V=> ?_⟩
  .have p:=(F i).2 h;rw[al8 A]at p;cases p
  .obtain⟨e,p,H,rfl⟩:=(s.pred i o C q).1 V;exact(F _).1 (E e p H)
 .rintro⟨A,C,E⟩;have u:i<ops.size:=s.len▸A;refine⟨aP3 V1 ?_,ops[i],Array.getElem?_eq_getElem u,λe M J=>(F _).2<|E _<|(s.pred i _ (Array.getElem?_eq_getElem u) _).2 ⟨e,M,J,rfl⟩⟩
  grind
def aO0 (hT: ∀f,Sim P f<|T f)(hF:Fits P N ops al)(E:Ex al=Za){Q:AExit->cy->Hp->Prop}{μ0:Mu}{w0:World}: ∀(V:Nat) (f:Nat) (X:Nat->Value) (D L:List Nat) (chk:List<|Nat×(Hp->Prop)) (u:Array Bool) (Z:Hp) (μ:Mu) (a:Act) (w:World),
  EX T (Q .normal) al f D chk (iV al e0 X D) Z->left (hW al) D<=f->left (hW al) L<=V->Inv al e0 X Z chk D L->u.size=ops.size->(∀i,i<ops.size->(u.getD i Zb=Za↔i∈L))->
  R B μ Z w->gq μ N (iV al e0 X L) a.tmps->a.defers=[]->μ0.le μ->Below B w0 w->wpAny P .any ops (sD B N μ0 w0 Q) V u a w:=by
 intro V;induction V with
 |zero=>
  intro f X D L chk u Z μ a w h hf hfu hI hs hL hR he hd hμ hb;have hall: ∀i,i<hW al->i∈L:=λi hi=>Ld V1 hi
  have hlt: ∀i∈L,i<ops.size:=λi hi=>by rw[hF.len];exact hI.lt i (hI.sub i hi)
  have hnil:Region.ready .any ops u=[]:=by
   cases hr:Region.ready .any ops u with
   |nil=>rfl
   |cons i r=>
    have:=(hF.ready hs hL hlt (i:=i)).1 (by rw[hr];exact bB ..);exact absurd (hall i this.1) this.2.1
  refine⟨hnil, ?_⟩;have⟨f',s,D',C,g1,g2,F,g4,g5,g6⟩:=SU (Q:=Q .normal) E f X D chk _ h hf rfl hI
  have hq:Q .normal (iV al e0 s D') Z:=by
   have hmv:bw al D'=[]:=by
    cases hm:bw al D' with
    |nil=>rfl
    |cons i r=>
     have:=Bm.1 (show i∈bw al D' by rw[hm];exact bB ..);exact absurd (g6 i<|hI.sub i<|hall i this.1) this.2.1
   cases f' with
   |zero=>exact g1
   |succ f'=>simp only[EX,g4,hmv]at g1;exact g1
  have henv:iV al e0 s D'=iV al e0 X L:=by
   funext t
   by_cases hx: ∃j,j<hW al/\pA al j=O t
   .obtain⟨j,U,A⟩:=hx;rw[sI E (g6 j<|hI.sub j<|hall j U) A,sI E (hall j U) A,g5 j<|hI.sub j<|hall j U]
   .rw[pL (λj _ A=>hx ⟨j,Dl A,A⟩),pL<|λj _ A=>hx ⟨j,Dl A,A⟩]
  rw[henv]at hq;exact⟨.normal,_,Z,μ,trivial,hq,hμ,hR,he,hd,hb⟩
 |succ V ih=>
  intro f X D L chk u Z μ a w h hf hfu hI hs hL hR he hd hμ hb;have hlt: ∀i∈L,i<ops.size:=λi hi=>by rw[hF.len];exact hI.lt i (hI.sub i hi)
  have⟨f',s,D',C,g1,g2,F,g4,g5,g6⟩:=SU (Q:=Q .normal) E f X D chk _ h hf rfl hI;have hvL: ∀i∈L,s i=X i:=λi hi=>g5 i (hI.sub i hi)
  have he':gq μ N (iV al e0 s L) a.tmps:=by rw[Hh hvL];exact he
  have hL': ∀i,i<ops.size->∀(hi:i∉L),(∀k,k<ops.size->((u.setIfInBounds i Za).getD k Zb=Za↔k∈i::L)):=by
   intro i hi hiL k hk;by_cases e:k=i
   .subst e;simp[hs,hk]
   .rw[getD_set_ne Zb (λe'=>e e'.symm),hL k hk];simp[e]
  have hLc: ∀i,(∀q∈iD al i,q∈L)->Cj al (i::L):=by
   intro i hp k hk q hq;rcases aw.1 hk with rfl|hk
   .exact aB _ (hp q hq)
   .exact aB _ (hI.lc k hk q hq)
  refine⟨λhnil=> ?_,λi hi=> ?_⟩
  .
   have hDL: ∀j∈D',j∈L:=by
    intro j;induction j using Nat.strongRecOn with
    |_ j ihj=>
     intro U;by_cases M:j∈L
     .exact M
     .exfalso;have hr:=(hF.ready hs hL hlt (i:=j)).2 ⟨F.lt j U,M,λq hq=>ihj q (Vb E (F.lt j U) hq)<|F.dc j U q hq⟩;rw[hnil]at hr;cases hr
   have hq:Q .normal (iV al e0 s D') Z:=by
    have hmv:bw al D'=[]:=by
     cases hm:bw al D' with
     |nil=>rfl
     |cons i r=>
      exfalso;have:=Bm.1 (show i∈bw al D' by rw[hm];exact bB ..);have hr:=(hF.ready hs hL hlt (i:=i)).2 ⟨this.1,λh=>this.2.1<|F.sub i h,λq hq=>hDL q<|this.2.2.1 q hq⟩;rw[hnil]at hr;cases hr
    cases f' with
    |zero=>exact g1
    |succ f'=>simp only[EX,g4,hmv]at g1;exact g1
   have henv:iV al e0 s D'=iV al e0 s L:=by
    funext t
    by_cases hx: ∃j∈L,pA al j=O t
    .obtain⟨j,U,A⟩:=hx;rw[sI E (F.sub j U) A,sI E U A]
    .rw[pL (λj U A=>hx ⟨j,hDL j U,A⟩),pL<|λj U A=>hx ⟨j,U,A⟩]
   rw[henv]at hq;exact⟨.normal,_,Z,μ,trivial,hq,hμ,hR,he',hd,hb⟩
  .
   have⟨k1,k2,k3⟩:=(hF.ready hs hL hlt).1 hi;have hio:i<ops.size:=hF.len▸k1;have hoi:ops[i]?=O ops[i]:=Array.getElem?_eq_getElem hio;have⟨x,hx,htr⟩:=hF.op i _ hoi;have hfu':left (hW al) (i::L)<=V:=by have:=Lc k1 k2;omega
   have hs':(u.setIfInBounds i Za).size=ops.size:=by simpa using hs
   have hdst:pA al i=x.dst:=by simp[pA,hx]
   unfold LB at htr;split at htr
   case h_2=>cases htr
   rename_i op g t1 t2;split at htr
   case isFalse=>cases htr
   rename_i t3;cases htr
   have W: ∀t∈(⟨ops[i].dst,op,g⟩:AOper).looks,iV al e0 s L t=GL al e0 s i t:=by
    intro t ht;exact TU E F.lc k1 k2 k3 Zw
   have hwant:=RP (op:=op) t2 he';rw[EW W]at hwant;unfold wpOp;rw[hoi];simp only;rw[hwant];by_cases J:i∈D'
   .
    have⟨x',p,y1,y2,y3⟩:=F.tells i J k2;rw[hx]at y1;injection y1 with y1
    injection y1 with y1 _
    subst y1
    have hInv': ∀(μ':Mu) (w':World),Inv al e0 s Z C D'<|i::L:=λμ' w'=>
     ⟨F.dc,hLc i k3,λk hk=>(aw.1 hk).elim (λe=>e▸J)<|F.sub k,F.lt,λj U M=>F.tells j U λh=>M<|aB _ h⟩
    rcases y3 with⟨y4,y5,_⟩|⟨y4,y5⟩
    .rw[y4,zE rfl];left
     have hrun:cj T op (iV al e0 s L) Z λv Z'=>v=s i/\Z'=Z:=by
      have:op.run (iV al e0 s L) Z=O (s i,Z):=by
       rw[DA (e':=GL al e0 s i) λt ht=>W t Zx];exact y5
      unfold cj;cases op<;>simp[AOp.still]at y2<;>simp only[this]<;>exact⟨trivial,trivial⟩
     refine Ps hT t1 hrun he' hR λv Z' v' μ' w' hk hμ' hR' hv hbel=> ?_
     obtain⟨rfl,rfl⟩:=hk;refine ih f' s D' (i::L) C _ Z' μ' _ w' g1 g2 hfu' (hInv' μ' w') hs' (hL' i hio k2) hR' ?_ Zq (Mu.le_trans hμ hμ') (hb.trans hbel);rw[Bf E i k2,hdst];exact(he'.mono hμ').putO t3 hv
    .rw[y4];simp only[Bool.false_eq_true,if_false];refine ih f' s D' (i::L) C _ Z μ _ w g1 g2 hfu' (hInv' μ w) hs' (hL' i hio k2) hR ?_ Zq hμ hb;rw[Bf E i k2,hdst,y5];exact he'.putO t3 (VR.undef μ)
   .
    have hpD: ∀q∈iD al i,q∈D':=λq hq=>F.sub q (k3 q hq)
    have hst:=O4 g4 k1 J hpD;have hmem:i∈bw al D':=Bm.2 ⟨k1,J,hpD,hst⟩
    have hlooksD: ∀t∈(⟨ops[i].dst,op,g⟩:AOper).looks,iV al e0 s D' t=GL al e0 s i t:=by
     intro t ht;exact TU E F.dc k1 J hpD Zw
    have hsame: ∀t∈(⟨ops[i].dst,op,g⟩:AOper).looks,iV al e0 s D' t=iV al e0 s L t:=λt ht=>(hlooksD t ht).trans (W t ht).symm
    obtain⟨f'',rfl⟩: ∃f'',f'=f''+1:=⟨f'-1,by have:=aA9 k1 J;omega⟩
    have hleft:left (hW al) (i::D')<=f'':=by have:=Lc k1 J;omega
    simp only[EX,g4]at g1
    have H:(if wanted ⟨ops[i].dst,op,g⟩ (iV al e0 s D')then cj T op (iV al e0 s D') Z λv Z'=>Dr al i Z' C/\EX T (Q .normal) al f'' (i::D') C ((iV al e0 s D').putO ops[i].dst v) Z'
      else EX T (Q .normal) al f'' (i::D') C ((iV al e0 s D').putO ops[i].dst undef) Z):=by
     cases hm:bw al D' with
     |nil=>rw[hm]at hmem;cases hmem
     |cons m r=>
      rw[hm]at g1 hmem;simp only at g1;have:=UP g1 i hmem;simp only[hx]at this;exact this
    rw[EW hlooksD]at H
    have hDc:Cj al<|i::D':=by
     intro k hk q hq;rcases aw.1 hk with rfl|hk
     .exact aB _ (hpD q hq)
     .exact aB _ (F.dc k hk q hq)
    have hlag: ∀j∈i::D',j∉i::L->j∈D'/\j∉L:=λj U M=>
     ⟨(aw.1 U).elim (λe=>absurd (e▸bB ..) M) id,λh=>M<|aB _ h⟩
    have hval: ∀v,∀k∈D',upd s i v k=s k:=λv k hk=>zF λ(e:k=i)=>J (e▸hk)
    have henvD: ∀v,(iV al e0 s D').putO ops[i].dst v=iV al e0 (upd s i v) (i::D'):=by
     intro v;rw[Bf E i J,Hh<|hval v,hdst]
     congr 1
     exact(zE rfl).symm
    have henvL: ∀v,(iV al e0 s L).putO ops[i].dst v=iV al e0 (upd s i v) (i::L):=by
     intro v;rw[Bf E i k2,Hh (λk hk=>hval v k<|F.sub k hk),hdst]
     congr 1
     exact(zE rfl).symm
    split at H
    .rename_i hw1;rw[hw1,zE rfl];left;refine Ps hT t1 (Wu (λt ht=>hsame t Zx) H) he' hR λv Z' v' μ' w' hk hμ' hR' hv hbel=> ?_
     have⟨hk1,hk2⟩:=hk;rw[henvD v]at hk2;refine ih f'' (upd s i v) (i::D') (i::L) C _ Z' μ' _ w' hk2 hleft hfu' ⟨hDc,hLc i k3,λk hk=>(aw.1 hk).elim (λe=>e▸bB ..) λh=>aB _<|F.sub k h,λk hk=>(aw.1 hk).elim (λe=>e▸k1)<|F.lt k,λj U M=> ?_⟩ hs' (hL' i hio k2) hR' ?_ Zq (Mu.le_trans hμ hμ') (hb.trans hbel)
     .obtain⟨hjD,hjL'⟩:=hlag j U M;have ht:=(F.tells j hjD hjL').upd (i:=i) (v:=v) F.dc hjD J;have⟨x',p,z1,z2,z3⟩:=ht;refine⟨x',p,z1,z2,z3.imp (λ⟨z4,z5,z6⟩=>⟨z4, ?_,z6⟩) id⟩;cases hl:x'.op.isLoad with
      |false=>exact RH z2 hl z5 Z'
      |true=>
       have⟨c,z7,z8⟩:=z6 hl;refine z8 Z'<|Ht hk1 j c z7 ?_;cases hbf:vx al j i with
       |false=>rfl
       |true=>exact absurd (F.lc.bef _ _ hbf k3) hjL'
     .rw[<-henvL v];exact(he'.mono hμ').putO t3 hv
    .rename_i hw1;rw[zF hw1];rw[henvD undef]at H;refine ih f'' (upd s i undef) (i::D') (i::L) C _ Z μ _ w H hleft hfu' ⟨hDc,hLc i k3,λk hk=>(aw.1 hk).elim (λe=>e▸bB ..) λh=>aB _<|F.sub k h,λk hk=>(aw.1 hk).elim (λe=>e▸k1)<|F.lt k,λj U M=> ?_⟩ hs' (hL' i hio k2) hR ?_ Zq hμ hb
     .obtain⟨hjD,hjL'⟩:=hlag j U M;exact(F.tells j hjD hjL').upd F.dc hjD J
     .rw[<-henvL undef];exact he'.putO t3<|VR.undef μ
end
end
section
open Go.RowKit
def we (T:i7):Prop:= ∀f args Z (K K':Value->Hp->Prop),(∀r Z',K r Z'->K' r Z')->T f args Z K->T f args Z K'
def lq {T:i7}(p:we T){k s:Value->Hp->Prop}(g: ∀v Z',k v Z'->s v Z')(h:cj T op e Z k):cj T op e Z s:=by
 unfold cj at*;cases op<;>simp only at h⊢
 case call f xs=>exact p _ _ _ _ _ g h
 case callv f xs=>
  split at h
  .exact p _ _ _ _ _ g h
  exact h.elim
 all_goals
  split at h
  .exact g _ _ h
  exact h.elim
section
variable {T:i7}
def EY (g:we T){Q Q':cy->Hp->Prop}(p: ∀e Z,Q e Z->Q' e Z): ∀(l:List AOper) (e:cy) (Z:Hp),BB T Q l e Z->BB T Q' l e Z
 |[],e,Z,h=>p e Z h
 |o::l,e,Z,h=>by
  simp only[BB]at h⊢;split at h
  .rename_i s;rw[zE s];exact lq g (λv Z' u=>EY g p l _ Z' u) h
  .rename_i s;rw[zF s];exact EY g p l _ Z h
def QJ {f g:Nat->Prop}(h: ∀m,f m->g m): ∀{l:List Nat},NX f l->NX g l
 |[],_=>trivial
 |[_],p=>h _ p
 |_::_::_,p=>⟨h _ p.1,QJ h p.2⟩
def G4 (s:we T){Q Q':cy->Hp->Prop}(p: ∀e Z,Q e Z->Q' e Z){ops:List<|AOper×List Nat}: ∀(f:Nat) (done:List Nat) (chk:List<|Nat×(Hp->Prop)) (e:cy) (Z:Hp),EX T Q ops f done chk e Z->EX T Q' ops f done chk e Z
 |0,done,chk,e,Z,h=>p e Z h
 |f+1,done,chk,e,Z,h=>by
  simp only[EX]at h⊢;split at h
  .split at h
   .split at h
    .rename_i g;rw[zE g];split at h
     .exact G4 s p f _ _ _ _ h
     .exact h.elim
    .rename_i g;rw[zF g];exact G4 s p f _ _ _ _ h
   .exact h.elim
  .split at h
   .exact p e Z h
   .refine QJ (λm u=> ?_) h;split at u
    .split at u
     .rename_i g;rw[zE g];exact lq s (λv Z' A=>⟨A.1,G4 s p f _ _ _ _ A.2⟩) u
     .rename_i g;rw[zF g];exact G4 s p f _ _ _ _ u
    .exact u.elim
def G5 (g:we T){Q Q':cy->Hp->Prop}(p: ∀e Z,Q e Z->Q' e Z): ∀(l:List SItem) (chk:List<|Nat×(Hp->Prop)) (e:cy) (Z:Hp),Un T Q l chk e Z->Un T Q' l chk e Z
 |[],_,e,Z,h=>p e Z h
 |it::l,chk,e,Z,h=>by
  simp only[Un]at h⊢;split at h
  .rename_i u;rw[zE u];split at h
   .rename_i s;rw[zE s];exact lq g (λv Z' A=>⟨A.1,G5 g p l _ _ Z' A.2⟩) h
   .rename_i s;rw[zF s];split at h
    .exact G5 g p l _ _ Z h
    .exact h.elim
  .rename_i u;rw[zF u];exact G5 g p l _ _ Z h
def Ce {f:(AExit->cy->Hp->Prop)->cy->Hp->Prop}(s: ∀(Q Q':AExit->cy->Hp->Prop),(∀x e Z,Q x e Z->Q' x e Z)->∀e Z,f Q e Z->f Q' e Z){Q Q':AExit->cy->Hp->Prop}(g: ∀x e Z,Q x e Z->Q' x e Z):
  ∀(n:Nat) (e:cy) (Z:Hp),jE f Q n e Z->jE f Q' n e Z
 |0,_,_,h=>h.elim
 |n+1,e,Z,h=>by
  simp only[jE]at h⊢;refine s _ _ (λx e' Z' p=> ?_) e Z h;cases x with
  |normal=>exact Ce s g n e' Z' p
  |exit id=>exact g _ _ _ p
  |ret=>exact g _ _ _ p
theorem gu (s:we T): ∀(c:AC) (Q Q':AExit->cy->Hp->Prop),(∀x e Z,Q x e Z->Q' x e Z)->∀(e:cy) (Z:Hp),yu T c Q e Z->yu T c Q' e Z:=by
 intro c;induction c with
 |skip=>intro Q Q' g e Z h;exact g _ _ _ h
 |region ops=>intro Q Q' g e Z h;exact EY s (g .normal) ops e Z h
 |draw ops=>intro Q Q' g e Z h;exact G4 s (g .normal) _ _ _ e Z h
 |sched C=>intro Q Q' g e Z h;exact G5 s (g .normal) C [] e Z h
 |seq a b p A=>
  intro Q Q' g e Z h;refine p _ _ (λx e' Z' F=> ?_) e Z h
  grind
 |cond c a b p A=>
  intro Q Q' g e Z h;simp only[yu]at h⊢
  grind
 |block id b u=>
  intro Q Q' g e Z h;refine u _ _ (λx e' Z' F=> ?_) e Z h
  grind
 |loop b u=>
  intro Q Q' g e Z h;have⟨n,E⟩:=h;exact⟨n,Ce (f:=yu T b) u g n e Z E⟩
 |exit id=>intro Q Q' g e Z h;exact g _ _ _ h
 |ret=>intro Q Q' g e Z h;exact g _ _ _ h
def AC.outs :AC->Nat->Bool
 | .seq a b,i| .cond _ a b,i=>a.outs i||b.outs i
 | .block id b,i=>b.outs i&& !(i==id)
 | .loop b,i=>b.outs i
 | .exit j,i=>i==j
 |_,_=>Zb
def Xc (c:AC)(Q:AExit->cy->Hp->Prop):AExit->cy->Hp->Prop:=λx e Z=>(∀i,x= .exit i->c.outs i=Za)/\Q x e Z
def GF {c:AC}{Q:AExit->cy->Hp->Prop}:Xc c Q .normal=Q .normal:=by
 funext e Z
 exact propext ⟨λh=>h.2,λh=>⟨λi g=>ZY,h⟩⟩
def Ml {f:(AExit->cy->Hp->Prop)->cy->Hp->Prop}{b:AC}(s: ∀(Q Q':AExit->cy->Hp->Prop),(∀x e Z,Q x e Z->Q' x e Z)->∀e Z,f Q e Z->f Q' e Z)
  (u: ∀Q e Z,f Q e Z->f (Xc b Q) e Z) {Q:AExit->cy->Hp->Prop}: ∀(n:Nat) (e:cy) (Z:Hp),jE f Q n e Z->jE f (Xc b Q) n e Z
 |0,_,_,h=>h.elim
 |n+1,e,Z,h=>by
  simp only[jE]at h⊢;refine s _ _ (λx e' Z' A=> ?_) e Z<|u _ e Z h;have⟨p,g⟩:=A;cases x with
  |normal=>exact Ml s u n e' Z' g
  |exit id=>exact⟨p,g⟩
  |ret=>exact⟨p,g⟩
def WY (C:we T): ∀(c:AC) (Q:AExit->cy->Hp->Prop) (e:cy) (Z:Hp),yu T c Q e Z->yu T c (Xc c Q) e Z:=by
 intro c;induction c with
 |skip=>intro Q e Z h;exact⟨λi g=>ZY,h⟩
 |region ops=>intro Q e Z h;simp only[yu]at h⊢;rw[GF];exact h
 |draw ops=>intro Q e Z h;simp only[yu]at h⊢;rw[GF];exact h
 |sched L=>intro Q e Z h;simp only[yu]at h⊢;rw[GF];exact h
 |seq a b u A=>
  intro Q e Z h;simp only[yu]at h⊢;refine gu C a _ _ (λx e' Z' p=> ?_) e Z<|u _ e Z h;have⟨E,s⟩:=p;cases x with
  |normal=>exact gu C b _ _ (λx e Z p=>⟨λi g=>by rw[AC.outs,p.1 i g,Bool.or_true],p.2⟩) e' Z' (A Q e' Z' s)
  |exit id=>exact⟨λi g=>by rw[AC.outs,E i g,Bool.true_or],s⟩
  |ret=>exact⟨λi g=>ZY,s⟩
 |cond c a b u A=>
  intro Q e Z h;simp only[yu]at h⊢;split at h
  .exact gu C a _ _ (λx e Z p=>⟨λi g=>by rw[AC.outs,p.1 i g,Bool.true_or],p.2⟩) e Z (u Q e Z h)
  .exact gu C b _ _ (λx e Z p=>⟨λi g=>by rw[AC.outs,p.1 i g,Bool.or_true],p.2⟩) e Z (A Q e Z h)
  exact h.elim
 |block id b H=>
  intro Q e Z h;simp only[yu]at h⊢;refine gu C b _ _ (λx e' Z' p=> ?_) e Z<|H _ e Z h;have⟨E,s⟩:=p;cases x with
  |normal=>exact⟨λi g=>ZY,s⟩
  |exit i=>
   simp only at s⊢;split at s
   .rename_i g;rw[zE g];exact⟨λi g=>ZY,s⟩
   rename_i g;rw[zF g];refine⟨λj F=> ?_,s⟩;cases F;rw[AC.outs,E i rfl];simp[g]
  |ret=>exact⟨λi g=>ZY,s⟩
 |loop b H=>
  intro Q e Z h;have⟨n,J⟩:=h;exact⟨n,Ml (f:=yu T b) (gu C b) H n e Z J⟩
 |exit id=>
  intro Q e Z h;refine⟨λi g=> ?_,h⟩;cases g;simp[AC.outs]
 |ret=>intro Q e Z h;exact⟨λi g=>ZY,h⟩
end
end
section
open Bool renaming and_eq_true->aB,or_eq_true->aD,false_eq_true->bD
open List renaming mem_cons_self->bB,mem_cons_of_mem->cB
open Go.RowKit
def LA (P:Program)(N:Nat)(ops:Array Oper):List Oper->Option DL
 |[]=>O []
 |o::r=>match LB P N ops o,LA P N ops r with
  |some x,O l=>O ((x,(o.after.toList.filter (Region.binds .any ·)).map (·.on))::l)
  |_,_=>Y
def AC.outsL :AC->List Nat
 | .seq a b| .cond _ a b=>a.outsL++b.outsL
 | .block id b=>b.outsL.filter λi=> !(i==id)
 | .loop b=>b.outsL
 | .exit j=>[j]
 |_=>[]
def aE3 : ∀(c:AC) (i:Nat),c.outs i=Za->i∈c.outsL:=by
 intro c;induction c with
 |seq a b g p=>
  intro i h;simp only[AC.outs,aD]at h;exact cI.2 (h.elim (λh=> .inl<|g i h) λh=> .inr<|p i h)
 |cond c a b g p=>
  intro i h;simp only[AC.outs,aD]at h;exact cI.2 (h.elim (λh=> .inl<|g i h) λh=> .inr<|p i h)
 |block id b s=>
  intro i h;simp only[AC.outs,aB]at h;exact List.mem_filter.2 ⟨s i h.1,h.2⟩
 |loop b s=>intro i h;exact s i h
 |exit j=>intro i h;simp[AC.outs]at h;simp[AC.outsL,h]
 |_=>intro i h;simp[AC.outs]at h
def AC.noJump (c:AC):Bool:=c.outsL.all λi=>Zc<|i<Fc
def Rm {c:AC}(h:c.noJump=Za)(g:c.outs i=Za):i<Fc:=by
 have:=bo.1 h i<|aE3 c i g;exact of_decide_eq_true this
def tV :Code->List Nat
 | .seq a b=>tV a++tV b
 | .label l=>[l]
 |_=>[]
theorem Gv : ∀(c:Code) (l:Nat),l∉tV c->findLabel c l=Y:=by
 intro c;induction c with
 |seq a b g p=>
  intro l h;simp only[tV,List.mem_append,not_or]at h;simp only[findLabel,g l h.1,p l h.2]
 |label s=>
  intro l h;simp only[tV,List.mem_singleton]at h;simp only[findLabel]
  grind
 |_=>intro l h;rfl
def JI (l:Nat):Code->Bool
 | .goto g=>g==l
 | .seq a b| .cond _ a b=>JI l a||JI l b
 | .block _ b| .loop b| .scope b=>JI l b
 |_=>Zb
def Hr :Code->Option Nat
 | .label l=>O l
 |_=>Y
def Tp {c:Code}{l:Nat}(h:Hr c=O l):c= .label l:=by
 cases c<;>simp[Hr]at h;rw[h]
def iS :Code->Option Nat
 | .seq a b=>match Hr a with
  |some l=>if JI l b then O l else iS b
  |none=>iS b
 |_=>Y
def CO (l:Nat):Nat:=Fc+2*l
def Ae (l:Nat):Nat:=Fc+2*l+1
def aR1 (l:Nat)(b:AC):AC:= .block (Ae l)<|.loop<|.block (CO l)<|.seq b<|.exit<|Ae l
def JN (a b:Code):Bool:=match iS b with
 |some l=> !(tV a).contains l
 |none=>Za
def rT (x:Option AC):Option AC×Option AC:=(x,x)
def bm3 :Option AC->Option AC->Option AC
 |some a,O b=>O (.seq a b)
 |_,_=>Y
def Yv (a b:Code)(g h sb:Option AC):Option AC:=match Hr a with
 |some l=>if JI l b then h.map (aR1 l)else if JN a b then sb.map (.seq .skip)else Y
 |none=>match g,sb with
  |some x,O y=>if JN a b&&((iS b).isNone||x.noJump)then O (.seq x y)else Y
  |_,_=>Y
def PI (P:Program)(N:Nat):Code->Option AC×Option AC
 | .skip=>rT (O .skip)
 | .label _=>rT (O .skip)
 | .region _ ops draw=>rT (if draw then match LA P N ops ops.toList with
   |some l=>if Ex l&&P.follows .mixedOrders then(match Hv l (hW l) [] []with
    |some g=>O (.sched g)
    |none=>O<|.draw l)else Y
   |none=>Y
  else(Kq P N ops ops.toList).map .region)
 | .seq a b=>(bm3 (PI P N a).1 (PI P N b).1,Yv a b (PI P N a).1 (PI P N b).1 (PI P N b).2)
 | .cond c a b=>rT (match BD c,(PI P N a).1,(PI P N b).1 with
  |some c,O a,O b=>O (.cond c a b)
  |_,_,_=>Y)
 | .block id b=>rT (if id<Fc then((PI P N b).1).map (.block id)else Y)
 | .loop b=>rT (((PI P N b).1).map .loop)
 | .scope b=>rT (match(PI P N b).2 with
  |some h=>if h.noJump then O h else Y
  |none=>Y)
 | .exit id=>rT (if id<Fc then O (.exit id)else Y)
 | .goto l=>rT (O<|.exit<|CO l)
 | .ret=>rT (O .ret)
 |_=>rT Y
def mW (P:Program)(N:Nat)(c:Code):Option AC:=(PI P N c).1
def Ug (P:Program)(N:Nat)(c:Code):Option AC:=(PI P N c).2
section
variable {P:Program} {T:i7} {ops:Array Oper} {B:Base P} {N:Nat}
theorem Mj : ∀{l:List Oper} {al:DL},LA P N ops l=O al->hW l=hW al/\∀(i:Nat) o,l[i]?=O o->∃x,al[i]?=O (x,(o.after.toList.filter (Region.binds .any ·)).map (·.on))/\LB P N ops o=O x
 |[],al,h=>by
  simp[LA]at h
  grind
 |o::l,al,h=>by
  simp only[LA]at h;split at h
  .rename_i x r p g;cases h;have⟨s,u⟩:=Mj g
   grind
  .cases h
def aP0 {al:DL}(h:LA P N ops ops.toList=O al):Fits P N ops al:=by
 have⟨A,s⟩:=Mj h;refine⟨by simpa using A,λi o p=> ?_,λi o p q=> ?_⟩
 .obtain⟨x,g,u⟩:=s i o ep;refine⟨x, ?_,u⟩;have:iD al i=(o.after.toList.filter (Region.binds .any ·)).map (·.on):=by simp[iD,g]
  rw[this];exact g
 have⟨x,g,u⟩:=s i o ep;have:iD al i=(o.after.toList.filter (Region.binds .any ·)).map (·.on):=by simp[iD,g]
 rw[this];simp[and_assoc]
def Uo {b:Code}{f:(AExit->cy->Hp->Prop)->cy->Hp->Prop}
  (hb: ∀(Q:AExit->cy->Hp->Prop) (e:cy) (Z:Hp) (μ:Mu) (a:Act) (w:World),f Q e Z->R B μ Z w->gq μ N e a.tmps->a.defers=[]->b.wp P (sD B N μ w Q) a w)
  {Q:AExit->cy->Hp->Prop} {μ0:Mu} {W:World} {n:Nat}   {μ:Mu}   (h:jE f Q n e Z) (hR:R B μ Z w) (he:gq μ N e a.tmps) (hd:a.defers=[]) (A:μ0.le μ) (p:Below B W w):
  (Code.loop b).wp P (sD B N μ0 W Q) a w:=by
 intro bf k cs
 have key: ∀n e Z μ a w,jE f Q n e Z->R B μ Z w->gq μ N e a.tmps->a.defers=[]->μ0.le μ->Below B W w->
   ∃x E w',sD B N μ0 W Q x E w'/\Arrives P (lone (bf.at a<|.code b:: .inLoop b::k) cs w) bf k cs x E w':=by
  intro n;induction n with
  |zero=>intro e Z μ a w h;exact h.elim
  |succ n ih=>
   intro e Z μ a w h hR he hd A p;simp only[jE]at h;have⟨x,F,X,s,g⟩:=hb _ e Z μ a w h hR he hd bf (.inLoop b::k) cs;obtain⟨ax,H,Z1,μ1,C,s,J,L,M,U,V⟩:=s;cases ax with
   |normal=>
    cases x<;>simp[Ac]at C;have⟨x₂,a₂,w₂,hq₂,u⟩:=ih H Z1 μ1 F X s L M U (Mu.le_trans A J)<|p.trans V;exact⟨x₂,a₂,w₂,hq₂, .of_steps (Steps.trans g<|.one step_inLoop) u⟩
   |exit id=>
    cases x with
    |exit j=>
     obtain⟨rfl,hj⟩:=C;exact⟨.exit id,F,X,⟨.exit id,H,Z1,μ1,⟨rfl,hj⟩,s,Mu.le_trans A J,L,M,U,p.trans V⟩, .pass (x:= .inLoop b) rfl (λ_ _=> .inl V2) g⟩
    |goto l=>exact⟨.goto l,F,X,⟨.exit id,H,Z1,μ1,C,s,Mu.le_trans A J,L,M,U,p.trans V⟩,λk' hk=>g k' (by simp[gotoIn,hk])⟩
    |_=>exact C.elim
   |ret=>
    cases x<;>simp[Ac]at C;exact⟨.ret,F,X,⟨.ret,H,Z1,μ1,trivial,s,Mu.le_trans A J,L,M,U,p.trans V⟩, .pass (x:= .inLoop b) rfl (λ_ _=> .inl V2) g⟩
 have⟨x,E,w',s,g⟩:=key n e Z μ a w h hR he hd A p;exact⟨x,E,w',s, .of_steps (.one step_loop) g⟩
theorem GH {is:List Nat}{Z:Hp}: ∀{chk:List<|Nat×(Hp->Prop)},Af is Z chk->∀i c,(i,c)∈chk->i∈is->c Z
 |[],_,i,c,h,_=>by cases h
 |(j,d)::r,g,i,c,h,p=>by
  simp only[Af]at g;rcases aw.1 h with h|h
  .injection h with s u
   grind
  .split at g
   .exact GH g.2 i c h p
   .exact GH g i c h p
def qZ {al:DL}{m:Nat}{Z:Hp}: ∀{chk:List<|Nat×(Hp->Prop)},(∀i c,(i,c)∈chk->vx al i m=Zb->c Z)->Dr al m Z chk
 |[],_=>trivial
 |(j,d)::r,h=>by
  simp only[Dr];split
  .exact qZ λi c g=>h i c (cB _ g)
  .rename_i p;exact⟨h j d (bB ..) ep,qZ λi c g=>h i c<|cB _ g⟩
def Wv {k s:Value->Hp->Prop}(p:we T)(g: ∀v Z',k v Z'->s v Z')(h:cj T op e Z k):cj T op e Z s:=by
 unfold cj at*;cases op<;>simp only at h⊢
 case call f xs=>exact p _ _ _ _ _ g h
 case callv f xs=>
  split at h
  .exact p _ _ _ _ _ g h
  exact h.elim
 all_goals
  split at h
  .exact g _ _ h
  exact h.elim
theorem Gz (F:we T){Q:cy->Hp->Prop}{al:DL}: ∀(f:Nat) (done s:List Nat) (C:List SItem) (chk A:List<|Nat×(Hp->Prop)) (e:cy) (Z:Hp),Hv al f done s=O C->Un T Q C A e Z->
  (∀i c,(i,c)∈chk->i∈s)->(∀i c,(i,c)∈chk->aA3 al i=Za->(i,c)∈A)->EX T Q al f done chk e Z
 |0,done,s,C,chk,A,e,Z,h,u,_,_=>by
  simp[Hv]at h;subst h;exact u
 |f+1,done,s,C,chk,A,e,Z,h,u,M,L=>by
  simp only[Hv]at h;simp only[EX];split at h
  .rename_i i hn;split at h
   .rename_i o p ho;obtain⟨r,J,h⟩:=aa.1 h;subst h;simp only[Un]at u;split at u
    .rename_i g;rw[zE g];simp only[bD,if_false]at u;split at u
     .rename_i v Z1 hrun;refine Gz F f _ _ _ _ _ _ _ J u (λj c E=> ?_) (λj c E U=> ?_)
      .by_cases hl:o.op.isLoad=Za
       .rw[zE hl]at E⊢
        grind
       grind
      grind
     .exact u.elim
    .rename_i g;rw[zF g];refine Gz F f _ _ _ _ _ _ _ J u (λj c E=> ?_) L
     grind
   .cases h
  .rename_i hn;split at h
   .rename_i H;rw[H];cases h;exact u
   .rename_i m H;rw[H];simp only[NX];split at h
    .rename_i o p ho;obtain⟨r,J,h⟩:=aa.1 h;subst h
     have X:XV al m=Za:=by
      have:=(Bm.1 (show m∈bw al done by rw[H];exact bB ..)).2.2.2;simpa[ES,XV,ho]using this
     have W:m<hW al:=(Bm.1 (show m∈bw al done by rw[H];exact bB ..)).1;simp only[Un]at u⊢;split at u
     .rename_i g;rw[zE g];simp only[if_true]at u;refine Wv F (λv Z' U=> ?_) u;refine⟨qZ λi c E hb=> ?_,Gz F f _ _ _ _ _ _ _ J U.2 M L⟩;have V:aA3 al i=Za:=List.any_eq_true.2 ⟨m,cJ.2 W,by simp[X,hb]⟩;exact GH U.1 i c (L i c E V) (by simp[M i c E,hb])
     .rename_i g;rw[zF g];exact Gz F f _ _ _ _ _ _ _ J u M L
    .cases h
   .cases h
def L8 (l:Nat)(J:Act->World->Prop)(Q:Exit->Act->World->Prop):Exit->Act->World->Prop
 | .goto g,a,w=>(g=l/\J a w)∨(g≠l/\Q (.goto g) a w)
 |x,a,w=>Q x a w
def Wy {c rest:Code}{Q:Exit->Act->World->Prop}(l:Nat)(J:Nat->Act->World->Prop)(hf:findLabel c l=O rest)(hQ: ∀l' a w,¬Q (.goto l') a w)
  (first:c.wp P (L8 l (λa w=> ∃n,J n a w) Q) a w) (E: ∀n a w,J n a w->rest.wp P (L8 l (λa w=> ∃m,m<n/\J m a w) Q) a w):(Code.scope c).wp P Q a w:=by
 intro b k F;have hg:gotoIn l (.inScope c::k)=O (.code rest:: .inScope c::k):=by simp[gotoIn,hf]
 have W: ∀n a w,J n a w->∃e a' w',Q e a' w'/\Arrives P (lone (b.at a<|.code rest:: .inScope c::k) F w) b k F e a' w':=by
  intro n;induction n using Nat.strongRecOn with
  |_ n ih=>
   intro a w hJ;have⟨e,s,u,h,g⟩:=E n a w hJ b (.inScope c::k) F;cases e with
   |normal=>exact⟨.normal,s,u,h,Steps.trans g<|.one step_inScope⟩
   |exit id=>exact⟨.exit id,s,u,h,λV M=>g V (by simp[exitTo,M])⟩
   |goto l'=>
    rcases h with⟨rfl,m,U,A⟩|⟨_,h⟩
    .obtain⟨L,H,X,C,p⟩:=ih m U s u A;exact⟨L,H,X,C, .of_steps (g _ hg) p⟩
    .exact(hQ _ _ _ h).elim
   |ret=>exact⟨_,s,u,h,g⟩
   |panic ch=>exact⟨_,s,u,h,g⟩
   |outgrown=>exact⟨_,s,u,h,g⟩
 have⟨e,s,u,h,g⟩:=first b (.inScope c::k) F
 cases e with
 |normal=>exact⟨.normal,s,u,h, .head step_scope<|Steps.trans g<|.one step_inScope⟩
 |exit id=>exact⟨.exit id,s,u,h,λV M=> .head step_scope<|g V (by simp[exitTo,M])⟩
 |goto l'=>
  rcases h with⟨rfl,n,A⟩|⟨_,h⟩
  .obtain⟨L,H,X,C,p⟩:=W n s u A;exact⟨L,H,X,C, .of_steps (.head step_scope<|g _ hg) p⟩
  .exact(hQ _ _ _ h).elim
 |ret=>exact⟨_,s,u,h, .of_steps (.one step_scope) g⟩
 |panic ch=>exact⟨_,s,u,h, .of_steps (.one step_scope) g⟩
 |outgrown=>exact⟨_,s,u,h, .of_steps (.one step_scope) g⟩
def Jst {P:Program}(B:Base P)(N:Nat)(h:Mu)(g:World)(L:Nat->cy->Hp->Prop)(n:Nat):Act->World->Prop:=λa w=>
 ∃e Z μ,L n e Z/\h.le μ/\R B μ Z w/\gq μ N e a.tmps/\a.defers=[]/\Below B g w
def Aok (P:Program)(T:i7)(B:Base P)(N:Nat)(c:Code):Prop:= ∀(g:AC),mW P N c=O g->∀(Q:AExit->cy->Hp->Prop) (e:cy) (Z:Hp) (μ:Mu) (a:Act) (w:World),yu T g Q e Z->
  R B μ Z w->gq μ N e a.tmps->a.defers=[]->c.wp P (sD B N μ w Q) a w
def YN (P:Program)(T:i7)(B:Base P)(N:Nat)(c:Code):Prop:= ∀(s:AC),Ug P N c=O s->∀(Q:AExit->cy->Hp->Prop),
 (iS c=Y->∀(e:cy) (Z:Hp) (μ:Mu) (a:Act) (w:World),yu T s Q e Z->R B μ Z w->gq μ N e a.tmps->a.defers=[]->c.wp P (sD B N μ w Q) a w)/\
 (∀l,iS c=O l->∃g L,findLabel c l=O g/\∀p h,
  (∀(e:cy) (Z:Hp) (μ:Mu) (a:Act) (w:World),yu T s Q e Z->R B μ Z w->gq μ N e a.tmps->a.defers=[]->p.le μ->Below B h w->c.wp P (L8 l (λa w=> ∃n,Jst B N p h L n a w)<|sD B N p h Q) a w)/\
  (∀n a w,Jst B N p h L n a w->g.wp P (L8 l (λa w=> ∃m,m<n/\Jst B N p h L m a w)<|sD B N p h Q) a w))
def YN.of {c:Code}(u:Ug P N c=mW P N c)(A:iS c=Y)(h:Aok P T B N c):YN P T B N c:=λs g Q=>
 ⟨λ_=>h s (u▸g) Q,λl p=>by rw[A]at p;cases p⟩
def Lm {μ:Mu}{Q:AExit->cy->Hp->Prop}{a':Act}{w':World}(h:sD B N μ w Q x a' w')(C:x≠ .normal): ∃g e' Z' p,g≠ .normal/\Ac g x/\Q g e' Z'/\μ.le p/\R B p Z' w'/\gq p N e' a'.tmps/\a'.defers=[]/\Below B w w':=by
 have⟨g,e',Z',p,s,u,A⟩:=h;refine⟨g,e',Z',p, ?_,s,u,A⟩;rintro rfl;cases x<;>first|exact s.elim|exact C rfl
def aT7 {μ:Mu}{Q Q':AExit->cy->Hp->Prop}{a':Act}{w':World}(h:sD B N μ w Q x a' w')(A: ∀g e Z,Ac g x->Q g e Z->Q' g e Z):sD B N μ w Q' x a' w':=by
 have⟨g,e',Z',C,p,s,u⟩:=h;exact⟨g,e',Z',C,p,A _ _ _ p s,u⟩
def Yq {x y:Code}{μ:Mu}{Q1:AExit->cy->Hp->Prop}{F:Exit->Act->World->Prop}(h:x.wp P (sD B N μ w Q1) a w)
  (U: ∀e Z s a' w',Q1 .normal e Z->μ.le s->R B s Z w'->gq s N e a'.tmps->a'.defers=[]->Below B w w'->y.wp P F a' w')
  (p: ∀x a' w',x≠ .normal->sD B N μ w Q1 x a' w'->F x a' w'):(Code.seq x y).wp P F a w:=by
 refine wp_seq<|wp_mono h λV a' w' g=> ?_;cases V with
 |normal=>
  have⟨A,e',Z',s,u,C,E,H,J,L,M⟩:=g;cases A with
  |normal=>exact U e' Z' s a' w' C E H J L M
  |exit i=>exact u.elim
  |ret=>exact u.elim
 |exit i=>exact p _ a' w' V2 g
 |goto l=>exact p _ a' w' V2 g
 |ret=>exact p _ a' w' V2 g
 |panic W=>exact p _ a' w' V2 g
 |outgrown=>exact p _ a' w' V2 g
def Vs {l:Nat}{J:Act->World->Prop}{F:Exit->Act->World->Prop}(p:x= .goto l->J a w)(h:x≠ .goto l->F x a w):L8 l J F x a w:=by
 cases x with
 |goto s=>
  by_cases g:s=l
  .subst g;exact .inl ⟨rfl,p rfl⟩
  exact .inr ⟨g,h ZX⟩
 |_=>exact h V2
def OS {l:Nat}{J J':Act->World->Prop}{F F':Exit->Act->World->Prop}(u: ∀a w,J a w->J' a w)(s: ∀x a w,F x a w->F' x a w)(h:L8 l J F x a w):L8 l J' F' x a w:=by
 cases x with
 |goto A=>
  rcases h with⟨g,p⟩|⟨g,p⟩
  .exact .inl ⟨g,u _ _ p⟩
  exact .inr ⟨g,s _ _ _ p⟩
 |_=>exact s _ _ _ h
theorem aw9 (hM:we T)(hT: ∀f,Sim P f<|T f): ∀(c:Code),Aok P T B N c/\YN P T B N c:=by
 intro c;induction c with
 |skip=>
  refine(λA=>⟨A,YN.of rfl rfl A⟩) ?_;intro ac h Q e Z μ a w g s p u;simp[mW,PI,rT]at h;subst h;exact wp_skip ⟨.normal,e,Z,μ,trivial,g,μ.le_refl,s,p,u,Below.refl _ _⟩
 |label l=>
  refine(λA=>⟨A,YN.of rfl rfl A⟩) ?_;intro ac h Q e Z μ a w g s p u;simp[mW,PI,rT]at h;subst h;exact wp_label ⟨.normal,e,Z,μ,trivial,g,μ.le_refl,s,p,u,Below.refl _ _⟩
 |goto l=>
  refine(λA=>⟨A,YN.of rfl rfl A⟩) ?_;intro ac h Q e Z μ a w g s p u;simp[mW,PI,rT]at h;subst h;exact wp_goto ⟨.exit<|CO l,e,Z,μ,rfl,g,μ.le_refl,s,p,u,Below.refl _ _⟩
 |region id ops draw=>
  refine(λA=>⟨A,YN.of rfl rfl A⟩) ?_;intro ac h Q e Z μ a w g s p u;simp only[mW,PI,rT]at h;cases draw with
  |false=>
   simp only[bD,if_false]at h;obtain⟨al,F,h⟩:=aa.1 h;subst h;exact wp_region_list (X3 hT ops.toList al e Z μ a w F g s p u μ.le_refl<|Below.refl _ _)
  |true=>
   simp only[if_true]at h;split at h
   .rename_i al F;split at h
    .rename_i h2
     have g:EX T (Q .normal) al (hW al) [] [] e Z:=by
      split at h
      .rename_i its hits;injection h with h
       subst h;exact Gz hM (hW al) [] [] its [] [] e Z hits g (λi c hc=>(by cases hc)) (λi c hc=>(by cases hc))
      injection h with h
      subst h;exact g
     simp only[aB]at h2;have hF:=aP0 F;have hempty: ∀(val:Nat->Value),iV al e val []=e:=λval=>funext λt=>pL λi hi=>by cases hi
     refine wp_region_any h2.2 ?_;have hl:left (hW al) []<=hW al:=by unfold left;exact Nat.le_trans (List.length_filter_le _ _) V2
     refine aO0 hT hF h2.1 (e0:=e) ops.size (hW al) (λ_=>undef) [] [] [] _ Z μ a _ (by rw[hempty];exact g) hl (by rw[hF.len];exact hl) ⟨λi hi=>gn,λi hi=>gn,λi hi=>gn,λi hi=>gn,λi hi=>gn⟩ V2 (λi hi=>by simp[hi]) (s.same rfl) (by rw[hempty];exact p) u μ.le_refl (Below.refl _ _).drew
    cases h
   cases h
 |seq x y ihx ihy=>
  refine⟨?_, ?_⟩
  .intro ac h Q e Z μ a w g s p u;have h:bm3 (mW P N x) (mW P N y)=O ac:=h;unfold bm3 at h;split at h
   .rename_i ax ay F h2;injection h with h
    subst h;simp only[yu]at g;have F:mW P N x=O ax:=F;have h2:mW P N y=O ay:=h2;refine Yq (ihx.1 ax F _ e Z μ a w g s p u) (λe' Z' E U w' hq g1 g2 g3 g4 g5=> ?_) λx' U w' hx hp=> ?_
    .exact wp_mono (ihy.1 ay h2 Q e' Z' E U w' hq g2 g3 g4) λx'' a'' w'' h''=>h''.trans g1 g5
    have⟨M,e',Z',E,h0,h1',h2',h3'⟩:=Lm hp hx;refine⟨M,e',Z',E,h1', ?_,h3'⟩
    grind
   cases h
  intro ac h Q;have h:Yv x y (mW P N x) (mW P N y) (Ug P N y)=O ac:=h;unfold Yv at h;split at h
  .rename_i l hl;obtain rfl:=Tp hl;split at h
   .
    rename_i hg;obtain⟨yc,F,h⟩:=aa.1 h;subst h;have hll:iS (.seq (.label l) y)=O l:=by simp[iS,Hr,hg]
    refine⟨λhn=>(by rw[hll]at hn;cases hn),λV C=> ?_⟩;rw[hll]at C;injection C with C
    subst C
    let Q1:AExit->cy->Hp->Prop:=λx e Z=>match x with
     | .exit i=>if i=Ae l then Q .normal e Z else Q (.exit i) e Z
     |x=>Q x e Z
    let W:AC:= .block (CO l) (.seq yc<|.exit<|Ae l)
    have hne:Ae l≠CO l:=by unfold Ae CO;omega
    have round: ∀(n:Nat) (e:cy) (Z:Hp) (μ:Mu) (a:Act) (w:World) (μ0:Mu) (w0:World),jE (yu T W) Q1 (n+1) e Z->R B μ Z w->gq μ N e a.tmps->a.defers=[]->μ0.le μ->Below B w0 w->
      y.wp P (L8 l (λa w=>Jst B N μ0 w0 (λn=>jE (yu T W) Q1 n) n a w)<|sD B N μ0 w0 Q) a w:=by
     intro n e Z μ a w μ0 w0 g s p u hμ X;simp only[jE,W,yu]at g;refine wp_mono (ihy.1 yc F _ e Z μ a w g s p u) λx' U w' hp=> ?_
     have⟨ax,e',Z',E,q1,q2,q3,q4,q5,q6,q7⟩:=hp;refine Vs (λhx=> ?_) λhx=> ?_
     .subst hx;cases ax with
      |exit i=>
       have q1:i=CO l:=q1;subst q1;simp only[if_true]at q2;exact⟨e',Z',E,q2,Mu.le_trans hμ q3,q4,q5,q6,X.trans q7⟩
      |_=>exact q1.elim
     .cases ax with
      |normal=>
       simp only[zF hne]at q2;simp only[Q1,if_true]at q2;exact⟨.normal,e',Z',E,q1,q2,Mu.le_trans hμ q3,q4,q5,q6,X.trans q7⟩
      |ret=>exact⟨.ret,e',Z',E,q1,q2,Mu.le_trans hμ q3,q4,q5,q6,X.trans q7⟩
      |exit i=>
       have hi:i≠CO l/\i≠Ae l:=by
        cases x' with
        |exit j=>
         obtain⟨rfl,hj⟩:=q1;unfold CO Ae;omega
        |goto V=>
         have q1:i=Fc+2*V:=q1;have:V≠l:=λe=>hx (by rw[e])
         unfold CO Ae;omega
        |_=>exact q1.elim
       simp only[zF hi.1,Q1,zF hi.2]at q2;exact⟨.exit i,e',Z',E,q1,q2,Mu.le_trans hμ q3,q4,q5,q6,X.trans q7⟩
    refine⟨.seq .skip y,λn=>jE (yu T W) Q1 n,by simp[findLabel],λμ0 w0=>⟨λe Z μ a w g s p u hμ X=> ?_,λn a w hJ=> ?_⟩⟩
    .have hw': ∃n,jE (yu T W) Q1 n e Z:=g
     have⟨n,hn⟩:=hw';cases n with
     |zero=>exact hn.elim
     |succ n=>
      refine wp_seq<|wp_label ?_;exact wp_mono (round n e Z μ a w μ0 w0 hn s p u hμ X) λx' U w' h'=>OS (λ_ _ h=>⟨n,h⟩) (λ_ _ _ h=>h) h'
    have⟨e,Z,μ,hn,hμ,s,p,u,X⟩:=hJ;cases n with
    |zero=>exact hn.elim
    |succ n=>
     refine wp_seq<|wp_skip ?_;exact wp_mono (round n e Z μ a w μ0 w0 hn s p u hμ X) λx' U w' h'=>OS (λ_ _ h=>⟨n,Nat.lt_succ_self n,h⟩) (λ_ _ _ h=>h) h'
   
   rename_i hg;split at h
   .rename_i H;obtain⟨yc,F,h⟩:=aa.1 h;subst h;have hll:iS (.seq (.label l) y)=iS y:=by simp[iS,Hr,hg]
    have⟨s1,s2⟩:=ihy.2 yc F Q;refine⟨λhn e Z μ a w g s p u=>wp_seq<|wp_label ?_,λV C=> ?_⟩
    .exact s1 (hll▸hn) e Z μ a w g s p u
    rw[hll]at C;have⟨J,L,hf,hJ⟩:=s2 V C
    have hlab:findLabel (.seq (.label l) y) V=O J:=by
     have:findLabel (.label l) V=Y:=Gv _ _ (by
      unfold JN at H;rw[C]at H
      simpa using H)
     simp[findLabel,hf]at this⊢;simp[this]
    refine⟨J,L,hlab,λμ0 w0=>⟨λe Z μ a w g s p u hμ X=>wp_seq<|wp_label ?_,(hJ μ0 w0).2⟩⟩;exact(hJ μ0 w0).1 e Z μ a w g s p u hμ X
   cases h
  rename_i hl;split at h
  .rename_i ax ay F h2;split at h
   .rename_i H;rw[aB,aD]at H;obtain⟨H,hnj⟩:=H;injection h with h
    subst h;have hll:iS (.seq x y)=iS y:=by simp[iS,hl]
    have⟨s1,s2⟩:=ihy.2 ay h2 Q;refine⟨λhn e Z μ a w g s p u=> ?_,λV C=> ?_⟩
    .simp only[yu]at g;refine Yq (ihx.1 ax F _ e Z μ a w g s p u) (λe' Z' E U w' hq g1 g2 g3 g4 g5=> ?_) λx' U w' hx hp=> ?_
     .exact wp_mono (s1 (hll▸hn) e' Z' E U w' hq g2 g3 g4) λx'' a'' w'' h''=>h''.trans g1 g5
     have⟨M,e',Z',E,h0,h1',h2',h3'⟩:=Lm hp hx;refine⟨M,e',Z',E,h1', ?_,h3'⟩
     grind
    rw[hll]at C;have⟨J,L,hf,hJ⟩:=s2 V C
    have hlab:findLabel (.seq x y) V=O J:=by
     have:findLabel x V=Y:=Gv _ _ (by
      unfold JN at H;rw[C]at H
      simpa using H)
     simp[findLabel,hf,this]
    have hnj:ax.noJump=Za:=by
     grind
    refine⟨J,L,hlab,λμ0 w0=>⟨λe Z μ a w g s p u hμ X=> ?_,(hJ μ0 w0).2⟩⟩;simp only[yu]at g;refine Yq (ihx.1 ax F _ e Z μ a w (WY hM _ _ e Z g) s p u) (λe' Z' E U w' hq g1 g2 g3 g4 g5=> ?_) λx' U w' hx hp=> ?_
    .exact(hJ μ0 w0).1 e' Z' E U w' hq.2 g2 g3 g4 (Mu.le_trans hμ g1) (X.trans g5)
    have⟨M,e',Z',E,h0,h1',h2',h3',h4',h5',h6',h7'⟩:=Lm hp hx;refine Vs (λhg=> ?_) λ_=> ?_
    .subst hg;cases M with
     |exit i=>
      have k1:i=Fc+2*V:=h1';have:=Rm hnj<|h2'.1 i rfl;omega
     |_=>exact h1'.elim
    refine⟨M,e',Z',E,h1', ?_,Mu.le_trans hμ h3',h4',h5',h6',X.trans h7'⟩;cases M with
    |normal=>exact(h0 rfl).elim
    |exit i=>exact h2'.2
    |ret=>exact h2'.2
   cases h
  cases h
 |cond c x y ihx ihy=>
  refine(λA=>⟨A,YN.of rfl rfl A⟩) ?_;intro ac h Q e Z μ a w g s p u;simp only[mW,PI,rT]at h;split at h
  .rename_i c' ax ay h0 F h2;injection h with h
   subst h;obtain⟨rfl,k0⟩:=bc h0;have hv:=p.ev k0;simp only[yu]at g;split at g
   .rename_i X;rw[X]at hv;exact wp_cond_true hv.bool_inv (ihx.1 ax F Q e Z μ a w g s p u)
   .rename_i X;rw[X]at hv;exact wp_cond_false hv.bool_inv (ihy.1 ay h2 Q e Z μ a w g s p u)
   exact g.elim
  cases h
 |block id b ih=>
  refine(λA=>⟨A,YN.of rfl rfl A⟩) ?_;intro ac h Q e Z μ a w g s p u;simp only[mW,PI,rT]at h;split at h
  .rename_i hlt;obtain⟨ab,F,h⟩:=aa.1 h;subst h;simp only[yu]at g;refine wp_block<|wp_mono (ih.1 ab F _ e Z μ a w g s p u) λx U w' hx=> ?_;have⟨M,e',Z',E,hxr,hq,g1,g2,g3,g4,g5⟩:=hx;cases M with
   |normal=>
    cases x<;>simp[Ac]at hxr;exact⟨.normal,e',Z',E,trivial,hq,g1,g2,g3,g4,g5⟩
   |exit i=>
    simp only at hq;cases x with
    |exit j=>
     obtain⟨rfl,hj⟩:=hxr;simp only[Exit.inBlock];split
     .rename_i hid;rw[zE hid]at hq;exact⟨.normal,e',Z',E,trivial,hq,g1,g2,g3,g4,g5⟩
     rename_i hid;rw[zF hid]at hq;exact⟨.exit i,e',Z',E,⟨rfl,hj⟩,hq,g1,g2,g3,g4,g5⟩
    |goto l=>
     have hxr':i=Fc+2*l:=hxr;rw[Zh]at hq;exact⟨.exit i,e',Z',E,hxr,hq,g1,g2,g3,g4,g5⟩
    |_=>exact hxr.elim
   |ret=>
    cases x<;>simp[Ac]at hxr;exact⟨.ret,e',Z',E,trivial,hq,g1,g2,g3,g4,g5⟩
  cases h
 |loop b ih=>
  refine(λA=>⟨A,YN.of rfl rfl A⟩) ?_;intro ac h Q e Z μ a w g s p u;simp only[mW,PI,rT]at h;obtain⟨ab,F,h⟩:=aa.1 h;subst h;simp only[yu]at g;have⟨n,hn⟩:=g;exact Uo (f:=yu T ab) (λQ e Z μ a w hf=>ih.1 ab F Q e Z μ a w hf) hn s p u μ.le_refl (Below.refl _ _)
 |scope b ih=>
  refine(λA=>⟨A,YN.of rfl rfl A⟩) ?_;intro ac h Q e Z μ a w g s p u;simp only[mW,PI,rT]at h;split at h
  .rename_i ac' F;split at h
   .rename_i hno;injection h with h
    subst h;have hw':=WY hM _ Q e Z g
    have hng: ∀(V:Nat) (a:Act) (w':World),¬sD B N μ w (Xc ac' Q) (.goto V) a w':=by
     rintro V a w' ⟨ax,e',Z',E,k1,k2,_⟩;cases ax with
     |exit i=>
      have k1:i=Fc+2*V:=k1;have:=Rm hno<|k2.1 i rfl;omega
     |_=>exact k1.elim
    have fin: ∀{x:Exit} {U:Act} {w':World},sD B N μ w (Xc ac' Q) x U w'->sD B N μ w Q x U w':=λh=>aT7 h λ_ _ _ _ h=>h.2
    have⟨s1,s2⟩:=ih.2 ac' F<|Xc ac' Q;cases hl:iS b with
    |none=>
     refine wp_scope_straight<|wp_mono (s1 hl e Z μ a w hw' s p u) λx U w' hx=> ?_;cases x with
     |goto V=>exact(hng V U w' hx).elim
     |_=>exact fin hx
    |some l=>
     have⟨J,L,hf,hJ⟩:=s2 l hl;have⟨j1,j2⟩:=hJ μ w;refine wp_mono (Wy l (Jst B N μ w L) hf hng (j1 e Z μ a w hw' s p u μ.le_refl<|Below.refl _ _) j2) λx U w' hx=>fin hx
   cases h
  cases h
 |exit id=>
  refine(λA=>⟨A,YN.of rfl rfl A⟩) ?_;intro ac h Q e Z μ a w g s p u;simp only[mW,PI,rT]at h;split at h
  .rename_i hlt;injection h with h
   subst h;exact wp_exit ⟨.exit id,e,Z,μ,⟨rfl,hlt⟩,g,μ.le_refl,s,p,u,Below.refl _ _⟩
  cases h
 |ret=>
  refine(λA=>⟨A,YN.of rfl rfl A⟩) ?_;intro ac h Q e Z μ a w g s p u;simp[mW,PI,rT]at h;subst h;exact wp_ret ⟨.ret,e,Z,μ,trivial,g,μ.le_refl,s,p,u,Below.refl _ _⟩
 |_=>
  refine(λA=>⟨A,YN.of rfl rfl A⟩) ?_;intro ac h;simp[mW,PI,rT]at h
def aN1 (p:we T)(u: ∀f,Sim P f<|T f)(c:Code)(g:AC)(h:mW P N c=O g)(Q:AExit->cy->Hp->Prop)(e:cy)(Z:Hp)(μ:Mu)(a:Act)(w:World)(E:yu T g Q e Z)
  (s:R B μ Z w) (C:gq μ N e a.tmps) (A:a.defers=[]):c.wp P (sD B N μ w Q) a w:=(aw9 p u c).1 g h Q e Z μ a w E s C A
end
end
section
open Result renaming andThen_ok->aB
open Sem renaming run_bind->aD,run_pure->bB
open Go.RowKit
def PJ (P:Program):List ResultVar->Option (List ARes)
 |[]=>O []
 | .tmp t::r=>(PJ P r).map (.tmp t:: ·)
 | .cell a t::r=>match B0 P t,lX P t,PJ P r with
  |some Za,O n,O r=>O (.cellN a n::r)
  |some Zb,O _,O r=>O (.cell a::r)
  |_,_,_=>Y
def ar7 (P:Program)(f:FuncId):Option AFn:=match P.funcs[f]? with
 |some g=>match g.body,XB P f with
  |some c,true=>match mW P g.ntmps c,PJ P g.results.toList with
   |some h,O rs=>O ⟨g.ntmps,rs,h⟩
   |_,_=>Y
  |_,_=>Y
 |none=>Y
section
variable {P:Program} {T:i7} {B:Base P} {N:Nat} {μ:Mu} {Z:Hp} {w:World} {e:cy}
def FI (g:Array Value):ResultVar->Sem Value
 | .tmp t=>pure (g.getD t undef)
 | .cell a t=>do loadVar t (<-asAddr (g.getD a undef))
def Ym (p:Func)(g:Array Value):results p g=(do
  let vs<-p.results.mapM (FI g)
  pure (if h:vs.size=1 then vs[0]else .tuple vs)):=rfl
theorem TO {p:Array Value}(V:gq μ N e p)(U:R B μ Z w): ∀(l:List ResultVar) (rs:List ARes) (vs:List Value),PJ P l=O rs->Lr e Z rs=O vs->
  ∃u,(l.mapM<|FI p).run P w= .ok u w/\F2 (VR μ) vs u
 |[],rs,vs,h,s=>by
  simp[PJ]at h;subst h;simp[Lr]at s;subst s;exact⟨[],V2, .nil⟩
 | .tmp t::l,rs,vs,h,s=>by
  simp only[PJ]at h;obtain⟨C,H,h⟩:=aa.1 h;subst h;simp only[Lr]at s;split at s
  .rename_i v E J L;cases s;simp[Pn]at J;subst J;have⟨u,A,M⟩:=TO V U l C E H L;refine⟨p.getD t undef::u, ?_, .cons (V.2 t) M⟩;have hF:(FI p<|.tmp t).run P w= .ok (p.getD t undef) w:=rfl
   simp_all
  .cases s
 | .cell a t::l,rs,vs,h,s=>by
  simp only[PJ]at h;have X:=V.2 a;split at h
  .rename_i n C H J L;cases h;simp only[Lr]at s;split at s
   .rename_i v E A M;cases s;have⟨u,h6,h7⟩:=TO V U l C E L M;simp only[Pn]at A;split at A
    .rename_i b o hb;rw[hb]at X;have⟨g,W,hq⟩:=X.ptr_inv;obtain⟨x,hx,A⟩:=Option.bind_eq_some_iff.1 A;obtain⟨cs,hcs,rfl⟩:=aa.1 A;have⟨F,k1,k2⟩:=U.reads hx W hcs;refine⟨.agg F.toArray::u, ?_, .cons (.agg k2) h7⟩
     have hF:(FI p<|.cell a t).run P w= .ok (.agg F.toArray) w:=by
      simp only[FI,aD,hq,asAddr,bB,aB,loadVar,HB H,if_true,mV J,k1 P w rfl]
     simp_all
    .cases A
   .cases s
  .rename_i n C H J L;cases h;simp only[Lr]at s;split at s
   .rename_i v E A M;cases s;have⟨u,h6,h7⟩:=TO V U l C E L M;simp only[Pn]at A;split at A
    .rename_i b o hb;rw[hb]at X;have⟨g,W,hq⟩:=X.ptr_inv;obtain⟨x,hx,A⟩:=Option.bind_eq_some_iff.1 A;have⟨v',k1,k2⟩:=(U.get hx W.1).cell W.2 o v A;refine⟨v'::u, ?_, .cons k2 h7⟩
     have hF:(FI p<|.cell a t).run P w= .ok v' w:=by
      simp only[FI,aD,hq,asAddr,bB,aB,loadVar,HB H,Bool.false_eq_true,if_false,run_load,k1]
     simp_all
    .cases A
   .cases s
  .cases h
theorem ay8 {af:AFn}(h:ar7 P f=O af)(hM:we T)(hT: ∀g,Sim P g<|T g):Sim P f<|wpF T af:=by
 unfold ar7 at h;split at h
 .rename_i A E;split at h
  .rename_i c hb s;split at h
   .rename_i ac rs h1 h2;injection h with h
    subst h;intro B μ Z w args p K X hR ha;obtain⟨M,X⟩:=X
    have C:yw P f:=by
     unfold XB at s;rw[E]at s;simp only[Bool.and_eq_true,Bool.not_eq_true']at s;exact⟨A,E,s.1,s.2⟩
    refine⟨C,calls_of_wp E hb ?_⟩;have hsz:p.size=args.length:=by simpa using ha.length.symm
    have L:gq μ A.ntmps (cy.of args)<|p++Array.replicate (A.ntmps-p.size) undef:=by
     refine⟨by simp only[Array.size_append,Array.size_replicate];simp only at M;omega,λt=> ?_⟩;unfold cy.of;by_cases ht:t<args.length
     .obtain⟨v',h3,h4⟩:=ha.get t args[t] (List.getElem?_eq_getElem ht)
      have:(p++Array.replicate (A.ntmps-p.size) undef).getD t undef=v':=by
       simp only[Array.getD_eq_getD_getElem?]
       grind
      grind
     have:(p++Array.replicate (A.ntmps-p.size) undef).getD t undef=undef:=by
      simp only[Array.getD_eq_getD_getElem?]
      grind
     rw[this,List.getElem?_eq_none V1];exact VR.undef μ
    refine wp_mono (aN1 hM hT c ac h1 _ _ Z μ ⟨_,[]⟩ w X hR L rfl) λx a' w' hx=> ?_
    obtain⟨ax,e',Z',μ',U,F,g1,g2,g3,g4,g5⟩:=hx
    have J:(match Lr e' Z' rs with
      |some V=>K (Cd V) Z'
      |none=>False)->a'.defers=[]/\∃v,(results A a'.tmps).run P w'= .ok v w'/\bq0 P B μ w K (.returned v) w':=by
     intro F;refine⟨g4, ?_⟩;split at F
     .rename_i V W;obtain⟨H,k1,k2⟩:=TO (P:=P) g3 g2 A.results.toList rs V h2 W;have hl:=k2.length;refine⟨Cd H, ?_,_,Z',_,μ',rfl,F,g1,g2, ?_,g5,rfl⟩
      .rw[Ym,Array.mapM_eq_mapM_toList];simp only[aD,Sem.run_map,k1,aB,bB]
       congr 1
       match H,hl with
       |[],_=>rfl
       |[v],_=>rfl
       |v::u::r,_=>simp[Cd]
      .match V,H,k2 with
       |[],_, .nil=>exact .tuple .nil
       |[v],_, .cons h .nil=>exact h
       |v::u::r,_, .cons h (.cons h' t)=>exact .tuple (.cons h<|.cons h' t)
     .exact F.elim
    cases ax with
    |normal=>
     cases x<;>simp[Ac]at U;exact J F
    |exit id=>exact F.elim
    |ret=>
     cases x<;>simp[Ac]at U;exact J F
   cases h
  cases h
 cases h
end
end
section
open Go.RowKit
section
variable {P:Program} {f:FuncId} {S S':SN}
end
def Hp.Ok (Z:Hp):Prop:= ∀b x,Z.m b=O x->b<Z.n
section
variable {P:Program} {f:FuncId} {S S':SN} {Z Z1:Hp} {K:Value->Hp->Prop}
end
section
variable {T:i7}
end
end
section
section
variable {T:i7} {Q:AExit->cy->Hp->Prop} {q:cy->Hp->Prop} {e:cy} {Z Z':Hp} {a b:AC} {k:Value->Hp->Prop} {v:Value} {K:Value->Hp->Prop}
end
end
section
def aY5 (s:SN):Prop:= ∀args Z (K K':Value->Hp->Prop),(∀r Z',K r Z'->K' r Z')->s args Z K->s args Z K'
section
variable {T:i7} {Q:AExit->cy->Hp->Prop} {e:cy} {Z:Hp} {b:AC} {I:cy->Hp->Prop} {m:cy->Hp->Nat} {e0:cy} {Z0:Hp}
end
section
variable {k:IntKind} {a b:Int}
end
section
variable {a b c d:Value} {l:List Value}
end
section
variable {Z:Hp} {x y:Blk} {i b o:Nat} {z:Option Blk}
end
section
variable {e:cy} {Z:Hp} {rs:List ARes} {t n b o:Nat}
end
section
variable {T:i7} {e:cy} {Z:Hp} {k:Value->Hp->Prop} {q:cy->Hp->Prop}
end
section
variable {T:i7} {q:cy->Hp->Prop} {r:List SItem} {e:cy} {Z:Hp} {i:Nat} {d:Option Nat} {kp:Bool} {is:List Nat} {chk:List<|Nat×(Hp->Prop)}
end
end
section
section
variable {T:i7} {e:cy} {Z:Hp} {k:Value->Hp->Prop}
end
section
variable {Z:Hp} {x:Blk} {i b:Nat} {z:Option Blk}
end
end
section
open IntKind renaming bits->aB,max->aD,min->bB,signed->bD
open List renaming getElem?_eq_none->cB
open Go.RowKit (Below)
structure Row where
 c:Nat
 o:Nat
 ext:Nat
 es:Nat
 cells:List Value
def UK (P:Program)(w:World):Prop:=P.globalNamed "internal/strconv.uint64pow10" ≠Y->Lib.TabIs P w "internal/strconv.uint64pow10" .u64 Lib.pow10Tab
def Base.of {P:Program}(w:World)(s:UK P w):Base P:=⟨w.heap.size,λb=>w.heap[b]?,λw' _ A p=>by
 have h:=s p;unfold Lib.TabIs World.var? at h⊢;cases u:P.globalNamed "internal/strconv.uint64pow10" with
 |none=>exact(p u).elim
 |some g=>
  grind⟩
def pc (rows:List Row):Mu:=λi=>(rows[i]?).map λr=>⟨r.c,r.o,r.ext,r.es,0,Y⟩
def sj (g:Nat)(rows:List Row):Hp:={m:=λi=>im (rows[i]?) λr=>if r.c<g then O ⟨r.cells,Zb,r.es⟩else Y,n:=(hW rows)}
theorem bm0 {P:Program}(F:UK P w){rows:List Row}(h: ∀r∈rows,∀(i:Nat) (v:Value),r.cells[i]?=O v->∃v',w.cell? ⟨r.c,r.o+i,Y⟩=O v'/\VR (pc rows) v v'):
  R (Base.of w F) (pc rows) (sj w.heap.size rows) w:=by
 refine⟨Nat.le_refl _,λ_ _=>rfl,λb H=> ?_,λb x p=> ?_,λb M x V g U p _ _ E=> ?_,λb x g _ s J _ _=>(by
  simp only[pc]at s;cases u:rows[b]? with
  |none=>rw[u]at s;cases s
  |some r=>rw[u]at s;cases s;cases J)⟩
 .simp only[pc,cB H,Option.map_none]
 .simp only[sj]at p;cases u:rows[b]? with
  |none=>rw[u]at p;cases p
  |some r=>
   rw[u,zG]at p;split at p
   .rename_i A;cases p;refine⟨⟨r.c,r.o,r.ext,r.es,0,Y⟩,by simp only[pc,u,Option.map_some],A,rfl,λ_ i v L=>h r (List.mem_of_getElem? u) i v L,λ_ E=>(by cases E),λ_ C=>(by cases C),λC=>by cases C⟩
   .cases p
 .simp only[sj]at p
  grind
def aU5 {g:Nat}{rows:List Row}:(sj g rows).Ok:=by
 intro b x p;rcases Nat.lt_or_ge b (hW rows) with h|h
 .exact h
 simp only[sj,cB h,Option.bind_none]at p;cases p
def bk1 {P:Program}{S:SN}(C:Sim P f S)(s:UK P w){rows:List Row}{args:List Value}{cargs:Array Value}
  (p: ∀r∈rows,∀(i:Nat) (v:Value),r.cells[i]?=O v->∃v',w.cell? ⟨r.c,r.o+i,Y⟩=O v'/\VR (pc rows) v v')
  (g:F2 (VR<|pc rows) args cargs.toList) (h:S args (sj w.heap.size rows) λr _=>r= .bool Za):
  Calls P f cargs w λe w'=>e= .returned (.bool Za)/\Below w.heap.size w w':=by
 refine(C _ _ _ w args cargs _ h (bm0 s p) g).2.mono λx w' E=> ?_
 obtain⟨r,Z',F,H,rfl,rfl,_,_,A,u,_⟩:=E;cases A;exact⟨rfl,u⟩
section
variable {k:IntKind} {w:World} {a:Option Addr} {len cap:Nat} {zs:Zd} {rows:List Row} {j:Nat}
theorem aM8 {x:Addr}(h:w.cell? x=O v):x.block<w.heap.size:=by
 unfold World.cell? at h
 grind
def aq1 {x:Addr}(h:w.cell? (x.add 0)=O v):x.spot=Y:=by
 have:=World.cell?_spot h;simpa[Addr.add]using this
theorem Oj {x:Addr}{i:Nat}(g:x.spot=Y)(h:w.cell? (x.add i)=O v):w.cell? ⟨x.block,x.off+i,Y⟩=O v:=by
 have⟨b,o,s⟩:=x;simp only at g;subst g
 have:(⟨b,o,Y⟩:Addr).add i=⟨b,o+i,Y⟩:=by
  simp only[Addr.add]
  grind
 rwa [this]at h
end
def bn6 {n:Int}(h:(Lit.int .i64 n).wf=Za): -9223372036854775808<=n/\n<=9223372036854775807:=by
 simpa[Lit.wf,bB,aD,bD,aB]using h
def bn7 {n:Int}(h:(Lit.int .u64 n).wf=Za):0<=n/\n<=18446744073709551615:=by
 simpa[Lit.wf,bB,aD,bD,aB]using h
def bu9 {n:Int}(h:(Lit.int .u8 n).wf=Za):0<=n/\n<=255:=by
 simpa[Lit.wf,bB,aD,bD,aB]using h
end
end Go.Ab
namespace Go.V
open Go.Ab
open Option renaming some->O,none->Y
open Bool renaming true->Za,false->Zb
open Decidable renaming decide->Zc
open List renaming length->hW
open Option renaming bind->im
section
open List renaming replicate->bD
open Nat renaming beq->aB,ble->aD
open Option renaming none->bB
inductive Sh where
 |int (k:IntKind)
 |bool
 |str
 |list (s:Sh)
 |pair (a b:Sh)
 deriving DecidableEq
@[reducible] def El :Sh->Type
 | .int _=>Int
 | .bool=>Bool
 | .str=>Zd
 | .list s=>List (El s)
 | .pair a b=>El a×El b
def Sh.w :Sh->Nat
 | .pair a b=>a.w+b.w
 |_=>1
inductive VV where
 |undef
 |bool (b:Bool)
 |int (k:IntKind) (n:Int)
 |str (l:Zd)
 |nilp
 |nils
 |nilf
 |ptr (k o:Nat)
 |pix (k o n i:Nat)
 |pel (k i o:Nat)
 |pin (s:Sh) (x:El s) (o:Nat)
 |lst (s:Sh) (l:List<|El s)
 |tgt (s:Sh) (l:List<|El s)
 |full (k:Nat)
 |part (k lo n:Nat)
 |it (k:Nat) (l:Zd)
 |bld (k:Nat)
 |fn (f:Nat) (a c:List VV)
 |agg (l:List VV)
 |tup (l:List VV)
inductive Blk where
 |dead
 |cells (es:Nat) (fz:Bool) (l:List VV)
 |arr (s:Sh) (fz:Bool) (l:List<|El s)
abbrev ak :=List Blk
abbrev db :=List VV
def lU :db->Nat->VV
 |[],_=> .undef
 |v::_,0=>v
 |_::r,n+1=>lU r n
def rF :db->Nat->VV->db
 |[],0,v=>[v]
 |[],n+1,v=> .undef::rF [] n v
 |_::r,0,v=>v::r
 |a::r,n+1,v=>a::rF r n v
def putO (e:db)(d:Option Nat)(v:VV):db:=match d with
 |some d=>rF e d v
 |none=>e
def ag :ak->Nat->Blk
 |[],_=> .dead
 |b::_,0=>b
 |_::r,n+1=>ag r n
def kR :ak->Nat->Blk->ak
 |[],_,_=>[]
 |_::r,0,b=>b::r
 |a::r,n+1,b=>a::kR r n b
def nth {α:Type}:List α->Nat->Option α
 |[],_=>Y
 |v::_,0=>O v
 |_::r,n+1=>nth r n
def fg (s:ByteArray):Zd:=s.data.toList.map λb=>(b.toNat:Int)
def MN :Value->VV
 | .bool b=> .bool b
 | .int k n=> .int k n
 | .string s=> .str (fg s)
 | .pointer Y=> .nilp
 | .slice Y 0 0=> .nils
 | .nilFunc=> .nilf
 |_=> .undef
def ofC :Value->VV
 | .agg g=> .agg (g.toList.map MN)
 |v=>MN v
def ev (e:db):Operand->VV
 | .tmp t=>lU e t
 | .const v=>ofC v
 | .func f=> .fn f [] []
 | .global _=> .undef
def aT2 :VV->Bool
 | .undef| .agg _| .tup _=>Zb
 |_=>Za
def nM :VV->List VV
 | .agg l=>l
 |v=>[v]
def eX :(s:Sh)->El s->List VV
 | .int k,n=>[.int k n]
 | .bool,b=>[.bool b]
 | .str,l=>[.str l]
 | .list s,l=>[.lst s l]
 | .pair a b,x=>eX a x.1++eX b x.2
def gf (s:Sh)(l:List<|El s):List VV:=l.flatMap<|eX s
def nL (g s:Sh)(x:El g):Option<|El s:=if h:g=s then O (h▸x)else Y
def LX {α:Type}(f:List VV->Option (α×List VV)):Nat->List VV->Option (List α)
 |_,[]=>O []
 |0,_::_=>Y
 |n+1,v::l=>im (f<|v::l) λp=>im (LX f n p.2) λr=>O<|p.1::r
def Blk.frozen :Blk->Bool
 | .dead=>Za
 | .cells _ z _=>z
 | .arr _ z _=>z
def Aa (s:Sh)(f:List VV->Option (El s×List VV)):Blk->Option (List<|El s)
 | .dead=>Y
 | .arr h _ l=>nL (.list h) (.list s) l
 | .cells g _ l=>bif aB g s.w then LX f (hW l) l else Y
def GB (S:ak)(s:Sh)(f:List VV->Option (El s×List VV)):VV->Option (List<|El s)
 | .nils=>O []
 | .lst h l=>nL (.list h) (.list s) l
 | .full k=>Aa s f (ag S k)
 | .part k g n=>im (Aa s f<|ag S k) λl=>O ((l.drop g).take n)
 |_=>Y
def Tr (S:ak)(s:Sh)(f:List VV->Option (El s×List VV)):VV->Option (List<|El s)
 | .full k=>bif (ag S k).frozen then GB S s f (.full k)else Y
 | .part k g n=>bif (ag S k).frozen then GB S s f (.part k g n)else Y
 |v=>GB S s f v
def kH (S:ak):(s:Sh)->List VV->Option (El s×List VV)
 | .int k, .int g n::r=>bif Zc (g=k)then O (n,r)else Y
 | .bool, .bool b::r=>O (b,r)
 | .str, .str l::r=>O (l,r)
 | .list s,v::r=>im (Tr S s (kH S s) v) λl=>O (l,r)
 | .pair a b,l=>im (kH S a l) λp=>im (kH S b p.2) λq=>O ((p.1,q.1),q.2)
 |_,_=>Y
def aa8 (S:ak)(s:Sh)(v:VV):Option<|List<|El s:=GB S s (kH S s) v
def Blk.freeze :Blk->Blk
 | .dead=> .dead
 | .cells g _ l=> .cells g Za l
 | .arr s _ l=> .arr s Za l
def fzv :Nat->ak->VV->ak
 |0,S,_=>S
 |n+1,S,v=>match v with
  | .full k=>(match ag S k with
   | .cells g _ l=>l.foldl (fzv n) (kR S k<|.cells g Za l)
   |b=>kR S k b.freeze)
  | .part k _ _=>(match ag S k with
   | .cells g _ l=>l.foldl (fzv n) (kR S k<|.cells g Za l)
   |b=>kR S k b.freeze)
  |_=>S
def IW (S:ak)(l:List VV):ak:=l.foldl (fzv 3) S
def bi6 (S:ak):VV->ak
 | .full k=>(match ag S k with
  | .cells _ _ l=>IW S l
  |_=>S)
 | .part k _ _=>(match ag S k with
  | .cells _ _ l=>IW S l
  |_=>S)
 |_=>S
section
variable {β:Type}
def gd (b:Bool)(x:Option β):Option β:=cond b x Y
def ix (i:Int)(n:Nat):Option Nat:=cond (Zc (0<=i)&&Zc (i<n)) (O i.toNat) Y
def rd {α:Type}(l:List α)(i:Int):Option α:=cond (Zc<|0<=i) l[i.toNat]? Y
def aG5 (p:Bool):VV->VV->Option VV
 | .int k x, .int g y=>cond (Zc<|k=g) (O<|.int k<|cond p x y) Y
 | .bool x, .bool y=>O (.bool<|cond p x y)
 | .str x, .str y=>O (.str<|cond p x y)
 |_,_=>Y
def aE4 (p:Bool)(x y:VV)(S:ak)(k:VV->ak->Option β):Option β:=match aG5 p x y with
 |some v=>k v S
 |none=>cond p (k x S)<|k y S
def Fb :IntKind->List VV->Option Zd
 |_,[]=>O []
 |k, .int g n::r=>cond (Zc<|g=k) (im (Fb k r) λl=>O<|n::l) Y
 |_,_=>Y
def Oc :List VV->Option (List Bool)
 |[]=>O []
 | .bool b::r=>im (Oc r) λl=>O (b::l)
 |_=>Y
def WL :List VV->Option (List Zd)
 |[]=>O []
 | .str b::r=>im (WL r) λl=>O (b::l)
 |_=>Y
def ac4 (S:ak)(k:VV->ak->Option β):List VV->Nat->Option β
 |[],_=>Y
 |v::r,i=>cond (aB i 0) (k v S)<|ac4 S k r<|i-1
def UQ (cs:List VV)(i:Nat)(S:ak)(k:VV->ak->Option β):Option β:=match cs with
 | .int g n::r=>(match Fb g r with
  |some l=>k (.int g<|(n::l).getD i 0) S
  |none=>Y)
 | .bool b::r=>(match Oc r with
  |some l=>k (.bool<|(b::l).getD i Zb) S
  |none=>Y)
 | .str b::r=>(match WL r with
  |some l=>k (.str<|(b::l).getD i []) S
  |none=>Y)
 |cs=>ac4 S k cs i
def Px (v:VV):List VV->Nat->Nat->Option (List VV)
 |[],_,_=>O []
 |c::r,i,j=>im (aG5 (aB i j) v c) λx=>im (Px v r i<|j+1) λl=>O<|x::l
def aU8 (cells:List VV)(o:Nat):List VV->List VV
 |[]=>cells
 |v::g=>aU8 (cells.set o v) (o+1) g
def L4 (cells:List VV):List (Nat×Nat×VV)->Option (List VV)
 |[]=>O cells
 |(h,g,v)::p=>
  cond (aB (hW<|nM v) g&&aD (h+g) (hW cells)&&(nM v).all aT2) (L4 (cells.take h++nM v++cells.drop (h+g)) p) Y
def CP (e:db)(l:List<|Nat×Nat×Operand):List<|Nat×Nat×VV:=l.map λ(o,s,x)=>(o,s,ev e x)
def qc (l:List VV):Bool:=l.all aT2
def Rw (S:ak)(n:Nat)(agg:Bool)(a:VV)(k:VV->ak->Option β):Option β:=
 let g (h:List VV) (o:Nat):Option β:=cond agg (gd (aD (o+n)<|hW h)<|k (.agg<|(h.drop o).take n) S) (match nth h o with
  |some v=>k v S
  |none=>Y)
 match a with
 | .ptr b o=>(match ag S b with
  | .cells _ _ l=>g l o
  |_=>Y)
 | .pix b o m i=>(match ag S b with
  | .cells _ _ l=>gd (!agg&&aD (o+m) (hW l)) (UQ ((l.drop o).take m) i S k)
  |_=>Y)
 | .pel b i o=>(match ag S b with
  | .arr s _ l=>im (l[i]?) λx=>g (eX s x) o
  |_=>Y)
 | .pin s x o=>g (eX s x) o
 |_=>Y
def Yy (S:ak)(a:VV)(cs:List VV)(k:ak->Option β):Option β:=match a with
 | .ptr b o=>(match ag S b with
  | .cells g Zb l=>gd (aD (o+hW cs)<|hW l) (k<|kR S b<|.cells g Zb<|aU8 l o cs)
  |_=>Y)
 | .pix b o m i=>(match ag S b,cs with
  | .cells g Zb l,[v]=>gd (aD (o+m)<|hW l) (match Px v ((l.drop o).take m) i 0 with
   |some h=>k (kR S b<|.cells g Zb<|l.take o++h++l.drop (o+m))
   |none=>Y)
  |_,_=>Y)
 | .pel b i o=>(match ag (IW S cs) b with
  | .arr s Zb l=>im (l[i]?) λx=>(match kH (IW S cs) s (aU8 (eX s x) o cs)with
   |some (y,[])=>gd (aD (o+hW cs) s.w) (k<|kR (IW S cs) b<|.arr s Zb<|l.set i y)
   |_=>Y)
  |_=>Y)
 |_=>Y
def vz (k:IntKind)(f:BitVec k.bits->BitVec k.bits->BitVec k.bits)(x y:Int):Int:=k.wrap (f (BitVec.ofInt k.bits x)<|BitVec.ofInt k.bits y).toNat
def Xj (op:BinOp)(g:IntKind)(x y:Int)(k:VV->Option β):Option β:=match op with
 | .add=>k (.int g<|g.wrap<|x+y)
 | .sub=>k (.int g<|g.wrap<|x-y)
 | .mul=>k (.int g<|g.wrap<|x*y)
 | .quo=>gd (Zc<|y≠0) (k<|.int g<|g.wrap<|x.tdiv y)
 | .rem=>gd (Zc<|y≠0) (k<|.int g<|x.tmod y)
 | .and=>k (.int g (vz g (· &&& ·) x y))
 | .or=>k (.int g (vz g (· ||| ·) x y))
 | .xor=>k (.int g (vz g (· ^^^ ·) x y))
 | .andNot=>k (.int g<|vz g (λa b=>a&&& ~~~b) x y)
 | .eql=>k (.bool<|Zc<|x=y)
 | .neq=>k (.bool<|Zc<|x≠y)
 | .lss=>k (.bool<|Zc<|x<y)
 | .leq=>k (.bool<|Zc<|x<=y)
 | .gtr=>k (.bool<|Zc<|y<x)
 | .geq=>k (.bool<|Zc<|y<=x)
 |_=>Y
def aH0 (op:BinOp)(g:IntKind)(x y:Int)(k:VV->Option β):Option β:=match op with
 | .shl=>gd (Zc<|0<=y) (k<|.int g<|g.wrap<|x*2 ^ (min y.toNat g.bits))
 | .shr=>gd (Zc<|0<=y) (k<|.int g<|x.fdiv<|2 ^ (min y.toNat g.bits))
 |_=>Y
def ko (a b:Nat):Bool:=aD (a+b) 9223372036854775807
def bu3 (op:BinOp)(x y:Zd)(k:VV->Option β):Option β:=match op with
 | .add=>gd (ko (hW x)<|hW y) (k<|.str<|x++y)
 | .eql=>k (.bool<|Zc<|x=y)
 | .neq=>k (.bool<|Zc<|x≠y)
 |_=>Y
def bg3 (op:BinOp)(x y:VV)(k:VV->Option β):Option β:=match x,y with
 | .int g a, .int h b=>cond (xr op) (aH0 op g a b k) (cond (Zc<|g=h) (Xj op g a b k) Y)
 | .str a, .str b=>cond (xr op) Y (bu3 op a b k)
 |_,_=>Y
def aC3 (g p:Bool):Bool:=cond g (!p) p
def Blk.live :Blk->Bool
 | .dead=>Zb
 |_=>Za
def OR (S:ak):VV->Bool
 | .ptr k _=>(ag S k).live
 | .pix k _ _ _=>(ag S k).live
 | .pel k _ _=>(ag S k).live
 | .pin _ _ _=>Za
 |_=>Zb
def bi1 (S:ak):Nat->VV->VV->Option Bool
 |0, .bool a, .bool b=>O (a==b)
 |1, .nilp, .nilp=>O Za
 |1, .nilp,v=>cond (OR S v) (O Zb) Y
 |1,v, .nilp=>cond (OR S v) (O Zb) Y
 |2, .nils, .nils=>O Za
 |3, .nilf, .nilf=>O Za
 |3, .nilf, .fn _ _ _=>O Zb
 |3, .fn _ _ _, .nilf=>O Zb
 |_,_,_=>Y
def aj5 :Nat->VV->VV->Option Bool
 |0, .bool a, .bool b=>O (a==b)
 |1, .int k a, .int g b=>cond (Zc<|k=g) (O<|Zc<|a=b) Y
 |2, .str a, .str b=>O (Zc<|a=b)
 |_,_,_=>Y
def Qt :List Nat->List VV->List VV->Option Bool
 |[],[],[]=>O Za
 |[k],[a],[b]=>aj5 k a b
 |k::g,a::r,b::s=>im (aj5 k a b) λp=>im (Qt g r s) λq=>O (p&&q)
 |_,_,_=>Y
def unK (op:UnOp)(x:VV)(k:VV->Option β):Option β:=match op,x with
 | .neg, .int g n=>k (.int g<|g.wrap<|0-n)
 | .xor, .int g n=>k (.int g<|g.wrap (BitVec.ofInt g.bits (if g.signed then-1 else g.max) ^^^ BitVec.ofInt g.bits n).toNat)
 | .not, .bool b=>k (.bool !b)
 |_,_=>Y
def Q8 :VV->Option Int
 | .int _ n=>O n
 |_=>Y
def lenOf (S:ak):VV->Option Nat
 | .nils=>O 0
 | .lst _ l=>O (hW l)
 | .full b=>(match ag S b with
  | .arr _ _ l=>O (hW l)
  | .cells g _ l=>O (hW l / g)
  | .dead=>Y)
 | .part b _ n=>cond (ag S b).live (O n) Y
 | .str l=>O (hW l)
 |_=>Y
def na {α:Type}(l:List α)(h g:Int):List α:=(l.take g.toNat).drop h.toNat
def Fe :Option VV->Option Int
 |none=>O 0
 |some v=>Q8 v
def yO (n:Nat):Option VV->Option Int
 |none=>O n
 |some v=>Q8 v
def dz (h g:Int)(n:Nat):Bool:=Zc (0<=h)&&Zc (h<=g)&&Zc (g<=n)
def Yt (S:ak)(es:Nat)(x:VV)(p h:Option VV)(k:VV->ak->Option β):Option β:=
 match lenOf S x with
 |none=>Y
 |some n=>match Fe p,yO n h with
  |some a,O b=>(match x with
   | .nils=>gd (dz a b n) (k .nils S)
   | .lst s l=>gd (aB es s.w) (match p,h with
    |none,Y=>k (.lst s l) S
    |_,_=>gd (dz a b n)<|k (.lst s<|na l a b) S)
   | .full q=>(match ag S q with
    | .arr s _ _=>gd (aB es s.w) (gd (dz a b n)<|k (.part q a.toNat<|b.toNat-a.toNat) S)
    | .cells g _ _=>gd (aB es g&&aD 1 es) (gd (dz a b n)<|k (.part q a.toNat<|b.toNat-a.toNat) S)
    | .dead=>Y)
   | .part q o _=>(match ag S q with
    | .arr s _ _=>gd (aB es s.w) (gd (dz a b n)<|k (.part q (o+a.toNat)<|b.toNat-a.toNat) S)
    | .cells g _ _=>gd (aB es g&&aD 1 es) (gd (dz a b n)<|k (.part q (o+a.toNat)<|b.toNat-a.toNat) S)
    | .dead=>Y)
   |_=>Y)
  |_,_=>Y
def Lu (S:ak)(x:VV)(h g:Option VV)(k:VV->ak->Option β):Option β:=match x with
 | .str l=>(match Fe h,yO (hW l) g with
  |some a,O b=>gd (dz a b<|hW l) (k (.str<|na l a b) S)
  |_,_=>Y)
 |_=>Y
def Lt (S:ak)(es n:Nat)(x:VV)(p h:Option VV)(k:VV->ak->Option β):Option β:=match x with
 | .ptr b o=>(match ag S b with
  | .cells g Zb l=>(match Fe p,yO n h with
   |some a,O c=>gd (aB es g&&aD 1 es&&aB (o % es) 0&&aD (o+n*es) (hW l)&&dz a c n&&Zc (a<n)) (k (.part b (o / es+a.toNat)<|c.toNat-a.toNat) S)
   |_,_=>Y)
  | .arr s Zb l=>(match Fe p,yO n h with
   |some a,O c=>gd (aB es s.w&&aB o 0&&aD n (hW l)&&dz a c n&&Zc (a<n)) (k (.part b a.toNat<|c.toNat-a.toNat) S)
   |_,_=>Y)
  |_=>Y)
 |_=>Y
def bj7 :Value->Bool
 | .int .u8 n=>Zc (n=0)
 |_=>Zb
def Xr (es:Nat)(z:List Value):Bool:=aB es 1&&aD 20 (hW z)&&z.all bj7
def Gl (es:Nat)(z:List Value):Blk:=cond (Xr es z) (.arr (.int .u8) Zb<|bD (hW z) (0:Int))<|.cells es Zb<|z.map MN
def bk9 (S:ak)(n:Nat):VV->Option VV
 | .ptr b o=>cond (ag S b).live (O<|.ptr b<|o+n) Y
 | .pel b i o=>cond (ag S b).live (O<|.pel b i<|o+n) Y
 | .pin s x o=>O (.pin s x<|o+n)
 | .pix b o m i=>cond (ag S b).live (cond (aB n 0) (O<|.pix b o m i) Y) Y
 |_=>Y
def bj2 (S:ak)(es:Nat)(x i:VV)(k:VV->ak->Option β):Option β:=match i with
 | .int _ i=>(match x with
  | .lst s l=>gd (aB es s.w) (im (rd l i) λy=>k (.pin s y 0) S)
  | .full b=>(match ag S b with
   | .arr s _ l=>gd (aB es s.w) (im (ix i<|hW l) λj=>k (.pel b j 0) S)
   | .cells g _ l=>gd (aB es g&&aD 1 es) (im (ix i<|hW l / es) λj=>cond (aB es 1) (k (.pix b 0 (hW l) j) S)<|k (.ptr b<|j*es) S)
   | .dead=>Y)
  | .part b o n=>(match ag S b with
   | .arr s _ _=>gd (aB es s.w) (im (ix i n) λj=>k (.pel b (o+j) 0) S)
   | .cells g _ _=>gd (aB es g&&aD 1 es) (im (ix i n) λj=>cond (aB es 1) (k (.pix b o n j) S)<|k (.ptr b<|(o+j)*es) S)
   | .dead=>Y)
  |_=>Y)
 |_=>Y
def az7 (S:ak)(ln es:Nat)(x i:VV)(k:VV->ak->Option β):Option β:=match x,i with
 | .ptr b o, .int _ i=>gd (ag S b).live (im (ix i ln) λj=>cond (aB es 1) (k (.pix b o ln j) S)<|k (.ptr b<|o+j*es) S)
 |_,_=>Y
def Dm (l:List VV)(a n:Nat):List VV:=(l.drop a).take n
def du (n bytes:Nat):Bool:=Zc (n*bytes<=140737488355328)&&aD 1 bytes
inductive Base where
 |none
 |cells (es:Nat) (l:List VV)
 |arr (s:Sh) (l:List<|El s)
def CJ (S:ak)(es:Nat):VV->Option (Base×Option Nat)
 | .nils=>O (.none,Y)
 | .full b=>(match ag S b with
  | .arr s Zb l=>cond (aB es s.w) (O (.arr s l,O b)) bB
  | .cells g Zb l=>cond (aB es g&&aD 1 es) (O (.cells es l,O b)) bB
  |_=>bB)
 | .part b 0 n=>(match ag S b with
  | .arr s Zb l=>cond (aB es s.w) (O (.arr s<|l.take n,O b)) bB
  | .cells g Zb l=>cond (aB es g&&aD 1 es) (O (.cells es<|l.take<|n*es,O b)) bB
  |_=>bB)
 |_=>bB
inductive More where
 |cells (l:List VV)
 |lst (s:Sh) (l:List<|El s)
def qf (S:ak)(es:Nat):VV->Option More
 | .nils=>O (.cells [])
 | .lst s l=>cond (aB es s.w) (O<|.lst s l) Y
 | .str l=>cond (aB es 1) (O<|.lst (.int .u8) l) Y
 | .full b=>(match ag S b with
  | .arr s _ l=>cond (aB es s.w) (O<|.lst s l) Y
  | .cells g _ l=>cond (aB es g&&aD 1 es) (O<|.cells l) Y
  |_=>Y)
 | .part b o n=>(match ag S b with
  | .arr s _ l=>cond (aB es s.w) (O<|.lst s<|(l.drop o).take n) Y
  | .cells g _ l=>cond (aB es g&&aD 1 es) (O<|.cells<|(l.drop<|o*es).take<|n*es) Y
  |_=>Y)
 |_=>Y
def rO (S:ak):Option Nat->ak
 |none=>S
 |some b=>kR S b .dead
def ae2 (S:ak)(s:Sh)(l:List VV):Option<|List<|El s:=LX (kH S s) (hW l) l
def To (S:ak)(bytes:Nat)(s:Sh)(kill:Option Nat)(a b:List<|El s)(k:VV->ak->Option β):Option β:=
 gd (du (hW a+hW b) bytes) (k (.full<|hW S)<|rO S kill++[.arr s Zb<|a++b])
def M0 (S:ak)(es bytes:Nat)(A:Option<|Base×Option Nat)(E:Option More)(k:VV->ak->Option β):Option β:=
 match A,E with
 |some (.arr s l,g),O (.lst F p)=>im (nL (.list F) (.list s) p) λu=>To S bytes s g l u k
 |some (.arr s l,g),O (.cells h)=>(match ag (IW S h) (g.getD 0)with
  | .arr _ Zb _=>im (ae2 (IW S h) s h) λu=>To (IW S h) bytes s g l u k
  |_=>Y)
 |some (.cells _ l,g),O (.lst s p)=>(match ag (IW S l) (g.getD 0)with
  | .cells _ Zb _=>im (ae2 (IW S l) s l) λC=>To (IW S l) bytes s g C p k
  |_=>Y)
 |some (.none,g),O (.lst s p)=>To S bytes s g [] p k
 |some (.cells es l,g),O (.cells h)=>gd (du ((hW l+hW h) / es) bytes&&qc h) (k (.full<|hW S)<|rO S g++[.cells es Zb<|l++h])
 |some (.none,g),O (.cells h)=>gd (du (hW h / es) bytes&&aD 1 es&&qc h) (k (.full<|hW S)<|rO S g++[.cells es Zb h])
 |_,_=>Y
def SX (S:ak)(es bytes:Nat)(x y:VV)(k:VV->ak->Option β):Option β:=M0 S es bytes (CJ S es x) (qf S es y) k
def PF (S:ak):VV->Option (ak×Base)
 | .lst s l=>O (S, .arr s l)
 | .full q=>(match ag S q with
  | .arr s _ l=>O (kR S q (ag S q).freeze, .arr s l)
  |_=>Y)
 |_=>Y
def TX (S:ak)(x g p:VV)(k:VV->ak->Option β):Option β:=match g,p with
 | .int _ h, .int _ m=>gd (Zc<|h=m) (match x with
  | .nils=>gd (Zc<|h=0) (k .nils S)
  |v=>(match PF S v with
   |some (S1, .arr s l)=>gd (dz 0 h<|hW l) (k (.tgt s<|l.take h.toNat) S1)
   |_=>Y))
 |_,_=>Y
def YF (S:ak)(es bytes:Nat)(s:Sh)(l:List<|El s)(u:Option More)(k:VV->ak->Option β):Option β:=match u with
 |some (.lst A p)=>im (nL (.list A) (.list s) p) λg=>gd (aB es s.w&&aD 1 (hW g)) (To S bytes s Y l g k)
 |some (.cells h)=>im (ae2 (IW S h) s h) λg=>gd (aB es s.w&&aD 1 (hW g)) (To (IW S h) bytes s Y l g k)
 |none=>Y
def NZ (S:ak)(es bytes:Nat)(x y:VV)(k:VV->ak->Option β):Option β:=match x with
 | .tgt s l=>YF S es bytes s l (qf S es y) k
 |x=>SX S es bytes x y k
def xW (n:Int):Int:=((UInt8.ofNat n.toNat).toNat:Nat)
def YA (S:ak)(v:VV)(k:VV->ak->Option β):Option β:=match v with
 | .str _=>Y
 |v=>(match qf S 1 v with
  |some (.lst s l)=>im (nL (.list s) (.list<|.int .u8) l) λh=>k (.str<|h.map xW) S
  |some (.cells g)=>im (Fb .u8 g) λl=>k (.str<|l.map xW) S
  |none=>Y)
def Df {α:Type}(l:List α)(o n:Nat)(m:List α):List α:=l.take o++(m.take n++l.drop (o+min n (hW m)))
def Md (g:IntKind)(m:Zd):Nat->List VV->Option (List VV)
 |_,[]=>O []
 |j, .int k n::r=>cond (Zc<|k=g) (im (Md g m (j+1) r) λl=>O<|.int k (m.getD j n)::l) Y
 |_,_=>Y
def ax1 (S:ak)(es:Nat)(d y:VV)(k:VV->ak->Option β):Option β:=
 let h (b o n:Nat):Option β:=match ag S b,qf S es y with
  | .arr s Zb l,O (.lst C A)=>im (nL (.list C) (.list s) A) λg=>gd (aB es s.w) (k (.int .i64 (min (hW g) n:Nat))<|kR S b<|.arr s Zb<|Df l o n g)
  | .arr s Zb l,O (.cells p)=>im (Fb .u64 p) λm=>im (nL (.list<|.int .u64) (.list s) m) λg=>gd (aB es s.w) (k (.int .i64 (min (hW g) n:Nat))<|kR S b<|.arr s Zb<|Df l o n g)
  | .cells 1 Zb l,O (.lst (.int u) m)=>gd (aB es 1&&aD (o+n) (hW l)) (match Md u m 0 ((l.drop o).take n)with
   |some c=>k (.int .i64 (min (hW m) n:Nat)) (kR S b<|.cells 1 Zb<|l.take o++c++l.drop (o+n))
   |none=>Y)
  |_,_=>Y
 match d with
 | .full b=>(match lenOf S d with
  |some n=>h b 0 n
  |none=>Y)
 | .part b o n=>h b o n
 |_=>Y
def Mg :List Value->Option Sh
 |[.int k 0]=>O (.int k)
 |[.bool Zb]=>O .bool
 | .int k 0::r=>im (Mg r) λs=>O (.pair (.int k) s)
 | .bool Zb::r=>im (Mg r) λs=>O (.pair .bool s)
 |_=>Y
def vM :(s:Sh)->El s
 | .int _=>(0:Int)
 | .bool=>Zb
 | .str=>[]
 | .list _=>[]
 | .pair a b=>(vM a,vM b)
def aC1 (S:ak)(es bytes:Nat)(z:List Value)(l c:VV)(k:VV->ak->Option β):Option β:=match l,c,Mg z with
 | .int _ l, .int _ c,O s=>gd (aB es s.w&&Zc (0<=l)&&Zc (l<=c)&&Zc (bytes*c<=140737488355328)&&aD 1 bytes) (k (.full<|hW S)<|S++[.arr s Zb<|bD l.toNat<|vM s])
 |_,_,_=>Y
def WZ (es:Nat)(z:List Value)(l:Int):Option More:=match Mg z with
 |some s=>cond (aB es s.w) (O<|.lst s<|bD l.toNat<|vM s) Y
 |none=>Y
def mH (bytes:Nat)(l:Int):Bool:=Zc (0<=l)&&(Zc (l<=9223372036854775807)&&Zc (l*(bytes:Int)<=281474976710656))
def N0 (S:ak)(es bytes:Nat)(z:List Value)(x l:VV)(k:VV->ak->Option β):Option β:=match l with
 | .int _ l=>gd (mH bytes l) (M0 S es bytes (CJ S es x) (WZ es z l) k)
 |_=>Y
end
end
end Go.V
