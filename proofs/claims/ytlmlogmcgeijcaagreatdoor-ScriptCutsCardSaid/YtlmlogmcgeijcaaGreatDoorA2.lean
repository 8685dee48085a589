/- A part of the proof. No condition. -/
import Derived.Test.YtlmlogmcgeijcaaGreatDoorA1
import Derived.Laws.BytesString
import Derived.Laws.RangeAny
import Derived.Laws.IdiomStrings
import Derived.Laws.Cover4
import Derived.Lib.OthersKept
import Derived.IntWalk
import Derived.Below
set_option linter.all false
namespace Go.Ab
open Option renaming some->O,none->Y
open Bool renaming true->Za,false->Zb
open Decidable renaming decide->Zc
open List renaming length->dt
open Option renaming bind->ek
open Option.some renaming injEq->cc
open Prod.mk renaming injEq->dl
variable {e e' e0:cm}{i j t:Nat}{D:List Nat}{Z:Hp}{w:World}{ao op:AOp}{f:FuncId}{v:Value}{x:Exit}{a:Act}{args:List Operand}{c:Call}
section
open Builtin renaming firstCells -> aD
open Nat renaming le_refl -> aB, lt_of_lt_of_le -> bB
open Go.RowKit
section
variable {P:Program} {o:Oper} {a:Act} {w w':World} {B:Base P} {N:Nat} {μ:Mu} {e:cm} {Z Z':Hp} {v:Value}
def R.iter (h:R B μ Z w)(s:ByteArray):R B (μ.add Z.n ⟨w.heap.size,0,0,1,0,O (.string s)⟩) (Z.add ⟨[.int .i64 0],Za,1⟩) (w.iter s 0)/\μ.le (μ.add Z.n ⟨w.heap.size,0,0,1,0,O (.string s)⟩):=by
 have hf:μ Z.n=Y:=h.fresh _ (aB _);have F:μ.le (μ.add Z.n ⟨w.heap.size,0,0,1,0,O (.string s)⟩):=Mu.le_add hf
 have old: ∀b x,b≠Z.n->(Z.add ⟨[.int .i64 0],Za,1⟩).m b=O x->Z.m b=O x:=by
  intro b x A p;simpa[Hp.add,A]using p
 have new: ∀x,(Z.add ⟨[.int .i64 0],Za,1⟩).m Z.n=O x->x=⟨[.int .i64 0],Za,1⟩:=by
  intro x p;simp[Hp.add]at p;exact p.symm
 have u: ∀b x g,Z.m b=O x->μ b=O g->g.c<w.heap.size:=λb x g p E=>(h.get p E).lt
 have W:(w.iter s 0).heap.size=w.heap.size+1:=by simp[World.iter]
 refine⟨⟨by rw[W];exact Nat.le_succ_of_le h.base,λk hk=>(Below.heap_alloc w _ _ (bB hk h.base)).trans (h.old k hk),λb A=> ?_,λb x p=> ?_,λb X x x' g g' p H hne ho E J=> ?_, ?_⟩,F⟩
 .have:Z.n+1<=b:=A;unfold Mu.add;rw[Zh];exact h.fresh b V1
 .by_cases A:b=Z.n
  .subst A;obtain rfl:=new x p
   exact⟨⟨w.heap.size,0,0,1,0,O (.string s)⟩,ZG,⟨by rw[W];exact Nat.lt_succ_self _,rfl,λU=>(by cases U),λU=>(by cases U),λs' L=>by
    injection L with L
    cases L
    exact⟨h.base,0,rfl,World.iter_heap w s 0⟩,λL=>by injection L with L;cases L⟩⟩
  .have H:=old b x A p;have⟨g,V,M⟩:=h.live b x H;exact⟨g,F _ _ V,(M.mono F).kept (by rw[W];exact Nat.le_succ _) (Below.heap_alloc w _ _ M.lt) (λhi k hk=>Below.heap_alloc w _ _ (h.buf H V hi hk).2.1)⟩
 .by_cases A:b=Z.n
  .subst A;have C:X≠Z.n:=λe=>hne e.symm
   have:g.c=w.heap.size:=by simp[Mu.add]at E;rw[<-E]
   have M:μ X=O g':=by simpa[Mu.add,C]using J
   have:=u X x' g' (old _ _ C H) M;omega
  .have V:μ b=O g:=by simpa[Mu.add,A]using E
   have hx1:=old b x A p;by_cases C:X=Z.n
   .subst C;have:g'.c=w.heap.size:=by simp[Mu.add]at J;rw[<-J]
    have:=u b x g hx1 V;omega
   .have M:μ X=O g':=by simpa[Mu.add,C]using J
    exact h.inj b X x x' g g' hx1 (old _ _ C H) hne ho V M
 .refine h.sep.of (λb x g p E=> ?_) (λb x g p E hi _=> ?_)
  .by_cases A:b=Z.n
   .subst A;have e1:g=⟨w.heap.size,0,0,1,0,O (.string s)⟩:=by simp[Mu.add]at E;exact E.symm
    subst e1;exact .inr ⟨λU=>(by injection U with U;cases U),λb1 x1 g1 k V M h3 h4 e=>by have:=(h.buf V M h3 h4).2.1;simp only at e;omega⟩
   .exact .inl ⟨x,old b x A p,by simpa[Mu.add,A]using E⟩
  .unfold iK;rw[show(w.iter s 0).heap[g.c]?=w.heap[g.c]? from Below.heap_alloc w _ _ (u b x g p E)]
def R.newB (h:R B μ Z w){t:TypeId}(ht:HL P t=Za):R B (μ.add Z.n ⟨w.heap.size,0,0,1,t,O .nilFunc⟩) (Z.add ⟨[.string ByteArray.empty],Za,1⟩) (w.alloc (.cells #[.pointer Y, .slice Y 0 0] t))/\μ.le (μ.add Z.n ⟨w.heap.size,0,0,1,t,O .nilFunc⟩):=by
 have hf:μ Z.n=Y:=h.fresh _ (aB _);have J:μ.le (μ.add Z.n ⟨w.heap.size,0,0,1,t,O .nilFunc⟩):=Mu.le_add hf
 have old: ∀b x,b≠Z.n->(Z.add ⟨[.string ByteArray.empty],Za,1⟩).m b=O x->Z.m b=O x:=by
  intro b x u E;simpa[Hp.add,u]using E
 have new: ∀x,(Z.add ⟨[.string ByteArray.empty],Za,1⟩).m Z.n=O x->x=⟨[.string ByteArray.empty],Za,1⟩:=by
  intro x E;simp[Hp.add]at E;exact E.symm
 have s: ∀b x g,Z.m b=O x->μ b=O g->g.c<w.heap.size:=λb x g E V=>(h.get E V).lt
 have X:(w.alloc (.cells #[.pointer Y, .slice Y 0 0] t)).heap[w.heap.size]?=O (.cells #[.pointer Y, .slice Y 0 0] t (0,0)):=heap_alloc_new w _
 have hbn:iK (w.alloc (.cells #[.pointer Y, .slice Y 0 0] t)) w.heap.size=Y:=by
  unfold iK;rw[X];rfl
 refine⟨⟨Nat.le_trans h.base V2,λb u=>(Below.heap_alloc w _ _ (bB u h.base)).trans (h.old b u),λb u=> ?_,λb x E=> ?_,λb H x x' g L E C W ho V A=> ?_,λb x g E V hi k hk H x' L C A=> ?_⟩,J⟩
 .have:Z.n+1<=b:=u;unfold Mu.add;rw[Zh];exact h.fresh b V1
 .by_cases u:b=Z.n
  .subst u;obtain rfl:=new x E
   exact⟨⟨w.heap.size,0,0,1,t,O .nilFunc⟩,ZG,⟨V2,rfl,λh0=>(by cases h0),λh0=>(by cases h0),λs' hs=>(by injection hs with hs;cases hs),λ_=>
    ⟨ht, .pointer Y,ByteArray.empty, .inl rfl,rfl,h.base, .slice Y 0 0,X,World.ownsRowF_nil _ _ _ _,by simp[Value.ownBlock]⟩⟩⟩
  .have C:=old b x u E;have⟨g,M,U⟩:=h.live b x C;exact⟨g,J _ _ M,(U.mono J).kept V2 (Below.heap_alloc w _ _ U.lt) (λhi k hk=>Below.heap_alloc w _ _ (h.buf C M hi hk).2.1)⟩
 .by_cases u:b=Z.n
  .subst u;have p:H≠Z.n:=λe=>W e.symm
   have:g.c=w.heap.size:=by simp[Mu.add]at V;rw[<-V]
   have U:μ H=O L:=by simpa[Mu.add,p]using A
   have:=s H x' L (old _ _ p C) U;omega
  .have M:μ b=O g:=by simpa[Mu.add,u]using V
   have F:=old b x u E;by_cases p:H=Z.n
   .subst p;have:L.c=w.heap.size:=by simp[Mu.add]at A;rw[<-A]
    have:=s b x g F M;omega
   .have U:μ H=O L:=by simpa[Mu.add,p]using A
    exact h.inj b H x x' g L F (old _ _ p C) W ho M U
 .by_cases u:b=Z.n
  .subst u;have e1:g.c=w.heap.size:=by simp[Mu.add]at V;rw[<-V]
   rw[e1,hbn]at hk;cases hk
  .have M:μ b=O g:=by simpa[Mu.add,u]using V
   have F:=old b x u E
   have hkw:iK w g.c=O k:=by
    rw[<-hk];unfold iK;rw[Below.heap_alloc w _ _ (s b x g F M)]
   have hklt:=(h.buf F M hi hkw).2.1;by_cases p:H=Z.n
   .subst p;have e1:L.c=w.heap.size:=by simp[Mu.add]at A;rw[<-A]
    refine⟨V1,λ_ _ hk'=> ?_⟩;rw[e1,hbn]at hk';cases hk'
   .have U:μ H=O L:=by simpa[Mu.add,p]using A
    have hx2:=old H x' p C;have⟨m1,m2⟩:=h.sep b x g F M hi k hkw H x' L hx2 U;refine⟨m1,λW hi'=> ?_⟩;have:=m2 W hi';unfold iK at this⊢;rw[Below.heap_alloc w _ _ (s H x' L hx2 U)];exact this
def ay6 {t:TypeId}(C:o.op= .alloc t)(E:HL P t=Za)(F:oP P t=O [.pointer Y, .slice Y 0 0])(p:AOp.newB.run e Z=O (v,Z'))(h:R B μ Z w):kU P o a w B μ v Z':=by
 have⟨L,s,u,M⟩:=mz F;simp only[AOp.run,cc,dl]at p;obtain⟨rfl,rfl⟩:=p;have⟨H,J⟩:=h.newB E;have A:L.cells= #[.pointer Y, .slice Y 0 0]:=Array.toList_inj.1 u;refine⟨_,_,_, .pointer (O ⟨w.heap.size,0,Y⟩), ?_, .inl rfl,J,H, ?_,(Below.refl _ _).alloc h.base _⟩
 .simp[execOp,C,Instr.alloc,s,newVar,newRow,A]
 .exact .iter (g:=⟨w.heap.size,0,0,1,t,O .nilFunc⟩) ZG rfl
def R.step (h:R B μ Z w){b:Nat}{x:Blk}{g:G}{s:ByteArray}(hx:Z.m b=O x)(ho:x.own=Za)(hg:μ b=O g)(J:g.it=O (.string s))(q:Nat):
  R B μ (Z.set b (O ⟨[.int .i64 (q:Int)],Za,x.es⟩)) (w.iterAt g.c s q):=by
 have hl:=h.get hx hg;have⟨o1,p,o3,o4⟩:=hl.iter s J;have E: ∀k,k≠g.c->(w.iterAt g.c s q).heap[k]?=w.heap[k]?:=λk V=>Lib.iterAt_other w _ k s q V
 have X:(w.iterAt g.c s q).heap.size=w.heap.size:=Lib.iterAt_size w _ s q
 have old: ∀C A,C≠b->(Z.set b (O ⟨[.int .i64 (q:Int)],Za,x.es⟩)).m C=O A->Z.m C=O A:=by
  intro C A L u;simpa[Hp.set,L]using u
 have new: ∀A,(Z.set b (O ⟨[.int .i64 (q:Int)],Za,x.es⟩)).m b=O A->A=⟨[.int .i64 (q:Int)],Za,x.es⟩:=by
  intro A u;simp[Hp.set]at u;exact u.symm
 refine⟨by rw[X];exact h.base,λk V=>(E k V1).trans (h.old k V),h.fresh,λC A u=> ?_,λb1 b2 x1 x2 g1 g2 h1 h2 W hown hg1 hg2=> ?_, ?_⟩
 .by_cases L:C=b
  .subst L;obtain rfl:=new A u
   exact⟨g,hg,⟨by rw[X];exact hl.lt,hl.es,λh0=>(by rw[J]at h0;cases h0),λh0=>(by rw[J]at h0;cases h0),λs' M=>by
    rw[J]at M;injection M with M
    cases M
    exact⟨o1,q,rfl,Lib.iterAt_heap w _ s p q o4⟩,λM=>by rw[J]at M;injection M with M;cases M⟩⟩
  .have U:=old C A L u;have⟨g',h1,h2⟩:=h.live C A U;exact⟨g',h1,h.stays U h1 (by rw[X];exact aB _) g.c (λk V _=>E k V) (λe=>h.inj b C x A g g' hx U (λe=>L e.symm) ho hg h1 e.symm) (λhi V=>((h.sep C A g' U h1 hi _ V b x g hx hg).1 rfl))⟩
 .have H: ∀C A,(Z.set b (O ⟨[.int .i64 (q:Int)],Za,x.es⟩)).m C=O A->∃y,Z.m C=O y/\y.own=A.own:=by
   intro C A u;by_cases L:C=b
   .subst L;obtain rfl:=new A u;exact⟨x,hx,ho⟩
   .exact⟨A,old C A L u,rfl⟩
  have⟨y1,hy1,e1⟩:=H _ _ h1;have⟨y2,hy2,_⟩:=H _ _ h2;exact h.inj b1 b2 y1 y2 g1 g2 hy1 hy2 W (e1.trans hown) hg1 hg2
 .have oldl: ∀C A,(Z.set b (O ⟨[.int .i64 (q:Int)],Za,x.es⟩)).m C=O A->∃y,Z.m C=O y:=by
   intro C A u;by_cases L:C=b
   .subst L;exact⟨x,hx⟩
   .exact⟨A,old C A L u⟩
  refine h.sep.of (λC A g' u F=> .inl (let⟨y,hy⟩:=oldl C A u;⟨y,hy,F⟩)) (λC A g' u F hi _=> ?_);have W:C≠b:=λe=>by subst e;rw[hg]at F;cases F;rw[J]at hi;injection hi with hi;cases hi
  unfold iK;rw[E _ (λe=>h.inj b C x A g g' hx u (λe=>W e.symm) ho hg F e.symm)]
def Jy {μ:Mu}: ∀{cs g:List Value} {l:Zd},F2 (VR μ) cs g->Bp cs=O l->g=l.map (Value.int .u8)
 |[],_,l,h,p=>by
  cases h;simp[Bp]at p;subst p;rfl
 |c::cs,_,l,h,p=>by
  cases h with
  |cons C E=>
   rename_i J g;unfold Bp at p;split at p
   .rename_i s;cases s
   .rename_i n r s;injection s with u A
    subst u;subst A;have⟨L,F,H⟩:=Option.map_eq_some_iff.1 p;subst H;rw[Jy E F,C.int_inv];rfl
   .cases p
def ah5 {s d t:TypeId}{x:Operand}(ho:o.op= .convert s d x)(hs:P.underlying s=O (.slice t))(ht:P.underlying t=O (.int .u8))(X:P.underlying d=O .string)(hx:dq x=Za)(E:(AOp.strOf x).run e Z=O (v,Z'))(he:ga μ N e a.tmps)(H:R B μ Z w):kU P o a w B μ v Z':=by
 have h:=he.ev hx;simp only[AOp.run]at E;split at E
 .rename_i p n c hp;rw[hp]at h;split at E
  .rename_i cs M;obtain⟨l,hl,E⟩:=Option.map_eq_some_iff.1 E;simp only[dl]at E;obtain⟨rfl,rfl⟩:=E;have⟨arr,h1,h2⟩:=Br (P:=P) (es:=1) (n:=n) (ln:=n) rfl (aB _) M H h;have W:=Jy h2 hl;have g:=h1 w rfl
   have A: ∀(q:Option Addr) (J:Nat),a.eval x= .slice q n J->(n=0∨∃z,q=O z)->(execOp a.eval o).run P w= .ok (.value (.string (U1 l))) w:=by
    intro q J C L;rw[C]at g;cases q with
    |none=>
     rcases L with L|⟨z,L⟩
     .subst L;simp[aD]at g;subst g;have U:l=[]:=by simpa using W.symm
      subst U;simp[execOp,ho,C,run_convert_bytes_string w s d t Y 0 J hs ht X,Conv.bytesToString,U1]
     .cases L
    |some z=>
     have F:(loadCells z n).run P w= .ok (l.map (Value.int .u8)).toArray w:=by
      simp only[aD,Nat.mul_one]at g;rw[g,<-W]
     simp[execOp,ho,C,run_convert_bytes_string w s d t (O z) n J hs ht X,run_bytesToString w z n J l F,U1]
   generalize C:a.eval x=u at h;cases h with
   |nils=>exact .same H (A Y 0 C (.inl rfl)) (.string _)
   |slice V k2 k3 k4=>exact .same H (A _ _ C (.inr ⟨_,rfl⟩)) (.string _)
   |slice0 A' V=>exact .same H (A _ _ C (.inl rfl)) (.string _)
   |sliceX V k2=>exact .same H (A _ _ C (.inr ⟨_,rfl⟩)) (.string _)
   |sliceX0 A' V=>exact .same H (A _ _ C (.inl rfl)) (.string _)
  .cases E
 .cases E
end
end
section
open Go.RowKit
section
variable {P:Program} {o:Oper} {a:Act} {w:World} {B:Base P} {N:Nat} {μ:Mu} {e:cm} {Z Z':Hp} {v:Value}
def yD {x y:Option Operand}(h:ay9 x=O y):x=y/\∀u,y=O u->dq u=Za:=by
 unfold ay9 at h;split at h
 .rename_i x;obtain⟨z,s,h⟩:=Option.map_eq_some_iff.1 h;obtain⟨rfl,p⟩:=bc s;subst h;exact⟨rfl,λu g=>by injection g with g;exact g▸p⟩
 .injection h with h
  subst h;exact⟨rfl,λu g=>by cases g⟩
def AOp.isCall :AOp->Bool
 | .call _ _| .callv _ _=>Za
 |_=>Zb
def an1 {op:BinOp}{t M:TypeId}{x y:Operand}(E:o.op= .binOp op t x y M)(h:Ta P op t x y=O ao)(F:ao.run e Z=O (v,Z'))(C:ga μ N e a.tmps)(A:R B μ Z w):kU P o a w B μ v Z':=by
 unfold Ta at h;split at h
 .split at h
  .rename_i g p;obtain⟨rfl,s⟩:=bc g;obtain⟨rfl,u⟩:=bc p;cases h;exact ag9 E s u F C A
  .cases h
 .split at h
  .rename_i g p;obtain⟨rfl,s⟩:=bc g;obtain⟨rfl,u⟩:=bc p;cases h;exact ag9 E s u F C A
  .cases h
 .split at h
  .rename_i H g p;obtain⟨rfl,s⟩:=bc g;obtain⟨rfl,u⟩:=bc p;cases h;exact C7 E rfl H s u F C A
  .rename_i H g p;obtain⟨rfl,s⟩:=bc g;obtain⟨rfl,u⟩:=bc p;cases h;exact C7 E rfl H s u F C A
  .cases h
 .split at h
  .rename_i H g p;obtain⟨rfl,s⟩:=bc g;obtain⟨rfl,u⟩:=bc p;cases h;exact C7 E rfl H s u F C A
  .rename_i H g p;obtain⟨rfl,s⟩:=bc g;obtain⟨rfl,u⟩:=bc p;cases h;exact C7 E rfl H s u F C A
  .cases h
 .rename_i L;split at h
  .rename_i J g p;obtain⟨rfl,s⟩:=bc g;obtain⟨rfl,u⟩:=bc p;cases h;exact ah0 E rfl L J s u F C A
  .rename_i J g p;obtain⟨rfl,s⟩:=bc g;obtain⟨rfl,u⟩:=bc p;cases h;exact ah0 E rfl L J s u F C A
  .cases h
 .cases h
def Yq (U:o.op= .call c)(h:Dn P c=O ao)(hc:ao.isCall=Zb)(V:ao.run e Z=O (v,Z'))(M:ga μ N e a.tmps)(L:R B μ Z w):kU P o a w B μ v Z':=by
 unfold Dn at h;split at h
 .split at h
  .obtain⟨x,_,h⟩:=Option.map_eq_some_iff.1 h;subst h;simp[AOp.isCall]at hc
  .cases h
 .obtain⟨x,_,h⟩:=Option.map_eq_some_iff.1 h;subst h;simp[AOp.isCall]at hc
 .rename_i g;split at h
  .rename_i u J;split at h
   .rename_i E F p C;obtain⟨rfl,s⟩:=bc p;obtain⟨rfl,H⟩:=bc C;split at h
    .rename_i W X hz;split at h
     .rename_i A;cases h;exact Oy U g u J E (.inl ⟨_,F⟩) W X hz A s H V M L
     .cases h
    .cases h
   .rename_i E F p C;obtain⟨rfl,s⟩:=bc p;obtain⟨rfl,H⟩:=bc C;split at h
    .rename_i W X hz;split at h
     .rename_i A;cases h;exact Oy U g u J E (.inr F) W X hz A s H V M L
     .cases h
    .cases h
   .rename_i E F p C;obtain⟨rfl,s⟩:=bc p;obtain⟨rfl,H⟩:=bc C;split at h
    .rename_i W X hz;split at h
     .rename_i A;cases h;exact Ux U g u J E ⟨_,F⟩ W X hz A.1 A.2 s H V M L
     .cases h
    .cases h
   .cases h
  .cases h
 .rename_i g;split at h
  .rename_i u J;split at h
   .rename_i hu p C;obtain⟨rfl,s⟩:=bc p;obtain⟨rfl,H⟩:=bc C;split at h
    .rename_i W;cases h;exact ay2 U g u J hu W s H V M L
    .cases h
   .cases h
  .cases h
 .rename_i g;split at h
  .rename_i u J;split at h
   .rename_i hu p;obtain⟨rfl,s⟩:=bc p;cases h;exact aP7 U g u J hu s V M L
   .cases h
  .cases h
 .rename_i g;split at h
  .rename_i u J;split at h
   .rename_i hu p;obtain⟨rfl,s⟩:=bc p;cases h;exact ay0 U g u J hu s V M L
   .cases h
  .cases h
 .rename_i g;split at h
  .rename_i u;split at h
   .rename_i p C;obtain⟨rfl,s⟩:=bc p;obtain⟨rfl,H⟩:=bc C;cases h;exact ay5 U g u s H V M L
   .cases h
  .cases h
 .rename_i g;split at h
  .rename_i u;split at h
   .rename_i p C;obtain⟨rfl,s⟩:=bc p;obtain⟨rfl,H⟩:=bc C;cases h;exact ah1 U g u s H V M L
   .cases h
  .cases h
 .cases h
def aB8 (h:Tc P o=O ao)(hc:ao.isCall=Zb)(u:ao.run e Z=O (v,Z'))(C:ga μ N e a.tmps)(A:R B μ Z w):kU P o a w B μ v Z':=by
 unfold Tc at h;split at h
 .rename_i g;obtain⟨x,p,h⟩:=Option.map_eq_some_iff.1 h;obtain⟨rfl,s⟩:=bc p;subst h;exact Wc (.inl g) s u C A
 .rename_i g;obtain⟨x,p,h⟩:=Option.map_eq_some_iff.1 h;obtain⟨rfl,s⟩:=bc p;subst h;exact Wc (.inr g) s u C A
 .rename_i g;split at h
  .rename_i p J U;obtain⟨rfl,s⟩:=bc p;obtain⟨rfl,L⟩:=bc J;obtain⟨rfl,W⟩:=bc U;cases h;exact ay7 g s L W u C A
  .cases h
 .rename_i g;split at h
  .rename_i V;split at h
   .rename_i M;cases h;exact ay6 g V M u A
   .cases h
  .split at h
   .rename_i M;cases h;exact ag8 g M u A
   .cases h
 .rename_i g;split at h
  .rename_i p;obtain⟨rfl,s⟩:=bc p;cases h;exact aP5 g s u C A
  .cases h
 .rename_i g;split at h
  .rename_i F M;split at h
   .rename_i X;obtain⟨ps,hp,h⟩:=Option.map_eq_some_iff.1 h;subst h;exact Kk g F M X hp u C A
   .cases h
  .rename_i F M;split at h
   .rename_i H;obtain⟨ps,hp,h⟩:=Option.map_eq_some_iff.1 h;subst h;exact Mn g F H M hp u C A
   .cases h
  .cases h
 .rename_i g;split at h
  .rename_i F;split at h
   .rename_i H M;split at h
    .rename_i E;obtain⟨ps,hp,h⟩:=Option.map_eq_some_iff.1 h;subst h;exact NH g F H M E.1 E.2.1 E.2.2 hp u C A
    .cases h
   .cases h
  .cases h
 .injection h with h
  subst h;cases u
 .rename_i g;split at h
  .rename_i ht p;obtain⟨rfl,s⟩:=bc p;obtain⟨n,H,h⟩:=Option.map_eq_some_iff.1 h;subst h;exact ah2 g ht H s u C A
  .rename_i ht p;obtain⟨rfl,s⟩:=bc p;cases h;exact ay4 g ht s u C A
  .cases h
 .rename_i g;split at h
  .rename_i H p J;obtain⟨rfl,s⟩:=bc p;obtain⟨rfl,L⟩:=bc J;cases h;exact ah4 g H s L u C A
  .cases h
 .rename_i g;obtain⟨x,p,h⟩:=Option.map_eq_some_iff.1 h;obtain⟨rfl,s⟩:=bc p;subst h;exact Sl g s u C A
 .rename_i g;exact an1 g h u C A
 .rename_i g;obtain⟨x,p,h⟩:=Option.map_eq_some_iff.1 h;obtain⟨rfl,s⟩:=bc p;subst h;exact aX3 g s u C A
 .rename_i g;split at h
  .rename_i hs hd p;obtain⟨rfl,s⟩:=bc p;cases h;exact ay1 g hs hd s u C A
  .rename_i hs hd p;obtain⟨rfl,s⟩:=bc p;split at h
   .rename_i ht;cases h;exact ah5 g hs ht hd s u C A
   .cases h
  .cases h
 .rename_i g;split at h
  .rename_i h0 p;cases h;exact XS g h0 p u C A
  .cases h
 .rename_i g;split at h
  .rename_i F;split at h
   .rename_i H V M p J;obtain⟨rfl,s⟩:=bc p;obtain⟨rfl,L⟩:=bc J;split at h
    .rename_i E;cases h;exact Qm g F H V M s L E.1 E.2 u C A
    .cases h
   .cases h
  .cases h
 .rename_i g;split at h
  .rename_i F p J U;obtain⟨rfl,s⟩:=bc p;obtain⟨rfl,L⟩:=yD J;obtain⟨rfl,W⟩:=yD U;obtain⟨n,H,h⟩:=Option.map_eq_some_iff.1 h;subst h;exact ah3 g F H s L W u C A
  .rename_i F p J U;obtain⟨rfl,s⟩:=bc p;obtain⟨rfl,L⟩:=yD J;obtain⟨rfl,W⟩:=yD U;cases h;exact Sn g F s L W u C A
  .rename_i F p J U;obtain⟨rfl,s⟩:=bc p;obtain⟨rfl,L⟩:=yD J;obtain⟨rfl,W⟩:=yD U;obtain⟨n,H,h⟩:=Option.map_eq_some_iff.1 h;subst h;exact Sm g F H s L W u C A
  .cases h
 .rename_i g;split at h
  .rename_i F p;obtain⟨rfl,s⟩:=bc p;split at h
   .rename_i hi;split at h
    .rename_i H;split at h
     .cases h
     .rename_i h0;cases h;exact aP8 g F hi H h0 s u C A
    .cases h
   .cases h
  .cases h
 .rename_i g;split at h
  .rename_i F p;obtain⟨rfl,s⟩:=bc p;split at h
   .rename_i hi;split at h
    .rename_i H V;cases h;exact XP g F hi H V s u C A
    .cases h
   .cases h
  .cases h
 .rename_i g;split at h
  .rename_i F p J;obtain⟨rfl,s⟩:=bc p;obtain⟨rfl,L⟩:=bc J;obtain⟨n,H,h⟩:=Option.map_eq_some_iff.1 h;subst h;exact aP6 g F H s L u C A
  .rename_i F p J;obtain⟨rfl,s⟩:=bc p;obtain⟨rfl,L⟩:=bc J;obtain⟨n,H,h⟩:=Option.map_eq_some_iff.1 h;subst h;exact ay3 g F H s L u C A
  .cases h
 .rename_i g;split at h
  .rename_i F p J;obtain⟨rfl,s⟩:=bc p;obtain⟨rfl,L⟩:=bc J;split at h
   .rename_i H V;cases h;exact XR g F H V s L u C A
   .cases h
  .rename_i F p J;obtain⟨rfl,s⟩:=bc p;obtain⟨rfl,L⟩:=bc J;cases h;exact XQ g F s L u C A
  .cases h
 .rename_i g;obtain⟨x,p,h⟩:=Option.map_eq_some_iff.1 h;obtain⟨rfl,s⟩:=bc p;subst h;exact Uy g s u C A
 .rename_i g;exact Yq g h hc u C A
 .injection h with h
  subst h;cases u
 .injection h with h
  subst h;cases u
 .cases h
end
end
section
open Result renaming andThen_ok -> aB
open Sem renaming run_bind -> aD, run_pure -> bB
open Go.RowKit
def QP (ops:Array Oper):Option (Nat×Bool)->Option (Option (Nat×Bool))
 |none=>O Y
 |some (j,g)=>match(ops[j]?).bind (·.dst)with
  |some t=>O (O (t,g))
  |none=>Y
def ab5 (N:Nat):Option Nat->Bool
 |none=>Za
 |some d=>d<N
def Jk (P:Program)(N:Nat)(ops:Array Oper)(o:Oper):Option AOper:=match Tc P o,QP ops o.guard with
 |some op,O g=>if ab5 N o.dst then O ⟨o.dst,op,g⟩else Y
 |_,_=>Y
def Ii (P:Program)(N:Nat)(ops:Array Oper):List Oper->Option (List AOper)
 |[]=>O []
 |o::r=>match Jk P N ops o,Ii P N ops r with
  |some x,O l=>O (x::l)
  |_,_=>Y
def w9 (P:Program)(f:FuncId):Prop:= ∃g,P.funcs[f]?=O g/\g.body.isSome=Za/\(g.name== "runtime.NumGoroutine")=Zb
def aU0 (P:Program)(B:Base P)(μ:Mu)(w:World)(K:Value->Hp->Prop):Ending->World->Prop:=λx w'=>
 ∃r Z' h g,x= .returned h/\K r Z'/\μ.le g/\R B g Z' w'/\VR g r h/\Below B w w'/\P=P
def Yz (P:Program)(f:FuncId)(S:Px):Prop:=
 ∀(B:Base P) μ Z w args (g:Array Value) K,S args Z K->R B μ Z w->F2 (VR μ) args g.toList->w9 P f/\Calls P f g w (aU0 P B μ w K)
def DG :Nat:=1000000
def ym :AExit->Exit->Prop
 | .normal, .normal=>True
 | .exit i, .exit j=>i=j/\j<DG
 | .exit i, .goto l=>i=DG+2*l
 | .ret, .ret=>True
 |_,_=>False
def rT {P:Program}(B:Base P)(N:Nat)(μ:Mu)(w:World)(Q:AExit->cm->Hp->Prop):Exit->Act->World->Prop:=λx h w'=>
 ∃p e' Z' g,ym p x/\Q p e' Z'/\μ.le g/\R B g Z' w'/\ga g N e' h.tmps/\h.defers=[]/\Below B w w'
section
variable {P:Program} {T:iU} {o:Oper} {a:Act} {w:World} {B:Base P} {N:Nat} {μ:Mu} {e:cm} {Z Z':Hp} {v:Value}
def rT.trans {u:Mu}{w':World}{Q:AExit->cm->Hp->Prop}(V:μ.le u)(U:Below B w w'){s:Act}{g:World}(h:rT B N u w' Q x s g):rT B N μ w Q x s g:=by
 have⟨A,e',Z',p,C,E,F,H,J,L,M⟩:=h;exact⟨A,e',Z',p,C,E,Mu.le_trans V F,H,J,L,U.trans M⟩
def OO {ops:Array Oper}{g:Option (Nat×Bool)}(p:QP ops o.guard=O g)(H:ga μ N e a.tmps):Region.wanted o (yielded ops a.tmps)=wanted ⟨o.dst,op,g⟩ e:=by
 unfold QP at p;unfold Region.wanted wanted;split at p
 .rename_i h;cases p;simp[h]
 .rename_i j A h;split at p
  .rename_i t J;cases p;simp only[h];have E:=H.2 t;unfold yielded;rw[J,zG];by_cases s:t<a.tmps.size
   .have C:a.tmps[t]?=O (a.tmps.getD t undef):=by simp[s]
    rw[C];generalize a.tmps.getD t undef=u at*;generalize e t=L at*;cases E<;>simp
    try(rename_i b;cases b<;>cases A<;>rfl)
   .have C:a.tmps[t]?=Y:=Array.getElem?_eq_none (Nat.le_of_not_lt s);have F:a.tmps.getD t undef=undef:=by simp[C]
    rw[F]at E;rw[C];generalize e t=u at*;cases E;simp
  .cases p
def ga.putO (h:ga μ N e a.tmps){d:Option Nat}(g:ab5 N d=Za){v':Value}(p:VR μ v v'):ga μ N (e.putO d v) (a.put d v').tmps:=by
 cases d with
 |none=>exact h
 |some d=>exact h.put d (by simpa[ab5]using g) p
def vF (d:Option Nat)(v':Value):(a.put d v').defers=a.defers:=by cases d<;>rfl
def N6 (h:w9 P f)(args:Array Value)(w:World):(callFunc f args).run P w= .ok (.enter f args) w:=by
 have⟨g,p,s,u⟩:=h;have A:g.body.isNone=Zb:=by cases C:g.body<;>simp[C]at s⊢
 simp only[callFunc,aD,run_program,aB,p,u,A,Bool.false_eq_true,if_false,bB]
def VR.func_inv {f:Fn}{x y:Array Value}{v':Value}(h:VR μ (.func f x y) v'): ∃g p,v'= .func f g p/\F2 (VR μ) x.toList g.toList/\F2 (VR μ) y.toList p.toList:=by
 cases h with
 |func s u=>exact⟨_,_,rfl,s,u⟩
def Ys (h:Tc P o=O (.call f args)): ∃c,o.op= .call c/\Dn P c=O (.call f args):=by
 unfold Tc at h;split at h
 all_goals first
  |exact⟨_,‹_›,h⟩
  |(exfalso;revert h;unfold Ta;(repeat' split)<;>simp)
  |(exfalso;revert h;(repeat' split)<;>simp)
def U8 {f:Operand}(h:Tc P o=O (.callv f args)): ∃c,o.op= .call c/\Dn P c=O (.callv f args):=by
 unfold Tc at h;split at h
 all_goals first
  |exact⟨_,‹_›,h⟩
  |(exfalso;revert h;unfold Ta;(repeat' split)<;>simp)
  |(exfalso;revert h;(repeat' split)<;>simp)
def Tb (h:Dn P c=O (.call f args)):c.callee= .value (.func f)/\Km c.args.toList=O args:=by
 unfold Dn at h;split at h
 .rename_i p;split at h
  .simp at h;obtain⟨g,rfl⟩:=h;exact⟨p,g⟩
  .cases h
 all_goals (exfalso;revert h;(repeat' split)<;>simp)
def QO {f:Operand}(h:Dn P c=O (.callv f args)):c.callee= .value f/\dq f=Za/\Km c.args.toList=O args:=by
 unfold Dn at h;split at h
 .exfalso;revert h;split<;>simp
 .rename_i p;simp at h;obtain⟨g,rfl⟩:=h;exact⟨p,rfl,g⟩
 all_goals (exfalso;revert h;(repeat' split)<;>simp)
def Vs (A: ∀f,Yz P f (T f)){args:List Value}{cargs:Array Value}{k:Value->Hp->Prop}(F:T f args Z k)(u:R B μ Z w)(C:F2 (VR μ) args cargs.toList)
  (g:w9 P f->(execOp a.eval o).run P w= .ok (.enter f cargs) w) {next:Act->World->Prop} {Q:Exit->Act->World->Prop}
  (E: ∀v Z' v' h w',k v Z'->μ.le h->R B h Z' w'->VR h v v'->Below B w w'->next (a.put o.dst v') w'):o.wp P a w next Q:=by
 have⟨p,s⟩:=A f B μ Z w args cargs k F u C;unfold Oper.wp;rw[g p];simp only[Oper.upon];refine s.mono λx w' H=> ?_
 obtain⟨r,Z',W,h,rfl,J,L,M,U,V,_⟩:=H;exact E r Z' W h w' J L M U V
def MI (hT: ∀f,Yz P f (T f))(h:Tc P o=O op){k:Value->Hp->Prop}(s:ci T op e Z k)(L:ga μ N e a.tmps)(U:R B μ Z w)
  {next:Act->World->Prop} {Q:Exit->Act->World->Prop}
  (M: ∀v Z' v' C w',k v Z'->μ.le C->R B C Z' w'->VR C v v'->Below B w w'->next (a.put o.dst v') w'):o.wp P a w next Q:=by
 by_cases W:op.isCall=Za
 .cases op<;>simp[AOp.isCall]at W
  case call f args=>
   have⟨c,X,E⟩:=Ys h;have⟨F,A⟩:=Tb E;have V:=HH L A;simp only[ci]at s;refine Vs (cargs:=c.args.map a.eval) hT s U (by simpa using V) (λp=> ?_) M;simp only[execOp,X,resolve,F,aD,Act.eval,Deferred.ofValue,bB,aB,invoke];simp[N6 p]
  case callv f args=>
   have⟨c,X,E⟩:=U8 h;have⟨F,J,A⟩:=QO E;have V:=HH L A;have hf:=L.ev J;simp only[ci]at s;split at s
   .rename_i g first u hg
    rw[hg]at hf;have⟨x',y',e1,e2,e3⟩:=hf.func_inv;refine Vs (cargs:=x'++c.args.map a.eval++y') hT s U (by simpa using(e2.append V).append e3) (λp=> ?_) M;simp only[execOp,X,resolve,F,e1,aD,Deferred.ofValue,bB,aB,invoke];simp[N6 p]
   .exact s.elim
 .have hr': ∃v Z',op.run e Z=O (v,Z')/\k v Z':=by
   unfold ci at s;cases op<;>simp[AOp.isCall]at W<;>simp only at s
   all_goals
    split at s
    .rename_i v Z' hv;exact⟨v,Z',hv,s⟩
    .exact s.elim
  have⟨v,Z',hv,H⟩:=hr';have⟨nx,w',C,v',E,F,A,J,h5,h6⟩:=aB8 h (by simpa using W) hv L U;unfold Oper.wp;rw[E];rcases F with rfl|⟨rfl,rfl⟩
  .exact M v Z' v' C w' H A J h5 h6
  .exact M v Z' undef C w' H A J h5 h6
def UA (M: ∀f,Yz P f (T f)){ops:Array Oper}{Q:AExit->cm->Hp->Prop}{μ0:Mu}{w0:World}: ∀(l:List Oper) (al:List AOper) (e:cm) (Z:Hp) (μ:Mu) (a:Act) (w:World),Ii P N ops l=O al->zZ T (Q .normal) al e Z->
  R B μ Z w->ga μ N e a.tmps->a.defers=[]->μ0.le μ->Below B w0 w->wpList P ops (rT B N μ0 w0 Q) l a w
 |[],al,e,Z,μ,a,w,h,A,H,E,J,s,p=>by
  simp[Ii]at h;subst h;exact⟨.normal,e,Z,μ,trivial,A,s,H,E,J,p⟩
 |o::l,al,e,Z,μ,a,w,h,A,H,E,J,s,p=>by
  simp only[Ii]at h;split at h
  .rename_i x r u V;cases h;unfold Jk at u;split at u
   .rename_i op g h3 h4;split at u
    .rename_i W;cases u;have C:=OO (op:=op) h4 E;unfold wpList;simp only[zZ]at A;rw[C];split
     .rename_i U;rw[zE U]at A;left;refine MI M h3 A E H λv Z' v' μ' w' hk X L hv F=> ?_
      exact UA M l r _ Z' μ' (a.put o.dst v') w' V hk L ((E.mono X).putO W hv) (by rw[vF];exact J) (Mu.le_trans s X) (p.trans F)
     .rename_i U;rw[zF U]at A;exact UA M l r _ Z μ (a.put o.dst undef) w V A H (E.putO W (VR.undef μ)) (by rw[vF];exact J) s p
    .cases u
   .cases u
  .cases h
end
end
section
open List renaming map_congr_left -> aB, mem_append -> aD
open Go.RowKit
def nF :Operand->List Nat
 | .tmp t=>[t]
 |_=>[]
def am9 :Option Operand->List Nat
 |some x=>nF x
 |none=>[]
def AOp.reads :AOp->List Nat
 | .move x| .box _ x| .load x| .loadN _ x| .nilCheck x| .un _ x| .conv _ x| .off _ x| .fieldV _ _ _ x| .extract x _| .len x| .capN x| .strOf x=>nF x
 | .pick c a b=>nF c++nF a++nF b
 | .alloc _ _| .stuck| .newB=>[]
 | .build _ u| .buildSlice _ _ _ u=>u.flatMap λp=>nF p.2.2
 | .store _ a x=>nF a++nF x
 | .bin _ x y| .eqv _ _ x y| .eqCells _ _ x y| .idx _ x y| .idxA _ _ x y| .indexV _ _ _ x y| .indexS x y| .append _ _ x y| .appendZ _ _ _ x y| .copy _ x y| .most x y| .least x y| .makeSlice _ _ _ x y=>nF x++nF y
 | .mkFunc _ g A=>g.flatMap nF++A.flatMap nF
 | .slice _ x s h| .sliceStr x s h| .sliceArr _ _ x s h=>nF x++am9 s++am9 h
 | .call _ g=>g.flatMap nF
 | .callv f g=>nF f++g.flatMap nF
def bq {x:Operand}(h: ∀t∈nF x,e t=e' t):e.ev x=e'.ev x:=by
 cases x<;>first|rfl|exact h _ (by simp[nF])
def yy {x:Option Operand}(h: ∀t∈am9 x,e t=e' t):x.map e.ev=x.map e'.ev:=by
 cases x with
 |none=>rfl
 |some x=>simp only[Option.map_some];rw[bq h]
def FD {g:List Operand}(h: ∀t∈g.flatMap nF,e t=e' t):g.map e.ev=g.map e'.ev:=by
 apply aB;intro x s;exact bq λt p=>h t (List.mem_flatMap.2 ⟨x,s,p⟩)
def N8 {g:List (Nat×Nat×Operand)}(h: ∀t∈g.flatMap (λp=>nF p.2.2),e t=e' t):(g.map λ(o,s,x)=>(o,s,e.ev x))=g.map λ(o,s,x)=>(o,s,e'.ev x):=by
 apply aB;rintro⟨o,s,x⟩ A;simp only;rw[bq λt u=>h t (List.mem_flatMap.2 ⟨_,A,u⟩)]
def Cd (h: ∀t∈op.reads,e t=e' t):op.run e Z=op.run e' Z:=by
 cases op<;>simp only[AOp.reads,aD]at h<;>simp only[AOp.run]
 case move x=>rw[bq h]
 case pick c a b=>rw[bq λt g=>h t (.inl (.inl g)),bq λt g=>h t (.inl (.inr g)),bq λt g=>h t (.inr g)]
 case box es x=>rw[bq h]
 case build z ps=>rw[N8 h]
 case buildSlice es ln z ps=>rw[N8 h]
 case load x=>rw[bq h]
 case loadN n x=>rw[bq h]
 case store n a x=>rw[bq λt g=>h t (.inl g),bq λt g=>h t (.inr g)]
 case nilCheck x=>rw[bq h]
 case bin op x y=>rw[bq λt g=>h t (.inl g),bq λt g=>h t (.inr g)]
 case eqv kd neg x y=>rw[bq λt g=>h t (.inl g),bq λt g=>h t (.inr g)]
 case eqCells neg ks x y=>rw[bq λt g=>h t (.inl g),bq λt g=>h t (.inr g)]
 case un op x=>rw[bq h]
 case conv k x=>rw[bq h]
 case mkFunc f xs cs=>rw[FD λt g=>h t (.inl g),FD λt g=>h t (.inr g)]
 case makeSlice es by_ z l c=>rw[bq λt g=>h t (.inl g),bq λt g=>h t (.inr g)]
 case slice es x lo hi=>rw[bq λt g=>h t (.inl (.inl g)),yy λt g=>h t (.inl (.inr g)),yy λt g=>h t (.inr g)]
 case sliceStr x lo hi=>rw[bq λt g=>h t (.inl (.inl g)),yy λt g=>h t (.inl (.inr g)),yy λt g=>h t (.inr g)]
 case sliceArr es n x lo hi=>rw[bq λt g=>h t (.inl (.inl g)),yy λt g=>h t (.inl (.inr g)),yy λt g=>h t (.inr g)]
 case off n x=>rw[bq h]
 case idx es x i=>rw[bq λt g=>h t (.inl g),bq λt g=>h t (.inr g)]
 case idxA ln es x i=>rw[bq λt g=>h t (.inl g),bq λt g=>h t (.inr g)]
 case fieldV fo n agg x=>rw[bq h]
 case indexV ln es agg x i=>rw[bq λt g=>h t (.inl g),bq λt g=>h t (.inr g)]
 case indexS x i=>rw[bq λt g=>h t (.inl g),bq λt g=>h t (.inr g)]
 case extract x i=>rw[bq h]
 case append es by_ s x=>rw[bq λt g=>h t (.inl g),bq λt g=>h t (.inr g)]
 case appendZ es by_ z s x=>rw[bq λt g=>h t (.inl g),bq λt g=>h t (.inr g)]
 case copy es d s=>rw[bq λt g=>h t (.inl g),bq λt g=>h t (.inr g)]
 case len x=>rw[bq h]
 case capN x=>rw[bq h]
 case strOf x=>rw[bq h]
 case most x y=>rw[bq λt g=>h t (.inl g),bq λt g=>h t (.inr g)]
 case least x y=>rw[bq λt g=>h t (.inl g),bq λt g=>h t (.inr g)]
def SO {T:iU}{k:Value->Hp->Prop}(h: ∀t∈op.reads,e t=e' t)(g:ci T op e Z k):ci T op e' Z k:=by
 by_cases s:op.isCall=Za
 .cases op<;>simp[AOp.isCall]at s
  case call f xs=>
   simp only[ci,AOp.reads]at*;rw[<-FD h];exact g
  case callv f xs=>
   simp only[ci,AOp.reads,aD]at*;rw[<-FD λt p=>h t (.inr p),<-bq λt p=>h t (.inl p)];exact g
 .unfold ci at*;cases op<;>simp[AOp.isCall]at s<;>simp only at g⊢ <;>rw[<-Cd h]<;>exact g
def AOper.looks (o:AOper):List Nat:=o.op.reads++(match o.guard with|some (t,_)=>[t]|none=>[])
def Dq {o:AOper}(h: ∀t∈o.looks,e t=e' t):wanted o e=wanted o e':=by
 unfold wanted;unfold AOper.looks at h;cases p:o.guard with
 |none=>rfl
 |some g=>
  rw[p]at h;have:=h g.1 V2;simp only[this]
def vI {Z':Hp}(g:op.still=Za)(h:op.run e Z=O (v,Z')):Z'=Z:=by
 cases op<;>simp[AOp.still]at g<;>simp only[AOp.run]at h
 all_goals
  revert h
  repeat' split
  all_goals first
   |(intro h;cases h;done)
   |(intro h;simp only[cc,dl]at h;exact h.2.symm)
   |(intro h;obtain⟨_,_,h⟩:=Option.map_eq_some_iff.1 h;simp only[dl]at h;exact h.2.symm)
def OG (p:op.still=Za)(g:op.isLoad=Zb)(h:op.run e Z=O (v,Z))(Z':Hp):op.run e Z'=O (v,Z'):=by
 cases op<;>simp[AOp.still]at p
 case slice es x lo hi=>
  cases lo with
  |some _=>simp[AOp.isLoad]at g
  |none=>
   simp only[AOp.run,Bt,Bool.or_true,if_true]at h⊢;revert h
   repeat' split
   all_goals first
    |(intro h;cases h;done)
    |(intro h;simp only[cc,dl]at h⊢;exact⟨h.1,trivial⟩)
    |simp_all
 all_goals first
  |(simp[AOp.isLoad]at g;done)
  |(simp only[AOp.run]at h⊢
    revert h
    repeat' split
    all_goals first
     |(intro h;cases h;done)
     |(intro h;simp only[cc,dl]at h⊢;exact⟨h.1,trivial⟩)
     |(intro h;obtain⟨u,s,h⟩:=Option.map_eq_some_iff.1 h;simp only[dl]at h;rw[s];simp[h.1]))
end
section
open Bool renaming and_eq_true -> bB, not_eq_true' -> cM
open List renaming mem_cons_of_mem -> aB, mem_cons_self -> aD, range -> bD, find?_some -> cB, getD_eq_getElem?_getD -> cD, getElem?_eq_none -> cK, all_eq_true -> cN, mem_of_find?_eq_some -> cO
open Nat renaming lt_or_ge -> cL
open Go.RowKit
def Xz {g:Array Bool}(h:g.getD i Za=Zb):g.getD i Zb=Zb:=by
 rcases cL i g.size with h'|h'
 .simp[h']at h⊢;exact h
 .simp[Array.getElem?_eq_none h']at h
def av3 {g:Array Bool}(p:i<g.size)(h:g.getD i Zb=Zb):g.getD i Za=Zb:=by
 simp[p]at h⊢;exact h
abbrev DL :=List (AOper×List Nat)
def nz (al:DL)(i:Nat):Option Nat:=(al[i]?).bind (·.1.dst)
def FM (al:DL)(i:Nat):List Nat:=match al[i]? with
 |some (o,_)=>o.looks
 |none=>[]
def CZ (al:DL):Bool:=
 (bD (dt al)).all λi=>
  (iq al i).all (λq=>Zc (q<i))&&
  (match nz al i with
   |none=>Za
   |some t=>(bD (dt al)).all λj=>i==j||((nz al j !=O t)&&(!(FM al j).contains t||uA al i j||uA al j i)))
section
variable {al:DL}
def RF (h:CZ al=Za){q:Nat}(g:i<dt al)(p:q∈iq al i):q<i:=by
 have:=List.all_eq_true.1 h i (List.mem_range.2 g);simp only[bB,cN,decide_eq_true_eq]at this;exact this.1 q p
def BY (h:nz al i=O t):i<dt al:=by
 unfold nz at h;rcases cL i (dt al) with h1|h1
 .exact h1
 .simp[cK h1]at h
def TU (h:CZ al=Za)(g:nz al i=O t)(p:nz al j=O t):i=j:=by
 have:=List.all_eq_true.1 h i (List.mem_range.2 (BY g));simp only[bB,g]at this;have:=List.all_eq_true.1 this.2 j (List.mem_range.2 (BY p));by_cases e:i=j
 .exact e
 .simp[p,e]at this
def TT (h:CZ al=Za)(s:nz al i=O t)(g:j<dt al)(u:t∈FM al j)(p:i≠j):uA al i j=Za∨uA al j i=Za:=by
 have:=List.all_eq_true.1 h i (List.mem_range.2 (BY s));simp only[bB,s]at this;have:=List.all_eq_true.1 this.2 j (List.mem_range.2 g);simp[p,u]at this;exact this.2
def AY (al:DL)(D:List Nat):Prop:= ∀i∈D,∀q∈iq al i,q∈D
def Up {acc g:List Nat}{p:Nat}(h:(GX acc g).testBit p=Za): ∃q∈g,q=p∨(acc.getD q 0).testBit p=Za:=by
 have s: ∀(g:List Nat) (m:Nat),(g.foldl (λm q=>m|||2 ^ q|||acc.getD q 0) m).testBit p=Za->m.testBit p=Za∨∃q∈g,q=p∨(acc.getD q 0).testBit p=Za:=by
  intro g;induction g with
  |nil=>intro m h;exact .inl h
  |cons q g A=>
   intro m h;rcases A _ h with h1|⟨C,h1,u⟩
   .simp only[Nat.testBit_or,Nat.testBit_two_pow,Bool.or_eq_true,decide_eq_true_eq]at h1;rcases h1 with(h1|h1)|h1
    .exact .inl h1
    .exact .inr ⟨q,aD .., .inl h1⟩
    .exact .inr ⟨q,aD .., .inr h1⟩
   .exact .inr ⟨C,aB _ h1,u⟩
 rcases s g 0 h with h1|h1
 .simp at h1
 .exact h1
def Mg {u:DL}: ∀(r pre:DL) (g:List Nat),pre++r=u->dt g=dt pre->
  (∀j p,(g.getD j 0).testBit p=Za->∃q∈iq u j,q=p∨(q<j/\(g.getD q 0).testBit p=Za))->
  ∀j p,((R5 g r).getD j 0).testBit p=Za->∃q∈iq u j,q=p∨(q<j/\((R5 g r).getD q 0).testBit p=Za)
 |[],pre,g,_,_,h=>h
 |(o,A)::r,pre,g,U,V,h=>by
  simp only[R5];refine Mg r (pre++[(o,A)]) (g++[GX g A]) (by rw[List.append_assoc];exact U) (by simp[V]) λj p C=> ?_
  have M:iq u (dt g)=A:=by
   unfold iq;rw[<-U,V,List.getElem?_append_right (Nat.le_refl _)];simp
  have s: ∀q,q<dt g->(g++[GX g A]).getD q 0=g.getD q 0:=by
   intro q F;simp only[cD];rw[List.getElem?_append_left F]
  by_cases W:j<dt g
  .rw[s j W]at C;have⟨q,H,J⟩:=h j p C;refine⟨q,H,J.imp id λ⟨L,E⟩=>⟨L, ?_⟩⟩;rw[s q V1];exact E
  .by_cases H:j=dt g
   .subst H;have:(g++[GX g A]).getD (dt g) 0=GX g A:=by simp
    rw[this]at C;have⟨q,J,L⟩:=Up C;refine⟨q,by rw[M];exact J,L.imp id λE=> ?_⟩
    have F:q<dt g:=by
     rcases cL q (dt g) with h6|h6
     .exact h6
     .simp[cD,cK h6]at E
    exact⟨F,by rw[s q F];exact E⟩
   .have:(g++[GX g A]).getD j 0=0:=by
     simp only[cD];rw[cK V3];rfl
    rw[this]at C;simp at C
def W3 {p:Nat}(h:uA al p j=Za): ∃q∈iq al j,q=p∨(q<j/\uA al p q=Za):=
 Mg al [] [] rfl rfl (λj p h=>by simp at h) j p h
def AY.bef (h:AY al D): ∀(p j:Nat),uA al p j=Za->(∀q∈iq al j,q∈D)->p∈D:=by
 intro p j;induction j using Nat.strongRecOn with
 |_ j C=>
  intro g u;obtain⟨q,A,rfl|⟨s,g⟩⟩:=W3 g
  .exact u q A
  .exact C q s g (h q (u q A))
def iL (al:DL)(e0:cm)(g:Nat->Value)(D:List Nat):cm:=λt=>match D.find? (λi=>nz al i==O t)with
 |some i=>g i
 |none=>e0 t
def rY {g:Nat->Value}(h:CZ al=Za)(u:i∈D)(p:nz al i=O t):iL al e0 g D t=g i:=by
 unfold iL;cases s:D.find? (λi=>nz al i==O t)with
 |none=>
  have:=List.find?_eq_none.1 s i u;simp[p]at this
 |some j=>
  have:=cB s;simp only[beq_iff_eq]at this;rw[TU h this p]
def ph {g:Nat->Value}(h: ∀i∈D,nz al i≠O t):iL al e0 g D t=e0 t:=by
 unfold iL;have:D.find? (λi=>nz al i==O t)=Y:=List.find?_eq_none.2 λi p=>by simpa using h i p
 rw[this]
def zx {s:Nat->Value}(h:CZ al=Za)(i:Nat)(C:i∉D):iL al e0 s (i::D)=(iL al e0 s D).putO (nz al i) (s i):=by
 funext t
 cases u:nz al i with
 |none=>
  simp only[cm.putO];by_cases p: ∃j∈D,nz al j=O t
  .obtain⟨j,hj,g⟩:=p;rw[rY h (aB _ hj) g,rY h hj g]
  .rw[ph (λj hj g=>p ⟨j,hj,g⟩)];refine ph λj hj g=> ?_
   rcases List.mem_cons.1 hj with rfl|hj
   .rw[u]at g;cases g
   .exact p ⟨j,hj,g⟩
 |some d=>
  simp only[cm.putO,cm.put];split
  .rename_i A;subst A;exact rY h (aD ..) u
  .rename_i A;by_cases p: ∃j∈D,nz al j=O t
   .obtain⟨j,hj,g⟩:=p;rw[rY h (aB _ hj) g,rY h hj g]
   .rw[ph (λj hj g=>p ⟨j,hj,g⟩)];refine ph λj hj g=> ?_
    rcases List.mem_cons.1 hj with rfl|hj
    .rw[u]at g;exact A (Option.some.inj g).symm
    .exact p ⟨j,hj,g⟩
def E6 (al:DL)(e0:cm)(g:Nat->Value)(j:Nat):cm:=λt=>match(bD (dt al)).find? (λi=>nz al i==O t&&uA al i j)with
 |some i=>g i
 |none=>e0 t
def QC {p:Nat->Value}(h:CZ al=Za)(s:AY al D)(u:j<dt al)(H:j∉D)(J: ∀q∈iq al j,q∈D)(L:t∈FM al j):
  iL al e0 p D t=E6 al e0 p j t:=by
 unfold E6;cases E:(bD (dt al)).find? (λi=>nz al i==O t&&uA al i j)with
 |some i=>
  have:=cB E;simp only[bB,beq_iff_eq]at this;exact rY h (s.bef _ _ this.2 J) this.1
 |none=>
  refine ph λi F g=> ?_
  have C:=List.find?_eq_none.1 E i (List.mem_range.2 (BY g));simp only[g,beq_self_eq_true,Bool.true_and]at C;have A:i≠j:=λe=>H (e▸F)
  rcases TT h g u L A with hb|hb
  .exact C hb
  .exact H (s.bef _ _ hb (s i F))
def aj9 {h g:Nat->Value}(p:AY al D)(u:j∈D)(A: ∀i∈D,g i=h i):E6 al e0 g j=E6 al e0 h j:=by
 funext t
 unfold E6;cases s:(bD (dt al)).find? (λi=>nz al i==O t&&uA al i j)with
 |none=>rfl
 |some i=>
  have:=cB s;simp only[bB,beq_iff_eq]at this;exact A i (p.bef _ _ this.2 (p j u))
def FC {h g:Nat->Value}(s: ∀i∈D,g i=h i):iL al e0 g D=iL al e0 h D:=by
 funext t
 unfold iL;cases p:D.find? (λi=>nz al i==O t)with
 |none=>rfl
 |some i=>exact s i (cO p)
def left (n:Nat)(D:List Nat):Nat:=dt ((bD n).filter λi=> !D.contains i)
def IW {n:Nat}(h:i<n)(g:i∉D):left n (i::D)<left n D:=by
 unfold left
 have:(bD n).filter (λj=> !(i::D).contains j)=((bD n).filter λj=> !D.contains j).filter λj=>j !=i:=by
  rw[List.filter_filter];apply List.filter_congr;intro j _;simp only[List.contains_cons,Bool.not_or];rfl
 rw[this];refine List.length_filter_lt_length_iff_exists.2 ⟨i, ?_,V2⟩;simp[h,g]
def IX {n:Nat}(h:left n D=0)(g:i<n):i∈D:=by
 unfold left at h;have:=List.eq_nil_of_length_eq_zero h;rw[List.filter_eq_nil_iff]at this;have:=this i (List.mem_range.2 g);simpa using this
def ae3 {n:Nat}(p:i<n)(g:i∉D):0<left n D:=by
 rcases Nat.eq_zero_or_pos (left n D)with h|h
 .exact absurd (IX h p) g
 .exact h
end
section
variable {P:Program} {T:iU} {al:DL} {ops:Array Oper} {B:Base P} {N:Nat}
structure Fits (P:Program)(N:Nat)(ops:Array Oper)(al:DL):Prop where
 len:ops.size=dt al
 op: ∀(i:Nat) o,ops[i]?=O o->∃x,al[i]?=O (x,iq al i)/\Jk P N ops o=O x
 pred: ∀(i:Nat) o,ops[i]?=O o->∀q,q∈iq al i↔∃e∈o.after,Region.binds .any e=Za/\e.on=q
def Jv (al:DL)(e0:cm)(g:Nat->Value)(Z:Hp)(chk:List (Nat×(Hp->Prop)))(j:Nat):Prop:=
 ∃x p,al[j]?=O (x,p)/\x.op.still=Za/\
  ((wanted x (E6 al e0 g j)=Za/\x.op.run (E6 al e0 g j) Z=O (g j,Z)/\
   (x.op.isLoad=Za->∃c,(j,c)∈chk/\∀Z',c Z'->x.op.run (E6 al e0 g j) Z'=O (g j,Z')))∨
   (wanted x (E6 al e0 g j)=Zb/\g j=undef))
structure Inv (al:DL)(e0:cm)(val:Nat->Value)(Z:Hp)(chk:List (Nat×(Hp->Prop)))(D L:List Nat):Prop where
 dc:AY al D
 lc:AY al L
 sub: ∀i∈L,i∈D
 lt: ∀i∈D,i<dt al
 tells: ∀j∈D,j∉L->Jv al e0 val Z chk j
def G0 {D:List Nat}{i:Nat}:Qt al D i=Za↔i∉D/\∀q∈iq al i,q∈D:=by
 unfold Qt;simp only[bB,cM,cN,List.contains_iff_mem];constructor
 .rintro⟨g,p⟩;exact⟨λh=>by simp[h]at g,p⟩
 .rintro⟨g,p⟩;exact⟨Z3,p⟩
def zT {D:List Nat}{i:Nat}(h:eb al D=O i):i<dt al/\i∉D/\(∀q∈iq al i,q∈D)/\Dk al i=Za:=by
 unfold eb at h;have g:=cB h;have p:=cO h;simp only[bB]at g;have⟨s,u⟩:=G0.1 g.1;exact⟨List.mem_range.1 p,s,u,g.2⟩
def Mk {D:List Nat}(h:eb al D=Y){i:Nat}(s:i<dt al)(g:i∉D)(p: ∀q∈iq al i,q∈D):Dk al i=Zb:=by
 unfold eb at h;have:=List.find?_eq_none.1 h i (List.mem_range.2 s);simp only[G0.2 ⟨g,p⟩,Bool.true_and]at this;simpa using this
def zQ {D:List Nat}{i:Nat}:i∈bv al D↔i<dt al/\i∉D/\(∀q∈iq al i,q∈D)/\Dk al i=Zb:=by
 unfold bv;simp only[List.mem_filter,List.mem_range,bB,cM,G0,and_assoc]
def Rj {f:Nat->Prop}: ∀{l:List Nat},Lf f l->∀m∈l,f m
 |[],_,m,hm=>by cases hm
 |[x],h,m,hm=>by simp at hm;subst hm;exact h
 |x::y::r,h,m,hm=>by
  rcases List.mem_cons.1 hm with rfl|hm
  .exact h.1
  .exact Rj h.2 m hm
def upd (g:Nat->Value)(i:Nat)(v:Value):Nat->Value:=λk=>if k=i then v else g k
def Jv.upd {g:Nat->Value}{chk:List (Nat×(Hp->Prop))}{D:List Nat}{i j:Nat}(F:AY al D)(s:j∈D)(H:i∉D)(h:Jv al e0 g Z chk j):Jv al e0 (upd g i v) Z chk j:=by
 have⟨x,p,A,C,E⟩:=h;have u: ∀k∈D,Ab.upd g i v k=g k:=λk J=>zF λ(e:k=i)=>H (e▸J)
 have L:=aj9 (e0:=e0) F s u;refine⟨x,p,A,C, ?_⟩;rw[L,u j s];exact E
def Jv.more {s:Nat->Value}{chk g:List (Nat×(Hp->Prop))}{j:Nat}(h:Jv al e0 s Z chk j)(E: ∀c∈chk,c∈g):Jv al e0 s Z g j:=by
 have⟨x,p,u,A,C⟩:=h;refine⟨x,p,u,A,C.imp (λ⟨H,J,L⟩=>⟨H,J,λF=> ?_⟩) id⟩;have⟨c,M,U⟩:=L F;exact⟨c,E _ M,U⟩
def PE {Q:cm->Hp->Prop}(X:CZ al=Za){e0:cm}{Z:Hp}{L:List Nat}: ∀(f:Nat) (s:Nat->Value) (D:List Nat) (chk:List (Nat×(Hp->Prop))) (e:cm),Dr T Q al f D chk e Z->left (dt al) D<=f->e=iL al e0 s D->
  Inv al e0 s Z chk D L->∃V u D' g,Dr T Q al V D' g (iL al e0 u D') Z/\left (dt al) D'<=V/\Inv al e0 u Z g D' L/\eb al D'=Y/\(∀i∈D,u i=s i)/\∀i∈D,i∈D'
 |0,s,D,chk,e,h,hf,he,F=>by
  have hall: ∀i,i<dt al->i∈D:=λi hi=>IX V1 hi
  refine⟨0,s,D,chk,by rw[<-he];exact h,hf,F, ?_,λ_ _=>rfl,λ_ hi=>hi⟩;cases hn:eb al D with
  |none=>rfl
  |some i=>exact absurd (hall i (zT hn).1) (zT hn).2.1
 |f+1,s,D,chk,e,h,hf,he,F=>by
  cases hn:eb al D with
  |none=>exact⟨f+1,s,D,chk,by rw[<-he];exact h,hf,F,hn,λ_ _=>rfl,λ_ hi=>hi⟩
  |some i=>
   have⟨h1,h2,h3,h4⟩:=zT hn;simp only[Dr,hn]at h;split at h
   .rename_i x p hx;have hst:x.op.still=Za:=by simpa[Dk,hx]using h4
    have E: ∀t∈x.looks,e t=E6 al e0 s i t:=by
     intro t ht;rw[he];exact QC X F.dc h1 h2 h3 Zp
    have hdst:nz al i=x.dst:=by simp[nz,hx]
    have W:left (dt al) (i::D)<=f:=by have:=IW h1 h2;omega
    have hDc:AY al (i::D):=by
     intro k hk q hq;rcases List.mem_cons.1 hk with rfl|hk
     .exact aB _ (h3 q hq)
     .exact aB _ (F.dc k hk q hq)
    have M: ∀(v:Value) (g:List (Nat×(Hp->Prop))),Dr T Q al f (i::D) g (e.putO x.dst v) Z->(∀c∈chk,c∈g)->Jv al e0 (upd s i v) Z g i->
      ∃V u D' g,Dr T Q al V D' g (iL al e0 u D') Z/\left (dt al) D'<=V/\Inv al e0 u Z g D' L/\eb al D'=Y/\(∀i∈D,u i=s i)/\∀i∈D,i∈D':=by
     intro v g hw hc ht;have J: ∀k∈D,upd s i v k=s k:=λk hk=>zF λ(e:k=i)=>h2 (e▸hk)
     have henv:e.putO x.dst v=iL al e0 (upd s i v) (i::D):=by
      rw[zx X i h2,FC J,hdst,<-he]
      congr 1
      exact(zE rfl).symm
     have⟨V,u,D',U,g1,g2,g3,g4,g5,g6⟩:=PE X f (upd s i v) (i::D) g _ hw W henv ⟨hDc,F.lc,λk hk=>aB _ (F.sub k hk),λk hk=>(List.mem_cons.1 hk).elim (λe=>e▸h1) (F.lt k),λj hj hjL=>by
      rcases List.mem_cons.1 hj with rfl|hj
      .exact ht
      .exact((F.tells j hj hjL).upd F.dc hj h2).more hc⟩
     exact⟨V,u,D',U,g1,g2,g3,g4,λk hk=>(g5 k (aB _ hk)).trans (J k hk),λk hk=>g6 k (aB _ hk)⟩
    have A: ∀v,E6 al e0 (upd s i v) i=E6 al e0 s i:=by
     intro v
     funext t
     unfold E6;cases hf':(bD (dt al)).find? (λk=>nz al k==O t&&uA al k i)with
     |none=>rfl
     |some k=>
      have:=cB hf';simp only[bB,beq_iff_eq]at this;exact zF λ(e:k=i)=>h2 (e▸F.dc.bef _ _ this.2 h3)
    have hw0:=Dq E;have hr0: ∀Z',x.op.run e Z'=x.op.run (E6 al e0 s i) Z':=λZ'=>Cd λt ht=>E t Zq
    split at h
    .rename_i C;split at h
     .rename_i v Z1 H;obtain rfl:=vI hst H;refine M v _ h (λc hc=>by split<;>simp[hc]) ⟨x,p,hx,hst, .inl ⟨by rw[A,<-hw0];exact C,by rw[A,<-hr0,H];congr 2;exact(zE rfl).symm,λhl=> ?_⟩⟩;refine⟨_,by rw[zE hl];exact aD ..,λZ' hZ'=> ?_⟩;rw[A,<-hr0,hZ']
      congr 2
      exact(zE rfl).symm
     .exact h.elim
    .rename_i C;exact M undef chk h (λc hc=>hc) ⟨x,p,hx,hst, .inr ⟨by rw[A,<-hw0];simpa using C,zE rfl⟩⟩
   .exact h.elim
def FL {m:Nat}{Z:Hp}: ∀{chk:List (Nat×(Hp->Prop))},B5 al m Z chk->∀j c,(j,c)∈chk->uA al j m=Zb->c Z
 |[],_,j,c,h,_=>by cases h
 |(i,d)::r,g,j,c,h,p=>by
  simp only[B5]at g;rcases List.mem_cons.1 h with h|h
  .injection h with s u
   subst s u;rw[zF (by simp[p])]at g;exact g.1
  .split at g
   .exact FL g j c h p
   .exact FL g.2 j c h p
def Fits.ready (u:Fits P N ops al){g:Array Bool}{L:List Nat}(hs:g.size=ops.size)(U: ∀i,i<ops.size->(g.getD i Zb=Za↔i∈L))(H: ∀i∈L,i<ops.size){i:Nat}:
  i∈Region.ready .any ops g↔i<dt al/\i∉L/\∀q∈iq al i,q∈L:=by
 have A: ∀k,g.getD k Zb=Za↔k∈L:=by
  intro k;by_cases J:k<ops.size
  .exact U k J
  .constructor
   .intro h;have:g.getD k Zb=Zb:=by simp[Array.getElem?_eq_none (show g.size<=k by omega)]
    rw[this]at h;cases h
   .intro h;exact absurd (H k h) J
 rw[mem_ready];constructor
 .rintro⟨E,o,p,F⟩;have C:i<ops.size:=(Array.getElem?_eq_some_iff.1 p).1;refine⟨u.len▸C,λh=> ?_,λq hq=> ?_⟩
  .have s:=(A i).2 h;rw[Xz E]at s;cases s
  .obtain⟨e,s,M,rfl⟩:=(u.pred i o p q).1 hq;exact(A _).1 (F e s M)
 .rintro⟨E,p,F⟩;have C:i<ops.size:=u.len▸E;refine⟨av3 V1 ?_,ops[i],Array.getElem?_eq_getElem C,λe W V=>(A _).2 (F _ ((u.pred i _ (Array.getElem?_eq_getElem C) _).2 ⟨e,W,V,rfl⟩))⟩;cases X:g.getD i Zb with
  |true=>exact absurd ((A i).1 X) p
  |false=>rfl
def at6 (hT: ∀f,Yz P f (T f))(hF:Fits P N ops al)(E:CZ al=Za){Q:AExit->cm->Hp->Prop}{μ0:Mu}{w0:World}: ∀(V:Nat) (f:Nat) (X:Nat->Value) (D L:List Nat) (chk:List (Nat×(Hp->Prop))) (u:Array Bool) (Z:Hp) (μ:Mu) (a:Act) (w:World),
  Dr T (Q .normal) al f D chk (iL al e0 X D) Z->left (dt al) D<=f->left (dt al) L<=V->Inv al e0 X Z chk D L->u.size=ops.size->(∀i,i<ops.size->(u.getD i Zb=Za↔i∈L))->
  R B μ Z w->ga μ N (iL al e0 X L) a.tmps->a.defers=[]->μ0.le μ->Below B w0 w->wpAny P .any ops (rT B N μ0 w0 Q) V u a w:=by
 intro V;induction V with
 |zero=>
  intro f X D L chk u Z μ a w h hf hfu hI hs hL hR he hd hμ hb;have hall: ∀i,i<dt al->i∈L:=λi hi=>IX V1 hi
  have hlt: ∀i∈L,i<ops.size:=λi hi=>by rw[hF.len];exact hI.lt i (hI.sub i hi)
  have hnil:Region.ready .any ops u=[]:=by
   cases hr:Region.ready .any ops u with
   |nil=>rfl
   |cons i r=>
    have:=(hF.ready hs hL hlt (i:=i)).1 (by rw[hr];exact aD ..);exact absurd (hall i this.1) this.2.1
  refine⟨hnil, ?_⟩;have⟨f',s,D',C,g1,g2,F,g4,g5,g6⟩:=PE (Q:=Q .normal) E f X D chk _ h hf rfl hI
  have hq:Q .normal (iL al e0 s D') Z:=by
   have hmv:bv al D'=[]:=by
    cases hm:bv al D' with
    |nil=>rfl
    |cons i r=>
     have:=zQ.1 (show i∈bv al D' by rw[hm];exact aD ..);exact absurd (g6 i (hI.sub i (hall i this.1))) this.2.1
   cases f' with
   |zero=>exact g1
   |succ f'=>simp only[Dr,g4,hmv]at g1;exact g1
  have henv:iL al e0 s D'=iL al e0 X L:=by
   funext t
   by_cases hx: ∃j,j<dt al/\nz al j=O t
   .obtain⟨j,U,A⟩:=hx;rw[rY E (g6 j (hI.sub j (hall j U))) A,rY E (hall j U) A,g5 j (hI.sub j (hall j U))]
   .rw[ph (λj _ A=>hx ⟨j,BY A,A⟩),ph (λj _ A=>hx ⟨j,BY A,A⟩)]
  rw[henv]at hq;exact⟨.normal,_,Z,μ,trivial,hq,hμ,hR,he,hd,hb⟩
 |succ V ih=>
  intro f X D L chk u Z μ a w h hf hfu hI hs hL hR he hd hμ hb;have hlt: ∀i∈L,i<ops.size:=λi hi=>by rw[hF.len];exact hI.lt i (hI.sub i hi)
  have⟨f',s,D',C,g1,g2,F,g4,g5,g6⟩:=PE (Q:=Q .normal) E f X D chk _ h hf rfl hI;have hvL: ∀i∈L,s i=X i:=λi hi=>g5 i (hI.sub i hi)
  have he':ga μ N (iL al e0 s L) a.tmps:=by rw[FC hvL];exact he
  have hL': ∀i,i<ops.size->∀(hi:i∉L),(∀k,k<ops.size->((u.setIfInBounds i Za).getD k Zb=Za↔k∈i::L)):=by
   intro i hi hiL k hk;by_cases e:k=i
   .subst e;simp[hs,hk]
   .rw[getD_set_ne Zb (λe'=>e e'.symm),hL k hk];simp[e]
  have hLc: ∀i,(∀q∈iq al i,q∈L)->AY al (i::L):=by
   intro i hp k hk q hq;rcases List.mem_cons.1 hk with rfl|hk
   .exact aB _ (hp q hq)
   .exact aB _ (hI.lc k hk q hq)
  refine⟨λhnil=> ?_,λi hi=> ?_⟩
  .
   have hDL: ∀j∈D',j∈L:=by
    intro j;induction j using Nat.strongRecOn with
    |_ j ihj=>
     intro U;by_cases M:j∈L
     .exact M
     .exfalso;have hr:=(hF.ready hs hL hlt (i:=j)).2 ⟨F.lt j U,M,λq hq=>ihj q (RF E (F.lt j U) hq) (F.dc j U q hq)⟩;rw[hnil]at hr;cases hr
   have hq:Q .normal (iL al e0 s D') Z:=by
    have hmv:bv al D'=[]:=by
     cases hm:bv al D' with
     |nil=>rfl
     |cons i r=>
      exfalso;have:=zQ.1 (show i∈bv al D' by rw[hm];exact aD ..);have hr:=(hF.ready hs hL hlt (i:=i)).2 ⟨this.1,λh=>this.2.1 (F.sub i h),λq hq=>hDL q (this.2.2.1 q hq)⟩;rw[hnil]at hr;cases hr
    cases f' with
    |zero=>exact g1
    |succ f'=>simp only[Dr,g4,hmv]at g1;exact g1
   have henv:iL al e0 s D'=iL al e0 s L:=by
    funext t
    by_cases hx: ∃j∈L,nz al j=O t
    .obtain⟨j,U,A⟩:=hx;rw[rY E (F.sub j U) A,rY E U A]
    .rw[ph (λj U A=>hx ⟨j,hDL j U,A⟩),ph (λj U A=>hx ⟨j,U,A⟩)]
   rw[henv]at hq;exact⟨.normal,_,Z,μ,trivial,hq,hμ,hR,he',hd,hb⟩
  .
   have⟨k1,k2,k3⟩:=(hF.ready hs hL hlt).1 hi;have hio:i<ops.size:=hF.len▸k1;have hoi:ops[i]?=O ops[i]:=Array.getElem?_eq_getElem hio;have⟨x,hx,htr⟩:=hF.op i _ hoi;have hfu':left (dt al) (i::L)<=V:=by have:=IW k1 k2;omega
   have hs':(u.setIfInBounds i Za).size=ops.size:=by simpa using hs
   have hdst:nz al i=x.dst:=by simp[nz,hx]
   unfold Jk at htr;split at htr
   case h_2=>cases htr
   rename_i op g t1 t2;split at htr
   case isFalse=>cases htr
   rename_i t3;cases htr
   have W: ∀t∈(⟨ops[i].dst,op,g⟩:AOper).looks,iL al e0 s L t=E6 al e0 s i t:=by
    intro t ht;exact QC E F.lc k1 k2 k3 Zp
   have hwant:=OO (op:=op) t2 he';rw[Dq W]at hwant;unfold wpOp;rw[hoi];simp only;rw[hwant];by_cases J:i∈D'
   .
    have⟨x',p,y1,y2,y3⟩:=F.tells i J k2;rw[hx]at y1;injection y1 with y1
    injection y1 with y1 _
    subst y1
    have hInv': ∀(μ':Mu) (w':World),Inv al e0 s Z C D' (i::L):=λμ' w'=>
     ⟨F.dc,hLc i k3,λk hk=>(List.mem_cons.1 hk).elim (λe=>e▸J) (F.sub k),F.lt,λj U M=>F.tells j U λh=>M (aB _ h)⟩
    rcases y3 with⟨y4,y5,_⟩|⟨y4,y5⟩
    .rw[y4,zE rfl];left
     have hrun:ci T op (iL al e0 s L) Z λv Z'=>v=s i/\Z'=Z:=by
      have:op.run (iL al e0 s L) Z=O (s i,Z):=by
       rw[Cd (e':=E6 al e0 s i) λt ht=>W t Zq];exact y5
      unfold ci;cases op<;>simp[AOp.still]at y2<;>simp only[this]<;>exact⟨trivial,trivial⟩
     refine MI hT t1 hrun he' hR λv Z' v' μ' w' hk hμ' hR' hv hbel=> ?_
     obtain⟨rfl,rfl⟩:=hk;refine ih f' s D' (i::L) C _ Z' μ' _ w' g1 g2 hfu' (hInv' μ' w') hs' (hL' i hio k2) hR' ?_ ZY (Mu.le_trans hμ hμ') (hb.trans hbel);rw[zx E i k2,hdst];exact(he'.mono hμ').putO t3 hv
    .rw[y4];simp only[Bool.false_eq_true,if_false];refine ih f' s D' (i::L) C _ Z μ _ w g1 g2 hfu' (hInv' μ w) hs' (hL' i hio k2) hR ?_ ZY hμ hb;rw[zx E i k2,hdst,y5];exact he'.putO t3 (VR.undef μ)
   .
    have hpD: ∀q∈iq al i,q∈D':=λq hq=>F.sub q (k3 q hq)
    have hst:=Mk g4 k1 J hpD;have hmem:i∈bv al D':=zQ.2 ⟨k1,J,hpD,hst⟩
    have hlooksD: ∀t∈(⟨ops[i].dst,op,g⟩:AOper).looks,iL al e0 s D' t=E6 al e0 s i t:=by
     intro t ht;exact QC E F.dc k1 J hpD Zp
    have hsame: ∀t∈(⟨ops[i].dst,op,g⟩:AOper).looks,iL al e0 s D' t=iL al e0 s L t:=λt ht=>(hlooksD t ht).trans (W t ht).symm
    obtain⟨f'',rfl⟩: ∃f'',f'=f''+1:=⟨f'-1,by have:=ae3 k1 J;omega⟩
    have hleft:left (dt al) (i::D')<=f'':=by have:=IW k1 J;omega
    simp only[Dr,g4]at g1
    have H:(if wanted ⟨ops[i].dst,op,g⟩ (iL al e0 s D')then ci T op (iL al e0 s D') Z λv Z'=>B5 al i Z' C/\Dr T (Q .normal) al f'' (i::D') C ((iL al e0 s D').putO ops[i].dst v) Z'
      else Dr T (Q .normal) al f'' (i::D') C ((iL al e0 s D').putO ops[i].dst undef) Z):=by
     cases hm:bv al D' with
     |nil=>rw[hm]at hmem;cases hmem
     |cons m r=>
      rw[hm]at g1 hmem;simp only at g1;have:=Rj g1 i hmem;simp only[hx]at this;exact this
    rw[Dq hlooksD]at H
    have hDc:AY al (i::D'):=by
     intro k hk q hq;rcases List.mem_cons.1 hk with rfl|hk
     .exact aB _ (hpD q hq)
     .exact aB _ (F.dc k hk q hq)
    have hlag: ∀j∈i::D',j∉i::L->j∈D'/\j∉L:=λj U M=>
     ⟨(List.mem_cons.1 U).elim (λe=>absurd (e▸aD ..) M) id,λh=>M (aB _ h)⟩
    have hval: ∀v,∀k∈D',upd s i v k=s k:=λv k hk=>zF λ(e:k=i)=>J (e▸hk)
    have henvD: ∀v,(iL al e0 s D').putO ops[i].dst v=iL al e0 (upd s i v) (i::D'):=by
     intro v;rw[zx E i J,FC (hval v),hdst]
     congr 1
     exact(zE rfl).symm
    have henvL: ∀v,(iL al e0 s L).putO ops[i].dst v=iL al e0 (upd s i v) (i::L):=by
     intro v;rw[zx E i k2,FC (λk hk=>hval v k (F.sub k hk)),hdst]
     congr 1
     exact(zE rfl).symm
    split at H
    .rename_i hw1;rw[hw1,zE rfl];left;refine MI hT t1 (SO (λt ht=>hsame t Zq) H) he' hR λv Z' v' μ' w' hk hμ' hR' hv hbel=> ?_
     have⟨hk1,hk2⟩:=hk;rw[henvD v]at hk2;refine ih f'' (upd s i v) (i::D') (i::L) C _ Z' μ' _ w' hk2 hleft hfu' ⟨hDc,hLc i k3,λk hk=>(List.mem_cons.1 hk).elim (λe=>e▸aD ..) λh=>aB _ (F.sub k h),λk hk=>(List.mem_cons.1 hk).elim (λe=>e▸k1) (F.lt k),λj U M=> ?_⟩ hs' (hL' i hio k2) hR' ?_ ZY (Mu.le_trans hμ hμ') (hb.trans hbel)
     .obtain⟨hjD,hjL'⟩:=hlag j U M;have ht:=(F.tells j hjD hjL').upd (i:=i) (v:=v) F.dc hjD J;have⟨x',p,z1,z2,z3⟩:=ht;refine⟨x',p,z1,z2,z3.imp (λ⟨z4,z5,z6⟩=>⟨z4, ?_,z6⟩) id⟩;cases hl:x'.op.isLoad with
      |false=>exact OG z2 hl z5 Z'
      |true=>
       have⟨c,z7,z8⟩:=z6 hl;refine z8 Z' (FL hk1 j c z7 ?_);cases hbf:uA al j i with
       |false=>rfl
       |true=>exact absurd (F.lc.bef _ _ hbf k3) hjL'
     .rw[<-henvL v];exact(he'.mono hμ').putO t3 hv
    .rename_i hw1;rw[zF hw1];rw[henvD undef]at H;refine ih f'' (upd s i undef) (i::D') (i::L) C _ Z μ _ w H hleft hfu' ⟨hDc,hLc i k3,λk hk=>(List.mem_cons.1 hk).elim (λe=>e▸aD ..) λh=>aB _ (F.sub k h),λk hk=>(List.mem_cons.1 hk).elim (λe=>e▸k1) (F.lt k),λj U M=> ?_⟩ hs' (hL' i hio k2) hR ?_ ZY hμ hb
     .obtain⟨hjD,hjL'⟩:=hlag j U M;exact(F.tells j hjD hjL').upd F.dc hjD J
     .rw[<-henvL undef];exact he'.putO t3 (VR.undef μ)
end
end
section
open Go.RowKit
def vd (T:iU):Prop:= ∀f args Z (K K':Value->Hp->Prop),(∀r Z',K r Z'->K' r Z')->T f args Z K->T f args Z K'
def lf {T:iU}(p:vd T){k s:Value->Hp->Prop}(g: ∀v Z',k v Z'->s v Z')(h:ci T op e Z k):ci T op e Z s:=by
 unfold ci at*;cases op<;>simp only at h⊢
 case call f xs=>exact p _ _ _ _ _ g h
 case callv f xs=>
  split at h
  .exact p _ _ _ _ _ g h
  .exact h.elim
 all_goals
  split at h
  .exact g _ _ h
  .exact h.elim
section
variable {T:iU}
def Ds (g:vd T){Q Q':cm->Hp->Prop}(p: ∀e Z,Q e Z->Q' e Z): ∀(l:List AOper) (e:cm) (Z:Hp),zZ T Q l e Z->zZ T Q' l e Z
 |[],e,Z,h=>p e Z h
 |o::l,e,Z,h=>by
  simp only[zZ]at h⊢;split at h
  .rename_i s;rw[zE s];exact lf g (λv Z' u=>Ds g p l _ Z' u) h
  .rename_i s;rw[zF s];exact Ds g p l _ Z h
def NT {f g:Nat->Prop}(h: ∀m,f m->g m): ∀{l:List Nat},Lf f l->Lf g l
 |[],_=>trivial
 |[_],p=>h _ p
 |_::_::_,p=>⟨h _ p.1,NT h p.2⟩
def Fs (s:vd T){Q Q':cm->Hp->Prop}(p: ∀e Z,Q e Z->Q' e Z){ops:List (AOper×List Nat)}: ∀(f:Nat) (done:List Nat) (chk:List (Nat×(Hp->Prop))) (e:cm) (Z:Hp),Dr T Q ops f done chk e Z->Dr T Q' ops f done chk e Z
 |0,done,chk,e,Z,h=>p e Z h
 |f+1,done,chk,e,Z,h=>by
  simp only[Dr]at h⊢;split at h
  .split at h
   .split at h
    .rename_i g;rw[zE g];split at h
     .exact Fs s p f _ _ _ _ h
     .exact h.elim
    .rename_i g;rw[zF g];exact Fs s p f _ _ _ _ h
   .exact h.elim
  .split at h
   .exact p e Z h
   .refine NT (λm u=> ?_) h;split at u
    .split at u
     .rename_i g;rw[zE g];exact lf s (λv Z' A=>⟨A.1,Fs s p f _ _ _ _ A.2⟩) u
     .rename_i g;rw[zF g];exact Fs s p f _ _ _ _ u
    .exact u.elim
def Ft (g:vd T){Q Q':cm->Hp->Prop}(p: ∀e Z,Q e Z->Q' e Z): ∀(l:List SItem) (chk:List (Nat×(Hp->Prop))) (e:cm) (Z:Hp),QU T Q l chk e Z->QU T Q' l chk e Z
 |[],_,e,Z,h=>p e Z h
 |it::l,chk,e,Z,h=>by
  simp only[QU]at h⊢;split at h
  .rename_i u;rw[zE u];split at h
   .rename_i s;rw[zE s];exact lf g (λv Z' A=>⟨A.1,Ft g p l _ _ Z' A.2⟩) h
   .rename_i s;rw[zF s];split at h
    .exact Ft g p l _ _ Z h
    .exact h.elim
  .rename_i u;rw[zF u];exact Ft g p l _ _ Z h
def AV {f:(AExit->cm->Hp->Prop)->cm->Hp->Prop}(s: ∀(Q Q':AExit->cm->Hp->Prop),(∀x e Z,Q x e Z->Q' x e Z)->∀e Z,f Q e Z->f Q' e Z){Q Q':AExit->cm->Hp->Prop}(g: ∀x e Z,Q x e Z->Q' x e Z):
  ∀(n:Nat) (e:cm) (Z:Hp),ju f Q n e Z->ju f Q' n e Z
 |0,_,_,h=>h.elim
 |n+1,e,Z,h=>by
  simp only[ju]at h⊢;refine s _ _ (λx e' Z' p=> ?_) e Z h;cases x with
  |normal=>exact AV s g n e' Z' p
  |exit id=>exact g _ _ _ p
  |ret=>exact g _ _ _ p
def fZ (A:vd T): ∀(c:AC) (Q Q':AExit->cm->Hp->Prop),(∀x e Z,Q x e Z->Q' x e Z)->∀(e:cm) (Z:Hp),w8 T c Q e Z->w8 T c Q' e Z:=by
 intro c;induction c with
 |skip=>intro Q Q' g e Z h;exact g _ _ _ h
 |region ops=>intro Q Q' g e Z h;exact Ds A (g .normal) ops e Z h
 |draw ops=>intro Q Q' g e Z h;exact Fs A (g .normal) _ _ _ e Z h
 |sched F=>intro Q Q' g e Z h;exact Ft A (g .normal) F [] e Z h
 |seq a b s u=>
  intro Q Q' g e Z h;refine s _ _ (λx e' Z' p=> ?_) e Z h;cases x with
  |normal=>exact u Q Q' g e' Z' p
  |exit id=>exact g _ _ _ p
  |ret=>exact g _ _ _ p
 |cond c a b s u=>
  intro Q Q' g e Z h;simp only[w8]at h⊢;split at h
  .exact s Q Q' g e Z h
  .exact u Q Q' g e Z h
  .exact h.elim
 |block id b E=>
  intro Q Q' g e Z h;refine E _ _ (λx e' Z' p=> ?_) e Z h;cases x with
  |normal=>exact g _ _ _ p
  |exit i=>
   simp only at p⊢;split at p
   .rename_i C;rw[zE C];exact g _ _ _ p
   .rename_i C;rw[zF C];exact g _ _ _ p
  |ret=>exact g _ _ _ p
 |loop b E=>
  intro Q Q' g e Z h;have⟨n,H⟩:=h;exact⟨n,AV (f:=w8 T b) E g n e Z H⟩
 |exit id=>intro Q Q' g e Z h;exact g _ _ _ h
 |ret=>intro Q Q' g e Z h;exact g _ _ _ h
def AC.outs :AC->Nat->Bool
 | .seq a b,i| .cond _ a b,i=>a.outs i||b.outs i
 | .block id b,i=>b.outs i&& !(i==id)
 | .loop b,i=>b.outs i
 | .exit j,i=>i==j
 |_,_=>Zb
def Tx (c:AC)(Q:AExit->cm->Hp->Prop):AExit->cm->Hp->Prop:=λx e Z=>(∀i,x= .exit i->c.outs i=Za)/\Q x e Z
def E3 {c:AC}{Q:AExit->cm->Hp->Prop}:Tx c Q .normal=Q .normal:=by
 funext e Z
 exact propext ⟨λh=>h.2,λh=>⟨λi g=>Zo,h⟩⟩
def JR {f:(AExit->cm->Hp->Prop)->cm->Hp->Prop}{b:AC}(s: ∀(Q Q':AExit->cm->Hp->Prop),(∀x e Z,Q x e Z->Q' x e Z)->∀e Z,f Q e Z->f Q' e Z)
  (u: ∀Q e Z,f Q e Z->f (Tx b Q) e Z) {Q:AExit->cm->Hp->Prop}: ∀(n:Nat) (e:cm) (Z:Hp),ju f Q n e Z->ju f (Tx b Q) n e Z
 |0,_,_,h=>h.elim
 |n+1,e,Z,h=>by
  simp only[ju]at h⊢;refine s _ _ (λx e' Z' A=> ?_) e Z (u _ e Z h);have⟨p,g⟩:=A;cases x with
  |normal=>exact JR s u n e' Z' g
  |exit id=>exact⟨p,g⟩
  |ret=>exact⟨p,g⟩
def Tl (C:vd T): ∀(c:AC) (Q:AExit->cm->Hp->Prop) (e:cm) (Z:Hp),w8 T c Q e Z->w8 T c (Tx c Q) e Z:=by
 intro c;induction c with
 |skip=>intro Q e Z h;exact⟨λi g=>Zo,h⟩
 |region ops=>intro Q e Z h;simp only[w8]at h⊢;rw[E3];exact h
 |draw ops=>intro Q e Z h;simp only[w8]at h⊢;rw[E3];exact h
 |sched L=>intro Q e Z h;simp only[w8]at h⊢;rw[E3];exact h
 |seq a b u A=>
  intro Q e Z h;simp only[w8]at h⊢;refine fZ C a _ _ (λx e' Z' p=> ?_) e Z (u _ e Z h);have⟨E,s⟩:=p;cases x with
  |normal=>exact fZ C b _ _ (λx e Z p=>⟨λi g=>by rw[AC.outs,p.1 i g,Bool.or_true],p.2⟩) e' Z' (A Q e' Z' s)
  |exit id=>exact⟨λi g=>by rw[AC.outs,E i g,Bool.true_or],s⟩
  |ret=>exact⟨λi g=>Zo,s⟩
 |cond c a b u A=>
  intro Q e Z h;simp only[w8]at h⊢;split at h
  .exact fZ C a _ _ (λx e Z p=>⟨λi g=>by rw[AC.outs,p.1 i g,Bool.true_or],p.2⟩) e Z (u Q e Z h)
  .exact fZ C b _ _ (λx e Z p=>⟨λi g=>by rw[AC.outs,p.1 i g,Bool.or_true],p.2⟩) e Z (A Q e Z h)
  .exact h.elim
 |block id b H=>
  intro Q e Z h;simp only[w8]at h⊢;refine fZ C b _ _ (λx e' Z' p=> ?_) e Z (H _ e Z h);have⟨E,s⟩:=p;cases x with
  |normal=>exact⟨λi g=>Zo,s⟩
  |exit i=>
   simp only at s⊢;split at s
   .rename_i g;rw[zE g];exact⟨λi g=>Zo,s⟩
   .rename_i g;rw[zF g];refine⟨λj F=> ?_,s⟩;cases F;rw[AC.outs,E i rfl];simp[g]
  |ret=>exact⟨λi g=>Zo,s⟩
 |loop b H=>
  intro Q e Z h;have⟨n,J⟩:=h;exact⟨n,JR (f:=w8 T b) (fZ C b) H n e Z J⟩
 |exit id=>
  intro Q e Z h;refine⟨λi g=> ?_,h⟩;cases g;simp[AC.outs]
 |ret=>intro Q e Z h;exact⟨λi g=>Zo,h⟩
end
end
section
open Bool renaming and_eq_true -> bB, or_eq_true -> bD, false_eq_true -> cB
open List renaming mem_cons_of_mem -> aB, mem_cons_self -> aD
open Go.RowKit
def Jj (P:Program)(N:Nat)(ops:Array Oper):List Oper->Option DL
 |[]=>O []
 |o::r=>match Jk P N ops o,Jj P N ops r with
  |some x,O l=>O ((x,(o.after.toList.filter (Region.binds .any ·)).map (·.on))::l)
  |_,_=>Y
def AC.outsL :AC->List Nat
 | .seq a b| .cond _ a b=>a.outsL++b.outsL
 | .block id b=>b.outsL.filter λi=> !(i==id)
 | .loop b=>b.outsL
 | .exit j=>[j]
 |_=>[]
def ai0 : ∀(c:AC) (i:Nat),c.outs i=Za->i∈c.outsL:=by
 intro c;induction c with
 |seq a b g p=>
  intro i h;simp only[AC.outs,bD]at h;exact List.mem_append.2 (h.elim (λh=> .inl (g i h)) λh=> .inr (p i h))
 |cond c a b g p=>
  intro i h;simp only[AC.outs,bD]at h;exact List.mem_append.2 (h.elim (λh=> .inl (g i h)) λh=> .inr (p i h))
 |block id b s=>
  intro i h;simp only[AC.outs,bB]at h;exact List.mem_filter.2 ⟨s i h.1,h.2⟩
 |loop b s=>intro i h;exact s i h
 |exit j=>intro i h;simp[AC.outs]at h;simp[AC.outsL,h]
 |_=>intro i h;simp[AC.outs]at h
def AC.noJump (c:AC):Bool:=c.outsL.all λi=>Zc (i<DG)
def Ox {c:AC}(h:c.noJump=Za)(g:c.outs i=Za):i<DG:=by
 have:=List.all_eq_true.1 h i (ai0 c i g);exact of_decide_eq_true this
def ti :Code->List Nat
 | .seq a b=>ti a++ti b
 | .label l=>[l]
 |_=>[]
def EV : ∀(c:Code) (l:Nat),l∉ti c->findLabel c l=Y:=by
 intro c;induction c with
 |seq a b g p=>
  intro l h;simp only[ti,List.mem_append,not_or]at h;simp only[findLabel,g l h.1,p l h.2]
 |label s=>
  intro l h;simp only[ti,List.mem_singleton]at h;simp only[findLabel];rw[zF (by simpa using λe=>h e.symm)]
 |_=>intro l h;rfl
def HK (l:Nat):Code->Bool
 | .goto g=>g==l
 | .seq a b| .cond _ a b=>HK l a||HK l b
 | .block _ b| .loop b| .scope b=>HK l b
 |_=>Zb
def FJ :Code->Option Nat
 | .label l=>O l
 |_=>Y
def P9 {c:Code}{l:Nat}(h:FJ c=O l):c= .label l:=by
 cases c<;>simp[FJ]at h;rw[h]
def iJ :Code->Option Nat
 | .seq a b=>match FJ a with
  |some l=>if HK l b then O l else iJ b
  |none=>iJ b
 |_=>Y
def Bs (l:Nat):Nat:=DG+2*l
def yo (l:Nat):Nat:=DG+2*l+1
def aw7 (l:Nat)(b:AC):AC:= .block (yo l) (.loop (.block (Bs l) (.seq b (.exit (yo l)))))
def HN (a b:Code):Bool:=match iJ b with
 |some l=> !(ti a).contains l
 |none=>Za
def rj (x:Option AC):Option AC×Option AC:=(x,x)
def aQ5 :Option AC->Option AC->Option AC
 |some a,O b=>O (.seq a b)
 |_,_=>Y
def UW (a b:Code)(g h sb:Option AC):Option AC:=match FJ a with
 |some l=>if HK l b then h.map (aw7 l)else if HN a b then sb.map (.seq .skip)else Y
 |none=>match g,sb with
  |some x,O y=>if HN a b&&((iJ b).isNone||x.noJump)then O (.seq x y)else Y
  |_,_=>Y
def MY (P:Program)(N:Nat):Code->Option AC×Option AC
 | .skip=>rj (O .skip)
 | .label _=>rj (O .skip)
 | .region _ ops draw=>rj (if draw then match Jj P N ops ops.toList with
   |some l=>if CZ l&&P.follows .mixedOrders then(match FN l (dt l) [] []with
    |some g=>O (.sched g)
    |none=>O (.draw l))else Y
   |none=>Y
  else(Ii P N ops ops.toList).map .region)
 | .seq a b=>(aQ5 (MY P N a).1 (MY P N b).1,UW a b (MY P N a).1 (MY P N b).1 (MY P N b).2)
 | .cond c a b=>rj (match Bu c,(MY P N a).1,(MY P N b).1 with
  |some c,O a,O b=>O (.cond c a b)
  |_,_,_=>Y)
 | .block id b=>rj (if id<DG then((MY P N b).1).map (.block id)else Y)
 | .loop b=>rj (((MY P N b).1).map .loop)
 | .scope b=>rj (match(MY P N b).2 with
  |some h=>if h.noJump then O h else Y
  |none=>Y)
 | .exit id=>rj (if id<DG then O (.exit id)else Y)
 | .goto l=>rj (O (.exit (Bs l)))
 | .ret=>rj (O .ret)
 |_=>rj Y
def mM (P:Program)(N:Nat)(c:Code):Option AC:=(MY P N c).1
def QQ (P:Program)(N:Nat)(c:Code):Option AC:=(MY P N c).2
section
variable {P:Program} {T:iU} {ops:Array Oper} {B:Base P} {N:Nat}
def JO : ∀{l:List Oper} {al:DL},Jj P N ops l=O al->dt l=dt al/\∀(i:Nat) o,l[i]?=O o->∃x,al[i]?=O (x,(o.after.toList.filter (Region.binds .any ·)).map (·.on))/\Jk P N ops o=O x
 |[],al,h=>by
  simp[Jj]at h;subst h;exact⟨rfl,λi o h=>by simp at h⟩
 |o::l,al,h=>by
  simp only[Jj]at h;split at h
  .rename_i x r p s;cases h;have⟨u,A⟩:=JO s;refine⟨by simp[u],λi C g=> ?_⟩;cases i with
   |zero=>simp at g;subst g;exact⟨x,rfl,p⟩
   |succ i=>simp at g;simpa using A i C g
  .cases h
def av0 {al:DL}(h:Jj P N ops ops.toList=O al):Fits P N ops al:=by
 have⟨A,s⟩:=JO h;refine⟨by simpa using A,λi o p=> ?_,λi o p q=> ?_⟩
 .obtain⟨x,g,u⟩:=s i o Zu;refine⟨x, ?_,u⟩;have:iq al i=(o.after.toList.filter (Region.binds .any ·)).map (·.on):=by simp[iq,g]
  rw[this];exact g
 .obtain⟨x,g,u⟩:=s i o Zu;have:iq al i=(o.after.toList.filter (Region.binds .any ·)).map (·.on):=by simp[iq,g]
  rw[this];simp[and_assoc]
def QV {b:Code}{f:(AExit->cm->Hp->Prop)->cm->Hp->Prop}
  (hb: ∀(Q:AExit->cm->Hp->Prop) (e:cm) (Z:Hp) (μ:Mu) (a:Act) (w:World),f Q e Z->R B μ Z w->ga μ N e a.tmps->a.defers=[]->b.wp P (rT B N μ w Q) a w)
  {Q:AExit->cm->Hp->Prop} {μ0:Mu} {W:World} {n:Nat}   {μ:Mu}   (h:ju f Q n e Z) (hR:R B μ Z w) (he:ga μ N e a.tmps) (hd:a.defers=[]) (A:μ0.le μ) (p:Below B W w):
  (Code.loop b).wp P (rT B N μ0 W Q) a w:=by
 intro bf k cs
 have key: ∀n e Z μ a w,ju f Q n e Z->R B μ Z w->ga μ N e a.tmps->a.defers=[]->μ0.le μ->Below B W w->
   ∃x E w',rT B N μ0 W Q x E w'/\Arrives P (lone (bf.at a (.code b:: .inLoop b::k)) cs w) bf k cs x E w':=by
  intro n;induction n with
  |zero=>intro e Z μ a w h;exact h.elim
  |succ n ih=>
   intro e Z μ a w h hR he hd A p;simp only[ju]at h;have⟨x,F,X,s,g⟩:=hb _ e Z μ a w h hR he hd bf (.inLoop b::k) cs;obtain⟨ax,H,Z1,μ1,C,s,J,L,M,U,V⟩:=s;cases ax with
   |normal=>
    cases x<;>simp[ym]at C;have⟨x₂,a₂,w₂,hq₂,u⟩:=ih H Z1 μ1 F X s L M U (Mu.le_trans A J) (p.trans V);exact⟨x₂,a₂,w₂,hq₂, .of_steps (Steps.trans g (.one step_inLoop)) u⟩
   |exit id=>
    cases x with
    |exit j=>
     obtain⟨rfl,hj⟩:=C;exact⟨.exit id,F,X,⟨.exit id,H,Z1,μ1,⟨rfl,hj⟩,s,Mu.le_trans A J,L,M,U,p.trans V⟩, .pass (x:= .inLoop b) rfl (λ_ _=> .inl V2) g⟩
    |goto l=>exact⟨.goto l,F,X,⟨.exit id,H,Z1,μ1,C,s,Mu.le_trans A J,L,M,U,p.trans V⟩,λk' hk=>g k' (by simp[gotoIn,hk])⟩
    |_=>exact C.elim
   |ret=>
    cases x<;>simp[ym]at C;exact⟨.ret,F,X,⟨.ret,H,Z1,μ1,trivial,s,Mu.le_trans A J,L,M,U,p.trans V⟩, .pass (x:= .inLoop b) rfl (λ_ _=> .inl V2) g⟩
 have⟨x,E,w',s,g⟩:=key n e Z μ a w h hR he hd A p;exact⟨x,E,w',s, .of_steps (.one step_loop) g⟩
def E5 {is:List Nat}{Z:Hp}: ∀{chk:List (Nat×(Hp->Prop))},yp is Z chk->∀i c,(i,c)∈chk->i∈is->c Z
 |[],_,i,c,h,_=>by cases h
 |(j,d)::r,g,i,c,h,p=>by
  simp only[yp]at g;rcases List.mem_cons.1 h with h|h
  .injection h with s u
   subst s u;rw[zE Zu]at g;exact g.1
  .split at g
   .exact E5 g.2 i c h p
   .exact E5 g i c h p
def qB {al:DL}{m:Nat}{Z:Hp}: ∀{chk:List (Nat×(Hp->Prop))},(∀i c,(i,c)∈chk->uA al i m=Zb->c Z)->B5 al m Z chk
 |[],_=>trivial
 |(j,d)::r,h=>by
  simp only[B5];split
  .exact qB λi c g=>h i c (aB _ g)
  .rename_i p;exact⟨h j d (aD ..) Zu,qB λi c g=>h i c (aB _ g)⟩
def SP {k s:Value->Hp->Prop}(p:vd T)(g: ∀v Z',k v Z'->s v Z')(h:ci T op e Z k):ci T op e Z s:=by
 unfold ci at*;cases op<;>simp only at h⊢
 case call f xs=>exact p _ _ _ _ _ g h
 case callv f xs=>
  split at h
  .exact p _ _ _ _ _ g h
  .exact h.elim
 all_goals
  split at h
  .exact g _ _ h
  .exact h.elim
def EZ (L:vd T){Q:cm->Hp->Prop}{al:DL}: ∀(f:Nat) (done s:List Nat) (C:List SItem) (chk A:List (Nat×(Hp->Prop))) (e:cm) (Z:Hp),FN al f done s=O C->QU T Q C A e Z->
  (∀i c,(i,c)∈chk->i∈s)->(∀i c,(i,c)∈chk->ad7 al i=Za->(i,c)∈A)->Dr T Q al f done chk e Z
 |0,done,s,C,chk,A,e,Z,h,u,_,_=>by
  simp[FN]at h;subst h;exact u
 |f+1,done,s,C,chk,A,e,Z,h,u,H,E=>by
  simp only[FN]at h;simp only[Dr];split at h
  .rename_i i hn;split at h
   .rename_i o p ho;obtain⟨r,U,h⟩:=Option.map_eq_some_iff.1 h;subst h;simp only[QU]at u;split at u
    .rename_i g;rw[zE g];simp only[cB,if_false]at u;split at u
     .rename_i v Z1 hrun;refine EZ L f _ _ _ _ _ _ _ U u (λj c hc=> ?_) (λj c hc F=> ?_)
      .by_cases J:o.op.isLoad=Za
       .rw[zE J]at hc⊢;rcases List.mem_cons.1 hc with hc|hc
        .injection hc with hc _
         subst hc;exact aD ..
        .exact aB _ (H j c hc)
       .rw[zF J]at hc⊢;exact H j c hc
      .by_cases J:o.op.isLoad=Za
       .rw[zE J]at hc;rcases List.mem_cons.1 hc with hc|hc
        .have hj:j=i:=by injection hc
         subst hj;rw[zE (by simp[J,F]),hc];exact aD ..
        .split
         .exact aB _ (E j c hc F)
         .exact E j c hc F
       .rw[zF J]at hc;split
        .exact aB _ (E j c hc F)
        .exact E j c hc F
     .exact u.elim
    .rename_i g;rw[zF g];refine EZ L f _ _ _ _ _ _ _ U u (λj c hc=> ?_) E;split
     .exact aB _ (H j c hc)
     .exact H j c hc
   .cases h
  .rename_i hn;split at h
   .rename_i M;rw[M];cases h;exact u
   .rename_i m M;rw[M];simp only[Lf];split at h
    .rename_i o p ho;obtain⟨r,U,h⟩:=Option.map_eq_some_iff.1 h;subst h
     have X:Uu al m=Za:=by
      have:=(zQ.1 (show m∈bv al done by rw[M];exact aD ..)).2.2.2;simpa[Dk,Uu,ho]using this
     have W:m<dt al:=(zQ.1 (show m∈bv al done by rw[M];exact aD ..)).1;simp only[QU]at u⊢;split at u
     .rename_i g;rw[zE g];simp only[if_true]at u;refine SP L (λv Z' F=> ?_) u;refine⟨qB λi c hc hb=> ?_,EZ L f _ _ _ _ _ _ _ U F.2 H E⟩;have V:ad7 al i=Za:=List.any_eq_true.2 ⟨m,List.mem_range.2 W,by simp[X,hb]⟩;exact E5 F.1 i c (E i c hc V) (by simp[H i c hc,hb])
     .rename_i g;rw[zF g];exact EZ L f _ _ _ _ _ _ _ U u H E
    .cases h
   .cases h
def JI (l:Nat)(J:Act->World->Prop)(Q:Exit->Act->World->Prop):Exit->Act->World->Prop
 | .goto g,a,w=>(g=l/\J a w)∨(g≠l/\Q (.goto g) a w)
 |x,a,w=>Q x a w
def SU {c rest:Code}{Q:Exit->Act->World->Prop}(l:Nat)(J:Nat->Act->World->Prop)(hf:findLabel c l=O rest)(hQ: ∀l' a w,¬Q (.goto l') a w)
  (first:c.wp P (JI l (λa w=> ∃n,J n a w) Q) a w) (E: ∀n a w,J n a w->rest.wp P (JI l (λa w=> ∃m,m<n/\J m a w) Q) a w):(Code.scope c).wp P Q a w:=by
 intro b k F;have hg:gotoIn l (.inScope c::k)=O (.code rest:: .inScope c::k):=by simp[gotoIn,hf]
 have W: ∀n a w,J n a w->∃e a' w',Q e a' w'/\Arrives P (lone (b.at a (.code rest:: .inScope c::k)) F w) b k F e a' w':=by
  intro n;induction n using Nat.strongRecOn with
  |_ n ih=>
   intro a w hJ;have⟨e,s,u,h,g⟩:=E n a w hJ b (.inScope c::k) F;cases e with
   |normal=>exact⟨.normal,s,u,h,Steps.trans g (.one step_inScope)⟩
   |exit id=>exact⟨.exit id,s,u,h,λV M=>g V (by simp[exitTo,M])⟩
   |goto l'=>
    rcases h with⟨rfl,m,U,A⟩|⟨_,h⟩
    .obtain⟨L,H,X,C,p⟩:=ih m U s u A;exact⟨L,H,X,C, .of_steps (g _ hg) p⟩
    .exact(hQ _ _ _ h).elim
   |ret=>exact⟨_,s,u,h,g⟩
   |panic ch=>exact⟨_,s,u,h,g⟩
   |outgrown=>exact⟨_,s,u,h,g⟩
 have⟨e,s,u,h,g⟩:=first b (.inScope c::k) F
 cases e with
 |normal=>exact⟨.normal,s,u,h, .head step_scope (Steps.trans g (.one step_inScope))⟩
 |exit id=>exact⟨.exit id,s,u,h,λV M=> .head step_scope (g V (by simp[exitTo,M]))⟩
 |goto l'=>
  rcases h with⟨rfl,n,A⟩|⟨_,h⟩
  .obtain⟨L,H,X,C,p⟩:=W n s u A;exact⟨L,H,X,C, .of_steps (.head step_scope (g _ hg)) p⟩
  .exact(hQ _ _ _ h).elim
 |ret=>exact⟨_,s,u,h, .of_steps (.one step_scope) g⟩
 |panic ch=>exact⟨_,s,u,h, .of_steps (.one step_scope) g⟩
 |outgrown=>exact⟨_,s,u,h, .of_steps (.one step_scope) g⟩
def Jst {P:Program}(B:Base P)(N:Nat)(h:Mu)(g:World)(L:Nat->cm->Hp->Prop)(n:Nat):Act->World->Prop:=λa w=>
 ∃e Z μ,L n e Z/\h.le μ/\R B μ Z w/\ga μ N e a.tmps/\a.defers=[]/\Below B g w
def Aok (P:Program)(T:iU)(B:Base P)(N:Nat)(c:Code):Prop:= ∀(g:AC),mM P N c=O g->∀(Q:AExit->cm->Hp->Prop) (e:cm) (Z:Hp) (μ:Mu) (a:Act) (w:World),w8 T g Q e Z->
  R B μ Z w->ga μ N e a.tmps->a.defers=[]->c.wp P (rT B N μ w Q) a w
def Vg (P:Program)(T:iU)(B:Base P)(N:Nat)(c:Code):Prop:= ∀(s:AC),QQ P N c=O s->∀(Q:AExit->cm->Hp->Prop),
 (iJ c=Y->∀(e:cm) (Z:Hp) (μ:Mu) (a:Act) (w:World),w8 T s Q e Z->R B μ Z w->ga μ N e a.tmps->a.defers=[]->c.wp P (rT B N μ w Q) a w)/\
 (∀l,iJ c=O l->∃g L,findLabel c l=O g/\∀p h,
  (∀(e:cm) (Z:Hp) (μ:Mu) (a:Act) (w:World),w8 T s Q e Z->R B μ Z w->ga μ N e a.tmps->a.defers=[]->p.le μ->Below B h w->c.wp P (JI l (λa w=> ∃n,Jst B N p h L n a w) (rT B N p h Q)) a w)/\
  (∀n a w,Jst B N p h L n a w->g.wp P (JI l (λa w=> ∃m,m<n/\Jst B N p h L m a w) (rT B N p h Q)) a w))
def Vg.of {c:Code}(u:QQ P N c=mM P N c)(A:iJ c=Y)(h:Aok P T B N c):Vg P T B N c:=λs g Q=>
 ⟨λ_=>h s (u▸g) Q,λl p=>by rw[A]at p;cases p⟩
def I6 {μ:Mu}{Q:AExit->cm->Hp->Prop}{s:Act}{w':World}(h:rT B N μ w Q x s w')(E:x≠ .normal): ∃g e' Z' p,g≠ .normal/\ym g x/\Q g e' Z'/\μ.le p/\R B p Z' w'/\ga p N e' s.tmps/\s.defers=[]/\Below B w w':=by
 have⟨g,e',Z',p,u,A,C⟩:=h;refine⟨g,e',Z',p, ?_,u,A,C⟩;rintro rfl;cases x<;>first|exact u.elim|exact E rfl
def az3 {μ:Mu}{Q Q':AExit->cm->Hp->Prop}{p:Act}{w':World}(h:rT B N μ w Q x p w')(C: ∀g e Z,ym g x->Q g e Z->Q' g e Z):rT B N μ w Q' x p w':=by
 have⟨g,e',Z',E,s,u,A⟩:=h;exact⟨g,e',Z',E,s,C _ _ _ s u,A⟩
def US {x y:Code}{μ:Mu}{Q1:AExit->cm->Hp->Prop}{F:Exit->Act->World->Prop}(h:x.wp P (rT B N μ w Q1) a w)
  (V: ∀e Z u g w',Q1 .normal e Z->μ.le u->R B u Z w'->ga u N e g.tmps->g.defers=[]->Below B w w'->y.wp P F g w')
  (s: ∀x g w',x≠ .normal->rT B N μ w Q1 x g w'->F x g w'):(Code.seq x y).wp P F a w:=by
 refine wp_seq (wp_mono h λW g w' p=> ?_);cases W with
 |normal=>
  have⟨C,e',Z',u,A,E,H,J,L,M,U⟩:=p;cases C with
  |normal=>exact V e' Z' u g w' E H J L M U
  |exit i=>exact A.elim
  |ret=>exact A.elim
 |exit i=>exact s _ g w' V2 p
 |goto l=>exact s _ g w' V2 p
 |ret=>exact s _ g w' V2 p
 |panic X=>exact s _ g w' V2 p
 |outgrown=>exact s _ g w' V2 p
def RT {l:Nat}{J:Act->World->Prop}{F:Exit->Act->World->Prop}(p:x= .goto l->J a w)(h:x≠ .goto l->F x a w):JI l J F x a w:=by
 cases x with
 |goto s=>
  by_cases g:s=l
  .subst g;exact .inl ⟨rfl,p rfl⟩
  .exact .inr ⟨g,h Z3⟩
 |_=>exact h V2
def L6 {l:Nat}{J J':Act->World->Prop}{F F':Exit->Act->World->Prop}(u: ∀a w,J a w->J' a w)(s: ∀x a w,F x a w->F' x a w)(h:JI l J F x a w):JI l J' F' x a w:=by
 cases x with
 |goto A=>
  rcases h with⟨g,p⟩|⟨g,p⟩
  .exact .inl ⟨g,u _ _ p⟩
  .exact .inr ⟨g,s _ _ _ p⟩
 |_=>exact s _ _ _ h
def aa4 (hM:vd T)(hT: ∀f,Yz P f (T f)): ∀(c:Code),Aok P T B N c/\Vg P T B N c:=by
 intro c;induction c with
 |skip=>
  refine(λA=>⟨A,Vg.of rfl rfl A⟩) ?_;intro ac h Q e Z μ a w g s p u;simp[mM,MY,rj]at h;subst h;exact wp_skip ⟨.normal,e,Z,μ,trivial,g,μ.le_refl,s,p,u,Below.refl _ _⟩
 |label l=>
  refine(λA=>⟨A,Vg.of rfl rfl A⟩) ?_;intro ac h Q e Z μ a w g s p u;simp[mM,MY,rj]at h;subst h;exact wp_label ⟨.normal,e,Z,μ,trivial,g,μ.le_refl,s,p,u,Below.refl _ _⟩
 |goto l=>
  refine(λA=>⟨A,Vg.of rfl rfl A⟩) ?_;intro ac h Q e Z μ a w g s p u;simp[mM,MY,rj]at h;subst h;exact wp_goto ⟨.exit (Bs l),e,Z,μ,rfl,g,μ.le_refl,s,p,u,Below.refl _ _⟩
 |region id ops draw=>
  refine(λA=>⟨A,Vg.of rfl rfl A⟩) ?_;intro ac h Q e Z μ a w g s p u;simp only[mM,MY,rj]at h;cases draw with
  |false=>
   simp only[cB,if_false]at h;obtain⟨al,H,h⟩:=Option.map_eq_some_iff.1 h;subst h;exact wp_region_list (UA hT ops.toList al e Z μ a w H g s p u μ.le_refl (Below.refl _ _))
  |true=>
   simp only[if_true]at h;split at h
   .rename_i al H;split at h
    .rename_i h2
     have g:Dr T (Q .normal) al (dt al) [] [] e Z:=by
      split at h
      .rename_i its hits;injection h with h
       subst h;exact EZ hM (dt al) [] [] its [] [] e Z hits g (λi c hc=>(by cases hc)) (λi c hc=>(by cases hc))
      .injection h with h
       subst h;exact g
     simp only[bB]at h2;have hF:=av0 H;have hempty: ∀(val:Nat->Value),iL al e val []=e:=λval=>funext λt=>ph λi hi=>by cases hi
     refine wp_region_any h2.2 ?_;have hl:left (dt al) []<=dt al:=by unfold left;exact Nat.le_trans (List.length_filter_le _ _) V2
     refine at6 hT hF h2.1 (e0:=e) ops.size (dt al) (λ_=>undef) [] [] [] _ Z μ a _ (by rw[hempty];exact g) hl (by rw[hF.len];exact hl) ⟨λi hi=>Zz,λi hi=>Zz,λi hi=>Zz,λi hi=>Zz,λi hi=>Zz⟩ V2 (λi hi=>by simp[hi]) (s.same rfl) (by rw[hempty];exact p) u μ.le_refl (Below.refl _ _).drew
    .cases h
   .cases h
 |seq x y ihx ihy=>
  refine⟨?_, ?_⟩
  .intro ac h Q e Z μ a w g s p u;have h:aQ5 (mM P N x) (mM P N y)=O ac:=h;unfold aQ5 at h;split at h
   .rename_i ax ay H h2;injection h with h
    subst h;simp only[w8]at g;have H:mM P N x=O ax:=H;have h2:mM P N y=O ay:=h2;refine US (ihx.1 ax H _ e Z μ a w g s p u) (λe' Z' F V w' hq g1 g2 g3 g4 g5=> ?_) λx' V w' hx hp=> ?_
    .exact wp_mono (ihy.1 ay h2 Q e' Z' F V w' hq g2 g3 g4) λx'' a'' w'' h''=>h''.trans g1 g5
    .obtain⟨E,e',Z',F,h0,h1',U,h3'⟩:=I6 hp hx;refine⟨E,e',Z',F,h1', ?_,h3'⟩;cases E with
     |normal=>exact(h0 rfl).elim
     |exit i=>exact U
     |ret=>exact U
   .cases h
  .intro ac h Q;have h:UW x y (mM P N x) (mM P N y) (QQ P N y)=O ac:=h;unfold UW at h;split at h
   .rename_i l hl;obtain rfl:=P9 hl;split at h
    .
     rename_i hg;obtain⟨yc,H,h⟩:=Option.map_eq_some_iff.1 h;subst h;have hll:iJ (.seq (.label l) y)=O l:=by simp[iJ,FJ,hg]
     refine⟨λhn=>(by rw[hll]at hn;cases hn),λW C=> ?_⟩;rw[hll]at C;injection C with C
     subst C
     let Q1:AExit->cm->Hp->Prop:=λx e Z=>match x with
      | .exit i=>if i=yo l then Q .normal e Z else Q (.exit i) e Z
      |x=>Q x e Z
     let X:AC:= .block (Bs l) (.seq yc (.exit (yo l)))
     have hne:yo l≠Bs l:=by unfold yo Bs;omega
     have round: ∀(n:Nat) (e:cm) (Z:Hp) (μ:Mu) (a:Act) (w:World) (μ0:Mu) (w0:World),ju (w8 T X) Q1 (n+1) e Z->R B μ Z w->ga μ N e a.tmps->a.defers=[]->μ0.le μ->Below B w0 w->
       y.wp P (JI l (λa w=>Jst B N μ0 w0 (λn=>ju (w8 T X) Q1 n) n a w) (rT B N μ0 w0 Q)) a w:=by
      intro n e Z μ a w μ0 w0 g s p u hμ hb;simp only[ju,X,w8]at g;refine wp_mono (ihy.1 yc H _ e Z μ a w g s p u) λx' V w' hp=> ?_
      have⟨ax,e',Z',F,q1,q2,q3,q4,q5,q6,q7⟩:=hp;refine RT (λhx=> ?_) λhx=> ?_
      .subst hx;cases ax with
       |exit i=>
        have q1:i=Bs l:=q1;subst q1;simp only[if_true]at q2;exact⟨e',Z',F,q2,Mu.le_trans hμ q3,q4,q5,q6,hb.trans q7⟩
       |_=>exact q1.elim
      .cases ax with
       |normal=>
        simp only[zF hne]at q2;simp only[Q1,if_true]at q2;exact⟨.normal,e',Z',F,q1,q2,Mu.le_trans hμ q3,q4,q5,q6,hb.trans q7⟩
       |ret=>exact⟨.ret,e',Z',F,q1,q2,Mu.le_trans hμ q3,q4,q5,q6,hb.trans q7⟩
       |exit i=>
        have hi:i≠Bs l/\i≠yo l:=by
         cases x' with
         |exit j=>
          obtain⟨rfl,hj⟩:=q1;unfold Bs yo;omega
         |goto W=>
          have q1:i=DG+2*W:=q1;have:W≠l:=λe=>hx (by rw[e])
          unfold Bs yo;omega
         |_=>exact q1.elim
        simp only[zF hi.1,Q1,zF hi.2]at q2;exact⟨.exit i,e',Z',F,q1,q2,Mu.le_trans hμ q3,q4,q5,q6,hb.trans q7⟩
     refine⟨.seq .skip y,λn=>ju (w8 T X) Q1 n,by simp[findLabel],λμ0 w0=>⟨λe Z μ a w g s p u hμ hb=> ?_,λn a w hJ=> ?_⟩⟩
     .have hw': ∃n,ju (w8 T X) Q1 n e Z:=g
      have⟨n,hn⟩:=hw';cases n with
      |zero=>exact hn.elim
      |succ n=>
       refine wp_seq (wp_label ?_);exact wp_mono (round n e Z μ a w μ0 w0 hn s p u hμ hb) λx' V w' h'=>L6 (λ_ _ h=>⟨n,h⟩) (λ_ _ _ h=>h) h'
     .obtain⟨e,Z,μ,hn,hμ,s,p,u,hb⟩:=hJ;cases n with
      |zero=>exact hn.elim
      |succ n=>
       refine wp_seq (wp_skip ?_);exact wp_mono (round n e Z μ a w μ0 w0 hn s p u hμ hb) λx' V w' h'=>L6 (λ_ _ h=>⟨n,Nat.lt_succ_self n,h⟩) (λ_ _ _ h=>h) h'
    .
     rename_i hg;split at h
     .rename_i J;obtain⟨yc,H,h⟩:=Option.map_eq_some_iff.1 h;subst h;have hll:iJ (.seq (.label l) y)=iJ y:=by simp[iJ,FJ,hg]
      have⟨s1,s2⟩:=ihy.2 yc H Q;refine⟨λhn e Z μ a w g s p u=>wp_seq (wp_label ?_),λW C=> ?_⟩
      .exact s1 (hll▸hn) e Z μ a w g s p u
      .rw[hll]at C;have⟨M,L,hf,hJ⟩:=s2 W C
       have hlab:findLabel (.seq (.label l) y) W=O M:=by
        have:findLabel (.label l) W=Y:=EV _ _ (by
         unfold HN at J;rw[C]at J
         simpa using J)
        simp[findLabel,hf]at this⊢;simp[this]
       refine⟨M,L,hlab,λμ0 w0=>⟨λe Z μ a w g s p u hμ hb=>wp_seq (wp_label ?_),(hJ μ0 w0).2⟩⟩;exact(hJ μ0 w0).1 e Z μ a w g s p u hμ hb
     .cases h
   .rename_i hl;split at h
    .rename_i ax ay H h2;split at h
     .rename_i J;rw[bB,bD]at J;obtain⟨J,hnj⟩:=J;injection h with h
      subst h;have hll:iJ (.seq x y)=iJ y:=by simp[iJ,hl]
      have⟨s1,s2⟩:=ihy.2 ay h2 Q;refine⟨λhn e Z μ a w g s p u=> ?_,λW C=> ?_⟩
      .simp only[w8]at g;refine US (ihx.1 ax H _ e Z μ a w g s p u) (λe' Z' F V w' hq g1 g2 g3 g4 g5=> ?_) λx' V w' hx hp=> ?_
       .exact wp_mono (s1 (hll▸hn) e' Z' F V w' hq g2 g3 g4) λx'' a'' w'' h''=>h''.trans g1 g5
       .obtain⟨E,e',Z',F,h0,h1',U,h3'⟩:=I6 hp hx;refine⟨E,e',Z',F,h1', ?_,h3'⟩;cases E with
        |normal=>exact(h0 rfl).elim
        |exit i=>exact U
        |ret=>exact U
      .rw[hll]at C;have⟨M,L,hf,hJ⟩:=s2 W C
       have hlab:findLabel (.seq x y) W=O M:=by
        have:findLabel x W=Y:=EV _ _ (by
         unfold HN at J;rw[C]at J
         simpa using J)
        simp[findLabel,hf,this]
       have hnj:ax.noJump=Za:=by
        rcases hnj with h|h
        .rw[C]at h;cases h
        .exact h
       refine⟨M,L,hlab,λμ0 w0=>⟨λe Z μ a w g s p u hμ hb=> ?_,(hJ μ0 w0).2⟩⟩;simp only[w8]at g;refine US (ihx.1 ax H _ e Z μ a w (Tl hM _ _ e Z g) s p u) (λe' Z' F V w' hq g1 g2 g3 g4 g5=> ?_) λx' V w' hx hp=> ?_
       .exact(hJ μ0 w0).1 e' Z' F V w' hq.2 g2 g3 g4 (Mu.le_trans hμ g1) (hb.trans g5)
       .obtain⟨E,e',Z',F,h0,h1',U,h3',h4',h5',h6',h7'⟩:=I6 hp hx;refine RT (λhg=> ?_) λ_=> ?_
        .subst hg;cases E with
         |exit i=>
          have k1:i=DG+2*W:=h1';have:=Ox hnj (U.1 i rfl);omega
         |_=>exact h1'.elim
        .refine⟨E,e',Z',F,h1', ?_,Mu.le_trans hμ h3',h4',h5',h6',hb.trans h7'⟩;cases E with
         |normal=>exact(h0 rfl).elim
         |exit i=>exact U.2
         |ret=>exact U.2
     .cases h
    .cases h
 |cond c x y ihx ihy=>
  refine(λA=>⟨A,Vg.of rfl rfl A⟩) ?_;intro ac h Q e Z μ a w g s p u;simp only[mM,MY,rj]at h;split at h
  .rename_i c' ax ay h0 H h2;injection h with h
   subst h;obtain⟨rfl,k0⟩:=bc h0;have hv:=p.ev k0;simp only[w8]at g;split at g
   .rename_i hb;rw[hb]at hv;exact wp_cond_true hv.bool_inv (ihx.1 ax H Q e Z μ a w g s p u)
   .rename_i hb;rw[hb]at hv;exact wp_cond_false hv.bool_inv (ihy.1 ay h2 Q e Z μ a w g s p u)
   .exact g.elim
  .cases h
 |block id b ih=>
  refine(λA=>⟨A,Vg.of rfl rfl A⟩) ?_;intro ac h Q e Z μ a w g s p u;simp only[mM,MY,rj]at h;split at h
  .rename_i hlt;obtain⟨ab,H,h⟩:=Option.map_eq_some_iff.1 h;subst h;simp only[w8]at g;refine wp_block (wp_mono (ih.1 ab H _ e Z μ a w g s p u) λx V w' hx=> ?_);have⟨E,e',Z',F,hxr,hq,g1,g2,g3,g4,g5⟩:=hx;cases E with
   |normal=>
    cases x<;>simp[ym]at hxr;exact⟨.normal,e',Z',F,trivial,hq,g1,g2,g3,g4,g5⟩
   |exit i=>
    simp only at hq;cases x with
    |exit j=>
     obtain⟨rfl,hj⟩:=hxr;simp only[Exit.inBlock];split
     .rename_i hid;rw[zE hid]at hq;exact⟨.normal,e',Z',F,trivial,hq,g1,g2,g3,g4,g5⟩
     .rename_i hid;rw[zF hid]at hq;exact⟨.exit i,e',Z',F,⟨rfl,hj⟩,hq,g1,g2,g3,g4,g5⟩
    |goto l=>
     have hxr':i=DG+2*l:=hxr;rw[Zh]at hq;exact⟨.exit i,e',Z',F,hxr,hq,g1,g2,g3,g4,g5⟩
    |_=>exact hxr.elim
   |ret=>
    cases x<;>simp[ym]at hxr;exact⟨.ret,e',Z',F,trivial,hq,g1,g2,g3,g4,g5⟩
  .cases h
 |loop b ih=>
  refine(λA=>⟨A,Vg.of rfl rfl A⟩) ?_;intro ac h Q e Z μ a w g s p u;simp only[mM,MY,rj]at h;obtain⟨ab,H,h⟩:=Option.map_eq_some_iff.1 h;subst h;simp only[w8]at g;have⟨n,hn⟩:=g;exact QV (f:=w8 T ab) (λQ e Z μ a w hf=>ih.1 ab H Q e Z μ a w hf) hn s p u μ.le_refl (Below.refl _ _)
 |scope b ih=>
  refine(λA=>⟨A,Vg.of rfl rfl A⟩) ?_;intro ac h Q e Z μ a w g s p u;simp only[mM,MY,rj]at h;split at h
  .rename_i ac' H;split at h
   .rename_i hno;injection h with h
    subst h;have hw':=Tl hM _ Q e Z g
    have hng: ∀(W:Nat) (a:Act) (w':World),¬rT B N μ w (Tx ac' Q) (.goto W) a w':=by
     rintro W a w' ⟨ax,e',Z',F,k1,k2,_⟩;cases ax with
     |exit i=>
      have k1:i=DG+2*W:=k1;have:=Ox hno (k2.1 i rfl);omega
     |_=>exact k1.elim
    have fin: ∀{x:Exit} {V:Act} {w':World},rT B N μ w (Tx ac' Q) x V w'->rT B N μ w Q x V w':=λh=>az3 h λ_ _ _ _ h=>h.2
    have⟨s1,s2⟩:=ih.2 ac' H (Tx ac' Q);cases hl:iJ b with
    |none=>
     refine wp_scope_straight (wp_mono (s1 hl e Z μ a w hw' s p u) λx V w' hx=> ?_);cases x with
     |goto W=>exact(hng W V w' hx).elim
     |_=>exact fin hx
    |some l=>
     have⟨M,L,hf,hJ⟩:=s2 l hl;have⟨j1,j2⟩:=hJ μ w;refine wp_mono (SU l (Jst B N μ w L) hf hng (j1 e Z μ a w hw' s p u μ.le_refl (Below.refl _ _)) j2) λx V w' hx=>fin hx
   .cases h
  .cases h
 |exit id=>
  refine(λA=>⟨A,Vg.of rfl rfl A⟩) ?_;intro ac h Q e Z μ a w g s p u;simp only[mM,MY,rj]at h;split at h
  .rename_i hlt;injection h with h
   subst h;exact wp_exit ⟨.exit id,e,Z,μ,⟨rfl,hlt⟩,g,μ.le_refl,s,p,u,Below.refl _ _⟩
  .cases h
 |ret=>
  refine(λA=>⟨A,Vg.of rfl rfl A⟩) ?_;intro ac h Q e Z μ a w g s p u;simp[mM,MY,rj]at h;subst h;exact wp_ret ⟨.ret,e,Z,μ,trivial,g,μ.le_refl,s,p,u,Below.refl _ _⟩
 |_=>
  refine(λA=>⟨A,Vg.of rfl rfl A⟩) ?_;intro ac h;simp[mM,MY,rj]at h
def as5 (p:vd T)(u: ∀f,Yz P f (T f))(c:Code)(g:AC)(h:mM P N c=O g)(Q:AExit->cm->Hp->Prop)(e:cm)(Z:Hp)(μ:Mu)(a:Act)(w:World)(E:w8 T g Q e Z)
  (s:R B μ Z w) (C:ga μ N e a.tmps) (A:a.defers=[]):c.wp P (rT B N μ w Q) a w:=(aa4 p u c).1 g h Q e Z μ a w E s C A
end
end
section
open List renaming mapM_cons -> bD, getElem?_eq_getElem -> cB
open Result renaming andThen_ok -> aB
open Sem renaming run_bind -> aD, run_pure -> bB
open Go.RowKit
def MZ (P:Program):List ResultVar->Option (List ARes)
 |[]=>O []
 | .tmp t::r=>(MZ P r).map (.tmp t:: ·)
 | .cell a t::r=>match AI P t,mK P t,MZ P r with
  |some Za,O n,O r=>O (.cellN a n::r)
  |some Zb,O _,O r=>O (.cell a::r)
  |_,_,_=>Y
def Yr (P:Program)(f:FuncId):Option AFn:=match P.funcs[f]? with
 |some g=>match g.body,TW P f with
  |some c,true=>match mM P g.ntmps c,MZ P g.results.toList with
   |some h,O rs=>O ⟨g.ntmps,rs,h⟩
   |_,_=>Y
  |_,_=>Y
 |none=>Y
section
variable {P:Program} {T:iU} {B:Base P} {N:Nat} {μ:Mu} {Z:Hp} {w:World} {e:cm}
def D9 (g:Array Value):ResultVar->Sem Value
 | .tmp t=>pure (g.getD t undef)
 | .cell a t=>do loadVar t (<-asAddr (g.getD a undef))
def UQ (p:Func)(g:Array Value):results p g=(do
  let vs<-p.results.mapM (D9 g)
  pure (if h:vs.size=1 then vs[0]else .tuple vs)):=rfl
def Qx {p:Array Value}(W:ga μ N e p)(V:R B μ Z w): ∀(l:List ResultVar) (rs:List ARes) (vs:List Value),MZ P l=O rs->I9 e Z rs=O vs->
  ∃u,(l.mapM (D9 p)).run P w= .ok u w/\F2 (VR μ) vs u
 |[],rs,vs,h,s=>by
  simp[MZ]at h;subst h;simp[I9]at s;subst s;exact⟨[],V2, .nil⟩
 | .tmp t::l,rs,vs,h,s=>by
  simp only[MZ]at h;obtain⟨C,H,h⟩:=Option.map_eq_some_iff.1 h;subst h;simp only[I9]at s;split at s
  .rename_i v E J L;cases s;simp[MA]at J;subst J;have⟨u,A,M⟩:=Qx W V l C E H L;refine⟨p.getD t undef::u, ?_, .cons (W.2 t) M⟩;have U:(D9 p (.tmp t)).run P w= .ok (p.getD t undef) w:=rfl;simp only[bD,aD,bB,aB,U,A]
  .cases s
 | .cell a t::l,rs,vs,h,s=>by
  simp only[MZ]at h;have hv:=W.2 a;split at h
  .rename_i n C H J L;cases h;simp only[I9]at s;split at s
   .rename_i v E A M;cases s;have⟨u,h6,h7⟩:=Qx W V l C E L M;simp only[MA]at A;split at A
    .rename_i b o hb;rw[hb]at hv;have⟨g,X,hq⟩:=hv.ptr_inv;obtain⟨x,hx,A⟩:=Option.bind_eq_some_iff.1 A;obtain⟨cs,hcs,rfl⟩:=Option.map_eq_some_iff.1 A;have⟨F,k1,k2⟩:=V.reads hx X hcs;refine⟨.agg F.toArray::u, ?_, .cons (.agg k2) h7⟩
     have U:(D9 p (.cell a t)).run P w= .ok (.agg F.toArray) w:=by
      simp only[D9,aD,hq,asAddr,bB,aB,loadVar,FU H,if_true,nC J,k1 P w rfl]
     simp only[bD,aD,bB,aB,U,h6]
    .cases A
   .cases s
  .rename_i n C H J L;cases h;simp only[I9]at s;split at s
   .rename_i v E A M;cases s;have⟨u,h6,h7⟩:=Qx W V l C E L M;simp only[MA]at A;split at A
    .rename_i b o hb;rw[hb]at hv;have⟨g,X,hq⟩:=hv.ptr_inv;obtain⟨x,hx,A⟩:=Option.bind_eq_some_iff.1 A;have⟨v',k1,k2⟩:=(V.get hx X.1).cell X.2 o v A;refine⟨v'::u, ?_, .cons k2 h7⟩
     have U:(D9 p (.cell a t)).run P w= .ok v' w:=by
      simp only[D9,aD,hq,asAddr,bB,aB,loadVar,FU H,Bool.false_eq_true,if_false,run_load,k1]
     simp only[bD,aD,bB,aB,U,h6]
    .cases A
   .cases s
  .cases h
def ac2 {af:AFn}(h:Yr P f=O af)(hM:vd T)(hT: ∀g,Yz P g (T g)):Yz P f (wpF T af):=by
 unfold Yr at h;split at h
 .rename_i A E;split at h
  .rename_i c hb s;split at h
   .rename_i ac rs h1 h2;injection h with h
    subst h;intro B μ Z w args p K X hR ha;obtain⟨M,X⟩:=X
    have C:w9 P f:=by
     unfold TW at s;rw[E]at s;simp only[Bool.and_eq_true,Bool.not_eq_true']at s;exact⟨A,E,s.1,s.2⟩
    refine⟨C,calls_of_wp E hb ?_⟩;have hsz:p.size=args.length:=by simpa using ha.length.symm
    have L:ga μ A.ntmps (cm.of args) (p++Array.replicate (A.ntmps-p.size) undef):=by
     refine⟨by simp only[Array.size_append,Array.size_replicate];simp only at M;omega,λt=> ?_⟩;unfold cm.of;by_cases ht:t<args.length
     .obtain⟨v',h3,h4⟩:=ha.get t args[t] (cB ht)
      have:(p++Array.replicate (A.ntmps-p.size) undef).getD t undef=v':=by
       simp only[Array.getD_eq_getD_getElem?];rw[Array.getElem?_append_left V1];have:p[t]?=O v':=by simpa using h3
       simp[this]
      rw[this,cB ht];exact h4
     .have:(p++Array.replicate (A.ntmps-p.size) undef).getD t undef=undef:=by
       simp only[Array.getD_eq_getD_getElem?];rw[Array.getElem?_append_right V1,Array.getElem?_replicate];split<;>rfl
      rw[this,List.getElem?_eq_none V1];exact VR.undef μ
    refine wp_mono (as5 hM hT c ac h1 _ _ Z μ ⟨_,[]⟩ w X hR L rfl) λx a' w' hx=> ?_
    obtain⟨ax,e',Z',μ',U,F,g1,g2,g3,g4,g5⟩:=hx
    have J:(match I9 e' Z' rs with
      |some V=>K (AU V) Z'
      |none=>False)->a'.defers=[]/\∃v,(results A a'.tmps).run P w'= .ok v w'/\aU0 P B μ w K (.returned v) w':=by
     intro F;refine⟨g4, ?_⟩;split at F
     .rename_i V W;obtain⟨H,k1,k2⟩:=Qx (P:=P) g3 g2 A.results.toList rs V h2 W;have hl:=k2.length;refine⟨AU H, ?_,_,Z',_,μ',rfl,F,g1,g2, ?_,g5,rfl⟩
      .rw[UQ,Array.mapM_eq_mapM_toList];simp only[aD,Sem.run_map,k1,aB,bB]
       congr 1
       match H,hl with
       |[],_=>rfl
       |[v],_=>rfl
       |v::u::r,_=>simp[AU]
      .match V,H,k2 with
       |[],_, .nil=>exact .tuple .nil
       |[v],_, .cons h .nil=>exact h
       |v::u::r,_, .cons h (.cons h' t)=>exact .tuple (.cons h (.cons h' t))
     .exact F.elim
    cases ax with
    |normal=>
     cases x<;>simp[ym]at U;exact J F
    |exit id=>exact F.elim
    |ret=>
     cases x<;>simp[ym]at U;exact J F
   .cases h
  .cases h
 .cases h
end
end
section
open Go.RowKit
section
variable {P:Program} {f:FuncId} {S S':Px}
end
def Hp.Ok (Z:Hp):Prop:= ∀b x,Z.m b=O x->b<Z.n
section
variable {P:Program} {f:FuncId} {S S':Px} {Z Z1:Hp} {K:Value->Hp->Prop}
end
section
variable {T:iU}
end
end
section
section
variable {T:iU} {Q:AExit->cm->Hp->Prop} {q:cm->Hp->Prop} {e:cm} {Z Z':Hp} {a b:AC} {k:Value->Hp->Prop} {v:Value} {K:Value->Hp->Prop}
end
end
section
def aE0 (s:Px):Prop:= ∀args Z (K K':Value->Hp->Prop),(∀r Z',K r Z'->K' r Z')->s args Z K->s args Z K'
section
variable {T:iU} {Q:AExit->cm->Hp->Prop} {e:cm} {Z:Hp} {b:AC} {I:cm->Hp->Prop} {m:cm->Hp->Nat} {e0:cm} {Z0:Hp}
end
section
variable {k:IntKind} {a b:Int}
end
section
variable {a b c d:Value} {l:List Value}
end
section
variable {Z:Hp} {x y:Blk} {i b o:Nat} {z:Option Blk}
end
section
variable {e:cm} {Z:Hp} {rs:List ARes} {t n b o:Nat}
end
section
variable {T:iU} {e:cm} {Z:Hp} {k:Value->Hp->Prop} {q:cm->Hp->Prop}
end
section
variable {T:iU} {q:cm->Hp->Prop} {r:List SItem} {e:cm} {Z:Hp} {i:Nat} {d:Option Nat} {kp:Bool} {is:List Nat} {chk:List (Nat×(Hp->Prop))}
end
end
section
section
variable {T:iU} {e:cm} {Z:Hp} {k:Value->Hp->Prop}
end
section
variable {Z:Hp} {x:Blk} {i b:Nat} {z:Option Blk}
end
end
section
open IntKind renaming bits -> aB, max -> aD, min -> bB, signed -> bD
open List renaming getElem?_eq_none -> cB
open Go.RowKit (Below)
structure Row where
 c:Nat
 o:Nat
 ext:Nat
 es:Nat
 cells:List Value
def Re (P:Program)(w:World):Prop:=P.globalNamed "internal/strconv.uint64pow10" ≠Y->Lib.TabIs P w "internal/strconv.uint64pow10" .u64 Lib.pow10Tab
def Base.of {P:Program}(w:World)(A:Re P w):Base P:=⟨w.heap.size,λb=>w.heap[b]?,λw' _ C p=>by
 have h:=A p;unfold Lib.TabIs World.var? at h⊢;cases u:P.globalNamed "internal/strconv.uint64pow10" with
 |none=>exact(p u).elim
 |some g=>
  simp only[u,zG]at h⊢
  have s:g<w.heap.size:=by
   rcases Nat.lt_or_ge g w.heap.size with h'|h'
   .exact h'
   .rw[Array.getElem?_eq_none h']at h;cases h
  rw[C g s]
  exact h⟩
def oO (rows:List Row):Mu:=λi=>(rows[i]?).map λr=>⟨r.c,r.o,r.ext,r.es,0,Y⟩
def rC (g:Nat)(rows:List Row):Hp:={m:=λi=>ek (rows[i]?) λr=>if r.c<g then O ⟨r.cells,Zb,r.es⟩else Y,n:=(dt rows)}
def aQ2 {P:Program}(F:Re P w){rows:List Row}(h: ∀r∈rows,∀(i:Nat) (v:Value),r.cells[i]?=O v->∃v',w.cell? ⟨r.c,r.o+i,Y⟩=O v'/\VR (oO rows) v v'):
  R (Base.of w F) (oO rows) (rC w.heap.size rows) w:=by
 refine⟨Nat.le_refl _,λ_ _=>rfl,λb H=> ?_,λb x p=> ?_,λb M x V g U p _ _ C=> ?_,λb x g _ u J _ _=>(by
  simp only[oO]at u;cases s:rows[b]? with
  |none=>rw[s]at u;cases u
  |some r=>rw[s]at u;cases u;cases J)⟩
 .simp only[oO,cB H,Option.map_none]
 .simp only[rC]at p;cases s:rows[b]? with
  |none=>rw[s]at p;cases p
  |some r=>
   rw[s,zG]at p;split at p
   .rename_i A;cases p;refine⟨⟨r.c,r.o,r.ext,r.es,0,Y⟩,by simp only[oO,s,Option.map_some],A,rfl,λ_ i v L=>h r (List.mem_of_getElem? s) i v L,λ_ C=>(by cases C),λ_ E=>(by cases E),λE=>by cases E⟩
   .cases p
 .simp only[rC]at p;cases s:rows[b]? with
  |none=>rw[s]at p;cases p
  |some r=>
   rw[s,zG]at p;split at p
   .injection p with p
    subst p;cases C
   .cases p
def az9 {g:Nat}{rows:List Row}:(rC g rows).Ok:=by
 intro b x p;rcases Nat.lt_or_ge b (dt rows) with h|h
 .exact h
 .simp only[rC,cB h,Option.bind_none]at p;cases p
def aO2 {P:Program}{S:Px}(C:Yz P f S)(s:Re P w){rows:List Row}{args:List Value}{cargs:Array Value}
  (p: ∀r∈rows,∀(i:Nat) (v:Value),r.cells[i]?=O v->∃v',w.cell? ⟨r.c,r.o+i,Y⟩=O v'/\VR (oO rows) v v')
  (g:F2 (VR (oO rows)) args cargs.toList) (h:S args (rC w.heap.size rows) λr _=>r= .bool Za):
  Calls P f cargs w λe w'=>e= .returned (.bool Za)/\Below w.heap.size w w':=by
 refine(C _ _ _ w args cargs _ h (aQ2 s p) g).2.mono λx w' E=> ?_
 obtain⟨r,Z',F,H,rfl,rfl,_,_,A,u,_⟩:=E;cases A;exact⟨rfl,u⟩
section
variable {k:IntKind} {w:World} {a:Option Addr} {len cap:Nat} {zs:Zd} {rows:List Row} {j:Nat}
def as0 {x:Addr}(h:w.cell? x=O v):x.block<w.heap.size:=by
 unfold World.cell? at h;split at h
 .rename_i g;exact(Array.getElem?_eq_some_iff.1 g).1
 .cases h
def X9 {x:Addr}(h:w.cell? (x.add 0)=O v):x.spot=Y:=by
 have:=World.cell?_spot h;simpa[Addr.add]using this
def LD {x:Addr}{i:Nat}(g:x.spot=Y)(h:w.cell? (x.add i)=O v):w.cell? ⟨x.block,x.off+i,Y⟩=O v:=by
 have⟨b,o,s⟩:=x;simp only at g;subst g
 have:(⟨b,o,Y⟩:Addr).add i=⟨b,o+i,Y⟩:=by
  simp only[Addr.add];split
  .rename_i p;subst p;rfl
  .rfl
 rwa [this]at h
end
def aR7 {n:Int}(h:(Lit.int .i64 n).wf=Za): -9223372036854775808<=n/\n<=9223372036854775807:=by
 simpa[Lit.wf,bB,aD,bD,aB]using h
def aR8 {n:Int}(h:(Lit.int .u64 n).wf=Za):0<=n/\n<=18446744073709551615:=by
 simpa[Lit.wf,bB,aD,bD,aB]using h
def aY8 {n:Int}(h:(Lit.int .u8 n).wf=Za):0<=n/\n<=255:=by
 simpa[Lit.wf,bB,aD,bD,aB]using h
end
end Go.Ab
namespace Go.V
open Go.Ab
open Option renaming some->O,none->Y
open Bool renaming true->Za,false->Zb
open Decidable renaming decide->Zc
open List renaming length->dt
open Option renaming bind->ek
section
open List renaming replicate -> bD
open Nat renaming beq -> aB, ble -> aD
open Option renaming none -> bB
inductive Sh where
 |int (k:IntKind)
 |bool
 |str
 |list (s:Sh)
 |pair (a b:Sh)
 deriving DecidableEq
@[reducible] def El :Sh->Type
 | .int _=>Int
 | .bool=>Bool
 | .str=>Zd
 | .list s=>List (El s)
 | .pair a b=>El a×El b
def Sh.w :Sh->Nat
 | .pair a b=>a.w+b.w
 |_=>1
inductive VV where
 |undef
 |bool (b:Bool)
 |int (k:IntKind) (n:Int)
 |str (l:Zd)
 |nilp
 |nils
 |nilf
 |ptr (k o:Nat)
 |pix (k o n i:Nat)
 |pel (k i o:Nat)
 |pin (s:Sh) (x:El s) (o:Nat)
 |lst (s:Sh) (l:List (El s))
 |tgt (s:Sh) (l:List (El s))
 |full (k:Nat)
 |part (k lo n:Nat)
 |it (k:Nat) (l:Zd)
 |bld (k:Nat)
 |fn (f:Nat) (a c:List VV)
 |agg (l:List VV)
 |tup (l:List VV)
inductive Blk where
 |dead
 |cells (es:Nat) (fz:Bool) (l:List VV)
 |arr (s:Sh) (fz:Bool) (l:List (El s))
abbrev ai :=List Blk
abbrev co :=List VV
def lQ :co->Nat->VV
 |[],_=> .undef
 |v::_,0=>v
 |_::r,n+1=>lQ r n
def qU :co->Nat->VV->co
 |[],0,v=>[v]
 |[],n+1,v=> .undef::qU [] n v
 |_::r,0,v=>v::r
 |a::r,n+1,v=>a::qU r n v
def putO (e:co)(d:Option Nat)(v:VV):co:=match d with
 |some d=>qU e d v
 |none=>e
def ae :ai->Nat->Blk
 |[],_=> .dead
 |b::_,0=>b
 |_::r,n+1=>ae r n
def mx :ai->Nat->Blk->ai
 |[],_,_=>[]
 |_::r,0,b=>b::r
 |a::r,n+1,b=>a::mx r n b
def nth {α:Type}:List α->Nat->Option α
 |[],_=>Y
 |v::_,0=>O v
 |_::r,n+1=>nth r n
def eg (s:ByteArray):Zd:=s.data.toList.map λb=>(b.toNat:Int)
def Ki :Value->VV
 | .bool b=> .bool b
 | .int k n=> .int k n
 | .string s=> .str (eg s)
 | .pointer Y=> .nilp
 | .slice Y 0 0=> .nils
 | .nilFunc=> .nilf
 |_=> .undef
def ofC :Value->VV
 | .agg g=> .agg (g.toList.map Ki)
 |v=>Ki v
def ev (e:co):Operand->VV
 | .tmp t=>lQ e t
 | .const v=>ofC v
 | .func f=> .fn f [] []
 | .global _=> .undef
def ay8 :VV->Bool
 | .undef| .agg _| .tup _=>Zb
 |_=>Za
def nv :VV->List VV
 | .agg l=>l
 |v=>[v]
def dy :(s:Sh)->El s->List VV
 | .int k,n=>[.int k n]
 | .bool,b=>[.bool b]
 | .str,l=>[.str l]
 | .list s,l=>[.lst s l]
 | .pair a b,x=>dy a x.1++dy b x.2
def fO (s:Sh)(l:List (El s)):List VV:=l.flatMap (dy s)
def nu (g s:Sh)(x:El g):Option (El s):=if h:g=s then O (h▸x)else Y
def Jz {α:Type}(f:List VV->Option (α×List VV)):Nat->List VV->Option (List α)
 |_,[]=>O []
 |0,_::_=>Y
 |n+1,v::l=>ek (f (v::l)) λp=>ek (Jz f n p.2) λr=>O (p.1::r)
def Blk.frozen :Blk->Bool
 | .dead=>Za
 | .cells _ z _=>z
 | .arr _ z _=>z
def AK (s:Sh)(f:List VV->Option (El s×List VV)):Blk->Option (List (El s))
 | .dead=>Y
 | .arr h _ l=>nu (.list h) (.list s) l
 | .cells g _ l=>bif aB g s.w then Jz f (dt l) l else Y
def GV (S:ai)(s:Sh)(f:List VV->Option (El s×List VV)):VV->Option (List (El s))
 | .nils=>O []
 | .lst h l=>nu (.list h) (.list s) l
 | .full k=>AK s f (ae S k)
 | .part k g n=>ek (AK s f (ae S k)) λl=>O ((l.drop g).take n)
 |_=>Y
def Qe (S:ai)(s:Sh)(f:List VV->Option (El s×List VV)):VV->Option (List (El s))
 | .full k=>bif (ae S k).frozen then GV S s f (.full k)else Y
 | .part k g n=>bif (ae S k).frozen then GV S s f (.part k g n)else Y
 |v=>GV S s f v
def kv (S:ai):(s:Sh)->List VV->Option (El s×List VV)
 | .int k, .int g n::r=>bif Zc (g=k)then O (n,r)else Y
 | .bool, .bool b::r=>O (b,r)
 | .str, .str l::r=>O (l,r)
 | .list s,v::r=>ek (Qe S s (kv S s) v) λl=>O (l,r)
 | .pair a b,l=>ek (kv S a l) λp=>ek (kv S b p.2) λq=>O ((p.1,q.1),q.2)
 |_,_=>Y
def VP (S:ai)(s:Sh)(v:VV):Option (List (El s)):=GV S s (kv S s) v
def Blk.freeze :Blk->Blk
 | .dead=> .dead
 | .cells g _ l=> .cells g Za l
 | .arr s _ l=> .arr s Za l
def fzv :Nat->ai->VV->ai
 |0,S,_=>S
 |n+1,S,v=>match v with
  | .full k=>(match ae S k with
   | .cells g _ l=>l.foldl (fzv n) (mx S k (.cells g Za l))
   |b=>mx S k b.freeze)
  | .part k _ _=>(match ae S k with
   | .cells g _ l=>l.foldl (fzv n) (mx S k (.cells g Za l))
   |b=>mx S k b.freeze)
  |_=>S
def He (S:ai)(l:List VV):ai:=l.foldl (fzv 3) S
def aN1 (S:ai):VV->ai
 | .full k=>(match ae S k with
  | .cells _ _ l=>He S l
  |_=>S)
 | .part k _ _=>(match ae S k with
  | .cells _ _ l=>He S l
  |_=>S)
 |_=>S
section
variable {β:Type}
def gd (b:Bool)(x:Option β):Option β:=cond b x Y
def ix (i:Int)(n:Nat):Option Nat:=cond (Zc (0<=i)&&Zc (i<n)) (O i.toNat) Y
def rd {α:Type}(l:List α)(i:Int):Option α:=cond (Zc (0<=i)) l[i.toNat]? Y
def al1 (p:Bool):VV->VV->Option VV
 | .int k x, .int g y=>cond (Zc (k=g)) (O (.int k (cond p x y))) Y
 | .bool x, .bool y=>O (.bool (cond p x y))
 | .str x, .str y=>O (.str (cond p x y))
 |_,_=>Y
def ai1 (p:Bool)(x y:VV)(S:ai)(k:VV->ai->Option β):Option β:=match al1 p x y with
 |some v=>k v S
 |none=>cond p (k x S) (k y S)
def DF :IntKind->List VV->Option (Zd)
 |_,[]=>O []
 |k, .int g n::r=>cond (Zc (g=k)) (ek (DF k r) λl=>O (n::l)) Y
 |_,_=>Y
def Lv :List VV->Option (List Bool)
 |[]=>O []
 | .bool b::r=>ek (Lv r) λl=>O (b::l)
 |_=>Y
def S8 :List VV->Option (List (Zd))
 |[]=>O []
 | .str b::r=>ek (S8 r) λl=>O (b::l)
 |_=>Y
def We (S:ai)(k:VV->ai->Option β):List VV->Nat->Option β
 |[],_=>Y
 |v::r,i=>cond (aB i 0) (k v S) (We S k r (i-1))
def Rk (cs:List VV)(i:Nat)(S:ai)(k:VV->ai->Option β):Option β:=match cs with
 | .int g n::r=>(match DF g r with
  |some l=>k (.int g ((n::l).getD i 0)) S
  |none=>Y)
 | .bool b::r=>(match Lv r with
  |some l=>k (.bool ((b::l).getD i Zb)) S
  |none=>Y)
 | .str b::r=>(match S8 r with
  |some l=>k (.str ((b::l).getD i [])) S
  |none=>Y)
 |cs=>We S k cs i
def MN (v:VV):List VV->Nat->Nat->Option (List VV)
 |[],_,_=>O []
 |c::r,i,j=>ek (al1 (aB i j) v c) λx=>ek (MN v r i (j+1)) λl=>O (x::l)
def aA5 (cells:List VV)(o:Nat):List VV->List VV
 |[]=>cells
 |v::g=>aA5 (cells.set o v) (o+1) g
def JE (cells:List VV):List (Nat×Nat×VV)->Option (List VV)
 |[]=>O cells
 |(h,g,v)::p=>
  cond (aB (dt (nv v)) g&&aD (h+g) (dt cells)&&(nv v).all ay8) (JE (cells.take h++nv v++cells.drop (h+g)) p) Y
def Bv (e:co)(l:List (Nat×Nat×Operand)):List (Nat×Nat×VV):=l.map λ(o,s,x)=>(o,s,ev e x)
def pF (l:List VV):Bool:=l.all ay8
def OC (S:ai)(n:Nat)(agg:Bool)(a:VV)(k:VV->ai->Option β):Option β:=
 let g (h:List VV) (o:Nat):Option β:=cond agg (gd (aD (o+n) (dt h)) (k (.agg ((h.drop o).take n)) S)) (match nth h o with
  |some v=>k v S
  |none=>Y)
 match a with
 | .ptr b o=>(match ae S b with
  | .cells _ _ l=>g l o
  |_=>Y)
 | .pix b o m i=>(match ae S b with
  | .cells _ _ l=>gd (!agg&&aD (o+m) (dt l)) (Rk ((l.drop o).take m) i S k)
  |_=>Y)
 | .pel b i o=>(match ae S b with
  | .arr s _ l=>ek (l[i]?) λx=>g (dy s x) o
  |_=>Y)
 | .pin s x o=>g (dy s x) o
 |_=>Y
def UZ (S:ai)(a:VV)(cs:List VV)(k:ai->Option β):Option β:=match a with
 | .ptr b o=>(match ae S b with
  | .cells g Zb l=>gd (aD (o+dt cs) (dt l)) (k (mx S b (.cells g Zb (aA5 l o cs))))
  |_=>Y)
 | .pix b o m i=>(match ae S b,cs with
  | .cells g Zb l,[v]=>gd (aD (o+m) (dt l)) (match MN v ((l.drop o).take m) i 0 with
   |some h=>k (mx S b (.cells g Zb (l.take o++h++l.drop (o+m))))
   |none=>Y)
  |_,_=>Y)
 | .pel b i o=>(match ae (He S cs) b with
  | .arr s Zb l=>ek (l[i]?) λx=>(match kv (He S cs) s (aA5 (dy s x) o cs)with
   |some (y,[])=>gd (aD (o+dt cs) s.w) (k (mx (He S cs) b (.arr s Zb (l.set i y))))
   |_=>Y)
  |_=>Y)
 |_=>Y
def uB (k:IntKind)(f:BitVec k.bits->BitVec k.bits->BitVec k.bits)(x y:Int):Int:=k.wrap (f (BitVec.ofInt k.bits x) (BitVec.ofInt k.bits y)).toNat
def TE (op:BinOp)(g:IntKind)(x y:Int)(k:VV->Option β):Option β:=match op with
 | .add=>k (.int g (g.wrap (x+y)))
 | .sub=>k (.int g (g.wrap (x-y)))
 | .mul=>k (.int g (g.wrap (x*y)))
 | .quo=>gd (Zc (y≠0)) (k (.int g (g.wrap (x.tdiv y))))
 | .rem=>gd (Zc (y≠0)) (k (.int g (x.tmod y)))
 | .and=>k (.int g (uB g (· &&& ·) x y))
 | .or=>k (.int g (uB g (· ||| ·) x y))
 | .xor=>k (.int g (uB g (· ^^^ ·) x y))
 | .andNot=>k (.int g (uB g (λa b=>a&&& ~~~b) x y))
 | .eql=>k (.bool (Zc (x=y)))
 | .neq=>k (.bool (Zc (x≠y)))
 | .lss=>k (.bool (Zc (x<y)))
 | .leq=>k (.bool (Zc (x<=y)))
 | .gtr=>k (.bool (Zc (y<x)))
 | .geq=>k (.bool (Zc (y<=x)))
 |_=>Y
def al5 (op:BinOp)(g:IntKind)(x y:Int)(k:VV->Option β):Option β:=match op with
 | .shl=>gd (Zc (0<=y)) (k (.int g (g.wrap (x*2 ^ (min y.toNat g.bits)))))
 | .shr=>gd (Zc (0<=y)) (k (.int g (x.fdiv (2 ^ (min y.toNat g.bits)))))
 |_=>Y
def tg (a b:Nat):Bool:=aD (a+b) 9223372036854775807
def aY3 (op:BinOp)(x y:Zd)(k:VV->Option β):Option β:=match op with
 | .add=>gd (tg (dt x) (dt y)) (k (.str (x++y)))
 | .eql=>k (.bool (Zc (x=y)))
 | .neq=>k (.bool (Zc (x≠y)))
 |_=>Y
def aK8 (op:BinOp)(x y:VV)(k:VV->Option β):Option β:=match x,y with
 | .int g a, .int h b=>cond (vY op) (al5 op g a b k) (cond (Zc (g=h)) (TE op g a b k) Y)
 | .str a, .str b=>cond (vY op) Y (aY3 op a b k)
 |_,_=>Y
def af7 (g p:Bool):Bool:=cond g (!p) p
def Blk.live :Blk->Bool
 | .dead=>Zb
 |_=>Za
def L5 (S:ai):VV->Bool
 | .ptr k _=>(ae S k).live
 | .pix k _ _ _=>(ae S k).live
 | .pel k _ _=>(ae S k).live
 | .pin _ _ _=>Za
 |_=>Zb
def aM6 (S:ai):Nat->VV->VV->Option Bool
 |0, .bool a, .bool b=>O (a==b)
 |1, .nilp, .nilp=>O Za
 |1, .nilp,v=>cond (L5 S v) (O Zb) Y
 |1,v, .nilp=>cond (L5 S v) (O Zb) Y
 |2, .nils, .nils=>O Za
 |3, .nilf, .nilf=>O Za
 |3, .nilf, .fn _ _ _=>O Zb
 |3, .fn _ _ _, .nilf=>O Zb
 |_,_,_=>Y
def Xk :Nat->VV->VV->Option Bool
 |0, .bool a, .bool b=>O (a==b)
 |1, .int k a, .int g b=>cond (Zc (k=g)) (O (Zc (a=b))) Y
 |2, .str a, .str b=>O (Zc (a=b))
 |_,_,_=>Y
def NC :List Nat->List VV->List VV->Option Bool
 |[],[],[]=>O Za
 |[k],[a],[b]=>Xk k a b
 |k::g,a::r,b::s=>ek (Xk k a b) λp=>ek (NC g r s) λq=>O (p&&q)
 |_,_,_=>Y
def unK (op:UnOp)(x:VV)(k:VV->Option β):Option β:=match op,x with
 | .neg, .int g n=>k (.int g (g.wrap (0-n)))
 | .xor, .int g n=>k (.int g (g.wrap (BitVec.ofInt g.bits (if g.signed then-1 else g.max) ^^^ BitVec.ofInt g.bits n).toNat))
 | .not, .bool b=>k (.bool !b)
 |_,_=>Y
def Oh :VV->Option Int
 | .int _ n=>O n
 |_=>Y
def lenOf (S:ai):VV->Option Nat
 | .nils=>O 0
 | .lst _ l=>O (dt l)
 | .full b=>(match ae S b with
  | .arr _ _ l=>O (dt l)
  | .cells g _ l=>O (dt l / g)
  | .dead=>Y)
 | .part b _ n=>cond (ae S b).live (O n) Y
 | .str l=>O (dt l)
 |_=>Y
def pU {α:Type}(l:List α)(h g:Int):List α:=(l.take g.toNat).drop h.toNat
def DH :Option VV->Option Int
 |none=>O 0
 |some v=>Oh v
def xq (n:Nat):Option VV->Option Int
 |none=>O n
 |some v=>Oh v
def dv (h g:Int)(n:Nat):Bool:=Zc (0<=h)&&Zc (h<=g)&&Zc (g<=n)
def UV (S:ai)(es:Nat)(x:VV)(p h:Option VV)(k:VV->ai->Option β):Option β:=
 match lenOf S x with
 |none=>Y
 |some n=>match DH p,xq n h with
  |some a,O b=>(match x with
   | .nils=>gd (dv a b n) (k .nils S)
   | .lst s l=>gd (aB es s.w) (match p,h with
    |none,Y=>k (.lst s l) S
    |_,_=>gd (dv a b n) (k (.lst s (pU l a b)) S))
   | .full q=>(match ae S q with
    | .arr s _ _=>gd (aB es s.w) (gd (dv a b n) (k (.part q a.toNat (b.toNat-a.toNat)) S))
    | .cells g _ _=>gd (aB es g&&aD 1 es) (gd (dv a b n) (k (.part q a.toNat (b.toNat-a.toNat)) S))
    | .dead=>Y)
   | .part q o _=>(match ae S q with
    | .arr s _ _=>gd (aB es s.w) (gd (dv a b n) (k (.part q (o+a.toNat) (b.toNat-a.toNat)) S))
    | .cells g _ _=>gd (aB es g&&aD 1 es) (gd (dv a b n) (k (.part q (o+a.toNat) (b.toNat-a.toNat)) S))
    | .dead=>Y)
   |_=>Y)
  |_,_=>Y
def Jc (S:ai)(x:VV)(h g:Option VV)(k:VV->ai->Option β):Option β:=match x with
 | .str l=>(match DH h,xq (dt l) g with
  |some a,O b=>gd (dv a b (dt l)) (k (.str (pU l a b)) S)
  |_,_=>Y)
 |_=>Y
def Jb (S:ai)(es n:Nat)(x:VV)(p h:Option VV)(k:VV->ai->Option β):Option β:=match x with
 | .ptr b o=>(match ae S b with
  | .cells g Zb l=>(match DH p,xq n h with
   |some a,O c=>gd (aB es g&&aD 1 es&&aB (o % es) 0&&aD (o+n*es) (dt l)&&dv a c n&&Zc (a<n)) (k (.part b (o / es+a.toNat) (c.toNat-a.toNat)) S)
   |_,_=>Y)
  | .arr s Zb l=>(match DH p,xq n h with
   |some a,O c=>gd (aB es s.w&&aB o 0&&aD n (dt l)&&dv a c n&&Zc (a<n)) (k (.part b a.toNat (c.toNat-a.toNat)) S)
   |_,_=>Y)
  |_=>Y)
 |_=>Y
def aO0 :Value->Bool
 | .int .u8 n=>Zc (n=0)
 |_=>Zb
def TL (es:Nat)(z:List Value):Bool:=aB es 1&&aD 20 (dt z)&&z.all aO0
def EM (es:Nat)(z:List Value):Blk:=cond (TL es z) (.arr (.int .u8) Zb (bD (dt z) (0:Int))) (.cells es Zb (z.map Ki))
def aP1 (S:ai)(n:Nat):VV->Option VV
 | .ptr b o=>cond (ae S b).live (O (.ptr b (o+n))) Y
 | .pel b i o=>cond (ae S b).live (O (.pel b i (o+n))) Y
 | .pin s x o=>O (.pin s x (o+n))
 | .pix b o m i=>cond (ae S b).live (cond (aB n 0) (O (.pix b o m i)) Y) Y
 |_=>Y
def aN5 (S:ai)(es:Nat)(x i:VV)(k:VV->ai->Option β):Option β:=match i with
 | .int _ i=>(match x with
  | .lst s l=>gd (aB es s.w) (ek (rd l i) λy=>k (.pin s y 0) S)
  | .full b=>(match ae S b with
   | .arr s _ l=>gd (aB es s.w) (ek (ix i (dt l)) λj=>k (.pel b j 0) S)
   | .cells g _ l=>gd (aB es g&&aD 1 es) (ek (ix i (dt l / es)) λj=>cond (aB es 1) (k (.pix b 0 (dt l) j) S) (k (.ptr b (j*es)) S))
   | .dead=>Y)
  | .part b o n=>(match ae S b with
   | .arr s _ _=>gd (aB es s.w) (ek (ix i n) λj=>k (.pel b (o+j) 0) S)
   | .cells g _ _=>gd (aB es g&&aD 1 es) (ek (ix i n) λj=>cond (aB es 1) (k (.pix b o n j) S) (k (.ptr b ((o+j)*es)) S))
   | .dead=>Y)
  |_=>Y)
 |_=>Y
def ad0 (S:ai)(ln es:Nat)(x i:VV)(k:VV->ai->Option β):Option β:=match x,i with
 | .ptr b o, .int _ i=>gd (ae S b).live (ek (ix i ln) λj=>cond (aB es 1) (k (.pix b o ln j) S) (k (.ptr b (o+j*es)) S))
 |_,_=>Y
def BZ (l:List VV)(a n:Nat):List VV:=(l.drop a).take n
def fd (n bytes:Nat):Bool:=Zc (n*bytes<=140737488355328)&&aD 1 bytes
inductive Base where
 |none
 |cells (es:Nat) (l:List VV)
 |arr (s:Sh) (l:List (El s))
def Bn (S:ai)(es:Nat):VV->Option (Base×Option Nat)
 | .nils=>O (.none,Y)
 | .full b=>(match ae S b with
  | .arr s Zb l=>cond (aB es s.w) (O (.arr s l,O b)) bB
  | .cells g Zb l=>cond (aB es g&&aD 1 es) (O (.cells es l,O b)) bB
  |_=>bB)
 | .part b 0 n=>(match ae S b with
  | .arr s Zb l=>cond (aB es s.w) (O (.arr s (l.take n),O b)) bB
  | .cells g Zb l=>cond (aB es g&&aD 1 es) (O (.cells es (l.take (n*es)),O b)) bB
  |_=>bB)
 |_=>bB
inductive More where
 |cells (l:List VV)
 |lst (s:Sh) (l:List (El s))
def pG (S:ai)(es:Nat):VV->Option More
 | .nils=>O (.cells [])
 | .lst s l=>cond (aB es s.w) (O (.lst s l)) Y
 | .str l=>cond (aB es 1) (O (.lst (.int .u8) l)) Y
 | .full b=>(match ae S b with
  | .arr s _ l=>cond (aB es s.w) (O (.lst s l)) Y
  | .cells g _ l=>cond (aB es g&&aD 1 es) (O (.cells l)) Y
  |_=>Y)
 | .part b o n=>(match ae S b with
  | .arr s _ l=>cond (aB es s.w) (O (.lst s ((l.drop o).take n))) Y
  | .cells g _ l=>cond (aB es g&&aD 1 es) (O (.cells ((l.drop (o*es)).take (n*es)))) Y
  |_=>Y)
 |_=>Y
def re (S:ai):Option Nat->ai
 |none=>S
 |some b=>mx S b .dead
def Ww (S:ai)(s:Sh)(l:List VV):Option (List (El s)):=Jz (kv S s) (dt l) l
def P8 (S:ai)(bytes:Nat)(s:Sh)(kill:Option Nat)(a b:List (El s))(k:VV->ai->Option β):Option β:=
 gd (fd (dt a+dt b) bytes) (k (.full (dt S)) (re S kill++[.arr s Zb (a++b)]))
def Kv (S:ai)(es bytes:Nat)(A:Option (Base×Option Nat))(E:Option More)(k:VV->ai->Option β):Option β:=
 match A,E with
 |some (.arr s l,g),O (.lst F p)=>ek (nu (.list F) (.list s) p) λu=>P8 S bytes s g l u k
 |some (.arr s l,g),O (.cells h)=>(match ae (He S h) (g.getD 0)with
  | .arr _ Zb _=>ek (Ww (He S h) s h) λu=>P8 (He S h) bytes s g l u k
  |_=>Y)
 |some (.cells _ l,g),O (.lst s p)=>(match ae (He S l) (g.getD 0)with
  | .cells _ Zb _=>ek (Ww (He S l) s l) λC=>P8 (He S l) bytes s g C p k
  |_=>Y)
 |some (.none,g),O (.lst s p)=>P8 S bytes s g [] p k
 |some (.cells es l,g),O (.cells h)=>gd (fd ((dt l+dt h) / es) bytes&&pF h) (k (.full (dt S)) (re S g++[.cells es Zb (l++h)]))
 |some (.none,g),O (.cells h)=>gd (fd (dt h / es) bytes&&aD 1 es&&pF h) (k (.full (dt S)) (re S g++[.cells es Zb h]))
 |_,_=>Y
def PH (S:ai)(es bytes:Nat)(x y:VV)(k:VV->ai->Option β):Option β:=Kv S es bytes (Bn S es x) (pG S es y) k
def U6 (S:ai)(es bytes:Nat)(s:Sh)(l:List (El s))(u:Option More)(k:VV->ai->Option β):Option β:=match u with
 |some (.lst A p)=>ek (nu (.list A) (.list s) p) λg=>gd (aB es s.w&&aD 1 (dt g)) (P8 S bytes s Y l g k)
 |some (.cells h)=>ek (Ww (He S h) s h) λg=>gd (aB es s.w&&aD 1 (dt g)) (P8 (He S h) bytes s Y l g k)
 |none=>Y
def Lh (S:ai)(es bytes:Nat)(x y:VV)(k:VV->ai->Option β):Option β:=match x with
 | .tgt s l=>U6 S es bytes s l (pG S es y) k
 |x=>PH S es bytes x y k
def wH (n:Int):Int:=((UInt8.ofNat n.toNat).toNat:Nat)
def U2 (S:ai)(v:VV)(k:VV->ai->Option β):Option β:=match v with
 | .str _=>Y
 |v=>(match pG S 1 v with
  |some (.lst s l)=>ek (nu (.list s) (.list (.int .u8)) l) λh=>k (.str (h.map wH)) S
  |some (.cells g)=>ek (DF .u8 g) λl=>k (.str (l.map wH)) S
  |none=>Y)
def BU {α:Type}(l:List α)(o n:Nat)(m:List α):List α:=l.take o++(m.take n++l.drop (o+min n (dt m)))
def HX (g:IntKind)(m:Zd):Nat->List VV->Option (List VV)
 |_,[]=>O []
 |j, .int k n::r=>cond (Zc (k=g)) (ek (HX g m (j+1) r) λl=>O (.int k (m.getD j n)::l)) Y
 |_,_=>Y
def aa5 (S:ai)(es:Nat)(d y:VV)(k:VV->ai->Option β):Option β:=
 let h (b o n:Nat):Option β:=match ae S b,pG S es y with
  | .arr s Zb l,O (.lst C A)=>ek (nu (.list C) (.list s) A) λg=>gd (aB es s.w) (k (.int .i64 (min (dt g) n:Nat)) (mx S b (.arr s Zb (BU l o n g))))
  | .arr s Zb l,O (.cells p)=>ek (DF .u64 p) λm=>ek (nu (.list (.int .u64)) (.list s) m) λg=>gd (aB es s.w) (k (.int .i64 (min (dt g) n:Nat)) (mx S b (.arr s Zb (BU l o n g))))
  | .cells 1 Zb l,O (.lst (.int u) m)=>gd (aB es 1&&aD (o+n) (dt l)) (match HX u m 0 ((l.drop o).take n)with
   |some c=>k (.int .i64 (min (dt m) n:Nat)) (mx S b (.cells 1 Zb (l.take o++c++l.drop (o+n))))
   |none=>Y)
  |_,_=>Y
 match d with
 | .full b=>(match lenOf S d with
  |some n=>h b 0 n
  |none=>Y)
 | .part b o n=>h b o n
 |_=>Y
def JM :List Value->Option Sh
 |[.int k 0]=>O (.int k)
 |[.bool Zb]=>O .bool
 | .int k 0::r=>ek (JM r) λs=>O (.pair (.int k) s)
 | .bool Zb::r=>ek (JM r) λs=>O (.pair .bool s)
 |_=>Y
def uM :(s:Sh)->El s
 | .int _=>(0:Int)
 | .bool=>Zb
 | .str=>[]
 | .list _=>[]
 | .pair a b=>(uM a,uM b)
def af5 (S:ai)(es bytes:Nat)(z:List Value)(l c:VV)(k:VV->ai->Option β):Option β:=match l,c,JM z with
 | .int _ l, .int _ c,O s=>gd (aB es s.w&&Zc (0<=l)&&Zc (l<=c)&&Zc (bytes*c<=140737488355328)&&aD 1 bytes) (k (.full (dt S)) (S++[.arr s Zb (bD l.toNat (uM s))]))
 |_,_,_=>Y
def Tn (es:Nat)(z:List Value)(l:Int):Option More:=match JM z with
 |some s=>cond (aB es s.w) (O (.lst s (bD l.toNat (uM s)))) Y
 |none=>Y
def my (bytes:Nat)(l:Int):Bool:=Zc (0<=l)&&(Zc (l<=9223372036854775807)&&Zc (l*(bytes:Int)<=281474976710656))
def Li (S:ai)(es bytes:Nat)(z:List Value)(x l:VV)(k:VV->ai->Option β):Option β:=match l with
 | .int _ l=>gd (my bytes l) (Kv S es bytes (Bn S es x) (Tn es z l) k)
 |_=>Y
end
end
end Go.V
