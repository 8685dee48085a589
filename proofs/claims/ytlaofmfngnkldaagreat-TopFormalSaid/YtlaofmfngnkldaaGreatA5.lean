/- A part of the proof. No condition. -/
import Derived.Test.YtlaofmfngnkldaaGreatA4
import Derived.IntWalk
import Derived.Below
import Derived.Laws.IdiomRangeMap
import Derived.Sort.OwnSorted
import Derived.Sort.KeysCollected
set_option linter.all false
namespace Go.Ab
open Option renaming some->O,none->Z
open Bool renaming true->Za,false->Zb
open Decidable renaming decide->Zc
open List renaming all_eq_true->aG
open List renaming length_eq_zero_iff->aK
open List renaming mem_append->aF
open List renaming mem_cons->aA
open List renaming mem_map->aE
open List renaming mem_singleton->aI
open List renaming nodup_cons->aJ
open List renaming length->b8
open Option renaming bind->bA
open Prod.mk renaming injEq->b7
variable {v:Value}{ks:List ByteArray}{w:World}{g:G}{e:bj}{L:List MapEntry}{N r:Nat}{ops:Array Oper}{k:ByteArray}{a:Act}{es:Array MapEntry}{os:Array Obj}
section
open List renaming getElem?_eq_getElem->aB
open Go.RowKit
structure YFn where
 ntmps:Nat
 params:List Nat
 assign:AC
 body:AC
def putAll (e:bj):List Nat->List Value->bj
 |d::h,v::s=>putAll (e.put d v) h s
 |_,_=>e
def wpY (T:gw)(s:YFn):HU:=λu σ K=> ∃(D:List Value) (b:Nat) (x:Blk) (h:List Value),u=D++[.pointer<|O ⟨b,0,Z⟩]/\σ.m b=O x/\x.own=Za/\x.cells=Ii Za::h/\s.ntmps<=b8 h/\b8 D=b8 s.params/\
 rD T s.assign (λJ U σ1=>J= .normal/\∃(A:Blk) (E:List Value),σ1.m b=O A/\A.own=Za/\A.cells=Ii Za::E/\
  rD T s.body (λM V H=>M= .normal/\∃(C:Blk) (F:List Value),H.m b=O C/\C.own=Za/\C.cells=Ii Zb::F/\K (.bool Za) (H.set b<|O ⟨Ii Za::F,Za,C.es⟩))
   U (σ1.set b<|O ⟨Ii Zb::E,Za,A.es⟩)) (putAll (bj.of<|h.take s.ntmps) s.params D) σ
def aU7 (P:Program)(f:FuncId):Option YFn:=match yE P f with
 |some (n,h,a,b)=>(match iL P f n a,iL P f n b,jf a++jf b with
  |some x,O y,[]=>if h.toList.all (λd=>Nat.blt d n)then O ⟨n,h.toList,x,y⟩else Z
  |_,_,_=>Z)
 |none=>Z
section
variable {P:Program} {T:gw} {B:Base P} {N:Nat} {μ:Mu} {σ:Hp} {w:World} {e:bj}
theorem dk.of {s:List Value}{tmps:Array Value}(h:F2 (VR μ) s tmps.toList)(D:tmps.size=N):dk μ N (bj.of s) tmps:=by
 refine⟨D,λt=> ?_⟩;have E:s.length=tmps.size:=by simpa using h.length
 unfold bj.of;by_cases A:t<s.length
 .obtain⟨F,u,C⟩:=h.get t s[t]<|aB A;rw[Array.getElem?_toList]at u;rw[aB A];simp only[Option.getD_some,Array.getD_eq_getD_getElem?,u];exact C
 rw[List.getElem?_eq_none (by omega)];simp only[Option.getD_none,Array.getD_eq_getD_getElem?];rw[Array.getElem?_eq_none (by omega)];exact VR.undef μ
def dk.putAll : ∀{s:List Nat} {xs A:List Value} {e:bj} {tmps:Array Value},dk μ N e tmps->(∀d∈s,d<N)->F2 (VR μ) xs A->dk μ N (putAll e s xs) ((s.zip A).foldl (λt p=>t.setIfInBounds p.1 p.2) tmps)
 |[],_,_,_,_,h,_,_=>by simpa[Ab.putAll]using h
 |d::s,_,_,_,_,h,u, .nil=>by simpa[Ab.putAll]using h
 |d::s,_,_,_,_,h,u, .cons a t=>by
  simp only[Ab.putAll,List.zip_cons_cons,List.foldl_cons];exact dk.putAll (h.put d (u d<|List.mem_cons_self ..) a) (λc C=>u c<|List.mem_cons_of_mem _ C) t
def ar1 (h:Array Nat)(s:Array Value)(tmps:Array Value):(h.zip s).foldl (λt (p,v)=>t.setIfInBounds p v) tmps=(h.toList.zip s.toList).foldl (λt p=>t.setIfInBounds p.1 p.2) tmps:=by
 rw[<-Array.foldl_toList,Array.toList_zip]
theorem bd6 {f:FuncId}{s:YFn}(h:aU7 P f=O s)(hM:pF T)(hT: ∀g,Fm P g<|T g):Fm P (QR f)<|wpY T s:=by
 unfold aU7 at h;split at h
 case h_2=>cases h
 rename_i n ps Y cb hs;split at h
 case h_2=>cases h
 rename_i ax ay h1 h2 h3;split at h
 case isFalse=>cases h
 rename_i h4;injection h with h
 subst h
 have hp: ∀d∈ps.toList,d<n:=λd hd=>by
  have:=aG.1 h4 d hd;exact Nat.blt_eq.mp this
 have sa: ∀{l:Nat},∀s∈jf Y,O l=Z/\yE P f=O (n,s):=λs F=>by
  have:s∈jf Y++jf cb:=List.mem_append_left _ F;rw[h3]at this;cases this
 have sb: ∀{l:Nat},∀s∈jf cb,O l=Z/\yE P f=O (n,s):=λs F=>by
  have:s∈jf Y++jf cb:=List.mem_append_right _ F;rw[h3]at this;cases this
 intro B μ σ w args u K hk hR;refine⟨λhy=>(by rw[ad5]at hy;cases hy),λ_ xs b g ea ef hg C ha=> ?_⟩;obtain⟨J,b',x,D,e1,hx,ho,hc,V,hxl,hw⟩:=hk
 have e2:J=xs/\b'=b:=by
  rw[e1]at ea;have:=List.append_inj' ea rfl;exact⟨this.1,by simpa using this.2⟩
 obtain⟨rfl,rfl⟩:=e2
 have ety:g.ty=f:=by
  unfold QR at ef;exact(Nat.add_left_cancel ef).symm
 obtain⟨o1,r,o2,H,o4,o5,o6⟩:=(hR.get hx hg).lp C;rw[ety,hs]at H;injection H with H
 injection H with H o7
 injection o7 with o7 o8
 injection o8 with o8 o9
 subst o7 o8 o9;obtain⟨o10,o11⟩:=o6 Za D hc;have hn:n=g.ext:=H.trans o5;have hv:=o11 (by rw[<-hn];exact V);rw[<-hn]at hv;have M:dk μ n (bj.of<|D.take n) r.tmps:=dk.of hv H.symm
 have hsz:u.size=r.params.size:=by
  have k1:J.length=u.size:=by simpa using ha.length
  have k2:J.length=r.params.size:=by simpa using hxl
  omega
 refine⟨r.fn,_,r.assign,r.body,run_yield o2 hsz, ?_⟩;have A:=M.putAll hp ha;rw[<-ar1]at A;refine roundIn_of_wpIn trivial ?_;refine wpIn_mono (Cf (ro:=O g.c) hM hT r.assign ax h1 _ _ σ μ ⟨_,[]⟩ w hw ⟨[],hR,rfl⟩ A trivial sa) λex a1 W hp1=> ?_
 obtain⟨ax1,e1',σ1,μ1,q1,⟨rfl,x1,v1,q2,q3,q4,q5⟩,q6,⟨ds1,q7,q7'⟩,q8,_,q9⟩:=hp1;cases ex with
 |normal=>
  have E:=q6 _ _ hg;obtain⟨_,r1,p2,p3,p4,p5,p6⟩:=(q7.get q2 E).lp C;have t1:=q7.turn (fl':=Zb) q2 q3 q4 E C p2;refine⟨_,run_beginRound p2 (p6 Za v1 q4).1, ?_⟩
  have ew:({r1 with state:=LoopState.busy}:Loop)={r1 with state:=if Zb=Za then LoopState.ready else LoopState.busy,pending:=Z}:=by
   rw[<-p4];simp
  rw[ew];refine wpIn_mono (Cf (ro:=O g.c) hM hT r.body ay h2 _ _ _ μ1 a1 _ q5 ⟨ds1,t1,q7'⟩ q8 trivial sb) λey a2 X hp2=> ?_
  obtain⟨ay1,e2',σ2,μ2,u1,⟨rfl,x2,v2,u2,u3,u4,u5⟩,u6,⟨ds2,u7,u7'⟩,u8,_,u9⟩:=hp2;cases ey with
  |normal=>
   have U:=u6 _ _ E;obtain⟨_,r2,s2,s3,s4,s5,s6⟩:=(u7.get u2 U).lp C;have t2:=u7.turn (fl':=Za) u2 u3 u4 U C s2;refine⟨_,_,run_endRound Z s2,_,_,_,μ2,rfl,u5,Mu.le_trans q6 u6, ?_, .bool Za, ?_,rfl⟩
   .exact t2.less
   have b1:Below B W<|W.putObj g.c<|.loop {r1 with state:=if Zb=Za then LoopState.ready else LoopState.busy,pending:=Z}:=
    (Below.refl _ W).grown (grownBy_putObj' W _ _) (by have:=q7.base;exact this) (λk e=>by cases e;exact o1)
   have b2:Below B X<|X.putObj g.c<|.loop {r2 with state:=if(Z:Option Code).isNone=Za then LoopState.ready else LoopState.done,pending:=Z}:=
    (Below.refl _ X).grown (grownBy_putObj' X _ _) (by have:=u7.base;exact this) (λk e=>by cases e;exact o1)
   exact((q9.trans b1).trans u9).trans b2
  |_=>exact u1.elim
 |_=>exact q1.elim
end
end
section
open Go.RowKit
section
variable {P:Program} {f:FuncId} {S S':HU}
end
def Hp.Ok (σ:Hp):Prop:= ∀b x,σ.m b=O x->b<σ.n
section
variable {P:Program} {f:FuncId} {S S':HU} {σ σ1:Hp} {K:Value->Hp->Prop}
end
section
variable {T:gw}
end
end
section
section
variable {T:gw} {Q:AExit->bj->Hp->Prop} {q:bj->Hp->Prop} {e:bj} {σ σ':Hp} {a b:AC} {k:Value->Hp->Prop} {v:Value} {K:Value->Hp->Prop}
end
end
section
def aI0 (s:HU):Prop:= ∀h σ (K K':Value->Hp->Prop),(∀r σ',K r σ'->K' r σ')->s h σ K->s h σ K'
section
variable {T:gw} {Q:AExit->bj->Hp->Prop} {e:bj} {σ:Hp} {b:AC} {I:bj->Hp->Prop} {m:bj->Hp->Nat} {e0:bj} {σ0:Hp}
end
section
variable {k:IntKind} {a b:Int}
end
section
variable {a b c d:Value} {l:List Value}
end
section
variable {σ:Hp} {x y:Blk} {i b o:Nat} {z:Option Blk}
end
section
variable {e:bj} {σ:Hp} {rs:List ARes} {t n b o:Nat}
end
section
variable {T:gw} {e:bj} {σ:Hp} {k:Value->Hp->Prop} {q:bj->Hp->Prop}
end
section
variable {T:gw} {q:bj->Hp->Prop} {r:List SItem} {e:bj} {σ:Hp} {i:Nat} {d:Option Nat} {kp:Bool} {is:List Nat} {chk:List<|Nat×(Hp->Prop)}
end
end
section
section
variable {T:gw} {e:bj} {σ:Hp} {k:Value->Hp->Prop}
end
section
variable {σ:Hp} {x:Blk} {i b:Nat} {z:Option Blk}
end
end
section
open IntKind renaming bits->aB,max->aD,min->bB,signed->bD
open List renaming getElem?_eq_none->cB
open Go.RowKit (Below)
structure Row where
 c:Nat
 o:Nat
 ext:Nat
 es:Nat
 cells:List Value
def W3 (P:Program)(w:World):Prop:=(P.globalNamed "internal/strconv.uint64pow10" ≠Z->Lib.TabIs P w "internal/strconv.uint64pow10" .u64 Lib.pow10Tab)/\P.funcs.size<=2000000
def Base.of {P:Program}(w:World)(u:W3 P w):Base P:=⟨w.heap.size,λb=>w.heap[b]?,[],[],u.2,λw' _ C s=>by
 have h:=u.1 s;unfold Lib.TabIs World.var? at h⊢;cases A:P.globalNamed "internal/strconv.uint64pow10" with
 |none=>exact(s A).elim
 |some g=>
  grind⟩
def nY (rows:List Row):Mu:=λi=>(rows[i]?).map λr=>⟨r.c,r.o,r.ext,r.es,0,Z⟩
def qE (h:Nat)(rows:List Row):Hp:={m:=λi=>bA (rows[i]?) λr=>if r.c<h then O ⟨r.cells,Zb,r.es⟩else Z,n:=(b8 rows)}
theorem aS8 {P:Program}(F:W3 P w){rows:List Row}(h: ∀r∈rows,∀(i:Nat) (v:Value),r.cells[i]?=O v->∃v',w.cell? ⟨r.c,r.o+i,Z⟩=O v'/\VR (nY rows) v v'):
  R (Base.of w F) (nY rows) (qE w.heap.size rows) w:=by
 refine⟨Nat.le_refl _,λ_ _=>rfl,λb H=> ?_,λb x s=> ?_,λb V x X g W s _ _ E=> ?_,λb x g _ A J _ _=>(by
  simp only[nY]at A;cases C:rows[b]? with
  |none=>rw[C]at A;cases A
  |some r=>rw[C]at A;cases A;cases J),⟨⟨List.nodup_nil,λk D=>ZR⟩,λk D=>ZR⟩,λp M=>(by cases M)⟩
 .simp only[nY,cB H,Option.map_none]
 .simp only[qE]at s;cases C:rows[b]? with
  |none=>rw[C]at s;cases s
  |some r=>
   rw[C,zG]at s;split at s
   .rename_i hlt;cases s;refine⟨⟨r.c,r.o,r.ext,r.es,0,Z⟩,by simp only[nY,C,Option.map_some],hlt,rfl,λ_ i v U=>h r (List.mem_of_getElem? C) i v U,λ_ E=>(by cases E),λ_ u=>Z7,λu=>Z7,λ_ u=>Z7,λ_ _ u=>Z7,λu=>by cases u⟩
   .cases s
 .simp only[qE]at s
  grind
def aE1 {s:Nat}{rows:List Row}:(qE s rows).Ok:=by
 intro b x u;rcases Nat.lt_or_ge b (b8 rows) with h|h
 .exact h
 simp only[qE,cB h,Option.bind_none]at u;cases u
def aP6 {P:Program}{f:FuncId}{S:HU}(E:Fm P f S)(A:W3 P w){rows:List Row}{args:List Value}{cargs:Array Value}
  (u: ∀r∈rows,∀(i:Nat) (v:Value),r.cells[i]?=O v->∃v',w.cell? ⟨r.c,r.o+i,Z⟩=O v'/\VR (nY rows) v v')
  (s:F2 (VR<|nY rows) args cargs.toList) (h:S args (qE w.heap.size rows) λr _=>r= .bool Za) (H:Cl f=Zb:=by rfl):
  Calls P f cargs w λe w'=>e= .returned (.bool Za)/\Below w.heap.size w w':=by
 refine((E _ _ _ w args cargs _ h<|aS8 A u).1 H s).2.mono λx w' F=> ?_
 obtain⟨r,σ',J,M,rfl,rfl,_,_,D,C,_⟩:=F;cases D;exact⟨rfl,C⟩
section
variable {k:IntKind} {w:World} {a:Option Addr} {len cap:Nat} {zs:Zd} {rows:List Row} {j:Nat}
theorem au4 {x:Addr}(h:w.cell? x=O v):x.block<w.heap.size:=by
 unfold World.cell? at h
 grind
def Yk {x:Addr}(h:w.cell? (x.add 0)=O v):x.spot=Z:=by
 have:=World.cell?_spot h;simpa[Addr.add]using this
theorem Ld {x:Addr}{i:Nat}(u:x.spot=Z)(h:w.cell? (x.add i)=O v):w.cell? ⟨x.block,x.off+i,Z⟩=O v:=by
 have⟨b,o,s⟩:=x;simp only at u;subst u
 have:(⟨b,o,Z⟩:Addr).add i=⟨b,o+i,Z⟩:=by
  simp only[Addr.add]
  grind
 rwa [this]at h
end
def aU5 {n:Int}(h:(Lit.int .i64 n).wf=Za): -9223372036854775808<=n/\n<=9223372036854775807:=by
 simpa[Lit.wf,bB,aD,bD,aB]using h
def aU6 {n:Int}(h:(Lit.int .u64 n).wf=Za):0<=n/\n<=18446744073709551615:=by
 simpa[Lit.wf,bB,aD,bD,aB]using h
def bd4 {n:Int}(h:(Lit.int .u8 n).wf=Za):0<=n/\n<=255:=by
 simpa[Lit.wf,bB,aD,bD,aB]using h
end
section
open Go.RowKit
section
variable {P:Program} {B:Base P} {μ:Mu} {σ:Hp} {w w':World}
def Lives.base {B':Base P}(s:B'.n=B.n){x:Blk}(h:Lives B μ w x g):Lives B' μ w x g:=
 ⟨h.lt,h.es,h.cell,by rw[s];exact h.own,by rw[s];exact h.iter,by rw[s];exact h.bld,by rw[s];exact h.mp,by rw[s];exact h.mg,by rw[s];exact h.lp⟩
end
end
section
open Bool renaming false_eq_true->aD
open Result renaming andThen->bB
open Sem renaming run->aB,run_bind->bD
open Go.RowKit
section
variable {P:Program}
def Nt {o:Obj}(s:Obj)(u:RY o=Za)(h:w.heap[r]?=O o):(setObj r s).run P w= .ok () (tI w r s):=by
 simp only[setObj,aB,h];cases o<;>first|(cases u;done)|rfl
theorem S9 (w:World)(ty:TypeId)(r bm h c0:Nat)(iJ:Array Nat)(es:Array MapEntry)(s:Nat)(Y:w.heap[r]?=O (.mapIter (O bm) h iJ c0))(hb:w.heap[bm]?=O (.map es s))(C: ∀x∈es.toList,x.born<h)(V:h<=c0):
  ((leftOf es iJ).size=0/\(Instr.next (.pointer<|O ⟨r,0,Z⟩) Zb ty).run P w= .ok (.tuple #[.bool Zb]) w)∨
  ∃e∈(leftOf es iJ).toList,∃A:World,A.heap=w.heap/\Below w.heap.size w A/\(Instr.next (.pointer<|O ⟨r,0,Z⟩) Zb ty).run P w= .ok (.tuple #[.bool Za,e.key,e.val]) (tI A r<|.mapIter (O bm) h (iJ.push e.born) s):=by
 simp only[Instr.next,getObj,bD,aB,Y,hb,bB,next_test_false iJ es h c0 C V,aD,if_false];unfold leftOf;have u: ∀x∈(Array.filter (λe=> !iJ.contains e.born) es).toList,x.born<h:=λx D=>C x (by simp at D⊢;exact D.1)
 generalize Array.filter (λe=> !iJ.contains e.born) es=L at u⊢;have e1:L.filter (λx=>Zc<|x.born<h)=L:=Array.filter_eq_self.2 (λx D=>by simpa using u x (by simpa using D))
 have e2:L.filter (λx=>Zc<|x.born≥h)= #[]:=by
  rw[Array.filter_eq_empty_iff];intro x D;have:=u x (by simpa using D);simp;omega
 simp only[e1,e2,Array.append_empty];by_cases W:L.size=0
 .left;have:L= #[]:=Array.eq_empty_of_size_eq_zero W;subst this;refine⟨rfl, ?_⟩;simp[choose,aB,Question.forced]
 .right;have M:L.isEmpty=Zb:=by simp[Array.isEmpty,W]
  simp only[M,aD,if_false,Array.empty_append,Array.size_map]
  have J: ∃(j:Nat) (A:World),j<L.size/\A.heap=w.heap/\Below w.heap.size w A/\(choose<|Question.mapNext L.size).run P w= .ok j A:=by
   by_cases X:L.size<=1
   .exact⟨0,w,by omega,rfl,Below.refl _ _,by simp[choose,aB,Question.forced,X]⟩
   .exact⟨_,w.drew,Nat.mod_lt _ (by omega),rfl,(Below.refl _ _).drew,by
     simp only[choose,aB,Question.forced,decide_eq_true_eq,X,if_false,Question.cut]
     rfl⟩
  obtain⟨j,A,hj,E,H,F⟩:=J;refine⟨L[j],by simp,A,E,H, ?_⟩;have U:A.heap[r]?=O (.mapIter (O bm) h iJ c0):=by rw[E];exact Y
  simp only[F,Array.getElem?_map,Array.getElem?_eq_getElem hj,Option.map_some,bD,Nt _ rfl U,bB];rfl
def Ql (w:World)(r bm s:Nat)(iJ:Array Nat)(es:Array MapEntry)(h:Nat)(e:MapEntry)(E:w.heap[r]?=O (.mapIter (O bm) s (iJ.push e.born) h))(u:w.heap[bm]?=O (.map es h))(A:e∈es.toList)(D:(es.toList.map (·.born)).Nodup):
  (Instr.entry<|.pointer<|O ⟨r,0,Z⟩).run P w= .ok (.tuple #[e.key,e.val]) w:=by
 have C:es.find? (·.born==e.born)=O e:=by rw[<-Array.find?_toList];exact find_born e es.toList D A
 simp only[Instr.entry,getObj,bD,aB,E,u,bB,Array.back?_push,bne_self_eq_false,aD,if_false,C];rfl
end
end
section
open Go.RowKit
section
variable {P:Program} {T:gw} {B:Base P} {N:Nat} {μ:Mu} {σ:Hp} {w w':World} {e:bj} {a:Act}
def J8 {ro:Option Nat}{Q:Exit->Act->World->Prop}{o:Oper}{rest:List Oper}(u:o.guard=Z)(s: ∀c,o.op≠ .defer c)(h:(execOp a.eval o).run P w= .ok (.value v) w')
  (A:wpListIn (Rd ro) 0 P ops Q rest (a.put o.dst v) w'):wpListIn (Rd ro) 0 P ops Q (o::rest) a w:=by
 unfold wpListIn
 have C:Region.wanted o (yielded ops a.tmps)=Za:=by
  unfold Region.wanted;simp[u]
 rw[zE C];refine⟨λ_ _=>trivial, ?_⟩;rw[Oper.semAt_eq _ _ _ s,h];exact A
def L9 (V: ∀f,Fm P f<|T f){ro:Option Nat}{ops:Array Oper}{Q:bj->Hp->Prop}{QQ:Exit->Act->World->Prop}{rest:List Oper}: ∀(l:List Oper) (E:List AOper) (e:bj) (σ:Hp) (μ:Mu) (a:Act) (w:World),me P N ops l=O E->kM T Q E e σ->
  R B μ σ w->dk μ N e a.tmps->(∀e' σ' μ' a' w',Q e' σ'->μ.le μ'->R B μ' σ' w'->dk μ' N e' a'.tmps->a'.defers=a.defers->Below B w w'->wpListIn (Rd ro) 0 P ops QQ rest a' w')->wpListIn (Rd ro) 0 P ops QQ (l++rest) a w
 |[],E,e,σ,μ,a,w,h,u,F,C,H=>by
  simp[me]at h;subst h;exact H e σ μ a w u μ.le_refl F C rfl (Below.refl _ _)
 |o::l,E,e,σ,μ,a,w,h,u,F,C,H=>by
  simp only[me]at h;split at h
  .rename_i x r s h2;cases h;unfold Gl at s;split at s
   .rename_i op g h3 h4;split at s
    .rename_i h5;cases s;have A:=IU (op:=op) h4 C;rw[List.cons_append];unfold wpListIn;simp only[kM]at u;rw[A];split
     .rename_i hb;rw[zE hb]at u;refine Hv V h3 u C F λv σ' v' μ' w' W hμ U hv D=> ?_
      exact L9 V l r _ σ' μ' (a.put o.dst v') w' h2 W U ((C.mono hμ).putO h5 hv) λM σ2 μ2 J w2 X Y q3 q4 q5 q6=>H M σ2 μ2 J w2 X (Mu.le_trans hμ Y) q3 q4 (q5.trans<|jq _ _) (D.trans q6)
     .rename_i hb;rw[zF hb]at u;exact⟨λ_ _=>trivial,L9 V l r _ σ μ (a.put o.dst undef) w h2 u F (C.putO h5<|VR.undef μ) λM σ2 μ2 J w2 X Y q3 q4 q5 q6=>H M σ2 μ2 J w2 X Y q3 q4 (q5.trans<|jq _ _) q6⟩
    .cases s
   .cases s
  .cases h
def Rm (B:Base P)(n:Nat)(u:B.n<=n)(w:World)(h: ∀b,b<B.n->w.heap[b]?=B.h b):Base P:=
 ⟨n,λb=>w.heap[b]?,[],[],B.small,λw' A C D=>B.tab w' (Nat.le_trans u A) (λb s=>(C b<|Nat.lt_of_lt_of_le s u).trans<|h b s) D⟩
end
end
section
open Go.RowKit
def bb4 :Value->Bool
 | .bool _| .int _ _| .string _=>Za
 |_=>Zb
def F8 :Value->Bool
 | .bool _| .int _ _| .string _| .pointer _| .slice _ _ _=>Za
 | .tuple h=>h.toList.all bb4
 |_=>Zb
def aY0 (u:Value):Prop:= ∃v,∀μ:Mu,VR μ v u
def Oz {μ:Mu}: ∀{l m:List Value},F2 (VR μ) l m->l.all bb4=Za->l=m/\∀v∈m,∀μ':Mu,VR μ' v v
 |_,_, .nil,_=>⟨rfl,λv hv=>by cases hv⟩
 |_,_, .cons h t,C=>by
  rw[List.all_cons,Bool.and_eq_true]at C;have⟨u,A⟩:=Oz t C.2;have D:=C.1;cases h with
  |bool b=>exact⟨by rw[u],λv hv μ'=>by rcases aA.1 hv with rfl|hv;exact .bool b;exact A v hv μ'⟩
  |int k n=>exact⟨by rw[u],λv hv μ'=>by rcases aA.1 hv with rfl|hv;exact .int k n;exact A v hv μ'⟩
  |string s=>exact⟨by rw[u],λv hv μ'=>by rcases aA.1 hv with rfl|hv;exact .string s;exact A v hv μ'⟩
  |_=>cases D
def VN {μ:Mu}{u:Value}(h:VR μ v u)(A:F8 v=Za):aY0 u:=by
 cases h with
 |bool b=>exact⟨.bool b,λ_=> .bool b⟩
 |int k n=>exact⟨.int k n,λ_=> .int k n⟩
 |string s=>exact⟨.string s,λ_=> .string s⟩
 |nilp=>exact⟨.pointer Z,λ_=> .nilp⟩
 |ptr _=>exact⟨R3,λ_=> .junk rfl⟩
 |nils=>exact⟨.slice Z 0 0,λ_=> .nils⟩
 |slice _ _ _ _=>exact⟨R3,λ_=> .junk rfl⟩
 |slice0 _ _=>exact⟨R3,λ_=> .junk rfl⟩
 |sliceX _ _=>exact⟨R3,λ_=> .junk rfl⟩
 |sliceX0 _ _=>exact⟨R3,λ_=> .junk rfl⟩
 | @tuple a C h=>
  have⟨_,D⟩:=Oz h A;exact⟨.tuple C,λF=> .tuple<|F2.same _ λv E=>D v E F⟩
 |_=>cases A
section
variable {P:Program} {B:Base P} {N:Nat} {μ:Mu} {σ:Hp} {w w':World} {e:bj} {a:Act}
def R.rebase {n r:Nat}{hn hn' h h'}(D:R (Rm B n hn w h) μ σ w)(Y:r<n)(s: ∀b x g,σ.m b=O x->μ b=O g->x.own=Za/\g.it=Z)(C:w'.heap.size=w.heap.size)(A: ∀k,k≠r->w'.heap[k]?=w.heap[k]?):R (Rm B n hn' w' h') μ σ w':=by
 refine⟨by rw[C];exact D.base,λb X=>rfl,D.fresh,λb x E=> ?_,D.inj, ?_,⟨⟨.nil,λk F=>(by cases F)⟩,λk F=>(by cases F)⟩,λp V=>(by cases V)⟩
 .obtain⟨g,H,J⟩:=D.live b x E;have⟨W,M⟩:=s b x g E H;refine⟨g,H, ?_⟩
  have U:g.c≠r:=λe=>by
   have:=(J.own M W).1;have:n<=g.c:=this;omega
  exact(J.kept (w':=w') (by rw[C];exact Nat.le_refl _) (A _ U) λu=>(by rw[M]at u;cases u)).base (by rfl)
 intro b x g E hg u;rw[(s b x g E hg).2]at u;cases u
end
def aR9 :List AOper:=[⟨O 15, .extract (.tmp 14) 0,Z⟩,⟨O 16, .extract (.tmp 14) 1,Z⟩,⟨O 5, .move<|.tmp 15,Z⟩,⟨O 6, .move<|.tmp 16,Z⟩]
def aS0 :List AOper:=[⟨O 17, .move<|.tmp 6,Z⟩,⟨O 18, .bin .neq (.tmp 17)<|.const<|.int .u64 0,Z⟩]
def aS1 :List AOper:=[⟨O 19, .move<|.tmp 4,Z⟩,⟨O 20, .move<|.tmp 5,Z⟩,⟨O 21, .buildSlice 1 1 [.string ByteArray.empty] [(0,1, .tmp 20)],Z⟩,⟨O 22, .append 1 16 (.tmp 19)<|.tmp 21,Z⟩,⟨O 4, .move<|.tmp 22,Z⟩]
def KS (σ:Hp)(v:Value)(ks:List ByteArray):Prop:=
 (ks=[]/\v= .slice Z 0 0/\∀b,σ.m b=Z)∨
 ∃b,ks≠[]/\v= .slice (O ⟨b,0,Z⟩) (b8 ks) (b8 ks)/\∀h,σ.m h=if h=b then O ⟨ks.map .string,Za,1⟩else Z
section
variable {T:gw} {e:bj} {σ:Hp}
def bn7 {k:Value}(h:e 14= .tuple #[k,v]):kM T (λe' σ'=>σ'=σ/\e'=(((e.put 15 k).put 16 v).put 5 k).put 6 v) aR9 e σ:=by
 simp[aR9,kM,wanted,bp,AOp.run,bj.ev,bj.putO,bj.put,h]
def bn8 {n:Int}(h:e 6= .int .u64 n):kM T (λe' σ'=>σ'=σ/\e'=(e.put 17<|.int .u64 n).put 18 (.bool<|n !=0)) aS0 e σ:=by
 simp[aS0,kM,wanted,bp,AOp.run,bj.ev,bj.putO,bj.put,h,yf,ri,N7]
def aT0 (h:e 20= .string k):(AOp.buildSlice 1 1 [.string ByteArray.empty] [(0,1, .tmp 20)]).run e σ=O (.slice (O ⟨σ.n,0,Z⟩) 1 1,σ.add ⟨[.string k],Za,1⟩):=by
 simp[AOp.run,bj.ev,h,CY,fp,one,cellsOf,Value.cells]
def aE2 {σ0:Hp}(M:KS σ0 (e 19) ks)(H: ∀b x,σ0.m b=O x->b<σ0.n)(A:e 21= .slice (O ⟨σ0.n,0,Z⟩) 1 1)(W:(b8 ks+1)*16<=140737488355328):
  ∃v σ',(AOp.append 1 16 (.tmp 19)<|.tmp 21).run e (σ0.add ⟨[.string k],Za,1⟩)=O (v,σ')/\F8 v=Za/\KS (σ'.set σ0.n Z) v (ks++[k]):=by
 have J:(σ0.add ⟨[.string k],Za,1⟩).slice 1 (.slice (O ⟨σ0.n,0,Z⟩) 1 1) 1=O [.string k]:=by
  simp[Hp.slice,Hp.add,oB]
 rcases M with⟨rfl,E,C⟩|⟨b,_,E,C⟩
 .refine⟨.slice (O ⟨σ0.n+1,0,Z⟩) 1 1,(σ0.add ⟨[.string k],Za,1⟩).add ⟨[.string k],Za,1⟩, ?_, ?_, .inr ⟨σ0.n+1,V2,rfl,λh=> ?_⟩⟩
  rotate_left 2
  .show(((σ0.add ⟨[.string k],Za,1⟩).add ⟨[.string k],Za,1⟩).set σ0.n Z).m h=_;simp only[Hp.set,Hp.add,C];by_cases s:h=σ0.n
   .subst s;rw[zE rfl,Zh]
   .rw[zF s];by_cases u:h=σ0.n+1
    .subst u;rw[zE rfl,zE rfl];rfl
    .rw[zF u,zF s,zF u]
  .simp only[AOp.run,bj.ev,E,A,Cn,J];unfold mP;rw[Zh,zE ⟨V1,V1,rfl⟩];rfl
  .rfl
 .have V:b<σ0.n:=H b ⟨ks.map .string,Za,1⟩ (by rw[C,zE rfl]);refine⟨.slice (O ⟨σ0.n+1,0,Z⟩) (b8 ks+1)<|b8 ks+1,((σ0.add ⟨[.string k],Za,1⟩).set b Z).add ⟨ks.map .string++[.string k],Za,1⟩, ?_, ?_, .inr ⟨σ0.n+1,V2,V2,λh=> ?_⟩⟩
  rotate_left 2
  .show((((σ0.add ⟨[.string k],Za,1⟩).set b Z).add ⟨ks.map .string++[.string k],Za,1⟩).set σ0.n Z).m h=_;simp only[Hp.set,Hp.add,C];by_cases s:h=σ0.n
   .subst s;rw[zE rfl,Zh]
   .rw[zF s];by_cases u:h=σ0.n+1
    .subst u;rw[zE rfl,zE rfl,List.map_append];rfl
    .rw[zF u,zF u];by_cases D:h=b
     .rw[zE D]
     .rw[zF D,zF s,zF D]
  .simp only[AOp.run,bj.ev,E,A,Cn,J];unfold mP;rw[Zh,zE ⟨V1,V1,rfl⟩]
   have F:(σ0.add ⟨[.string k],Za,1⟩).m b=O ⟨ks.map .string,Za,1⟩:=by
    simp only[Hp.add];rw[Zh,C,zE rfl]
   have U:oB ⟨ks.map .string,Za,1⟩ 0 (b8 ks*1)=O (ks.map .string):=by
    simp only[oB,List.length_map,Nat.zero_add,Nat.mul_one,Nat.le_refl,if_true,List.drop_zero];rw[List.take_of_length_le V2]
   simp only[F,U,and_self,if_true];simp;rfl
  .rfl
def bn9 (h:e 5= .string k)(C:KS σ (e 4) ks)(u: ∀b x,σ.m b=O x->b<σ.n)(M:(b8 ks+1)*16<=140737488355328):
  kM T (λe' σ'=>KS (σ'.set σ.n Z) (e' 4) (ks++[k])/\F8 (e' 19)=Za/\F8 (e' 20)=Za/\F8 (e' 21)=Za/\F8 (e' 22)=Za/\∀t,t∉[4,19,20,21,22]->e' t=e t) aS1 e σ:=by
 have s:F8 (e 4)=Za:=by
  rcases C with⟨_,A,_⟩|⟨b,_,A,_⟩<;>rw[A]<;>rfl
 have⟨v,σ',F,H,J⟩:=aE2 (k:=k) (σ0:=σ) (e:=((e.put 19<|e 4).put 20<|e 5).put 21<|.slice (O ⟨σ.n,0,Z⟩) 1 1) (ks:=ks) C u rfl M;have E:=aT0 (σ:=σ) (e:=(e.put 19<|e 4).put 20<|e 5) h;simp only[aS1,kM,wanted,if_true,bp,bj.putO];rw[show(AOp.move<|.tmp 4).run e σ=O (e 4,σ)from rfl];simp only;rw[show(AOp.move<|.tmp 5).run (e.put 19<|e 4) σ=O (e 5,σ)from rfl];simp only;rw[E];simp only;rw[F];simp only;rw[show∀e' σ',(AOp.move<|.tmp 22).run e' σ'=O (e' 22,σ')from λ_ _=>rfl];refine⟨J,s,by show F8 (e 5)=Za;rw[h];rfl,rfl,H,λt D=> ?_⟩;simp only[List.mem_cons,List.not_mem_nil,or_false,not_or]at D;have⟨U,V,W,X,Y⟩:=D;simp only[bj.put,zF U,zF V,zF W,zF X,zF Y]
end
end
section
open Go.RowKit
def Oc :List Nat:=[5,6,12,13,14,15,16,17,18,19,20,21,22]
def iV (L:List MapEntry):List ByteArray:=L.filterMap λe=>match e.key,e.val with
 | .string k, .int _ n=>if n !=0 then O k else Z
 |_,_=>Z
def P1 {α:Type}[BEq α][LawfulBEq α]: ∀(l m:List α),l.Nodup->(∀x∈l,x∈m)->b8 l<=b8 m
 |[],m,_,_=>Nat.zero_le _
 |a::l,m,h,A=>by
  have s:=aJ.1 h;have u:=A a<|List.mem_cons_self ..;have:=P1 l (m.erase a) s.2 λx C=>(List.mem_erase_of_ne<|λe=>s.1 (by rw[<-e];exact C)).2 (A x<|List.mem_cons_of_mem _ C)
  rw[List.length_erase_of_mem u]at this;have D:0<b8 m:=List.length_pos_of_mem u;rw[List.length_cons];omega
def Wg (k F A C D E:Nat)(h s u:Oper)(H J M:List Oper):Code:=
 .seq (.region A #[h,s] Zb) (.seq (.cond (.tmp 13) .skip<|.exit k)<|.block F<|.seq (.region C (u::H).toArray Zb)<|.seq (.region D J.toArray Zb)<|.cond (.tmp 18) (.region E M.toArray Zb) .skip)
structure KLoop (P:Program)(N:Nat)(o12 o13 o14:Oper)(l4 l5 l6:List Oper):Prop where
 n:22<N
 op12:o12.op= .next (.tmp 11) Zb
 d12:o12.dst=O 12
 g12:o12.guard=Z
 t13:me P N #[o12,o13] [o13]=O [⟨O 13, .extract (.tmp 12) 0,Z⟩]
 op14:o14.op= .entry (.tmp 11)
 d14:o14.dst=O 14
 g14:o14.guard=Z
 t4:me P N (o14::l4).toArray l4=O aR9
 t5:me P N l5.toArray l5=O aS0
 t6:me P N l6.toArray l6=O aS1
section
variable {P:Program}
structure KAbs (B:Base P)(N:Nat)(μ:Mu)(σ:Hp)(e:bj)(r:Nat)(ks:List ByteArray)(a:Act)(w:World)(μ1:Mu)(σ1:Hp)(e1:bj):Prop where
 rel: ∃hn hold,R (Rm B (r+1) hn w hold) μ1 σ1 w
 env:dk μ1 N e1 a.tmps
 le:μ.le μ1
 it:μ1 σ.n=O ⟨r,0,0,1,0,Z⟩
 ks:KS σ1 (e1 4) ks
 e11:e1 11= .pointer (O ⟨σ.n,0,Z⟩)
 ok: ∀t∈Oc,F8 (e1 t)=Za
 same: ∀t,t≠4->t≠11->t∉Oc->e1 t=e t
structure KInv (B:Base P)(N:Nat)(μ:Mu)(σ:Hp)(e:bj)(w0:World)(bm cl:Nat)(es:Array MapEntry)(d0:List Deferred)(L:List MapEntry)(a:Act)(w:World):Prop where
 it: ∃iJ,w.heap[w0.heap.size]?=O (.mapIter (O bm) cl iJ cl)/\iJ.toList=L.map (·.born)
 sub: ∀x∈L,x∈es.toList
 nd:(L.map (·.born)).Nodup
 below:Below w0.heap.size w0 w
 df:a.defers=d0
 abs: ∃μ1 σ1 e1,KAbs B N μ σ e w0.heap.size (iV L) a w μ1 σ1 e1
def KS.live {μ:Mu}{σ:Hp}{u:Value}(h:KS σ v ks)(E:VR μ v u): ∀b x g,σ.m b=O x->μ b=O g->x.own=Za/\g.it=Z:=by
 intro b x g A s;rcases h with⟨_,_,D⟩|⟨F,_,rfl,D⟩
 .rw[D]at A;cases A
 rw[D]at A;split at A
 .rename_i hb;subst hb;cases A;refine⟨rfl, ?_⟩;generalize b8 ks=n at E;cases E with
  |slice C _ _ _=>rw[C.1]at s;injection s with s;rw[<-s];exact C.2
  |slice0 A' C=>rw[C.1]at s;injection s with s;rw[<-s];exact C.2
 cases A
def R.snap {B:Base P}{μ:Mu}{σ:Hp}{w':World}{n:Nat}{hn hn' h h'}(s:R (Rm B n hn w h) μ σ w'):R (Rm B n hn' w' h') μ σ w':=
 ⟨s.base,λ_ _=>rfl,s.fresh,λb x E=>let⟨g,A,C⟩:=s.live b x E;⟨g,A,C.base (by rfl)⟩,s.inj,s.sep,⟨⟨.nil,λk u=>Z7⟩,λk u=>Z7⟩,λp D=>ZR⟩
def KAbs.step {B:Base P}{μ:Mu}{σ:Hp}{ks':List ByteArray}{a':Act}{w2 w':World}{X u:Mu}{σ1 F:Hp}{e1 s:bj}(A:KAbs B N μ σ e r ks a w X σ1 e1){hn hold}(H:R (Rm B (r+1) hn w2 hold) u F w')(Y:dk u N s a'.tmps)(M:X.le u)
  (D:KS F (s 4) ks') (C:s 11=e1 11) (E: ∀t∈Oc,F8 (s t)=Za) (h: ∀t,t≠4->t≠11->t∉Oc->s t=e1 t):KAbs B N μ σ e r ks' a' w' u F s:=
 ⟨⟨hn,λb J=>(H.old b<|Nat.lt_of_lt_of_le J hn).trans<|hold b J,H.snap⟩,Y,Mu.le_trans A.le M,M _ _ A.it,D,C.trans A.e11,E,λt U V W=>(h t U V W).trans<|A.same t U V W⟩
def KAbs.iter {B:Base P}{μ:Mu}{σ:Hp}{D:Mu}{σ1:Hp}{e1:bj}(A:KAbs B N μ σ e r ks a w D σ1 e1):a.eval (.tmp 11)= .pointer (O ⟨r,0,Z⟩):=by
 have h:=A.env.2 11;rw[A.e11]at h;have⟨g,u,C⟩:=h.ptr_inv;have s:=u.1;rw[A.it]at s;cases s;exact C
def EX {T:gw}{B:Base P}(A: ∀f,Fm P f<|T f){ro:Option Nat}{Q:bj->Hp->Prop}{QQ:Exit->Act->World->Prop}{l:List Oper}{s:List AOper}{σ:Hp}{μ:Mu}(h:me P N ops l=O s)(E:kM T Q s e σ)
  (u:R B μ σ w) (C:dk μ N e a.tmps) (D: ∀e' σ' μ' a' w',Q e' σ'->μ.le μ'->R B μ' σ' w'->dk μ' N e' a'.tmps->a'.defers=a.defers->Below B w w'->QQ .normal a' w'):wpListIn (Rd ro) 0 P ops QQ l a w:=by
 have:=L9 A (ro:=ro) (QQ:=QQ) (rest:=[]) l s e σ μ a w h E u C D
 rwa [List.append_nil]at this
def tF {e':bj}{t:Nat}(C:t∈Oc)(A:F8 v=Za)(h: ∀t∈Oc,F8 (e t)=Za)(s:e'=e.put t v): ∀t∈Oc,F8 (e' t)=Za:=by
 intro q u;subst s;unfold bj.put;split
 .exact A
 exact h q u
def YN {iJ:Array Nat}(A:(es.toList.map (·.born)).Nodup)(M:iJ.toList=L.map (·.born))(h: ∀x∈L,x∈es.toList)(E:(leftOf es iJ).size=0): ∀x∈es.toList,x∈L:=by
 intro x C
 have F:iJ.contains x.born=Za:=by
  cases J:iJ.contains x.born with
  |true=>rfl
  |false=>
   have:x∈leftOf es iJ:=by
    unfold leftOf;rw[Array.mem_filter];exact⟨by simpa using C,by rw[J];rfl⟩
   have s:=Array.eq_empty_of_size_eq_zero E;rw[s]at this;simp at this
 have s:x.born∈iJ.toList:=by simpa using F
 rw[M]at s;have⟨y,D,H⟩:=aE.1 s;have u:=find_born y es.toList A<|h y D;have U:=find_born x es.toList A C;rw[H,U]at u;injection u with u
 rw[u];exact D
def ai8 {iJ:Array Nat}{x:MapEntry}(u:iJ.toList=L.map (·.born))(s:x∈(leftOf es iJ).toList):x∈es.toList/\x.born∉L.map (·.born):=by
 unfold leftOf at s;have s:x∈Array.filter (λe=> !iJ.contains e.born) es:=by simpa using s
 rw[Array.mem_filter]at s;refine⟨by simpa using s.1,λh=> ?_⟩;rw[<-u]at h;have:iJ.contains x.born=Za:=by simpa using h
 rw[this]at s;simp at s
def Y2 {es:List MapEntry}{x:MapEntry}(h: ∀y∈L,y∈es)(u:(L.map (·.born)).Nodup)(A:x∈es)(s:x.born∉L.map (·.born)):b8 L+1<=b8 es:=by
 have:=P1 (x.born::L.map (·.born)) (es.map (·.born)) (aJ.2 ⟨s,u⟩) λy hy=>by
  rcases aA.1 hy with rfl|hy
  .exact aE.2 ⟨x,A,rfl⟩
  obtain⟨z,C,rfl⟩:=aE.1 hy;exact aE.2 ⟨z,h z C,rfl⟩
 simpa using this
end
end
section
open List renaming length_append->bB,length_singleton->cB,map_append->cD,not_mem_nil->cV
open Nat renaming lt_succ_self->aB,le_succ->aD
open Result renaming andThen->bD
open Go.RowKit
section
variable {P:Program} {T:gw} {B:Base P} {N:Nat} {μ:Mu} {σ:Hp} {e:bj} {w0 w:World} {a:Act} {bm cl:Nat} {es:Array MapEntry} {L:List MapEntry} {d0:List Deferred}
def Oa {x:MapEntry}{kb:ByteArray}{n:Int}(s:x.key= .string kb)(u:x.val= .int .u64 n):iV (L++[x])=iV L++(if n !=0 then [kb]else []):=by
 unfold iV;rw[List.filterMap_append];simp only[List.filterMap_cons,List.filterMap_nil,s,u];by_cases h:(n !=0)=Za
 .rw[zE h,zE h]
 rw[zF h,zF h]
def N9 :b8 (iV L)<=b8 L:=List.length_filterMap_le _ _
def Ut (hT: ∀f,Fm P f<|T f){F o13 o14:Oper}{l4 l5 l6:List Oper}(K:KLoop P N F o13 o14 l4 l5 l6)(hmap:w0.heap[bm]?=O (.map es cl))(hst:ve es.toList cl)(hes: ∀x∈es.toList,∃kb n,x.key= .string kb/\x.val= .int .u64 n)(hsz:es.size*16<=140737488355328)(hB0:B.n<=w0.heap.size)
  (hI:KInv B N μ σ e w0 bm cl es d0 L a w) {Q:Exit->Act->World->Prop} {k k1 i3 i4 i5 i6:Nat}
  (hend: ∀a' w',KInv B N μ σ e w0 bm cl es d0 L a' w'->(∀x∈es.toList,x∈L)->Q (.exit k) a' w')
  (hgo: ∀x a' w',KInv B N μ σ e w0 bm cl es d0 (L++[x]) a' w'->b8 (L++[x])<=es.size->Q .normal a' w'):
  (Wg k k1 i3 i4 i5 i6 F o13 o14 l4 l5 l6).wpIn (Rd Z) 0 P Q a w:=by
 have⟨⟨iJ,hit,E⟩,Y,hnd,hbel,hdf,μ1,σ1,e1,A⟩:=hI;have hlt:bm<w0.heap.size:=(Array.getElem?_eq_some_iff.1 hmap).1;have hm:w.heap[bm]?=O (.map es cl):=(hbel.block bm hlt).trans hmap;have hev:=A.iter;have hN:=K.n;have⟨hn,hold,hR⟩:=A.rel;have hrl:w0.heap.size<w.heap.size:=(Array.getElem?_eq_some_iff.1 hit).1;unfold Wg;refine wpIn_seq<|wpIn_region_list ?_;show wpListIn (Rd Z) 0 P #[F,o13] _ [F,o13] a w;have hd12: ∀c,F.op≠ .defer c:=λc h=>by rw[K.op12]at h;cases h
 rcases S9 (P:=P) w F.type w0.heap.size bm cl cl iJ es cl hit hm hst.2 (Nat.le_refl _)with⟨hno,H⟩|⟨x,hx,w1,U,hb1,H⟩
 .refine J8 K.g12 hd12 (v:= .tuple #[.bool Zb]) (w':=w) (by simp[execOp,K.op12,hev,H,bD]) ?_
  have he1:dk μ1 N (e1.put 12<|.tuple #[.bool Zb]) (a.put F.dst<|.tuple #[.bool Zb]).tmps:=by
   rw[K.d12];exact A.env.put 12 V1 (.tuple<|.cons (.bool Zb) .nil)
  refine EX hT (Q:=λe' σ'=>σ'=σ1/\e'=(e1.put 12<|.tuple #[.bool Zb]).put 13 (.bool Zb)) K.t13 ZJ hR he1 ?_;rintro e' σ' μ' a' w' ⟨rfl,rfl⟩ hμ' hR' he' hd' hb';have hok: ∀t∈Oc,F8 (((e1.put 12<|.tuple #[.bool Zb]).put 13<|.bool Zb) t)=Za:=tF V5 rfl (tF (t:=12) V5 rfl A.ok rfl) rfl
  have A':=A.step hR' he' hμ' (ks':=iV L) A.ks rfl hok (λt _ _ C=>by
   have h12:t≠12:=λh=>C Z1
   have J:t≠13:=λh=>C Z1
   simp only[bj.put,zF h12,zF J])
  have J:a'.eval (.tmp 13)= .bool Zb:=by
   have:=he'.2 13;exact VR.bool_inv this
  refine wpIn_seq<|wpIn_cond_false J<|wpIn_exit ?_;have hr':w'.heap[w0.heap.size]?=w.heap[w0.heap.size]?:=hR'.old _<|aB _;exact hend a' w' ⟨⟨iJ,hr'.trans hit,E⟩,Y,hnd,hbel.trans<|hb'.mono<|aD _,hd'.trans<|(jq _ _).trans hdf,_,_,_,A'⟩ (YN hst.1 E Y hno)
 .obtain⟨hxe,hxb⟩:=ai8 E hx;have⟨kb,n,V,hval⟩:=hes x hxe;have hlen:=Y2 Y hnd hxe hxb;have hit1:w1.heap[w0.heap.size]?=O (.mapIter (O bm) cl iJ cl):=by rw[U];exact hit
  have hoth: ∀k,k≠w0.heap.size->(tI w1 w0.heap.size<|.mapIter (O bm) cl (iJ.push x.born) cl).heap[k]?=w.heap[k]?:=λk hk=>(nc w1 _ k _ hk).trans (by rw[U])
  have hsz2:(tI w1 w0.heap.size<|.mapIter (O bm) cl (iJ.push x.born) cl).heap.size=w.heap.size:=by rw[pS,U]
  have hit2:(tI w1 w0.heap.size<|.mapIter (O bm) cl (iJ.push x.born) cl).heap[w0.heap.size]?=O (.mapIter (O bm) cl (iJ.push x.born) cl):=F7 w1 _ _ _ hit1
  have hbel2:Below w0.heap.size w0<|tI w1 w0.heap.size<|.mapIter (O bm) cl (iJ.push x.born) cl:=by
   refine(hbel.trans<|hb1.mono<|Nat.le_of_lt hrl).trans ⟨rfl,rfl,rfl,by rw[pS];exact Nat.le_refl _,λq hq=>nc _ _ _ _ V1⟩
  generalize tI w1 w0.heap.size (.mapIter (O bm) cl (iJ.push x.born) cl)=w2 at hoth hsz2 hit2 hbel2 H;refine J8 K.g12 hd12 (v:= .tuple #[.bool Za,x.key,x.val]) (w':=w2) (by simp[execOp,K.op12,hev,H,bD]) ?_;have hold2: ∀b,b<B.n->w2.heap[b]?=B.h b:=λb hb=>(hoth b V1).trans (hold b hb)
  have hR2:R (Rm B (w0.heap.size+1) hn w2 hold2) μ1 σ1 w2:=hR.rebase (aB _) (A.ks.live<|A.env.2 4) hsz2 hoth
  have he1:dk μ1 N (e1.put 12<|.tuple #[.bool Za, .string kb, .int .u64 n]) (a.put F.dst<|.tuple #[.bool Za,x.key,x.val]).tmps:=by
   rw[K.d12,V,hval];exact A.env.put 12 V1 (.tuple<|.cons (.bool Za)<|.cons (.string kb)<|.cons (.int _ n) .nil)
  have hdf2:(a.put F.dst<|.tuple #[.bool Za,x.key,x.val]).defers=d0:=(jq _ _).trans hdf;refine EX hT (Q:=λe' σ'=>σ'=σ1/\e'=(e1.put 12<|.tuple #[.bool Za, .string kb, .int .u64 n]).put 13 (.bool Za)) K.t13 ZJ hR2 he1 ?_;rintro e3 σ3 μ3 a3 w3 ⟨rfl,rfl⟩ hμ3 hR3 he3 hd3 hb3;have hok3: ∀t∈Oc,F8 (((e1.put 12<|.tuple #[.bool Za, .string kb, .int .u64 n]).put 13<|.bool Za) t)=Za:=tF V5 rfl (tF (t:=12) V5 rfl A.ok rfl) rfl
  have s: ∀t,t∉Oc->((e1.put 12<|.tuple #[.bool Za, .string kb, .int .u64 n]).put 13<|.bool Za) t=e1 t:=λt C=>by
   have h12:t≠12:=λh=>C Z1
   have J:t≠13:=λh=>C Z1
   simp only[bj.put,zF h12,zF J]
  have J:a3.eval (.tmp 13)= .bool Za:=VR.bool_inv<|he3.2 13;refine wpIn_seq<|wpIn_cond_true J<|wpIn_skip ?_;generalize hq3:((e1.put 12<|.tuple #[.bool Za, .string kb, .int .u64 n]).put 13<|.bool Za)=e3 at he3 hok3 s;have hit3:w3.heap[w0.heap.size]?=O (.mapIter (O bm) cl (iJ.push x.born) cl):=(hR3.old _<|aB _).trans hit2;have hbel3:Below w0.heap.size w0 w3:=hbel2.trans<|hb3.mono<|aD _;have hm3:w3.heap[bm]?=O (.map es cl):=(hbel3.block bm hlt).trans hmap;have A3:KAbs B N μ σ e w0.heap.size (iV L) a3 w3 μ3 σ3 e3:=A.step hR3 he3 hμ3 (by rw[s 4 V5];exact A.ks) (s 11 V5) hok3 λt _ _ C=>s t C
  clear hR3 hq3 H hR2 he1 hok3 s hR hold hit hm hev A;have hev3:=A3.iter;have⟨_,hold3,hR3⟩:=A3.rel;have hdf3:a3.defers=d0:=hd3.trans hdf2;have hd14: ∀c,o14.op≠ .defer c:=λc h=>by rw[K.op14]at h;cases h
  have hrun4:=Ql (P:=P) w3 w0.heap.size bm cl iJ es cl x hit3 hm3 hxe hst.1;refine wpIn_block<|wpIn_seq<|wpIn_region_list ?_;show wpListIn (Rd Z) 0 P (o14::l4).toArray _ (o14::l4) a3 w3;refine J8 K.g14 hd14 (v:= .tuple #[x.key,x.val]) (w':=w3) (by simp[execOp,K.op14,hev3,hrun4,bD]) ?_
  have he4:dk μ3 N (e3.put 14<|.tuple #[.string kb, .int .u64 n]) (a3.put o14.dst<|.tuple #[x.key,x.val]).tmps:=by
   rw[K.d14,V,hval];exact A3.env.put 14 V1 (.tuple<|.cons (.string kb)<|.cons (.int _ n) .nil)
  refine EX hT K.t4 (bn7 (k:= .string kb) (v:= .int .u64 n) rfl) hR3 he4 ?_;rintro e5 σ5 μ5 a5 w5 ⟨rfl,hq5⟩ hμ5 hR5 he5 hd5 hb5
  have hok5: ∀t∈Oc,F8 (e5 t)=Za:=by
   rw[hq5];exact tF V5 rfl (tF (t:=5) V5 rfl (tF (t:=16) V5 rfl (tF (t:=15) V5 rfl (tF (t:=14) V5 rfl A3.ok rfl) rfl) rfl) rfl) rfl
  have u: ∀t,t∉Oc->e5 t=e3 t:=λt C=>by
   have h14:t≠14:=λh=>C Z1
   have h15:t≠15:=λh=>C Z1
   have h16:t≠16:=λh=>C Z1
   have h5:t≠5:=λh=>C Z1
   have h6:t≠6:=λh=>C Z1
   rw[hq5];simp only[bj.put,zF h14,zF h15,zF h16,zF h5,zF h6]
  have h5:e5 5= .string kb:=by rw[hq5];rfl
  have h6:e5 6= .int .u64 n:=by rw[hq5];rfl
  clear hq5;have A5:KAbs B N μ σ e w0.heap.size (iV L) a5 w5 μ5 σ5 e5:=A3.step hR5 he5 hμ5 (by rw[u 4 V5];exact A3.ks) (u 11 V5) hok5 λt _ _ C=>u t C
  have hdf5:a5.defers=d0:=(hd5.trans<|jq _ _).trans hdf3;have hit5:w5.heap[w0.heap.size]?=O (.mapIter (O bm) cl (iJ.push x.born) cl):=(hR5.old _<|aB _).trans hit3;have hbel5:Below w0.heap.size w0 w5:=hbel3.trans<|hb5.mono<|aD _;clear hR5 u hok5;have⟨_,hold5,hR5⟩:=A5.rel;refine wpIn_seq<|wpIn_region_list ?_;show wpListIn (Rd Z) 0 P l5.toArray _ l5 a5 w5;refine EX hT K.t5 (bn8 h6) hR5 he5 ?_;rintro e7 σ7 μ7 a7 w7 ⟨rfl,hq7⟩ hμ7 M he7 hd7 hb7
  have hok7: ∀t∈Oc,F8 (e7 t)=Za:=by
   rw[hq7];exact tF V5 rfl (tF (t:=17) V5 rfl A5.ok rfl) rfl
  have W: ∀t,t≠17->t≠18->e7 t=e5 t:=λt h17 h18=>by
   rw[hq7];simp only[bj.put,zF h17,zF h18]
  have h18:a7.eval (.tmp 18)= .bool (n !=0):=by
   have:=he7.2 18;rw[hq7]at this;exact VR.bool_inv this
  clear hq7;have hs7: ∀t,t∉Oc->e7 t=e5 t:=λt C=>W t (λh=>C Z1) (λh=>C Z1)
  have A7:KAbs B N μ σ e w0.heap.size (iV L) a7 w7 μ7 σ7 e7:=A5.step M he7 hμ7 (by rw[hs7 4 V5];exact A5.ks) (hs7 11 V5) hok7 λt _ _ C=>hs7 t C
  have hdf7:a7.defers=d0:=hd7.trans hdf5;have hit7:w7.heap[w0.heap.size]?=O (.mapIter (O bm) cl (iJ.push x.born) cl):=(M.old _<|aB _).trans hit5;have hbel7:Below w0.heap.size w0 w7:=hbel5.trans<|hb7.mono<|aD _;have h75:e7 5= .string kb:=(W 5 V5 V5).trans h5
  have hsub': ∀y∈L++[x],y∈es.toList:=λy hy=>by
   rcases aF.1 hy with hy|hy
   .exact Y y hy
   .rw[aI.1 hy];exact hxe
  have hnd':((L++[x]).map (·.born)).Nodup:=by
   rw[cD,List.nodup_append];refine⟨hnd,V2,λp hp q hq e=>hxb ?_⟩;rw[List.map_singleton,List.mem_singleton]at hq;rw[<-hq,<-e];exact hp
  have X:(iJ.push x.born).toList=(L++[x]).map (·.born):=by rw[Array.toList_push,E,cD];rfl
  have D:b8 (L++[x])<=es.size:=by
   rw[bB,<-Array.length_toList];exact hlen
  cases hn0:n !=0 with
  |false=>
   rw[hn0]at h18;refine wpIn_cond_false h18<|wpIn_skip ?_;refine hgo x a7 w7 ⟨⟨_,hit7,X⟩,hsub',hnd',hbel7,hdf7,μ7,σ7,e7, ?_⟩ D;rw[Oa V hval,hn0];simpa using A7
  |true=>
   rw[hn0]at h18;refine wpIn_cond_true h18 ?_;clear M;have⟨_,hold7,M⟩:=A7.rel;refine wpIn_region_list ?_;show wpListIn (Rd Z) 0 P l6.toArray _ l6 a7 w7;refine EX hT K.t6 (bn9 h75 A7.ks (λb y hy=> ?_) ?_) M he7 ?_
   .obtain⟨g,hg,_⟩:=M.live b y hy;rcases Nat.lt_or_ge b σ7.n with h1|h1
    .exact h1
    .rw[M.fresh b h1]at hg;cases hg
   .have:=N9 (L:=L);rw[bB]at D;simp only[cB]at D;omega
   .rintro e9 σ9 μ9 a9 w9 ⟨k1',k2,k3,k4,k5,k6⟩ hμ9 hR9 he9 hd9 hb9
    have hok9: ∀t∈Oc,F8 (e9 t)=Za:=λt ht=>by
     by_cases h:t∈[4,19,20,21,22]
     .simp only[List.mem_cons,cV,or_false]at h;rcases h with rfl|rfl|rfl|rfl|rfl
      .exact absurd ht V5
      .exact k2
      .exact k3
      .exact k4
      .exact k5
     .rw[k6 t h];exact hok7 t ht
    have hit9:w9.heap[w0.heap.size]?=O (.mapIter (O bm) cl (iJ.push x.born) cl):=(hR9.old _<|aB _).trans hit7
    have A9:KAbs B N μ σ e w0.heap.size (iV L++[kb]) a9 w9 μ9 (σ9.set σ7.n Z) e9:=A7.step (hR9.kill _) he9 hμ9 k1' (k6 11 V5) hok9 λt t1 _ C=>k6 t λh=>by
     simp only[List.mem_cons,cV,or_false]at h;rcases h with rfl|rfl|rfl|rfl|rfl
     .exact t1 rfl
     all_goals exact C V5
    refine hgo x a9 w9 ⟨⟨_,hit9,X⟩,hsub',hnd',hbel7.trans<|hb9.mono<|aD _,hd9.trans hdf7,μ9,σ9.set σ7.n Z,e9, ?_⟩ D;rw[Oa V hval,hn0];exact A9
def KInv.len (u:KInv B N μ σ e w0 bm cl es d0 L a w):(w.iterSeen w0.heap.size).size=b8 L:=by
 have⟨iJ,h,s⟩:=u.it;unfold World.iterSeen;rw[h];show iJ.size=_;rw[<-Array.length_toList,s,List.length_map]
def XM (hT: ∀f,Fm P f<|T f){D E F:Oper}{W X Y:List Oper}(K:KLoop P N D E F W X Y)(C:w0.heap[bm]?=O (.map es cl))(U:ve es.toList cl)(M: ∀x∈es.toList,∃kb n,x.key= .string kb/\x.val= .int .u64 n)(V:es.size*16<=140737488355328)(J:B.n<=w0.heap.size)
  (hI:KInv B N μ σ e w0 bm cl es d0 [] a w) {Q:Exit->Act->World->Prop} {k k1 i3 i4 i5 i6:Nat}
  (A: ∀L a' w',KInv B N μ σ e w0 bm cl es d0 L a' w'->(∀x∈es.toList,x∈L)->Q .normal a' w'):
  (Code.block k<|.loop<|Wg k k1 i3 i4 i5 i6 D E F W X Y).wpIn (Rd Z) 0 P Q a w:=by
 refine wpIn_block<|wpIn_loop (λa w=> ∃L,KInv B N μ σ e w0 bm cl es d0 L a w) (λ_ w=>es.size-(w.iterSeen w0.heap.size).size) ⟨[],hI⟩ ?_;rintro a1 w1 ⟨L,h⟩;refine Ut hT K C U M V J h (λa' w' H u=> ?_) λx a' w' H s=>⟨⟨_,H⟩, ?_⟩
 .show Exit.inBlock k Q (.exit k) a' w';simp only[Exit.inBlock,if_true];exact A L a' w' H u
 .rw[H.len,h.len,bB];rw[bB]at s;simp only[cB]at s⊢;omega
end
end
section
open Nat renaming le_refl->aB,lt_of_lt_of_le->aD
open Go.RowKit
section
variable {P:Program} {T:gw} {B:Base P} {N:Nat} {μ:Mu} {σ:Hp} {e:bj} {w0 w:World} {a:Act} {bm cl:Nat} {es:Array MapEntry} {L:List MapEntry} {d0:List Deferred}
def KInv.start (A:R B μ σ w0)(V:dk μ N e a.tmps)(U:a.defers=d0)(M:11<N)(J:e 4= .slice Z 0 0)(D: ∀t∈Oc,F8 (e t)=Za):
  KInv B N μ σ e w0 bm cl es d0 [] (a.put (O 11)<|.pointer<|O ⟨w0.heap.size,0,Z⟩) (w0.alloc<|.mapIter (O bm) cl #[] cl):=by
 have W:μ σ.n=Z:=A.fresh _<|aB _;have E:μ.le<|μ.add σ.n ⟨w0.heap.size,0,0,1,0,Z⟩:=Mu.le_add W;have F:(w0.alloc<|.mapIter (O bm) cl #[] cl).heap[w0.heap.size]?=O (.mapIter (O bm) cl #[] cl):=World.alloc_heap_new w0 _;have s:Below w0.heap.size w0<|w0.alloc<|.mapIter (O bm) cl #[] cl:=(Below.refl _ w0).alloc (aB _) _;refine⟨⟨#[],F,rfl⟩,λx u=>Z7, .nil,s,(jq _ _).trans U,μ.add σ.n ⟨w0.heap.size,0,0,1,0,Z⟩,⟨λ_=>Z,σ.n+1⟩,e.put 11<|.pointer<|O ⟨σ.n,0,Z⟩,⟨⟨Nat.le_succ_of_le A.base,λb C=>(s.block b<|aD C A.base).trans<|A.old b C, ?_⟩, ?_,E,Z0, .inl ⟨rfl, ?_,λ_=>rfl⟩,rfl,λt H=> ?_,λt t1 Y t3=> ?_⟩⟩
 .refine⟨by simp[Rm],λ_ _=>rfl,λb C=> ?_,λb x u=>Z7,λb b' x x' g g' u=>Z7,λb x g u=>Z7,⟨⟨.nil,λk D=>ZR⟩,λk D=>ZR⟩,λp X=>aS⟩;have C:σ.n+1<=b:=C;unfold Mu.add;rw[Zh];exact A.fresh b V1
 .refine(V.mono E).put 11 M ?_;have:=VR.ptr (μ:=μ.add σ.n ⟨w0.heap.size,0,0,1,0,Z⟩) (b:=σ.n) (o:=0) (g:=⟨w0.heap.size,0,0,1,0,Z⟩) ⟨Z0,rfl⟩;exact this
 .rw[show e.put 11 (.pointer<|O ⟨σ.n,0,Z⟩) 4=e 4 from rfl];exact J
 .have:t≠11:=λh=>by rw[h]at H;exact absurd H V5
  simp only[bj.put,zF this];exact D t H
 .simp only[bj.put,zF Y]
def R.under {w':World}(h:R B μ σ w)(s:Below w.heap.size w w'):R B μ σ w':=
 ⟨Nat.le_trans h.base s.size,λb A=>(s.block b<|aD A h.base).trans<|h.old b A,h.fresh,λb x u=>let⟨g,E,F⟩:=h.live b x u;⟨g,E,F.kept s.size (s.block _ F.lt)<|λJ k C=>s.block _ (h.buf u E J C).2.1⟩,h.inj,
  h.sep.of (λb x g u D=> .inl ⟨x,u,D⟩) (λb x g u D _ _=>by unfold jW;rw[s.block _ (h.get u D).lt]),⟨h.dfr.1,λk C=>(s.block k (Array.getElem?_eq_some_iff.1 (h.dfr.2 k C)).1).trans<|h.dfr.2 k C⟩,
  λp M=>let⟨U,V,H⟩:=h.mit p M;⟨U,V,(s.block _ (Array.getElem?_eq_some_iff.1 H).1).trans H⟩⟩
def R.addRow {w':World}{x:Blk}(Y:R B μ σ w)(C:Below w.heap.size w w')(hg:w.heap.size<=g.c)(hit:g.it=Z)(hL:Lives B (μ.add σ.n g) w' x g):R B (μ.add σ.n g) (σ.add x) w':=by
 have h:=Y.under C;have hf:μ σ.n=Z:=h.fresh _<|aB _;have M:μ.le<|μ.add σ.n g:=Mu.le_add hf
 have old: ∀b y,b≠σ.n->(σ.add x).m b=O y->σ.m b=O y:=by
  intro b y C A;simpa[Hp.add,C]using A
 have new: ∀y,(σ.add x).m σ.n=O y->y=x:=by
  intro y A;simp[Hp.add]at A;exact A.symm
 have W: ∀E,(μ.add σ.n g) σ.n=O E->E=g:=by
  intro E F;simp[Mu.add]at F;exact F.symm
 have u: ∀b y E,σ.m b=O y->μ b=O E->E.c<w.heap.size:=λb y E A F=>(Y.get A F).lt
 refine⟨h.base,h.old,λb C=> ?_,λb y A=> ?_,λb X y y' H g2 A hy' hne ho D V=> ?_, ?_,h.dfr,h.mit⟩
 .have:σ.n+1<=b:=C;unfold Mu.add;rw[Zh];exact h.fresh b V1
 .by_cases C:b=σ.n
  .subst C;obtain rfl:=new y A;exact⟨g,Z0,hL⟩
  have⟨E,U,J⟩:=h.live b y<|old b y C A;exact⟨E,M _ _ U,J.mono M⟩
 .by_cases C:b=σ.n
  .subst C;have s:X≠σ.n:=λe=>hne e.symm
   obtain rfl:=W _ D;have J:μ X=O g2:=by simpa[Mu.add,s]using V
   have:=u X y' g2 (old _ _ s hy') J;omega
  have U:μ b=O H:=by simpa[Mu.add,C]using D
  have hx1:=old b y C A;by_cases s:X=σ.n
  .subst s;obtain rfl:=W _ V;have:=u b y H hx1 U;omega
  have J:μ X=O g2:=by simpa[Mu.add,s]using V
  exact h.inj b X y y' H g2 hx1 (old _ _ s hy') hne ho U J
 refine h.sep.of (λb y H A D=> ?_)<|λb y H A D hi _=>rfl;by_cases s:b=σ.n
 .subst s;obtain rfl:=W _ D;refine .inr ⟨λY=>(by rw[hit]at Y;cases Y),λb1 x1 H q U J h3 h4 e=> ?_⟩
  have h5:jW w H.c=O q:=by
   rw[<-h4];unfold jW;rw[C.block _<|u b1 x1 H U J]
  have:=(Y.buf U J h3 h5).2.1;omega
 exact .inl ⟨y,old b y s A,by simpa[Mu.add,s]using D⟩
end
end
section
open Go.RowKit Go.Sort Go.Proofs
section
variable {P:Program} {B:Base P} {μ:Mu} {σ:Hp} {w:World}
def rz (ks:List ByteArray):List<|List UInt8:=ks.map λk=>k.data.toList
def zL (l:List<|List UInt8):List Value:=l.map encStr
theorem R8 {b:Nat}(M:R B μ σ w)(V:σ.m b=O ⟨ks.map .string,Za,1⟩)(U:μ b=O g)(u:g.it=Z):
  B.n<=g.c/\g.c<w.heap.size/\g.es=1/\ks.length<=g.ext/\(∃h e s,w.heap[g.c]?=O (.cells h e s)/\g.o+g.ext<=h.size/\(h.size<=s.1∨s.1=s.2))/\Holds encStr w g.c g.o (rz ks).toArray:=by
 have C:=M.get V U;obtain⟨H,D,h,e,s,E,J,F⟩:=C.own u rfl;have D:ks.length<=g.ext:=by simpa using D
 refine⟨H,C.lt,C.es,D,⟨h,e,s,E,J,F⟩,λj A=> ?_⟩;have A:j<ks.length:=by simpa[rz]using A
 refine⟨?_,F1 w g.c (g.o+j) h e s E (by omega) F⟩;obtain⟨Y,W,X⟩:=C.cell u j (.string ks[j]) (by simp[A]);rw[W,X.string_inv]
 congr 1
 simp[rz,A,encStr]
def PY {g n off:Nat}{h:Array Value}{e:TypeId}{s:Nat×Nat}(d:Array<|List UInt8)(u:w.heap[g]?=O (.cells h e s)):
  (grow (putRow encStr (Sort.ahead w n) g off d) os).heap[g]?=O (.cells (putCells encStr off d h) e s):=by
 have A:g<w.heap.size:=(Array.getElem?_eq_some_iff.1 u).1;rw[heap_grow_old _ _ (by simpa using A)];simp[putRow,mapBlock,Sort.ahead,Array.getElem?_modify,u,onCells]
def G6 {g n off k:Nat}(d:Array<|List UInt8)(s:k<w.heap.size)(h:k≠g):(grow (putRow encStr (Sort.ahead w n) g off d) os).heap[k]?=w.heap[k]?:=by
 rw[heap_grow_old _ _ (by simpa using s)];have:g≠k:=λe=>h e.symm
 simp[putRow,mapBlock,Sort.ahead,Array.getElem?_modify,this]
def U0 {b:Nat}{B0:Base P}{μ':Mu}{n0 n:Nat}{ts:List<|List UInt8}(hR:R B μ σ w)(hm:σ.m b=O ⟨ks.map .string,Za,1⟩)(hg:μ b=O g)(A:g.it=Z)(hlo:n0<=g.c)(hB0:B0.n<=n0)(J:b8 ts=b8 ks):
  Below n0 w (grow (putRow encStr (Sort.ahead w n) g.c g.o ts.toArray) os)/\Lives B0 μ' (grow (putRow encStr (Sort.ahead w n) g.c g.o ts.toArray) os) ⟨zL ts,Za,1⟩ g:=by
 have⟨h1,W,X,Y,⟨F,e,V,h5,h6,h7⟩,h8⟩:=R8 hR hm hg A;have D:w.heap.size<=(grow (putRow encStr (Sort.ahead w n) g.c g.o ts.toArray) os).heap.size:=by simp[grow]
 have C:=PY (w:=w) (g:=g.c) (n:=n) (off:=g.o) (os:=os) ts.toArray h5;refine⟨⟨rfl,rfl,rfl,D,λk hk=> ?_⟩, ?_⟩
 .by_cases H:k<w.heap.size
  .exact G6 _ H V1
  .omega
 .refine⟨Nat.lt_of_lt_of_le W D,X,λ_ i v E=> ?_,λ_ _=>⟨V1, ?_,_,e,V,C, ?_, ?_⟩,λs u=>ZK,λu=>ZK,λk u=>ZK,λks vn u=>ZK,λu=>ZK⟩
  .have U:i<b8 ts:=by
    rcases Nat.lt_or_ge i (b8 ts) with h|h
    .exact h
    .rw[show(⟨zL ts,Za,1⟩:Blk).cells=zL ts from rfl,List.getElem?_eq_none (by simpa[zL]using h)]at E;cases E
   have M:v=encStr ts[i]:=by
    simp[zL,U]at E;rw[<-E]
   refine⟨encStr ts[i], ?_,by rw[M];exact .string _⟩;simp only[World.cell?,C];have hc:g.o+i<F.size:=by omega
   simp only[Option.isSome_none,Bool.false_eq_true,if_false];simp only[putCells,Array.getElem?_mapIdx,Array.getElem?_eq_getElem hc,Option.map_some];rw[zE ⟨V1,by simp;omega⟩,show g.o+i-g.o=i by omega];simp[U]
  .simpa[zL,J]using Y
  .simpa[putCells]using h6
  .simpa[putCells]using h7
end
end
section
open List renaming map_map->aB,cons_lt_cons_iff->aD
open Go.RowKit Go.Sort Go.Proofs
def nzL (t:Zd):List<|Zd×Int:=(gZ t).filter λp=>p.2 !=0
def tH (t:Zd):Nat:=b8<|nzL t
def gu (t:Zd):List<|Zd:=((nzL t).map (·.1)).mergeSort λx y=>Zc<|x<=y
def QP (l:List UInt8):Zd:=l.map λb=>(b.toNat:Int)
def ap4 : ∀x y:List UInt8,QP x<QP y↔x<y
 |[],[]=>by simp[QP]
 |[],b::y=>by simp[QP]
 |a::x,[]=>by simp[QP]
 |a::x,b::y=>by
  have u:=ap4 x y;show(a.toNat:Int)::QP x<(b.toNat:Int)::QP y↔_;rw[aD,aD,u];have h:(a.toNat:Int)<(b.toNat:Int)↔a<b:=by rw[UInt8.lt_iff_toNat_lt];omega
  have s:(a.toNat:Int)=(b.toNat:Int)↔a=b:=by rw[<-UInt8.toNat_inj];omega
  rw[h,s]
def aU1 (x y:List UInt8):Zc (x<=y)=Zc (QP x<=QP y):=by
 have:x<=y↔QP x<=QP y:=by
  show¬(y<x)↔¬(QP y<QP x);rw[ap4]
 simp only[this]
def ao5 (l:List UInt8):Value.string (xo<|QP l)=encStr l:=by
 have h:au (xo<|QP l)=au ⟨l.toArray⟩:=by
  rw[zq]
  .rfl
  intro x hx;unfold QP at hx;obtain⟨b,_,rfl⟩:=aE.1 hx;have:=b.toNat_lt;omega
 rw[yh h]
def az0 {es:List MapEntry}{l:List<|ByteArray×Int}(h:es.map (λe=>(e.key,e.val))=l.map (λp=>(Value.string p.1,Value.int .u64 p.2))):iV es=(l.filter λp=>p.2 !=0).map (·.1):=by
 induction es generalizing l with
 |nil=>
  cases l with
  |nil=>rfl
  |cons p l=>cases h
 |cons e es s=>
  cases l with
  |nil=>cases h
  |cons p l=>
   simp only[List.map_cons,List.cons.injEq,b7]at h;have⟨⟨A,C⟩,D⟩:=h;unfold iV;rw[List.filterMap_cons,A,C];have s:=s D;unfold iV at s;simp only;rw[List.filter_cons];by_cases u:(p.2 !=0)=Za
   .rw[zE u,zE u];simp only[List.map_cons,s]
   rw[zF u,zF u];exact s
def Iz {α β:Type}(f:α->β): ∀{l:List α},(l.map f).Nodup->l.Nodup
 |[],_=> .nil
 |a::l,h=>by
  have s:=aJ.1 h;exact aJ.2 ⟨λu=>s.1<|aE.2 ⟨a,u,rfl⟩,Iz f s.2⟩
def R9 {cl:Nat}{s:ByteArray}(E:CN .u64 es cl s)(C:(L.map (·.born)).Nodup)(A: ∀x∈L,x∈es.toList)(h: ∀x∈es.toList,x∈L):
  zL ((rz<|iV L).mergeSort leB)=(gu<|au s).map (λt=>Value.string<|xo t)/\b8 (iV L)=tH (au s):=by
 have⟨l,F,H⟩:=E.all;have M:L.Perm es.toList:=(List.perm_ext_iff_of_nodup (Iz _ C)<|Iz _ E.1.1).2 λx=>⟨A x,h x⟩
 have D:(iV L).Perm<|iV es.toList:=M.filterMap _;have J:(rz<|iV L).Perm<|rz<|iV es.toList:=D.map _
 have u:(nzL<|au s).map (·.1)=(rz<|iV es.toList).map QP:=by
  unfold nzL rz;rw[H,az0 F,List.filter_map,aB,aB,aB];rfl
 refine⟨?_, ?_⟩
 .rw[mergeSort_of_perm J];unfold gu;rw[u];have:=List.map_mergeSort (r:=leB) (s:=λx y:Zd=>Zc<|x<=y) (f:=QP) (l:=rz<|iV es.toList)<|λa _ b _=>aU1 a b;rw[<-this,aB];unfold zL;apply List.map_congr_left;intro x _;exact(ao5 x).symm
 .rw[D.length_eq];have:=congrArg List.length u;simp only[List.length_map,rz]at this;exact this.symm
end
section
open Go.RowKit Go.Sort Go.Proofs
structure KP where
 c0:Code
 c1:Code
 suf1:Code
 rest:Code
 i2:Nat
 i3:Nat
 i4:Nat
 i5:Nat
 i6:Nat
 i7:Nat
 i9:Nat
 k:Nat
 k1:Nat
 o10:Oper
 o11:Oper
 o12:Oper
 o13:Oper
 o14:Oper
 o27:Oper
 o28:Oper
 l4:List Oper
 l5:List Oper
 l6:List Oper
 l7:List Oper
def KP.mid (p:KP):Code:=
 .seq (.seq (.region p.i2 #[p.o10,p.o11] Zb)<|.block p.k<|.loop<|Wg p.k p.k1 p.i3 p.i4 p.i5 p.i6 p.o12 p.o13 p.o14 p.l4 p.l5 p.l6)
  (.seq (.seq (.region p.i7 p.l7.toArray Zb)<|.cond (.tmp 25) p.suf1 .skip)<|.seq (.region p.i9 #[p.o27,p.o28] Zb) p.rest)
def KP.code (p:KP):Code:= .seq p.c0<|.seq p.c1 p.mid
def kpC :Code->Option KP
 | .seq J (.seq M<|.seq (.seq (.region U r2 _)<|.block k<|.loop<|.seq (.region V r3 _)<|.seq _<|.block k1<|.seq (.region W r4 _)<|.seq (.region X r5 _)<|.cond _ (.region Y r6 _) _)<|.seq (.seq (.region i7 r7 _)<|.cond _ s _)<|.seq (.region i9 r9 _) h)=>match r2.toList,r3.toList,r4.toList,r9.toList with
  |[u,A],[C,D],E::l4,[F,H]=>O ⟨J,M,s,h,U,V,W,X,Y,i7,i9,k,k1,u,A,C,D,E,F,H,l4,r5.toList,r6.toList,r7.toList⟩
  |_,_,_,_=>Z
 |_=>Z
structure KFn where
 ntmps:Nat
 results:List ARes
 c0:AC
 c1:AC
 a10:List AOper
 suf1:AC
 rest:AC
def WQ (P:Program)(f:FuncId):Option KFn:=match P.funcs[f]? with
 |some h=>match h.body,Ie P f with
  |some c,true=>match kpC c with
   |some p=>match iL P f h.ntmps p.c0,iL P f h.ntmps p.c1,me P h.ntmps #[p.o10,p.o11] [p.o10],iL P f h.ntmps p.suf1,iL P f h.ntmps p.rest,FG P h.results.toList,jf c with
    |some c0,O c1,O s,O u,O r,O rs,[]=>O ⟨h.ntmps,rs,c0,c1,s,u,r⟩
    |_,_,_,_,_,_,_=>Z
   |none=>Z
  |_,_=>Z
 |none=>Z
def aS2 :List AOper:=[⟨O 23, .move<|.tmp 4,Z⟩,⟨O 24, .len<|.tmp 23,Z⟩,⟨O 25, .bin .gtr (.tmp 24)<|.const<|.int .i64 4096,Z⟩]
structure KF (P:Program)(fs:FuncId)(N:Nat)(p:KP):Prop where
 n:28<N
 loop:KLoop P N p.o12 p.o13 p.o14 p.l4 p.l5 p.l6
 op11: ∃t k e,p.o11.op= .range t (.tmp 10)/\P.underlying t=O (.map k e)
 d11:p.o11.dst=O 11
 g11:p.o11.guard=Z
 t7:me P N p.l7.toArray p.l7=O aS2
 t27:me P N #[p.o27,p.o28] [p.o27]=O [⟨O 27, .move<|.tmp 4,Z⟩]
 op28: ∃c,p.o28.op= .call c/\tN P c=O (.call fs [.tmp 27])
 d28:p.o28.dst=O 28
 g28:p.o28.guard=Z
structure SortOk (P:Program)(fs:FuncId):Prop where
 may:Bs P fs
 row0: ∀(blk off cap:Nat) (ss:List<|List UInt8) (w:World),Holds encStr w blk off ss.toArray->blk<w.heap.size->b8 ss<4611686018427387904->
  Calls P fs #[.slice (O ⟨blk,off,Z⟩) (b8 ss) cap] w λe w'=>e= .returned (.tuple #[])/\∃n os,w'=grow (putRow encStr (Sort.ahead w n) blk off (ss.mergeSort leB).toArray) os
 nil0: ∀(p:Option Addr) (cap:Nat) (w:World),Calls P fs #[.slice p 0 cap] w λe w'=>e= .returned (.tuple #[])/\w'=w
def vQ :List Nat:=[4,5,6,11,12,13,14,15,16,17,18,19,20,21,22,23,24,25,27,28]
def Xs (rs:List ARes)(K:Value->Hp->Prop):AExit->bj->Hp->Prop:=λx e σ=>match x with
 | .exit _=>False
 |_=>match Fq e σ rs with
  |some h=>K (tO h) σ
  |none=>False
def ag2 (T:gw)(f:KFn)(Q:AExit->bj->Hp->Prop)(e:bj)(σ:Hp):Prop:=
 e 4= .slice Z 0 0/\(∀t∈Oc,F8 (e t)=Za)/\∃b x s r,Hd .u64 (e 10)=O b/\σ.m b=O x/\x.cells= .string s::r/\Ot (au s)*16<=140737488355328/\
  ∀h,(∀t,t∉vQ->h t=e t)->
   (4096<tH (au s)->rD T f.suf1 (λx e σ=>x= .ret/\Q .ret e σ) h σ)/\
   (¬4096<tH (au s)->(tH (au s)=0->h 4= .slice Z 0 0->rD T f.rest Q h σ)/\
    (h 4= .slice (O ⟨σ.n,0,Z⟩) (tH<|au s) (tH<|au s)->rD T f.rest Q h (σ.add ⟨(gu<|au s).map (λt=>Value.string<|xo t),Za,1⟩)))
def aq3 (T:gw)(f:KFn)(Q:AExit->bj->Hp->Prop)(e:bj)(σ:Hp):Prop:=
 rD T f.c0 (λx e σ=>x= .normal/\rD T f.c1 (λx e σ=>x= .normal/\kM T (ag2 T f Q) f.a10 e σ) e σ) e σ
def wpK (T:gw)(f:KFn):HU:=λh σ K=>b8 h<=f.ntmps/\aq3 T f (Xs f.results K) (bj.of h) σ
section
variable {P:Program} {T:gw} {B:Base P} {N:Nat} {μ:Mu} {σ:Hp} {e:bj}
def bo0 (s:KS σ (e 4) ks):kM T (λe' σ'=>σ'=σ/\e'=((e.put 23<|e 4).put 24<|.int .i64<|b8 ks).put 25 (.bool<|Zc<|(4096:Int)<b8 ks)) aS2 e σ:=by
 have h:(∃a c,e 4= .slice a (b8 ks) c):=by
  rcases s with⟨rfl,h,_⟩|⟨b,_,h,_⟩
  .exact⟨_,_,h⟩
  exact⟨_,_,h⟩
 obtain⟨a,c,h⟩:=h;simp[aS2,kM,wanted,bp,AOp.run,bj.ev,bj.putO,bj.put,h,yf,ri,N7]
end
end
variable {kf:KFn}
section
open List renaming getElem?_eq_getElem->aD,not_mem_nil->bB
open Option renaming none->aB
open Go.RowKit Go.Sort Go.Proofs
section
variable {P:Program} {T:gw} {B:Base P} {N:Nat} {μ:Mu} {σ:Hp} {w:World} {e:bj} {a:Act} {f fs:FuncId} {p:KP}
def Wx : ∀{xs s:List Operand},F9 xs=O s->xs=s
 |[],s,h=>by simpa[F9]using h
 |x::xs,s,h=>by
  simp only[F9]at h;split at h
  .rename_i h1 h2;injection h with h
   rw[<-h,(az h1).1,Wx h2]
  .cases h
def NN {ro:Option Nat}{Q:Exit->Act->World->Prop}{o:Oper}{rest:List Oper}{c:Call}{t:Nat}{M:World->Prop}(V:o.guard=Z)(D:o.op= .call c)(U:tN P c=O (.call fs [.tmp t]))(u:Bs P fs)
  (s:Calls P fs #[a.eval<|.tmp t] w λx w'=>x= .returned (.tuple #[])/\M w') (W: ∀w',M w'->wpListIn (Rd ro) 0 P ops Q rest (a.put o.dst<|.tuple #[]) w'):wpListIn (Rd ro) 0 P ops Q (o::rest) a w:=by
 unfold wpListIn
 have X:Region.wanted o (yielded ops a.tmps)=Za:=by
  unfold Region.wanted;simp[V]
 rw[zE X];have C: ∀c,o.op≠ .defer c:=λc h=>by rw[D]at h;cases h
 have⟨E,F⟩:=Jq U;have H:c.args= #[.tmp t]:=Array.toList_inj.1 (Wx F)
 have A:(execOp a.eval o).run P w= .ok (.enter fs #[a.eval<|.tmp t]) w:=by
  simp only[execOp,D,resolve,E,Sem.run_bind,Act.eval,Deferred.ofValue,Sem.run_pure,Result.andThen_ok,invoke,H];simp[EG u,Act.eval]
 refine⟨λ_ _=>trivial, ?_⟩;rw[Oper.semAt_eq _ _ _ C,A];refine⟨λh=>aX,Mg<|s.mono λx w' Y=> ?_⟩;obtain⟨rfl,J⟩:=Y;exact W w' J
def Ls {U X μ':Mu}{e1 u:bj}{J E:Array Value}(F:dk U N e1 J)(A:dk X N u E)(hf: ∀t,(t∈vQ/\F8 (u t)=Za)∨u t=e1 t)(H:U.le X)(C:U.le μ')(M:Value)(Y:VR μ' M<|E.getD 4 undef):
  ∃e':bj,e' 4=M/\(∀t,t∉vQ->e' t=e1 t)/\dk μ' N e' E:=by
 have V: ∀t,t∈vQ/\F8 (u t)=Za->aY0 (E.getD t undef):=λt s=>VN (A.2 t) s.2
 refine⟨λt=>if t=4 then M else if h:t∈vQ/\F8 (u t)=Za then Classical.choose (V t h)else e1 t,rfl,λt s=> ?_,A.1,λt=> ?_⟩
 .have:t≠4:=λh=>s Z1
  simp only[zF this,dif_neg (λh:t∈vQ/\F8 (u t)=true=>s h.1)]
 .by_cases h:t=4
  .subst h;exact Y
  .simp only[zF h];by_cases s:t∈vQ/\F8 (u t)=Za
   .simp only[dif_pos s];exact Classical.choose_spec (V t s) μ'
   .simp only[dif_neg s];have hs:=(hf t).resolve_left s;refine(F.2 t).narrow (λb g g1 W D=> ?_) (by have:=A.2 t;rwa [hs]at this);rw[H b g W]at D;injection D with D
    exact D▸C b g W
theorem aQ6 (F:KF P fs N p)(hS:SortOk P fs)(hM:pF T)(hT: ∀f,Fm P f<|T f)(h10:me P N #[p.o10,p.o11] [p.o10]=O kf.a10)(hs1:iL P f N p.suf1=O kf.suf1)(hr:iL P f N p.rest=O kf.rest)(hn1:jf p.suf1=[])(hn2:jf p.rest=[]){Kk:Value->Hp->Prop}
  (hw:kM T (ag2 T kf<|Xs kf.results Kk) kf.a10 e σ) (hR:RD B μ σ w a) (he:dk μ N e a.tmps):p.mid.wpIn (Rd Z) 0 P (mY B N μ w<|Xs kf.results Kk) a w:=by
 obtain⟨ds,hR,hd⟩:=hR;unfold KP.mid;refine wpIn_seq<|wpIn_seq<|wpIn_region_list ?_;show wpListIn (Rd Z) 0 P #[p.o10,p.o11] _ ([p.o10]++[p.o11]) a w;refine L9 hT _ _ e σ μ a w h10 hw hR he λe1 σ1 μ1 a1 w1 hm hμ1 E he1 hd1 hb1=> ?_
 obtain⟨h4,hk,b,x,s,rr,hmap,hx,hxs,hsz,hgo⟩:=hm;have hv10:=he1.2 10;rw[Cp hmap]at hv10;obtain⟨g,hg,hit,hv⟩:=hv10.mp_inv;obtain⟨hgc,es,cl,s',hxs',hheap,hMI⟩:=(E.get hx hg).mp _ hit
 have hss:s'=s:=by
  rw[hxs]at hxs';simp at hxs';exact hxs'.1.symm
 subst hss;obtain⟨l,hl1,hl2⟩:=hMI.all
 have hesz:es.size=Ot (au s'):=by
  unfold Ot;rw[hl2,List.length_map,<-Array.length_toList];have:=congrArg List.length hl1;simpa using this
 have hes: ∀x∈es.toList,∃kb n,x.key= .string kb/\x.val= .int .u64 n:=λy hy=>by
  have:(y.key,y.val)∈l.map (λp=>(Value.string p.1,Value.int .u64 p.2)):=by
   rw[<-hl1];exact aE.2 ⟨y,hy,rfl⟩
  obtain⟨q,_,hq⟩:=aE.1 this;injection hq with q1 q2
  exact⟨q.1,q.2,q1.symm,q2.symm⟩
 obtain⟨ty,kt,et,hop,hund⟩:=F.op11;have hrun:=run_range_map (P:=P) w1 ty kt et g.c es cl hund hheap
 refine J8 F.g11 (λc h=>by rw[hop]at h;cases h) (v:= .pointer<|O ⟨w1.heap.size,0,Z⟩) (w':=w1.alloc<|.mapIter (O g.c) cl #[] cl) (by
  have:a1.eval (.tmp 10)= .map (O g.c):=hv
  simp[execOp,hop,this,hrun,Result.andThen]) ?_
 rw[F.d11];have hI:=KInv.start (bm:=g.c) (cl:=cl) (es:=es) E he1 (hd1.trans hd) (by have:=F.n;omega) h4 hk;refine XM hT F.loop hheap hMI.1 hes (by rw[hesz];exact hsz) E.base hI λL a2 w2 hI2 hall=> ?_
 obtain⟨_,hsub,hnd,hbel,hdf,μ2,σ2,e2,A⟩:=hI2;obtain⟨hn,hold,hR2⟩:=A.rel;obtain⟨hks,hcnt⟩:=R9 hMI hnd hsub hall
 have hLs:(iV L).length<=es.size:=by
  rw[<-Array.length_toList]
  exact Nat.le_trans N9 (by
   have:=P1 (L.map (·.born)) (es.toList.map (·.born)) hnd λy hy=>by
    obtain⟨z,hz,rfl⟩:=aE.1 hy;exact aE.2 ⟨z,hsub z hz,rfl⟩
   simpa using this)
 refine wpIn_seq<|wpIn_seq<|wpIn_region_list ?_;show wpListIn (Rd Z) 0 P p.l7.toArray _ p.l7 a2 w2;refine EX hT F.t7 (bo0 A.ks) hR2 A.env ?_;rintro e3 σ3 μ3 a3 w3 ⟨rfl,hq3⟩ hμ3 hR3 he3 hd3 hb3
 have hok4:F8 (e2 4)=Za:=by
  rcases A.ks with⟨_,h,_⟩|⟨b,_,h,_⟩<;>rw[h]<;>rfl
 have hf3: ∀t,(t∈vQ/\F8 (e3 t)=Za)∨e3 t=e1 t:=λt=>by
  subst hq3;simp only[bj.put];by_cases V:t=25
  .subst V;exact .inl ⟨by decide,rfl⟩
  .by_cases h24:t=24
   .subst h24;exact .inl ⟨by decide,rfl⟩
   .by_cases h23:t=23
    .subst h23;exact .inl ⟨by decide,hok4⟩
    .rw[zF V,zF h24,zF h23];by_cases h4:t=4
     .subst h4;exact .inl ⟨by decide,hok4⟩
     .by_cases h11:t=11
      .subst h11;exact .inl ⟨by decide,by rw[A.e11];rfl⟩
      .by_cases hk:t∈Oc
       .refine .inl ⟨?_,A.ok t hk⟩;simp only[Oc,List.mem_cons,bB,or_false]at hk;simp only[vQ,List.mem_cons,bB,or_false];omega
       .exact .inr (A.same t h4 h11 hk)
 have h34:e3 4=e2 4:=by subst hq3;rfl
 have V:a3.eval (.tmp 25)= .bool (Zc<|(4096:Int)<(iV L).length):=by
  have:=he3.2 25;rw[hq3]at this;exact VR.bool_inv this
 have W:Below w1.heap.size w1 w3:=hbel.trans<|hb3.mono<|Nat.le_succ _;have hdf3:a3.defers=dfs ds:=hd3.trans hdf;have hle3:μ1.le μ3:=Mu.le_trans A.le hμ3;have hbB:Below (more B ds).n w w3:=hb1.trans<|W.mono E.base;cases J:Zc ((4096:Int)<(iV L).length)with
 |true=>
  rw[J]at V
  have J:4096<tH (au s'):=by
   have:=of_decide_eq_true J;omega
  refine wpIn_cond_true V ?_;obtain⟨v4,M⟩:=VN (he3.2 4) (by rw[h34];exact hok4);obtain⟨U,_,h6,h7⟩:=Ls he1 he3 hf3 hle3 μ1.le_refl v4<|M μ1;refine wpIn_mono (Cf (B:=B) hM hT p.suf1 kf.suf1 hs1 _ U σ1 μ1 a3 w3 ((hgo U h6).1 J) ⟨ds,E.under W,hdf3⟩ h7 trivial (λq hq=>by rw[hn1]at hq;cases hq)) λx a' w' hx=> ?_
  obtain⟨ax,e'',σ',μ',k1,⟨rfl,k2⟩,k3,k4,k5,k6,k7⟩:=hx;cases x<;>simp[pm]at k1;exact⟨.ret,e'',σ',μ',trivial,k2,Mu.le_trans hμ1 k3,k4,k5,trivial,Below.trans hbB k7⟩
 |false=>
  rw[J]at V
  have J: ¬4096<tH (au s'):=by
   have:=of_decide_eq_false J;omega
  refine wpIn_cond_false V<|wpIn_skip ?_;refine wpIn_seq<|wpIn_region_list ?_;show wpListIn (Rd Z) 0 P #[p.o27,p.o28] _ ([p.o27]++[p.o28]) a3 w3;refine L9 hT (Q:=λU σ'=>σ'=σ3/\U=e3.put 27 (e3 4)) _ _ e3 σ3 μ3 a3 w3 F.t27 (by simp[kM,wanted,bp,AOp.run,bj.ev,bj.putO]) hR3 he3 ?_;rintro e4 σ4 μ4 a4 w4 ⟨rfl,hq4⟩ hμ4 hR4 he4 hd4 hb4;have h44:e4 4=e2 4:=by subst hq4;exact h34
  have h427:e4 27=e2 4:=by subst hq4;exact h34
  have X:Below w1.heap.size w1 w4:=W.trans<|hb4.mono<|Nat.le_succ _;have hdf4:(a4.put p.o28.dst<|.tuple #[]).defers=dfs ds:=(jq _ _).trans<|hd4.trans hdf3;have hle4:μ1.le μ4:=Mu.le_trans hle3 hμ4
  have he5:dk μ4 N (e4.put 28<|.tuple #[]) (a4.put p.o28.dst<|.tuple #[]).tmps:=by
   rw[F.d28];exact he4.put 28 F.n (.tuple .nil)
  have hf5: ∀t,(t∈vQ/\F8 ((e4.put 28<|.tuple #[]) t)=Za)∨(e4.put 28<|.tuple #[]) t=e1 t:=λt=>by
   by_cases h28:t=28
   .subst h28;exact .inl ⟨by decide,rfl⟩
   .by_cases h27:t=27
    .subst h27;exact .inl ⟨by decide,by show F8 (e4 27)=Za;rw[h427];exact hok4⟩
    .have:(e4.put 28<|.tuple #[]) t=e3 t:=by
      subst hq4;simp only[bj.put,zF h28,zF h27]
     rw[this];exact hf3 t
  have hbB4: ∀{w':World},Below w1.heap.size w4 w'->Below (more B ds).n w w':=λh=>hb1.trans ((X.trans h).mono E.base)
  obtain⟨c28,hop28,htr28⟩:=F.op28;have H:=he4.2 27;rw[h427]at H
  have go: ∀(U:bj) (σ':Hp) (μ':Mu) (w':World),rD T kf.rest (Xs kf.results Kk) U σ'->R (more B ds) μ' σ' w'->dk μ' N U (a4.put p.o28.dst<|.tuple #[]).tmps->μ1.le μ'->Below w1.heap.size w4 w'->
    p.rest.wpIn (Rd Z) 0 P (mY B N μ w<|Xs kf.results Kk) (a4.put p.o28.dst<|.tuple #[]) w':=λU σ' μ' w' q1 q2 q3 q4 q5=>by
   refine wpIn_mono (Cf (B:=B) hM hT p.rest kf.rest hr _ U σ' μ' _ w' q1 ⟨ds,q2,hdf4⟩ q3 trivial (λq hq=>by rw[hn2]at hq;cases hq)) λx a' w'' hx=> ?_
   exact mY.trans (B:=B) (Mu.le_trans hμ1 q4) (hbB4 q5) hx
  rcases A.ks with⟨hk0,h2,_⟩|⟨bk,hk0,h2,hmk⟩
  .rw[h2]at H
   have D:a4.eval (.tmp 27)= .slice Z 0 0:=by
    show a4.tmps.getD 27 undef=_;generalize a4.tmps.getD 27 undef=u at H;cases H;rfl
   have C:=hS.nil0 Z 0 w4;rw[<-D]at C;refine NN F.g28 hop28 htr28 hS.may C λw' hw'=> ?_
   subst hw';have M:=he5.2 4
   have e54:(e4.put 28<|.tuple #[]) 4= .slice Z 0 0:=by
    show e4 4=_;rw[h44,h2]
   rw[e54]at M
   have hv4':VR μ1 (.slice Z 0 0)<|(a4.put p.o28.dst<|.tuple #[]).tmps.getD 4 undef:=by
    generalize (a4.put p.o28.dst<|.tuple #[]).tmps.getD 4 undef=u at M;cases M;exact .nils
   obtain⟨U,g4,g6,g7⟩:=Ls he1 he5 hf5 hle4 μ1.le_refl _ hv4';refine go U σ1 μ1 w' (((hgo U g6).2 J).1 ?_ g4) (E.under X) g7 μ1.le_refl<|Below.refl _ _;rw[<-hcnt,hk0];rfl
  .rw[h2]at H;have hn0:(iV L).length≠0:=λh=>hk0 (aK.1 h)
   have hm4:σ4.m bk=O ⟨(iV L).map .string,Za,1⟩:=by rw[hmk,zE rfl]
   have inv: ∀u,VR μ4 (.slice (O ⟨bk,0,Z⟩) (iV L).length (iV L).length) u->∃g c',μ4.at bk g/\(iV L).length<=c'/\0+c'*g.es<=g.ext/\u= .slice (O ⟨g.c,g.o+0,Z⟩) (iV L).length c':=λu hu=>by
    rcases hu.slice_inv with⟨g,c',q1,_,q3,q4,q5⟩|⟨q1,_⟩
    .exact⟨g,c',q1,q3,q4,q5⟩
    .exact(hn0 q1).elim
   obtain⟨gk,ck,⟨hgk,Y⟩,hck,hek,D⟩:=inv _ H;obtain⟨r1,r2,r3,r4,_,r6⟩:=R8 hR4 hm4 hgk Y;have hlo:w1.heap.size<=gk.c:=Nat.le_of_succ_le (show w1.heap.size+1<=gk.c from r1);have hbl:(rz<|iV L).length=(iV L).length:=by simp[rz]
   have C:=hS.row0 gk.c gk.o ck (rz<|iV L) w4 r6 r2 (by rw[hbl];rw[hesz]at hLs;omega)
   have D:a4.eval (.tmp 27)= .slice (O ⟨gk.c,gk.o,Z⟩) (rz<|iV L).length ck:=by
    rw[hbl];exact D
   rw[<-D]at C;refine NN F.g28 hop28 htr28 hS.may C λw' hw'=> ?_
   obtain⟨n,os,hw'⟩:=hw';obtain⟨s1,s2⟩:=U0 (B0:=more B ds) (μ':=μ1.add σ1.n gk) (n0:=w1.heap.size) (n:=n) (os:=os) (ts:=(rz<|iV L).mergeSort leB) hR4 hm4 hgk Y hlo E.base (by rw[List.length_mergeSort];exact hbl);rw[<-hw']at s1 s2;rw[hks]at s2;have hR':=R.addRow E (X.trans s1) hlo Y s2;have hle':μ1.le<|μ1.add σ1.n gk:=Mu.le_add<|E.fresh _<|Nat.le_refl _;have M:=he5.2 4
   have e54:(e4.put 28<|.tuple #[]) 4= .slice (O ⟨bk,0,Z⟩) (iV L).length (iV L).length:=by
    show e4 4=_;rw[h44,h2]
   rw[e54]at M;obtain⟨g4,c4,⟨hg4,hit4⟩,hc4,hx4,hu4⟩:=inv _ M;rw[hgk]at hg4;injection hg4 with hg4
   subst hg4
   have hv4':VR (μ1.add σ1.n gk) (.slice (O ⟨σ1.n,0,Z⟩) (iV L).length (iV L).length)<|(a4.put p.o28.dst<|.tuple #[]).tmps.getD 4 undef:=by
    rw[hu4];exact .slice ⟨by simp[Mu.add],Y⟩ (Nat.le_refl _) hc4 hx4
   obtain⟨U,k4,k6,k7⟩:=Ls he1 he5 hf5 hle4 hle' _ hv4';rw[hcnt]at k4;exact go U _ _ w' (((hgo U k6).2 J).2 k4) hR' k7 hle' s1
theorem ab8 {args:List Value}{cargs:Array Value}(h:F2 (VR μ) args cargs.toList)(s:args.length<=N):dk μ N (bj.of args)<|cargs++Array.replicate (N-cargs.size) undef:=by
 have E:cargs.size=args.length:=by simpa using h.length.symm
 refine⟨by simp only[Array.size_append,Array.size_replicate];omega,λt=> ?_⟩;unfold bj.of;by_cases u:t<args.length
 .obtain⟨A,C,D⟩:=h.get t args[t] (aD u)
  have:(cargs++Array.replicate (N-cargs.size) undef).getD t undef=A:=by
   simp only[Array.getD_eq_getD_getElem?];rw[Array.getElem?_append_left (by omega)];have:cargs[t]?=O A:=by simpa using C
   simp[this]
  rw[this,aD u];exact D
 have:(cargs++Array.replicate (N-cargs.size) undef).getD t undef=undef:=by
  simp only[Array.getD_eq_getD_getElem?];rw[Array.getElem?_append_right (by omega),Array.getElem?_replicate];split<;>rfl
 rw[this,List.getElem?_eq_none (by omega)];exact VR.undef μ
def Oj (u:pF T){Q Q':AExit->bj->Hp->Prop}(A: ∀x e σ,Q x e σ->Q' x e σ)(h:ag2 T kf Q e σ):ag2 T kf Q' e σ:=by
 have⟨M,U,b,x,s,r,V,W,X,Y,h7⟩:=h;refine⟨M,U,b,x,s,r,V,W,X,Y,λH C=> ?_⟩;have⟨J,E⟩:=h7 H C;exact⟨λq=>de u _ _ _ (λx e σ F=>⟨F.1,A _ _ _ F.2⟩) _ _<|J q,λq=>⟨λD q2=>de u _ _ _ A _ _<|(E q).1 D q2,λD=>de u _ _ _ A _ _<|(E q).2 D⟩⟩
def Yv (s:pF T){Q Q':AExit->bj->Hp->Prop}(C: ∀x e σ,Q x e σ->Q' x e σ)(h:aq3 T kf Q e σ):aq3 T kf Q' e σ:=
 de s _ _ _ (λ_ _ _ u=>⟨u.1,de s _ _ _ (λ_ _ _ A=>⟨A.1,uK s (λ_ _ D=>Oj s C D) _ _ _ A.2⟩) _ _ u.2⟩) _ _ h
def kpO (P:Program)(f:FuncId):KP:=match((P.funcs[f]?).bind (·.body)).bind kpC with
 |some p=>p
 |none=>⟨.skip, .skip, .skip, .skip,0,0,0,0,0,0,0,0,0,default,default,default,default,default,default,default,[],[],[],[]⟩
def ntO (P:Program)(f:FuncId):Nat:=((P.funcs[f]?).map (·.ntmps)).getD 0
def aN5 (h:WQ P f=O kf)(Y:(P.funcs[f]?).bind (·.body)=O (kpO P f).code)(F:KF P fs (ntO P f)<|kpO P f)(hS:SortOk P fs)(hM:pF T)(hT: ∀g,Fm P g<|T g):Fm P f<|wpK T kf:=by
 unfold WQ at h;split at h
 case h_2=>cases h
 rename_i M u;split at h
 case h_2=>cases h
 rename_i c hb D;split at h
 case h_2=>cases h
 rename_i p hp;split at h
 case h_2=>cases h
 rename_i c0 c1 a10 s1 r rs h0 h1 h10 hs1 hr hrs E;cases h
 have X:kpO P f=p:=by
  unfold kpO;simp only[u,zG,hb,hp]
 have e2:ntO P f=M.ntmps:=by
  unfold ntO;simp only[u,Option.map_some,Option.getD_some]
 rw[X,e2]at F;rw[X,u,zG,hb]at Y;cases Y
 have s:jf p.c0=[]/\jf p.c1=[]/\jf p.suf1=[]/\jf p.rest=[]:=by
  simp[KP.code,KP.mid,jf]at E;exact⟨E.1,E.2.1,E.2.2.2.1,E.2.2.2.2⟩
 have Z {c:Code} {q:Array Tmp×Code×Code} (h:jf c=[]) (C:q∈jf c):(Z:Option Nat)=Z/\yE P f=O (M.ntmps,q):=by
  rw[h]at C;cases C
 have H:Bs P f:=by
  unfold Ie at D;rw[u]at D;simp only[Bool.and_eq_true,Bool.not_eq_true']at D;exact⟨M,u,D.1,D.2⟩
 refine Fm.mk' H λB μ σ w args cargs K hw hR ha=> ?_
 obtain⟨V,hw⟩:=hw;refine callsIn_wide.1<|callsIn_of_wp_marks (F:=Rd aB) (n:=0) u hb trivial ?_;have U:=ab8 (N:=M.ntmps) ha V;refine wpIn_seq<|wpIn_mono (Cf hM hT p.c0 c0 h0 _ _ σ μ ⟨_,[]⟩ w hw ⟨[],hR,rfl⟩ U trivial (λq C=>Z s.1 C)) λx a1 w1 W=> ?_;obtain⟨ax,X,σ1,μ1,A,⟨rfl,hw1⟩,g1,g2,g3,_,g5⟩:=W;cases x<;>simp[pm]at A;refine wpIn_seq<|wpIn_mono (Cf hM hT p.c1 c1 h1 _ X σ1 μ1 a1 w1 hw1 g2 g3 trivial (λq C=>Z s.2.1 C)) λx a2 w2 W=> ?_;obtain⟨ax,e2,σ2,μ2,A,⟨rfl,hw2⟩,k1,k2,k3,_,k5⟩:=W;cases x<;>simp[pm]at A;refine wpIn_mono (aQ6 (B:=B) F hS hM hT h10 hs1 hr s.2.2.1 s.2.2.2 hw2 k2 k3) λx a3 w3 W=> ?_
 have⟨ax,e3,σ3,μ3,A,C,m1,⟨ds,m2,m4⟩,m3,_,m5⟩:=mY.trans (Mu.le_trans g1 k1) (Below.trans g5 k5) W
 have J:(match Fq e3 σ3 rs with
   |some vs=>K (tO vs) σ3
   |aB=>False)->LeavesInM (Rd aB) 0 P M a3.tmps (WZ P B μ w K) a3.defers .returning w3:=λC=>by
  rw[m4];exact Is hrs m3 m1 C ds w3 m2 m5
 cases ax with
 |normal=>
  cases x<;>simp[pm]at A;exact J C
 |exit id=>exact C.elim
 |ret=>
  cases x<;>simp[pm]at A;exact J C
end
end
end Go.Ab
