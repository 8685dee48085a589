/- A part of the proof. No condition. -/
import Derived.Test.YtlaofmfngnkldaaGreatA2
import Derived.MapKept
import Derived.DeepKeys3
import Derived.RangeFuncIn
import Derived.OrdersIn
import Derived.TacticsIn
set_option linter.all false
namespace Go.Ab
open Option renaming some->O,none->Z
open Bool renaming true->Za,false->Zb
open Decidable renaming decide->Zc
open List renaming all_eq_true->aG
open List renaming mem_append->aF
open List renaming mem_cons->aA
open List renaming mem_flatMap->aL
open List renaming mem_map->aE
open List renaming mem_singleton->aI
open Option renaming bind_eq_some_iff->aM
open Option renaming isSome_iff_exists->aN
open Option renaming map_eq_some_iff->aC
open List renaming length->b8
open Option.some renaming injEq->aZ
open Prod.mk renaming injEq->b7
variable {ks:List IntKind}{e e':bj}{i x:Operand}{f:FuncId}{ao op:AOp}{kd:IntKind}{args:List Operand}{es:List MapEntry}{c:Call}{es':Array MapEntry}{g:G}{s:ByteArray}
section
open List renaming replicate->aB,map_cons->aD,find?_cons->bD,getElem?_map->cD,getElem?_eq_getElem->cV,map_append->cW,mem_cons_of_mem->cX,mem_cons_self->cY
open Nat renaming le_refl->bB
open Option renaming map_some->cZ
open Result renaming andThen->cB
open Go.RowKit
section
variable {P:Program} {o:Oper} {a:Act} {w w':World} {B:Base P} {N:Nat} {μ:Mu} {e:bj} {σ σ':Hp} {v:Value}
def R.newM (h:R B μ σ w)(k:IntKind):R B (μ.add σ.n ⟨w.heap.size,0,0,1,0,O<|.int k 0⟩) (σ.add ⟨[.string ByteArray.empty],Za,1⟩) (w.alloc<|.map #[] 0)/\μ.le (μ.add σ.n ⟨w.heap.size,0,0,1,0,O<|.int k 0⟩):=by
 have X:μ σ.n=Z:=h.fresh _<|bB _;have u:μ.le<|μ.add σ.n ⟨w.heap.size,0,0,1,0,O<|.int k 0⟩:=Mu.le_add X
 have old: ∀b x,b≠σ.n->(σ.add ⟨[.string ByteArray.empty],Za,1⟩).m b=O x->σ.m b=O x:=by
  intro b x p j;simpa[Hp.add,p]using j
 have L: ∀x,(σ.add ⟨[.string ByteArray.empty],Za,1⟩).m σ.n=O x->x=⟨[.string ByteArray.empty],Za,1⟩:=by
  intro x j;simp[Hp.add]at j;exact j.symm
 have l: ∀b x g,σ.m b=O x->μ b=O g->g.c<w.heap.size:=λb x g j t=>(h.get j t).lt
 have F:(w.alloc<|.map #[] 0).heap.size=w.heap.size+1:=by simp
 refine⟨⟨by rw[F];exact Nat.le_succ_of_le h.base,λk C=>(Below.heap_alloc w _ _<|Nat.lt_of_lt_of_le C h.base).trans<|h.old k C,λb p=> ?_,λb x j=> ?_,λb H x Q g I j y J Y t z=> ?_, ?_,h.dfr_alloc _,h.mit_alloc _⟩,u⟩
 .have:σ.n+1<=b:=p;unfold Mu.add;rw[Zh];exact h.fresh b V1
 .by_cases p:b=σ.n
  .subst p;obtain rfl:=L x j
   exact⟨⟨w.heap.size,0,0,1,0,O<|.int k 0⟩,Z0,⟨by rw[F];exact Nat.lt_succ_self _,rfl,λD=>ZR,λD=>ZR,λs' d=>Z2,λd=>Z2,λk' C=>(by
    injection C with C
    cases C
    exact⟨h.base, #[],0,ByteArray.empty,rfl,heap_alloc_new w _,⟨.nil,λe W=>(by cases W)⟩,[],rfl,rfl⟩),λ_ _ d=>Z2,λd=>by injection d with d;cases d⟩⟩
  have y:=old b x p j;have⟨g,E,A⟩:=h.live b x y;exact⟨g,u _ _ E,(A.mono u).kept (by rw[F];exact Nat.le_succ _) (Below.heap_alloc w _ _ A.lt)<|λM q hq=>Below.heap_alloc w _ _ (h.buf y E M hq).2.1⟩
 .by_cases p:b=σ.n
  .subst p;have r:H≠σ.n:=λe=>J e.symm
   have:g.c=w.heap.size:=by simp[Mu.add]at t;rw[<-t]
   have A:μ H=O I:=by simpa[Mu.add,r]using z
   have:=l H Q I (old _ _ r y) A;omega
  have E:μ b=O g:=by simpa[Mu.add,p]using t
  have K:=old b x p j;by_cases r:H=σ.n
  .subst r;have:I.c=w.heap.size:=by simp[Mu.add]at z;rw[<-z]
   have:=l b x g K E;omega
  have A:μ H=O I:=by simpa[Mu.add,r]using z
  exact h.inj b H x Q g I K (old _ _ r y) J Y E A
 refine h.sep.of (λb x g j t=> ?_) (λb x g j t M _=> ?_)
 .by_cases p:b=σ.n
  .subst p;have S:g=⟨w.heap.size,0,0,1,0,O<|.int k 0⟩:=by simp[Mu.add]at t;exact t.symm
   subst S;exact .inr ⟨λD=>(by injection D with D;cases D),λb1 x1 g1 q E A U V e=>by have:=(h.buf E A U V).2.1;simp only at e;omega⟩
  exact .inl ⟨x,old b x p j,by simpa[Mu.add,p]using t⟩
 unfold jW;rw[show(w.alloc<|.map #[] 0).heap[g.c]?=w.heap[g.c]? from Below.heap_alloc w _ _<|l b x g j t]
def tI (w:World)(r:Nat)(o:Obj):World:={w with heap:=w.heap.setIfInBounds r o}
def nc (w:World)(r k:Nat)(o:Obj)(h:k≠r):(tI w r o).heap[k]?=w.heap[k]?:=by
 simp only[tI];rw[Array.getElem?_setIfInBounds_ne (λe=>h e.symm)]
def pS (w:World)(r:Nat)(o:Obj):(tI w r o).heap.size=w.heap.size:=by simp[tI]
def F7 (w:World)(r:Nat)(o x:Obj)(h:w.heap[r]?=O x):(tI w r o).heap[r]?=O o:=by
 have b:r<w.heap.size:=by
  rcases Nat.lt_or_ge r w.heap.size with h1|h1
  .exact h1
  rw[Array.getElem?_eq_none h1]at h;cases h
 simp only[tI];rw[Array.getElem?_setIfInBounds_self_of_lt b]
def R.setM (h:R B μ σ w){b:Nat}{x:Blk}(M:σ.m b=O x)(S:x.own=Za)(K:μ b=O g)(q:g.it=O (.int kd 0)){E:ByteArray}(A:Nat)(hm:CN kd es' A E):
  R B μ (σ.set b<|O ⟨[.string E],Za,x.es⟩) (tI w g.c<|.map es' A):=by
 have hl:=h.get M K;have⟨o1,es,cl,s,o3,o4,o5⟩:=hl.mp kd q;have l: ∀k,k≠g.c->(tI w g.c<|.map es' A).heap[k]?=w.heap[k]?:=λk t=>nc w _ k _ t
 have H:(tI w g.c<|.map es' A).heap.size=w.heap.size:=pS w _ _
 have old: ∀p n,p≠b->(σ.set b<|O ⟨[.string E],Za,x.es⟩).m p=O n->σ.m p=O n:=by
  intro p n C j;simpa[Hp.set,C]using j
 have V: ∀n,(σ.set b<|O ⟨[.string E],Za,x.es⟩).m b=O n->n=⟨[.string E],Za,x.es⟩:=by
  intro n j;simp[Hp.set]at j;exact j.symm
 refine⟨by rw[H];exact h.base,λk t=>(l k V1).trans<|h.old k t,h.fresh,λp n j=> ?_,λb1 b2 x1 x2 g1 g2 J h2 F U X Y=> ?_, ?_,h.dfr_but (c:=g.c) (λd=>by rw[o4];simp) (λk t _=>l k t),h.mit_but (c:=g.c) (λo S e=>by rw[o4]at e;cases e;cases S) λk t _=>l k t⟩
 .by_cases C:p=b
  .subst C;obtain rfl:=V n j
   exact⟨g,K,⟨by rw[H];exact hl.lt,hl.es,λQ=>(by rw[q]at Q;cases Q),λQ=>(by rw[q]at Q;cases Q),λs2 r=>ZD,λr=>ZD,λk' t=>(by
    rw[q]at t;injection t with t
    cases t
    exact⟨o1,es',A,E,rfl,F7 w _ _ _ o4,hm⟩),λ_ _ r=>ZD,λr=>by rw[q]at r;injection r with r;cases r⟩⟩
  .have D:=old p n C j;have⟨I,J,h2⟩:=h.live p n D;exact⟨I,J,h.stays D J (by rw[H];exact bB _) g.c (λk t _=>l k t) (λe=>h.inj b p x n g I M D (λe=>C e.symm) S K J e.symm)<|λL t=>((h.sep p n I D J L _ t b x g M K).1 rfl)⟩
 .have z: ∀p n,(σ.set b<|O ⟨[.string E],Za,x.es⟩).m p=O n->∃y,σ.m p=O y/\y.own=n.own:=by
   intro p n j;by_cases C:p=b
   .subst C;obtain rfl:=V n j;exact⟨x,M,S⟩
   .exact⟨n,old p n C j,rfl⟩
  have⟨y1,hy1,e1⟩:=z _ _ J;have⟨y2,hy2,_⟩:=z _ _ h2;exact h.inj b1 b2 y1 y2 g1 g2 hy1 hy2 F (e1.trans U) X Y
 .have W: ∀p n,(σ.set b<|O ⟨[.string E],Za,x.es⟩).m p=O n->∃y,σ.m p=O y:=by
   intro p n j;by_cases C:p=b
   .subst C;exact⟨x,M⟩
   .exact⟨n,old p n C j⟩
  refine h.sep.of (λp n I j u=> .inl (let⟨y,hy⟩:=W p n j;⟨y,hy,u⟩))<|λp n I j u L _=> ?_;have F:p≠b:=λe=>by subst e;rw[K]at u;cases u;rw[q]at L;injection L with L;cases L
  unfold jW;rw[l _<|λe=>h.inj b p x n g I M j (λe=>F e.symm) S K u e.symm]
def XW : ∀(k r:Zd),zK (k.flatMap (λb=>[1,b])++0::r)=(k,match r with|[]=>[]|_=>r):=by
 intro k r;induction k with
 |nil=>cases r with
  |nil=>rfl
  |cons x r=>simp[zK]
 |cons b k d=>
  show zK (1::b::(k.flatMap (λb=>[1,b])++0::r))=_;unfold zK;rw[zE rfl,d]
def L3 (r:Zd): ∀n,uC (aB n 1++0::r)=(n,r)
 |0=>by simp[uC]
 |n+1=>by
  show uC (1::(aB n 1++0::r))=_;unfold uC;rw[zE rfl,L3 r n]
def UD (k:Zd){r:Zd}(h:r≠[]):zK (k.flatMap (λb=>[1,b])++0::r)=(k,r):=by
 rw[XW];cases r with
 |nil=>exact(h rfl).elim
 |cons x r=>rfl
def Oo : ∀(l:List<|Zd×Int) (n:Nat),b8 (zy l)<=n->On n (zy l)=l
 |[],0,_=>rfl
 |[],_+1,_=>rfl
 |(k,v)::r,n,h=>by
  have p:aB v.toNat (1:Int)++0::(aB (-v).toNat 1++0::zy r)≠[]:=by simp
  have q:zy ((k,v)::r)=k.flatMap (λb=>[1,b])++0::(aB v.toNat 1++0::(aB (-v).toNat 1++0::zy r)):=rfl;have d:=UD k p;rw[<-q]at d
  have m:b8 (zy r)+1<=b8 (zy<|(k,v)::r):=by
   rw[q];simp only[List.length_append,List.length_cons,List.length_replicate];omega
  cases n with
  |zero=>omega
  |succ n=>
   cases j:zy ((k,v)::r)with
   |nil=>rw[j]at m;simp at m
   |cons x l=>
    unfold On;rw[j]at d;rw[d];simp only[L3];rw[Oo r n (by rw[j]at m h;omega)]
    congr 2
    omega
def Om (l:List<|Zd×Int):gZ (zy l)=l:=Oo l _<|bB _
def GR (s:ByteArray): ∀x∈au s,0<=x/\x<256:=by
 intro x d;unfold au at d;obtain⟨b,_,rfl⟩:=aE.1 d;have:=b.toNat_lt;omega
def L0 : ∀l:List<|Zd×Int,(∀p∈l,∀x∈p.1,0<=x/\x<256)->∀x∈zy l,0<=x/\x<256
 |[],_,x,hx=>by cases hx
 |(k,v)::r,h,x,hx=>by
  have j:=h _<|cY ..;have n:=L0 r λp m=>h p (cX _ m)
  unfold zy at hx;simp only[List.mem_append,List.mem_cons,List.mem_flatMap,List.mem_replicate,List.not_mem_nil,or_false]at hx;rcases hx with⟨b,d,rfl|rfl⟩|rfl|⟨_,rfl⟩|rfl|⟨_,rfl⟩|rfl|hx
  .omega
  .exact j _ d
  all_goals first|omega|exact n _ hx
def yh {a b:ByteArray}(h:au a=au b):a=b:=by
 unfold au at h
 have:a.data.toList=b.data.toList:=by
  have j: ∀(l d:List UInt8),l.map (λb=>(b.toNat:Int))=d.map (λb=>(b.toNat:Int))->l=d:=by
   intro l;induction l with
   |nil=>intro d h;cases d with
    |nil=>rfl
    |cons x r=>cases h
   |cons x r k=>intro d h;cases d with
    |nil=>cases h
    |cons y m=>
     simp only[aD,List.cons.injEq]at h;have:x.toNat=y.toNat:=by omega
     rw[UInt8.toNat_inj.1 this,k m h.2]
  exact j _ _ h
 cases a;cases b
 congr 1
 exact Array.toList_inj.1 this
def zq (l:Zd)(h: ∀x∈l,0<=x/\x<256):au (xo l)=l:=by
 have b: ∀(l:Zd) (s:ByteArray),(∀x∈l,0<=x/\x<256)->au (l.foldl (λr n=>r.push<|UInt8.ofNat n.toNat) s)=au s++l:=by
  intro l;induction l with
  |nil=>intro s _;simp
  |cons n l k=>
   intro s d;rw[List.foldl_cons,k _ λx j=>d x<|cX _ j];have m:=d n (cY ..)
   have:au (s.push<|UInt8.ofNat n.toNat)=au s++[n]:=by
    unfold au;simp only[ByteArray.push,Array.toList_push,cW,aD,List.map_nil]
    congr 2
    rw[UInt8.toNat_ofNat'];omega
   rw[this,List.append_assoc];rfl
 rw[show xo l=l.foldl (λr n=>r.push<|UInt8.ofNat n.toNat) ByteArray.empty from rfl,b l _ h];rfl
def I7 {α β:Type}(f:α->β)(g:α->α)(h: ∀a,f (g a)=f a): ∀(l:List α) (i:Nat),(l.modify i g).map f=l.map f
 |[],i=>by cases i<;>rfl
 |a::l,0=>by simp[h]
 |a::l,i+1=>by simp[I7 f g h l i]
def ve.push {l:List MapEntry}{cl:Nat}(h:ve l cl)(e:MapEntry)(k:e.born=cl):ve (l++[e])<|cl+1:=by
 refine⟨?_,λx hx=> ?_⟩
 .rw[cW,List.nodup_append];refine⟨h.1,V2,λa d b j=> ?_⟩;obtain⟨x,hx,rfl⟩:=aE.1 d;have:=h.2 x hx;simp at j;omega
 rcases aF.1 hx with hx|hx
 .have:=h.2 x hx;omega
 simp at hx;subst hx;omega
def ve.same {l m:List MapEntry}{cl:Nat}(h:ve l cl)(b:m.map (·.born)=l.map (·.born)):ve m cl:=by
 refine⟨b▸h.1,λe d=> ?_⟩;have:e.born∈l.map (·.born):=b▸aE.2 ⟨e,d,rfl⟩;have⟨x,j,k⟩:=aE.1 this;have:=h.2 x j;omega
def Lv {kd:IntKind}(key:ByteArray): ∀(es:List MapEntry) (l:List<|ByteArray×Int) (n:Nat),es.map (λe=>(e.key,e.val))=l.map (λp=>(Value.string p.1,Value.int kd p.2))->
  ((l.find? λp=>Zc<|p.1=key)=Z/\Instr.findNow .string (.string key) es n=O Z)∨∃i p,(l.find? λp=>Zc<|p.1=key)=O p/\Instr.findNow .string (.string key) es n=O (O (n+i, .int kd p.2))/\l[i]?=O p/\p.1=key/\∀j,j<i->∀q,l[j]?=O q->q.1≠key
 |[],[],n,_=> .inl ⟨rfl,rfl⟩
 |[],_::_,n,h=>by cases h
 |_::_,[],n,h=>by cases h
 |e::es,p::l,n,h=>by
  simp only[aD,List.cons.injEq,b7]at h;have⟨⟨t,u⟩,y⟩:=h;unfold Instr.findNow;rw[t,u];simp only[Instr.sameNow];by_cases b:p.1=key
  .right;refine⟨0,p, ?_, ?_,rfl,b,λj A=>by omega⟩
   .rw[bD,zB b]
   .rw[b,(MapKept.bytes_beq key key).2 rfl];rfl
  .have z:(key==p.1)=Zb:=by
    cases C:key==p.1 with
    |false=>rfl
    |true=>exact(b ((MapKept.bytes_beq _ _).1 C).symm).elim
   rw[z];simp only;rw[bD,zA b];simp only;rcases Lv key es l (n+1) y with⟨k,m⟩|⟨i,q,k,m,D,E,F⟩
   .exact .inl ⟨k,m⟩
   .refine .inr ⟨i+1,q,k,by rw[m];congr 3;omega,D,E,λj A r d=> ?_⟩;cases j with
    |zero=>simp at d;rw[<-d];exact b
    |succ j=>exact F j V1 r V7
def Uq (key:ByteArray)(l:List<|ByteArray×Int):((l.map λp=>(au p.1,p.2)).find? λp=>Zc<|p.1=au key).map (·.2)=(l.find? λp=>Zc<|p.1=key).map (·.2):=by
 induction l with
 |nil=>rfl
 |cons p l d=>
  rw[aD,bD,bD];by_cases b:p.1=key
  .rw[zB b,zB (by rw[b])];rfl
  rw[zA b,zA<|λe=>b<|yh e];exact d
def IG (key:ByteArray)(v:Int): ∀l:List<|ByteArray×Int,lC (au key) v (l.map λp=>(au p.1,p.2))=List.map (λp:ByteArray×Int=>(au p.1,p.2)) (match l.findIdx? (λp=>Zc<|p.1=key)with
  |some i=>l.modify i λp=>(p.1,v)
  |none=>l++[(key,v)])
 |[]=>rfl
 |p::l=>by
  rw[aD];unfold lC;rw[List.findIdx?_cons];by_cases b:p.1=key
  .rw[zE (by rw[b]),zB b];rfl
  .rw[zF (λe=>b<|yh e),zA b,IG key v l];cases d:l.findIdx? λp=>Zc (p.1=key)with
   |none=>rfl
   |some i=>rfl
def CN.all {es:Array MapEntry}{cl:Nat}(h:CN kd es cl s): ∃l:List<|ByteArray×Int,es.toList.map (λe=>(e.key,e.val))=l.map (λp=>(Value.string p.1,Value.int kd p.2))/\gZ (au s)=l.map λp=>(au p.1,p.2):=by
 have⟨_,l,b,d⟩:=h;exact⟨l,b,by rw[d,Om]⟩
def ai2 {t:TypeId}(h:o.op= .makeMap t Z)(d:(AOp.makeM kd).run e σ=O (v,σ'))(b:R B μ σ w):jK P o a w B μ v σ':=by
 simp only[AOp.run,aZ,b7]at d;obtain⟨rfl,rfl⟩:=d;have⟨j,k⟩:=b.newM kd;refine⟨_,_,_, .map<|O w.heap.size, ?_, .inl rfl,k,j, ?_,(Below.refl _ _).alloc b.base _⟩
 .simp[execOp,h,Instr.makeMap]
 exact .mp (g:=⟨w.heap.size,0,0,1,0,O<|.int kd 0⟩) Z0 rfl
def Wk {k:IntKind}{b:Nat}{blk:Blk}{r:List Value}{u:Value}(t:R B μ σ w)(A:VR μ (TB k b) u)(y:σ.m b=O blk)(z:blk.cells= .string s::r): ∃g es cl,u= .map (O g.c)/\μ b=O g/\g.it=O (.int k 0)/\w.heap[g.c]?=O (.map es cl)/\CN k es cl s/\B.n<=g.c/\r=[]:=by
 obtain⟨g,j,d,rfl⟩:=A.mp_inv;have⟨l,es,cl,C,h,p,q⟩:=(t.get y j).mp k d;rw[z]at h;simp at h;obtain⟨rfl,rfl⟩:=h;exact⟨g,es,cl,rfl,j,d,p,q,l,rfl⟩
def ai0 {t y C:TypeId}{ok:Bool}(F:o.op= .lookup t x i ok)(H:P.underlying t=O (.map y C))(n:P.underlying y=O .string)(L:WT P C=O kd)(K:db x=Za)(J:db i=Za)(d:(AOp.lookM kd ok x i).run e σ=O (v,σ'))(E:dk μ N e a.tmps)(m:R B μ σ w):jK P o a w B μ v σ':=by
 have D:=E.ev K;have h:=E.ev J;simp only[AOp.run]at d;split at d
 .rename_i b key hb hkey;rw[Cp hb]at D;rw[hkey]at h;have h:=h.string_inv;split at d
  .rename_i blk hblk;split at d
   .rename_i s r hc;cases d;have⟨g,es,S,z,_,_,A,I,_,_⟩:=Wk m D hblk hc;have⟨l,M,Q⟩:=I.all;have j:(Instr.checkKey es.isEmpty 10000 y<|.string key).run P w= .ok () w:=MapKept.run_checkKey (k:= .string key) n (by simp[MapKept.IsKey]) _ 9999;unfold Wf Bb;rw[Q,Uq];rcases Lv (kd:=kd) key es.toList l 0 M with⟨q,u⟩|⟨U,p,q,u,_,_,_⟩
    .rw[q];refine .same m (v':=if ok then .tuple #[.int kd 0, .bool Zb]else .int kd 0) ?_ ?_
     .simp[execOp,F,z,h,Instr.lookup,dz H,MapKept.run_getObj_map A,j,MapKept.run_findKey n u,Vi L,cB]
     cases ok
     .exact .int _ _
     exact .tuple (.cons (.int _ _)<|.cons (.bool _) .nil)
    rw[q];refine .same m (v':=if ok then .tuple #[.int kd p.2, .bool Za]else .int kd p.2) ?_ ?_
    .simp[execOp,F,z,h,Instr.lookup,dz H,MapKept.run_getObj_map A,j,MapKept.run_findKey n u,cB]
    cases ok
    .exact .int _ _
    exact .tuple (.cons (.int _ _)<|.cons (.bool _) .nil)
   cases d
  cases d
 cases d
def Y7 {x:Zd}{l:List<|ByteArray×Int}{key:ByteArray}{n:Int}(h:gZ x=l.map λp=>(au p.1,p.2)): ∀p∈lC (au key) n (gZ x),∀y∈p.1,0<=y/\y<256:=by
 rw[h,IG];intro p b;obtain⟨q,_,rfl⟩:=aE.1 b;exact GR q.1
def CN.put {cl:Nat}{key:ByteArray}{n:Int}{l:List<|ByteArray×Int}(d:ve es'.toList cl)(b:gZ (au s)=l.map λp=>(au p.1,p.2))
  (h:es'.toList.map (λe=>(e.key,e.val))=List.map (λp:ByteArray×Int=>(Value.string p.1,Value.int kd p.2)) (match l.findIdx? (λp=>Zc<|p.1=key)with
  |some i=>l.modify i λp=>(p.1,n)
  |none=>l++[(key,n)])):CN kd es' cl<|xo<|yz (au s) (au key) n:=by
 refine⟨d,_,h, ?_⟩;unfold yz;rw[zq _<|L0 _<|Y7 b,b,IG]
def aC3 {t kt et:TypeId}{u:Operand}(ho:o.op= .mapUpdate t x i u)(hu:P.underlying t=O (.map kt et))(hk:P.underlying kt=O .string)(hx:db x=Za)(hi:db i=Za)(hv:db u=Za)(d:(AOp.updM kd x i u).run e σ=O (v,σ'))(W:dk μ N e a.tmps)(V:R B μ σ w):jK P o a w B μ v σ':=by
 have h1:=W.ev hx;have F:=W.ev hi;have H:=W.ev hv;simp only[AOp.run]at d;split at d
 .rename_i b key D n hb m hn;rw[Cp hb]at h1;rw[m]at F;rw[hn]at H;have F:=F.string_inv;have H:=H.int_inv;split at d
  .rename_i hkk;subst hkk;split at d
   .rename_i blk hblk;split at d
    .rename_i hown;split at d
     .rename_i s r hc;cases d;obtain⟨g,es,E,e1,hg,K,M,U,e4,rfl⟩:=Wk V h1 hblk hc;have⟨l,S,l2⟩:=U.all;have I:(Instr.checkKey Zb 10000 kt<|.string key).run P w= .ok () w:=MapKept.run_checkKey (k:= .string key) hk (by simp[MapKept.IsKey]) _ 9999;rcases Lv (kd:=D) key es.toList l 0 S with⟨k1,Q⟩|⟨y,p,k1,Q,A,k4,k5⟩
      .have Y:l.findIdx? (λp=>Zc<|p.1=key)=Z:=by
        rw[List.findIdx?_eq_none_iff];intro q hq;have:=List.find?_eq_none.1 k1 q hq;simpa using this
       have hm:CN D (es.push {key:= .string key,val:= .int D n,born:=E}) (E+1)<|xo<|yz (au s) (au key) n:=CN.put (by rw[Array.toList_push];exact U.1.push _ rfl) l2 (by
        rw[Y]
        simp[S])
       refine⟨.skip,_,μ,undef, ?_, .inr ⟨rfl,rfl⟩,μ.le_refl,V.setM hblk hown hg K (E+1) hm,VR.undef μ, ?_⟩
       .simp[execOp,ho,e1,F,H,Instr.mapUpdate,dz hu,MapKept.run_getObj_map M,I,MapKept.run_findKey hk Q,MapKept.run_setObj_map _ M,cB];rfl
       exact⟨rfl,rfl,rfl,by rw[pS];exact bB _,λq hq=>nc _ _ _ _ V1⟩
      have Y:l.findIdx? (λp=>Zc<|p.1=key)=O y:=by
       have L:y<b8 l:=by
        rcases Nat.lt_or_ge y (b8 l) with h|h
        .exact h
        rw[List.getElem?_eq_none h]at A;cases A
       rw[List.findIdx?_eq_some_iff_getElem];refine⟨L, ?_,λj C=> ?_⟩
       .rw[cV L]at A;injection A with A
        rw[A];simpa using k4
       have:=k5 j C _<|cV V1;simpa using this
      have m:(es[y]?).map (·.key)=O (.string key):=by
       have:=congrArg (λz=>(z[y]?).map Prod.fst) S;simp only[cD,A,Option.map_map,cZ]at this;rw[Array.getElem?_toList]at this;rw[<-k4];simpa[Function.comp]using this
      have hm:CN D (es.modify y λe=>{e with key:= .string key,val:= .int D n}) E<|xo<|yz (au s) (au key) n:=CN.put (by rw[Array.toList_modify];exact U.1.same (I7 (α:=MapEntry) (·.born) (λe=>{e with key:= .string key,val:= .int D n}) (λ_=>rfl) _ _)) l2 (by
       rw[Y];simp only;rw[Array.toList_modify];apply List.ext_getElem?;intro j;have C:=congrArg (λz=>z[j]?) S;simp only[cD]at C;simp only[cD,List.getElem?_modify];by_cases J:y=j
       .subst J;rw[A]at C⊢;cases X:es.toList[y]? with
        |none=>rw[X]at C;cases C
        |some e0=>
         simp only[cZ,if_true,Option.map_eq_map,aZ];rw[k4]
       simp only[zF J]
       simpa using C)
      refine⟨.skip,_,μ,undef, ?_, .inr ⟨rfl,rfl⟩,μ.le_refl,V.setM hblk hown hg K E hm,VR.undef μ, ?_⟩
      .have hst:(Instr.keyThatStays (((es[y]?).map (·.key)).getD<|.string key)<|.string key).run P w= .ok (.string key) w:=by
        rw[m,Option.getD_some];unfold Instr.keyThatStays;rw[zE (show Instr.sameBits 10000 (.string key) (.string key)=Za from(MapKept.bytes_beq key key).2 rfl)];rfl
       rw[Nat.zero_add]at Q;simp[execOp,ho,e1,F,H,Instr.mapUpdate,dz hu,MapKept.run_getObj_map M,I,MapKept.run_findKey hk Q,MapKept.run_setObj_map _ M,hst,cB];rfl
      exact⟨rfl,rfl,rfl,by rw[pS];exact bB _,λq hq=>nc _ _ _ _ V1⟩
     cases d
    cases d
   cases d
  cases d
 cases d
end
end
section
open Bool renaming and_eq_true->bD
open List renaming getElem?_cons_succ->aB,mem_of_getElem?->aD,take_left->cB,append_assoc->cV,drop_left->cW,length_append->cX,getElem?_cons_zero->cY
open Nat renaming le_refl->bB
open Option renaming bind_eq_bind->cZ,pure_def->dA
open Result renaming andThen->cD
open Go.RowKit
section
variable {P:Program}
theorem Wc {D:Nat}: ∀(h:List Field) (ks:List IntKind) (o e:Nat) (cs:List Value),P.runs o h=O e->(∀f∈h,P.cellsOf f.type=1)->h.mapM (λf=>VY P f.type)=O ks->Dj ks (cs.drop o)=Za->
  ∃ls,(h.mapM λf=>P.keyLits (D+1) f.type<|(cs.drop f.offset).take<|P.cellsOf f.type)=O ls
 |[],ks,o,e,cs,_,_,_,_=>⟨[],rfl⟩
 |f::h,ks,o,e,cs,l,A,d,j=>by
  simp only[Program.runs]at l;split at l
  .rename_i ho;have C:=A f (by simp);rw[C]at l;simp only[List.mapM_cons,dA,cZ]at d⊢;obtain⟨k,b,d⟩:=aM.1 d;obtain⟨z,p,d⟩:=aM.1 d;injection d with d
   subst d;cases m:cs.drop o with
   |nil=>rw[m]at j;cases j
   |cons c r=>
    rw[m]at j;cases c with
    |int K n=>
     simp only[Dj,bD,decide_eq_true_eq]at j;obtain⟨rfl,E,F,H⟩:=j;have y:cs.drop (o+1)=r:=by rw[<-List.drop_drop,m];rfl
     obtain⟨ls,u⟩:=Wc h z (o+1) e cs l (λg I=>A g (by simp[I])) p (by rw[y];exact H)
     have t:P.keyLits (D+1) f.type ((cs.drop f.offset).take<|P.cellsOf f.type)=O [.int K n]:=by
      rw[ho,m,C];unfold VY at b;split at b
      .rename_i q hq;injection b with b
       subst b;unfold Program.keyLits;rw[hq]
       have J:(Lit.int q n).wf=Za:=by
        show(Zc (q.min<=n)&&Zc (n<=q.max))=Za;rw[zB E,zB F];rfl
       simp[J]
      .cases b
     rw[t,u];exact⟨_,rfl⟩
    |_=>cases j
  .cases l
def Ir : ∀(b:List Field) (ks:List IntKind),b.mapM (λf=>VY P f.type)=O ks->b8 ks=b8 b
 |[],ks,h=>by cases h;rfl
 |f::b,ks,h=>by
  simp only[List.mapM_cons,dA,cZ]at h;obtain⟨k,_,h⟩:=aM.1 h;obtain⟨d,j,h⟩:=aM.1 h;cases h;simp[Ir b d j]
def Cm {d:TypeId}(h:vP P d=O ks):WideMaps.KeyLaw P d/\0<b8 ks/\∀cs:Array Value,Dj ks cs.toList=Za->∃l,keyOf P d (.agg cs)=O l:=by
 unfold vP at h;split at h
 .rename_i fs hu;split at h
  .rename_i hc;have⟨j,A,q,C,J,E,F⟩:=hc;have k: ∀f∈fs.toList,P.cellsOf f.type=1:=λf r=>by simpa using aG.1 F f r
   refine⟨deep_law (m:=2) V1 A q (by rw[hu]),by rw[Ir _ _ h];exact E,λcs y=> ?_⟩
   have H:P.runs 0 fs.toList=O (P.cellsOf d):=by
    unfold Program.tiled at q;rw[hu]at q;simp only[bD,beq_iff_eq]at q;exact q.1
   obtain⟨m,z⟩: ∃m,P.types.size=m+1:=⟨P.types.size-1,V1⟩
   have⟨I,t⟩:=Wc (D:=m) fs.toList ks 0 _ cs.toList H k h (by rw[List.drop_zero];exact y);have b:b8 cs.toList=P.cellsOf d:=by rw[A8 y,Ir _ _ h,C]
   have u:fs.all (·.name != "_")=Za:=by
    unfold Program.keyType at j;rw[z]at j;unfold Program.keyTypeAt at j;rw[hu]at j;simp only[bD,Array.all_eq_true_iff_forall_mem]at j;rw[Array.all_eq_true_iff_forall_mem];exact λf r=>(j.1.1 f r).1
   unfold keyOf;rw[hu];simp only
   have n:Value.formed P d (.agg cs)=Za:=by
    unfold Value.formed;rw[hu];simpa using b
   rw[j,n];simp only[Bool.and_self,if_true]
   have p:P.keyLits (P.types.size+1) d (Value.agg cs).cells.toList=O I.flatten:=by
    rw[z];unfold Program.keyLits;rw[hu];show(if b8 cs.toList=P.cellsOf d/\fs.all (·.name != "_")=Za then _ else Z)=_;rw[zE ⟨b,u⟩];exact congrArg (Option.map List.flatten) t
   rw[p];exact⟨_,rfl⟩
  cases h
 cases h
end
section
variable {P:Program} {o:Oper} {a:Act} {w w':World} {B:Base P} {N:Nat} {μ:Mu} {e:bj} {σ σ':Hp} {v:Value}
def R.newG (h:R B μ σ w)(ks:List IntKind)(vn:Nat):R B (μ.add σ.n ⟨w.heap.size,0,0,1,0,O<|.tuple (LX ks vn).toArray⟩) (σ.add ⟨[.agg #[]],Za,1⟩) (w.alloc<|.map #[] 0)/\μ.le (μ.add σ.n ⟨w.heap.size,0,0,1,0,O<|.tuple (LX ks vn).toArray⟩):=by
 have Y:μ σ.n=Z:=h.fresh _<|bB _;have u:μ.le<|μ.add σ.n ⟨w.heap.size,0,0,1,0,O<|.tuple (LX ks vn).toArray⟩:=Mu.le_add Y
 have old: ∀b x,b≠σ.n->(σ.add ⟨[.agg #[]],Za,1⟩).m b=O x->σ.m b=O x:=by
  intro b x l d;simpa[Hp.add,l]using d
 have M: ∀x,(σ.add ⟨[.agg #[]],Za,1⟩).m σ.n=O x->x=⟨[.agg #[]],Za,1⟩:=by
  intro x d;simp[Hp.add]at d;exact d.symm
 have j: ∀b x g,σ.m b=O x->μ b=O g->g.c<w.heap.size:=λb x g d t=>(h.get d t).lt
 have H:(w.alloc<|.map #[] 0).heap.size=w.heap.size+1:=by simp
 refine⟨⟨by rw[H];exact Nat.le_succ_of_le h.base,λk F=>(Below.heap_alloc w _ _<|Nat.lt_of_lt_of_le F h.base).trans<|h.old k F,λb l=> ?_,λb x d=> ?_,λb I x S g J d z K ho t A=> ?_, ?_,h.dfr_alloc _,h.mit_alloc _⟩,u⟩
 .have:σ.n+1<=b:=l;unfold Mu.add;rw[Zh];exact h.fresh b V1
 .by_cases l:b=σ.n
  .subst l;obtain rfl:=M x d
   exact⟨⟨w.heap.size,0,0,1,0,O<|.tuple (LX ks vn).toArray⟩,Z0,⟨by rw[H];exact Nat.lt_succ_self _,rfl,λD=>ZR,λD=>ZR,λs' y=>(by injection y with y;cases y),λy=>(by injection y with y;cases y),λk' F=>(by injection F with F;cases F),λks' vn' F=>⟨h.base, #[],0,heap_alloc_new w _,λU r e=>(by
    injection e with e _
    cases e
    exact .nil)⟩,λy=>by injection y with y;cases y⟩⟩
  have z:=old b x l d;have⟨g,E,C⟩:=h.live b x z;exact⟨g,u _ _ E,(C.mono u).kept (by rw[H];exact Nat.le_succ _) (Below.heap_alloc w _ _ C.lt)<|λQ q hq=>Below.heap_alloc w _ _ (h.buf z E Q hq).2.1⟩
 .by_cases l:b=σ.n
  .subst l;have p:I≠σ.n:=λe=>K e.symm
   have:g.c=w.heap.size:=by simp[Mu.add]at t;rw[<-t]
   have C:μ I=O J:=by simpa[Mu.add,p]using A
   have:=j I S J (old _ _ p z) C;omega
  have E:μ b=O g:=by simpa[Mu.add,l]using t
  have L:=old b x l d;by_cases p:I=σ.n
  .subst p;have:J.c=w.heap.size:=by simp[Mu.add]at A;rw[<-A]
   have:=j b x g L E;omega
  have C:μ I=O J:=by simpa[Mu.add,p]using A
  exact h.inj b I x S g J L (old _ _ p z) K ho E C
 refine h.sep.of (λb x g d t=> ?_) (λb x g d t Q _=> ?_)
 .by_cases l:b=σ.n
  .subst l;have V:g=⟨w.heap.size,0,0,1,0,O<|.tuple (LX ks vn).toArray⟩:=by simp[Mu.add]at t;exact t.symm
   subst V;exact .inr ⟨λD=>(by injection D with D;cases D),λb1 x1 g1 q E C W X e=>by have:=(h.buf E C W X).2.1;simp only at e;omega⟩
  exact .inl ⟨x,old b x l d,by simpa[Mu.add,l]using t⟩
 unfold jW;rw[show(w.alloc<|.map #[] 0).heap[g.c]?=w.heap[g.c]? from Below.heap_alloc w _ _<|j b x g d t]
def R.setG (h:R B μ σ w){b:Nat}{x:Blk}{vn:Nat}(Q:σ.m b=O x)(V:x.own=Za)(L:μ b=O g)(u:g.it=O (.tuple (LX ks vn).toArray)){q:Array Value}{S:List Value}(E:Nat)(hm:EntG μ ks vn q.toList es'.toList):
  R B μ (σ.set b<|O ⟨.agg q::S,Za,x.es⟩) (tI w g.c<|.map es' E):=by
 have hl:=h.get Q L;have⟨o1,es,cl,o4,o5⟩:=hl.mg ks vn u;have l: ∀k,k≠g.c->(tI w g.c<|.map es' E).heap[k]?=w.heap[k]?:=λk t=>nc w _ k _ t
 have I:(tI w g.c<|.map es' E).heap.size=w.heap.size:=pS w _ _
 have old: ∀p n,p≠b->(σ.set b<|O ⟨.agg q::S,Za,x.es⟩).m p=O n->σ.m p=O n:=by
  intro p n D j;simpa[Hp.set,D]using j
 have X: ∀n,(σ.set b<|O ⟨.agg q::S,Za,x.es⟩).m b=O n->n=⟨.agg q::S,Za,x.es⟩:=by
  intro n j;simp[Hp.set]at j;exact j.symm
 refine⟨by rw[I];exact h.base,λk t=>(l k V1).trans<|h.old k t,h.fresh,λp n j=> ?_,λb1 b2 x1 x2 g1 g2 K h2 H W hg1 hg2=> ?_, ?_,h.dfr_but (c:=g.c) (λd=>by rw[o4];simp) (λk t _=>l k t),h.mit_but (c:=g.c) (λo V e=>by rw[o4]at e;cases e;cases V) λk t _=>l k t⟩
 .by_cases D:p=b
  .subst D;obtain rfl:=X n j
   exact⟨g,L,⟨by rw[I];exact hl.lt,hl.es,λU=>(by rw[u]at U;cases U),λU=>(by rw[u]at U;cases U),λs2 A=>ZY,λA=>ZY,λk' t=>(by rw[u]at t;injection t with t;cases t),λks' vn' t=>(by
    rw[u]at t;injection t with t
    injection t with t
    obtain⟨rfl,rfl⟩:=Wm (congrArg Array.toList t)
    exact⟨o1,es',E,F7 w _ _ _ o4,λarr r e=>by
     injection e with e _
     cases e
     exact hm⟩),λA=>by rw[u]at A;injection A with A;cases A⟩⟩
  .have F:=old p n D j;have⟨J,K,h2⟩:=h.live p n F;exact⟨J,K,h.stays F K (by rw[I];exact bB _) g.c (λk t _=>l k t) (λe=>h.inj b p x n g J Q F (λe=>D e.symm) V L K e.symm)<|λM t=>((h.sep p n J F K M _ t b x g Q L).1 rfl)⟩
 .have C: ∀p n,(σ.set b<|O ⟨.agg q::S,Za,x.es⟩).m p=O n->∃y,σ.m p=O y/\y.own=n.own:=by
   intro p n j;by_cases D:p=b
   .subst D;obtain rfl:=X n j;exact⟨x,Q,V⟩
   .exact⟨n,old p n D j,rfl⟩
  have⟨y1,hy1,e1⟩:=C _ _ K;have⟨y2,hy2,_⟩:=C _ _ h2;exact h.inj b1 b2 y1 y2 g1 g2 hy1 hy2 H (e1.trans W) hg1 hg2
 .have Y: ∀p n,(σ.set b<|O ⟨.agg q::S,Za,x.es⟩).m p=O n->∃y,σ.m p=O y:=by
   intro p n j;by_cases D:p=b
   .subst D;exact⟨x,Q⟩
   .exact⟨n,old p n D j⟩
  refine h.sep.of (λp n J j z=> .inl (let⟨y,hy⟩:=Y p n j;⟨y,hy,z⟩))<|λp n J j z M _=> ?_;have H:p≠b:=λe=>by subst e;rw[L]at z;cases z;rw[u]at M;injection M with M;cases M
  unfold jW;rw[l _<|λe=>h.inj b p x n g J Q j (λe=>H e.symm) V L z e.symm]
def ai1 {t:TypeId}{vn:Nat}(h:o.op= .makeMap t Z)(d:(AOp.makeG ks vn).run e σ=O (v,σ'))(b:R B μ σ w):jK P o a w B μ v σ':=by
 simp only[AOp.run,aZ,b7]at d;obtain⟨rfl,rfl⟩:=d;have⟨j,k⟩:=b.newG ks vn;refine⟨_,_,_, .map<|O w.heap.size, ?_, .inl rfl,k,j, ?_,(Below.refl _ _).alloc b.base _⟩
 .simp[execOp,h,Instr.makeMap]
 exact .mg (g:=⟨w.heap.size,0,0,1,0,O<|.tuple (LX ks vn).toArray⟩) Z0 rfl
def ab7 {vn:Nat}{kc:List Value}(h0:0<b8 ks)(H:Dj ks kc=Za){l:List Value}(h:EntG μ ks vn l es): ∀(n:Nat),b8 es<=n->
  (wN (b8 ks) vn kc n l=Z/\∀e∈es,e.key≠ .agg kc.toArray)∨∃(j:Nat) (x:MapEntry) (vc:List Value) (u:Array Value),wN (b8 ks) vn kc n l=O vc/\b8 vc=vn/\es[j]?=O x/\x.key= .agg kc.toArray/\x.val= .agg u/\F2 (VR μ) vc u.toList/\∀i y,es[i]?=O y->y.key= .agg kc.toArray->i=j:=by
 induction h with
 |nil=>intro n _;exact .inl ⟨by cases n<;>rfl,λe he=>by cases he⟩
 | @cons d vc l u b es Q z S U _ X=>
  intro n I;cases n with
  |zero=>simp at I
  |succ n=>
   have q:=A8 Q;have W:=A8 H
   obtain⟨x,r,J⟩: ∃x r,d++vc++l=x::r:=by
    cases d with
    |nil=>simp at q;omega
    |cons x r=>exact⟨x,_,rfl⟩
   have K:(d++vc++l).take (b8 ks)=d:=by rw[cV,<-q,cB]
   have L:((d++vc++l).drop<|b8 ks).take vn=vc:=by rw[cV,<-q,cW,<-z,cB]
   have M:(d++vc++l).drop (b8 ks+vn)=l:=by rw[<-q,<-z,<-cX,cW]
   have V:wN (b8 ks) vn kc (n+1) (d++vc++l)=if oC kc d then O vc else wN (b8 ks) vn kc n l:=by
    rw[J];simp only[wN];rw[<-J,K,L,M]
   rw[V];by_cases t:oC kc d=Za
   .have:=Hy t;subst this;rw[zE t];refine .inr ⟨0,_,vc,u,rfl,z,rfl,rfl,rfl,S,λi y k m=> ?_⟩;cases i with
    |zero=>rfl
    |succ i=>
     rw[aB]at k;exact(U y (aD k) m).elim
   .rw[zF t];have A:d≠kc:=λe=>t (by rw[e];exact Ip H)
    have p:Value.agg d.toArray≠Value.agg kc.toArray:=λe=>A ZE
    rcases X n (by simp at I;omega)with⟨C,D⟩|⟨j,x,F,E,C,D,Y,k4,k5,k6,k7⟩
    .refine .inl ⟨C,λe he=> ?_⟩;rcases aA.1 he with rfl|he
     .exact p
     .exact D e he
    .refine .inr ⟨j+1,x,F,E,C,D,by rw[aB];exact Y,k4,k5,k6,λi y k m=> ?_⟩;cases i with
     |zero=>
      rw[cY]at k;cases k;exact(p m).elim
     |succ i=>
      rw[aB]at k;rw[k7 i y k m]
def VD {vn:Nat}(d:0<b8 ks){l:List Value}(h:EntG μ ks vn l es):b8 es<=b8 l:=by
 induction h with
 |nil=>exact bB _
 |cons b _ _ _ _ j=>simp[A8 b];omega
def Lr {b:TypeId}{vn:Nat}(j:vP P b=O ks){l:List Value}(h:EntG μ ks vn l es): ∀e∈es,∃l,keyOf P b e.key=O l:=by
 induction h with
 |nil=>intro e he;cases he
 |cons d _ _ _ _ k=>
  intro e he;rcases aA.1 he with rfl|he
  .exact(Cm j).2.2 _ V7
  exact k e he
def Sm {vn b:Nat}{blk:Blk}{arr:Array Value}{r:List Value}{u:Value}(p:R B μ σ w)(y:VR μ (TA ks vn b) u)(q:σ.m b=O blk)(t:blk.cells= .agg arr::r): ∃g es cl,u= .map (O g.c)/\μ b=O g/\g.it=O (.tuple (LX ks vn).toArray)/\w.heap[g.c]?=O (.map es cl)/\EntG μ ks vn arr.toList es.toList/\B.n<=g.c:=by
 obtain⟨g,h,d,rfl⟩:=y.mg_inv;have⟨j,es,cl,k,l⟩:=(p.get q h).mg ks vn d;exact⟨g,es,cl,rfl,h,d,k,l arr r t,j⟩
def VR.agg_key {kc:Array Value}{u:Value}(h:VR μ (.agg kc) u)(b:Dj ks kc.toList=Za):u= .agg kc:=by
 cases h with
 |agg h=>
  have d: ∀{ks:List IntKind} {l m:List Value},Dj ks l=Za->F2 (VR μ) l m->m=l:=by
   intro ks;induction ks with
   |nil=>intro l m b h;cases l with
    |nil=>cases h;rfl
    |cons x r=>cases b
   |cons k ks j=>
    intro l m b h;cases l with
    |nil=>cases b
    |cons x r=>
     cases x with
     |int p n=>
      simp only[Dj,bD]at b;cases h with
      |cons a t=>
       cases a;rw[j b.2.2.2 t]
     |_=>cases b
  have:=d b h;rw[Array.toList_inj.1 this]
def ah9 {t A M:TypeId}{m:List Value}{ok:Bool}(U:o.op= .lookup t x i ok)(V:P.underlying t=O (.map A M))(D:vP P A=O ks)(hz:O3 P M=O m)(hx:db x=Za)(Y:db i=Za)(d:(AOp.lookG ks m ok x i).run e σ=O (v,σ'))(S:dk μ N e a.tmps)(E:R B μ σ w):jK P o a w B μ v σ':=by
 have Q:=S.ev hx;have p:=S.ev Y;simp only[AOp.run]at d;split at d
 .rename_i b kc hb hkey;rw[Oi hb]at Q;rw[hkey]at p;split at d
  .rename_i hkb;have p:=p.agg_key hkb;split at d
   .rename_i blk hblk;split at d
    .rename_i es0 r hc;cases d;have⟨g,es,cl,J,_,_,L,z,_⟩:=Sm E Q hblk hc;have⟨K,W,kk⟩:=Cm D;have⟨lk,l⟩:=kk kc hkb;have q:=K.check w es.isEmpty l;have⟨z1,z2⟩:=Vh hz;unfold P3;have hl:b8 es.toList<=b8 es0.toList:=VD W z;rcases ab7 W hkb z (b8 es0.toList) hl with⟨H,k2⟩|⟨j,y,vc,I,H,_,X,k4,k5,k6,k7⟩
     .rw[H]
      have h:(Instr.findKey A (.agg kc) es.toList).run P w= .ok Z w:=by
       rcases K.find w l es.toList (Lr D z)with⟨n,_⟩|⟨j,y,n,k,C⟩
       .exact n
       exact(k2 y (aD k) (by rw[C])).elim
      refine .same E (v':=if ok then .tuple #[.agg m.toArray, .bool Zb]else .agg m.toArray) ?_ ?_
      .simp[execOp,U,J,p,Instr.lookup,dz V,MapKept.run_getObj_map L,q,h,z1,cD]
      have u:VR μ (.agg ((Z:Option<|List Value).getD m).toArray)<|.agg m.toArray:= .agg (by simpa using VR.plainCells z2);cases ok
      .exact u
      exact .tuple (.cons u<|.cons (.bool _) .nil)
     rw[H]
     have h:(Instr.findKey A (.agg kc) es.toList).run P w= .ok (O (j,y.val)) w:=by
      rcases K.find w l es.toList (Lr D z)with⟨_,n⟩|⟨i,y',n,k,C⟩
      .exact(n y (aD X) (by rw[k4])).elim
      have F:=k7 i y' k (by rw[C]);subst F;rw[X]at k;cases k;exact n
     rw[k5]at h;refine .same E (v':=if ok then .tuple #[.agg I, .bool Za]else .agg I) ?_ ?_
     .simp[execOp,U,J,p,Instr.lookup,dz V,MapKept.run_getObj_map L,q,h,cD]
     have u:VR μ (.agg ((O vc).getD m).toArray)<|.agg I:= .agg (by simpa using k6);cases ok
     .exact u
     exact .tuple (.cons u<|.cons (.bool _) .nil)
    cases d
   cases d
  cases d
 cases d
def aw1 {vn:Nat}{kc vc:List Value}{D:Array Value}(h0:0<b8 ks)(L:Dj ks kc=Za)(Q:b8 vc=vn)(C:F2 (VR μ) vc D.toList){l:List Value}(h:EntG μ ks vn l es): ∀(n:Nat),b8 es<=n->
  ((∀e∈es,e.key≠ .agg kc.toArray)->∀b,EntG μ ks vn (Ho (b8 ks) vn kc vc n l)<|es++[⟨.agg kc.toArray, .agg D,b⟩])/\∀(j:Nat) (x:MapEntry),es[j]?=O x->x.key= .agg kc.toArray->EntG μ ks vn (Ho (b8 ks) vn kc vc n l) (es.modify j λe=>{e with key:= .agg kc.toArray,val:= .agg D}):=by
 have one: ∀b,EntG μ ks vn (kc++vc) [⟨.agg kc.toArray, .agg D,b⟩]:=λb=>by
  have:=EntG.cons (n:=b) L Q C (λe he=>by cases he) (EntG.nil (μ:=μ) (ks:=ks) (vn:=vn))
  rwa [List.append_nil]at this
 induction h with
 |nil=>intro n _;exact⟨λ_ b=>by cases n<;>exact one b,λj x p _=>by simp at p⟩
 | @cons d k l va' b es E F K H ht ih=>
  intro n M;cases n with
  |zero=>simp at M
  |succ n=>
   have I:=A8 E
   obtain⟨x,r,p⟩: ∃x r,d++k++l=x::r:=by
    cases d with
    |nil=>simp at I;omega
    |cons x r=>exact⟨x,_,rfl⟩
   have U:(d++k++l).take (b8 ks)=d:=by rw[cV,<-I,cB]
   have V:(d++k++l).drop (b8 ks+vn)=l:=by rw[<-I,<-F,<-cX,cW]
   have W:(d++k++l).take (b8 ks+vn)=d++k:=by rw[<-I,<-F,<-cX,cB]
   have X:Ho (b8 ks) vn kc vc (n+1) (d++k++l)=if oC kc d then kc++vc++l else d++k++Ho (b8 ks) vn kc vc n l:=by
    rw[p];simp only[Ho];rw[<-p,U,V,W]
   rw[X];by_cases J:oC kc d=Za
   .have:=Hy J;subst this;rw[zE J];refine⟨λA=>(A _ (List.mem_cons_self ..) rfl).elim,λj x p u=> ?_⟩;cases j with
    |zero=>exact .cons E Q C H ht
    |succ j=>
     rw[aB]at p;exact(H x (aD p) u).elim
   .rw[zF J];have A:d≠kc:=λe=>J (by rw[e];exact Ip L)
    have q:Value.agg d.toArray≠Value.agg kc.toArray:=λe=>A ZE
    have⟨i1,i2⟩:=ih n (by simp at M;omega);refine⟨λY S=> ?_,λj x p u=> ?_⟩
    .refine .cons E F K (λe he=> ?_) (i1 (λe he=>Y e<|List.mem_cons_of_mem _ he) S);rcases aF.1 he with he|he
     .exact H e he
     .rw[aI.1 he];exact λe=>q e.symm
    .cases j with
     |zero=>
      rw[cY]at p;cases p;exact(q u).elim
     |succ j=>
      rw[aB]at p;rw[List.modify_succ_cons];refine .cons E F K (λe he=> ?_)<|i2 j x p u;have⟨m,t⟩:=List.getElem?_of_mem he;rw[List.getElem?_modify]at t;cases z:es[m]? with
      |none=>rw[z]at t;cases t
      |some y=>
       rw[z]at t;have t:O (if j=m then {y with key:=Value.agg kc.toArray,val:=Value.agg D}else y)=O e:=t;cases t;split
       .exact λe=>q e.symm
       .exact H _ (aD z)
def aC2 {t kt et:TypeId}{vn:Nat}{u:Operand}(ho:o.op= .mapUpdate t x i u)(hu:P.underlying t=O (.map kt et))(hK:vP P kt=O ks)(hx:db x=Za)(hi:db i=Za)(hv:db u=Za)(d:(AOp.updG ks vn x i u).run e σ=O (v,σ'))(E:dk μ N e a.tmps)(S:R B μ σ w):jK P o a w B μ v σ':=by
 have h1:=E.ev hx;have C:=E.ev hi;have A:=E.ev hv;simp only[AOp.run]at d;split at d
 .rename_i b p vc hb k hn;rw[Oi hb]at h1;rw[k]at C;rw[hn]at A;split at d
  .rename_i hc0;have⟨l,W,_⟩:=hc0;have C:=C.agg_key l
   obtain⟨H,A,V⟩: ∃H,a.eval u= .agg H/\F2 (VR μ) vc.toList H.toList:=by
    generalize a.eval u=z at A;cases A with
    |agg h=>exact⟨_,rfl,h⟩
   split at d
   .rename_i blk hblk;split at d
    .rename_i hown;split at d
     .rename_i es0 r hc;cases d;have⟨g,es,I,X,hg,F,J,M,e4⟩:=Sm S h1 hblk hc;have⟨K,k0,kk⟩:=Cm hK;have⟨lk,m⟩:=kk p l;have D:=K.check w Zb m;have hl:b8 es.toList<=b8 es0.toList:=VD k0 M;have⟨p1,p2⟩:=aw1 k0 l W V M (b8 es0.toList) hl;rcases K.find w m es.toList (Lr hK M)with⟨Q,L⟩|⟨j,y,Q,L,Y⟩
      .have U:=p1 (λe E=>L e E) I;refine⟨.skip,_,μ,undef, ?_, .inr ⟨rfl,rfl⟩,μ.le_refl,S.setG hblk hown hg F (I+1) (es':=es.push {key:= .agg p,val:= .agg H,born:=I}) (by simpa using U),VR.undef μ, ?_⟩
       .simp[execOp,ho,X,C,A,Instr.mapUpdate,dz hu,MapKept.run_getObj_map J,D,Q,MapKept.run_setObj_map _ J,cD];rfl
       exact⟨rfl,rfl,rfl,by rw[pS];exact bB _,λq hq=>nc _ _ _ _ V1⟩
      have U:=p2 j y L (by rw[Y])
      have k:(es[j]?).map (·.key)=O (.agg p):=by
       rw[<-Array.getElem?_toList,L,Option.map_some,Y]
      have n:=K.stays w m;refine⟨.skip,_,μ,undef, ?_, .inr ⟨rfl,rfl⟩,μ.le_refl,S.setG hblk hown hg F I (es':=es.modify j λe=>{e with key:= .agg p,val:= .agg H}) (by rw[Array.toList_modify];simpa using U),VR.undef μ, ?_⟩
      .have n:(Instr.keyThatStays (((es[j]?).map (·.key)).getD<|.agg p)<|.agg p).run P w= .ok (.agg p) w:=by
        rw[k];exact n
       simp[execOp,ho,X,C,A,Instr.mapUpdate,dz hu,MapKept.run_getObj_map J,D,Q,MapKept.run_setObj_map _ J,n,cD];rfl
      exact⟨rfl,rfl,rfl,by rw[pS];exact bB _,λq hq=>nc _ _ _ _ V1⟩
     cases d
    cases d
   cases d
  cases d
 cases d
end
end
section
open Go.RowKit
section
variable {P:Program} {o:Oper} {a:Act} {w:World} {B:Base P} {N:Nat} {μ:Mu} {e:bj} {σ σ':Hp} {v:Value}
theorem EW {x y:Option Operand}(h:aC5 x=O y):x=y/\∀u,y=O u->db u=Za:=by
 unfold aC5 at h;split at h
 .rename_i x;obtain⟨z,b,h⟩:=aC.1 h;obtain⟨rfl,d⟩:=az b
  grind
 grind
def AOp.isCall :AOp->Bool
 | .call _ _| .callv _ _| .rangeF _ _ _=>Za
 |_=>Zb
def ap9 {op:BinOp}{t n:TypeId}{y:Operand}(l:o.op= .binOp op t x y n)(h:OZ P op t x y=O ao)(m:ao.run e σ=O (v,σ'))(k:dk μ N e a.tmps)(j:R B μ σ w):jK P o a w B μ v σ':=by
 unfold OZ at h;split at h
 .split at h
  .rename_i h1 h2;obtain⟨rfl,b⟩:=az h1;obtain⟨rfl,d⟩:=az h2;cases h;exact ah5 l b d m k j
  cases h
 .split at h
  .rename_i h1 h2;obtain⟨rfl,b⟩:=az h1;obtain⟨rfl,d⟩:=az h2;cases h;exact ah5 l b d m k j
  cases h
 .split at h
  .rename_i hf h1 h2;obtain⟨rfl,b⟩:=az h1;obtain⟨rfl,d⟩:=az h2;cases h;exact Cs l rfl hf b d m k j
  .rename_i hf h1 h2;obtain⟨rfl,b⟩:=az h1;obtain⟨rfl,d⟩:=az h2;cases h;exact Cs l rfl hf b d m k j
  cases h
 .split at h
  .rename_i hf h1 h2;obtain⟨rfl,b⟩:=az h1;obtain⟨rfl,d⟩:=az h2;cases h;exact Cs l rfl hf b d m k j
  .rename_i hf h1 h2;obtain⟨rfl,b⟩:=az h1;obtain⟨rfl,d⟩:=az h2;cases h;exact Cs l rfl hf b d m k j
  cases h
 .rename_i hu;split at h
  .rename_i hk h1 h2;obtain⟨rfl,b⟩:=az h1;obtain⟨rfl,d⟩:=az h2;cases h;exact ah6 l rfl hu hk b d m k j
  .rename_i hk h1 h2;obtain⟨rfl,b⟩:=az h1;obtain⟨rfl,d⟩:=az h2;cases h;exact ah6 l rfl hu hk b d m k j
  cases h
 cases h
def Ys (l:o.op= .call c)(h:tN P c=O ao)(n:ao.isCall=Zb)(m:ao.run e σ=O (v,σ'))(k:dk μ N e a.tmps)(j:R B μ σ w):jK P o a w B μ v σ':=by
 unfold tN at h;split at h
 .split at h
  .obtain⟨x,_,h⟩:=aC.1 h;subst h;simp[AOp.isCall]at n
  cases h
 .obtain⟨x,_,h⟩:=aC.1 h;subst h;simp[AOp.isCall]at n
 .rename_i hcal;split at h
  .rename_i ha ht;split at h
   .rename_i hu1 hu2 h1 h2;obtain⟨rfl,b⟩:=az h1;obtain⟨rfl,d⟩:=az h2;split at h
    .rename_i hn hb hz;split at h
     .rename_i hzn;cases h;exact OA l hcal ha ht hu1 (.inl ⟨_,hu2⟩) hn hb hz hzn b d m k j
     cases h
    cases h
   .rename_i hu1 hu2 h1 h2;obtain⟨rfl,b⟩:=az h1;obtain⟨rfl,d⟩:=az h2;split at h
    .rename_i hn hb hz;split at h
     .rename_i hzn;cases h;exact OA l hcal ha ht hu1 (.inr hu2) hn hb hz hzn b d m k j
     cases h
    cases h
   .rename_i hu1 hu2 h1 h2;obtain⟨rfl,b⟩:=az h1;obtain⟨rfl,d⟩:=az h2;split at h
    .rename_i hn hb hz;split at h
     .rename_i hzn;cases h;exact UI l hcal ha ht hu1 ⟨_,hu2⟩ hn hb hz hzn.1 hzn.2 b d m k j
     cases h
    cases h
   cases h
  cases h
 .rename_i hcal;split at h
  .rename_i ha ht;split at h
   .rename_i hu h1 h2;obtain⟨rfl,b⟩:=az h1;obtain⟨rfl,d⟩:=az h2;split at h
    .rename_i hn;cases h;exact aB6 l hcal ha ht hu hn b d m k j
    cases h
   cases h
  cases h
 .rename_i hcal;split at h
  .rename_i ha ht;split at h
   .rename_i hu h1;obtain⟨rfl,b⟩:=az h1;cases h;exact aB8 l hcal ha ht hu b m k j
   .rename_i hu h1;obtain⟨rfl,b⟩:=az h1;cases h;exact aR7 l hcal ha ht hu b m k j
   cases h
  cases h
 .rename_i hcal;split at h
  .rename_i ha ht;split at h
   .rename_i hu h1;obtain⟨rfl,b⟩:=az h1;cases h;exact aB4 l hcal ha ht hu b m k j
   cases h
  cases h
 .rename_i hcal;split at h
  .rename_i ha;split at h
   .rename_i h1 h2;obtain⟨rfl,b⟩:=az h1;obtain⟨rfl,d⟩:=az h2;cases h;exact aC0 l hcal ha b d m k j
   cases h
  cases h
 .rename_i hcal;split at h
  .rename_i ha;split at h
   .rename_i h1 h2;obtain⟨rfl,b⟩:=az h1;obtain⟨rfl,d⟩:=az h2;cases h;exact ah7 l hcal ha b d m k j
   cases h
  cases h
 cases h
def aF9 (h:JU P o=O ao)(u:ao.isCall=Zb)(j:ao.run e σ=O (v,σ'))(l:dk μ N e a.tmps)(k:R B μ σ w):jK P o a w B μ v σ':=by
 unfold JU at h;split at h
 .rename_i ho;obtain⟨x,b,h⟩:=aC.1 h;obtain⟨rfl,d⟩:=az b;subst h;exact Ww (.inl ho) d j l k
 .rename_i ho;obtain⟨x,b,h⟩:=aC.1 h;obtain⟨rfl,d⟩:=az b;subst h;exact Ww (.inr ho) d j l k
 .rename_i ho;split at h
  .rename_i b h2 h3;obtain⟨rfl,d⟩:=az b;obtain⟨rfl,p⟩:=az h2;obtain⟨rfl,q⟩:=az h3;cases h;exact aC1 ho d p q j l k
  cases h
 .rename_i ho;split at h
  .rename_i hz;cases h;exact ah4 ho hz j k
  cases h
 .rename_i ho;split at h
  .rename_i b;obtain⟨rfl,d⟩:=az b;cases h;exact aR5 ho d j l k
  cases h
 .rename_i ho;split at h
  .rename_i hu hz;split at h
   .rename_i hall;obtain⟨t,r,h⟩:=aC.1 h;subst h;exact JP ho hu hz hall r j l k
   cases h
  .rename_i hu hz;split at h
   .rename_i m;obtain⟨t,r,h⟩:=aC.1 h;subst h;exact L7 ho hu m hz r j l k
   cases h
  cases h
 .rename_i ho;split at h
  .rename_i hu;split at h
   .rename_i m hz;split at h
    .rename_i hcond;obtain⟨t,r,h⟩:=aC.1 h;subst h;exact Nq ho hu m hz hcond.1 hcond.2.1 hcond.2.2 r j l k
    cases h
   cases h
  cases h
 .injection h with h
  subst h;cases j
 .rename_i ho;split at h
  .rename_i ht b;obtain⟨rfl,d⟩:=az b;obtain⟨n,m,h⟩:=aC.1 h;subst h;exact ah8 ho ht m d j l k
  .rename_i ht b;obtain⟨rfl,d⟩:=az b;cases h;exact aB9 ho ht d j l k
  cases h
 .rename_i ho;split at h
  .rename_i m b h2;obtain⟨rfl,d⟩:=az b;obtain⟨rfl,p⟩:=az h2;cases h;exact ai4 ho m d p j l k
  cases h
 .rename_i ho;obtain⟨x,b,h⟩:=aC.1 h;obtain⟨rfl,d⟩:=az b;subst h;exact Su ho d j l k
 .rename_i ho;exact ap9 ho h j l k
 .rename_i ho;obtain⟨x,b,h⟩:=aC.1 h;obtain⟨rfl,d⟩:=az b;subst h;exact bb5 ho d j l k
 .rename_i ho;split at h
  .rename_i hs hd b;obtain⟨rfl,d⟩:=az b;cases h;exact aB5 ho hs hd d j l k
  .rename_i hs hd b;obtain⟨rfl,d⟩:=az b;split at h
   .rename_i ht;cases h;exact ai5 ho hs ht hd d j l k
   cases h
  cases h
 .rename_i ho;split at h
  .split at h
   .injection h with h
    subst h;exact ai2 ho j k
   split at h
   .injection h with h
    subst h;exact ai1 ho j k
   cases h
  cases h
 .rename_i ho;split at h
  .rename_i hu b h2;obtain⟨rfl,d⟩:=az b;obtain⟨rfl,p⟩:=az h2;split at h
   .rename_i hk hz;cases h;exact ai0 ho hu hk hz d p j l k
   split at h
   .rename_i hK hz;cases h;exact ah9 ho hu hK hz d p j l k
   cases h
  cases h
 .rename_i ho;split at h
  .rename_i hu b h2 h3;obtain⟨rfl,d⟩:=az b;obtain⟨rfl,p⟩:=az h2;obtain⟨rfl,q⟩:=az h3;split at h
   .rename_i hk he';cases h;exact aC3 ho hu hk d p q j l k
   split at h
   .rename_i hK hz;cases h;exact aC2 ho hu hK d p q j l k
   cases h
  cases h
 .rename_i ho;split at h
  .rename_i h0 b;cases h;exact X1 ho h0 b j l k
  cases h
 .rename_i ho;split at h
  .rename_i hu;split at h
   .rename_i m hb hz b h2;obtain⟨rfl,d⟩:=az b;obtain⟨rfl,p⟩:=az h2;split at h
    .rename_i hcond;cases h;exact Qa ho hu m hb hz d p hcond.1 hcond.2 j l k
    cases h
   cases h
  cases h
 .rename_i ho;split at h
  .rename_i hu b h2 h3;obtain⟨rfl,d⟩:=az b;obtain⟨rfl,p⟩:=EW h2;obtain⟨rfl,q⟩:=EW h3;obtain⟨n,m,h⟩:=aC.1 h;subst h;exact ai3 ho hu m d p q j l k
  .rename_i hu b h2 h3;obtain⟨rfl,d⟩:=az b;obtain⟨rfl,p⟩:=EW h2;obtain⟨rfl,q⟩:=EW h3;obtain⟨n,m,h⟩:=aC.1 h;subst h;exact Sv ho hu m d p q j l k
  cases h
 .rename_i ho;split at h
  .rename_i hu b;obtain⟨rfl,d⟩:=az b;split at h
   .rename_i hi;split at h
    .rename_i m;split at h
     .cases h
     rename_i h0;cases h;exact aR8 ho hu hi m h0 d j l k
    cases h
   cases h
  cases h
 .rename_i ho;split at h
  .rename_i hu b;obtain⟨rfl,d⟩:=az b;split at h
   .rename_i hi;split at h
    .rename_i m hb;cases h;exact XY ho hu hi m hb d j l k
    cases h
   cases h
  cases h
 .rename_i ho;split at h
  .rename_i hu b h2;obtain⟨rfl,d⟩:=az b;obtain⟨rfl,p⟩:=az h2;obtain⟨n,m,h⟩:=aC.1 h;subst h;exact aR6 ho hu m d p j l k
  .rename_i hu b h2;obtain⟨rfl,d⟩:=az b;obtain⟨rfl,p⟩:=az h2;obtain⟨n,m,h⟩:=aC.1 h;subst h;exact aB7 ho hu m d p j l k
  cases h
 .rename_i ho;split at h
  .rename_i hu b h2;obtain⟨rfl,d⟩:=az b;obtain⟨rfl,p⟩:=az h2;split at h
   .rename_i m hb;cases h;exact X0 ho hu m hb d p j l k
   cases h
  .rename_i hu b h2;obtain⟨rfl,d⟩:=az b;obtain⟨rfl,p⟩:=az h2;cases h;exact XZ ho hu d p j l k
  cases h
 .rename_i ho;split at h
  .rename_i hu b h2 h3;obtain⟨rfl,d⟩:=az b;obtain⟨rfl,p⟩:=az h2;obtain⟨rfl,q⟩:=az h3;split at h
   .rename_i m;cases h;obtain⟨n,m⟩:=aN.1 m;exact X2 ho hu m d p q j l k
   cases h
  cases h
 .rename_i ho;obtain⟨x,b,h⟩:=aC.1 h;obtain⟨rfl,d⟩:=az b;subst h;exact UJ ho d j l k
 .rename_i ho;exact Ys ho h u j l k
 .injection h with h
  subst h;cases j
 .injection h with h
  subst h;cases j
 cases h
end
end
section
open Result renaming andThen_ok->aB
open Sem renaming run_bind->aD,run_pure->bB
open Go.RowKit
def Qz (ops:Array Oper):Option (Nat×Bool)->Option (Option<|Nat×Bool)
 |none=>O Z
 |some (j,b)=>match(ops[j]?).bind (·.dst)with
  |some t=>O (O (t,b))
  |none=>Z
def ab6 (N:Nat):Option Nat->Bool
 |none=>Za
 |some d=>d<N
def Gl (P:Program)(N:Nat)(ops:Array Oper)(o:Oper):Option AOper:=match JU P o,Qz ops o.guard with
 |some op,O g=>if ab6 N o.dst then O ⟨o.dst,op,g⟩else Z
 |_,_=>Z
def me (P:Program)(N:Nat)(ops:Array Oper):List Oper->Option (List AOper)
 |[]=>O []
 |o::r=>match Gl P N ops o,me P N ops r with
  |some x,O l=>O (x::l)
  |_,_=>Z
def Bs (P:Program)(f:FuncId):Prop:= ∃b,P.funcs[f]?=O b/\b.body.isSome=Za/\(b.name== "runtime.NumGoroutine")=Zb
def WZ (P:Program)(B:Base P)(μ:Mu)(w:World)(K:Value->Hp->Prop):Ending->World->Prop:=λx w'=>
 ∃r σ' d b,x= .returned d/\K r σ'/\μ.le b/\R B b σ' w'/\VR b r d/\Below B w w'/\P=P
def as8 (P:Program)(l:Nat)(args:Array Value)(w:World)(Q:Ending->World->Prop):Prop:=
 ∃h d a b,(Instr.yield l args).run P w= .ok (.round l h d a b) w/\RoundIn Fence.wide 0 P l h d a b w Q
def Fm (P:Program)(f:FuncId)(S:HU):Prop:=
 ∀(B:Base P) μ σ w args (d:Array Value) K,S args σ K->R B μ σ w->
  (Cl f=Zb->F2 (VR μ) args d.toList->Bs P f/\Calls P f d w (WZ P B μ w K))/\
  (Cl f=Za->∀(h:List Value) (b:Nat) (g:G),args=h++[.pointer<|O ⟨b,0,Z⟩]->f=QR g.ty->μ b=O g->g.it=O (.bool Za)->F2 (VR μ) h d.toList->as8 P g.c d w (WZ P B μ w K))
def Fm.mk' {P:Program}{S:HU}(b:Bs P f)(h: ∀(B:Base P) μ σ w args (cargs:Array Value) K,S args σ K->R B μ σ w->F2 (VR μ) args cargs.toList->Calls P f cargs w (WZ P B μ w K)):Fm P f S:=
 λB μ σ w args cargs K m k=>⟨λ_ l=>⟨b,h B μ σ w args cargs K m k l⟩,λd=>by
  have⟨n,j,_⟩:=b;have p:=(Array.getElem?_eq_some_iff.1 j).1;have q:=B.small;unfold Cl at d;rw[Nat.ble_eq]at d
  omega⟩
def Rd (ro:Option Nat):Fence:={Fence.wide with round:=ro}
def Mg {P:Program}{ro:Option Nat}{args:Array Value}{w:World}{Q:Ending->World->Prop}(h:Calls P f args w Q):CallsIn (Rd ro) 0 P f args w Q:=
 callsIn_wide (n:=0).2 h
def am3 {P:Program}{ro:Option Nat}{l fn:Nat}{tmps:Array Value}{a b:Code}{w:World}{Q:Ending->World->Prop}(h:RoundIn Fence.wide 0 P l fn tmps a b w Q):RoundIn (Rd ro) 0 P l fn tmps a b w Q:=h
def dfs (ds:List Nat):List Deferred:=ds.map λD=>{target:= .collected D,args:= #[]}
def more {P:Program}(B:Base P)(ds:List Nat):Base P:={B with ds:=ds++B.ds}
def C4 :Nat:=1000000
def pm :AExit->Exit->Prop
 | .normal, .normal=>True
 | .exit i, .exit j=>i=j/\j<C4
 | .exit i, .goto l=>i=C4+2*l
 | .ret, .ret=>True
 |_,_=>False
def RD {P:Program}(B:Base P)(μ:Mu)(σ:Hp)(w:World)(a:Act):Prop:= ∃b,R (more B b) μ σ w/\a.defers=dfs b
def mY {P:Program}(B:Base P)(N:Nat)(μ:Mu)(w:World)(Q:AExit->bj->Hp->Prop):Exit->Act->World->Prop:=λx d w'=>
 ∃h e' σ' b,pm h x/\Q h e' σ'/\μ.le b/\RD B b σ' w' d/\dk b N e' d.tmps/\True/\Below B w w'
section
variable {P:Program} {T:gw} {o:Oper} {a:Act} {w:World} {B:Base P} {N:Nat} {μ:Mu} {e:bj} {σ σ':Hp} {v:Value}
def mY.trans {μ':Mu}{w':World}{Q:AExit->bj->Hp->Prop}(u:μ.le μ')(t:Below B w w'){x:Exit}{a':Act}{b:World}(h:mY B N μ' w' Q x a' b):mY B N μ w Q x a' b:=by
 have⟨j,e',σ',d,k,l,m,n,p,q,r⟩:=h;exact⟨j,e',σ',d,k,l,Mu.le_trans u m,n,p,q,t.trans r⟩
def IU {ops:Array Oper}{g:Option<|Nat×Bool}(d:Qz ops o.guard=O g)(p:dk μ N e a.tmps):Region.wanted o (yielded ops a.tmps)=wanted ⟨o.dst,op,g⟩ e:=by
 unfold Qz at d;unfold Region.wanted wanted;split at d
 .rename_i h;cases d;simp[h]
 rename_i j want h;split at d
 .rename_i t ht;cases d;simp only[h];have m:=p.2 t;unfold yielded;rw[ht,zG];by_cases k:t<a.tmps.size
  .have l:a.tmps[t]?=O (a.tmps.getD t undef):=by simp[k]
   rw[l];generalize a.tmps.getD t undef=u at*;generalize e t=r at*;cases m with
   |junk h=>
    cases u with
    |bool b=>cases h
    |_=>simp
   |bool b=>cases b<;>cases want<;>rfl
   |_=>simp[TB,TA,YB]
  have l:a.tmps[t]?=Z:=Array.getElem?_eq_none (Nat.le_of_not_lt k);have n:a.tmps.getD t undef=undef:=by simp[l]
  rw[n]at m;rw[l];generalize e t=u at*;cases m with
  |junk q=>cases q
  |_=>simp
 cases d
def dk.putO (h:dk μ N e a.tmps){d:Option Nat}(b:ab6 N d=Za){v':Value}(j:VR μ v v'):dk μ N (e.putO d v) (a.put d v').tmps:=by
 cases d with
 |none=>exact h
 |some d=>exact h.put d (by simpa[ab6]using b) j
def jq (d:Option Nat)(v':Value):(a.put d v').defers=a.defers:=by cases d<;>rfl
def EG (h:Bs P f)(args:Array Value)(w:World):(callFunc f args).run P w= .ok (.enter f args) w:=by
 have⟨b,d,j,k⟩:=h;have l:b.body.isNone=Zb:=by cases m:b.body<;>simp[m]at j⊢
 simp only[callFunc,aD,run_program,aB,d,k,l,Bool.false_eq_true,if_false,bB]
def Yt (h:JU P o=O (.call f args)): ∃c,o.op= .call c/\tN P c=O (.call f args):=by
 unfold JU at h;split at h
 all_goals first
  |exact⟨_,‹_›,h⟩
  |(exfalso;revert h;unfold OZ;(repeat' split)<;>simp)
  |(exfalso;revert h;(repeat' split)<;>simp)
def Ve {f:Operand}(h:JU P o=O (.callv f args)): ∃c,o.op= .call c/\tN P c=O (.callv f args):=by
 unfold JU at h;split at h
 all_goals first
  |exact⟨_,‹_›,h⟩
  |(exfalso;revert h;unfold OZ;(repeat' split)<;>simp)
  |(exfalso;revert h;(repeat' split)<;>simp)
theorem Jq (h:tN P c=O (.call f args)):c.callee= .value (.func f)/\F9 c.args.toList=O args:=by
 unfold tN at h;split at h
 .rename_i hc
  simp_all
 all_goals (exfalso;revert h;(repeat' split)<;>simp)
def Yr (h:tN P c=O (.call f args)):f<P.funcs.size:=by
 unfold tN at h;split at h
 .split at h
  .rename_i he;simp at h;obtain⟨b,rfl⟩:=h;unfold Ie at he;split at he
   .rename_i hf;exact(Array.getElem?_eq_some_iff.1 hf).1
   cases he
  cases h
 all_goals (exfalso;revert h;(repeat' split)<;>simp)
def Qy {f:Operand}(h:tN P c=O (.callv f args)):c.callee= .value f/\db f=Za/\F9 c.args.toList=O args:=by
 unfold tN at h;split at h
 .exfalso;revert h;split<;>simp
 .rename_i hc;simp at h;obtain⟨b,rfl⟩:=h;exact⟨hc,rfl,b⟩
 all_goals (exfalso;revert h;(repeat' split)<;>simp)
def Vw (n: ∀f,Fm P f<|T f){args:List Value}{cargs:Array Value}{k:Value->Hp->Prop}(q:Cl f=Zb)(u:T f args σ k)(m:R B μ σ w)(p:F2 (VR μ) args cargs.toList){ro:Option Nat}(d: ∀c,o.op≠ .defer c)
  (b:Bs P f->(execOp a.eval o).run P w= .ok (.enter f cargs) w) {next:Act->World->Prop} {Q:Exit->Act->World->Prop}
  (t: ∀v σ' v' μ' w',k v σ'->μ.le μ'->R B μ' σ' w'->VR μ' v v'->Below B w w'->next (a.put o.dst v') w'):o.wpIn (Rd ro) 0 P a w next Q:=by
 have⟨j,l⟩:=(n f B μ σ w args cargs k u m).1 q p;refine⟨λ_ _=>trivial, ?_⟩;rw[Oper.semAt_eq _ _ _ d,b j];refine⟨λh=>aX,Mg<|l.mono λx w' y=> ?_⟩;obtain⟨r,σ',F,μ',rfl,z,A,C,D,E,_⟩:=y;exact t r σ' F μ' w' z A C D E
def aq6 (u: ∀f,Fm P f<|T f){f b:Nat}{xs:List Value}{cargs:Array Value}{k:Value->Hp->Prop}(z:Cl f=Za)(l:f=QR g.ty)(A:μ b=O g)(m:g.it=O (.bool Za))(D:T f (xs++[.pointer<|O ⟨b,0,Z⟩]) σ k)(t:R B μ σ w)(y:F2 (VR μ) xs cargs.toList){ro:Option Nat}(j: ∀c,o.op≠ .defer c)
  (d:(execOp a.eval o).run P w=(Instr.yield g.c cargs).run P w) {next:Act->World->Prop} {Q:Exit->Act->World->Prop}
  (C: ∀v σ' v' μ' w',k v σ'->μ.le μ'->R B μ' σ' w'->VR μ' v v'->Below B w w'->next (a.put o.dst v') w'):o.wpIn (Rd ro) 0 P a w next Q:=by
 have⟨U,n,M,S,p,q⟩:=(u f B μ σ w _ cargs k D t).2 z xs b g rfl l A m y;refine⟨λ_ _=>trivial, ?_⟩;rw[Oper.semAt_eq _ _ _ j,d,p];refine⟨λh=>aX,am3<|q.mono λx w' E=> ?_⟩;obtain⟨r,σ',L,μ',rfl,F,H,I,J,K,_⟩:=E;exact C r σ' L μ' w' F H I J K
def Vf (h:JU P o=O op)(c:Call):o.op≠ .defer c:=λb=>by
 simp[JU,b]at h
def To {f n:Nat}(h:JU P o=O (.rangeF f n x)):False:=by
 unfold JU at h;split at h
 all_goals first
  |(revert h;unfold OZ;(repeat' split)<;>simp)
  |(revert h;unfold tN;(repeat' split)<;>simp)
  |(revert h;(repeat' split)<;>simp)
theorem Hv (I: ∀f,Fm P f<|T f)(h:JU P o=O op){k:Value->Hp->Prop}(j:bp T op e σ k)(F:dk μ N e a.tmps)(D:R B μ σ w)
  {next:Act->World->Prop} {Q:Exit->Act->World->Prop}
  (u: ∀v σ' v' μ' w',k v σ'->μ.le μ'->R B μ' σ' w'->VR μ' v v'->Below B w w'->next (a.put o.dst v') w') {ro:Option Nat}:o.wpIn (Rd ro) 0 P a w next Q:=by
 have l:=Vf h;by_cases J:op.isCall=Za
 .cases op<;>simp[AOp.isCall]at J
  case rangeF f n x=>exact(To h).elim
  case call f args=>
   have⟨c,H,q⟩:=Yt h;have⟨r,t⟩:=Jq q;have E:=GZ F t;simp only[bp]at j;by_cases p:Cl f=Za
   .have A:=Yr q;have C:=B.small;unfold Cl at p;rw[Nat.ble_eq]at p;exact absurd (Nat.lt_of_lt_of_le A C) (Nat.not_lt.2 p)
   refine Vw (cargs:=c.args.map a.eval) I (by simpa using p) j D (by simpa using E) l (λd=> ?_) u;simp only[execOp,H,resolve,r,aD,Act.eval,Deferred.ofValue,bB,aB,invoke];simp[EG d]
  case callv f args=>
   have⟨c,H,q⟩:=Ve h;have⟨r,z,t⟩:=Qy q;have E:=GZ F t;have K:=F.ev z;simp only[bp]at j;split at j
   .rename_i g first captured hg
    rw[hg]at K;obtain⟨m,j⟩:=j;by_cases p:Cl g=Za
    .obtain⟨b,gg,W,X,Y,rfl,rfl,k6⟩:=K.yl_inv p;have j:T g (args.map e.ev++[.pointer<|O ⟨b,0,Z⟩]) σ k:=by simpa using j
     refine aq6 (cargs:=c.args.map a.eval) I p Y W X j D (by simpa using E) l ?_ u;simp only[execOp,H,resolve,r,k6,aD,Deferred.ofValue,bB,aB,invoke];simp
    have m:yR g=Zb:=by
     unfold aQ2 at m;simpa[p]using m
    have⟨x',y',M,S,U⟩:=K.func_inv m;refine Vw (cargs:=x'++c.args.map a.eval++y') I (by simpa using p) j D (by simpa using(S.append E).append U) l (λd=> ?_) u;simp only[execOp,H,resolve,r,M,aD,Deferred.ofValue,bB,aB,invoke];simp[EG d]
   .exact j.elim
 .have L: ∃v σ',op.run e σ=O (v,σ')/\k v σ':=by
   unfold bp at j;cases op<;>simp[AOp.isCall]at J<;>simp only at j
   all_goals
    split at j
    .grind
    .exact j.elim
  have⟨v,σ',V,y⟩:=L;have⟨nx,w',μ',v',q,r,t,z,A,C⟩:=aF9 h (by simpa using J) V F D;refine⟨λ_ _=>trivial, ?_⟩;rw[Oper.semAt_eq _ _ _ l,q];rcases r with rfl|⟨rfl,rfl⟩
  .exact u v σ' v' μ' w' y t z A C
  .exact u v σ' undef μ' w' y t z A C
def UK (z: ∀f,Fm P f<|T f){ro:Option Nat}{ops:Array Oper}{Q:AExit->bj->Hp->Prop}{D:Mu}{C:World}{ds:List Nat}: ∀(l:List Oper) (q:List AOper) (e:bj) (σ:Hp) (μ:Mu) (a:Act) (w:World),me P N ops l=O q->kM T (Q .normal) q e σ->
  R (more B ds) μ σ w->dk μ N e a.tmps->a.defers=dfs ds->D.le μ->Below B C w->wpListIn (Rd ro) 0 P ops (mY B N D C Q) l a w
 |[],q,e,σ,μ,a,w,h,k,t,n,u,d,b=>by
  simp[me]at h;subst h;exact⟨.normal,e,σ,μ,trivial,k,d,⟨ds,t,u⟩,n,trivial,b⟩
 |o::l,q,e,σ,μ,a,w,h,k,t,n,u,d,b=>by
  simp only[me]at h;split at h
  .rename_i x r j h2;cases h;unfold Gl at j;split at j
   .rename_i op g h3 h4;split at j
    .rename_i h5;cases j;have m:=IU (op:=op) h4 n;unfold wpListIn;simp only[kM]at k;rw[m];split
     .rename_i hb;rw[zE hb]at k;refine Hv z h3 k n t λv σ' H I w' E A y F p=> ?_
      exact UK z l r _ σ' I (a.put o.dst H) w' h2 E y ((n.mono A).putO h5 F) (by rw[jq];exact u) (Mu.le_trans d A) (b.trans p)
     .rename_i hb;rw[zF hb]at k;exact⟨λ_ _=>trivial,UK z l r _ σ μ (a.put o.dst undef) w h2 k t (n.putO h5<|VR.undef μ) (by rw[jq];exact u) d b⟩
    .cases j
   .cases j
  .cases h
end
end
section
open List renaming map_congr_left->aB,mem_append->aD,range->bB
open Go.RowKit
def il :Operand->List Nat
 | .tmp t=>[t]
 |_=>[]
def ap3 :Option Operand->List Nat
 |some x=>il x
 |none=>[]
def AOp.reads :AOp->List Nat
 | .move x| .box _ x| .load x| .loadN _ x| .nilCheck x| .un _ x| .conv _ x| .off _ x| .fieldV _ _ _ x| .extract x _| .len x| .lenS x| .capN x| .strOf x=>il x
 | .pick c a b| .sliceX _ c a b=>il c++il a++il b
 | .alloc _ _| .stuck| .makeM _=>[]
 | .lookM _ _ x i=>il x++il i
 | .updM _ x i v=>il x++il i++il v
 | .makeG _ _=>[]
 | .lookG _ _ _ x i=>il x++il i
 | .updG _ _ x i v=>il x++il i++il v
 | .build _ k| .buildSlice _ _ _ k=>k.flatMap λp=>il p.2.2
 | .store _ a x=>il a++il x
 | .bin _ x y| .eqv _ _ x y| .eqCells _ _ x y| .idx _ x y| .idxA _ _ x y| .indexV _ _ _ x y| .indexS x y| .append _ _ x y| .appendZ _ _ _ x y| .copy _ x y| .most x y| .least x y| .makeSlice _ _ _ x y=>il x++il y
 | .mkFunc _ d l=>d.flatMap il++l.flatMap il
 | .slice _ x j h| .sliceArr _ _ x j h=>il x++ap3 j++ap3 h
 | .call _ d=>d.flatMap il
 | .callv f d=>il f++d.flatMap il
 | .rangeF _ n x=>il x++bB n
def bc (h: ∀t∈il x,e t=e' t):e.ev x=e'.ev x:=by
 cases x<;>first|rfl|exact h _ (by simp[il])
def EK {x:Option Operand}(h: ∀t∈ap3 x,e t=e' t):x.map e.ev=x.map e'.ev:=by
 cases x with
 |none=>rfl
 |some x=>simp only[Option.map_some];rw[bc h]
def EJ {xs:List Operand}(h: ∀t∈xs.flatMap il,e t=e' t):xs.map e.ev=xs.map e'.ev:=by
 apply aB;intro x d;exact bc λt b=>h t<|aL.2 ⟨x,d,b⟩
def NX {b:List<|Nat×Nat×Operand}(h: ∀t∈b.flatMap (λp=>il p.2.2),e t=e' t):(b.map λ(o,s,x)=>(o,s,e.ev x))=b.map λ(o,s,x)=>(o,s,e'.ev x):=by
 apply aB;rintro⟨o,s,x⟩ j;simp only;rw[bc λt d=>h t<|aL.2 ⟨_,j,d⟩]
def Bm {σ:Hp}(h: ∀t∈op.reads,e t=e' t):op.run e σ=op.run e' σ:=by
 cases op<;>simp only[AOp.reads,aD]at h<;>simp only[AOp.run]
 case move x=>rw[bc h]
 case pick c a b=>rw[bc λt j=>h t<|.inl<|.inl j,bc λt j=>h t<|.inl<|.inr j,bc λt j=>h t<|.inr j]
 case box es x=>rw[bc h]
 case build z ps=>rw[NX h]
 case buildSlice es ln z ps=>rw[NX h]
 case load x=>rw[bc h]
 case loadN n x=>rw[bc h]
 case store n a x=>rw[bc λt j=>h t<|.inl j,bc λt j=>h t<|.inr j]
 case nilCheck x=>rw[bc h]
 case bin op x y=>rw[bc λt j=>h t<|.inl j,bc λt j=>h t<|.inr j]
 case eqv kd neg x y=>rw[bc λt j=>h t<|.inl j,bc λt j=>h t<|.inr j]
 case eqCells neg ks x y=>rw[bc λt j=>h t<|.inl j,bc λt j=>h t<|.inr j]
 case un op x=>rw[bc h]
 case conv k x=>rw[bc h]
 case mkFunc f xs cs=>rw[EJ λt j=>h t<|.inl j,EJ λt j=>h t<|.inr j]
 case makeSlice es by_ z l c=>rw[bc λt j=>h t<|.inl j,bc λt j=>h t<|.inr j]
 case slice es x lo hi=>rw[bc λt j=>h t<|.inl<|.inl j,EK λt j=>h t<|.inl<|.inr j,EK λt j=>h t<|.inr j]
 case sliceArr es n x lo hi=>rw[bc λt j=>h t<|.inl<|.inl j,EK λt j=>h t<|.inl<|.inr j,EK λt j=>h t<|.inr j]
 case off n x=>rw[bc h]
 case idx es x i=>rw[bc λt j=>h t<|.inl j,bc λt j=>h t<|.inr j]
 case idxA ln es x i=>rw[bc λt j=>h t<|.inl j,bc λt j=>h t<|.inr j]
 case fieldV fo n agg x=>rw[bc h]
 case indexV ln es agg x i=>rw[bc λt j=>h t<|.inl j,bc λt j=>h t<|.inr j]
 case indexS x i=>rw[bc λt j=>h t<|.inl j,bc λt j=>h t<|.inr j]
 case extract x i=>rw[bc h]
 case append es by_ s x=>rw[bc λt j=>h t<|.inl j,bc λt j=>h t<|.inr j]
 case appendZ es by_ z s x=>rw[bc λt j=>h t<|.inl j,bc λt j=>h t<|.inr j]
 case copy es d s=>rw[bc λt j=>h t<|.inl j,bc λt j=>h t<|.inr j]
 case len x=>rw[bc h]
 case lenS x=>rw[bc h]
 case capN x=>rw[bc h]
 case strOf x=>rw[bc h]
 case lookM k ok x i=>rw[bc λt j=>h t<|.inl j,bc λt j=>h t<|.inr j]
 case updM k x i v=>rw[bc λt j=>h t<|.inl<|.inl j,bc λt j=>h t<|.inl<|.inr j,bc λt j=>h t<|.inr j]
 case lookG ks vz ok x i=>rw[bc λt j=>h t<|.inl j,bc λt j=>h t<|.inr j]
 case updG ks vn x i v=>rw[bc λt j=>h t<|.inl<|.inl j,bc λt j=>h t<|.inl<|.inr j,bc λt j=>h t<|.inr j]
 case sliceX _ c a b=>rw[bc λt j=>h t<|.inl<|.inl j,bc λt j=>h t<|.inl<|.inr j,bc λt j=>h t<|.inr j]
 case most x y=>rw[bc λt j=>h t<|.inl j,bc λt j=>h t<|.inr j]
 case least x y=>rw[bc λt j=>h t<|.inl j,bc λt j=>h t<|.inr j]
def S6 {T:gw}{σ:Hp}{k:Value->Hp->Prop}(h: ∀t∈op.reads,e t=e' t)(d:bp T op e σ k):bp T op e' σ k:=by
 by_cases j:op.isCall=Za
 .cases op<;>simp[AOp.isCall]at j
  case call f xs=>
   simp only[bp,AOp.reads]at*;rw[<-EJ h];exact d
  case callv f xs=>
   simp only[bp,AOp.reads,aD]at*;rw[<-EJ λt b=>h t<|.inr b,<-bc λt b=>h t<|.inl b];exact d
  case rangeF f n x=>
   simp only[bp,AOp.reads,aD]at*;have l:(bB n).map e=(bB n).map e':=aB λt b=>h t (.inr b)
   rw[<-l,<-bc λt b=>h t<|.inl b];exact d
 unfold bp at*;cases op<;>simp[AOp.isCall]at j<;>simp only at d⊢ <;>rw[<-Bm h]<;>exact d
def AOper.looks (o:AOper):List Nat:=o.op.reads++(match o.guard with|some (t,_)=>[t]|none=>[])
theorem CI {o:AOper}(h: ∀t∈o.looks,e t=e' t):wanted o e=wanted o e':=by
 unfold wanted;unfold AOper.looks at h
 grind
def uH {σ σ':Hp}{v:Value}(b:op.still=Za)(h:op.run e σ=O (v,σ')):σ'=σ:=by
 cases op<;>simp[AOp.still]at b<;>simp only[AOp.run]at h
 all_goals
  revert h
  repeat' split
  all_goals first
   |(intro h;cases h;done)
   |(intro h;simp only[aZ,b7]at h;exact h.2.symm)
   |(intro h;obtain⟨_,_,h⟩:=aC.1 h;simp only[b7]at h;exact h.2.symm)
theorem OR {σ:Hp}{v:Value}(d:op.still=Za)(b:op.isLoad=Zb)(h:op.run e σ=O (v,σ))(σ':Hp):op.run e σ'=O (v,σ'):=by
 cases op<;>simp[AOp.still]at d
 case slice es x lo hi=>
  cases lo with
  |some _=>simp[AOp.isLoad]at b
  |none=>
   simp only[AOp.run,Cq,Bool.or_true,if_true]at h⊢;revert h
   repeat' split
   all_goals first
    |(intro h;cases h;done)
    |(intro h;simp only[aZ,b7]at h⊢;exact⟨h.1,trivial⟩)
    |simp_all
 all_goals first
  |(simp[AOp.isLoad]at b;done)
  |(simp only[AOp.run]at h⊢
    revert h
    repeat' split
    all_goals first
     |(intro h;cases h;done)
     |(intro h;simp only[aZ,b7]at h⊢;exact⟨h.1,trivial⟩)
     |(intro h;obtain⟨u,j,h⟩:=aC.1 h;simp only[b7]at h;rw[j];simp[h.1]))
end
end Go.Ab
