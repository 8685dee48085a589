/- A part of the proofs of this claim: what functions of the program answer on an abstract machine, and plain laws. No condition. -/
import Derived.Test.YtobfihgmpgobhaaGreatDoorL1
import Derived.Test.YtobfihgmpgobhaaGreatDoorA2
set_option linter.unusedVariables false
set_option linter.unusedSimpArgs false
set_option linter.unusedSectionVars false
namespace Go.V
open Go.Ab
section
open Int renaming toNat_natCast → aH
open List renaming mem_cons_self → aA, getElem_mem → aB, mem_cons_of_mem → aC, mem_singleton → aD, length_append → aE, nil_append → aF, take_length → aG, getElem?_eq_getElem → aI, length_cons → aJ, length_map → aK, length_tail → aL, length_take → aM, map_append → aN, take_succ_eq_append_getElem → aO
set_option maxRecDepth 100000
theorem bE {α β:Type}{x:Option α}{a:α}{f:α→Option β}{r:Option β}(h:x=some a)(h2:f a=r):x.bind f=r:=by rw[h];exact h2
def W7 (k:Nat):List Int:=List.getD [([109,111,100,101]:List Int),([108,101,110]:List Int),([119,111,114,100,115]:List Int),([120]:List Int),([116,104,101,116,97]:List Int),([115,116,101,112]:List Int),([108,111,115,115]:List Int)] k []
theorem CY {w:List Int}{k:Nat}(hk:k<7)(h:w=W7 k):fA w=some (k:Int):=by
 subst h;have hB:di=18446744073709551606+1+1+1+1+1+1+1+1+1+1:=rfl;unfold fA;rw[hB];rcases(show k=0∨k=1∨k=2∨k=3∨k=4∨k=5∨k=6 by omega)with rfl|rfl|rfl|rfl|rfl|rfl|rfl<;>rfl
theorem HH {w:List Int}(h: ∀k,k<7→w≠W7 k):fA w=some (-1):=by
 unfold fA;refine bE (a:= .inr ()) ?_ rfl;refine vK (n:=7) (by omega) (fun i hi=> ?_) rfl;unfold qW;rw[zB (by omega),zC];refine bE (dC hi) ?_;show cond (decide (W7 i=w)) _ _=_;rw[zA (fun e=>h i hi e.symm),zD,cR (by omega)];rfl
def pF (l:List Sg):Option (List Int):=if l.tail.all (fun x=>decide (x.1=2))then some (l.tail.map (·.2.2.2))else none
theorem zr {α:Type}(p:α→Bool): ∀l:List α,l.all p=true∨∃i,∃hi:i<l.length,p l[i]=false∧∀j,(hj:j<i)→p (l[j]'(by omega))=true
 |[]=> .inl rfl
 |a::l=>by
  cases ha:p a with
  |false=>exact .inr ⟨0,by simp,ha,fun j hj=>by omega⟩
  |true=>
   rcases zr p l with h|⟨i,hi,h1,h2⟩
   ·exact .inl (by simp[ha,h])
   ·refine .inr ⟨i+1,by simp;omega,h1,fun j hj=> ?_⟩;cases j with
    |zero=>exact ha
    |succ j=>exact h2 j (by omega)
theorem Dd {l:List Sg}(h0:l≠[])(hl:l.length≤100000):iC l=some (match pF l with
  |some n=>(true,n)
  |none=>(false,[])):=by
 have h1:1≤l.length:=by cases l with
  |nil=>exact(h0 rfl).elim
  |cons _ _=>simp
 have hc:fZ l 1 ((l.length:Nat):Int)=l.tail:=by
  unfold fZ;rw[aH,aG];exact List.drop_one
 unfold iC pF;rw[kV (by omega),fp]
 have body: ∀(s:Int×List Int),cC l s=cond (decide (s.1<((l.tail.length:Nat):Int))) ((rd l.tail s.1).bind fun x=>cond (decide (x.1≠2)) (some (.inr (.inl false))) (gd (cG (s.2.length+1) 8) (some (.inl (IntKind.i64.wrap (s.1+1),s.2++[x.2.2.2]))))) (some (.inr (.inr s.2))):=fun s=>by
  unfold cC;rw[hc]
 have hlt:l.tail.length≤100000:=by rw[aL];omega
 have step: ∀(i:Nat) (hi:i<l.tail.length),l.tail[i].1=2→cC l ((i:Int),(l.tail.take i).map (·.2.2.2))=some (.inl (((i+1:Nat):Int),(l.tail.take (i+1)).map (·.2.2.2))):=fun i hi h2=>by
  rw[body];rw[zB (show((i:Int),(l.tail.take i).map (·.2.2.2)).1<_ by simp only;omega),zC];refine bE (nK hi) ?_;rw[zA (by simpa using h2),zD,fO (by rw[aK,aM];omega) (by omega),cR (by simp only;omega),aO hi,aN];rfl
 rcases zr (fun x:Sg=>decide (x.1=2)) l.tail with h|⟨i,hi,h2,h3⟩
 ·rw[zE h]
  have hall: ∀(i:Nat) (hi:i<l.tail.length),l.tail[i].1=2:=fun i hi=>by
   have:=List.all_eq_true.1 h _ (aB hi);simpa using this
  have key:aw (cC l) di (0,[])=some (.inr (l.tail.map (·.2.2.2))):=by
   refine jC (f:=cC l) (n:=l.tail.length) (fun i=>((i:Int),(l.tail.take i).map (·.2.2.2))) (by omega) ?_ ?_
   ·exact fun i hi=>step i hi (hall i hi)
   rw[body];simp only;rw[zA (by omega),zD,aG]
  rw[key];rfl
 ·have hn: ¬l.tail.all (fun x=>decide (x.1=2))=true:=fun h=>by
   have:=List.all_eq_true.1 h _ (aB hi);rw[h2]at this;cases this
  rw[zF hn];have hlt': ∀j,j<i→j<l.tail.length:=fun j hj=>Nat.lt_trans hj hi
  have hall: ∀(j:Nat) (hj:j<i),(l.tail[j]'(hlt' j hj)).1=2:=fun j hj=>by
   have:=h3 j hj;simpa using this
  have key:aw (cC l) di (0,[])=some (.inl false):=by
   refine jC (f:=cC l) (n:=i) (fun i=>((i:Int),(l.tail.take i).map (·.2.2.2))) (by omega) ?_ ?_
   ·exact fun j hj=>step j (hlt' j hj) (hall j hj)
   rw[body];simp only;rw[zB (by omega),zC];refine bE (nK hi) ?_;rw[zB (by simpa using h2),zC]
  rw[key];rfl
theorem HP {l:List Sg}(h0:l≠[])(hl:l.length≤100000)(z u v:Int):aw (cT z (u,v,l)) di (1,[])=some (match pF l with
  |some n=> .inr n
  |none=> .inl z):=by
 have h1:1≤l.length:=by cases l with
  |nil=>exact(h0 rfl).elim
  |cons _ _=>simp
 unfold pF;have hlt:l.tail.length+1=l.length:=by rw[aL];omega
 have get: ∀(i:Nat) (hi:i<l.tail.length),l[i+1]?=some l.tail[i]:=fun i hi=>by
  rw[←List.getElem?_tail,aI hi]
 have step: ∀(i:Nat) (hi:i<l.tail.length),l.tail[i].1=2→cT z (u,v,l) (((i+1:Nat):Int),(l.tail.take i).map (·.2.2.2))=some (.inl (((i+1+1:Nat):Int),(l.tail.take (i+1)).map (·.2.2.2))):=fun i hi h2=>by
  unfold cT;simp only;rw[zB (by omega),zC];refine bE (dC (show i+1<l.length by omega)) ?_;refine bE (get i hi) ?_;rw[zA (by simpa using h2),zD];refine bE (dC (show i+1<l.length by omega)) ?_;refine bE (get i hi) ?_;rw[fO (by rw[aK,aM];omega) (by omega),cR (by omega),aO hi,aN];rfl
 rcases zr (fun x:Sg=>decide (x.1=2)) l.tail with h|⟨i,hi,h2,h3⟩
 ·rw[zE h]
  have hall: ∀(i:Nat) (hi:i<l.tail.length),l.tail[i].1=2:=fun i hi=>by
   have:=List.all_eq_true.1 h _ (aB hi);simpa using this
  refine jC (f:=cT z (u,v,l)) (n:=l.tail.length) (fun i=>(((i+1:Nat):Int),(l.tail.take i).map (·.2.2.2))) (by omega) ?_ ?_
  ·exact fun i hi=>step i hi (hall i hi)
  unfold cT;simp only;rw[zA (by omega),zD,aG]
 ·have hn: ¬l.tail.all (fun x=>decide (x.1=2))=true:=fun h=>by
   have:=List.all_eq_true.1 h _ (aB hi);rw[h2]at this;cases this
  rw[zF hn];have hlt': ∀j,j<i→j<l.tail.length:=fun j hj=>Nat.lt_trans hj hi
  have hall: ∀(j:Nat) (hj:j<i),(l.tail[j]'(hlt' j hj)).1=2:=fun j hj=>by
   have:=h3 j hj;simpa using this
  refine jC (f:=cT z (u,v,l)) (n:=i) (fun i=>(((i+1:Nat):Int),(l.tail.take i).map (·.2.2.2))) (by omega) ?_ ?_
  ·exact fun j hj=>step j (hlt' j hj) (hall j hj)
  unfold cT;simp only;rw[zB (by omega),zC];refine bE (dC (show i+1<l.length by omega)) ?_;refine bE (get i hi) ?_;rw[zB (by simpa using h2),zC]
theorem xq {n:List Int}:dZ n=some (match n with
  |[x]=>if 2147483647<x then(0,false)else(IntKind.i64.wrap x,true)
  |_=>(0,false)):=by
 unfold dZ
 match n with
 |[]=>rfl
 |[x]=>
  show cond (decide (2147483647<x)) _ _=_;by_cases h:2147483647<x
  ·rw[zB h,zC];simp only[zE h]
  ·rw[zA h,zD];simp only[zF h];rfl
 |a::b::r=>
  rw[zB (by simp;omega),zC]
theorem Nl {l:List Int}{i:Nat}(h0:0≤l.getD i 0)(h:l.getD i 0<128)(hi:i<l.length):fL l (i:Int)=l.getD i 0∧gf l (i:Int)=((i+1:Nat):Int):=by
 unfold fL gf tA;rw[aH];simp only[Nat.add_zero];rw[zE (by omega)];exact⟨by simp only;omega,rfl⟩
theorem Dc {w:List Int}(h0:w≠[])(hw: ∀b∈w,97≤b∧b≤122)(hl:w.length≤100000):eu w=some true:=by
 unfold eu;refine bE (a:= .inr ((w.length:Nat):Int)) ?_ ?_
 ·refine vK (n:=w.length) (by omega) (fun i hi=> ?_) ?_
  ·have hm:w.getD i 0∈w:=by
    rw[List.getD_eq_getElem?_getD,aI hi];exact aB hi
   have hb:=hw _ hm;obtain⟨r1,r2⟩:=Nl (l:=w) (i:=i) (by omega) (by omega) hi;unfold iU;rw[zB (show(0:Int)≤(i:Int)by omega)];show gd true _=_;rw[fp,zB (by omega),zC,r1,r2,zA (by omega),zD,zA (by omega),zD]
  ·unfold iU;rw[zB (show(0:Int)≤((w.length:Nat):Int)by omega)];show gd true _=_;rw[fp,zA (by omega),zD]
 ·show some (decide (w≠[]))=_;rw[zB h0]
structure Ln (x:List Int):Prop where
 b:cI x
 n: ∀y∈x,y≠10
 l:x.length≤5000
def DA (L:List (List Int)):Nat:=(L.map fun x=>x.length+1).sum
theorem lq (x:List Int)(L:List (List Int)):DA (x::L)=x.length+1+DA L:=by simp[DA]
theorem FT : ∀l cur:List Int,DA (gK l cur)≤l.length+cur.length+1
 |[],cur=>by
  unfold gK;split
  ·simp[DA]
  ·simp[DA]
 |x::l,cur=>by
  unfold gK;split
  ·have:=FT l [];rw[lq];simp at this⊢;omega
  ·have:=FT l (cur++[x]);simp at this⊢;omega
theorem I1 : ∀l cur:List Int,(∀y∈cur,y≠10)→∀x∈gK l cur,∀y∈x,y≠10
 |[],cur,hc,x,hx=>by
  unfold gK at hx;split at hx
  ·cases hx
  ·rw[aD]at hx;subst hx;exact hc
 |a::l,cur,hc,x,hx=>by
  unfold gK at hx;split at hx
  ·rcases List.mem_cons.1 hx with rfl|hx
   ·exact hc
   ·exact I1 l [] (fun y hy=>by cases hy) x hx
  ·rename_i ha
   exact I1 l (cur++[a]) (fun y hy=>by
    rcases List.mem_append.1 hy with h|h
    ·exact hc y h
    ·rw[aD]at h;subst h
     exact ha) x hx
theorem QD {l:List Int}(hb:cI l)(hl:l.length≤5000): ∀x∈gK l [],Ln x:=fun x hx=>by
 obtain⟨h1,h2⟩:=yx l [] x hx;exact⟨h2 hb fun n hn=>(by cases hn),I1 l [] (fun y hy=>by cases hy) x hx,by simp at h1;omega⟩
def pw (ls:List (List Int)):List Int:=ls.flatMap fun x=>x++[10]
theorem Hk : ∀ls:List (List Int),(∀x∈ls,Ln x)→gK (pw ls) []=ls
 |[],_=>rfl
 |x::r,h=>by
  show gK ((x++[10])++pw r) []=_;rw[List.append_assoc,ng x _ _ (h x (aA ..)).n,aF];show gK (10::pw r) x=_;rw[vI,Hk r fun y hy=>h y (aC _ hy)]
def rk :List (List Int)→List (List Int)
 |[]=>[]
 |x::r=>if r=[]∧x=[]then []else x::rk r
theorem CM : ∀ls:List (List Int),(∀x∈ls,Ln x)→gK (pz ls [10]) []=rk ls
 |[],_=>rfl
 |[x],h=>by
  have e:=ng x [] [] (h x (aA ..)).n;rw[List.append_nil,aF]at e;show gK x []=_;rw[e];unfold gK rk;by_cases hx:x=[]
  ·rw[zE hx,zE ⟨rfl,hx⟩]
  ·rw[zF hx,zF (fun k=>hx k.2)];rfl
 |x::y::r,h=>by
  rw[AE,ng x _ _ (h x (aA ..)).n,aF];show gK (10::pz (y::r) [10]) x=_;rw[vI,CM (y::r) fun z hz=>h z (aC _ hz)]
  conv=>rhs;unfold rk
  rw[zF (fun k=>by cases k.1)]
theorem FM : ∀ls:List (List Int),(∀x∈ls,Ln x)→cI (pw ls)∧(pw ls).length=DA ls
 |[],_=>⟨fun n hn=>(by cases hn),rfl⟩
 |x::r,h=>by
  obtain⟨h1,h2⟩:=FM r fun y hy=>h y (aC _ hy)
  have h0:=(h x (aA ..)).b;refine⟨?_, ?_⟩
  ·show cI ((x++[10])++pw r);exact(h0.app fun n hn=>by rw[aD]at hn;omega).app h1
  ·show((x++[10])++pw r).length=_;rw[lq,aE,h2,aE];rfl
theorem J3 : ∀ls:List (List Int),(∀x∈ls,Ln x)→cI (pz ls [10])∧(pz ls [10]).length≤DA ls
 |[],_=>⟨fun n hn=>(by cases hn),Nat.zero_le _⟩
 |[x],h=>⟨(h x (aA ..)).b,by rw[lq];show x.length≤_;omega⟩
 |x::y::r,h=>by
  obtain⟨h1,h2⟩:=J3 (y::r) fun z hz=>h z (aC _ hz)
  have h0:=(h x (aA ..)).b;rw[AE];refine⟨h0.app (cI.app (fun n hn=>by rw[aD]at hn;omega) h1), ?_⟩;rw[lq,aE,aE];simp only[aJ,List.length_nil]at*;omega
def ob (x:List Int):Prop:=(be x).2.1=0∧(be x).2.2=[]
instance (x :List Int):Decidable (ob x):=by unfold ob;infer_instance
theorem xr {x:List Int}(h:ob x)(s:tJ):oc x s= .inr s:=by
 unfold oc;rw[zF (by rw[h.1];simp),zE h.2]
theorem Jy {x:List Int}{s s':tJ}(h:oc x s= .inr s')(h':s'.1=false):s.1=false∧ob x∧s'=s:=by
 unfold oc at h;split at h
 ·cases h
 rename_i h1;split at h
 ·rename_i h2;injection h with h
  subst h;exact⟨h',⟨Classical.byContradiction fun k=>h1 k,h2⟩,rfl⟩
 split at h
 ·split at h
  ·cases h
  ·injection h with h
   subst h;cases h'
 ·rename_i hs;split at h
  ·cases h
  ·injection h with h
   subst h;exact(hs h').elim
theorem Nz {x:List Int}{s:tJ}{e:Int}(h:oc x s= .inl e): ¬ob x:=fun k=>by
 rw[xr k]at h;cases h
theorem En :ob []:=⟨rfl,rfl⟩
theorem zU (n:Nat)(x:List Int)(R:List (List Int))(i:Nat)(s:tJ):qL n (x::R) i s=match oc x s with
  | .inl e=>(0,(i:Int),e,[])
  | .inr s'=>qL n R (i+1) s':=rfl
theorem C7 (n1 n2:Nat): ∀(ls:List (List Int)) (i:Nat) (s:tJ),
  ((s.1=false∧∀x∈ls,ob x)∧qL n1 (rk ls) i s=(0,(n1:Int),3,[])∧qL n2 ls i s=(0,(n2:Int),3,[]))∨
  (¬(s.1=false∧∀x∈ls,ob x)∧qL n1 (rk ls) i s=qL n2 ls i s∧((qL n2 ls i s).2.2.1≠0→∃k:Nat,(qL n2 ls i s).2.1=k∧k<i+(rk ls).length))
 |[],i,s=>by
  cases hs:s.1 with
  |false=>
   left;refine⟨⟨rfl,fun x hx=>(by cases hx)⟩, ?_, ?_⟩
   ·show Eb n1 s=_;unfold Eb;rw[hs];rfl
   ·show Eb n2 s=_;unfold Eb;rw[hs];rfl
  |true=>
   right;have e: ∀n,Eb n s=(s.2.1,0,0,s.2.2):=fun n=>by unfold Eb;rw[hs];rfl
   refine⟨fun k=>(by cases k.1),(e n1).trans (e n2).symm,fun k=> ?_⟩;have:(Eb n2 s).2.2.1≠0:=k;rw[e]at this;exact(this rfl).elim
 |x::r,i,s=>by
  by_cases hd:r=[]∧x=[]
  ·obtain⟨rfl,rfl⟩:=hd;have e1:rk [[]]=[]:=rfl;rw[e1]
   have e2:qL n2 [[]] i s=qL n2 [] (i+1) s:=by
    rw[zU,xr En]
   rcases C7 n1 n2 [] i s with⟨h1,h2,h3⟩|⟨h1,h2,h3⟩
   ·exact .inl ⟨⟨h1.1,fun x hx=>(by rw[aD]at hx;subst hx;exact En)⟩,h2,e2.trans h3⟩
   ·refine .inr ⟨fun k=>h1 ⟨k.1,fun x hx=>(by cases hx)⟩,h2.trans e2.symm,fun k=> ?_⟩;rw[e2]at k⊢;exact h3 k
  ·have e1:rk (x::r)=x::rk r:=by
    conv=>lhs;unfold rk
    rw[zF hd]
   rw[e1];cases hst:oc x s with
   |inl e=>
    right
    have e2: ∀(n:Nat) (R:List (List Int)),qL n (x::R) i s=(0,(i:Int),e,[]):=fun n R=>by
     rw[zU,hst]
    refine⟨fun k=>Nz hst (k.2 x (aA ..)),(e2 n1 (rk r)).trans (e2 n2 r).symm,fun _=>⟨i,by rw[e2],by simp⟩⟩
   |inr s'=>
    have e2: ∀(n:Nat) (R:List (List Int)),qL n (x::R) i s=qL n R (i+1) s':=fun n R=>by
     rw[zU,hst]
    rw[e2,e2];rcases C7 n1 n2 r (i+1) s' with⟨h1,h2,h3⟩|⟨h1,h2,h3⟩
    ·obtain⟨k1,k2,k3⟩:=Jy hst h1.1;exact .inl ⟨⟨k1,fun y hy=>(List.mem_cons.1 hy).elim (fun e=>e.symm▸k2) (h1.2 y)⟩,h2,h3⟩
    ·refine .inr ⟨fun k=>h1 ⟨?_,fun y hy=>k.2 y (aC _ hy)⟩,h2,fun k=> ?_⟩
     ·have:=xr (k.2 x (aA ..)) s;rw[hst]at this;injection this with this
      rw[this];exact k.1
     ·obtain⟨q,q1,q2⟩:=h3 k;exact⟨q,q1,by rw[aJ];omega⟩
end
section
open List renaming getElem_mem → aA, length_cons → aB, length_drop → aC
def Qq :List Int:=[101,110,100]
def LM (x:List Int):Bool:=decide ((be x).2.1=0)&&(match(be x).2.2 with
 |[s]=>decide (s.2.2.1=Qq)
 |_=>false)
theorem RG {γ:Type}(x:List Int)(A B:Option γ):cond (decide ((be x).2.1=0)) (cond (decide ((((be x).2.2.length:Nat):Int)=1)) ((ix 0 (be x).2.2.length).bind fun j=>((be x).2.2[j]?).bind fun s=>cond (decide (s.2.2.1=Qq)) A B) B) B=cond (LM x) A B:=by
 unfold LM;generalize (be x).2.2=l;cases decide ((be x).2.1=0)with
 |false=>rfl
 |true=>
  match l with
  |[]=>rfl
  |[s]=>rfl
  |a::b::r=>
   rw[zC,zA (by simp;omega)];rfl
theorem He (x:List Int):cond (decide ((be x).2.1=0)) (cond (decide ((((be x).2.2.length:Nat):Int)=1)) ((ix 0 (be x).2.2.length).bind fun j=>((be x).2.2[j]?).bind fun s=>some (decide (s.2.2.1=Qq))) (some false)) (some false)=some (LM x):=by
 unfold LM;generalize (be x).2.2=l;cases decide ((be x).2.1=0)with
 |false=>rfl
 |true=>
  match l with
  |[]=>rfl
  |[s]=>rfl
  |a::b::r=>
   rw[zC,zA (by simp;omega)];rfl
structure Lns (L:List (List Int)):Prop where
 a: ∀x∈L,Ln x
 t:DA L≤6000
theorem Lns.len {L:List (List Int)}(h:Lns L):L.length≤6000:=by
 have: ∀M:List (List Int),M.length≤DA M:=fun M=>by
  induction M with
  |nil=>simp[DA]
  |cons x M ih=>rw[lq,aB];omega
 exact Nat.le_trans (this L) h.t
theorem Lns.sg {L:List (List Int)}(h:Lns L){i:Nat}(hi:i<L.length):gI L[i]=some (be L[i])∧ed L[i]=some (be L[i]):=by
 have hl:=h.a _ (aA hi);exact⟨AP hl.b (by have:=hl.l;omega),EX hl.b (by have:=hl.l;omega)⟩
theorem Kj {L:List (List Int)}(h:Lns L): ∀(d j:Nat),L.length-j=d→j≤L.length→
  (∃t,j≤t∧∃ht:t<L.length,LM L[t]=true∧(∀u (hu:u<t),j≤u→LM (L[u]'(by omega))=false)∧∀m,d+1≤m→aw (dz L) m (j:Int)=some (.inl (t:Int)))∨
  ((∀u (hu:u<L.length),j≤u→LM L[u]=false)∧∀m,d+1≤m→aw (dz L) m (j:Int)=some (.inr ()))
 |0,j,hd,hj=>by
  right;refine⟨fun u hu hju=>by omega,fun m hm=> ?_⟩;obtain⟨m,rfl⟩: ∃m',m=m'+1:=⟨m-1,by omega⟩
  rw[cf];unfold dz;rw[zA (by omega),zD];rfl
 |d+1,j,hd,hj=>by
  have hlt:j<L.length:=by omega
  have hlen:=h.len
  have e:dz L (j:Int)=cond (LM L[j]) (some (.inr (.inl (j:Int)))) (some (.inl ((j+1:Nat):Int))):=by
   unfold dz;rw[zB (by omega),zC];refine bE (nK hlt) ?_;refine bE (h.sg hlt).2 ?_;rw[cR (by omega)];exact RG L[j] _ _
  cases he:LM L[j]with
  |true=>
   left;refine⟨j,Nat.le_refl _,hlt,he,fun u hu hju=>by omega,fun m hm=> ?_⟩;obtain⟨m,rfl⟩: ∃m',m=m'+1:=⟨m-1,by omega⟩
   rw[cf,e,he];rfl
  |false=>
   have e2: ∀m,aw (dz L) (m+1) (j:Int)=aw (dz L) m ((j+1:Nat):Int):=fun m=>by
    rw[cf,e,he];rfl
   rcases Kj h d (j+1) (by omega) (by omega)with⟨t,h1,ht,h2,h3,h4⟩|⟨h1,h2⟩
   ·left;refine⟨t,by omega,ht,h2,fun u hu hju=> ?_,fun m hm=> ?_⟩
    ·by_cases k:u=j
     ·subst k;exact he
     ·exact h3 u hu (by omega)
    ·obtain⟨m,rfl⟩: ∃m',m=m'+1:=⟨m-1,by omega⟩
     rw[e2];exact h4 m (by omega)
   ·right;refine⟨fun u hu hju=> ?_,fun m hm=> ?_⟩
    ·by_cases k:u=j
     ·subst k;exact he
     ·exact h1 u hu (by omega)
    ·obtain⟨m,rfl⟩: ∃m',m=m'+1:=⟨m-1,by omega⟩
     rw[e2];exact h2 m (by omega)
def jk (L:List (List Int))(f t:Nat):List (List Int):=(L.drop f).take (t-f)
theorem NI {L:List (List Int)}: ∀f t,DA (jk L f t)≤DA L:=fun f t=>by
 have h1: ∀(M:List (List Int)) n,DA (M.take n)≤DA M:=fun M=>by
  induction M with
  |nil=>intro n;simp
  |cons x M ih=>
   intro n;cases n with
   |zero=>simp[DA]
   |succ n=>rw[List.take_succ_cons,lq,lq];have:=ih n;omega
 have h2: ∀(M:List (List Int)) n,DA (M.drop n)≤DA M:=fun M=>by
  induction M with
  |nil=>intro n;simp
  |cons x M ih=>
   intro n;cases n with
   |zero=>exact Nat.le_refl _
   |succ n=>rw[List.drop_succ_cons,lq];have:=ih n;omega
 exact Nat.le_trans (h1 _ _) (h2 _ _)
theorem H2 {L:List (List Int)}{f t:Nat}(h:f≤t)(ht:t≤L.length):(jk L f t).length=t-f:=by
 unfold jk;rw[List.length_take,aC];omega
theorem H3 {L:List (List Int)}{f t:Nat}{x:List Int}(h:x∈jk L f t):x∈L:=List.mem_of_mem_drop (List.mem_of_mem_take h)
theorem Np {L:List (List Int)}{f t:Nat}(h:f≤t)(ht:t<L.length):jk L f (t+1)=jk L f t++[L[t]]:=by
 unfold jk;rw[show t+1-f=(t-f)+1 by omega,List.take_succ_eq_append_getElem (by rw[aC];omega),List.getElem_drop]
 congr 2
 congr 1
 omega
theorem RN {ls:List (List Int)}(h: ∀x∈ls,Ln x)(ht:DA ls≤6000): ∃(R1 R2:Int×Int×Int×List BK) (M:List (List Int)),
  fQ ls [10]=some (pz ls [10])∧eZ (pz ls [10])=some R1∧dw (pz ls [10])=some M∧gG (pw ls)=some R2∧R2.2.2.2.length≤ls.length∧
  (((∀x∈ls,ob x)∧R1=(0,(M.length:Int),3,[])∧R2=(0,(ls.length:Int),3,[]))∨((¬∀x∈ls,ob x)∧R1=R2∧(R2.2.2.1≠0→∃k:Nat,R2.2.1=k∧k<M.length))):=by
 obtain⟨j1,j2⟩:=J3 ls h;obtain⟨f1,f2⟩:=FM ls h
 have hlen:ls.length≤DA ls:=by
  have: ∀M:List (List Int),M.length≤DA M:=fun M=>by
   induction M with
   |nil=>simp[DA]
   |cons x M ih=>rw[lq,aB];omega
  exact this ls
 have p1:=Pe j1 (by omega);have p2:=Li f1 (by omega);rw[CM ls h]at p1;rw[Hk ls h]at p2;have p3:=ve j1 (by omega);rw[CM ls h]at p3;refine⟨_,_,_, ?_,p1,p3,p2, ?_, ?_⟩
 ·unfold fQ J2;rw[zB (by omega),zB (by omega)];rfl
 ·have:=HW ls.length ls 0 (false,0,[]);simpa using this
 ·rcases C7 (rk ls).length ls.length ls 0 (false,0,[])with⟨h1,h2,h3⟩|⟨h1,h2,h3⟩
  ·exact .inl ⟨h1.2,h2,h3⟩
  ·refine .inr ⟨fun k=>h1 ⟨rfl,k⟩,h2,fun k=> ?_⟩;obtain⟨q,q1,q2⟩:=h3 k;exact⟨q,q1,by omega⟩
def D0 (ls:List (List Int)):Bool:=ls.all fun x=>decide (ob x)
theorem GF {ls:List (List Int)}:D0 ls=true↔∀x∈ls,ob x:=by
 unfold D0;rw[List.all_eq_true];simp
theorem HQ {L:List (List Int)}(h:Lns L){f t:Nat}(hf:f≤t)(ht:t≤L.length){R:Int×Int×Int×List BK}(hR:gG (pw (jk L f t))=some R):
  dI L (f:Int) (t:Int)=some (R.1,if R.2.2.1≠0∧D0 (jk L f t)=true then(t:Int)else IntKind.i64.wrap ((f:Int)+R.2.1),R.2.2.1,R.2.2.2):=by
 have hlen:=h.len;unfold dI
 have key:aw (eB L (t:Int)) di ((f:Int),([]:List Int),true)=some (pw (jk L f t),D0 (jk L f t)):=by
  have e0:(((f+0:Nat):Int),pw (jk L f (f+0)),D0 (jk L f (f+0)))=((f:Int),([]:List Int),true):=by
   unfold jk;rw[Nat.add_zero,Nat.sub_self,List.take_zero];rfl
  rw[←e0];refine jC (f:=eB L (t:Int)) (n:=t-f) (fun k=>(((f+k:Nat):Int),pw (jk L f (f+k)),D0 (jk L f (f+k)))) (by omega) ?_ ?_
  ·intro k hk;have hlt:f+k<L.length:=by omega
   have hln:=h.a _ (aA hlt);have hl1:=hln.l;have hfl:=(FM (jk L f (f+k)) fun x hx=>h.a x (H3 hx)).2;have hto:=NI (L:=L) f (f+k);have h6:=h.t;have es:jk L f (f+(k+1))=jk L f (f+k)++[L[f+k]]:=Np (by omega) hlt
   have e1:pw (jk L f (f+(k+1)))=(pw (jk L f (f+k))++L[f+k])++[10]:=by
    rw[es];unfold pw;rw[List.flatMap_append];simp
   have e2:D0 (jk L f (f+(k+1)))=(D0 (jk L f (f+k))&&decide (ob L[f+k])):=by
    rw[es];unfold D0;rw[List.all_append];simp
   unfold eB;simp only;rw[zB (by omega),zC];refine bE (nK hlt) ?_;rw[py (by omega),py (by rw[List.length_append];simp;omega)];refine bE (nK hlt) ?_;refine bE (h.sg hlt).2 ?_;rw[cR (by omega),e1,e2];have e3:((f+k:Nat):Int)+1=((f+(k+1):Nat):Int):=by omega
   rw[e3];by_cases hb:(be L[f+k]).2.1≠0
   ·rw[zB hb,zC,zA (show¬ob L[f+k]from fun q=>hb q.1),Bool.and_false]
   ·rw[zA hb,zD];by_cases hz:(be L[f+k]).2.2=[]
    ·rw[hz];rw[show decide (ob L[f+k])=true from zB ⟨Classical.byContradiction fun q=>hb q,hz⟩,Bool.and_true];rfl
    ·have:0<(be L[f+k]).2.2.length:=List.length_pos_iff.2 hz;rw[zB (by omega),zC,zA (show¬ob L[f+k]from fun q=>hz q.2),Bool.and_false]
  ·have e4:f+(t-f)=t:=by omega
   rw[e4];unfold eB;simp only;rw[zA (by omega),zD]
 refine bE key ?_;refine bE hR ?_;by_cases he:R.2.2.1≠0
 ·rw[zB he,zC];cases hb:D0 (jk L f t)with
  |true=>rw[zE ⟨he,rfl⟩];rfl
  |false=>rw[zF (fun k=>by cases k.2)];rfl
 ·rw[zA he,zD,zF (fun k=>he k.1)]
end
section
open List renaming getElem?_eq_getElem → aA, length → aB
structure Hs where
 mode:Int
 sr:Int
 lr:Int
 len:Int
 words:Int
 X:List Int
 T:List Int
 so:List BK
 lo:List BK
def h0 :Hs:=⟨0,0,0,0,0,[],[],[],[]⟩
abbrev SW :=Int×List Int×Int×Int×Int×Int×Int×List Int×Int×List Int×List Int×List BK×List BK×List (List Int)
abbrev Rk :=Int×Int×Int×Int×Int×Int×Int×Bool×Bool×Bool×Bool×Bool×Bool×Bool×List Int×List Int×List BK×List BK
def xA (i:Nat)(sn:List Int)(h:Hs)(op:List Int)(fr:Int)(ls:List (List Int)):SW:=((i:Int),sn,h.mode,h.sr,h.lr,h.len,h.words,op,fr,h.X,h.T,h.so,h.lo,ls)
def rN (i cnt:Nat)(h:Hs)(b:Nat→Bool):Rk:=((i:Int),(cnt:Int),h.mode,h.sr,h.lr,h.len,h.words,b 0,b 1,b 2,b 3,b 4,b 5,b 6,h.X,h.T,h.so,h.lo)
def AK (r1:List (List Int))(r47:((Int×Int×(List Int)×Int×Int×Int×Int×Int×(List Int)×Int×(List Int)×(List Int)×(List (Int×Int×Int×Int×Int))×(List (Int×Int×Int×Int×Int))×List (List Int))⊕((List Int)×Int×Int×Int×Int×Int×(List Int)×Int×(List Int)×(List Int)×(List (Int×Int×Int×Int×Int))×(List (Int×Int×Int×Int×Int))×List (List Int)))):Option (Int×Int×Int×Int×Int×Int×Int×(List Int)×(List Int)×(List (Int×Int×Int×Int×Int))×List (Int×Int×Int×Int×Int)):=
 bt r47 (fun⟨u'48_0,u'48_1,u'48_2,u'48_3,u'48_4,u'48_5,u'48_6,u'48_7,u'48_8,u'48_9,u'48_10,u'48_11,u'48_12,u'48_13,u'48_14⟩=>
  some ((0,0,0,0,0,u'48_0,u'48_1,[],[],[],[])))
  (fun⟨w49_0,w49_1,w49_2,w49_3,w49_4,w49_5,w49_6,w49_7,w49_8,w49_9,w49_10,w49_11,w49_12⟩=>
  cond (decide (w49_6≠([]:List Int)))
  (some ((0,0,0,0,0,(((aB r1):Nat):Int),3,[],[],[],[])))
  (cond (decide ((((rB w49_0:Nat):Int))≠7))
   (some ((0,0,0,0,0,(((aB r1):Nat):Int),3,[],[],[],[])))
   (some ((w49_1,w49_2,w49_3,w49_4,w49_5,0,0,w49_8,w49_9,w49_10,w49_11)))))
def AL (r1:List (List Int))(r54:((Int×Int×Int×Int×Int×Int×Int×Bool×Bool×Bool×Bool×Bool×Bool×Bool×(List Int)×(List Int)×(List (Int×Int×Int×Int×Int))×List (Int×Int×Int×Int×Int))⊕(Int×Int×Int×Int×Int×Int×Bool×Bool×Bool×Bool×Bool×Bool×Bool×(List Int)×(List Int)×(List (Int×Int×Int×Int×Int))×List (Int×Int×Int×Int×Int)))):Option (Int×Int×Int×Int×Int×Int×Int×(List Int)×(List Int)×(List (Int×Int×Int×Int×Int))×List (Int×Int×Int×Int×Int)):=
 bt r54 (fun⟨u'55_0,u'55_1,u'55_2,u'55_3,u'55_4,u'55_5,u'55_6,u'55_7,u'55_8,u'55_9,u'55_10,u'55_11,u'55_12,u'55_13,u'55_14,u'55_15,u'55_16,u'55_17⟩=>
  some ((0,0,0,0,0,u'55_0,u'55_1,[],[],[],[])))
  (fun⟨w56_0,w56_1,w56_2,w56_3,w56_4,w56_5,w56_6,w56_7,w56_8,w56_9,w56_10,w56_11,w56_12,w56_13,w56_14,w56_15,w56_16⟩=>
  cond (decide (w56_0<7))
  (some ((0,0,0,0,0,(((aB r1):Nat):Int),3,[],[],[],[])))
  (some ((w56_1,w56_2,w56_3,w56_4,w56_5,0,0,w56_13,w56_14,w56_15,w56_16))))
theorem Je {w:List Int}(hb:cI w)(hl:w.length≤5000):ic w=(aw (ap (gK w [])) di (xA 0 [] h0 [] 0 [])).bind (AK (gK w [])):=by
 unfold ic;rw[zA (by omega),zD];exact bE (ve hb (by omega)) rfl
theorem Jg {w:List Int}(hb:cI w)(hl:w.length≤5000):ja w=(aw (bc (gK w [])) di (rN 0 0 h0 fun _=>false)).bind (AL (gK w [])):=by
 unfold ja;rw[zA (by omega),zD];exact bE (EW hb (by omega)) rfl
def Ke (k:Nat)(n:List Int):Bool:=if k<3 then(match n with
 |[x]=>decide (x≤2147483647)
 |_=>false)else if k<5 then true else decide (n=[])
def PB (k:Nat)(n:List Int)(h:Hs):Hs:=match k with
 |0=>{h with mode:=IntKind.i64.wrap (n.getD 0 0)}
 |1=>{h with len:=IntKind.i64.wrap (n.getD 0 0)}
 |2=>{h with words:=IntKind.i64.wrap (n.getD 0 0)}
 |3=>{h with X:=n}
 |4=>{h with T:=n}
 |_=>h
section
variable {L:List (List Int)} (H:Lns L) {i:Nat} (hi:i<L.length)
def LP (L:List (List Int))(s:SW)(l:Int)(e:Int):Prop:= ∃c,ap L s=some (.inr (.inl c))∧c.1=l∧c.2.1=e
def DD (L:List (List Int))(s:Rk)(l:Int)(e:Int):Prop:= ∃c,bc L s=some (.inr (.inl c))∧c.1=l∧c.2.1=e
include H hi
theorem Ls {sn:List Int}{h:Hs}{fr:Int}{ls:List (List Int)}(he:(be L[i]).2.1≠0):LP L (xA i sn h [] fr ls) i (be L[i]).2.1:=by
 refine⟨((i:Int),(be L[i]).2.1,sn,h.mode,h.sr,h.lr,h.len,h.words,[],fr,h.X,h.T,h.so,h.lo,ls), ?_,rfl,rfl⟩;unfold ap xA;dsimp only;rw[zB (by omega),zC];refine bE (dC hi) ?_;refine bE (aA hi) ?_;refine bE (H.sg hi).1 ?_;refine bE (He L[i]) ?_;refine bE (a:=false) rfl ?_;rw[zD,show decide (([]:List Int)≠[])=false from rfl,zD,zB he,zC];rfl
theorem Lt {sn:List Int}{h:Hs}{fr:Int}{ls:List (List Int)}(he:(be L[i]).2.1=0)(hl:(be L[i]).2.2=[]):ap L (xA i sn h [] fr ls)=some (.inl (xA (i+1) sn h [] fr ls)):=by
 have hlen:=H.len;unfold ap xA;dsimp only;rw[zB (by omega),zC];refine bE (dC hi) ?_;refine bE (aA hi) ?_;refine bE (H.sg hi).1 ?_;refine bE (He L[i]) ?_;refine bE (a:=false) rfl ?_;rw[zD,show decide (([]:List Int)≠[])=false from rfl,zD,zA (by rw[he];simp),zD,hl];rw[cR (by omega)];rfl
theorem Ld {sn op:List Int}{h:Hs}{fr:Int}{ls:List (List Int)}(ho:op≠[])(hE:LM L[i]=false)(hls:ls.length≤10000):ap L (xA i sn h op fr ls)=some (.inl (xA (i+1) sn h op fr (ls++[L[i]]))):=by
 have hlen:=H.len;unfold ap xA;dsimp only;rw[zB (by omega),zC];refine bE (dC hi) ?_;refine bE (aA hi) ?_;refine bE (H.sg hi).1 ?_;refine bE (He L[i]) ?_;rw[hE,zB ho,zC];refine bE (a:=false) rfl ?_;rw[zD,zC,fO (by omega) (by omega),cR (by omega)];rfl
theorem Lu {cnt:Nat}{h:Hs}{b:Nat→Bool}(he:(be L[i]).2.1≠0):DD L (rN i cnt h b) i (be L[i]).2.1:=by
 refine⟨((i:Int),(be L[i]).2.1,h.mode,h.sr,h.lr,h.len,h.words,b 0,b 1,b 2,b 3,b 4,b 5,b 6,h.X,h.T,h.so,h.lo), ?_,rfl,rfl⟩;unfold bc rN;dsimp only;rw[zB (by omega),zC];refine bE (dC hi) ?_;refine bE (aA hi) ?_;refine bE (H.sg hi).2 ?_;rw[zB he,zC]
theorem Lv {cnt:Nat}{h:Hs}{b:Nat→Bool}(he:(be L[i]).2.1=0)(hl:(be L[i]).2.2=[]):bc L (rN i cnt h b)=some (.inl (rN (i+1) cnt h b)):=by
 have hlen:=H.len;unfold bc rN;dsimp only;rw[zB (by omega),zC];refine bE (dC hi) ?_;refine bE (aA hi) ?_;refine bE (H.sg hi).2 ?_;rw[zA (by rw[he];simp),zD,hl,cR (by omega)];rfl
end
end
section
open Go.IntKind renaming wrap → zH, i64 → zI, u64 → zJ
open Bool renaming not_true → aB
open List renaming length → aA
def lU (sn:List Int)(x38:Sg)(l:List Sg)(r39:Bool×List Int)(s25_2 s25_3 s25_4 s25_5 s25_6:Int)(s25_7:List Int)(s25_8:Int)(s25_9 s25_10:List Int):Option ((Int×Int×Int×Int×Int×(List Int)×Int×(List Int)×List Int)⊕(Int×Int×Int×Int×Int×(List Int)×Int×(List Int)×List Int)):=(cond (!r39.1)
    (some ((.inl ((s25_2,s25_3,s25_4,s25_5,s25_6,s25_7,s25_8,s25_9,s25_10)))))
    (cond ((Option.isSome (fV sn x38.2.2.1)))
    (some ((.inl ((s25_2,s25_3,s25_4,s25_5,s25_6,s25_7,s25_8,s25_9,s25_10)))))
    ((ix 0 ((aA l))).bind fun j40=>
    (l[j40]?).bind fun x41=>
    cond (decide (x41.1≠1))
     (some ((.inl ((s25_2,s25_3,s25_4,s25_5,s25_6,s25_7,s25_8,s25_9,s25_10)))))
     ((eu x38.2.2.1).bind fun r42=>
     cond (!r42)
     (some ((.inl ((s25_2,s25_3,s25_4,s25_5,s25_6,s25_7,s25_8,s25_9,s25_10)))))
     ((dZ r39.2).bind fun r43=>
     cond (decide (x38.2.2.1=([109,111,100,101]:List Int)))
      (cond (!r43.2)
      (some ((.inl ((r43.1,s25_3,s25_4,s25_5,s25_6,s25_7,s25_8,s25_9,s25_10)))))
      (some ((.inr ((r43.1,s25_3,s25_4,s25_5,s25_6,s25_7,s25_8,s25_9,s25_10))))))
      (cond (decide (x38.2.2.1=([108,101,110]:List Int)))
      (cond (!r43.2)
       (some ((.inl ((s25_2,s25_3,s25_4,r43.1,s25_6,s25_7,s25_8,s25_9,s25_10)))))
       (some ((.inr ((s25_2,s25_3,s25_4,r43.1,s25_6,s25_7,s25_8,s25_9,s25_10))))))
      (cond (decide (x38.2.2.1=([119,111,114,100,115]:List Int)))
       (cond (!r43.2)
       (some ((.inl ((s25_2,s25_3,s25_4,s25_5,r43.1,s25_7,s25_8,s25_9,s25_10)))))
       (some ((.inr ((s25_2,s25_3,s25_4,s25_5,r43.1,s25_7,s25_8,s25_9,s25_10))))))
       (cond (decide (x38.2.2.1=([120]:List Int)))
       (some ((.inr ((s25_2,s25_3,s25_4,s25_5,s25_6,s25_7,s25_8,r39.2,s25_10)))))
       (cond (decide (x38.2.2.1=([116,104,101,116,97]:List Int)))
        (some ((.inr ((s25_2,s25_3,s25_4,s25_5,s25_6,s25_7,s25_8,s25_9,r39.2)))))
        (cond (decide (x38.2.2.1=([115,116,101,112]:List Int)))
        (cond (!(decide (((((aA r39.2):Nat):Int))=0)))
         (some ((.inl ((s25_2,s25_3,s25_4,s25_5,s25_6,x38.2.2.1,s25_8,s25_9,s25_10)))))
         (some ((.inr ((s25_2,s25_3,s25_4,s25_5,s25_6,x38.2.2.1,s25_8,s25_9,s25_10))))))
        (cond (decide (x38.2.2.1=([108,111,115,115]:List Int)))
         (cond (!(decide (((((aA r39.2):Nat):Int))=0)))
         (some ((.inl ((s25_2,s25_3,s25_4,s25_5,s25_6,x38.2.2.1,s25_8,s25_9,s25_10)))))
         (some ((.inr ((s25_2,s25_3,s25_4,s25_5,s25_6,x38.2.2.1,s25_8,s25_9,s25_10))))))
         (some ((.inl ((s25_2,s25_3,s25_4,s25_5,s25_6,s25_7,s25_8,s25_9,s25_10))))))))))))))))
theorem Ja {k:Nat}(hk:k<3)(n:List Int):dZ n=some (if Ke k n then(zH zI (n.getD 0 0),true)else(0,false)):=by
 rw[xq];unfold Ke;rw[zE hk]
 match n with
 |[]=>rfl
 |[x]=>
  simp only;by_cases h:2147483647<x
  ·rw[zE h,zF (by simp;omega)]
  ·rw[zF h,zE (by simp;omega)];rfl
 |a::b::r=>rfl
section
variable {sn:List Int} {s:Sg} {r:List Sg} {a2 a3 a4 a5 a6:Int} {a7:List Int} {a8:Int} {a9 a10:List Int}
theorem CB (h:pF (s::r)=none):lU sn s (s::r) (false,[]) a2 a3 a4 a5 a6 a7 a8 a9 a10=some (.inl (a2,a3,a4,a5,a6,a7,a8,a9,a10)):=rfl
theorem IY {n:List Int}(h:(fV sn s.2.2.1).isSome=true):lU sn s (s::r) (true,n) a2 a3 a4 a5 a6 a7 a8 a9 a10=some (.inl (a2,a3,a4,a5,a6,a7,a8,a9,a10)):=by
 unfold lU;rw[aB,zD,h,zC]
theorem IX {n:List Int}(h:(fV sn s.2.2.1).isSome=false)(hk:s.1≠1):lU sn s (s::r) (true,n) a2 a3 a4 a5 a6 a7 a8 a9 a10=some (.inl (a2,a3,a4,a5,a6,a7,a8,a9,a10)):=by
 unfold lU;rw[aB,zD,h,zD];refine bE (dC (k:=0) (by simp)) ?_;refine bE (a:=s) rfl ?_;rw[zB hk,zC]
theorem CC {n:List Int}(h:(fV sn s.2.2.1).isSome=false)(hk:s.1=1)(hg:tN s)(hw:s.2.2.1.length≤100000):lU sn s (s::r) (true,n) a2 a3 a4 a5 a6 a7 a8 a9 a10=(dZ n).bind fun r43=>cond (decide (s.2.2.1=W7 0)) (cond (!r43.2) (some (.inl (r43.1,a3,a4,a5,a6,a7,a8,a9,a10))) (some (.inr (r43.1,a3,a4,a5,a6,a7,a8,a9,a10))))
  (cond (decide (s.2.2.1=W7 1)) (cond (!r43.2) (some (.inl (a2,a3,a4,r43.1,a6,a7,a8,a9,a10))) (some (.inr (a2,a3,a4,r43.1,a6,a7,a8,a9,a10))))
  (cond (decide (s.2.2.1=W7 2)) (cond (!r43.2) (some (.inl (a2,a3,a4,a5,r43.1,a7,a8,a9,a10))) (some (.inr (a2,a3,a4,a5,r43.1,a7,a8,a9,a10))))
  (cond (decide (s.2.2.1=W7 3)) (some (.inr (a2,a3,a4,a5,a6,a7,a8,n,a10)))
  (cond (decide (s.2.2.1=W7 4)) (some (.inr (a2,a3,a4,a5,a6,a7,a8,a9,n)))
  (cond (decide (s.2.2.1=W7 5)) (cond (!(decide ((((aA n):Nat):Int)=0))) (some (.inl (a2,a3,a4,a5,a6,s.2.2.1,a8,a9,a10))) (some (.inr (a2,a3,a4,a5,a6,s.2.2.1,a8,a9,a10))))
  (cond (decide (s.2.2.1=W7 6)) (cond (!(decide ((((aA n):Nat):Int)=0))) (some (.inl (a2,a3,a4,a5,a6,s.2.2.1,a8,a9,a10))) (some (.inr (a2,a3,a4,a5,a6,s.2.2.1,a8,a9,a10))))
  (some (.inl (a2,a3,a4,a5,a6,a7,a8,a9,a10))))))))):=by
 have hlet:eu s.2.2.1=some true:=by
  rcases hg with g|g|g
  ·exact Dc g.2.1 g.2.2.1 hw
  ·exact absurd hk (by rw[g.1];decide)
  ·exact absurd hk (by rw[g.1];decide)
 unfold lU;rw[aB,zD,h,zD];refine bE (dC (k:=0) (by simp)) ?_;refine bE (a:=s) rfl ?_;rw[zA (fun q=>q hk),zD];refine bE hlet ?_;rfl
theorem PZ {j k:Nat}(hj:j<7)(hk:k<7)(h:j≠k):W7 j≠W7 k:=by
 have key: ∀j,j<7→∀k,k<7→j≠k→W7 j≠W7 k:=by decide
 exact key j hj k hk h
theorem Dz {j k:Nat}(hj:j<7)(hk:k<7)(h:j≠k):decide (W7 j=W7 k)=false:=zA (PZ hj hk h)
theorem JZ {n:List Int}{k:Nat}(hk7:k<7)(h:(fV sn s.2.2.1).isSome=false)(hk:s.1=1)(hg:tN s)(hw:s.2.2.1.length≤100000)(he:s.2.2.1=W7 k):
  if Ke k n=true then lU sn s (s::r) (true,n) a2 a3 a4 a5 a6 a7 a8 a9 a10=some (.inr (if k=0 then zH zI (n.getD 0 0)else a2,a3,a4,if k=1 then zH zI (n.getD 0 0)else a5,if k=2 then zH zI (n.getD 0 0)else a6,if 5≤k then W7 k else a7,a8,if k=3 then n else a9,if k=4 then n else a10))
  else∃v,lU sn s (s::r) (true,n) a2 a3 a4 a5 a6 a7 a8 a9 a10=some (.inl v):=by
 rw[CC h hk hg hw,he]
 have hl0:decide ((((aA n):Nat):Int)=0)=decide (n=[]):=by
  cases n with
  |nil=>rfl
  |cons a r=>rw[zA (by simp;omega),zA (by simp)]
 rw[hl0];rcases(show k=0∨k=1∨k=2∨k=3∨k=4∨k=5∨k=6 by omega)with rfl|rfl|rfl|rfl|rfl|rfl|rfl
 ·rw[Ja (k:=0) (by omega)];rw[zB rfl,zG,zC];split
  ·rfl
  ·exact⟨_,rfl⟩
 ·rw[Ja (k:=1) (by omega)];rw[Dz (j:=1) (k:=0) (by omega) (by omega) (by omega),zB rfl,zG,zD,zC];split
  ·rfl
  ·exact⟨_,rfl⟩
 ·rw[Ja (k:=2) (by omega)];rw[Dz (j:=2) (k:=0) (by omega) (by omega) (by omega),Dz (j:=2) (k:=1) (by omega) (by omega) (by omega),zB rfl,zG,zD,zD,zC];split
  ·rfl
  ·exact⟨_,rfl⟩
 all_goals obtain⟨z,hz⟩: ∃z,dZ n=some z:=⟨_,xq⟩
 all_goals rw[hz,zG]
 ·rw[Dz (j:=3) (k:=0) (by omega) (by omega) (by omega),Dz (j:=3) (k:=1) (by omega) (by omega) (by omega),Dz (j:=3) (k:=2) (by omega) (by omega) (by omega),zB rfl];rfl
 ·rw[Dz (j:=4) (k:=0) (by omega) (by omega) (by omega),Dz (j:=4) (k:=1) (by omega) (by omega) (by omega),Dz (j:=4) (k:=2) (by omega) (by omega) (by omega),Dz (j:=4) (k:=3) (by omega) (by omega) (by omega),zB rfl];rfl
 ·rw[Dz (j:=5) (k:=0) (by omega) (by omega) (by omega),Dz (j:=5) (k:=1) (by omega) (by omega) (by omega),Dz (j:=5) (k:=2) (by omega) (by omega) (by omega),Dz (j:=5) (k:=3) (by omega) (by omega) (by omega),Dz (j:=5) (k:=4) (by omega) (by omega) (by omega),zB (rfl:W7 5=W7 5)];show if decide (n=[])=true then _ else _
  by_cases q:n=[]
  ·rw[zB q,zE rfl];rfl
  ·rw[zA q,zF (by simp)];exact⟨_,rfl⟩
 ·rw[Dz (j:=6) (k:=0) (by omega) (by omega) (by omega),Dz (j:=6) (k:=1) (by omega) (by omega) (by omega),Dz (j:=6) (k:=2) (by omega) (by omega) (by omega),Dz (j:=6) (k:=3) (by omega) (by omega) (by omega),Dz (j:=6) (k:=4) (by omega) (by omega) (by omega),Dz (j:=6) (k:=5) (by omega) (by omega) (by omega),zB (rfl:W7 6=W7 6)];show if decide (n=[])=true then _ else _
  by_cases q:n=[]
  ·rw[zB q,zE rfl];rfl
  ·rw[zA q,zF (by simp)];exact⟨_,rfl⟩
theorem Ms {n:List Int}(h:(fV sn s.2.2.1).isSome=false)(hk:s.1=1)(hg:tN s)(hw:s.2.2.1.length≤100000)(he: ∀k,k<7→s.2.2.1≠W7 k): ∃v,lU sn s (s::r) (true,n) a2 a3 a4 a5 a6 a7 a8 a9 a10=some (.inl v):=by
 rw[CC h hk hg hw];obtain⟨z,hz⟩: ∃z,dZ n=some z:=⟨_,xq⟩
 rw[hz,zG];rw[zA (he 0 (by omega)),zA (he 1 (by omega)),zA (he 2 (by omega)),zA (he 3 (by omega)),zA (he 4 (by omega)),zA (he 5 (by omega)),zA (he 6 (by omega))];exact⟨_,rfl⟩
end
section
variable {L:List (List Int)} (H:Lns L) {i:Nat} (hi:i<L.length)
include H hi
theorem By {s:Sg}{r:List Sg}(hl:(be L[i]).2.2=s::r):tN s∧s.2.2.1.length≤100000∧(s::r).length≤100000:=by
 have hln:=H.a _ (List.getElem_mem hi);have h1:=oH L[i] s (by rw[hl];exact List.mem_cons_self ..);have h2:=vd L[i];have h3:=H8 L[i];have h6:=hln.l;rw[hl]at h2 h3;refine⟨h1, ?_,by omega⟩;have:s.2.2.1.length≤nt (s::r):=by unfold nt;simp
 have:s.2.2.1.length≤20*L[i].length:=by omega
 rcases h1 with g|g|g
 ·omega
 ·rw[g.2.2];have:=sJ (n:=s.2.2.2) g.2.1.2;omega
 ·obtain⟨c,e,_⟩:=g.2.1;rw[e];simp
theorem Ic {sn:List Int}{h:Hs}{fr:Int}{ls:List (List Int)}{s:Sg}{r:List Sg}(he:(be L[i]).2.1=0)(hl:(be L[i]).2.2=s::r):ap L (xA i sn h [] fr ls)=
  (lU sn s (s::r) (match pF (s::r)with
  |some n=>(true,n)
  |none=>(false,[])) h.mode h.sr h.lr h.len h.words [] fr h.X h.T).bind fun s44=>bt s44 (fun⟨u0,u1,u2,u3,u4,u5,u6,u7,u8⟩=>some (.inr (.inl ((i:Int),3,sn,u0,u1,u2,u3,u4,u5,u6,u7,u8,h.so,h.lo,ls)))) (fun⟨w0,w1,w2,w3,w4,w5,w6,w7,w8⟩=>some (.inl (zH zI ((i:Int)+1),(lJ sn s.2.2.1 (i:Int)),w0,w1,w2,w3,w4,w5,zH zI ((i:Int)+1),w7,w8,h.so,h.lo,[]))):=by
 obtain⟨g1,g2,g3⟩:=By H hi hl;unfold ap xA;dsimp only;rw[zB (by omega),zC];refine bE (dC hi) ?_;refine bE (List.getElem?_eq_getElem hi) ?_;refine bE (H.sg hi).1 ?_;refine bE (He L[i]) ?_;refine bE (a:=false) rfl ?_;rw[zD,show decide (([]:List Int)≠[])=false from rfl,zD,zA (by rw[he];simp),zD,hl,zA (by simp;omega),zD];refine bE (dC (k:=0) (by simp)) ?_;refine bE (a:=s) rfl ?_;refine bE (Dd (by simp) g3) ?_;rfl
end
end
section
open Go.IntKind renaming wrap → zH, i64 → zI, u64 → zJ
open List renaming length → aB, getElem?_eq_getElem → aD
open Nat renaming beq → aA
open Sum renaming inl → aC
def tp (r1:List (List Int))(r26:Int)(j30:Nat)(r38:Int⊕List Int):Rk→Option (Rk⊕((Int×Int×Int×Int×Int×Int×Int×Bool×Bool×Bool×Bool×Bool×Bool×Bool×List Int×List Int×List BK×List BK)⊕(Int×Int×Int×Int×Int×Int×Bool×Bool×Bool×Bool×Bool×Bool×Bool×List Int×List Int×List BK×List BK))):=fun⟨s20_0,s20_1,s20_2,s20_3,s20_4,s20_5,s20_6,s20_7,s20_8,s20_9,s20_10,s20_11,s20_12,s20_13,s20_14,s20_15,s20_16,s20_17⟩=>bt r38 (fun u'39=>
    some (.inr (((.inl ((u'39,3,s20_2,s20_3,s20_4,s20_5,s20_6,(cond (aA j30 0) true s20_7),(cond (aA j30 1) true s20_8),(cond (aA j30 2) true s20_9),(cond (aA j30 3) true s20_10),(cond (aA j30 4) true s20_11),(cond (aA j30 5) true s20_12),(cond (aA j30 6) true s20_13),s20_14,s20_15,s20_16,s20_17)))))))
    (fun w40=>
    (((cond (decide (r26<3))
     (cond (decide (((((aB w40):Nat):Int))≠1))
     (some ((.inl s20_0)))
     ((ix 0 ((aB w40))).bind fun j41=>
     (w40[j41]?).bind fun x42=>
     cond (decide (2147483647<x42))
      (some ((.inl s20_0)))
      (cond (decide (4<r26))
      (cond (decide (0<((((aB w40):Nat):Int))))
       (some ((.inl s20_0)))
       (some ((.inr ()))))
      (some ((.inr ()))))))
     (cond (decide (4<r26))
     (cond (decide (0<((((aB w40):Nat):Int))))
      (some ((.inl s20_0)))
      (some ((.inr ()))))
     (some ((.inr ()))))):Option ((Int)⊕(Unit)))).bind fun s43=>
    bt s43 (fun u'44=>
     some (.inr (((.inl ((u'44,3,s20_2,s20_3,s20_4,s20_5,s20_6,(cond (aA j30 0) true s20_7),(cond (aA j30 1) true s20_8),(cond (aA j30 2) true s20_9),(cond (aA j30 3) true s20_10),(cond (aA j30 4) true s20_11),(cond (aA j30 5) true s20_12),(cond (aA j30 6) true s20_13),s20_14,s20_15,s20_16,s20_17)))))))
     (fun w45=>
     cond (decide (r26=0))
     ((ix 0 ((aB w40))).bind fun j46=>
     (w40[j46]?).bind fun x47=>
     some (.inl ((zH zI (s20_0+1),zH zI (s20_1+1),zH zI (x47),s20_3,s20_4,s20_5,s20_6,(cond (aA j30 0) true s20_7),(cond (aA j30 1) true s20_8),(cond (aA j30 2) true s20_9),(cond (aA j30 3) true s20_10),(cond (aA j30 4) true s20_11),(cond (aA j30 5) true s20_12),(cond (aA j30 6) true s20_13),s20_14,s20_15,s20_16,s20_17))))
     (cond (decide (r26=1))
      ((ix 0 ((aB w40))).bind fun j48=>
      (w40[j48]?).bind fun x49=>
      some (.inl ((zH zI (s20_0+1),zH zI (s20_1+1),s20_2,s20_3,s20_4,zH zI (x49),s20_6,(cond (aA j30 0) true s20_7),(cond (aA j30 1) true s20_8),(cond (aA j30 2) true s20_9),(cond (aA j30 3) true s20_10),(cond (aA j30 4) true s20_11),(cond (aA j30 5) true s20_12),(cond (aA j30 6) true s20_13),s20_14,s20_15,s20_16,s20_17))))
      (cond (decide (r26=2))
      ((ix 0 ((aB w40))).bind fun j50=>
      (w40[j50]?).bind fun x51=>
      some (.inl ((zH zI (s20_0+1),zH zI (s20_1+1),s20_2,s20_3,s20_4,s20_5,zH zI (x51),(cond (aA j30 0) true s20_7),(cond (aA j30 1) true s20_8),(cond (aA j30 2) true s20_9),(cond (aA j30 3) true s20_10),(cond (aA j30 4) true s20_11),(cond (aA j30 5) true s20_12),(cond (aA j30 6) true s20_13),s20_14,s20_15,s20_16,s20_17))))
      (cond (decide (r26=3))
       (some (.inl ((zH zI (s20_0+1),zH zI (s20_1+1),s20_2,s20_3,s20_4,s20_5,s20_6,(cond (aA j30 0) true s20_7),(cond (aA j30 1) true s20_8),(cond (aA j30 2) true s20_9),(cond (aA j30 3) true s20_10),(cond (aA j30 4) true s20_11),(cond (aA j30 5) true s20_12),(cond (aA j30 6) true s20_13),w40,s20_15,s20_16,s20_17))))
       (cond (decide (r26=4))
       (some (.inl ((zH zI (s20_0+1),zH zI (s20_1+1),s20_2,s20_3,s20_4,s20_5,s20_6,(cond (aA j30 0) true s20_7),(cond (aA j30 1) true s20_8),(cond (aA j30 2) true s20_9),(cond (aA j30 3) true s20_10),(cond (aA j30 4) true s20_11),(cond (aA j30 5) true s20_12),(cond (aA j30 6) true s20_13),s20_14,w40,s20_16,s20_17))))
       ((eg r1 (zH zI (s20_0+1))).bind fun r52=>
       cond (decide (r52<0))
        (some (.inr (((.inl (((((aB r1):Nat):Int),3,s20_2,s20_3,s20_4,s20_5,s20_6,(cond (aA j30 0) true s20_7),(cond (aA j30 1) true s20_8),(cond (aA j30 2) true s20_9),(cond (aA j30 3) true s20_10),(cond (aA j30 4) true s20_11),(cond (aA j30 5) true s20_12),(cond (aA j30 6) true s20_13),s20_14,s20_15,s20_16,s20_17)))))))
        ((dI r1 (zH zI (s20_0+1)) r52).bind fun r53=>
        cond (decide (r53.2.2.1≠0))
        (some (.inr (((.inl ((r53.2.1,r53.2.2.1,s20_2,s20_3,s20_4,s20_5,s20_6,(cond (aA j30 0) true s20_7),(cond (aA j30 1) true s20_8),(cond (aA j30 2) true s20_9),(cond (aA j30 3) true s20_10),(cond (aA j30 4) true s20_11),(cond (aA j30 5) true s20_12),(cond (aA j30 6) true s20_13),s20_14,s20_15,s20_16,s20_17)))))))
        (cond (decide (r26=5))
         (some (.inl ((zH zI (r52+1),zH zI (s20_1+1),s20_2,r53.1,s20_4,s20_5,s20_6,(cond (aA j30 0) true s20_7),(cond (aA j30 1) true s20_8),(cond (aA j30 2) true s20_9),(cond (aA j30 3) true s20_10),(cond (aA j30 4) true s20_11),(cond (aA j30 5) true s20_12),(cond (aA j30 6) true s20_13),s20_14,s20_15,r53.2.2.2,s20_17))))
         (some (.inl ((zH zI (r52+1),zH zI (s20_1+1),s20_2,s20_3,r53.1,s20_5,s20_6,(cond (aA j30 0) true s20_7),(cond (aA j30 1) true s20_8),(cond (aA j30 2) true s20_9),(cond (aA j30 3) true s20_10),(cond (aA j30 4) true s20_11),(cond (aA j30 5) true s20_12),(cond (aA j30 6) true s20_13),s20_14,s20_15,s20_16,r53.2.2.2)))))))))))))
def Mr (z r26:Int)(w40:List Int):Option ((Int)⊕(Unit)):=(cond (decide (r26<3))
     (cond (decide (((((aB w40):Nat):Int))≠1))
     (some ((.inl z)))
     ((ix 0 ((aB w40))).bind fun j41=>
     (w40[j41]?).bind fun x42=>
     cond (decide (2147483647<x42))
      (some ((.inl z)))
      (cond (decide (4<r26))
      (cond (decide (0<((((aB w40):Nat):Int))))
       (some ((.inl z)))
       (some ((.inr ()))))
      (some ((.inr ()))))))
     (cond (decide (4<r26))
     (cond (decide (0<((((aB w40):Nat):Int))))
      (some ((.inl z)))
      (some ((.inr ()))))
     (some ((.inr ())))))
theorem yp {k:Nat}(hk:k<7)(z:Int)(n:List Int):Mr z (k:Int) n=some (if Ke k n=true then .inr ()else .inl z):=by
 unfold Mr Ke;rcases(show k=0∨k=1∨k=2∨k=3∨k=4∨k=5∨k=6 by omega)with rfl|rfl|rfl|rfl|rfl|rfl|rfl
 ·match n with
  |[]=>rfl
  |[x]=>
   show cond (decide (2147483647<x)) (some (aC z):Option (Int⊕Unit)) (some (.inr ()))=some (if decide (x≤2147483647)=true then .inr ()else .inl z);by_cases h:2147483647<x
   ·rw[zB h,zC,zF (by simp;omega)]
   ·rw[zA h,zD,zE (by simp;omega)]
  |a::b::r=>
   show cond (decide ((((a::b::r).length:Nat):Int)≠1)) (some (aC z):Option (Int⊕Unit)) _=some (.inl z);rw[zB (by simp<;>omega),zC]
 ·match n with
  |[]=>rfl
  |[x]=>
   show cond (decide (2147483647<x)) (some (aC z):Option (Int⊕Unit)) (some (.inr ()))=some (if decide (x≤2147483647)=true then .inr ()else .inl z);by_cases h:2147483647<x
   ·rw[zB h,zC,zF (by simp;omega)]
   ·rw[zA h,zD,zE (by simp;omega)]
  |a::b::r=>
   show cond (decide ((((a::b::r).length:Nat):Int)≠1)) (some (aC z):Option (Int⊕Unit)) _=some (.inl z);rw[zB (by simp<;>omega),zC]
 ·match n with
  |[]=>rfl
  |[x]=>
   show cond (decide (2147483647<x)) (some (aC z):Option (Int⊕Unit)) (some (.inr ()))=some (if decide (x≤2147483647)=true then .inr ()else .inl z);by_cases h:2147483647<x
   ·rw[zB h,zC,zF (by simp;omega)]
   ·rw[zA h,zD,zE (by simp;omega)]
  |a::b::r=>
   show cond (decide ((((a::b::r).length:Nat):Int)≠1)) (some (aC z):Option (Int⊕Unit)) _=some (.inl z);rw[zB (by simp;omega),zC]
 ·rfl
 ·rfl
 ·match n with
  |[]=>rfl
  |a::r=>
   show cond (decide (0<(((a::r).length:Nat):Int))) (some (aC z):Option (Int⊕Unit)) _=some (.inl z);rw[zB (by simp<;>omega),zC]
 ·match n with
  |[]=>rfl
  |a::r=>
   show cond (decide (0<(((a::r).length:Nat):Int))) (some (aC z):Option (Int⊕Unit)) _=some (.inl z);rw[zB (by simp<;>omega),zC]
def setB (k:Nat)(b:Nat→Bool):Nat→Bool:=fun j=>cond (aA k j) true (b j)
theorem RE (b:Nat→Bool){k:Nat}(hk:k<7):List.getD [b 0,b 1,b 2,b 3,b 4,b 5,b 6] k false=b k:=by
 rcases(show k=0∨k=1∨k=2∨k=3∨k=4∨k=5∨k=6 by omega)with rfl|rfl|rfl|rfl|rfl|rfl|rfl<;>rfl
section
variable {L:List (List Int)} (H:Lns L) {i:Nat} (hi:i<L.length) {cnt:Nat} {h:Hs} {b:Nat→Bool} {s:Sg} {r:List Sg} (he:(be L[i]).2.1=0) (hl:(be L[i]).2.2=s::r)
include H hi he hl
theorem Jv (hk:s.1≠1):DD L (rN i cnt h b) i 3:=by
 refine⟨((i:Int),3,h.mode,h.sr,h.lr,h.len,h.words,b 0,b 1,b 2,b 3,b 4,b 5,b 6,h.X,h.T,h.so,h.lo), ?_,rfl,rfl⟩
 obtain⟨p,hp⟩: ∃p,fA s.2.2.1=some p:=by
  by_cases q: ∃k,k<7∧s.2.2.1=W7 k
  ·obtain⟨k,k1,k2⟩:=q;exact⟨_,CY k1 k2⟩
  ·exact⟨_,HH fun k k1 k2=>q ⟨k,k1,k2⟩⟩
 unfold bc rN;dsimp only;rw[zB (by omega),zC];refine bE (dC hi) ?_;refine bE (aD hi) ?_;refine bE (H.sg hi).2 ?_;rw[zA (by rw[he];simp),zD,hl,zA (by simp;omega),zD];refine bE (dC (k:=0) (by simp)) ?_;refine bE (a:=s) rfl ?_;refine bE hp ?_;refine bE (dC (k:=0) (by simp)) ?_;refine bE (a:=s) rfl ?_;rw[zB hk,zC]
theorem Jx (hk:s.1=1)(hw: ∀k,k<7→s.2.2.1≠W7 k):DD L (rN i cnt h b) i 3:=by
 refine⟨((i:Int),3,h.mode,h.sr,h.lr,h.len,h.words,b 0,b 1,b 2,b 3,b 4,b 5,b 6,h.X,h.T,h.so,h.lo), ?_,rfl,rfl⟩;unfold bc rN;dsimp only;rw[zB (by omega),zC];refine bE (dC hi) ?_;refine bE (aD hi) ?_;refine bE (H.sg hi).2 ?_;rw[zA (by rw[he];simp),zD,hl,zA (by simp;omega),zD];refine bE (dC (k:=0) (by simp)) ?_;refine bE (a:=s) rfl ?_;refine bE (HH hw) ?_;refine bE (dC (k:=0) (by simp)) ?_;refine bE (a:=s) rfl ?_;rw[zA (fun q=>q hk),zD];rfl
theorem Jw {k:Nat}(hk7:k<7)(hk:s.1=1)(hw:s.2.2.1=W7 k)(hb:b k=true):DD L (rN i cnt h b) i 3:=by
 refine⟨((i:Int),3,h.mode,h.sr,h.lr,h.len,h.words,b 0,b 1,b 2,b 3,b 4,b 5,b 6,h.X,h.T,h.so,h.lo), ?_,rfl,rfl⟩;unfold bc rN;dsimp only;rw[zB (by omega),zC];refine bE (dC hi) ?_;refine bE (aD hi) ?_;refine bE (H.sg hi).2 ?_;rw[zA (by rw[he];simp),zD,hl,zA (by simp;omega),zD];refine bE (dC (k:=0) (by simp)) ?_;refine bE (a:=s) rfl ?_;refine bE (CY hk7 hw) ?_;refine bE (dC (k:=0) (by simp)) ?_;refine bE (a:=s) rfl ?_;rw[zA (fun q=>q hk),zD,zA (by omega),zD];refine bE (dC hk7) ?_;rw[RE b hk7,hb,zC]
theorem If {k:Nat}(hk7:k<7)(hk:s.1=1)(hw:s.2.2.1=W7 k)(hb:b k=false):bc L (rN i cnt h b)=tp L (k:Int) k (match pF (s::r)with
  |some n=> .inr n
  |none=> .inl (i:Int)) (rN i cnt h b):=by
 obtain⟨g1,g2,g3⟩:=By H hi hl;unfold bc rN;dsimp only;rw[zB (by omega),zC];refine bE (dC hi) ?_;refine bE (aD hi) ?_;refine bE (H.sg hi).2 ?_;rw[zA (by rw[he];simp),zD,hl,zA (by simp;omega),zD];refine bE (dC (k:=0) (by simp)) ?_;refine bE (a:=s) rfl ?_;refine bE (CY hk7 hw) ?_;refine bE (dC (k:=0) (by simp)) ?_;refine bE (a:=s) rfl ?_;rw[zA (fun q=>q hk),zD,zA (by omega),zD];refine bE (dC hk7) ?_;rw[RE b hk7,hb,zD];refine bE (dC hk7) ?_;have hsg:be L[i]=((be L[i]).1,0,s::r):=by rw[←he,←hl]
 rw[hsg];refine bE (HP (by simp) g3 (i:Int) _ _) ?_;rfl
end
section
variable {L:List (List Int)} (H:Lns L) {i cnt:Nat} (hi:i<L.length) {h:Hs} {b:Nat→Bool} {k:Nat} (hk:k<7) (j:Nat)
theorem KK : ∃c,tp L (k:Int) j (.inl (i:Int)) (rN i cnt h b)=some (.inr (.inl c))∧c.1=i∧c.2.1=3:=⟨_,rfl,rfl,rfl⟩
include hk
theorem Mb {n:List Int}(hn:Ke k n=false): ∃c,tp L (k:Int) j (.inr n) (rN i cnt h b)=some (.inr (.inl c))∧c.1=i∧c.2.1=3:=by
 have e:=yp hk (i:Int) n;rw[zF (by rw[hn];simp)]at e;unfold tp rN;dsimp only;rw[db];exact⟨_,bE e rfl,rfl,rfl⟩
include H hi
theorem Ob {n:List Int}(hn:Ke k n=true)(h5:k<5)(hc:cnt<100):tp L (k:Int) k (.inr n) (rN i cnt h b)=some (.inl (rN (i+1) (cnt+1) (PB k n h) (setB k b))):=by
 have hlen:=H.len;have e:=yp hk (i:Int) n;rw[zE hn]at e;unfold tp rN;dsimp only;rw[db];refine bE e ?_;rw[db,cR (n:=(i:Int)+1) (by omega),cR (n:=(cnt:Int)+1) (by omega)]
 have one:k<3→∃x,n=[x]:=fun q=>by
  unfold Ke at hn;rw[zE q]at hn
  match n,hn with
  |[x],_=>exact⟨x,rfl⟩
 rcases(show k=0∨k=1∨k=2∨k=3∨k=4 by omega)with rfl|rfl|rfl|rfl|rfl
 ·obtain⟨x,rfl⟩:=one (by omega);rfl
 ·obtain⟨x,rfl⟩:=one (by omega);rfl
 ·obtain⟨x,rfl⟩:=one (by omega);rfl
 ·rfl
 ·rfl
theorem IK {n:List Int}(hn:Ke k n=true)(h5:5≤k)(ht:eg L ((i+1:Nat):Int)=some (-1)): ∃c,tp L (k:Int) k (.inr n) (rN i cnt h b)=some (.inr (.inl c))∧c.1=L.length∧c.2.1=3:=by
 have hlen:=H.len;have e:=yp hk (i:Int) n;rw[zE hn]at e;unfold tp rN;dsimp only;rw[db];have e1:zH zI ((i:Int)+1)=((i+1:Nat):Int):=by rw[cR (by omega)];rfl
 rcases(show k=5∨k=6 by omega)with rfl|rfl
 ·refine⟨((L.length:Int),3,h.mode,h.sr,h.lr,h.len,h.words,setB 5 b 0,setB 5 b 1,setB 5 b 2,setB 5 b 3,setB 5 b 4,setB 5 b 5,setB 5 b 6,h.X,h.T,h.so,h.lo),bE e ?_,rfl,rfl⟩;rw[db,e1];exact bE ht rfl
 ·refine⟨((L.length:Int),3,h.mode,h.sr,h.lr,h.len,h.words,setB 6 b 0,setB 6 b 1,setB 6 b 2,setB 6 b 3,setB 6 b 4,setB 6 b 5,setB 6 b 6,h.X,h.T,h.so,h.lo),bE e ?_,rfl,rfl⟩;rw[db,e1];exact bE ht rfl
theorem GY {n:List Int}(hn:Ke k n=true)(h5:5≤k){t:Nat}(ht:eg L ((i+1:Nat):Int)=some (t:Int)){P:Int×Int×Int×List BK}(hP:dI L ((i+1:Nat):Int) (t:Int)=some P)(hp:P.2.2.1≠0): ∃c,tp L (k:Int) k (.inr n) (rN i cnt h b)=some (.inr (.inl c))∧c.1=P.2.1∧c.2.1=P.2.2.1:=by
 have hlen:=H.len;have e:=yp hk (i:Int) n;rw[zE hn]at e;unfold tp rN;dsimp only;rw[db];have e1:zH zI ((i:Int)+1)=((i+1:Nat):Int):=by rw[cR (by omega)];rfl
 have e2:decide ((t:Int)<0)=false:=zA (by omega);have e3:decide (P.2.2.1≠0)=true:=zB hp;rcases(show k=5∨k=6 by omega)with rfl|rfl
 ·refine⟨(P.2.1,P.2.2.1,h.mode,h.sr,h.lr,h.len,h.words,setB 5 b 0,setB 5 b 1,setB 5 b 2,setB 5 b 3,setB 5 b 4,setB 5 b 5,setB 5 b 6,h.X,h.T,h.so,h.lo),bE e ?_,rfl,rfl⟩;rw[db,e1];refine bE ht ?_;rw[e2,zD];refine bE hP ?_;rw[e3,zC];rfl
 ·refine⟨(P.2.1,P.2.2.1,h.mode,h.sr,h.lr,h.len,h.words,setB 6 b 0,setB 6 b 1,setB 6 b 2,setB 6 b 3,setB 6 b 4,setB 6 b 5,setB 6 b 6,h.X,h.T,h.so,h.lo),bE e ?_,rfl,rfl⟩;rw[db,e1];refine bE ht ?_;rw[e2,zD];refine bE hP ?_;rw[e3,zC];rfl
theorem KL {n:List Int}(hn:Ke k n=true)(h5:5≤k)(hc:cnt<100){t:Nat}(htl:t<L.length)(ht:eg L ((i+1:Nat):Int)=some (t:Int)){P:Int×Int×Int×List BK}(hP:dI L ((i+1:Nat):Int) (t:Int)=some P)(hp:P.2.2.1=0):
  tp L (k:Int) k (.inr n) (rN i cnt h b)=some (.inl (rN (t+1) (cnt+1) (if k=5 then {h with sr:=P.1,so:=P.2.2.2}else {h with lr:=P.1,lo:=P.2.2.2}) (setB k b))):=by
 have hlen:=H.len;have e:=yp hk (i:Int) n;rw[zE hn]at e;unfold tp rN;dsimp only;rw[db];have e1:zH zI ((i:Int)+1)=((i+1:Nat):Int):=by rw[cR (by omega)];rfl
 have e2:decide ((t:Int)<0)=false:=zA (by omega);have e3:decide (P.2.2.1≠0)=false:=zA (fun q=>q hp);have e4:zH zI ((t:Int)+1)=((t+1:Nat):Int):=by rw[cR (by omega)];rfl
 have e5:zH zI ((cnt:Int)+1)=((cnt+1:Nat):Int):=by rw[cR (by omega)];rfl
 rcases(show k=5∨k=6 by omega)with rfl|rfl
 ·refine bE e ?_;rw[db,e1];refine bE ht ?_;rw[e2,zD];refine bE hP ?_;rw[e3,zD,e4,e5];rfl
 ·refine bE e ?_;rw[db,e1];refine bE ht ?_;rw[e2,zD];refine bE hP ?_;rw[e3,zD,e4,e5];rfl
end
end
section
open Go.IntKind renaming wrap → zH, i64 → zI, u64 → zJ
open Bool renaming toNat → aA
theorem EJ (m:List (List Int×Int))(w:List Int):(fV (dp m) w).isSome=true↔∃p∈m,p.1=w:=by
 unfold fV;rw[vN,Option.isSome_map,List.find?_isSome];simp
theorem EM {m:List (List Int×Int)}{w:List Int}{v:Int}(h: ¬∃p∈m,p.1=w):lJ (dp m) w v=dp (m++[(w,v)]):=by
 unfold lJ;rw[vN]
 congr 1
 induction m with
 |nil=>rfl
 |cons p m ih=>
  unfold sN;rw[zF (fun e=>h ⟨p,List.mem_cons_self ..,e⟩),ih (fun⟨q,q1,q2⟩=>h ⟨q,List.mem_cons_of_mem _ q1,q2⟩)];rfl
theorem K4 (m:List (List Int×Int)):rB (dp m)=m.length:=by
 unfold rB;rw[vN]
structure Inv8 (m:List (List Int×Int))(cnt:Nat)(b:Nat→Bool):Prop where
 s: ∀k,k<7→(b k=true↔∃p∈m,p.1=W7 k)
 l:m.length=cnt
 c:cnt=(b 0).toNat+(b 1).toNat+(b 2).toNat+(b 3).toNat+(b 4).toNat+(b 5).toNat+(b 6).toNat
theorem Inv8.le {m:List (List Int×Int)}{cnt:Nat}{b:Nat→Bool}(h:Inv8 m cnt b):cnt≤7:=by
 have:=fun k=>Bool.toNat_le (b k)
 have h0:=this 0;have h1:=this 1;have h2:=this 2;have h3:=this 3;have h4:=this 4;have h5:=this 5;have h6:=this 6;have:=h.c;omega
theorem Inv8.add {m:List (List Int×Int)}{cnt:Nat}{b:Nat→Bool}(h:Inv8 m cnt b){k:Nat}(hk:k<7)(hb:b k=false)(v:Int):Inv8 (m++[(W7 k,v)]) (cnt+1) (setB k b):=by
 refine⟨fun j hj=> ?_,by rw[List.length_append,h.l];rfl, ?_⟩
 ·unfold setB;by_cases e:k=j
  ·subst e;rw[Nat.beq_refl,zC];exact⟨fun _=>⟨(W7 k,v),by simp,rfl⟩,fun _=>rfl⟩
  ·rw[show Nat.beq k j=false from by cases q:Nat.beq k j with
    |false=>rfl
    |true=>exact(e (Nat.eq_of_beq_eq_true q)).elim,zD,h.s j hj]
   constructor
   ·rintro⟨p,p1,p2⟩;exact⟨p,by simp[p1],p2⟩
   ·rintro⟨p,p1,p2⟩;rcases List.mem_append.1 p1 with q|q
    ·exact⟨p,q,p2⟩
    ·rw[List.mem_singleton]at q;subst q;exact(PZ hk hj e p2).elim
 ·have hc:=h.c;rcases(show k=0∨k=1∨k=2∨k=3∨k=4∨k=5∨k=6 by omega)with rfl|rfl|rfl|rfl|rfl|rfl|rfl
  all_goals
   rw[hb]at hc;show cnt+1=aA _+aA _+aA _+aA _+aA _+aA _+aA _;simp only[setB,Nat.beq,zC,zD,Bool.toNat_true,Bool.toNat_false]at hc⊢;omega
theorem Tf :Inv8 [] 0 fun _=>false:=⟨fun k hk=>⟨fun h=>(by cases h),fun⟨p,p1,_⟩=>by cases p1⟩,rfl,rfl⟩
abbrev Rs :=Int×Int×Int×Int×Int×Int×Int×List Int×List Int×List BK×List BK
def FF (l e:Int):Rs:=(0,0,0,0,0,l,e,[],[],[],[])
def Qi (r:Rs):Prop:=r.2.2.2.2.2.2.2.1.length≤100000∧r.2.2.2.2.2.2.2.2.1.length≤100000∧r.2.2.2.2.2.2.2.2.2.1.length≤100000∧r.2.2.2.2.2.2.2.2.2.2.length≤100000
theorem yG (l e:Int):Qi (FF l e):=by
 unfold Qi FF;simp
structure HOk (h:Hs):Prop where
 X:h.X.length≤100000
 T:h.T.length≤100000
 so:h.so.length≤100000
 lo:h.lo.length≤100000
section
variable {L:List (List Int)} (H:Lns L)
theorem FG {s:SW}{l e:Int}(h:LP L s l e){m:Nat}(hm:1≤m):(aw (ap L) m s).bind (AK L)=some (FF l e):=by
 obtain⟨m,rfl⟩: ∃m',m=m'+1:=⟨m-1,by omega⟩
 obtain⟨c,h1,h2,h3⟩:=h;rw[cf,h1,←h2,←h3];rfl
theorem Br {s:Rk}{l e:Int}(h:DD L s l e){m:Nat}(hm:1≤m):(aw (bc L) m s).bind (AL L)=some (FF l e):=by
 obtain⟨m,rfl⟩: ∃m',m=m'+1:=⟨m-1,by omega⟩
 obtain⟨c,h1,h2,h3⟩:=h;rw[cf,h1,←h2,←h3];rfl
theorem uO {s s':SW}(h:ap L s=some (.inl s'))(m:Nat):aw (ap L) (m+1) s=aw (ap L) m s':=by
 rw[cf,h];rfl
theorem CU {s s':Rk}(h:bc L s=some (.inl s'))(m:Nat):aw (bc L) (m+1) s=aw (bc L) m s':=by
 rw[cf,h];rfl
theorem RA {sn op:List Int}{h:Hs}{fr:Int}{ls:List (List Int)}{m:Nat}(hm:1≤m):(aw (ap L) m (xA L.length sn h op fr ls)).bind (AK L)=some (if op≠[]∨rB sn≠7 then FF L.length 3 else(h.mode,h.sr,h.lr,h.len,h.words,0,0,h.X,h.T,h.so,h.lo)):=by
 obtain⟨m,rfl⟩: ∃m',m=m'+1:=⟨m-1,by omega⟩
 have e:ap L (xA L.length sn h op fr ls)=some (.inr (.inr (sn,h.mode,h.sr,h.lr,h.len,h.words,op,fr,h.X,h.T,h.so,h.lo,ls))):=by
  unfold ap xA;dsimp only;rw[zA (by omega),zD]
 rw[cf,e];show cond (decide (op≠[])) (some (FF L.length 3)) (cond (decide ((rB sn:Int)≠7)) (some (FF L.length 3)) (some _))=_;by_cases h1:op≠[]
 ·rw[zB h1,zC,zE (.inl h1)]
 ·rw[zA h1,zD];by_cases h2:rB sn≠7
  ·rw[zB (by omega),zC,zE (.inr h2)]
  ·rw[zA (by omega),zD,zF (by rintro(q|q);exact h1 q;exact h2 q)]
theorem Te {cnt:Nat}{h:Hs}{b:Nat→Bool}{m:Nat}(hm:1≤m):(aw (bc L) m (rN L.length cnt h b)).bind (AL L)=some (if cnt<7 then FF L.length 3 else(h.mode,h.sr,h.lr,h.len,h.words,0,0,h.X,h.T,h.so,h.lo)):=by
 obtain⟨m,rfl⟩: ∃m',m=m'+1:=⟨m-1,by omega⟩
 have e:bc L (rN L.length cnt h b)=some (.inr (.inr ((cnt:Int),h.mode,h.sr,h.lr,h.len,h.words,b 0,b 1,b 2,b 3,b 4,b 5,b 6,h.X,h.T,h.so,h.lo))):=by
  unfold bc rN;dsimp only;rw[zA (by omega),zD]
 rw[cf,e];show cond (decide ((cnt:Int)<7)) (some (FF L.length 3)) (some _)=_;by_cases h2:cnt<7
 ·rw[zB (by omega),zC,zE h2]
 ·rw[zA (by omega),zD,zF h2]
include H
theorem Jc {sn op:List Int}{h:Hs}{fr:Int}{f:Nat}(ho:op≠[]): ∀(n j t:Nat),t-j=n→f≤j→j≤t→t≤L.length→(∀u (hu:u<L.length),j≤u→u<t→LM L[u]=false)→∀m,L.length-j+1≤m→∃m',L.length-t+1≤m'∧aw (ap L) m (xA j sn h op fr (jk L f j))=aw (ap L) m' (xA t sn h op fr (jk L f t))
 |0,j,t,hn,hf,hj,ht,hE,m,hm=>by
  have:t=j:=by omega
  subst this;exact⟨m,hm,rfl⟩
 |n+1,j,t,hn,hf,hj,ht,hE,m,hm=>by
  have hlt:j<L.length:=by omega
  obtain⟨m,rfl⟩: ∃m',m=m'+1:=⟨m-1,by omega⟩
  have hlen:=H.len;have e:=Ld H hlt (sn:=sn) (h:=h) (fr:=fr) ho (hE j hlt (Nat.le_refl _) (by omega)) (ls:=jk L f j) (by rw[H2 hf (by omega)];omega);rw[←Np hf hlt]at e;rw[uO e];exact Jc ho n (j+1) t (by omega) (by omega) (by omega) ht (fun u hu hju hut=>hE u hu (by omega) hut) m (by omega)
theorem RB {sn:List Int}{h:Hs}{fr:Int}{ls:List (List Int)}{k t:Nat}(hk:k=5∨k=6)(ht:t<L.length)(hE:LM L[t]=true){T:List Int}{R:Int×Int×Int×List BK}{M:List (List Int)}(h1:fQ ls [10]=some T)(h2:eZ T=some R)(h3:dw T=some M):
  (R.2.2.1≠0→LP L (xA t sn h (W7 k) fr ls) (if(M.length:Int)≤R.2.1 then(t:Int)else zH zI (fr+R.2.1)) R.2.2.1)∧
  (R.2.2.1=0→ap L (xA t sn h (W7 k) fr ls)=some (.inl (xA (t+1) sn (if k=5 then {h with sr:=R.1,so:=R.2.2.2}else {h with lr:=R.1,lo:=R.2.2.2}) [] fr ls))):=by
 have hlen:=H.len;have ho:W7 k≠[]:=by rcases hk with rfl|rfl<;>decide
 have pre:ap L (xA t sn h (W7 k) fr ls)=((cond (decide (R.2.2.1≠0)) ((dw T).bind fun r35=>some (decide ((((List.length r35):Nat):Int)≤R.2.1))) (some false)).bind fun s36=>
   cond s36 (cond (decide (R.2.2.1≠0)) (some (.inr (.inl ((t:Int),R.2.2.1,sn,h.mode,h.sr,h.lr,h.len,h.words,W7 k,fr,h.X,h.T,h.so,h.lo,ls)))) (some (.inl (zH zI ((t:Int)+1),sn,h.mode,h.sr,h.lr,h.len,h.words,W7 k,fr,h.X,h.T,h.so,h.lo,ls))))
   (cond (decide (R.2.2.1≠0)) (cond (decide (R.2.2.1≠0)) (some (.inr (.inl (zH zI (fr+R.2.1),R.2.2.1,sn,h.mode,h.sr,h.lr,h.len,h.words,W7 k,fr,h.X,h.T,h.so,h.lo,ls)))) (some (.inl (zH zI ((t:Int)+1),sn,h.mode,h.sr,h.lr,h.len,h.words,W7 k,fr,h.X,h.T,h.so,h.lo,ls))))
    (cond (decide (W7 k=W7 5)) (some (.inl (zH zI ((t:Int)+1),sn,h.mode,R.1,h.lr,h.len,h.words,[],fr,h.X,h.T,R.2.2.2,h.lo,ls))) (some (.inl (zH zI ((t:Int)+1),sn,h.mode,h.sr,R.1,h.len,h.words,[],fr,h.X,h.T,h.so,R.2.2.2,ls)))))):=by
  unfold ap xA;dsimp only;rw[zB (by omega),zC];refine bE (dC ht) ?_;refine bE (List.getElem?_eq_getElem ht) ?_;refine bE (H.sg ht).1 ?_;refine bE (He L[t]) ?_;rw[hE,zB ho,zC];refine bE (a:=true) rfl ?_;rw[zC];refine bE h1 ?_;exact bE h2 rfl
 constructor
 ·intro he;rw[zB he,zC,h3]at pre;by_cases hM:(M.length:Int)≤R.2.1
  ·rw[zE hM];refine⟨((t:Int),R.2.2.1,sn,h.mode,h.sr,h.lr,h.len,h.words,W7 k,fr,h.X,h.T,h.so,h.lo,ls),pre.trans ?_,rfl,rfl⟩;simp only[zG];rw[zB hM];rfl
  ·rw[zF hM];refine⟨(zH zI (fr+R.2.1),R.2.2.1,sn,h.mode,h.sr,h.lr,h.len,h.words,W7 k,fr,h.X,h.T,h.so,h.lo,ls),pre.trans ?_,rfl,rfl⟩;simp only[zG];rw[zA hM];rfl
 ·intro he;rw[zA (fun q=>q he),zD]at pre;refine pre.trans ?_;simp only[zG,zD];rw[cR (by omega)];rcases hk with rfl|rfl
  ·rw[zB rfl,zC];rfl
  ·rw[Dz (j:=6) (k:=5) (by omega) (by omega) (by omega),zD];rfl
theorem Lr {i:Nat}(hi:i<L.length){sn:List Int}{h:Hs}{fr:Int}{ls:List (List Int)}{s:Sg}{r:List Sg}(he:(be L[i]).2.1=0)(hl:(be L[i]).2.2=s::r)(hv: ∃v,lU sn s (s::r) (match pF (s::r)with
  |some n=>(true,n)
  |none=>(false,[])) h.mode h.sr h.lr h.len h.words [] fr h.X h.T=some (.inl v)):LP L (xA i sn h [] fr ls) i 3:=by
 obtain⟨⟨u0,u1,u2,u3,u4,u5,u6,u7,u8⟩,hv⟩:=hv;refine⟨((i:Int),3,sn,u0,u1,u2,u3,u4,u5,u6,u7,u8,h.so,h.lo,ls), ?_,rfl,rfl⟩;rw[Ic H hi he hl];exact bE hv rfl
theorem Ie {i:Nat}(hi:i<L.length){sn:List Int}{h:Hs}{fr:Int}{ls:List (List Int)}{s:Sg}{r:List Sg}(he:(be L[i]).2.1=0)(hl:(be L[i]).2.2=s::r){k:Nat}(hk7:k<7){n:List Int}(hn:pF (s::r)=some n)(hs:(fV sn s.2.2.1).isSome=false)(hk:s.1=1)(hw:s.2.2.1=W7 k)(ho:Ke k n=true):
  ap L (xA i sn h [] fr ls)=some (.inl (xA (i+1) (lJ sn (W7 k) (i:Int)) (PB k n h) (if 5≤k then W7 k else []) ((i+1:Nat):Int) [])):=by
 have hlen:=H.len;obtain⟨g1,g2,g3⟩:=By H hi hl;have e:=JZ (sn:=sn) (r:=r) (a2:=h.mode) (a3:=h.sr) (a4:=h.lr) (a5:=h.len) (a6:=h.words) (a7:=[]) (a8:=fr) (a9:=h.X) (a10:=h.T) (n:=n) hk7 hs hk g1 g2 hw;rw[zE ho]at e;rw[Ic H hi he hl,hn];refine bE e ?_;rw[hw,cR (n:=(i:Int)+1) (by omega)];rcases(show k=0∨k=1∨k=2∨k=3∨k=4∨k=5∨k=6 by omega)with rfl|rfl|rfl|rfl|rfl|rfl|rfl<;>rfl
end
end
section
open Nat renaming le_trans → aA, le_refl → aB, lt_of_le_of_lt → aC
theorem K5 {l:List Sg}{n:List Int}(h:pF l=some n):n.length≤l.length:=by
 unfold pF at h;split at h
 ·cases h;rw[List.length_map,List.length_tail];omega
 ·cases h
theorem PC {k:Nat}{n:List Int}{h:Hs}(hh:HOk h)(hn:n.length≤100000):HOk (PB k n h):=by
 rcases hh with⟨a,b,c,d⟩
 match k with
 |0=>exact⟨a,b,c,d⟩
 |1=>exact⟨a,b,c,d⟩
 |2=>exact⟨a,b,c,d⟩
 |3=>exact⟨hn,b,c,d⟩
 |4=>exact⟨a,hn,c,d⟩
 |k+5=>exact⟨a,b,c,d⟩
section
variable {L:List (List Int)} (H:Lns L)
def N1 (L:List (List Int))(i:Nat):Prop:= ∀(m:List (List Int×Int)) (cnt:Nat) (h:Hs) (b:Nat→Bool) (fr:Int) (ls:List (List Int)),Inv8 m cnt b→HOk h→∀mP mR,L.length-i+1≤mP→L.length-i+1≤mR→
 ∃r,(aw (ap L) mP (xA i (dp m) h [] fr ls)).bind (AK L)=some r∧(aw (bc L) mR (rN i cnt h b)).bind (AL L)=some r∧Qi r
theorem GN :N1 L L.length:=fun m cnt h b fr ls hI hh mP mR hP hR=>by
 have e1:=RA (L:=L) (sn:=dp m) (op:=[]) (h:=h) (fr:=fr) (ls:=ls) (m:=mP) (by omega);have e2:=Te (L:=L) (cnt:=cnt) (h:=h) (b:=b) (m:=mR) (by omega);have hle:=hI.le;rw[K4,hI.l]at e1;by_cases hc:cnt<7
 ·rw[zE (.inr (by omega))]at e1;rw[zE hc]at e2;exact⟨_,e1,e2,yG _ _⟩
 ·rw[zF (by rintro(q|q);exact q rfl;omega)]at e1;rw[zF hc]at e2;exact⟨_,e1,e2,hh.X,hh.T,hh.so,hh.lo⟩
theorem GO {i:Nat}{m:List (List Int×Int)}{cnt:Nat}{h:Hs}{b:Nat→Bool}{fr:Int}{ls:List (List Int)}{l e:Int}{mP mR:Nat}(hP:L.length-i+1≤mP)(hR:L.length-i+1≤mR)(h1:LP L (xA i (dp m) h [] fr ls) l e)(h2:DD L (rN i cnt h b) l e):
  ∃r,(aw (ap L) mP (xA i (dp m) h [] fr ls)).bind (AK L)=some r∧(aw (bc L) mR (rN i cnt h b)).bind (AL L)=some r∧Qi r:=
 ⟨_,FG h1 (by omega),Br h2 (by omega),yG _ _⟩
theorem QR (i:Nat):jk L i i=[]:=by
 unfold jk;rw[Nat.sub_self,List.take_zero]
include H
theorem KD {i:Nat}(hi:i<L.length)(ih: ∀j,i<j→j≤L.length→N1 L j){m:List (List Int×Int)}{cnt:Nat}{h:Hs}{b:Nat→Bool}{fr:Int}{ls:List (List Int)}(hI:Inv8 m cnt b)(hh:HOk h){mP mR:Nat}(hP:L.length-i+1≤mP)(hR:L.length-i+1≤mR)
  {s:Sg} {r:List Sg} (he:(be L[i]).2.1=0) (hl:(be L[i]).2.2=s::r) {k:Nat} (hk:k=5∨k=6) {n:List Int} (hn:pF (s::r)=some n) (hb:b k=false) (hs:(fV (dp m) s.2.2.1).isSome=false) (h1:s.1=1) (hw:s.2.2.1=W7 k) (ho:Ke k n=true):
  ∃r,(aw (ap L) mP (xA i (dp m) h [] fr ls)).bind (AK L)=some r∧(aw (bc L) mR (rN i cnt h b)).bind (AL L)=some r∧Qi r:=by
 have hlen:=H.len;have hle:=hI.le;have hk7:k<7:=by omega
 have hk5:5≤k:=by omega
 have hu:PB k n h=h:=by rcases hk with rfl|rfl<;>rfl
 obtain⟨mP,rfl⟩: ∃m',mP=m'+1:=⟨mP-1,by omega⟩
 have eP:=Ie H hi (fr:=fr) (ls:=ls) (h:=h) he hl hk7 hn hs h1 hw ho;have eR:=If H hi (cnt:=cnt) (h:=h) he hl hk7 h1 hw hb;simp only[hn]at eR
 have hno: ¬∃p∈m,p.1=W7 k:=fun q=>by
  have:=(hI.s k hk7).2 q;rw[hb]at this;cases this
 rw[EM hno,hu,zE (show 5≤k by omega)]at eP;have hI':=hI.add hk7 hb (i:Int);have how:W7 k≠[]:=by rcases hk with rfl|rfl<;>decide
 rw[uO eP,show([]:List (List Int))=jk L (i+1) (i+1)from(QR _).symm];rcases Kj H (L.length-(i+1)) (i+1) rfl (by omega)with⟨t,h1t,ht,hE,hEn,hm⟩|⟨hEn,hm⟩
 ·have hend:eg L ((i+1:Nat):Int)=some (t:Int):=by
   unfold eg;exact bE (hm di (by unfold di;omega)) rfl
  obtain⟨m',hm',e'⟩:=Jc H (sn:=dp (m++[(W7 k,(i:Int))])) (h:=h) (fr:=((i+1:Nat):Int)) (f:=i+1) how (t-(i+1)) (i+1) t rfl (aB _) h1t (by omega) (fun u hu hju hut=>hEn u hut hju) mP (by omega);rw[e'];obtain⟨R1,R2,M,p1,p2,p3,p4,p5,p6⟩:=RN (ls:=jk L (i+1) t) (fun x hx=>H.a x (H3 hx)) (aA (NI _ _) H.t);obtain⟨q1,q2⟩:=RB H (sn:=dp (m++[(W7 k,(i:Int))])) (h:=h) (fr:=((i+1:Nat):Int)) hk ht hE p1 p2 p3;have hprog:=HQ H h1t (by omega) p4;have hsl:=H2 (L:=L) h1t (by omega)
  have hs6:(jk L (i+1) t).length≤100000:=by
   rw[hsl];exact aA (Nat.sub_le _ _) (aA (Nat.le_of_lt ht) (aA hlen (by decide)))
  have hm1:1≤mR:=aA (Nat.le_add_left 1 _) hR;have hm2:1≤m':=aA (Nat.le_add_left 1 _) hm';rcases p6 with⟨a1,a2,a3⟩|⟨a1,a2,a3⟩
  ·have er:DD L (rN i cnt h b) t 3:=by
    obtain⟨c,c1,c2,c3⟩:=GY H hi (cnt:=cnt) (h:=h) (b:=b) hk7 ho hk5 hend hprog (by rw[a3];exact(show(3:Int)≠0 by decide));refine⟨c,eR.trans c1, ?_, ?_⟩
    ·rw[c2,a3];exact zE ⟨(show(3:Int)≠0 by decide),GF.2 a1⟩
    ·rw[c3,a3]
   have ep:=q1 (by rw[a2];exact(show(3:Int)≠0 by decide));rw[a2,zE (Int.le_refl _)]at ep;exact⟨_,FG ep hm2,Br er hm1,yG _ _⟩
  ·subst a2;by_cases hz:R1.2.2.1=0
   ·have e2:=q2 hz;obtain⟨m'',rfl⟩: ∃x,m'=x+1:=⟨m'-1,by omega⟩
    rw[uO e2];obtain⟨mR,rfl⟩: ∃x,mR=x+1:=⟨mR-1,by omega⟩
    rw[CU (eR.trans (KL H hi (cnt:=cnt) (h:=h) (b:=b) hk7 ho hk5 (by omega) ht hend hprog hz))];refine ih (t+1) (by omega) (by omega) _ _ _ _ _ _ hI' ?_ _ _ (by omega) (by omega);obtain⟨o1,o2,o3,o4⟩:=hh;rcases hk with rfl|rfl
    ·exact⟨o1,o2,aA p5 hs6,o4⟩
    ·exact⟨o1,o2,o3,aA p5 hs6⟩
   ·obtain⟨q,z1,z2⟩:=a3 hz
    have er:DD L (rN i cnt h b) (IntKind.i64.wrap (((i+1:Nat):Int)+R1.2.1)) R1.2.2.1:=by
     obtain⟨c,c1,c2,c3⟩:=GY H hi (cnt:=cnt) (h:=h) (b:=b) hk7 ho hk5 hend hprog hz;refine⟨c,eR.trans c1, ?_,c3⟩;rw[c2];exact zF fun z=>a1 (GF.1 z.2)
    have ep:=q1 hz;rw[zF (fun z=>by rw[z1]at z;exact absurd (Int.ofNat_le.1 z) (Nat.not_le.2 z2))]at ep;exact⟨_,FG ep hm2,Br er hm1,yG _ _⟩
 ·have hend:eg L ((i+1:Nat):Int)=some (-1):=by
   unfold eg;exact bE (hm di (by unfold di;omega)) rfl
  obtain⟨m',hm',e'⟩:=Jc H (sn:=dp (m++[(W7 k,(i:Int))])) (h:=h) (fr:=((i+1:Nat):Int)) (f:=i+1) how (L.length-(i+1)) (i+1) L.length rfl (aB _) (by omega) (aB _) (fun u hu hju hut=>hEn u hu hju) mP (by omega);rw[e',RA (by omega),zE (.inl how)];obtain⟨c,c1,c2,c3⟩:=IK H hi (cnt:=cnt) (h:=h) (b:=b) hk7 ho hk5 hend;exact⟨_,rfl,Br ⟨c,eR.trans c1,c2,c3⟩ (by omega),yG _ _⟩
theorem Ry : ∀(d i:Nat),i≤L.length→L.length-i≤d→N1 L i
 |0,i,hi,hd=>by
  have:i=L.length:=by omega
  subst this;exact GN
 |d+1,i,hi',hd=>by
  by_cases hz:i=L.length
  ·subst hz;exact GN
  have hi:i<L.length:=by omega
  have ih: ∀j,i<j→j≤L.length→N1 L j:=fun j h1 h2=>Ry d j h2 (by omega)
  intro m cnt h b fr ls hI hh mP mR hP hR;have hlen:=H.len;have hle:=hI.le;by_cases he:(be L[i]).2.1=0
  ·cases hl:(be L[i]).2.2 with
   |nil=>
    obtain⟨mP,rfl⟩: ∃m',mP=m'+1:=⟨mP-1,by omega⟩
    obtain⟨mR,rfl⟩: ∃m',mR=m'+1:=⟨mR-1,by omega⟩
    rw[uO (Lt H hi he hl),CU (Lv H hi he hl)];exact ih (i+1) (by omega) (by omega) _ _ _ _ _ _ hI hh _ _ (by omega) (by omega)
   |cons s r=>
    obtain⟨g1,g2,g3⟩:=By H hi hl
    have bad:(∃v,lU (dp m) s (s::r) (match pF (s::r)with
      |some n=>(true,n)
      |none=>(false,[])) h.mode h.sr h.lr h.len h.words [] fr h.X h.T=some (.inl v))→DD L (rN i cnt h b) i 3→∃r,(aw (ap L) mP (xA i (dp m) h [] fr ls)).bind (AK L)=some r∧(aw (bc L) mR (rN i cnt h b)).bind (AL L)=some r∧Qi r:=fun hv hr=>
     GO hP hR (Lr H hi he hl hv) hr
    have badR:DD L (rN i cnt h b) i 3→((fV (dp m) s.2.2.1).isSome=true∨s.1≠1∨(∀k,k<7→s.2.2.1≠W7 k))→∃r,(aw (ap L) mP (xA i (dp m) h [] fr ls)).bind (AK L)=some r∧(aw (bc L) mR (rN i cnt h b)).bind (AL L)=some r∧Qi r:=fun hr hc=>by
     refine bad ?_ hr;cases hn:pF (s::r)with
     |none=>exact⟨_,CB hn⟩
     |some n=>
      by_cases hs:(fV (dp m) s.2.2.1).isSome=true
      ·exact⟨_,IY hs⟩
      ·have hs:(fV (dp m) s.2.2.1).isSome=false:=by
        cases q:(fV (dp m) s.2.2.1).isSome with
        |false=>rfl
        |true=>exact(hs q).elim
       by_cases hk:s.1=1
       ·rcases hc with q|q|q
        ·rw[hs]at q;cases q
        ·exact(q hk).elim
        ·exact Ms hs hk g1 g2 q
       ·exact⟨_,IX hs hk⟩
    by_cases hk:s.1=1
    ·by_cases hw: ∀k,k<7→s.2.2.1≠W7 k
     ·exact badR (Jx H hi he hl hk hw) (.inr (.inr hw))
     ·obtain⟨k,hk7,hw⟩: ∃k,k<7∧s.2.2.1=W7 k:=by
       apply Classical.byContradiction;intro q;exact hw fun k hk e=>q ⟨k,hk,e⟩
      cases hb:b k with
      |true=>
       refine badR (Jw H hi he hl hk7 hk hw hb) (.inl ?_);rw[EJ,hw];exact(hI.s k hk7).1 hb
      |false=>
       have hs:(fV (dp m) s.2.2.1).isSome=false:=by
        cases q:(fV (dp m) s.2.2.1).isSome with
        |false=>rfl
        |true=>
         rw[EJ,hw]at q;have:=(hI.s k hk7).2 q;rw[hb]at this;cases this
       have eR:=If H hi (cnt:=cnt) (h:=h) he hl hk7 hk hw hb;cases hn:pF (s::r)with
       |none=>
        refine bad ?_ ?_
        ·simp only[hn];exact⟨_,CB hn⟩
        ·simp only[hn]at eR;obtain⟨c,c1,c2,c3⟩:=KK (L:=L) (i:=i) (cnt:=cnt) (h:=h) (b:=b) (k:=k) k;exact⟨c,eR.trans c1,c2,c3⟩
       |some n=>
        cases ho:Ke k n with
        |false=>
         refine bad ?_ ?_
         ·simp only[hn];have e:=JZ (sn:=dp m) (r:=r) (a2:=h.mode) (a3:=h.sr) (a4:=h.lr) (a5:=h.len) (a6:=h.words) (a7:=[]) (a8:=fr) (a9:=h.X) (a10:=h.T) (n:=n) hk7 hs hk g1 g2 hw;rw[zF (by rw[ho];decide)]at e;exact e
         ·simp only[hn]at eR;obtain⟨c,c1,c2,c3⟩:=Mb (L:=L) (i:=i) (cnt:=cnt) (h:=h) (b:=b) hk7 k ho;exact⟨c,eR.trans c1,c2,c3⟩
        |true=>
         by_cases h5:k<5
         ·have eP:=Ie H hi (fr:=fr) (ls:=ls) (h:=h) he hl hk7 hn hs hk hw ho;simp only[hn]at eR
          have hno: ¬∃p∈m,p.1=W7 k:=fun q=>by
           have:=(hI.s k hk7).2 q;rw[hb]at this;cases this
          rw[EM hno,zF (show¬5≤k by omega)]at eP;obtain⟨mP,rfl⟩: ∃m',mP=m'+1:=⟨mP-1,by omega⟩
          obtain⟨mR,rfl⟩: ∃m',mR=m'+1:=⟨mR-1,by omega⟩
          rw[uO eP,CU (eR.trans (Ob H hi hk7 ho h5 (by omega)))];exact ih (i+1) (by omega) (by omega) _ _ _ _ _ _ (hI.add hk7 hb _) (PC hh (aA (K5 hn) g3)) _ _ (by omega) (by omega)
         ·exact KD H hi ih hI hh hP hR he hl (by omega) hn hb hs hk hw ho
    ·exact badR (Jv H hi he hl hk) (.inr (.inl hk))
  ·exact GO hP hR (Ls H hi he) (Lu H hi he)
end
theorem Mo :og=some true:=by kernel_rfl
theorem EC {a:List Int}(ha:a.length<1000000):iA a a=some true:=by
 have h:aw (jt a a) di 0=some (.inr ()):=by
  refine vK (n:=a.length) (by omega) (fun i hi=> ?_) ?_
  ·unfold jt;rw[dB,zE (by omega),nK hi];simp only[zG,dB];rw[zF (fun h=>h rfl),cR (n:=(i:Int)+1) (by omega)];rfl
  ·unfold jt;rw[dB,zF (by omega)]
 unfold iA;rw[dB,zF (fun h=>h rfl),h];rfl
theorem FQ {w:List Int}(f:Iv .str w):ia w=some true:=by
 have hb:=cI.of f;unfold ia;by_cases hl:5000<w.length
 ·rw[zB (by omega),zC];exact bE Mo rfl
 rw[zA (by omega),zD];have H:Lns (gK w []):=⟨QD hb (by omega),by have:=FT w [];simp only[List.length_nil]at this;omega⟩;have hlen:=H.len;obtain⟨r,h1,h2,h3⟩:=Ry H (gK w []).length 0 (by omega) (by omega) [] 0 h0 _ 0 [] Tf ⟨by decide,by decide,by decide,by decide⟩ di di (by unfold di;omega) (by unfold di;omega);have e1:ic w=some r:=(Je hb (by omega)).trans h1;have e2:ja w=some r:=(Jg hb (by omega)).trans h2;obtain⟨r0,r1,r2,r3,r4,r5,r6,r7,r8,r9,r10⟩:=r;obtain⟨k1,k2,k3,k4⟩:=h3;refine bE e1 ?_;refine bE e2 ?_
 have hs:oj r0 r7 r8 r1 r9 r2 r10 r3 r4 r0 r7 r8 r1 r9 r2 r10 r3 r4=some true:=by
  unfold oj;rw[zA (fun q=>q rfl),zD,zA (fun q=>q rfl),zD,zA (fun q=>q rfl),zD,zA (fun q=>q rfl),zD,zA (fun q=>q rfl),zD];refine bE (EC (aC k1 (by decide))) ?_;rw[zC];refine bE (EC (aC k2 (by decide))) ?_;rw[zC];refine bE (HD _ (aA k3 (by decide))) ?_;rw[zC];exact bE (HD _ (aA k4 (by decide))) rfl
 refine bE hs ?_;rw[zC,zB rfl,zC,zB rfl,zC];exact bE Mo rfl
end
end Go.V
