/- A part of the proof. No condition. -/
import Derived.Test.YtgnojcajllcmoaaGreatDoorL6
import Derived.Test.YtgnojcajllcmoaaGreatDoorL4
import Derived.Test.YtgnojcajllcmoaaGreatDoorL5
import Derived.KernelRfl
set_option linter.all false
namespace Go.V
open Go.Ab
open Option renaming some->O,none->Y
open Bool renaming true->Za,false->Zb
open Decidable renaming decide->Zc
open List renaming length->ft
open Int renaming toNat->fu
open Option renaming bind->gn
variable {c f i l r:Nat}{s:Dy}{es:List Ev}{en:Bool}{m m':Mc}{cs w:Zd}{a:Int×Int}{aa:List<|Int×Int}{bs:List Bool}{fx sl:Int}
set_option maxRecDepth 100000
section
open Bool renaming false_eq_true->aB
def bu1 {α:Type}(a:Bool)(x y:α):cond a (O x) (O y)=O (cond a x y):=by cases a<;>rfl
def cnd (a x y:Bool):(cond a x y=Za)↔((a=Za/\x=Za)∨(¬a=Za/\y=Za)):=by cases a<;>simp
theorem bt9 {b:Bool}{p:Prop}[Decidable p](h:b=Za↔p):b=decide p:=by
 grind
def JF (k n:Int):Prop:=(k=1/\1<=n/\n<=65535)∨(2<=k/\k<=4/\0<=n/\n<=1048575)∨(5<=k/\k<=9/\n=0)
instance (k n:Int):Decidable<|JF k n:=by unfold JF;infer_instance
theorem WB (k n:Int):xg k n=O (Zc<|JF k n):=by
 unfold xg DK;have h: ∀(a b:Bool) (x y z:Int×Int) (f:Int×Int->Option Bool),((cond a (O x)<|cond b (O y)<|O z).bind f)=cond a (f x) (cond b (f y)<|f z):=λa b x y z f=>by cases a<;>cases b<;>rfl
 simp only[bu1,zG];refine congrArg O<|bt9 ?_;by_cases d:k=1
 .subst d;simp only[cnd,decide_eq_true_eq,JF,aB,decide_true,zC,and_false,false_and,or_false,false_or,and_true,true_and];omega
 rw[zA d,zD];by_cases e:2<=k/\k<=4
 .rw[zB e.1,zC,zB e.2,zC];simp only[cnd,decide_eq_true_eq,JF,aB,and_false,false_and,or_false,false_or,and_true,true_and];omega
 have:cond (Zc<|2<=k) (cond (Zc<|k<=4) ((0:Int),(1048575:Int)) (0,0)) (0,0)=(0,0):=by
  grind
 rw[this];simp only[cnd,decide_eq_true_eq,JF,aB,and_false,false_and,or_false,false_or,and_true,true_and];omega
theorem Bw {p q:Int}{t:Zd}(d:ft t<=1048576):uv p q t=O (p,q,t):=by
 unfold uv
 have b:=bz (f:=sI t) (n:=ft t) (λi=>(p,q,t.take i)) (c:=(p,q,t)) V1
  (λi hi=>by
   unfold sI;dsimp only;rw[Zf,zC,bq hi,zG,au (by rw[List.length_take];omega) V1,Zi,List.take_succ_eq_append_getElem hi]
   rfl)
  (by
   unfold sI;dsimp only
   rw[Ze,zD,List.take_length])
 grind
theorem ai3 (h:mac a m=O m')(b:m.L<=65535)(d:0<=m.p)(e:ft m.t<=1048576):JF a.1 a.2/\a.1<=7:=by
 unfold mac at h;unfold JF
 grind
theorem aG4 {z:Int}(h:mac a m=O m')(H:m.L<=65535)(K:0<=m.p/\m.p<=m.L)(N: -1<=m.q/\m.q<=m.L)(d:ft m.t<=1048576):DM m.L m.p m.q m.t z a.1 a.2=O (m'.L,m'.p,m'.q,m'.t,if a.1=1 then IntKind.i64.wrap (z+a.2)else z,0):=by
 have C:=ai3 h H K.1 d;unfold DM;rw[WB,zB C.1];simp only[zG,Bool.not_true,zD];rw[Ze,zD];have⟨k,n⟩:=a;simp only at h C⊢;have J:=C.1;unfold JF at J;unfold mac at h;simp only at h;by_cases o:k=1
 .subst o;rw[zE rfl]at h;split at h
  .rename_i c;cases h;simp only[show Zc ((2:Int)<=1)=Zb from rfl,zD,zG,be,Bw d,decide_true,zC,if_true];rw[Zi,Ze,zD]
  cases h
 have b:2<=k/\k<=4->0<=n/\n<ft m.t->∃j:Nat,n=(j:Int)/\∃B:j<ft m.t,rd m.t n=O m.t[j]/\m.t.getD (fu n) 0=m.t[j]/\ix n (ft m.t)=O j/\m.t[j]?=O m.t[j]:=by
  intro _ M;refine⟨fu n,V1,V1, ?_, ?_, ?_, ?_⟩
  .have:=bq (l:=m.t) (i:=fu n) V1
   grind
  .rw[List.getD_eq_getElem?_getD,List.getElem?_eq_getElem V1];rfl
  .have:=bl (k:=fu n) (n:=ft m.t) V1
   grind
  grind
 by_cases v:k=2
 .subst v;rw[Zh,zE rfl]at h;split at h
  .rename_i c;cases h;obtain⟨j,rfl,B,e,g,D,E⟩:=b V1 ⟨c.1,c.2.1⟩;rw[g]at c;simp only[show Zc ((2:Int)<=2)=Za from rfl,zC,show Zc ((2:Int)<=4)=Za from rfl,zG];rw[zA (show¬((ft m.t:Int)<=(j:Int))by omega)];simp only[zD,zG,be,Bw d,e]
   grind
  cases h
 by_cases x:k=3
 .subst x;rw[Zh,Zh,zE rfl]at h;split at h
  .rename_i c;cases h;obtain⟨j,rfl,B,e,g,D,E⟩:=b V1 ⟨c.1,c.2.1⟩;rw[g]at c⊢;simp only[show Zc ((2:Int)<=3)=Za from rfl,zC,show Zc ((3:Int)<=4)=Za from rfl,zG];rw[zA (show¬((ft m.t:Int)<=(j:Int))by omega)];simp only[zD,zG,be,Bw d,e]
   grind
  cases h
 by_cases y:k=4
 .subst y;rw[Zh,Zh,Zh,zE rfl]at h;split at h
  .rename_i c;cases h;obtain⟨j,rfl,B,e,g,D,E⟩:=b V1 ⟨c.1,c.2.1⟩;rw[g]at c;simp only[show Zc ((2:Int)<=4)=Za from rfl,zC,show Zc ((4:Int)<=4)=Za from rfl,zG];rw[zA (show¬((ft m.t:Int)<=(j:Int))by omega)];simp only[zD,zG,be,Bw d,e]
   grind
  cases h
 have I:5<=k/\k<=7:=by omega
 have F:uv m.p m.q m.t=O (m.p,m.q,m.t):=Bw d;rw[zB (show(2:Int)<=k by omega),zC,zA (show¬k<=4 by omega)];simp only[zG,zD,be,F];rw[zA o,zD,zA v,zD,zA x,zD,zA y];simp only[zG,zD];rw[zF o,zF v,zF x,zF y]at h;rw[zF o];by_cases A:k=5
 .rw[zE A]at h
  grind
 rw[zF A]at h;rw[zA A,zD];by_cases u:k=6
 .rw[zE u]at h;split at h
  .rename_i c;cases h;rw[zB u,zC,Ze,zD,Zi,Ze,zD];simp only[c.2.2]
  cases h
 rw[zF u]at h;rw[zA u,zD];rw[Zg]at h;split at h
 .rename_i c;cases h;rw[Ze,zD,Zi,Ze,zD];simp only[c.2.2]
 cases h
end
section
open Bool renaming not_true->aB
open Int renaming add_zero->aD
open List renaming length_map->bB,length_range->bD,length_set->cB,map_append->cD,range_succ->cK
def Ch (m:Mc)(l:List<|Int×Int):Nat->Mc
 |0=>m
 |i+1=>(mac (l.getD i (0,0))<|Ch m l i).getD<|Ch m l i
def okL (m:Mc):List (Int×Int)->Prop
 |[]=>True
 |a::r=> ∃m',mac a m=O m'/\okL m' r
def wdA (fx sl st lo:Int)(a:Int×Int)(m m':Mc):Int:=fx+sl*max (vR m.t:Int) (vR m'.t:Int)+(if a.1=5∨a.1=6 then lo else 0)+(if a.1=6∨a.1=7 then st else 0)
def pkL (fx sl st lo:Int)(m:Mc)(pk:Int):List (Int×Int)->Int
 |[]=>pk
 |a::r=>pkL fx sl st lo ((mac a m).getD m) (max pk<|wdA fx sl st lo a m<|(mac a m).getD m) r
def pkM (fx sl st lo:Int)(m:Mc)(pk:Int)(l:List<|Int×Int):Nat->Int
 |0=>pk
 |i+1=>max (pkM fx sl st lo m pk l i)<|wdA fx sl st lo (l.getD i (0,0)) (Ch m l i)<|Ch m l<|i+1
def W4 (m:Mc)(a:Int×Int)(r:List<|Int×Int): ∀i,Ch m (a::r) (i+1)=Ch ((mac a m).getD m) r i
 |0=>rfl
 |i+1=>by
  have b:=W4 m a r i;show(mac ((a::r).getD (i+1) (0,0))<|Ch m (a::r)<|i+1).getD (Ch m (a::r)<|i+1)=_;rw[b];rfl
def aD9 : ∀(l:List<|Int×Int) (m:Mc),okL m l->∀i,i<ft l->mac (l.getD i (0,0)) (Ch m l i)=O (Ch m l<|i+1)
 |[],_,_,i,hi=>absurd hi (Nat.not_lt_zero _)
 |a::r,m,⟨m',b,d⟩,0,_=>by
  show mac a m=O ((mac a m).getD m);rw[b];rfl
 |a::r,m,⟨m',b,d⟩,i+1,hi=>by
  rw[W4,W4,b];exact aD9 r m' d i<|Nat.lt_of_succ_lt_succ hi
def bc5 (fx sl st lo:Int)(m:Mc)(pk:Int)(a:Int×Int)(r:List<|Int×Int): ∀i,pkM fx sl st lo m pk (a::r) (i+1)=pkM fx sl st lo ((mac a m).getD m) (max pk<|wdA fx sl st lo a m<|(mac a m).getD m) r i
 |0=>rfl
 |i+1=>by
  show max (pkM fx sl st lo m pk (a::r)<|i+1) (wdA fx sl st lo ((a::r).getD (i+1) (0,0)) (Ch m (a::r)<|i+1)<|Ch m (a::r)<|i+1+1)=_;rw[bc5 fx sl st lo m pk a r i,W4,W4];rfl
def aF4 (fx sl st lo:Int): ∀(l:List<|Int×Int) (m:Mc) (pk:Int),pkL fx sl st lo m pk l=pkM fx sl st lo m pk l (ft l)
 |[],_,_=>rfl
 |a::r,m,pk=>by
  rw[List.length_cons,bc5];exact aF4 fx sl st lo r _ _
structure InM (l n:Nat)(m:Mc):Prop where
 L:m.L=l
 p:0<=m.p/\m.p<=l
 q: -1<=m.q/\m.q<=l
 t:ft m.t=n
 g: ∀y∈m.t,-1<=y/\y<=l
theorem InM.mac {n:Nat}(h:InM l n m)(e:mac a m=O m'):InM l n m':=by
 have⟨d,b,o,g,j⟩:=h
 have p: ∀(k:Nat) (v:Int),-1<=v/\v<=l->∀y∈m.t.set k v,-1<=y/\y<=l:=λk v x y z=>by
  grind
 have q: ∀k:Nat,k<ft m.t->m.t.getD k 0<=l:=λk u=>by
  simp_all
 unfold Go.V.mac at e;split at e
 .split at e
  .injection e with e;subst e
   exact⟨d,⟨by simp only;omega,by simp only;omega⟩,o,g,j⟩
  cases e
 split at e
 .split at e
  .injection e with e;subst e
   exact⟨d,b,o,by simp only[cB];exact g,p _ _ V1⟩
  cases e
 split at e
 .split at e
  .rename_i c;cases e
   have:=q (fu a.2) V1;exact⟨d,⟨c.2.2,this⟩,o,g,j⟩
  cases e
 split at e
 .split at e
  .injection e with e;subst e
   exact⟨d,b,o,by simp only[cB];exact g,p _ _ V1⟩
  cases e
 split at e
 .split at e
  .injection e with e;subst e
   exact⟨d,b,⟨by simp only;omega,b.2⟩,g,j⟩
  cases e
 split at e
 .split at e
  .injection e with e;subst e
   exact⟨d,b,⟨by simp only;omega,b.2⟩,g,j⟩
  cases e
 split at e
 .split at e
  .injection e with e;subst e
   exact⟨d,b,⟨by simp only;omega,b.2⟩,g,j⟩
  cases e
 cases e
def m0 (l n:Nat):Mc:=⟨l,0,-1,List.replicate n<|-1⟩
def bw1 (l n:Nat):InM l n<|m0 l n:=⟨rfl,⟨by show(0:Int)<=0;omega,by show(0:Int)<=l;omega⟩,⟨by show(-1:Int)<= -1;omega,by show(-1:Int)<=l;omega⟩,List.length_replicate,λy b=>by rw[List.eq_of_mem_replicate b];omega⟩
def Uj {l n:Nat}{aa:List<|Int×Int}(b:okL (m0 l n) aa): ∀i,i<=ft aa->InM l n (Ch (m0 l n) aa i)
 |0,_=>bw1 l n
 |i+1,h=>(Uj b i V1).mac<|aD9 aa _ b i V1
def zM (aa:List<|Int×Int):Nat->Int
 |0=>0
 |i+1=>if(aa.getD i (0,0)).1=1 then IntKind.i64.wrap (zM aa i+(aa.getD i (0,0)).2)else zM aa i
def spM (m:Mc):Int×Int×Zd:=(m.p,m.q,m.t)
def spL (m:Mc)(aa:List<|Int×Int)(n:Nat):List<|Int×Int×Zd:=(List.range n).map λi=>spM<|Ch m aa i
def rdD (hi:i<ft aa):rd aa (i:Int)=O (aa.getD i (0,0)):=by
 rw[bq hi,List.getD_eq_getElem?_getD,List.getElem?_eq_getElem hi];rfl
theorem Wv {n:Nat}(z:l<=65535)(g:n<=1048576)(y:ft aa<=1000000)(b:okL (m0 l n) aa):
  xm (l:Int) (n:Int) aa=O ((ft aa:Int),0,spL (m0 l n) aa<|ft aa+1):=by
 unfold xm;refine du (ap8 V1 g) ?_;show cond (Zc<|(0:Int)≠0) _ _=_;rw[zA V2,zD];refine du (a:= .inr ((Ch (m0 l n) aa<|ft aa).L,(Ch (m0 l n) aa<|ft aa).p,(Ch (m0 l n) aa<|ft aa).q,(Ch (m0 l n) aa<|ft aa).t,zM aa<|ft aa,spL (m0 l n) aa<|ft aa+1)) ?_ rfl;refine bz (f:=qU aa) (n:=ft aa) (λi=>((Ch (m0 l n) aa i).L,(Ch (m0 l n) aa i).p,(Ch (m0 l n) aa i).q,(Ch (m0 l n) aa i).t,zM aa i,spL (m0 l n) aa<|i+1)) V1 (λi hi=> ?_) ?_
 .obtain⟨j,o,u,v,x⟩:=Uj b i V1;have e:=aD9 aa _ b i hi;unfold qU;simp only;rw[Zf,zC];refine du (rdD hi) ?_;refine du (aG4 e V1 V1 V1 V1) ?_;simp only;rw[zA V2,zD,au (by unfold spL;rw[bB,bD];omega) V1,Zi]
  have d:spL (m0 l n) aa (i+1)++[((Ch (m0 l n) aa<|i+1).p,(Ch (m0 l n) aa<|i+1).q,(Ch (m0 l n) aa<|i+1).t)]=spL (m0 l n) aa (i+1+1):=by
   unfold spL;rw[cK (n:=i+1),cD];rfl
  rw[d];rfl
 .unfold qU
  grind
theorem af4 {n:Nat}(hi:i<n):(spL m aa n)[i]?=O (spM<|Ch m aa i):=by
 unfold spL
 grind
def wdL (fx sl st lo:Int)(m:Mc)(aa:List<|Int×Int)(n:Nat):Zd:=(List.range n).map λi=>wdA fx sl st lo (aa.getD i (0,0)) (Ch m aa i)<|Ch m aa<|i+1
theorem Uu {a:Int}(h:0<=a/\a<=1048576):nV a=O Za:=by
 unfold nV
 grind
def aa8 (t:Zd):vR t<=ft t:=List.countP_le_length
def by2 (e:0<=fx/\fx<=1048576)(d:0<=sl/\sl<=1048576){x:Nat}(g:x<=1048576):0<=sl*(x:Int)/\sl*(x:Int)<=1099511627776:=by
 have a:=Int.mul_nonneg d.1 (show(0:Int)<=x by omega);have b:sl*(x:Int)<=1048576*1048576:=Int.mul_le_mul d.2 V1 V1 V1;omega
theorem Ww {n:Nat}{st lo:Int}(I:l<=65535)(g:n<=1048576)(F:ft aa<=1000000)(j:okL (m0 l n) aa)(o:0<=fx/\fx<=1048576)(p:0<=sl/\sl<=1048576)(D:0<=st/\st<=1048576)(E:0<=lo/\lo<=1048576):
  xn (l:Int) (n:Int) aa fx sl st lo=O (0,wdL fx sl st lo (m0 l n) aa<|ft aa):=by
 unfold xn;refine du (Uu o) ?_;rw[aB,zD];refine du (Uu p) ?_;rw[aB,zD];refine du (Uu D) ?_;rw[aB,zD];refine du (Uu E) ?_;rw[aB,zD];refine du (Wv I g F j) ?_;show cond (Zc<|(0:Int)≠0) _ _=_;rw[zA V2,zD];refine du (a:=wdL fx sl st lo (m0 l n) aa<|ft aa) ?_ rfl;refine bz (f:=qV aa fx sl st lo ((ft aa:Int),0,spL (m0 l n) aa<|ft aa+1)) (n:=ft aa) (λi=>wdL fx sl st lo (m0 l n) aa i) V1 (λi hi=> ?_) ?_
 .have q:=Uj j i V1;have e:=Uj j (i+1) V1;have d:ft (spL (m0 l n) aa<|ft aa+1)=ft aa+1:=by unfold spL;rw[bB,bD]
  have A:=aa8 (Ch (m0 l n) aa i).t;have B:=aa8 (Ch (m0 l n) aa<|i+1).t;rw[q.t]at A;rw[e.t]at B;unfold qV;simp only;rw[Zf,zC,d];refine du (bl (show i<ft aa+1 by omega)) ?_;refine du (af4 (show i<ft aa+1 by omega)) ?_;rw[ad (n:=(i:Int)+1) V1];refine du (bl (show i+1<ft aa+1 by omega)) ?_;refine du (af4 (show i+1<ft aa+1 by omega)) ?_;refine du (Mt (by show(ft (Ch (m0 l n) aa i).t)<=_;rw[q.t];exact g)) ?_;refine du (Mt (by show(ft (Ch (m0 l n) aa<|i+1).t)<=_;rw[e.t];exact g)) ?_;show(_:Option Int).bind _=_;have b:max (vR (Ch (m0 l n) aa i).t:Int) (vR (Ch (m0 l n) aa<|i+1).t:Int)=((max (vR (Ch (m0 l n) aa i).t) (vR (Ch (m0 l n) aa<|i+1).t):Nat):Int):=by omega
  have H:=by2 o p (x:=max (vR (Ch (m0 l n) aa i).t)<|vR (Ch (m0 l n) aa<|i+1).t) V1;rw[<-b]at H;have K:ft (wdL fx sl st lo (m0 l n) aa i)=i:=by unfold wdL;rw[bB,bD]
  have C:wdL fx sl st lo (m0 l n) aa (i+1)=wdL fx sl st lo (m0 l n) aa i++[wdA fx sl st lo (aa.getD i (0,0)) (Ch (m0 l n) aa i)<|Ch (m0 l n) aa<|i+1]:=by
   unfold wdL;rw[cK,cD];rfl
  rw[C];unfold wdA;simp only[spM];generalize max (vR (Ch (m0 l n) aa i).t:Int) (vR (Ch (m0 l n) aa<|i+1).t:Int)=J at*;generalize L:sl*J=x at*;rw[rdD hi];simp only[zG];generalize aa.getD i (0,0)=a at*;have⟨k,v⟩:=a;simp only;rw[ad (n:=x) V1,ad (n:=fx+x) V1,ad (n:=fx+x+lo) V1];by_cases u:k=5
  .rw[zB u,zC];simp only[zG];rw[Ze,zD,Ze,zD];simp only[zG];rw[au V1 V1,Zg,Zh,aD];rfl
  rw[zA u,zD];by_cases y:k=6
  .rw[zB y,zC];simp only[zG];rw[zC];simp only[zG];rw[Zi,au V1 V1,Zg,Zg];rfl
  rw[zA y,zD];simp only[zG];rw[zD];by_cases z:k=7
  .rw[zB z,zC];simp only[zG];rw[Zi,au V1 V1,Zh,Zg,aD];rfl
  .rw[zA z,zD];simp only[zG];rw[au V1 V1,Zh,Zh,aD,aD];rfl
 .unfold qV
  grind
theorem TY {st lo:Int}(d:ft aa<=1000000)(z:Int):am (oR (z,wdL fx sl st lo m aa<|ft aa)) cj (0,fx)=O (pkM fx sl st lo m fx aa<|ft aa):=by
 have b:ft (wdL fx sl st lo m aa<|ft aa)=ft aa:=by unfold wdL;rw[bB,bD]
 refine bz (f:=oR (z,wdL fx sl st lo m aa<|ft aa)) (n:=ft aa) (λi=>pkM fx sl st lo m fx aa i) V1 (λi hi=> ?_) ?_
 .unfold oR;simp only;rw[b,Zf,zC];refine du (bl hi) ?_;refine du (a:=wdA fx sl st lo (aa.getD i (0,0)) (Ch m aa i)<|Ch m aa<|i+1) (by unfold wdL;rw[List.getElem?_map,List.getElem?_range hi];rfl) ?_;rw[Zi];rfl
 unfold oR
 grind
end
section
open Nat renaming eq_zero_or_pos->aB,succ_mul->aD,exists_eq_add_of_le->bB
def Ip :List (Int×Int)->Int
 |[]=>0
 |a::r=>(if a.1=1 then a.2 else 0)+Ip r
def vt : ∀a b,Ip (a++b)=Ip a+Ip b
 |[],b=>by show Ip b=0+Ip b;omega
 |x::a,b=>by
  show(if x.1=1 then x.2 else 0)+Ip (a++b)=(if x.1=1 then x.2 else 0)+Ip a+Ip b;rw[vt a b];omega
def Mb (k n:Int)(h:k≠1)(r:List<|Int×Int):Ip ((k,n)::r)=Ip r:=by
 show(if k=1 then n else 0)+Ip r=_;rw[zF h];omega
def bb1 (n:Int)(r:List<|Int×Int):Ip ((1,n)::r)=n+Ip r:=rfl
def XA (d:Nat): ∀n t,Ip (I9 d n t).1=0
 |0,t=>rfl
 |n+1,t=>by
  have b:=XA d n t;unfold I9;split
  .show Ip ((I9 d n t).1++_)=0;rw[vt,b];rfl
  .exact b
def UW (k:Nat)(t:Zd):Ip (qF k t).1=0:=by
 unfold qF;split
 .show Ip (_++_)=0;rw[vt,XA];rfl
 exact XA _ _ _
def QY (s:Nat): ∀k,Ip (cz s k).1=k
 |0=>UW _ _
 |k+1=>by
  show Ip ((cz s k).1++[(1,1)]++(qF (k+1) (cz s k).2).1)=_;rw[vt,vt,QY s k,UW];show(k:Int)+(1+0)+0=_;omega
def sM (d:Nat):Nat->Nat
 |0=>0
 |i+1=>i % d+sM d i
def Y7 (d:Nat)(t:Zd)(i:Nat):Ip (UA d t i)=0:=by
 unfold UA;split
 .rfl
 rfl
def au4 (d:Nat)(t:Zd): ∀i,Ip (XL d t i)=sM d i
 |0=>rfl
 |i+1=>by
  unfold XL;rw[Mb _ _ V1,vt,Mb _ _ V1,vt,Y7,au4 d t i];show _=((i % d+sM d i:Nat):Int);by_cases h:i % d=0
  .rw[zF (λk=>k h),h];show 0+_=_;omega
  .rw[zE h,bb1];show((i % d:Nat):Int)+0+_=_;omega
def au3 (l:Nat)(t:Zd):Ip (Fb l t)=sM (pX l<|ft t) l:=by
 unfold Fb;rw[Mb _ _ V1,vt,Y7,au4];omega
def bp9 {s d:Nat}(o:l<=40)(j:1<=s)(h:IsStr l s d): ∃e,e<7/\d=2 ^ e:=by
 have⟨e,b⟩:=h.pw;refine⟨e, ?_,b⟩;rcases Nat.lt_or_ge e 7 with k|k
 .exact k
 have g:2 ^ 7<=2 ^ e:=Nat.pow_le_pow_right V1 k;rw[<-b]at g;rcases h.lo with h2|h2
 .omega
 have:1*(d / 2)<=s*(d / 2):=Nat.mul_le_mul_right _ j;omega
def bb7 : ∀r,ch r 1=r
 |0=>rfl
 |r+1=>by rw[Ey,H5,bb7 r];omega
structure Gr (n c r:Nat):Prop where
 up:n<=ch (c+r) r
 lo:r=0∨ch (c+(r-1)) (r-1)<=n
def IsRep.gr {n:Nat}(h:IsRep n c r):Gr n c r:=⟨h.up,by
 rcases aB r with k|k
 .exact .inl k
 .exact .inr (Nat.le_of_lt<|h.low _ V1)⟩
def vL (n c r:Nat):Int:=((r*n:Nat):Int)-((ch (c+r) (c+1):Nat):Int)
def bJ8 (n c x:Nat)(h:n=ch (c+x) x):vL n c (x+1)=vL n c x:=by
 unfold vL;rw[show c+(x+1)=(c+x)+1 by omega,Ey (c+x) c,Ae (c+x) c x V1,<-h,aD];omega
def Y0 (n c r:Nat)(h:Gr n c r): ∀d,Gr n c (r+d)->vL n c (r+d)=vL n c r
 |0,_=>rfl
 |d+1,g=>by
  have j:=h.up;have o:=Oz c (show r<=r+d by omega)
  have p:ch (c+(r+d)) (r+d)<=n:=by
   rcases g.lo with k|k
   .omega
   .exact k
  have e:n=ch (c+(r+d)) (r+d):=by omega
  have b:Gr n c<|r+d:=⟨V1,by
   rcases aB (r+d)with k|k
   .exact .inl k
   .exact .inr (by rw[e];exact Oz c V1)⟩
  rw[show r+(d+1)=(r+d)+1 by omega,bJ8 n c (r+d) e];exact Y0 n c r h d b
def by1 {n b:Nat}(h:Gr n c r)(e:Gr n c b):vL n c r=vL n c b:=by
 rcases Nat.le_total r b with k|k
 .obtain⟨d,rfl⟩:=bB k;exact(Y0 n c r h d e).symm
 obtain⟨d,rfl⟩:=bB k;exact Y0 n c b e d h
def by0 (h:Gr 1 c r):vL 1 c r=0:=by
 unfold vL;rcases aB c with k|k
 .subst k;rw[Nat.zero_add,bb7];omega
 rcases Nat.lt_or_ge r 2 with k2|k2
 .rcases(show r=0∨r=1 by omega)with rfl|rfl
  .rw[Ex V1];omega
  rw[Ng];omega
 rcases h.lo with k3|k3
 .omega
 have:=Hm k<|r-1;omega
def bp2 {n:Nat}(t:2<=n)(hc:1<=c)(p:n<=65536)(g:IsRep n c r):1<=r/\Gr (n-RW n c) (c-1) r/\Gr (RW n c) c (r-1):=by
 have⟨z,A,B,b⟩:=PO t hc p;have e:=(Ko n hc).eq g;rw[e]at b;have j:=g.up
 have H:1<=r:=by
  rcases aB r with k|k
  .subst k;rw[H5]at j;omega
  exact k
 obtain⟨x,rfl⟩: ∃x,r=x+1:=⟨r-1,V1⟩
 obtain⟨k,rfl⟩: ∃k,c=k+1:=⟨c-1,V1⟩
 have o:=g.low x V1
 have u:ch (k+1+(x+1)) (x+1)=ch (k+1+x) x+ch (k+(x+1)) (x+1):=by
  rw[show k+1+(x+1)=(k+1+x)+1 by omega,Ey,show k+(x+1)=k+1+x by omega]
 have q:QD (((k+1:Nat):Int)+((x+1:Nat):Int)-1) (((k+1:Nat):Int)-1)=((min lm (ch (k+(x+1))<|x+1):Nat):Int):=by
  have h:=Ew (n:=k+(x+1)) (k:=k) V1;rw[Ae (k+(x+1)) k (x+1) V1]at h;rw[<-h]
  congr 1<;>omega
 have v:=IH (n:=k+1+x) (k:=x) V1;unfold spI at b;rw[q]at b;unfold lm at b;show 1<=x+1/\Gr _ k (x+1)/\Gr _ (k+1) x;rcases aB x with h0|h0
 .subst h0
  have d:QD (((k+1:Nat):Int)+((0+1:Nat):Int)-2) ((k+1:Nat):Int)=0:=by
   unfold QD;rw[Zg]
  rw[d]at b;rw[H5]at u;refine⟨V1,⟨V1, .inr ?_⟩,⟨?_, .inl rfl⟩⟩
  .rw[show 0+1-1=0 from rfl,H5];omega
  rw[H5];omega
 obtain⟨y,rfl⟩: ∃y,x=y+1:=⟨x-1,V1⟩
 have C:ch (k+1+(y+1)) (y+1)=ch (k+1+y) y+ch (k+(y+1)) (y+1):=by
  rw[show k+1+(y+1)=(k+1+y)+1 by omega,Ey,show k+(y+1)=k+1+y by omega]
 have d:QD (((k+1:Nat):Int)+((y+1+1:Nat):Int)-2) ((k+1:Nat):Int)=((min lm (ch (k+1+y) y):Nat):Int):=by
  have h:=Ew (n:=k+1+y) (k:=k+1) V1;rw[Ae (k+1+y) (k+1) y V1]at h;rw[<-h]
  congr 1
  omega
 rw[d]at b;unfold lm at b;have D:=bb8 k<|y+1;have E:=IH (n:=k+1+y) (k:=y) V1;have F:=IH (n:=k+(y+1)) (k:=y+1) V1;refine⟨V1,⟨V1, .inr ?_⟩,⟨V1, .inr ?_⟩⟩
 .show ch (k+(y+1)) (y+1)<=_;omega
 show ch (k+1+y) y<=_;omega
theorem au5 : ∀f,(∀(n c k:Nat) (h:List Bool) (b:Bool) (r:Nat),2*n<=f->1<=n->n<=65536->(2<=n->1<=c)->Gr n c r->Ip (pt f Zb n c k h b)=vL n c r)/\
  (∀(n c k:Nat) (h:List Bool) (b:Bool) (r:Nat),2*n<=f+1->1<=n->n<=65536->1<=c->Gr n c r->Ip (pt f Za n c k h b)=vL n c r)
 |0=>⟨λn c k h b r d q=>by omega,λn c k h b r d q=>by omega⟩
 |f+1=>by
  have⟨o,p⟩:=au5 f;refine⟨λn c k h b r A B j hc g=> ?_,λn c k h b r A B j hc g=> ?_⟩
  .unfold pt;by_cases d:n=1
   .subst d;rw[zE rfl,by0 g,Mb _ _ (by split<;>omega)];rfl
   .rw[zF d,Mb _ _ V1]
    grind
  .unfold pt;by_cases d:n<=1
   .have:n=1:=by omega
    subst this;rw[zE d,by0 g];rfl
   .have t:=Ko n hc;have⟨D,E,F,H⟩:=PO (n:=n) (c:=c) V1 hc j;have⟨C,v,z⟩:=bp2 V1 hc j t;rw[zF d,bb1,vt,Mb _ _ V1,by1 g t.gr];generalize yR n c=e at*;generalize RW n c=m at*
    rw[o (n-m) (c-1) 0 h b e V1 V1 V1 (λq=>by
     omega) v,p m c k h Zb (e-1) V1 V1 V1 hc z]
    obtain⟨x,rfl⟩: ∃x,e=x+1:=⟨e-1,V1⟩
    obtain⟨u,rfl⟩: ∃u,n=m+u:=⟨n-m,V1⟩
    obtain⟨y,rfl⟩: ∃y,c=y+1:=⟨c-1,V1⟩
    unfold vL;rw[show m+u-m=u by omega,show y+1-1=y by omega,show x+1-1=x by omega,show y+1+(x+1)=(y+1+x)+1 by omega,Ey (y+1+x)<|y+1,show y+(x+1)=y+1+x by omega,aD,aD,Nat.mul_add];omega
def ax4 {l s r:Nat}(h:IsRep l s r): ∀x,x<=r->ch (s+x) (s+1)<=x*l
 |0,_=>by rw[Ex V1];omega
 |x+1,d=>by
  have e:=ax4 h x V1;have b:=h.low x V1;rw[show s+(x+1)=(s+x)+1 by omega,Ey,Ae (s+x) s x V1,aD];omega
end
section
open Int renaming mul_le_mul_of_nonneg_left->aB
section
variable {c:Cx} (h:c.Ok)
theorem Vl {a n:Int}(b:(yg c a n s).1=0):
  (yg c a n s).2.c0=s.c0+(if a=1 then n else 0)/\(yg c a n s).2.c1=s.c1+(if a=6∨a=7 then 1 else 0)/\(yg c a n s).2.c2=s.c2+(if a=5∨a=6 then 1 else 0)/\(yg c a n s).2.c3=s.c3+(if a=6 then 2 else if a=5∨a=7 then 1 else 0)/\
  (yg c a n s).2.q=(if a=5∨a=6∨a=7 then s.p else s.q)/\(a=5->s.q= -1/\s.p=s.L)/\(a=6->s.q= -1/\s.p=s.L-1)/\(a=7->0<s.q/\s.p=s.q-1)/\
  (s.lv<=s.pk->0<=c.sl->(yg c a n s).2.pk=max s.pk (max s.lv (yg c a n s).2.lv+(if a=5∨a=6 then(c.fk.n:Int)else 0)+(if a=6∨a=7 then(c.fl.n:Int)else 0))):=by
 unfold yg at b⊢;by_cases d:jb a n=Zb∨7<a
 .rw[zE d]at b;simp at b
 have j:1<=a/\a<=7:=by
  have: ¬jb a n=Zb/\¬7<a:=by rw[not_or]at d;exact d
  have g:jb a n=Za:=by have:=this.1;revert this;cases jb a n<;>simp
  unfold jb at g
  grind
 rw[zF d]at b⊢;by_cases e:(2<=a/\a<=4)/\c.ns<=n
 .rw[zE e]at b;simp at b
 rw[zF e]at b⊢;rcases(show a=1∨a=2∨a=3∨a=4∨a=5∨a=6∨a=7 by omega)with rfl|rfl|rfl|rfl|rfl|rfl|rfl
 all_goals simp only[Int.reduceEq,if_true,if_false,false_or,or_false,or_self,true_or,or_true]at b⊢
 all_goals revert b
 all_goals first|(split;(intro b;simp at b;done))|skip
 all_goals first|(split;(intro b;simp at b;done))|skip
 all_goals intro b
 all_goals refine⟨?_, ?_, ?_, ?_, ?_, ?_, ?_, ?_, ?_⟩
 all_goals grind
include h
structure CntI (c:Cx)(s:Dy):Prop where
 a:s.q<0->s.q= -1/\s.c1=(if c.mode=3 then s.p else 0)/\s.c2=0/\s.c3=0/\(c.mode=3->s.pk=c.fixed+c.sl*s.p)
 b:0<=s.q->s.c2=1/\s.c1+(if c.mode=3 then 0 else s.q)=s.L/\s.c3+s.q=s.L+1/\(c.mode=3->s.pk=c.fixed+c.sl*s.L+c.fk.n)
theorem YM :1<=c.sl:=by
 have n:=h.num;have:=n.sl;have:=n.R;rw[n.sl];split<;>omega
theorem aO5 (w:di c i s)(m:vP c a s)(k:CntI c s):CntI c (rR c a s)/\(rR c a s).c0=s.c0+(if a.1=1 then a.2 else 0):=by
 have H:=YM h;have⟨u,y⟩:=k;unfold di vP rR at*;by_cases b:c.mode=3
 .simp only[zE b]at w m u y⊢;have hi:=w.inv;have E:=hi.p;have F:=hi.q;have hL:=hi.L;have e:=hi.lv;unfold iY at e;unfold GP at m⊢;by_cases A:a.1=8
  .simp only[zE A]at m⊢;split at m
   .simp at m
   split at m
   .simp at m
   split at m
   .simp at m
   rename_i c1 c2 c3;have⟨o,t,x,g,j⟩:=u V1;have j:=j b;rw[Zg]at e;rw[zF c1,zF c2,zF c3];refine⟨⟨λ_=>⟨o, ?_,x,g,λ_=> ?_⟩,λd=> ?_⟩,by rw[Zh];simp⟩
   .rw[zE b];show s.c1+1=s.p+1;omega
   .show max s.pk (s.lv+c.sl)=c.fixed+c.sl*(s.p+1);rw[Int.mul_add];omega
   have d:0<=s.q:=d;omega
  simp only[zF A]at m⊢;by_cases z:a.1=5
  .simp only[zE z]at m⊢;split at m
   .simp at m
   split at m
   .simp at m
   split at m
   .simp at m
   rename_i c1 c2 c3;have⟨o,t,x,g,j⟩:=u V1;have j:=j b;rw[Zg]at e;rw[zF c1,zF c2,zF c3];have v:s.p=s.L:=by omega
   rw[v]at e j t;refine⟨⟨λd=> ?_,λ_=>⟨?_, ?_, ?_,λ_=> ?_⟩⟩,by rw[Zh];simp⟩
   .have d:s.L<0:=d;omega
   .show s.c2+1=1;omega
   .rw[zE b];show s.c1+0=s.L;omega
   .show s.c3+1+s.L=s.L+1;omega
   grind
  simp only[zF z]at m⊢;by_cases B:a.1=9
  .simp only[zE B]at m⊢;split at m
   .simp at m
   split at m
   .simp at m
   rename_i c1 c2;have⟨o,t,x,g⟩:=y V1;have g:=g b;rw[zF c1,zF c2];refine⟨⟨λd=> ?_,λ_=>⟨o, ?_, ?_,λ_=>g⟩⟩,by rw[Zh];simp⟩
   .have d:s.q-1<0:=d;omega
   .rw[zE b];exact t
   grind
  simp only[zF B]at m;simp at m
 simp only[zF b]at w m u y⊢;obtain⟨m',m⟩:=m;have⟨C,I⟩:=Hr h b w.inv m;have⟨D,J,K,M,N,V,W,Z,_⟩:=Vl C;have eL:=ay7 (c:=c) a.1 a.2 s;have E:=w.inv.p;have F:=w.inv.q;generalize (yg c a.1 a.2 s).2=s' at*;refine⟨⟨λd=> ?_,λd=> ?_⟩,D⟩
 .rw[zF b]
  grind
 rw[zF b]
 grind
theorem aZ0 {t:Nat}{g:Bool}{o:Dy}(H:Way c l f en s es t g o): ∀{i:Nat},di c i s->CntI c s->CntI c o/\o.c0=s.c0+Ip (pU es):=by
 induction H with
 |nil=>exact λ_ k=>⟨k,(Int.add_zero _).symm⟩
 | @act f en s a es t g o z b _ j=>
  intro i w k;have⟨x,y⟩:=aO5 h w b k;have⟨u,v⟩:=j (lH h w z b) x;refine⟨u,v.trans ?_⟩;show _=s.c0+((if a.1=1 then a.2 else 0)+Ip (pU es));omega
 | @more f s es t g o a b d e _ _ j=>
  intro i w k
  have⟨u,v⟩:=j (wV h w a d e) ⟨λp=>by
   have⟨x,y,A,B,D⟩:=k.a p
   exact⟨x,y,A,B,λC=>by omega⟩,λp=>by have p:0<=s.q:=p;omega⟩
  exact⟨u,v⟩
 |stop a b d e _ j=>exact λw k=>j w k
omit h in
theorem bn0 {l0:Int}(e:mac a m=O m')(b:m.L<=l0)(d:0<=m'.q->m.L=l0)(g:0<=m.p):mac a ⟨l0,m.p,m.q,m.t⟩=O ⟨l0,m'.p,m'.q,m'.t⟩:=by
 unfold mac at*
 grind
omit h in
theorem ax7 (W:Zd):vR (iC c W)=jz c W:=by
 unfold vR iC jz;rw[List.countP_map]
 congr 1
 funext k
 show Zc (0<=ib c W k-1)=Zc (0<ib c W k)
 grind
theorem aZ1 (I:c.mode≠3){l0:Int}{F:Nat}{j:Bool}{v:Dy}(H:Way c l f en s es F j v): ∀{i:Nat},di c i s->v.L=l0->s.L<=l0/\(0<=s.q->s.L=l0)/\okL ⟨l0,s.p,s.q,iC c s.W⟩ (pU es)/\v.pk=pkL c.fixed c.sl c.fl.n c.fk.n ⟨l0,s.p,s.q,iC c s.W⟩ s.pk (pU es):=by
 have hsl:=YM h;induction H with
 |nil=>exact λw e=>⟨V1,λ_=>e,trivial,rfl⟩
 | @act f en s a es F j v N b _ u=>
  intro i w e;have D:=lH h w N b;have⟨z,A,B,C⟩:=u D e;have ed:rR c a s=(yg c a.1 a.2 s).2:=by unfold rR;rw[zF I]
  unfold di at w D;unfold vP at b;rw[zF I]at w D b;have⟨m',mm⟩:=b;have⟨V,K⟩:=Hr h I w.inv mm;have⟨_,_,_,_,e4,e5,e6,e7,E⟩:=Vl V;have E:=E w.inv.pk.1 V1;have M:=ay7 (c:=c) a.1 a.2 s;have hp:=w.inv.p;have lv:=w.inv.lv;have o:=D.inv.lv;rw[ed]at z A B C o;rw[<-ax7]at lv o
  have x:=bn0 (l0:=l0) mm (by show s.L<=l0;omega) (λy=>by
   rw[<-K]at y
   exact M.symm.trans<|A y) hp.1
  rw[<-K]at x;have x:mac a ⟨l0,s.p,s.q,iC c s.W⟩=O ⟨l0,(yg c a.1 a.2 s).2.p,(yg c a.1 a.2 s).2.q,iC c (yg c a.1 a.2 s).2.W⟩:=x;generalize (yg c a.1 a.2 s).2=t at*;refine⟨V1,λy=>by rw[<-M];exact A (by rw[e4];split<;>omega),⟨_,x,B⟩, ?_⟩;show _=pkL _ _ _ _ ((mac a _).getD _) _ (pU es);rw[x,C];show pkL _ _ _ _ _ t.pk (pU es)=pkL _ _ _ _ _ (max s.pk<|wdA _ _ _ _ a ⟨l0,s.p,s.q,iC c s.W⟩ ⟨l0,t.p,t.q,iC c t.W⟩) (pU es)
  congr 1
  rw[E];unfold wdA;simp only
  have J:c.sl*max (vR (iC c s.W):Int) (vR (iC c t.W):Int)=max (c.sl*(vR (iC c s.W):Int)) (c.sl*(vR (iC c t.W):Int)):=by
   rcases Int.le_total (vR (iC c s.W):Int) (vR (iC c t.W):Int)with k|k
   .have:=aB k (show 0<=c.sl by omega)
    grind
   have:=aB k (show 0<=c.sl by omega)
   grind
  rw[J,lv,o];omega
 | @more f s es F j v a b d e g _ u=>
  intro i w Z;have⟨z,A,B,C⟩:=u (wV h w a d e) Z;have z:s.L+1<=l0:=z;exact⟨V1,λy=>by omega,B,C⟩
 |stop a b d e _ u=>exact λw e=>u w e
theorem aQ8 (H:Way c l 0 Zb (oV c) es f en s)(F:Fin c l f en s es):
  s.c0=Ip (pU es)/\s.c1=l/\s.c2=1/\s.c3=(l:Int)+1/\(c.mode=3->s.pk=c.fixed+c.sl*l+c.fk.n)/\(c.mode≠3->(c.mode=2->c.len=0)->okL (m0 l<|fu c.ns) (pU es)/\s.pk=pkL c.fixed c.sl c.fl.n c.fk.n (m0 l<|fu c.ns) c.fixed (pU es)):=by
 have w0:=nB h
 have⟨⟨_,k⟩,o⟩:=aZ0 h H w0 ⟨λ_=>by
  unfold oV;split
  .exact⟨rfl,rfl,rfl,rfl,λ_=>by show c.fixed=c.fixed+c.sl*0;omega⟩
  .exact⟨rfl,rfl,rfl,rfl,λb=>by omega⟩,λA=>by
  have e:(oV c).q= -1:=by unfold oV;split<;>rfl
  omega⟩
 have⟨y,p,z,u⟩:=k (by rw[F.q];omega);have v:(oV c).c0=0:=by unfold oV;split<;>rfl
 rw[v,Int.zero_add]at o;rw[F.q,F.L]at z;rw[F.q]at p;rw[F.L]at p u;refine⟨o, ?_,y,V1,λb=>u b,λb B=> ?_⟩
 .omega
 .obtain⟨_,_,g,j⟩:=aZ1 h b H w0 F.L;have e:oV c=new2 c:=by unfold oV;rw[zF b]
  have d:=Yd h b;rw[e]at g j;have x:iC c (new2 c).W=List.replicate (fu c.ns) (-1):=congrArg Mc.t d;rw[x]at g j;exact⟨g,j⟩
end
end
section
open Go.IntKind renaming wrap->zH,i64->zI,u64->zJ
open Int renaming eq_ofNat_of_zero_le->cD,toNat_natCast->cK,lt_of_le_of_lt->cN
open List renaming replicate->aB,length_append->aD,length_take->bB,length_cons->bD,range->cB,length_nil->cL,getElem_mem->cO,mem_of_mem_take->cP,replicate_succ'->cQ,take_length->cR
open Nat renaming zero_add->cM
def aA4 :zy=O Za:=by kernel_rfl
def np (l:List Zd):Zd:=l.flatMap λx=>(ft x:Int)::x
def OR {l:List<|Zd}(hi:i<ft l):np (l.take<|i+1)=np (l.take i)++[(ft l[i]:Int)]++l[i]:=by
 unfold np;rw[List.take_succ_eq_append_getElem hi,List.flatMap_append];simp
def Rn {l:List<|Zd}{M:Nat}(h: ∀x∈l,ft x<=M):ft (np l)<=(M+1)*ft l:=by
 unfold np;induction l with
 |nil=>simp
 |cons x l d=>
  have e:=d<|λy b=>h y (by simp[b]);have g:=h x V2;simp only[List.flatMap_cons,aD,bD];rw[Nat.mul_add];omega
def Xi {l:List<|Zd}(j:l.length<=10)(h: ∀x∈l,x.length<=100000):mq l=O (np l):=by
 unfold mq
 have b:am (mX l) cj (0,np<|l.take 0)=O (np l):=by
  refine bz (n:=l.length) (λi=>np<|l.take i) V1 (λi hi=> ?_) ?_
  .have d:=Rn (l:=l.take i) (M:=100000)<|λx e=>h x<|cP e;have g:=h _<|cO hi;rw[bB]at d;unfold mX;rw[ah,Zg,bq hi];simp only[zG];rw[au V1 V1,au (by rw[aD];simp;omega) V1,wY V1,ad (n:=(i:Int)+1) V1,OR hi];rfl
  unfold mX;rw[ah,Zh,cR]
 have b:am (mX l) cj (0,[])=_:=b;rw[b];rfl
def Wo {l:List<|Zd}(p:l.length<=10)(h: ∀x∈l,x.length<=100000):xc l=O (np l):=by
 unfold xc
 have b:am (mN l) cj (0,np<|l.take 0)=O (np l):=by
  refine bz (n:=l.length) (λi=>np<|l.take i) V1 (λi hi=> ?_) ?_
  .have d:=Rn (l:=l.take i) (M:=100000)<|λx g=>h x<|cP g;have o:=h _<|cO hi;rw[bB]at d;unfold mN;rw[ah,Zg,bq hi];simp only[zG];rw[au V1 V1,wY V1,ay0 (l:=l[i]) (np (l.take i)++[(l[i].length:Int)]) V1 (λj e=> ?_) ?_]
   .simp only[zG];rw[ad (n:=(i:Int)+1) V1,OR hi];rfl
   .unfold wy;simp only;rw[bq hi];simp only[zG];rw[ah,Zh]
   unfold wy;simp only;rw[bq hi];simp only[zG];rw[ah,Zg,bq e];simp only[zG];rw[au (by rw[aD,aD,bB];simp;omega) V1,ad (n:=(j:Int)+1) V1];rfl
  unfold mN;rw[ah,Zh,cR]
 have b:am (mN l) cj (0,[])=_:=b;rw[b];rfl
def WN {f:(Int×Zd)->Option ((Int×Zd)⊕Zd)}{v:Zd}(e: ∀(i:Nat) (o:Zd),i<8->ft o<=10000->f ((i:Int),o)=O (.inl (((i+1:Nat):Int),o++[zH zJ<|v.getD i 0])))(d: ∀o,f (8,o)=O (.inr o)){a:Zd}(g:ft a<=9000):
  am f cj (0,a)=O (a++(cB 8).map λi=>IntKind.u64.wrap<|v.getD i 0):=by
 have b:=bz (f:=f) (n:=8) (F:=λi=>a++(cB i).map λi=>IntKind.u64.wrap<|v.getD i 0) (c:=a++(cB 8).map λi=>IntKind.u64.wrap<|v.getD i 0) V1 (λi hi=> ?_) (d _)
 .have:a++(cB 0).map (λi=>IntKind.u64.wrap<|v.getD i 0)=a:=by simp
  rw[this]at b;exact b
 .rw[e i _ hi (by rw[aD,List.length_map,List.length_range];omega),List.range_succ,List.map_append,List.append_assoc];rfl
def Yn (c:Cx)(s:Dy)(n:Nat):Zd:=([0,s.z]++np [seg s.W (c.off 5)<|ft c.X,seg s.W (c.off 6)<|ft c.T])++[zH zJ s.L,zH zJ c.ns,zH zJ s.c0,zH zJ s.c1,zH zJ s.c2,zH zJ s.c3,zH zJ s.pk,zH zJ (n:Int)]
def bc9 {o:Zd}{v:Zd}(hi:i<8)(b:ft o<=10000):cond (Zc<|(i:Int)<8) (gn (ix (i:Int) 8) λj=>gd (dh (ft o+1) 8)<|O<|.inl (zH zI<|(i:Int)+1,o++[zH zJ<|v.getD j 0])) (O<|.inr o)=(O (.inl (((i+1:Nat):Int),o++[zH zJ<|v.getD i 0])):Option<|(Int×Zd)⊕Zd):=by
 rw[Zf,zC];refine du (bl hi) ?_;rw[au V1 V1,Zi];rfl
section
variable {c:Cx} (h:c.Ok)
include h
theorem Ud (e0:gy c.mode (ft c.X) (ft c.T) c.R c.l c.Q c.k c.len c.words=(c.fixed,c.tp,c.sl,c.ns,0)){n:Nat}(F:s.q=0){A:Option<|Int×Int×Zd×Zd}{B:Option<|Int×Int×Int×Int}{L K:Option Int}(e:A=O (FP c s))(g:B=O (s.c0,s.c1,s.c2,s.c3))(u:L=O s.L)(j:K=O s.pk):
  (A.bind λr=>gn (io c.mode c.X c.T c.R c.l c.Q c.k c.len c.words) λp=>gn (mq [r.2.2.1,r.2.2.2]) λw=>gd (dh (2+ft w) 8)<|B.bind λb=>L.bind λx=>K.bind λk=>gn (am (sP (n:Int) p b x k) cj (0,([0,r.1]:Zd)++w)) λr=>O r)=O (Yn c s n):=by
 have I:=h.num.x;have J:=h.num.t;have d:io c.mode c.X c.T c.R c.l c.Q c.k c.len c.words=O (gy c.mode (ft c.X) (ft c.T) c.R c.l c.Q c.k c.len c.words):=LA h.hl h.hk;rw[e0]at d;have C:ft (seg s.W (c.off 5)<|ft c.X)<=64:=Nat.le_trans (by unfold seg;rw[bB];omega) (show ft c.X<=64 by omega);have D:ft (seg s.W (c.off 6)<|ft c.T)<=64:=Nat.le_trans (by unfold seg;rw[bB];omega) (show ft c.T<=64 by omega)
 have H:FP c s=(s.z,0,seg s.W (c.off 5)<|ft c.X,seg s.W (c.off 6)<|ft c.T):=by
  unfold FP;rw[zF (by rw[F];simp)]
 rw[H]at e;unfold Yn
 have y:ft (np [seg s.W (c.off 5)<|ft c.X,seg s.W (c.off 6)<|ft c.T])<=200:=by
  unfold np;simp;omega
 subst e g u j;refine du rfl ?_;refine du d ?_;refine du (Xi (l:=[seg s.W (c.off 5)<|ft c.X,seg s.W (c.off 6)<|ft c.T]) V2 V3) ?_;rw[au V1 V1];simp only[zG];exact du (WN (v:=[s.L,c.ns,s.c0,s.c1,s.c2,s.c3,s.pk,(n:Int)]) (λi o hi E=>bc9 hi E) (λo=>rfl) (by rw[aD];simp only[bD,cL];omega)) rfl
theorem aW7 (g:c.mode=3)(e0:gy c.mode (ft c.X) (ft c.T) c.R c.l c.Q c.k c.len c.words=(c.fixed,c.tp,c.sl,c.ns,0))(e:ft cs<=1000000)(j:jk w=O (c.mode,c.R,c.l,c.Q,c.k,c.len,c.words,cs,0,c.X,c.T,bs))(u:l<=40)(t:c.mode=2->ft bs=l)(H:Way c l 0 Zb (oV c) es f en s)(F:Fin c l f en s es):
  gi w=O (Yn c s<|ft<|pU es):=by
 have w0:=nB h;have o:=H.well h w0;rw[cM]at o;have p:oV c=new1 c:=by unfold oV;rw[zE g]
 have b:=ab0 h g e0 e bs 0 (i:=0) V1 w0 LD;have d:=aN5 h g e0 e u t H F;rw[p]at b d;unfold gi;refine du j ?_;show cond (Zc<|(0:Int)≠0) _ _=_;rw[zA V2,zD];refine du (bu4 h g e0) ?_;simp only[ci,gM];refine du b ?_;refine du d<|Ud h e0 F.q ?_ rfl rfl rfl;have v:=HO h o;show iH _ _ _ _ _ _ _ _ _ _ _ _ _ _ _ _ _ _ _ _ _ _ _ _ _ _ _ _ _ _=_;unfold iH;rw[aW4 h v.1];rfl
theorem aW8 (g:c.mode=1)(v:1<=c.ns)(e0:gy c.mode (ft c.X) (ft c.T) c.R c.l c.Q c.k c.len c.words=(c.fixed,c.tp,c.sl,c.ns,0))(e:ft cs<=1000000)(j:jk w=O (c.mode,c.R,c.l,c.Q,c.k,c.len,c.words,cs,0,c.X,c.T,bs))(u:l<=40)(t:c.mode=2->ft bs=l)(H:Way c l 0 Zb (oV c) es f en s)(F:Fin c l f en s es):
  gi w=O (Yn c s<|ft<|pU es):=by
 have w0:=nB h;have o:=H.well h w0;rw[cM]at o;have p:oV c=new2 c:=by unfold oV;rw[Zh]
 have b:=ab1 h g e0 e bs 0 (i:=0) V1 w0 LD;have d:=aN6 h g v e0 e u t H F;rw[p]at b d;unfold gi;refine du j ?_;show cond (Zc<|(0:Int)≠0) _ _=_;rw[zA V2,zD];refine du (bu5 h g e0) ?_;simp only[ci,gM];refine du b ?_;refine du d<|Ud h e0 F.q ?_ rfl rfl rfl;have x:=HO h o;show cr _ _ _ _ _ _ _ _ _ _ _ _ _ _ _ _ _ _ _ _ _ _ _ _ _ _ _ _ _ _ _ _ _=_;unfold cr;rw[ae8 h x.1];rfl
theorem aW9 (g:c.mode=2)(v:1<=c.ns)(e0:gy c.mode (ft c.X) (ft c.T) c.R c.l c.Q c.k c.len c.words=(c.fixed,c.tp,c.sl,c.ns,0))(e:ft cs<=1000000)(j:jk w=O (c.mode,c.R,c.l,c.Q,c.k,c.len,c.words,cs,0,c.X,c.T,bs))(u:l<=40)(t:c.mode=2->ft bs=l)(H:Way c l 0 Zb (oV c) es f en s)(F:Fin c l f en s es):
  gi w=O (Yn c s<|ft<|pU es):=by
 have w0:=nB h;have o:=H.well h w0;rw[cM]at o;have p:oV c=new2 c:=by unfold oV;rw[Zh]
 have b:=ab2 h g e0 e bs 0 (i:=0) V1 w0 LD;have d:=aN7 h g v e0 e u t H F;rw[p]at b d;unfold gi;refine du j ?_;show cond (Zc<|(0:Int)≠0) _ _=_;rw[zA V2,zD];refine du (bu6 h g e0) ?_;simp only[ci,gM];refine du b ?_;refine du d<|Ud h e0 F.q ?_ rfl rfl rfl;have x:=HO h o;show cr _ _ _ _ _ _ _ _ _ _ _ _ _ _ _ _ _ _ _ _ _ _ _ _ _ _ _ _ _ _ _ _ _=_;unfold cr;rw[ae8 h x.1];rfl
theorem az5 (e:ce c.T)(p:ce c.X)(H:Way c l 0 Zb (oV c) es f en s)(F:Fin c l f en s es):
  s.z=lossV c (iA c l)/\seg s.W (c.off 5) (ft c.X)=(iE c l l).1/\seg s.W (c.off 6) (ft c.T)=(iE c l l).2/\ft (iE c l l).1=ft c.X/\ft (iE c l l).2=ft c.T:=by
 have J:=H.je h e p (nB h)<|bm4 h e p;obtain⟨⟨x,t,J⟩,_⟩:=J;have b:=bo6 h e J F.q (by rw[F.L];omega);unfold FP at b;rw[zF (by rw[F.q];simp),F.L]at b;injection b with g b
 injection b with y b
 injection b with j o
 have⟨d,_⟩:=J.adj (by rw[F.q];simp);unfold au2 at d;rw[F.L,F.q,Int.sub_zero,cK]at d;have⟨_,u,v,_⟩:=J.has.lens h e;rw[<-d];rw[cK,<-d]at j o;rw[cK]at g;exact⟨g,j,o,u,v⟩
end
def bx7 : ∀l:Nat,l<41->∀e:Nat,e<7->IntKind.i64.wrap (zH zI ((l:Int)+zH zI (zH zI (Int.tdiv (l:Int) ((2 ^ e:Nat):Int))*zH zI (Int.tdiv (zH zI<|((2 ^ e:Nat):Int)*zH zI (((2 ^ e:Nat):Int)-1)) 2)))+zH zI (Int.tdiv (zH zI<|Int.tmod (l:Int) ((2 ^ e:Nat):Int)*zH zI (Int.tmod (l:Int) ((2 ^ e:Nat):Int)-1)) 2))=(l:Int)+((sM (2 ^ e) l:Nat):Int):=by decide+kernel
def Wu {s:Nat}(j:l<=40)(b:1<=s/\s<=1048576):xk (l:Int) (s:Int)=O (Ip<|(cz s l).1++Fb l (cz s l).2,0):=by
 have⟨e,g,d⟩:=bp9 j b.1<|lY V1 b.1;unfold xk;refine du (IZ V1 b) ?_;show cond (Zc<|(0:Int)≠0) _ _=_;have o:1<=pX l s:=(lY V1 b.1).pos;rw[zA V2,zD,zB (show(pX l s:Int)≠0 by omega),bp,bp,vt,QY,au3,(Bd b.1 l V1).2,d,bx7 l V1 e g]
def Wt {s:Nat}(j:l<=40)(d:1<=s/\s<=1048576):xi (l:Int) (s:Int)=O (Ip (if l=0 then [(5,0)]else pt (2*l) Zb l s 0 (aB s Zb) Za),0):=by
 have⟨r,e,b⟩:=WA (l:=l) V1 d;have p:=b.le d.1;unfold xi;refine du e ?_;show cond (Zc<|(0:Int)≠0) _ _=_;rw[zA V2,zD];simp only;rw[ad (n:=(s:Int)+r) V1,ad (n:=(s:Int)+1) V1];have q:=ax4 b r<|Nat.le_refl _;have o:r*l<=40*40:=Nat.mul_le_mul V1 j;refine du (EQ (n:=(s:Int)+r) (k:=(s:Int)+1) V1) ?_
 have hc:QD ((s:Int)+r) ((s:Int)+1)=((ch (s+r) (s+1):Nat):Int):=by
  rcases Nat.eq_zero_or_pos r with k|k
  .subst k;rw[Ex V1];unfold QD;rw[Zg];rfl
  have h:=Ew (n:=s+r) (k:=s+1) V1;rw[show((s+r:Nat):Int)=(s:Int)+r by omega,show((s+1:Nat):Int)=(s:Int)+1 by omega]at h;rw[h];unfold lm;omega
 rw[hc,show(r:Int)*(l:Int)=((r*l:Nat):Int)by rw[Int.natCast_mul],ad (n:=((r*l:Nat):Int)) V1,Zi];by_cases g:l=0
 .subst g;have:r=0:=by omega
  subst this;rw[zE rfl,Ex V1];rfl
 rw[zF g,(au5<|2*l).1 l s 0 _ Za r V1 V1 V1 (λ_=>d.1) b.gr];rfl
def Tc (k n:Int)(b:k≠1): ∀m,Ip (aB m (k,n))=0
 |0=>rfl
 |m+1=>by rw[List.replicate_succ,Mb _ _ b,Tc k n b m]
section
variable {c:Cx} (hc:c.Ok) (g4:ft c.l<=1500) (g6:ft c.k<=1500) (e9:gy c.mode (ft c.X) (ft c.T) c.R c.l c.Q c.k c.len c.words=(c.fixed,c.tp,c.sl,c.ns,0))
include hc g4 g6 e9
theorem EP :gX c.mode c.X c.T c.R c.l c.Q c.k c.len c.words=O (c.fixed,c.tp,c.sl,c.ns,0):=by
 have b:gX c.mode c.X c.T c.R c.l c.Q c.k c.len c.words=O (gy c.mode (ft c.X) (ft c.T) c.R c.l c.Q c.k c.len c.words):=Pu hc.hl hc.hk g4 g6;rw[e9]at b;exact b
theorem Pv (cs:Zd)(p:l<=40):uD c.mode c.X c.T c.R c.l c.Q c.k c.len c.words cs (l:Int)=O (B9 c l):=by
 have q:=EP hc g4 g6 e9;have t:=hc.num.mode;have g:=hc.ns;unfold uD B9;refine du q ?_;by_cases d:c.mode=3
 .rw[Ze,zD,Ze,zD,zE d]
  have v:am (oP (l:Int)) cj (0,[])=O (aB l ((8,0):Int×Int)):=by
   refine bz (f:=oP (l:Int)) (n:=l) (λi=>aB i ((8,0):Int×Int)) V1 (λi hi=> ?_) ?_
   .unfold oP;rw[zB ZF,zC,au V3 V1,Zi,cQ];rfl
   unfold oP;rw[zA ZF,zD]
  refine du v ?_;rw[au V3 V1]
  have x:am (oQ (l:Int)) cj (0,aB l ((8,0):Int×Int)++[(5,0)])=O ((aB l ((8,0):Int×Int)++[(5,0)])++aB l ((9,0):Int×Int)):=by
   have e:aB l ((8,0):Int×Int)++[(5,0)]=(aB l ((8,0):Int×Int)++[(5,0)])++aB 0 ((9,0):Int×Int):=by simp
   conv=>lhs;rw[e]
   refine bz (f:=oQ (l:Int)) (n:=l) (λi=>(aB l ((8,0):Int×Int)++[(5,0)])++aB i ((9,0):Int×Int)) V1 (λi hi=> ?_) ?_
   .unfold oQ;rw[zB ZF,zC,au V3 V1,Zi,cQ];simp
   unfold oQ;rw[zA ZF,zD]
  refine du x ?_;simp
 have u:=Pj hc d e9;have⟨ns,b⟩:=cD g.1;have j:fu c.ns=ns:=by rw[b];rfl
 rw[zF d,j];show cond (Zc<|c.mode=1) ((uy (l:Int) c.ns).bind _) (cond (Zc<|c.mode=2) ((uz (l:Int) c.ns).bind _) _)=_;rw[b];by_cases o:c.mode=1
 .rw[zB o,zC,Zh];refine du (YC (l:=l) (s:=ns) V1 V1) rfl
 rw[zA o,zD,Zf,zC,Zg];refine du (YD (l:=l) (s:=ns) V1 V1) rfl
theorem Wy (cs:Zd)(b:l<=40):xp c.mode c.X c.T c.R c.l c.Q c.k c.len c.words cs (l:Int)=O (Ip<|B9 c l):=by
 have p:=hc.num.mode;have g:=hc.ns;unfold xp B9;refine du (EP hc g4 g6 e9) ?_;by_cases e:c.mode=3
 .rw[Ze,zD,Ze];simp only[zG,zD];rw[zE e,vt,Tc _ _ V1,Mb _ _ V1,Tc _ _ V1];rfl
 have q:=Pj hc e e9;have⟨ns,d⟩:=cD g.1;have j:fu c.ns=ns:=by rw[d];rfl
 rw[zF e,j];simp only;rw[d];by_cases o:c.mode=1
 .rw[zB o,zC,zA (show¬c.mode=2 by omega),Zh];refine du (du (Wt (l:=l) (s:=ns) b V1) rfl) rfl
 rw[zA o,zD,zB (show c.mode=2 by omega),Zg];refine du (a:=(0:Int)) rfl ?_;rw[zC];refine du (Wu (l:=l) (s:=ns) b V1) rfl
theorem YG (cs:Zd)(g:l<=40)(j:c.mode≠2->c.len=l)(B:ft (B9 c l)<=6000)(p:c.mode≠3->okL (m0 l<|fu c.ns) (B9 c l)):zV c.mode c.X c.T c.R c.l c.Q c.k c.len c.words cs (l:Int)=O (if c.mode=3 then c.fixed+c.sl*l+c.fk.n else pkL c.fixed c.sl c.fl.n c.fk.n (m0 l<|fu c.ns) c.fixed<|B9 c l):=by
 have n:=hc.num;have C:=n.mode;have q:=hc.ns
 have y:qj c.mode c.X c.T c.R c.l c.Q c.k c.len c.words=O ((c.fl.n:Int),(c.fk.n:Int)):=by
  have h:=Kl (a0:=c.mode) (a1:=c.X) (a2:=c.T) (a3:=c.R) (a5:=c.Q) (a7:=c.len) (a8:=c.words) hc.hl hc.hk g4 g6;rw[zF (λk=>k hc.hc),hc.pl.w,hc.pk.w]at h;exact h
 have F:=YM hc;have e:=hc.fit;have o:=n.mul;have M:=n.words;have A:=n.fixed;have J:=n.R;have I:=n.Q;have N:=n.x;have L:=n.n;have K:=n.m;have H:0<=c.tp:=by rw[n.tp];split<;>omega
 unfold zV;refine du (EP hc g4 g6 e9) ?_;refine du y ?_;by_cases b:c.mode=3
 .have z:=hc.base b;have v:=j V1;rw[zB b,zC,zE b];simp only;rw[z,v]at o e;rw[Int.mul_comm (l:Int) c.sl,ad (n:=c.sl*(l:Int)) V1,ad (n:=c.fixed+c.sl*(l:Int)) V1,Zi]
 rw[zA b,zD,zF b];refine du (Pv hc g4 g6 e9 cs g) ?_;have D:=Pj hc b e9;have⟨ns,d⟩:=cD q.1;have t:fu c.ns=ns:=by rw[d];rfl
 have p:=p b;rw[t]at p⊢;have E:=n.sl;rw[zF b]at E;have u:=Ww (fx:=c.fixed) (sl:=c.sl) (st:=(c.fl.n:Int)) (lo:=(c.fk.n:Int)) (l:=l) (n:=ns) (aa:=B9 c l) V1 V1 V1 p V1 V1 V1 V1;rw[<-d]at u;refine du u ?_;refine du (TY V1 0) ?_;rw[aF4]
end
def WS {m R Q n b:Int}{X T:Zd}{C D:List bx}(o4:OpsOk C)(o6:OpsOk D)(g4:ft C<=1500)(g6:ft D<=1500)(W:jB X)(V:jB T)(q:ft cs<=1000000)
  (u:jk w=O (m,R,C,Q,D,n,b,cs,0,X,T,bs)) (z:qX w=O (m,X,T,R,Q,n,b,cs,(if m≠2 then n else(ft bs:Int)),0,C,D))
  (hp:(gy m (ft X) (ft T) R C Q D n b).2.2.2.2=0) (A:(if m≠2 then n else(ft bs:Int))<=40):
  ∃o:Zd,ft o<=1000/\gi w=O o/\tv w=O o:=by
 have⟨c,hc,e0,e1,e2,e3,e4,e5,e6,e7,e8,e9⟩:=bH5 o4 o6 hp;subst e0 e1 e2 e3 e4 e5 e6 e7 e8;have hmm:=hc.num.mode;have hln:=hc.num.len;have Z:ce c.T:=λx B=>⟨(V x B).1,cN (V x B).2 V5⟩
 have wX:ce c.X:=λx B=>⟨(W x B).1,cN (W x B).2 V5⟩
 obtain⟨l,d,E,p,I⟩: ∃l:Nat,l<=40/\(c.mode=2->ft bs=l)/\(c.mode≠2->c.len=l)/\(if c.mode≠2 then c.len else(ft bs:Int))=l:=by
  by_cases j:c.mode=2
  .rw[zF<|λk=>k j]at A⊢;exact⟨ft bs,V1,λ_=>rfl,λk=>(k j).elim,rfl⟩
  .rw[zE j]at A⊢;exact⟨fu c.len,V1,λk=>(j k).elim,λ_=>by omega,V1⟩
 rw[I]at z;have⟨es,f,en,s,H,F⟩:=aY9 hc e9 (show l<=400 by omega) p;have⟨f1,f2,f3,f4,f5⟩:=az5 hc Z wX H F;have h6:=F.le d;have h7:=JG es;have⟨N,n1,n2,n3,n4,J⟩:=aQ8 hc H F
 have g:gi w=O (Yn c s<|ft<|pU es):=by
  by_cases e:c.mode=3
  .exact aW7 hc e e9 q u d E H F
  have y:=Pj hc e e9;by_cases hk:c.mode=1
  .exact aW8 hc hk y e9 q u d E H F
  .exact aW9 hc V1 y e9 q u d E H F
 have hx1:=hc.num.x;have hx2:=hc.num.t;have hG:=Pt hc Z wX g4 g6 (L:=l) V1;rw[F.ls]at N J h7 g;have K:=YG hc g4 g6 e9 cs d p V1 (λe=>(J e<|λj=>X8 hc j).1)
 have ep:(if c.mode=3 then c.fixed+c.sl*l+c.fk.n else pkL c.fixed c.sl c.fl.n c.fk.n (m0 l<|fu c.ns) c.fixed<|B9 c l)=s.pk:=by
  by_cases e:c.mode=3
  .rw[zE e,n4 e]
  .rw[zF e,(J e<|λj=>X8 hc j).2]
 rw[ep]at K;have M:=Wy hc g4 g6 e9 cs d;rw[<-N]at M;unfold Yn at g;rw[f1,f2,f3,F.L,n1,n2,n3]at g
 have hfl:ft (np [(iE c l l).1,(iE c l l).2])<=200:=by
  unfold np;simp;omega
 refine⟨_, ?_,g, ?_⟩
 .rw[aD,aD];simp only[bD,cL];omega
 unfold tv;refine du z ?_;show cond (Zc<|(0:Int)≠0) _ _=_;rw[zA V2,zD];refine du (a:=(lossV c<|iA c l,(iE c l l).1,(iE c l l).2)) (du hG rfl) ?_;refine du (EP hc g4 g6 e9) ?_;refine du (Wo (l:=[(iE c l l).1,(iE c l l).2]) V2 V3) ?_;generalize np [(iE c l l).1,(iE c l l).2]=fr at*;refine du (ay0 (l:=fr) [0,lossV c<|iA c l] V1 (λi hi=> ?_) ?_) ?_
 .unfold AI;simp only;rw[Zf,zC];refine du (bl hi) ?_;refine du (List.getElem?_eq_getElem hi) ?_;rw[au (by rw[aD,bB];simp;omega) V1,Zi];rfl
 .unfold AI;simp only;rw[Ze,zD]
 refine du M ?_;refine du K ?_;refine du (Pv hc g4 g6 e9 cs d) ?_;refine du (WN (v:=[(l:Int),c.ns,s.c0,(l:Int),1,(l:Int)+1,s.pk,(ft (B9 c l):Int)]) (λi o hi ho=> ?_) (λo=>rfl) (by rw[aD];simp only[bD,cL];omega)) rfl;unfold F0;rw[ad (n:=(l:Int)+1) V1];exact bc9 hi ho
end
section
def an4 {a:Zd}(b:ft a<1000000):uk a a=O Za:=by
 have h:am (sF a a) cj 0=O (.inr ()):=by
  refine nr (n:=ft a) V1 (λi hi=> ?_) ?_
  .unfold sF;rw[ah,Zg,bq hi];simp only[zG,ah];rw[zF (λh=>h rfl),ad (n:=(i:Int)+1) V1];rfl
  unfold sF;rw[ah,Zh]
 unfold uk;rw[ah,zF (λh=>h rfl),h];rfl
def aG2 {b:Hd}(e:Fm w= .inr (b,cs,bs)):(∃r,FL w= .inr (b,r))/\b.pl=0:=by
 unfold Fm at e;split at e
 .cases e
 split at e
 .cases e
 rename_i j r g;split at e
 .cases e
 rename_i o;split at e
 .cases e
 injection e with e
 injection e with d p
 subst d;exact⟨⟨_,g⟩,Classical.byContradiction λk=>o k⟩
def X6 (d:jB w):sZ w=O Za:=by
 have⟨b,C,z⟩:=aY0 d;unfold sZ;refine du C ?_;cases b with
 |false=>exact du aA4 rfl
 |true=>
  have⟨v,u⟩:=z rfl;have g:=WR d v;have j:=Pw d v
  have x: ∃o:Zd,ft o<=1000/\gi w=O o/\tv w=O o:=by
   cases e:Fm w with
   |inl q=>
    rw[e]at g j;have K:=RL e;refine⟨[IntKind.u64.wrap q],V2, ?_, ?_⟩
    .unfold gi;refine du g ?_;show cond (Zc<|q≠0) _ _=_;rw[Zf,zC]
    unfold tv;refine du j ?_;show cond (Zc<|q≠0) _ _=_;rw[Zf,zC]
   |inr p=>
    have⟨A,cs,bs⟩:=p;rw[e]at g j;have⟨t,hc⟩:=u A cs bs e;have⟨⟨r,y⟩,B⟩:=aG2 e;have⟨F,H,g4,g6,J,I⟩:=Vj d v y;exact WS F H g4 g6 J I hc g j B t
  have⟨o,L,D,E⟩:=x;show((gi w).bind _)=_;refine du D ?_;refine du E ?_;refine du (an4 V1) ?_;rw[zC];exact du aA4 rfl
end
end Go.V
