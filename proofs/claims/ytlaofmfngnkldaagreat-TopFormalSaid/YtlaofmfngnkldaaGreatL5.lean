/- A part of the proof. No condition. -/
import Derived.Test.YtlaofmfngnkldaaGreatL4
import Derived.Test.YtlaofmfngnkldaaGreatD3
set_option linter.all false
namespace Go.V
open Go.Ab
open Option renaming some->O,none->Z
open Bool renaming true->Za,false->Zb
open Decidable renaming decide->Zc
open List renaming length_eq_zero_iff->aK
open List renaming mem_cons->aA
open List renaming mem_map->aE
open List renaming mem_range->aH
open List renaming length->b8
open Int renaming toNat->b9
open Option renaming bind->bA
variable {W at' ax l t:Zd}{b d d' i j k s:Nat}{a v x:Int}{s':Dy}
set_option maxRecDepth 100000
section
open Int renaming reduceEq->aB,toNat_natCast->aD
open List renaming getElem_mem->bB
def spF (n c:Nat):Nat:=b9<|spI n c<|Ht n c
def ao1 {n c:Nat}(g:2<=n)(e:1<=c)(f:n<=65536):1<=spF n c/\spF n c+1<=n/\(c=1->spF n c+1=n)/\((spF n c:Nat):Int)=spI n c (Ht n c):=by
 have⟨m,o,p⟩:=aT4 g e (WE n e) f;unfold spF;omega
def hld (t:Zd):List Bool:=t.map λy=>Zc<|0<=y
def pt :Nat->Bool->Nat->Nat->Nat->List Bool->Bool->List (Int×Int)
 |0,_,_,_,_,_,_=>[]
 |f+1,Zb,n,c,_,h,e=>if n=1 then [(if e then 6 else 7,0)]else(2,((h.findIdx λb=> !b:Nat):Int))::pt f Za n c (h.findIdx λb=> !b) (h.set (h.findIdx λb=> !b) Za) e
 |f+1,Za,n,c,k,h,e=>if n<=1 then [(7,0),(4,(k:Int))]else(1,(spF n c:Int))::(pt f Zb (n-spF n c) (c-1) 0 h e++(3,(k:Int))::pt f Za (spF n c) c k h Zb)
theorem ay6 (t:Zd):((hld t).findIdx λb=> !b)=MO t:=by
 unfold hld MO;rw[List.findIdx_map]
 congr 1
 grind
def ay5 (t:Zd)(k:Nat)(e:0<=a):hld (t.set k a)=(hld t).set k Za:=by
 unfold hld;rw[List.map_set,zB e]
theorem RW (e:k<b8 t):(t.set k a).getD k 0=a:=by
 grind
structure At30 (L q a:Int)(n:Nat)(last:Bool):Prop where
 fa:0<=a
 fn:1<=n/\n<=65535
 fe:(if q<0 then L else q)=a+n
 fl:last=Za->q= -1
 fm:last=Zb->0<=q
 fL:a+n<=L
theorem an2 : ∀(f:Nat),(∀(n c k:Nat) (t:Zd) (e:Bool) (L q a:Int),2*n<=f->At30 L q a n e->(∀y∈t,y<a)->(∀y∈t,-1<=y)->Dn t=c->(2<=n->1<=c)->Run Bc ⟨L,a,q,t⟩ (pt f Zb n c k (hld t) e) ⟨L,a,a,t⟩)/\
  (∀(n c k:Nat) (t:Zd) (e:Bool) (L q a:Int),2*n<=f+1->At30 L q a n e->(n=1->e=Zb)->(∀y∈t,y<a)->(∀y∈t,-1<=y)->(r:k<b8 t)->t[k]<0->Dn t=c->Run Bc ⟨L,a,q,t.set k a⟩ (pt f Za n c k (hld<|t.set k a) e) ⟨L,a,a,t⟩)
 |0=>⟨λn c k t e L q a u F=>by have:=F.fn;omega,λn c k t e L q a u F=>by have:=F.fn;omega⟩
 |f+1=>by
  have⟨Y,D⟩:=an2 f;refine⟨λn c k t e L q a hf H g p I J=> ?_,λn c k t e L q a hf H N g p r C I=> ?_⟩
  .obtain⟨z,hn,o,E,B,hL⟩:=H;have w:=aU2 (t:=t) z g;unfold pt;by_cases u:n=1
   .rw[zE u];cases e with
    |true=>
     have hq:=E rfl;rw[Zg]at o;rw[zE rfl];refine .one (m':=⟨L,a,a,t⟩) ?_ ?_
     .unfold Bc
      grind
     .unfold Kg
      grind
    |false=>
     have hq:=B rfl;rw[Zh]at o;rw[zF V5];refine .one (m':=⟨L,a,a,t⟩) ?_ ?_
     .unfold Bc
      grind
     .unfold Kg
      grind
   .rw[zF u,ay6,<-ay5 t _ z];have M:0<Dn t:=by have:=J V1;omega
    have⟨hv,U⟩:=aq1 M;refine .cons (m':=⟨L,a,q,t.set (MO t) a⟩) ?_ ?_ (D n c (MO t) t e L q a V1 ⟨z,hn,o,E,B,hL⟩ (λh=>absurd h u) g p hv U I)
    .unfold Bc;simp only;rw[o,Zh,zF ZV,zF ZV,Zh];by_cases ht:oD t<0
     .rw[zE ht,Zh]
      have:MO t=0:=by
       unfold MO;rw[List.findIdx_eq V1];refine⟨zB ?_,λj hj=>by omega⟩;have:=(uz t<|-1).2.1 _<|bB (show 0<(b8 t) by omega);unfold oD at ht;omega
      rw[this];rfl
     grind
    .unfold Kg;simp only[aB,true_and,if_false,if_true,aD]
     grind
  .obtain⟨z,hn,o,E,B,hL⟩:=H;have w:=aF8 z r g;have hslo:=aF0 r g;have hfre:=ax5 z r C;have hsl:k<b8 (t.set k a):=by rw[List.length_set];exact r
   have A:(t.set k a).set k (-1)=t:=by
    have Q:t[k]= -1:=by have:=p _<|bB r;omega
    rw[List.set_set,<-Q,List.set_getElem_self]
   unfold pt;by_cases u:n<=1
   .have S:n=1:=by omega
    have hq:=B<|N S;rw[Zh]at o;rw[zE u];refine .cons (m':=⟨L,a,a,t.set k a⟩) ?_ ?_ (.one (m':=⟨L,a,a,t⟩) ?_ ?_)
    .unfold Bc
     grind
    .unfold Kg
     grind
    .unfold Bc
     grind
    .unfold Kg;simp only[aB,true_and,if_false,if_true,aD,RW r,A]
     grind
   .rw[zF u];have⟨m1,m2,m3,m4⟩:=ao1 (n:=n) (c:=c) V1 V1 V1;generalize hm':spF n c=m at*;refine .cons (m':=⟨L,a+m,q,t.set k a⟩) ?_ ?_ (.append (m':=⟨L,a+m,a+m,t.set k a⟩) (Y (n-m) (c-1) 0 (t.set k a) e L q (a+m) V1 ⟨V1,V1,V1,E,B,V1⟩ (λy V=>(He V).elim (λh=>by have:=g y h;omega) λh=>by omega) (λy V=>(He V).elim (λh=>p y h) λh=>by omega) V1<|λh=> ?_)<|.cons (m':=⟨L,a,a+m,t.set k a⟩) ?_ ?_ (D m c k t Zb L (a+m) a V1 ⟨z,V1,by rw[Zh],(λh=>by cases h),λ_=>by omega,V1⟩ (λ_=>rfl) g p r C I))
    .unfold Bc;simp only[w];rw[o,Zh,zF ZV,zF ZV,Zh,Zh,Zh,Zh,Zh]
     grind
    .unfold Kg
     grind
    .by_cases K:c=1
     .have:=m3 K;omega
     .omega
    .unfold Bc
     grind
    .unfold Kg;simp only[aB,true_and,if_false,if_true,aD,RW r]
     grind
end
section
open Int renaming toNat_natCast->bB
open List renaming getElem?_eq_getElem->bD,getElem?_eq_none->cB,map_congr_left->cD
open Nat renaming mul_div_cancel->aB,pow_succ->aD,mul_le_mul_left->cV,one_lt_two_pow->cW,pow_le_pow_right->cX
structure IsStr (k s d:Nat):Prop where
 pw: ∃e,d=2 ^ e
 gt:k<s*d
 lo:d=1∨s*(d / 2)<=k
def IsStr.pos (h:IsStr k s d):1<=d:=by
 obtain⟨e,rfl⟩:=h.pw;exact Nat.one_le_two_pow
theorem IsStr.eq (h:IsStr k s d)(g:IsStr k s d'):d=d':=by
 have q: ∀{d d':Nat},IsStr k s d->IsStr k s d'->¬d<d':=λ{d d'} h g m=>by
  obtain⟨e,rfl⟩:=h.pw;obtain⟨f,rfl⟩:=g.pw;have y:e<f:=(Nat.pow_lt_pow_iff_right V1).1 m;have o:2 ^ e<=2 ^ (f-1):=cX V1 V1
  have p:2 ^ f / 2=2 ^ (f-1):=by
   conv=>lhs;rw[show f=(f-1)+1 by omega,aD]
   exact aB _ V1
  have r:=h.gt;have u:s*2 ^ e<=s*2 ^ (f-1):=cV _ o;have w:1<2 ^ f:=cW V1;rcases g.lo with h6|h6
  .omega
  rw[p]at h6;omega
 grind
def vY (k s:Nat):Nat:=2 ^ (((List.range 17).find? λe=>Zc<|k<s*2 ^ e).getD 0)
theorem vj (p:k<65536)(q:1<=s):IsStr k s<|vY k s:=by
 unfold vY;cases h:(List.range 17).find? λe=>Zc (k<s*2 ^ e)with
 |none=>
  have:=List.find?_eq_none.1 h 16 (aH.2 (by omega))
  grind
 |some e=>
  obtain⟨f,g⟩:=List.find?_range_eq_some.1 h;have f:=of_decide_eq_true f;refine⟨⟨e,rfl⟩,f, ?_⟩;rcases Nat.eq_zero_or_pos e with he|he
  .left;subst he;rfl
  right;have m:=g.2 (e-1) (by omega);simp only[Bool.not_eq_true',decide_eq_false_iff_not]at m;show s*(2 ^ e / 2)<=k
  have o:2 ^ e / 2=2 ^ (e-1):=by
   conv=>lhs;rw[show e=(e-1)+1 by omega,aD]
   exact aB _ (by omega)
  rw[o];omega
def IsStr.next (h:IsStr k s d)(g:IsStr (k+1) s d'):d ∣ d':=by
 obtain⟨e,rfl⟩:=h.pw;obtain⟨f,rfl⟩:=g.pw;refine Nat.pow_dvd_pow 2 ?_;rcases Nat.lt_or_ge f e with p|hge
 .exfalso;have m:2 ^ f<=2 ^ (e-1):=cX V1 V1
  have o:2 ^ e / 2=2 ^ (e-1):=by
   conv=>lhs;rw[show e=(e-1)+1 by omega,aD]
   exact aB _ V1
  have r:1<2 ^ e:=cW V1;have q:s*2 ^ f<=s*2 ^ (e-1):=cV _ m;have u:=g.gt;rcases h.lo with h7|h7
  .omega
  rw[o]at h7;omega
 exact hge
def aB1 (d:Nat)(t:Zd):Zd:=t.filter λx=>Zc<|0<=x/\x % (d:Int)≠0
def UG (d:Nat)(t:Zd):Option Int:=(aB1 d t).min?
def qC (e:Bool)(m:Mc):Option<|Int×Int:=
 let d:=vY (b9 m.L) (b8 m.t)
 if m.q<0 then
  (if m.p<m.L then O (1,m.L-m.p)
  else match UG d m.t with
   |some x=>O (4,AD m.t x)
   |none=>if m.L % (d:Int)=0/\m.L∉m.t/\(-1:Int)∈m.t then O (2,AD m.t<|-1)else if e then O (5,0)else Z)
 else if 0<=oD m.t/\m.q<=oD m.t then O (4,AD m.t<|oD m.t)
 else if m.q=0 then Z
 else if m.p=m.q-1 then O (7,0)
 else if 0<=oD m.t/\(m.p<oD m.t∨m.q<=m.p)then O (3,AD m.t<|oD m.t)
 else if m.p<m.q then O (1,m.q-1-m.p)
 else Z
structure Gd (k:Nat)(t:Zd)(d:Nat):Prop where
 ins: ∀x∈t,x= -1∨(0<=x/\x<k/\x % (d:Int)=0)
 all: ∀j:Nat,j<k->j % d=0->(j:Int)∈t
 one: ∀i j (hi:i<b8 t) (hj:j<b8 t),t[i]=t[j]->0<=t[i]->i=j
def Gi (h:x∈t): ∃e:AD t x<b8 t,t[AD t x]=x:=by
 have e:AD t x<b8 t:=List.findIdx_lt_length_of_exists ⟨x,h,zB rfl⟩;exact⟨e,of_decide_eq_true<|List.findIdx_getElem (w:=e)⟩
def frd (d n:Nat)(t:Zd):Zd:=t.map λx=>if 0<=x/\x<(n:Int)/\x % (d:Int)≠0 then-1 else x
def RO (d:Nat):Nat->Zd->List (Int×Int)×Zd
 |0,t=>([],t)
 |n+1,t=>if n % d≠0/\(n:Int)∈(RO d n t).2 then((RO d n t).1++[(4,(AD (RO d n t).2 n:Int))],(RO d n t).2.set (AD (RO d n t).2 n)<|-1)else RO d n t
def aZ9 (t:Zd):frd d 0 t=t:=by
 unfold frd
 conv=>rhs;rw[<-List.map_id t]
 refine cD λx e=> ?_
 rw[Zh];rfl
theorem G3 {n:Nat}(hi:i<b8 t):(frd d n t)[i]?=O (if 0<=t[i]/\t[i]<(n:Int)/\t[i] % (d:Int)≠0 then-1 else t[i]):=by
 unfold frd
 grind
def vg {n:Nat}:b8 (frd d n t)=b8 t:=by unfold frd;rw[List.length_map]
theorem VL {n:Nat}(e:0<=x):x∈frd d n t↔x∈t/\¬(x<(n:Int)/\x % (d:Int)≠0):=by
 unfold frd
 grind
theorem RP {n:Nat}(r: ∀i j (hi:i<b8 t) (u:j<b8 t),t[i]=t[j]->0<=t[i]->i=j)(w:n % d≠0)(p:(n:Int)∈frd d n t):(frd d n t).set (AD (frd d n t) n) (-1)=frd d (n+1) t:=by
 have⟨m,e⟩:=Gi p;generalize AD (frd d n t) n=k at*;have o:k<b8 t:=by rw[vg]at m;exact m
 have g:=G3 (d:=d) (n:=n) o;rw[bD m,e]at g;injection g with g
 have q:t[k]=(n:Int):=by
  omega
 apply List.ext_getElem?;intro i;by_cases hi:i<b8 t
 .rw[G3 hi,List.getElem?_set];by_cases f:k=i
  .subst f
   grind
  rw[zF f,G3 hi]
  grind
 rw[cB (by rw[List.length_set,vg];omega),cB (by rw[vg];omega)]
theorem ac6 {n:Nat}(h: ¬(n % d≠0/\(n:Int)∈frd d n t)):frd d n t=frd d (n+1) t:=by
 unfold frd at*;refine cD λx e=> ?_
 grind
theorem St :x∈aB1 d t↔x∈t/\0<=x/\x % (d:Int)≠0:=by
 unfold aB1
 grind
def Ss (h:x∈t)(e:0<=x/\x % (d:Int)≠0)(f: ∀y∈t,0<=y->y % (d:Int)≠0->x<=y):UG d t=O x:=by
 unfold UG;rw[List.min?_eq_some_iff];exact⟨St.2 ⟨h,e⟩,λy g=>by have:=St.1 g;exact f y this.1 this.2.1 this.2.2⟩
theorem L6 (h: ∀y∈t,0<=y->y % (d:Int)=0):UG d t=Z:=by
 unfold UG
 have:aB1 d t=[]:=List.filter_eq_nil_iff.2 λx e=>by
  grind
 rw[this];rfl
def an1 {k d s:Nat}{t:Zd}{en:Bool}(p:d=vY k s)(q:b8 t=s)(m: ∀i j (hi:i<b8 t) (z:j<b8 t),t[i]=t[j]->0<=t[i]->i=j): ∀n,(RO d n t).2=frd d n t/\Run (qC en) ⟨k,k,-1,t⟩ (RO d n t).1 ⟨k,k,-1,frd d n t⟩
 |0=>by rw[aZ9];exact⟨rfl, .nil _⟩
 |n+1=>by
  have⟨f,g⟩:=an1 (en:=en) p q m n;unfold RO;rw[f];by_cases h:n % d≠0/\(n:Int)∈frd d n t
  .rw[zE h,RP m h.1 h.2];refine⟨rfl,g.append<|.one ?_ ?_⟩
   .unfold qC;simp only;rw[Zg,Zh,vg,q,bB,<-p,Ss h.2 V1 λy u r w=>by have:=(VL r).1 u;omega]
   .obtain⟨o,e⟩:=Gi h.2;unfold Kg;simp only[Int.reduceEq,if_false,if_true,bB];rw[List.getD_eq_getElem?_getD,bD o,e];simp only[Option.getD_some];rw[Zg,RP m h.1 h.2]
  .rw[zF h,<-ac6 h];exact⟨f,g⟩
theorem L5 : ∀(N:Nat) (l:List Nat),l.Nodup->(∀x∈l,x<N)->b8 l<=N
 |0,l,_,h=>by
  cases l with
  |nil=>exact Nat.le_refl _
  |cons x r=>have:=h x<|List.mem_cons_self ..;omega
 |N+1,l,e,h=>by
  by_cases g:N∈l
  .have:=L5 N (l.erase N) (e.erase N) λx f=>by
    grind
   grind
  .have:=L5 N l e λx f=>by
    grind
   omega
end
section
open Go.IntKind renaming wrap->zH,i64->zI,u64->zJ
open Int renaming natCast_add->aB,eq_ofNat_of_zero_le->bD
open IntKind renaming bits->cB
open Nat renaming mul_le_mul->aD,min_eq_right->bB,add_sub_cancel->cD
def wUn {n:Nat}(h:n<18446744073709551616):zH zJ (n:Int)=(n:Int):=gU V1
def bd3 {n:Nat}(h:n<=9223372036854775807):zH zI (n:Int)=(n:Int):=ad V1
def H1 {a:Nat}(m:a<18446744073709551616):ru .u64 (· &&& ·) (a:Int) 4294967295=((a % 4294967296:Nat):Int):=by
 have e:BitVec.ofInt 64 (a:Int)&&& BitVec.ofInt 64 4294967295=BitVec.ofNat 64 (a % 4294967296):=by
  apply BitVec.eq_of_toNat_eq;rw[BitVec.toNat_and,BitVec.toNat_ofInt,BitVec.toNat_ofInt,BitVec.toNat_ofNat];have f:((a:Int) % ((2 ^ 64:Nat):Int)).toNat=a:=by omega
  have g:((4294967295:Int) % ((2 ^ 64:Nat):Int)).toNat=2 ^ 32-1:=by decide
  rw[f,g,Nat.and_two_pow_sub_one_eq_mod];omega
 unfold ru;show zH zJ ((BitVec.ofInt 64 (a:Int)&&& BitVec.ofInt 64 4294967295).toNat:Int)=_;rw[e,BitVec.toNat_ofNat,Zj];omega
def RI (a:Nat):Int.fdiv (a:Int) (2 ^ (min (Int.toNat 32)<|cB .u64))=((a / 4294967296:Nat):Int):=by
 rw[show(2:Int) ^ (min (Int.toNat 32)<|cB .u64)=4294967296 from rfl,Int.fdiv_eq_ediv_of_nonneg _ V1];rfl
def bb0 {a:Nat}(g:a<=1099511627776)(f:b<=4194304):oY (a:Int) (b:Int)=O (0,((a*b:Nat):Int)):=by
 have m:a / 4294967296*b<=256*4194304:=aD V1 f;have o:a % 4294967296*b<=4294967295*4194304:=aD V1 f;have r:a*b<=1099511627776*4194304:=aD g f;have e: ∀{n:Nat},n<18446744073709551616->IntKind.u64.wrap (n:Int)=(n:Int):=λh=>gU V1
 unfold oY;rw[RI a,RI b,H1 (a:=a) V1,H1 (a:=b) V1,show b / 4294967296=0 by omega,show b % 4294967296=b by omega];simp only[<-Int.natCast_mul];rw[e (n:=a % 4294967296*b) V1,e (n:=a / 4294967296*b) V1,e (n:=a / 4294967296*0) V1,e (n:=a % 4294967296*0) V1,e (n:=a*b) V1,RI];simp only[<-aB];generalize a / 4294967296*b=p at*;generalize a % 4294967296*b=q at*;rw[e (n:=p+q / 4294967296) V1,RI,H1 V1];simp only[<-aB,Nat.mul_zero,Nat.add_zero,Nat.zero_add];rw[e (n:=(p+q / 4294967296) % 4294967296) V1,RI,e (n:=(p+q / 4294967296) / 4294967296) V1];simp only[<-aB];rw[e V1,show(p+q / 4294967296) / 4294967296+(p+q / 4294967296) % 4294967296 / 4294967296=0 by omega];rfl
def aZ0 {a:Nat}(e:a<18446744073709551616)(f:1<=b):oX 0 (a:Int) (b:Int)=O (((a / b:Nat):Int),((a % b:Nat):Int)):=by
 unfold oX;have:=Nat.div_le_self a b;rw[Ze,zD,Ze,zD,zB rfl,zC,Zf,dj,dj,show Int.tdiv (a:Int) (b:Int)=((a / b:Nat):Int)from rfl,show Int.tmod (a:Int) (b:Int)=((a % b:Nat):Int)from rfl,wUn<|Nat.lt_of_le_of_lt this e]
def fp {a:Nat}(e:a<=1099511627776)(f:b<=4194304)(hi:1<=i/\i<=4194304):su (a:Int) (b:Int) (i:Int)=O ((min w6 (a*b / i):Nat):Int):=by
 have g:a*b<=1099511627776*4194304:=aD e f;have m:a*b / i<=a*b:=Nat.div_le_self _ _;unfold su w6;rw[gU (n:=(a:Int)) V1,gU (n:=(b:Int)) V1,gU (n:=(i:Int)) V1,bb0 e f,zG,Ze,zD,aZ0 V1 hi.1,zG];generalize a*b / i=q at*;by_cases h:1099511627776<q
 .rw[Zf,zC,Nat.min_eq_left V1];rfl
 rw[Ze,zD,bB V1,Zi]
def aM6 (hi:1<=i)(e:ch (d+(i-1)) (i-1)<w6):min w6 (min w6 (ch (d+(i-1))<|i-1)*(d+i) / i)=min w6 (ch (d+i) i):=by
 rw[bB<|Nat.le_of_lt e,au6 hi]
theorem Uf {n:Nat}(r:2*k<=n)(u:n<=2097152): ∀f:Int×Int->Option ((Int×Int)⊕Int),(∀i c:Nat,1<=i->i<=k->c<w6->c<=w6->f ((i:Int),(c:Int))=O (.inl (((i+1:Nat):Int),((min w6 (c*(n-k+i) / i):Nat):Int))))->(∀i c:Nat,(k<i∨w6<=c)->i<=k+1->c<=w6->f ((i:Int),(c:Int))=O (.inr (c:Int)))->aq f fy (1,1)=O ((min w6 (ch n k):Nat):Int):=by
 intro f m o;refine Wh (λs=> ∃i:Nat,s=((i:Int),((min w6 (ch (n-k+(i-1))<|i-1):Nat):Int))/\1<=i/\i<=k+1) (λs=>k+1-s.1.toNat) ⟨1, ?_,by omega,by omega⟩ (by simp;omega) ?_
 .rw[show 1-1=0 from rfl,PD];rfl
 rintro s ⟨i,rfl,hi1,hik⟩;by_cases hi:i<=k/\ch (n-k+(i-1)) (i-1)<w6
 .left;refine⟨_,m i _ hi1 hi.1 (by omega)<|Nat.min_le_left _ _,⟨i+1, ?_,by omega,by omega⟩,by simp only;omega⟩;rw[aM6 hi1 hi.2];rfl
 right;rw[o i _ (by omega) hik<|Nat.min_le_left _ _]
 congr 2
 have e:n-k+k=n:=by omega
 by_cases g:i=k+1
 .subst g;rw[cD,e]
 have p:w6<=ch (n-k+(i-1)) (i-1):=by omega
 have q:=Y8 (n-k) (show i-1<=k by omega)
 grind
def au5 (n k:Nat)(e:k<=n):ch n (min k<|n-k)=ch n k:=by
 rcases Nat.le_total k (n-k)with h|h
 .rw[Nat.min_eq_left h]
 rw[bB h];exact GS n _ _ V1
theorem Av {n k:Int}(w:n<=2097152):lF n k=O (Xj n k):=by
 unfold lF Xj;by_cases e:n<0
 .rw[zB e,zE<|.inl e];rfl
 by_cases g:k<0
 .rw[zA e,zB g,zE<|.inr<|.inl g];rfl
 by_cases m:n<k
 .rw[zA e,zA g,zB m,zE<|.inr<|.inr m];rfl
 rw[zA e,zA g,zA m,Zh];simp only[zD];obtain⟨n,rfl⟩:=bD (show 0<=n by omega);obtain⟨k,rfl⟩:=bD (show 0<=k by omega)
 have u:min (k:Int) (zH zI<|(n:Int)-(k:Int))=((min k (n-k):Nat):Int):=by
  rw[Zi];omega
 have o:=Uf (n:=n) (k:=min k<|n-k) V1 V1 (nk (n:Int) (k:Int)) (λi c q r p f=>by
  unfold nk;unfold w6 at p f;simp only[u];rw[Zf,zC,zB (show(c:Int)<1099511627776 by omega),zC,ad (n:=(n:Int)-((min k (n-k):Nat):Int)) V1,ad (n:=(n:Int)-((min k (n-k):Nat):Int)+(i:Int)) V1,show(n:Int)-((min k (n-k):Nat):Int)+(i:Int)=((n-min k (n-k)+i:Nat):Int)by omega,fp f V1 V1,zG,Zi]
  rfl) (λi c h hi p=>by
  unfold nk;unfold w6 at h
  grind)
 rw[o,au5 n k V1];rfl
def az6 {r:Nat}(f:1<=s/\s<=1048576)(e:r<=65536):sN (r:Int) (s:Int)=O ((min w6 (ch (s+r) r):Nat):Int):=by
 unfold sN;rw[Ze,zD,Zi,Av V1,show(s:Int)+(r:Int)=((s+r:Nat):Int)by omega,PC V1,GS (s+r) s r rfl];rfl
def Yc {l:Nat}(A:l<65536)(p:1<=s/\s<=1048576): ∃r:Nat,zc (l:Int) (s:Int)=O ((r:Int),0)/\IsRep l s r:=by
 unfold zc Bz;rw[Ze,zD,Ze,zD,Zf,zC,Zf];simp only[zG,Bool.not_true,zD];unfold By
 obtain⟨c,e,r,rfl,w⟩:=iB (f:=wm (l:Int) (s:Int)) (a:=(0,(l:Int))) (λa=> ∃g hi:Nat,a=((g:Int),(hi:Int))/\g<=hi/\hi<=l/\l<=ch (s+hi) hi/\(g=0∨ch (s+(g-1)) (g-1)<l)) (λa=>(a.2-a.1).toNat) (λc=> ∃r:Nat,c=(r:Int)/\IsRep l s r) ⟨0,l,rfl,V1,V1,by have:=J2 p.1 l;omega, .inl rfl⟩ V4 (by
  rintro a ⟨g,hi,rfl,y,z,m,o⟩;unfold wm Ad;simp only;by_cases h:g<hi
  .have q:zH zI (Int.tdiv (zH zI<|(g:Int)+(hi:Int)) 2)=(((g+hi) / 2:Nat):Int):=by
    rw[ad (n:=(g:Int)+(hi:Int)) V1,<-aB,show Int.tdiv ((g+hi:Nat):Int) 2=(((g+hi) / 2:Nat):Int)from rfl,bd3 V1]
   rw[Zf,zC,q,az6 p V1];simp only[zG];by_cases u:l<=ch (s+(g+hi) / 2) ((g+hi) / 2)
   .rw[zB (by unfold w6;omega),zC];exact .inl ⟨_,rfl,⟨g,(g+hi) / 2,rfl,V1,V1,u,o⟩,by simp only;omega⟩
   rw[zA (by unfold w6;omega),zD,Zi];exact .inl ⟨_,rfl,⟨(g+hi) / 2+1,hi,rfl,V1,V1,m, .inr (by rw[cD];omega)⟩,by simp only;omega⟩
  rw[Ze,zD];have:g=hi:=by omega
  subst this
  exact .inr ⟨_,rfl,g,rfl,aS6 m o⟩)
 rw[e];exact⟨r,rfl,w⟩
def XG (a b:Int):rb [1,a,b]=O (max 1<|max a b):=by
 have e:rb [1,a,b]=O (max (max (max 1 1) a) b):=rfl;rw[e]
 congr 1
 omega
def ao2 {n c:Nat}(o:2<=n/\n<65536)(e:1<=c/\c<=1048576):wW (n:Int) (c:Int)=O (spI n c<|Ht n c,0):=by
 obtain⟨r,g,m⟩:=Yc (l:=n) (s:=c) o.2 e;have f:=WE n e.1;have:r=Ht n c:=m.eq f;subst this;have z:=f.le e.1;have y:=aM5 ((c:Int)+(Ht n c:Int)-1)<|(c:Int)-1;have p:zH zI ((c:Int)+(Ht n c:Int))=(c:Int)+(Ht n c:Int):=ad V1;have q:zH zI ((c:Int)+(Ht n c:Int)-2)=(c:Int)+(Ht n c:Int)-2:=ad V1;have u:zH zI ((c:Int)+(Ht n c:Int)-1)=(c:Int)+(Ht n c:Int)-1:=ad V1;have w:zH zI ((c:Int)-1)=(c:Int)-1:=ad V1;unfold wW;rw[Ze,zD,g];simp only[zG];rw[zA V2,zD,p,q,u,w,Av V1,Av V1];simp only[zG];rw[Zi,XG];rfl
end
section
def aF7 (l:Zd)(x:Int):oD (l++[x])=max (oD l) x:=by
 unfold oD;rw[List.foldl_append];rfl
def ap5 (l:Zd): -1<=oD l:=(uz l<|-1).1
def aU3 (l:Zd){y:Int}(h:y∈l):y<=oD l:=(uz l<|-1).2.1 _ h
def Qx (h:0<=oD l):oD l∈l:=by
 rcases(uz l<|-1).2.2 with k|k
 .unfold oD at*;omega
 exact k
theorem aE8 (h:x∉l):AD (l++[x]) x=b8 l:=by
 unfold AD
 grind
theorem aE9 {y:Int}(h:y∈l):AD (l++[x]) y=AD l y:=by
 unfold AD
 grind
theorem ax4 (l:Zd)(x:Int):Dn (l++[x])=Dn l+(if x<0 then 1 else 0):=by
 unfold Dn
 grind
def VM (l:Zd):Dn l<=b8 l:=List.countP_le_length
theorem ba0 (h:Dn l=0): ∀y∈l,0<=y:=λy e=>by
 have:=List.countP_eq_zero.1 h y e
 grind
theorem aG5 (h:Dn l=0)(g:x<0):MO (l++[x])=b8 l:=by
 unfold MO;have f:l.findIdx (λy=>Zc<|y<0)=b8 l:=List.findIdx_eq_length_of_false λy e=>zA (by have:=ba0 h y e;omega)
 grind
def QC (h:0<Dn l):MO (l++[x])=MO l:=by
 unfold MO;have:=(aq1 h).1;unfold MO at this;rw[List.findIdx_append,zE this]
def Tp (t:Zd):Int:=oD t
def Tr (t:Zd):Int:=if oD t<0 then 0 else(AD t (oD t):Int)
def Tq (t:Zd):Int:=(Dn t:Int)
def aq2 (t:Zd):Int:=if Dn t=0 then-1 else(MO t:Int)
def az7 {L p q:Int}(D:b8 t<1000000000):sO L p q t=O (p,q,t,(if q<0 then L else q),Tp t,Tr t,Tq t,aq2 t):=by
 unfold sO
 have A:((cond (Zc<|q<0) (O (p,q,t,p,q,t,L))<|O (p,q,t,p,q,t,q)):Option<|Int×Int×Zd×Int×Int×Zd×Int)=O (p,q,t,p,q,t,(if q<0 then L else q)):=by
  rw[ap];split<;>rfl
 rw[A,zG];generalize (if q<0 then L else q)=e
 have o:=iW (f:=lU (p,q,t,p,q,t,e)) (n:=b8 t) (λi=>(p,q,t,p,q,t,e,Tp<|t.take i,Tr<|t.take i,Tq<|t.take i,aq2<|t.take i)) (c:=(p,q,t,p,q,t,e,Tp t,Tr t,Tq t,aq2 t)) V1
  (λi hi=>by
   have g:b8 (t.take i)=i:=by rw[List.length_take];omega
   have B:=VM<|t.take i;have C:=ap5<|t.take i;simp only[lU];rw[Zf,zC,cz hi,List.take_succ_eq_append_getElem hi,zG];generalize t[i]=x;generalize E:t.take i=u at*;rw[ad (n:=(i:Int)+1) V1];unfold Tp Tr Tq aq2;rw[ad (n:=(Dn u:Int)+1) V1,aF7,ax4];by_cases z:oD u<x
   .rw[zB z,zC,Int.max_eq_right V1,zF (show¬x<0 by omega),zF (show¬x<0 by omega),aE8 (λh=>by have:=aU3 u h;omega),g];simp only[Nat.add_zero]
    have:(if Dn u=0 then(-1:Int)else(MO (u++[x]):Int))=if Dn u=0 then(-1:Int)else(MO u:Int):=by
     split
     .rfl
     rw[QC V1]
    rw[this];rfl
   rw[zA z,zD,Int.max_eq_left V1]
   have y:(if oD u<0 then(0:Int)else(AD (u++[x]) (oD u):Int))=if oD u<0 then(0:Int)else(AD u (oD u):Int):=by
    split
    .rfl
    rw[aE9<|Qx V1]
   rw[y];by_cases m:x<0
   .rw[zB m,zC,zE m,zF (show¬Dn u+1=0 by omega)];by_cases w:Dn u=0
    .rw[zE w,Zf,zC,aG5 w m,g];rfl
    rw[zF w,Ze,zD,QC V1];rfl
   rw[zA m,zD,zF m];simp only[Nat.add_zero]
   have:(if Dn u=0 then(-1:Int)else(MO (u++[x]):Int))=if Dn u=0 then(-1:Int)else(MO u:Int):=by
    split
    .rfl
    rw[QC V1]
   rw[this]
   rfl)
  (by
   simp only[lU]
   rw[zA V2,zD,List.take_length])
 rw[List.take_zero]at o;have r:aq (lU (p,q,t,p,q,t,e)) fy (0,p,q,t,p,q,t,e,-1,0,0,-1)=_:=o;rw[r];rfl
def Ts (h: ¬oD t<0):Tr t=(AD t (oD t):Int):=zF h
def aG6 (h: ¬Dn t=0):aq2 t=(MO t:Int):=zF h
def aY5 :Option (Int×Int)->Int×Int×Bool
 |none=>(0,0,Zb)
 |some a=>(a.1,a.2,Za)
section
variable {c:Cx}
def aJ7 (h:c.Ok)(f:c.mode≠3){s:Dy}(hi:Inv c s):fR c.fixed c.tp c.sl c.ns c.mode c.R c.Q c.len c.words s.L s.p s.q s.c0 s.c1 s.c2 s.c3 s.z c.X c.T c.l c.k c.P c.tk (c.off 8:Int) c.ns (b8 c.X:Int) s.lv s.pk c.words s.W=O (s.p,s.q,mz c s.W):=by
 unfold fR;rw[Qt h f hi.w λk e=>by have:=hi.tag k e;have:=hi.L;omega];rfl
def po (c:Cx)(s:Dy):Mc:=⟨s.L,s.p,s.q,mz c s.W⟩
theorem UH (h:c.Ok)(D:c.mode≠3)(hn:1<=c.ns){s:Dy}(hi:Inv c s)(g:Int)(en H:Bool):mB g en H c.fixed c.tp c.sl c.ns c.mode c.R c.Q c.len c.words s.L s.p s.q s.c0 s.c1 s.c2 s.c3 s.z c.X c.T c.l c.k c.P c.tk (c.off 8:Int) c.ns (c.X.length:Int) s.lv s.pk c.words s.W=O (aY5<|Bc<|po c s):=by
 have K:=h.ns;have I:=hi.L;have M:=hi.p;have F:=hi.q;have C:(mz c s.W).length=c.ns.toNat:=pW;have o:=MD (c:=c) (W:=s.W) hi.tag;have E:=(sd h D (k:=0) V1).2.2;unfold mB hU cj lJ;simp only[zG];rw[aJ7 h D hi];simp only[zG];unfold Ae;rw[F5 I M F V1 o];simp only[zG,di];rw[Zf,Bool.not_true,zD,az7 V1];simp only[zG,mj,cv,dg,uk,nB,nC,nD,nE,nF,nG,nH,nI,jo,qy,py,pz];unfold Bc po Tp Tq;simp only;have hg:=ap5 (mz c s.W)
 have ht:oD (mz c s.W)<=s.L:=by
  rcases(uz (mz c s.W)<|-1).2.2 with k|k
  .unfold oD;omega
  exact(o _ k).2
 have hf:=VM<|mz c s.W;have he:0<=(if s.q<0 then s.L else s.q)/\(if s.q<0 then s.L else s.q)<=s.L:=by split<;>omega
 generalize (if s.q<0 then s.L else s.q)=e at*;have N:=F;have S: ∀x,¬oD (mz c s.W)<s.p->x=oD (mz c s.W)->True:=λ_ _ _=>trivial
 generalize U:mz c s.W=t at*;rw[ad (n:=e-1) V1,ad (n:=e-1-s.p) V1,ad (n:=e-oD t) V1,ad (n:=(Dn t:Int)+1) V1];by_cases r:0<=s.q/\e<=oD t
 .rw[zE r,zB r.1,zC,zB r.2];simp only[zG,zC];rw[Ts V1];rfl
 rw[zF r]
 have V:(cond (Zc<|0<=s.q) (O<|Zc<|e<=oD t) (O Zb):Option Bool)=O Zb:=by
  grind
 rw[V];simp only[zG,zD];by_cases u:s.q=0
 .rw[zE u,zB u,zC];rfl
 rw[zF u,zA u,zD]
 have Y:(cond (!Zc (0<=s.q)) (O<|Zc<|s.p=s.L) (O Zb):Option Bool)=O (Zc<|s.q<0/\s.p=s.L):=by
  grind
 rw[Y];simp only[zG];by_cases w:s.q<0/\s.p=s.L
 .rw[zE w,zB w,zC];rfl
 rw[zF w,zA w,zD];by_cases y:s.p=e-1
 .rw[zE y,zB y,zC];by_cases f:0<=s.q
  .rw[zE f,zB f];rfl
  rw[zF f,zA f];rfl
 rw[zF y,zA y,zD];by_cases f:oD t<0
 .rw[zE f,zB f,zC];by_cases m:e<=s.p
  .rw[zE m,zB m];rfl
  rw[zF m,zA m];rfl
 rw[zF f,zA f,zD]
 have r6:(cond (Zc<|s.p<oD t) (O Za) (O<|Zc<|e<=s.p):Option Bool)=O (Zc<|s.p<oD t∨e<=s.p):=by
  grind
 rw[r6];simp only[zG];by_cases m:s.p<oD t∨e<=s.p
 .rw[zE m,zB m,zC,Ts f];rfl
 rw[zF m,zA m,zD]
 have r7:(cond (Zc<|oD t<s.p) (O<|Zc<|0<(Dn t:Int)) (O Zb):Option Bool)=O (Zc<|oD t<s.p/\0<Dn t):=by
  by_cases k:oD t<s.p
  .rw[zB k,zC]
   simp_all
  grind
 rw[r7];simp only[zG];by_cases A:oD t<s.p/\0<Dn t
 .rw[zE A,zB A,zC,aG6 V1];rfl
 rw[zF A,zA A,zD];by_cases B:oD t<s.p
 .rw[zE B,zB B,zC];rfl
 rw[zF B,zA B,zD];have J:e-oD t=(((e-oD t).toNat:Nat):Int):=by omega
 have:=ao2 (n:=(e-oD t).toNat) (c:=Dn t+1) V1 V1;rw[<-J,show((Dn t+1:Nat):Int)=(Dn t:Int)+1 by omega]at this;rw[this];rfl
end
end
section
open Int renaming lt_irrefl->aD,tmod_eq_emod_of_nonneg->cB
open List renaming getElem_of_mem->aB,getElem_mem->bB
open Nat renaming pow_succ->bD,eq_zero_or_pos->cD
def Bst (P:Int->Prop)(R:Int->Int->Prop)(t:Zd)(i:Nat)(k:Int):Prop:=
 (k= -1/\∀j (h:j<b8 t),j<i->¬P t[j])∨∃j,∃h:j<b8 t,k=(j:Int)/\j<i/\P t[j]/\(∀e (f:e<b8 t),e<i->P t[e]->¬R t[e] t[j])/\∀e (f:e<b8 t),e<j->P t[e]->R t[j] t[e]
theorem Ez {P:Int->Prop}{R:Int->Int->Prop}[DecidablePred P][DecidableRel R]{f:Int×Int->Option ((Int×Int)⊕Int)}{pb:Int->Option Bool}{lb:Int->Int->Option Bool}(L:t.length<1000000000)
  (F: ∀s,f s=cond (Zc<|s.1<(((List.length t):Nat):Int)) ((rd t s.1).bind λx=>(pb x).bind λr=>cond r (cond (Zc<|s.2<0) (O<|.inl (IntKind.i64.wrap<|s.1+1,s.1))<|(rd t s.2).bind λy=>(lb x y).bind λJ=>cond J (O<|.inl (IntKind.i64.wrap<|s.1+1,s.1))<|O<|.inl (IntKind.i64.wrap<|s.1+1,s.2))<|O<|.inl (IntKind.i64.wrap<|s.1+1,s.2)) (O<|.inr s.2))
  (H: ∀x,pb x=O (Zc<|P x)) (I: ∀x y,lb x y=O (Zc<|R x y)) (M: ∀a,¬R a a) (K: ∀a b e,R a b->¬R e b->R a e) (as: ∀a b,R a b->¬R b a): ∃k,aq f fy (0,-1)=O k/\Bst P R t t.length k:=by
 refine iB (λs=> ∃(i:Nat) (k:Int),s=((i:Int),k)/\i<=t.length/\Bst P R t i k) (λs=>t.length-s.1.toNat) _ ⟨0,-1,rfl,by omega, .inl ⟨rfl,λj h z=>by omega⟩⟩ (by simp;omega) ?_;rintro s ⟨i,k,rfl,hi,D⟩;rw[F];simp only;by_cases h:i<t.length
 .left;rw[Zf,zC,cz h];simp only[zG];rw[H,Zi,show(i:Int)+1=((i+1:Nat):Int)by omega];simp only[zG];by_cases A:P t[i]
  .rw[zB A,zC];rcases D with⟨rfl,E⟩|⟨j,z,rfl,C,u,p,g⟩
   .rw[Zf,zC];refine⟨_,rfl,⟨i+1,i,rfl,by omega, .inr ⟨i,h,rfl,by omega,A,λw m o q=> ?_,λw m o q=>absurd q<|E w m o⟩⟩,by simp only;omega⟩
    grind
   .rw[Ze,zD,cz z];simp only[zG];rw[I];simp only[zG];by_cases B:R t[i] t[j]
    .rw[zB B,zC];refine⟨_,rfl,⟨i+1,i,rfl,by omega, .inr ⟨i,h,rfl,by omega,A,λw m o q=> ?_,λw m o q=>K _ _ _ B<|p w m o q⟩⟩,by simp only;omega⟩
     grind
    .rw[zA B,zD];refine⟨_,rfl,⟨i+1,j,rfl,by omega, .inr ⟨j,z,rfl,by omega,u,λw m o q=> ?_,g⟩⟩,by simp only;omega⟩
     grind
  .rw[zA A,zD];refine⟨_,rfl,⟨i+1,k,rfl,by omega, ?_⟩,by simp only;omega⟩;rcases D with⟨rfl,E⟩|⟨j,z,rfl,C,u,p,g⟩
   .refine .inl ⟨rfl,λj m o=> ?_⟩
    grind
   .refine .inr ⟨j,z,rfl,by omega,u,λw m o q=> ?_,g⟩
    grind
 .grind
theorem IM (g:j<b8 t)(h: ∀e (f:e<b8 t),e<j->t[e]≠t[j]):AD t t[j]=j:=by
 unfold AD
 grind
theorem YW (B:1<=d)(z:b8 t<1000000000):uZ t (d:Int)=O (match UG d t with|none=> -1|some x=>(AD t x:Int)):=by
 unfold uZ
 have⟨k,e,h⟩:=Ez (P:=λx=>0<=x/\x % (d:Int)≠0) (R:=λx y=>x<y) (t:=t) (f:=AH t (d:Int)) (pb:=λx=>qf x (d:Int)) (lb:=mn) z (λs=>rfl) (λx=>by
  unfold qf;by_cases h:0<=x
  .rw[zB h,zC,zB (show(d:Int)≠0 by omega),dj,cB h]
   simp_all
  grind) (λx y=>rfl) (λa=>aD a) (λa b e m u=>by omega) (λa b h=>by omega)
 rw[e];rcases h with⟨rfl,C⟩|⟨j,r,rfl,_,w,g,q⟩
 .rw[L6 λy o p=>by
   obtain⟨i,hi,rfl⟩:=aB o
   grind]
  rfl
 rw[Ss (x:=t[j]) (bB r) w λy o p m=>by
  obtain⟨i,hi,rfl⟩:=aB o;have:=g i hi hi ⟨p,m⟩
  omega]
 simp only[zG]
 rw[IM r λD A m u=>by
  grind]
theorem Xc (o:b8 t<1000000000): ∃k,rc t x=O k/\(k<0↔x∉t):=by
 unfold rc;obtain⟨k,e,h⟩:=Ez (P:=λy=>y=x) (R:=λx y=>x<y) (t:=t) (f:=xO t x) (pb:=λy=>ul y x) (lb:=mn) o (λs=>rfl) (λy=>rfl) (λx y=>rfl) (λa=>aD a) (λa b e r u=>by omega) (λa b h=>by omega);rw[e];refine⟨k,rfl, ?_⟩;rcases h with⟨rfl,p⟩|⟨j,z,rfl,_,w,m,g⟩
 .refine⟨λ_ q=> ?_,λ_=>by omega⟩;have⟨i,hi,e⟩:=aB q;exact p i hi hi e
 grind
theorem YY (w:b8 t<1000000000)(g: ∀y∈t,-1<=y): ∃k,re t=O k/\((-1:Int)∈t->k=(AD t (-1):Int))/\((-1:Int)∉t->k= -1):=by
 unfold re;obtain⟨k,e,h⟩:=Ez (P:=λy=>y<0) (R:=λx y=>x<y) (t:=t) (f:=xP t) (pb:=λy=>um y) (lb:=mn) w (λs=>rfl) (λy=>rfl) (λx y=>rfl) (λa=>aD a) (λa b e r u=>by omega) (λa b h=>by omega);rw[e];refine⟨k,rfl, ?_⟩;rcases h with⟨rfl,C⟩|⟨j,m,rfl,_,B,q,p⟩
 .refine⟨λz=> ?_,λ_=>rfl⟩;have⟨i,hi,e⟩:=aB z
  grind
 have o:t[j]= -1:=by have:=g _<|bB m;omega
 refine⟨λ_=> ?_,λh=>absurd (o▸bB m) h⟩
 rw[<-o,IM m λD A r u=>by
  grind]
theorem YX (w:b8 t<1000000000): ∃k,rf t=O k/\(oD t<0->k= -1)/\(0<=oD t->k=(AD t (oD t):Int)):=by
 unfold rf;obtain⟨k,e,h⟩:=Ez (P:=λy=>0<=y) (R:=λx y=>y<x) (t:=t) (f:=xQ t) (pb:=λy=>xR y) (lb:=uo) w (λs=>rfl) (λy=>rfl) (λx y=>rfl) (λa=>aD a) (λa b e r u=>by omega) (λa b h=>by omega);rw[e];refine⟨k,rfl, ?_⟩;rcases h with⟨rfl,C⟩|⟨j,m,rfl,_,B,o,g⟩
 .refine⟨λ_=>rfl,λq=> ?_⟩;have⟨i,hi,e⟩:=aB (Qx q)
  grind
 have p:oD t=t[j]:=IQ V1 (λy z=>by
  obtain⟨i,hi,rfl⟩:=aB z
  grind) (.inr<|bB m)
 refine⟨λh=>by omega,λ_=> ?_⟩
 rw[p,IM m λD A r u=>by
  grind]
theorem Ym (q:k<65536)(f:1<=s/\s<=1048576):oh (k:Int) (s:Int)=O ((vY k s:Int),0):=by
 unfold oh;rw[Ze,zD,Ze,zD,Ze,zD,Ze,zD];have m:=vj q f.1
 have g:aq (rl (k:Int) (s:Int)) fy 1=O (vY k s:Int):=by
  refine Wh (λa=> ∃e:Nat,a=((2 ^ e:Nat):Int)/\(e=0∨s*2 ^ (e-1)<=k)) (λa=>4294967296-a.toNat) ⟨0,rfl, .inl rfl⟩ (by simp) ?_;rintro a ⟨e,rfl,he⟩
  have p:2 ^ e<=131072:=by
   rcases he with rfl|he
   .simp
   have:1*2 ^ (e-1)<=s*2 ^ (e-1):=Nat.mul_le_mul_right _ f.1;rcases cD e with rfl|h
   .simp
   rw[show e=(e-1)+1 by omega,bD];omega
  have u:1<=2 ^ e:=Nat.one_le_two_pow;have r:s*2 ^ e<=1048576*131072:=Nat.mul_le_mul f.2 p;unfold rl;rw[<-Int.natCast_mul,bd3 (by omega)];by_cases h:k<s*2 ^ e
  .right;rw[Zf,zC]
   have:IsStr k s<|2 ^ e:=⟨⟨e,rfl⟩,h,by
    rcases he with rfl|he
    .exact .inl rfl
    rcases cD e with rfl|h
    .exact .inl rfl
    right
    have o:2 ^ e / 2=2 ^ (e-1):=by
     conv=>lhs;rw[show e=(e-1)+1 by omega,bD]
     exact Nat.mul_div_cancel _ (by omega)
    rw[o]
    exact he⟩
   rw[this.eq m]
  left;rw[Ze,zD,Zi];refine⟨_,rfl,⟨e+1, ?_, .inr (by rw[Nat.add_sub_cancel];omega)⟩,by omega⟩;rw[bD];omega
 rw[g];rfl
section
variable {c:Cx}
theorem ai6 (h:c.Ok)(J:c.mode≠3)(hn:1<=c.ns){s:Dy}(hi:Inv c s)(g:Int)(en S:Bool):oe g en S c.fixed c.tp c.sl c.ns c.mode c.R c.Q c.len c.words s.L s.p s.q s.c0 s.c1 s.c2 s.c3 s.z c.X c.T c.l c.k c.P c.tk (c.off 8:Int) c.ns (c.X.length:Int) s.lv s.pk c.words s.W=O (aY5<|qC en<|po c s):=by
 have Y:=h.ns;have H:=hi.L;have hp:=hi.p;have hq:=hi.q;have I:(mz c s.W).length=c.ns.toNat:=pW;have m:=MD (c:=c) (W:=s.W) hi.tag;have K:=(sd h J (k:=0) V1).2.2;unfold oe hU cj lJ;simp only[zG];rw[aJ7 h J hi];simp only[zG];unfold Ah;rw[F5 H hp hq V1 m];simp only[zG,di];rw[Ze,zD];unfold qC po;simp only;generalize htg:mz c s.W=t at*
 have V:oh s.L ((t.length:Nat):Int)=O ((vY s.L.toNat t.length:Int),0):=by
  have:=Ym (k:=s.L.toNat) (s:=t.length) V1 V1
  grind
 have D:1<=vY s.L.toNat t.length:=(vj V1 V1).pos;generalize vY s.L.toNat t.length=d at*;by_cases w:s.q<0
 .rw[zE w,zB w,zC];unfold xN;rw[V];simp only[zG,cv,dg];by_cases f:s.p<s.L
  .rw[zE f,zB f,zC,Zi];rfl
  rw[zF f,zA f,zD,YW D V1];cases ho:UG d t with
  |some x=>
   rfl
  |none=>
   simp only[zG];rw[Ze,zD];obtain⟨k2,M,C⟩:=Xc (t:=t) (x:=s.L) V1;obtain⟨k3,N,r,U⟩:=YY (t:=t) V1 λy hy=>(m y hy).1
   rw[M,N];simp only[zG]
   have E:gd (Zc<|(d:Int)≠0) (cond (Zc<|Int.tmod s.L (d:Int)=0) (cond (Zc<|k2<0) (O<|Zc<|0<=k3)<|O Zb)<|O Zb)=O (Zc<|s.L % (d:Int)=0/\s.L∉t/\(-1:Int)∈t):=by
    rw[zB (show(d:Int)≠0 by omega),dj,cB H.1];by_cases a1:s.L % (d:Int)=0
    .rw[zB a1,zC];by_cases a2:s.L∉t
     .rw[zB<|C.2 a2,zC]
      congr 1
      grind
     grind
    grind
   rw[E];simp only[zG];by_cases a:s.L % (d:Int)=0/\s.L∉t/\(-1:Int)∈t
   .rw[zE a,zB a,zC,r a.2.2];rfl
   rw[zF a,zA a,zD];cases en<;>rfl
 rw[zF w,zA w,zD];unfold Ai;obtain⟨k,e,hk0,o⟩:=YX (t:=t) V1;rw[e];simp only[zG,cv,dg]
 have hrd:0<=oD t->0<=k/\rd t k=O (oD t):=λF=>by
  obtain⟨hs,e⟩:=Gi<|Qx F;rw[o F,cz hs,e];exact⟨V1,rfl⟩
 have E:(cond (Zc<|0<=k) ((rd t k).bind λx4=>O<|Zc<|s.q<=x4) (O Zb):Option Bool)=O (Zc<|0<=oD t/\s.q<=oD t):=by
  grind
 rw[E];simp only[zG];by_cases f:0<=oD t/\s.q<=oD t
 .rw[zE f,zB f,zC,o f.1];rfl
 rw[zF f,zA f,zD];by_cases r:s.q=0
 .rw[zE r,zB r];rfl
 rw[zF r,zA r,zD,ad (n:=s.q-1) V1];by_cases A:s.p=s.q-1
 .rw[zE A,zB A];rfl
 rw[zF A,zA A,zD]
 have r2:(cond (Zc<|0<=k) ((rd t k).bind λx9=>cond (Zc<|s.p<x9) (O Za)<|O<|Zc<|s.q<=s.p) (O Zb):Option Bool)=O (Zc<|0<=oD t/\(s.p<oD t∨s.q<=s.p)):=by
  grind
 rw[r2];simp only[zG];by_cases u:0<=oD t/\(s.p<oD t∨s.q<=s.p)
 .rw[zE u,zB u,zC,o u.1];rfl
 rw[zF u,zA u,zD];by_cases B:s.p<s.q
 .rw[zE B,zB B,zC,Zi];rfl
 rw[zF B,zA B];rfl
end
end
section
open Int renaming toNat_natCast->bD
open List renaming getElem_mem->aB,length_set->bB,getElem_set->cB,length_map->cD,length_replicate->cV,replicate->cW,getElem?_eq_getElem->cY,getElem?_eq_none->cZ,getElem_map->dA,getElem_of_mem->dB,map_congr_left->dC
open Nat renaming div_add_mod->aD,one_dvd->cX,div_lt_iff_lt_mul->dD,dvd_of_mod_eq_zero->dE
theorem WL (h:x∈t):AD t x<b8 t/\t[AD t x]?=O x:=by
 have⟨f,e⟩:=Gi h
 grind
def ui (k:Nat)(t:Zd):List (Int×Int)×Zd:=
 if k % vY k (b8 t)=0 then((RO (vY k<|b8 t) k t).1++[(2,(AD (RO (vY k<|b8 t) k t).2 (-1):Int))],(RO (vY k<|b8 t) k t).2.set (AD (RO (vY k<|b8 t) k t).2<|-1) k)
 else RO (vY k<|b8 t) k t
def aw0 (h:d' ∣ d)(e:j % d=0):j % d'=0:=
 Nat.mod_eq_zero_of_dvd (Nat.dvd_trans h<|dE e)
theorem Gd.frd (G:Gd k t d')(A:d' ∣ d):Gd k (frd d k t) d:=by
 refine⟨λx u=> ?_,λj g q=> ?_,λi j hi g e z=> ?_⟩
 .unfold Go.V.frd at u;obtain⟨y,B,rfl⟩:=aE.1 u;have:=G.ins y B
  grind
 .exact(VL V1).2 ⟨G.all j g<|aw0 A q,V1⟩
 have f:i<b8 t:=by rw[vg]at hi;exact hi
 have m:j<b8 t:=by rw[vg]at g;exact g
 have o:=G3 (d:=d) (n:=k) f;have p:=G3 (d:=d) (n:=k) m;rw[cY hi]at o;rw[cY g]at p;injection o with o
 injection p with p
 have r:(Go.V.frd d k t)[i]=t[i]:=by
  omega
 have w:(Go.V.frd d k t)[j]=t[j]:=by
  omega
 exact G.one i j f m (by rw[<-r,<-w,e]) (by rw[<-r];exact z)
theorem Gd.free (G:Gd k t d)(D:1<=d)(z:k % d=0)(A:k<b8 t*d):(-1:Int)∈t:=by
 by_cases h:(-1:Int)∈t
 .exact h
 exfalso
 have f: ∀i (hi:i<b8 t),0<=t[i]/\t[i]<k/\t[i] % (d:Int)=0:=λi hi=>by
  rcases G.ins _ (aB hi)with h1|h1
  .exact absurd (h1▸aB hi) h
  exact h1
 have m:=L5 (k / d) (t.map λx=>b9 x / d) (by
  refine List.pairwise_iff_getElem.2 λi j hi g w e=> ?_
  rw[cD]at hi g;rw[dA,dA]at e;have a:=f i hi;have b:=f j g
  have q:(b9 t[i]) % d=0:=by
   grind
  have r:(b9 t[j]) % d=0:=by
   grind
  have h1:=aD (b9 t[i]) d;have p:=aD (b9 t[j]) d;rw[q]at h1;rw[r,<-e]at p;have:=G.one i j hi g V1 a.1
  omega) (λy C=>by
  obtain⟨x,B,rfl⟩:=aE.1 C;obtain⟨i,hi,rfl⟩:=dB B;have a:=f i hi;have⟨u,o⟩:=dE z;rw[dD V1,o,Nat.mul_div_cancel_left _ V1,Nat.mul_comm,<-o]
  omega)
 rw[cD]at m;have:=(dD (x:=k) (y:=b8 t) (k:=d) V1).2 A;omega
theorem Gd.store (G:Gd k t d)(C:k % d=0)(w:(-1:Int)∈t):Gd (k+1) (t.set (AD t<|-1) k) d:=by
 have⟨z,B⟩:=Gi w;generalize AD t (-1)=u at*;refine⟨λx A=> ?_,λj m q=> ?_,λi j hi m e o=> ?_⟩
 .rcases He A with h|h
  .rcases G.ins x h with h1|h1
   .exact .inl h1
   exact .inr ⟨h1.1,V1,h1.2.2⟩
  grind
 .by_cases r:j=k
  .subst r;exact List.mem_set z _
  have⟨i,hi,e⟩:=dB<|G.all j V1 q;have y:u≠i:=λh=>by subst h;omega
  have p:i<b8 (t.set u (k:Int)):=by rw[bB];exact hi
  have:=aB p
  grind
 rw[bB]at hi m;rw[cB,cB]at e;rw[cB]at o;by_cases g:u=i
 .by_cases f:u=j
  .omega
  rw[zE g,zF f]at e;rcases G.ins _ (aB m)with h1|h1<;>omega
 rw[zF g]at e o;by_cases f:u=j
 .rw[zE f]at e;rcases G.ins _ (aB hi)with h1|h1<;>omega
 rw[zF f]at e;exact G.one i j hi m e o
theorem A1 {en:Bool}(E:k<65536)(f:b8 t=s)(h1:1<=s)(G:Gd k t d')(D:d' ∣ vY k s):
  Run (qC en) ⟨k,k,-1,t⟩ (ui k t).1 ⟨k,k,-1,(ui k t).2⟩/\Gd (k+1) (ui k t).2 (vY k s)/\b8 (ui k t).2=s/\qC en ⟨k,k,-1,(ui k t).2⟩=(if en then O (5,0)else Z)/\(k % vY k s=0->(-1:Int)∈frd (vY k s) k t):=by
 have A:=vj E h1;have o:=A.pos;have⟨z,B⟩:=an1 (k:=k) (d:=vY k s) (s:=s) (t:=t) (en:=en) rfl f G.one k;have G1:=G.frd D;unfold ui;rw[f,z];generalize g:vY k s=d at*
 have r: ∀q:Zd,b8 q=s->Gd (k+1) q d->qC en ⟨k,k,-1,q⟩=(if en then O (5,0)else Z):=λq F G2=>by
  unfold qC;simp only;rw[Zg,Zh,F,bD,g,L6 λy w C=>by rcases G2.ins y w with h|h;omega;exact h.2.2];simp only;rw[zF];rintro⟨a,b,_⟩;exact b (G2.all k V1 V1)
 by_cases h:k % d=0
 .have p:=G1.free o h (by rw[vg,f];exact A.gt);have G2:=G1.store h p;have⟨I,K⟩:=Gi p;rw[zE h];have e:b8 ((frd d k t).set (AD (frd d k t)<|-1) (k:Int))=s:=by rw[bB,vg,f]
  refine⟨B.append<|.one ?_ ?_,G2,e,r _ e G2,λ_=>p⟩
  .unfold qC;simp only;rw[Zg,Zh,vg,f,bD,g,L6 λy w C=>by rcases G1.ins y w with h|h;omega;exact h.2.2];simp only;rw[zE ⟨V1,λH=>by rcases G1.ins _ H with h|h<;>omega,p⟩]
  .unfold Kg
   grind
 .rw[zF h]
  have G2:Gd (k+1) (frd d k t) d:=⟨λx J=>by
   rcases G1.ins x J with h1|h1
   .exact .inl h1
   .exact .inr ⟨h1.1,V1,h1.2.2⟩,λj L m=>by
   by_cases u:j=k
   .subst u;exact absurd m h
   .exact G1.all j V1 m,G1.one⟩
  have e:b8 (RO d k t).2=s:=by rw[z,vg,f]
  grind
def fT (s:Nat):Nat->List (Int×Int)×Zd
 |0=>ui 0 (cW s<|-1)
 |k+1=>((fT s k).1++[(1,1)]++(ui (k+1) (fT s k).2).1,(ui (k+1) (fT s k).2).2)
def Gd.none (s d:Nat):Gd 0 (cW s<|-1) d:=
 ⟨λx m=> .inl<|List.eq_of_mem_replicate m,λj g=>by omega,λi j hi g e f=>by rw[List.getElem_replicate]at f;omega⟩
def GL {s:Nat}(e:1<=s): ∀k,k<65536->Gd (k+1) (fT s k).2 (vY k s)/\b8 (fT s k).2=s
 |0,h=>by
  have⟨_,b,c,_⟩:=A1 (en:=Zb) h cV e (Gd.none s 1)<|cX _;exact⟨b,c⟩
 |k+1,h=>by
  have⟨a1,a2⟩:=GL e k V1;have⟨_,b,c,_⟩:=A1 (en:=Zb) h a2 e a1<|(vj V1 e).next<|vj h e;exact⟨b,c⟩
def Vp (e:1<=s):Run (qC Zb) ⟨0,0,-1,cW s<|-1⟩ (fT s 0).1 ⟨0,0,-1,(fT s 0).2⟩/\qC Zb ⟨0,0,-1,(fT s 0).2⟩=Z:=by
 have⟨a,b,c,d,_⟩:=A1 (en:=Zb) (k:=0) V1 cV e (Gd.none s 1)<|cX _;exact⟨a,d⟩
theorem Vq (e:1<=s)(f:k+1<65536):Run (qC Zb) ⟨(k:Int)+1,k,-1,(fT s k).2⟩ ([(1,1)]++(ui (k+1) (fT s k).2).1) ⟨(k:Int)+1,(k:Int)+1,-1,(fT s<|k+1).2⟩/\qC Zb ⟨(k:Int)+1,(k:Int)+1,-1,(fT s<|k+1).2⟩=Z:=by
 have⟨a1,a2⟩:=GL e k V1;have⟨a,b,c,d,_⟩:=A1 (en:=Zb) f a2 e a1<|(vj V1 e).next<|vj f e;refine⟨Run.cons (m':=⟨((k+1:Nat):Int),((k+1:Nat):Int),-1,(fT s k).2⟩) ?_ ?_ a,d⟩
 .unfold qC
  grind
 unfold Kg
 grind
def YL (e:1<=s)(f:k<65536):qC Za ⟨k,k,-1,(fT s k).2⟩=O (5,0):=by
 cases k with
 |zero=>
  have⟨a,b,c,d,_⟩:=A1 (en:=Za) (k:=0) V1 cV e (Gd.none s 1)<|cX _;exact d
 |succ k=>
  have⟨a1,a2⟩:=GL e k V1;have⟨a,b,c,d,_⟩:=A1 (en:=Za) f a2 e a1<|(vj V1 e).next<|vj f e;exact d
def cut (n:Nat)(t:Zd):Zd:=t.map λx=>if x<(n:Int)then x else-1
def frB (d:Nat)(t:Zd)(i:Nat):List<|Int×Int:=if i % d=0 then [(4,(AD t i:Int))]else []
def bkF (d:Nat)(t:Zd):Nat->List (Int×Int)
 |0=>[]
 |i+1=>(3,(AD t ((i-i % d:Nat):Int):Int))::((if i % d≠0 then [(1,((i % d:Nat):Int))]else [])++(7,0)::(frB d t i++bkF d t i))
def PI {n:Nat}:b8 (cut n t)=b8 t:=by unfold cut;rw[cD]
theorem Vy {n:Nat}(hi:i<b8 t):(cut n t)[i]?=O (if t[i]<(n:Int)then t[i]else-1):=by
 unfold cut
 grind
theorem GU {n:Nat}(e:0<=x):x∈cut n t↔x∈t/\x<(n:Int):=by
 unfold cut
 grind
theorem Vz {n:Nat}(e:0<=x/\x<(n:Int)):AD (cut n t) x=AD t x:=by
 unfold AD cut;rw[List.findIdx_map]
 congr 1
 grind
theorem aa7 (one: ∀i j (hi:i<b8 t) (g:j<b8 t),t[i]=t[j]->0<=t[i]->i=j)(m:(i:Int)∈t):(cut (i+1) t).set (AD t i) (-1)=cut i t:=by
 have⟨o,e⟩:=Gi m;generalize AD t i=u at*;apply List.ext_getElem?;intro j;by_cases g:j<b8 t
 .rw[Vy g,List.getElem?_set];by_cases f:u=j
  .subst f;rw[zE rfl,zE (by rw[PI];exact o),Zh]
  rw[zF f,Vy g]
  grind
 rw[cZ (by rw[bB,PI];omega),cZ (by rw[PI];omega)]
theorem aa6 (e:(i:Int)∉t):cut (i+1) t=cut i t:=by
 unfold cut;refine dC λx f=> ?_
 grind
theorem VJ {l:Nat}{en:Bool}(G:Gd (l+1) t d)(hi:i<=l)(r:1<=d):Run (qC en) ⟨l,i,i,cut (i+1) t⟩ (frB d t i) ⟨l,i,i,cut i t⟩:=by
 unfold frB;by_cases h:i % d=0
 .have f:=G.all i V1 h;have e:(i:Int)∈cut (i+1) t:=(GU V1).2 ⟨f,V1⟩
  have u:oD (cut (i+1) t)=(i:Int):=IQ V1 (λy q=>by
   by_cases o:0<=y
   .have:=((GU o).1 q).2;omega
   omega) (.inr e)
  have g:=Vz (n:=i+1) (t:=t) (x:=i) V1;have⟨p,m⟩:=WL e;rw[g]at p m;rw[zE h];refine .one ?_ ?_
  .unfold qC
   grind
  unfold Kg;simp only[Int.reduceEq,if_false,if_true,bD];rw[List.getD_eq_getElem?_getD,m];simp only[Option.getD_some];rw[Zg,aa7 G.one f]
 rw[zF h,aa6 λf=>by rcases G.ins _ f with h1|h1<;>omega];exact .nil _
theorem YZ {l d:Nat}{t:Zd}{en:Bool}(E:l<65536)(G:Gd (l+1) t d)(p:1<=d): ∀i,i<=l->Run (qC en) ⟨l,i,i,cut i t⟩ (bkF d t i) ⟨l,0,0,cut 0 t⟩
 |0,_=> .nil _
 |i+1,hi=>by
  have q:=Nat.mod_lt i (show d > 0 by omega);have F:=Nat.mod_le i d
  have m:(i-i % d) % d=0:=by
   have:=aD i d;rw[show i-i % d=d*(i / d)by omega];exact Nat.mul_mod_right _ _
  generalize u:i % d=r at*;have H:=G.all (i-r) V1 m;have e:((i-r:Nat):Int)∈cut (i+1) t:=(GU V1).2 ⟨H,V1⟩
  have M:oD (cut (i+1) t)=((i-r:Nat):Int):=IQ V1 (λy J=>by
   by_cases g:0<=y
   .obtain⟨z,K⟩:=(GU g).1 J;rcases G.ins y z with h3|h3
    .omega
    .obtain⟨y,rfl⟩:=Int.eq_ofNat_of_zero_le g;have A:y % d=0:=by have:=h3.2.2;omega
     have B:=aD i d;have C:=aD y d;rw[A]at C;rw[u]at B;have D:y / d<=i / d:=Nat.div_le_div_right V1;have L:d*(y / d)<=d*(i / d):=Nat.mul_le_mul_left _ D;omega
   .omega) (.inr e)
  have o:=Vz (n:=i+1) (t:=t) (x:=((i-r:Nat):Int)) V1;have⟨I,w⟩:=WL e;rw[o]at I w;unfold bkF;rw[u]
  have f:Run (qC en) ⟨l,i,((i+1:Nat):Int),cut (i+1) t⟩ ((7,0)::(frB d t i++bkF d t i)) ⟨l,0,0,cut 0 t⟩:=by
   refine .cons (m':=⟨l,i,i,cut (i+1) t⟩) ?_ ?_ ((VJ G V1 p).append<|YZ E G p i V1)
   .unfold qC
    grind
   .unfold Kg
    grind
  refine .cons (m':=⟨l,((i-r:Nat):Int),((i+1:Nat):Int),cut (i+1) t⟩) ?_ ?_ ?_
  .unfold qC
   grind
  .unfold Kg
   grind
  .by_cases g:r≠0
   .rw[zE g];refine .cons (m':=⟨l,i,((i+1:Nat):Int),cut (i+1) t⟩) ?_ ?_ f
    .unfold qC
     grind
    .unfold Kg
     grind
   grind
def NE (l:Nat)(t:Zd):List<|Int×Int:=(5,0)::(frB (vY l<|b8 t) t l++bkF (vY l<|b8 t) t l)
theorem YU {l:Nat}(f:l<65536)(g:1<=s):Run (qC Za) ⟨l,l,-1,(fT s l).2⟩ (NE l (fT s l).2) ⟨l,0,0,cut 0 (fT s l).2⟩/\qC Za ⟨l,0,0,cut 0 (fT s l).2⟩=Z:=by
 have⟨G,e⟩:=GL g l f;have m:=(vj f g).pos;unfold NE;rw[e];have q:=YL (s:=s) (k:=l) g f;generalize (fT s l).2=t at*
 have p:cut (l+1) t=t:=by
  unfold cut
  conv=>rhs;rw[<-List.map_id t]
  refine dC λx r=> ?_
  rcases G.ins x r with h|h
  .rw[Zg];rfl
  rw[Zg];rfl
 refine⟨.cons (m':=⟨l,l,l,t⟩) q ?_ (Run.append (m':=⟨l,l,l,cut l t⟩) ?_ (YZ f G m l<|Nat.le_refl _)), ?_⟩
 .unfold Kg
  grind
 .have:=VJ (en:=Za) (i:=l) G (Nat.le_refl _) m;rw[p]at this;exact this
 have w:oD (cut 0 t)= -1:=IQ V1 (λy u=>by
  by_cases o:0<=y
  .have:=((GU o).1 u).2;omega
  omega) (.inl rfl)
 unfold qC
 grind
end
section
open List renaming length_cons->aB,length_append->aD
theorem aj8 : ∀f,(∀n c k (h:List Bool) e,1<=n->n<=65536->(2<=n->1<=c)->b8 (pt f Zb n c k h e)+2<=5*n)/\∀n c k (h:List Bool) e,1<=n->n<=65536->1<=c->b8 (pt f Za n c k h e)+3<=5*n
 |0=>⟨λn c k h e g _ _=>by show 0+2<=_;omega,λn c k h e g _ _=>by show 0+3<=_;omega⟩
 |f+1=>by
  have⟨m,r⟩:=aj8 f;refine⟨λn c k h e g o p=> ?_,λn c k h e g o p=> ?_⟩
  .unfold pt
   grind
  .unfold pt;by_cases q:n<=1
   .rw[zE q];simp;omega
   .rw[zF q,aB,aD,aB];have⟨u,w,y,_⟩:=ao1 (n:=n) (c:=c) V1 p o
    have a:=m (n-spF n c) (c-1) 0 h e V1 V1 (λh=>by
     omega)
    grind
theorem VK (d:Nat)(t:Zd): ∀n,b8 (RO d n t).1<=n
 |0=>Nat.le_refl _
 |n+1=>by
  have:=VK d t n;unfold RO
  grind
theorem N4 (k:Nat)(t:Zd):b8 (ui k t).1<=k+1:=by
 have:=VK (vY k<|b8 t) t k;unfold ui
 grind
theorem KT (s:Nat): ∀k,b8 (fT s k).1<=(k+1)*(k+2)
 |0=>by have:=N4 0<|List.replicate s<|-1;show(b8 (ui 0 _).1)<=_;omega
 |k+1=>by
  have e:=KT s k;have f:=N4 (k+1) (fT s k).2;show(b8<|(fT s k).1++[(1,1)]++(ui (k+1) (fT s k).2).1)<=_
  grind
def Vt (d:Nat)(t:Zd): ∀i,b8 (bkF d t i)<=4*i
 |0=>Nat.le_refl _
 |i+1=>by
  have:=Vt d t i;unfold bkF frB;rw[aB,aD,aB,aD]
  repeat' split
  all_goals simp;omega
end
section
open List renaming getElem?_eq_none->aB,length_cons->aD
theorem S5 {n:Int}(h:1<=n/\n<=65535):lD 1 n=Za:=by
 unfold lD
 grind
theorem Bk {n:Int}(e:2<=a/\a<=4)(h:0<=n/\n<1048576):lD a n=Za:=by
 unfold lD
 grind
theorem Bj {n:Int}(e:5<=a/\a<=9)(h:n=0):lD a n=Za:=by
 unfold lD
 grind
section
variable {c:Cx}
def Bp {W':Zd}(e:fH c W W'):mz c W'=mz c W:=by
 unfold mz;refine List.map_congr_left λk _=> ?_
 rw[e.tag]
def Tk {w:Zd}(o:k<b9 c.ns)(e:sp c k+b8 w<=b8 W)(m:b8 w=b8 c.X+1):mz c (put W (sp c k) w)=(mz c W).set k (w.getD 0 0-1):=by
 apply List.ext_getElem?;intro j;by_cases g:j<b9 c.ns
 .rw[Em g,List.getElem?_set];by_cases f:k=j
  .subst f;rw[zE rfl,zE (by rw[pW];exact o),xp e m]
  rw[zF f,Em g,Ko e m<|λh=>f h.symm]
 rw[aB (by rw[pW];omega),aB (by rw[List.length_set,pW];omega)]
def xC (e:k<b9 c.ns):(mz c W).getD k 0=jg c W k-1:=by
 rw[List.getD_eq_getElem?_getD,Em e];rfl
theorem J4 (h:c.Ok)(r:c.mode≠3){s:Dy}(hi:Inv c s){a:Int×Int}{m':Mc}(e:Kg a (po c s)=O m'):(CU c a.1 a.2 s).1=0/\po c (CU c a.1 a.2 s).2=m':=by
 obtain⟨a,n⟩:=a;have m:=hi.w;have Q:=hi.L;have S:=hi.p;have U:=hi.q;have M:=h.ns;have E:b8 (seg s.W (c.off 1)<|b8 c.X)=b8 c.X:=fj<|m.in' h (i:=1) V1;unfold Kg po at e;simp only[pW]at e;show(CU c a n s).1=0/\po c (CU c a n s).2=m';by_cases u:a=1
 .subst u;rw[zE rfl]at e;by_cases f:1<=n/\n<=65535/\s.p+n<=s.L
  .rw[zE f]at e;injection e with e
   unfold CU;rw[zF (by rw[S5 V1];simp),Zh,zE rfl,Zh];refine⟨rfl, ?_⟩;rw[<-e];unfold po;simp only[Bp<|Ka h m s.p<|b9 n]
  rw[zF f]at e;cases e
 rw[zF u]at e;by_cases y:a=2
 .subst y;rw[zE rfl]at e;by_cases f:0<=n/\n<(b9 c.ns:Int)/\(mz c s.W).getD (b9 n) 0<0
  .rw[zE f]at e;injection e with e
   have g:b9 n<b9 c.ns:=by omega
   have⟨F,H,I⟩:=sd h r g;have⟨J,K⟩:=m.tk h;have o:=xC (c:=c) (W:=s.W) g;unfold CU;rw[zF V9,Zh,Zh,zE rfl,Zh];refine⟨rfl, ?_⟩;rw[<-e];unfold po;simp only;rw[Tk g Z9 (by rw[aD,E])]
   have V:(IntKind.u64.wrap (IntKind.i64.wrap<|s.p+1)::seg s.W (c.off 1) (b8 c.X)).getD 0 0=s.p+1:=by
    show IntKind.u64.wrap (IntKind.i64.wrap<|s.p+1)=_;rw[Zi,Zj]
   grind
  rw[zF f]at e;cases e
 rw[zF y]at e;by_cases z:a=3
 .subst z;rw[zE rfl]at e;by_cases f:0<=n/\n<(b9 c.ns:Int)/\0<=(mz c s.W).getD (b9 n) 0
  .rw[zE f]at e;injection e with e
   have g:b9 n<b9 c.ns:=by omega
   have⟨F,H,I⟩:=sd h r g;have⟨J,K⟩:=m.tk h;have o:=xC (c:=c) (W:=s.W) g;have N:b8 (seg s.W (sp c (b9 n)+1)<|b8 c.X)=b8 c.X:=fj V1;unfold CU;rw[zF V9,Zh,Zh,Zh,zE rfl,Zh];refine⟨rfl, ?_⟩;rw[<-e];unfold po;simp only;rw[Bp<|fH.put h (fH.refl s.W) m (i:=1) V1 (by rw[N];exact Nat.le_refl _),o]
  rw[zF f]at e;cases e
 rw[zF z]at e;by_cases A:a=4
 .subst A;rw[zE rfl]at e;by_cases f:0<=n/\n<(b9 c.ns:Int)/\0<=(mz c s.W).getD (b9 n) 0
  .rw[zE f]at e;injection e with e
   have g:b9 n<b9 c.ns:=by omega
   have⟨F,H,I⟩:=sd h r g;have⟨J,K⟩:=m.tk h;have o:=xC (c:=c) (W:=s.W) g;unfold CU;rw[zF V9,Zh,Zh,Zh,Zh,zE rfl,Zh];refine⟨rfl, ?_⟩;rw[<-e];unfold po;simp only;rw[Tk g Z5<|bw _];rfl
  rw[zF f]at e;cases e
 rw[zF A]at e;by_cases B:a=5
 .subst B;rw[zE rfl]at e;by_cases f:n=0/\s.q= -1/\s.p=s.L
  .rw[zE f]at e;injection e with e
   unfold CU;rw[zF Z3,Zh,Zh,Zh,Zh,Zh,zE rfl,Zh,Zh];refine⟨rfl, ?_⟩;rw[<-e];unfold po;simp only[Bp<|G8 h m E]
  rw[zF f]at e;cases e
 rw[zF B]at e;by_cases C:a=6
 .subst C;rw[zE rfl]at e;by_cases f:n=0/\s.q= -1/\s.p=s.L-1
  .rw[zE f]at e;injection e with e
   unfold CU;rw[zF Z3,Zh,Zh,Zh,Zh,Zh,Zh,zE rfl,Zh,Zh];refine⟨rfl, ?_⟩;rw[<-e];unfold po;simp only[Bp (G7 h m s.p).1]
  rw[zF f]at e;cases e
 rw[zF C]at e;by_cases D:a=7
 .subst D;rw[zE rfl]at e;by_cases f:n=0/\0<s.q/\s.p=s.q-1
  .rw[zE f]at e;injection e with e
   unfold CU;rw[zF Z3,Zh,Zh,Zh,Zh,Zh,Zh,Zh,Zh,Zh];refine⟨rfl, ?_⟩;rw[<-e];unfold po;simp only[Bp (Kb h m s.p).1]
  rw[zF f]at e;cases e
 rw[zF D]at e;cases e
def mZ {α β:Type}{x:Option α}{a:α}{f:α->Option β}{r:Option β}(h:x=O a)(e:f a=r):x.bind f=r:=by rw[h];exact e
end
end
section
open List renaming replicate->aB,eq_of_mem_replicate->aD,getElem?_eq_none->bB
section
variable {a0:Int} {a1 a2:Zd} {a3:Int} {a4:List cg} {a5:Int} {a6:List cg} {a7 a8 a9:Int}
theorem RM {R:Int}{l:List cg}(h:4096<b8 l)(e:b8 l<=3518437208780):fX R l=O 6:=by
 unfold fX;have⟨m,f⟩:=Cr e;rw[f];simp only[zG,yi]
 grind
theorem aj0 (e:b8 a4<=3518437208780)(f:b8 a6<=3518437208780)(h:4096<(b8 a4)∨4096<b8 a6):ni a3 a4 a5 a6=O 6:=by
 unfold ni;by_cases c:4096<b8 a4
 .rw[RM c e];rfl
 rw[Cd V1,RM V1 f]
 grind
def NO (m:b8 a4<=3518437208780)(o:b8 a6<=3518437208780)(h:4096<(b8 a4)∨4096<b8 a6): ∃e,e≠0/\kP a0 a1 a2 a3 a4 a5 a6 a7 a8=O e:=by
 have f:gz a0 a1 a2 a3 a4 a5 a6 a7 a8 0=O (if hk0 a0≠0 then .inr (.inl<|hk0 a0)else .inl 1):=by
  show(bA (iy a0 a1 a2 a3 a4 a5 a6 a7 a8) λr=>cond (Zc<|r≠0) _ _)=_;rw[ad1];simp only[zG,ap];split<;>rfl
 have g:gz a0 a1 a2 a3 a4 a5 a6 a7 a8 1=O (.inr<|.inl 6):=by
  show(bA (fJ a0 a1 a2 a3 a4 a5 a6 a7 a8) λr=>cond (Zc<|r≠0) _ _)=_;unfold fJ;rw[aj0 m o h];rfl
 unfold kP;have p:fy=18446744073709551614+1+1:=rfl;rw[p,dp,f,zG];by_cases c:hk0 a0≠0
 .rw[zE c];exact⟨_,c,rfl⟩
 rw[zF c];simp only[bz];rw[dp,g];exact⟨6,V1,rfl⟩
theorem ag0 (f:b8 a4<=3518437208780)(g:b8 a6<=3518437208780)(h:4096<(b8 a4)∨4096<b8 a6): ∃r,r.2.2.2.2≠0/\kH a0 a1 a2 a3 a4 a5 a6 a7 a8=O r:=by
 have⟨e,m,o⟩:=NO (a0:=a0) (a1:=a1) (a2:=a2) (a3:=a3) (a5:=a5) (a7:=a7) (a8:=a8) f g h;refine⟨(0,0,0,0,e),m, ?_⟩;unfold kH
 grind
theorem aF2 (g: ∀o∈a4,Np o)(m: ∀o∈a6,Np o): ∃b,mf a0 a1 a2 a3 a4 a5 a6 a7 a8=O b/\(b=Za->a7<=40∨65535<a7):=by
 rcases aF1 (a0:=a0) (a1:=a1) (a2:=a2) (a3:=a3) (a5:=a5) (a7:=a7) (a8:=a8) g m with h|⟨h,_⟩
 .exact⟨Zb,h,λk=>by cases k⟩
 refine⟨Za,h,λ_=> ?_⟩;by_cases e:a7<=40
 .exact .inl e
 by_cases f:65535<a7
 .exact .inr f
 exfalso;unfold mf at h;obtain⟨r,u,h⟩:=ag h;cases r with
 |false=>cases h
 |true=>
  rw[Bool.not_true,zD]at h;obtain⟨q,p,h⟩:=ag h
  simp_all
end
section
variable {c:Cx}
theorem UF (h:c.Ok)(g:c.mode≠3)(e:ng c.mode (b8 c.X) (b8 c.T) c.R c.l c.Q c.k c.len c.words=(c.fixed,c.tp,c.sl,c.ns,0)):1<=c.ns:=by
 have n:=h.num;have m:=n.sl;rw[zF g]at m;unfold ng at e;rw[zF (by rw[h.hc];simp)]at e;by_cases f:c.words<vM (b8 c.X) (b8 c.T) c.R c.Q+tM c.mode c.l c.k+least c.mode c.len*tL c.mode (b8 c.X) c.R c.l
 .rw[zE f]at e
  grind
 rw[zF f,zF g]at e;injection e with _ e
 injection e with _ e
 injection e with _ e
 injection e with e _
 unfold least at f;rw[zF g]at f;have o:tL c.mode (b8 c.X) c.R c.l=c.sl:=h.sl.symm;rw[o]at e f;rw[<-e];exact(Int.le_ediv_iff_mul_le V1).2 V1
def ao7 (h:c.Ok)(f:c.mode≠3):mz c (new2 c).W=aB (b9 c.ns) (-1):=by
 apply List.ext_getElem?;intro k;by_cases e:k<b9 c.ns
 .rw[Em e,Hh h f e,List.getElem?_replicate,zE e];rfl
 rw[bB (by rw[pW];omega),bB (by rw[List.length_replicate];omega)]
def ag1 (h:c.Ok)(e:c.mode≠3):po c (new2 c)=⟨c.len,0,-1,aB (b9 c.ns)<|-1⟩:=by
 unfold po;rw[ao7 h e];rfl
def ay4 (s:Nat):hld (aB s<|-1)=aB s Zb:=by
 unfold hld;rw[List.map_replicate];rfl
theorem aE3 {l:Nat}(p:l<=400)(m:1<=s): ∃m',Run Bc ⟨l,0,-1,aB s<|-1⟩ (if l=0 then [(5,0)]else pt (2*l) Zb l s 0 (aB s Zb) Za) m'/\Bc m'=Z/\m'.q=0/\b8 (if l=0 then [((5:Int),(0:Int))]else pt (2*l) Zb l s 0 (aB s Zb) Za)<=2000:=by
 have o:oD (aB s<|-1)= -1:=IQ V1 (λy f=>by rw[aD f];exact Int.le_refl _) (.inl rfl)
 have e: ∀L:Int,Bc ⟨L,0,0,aB s<|-1⟩=Z:=λL=>by
  unfold Bc
  grind
 by_cases g:l=0
 .subst g;rw[zE rfl];refine⟨⟨0,0,0,aB s<|-1⟩, .one ?_ ?_,e 0,rfl,V2⟩
  .unfold Bc
   grind
  rfl
 rw[zF g];refine⟨⟨l,0,0,aB s<|-1⟩, ?_,e l,rfl,by have:=(aj8<|2*l).1 l s 0 (aB s Zb) Za V1 V1<|λ_=>m;omega⟩;have:=(an2<|2*l).1 l s 0 (aB s<|-1) Za l (-1) 0 (Nat.le_refl _) ⟨V1,V1,by rw[Zg];omega,λ_=>rfl,(λh=>by cases h),V1⟩ (λy f=>by rw[aD f];omega) (λy f=>by rw[aD f];omega) (by unfold Dn;rw[List.countP_replicate];simp)<|λ_=>m;rw[ay4]at this;exact this
def aZ4 (h:c.Ok)(f:c.mode=1)(e:ng c.mode (b8 c.X) (b8 c.T) c.R c.l c.Q c.k c.len c.words=(c.fixed,c.tp,c.sl,c.ns,0)):kE c.mode c.X c.T c.R c.l c.Q c.k c.len c.words=O (.inr<|.inr<|.inl (c.mode,Zb,Zb,c.fixed,c.tp,c.sl,c.ns,c.mode,c.R,c.Q,c.len,c.words,c.len,c.X,c.T,c.l,c.k,c.P,c.tk,(c.off 8:Int),c.ns,(b8 c.X:Int),c.fixed,c.fixed,c.words,(new2 c).W)):=by
 unfold kE;refine mZ (aY2 h V1 e) ?_
 refine mZ (show oF .. =O (.inl (c.mode,Zb,Zb))from by
  unfold oF;rw[show ix c.mode 4=O 1 from by rw[f];rfl]
  rfl) ?_
 rfl
def aZ5 (h:c.Ok)(f:c.mode=2)(e:ng c.mode (b8 c.X) (b8 c.T) c.R c.l c.Q c.k c.len c.words=(c.fixed,c.tp,c.sl,c.ns,0)):kE c.mode c.X c.T c.R c.l c.Q c.k c.len c.words=O (.inr<|.inr<|.inr (c.mode,Zb,Zb,c.fixed,c.tp,c.sl,c.ns,c.mode,c.R,c.Q,c.len,c.words,c.len,c.X,c.T,c.l,c.k,c.P,c.tk,(c.off 8:Int),c.ns,(b8 c.X:Int),c.fixed,c.fixed,c.words,(new2 c).W)):=by
 unfold kE;refine mZ (aY2 h V1 e) ?_
 refine mZ (show oF .. =O (.inr (c.mode,Zb,Zb))from by
  unfold oF;rw[show ix c.mode 4=O 2 from by rw[f];rfl]
  rfl) ?_
 rfl
def KU (e:1<=s)(f:k<65536):qC Zb ⟨k,k,-1,(fT s k).2⟩=Z:=by
 cases k with
 |zero=>exact(Vp e).2
 |succ k=>exact(Vq e f).2
end
end
section
open List renaming length_cons->aB
def jr (c:Cx)(i:Nat):Zd:=Gj c 0 c.X i
def jP (c:Cx)(L:Nat):Nat->Zd×Zd
 |0=>((vT c<|jr c L).take<|b8 c.X,tv (b8 c.X) (zeros<|b8 c.T)<|vT c<|jr c L)
 |k+1=>((qu c ((L-(k+1):Nat):Int) (jr c<|L-(k+1)) (jP c L k).1).take<|b8 c.X,tv (b8 c.X) (jP c L k).2<|qu c ((L-(k+1):Nat):Int) (jr c<|L-(k+1)) (jP c L k).1)
section
variable {c:Cx} (h:c.Ok) (wT:ci c.T) (wX:ci c.X)
def HD (i:Nat):jr c (i+1)=yG c (i:Int) (jr c i):=by
 show yG c (0+(i:Int)) _=_;rw[Int.zero_add];rfl
def WO (i:Nat): ∀k,Gj c (i:Int) (jr c i) k=jr c (i+k)
 |0=>rfl
 |k+1=>by
  show yG c ((i:Int)+(k:Int)) (Gj c (i:Int) (jr c i) k)=_;rw[WO i k,<-Nat.add_assoc,HD]
  congr 1
def at3 (c:Cx)(s:Dy):Zd×Zd:=jP c (b9 s.L)<|b9<|s.L-s.q
structure Jn (c:Cx)(s:Dy)(ax at':Zd):Prop where
 has:Has c s.W (jr c<|b9 s.p) ax at'
 ini:s.q<0->at'=zeros (b8 c.T)
 adj:0<=s.q->(ax,at')=at3 c s/\s.z=lossV c (jr c<|b9 s.L)
def Sls (c:Cx)(s:Dy):Prop:= ∀k,k<b9 c.ns->0<jg c s.W k->seg s.W (sp c k+1) (b8 c.X)=jr c (b9<|jg c s.W k-1)
include h wT wX
theorem qr (i:Nat):b8 (jr c i)=b8 c.X/\ci (jr c i):=CF h wT rfl wX i
omit wT wX in
theorem Sls.kept {s:Dy}(S:Sls c s)(e:fH c s.W s'.W):Sls c s':=λk g f=>by
 rw[e.tag]at f⊢;rw[e.seg Zs];exact S k g f
omit wT wX in
theorem Sls.put (q:c.mode≠3){s:Dy}(S:Sls c s)(w:Wd c s.W)(y:k<b9 c.ns){x:Zd}(A:b8 x=b8 c.X)(e:s'.W=put s.W (sp c k) (v::x))(z:0<v->x=jr c (b9<|v-1)):Sls c s':=λj p m=>by
 have⟨B,C,D⟩:=sd h q y;have⟨E,_,_⟩:=sd h q p;have⟨F,H⟩:=w.tk h;have o:b8 (v::x)=b8 c.X+1:=by rw[aB,A]
 have f:sp c k+b8 (v::x)<=b8 s.W:=by rw[o];omega
 rw[e]at m⊢;by_cases g:j=k
 .subst g;rw[xp f o]at m⊢;have m:0<v:=m
  have r:seg (Go.V.put s.W (sp c j)<|v::x) (sp c j+1) (b8 c.X)=x:=by
   have:=Gh (n:=b8<|v::x) f<|Nat.le_refl _;rw[List.take_length,o]at this
   have u:seg (Go.V.put s.W (sp c j)<|v::x) (sp c j+1) (b8 c.X)=(seg (Go.V.put s.W (sp c j)<|v::x) (sp c j)<|b8 c.X+1).drop 1:=by
    unfold seg;rw[List.drop_take,List.drop_drop];rfl
   rw[u,this];rfl
  rw[r];exact z m
 .rw[Ko f o<|Ne.symm<|Ne.symm g]at m⊢
  rw[nZ f (by
   rw[o];rcases Nat.lt_or_gt_of_ne g with h1|h1
   .have:=WM (c:=c) h1;omega
   .have:=WM (c:=c) h1
    omega)]
  exact S j p m
omit h wT wX in
theorem KR {L q:Int}(o:0<q)(m:q<=L):jP c (b9 L) (b9<|L-(q-1))=((qu c (q-1) (jr c<|b9<|q-1) (jP c (b9 L)<|b9<|L-q).1).take<|b8 c.X,tv (b8 c.X) (jP c (b9 L)<|b9<|L-q).2<|qu c (q-1) (jr c<|b9<|q-1) (jP c (b9 L)<|b9<|L-q).1):=by
 have e:b9 (L-(q-1))=b9 (L-q)+1:=by omega
 have f:b9 L-(b9 (L-q)+1)=b9 (q-1):=by omega
 have g:((b9 (q-1):Nat):Int)=q-1:=by omega
 rw[e];show(_,_)=_;rw[f,g]
omit wT wX in
theorem Has.put8' {st:Zd}(H:Has c W st ax at'){o:Nat}{w:Zd}(p:c.off 8<=o)(f:o+b8 w<=c.off 9)(g:ci w):Has c (Go.V.put W o w) st ax at':=by
 have m:=H.wd.tk h;have q:=ah3 (c:=c) (i:=7) (j:=8) V1;have e:o+b8 w<=b8 W:=by omega
 have a1:=gS (c:=c) (i:=1) (j:=7) V1;have a5:=gS (c:=c) (i:=5) (j:=7) V1;have a6:=gS (c:=c) (i:=6) (j:=7) V1;have a0:=gS (c:=c) (i:=0) (j:=7) V1;refine⟨H.wd.put h f,H.w.put g _, ?_, ?_, ?_, ?_⟩
 .rw[nZ e<|.inl (show 0+b8 c.T<=o by have:c.off 0+c.sz 0=0+b8 c.T:=rfl;omega)];exact H.t
 .rw[nZ e<|.inl (show c.off 1+b8 c.X<=o by have:c.sz 1=b8 c.X:=rfl;omega)];exact H.s
 .rw[nZ e<|.inl (show c.off 5+b8 c.X<=o by have:c.sz 5=b8 c.X:=rfl;omega)];exact H.x
 rw[nZ e<|.inl (show c.off 6+b8 c.T<=o by have:c.sz 6=b8 c.T:=rfl;omega)];exact H.a
theorem ba6 (y:c.mode≠3){s:Dy}(hi:Inv c s)(J:Jn c s ax at')(S:Sls c s){a:Int×Int}{m':Mc}(e:Kg a (po c s)=O m'): ∃u m,Jn c (CU c a.1 a.2 s).2 u m/\Sls c (CU c a.1 a.2 s).2:=by
 obtain⟨a,n⟩:=a;have r:=hi.w;have hL:=hi.L;have hp:=hi.p;have hq:=hi.q;have hns:=h.ns;have H:=J.has;have⟨D,E⟩:=qr h wT wX<|b9 s.p;have B:b8 (seg s.W (c.off 1)<|b8 c.X)=b8 c.X:=fj<|r.in' h (i:=1) V1;unfold Kg po at e;simp only[pW]at e;show∃u m,Jn c (CU c a n s).2 u m/\Sls c (CU c a n s).2
 by_cases F:a=1
 .subst F;rw[zE rfl]at e;by_cases f:1<=n/\n<=65535/\s.p+n<=s.L
  .unfold CU;rw[zF (by rw[S5 V1];simp),Zh,zE rfl,Zh];refine⟨ax,at',⟨?_,J.ini,J.adj⟩,S.kept h<|Ka h r s.p<|b9 n⟩;have:=H.advW h wT s.p<|b9 n;have e2:=WO (c:=c) (b9 s.p) (b9 n)
   grind
  rw[zF f]at e;cases e
 rw[zF F]at e;by_cases I:a=2
 .subst I;rw[zE rfl]at e;by_cases f:0<=n/\n<(b9 c.ns:Int)/\(mz c s.W).getD (b9 n) 0<0
  .have o:b9 n<b9 c.ns:=by omega
   have⟨z,s2,s3⟩:=sd h y o;have V:=xC (c:=c) (W:=s.W) o;unfold CU;rw[zF V9,Zh,Zh,zE rfl,Zh];have hv:IntKind.u64.wrap (IntKind.i64.wrap<|s.p+1)=s.p+1:=by rw[Zi,Zj]
   refine⟨ax,at',⟨?_,J.ini,J.adj⟩, ?_⟩
   .refine H.put8' h Zs (by rw[aB,B];exact z) ?_;intro v hv';rcases aA.1 hv' with rfl|hv'
    .exact QD _
    exact H.w.seg _ _ v hv'
   refine S.put h y r o B rfl λ_=> ?_
   rw[hv,H.s]
   congr 1
   omega
  rw[zF f]at e;cases e
 rw[zF I]at e;by_cases K:a=3
 .subst K;rw[zE rfl]at e;by_cases f:0<=n/\n<(b9 c.ns:Int)/\0<=(mz c s.W).getD (b9 n) 0
  .have o:b9 n<b9 c.ns:=by omega
   have⟨z,s2,s3⟩:=sd h y o;have⟨t1,t2⟩:=r.tk h;have V:=xC (c:=c) (W:=s.W) o;have l2:b8 (seg s.W (sp c (b9 n)+1)<|b8 c.X)=b8 c.X:=fj V1;unfold CU;rw[zF V9,Zh,Zh,Zh,zE rfl,Zh];refine⟨ax,at',⟨?_,J.ini,J.adj⟩,S.kept h<|fH.put h (fH.refl s.W) r (i:=1) V1 (by rw[l2];exact Nat.le_refl _)⟩;have hs:=S (b9 n) o V1;have:=H.put1 h l2<|H.w.seg _ _;rw[hs]at this⊢;exact this
  rw[zF f]at e;cases e
 rw[zF K]at e;by_cases M:a=4
 .subst M;rw[zE rfl]at e;by_cases f:0<=n/\n<(b9 c.ns:Int)/\0<=(mz c s.W).getD (b9 n) 0
  .have o:b9 n<b9 c.ns:=by omega
   have⟨z,s2,s3⟩:=sd h y o;have V:=xC (c:=c) (W:=s.W) o;unfold CU;rw[zF V9,Zh,Zh,Zh,Zh,zE rfl,Zh];refine⟨ax,at',⟨?_,J.ini,J.adj⟩, ?_⟩
   .exact H.put8' h Zs (by rw[bw];exact z) (ci.rep _)
   exact S.put h y r o (bw _) (show _=put s.W (sp c<|b9 n) (0::zeros (b8 c.X))from rfl) λg=>by omega
  rw[zF f]at e;cases e
 rw[zF M]at e;by_cases N:a=5
 .subst N;rw[zE rfl]at e;by_cases f:n=0/\s.q= -1/\s.p=s.L
  .unfold CU;rw[zF Z3,Zh,Zh,Zh,Zh,Zh,zE rfl,Zh,Zh];have H2:=H.endd h wT D E;have A:=J.ini V1;refine⟨(vT c<|jr c<|b9 s.p).take<|b8 c.X,tv (b8 c.X) at'<|vT c<|jr c<|b9 s.p,⟨?_,λg=> ?_,λg=>⟨?_, ?_⟩⟩,S.kept h<|G8 h r B⟩
   .show Has c (Ic c s.W<|seg s.W (c.off 1)<|b8 c.X) (jr c<|b9 s.p) _ _;rw[H.s];exact H2
   .exfalso;have g:s.p<0:=g;omega
   .show _=jP c (b9 s.L) (b9<|s.L-s.p);rw[show(b9<|s.L-s.p)=0 by omega,A,f.2.2];rfl
   show rg (lossR c s.W<|seg s.W (c.off 1)<|b8 c.X).1 0=_;rw[H.s,H.lossV h wT,f.2.2]
  rw[zF f]at e;cases e
 rw[zF N]at e;by_cases Q:a=6
 .subst Q;rw[zE rfl]at e;by_cases f:n=0/\s.q= -1/\s.p=s.L-1
  .unfold CU;rw[zF Z3,Zh,Zh,Zh,Zh,Zh,Zh,zE rfl,Zh,Zh];have H2:=H.both h wT s.p;have A:=J.ini V1
   have C:yG c s.p (jr c<|b9 s.p)=jr c (b9 s.L):=by
    have:=HD (c:=c) (b9 s.p)
    grind
   rw[C]at H2;refine⟨_,_,⟨H2,λg=> ?_,λg=>⟨?_, ?_⟩⟩,S.kept h (G7 h r s.p).1⟩
   .exfalso;have g:s.p<0:=g;omega
   .show _=jP c (b9 s.L) (b9<|s.L-s.p);have:=KR (c:=c) (L:=s.L) (q:=s.L) V1<|Int.le_refl _;rw[f.2.2,this,show(b9<|s.L-s.L)=0 by omega,A];rfl
   show rg (lossR c (put s.W (c.off 2) (stepR c s.W s.p).1)<|(stepR c s.W s.p).1.take<|b8 c.X).1 0=_;have H3:=H.taped h wT s.p;rw[H3.lossV h wT,H.stepR h,(yI h wT (t:=s.p) D E).2.2.2.2,C]
  rw[zF f]at e;cases e
 rw[zF Q]at e;by_cases U:a=7
 .subst U;rw[zE rfl]at e;by_cases f:n=0/\0<s.q/\s.p=s.q-1
  .unfold CU;rw[zF Z3,Zh,Zh,Zh,Zh,Zh,Zh,Zh,Zh,Zh];have H2:=H.rev h wT s.p;have⟨Y,i2⟩:=J.adj V1;unfold at3 at Y;refine⟨_,_,⟨H2,λg=> ?_,λg=>⟨?_,i2⟩⟩,S.kept h (Kb h r s.p).1⟩
   .exfalso;have g:s.p<0:=g;omega
   show _=jP c (b9 s.L) (b9<|s.L-s.p);have:=KR (c:=c) (L:=s.L) (q:=s.q) V1 V1;rw[f.2.2,this,<-Y]
  rw[zF f]at e;cases e
 rw[zF U]at e;cases e
omit wX in
theorem aS7 {s:Dy}(J:Jn c s ax at')(f:s.q=0)(m:0<=s.L):Gf c s=(lossV c<|jr c<|b9 s.L,0,(jP c (b9 s.L)<|b9 s.L).1,(jP c (b9 s.L)<|b9 s.L).2):=by
 have⟨e,g⟩:=J.adj V1;unfold at3 at e;rw[f,Int.sub_zero]at e;unfold Gf;rw[Zh,g,J.has.x,J.has.a,<-e]
end
end
section
open List renaming length_append->aB,length_singleton->aD
theorem E4 (h:j≠i):rg (l.set j v) (i:Int)=rg l (i:Int):=by
 unfold rg
 grind
theorem zQ (h:j<b8 l):rg (l.set j v) (j:Int)=v:=by
 unfold rg
 grind
def NL (t:Zd): ∀(l:List cg) (r a a':Zd) (n:Nat),(CS (qs t) l (r,a,n)).1=(CS (qs t) l (r,a',n)).1/\(CS (qs t) l (r,a,n)).2.2=(CS (qs t) l (r,a',n)).2.2
 |[],_,_,_,_=>⟨rfl,rfl⟩
 |o::l,r,a,a',n=>by
  have⟨f,e⟩:=NL t l r a a' n;refine⟨?_, ?_⟩
  .show(CS (qs t) l (r,a,n)).1.set (b9 o.2.1) (rg t (((CS (qs t) l (r,a,n)).2.2-1:Nat):Int))=_;rw[f,e];rfl
  .show(CS (qs t) l (r,a,n)).2.2-1=_;rw[e];rfl
def Y6 (t:Zd)(l:List cg)(r a a':Zd)(n:Nat):(CS (qs t) l (r,a,n)).1=(CS (qs t) l (r,a',n)).1:=(NL t l r a a' n).1
theorem bd2 {a:Zd}: ∀(n:Nat) (l:List cg),b8 l=n->∀(r t0 t:Zd),(∀o∈l,PZ (b8 r) o)->b8 l<=b8 t0->(∀i,i<b8 l->rg t (i:Int)=rg (pn iK l (r,t0,0)).2.1 (i:Int))->(CS (qs t) l ((pn iK l (r,t0,0)).1,a,b8 l)).1=r
 |0,l,m,r,t0,t,_,_,_=>by
  have:=aK.1 m;subst this;rfl
 |n+1,l,m,r,t0,t,A,D,q=>by
  obtain⟨e,o,rfl⟩: ∃e o,l=e++[o]:=⟨l.take n,l[n]' V1,by
   rw[<-List.take_succ_eq_append_getElem V1,List.take_of_length_le V1]⟩
  rw[aB,aD]at m D;have p:b8 e=n:=by omega
  have⟨y,z,f⟩:=Lz e (r,t0,0);rw[J1];have F:pn iK (e++[o]) (r,t0,0)=iK o (pn iK e (r,t0,0)):=by rw[EN];rfl
  rw[F]at q⊢;have Q:=bd2 (a:=a) n e p r t0 t (λx J=>A x (by simp[J])) V1;have E: ∀w,(CS (qs t) e ((pn iK e (r,t0,0)).1,w,b8 e)).1=(CS (qs t) e ((pn iK e (r,t0,0)).1,a,b8 e)).1:=λw=>Y6 t e _ _ _ _
  have g:=A o V2;generalize pn iK e (r,t0,0)=s at*;have y:b8 s.1=b8 r:=y;have z:b8 s.2.1=b8 t0:=z;have f:s.2.2=b8 e:=by rw[f];simp
  have⟨K,S,U,C,V,Y,L,M,N⟩:=zt g;have I:=q (b8 e) (by rw[aB,aD];omega)
  have H: ∀i,i<b8 e->rg t (i:Int)=rg s.2.1 (i:Int):=λi hi=>by
   rw[q i (by rw[aB,aD];omega)];show rg (s.2.1.set s.2.2<|rg s.1 o.2.1) (i:Int)=_;exact E4 V1
  have u:rg t ((b8 e:Nat):Int)=rg s.1 (K:Int):=by
   rw[I];show rg (s.2.1.set s.2.2<|rg s.1 o.2.1) ((b8 e:Nat):Int)=_;rw[f,C];exact zQ V1
  have B:(CS (qs t) [o] ((iK o s).1,a,b8<|e++[o])).1=s.1/\(CS (qs t) [o] ((iK o s).1,a,b8<|e++[o])).2.2=b8 e:=by
   rw[aB,aD];refine⟨?_,by show b8 e+1-1=_;omega⟩;show((s.1.set (b9 o.2.1) _).set (b9 o.2.1)<|rg t ((b8 e+1-1:Nat):Int))=s.1;rw[C,Int.toNat_natCast,List.set_set,Nat.add_sub_cancel,u,an7 V1]
  grind
section
variable {c:Cx} (h:c.Ok) (wT:ci c.T) (wX:ci c.X)
def Kps (c:Cx)(s:Dy):Prop:= ∀i:Nat,(i:Int)<oz s->zP c s.W i=(jM c (i:Int)<|jr c i).1/\wc c s.W i=(jM c (i:Int)<|jr c i).2.1
include h
theorem Kps.kept {s:Dy}(K:Kps c s)(e:fH c s.W s'.W)(f:oz s'<=oz s):Kps c s':=λi hi=>by
 unfold zP wc;rw[e.seg ZH,e.seg ZH];exact K i V1
include wT wX
theorem TW (D:c.mode=3){s:Dy}(hi:InvB c s)(K:Kps c s)(E:0<s.q):(wM c s.W<|b9<|s.q-1).1.take (b8 c.X)=jr c (b9<|s.q-1)/\True:=by
 refine⟨?_,trivial⟩;have⟨⟨F,H⟩,A,z,J,L,I⟩:=h.lens;have⟨u,w⟩:=K (b9<|s.q-1) (by unfold oz;rw[Zh];omega);generalize b9 (s.q-1)=i at*;have⟨m,y⟩:=qr h wT wX i;have B:=AP (c:=c) (i:Int) m;have f:=h.pl.ulen;have p:=h.pl.goodU;unfold wM;rw[u,w];have e:b8 (fill c.R<|Ca c (i:Int)<|jr c i)=b9 c.R:=iA V1;have:=bd2 (a:=fill c.R<|seg s.W (c.off 5)<|b8 c.X) c.fl.n c.fl.unroll f.1 (fill c.R<|Ca c (i:Int)<|jr c i) (zeros c.fl.n) (jM c (i:Int)<|jr c i).2.1 (λo r=>by rw[e];exact(p o r).1) Z5<|λj C=>rfl;rw[f.1]at this;show((CS (qs (jM c (i:Int)<|jr c i).2.1) c.fl.unroll ((jM c (i:Int)<|jr c i).1,fill c.R<|seg s.W (c.off 5)<|b8 c.X,c.fl.n)).1).take (b8 c.X)=_;have g:(jM c (i:Int)<|jr c i).1=(pn iK c.fl.unroll (fill c.R<|Ca c (i:Int)<|jr c i,zeros c.fl.n,0)).1:=rfl;rw[g,this];unfold fill Ca
 grind
theorem ba7 (hm:c.mode=3){s:Dy}(hi:InvB c s)(J:Jn c s ax at')(K:Kps c s)(a n:Int): ∃I y,Jn c (EZ c a n s).2 I y/\Kps c (EZ c a n s).2:=by
 have B:=hi.w;have hp:=hi.p;have hq:=hi.q;have hLc:=hi.L;have nm:=h.num;have hns:=h.ns;have hb:=h.base hm;have H:=J.has;have⟨Q,S⟩:=qr h wT wX<|b9 s.p;have hpp:((b9 s.p:Nat):Int)=s.p:=by omega
 have l1:b8 (seg s.W (c.off 1)<|b8 c.X)=b8 c.X:=fj<|B.in' h (i:=1) V1;unfold EZ;by_cases h8:a=8
 .rw[zE h8];by_cases g:n≠0
  .rw[zE g];exact⟨ax,at',J,K⟩
  rw[zF g];by_cases m:0<=s.q
  .rw[zE m];exact⟨ax,at',J,K⟩
  rw[zF m];by_cases z:s.p=s.L
  .rw[zE z];exact⟨ax,at',J,K⟩
  rw[zF z];have⟨s1,s2,s3,s4⟩:=Bn h hm (i:=b9 s.p) V1;have⟨t1,t2⟩:=B.tk h;have⟨M,f2,N,F,A⟩:=yI h wT (t:=s.p) Q S;have H2:=H.taped h wT s.p;rw[H.stepR h]at H2⊢;have e:b8 ((jM c s.p<|jr c<|b9 s.p).2.1++(jM c s.p<|jr c<|b9 s.p).1)=b9 c.sl:=by rw[aB,N,F,s1]
  have ww:ci<|(jM c s.p<|jr c<|b9 s.p).2.1++(jM c s.p<|jr c<|b9 s.p).1:=f2.app M;have H3:=H2.put8' h (o:=jL c<|b9 s.p) s4 (by rw[e];exact s3) ww
  have eS:jr c (b9<|s.p+1)=yG c s.p (jr c<|b9 s.p):=by
   have:=HD (c:=c) (b9 s.p)
   grind
  have lt:b8 ((jM c s.p<|jr c<|b9 s.p).1.take<|b8 c.X)=b8 c.X:=by rw[A,(zS h wT Q S).1]
  have H4:=H3.put1 h lt<|M.take _;rw[A]at H4 lt;refine⟨ax,at',⟨?_,J.ini,J.adj⟩,λi u=> ?_⟩
  .show Has c (put (put (put s.W (c.off 2) (jM c s.p<|jr c<|b9 s.p).1) (jL c<|b9 s.p)<|(jM c s.p<|jr c<|b9 s.p).2.1++(jM c s.p<|jr c<|b9 s.p).1) (c.off 1)<|(jM c s.p<|jr c<|b9 s.p).1.take<|b8 c.X) (jr c<|b9<|s.p+1) ax at';rw[A,eS];exact H4
  have u:(i:Int)<if s.q<0 then s.p+1 else s.q:=u
  rw[Zg]at u;have U:Wd c<|put s.W (c.off 2) (jM c s.p<|jr c<|b9 s.p).1:=H2.wd;have V:=H3.wd
  have kK:fH c (put (put s.W (c.off 2) (jM c s.p<|jr c<|b9 s.p).1) (jL c<|b9 s.p)<|(jM c s.p<|jr c<|b9 s.p).2.1++(jM c s.p<|jr c<|b9 s.p).1)<|put (put (put s.W (c.off 2) (jM c s.p<|jr c<|b9 s.p).1) (jL c<|b9 s.p)<|(jM c s.p<|jr c<|b9 s.p).2.1++(jM c s.p<|jr c<|b9 s.p).1) (c.off 1)<|(jM c s.p<|jr c<|b9 s.p).1.take<|b8 c.X:=
   fH.put h (fH.refl _) V (i:=1) V1 (by rw[A,lt];exact Nat.le_refl _)
  have D:fH c s.W<|put s.W (c.off 2) (jM c s.p<|jr c<|b9 s.p).1:=fH.put h (fH.refl _) B (i:=2) V1<|Nat.le_of_eq N;have⟨u1,u2⟩:=U.tk h;have f:jL c (b9 s.p)+b8 ((jM c s.p<|jr c<|b9 s.p).2.1++(jM c s.p<|jr c<|b9 s.p).1)<=b8 (put s.W (c.off 2) (jM c s.p<|jr c<|b9 s.p).1):=by rw[e];omega
  show seg (put (put (put s.W (c.off 2) (jM c s.p<|jr c<|b9 s.p).1) (jL c<|b9 s.p)<|(jM c s.p<|jr c<|b9 s.p).2.1++(jM c s.p<|jr c<|b9 s.p).1) (c.off 1)<|(jM c s.p<|jr c<|b9 s.p).1.take<|b8 c.X) (jL c i+c.fl.n) (b9 c.R)=_/\seg (put (put (put s.W (c.off 2) (jM c s.p<|jr c<|b9 s.p).1) (jL c<|b9 s.p)<|(jM c s.p<|jr c<|b9 s.p).2.1++(jM c s.p<|jr c<|b9 s.p).1) (c.off 1)<|(jM c s.p<|jr c<|b9 s.p).1.take<|b8 c.X) (jL c i) c.fl.n=_;rw[kK.seg ZH,kK.seg ZH];by_cases hip:i=b9 s.p
  .subst hip;rw[hpp];have e0:=tK f;rw[e]at e0;constructor
   .have e1:seg (put (put s.W (c.off 2) (jM c s.p<|jr c<|b9 s.p).1) (jL c<|b9 s.p)<|(jM c s.p<|jr c<|b9 s.p).2.1++(jM c s.p<|jr c<|b9 s.p).1) (jL c (b9 s.p)+c.fl.n) (b9 c.R)=(seg (put (put s.W (c.off 2) (jM c s.p<|jr c<|b9 s.p).1) (jL c<|b9 s.p)<|(jM c s.p<|jr c<|b9 s.p).2.1++(jM c s.p<|jr c<|b9 s.p).1) (jL c<|b9 s.p)<|b9 c.sl).drop c.fl.n:=by
     unfold seg;rw[List.drop_take,List.drop_drop,s1,show c.fl.n+b9 c.R-c.fl.n=(b9 c.R) by omega]
    rw[e1,e0,<-F,List.drop_left]
   rw[Gh f (by rw[e];omega),<-F,List.take_left]
  have hne:i<b9 s.p:=by omega
  have hsh:jL c i+b9 c.sl<=jL c (b9 s.p):=by
   unfold jL;have:(i+1)*b9 c.sl<=b9 s.p*b9 c.sl:=Nat.mul_le_mul_right _ hne;rw[Nat.succ_mul]at this;omega
  rw[nZ f<|.inl V1,nZ f<|.inl V1,D.seg ZH,D.seg ZH];exact K i (by unfold oz;rw[Zg];omega)
 rw[zF h8];by_cases h5:a=5
 .rw[zE h5];by_cases g:n≠0
  .rw[zE g];exact⟨ax,at',J,K⟩
  rw[zF g];by_cases m:0<=s.q
  .rw[zE m];exact⟨ax,at',J,K⟩
  rw[zF m];by_cases z:s.p≠s.L
  .rw[zE z];exact⟨ax,at',J,K⟩
  rw[zF z];have H2:=H.endd h wT Q S;have i0:=J.ini V1;have C:s.p=s.L:=by omega
  refine⟨(vT c<|jr c<|b9 s.p).take<|b8 c.X,tv (b8 c.X) at'<|vT c<|jr c<|b9 s.p,⟨?_,λr=> ?_,λr=>⟨?_, ?_⟩⟩,K.kept h (G8 h B l1) ?_⟩
  .show Has c (Ic c s.W<|seg s.W (c.off 1)<|b8 c.X) (jr c<|b9 s.p) _ _;rw[H.s];exact H2
  .exfalso;have r:s.L<0:=r;omega
  .show _=jP c (b9 s.L) (b9<|s.L-s.L);rw[show(b9<|s.L-s.L)=0 by omega,i0,C];rfl
  .show rg (lossR c s.W<|seg s.W (c.off 1)<|b8 c.X).1 0=_;rw[H.s,H.lossV h wT,C]
  show(if s.L<0 then s.p else s.L)<=if s.q<0 then s.p else s.q
  omega
 rw[zF h5];by_cases h9:a=9
 .rw[zE h9];by_cases g:n≠0
  .rw[zE g];exact⟨ax,at',J,K⟩
  rw[zF g];by_cases m:s.q<1
  .rw[zE m];exact⟨ax,at',J,K⟩
  rw[zF m];have hqp:=hi.qp V1;have⟨i1,i2⟩:=J.adj V1;unfold at3 at i1;have⟨G1,G2⟩:=qr h wT wX<|b9<|s.q-1;have hqq:((b9 (s.q-1):Nat):Int)=s.q-1:=by omega
  have⟨k1,D⟩:=K (b9<|s.q-1) (by unfold oz;rw[Zh];omega);rw[hqq]at k1 D;have⟨hl1,hl2,hl3,hl4,hl5,hl6⟩:=H.lens h wT;have⟨M,f2,N,F,A⟩:=yI h wT (t:=s.q-1) G1 G2
  have eB:(wM c s.W<|b9<|s.q-1).2.1=qu c (s.q-1) (jr c<|b9<|s.q-1) ax:=by
   unfold wM;rw[k1,D,H.x];rfl
  have⟨⟨q1,q2⟩,hR,hQ,x1,x2,t2⟩:=h.lens;have⟨p1,p2⟩:=zN h wT (t:=s.q-1) G1 G2 hl2 hl5;have H2:=H.back h (a:=qu c (s.q-1) (jr c<|b9<|s.q-1) ax) V1 V1 p2;have⟨E,b2⟩:=TW h wT wX hm hi K V1;have H3:=H2.put1 h (w:=(wM c s.W<|b9<|s.q-1).1.take<|b8 c.X) (by rw[E,G1]) (by rw[E];exact G2);have Y:=LK h (a:=qu c (s.q-1) (jr c<|b9<|s.q-1) ax) B V1 V1;refine⟨(qu c (s.q-1) (jr c<|b9<|s.q-1) ax).take<|b8 c.X,tv (b8 c.X) at'<|qu c (s.q-1) (jr c<|b9<|s.q-1) ax,⟨?_,λr=> ?_,λr=>⟨?_,i2⟩⟩,K.kept h ?_ ?_⟩
  .show Has c (put (ye c s.W (wM c s.W<|b9<|s.q-1).2.1) (c.off 1)<|(wM c s.W<|b9<|s.q-1).1.take<|b8 c.X) (jr c<|b9<|s.q-1) _ _;rw[E]at H3⊢;rw[eB];exact H3
  .exfalso;have r:s.q-1<0:=r;omega
  .show _=jP c (b9 s.L) (b9<|s.L-(s.q-1));rw[KR (c:=c) (L:=s.L) (q:=s.q) V1 V1,<-i1]
  .show fH c s.W (put (ye c s.W (wM c s.W<|b9<|s.q-1).2.1) (c.off 1)<|(wM c s.W<|b9<|s.q-1).1.take<|b8 c.X);rw[eB];exact fH.put h Y H2.wd (i:=1) V1 (by rw[E,G1];exact Nat.le_refl _)
  show(if s.q-1<0 then s.q-1 else s.q-1)<=if s.q<0 then s.p else s.q
  omega
 rw[zF h9];exact⟨ax,at',J,K⟩
end
end
end Go.V
