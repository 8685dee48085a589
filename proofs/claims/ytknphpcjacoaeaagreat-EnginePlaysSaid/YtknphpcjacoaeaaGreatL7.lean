/- A part of the proof. No condition. -/
import Derived.Test.YtknphpcjacoaeaaGreatL6
import Derived.Test.YtknphpcjacoaeaaGreatD3
import Derived.Test.YtknphpcjacoaeaaGreatL4
set_option linter.unusedVariables false
set_option linter.unusedSimpArgs false
set_option linter.unusedSectionVars false
namespace Go.V
open Go.Ab
open Option renaming some->O,none->Y
open Bool renaming true->Za,false->Zb
open Decidable renaming decide->Zc
variable {s:Dy}{b d i k:Nat}{en:Bool}{W l t:Zd}{B x:Int}{a:Int×Int}
section
structure Mc where
 L:Int
 p:Int
 q:Int
 t:Zd
def Uh (a:Int×Int)(m:Mc):Option Mc:=
 if a.1=1 then(if 1<=a.2/\a.2<=65535/\m.p+a.2<=m.L then O {m with p:=m.p+a.2}else Y)
 else if a.1=2 then(if 0<=a.2/\a.2<m.t.length/\m.t.getD a.2.toNat 0<0 then O {m with t:=m.t.set a.2.toNat m.p}else Y)
 else if a.1=3 then(if 0<=a.2/\a.2<m.t.length/\0<=m.t.getD a.2.toNat 0 then O {m with p:=m.t.getD a.2.toNat 0}else Y)
 else if a.1=4 then(if 0<=a.2/\a.2<m.t.length/\0<=m.t.getD a.2.toNat 0 then O {m with t:=m.t.set a.2.toNat (-1)}else Y)
 else if a.1=5 then(if a.2=0/\m.q= -1/\m.p=m.L then O {m with q:=m.p}else Y)
 else if a.1=6 then(if a.2=0/\m.q= -1/\m.p=m.L-1 then O {m with q:=m.p}else Y)
 else if a.1=7 then(if a.2=0/\0<m.q/\m.p=m.q-1 then O {m with q:=m.p}else Y)
 else Y
def nv (t:Zd):Int:=t.foldl max (-1)
def G7 (t:Zd)(x:Int):Nat:=t.findIdx λy=>Zc (y=x)
def Dk (t:Zd):Nat:=t.countP λy=>Zc (y<0)
def Sx (t:Zd):Nat:=t.findIdx λy=>Zc (y<0)
def DC (l s:Nat):Nat:=((List.range (l+1)).find? λr=>Zc (l<=ch (s+r) r)).getD 0
theorem UC (l:Nat){s:Nat}(g:1<=s):IsRep l s (DC l s):=by
 unfold DC;cases h:(List.range (l+1)).find? λr=>Zc (l<=ch (s+r) r)with
 |none=>
  have:=List.find?_eq_none.1 h l (List.mem_range.2 (by omega));have:=Lc g l;simp only[decide_eq_true_eq]at*;omega
 |some r=>
  obtain⟨e,f⟩:=List.find?_range_eq_some.1 h;refine⟨of_decide_eq_true e,λx j=> ?_⟩;have:=f.2 x j;simp only[Bool.not_eq_true',decide_eq_false_iff_not]at this;omega
def Uo (m:Mc):Option (Int×Int):=
 let e:=if m.q<0 then m.L else m.q
 if 0<=m.q/\e<=nv m.t then O (4,G7 m.t (nv m.t))
 else if m.q=0 then Y
 else if m.q<0/\m.p=m.L then O (5,0)
 else if m.p=e-1 then(if 0<=m.q then O (7,0)else O (6,0))
 else if nv m.t<0 then(if e<=m.p then Y else O (2,0))
 else if m.p<nv m.t∨e<=m.p then O (3,G7 m.t (nv m.t))
 else if nv m.t<m.p/\0<Dk m.t then O (2,Sx m.t)
 else if nv m.t<m.p then O (1,e-1-m.p)
 else O (1,spI (e-nv m.t) (Dk m.t+1) (DC (e-nv m.t).toNat (Dk m.t+1)))
theorem wQ (t:Zd): ∀x,x<=t.foldl max x/\(∀y∈t,y<=t.foldl max x)/\(t.foldl max x=x∨t.foldl max x∈t):=by
 induction t with
 |nil=>exact λx=>⟨Int.le_refl _,λy hy=>by(cases hy), .inl rfl⟩
 |cons z t f=>
  intro x;obtain⟨g,e,h3⟩:=f (max x z);rw[List.foldl_cons];refine⟨by omega,λy hy=> ?_, ?_⟩
  .rcases List.mem_cons.1 hy with rfl|hy
   .omega
   .exact e y hy
  .rcases h3 with h3|h3
   .rw[h3];rcases Int.le_total x z with k|k
    .exact .inr (by rw[Int.max_eq_right k];exact List.mem_cons_self ..)
    .exact .inl (Int.max_eq_left k)
   .exact .inr (List.mem_cons_of_mem _ h3)
theorem be5 (g: -1<=x)(e: ∀y∈t,y<=x)(f:x= -1∨x∈t):nv t=x:=by
 obtain⟨a,b,c⟩:=wQ t (-1);unfold nv
 have u:t.foldl max (-1)<=x:=by
  rcases c with c|c
  .omega
  .exact e _ c
 have v:x<=t.foldl max (-1):=by
  rcases f with h|h
  .omega
  .exact b _ h
 omega
theorem YH (h:0<Dk t): ∃e:Sx t<t.length,t[Sx t]<0:=by
 unfold Dk at h;obtain⟨y,g,f⟩:=List.countP_pos_iff.1 h;have e:Sx t<t.length:=List.findIdx_lt_length_of_exists ⟨y,g,f⟩;refine⟨e,of_decide_eq_true (List.findIdx_getElem (w:=e))⟩
end
section
end
section
open Nat renaming mul_div_cancel -> aB
structure IsStr (k s d:Nat):Prop where
 pw: ∃e,d=2 ^ e
 gt:k<s*d
 lo:d=1∨s*(d / 2)<=k
theorem IsStr.pos {s:Nat}(h:IsStr k s d):1<=d:=by
 obtain⟨e,rfl⟩:=h.pw;exact Nat.one_le_two_pow
theorem IsStr.eq {s g:Nat}(h:IsStr k s d)(j:IsStr k s g):d=g:=by
 have m: ∀{d g:Nat},IsStr k s d->IsStr k s g->¬d<g:=λ{d g} h j o=>by
  obtain⟨e,rfl⟩:=h.pw;obtain⟨f,rfl⟩:=j.pw;have w:e<f:=(Nat.pow_lt_pow_iff_right (by omega)).1 o;have p:2 ^ e<=2 ^ (f-1):=Nat.pow_le_pow_right (by omega) (by omega)
  have q:2 ^ f / 2=2 ^ (f-1):=by
   conv=>lhs;rw[show f=(f-1)+1 by omega,Nat.pow_succ]
   exact aB _ (by omega)
  have r:=h.gt;have u:s*2 ^ e<=s*2 ^ (f-1):=Nat.mul_le_mul_left _ p;have v:1<2 ^ f:=Nat.one_lt_two_pow (by omega);rcases j.lo with h6|h6
  .omega
  .rw[q]at h6;omega
 have:=m h j;have:=m j h;omega
def Hz (k s:Nat):Nat:=2 ^ (((List.range 17).find? λe=>Zc (k<s*2 ^ e)).getD 0)
theorem Ov {s:Nat}(o:k<65536)(p:1<=s):IsStr k s (Hz k s):=by
 unfold Hz;cases h:(List.range 17).find? λe=>Zc (k<s*2 ^ e)with
 |none=>
  have:=List.find?_eq_none.1 h 16 (List.mem_range.2 (by omega));simp only[decide_eq_true_eq]at this;omega
 |some e=>
  obtain⟨f,g⟩:=List.find?_range_eq_some.1 h;have f:=of_decide_eq_true f;refine⟨⟨e,rfl⟩,f, ?_⟩;rcases Nat.eq_zero_or_pos e with he|he
  .left;subst he;rfl
  .right;have j:=g.2 (e-1) (by omega);simp only[Bool.not_eq_true',decide_eq_false_iff_not]at j;show s*(2 ^ e / 2)<=k
   have m:2 ^ e / 2=2 ^ (e-1):=by
    conv=>lhs;rw[show e=(e-1)+1 by omega,Nat.pow_succ]
    exact aB _ (by omega)
   rw[m];omega
def aw8 (d:Nat)(t:Zd):Zd:=t.filter λx=>Zc (0<=x/\x % (d:Int)≠0)
def MH (d:Nat)(t:Zd):Option Int:=(aw8 d t).min?
def Rn (e:Bool)(m:Mc):Option (Int×Int):=
 let d:=Hz m.L.toNat m.t.length
 if m.q<0 then
  (if m.p<m.L then O (1,m.L-m.p)
  else match MH d m.t with
   |some x=>O (4,G7 m.t x)
   |none=>if m.L % (d:Int)=0/\m.L∉m.t/\(-1:Int)∈m.t then O (2,G7 m.t (-1))else if e then O (5,0)else Y)
 else if 0<=nv m.t/\m.q<=nv m.t then O (4,G7 m.t (nv m.t))
 else if m.q=0 then Y
 else if m.p=m.q-1 then O (7,0)
 else if 0<=nv m.t/\(m.p<nv m.t∨m.q<=m.p)then O (3,G7 m.t (nv m.t))
 else if m.p<m.q then O (1,m.q-1-m.p)
 else Y
theorem Qz (h:x∈t): ∃e:G7 t x<t.length,t[G7 t x]=x:=by
 have e:G7 t x<t.length:=List.findIdx_lt_length_of_exists ⟨x,h,zB rfl⟩;exact⟨e,of_decide_eq_true (List.findIdx_getElem (w:=e))⟩
theorem Fc :x∈aw8 d t↔x∈t/\0<=x/\x % (d:Int)≠0:=by
 unfold aw8;rw[List.mem_filter,decide_eq_true_eq]
theorem aw7 (h:x∈t)(e:0<=x/\x % (d:Int)≠0)(f: ∀y∈t,0<=y->y % (d:Int)≠0->x<=y):MH d t=O x:=by
 unfold MH;rw[List.min?_eq_some_iff];exact⟨Fc.2 ⟨h,e⟩,λy g=>by have:=Fc.1 g;exact f y this.1 this.2.1 this.2.2⟩
theorem aw6 (h: ∀y∈t,0<=y->y % (d:Int)=0):MH d t=Y:=by
 unfold MH
 have:aw8 d t=[]:=List.filter_eq_nil_iff.2 λx e=>by
  have:=h x e;simp only[decide_eq_true_eq];omega
 rw[this];rfl
end
section
open Go.IntKind renaming wrap -> zH, i64 -> zI, u64 -> zJ
open Int renaming tdiv -> aB, natCast_add -> bD, eq_ofNat_of_zero_le -> dD, natCast_mul -> eD
open IntKind renaming bits -> fB
open Nat renaming min_eq_left -> aD, min_eq_right -> bB, add_sub_cancel -> cB, div_le_self -> cD, mul_le_mul -> dB, le_div_iff_mul_le -> fD
theorem wUn {n:Nat}(h:n<18446744073709551616):zH zJ (n:Int)=(n:Int):=cn (by omega)
theorem Ru {n:Nat}(h:n<=9223372036854775807):zH zI (n:Int)=(n:Int):=ad (by omega)
theorem Zo {n:Nat}(h:n<=9223372036854775807:=by omega):zH zI (n:Int)=(n:Int):=Ru h
theorem Mf {a:Nat}(j:a<18446744073709551616):A0 .u64 (· &&& ·) (a:Int) 4294967295=((a % 4294967296:Nat):Int):=by
 have e:BitVec.ofInt 64 (a:Int)&&& BitVec.ofInt 64 4294967295=BitVec.ofNat 64 (a % 4294967296):=by
  apply BitVec.eq_of_toNat_eq;rw[BitVec.toNat_and,BitVec.toNat_ofInt,BitVec.toNat_ofInt,BitVec.toNat_ofNat];have f:((a:Int) % ((2 ^ 64:Nat):Int)).toNat=a:=by omega
  have g:((4294967295:Int) % ((2 ^ 64:Nat):Int)).toNat=2 ^ 32-1:=by decide
  rw[f,g,Nat.and_two_pow_sub_one_eq_mod];omega
 unfold A0;show zH zJ ((BitVec.ofInt 64 (a:Int)&&& BitVec.ofInt 64 4294967295).toNat:Int)=_;rw[e,BitVec.toNat_ofNat,Zj];omega
theorem VF (a:Nat):Int.fdiv (a:Int) (2 ^ (min (Int.toNat 32) (fB .u64)))=((a / 4294967296:Nat):Int):=by
 rw[show(2:Int) ^ (min (Int.toNat 32) (fB .u64))=4294967296 from rfl,Int.fdiv_eq_ediv_of_nonneg _ (by omega)];rfl
theorem bl2 {a:Nat}(g:a<=1099511627776)(f:b<=4194304):tc (a:Int) (b:Int)=O (0,((a*b:Nat):Int)):=by
 have j:a / 4294967296*b<=256*4194304:=dB (by omega) f;have m:a % 4294967296*b<=4294967295*4194304:=dB (by omega) f;have o:a*b<=1099511627776*4194304:=dB g f;have e: ∀{n:Nat},n<18446744073709551616->IntKind.u64.wrap (n:Int)=(n:Int):=λh=>cn (by omega)
 unfold tc;rw[VF a,VF b,Mf (a:=a) (by omega),Mf (a:=b) (by omega),show b / 4294967296=0 by omega,show b % 4294967296=b by omega];simp only[<-eD];rw[e (n:=a % 4294967296*b) (by omega),e (n:=a / 4294967296*b) (by omega),e (n:=a / 4294967296*0) (by omega),e (n:=a % 4294967296*0) (by omega),e (n:=a*b) (by omega),VF];simp only[<-bD];generalize a / 4294967296*b=p at*;generalize a % 4294967296*b=q at*;rw[e (n:=p+q / 4294967296) (by omega),VF,Mf (by omega)];simp only[<-bD,Nat.mul_zero,Nat.add_zero,Nat.zero_add];rw[e (n:=(p+q / 4294967296) % 4294967296) (by omega),VF,e (n:=(p+q / 4294967296) / 4294967296) (by omega)];simp only[<-bD];rw[e (by omega),show(p+q / 4294967296) / 4294967296+(p+q / 4294967296) % 4294967296 / 4294967296=0 by omega];rfl
theorem bj1 {a:Nat}(e:a<18446744073709551616)(f:1<=b):tb 0 (a:Int) (b:Int)=O (((a / b:Nat):Int),((a % b:Nat):Int)):=by
 unfold tb;have:=cD a b;rw[Ze,zD,Ze,zD,zB rfl,zC,Zf,bw,bw,show aB (a:Int) (b:Int)=((a / b:Nat):Int)from rfl,show Int.tmod (a:Int) (b:Int)=((a % b:Nat):Int)from rfl,wUn (Nat.lt_of_le_of_lt this e)]
theorem eo {a:Nat}(e:a<=1099511627776)(f:b<=4194304)(hi:1<=i/\i<=4194304):xc (a:Int) (b:Int) (i:Int)=O ((min qK (a*b / i):Nat):Int):=by
 have g:a*b<=1099511627776*4194304:=dB e f;have j:a*b / i<=a*b:=cD _ _;unfold xc qK;rw[cn (n:=(a:Int)) (by omega),cn (n:=(b:Int)) (by omega),cn (n:=(i:Int)) (by omega),bl2 e f];simp only[zG];rw[Ze,zD,bj1 (by omega) hi.1];simp only[zG];generalize a*b / i=q at*;by_cases h:1099511627776<q
 .rw[Zf,zC,aD (by omega)];rfl
 .rw[Ze,zD,bB (by omega),Zi]
theorem aZ9 (hi:1<=i)(e:ch (d+(i-1)) (i-1)<qK):min qK (min qK (ch (d+(i-1)) (i-1))*(d+i) / i)=min qK (ch (d+i) i):=by
 rw[bB (Nat.le_of_lt e),YY hi]
theorem XB {n:Nat}(u:2*k<=n)(v:n<=2097152): ∀f:Int×Int->Option ((Int×Int)⊕Int),(∀i c:Nat,1<=i->i<=k->c<qK->c<=qK->f ((i:Int),(c:Int))=O (.inl (((i+1:Nat):Int),((min qK (c*(n-k+i) / i):Nat):Int))))->(∀i c:Nat,(k<i∨qK<=c)->i<=k+1->c<=qK->f ((i:Int),(c:Int))=O (.inr (c:Int)))->am f cj (1,1)=O ((min qK (ch n k):Nat):Int):=by
 intro f q r;refine Oo (λs=> ∃i:Nat,s=((i:Int),((min qK (ch (n-k+(i-1)) (i-1)):Nat):Int))/\1<=i/\i<=k+1) (λs=>k+1-s.1.toNat) ⟨1, ?_,by omega,by omega⟩ (by simp;omega) ?_
 .rw[show 1-1=0 from rfl,Po];rfl
 .rintro s ⟨i,rfl,g,o⟩;by_cases hi:i<=k/\ch (n-k+(i-1)) (i-1)<qK
  .left;refine⟨_,q i _ g hi.1 (by omega) (Nat.min_le_left _ _),⟨i+1, ?_,by omega,by omega⟩,by simp only;omega⟩;rw[aZ9 g hi.2];rfl
  .right;rw[r i _ (by omega) o (Nat.min_le_left _ _)]
   congr 2
   have e:n-k+k=n:=by omega
   by_cases j:i=k+1
   .subst j;rw[cB,e]
   .have m:qK<=ch (n-k+(i-1)) (i-1):=by omega
    have p:=Xy (n-k) (show i-1<=k by omega);rw[e]at p;rw[aD m,aD (by omega)]
theorem YX (n k:Nat)(e:k<=n):ch n (min k (n-k))=ch n k:=by
 rcases Nat.le_total k (n-k)with h|h
 .rw[aD h]
 .rw[bB h];exact Ld n _ _ (by omega)
theorem EE {n k:Int}(u:n<=2097152):pi n k=O (Xx n k):=by
 unfold pi Xx;by_cases f:n<0
 .rw[zB f,zE (.inl f)];rfl
 by_cases j:k<0
 .rw[zA f,zB j,zE (.inr (.inl j))];rfl
 by_cases m:n<k
 .rw[zA f,zA j,zB m,zE (.inr (.inr m))];rfl
 rw[zA f,zA j,zA m,Zh];simp only[zD];obtain⟨n,rfl⟩:=dD (show 0<=n by omega);obtain⟨k,rfl⟩:=dD (show 0<=k by omega)
 have q:min (k:Int) (zH zI ((n:Int)-(k:Int)))=((min k (n-k):Nat):Int):=by
  rw[Zi];omega
 have o:=XB (n:=n) (k:=min k (n-k)) (by omega) (by omega) (rl (n:Int) (k:Int)) (λi c r e p g=>by
  unfold rl;unfold qK at p g;simp only[q];rw[Zf,zC,zB (show(c:Int)<1099511627776 by omega),zC,ad (n:=(n:Int)-((min k (n-k):Nat):Int)) (by omega),ad (n:=(n:Int)-((min k (n-k):Nat):Int)+(i:Int)) (by omega),show(n:Int)-((min k (n-k):Nat):Int)+(i:Int)=((n-min k (n-k)+i:Nat):Int)by omega,eo g (by omega) (by omega)];simp only[zG];rw[Zi]
  rfl) (λi c h hi p=>by
  unfold rl;unfold qK at h;simp only[q];rcases h with h|h
  .rw[Ze,zD]
  .by_cases e:(i:Int)<=((min k (n-k):Nat):Int)
   .rw[zB e,zC,Ze,zD]
   .rw[zA e,zD])
 rw[o,YX n k (by omega)];rfl
theorem az3 {x:Nat}:BA (x:Int)=O ((min qK x:Nat):Int):=by
 unfold BA qK;rw[Ze,zD];by_cases h:1099511627776<x
 .rw[Zf,zC,aD (by omega)];rfl
 .rw[Ze,zD,bB (by omega)]
theorem Ky {n k:Int}(Z:n<=2097152):qD n k=O (Xx n k):=by
 unfold qD Xx;by_cases p:n<0
 .rw[zB p,zE (.inl p)];rfl
 by_cases v:k<0
 .rw[zA p,zB v,zE (.inr (.inl v))];rfl
 by_cases z:n<k
 .rw[zA p,zA v,zB z,zE (.inr (.inr z))];rfl
 rw[zA p,zA v,zA z,Zh];simp only[zD];obtain⟨n,rfl⟩:=dD (show 0<=n by omega);obtain⟨k,rfl⟩:=dD (show 0<=k by omega)
 have Q:(cond (Zc (zH zI ((n:Int)-(k:Int))<(k:Int))) (O (zH zI ((n:Int)-(k:Int)))) (O (k:Int)):Option Int)=O ((min k (n-k):Nat):Int):=by
  rw[Zi,ag];split
  .congr 1;omega
  .congr 1;omega
 rw[Q];simp only[zG];have S:2*min k (n-k)<=n:=by omega
 have u:=YX n k (by omega);generalize min k (n-k)=g at*
 obtain⟨r,e,h⟩:=qR (f:=xo (n:Int) (g:Int)) (a:=(1,1)) (λs=> ∃i:Nat,s=((i:Int),((ch (n-g+(i-1)) (i-1):Nat):Int))/\1<=i/\i<=g+1/\ch (n-g+(i-1)) (i-1)<qK) (λs=>g+1-s.1.toNat) (λr=>(bc r (λ_=>O (1099511627776:Int)) λw=>O w)=O ((min qK (ch n g):Nat):Int)) ⟨1,by rw[show 1-1=0 from rfl,Po];rfl,by omega,by omega,by rw[show 1-1=0 from rfl,Po];unfold qK;omega⟩ (by simp;omega) (by
  rintro s ⟨i,rfl,p,v,M⟩
  have o:i<=g->ch (n-g+i) i<=ch n g:=λhi=>by
   have:=Xy (n-g) hi;rw[show n-g+g=n by omega]at this;exact this
  have q:=YY (d:=n-g) p;have U:1<=ch (n-g+(i-1)) (i-1):=TJ (by omega);generalize y:ch (n-g+(i-1)) (i-1)=c at*;unfold qK at M;unfold xo;simp only;by_cases hi:i<=g
  .have o:=o hi;rw[zB (show(i:Int)<=(g:Int)by omega),zC,zB (show(i:Int)≠0 by omega),zB (show(c:Int)≠0 by omega),bw,bw]
   have F:zH zI (zH zI ((n:Int)-(g:Int))+(i:Int))=((n-g+i:Nat):Int):=by
    rw[ad (n:=(n:Int)-(g:Int)) (by omega),Zi];omega
   rw[F];have D:n-g+i<=4194304:=by omega
   obtain⟨m,C⟩: ∃m,m=n-g+i:=⟨_,rfl⟩
   rw[<-C]at D o q⊢;have V:m / i<=m:=cD _ _;have X:1099511627776 / c<=1099511627776:=cD _ _
   have H:zH zI (aB (m:Int) (i:Int))=((m / i:Nat):Int):=by
    rw[show aB (m:Int) (i:Int)=((m / i:Nat):Int)from rfl,Zo]
   have I:zH zI (aB 1099511627776 (c:Int))=((1099511627776 / c:Nat):Int):=by
    rw[show aB 1099511627776 (c:Int)=((1099511627776 / c:Nat):Int)from rfl,Zo]
   have j:=ag1 c m i;rw[H,I];by_cases hw:1099511627776 / c<m / i
   .rw[zB (show((1099511627776 / c:Nat):Int)<((m / i:Nat):Int)by omega),zC];refine .inr ⟨_,rfl, ?_⟩;have: ¬m / i*c<=1099511627776:=λh=>by have:=(fD (by omega)).2 h;omega
    rw[Nat.mul_comm]at this;have A:c*(m / i)<=ch m i:=by rw[<-q,<-j];exact Nat.le_add_right _ _
    have N:1099511627776<ch n g:=Nat.lt_of_lt_of_le (Nat.lt_of_not_le this) (Nat.le_trans A o);rw[ej,aD (by unfold qK;omega)];rfl
   .rw[zA (show¬((1099511627776 / c:Nat):Int)<((m / i:Nat):Int)by omega),zD,bw,bw];have T:m / i*c<=1099511627776:=(fD (by omega)).1 (by omega);rw[Nat.mul_comm]at T;have r1:m % i<i:=Nat.mod_lt _ (by omega);have p2:c*(m % i)<=1099511627776*2097152:=dB (by omega) (by omega)
    have J:zH zI ((c:Int)*((m / i:Nat):Int))=((c*(m / i):Nat):Int):=by
     rw[<-eD,Zo]
    have K:zH zI ((c:Int)*(Int.tmod (m:Int) (i:Int)))=((c*(m % i):Nat):Int):=by
     rw[show Int.tmod (m:Int) (i:Int)=((m % i:Nat):Int)from rfl,<-eD,Zo]
    have q1:c*(m % i) / i<=c*(m % i):=cD _ _
    have L:zH zI (aB ((c*(m % i):Nat):Int) (i:Int))=((c*(m % i) / i:Nat):Int):=by
     rw[show aB ((c*(m % i):Nat):Int) (i:Int)=((c*(m % i) / i:Nat):Int)from rfl,Zo]
    rw[J,K,L,<-bD,Zo,j,q,az3];simp only[zG];by_cases E:qK<=ch m i
    .rw[aD E,show Zc ((qK:Int)=1099511627776)=Za from rfl,zC];refine .inr ⟨_,rfl, ?_⟩;rw[ej,aD (by omega)];rfl
    .unfold qK at E;rw[zA (by unfold qK;omega),zD];refine .inl ⟨_,rfl,⟨i+1, ?_,by omega,by omega, ?_⟩, ?_⟩
     .rw[Zi,cB];rw[bB (by unfold qK;omega),C];rfl
     .rw[cB,<-C];unfold qK;omega
     .rw[Zi];show g+1-((i:Int)+1).toNat<g+1-(i:Int).toNat;omega
  .rw[zA (show¬(i:Int)<=(g:Int)by omega),zD];refine .inr ⟨_,rfl, ?_⟩;rw[bg];have:i=g+1:=by omega
   subst this;rw[cB,show n-g+g=n by omega]at y
   rw[y,bB (by unfold qK;omega)])
 rw[e];simp only[zG];exact h.trans (by rw[u];rfl)
theorem Ww {r s:Nat}(f:1<=s/\s<=1048576)(e:r<=65536):vJ (r:Int) (s:Int)=O (((min qK (ch (s+r) r):Nat):Int),0):=by
 unfold vJ;rw[Ze,zD,Ze,zD,Ze,zD,Ze,zD,Zi,Ky (by omega),show(s:Int)+(r:Int)=((s+r:Nat):Int)by omega,Og (by omega)];rfl
theorem aJ5 {r s:Nat}(f:1<=s/\s<=1048576)(e:r<=65536):xG (r:Int) (s:Int)=O ((min qK (ch (s+r) r):Nat):Int):=by
 unfold xG;rw[Ze,zD,Zi,EE (by omega),show(s:Int)+(r:Int)=((s+r:Nat):Int)by omega,Og (by omega),Ld (s+r) s r rfl];rfl
theorem az2 {l s:Nat}(u:l<65536)(m:1<=s/\s<=1048576): ∃r:Nat,BL (l:Int) (s:Int)=O ((r:Int),0)/\IsRep l s r:=by
 unfold BL;rw[Ze,zD,Ze,zD,Ze,zD,Ze,zD];by_cases o:s=1
 .subst o;refine⟨l-1, ?_,aM5 l⟩;rw[Zf,zC,Zi,show max ((l:Int)-1) 0=((l-1:Nat):Int)by omega]
 rw[Ze,zD]
 obtain⟨c,e,r,rfl,g⟩:=qR (f:=AS (l:Int) (s:Int)) (a:=0) (λa=> ∃r:Nat,a=(r:Int)/\(∀x,x<r->ch (s+x) x<l)) (λr=>l+1-r.toNat) (λc=> ∃r:Nat,c=(r:Int)/\IsRep l s r) ⟨0,rfl,λx q=>by omega⟩ (by omega) (by
  rintro a ⟨r,rfl,g⟩
  have p:r<=l:=by
   rcases Nat.lt_or_ge l r with k|k
   .have:=g _ k;have:=Lc m.1 l;omega
   .exact k
  unfold AS;rw[Ww m (by omega)];simp only[zG];by_cases h:l<=ch (s+r) r
  .rw[zB (by unfold qK;omega),zC];exact .inr ⟨_,rfl,r,rfl,h,g⟩
  .rw[zA (by unfold qK;omega),zD,Zi];refine .inl ⟨_,rfl,⟨r+1,rfl,λx q=> ?_⟩,by omega⟩;by_cases j:x=r
   .subst j;omega
   .exact g x (by omega))
 rw[e];exact⟨r,rfl,g⟩
theorem ak0 {l s:Nat}(y:l<65536)(o:1<=s/\s<=1048576): ∃r:Nat,DN (l:Int) (s:Int)=O ((r:Int),0)/\IsRep l s r:=by
 unfold DN Fv;rw[Ze,zD,Ze,zD,Zf,zC,Zf];simp only[zG,Bool.not_true,zD];unfold Fu
 obtain⟨c,e,r,rfl,u⟩:=qR (f:=AU (l:Int) (s:Int)) (a:=(0,(l:Int))) (λa=> ∃g hi:Nat,a=((g:Int),(hi:Int))/\g<=hi/\hi<=l/\l<=ch (s+hi) hi/\(g=0∨ch (s+(g-1)) (g-1)<l)) (λa=>(a.2-a.1).toNat) (λc=> ∃r:Nat,c=(r:Int)/\IsRep l s r) ⟨0,l,rfl,by omega,by omega,by have:=Lc o.1 l;omega, .inl rfl⟩ (by simp;omega) (by
  rintro a ⟨g,hi,rfl,v,w,j,m⟩;unfold AU Ee;simp only;by_cases h:g<hi
  .have p:zH zI (aB (zH zI ((g:Int)+(hi:Int))) 2)=(((g+hi) / 2:Nat):Int):=by
    rw[ad (n:=(g:Int)+(hi:Int)) (by omega),<-bD,show aB ((g+hi:Nat):Int) 2=(((g+hi) / 2:Nat):Int)from rfl,Zo]
   rw[Zf,zC,p,aJ5 o (by omega)];simp only[zG];by_cases q:l<=ch (s+(g+hi) / 2) ((g+hi) / 2)
   .rw[zB (by unfold qK;omega),zC];exact .inl ⟨_,rfl,⟨g,(g+hi) / 2,rfl,by omega,by omega,q,m⟩,by simp only;omega⟩
   .rw[zA (by unfold qK;omega),zD,Zi];exact .inl ⟨_,rfl,⟨(g+hi) / 2+1,hi,rfl,by omega,by omega,j, .inr (by rw[cB];omega)⟩,by simp only;omega⟩
  .rw[Ze,zD];have:g=hi:=by omega
   subst this
   exact .inr ⟨_,rfl,g,rfl,bc9 j m⟩)
 rw[e];exact⟨r,rfl,u⟩
theorem ah3 (a b:Int):vN [1,a,b]=O (max 1 (max a b)):=by
 have e:vN [1,a,b]=O (max (max (max 1 1) a) b):=rfl;rw[e]
 congr 1
 omega
theorem WQ {n c:Nat}(m:2<=n/\n<65536)(e:1<=c/\c<=1048576):xF (n:Int) (c:Int)=O (spI n c (DC n c),0):=by
 obtain⟨r,g,j⟩:=ak0 (l:=n) (s:=c) m.2 e;have f:=UC n e.1;have:r=DC n c:=j.eq f;subst this;have w:=f.le e.1;have v:=aq8 ((c:Int)+(DC n c:Int)-1) ((c:Int)-1);have o:zH zI ((c:Int)+(DC n c:Int))=(c:Int)+(DC n c:Int):=ad (by omega);have p:zH zI ((c:Int)+(DC n c:Int)-2)=(c:Int)+(DC n c:Int)-2:=ad (by omega);have q:zH zI ((c:Int)+(DC n c:Int)-1)=(c:Int)+(DC n c:Int)-1:=ad (by omega);have u:zH zI ((c:Int)-1)=(c:Int)-1:=ad (by omega);unfold xF;rw[Ze,zD,g];simp only[zG];rw[zA (by simp),zD,o,p,q,u,EE (by omega),EE (by omega)];simp only[zG];rw[Zi,ah3];rfl
theorem YA {n c:Nat}(g:2<=n/\n<65536)(e:1<=c/\c<=1048576):xF (n:Int) (c:Int)=O (spI n c (DC n c),0)/\zN (n:Int) (c:Int)=O (spI n c (DC n c),0):=by
 refine⟨WQ g e, ?_⟩;obtain⟨o,j,m⟩:=az2 (l:=n) (s:=c) g.2 e;have f:=UC n e.1;have:o=DC n c:=m.eq f;subst this;have w:=f.le e.1;have v:=aq8 ((c:Int)+(DC n c:Int)-1) ((c:Int)-1);have p:zH zI ((c:Int)+(DC n c:Int))=(c:Int)+(DC n c:Int):=ad (by omega);have q:zH zI ((c:Int)+(DC n c:Int)-2)=(c:Int)+(DC n c:Int)-2:=ad (by omega);have r:zH zI ((c:Int)+(DC n c:Int)-1)=(c:Int)+(DC n c:Int)-1:=ad (by omega);have u:zH zI ((c:Int)-1)=(c:Int)-1:=ad (by omega);unfold zN;rw[Ze,zD,j];simp only[zG];rw[zA (by simp),zD,p,q,r,u,Ky (by omega),Ky (by omega)];simp only[zG];rw[Zi];rfl
end
section
open List renaming findIdx_append -> aB, findIdx_eq_length_of_false -> aD, findIdx_singleton -> bB
set_option maxRecDepth 100000
theorem aR4 (l:Zd)(x:Int):nv (l++[x])=max (nv l) x:=by
 unfold nv;rw[List.foldl_append];rfl
theorem UN (l:Zd): -1<=nv l:=(wQ l (-1)).1
theorem be6 (l:Zd){y:Int}(h:y∈l):y<=nv l:=(wQ l (-1)).2.1 _ h
theorem yx (h:0<=nv l):nv l∈l:=by
 rcases(wQ l (-1)).2.2 with k|k
 .unfold nv at*;omega
 .exact k
theorem aN3 (h:x∉l):G7 (l++[x]) x=l.length:=by
 unfold G7;have g:l.findIdx (λy=>Zc (y=x))=l.length:=aD λy f=>zA λe=>h (e▸f)
 rw[aB,Zh,bB,zB rfl];simp
theorem aN4 {y:Int}(h:y∈l):G7 (l++[x]) y=G7 l y:=by
 unfold G7;have:=(Qz h).1;unfold G7 at this;rw[aB,zE this]
theorem Y2 (l:Zd)(x:Int):Dk (l++[x])=Dk l+(if x<0 then 1 else 0):=by
 unfold Dk;rw[List.countP_append,List.countP_singleton];by_cases h:x<0
 .rw[zB h,zE rfl,zE h]
 .rw[zA h,zF (by simp),zF h]
theorem Ua (l:Zd):Dk l<=l.length:=List.countP_le_length
theorem bj8 (h:Dk l=0): ∀y∈l,0<=y:=λy e=>by
 have:=List.countP_eq_zero.1 h y e;simp only[decide_eq_true_eq]at this;omega
theorem aR6 (h:Dk l=0)(e:x<0):Sx (l++[x])=l.length:=by
 unfold Sx;have g:l.findIdx (λy=>Zc (y<0))=l.length:=aD λy f=>zA (by have:=bj8 h y f;omega)
 rw[aB,Zh,bB,zB e];simp
theorem US (h:0<Dk l):Sx (l++[x])=Sx l:=by
 unfold Sx;have:=(YH h).1;unfold Sx at this;rw[aB,zE this]
def W0 (t:Zd):Int:=nv t
def W4 (t:Zd):Int:=if nv t<0 then 0 else(G7 t (nv t):Int)
def W3 (t:Zd):Int:=(Dk t:Int)
def aB7 (t:Zd):Int:=if Dk t=0 then-1 else(Sx t:Int)
theorem aJ6 {L p q:Int}(C:t.length<1000000000):xH L p q t=O (p,q,t,(if q<0 then L else q),W0 t,W4 t,W3 t,aB7 t):=by
 unfold xH
 have y:((cond (Zc (q<0)) (O ((p,q,t,p,q,t,L))) (O ((p,q,t,p,q,t,q)))):Option (Int×Int×(Zd)×Int×Int×(Zd)×Int))=O (p,q,t,p,q,t,(if q<0 then L else q)):=by
  rw[ag];split<;>rfl
 rw[y];simp only[zG];generalize (if q<0 then L else q)=e
 have m:=cx (f:=pF (p,q,t,p,q,t,e)) (n:=t.length) (λi=>(p,q,t,p,q,t,e,W0 (t.take i),W4 (t.take i),W3 (t.take i),aB7 (t.take i))) (c:=(p,q,t,p,q,t,e,W0 t,W4 t,W3 t,aB7 t)) (by omega)
  (λi hi=>by
   have g:(t.take i).length=i:=by rw[List.length_take];omega
   have z:=Ua (t.take i);have A:=UN (t.take i);simp only[pF];rw[Zf,zC,bh hi,List.take_succ_eq_append_getElem hi];simp only[zG];generalize t[i]=x;generalize D:t.take i=u at*;rw[ad (n:=(i:Int)+1) (by omega)];unfold W0 W4 W3 aB7;rw[ad (n:=(Dk u:Int)+1) (by omega),aR4,Y2];by_cases w:nv u<x
   .rw[zB w,zC,Int.max_eq_right (by omega),zF (show¬x<0 by omega),zF (show¬x<0 by omega),aN3 (λh=>by have:=be6 u h;omega),g];simp only[Nat.add_zero]
    have:(if Dk u=0 then(-1:Int)else(Sx (u++[x]):Int))=if Dk u=0 then(-1:Int)else(Sx u:Int):=by
     split
     .rfl
     .rw[US (by omega)]
    rw[this];rfl
   .rw[zA w,zD,Int.max_eq_left (by omega)]
    have v:(if nv u<0 then(0:Int)else(G7 (u++[x]) (nv u):Int))=if nv u<0 then(0:Int)else(G7 u (nv u):Int):=by
     split
     .rfl
     .rw[aN4 (yx (by omega))]
    rw[v];by_cases j:x<0
    .rw[zB j,zC,zE j,zF (show¬Dk u+1=0 by omega)];by_cases r:Dk u=0
     .rw[zE r,Zf,zC,aR6 r j,g];rfl
     .rw[zF r,Ze,zD,US (by omega)];rfl
    .rw[zA j,zD,zF j];simp only[Nat.add_zero]
     have:(if Dk u=0 then(-1:Int)else(Sx (u++[x]):Int))=if Dk u=0 then(-1:Int)else(Sx u:Int):=by
      split
      .rfl
      .rw[US (by omega)]
     rw[this]
     rfl)
  (by
   simp only[pF]
   rw[zA (by simp),zD,List.take_length])
 rw[List.take_zero]at m;have o:am (pF (p,q,t,p,q,t,e)) cj (0,p,q,t,p,q,t,e,-1,0,0,-1)=_:=m;rw[o];rfl
theorem W5 (h: ¬nv t<0):W4 t=(G7 t (nv t):Int):=zF h
theorem aR7 (h: ¬Dk t=0):aB7 t=(Sx t:Int):=zF h
def ap3 :Option (Int×Int)->Int×Int×Bool
 |none=>(0,0,Zb)
 |some a=>(a.1,a.2,Za)
section
variable {c:Cx}
theorem aV2 (h:c.Ok)(f:c.mode≠3)(hi:Inv c s):de c.fixed c.tp c.sl c.ns c.mode c.R c.Q c.len c.words s.L s.p s.q s.c0 s.c1 s.c2 s.c3 s.z c.X c.T c.l c.k c.P c.tk (c.off 8:Int) c.ns (c.X.length:Int) s.lv s.pk c.words s.W=O (s.p,s.q,mN c s.W):=by
 unfold de;rw[LV h f hi.w λk e=>by have:=hi.tag k e;have:=hi.L;omega];rfl
def B4 (c:Cx)(s:Dy):Mc:=⟨s.L,s.p,s.q,mN c s.W⟩
theorem X2 (h:c.Ok)(D:c.mode≠3)(hn:1<=c.ns)(hi:Inv c s)(g:Int)(en H:Bool):qx g en H c.fixed c.tp c.sl c.ns c.mode c.R c.Q c.len c.words s.L s.p s.q s.c0 s.c1 s.c2 s.c3 s.z c.X c.T c.l c.k c.P c.tk (c.off 8:Int) c.ns (c.X.length:Int) s.lv s.pk c.words s.W=O (ap3 (Uo (B4 c s))):=by
 have K:=h.ns;have I:=hi.L;have M:=hi.p;have F:=hi.q;have C:(mN c s.W).length=c.ns.toNat:=mz;have m:=Df (c:=c) (W:=s.W) hi.tag;have E:=(tn h D (k:=0) (by omega)).2.2;unfold qx gk dw mR;simp only[zG];rw[aV2 h D hi];simp only[zG];unfold Ef;rw[Gs I M F (by omega) m];simp only[zG,bg];rw[Zf,Bool.not_true,zD,aJ6 (by omega)];simp only[zG,pZ,nB,nr,yW,rL,rM,rN,rO,rP,rQ,rR,rS,my,uP,tF,tG];unfold Uo B4 W0 W3;simp only;have hg:=UN (mN c s.W)
 have ht:nv (mN c s.W)<=s.L:=by
  rcases(wQ (mN c s.W) (-1)).2.2 with k|k
  .unfold nv;omega
  .exact(m _ k).2
 have hf:=Ua (mN c s.W);have he:0<=(if s.q<0 then s.L else s.q)/\(if s.q<0 then s.L else s.q)<=s.L:=by split<;>omega
 generalize (if s.q<0 then s.L else s.q)=e at*;have N:=F;have S: ∀x,¬nv (mN c s.W)<s.p->x=nv (mN c s.W)->True:=λ_ _ _=>trivial
 generalize U:mN c s.W=t at*;rw[ad (n:=e-1) (by omega),ad (n:=e-1-s.p) (by omega),ad (n:=e-nv t) (by omega),ad (n:=(Dk t:Int)+1) (by omega)];by_cases o:0<=s.q/\e<=nv t
 .rw[zE o,zB o.1,zC,zB o.2];simp only[zG,zC];rw[W5 (by omega)];rfl
 rw[zF o]
 have V:(cond (Zc (0<=s.q)) (O (Zc (e<=nv t))) (O Zb):Option Bool)=O Zb:=by
  by_cases k:0<=s.q
  .rw[zB k,zC,zA (λA=>o ⟨k,A⟩)]
  .rw[zA k,zD]
 rw[V];simp only[zG,zD];by_cases r:s.q=0
 .rw[zE r,zB r,zC];rfl
 rw[zF r,zA r,zD]
 have Z:(cond (!Zc (0<=s.q)) (O (Zc (s.p=s.L))) (O Zb):Option Bool)=O (Zc (s.q<0/\s.p=s.L)):=by
  by_cases k:0<=s.q
  .rw[zB k,Bool.not_true,zD,Ze]
  .rw[zA k,Bool.not_false,zC]
   congr 1
   exact decide_eq_decide.2 (by omega)
 rw[Z];simp only[zG];by_cases u:s.q<0/\s.p=s.L
 .rw[zE u,zB u,zC];rfl
 rw[zF u,zA u,zD];by_cases v:s.p=e-1
 .rw[zE v,zB v,zC];by_cases f:0<=s.q
  .rw[zE f,zB f];rfl
  .rw[zF f,zA f];rfl
 rw[zF v,zA v,zD];by_cases f:nv t<0
 .rw[zE f,zB f,zC];by_cases j:e<=s.p
  .rw[zE j,zB j];rfl
  .rw[zF j,zA j];rfl
 rw[zF f,zA f,zD]
 have r6:(cond (Zc (s.p<nv t)) (O Za) (O (Zc (e<=s.p))):Option Bool)=O (Zc (s.p<nv t∨e<=s.p)):=by
  by_cases k:s.p<nv t
  .rw[zB k,zC,zB (.inl k)]
  .rw[zA k,zD]
   congr 1
   exact decide_eq_decide.2 (by omega)
 rw[r6];simp only[zG];by_cases j:s.p<nv t∨e<=s.p
 .rw[zE j,zB j,zC,W5 f];rfl
 rw[zF j,zA j,zD]
 have r7:(cond (Zc (nv t<s.p)) (O (Zc (0<(Dk t:Int)))) (O Zb):Option Bool)=O (Zc (nv t<s.p/\0<Dk t)):=by
  by_cases k:nv t<s.p
  .rw[zB k,zC]
   congr 1
   exact decide_eq_decide.2 (by omega)
  .rw[zA k,zD,zA (λA=>k A.1)]
 rw[r7];simp only[zG];by_cases w:nv t<s.p/\0<Dk t
 .rw[zE w,zB w,zC,aR7 (by omega)];rfl
 rw[zF w,zA w,zD];by_cases y:nv t<s.p
 .rw[zE y,zB y,zC];rfl
 rw[zF y,zA y,zD];have J:e-nv t=(((e-nv t).toNat:Nat):Int):=by omega
 have:=WQ (n:=(e-nv t).toNat) (c:=Dk t+1) (by omega) (by omega);rw[<-J,show((Dk t+1:Nat):Int)=(Dk t:Int)+1 by omega]at this;rw[this];rfl
end
end
section
open Int renaming lt_irrefl -> bB, tmod_eq_emod_of_nonneg -> cB
open List renaming getElem_of_mem -> aB, getElem_mem -> aD
open Nat renaming pow_succ -> bD, eq_zero_or_pos -> cD
def Bst (P:Int->Prop)(R:Int->Int->Prop)(t:Zd)(i:Nat)(k:Int):Prop:=
 (k= -1/\∀j (h:j<t.length),j<i->¬P t[j])∨∃j,∃h:j<t.length,k=(j:Int)/\j<i/\P t[j]/\(∀e (f:e<t.length),e<i->P t[e]->¬R t[e] t[j])/\∀e (f:e<t.length),e<j->P t[e]->R t[j] t[e]
theorem I2 {P:Int->Prop}{R:Int->Int->Prop}[DecidablePred P][DecidableRel R]{f:Int×Int->Option ((Int×Int)⊕Int)}{pb:Int->Option Bool}{lb:Int->Int->Option Bool}(M:t.length<1000000000)
  (J: ∀s,f s=cond (Zc (s.1<(((List.length t):Nat):Int))) ((rd t s.1).bind λx=>(pb x).bind λr=>cond r (cond (Zc (s.2<0)) (O (.inl (IntKind.i64.wrap (s.1+1),s.1))) ((rd t s.2).bind λy=>(lb x y).bind λr'=>cond r' (O (.inl (IntKind.i64.wrap (s.1+1),s.1))) (O (.inl (IntKind.i64.wrap (s.1+1),s.2))))) (O (.inl (IntKind.i64.wrap (s.1+1),s.2)))) (O (.inr s.2)))
  (K: ∀x,pb x=O (Zc (P x))) (L: ∀x y,lb x y=O (Zc (R x y))) (H: ∀a,¬R a a) (I: ∀a b e,R a b->¬R e b->R a e) (as: ∀a b,R a b->¬R b a): ∃k,am f cj (0,-1)=O k/\Bst P R t t.length k:=by
 refine qR (λs=> ∃(i:Nat) (k:Int),s=((i:Int),k)/\i<=t.length/\Bst P R t i k) (λs=>t.length-s.1.toNat) _ ⟨0,-1,rfl,by omega, .inl ⟨rfl,λj h C=>by omega⟩⟩ (by simp;omega) ?_;rintro s ⟨i,k,rfl,hi,E⟩;rw[J];simp only;by_cases h:i<t.length
 .left;rw[Zf,zC,bh h];simp only[zG];rw[K,Zi,show(i:Int)+1=((i+1:Nat):Int)by omega];simp only[zG];by_cases z:P t[i]
  .rw[zB z,zC];rcases E with⟨rfl,D⟩|⟨j,C,rfl,F,w,g,q⟩
   .rw[Zf,zC];refine⟨_,rfl,⟨i+1,i,rfl,by omega, .inr ⟨i,h,rfl,by omega,z,λm o v p=> ?_,λm o v p=>absurd p (D m o v)⟩⟩,by simp only;omega⟩;by_cases u:m=i
    .subst u;exact H _
    .exact absurd p (D m o (by omega))
   .rw[Ze,zD,bh C];simp only[zG];rw[L];simp only[zG];by_cases A:R t[i] t[j]
    .rw[zB A,zC];refine⟨_,rfl,⟨i+1,i,rfl,by omega, .inr ⟨i,h,rfl,by omega,z,λm o v p=> ?_,λm o v p=>I _ _ _ A (g m o v p)⟩⟩,by simp only;omega⟩;by_cases u:m=i
     .subst u;exact H _
     .exact as _ _ (I _ _ _ A (g m o (by omega) p))
    .rw[zA A,zD];refine⟨_,rfl,⟨i+1,j,rfl,by omega, .inr ⟨j,C,rfl,by omega,w,λm o v p=> ?_,q⟩⟩,by simp only;omega⟩;by_cases u:m=i
     .subst u;exact A
     .exact g m o (by omega) p
  .rw[zA z,zD];refine⟨_,rfl,⟨i+1,k,rfl,by omega, ?_⟩,by simp only;omega⟩;rcases E with⟨rfl,D⟩|⟨j,C,rfl,F,w,g,q⟩
   .refine .inl ⟨rfl,λj o v=> ?_⟩;by_cases u:j=i
    .subst u;exact z
    .exact D j o (by omega)
   .refine .inr ⟨j,C,rfl,by omega,w,λm o v p=> ?_,q⟩;by_cases u:m=i
    .subst u;exact absurd p z
    .exact g m o (by omega) p
 .right;have:i=t.length:=by omega
  subst this;rw[Ze,zD];exact⟨_,rfl,E⟩
theorem MV {j:Nat}(g:j<t.length)(h: ∀e (m:e<t.length),e<j->t[e]≠t[j]):G7 t t[j]=j:=by
 unfold G7;rw[List.findIdx_eq g];exact⟨zB rfl,λe f=>zA (h e (by omega) f)⟩
theorem ap9 (D:1<=d)(z:t.length<1000000000):zQ t (d:Int)=O (match MH d t with|none=> -1|some x=>(G7 t x:Int)):=by
 unfold zQ
 obtain⟨k,e,h⟩:=I2 (P:=λx=>0<=x/\x % (d:Int)≠0) (R:=λx y=>x<y) (t:=t) (f:=EP t (d:Int)) (pb:=λx=>uu x (d:Int)) (lb:=qa) z (λs=>rfl) (λx=>by
  unfold uu;by_cases h:0<=x
  .rw[zB h,zC,zB (show(d:Int)≠0 by omega),bw,cB h]
   congr 1
   exact decide_eq_decide.2 ⟨λk=>⟨h,k⟩,λk=>k.2⟩
  .rw[zA h,zD,zA (λk=>h k.1)]) (λx y=>rfl) (λa=>bB a) (λa b e o r=>by omega) (λa b h=>by omega)
 rw[e];rcases h with⟨rfl,A⟩|⟨j,v,rfl,_,u,m,g⟩
 .rw[aw6 λy q p=>by
   obtain⟨i,hi,rfl⟩:=aB q;have:=A i hi hi;by_cases k:t[i] % (d:Int)=0
   .exact k
   .exact absurd ⟨p,k⟩ this]
  rfl
 .rw[aw7 (x:=t[j]) (aD v) u λy q p o=>by
   obtain⟨i,hi,rfl⟩:=aB q;have:=m i hi hi ⟨p,o⟩
   omega]
  simp only[zG]
  rw[MV v λC w o r=>by
   have:=g C w o (by rw[r];exact u)
   omega]
theorem af3 (q:t.length<1000000000): ∃k,vP t x=O k/\(k<0↔x∉t):=by
 unfold vP;obtain⟨k,e,h⟩:=I2 (P:=λy=>y=x) (R:=λx y=>x<y) (t:=t) (f:=Cs t x) (pb:=λy=>yX y x) (lb:=qa) q (λs=>rfl) (λy=>rfl) (λx y=>rfl) (λa=>bB a) (λa b e v w=>by omega) (λa b h=>by omega);rw[e];refine⟨k,rfl, ?_⟩;rcases h with⟨rfl,r⟩|⟨j,p,rfl,_,o,m,g⟩
 .refine⟨λ_ u=> ?_,λ_=>by omega⟩;obtain⟨i,hi,e⟩:=aB u;exact r i hi hi e
 .exact⟨λh=>by omega,λh=>absurd (o▸aD p) h⟩
theorem aq1 (w:t.length<1000000000)(m: ∀y∈t,-1<=y): ∃k,vQ t=O k/\((-1:Int)∈t->k=(G7 t (-1):Int))/\((-1:Int)∉t->k= -1):=by
 unfold vQ;obtain⟨k,e,h⟩:=I2 (P:=λy=>y<0) (R:=λx y=>x<y) (t:=t) (f:=Ct t) (pb:=λy=>yY y) (lb:=qa) w (λs=>rfl) (λy=>rfl) (λx y=>rfl) (λa=>bB a) (λa b e q v=>by omega) (λa b h=>by omega);rw[e];refine⟨k,rfl, ?_⟩;rcases h with⟨rfl,z⟩|⟨j,o,rfl,_,D,r,g⟩
 .refine⟨λA=> ?_,λ_=>rfl⟩;obtain⟨i,hi,e⟩:=aB A;exact absurd (show t[i]<0 by omega) (z i hi hi)
 .have p:t[j]= -1:=by have:=m _ (aD o);omega
  refine⟨λ_=> ?_,λh=>absurd (p▸aD o) h⟩
  rw[<-p,MV o λC u q v=>by
   have:=g C u q (by omega)
   omega]
theorem aq0 (w:t.length<1000000000): ∃k,vR t=O k/\(nv t<0->k= -1)/\(0<=nv t->k=(G7 t (nv t):Int)):=by
 unfold vR;obtain⟨k,e,h⟩:=I2 (P:=λy=>0<=y) (R:=λx y=>y<x) (t:=t) (f:=Cv t) (pb:=λy=>Cw y) (lb:=yZ) w (λs=>rfl) (λy=>rfl) (λx y=>rfl) (λa=>bB a) (λa b e p v=>by omega) (λa b h=>by omega);rw[e];refine⟨k,rfl, ?_⟩;rcases h with⟨rfl,z⟩|⟨j,q,rfl,_,D,m,g⟩
 .refine⟨λ_=>rfl,λo=> ?_⟩;obtain⟨i,hi,e⟩:=aB (yx o);exact absurd (show 0<=t[i]by omega) (z i hi hi)
 .have r:nv t=t[j]:=be5 (by omega) (λy A=>by
   obtain⟨i,hi,rfl⟩:=aB A;by_cases o:0<=t[i]
   .have:=m i hi hi o;omega
   .omega) (.inr (aD q))
  refine⟨λh=>by omega,λ_=> ?_⟩
  rw[r,MV q λC u p v=>by
   have:=g C u p (by omega)
   omega]
theorem al9 {s:Nat}(p:k<65536)(f:1<=s/\s<=1048576):sA (k:Int) (s:Int)=O ((Hz k s:Int),0):=by
 unfold sA;rw[Ze,zD,Ze,zD,Ze,zD,Ze,zD];have j:=Ov p f.1
 have g:am (vY (k:Int) (s:Int)) cj 1=O (Hz k s:Int):=by
  refine Oo (λa=> ∃e:Nat,a=((2 ^ e:Nat):Int)/\(e=0∨s*2 ^ (e-1)<=k)) (λa=>4294967296-a.toNat) ⟨0,rfl, .inl rfl⟩ (by simp) ?_;rintro a ⟨e,rfl,he⟩
  have o:2 ^ e<=131072:=by
   rcases he with rfl|he
   .simp
   .have:1*2 ^ (e-1)<=s*2 ^ (e-1):=Nat.mul_le_mul_right _ f.1;rcases cD e with rfl|h
    .simp
    .rw[show e=(e-1)+1 by omega,bD];omega
  have r:1<=2 ^ e:=Nat.one_le_two_pow;have q:s*2 ^ e<=1048576*131072:=Nat.mul_le_mul f.2 o;unfold vY;rw[<-Int.natCast_mul,Zo];by_cases h:k<s*2 ^ e
  .right;rw[Zf,zC]
   have:IsStr k s (2 ^ e):=⟨⟨e,rfl⟩,h,by
    rcases he with rfl|he
    .exact .inl rfl
    .rcases cD e with rfl|h
     .exact .inl rfl
     .right
      have m:2 ^ e / 2=2 ^ (e-1):=by
       conv=>lhs;rw[show e=(e-1)+1 by omega,bD]
       exact Nat.mul_div_cancel _ (by omega)
      rw[m]
      exact he⟩
   rw[this.eq j]
  .left;rw[Ze,zD,Zi];refine⟨_,rfl,⟨e+1, ?_, .inr (by rw[Nat.add_sub_cancel];omega)⟩,by omega⟩;rw[bD];omega
 rw[g];rfl
section
variable {c:Cx}
theorem ax6 (h:c.Ok)(M:c.mode≠3)(hn:1<=c.ns)(hi:Inv c s)(g:Int)(en V:Bool):su g en V c.fixed c.tp c.sl c.ns c.mode c.R c.Q c.len c.words s.L s.p s.q s.c0 s.c1 s.c2 s.c3 s.z c.X c.T c.l c.k c.P c.tk (c.off 8:Int) c.ns (c.X.length:Int) s.lv s.pk c.words s.W=O (ap3 (Rn en (B4 c s))):=by
 have hns:=h.ns;have F:=hi.L;have hp:=hi.p;have hq:=hi.q;have K:(mN c s.W).length=c.ns.toNat:=mz;have r:=Df (c:=c) (W:=s.W) hi.tag;have N:=(tn h M (k:=0) (by omega)).2.2;unfold su gl dx mR;simp only[zG];rw[aV2 h M hi];simp only[zG];unfold Ej;rw[Gs F hp hq (by omega) r];simp only[zG,bg];rw[Ze,zD];unfold Rn B4;simp only;generalize htg:mN c s.W=t at*
 have Z:sA s.L ((t.length:Nat):Int)=O ((Hz s.L.toNat t.length:Int),0):=by
  have:=al9 (k:=s.L.toNat) (s:=t.length) (by omega) (by omega);rw[Int.toNat_of_nonneg F.1]at this;exact this
 have H:1<=Hz s.L.toNat t.length:=(Ov (by omega) (by omega)).pos;generalize Hz s.L.toNat t.length=d at*;by_cases A:s.q<0
 .rw[zE A,zB A,zC];unfold Cr;rw[Z];simp only[zG,md,ld];by_cases j:s.p<s.L
  .rw[zE j,zB j,zC,Zi];rfl
  rw[zF j,zA j,zD,ap9 H (by omega)];cases ho:MH d t with
  |some x=>
   simp only[zG];rw[Zf,zC];rfl
  |none=>
   simp only[zG];rw[Ze,zD];obtain⟨k2,S,w⟩:=af3 (t:=t) (x:=s.L) (by omega);obtain⟨I,U,u,E⟩:=aq1 (t:=t) (by omega) λy hy=>(r y hy).1
   rw[S,U];simp only[zG]
   have J:gd (Zc ((d:Int)≠0)) (cond (Zc ((Int.tmod s.L (d:Int))=0)) (cond (Zc (k2<0)) (O (Zc (0<=I))) (O Zb)) (O Zb))=O (Zc (s.L % (d:Int)=0/\s.L∉t/\(-1:Int)∈t)):=by
    rw[zB (show(d:Int)≠0 by omega),bw,cB F.1];by_cases a1:s.L % (d:Int)=0
    .rw[zB a1,zC];by_cases a2:s.L∉t
     .rw[zB (w.2 a2),zC]
      congr 1
      by_cases a3:(-1:Int)∈t
      .rw[zB (show 0<=I by rw[u a3];omega),zB ⟨a1,a2,a3⟩]
      .rw[zA (show¬0<=I by rw[E a3];omega),zA (λk=>a3 k.2.2)]
     .rw[zA (λk=>a2 (w.1 k)),zD,zA (λk=>a2 k.2.1)]
    .rw[zA a1,zD,zA (λk=>a1 k.1)]
   rw[J];simp only[zG];by_cases a:s.L % (d:Int)=0/\s.L∉t/\(-1:Int)∈t
   .rw[zE a,zB a,zC,u a.2.2];rfl
   .rw[zF a,zA a,zD];cases en<;>rfl
 rw[zF A,zA A,zD];unfold Ek;obtain⟨k,e,hk0,v⟩:=aq0 (t:=t) (by omega);rw[e];simp only[zG,md,ld]
 have o:0<=nv t->0<=k/\rd t k=O (nv t):=λf=>by
  obtain⟨hs,e⟩:=Qz (yx f);rw[v f,bh hs,e];exact⟨by omega,rfl⟩
 have J:(cond (Zc (0<=k)) ((rd t k).bind λx4=>O (Zc (s.q<=x4))) (O Zb):Option Bool)=O (Zc (0<=nv t/\s.q<=nv t)):=by
  by_cases f:0<=nv t
  .rw[zB (o f).1,zC,(o f).2];simp only[zG]
   congr 1
   exact decide_eq_decide.2 (by omega)
  .rw[zA (by rw[hk0 (by omega)];omega),zD,zA (λk=>f k.1)]
 rw[J];simp only[zG];by_cases j:0<=nv t/\s.q<=nv t
 .rw[zE j,zB j,zC,v j.1];rfl
 rw[zF j,zA j,zD];by_cases u:s.q=0
 .rw[zE u,zB u];rfl
 rw[zF u,zA u,zD,ad (n:=s.q-1) (by omega)];by_cases C:s.p=s.q-1
 .rw[zE C,zB C];rfl
 rw[zF C,zA C,zD]
 have r2:(cond (Zc (0<=k)) ((rd t k).bind λx9=>cond (Zc (s.p<x9)) (O Za) (O (Zc (s.q<=s.p)))) (O Zb):Option Bool)=O (Zc (0<=nv t/\(s.p<nv t∨s.q<=s.p))):=by
  by_cases f:0<=nv t
  .rw[zB (o f).1,zC,(o f).2];simp only[zG];by_cases m:s.p<nv t
   .rw[zB m,zC,zB ⟨f, .inl m⟩]
   .rw[zA m,zD]
    congr 1
    exact decide_eq_decide.2 (by omega)
  .rw[zA (by rw[hk0 (by omega)];omega),zD,zA (λk=>f k.1)]
 rw[r2];simp only[zG];by_cases m:0<=nv t/\(s.p<nv t∨s.q<=s.p)
 .rw[zE m,zB m,zC,v m.1];rfl
 rw[zF m,zA m,zD];by_cases D:s.p<s.q
 .rw[zE D,zB D,zC,Zi];rfl
 .rw[zF D,zA D];rfl
end
end
section
end
section
theorem AD (u:t.length<1000000000):lY t x=O (if x∈t then(G7 t x:Int)else-1):=by
 unfold lY;have p:G7 t x<=t.length:=List.findIdx_le_length
 have m:=oi (f:=vL t x) (n:=G7 t x) (c:=if x∈t then .inl (G7 t x:Int)else .inr ()) (by omega)
  (λi hi=>by
   have j:i<t.length:=by omega
   have o:=List.not_of_lt_findIdx hi;unfold vL;rw[Zf,zC,bh j];simp only[zG];rw[o,zD,Zi]
   rfl)
  (by
   unfold vL;by_cases g:x∈t
   .obtain⟨q,e⟩:=Qz g;rw[Zf,zC,bh q];simp only[zG];rw[zB e,zC,zE g]
   .have:G7 t x=t.length:=List.findIdx_eq_length_of_false λy r=>zA λe=>g (e▸r)
    rw[Ze,zD,zF g])
 rw[m];simp only[zG];split<;>rfl
theorem Yp {s:Nat}(w:k<65536)(o:1<=s/\s<=1048576):xB (k:Int) (s:Int)=O ((Hz k s:Int),0):=by
 unfold xB;rw[Ze,zD,Ze,zD,Ze,zD,Ze,zD];have j:=Ov w o.1
 have g:am (xC (k:Int) (s:Int)) cj 65536=O (Hz k s:Int):=by
  refine Oo (λa=> ∃e:Nat,a=((2 ^ e:Nat):Int)/\e<=16/\k<s*2 ^ e) (λa=>a.toNat) ⟨16,rfl,by omega,by omega⟩ (by decide) ?_;rintro a ⟨e,rfl,u,f⟩;have z:1<=2 ^ e:=Nat.one_le_two_pow;have y:2 ^ e<=2 ^ 16:=Nat.pow_le_pow_right (by omega) u;unfold xC;rw[show Int.tdiv ((2 ^ e:Nat):Int) 2=((2 ^ e / 2:Nat):Int)from rfl,Zo];by_cases p:1<2 ^ e
  .have v:1<=e:=by
    rcases Nat.eq_zero_or_pos e with h|h
    .subst h;simp at p
    .exact h
   have m:2 ^ e / 2=2 ^ (e-1):=by
    conv=>lhs;rw[show e=(e-1)+1 by omega,Nat.pow_succ]
    exact Nat.mul_div_cancel _ (by omega)
   have r:s*2 ^ (e-1)<=1048576*65536:=Nat.mul_le_mul o.2 (by omega);rw[Zf,zC,m,<-Int.natCast_mul,Zo];by_cases q:k<s*2 ^ (e-1)
   .rw[Zf,zC];exact .inl ⟨_,rfl,⟨e-1,rfl,by omega,q⟩,by omega⟩
   .rw[Ze,zD];have:IsStr k s (2 ^ e):=⟨⟨e,rfl⟩,f, .inr (by rw[m];omega)⟩;rw[this.eq j];exact .inr rfl
  .rw[Ze,zD];have:IsStr k s (2 ^ e):=⟨⟨e,rfl⟩,f, .inl (by omega)⟩;rw[this.eq j];exact .inr rfl
 rw[g];rfl
end
section
open List renaming getElem?_eq_none -> aB, length_cons -> aD
theorem az5 {n:Int}(h:1<=n/\n<=65535):jd 1 n=Za:=by
 unfold jd;rw[Zh,Zh,zE rfl,Zf]
theorem Qm {a n:Int}(e:2<=a/\a<=4)(h:0<=n/\n<1048576):jd a n=Za:=by
 unfold jd;rw[Zh,Zh,Zh,zE e.2,zB h]
theorem Ql {a n:Int}(e:5<=a/\a<=9)(h:n=0):jd a n=Za:=by
 unfold jd;rw[Zh,Zh,Zh,Zh,zB h]
section
variable {c:Cx}
theorem Fl {W':Zd}(e:dv c W W'):mN c W'=mN c W:=by
 unfold mN;refine List.map_congr_left λk _=> ?_
 rw[e.tag]
theorem WS {w:Zd}(o:k<c.ns.toNat)(e:sp c k+w.length<=W.length)(m:w.length=c.X.length+1):mN c (put W (sp c k) w)=(mN c W).set k (w.getD 0 0-1):=by
 apply List.ext_getElem?;intro j;by_cases g:j<c.ns.toNat
 .rw[IM g,List.getElem?_set];by_cases f:k=j
  .subst f;rw[zE rfl,zE (by rw[mz];exact o),GJ e m]
  .rw[zF f,IM g,UL e m (λh=>f h.symm)]
 .rw[aB (by rw[mz];omega),aB (by rw[List.length_set,mz];omega)]
theorem MX (e:k<c.ns.toNat):(mN c W).getD k 0=ge c W k-1:=by
 rw[List.getD_eq_getElem?_getD,IM e];rfl
theorem TP (h:c.Ok)(o:c.mode≠3)(hi:Inv c s){r:Mc}(e:Uh a (B4 c s)=O r):(HF c a.1 a.2 s).1=0/\B4 c (HF c a.1 a.2 s).2=r:=by
 obtain⟨a,n⟩:=a;have j:=hi.w;have S:=hi.L;have T:=hi.p;have U:=hi.q;have M:=h.ns;have E:(seg s.W (c.off 1) c.X.length).length=c.X.length:=cv (j.in' h (i:=1) (by omega));unfold Uh B4 at e;simp only[mz]at e;show(HF c a n s).1=0/\B4 c (HF c a n s).2=r;by_cases u:a=1
 .subst u;rw[zE rfl]at e;by_cases f:1<=n/\n<=65535/\s.p+n<=s.L
  .rw[zE f]at e;injection e with e
   unfold HF;rw[zF (by rw[az5 (by omega)];simp),Zh,zE rfl,Zh];refine⟨rfl, ?_⟩;rw[<-e];unfold B4;simp only[Fl (Om h j s.p n.toNat)]
  .rw[zF f]at e;cases e
 rw[zF u]at e;by_cases v:a=2
 .subst v;rw[zE rfl]at e;by_cases f:0<=n/\n<(c.ns.toNat:Int)/\(mN c s.W).getD n.toNat 0<0
  .rw[zE f]at e;injection e with e
   have g:n.toNat<c.ns.toNat:=by omega
   obtain⟨F,H,I⟩:=tn h o g;obtain⟨J,K⟩:=j.tk h;have m:=MX (c:=c) (W:=s.W) g;unfold HF;rw[zF (by rw[Qm (by omega) (by omega)];simp),Zh,Zh,zE rfl,Zh];refine⟨rfl, ?_⟩;rw[<-e];unfold B4;simp only;rw[WS g (by rw[aD];omega) (by rw[aD,E])]
   have N:(IntKind.u64.wrap (IntKind.i64.wrap (s.p+1))::seg s.W (c.off 1) c.X.length).getD 0 0=s.p+1:=by
    show IntKind.u64.wrap (IntKind.i64.wrap (s.p+1))=_;rw[Zi,Zj]
   rw[N,show s.p+1-1=s.p by omega]
  .rw[zF f]at e;cases e
 rw[zF v]at e;by_cases y:a=3
 .subst y;rw[zE rfl]at e;by_cases f:0<=n/\n<(c.ns.toNat:Int)/\0<=(mN c s.W).getD n.toNat 0
  .rw[zE f]at e;injection e with e
   have g:n.toNat<c.ns.toNat:=by omega
   obtain⟨F,H,I⟩:=tn h o g;obtain⟨J,K⟩:=j.tk h;have m:=MX (c:=c) (W:=s.W) g;have Q:(seg s.W (sp c n.toNat+1) c.X.length).length=c.X.length:=cv (by omega);unfold HF;rw[zF (by rw[Qm (by omega) (by omega)];simp),Zh,Zh,Zh,zE rfl,Zh];refine⟨rfl, ?_⟩;rw[<-e];unfold B4;simp only;rw[Fl (dv.put h (dv.refl s.W) j (i:=1) (by omega) (by rw[Q];exact Nat.le_refl _)),m]
  .rw[zF f]at e;cases e
 rw[zF y]at e;by_cases z:a=4
 .subst z;rw[zE rfl]at e;by_cases f:0<=n/\n<(c.ns.toNat:Int)/\0<=(mN c s.W).getD n.toNat 0
  .rw[zE f]at e;injection e with e
   have g:n.toNat<c.ns.toNat:=by omega
   obtain⟨F,H,I⟩:=tn h o g;obtain⟨J,K⟩:=j.tk h;have m:=MX (c:=c) (W:=s.W) g;unfold HF;rw[zF (by rw[Qm (by omega) (by omega)];simp),Zh,Zh,Zh,Zh,zE rfl,Zh];refine⟨rfl, ?_⟩;rw[<-e];unfold B4;simp only;rw[WS g (by rw[bz];omega) (bz _)];rfl
  .rw[zF f]at e;cases e
 rw[zF z]at e;by_cases A:a=5
 .subst A;rw[zE rfl]at e;by_cases f:n=0/\s.q= -1/\s.p=s.L
  .rw[zE f]at e;injection e with e
   unfold HF;rw[zF (by rw[Ql (by omega) f.1];simp),Zh,Zh,Zh,Zh,Zh,zE rfl,Zh,Zh];refine⟨rfl, ?_⟩;rw[<-e];unfold B4;simp only[Fl (Lp h j E)]
  .rw[zF f]at e;cases e
 rw[zF A]at e;by_cases C:a=6
 .subst C;rw[zE rfl]at e;by_cases f:n=0/\s.q= -1/\s.p=s.L-1
  .rw[zE f]at e;injection e with e
   unfold HF;rw[zF (by rw[Ql (by omega) f.1];simp),Zh,Zh,Zh,Zh,Zh,Zh,zE rfl,Zh,Zh];refine⟨rfl, ?_⟩;rw[<-e];unfold B4;simp only[Fl (Lo h j s.p).1]
  .rw[zF f]at e;cases e
 rw[zF C]at e;by_cases D:a=7
 .subst D;rw[zE rfl]at e;by_cases f:n=0/\0<s.q/\s.p=s.q-1
  .rw[zE f]at e;injection e with e
   unfold HF;rw[zF (by rw[Ql (by omega) f.1];simp),Zh,Zh,Zh,Zh,Zh,Zh,Zh,Zh,Zh];refine⟨rfl, ?_⟩;rw[<-e];unfold B4;simp only[Fl (On h j s.p).1]
  .rw[zF f]at e;cases e
 rw[zF D]at e;cases e
theorem bv {α β:Type}{x:Option α}{a:α}{f:α->Option β}{r:Option β}(h:x=O a)(e:f a=r):x.bind f=r:=by rw[h];exact e
end
end
section
section
variable {c:Cx}
end
end
section
section
variable {a0:Int} {a1 a2:Zd} {a3:Int} {a4:List bu} {a5:Int} {a6:List bu} {a7 a8 a9:Int}
end
section
variable {c:Cx}
theorem bb9 (h:c.Ok)(g:c.mode≠3)(e:Pl c):1<=c.ns:=by
 have n:=h.num;have j:=n.sl;rw[zF g]at j;unfold Pl oX at e;rw[zF (by rw[h.hc];simp)]at e;by_cases f:c.words<sX c.X.length c.T.length c.R c.Q+ri c.mode c.l c.k+least c.mode c.len*rh c.mode c.X.length c.R c.l
 .rw[zE f]at e;injection e with _ e
  injection e with _ e
  injection e with _ e
  injection e with _ e
  cases e
 .rw[zF f,zF g]at e;injection e with _ e
  injection e with _ e
  injection e with _ e
  injection e with e _
  unfold least at f;rw[zF g]at f;have m:rh c.mode c.X.length c.R c.l=c.sl:=h.sl.symm;rw[m]at e f;rw[<-e];exact(Int.le_ediv_iff_mul_le (by omega)).2 (by omega)
theorem bj4 (h:c.Ok)(f:c.mode=1)(e:Pl c):mK c.mode c.X c.T c.R c.l c.Q c.k c.len c.words=O (.inr (.inr (.inl (c.mode,Zb,Zb,c.fixed,c.tp,c.sl,c.ns,c.mode,c.R,c.Q,c.len,c.words,c.len,c.X,c.T,c.l,c.k,c.P,c.tk,(c.off 8:Int),c.ns,(c.X.length:Int),c.fixed,c.fixed,c.words,(new2 c).W)))):=by
 unfold mK;refine bv (bh7 h (by omega) e) ?_
 refine bv (show jl _ _ _ _ _ _ _ _ _ _ _ _ _ _ _ _ _ _ _ _ _ _ _ _ _ _ _ _ _ _ _ _ _ _ _ _ _ _ _=O (.inl (c.mode,Zb,Zb))from by
  unfold jl;rw[show ix c.mode 4=O 1 from by rw[f];rfl]
  rfl) ?_
 rfl
theorem bj5 (h:c.Ok)(f:c.mode=2)(e:Pl c):mK c.mode c.X c.T c.R c.l c.Q c.k c.len c.words=O (.inr (.inr (.inr (c.mode,Zb,Zb,c.fixed,c.tp,c.sl,c.ns,c.mode,c.R,c.Q,c.len,c.words,c.len,c.X,c.T,c.l,c.k,c.P,c.tk,(c.off 8:Int),c.ns,(c.X.length:Int),c.fixed,c.fixed,c.words,(new2 c).W)))):=by
 unfold mK;refine bv (bh7 h (by omega) e) ?_
 refine bv (show jl _ _ _ _ _ _ _ _ _ _ _ _ _ _ _ _ _ _ _ _ _ _ _ _ _ _ _ _ _ _ _ _ _ _ _ _ _ _ _=O (.inr (c.mode,Zb,Zb))from by
  unfold jl;rw[show ix c.mode 4=O 2 from by rw[f];rfl]
  rfl) ?_
 rfl
end
end
section
def nxB (s:Dy):Option (Int×Int):=if s.q<0 then(if s.p<s.L then O (8,0)else O (5,0))else if 0<s.q then O (9,0)else Y
def yz (c:Cx)(en:Bool)(s:Dy):Option (Int×Int):=if c.mode=3 then nxB s else if c.mode=2 then Rn en (B4 c s)else Uo (B4 c s)
def zk (c:Cx)(a:Int×Int)(s:Dy):Dy:=if c.mode=3 then(N8 c a.1 a.2 s).2 else(HF c a.1 a.2 s).2
def J8 (c:Cx)(a:Int×Int)(s:Dy):Prop:=if c.mode=3 then(N8 c a.1 a.2 s).1=0 else∃e,Uh a (B4 c s)=O e
def yr (s:Dy):Dy:={s with L:=s.L+1}
def ei (c:Cx)(i:Nat)(s:Dy):Prop:=if c.mode=3 then Well1 c i s else Well2 c i s
section
variable {c:Cx} (h:c.Ok)
include h
theorem M3 (w:ei c i s)(e:yz c en s=O a)(m:J8 c a s):ei c (i+1) (zk c a s):=by
 unfold ei zk J8 at*;by_cases f:c.mode=3
 .simp only[zE f]at w m⊢;have:=w.act h f a;unfold aF2 at this
  have j:a.1≠0:=λg=>by
   unfold N8 at m;rw[g]at m;simp at m
  rw[zF j]at this;exact this
 .simp only[zF f]at w m⊢;have:=w.act h f a;unfold ao2 at this
  have j:a.1≠0:=λg=>by
   obtain⟨o,m⟩:=m;unfold Uh at m;rw[g]at m;simp at m
  rw[zF j]at this;exact this
theorem YI (w:ei c i s)(f:c.mode=2)(g:s.q= -1)(e:s.L<65535):ei c (i+1) (yr s):=by
 unfold ei at*;rw[Zh]at*;have:=w.act h (by omega) (0,0);unfold ao2 qh at this;rw[zE rfl,Zh,Zh,Zh]at this;exact this
theorem QJ {j:Nat}(m:i<=j)(w:ei c i s):ei c j s:=by
 have g:DD (65536*i) s->DD (65536*j) s:=λk=>by
  obtain⟨a,b,d,e⟩:=k;unfold DD;omega
 unfold ei at*;split
 .rename_i f;rw[zE f]at w;exact⟨w.inv,g w.cnt⟩
 .rename_i f;rw[zF f]at w;exact⟨w.inv,g w.cnt,w.len⟩
def Ul (c:Cx):Dy:=if c.mode=3 then new1 c else new2 c
theorem SB :ei c 0 (Ul c):=by
 unfold ei Ul;split
 .rename_i e;exact Sz h e [] 0
 .rename_i e;exact SA h e [] 0
end
end
section
section
variable {c:Cx}
end
section
variable {c:Cx} (h:c.Ok)
include h
theorem bb6 (j:c.mode=2):c.len=0:=by
 have hc:=h.hc;have g:=h.num.len;unfold A5 at hc;split at hc
 .rename_i k;exact absurd hc k
 split at hc
 .rename_i k;exact absurd hc k
 split at hc
 .rename_i k;exact absurd hc k
 split at hc
 .rename_i k;exact absurd hc k
 rename_i k;unfold hk3 at k;rw[zE j]at k;by_cases e:c.len<0
 .omega
 by_cases f:0<c.len
 .rw[zF e,zE f]at k;omega
 .omega
end
end
section
open Go.IntKind renaming wrap -> zH, i64 -> zI, u64 -> zJ
open List renaming append_assoc -> aB, getD_eq_getElem?_getD -> aD, getElem?_append_right -> bB
def aA9 (s x:Int):Int:=(3*s+x) % 18446744073709551616
def S36 (l:Zd):Int:=l.foldl aA9 1
theorem WB (a b:Int):Co [a,b]=O (a*b % 18446744073709551616):=by
 unfold Co;rw[Jj (l:=[a,b]) (λs x=>s*x % 18446744073709551616) 1 (c:=id) (by simp) ?_ ?_]
 .simp only[zG,List.foldl,id];rw[Int.one_mul,Int.mul_emod,Int.emod_emod_of_dvd _ (Int.dvd_refl _),<-Int.mul_emod]
 .intro i hi s;simp only[Eh,ag];rw[Zg,bh hi];simp only[zG];rw[ad (by simp at hi;omega),ad1];rfl
 .intro s;simp only[Eh,ag];rw[Zh];rfl
theorem WA (a b:Int):Cn [a,b]=O ((a+b) % 18446744073709551616):=by
 unfold Cn;rw[Jj (l:=[a,b]) (λs x=>(s+x) % 18446744073709551616) 0 (c:=id) (by simp) ?_ ?_]
 .simp only[zG,List.foldl,id]
  congr 1
  omega
 .intro i hi s;simp only[Eg,ag];rw[Zg,bh hi];simp only[zG];rw[ad (by simp at hi;omega),ad1];rfl
 .intro s;simp only[Eg,ag];rw[Zh];rfl
theorem ac7 (s x:Int):(s*3 % 18446744073709551616+x) % 18446744073709551616=aA9 s x:=by
 unfold aA9;omega
theorem XR (l:Zd)(e:l.length<9223372036854775807):Bz l=O (S36 l):=by
 unfold Bz;rw[Jj (l:=l) aA9 1 (c:=id) e ?_ ?_]
 .rfl
 .intro i hi s;simp only[AQ,ag];rw[Zg,bh hi];simp only[zG,WB,WA,ac7];rw[Zi];rfl
 .intro s;simp only[AQ,ag];rw[Zh];rfl
def W36 (h:Zd)(l:Zd):Zd:=h++(l.length:Int)::l++[S36 (h++(l.length:Int)::l)]
theorem Gn (l:Zd)(a1 a2 a3 a4 a5 a6 a7 a8 a9 a10 a11 a12 a13 a14 a15 a16:Int)(j:l.length<=1048576):qy l a1 a2 a3 a4 a5 a6 a7 a8 a9 a10 a11 a12 a13 a14 a15 a16=
  O (W36 [a1,a2,a3,a4,a5,a6,a7,a8,a9,a10,a11,a12,a13,a14,a15,a16] l):=by
 unfold qy W36;rw[ad (show-9223372036854775808<=(16+(((l.length:Nat)):Int))/\(16+(((l.length:Nat)):Int))<=9223372036854775807 by omega),Zi,SD (by omega)];have g:E3 (List.replicate 16 (0:Int)) 0 (List.length (List.replicate 16 (0:Int))) [a1,a2,a3,a4,a5,a6,a7,a8,a9,a10,a11,a12,a13,a14,a15,a16]=[a1,a2,a3,a4,a5,a6,a7,a8,a9,a10,a11,a12,a13,a14,a15,a16]:=rfl;rw[g];have e:Zc (16<=16+(l.length:Int)+2)=Za:=zB (by omega);have f:Zc ((8:Int)*(16+(l.length:Int)+2)<=140737488355328)=Za:=zB (by omega);rw[e,f];show gd Za _=_;rw[bw,ca (by simp) (by omega),ca (by simp;omega) (by omega),XR _ (by simp;omega)];simp only[zG];rw[ca (by simp;omega) (by omega)];simp only[aB,List.singleton_append]
def YR (e:Int):Int×Int×Int×Int×Int×Int×Int×Int×Int×Int×Int×Int×Int×Int×Int×Int×Int×Zd:=(0,0,0,0,0,0,0,0,0,0,0,0,0,0,0,0,e,[])
def Ux (w:Zd):Int×Int×Int×Int×Int×Int×Int×Int×Int×Int×Int×Int×Int×Int×Int×Int×Int×Zd:=
 if w.length<18 then YR 4 else if(w.length:Int)-18<w.getD 16 0 then YR 4 else if w.getD 16 0<(w.length:Int)-18 then YR 21
 else if w.getD (w.length-1) 0≠S36 (w.take (w.length-1))then YR 3 else(w.getD 0 0,w.getD 1 0,w.getD 2 0,w.getD 3 0,w.getD 4 0,w.getD 5 0,w.getD 6 0,w.getD 7 0,w.getD 8 0,w.getD 9 0,w.getD 10 0,w.getD 11 0,w.getD 12 0,w.getD 13 0,w.getD 14 0,w.getD 15 0,0,(w.take (w.length-1)).drop 17)
theorem Nu (w:Zd)(p:w.length<=2000000):jm w=O (Ux w):=by
 unfold jm Ux;rw[SD (show w.length<9223372036854775808 by omega)];simp only[ag];by_cases o:w.length<18
 .rw[Zg,zE o];rfl
 rw[Zh,zF o,Zj,ad (show-9223372036854775808<=(w.length:Int)-1/\(w.length:Int)-1<=9223372036854775807 by omega)];rw[show rd w 16=O (w.getD 16 0)from ab6 (i:=16) (by omega)];simp only[zG,ag];by_cases g:(w.length:Int)-18<w.getD 16 0
 .rw[zE g,zE g];rfl
 rw[zF g,zF g];by_cases j:w.getD 16 0<(w.length:Int)-18
 .rw[zE j,zE j];rfl
 rw[zF j,zF j]
 have e:am (tZ w) cj (0,1)=O (S36 (w.take (w.length-1))):=by
  refine cx (n:=w.length-1) (λi=>(w.take i).foldl aA9 1) (by omega) ?_ ?_
  .intro i hi;have f:i<w.length:=by omega
   simp only[tZ,ag];rw[Zg,bh f,ad (show-9223372036854775808<=(w.length:Int)-1/\(w.length:Int)-1<=9223372036854775807 by omega)];simp only[zG,WB,WA,ac7];rw[Zh,Zi,List.take_succ_eq_append_getElem f,List.foldl_append];rfl
  .simp only[tZ,ag];rw[Zg,bh (by omega),ad (show-9223372036854775808<=(w.length:Int)-1/\(w.length:Int)-1<=9223372036854775807 by omega)];simp only[zG];rw[Zg];rfl
 rw[e,show rd w ((w.length:Int)-1)=O (w.getD (w.length-1) 0)from by rw[<-ab6 (by omega)];congr 1;omega];simp only[zG,ag];by_cases m:w.getD (w.length-1) 0≠S36 (w.take (w.length-1))
 .rw[zE m,zE m];rfl
 rw[zF m,zF m];unfold gy ar Il;rw[zB (show(0:Int)<=17 by omega),zB (show(17:Int)<=(w.length:Int)-1 by omega),zB (show(w.length:Int)-1<=(w.length:Int)by omega)];show gd Za _=_;rw[bw,ca (by simp;omega) (by omega)];simp only[zG];rw[show((w.length:Int)-1).toNat=w.length-1 by omega];rfl
theorem Tv {h:Zd}(e:h.length=16):(W36 h l).length=l.length+18:=by
 simp[W36,e];omega
theorem ao1 {h:Zd}(e:h.length=16):(W36 h l).take (l.length+17)=h++(l.length:Int)::l:=by
 unfold W36;rw[List.take_append_of_le_length (by simp[e];omega),List.take_of_length_le (by simp[e];omega)]
theorem ao0 {h:Zd}(e:h.length=16):(W36 h l).getD (l.length+17) 0=S36 (h++(l.length:Int)::l):=by
 unfold W36;rw[aD,bB (by simp[e];omega)];simp[e];rw[show l.length+17-(16+(l.length+1))=0 by omega];rfl
theorem aY6 {h:Zd}(e:h.length=16):(W36 h l).getD 16 0=l.length:=by
 unfold W36;rw[aD,aB,bB (by simp[e])];simp[e]
theorem ay8 (l:Zd)(a1 a2 a3 a4 a5 a6 a7 a8 a9 a10 a11 a12 a13 a14 a15 a16:Int):Ux (W36 [a1,a2,a3,a4,a5,a6,a7,a8,a9,a10,a11,a12,a13,a14,a15,a16] l)=(a1,a2,a3,a4,a5,a6,a7,a8,a9,a10,a11,a12,a13,a14,a15,a16,0,l):=by
 have e:[a1,a2,a3,a4,a5,a6,a7,a8,a9,a10,a11,a12,a13,a14,a15,a16].length=16:=rfl;unfold Ux;rw[Tv e,aY6 e,Zh,Zh,Zh,show l.length+18-1=l.length+17 by omega,ao0 e,ao1 e,zF (by simp)];have f:([a1,a2,a3,a4,a5,a6,a7,a8,a9,a10,a11,a12,a13,a14,a15,a16]++(l.length:Int)::l).drop 17=l:=rfl;rw[f];rfl
theorem Tu {a0:Int}{a1 a2:Zd}{a3:Int}{a4:List bu}{a5:Int}{a6:List bu}{a7 a8:Int}{p q r y z A C D E F e f g j m o:Int}(H:l.length<=1048576):
  pU a0 a1 a2 a3 a4 a5 a6 a7 a8 (W36 [p,q,r,y,z,A,C,D,E,F,e,f,g,j,m,o] l)=lj a0 a1 a2 a3 a4 a5 a6 a7 a8 l p q r y z A C D E F e f g j m o:=by
 unfold pU;rw[Nu _ (by rw[Tv rfl];omega),ay8];simp only[zG];rw[zA (by simp),zD];cases lj a0 a1 a2 a3 a4 a5 a6 a7 a8 l p q r y z A C D E F e f g j m o with
 |none=>rfl
 |some x=>
  cases x with
  |inl u=>rfl
  |inr w=>cases w with
   |inl u=>rfl
   |inr v=>rfl
def bI (b:Bool):Int:=cond b 1 0
def VX (m L q e f:Int):Bool:=cond (Zc (1<e)) Zb (cond (Zc (1<f)) Zb (cond (Zc (1<IntKind.u64.wrap (e+f))) Zb (cond (Zc (m≠2)) (Zc (zH zJ (e+f)=0)) (cond (Zc (f=1)) (cond (!(Zc (0<=q))) (Zc (L=65535)) Zb) (cond (Zc (e=1)) Za (!(Zc (0<=q))))))))
section
variable {c:Cx}
theorem TR (s:Dy)(m:Int)(a b:Bool):kl m a b c.fixed c.tp c.sl c.ns c.mode c.R c.Q c.len c.words s.L s.p s.q s.c0 s.c1 s.c2 s.c3 s.z c.X c.T c.l c.k c.P c.tk s.lv s.pk c.words s.W=O (s.p,s.q):=rfl
theorem ac5 (h:c.Ok)(f:c.mode≠3)(s:Dy)(e:Wd c s.W)(g: ∀k,k<c.ns.toNat->0<=ge c s.W k/\ge c s.W k<=65536):de c.fixed c.tp c.sl c.ns c.mode c.R c.Q c.len c.words s.L s.p s.q s.c0 s.c1 s.c2 s.c3 s.z c.X c.T c.l c.k c.P c.tk (c.off 8:Int) c.ns (c.X.length:Int) s.lv s.pk c.words s.W=O (s.p,s.q,mN c s.W):=by
 unfold de;rw[LV h f e g];rfl
theorem XJ (h:c.Ok)(f:c.mode≠3)(s:Dy)(hi:Inv c s)(m:Int)(a b:Bool):dw m a b c.fixed c.tp c.sl c.ns c.mode c.R c.Q c.len c.words s.L s.p s.q s.c0 s.c1 s.c2 s.c3 s.z c.X c.T c.l c.k c.P c.tk (c.off 8:Int) c.ns (c.X.length:Int) s.lv s.pk c.words s.W=O (s.p,s.q,mN c s.W):=by
 unfold dw;exact bv (ac5 h f s hi.w λk e=>by have:=hi.tag k e;have:=hi.L;omega) rfl
theorem XL (h:c.Ok)(f:c.mode≠3)(s:Dy)(hi:Inv c s)(m:Int)(a b:Bool):dx m a b c.fixed c.tp c.sl c.ns c.mode c.R c.Q c.len c.words s.L s.p s.q s.c0 s.c1 s.c2 s.c3 s.z c.X c.T c.l c.k c.P c.tk (c.off 8:Int) c.ns (c.X.length:Int) s.lv s.pk c.words s.W=O (s.p,s.q,mN c s.W):=by
 unfold dx;exact bv (ac5 h f s hi.w λk e=>by have:=hi.tag k e;have:=hi.L;omega) rfl
theorem bk6 (s:Dy)(m e f:Int)(a b:Bool):oR e f m a b c.fixed c.tp c.sl c.ns c.mode c.R c.Q c.len c.words s.L s.p s.q s.c0 s.c1 s.c2 s.c3 s.z c.X c.T c.l c.k c.P c.tk s.lv s.pk c.words s.W=O (VX m s.L s.q e f):=by
 unfold oR;refine bv (TR s m a b) ?_;rw[show ja m a b c.fixed c.tp c.sl c.ns c.mode c.R c.Q c.len c.words s.L s.p s.q s.c0 s.c1 s.c2 s.c3 s.z c.X c.T c.l c.k c.P c.tk s.lv s.pk c.words s.W=O s.L from rfl];simp only[zG];unfold VX;cases Zc (1<e)<;>cases Zc (1<f)<;>cases Zc (1<IntKind.u64.wrap (e+f))<;>cases Zc (m≠2)<;>cases Zc (f=1)<;>cases Zc (0<=s.q)<;>cases Zc (e=1)<;>rfl
theorem bk7 (h:c.Ok)(g:c.mode≠3)(s:Dy)(hi:Inv c s)(m e f:Int)(a b:Bool):oS e f m a b c.fixed c.tp c.sl c.ns c.mode c.R c.Q c.len c.words s.L s.p s.q s.c0 s.c1 s.c2 s.c3 s.z c.X c.T c.l c.k c.P c.tk (c.off 8:Int) c.ns (c.X.length:Int) s.lv s.pk c.words s.W=O (VX m s.L s.q e f):=by
 unfold oS;refine bv (XJ h g s hi m a b) ?_;rw[show gk m a b c.fixed c.tp c.sl c.ns c.mode c.R c.Q c.len c.words s.L s.p s.q s.c0 s.c1 s.c2 s.c3 s.z c.X c.T c.l c.k c.P c.tk (c.off 8:Int) c.ns (c.X.length:Int) s.lv s.pk c.words s.W=O s.L from rfl];simp only[zG];unfold VX;cases Zc (1<e)<;>cases Zc (1<f)<;>cases Zc (1<IntKind.u64.wrap (e+f))<;>cases Zc (m≠2)<;>cases Zc (f=1)<;>cases Zc (0<=s.q)<;>cases Zc (e=1)<;>rfl
theorem bk8 (h:c.Ok)(g:c.mode≠3)(s:Dy)(hi:Inv c s)(m e f:Int)(a b:Bool):oT e f m a b c.fixed c.tp c.sl c.ns c.mode c.R c.Q c.len c.words s.L s.p s.q s.c0 s.c1 s.c2 s.c3 s.z c.X c.T c.l c.k c.P c.tk (c.off 8:Int) c.ns (c.X.length:Int) s.lv s.pk c.words s.W=O (VX m s.L s.q e f):=by
 unfold oT;refine bv (XL h g s hi m a b) ?_;rw[show gl m a b c.fixed c.tp c.sl c.ns c.mode c.R c.Q c.len c.words s.L s.p s.q s.c0 s.c1 s.c2 s.c3 s.z c.X c.T c.l c.k c.P c.tk (c.off 8:Int) c.ns (c.X.length:Int) s.lv s.pk c.words s.W=O s.L from rfl];simp only[zG];unfold VX;cases Zc (1<e)<;>cases Zc (1<f)<;>cases Zc (1<IntKind.u64.wrap (e+f))<;>cases Zc (m≠2)<;>cases Zc (f=1)<;>cases Zc (0<=s.q)<;>cases Zc (e=1)<;>rfl
def PD (c:Cx)(s:Dy)(en e:Bool):Zd:=W36 [zH zJ c.mode,zH zJ s.L,zH zJ s.p,zH zJ (zH zI (s.q+1)),zH zJ c.ns,zH zJ s.c0,zH zJ s.c1,zH zJ s.c2,zH zJ s.c3,zH zJ s.lv,zH zJ s.pk,s.z,bI en,bI e,0,0] s.W
theorem Ja (b:Bool):ob b=O (bI b):=by cases b<;>rfl
theorem as2 (s:Dy)(m:Int)(a b:Bool):kj m a b c.fixed c.tp c.sl c.ns c.mode c.R c.Q c.len c.words s.L s.p s.q s.c0 s.c1 s.c2 s.c3 s.z c.X c.T c.l c.k c.P c.tk s.lv s.pk c.words s.W=O (Qq c s):=by
 unfold kj;exact bv (an8 s) rfl
theorem bk0 (h:c.Ok)(f:Wd c s.W)(g:s.W.length<=1048576)(m:Int)(en e:Bool):nT m en e c.fixed c.tp c.sl c.ns c.mode c.R c.Q c.len c.words s.L s.p s.q s.c0 s.c1 s.c2 s.c3 s.z c.X c.T c.l c.k c.P c.tk s.lv s.pk c.words s.W=O (PD c s en e):=by
 unfold nT;refine bv (as2 s m en e) ?_;simp only[Qq];refine bv (Ja en) (bv (Ja e) ?_);refine bv (show gj m en e c.fixed c.tp c.sl c.ns c.mode c.R c.Q c.len c.words s.L s.p s.q s.c0 s.c1 s.c2 s.c3 s.z c.X c.T c.l c.k c.P c.tk s.lv s.pk c.words s.W=O s.W from by unfold gj;exact bv (at6 h f) rfl) ?_;exact bv (Gn _ _ _ _ _ _ _ _ _ _ _ _ _ _ _ _ _ g) rfl
theorem as3 (s:Dy)(m:Int)(a b:Bool):i6 m a b c.fixed c.tp c.sl c.ns c.mode c.R c.Q c.len c.words s.L s.p s.q s.c0 s.c1 s.c2 s.c3 s.z c.X c.T c.l c.k c.P c.tk (c.off 8:Int) c.ns (c.X.length:Int) s.lv s.pk c.words s.W=O (Qq c s):=by
 unfold i6;exact bv (Vh s) rfl
theorem bk1 (h:c.Ok)(f:Wd c s.W)(g:s.W.length<=1048576)(m:Int)(en e:Bool):mI m en e c.fixed c.tp c.sl c.ns c.mode c.R c.Q c.len c.words s.L s.p s.q s.c0 s.c1 s.c2 s.c3 s.z c.X c.T c.l c.k c.P c.tk (c.off 8:Int) c.ns (c.X.length:Int) s.lv s.pk c.words s.W=O (PD c s en e):=by
 unfold mI;refine bv (as3 s m en e) ?_;simp only[Qq];refine bv (Ja en) (bv (Ja e) ?_);refine bv (show fc m en e c.fixed c.tp c.sl c.ns c.mode c.R c.Q c.len c.words s.L s.p s.q s.c0 s.c1 s.c2 s.c3 s.z c.X c.T c.l c.k c.P c.tk (c.off 8:Int) c.ns (c.X.length:Int) s.lv s.pk c.words s.W=O s.W from by unfold fc;exact bv (Ue h f) rfl) ?_;exact bv (Gn _ _ _ _ _ _ _ _ _ _ _ _ _ _ _ _ _ g) rfl
theorem as4 (s:Dy)(m:Int)(a b:Bool):i7 m a b c.fixed c.tp c.sl c.ns c.mode c.R c.Q c.len c.words s.L s.p s.q s.c0 s.c1 s.c2 s.c3 s.z c.X c.T c.l c.k c.P c.tk (c.off 8:Int) c.ns (c.X.length:Int) s.lv s.pk c.words s.W=O (Qq c s):=by
 unfold i7;exact bv (Vh s) rfl
theorem bk2 (h:c.Ok)(f:Wd c s.W)(g:s.W.length<=1048576)(m:Int)(en e:Bool):mJ m en e c.fixed c.tp c.sl c.ns c.mode c.R c.Q c.len c.words s.L s.p s.q s.c0 s.c1 s.c2 s.c3 s.z c.X c.T c.l c.k c.P c.tk (c.off 8:Int) c.ns (c.X.length:Int) s.lv s.pk c.words s.W=O (PD c s en e):=by
 unfold mJ;refine bv (as4 s m en e) ?_;simp only[Qq];refine bv (Ja en) (bv (Ja e) ?_);refine bv (show fd m en e c.fixed c.tp c.sl c.ns c.mode c.R c.Q c.len c.words s.L s.p s.q s.c0 s.c1 s.c2 s.c3 s.z c.X c.T c.l c.k c.P c.tk (c.off 8:Int) c.ns (c.X.length:Int) s.lv s.pk c.words s.W=O s.W from by unfold fd;exact bv (Ue h f) rfl) ?_;exact bv (Gn _ _ _ _ _ _ _ _ _ _ _ _ _ _ _ _ _ g) rfl
theorem Jq (f:s.W.length<=1048576)(en e:Bool):jm (PD c s en e)=O (zH zJ c.mode,zH zJ s.L,zH zJ s.p,zH zJ (zH zI (s.q+1)),zH zJ c.ns,zH zJ s.c0,zH zJ s.c1,zH zJ s.c2,zH zJ s.c3,zH zJ s.lv,zH zJ s.pk,s.z,bI en,bI e,0,0,0,s.W):=by
 unfold PD;rw[Nu _ (by rw[Tv rfl];omega),ay8]
theorem Xm (h:c.Ok)(j:c.mode=3)(e:Pl c)(hi:InvB c s)(g:DD B s)(f:B<=2305843009213693952)(x y:Int):
  lj c.mode c.X c.T c.R c.l c.Q c.k c.len c.words s.W (zH zJ c.mode) (zH zJ s.L) (zH zJ s.p) (zH zJ (zH zI (s.q+1))) (zH zJ c.ns) (zH zJ s.c0) (zH zJ s.c1) (zH zJ s.c2) (zH zJ s.c3) (zH zJ s.lv) (zH zJ s.pk) s.z x y 0 0=O (.inr (.inl (Y1 c s))):=aY8 h j e hi g f
theorem OY (h:c.Ok)(m:c.mode≠3)(e:Pl c)(hi:Inv c s)(g:KN c s)(j:DD B s)(f:B<=2305843009213693952)(x y:Int):
  lj c.mode c.X c.T c.R c.l c.Q c.k c.len c.words s.W (zH zJ c.mode) (zH zJ s.L) (zH zJ s.p) (zH zJ (zH zI (s.q+1))) (zH zJ c.ns) (zH zJ s.c0) (zH zJ s.c1) (zH zJ s.c2) (zH zJ s.c3) (zH zJ s.lv) (zH zJ s.pk) s.z x y 0 0=O (.inr (.inr (RK c s))):=aY9 h m e hi g j f
theorem PS {L q:Int}{m:Int}(g:m≠2->en=Zb)(j:0<=q->m=2->en=Za):VX m L q (bI en) (bI Zb)=Za:=by
 unfold VX;cases en with
 |false=>
  have e: ¬(0<=q/\m=2):=λk=>by cases j k.1 k.2
  by_cases f:m=2
  .rw[zA (show¬(m≠2)from λk=>k f),zA (show¬(0<=q)from λk=>e ⟨k,f⟩)];rfl
  .rw[zB (show m≠2 from f)];rfl
 |true=>
  have f:m=2:=Classical.byContradiction λk=>by cases g k
  rw[zA (show¬(m≠2)from λk=>k f)];rfl
theorem am3 (h:c.Ok)(g:c.mode=3)(e:Pl c)(hi:InvB c s)(o:DD B s)(m:B<=2305843009213693952)(f:s.W.length<=1048576):
  ll c.mode c.X c.T c.R c.l c.Q c.k c.len c.words (PD c s Zb Zb)=O (.inr (.inl (c.mode,Zb,Zb,c.fixed,c.tp,c.sl,c.ns,c.mode,c.R,c.Q,c.len,c.words,s.L,s.p,s.q,s.c0,s.c1,s.c2,s.c3,s.z,c.X,c.T,c.l,c.k,c.P,c.tk,s.lv,s.pk,c.words,s.W))):=by
 unfold ll;have j:pU c.mode c.X c.T c.R c.l c.Q c.k c.len c.words (PD c s Zb Zb)=O (.inr (.inl (Y1 c s))):=(Tu f).trans (Xm h g e hi o m _ _);refine bv j ?_;simp only[bg,ej,Y1];refine bv (Jq f Zb Zb) ?_
 refine bv (show pT c.mode c.X c.T c.R c.l c.Q c.k c.len c.words c.fixed c.tp c.sl c.ns c.mode c.R c.Q c.len c.words s.L s.p s.q s.c0 s.c1 s.c2 s.c3 s.z c.X c.T c.l c.k c.P c.tk s.lv s.pk c.words s.W=O (c.mode,Zb,Zb)from by
  simp only[pT,g]
  rfl) ?_
 refine bv (bk6 s c.mode (bI Zb) (bI Zb) Zb Zb) ?_;rw[PS (λ_=>rfl) (λ_ k=>by omega)];rfl
theorem am4 (h:c.Ok)(v:c.mode=1)(e:Pl c)(hi:Inv c s)(r:KN c s)(u:DD B s)(o:B<=2305843009213693952)(f:s.W.length<=1048576)(j:c.mode≠2->en=Zb)(m:0<=s.q->c.mode=2->en=Za):
  ll c.mode c.X c.T c.R c.l c.Q c.k c.len c.words (PD c s en Zb)=O (.inr (.inr (.inl (c.mode,en,Zb,c.fixed,c.tp,c.sl,c.ns,c.mode,c.R,c.Q,c.len,c.words,s.L,s.p,s.q,s.c0,s.c1,s.c2,s.c3,s.z,c.X,c.T,c.l,c.k,c.P,c.tk,(c.off 8:Int),c.ns,(c.X.length:Int),s.lv,s.pk,c.words,s.W)))):=by
 unfold ll;have g:pU c.mode c.X c.T c.R c.l c.Q c.k c.len c.words (PD c s en Zb)=O (.inr (.inr (RK c s))):=(Tu f).trans (OY h (by omega) e hi r u o _ _);refine bv g ?_;simp only[bg,RK];refine bv (Jq f en Zb) ?_
 refine bv (show jl c.mode c.X c.T c.R c.l c.Q c.k c.len c.words c.fixed c.tp c.sl c.ns c.mode c.R c.Q c.len c.words s.L s.p s.q s.c0 s.c1 s.c2 s.c3 s.z c.X c.T c.l c.k c.P c.tk (c.off 8:Int) c.ns (c.X.length:Int) s.lv s.pk c.words s.W=O (.inl (c.mode,Zb,Zb))from by
  simp only[jl,v]
  rfl) ?_
 rw[ej];refine bv (bk7 h (by omega) s hi c.mode (bI en) (bI Zb) Zb Zb) ?_;rw[PS j m];cases en<;>rfl
theorem am5 (h:c.Ok)(v:c.mode=2)(e:Pl c)(hi:Inv c s)(r:KN c s)(u:DD B s)(o:B<=2305843009213693952)(f:s.W.length<=1048576)(j:c.mode≠2->en=Zb)(m:0<=s.q->c.mode=2->en=Za):
  ll c.mode c.X c.T c.R c.l c.Q c.k c.len c.words (PD c s en Zb)=O (.inr (.inr (.inr (c.mode,en,Zb,c.fixed,c.tp,c.sl,c.ns,c.mode,c.R,c.Q,c.len,c.words,s.L,s.p,s.q,s.c0,s.c1,s.c2,s.c3,s.z,c.X,c.T,c.l,c.k,c.P,c.tk,(c.off 8:Int),c.ns,(c.X.length:Int),s.lv,s.pk,c.words,s.W)))):=by
 unfold ll;have g:pU c.mode c.X c.T c.R c.l c.Q c.k c.len c.words (PD c s en Zb)=O (.inr (.inr (RK c s))):=(Tu f).trans (OY h (by omega) e hi r u o _ _);refine bv g ?_;simp only[bg,RK];refine bv (Jq f en Zb) ?_
 refine bv (show jl c.mode c.X c.T c.R c.l c.Q c.k c.len c.words c.fixed c.tp c.sl c.ns c.mode c.R c.Q c.len c.words s.L s.p s.q s.c0 s.c1 s.c2 s.c3 s.z c.X c.T c.l c.k c.P c.tk (c.off 8:Int) c.ns (c.X.length:Int) s.lv s.pk c.words s.W=O (.inr (c.mode,Zb,Zb))from by
  simp only[jl,v]
  rfl) ?_
 rw[bg];refine bv (bk8 h (by omega) s hi c.mode (bI en) (bI Zb) Zb Zb) ?_;rw[PS j m];cases en<;>rfl
end
end
section
open Bool renaming not_true -> aB
section
variable {c:Cx} (h:c.Ok)
def QE (c:Cx)(en:Bool)(s:Dy):Prop:=(c.mode≠2->en=Zb)/\(0<=s.q->c.mode=2->en=Za)
theorem ay7 :QE c Zb (Ul c):=⟨λ_=>rfl,λe _=>by
 have:(Ul c).q= -1:=by unfold Ul;split<;>rfl
 omega⟩
include h
theorem X9 (w:ei c i s)(Q:QE c en s)(e:yz c en s=O a)(m:J8 c a s):QE c en (zk c a s):=by
 refine⟨Q.1,λo p=> ?_⟩;by_cases y:0<=s.q
 .exact Q.2 y p
 have r: ¬c.mode=3:=by omega
 unfold yz at e;unfold J8 at m;unfold zk at o;unfold ei at w;rw[zF r]at e m o w;rw[zE p]at e;obtain⟨u,m⟩:=m;have f:=(TP h r w.inv m).2;have z:(HF c a.1 a.2 s).2.q=u.q:=congrArg Mc.q f
 have j:a.1=1∨a.1=2∨a.1=4∨en=Za:=by
  unfold Rn at e;simp only at e;rw[zE (show(B4 c s).q<0 by show s.q<0;omega)]at e;split at e
  .injection e with e;subst e;exact .inl rfl
  .split at e
   .injection e with e;subst e;exact .inr (.inr (.inl rfl))
   .split at e
    .injection e with e;subst e;exact .inr (.inl rfl)
    .split at e
     .rename_i v;exact .inr (.inr (.inr v))
     .cases e
 have g:a.1=1∨a.1=2∨a.1=4->u.q=s.q:=λk=>by
  unfold Uh at m;rcases k with k|k|k
  all_goals
   rw[k]at m;simp only[Int.reduceEq,if_false,if_true]at m;split at m
   .injection m with m;subst m;rfl
   .cases m
 rcases j with k|k|k|k
 .have:=g (.inl k);omega
 .have:=g (.inr (.inl k));omega
 .have:=g (.inr (.inr k));omega
 .exact k
theorem Xr (s:Dy)(g:Int)(en e:Bool):pt g en e c.fixed c.tp c.sl c.ns c.mode c.R c.Q c.len c.words s.L s.p s.q s.c0 s.c1 s.c2 s.c3 s.z c.X c.T c.l c.k c.P c.tk s.lv s.pk c.words s.W=O (match nxB s with|some a=>(a.1,Za)|none=>(0,Zb)):=by
 unfold pt;refine bv (TR s g en e) ?_;rw[show ja g en e c.fixed c.tp c.sl c.ns c.mode c.R c.Q c.len c.words s.L s.p s.q s.c0 s.c1 s.c2 s.c3 s.z c.X c.T c.l c.k c.P c.tk s.lv s.pk c.words s.W=O s.L from rfl];unfold nxB;by_cases c1:s.q<0
 .by_cases c2:s.p<s.L
  .simp only[zG,zB c1,zC,zB c2,zE c1,zE c2]
  .simp only[zG,zB c1,zC,zA c2,zE c1,zF c2,zD]
 .by_cases c2:0<s.q
  .simp only[zG,zA c1,zC,zB c2,zF c1,zE c2,zD]
  .simp only[zG,zA c1,zC,zA c2,zF c1,zF c2,zD]
omit h in
theorem aU7 (e:nxB s=O a):a.2=0:=by
 unfold nxB at e;split at e
 .split at e<;>(injection e with e;subst e;rfl)
 .split at e
  .injection e with e;subst e;rfl
  .cases e
omit h in
theorem aw4 (e:c.mode=3)(en:Bool)(s:Dy):yz c en s=nxB s:=by unfold yz;rw[zE e]
theorem bB2 (f:c.mode=3)(r:i<=1000000)(w:ei c i s)(e:yz c en s=O a)(m:J8 c a s):
  il c.mode en Zb c.fixed c.tp c.sl c.ns c.mode c.R c.Q c.len c.words s.L s.p s.q s.c0 s.c1 s.c2 s.c3 s.z c.X c.T c.l c.k c.P c.tk s.lv s.pk c.words s.W=O (a.1,Za,0,c.fixed,c.tp,c.sl,c.ns,c.mode,c.R,c.Q,c.len,c.words,(zk c a s).L,(zk c a s).p,(zk c a s).q,(zk c a s).c0,(zk c a s).c1,(zk c a s).c2,(zk c a s).c3,(zk c a s).z,(zk c a s).lv,(zk c a s).pk,c.words,(zk c a s).W):=by
 have g:=w;unfold ei at g;rw[zE f]at g;rw[aw4 f]at e;have j:=aU7 e;unfold J8 at m;rw[zE f,j]at m;have o:zk c a s=(N8 c a.1 0 s).2:=by unfold zk;rw[zE f,j]
 unfold il;rw[zD];refine bv (Xr h s c.mode en Zb) ?_;rw[e];show cond (!Za) _ _=_;rw[aB,zD];refine bv (do1 h f g.inv g.cnt (by omega)) ?_;show cond (Zc ((N8 c a.1 0 s).1≠0)) _ _=_;rw[m,o];rfl
theorem bA9 (f:c.mode=3)(w:ei c i s)(e:yz c en s=Y):
  il c.mode en Zb c.fixed c.tp c.sl c.ns c.mode c.R c.Q c.len c.words s.L s.p s.q s.c0 s.c1 s.c2 s.c3 s.z c.X c.T c.l c.k c.P c.tk s.lv s.pk c.words s.W=O (0,Zb,0,c.fixed,c.tp,c.sl,c.ns,c.mode,c.R,c.Q,c.len,c.words,s.L,s.p,s.q,s.c0,s.c1,s.c2,s.c3,s.z,s.lv,s.pk,c.words,s.W):=by
 have g:=w;unfold ei at g;rw[zE f]at g;rw[aw4 f]at e;unfold il;rw[zD];refine bv (Xr h s c.mode en Zb) ?_;rw[e];rfl
theorem bp2 (e:c.mode=3)(w:ei c i s):
  mw c.mode en Zb c.fixed c.tp c.sl c.ns c.mode c.R c.Q c.len c.words s.L s.p s.q s.c0 s.c1 s.c2 s.c3 s.z c.X c.T c.l c.k c.P c.tk s.lv s.pk c.words s.W=O (yz c en s).isNone:=by
 have f:=w;unfold ei at f;rw[zE e]at f;rw[aw4 e];unfold mw;rw[zD];refine bv (Xr h s c.mode en Zb) ?_;cases nxB s<;>rfl
theorem bp9 (e:c.mode=3)(w:ei c i s):
  mv c.mode en Zb c.fixed c.tp c.sl c.ns c.mode c.R c.Q c.len c.words s.L s.p s.q s.c0 s.c1 s.c2 s.c3 s.z c.X c.T c.l c.k c.P c.tk s.lv s.pk c.words s.W=O ((yz c en s).isNone&&(Zc (c.mode=2)&& !en)):=by
 unfold mv;refine bv (bp2 h e w) ?_;cases(yz c en s).isNone<;>cases Zc (c.mode=2)<;>cases en<;>rfl
theorem bz1 (e:c.mode=3)(w:ei c i s):
  mU c.mode en Zb c.fixed c.tp c.sl c.ns c.mode c.R c.Q c.len c.words s.L s.p s.q s.c0 s.c1 s.c2 s.c3 s.z c.X c.T c.l c.k c.P c.tk s.lv s.pk c.words s.W=O ((yz c en s).isNone&&Zc (s.q=0)):=by
 have f:=w;unfold ei at f;rw[zE e]at f;unfold mU;refine bv (bp2 h e w) ?_;cases(yz c en s).isNone with
 |false=>rfl
 |true=>
  rw[zC];refine bv (TR s c.mode en Zb) ?_;rfl
omit h in
theorem aK6 (e:c.mode=1)(en:Bool)(s:Dy):yz c en s=Uo (B4 c s):=by unfold yz;rw[Zh,Zh]
theorem bB3 (r:c.mode=1)(u:1<=c.ns)(o:i<=1000000)(w:ei c i s)(e:yz c en s=O a)(m:J8 c a s):
  fy c.mode en Zb c.fixed c.tp c.sl c.ns c.mode c.R c.Q c.len c.words s.L s.p s.q s.c0 s.c1 s.c2 s.c3 s.z c.X c.T c.l c.k c.P c.tk (c.off 8:Int) c.ns (c.X.length:Int) s.lv s.pk c.words s.W=O (a.1,a.2,Za,0,c.fixed,c.tp,c.sl,c.ns,c.mode,c.R,c.Q,c.len,c.words,(zk c a s).L,(zk c a s).p,(zk c a s).q,(zk c a s).c0,(zk c a s).c1,(zk c a s).c2,(zk c a s).c3,(zk c a s).z,(zk c a s).lv,(zk c a s).pk,c.words,(zk c a s).W):=by
 have f:=w;unfold ei at f;rw[Zh]at f;rw[aK6 r]at e;unfold J8 at m;rw[Zh]at m;obtain⟨v,m⟩:=m;have j:=(TP h (by omega) f.inv m).1;have g:zk c a s=(HF c a.1 a.2 s).2:=by unfold zk;rw[Zh]
 unfold fy;rw[zD];refine bv (X2 h (by omega) u f.inv c.mode en Zb) ?_;rw[e];show cond (!Za) _ _=_;rw[aB,zD];refine bv (do2 h (by omega) f.inv f.cnt (by omega)) ?_;show cond (Zc ((HF c a.1 a.2 s).1≠0)) _ _=_;rw[j,g];rfl
theorem bB0 (g:c.mode=1)(j:1<=c.ns)(w:ei c i s)(e:yz c en s=Y):
  fy c.mode en Zb c.fixed c.tp c.sl c.ns c.mode c.R c.Q c.len c.words s.L s.p s.q s.c0 s.c1 s.c2 s.c3 s.z c.X c.T c.l c.k c.P c.tk (c.off 8:Int) c.ns (c.X.length:Int) s.lv s.pk c.words s.W=O (0,0,Zb,0,c.fixed,c.tp,c.sl,c.ns,c.mode,c.R,c.Q,c.len,c.words,s.L,s.p,s.q,s.c0,s.c1,s.c2,s.c3,s.z,s.lv,s.pk,c.words,s.W):=by
 have f:=w;unfold ei at f;rw[Zh]at f;rw[aK6 g]at e;unfold fy;rw[zD];refine bv (X2 h (by omega) j f.inv c.mode en Zb) ?_;rw[e];rfl
theorem bp3 (f:c.mode=1)(g:1<=c.ns)(w:ei c i s):
  kq c.mode en Zb c.fixed c.tp c.sl c.ns c.mode c.R c.Q c.len c.words s.L s.p s.q s.c0 s.c1 s.c2 s.c3 s.z c.X c.T c.l c.k c.P c.tk (c.off 8:Int) c.ns (c.X.length:Int) s.lv s.pk c.words s.W=O (yz c en s).isNone:=by
 have e:=w;unfold ei at e;rw[Zh]at e;rw[aK6 f];unfold kq;rw[zD];refine bv (X2 h (by omega) g e.inv c.mode en Zb) ?_;cases Uo (B4 c s)<;>rfl
theorem bq0 (e:c.mode=1)(f:1<=c.ns)(w:ei c i s):
  kn c.mode en Zb c.fixed c.tp c.sl c.ns c.mode c.R c.Q c.len c.words s.L s.p s.q s.c0 s.c1 s.c2 s.c3 s.z c.X c.T c.l c.k c.P c.tk (c.off 8:Int) c.ns (c.X.length:Int) s.lv s.pk c.words s.W=O ((yz c en s).isNone&&(Zc (c.mode=2)&& !en)):=by
 unfold kn;refine bv (bp3 h e f w) ?_;cases(yz c en s).isNone<;>cases Zc (c.mode=2)<;>cases en<;>rfl
theorem bz2 (f:c.mode=1)(g:1<=c.ns)(w:ei c i s):
  lr c.mode en Zb c.fixed c.tp c.sl c.ns c.mode c.R c.Q c.len c.words s.L s.p s.q s.c0 s.c1 s.c2 s.c3 s.z c.X c.T c.l c.k c.P c.tk (c.off 8:Int) c.ns (c.X.length:Int) s.lv s.pk c.words s.W=O ((yz c en s).isNone&&Zc (s.q=0)):=by
 have e:=w;unfold ei at e;rw[Zh]at e;unfold lr;refine bv (bp3 h f g w) ?_;cases(yz c en s).isNone with
 |false=>rfl
 |true=>
  rw[zC];refine bv (XJ h (by omega) s e.inv c.mode en Zb) ?_;rfl
omit h in
theorem aK7 (e:c.mode=2)(en:Bool)(s:Dy):yz c en s=Rn en (B4 c s):=by unfold yz;rw[Zh,zE e]
theorem bB4 (r:c.mode=2)(u:1<=c.ns)(o:i<=1000000)(w:ei c i s)(e:yz c en s=O a)(m:J8 c a s):
  ga c.mode en Zb c.fixed c.tp c.sl c.ns c.mode c.R c.Q c.len c.words s.L s.p s.q s.c0 s.c1 s.c2 s.c3 s.z c.X c.T c.l c.k c.P c.tk (c.off 8:Int) c.ns (c.X.length:Int) s.lv s.pk c.words s.W=O (a.1,a.2,Za,0,c.fixed,c.tp,c.sl,c.ns,c.mode,c.R,c.Q,c.len,c.words,(zk c a s).L,(zk c a s).p,(zk c a s).q,(zk c a s).c0,(zk c a s).c1,(zk c a s).c2,(zk c a s).c3,(zk c a s).z,(zk c a s).lv,(zk c a s).pk,c.words,(zk c a s).W):=by
 have f:=w;unfold ei at f;rw[Zh]at f;rw[aK7 r]at e;unfold J8 at m;rw[Zh]at m;obtain⟨v,m⟩:=m;have j:=(TP h (by omega) f.inv m).1;have g:zk c a s=(HF c a.1 a.2 s).2:=by unfold zk;rw[Zh]
 unfold ga;rw[zD];refine bv (ax6 h (by omega) u f.inv c.mode en Zb) ?_;rw[e];show cond (!Za) _ _=_;rw[aB,zD];refine bv (do2 h (by omega) f.inv f.cnt (by omega)) ?_;show cond (Zc ((HF c a.1 a.2 s).1≠0)) _ _=_;rw[j,g];rfl
theorem bB1 (g:c.mode=2)(j:1<=c.ns)(w:ei c i s)(e:yz c en s=Y):
  ga c.mode en Zb c.fixed c.tp c.sl c.ns c.mode c.R c.Q c.len c.words s.L s.p s.q s.c0 s.c1 s.c2 s.c3 s.z c.X c.T c.l c.k c.P c.tk (c.off 8:Int) c.ns (c.X.length:Int) s.lv s.pk c.words s.W=O (0,0,Zb,0,c.fixed,c.tp,c.sl,c.ns,c.mode,c.R,c.Q,c.len,c.words,s.L,s.p,s.q,s.c0,s.c1,s.c2,s.c3,s.z,s.lv,s.pk,c.words,s.W):=by
 have f:=w;unfold ei at f;rw[Zh]at f;rw[aK7 g]at e;unfold ga;rw[zD];refine bv (ax6 h (by omega) j f.inv c.mode en Zb) ?_;rw[e];rfl
theorem bp4 (f:c.mode=2)(g:1<=c.ns)(w:ei c i s):
  kr c.mode en Zb c.fixed c.tp c.sl c.ns c.mode c.R c.Q c.len c.words s.L s.p s.q s.c0 s.c1 s.c2 s.c3 s.z c.X c.T c.l c.k c.P c.tk (c.off 8:Int) c.ns (c.X.length:Int) s.lv s.pk c.words s.W=O (yz c en s).isNone:=by
 have e:=w;unfold ei at e;rw[Zh]at e;rw[aK7 f];unfold kr;rw[zD];refine bv (ax6 h (by omega) g e.inv c.mode en Zb) ?_;cases Rn en (B4 c s)<;>rfl
theorem aR8 (e:c.mode=2)(f:1<=c.ns)(w:ei c i s):
  ko c.mode en Zb c.fixed c.tp c.sl c.ns c.mode c.R c.Q c.len c.words s.L s.p s.q s.c0 s.c1 s.c2 s.c3 s.z c.X c.T c.l c.k c.P c.tk (c.off 8:Int) c.ns (c.X.length:Int) s.lv s.pk c.words s.W=O ((yz c en s).isNone&&(Zc (c.mode=2)&& !en)):=by
 unfold ko;refine bv (bp4 h e f w) ?_;cases(yz c en s).isNone<;>cases Zc (c.mode=2)<;>cases en<;>rfl
theorem bz3 (f:c.mode=2)(g:1<=c.ns)(w:ei c i s):
  lu c.mode en Zb c.fixed c.tp c.sl c.ns c.mode c.R c.Q c.len c.words s.L s.p s.q s.c0 s.c1 s.c2 s.c3 s.z c.X c.T c.l c.k c.P c.tk (c.off 8:Int) c.ns (c.X.length:Int) s.lv s.pk c.words s.W=O ((yz c en s).isNone&&Zc (s.q=0)):=by
 have e:=w;unfold ei at e;rw[Zh]at e;unfold lu;refine bv (bp4 h f g w) ?_;cases(yz c en s).isNone with
 |false=>rfl
 |true=>
  rw[zC];refine bv (XL h (by omega) s e.inv c.mode en Zb) ?_;rfl
theorem fdm (j:c.mode=2)(m:1<=c.ns)(w:ei c i s)(e:yz c Zb s=Y)(r:s.q= -1)(o:s.L<65535):
  fp Za c.mode Zb Zb c.fixed c.tp c.sl c.ns c.mode c.R c.Q c.len c.words s.L s.p s.q s.c0 s.c1 s.c2 s.c3 s.z c.X c.T c.l c.k c.P c.tk (c.off 8:Int) c.ns (c.X.length:Int) s.lv s.pk c.words s.W=O (0,c.mode,Zb,Zb,c.fixed,c.tp,c.sl,c.ns,c.mode,c.R,c.Q,c.len,c.words,(yr s).L,(yr s).p,(yr s).q,(yr s).c0,(yr s).c1,(yr s).c2,(yr s).c3,(yr s).z):=by
 have g:=w;unfold ei at g;rw[Zh]at g
 have f:qh c s=(0,yr s):=by
  unfold qh;rw[Zh,Zh,Zh];rfl
 unfold fp;rw[zD];refine bv (aR8 h j m w) ?_;rw[e,zB j];show cond (!Za) _ _=_;rw[aB,zD,zD];refine bv (bl1 g.inv.L) ?_;rw[f];rfl
theorem fds (f:c.mode=2)(g:1<=c.ns)(w:ei c i s)(e:yz c Zb s=Y):
  fp Zb c.mode Zb Zb c.fixed c.tp c.sl c.ns c.mode c.R c.Q c.len c.words s.L s.p s.q s.c0 s.c1 s.c2 s.c3 s.z c.X c.T c.l c.k c.P c.tk (c.off 8:Int) c.ns (c.X.length:Int) s.lv s.pk c.words s.W=O (0,c.mode,Za,Zb,c.fixed,c.tp,c.sl,c.ns,c.mode,c.R,c.Q,c.len,c.words,s.L,s.p,s.q,s.c0,s.c1,s.c2,s.c3,s.z):=by
 unfold fp;rw[zD];refine bv (aR8 h f g w) ?_;rw[e,zB f];rfl
end
end
end Go.V
