/- A part of the proof. No condition. -/
import Derived.Test.YtekbakifagogaaaGreatDoorL4
import Derived.Test.YtekbakifagogaaaGreatDoorD3
set_option linter.unusedVariables false
set_option linter.unusedSimpArgs false
set_option linter.unusedSectionVars false
namespace Go.V
open Go.Ab
open Option renaming some->O,none->Y
open Bool renaming true->Za,false->Zb
open Decidable renaming decide->Zc
variable {W t:Zd}{a b d d' f i j k l s:Nat}{x:Int}{en:Bool}
section
open Int renaming toNat_natCast -> bD
open List renaming getElem?_eq_getElem -> aB, getElem?_eq_none -> cB, map_congr_left -> cD
open Nat renaming mul_div_cancel -> aD, pow_succ -> bB, mul_le_mul_left -> cK, one_lt_two_pow -> cL, pow_le_pow_right -> cM
structure IsStr (k s d:Nat):Prop where
 pw: ∃e,d=2 ^ e
 gt:k<s*d
 lo:d=1∨s*(d / 2)<=k
theorem IsStr.pos (h:IsStr k s d):1<=d:=by
 obtain⟨e,rfl⟩:=h.pw;exact Nat.one_le_two_pow
theorem IsStr.eq (h:IsStr k s d)(m:IsStr k s d'):d=d':=by
 have o: ∀{d d':Nat},IsStr k s d->IsStr k s d'->¬d<d':=λ{d d'} h m p=>by
  obtain⟨e,rfl⟩:=h.pw;obtain⟨g,rfl⟩:=m.pw;have y:e<g:=(Nat.pow_lt_pow_iff_right (by omega)).1 p;have q:2 ^ e<=2 ^ (g-1):=cM (by omega) (by omega)
  have r:2 ^ g / 2=2 ^ (g-1):=by
   conv=>lhs;rw[show g=(g-1)+1 by omega,bB]
   exact aD _ (by omega)
  have u:=h.gt;have v:s*2 ^ e<=s*2 ^ (g-1):=cK _ q;have w:1<2 ^ g:=cL (by omega);rcases m.lo with h6|h6
  .omega
  .rw[r]at h6;omega
 have:=o h m;have:=o m h;omega
def wb (k s:Nat):Nat:=2 ^ (((List.range 17).find? λe=>Zc (k<s*2 ^ e)).getD 0)
theorem vk (q:k<65536)(r:1<=s):IsStr k s (wb k s):=by
 unfold wb;cases h:(List.range 17).find? λe=>Zc (k<s*2 ^ e)with
 |none=>
  have:=List.find?_eq_none.1 h 16 (List.mem_range.2 (by omega));simp only[decide_eq_true_eq]at this;omega
 |some e=>
  obtain⟨g,m⟩:=List.find?_range_eq_some.1 h;have g:=of_decide_eq_true g;refine⟨⟨e,rfl⟩,g, ?_⟩;rcases Nat.eq_zero_or_pos e with he|he
  .left;subst he;rfl
  .right;have o:=m.2 (e-1) (by omega);simp only[Bool.not_eq_true',decide_eq_false_iff_not]at o;show s*(2 ^ e / 2)<=k
   have p:2 ^ e / 2=2 ^ (e-1):=by
    conv=>lhs;rw[show e=(e-1)+1 by omega,bB]
    exact aD _ (by omega)
   rw[p];omega
theorem IsStr.next (h:IsStr k s d)(m:IsStr (k+1) s d'):d ∣ d':=by
 obtain⟨e,rfl⟩:=h.pw;obtain⟨g,rfl⟩:=m.pw;refine Nat.pow_dvd_pow 2 ?_;rcases Nat.lt_or_ge g e with q|hge
 .exfalso;have o:2 ^ g<=2 ^ (e-1):=cM (by omega) (by omega)
  have p:2 ^ e / 2=2 ^ (e-1):=by
   conv=>lhs;rw[show e=(e-1)+1 by omega,bB]
   exact aD _ (by omega)
  have u:1<2 ^ e:=cL (by omega);have r:s*2 ^ g<=s*2 ^ (e-1):=cK _ o;have v:=m.gt;rcases h.lo with h7|h7
  .omega
  .rw[p]at h7;omega
 .exact hge
def al4 (d:Nat)(t:Zd):Zd:=t.filter λx=>Zc (0<=x/\x % (d:Int)≠0)
def SI (d:Nat)(t:Zd):Option Int:=(al4 d t).min?
def qG (e:Bool)(m:Mc):Option (Int×Int):=
 let d:=wb m.L.toNat m.t.length
 if m.q<0 then
  (if m.p<m.L then O (1,m.L-m.p)
  else match SI d m.t with
   |some x=>O (4,zP m.t x)
   |none=>if m.L % (d:Int)=0/\m.L∉m.t/\(-1:Int)∈m.t then O (2,zP m.t (-1))else if e then O (5,0)else Y)
 else if 0<=mP m.t/\m.q<=mP m.t then O (4,zP m.t (mP m.t))
 else if m.q=0 then Y
 else if m.p=m.q-1 then O (7,0)
 else if 0<=mP m.t/\(m.p<mP m.t∨m.q<=m.p)then O (3,zP m.t (mP m.t))
 else if m.p<m.q then O (1,m.q-1-m.p)
 else Y
structure Gd (k:Nat)(t:Zd)(d:Nat):Prop where
 ins: ∀x∈t,x= -1∨(0<=x/\x<k/\x % (d:Int)=0)
 all: ∀j:Nat,j<k->j % d=0->(j:Int)∈t
 one: ∀i j (hi:i<t.length) (hj:j<t.length),t[i]=t[j]->0<=t[i]->i=j
theorem Er (h:x∈t): ∃e:zP t x<t.length,t[zP t x]=x:=by
 have e:zP t x<t.length:=List.findIdx_lt_length_of_exists ⟨x,h,zB rfl⟩;exact⟨e,of_decide_eq_true (List.findIdx_getElem (w:=e))⟩
def frd (d n:Nat)(t:Zd):Zd:=t.map λx=>if 0<=x/\x<(n:Int)/\x % (d:Int)≠0 then-1 else x
def Qf (d:Nat):Nat->Zd->List (Int×Int)×Zd
 |0,t=>([],t)
 |n+1,t=>if n % d≠0/\(n:Int)∈(Qf d n t).2 then((Qf d n t).1++[(4,(zP (Qf d n t).2 n:Int))],(Qf d n t).2.set (zP (Qf d n t).2 n) (-1))else Qf d n t
theorem aI6 (t:Zd):frd d 0 t=t:=by
 unfold frd
 conv=>rhs;rw[<-List.map_id t]
 refine cD λx e=> ?_
 rw[Zh];rfl
theorem GQ {n:Nat}(hi:i<t.length):(frd d n t)[i]?=O (if 0<=t[i]/\t[i]<(n:Int)/\t[i] % (d:Int)≠0 then-1 else t[i]):=by
 unfold frd;rw[List.getElem?_map,aB hi];rfl
theorem rG {n:Nat}:(frd d n t).length=t.length:=by unfold frd;rw[List.length_map]
theorem TO {n:Nat}(m:0<=x):x∈frd d n t↔x∈t/\¬(x<(n:Int)/\x % (d:Int)≠0):=by
 unfold frd;rw[List.mem_map];constructor
 .rintro⟨y,g,e⟩;by_cases h:0<=y/\y<(n:Int)/\y % (d:Int)≠0
  .rw[zE h]at e;omega
  .rw[zF h]at e;subst e;exact⟨g,by omega⟩
 .rintro⟨g,h⟩;exact⟨x,g,zF (by omega)⟩
theorem Qg {n:Nat}(r: ∀i j (hi:i<t.length) (w:j<t.length),t[i]=t[j]->0<=t[i]->i=j)(y:n % d≠0)(u:(n:Int)∈frd d n t):(frd d n t).set (zP (frd d n t) n) (-1)=frd d (n+1) t:=by
 obtain⟨o,e⟩:=Er u;generalize zP (frd d n t) n=k at*;have q:k<t.length:=by rw[rG]at o;exact o
 have m:=GQ (d:=d) (n:=n) q;rw[aB o,e]at m;injection m with m
 have p:t[k]=(n:Int):=by
  by_cases h:0<=t[k]/\t[k]<(n:Int)/\t[k] % (d:Int)≠0
  .rw[zE h]at m;omega
  .rw[zF h]at m;exact m.symm
 apply List.ext_getElem?;intro i;by_cases hi:i<t.length
 .rw[GQ hi,List.getElem?_set];by_cases g:k=i
  .subst g;rw[zE rfl,zE o,p,zE ⟨by omega,by omega,by omega⟩]
  .rw[zF g,GQ hi];have v:t[i]≠(n:Int):=λh=>g (r k i q hi (by rw[p,h]) (by omega))
   by_cases h:0<=t[i]/\t[i]<(n:Int)/\t[i] % (d:Int)≠0
   .rw[zE h,Zg]
   .rw[zF h,Zh]
 .rw[cB (by rw[List.length_set,rG];omega),cB (by rw[rG];omega)]
theorem XA {n:Nat}(h: ¬(n % d≠0/\(n:Int)∈frd d n t)):frd d n t=frd d (n+1) t:=by
 unfold frd at*;refine cD λx m=> ?_
 by_cases g:0<=x/\x<(n:Int)/\x % (d:Int)≠0
 .rw[zE g,Zg]
 .rw[zF g,zF];intro o;have e:x=(n:Int):=by omega
  subst e;refine h ⟨by omega, ?_⟩;exact List.mem_map.2 ⟨_,m,zF g⟩
theorem QF :x∈al4 d t↔x∈t/\0<=x/\x % (d:Int)≠0:=by
 unfold al4;rw[List.mem_filter,decide_eq_true_eq]
theorem QD (h:x∈t)(e:0<=x/\x % (d:Int)≠0)(g: ∀y∈t,0<=y->y % (d:Int)≠0->x<=y):SI d t=O x:=by
 unfold SI;rw[List.min?_eq_some_iff];exact⟨QF.2 ⟨h,e⟩,λy m=>by have:=QF.1 m;exact g y this.1 this.2.1 this.2.2⟩
theorem Lh (h: ∀y∈t,0<=y->y % (d:Int)=0):SI d t=Y:=by
 unfold SI
 have:al4 d t=[]:=List.filter_eq_nil_iff.2 λx e=>by
  have:=h x e;simp only[decide_eq_true_eq];omega
 rw[this];rfl
theorem YI {k d s:Nat}{t:Zd}{en:Bool}(q:d=wb k s)(r:t.length=s)(o: ∀i j (hi:i<t.length) (z:j<t.length),t[i]=t[j]->0<=t[i]->i=j): ∀n,(Qf d n t).2=frd d n t/\Run (qG en) ⟨k,k,-1,t⟩ (Qf d n t).1 ⟨k,k,-1,frd d n t⟩
 |0=>by rw[aI6];exact⟨rfl, .nil _⟩
 |n+1=>by
  obtain⟨g,m⟩:=YI (en:=en) q r o n;unfold Qf;rw[g];by_cases h:n % d≠0/\(n:Int)∈frd d n t
  .rw[zE h,Qg o h.1 h.2];refine⟨rfl,m.append (.one ?_ ?_)⟩
   .unfold qG;simp only;rw[Zg,Zh,rG,r,bD,<-q,QD h.2 (by omega) λy v u w=>by have:=(TO u).1 v;omega]
   .obtain⟨p,e⟩:=Er h.2;unfold K9;simp only[Int.reduceEq,if_false,if_true,bD];rw[List.getD_eq_getElem?_getD,aB p,e];simp only[Option.getD_some];rw[Zg,Qg o h.1 h.2]
  .rw[zF h,<-XA h];exact⟨g,m⟩
theorem Lg : ∀(N:Nat) (l:List Nat),l.Nodup->(∀x∈l,x<N)->l.length<=N
 |0,l,_,h=>by
  cases l with
  |nil=>exact Nat.le_refl _
  |cons x r=>have:=h x (List.mem_cons_self ..);omega
 |N+1,l,m,h=>by
  by_cases o:N∈l
  .have:=Lg N (l.erase N) (m.erase N) λx g=>by
    have p:=h x (List.mem_of_mem_erase g);have q:x≠N:=λe=>by subst e;exact(List.Nodup.not_mem_erase m) g
    omega
   rw[List.length_erase_of_mem o]at this;omega
  .have:=Lg N l m λx g=>by
    have p:=h x g;have q:x≠N:=λe=>o (e▸g)
    omega
   omega
end
section
open Go.IntKind renaming wrap -> zH, i64 -> zI, u64 -> zJ
open Int renaming natCast_add -> aB, eq_ofNat_of_zero_le -> cB
open IntKind renaming bits -> cD
open Nat renaming min_eq_left -> aD, mul_le_mul -> bB, min_eq_right -> bD, add_sub_cancel -> cK
theorem wUn {n:Nat}(h:n<18446744073709551616):zH zJ (n:Int)=(n:Int):=cd (by omega)
theorem aL2 {n:Nat}(h:n<=9223372036854775807):zH zI (n:Int)=(n:Int):=ad (by omega)
theorem HH (o:a<18446744073709551616):tH .u64 (· &&& ·) (a:Int) 4294967295=((a % 4294967296:Nat):Int):=by
 have e:BitVec.ofInt 64 (a:Int)&&& BitVec.ofInt 64 4294967295=BitVec.ofNat 64 (a % 4294967296):=by
  apply BitVec.eq_of_toNat_eq;rw[BitVec.toNat_and,BitVec.toNat_ofInt,BitVec.toNat_ofInt,BitVec.toNat_ofNat];have g:((a:Int) % ((2 ^ 64:Nat):Int)).toNat=a:=by omega
  have m:((4294967295:Int) % ((2 ^ 64:Nat):Int)).toNat=2 ^ 32-1:=by decide
  rw[g,m,Nat.and_two_pow_sub_one_eq_mod];omega
 unfold tH;show zH zJ ((BitVec.ofInt 64 (a:Int)&&& BitVec.ofInt 64 4294967295).toNat:Int)=_;rw[e,BitVec.toNat_ofNat,Zj];omega
theorem Qd (a:Nat):Int.fdiv (a:Int) (2 ^ (min (Int.toNat 32) (cD .u64)))=((a / 4294967296:Nat):Int):=by
 rw[show(2:Int) ^ (min (Int.toNat 32) (cD .u64))=4294967296 from rfl,Int.fdiv_eq_ediv_of_nonneg _ (by omega)];rfl
theorem aJ8 (m:a<=1099511627776)(g:b<=4194304):oZ (a:Int) (b:Int)=O (0,((a*b:Nat):Int)):=by
 have o:a / 4294967296*b<=256*4194304:=bB (by omega) g;have r:a % 4294967296*b<=4294967295*4194304:=bB (by omega) g;have u:a*b<=1099511627776*4194304:=bB m g;have e: ∀{n:Nat},n<18446744073709551616->IntKind.u64.wrap (n:Int)=(n:Int):=λh=>cd (by omega)
 unfold oZ;rw[Qd a,Qd b,HH (a:=a) (by omega),HH (a:=b) (by omega),show b / 4294967296=0 by omega,show b % 4294967296=b by omega];simp only[<-Int.natCast_mul];rw[e (n:=a % 4294967296*b) (by omega),e (n:=a / 4294967296*b) (by omega),e (n:=a / 4294967296*0) (by omega),e (n:=a % 4294967296*0) (by omega),e (n:=a*b) (by omega),Qd];simp only[<-aB];generalize a / 4294967296*b=p at*;generalize a % 4294967296*b=q at*;rw[e (n:=p+q / 4294967296) (by omega),Qd,HH (by omega)];simp only[<-aB,Nat.mul_zero,Nat.add_zero,Nat.zero_add];rw[e (n:=(p+q / 4294967296) % 4294967296) (by omega),Qd,e (n:=(p+q / 4294967296) / 4294967296) (by omega)];simp only[<-aB];rw[e (by omega),show(p+q / 4294967296) / 4294967296+(p+q / 4294967296) % 4294967296 / 4294967296=0 by omega];rfl
theorem aI0 (e:a<18446744073709551616)(g:1<=b):oY 0 (a:Int) (b:Int)=O (((a / b:Nat):Int),((a % b:Nat):Int)):=by
 unfold oY;have:=Nat.div_le_self a b;rw[Ze,zD,Ze,zD,zB rfl,zC,Zf,bz,bz,show Int.tdiv (a:Int) (b:Int)=((a / b:Nat):Int)from rfl,show Int.tmod (a:Int) (b:Int)=((a % b:Nat):Int)from rfl,wUn (Nat.lt_of_le_of_lt this e)]
theorem dy (e:a<=1099511627776)(g:b<=4194304)(hi:1<=i/\i<=4194304):sF (a:Int) (b:Int) (i:Int)=O ((min xh (a*b / i):Nat):Int):=by
 have m:a*b<=1099511627776*4194304:=bB e g;have o:a*b / i<=a*b:=Nat.div_le_self _ _;unfold sF xh;rw[cd (n:=(a:Int)) (by omega),cd (n:=(b:Int)) (by omega),cd (n:=(i:Int)) (by omega),aJ8 e g];simp only[zG];rw[Ze,zD,aI0 (by omega) hi.1];simp only[zG];generalize a*b / i=q at*;by_cases h:1099511627776<q
 .rw[Zf,zC,aD (by omega)];rfl
 .rw[Ze,zD,bD (by omega),Zi]
theorem az4 (hi:1<=i)(e:ch (d+(i-1)) (i-1)<xh):min xh (min xh (ch (d+(i-1)) (i-1))*(d+i) / i)=min xh (ch (d+i) i):=by
 rw[bD (Nat.le_of_lt e),ae3 hi]
theorem Sj {n:Nat}(v:2*k<=n)(w:n<=2097152): ∀f:Int×Int->Option ((Int×Int)⊕Int),(∀i c:Nat,1<=i->i<=k->c<xh->c<=xh->f ((i:Int),(c:Int))=O (.inl (((i+1:Nat):Int),((min xh (c*(n-k+i) / i):Nat):Int))))->(∀i c:Nat,(k<i∨xh<=c)->i<=k+1->c<=xh->f ((i:Int),(c:Int))=O (.inr (c:Int)))->aq f cx (1,1)=O ((min xh (ch n k):Nat):Int):=by
 intro f r u;refine OW (λs=> ∃i:Nat,s=((i:Int),((min xh (ch (n-k+(i-1)) (i-1)):Nat):Int))/\1<=i/\i<=k+1) (λs=>k+1-s.1.toNat) ⟨1, ?_,by omega,by omega⟩ (by simp;omega) ?_
 .rw[show 1-1=0 from rfl,Ox];rfl
 .rintro s ⟨i,rfl,g,p⟩;by_cases hi:i<=k/\ch (n-k+(i-1)) (i-1)<xh
  .left;refine⟨_,r i _ g hi.1 (by omega) (Nat.min_le_left _ _),⟨i+1, ?_,by omega,by omega⟩,by simp only;omega⟩;rw[az4 g hi.2];rfl
  .right;rw[u i _ (by omega) p (Nat.min_le_left _ _)]
   congr 2
   have e:n-k+k=n:=by omega
   by_cases m:i=k+1
   .subst m;rw[cK,e]
   .have o:xh<=ch (n-k+(i-1)) (i-1):=by omega
    have q:=Xk (n-k) (show i-1<=k by omega);rw[e]at q;rw[aD o,aD (by omega)]
theorem ae2 (n k:Nat)(e:k<=n):ch n (min k (n-k))=ch n k:=by
 rcases Nat.le_total k (n-k)with h|h
 .rw[aD h]
 .rw[bD h];exact GJ n _ _ (by omega)
theorem AA {n k:Int}(w:n<=2097152):ld n k=O (Vn n k):=by
 unfold ld Vn;by_cases g:n<0
 .rw[zB g,zE (.inl g)];rfl
 by_cases o:k<0
 .rw[zA g,zB o,zE (.inr (.inl o))];rfl
 by_cases p:n<k
 .rw[zA g,zA o,zB p,zE (.inr (.inr p))];rfl
 rw[zA g,zA o,zA p,Zh];simp only[zD];obtain⟨n,rfl⟩:=cB (show 0<=n by omega);obtain⟨k,rfl⟩:=cB (show 0<=k by omega)
 have u:min (k:Int) (zH zI ((n:Int)-(k:Int)))=((min k (n-k):Nat):Int):=by
  rw[Zi];omega
 have q:=Sj (n:=n) (k:=min k (n-k)) (by omega) (by omega) (mV (n:Int) (k:Int)) (λi c v e r m=>by
  unfold mV;unfold xh at r m;simp only[u];rw[Zf,zC,zB (show(c:Int)<1099511627776 by omega),zC,ad (n:=(n:Int)-((min k (n-k):Nat):Int)) (by omega),ad (n:=(n:Int)-((min k (n-k):Nat):Int)+(i:Int)) (by omega),show(n:Int)-((min k (n-k):Nat):Int)+(i:Int)=((n-min k (n-k)+i:Nat):Int)by omega,dy m (by omega) (by omega)];simp only[zG];rw[Zi]
  rfl) (λi c h hi r=>by
  unfold mV;unfold xh at h;simp only[u];rcases h with h|h
  .rw[Ze,zD]
  .by_cases e:(i:Int)<=((min k (n-k):Nat):Int)
   .rw[zB e,zC,Ze,zD]
   .rw[zA e,zD])
 rw[q,ae2 n k (by omega)];rfl
theorem ai7 {r:Nat}(g:1<=s/\s<=1048576)(e:r<=65536):sZ (r:Int) (s:Int)=O ((min xh (ch (s+r) r):Nat):Int):=by
 unfold sZ;rw[Ze,zD,Zi,AA (by omega),show(s:Int)+(r:Int)=((s+r:Nat):Int)by omega,Ow (by omega),GJ (s+r) s r rfl];rfl
theorem Wp (z:l<65536)(p:1<=s/\s<=1048576): ∃r:Nat,zp (l:Int) (s:Int)=O ((r:Int),0)/\IsRep l s r:=by
 unfold zp Bt;rw[Ze,zD,Ze,zD,Zf,zC,Zf];simp only[zG,Bool.not_true,zD];unfold Bs
 obtain⟨c,e,r,rfl,v⟩:=re (f:=wm (l:Int) (s:Int)) (a:=(0,(l:Int))) (λa=> ∃g hi:Nat,a=((g:Int),(hi:Int))/\g<=hi/\hi<=l/\l<=ch (s+hi) hi/\(g=0∨ch (s+(g-1)) (g-1)<l)) (λa=>(a.2-a.1).toNat) (λc=> ∃r:Nat,c=(r:Int)/\IsRep l s r) ⟨0,l,rfl,by omega,by omega,by have:=JF p.1 l;omega, .inl rfl⟩ (by simp;omega) (by
  rintro a ⟨g,hi,rfl,w,y,m,o⟩;unfold wm zZ;simp only;by_cases h:g<hi
  .have q:zH zI (Int.tdiv (zH zI ((g:Int)+(hi:Int))) 2)=(((g+hi) / 2:Nat):Int):=by
    rw[ad (n:=(g:Int)+(hi:Int)) (by omega),<-aB,show Int.tdiv ((g+hi:Nat):Int) 2=(((g+hi) / 2:Nat):Int)from rfl,aL2 (by omega)]
   rw[Zf,zC,q,ai7 p (by omega)];simp only[zG];by_cases u:l<=ch (s+(g+hi) / 2) ((g+hi) / 2)
   .rw[zB (by unfold xh;omega),zC];exact .inl ⟨_,rfl,⟨g,(g+hi) / 2,rfl,by omega,by omega,u,o⟩,by simp only;omega⟩
   .rw[zA (by unfold xh;omega),zD,Zi];exact .inl ⟨_,rfl,⟨(g+hi) / 2+1,hi,rfl,by omega,by omega,m, .inr (by rw[cK];omega)⟩,by simp only;omega⟩
  .rw[Ze,zD];have:g=hi:=by omega
   subst this
   exact .inr ⟨_,rfl,g,rfl,aD2 m o⟩)
 rw[e];exact⟨r,rfl,v⟩
theorem VL (a b:Int):rz [1,a,b]=O (max 1 (max a b)):=by
 have e:rz [1,a,b]=O (max (max (max 1 1) a) b):=rfl;rw[e]
 congr 1
 omega
theorem YV {n c:Nat}(p:2<=n/\n<65536)(e:1<=c/\c<=1048576):xf (n:Int) (c:Int)=O (spI n c (Hc n c),0):=by
 obtain⟨r,m,o⟩:=Wp (l:=n) (s:=c) p.2 e;have g:=Uu n e.1;have:r=Hc n c:=o.eq g;subst this;have z:=g.le e.1;have y:=az3 ((c:Int)+(Hc n c:Int)-1) ((c:Int)-1);have q:zH zI ((c:Int)+(Hc n c:Int))=(c:Int)+(Hc n c:Int):=ad (by omega);have u:zH zI ((c:Int)+(Hc n c:Int)-2)=(c:Int)+(Hc n c:Int)-2:=ad (by omega);have v:zH zI ((c:Int)+(Hc n c:Int)-1)=(c:Int)+(Hc n c:Int)-1:=ad (by omega);have w:zH zI ((c:Int)-1)=(c:Int)-1:=ad (by omega);unfold xf;rw[Ze,zD,m];simp only[zG];rw[zA (by simp),zD,q,u,v,w,AA (by omega),AA (by omega)];simp only[zG];rw[Zi,VL];rfl
end
section
open List renaming findIdx_append -> aB, findIdx_eq_length_of_false -> aD, findIdx_singleton -> bB
set_option maxRecDepth 100000
theorem aq2 (l:Zd)(x:Int):mP (l++[x])=max (mP l) x:=by
 unfold mP;rw[List.foldl_append];rfl
theorem Y9 (l:Zd): -1<=mP l:=(uI l (-1)).1
theorem aE6 (l:Zd){y:Int}(h:y∈l):y<=mP l:=(uI l (-1)).2.1 _ h
theorem Pq {l:Zd}(h:0<=mP l):mP l∈l:=by
 rcases(uI l (-1)).2.2 with k|k
 .unfold mP at*;omega
 .exact k
theorem ao8 {l:Zd}(h:x∉l):zP (l++[x]) x=l.length:=by
 unfold zP;have m:l.findIdx (λy=>Zc (y=x))=l.length:=aD λy g=>zA λe=>h (e▸g)
 rw[aB,Zh,bB,zB rfl];simp
theorem ao9 {l:Zd}{y:Int}(h:y∈l):zP (l++[x]) y=zP l y:=by
 unfold zP;have:=(Er h).1;unfold zP at this;rw[aB,zE this]
theorem ah0 (l:Zd)(x:Int):CO (l++[x])=CO l+(if x<0 then 1 else 0):=by
 unfold CO;rw[List.countP_append,List.countP_singleton];by_cases h:x<0
 .rw[zB h,zE rfl,zE h]
 .rw[zA h,zF (by simp),zF h]
theorem TP (l:Zd):CO l<=l.length:=List.countP_le_length
theorem aI7 {l:Zd}(h:CO l=0): ∀y∈l,0<=y:=λy e=>by
 have:=List.countP_eq_zero.1 h y e;simp only[decide_eq_true_eq]at this;omega
theorem aq5 {l:Zd}(h:CO l=0)(e:x<0):LY (l++[x])=l.length:=by
 unfold LY;have m:l.findIdx (λy=>Zc (y<0))=l.length:=aD λy g=>zA (by have:=aI7 h y g;omega)
 rw[aB,Zh,bB,zB e];simp
theorem Pw {l:Zd}(h:0<CO l):LY (l++[x])=LY l:=by
 unfold LY;have:=(aa2 h).1;unfold LY at this;rw[aB,zE this]
def RC (t:Zd):Int:=mP t
def RE (t:Zd):Int:=if mP t<0 then 0 else(zP t (mP t):Int)
def RD (t:Zd):Int:=(CO t:Int)
def aa3 (t:Zd):Int:=if CO t=0 then-1 else(LY t:Int)
theorem ai8 {L p q:Int}(C:t.length<1000000000):ta L p q t=O (p,q,t,(if q<0 then L else q),RC t,RE t,RD t,aa3 t):=by
 unfold ta
 have z:((cond (Zc (q<0)) (O ((p,q,t,p,q,t,L))) (O ((p,q,t,p,q,t,q)))):Option (Int×Int×(Zd)×Int×Int×(Zd)×Int))=O (p,q,t,p,q,t,(if q<0 then L else q)):=by
  rw[ag];split<;>rfl
 rw[z];simp only[zG];generalize (if q<0 then L else q)=e
 have o:=fP (f:=lu (p,q,t,p,q,t,e)) (n:=t.length) (λi=>(p,q,t,p,q,t,e,RC (t.take i),RE (t.take i),RD (t.take i),aa3 (t.take i))) (c:=(p,q,t,p,q,t,e,RC t,RE t,RD t,aa3 t)) (by omega)
  (λi hi=>by
   have g:(t.take i).length=i:=by rw[List.length_take];omega
   have A:=TP (t.take i);have B:=Y9 (t.take i);simp only[lu];rw[Zf,zC,cn hi,List.take_succ_eq_append_getElem hi];simp only[zG];generalize t[i]=x;generalize D:t.take i=u at*;rw[ad (n:=(i:Int)+1) (by omega)];unfold RC RE RD aa3;rw[ad (n:=(CO u:Int)+1) (by omega),aq2,ah0];by_cases y:mP u<x
   .rw[zB y,zC,Int.max_eq_right (by omega),zF (show¬x<0 by omega),zF (show¬x<0 by omega),ao8 (λh=>by have:=aE6 u h;omega),g];simp only[Nat.add_zero]
    have:(if CO u=0 then(-1:Int)else(LY (u++[x]):Int))=if CO u=0 then(-1:Int)else(LY u:Int):=by
     split
     .rfl
     .rw[Pw (by omega)]
    rw[this];rfl
   .rw[zA y,zD,Int.max_eq_left (by omega)]
    have w:(if mP u<0 then(0:Int)else(zP (u++[x]) (mP u):Int))=if mP u<0 then(0:Int)else(zP u (mP u):Int):=by
     split
     .rfl
     .rw[ao9 (Pq (by omega))]
    rw[w];by_cases m:x<0
    .rw[zB m,zC,zE m,zF (show¬CO u+1=0 by omega)];by_cases v:CO u=0
     .rw[zE v,Zf,zC,aq5 v m,g];rfl
     .rw[zF v,Ze,zD,Pw (by omega)];rfl
    .rw[zA m,zD,zF m];simp only[Nat.add_zero]
     have:(if CO u=0 then(-1:Int)else(LY (u++[x]):Int))=if CO u=0 then(-1:Int)else(LY u:Int):=by
      split
      .rfl
      .rw[Pw (by omega)]
     rw[this]
     rfl)
  (by
   simp only[lu]
   rw[zA (by simp),zD,List.take_length])
 rw[List.take_zero]at o;have r:aq (lu (p,q,t,p,q,t,e)) cx (0,p,q,t,p,q,t,e,-1,0,0,-1)=_:=o;rw[r];rfl
theorem RF (h: ¬mP t<0):RE t=(zP t (mP t):Int):=zF h
theorem aq6 (h: ¬CO t=0):aa3 t=(LY t:Int):=zF h
def aH5 :Option (Int×Int)->Int×Int×Bool
 |none=>(0,0,Zb)
 |some a=>(a.1,a.2,Za)
section
variable {c:Cx}
theorem at7 (h:c.Ok)(g:c.mode≠3){s:Dy}(hi:Inv c s):dh c.fixed c.tp c.sl c.ns c.mode c.R c.Q c.len c.words s.L s.p s.q s.c0 s.c1 s.c2 s.c3 s.z c.X c.T c.l c.k c.P c.tk (c.off 8:Int) c.ns (c.X.length:Int) s.lv s.pk c.words s.W=O (s.p,s.q,lV c s.W):=by
 unfold dh;rw[Hm h g hi.w λk e=>by have:=hi.tag k e;have:=hi.L;omega];rfl
def qi (c:Cx)(s:Dy):Mc:=⟨s.L,s.p,s.q,lV c s.W⟩
theorem SJ (h:c.Ok)(E:c.mode≠3)(hn:1<=c.ns){s:Dy}(hi:Inv c s)(g:Int)(en I:Bool):mf g en I c.fixed c.tp c.sl c.ns c.mode c.R c.Q c.len c.words s.L s.p s.q s.c0 s.c1 s.c2 s.c3 s.z c.X c.T c.l c.k c.P c.tk (c.off 8:Int) c.ns (c.X.length:Int) s.lv s.pk c.words s.W=O (aH5 (Bc (qi c s))):=by
 have M:=h.ns;have J:=hi.L;have N:=hi.p;have H:=hi.q;have D:(lV c s.W).length=c.ns.toNat:=pX;have r:=Hn (c:=c) (W:=s.W) hi.tag;have F:=(wW h E (k:=0) (by omega)).2.2;unfold mf fE fc i5;simp only[zG];rw[at7 h E hi];simp only[zG];unfold Aa;rw[Cf J N H (by omega) r];simp only[zG,cb];rw[Zf,Bool.not_true,zD,ai8 (by omega)];simp only[zG,lM,jr,jl,uz,nj,nk,np,nq,nr,nu,nv,ny,iM,qy,pv,px];unfold Bc qi RC RD;simp only;have hg:=Y9 (lV c s.W)
 have ht:mP (lV c s.W)<=s.L:=by
  rcases(uI (lV c s.W) (-1)).2.2 with k|k
  .unfold mP;omega
  .exact(r _ k).2
 have hf:=TP (lV c s.W);have he:0<=(if s.q<0 then s.L else s.q)/\(if s.q<0 then s.L else s.q)<=s.L:=by split<;>omega
 generalize (if s.q<0 then s.L else s.q)=e at*;have V:=H;have Z: ∀x,¬mP (lV c s.W)<s.p->x=mP (lV c s.W)->True:=λ_ _ _=>trivial
 generalize htg:lV c s.W=t at*;rw[ad (n:=e-1) (by omega),ad (n:=e-1-s.p) (by omega),ad (n:=e-mP t) (by omega),ad (n:=(CO t:Int)+1) (by omega)];by_cases u:0<=s.q/\e<=mP t
 .rw[zE u,zB u.1,zC,zB u.2];simp only[zG,zC];rw[RF (by omega)];rfl
 rw[zF u]
 have r1:(cond (Zc (0<=s.q)) (O (Zc (e<=mP t))) (O Zb):Option Bool)=O Zb:=by
  by_cases k:0<=s.q
  .rw[zB k,zC,zA (λC=>u ⟨k,C⟩)]
  .rw[zA k,zD]
 rw[r1];simp only[zG,zD];by_cases v:s.q=0
 .rw[zE v,zB v,zC];rfl
 rw[zF v,zA v,zD]
 have r3:(cond (!Zc (0<=s.q)) (O (Zc (s.p=s.L))) (O Zb):Option Bool)=O (Zc (s.q<0/\s.p=s.L)):=by
  by_cases k:0<=s.q
  .rw[zB k,Bool.not_true,zD,Ze]
  .rw[zA k,Bool.not_false,zC]
   congr 1
   exact decide_eq_decide.2 (by omega)
 rw[r3];simp only[zG];by_cases w:s.q<0/\s.p=s.L
 .rw[zE w,zB w,zC];rfl
 rw[zF w,zA w,zD];by_cases y:s.p=e-1
 .rw[zE y,zB y,zC];by_cases m:0<=s.q
  .rw[zE m,zB m];rfl
  .rw[zF m,zA m];rfl
 rw[zF y,zA y,zD];by_cases m:mP t<0
 .rw[zE m,zB m,zC];by_cases o:e<=s.p
  .rw[zE o,zB o];rfl
  .rw[zF o,zA o];rfl
 rw[zF m,zA m,zD]
 have r6:(cond (Zc (s.p<mP t)) (O Za) (O (Zc (e<=s.p))):Option Bool)=O (Zc (s.p<mP t∨e<=s.p)):=by
  by_cases k:s.p<mP t
  .rw[zB k,zC,zB (.inl k)]
  .rw[zA k,zD]
   congr 1
   exact decide_eq_decide.2 (by omega)
 rw[r6];simp only[zG];by_cases o:s.p<mP t∨e<=s.p
 .rw[zE o,zB o,zC,RF m];rfl
 rw[zF o,zA o,zD]
 have r7:(cond (Zc (mP t<s.p)) (O (Zc (0<(CO t:Int)))) (O Zb):Option Bool)=O (Zc (mP t<s.p/\0<CO t)):=by
  by_cases k:mP t<s.p
  .rw[zB k,zC]
   congr 1
   exact decide_eq_decide.2 (by omega)
  .rw[zA k,zD,zA (λC=>k C.1)]
 rw[r7];simp only[zG];by_cases A:mP t<s.p/\0<CO t
 .rw[zE A,zB A,zC,aq6 (by omega)];rfl
 rw[zF A,zA A,zD];by_cases B:mP t<s.p
 .rw[zE B,zB B,zC];rfl
 rw[zF B,zA B,zD];have K:e-mP t=(((e-mP t).toNat:Nat):Int):=by omega
 have:=YV (n:=(e-mP t).toNat) (c:=CO t+1) (by omega) (by omega);rw[<-K,show((CO t+1:Nat):Int)=(CO t:Int)+1 by omega]at this;rw[this];rfl
end
end
section
open Int renaming lt_irrefl -> bB, tmod_eq_emod_of_nonneg -> cB
open List renaming getElem_of_mem -> aB, getElem_mem -> aD
open Nat renaming pow_succ -> bD, eq_zero_or_pos -> cD
def Bst (P:Int->Prop)(R:Int->Int->Prop)(t:Zd)(i:Nat)(k:Int):Prop:=
 (k= -1/\∀j (h:j<t.length),j<i->¬P t[j])∨∃j,∃h:j<t.length,k=(j:Int)/\j<i/\P t[j]/\(∀e (g:e<t.length),e<i->P t[e]->¬R t[e] t[j])/\∀e (g:e<t.length),e<j->P t[e]->R t[j] t[e]
theorem EL {P:Int->Prop}{R:Int->Int->Prop}[DecidablePred P][DecidableRel R]{f:Int×Int->Option ((Int×Int)⊕Int)}{pb:Int->Option Bool}{lb:Int->Int->Option Bool}(M:t.length<1000000000)
  (I: ∀s,f s=cond (Zc (s.1<(((List.length t):Nat):Int))) ((rd t s.1).bind λx=>(pb x).bind λr=>cond r (cond (Zc (s.2<0)) (O (.inl (IntKind.i64.wrap (s.1+1),s.1))) ((rd t s.2).bind λy=>(lb x y).bind λL=>cond L (O (.inl (IntKind.i64.wrap (s.1+1),s.1))) (O (.inl (IntKind.i64.wrap (s.1+1),s.2))))) (O (.inl (IntKind.i64.wrap (s.1+1),s.2)))) (O (.inr s.2)))
  (J: ∀x,pb x=O (Zc (P x))) (K: ∀x y,lb x y=O (Zc (R x y))) (F: ∀a,¬R a a) (H: ∀a b e,R a b->¬R e b->R a e) (as: ∀a b,R a b->¬R b a): ∃k,aq f cx (0,-1)=O k/\Bst P R t t.length k:=by
 refine re (λs=> ∃(i:Nat) (k:Int),s=((i:Int),k)/\i<=t.length/\Bst P R t i k) (λs=>t.length-s.1.toNat) _ ⟨0,-1,rfl,by omega, .inl ⟨rfl,λj h B=>by omega⟩⟩ (by simp;omega) ?_;rintro s ⟨i,k,rfl,hi,D⟩;rw[I];simp only;by_cases h:i<t.length
 .left;rw[Zf,zC,cn h];simp only[zG];rw[J,Zi,show(i:Int)+1=((i+1:Nat):Int)by omega];simp only[zG];by_cases z:P t[i]
  .rw[zB z,zC];rcases D with⟨rfl,C⟩|⟨j,B,rfl,E,w,g,q⟩
   .rw[Zf,zC];refine⟨_,rfl,⟨i+1,i,rfl,by omega, .inr ⟨i,h,rfl,by omega,z,λm o v p=> ?_,λm o v p=>absurd p (C m o v)⟩⟩,by simp only;omega⟩;by_cases u:m=i
    .subst u;exact F _
    .exact absurd p (C m o (by omega))
   .rw[Ze,zD,cn B];simp only[zG];rw[K];simp only[zG];by_cases A:R t[i] t[j]
    .rw[zB A,zC];refine⟨_,rfl,⟨i+1,i,rfl,by omega, .inr ⟨i,h,rfl,by omega,z,λm o v p=> ?_,λm o v p=>H _ _ _ A (g m o v p)⟩⟩,by simp only;omega⟩;by_cases u:m=i
     .subst u;exact F _
     .exact as _ _ (H _ _ _ A (g m o (by omega) p))
    .rw[zA A,zD];refine⟨_,rfl,⟨i+1,j,rfl,by omega, .inr ⟨j,B,rfl,by omega,w,λm o v p=> ?_,q⟩⟩,by simp only;omega⟩;by_cases u:m=i
     .subst u;exact A
     .exact g m o (by omega) p
  .rw[zA z,zD];refine⟨_,rfl,⟨i+1,k,rfl,by omega, ?_⟩,by simp only;omega⟩;rcases D with⟨rfl,C⟩|⟨j,B,rfl,E,w,g,q⟩
   .refine .inl ⟨rfl,λj o v=> ?_⟩;by_cases u:j=i
    .subst u;exact z
    .exact C j o (by omega)
   .refine .inr ⟨j,B,rfl,by omega,w,λm o v p=> ?_,q⟩;by_cases u:m=i
    .subst u;exact absurd p z
    .exact g m o (by omega) p
 .right;have:i=t.length:=by omega
  subst this;rw[Ze,zD];exact⟨_,rfl,D⟩
theorem Ij (m:j<t.length)(h: ∀e (o:e<t.length),e<j->t[e]≠t[j]):zP t t[j]=j:=by
 unfold zP;rw[List.findIdx_eq m];exact⟨zB rfl,λe g=>zA (h e (by omega) g)⟩
theorem W9 (C:1<=d)(z:t.length<1000000000):vc t (d:Int)=O (match SI d t with|none=> -1|some x=>(zP t x:Int)):=by
 unfold vc
 obtain⟨k,e,h⟩:=EL (P:=λx=>0<=x/\x % (d:Int)≠0) (R:=λx y=>x<y) (t:=t) (f:=AL t (d:Int)) (pb:=λx=>qd x (d:Int)) (lb:=lN) z (λs=>rfl) (λx=>by
  unfold qd;by_cases h:0<=x
  .rw[zB h,zC,zB (show(d:Int)≠0 by omega),bz,cB h]
   congr 1
   exact decide_eq_decide.2 ⟨λk=>⟨h,k⟩,λk=>k.2⟩
  .rw[zA h,zD,zA (λk=>h k.1)]) (λx y=>rfl) (λa=>bB a) (λa b e o r=>by omega) (λa b h=>by omega)
 rw[e];rcases h with⟨rfl,A⟩|⟨j,v,rfl,_,u,m,g⟩
 .rw[Lh λy q p=>by
   obtain⟨i,hi,rfl⟩:=aB q;have:=A i hi hi;by_cases k:t[i] % (d:Int)=0
   .exact k
   .exact absurd ⟨p,k⟩ this]
  rfl
 .rw[QD (x:=t[j]) (aD v) u λy q p o=>by
   obtain⟨i,hi,rfl⟩:=aB q;have:=m i hi hi ⟨p,o⟩
   omega]
  simp only[zG]
  rw[Ij v λB w o r=>by
   have:=g B w o (by rw[r];exact u)
   omega]
theorem Vf (q:t.length<1000000000): ∃k,rC t x=O k/\(k<0↔x∉t):=by
 unfold rC;obtain⟨k,e,h⟩:=EL (P:=λy=>y=x) (R:=λx y=>x<y) (t:=t) (f:=ya t x) (pb:=λy=>uA y x) (lb:=lN) q (λs=>rfl) (λy=>rfl) (λx y=>rfl) (λa=>bB a) (λa b e v w=>by omega) (λa b h=>by omega);rw[e];refine⟨k,rfl, ?_⟩;rcases h with⟨rfl,r⟩|⟨j,p,rfl,_,o,m,g⟩
 .refine⟨λ_ u=> ?_,λ_=>by omega⟩;obtain⟨i,hi,e⟩:=aB u;exact r i hi hi e
 .exact⟨λh=>by omega,λh=>absurd (o▸aD p) h⟩
theorem Xb (w:t.length<1000000000)(m: ∀y∈t,-1<=y): ∃k,rD t=O k/\((-1:Int)∈t->k=(zP t (-1):Int))/\((-1:Int)∉t->k= -1):=by
 unfold rD;obtain⟨k,e,h⟩:=EL (P:=λy=>y<0) (R:=λx y=>x<y) (t:=t) (f:=yd t) (pb:=λy=>uB y) (lb:=lN) w (λs=>rfl) (λy=>rfl) (λx y=>rfl) (λa=>bB a) (λa b e q v=>by omega) (λa b h=>by omega);rw[e];refine⟨k,rfl, ?_⟩;rcases h with⟨rfl,z⟩|⟨j,o,rfl,_,C,r,g⟩
 .refine⟨λA=> ?_,λ_=>rfl⟩;obtain⟨i,hi,e⟩:=aB A;exact absurd (show t[i]<0 by omega) (z i hi hi)
 .have p:t[j]= -1:=by have:=m _ (aD o);omega
  refine⟨λ_=> ?_,λh=>absurd (p▸aD o) h⟩
  rw[<-p,Ij o λB u q v=>by
   have:=g B u q (by omega)
   omega]
theorem Xa (w:t.length<1000000000): ∃k,rE t=O k/\(mP t<0->k= -1)/\(0<=mP t->k=(zP t (mP t):Int)):=by
 unfold rE;obtain⟨k,e,h⟩:=EL (P:=λy=>0<=y) (R:=λx y=>y<x) (t:=t) (f:=ye t) (pb:=λy=>yf y) (lb:=uC) w (λs=>rfl) (λy=>rfl) (λx y=>rfl) (λa=>bB a) (λa b e p v=>by omega) (λa b h=>by omega);rw[e];refine⟨k,rfl, ?_⟩;rcases h with⟨rfl,z⟩|⟨j,q,rfl,_,C,m,g⟩
 .refine⟨λ_=>rfl,λo=> ?_⟩;obtain⟨i,hi,e⟩:=aB (Pq o);exact absurd (show 0<=t[i]by omega) (z i hi hi)
 .have r:mP t=t[j]:=Io (by omega) (λy A=>by
   obtain⟨i,hi,rfl⟩:=aB A;by_cases o:0<=t[i]
   .have:=m i hi hi o;omega
   .omega) (.inr (aD q))
  refine⟨λh=>by omega,λ_=> ?_⟩
  rw[r,Ij q λB u p v=>by
   have:=g B u p (by omega)
   omega]
theorem Wz (r:k<65536)(g:1<=s/\s<=1048576):oi (k:Int) (s:Int)=O ((wb k s:Int),0):=by
 unfold oi;rw[Ze,zD,Ze,zD,Ze,zD,Ze,zD];have o:=vk r g.1
 have m:aq (rK (k:Int) (s:Int)) cx 1=O (wb k s:Int):=by
  refine OW (λa=> ∃e:Nat,a=((2 ^ e:Nat):Int)/\(e=0∨s*2 ^ (e-1)<=k)) (λa=>4294967296-a.toNat) ⟨0,rfl, .inl rfl⟩ (by simp) ?_;rintro a ⟨e,rfl,he⟩
  have q:2 ^ e<=131072:=by
   rcases he with rfl|he
   .simp
   .have:1*2 ^ (e-1)<=s*2 ^ (e-1):=Nat.mul_le_mul_right _ g.1;rcases cD e with rfl|h
    .simp
    .rw[show e=(e-1)+1 by omega,bD];omega
  have v:1<=2 ^ e:=Nat.one_le_two_pow;have u:s*2 ^ e<=1048576*131072:=Nat.mul_le_mul g.2 q;unfold rK;rw[<-Int.natCast_mul,aL2 (by omega)];by_cases h:k<s*2 ^ e
  .right;rw[Zf,zC]
   have:IsStr k s (2 ^ e):=⟨⟨e,rfl⟩,h,by
    rcases he with rfl|he
    .exact .inl rfl
    .rcases cD e with rfl|h
     .exact .inl rfl
     .right
      have p:2 ^ e / 2=2 ^ (e-1):=by
       conv=>lhs;rw[show e=(e-1)+1 by omega,bD]
       exact Nat.mul_div_cancel _ (by omega)
      rw[p]
      exact he⟩
   rw[this.eq o]
  .left;rw[Ze,zD,Zi];refine⟨_,rfl,⟨e+1, ?_, .inr (by rw[Nat.add_sub_cancel];omega)⟩,by omega⟩;rw[bD];omega
 rw[m];rfl
section
variable {c:Cx}
theorem Yp (h:c.Ok)(N:c.mode≠3)(hn:1<=c.ns){s:Dy}(hi:Inv c s)(g:Int)(en fa:Bool):oc g en fa c.fixed c.tp c.sl c.ns c.mode c.R c.Q c.len c.words s.L s.p s.q s.c0 s.c1 s.c2 s.c3 s.z c.X c.T c.l c.k c.P c.tk (c.off 8:Int) c.ns (c.X.length:Int) s.lv s.pk c.words s.W=O (aH5 (qG en (qi c s))):=by
 have hns:=h.ns;have H:=hi.L;have hp:=hi.p;have hq:=hi.q;have M:(lV c s.W).length=c.ns.toNat:=pX;have v:=Hn (c:=c) (W:=s.W) hi.tag;have V:=(wW h N (k:=0) (by omega)).2.2;unfold oc fF fd i5;simp only[zG];rw[at7 h N hi];simp only[zG];unfold Af;rw[Cf H hp hq (by omega) v];simp only[zG,cb];rw[Ze,zD];unfold qG qi;simp only;generalize htg:lV c s.W=t at*
 have hd:oi s.L ((t.length:Nat):Int)=O ((wb s.L.toNat t.length:Int),0):=by
  have:=Wz (k:=s.L.toNat) (s:=t.length) (by omega) (by omega);rw[Int.toNat_of_nonneg H.1]at this;exact this
 have I:1<=wb s.L.toNat t.length:=(vk (by omega) (by omega)).pos;generalize wb s.L.toNat t.length=d at*;by_cases C:s.q<0
 .rw[zE C,zB C,zC];unfold xZ;rw[hd];simp only[zG,iz,gY];by_cases o:s.p<s.L
  .rw[zE o,zB o,zC,Zi];rfl
  rw[zF o,zA o,zD,W9 I (by omega)];cases ho:SI d t with
  |some x=>
   simp only[zG];rw[Zf,zC];rfl
  |none=>
   simp only[zG];rw[Ze,zD];obtain⟨k2,Z,B⟩:=Vf (t:=t) (x:=s.L) (by omega);obtain⟨J,e3,w,F⟩:=Xb (t:=t) (by omega) λy hy=>(v y hy).1
   rw[Z,e3];simp only[zG]
   have K:gd (Zc ((d:Int)≠0)) (cond (Zc ((Int.tmod s.L (d:Int))=0)) (cond (Zc (k2<0)) (O (Zc (0<=J))) (O Zb)) (O Zb))=O (Zc (s.L % (d:Int)=0/\s.L∉t/\(-1:Int)∈t)):=by
    rw[zB (show(d:Int)≠0 by omega),bz,cB H.1];by_cases a1:s.L % (d:Int)=0
    .rw[zB a1,zC];by_cases a2:s.L∉t
     .rw[zB (B.2 a2),zC]
      congr 1
      by_cases a3:(-1:Int)∈t
      .rw[zB (show 0<=J by rw[w a3];omega),zB ⟨a1,a2,a3⟩]
      .rw[zA (show¬0<=J by rw[F a3];omega),zA (λk=>a3 k.2.2)]
     .rw[zA (λk=>a2 (B.1 k)),zD,zA (λk=>a2 k.2.1)]
    .rw[zA a1,zD,zA (λk=>a1 k.1)]
   rw[K];simp only[zG];by_cases a:s.L % (d:Int)=0/\s.L∉t/\(-1:Int)∈t
   .rw[zE a,zB a,zC,w a.2.2];rfl
   .rw[zF a,zA a,zD];cases en<;>rfl
 rw[zF C,zA C,zD];unfold Ag;obtain⟨k,e,hk0,A⟩:=Xa (t:=t) (by omega);rw[e];simp only[zG,iz,gY]
 have u:0<=mP t->0<=k/\rd t k=O (mP t):=λm=>by
  obtain⟨hs,e⟩:=Er (Pq m);rw[A m,cn hs,e];exact⟨by omega,rfl⟩
 have K:(cond (Zc (0<=k)) ((rd t k).bind λx4=>O (Zc (s.q<=x4))) (O Zb):Option Bool)=O (Zc (0<=mP t/\s.q<=mP t)):=by
  by_cases m:0<=mP t
  .rw[zB (u m).1,zC,(u m).2];simp only[zG]
   congr 1
   exact decide_eq_decide.2 (by omega)
  .rw[zA (by rw[hk0 (by omega)];omega),zD,zA (λk=>m k.1)]
 rw[K];simp only[zG];by_cases o:0<=mP t/\s.q<=mP t
 .rw[zE o,zB o,zC,A o.1];rfl
 rw[zF o,zA o,zD];by_cases w:s.q=0
 .rw[zE w,zB w];rfl
 rw[zF w,zA w,zD,ad (n:=s.q-1) (by omega)];by_cases D:s.p=s.q-1
 .rw[zE D,zB D];rfl
 rw[zF D,zA D,zD]
 have r2:(cond (Zc (0<=k)) ((rd t k).bind λx9=>cond (Zc (s.p<x9)) (O Za) (O (Zc (s.q<=s.p)))) (O Zb):Option Bool)=O (Zc (0<=mP t/\(s.p<mP t∨s.q<=s.p))):=by
  by_cases m:0<=mP t
  .rw[zB (u m).1,zC,(u m).2];simp only[zG];by_cases r:s.p<mP t
   .rw[zB r,zC,zB ⟨m, .inl r⟩]
   .rw[zA r,zD]
    congr 1
    exact decide_eq_decide.2 (by omega)
  .rw[zA (by rw[hk0 (by omega)];omega),zD,zA (λk=>m k.1)]
 rw[r2];simp only[zG];by_cases r:0<=mP t/\(s.p<mP t∨s.q<=s.p)
 .rw[zE r,zB r,zC,A r.1];rfl
 rw[zF r,zA r,zD];by_cases E:s.p<s.q
 .rw[zE E,zB E,zC,Zi];rfl
 .rw[zF E,zA E];rfl
end
end
section
open Int renaming reduceEq -> aB, toNat_natCast -> aD
open List renaming getElem?_eq_getElem -> bB, getElem_mem -> bD, length_set -> cD, getD_eq_getElem?_getD -> cK, getElem_set -> cL, length_map -> cM, length_replicate -> cN, replicate -> cO, getElem?_eq_none -> cR, getElem_map -> cS, getElem_of_mem -> cT, map_congr_left -> cU
open Nat renaming div_add_mod -> cB, one_dvd -> cP, div_lt_iff_lt_mul -> cV, dvd_of_mod_eq_zero -> cW
open Option renaming getD_some -> cQ
theorem UB (h:x∈t):zP t x<t.length/\t[zP t x]?=O x:=by
 obtain⟨g,e⟩:=Er h;exact⟨g,by rw[bB g,e]⟩
def uu (k:Nat)(t:Zd):List (Int×Int)×Zd:=
 if k % wb k t.length=0 then((Qf (wb k t.length) k t).1++[(2,(zP (Qf (wb k t.length) k t).2 (-1):Int))],(Qf (wb k t.length) k t).2.set (zP (Qf (wb k t.length) k t).2 (-1)) k)
 else Qf (wb k t.length) k t
theorem af6 (h:d' ∣ d)(e:j % d=0):j % d'=0:=
 Nat.mod_eq_zero_of_dvd (Nat.dvd_trans h (cW e))
theorem Gd.frd (G:Gd k t d')(B:d' ∣ d):Gd k (frd d k t) d:=by
 refine⟨λx w=> ?_,λj p r=> ?_,λi j hi p e A=> ?_⟩
 .unfold Go.V.frd at w;obtain⟨y,C,rfl⟩:=List.mem_map.1 w;have:=G.ins y C;by_cases h:0<=y/\y<(k:Int)/\y % (d:Int)≠0
  .rw[zE h];exact .inl rfl
  .rw[zF h];rcases this with h1|h1
   .exact .inl h1
   .exact .inr ⟨h1.1,h1.2.1,by
     by_cases v:y % (d:Int)=0
     .exact v
     .exact absurd ⟨h1.1,h1.2.1,v⟩ h⟩
 .exact(TO (by omega)).2 ⟨G.all j p (af6 B r),by omega⟩
 .have o:i<t.length:=by rw[rG]at hi;exact hi
  have q:j<t.length:=by rw[rG]at p;exact p
  have g:=GQ (d:=d) (n:=k) o;have m:=GQ (d:=d) (n:=k) q;rw[bB hi]at g;rw[bB p]at m;injection g with g
  injection m with m
  have u:(Go.V.frd d k t)[i]=t[i]:=by
   by_cases h:0<=t[i]/\t[i]<(k:Int)/\t[i] % (d:Int)≠0
   .rw[zE h]at g;omega
   .rw[zF h]at g;exact g
  have z:(Go.V.frd d k t)[j]=t[j]:=by
   by_cases h:0<=t[j]/\t[j]<(k:Int)/\t[j] % (d:Int)≠0
   .rw[zE h]at m;omega
   .rw[zF h]at m;exact m
  exact G.one i j o q (by rw[<-u,<-z,e]) (by rw[<-u];exact A)
theorem Gd.free (G:Gd k t d)(E:1<=d)(A:k % d=0)(B:k<t.length*d):(-1:Int)∈t:=by
 by_cases h:(-1:Int)∈t
 .exact h
 exfalso
 have g: ∀i (hi:i<t.length),0<=t[i]/\t[i]<k/\t[i] % (d:Int)=0:=λi hi=>by
  rcases G.ins _ (bD hi)with h1|h1
  .exact absurd (h1▸bD hi) h
  .exact h1
 have p:=Lg (k / d) (t.map λx=>x.toNat / d) (by
  refine List.pairwise_iff_getElem.2 λi j hi o z e=> ?_
  rw[cM]at hi o;rw[cS,cS]at e;have a:=g i hi;have b:=g j o
  have v:t[i].toNat % d=0:=by
   have:=a.2.2;have m:t[i]=((t[i].toNat:Nat):Int):=by omega
   rw[m]at this;omega
  have w:t[j].toNat % d=0:=by
   have:=b.2.2;have m:t[j]=((t[j].toNat:Nat):Int):=by omega
   rw[m]at this;omega
  have h1:=cB t[i].toNat d;have r:=cB t[j].toNat d;rw[v]at h1;rw[w,<-e]at r;have:=G.one i j hi o (by omega) a.1
  omega) (λy D=>by
  obtain⟨x,C,rfl⟩:=List.mem_map.1 D;obtain⟨i,hi,rfl⟩:=cT C;have a:=g i hi;obtain⟨u,q⟩:=cW A;rw[cV (by omega),q,Nat.mul_div_cancel_left _ (by omega),Nat.mul_comm,<-q]
  omega)
 rw[cM]at p;have:=(cV (x:=k) (y:=t.length) (k:=d) (by omega)).2 B;omega
theorem Gd.store (G:Gd k t d)(C:k % d=0)(y:(-1:Int)∈t):Gd (k+1) (t.set (zP t (-1)) k) d:=by
 obtain⟨z,B⟩:=Er y;generalize zP t (-1)=u at*;refine⟨λx A=> ?_,λj o r=> ?_,λi j hi o e p=> ?_⟩
 .rcases GY A with h|h
  .rcases G.ins x h with h1|h1
   .exact .inl h1
   .exact .inr ⟨h1.1,by omega,h1.2.2⟩
  .exact .inr ⟨by omega,by omega,by rw[h];omega⟩
 .by_cases v:j=k
  .subst v;exact List.mem_set z _
  .obtain⟨i,hi,e⟩:=cT (G.all j (by omega) r);have w:u≠i:=λh=>by subst h;omega
   have q:i<(t.set u (k:Int)).length:=by rw[cD];exact hi
   have:=bD q;rw[List.getElem_set_ne w,e]at this;exact this
 .rw[cD]at hi o;rw[cL,cL]at e;rw[cL]at p;by_cases m:u=i
  .by_cases g:u=j
   .omega
   .rw[zE m,zF g]at e;rcases G.ins _ (bD o)with h1|h1<;>omega
  .rw[zF m]at e p;by_cases g:u=j
   .rw[zE g]at e;rcases G.ins _ (bD hi)with h1|h1<;>omega
   .rw[zF g]at e;exact G.one i j hi o e p
theorem Ba (I:k<65536)(e:t.length=s)(h1:1<=s)(G:Gd k t d')(H:d' ∣ wb k s):
  Run (qG en) ⟨k,k,-1,t⟩ (uu k t).1 ⟨k,k,-1,(uu k t).2⟩/\Gd (k+1) (uu k t).2 (wb k s)/\(uu k t).2.length=s/\qG en ⟨k,k,-1,(uu k t).2⟩=(if en then O (5,0)else Y)/\(k % wb k s=0->(-1:Int)∈frd (wb k s) k t):=by
 have C:=vk I h1;have q:=C.pos;obtain⟨v,B⟩:=YI (k:=k) (d:=wb k s) (s:=s) (t:=t) (en:=en) rfl e G.one k;have G1:=G.frd H;unfold uu;rw[e,v];generalize o:wb k s=d at*
 have m: ∀u:Zd,u.length=s->Gd (k+1) u d->qG en ⟨k,k,-1,u⟩=(if en then O (5,0)else Y):=λu J G2=>by
  unfold qG;simp only;rw[Zg,Zh,J,aD,o,Lh λy A F=>by rcases G2.ins y A with h|h;omega;exact h.2.2];simp only;rw[zF];rintro⟨a,b,_⟩;exact b (G2.all k (by omega) (by omega))
 by_cases h:k % d=0
 .have r:=G1.free q h (by rw[rG,e];exact C.gt);have G2:=G1.store h r;obtain⟨z,D⟩:=Er r;rw[zE h];have g:((frd d k t).set (zP (frd d k t) (-1)) (k:Int)).length=s:=by rw[cD,rG,e]
  refine⟨B.append (.one ?_ ?_),G2,g,m _ g G2,λ_=>r⟩
  .unfold qG;simp only;rw[Zg,Zh,rG,e,aD,o,Lh λy A F=>by rcases G1.ins y A with h|h;omega;exact h.2.2];simp only;rw[zE ⟨by omega,λK=>by rcases G1.ins _ K with h|h<;>omega,r⟩]
  .unfold K9;simp only[aB,if_false,if_true,aD];rw[cK,bB z,D];simp only[cQ];rw[Zg]
 .rw[zF h]
  have G2:Gd (k+1) (frd d k t) d:=⟨λx L=>by
   rcases G1.ins x L with h1|h1
   .exact .inl h1
   .exact .inr ⟨h1.1,by omega,h1.2.2⟩,λj M p=>by
   by_cases w:j=k
   .subst w;exact absurd p h
   .exact G1.all j (by omega) p,G1.one⟩
  have g:(Qf d k t).2.length=s:=by rw[v,rG,e]
  rw[v];refine⟨B,G2,by rw[rG,e],m _ (by rw[rG,e]) G2,λE=>absurd E h⟩
def eu (s:Nat):Nat->List (Int×Int)×Zd
 |0=>uu 0 (cO s (-1))
 |k+1=>((eu s k).1++[(1,1)]++(uu (k+1) (eu s k).2).1,(uu (k+1) (eu s k).2).2)
theorem Gd.none (s d:Nat):Gd 0 (cO s (-1)) d:=
 ⟨λx o=> .inl (List.eq_of_mem_replicate o),λj m=>by omega,λi j hi m e g=>by rw[List.getElem_replicate]at g;omega⟩
theorem GC {s:Nat}(e:1<=s): ∀k,k<65536->Gd (k+1) (eu s k).2 (wb k s)/\(eu s k).2.length=s
 |0,h=>by
  obtain⟨_,b,c,_⟩:=Ba (en:=Zb) h (cN) e (Gd.none s 1) (cP _);exact⟨b,c⟩
 |k+1,h=>by
  obtain⟨a1,a2⟩:=GC e k (by omega);obtain⟨_,b,c,_⟩:=Ba (en:=Zb) h a2 e a1 ((vk (by omega) e).next (vk h e));exact⟨b,c⟩
theorem Tu (e:1<=s):Run (qG Zb) ⟨0,0,-1,cO s (-1)⟩ (eu s 0).1 ⟨0,0,-1,(eu s 0).2⟩/\qG Zb ⟨0,0,-1,(eu s 0).2⟩=Y:=by
 obtain⟨a,b,c,d,_⟩:=Ba (en:=Zb) (k:=0) (by omega) (cN) e (Gd.none s 1) (cP _);exact⟨a,d⟩
theorem Tv (e:1<=s)(g:k+1<65536):Run (qG Zb) ⟨(k:Int)+1,k,-1,(eu s k).2⟩ ([(1,1)]++(uu (k+1) (eu s k).2).1) ⟨(k:Int)+1,(k:Int)+1,-1,(eu s (k+1)).2⟩/\qG Zb ⟨(k:Int)+1,(k:Int)+1,-1,(eu s (k+1)).2⟩=Y:=by
 obtain⟨a1,a2⟩:=GC e k (by omega);obtain⟨a,b,c,d,_⟩:=Ba (en:=Zb) g a2 e a1 ((vk (by omega) e).next (vk g e));refine⟨Run.cons (m':=⟨((k+1:Nat):Int),((k+1:Nat):Int),-1,(eu s k).2⟩) ?_ ?_ a,d⟩
 .unfold qG;simp only;rw[Zg,Zg]
  congr 2
  omega
 .unfold K9;simp only[if_true];rw[Zg];rfl
theorem WY (e:1<=s)(g:k<65536):qG Za ⟨k,k,-1,(eu s k).2⟩=O (5,0):=by
 cases k with
 |zero=>
  obtain⟨a,b,c,d,_⟩:=Ba (en:=Za) (k:=0) (by omega) (cN) e (Gd.none s 1) (cP _);exact d
 |succ k=>
  obtain⟨a1,a2⟩:=GC e k (by omega);obtain⟨a,b,c,d,_⟩:=Ba (en:=Za) g a2 e a1 ((vk (by omega) e).next (vk g e));exact d
def cut (n:Nat)(t:Zd):Zd:=t.map λx=>if x<(n:Int)then x else-1
def frB (d:Nat)(t:Zd)(i:Nat):List (Int×Int):=if i % d=0 then [(4,(zP t i:Int))]else []
def bkF (d:Nat)(t:Zd):Nat->List (Int×Int)
 |0=>[]
 |i+1=>(3,(zP t ((i-i % d:Nat):Int):Int))::((if i % d≠0 then [(1,((i % d:Nat):Int))]else [])++(7,0)::(frB d t i++bkF d t i))
theorem OF {n:Nat}:(cut n t).length=t.length:=by unfold cut;rw[cM]
theorem TH {n:Nat}(hi:i<t.length):(cut n t)[i]?=O (if t[i]<(n:Int)then t[i]else-1):=by
 unfold cut;rw[List.getElem?_map,bB hi];rfl
theorem GK {n:Nat}(m:0<=x):x∈cut n t↔x∈t/\x<(n:Int):=by
 unfold cut;rw[List.mem_map];constructor
 .rintro⟨y,g,e⟩;by_cases h:y<(n:Int)
  .rw[zE h]at e;subst e;exact⟨g,h⟩
  .rw[zF h]at e;omega
 .rintro⟨g,h⟩;exact⟨x,g,zE h⟩
theorem TI {n:Nat}(e:0<=x/\x<(n:Int)):zP (cut n t) x=zP t x:=by
 unfold zP cut;rw[List.findIdx_map]
 congr 1
 funext y
 show Zc ((if y<(n:Int)then y else-1)=x)=Zc (y=x);by_cases h:y<(n:Int)
 .rw[zE h]
 .rw[zF h,Ze,Ze]
theorem Xr (one: ∀i j (hi:i<t.length) (m:j<t.length),t[i]=t[j]->0<=t[i]->i=j)(p:(i:Int)∈t):(cut (i+1) t).set (zP t i) (-1)=cut i t:=by
 obtain⟨o,e⟩:=Er p;generalize zP t i=u at*;apply List.ext_getElem?;intro j;by_cases m:j<t.length
 .rw[TH m,List.getElem?_set];by_cases g:u=j
  .subst g;rw[zE rfl,zE (by rw[OF];exact o),Zh]
  .rw[zF g,TH m];have q:t[j]≠(i:Int):=λh=>g (one u j o m (by rw[e,h]) (by omega))
   by_cases h:t[j]<(i:Int)
   .rw[zE h,Zg]
   .rw[zF h,Zh]
 .rw[cR (by rw[cD,OF];omega),cR (by rw[OF];omega)]
theorem Xq (e:(i:Int)∉t):cut (i+1) t=cut i t:=by
 unfold cut;refine cU λx g=> ?_
 have:x≠(i:Int):=λh=>e (h▸g)
 by_cases h:x<(i:Int)
 .rw[zE h,Zg]
 .rw[zF h,Zh]
theorem TM (G:Gd (l+1) t d)(hi:i<=l)(v:1<=d):Run (qG en) ⟨l,i,i,cut (i+1) t⟩ (frB d t i) ⟨l,i,i,cut i t⟩:=by
 unfold frB;by_cases h:i % d=0
 .have m:=G.all i (by omega) h;have e:(i:Int)∈cut (i+1) t:=(GK (by omega)).2 ⟨m,by omega⟩
  have r:mP (cut (i+1) t)=(i:Int):=Io (by omega) (λy u=>by
   by_cases p:0<=y
   .have:=((GK p).1 u).2;omega
   .omega) (.inr e)
  have g:=TI (n:=i+1) (t:=t) (x:=i) (by omega);obtain⟨q,o⟩:=UB e;rw[g]at q o;rw[zE h];refine .one ?_ ?_
  .unfold qG;simp only[r,g];rw[Zh,Zg]
  .unfold K9;simp only[aB,if_false,if_true,aD];rw[cK,o];simp only[cQ];rw[Zg,Xr G.one m]
 .rw[zF h,Xq λm=>by rcases G.ins _ m with h1|h1<;>omega];exact .nil _
theorem Xd {l d:Nat}{t:Zd}{en:Bool}(H:l<65536)(G:Gd (l+1) t d)(w:1<=d): ∀i,i<=l->Run (qG en) ⟨l,i,i,cut i t⟩ (bkF d t i) ⟨l,0,0,cut 0 t⟩
 |0,_=> .nil _
 |i+1,hi=>by
  have z:=Nat.mod_lt i (show d > 0 by omega);have I:=Nat.mod_le i d
  have q:(i-i % d) % d=0:=by
   have:=cB i d;rw[show i-i % d=d*(i / d)by omega];exact Nat.mul_mod_right _ _
  generalize A:i % d=r at*;have J:=G.all (i-r) (by omega) q;have o:((i-r:Nat):Int)∈cut (i+1) t:=(GK (by omega)).2 ⟨J,by omega⟩
  have u:mP (cut (i+1) t)=((i-r:Nat):Int):=Io (by omega) (λy L=>by
   by_cases m:0<=y
   .obtain⟨B,M⟩:=(GK m).1 L;rcases G.ins y B with h3|h3
    .omega
    .obtain⟨y,rfl⟩:=Int.eq_ofNat_of_zero_le m;have C:y % d=0:=by have:=h3.2.2;omega
     have D:=cB i d;have E:=cB y d;rw[C]at E;rw[A]at D;have F:y / d<=i / d:=Nat.div_le_div_right (by omega);have N:d*(y / d)<=d*(i / d):=Nat.mul_le_mul_left _ F;omega
   .omega) (.inr o)
  have p:=TI (n:=i+1) (t:=t) (x:=((i-r:Nat):Int)) (by omega);obtain⟨K,v⟩:=UB o;rw[p]at K v;unfold bkF;rw[A]
  have g:Run (qG en) ⟨l,i,((i+1:Nat):Int),cut (i+1) t⟩ ((7,0)::(frB d t i++bkF d t i)) ⟨l,0,0,cut 0 t⟩:=by
   refine .cons (m':=⟨l,i,i,cut (i+1) t⟩) ?_ ?_ ((TM G (by omega) w).append (Xd H G w i (by omega)))
   .unfold qG;simp only[u];rw[Zh,Zh,Zh,Zg]
   .unfold K9;simp only[aB,if_false,if_true,true_and];rw[Zg]
  refine .cons (m':=⟨l,((i-r:Nat):Int),((i+1:Nat):Int),cut (i+1) t⟩) ?_ ?_ ?_
  .unfold qG;simp only[u,p];rw[Zh,Zh,Zh,Zh,Zg]
  .unfold K9;simp only[aB,if_false,if_true,aD];rw[cK,v];simp only[cQ];rw[Zg]
  .by_cases m:r≠0
   .rw[zE m];refine .cons (m':=⟨l,i,((i+1:Nat):Int),cut (i+1) t⟩) ?_ ?_ g
    .unfold qG;simp only[u];rw[Zh,Zh,Zh,Zh,Zh,Zg]
     congr 2
     omega
    .unfold K9;simp only[if_true];rw[Zg]
     congr 2
     omega
   .rw[zF m,List.nil_append];have e:((i-r:Nat):Int)=(i:Int):=by omega
    rw[e];exact g
def MM (l:Nat)(t:Zd):List (Int×Int):=(5,0)::(frB (wb l t.length) t l++bkF (wb l t.length) t l)
theorem W7 (g:l<65536)(m:1<=s):Run (qG Za) ⟨l,l,-1,(eu s l).2⟩ (MM l (eu s l).2) ⟨l,0,0,cut 0 (eu s l).2⟩/\qG Za ⟨l,0,0,cut 0 (eu s l).2⟩=Y:=by
 obtain⟨G,e⟩:=GC m l g;have o:=(vk g m).pos;unfold MM;rw[e];have r:=WY (s:=s) (k:=l) m g;generalize (eu s l).2=t at*
 have q:cut (l+1) t=t:=by
  unfold cut
  conv=>rhs;rw[<-List.map_id t]
  refine cU λx v=> ?_
  rcases G.ins x v with h|h
  .rw[Zg];rfl
  .rw[Zg];rfl
 refine⟨.cons (m':=⟨l,l,l,t⟩) r ?_ (Run.append (m':=⟨l,l,l,cut l t⟩) ?_ (Xd g G o l (Nat.le_refl _))), ?_⟩
 .unfold K9;simp only[aB,if_false,if_true,true_and]
 .have:=TM (en:=Za) (i:=l) G (Nat.le_refl _) o;rw[q]at this;exact this
 .have u:mP (cut 0 t)= -1:=Io (by omega) (λy w=>by
   by_cases p:0<=y
   .have:=((GK p).1 w).2;omega
   .omega) (.inl rfl)
  unfold qG;simp only[u];rw[Zh,Zh,zE trivial]
end
section
open List renaming length_append -> aB, length_cons -> aD, length_singleton -> bB
theorem Yz : ∀f,(∀n c k (h:List Bool) e,1<=n->n<=65536->(2<=n->1<=c)->(pt f Zb n c k h e).length+2<=5*n)/\∀n c k (h:List Bool) e,1<=n->n<=65536->1<=c->(pt f Za n c k h e).length+3<=5*n
 |0=>⟨λn c k h e o _ _=>by show 0+2<=_;omega,λn c k h e o _ _=>by show 0+3<=_;omega⟩
 |f+1=>by
  obtain⟨r,m⟩:=Yz f;refine⟨λn c k h e o q p=> ?_,λn c k h e o q p=> ?_⟩
  .unfold pt;by_cases g:n=1
   .rw[zE g];simp;omega
   .rw[zF g,aD];have:=m n c (h.findIdx λb=> !b) (h.set (h.findIdx λb=> !b) Za) e o q (p (by omega));omega
  .unfold pt;by_cases g:n<=1
   .rw[zE g];simp;omega
   .rw[zF g,aD,aB,aD];obtain⟨v,y,w,_⟩:=YU (n:=n) (c:=c) (by omega) p q
    have a:=r (n-YT n c) (c-1) 0 h e (by omega) (by omega) (λh=>by
     by_cases u:c=1
     .have:=w u;omega
     .omega)
    have b:=m (YT n c) c k h Zb v (by omega) p;omega
theorem TN (d:Nat)(t:Zd): ∀n,(Qf d n t).1.length<=n
 |0=>Nat.le_refl _
 |n+1=>by
  have:=TN d t n;unfold Qf;split
  .rw[aB,bB];omega
  .omega
theorem M5 (k:Nat)(t:Zd):(uu k t).1.length<=k+1:=by
 have:=TN (wb k t.length) t k;unfold uu;split
 .rw[aB,bB];omega
 .omega
theorem Kg (s:Nat): ∀k,(eu s k).1.length<=(k+1)*(k+2)
 |0=>by have:=M5 0 (List.replicate s (-1));show(uu 0 _).1.length<=_;omega
 |k+1=>by
  have e:=Kg s k;have g:=M5 (k+1) (eu s k).2;show((eu s k).1++[(1,1)]++(uu (k+1) (eu s k).2).1).length<=_;rw[aB,aB,bB]
  have:(k+1+1)*(k+1+2)=(k+1)*(k+2)+2*(k+2):=by
   rw[show(k+1+1)=k+2 by omega,show k+1+2=(k+1)+2 by omega,Nat.mul_add,Nat.mul_comm (k+2) (k+1),Nat.mul_comm (k+2) 2]
  omega
theorem Tz (d:Nat)(t:Zd): ∀i,(bkF d t i).length<=4*i
 |0=>Nat.le_refl _
 |i+1=>by
  have:=Tz d t i;unfold bkF frB;rw[aD,aB,aD,aB]
  repeat' split
  all_goals simp;omega
end
section
open List renaming getElem?_eq_none -> aB, length_cons -> aD
theorem YE {n:Int}(h:1<=n/\n<=65535):jQ 1 n=Za:=by
 unfold jQ;rw[Zh,Zh,zE rfl,Zf]
theorem Lv {a n:Int}(e:2<=a/\a<=4)(h:0<=n/\n<1048576):jQ a n=Za:=by
 unfold jQ;rw[Zh,Zh,Zh,zE e.2,zB h]
theorem Lu {a n:Int}(e:5<=a/\a<=9)(h:n=0):jQ a n=Za:=by
 unfold jQ;rw[Zh,Zh,Zh,Zh,zB h]
section
variable {c:Cx}
theorem Bn {W':Zd}(e:fZ c W W'):lV c W'=lV c W:=by
 unfold lV;refine List.map_congr_left λk _=> ?_
 rw[e.tag]
theorem Rq {w:Zd}(p:k<c.ns.toNat)(e:sp c k+w.length<=W.length)(o:w.length=c.X.length+1):lV c (put W (sp c k) w)=(lV c W).set k (w.getD 0 0-1):=by
 apply List.ext_getElem?;intro j;by_cases m:j<c.ns.toNat
 .rw[Ex m,List.getElem?_set];by_cases g:k=j
  .subst g;rw[zE rfl,zE (by rw[pX];exact p),Cw e o]
  .rw[zF g,Ex m,Po e o (λh=>g h.symm)]
 .rw[aB (by rw[pX];omega),aB (by rw[List.length_set,pX];omega)]
theorem Im (e:k<c.ns.toNat):(lV c W).getD k 0=iA c W k-1:=by
 rw[List.getD_eq_getElem?_getD,Ex e];rfl
theorem JH (h:c.Ok)(u:c.mode≠3){s:Dy}(hi:Inv c s){a:Int×Int}{m':Mc}(e:K9 a (qi c s)=O m'):(HS c a.1 a.2 s).1=0/\qi c (HS c a.1 a.2 s).2=m':=by
 obtain⟨a,n⟩:=a;have o:=hi.w;have T:=hi.L;have V:=hi.p;have Z:=hi.q;have M:=h.ns;have E:(seg s.W (c.off 1) c.X.length).length=c.X.length:=fg (o.in' h (i:=1) (by omega));unfold K9 qi at e;simp only[pX]at e;show(HS c a n s).1=0/\qi c (HS c a n s).2=m';by_cases v:a=1
 .subst v;rw[zE rfl]at e;by_cases g:1<=n/\n<=65535/\s.p+n<=s.L
  .rw[zE g]at e;injection e with e
   unfold HS;rw[zF (by rw[YE (by omega)];simp),Zh,zE rfl,Zh];refine⟨rfl, ?_⟩;rw[<-e];unfold qi;simp only[Bn (OR h o s.p n.toNat)]
  .rw[zF g]at e;cases e
 rw[zF v]at e;by_cases y:a=2
 .subst y;rw[zE rfl]at e;by_cases g:0<=n/\n<(c.ns.toNat:Int)/\(lV c s.W).getD n.toNat 0<0
  .rw[zE g]at e;injection e with e
   have m:n.toNat<c.ns.toNat:=by omega
   obtain⟨F,H,I⟩:=wW h u m;obtain⟨J,K⟩:=o.tk h;have r:=Im (c:=c) (W:=s.W) m;unfold HS;rw[zF (by rw[Lv (by omega) (by omega)];simp),Zh,Zh,zE rfl,Zh];refine⟨rfl, ?_⟩;rw[<-e];unfold qi;simp only;rw[Rq m (by rw[aD];omega) (by rw[aD,E])]
   have N:(IntKind.u64.wrap (IntKind.i64.wrap (s.p+1))::seg s.W (c.off 1) c.X.length).getD 0 0=s.p+1:=by
    show IntKind.u64.wrap (IntKind.i64.wrap (s.p+1))=_;rw[Zi,Zj]
   rw[N,show s.p+1-1=s.p by omega]
  .rw[zF g]at e;cases e
 rw[zF y]at e;by_cases z:a=3
 .subst z;rw[zE rfl]at e;by_cases g:0<=n/\n<(c.ns.toNat:Int)/\0<=(lV c s.W).getD n.toNat 0
  .rw[zE g]at e;injection e with e
   have m:n.toNat<c.ns.toNat:=by omega
   obtain⟨F,H,I⟩:=wW h u m;obtain⟨J,K⟩:=o.tk h;have r:=Im (c:=c) (W:=s.W) m;have Q:(seg s.W (sp c n.toNat+1) c.X.length).length=c.X.length:=fg (by omega);unfold HS;rw[zF (by rw[Lv (by omega) (by omega)];simp),Zh,Zh,Zh,zE rfl,Zh];refine⟨rfl, ?_⟩;rw[<-e];unfold qi;simp only;rw[Bn (fZ.put h (fZ.refl s.W) o (i:=1) (by omega) (by rw[Q];exact Nat.le_refl _)),r]
  .rw[zF g]at e;cases e
 rw[zF z]at e;by_cases A:a=4
 .subst A;rw[zE rfl]at e;by_cases g:0<=n/\n<(c.ns.toNat:Int)/\0<=(lV c s.W).getD n.toNat 0
  .rw[zE g]at e;injection e with e
   have m:n.toNat<c.ns.toNat:=by omega
   obtain⟨F,H,I⟩:=wW h u m;obtain⟨J,K⟩:=o.tk h;have r:=Im (c:=c) (W:=s.W) m;unfold HS;rw[zF (by rw[Lv (by omega) (by omega)];simp),Zh,Zh,Zh,Zh,zE rfl,Zh];refine⟨rfl, ?_⟩;rw[<-e];unfold qi;simp only;rw[Rq m (by rw[cy];omega) (cy _)];rfl
  .rw[zF g]at e;cases e
 rw[zF A]at e;by_cases B:a=5
 .subst B;rw[zE rfl]at e;by_cases g:n=0/\s.q= -1/\s.p=s.L
  .rw[zE g]at e;injection e with e
   unfold HS;rw[zF (by rw[Lu (by omega) g.1];simp),Zh,Zh,Zh,Zh,Zh,zE rfl,Zh,Zh];refine⟨rfl, ?_⟩;rw[<-e];unfold qi;simp only[Bn (OS h o E)]
  .rw[zF g]at e;cases e
 rw[zF B]at e;by_cases C:a=6
 .subst C;rw[zE rfl]at e;by_cases g:n=0/\s.q= -1/\s.p=s.L-1
  .rw[zE g]at e;injection e with e
   unfold HS;rw[zF (by rw[Lu (by omega) g.1];simp),Zh,Zh,Zh,Zh,Zh,Zh,zE rfl,Zh,Zh];refine⟨rfl, ?_⟩;rw[<-e];unfold qi;simp only[Bn (K2 h o s.p).1]
  .rw[zF g]at e;cases e
 rw[zF C]at e;by_cases D:a=7
 .subst D;rw[zE rfl]at e;by_cases g:n=0/\0<s.q/\s.p=s.q-1
  .rw[zE g]at e;injection e with e
   unfold HS;rw[zF (by rw[Lu (by omega) g.1];simp),Zh,Zh,Zh,Zh,Zh,Zh,Zh,Zh,Zh];refine⟨rfl, ?_⟩;rw[<-e];unfold qi;simp only[Bn (OT h o s.p).1]
  .rw[zF g]at e;cases e
 rw[zF D]at e;cases e
theorem cl {α β:Type}{x:Option α}{a:α}{f:α->Option β}{r:Option β}(h:x=O a)(e:f a=r):x.bind f=r:=by rw[h];exact e
end
end
section
theorem xK {α γ:Type}{f:α->Option (α⊕γ)}{s g:α}{x:γ}(h:Reach f k s g)(m:k<18446744073709551615)(e:f g=O (.inr x)):aq f cx s=O x:=by
 have:=h (18446744073709551616-k);rw[show 18446744073709551616-k+k=cx by unfold cx;omega,show 18446744073709551616-k=(18446744073709551615-k)+1 by omega]at this;rw[this,bj,e];rfl
section
variable {c:Cx}
end
end
section
open List renaming replicate -> aB, eq_of_mem_replicate -> aD, getElem?_eq_none -> bB
section
variable {a0:Int} {a1 a2:Zd} {a3:Int} {a4:List ci} {a5:Int} {a6:List ci} {a7 a8 a9:Int}
theorem ap4 (m: ∀o∈a4,okV o)(p: ∀o∈a6,okV o): ∃b,lK a0 a1 a2 a3 a4 a5 a6 a7 a8=O b/\(b=Za->a7<=40∨65535<a7):=by
 rcases ap3 (a0:=a0) (a1:=a1) (a2:=a2) (a3:=a3) (a5:=a5) (a7:=a7) (a8:=a8) m p with h|⟨h,_⟩
 .exact⟨Zb,h,λk=>by cases k⟩
 .refine⟨Za,h,λ_=> ?_⟩;by_cases e:a7<=40
  .exact .inl e
  by_cases g:65535<a7
  .exact .inr g
  exfalso;unfold lK at h;obtain⟨r,w,h⟩:=ah h;cases r with
  |false=>cases h
  |true=>
   rw[Bool.not_true,zD]at h;obtain⟨q,v,h⟩:=ah h;rw[zA e,zA g]at h;cases u:Zc (IntKind.i64.wrap (q.1+q.2)<=300)<;>rw[u]at h<;>cases h
end
section
variable {c:Cx}
theorem Ye (h:c.Ok)(m:c.mode≠3)(e:fi c.mode c.X.length c.T.length c.R c.l c.Q c.k c.len c.words=(c.fixed,c.tp,c.sl,c.ns,0)):1<=c.ns:=by
 have n:=h.num;have o:=n.sl;rw[zF m]at o;unfold fi at e;rw[zF (by rw[h.hc];simp)]at e;by_cases g:c.words<qZ c.X.length c.T.length c.R c.Q+qt c.mode c.l c.k+least c.mode c.len*qs c.mode c.X.length c.R c.l
 .rw[zE g]at e;injection e with _ e
  injection e with _ e
  injection e with _ e
  injection e with _ e
  cases e
 .rw[zF g,zF m]at e;injection e with _ e
  injection e with _ e
  injection e with _ e
  injection e with e _
  unfold least at g;rw[zF m]at g;have p:qs c.mode c.X.length c.R c.l=c.sl:=h.sl.symm;rw[p]at e g;rw[<-e];exact(Int.le_ediv_iff_mul_le (by omega)).2 (by omega)
theorem Y2 (h:c.Ok)(g:c.mode≠3):lV c (new2 c).W=aB c.ns.toNat (-1):=by
 apply List.ext_getElem?;intro k;by_cases e:k<c.ns.toNat
 .rw[Ex e,Ld h g e,List.getElem?_replicate,zE e];rfl
 .rw[bB (by rw[pX];omega),bB (by rw[List.length_replicate];omega)]
theorem X4 (h:c.Ok)(e:c.mode≠3):qi c (new2 c)=⟨c.len,0,-1,aB c.ns.toNat (-1)⟩:=by
 unfold qi;rw[Y2 h e];rfl
theorem ah8 (s:Nat):hld (aB s (-1))=aB s Zb:=by
 unfold hld;rw[List.map_replicate];rfl
theorem ao4 (r:l<=400)(p:1<=s): ∃m',Run Bc ⟨l,0,-1,aB s (-1)⟩ (if l=0 then [(5,0)]else pt (2*l) Zb l s 0 (aB s Zb) Za) m'/\Bc m'=Y/\m'.q=0/\(if l=0 then [((5:Int),(0:Int))]else pt (2*l) Zb l s 0 (aB s Zb) Za).length<=2000:=by
 have g:mP (aB s (-1))= -1:=Io (by omega) (λy m=>by rw[aD m];exact Int.le_refl _) (.inl rfl)
 have e: ∀L:Int,Bc ⟨L,0,0,aB s (-1)⟩=Y:=λL=>by
  unfold Bc;simp only[g];rw[zF (show¬(0:Int)<0 by omega),Zh,zE trivial]
 by_cases o:l=0
 .subst o;rw[zE rfl];refine⟨⟨0,0,0,aB s (-1)⟩, .one ?_ ?_,e 0,rfl,by simp⟩
  .unfold Bc;simp only[g];rw[zE (show(-1:Int)<0 by omega),Zh,Zh,Zg]
  .unfold K9;simp only[Int.reduceEq,if_false,if_true,true_and];rfl
 .rw[zF o];refine⟨⟨l,0,0,aB s (-1)⟩, ?_,e l,rfl,by have:=(Yz (2*l)).1 l s 0 (aB s Zb) Za (by omega) (by omega) (λ_=>p);omega⟩;have:=(YJ (2*l)).1 l s 0 (aB s (-1)) Za l (-1) 0 (Nat.le_refl _) ⟨by omega,by omega,by rw[Zg];omega,λ_=>rfl,(λh=>by cases h),by omega⟩ (λy m=>by rw[aD m];omega) (λy m=>by rw[aD m];omega) (by unfold CO;rw[List.countP_replicate];simp) (λ_=>p);rw[ah8]at this;exact this
theorem as8 (h:c.Ok)(g:c.mode=1)(e:fi c.mode c.X.length c.T.length c.R c.l c.Q c.k c.len c.words=(c.fixed,c.tp,c.sl,c.ns,0)):iY c.mode c.X c.T c.R c.l c.Q c.k c.len c.words=O (.inr (.inr (.inl (c.mode,Zb,Zb,c.fixed,c.tp,c.sl,c.ns,c.mode,c.R,c.Q,c.len,c.words,c.len,c.X,c.T,c.l,c.k,c.P,c.tk,(c.off 8:Int),c.ns,(c.X.length:Int),c.fixed,c.fixed,c.words,(new2 c).W)))):=by
 unfold iY;refine cl (aH3 h (by omega) e) ?_
 refine cl (show gC _ _ _ _ _ _ _ _ _ _ _ _ _ _ _ _ _ _ _ _ _ _ _ _ _ _ _ _ _ _ _ _ _ _ _ _ _ _ _=O (.inl (c.mode,Zb,Zb))from by
  unfold gC;rw[show ix c.mode 4=O 1 from by rw[g];rfl]
  rfl) ?_
 rfl
theorem as9 (h:c.Ok)(g:c.mode=2)(e:fi c.mode c.X.length c.T.length c.R c.l c.Q c.k c.len c.words=(c.fixed,c.tp,c.sl,c.ns,0)):iY c.mode c.X c.T c.R c.l c.Q c.k c.len c.words=O (.inr (.inr (.inr (c.mode,Zb,Zb,c.fixed,c.tp,c.sl,c.ns,c.mode,c.R,c.Q,c.len,c.words,c.len,c.X,c.T,c.l,c.k,c.P,c.tk,(c.off 8:Int),c.ns,(c.X.length:Int),c.fixed,c.fixed,c.words,(new2 c).W)))):=by
 unfold iY;refine cl (aH3 h (by omega) e) ?_
 refine cl (show gC _ _ _ _ _ _ _ _ _ _ _ _ _ _ _ _ _ _ _ _ _ _ _ _ _ _ _ _ _ _ _ _ _ _ _ _ _ _ _=O (.inr (c.mode,Zb,Zb))from by
  unfold gC;rw[show ix c.mode 4=O 2 from by rw[g];rfl]
  rfl) ?_
 rfl
theorem Kh (e:1<=s)(g:k<65536):qG Zb ⟨k,k,-1,(eu s k).2⟩=Y:=by
 cases k with
 |zero=>exact(Tu e).2
 |succ k=>exact(Tv e g).2
end
end
section
open Nat renaming le_succ_of_le -> aB
inductive Ev where
 |act (a:Int×Int)
 |more
 |stop
def nW :List Ev->List (Int×Int)
 |[]=>[]
 | .act a::r=>a::nW r
 |_::r=>nW r
theorem AY : ∀a b:List Ev,nW (a++b)=nW a++nW b
 |[],b=>rfl
 | .act x::r,b=>congrArg (x:: ·) (AY r b)
 | .more::r,b=>AY r b
 | .stop::r,b=>AY r b
theorem DV : ∀l:List (Int×Int),nW (l.map .act)=l
 |[]=>rfl
 |x::r=>congrArg (x:: ·) (DV r)
theorem GA : ∀l:List Ev,(nW l).length<=l.length
 |[]=>Nat.le_refl _
 | .act x::r=>Nat.succ_le_succ (GA r)
 | .more::r=>aB (GA r)
 | .stop::r=>aB (GA r)
def Yf (s:Dy):Option (Int×Int):=if s.q<0 then(if s.p<s.L then O (8,0)else O (5,0))else if 0<s.q then O (9,0)else Y
def qI (c:Cx)(en:Bool)(s:Dy):Option (Int×Int):=if c.mode=3 then Yf s else if c.mode=2 then qG en (qi c s)else Bc (qi c s)
def sj (c:Cx)(a:Int×Int)(s:Dy):Dy:=if c.mode=3 then(F4 c a.1 a.2 s).2 else(HS c a.1 a.2 s).2
def vC (c:Cx)(a:Int×Int)(s:Dy):Prop:=if c.mode=3 then(F4 c a.1 a.2 s).1=0 else∃e,K9 a (qi c s)=O e
def Fq (s:Dy):Dy:={s with L:=s.L+1}
inductive Way (c:Cx)(l:Nat):Nat->Bool->Dy->List Ev->Nat->Bool->Dy->Prop
 |nil (f:Nat) (en:Bool) (s:Dy):Way c l f en s [] f en s
 |act {f:Nat} {en:Bool} {s:Dy} {a:Int×Int} {es:List Ev} {f':Nat} {en':Bool} {s':Dy}:qI c en s=O a->vC c a s->Way c l f en (sj c a s) es f' en' s'->Way c l f en s (.act a::es) f' en' s'
 |more {f:Nat} {s:Dy} {es:List Ev} {f':Nat} {en':Bool} {s':Dy}:c.mode=2->qI c Zb s=Y->s.q= -1->s.L<65535->f<l->Way c l (f+1) Zb (Fq s) es f' en' s'->Way c l f Zb s (.more::es) f' en' s'
 |stop {f:Nat} {s:Dy} {es:List Ev} {f':Nat} {en':Bool} {s':Dy}:c.mode=2->qI c Zb s=Y->s.q= -1->f=l->Way c l (f+1) Za s es f' en' s'->Way c l f Zb s (.stop::es) f' en' s'
theorem Way.app {c:Cx}{s:Dy}{es:List Ev}{q:Nat}{g:Bool}{u:Dy}(h:Way c l f en s es q g u): ∀{o:List Ev} {r:Nat} {m:Bool} {v:Dy},Way c l q g u o r m v->Way c l f en s (es++o) r m v:=by
 induction h with
 |nil=>exact λh=>h
 |act a b _ p=>exact λh=> .act a b (p h)
 |more a b c d e _ p=>exact λh=> .more a b c d e (p h)
 |stop a b c d _ p=>exact λh=> .stop a b c d (p h)
def co (c:Cx)(i:Nat)(s:Dy):Prop:=if c.mode=3 then Well1 c i s else Well2 c i s
section
variable {c:Cx} (h:c.Ok)
include h
theorem lh {s:Dy}(w:co c i s){a:Int×Int}(e:qI c en s=O a)(m:vC c a s):co c (i+1) (sj c a s):=by
 unfold co sj vC at*;by_cases g:c.mode=3
 .simp only[zE g]at w m⊢;have:=w.act h g a;unfold ac9 at this
  have p:a.1≠0:=λo=>by
   unfold F4 at m;rw[o]at m;simp at m
  rw[zF p]at this;exact this
 .simp only[zF g]at w m⊢;have:=w.act h g a;unfold WU at this
  have p:a.1≠0:=λo=>by
   obtain⟨q,m⟩:=m;unfold K9 at m;rw[o]at m;simp at m
  rw[zF p]at this;exact this
theorem Gf {s:Dy}(w:co c i s)(g:c.mode=2)(m:s.q= -1)(e:s.L<65535):co c (i+1) (Fq s):=by
 unfold co at*;rw[Zh]at*;have:=w.act h (by omega) (0,0);unfold WU wV at this;rw[zE rfl,Zh,Zh,Zh]at this;exact this
theorem RG (o:i<=j){s:Dy}(w:co c i s):co c j s:=by
 have m:Dp (65536*i) s->Dp (65536*j) s:=λk=>by
  obtain⟨a,b,d,e⟩:=k;unfold Dp;omega
 unfold co at*;split
 .rename_i g;rw[zE g]at w;exact⟨w.inv,m w.cnt⟩
 .rename_i g;rw[zF g]at w;exact⟨w.inv,m w.cnt,w.len⟩
theorem Way.well {s:Dy}{es:List Ev}{r:Nat}{p:Bool}{q:Dy}(H:Way c l f en s es r p q): ∀{i:Nat},co c i s->co c (i+es.length) q:=by
 have m: ∀(i:Nat) (e:Ev) (es:List Ev),i+(e::es).length=i+1+es.length:=λi e es=>by
  rw[List.length_cons];omega
 induction H with
 |nil=>exact λw=>w
 |act a b _ o=>
  intro i w;rw[m];exact o (lh h w a b)
 |more a b d e g _ o=>
  intro i w;rw[m];exact o (Gf h w a d e)
 |stop a b d e _ o=>
  intro i w;rw[m];exact o (RG h (Nat.le_succ i) w)
theorem JQ (g:c.mode≠3){v:Mc->Option (Int×Int)}(p: ∀s,qI c en s=v (qi c s)){m m':Mc}{k:List (Int×Int)}(R:Run v m k m'): ∀{i:Nat} (s:Dy),qi c s=m->co c i s->∃o,Way c l f en s (k.map .act) f en o/\qi c o=m':=by
 induction R with
 |nil=>exact λs e _=>⟨s, .nil _ _ _,e⟩
 | @cons D E F a k y r _ A=>
  intro i s e w;subst e;have u:qI c en s=O a:=(p s).trans y
  have mm:vC c a s:=by
   unfold vC;rw[zF g];exact⟨_,r⟩
  have q:=w;unfold co at q;rw[zF g]at q;have z:=(JH h g q.inv r).2;obtain⟨o,B,C⟩:=A (sj c a s) (by unfold sj;rw[zF g];exact z) (lh h w u mm);exact⟨o, .act u mm B,C⟩
def qF (c:Cx):Dy:=if c.mode=3 then new1 c else new2 c
theorem jZ :co c 0 (qF c):=by
 unfold co qF;split
 .rename_i e;exact NB h e [] 0
 .rename_i e;exact NC h e [] 0
theorem MO {l:Nat}{f:Nat}(g:c.mode=3): ∀(n:Nat) {i:Nat} (s:Dy),co c i s->s.q= -1->s.L-s.p=n->∃e,Way c l f Zb s (List.replicate n (.act (8,0))) f Zb e/\e.q= -1/\e.p=s.L/\e.L=s.L
 |0,i,s,w,r,v=>⟨s, .nil _ _ _,r,by omega,rfl⟩
 |n+1,i,s,w,r,v=>by
  have o:qI c Zb s=O (8,0):=by
   unfold qI Yf;rw[zE g,Zg,Zg]
  have u:F4 c 8 0 s=(0,(F4 c 8 0 s).2):=by
   unfold F4;rw[zE rfl,Zh,Zh,Zh]
  have C:(F4 c 8 0 s).2.q=s.q/\(F4 c 8 0 s).2.p=s.p+1/\(F4 c 8 0 s).2.L=s.L:=by
   unfold F4;rw[zE rfl,Zh,Zh,Zh];exact⟨rfl,rfl,rfl⟩
  have mm:vC c (8,0) s:=by
   unfold vC;rw[zE g];exact congrArg Prod.fst u
  have m:sj c (8,0) s=(F4 c 8 0 s).2:=by unfold sj;rw[zE g]
  obtain⟨e,y,z,A,B⟩:=MO g n (sj c (8,0) s) (lh h w o mm) (by rw[m];omega) (by rw[m];omega);rw[m]at A B;exact⟨e, .act o mm y,z,by omega,by omega⟩
theorem MN {l:Nat}{f:Nat}(g:c.mode=3): ∀(n:Nat) {i:Nat} (s:Dy),co c i s->s.q=n->∃e,Way c l f Zb s (List.replicate n (.act (9,0))) f Zb e/\e.q=0/\e.L=s.L
 |0,i,s,w,r=>⟨s, .nil _ _ _,by omega,rfl⟩
 |n+1,i,s,w,r=>by
  have m:qI c Zb s=O (9,0):=by
   unfold qI Yf;rw[zE g,Zh,Zg]
  have p:(F4 c 9 0 s).1=0/\(F4 c 9 0 s).2.q=s.q-1/\(F4 c 9 0 s).2.L=s.L:=by
   unfold F4;rw[Zh,Zh,zE rfl,Zh,Zh];exact⟨rfl,rfl,rfl⟩
  have mm:vC c (9,0) s:=by
   unfold vC;rw[zE g];exact p.1
  have o:sj c (9,0) s=(F4 c 9 0 s).2:=by unfold sj;rw[zE g]
  obtain⟨e,u,v,y⟩:=MN g n (sj c (9,0) s) (lh h w m mm) (by rw[o];omega);rw[o]at y;exact⟨e, .act m mm u,v,by omega⟩
end
end
section
open List renaming length_append -> aB, length_cons -> aD, length_map -> bB, replicate -> bD, length_replicate -> cB
section
variable {c:Cx}
end
section
variable {c:Cx} (h:c.Ok)
include h
theorem Yq (r:c.mode=2)(K:1<=c.ns)(y:c.len=0){l:Nat}(J:l<=400): ∀k,k<=l->∃s es,Way c l 0 Zb (new2 c) es k Zb s/\qi c s=⟨k,k,-1,(eu c.ns.toNat k).2⟩/\es.length=(eu c.ns.toNat k).1.length+k/\(nW es).length=(eu c.ns.toNat k).1.length
 |0,I=>by
  have u:=X4 h (by omega);rw[y]at u;have o:=jZ h;unfold qF at o;rw[Zh]at o;have e: ∀s,qI c Zb s=qG Zb (qi c s):=λs=>by unfold qI;rw[Zh,zE r]
  obtain⟨s,v,m⟩:=JQ h (l:=l) (f:=0) (by omega) e (Tu (s:=c.ns.toNat) (by omega)).1 (new2 c) u o;exact⟨s,_,v,m,by rw[bB,Nat.add_zero],by rw[DV]⟩
 |k+1,I=>by
  obtain⟨s,es,v,m,A,B⟩:=Yq r K y J k (by omega);have e: ∀s,qI c Zb s=qG Zb (qi c s):=λs=>by unfold qI;rw[Zh,zE r]
  have g:(eu c.ns.toNat (k+1)).1.length=(eu c.ns.toNat k).1.length+([(1,1)]++(uu (k+1) (eu c.ns.toNat k).2).1).length:=by
   show((eu c.ns.toNat k).1++[(1,1)]++(uu (k+1) (eu c.ns.toNat k).2).1).length=_;rw[List.append_assoc,aB]
  have z:=Kh (s:=c.ns.toNat) (k:=k) (by omega) (by omega);rw[<-m]at z;have w:s.q= -1:=congrArg Mc.q m;have C:s.L=(k:Int):=congrArg Mc.L m;have D:s.p=(k:Int):=congrArg Mc.p m;have E:lV c s.W=(eu c.ns.toNat k).2:=congrArg Mc.t m;have o:=jZ h;unfold qF at o;rw[Zh]at o;have Q:=v.well h o;have T:=Gf h Q r w (by omega)
  have F:qi c (Fq s)=⟨(k:Int)+1,k,-1,(eu c.ns.toNat k).2⟩:=by
   show Mc.mk (s.L+1) s.p s.q (lV c s.W)=_;rw[C,D,w,E]
  obtain⟨N,M,H⟩:=JQ h (l:=l) (f:=k+1) (by omega) e (Tv (s:=c.ns.toNat) (k:=k) (by omega) (by omega)).1 (Fq s) F T;refine⟨N,es++ .more::([(1,1)]++(uu (k+1) (eu c.ns.toNat k).2).1).map .act,v.app (.more r ((e s).trans z) w (by omega) (by omega) M),H, ?_, ?_⟩
  .rw[aB,aD,bB,A,g];omega
  .rw[AY];show(nW es++nW (([(1,1)]++(uu (k+1) (eu c.ns.toNat k).2).1).map .act)).length=_;rw[DV,aB,B,g]
theorem aB8 (o:c.mode=2):c.len=0:=by
 have hc:=h.hc;have m:=h.num.len;unfold rb at hc;split at hc
 .rename_i k;exact absurd hc k
 split at hc
 .rename_i k;exact absurd hc k
 split at hc
 .rename_i k;exact absurd hc k
 split at hc
 .rename_i k;exact absurd hc k
 rename_i k;unfold hk3 at k;rw[zE o]at k;by_cases e:c.len<0
 .omega
 by_cases g:0<c.len
 .rw[zF e,zE g]at k;omega
 .omega
structure LZ (c:Cx)(l:Nat)(f:Nat)(en:Bool)(s:Dy)(es:List Ev):Prop where
 no:qI c en s=Y
 q:s.q=0
 L:s.L=l
 len:es.length<=(l+1)*(l+2)+8*l+2010
 one:1<=(nW es).length
 en:c.mode=2->en=Za
theorem aq7 (e:fi c.mode c.X.length c.T.length c.R c.l c.Q c.k c.len c.words=(c.fixed,c.tp,c.sl,c.ns,0))(hl:l<=400)(o:c.mode≠2->c.len=l): ∃es f en s,Way c l 0 Zb (qF c) es f en s/\LZ c l f en s es:=by
 have nm:=h.num.mode;have v:=jZ h;have hns:=h.ns;by_cases g:c.mode=3
 .have I:=o (by omega);have F:qF c=new1 c:=by unfold qF;rw[zE g]
  rw[F]at v⊢;obtain⟨m,r,q1,p1,L1⟩:=MO h (l:=l) (f:=0) g l (new1 c) v rfl (by show c.len-0=_;omega);have L1:m.L=c.len:=L1;have p1:m.p=c.len:=p1;have A:=r.well h v
  have C:qI c Zb m=O (5,0):=by
   unfold qI Yf;rw[zE g,Zg,Zh]
  have V:(F4 c 5 0 m).1=0/\(F4 c 5 0 m).2.q=m.L/\(F4 c 5 0 m).2.L=m.L:=by
   unfold F4;rw[Zh,zE rfl,Zh,Zh,Zh];exact⟨rfl,rfl,rfl⟩
  have mm:vC c (5,0) m:=by
   unfold vC;rw[zE g];exact V.1
  have Z:sj c (5,0) m=(F4 c 5 0 m).2:=by unfold sj;rw[zE g]
  have B:=lh h A C mm;obtain⟨E,r2,q2,L2⟩:=MN h (l:=l) (f:=0) g l (sj c (5,0) m) B (by rw[Z];omega);rw[Z]at L2;refine⟨_,_,_,E,r.app (.act C mm r2), ?_,q2,by omega, ?_, ?_,λk=>by omega⟩
  .unfold qI Yf;rw[zE g,Zh,Zh]
  .rw[aB,aD,cB,cB];omega
  .rw[AY,aB];show 1<=_+(nW (bD l (Ev.act (9,0)))).length.succ;omega
 have hn:=Ye h g e;have F:qF c=new2 c:=by unfold qF;rw[zF g]
 rw[F]at v⊢;by_cases h1:c.mode=1
 .have I:=o (by omega);have z: ∀s,qI c Zb s=Bc (qi c s):=λs=>by unfold qI;rw[zF g,Zh]
  obtain⟨m',R,J,K,hR⟩:=ao4 (l:=l) (s:=c.ns.toNat) (by omega) (by omega);have y:=X4 h g;rw[I]at y;obtain⟨s,r,w⟩:=JQ h (l:=l) (f:=0) g z R (new2 c) y v;have A:=r.well h v;refine⟨_,_,_,s,r,(z s).trans (by rw[w];exact J), ?_, ?_,by rw[bB];omega, ?_,λk=>by omega⟩
  .rw[<-K,<-w];rfl
  .have B:=A;unfold co at B;rw[zF g]at B;exact(B.len (by omega)).trans I
  .rw[DV];by_cases N:l=0
   .rw[zE N];exact Nat.le_refl _
   .rw[zF N]at R⊢;generalize pt (2*l) Zb l c.ns.toNat 0 (bD c.ns.toNat Zb) Za=k at R⊢;cases k with
    |nil=>
     exfalso;generalize hM:(⟨(l:Int),0,-1,bD c.ns.toNat (-1)⟩:Mc)=M at R;cases R;rw[<-hM]at K;have:(-1:Int)=0:=K;omega
    |cons _ _=>exact Nat.succ_le_succ (Nat.zero_le _)
 .have D:c.mode=2:=by omega
  have u: ∀en s,qI c en s=qG en (qi c s):=λen s=>by unfold qI;rw[zF g,zE D]
  have hal:=Kg c.ns.toNat l;have hbk:=Tz (wb l (eu c.ns.toNat l).2.length) (eu c.ns.toNat l).2 l
  have hbl:(MM l (eu c.ns.toNat l).2).length<=4*l+2/\1<=(MM l (eu c.ns.toNat l).2).length:=by
   unfold MM frB;rw[aD,aB];split
   .rw[List.length_singleton];omega
   .rw[List.length_nil];omega
  obtain⟨s,es,r,w,C,V⟩:=Yq h D hn (aB8 h D) hl l (Nat.le_refl _);have hx:=Kh (s:=c.ns.toNat) (k:=l) (by omega) (by omega);rw[<-w]at hx;obtain⟨b1,b2⟩:=W7 (l:=l) (s:=c.ns.toNat) (by omega) (by omega);have A:=r.well h v;obtain⟨E,r3,H⟩:=JQ h (l:=l) (f:=l+1) g (u Za) b1 s w A;refine⟨_,_,_,E,r.app (.stop D ((u Zb s).trans hx) (congrArg Mc.q w) rfl r3),(u Za E).trans (by rw[H];exact b2),congrArg Mc.q H,congrArg Mc.L H, ?_, ?_,λ_=>rfl⟩
  .rw[aB,aD,bB,C];omega
  .rw[AY,aB];show 1<=_+(nW ((MM l (eu c.ns.toNat l).2).map .act)).length;rw[DV];omega
omit h in
theorem LZ.le {s:Dy}{es:List Ev}(F:LZ c l f en s es)(g:l<=40):es.length<=6000:=by
 have:=F.len;have e:(l+1)*(l+2)<=41*42:=Nat.mul_le_mul (by omega) (by omega);omega
end
end
end Go.V
