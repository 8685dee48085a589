/- A part of the proof. No condition. -/
import Derived.Test.YtgnojcajllcmoaaGreatDoorL3
set_option linter.all false
namespace Go.V
open Go.Ab
open Option renaming some->O,none->Y
open Bool renaming true->Za,false->Zb
open Decidable renaming decide->Zc
open List renaming length_eq_zero_iff->dy
open List renaming mem_cons->aw
open List renaming length->hW
open Int renaming toNat->hX
open Option renaming bind->im
variable {s s':Dy}{W at' ax rest t w:Zd}{f i j k l o:Nat}{en q:Bool}{a:Int×Int}{B v x:Int}{m':Mc}
set_option maxRecDepth 100000
section
open Int renaming toNat_natCast->cP
open List renaming length_append->aB,replicate->aD,length_cons->bB,length_singleton->bD,length->cD,append_assoc->cK,append_nil->cL,findIdx_le_length->cM,length_replicate->cN,countP_le_length->cQ,length_take->cR,not_of_lt_findIdx->cS,replicate_zero->cT,take_length->cU,take_succ_eq_append_getElem->cV
open Nat renaming le_refl->cB,mul_le_mul->cO
theorem X8 : ∀f,(∀n c k (h:List Bool) b,1<=n->n<=65536->(2<=n->1<=c)->hW (pt f Zb n c k h b)+2<=5*n)/\∀n c k (h:List Bool) b,1<=n->n<=65536->1<=c->hW (pt f Za n c k h b)+3<=5*n
 |0=>⟨λn c k h b d _ _=>by show 0+2<=_;omega,λn c k h b d _ _=>by show 0+3<=_;omega⟩
 |f+1=>by
  have⟨e,u⟩:=X8 f;refine⟨λn c k h b d g p=> ?_,λn c k h b d g p=> ?_⟩
  .unfold pt
   grind
  .unfold pt;by_cases r:n<=1
   .rw[zE r];simp;omega
   .rw[zF r,bB,aB,bB];have⟨y,z,A,_⟩:=Yu (n:=n) (c:=c) V1 p g
    have a:=e (n-WH n c) (c-1) 0 h b V1 V1 (λh=>by
     omega)
    grind
theorem ao9 {h:List Bool}(u:hW h<1000000000):xh h=O ((h.findIdx λb=> !b:Nat):Int):=by
 unfold xh
 have g:=nO (f:=rn h) (n:=h.findIdx λb=> !b) (c:=((h.findIdx λb=> !b:Nat):Int)) (by have:=cM (p:=λb=> !b) (xs:=h);omega)
  (λi hi=>by
   have d:i<hW h:=Nat.lt_of_lt_of_le hi cM;have e:=cS hi;unfold rn;rw[Zf,zC,bt d,zG]
   have:h[i]=Za:=by cases r:h[i]with
    |true=>rfl
    |false=>rw[r]at e;cases e
   rw[this,zC,Zi]
   rfl)
  (by
   unfold rn;by_cases d:(h.findIdx λb=> !b)<hW h
   .have e:=List.findIdx_getElem (w:=d);rw[Zf,zC,bt d]
    grind
   grind)
 rw[g];rfl
theorem aF7 {h:List Bool}(e:hW h<1000000000)(d:k<hW h):zP h (k:Int) Za=O (h.set k Za):=by
 unfold zP
 have b:=cn (f:=sX h) (n:=hW h) (λi=>h.take i) (c:=h) V1
  (λi hi=>by
   unfold sX;simp only;rw[Zf,zC,bt hi,zG,bg (by rw[cR];omega) V1,Zi,cV hi]
   rfl)
  (by
   unfold sX;simp only
   rw[Ze,zD,cU])
 rw[List.take_zero]at b;rw[b,zG,bn d]
 grind
theorem OE {h:List Bool}(d:0<h.countP λb=> !b):(h.findIdx λb=> !b)<hW h:=by
 simp_all
theorem aj0 {h:List Bool}(d:0<h.countP λb=> !b):((h.set (h.findIdx λb=> !b) Za).countP λb=> !b)+1=h.countP λb=> !b:=by
 have e:=OE d
 grind
theorem Wn : ∀(N n c k f:Nat) (h:List Bool) (d:Bool),n<=N->1<=n->n<65536->2*n<=f->(h.countP λb=> !b)=c->(2<=n->1<=c)->hW h<=1048576->kL N (n:Int) (c:Int) h d=O (pt f Zb n c k h d)
 |0,n,c,k,f,h,d=>λZ K=>by omega
 |N+1,n,c,k,f,h,d=>by
  intro Z K h3 h4 h5 h6 h7;obtain⟨f,rfl⟩: ∃g,f=g+1:=⟨f-1,V1⟩
  show DG (kL N) (n:Int) (c:Int) h d=_;unfold DG;have hl:(cond d (O 6) (O 7):Option Int)=O (if d then 6 else 7):=by cases d<;>rfl
  rw[hl,zG];by_cases Q:n=1
  .rw[Zf,zC];unfold pt;rw[zE Q]
  .have H:=h6 V1;have I:0<h.countP λb=> !b:=by omega
   have L:=OE I;have hcs:=aj0 I;rw[Ze,zD,ao9 V1,zG,aF7 V1 L,zG]
   conv=>rhs;unfold pt
   rw[zF Q];have hbd:=(X8 f).2 n c (h.findIdx λb=> !b) (h.set (h.findIdx λb=> !b) Za) d K V1 H;generalize (h.findIdx λb=> !b)=u at*;have M:hW (h.set u Za)<=1048576:=by rw[List.length_set];exact h7
   generalize h.set u Za=A at*;have hcl:c<=1048576:=by have:=cQ (p:=λb=> !b) (l:=h);omega
   have hTl:hW ((2,(u:Int))::pt f Za n c u A d)<=5*n:=by rw[bB];omega
   generalize hT:((2,(u:Int))::pt f Za n c u A d)=T at*
   obtain⟨r,e,hr,hr2⟩:=lj (f:=yv (kL N) (c:Int) (u:Int) A) (a:=((n:Int),d,[(2,(u:Int))])) (λs=> ∃(z C:Nat) (y:Bool) (D:List<|Int×Int),s=((z:Int),y,D)/\1<=z/\z<=n/\2*z<=C+1/\D++pt C Za z c u A y=T/\hW D<=1000000) (λs=>hX s.1) (λr=>r++[(7,0),(4,(u:Int))]=T/\hW r<=1000000) ⟨n,f,d,_,rfl,K,cB _,V1,hT,V2⟩ ZH (by
    rintro s ⟨z,C,y,D,rfl,g1,g2,g3,E,g5⟩;obtain⟨C,rfl⟩: ∃g,C=g+1:=⟨C-1,V1⟩
    have V:=E;have F:=congrArg cD E;rw[aB]at F;unfold pt at E;unfold yv;simp only;by_cases J:z<=1
    .grind
    .rw[zF J]at E;have⟨m1,m2,m3,m4⟩:=Yu (n:=z) (c:=c) V1 H V1;rw[Zf,zC,(Yx (n:=z) (c:=c) V1 (by have:=cQ (p:=λb=> !b) (l:=h);omega)).2,zG,<-m4]
     have hw:hW (pt (C+1) Za z c u A y)=1+hW (pt C Zb (z-WH z c) (c-1) 0 A y)+1+hW (pt C Za (WH z c) c u A Zb):=by
      conv=>lhs;unfold pt
      rw[zF J,bB,aB,bB];omega
     rw[bg V1 V1,ae (n:=(z:Int)-(WH z c:Int)) V1,ae (n:=(c:Int)-1) V1,show(z:Int)-(WH z c:Int)=((z-WH z c:Nat):Int)by omega,show(c:Int)-1=((c-1:Nat):Int)by omega,Wn N (z-WH z c) (c-1) 0 C A y V1 V1 V1 V1 V1 (λh=>by
      omega) M]
     simp only[zG];rw[bg Zt V1,bg (by rw[aB,aB,bD];omega) V1];refine .inl ⟨_,rfl,⟨WH z c,C,Zb,_,rfl,m1,V1,V1, ?_, ?_⟩,by simp only;omega⟩
     .rw[<-E];simp[cK]
     grind)
   rw[e,zG,bg V1 V1,hr]
def Yi {s:Nat}(e:l<=400)(d:1<=s/\s<=1048576):uH (l:Int) (s:Int)=O (if l=0 then [(5,0)]else pt (2*l) Zb l s 0 (aD s Zb) Za,0):=by
 unfold uH;rw[Ze,zD,Ze,zD,Ze,zD,Ze,zD];by_cases b:l=0
 .rw[zE b,Zf,zC]
 rw[zF b,Ze,zD]
 have:(Nat.beq 1 (Sh.w .bool)&&Zc (0<=(s:Int))&&Zc ((s:Int)<=(s:Int))&&Zc ((1:Int)*(s:Int)<=140737488355328)&&Nat.ble 1 1)=Za:=by
  rw[zB (show 0<=(s:Int)by omega),zB (show(s:Int)<=(s:Int)by omega),zB (show(1:Int)*(s:Int)<=140737488355328 by omega)];rfl
 rw[this,bp];unfold DM;rw[cP,Wn 4000 l s 0 (2*l) (aD s Zb) Za V1 V1 V1 (cB _) (by rw[List.countP_replicate];simp) (λ_=>d.1) (by rw[cN];exact d.2)];rfl
theorem J8 (A:hW t<1000000000):hY t x=O (if x∈t then(yn t x:Int)else-1):=by
 unfold hY;have r:yn t x<=hW t:=cM
 have d:=nO (f:=sY t x) (n:=yn t x) (c:=if x∈t then .inl (yn t x:Int)else .inr ()) V1
  (λi hi=>by
   have b:i<hW t:=by omega
   have p:=cS hi;unfold sY;rw[Zf,zC,bt b,zG,p,zD,Zi]
   rfl)
  (by
   unfold sY;by_cases g:x∈t
   .obtain⟨u,e⟩:=GP g;rw[Zf,zC,bt u]
    grind
   have:yn t x=hW t:=List.findIdx_eq_length_of_false λy z=>zA λe=>g (e▸z)
   grind)
 rw[d,zG];split<;>rfl
theorem Pm {s:Nat}(A:k<65536)(r:1<=s/\s<=1048576):qC (k:Int) (s:Int)=O ((sm k s:Int),0):=by
 unfold qC;rw[Ze,zD,Ze,zD,Ze,zD,Ze,zD];have g:=pf A r.1
 have d:am (uJ (k:Int) (s:Int)) co 65536=O (sm k s:Int):=by
  refine JT (λa=> ∃e:Nat,a=((2 ^ e:Nat):Int)/\e<=16/\k<s*2 ^ e) (λa=>hX a) ⟨16,rfl,V1,V1⟩ V5 ?_;rintro a ⟨e,rfl,y,b⟩;have F:1<=2 ^ e:=Nat.one_le_two_pow;have E:2 ^ e<=2 ^ 16:=Nat.pow_le_pow_right V1 y;unfold uJ;rw[show Int.tdiv ((2 ^ e:Nat):Int) 2=((2 ^ e / 2:Nat):Int)from rfl,Zp];by_cases C:1<2 ^ e
  .have z:1<=e:=by
    grind
   have p:2 ^ e / 2=2 ^ (e-1):=by
    conv=>lhs;rw[show e=(e-1)+1 by omega,Nat.pow_succ]
    exact Nat.mul_div_cancel _ V1
   have u:s*2 ^ (e-1)<=1048576*65536:=cO r.2 V1;rw[Zf,zC,p,<-Int.natCast_mul,Zp];by_cases D:k<s*2 ^ (e-1)
   .rw[Zf,zC]
    grind
   rw[Ze,zD];have:IsStr k s<|2 ^ e:=⟨⟨e,rfl⟩,b, .inr (by rw[p];omega)⟩;rw[this.eq g];exact .inr rfl
  rw[Ze,zD];have:IsStr k s<|2 ^ e:=⟨⟨e,rfl⟩,b, .inl V1⟩;rw[this.eq g];exact .inr rfl
 rw[d];rfl
theorem M6 (d:Nat)(t:Zd): ∀n,hW (K6 d n t).1<=n
 |0=>cB _
 |n+1=>by
  have:=M6 d t n;unfold K6
  grind
def ae1 (i d:Nat):Int.tmod (i:Int) (d:Int)=((i % d:Nat):Int):=rfl
theorem Wl {s I:Nat}(F:k<65536)(z:t.length=s)(D:1<=s/\s<=1048576)(G:Gd k t I)(K:I ∣ sm k s):zQ t (k:Int)=O (tR k t):=by
 obtain⟨_,_,_,_,p⟩:=Bk (en:=Zb) F z D.1 G K;have J:=(pf F D.1).pos;have g:=λn=>(Yo (k:=k) (d:=sm k s) (s:=s) (t:=t) (en:=Zb) rfl z G.one n).1
 unfold zQ tR
 have A:=cn (f:=gB t) (n:=t.length) (λi=>t.take i) (c:=t) V1
  (λi hi=>by
   unfold gB;simp only;rw[Zf,zC,bt hi];simp only[zG];rw[bg (by rw[cR];omega) V1,Zi,cV hi]
   rfl)
  (by
   unfold gB;simp only
   rw[Ze,zD,cU])
 rw[List.take_zero]at A;rw[A];simp only[zG];rw[z,Pm F D];simp only[zG];generalize L:sm k s=d at*
 have C:=cn (f:=pm (k:Int) ((d:Int),0)) (n:=k) (λi=>((K6 d i t).2,(K6 d i t).1)) (c:=((K6 d k t).2,(K6 d k t).1)) V1
  (λi hi=>by
   have y:=M6 d t i;have H:(K6 d i t).2.length=s:=by rw[g,th,z]
   unfold pm;simp only;rw[Zf,zC,zB (show(d:Int)≠0 by omega),bp,ae1,J8 V1];simp only[zG]
   conv=>rhs;unfold K6
   by_cases b:i % d≠0/\(i:Int)∈(K6 d i t).2
   .obtain⟨r,e⟩:=Nf b.2;rw[zE b,zE b.2,Zf,zC,Zf];simp only[zG,zC];rw[bg V1 V1,bn r];simp only[zG];rw[e];simp only[zG];rw[Zi];rfl
   rw[zF b]
   have:(cond (Zc (((i % d:Nat):Int)≠0)) (O (Zc (0<=(if(i:Int)∈(K6 d i t).2 then(yn (K6 d i t).2 (i:Int):Int)else-1)))) (O Zb):Option Bool)=O Zb:=by
    by_cases M:i % d=0
    .rw[Ze,zD]
    simp_all
   rw[this];simp only[zG,zD];rw[Zi]
   rfl)
  (by
   unfold pm;simp only
   rw[Ze,zD])
 have u:am (pm (k:Int) ((d:Int),0)) co (0,t,[])=_:=C;rw[u];simp only[zG];have y:=M6 d t k;have H:(K6 d k t).2.length=s:=by rw[g,th,z]
 rw[zB (show(d:Int)≠0 by omega),bp,ae1];by_cases b:k % d=0
 .have E:=p b;rw[<-g k]at E;obtain⟨r,e⟩:=Nf E;rw[zE b,Zf,zC,J8 V1,zE E];simp only[zG];rw[bg V1 V1,bn r]
  grind
 grind
theorem K8 (k:Nat)(t:Zd):hW (tR k t).1<=k+1:=by
 have:=M6 (sm k<|hW t) t k;unfold tR
 grind
theorem Ep (s:Nat): ∀k,hW (di s k).1<=(k+1)*(k+2)
 |0=>by have:=K8 0<|aD s<|-1;show(hW (tR 0 _).1)<=_;omega
 |k+1=>by
  have b:=Ep s k;have d:=K8 (k+1) (di s k).2;show(hW<|(di s k).1++[(1,1)]++(tR (k+1) (di s k).2).1)<=_
  grind
def aU9 (i n:Nat):(aD i (-1:Int)++aD (n+1) 0).set i (-1)=aD (i+1) (-1)++aD n 0:=by
 rw[List.set_append_right _ _ V2,cN,Nat.sub_self,List.replicate_succ,List.set_cons_zero,List.replicate_succ',cK];rfl
theorem ao8 {s:Nat}(u:l<65535)(b:1<=s/\s<=1048576):xi (l:Int) (s:Int)=O (di s l):=by
 unfold xi
 have:(Nat.beq 1 (Sh.w<|.int .i64)&&Zc (0<=(s:Int))&&Zc ((s:Int)<=(s:Int))&&Zc ((8:Int)*(s:Int)<=140737488355328)&&Nat.ble 1 8)=Za:=by
  rw[zB (show 0<=(s:Int)by omega),zB (show(s:Int)<=(s:Int)by omega),zB (show(8:Int)*(s:Int)<=140737488355328 by omega)];rfl
 rw[this,bp,cP]
 have d:=cn (f:=rp (s:Int)) (n:=s) (λi=>aD i (-1)++aD (s-i) 0) (c:=aD s<|-1) V1
  (λi hi=>by
   unfold rp;simp only;rw[Zf,zC,bn V3,zG,List.getElem?_eq_getElem V3,zG,Zi,show s-i=(s-(i+1))+1 by omega,aU9]
   rfl)
  (by
   unfold rp;simp only
   rw[Ze,zD,Nat.sub_self,cT,cL])
 rw[cT,List.nil_append,Nat.sub_zero]at d;rw[d,zG]
 have e:=cn (f:=rr (l:Int)) (n:=l+1) (λi=>match i with|0=>([],aD s<|-1)|j+1=>((di s j).1,(di s j).2)) (c:=((di s l).1,(di s l).2)) V1
  (λi hi=>by
   unfold rr;cases i with
   |zero=>
    simp only;rw[Zf,zC,Ze,zD,zG];have:=Wl (k:=0) V1 cN b (Gd.none s 1)<|Nat.one_dvd _;rw[this];rfl
   |succ j=>
    have⟨a1,a2⟩:=Dd b.1 j V1;have g:=Ep s j;have p:(j+1)*(j+2)<=65536*65536:=cO V1 V1;have r:=K8 (j+1) (di s j).2;simp only;rw[Zf,zC,Zf,zC,bg V1 V1,zG,Wl (k:=j+1) V1 a2 b a1<|(pf V1 b.1).next<|pf V1 b.1,zG,bg Zt V1,Zi]
    rfl)
  (by
   unfold rr;simp only
   rw[Ze,zD])
 grind
def S4 (d:Nat)(t:Zd): ∀i,hW (bkF d t i)<=4*i
 |0=>cB _
 |i+1=>by
  have:=S4 d t i;unfold bkF Xb;rw[bB,aB,bB,aB]
  repeat' split
  all_goals simp;omega
theorem Yj {s:Nat}(L:l<65535)(p:1<=s/\s<=1048576):uI (l:Int) (s:Int)=O (0,(di s l).1++Jr l (di s l).2):=by
 obtain⟨G,e⟩:=Dd p.1 l V1;have C:=(pf (k:=l) (s:=s) V1 p.1).pos;have I:=Ep s l;have Z:(l+1)*(l+2)<=65536*65537:=cO V1 V1;unfold uI Jr;rw[Pm V1 p];simp only[zG];rw[zA V2,zD,ao8 L p];simp only[zG];rw[e,bg V1 V1,zB (show((sm l s:Nat):Int)≠0 by omega),bp,ae1];generalize hd:sm l s=d at*;generalize H:di s l=D at*;obtain⟨b,t⟩:=D;simp only at*
 have E:(cond (Zc (((l % d:Nat):Int)=0)) ((hY t (l:Int)).bind λQ=>gd (du (cD ((b++[(5,0)]))+1) 16) (O (((b++[(5,0)])++[(4,Q)])))) (O ((b++[(5,0)]))):Option (List (Int×Int)))=O (b++[(5,0)]++Xb d t l):=by
  unfold Xb;by_cases h:l % d=0
  .rw[Zf,zC,J8 V1,zE (G.all l V1 h),zE h];simp only[zG];rw[bg Zt V1]
  grind
 rw[E];simp only[zG];have K:(Xb d t l).length<=1:=by unfold Xb;split<;>simp
 have z:am (yD ((d:Int),0) (b,t)) co (IntKind.i64.wrap ((l:Int)-1),b++[(5,0)]++Xb d t l)=O (b++(5,0)::(Xb d t l++bkF d t l)):=by
  refine JT (λa=> ∃(i:Nat) (o:List (Int×Int)),a=((i:Int)-1,o)/\i<=l/\o++bkF d t i=b++(5,0)::(Xb d t l++bkF d t l)) (λa=>(a.1+1).toNat) ⟨l,_,by rw[Zi],cB _,by simp[cK]⟩ (by rw[Zi];simp only;omega) ?_;rintro a ⟨i,o,rfl,hi,g⟩;unfold yD;simp only;have y:=congrArg cD g;have J:=S4 d t l;rw[aB,aB,bB,aB]at y;generalize b++(5,0)::(Xb d t l++bkF d t l)=T at*;cases i with
  |zero=>
   rw[Ze,zD];have:o=o++bkF d t 0:=by show o=o++[];rw[cL]
   rw[this,g];exact .inr rfl
  |succ i=>
   left;have A:=Nat.mod_lt i (show d > 0 by omega);have M:=Nat.mod_le i d
   have u:(i-i % d) % d=0:=by
    have:=Nat.div_add_mod i d;rw[show i-i % d=d*(i / d)by omega];exact Nat.mul_mod_right _ _
   rw[show((i+1:Nat):Int)-1=(i:Int)by omega,Zf,zC,zB (show(d:Int)≠0 by omega),bp,ae1,ae (n:=(i:Int)-((i % d:Nat):Int)) V1,show(i:Int)-((i % d:Nat):Int)=((i-i % d:Nat):Int)by omega,J8 V1,zE (G.all (i-i % d) V1 u)];simp only[zG];rw[bg V1 V1];unfold bkF at g;generalize N:i % d=r at*
   have F:(cond (Zc (((i-r:Nat):Int)<(i:Int))) (gd (du (cD ((o++[(3,(yn t ((i-r:Nat):Int):Int))]))+1) 16) (O (((o++[(3,(yn t ((i-r:Nat):Int):Int))])++[(1,IntKind.i64.wrap ((i:Int)-((i-r:Nat):Int)))])))) (O ((o++[(3,(yn t ((i-r:Nat):Int):Int))]))):Option (List (Int×Int)))=O (o++[(3,(yn t ((i-r:Nat):Int):Int))]++if r≠0 then [(1,(r:Int))]else []):=by
    by_cases h:r=0
    .rw[Ze,zD,Zh,cL]
    rw[Zf,zC,zE h,bg Zt V1,Zi,show(i:Int)-((i-r:Nat):Int)=(r:Int)by omega]
   rw[F];simp only[zG];have V:(if r≠0 then [((1:Int),(r:Int))]else []).length<=1:=by split<;>simp
   rw[bg (by rw[aB,aB,bD];omega) V1];unfold Xb at g;rw[N]at g;by_cases h:r=0
   .rw[Zf,zC];rw[bg (by rw[aB,aB,aB,bD,bD];omega) V1,Zi];refine⟨_,rfl,⟨i,_,rfl,V1, ?_⟩,by simp only;omega⟩
    grind
   rw[Ze,zD,Zi];refine⟨_,rfl,⟨i,_,rfl,V1, ?_⟩,by simp only;omega⟩
   grind
 rw[z];rfl
end
section
open List renaming getElem?_eq_none->aB,length_cons->aD
theorem Wr {n:Int}(h:1<=n/\n<=65535):lW 1 n=Za:=by
 unfold lW
 grind
theorem Dx {a n:Int}(b:2<=a/\a<=4)(h:0<=n/\n<1048576):lW a n=Za:=by
 unfold lW
 grind
theorem Dw {a n:Int}(b:5<=a/\a<=9)(h:n=0):lW a n=Za:=by
 unfold lW
 grind
section
variable {c:Cx}
def DE {W':Zd}(b:fd c W W'):lu c W'=lu c W:=by
 unfold lu;refine List.map_congr_left λk _=> ?_
 rw[b.tag]
def WM (p:k<hX c.ns)(b:sp c k+hW w<=hW W)(g:hW w=hW c.X+1):lu c (put W (sp c k) w)=(lu c W).set k (w.getD 0 0-1):=by
 apply List.ext_getElem?;intro j;by_cases e:j<hX c.ns
 .rw[GV e,List.getElem?_set];by_cases d:k=j
  .subst d;rw[zE rfl,zE (by rw[pD];exact p),Ak b g]
  rw[zF d,GV e,Ng b g<|λh=>d h.symm]
 rw[aB (by rw[pD];omega),aB (by rw[List.length_set,pD];omega)]
def Ay (b:k<hX c.ns):(lu c W).getD k 0=iG c W k-1:=by
 rw[List.getD_eq_getElem?_getD,GV b];rfl
theorem M3 (h:c.Ok)(u:c.mode≠3)(hi:Inv c s)(e:ML a (pB c s)=O m'):(E6 c a.1 a.2 s).1=0/\pB c (E6 c a.1 a.2 s).2=m':=by
 obtain⟨a,n⟩:=a;have g:=hi.w;have Z:=hi.L;have hp:=hi.p;have hq:=hi.q;have Q:=h.ns;have H:hW (seg s.W (c.off 1)<|hW c.X)=hW c.X:=eV<|g.in' h (i:=1) V1;unfold ML pB at e;simp only[pD]at e;show(E6 c a n s).1=0/\pB c (E6 c a n s).2=m';by_cases y:a=1
 .subst y;rw[zE rfl]at e;by_cases b:1<=n/\n<=65535/\s.p+n<=s.L
  .rw[zE b]at e;injection e with e
   unfold E6;rw[zF (by rw[Wr V1];simp),Zh,zE rfl,Zh];refine⟨rfl, ?_⟩;rw[<-e];unfold pB;simp only[DE<|M8 h g s.p<|hX n]
  rw[zF b]at e;cases e
 rw[zF y]at e;by_cases z:a=2
 .subst z;rw[zE rfl]at e;by_cases b:0<=n/\n<(hX c.ns:Int)/\(lu c s.W).getD (hX n) 0<0
  .rw[zE b]at e;injection e with e
   have d:hX n<hX c.ns:=by omega
   have⟨I,J,K⟩:=sM h u d;have⟨M,N⟩:=g.tk h;have r:=Ay (c:=c) (W:=s.W) d;unfold E6;rw[zF V7,Zh,Zh,zE rfl,Zh];refine⟨rfl, ?_⟩;rw[<-e];unfold pB;simp only;rw[WM d V9 (by rw[aD,H])]
   have hv:(IntKind.u64.wrap (IntKind.i64.wrap<|s.p+1)::seg s.W (c.off 1) (hW c.X)).getD 0 0=s.p+1:=by
    show IntKind.u64.wrap (IntKind.i64.wrap<|s.p+1)=_;rw[Zi,Zj]
   grind
  rw[zF b]at e;cases e
 rw[zF z]at e;by_cases A:a=3
 .subst A;rw[zE rfl]at e;by_cases b:0<=n/\n<(hX c.ns:Int)/\0<=(lu c s.W).getD (hX n) 0
  .rw[zE b]at e;injection e with e
   have d:hX n<hX c.ns:=by omega
   have⟨I,J,K⟩:=sM h u d;have⟨M,N⟩:=g.tk h;have r:=Ay (c:=c) (W:=s.W) d;have V:hW (seg s.W (sp c (hX n)+1)<|hW c.X)=hW c.X:=eV V1;unfold E6;rw[zF V7,Zh,Zh,Zh,zE rfl,Zh];refine⟨rfl, ?_⟩;rw[<-e];unfold pB;simp only;rw[DE<|fd.put h (fd.refl s.W) g (i:=1) V1 (by rw[V];exact Nat.le_refl _),r]
  rw[zF b]at e;cases e
 rw[zF A]at e;by_cases C:a=4
 .subst C;rw[zE rfl]at e;by_cases b:0<=n/\n<(hX c.ns:Int)/\0<=(lu c s.W).getD (hX n) 0
  .rw[zE b]at e;injection e with e
   have d:hX n<hX c.ns:=by omega
   have⟨I,J,K⟩:=sM h u d;have⟨M,N⟩:=g.tk h;have r:=Ay (c:=c) (W:=s.W) d;unfold E6;rw[zF V7,Zh,Zh,Zh,Zh,zE rfl,Zh];refine⟨rfl, ?_⟩;rw[<-e];unfold pB;simp only;rw[WM d Z7<|cd _];rfl
  rw[zF b]at e;cases e
 rw[zF C]at e;by_cases D:a=5
 .subst D;rw[zE rfl]at e;by_cases b:n=0/\s.q= -1/\s.p=s.L
  .rw[zE b]at e;injection e with e
   unfold E6;rw[zF Z3,Zh,Zh,Zh,Zh,Zh,zE rfl,Zh,Zh];refine⟨rfl, ?_⟩;rw[<-e];unfold pB;simp only[DE<|JL h g H]
  rw[zF b]at e;cases e
 rw[zF D]at e;by_cases E:a=6
 .subst E;rw[zE rfl]at e;by_cases b:n=0/\s.q= -1/\s.p=s.L-1
  .rw[zE b]at e;injection e with e
   unfold E6;rw[zF Z3,Zh,Zh,Zh,Zh,Zh,Zh,zE rfl,Zh,Zh];refine⟨rfl, ?_⟩;rw[<-e];unfold pB;simp only[DE (JK h g s.p).1]
  rw[zF b]at e;cases e
 rw[zF E]at e;by_cases F:a=7
 .subst F;rw[zE rfl]at e;by_cases b:n=0/\0<s.q/\s.p=s.q-1
  .rw[zE b]at e;injection e with e
   unfold E6;rw[zF Z3,Zh,Zh,Zh,Zh,Zh,Zh,Zh,Zh,Zh];refine⟨rfl, ?_⟩;rw[<-e];unfold pB;simp only[DE (M9 h g s.p).1]
  rw[zF b]at e;cases e
 rw[zF F]at e;cases e
def ec {α β:Type}{x:Option α}{a:α}{f:α->Option β}{r:Option β}(h:x=O a)(b:f a=r):x.bind f=r:=by rw[h];exact b
end
end
section
def Lp {α γ:Type}{f:α->Option (α⊕γ)}{s s':α}{x:γ}(h:Reach f k s s')(b:k<18446744073709551615)(e:f s'=O (.inr x)):am f co s=O x:=by
 have:=h<|18446744073709551616-k;rw[show 18446744073709551616-k+k=co by unfold co;omega,show 18446744073709551616-k=(18446744073709551615-k)+1 by omega]at this;rw[this,bi,e];rfl
section
variable {c:Cx}
end
end
section
open List renaming replicate->aB,eq_of_mem_replicate->aD,getElem?_eq_none->bB
section
variable {a0:Int} {a1 a2:Zd} {a3:Int} {a4:List bx} {a5:Int} {a6:List bx} {a7 a8 a9:Int}
theorem aV5 (g: ∀o∈a4,Uu o)(p: ∀o∈a6,Uu o): ∃b,mL a0 a1 a2 a3 a4 a5 a6 a7 a8=O b/\(b=Za->a7<=40∨65535<a7):=by
 rcases aV4 (a0:=a0) (a1:=a1) (a2:=a2) (a3:=a3) (a5:=a5) (a7:=a7) (a8:=a8) g p with h|⟨h,_⟩
 .exact⟨Zb,h,λk=>by cases k⟩
 refine⟨Za,h,λ_=> ?_⟩;by_cases d:a7<=40
 .exact .inl d
 by_cases e:65535<a7
 .exact .inr e
 exfalso;unfold mL at h;obtain⟨r,y,h⟩:=ai h;cases r with
 |false=>cases h
 |true=>
  rw[Bool.not_true,zD]at h;obtain⟨q,u,h⟩:=ai h
  simp_all
end
section
variable {c:Cx}
theorem XX (h:c.Ok)(d:c.mode≠3)(e:gP c.mode (hW c.X) (hW c.T) c.R c.l c.Q c.k c.len c.words=(c.fixed,c.tp,c.sl,c.ns,0)):1<=c.ns:=by
 have n:=h.num;have g:=n.sl;rw[zF d]at g;unfold gP at e;rw[zF (by rw[h.hc];simp)]at e;by_cases b:c.words<sJ (hW c.X) (hW c.T) c.R c.Q+rS c.mode c.l c.k+least c.mode c.len*rR c.mode (hW c.X) c.R c.l
 .rw[zE b]at e
  grind
 rw[zF b,zF d]at e;injection e with _ e
 injection e with _ e
 injection e with _ e
 injection e with e _
 unfold least at b;rw[zF d]at b;have p:rR c.mode (hW c.X) c.R c.l=c.sl:=h.sl.symm;rw[p]at e b;rw[<-e];exact(Int.le_ediv_iff_mul_le V1).2 V1
def aH6 (h:c.Ok)(d:c.mode≠3):lu c (new2 c).W=aB (hX c.ns) (-1):=by
 apply List.ext_getElem?;intro k;by_cases b:k<hX c.ns
 .rw[GV b,JV h d b,List.getElem?_replicate,zE b];rfl
 rw[bB (by rw[pD];omega),bB (by rw[List.length_replicate];omega)]
def aC2 (h:c.Ok)(b:c.mode≠3):pB c (new2 c)=⟨c.len,0,-1,aB (hX c.ns)<|-1⟩:=by
 unfold pB;rw[aH6 h b];rfl
def aQ0 (s:Nat):hld (aB s<|-1)=aB s Zb:=by
 unfold hld;rw[List.map_replicate];rfl
theorem aU6 {s:Nat}(r:l<=400)(g:1<=s): ∃m',Run Ds ⟨l,0,-1,aB s<|-1⟩ (if l=0 then [(5,0)]else pt (2*l) Zb l s 0 (aB s Zb) Za) m'/\Ds m'=Y/\m'.q=0/\hW (if l=0 then [((5:Int),(0:Int))]else pt (2*l) Zb l s 0 (aB s Zb) Za)<=2000:=by
 have p:oi (aB s<|-1)= -1:=Lz V1 (λy d=>by rw[aD d];exact Int.le_refl _) (.inl rfl)
 have b: ∀L:Int,Ds ⟨L,0,0,aB s<|-1⟩=Y:=λL=>by
  unfold Ds
  grind
 by_cases e:l=0
 .subst e;rw[zE rfl];refine⟨⟨0,0,0,aB s<|-1⟩, .one ?_ ?_,b 0,rfl,V2⟩
  .unfold Ds
   grind
  rfl
 rw[zF e];refine⟨⟨l,0,0,aB s<|-1⟩, ?_,b l,rfl,by have:=(X8<|2*l).1 l s 0 (aB s Zb) Za V1 V1<|λ_=>g;omega⟩;have:=(aG1<|2*l).1 l s 0 (aB s<|-1) Za l (-1) 0 (Nat.le_refl _) ⟨V1,V1,by rw[Zg];omega,λ_=>rfl,(λh=>by cases h),V1⟩ (λy d=>by rw[aD d];omega) (λy d=>by rw[aD d];omega) (by unfold E9;rw[List.countP_replicate];simp)<|λ_=>g;rw[aQ0]at this;exact this
def aZ6 (h:c.Ok)(b:c.mode=1)(e:gP c.mode (hW c.X) (hW c.T) c.R c.l c.Q c.k c.len c.words=(c.fixed,c.tp,c.sl,c.ns,0)):jq c.mode c.X c.T c.R c.l c.Q c.k c.len c.words=O (.inr<|.inr<|.inl (c.mode,Zb,Zb,c.fixed,c.tp,c.sl,c.ns,c.mode,c.R,c.Q,c.len,c.words,c.len,c.X,c.T,c.l,c.k,c.P,c.tk,(c.off 8:Int),c.ns,(hW c.X:Int),c.fixed,c.fixed,c.words,(new2 c).W)):=by
 unfold jq;refine ec (bq2 h V1 e) ?_
 refine ec (show gU .. =O (.inl (c.mode,Zb,Zb))from by
  unfold gU;rw[show ix c.mode 4=O 1 from by rw[b];rfl]
  rfl) ?_
 rfl
def aZ7 (h:c.Ok)(b:c.mode=2)(e:gP c.mode (hW c.X) (hW c.T) c.R c.l c.Q c.k c.len c.words=(c.fixed,c.tp,c.sl,c.ns,0)):jq c.mode c.X c.T c.R c.l c.Q c.k c.len c.words=O (.inr<|.inr<|.inr (c.mode,Zb,Zb,c.fixed,c.tp,c.sl,c.ns,c.mode,c.R,c.Q,c.len,c.words,c.len,c.X,c.T,c.l,c.k,c.P,c.tk,(c.off 8:Int),c.ns,(hW c.X:Int),c.fixed,c.fixed,c.words,(new2 c).W)):=by
 unfold jq;refine ec (bq2 h V1 e) ?_
 refine ec (show gU .. =O (.inr (c.mode,Zb,Zb))from by
  unfold gU;rw[show ix c.mode 4=O 2 from by rw[b];rfl]
  rfl) ?_
 rfl
def NW {s:Nat}(b:1<=s)(d:k<65536):si Zb ⟨k,k,-1,(di s k).2⟩=Y:=by
 cases k with
 |zero=>exact(YP b).2
 |succ k=>exact(YQ b d).2
end
end
section
open List renaming length_cons->aB
def iE (c:Cx)(i:Nat):Zd:=IQ c 0 c.X i
def i8 (c:Cx)(L:Nat):Nat->Zd×Zd
 |0=>((yi c<|iE c L).take<|hW c.X,vw (hW c.X) (zeros<|hW c.T)<|yi c<|iE c L)
 |k+1=>((rP c ((L-(k+1):Nat):Int) (iE c<|L-(k+1)) (i8 c L k).1).take<|hW c.X,vw (hW c.X) (i8 c L k).2<|rP c ((L-(k+1):Nat):Int) (iE c<|L-(k+1)) (i8 c L k).1)
section
variable {c:Cx} (h:c.Ok) (wT:ce c.T) (wX:ce c.X)
def Kh (i:Nat):iE c (i+1)=Bx c (i:Int) (iE c i):=by
 show Bx c (0+(i:Int)) _=_;rw[Int.zero_add];rfl
def ad7 (i:Nat): ∀k,IQ c (i:Int) (iE c i) k=iE c (i+k)
 |0=>rfl
 |k+1=>by
  show Bx c ((i:Int)+(k:Int)) (IQ c (i:Int) (iE c i) k)=_;rw[ad7 i k,<-Nat.add_assoc,Kh]
  congr 1
def at7 (c:Cx)(s:Dy):Zd×Zd:=i8 c (hX s.L)<|hX<|s.L-s.q
structure Jn (c:Cx)(s:Dy)(ax at':Zd):Prop where
 has:Has c s.W (iE c<|hX s.p) ax at'
 ini:s.q<0->at'=zeros (hW c.T)
 adj:0<=s.q->(ax,at')=at7 c s/\s.z=lossV c (iE c<|hX s.L)
def Sls (c:Cx)(s:Dy):Prop:= ∀k,k<hX c.ns->0<iG c s.W k->seg s.W (sp c k+1) (hW c.X)=iE c (hX<|iG c s.W k-1)
include h wT wX
theorem mf (i:Nat):hW (iE c i)=hW c.X/\ce (iE c i):=ER h wT rfl wX i
omit wT wX in
theorem Sls.kept (S:Sls c s)(b:fd c s.W s'.W):Sls c s':=λk e d=>by
 rw[b.tag]at d⊢;rw[b.seg Zs];exact S k e d
omit wT wX in
theorem Sls.put (u:c.mode≠3)(S:Sls c s)(A:Wd c s.W)(C:k<hX c.ns){x:Zd}(E:hW x=hW c.X)(e:s'.W=put s.W (sp c k) (v::x))(D:0<v->x=iE c (hX<|v-1)):Sls c s':=λj r g=>by
 have⟨F,H,I⟩:=sM h u C;have⟨J,_,_⟩:=sM h u r;have⟨K,L⟩:=A.tk h;have p:hW (v::x)=hW c.X+1:=by rw[aB,E]
 have b:sp c k+hW (v::x)<=hW s.W:=by rw[p];omega
 rw[e]at g⊢;by_cases d:j=k
 .subst d;rw[Ak b p]at g⊢;have g:0<v:=g
  have y:seg (Go.V.put s.W (sp c j)<|v::x) (sp c j+1) (hW c.X)=x:=by
   have:=IP (n:=hW<|v::x) b<|Nat.le_refl _;rw[List.take_length,p]at this
   have z:seg (Go.V.put s.W (sp c j)<|v::x) (sp c j+1) (hW c.X)=(seg (Go.V.put s.W (sp c j)<|v::x) (sp c j)<|hW c.X+1).drop 1:=by
    unfold seg;rw[List.drop_take,List.drop_drop];rfl
   rw[z,this];rfl
  rw[y];exact D g
 .rw[Ng b p<|Ne.symm<|Ne.symm d]at g⊢
  rw[pe b (by
   rw[p];rcases Nat.lt_or_gt_of_ne d with h1|h1
   .have:=ad5 (c:=c) h1;omega
   .have:=ad5 (c:=c) h1
    omega)]
  exact S j r g
omit h wT wX in
theorem NU {L q:Int}(p:0<q)(g:q<=L):i8 c (hX L) (hX<|L-(q-1))=((rP c (q-1) (iE c<|hX<|q-1) (i8 c (hX L)<|hX<|L-q).1).take<|hW c.X,vw (hW c.X) (i8 c (hX L)<|hX<|L-q).2<|rP c (q-1) (iE c<|hX<|q-1) (i8 c (hX L)<|hX<|L-q).1):=by
 have b:hX (L-(q-1))=hX (L-q)+1:=by omega
 have d:hX L-(hX (L-q)+1)=hX (q-1):=by omega
 have e:((hX (q-1):Nat):Int)=q-1:=by omega
 rw[b];show(_,_)=_;rw[d,e]
omit wT wX in
theorem Has.put8' {st:Zd}(H:Has c W st ax at')(p:c.off 8<=o)(d:o+hW w<=c.off 9)(e:ce w):Has c (Go.V.put W o w) st ax at':=by
 have g:=H.wd.tk h;have r:=aD0 (c:=c) (i:=7) (j:=8) V1;have b:o+hW w<=hW W:=by omega
 have a1:=gJ (c:=c) (i:=1) (j:=7) V1;have a5:=gJ (c:=c) (i:=5) (j:=7) V1;have a6:=gJ (c:=c) (i:=6) (j:=7) V1;have a0:=gJ (c:=c) (i:=0) (j:=7) V1;refine⟨H.wd.put h d,H.w.put e _, ?_, ?_, ?_, ?_⟩
 .rw[pe b<|.inl (show 0+hW c.T<=o by have:c.off 0+c.sz 0=0+hW c.T:=rfl;omega)];exact H.t
 .rw[pe b<|.inl (show c.off 1+hW c.X<=o by have:c.sz 1=hW c.X:=rfl;omega)];exact H.s
 .rw[pe b<|.inl (show c.off 5+hW c.X<=o by have:c.sz 5=hW c.X:=rfl;omega)];exact H.x
 rw[pe b<|.inl (show c.off 6+hW c.T<=o by have:c.sz 6=hW c.T:=rfl;omega)];exact H.a
theorem bs9 (z:c.mode≠3)(hi:Inv c s)(J:Jn c s ax at')(S:Sls c s)(e:ML a (pB c s)=O m'): ∃y g,Jn c (E6 c a.1 a.2 s).2 y g/\Sls c (E6 c a.1 a.2 s).2:=by
 obtain⟨a,n⟩:=a;have u:=hi.w;have hL:=hi.L;have hp:=hi.p;have hq:=hi.q;have hns:=h.ns;have H:=J.has;have⟨F,I⟩:=mf h wT wX<|hX s.p;have D:hW (seg s.W (c.off 1)<|hW c.X)=hW c.X:=eV<|u.in' h (i:=1) V1;unfold ML pB at e;simp only[pD]at e;show∃y g,Jn c (E6 c a n s).2 y g/\Sls c (E6 c a n s).2
 by_cases K:a=1
 .subst K;rw[zE rfl]at e;by_cases b:1<=n/\n<=65535/\s.p+n<=s.L
  .unfold E6;rw[zF (by rw[Wr V1];simp),Zh,zE rfl,Zh];refine⟨ax,at',⟨?_,J.ini,J.adj⟩,S.kept h<|M8 h u s.p<|hX n⟩;have:=H.advW h wT s.p<|hX n;have e2:=ad7 (c:=c) (hX s.p) (hX n)
   grind
  rw[zF b]at e;cases e
 rw[zF K]at e;by_cases M:a=2
 .subst M;rw[zE rfl]at e;by_cases b:0<=n/\n<(hX c.ns:Int)/\(lu c s.W).getD (hX n) 0<0
  .have r:hX n<hX c.ns:=by omega
   have⟨A,s2,s3⟩:=sM h z r;have hg:=Ay (c:=c) (W:=s.W) r;unfold E6;rw[zF V7,Zh,Zh,zE rfl,Zh];have hv:IntKind.u64.wrap (IntKind.i64.wrap<|s.p+1)=s.p+1:=by rw[Zi,Zj]
   refine⟨ax,at',⟨?_,J.ini,J.adj⟩, ?_⟩
   .refine H.put8' h Zs (by rw[aB,D];exact A) ?_;intro v hv';rcases aw.1 hv' with rfl|hv'
    .exact LF _
    exact H.w.seg _ _ v hv'
   refine S.put h z u r D rfl λ_=> ?_
   rw[hv,H.s]
   congr 1
   omega
  rw[zF b]at e;cases e
 rw[zF M]at e;by_cases N:a=3
 .subst N;rw[zE rfl]at e;by_cases b:0<=n/\n<(hX c.ns:Int)/\0<=(lu c s.W).getD (hX n) 0
  .have r:hX n<hX c.ns:=by omega
   have⟨A,s2,s3⟩:=sM h z r;have⟨t1,t2⟩:=u.tk h;have hg:=Ay (c:=c) (W:=s.W) r;have l2:hW (seg s.W (sp c (hX n)+1)<|hW c.X)=hW c.X:=eV V1;unfold E6;rw[zF V7,Zh,Zh,Zh,zE rfl,Zh];refine⟨ax,at',⟨?_,J.ini,J.adj⟩,S.kept h<|fd.put h (fd.refl s.W) u (i:=1) V1 (by rw[l2];exact Nat.le_refl _)⟩;have hs:=S (hX n) r V1;have:=H.put1 h l2<|H.w.seg _ _;rw[hs]at this⊢;exact this
  rw[zF b]at e;cases e
 rw[zF N]at e;by_cases Q:a=4
 .subst Q;rw[zE rfl]at e;by_cases b:0<=n/\n<(hX c.ns:Int)/\0<=(lu c s.W).getD (hX n) 0
  .have r:hX n<hX c.ns:=by omega
   have⟨A,s2,s3⟩:=sM h z r;have hg:=Ay (c:=c) (W:=s.W) r;unfold E6;rw[zF V7,Zh,Zh,Zh,Zh,zE rfl,Zh];refine⟨ax,at',⟨?_,J.ini,J.adj⟩, ?_⟩
   .exact H.put8' h Zs (by rw[cd];exact A) (ce.rep _)
   exact S.put h z u r (cd _) (show _=put s.W (sp c<|hX n) (0::zeros (hW c.X))from rfl) λd=>by omega
  rw[zF b]at e;cases e
 rw[zF Q]at e;by_cases V:a=5
 .subst V;rw[zE rfl]at e;by_cases b:n=0/\s.q= -1/\s.p=s.L
  .unfold E6;rw[zF Z3,Zh,Zh,Zh,Zh,Zh,zE rfl,Zh,Zh];have H2:=H.endd h wT F I;have C:=J.ini V1;refine⟨(yi c<|iE c<|hX s.p).take<|hW c.X,vw (hW c.X) at'<|yi c<|iE c<|hX s.p,⟨?_,λd=> ?_,λd=>⟨?_, ?_⟩⟩,S.kept h<|JL h u D⟩
   .show Has c (K0 c s.W<|seg s.W (c.off 1)<|hW c.X) (iE c<|hX s.p) _ _;rw[H.s];exact H2
   .exfalso;have d:s.p<0:=d;omega
   .show _=i8 c (hX s.L) (hX<|s.L-s.p);rw[show(hX<|s.L-s.p)=0 by omega,C,b.2.2];rfl
   show rg (lossR c s.W<|seg s.W (c.off 1)<|hW c.X).1 0=_;rw[H.s,H.lossV h wT,b.2.2]
  rw[zF b]at e;cases e
 rw[zF V]at e;by_cases Z:a=6
 .subst Z;rw[zE rfl]at e;by_cases b:n=0/\s.q= -1/\s.p=s.L-1
  .unfold E6;rw[zF Z3,Zh,Zh,Zh,Zh,Zh,Zh,zE rfl,Zh,Zh];have H2:=H.both h wT s.p;have C:=J.ini V1
   have E:Bx c s.p (iE c<|hX s.p)=iE c (hX s.L):=by
    have:=Kh (c:=c) (hX s.p)
    grind
   rw[E]at H2;refine⟨_,_,⟨H2,λd=> ?_,λd=>⟨?_, ?_⟩⟩,S.kept h (JK h u s.p).1⟩
   .exfalso;have d:s.p<0:=d;omega
   .show _=i8 c (hX s.L) (hX<|s.L-s.p);have:=NU (c:=c) (L:=s.L) (q:=s.L) V1<|Int.le_refl _;rw[b.2.2,this,show(hX<|s.L-s.L)=0 by omega,C];rfl
   show rg (lossR c (put s.W (c.off 2) (stepR c s.W s.p).1)<|(stepR c s.W s.p).1.take<|hW c.X).1 0=_;have H3:=H.taped h wT s.p;rw[H3.lossV h wT,H.stepR h,(By h wT (t:=s.p) F I).2.2.2.2,E]
  rw[zF b]at e;cases e
 rw[zF Z]at e;by_cases h7:a=7
 .subst h7;rw[zE rfl]at e;by_cases b:n=0/\0<s.q/\s.p=s.q-1
  .unfold E6;rw[zF Z3,Zh,Zh,Zh,Zh,Zh,Zh,Zh,Zh,Zh];have H2:=H.rev h wT s.p;have⟨i1,i2⟩:=J.adj V1;unfold at7 at i1;refine⟨_,_,⟨H2,λd=> ?_,λd=>⟨?_,i2⟩⟩,S.kept h (M9 h u s.p).1⟩
   .exfalso;have d:s.p<0:=d;omega
   show _=i8 c (hX s.L) (hX<|s.L-s.p);have:=NU (c:=c) (L:=s.L) (q:=s.q) V1 V1;rw[b.2.2,this,<-i1]
  rw[zF b]at e;cases e
 rw[zF h7]at e;cases e
omit wX in
theorem bl9 (J:Jn c s ax at')(d:s.q=0)(g:0<=s.L):FI c s=(lossV c<|iE c<|hX s.L,0,(i8 c (hX s.L)<|hX s.L).1,(i8 c (hX s.L)<|hX s.L).2):=by
 have⟨b,e⟩:=J.adj V1;unfold at7 at b;rw[d,Int.sub_zero]at b;unfold FI;rw[Zh,e,J.has.x,J.has.a,<-b]
end
end
section
open List renaming length_append->aB,length_singleton->aD
theorem RC {l:Zd}(h:j≠i):rg (l.set j v) (i:Int)=rg l (i:Int):=by
 unfold rg
 grind
theorem Mf {l:Zd}(h:j<hW l):rg (l.set j v) (j:Int)=v:=by
 unfold rg
 grind
def QP (t:Zd): ∀(l:List bx) (r a a':Zd) (n:Nat),(E5 (rH t) l (r,a,n)).1=(E5 (rH t) l (r,a',n)).1/\(E5 (rH t) l (r,a,n)).2.2=(E5 (rH t) l (r,a',n)).2.2
 |[],_,_,_,_=>⟨rfl,rfl⟩
 |o::l,r,a,a',n=>by
  have⟨d,b⟩:=QP t l r a a' n;refine⟨?_, ?_⟩
  .show(E5 (rH t) l (r,a,n)).1.set (hX o.2.1) (rg t (((E5 (rH t) l (r,a,n)).2.2-1:Nat):Int))=_;rw[d,b];rfl
  .show(E5 (rH t) l (r,a,n)).2.2-1=_;rw[b];rfl
def aw4 (t:Zd)(l:List bx)(r a a':Zd)(n:Nat):(E5 (rH t) l (r,a,n)).1=(E5 (rH t) l (r,a',n)).1:=(QP t l r a a' n).1
theorem bu8 {a:Zd}: ∀(n:Nat) (l:List bx),hW l=n->∀(r d t:Zd),(∀o∈l,Vp (hW r) o)->hW l<=hW d->(∀i,i<hW l->rg t (i:Int)=rg (qe iF l (r,d,0)).2.1 (i:Int))->(E5 (rH t) l ((qe iF l (r,d,0)).1,a,hW l)).1=r
 |0,l,p,r,d,t,_,_,_=>by
  have:=dy.1 p;subst this;rfl
 |n+1,l,p,r,d,t,E,I,y=>by
  obtain⟨b,o,rfl⟩: ∃b o,l=b++[o]:=⟨l.take n,l[n]' V1,by
   rw[<-List.take_succ_eq_append_getElem V1,List.take_of_length_le V1]⟩
  rw[aB,aD]at p I;have u:hW b=n:=by omega
  have⟨C,D,e⟩:=OL b (r,d,0);rw[M1];have K:qe iF (b++[o]) (r,d,0)=iF o (qe iF b (r,d,0)):=by rw[Hn];rfl
  rw[K]at y⊢;have ih:=bu8 (a:=a) n b u r d t (λx N=>E x (by simp[N])) V1;have J: ∀A,(E5 (rH t) b ((qe iF b (r,d,0)).1,A,hW b)).1=(E5 (rH t) b ((qe iF b (r,d,0)).1,a,hW b)).1:=λA=>aw4 t b _ _ _ _
  have g:=E o V2;generalize qe iF b (r,d,0)=s at*;have C:hW s.1=hW r:=C;have D:hW s.2.1=hW d:=D;have e:s.2.2=hW b:=by rw[e];simp
  have⟨Q,ka,kb,H,q2,q3,V,Z,g3⟩:=B2 g;have M:=y (hW b) Zu
  have L: ∀i,i<hW b->rg t (i:Int)=rg s.2.1 (i:Int):=λi hi=>by
   rw[y i Zu];show rg (s.2.1.set s.2.2<|rg s.1 o.2.1) (i:Int)=_;exact RC V1
  have z:rg t ((hW b:Nat):Int)=rg s.1 (Q:Int):=by
   rw[M];show rg (s.2.1.set s.2.2<|rg s.1 o.2.1) ((hW b:Nat):Int)=_;rw[e,H];exact Mf V1
  have F:(E5 (rH t) [o] ((iF o s).1,a,hW<|b++[o])).1=s.1/\(E5 (rH t) [o] ((iF o s).1,a,hW<|b++[o])).2.2=hW b:=by
   rw[aB,aD];refine⟨?_,by show hW b+1-1=_;omega⟩;show((s.1.set (hX o.2.1) _).set (hX o.2.1)<|rg t ((hW b+1-1:Nat):Int))=s.1;rw[H,Int.toNat_natCast,List.set_set,Nat.add_sub_cancel,z,aG7 V1]
  grind
section
variable {c:Cx} (h:c.Ok) (wT:ce c.T) (wX:ce c.X)
def Kps (c:Cx)(s:Dy):Prop:= ∀i:Nat,(i:Int)<jk s->B9 c s.W i=(jD c (i:Int)<|iE c i).1/\yq c s.W i=(jD c (i:Int)<|iE c i).2.1
include h
theorem Kps.kept (K:Kps c s)(b:fd c s.W s'.W)(d:jk s'<=jk s):Kps c s':=λi hi=>by
 unfold B9 yq;rw[b.seg ZI,b.seg ZI];exact K i V1
include wT wX
theorem Xl (F:c.mode=3)(hi:InvB c s)(K:Kps c s)(H:0<s.q):(zk c s.W<|hX<|s.q-1).1.take (hW c.X)=iE c (hX<|s.q-1)/\True:=by
 refine⟨?_,trivial⟩;have⟨⟨I,J⟩,C,A,M,N,L⟩:=h.lens;have⟨u,y⟩:=K (hX<|s.q-1) (by unfold jk;rw[Zh];omega);generalize hX (s.q-1)=i at*;have⟨g,z⟩:=mf h wT wX i;have D:=vy (c:=c) (i:Int) g;have d:=h.pl.ulen;have p:=h.pl.goodU;unfold zk;rw[u,y];have b:hW (fill c.R<|wH c (i:Int)<|iE c i)=hX c.R:=fB V1;have:=bu8 (a:=fill c.R<|seg s.W (c.off 5)<|hW c.X) c.fl.n c.fl.unroll d.1 (fill c.R<|wH c (i:Int)<|iE c i) (zeros c.fl.n) (jD c (i:Int)<|iE c i).2.1 (λo r=>by rw[b];exact(p o r).1) Z7<|λj E=>rfl;rw[d.1]at this;show((E5 (rH (jD c (i:Int)<|iE c i).2.1) c.fl.unroll ((jD c (i:Int)<|iE c i).1,fill c.R<|seg s.W (c.off 5)<|hW c.X,c.fl.n)).1).take (hW c.X)=_;have e:(jD c (i:Int)<|iE c i).1=(qe iF c.fl.unroll (fill c.R<|wH c (i:Int)<|iE c i,zeros c.fl.n,0)).1:=rfl;rw[e,this];unfold fill wH
 grind
theorem bt0 (hm:c.mode=3)(hi:InvB c s)(J:Jn c s ax at')(K:Kps c s)(a n:Int): ∃M y,Jn c (Hz c a n s).2 M y/\Kps c (Hz c a n s).2:=by
 have C:=hi.w;have hp:=hi.p;have hq:=hi.q;have hLc:=hi.L;have nm:=h.num;have hns:=h.ns;have hb:=h.base hm;have H:=J.has;have⟨V,Z⟩:=mf h wT wX<|hX s.p;have hpp:((hX s.p:Nat):Int)=s.p:=by omega
 have l1:hW (seg s.W (c.off 1)<|hW c.X)=hW c.X:=eV<|C.in' h (i:=1) V1;unfold Hz;by_cases h8:a=8
 .rw[zE h8];by_cases e:n≠0
  .rw[zE e];exact⟨ax,at',J,K⟩
  rw[zF e];by_cases g:0<=s.q
  .rw[zE g];exact⟨ax,at',J,K⟩
  rw[zF g];by_cases z:s.p=s.L
  .rw[zE z];exact⟨ax,at',J,K⟩
  rw[zF z];have⟨s1,s2,s3,s4⟩:=DC h hm (i:=hX s.p) V1;have⟨t1,t2⟩:=C.tk h;have⟨N,f2,Q,I,A⟩:=By h wT (t:=s.p) V Z;have H2:=H.taped h wT s.p;rw[H.stepR h]at H2⊢;have b:hW ((jD c s.p<|iE c<|hX s.p).2.1++(jD c s.p<|iE c<|hX s.p).1)=hX c.sl:=by rw[aB,Q,I,s1]
  have ww:ce<|(jD c s.p<|iE c<|hX s.p).2.1++(jD c s.p<|iE c<|hX s.p).1:=f2.app N;have H3:=H2.put8' h (o:=jC c<|hX s.p) s4 (by rw[b];exact s3) ww
  have eS:iE c (hX<|s.p+1)=Bx c s.p (iE c<|hX s.p):=by
   have:=Kh (c:=c) (hX s.p)
   grind
  have lt:hW ((jD c s.p<|iE c<|hX s.p).1.take<|hW c.X)=hW c.X:=by rw[A,(Cb h wT V Z).1]
  have H4:=H3.put1 h lt<|N.take _;rw[A]at H4 lt;refine⟨ax,at',⟨?_,J.ini,J.adj⟩,λi u=> ?_⟩
  .show Has c (put (put (put s.W (c.off 2) (jD c s.p<|iE c<|hX s.p).1) (jC c<|hX s.p)<|(jD c s.p<|iE c<|hX s.p).2.1++(jD c s.p<|iE c<|hX s.p).1) (c.off 1)<|(jD c s.p<|iE c<|hX s.p).1.take<|hW c.X) (iE c<|hX<|s.p+1) ax at';rw[A,eS];exact H4
  have u:(i:Int)<if s.q<0 then s.p+1 else s.q:=u
  rw[Zg]at u;have hW2:Wd c<|put s.W (c.off 2) (jD c s.p<|iE c<|hX s.p).1:=H2.wd;have hW3:=H3.wd
  have kK:fd c (put (put s.W (c.off 2) (jD c s.p<|iE c<|hX s.p).1) (jC c<|hX s.p)<|(jD c s.p<|iE c<|hX s.p).2.1++(jD c s.p<|iE c<|hX s.p).1)<|put (put (put s.W (c.off 2) (jD c s.p<|iE c<|hX s.p).1) (jC c<|hX s.p)<|(jD c s.p<|iE c<|hX s.p).2.1++(jD c s.p<|iE c<|hX s.p).1) (c.off 1)<|(jD c s.p<|iE c<|hX s.p).1.take<|hW c.X:=
   fd.put h (fd.refl _) hW3 (i:=1) V1 (by rw[A,lt];exact Nat.le_refl _)
  have E:fd c s.W<|put s.W (c.off 2) (jD c s.p<|iE c<|hX s.p).1:=fd.put h (fd.refl _) C (i:=2) V1<|Nat.le_of_eq Q;have⟨u1,u2⟩:=hW2.tk h;have d:jC c (hX s.p)+hW ((jD c s.p<|iE c<|hX s.p).2.1++(jD c s.p<|iE c<|hX s.p).1)<=hW (put s.W (c.off 2) (jD c s.p<|iE c<|hX s.p).1):=by rw[b];omega
  show seg (put (put (put s.W (c.off 2) (jD c s.p<|iE c<|hX s.p).1) (jC c<|hX s.p)<|(jD c s.p<|iE c<|hX s.p).2.1++(jD c s.p<|iE c<|hX s.p).1) (c.off 1)<|(jD c s.p<|iE c<|hX s.p).1.take<|hW c.X) (jC c i+c.fl.n) (hX c.R)=_/\seg (put (put (put s.W (c.off 2) (jD c s.p<|iE c<|hX s.p).1) (jC c<|hX s.p)<|(jD c s.p<|iE c<|hX s.p).2.1++(jD c s.p<|iE c<|hX s.p).1) (c.off 1)<|(jD c s.p<|iE c<|hX s.p).1.take<|hW c.X) (jC c i) c.fl.n=_;rw[kK.seg ZI,kK.seg ZI];by_cases hip:i=hX s.p
  .subst hip;rw[hpp];have e0:=vK d;rw[b]at e0;constructor
   .have e1:seg (put (put s.W (c.off 2) (jD c s.p<|iE c<|hX s.p).1) (jC c<|hX s.p)<|(jD c s.p<|iE c<|hX s.p).2.1++(jD c s.p<|iE c<|hX s.p).1) (jC c (hX s.p)+c.fl.n) (hX c.R)=(seg (put (put s.W (c.off 2) (jD c s.p<|iE c<|hX s.p).1) (jC c<|hX s.p)<|(jD c s.p<|iE c<|hX s.p).2.1++(jD c s.p<|iE c<|hX s.p).1) (jC c<|hX s.p)<|hX c.sl).drop c.fl.n:=by
     unfold seg;rw[List.drop_take,List.drop_drop,s1,show c.fl.n+hX c.R-c.fl.n=(hX c.R) by omega]
    rw[e1,e0,<-I,List.drop_left]
   rw[IP d (by rw[b];omega),<-I,List.take_left]
  have hne:i<hX s.p:=by omega
  have hsh:jC c i+hX c.sl<=jC c (hX s.p):=by
   unfold jC;have:(i+1)*hX c.sl<=hX s.p*hX c.sl:=Nat.mul_le_mul_right _ hne;rw[Nat.succ_mul]at this;omega
  rw[pe d<|.inl V1,pe d<|.inl V1,E.seg ZI,E.seg ZI];exact K i (by unfold jk;rw[Zg];omega)
 rw[zF h8];by_cases h5:a=5
 .rw[zE h5];by_cases e:n≠0
  .rw[zE e];exact⟨ax,at',J,K⟩
  rw[zF e];by_cases g:0<=s.q
  .rw[zE g];exact⟨ax,at',J,K⟩
  rw[zF g];by_cases z:s.p≠s.L
  .rw[zE z];exact⟨ax,at',J,K⟩
  rw[zF z];have H2:=H.endd h wT V Z;have i0:=J.ini V1;have D:s.p=s.L:=by omega
  refine⟨(yi c<|iE c<|hX s.p).take<|hW c.X,vw (hW c.X) at'<|yi c<|iE c<|hX s.p,⟨?_,λr=> ?_,λr=>⟨?_, ?_⟩⟩,K.kept h (JL h C l1) ?_⟩
  .show Has c (K0 c s.W<|seg s.W (c.off 1)<|hW c.X) (iE c<|hX s.p) _ _;rw[H.s];exact H2
  .exfalso;have r:s.L<0:=r;omega
  .show _=i8 c (hX s.L) (hX<|s.L-s.L);rw[show(hX<|s.L-s.L)=0 by omega,i0,D];rfl
  .show rg (lossR c s.W<|seg s.W (c.off 1)<|hW c.X).1 0=_;rw[H.s,H.lossV h wT,D]
  show(if s.L<0 then s.p else s.L)<=if s.q<0 then s.p else s.q
  omega
 rw[zF h5];by_cases h9:a=9
 .rw[zE h9];by_cases e:n≠0
  .rw[zE e];exact⟨ax,at',J,K⟩
  rw[zF e];by_cases g:s.q<1
  .rw[zE g];exact⟨ax,at',J,K⟩
  rw[zF g];have hqp:=hi.qp V1;have⟨i1,i2⟩:=J.adj V1;unfold at7 at i1;have⟨G1,G2⟩:=mf h wT wX<|hX<|s.q-1;have hqq:((hX (s.q-1):Nat):Int)=s.q-1:=by omega
  have⟨k1,E⟩:=K (hX<|s.q-1) (by unfold jk;rw[Zh];omega);rw[hqq]at k1 E;have⟨hl1,hl2,hl3,hl4,hl5,hl6⟩:=H.lens h wT;have⟨N,f2,Q,I,A⟩:=By h wT (t:=s.q-1) G1 G2
  have eB:(zk c s.W<|hX<|s.q-1).2.1=rP c (s.q-1) (iE c<|hX<|s.q-1) ax:=by
   unfold zk;rw[k1,E,H.x];rfl
  have⟨⟨q1,q2⟩,hR,hQ,x1,x2,t2⟩:=h.lens;have⟨p1,p2⟩:=B7 h wT (t:=s.q-1) G1 G2 hl2 hl5;have H2:=H.back h (a:=rP c (s.q-1) (iE c<|hX<|s.q-1) ax) V1 V1 p2;have⟨F,b2⟩:=Xl h wT wX hm hi K V1;have H3:=H2.put1 h (w:=(zk c s.W<|hX<|s.q-1).1.take<|hW c.X) (by rw[F,G1]) (by rw[F];exact G2);have hb9:=OT h (a:=rP c (s.q-1) (iE c<|hX<|s.q-1) ax) C V1 V1;refine⟨(rP c (s.q-1) (iE c<|hX<|s.q-1) ax).take<|hW c.X,vw (hW c.X) at'<|rP c (s.q-1) (iE c<|hX<|s.q-1) ax,⟨?_,λr=> ?_,λr=>⟨?_,i2⟩⟩,K.kept h ?_ ?_⟩
  .show Has c (put (Bc c s.W (zk c s.W<|hX<|s.q-1).2.1) (c.off 1)<|(zk c s.W<|hX<|s.q-1).1.take<|hW c.X) (iE c<|hX<|s.q-1) _ _;rw[F]at H3⊢;rw[eB];exact H3
  .exfalso;have r:s.q-1<0:=r;omega
  .show _=i8 c (hX s.L) (hX<|s.L-(s.q-1));rw[NU (c:=c) (L:=s.L) (q:=s.q) V1 V1,<-i1]
  .show fd c s.W (put (Bc c s.W (zk c s.W<|hX<|s.q-1).2.1) (c.off 1)<|(zk c s.W<|hX<|s.q-1).1.take<|hW c.X);rw[eB];exact fd.put h hb9 H2.wd (i:=1) V1 (by rw[F,G1];exact Nat.le_refl _)
  show(if s.q-1<0 then s.q-1 else s.q-1)<=if s.q<0 then s.p else s.q
  omega
 rw[zF h9];exact⟨ax,at',J,K⟩
end
end
section
open Nat renaming le_succ_of_le->aB
inductive Ev where
 |act (a:Int×Int)
 |more
 |stop
def qb :List Ev->List (Int×Int)
 |[]=>[]
 | .act a::r=>a::qb r
 |_::r=>qb r
def Db : ∀a b:List Ev,qb (a++b)=qb a++qb b
 |[],b=>rfl
 | .act x::r,b=>congrArg (x:: ·) (Db r b)
 | .more::r,b=>Db r b
 | .stop::r,b=>Db r b
def Dc : ∀l:List<|Int×Int,qb (l.map .act)=l
 |[]=>rfl
 |x::r=>congrArg (x:: ·)<|Dc r
def Ba : ∀l:List Ev,hW (qb l)<=hW l
 |[]=>Nat.le_refl _
 | .act x::r=>Nat.succ_le_succ (Ba r)
 | .more::r=>aB (Ba r)
 | .stop::r=>aB<|Ba r
def nxB (s:Dy):Option<|Int×Int:=if s.q<0 then(if s.p<s.L then O (8,0)else O (5,0))else if 0<s.q then O (9,0)else Y
def vI (c:Cx)(en:Bool)(s:Dy):Option<|Int×Int:=if c.mode=3 then nxB s else if c.mode=2 then si en (pB c s)else Ds<|pB c s
def tX (c:Cx)(a:Int×Int)(s:Dy):Dy:=if c.mode=3 then(Hz c a.1 a.2 s).2 else(E6 c a.1 a.2 s).2
def xN (c:Cx)(a:Int×Int)(s:Dy):Prop:=if c.mode=3 then(Hz c a.1 a.2 s).1=0 else∃m',ML a (pB c s)=O m'
def HS (s:Dy):Dy:={s with L:=s.L+1}
inductive Way (c:Cx)(l:Nat):Nat->Bool->Dy->List Ev->Nat->Bool->Dy->Prop
 |nil (f:Nat) (en:Bool) (s:Dy):Way c l f en s [] f en s
 |act {f:Nat} {en:Bool} {s:Dy} {a:Int×Int} {es:List Ev} {f':Nat} {en':Bool} {s':Dy}:vI c en s=O a->xN c a s->Way c l f en (tX c a s) es f' en' s'->Way c l f en s (.act a::es) f' en' s'
 |more {f:Nat} {s:Dy} {es:List Ev} {f':Nat} {en':Bool} {s':Dy}:c.mode=2->vI c Zb s=Y->s.q= -1->s.L<65535->f<l->Way c l (f+1) Zb (HS s) es f' en' s'->Way c l f Zb s (.more::es) f' en' s'
 |stop {f:Nat} {s:Dy} {es:List Ev} {f':Nat} {en':Bool} {s':Dy}:c.mode=2->vI c Zb s=Y->s.q= -1->f=l->Way c l (f+1) Za s es f' en' s'->Way c l f Zb s (.stop::es) f' en' s'
def Way.app {c:Cx}{es:List Ev}{y:Nat}{g:Bool}{A:Dy}(h:Way c l f en s es y g A): ∀{r:List Ev} {z:Nat} {p:Bool} {C:Dy},Way c l y g A r z p C->Way c l f en s (es++r) z p C:=by
 induction h with
 |nil=>exact λh=>h
 |act a b _ u=>exact λh=> .act a b (u h)
 |more a b c d e _ u=>exact λh=> .more a b c d e (u h)
 |stop a b c d _ u=>exact λh=> .stop a b c d<|u h
def dq (c:Cx)(i:Nat)(s:Dy):Prop:=if c.mode=3 then Well1 c i s else Well2 c i s
def JE (c:Cx)(s:Dy):Prop:=(∃ax at',Jn c s ax at')/\if c.mode=3 then Kps c s else Sls c s
section
variable {c:Cx} (h:c.Ok)
include h
theorem nW (w:dq c i s)(e:vI c en s=O a)(m:xN c a s):dq c (i+1)<|tX c a s:=by
 unfold dq tX xN at*;by_cases b:c.mode=3
 .simp only[zE b]at w m⊢;have:=w.act h b a;unfold aM0 at this
  have g:a.1≠0:=λd=>by
   unfold Hz at m;rw[d]at m;simp at m
  rw[zF g]at this;exact this
 simp only[zF b]at w m⊢;have:=w.act h b a;unfold at5 at this
 have g:a.1≠0:=λd=>by
  obtain⟨m',m⟩:=m;unfold ML at m;rw[d]at m;simp at m
 rw[zF g]at this;exact this
theorem BA (w:dq c i s)(d:c.mode=2)(e:s.q= -1)(b:s.L<65535):dq c (i+1)<|HS s:=by
 unfold dq at*;rw[Zh]at*;have:=w.act h V1 (0,0);unfold at5 zn at this;rw[zE rfl,Zh,Zh,Zh]at this;exact this
theorem WW (r:i<=j)(w:dq c i s):dq c j s:=by
 have p:FL (65536*i) s->FL (65536*j) s:=λk=>by
  have⟨a,b,d,e⟩:=k;unfold FL;omega
 unfold dq at*;split
 .rename_i g;rw[zE g]at w;exact⟨w.inv,p w.cnt⟩
 rename_i g;rw[zF g]at w;exact⟨w.inv,p w.cnt,w.len⟩
theorem Way.well {es:List Ev}{y:Nat}{u:Bool}(H:Way c l f en s es y u s'): ∀{i:Nat},dq c i s->dq c (i+es.length) s':=by
 have p: ∀(i:Nat) (e:Ev) (es:List Ev),i+(e::es).length=i+1+es.length:=λi e es=>by
  rw[List.length_cons];omega
 induction H with
 |nil=>exact λw=>w
 |act a b _ r=>
  intro i w;rw[p];exact r (nW h w a b)
 |more a b d e g _ r=>
  intro i w;rw[p];exact r (BA h w a d e)
 |stop a b d e _ r=>
  intro i w;rw[p];exact r<|WW h (Nat.le_succ i) w
theorem bj8 (wT:ce c.T)(wX:ce c.X)(w:dq c i s)(J:JE c s)(m:xN c a s):JE c<|tX c a s:=by
 unfold dq JE tX xN at*;obtain⟨⟨ax,at',J⟩,K⟩:=J;by_cases d:c.mode=3
 .simp only[zE d]at w m K⊢;have⟨e,b,g,p⟩:=bt0 h wT wX d w.inv J K a.1 a.2;exact⟨⟨_,_,g⟩,p⟩
 simp only[zF d]at w m K⊢;obtain⟨m',m⟩:=m;have⟨e,b,g,p⟩:=bs9 h wT wX d w.inv J K m;exact⟨⟨_,_,g⟩,p⟩
omit h in
theorem aQ4 (J:JE c s)(d:c.mode=2)(e:s.q= -1):JE c<|HS s:=by
 obtain⟨⟨ax,at',J⟩,K⟩:=J;unfold JE;rw[Zh]at*;exact⟨⟨ax,at',J.has,J.ini,λb=>by have b:0<=s.q:=b;omega⟩,K⟩
theorem Way.je (wT:ce c.T)(wX:ce c.X){es:List Ev}{u:Nat}{r:Bool}(H:Way c l f en s es u r s'): ∀{i:Nat},dq c i s->JE c s->JE c s':=by
 induction H with
 |nil=>exact λ_ J=>J
 |act a b _ p=>exact λw J=>p (nW h w a b) (bj8 h wT wX w J b)
 |more a b d e g _ p=>exact λw J=>p (BA h w a d e) (aQ4 J a d)
 |stop a b d e _ p=>exact λw J=>p w J
theorem Nk (b:c.mode≠3){u:Mc->Option (Int×Int)}(d: ∀s,vI c en s=u (pB c s)){m:Mc}{k:List<|Int×Int}(R:Run u m k m'): ∀{i:Nat} (s:Dy),pB c s=m->dq c i s->∃s',Way c l f en s (k.map .act) f en s'/\pB c s'=m':=by
 induction R with
 |nil=>exact λs e _=>⟨s, .nil _ _ _,e⟩
 | @cons E F H a k y p _ A=>
  intro i s e w;subst e;have r:vI c en s=O a:=(d s).trans y
  have mm:xN c a s:=by
   unfold xN;rw[zF b];exact⟨_,p⟩
  have g:=w;unfold dq at g;rw[zF b]at g;have z:=(M3 h b g.inv p).2;have⟨s',C,D⟩:=A (tX c a s) (by unfold tX;rw[zF b];exact z)<|nW h w r mm;exact⟨s', .act r mm C,D⟩
def tZ (c:Cx):Dy:=if c.mode=3 then new1 c else new2 c
theorem nX :dq c 0<|tZ c:=by
 unfold dq tZ;split
 .rename_i b;exact RQ h b [] 0
 rename_i b;exact RR h b [] 0
theorem QM {l:Nat}{f:Nat}(e:c.mode=3): ∀(n:Nat) {i:Nat} (s:Dy),dq c i s->s.q= -1->s.L-s.p=n->∃s',Way c l f Zb s (List.replicate n<|.act (8,0)) f Zb s'/\s'.q= -1/\s'.p=s.L/\s'.L=s.L
 |0,i,s,w,g,r=>⟨s, .nil _ _ _,g,V1,rfl⟩
 |n+1,i,s,w,g,r=>by
  have d:vI c Zb s=O (8,0):=by
   unfold vI nxB
   grind
  have C:Hz c 8 0 s=(0,(Hz c 8 0 s).2):=by
   unfold Hz
   grind
  have D:(Hz c 8 0 s).2.q=s.q/\(Hz c 8 0 s).2.p=s.p+1/\(Hz c 8 0 s).2.L=s.L:=by
   unfold Hz
   grind
  have mm:xN c (8,0) s:=by
   unfold xN
   grind
  have b:tX c (8,0) s=(Hz c 8 0 s).2:=by unfold tX;rw[zE e]
  obtain⟨s',u,y,z,A⟩:=QM e n (tX c (8,0) s) (nW h w d mm) (by rw[b];omega) (by rw[b];omega);rw[b]at z A;exact⟨s', .act d mm u,y,V1,V1⟩
theorem QL {l:Nat}{f:Nat}(b:c.mode=3): ∀(n:Nat) {i:Nat} (s:Dy),dq c i s->s.q=n->∃s',Way c l f Zb s (List.replicate n<|.act (9,0)) f Zb s'/\s'.q=0/\s'.L=s.L
 |0,i,s,w,p=>⟨s, .nil _ _ _,V1,rfl⟩
 |n+1,i,s,w,p=>by
  have d:vI c Zb s=O (9,0):=by
   unfold vI nxB
   grind
  have g:(Hz c 9 0 s).1=0/\(Hz c 9 0 s).2.q=s.q-1/\(Hz c 9 0 s).2.L=s.L:=by
   unfold Hz
   grind
  have mm:xN c (9,0) s:=by
   unfold xN;rw[zE b];exact g.1
  have e:tX c (9,0) s=(Hz c 9 0 s).2:=by unfold tX;rw[zE b]
  obtain⟨s',r,u,y⟩:=QL b n (tX c (9,0) s) (nW h w d mm) (by rw[e];omega);rw[e]at y;exact⟨s', .act d mm r,u,V1⟩
end
end
section
open List renaming replicate->aB,length_map->aD,length_append->bD,length_cons->cB,length_replicate->cD,replicate_append_replicate->cK
open Nat renaming le_refl->bB
section
variable {c:Cx}
theorem RF {N n:Nat}(h:o+n<=N):seg (zeros N) o n=zeros n:=by
 unfold seg zeros
 grind
def ao4 {N n:Nat}(h:o+n<=N):put (zeros N) o (zeros n)=zeros N:=by
 unfold put zeros;rw[List.take_replicate,List.drop_replicate,cD,cK,cK,Nat.min_eq_left V1]
 congr 1
 omega
def aP8 (h:c.Ok)(wT:ce c.T)(wX:ce c.X):Has c (Tv c<|zeros<|hX c.words) c.X (zeros<|hW c.X)<|zeros<|hW c.T:=by
 have b:Wd c<|zeros<|hX c.words:=cd _;have d:=b.tk h;rw[cd]at d;have r:=gJ (c:=c) (show 5<9 by omega);have u:=gJ (c:=c) (show 6<9 by omega);have p:=gJ (c:=c) (show 0<9 by omega);have e:hW c.T<=c.sz 0:=bB _;have g:=b.put h (o:=c.off 0) (w:=c.T) (by have:c.sz 0=hW c.T:=rfl;omega);unfold Tv
 have H0:Has c (put (zeros<|hX c.words) (c.off 0) c.T) (seg (put (zeros<|hX c.words) (c.off 0) c.T) (c.off 1)<|hW c.X) (zeros<|hW c.X)<|zeros<|hW c.T:=by
  refine⟨g,(ce.rep _).put wT _, ?_,rfl, ?_, ?_⟩
  .exact vK (RJ h b V1 e)
  .rw[Bt h b (n:=hW c.X) (i:=0) (j:=5) V1 V1 V1 (bB _) e];exact RF (by have:c.sz 5=hW c.X:=rfl;omega)
  rw[Bt h b (n:=hW c.T) (i:=0) (j:=6) V1 V1 V1 (bB _) e];exact RF (by have:c.sz 6=hW c.T:=rfl;omega)
 exact H0.put1 h rfl wX
end
section
variable {c:Cx} (h:c.Ok)
include h
theorem aE0 (g:c.mode=2)(N:1<=c.ns)(z:c.len=0){l:Nat}(M:l<=400): ∀k,k<=l->∃s es,Way c l 0 Zb (new2 c) es k Zb s/\pB c s=⟨k,k,-1,(di (hX c.ns) k).2⟩/\hW es=hW (di (hX c.ns) k).1+k/\qb es=(di (hX c.ns) k).1
 |0,K=>by
  have r:=aC2 h V1;rw[z]at r;have w0:=nX h;unfold tZ at w0;rw[Zh]at w0;have b: ∀s,vI c Zb s=si Zb (pB c s):=λs=>by unfold vI;rw[Zh,zE g]
  obtain⟨s,u,d⟩:=Nk h (l:=l) (f:=0) V1 b (YP (s:=hX c.ns) V1).1 (new2 c) r w0;exact⟨s,_,u,d,by rw[aD,Nat.add_zero],by rw[Dc]⟩
 |k+1,K=>by
  have⟨s,es,u,d,C,D⟩:=aE0 g N z M k V1;have b: ∀s,vI c Zb s=si Zb (pB c s):=λs=>by unfold vI;rw[Zh,zE g]
  have e:hW (di (hX c.ns)<|k+1).1=hW (di (hX c.ns) k).1+hW ([(1,1)]++(tR (k+1) (di (hX c.ns) k).2).1):=by
   show(hW<|(di (hX c.ns) k).1++[(1,1)]++(tR (k+1) (di (hX c.ns) k).2).1)=_
   grind
  have A:=NW (s:=hX c.ns) (k:=k) V1 V1;rw[<-d]at A;have y:s.q= -1:=congrArg Mc.q d;have E:s.L=(k:Int):=congrArg Mc.L d;have F:s.p=(k:Int):=congrArg Mc.p d;have H:lu c s.W=(di (hX c.ns) k).2:=congrArg Mc.t d;have w0:=nX h;unfold tZ at w0;rw[Zh]at w0;have Z:=u.well h w0;have w2:=BA h Z g y V1
  have I:pB c (HS s)=⟨(k:Int)+1,k,-1,(di (hX c.ns) k).2⟩:=by
   show Mc.mk (s.L+1) s.p s.q (lu c s.W)=_;rw[E,F,y,H]
  have⟨V,Q,J⟩:=Nk h (l:=l) (f:=k+1) V1 b (YQ (s:=hX c.ns) (k:=k) V1 V1).1 (HS s) I w2;refine⟨V,es++ .more::([(1,1)]++(tR (k+1) (di (hX c.ns) k).2).1).map .act,u.app<|.more g ((b s).trans A) y V1 V1 Q,J, ?_, ?_⟩
  .rw[bD,cB,aD,C,e];omega
  .rw[Db];show qb es++qb (([(1,1)]++(tR (k+1) (di (hX c.ns) k).2).1).map .act)=_;rw[Dc,D];exact(List.append_assoc _ _ _).symm
theorem bk3 (d:c.mode=2):c.len=0:=by
 have hc:=h.hc;have b:=h.num.len;unfold sK at hc;split at hc
 .rename_i k;exact absurd hc k
 split at hc
 .rename_i k;exact absurd hc k
 split at hc
 .rename_i k;exact absurd hc k
 split at hc
 .rename_i k;exact absurd hc k
 rename_i k;unfold hk3 at k;omega
def L9 (c:Cx)(l:Nat):List<|Int×Int:=if c.mode=3 then aB l (8,0)++(5,0)::aB l (9,0)else if c.mode=2 then(di (hX c.ns) l).1++Jr l (di (hX c.ns) l).2 else if l=0 then [(5,0)]else pt (2*l) Zb l (hX c.ns) 0 (aB (hX c.ns) Zb) Za
structure Fin (c:Cx)(l:Nat)(f:Nat)(en:Bool)(s:Dy)(es:List Ev):Prop where
 no:vI c en s=Y
 q:s.q=0
 L:s.L=l
 len:hW es<=(l+1)*(l+2)+8*l+2010
 ls:qb es=L9 c l
 en:c.mode=2->en=Za
theorem aW9 (e:gP c.mode c.X.length c.T.length c.R c.l c.Q c.k c.len c.words=(c.fixed,c.tp,c.sl,c.ns,0))(hl:l<=400)(g:c.mode≠2->c.len=l): ∃es f en s,Way c l 0 Zb (tZ c) es f en s/\Fin c l f en s es:=by
 have nm:=h.num.mode;have w0:=nX h;have hns:=h.ns;by_cases b:c.mode=3
 .have M:=g V1;have J:tZ c=new1 c:=by unfold tZ;rw[zE b]
  rw[J]at w0⊢;obtain⟨d,r,q1,p1,L1⟩:=QM h (l:=l) (f:=0) b l (new1 c) w0 rfl (by show c.len-0=_;omega);have L1:d.L=c.len:=L1;have p1:d.p=c.len:=p1;have D:=r.well h w0
  have F:vI c Zb d=O (5,0):=by
   unfold vI nxB
   grind
  have I:(Hz c 5 0 d).1=0/\(Hz c 5 0 d).2.q=d.L/\(Hz c 5 0 d).2.L=d.L:=by
   unfold Hz
   grind
  have mm:xN c (5,0) d:=by
   unfold xN;rw[zE b];exact I.1
  have V:tX c (5,0) d=(Hz c 5 0 d).2:=by unfold tX;rw[zE b]
  have E:=nW h D F mm;obtain⟨H,r2,q2,L2⟩:=QL h (l:=l) (f:=0) b l (tX c (5,0) d) E (by rw[V];omega);rw[V]at L2;refine⟨_,_,_,H,r.app<|.act F mm r2, ?_,q2,V1, ?_, ?_,λk=>by omega⟩
  .unfold vI nxB
   grind
  .rw[bD,cB,cD,cD];omega
  unfold L9;rw[zE b,Db];have Z: ∀x,qb (aB l<|Ev.act x)=aB l x:=λx=>by rw[<-Dc (aB l x),List.map_replicate]
  show _++_::qb (aB l<|Ev.act (9,0))=_;rw[Z,Z]
 have hn:=XX h b e;have J:tZ c=new2 c:=by unfold tZ;rw[zF b]
 rw[J]at w0⊢;by_cases h1:c.mode=1
 .have M:=g V1;have C: ∀s,vI c Zb s=Ds (pB c s):=λs=>by unfold vI;rw[zF b,Zh]
  obtain⟨m',R,N,hq,hR⟩:=aU6 (l:=l) (s:=c.ns.toNat) V1 V1;have A:=aC2 h b;rw[M]at A;obtain⟨s,r,y⟩:=Nk h (l:=l) (f:=0) b C R (new2 c) A w0;have D:=r.well h w0;refine⟨_,_,_,s,r,(C s).trans (by rw[y];exact N), ?_, ?_,by rw[aD];omega, ?_,λk=>by omega⟩
  .rw[<-hq,<-y];rfl
  .have E:=D;unfold dq at E;rw[zF b]at E;exact(E.len V1).trans M
  unfold L9;rw[Dc,zF b,zF (show¬c.mode=2 by omega)]
 have z:c.mode=2:=by omega
 have u: ∀en s,vI c en s=si en (pB c s):=λen s=>by unfold vI;rw[zF b,zE z]
 have hal:=Ep c.ns.toNat l;have hbk:=S4 (sm l (di c.ns.toNat l).2.length) (di c.ns.toNat l).2 l
 have hbl:(Jr l (di c.ns.toNat l).2).length<=4*l+2/\1<=(Jr l (di c.ns.toNat l).2).length:=by
  unfold Jr Xb
  grind
 obtain⟨s,es,r,y,F,I⟩:=aE0 h z hn (bk3 h z) hl l<|bB _;have hx:=NW (s:=c.ns.toNat) (k:=l) V1 V1;rw[<-y]at hx;obtain⟨b1,b2⟩:=av0 (l:=l) (s:=c.ns.toNat) V1 V1;have D:=r.well h w0;obtain⟨H,r3,K⟩:=Nk h (l:=l) (f:=l+1) b (u Za) b1 s y D;refine⟨_,_,_,H,r.app<|.stop z ((u Zb s).trans hx) (congrArg Mc.q y) rfl r3,(u Za H).trans (by rw[K];exact b2),congrArg Mc.q K,congrArg Mc.L K, ?_, ?_,λ_=>rfl⟩
 .rw[bD,cB,aD,F];omega
 unfold L9;rw[Db,zF b,zE z,I];show _++qb ((Jr l (di c.ns.toNat l).2).map .act)=_;rw[Dc]
omit h in
theorem Fin.le {es:List Ev}(F:Fin c l f en s es)(d:l<=40):hW es<=6000:=by
 have:=F.len;have b:(l+1)*(l+2)<=41*42:=Nat.mul_le_mul V1 V1;omega
theorem bj9 (wT:ce c.T)(wX:ce c.X):JE c<|tZ c:=by
 have y:Wd c<|zeros<|hX c.words:=cd _;have g:=y.tk h;rw[cd]at g;have H:=aP8 h wT wX;unfold JE tZ;by_cases d:c.mode=3
 .simp only[zE d];exact⟨⟨_,_,H,λ_=>rfl,λb=>by have b:(0:Int)<= -1:=b;omega⟩,λi hi=>by have hi:(i:Int)<0:=hi;omega⟩
 simp only[zF d];have e:put (zeros<|hX c.words) (c.off 8) (zeros<|hX<|c.sl*c.ns)=zeros (hX c.words):=ao4 (by have:=O6 (c:=c);omega)
 have p:(new2 c).W=Tv c (zeros<|hX c.words):=by
  show Tv c (put (zeros<|hX c.words) (c.off 8)<|zeros<|hX<|c.sl*c.ns)=_;rw[e]
 refine⟨⟨zeros<|hW c.X,zeros<|hW c.T,by rw[p];exact H,λ_=>rfl,λb=>by have b:(0:Int)<= -1:=b;omega⟩,λk r u=> ?_⟩;rw[JV h d r]at u;omega
end
end
section
open Go.IntKind renaming wrap->zH,i64->zI,u64->zJ
def aH5 (s x:Int):Int:=(3*s+x) % 18446744073709551616
def S36 (l:Zd):Int:=l.foldl aH5 1
def Wt (a b:Int):AK [a,b]=O (a*b % 18446744073709551616):=by
 unfold AK;rw[Lf (l:=[a,b]) (λs x=>s*x % 18446744073709551616) 1 (c:=id) V2 ?_ ?_]
 .simp only[zG,List.foldl,id];rw[Int.one_mul,Int.mul_emod,Int.emod_emod_of_dvd _<|Int.dvd_refl _,<-Int.mul_emod]
 .intro i hi s;simp only[HV,ah];rw[Zg,bt hi,zG,ae (by simp at hi;omega),ae6];rfl
 intro s;rfl
def Ws (a b:Int):AJ [a,b]=O ((a+b) % 18446744073709551616):=by
 unfold AJ;rw[Lf (l:=[a,b]) (λs x=>(s+x) % 18446744073709551616) 0 (c:=id) V2 ?_ ?_]
 .simp only[zG,List.foldl,id]
  congr 1
  omega
 .intro i hi s;simp only[HU,ah];rw[Zg,bt hi,zG,ae (by simp at hi;omega),ae6];rfl
 intro s;rfl
def ad9 (s x:Int):(s*3 % 18446744073709551616+x) % 18446744073709551616=aH5 s x:=by
 unfold aH5;omega
def XG (l:Zd)(b:hW l<9223372036854775807):zt l=O (S36 l):=by
 unfold zt;rw[Lf (l:=l) aH5 1 (c:=id) b ?_ ?_]
 .rfl
 .intro i hi s;simp only[yz,ah];rw[Zg,bt hi];simp only[zG,Wt,Ws,ad9];rw[Zi];rfl
 intro s;simp only[yz,ah];rw[Zh];rfl
def W36 (h l:Zd):Zd:=h++(hW l:Int)::l++[S36<|h++(hW l:Int)::l]
def Ez (l:Zd)(a1 a2 a3 a4 a5 a6 a7 a8 a9 a10 a11 a12 a13 a14 a15 a16:Int)(g:hW l<=1048576):qv l a1 a2 a3 a4 a5 a6 a7 a8 a9 a10 a11 a12 a13 a14 a15 a16=
  O (W36 [a1,a2,a3,a4,a5,a6,a7,a8,a9,a10,a11,a12,a13,a14,a15,a16] l):=by
 unfold qv W36;rw[ae (show-9223372036854775808<=(16+((hW l:Nat):Int))/\(16+((hW l:Nat):Int))<=9223372036854775807 by omega),Zi,AB V1];have e:Df (List.replicate 16 (0:Int)) 0 (List.length<|List.replicate 16 (0:Int)) [a1,a2,a3,a4,a5,a6,a7,a8,a9,a10,a11,a12,a13,a14,a15,a16]=[a1,a2,a3,a4,a5,a6,a7,a8,a9,a10,a11,a12,a13,a14,a15,a16]:=rfl;rw[e];have b:Zc (16<=16+(hW l:Int)+2)=Za:=zB V1;have d:Zc ((8:Int)*(16+(hW l:Int)+2)<=140737488355328)=Za:=zB V1;rw[b,d];show gd Za _=_;rw[bp,bg V2 V1,bg V3 V1,XG _ V3,zG,bg V3 V1];simp only[List.append_assoc,List.singleton_append]
def YS (e:Int):Int×Int×Int×Int×Int×Int×Int×Int×Int×Int×Int×Int×Int×Int×Int×Int×Int×Zd:=(0,0,0,0,0,0,0,0,0,0,0,0,0,0,0,0,e,[])
def TG (w:Zd):Int×Int×Int×Int×Int×Int×Int×Int×Int×Int×Int×Int×Int×Int×Int×Int×Int×Zd:=
 if hW w<18 then YS 4 else if(hW w:Int)-18<w.getD 16 0 then YS 4 else if w.getD 16 0<(hW w:Int)-18 then YS 21
 else if w.getD (hW w-1) 0≠S36 (w.take<|hW w-1)then YS 3 else(w.getD 0 0,w.getD 1 0,w.getD 2 0,w.getD 3 0,w.getD 4 0,w.getD 5 0,w.getD 6 0,w.getD 7 0,w.getD 8 0,w.getD 9 0,w.getD 10 0,w.getD 11 0,w.getD 12 0,w.getD 13 0,w.getD 14 0,w.getD 15 0,0,(w.take<|hW w-1).drop 17)
theorem L6 (w:Zd)(u:hW w<=2000000):kI w=O (TG w):=by
 unfold kI TG;rw[AB (show hW w<9223372036854775808 by omega)];simp only[ah];by_cases r:hW w<18
 .rw[Zg,zE r];rfl
 rw[Zh,zF r,Zj,ae (show-9223372036854775808<=(hW w:Int)-1/\(hW w:Int)-1<=9223372036854775807 by omega),show rd w 16=O (w.getD 16 0)from rG (i:=16) V1];simp only[zG,ah];by_cases e:(hW w:Int)-18<w.getD 16 0
 .rw[zE e,zE e];rfl
 rw[zF e,zF e];by_cases g:w.getD 16 0<(hW w:Int)-18
 .rw[zE g,zE g];rfl
 rw[zF g,zF g]
 have b:am (rf w) co (0,1)=O (S36<|w.take<|hW w-1):=by
  refine cn (n:=hW w-1) (λi=>(w.take i).foldl aH5 1) V1 ?_ ?_
  .intro i hi;have d:i<hW w:=by omega
   simp only[rf,ah];rw[Zg,bt d,ae (show-9223372036854775808<=(hW w:Int)-1/\(hW w:Int)-1<=9223372036854775807 by omega)];simp only[zG,Wt,Ws,ad9];rw[Zh,Zi,List.take_succ_eq_append_getElem d,List.foldl_append];rfl
  simp only[rf,ah];rw[Zg,bt V1,ae (show-9223372036854775808<=(hW w:Int)-1/\(hW w:Int)-1<=9223372036854775807 by omega),zG,Zg];rfl
 rw[b,show rd w ((hW w:Int)-1)=O (w.getD (hW w-1) 0)from by rw[<-rG V1];congr 1;omega];simp only[zG,ah];by_cases p:w.getD (hW w-1) 0≠S36 (w.take<|hW w-1)
 .rw[zE p,zE p];rfl
 rw[zF p,zF p];unfold dz aj na;rw[zB (show(0:Int)<=17 by omega),zB (show(17:Int)<=(hW w:Int)-1 by omega),zB (show(hW w:Int)-1<=(hW w:Int)by omega)];show gd Za _=_;rw[bp,bg V3 V1]
 grind
def SP {h l:Zd}(b:hW h=16):hW (W36 h l)=hW l+18:=by
 simp[W36,b];omega
def at4 {h l:Zd}(b:hW h=16):(W36 h l).take (hW l+17)=h++(hW l:Int)::l:=by
 unfold W36;rw[List.take_append_of_le_length (by simp[b];omega),List.take_of_length_le (by simp[b];omega)]
theorem at3 {h l:Zd}(b:hW h=16):(W36 h l).getD (hW l+17) 0=S36 (h++(hW l:Int)::l):=by
 unfold W36;rw[List.getD_eq_getElem?_getD,List.getElem?_append_right (by simp[b];omega)]
 grind
theorem bf1 {h l:Zd}(b:hW h=16):(W36 h l).getD 16 0=hW l:=by
 unfold W36
 grind
def aF4 (l:Zd)(a1 a2 a3 a4 a5 a6 a7 a8 a9 a10 a11 a12 a13 a14 a15 a16:Int):TG (W36 [a1,a2,a3,a4,a5,a6,a7,a8,a9,a10,a11,a12,a13,a14,a15,a16] l)=(a1,a2,a3,a4,a5,a6,a7,a8,a9,a10,a11,a12,a13,a14,a15,a16,0,l):=by
 have b:hW [a1,a2,a3,a4,a5,a6,a7,a8,a9,a10,a11,a12,a13,a14,a15,a16]=16:=rfl;unfold TG;rw[SP b,bf1 b,Zh,Zh,Zh,show hW l+18-1=hW l+17 by omega,at3 b,at4 b,zF V2];rfl
def SO {a0:Int}{a1 a2:Zd}{a3:Int}{a4:List bx}{a5:Int}{a6:List bx}{a7 a8:Int}{l:Zd}{y z A C D E F H I J b d e g p r:Int}(K:l.length<=1048576):
  mK a0 a1 a2 a3 a4 a5 a6 a7 a8 (W36 [y,z,A,C,D,E,F,H,I,J,b,d,e,g,p,r] l)=iI a0 a1 a2 a3 a4 a5 a6 a7 a8 l y z A C D E F H I J b d e g p r:=by
 unfold mK;rw[L6 _ (by rw[SP rfl];omega),aF4];simp only[zG];rw[zA V2,zD];cases iI a0 a1 a2 a3 a4 a5 a6 a7 a8 l y z A C D E F H I J b d e g p r with
 |none=>rfl
 |some x=>
  cases x with
  |inl u=>rfl
  |inr w=>cases w with
   |inl u=>rfl
   |inr v=>rfl
def bI (b:Bool):Int:=cond b 1 0
def VD (m L q b d:Int):Bool:=cond (Zc<|1<b) Zb<|cond (Zc<|1<d) Zb<|cond (Zc<|1<IntKind.u64.wrap (b+d)) Zb<|cond (Zc<|m≠2) (Zc<|zH zJ (b+d)=0)<|cond (Zc<|d=1) (cond (!Zc (0<=q)) (Zc<|L=65535) Zb)<|cond (Zc<|b=1) Za<|!Zc (0<=q)
section
variable {c:Cx}
def ay4 (s:Dy)(m:Int)(a b:Bool):mn m a b c.fixed c.tp c.sl c.ns c.mode c.R c.Q c.len c.words s.L s.p s.q s.c0 s.c1 s.c2 s.c3 s.z c.X c.T c.l c.k c.P c.tk s.lv s.pk c.words s.W=O (s.p,s.q):=rfl
def ad6 (h:c.Ok)(d:c.mode≠3)(s:Dy)(b:Wd c s.W)(e: ∀k,k<hX c.ns->0<=iG c s.W k/\iG c s.W k<=65536):fC c.fixed c.tp c.sl c.ns c.mode c.R c.Q c.len c.words s.L s.p s.q s.c0 s.c1 s.c2 s.c3 s.z c.X c.T c.l c.k c.P c.tk (c.off 8:Int) c.ns (hW c.X:Int) s.lv s.pk c.words s.W=O (s.p,s.q,lu c s.W):=by
 unfold fC;rw[Kl h d b e];rfl
def bh7 (h:c.Ok)(e:c.mode≠3)(s:Dy)(hi:Inv c s)(m:Int)(a b:Bool):cv m a b c.fixed c.tp c.sl c.ns c.mode c.R c.Q c.len c.words s.L s.p s.q s.c0 s.c1 s.c2 s.c3 s.z c.X c.T c.l c.k c.P c.tk (c.off 8:Int) c.ns (hW c.X:Int) s.lv s.pk c.words s.W=O (s.p,s.q,lu c s.W):=by
 unfold cv;exact ec (ad6 h e s hi.w λk d=>by have:=hi.tag k d;have:=hi.L;omega) rfl
def bh8 (h:c.Ok)(e:c.mode≠3)(s:Dy)(hi:Inv c s)(m:Int)(a b:Bool):cv m a b c.fixed c.tp c.sl c.ns c.mode c.R c.Q c.len c.words s.L s.p s.q s.c0 s.c1 s.c2 s.c3 s.z c.X c.T c.l c.k c.P c.tk (c.off 8:Int) c.ns (hW c.X:Int) s.lv s.pk c.words s.W=O (s.p,s.q,lu c s.W):=by
 unfold cv;exact ec (ad6 h e s hi.w λk d=>by have:=hi.tag k d;have:=hi.L;omega) rfl
theorem bt1 (s:Dy)(m d e:Int)(a b:Bool):lE d e m a b c.fixed c.tp c.sl c.ns c.mode c.R c.Q c.len c.words s.L s.p s.q s.c0 s.c1 s.c2 s.c3 s.z c.X c.T c.l c.k c.P c.tk s.lv s.pk c.words s.W=O (VD m s.L s.q d e):=by
 unfold lE;refine ec (ay4 s m a b) ?_;rw[show iR m a b c.fixed c.tp c.sl c.ns c.mode c.R c.Q c.len c.words s.L s.p s.q s.c0 s.c1 s.c2 s.c3 s.z c.X c.T c.l c.k c.P c.tk s.lv s.pk c.words s.W=O s.L from rfl,zG];unfold VD
 grind
theorem bt2 (h:c.Ok)(g:c.mode≠3)(s:Dy)(hi:Inv c s)(m d e:Int)(a b:Bool):fD d e m a b c.fixed c.tp c.sl c.ns c.mode c.R c.Q c.len c.words s.L s.p s.q s.c0 s.c1 s.c2 s.c3 s.z c.X c.T c.l c.k c.P c.tk (c.off 8:Int) c.ns (hW c.X:Int) s.lv s.pk c.words s.W=O (VD m s.L s.q d e):=by
 unfold fD;refine ec (bh7 h g s hi m a b) ?_;rw[show de m a b c.fixed c.tp c.sl c.ns c.mode c.R c.Q c.len c.words s.L s.p s.q s.c0 s.c1 s.c2 s.c3 s.z c.X c.T c.l c.k c.P c.tk (c.off 8:Int) c.ns (hW c.X:Int) s.lv s.pk c.words s.W=O s.L from rfl,zG];unfold VD
 grind
theorem bt3 (h:c.Ok)(g:c.mode≠3)(s:Dy)(hi:Inv c s)(m d e:Int)(a b:Bool):fD d e m a b c.fixed c.tp c.sl c.ns c.mode c.R c.Q c.len c.words s.L s.p s.q s.c0 s.c1 s.c2 s.c3 s.z c.X c.T c.l c.k c.P c.tk (c.off 8:Int) c.ns (hW c.X:Int) s.lv s.pk c.words s.W=O (VD m s.L s.q d e):=by
 unfold fD;refine ec (bh8 h g s hi m a b) ?_;rw[show de m a b c.fixed c.tp c.sl c.ns c.mode c.R c.Q c.len c.words s.L s.p s.q s.c0 s.c1 s.c2 s.c3 s.z c.X c.T c.l c.k c.P c.tk (c.off 8:Int) c.ns (hW c.X:Int) s.lv s.pk c.words s.W=O s.L from rfl,zG];unfold VD
 grind
def OM (c:Cx)(s:Dy)(en b:Bool):Zd:=W36 [zH zJ c.mode,zH zJ s.L,zH zJ s.p,zH zJ<|zH zI<|s.q+1,zH zJ c.ns,zH zJ s.c0,zH zJ s.c1,zH zJ s.c2,zH zJ s.c3,zH zJ s.lv,zH zJ s.pk,s.z,bI en,bI b,0,0] s.W
def Hj (b:Bool):pF b=O (bI b):=by cases b<;>rfl
def bh4 (s:Dy)(m:Int)(a b:Bool):nk m a b c.fixed c.tp c.sl c.ns c.mode c.R c.Q c.len c.words s.L s.p s.q s.c0 s.c1 s.c2 s.c3 s.z c.X c.T c.l c.k c.P c.tk s.lv s.pk c.words s.W=O (ap6 c s):=by
 rfl
def bs3 (h:c.Ok)(d:Wd c s.W)(e:hW s.W<=1048576)(m:Int)(en b:Bool):jp m en b c.fixed c.tp c.sl c.ns c.mode c.R c.Q c.len c.words s.L s.p s.q s.c0 s.c1 s.c2 s.c3 s.z c.X c.T c.l c.k c.P c.tk s.lv s.pk c.words s.W=O (OM c s en b):=by
 unfold jp;refine ec (bh4 s m en b) ?_;simp only[ap6];refine ec (Hj en)<|ec (Hj b) ?_;refine ec (show lD m en b c.fixed c.tp c.sl c.ns c.mode c.R c.Q c.len c.words s.L s.p s.q s.c0 s.c1 s.c2 s.c3 s.z c.X c.T c.l c.k c.P c.tk s.lv s.pk c.words s.W=O s.W from by unfold lD;exact ec (bj4 h d) rfl) ?_;exact ec (Ez _ _ _ _ _ _ _ _ _ _ _ _ _ _ _ _ _ e) rfl
def bh5 (s:Dy)(m:Int)(a b:Bool):gK m a b c.fixed c.tp c.sl c.ns c.mode c.R c.Q c.len c.words s.L s.p s.q s.c0 s.c1 s.c2 s.c3 s.z c.X c.T c.l c.k c.P c.tk (c.off 8:Int) c.ns (hW c.X:Int) s.lv s.pk c.words s.W=O (ap6 c s):=by
 rfl
def bs4 (h:c.Ok)(d:Wd c s.W)(e:hW s.W<=1048576)(m:Int)(en b:Bool):eb m en b c.fixed c.tp c.sl c.ns c.mode c.R c.Q c.len c.words s.L s.p s.q s.c0 s.c1 s.c2 s.c3 s.z c.X c.T c.l c.k c.P c.tk (c.off 8:Int) c.ns (hW c.X:Int) s.lv s.pk c.words s.W=O (OM c s en b):=by
 unfold eb;refine ec (bh5 s m en b) ?_;simp only[ap6];refine ec (Hj en)<|ec (Hj b) ?_;refine ec (show fI m en b c.fixed c.tp c.sl c.ns c.mode c.R c.Q c.len c.words s.L s.p s.q s.c0 s.c1 s.c2 s.c3 s.z c.X c.T c.l c.k c.P c.tk (c.off 8:Int) c.ns (hW c.X:Int) s.lv s.pk c.words s.W=O s.W from by unfold fI;exact ec (az8 h d) rfl) ?_;exact ec (Ez _ _ _ _ _ _ _ _ _ _ _ _ _ _ _ _ _ e) rfl
def bh6 (s:Dy)(m:Int)(a b:Bool):gK m a b c.fixed c.tp c.sl c.ns c.mode c.R c.Q c.len c.words s.L s.p s.q s.c0 s.c1 s.c2 s.c3 s.z c.X c.T c.l c.k c.P c.tk (c.off 8:Int) c.ns (hW c.X:Int) s.lv s.pk c.words s.W=O (ap6 c s):=by
 rfl
def bs5 (h:c.Ok)(d:Wd c s.W)(e:hW s.W<=1048576)(m:Int)(en b:Bool):eb m en b c.fixed c.tp c.sl c.ns c.mode c.R c.Q c.len c.words s.L s.p s.q s.c0 s.c1 s.c2 s.c3 s.z c.X c.T c.l c.k c.P c.tk (c.off 8:Int) c.ns (hW c.X:Int) s.lv s.pk c.words s.W=O (OM c s en b):=by
 unfold eb;refine ec (bh6 s m en b) ?_;simp only[ap6];refine ec (Hj en)<|ec (Hj b) ?_;refine ec (show fI m en b c.fixed c.tp c.sl c.ns c.mode c.R c.Q c.len c.words s.L s.p s.q s.c0 s.c1 s.c2 s.c3 s.z c.X c.T c.l c.k c.P c.tk (c.off 8:Int) c.ns (hW c.X:Int) s.lv s.pk c.words s.W=O s.W from by unfold fI;exact ec (az8 h d) rfl) ?_;exact ec (Ez _ _ _ _ _ _ _ _ _ _ _ _ _ _ _ _ _ e) rfl
def TH (d:hW s.W<=1048576)(en b:Bool):kI (OM c s en b)=O (zH zJ c.mode,zH zJ s.L,zH zJ s.p,zH zJ<|zH zI<|s.q+1,zH zJ c.ns,zH zJ s.c0,zH zJ s.c1,zH zJ s.c2,zH zJ s.c3,zH zJ s.lv,zH zJ s.pk,s.z,bI en,bI b,0,0,0,s.W):=by
 unfold OM;rw[L6 _ (by rw[SP rfl];omega),aF4]
def Xg (h:c.Ok)(g:c.mode=3)(e:gP c.mode (hW c.X) (hW c.T) c.R c.l c.Q c.k c.len c.words=(c.fixed,c.tp,c.sl,c.ns,0))(hi:InvB c s)(d:FL B s)(b:B<=2305843009213693952)(x y:Int):
  iI c.mode c.X c.T c.R c.l c.Q c.k c.len c.words s.W (zH zJ c.mode) (zH zJ s.L) (zH zJ s.p) (zH zJ<|zH zI<|s.q+1) (zH zJ c.ns) (zH zJ s.c0) (zH zJ s.c1) (zH zJ s.c2) (zH zJ s.c3) (zH zJ s.lv) (zH zJ s.pk) s.z x y 0 0=O (.inr<|.inl<|Y5 c s):=bf3 h g e hi d b
def NV (h:c.Ok)(r:c.mode≠3)(e:gP c.mode (hW c.X) (hW c.T) c.R c.l c.Q c.k c.len c.words=(c.fixed,c.tp,c.sl,c.ns,0))(hi:Inv c s)(d:I5 c s)(g:FL B s)(b:B<=2305843009213693952)(x y:Int):
  iI c.mode c.X c.T c.R c.l c.Q c.k c.len c.words s.W (zH zJ c.mode) (zH zJ s.L) (zH zJ s.p) (zH zJ<|zH zI<|s.q+1) (zH zJ c.ns) (zH zJ s.c0) (zH zJ s.c1) (zH zJ s.c2) (zH zJ s.c3) (zH zJ s.lv) (zH zJ s.pk) s.z x y 0 0=O (.inr<|.inr<|QW c s):=bf4 h r e hi d g b
def O2 {L q:Int}{m:Int}(d:m≠2->en=Zb)(g:0<=q->m=2->en=Za):VD m L q (bI en) (bI Zb)=Za:=by
 unfold VD;cases en with
 |false=>
  have e: ¬(0<=q/\m=2):=λk=>by cases g k.1 k.2
  by_cases b:m=2
  .rw[zA (show¬(m≠2)from λk=>k b),zA (show¬(0<=q)from λk=>e ⟨k,b⟩)];rfl
  rw[zB (show m≠2 from b)];rfl
 |true=>
  have b:m=2:=Classical.byContradiction λk=>by cases d k
  rw[zA (show¬(m≠2)from λk=>k b)];rfl
def ar2 (h:c.Ok)(d:c.mode=3)(e:gP c.mode (hW c.X) (hW c.T) c.R c.l c.Q c.k c.len c.words=(c.fixed,c.tp,c.sl,c.ns,0))(hi:InvB c s)(u:FL B s)(r:B<=2305843009213693952)(b:hW s.W<=1048576):
  gT c.mode c.X c.T c.R c.l c.Q c.k c.len c.words (OM c s Zb Zb)=O (.inr<|.inl (c.mode,Zb,Zb,c.fixed,c.tp,c.sl,c.ns,c.mode,c.R,c.Q,c.len,c.words,s.L,s.p,s.q,s.c0,s.c1,s.c2,s.c3,s.z,c.X,c.T,c.l,c.k,c.P,c.tk,s.lv,s.pk,c.words,s.W)):=by
 unfold gT;have g:mK c.mode c.X c.T c.R c.l c.Q c.k c.len c.words (OM c s Zb Zb)=O (.inr<|.inl<|Y5 c s):=(SO b).trans<|Xg h d e hi u r _ _;refine ec g ?_;simp only[cg,gr,Y5];refine ec (TH b Zb Zb) ?_
 refine ec (show mJ c.mode c.X c.T c.R c.l c.Q c.k c.len c.words c.fixed c.tp c.sl c.ns c.mode c.R c.Q c.len c.words s.L s.p s.q s.c0 s.c1 s.c2 s.c3 s.z c.X c.T c.l c.k c.P c.tk s.lv s.pk c.words s.W=O (c.mode,Zb,Zb)from by
  simp only[mJ,d]
  rfl) ?_
 refine ec (bt1 s c.mode (bI Zb) (bI Zb) Zb Zb) ?_;rw[O2 (λ_=>rfl) (λ_ k=>by omega)];rfl
def ar3 (h:c.Ok)(C:c.mode=1)(e:gP c.mode (hW c.X) (hW c.T) c.R c.l c.Q c.k c.len c.words=(c.fixed,c.tp,c.sl,c.ns,0))(hi:Inv c s)(y:I5 c s)(A:FL B s)(u:B<=2305843009213693952)(b:hW s.W<=1048576)(g:c.mode≠2->en=Zb)(r:0<=s.q->c.mode=2->en=Za):
  gT c.mode c.X c.T c.R c.l c.Q c.k c.len c.words (OM c s en Zb)=O (.inr<|.inr<|.inl (c.mode,en,Zb,c.fixed,c.tp,c.sl,c.ns,c.mode,c.R,c.Q,c.len,c.words,s.L,s.p,s.q,s.c0,s.c1,s.c2,s.c3,s.z,c.X,c.T,c.l,c.k,c.P,c.tk,(c.off 8:Int),c.ns,(hW c.X:Int),s.lv,s.pk,c.words,s.W)):=by
 unfold gT;have d:mK c.mode c.X c.T c.R c.l c.Q c.k c.len c.words (OM c s en Zb)=O (.inr<|.inr<|QW c s):=(SO b).trans<|NV h V1 e hi y A u _ _;refine ec d ?_;simp only[cg,QW];refine ec (TH b en Zb) ?_
 refine ec (show gU c.mode c.X c.T c.R c.l c.Q c.k c.len c.words c.fixed c.tp c.sl c.ns c.mode c.R c.Q c.len c.words s.L s.p s.q s.c0 s.c1 s.c2 s.c3 s.z c.X c.T c.l c.k c.P c.tk (c.off 8:Int) c.ns (hW c.X:Int) s.lv s.pk c.words s.W=O (.inl (c.mode,Zb,Zb))from by
  simp only[gU,C]
  rfl) ?_
 rw[gr];refine ec (bt2 h V1 s hi c.mode (bI en) (bI Zb) Zb Zb) ?_;rw[O2 g r];cases en<;>rfl
def ar4 (h:c.Ok)(C:c.mode=2)(e:gP c.mode (hW c.X) (hW c.T) c.R c.l c.Q c.k c.len c.words=(c.fixed,c.tp,c.sl,c.ns,0))(hi:Inv c s)(y:I5 c s)(A:FL B s)(u:B<=2305843009213693952)(b:hW s.W<=1048576)(g:c.mode≠2->en=Zb)(r:0<=s.q->c.mode=2->en=Za):
  gT c.mode c.X c.T c.R c.l c.Q c.k c.len c.words (OM c s en Zb)=O (.inr<|.inr<|.inr (c.mode,en,Zb,c.fixed,c.tp,c.sl,c.ns,c.mode,c.R,c.Q,c.len,c.words,s.L,s.p,s.q,s.c0,s.c1,s.c2,s.c3,s.z,c.X,c.T,c.l,c.k,c.P,c.tk,(c.off 8:Int),c.ns,(hW c.X:Int),s.lv,s.pk,c.words,s.W)):=by
 unfold gT;have d:mK c.mode c.X c.T c.R c.l c.Q c.k c.len c.words (OM c s en Zb)=O (.inr<|.inr<|QW c s):=(SO b).trans<|NV h V1 e hi y A u _ _;refine ec d ?_;simp only[cg,QW];refine ec (TH b en Zb) ?_
 refine ec (show gU c.mode c.X c.T c.R c.l c.Q c.k c.len c.words c.fixed c.tp c.sl c.ns c.mode c.R c.Q c.len c.words s.L s.p s.q s.c0 s.c1 s.c2 s.c3 s.z c.X c.T c.l c.k c.P c.tk (c.off 8:Int) c.ns (hW c.X:Int) s.lv s.pk c.words s.W=O (.inr (c.mode,Zb,Zb))from by
  simp only[gU,C]
  rfl) ?_
 rw[cg];refine ec (bt3 h V1 s hi c.mode (bI en) (bI Zb) Zb Zb) ?_;rw[O2 g r];cases en<;>rfl
end
end
section
open Bool renaming not_true->aB
section
variable {c:Cx} (h:c.Ok)
def QE (c:Cx)(en:Bool)(s:Dy):Prop:=(c.mode≠2->en=Zb)/\(0<=s.q->c.mode=2->en=Za)
def Lo :QE c Zb<|tZ c:=⟨λ_=>rfl,λb _=>by
 have:(tZ c).q= -1:=by unfold tZ;split<;>rfl
 omega⟩
include h
theorem TD (w:dq c i s)(Q:QE c en s)(e:vI c en s=O a)(m:xN c a s):QE c en<|tX c a s:=by
 refine⟨Q.1,λb d=> ?_⟩;by_cases r:0<=s.q
 .exact Q.2 r d
 have g: ¬c.mode=3:=by omega
 unfold vI at e;unfold xN at m;unfold tX at b;unfold dq at w;rw[zF g]at e m b w;rw[zE d]at e;obtain⟨m',m⟩:=m;have f:=(M3 h g w.inv m).2;have y:(E6 c a.1 a.2 s).2.q=m'.q:=congrArg Mc.q f
 have u:a.1=1∨a.1=2∨a.1=4∨en=Za:=by
  unfold si at e;simp only at e;rw[zE (show(pB c s).q<0 by show s.q<0;omega)]at e
  grind
 have p:a.1=1∨a.1=2∨a.1=4->m'.q=s.q:=λk=>by
  unfold ML at m;rcases k with k|k|k
  all_goals
   rw[k]at m;simp only[Int.reduceEq,if_false,if_true]at m;split at m
   .injection m with m;subst m;rfl
   cases m
 grind
theorem Xm (s:Dy)(g:Int)(en b:Bool):mp g en b c.fixed c.tp c.sl c.ns c.mode c.R c.Q c.len c.words s.L s.p s.q s.c0 s.c1 s.c2 s.c3 s.z c.X c.T c.l c.k c.P c.tk s.lv s.pk c.words s.W=O (match nxB s with|some a=>(a.1,Za)|none=>(0,Zb)):=by
 unfold mp;refine ec (ay4 s g en b) ?_;rw[show iR g en b c.fixed c.tp c.sl c.ns c.mode c.R c.Q c.len c.words s.L s.p s.q s.c0 s.c1 s.c2 s.c3 s.z c.X c.T c.l c.k c.P c.tk s.lv s.pk c.words s.W=O s.L from rfl];unfold nxB
 grind
omit h in
theorem ba3 (e:nxB s=O a):a.2=0:=by
 unfold nxB at e
 grind
omit h in
theorem aS0 (b:c.mode=3)(en:Bool)(s:Dy):vI c en s=nxB s:=by unfold vI;rw[zE b]
theorem bG1 (b:c.mode=3)(u:i<=1000000)(w:dq c i s)(e:vI c en s=O a)(m:xN c a s):
  gz c.mode en Zb c.fixed c.tp c.sl c.ns c.mode c.R c.Q c.len c.words s.L s.p s.q s.c0 s.c1 s.c2 s.c3 s.z c.X c.T c.l c.k c.P c.tk s.lv s.pk c.words s.W=O (a.1,Za,0,c.fixed,c.tp,c.sl,c.ns,c.mode,c.R,c.Q,c.len,c.words,(tX c a s).L,(tX c a s).p,(tX c a s).q,(tX c a s).c0,(tX c a s).c1,(tX c a s).c2,(tX c a s).c3,(tX c a s).z,(tX c a s).lv,(tX c a s).pk,c.words,(tX c a s).W):=by
 have d:=w;unfold dq at d;rw[zE b]at d;rw[aS0 b]at e;have g:=ba3 e;unfold xN at m;rw[zE b,g]at m;have r:tX c a s=(Hz c a.1 0 s).2:=by unfold tX;rw[zE b,g]
 unfold gz;rw[zD];refine ec (Xm h s c.mode en Zb) ?_;rw[e];show cond (!Za) _ _=_;rw[aB,zD];refine ec (do1 h b d.inv d.cnt V1) ?_;show cond (Zc<|(Hz c a.1 0 s).1≠0) _ _=_;rw[m,r];rfl
theorem bF9 (b:c.mode=3)(w:dq c i s)(e:vI c en s=Y):
  gz c.mode en Zb c.fixed c.tp c.sl c.ns c.mode c.R c.Q c.len c.words s.L s.p s.q s.c0 s.c1 s.c2 s.c3 s.z c.X c.T c.l c.k c.P c.tk s.lv s.pk c.words s.W=O (0,Zb,0,c.fixed,c.tp,c.sl,c.ns,c.mode,c.R,c.Q,c.len,c.words,s.L,s.p,s.q,s.c0,s.c1,s.c2,s.c3,s.z,s.lv,s.pk,c.words,s.W):=by
 have d:=w;unfold dq at d;rw[zE b]at d;rw[aS0 b]at e;unfold gz;rw[zD];refine ec (Xm h s c.mode en Zb) ?_;rw[e];rfl
theorem bF6 (b:c.mode=3)(w:dq c i s):
  lF c.mode en Zb c.fixed c.tp c.sl c.ns c.mode c.R c.Q c.len c.words s.L s.p s.q s.c0 s.c1 s.c2 s.c3 s.z c.X c.T c.l c.k c.P c.tk s.lv s.pk c.words s.W=O (vI c en s).isNone:=by
 have d:=w;unfold dq at d;rw[zE b]at d;rw[aS0 b];unfold lF;rw[zD];refine ec (Xm h s c.mode en Zb) ?_;cases nxB s<;>rfl
theorem bG6 (b:c.mode=3)(w:dq c i s):
  gR c.mode en Zb c.fixed c.tp c.sl c.ns c.mode c.R c.Q c.len c.words s.L s.p s.q s.c0 s.c1 s.c2 s.c3 s.z c.X c.T c.l c.k c.P c.tk s.lv s.pk c.words s.W=O ((vI c en s).isNone&&(Zc (c.mode=2)&& !en)):=by
 unfold gR;refine ec (bF6 h b w) ?_;cases(vI c en s).isNone<;>cases Zc (c.mode=2)<;>cases en<;>rfl
omit h in
theorem bk7 (b:c.mode=1)(en:Bool)(s:Dy):vI c en s=Ds (pB c s):=by unfold vI;rw[Zh,Zh]
theorem bG2 (u:c.mode=1)(y:1<=c.ns)(r:i<=1000000)(w:dq c i s)(e:vI c en s=O a)(m:xN c a s):
  fT c.mode en Zb c.fixed c.tp c.sl c.ns c.mode c.R c.Q c.len c.words s.L s.p s.q s.c0 s.c1 s.c2 s.c3 s.z c.X c.T c.l c.k c.P c.tk (c.off 8:Int) c.ns (hW c.X:Int) s.lv s.pk c.words s.W=O (a.1,a.2,Za,0,c.fixed,c.tp,c.sl,c.ns,c.mode,c.R,c.Q,c.len,c.words,(tX c a s).L,(tX c a s).p,(tX c a s).q,(tX c a s).c0,(tX c a s).c1,(tX c a s).c2,(tX c a s).c3,(tX c a s).z,(tX c a s).lv,(tX c a s).pk,c.words,(tX c a s).W):=by
 have b:=w;unfold dq at b;rw[Zh]at b;rw[bk7 u]at e;unfold xN at m;rw[Zh]at m;obtain⟨m',m⟩:=m;have g:=(M3 h V1 b.inv m).1;have d:tX c a s=(E6 c a.1 a.2 s).2:=by unfold tX;rw[Zh]
 unfold fT;rw[zD];refine ec (XZ h V1 y b.inv c.mode en Zb) ?_;rw[e];show cond (!Za) _ _=_;rw[aB,zD];refine ec (do2 h V1 b.inv b.cnt V1) ?_;show cond (Zc<|(E6 c a.1 a.2 s).1≠0) _ _=_;rw[g,d];rfl
theorem bG0 (d:c.mode=1)(g:1<=c.ns)(w:dq c i s)(e:vI c en s=Y):
  fT c.mode en Zb c.fixed c.tp c.sl c.ns c.mode c.R c.Q c.len c.words s.L s.p s.q s.c0 s.c1 s.c2 s.c3 s.z c.X c.T c.l c.k c.P c.tk (c.off 8:Int) c.ns (hW c.X:Int) s.lv s.pk c.words s.W=O (0,0,Zb,0,c.fixed,c.tp,c.sl,c.ns,c.mode,c.R,c.Q,c.len,c.words,s.L,s.p,s.q,s.c0,s.c1,s.c2,s.c3,s.z,s.lv,s.pk,c.words,s.W):=by
 have b:=w;unfold dq at b;rw[Zh]at b;rw[bk7 d]at e;unfold fT;rw[zD];refine ec (XZ h V1 g b.inv c.mode en Zb) ?_;rw[e];rfl
theorem bF7 (d:c.mode=1)(e:1<=c.ns)(w:dq c i s):
  jL c.mode en Zb c.fixed c.tp c.sl c.ns c.mode c.R c.Q c.len c.words s.L s.p s.q s.c0 s.c1 s.c2 s.c3 s.z c.X c.T c.l c.k c.P c.tk (c.off 8:Int) c.ns (hW c.X:Int) s.lv s.pk c.words s.W=O (vI c en s).isNone:=by
 have b:=w;unfold dq at b;rw[Zh]at b;rw[bk7 d];unfold jL;rw[zD];refine ec (XZ h V1 e b.inv c.mode en Zb) ?_;cases Ds (pB c s)<;>rfl
theorem bG7 (b:c.mode=1)(d:1<=c.ns)(w:dq c i s):
  gv c.mode en Zb c.fixed c.tp c.sl c.ns c.mode c.R c.Q c.len c.words s.L s.p s.q s.c0 s.c1 s.c2 s.c3 s.z c.X c.T c.l c.k c.P c.tk (c.off 8:Int) c.ns (hW c.X:Int) s.lv s.pk c.words s.W=O ((vI c en s).isNone&&(Zc (c.mode=2)&& !en)):=by
 unfold gv;refine ec (bF7 h b d w) ?_;cases(vI c en s).isNone<;>cases Zc (c.mode=2)<;>cases en<;>rfl
omit h in
theorem bk8 (b:c.mode=2)(en:Bool)(s:Dy):vI c en s=si en (pB c s):=by unfold vI;rw[Zh,zE b]
theorem bG3 (u:c.mode=2)(y:1<=c.ns)(r:i<=1000000)(w:dq c i s)(e:vI c en s=O a)(m:xN c a s):
  fU c.mode en Zb c.fixed c.tp c.sl c.ns c.mode c.R c.Q c.len c.words s.L s.p s.q s.c0 s.c1 s.c2 s.c3 s.z c.X c.T c.l c.k c.P c.tk (c.off 8:Int) c.ns (hW c.X:Int) s.lv s.pk c.words s.W=O (a.1,a.2,Za,0,c.fixed,c.tp,c.sl,c.ns,c.mode,c.R,c.Q,c.len,c.words,(tX c a s).L,(tX c a s).p,(tX c a s).q,(tX c a s).c0,(tX c a s).c1,(tX c a s).c2,(tX c a s).c3,(tX c a s).z,(tX c a s).lv,(tX c a s).pk,c.words,(tX c a s).W):=by
 have b:=w;unfold dq at b;rw[Zh]at b;rw[bk8 u]at e;unfold xN at m;rw[Zh]at m;obtain⟨m',m⟩:=m;have g:=(M3 h V1 b.inv m).1;have d:tX c a s=(E6 c a.1 a.2 s).2:=by unfold tX;rw[Zh]
 unfold fU;rw[zD];refine ec (aD9 h V1 y b.inv c.mode en Zb) ?_;rw[e];show cond (!Za) _ _=_;rw[aB,zD];refine ec (do2 h V1 b.inv b.cnt V1) ?_;show cond (Zc<|(E6 c a.1 a.2 s).1≠0) _ _=_;rw[g,d];rfl
theorem bm8 (d:c.mode=2)(g:1<=c.ns)(w:dq c i s)(e:vI c en s=Y):
  fU c.mode en Zb c.fixed c.tp c.sl c.ns c.mode c.R c.Q c.len c.words s.L s.p s.q s.c0 s.c1 s.c2 s.c3 s.z c.X c.T c.l c.k c.P c.tk (c.off 8:Int) c.ns (hW c.X:Int) s.lv s.pk c.words s.W=O (0,0,Zb,0,c.fixed,c.tp,c.sl,c.ns,c.mode,c.R,c.Q,c.len,c.words,s.L,s.p,s.q,s.c0,s.c1,s.c2,s.c3,s.z,s.lv,s.pk,c.words,s.W):=by
 have b:=w;unfold dq at b;rw[Zh]at b;rw[bk8 d]at e;unfold fU;rw[zD];refine ec (aD9 h V1 g b.inv c.mode en Zb) ?_;rw[e];rfl
theorem bF8 (d:c.mode=2)(e:1<=c.ns)(w:dq c i s):
  jM c.mode en Zb c.fixed c.tp c.sl c.ns c.mode c.R c.Q c.len c.words s.L s.p s.q s.c0 s.c1 s.c2 s.c3 s.z c.X c.T c.l c.k c.P c.tk (c.off 8:Int) c.ns (hW c.X:Int) s.lv s.pk c.words s.W=O (vI c en s).isNone:=by
 have b:=w;unfold dq at b;rw[Zh]at b;rw[bk8 d];unfold jM;rw[zD];refine ec (aD9 h V1 e b.inv c.mode en Zb) ?_;cases si en (pB c s)<;>rfl
theorem aI8 (b:c.mode=2)(d:1<=c.ns)(w:dq c i s):
  gw c.mode en Zb c.fixed c.tp c.sl c.ns c.mode c.R c.Q c.len c.words s.L s.p s.q s.c0 s.c1 s.c2 s.c3 s.z c.X c.T c.l c.k c.P c.tk (c.off 8:Int) c.ns (hW c.X:Int) s.lv s.pk c.words s.W=O ((vI c en s).isNone&&(Zc (c.mode=2)&& !en)):=by
 unfold gw;refine ec (bF8 h b d w) ?_;cases(vI c en s).isNone<;>cases Zc (c.mode=2)<;>cases en<;>rfl
theorem fdm (g:c.mode=2)(r:1<=c.ns)(w:dq c i s)(e:vI c Zb s=Y)(y:s.q= -1)(u:s.L<65535):
  fS Za c.mode Zb Zb c.fixed c.tp c.sl c.ns c.mode c.R c.Q c.len c.words s.L s.p s.q s.c0 s.c1 s.c2 s.c3 s.z c.X c.T c.l c.k c.P c.tk (c.off 8:Int) c.ns (hW c.X:Int) s.lv s.pk c.words s.W=O (0,c.mode,Zb,Zb,c.fixed,c.tp,c.sl,c.ns,c.mode,c.R,c.Q,c.len,c.words,(HS s).L,(HS s).p,(HS s).q,(HS s).c0,(HS s).c1,(HS s).c2,(HS s).c3,(HS s).z):=by
 have d:=w;unfold dq at d;rw[Zh]at d
 have b:zn c s=(0,HS s):=by
  unfold zn;rw[Zh,Zh,Zh];rfl
 unfold fS;rw[zD];refine ec (aI8 h g r w) ?_;rw[e,zB g];show cond (!Za) _ _=_;rw[aB,zD,zD];refine ec (bt4 d.inv.L) ?_;rw[b];rfl
theorem fds (b:c.mode=2)(d:1<=c.ns)(w:dq c i s)(e:vI c Zb s=Y):
  fS Zb c.mode Zb Zb c.fixed c.tp c.sl c.ns c.mode c.R c.Q c.len c.words s.L s.p s.q s.c0 s.c1 s.c2 s.c3 s.z c.X c.T c.l c.k c.P c.tk (c.off 8:Int) c.ns (hW c.X:Int) s.lv s.pk c.words s.W=O (0,c.mode,Za,Zb,c.fixed,c.tp,c.sl,c.ns,c.mode,c.R,c.Q,c.len,c.words,s.L,s.p,s.q,s.c0,s.c1,s.c2,s.c3,s.z):=by
 unfold fS;rw[zD];refine ec (aI8 h b d w) ?_;rw[e,zB b];rfl
end
end
section
open Go.IntKind renaming wrap->zH,i64->zI,u64->zJ
open Bool renaming not_true->bD
open Eq renaming trans->aD
open List renaming length_drop->aB,getElem?_cons_succ->cB,getElem?_cons_zero->cD,getElem_mem->cK,length_append->cL,length_take->cM,mem_of_mem_drop->cN,take_length->cO
open Nat renaming le_trans->bB
section
variable {l:List bx} {m:Zd}
end
section
variable {l:List bx} {m:Zd}
end
section
variable {a0:Int} {a1 a2:Zd} {a3:Int} {a4:List bx} {a5:Int} {a6:List bx} {a7 a8:Int}
end
theorem br1 {f:(Int×Zd)->Option ((Int×Zd)⊕Zd)}{l:Zd}(s:Zd)(g:hW l<1000000)(d: ∀i,(hi:i<hW l)->f ((i:Int),s++l.take i)=O (.inl (((i+1:Nat):Int),s++l.take i++[l[i]])))(b:f ((hW l:Int),s++l)=O (.inr<|s++l)):am f co (0,s)=O (s++l):=by
 have e:am f co (0,s++l.take 0)=O (s++l):=by
  refine cn (n:=hW l) (λi=>s++l.take i) V1 (λi hi=> ?_) ?_
  .rw[d i hi,List.take_succ_eq_append_getElem hi,List.append_assoc]
  rw[cO,b]
 grind
section
variable {a0:Int} {a1 a2:Zd} {a3:Int} {a4:List bx} {a5:Int} {a6:List bx} {a7 a8:Int}
end
section
variable (a0:Int) (a1 a2:Zd) (a3:Int) (a4:List bx) (a5:Int) (a6:List bx) (a7 a8:Int)
end
def mZ :Bool->Zd->Option (Int×Zd)
 |false,t=>O (0,t)
 |true,[]=>Y
 |true,x::t=>O (x,t)
def tC (b:Bool):Nat:=if b then 1 else 0
def mm (x:Int):Int:=min x 2147483647
def R7 :Zd->Int×Int×Int×Int×Int×Int×Int
 |[]=>(0,0,0,0,0,0,4)
 |k::t=>if 7<k then(0,0,0,0,0,0,6)else
  match mZ (bv k).1 t with
  |none=>(0,0,0,0,0,0,4)
  |some (d,e)=>match mZ (bv k).2.1 e with
   |none=>(0,0,0,0,0,0,4)
   |some (a,g)=>match mZ (bv k).2.2.1 g with
    |none=>(0,0,0,0,0,0,4)
    |some (b,p)=>match mZ (bv k).2.2.2 p with
     |none=>(0,0,0,0,0,0,4)
     |some (v,r)=>(k,mm d,mm a,mm b,v,((1+tC (bv k).1+tC (bv k).2.1+tC (bv k).2.2.1+tC (bv k).2.2.2:Nat):Int),0)
abbrev gM (w:Zd):Prop:= ∀x∈w,0<=x/\x<=18446744073709551615
def Dk {n:Nat}(h:w.drop n=x::t):n<hW w/\rd w (n:Int)=O x/\w.drop (n+1)=t/\x∈w:=by
 have b:n<hW w:=by
  rcases Nat.lt_or_ge n (hW w) with h1|h1
  .exact h1
  rw[List.drop_of_length_le h1]at h;cases h
 rw[<-List.getElem_cons_drop b]at h;injection h with h1 d
 exact⟨b,by rw[bt b,h1],d,by rw[<-h1];exact cK b⟩
theorem Oz {n:Nat}(h:w.drop n=[]):hW w<=n:=by
 simp_all
def lw {n:Nat}{g:Zd}(h:w.drop n=t)(b:mZ q t=O (x,g)):w.drop (n+tC q)=g/\(x=0∨x∈w)/\(n<=hW w->n+tC q<=hW w):=by
 cases q with
 |false=>
  injection b with b
  injection b with d e
  exact⟨by rw[<-e,<-h];rfl, .inl d.symm,λh=>h⟩
 |true=>
  cases t with
  |nil=>cases b
  |cons y t=>
   injection b with b
   injection b with d e
   have⟨p,z,r,u⟩:=Dk h;exact⟨by rw[<-e,<-r];rfl, .inr<|d▸u,λ_=>p⟩
def VG (g:hW w<=1000000){n:Nat}(h:w.drop n=t)(p:n<=100):
  jW q (n:Int) w Zb=O (match mZ q t with
   |some (x,_)=>(x,((n+tC q:Nat):Int),Zb)
   |none=>(0,((n+1:Nat):Int),Za)):=by
 unfold jW;cases q with
 |false=>rfl
 |true=>
  simp only[bD,zD];rw[ae (n:=(n:Int)+1) V1,ae (n:=(n:Int)+1-1) V1,ah];cases t with
  |nil=>
   have:=Oz h;rw[Zg];rfl
  |cons x t=>
   have⟨d,b,e,_⟩:=Dk h;rw[Zh,show(n:Int)+1-1=(n:Int)by omega,b];rfl
def EG (b:hW w<=1000000){n:Nat}(d:n<=100): ∃x m,jW q (n:Int) w Za=O (x,((m:Nat):Int),Za)/\m<=n+1:=by
 unfold jW;cases q with
 |false=>exact⟨_,n,rfl,V1⟩
 |true=>
  simp only[bD,zD];rw[ae (n:=(n:Int)+1) V1,ae (n:=(n:Int)+1-1) V1,ah];by_cases c:(hW w:Int)<(n:Int)+1
  .rw[zE c];exact⟨_,n+1,rfl,V1⟩
  rw[zF c,show(n:Int)+1-1=(n:Int)by omega,bt (show n<(hW w) by omega)];exact⟨_,n+1,rfl,V1⟩
theorem au8 (r:gM w)(b:hW w<=1000000){n:Nat}(h:w.drop n=t)(d:n<=100):
  hC q (n:Int) w Zb=O (match mZ q t with
   |some (x,_)=>(mm x,((n+tC q:Nat):Int),Zb)
   |none=>(0,((n+1:Nat):Int),Za)):=by
 unfold hC;rw[VG b h d];cases e:mZ q t with
 |none=>rfl
 |some p=>
  have⟨x,u⟩:=p;have⟨_,g,_⟩:=lw h e
  have g:0<=x:=by
   grind
  simp only[zG];rw[Zi];rfl
def N5 (e:hW w<=1000000){n:Nat}(g:n<=100): ∃x m,hC q (n:Int) w Za=O (x,((m:Nat):Int),Za)/\m<=n+1:=by
 have⟨x,m,b,d⟩:=EG (q:=q) e g;unfold hC;rw[b];exact⟨_,m,rfl,d⟩
theorem VQ (u:gM w)(b:w.length<=1000000):w7 w=O (R7 w):=by
 unfold w7;cases w with
 |nil=>rfl
 |cons k t=>
  have hk:=u k V2;simp only[ah];rw[zF V3];have A:rd (k::t) 0=O k:=bt (l:=k::t) (i:=0) V2;rw[A];simp only[zG];simp only[R7];by_cases c:7<k
  .rw[Zg,zE c]
  rw[Zh,zF c,ae (n:=k) V1,Lj];simp only[zG];generalize bv k=q;obtain⟨d,e,g,r⟩:=q;simp only;have D:(k::t).drop 1=t:=rfl;have y:=au8 u b (q:=d) D V1;have y:hC d 1 (k::t) Zb=_:=y;have f1:tC d<=1:=by cases d<;>decide
  have f2:tC e<=1:=by cases e<;>decide
  have f3:tC g<=1:=by cases g<;>decide
  rw[y];cases N:mZ d t with
  |none=>
   simp only[zG];obtain⟨x2,m2,M,l2⟩:=N5 (q:=e) b (n:=1+1) V1;rw[M];simp only[zG];obtain⟨J,C,z,Z⟩:=N5 (q:=g) b (n:=m2) V1;rw[z];simp only[zG];obtain⟨K,I,p,H⟩:=EG (q:=r) b (n:=C) V1;rw[p];rfl
  |some p1=>
   obtain⟨x1,t1⟩:=p1;obtain⟨E,_,_⟩:=lw D N;simp only[zG];rw[au8 u b (q:=e) E V1];cases Q:mZ e t1 with
   |none=>
    simp only[zG];obtain⟨J,C,z,Z⟩:=N5 (q:=g) b (n:=1+tC d+1) V1;rw[z];simp only[zG];obtain⟨K,I,p,H⟩:=EG (q:=r) b (n:=C) V1;rw[p];rfl
   |some p2=>
    obtain⟨x2,t2⟩:=p2;obtain⟨F,_,_⟩:=lw E Q;simp only[zG];rw[au8 u b (q:=g) F V1];cases V:mZ g t2 with
    |none=>
     simp only[zG];obtain⟨K,I,p,H⟩:=EG (q:=r) b (n:=1+tC d+tC e+1) V1;rw[p];rfl
    |some p3=>
     obtain⟨J,t3⟩:=p3;obtain⟨L,_,_⟩:=lw F V;simp only[zG];rw[VG b (q:=r) L V1]
     grind
def HA (g:hW w<=1000000){n:Nat}(h:w.drop n=t)(p:n<=100){γ:Type}{ok:Int->Int->Option γ}{bad:Option γ}{skip:Option γ}(r:skip=ok 0 (n:Int)∨q=Za):
  (cond (!q) skip (cond (Zc<|(hW w:Int)<=(n:Int)) bad<|im (rd w (n:Int)) λx=>ok x<|zH zI<|(n:Int)+1))=(match mZ q t with
   |none=>bad
   |some (x,_)=>if q then ok x ((n+tC q:Nat):Int)else skip):=by
 cases q with
 |false=>rfl
 |true=>
  simp only[bD,zD,if_true];rw[ae (n:=(n:Int)+1) V1,ah];cases t with
  |nil=>
   have:=Oz h;rw[Zg];rfl
  |cons x t=>
   have⟨d,b,e,_⟩:=Dk h;rw[Zh,b];rfl
theorem Tt (x:Int){γ:Type}(f:Int->γ):cond (Zc<|2147483647<x) (f 2147483647) (f x)=f (mm x):=by
 rw[ah];unfold mm
 grind
theorem Yc (hu:gM w)(J:w.length<=1000000):zx w=O (R7 w):=by
 unfold zx;cases w with
 |nil=>rfl
 |cons k t=>
  have hk:=hu k V2;simp only[ah];rw[zF V3];have M:rd (k::t) 0=O k:=bt (l:=k::t) (i:=0) V2;rw[M];simp only[zG];simp only[R7];by_cases c:7<k
  .rw[zE c,zE c]
  rw[zF c,zF c,ae (n:=k) V1,CQ];simp only[zG];generalize bv k=q;obtain⟨g,r,z,C⟩:=q;simp only;have Z:(k::t).drop 1=t:=rfl;have f1:tC g<=1:=by cases g<;>decide
  have f2:tC r<=1:=by cases r<;>decide
  have f3:tC z<=1:=by cases z<;>decide
  have H: ∀(y:Int),(y=0∨y∈k::t)->0<=mm y/\mm y<=2147483647:=by
   intro y hy
   have:0<=y:=by
    grind
   unfold mm;omega
  have s0: ∀(n:Nat) (A:Zd),(k::t).drop n=A->n<=100->fZ (k::t) (g,r,z,C) (0,(n:Int),0,0,0,0)=(match mZ g A with
    |none=>O (.inr<|.inl (0,0,0,0))
    |some (x,_)=>O<|.inl (1,((n+tC g:Nat):Int),mm x,0,0,0)):=by
   intro n A E F;have e:fZ (k::t) (g,r,z,C) (0,(n:Int),0,0,0,0)=cond (!g) (O<|.inl (1,(n:Int),0,0,0,0)) (cond (Zc<|((k::t).length:Int)<=(n:Int)) (O<|.inr<|.inl (0,0,0,0))<|(rd (k::t) (n:Int)).bind λx=>cond (Zc<|2147483647<x) (O<|.inl (1,zH zI<|(n:Int)+1,2147483647,0,0,0))<|O<|.inl (1,zH zI<|(n:Int)+1,x,0,0,0)):=rfl;rw[e];refine aD (HA (γ:=(Int×Int×Int×Int×Int×Int)⊕((Int×Int×Int×Int)⊕(Int×Int×Int×Int×Int))) J E F (q:=g) (ok:=λx m=>cond (Zc<|2147483647<x) (O<|.inl (1,m,2147483647,0,0,0))<|O<|.inl (1,m,x,0,0,0)) (bad:=O<|.inr<|.inl (0,0,0,0)) (skip:=O<|.inl (1,(n:Int),0,0,0,0)) (by cases g;exact .inl rfl;exact .inr rfl)) ?_;cases u:mZ g A with
   |none=>rfl
   |some p=>
    obtain⟨x,Q⟩:=p;simp only;rw[Tt x<|λy=>O<|Sum.inl (1,((n+tC g:Nat):Int),y,0,0,0)];cases g with
    |true=>rfl
    |false=>
     injection u with u
     injection u with u _
     rw[<-u];rfl
  have s1: ∀(n:Nat) (A:Zd) (b:Int),(k::t).drop n=A->n<=100->fZ (k::t) (g,r,z,C) (1,(n:Int),b,0,0,0)=(match mZ r A with
    |none=>O (.inr<|.inl (b,0,0,0))
    |some (x,_)=>O<|.inl (2,((n+tC r:Nat):Int),b,mm x,0,0)):=by
   intro n A b E F;have e:fZ (k::t) (g,r,z,C) (1,(n:Int),b,0,0,0)=cond (!r) (O<|.inl (2,(n:Int),b,0,0,0)) (cond (Zc<|((k::t).length:Int)<=(n:Int)) (O<|.inr<|.inl (b,0,0,0))<|(rd (k::t) (n:Int)).bind λx=>cond (Zc<|2147483647<x) (O<|.inl (2,zH zI<|(n:Int)+1,b,2147483647,0,0))<|O<|.inl (2,zH zI<|(n:Int)+1,b,x,0,0)):=rfl;rw[e];refine aD (HA (γ:=(Int×Int×Int×Int×Int×Int)⊕((Int×Int×Int×Int)⊕(Int×Int×Int×Int×Int))) J E F (q:=r) (ok:=λx m=>cond (Zc<|2147483647<x) (O<|.inl (2,m,b,2147483647,0,0))<|O<|.inl (2,m,b,x,0,0)) (bad:=O<|.inr<|.inl (b,0,0,0)) (skip:=O<|.inl (2,(n:Int),b,0,0,0)) (by cases r;exact .inl rfl;exact .inr rfl)) ?_;cases u:mZ r A with
   |none=>rfl
   |some p=>
    obtain⟨x,Q⟩:=p;simp only;rw[Tt x<|λy=>O<|Sum.inl (2,((n+tC r:Nat):Int),b,y,0,0)];cases r with
    |true=>rfl
    |false=>
     injection u with u
     injection u with u _
     rw[<-u];rfl
  have s2: ∀(n:Nat) (A:Zd) (b d:Int),(k::t).drop n=A->n<=100->fZ (k::t) (g,r,z,C) (2,(n:Int),b,d,0,0)=(match mZ z A with
    |none=>O (.inr<|.inl (b,d,0,0))
    |some (x,_)=>O<|.inl (3,((n+tC z:Nat):Int),b,d,mm x,0)):=by
   intro n A b d E F;have e:fZ (k::t) (g,r,z,C) (2,(n:Int),b,d,0,0)=cond (!z) (O<|.inl (3,(n:Int),b,d,0,0)) (cond (Zc<|((k::t).length:Int)<=(n:Int)) (O<|.inr<|.inl (b,d,0,0))<|(rd (k::t) (n:Int)).bind λx=>cond (Zc<|2147483647<x) (O<|.inl (3,zH zI<|(n:Int)+1,b,d,2147483647,0))<|O<|.inl (3,zH zI<|(n:Int)+1,b,d,x,0)):=rfl;rw[e];refine aD (HA (γ:=(Int×Int×Int×Int×Int×Int)⊕((Int×Int×Int×Int)⊕(Int×Int×Int×Int×Int))) J E F (q:=z) (ok:=λx m=>cond (Zc<|2147483647<x) (O<|.inl (3,m,b,d,2147483647,0))<|O<|.inl (3,m,b,d,x,0)) (bad:=O<|.inr<|.inl (b,d,0,0)) (skip:=O<|.inl (3,(n:Int),b,d,0,0)) (by cases z;exact .inl rfl;exact .inr rfl)) ?_;cases u:mZ z A with
   |none=>rfl
   |some p=>
    obtain⟨x,Q⟩:=p;simp only;rw[Tt x<|λy=>O<|Sum.inl (3,((n+tC z:Nat):Int),b,d,y,0)];cases z with
    |true=>rfl
    |false=>
     injection u with u
     injection u with u _
     rw[<-u];rfl
  have s3: ∀(n:Nat) (A:Zd) (b d D:Int),(k::t).drop n=A->n<=100->fZ (k::t) (g,r,z,C) (3,(n:Int),b,d,D,0)=(match mZ C A with
    |none=>O (.inr<|.inl (b,d,D,0))
    |some (x,_)=>O<|.inl (4,((n+tC C:Nat):Int),b,d,D,x)):=by
   intro n A b d D E F;have e:fZ (k::t) (g,r,z,C) (3,(n:Int),b,d,D,0)=cond (!C) (O<|.inl (4,(n:Int),b,d,D,0)) (cond (Zc<|((k::t).length:Int)<=(n:Int)) (O<|.inr<|.inl (b,d,D,0))<|(rd (k::t) (n:Int)).bind λx=>O<|.inl (4,zH zI<|(n:Int)+1,b,d,D,x)):=rfl;rw[e];refine aD (HA (γ:=(Int×Int×Int×Int×Int×Int)⊕((Int×Int×Int×Int)⊕(Int×Int×Int×Int×Int))) J E F (q:=C) (ok:=λx m=>O<|.inl (4,m,b,d,D,x)) (bad:=O<|.inr<|.inl (b,d,D,0)) (skip:=O<|.inl (4,(n:Int),b,d,D,0)) (by cases C;exact .inl rfl;exact .inr rfl)) ?_;cases u:mZ C A with
   |none=>rfl
   |some p=>
    obtain⟨x,Q⟩:=p;simp only;cases C with
    |true=>rfl
    |false=>
     injection u with u
     injection u with u _
     rw[<-u];rfl
  have s4: ∀(n b d D v3:Int),fZ (k::t) (g,r,z,C) (4,n,b,d,D,v3)=O (.inr<|.inr (n,b,d,D,v3)):=λ_ _ _ _ _=>rfl
  obtain⟨N,hB⟩: ∃N,co=N+1+1+1+1+1:=⟨18446744073709551611,rfl⟩
  rw[hB,bi];have L:=s0 1 t Z V1;have L:fZ (k::t) (g,r,z,C) (0,1,0,0,0,0)=_:=L;rw[L];cases h1:mZ g t with
  |none=>simp only[zG,be]
  |some p1=>
   obtain⟨I,t1⟩:=p1;obtain⟨d2,m1,_⟩:=lw Z h1;have q1:=H I m1;simp only[zG,be];rw[bi,s1 (1+tC g) t1 (mm I) d2 V1];cases h2:mZ r t1 with
   |none=>simp only[zG,be]
   |some p2=>
    obtain⟨K,t2⟩:=p2;obtain⟨d3,m2,_⟩:=lw d2 h2;have q2:=H K m2;simp only[zG,be];rw[bi,s2 (1+tC g+tC r) t2 (mm I) (mm K) d3 V1];cases h3:mZ z t2 with
    |none=>simp only[zG,be]
    |some p3=>
     obtain⟨V,t3⟩:=p3;obtain⟨d4,m3,_⟩:=lw d3 h3;have q3:=H V m3;simp only[zG,be];rw[bi,s3 (1+tC g+tC r+tC z) t3 (mm I) (mm K) (mm V) d4 V1];cases h4:mZ C t3 with
     |none=>simp only[zG,be]
     |some p4=>
      obtain⟨x4,t4⟩:=p4;simp only[zG,be];rw[bi,s4];simp only[zG,be];rw[ae (n:=mm I) V1,ae (n:=mm K) V1,ae (n:=mm V) V1]
theorem at0 (V:gM w)(A:w≠[])(b:(R7 w).2.2.2.2.2.2=0): ∃n:Nat,(R7 w).2.2.2.2.2.1=(n:Int)/\1<=n/\n<=hW w/\0<=(R7 w).2.2.2.2.1/\(R7 w).2.2.2.2.1<=18446744073709551615:=by
 cases w with
 |nil=>exact(A rfl).elim
 |cons k t=>
  simp only[R7]at b⊢;have r:(k::t).drop 1=t:=rfl;by_cases c:7<k
  .rw[zE c]at b;cases b
  rw[zF c]at b⊢;cases d:mZ (bv k).1 t with
  |none=>rw[d]at b;cases b
  |some H=>
   have⟨x1,L⟩:=H;have⟨u,_,C⟩:=lw r d;simp only[d]at b⊢;cases e:mZ (bv k).2.1 L with
   |none=>rw[e]at b;cases b
   |some I=>
    have⟨x2,M⟩:=I;have⟨y,_,D⟩:=lw u e;simp only[e]at b⊢;cases g:mZ (bv k).2.2.1 M with
    |none=>rw[g]at b;cases b
    |some J=>
     have⟨x3,N⟩:=J;have⟨z,_,E⟩:=lw y g;simp only[g]at b⊢;cases p:mZ (bv k).2.2.2 N with
     |none=>rw[p]at b;cases b
     |some K=>
      have⟨x4,t4⟩:=K;have⟨Q,Z,F⟩:=lw z p;simp only[p];refine⟨_,rfl,V1,F<|E<|D<|C V2, ?_⟩
      grind
def U :Nat->Zd->List bx->Option (List bx)
 |0,_,_=>Y
 |f+1,w,b=>if hW w=0 then O b else if(R7 w).2.2.2.2.2.2≠0 then Y else U f (w.drop<|hX (R7 w).2.2.2.2.2.1)<|b++[((R7 w).1,(R7 w).2.1,(R7 w).2.2.1,(R7 w).2.2.2.1,(R7 w).2.2.2.2.1)]
def Uj (w:Zd):Option<|List bx:=U (hW w+1) w []
def jc (w:Zd):Int×List bx:=match Uj w with
 |some l=>(0,l)
 |none=>(6,[])
def gM.drop (h:gM w)(n:Nat):gM<|w.drop n:=λx b=>h x<|cN b
theorem bf0 : ∀(f:Nat) (w:Zd) (b l:List bx),gM w->U f w b=O l->(∀o∈b,0<=o.2.2.2.2/\o.2.2.2.2<=18446744073709551615)->hW l<=hW b+hW w/\∀o∈l,0<=o.2.2.2.2/\o.2.2.2.2<=18446744073709551615
 |0,w,b,l,_,h,_=>by cases h
 |f+1,w,b,l,d,h,p=>by
  simp only[U]at h;split at h
  .injection h with h
   subst h;exact⟨V1,p⟩
  .rename_i r;split at h
   .cases h
   .rename_i D;have⟨n,g,z,A,C⟩:=at0 d (λe=>r (by rw[e];rfl)) V1;rw[g]at h
    have⟨u,y⟩:=bf0 f _ _ l (d.drop _) h (λo E=>by
     grind)
    grind
def GZ (g:gM w)(p:hW w<=4000):OpsOk (jc w).2:=by
 unfold jc Uj;cases h:U (hW w+1) w []with
 |none=>exact⟨V2,λo b=>by simp at b⟩
 |some l=>
  have⟨d,e⟩:=bf0 _ _ _ _ g h (λo b=>by simp at b);exact⟨by simp at d⊢;omega,e⟩
def Nj (e:gM w):hW (jc w).2<=hW w:=by
 unfold jc Uj;cases h:U (hW w+1) w []with
 |none=>simp
 |some l=>
  have⟨b,g⟩:=bf0 _ _ _ _ e h (λo d=>by simp at d);simpa using b
theorem xZ {n:Nat}:na w (n:Int) (hW w:Int)=w.drop n:=by
 unfold na
 simp_all
theorem If {a0:Zd}(z:gM a0)(H:hW a0<=100000):sR a0=O (jc a0):=by
 unfold sR jc
 have⟨c,E,h⟩:=lj (f:=tj) (a:=(a0,Za,([]:List bx))) (λs=> ∃w b f,s=(w,Za,b)/\hW w<f/\U f w b=Uj a0/\gM w/\hW b+hW w<=hW a0) (λs=>hW s.1)
  (λc=>(c.1=Zb/\Uj a0=Y)∨(c.1=Za/\Uj a0=O c.2)) ⟨a0,[],hW a0+1,rfl,V1,rfl,z,V2⟩ V3 (by
  rintro _ ⟨w,b,f,rfl,F,d,p,u⟩;cases f with
  |zero=>omega
  |succ f=>
  simp only[U]at d;simp only[tj,ah];by_cases r:hW w=0
  .simp_all
  rw[zF r]at d;rw[Zg,VQ p V1,zG];by_cases g:(R7 w).2.2.2.2.2.2≠0
  .rw[zE g]at d
   simp_all
  rw[zF g]at d;rw[zF g];have⟨n,y,A,C,D⟩:=at0 p (λe=>r (by rw[e];rfl)) V1;rw[y]at d⊢;have d:U f (w.drop n) _=_:=d;rw[bg V1 V1,Zk,bp,xZ]
  refine .inl ⟨_,rfl,⟨_,_,f,rfl,by rw[aB];omega,d,p.drop n,by rw[cL,aB];simp;omega⟩,by simp;omega⟩)
 grind
theorem J7 {a0:Zd}(F:gM a0)(I:hW a0<=100000):qE a0=O (jc a0):=by
 unfold qE jc
 have⟨c,D,h⟩:=lj (f:=uK a0) (a:=((0:Int),([]:List bx))) (λs=> ∃(i:Nat) (b:List bx) (f:Nat),s=((i:Int),b)/\i<=hW a0/\hW (a0.drop i)<f/\U f (a0.drop i) b=Uj a0/\hW b<=i) (λs=>hW a0-hX s.1)
  (λc=>(c= .inl ()/\Uj a0=Y)∨∃l,c= .inr l/\Uj a0=O l) ⟨0,[],hW a0+1,rfl,V1,V2,rfl,V2⟩ V3 (by
  rintro _ ⟨i,b,f,rfl,hi,E,d,y⟩;cases f with
  |zero=>omega
  |succ f=>
  simp only[U]at d;simp only[uK,ah];have z:=F.drop i;by_cases p:hW (a0.drop i)=0
  .grind
  rw[zF p]at d;have r:=p;rw[aB]at r E;rw[Zg,Zk,bp,xZ,Yc z Z4,zG];by_cases u:(R7<|a0.drop i).2.2.2.2.2.2≠0
  .rw[zE u]at d
   grind
  rw[zF u]at d;rw[zF u];have⟨n,A,g,C,H⟩:=at0 z (λe=>p (by rw[e];rfl)) V1;rw[aB]at C;rw[A]at d⊢;have d:U f ((a0.drop i).drop n) _=_:=d;rw[List.drop_drop]at d;rw[bg V1 V1,ae (n:=(i:Int)+(n:Int)) V1]
  refine .inl ⟨_,rfl,⟨i+n,_,f,by rw[show((i+n:Nat):Int)=(i:Int)+(n:Int)by omega],V1,by rw[aB];omega,d,by rw[cL];simp;omega⟩,by simp;omega⟩)
 rw[D,zG];rcases h with⟨rfl,g⟩|⟨l,rfl,g⟩
 .rw[g];rfl
 rw[g];rfl
def S :Nat->Zd->List Zd->Option (List (Zd)×Zd)
 |0,w,b=>O (b,w)
 |r+1,[],b=>Y
 |r+1,x::t,b=>if(hW t:Int)<x then Y else S r (t.drop<|hX x)<|b++[t.take<|hX x]
def aq0 (w:Zd):Option<|List (Zd)×Zd:=S 4 w []
def PL {K:Nat}(E:K<=100): ∀(r N:Nat) (w:Zd) (out:List Zd),hW out+r=K->gM w->hW w<=100000->
  (∃p,S r w out=O p/\am (kN (K:Int)) (N+r+1) (w,out)=O (0,p.2,p.1))∨(S r w out=Y/\∃w' I,am (kN (K:Int)) (N+r+1) (w,out)=O (4,w',I))
 |0,N,w,out,A,b,g=>by
  left;refine⟨_,rfl, ?_⟩;rw[bi];unfold kN;simp only;rw[ah,Zh];rfl
 |r+1,N,[],out,A,b,g=>by
  right;refine⟨rfl,[],out, ?_⟩;rw[bi];unfold kN;simp only;rw[ah,Zg,ah,zE V2];rfl
 |r+1,N,x::t,out,A,b,g=>by
  have M:=b x V2;have u:rd (x::t) 0=O x:=bt (l:=x::t) (i:=0) V2;simp only[S];simp only[List.length_cons]at g
  have z:zH zJ (zH zI<|((hW t+1:Nat):Int)-1)=(hW t:Int):=by
   rw[show((hW t+1:Nat):Int)-1=(hW t:Int)by omega,ae (n:=(hW t:Int)) V1,AB V1]
  have e:kN (K:Int) (x::t,out)=cond (Zc<|(hW out:Int)<(K:Int)) (cond (Zc<|((hW t+1:Nat):Int)=0) (O<|.inr (4,x::t,out)) (im (rd (x::t) 0) λL=>cond (Zc<|zH zJ (zH zI<|((hW t+1:Nat):Int)-1)<L) (O<|.inr (4,x::t,out)) (im (rd (x::t) 0) λd=>
    gd (dz 1 (zH zI<|zH zI d+1)<|hW t+1) (im (aj<|na (x::t) 1<|zH zI<|zH zI d+1) λJ=>
    gd (du (hW out+1) 24) (gd (dz (zH zI<|zH zI d+1) ((hW t+1:Nat):Int)<|hW t+1)<|O<|.inl (na (x::t) (zH zI<|zH zI d+1) ((hW t+1:Nat):Int),out++[J])))))) (O<|.inr (0,x::t,out)):=rfl
  rw[u,zB (show(hW out:Int)<(K:Int)by omega),zC,zA (show¬((hW t+1:Nat):Int)=0 by omega),zD]at e;simp only[zG]at e;by_cases c:(hW t:Int)<x
  .right;rw[zE c];refine⟨rfl,x::t,out, ?_⟩;rw[zB (show zH zJ (zH zI<|((hW t+1:Nat):Int)-1)<x by rw[z];exact c),zC]at e;rw[bi,e];rfl
  .rw[zF c];have H:=PL E r N (t.drop<|hX x) (out++[t.take<|hX x]) V3 (λy F=>b y (by simp[cN F])) Z4
   have C:na (x::t) 1 (x+1)=t.take (hX x):=by
    unfold na;rw[show(hX<|x+1)=hX x+1 by omega,show(hX (1:Int))=1 from rfl];rfl
   have D:na (x::t) (x+1) ((hW t+1:Nat):Int)=t.drop (hX x):=by
    unfold na;rw[show(hX ((hW t+1:Nat):Int))=(hW<|x::t) by simp,cO,show(hX<|x+1)=hX x+1 by omega];rfl
   rw[zA (show¬IntKind.u64.wrap (zH zI<|((hW t+1:Nat):Int)-1)<x by rw[z];exact c),zD,ae (n:=x) V1,ae (n:=x+1) V1,Zk,bp,C]at e;unfold aj at e;rw[bg (by rw[cM];omega) V1]at e;simp only[zG]at e;rw[bg V1 V1,Zk,bp,D]at e;rw[show N+(r+1)+1=(N+r+1)+1 by omega,bi,e];simp only[zG,be];exact H
theorem Ks {K:Nat}(u:K<=100)(z:gM w)(y:w.length<=100000):pJ w (K:Int)=O (match S K w []with
  |some (l,rest)=>(0,l,rest)
  |none=>(4,[],[])):=by
 unfold pJ;rw[ah,Zh];obtain⟨N,g⟩: ∃N,co=N+K+1:=⟨18446744073709551615-K,by unfold co;omega⟩
 rcases PL u K N w [] V2 z y with⟨p,d,e⟩|⟨d,E,D,e⟩
 .rw[g,e,d];simp only[zG];rw[zA V2,zD];unfold aj
  have A:p.2.length<=w.length:=by
   have: ∀(r:Nat) (w:Zd) (b:List Zd) (q:List (Zd)×Zd),S r w b=O q->q.2.length<=w.length:=by
    intro r;induction r with
    |zero=>intro w b q h;injection h with h;subst h;exact Nat.le_refl _
    |succ r C=>
     intro w b q h;cases w with
     |nil=>cases h
     |cons x t=>
      simp only[S]at h
      grind
   exact this _ _ _ _ d
  rw[bg V1 V1];rfl
 .rw[g,e,d];rfl
def WX (d:gM w)(b:hW w<=100000):pJ w 4=O (match aq0 w with
  |some (l,rest)=>(0,l,rest)
  |none=>(4,[],[])):=Ks (K:=4) V1 d b
theorem Ya {a0:Zd}(z:gM a0)(E:a0.length<=100000){n:Nat}(h:a0.drop n=x::t)(F:x<=(t.length:Int)):uB a0 (n:Int) 0 (a0.length:Int)=O (a0,((n+1+x.toNat:Nat):Int),0,t.take x.toNat):=by
 obtain⟨C,e,g,p⟩:=Dk h;have A:=(z x p).1;have y:t.length=a0.length-(n+1):=by rw[<-g,aB]
 unfold uB FP DH;rw[zA (show¬(0:Int)≠0 by simp),zD,zA (show¬(a0.length:Int)<=(n:Int)by omega),zD,ae (n:=(n:Int)+1) V1,ae (n:=(n:Int)+1-1) V1,show(n:Int)+1-1=(n:Int)by omega,e];simp only[zG];rw[zA (show¬(0:Int)≠0 by simp),zD,zA (show¬(a0.length:Int)<0 by omega),zD,AB V1,zA (show¬(a0.length:Int)<x by omega),zD];simp only[zG];rw[zA (show¬(0:Int)≠0 by simp),zD,ae (n:=(a0.length:Int)-((n:Int)+1)) V1,ae (n:=x) V1,zA (show¬(a0.length:Int)-((n:Int)+1)<x by omega),zD];have u:(t.take x.toNat).length=x.toNat:=by rw[cM];omega
 have d:am (sS a0 (x,a0,(n:Int)+1,0)) co (0,[])=O ([]++t.take x.toNat):=by
  refine br1 (l:=t.take x.toNat) [] V1 (λj D=> ?_) ?_
  .unfold sS;simp only;have r:j<t.length:=by omega
   have b:rd a0 ((n:Int)+1+(j:Int))=O t[j]:=by
    rw[show(n:Int)+1+(j:Int)=((n+1+j:Nat):Int)by omega,bt (show n+1+j<a0.length by omega)]
    grind
   rw[ah,Zg,ae (n:=(n:Int)+1+(j:Int)) V1,b];simp only[zG];rw[bg V3 V1,ae (n:=(j:Int)+1) V1,List.getElem_take];rfl
  unfold sS
  grind
 rw[d];simp only[zG,List.nil_append];rw[ae (n:=(n:Int)+1+x) V1,show((n+1+x.toNat:Nat):Int)=(n:Int)+1+x by omega]
def Wm {K:Nat}(H:K<=100){a0:Zd}(u:gM a0)(A:hW a0<=100000): ∀(r N n:Nat) (w:Zd) (out:List Zd),hW out+r=K->a0.drop n=w->n<=hW a0->
  (∃p,∃m:Nat,S r w out=O p/\am (iu a0 (K:Int)) (N+r+1) (a0,(n:Int),0,out)=O (.inr (a0,(m:Int),0,p.1))/\p.2=a0.drop m/\m<=hW a0)∨(S r w out=Y/\∃c,am (iu a0 (K:Int)) (N+r+1) (a0,(n:Int),0,out)=O (.inl c))
 |0,N,n,w,out,C,b,g=>by
  left;refine⟨_,n,rfl, ?_,b.symm,g⟩;rw[bi];unfold iu;simp only;rw[ah,Zh];rfl
 |r+1,N,n,[],out,C,b,g=>by
  right;have:=Oz b;refine⟨rfl,(a0,(n:Int),0), ?_⟩;rw[bi];unfold iu;simp only;rw[ah,Zg,ah,Zg];rfl
 |r+1,N,n,x::t,out,C,b,g=>by
  have⟨Q,E,y,F⟩:=Dk b;have V:=u x F;have J:hW t=hW a0-(n+1):=by rw[<-y,aB]
  have z:zH zJ (zH zI<|zH zI ((hW a0:Int)-(n:Int))-1)=(hW t:Int):=by
   have D:(hW a0:Int)-(n:Int)-1=(hW t:Int):=by omega
   rw[ae (n:=(hW a0:Int)-(n:Int)) V1,ae (n:=(hW a0:Int)-(n:Int)-1) V1,D,AB V1]
  have e:iu a0 (K:Int) (a0,(n:Int),0,out)=cond (Zc<|(hW out:Int)<(K:Int)) (cond (Zc<|(hW a0:Int)<=(n:Int)) (O<|.inr<|.inl (a0,(n:Int),0)) (im (rd a0 (n:Int)) λM=>cond (Zc<|zH zJ (zH zI<|zH zI ((hW a0:Int)-(n:Int))-1)<M) (O<|.inr<|.inl (a0,(n:Int),0))
    (im (uB a0 (n:Int) 0 (hW a0:Int)) λd=>gd (du (hW out+1) 24)<|O<|.inl (d.1,d.2.1,d.2.2.1,out++[d.2.2.2])))) (O<|.inr<|.inr (a0,(n:Int),0,out)):=rfl
  rw[zB (show(hW out:Int)<(K:Int)by omega),zC,zA (show¬(hW a0:Int)<=(n:Int)by omega),zD,E]at e;simp only[zG]at e;simp only[S];by_cases c:(hW t:Int)<x
  .right;rw[zE c];rw[zB (show zH zJ (zH zI<|zH zI ((hW a0:Int)-(n:Int))-1)<x by rw[z];exact c),zC]at e;refine⟨rfl,(a0,(n:Int),0), ?_⟩;rw[bi,e];rfl
  .rw[zF c];have I:a0.drop (n+1+hX x)=t.drop (hX x):=by rw[<-y,List.drop_drop]
   have L:=Wm H u A r N (n+1+hX x) (t.drop<|hX x) (out++[t.take<|hX x]) V3 I V1;rw[zA (show¬IntKind.u64.wrap (zH zI<|zH zI ((hW a0:Int)-(n:Int))-1)<x by rw[z];exact c),zD,Ya u A b V1]at e;simp only[zG]at e;rw[bg V1 V1]at e;rw[show N+(r+1)+1=(N+r+1)+1 by omega,bi,e];simp only[zG,be];exact L
def J6 {K:Nat}(r:K<=100)(y:gM w)(u:hW w<=100000):pI w (K:Int)=O (match S K w []with
  |some (l,rest)=>(rest,0,l)
  |none=>([],4,[])):=by
 unfold pI;rw[ah,Zh];obtain⟨N,e⟩: ∃N,co=N+K+1:=⟨18446744073709551615-K,by unfold co;omega⟩
 rcases Wm r y u K N 0 w [] V2 rfl (Nat.zero_le _)with⟨p,m,d,b,g,z⟩|⟨d,c,b⟩
 .have b:am (iu w (K:Int)) (N+K+1) (w,0,0,[])=_:=b;rw[e,b,d];simp only[zG,be];rw[Zk,bp,xZ,g]
 .have b:am (iu w (K:Int)) (N+K+1) (w,0,0,[])=_:=b;rw[e,b,d];rfl
def We (d:gM w)(b:hW w<=100000):pI w 4=O (match aq0 w with
  |some (l,rest)=>(rest,0,l)
  |none=>([],4,[])):=J6 (K:=4) V1 d b
theorem Lw (C:gM w){l:List<|Zd}(h:aq0 w=O (l,rest)): ∃e g p u,l=[e,g,p,u]/\(gM e/\hW e<=hW w)/\(gM g/\hW g<=hW w)/\(gM p/\hW p<=hW w)/\(gM u/\hW u<=hW w)/\hW rest<=hW w:=by
 have b: ∀(r:Nat) (w:Zd) (d:List Zd) (q:List (Zd)×Zd),gM w->S (r+1) w d=O q->∃y A,S r A (d++[y])=O q/\(gM y/\hW y<=hW w)/\gM A/\hW A<=hW w:=by
  intro r w d q C h;cases w with
  |nil=>cases h
  |cons x t=>
   simp only[S]at h
   grind
 have⟨e,Z,D,J,N,l1⟩:=b 3 w [] _ C h;have⟨g,w2,E,K,Q,l2⟩:=b 2 Z _ _ N D;have⟨p,w3,F,L,V,l3⟩:=b 1 w2 _ _ Q E;have⟨u,w4,z,M,u4,l4⟩:=b 0 w3 _ _ V F;injection z with z
 injection z with H I
 exact⟨e,g,p,u,H.symm,J,⟨K.1,V1⟩,⟨L.1,V1⟩,⟨M.1,V1⟩,by rw[<-I];omega⟩
def xq (h:0<=x/\x<=18446744073709551615):mb x=O (mm x):=by
 unfold mb mm;rw[Zi]
def Ah (h:0<=x/\x<=18446744073709551615):kW x=O (mm x):=by
 unfold kW mm;rw[ah];split
 .congr 1;omega
 rw[Zi];congr 1;omega
def aE9 (R:Int)(b:Zd)(Q:Int)(d:Zd):Int×List (Int×List bx):=
 if(jc b).1≠0∨bu (jc b).2 0≠O 0∨(jc d).1≠0∨bu (jc d).2 0≠O 0 then(6,[])else(0,[(mm R,(jc b).2),(mm Q,(jc d).2)])
theorem MK {b d:Zd}{R Q:Int}(A:gM b)(C:gM d)(J:hW b<=4000)(l1:hW d<=4000)(I:0<=R/\R<=18446744073709551615)(H:0<=Q/\Q<=18446744073709551615):
  qj [R,Q] [b,d]=O (aE9 R b Q d):=by
 have o0:=(GZ A J).len;have o1:=(GZ C l1).len;have⟨V,D⟩:=Bn (l:=(jc b).2) V1;have⟨Z,E⟩:=Bn (l:=(jc d).2) V1;unfold qj;obtain⟨N,F⟩: ∃N,co=N+1+1+1:=⟨18446744073709551613,rfl⟩
 have K:ip [R,Q] [b,d] (0,[])=O (if(jc b).1≠0 then .inr (.inl ())else if bu (jc b).2 0≠O 0 then .inr (.inl ())else .inl (1,[(mm R,(jc b).2)])):=by
  have y:rd [b,d] 0=O b:=rfl;have z:rd [R,Q] 0=O R:=rfl;unfold ip;simp only[ah];rw[zE V2,y,zG,If A V1,zG,D,zG,z,zG,xq I];by_cases e:(jc b).1≠0
  .rw[zE e,zE e]
  rw[zF e,zF e];by_cases g:bu (jc b).2 0=O 0
  .rw[zE g,zF V2,zF fu];rfl
  grind
 have L: ∀p,ip [R,Q] [b,d] (1,[p])=O (if(jc d).1≠0 then .inr (.inl ())else if bu (jc d).2 0≠O 0 then .inr (.inl ())else .inl (2,[p,(mm Q,(jc d).2)])):=by
  intro p;have y:rd [b,d] 1=O d:=rfl;have z:rd [R,Q] 1=O Q:=rfl;unfold ip;simp only[ah];rw[zE V2,y,zG,If C V1,zG,E,zG,z,zG,xq H];by_cases e:(jc d).1≠0
  .rw[zE e,zE e]
  rw[zF e,zF e];by_cases g:bu (jc d).2 0=O 0
  .rw[zE g,zF V2,zF fu];rfl
  grind
 have M: ∀p q,ip [R,Q] [b,d] (2,[p,q])=O (.inr<|.inr [p,q]):=λp q=>rfl
 unfold aE9;rw[F,bi,K];by_cases e:(jc b).1≠0
 .rw[zE e,zE<|.inl e];rfl
 rw[zF e];by_cases g:bu (jc b).2 0≠O 0
 .rw[zE g,zE<|.inr<|.inl g];rfl
 rw[zF g];simp only[zG,be];rw[bi,L];by_cases r:(jc d).1≠0
 .rw[zE r,zE<|.inr<|.inr<|.inl r];rfl
 rw[zF r];by_cases u:bu (jc d).2 0≠O 0
 .rw[zE u,zE<|.inr<|.inr<|.inr u];rfl
 rw[zF u,zF (by rintro(h|h|h|h)<;>contradiction)];simp only[zG,be];rw[bi,M];rfl
structure Hd where
 m:Int
 x:Zd
 t:Zd
 R:Int
 l:List bx
 Q:Int
 k:List bx
 n:Int
 b:Int
def Hd.chk (h:Hd):Int:=sK h.m (hW h.x) (hW h.t) h.R h.l h.Q h.k h.n h.b
def am1 (w b d e g:Zd):Hd:=⟨w.getD 0 0,e,g,mm<|w.getD 1 0,(jc b).2,mm<|w.getD 2 0,(jc d).2,if w.getD 0 0=2 then 0 else mm<|w.getD 3 0,mm<|w.getD 4 0⟩
def FE (w:Zd):Int⊕(Hd×Zd):=if hW w<5 then .inl 4 else match aq0 (w.drop 5)with
 |some ([b,d,e,g],rest)=>if w.getD 0 0<1∨3<w.getD 0 0 then .inl 5 else if(jc b).1≠0∨(jc d).1≠0 then .inl 6 else
  if(am1 w b d e g).chk≠0 then .inl (am1 w b d e g).chk else .inr (am1 w b d e g,rest)
 |_=> .inl 4
def bD9 :Int⊕(Hd×Zd)->Int×Int×(List bx)×Int×(List bx)×Int×Int×Int×Zd×Zd×Zd
 | .inl e=>(0,0,[],0,[],0,0,e,[],[],[])
 | .inr (h,rest)=>(h.m,h.R,h.l,h.Q,h.k,h.n,h.b,0,h.x,h.t,rest)
def bE1 :Int⊕(Hd×Zd)->Int×Zd×Zd×Int×Int×Int×Int×Zd×Int×(List bx)×List bx
 | .inl e=>(0,[],[],0,0,0,0,[],e,[],[])
 | .inr (h,rest)=>(h.m,h.x,h.t,h.R,h.Q,h.n,h.b,rest,0,h.l,h.k)
theorem gM.getD (h:gM w)(i:Nat):0<=w.getD i 0/\w.getD i 0<=18446744073709551615:=by
 rw[List.getD_eq_getElem?_getD];by_cases hi:i<hW w
 .rw[List.getElem?_eq_getElem hi];exact h _ (cK hi)
 grind
theorem aM9 {m:Int}(e:1<=m/\m<=3)(x t:Nat)(R:Int)(l:List bx)(Q:Int)(k:List bx)(n b:Int)(h:bu l 0≠O 0∨bu k 0≠O 0):sK m x t R l Q k n b=6:=by
 have d:hk0 m=0:=by
  unfold hk0;omega
 unfold sK;rw[d,zF V2]
 have:mU R l Q k=6:=by
  unfold mU JR JG
  grind
 rw[this,Zg]
def bh3 (h:5<=hW w):na w 1 3=[w.getD 1 0,w.getD 2 0]:=by
 match w,h with
 |a::b::c::d::e::r,_=>rfl
def Qw (e:gM w)(hl:w.length<=4000):sQ w=O (bD9<|FE w):=by
 unfold sQ FE;simp only[ah];by_cases D:w.length<5
 .rw[Zg,zE D];rfl
 rw[Zh,zF D,Zk,bp,show(5:Int)=((5:Nat):Int)from rfl,xZ,WX (e.drop 5) Z4];cases h:aq0 (w.drop 5)with
 |none=>rfl
 |some p=>
  obtain⟨l,rest⟩:=p;obtain⟨b,d,g,r,rfl,⟨F,l0⟩,⟨H,l1⟩,⟨u2,l2⟩,⟨u3,l3⟩,lr⟩:=Lw (e.drop 5) h;rw[aB]at l0 l1 l2 l3 lr;simp only[zG];rw[zF V2];have r0:rd w 0=O (w.getD 0 0):=rG (l:=w) (i:=0) V1;have r3:rd w 3=O (w.getD 3 0):=rG (l:=w) (i:=3) V1;have r4:rd w 4=O (w.getD 4 0):=rG (l:=w) (i:=4) V1;have g0:=e.getD 0;have I:=e.getD 1;have J:=e.getD 2;rw[r0];simp only[zG];by_cases A:w.getD 0 0<1
  .rw[zE A,zE<|.inl A];rfl
  rw[zF A];by_cases C:3<w.getD 0 0
  .rw[zE C,zE<|.inr C];rfl
  rw[zF C,Zh,Zk,bp,bh3 V1];have L:ix 0 [b,d,g,r].length=O 0:=rfl;have M:ix 1 [b,d,g,r].length=O 1:=rfl;have N:ix 2 [b,d,g,r].length=O 2:=rfl;have Q:ix 3 [b,d,g,r].length=O 3:=rfl;rw[L,M,N,Q];simp only[zG,cD,cB];rw[MK F H V1 V1 I J];simp only[zG];unfold aE9;have K:1<=w.getD 0 0/\w.getD 0 0<=3:=by omega
  by_cases u:(jc b).1≠0∨bu (jc b).2 0≠O 0∨(jc d).1≠0∨bu (jc d).2 0≠O 0
  .rw[zE u];by_cases z:(jc b).1≠0∨(jc d).1≠0
   .rw[zE z];rfl
   rw[zF z]
   have:(am1 w b d g r).chk=6:=aM9 K _ _ _ _ _ _ _ _ (by
    rcases u with c|c|c|c
    .exact(z<|.inl c).elim
    .exact .inl c
    .exact(z<|.inr c).elim
    exact .inr c)
   rw[this];rfl
  rw[zF u,zF (show¬((jc b).1≠0∨(jc d).1≠0)from λh=>h.elim (λh=>u<|.inl h)<|λh=>u<|.inr<|.inr<|.inl h)];simp only[zG];rw[zF V2];have V:ix 0 [(mm<|w.getD 1 0,(jc b).2),(mm<|w.getD 2 0,(jc d).2)].length=O 0:=rfl;have Z:ix 1 [(mm<|w.getD 1 0,(jc b).2),(mm<|w.getD 2 0,(jc d).2)].length=O 1:=rfl;rw[V,Z];simp only[zG,cD,cB];rw[r3,r4];unfold aj;simp only[zG];rw[bg V1 V1,bg V1 V1];simp only[zG];rw[xq<|e.getD 3,xq<|e.getD 4,ae (n:=w.getD 0 0) V1];simp only[zG];have y: ∀n,kU (w.getD 0 0) g r (mm<|w.getD 1 0) (jc b).2 (mm<|w.getD 2 0) (jc d).2 n (mm<|w.getD 4 0)=O (sK (w.getD 0 0) g.length r.length (mm<|w.getD 1 0) (jc b).2 (mm<|w.getD 2 0) (jc d).2 n<|mm<|w.getD 4 0):=λn=>EB (GZ F V1) (GZ H V1)
  unfold Hd.chk am1;simp only;by_cases E:w.getD 0 0=2
  .simp only[zE E,zG,y];split<;>rfl
  simp only[zF E,zG,y];split<;>rfl
def TM (b:gM w)(hl:w.length<=1500):qD w=O (bE1<|FE w):=by
 unfold qD FE;simp only[ah];by_cases F:w.length<5
 .rw[Zg,zE F];rfl
 rw[Zh,zF F,Zk,bp,show(5:Int)=((5:Nat):Int)from rfl,xZ,We (b.drop 5) Z4];cases h:aq0 (w.drop 5)with
 |none=>rfl
 |some p=>
  obtain⟨l,rest⟩:=p;obtain⟨d,e,g,r,rfl,⟨D,M⟩,⟨E,N⟩,⟨u2,Q⟩,⟨u3,V⟩,Z⟩:=Lw (b.drop 5) h;rw[aB]at M N Q V Z;simp only[zG];rw[zF V2];have r0:rd w 0=O (w.getD 0 0):=rG (l:=w) (i:=0) V1;have r1:rd w 1=O (w.getD 1 0):=rG (l:=w) (i:=1) V1;have r2:rd w 2=O (w.getD 2 0):=rG (l:=w) (i:=2) V1;have r3:rd w 3=O (w.getD 3 0):=rG (l:=w) (i:=3) V1;have r4:rd w 4=O (w.getD 4 0):=rG (l:=w) (i:=4) V1;have g0:=b.getD 0;rw[r0];simp only[zG];by_cases y:w.getD 0 0<1
  .rw[zE y,zE<|.inl y];rfl
  rw[zF y];by_cases z:3<w.getD 0 0
  .rw[zE z,zE<|.inr z];rfl
  rw[zF z,Zh];have I:ix 0 [d,e,g,r].length=O 0:=rfl;have J:ix 1 [d,e,g,r].length=O 1:=rfl;have K:ix 2 [d,e,g,r].length=O 2:=rfl;have L:ix 3 [d,e,g,r].length=O 3:=rfl;rw[I,J,K,L];simp only[zG,cD,cB];rw[J7 D V1,J7 E V1];simp only[zG];by_cases A:(jc d).1≠0
  .rw[zE A,zE<|.inl A];rfl
  rw[zF A];by_cases C:(jc e).1≠0
  .rw[zE C,zE<|.inr C];rfl
  rw[zF C,zF (by rintro(h|h)<;>contradiction),r1,r2,r3,r4];simp only[zG];rw[Ah<|b.getD 1,Ah<|b.getD 2,Ah<|b.getD 3,Ah<|b.getD 4,ae (n:=w.getD 0 0) V1];simp only[zG];have u: ∀n,mN (w.getD 0 0) g r (mm<|w.getD 1 0) (jc d).2 (mm<|w.getD 2 0) (jc e).2 n (mm<|w.getD 4 0)=O (sK (w.getD 0 0) g.length r.length (mm<|w.getD 1 0) (jc d).2 (mm<|w.getD 2 0) (jc e).2 n<|mm<|w.getD 4 0):=λn=>GK (GZ D V1) (GZ E V1) (bB (Nj D) V1) (bB (Nj E) V1)
  unfold Hd.chk am1;simp only;by_cases H:w.getD 0 0=2
  .simp only[zE H,zF (show¬w.getD 0 0≠2 by omega),zG,u];split<;>rfl
  simp only[zF H,zE (show w.getD 0 0≠2 by omega),zG,u];split<;>rfl
def U8 (z:gM w)(J:hW w<=1500){h:Hd}(b:FE w= .inr (h,rest)):OpsOk h.l/\OpsOk h.k/\hW h.l<=1500/\hW h.k<=1500/\gM h.x/\gM h.t:=by
 unfold FE at b;split at b
 .cases b
 split at b
 .rename_i K L M N r y;have⟨Q,V,Z,y3,d,⟨e,A⟩,⟨g,C⟩,⟨H,D⟩,⟨I,E⟩,F⟩:=Lw (z.drop 5) y;injection d with a1 d;injection d with a2 d;injection d with a3 d;injection d with a4 _
  subst a1;subst a2;subst a3;subst a4;rw[aB]at A C D E F;split at b
  .cases b
  split at b
  .cases b
  split at b
  .cases b
  injection b with b
  injection b with p u
  subst p;subst u;exact⟨GZ e V1,GZ g V1,bB (Nj e) V1,bB (Nj g) V1,H,I⟩
 cases b
def Tc (p:gM w)(g:hW w<=1500){h:Hd}(e:FE w= .inr (h,rest)):OpsOk h.l/\OpsOk h.k/\hW h.l<=1500/\hW h.k<=1500:=by
 have⟨a,b,c,d,_⟩:=U8 p g e;exact⟨a,b,c,d⟩
end
section
open Go.IntKind renaming wrap->zH,i64->zI,u64->zJ
open Int renaming tdiv->aB,tmod->aD,eq_ofNat_of_zero_le->cB,toNat_natCast->cD
open IntKind renaming bits->bB
open List renaming length_drop->bD,getElem?_eq_getElem->cK
open Nat renaming mod_eq_of_lt->cL
def av5 {a b:Nat}(e:a<18446744073709551616)(g:b<18446744073709551616):vz .u64 (· &&& ·) (a:Int) (b:Int)=((a&&& b:Nat):Int):=by
 unfold vz
 have d:(BitVec.ofInt (bB .u64) (a:Int)&&& BitVec.ofInt (bB .u64) (b:Int)).toNat=a&&& b:=by
  rw[BitVec.ofInt_natCast,BitVec.ofInt_natCast,BitVec.toNat_and,BitVec.toNat_ofNat,BitVec.toNat_ofNat];rw[show 2 ^ bB .u64=18446744073709551616 from rfl,cL e,cL g]
 show zH zJ _=_;rw[d,cb];have:a&&& b<=a:=Nat.and_le_left;omega
def ah9 (w:Zd)(i:Nat):Bool:=Zc<|hX (w.getD (i / 64) 0) / 2 ^ (i % 64) % 2=1
def ac7 (h:i<64*hW w):rd w ((i / 64:Nat):Int)=O (w.getD (i / 64) 0):=rG V1
theorem ae4 (b: ∀x∈w,0<=x/\x<=18446744073709551615)(j:Nat):0<=w.getD j 0/\w.getD j 0<=18446744073709551615:=by
 rcases Nat.lt_or_ge j (hW w) with h|h
 .rw[List.getD_eq_getElem?_getD,cK h];exact b _ (List.getElem_mem h)
 grind
theorem ai0 (y: ∀x∈w,0<=x/\x<=18446744073709551615)(h:i<64*hW w)(C:hW w<=2000){γ:Type}(G:Bool)(F:Int->Bool->Option γ):
  (im (rd w<|zH zI<|aB (zH zI<|(i:Int)-1+1) 64) λz=>gd (Zc<|0<=aD (zH zI<|(i:Int)-1+1) 64) (gd G (F (zH zI<|(i:Int)-1+1) (Zc ((vz .u64 (· &&& ·) (Int.fdiv z<|2 ^ (min (Int.toNat<|aD (zH zI<|(i:Int)-1+1) 64)<|bB .u64)) 1)=1)))))=gd G (F (i:Int)<|ah9 w i):=by
 have b:zH zI ((i:Int)-1+1)=(i:Int):=by
  rw[show(i:Int)-1+1=(i:Int)by omega,Zi]
 have d:zH zI (aB (i:Int) 64)=((i / 64:Nat):Int):=by
  rw[show aB (i:Int) 64=((i / 64:Nat):Int)from rfl,Zi]
 have e:aD (i:Int) 64=((i % 64:Nat):Int):=rfl;rw[b,d,e,ac7 h,zG];have⟨u,A⟩:=ae4 y<|i / 64;unfold ah9;generalize w.getD (i / 64) 0=x at*;obtain⟨x,rfl⟩:=cB u;rw[zB (show(0:Int)<=((i % 64:Nat):Int)by omega),bp]
 have g:min (Int.toNat ((i % 64:Nat):Int)) (bB .u64)=i % 64:=by
  show min (i % 64) 64=i % 64;omega
 rw[g]
 have p:Int.fdiv (x:Int) (2 ^ (i % 64))=((x / 2 ^ (i % 64):Nat):Int):=by
  grind
 have r:x / 2 ^ (i % 64)<18446744073709551616:=Nat.lt_of_le_of_lt (Nat.div_le_self _ _) V1;rw[p,show(1:Int)=((1:Nat):Int)from rfl,av5 r V5,Nat.and_one_is_mod,cD];have:Zc (((x / 2 ^ (i % 64) % 2:Nat):Int)=((1:Nat):Int))=Zc (x / 2 ^ (i % 64) % 2=1):=decide_eq_decide.2 V1;rw[this]
def vA (w:Zd)(n:Nat):List Bool:=(List.range n).map<|ah9 w
def N8 (w:Zd)(n:Nat):vA w (n+1)=vA w n++[ah9 w n]:=by
 unfold vA;rw[List.range_succ,List.map_append];rfl
def De (w:Zd)(n:Nat):hW (vA w n)=n:=by simp[vA]
theorem bg5 (g: ∀x∈w,0<=x/\x<=18446744073709551615){n:Nat}(h:n<=64*hW w)(e:hW w<=2000):am (nG (n:Int) w) co (0,(-1),[])=O ((n:Int)-1,vA w n):=by
 have:=cn (f:=nG (n:Int) w) (n:=n) (F:=λi=>((i:Int)-1,vA w i)) (c:=((n:Int)-1,vA w n)) V1 (λi hi=> ?_) ?_
 .exact this
 .unfold nG;simp only;rw[zB (show(i:Int)<(n:Int)by omega),zC];refine(ai0 g (i:=i) V1 e (γ:=(Int×Int×List Bool)⊕(Int×List Bool)) (du (hW (vA w i)+1) 1)<|λa b=>O<|Sum.inl (zH zI<|(i:Int)+1,a,vA w i++[b])).trans ?_;have d:hW (vA w i)=i:=De w i;rw[d,bg V1 V5,N8,Zi]
  grind
 unfold nG
 grind
theorem aP6 (p: ∀x∈w,0<=x/\x<=18446744073709551615)(i:Nat)(l:List Bool):am (po ((i:Int),l)) co (0,w.getD (i / 64) 0)=O ((hX (w.getD (i / 64) 0) / 2 ^ (i % 64):Nat):Int):=by
 have⟨g,r⟩:=ae4 p<|i / 64;generalize w.getD (i / 64) 0=x at*;obtain⟨x,rfl⟩:=cB g;rw[cD];have:=cn (f:=po ((i:Int),l)) (n:=i % 64) (F:=λk=>((x / 2 ^ k:Nat):Int)) (c:=((x / 2 ^ (i % 64):Nat):Int)) V1 (λk u=> ?_) ?_
 .rw[<-this];simp
 .unfold po;simp only;have e:aD (i:Int) 64=((i % 64:Nat):Int):=rfl;rw[e,zB (show(k:Int)<((i % 64:Nat):Int)by omega),zC]
  have b:zH zI ((k:Int)+1)=((k+1:Nat):Int):=by
   show zH zI _=_;rw[Zi];omega
  have d:zH zJ (aB ((x / 2 ^ k:Nat):Int) 2)=((x / 2 ^ (k+1):Nat):Int):=by
   show zH zJ _=_;rw[show aB ((x / 2 ^ k:Nat):Int) 2=((x / 2 ^ k / 2:Nat):Int)from rfl,Nat.div_div_eq_div_mul,show 2 ^ k*2=2 ^ (k+1)from rfl];have:x / 2 ^ (k+1)<=x:=Nat.div_le_self _ _;generalize x / 2 ^ (k+1)=z at this⊢;exact cb V1
  rw[b,d]
 unfold po
 grind
theorem bg6 (p: ∀x∈w,0<=x/\x<=18446744073709551615){n:Nat}(h:n<=64*hW w)(r:hW w<=2000):am (pp (n:Int) w) co (0,[])=O (vA w n):=by
 refine cn (f:=pp (n:Int) w) (n:=n) (F:=λi=>vA w i) V1 (λi hi=> ?_) ?_
 .unfold pp;simp only
  have d:zH zI (aB (i:Int) 64)=((i / 64:Nat):Int):=by
   show zH zI _=_;rw[show aB (i:Int) 64=((i / 64:Nat):Int)from rfl,Zi]
  rw[zB (show(i:Int)<(n:Int)by omega),zC,d,ac7 V1,zG,aP6 p,zG];have g:List.length (vA w i)=i:=De w i;rw[g,bg V1 V5,N8]
  have b:zH zI ((i:Int)+1)=((i+1:Nat):Int):=by
   show zH zI _=_;rw[Zi];omega
  have e:Zc (aD ((hX (w.getD (i / 64) 0) / 2 ^ (i % 64):Nat):Int) 2=1)=ah9 w i:=by
   unfold ah9
   grind
  rw[b,e]
 unfold pp
 grind
def XH (w:Zd):Option<|Zd×List Bool:=if hW w<5 then Y else match S 5 (w.drop 5) []with
 |none=>Y
 |some (l,rest)=>if w.getD 0 0=2 then(match rest with
  |[]=>Y
  |n::b=>if 64*(hW b:Int)<n then Y else O (l.getD 4 [],vA b<|hX n))else O (l.getD 4 [],[])
def SM (d:gM w){l:List<|Zd}(h:S 5 w []=O (l,rest)):hW l=5/\gM rest/\hW rest<=hW w:=by
 have: ∀(r:Nat) (w:Zd) (b:List Zd) (q:List (Zd)×Zd),gM w->S r w b=O q->hW q.1=hW b+r/\gM q.2/\hW q.2<=hW w:=by
  intro r;induction r with
  |zero=>intro w b q d h;cases h;exact⟨rfl,d,Nat.le_refl _⟩
  |succ r z=>
   intro w b q d h;cases w with
   |nil=>cases h
   |cons x t=>
    simp only[S]at h;split at h
    .cases h
    have⟨e,g,p⟩:=z _ _ _ (λy u=>d y (by simp[List.mem_of_mem_drop u])) h;rw[bD]at p;refine⟨by simp at e;omega,g,by simp;omega⟩
 have⟨e,g,p⟩:=this 5 w [] _ d h;exact⟨by simpa using e,g,p⟩
theorem al4 (M:gM w)(hl:hW w<=1500):tb w=O (match XH w with|some (c,b)=>(c,0,b)|none=>([],4,[])):=by
 unfold tb XH;by_cases E:hW w<5
 .rw[Zf,zC,zE E]
 rw[Ze,zD,zF E,Zk,bp];have g:na w 5 (hW w:Int)=w.drop 5:=xZ (n:=5);rw[g];have u:gM<|w.drop 5:=M.drop 5;have J:=Ks (K:=5) V1 u (by rw[bD];omega);refine ec J ?_;cases e:S 5 (w.drop 5) []with
 |none=>rfl
 |some p=>
  have⟨l,rest⟩:=p;have⟨Q,A,C⟩:=SM u e;rw[bD]at C;show cond (Zc<|(0:Int)≠0) _ _=_;rw[zA V2,zD]
  have z:rd w 0=O (w.getD 0 0):=by
   exact rG (l:=w) (i:=0) V1
  refine ec z ?_;have d: ∃y:4<hW l,l[4]=l.getD 4 []:=⟨V1,ZT⟩
  obtain⟨y,d⟩:=d;have H:ix 4 (hW l)=O 4:=bn (k:=4) V1;have F:l[4]?=O (l.getD 4 []):=by rw[cK y,d]
  by_cases D:w.getD 0 0=2
  .rw[zB D,zC];simp only[zE D];cases rest with
   |nil=>rfl
   |cons n b=>
    show cond (Zc<|((hW b+1:Nat):Int)=0) _ _=_;rw[Ze,zD];have I:hW b+1<=1500:=by simp at C;omega
    have r:ix 0 (hW b+1)=O 0:=bn (k:=0) V1;have hn:=A n V2;refine ec r ?_;refine ec (a:=n) rfl ?_;show cond (Zc<|zH zJ (zH zI<|64*zH zI (((hW b+1:Nat):Int)-1))<n) _ _=_
    have N:zH zJ (zH zI<|64*zH zI (((hW b+1:Nat):Int)-1))=64*(hW b:Int):=by
     rw[show((hW b+1:Nat):Int)-1=(hW b:Int)by omega,ae (n:=(hW b:Int)) V1,ae (n:=64*(hW b:Int)) V1];exact cb V1
    rw[N];by_cases c:64*(hW b:Int)<n
    .rw[zB c,zC];simp only[zE c]
    rw[zA c,zD];simp only[zF c];refine ec r ?_;refine ec (a:=n) rfl ?_;show gd (dz 1 ((hW b+1:Nat):Int)<|hW b+1) ((sw (zH zI n) _).bind _)=_;rw[Zk,bp,ae (n:=n) V1]
    have V:sw n (List.take (hX ((hW (n::b):Nat):Int)-1)<|List.drop 1<|n::b)=O (0,vA b<|hX n):=by
     have L:List.take (hX ((hW (n::b):Nat):Int)-1) (List.drop 1<|n::b)=b:=by
      grind
     rw[L];unfold sw;rw[Ze,zD,ae (n:=64*(hW b:Int)) V1,Ze,zD];have Z:=bg5 (w:=b) (λx y=>A x (by simp[y])) (n:=hX n) V1 V1
     grind
    grind
  grind
end
end Go.V
