/- A part of the proof. No condition. -/
import Derived.Test.YtlaofmfngnkldaaGreatL6
import Derived.Test.YtlaofmfngnkldaaGreatL5
set_option linter.all false
namespace Go.V
open Go.Ab
open Option renaming some->O,none->Z
open Bool renaming true->Za,false->Zb
open Decidable renaming decide->Zc
open List renaming mem_append->aF
open List renaming mem_cons->aA
open List renaming mem_flatMap->aL
open List renaming mem_map->aE
open List renaming mem_range->aH
open List renaming mem_singleton->aI
open List renaming length->b8
open Int renaming toNat->b9
open Option renaming bind->bA
variable {L i v:Nat}{ts:List Tm}{a b:Zd}{xs:List Du}{o:cg}{l:List cg}
set_option maxRecDepth 100000
section
open Int renaming toNat_natCast->bD
open List renaming replicate->aB,getElem_mem->aD,take_succ_eq_append_getElem->bB,cons_lt_cons_iff->cB,length_replicate->cD
def IF (M:List<|Zd×Int)(t:Tm):List<|Zd×Int:=lC (mT t.2) (IntKind.u64.wrap<|A0 M (mT t.2)+t.1) M
def aD6 {M:List<|Zd×Int}(h:MOk v M){t:Tm}(d:Fy v t.2):MOk v<|IF M t:=h.put d _
def aD5 (xs:List Du)(M:List<|Zd×Int)(t:Tm):yV (Xx xs<|IF M t)<|iI (Xx xs M)<|AU t.1<|Az xs t.2:=by
 have:=VE xs (mT t.2) t.1 M
 rwa [Bf]at this
def ak0 (M:List<|Zd×Int)(t:Tm):b8 (IF M t)<=b8 M+1:=SO
theorem SR {v:Nat}: ∀(ts:List Tm) {M:List<|Zd×Int},MOk v M->(∀t∈ts,Fy v t.2)->MOk v (ts.foldl IF M)/\(∀xs,yV (Xx xs<|ts.foldl IF M)<|iI (Xx xs M)<|ou xs ts)/\b8 (ts.foldl IF M)<=b8 M+b8 ts
 |[],M,h,_=>⟨h,λxs=> .of (EC _).symm,Nat.le_refl _⟩
 |t::ts,M,h,d=>by
  have⟨e,f,j⟩:=SR ts (aD6 h<|d t<|List.mem_cons_self ..) λq g=>d q (List.mem_cons_of_mem _ g)
  refine⟨e,λxs=>(f xs).trans ?_, ?_⟩
  .refine((aD5 xs M t).add<|.rfl' _).trans (.of ?_);rw[rA];rfl
  .have:=ak0 M t
   grind
theorem Mf {δ α:Type}{f:Int×Zd->Option ((Int×Zd)⊕δ)}(ts:List α)(g:List (Zd×Int)->α->List (Zd×Int))(c:Zd->δ)(hn:b8 ts<1000000000)(hs: ∀(k:Nat) (h:k<b8 ts) (t:Zd),∃m,f ((k:Int),t)=O (.inl (((k+1:Nat):Int),m))/\gZ m=g (gZ t) ts[k])
  (z: ∀t,f ((b8 ts:Int),t)=O (.inr<|c t)) (t0:Zd): ∃t,aq f fy (0,t0)=O (c t)/\gZ t=ts.foldl g (gZ t0):=by
 obtain⟨r,e,t,j,u⟩:=iB (f:=f) (a:=(0,t0)) (λs=> ∃k:Nat,s.1=(k:Int)/\k<=b8 ts/\gZ s.2=(ts.take k).foldl g (gZ t0)) (λs=>b8 ts-b9 s.1) (λr=> ∃t,r=c t/\gZ t=ts.foldl g (gZ t0)) ⟨0,rfl,Nat.zero_le _,rfl⟩ (by show b8 ts-_<_;omega) (by
  rintro⟨i,t⟩ ⟨k,q,w,p⟩;simp only at q p;subst q;rcases Nat.lt_or_ge k (b8 ts) with d|hge
  .obtain⟨m,e,j⟩:=hs k d t;refine .inl ⟨_,e,⟨k+1,rfl,d, ?_⟩, ?_⟩
   .rw[j,p,bB d,List.foldl_append];rfl
   omega
  .grind)
 exact⟨t,by rw[e,j],u⟩
def PR (v:Nat)(d:List Du->Du)(r:Int×Int×List Tm):Prop:=r.2.1=20∨(r.1=(v:Int)/\r.2.1=0/\TOk v r.2.2/\∀xs,b8 xs=v->yV (ou xs r.2.2) (d xs))
def Pw {t:Zd}(hv:v<=64)(h:MOk v<|gZ t)(e:b8 (gZ t)<=20000000){d:List Du->Du}(f: ∀xs,yV (Xx xs<|gZ t)<|d xs):
  ∃r,kI (v:Int) t=O r/\PR v d (r.1,r.2.1,r.2.2.2.2)/\(b8 (gZ t)<=4096->r.2.1=0):=by
 rw[SJ hv h e];have g:b8 ((gZ t).filter λp=>p.2 !=0)<=b8 (gZ t):=List.length_filter_le ..;split
 .exact⟨_,rfl, .inl rfl,λh=>by omega⟩
 .rename_i hc;exact⟨_,rfl, .inr ⟨rfl,rfl,at6 h V1,λxs _=>by rw[at5 xs h];exact f xs⟩,λ_=>rfl⟩
def Ix :gZ []=[]:=rfl
theorem E3 (hv:v<=64)(m: ∀t∈ts,Fy v t.2)(hl:b8 ts<=20000000): ∃r,px (v:Int) ts=O r/\PR v (λxs=>ou xs ts) r/\(b8 ts<=4096->r.2.1=0):=by
 obtain⟨t,g,e⟩:=Mf (f:=sK (v:Int) ts) ts IF (λt=> .inr t) V1 (λk j t=>by
  have⟨w,g,e⟩:=zM (c:=ts[k].1) (t:=t) hv<|m _<|aD j;refine⟨w, ?_,e⟩;simp only[sK];rw[Zf,zC,cz j,zG,FE hv<|m _<|aD j,zG,Bool.not_true,zD,g,zG,Zi]
  rfl) (λt=>by
  simp only[sK]
  grind) []
 rw[Ix]at e;have⟨p,q,s⟩:=SR ts (MOk.nil v) m;rw[<-e]at p q s;simp only[List.length_nil,Nat.zero_add]at s;have⟨r,u,z,A⟩:=Pw hv p V1 (d:=λxs=>ou xs ts) λxs=>(q xs).trans (.of<|uM _)
 unfold px lQ;rw[Ze,zD,Ze,zD,zG,g,zG,di,u]
 grind
def PR.zero {d:List Du->Du}{r:Int×Int×List Tm}(h:PR v d r)(e:r.2.1≠20):r.1=(v:Int)/\r.2.1=0/\TOk v r.2.2/\∀xs,b8 xs=v->yV (ou xs r.2.2) (d xs):=h.resolve_left e
def ab9 (v:Nat):Fy v<|aB v 0:=⟨cD,λn hn=>by rw[(List.mem_replicate.1 hn).2];omega⟩
def Mb (hv:v<=64)(c:Int): ∃r,sI (v:Int) c=O r/\r.2.1=0/\PR v (λ_=>(c,0)) r:=by
 have e:min (max (v:Int) 0) 64=(v:Int):=by omega
 have⟨r,m,p,q⟩:=E3 (ts:=[(c,aB v 0)]) hv (λt s=>by rw[aI.1 s];exact ab9 v) V2;have k:=q V2;unfold sI;rw[e,bD,m,Zf,Zf,Zf];refine⟨r,rfl,k, ?_⟩;have⟨d,f,g,j⟩:=p.zero V1;refine .inr ⟨d,f,g,λxs hx=>(j xs hx).trans<|.of ?_⟩;show iI (AU c<|Az xs<|aB v 0) (0,0)=_;rw[LY,EC];exact oQ Zw Zw
theorem aj4 (hv:v<=64)(hi:i<v): ∃r,Bv (v:Int) (i:Int)=O r/\r.2.1=0/\PR v (λxs=>xs.getD i (0,0)) r:=by
 have q:Fy v<|(aB v (0:Int)).set i 1:=⟨V2,λn hn=>by
  grind⟩
 have⟨r,k,m,p⟩:=E3 (ts:=[(1,(aB v 0).set i 1)]) hv (λt s=>by rw[aI.1 s];exact q) V2;have j:=p V2;unfold Bv;rw[Ze,zD,Ze,zD,Ze,zD,Ze,zD,bD,Zf,Zf,Zf,cD,bq hi,zG,List.getElem?_eq_getElem (by simpa using hi),zG,k];refine⟨r,rfl,j, ?_⟩;have⟨d,e,f,g⟩:=m.zero V1;refine .inr ⟨d,e,f,λxs hx=>(g xs hx).trans<|.of ?_⟩;show iI (AU 1<|Az xs<|(aB v 0).set i 1) (0,0)=_;rw[Wp xs v i hi hx.symm,EC];exact oQ Zw Zw
theorem af5 : ∀(p:Zd) {a b:Zd},p++a<p++b↔a<b
 |[],_,_=>Iff.rfl
 |x::p,a,b=>by
  show x::(p++a)<x::(p++b)↔_;rw[cB,af5 p]
  grind
theorem aa5 (h:i<b8 a):a=a.take i++a[i]::a.drop (i+1):=by
 simp_all
def Rw (x y:Int):oV x y=O (if x<y then-1 else if y<x then 1 else 0):=by
 unfold oV qX;simp only[ne_eq,not_true_eq_false,decide_false,zG,zD,ap]
 repeat' split
 all_goals rfl
theorem MB (hl:b8 a=b8 b)(hn:b8 a<1000000)(h:b<a): ∃r,jw a b=O r/\0<r:=by
 obtain⟨r,j,q,m,p⟩:=iB (f:=kF a b) (a:=0) (λs=> ∃k:Nat,s=(k:Int)/\k<=b8 a/\a.take k=b.take k) (λs=>b8 a-b9 s) (λr=> ∃q:Int,r= .inl q/\0<q) ⟨0,rfl,Nat.zero_le _,rfl⟩ (by show b8 a-_<_;omega) (by
  rintro s ⟨k,rfl,u,g⟩;rcases Nat.lt_or_ge k (b8 a) with d|hge
  .simp only[kF];rw[Zf,zC,cz d,zG,Ze,zD,cz (show k<(b8 b) by omega),zG,Rw,zG]
   have t:b[k]' V1<=a[k]:=by
    rcases Int.lt_or_le a[k] (b[k]' V1)with h4|h4
    .rw[aa5 d,aa5 (show k<(b8 b) by omega),g,af5,cB]at h;omega
    exact h4
   rw[Zh];by_cases e:b[k]' V1<a[k]
   .rw[zE e];exact .inr ⟨_,rfl,1,rfl,V1⟩
   rw[zF e];refine .inl ⟨((k+1:Nat):Int), ?_,⟨k+1,rfl,d, ?_⟩, ?_⟩
   .show O (Sum.inl<|IntKind.i64.wrap<|(k:Int)+1)=_;rw[Zi];rfl
   .rw[bB d,bB (show k<(b8 b) by omega),g,show a[k]=b[k]' V1 by omega]
   omega
  grind)
 unfold jw;rw[j,m];exact⟨q,rfl,p⟩
theorem pT (hv:v<=64)(h:TOk v ts):iT (v:Int) ts=O Za:=by
 have hl:=h.len
 have e:aq (qY (v:Int) ts) fy 0=O (.inr ()):=by
  refine rV (n:=b8 ts) V1 (λi hi=> ?_) ?_
  .obtain⟨k,s,g⟩:=h.ok _<|aD hi;simp only[qY];rw[Zf,zC,cz hi,zG,zA k,zD,FE hv g,zG,Bool.not_true,zD];by_cases j:(0:Int)<(i:Int)
   .rw[zB j,zC,Zi,show(i:Int)-1=((i-1:Nat):Int)by omega,cz (show i-1<(b8 ts) by omega),zG];have d:=(List.pairwise_iff_getElem.1 h.dec) (i-1) i V1 hi V1;have⟨p,q,f⟩:=h.ok _<|aD (show i-1<(b8 ts) by omega);have⟨r,m,t⟩:=MB (f.1.trans g.1.symm) (by have:=f.1;omega) d;rw[m,zG,Ze,zD,Zi];rfl
   rw[zA j,zD,Zi];rfl
  simp only[qY]
  grind
 unfold iT;rw[Ze,zD,Ze,zD,Ze,zD,e];rfl
end
section
open Go.IntKind renaming wrap->zH,i64->zI,u64->zJ
open Bool renaming not_true->aD
open List renaming zipWith->aB,getElem_mem->bB,length_map->bD,length_take->cB
def au8 {a b:List Tm}(m:b8 a<=4096)(p:b8 b<=4096):gv [a,b]=O (a++b):=by
 have j:aq (gV [a,b]) fy (0,0)=O ((b8 a+b8 b:Nat):Int):=by
  have:=iW (f:=gV [a,b]) (n:=2) (λi=>if i=0 then(0:Int)else if i=1 then(b8 a:Int)else((b8 a+b8 b:Nat):Int)) (c:=((b8 a+b8 b:Nat):Int)) V1 (λi hi=> ?_) ?_
  .exact this
  .have:i=0∨i=1:=by omega
   rcases this with rfl|rfl
   .show cond (Zc<|(0:Int)<2) (Option.bind (O a) _) _=_;rw[Zf,zC,zG];show cond (Zc<|zH zI (0+(b8 a:Int))<0) _ (O (Sum.inl (zH zI<|0+1,zH zI<|0+(b8 a:Int))):Option<|(Int×Int)⊕Int)=_;rw[ad (n:=0+(b8 a:Int)) V1,Ze,zD,Int.zero_add (b8 a:Int)];rfl
   show cond (Zc<|(1:Int)<2) (Option.bind (O b) _) _=_;rw[Zf,zC,zG];show cond (Zc<|zH zI ((b8 a:Int)+(b8 b:Int))<0) _ (O (Sum.inl (zH zI<|1+1,zH zI<|(b8 a:Int)+(b8 b:Int))):Option<|(Int×Int)⊕Int)=_;rw[ad (n:=(b8 a:Int)+(b8 b:Int)) V1,Ze,zD,<-Int.natCast_add];rfl
  rfl
 have e: ∀{f:Int×List Tm->Option ((Int×List Tm)⊕List Tm)},(∀(i:Int) (s:List Tm),f (i,s)=cond (Zc<|i<2) (bA (rd [a,b] i) λx=>gd (fS (List.length s+List.length x) 32)<|O<|.inl (zH zI<|i+1,s++x)) (O<|.inr s))->aq f fy (0,[])=O (a++b):=λ{f} d=>by
  have:=iW (f:=f) (n:=2) (λi=>if i=0 then []else if i=1 then a else a++b) (c:=a++b) V1 (λi hi=> ?_) ?_
  .exact this
  .have:i=0∨i=1:=by omega
   rcases this with rfl|rfl
   .rw[d,Zf,zC];show gd (fS (0+b8 a) 32) _=_;rw[bu V1 V1];rfl
   rw[d,Zf,zC];show gd (fS (b8 a+b8 b) 32) _=_;rw[bu V1 V1];rfl
  rw[d];rfl
 unfold gv;rw[j,zG,Ze,zD,Int.sub_zero,Zi];have k: ∀l:List Tm,l.take 0=[]:=λl=>rfl
 by_cases h:(0:Int)<((b8 a+b8 b:Nat):Int)
 .rw[zB h,zC,Int.toNat_natCast,List.length_replicate,bu (n:=0+(b8 a+b8 b)) V1 V1,Zk,dj]
  have g:jO 32 ((b8 a+b8 b:Nat):Int)=Za:=by
   unfold jO;simp only[Bool.and_eq_true,decide_eq_true_eq];omega
  rw[g,dj,k,e λi s=>rfl];rfl
 rw[zA h,zD,e λi s=>rfl];rfl
def TOk.eok (h:TOk v ts): ∀t∈ts,Fy v t.2:=λt d=>(h.ok t d).2.2
def PR.same {d f:List Du->Du}{r:Int×Int×List Tm}(h:PR v d r)(e: ∀xs,b8 xs=v->yV (d xs) (f xs)):PR v f r:=h.imp id λ⟨g,j,k,m⟩=>⟨g,j,k,λxs hx=>(m xs hx).trans<|e xs hx⟩
def SG {a b:List Tm}(hv:v<=64)(d:TOk v a)(e:TOk v b): ∃r,xJ (v:Int) a (v:Int) b=O r/\PR v (λxs=>iI (ou xs a)<|ou xs b) r:=by
 have k:=d.len;have m:=e.len;have⟨r,f,g,_⟩:=E3 (ts:=a++b) hv (λt j=>(aF.1 j).elim (d.eok t)<|e.eok t) (by rw[List.length_append];omega);unfold xJ;rw[pT hv d,zG,aD,zD,pT hv e,zG,aD,zD,zA V2,zD,au8 k m,zG,f];exact⟨r,rfl,g.same λxs _=> .of<|J6 xs a b⟩
theorem VF (xs:List Du): ∀ts:List Tm,yV (ou xs<|ts.map λt=>(zH zJ<|0-t.1,t.2)) (AU (-1)<|ou xs ts)
 |[]=> .of rfl
 |t::ts=>by
  refine((PK (FV<|0-t.1) _).add<|VF xs ts).trans<|.of ?_;exact oQ (by simp only[iI,AU,ou];grind) (by simp only[iI,AU,ou];grind)
theorem SI {a:List Tm}(hv:v<=64)(j:TOk v a): ∃r,xK (v:Int) a=O r/\PR v (λxs=>AU (-1)<|ou xs a) r/\r.2.1=0:=by
 have F:=j.len
 have hn: ∀t∈a.map (λt=>((zH zJ<|0-t.1,t.2):Tm)),Fy v t.2:=λt A=>by
  obtain⟨q,z,rfl⟩:=aE.1 A;exact j.eok q z
 obtain⟨t,m,g⟩:=Mf (f:=uV a) (a.map λt=>((zH zJ<|0-t.1,t.2):Tm)) IF (λt=>t) (by rw[bD];omega) (λk w t=>by
  have e:k<b8 a:=by simpa using w
  have⟨E,m,g⟩:=zM (c:=zH zJ<|0-a[k].1) (t:=t) hv<|j.eok _<|bB e;refine⟨E, ?_,by rw[g,List.getElem_map];rfl⟩;simp only[uV,FK];rw[Zf,zC,cz e,zG,zG,m,zG,Zi]
  rfl) (λt=>by
  simp only[uV]
  grind) []
 rw[Ix]at g;have⟨p,s,u⟩:=SR _ (MOk.nil v) hn;rw[<-g]at p s u;simp only[List.length_nil,Nat.zero_add,bD]at u;have⟨r,B,C,D⟩:=Pw hv p V1 (d:=λxs=>AU (-1)<|ou xs a) λxs=>((s xs).trans<|.of<|uM _).trans (VF xs a)
 unfold xK lQ;rw[pT hv j,zG,aD,zD,zG,m,zG,B];exact⟨_,rfl,C,D V1⟩
theorem aw8 {x y:Tm}{s:Int×Zd×Zd}(hv:v<=64)(hx:Fy v x.2)(hy:Fy v y.2)(hs:b8 s.2.2=v):aq (qI x y s) fy (0,s.2.2)=O (aB (· + ·) x.2 y.2):=by
 have d:=hx.1;have e:=hy.1;have k:b8 (aB (· + ·) x.2 y.2)=v:=by simp[d,e]
 have:=iW (f:=qI x y s) (n:=v) (λi=>(aB (· + ·) x.2 y.2).take i++s.2.2.drop i) (c:=aB (· + ·) x.2 y.2) V1 (λi hi=> ?_) ?_
 .simpa using this
 .have g:=hx.2 _<|bB (show i<(b8 x.2) by omega);have j:=hy.2 _<|bB (show i<(b8 y.2) by omega);simp only[qI];rw[Zf,zC,cz (show i<(b8 x.2) by omega),zG,cz (show i<(b8 y.2) by omega),zG]
  have hl:b8 ((aB (· + ·) x.2 y.2).take i++s.2.2.drop i)=v:=by
   grind
  rw[hl,bq hi,zG,List.getElem?_eq_getElem V1,zG,ad (n:=(i:Int)+1) V1,Zi]
  congr 3
  rw[List.take_succ_eq_append_getElem V1,List.getElem_zipWith,List.set_append,zF (by rw[cB];omega),cB,Nat.min_eq_left V1,Nat.sub_self,List.drop_eq_getElem_cons (show i<(b8 s.2.2) by omega),List.set_cons_zero,List.append_assoc];rfl
 simp only[qI]
 grind
end
section
open Bool renaming not_true->bB
open List renaming take_succ_eq_append_getElem->aB,zipWith->aD,flatMap_append->bD,flatMap_cons->cB,flatMap_singleton->cD,foldl_append->cV,getElem_mem->cW,mem_cons_of_mem->cX,mem_cons_self->cY
def YA (x y:Tm):Tm:=(IntKind.u64.wrap<|x.1*y.1,aD (· + ·) x.2 y.2)
def VG (xs:List Du){v:Nat}{x:Tm}(hx:Fy v x.2): ∀b:List Tm,(∀y∈b,Fy v y.2)->yV (ou xs<|b.map<|YA x) (jz (AU x.1<|Az xs x.2)<|ou xs b)
 |[],_=> .of (oQ aU aU)
 |y::b,h=>by
  have hy:=h y<|cY ..;have e:=VG xs hx b λz d=>h z (cX _ d)
  refine((PK (FV<|x.1*y.1) _).add e).trans<|.of ?_;show iI (AU _ (Az xs (aD (· + ·) x.2 y.2))) _=jz _ (iI _ _);rw[Wn xs x.2 y.2 (hx.1.trans hy.1.symm) (λn hn=>(hx.2 n hn).1) (λn hn=>(hy.2 n hn).1),ab0,av9]
def NY (xs:List Du){v:Nat}{b:List Tm}(d: ∀y∈b,Fy v y.2): ∀a:List Tm,(∀x∈a,Fy v x.2)->yV (ou xs<|a.flatMap λx=>b.map<|YA x) (jz (ou xs a)<|ou xs b)
 |[],_=> .of (oQ aU aU)
 |x::a,h=>by
  have f:=NY xs d a λz e=>h z (cX _ e)
  rw[cB,J6];refine((VG xs (h x<|cY ..) b d).add f).trans<|.of ?_;show _=jz (iI _ _) _;rw[YI]
section
variable {v:Nat} {a b:List Tm} (hv:v<=64)
include hv
theorem aA6 (w:TOk v b){x:Tm}(hx:Fy v x.2)(t0:Zd)(e0:Zd)(j:b8 e0=v):
  ∃c,aq (qJ (v:Int) b x) fy (0,t0,e0)=O c/\((∃q,c= .inl q)∨∃t e,c= .inr (t,e)/\b8 e=v/\(∀y∈b,Fy v (YA x y).2)/\gZ t=(b.map<|YA x).foldl IF (gZ t0)):=by
 have H:=w.len;refine iB (f:=qJ (v:Int) b x) (λs=> ∃k:Nat,s.1=(k:Int)/\k<=b8 b/\b8 s.2.2=v/\(∀y∈b.take k,Fy v (YA x y).2)/\gZ s.2.1=((b.take k).map<|YA x).foldl IF (gZ t0)) (λs=>b8 b-b9 s.1) _ ⟨0,rfl,Nat.zero_le _,j,λy hy=>(by cases hy),rfl⟩ (by show b8 b-_<_;omega) ?_;rintro⟨i,t,e⟩ ⟨k,z,C,g,p,u⟩;simp only at z g u;subst z;rcases Nat.lt_or_ge k (b8 b) with d|hge
 .have hy:=w.eok _<|cW d;have E:=hx.1;have F:=hy.1;simp only[qJ];rw[Zf,zC,cz d,zG,aw8 (s:=((k:Int),t,e)) hv hx hy g,zG,Md V4,zG];cases D:(Zc (b8 (aD (· + ·) x.2 b[k].2)=v)&& !rgB (aD (· + ·) x.2 b[k].2))with
  |false=>
   grind
  |true=>
   have r:=OM.1 D;have⟨I,A,B⟩:=zM (c:=IntKind.u64.wrap<|x.1*b[k].1) (t:=t) hv r;rw[bB,zD,A,zG,Zi];refine .inl ⟨_,rfl,⟨k+1,rfl,d,r.1,λy hy=> ?_, ?_⟩, ?_⟩
   .rw[aB d]at hy;rcases aF.1 hy with hy|hy
    .exact p y hy
    .rw[aI.1 hy];exact r
   .rw[aB d,List.map_append,cV,<-u];exact B
   omega
 .have m:k=b8 b:=by omega
  subst m;simp only[qJ]
  grind
theorem aA5 (u:TOk v a)(E:TOk v b): ∃c,aq (oH (v:Int) a b) fy (0,[],List.replicate v 0)=O c/\((∃q,c= .inl q)∨∃t e,c= .inr (t,e)/\(∀p∈(a.flatMap λx=>b.map<|YA x),Fy v p.2)/\gZ t=(a.flatMap λx=>b.map<|YA x).foldl IF []):=by
 have I:=u.len;refine iB (f:=oH (v:Int) a b) (λs=> ∃k:Nat,s.1=(k:Int)/\k<=b8 a/\b8 s.2.2=v/\(∀p∈((a.take k).flatMap λx=>b.map<|YA x),Fy v p.2)/\gZ s.2.1=((a.take k).flatMap λx=>b.map<|YA x).foldl IF []) (λs=>b8 a-b9 s.1) _ ⟨0,rfl,Nat.zero_le _,List.length_replicate,λy hy=>(by cases hy),rfl⟩ (by show b8 a-_<_;omega) ?_;rintro⟨i,t,e⟩ ⟨k,w,F,g,m,r⟩;simp only at w g r;subst w;rcases Nat.lt_or_ge k (b8 a) with d|hge
 .have hx:=u.eok _<|cW d;have⟨c,C,D⟩:=aA6 hv E hx t e g;simp only[oH];rw[Zf,zC,cz d,zG,C,zG];rcases D with⟨q,rfl⟩|⟨J,H,rfl,z,A,B⟩
  .rw[ll];exact .inr ⟨_,rfl, .inl ⟨_,rfl⟩⟩
  rw[di,Zi];refine .inl ⟨_,rfl,⟨k+1,rfl,d,z,λp hp=> ?_, ?_⟩, ?_⟩
  .rw[aB d,bD]at hp;rcases aF.1 hp with hp|hp
   .exact m p hp
   rw[cD]at hp;obtain⟨y,hy,rfl⟩:=aE.1 hp;exact A y hy
  .rw[aB d,bD,cV,<-r,cD];exact B
  omega
 have j:k=b8 a:=by omega
 subst j;simp only[oH]
 grind
theorem aj3 (f:TOk v a)(g:TOk v b): ∃r,Bu (v:Int) a (v:Int) b=O r/\PR v (λxs=>jz (ou xs a)<|ou xs b) r:=by
 have B:=f.len;have C:=g.len;have⟨c,w,z⟩:=aA5 hv f g;unfold Bu lQ;rw[pT hv f,zG,bB,zD,pT hv g,zG,bB,zD,zA V2,zD,zG,Zf,Zf,Zf,Int.toNat_natCast];show∃r,Option.bind (aq (oH (v:Int) a b) fy (0,[],List.replicate v 0)) _=O r/\_
 rw[w,zG];rcases z with⟨q,rfl⟩|⟨t,e,rfl,s,u⟩
 .rw[ll];exact⟨_,rfl, .inl rfl⟩
 have⟨k,m,p⟩:=SR _ (MOk.nil v) s;rw[<-u]at k m p
 have j:b8 (a.flatMap λx=>b.map<|YA x)<=4096*4096:=by
  have: ∀l:List Tm,b8 (l.flatMap λx=>b.map<|YA x)=b8 l*b8 b:=λl=>by
   induction l with
   |nil=>simp
   |cons x l A=>rw[cB,List.length_append,A,List.length_map,List.length_cons,Nat.succ_mul];omega
  rw[this];exact Nat.mul_le_mul B C
 simp only[List.length_nil,Nat.zero_add]at p;have⟨r,D,E,F⟩:=Pw hv k V1 (d:=λxs=>jz (ou xs a)<|ou xs b) λxs=>((m xs).trans<|.of<|uM _).trans (NY xs g.eok a f.eok)
 rw[di,D];exact⟨_,rfl,E⟩
end
end
section
open Int renaming pow_succ->aB,pow_zero->aD,one_mul->bD,toNat->cB,toNat_natCast->cV
open IntKind renaming bits->bB
open List renaming drop_eq_getElem_cons->cD,getElem_mem->cW
theorem au0 {n:Nat}(h:n<18446744073709551616):ru .u64 (· &&& ·) (n:Int) 1=((n % 2:Nat):Int):=by
 unfold ru
 have d:(BitVec.ofInt (bB .u64) (n:Int)).toNat=n:=by
  rw[BitVec.ofInt_natCast,BitVec.toNat_ofNat];exact Nat.mod_eq_of_lt h
 have e:(BitVec.ofInt (bB .u64) 1).toNat=1:=by decide
 rw[BitVec.toNat_and,d,e,Nat.and_one_is_mod,Zj]
def aj6 {x y:Int}(h:Cg x y): ∀n:Nat,Cg (x ^ n) (y ^ n)
 |0=>by rw[aD,aD];exact .rfl' _
 |n+1=>by rw[aB,aB];exact(aj6 h n).mul2 h
theorem an0 {a:Int}{n:Nat}(hn:n<=65535): ∃r,BA a (n:Int)=O r/\Cg r (a ^ n):=by
 obtain⟨r,q,t⟩:=iB (f:=Af) (a:=((n:Int),1,a)) (λs=> ∃m:Nat,s.1=(m:Int)/\m<=65535/\Cg (s.2.1*s.2.2 ^ m) (a ^ n)) (λs=>b9 s.1) (λr=>Cg r<|a ^ n) ⟨n,rfl,hn,by rw[bD];exact .rfl' _⟩ (by show cB _<_;rw[cV];omega) (by
  rintro⟨i,p,x⟩ ⟨m,j,u,g⟩;simp only at j g;subst j;simp only[Af]
  have k:Int.fdiv (m:Int) (2 ^ min (cB 1) (bB .u64))=((m / 2:Nat):Int):=by
   rw[show(2:Int) ^ min (cB 1) (bB .u64)=2 from rfl,Int.fdiv_eq_ediv_of_nonneg _ V1];rfl
  rw[k,au0 V1];by_cases w:m=0
  .simp_all
  rw[Zf,zC]
  have e:Cg (IntKind.u64.wrap (x*x) ^ (m / 2))<|x ^ (2*(m / 2)):=by
   refine(aj6 (FV<|x*x) _).trans ?_;rw[Int.pow_mul];have:x ^ 2=x*x:=by rw[aB,aB,aD,bD]
   rw[this];exact .rfl' _
  have d: ∀y z:Int,b9 (((m / 2:Nat):Int),y,z).1<b9 ((m:Int),p,x).1:=λy z=>by
   simp only[cV];omega
  by_cases ho:((m % 2:Nat):Int)=1
  .rw[zB ho,zC];refine .inl ⟨_,rfl,⟨m / 2,rfl,V1, ?_⟩,d _ _⟩;refine((FV<|p*x).mul2 e).trans (Cg.trans ?_ g)
   have:x ^ m=x*x ^ (2*(m / 2)):=by
    have:m=2*(m / 2)+1:=by omega
    conv=>lhs;rw[this]
    rw[aB,Int.mul_comm]
   rw[this,Int.mul_assoc];exact .rfl' _
  rw[zA ho,zD];refine .inl ⟨_,rfl,⟨m / 2,rfl,V1, ?_⟩,d _ _⟩;refine((Cg.rfl' p).mul2 e).trans<|Cg.trans ?_ g;rw[show 2*(m / 2)=m by omega]
  exact .rfl' _)
 unfold BA;rw[q];exact⟨r,rfl,t⟩
def GX (a:Du): ∀n,(tV a n).1=a.1 ^ n
 |0=>by rw[aD];rfl
 |n+1=>by
  show(tV a n).1*a.1=_;rw[GX a n,aB]
def OF {x:Zd}(hv:v<=64)(B:TOk v ts)(hx:b8 x=v)(q:xs.map (·.1)=x): ∃r,jJ (v:Int) ts x=O (r,0)/\Cg r (ou xs ts).1/\GJ r:=by
 have N:=B.len;have Q:b8 xs=v:=by have:=congrArg List.length q;simp at this;omega
 have C: ∀t∈ts,∃c,aq (pv x t) fy (0,t.1)=O c/\Cg c (t.1*(Az xs t.2).1):=λt M=>by
  have E:=B.eok t M;have K:=E.1;refine iB (f:=pv x t) (λs=> ∃k:Nat,s.1=(k:Int)/\k<=v/\Cg (s.2*(Az (xs.drop k)<|t.2.drop k).1) (t.1*(Az xs t.2).1)) (λs=>v-b9 s.1) _ ⟨0,rfl,Nat.zero_le _, .rfl' _⟩ (by show v-_<_;omega) ?_;rintro⟨i,c⟩ ⟨k,p,A,e⟩;simp only at p e;subst p;rcases Nat.lt_or_ge k v with d|hge
  .have hn:=E.2 _<|cW (show k<(b8 t.2) by omega);have z:x[k]' V1=(xs[k]' V1).1:=by simp[<-q]
   have j:(Az (xs.drop k)<|t.2.drop k).1=(xs[k]' V1).1 ^ (b9<|t.2[k]' V1)*(Az (xs.drop<|k+1)<|t.2.drop<|k+1).1:=by
    rw[cD (show k<(b8 xs) by omega),cD (show k<(b8 t.2) by omega)];show(tV _ _).1*_=_;rw[GX]
   have g:v-b9 ((k:Int)+1)<v-b9 (k:Int):=by
    omega
   simp only[pv];rw[Zf,zC,cz (show k<(b8 t.2) by omega),zG,ad (n:=(k:Int)+1) V1];by_cases D:0<t.2[k]' V1
   .obtain⟨r,u,w⟩:=an0 (a:=x[k]' V1) (n:=b9<|t.2[k]' V1) V1;rw[Int.toNat_of_nonneg V1]at u;rw[zB D,zC,cz (show k<(b8 x) by omega),zG,Zj,u,zG];refine .inl ⟨_,rfl,⟨k+1,rfl,d, ?_⟩,g⟩;refine(Cg.mul2 ((FV<|c*r).trans<|(Cg.rfl' c).mul2 w)<|.rfl' _).trans<|Cg.trans ?_ e;rw[j,z,Int.mul_assoc];exact .rfl' _
   rw[zA D,zD];refine .inl ⟨_,rfl,⟨k+1,rfl,d, ?_⟩,g⟩;refine Cg.trans ?_ e;rw[j,show(b9<|t.2[k]' V1)=0 by omega,aD,bD];exact .rfl' _
  have m:k=v:=by omega
  subst m;simp only[pv];rw[Ze,zD];refine .inr ⟨_,rfl, ?_⟩;rw[List.drop_eq_nil_of_le V1]at e;simpa[Az]using e
 obtain⟨r,u,w,J⟩:=iB (f:=sJ ts x) (a:=(0,0)) (λs=> ∃k:Nat,s.1=(k:Int)/\k<=b8 ts/\GJ s.2/\Cg (s.2+(ou xs<|ts.drop k).1) (ou xs ts).1) (λs=>b8 ts-b9 s.1) (λr=>Cg r (ou xs ts).1/\GJ r) ⟨0,rfl,Nat.zero_le _,by unfold GJ;omega,by rw[Int.zero_add];exact .rfl' _⟩ (by show b8 ts-_<_;omega) (by
  rintro⟨i,s⟩ ⟨k,p,A,F,e⟩;simp only at p e F;subst p;rcases Nat.lt_or_ge k (b8 ts) with d|hge
  .obtain⟨c,H,I⟩:=C _<|cW d;simp only[sJ];rw[Zf,zC,cz d,zG,H,zG,ad (n:=(k:Int)+1) V1];refine .inl ⟨_,rfl,⟨k+1,rfl,d,QD _, ?_⟩, ?_⟩
   .refine(Cg.add ((FV<|s+c).trans<|(Cg.rfl' s).add I)<|.rfl' _).trans (Cg.trans ?_ e);rw[cD d];show Cg _<|s+((ts[k].1*(Az xs ts[k].2).1)+(ou xs<|ts.drop<|k+1).1);rw[Int.add_assoc];exact .rfl' _
   omega
  have m:k=b8 ts:=by omega
  subst m;simp only[sJ];rw[Ze,zD];refine .inr ⟨_,rfl, ?_,F⟩;rw[List.drop_length]at e
  simpa[ou]using e)
 unfold jJ;rw[pT hv B,zG,Bool.not_true,zD,Ze,zD,u];exact⟨r,rfl,w,J⟩
end
section
open Go.IntKind renaming wrap->zH,i64->zI,u64->zJ
open Int renaming mul_zero->aB,zero_mul->aD,mul_assoc->bD
open List renaming map_map->bB,getElem?_eq_getElem->cB,getElem_mem->cD,length_cons->cV,map_cons->cW,eq_replicate_iff->cX,flatMap_cons->cY,getD_eq_getElem?_getD->cZ,mem_cons_of_mem->dA,mem_cons_self->dB,range_succ_eq_map->dC
def PM :Zd->Nat->List Du
 |[],_=>[]
 |x::xs,0=>(x,1)::xs.map λy=>(y,0)
 |x::xs,i+1=>(x,0)::PM xs i
def EF : ∀(x:Zd) (i:Nat),(PM x i).map (·.1)=x
 |[],_=>rfl
 |x::xs,0=>by
  show x::(xs.map λy=>(y,(0:Int))).map (·.1)=_;rw[bB]
  have: ∀l:Zd,l.map ((λp:Int×Int=>p.1)∘λy=>(y,(0:Int)))=l:=λl=>by
   induction l with
   |nil=>rfl
   |cons a l d=>rw[cW,d];rfl
  rw[this]
 |x::xs,i+1=>by
  show x::(PM xs i).map (·.1)=_;rw[EF xs i]
theorem VC : ∀(x:Zd) (i:Nat),(PM x i).map (·.2)=one1 (b8 x) i
 |[],_=>rfl
 |x::xs,0=>by
  unfold one1;rw[cV,dC,cW,bB];show(1:Int)::(xs.map λy=>(y,(0:Int))).map (·.2)=1::_;rw[bB]
  congr 1
  have d: ∀l:Zd,l.map ((λp:Int×Int=>p.2)∘λy=>(y,(0:Int)))=List.replicate (b8 l) 0:=λl=>by
   rw[cX]
   grind
  rw[d,eq_comm,cX]
  grind
 |x::xs,i+1=>by
  show(0:Int)::(PM xs i).map (·.2)=_;rw[VC xs i];unfold one1;rw[cV,dC,cW,bB]
  simp_all
def Uj (x:Int): ∀n,(tV (x,0) n).2=0
 |0=>rfl
 |n+1=>by
  show(tV (x,0) n).1*0+(tV (x,0) n).2*x=0;rw[Uj x n,aB,aD];rfl
theorem ab3 (x:Int): ∀n:Nat,(tV (x,1)<|n+1).2=((n+1:Nat):Int)*x ^ n
 |0=>by
  show(1:Int)*1+0*x=_;rw[Int.pow_zero];omega
 |n+1=>by
  show(tV (x,1)<|n+1).1*1+(tV (x,1)<|n+1).2*x=_;rw[ab3 x n,GX,Int.mul_one,bD,<-Int.pow_succ]
  grind
def aJ4 : ∀(x e:Zd),(Az (x.map λy=>(y,0)) e).2=0
 |[],e=>by cases e<;>rfl
 |x::xs,[]=>rfl
 |x::xs,n::e=>by
  show(tV (x,0)<|b9 n).1*(Az _ e).2+(tV (x,0)<|b9 n).2*(Az _ e).1=0;rw[aJ4 xs e,Uj,aB,aD];rfl
theorem Wo : ∀(x e:Zd) (i:Nat),b8 e=b8 x->i<b8 x->(∀n∈e,0<=n)->
  (Az (PM x i) e).2=if 0<e.getD i 0 then e.getD i 0*(Az (PM x i)<|e.set i<|e.getD i 0-1).1 else 0
 |[],_,_,_,h,_=>by simp at h
 |x::xs,[],_,h,_,_=>by simp at h
 |x::xs,n::e,0,h,_,hn=>by
  have p:=hn n<|dB ..;show(tV (x,1)<|b9 n).1*(Az _ e).2+(tV (x,1)<|b9 n).2*(Az _ e).1=if 0<n then n*((tV (x,1)<|b9<|n-1).1*(Az _ e).1)else 0
  rw[aJ4,aB,Int.zero_add];by_cases d:0<n
  .obtain⟨k,rfl⟩: ∃k:Nat,n=((k+1:Nat):Int):=⟨b9<|n-1,V1⟩
   rw[zE d,Int.toNat_natCast,ab3,show(b9<|((k+1:Nat):Int)-1)=k by omega,GX,bD]
  .rw[zF d,show b9 n=0 by omega];show 0*_=_;rw[aD]
 |x::xs,n::e,i+1,h,hi,hn=>by
  have j:=Wo xs e i V6 (by simpa using hi) λm g=>hn m (dA _ g)
  have f:(n::e).getD (i+1) 0=e.getD i 0:=by simp
  rw[f];show(tV (x,0)<|b9 n).1*(Az (PM xs i) e).2+(tV (x,0)<|b9 n).2*(Az (PM xs i) e).1=if 0<e.getD i 0 then e.getD i 0*((tV (x,0)<|b9 n).1*(Az (PM xs i)<|e.set i<|e.getD i 0-1).1)else 0
  rw[Uj,aD,Int.add_zero,j]
  grind
def dT (i:Nat)(t:Tm):List Tm:=if 0<t.2.getD i 0 then [(zH zJ<|t.1*zH zJ (t.2.getD i 0),t.2.set i<|t.2.getD i 0-1)]else []
def aI9 {t:Tm}(h:Fy v t.2)(hi:i<v): ∀q∈dT i t,Fy v q.2:=λq d=>by
 unfold dT at d;split at d
 .rename_i h0;rw[aI.1 d];refine⟨by simpa using h.1,λn hn=> ?_⟩;rcases List.mem_or_eq_of_mem_set hn with hn|hn
  .exact h.2 n hn
  .have hl:=h.1;have:=h.2 (t.2.getD i 0) (by rw[cZ,cB V1];exact cD _);omega
 .cases d
def ac1 {x:Zd}{i:Nat}(hi:i<b8 x): ∀ts:List Tm,(∀t∈ts,Fy (b8 x) t.2)->Cg (ou (PM x i)<|ts.flatMap<|dT i).1 (ou (PM x i) ts).2
 |[],_=> .rfl' _
 |t::ts,h=>by
  have d:=h t<|dB ..;have f:=ac1 hi ts λq e=>h q (dA _ e)
  have M:=Wo x t.2 i d.1 hi λn hn=>(d.2 n hn).1
  rw[cY,J6];refine Cg.add ?_ f;show Cg _<|t.1*(Az (PM x i) t.2).2;rw[M];unfold dT;split
  .show Cg (zH zJ (t.1*zH zJ (t.2.getD i 0))*_+0) _;rw[Int.add_zero,<-bD];exact((FV _).trans<|(FV<|t.2.getD i 0).mul' t.1).mul _
  .rw[aB];exact .rfl' _
theorem SH (hv:v<=64)(m:TOk v ts)(hi:i<v): ∃r,uT (v:Int) ts (i:Int)=O r/\r.2.1=0/\PR v (λxs=>ou xs<|ts.flatMap<|dT i) r:=by
 have Y:=m.len
 obtain⟨t,F,u⟩:=Mf (f:=qb ts (i:Int)) ts (λM t=>(dT i t).foldl IF M) (λt=>t) V1 (λk z t=>by
  have p:=m.eok _<|cD z;have J:=p.1;have j:ts[k].2.getD i 0=ts[k].2[i]' V1:=by rw[cZ,cB V1];rfl
  have V:=p.2 _<|cD (show i<(b8 ts[k].2) by omega);simp only[qb];rw[Zf,zC,cz z,zG,cz (show i<(b8 ts[k].2) by omega),zG,ad (n:=(k:Int)+1) V1];by_cases e:0<ts[k].2[i]' V1
  .have w:=aI9 p hi ((zH zJ<|ts[k].1*zH zJ (ts[k].2.getD i 0),ts[k].2.set i<|ts[k].2.getD i 0-1):Tm) (by unfold dT;rw[j,zE e];exact aI.2 rfl);rw[j]at w;have⟨U,D,E⟩:=zM (c:=zH zJ<|ts[k].1*zH zJ (ts[k].2[i]' V1)) (t:=t) hv w;refine⟨U, ?_, ?_⟩
   .rw[zB e,zC];unfold ak;simp only[bu (show(0+b8 ts[k].2)*8<=140737488355328 by omega) (show 1<=8 by omega),bq (show i<(b8 ts[k].2) by omega),zG,cB (show i<(b8 ts[k].2) by omega)];rw[Zi,D];rfl
   rw[E];unfold dT;rw[j,zE e];rfl
  .refine⟨t,by rw[zA e,zD];rfl, ?_⟩;unfold dT;rw[j,zF e]
   rfl) (λt=>by
  simp only[qb]
  grind) []
 rw[Ix,<-List.foldl_flatMap]at u
 have s: ∀q∈ts.flatMap (dT i),Fy v q.2:=λq K=>by
  have⟨t,H,I⟩:=aL.1 K;exact aI9 (m.eok t H) hi q I
 have g: ∀l:List Tm,b8 (l.flatMap<|dT i)<=b8 l:=λl=>by
  induction l with
  |nil=>simp
  |cons t l W=>
   rw[cY,List.length_append,cV];have:b8 (dT i t)<=1:=by unfold dT;split<;>simp
   omega
 have hl:=g ts;have⟨A,B,C⟩:=SR _ (MOk.nil v) s;rw[<-u]at A B C;simp only[List.length_nil,Nat.zero_add]at C;have⟨r,N,Q,S⟩:=Pw hv A V1 (d:=λxs=>ou xs<|ts.flatMap<|dT i) λxs=>(B xs).trans (.of<|uM _)
 unfold uT lQ;rw[pT hv m,zG,Bool.not_true,zD,Ze,zD,Ze,zD,zG,F,zG,N];exact⟨_,rfl,S V1,Q⟩
end
section
open Int renaming le_refl->aB,le_trans->aD
abbrev Pst :=Int×List Tm×Int
abbrev Ent :=(Int×Int×Int×Int)×Int×List Tm×Int
def Sy (kd v:Int)(X Y:Du):Du:=if kd=1 then iI X Y else if kd=2 then iI X (AU (-1) Y)else if kd=3 then jz X Y else if kd=4 then AU (-1) X else(v,0)
def yw (o:cg)(n m:Int):Int×Int×Int×Int:=if o.1=1∨o.1=2∨o.1=3 then(o.1,n,m,o.2.2.2.2)else if o.1=4 then(o.1,n,0,o.2.2.2.2)else(o.1,0,0,o.2.2.2.2)
def Rb (v:Nat)(P:Int->List Tm)(next:Int)(s:Pst):Prop:=s.1=(v:Int)/\TOk v s.2.1/\(1<=s.2.2/\s.2.2<=next)/\P s.2.2=s.2.1
structure BOk (v:Nat)(P:Int->List Tm)(next:Int)(known:List Ent):Prop where
 n:0<=next
 ent: ∀q∈known,(0<=q.1.2.1/\q.1.2.1<=next)/\(0<=q.1.2.2.1/\q.1.2.2.1<=next)/\Rb v P next q.2/\∀xs:List Du,b8 xs=v->yV (ou xs q.2.2.1) (Sy q.1.1 q.1.2.2.2 (ou xs<|P q.1.2.1)<|ou xs<|P q.1.2.2.1)
def Rb.mono {P P':Int->List Tm}{n d:Int}{s:Pst}(h:Rb v P n s)(hn:n<=d)(e: ∀k,k<=n->P' k=P k):Rb v P' d s:=⟨h.1,h.2.1,⟨h.2.2.1.1,aD h.2.2.1.2 hn⟩,by rw[e _ h.2.2.1.2,h.2.2.2]⟩
theorem SN {γ:Type}{f:γ->Bool}{p:γ}: ∀{l:List γ} {q:γ},q∈Ga f p l->q=p∨q∈l
 |[],q,h=> .inl (by simpa[Ga]using h)
 |a::l,q,h=>by
  unfold Ga at h;cases d:f a with
  |true=>
   grind
  |false=>
   rw[d,zD]at h;rcases aA.1 h with h|h
   .exact .inr (h▸List.mem_cons_self ..)
   .exact(SN h).imp id (List.mem_cons_of_mem _)
def Yz (o:cg)(X Y:Du):Du:=if o.1=6 then X else Sy o.1 o.2.2.2.2 X Y
def YC (v:Nat)(P:Int->List Tm)(next:Int)(o:cg)(x y:Pst)(r:Int×List Tm×Int×Int×Int×Int×List Ent):Prop:=
 r.2.2.2.1=20∨(r.2.2.2.1=0/\r.2.2.2.2.1=(v:Int)/\(next<=r.2.2.2.2.2.1/\r.2.2.2.2.2.1<=next+1)/\∃P':Int->List Tm,(∀k,k<=next->P' k=P k)/\BOk v P' r.2.2.2.2.2.1 r.2.2.2.2.2.2/\Rb v P' r.2.2.2.2.2.1 (r.1,r.2.1,r.2.2.1)/\∀xs:List Du,b8 xs=v->yV (ou xs r.2.1) (Yz o (ou xs x.2.1)<|ou xs y.2.1))
theorem ae0 {P:Int->List Tm}{next:Int}{x y:Pst}(hx:Rb v P next x)(hy:Rb v P next y)(xs:List Du):Sy (yw o x.2.2 y.2.2).1 (yw o x.2.2 y.2.2).2.2.2 (ou xs<|P (yw o x.2.2 y.2.2).2.1) (ou xs<|P (yw o x.2.2 y.2.2).2.2.1)=Sy o.1 o.2.2.2.2 (ou xs x.2.1) (ou xs y.2.1):=by
 have d:=hx.2.2.2;have e:=hy.2.2.2;unfold yw;split
 .simp only;rw[d,e]
 rename_i hk;split
 .rename_i h4;simp only;rw[d];unfold Sy
  grind
 rename_i h4;simp only;unfold Sy
 grind
theorem aQ7 {P:Int->List Tm}{next:Int}{known:List Ent}{x y:Pst}(hB:BOk v P next known)(hx:Rb v P next x)(hy:Rb v P next y)(s:o.1≠6){T:List Tm}(t:TOk v T)(j: ∀xs:List Du,b8 xs=v->yV (ou xs T) (Sy o.1 o.2.2.2.2 (ou xs x.2.1)<|ou xs y.2.1))(f:Ent->Bool)(w:Int)(u:w=(v:Int)):
  YC v P next o x y (w,T,next+1,0,(v:Int),next+1,Ga f (yw o x.2.2 y.2.2,(w,(T,next+1))) known):=by
 subst u;have e: ∀k,k<=next->(λk=>if k=next+1 then T else P k) k=P k:=λk d=>zF V1
 have z:=hx.2.2.1;have A:=hy.2.2.1;have hn:=hB.n;have g:Rb v (λk=>if k=next+1 then T else P k) (next+1) ((v:Int),T,next+1):=⟨rfl,t,⟨by show 1<=next+1;omega,aB _⟩,zE rfl⟩;refine .inr ⟨rfl,rfl,⟨by show next<=next+1;omega,aB _⟩,_,e,⟨by show 0<=next+1;omega,λq hq=> ?_⟩,g,λxs hl=>by unfold Yz;rw[zF s];exact j xs hl⟩
 have d:(0<=(yw o x.2.2 y.2.2).2.1/\(yw o x.2.2 y.2.2).2.1<=next)/\0<=(yw o x.2.2 y.2.2).2.2.1/\(yw o x.2.2 y.2.2).2.2.1<=next:=by
  unfold yw
  grind
 rcases SN hq with rfl|hq
 .refine⟨⟨d.1.1,aD d.1.2 Zm⟩,⟨d.2.1,aD d.2.2 Zm⟩,g,λxs hl=> ?_⟩;simp only;rw[Zh,Zh,ae0 hx hy xs];exact j xs hl
 .obtain⟨m,p,r,B⟩:=hB.ent q hq;refine⟨⟨m.1,by show _<=next+1;omega⟩,⟨p.1,by show _<=next+1;omega⟩,r.mono Zm e,λxs hl=> ?_⟩
  grind
section
variable {v:Nat} {P:Int->List Tm} {next:Int} {known:List Ent} {o:cg} {x y:Pst} (hv:v<=64) (hB:BOk v P next known) (hx:Rb v P next x) (hy:Rb v P next y) (ho:0<o.1/\o.1<7) (hV:Np o) (hn:next<4611686018427387904)
include hv hB hx hy ho hV hn
theorem au1 : ∃r,qg o.1 o.2.1 o.2.2.1 o.2.2.2.1 o.2.2.2.2 x.1 x.2.1 x.2.2 y.1 y.2.1 y.2.2 (v:Int) next known=O r/\YC v P next o x y r:=by
 have⟨d,s,k,p,g⟩:=o;have⟨xv,Q,j⟩:=x;have⟨yv,S,t⟩:=y;have⟨x1,E,x3,x4⟩:=hx;have⟨y1,M,y3,y4⟩:=hy;simp only at x1 E x3 x4 y1 M y3 y4 ho;unfold Np at hV;simp only at hV;subst x1 y1;have hx:Rb v P next ((v:Int),Q,j):=⟨rfl,E,x3,x4⟩
 have hy:Rb v P next ((v:Int),S,t):=⟨rfl,M,y3,y4⟩
 simp only;unfold qg;by_cases I:d=6
 .rw[zB I,zC];refine⟨_,rfl, .inr ⟨rfl,rfl,⟨aB _,by show next<=next+1;omega⟩,P,λ_ _=>rfl,hB,hx,λxs _=> .of ?_⟩⟩;unfold Yz;rw[zE I]
 rw[zA I,zD]
 have J:((bA ((cond (Zc<|d=1) (O Za)<|cond (Zc<|d=2) (O Za)<|O<|Zc<|d=3):Option Bool) λV=>cond V (O (d,j,t,g))<|cond (Zc<|d=4) (O (d,j,0,g))<|O (d,0,0,g)):Option<|Int×Int×Int×Int)=O (yw (d,s,k,p,g) j t):=by
  have:d=1∨d=2∨d=3∨d=4∨d=5:=by omega
  rcases this with h|h|h|h|h<;>(rw[h];rfl)
 refine(show∀{f:Int×Int×Int×Int->Option (Int×List Tm×Int×Int×Int×Int×List Ent)},(∃r,f (yw (d,s,k,p,g) j t)=O r/\YC v P next (d,s,k,p,g) ((v:Int),Q,j) ((v:Int),S,t) r)->∃r,Option.bind _ f=O r/\YC v P next (d,s,k,p,g) ((v:Int),Q,j) ((v:Int),S,t) r from λ{f} h=>by rw[J,zG];exact h) ?_
 have K:(-9223372036854775808<=(yw (d,s,k,p,g) j t).1/\(yw (d,s,k,p,g) j t).1<=9223372036854775807)/\(-9223372036854775808<=(yw (d,s,k,p,g) j t).2.1/\(yw (d,s,k,p,g) j t).2.1<=9223372036854775807)/\(-9223372036854775808<=(yw (d,s,k,p,g) j t).2.2.1/\(yw (d,s,k,p,g) j t).2.2.1<=9223372036854775807)/\0<=(yw (d,s,k,p,g) j t).2.2.2/\(yw (d,s,k,p,g) j t).2.2.2<=18446744073709551615:=by
  unfold yw
  grind
 have D:=λxs=>ae0 (o:=(d,s,k,p,g)) hx hy xs
 have e:=λ{T} hT hd f w hw=>aQ7 (o:=(d,s,k,p,g)) hB hx hy I (T:=T) hT hd f w hw
 simp only at D e;generalize yw (d,s,k,p,g) j t=κ at K D e;have⟨⟨k1,k2⟩,⟨k3,k4⟩,⟨k5,k6⟩,k7,k8⟩:=K;simp only[zB k1,zB k2,zB k3,zB k4,zB k5,zB k6,zB k7,zB k8,Bool.and_true,dj];cases Y:List.find? (λq:Ent=>Zc (q.1.1=κ.1)&&(Zc (q.1.2.1=κ.2.1)&&(Zc (q.1.2.2.1=κ.2.2.1)&&Zc (q.1.2.2.2=κ.2.2.2)))) known with
 |some q=>
  have hq:=List.mem_of_find?_eq_some Y;have hp:=List.find?_some Y;simp only[Bool.and_eq_true,decide_eq_true_eq]at hp;have⟨p1,p2,p3,p4⟩:=hp;have⟨B,H,z,A⟩:=hB.ent q hq;refine⟨_,rfl, .inr ⟨rfl,rfl,⟨aB _,by show next<=next+1;omega⟩,P,λ_ _=>rfl,hB,z,λxs hl=> ?_⟩⟩;have:=A xs hl;rw[p1,p2,p3,p4,D]at this;unfold Yz;rw[zF I];exact this
 |none=>
  have e20: ∀a:Int×Int×List Tm,YC v P next (d,s,k,p,g) ((v:Int),Q,j) ((v:Int),S,t) (0,[],0,20,(v:Int),next,known):=λ_=> .inl rfl
  simp only[aC6];by_cases F:d=1
  .rw[zB F,zC];have⟨r,C,u⟩:=SG hv E M;rw[C,zG];rcases u with u|⟨B,H,z,A⟩
   .rw[Zf,zC,u];exact⟨_,rfl, .inl rfl⟩
   rw[Ze,zD,Zi];refine⟨_,rfl,e z (λxs hl=>(A xs hl).trans<|.of ?_) _ _ B⟩;unfold Sy;rw[zE F]
  rw[zA F,zD];by_cases N:d=2
  .rw[zB N,zC];have⟨m,m1,m2,m3⟩:=SI hv M;have⟨n1,n2,n3,n4⟩:=m2.zero V1;have⟨r,C,u⟩:=SG hv E n3;rw[m1,zG,Ze,zD,n1,C,zG];rcases u with u|⟨B,H,z,A⟩
   .rw[Zf,zC,u];exact⟨_,rfl, .inl rfl⟩
   rw[Ze,zD,Zi];refine⟨_,rfl,e z (λxs hl=>(A xs hl).trans<|((yV.rfl' _).add<|n4 xs hl).trans<|.of ?_) _ _ B⟩;unfold Sy;rw[zF F,zE N]
  rw[zA N,zD];by_cases U:d=3
  .rw[zB U,zC];have⟨r,C,u⟩:=aj3 hv E M;rw[C,zG];rcases u with u|⟨B,H,z,A⟩
   .rw[Zf,zC,u];exact⟨_,rfl, .inl rfl⟩
   rw[Ze,zD,Zi];refine⟨_,rfl,e z (λxs hl=>(A xs hl).trans<|.of ?_) _ _ B⟩;unfold Sy;rw[zF F,zF N,zE U]
  rw[zA U,zD];by_cases W:d=4
  .rw[zB W,zC];have⟨r,C,u,h3⟩:=SI hv E;have⟨B,H,z,A⟩:=u.zero V1;rw[C,zG,Ze,zD,Zi];refine⟨_,rfl,e z (λxs hl=>(A xs hl).trans<|.of ?_) _ _ B⟩;unfold Sy
   grind
  rw[zA W,zD];have⟨r,C,h3,u⟩:=Mb hv g;have⟨B,H,z,A⟩:=u.zero V1;rw[C,zG,Ze,zD,Zi];refine⟨_,rfl,e z (λxs hl=>(A xs hl).trans<|.of ?_) _ _ B⟩;unfold Sy
  grind
end
end
section
open List renaming getElem?_eq_getElem->aB,getElem_mem->aD
def Mt (xs:List Du)(d:List<|List Tm)(s:Zd×Zd):Prop:=b8 s.1=b8 d/\b8 s.2=b8 d/\∀(i:Nat) (h:i<b8 d),yV (ou xs d[i]) (rg s.1 (i:Int),rg s.2 (i:Int))
def aM7 (ho:0<o.1/\o.1<7){X Y:Du}{x y dx g:Int}(d:yV X (x,dx))(e:yV Y (y,g)):yV (Yz o X Y) (app o x y,tn o x y dx g):=by
 have:o.1=1∨o.1=2∨o.1=3∨o.1=4∨o.1=5∨o.1=6:=by omega
 have f: ∀{a b:Int},Cg a b->Cg (-1*a) (IntKind.u64.wrap<|0-b):=λ{a b} h=>(h.mul'<|-1).trans (by rw[show-1*b=0-b by omega];exact(FV<|0-b).symm)
 rcases this with h|h|h|h|h|h
 .unfold Yz Sy app tn;simp only[h,if_true];exact⟨(d.1.add e.1).trans (FV _).symm,(d.2.add e.2).trans (FV _).symm⟩
 .unfold Yz Sy app tn;simp only[h];refine⟨(d.1.add<|e.1.mul'<|-1).trans ?_,(d.2.add<|f e.2).trans (FV _).symm⟩;show Cg (x+ -1*y)<|IntKind.u64.wrap<|x-y;rw[show x+ -1*y=x-y by omega];exact(FV _).symm
 .unfold Yz Sy app tn;simp only[h];exact⟨(d.1.mul2 e.1).trans (FV _).symm,(((d.1.mul2 e.2).trans (FV _).symm).add<|(d.2.mul2 e.1).trans (FV _).symm).trans (FV _).symm⟩
 .unfold Yz Sy app tn;simp only[h];exact⟨f d.1,f d.2⟩
 .unfold Yz Sy app tn;simp only[h];exact .rfl' _
 unfold Yz app tn;simp only[h];exact d
def Mt.step {d:List<|List Tm}{s:Zd×Zd}(h:Mt xs d s){kd ka kb:Nat}(ho:0<o.1/\o.1<7)(j:o.2.1=kd)(f:o.2.2.1=ka)(g:o.2.2.2.1=kb)(k:ka<b8 d)(m:kb<b8 d){T:List Tm}(r:yV (ou xs T)<|Yz o (ou xs d[ka])<|ou xs d[kb]):Mt xs (d.set kd T)<|yH o s:=by
 have⟨p,q,e⟩:=h;unfold yH;refine⟨by simp[p],by simp[q],λi hi=> ?_⟩;rw[List.length_set]at hi;rw[j,f,g,Int.toNat_natCast];by_cases t:i=kd
 .subst t;rw[zQ V1,zQ V1,List.getElem_set_self];exact r.trans (aM7 ho (e ka k)<|e kb m)
 rw[E4 V1,E4 V1,List.getElem_set_ne V1];exact e i hi
def MP (v n:Nat)(l:List<|Int×List Tm):Prop:=b8 l=n/\∀p∈l,p.1=(v:Int)/\TOk v p.2
section
variable {v n:Nat} {ops:List cg} {start:List<|Int×List Tm} (hv:v<=64) (hn:1<=n/\n<=64) (hs:MP v n start) (ho: ∀o∈ops,PZ n o/\(0<o.1/\o.1<7)/\Np o) (hl:b8 ops<=65536)
def IB (start:List<|Int×List Tm)(k:Nat):List Pst:=(List.range k).map λj=>((start.getD j (0,[])).1,(start.getD j (0,[])).2,(j:Int)+1)
include hn hs
theorem bb8 :aq (oi start) fy (0,0,0,[])=O ((v:Int),(n:Int),IB start n):=by
 have g:=hs.1;have:=iW (f:=oi start) (n:=n) (λi=>((if i=0 then 0 else(v:Int)),(i:Int),IB start i)) (c:=((v:Int),(n:Int),IB start n)) V1 (λi hi=> ?_) ?_
 .exact this
 .have e:=hs.2 _<|aD (show i<(b8 start) by omega);simp only[oi];rw[Zf,zC,cz (show i<(b8 start) by omega),zG];have d:b8 (IB start i)=i:=by unfold IB;simp
  rw[bu V1 V1,Zi,Zh,e.1]
  have:IB start (i+1)=IB start i++[((v:Int),(start[i]' V1).2,(i:Int)+1)]:=by
   unfold IB;rw[List.range_succ,List.map_append]
   grind
  rw[this];rfl
 simp only[oi]
 grind
include hv ho hl
theorem bb9 : ∃c,aq (oj ops) fy (0,0,[],(v:Int),(n:Int),IB start n)=O c/\(c.1=20∨(c.1=0/\b8 c.2.2.2.2=n/\(∃P next,∀s∈c.2.2.2.2,Rb v P next s)/\∀xs:List Du,b8 xs=v->∀s,Mt xs (start.map (·.2)) s->Mt xs (c.2.2.2.2.map (·.2.1)) (pn yH ops s))):=by
 have F:=hs.1;refine iB (f:=oj ops) (λs=> ∃k:Nat,s.1=(k:Int)/\k<=b8 ops/\s.2.1=0/\s.2.2.2.1=(v:Int)/\s.2.2.2.2.1<=(n:Int)+k/\b8 s.2.2.2.2.2=n/\(∃P,BOk v P s.2.2.2.2.1 s.2.2.1/\∀q∈s.2.2.2.2.2,Rb v P s.2.2.2.2.1 q)/\∀xs:List Du,b8 xs=v->∀z,Mt xs (start.map (·.2)) z->Mt xs (s.2.2.2.2.2.map (·.2.1)) (pn yH (ops.take k) z)) (λs=>b8 ops-b9 s.1) _ ?_ (by show b8 ops-_<_;omega) ?_
 .have p:(IB start n).map (·.2.1)=start.map (·.2):=by
   refine List.ext_getElem (by unfold IB;simp[F]) λi h1 S=> ?_
   have hi:i<b8 start:=by simpa using S
   unfold IB;simp[aB hi]
  refine⟨0,rfl,Nat.zero_le _,rfl,rfl,by show(n:Int)<=_;omega,by unfold IB;simp,⟨λk=>(start.getD (b9<|k-1) (0,[])).2,⟨by show(0:Int)<=n;omega,λq g=>by cases g⟩,λq g=> ?_⟩,λxs _ z u=>by rw[p];exact u⟩;obtain⟨j,I,rfl⟩:=aE.1 g;have I:=aH.1 I;have J:=hs.2 _<|aD (show j<(b8 start) by omega);have H:start.getD j (0,[])=start[j]' V1:=by rw[List.getD_eq_getElem?_getD,aB V1];rfl
  refine⟨by rw[H];exact J.1,by rw[H];exact J.2,⟨by show 1<=(j:Int)+1;omega,by show(j:Int)+1<=n;omega⟩, ?_⟩
  grind
 rintro⟨i,e,known,w,next,regs⟩ ⟨k,hk,hle,he,hw,hnx,hrl,⟨P,hB,hS⟩,hM⟩;simp only at hk he hw hnx hrl hB hS hM;subst hk he hw;rcases Nat.lt_or_ge k (b8 ops) with d|hge
 .obtain⟨D,m,hV⟩:=ho _<|aD d;have⟨kd,ka,kb,A,B,C,M,N,Q⟩:=zt D;have sa:=hS _<|aD (show ka<(b8 regs) by omega);have sb:=hS _<|aD (show kb<(b8 regs) by omega);have⟨r,K,t⟩:=au1 hv hB sa sb m hV V1;simp only[oj];rw[Zf,zC,cz d,zG,A,B,C,hrl,bq N,zG,aB V1,zG,bq Q,zG,aB V1,zG];rw[A,B,C]at K;rw[K,zG,bq M,zG,aB V1,zG];rcases t with t|⟨t,r3,r4,P',V,W,Y,q4⟩
  .rw[Zf,zC];exact .inr ⟨_,rfl, .inl t⟩
  rw[Ze,zD,Zi];refine .inl ⟨_,rfl,⟨k+1,rfl,d,t,r3,by show r.2.2.2.2.2.1<=(n:Int)+((k+1:Nat):Int);omega,by simpa using hrl,⟨P',W,λq g=> ?_⟩,λxs hx z u=> ?_⟩, ?_⟩
  .rcases List.mem_or_eq_of_mem_set g with g|rfl
   .exact(hS q g).mono r4.1 V
   exact Y
  .have U:=hM xs hx z u;rw[List.take_succ_eq_append_getElem d,EN,List.map_set];refine U.step (kd:=kd) (ka:=ka) (kb:=kb) m A B C V4 V4 ?_
   grind
  omega
 have E:k=b8 ops:=by omega
 subst E;simp only[oj];rw[Ze,zD];refine .inr ⟨_,rfl, .inr ⟨rfl,hrl,⟨P,next,hS⟩,λxs hx z u=> ?_⟩⟩
 grind
omit hs ho hl in
theorem bc0 {c:Int×List Ent×Int×Int×List Pst}(A:b8 c.2.2.2.2=n){P:Int->List Tm}{next:Int}(I: ∀s∈c.2.2.2.2,Rb v P next s):
  ∃r,aq (ol c) fy (0,c.2.1,c.2.2.1,c.2.2.2.1,c.2.2.2.2,[])=O r/\MP v n r.2.2.2.2/\∀xs:List Du,b8 xs=v->∀z,Mt xs (c.2.2.2.2.map (·.2.1)) z->Mt xs (r.2.2.2.2.map (·.2)) z:=by
 obtain⟨r,F,h2,g,H⟩:=iB (f:=ol c) (a:=(0,c.2.1,c.2.2.1,c.2.2.2.1,c.2.2.2.2,[])) (λs=> ∃k:Nat,s.1=(k:Int)/\k<=n/\s.2.2.2.2.1=c.2.2.2.2/\b8 s.2.2.2.2.2=k/\∀(j:Nat) (h:j<b8 s.2.2.2.2.2) (w:j<b8 c.2.2.2.2),s.2.2.2.2.2[j].1=(v:Int)/\TOk v s.2.2.2.2.2[j].2/\∀xs:List Du,b8 xs=v->yV (ou xs s.2.2.2.2.2[j].2) (ou xs c.2.2.2.2[j].2.1)) (λs=>n-b9 s.1) (λr=>r.2.2.2.1=c.2.2.2.2/\b8 r.2.2.2.2=n/\∀(j:Nat) (h:j<b8 r.2.2.2.2) (w:j<b8 c.2.2.2.2),r.2.2.2.2[j].1=(v:Int)/\TOk v r.2.2.2.2[j].2/\∀xs:List Du,b8 xs=v->yV (ou xs r.2.2.2.2[j].2) (ou xs c.2.2.2.2[j].2.1)) ⟨0,rfl,Nat.zero_le _,rfl,rfl,λj h=>by simp at h⟩ (by show n-_<_;omega) (by
  rintro⟨i,x1,x2,x3,D,E⟩ ⟨k,B,J,C,d,u⟩;simp only at B C d u;subst B C;rcases Nat.lt_or_ge k n with t|hge
  .have e:=I _<|aD (show k<(b8 c.2.2.2.2) by omega);have⟨r,V,W,Y⟩:=E3 hv e.2.1.eok (by have:=e.2.1.len;omega);have⟨g1,g2,g3,g4⟩:=W.zero (by have:=Y e.2.1.len;omega);simp only[ol];rw[Zf,zC,bq (show k<(b8 c.2.2.2.2) by omega),zG,aB V1,zG,e.1,V,zG,bu V1 V1,Zi];refine .inl ⟨_,rfl,⟨k+1,rfl,t,rfl,aQ,λj h w=> ?_⟩, ?_⟩
   .simp only at h⊢
    grind
   omega
  .have q:k=n:=by omega
   subst q;simp only[ol]
   simp_all)
 refine⟨r,F,⟨g,λp K=> ?_⟩,λxs hx z M=> ?_⟩
 .obtain⟨j,hj,rfl⟩:=List.getElem_of_mem K
  grind
 .obtain⟨Q,S,U⟩:=M;refine⟨by simpa[g,A]using Q,by simpa[g,A]using S,λi hi=> ?_⟩;have m:i<b8 r.2.2.2.2:=by simpa using hi
  have⟨_,_,N⟩:=H i m V1;have:=U i V4;rw[List.getElem_map]at this⊢;exact(N xs hx).trans this
theorem U8 : ∃r,wZ ops start=O r/\(r.1=20∨(r.1=0/\MP v n r.2/\∀xs:List Du,b8 xs=v->∀s,Mt xs (start.map (·.2)) s->Mt xs (r.2.map (·.2)) (pn yH ops s))):=by
 have⟨c,e,d⟩:=bb9 hv hn hs ho hl;unfold wZ;rw[bb8 hn hs,zG,e,zG];rcases d with d|⟨d,f,⟨P,next,g⟩,p⟩
 .rw[Zf,zC];exact⟨_,rfl, .inl d⟩
 have⟨r,j,k,m⟩:=bc0 hv hn (c:=c) f g
 simp_all
end
end
section
open List renaming length_append->aB,replicate->aD,getElem_mem->bB,length_replicate->bD
def aD4 {R:Int}{f:Fo}(h:Prg R l f): ∀o∈f.unroll,PZ (b9 R) o/\(0<o.1/\o.1<7)/\Np o:=λo ho=>by
 have⟨d,e⟩:=uI f h.ok o ho;rw[h.src]at d;exact⟨h.regs o d e,e,h.ops.v o d⟩
theorem OT {R:Int}{f:Fo}(hv:v<=64)(h:Prg R l f){start:List<|Int×List Tm}(hs:MP v (b9 R) start):
  ∃r,pB R l start=O r/\(r.1=20∨(r.1=0/\MP v (b9 R) r.2/\∀xs:List Du,b8 xs=v->∀s,Mt xs (start.map (·.2)) s->Mt xs (r.2.map (·.2)) (pn yH f.unroll s))):=by
 have q:=h.R1;have j:=hs.1
 have d:aq (pe start) fy 0=O (.inr ()):=by
  refine rV (n:=b8 start) V1 (λi hi=> ?_) ?_
  .obtain⟨k,m⟩:=hs.2 _<|bB hi;have⟨p,_⟩:=hs.2 _<|bB (show 0<(b8 start) by omega);simp only[pe];rw[Zf,zC,cz hi,zG,k,pT hv m,zG,Bool.not_true,zD,show(0:Int)=((0:Nat):Int)from rfl,cz (show 0<(b8 start) by omega),zG,p,zA V2,zD,Zi];rfl
  .simp only[pe]
   grind
 have⟨r,e,g⟩:=U8 (ops:=f.unroll) hv (n:=b9 R) V1 hs (aD4 h) (by rw[h.ulen.1];exact h.n);unfold pB;rw[RK h,zG,zA V2,zD,Ze,zD,d,zG,di,e];exact⟨_,rfl,g⟩
theorem Hf (hv:v<=64)(l:Zd)(hl:b8 l<=64): ∃r,pq (v:Int) l=O r/\MP v (b8 l) r/\∀xs:List Du,b8 xs=v->Mt xs (r.map (·.2)) (l,aD (b8 l) 0):=by
 obtain⟨r,C,g,D⟩:=iB (f:=pa (v:Int) l) (a:=(0,[])) (λs=> ∃k:Nat,s.1=(k:Int)/\k<=b8 l/\b8 s.2=k/\∀(j:Nat) (h:j<b8 s.2) (u:j<b8 l),s.2[j].1=(v:Int)/\TOk v s.2[j].2/\∀xs:List Du,b8 xs=v->yV (ou xs s.2[j].2) (l[j],0)) (λs=>b8 l-b9 s.1) (λr=>b8 r=b8 l/\∀(j:Nat) (h:j<b8 r) (u:j<b8 l),r[j].1=(v:Int)/\TOk v r[j].2/\∀xs:List Du,b8 xs=v->yV (ou xs r[j].2) (l[j],0)) ⟨0,rfl,Nat.zero_le _,rfl,λj h=>by simp at h⟩ (by show b8 l-_<_;omega) (by
  rintro⟨i,z⟩ ⟨k,w,E,d,t⟩;simp only at w d t;subst w;rcases Nat.lt_or_ge k (b8 l) with e|hge
  .obtain⟨r,I,U,J⟩:=Mb hv l[k];have⟨K,M,N,Q⟩:=J.zero V1;simp only[pa];rw[Zf,zC,cz e,zG,I,zG,bu V1 V1,Zi];refine .inl ⟨_,rfl,⟨k+1,rfl,e,aQ,λj h u=> ?_⟩, ?_⟩
   .simp only at h⊢
    grind
   omega
  have q:k=b8 l:=by omega
  subst q;simp only[pa]
  grind)
 unfold pq;rw[C];refine⟨r,rfl,⟨g,λp F=> ?_⟩,λxs hx=>⟨aY,aY,λi hi=> ?_⟩⟩
 .obtain⟨j,S,rfl⟩:=List.getElem_of_mem F
  grind
 have m:i<b8 r:=by simpa using hi
 have⟨_,_,H⟩:=D i m V1;rw[List.getElem_map];refine(H xs hx).trans (.of ?_)
 have A:rg l (i:Int)=l[i]' V1:=by
  unfold rg
  grind
 have B:rg (aD (b8 l) 0) (i:Int)=0:=am7 _ _;rw[A,B]
theorem Mo (h:i<b8 a):rg (a++b) (i:Int)=rg a (i:Int):=by
 unfold rg
 grind
theorem Hu (h:b8 a<=i):rg (a++b) (i:Int)=rg b ((i-b8 a:Nat):Int):=by
 unfold rg
 grind
theorem Mt.app {p q:List<|List Tm}{c d:Zd}(h:Mt xs p (a,b))(k:Mt xs q (c,d)):Mt xs (p++q) (a++c,b++d):=by
 have⟨e,f,g⟩:=h;have⟨j,m,r⟩:=k;simp only at e f g j m r;refine⟨by simp[e,j],by simp[f,m],λi hi=> ?_⟩;by_cases hl:i<b8 p
 .rw[List.getElem_append_left hl];simp only;rw[Mo V1,Mo V1];exact g i hl
 rw[List.getElem_append_right V1];simp only;rw[Hu V1,Hu V1,e,f]
 grind
theorem Mt.take {p:List<|List Tm}{s:Zd×Zd}(h:Mt xs p s)(n:Nat):Mt xs (p.take n) (s.1.take n,s.2.take n):=by
 have⟨f,g,j⟩:=h;refine⟨by simp[f],aY,λi hi=> ?_⟩;have d:i<n/\i<b8 p:=by rw[List.length_take]at hi;omega
 rw[List.getElem_take]
 have e: ∀l:Zd,rg (l.take n) (i:Int)=rg l (i:Int):=λl=>by
  unfold rg
  grind
 simp only[e];exact j i d.2
def MP.app {m n:Nat}{a b:List<|Int×List Tm}(h:MP v m a)(k:MP v n b):MP v (m+n)<|a++b:=⟨by rw[aB,h.1,k.1],λp d=>(aF.1 d).elim (h.2 p)<|k.2 p⟩
theorem aa2 {k nt nm:Nat}{R:Int}{j g more:List<|Int×List Tm}(hv:v<=64)(A:MP v k j)(B:MP v nt g)(C:MP v nm more)(V:R<=64)(hl:(k:Int)+nt+nm<=R):
  ∃r,ku R l more j g (v:Int)=O (j,g,(v:Int),r)/\MP v (b9 R) r/\∀xs:List Du,b8 xs=v->∀a b c d e f,Mt xs (j.map (·.2)) (a,b)->Mt xs (g.map (·.2)) (c,d)->Mt xs (more.map (·.2)) (e,f)->Mt xs (r.map (·.2)) (fill R<|a++(c++e),fill R<|b++(d++f)):=by
 have u:=A.1;have w:=B.1;have E:=C.1;have m:b8 (j++g++more)=k+nt+nm:=by rw[aB,aB,u,w,E]
 have H:IntKind.i64.wrap (R-(b8 (j++g++more):Int))=((b9 R-(k+nt+nm):Nat):Int):=by rw[m,Zi];omega
 have⟨z,S,t,D⟩:=Hf hv (aD (b9 R-(k+nt+nm)) 0) (by rw[bD];omega);have U:=t.1;rw[bD]at t D U;refine⟨j++g++more++z, ?_, ?_, ?_⟩
 .unfold ku;have p:IntKind.i64.wrap (R-(b8 (([]:List<|Int×List Tm)++j++g++more):Int))=((b9 R-(k+nt+nm):Nat):Int):=H;have q:b8 (([]:List<|Int×List Tm)++j++g++more)=k+nt+nm:=m;have s:b8 (([]:List<|Int×List Tm)++j)=k:=u;have F:b8 (([]:List<|Int×List Tm)++j++g)=k+nt:=by rw[aB,s,w]
  rw[bu V1 V1,bu V1 V1,bu V1 V1,zB (by rw[p];omega),Zf,zB (by rw[p];omega),p,Int.toNat_natCast,S];show gd Za (Option.bind (O z) _)=_;rw[dj,zG,bu V1 V1];rfl
 .have:=((A.app B).app C).app t
  grind
 .intro xs hx a b c d e f m1 m2 m3;have W:=(((m1.app m2).app m3).app<|D xs hx);have I:=m1.1;have J:=m1.2.1;have K:=m2.1;have M:=m2.2.1;have N:=m3.1;have Q:=m3.2.1;simp only[List.length_map]at I J K M N Q;unfold fill
  grind
end
section
open Int renaming toNat_natCast->aB
open List renaming replicate->aD,getD_eq_getElem?_getD->bB,getElem_map->bD,getElem?_eq_getElem->cB,length_drop->cD,length_replicate->cV,length_take->cW,mem_of_mem_take->cX
def aN7 (l:List cg): ∀(r d:Zd) (k:Nat),(pn yH l (r,d)).1=(pn JT l (r,k)).1:=by
 induction l with
 |nil=>intro r d k;rfl
 |cons o l e=>intro r d k;exact e _ _ _
def VO (f:Fo)(r d:Zd):pn yH f.unroll (r,d)=(Hx f r,Nv f r d):=by
 unfold Hx Nv;rw[<-aN7 f.unroll r d 0]
section
variable {c:Cx} (h:c.Ok)
include h
theorem aQ4 (m:L<=40):yY c.R c.l c.Q c.k (b8 c.X) (aD (b8 c.T) 0) (L:Int)=O 0:=by
 have⟨e,f⟩:=EO h.hc;have r:=h.hl.len;have s:=h.hk.len;have⟨⟨g,j⟩,q,p,u,w,t⟩:=h.lens
 have d:vm c.R c.l c.Q c.k (b8 c.X) (aD (b8 c.T) 0)=O (.inr (c.R,c.Q,(b8 c.X:Int),c.l,c.k,aD (b8 c.T) 0)):=by
  unfold vm;rw[Lg h.hl h.hk,e,zG,zA V2,zD,Lf,cV,f,zG,zA V2,zD];unfold uO dv ak;rw[bu V1 V1,zG,zG,bu V1 V1,zG,zG,cV,bu V1 V1];rfl
 unfold yY;rw[d,zG,di,Ze,zD,Ze,zD]
theorem Yu {s0:Int×List cg×Int×List cg×Zd}: ∃rs,aq (jH (b8 c.X:Int) (b8 c.T:Int)) fy (0,s0.1,s0.2.1,s0.2.2.1,s0.2.2.2.1,s0.2.2.2.2,((b8 c.X+b8 c.T:Nat):Int),[])=O (s0.1,s0.2.1,s0.2.2.1,s0.2.2.2.1,s0.2.2.2.2,((b8 c.X+b8 c.T:Nat):Int),rs)/\
  MP (b8 c.X+b8 c.T) (b8 c.X+b8 c.T) rs/\∀xs:List Du,b8 xs=b8 c.X+b8 c.T->Mt xs (rs.map (·.2)) (xs.map (·.1),xs.map (·.2)):=by
 have⟨⟨M,N⟩,Y,W,x1,x2,t2⟩:=h.lens;have H:IntKind.i64.wrap ((b8 c.X:Int)+(b8 c.T:Int))=((b8 c.X+b8 c.T:Nat):Int):=by rw[Zi];omega
 generalize hv:b8 c.X+b8 c.T=v at*;have g:v<=64:=by omega
 obtain⟨r,B,rs,C,m,D⟩:=iB (f:=jH (b8 c.X:Int) (b8 c.T:Int)) (a:=(0,s0.1,s0.2.1,s0.2.2.1,s0.2.2.2.1,s0.2.2.2.2,(v:Int),[])) (λs=> ∃k:Nat,∃d:List<|Int×List Tm,s=((k:Int),s0.1,s0.2.1,s0.2.2.1,s0.2.2.2.1,s0.2.2.2.2,(v:Int),d)/\k<=v/\b8 d=k/\∀(j:Nat) (h:j<b8 d),d[j].1=(v:Int)/\TOk v d[j].2/\∀xs:List Du,b8 xs=v->yV (ou xs d[j].2) (xs.getD j (0,0))) (λs=>v-b9 s.1) (λr=> ∃d:List<|Int×List Tm,r=(s0.1,s0.2.1,s0.2.2.1,s0.2.2.2.1,s0.2.2.2.2,(v:Int),d)/\b8 d=v/\∀(j:Nat) (h:j<b8 d),d[j].1=(v:Int)/\TOk v d[j].2/\∀xs:List Du,b8 xs=v->yV (ou xs d[j].2) (xs.getD j (0,0))) ⟨0,[],rfl,Nat.zero_le _,rfl,λj h=>by simp at h⟩ (by show v-_<_;omega) (by
  rintro _ ⟨k,d,rfl,E,q,A⟩;rcases Nat.lt_or_ge k v with e|hge
  .obtain⟨r,J,r3,K⟩:=aj4 g e;have⟨Q,S,U,V⟩:=K.zero V1;simp only[jH];rw[H,Zf,zC,J,zG,bu V1 V1,ad (n:=(k:Int)+1) V1];refine .inl ⟨_,rfl,⟨k+1,_,rfl,e,by simp[q],λj h=> ?_⟩, ?_⟩
   .by_cases w:j<b8 d
    .rw[List.getElem_append_left w];exact A j w
    grind
   omega
  .have z:k=v:=by omega
   subst z;simp only[jH]
   simp_all)
 subst C;refine⟨rs,B,⟨m,λp F=> ?_⟩,λxs hx=>⟨by simp[m,hx],by simp[m,hx],λi hi=> ?_⟩⟩
 .obtain⟨j,w,rfl⟩:=List.getElem_of_mem F
  grind
 .have t:i<b8 rs:=by simpa using hi
  have⟨_,_,I⟩:=D i t;rw[bD];refine(I xs hx).trans<|.of ?_;have u:i<b8 xs:=by omega
  rw[bB,cB u,Option.getD_some];unfold rg
  grind
def QT (c:Cx)(xs:List Du):Zd:=(xs.map (·.2)).take<|b8 c.X
def HM (c:Cx)(xs:List Du):Zd:=(xs.map (·.2)).drop<|b8 c.X
theorem U3 (hL:L<=40){e0:Zd}{j d:List<|Int×List Tm}(hn:MP (b8 c.X+b8 c.T) (b8 c.X) j)(F:MP (b8 c.X+b8 c.T) (b8 c.T) d)
  (C: ∀xs:List Du,b8 xs=b8 c.X+b8 c.T->xs.map (·.1)=c.X++c.T->Mt xs (j.map (·.2)) (c.X,QT c xs)/\Mt xs (d.map (·.2)) (c.T,HM c xs)):
  ∃r,aq (jI (b8 c.X:Int) (L:Int)) fy (0,0,c.R,c.l,c.Q,c.k,e0,((b8 c.X+b8 c.T:Nat):Int),j,d)=O r/\
   (r.1=20∨∃g,r=(0,c.R,c.l,c.Q,c.k,e0,((b8 c.X+b8 c.T:Nat):Int),g,d)/\MP (b8 c.X+b8 c.T) (b8 c.X) g/\∀xs:List Du,b8 xs=b8 c.X+b8 c.T->xs.map (·.1)=c.X++c.T->Mt xs (g.map (·.2)) (jr c L,Kl c (QT c xs) (HM c xs) L)):=by
 have⟨⟨a1,a2⟩,hR,hQ,x1,x2,t2⟩:=h.lens;generalize hv:b8 c.X+b8 c.T=v at*;have e:v<=64:=by omega
 refine iB (f:=jI (b8 c.X:Int) (L:Int)) (λs=> ∃k:Nat,∃u,s=((k:Int),0,c.R,c.l,c.Q,c.k,e0,(v:Int),u,d)/\k<=L/\MP v (b8 c.X) u/\∀xs:List Du,b8 xs=v->xs.map (·.1)=c.X++c.T->Mt xs (u.map (·.2)) (jr c k,Kl c (QT c xs) (HM c xs) k)) (λs=>L-b9 s.1) _ ⟨0,j,rfl,Nat.zero_le _,hn,λxs hx t=>(C xs hx t).1⟩ (by show L-_<_;omega) ?_;rintro _ ⟨k,u,rfl,H,B,I⟩;rcases Nat.lt_or_ge k L with A|hge
 .obtain⟨z,z1,z2,z3⟩:=Hf e [IntKind.u64.wrap (k:Int)] V2;have⟨r,W,Y,r3⟩:=aa2 (l:=c.l) (R:=c.R) e B F z2 V1 (by simp only[List.length_singleton];omega);have⟨q,U,m⟩:=OT e h.pl Y;simp only[jI];rw[Zf,zC,z1,zG,W,zG,U,zG];rcases m with m|⟨m,E,V⟩
  .rw[Zf,zC];exact .inr ⟨_,rfl, .inl m⟩
  .have K:=E.1;rw[Ze,zD,Zk,dj,ad (n:=(k:Int)+1) V1,m];refine .inl ⟨_,rfl,⟨k+1,q.2.take<|b8 c.X, ?_,A,⟨by rw[cW];omega,λp J=>E.2 p<|cX J⟩,λxs hx t=> ?_⟩, ?_⟩
   .simp only[aB,Nat.sub_zero,List.drop_zero];rfl
   .have M:=I xs hx t;have N:=(C xs hx t).2;have S:=V xs hx _<|r3 xs hx _ _ _ _ _ _ M N<|z3 xs hx;have D:=S.take<|b8 c.X;rw[VO,<-List.map_take]at D;rw[HD];exact D
   omega
 .have w:k=L:=by omega
  subst w;simp only[jI]
  grind
theorem Xm (u:L<=40): ∃r,oZ c.R c.l c.Q c.k (b8 c.X:Int) (b8 c.T:Int) (L:Int)=O r/\
  (r.2.2=20∨(r.2.2=0/\r.1=((b8 c.X+b8 c.T:Nat):Int)/\TOk (b8 c.X+b8 c.T) r.2.1/\∀xs:List Du,b8 xs=b8 c.X+b8 c.T->xs.map (·.1)=c.X++c.T->yV (ou xs r.2.1) (lossV c<|jr c L,Hc c (jr c L) (Kl c (QT c xs) (HM c xs) L)<|HM c xs))):=by
 have⟨⟨a1,a2⟩,hR,hQ,x1,x2,t2⟩:=h.lens;have⟨e,W,t,Y⟩:=Yu h (s0:=(c.R,c.l,c.Q,c.k,aD (b8 c.T) 0));have K:IntKind.i64.wrap ((b8 c.X:Int)+(b8 c.T:Int))=((b8 c.X+b8 c.T:Nat):Int):=by rw[Zi];omega
 have d:=t.1;have hn:MP (b8 c.X+b8 c.T) (b8 c.X)<|e.take<|b8 c.X:=⟨by rw[cW];omega,λp g=>t.2 p<|cX g⟩;have A:MP (b8 c.X+b8 c.T) (b8 c.T)<|e.drop<|b8 c.X:=⟨by rw[cD];omega,λp g=>t.2 p<|List.mem_of_mem_drop g⟩
 have z: ∀xs:List Du,b8 xs=b8 c.X+b8 c.T->xs.map (·.1)=c.X++c.T->Mt xs ((e.take<|b8 c.X).map (·.2)) (c.X,QT c xs)/\Mt xs ((e.drop<|b8 c.X).map (·.2)) (c.T,HM c xs):=λxs hx f=>by
  have m:=Y xs hx;refine⟨?_, ?_⟩
  .have:=m.take<|b8 c.X;rw[<-List.map_take]at this;simp only[f,List.take_left']at this;exact this
  .obtain⟨m1,m2,j⟩:=m;refine⟨aQ,by unfold HM;simp[d,hx],λi hi=> ?_⟩;have I:i<b8 c.T:=by simpa[d]using hi
   have:=j (b8 c.X+i) (by simp[d];omega);rw[bD]at this;rw[bD,List.getElem_drop];refine this.trans<|.of ?_;simp only[f];rw[Hu V1,show b8 c.X+i-b8 c.X=i by omega];unfold HM rg;rw[aB,aB,bB,bB,bB,List.getElem?_drop]
 have⟨r,V,C⟩:=U3 h u (e0:=aD (b8 c.T) 0) hn A z;unfold oZ;rw[Ze,zD,Ze,zG,zD,Zf,Zf,Zf,aB,aQ4 h u];have H:(Nat.beq 1 (Sh.w<|.int .u64)&&Za&&Za&&Za&&Nat.ble 1 8)=Za:=rfl;rw[H,dj,zG,zA V2,zD,K,W,zG,zB rfl,dj];simp only[d,aB];rw[Zk,dj,Zk,dj]
 have D:List.take (b8 c.X+b8 c.T-b8 c.X) (List.drop (b8 c.X) e)=e.drop (b8 c.X):=by
  rw[List.take_of_length_le (by rw[cD];omega)]
 rw[D,V,zG];rcases C with C|⟨nw,rfl,M,N⟩
 .simp_all
 .obtain⟨w,w1,w2,w3⟩:=aa2 (l:=c.k) (R:=c.Q) (more:=[]) (nm:=0) (show b8 c.X+b8 c.T<=64 by omega) M A ⟨rfl,λp g=>by cases g⟩ V1 V1;have⟨q,S,s⟩:=OT (show b8 c.X+b8 c.T<=64 by omega) h.pk w2;simp only;rw[zA V2,zD,w1,zG,S,zG];rcases s with s|⟨s,B,U⟩
  .rw[Zf,zC,s];exact⟨_,rfl, .inl rfl⟩
  .have J:=B.1;rw[Ze,zD,show ix 0 (b8 q.2)=O 0 from bq (k:=0) V1,zG,cB V1,zG];have⟨E,F⟩:=B.2 _<|List.getElem_mem (show 0<(b8 q.2) by omega);refine⟨_,rfl, .inr ⟨rfl,E,F,λxs hx f=> ?_⟩⟩;have j:=U xs hx _ (w3 xs hx _ _ _ _ _ _ (N xs hx f) (z xs hx f).2 (⟨rfl,rfl,λi hi=>by simp at hi⟩:Mt xs (([]:List<|Int×List Tm).map (·.2)) ([],[])));rw[VO]at j;have:=j.2.2 0 V4;rw[bD]at this;exact this
end
end
section
open List renaming length->aB,length_append->aD,range->bB
section
variable {c:Cx} (h:c.Ok) (wT:ci c.T) (wX:ci c.X)
include h wT wX
theorem bm1 (g:c.mode=3)(e0:ng c.mode (b8 c.X) (b8 c.T) c.R c.l c.Q c.k c.len c.words=(c.fixed,c.tp,c.sl,c.ns,0)){l:Nat}(hl:l<=40)(d:c.mode≠2->c.len=l):
  ∃(en:Bool) (s:Dy) (as:List<|Int×Int),mN c.mode c.X c.T c.R c.l c.Q c.k c.len c.words (l:Int)=O (.inr<|.inl (Za,c.mode,en,Zb,as,c.fixed,c.tp,c.sl,c.ns,c.mode,c.R,c.Q,c.len,c.words,s.L,s.p,s.q,s.c0,s.c1,s.c2,s.c3,s.z,c.X,c.T,c.l,c.k,c.P,c.tk,s.lv,s.pk,c.words,s.W))/\
   iP c.mode en Zb c.fixed c.tp c.sl c.ns c.mode c.R c.Q c.len c.words s.L s.p s.q s.c0 s.c1 s.c2 s.c3 s.z c.X c.T c.l c.k c.P c.tk s.lv s.pk c.words s.W=O (lossV c<|jr c l,0,(jP c l l).1,(jP c l l).2):=by
 have⟨e,f,en,s,H,F⟩:=QF h e0 hl d;refine⟨en,s,yd e,ap6 h g e0 hl H F, ?_⟩;unfold iP;refine mZ (aD9 h (QG h<|H.well h<|oK h).1) ?_;rw[PQ h wT wX H F]
theorem bm2 (g:c.mode=1)(e0:ng c.mode (b8 c.X) (b8 c.T) c.R c.l c.Q c.k c.len c.words=(c.fixed,c.tp,c.sl,c.ns,0)){l:Nat}(hl:l<=40)(d:c.mode≠2->c.len=l):
  ∃(en:Bool) (s:Dy) (as:List<|Int×Int),mN c.mode c.X c.T c.R c.l c.Q c.k c.len c.words (l:Int)=O (.inr<|.inr<|.inl (Za,c.mode,en,Zb,as,c.fixed,c.tp,c.sl,c.ns,c.mode,c.R,c.Q,c.len,c.words,s.L,s.p,s.q,s.c0,s.c1,s.c2,s.c3,s.z,c.X,c.T,c.l,c.k,c.P,c.tk,(c.off 8:Int),c.ns,(b8 c.X:Int),s.lv,s.pk,c.words,s.W))/\
   cx c.mode en Zb c.fixed c.tp c.sl c.ns c.mode c.R c.Q c.len c.words s.L s.p s.q s.c0 s.c1 s.c2 s.c3 s.z c.X c.T c.l c.k c.P c.tk (c.off 8:Int) c.ns (b8 c.X:Int) s.lv s.pk c.words s.W=O (lossV c<|jr c l,0,(jP c l l).1,(jP c l l).2):=by
 have⟨e,f,en,s,H,F⟩:=QF h e0 hl d;refine⟨en,s,yd e,ap7 h g e0 hl H F, ?_⟩;unfold cx;refine mZ (WF h (QG h<|H.well h<|oK h).1) ?_;rw[PQ h wT wX H F]
theorem bm3 (g:c.mode=2)(e0:ng c.mode (b8 c.X) (b8 c.T) c.R c.l c.Q c.k c.len c.words=(c.fixed,c.tp,c.sl,c.ns,0)){l:Nat}(hl:l<=40)(d:c.mode≠2->c.len=l):
  ∃(en:Bool) (s:Dy) (as:List<|Int×Int),mN c.mode c.X c.T c.R c.l c.Q c.k c.len c.words (l:Int)=O (.inr<|.inr<|.inr (Za,c.mode,en,Zb,as,c.fixed,c.tp,c.sl,c.ns,c.mode,c.R,c.Q,c.len,c.words,s.L,s.p,s.q,s.c0,s.c1,s.c2,s.c3,s.z,c.X,c.T,c.l,c.k,c.P,c.tk,(c.off 8:Int),c.ns,(b8 c.X:Int),s.lv,s.pk,c.words,s.W))/\
   cx c.mode en Zb c.fixed c.tp c.sl c.ns c.mode c.R c.Q c.len c.words s.L s.p s.q s.c0 s.c1 s.c2 s.c3 s.z c.X c.T c.l c.k c.P c.tk (c.off 8:Int) c.ns (b8 c.X:Int) s.lv s.pk c.words s.W=O (lossV c<|jr c l,0,(jP c l l).1,(jP c l l).2):=by
 have⟨e,f,en,s,H,F⟩:=QF h e0 hl d;refine⟨en,s,yd e,ap8 h g e0 hl H F, ?_⟩;unfold cx;refine mZ (WF h (QG h<|H.well h<|oK h).1) ?_;rw[PQ h wT wX H F]
end
def aK1 (a1 a2:Zd)(e:Int×List Tm×Int)(d:Int×Int×Zd×Zd):Option Bool:=
 gd (fS (0+aB a1) 8) (gd (fS (aB (([]:Zd)++a1)+aB a2) 8) (gd (fS (0+aB d.2.2.1) 8) (gd (fS (aB (([]:Zd)++d.2.2.1)+aB d.2.2.2) 8) (bA (jJ e.1 e.2.1<|(([]:Zd)++a1)++a2) λf=>
 cond (Zc<|d.2.1≠0)
  (O Zb)
  (cond (Zc<|f.2≠0)
  (O Zb)
  (cond (Zc<|f.1≠d.1)
   (O Zb)
   (cond (Zc<|(((aB<|(([]:Zd)++d.2.2.1)++d.2.2.2):Nat):Int)≠(((aB<|(([]:Zd)++a1)++a2):Nat):Int))
   (O Zb)
   (bA (aq (ig a1 a2 e d) fy 0) λg=>
   bz g (λu=>O u) (λ_=>bA lX λj=>O j)))))))))
theorem X4 (n m i:Nat):(one1 (n+m) i).take n=one1 n i:=by
 unfold one1;rw[<-List.map_take]
 grind
def X3 (n m i:Nat):(one1 (n+m) i).drop n=(bB m).map λk=>if n+k=i then 1 else 0:=by
 unfold one1;refine List.ext_getElem V2 λk d e=>by simp
theorem Tw {n:Nat}{f:Nat->Int}(h: ∀k,k<n->f k=0):(bB n).map f=Go.V.zeros n:=by
 unfold Go.V.zeros;rw[List.eq_replicate_iff]
 grind
section
variable {c:Cx} (h:c.Ok) (wT:ci c.T) (wX:ci c.X)
include h wT wX
theorem aO4 (hi:i<b8 c.X+b8 c.T):rg ((jP c L L).1++(jP c L L).2) (i:Int)=Hc c (jr c L) (Kl c (QT c<|PM (c.X++c.T) i) (HM c<|PM (c.X++c.T) i) L) (HM c<|PM (c.X++c.T) i):=by
 have⟨⟨d,m⟩,p,q⟩:=uu h wT wX (L:=L) L;unfold QT HM;rw[VC,aD,X4,X3];by_cases hx:i<b8 c.X
 .rw[Mo V1,aO6 h wT wX hx,Tw λk g=>zF V1]
 rw[Hu V1,d,aO5 h wT wX (j:=i-b8 c.X) V1];have e:one1 (b8 c.X) i=Go.V.zeros (b8 c.X):=Tw λk g=>zF V1
 have f:((bB<|b8 c.T).map λk=>if b8 c.X+k=i then(1:Int)else 0)=one1 (b8 c.T) (i-b8 c.X):=by
  unfold one1
  grind
 rw[e,f]
theorem aP9 (L:Nat):GJ<|lossV c<|jr c L:=by
 have⟨⟨g,j⟩,f,e,p,q,m⟩:=h.lens;have⟨k,d⟩:=qr h wT wX L;exact JS (Gg h.pk<|(d.app (wT.app λy hy=>by cases hy)).fill).2 _
theorem aF6 {d:Int×List Tm×Int}(u:d.1=((b8 c.X+b8 c.T:Nat):Int))(m:TOk (b8 c.X+b8 c.T) d.2.1)
  (w: ∀xs:List Du,b8 xs=b8 c.X+b8 c.T->xs.map (·.1)=c.X++c.T->yV (ou xs d.2.1) (lossV c<|jr c L,Hc c (jr c L) (Kl c (QT c xs) (HM c xs) L)<|HM c xs)):
  aK1 c.X c.T d (lossV c<|jr c L,0,(jP c L L).1,(jP c L L).2)=O Za:=by
 have⟨⟨l1,l2⟩,hR,hQ,x1,x2,t2⟩:=h.lens;have⟨⟨z,A⟩,a3,B⟩:=uu h wT wX (L:=L) L;have hv:b8 c.X+b8 c.T<=64:=by omega
 have j: ∀i,b8 (PM (c.X++c.T) i)=b8 c.X+b8 c.T:=λi=>by
  have:=congrArg aB<|EF (c.X++c.T) i;simpa using this
 have e:b8 (c.X++c.T)=b8 c.X+b8 c.T:=aD;have f:b8 (([]:Zd)++c.X++c.T)=b8 c.X+b8 c.T:=e
 have g:b8 (([]:Zd)++(jP c L L).1++(jP c L L).2)=b8 c.X+b8 c.T:=by
  grind
 have⟨r,S,U,V⟩:=OF (x:=c.X++c.T) (xs:=PM (c.X++c.T) 0) hv m e<|EF _ _;have C:=w _ (j 0)<|EF _ _;have E:r=lossV c (jr c L):=(U.trans C.1).eq V<|aP9 h wT wX L;subst E
 have k:aq (ig c.X c.T d (lossV c<|jr c L,0,(jP c L L).1,(jP c L L).2)) fy 0=O (.inr ()):=by
  refine rV (n:=b8 c.X+b8 c.T) V1 (λi hi=> ?_) ?_
  .obtain⟨q,N,q2,Q⟩:=SH (i:=i) hv m hi;have⟨H,g2,I,J⟩:=Q.zero V1;have⟨s,W,Y,s3⟩:=OF (x:=c.X++c.T) (xs:=PM (c.X++c.T) i) hv I e<|EF _ _;have D:=w _ (j i)<|EF _ _;have K:=(J _<|j i).1;have M:=ac1 (x:=c.X++c.T) (i:=i) V1 d.2.1 (by rw[e];exact m.eok)
   have F:s=rg ((jP c L L).1++(jP c L L).2) (i:Int):=by
    refine(((Y.trans K).trans M).trans<|D.2.trans (by rw[aO4 h wT wX hi];exact .rfl' _)).eq s3 (JS (A.app B) _)
   have t:jJ ((b8 c.X+b8 c.T:Nat):Int) q.2.2 (([]:Zd)++c.X++c.T)=O (s,0):=W;simp only[ig];rw[zB (by rw[f];omega),zC,u,N,zG,H,t,zG,Ze,zD,zA V2,zD,g,bq hi,zG];show Option.bind (((jP c L L).1++(jP c L L).2)[i]?) _=_;rw[jd Z9,zG,F,zA V2,zD,Zi];rfl
  .simp only[ig]
   grind
 have p:jJ ((b8 c.X+b8 c.T:Nat):Int) d.2.1 (([]:Zd)++c.X++c.T)=O (lossV c<|jr c L,0):=S;have n1:b8 (([]:Zd)++c.X)=b8 c.X:=rfl;have n2:b8 (([]:Zd)++(jP c L L).1)=b8 c.X:=z;unfold aK1;simp only;rw[bu V1 V1,bu V1 V1,bu V1 V1,bu V1 V1,u,p,zG,zA V2,zD,zD,zA V2,zD,zA (by rw[f,g];simp),zD,k,zG,di,WS];rfl
end
end
section
open Bool renaming not_true->aB
open Int renaming tmod_eq_emod_of_nonneg->aD
theorem Vb {a0:Int}{a1 a2:Zd}{a3:Int}{a4:List cg}{a5:Int}{a6:List cg}{a7 a8 a9:Int}(h4: ∀o∈a4,Np o)(h6: ∀o∈a6,Np o)(H:ci a1)(w2:ci a2)(g4:b8 a4<=3518437208780)(g6:b8 a6<=3518437208780)(h9:0<=a9):om a0 a1 a2 a3 a4 a5 a6 a7 a8 a9=O Za:=by
 have⟨b,hs,hb⟩:=aF2 (a0:=a0) (a1:=a1) (a2:=a2) (a3:=a3) (a5:=a5) (a7:=a7) (a8:=a8) h4 h6;have S:Int.tmod a9 7=a9 % 7:=aD h9;have z:Int.tmod (a9 % 7) 41=a9 % 7:=by rw[aD V1];omega
 have q:ze a0 a1 a2 a3 a4 a5 a6 a7 a8 (Int.tmod a9 7)=O (if a0=2 then a9 % 7 else a7):=by
  unfold ze;rw[S,z,Zi,ap];split<;>rfl
 have U: ∀p,ia a0 a1 a2 a3 a4 a5 a6 a7 a8=O p->lW a0 a1 a2 a3 a4 a5 a6 a7 a8=O Zb->om a0 a1 a2 a3 a4 a5 a6 a7 a8 a9=O Za:=λp w E=>by
  unfold om;refine mZ w ?_;refine mZ q ?_;refine mZ (a:=Za) (mZ E rfl) ?_;rw[zC];exact mZ WS rfl
 have u: ∀r,r.2.2.2.2≠0->kH a0 a1 a2 a3 a4 a5 a6 a7 a8=O r->lW a0 a1 a2 a3 a4 a5 a6 a7 a8=O Zb:=λr E e=>by
  unfold lW
  grind
 by_cases g:4096<(b8 a4)∨4096<b8 a6
 .obtain⟨r,he,w⟩:=ag0 (a0:=a0) (a1:=a1) (a2:=a2) (a3:=a3) (a5:=a5) (a7:=a7) (a8:=a8) g4 g6 g;have⟨e,he0,f⟩:=NO (a0:=a0) (a1:=a1) (a2:=a2) (a3:=a3) (a5:=a5) (a7:=a7) (a8:=a8) g4 g6 g;refine U (0,0) ?_ (u r he w);unfold ia
  grind
 have A:OpsOk a4:=⟨V1,h4⟩;have B:OpsOk a6:=⟨V1,h6⟩;have m:=Qe (a0:=a0) (a1:=a1) (a2:=a2) (a3:=a3) (a5:=a5) (a7:=a7) (a8:=a8) A B;by_cases w:(ng a0 (b8 a1) (b8 a2) a3 a4 a5 a6 a7 a8).2.2.2.2≠0
 .exact U _ m (u _ w<|E0 A B)
 cases b with
 |false=>
  refine U _ m ?_;unfold lW;refine mZ (E0 A B) ?_;exact mZ hs rfl
 |true=>
  have E:lW a0 a1 a2 a3 a4 a5 a6 a7 a8=O Za:=by
   unfold lW;refine mZ (E0 A B) ?_
   grind
  have⟨c,f,e0,e1,e2,e3,e4,e5,e6,e7,e8,I⟩:=bm6 A B (show(ng a0 (b8 a1) (b8 a2) a3 a4 a5 a6 a7 a8).2.2.2.2=0 by omega);subst e0 e1 e2 e3 e4 e5 e6 e7 e8;have hmm:=f.num.mode;have hll:=f.num.len;have⟨⟨n1,n2⟩,nR,nQ,x1,x2,t2⟩:=f.lens
  obtain⟨l,M,hl,d⟩: ∃l:Nat,(if c.mode=2 then a9 % 7 else c.len)=(l:Int)/\l<=40/\(c.mode≠2->c.len=l):=by
   by_cases K:c.mode=2
   .exact⟨b9<|a9 % 7,by rw[zE K];omega,V1,λk=>(k K).elim⟩
   exact⟨b9 c.len,by rw[zF K];omega,by rcases hb rfl with k|k<;>omega,λ_=>by omega⟩
  rw[M]at q;have⟨r15,q1,F⟩:=Xm f hl
  have J: ∀{s:Bool} {x:Option Bool},x=O Za->cond s (lX.bind λr=>O r) x=O Za:=λ{s x} hx=>by
   cases s with
   |true=>rw[zC];exact mZ WS rfl
   |false=>rw[zD];exact hx
  have j: ∀t:Int×Int,∃s,((bA (lW c.mode c.X c.T c.R c.l c.Q c.k c.len c.words) λV=>cond (!V) (O Za)<|cond (Zc<|3<(((List.length c.X):Nat):Int)) (O Za)<|cond (Zc<|3<(((List.length c.T):Nat):Int)) (O Za)<|cond (Zc<|6<(l:Int)) (O Za)<|O<|Zc<|7<IntKind.i64.wrap (IntKind.i64.wrap (t.1*(l:Int))+t.2)):Option Bool)=O s:=λt=>by
   rw[E,zG,aB,zD];simp only[ap]
   repeat' split
   all_goals exact⟨_,rfl⟩
  unfold om;refine mZ m ?_;refine mZ q ?_;have⟨s,N⟩:=j (if Ax c.mode (b8 c.X) (b8 c.T) c.R c.l c.Q c.k c.len c.words≠0 then(0,0)else((eg c.l).1,(eg c.k).1));refine mZ N ?_;refine J ?_;refine mZ q1 ?_;rcases F with F|⟨F,q3,q4,q5⟩
  .rw[Zf,zC,zB F,zC];exact mZ WS rfl
  rw[Ze,zD];have W:=aF6 f w2 H q3 q4 q5;by_cases h3:c.mode=3
  .obtain⟨en,s,Y,C,D⟩:=bm1 f w2 H h3 I hl d;refine mZ C ?_;rw[di,ll];show cond (!Za) _ _=_;rw[aB,zD];refine mZ D ?_;exact W
  by_cases h1:c.mode=1
  .obtain⟨en,s,Y,C,D⟩:=bm2 f w2 H h1 I hl d;refine mZ C ?_;rw[di,di,ll];show cond (!Za) _ _=_;rw[aB,zD];refine mZ D ?_;exact W
  have⟨en,s,Y,C,D⟩:=bm3 f w2 H V1 I hl d;refine mZ C ?_;rw[di,di,di];show cond (!Za) _ _=_;rw[aB,zD];refine mZ D ?_;exact W
end
end Go.V
