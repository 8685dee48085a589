/- A part of the proof. No condition. -/
import Derived.Test.YtgnojcajllcmoaaGreatDoorL4
set_option linter.all false
namespace Go.V
open Go.Ab
open Option renaming some->O,none->Y
open Bool renaming true->Za,false->Zb
open Decidable renaming decide->Zc
open List renaming length_eq_zero_iff->dl
open List renaming mem_cons->bf
open List renaming length->ft
open Int renaming toNat->fu
open Option renaming bind->gn
variable {s s':Dy}{en:Bool}{d d' f i j k l o:Nat}{W at' ax t:Zd}{a:Int×Int}{B v x:Int}{m':Mc}
set_option maxRecDepth 100000
section
open Int renaming lt_irrefl->aD,tmod_eq_emod_of_nonneg->cB
open List renaming getElem_of_mem->aB,getElem_mem->bB
open Nat renaming pow_succ->bD,eq_zero_or_pos->cD
def Bst (P:Int->Prop)(R:Int->Int->Prop)(t:Zd)(i:Nat)(k:Int):Prop:=
 (k= -1/\∀j (h:j<ft t),j<i->¬P t[j])∨∃j,∃h:j<ft t,k=(j:Int)/\j<i/\P t[j]/\(∀b (e:b<ft t),b<i->P t[b]->¬R t[b] t[j])/\∀b (e:b<ft t),b<j->P t[b]->R t[j] t[b]
theorem Hl {P:Int->Prop}{R:Int->Int->Prop}[DecidablePred P][DecidableRel R]{f:Int×Int->Option ((Int×Int)⊕Int)}{pb:Int->Option Bool}{lb:Int->Int->Option Bool}(Q:ft t<1000000000)
  (I: ∀s,f s=cond (Zc<|s.1<(((List.length t):Nat):Int)) (gn (rd t s.1) λx=>gn (pb x) λr=>cond r (cond (Zc<|s.2<0) (O<|.inl (IntKind.i64.wrap<|s.1+1,s.1))<|gn (rd t s.2) λy=>gn (lb x y) λL=>cond L (O<|.inl (IntKind.i64.wrap<|s.1+1,s.1))<|O<|.inl (IntKind.i64.wrap<|s.1+1,s.2))<|O<|.inl (IntKind.i64.wrap<|s.1+1,s.2)) (O<|.inr s.2))
  (J: ∀x,pb x=O (Zc<|P x)) (K: ∀x y,lb x y=O (Zc<|R x y)) (V: ∀a,¬R a a) (M: ∀a b e,R a b->¬R e b->R a e) (N: ∀a b,R a b->¬R b a): ∃k,am f cj (0,-1)=O k/\Bst P R t (ft t) k:=by
 refine nq (λs=> ∃(i:Nat) (k:Int),s=((i:Int),k)/\i<=ft t/\Bst P R t i k) (λs=>ft t-fu s.1) _ ⟨0,-1,rfl,V1, .inl ⟨rfl,λj h A=>by omega⟩⟩ V3 ?_;rintro s ⟨i,k,rfl,hi,F⟩;rw[I];simp only;by_cases h:i<ft t
 .left;rw[Zf,zC,bq h,zG,J,Zi,show(i:Int)+1=((i+1:Nat):Int)by omega,zG];by_cases C:P t[i]
  .rw[zB C,zC];rcases F with⟨rfl,H⟩|⟨j,A,rfl,E,w,q,g⟩
   .rw[Zf,zC];refine⟨_,rfl,⟨i+1,i,rfl,V1, .inr ⟨i,h,rfl,V1,C,λz m p u=> ?_,λz m p u=>absurd u<|H z m p⟩⟩,by simp only;omega⟩
    grind
   .rw[Ze,zD,bq A,zG,K,zG];by_cases D:R t[i] t[j]
    .rw[zB D,zC];refine⟨_,rfl,⟨i+1,i,rfl,V1, .inr ⟨i,h,rfl,V1,C,λz m p u=> ?_,λz m p u=>M _ _ _ D<|q z m p u⟩⟩,by simp only;omega⟩
     grind
    .rw[zA D,zD];refine⟨_,rfl,⟨i+1,j,rfl,V1, .inr ⟨j,A,rfl,V1,w,λz m p u=> ?_,g⟩⟩,by simp only;omega⟩
     grind
  .rw[zA C,zD];refine⟨_,rfl,⟨i+1,k,rfl,V1, ?_⟩,by simp only;omega⟩;rcases F with⟨rfl,H⟩|⟨j,A,rfl,E,w,q,g⟩
   .refine .inl ⟨rfl,λj m p=> ?_⟩
    grind
   .refine .inr ⟨j,A,rfl,V1,w,λz m p u=> ?_,g⟩
    grind
 .grind
theorem LK (g:j<ft t)(h: ∀b (e:b<ft t),b<j->t[b]≠t[j]):yq t t[j]=j:=by
 unfold yq
 grind
theorem av9 (D:1<=d)(A:ft t<1000000000):xq t (d:Int)=O (match Yh d t with|none=> -1|some x=>(yq t x:Int)):=by
 unfold xq
 have⟨k,e,h⟩:=Hl (P:=λx=>0<=x/\x % (d:Int)≠0) (R:=λx y=>x<y) (t:=t) (f:=CX t (d:Int)) (pb:=λx=>qY x (d:Int)) (lb:=mn) A (λs=>rfl) (λx=>by
  unfold qY;by_cases h:0<=x
  .rw[zB h,zC,zB (show(d:Int)≠0 by omega),bp,cB h]
   simp_all
  grind) (λx y=>rfl) (λa=>aD a) (λa b e m w=>by omega) (λa b h=>by omega)
 rw[e];rcases h with⟨rfl,E⟩|⟨j,u,rfl,_,z,g,r⟩
 .rw[Pl λy p q=>by
   obtain⟨i,hi,rfl⟩:=aB p
   grind]
  rfl
 rw[VW (x:=t[j]) (bB u) z λy p q m=>by
  obtain⟨i,hi,rfl⟩:=aB p;have:=g i hi hi ⟨q,m⟩
  omega]
 simp only[zG]
 rw[LK u λF C m w=>by
  grind]
theorem aj2 (p:ft t<1000000000): ∃k,sS t x=O k/\(k<0↔x∉t):=by
 unfold sS;obtain⟨k,e,h⟩:=Hl (P:=λy=>y=x) (R:=λx y=>x<y) (t:=t) (f:=AN t x) (pb:=λy=>wB y x) (lb:=mn) p (λs=>rfl) (λy=>rfl) (λx y=>rfl) (λa=>aD a) (λa b e u w=>by omega) (λa b h=>by omega);rw[e];refine⟨k,rfl, ?_⟩;rcases h with⟨rfl,q⟩|⟨j,A,rfl,_,z,m,g⟩
 .refine⟨λ_ r=> ?_,λ_=>by omega⟩;have⟨i,hi,e⟩:=aB r;exact q i hi hi e
 grind
theorem aw1 (z:ft t<1000000000)(g: ∀y∈t,-1<=y): ∃k,sT t=O k/\((-1:Int)∈t->k=(yq t (-1):Int))/\((-1:Int)∉t->k= -1):=by
 unfold sT;obtain⟨k,e,h⟩:=Hl (P:=λy=>y<0) (R:=λx y=>x<y) (t:=t) (f:=AO t) (pb:=λy=>wC y) (lb:=mn) z (λs=>rfl) (λy=>rfl) (λx y=>rfl) (λa=>aD a) (λa b e u w=>by omega) (λa b h=>by omega);rw[e];refine⟨k,rfl, ?_⟩;rcases h with⟨rfl,E⟩|⟨j,m,rfl,_,D,r,q⟩
 .refine⟨λA=> ?_,λ_=>rfl⟩;have⟨i,hi,e⟩:=aB A
  grind
 have p:t[j]= -1:=by have:=g _<|bB m;omega
 refine⟨λ_=> ?_,λh=>absurd (p▸bB m) h⟩
 rw[<-p,LK m λF C u w=>by
  grind]
theorem aw0 (z:ft t<1000000000): ∃k,sU t=O k/\(nI t<0->k= -1)/\(0<=nI t->k=(yq t (nI t):Int)):=by
 unfold sU;obtain⟨k,e,h⟩:=Hl (P:=λy=>0<=y) (R:=λx y=>y<x) (t:=t) (f:=AP t) (pb:=λy=>AQ y) (lb:=wD) z (λs=>rfl) (λy=>rfl) (λx y=>rfl) (λa=>aD a) (λa b e u w=>by omega) (λa b h=>by omega);rw[e];refine⟨k,rfl, ?_⟩;rcases h with⟨rfl,E⟩|⟨j,m,rfl,_,D,p,g⟩
 .refine⟨λ_=>rfl,λr=> ?_⟩;have⟨i,hi,e⟩:=aB (Un r)
  grind
 have q:nI t=t[j]:=LP V1 (λy A=>by
  obtain⟨i,hi,rfl⟩:=aB A
  grind) (.inr<|bB m)
 refine⟨λh=>by omega,λ_=> ?_⟩
 rw[q,LK m λF C u w=>by
  grind]
def aq9 {s:Nat}(r:k<65536)(b:1<=s/\s<=1048576):oS (k:Int) (s:Int)=O ((pX k s:Int),0):=by
 unfold oS;rw[Ze,zD,Ze,zD,Ze,zD,Ze,zD];have m:=lY r b.1
 have g:am (td (k:Int) (s:Int)) cj 1=O (pX k s:Int):=by
  refine J7 (λa=> ∃e:Nat,a=((2 ^ e:Nat):Int)/\(e=0∨s*2 ^ (e-1)<=k)) (λa=>4294967296-fu a) ⟨0,rfl, .inl rfl⟩ V2 ?_;rintro a ⟨e,rfl,he⟩
  have q:2 ^ e<=131072:=by
   rcases he with rfl|he
   .simp
   have:1*2 ^ (e-1)<=s*2 ^ (e-1):=Nat.mul_le_mul_right _ b.1;rcases cD e with rfl|h
   .simp
   rw[show e=(e-1)+1 by omega,bD];omega
  have w:1<=2 ^ e:=Nat.one_le_two_pow;have u:s*2 ^ e<=1048576*131072:=Nat.mul_le_mul b.2 q;unfold td;rw[<-Int.natCast_mul,Zq];by_cases h:k<s*2 ^ e
  .right;rw[Zf,zC]
   have:IsStr k s<|2 ^ e:=⟨⟨e,rfl⟩,h,by
    rcases he with rfl|he
    .exact .inl rfl
    rcases cD e with rfl|h
    .exact .inl rfl
    right
    have p:2 ^ e / 2=2 ^ (e-1):=by
     conv=>lhs;rw[show e=(e-1)+1 by omega,bD]
     exact Nat.mul_div_cancel _ V1
    rw[p]
    exact he⟩
   rw[this.eq m]
  left;rw[Ze,zD,Zi];refine⟨_,rfl,⟨e+1, ?_, .inr (by rw[Nat.add_sub_cancel];omega)⟩,V1⟩;rw[bD];omega
 rw[g];rfl
section
variable {c:Cx}
def aE8 (h:c.Ok)(Z:c.mode≠3)(hn:1<=c.ns)(hi:Inv c s)(g:Int)(en fa:Bool):oJ g en fa c.fixed c.tp c.sl c.ns c.mode c.R c.Q c.len c.words s.L s.p s.q s.c0 s.c1 s.c2 s.c3 s.z c.X c.T c.l c.k c.P c.tk (c.off 8:Int) c.ns (c.X.length:Int) s.lv s.pk c.words s.W=O (bt6<|rO en<|pW c s):=by
 have hns:=h.ns;have J:=hi.L;have hp:=hi.p;have hq:=hi.q;have V:(iC c s.W).length=c.ns.toNat:=oW;have w:=KB (c:=c) (W:=s.W) hi.tag;have hns2:=(sw h Z (k:=0) V1).2.2;unfold oJ de cu lJ;simp only[zG];rw[bc6 h Z hi];simp only[zG];unfold Ct;rw[EH J hp hq V1 w];simp only[zG,ci];rw[Ze,zD];unfold rO pW;simp only;generalize htg:iC c s.W=t at*
 have hd:oS s.L ((t.length:Nat):Int)=O ((pX s.L.toNat t.length:Int),0):=by
  have:=aq9 (k:=s.L.toNat) (s:=t.length) V1 V1;rw[Int.toNat_of_nonneg J.1]at this;exact this
 have K:1<=pX s.L.toNat t.length:=(lY V1 V1).pos;generalize pX s.L.toNat t.length=d at*;by_cases E:s.q<0
 .rw[zE E,zB E,zC];unfold AM;rw[hd];simp only[zG,co,df];by_cases m:s.p<s.L
  .rw[zE m,zB m,zC,Zi];rfl
  rw[zF m,zA m,zD,av9 K V1];cases ho:Yh d t with
  |some x=>
   simp only[zG];rw[Zf,zC];rfl
  |none=>
   simp only[zG];rw[Ze,zD];obtain⟨k2,e2,D⟩:=aj2 (t:=t) (x:=s.L) V1;obtain⟨M,e3,A,I⟩:=aw1 (t:=t) V1 λy hy=>(w y hy).1
   rw[e2,e3];simp only[zG]
   have N:gd (Zc<|(d:Int)≠0) (cond (Zc<|Int.tmod s.L (d:Int)=0) (cond (Zc<|k2<0) (O<|Zc<|0<=M)<|O Zb)<|O Zb)=O (Zc<|s.L % (d:Int)=0/\s.L∉t/\(-1:Int)∈t):=by
    rw[zB (show(d:Int)≠0 by omega),bp,cB J.1];by_cases a1:s.L % (d:Int)=0
    .rw[zB a1,zC];by_cases a2:s.L∉t
     .rw[zB<|D.2 a2,zC]
      congr 1
      by_cases a3:(-1:Int)∈t
      .rw[zB (show 0<=M by rw[A a3];omega),zB ⟨a1,a2,a3⟩]
      rw[zA (show¬0<=M by rw[I a3];omega),zA<|λk=>a3 k.2.2]
     rw[zA (λk=>a2<|D.1 k),zD,zA<|λk=>a2 k.2.1]
    rw[zA a1,zD,zA<|λk=>a1 k.1]
   rw[N];simp only[zG];by_cases a:s.L % (d:Int)=0/\s.L∉t/\(-1:Int)∈t
   .rw[zE a,zB a,zC,A a.2.2];rfl
   rw[zF a,zA a,zD];cases en<;>rfl
 rw[zF E,zA E,zD];unfold Cv;obtain⟨k,e,hk0,C⟩:=aw0 (t:=t) V1;rw[e];simp only[zG,co,df]
 have u:0<=nI t->0<=k/\rd t k=O (nI t):=λb=>by
  obtain⟨hs,e⟩:=G0<|Un b;rw[C b,bq hs,e];exact⟨V1,rfl⟩
 have N:(cond (Zc<|0<=k) ((rd t k).bind λx4=>O<|Zc<|s.q<=x4) (O Zb):Option Bool)=O (Zc<|0<=nI t/\s.q<=nI t):=by
  by_cases b:0<=nI t
  .rw[zB (u b).1,zC,(u b).2];simp only[zG]
   congr 1
   exact decide_eq_decide.2 V1
  rw[zA (by rw[hk0 V1];omega),zD,zA<|λk=>b k.1]
 rw[N];simp only[zG];by_cases m:0<=nI t/\s.q<=nI t
 .rw[zE m,zB m,zC,C m.1];rfl
 rw[zF m,zA m,zD];by_cases A:s.q=0
 .rw[zE A,zB A];rfl
 rw[zF A,zA A,zD,ad (n:=s.q-1) V1];by_cases F:s.p=s.q-1
 .rw[zE F,zB F];rfl
 rw[zF F,zA F,zD]
 have r2:(cond (Zc<|0<=k) ((rd t k).bind λx9=>cond (Zc<|s.p<x9) (O Za)<|O<|Zc<|s.q<=s.p) (O Zb):Option Bool)=O (Zc<|0<=nI t/\(s.p<nI t∨s.q<=s.p)):=by
  by_cases b:0<=nI t
  .rw[zB (u b).1,zC,(u b).2];simp only[zG];by_cases r:s.p<nI t
   .rw[zB r,zC,zB ⟨b, .inl r⟩]
   rw[zA r,zD]
   congr 1
   exact decide_eq_decide.2 V1
  rw[zA (by rw[hk0 V1];omega),zD,zA<|λk=>b k.1]
 rw[r2];simp only[zG];by_cases r:0<=nI t/\(s.p<nI t∨s.q<=s.p)
 .rw[zE r,zB r,zC,C r.1];rfl
 rw[zF r,zA r,zD];by_cases H:s.p<s.q
 .rw[zE H,zB H,zC,Zi];rfl
 rw[zF H,zA H];rfl
end
end
section
open Int renaming toNat_natCast->bD
open List renaming getElem_mem->aB,length_set->bB,getElem_set->cB,length_map->cD,length_replicate->cK,replicate->cL,getElem?_eq_getElem->cN,getElem?_eq_none->cO,getElem_map->cP,getElem_of_mem->cQ,map_congr_left->cR
open Nat renaming div_add_mod->aD,one_dvd->cM,div_lt_iff_lt_mul->cS,dvd_of_mod_eq_zero->cT
theorem Nr (h:x∈t):yq t x<ft t/\t[yq t x]?=O x:=by
 have⟨b,e⟩:=G0 h
 grind
def qF (k:Nat)(t:Zd):List (Int×Int)×Zd:=
 if k % pX k (ft t)=0 then((I9 (pX k<|ft t) k t).1++[(2,(yq (I9 (pX k<|ft t) k t).2 (-1):Int))],(I9 (pX k<|ft t) k t).2.set (yq (I9 (pX k<|ft t) k t).2<|-1) k)
 else I9 (pX k<|ft t) k t
def aP6 (h:d' ∣ d)(b:j % d=0):j % d'=0:=
 Nat.mod_eq_zero_of_dvd (Nat.dvd_trans h<|cT b)
theorem Gd.frd (G:Gd k t d')(C:d' ∣ d):Gd k (frd d k t) d:=by
 refine⟨λx w=> ?_,λj g r=> ?_,λi j hi g e A=> ?_⟩
 .unfold Go.V.frd at w;obtain⟨y,D,rfl⟩:=List.mem_map.1 w;have:=G.ins y D
  grind
 .exact(ab7 V1).2 ⟨G.all j g<|aP6 C r,V1⟩
 have b:i<ft t:=by rw[sW]at hi;exact hi
 have m:j<ft t:=by rw[sW]at g;exact g
 have p:=JW (d:=d) (n:=k) b;have q:=JW (d:=d) (n:=k) m;rw[cN hi]at p;rw[cN g]at q;injection p with p
 injection q with q
 have u:(Go.V.frd d k t)[i]=t[i]:=by
  omega
 have z:(Go.V.frd d k t)[j]=t[j]:=by
  omega
 exact G.one i j b m (by rw[<-u,<-z,e]) (by rw[<-u];exact A)
theorem Gd.free (G:Gd k t d)(H:1<=d)(C:k % d=0)(D:k<ft t*d):(-1:Int)∈t:=by
 by_cases h:(-1:Int)∈t
 .exact h
 exfalso
 have g: ∀i (hi:i<ft t),0<=t[i]/\t[i]<k/\t[i] % (d:Int)=0:=λi hi=>by
  rcases G.ins _ (aB hi)with h1|h1
  .exact absurd (h1▸aB hi) h
  exact h1
 have p:=Ph (k / d) (t.map λx=>fu x / d) (by
  refine List.pairwise_iff_getElem.2 λi j hi m A e=> ?_
  rw[cD]at hi m;rw[cP,cP]at e;have a:=g i hi;have b:=g j m
  have w:(fu t[i]) % d=0:=by
   grind
  have z:(fu t[j]) % d=0:=by
   grind
  have h1:=aD (fu t[i]) d;have r:=aD (fu t[j]) d;rw[w]at h1;rw[z,<-e]at r;have:=G.one i j hi m V1 a.1
  omega) (λy F=>by
  obtain⟨x,E,rfl⟩:=List.mem_map.1 F;obtain⟨i,hi,rfl⟩:=cQ E;have a:=g i hi;have⟨u,q⟩:=cT C;rw[cS V1,q,Nat.mul_div_cancel_left _ V1,Nat.mul_comm,<-q]
  omega)
 rw[cD]at p;have:=(cS (x:=k) (y:=ft t) (k:=d) V1).2 D;omega
theorem Gd.store (G:Gd k t d)(E:k % d=0)(y:(-1:Int)∈t):Gd (k+1) (t.set (yq t<|-1) k) d:=by
 have⟨A,D⟩:=G0 y;generalize yq t (-1)=u at*;refine⟨λx C=> ?_,λj m r=> ?_,λi j hi m e p=> ?_⟩
 .rcases J8 C with h|h
  .rcases G.ins x h with h1|h1
   .exact .inl h1
   exact .inr ⟨h1.1,V1,h1.2.2⟩
  grind
 .by_cases w:j=k
  .subst w;exact List.mem_set A _
  have⟨i,hi,e⟩:=cQ<|G.all j V1 r;have z:u≠i:=λh=>by subst h;omega
  have q:i<ft (t.set u (k:Int)):=by rw[bB];exact hi
  have:=aB q
  grind
 rw[bB]at hi m;rw[cB,cB]at e;rw[cB]at p;by_cases g:u=i
 .by_cases b:u=j
  .omega
  rw[zE g,zF b]at e;rcases G.ins _ (aB m)with h1|h1<;>omega
 rw[zF g]at e p;by_cases b:u=j
 .rw[zE b]at e;rcases G.ins _ (aB hi)with h1|h1<;>omega
 rw[zF b]at e;exact G.one i j hi m e p
theorem Bn {s:Nat}(I:k<65536)(g:ft t=s)(h1:1<=s)(G:Gd k t d')(H:d' ∣ pX k s):
  Run (rO en) ⟨k,k,-1,t⟩ (qF k t).1 ⟨k,k,-1,(qF k t).2⟩/\Gd (k+1) (qF k t).2 (pX k s)/\ft (qF k t).2=s/\rO en ⟨k,k,-1,(qF k t).2⟩=(if en then O (5,0)else Y)/\(k % pX k s=0->(-1:Int)∈frd (pX k s) k t):=by
 have D:=lY I h1;have q:=D.pos;have⟨C,E⟩:=YI (k:=k) (d:=pX k s) (s:=s) (t:=t) (en:=en) rfl g G.one k;have G1:=G.frd H;unfold qF;rw[g,C];generalize m:pX k s=d at*
 have w: ∀u:Zd,ft u=s->Gd (k+1) u d->rO en ⟨k,k,-1,u⟩=(if en then O (5,0)else Y):=λu J G2=>by
  unfold rO;simp only;rw[Zg,Zh,J,bD,m,Pl λy A F=>by rcases G2.ins y A with h|h;omega;exact h.2.2];simp only;rw[zF];rintro⟨a,b,_⟩;exact b (G2.all k V1 V1)
 by_cases h:k % d=0
 .have r:=G1.free q h (by rw[sW,g];exact D.gt);have G2:=G1.store h r;have⟨L,N⟩:=G0 r;rw[zE h];have e:ft ((frd d k t).set (yq (frd d k t)<|-1) (k:Int))=s:=by rw[bB,sW,g]
  refine⟨E.append<|.one ?_ ?_,G2,e,w _ e G2,λ_=>r⟩
  .unfold rO;simp only;rw[Zg,Zh,sW,g,bD,m,Pl λy A F=>by rcases G1.ins y A with h|h;omega;exact h.2.2];simp only;rw[zE ⟨V1,λK=>by rcases G1.ins _ K with h|h<;>omega,r⟩]
  .unfold mac
   grind
 .rw[zF h]
  have G2:Gd (k+1) (frd d k t) d:=⟨λx M=>by
   rcases G1.ins x M with h1|h1
   .exact .inl h1
   .exact .inr ⟨h1.1,V1,h1.2.2⟩,λj Q p=>by
   by_cases z:j=k
   .subst z;exact absurd p h
   .exact G1.all j V1 p,G1.one⟩
  have e:ft (I9 d k t).2=s:=by rw[C,sW,g]
  grind
def cz (s:Nat):Nat->List (Int×Int)×Zd
 |0=>qF 0 (cL s<|-1)
 |k+1=>((cz s k).1++[(1,1)]++(qF (k+1) (cz s k).2).1,(qF (k+1) (cz s k).2).2)
def Gd.none (s d:Nat):Gd 0 (cL s<|-1) d:=
 ⟨λx m=> .inl<|List.eq_of_mem_replicate m,λj g=>by omega,λi j hi g e b=>by rw[List.getElem_replicate]at b;omega⟩
def Bd {s:Nat}(e:1<=s): ∀k,k<65536->Gd (k+1) (cz s k).2 (pX k s)/\ft (cz s k).2=s
 |0,h=>by
  have⟨_,b,c,_⟩:=Bn (en:=Zb) h cK e (Gd.none s 1)<|cM _;exact⟨b,c⟩
 |k+1,h=>by
  have⟨a1,a2⟩:=Bd e k V1;have⟨_,b,c,_⟩:=Bn (en:=Zb) h a2 e a1<|(lY V1 e).next<|lY h e;exact⟨b,c⟩
def Y8 {s:Nat}(e:1<=s):Run (rO Zb) ⟨0,0,-1,cL s<|-1⟩ (cz s 0).1 ⟨0,0,-1,(cz s 0).2⟩/\rO Zb ⟨0,0,-1,(cz s 0).2⟩=Y:=by
 have⟨a,b,c,d,_⟩:=Bn (en:=Zb) (k:=0) V1 cK e (Gd.none s 1)<|cM _;exact⟨a,d⟩
theorem Y9 {s:Nat}(e:1<=s)(g:k+1<65536):Run (rO Zb) ⟨(k:Int)+1,k,-1,(cz s k).2⟩ ([(1,1)]++(qF (k+1) (cz s k).2).1) ⟨(k:Int)+1,(k:Int)+1,-1,(cz s<|k+1).2⟩/\rO Zb ⟨(k:Int)+1,(k:Int)+1,-1,(cz s<|k+1).2⟩=Y:=by
 have⟨a1,a2⟩:=Bd e k V1;have⟨a,b,c,d,_⟩:=Bn (en:=Zb) g a2 e a1<|(lY V1 e).next<|lY g e;refine⟨Run.cons (m':=⟨((k+1:Nat):Int),((k+1:Nat):Int),-1,(cz s k).2⟩) ?_ ?_ a,d⟩
 .unfold rO
  grind
 unfold mac
 grind
def au8 {s:Nat}(e:1<=s)(g:k<65536):rO Za ⟨k,k,-1,(cz s k).2⟩=O (5,0):=by
 cases k with
 |zero=>
  have⟨a,b,c,d,_⟩:=Bn (en:=Za) (k:=0) V1 cK e (Gd.none s 1)<|cM _;exact d
 |succ k=>
  have⟨a1,a2⟩:=Bd e k V1;have⟨a,b,c,d,_⟩:=Bn (en:=Za) g a2 e a1<|(lY V1 e).next<|lY g e;exact d
def cut (n:Nat)(t:Zd):Zd:=t.map λx=>if x<(n:Int)then x else-1
def UA (d:Nat)(t:Zd)(i:Nat):List<|Int×Int:=if i % d=0 then [(4,(yq t i:Int))]else []
def XL (d:Nat)(t:Zd):Nat->List (Int×Int)
 |0=>[]
 |i+1=>(3,(yq t ((i-i % d:Nat):Int):Int))::((if i % d≠0 then [(1,((i % d:Nat):Int))]else [])++(7,0)::(UA d t i++XL d t i))
def Tn {n:Nat}:ft (cut n t)=ft t:=by unfold cut;rw[cD]
theorem aa9 {n:Nat}(hi:i<ft t):(cut n t)[i]?=O (if t[i]<(n:Int)then t[i]else-1):=by
 unfold cut
 grind
theorem JP {n:Nat}(b:0<=x):x∈cut n t↔x∈t/\x<(n:Int):=by
 unfold cut
 grind
theorem ab3 {n:Nat}(b:0<=x/\x<(n:Int)):yq (cut n t) x=yq t x:=by
 unfold yq cut;rw[List.findIdx_map]
 congr 1
 grind
theorem ay3 (one: ∀i j (hi:i<ft t) (g:j<ft t),t[i]=t[j]->0<=t[i]->i=j)(m:(i:Int)∈t):(cut (i+1) t).set (yq t i) (-1)=cut i t:=by
 have⟨p,e⟩:=G0 m;generalize yq t i=u at*;apply List.ext_getElem?;intro j;by_cases g:j<ft t
 .rw[aa9 g,List.getElem?_set];by_cases b:u=j
  .subst b;rw[zE rfl,zE (by rw[Tn];exact p),Zh]
  rw[zF b,aa9 g]
  grind
 rw[cO (by rw[bB,Tn];omega),cO (by rw[Tn];omega)]
theorem ay2 (b:(i:Int)∉t):cut (i+1) t=cut i t:=by
 unfold cut;refine cR λx e=> ?_
 grind
theorem ab6 (G:Gd (l+1) t d)(hi:i<=l)(u:1<=d):Run (rO en) ⟨l,i,i,cut (i+1) t⟩ (UA d t i) ⟨l,i,i,cut i t⟩:=by
 unfold UA;by_cases h:i % d=0
 .have e:=G.all i V1 h;have b:(i:Int)∈cut (i+1) t:=(JP V1).2 ⟨e,V1⟩
  have w:nI (cut (i+1) t)=(i:Int):=LP V1 (λy r=>by
   by_cases p:0<=y
   .have:=((JP p).1 r).2;omega
   omega) (.inr b)
  have g:=ab3 (n:=i+1) (t:=t) (x:=i) V1;have⟨q,m⟩:=Nr b;rw[g]at q m;rw[zE h];refine .one ?_ ?_
  .unfold rO
   grind
  unfold mac;simp only[Int.reduceEq,if_false,if_true,bD];rw[List.getD_eq_getElem?_getD,m];simp only[Option.getD_some];rw[Zg,ay3 G.one e]
 rw[zF h,ay2 λe=>by rcases G.ins _ e with h1|h1<;>omega];exact .nil _
theorem aw3 {l d:Nat}{t:Zd}{en:Bool}(H:l<65536)(G:Gd (l+1) t d)(q:1<=d): ∀i,i<=l->Run (rO en) ⟨l,i,i,cut i t⟩ (XL d t i) ⟨l,0,0,cut 0 t⟩
 |0,_=> .nil _
 |i+1,hi=>by
  have u:=Nat.mod_lt i (show d > 0 by omega);have I:=Nat.mod_le i d
  have m:(i-i % d) % d=0:=by
   have:=aD i d;rw[show i-i % d=d*(i / d)by omega];exact Nat.mul_mod_right _ _
  generalize w:i % d=r at*;have J:=G.all (i-r) V1 m;have b:((i-r:Nat):Int)∈cut (i+1) t:=(JP V1).2 ⟨J,V1⟩
  have Q:nI (cut (i+1) t)=((i-r:Nat):Int):=LP V1 (λy L=>by
   by_cases g:0<=y
   .obtain⟨A,M⟩:=(JP g).1 L;rcases G.ins y A with h3|h3
    .omega
    .obtain⟨y,rfl⟩:=Int.eq_ofNat_of_zero_le g;have C:y % d=0:=by have:=h3.2.2;omega
     have D:=aD i d;have E:=aD y d;rw[C]at E;rw[w]at D;have F:y / d<=i / d:=Nat.div_le_div_right V1;have N:d*(y / d)<=d*(i / d):=Nat.mul_le_mul_left _ F;omega
   .omega) (.inr b)
  have p:=ab3 (n:=i+1) (t:=t) (x:=((i-r:Nat):Int)) V1;have⟨K,z⟩:=Nr b;rw[p]at K z;unfold XL;rw[w]
  have e:Run (rO en) ⟨l,i,((i+1:Nat):Int),cut (i+1) t⟩ ((7,0)::(UA d t i++XL d t i)) ⟨l,0,0,cut 0 t⟩:=by
   refine .cons (m':=⟨l,i,i,cut (i+1) t⟩) ?_ ?_ ((ab6 G V1 q).append<|aw3 H G q i V1)
   .unfold rO
    grind
   .unfold mac
    grind
  refine .cons (m':=⟨l,((i-r:Nat):Int),((i+1:Nat):Int),cut (i+1) t⟩) ?_ ?_ ?_
  .unfold rO
   grind
  .unfold mac
   grind
  .by_cases g:r≠0
   .rw[zE g];refine .cons (m':=⟨l,i,((i+1:Nat):Int),cut (i+1) t⟩) ?_ ?_ e
    .unfold rO
     grind
    .unfold mac
     grind
   grind
def Fb (l:Nat)(t:Zd):List<|Int×Int:=(5,0)::(UA (pX l<|ft t) t l++XL (pX l<|ft t) t l)
theorem av7 {s:Nat}(b:l<65536)(g:1<=s):Run (rO Za) ⟨l,l,-1,(cz s l).2⟩ (Fb l (cz s l).2) ⟨l,0,0,cut 0 (cz s l).2⟩/\rO Za ⟨l,0,0,cut 0 (cz s l).2⟩=Y:=by
 have⟨G,e⟩:=Bd g l b;have m:=(lY b g).pos;unfold Fb;rw[e];have r:=au8 (s:=s) (k:=l) g b;generalize (cz s l).2=t at*
 have q:cut (l+1) t=t:=by
  unfold cut
  conv=>rhs;rw[<-List.map_id t]
  refine cR λx u=> ?_
  rcases G.ins x u with h|h
  .rw[Zg];rfl
  rw[Zg];rfl
 refine⟨.cons (m':=⟨l,l,l,t⟩) r ?_ (Run.append (m':=⟨l,l,l,cut l t⟩) ?_ (aw3 b G m l<|Nat.le_refl _)), ?_⟩
 .unfold mac
  grind
 .have:=ab6 (en:=Za) (i:=l) G (Nat.le_refl _) m;rw[q]at this;exact this
 have z:nI (cut 0 t)= -1:=LP V1 (λy w=>by
  by_cases p:0<=y
  .have:=((JP p).1 w).2;omega
  omega) (.inl rfl)
 unfold rO
 grind
end
section
open Int renaming toNat_natCast->cP
open List renaming length_append->aB,replicate->aD,length_cons->bB,length_singleton->bD,length->cD,append_assoc->cK,append_nil->cL,findIdx_le_length->cM,length_replicate->cN,countP_le_length->cQ,length_take->cR,not_of_lt_findIdx->cS,replicate_zero->cT,take_length->cU,take_succ_eq_append_getElem->cV
open Nat renaming le_refl->cB,mul_le_mul->cO
theorem Ys : ∀f,(∀n c k (h:List Bool) b,1<=n->n<=65536->(2<=n->1<=c)->ft (pt f Zb n c k h b)+2<=5*n)/\∀n c k (h:List Bool) b,1<=n->n<=65536->1<=c->ft (pt f Za n c k h b)+3<=5*n
 |0=>⟨λn c k h b e _ _=>by show 0+2<=_;omega,λn c k h b e _ _=>by show 0+3<=_;omega⟩
 |f+1=>by
  have⟨g,r⟩:=Ys f;refine⟨λn c k h b e m p=> ?_,λn c k h b e m p=> ?_⟩
  .unfold pt
   grind
  .unfold pt;by_cases q:n<=1
   .rw[zE q];simp;omega
   .rw[zF q,bB,aB,bB];have⟨u,w,y,_⟩:=PO (n:=n) (c:=c) V1 p m
    have a:=g (n-RW n c) (c-1) 0 h b V1 V1 (λh=>by
     omega)
    grind
theorem aq0 {h:List Bool}(r:ft h<1000000000):xj h=O ((h.findIdx λb=> !b:Nat):Int):=by
 unfold xj
 have m:=nr (f:=qR h) (n:=h.findIdx λb=> !b) (c:=((h.findIdx λb=> !b:Nat):Int)) (by have:=cM (p:=λb=> !b) (xs:=h);omega)
  (λi hi=>by
   have e:i<ft h:=Nat.lt_of_lt_of_le hi cM;have g:=cS hi;unfold qR;rw[Zf,zC,bq e,zG]
   have:h[i]=Za:=by cases q:h[i]with
    |true=>rfl
    |false=>rw[q]at g;cases g
   rw[this,zC,Zi]
   rfl)
  (by
   unfold qR;by_cases e:(h.findIdx λb=> !b)<ft h
   .have g:=List.findIdx_getElem (w:=e);rw[Zf,zC,bq e]
    grind
   grind)
 rw[m];rfl
theorem aG6 {h:List Bool}(g:ft h<1000000000)(e:k<ft h):zR h (k:Int) Za=O (h.set k Za):=by
 unfold zR
 have b:=bz (f:=sK h) (n:=ft h) (λi=>h.take i) (c:=h) V1
  (λi hi=>by
   unfold sK;simp only;rw[Zf,zC,bq hi,zG,au (by rw[cR];omega) V1,Zi,cV hi]
   rfl)
  (by
   unfold sK;simp only
   rw[Ze,zD,cU])
 rw[List.take_zero]at b;rw[b,zG,bl e]
 grind
theorem OP {h:List Bool}(e:0<h.countP λb=> !b):(h.findIdx λb=> !b)<ft h:=by
 simp_all
theorem al3 {h:List Bool}(e:0<h.countP λb=> !b):((h.set (h.findIdx λb=> !b) Za).countP λb=> !b)+1=h.countP λb=> !b:=by
 have g:=OP e
 grind
theorem WE : ∀(N n c k f:Nat) (h:List Bool) (m:Bool),n<=N->1<=n->n<65536->2*n<=f->(h.countP λb=> !b)=c->(2<=n->1<=c)->ft h<=1048576->kv N (n:Int) (c:Int) h m=O (pt f Zb n c k h m)
 |0,n,c,k,f,h,m=>λQ I=>by omega
 |N+1,n,c,k,f,h,m=>by
  intro Q I h3 h4 h5 V Z;obtain⟨f,rfl⟩: ∃g,f=g+1:=⟨f-1,V1⟩
  show DH (kv N) (n:Int) (c:Int) h m=_;unfold DH;have hl:(cond m (O 6) (O 7):Option Int)=O (if m then 6 else 7):=by cases m<;>rfl
  rw[hl,zG];by_cases L:n=1
  .rw[Zf,zC];unfold pt;rw[zE L]
  .have E:=V V1;have F:0<h.countP λb=> !b:=by omega
   have J:=OP F;have hcs:=al3 F;rw[Ze,zD,aq0 V1,zG,aG6 V1 J,zG]
   conv=>rhs;unfold pt
   rw[zF L];have hbd:=(Ys f).2 n c (h.findIdx λb=> !b) (h.set (h.findIdx λb=> !b) Za) m I V1 E;generalize (h.findIdx λb=> !b)=u at*;have K:ft (h.set u Za)<=1048576:=by rw[List.length_set];exact Z
   generalize h.set u Za=y at*;have hcl:c<=1048576:=by have:=cQ (p:=λb=> !b) (l:=h);omega
   have hTl:ft ((2,(u:Int))::pt f Za n c u y m)<=5*n:=by rw[bB];omega
   generalize hT:((2,(u:Int))::pt f Za n c u y m)=T at*
   obtain⟨r,e,hr,hr2⟩:=nq (f:=yx (kv N) (c:Int) (u:Int) y) (a:=((n:Int),m,[(2,(u:Int))])) (λs=> ∃(w z:Nat) (q:Bool) (A:List<|Int×Int),s=((w:Int),q,A)/\1<=w/\w<=n/\2*w<=z+1/\A++pt z Za w c u y q=T/\ft A<=1000000) (λs=>fu s.1) (λr=>r++[(7,0),(4,(u:Int))]=T/\ft r<=1000000) ⟨n,f,m,_,rfl,I,cB _,V1,hT,V2⟩ ZF (by
    rintro s ⟨w,z,q,A,rfl,g1,g2,g3,C,g5⟩;obtain⟨z,rfl⟩: ∃g,z=g+1:=⟨z-1,V1⟩
    have M:=C;have D:=congrArg cD C;rw[aB]at D;unfold pt at C;unfold yx;simp only;by_cases H:w<=1
    .grind
    .rw[zF H]at C;have⟨m1,m2,m3,m4⟩:=PO (n:=w) (c:=c) V1 E V1;rw[Zf,zC,(YQ (n:=w) (c:=c) V1 (by have:=cQ (p:=λb=> !b) (l:=h);omega)).2,zG,<-m4]
     have hw:ft (pt (z+1) Za w c u y q)=1+ft (pt z Zb (w-RW w c) (c-1) 0 y q)+1+ft (pt z Za (RW w c) c u y Zb):=by
      conv=>lhs;unfold pt
      rw[zF H,bB,aB,bB];omega
     rw[au V1 V1,ad (n:=(w:Int)-(RW w c:Int)) V1,ad (n:=(c:Int)-1) V1,show(w:Int)-(RW w c:Int)=((w-RW w c:Nat):Int)by omega,show(c:Int)-1=((c-1:Nat):Int)by omega,WE N (w-RW w c) (c-1) 0 z y q V1 V1 V1 V1 V1 (λh=>by
      omega) K]
     simp only[zG];rw[au Zj V1,au (by rw[aB,aB,bD];omega) V1];refine .inl ⟨_,rfl,⟨RW w c,z,Zb,_,rfl,m1,V1,V1, ?_, ?_⟩,by simp only;omega⟩
     .rw[<-C];simp[cK]
     grind)
   rw[e,zG,au V1 V1,hr]
def YC {s:Nat}(g:l<=400)(e:1<=s/\s<=1048576):uy (l:Int) (s:Int)=O (if l=0 then [(5,0)]else pt (2*l) Zb l s 0 (aD s Zb) Za,0):=by
 unfold uy;rw[Ze,zD,Ze,zD,Ze,zD,Ze,zD];by_cases b:l=0
 .rw[zE b,Zf,zC]
 rw[zF b,Ze,zD]
 have:(Nat.beq 1 (Sh.w .bool)&&Zc (0<=(s:Int))&&Zc ((s:Int)<=(s:Int))&&Zc ((1:Int)*(s:Int)<=140737488355328)&&Nat.ble 1 1)=Za:=by
  rw[zB (show 0<=(s:Int)by omega),zB (show(s:Int)<=(s:Int)by omega),zB (show(1:Int)*(s:Int)<=140737488355328 by omega)];rfl
 rw[this,bp];unfold DN;rw[cP,WE 4000 l s 0 (2*l) (aD s Zb) Za V1 V1 V1 (cB _) (by rw[List.countP_replicate];simp) (λ_=>e.1) (by rw[cN];exact e.2)];rfl
theorem Km (w:ft t<1000000000):gW t x=O (if x∈t then(yq t x:Int)else-1):=by
 unfold gW;have q:yq t x<=ft t:=cM
 have g:=nr (f:=sL t x) (n:=yq t x) (c:=if x∈t then .inl (yq t x:Int)else .inr ()) V1
  (λi hi=>by
   have b:i<ft t:=by omega
   have p:=cS hi;unfold sL;rw[Zf,zC,bq b,zG,p,zD,Zi]
   rfl)
  (by
   unfold sL;by_cases m:x∈t
   .obtain⟨r,e⟩:=G0 m;rw[Zf,zC,bq r]
    grind
   have:yq t x=ft t:=List.findIdx_eq_length_of_false λy u=>zA λe=>m (e▸u)
   grind)
 rw[g,zG];split<;>rfl
theorem IZ {s:Nat}(y:k<65536)(q:1<=s/\s<=1048576):mU (k:Int) (s:Int)=O ((pX k s:Int),0):=by
 unfold mU;rw[Ze,zD,Ze,zD,Ze,zD,Ze,zD];have m:=lY y q.1
 have g:am (uA (k:Int) (s:Int)) cj 65536=O (pX k s:Int):=by
  refine J7 (λa=> ∃e:Nat,a=((2 ^ e:Nat):Int)/\e<=16/\k<s*2 ^ e) (λa=>fu a) ⟨16,rfl,V1,V1⟩ V5 ?_;rintro a ⟨e,rfl,u,b⟩;have D:1<=2 ^ e:=Nat.one_le_two_pow;have C:2 ^ e<=2 ^ 16:=Nat.pow_le_pow_right V1 u;unfold uA;rw[show Int.tdiv ((2 ^ e:Nat):Int) 2=((2 ^ e / 2:Nat):Int)from rfl,Zq];by_cases z:1<2 ^ e
  .have w:1<=e:=by
    grind
   have p:2 ^ e / 2=2 ^ (e-1):=by
    conv=>lhs;rw[show e=(e-1)+1 by omega,Nat.pow_succ]
    exact Nat.mul_div_cancel _ V1
   have r:s*2 ^ (e-1)<=1048576*65536:=cO q.2 V1;rw[Zf,zC,p,<-Int.natCast_mul,Zq];by_cases A:k<s*2 ^ (e-1)
   .rw[Zf,zC]
    grind
   rw[Ze,zD];have:IsStr k s<|2 ^ e:=⟨⟨e,rfl⟩,b, .inr (by rw[p];omega)⟩;rw[this.eq m];exact .inr rfl
  rw[Ze,zD];have:IsStr k s<|2 ^ e:=⟨⟨e,rfl⟩,b, .inl V1⟩;rw[this.eq m];exact .inr rfl
 rw[g];rfl
theorem Nj (d:Nat)(t:Zd): ∀n,ft (I9 d n t).1<=n
 |0=>cB _
 |n+1=>by
  have:=Nj d t n;unfold I9
  grind
def ag1 (i d:Nat):Int.tmod (i:Int) (d:Int)=((i % d:Nat):Int):=rfl
theorem WC {s:Nat}(C:k<65536)(u:t.length=s)(z:1<=s/\s<=1048576)(G:Gd k t d')(F:d' ∣ pX k s):zS t (k:Int)=O (qF k t):=by
 obtain⟨_,_,_,_,m⟩:=Bn (en:=Zb) C u z.1 G F;have E:=(lY C z.1).pos;have g:=λn=>(YI (k:=k) (d:=pX k s) (s:=s) (t:=t) (en:=Zb) rfl u G.one n).1
 unfold zS qF
 have w:=bz (f:=fF t) (n:=t.length) (λi=>t.take i) (c:=t) V1
  (λi hi=>by
   unfold fF;simp only;rw[Zf,zC,bq hi];simp only[zG];rw[au (by rw[cR];omega) V1,Zi,cV hi]
   rfl)
  (by
   unfold fF;simp only
   rw[Ze,zD,cU])
 rw[List.take_zero]at w;rw[w];simp only[zG];rw[u,IZ C z];simp only[zG];generalize H:pX k s=d at*
 have y:=bz (f:=oL (k:Int) ((d:Int),0)) (n:=k) (λi=>((I9 d i t).2,(I9 d i t).1)) (c:=((I9 d k t).2,(I9 d k t).1)) V1
  (λi hi=>by
   have r:=Nj d t i;have D:(I9 d i t).2.length=s:=by rw[g,sW,u]
   unfold oL;simp only;rw[Zf,zC,zB (show(d:Int)≠0 by omega),bp,ag1,Km V1];simp only[zG]
   conv=>rhs;unfold I9
   by_cases b:i % d≠0/\(i:Int)∈(I9 d i t).2
   .obtain⟨p,e⟩:=Nr b.2;rw[zE b,zE b.2,Zf,zC,Zf];simp only[zG,zC];rw[au V1 V1,bl p];simp only[zG];rw[e];simp only[zG];rw[Zi];rfl
   rw[zF b]
   have:(cond (Zc (((i % d:Nat):Int)≠0)) (O (Zc (0<=(if(i:Int)∈(I9 d i t).2 then(yq (I9 d i t).2 (i:Int):Int)else-1)))) (O Zb):Option Bool)=O Zb:=by
    by_cases I:i % d=0
    .rw[Ze,zD]
    simp_all
   rw[this];simp only[zG,zD];rw[Zi]
   rfl)
  (by
   unfold oL;simp only
   rw[Ze,zD])
 have q:am (oL (k:Int) ((d:Int),0)) cj (0,t,[])=_:=y;rw[q];simp only[zG];have r:=Nj d t k;have D:(I9 d k t).2.length=s:=by rw[g,sW,u]
 rw[zB (show(d:Int)≠0 by omega),bp,ag1];by_cases b:k % d=0
 .have A:=m b;rw[<-g k]at A;obtain⟨p,e⟩:=Nr A;rw[zE b,Zf,zC,Km V1,zE A];simp only[zG];rw[au V1 V1,bl p]
  grind
 grind
theorem Lo (k:Nat)(t:Zd):ft (qF k t).1<=k+1:=by
 have:=Nj (pX k<|ft t) t k;unfold qF
 grind
theorem Er (s:Nat): ∀k,ft (cz s k).1<=(k+1)*(k+2)
 |0=>by have:=Lo 0<|aD s<|-1;show(ft (qF 0 _).1)<=_;omega
 |k+1=>by
  have b:=Er s k;have e:=Lo (k+1) (cz s k).2;show(ft<|(cz s k).1++[(1,1)]++(qF (k+1) (cz s k).2).1)<=_
  grind
def aX3 (i n:Nat):(aD i (-1:Int)++aD (n+1) 0).set i (-1)=aD (i+1) (-1)++aD n 0:=by
 rw[List.set_append_right _ _ V2,cN,Nat.sub_self,List.replicate_succ,List.set_cons_zero,List.replicate_succ',cK];rfl
theorem ap9 {s:Nat}(r:l<65535)(b:1<=s/\s<=1048576):xl (l:Int) (s:Int)=O (cz s l):=by
 unfold xl
 have:(Nat.beq 1 (Sh.w<|.int .i64)&&Zc (0<=(s:Int))&&Zc ((s:Int)<=(s:Int))&&Zc ((8:Int)*(s:Int)<=140737488355328)&&Nat.ble 1 8)=Za:=by
  rw[zB (show 0<=(s:Int)by omega),zB (show(s:Int)<=(s:Int)by omega),zB (show(8:Int)*(s:Int)<=140737488355328 by omega)];rfl
 rw[this,bp,cP]
 have e:=bz (f:=qS (s:Int)) (n:=s) (λi=>aD i (-1)++aD (s-i) 0) (c:=aD s<|-1) V1
  (λi hi=>by
   unfold qS;simp only;rw[Zf,zC,bl V3,zG,List.getElem?_eq_getElem V3,zG,Zi,show s-i=(s-(i+1))+1 by omega,aX3]
   rfl)
  (by
   unfold qS;simp only
   rw[Ze,zD,Nat.sub_self,cT,cL])
 rw[cT,List.nil_append,Nat.sub_zero]at e;rw[e,zG]
 have g:=bz (f:=qT (l:Int)) (n:=l+1) (λi=>match i with|0=>([],aD s<|-1)|j+1=>((cz s j).1,(cz s j).2)) (c:=((cz s l).1,(cz s l).2)) V1
  (λi hi=>by
   unfold qT;cases i with
   |zero=>
    simp only;rw[Zf,zC,Ze,zD,zG];have:=WC (k:=0) V1 cN b (Gd.none s 1)<|Nat.one_dvd _;rw[this];rfl
   |succ j=>
    have⟨a1,a2⟩:=Bd b.1 j V1;have m:=Er s j;have p:(j+1)*(j+2)<=65536*65536:=cO V1 V1;have q:=Lo (j+1) (cz s j).2;simp only;rw[Zf,zC,Zf,zC,au V1 V1,zG,WC (k:=j+1) V1 a2 b a1<|(lY V1 b.1).next<|lY V1 b.1,zG,au Zj V1,Zi]
    rfl)
  (by
   unfold qT;simp only
   rw[Ze,zD])
 grind
def Tj (d:Nat)(t:Zd): ∀i,ft (XL d t i)<=4*i
 |0=>cB _
 |i+1=>by
  have:=Tj d t i;unfold XL UA;rw[bB,aB,bB,aB]
  repeat' split
  all_goals simp;omega
theorem YD {s:Nat}(I:l<65535)(m:1<=s/\s<=1048576):uz (l:Int) (s:Int)=O (0,(cz s l).1++Fb l (cz s l).2):=by
 obtain⟨G,e⟩:=Bd m.1 l V1;have y:=(lY (k:=l) (s:=s) V1 m.1).pos;have E:=Er s l;have N:(l+1)*(l+2)<=65536*65537:=cO V1 V1;unfold uz Fb;rw[IZ V1 m];simp only[zG];rw[zA V2,zD,ap9 I m];simp only[zG];rw[e,au V1 V1,zB (show((pX l s:Nat):Int)≠0 by omega),bp,ag1];generalize Q:pX l s=d at*;generalize D:cz s l=z at*;obtain⟨b,t⟩:=z;simp only at*
 have A:(cond (Zc (((l % d:Nat):Int)=0)) ((gW t (l:Int)).bind λL=>gd (dh (cD ((b++[(5,0)]))+1) 16) (O (((b++[(5,0)])++[(4,L)])))) (O ((b++[(5,0)]))):Option (List (Int×Int)))=O (b++[(5,0)]++UA d t l):=by
  unfold UA;by_cases h:l % d=0
  .rw[Zf,zC,Km V1,zE (G.all l V1 h),zE h];simp only[zG];rw[au Zj V1]
  grind
 rw[A];simp only[zG];have H:(UA d t l).length<=1:=by unfold UA;split<;>simp
 have u:am (yE ((d:Int),0) (b,t)) cj (IntKind.i64.wrap ((l:Int)-1),b++[(5,0)]++UA d t l)=O (b++(5,0)::(UA d t l++XL d t l)):=by
  refine J7 (λa=> ∃(i:Nat) (o:List (Int×Int)),a=((i:Int)-1,o)/\i<=l/\o++XL d t i=b++(5,0)::(UA d t l++XL d t l)) (λa=>(a.1+1).toNat) ⟨l,_,by rw[Zi],cB _,by simp[cK]⟩ (by rw[Zi];simp only;omega) ?_;rintro a ⟨i,o,rfl,hi,g⟩;unfold yE;simp only;have q:=congrArg cD g;have F:=Tj d t l;rw[aB,aB,bB,aB]at q;generalize b++(5,0)::(UA d t l++XL d t l)=T at*;cases i with
  |zero=>
   rw[Ze,zD];have:o=o++XL d t 0:=by show o=o++[];rw[cL]
   rw[this,g];exact .inr rfl
  |succ i=>
   left;have w:=Nat.mod_lt i (show d > 0 by omega);have J:=Nat.mod_le i d
   have p:(i-i % d) % d=0:=by
    have:=Nat.div_add_mod i d;rw[show i-i % d=d*(i / d)by omega];exact Nat.mul_mod_right _ _
   rw[show((i+1:Nat):Int)-1=(i:Int)by omega,Zf,zC,zB (show(d:Int)≠0 by omega),bp,ag1,ad (n:=(i:Int)-((i % d:Nat):Int)) V1,show(i:Int)-((i % d:Nat):Int)=((i-i % d:Nat):Int)by omega,Km V1,zE (G.all (i-i % d) V1 p)];simp only[zG];rw[au V1 V1];unfold XL at g;generalize K:i % d=r at*
   have C:(cond (Zc (((i-r:Nat):Int)<(i:Int))) (gd (dh (cD ((o++[(3,(yq t ((i-r:Nat):Int):Int))]))+1) 16) (O (((o++[(3,(yq t ((i-r:Nat):Int):Int))])++[(1,IntKind.i64.wrap ((i:Int)-((i-r:Nat):Int)))])))) (O ((o++[(3,(yq t ((i-r:Nat):Int):Int))]))):Option (List (Int×Int)))=O (o++[(3,(yq t ((i-r:Nat):Int):Int))]++if r≠0 then [(1,(r:Int))]else []):=by
    by_cases h:r=0
    .rw[Ze,zD,Zh,cL]
    rw[Zf,zC,zE h,au Zj V1,Zi,show(i:Int)-((i-r:Nat):Int)=(r:Int)by omega]
   rw[C];simp only[zG];have M:(if r≠0 then [((1:Int),(r:Int))]else []).length<=1:=by split<;>simp
   rw[au (by rw[aB,aB,bD];omega) V1];unfold UA at g;rw[K]at g;by_cases h:r=0
   .rw[Zf,zC];rw[au (by rw[aB,aB,aB,bD,bD];omega) V1,Zi];refine⟨_,rfl,⟨i,_,rfl,V1, ?_⟩,by simp only;omega⟩
    grind
   rw[Ze,zD,Zi];refine⟨_,rfl,⟨i,_,rfl,V1, ?_⟩,by simp only;omega⟩
   grind
 rw[u];rfl
end
section
open List renaming getElem?_eq_none->aB,length_cons->aD
theorem WI {n:Int}(h:1<=n/\n<=65535):jb 1 n=Za:=by
 unfold jb
 grind
theorem Dz {a n:Int}(b:2<=a/\a<=4)(h:0<=n/\n<1048576):jb a n=Za:=by
 unfold jb
 grind
theorem Dx {a n:Int}(b:5<=a/\a<=9)(h:n=0):jb a n=Za:=by
 unfold jb
 grind
section
variable {c:Cx}
def DF {W':Zd}(b:eY c W W'):iC c W'=iC c W:=by
 unfold iC;refine List.map_congr_left λk _=> ?_
 rw[b.tag]
def W7 {w:Zd}(p:k<fu c.ns)(b:sp c k+ft w<=ft W)(m:ft w=ft c.X+1):iC c (put W (sp c k) w)=(iC c W).set k (w.getD 0 0-1):=by
 apply List.ext_getElem?;intro j;by_cases g:j<fu c.ns
 .rw[G7 g,List.getElem?_set];by_cases e:k=j
  .subst e;rw[zE rfl,zE (by rw[oW];exact p),Am b m]
  rw[zF e,G7 g,Ns b m<|λh=>e h.symm]
 rw[aB (by rw[oW];omega),aB (by rw[List.length_set,oW];omega)]
def AA (b:k<fu c.ns):(iC c W).getD k 0=ib c W k-1:=by
 rw[List.getD_eq_getElem?_getD,G7 b];rfl
theorem Hr (h:c.Ok)(u:c.mode≠3)(hi:Inv c s)(e:mac a (pW c s)=O m'):(yg c a.1 a.2 s).1=0/\pW c (yg c a.1 a.2 s).2=m':=by
 obtain⟨a,n⟩:=a;have m:=hi.w;have Z:=hi.L;have hp:=hi.p;have hq:=hi.q;have Q:=h.ns;have H:ft (seg s.W (c.off 1)<|ft c.X)=ft c.X:=ew<|m.in' h (i:=1) V1;unfold mac pW at e;simp only[oW]at e;show(yg c a n s).1=0/\pW c (yg c a n s).2=m';by_cases y:a=1
 .subst y;rw[zE rfl]at e;by_cases b:1<=n/\n<=65535/\s.p+n<=s.L
  .rw[zE b]at e;injection e with e
   unfold yg;rw[zF (by rw[WI V1];simp),Zh,zE rfl,Zh];refine⟨rfl, ?_⟩;rw[<-e];unfold pW;simp only[DF<|Nl h m s.p<|fu n]
  rw[zF b]at e;cases e
 rw[zF y]at e;by_cases z:a=2
 .subst z;rw[zE rfl]at e;by_cases b:0<=n/\n<(fu c.ns:Int)/\(iC c s.W).getD (fu n) 0<0
  .rw[zE b]at e;injection e with e
   have g:fu n<fu c.ns:=by omega
   have⟨I,J,K⟩:=sw h u g;have⟨M,N⟩:=m.tk h;have r:=AA (c:=c) (W:=s.W) g;unfold yg;rw[zF V7,Zh,Zh,zE rfl,Zh];refine⟨rfl, ?_⟩;rw[<-e];unfold pW;simp only;rw[W7 g V9 (by rw[aD,H])]
   have hv:(IntKind.u64.wrap (IntKind.i64.wrap<|s.p+1)::seg s.W (c.off 1) (ft c.X)).getD 0 0=s.p+1:=by
    show IntKind.u64.wrap (IntKind.i64.wrap<|s.p+1)=_;rw[Zi,Zk]
   grind
  rw[zF b]at e;cases e
 rw[zF z]at e;by_cases A:a=3
 .subst A;rw[zE rfl]at e;by_cases b:0<=n/\n<(fu c.ns:Int)/\0<=(iC c s.W).getD (fu n) 0
  .rw[zE b]at e;injection e with e
   have g:fu n<fu c.ns:=by omega
   have⟨I,J,K⟩:=sw h u g;have⟨M,N⟩:=m.tk h;have r:=AA (c:=c) (W:=s.W) g;have V:ft (seg s.W (sp c (fu n)+1)<|ft c.X)=ft c.X:=ew V1;unfold yg;rw[zF V7,Zh,Zh,Zh,zE rfl,Zh];refine⟨rfl, ?_⟩;rw[<-e];unfold pW;simp only;rw[DF<|eY.put h (eY.refl s.W) m (i:=1) V1 (by rw[V];exact Nat.le_refl _),r]
  rw[zF b]at e;cases e
 rw[zF A]at e;by_cases C:a=4
 .subst C;rw[zE rfl]at e;by_cases b:0<=n/\n<(fu c.ns:Int)/\0<=(iC c s.W).getD (fu n) 0
  .rw[zE b]at e;injection e with e
   have g:fu n<fu c.ns:=by omega
   have⟨I,J,K⟩:=sw h u g;have⟨M,N⟩:=m.tk h;have r:=AA (c:=c) (W:=s.W) g;unfold yg;rw[zF V7,Zh,Zh,Zh,Zh,zE rfl,Zh];refine⟨rfl, ?_⟩;rw[<-e];unfold pW;simp only;rw[W7 g Z5<|cb _];rfl
  rw[zF b]at e;cases e
 rw[zF C]at e;by_cases D:a=5
 .subst D;rw[zE rfl]at e;by_cases b:n=0/\s.q= -1/\s.p=s.L
  .rw[zE b]at e;injection e with e
   unfold yg;rw[zF Z3,Zh,Zh,Zh,Zh,Zh,zE rfl,Zh,Zh];refine⟨rfl, ?_⟩;rw[<-e];unfold pW;simp only[DF<|J0 h m H]
  rw[zF b]at e;cases e
 rw[zF D]at e;by_cases E:a=6
 .subst E;rw[zE rfl]at e;by_cases b:n=0/\s.q= -1/\s.p=s.L-1
  .rw[zE b]at e;injection e with e
   unfold yg;rw[zF Z3,Zh,Zh,Zh,Zh,Zh,Zh,zE rfl,Zh,Zh];refine⟨rfl, ?_⟩;rw[<-e];unfold pW;simp only[DF (JZ h m s.p).1]
  rw[zF b]at e;cases e
 rw[zF E]at e;by_cases F:a=7
 .subst F;rw[zE rfl]at e;by_cases b:n=0/\0<s.q/\s.p=s.q-1
  .rw[zE b]at e;injection e with e
   unfold yg;rw[zF Z3,Zh,Zh,Zh,Zh,Zh,Zh,Zh,Zh,Zh];refine⟨rfl, ?_⟩;rw[<-e];unfold pW;simp only[DF (Nm h m s.p).1]
  rw[zF b]at e;cases e
 rw[zF F]at e;cases e
def du {α β:Type}{x:Option α}{a:α}{f:α->Option β}{r:Option β}(h:x=O a)(b:f a=r):x.bind f=r:=by rw[h];exact b
end
end
section
def LF {α γ:Type}{f:α->Option (α⊕γ)}{s s':α}{x:γ}(h:Reach f k s s')(b:k<18446744073709551615)(e:f s'=O (.inr x)):am f cj s=O x:=by
 have:=h<|18446744073709551616-k;rw[show 18446744073709551616-k+k=cj by unfold cj;omega,show 18446744073709551616-k=(18446744073709551615-k)+1 by omega]at this;rw[this,bh,e];rfl
section
variable {c:Cx}
end
end
section
open List renaming replicate->aB,eq_of_mem_replicate->aD,getElem?_eq_none->bB
section
variable {a0:Int} {a1 a2:Zd} {a3:Int} {a4:List bx} {a5:Int} {a6:List bx} {a7 a8 a9:Int}
theorem aX9 (m: ∀o∈a4,UC o)(p: ∀o∈a6,UC o): ∃b,mf a0 a1 a2 a3 a4 a5 a6 a7 a8=O b/\(b=Za->a7<=40∨65535<a7):=by
 rcases aX8 (a0:=a0) (a1:=a1) (a2:=a2) (a3:=a3) (a5:=a5) (a7:=a7) (a8:=a8) m p with h|⟨h,_⟩
 .exact⟨Zb,h,λk=>by cases k⟩
 refine⟨Za,h,λ_=> ?_⟩;by_cases e:a7<=40
 .exact .inl e
 by_cases g:65535<a7
 .exact .inr g
 exfalso;unfold mf at h;obtain⟨r,w,h⟩:=ai h;cases r with
 |false=>cases h
 |true=>
  rw[Bool.not_true,zD]at h;obtain⟨q,u,h⟩:=ai h
  simp_all
end
section
variable {c:Cx}
theorem Pj (h:c.Ok)(g:c.mode≠3)(e:gy c.mode (ft c.X) (ft c.T) c.R c.l c.Q c.k c.len c.words=(c.fixed,c.tp,c.sl,c.ns,0)):1<=c.ns:=by
 have n:=h.num;have m:=n.sl;rw[zF g]at m;unfold gy at e;rw[zF (by rw[h.hc];simp)]at e;by_cases b:c.words<sr (ft c.X) (ft c.T) c.R c.Q+rB c.mode c.l c.k+least c.mode c.len*rA c.mode (ft c.X) c.R c.l
 .rw[zE b]at e
  grind
 rw[zF b,zF g]at e;injection e with _ e
 injection e with _ e
 injection e with _ e
 injection e with e _
 unfold least at b;rw[zF g]at b;have p:rA c.mode (ft c.X) c.R c.l=c.sl:=h.sl.symm;rw[p]at e b;rw[<-e];exact(Int.le_ediv_iff_mul_le V1).2 V1
def aI4 (h:c.Ok)(e:c.mode≠3):iC c (new2 c).W=aB (fu c.ns) (-1):=by
 apply List.ext_getElem?;intro k;by_cases b:k<fu c.ns
 .rw[G7 b,J9 h e b,List.getElem?_replicate,zE b];rfl
 rw[bB (by rw[oW];omega),bB ZJ]
def Yd (h:c.Ok)(b:c.mode≠3):pW c (new2 c)=⟨c.len,0,-1,aB (fu c.ns)<|-1⟩:=by
 unfold pW;rw[aI4 h b];rfl
def aS1 (s:Nat):hld (aB s<|-1)=aB s Zb:=by
 unfold hld;rw[List.map_replicate];rfl
theorem aX0 {s:Nat}(r:l<=400)(m:1<=s): ∃m',Run Dt ⟨l,0,-1,aB s<|-1⟩ (if l=0 then [(5,0)]else pt (2*l) Zb l s 0 (aB s Zb) Za) m'/\Dt m'=Y/\m'.q=0/\ft (if l=0 then [((5:Int),(0:Int))]else pt (2*l) Zb l s 0 (aB s Zb) Za)<=2000:=by
 have p:nI (aB s<|-1)= -1:=LP V1 (λy e=>by rw[aD e];exact Int.le_refl _) (.inl rfl)
 have b: ∀L:Int,Dt ⟨L,0,0,aB s<|-1⟩=Y:=λL=>by
  unfold Dt
  grind
 by_cases g:l=0
 .subst g;rw[zE rfl];refine⟨⟨0,0,0,aB s<|-1⟩, .one ?_ ?_,b 0,rfl,V2⟩
  .unfold Dt
   grind
  rfl
 rw[zF g];refine⟨⟨l,0,0,aB s<|-1⟩, ?_,b l,rfl,by have:=(Ys<|2*l).1 l s 0 (aB s Zb) Za V1 V1<|λ_=>m;omega⟩;have:=(aH0<|2*l).1 l s 0 (aB s<|-1) Za l (-1) 0 (Nat.le_refl _) ⟨V1,V1,by rw[Zg];omega,λ_=>rfl,(λh=>by cases h),V1⟩ (λy e=>by rw[aD e];omega) (λy e=>by rw[aD e];omega) (by unfold Fg;rw[List.countP_replicate];simp)<|λ_=>m;rw[aS1]at this;exact this
def bu5 (h:c.Ok)(b:c.mode=1)(e:gy c.mode (ft c.X) (ft c.T) c.R c.l c.Q c.k c.len c.words=(c.fixed,c.tp,c.sl,c.ns,0)):kl c.mode c.X c.T c.R c.l c.Q c.k c.len c.words=O (.inr<|.inr<|.inl (c.mode,Zb,Zb,c.fixed,c.tp,c.sl,c.ns,c.mode,c.R,c.Q,c.len,c.words,c.len,c.X,c.T,c.l,c.k,c.P,c.tk,(c.off 8:Int),c.ns,(ft c.X:Int),c.fixed,c.fixed,c.words,(new2 c).W)):=by
 unfold kl;refine du (bt1 h V1 e) ?_
 refine du (show gR .. =O (.inl (c.mode,Zb,Zb))from by
  unfold gR;rw[show ix c.mode 4=O 1 from by rw[b];rfl]
  rfl) ?_
 rfl
def bu6 (h:c.Ok)(b:c.mode=2)(e:gy c.mode (ft c.X) (ft c.T) c.R c.l c.Q c.k c.len c.words=(c.fixed,c.tp,c.sl,c.ns,0)):kl c.mode c.X c.T c.R c.l c.Q c.k c.len c.words=O (.inr<|.inr<|.inr (c.mode,Zb,Zb,c.fixed,c.tp,c.sl,c.ns,c.mode,c.R,c.Q,c.len,c.words,c.len,c.X,c.T,c.l,c.k,c.P,c.tk,(c.off 8:Int),c.ns,(ft c.X:Int),c.fixed,c.fixed,c.words,(new2 c).W)):=by
 unfold kl;refine du (bt1 h V1 e) ?_
 refine du (show gR .. =O (.inr (c.mode,Zb,Zb))from by
  unfold gR;rw[show ix c.mode 4=O 2 from by rw[b];rfl]
  rfl) ?_
 rfl
def N6 {s:Nat}(b:1<=s)(e:k<65536):rO Zb ⟨k,k,-1,(cz s k).2⟩=Y:=by
 cases k with
 |zero=>exact(Y8 b).2
 |succ k=>exact(Y9 b e).2
end
end
section
open List renaming length_cons->aB
def iA (c:Cx)(i:Nat):Zd:=I4 c 0 c.X i
def iE (c:Cx)(L:Nat):Nat->Zd×Zd
 |0=>((yl c<|iA c L).take<|ft c.X,vq (ft c.X) (zeros<|ft c.T)<|yl c<|iA c L)
 |k+1=>((ru c ((L-(k+1):Nat):Int) (iA c<|L-(k+1)) (iE c L k).1).take<|ft c.X,vq (ft c.X) (iE c L k).2<|ru c ((L-(k+1):Nat):Int) (iA c<|L-(k+1)) (iE c L k).1)
section
variable {c:Cx} (h:c.Ok) (wT:ce c.T) (wX:ce c.X)
def Kw (i:Nat):iA c (i+1)=BA c (i:Int) (iA c i):=by
 show BA c (0+(i:Int)) _=_;rw[Int.zero_add];rfl
def af7 (i:Nat): ∀k,I4 c (i:Int) (iA c i) k=iA c (i+k)
 |0=>rfl
 |k+1=>by
  show BA c ((i:Int)+(k:Int)) (I4 c (i:Int) (iA c i) k)=_;rw[af7 i k,<-Nat.add_assoc,Kw]
  congr 1
def au2 (c:Cx)(s:Dy):Zd×Zd:=iE c (fu s.L)<|fu<|s.L-s.q
structure Jn (c:Cx)(s:Dy)(ax at':Zd):Prop where
 has:Has c s.W (iA c<|fu s.p) ax at'
 ini:s.q<0->at'=zeros (ft c.T)
 adj:0<=s.q->(ax,at')=au2 c s/\s.z=lossV c (iA c<|fu s.L)
def Sls (c:Cx)(s:Dy):Prop:= ∀k,k<fu c.ns->0<ib c s.W k->seg s.W (sp c k+1) (ft c.X)=iA c (fu<|ib c s.W k-1)
include h wT wX
theorem ny (i:Nat):ft (iA c i)=ft c.X/\ce (iA c i):=EX h wT rfl wX i
omit wT wX in
theorem Sls.kept (S:Sls c s)(b:eY c s.W s'.W):Sls c s':=λk g e=>by
 rw[b.tag]at e⊢;rw[b.seg ZZ];exact S k g e
omit wT wX in
theorem Sls.put (r:c.mode≠3)(S:Sls c s)(y:Wd c s.W)(z:k<fu c.ns){x:Zd}(C:ft x=ft c.X)(e:s'.W=put s.W (sp c k) (v::x))(A:0<v->x=iA c (fu<|v-1)):Sls c s':=λj q m=>by
 have⟨D,E,F⟩:=sw h r z;have⟨H,_,_⟩:=sw h r q;have⟨I,J⟩:=y.tk h;have p:ft (v::x)=ft c.X+1:=by rw[aB,C]
 have b:sp c k+ft (v::x)<=ft s.W:=by rw[p];omega
 rw[e]at m⊢;by_cases g:j=k
 .subst g;rw[Am b p]at m⊢;have m:0<v:=m
  have u:seg (Go.V.put s.W (sp c j)<|v::x) (sp c j+1) (ft c.X)=x:=by
   have:=I1 (n:=ft<|v::x) b<|Nat.le_refl _;rw[List.take_length,p]at this
   have w:seg (Go.V.put s.W (sp c j)<|v::x) (sp c j+1) (ft c.X)=(seg (Go.V.put s.W (sp c j)<|v::x) (sp c j)<|ft c.X+1).drop 1:=by
    unfold seg;rw[List.drop_take,List.drop_drop];rfl
   rw[w,this];rfl
  rw[u];exact A m
 .rw[Ns b p<|Ne.symm<|Ne.symm g]at m⊢
  rw[oG b (by
   rw[p];rcases Nat.lt_or_gt_of_ne g with h1|h1
   .have:=af5 (c:=c) h1;omega
   .have:=af5 (c:=c) h1
    omega)]
  exact S j q m
omit h wT wX in
theorem N4 {L q:Int}(p:0<q)(m:q<=L):iE c (fu L) (fu<|L-(q-1))=((ru c (q-1) (iA c<|fu<|q-1) (iE c (fu L)<|fu<|L-q).1).take<|ft c.X,vq (ft c.X) (iE c (fu L)<|fu<|L-q).2<|ru c (q-1) (iA c<|fu<|q-1) (iE c (fu L)<|fu<|L-q).1):=by
 have b:fu (L-(q-1))=fu (L-q)+1:=by omega
 have e:fu L-(fu (L-q)+1)=fu (q-1):=by omega
 have g:((fu (q-1):Nat):Int)=q-1:=by omega
 rw[b];show(_,_)=_;rw[e,g]
omit wT wX in
theorem Has.put8' {st:Zd}(H:Has c W st ax at'){w:Zd}(p:c.off 8<=o)(e:o+ft w<=c.off 9)(g:ce w):Has c (Go.V.put W o w) st ax at':=by
 have m:=H.wd.tk h;have q:=aD8 (c:=c) (i:=7) (j:=8) V1;have b:o+ft w<=ft W:=by omega
 have a1:=gH (c:=c) (i:=1) (j:=7) V1;have a5:=gH (c:=c) (i:=5) (j:=7) V1;have a6:=gH (c:=c) (i:=6) (j:=7) V1;have a0:=gH (c:=c) (i:=0) (j:=7) V1;refine⟨H.wd.put h e,H.w.put g _, ?_, ?_, ?_, ?_⟩
 .rw[oG b<|.inl (show 0+ft c.T<=o by have:c.off 0+c.sz 0=0+ft c.T:=rfl;omega)];exact H.t
 .rw[oG b<|.inl (show c.off 1+ft c.X<=o by have:c.sz 1=ft c.X:=rfl;omega)];exact H.s
 .rw[oG b<|.inl (show c.off 5+ft c.X<=o by have:c.sz 5=ft c.X:=rfl;omega)];exact H.x
 rw[oG b<|.inl (show c.off 6+ft c.T<=o by have:c.sz 6=ft c.T:=rfl;omega)];exact H.a
theorem bv9 (z:c.mode≠3)(hi:Inv c s)(J:Jn c s ax at')(S:Sls c s)(e:mac a (pW c s)=O m'): ∃y m,Jn c (yg c a.1 a.2 s).2 y m/\Sls c (yg c a.1 a.2 s).2:=by
 obtain⟨a,n⟩:=a;have u:=hi.w;have hL:=hi.L;have hp:=hi.p;have hq:=hi.q;have hns:=h.ns;have H:=J.has;have⟨F,I⟩:=ny h wT wX<|fu s.p;have D:ft (seg s.W (c.off 1)<|ft c.X)=ft c.X:=ew<|u.in' h (i:=1) V1;unfold mac pW at e;simp only[oW]at e;show∃y m,Jn c (yg c a n s).2 y m/\Sls c (yg c a n s).2
 by_cases K:a=1
 .subst K;rw[zE rfl]at e;by_cases b:1<=n/\n<=65535/\s.p+n<=s.L
  .unfold yg;rw[zF (by rw[WI V1];simp),Zh,zE rfl,Zh];refine⟨ax,at',⟨?_,J.ini,J.adj⟩,S.kept h<|Nl h u s.p<|fu n⟩;have:=H.advW h wT s.p<|fu n;have e2:=af7 (c:=c) (fu s.p) (fu n)
   grind
  rw[zF b]at e;cases e
 rw[zF K]at e;by_cases M:a=2
 .subst M;rw[zE rfl]at e;by_cases b:0<=n/\n<(fu c.ns:Int)/\(iC c s.W).getD (fu n) 0<0
  .have r:fu n<fu c.ns:=by omega
   have⟨A,s2,s3⟩:=sw h z r;have hg:=AA (c:=c) (W:=s.W) r;unfold yg;rw[zF V7,Zh,Zh,zE rfl,Zh];have hv:IntKind.u64.wrap (IntKind.i64.wrap<|s.p+1)=s.p+1:=by rw[Zi,Zk]
   refine⟨ax,at',⟨?_,J.ini,J.adj⟩, ?_⟩
   .refine H.put8' h ZZ (by rw[aB,D];exact A) ?_;intro v hv';rcases bf.1 hv' with rfl|hv'
    .exact LV _
    exact H.w.seg _ _ v hv'
   refine S.put h z u r D rfl λ_=> ?_
   rw[hv,H.s]
   congr 1
   omega
  rw[zF b]at e;cases e
 rw[zF M]at e;by_cases N:a=3
 .subst N;rw[zE rfl]at e;by_cases b:0<=n/\n<(fu c.ns:Int)/\0<=(iC c s.W).getD (fu n) 0
  .have r:fu n<fu c.ns:=by omega
   have⟨A,s2,s3⟩:=sw h z r;have⟨t1,t2⟩:=u.tk h;have hg:=AA (c:=c) (W:=s.W) r;have l2:ft (seg s.W (sp c (fu n)+1)<|ft c.X)=ft c.X:=ew V1;unfold yg;rw[zF V7,Zh,Zh,Zh,zE rfl,Zh];refine⟨ax,at',⟨?_,J.ini,J.adj⟩,S.kept h<|eY.put h (eY.refl s.W) u (i:=1) V1 (by rw[l2];exact Nat.le_refl _)⟩;have hs:=S (fu n) r V1;have:=H.put1 h l2<|H.w.seg _ _;rw[hs]at this⊢;exact this
  rw[zF b]at e;cases e
 rw[zF N]at e;by_cases Q:a=4
 .subst Q;rw[zE rfl]at e;by_cases b:0<=n/\n<(fu c.ns:Int)/\0<=(iC c s.W).getD (fu n) 0
  .have r:fu n<fu c.ns:=by omega
   have⟨A,s2,s3⟩:=sw h z r;have hg:=AA (c:=c) (W:=s.W) r;unfold yg;rw[zF V7,Zh,Zh,Zh,Zh,zE rfl,Zh];refine⟨ax,at',⟨?_,J.ini,J.adj⟩, ?_⟩
   .exact H.put8' h ZZ (by rw[cb];exact A) (ce.rep _)
   exact S.put h z u r (cb _) (show _=put s.W (sp c<|fu n) (0::zeros (ft c.X))from rfl) λg=>by omega
  rw[zF b]at e;cases e
 rw[zF Q]at e;by_cases V:a=5
 .subst V;rw[zE rfl]at e;by_cases b:n=0/\s.q= -1/\s.p=s.L
  .unfold yg;rw[zF Z3,Zh,Zh,Zh,Zh,Zh,zE rfl,Zh,Zh];have H2:=H.endd h wT F I;have C:=J.ini V1;refine⟨(yl c<|iA c<|fu s.p).take<|ft c.X,vq (ft c.X) at'<|yl c<|iA c<|fu s.p,⟨?_,λg=> ?_,λg=>⟨?_, ?_⟩⟩,S.kept h<|J0 h u D⟩
   .show Has c (Lg c s.W<|seg s.W (c.off 1)<|ft c.X) (iA c<|fu s.p) _ _;rw[H.s];exact H2
   .exfalso;have g:s.p<0:=g;omega
   .show _=iE c (fu s.L) (fu<|s.L-s.p);rw[show(fu<|s.L-s.p)=0 by omega,C,b.2.2];rfl
   show rg (lossR c s.W<|seg s.W (c.off 1)<|ft c.X).1 0=_;rw[H.s,H.lossV h wT,b.2.2]
  rw[zF b]at e;cases e
 rw[zF V]at e;by_cases Z:a=6
 .subst Z;rw[zE rfl]at e;by_cases b:n=0/\s.q= -1/\s.p=s.L-1
  .unfold yg;rw[zF Z3,Zh,Zh,Zh,Zh,Zh,Zh,zE rfl,Zh,Zh];have H2:=H.both h wT s.p;have C:=J.ini V1
   have E:BA c s.p (iA c<|fu s.p)=iA c (fu s.L):=by
    have:=Kw (c:=c) (fu s.p)
    grind
   rw[E]at H2;refine⟨_,_,⟨H2,λg=> ?_,λg=>⟨?_, ?_⟩⟩,S.kept h (JZ h u s.p).1⟩
   .exfalso;have g:s.p<0:=g;omega
   .show _=iE c (fu s.L) (fu<|s.L-s.p);have:=N4 (c:=c) (L:=s.L) (q:=s.L) V1<|Int.le_refl _;rw[b.2.2,this,show(fu<|s.L-s.L)=0 by omega,C];rfl
   show rg (lossR c (put s.W (c.off 2) (stepR c s.W s.p).1)<|(stepR c s.W s.p).1.take<|ft c.X).1 0=_;have H3:=H.taped h wT s.p;rw[H3.lossV h wT,H.stepR h,(BC h wT (t:=s.p) F I).2.2.2.2,E]
  rw[zF b]at e;cases e
 rw[zF Z]at e;by_cases h7:a=7
 .subst h7;rw[zE rfl]at e;by_cases b:n=0/\0<s.q/\s.p=s.q-1
  .unfold yg;rw[zF Z3,Zh,Zh,Zh,Zh,Zh,Zh,Zh,Zh,Zh];have H2:=H.rev h wT s.p;have⟨i1,i2⟩:=J.adj V1;unfold au2 at i1;refine⟨_,_,⟨H2,λg=> ?_,λg=>⟨?_,i2⟩⟩,S.kept h (Nm h u s.p).1⟩
   .exfalso;have g:s.p<0:=g;omega
   show _=iE c (fu s.L) (fu<|s.L-s.p);have:=N4 (c:=c) (L:=s.L) (q:=s.q) V1 V1;rw[b.2.2,this,<-i1]
  rw[zF b]at e;cases e
 rw[zF h7]at e;cases e
omit wX in
theorem bo6 (J:Jn c s ax at')(e:s.q=0)(m:0<=s.L):FP c s=(lossV c<|iA c<|fu s.L,0,(iE c (fu s.L)<|fu s.L).1,(iE c (fu s.L)<|fu s.L).2):=by
 have⟨b,g⟩:=J.adj V1;unfold au2 at b;rw[e,Int.sub_zero]at b;unfold FP;rw[Zh,g,J.has.x,J.has.a,<-b]
end
end
section
open List renaming length_append->aB,length_singleton->aD
theorem RS {l:Zd}(h:j≠i):rg (l.set j v) (i:Int)=rg l (i:Int):=by
 unfold rg
 grind
theorem Mv {l:Zd}(h:j<ft l):rg (l.set j v) (j:Int)=v:=by
 unfold rg
 grind
def Q8 (t:Zd): ∀(l:List bx) (r a a':Zd) (n:Nat),(Fc (ri t) l (r,a,n)).1=(Fc (ri t) l (r,a',n)).1/\(Fc (ri t) l (r,a,n)).2.2=(Fc (ri t) l (r,a',n)).2.2
 |[],_,_,_,_=>⟨rfl,rfl⟩
 |o::l,r,a,a',n=>by
  have⟨e,b⟩:=Q8 t l r a a' n;refine⟨?_, ?_⟩
  .show(Fc (ri t) l (r,a,n)).1.set (fu o.2.1) (rg t (((Fc (ri t) l (r,a,n)).2.2-1:Nat):Int))=_;rw[e,b];rfl
  .show(Fc (ri t) l (r,a,n)).2.2-1=_;rw[b];rfl
def ax1 (t:Zd)(l:List bx)(r a a':Zd)(n:Nat):(Fc (ri t) l (r,a,n)).1=(Fc (ri t) l (r,a',n)).1:=(Q8 t l r a a' n).1
theorem bx9 {a:Zd}: ∀(n:Nat) (l:List bx),ft l=n->∀(r e t:Zd),(∀o∈l,VC (ft r) o)->ft l<=ft e->(∀i,i<ft l->rg t (i:Int)=rg (pG iB l (r,e,0)).2.1 (i:Int))->(Fc (ri t) l ((pG iB l (r,e,0)).1,a,ft l)).1=r
 |0,l,p,r,e,t,_,_,_=>by
  have:=dl.1 p;subst this;rfl
 |n+1,l,p,r,e,t,C,F,u=>by
  obtain⟨b,o,rfl⟩: ∃b o,l=b++[o]:=⟨l.take n,l[n]' V1,by
   rw[<-List.take_succ_eq_append_getElem V1,List.take_of_length_le V1]⟩
  rw[aB,aD]at p F;have q:ft b=n:=by omega
  have⟨z,A,g⟩:=OX b (r,e,0);rw[Nf];have I:pG iB (b++[o]) (r,e,0)=iB o (pG iB b (r,e,0)):=by rw[Hz];rfl
  rw[I]at u⊢;have Z:=bx9 (a:=a) n b q r e t (λx L=>C x (by simp[L])) V1;have H: ∀y,(Fc (ri t) b ((pG iB b (r,e,0)).1,y,ft b)).1=(Fc (ri t) b ((pG iB b (r,e,0)).1,a,ft b)).1:=λy=>ax1 t b _ _ _ _
  have m:=C o V2;generalize pG iB b (r,e,0)=s at*;have z:ft s.1=ft r:=z;have A:ft s.2.1=ft e:=A;have g:s.2.2=ft b:=by rw[g];simp
  have⟨M,ka,kb,E,q2,q3,N,Q,V⟩:=B6 m;have K:=u (ft b) Zm
  have J: ∀i,i<ft b->rg t (i:Int)=rg s.2.1 (i:Int):=λi hi=>by
   rw[u i Zm];show rg (s.2.1.set s.2.2<|rg s.1 o.2.1) (i:Int)=_;exact RS V1
  have w:rg t ((ft b:Nat):Int)=rg s.1 (M:Int):=by
   rw[K];show rg (s.2.1.set s.2.2<|rg s.1 o.2.1) ((ft b:Nat):Int)=_;rw[g,E];exact Mv V1
  have D:(Fc (ri t) [o] ((iB o s).1,a,ft<|b++[o])).1=s.1/\(Fc (ri t) [o] ((iB o s).1,a,ft<|b++[o])).2.2=ft b:=by
   rw[aB,aD];refine⟨?_,by show ft b+1-1=_;omega⟩;show((s.1.set (fu o.2.1) _).set (fu o.2.1)<|rg t ((ft b+1-1:Nat):Int))=s.1;rw[E,Int.toNat_natCast,List.set_set,Nat.add_sub_cancel,w,aH5 V1]
  grind
section
variable {c:Cx} (h:c.Ok) (wT:ce c.T) (wX:ce c.X)
def Kps (c:Cx)(s:Dy):Prop:= ∀i:Nat,(i:Int)<iY s->Ce c s.W i=(jy c (i:Int)<|iA c i).1/\yt c s.W i=(jy c (i:Int)<|iA c i).2.1
include h
theorem Kps.kept (K:Kps c s)(b:eY c s.W s'.W)(e:iY s'<=iY s):Kps c s':=λi hi=>by
 unfold Ce yt;rw[b.seg ZG,b.seg ZG];exact K i V1
include wT wX
theorem XG (E:c.mode=3)(hi:InvB c s)(K:Kps c s)(F:0<s.q):(zp c s.W<|fu<|s.q-1).1.take (ft c.X)=iA c (fu<|s.q-1)/\True:=by
 refine⟨?_,trivial⟩;have⟨⟨H,I⟩,A,z,L,M,J⟩:=h.lens;have⟨u,w⟩:=K (fu<|s.q-1) (by unfold iY;rw[Zh];omega);generalize fu (s.q-1)=i at*;have⟨m,y⟩:=ny h wT wX i;have C:=vw (c:=c) (i:Int) m;have e:=h.pl.ulen;have p:=h.pl.goodU;unfold zp;rw[u,w];have b:ft (fill c.R<|wH c (i:Int)<|iA c i)=fu c.R:=fA V1;have:=bx9 (a:=fill c.R<|seg s.W (c.off 5)<|ft c.X) c.fl.n c.fl.unroll e.1 (fill c.R<|wH c (i:Int)<|iA c i) (zeros c.fl.n) (jy c (i:Int)<|iA c i).2.1 (λo r=>by rw[b];exact(p o r).1) Z5<|λj D=>rfl;rw[e.1]at this;show((Fc (ri (jy c (i:Int)<|iA c i).2.1) c.fl.unroll ((jy c (i:Int)<|iA c i).1,fill c.R<|seg s.W (c.off 5)<|ft c.X,c.fl.n)).1).take (ft c.X)=_;have g:(jy c (i:Int)<|iA c i).1=(pG iB c.fl.unroll (fill c.R<|wH c (i:Int)<|iA c i,zeros c.fl.n,0)).1:=rfl;rw[g,this];unfold fill wH
 grind
theorem bw0 (hm:c.mode=3)(hi:InvB c s)(J:Jn c s ax at')(K:Kps c s)(a n:Int): ∃M y,Jn c (GP c a n s).2 M y/\Kps c (GP c a n s).2:=by
 have C:=hi.w;have hp:=hi.p;have hq:=hi.q;have hLc:=hi.L;have nm:=h.num;have hns:=h.ns;have hb:=h.base hm;have H:=J.has;have⟨V,Z⟩:=ny h wT wX<|fu s.p;have hpp:((fu s.p:Nat):Int)=s.p:=by omega
 have l1:ft (seg s.W (c.off 1)<|ft c.X)=ft c.X:=ew<|C.in' h (i:=1) V1;unfold GP;by_cases h8:a=8
 .rw[zE h8];by_cases g:n≠0
  .rw[zE g];exact⟨ax,at',J,K⟩
  rw[zF g];by_cases m:0<=s.q
  .rw[zE m];exact⟨ax,at',J,K⟩
  rw[zF m];by_cases z:s.p=s.L
  .rw[zE z];exact⟨ax,at',J,K⟩
  rw[zF z];have⟨s1,s2,s3,s4⟩:=DD h hm (i:=fu s.p) V1;have⟨t1,t2⟩:=C.tk h;have⟨N,f2,Q,I,A⟩:=BC h wT (t:=s.p) V Z;have H2:=H.taped h wT s.p;rw[H.stepR h]at H2⊢;have b:ft ((jy c s.p<|iA c<|fu s.p).2.1++(jy c s.p<|iA c<|fu s.p).1)=fu c.sl:=by rw[aB,Q,I,s1]
  have ww:ce<|(jy c s.p<|iA c<|fu s.p).2.1++(jy c s.p<|iA c<|fu s.p).1:=f2.app N;have H3:=H2.put8' h (o:=jx c<|fu s.p) s4 (by rw[b];exact s3) ww
  have eS:iA c (fu<|s.p+1)=BA c s.p (iA c<|fu s.p):=by
   have:=Kw (c:=c) (fu s.p)
   grind
  have lt:ft ((jy c s.p<|iA c<|fu s.p).1.take<|ft c.X)=ft c.X:=by rw[A,(Ci h wT V Z).1]
  have H4:=H3.put1 h lt<|N.take _;rw[A]at H4 lt;refine⟨ax,at',⟨?_,J.ini,J.adj⟩,λi u=> ?_⟩
  .show Has c (put (put (put s.W (c.off 2) (jy c s.p<|iA c<|fu s.p).1) (jx c<|fu s.p)<|(jy c s.p<|iA c<|fu s.p).2.1++(jy c s.p<|iA c<|fu s.p).1) (c.off 1)<|(jy c s.p<|iA c<|fu s.p).1.take<|ft c.X) (iA c<|fu<|s.p+1) ax at';rw[A,eS];exact H4
  have u:(i:Int)<if s.q<0 then s.p+1 else s.q:=u
  rw[Zg]at u;have hW2:Wd c<|put s.W (c.off 2) (jy c s.p<|iA c<|fu s.p).1:=H2.wd;have hW3:=H3.wd
  have kK:eY c (put (put s.W (c.off 2) (jy c s.p<|iA c<|fu s.p).1) (jx c<|fu s.p)<|(jy c s.p<|iA c<|fu s.p).2.1++(jy c s.p<|iA c<|fu s.p).1)<|put (put (put s.W (c.off 2) (jy c s.p<|iA c<|fu s.p).1) (jx c<|fu s.p)<|(jy c s.p<|iA c<|fu s.p).2.1++(jy c s.p<|iA c<|fu s.p).1) (c.off 1)<|(jy c s.p<|iA c<|fu s.p).1.take<|ft c.X:=
   eY.put h (eY.refl _) hW3 (i:=1) V1 (by rw[A,lt];exact Nat.le_refl _)
  have E:eY c s.W<|put s.W (c.off 2) (jy c s.p<|iA c<|fu s.p).1:=eY.put h (eY.refl _) C (i:=2) V1<|Nat.le_of_eq Q;have⟨u1,u2⟩:=hW2.tk h;have e:jx c (fu s.p)+ft ((jy c s.p<|iA c<|fu s.p).2.1++(jy c s.p<|iA c<|fu s.p).1)<=ft (put s.W (c.off 2) (jy c s.p<|iA c<|fu s.p).1):=by rw[b];omega
  show seg (put (put (put s.W (c.off 2) (jy c s.p<|iA c<|fu s.p).1) (jx c<|fu s.p)<|(jy c s.p<|iA c<|fu s.p).2.1++(jy c s.p<|iA c<|fu s.p).1) (c.off 1)<|(jy c s.p<|iA c<|fu s.p).1.take<|ft c.X) (jx c i+c.fl.n) (fu c.R)=_/\seg (put (put (put s.W (c.off 2) (jy c s.p<|iA c<|fu s.p).1) (jx c<|fu s.p)<|(jy c s.p<|iA c<|fu s.p).2.1++(jy c s.p<|iA c<|fu s.p).1) (c.off 1)<|(jy c s.p<|iA c<|fu s.p).1.take<|ft c.X) (jx c i) c.fl.n=_;rw[kK.seg ZG,kK.seg ZG];by_cases hip:i=fu s.p
  .subst hip;rw[hpp];have e0:=vH e;rw[b]at e0;constructor
   .have e1:seg (put (put s.W (c.off 2) (jy c s.p<|iA c<|fu s.p).1) (jx c<|fu s.p)<|(jy c s.p<|iA c<|fu s.p).2.1++(jy c s.p<|iA c<|fu s.p).1) (jx c (fu s.p)+c.fl.n) (fu c.R)=(seg (put (put s.W (c.off 2) (jy c s.p<|iA c<|fu s.p).1) (jx c<|fu s.p)<|(jy c s.p<|iA c<|fu s.p).2.1++(jy c s.p<|iA c<|fu s.p).1) (jx c<|fu s.p)<|fu c.sl).drop c.fl.n:=by
     unfold seg;rw[List.drop_take,List.drop_drop,s1,show c.fl.n+fu c.R-c.fl.n=(fu c.R) by omega]
    rw[e1,e0,<-I,List.drop_left]
   rw[I1 e (by rw[b];omega),<-I,List.take_left]
  have hne:i<fu s.p:=by omega
  have hsh:jx c i+fu c.sl<=jx c (fu s.p):=by
   unfold jx;have:(i+1)*fu c.sl<=fu s.p*fu c.sl:=Nat.mul_le_mul_right _ hne;rw[Nat.succ_mul]at this;omega
  rw[oG e<|.inl V1,oG e<|.inl V1,E.seg ZG,E.seg ZG];exact K i (by unfold iY;rw[Zg];omega)
 rw[zF h8];by_cases h5:a=5
 .rw[zE h5];by_cases g:n≠0
  .rw[zE g];exact⟨ax,at',J,K⟩
  rw[zF g];by_cases m:0<=s.q
  .rw[zE m];exact⟨ax,at',J,K⟩
  rw[zF m];by_cases z:s.p≠s.L
  .rw[zE z];exact⟨ax,at',J,K⟩
  rw[zF z];have H2:=H.endd h wT V Z;have i0:=J.ini V1;have D:s.p=s.L:=by omega
  refine⟨(yl c<|iA c<|fu s.p).take<|ft c.X,vq (ft c.X) at'<|yl c<|iA c<|fu s.p,⟨?_,λr=> ?_,λr=>⟨?_, ?_⟩⟩,K.kept h (J0 h C l1) ?_⟩
  .show Has c (Lg c s.W<|seg s.W (c.off 1)<|ft c.X) (iA c<|fu s.p) _ _;rw[H.s];exact H2
  .exfalso;have r:s.L<0:=r;omega
  .show _=iE c (fu s.L) (fu<|s.L-s.L);rw[show(fu<|s.L-s.L)=0 by omega,i0,D];rfl
  .show rg (lossR c s.W<|seg s.W (c.off 1)<|ft c.X).1 0=_;rw[H.s,H.lossV h wT,D]
  show(if s.L<0 then s.p else s.L)<=if s.q<0 then s.p else s.q
  omega
 rw[zF h5];by_cases h9:a=9
 .rw[zE h9];by_cases g:n≠0
  .rw[zE g];exact⟨ax,at',J,K⟩
  rw[zF g];by_cases m:s.q<1
  .rw[zE m];exact⟨ax,at',J,K⟩
  rw[zF m];have hqp:=hi.qp V1;have⟨i1,i2⟩:=J.adj V1;unfold au2 at i1;have⟨G1,G2⟩:=ny h wT wX<|fu<|s.q-1;have hqq:((fu (s.q-1):Nat):Int)=s.q-1:=by omega
  have⟨k1,E⟩:=K (fu<|s.q-1) (by unfold iY;rw[Zh];omega);rw[hqq]at k1 E;have⟨hl1,hl2,hl3,hl4,hl5,hl6⟩:=H.lens h wT;have⟨N,f2,Q,I,A⟩:=BC h wT (t:=s.q-1) G1 G2
  have eB:(zp c s.W<|fu<|s.q-1).2.1=ru c (s.q-1) (iA c<|fu<|s.q-1) ax:=by
   unfold zp;rw[k1,E,H.x];rfl
  have⟨⟨q1,q2⟩,hR,hQ,x1,x2,t2⟩:=h.lens;have⟨p1,p2⟩:=Cc h wT (t:=s.q-1) G1 G2 hl2 hl5;have H2:=H.back h (a:=ru c (s.q-1) (iA c<|fu<|s.q-1) ax) V1 V1 p2;have⟨F,b2⟩:=XG h wT wX hm hi K V1;have H3:=H2.put1 h (w:=(zp c s.W<|fu<|s.q-1).1.take<|ft c.X) (by rw[F,G1]) (by rw[F];exact G2);have hb9:=O5 h (a:=ru c (s.q-1) (iA c<|fu<|s.q-1) ax) C V1 V1;refine⟨(ru c (s.q-1) (iA c<|fu<|s.q-1) ax).take<|ft c.X,vq (ft c.X) at'<|ru c (s.q-1) (iA c<|fu<|s.q-1) ax,⟨?_,λr=> ?_,λr=>⟨?_,i2⟩⟩,K.kept h ?_ ?_⟩
  .show Has c (put (Bf c s.W (zp c s.W<|fu<|s.q-1).2.1) (c.off 1)<|(zp c s.W<|fu<|s.q-1).1.take<|ft c.X) (iA c<|fu<|s.q-1) _ _;rw[F]at H3⊢;rw[eB];exact H3
  .exfalso;have r:s.q-1<0:=r;omega
  .show _=iE c (fu s.L) (fu<|s.L-(s.q-1));rw[N4 (c:=c) (L:=s.L) (q:=s.q) V1 V1,<-i1]
  .show eY c s.W (put (Bf c s.W (zp c s.W<|fu<|s.q-1).2.1) (c.off 1)<|(zp c s.W<|fu<|s.q-1).1.take<|ft c.X);rw[eB];exact eY.put h hb9 H2.wd (i:=1) V1 (by rw[F,G1];exact Nat.le_refl _)
  show(if s.q-1<0 then s.q-1 else s.q-1)<=if s.q<0 then s.p else s.q
  omega
 rw[zF h9];exact⟨ax,at',J,K⟩
end
end
section
open Nat renaming le_succ_of_le->aB
inductive Ev where
 |act (a:Int×Int)
 |more
 |stop
def pU :List Ev->List (Int×Int)
 |[]=>[]
 | .act a::r=>a::pU r
 |_::r=>pU r
def De : ∀a b:List Ev,pU (a++b)=pU a++pU b
 |[],b=>rfl
 | .act x::r,b=>congrArg (x:: ·) (De r b)
 | .more::r,b=>De r b
 | .stop::r,b=>De r b
def Df : ∀l:List<|Int×Int,pU (l.map .act)=l
 |[]=>rfl
 |x::r=>congrArg (x:: ·)<|Df r
def JG : ∀l:List Ev,ft (pU l)<=ft l
 |[]=>Nat.le_refl _
 | .act x::r=>Nat.succ_le_succ (JG r)
 | .more::r=>aB (JG r)
 | .stop::r=>aB<|JG r
def nxB (s:Dy):Option<|Int×Int:=if s.q<0 then(if s.p<s.L then O (8,0)else O (5,0))else if 0<s.q then O (9,0)else Y
def vM (c:Cx)(en:Bool)(s:Dy):Option<|Int×Int:=if c.mode=3 then nxB s else if c.mode=2 then rO en (pW c s)else Dt<|pW c s
def rR (c:Cx)(a:Int×Int)(s:Dy):Dy:=if c.mode=3 then(GP c a.1 a.2 s).2 else(yg c a.1 a.2 s).2
def vP (c:Cx)(a:Int×Int)(s:Dy):Prop:=if c.mode=3 then(GP c a.1 a.2 s).1=0 else∃m',mac a (pW c s)=O m'
def H6 (s:Dy):Dy:={s with L:=s.L+1}
inductive Way (c:Cx)(l:Nat):Nat->Bool->Dy->List Ev->Nat->Bool->Dy->Prop
 |nil (f:Nat) (en:Bool) (s:Dy):Way c l f en s [] f en s
 |act {f:Nat} {en:Bool} {s:Dy} {a:Int×Int} {es:List Ev} {f':Nat} {en':Bool} {s':Dy}:vM c en s=O a->vP c a s->Way c l f en (rR c a s) es f' en' s'->Way c l f en s (.act a::es) f' en' s'
 |more {f:Nat} {s:Dy} {es:List Ev} {f':Nat} {en':Bool} {s':Dy}:c.mode=2->vM c Zb s=Y->s.q= -1->s.L<65535->f<l->Way c l (f+1) Zb (H6 s) es f' en' s'->Way c l f Zb s (.more::es) f' en' s'
 |stop {f:Nat} {s:Dy} {es:List Ev} {f':Nat} {en':Bool} {s':Dy}:c.mode=2->vM c Zb s=Y->s.q= -1->f=l->Way c l (f+1) Za s es f' en' s'->Way c l f Zb s (.stop::es) f' en' s'
def Way.app {c:Cx}{es:List Ev}{r:Nat}{g:Bool}{w:Dy}(h:Way c l f en s es r g w): ∀{p:List Ev} {u:Nat} {m:Bool} {y:Dy},Way c l r g w p u m y->Way c l f en s (es++p) u m y:=by
 induction h with
 |nil=>exact λh=>h
 |act a b _ q=>exact λh=> .act a b (q h)
 |more a b c d e _ q=>exact λh=> .more a b c d e (q h)
 |stop a b c d _ q=>exact λh=> .stop a b c d<|q h
def di (c:Cx)(i:Nat)(s:Dy):Prop:=if c.mode=3 then Well1 c i s else Well2 c i s
def JE (c:Cx)(s:Dy):Prop:=(∃ax at',Jn c s ax at')/\if c.mode=3 then Kps c s else Sls c s
section
variable {c:Cx} (h:c.Ok)
include h
theorem lH (w:di c i s)(e:vM c en s=O a)(m:vP c a s):di c (i+1)<|rR c a s:=by
 unfold di rR vP at*;by_cases b:c.mode=3
 .simp only[zE b]at w m⊢;have:=w.act h b a;unfold aM9 at this
  have p:a.1≠0:=λg=>by
   unfold GP at m;rw[g]at m;simp at m
  rw[zF p]at this;exact this
 simp only[zF b]at w m⊢;have:=w.act h b a;unfold au0 at this
 have p:a.1≠0:=λg=>by
  obtain⟨m',m⟩:=m;unfold mac at m;rw[g]at m;simp at m
 rw[zF p]at this;exact this
theorem wV (w:di c i s)(e:c.mode=2)(g:s.q= -1)(b:s.L<65535):di c (i+1)<|H6 s:=by
 unfold di at*;rw[Zh]at*;have:=w.act h V1 (0,0);unfold au0 zr at this;rw[zE rfl,Zh,Zh,Zh]at this;exact this
theorem Xh (p:i<=j)(w:di c i s):di c j s:=by
 have m:FT (65536*i) s->FT (65536*j) s:=λk=>by
  have⟨a,b,d,e⟩:=k;unfold FT;omega
 unfold di at*;split
 .rename_i g;rw[zE g]at w;exact⟨w.inv,m w.cnt⟩
 rename_i g;rw[zF g]at w;exact⟨w.inv,m w.cnt,w.len⟩
theorem Way.well {es:List Ev}{r:Nat}{q:Bool}(H:Way c l f en s es r q s'): ∀{i:Nat},di c i s->di c (i+es.length) s':=by
 have m: ∀(i:Nat) (e:Ev) (es:List Ev),i+(e::es).length=i+1+es.length:=λi e es=>by
  rw[List.length_cons];omega
 induction H with
 |nil=>exact λw=>w
 |act a b _ p=>
  intro i w;rw[m];exact p (lH h w a b)
 |more a b d e g _ p=>
  intro i w;rw[m];exact p (wV h w a d e)
 |stop a b d e _ p=>
  intro i w;rw[m];exact p<|Xh h (Nat.le_succ i) w
theorem bm3 (wT:ce c.T)(wX:ce c.X)(w:di c i s)(J:JE c s)(m:vP c a s):JE c<|rR c a s:=by
 unfold di JE rR vP at*;obtain⟨⟨ax,at',J⟩,K⟩:=J;by_cases e:c.mode=3
 .simp only[zE e]at w m K⊢;have⟨g,b,p,q⟩:=bw0 h wT wX e w.inv J K a.1 a.2;exact⟨⟨_,_,p⟩,q⟩
 simp only[zF e]at w m K⊢;obtain⟨m',m⟩:=m;have⟨g,b,p,q⟩:=bv9 h wT wX e w.inv J K m;exact⟨⟨_,_,p⟩,q⟩
omit h in
theorem aS5 (J:JE c s)(e:c.mode=2)(g:s.q= -1):JE c<|H6 s:=by
 obtain⟨⟨ax,at',J⟩,K⟩:=J;unfold JE;rw[Zh]at*;exact⟨⟨ax,at',J.has,J.ini,λb=>by have b:0<=s.q:=b;omega⟩,K⟩
theorem Way.je (wT:ce c.T)(wX:ce c.X){es:List Ev}{q:Nat}{p:Bool}(H:Way c l f en s es q p s'): ∀{i:Nat},di c i s->JE c s->JE c s':=by
 induction H with
 |nil=>exact λ_ J=>J
 |act a b _ m=>exact λw J=>m (lH h w a b) (bm3 h wT wX w J b)
 |more a b d e g _ m=>exact λw J=>m (wV h w a d e) (aS5 J a d)
 |stop a b d e _ m=>exact λw J=>m w J
theorem Nv (b:c.mode≠3){u:Mc->Option (Int×Int)}(g: ∀s,vM c en s=u (pW c s)){m:Mc}{k:List<|Int×Int}(R:Run u m k m'): ∀{i:Nat} (s:Dy),pW c s=m->di c i s->∃s',Way c l f en s (k.map .act) f en s'/\pW c s'=m':=by
 induction R with
 |nil=>exact λs e _=>⟨s, .nil _ _ _,e⟩
 | @cons E F H a k y q _ A=>
  intro i s e w;subst e;have r:vM c en s=O a:=(g s).trans y
  have mm:vP c a s:=by
   unfold vP;rw[zF b];exact⟨_,q⟩
  have p:=w;unfold di at p;rw[zF b]at p;have z:=(Hr h b p.inv q).2;have⟨s',C,D⟩:=A (rR c a s) (by unfold rR;rw[zF b];exact z)<|lH h w r mm;exact⟨s', .act r mm C,D⟩
def oV (c:Cx):Dy:=if c.mode=3 then new1 c else new2 c
theorem nB :di c 0<|oV c:=by
 unfold di oV;split
 .rename_i b;exact Sc h b [] 0
 rename_i b;exact Sd h b [] 0
theorem Q4 {l:Nat}{f:Nat}(g:c.mode=3): ∀(n:Nat) {i:Nat} (s:Dy),di c i s->s.q= -1->s.L-s.p=n->∃s',Way c l f Zb s (List.replicate n<|.act (8,0)) f Zb s'/\s'.q= -1/\s'.p=s.L/\s'.L=s.L
 |0,i,s,w,m,r=>⟨s, .nil _ _ _,m,V1,rfl⟩
 |n+1,i,s,w,m,r=>by
  have e:vM c Zb s=O (8,0):=by
   unfold vM nxB
   grind
  have C:GP c 8 0 s=(0,(GP c 8 0 s).2):=by
   unfold GP
   grind
  have D:(GP c 8 0 s).2.q=s.q/\(GP c 8 0 s).2.p=s.p+1/\(GP c 8 0 s).2.L=s.L:=by
   unfold GP
   grind
  have mm:vP c (8,0) s:=by
   unfold vP
   grind
  have b:rR c (8,0) s=(GP c 8 0 s).2:=by unfold rR;rw[zE g]
  obtain⟨s',u,y,z,A⟩:=Q4 g n (rR c (8,0) s) (lH h w e mm) (by rw[b];omega) (by rw[b];omega);rw[b]at z A;exact⟨s', .act e mm u,y,V1,V1⟩
theorem Q3 {l:Nat}{f:Nat}(b:c.mode=3): ∀(n:Nat) {i:Nat} (s:Dy),di c i s->s.q=n->∃s',Way c l f Zb s (List.replicate n<|.act (9,0)) f Zb s'/\s'.q=0/\s'.L=s.L
 |0,i,s,w,p=>⟨s, .nil _ _ _,V1,rfl⟩
 |n+1,i,s,w,p=>by
  have e:vM c Zb s=O (9,0):=by
   unfold vM nxB
   grind
  have m:(GP c 9 0 s).1=0/\(GP c 9 0 s).2.q=s.q-1/\(GP c 9 0 s).2.L=s.L:=by
   unfold GP
   grind
  have mm:vP c (9,0) s:=by
   unfold vP;rw[zE b];exact m.1
  have g:rR c (9,0) s=(GP c 9 0 s).2:=by unfold rR;rw[zE b]
  obtain⟨s',r,u,y⟩:=Q3 b n (rR c (9,0) s) (lH h w e mm) (by rw[g];omega);rw[g]at y;exact⟨s', .act e mm r,u,V1⟩
end
end
section
open List renaming replicate->aB,length_map->aD,length_append->bD,length_cons->cB,length_replicate->cD,replicate_append_replicate->cK
open Nat renaming le_refl->bB
section
variable {c:Cx}
theorem RV {N n:Nat}(h:o+n<=N):seg (zeros N) o n=zeros n:=by
 unfold seg zeros
 grind
def ap4 {N n:Nat}(h:o+n<=N):put (zeros N) o (zeros n)=zeros N:=by
 unfold put zeros;rw[List.take_replicate,List.drop_replicate,cD,cK,cK,Nat.min_eq_left V1]
 congr 1
 omega
def aR9 (h:c.Ok)(wT:ce c.T)(wX:ce c.X):Has c (TG c<|zeros<|fu c.words) c.X (zeros<|ft c.X)<|zeros<|ft c.T:=by
 have b:Wd c<|zeros<|fu c.words:=cb _;have e:=b.tk h;rw[cb]at e;have q:=gH (c:=c) (show 5<9 by omega);have r:=gH (c:=c) (show 6<9 by omega);have p:=gH (c:=c) (show 0<9 by omega);have g:ft c.T<=c.sz 0:=bB _;have m:=b.put h (o:=c.off 0) (w:=c.T) (by have:c.sz 0=ft c.T:=rfl;omega);unfold TG
 have H0:Has c (put (zeros<|fu c.words) (c.off 0) c.T) (seg (put (zeros<|fu c.words) (c.off 0) c.T) (c.off 1)<|ft c.X) (zeros<|ft c.X)<|zeros<|ft c.T:=by
  refine⟨m,(ce.rep _).put wT _, ?_,rfl, ?_, ?_⟩
  .exact vH (R0 h b V1 g)
  .rw[Bx h b (n:=ft c.X) (i:=0) (j:=5) V1 V1 V1 (bB _) g];exact RV (by have:c.sz 5=ft c.X:=rfl;omega)
  rw[Bx h b (n:=ft c.T) (i:=0) (j:=6) V1 V1 V1 (bB _) g];exact RV (by have:c.sz 6=ft c.T:=rfl;omega)
 exact H0.put1 h rfl wX
end
section
variable {c:Cx} (h:c.Ok)
include h
theorem aE9 (m:c.mode=2)(M:1<=c.ns)(y:c.len=0){l:Nat}(K:l<=400): ∀k,k<=l->∃s es,Way c l 0 Zb (new2 c) es k Zb s/\pW c s=⟨k,k,-1,(cz (fu c.ns) k).2⟩/\ft es=ft (cz (fu c.ns) k).1+k/\pU es=(cz (fu c.ns) k).1
 |0,J=>by
  have r:=Yd h V1;rw[y]at r;have w0:=nB h;unfold oV at w0;rw[Zh]at w0;have b: ∀s,vM c Zb s=rO Zb (pW c s):=λs=>by unfold vM;rw[Zh,zE m]
  obtain⟨s,u,e⟩:=Nv h (l:=l) (f:=0) V1 b (Y8 (s:=fu c.ns) V1).1 (new2 c) r w0;exact⟨s,_,u,e,by rw[aD,Nat.add_zero],by rw[Df]⟩
 |k+1,J=>by
  have⟨s,es,u,e,A,C⟩:=aE9 m M y K k V1;have b: ∀s,vM c Zb s=rO Zb (pW c s):=λs=>by unfold vM;rw[Zh,zE m]
  have g:ft (cz (fu c.ns)<|k+1).1=ft (cz (fu c.ns) k).1+ft ([(1,1)]++(qF (k+1) (cz (fu c.ns) k).2).1):=by
   show(ft<|(cz (fu c.ns) k).1++[(1,1)]++(qF (k+1) (cz (fu c.ns) k).2).1)=_
   grind
  have z:=N6 (s:=fu c.ns) (k:=k) V1 V1;rw[<-e]at z;have w:s.q= -1:=congrArg Mc.q e;have D:s.L=(k:Int):=congrArg Mc.L e;have E:s.p=(k:Int):=congrArg Mc.p e;have F:iC c s.W=(cz (fu c.ns) k).2:=congrArg Mc.t e;have w0:=nB h;unfold oV at w0;rw[Zh]at w0;have V:=u.well h w0;have Z:=wV h V m w V1
  have H:pW c (H6 s)=⟨(k:Int)+1,k,-1,(cz (fu c.ns) k).2⟩:=by
   show Mc.mk (s.L+1) s.p s.q (iC c s.W)=_;rw[D,E,w,F]
  have⟨Q,N,I⟩:=Nv h (l:=l) (f:=k+1) V1 b (Y9 (s:=fu c.ns) (k:=k) V1 V1).1 (H6 s) H Z;refine⟨Q,es++ .more::([(1,1)]++(qF (k+1) (cz (fu c.ns) k).2).1).map .act,u.app<|.more m ((b s).trans z) w V1 V1 N,I, ?_, ?_⟩
  .rw[bD,cB,aD,A,g];omega
  .rw[De];show pU es++pU (([(1,1)]++(qF (k+1) (cz (fu c.ns) k).2).1).map .act)=_;rw[Df,C];exact(List.append_assoc _ _ _).symm
theorem X8 (e:c.mode=2):c.len=0:=by
 have hc:=h.hc;have b:=h.num.len;unfold su at hc;split at hc
 .rename_i k;exact absurd hc k
 split at hc
 .rename_i k;exact absurd hc k
 split at hc
 .rename_i k;exact absurd hc k
 split at hc
 .rename_i k;exact absurd hc k
 rename_i k;unfold hk3 at k;omega
def B9 (c:Cx)(l:Nat):List<|Int×Int:=if c.mode=3 then aB l (8,0)++(5,0)::aB l (9,0)else if c.mode=2 then(cz (fu c.ns) l).1++Fb l (cz (fu c.ns) l).2 else if l=0 then [(5,0)]else pt (2*l) Zb l (fu c.ns) 0 (aB (fu c.ns) Zb) Za
structure Fin (c:Cx)(l:Nat)(f:Nat)(en:Bool)(s:Dy)(es:List Ev):Prop where
 no:vM c en s=Y
 q:s.q=0
 L:s.L=l
 len:ft es<=(l+1)*(l+2)+8*l+2010
 ls:pU es=B9 c l
 en:c.mode=2->en=Za
theorem aY9 (e:gy c.mode c.X.length c.T.length c.R c.l c.Q c.k c.len c.words=(c.fixed,c.tp,c.sl,c.ns,0))(hl:l<=400)(m:c.mode≠2->c.len=l): ∃es f en s,Way c l 0 Zb (oV c) es f en s/\Fin c l f en s es:=by
 have nm:=h.num.mode;have w0:=nB h;have hns:=h.ns;by_cases b:c.mode=3
 .have K:=m V1;have I:oV c=new1 c:=by unfold oV;rw[zE b]
  rw[I]at w0⊢;obtain⟨g,r,q1,p1,L1⟩:=Q4 h (l:=l) (f:=0) b l (new1 c) w0 rfl (by show c.len-0=_;omega);have L1:g.L=c.len:=L1;have p1:g.p=c.len:=p1;have C:=r.well h w0
  have E:vM c Zb g=O (5,0):=by
   unfold vM nxB
   grind
  have H:(GP c 5 0 g).1=0/\(GP c 5 0 g).2.q=g.L/\(GP c 5 0 g).2.L=g.L:=by
   unfold GP
   grind
  have mm:vP c (5,0) g:=by
   unfold vP;rw[zE b];exact H.1
  have N:rR c (5,0) g=(GP c 5 0 g).2:=by unfold rR;rw[zE b]
  have D:=lH h C E mm;obtain⟨F,r2,q2,L2⟩:=Q3 h (l:=l) (f:=0) b l (rR c (5,0) g) D (by rw[N];omega);rw[N]at L2;refine⟨_,_,_,F,r.app<|.act E mm r2, ?_,q2,V1, ?_, ?_,λk=>by omega⟩
  .unfold vM nxB
   grind
  .rw[bD,cB,cD,cD];omega
  unfold B9;rw[zE b,De];have V: ∀x,pU (aB l<|Ev.act x)=aB l x:=λx=>by rw[<-Df (aB l x),List.map_replicate]
  show _++_::pU (aB l<|Ev.act (9,0))=_;rw[V,V]
 have hn:=Pj h b e;have I:oV c=new2 c:=by unfold oV;rw[zF b]
 rw[I]at w0⊢;by_cases h1:c.mode=1
 .have K:=m V1;have A: ∀s,vM c Zb s=Dt (pW c s):=λs=>by unfold vM;rw[zF b,Zh]
  obtain⟨m',R,M,hq,hR⟩:=aX0 (l:=l) (s:=c.ns.toNat) V1 V1;have z:=Yd h b;rw[K]at z;obtain⟨s,r,w⟩:=Nv h (l:=l) (f:=0) b A R (new2 c) z w0;have C:=r.well h w0;refine⟨_,_,_,s,r,(A s).trans (by rw[w];exact M), ?_, ?_,by rw[aD];omega, ?_,λk=>by omega⟩
  .rw[<-hq,<-w];rfl
  .have D:=C;unfold di at D;rw[zF b]at D;exact(D.len V1).trans K
  unfold B9;rw[Df,zF b,zF (show¬c.mode=2 by omega)]
 have y:c.mode=2:=by omega
 have u: ∀en s,vM c en s=rO en (pW c s):=λen s=>by unfold vM;rw[zF b,zE y]
 have hal:=Er c.ns.toNat l;have hbk:=Tj (pX l (cz c.ns.toNat l).2.length) (cz c.ns.toNat l).2 l
 have hbl:(Fb l (cz c.ns.toNat l).2).length<=4*l+2/\1<=(Fb l (cz c.ns.toNat l).2).length:=by
  unfold Fb UA
  grind
 obtain⟨s,es,r,w,E,H⟩:=aE9 h y hn (X8 h y) hl l<|bB _;have Z:=N6 (s:=c.ns.toNat) (k:=l) V1 V1;rw[<-w]at Z;obtain⟨b1,b2⟩:=av7 (l:=l) (s:=c.ns.toNat) V1 V1;have C:=r.well h w0;obtain⟨F,r3,J⟩:=Nv h (l:=l) (f:=l+1) b (u Za) b1 s w C;refine⟨_,_,_,F,r.app<|.stop y ((u Zb s).trans Z) (congrArg Mc.q w) rfl r3,(u Za F).trans (by rw[J];exact b2),congrArg Mc.q J,congrArg Mc.L J, ?_, ?_,λ_=>rfl⟩
 .rw[bD,cB,aD,E];omega
 unfold B9;rw[De,zF b,zE y,H];show _++pU ((Fb l (cz c.ns.toNat l).2).map .act)=_;rw[Df]
omit h in
theorem Fin.le {es:List Ev}(F:Fin c l f en s es)(e:l<=40):ft es<=6000:=by
 have:=F.len;have b:(l+1)*(l+2)<=41*42:=Nat.mul_le_mul V1 V1;omega
theorem bm4 (wT:ce c.T)(wX:ce c.X):JE c<|oV c:=by
 have u:Wd c<|zeros<|fu c.words:=cb _;have m:=u.tk h;rw[cb]at m;have H:=aR9 h wT wX;unfold JE oV;by_cases g:c.mode=3
 .simp only[zE g];exact⟨⟨_,_,H,λ_=>rfl,λb=>by have b:(0:Int)<= -1:=b;omega⟩,λi hi=>by have hi:(i:Int)<0:=hi;omega⟩
 simp only[zF g];have e:put (zeros<|fu c.words) (c.off 8) (zeros<|fu<|c.sl*c.ns)=zeros (fu c.words):=ap4 (by have:=Pk (c:=c);omega)
 have p:(new2 c).W=TG c (zeros<|fu c.words):=by
  show TG c (put (zeros<|fu c.words) (c.off 8)<|zeros<|fu<|c.sl*c.ns)=_;rw[e]
 refine⟨⟨zeros<|ft c.X,zeros<|ft c.T,by rw[p];exact H,λ_=>rfl,λb=>by have b:(0:Int)<= -1:=b;omega⟩,λk q r=> ?_⟩;rw[J9 h g q]at r;omega
end
end
section
open Go.IntKind renaming wrap->zH,i64->zI,u64->zJ
def aI3 (s x:Int):Int:=(3*s+x) % 18446744073709551616
def S36 (l:Zd):Int:=l.foldl aI3 1
def WK (a b:Int):AK [a,b]=O (a*b % 18446744073709551616):=by
 unfold AK;rw[Lu (l:=[a,b]) (λs x=>s*x % 18446744073709551616) 1 (c:=id) V2 ?_ ?_]
 .simp only[zG,List.foldl,id];rw[Int.one_mul,Int.mul_emod,Int.emod_emod_of_dvd _<|Int.dvd_refl _,<-Int.mul_emod]
 .intro i hi s;simp only[H9,ah];rw[Zg,bq hi,zG,ad (by simp at hi;omega),ag5];rfl
 intro s;rfl
def WJ (a b:Int):AJ [a,b]=O ((a+b) % 18446744073709551616):=by
 unfold AJ;rw[Lu (l:=[a,b]) (λs x=>(s+x) % 18446744073709551616) 0 (c:=id) V2 ?_ ?_]
 .simp only[zG,List.foldl,id]
  congr 1
  omega
 .intro i hi s;simp only[H8,ah];rw[Zg,bq hi,zG,ad (by simp at hi;omega),ag5];rfl
 intro s;rfl
def af9 (s x:Int):(s*3 % 18446744073709551616+x) % 18446744073709551616=aI3 s x:=by
 unfold aI3;omega
def X1 (l:Zd)(b:ft l<9223372036854775807):zx l=O (S36 l):=by
 unfold zx;rw[Lu (l:=l) aI3 1 (c:=id) b ?_ ?_]
 .rfl
 .intro i hi s;simp only[yB,ah];rw[Zg,bq hi];simp only[zG,WK,WJ,af9];rw[Zi];rfl
 intro s;simp only[yB,ah];rw[Zh];rfl
def W36 (h l:Zd):Zd:=h++(ft l:Int)::l++[S36<|h++(ft l:Int)::l]
def ED (l:Zd)(a1 a2 a3 a4 a5 a6 a7 a8 a9 a10 a11 a12 a13 a14 a15 a16:Int)(m:ft l<=1048576):qa l a1 a2 a3 a4 a5 a6 a7 a8 a9 a10 a11 a12 a13 a14 a15 a16=
  O (W36 [a1,a2,a3,a4,a5,a6,a7,a8,a9,a10,a11,a12,a13,a14,a15,a16] l):=by
 unfold qa W36;rw[ad (show-9223372036854775808<=(16+((ft l:Nat):Int))/\(16+((ft l:Nat):Int))<=9223372036854775807 by omega),Zi,wY V1];have g:Dh (List.replicate 16 (0:Int)) 0 (List.length<|List.replicate 16 (0:Int)) [a1,a2,a3,a4,a5,a6,a7,a8,a9,a10,a11,a12,a13,a14,a15,a16]=[a1,a2,a3,a4,a5,a6,a7,a8,a9,a10,a11,a12,a13,a14,a15,a16]:=rfl;rw[g];have b:Zc (16<=16+(ft l:Int)+2)=Za:=zB V1;have e:Zc ((8:Int)*(16+(ft l:Int)+2)<=140737488355328)=Za:=zB V1;rw[b,e];show gd Za _=_;rw[bp,au V2 V1,au V3 V1,X1 _ V3,zG,au V3 V1];simp only[List.append_assoc,List.singleton_append]
def aa1 (e:Int):Int×Int×Int×Int×Int×Int×Int×Int×Int×Int×Int×Int×Int×Int×Int×Int×Int×Zd:=(0,0,0,0,0,0,0,0,0,0,0,0,0,0,0,0,e,[])
def TQ (w:Zd):Int×Int×Int×Int×Int×Int×Int×Int×Int×Int×Int×Int×Int×Int×Int×Int×Int×Zd:=
 if ft w<18 then aa1 4 else if(ft w:Int)-18<w.getD 16 0 then aa1 4 else if w.getD 16 0<(ft w:Int)-18 then aa1 21
 else if w.getD (ft w-1) 0≠S36 (w.take<|ft w-1)then aa1 3 else(w.getD 0 0,w.getD 1 0,w.getD 2 0,w.getD 3 0,w.getD 4 0,w.getD 5 0,w.getD 6 0,w.getD 7 0,w.getD 8 0,w.getD 9 0,w.getD 10 0,w.getD 11 0,w.getD 12 0,w.getD 13 0,w.getD 14 0,w.getD 15 0,0,(w.take<|ft w-1).drop 17)
theorem Mm (w:Zd)(r:ft w<=2000000):kt w=O (TQ w):=by
 unfold kt TQ;rw[wY (show ft w<9223372036854775808 by omega)];simp only[ah];by_cases q:ft w<18
 .rw[Zg,zE q];rfl
 rw[Zh,zF q,Zk,ad (show-9223372036854775808<=(ft w:Int)-1/\(ft w:Int)-1<=9223372036854775807 by omega),show rd w 16=O (w.getD 16 0)from rh (i:=16) V1];simp only[zG,ah];by_cases g:(ft w:Int)-18<w.getD 16 0
 .rw[zE g,zE g];rfl
 rw[zF g,zF g];by_cases m:w.getD 16 0<(ft w:Int)-18
 .rw[zE m,zE m];rfl
 rw[zF m,zF m]
 have b:am (qK w) cj (0,1)=O (S36<|w.take<|ft w-1):=by
  refine bz (n:=ft w-1) (λi=>(w.take i).foldl aI3 1) V1 ?_ ?_
  .intro i hi;have e:i<ft w:=by omega
   simp only[qK,ah];rw[Zg,bq e,ad (show-9223372036854775808<=(ft w:Int)-1/\(ft w:Int)-1<=9223372036854775807 by omega)];simp only[zG,WK,WJ,af9];rw[Zh,Zi,List.take_succ_eq_append_getElem e,List.foldl_append];rfl
  simp only[qK,ah];rw[Zg,bq V1,ad (show-9223372036854775808<=(ft w:Int)-1/\(ft w:Int)-1<=9223372036854775807 by omega),zG,Zg];rfl
 rw[b,show rd w ((ft w:Int)-1)=O (w.getD (ft w-1) 0)from by rw[<-rh V1];congr 1;omega];simp only[zG,ah];by_cases p:w.getD (ft w-1) 0≠S36 (w.take<|ft w-1)
 .rw[zE p,zE p];rfl
 rw[zF p,zF p];unfold eU aj pV;rw[zB (show(0:Int)<=17 by omega),zB (show(17:Int)<=(ft w:Int)-1 by omega),zB (show(ft w:Int)-1<=(ft w:Int)by omega)];show gd Za _=_;rw[bp,au V3 V1]
 grind
def S8 {h l:Zd}(b:ft h=16):ft (W36 h l)=ft l+18:=by
 simp[W36,b];omega
def at9 {h l:Zd}(b:ft h=16):(W36 h l).take (ft l+17)=h++(ft l:Int)::l:=by
 unfold W36;rw[List.take_append_of_le_length (by simp[b];omega),List.take_of_length_le (by simp[b];omega)]
theorem at8 {h l:Zd}(b:ft h=16):(W36 h l).getD (ft l+17) 0=S36 (h++(ft l:Int)::l):=by
 unfold W36;rw[List.getD_eq_getElem?_getD,List.getElem?_append_right (by simp[b];omega)]
 grind
theorem bh7 {h l:Zd}(b:ft h=16):(W36 h l).getD 16 0=ft l:=by
 unfold W36
 grind
def aG3 (l:Zd)(a1 a2 a3 a4 a5 a6 a7 a8 a9 a10 a11 a12 a13 a14 a15 a16:Int):TQ (W36 [a1,a2,a3,a4,a5,a6,a7,a8,a9,a10,a11,a12,a13,a14,a15,a16] l)=(a1,a2,a3,a4,a5,a6,a7,a8,a9,a10,a11,a12,a13,a14,a15,a16,0,l):=by
 have b:ft [a1,a2,a3,a4,a5,a6,a7,a8,a9,a10,a11,a12,a13,a14,a15,a16]=16:=rfl;unfold TQ;rw[S8 b,bh7 b,Zh,Zh,Zh,show ft l+18-1=ft l+17 by omega,at8 b,at9 b,zF V2];rfl
def S7 {a0:Int}{a1 a2:Zd}{a3:Int}{a4:List bx}{a5:Int}{a6:List bx}{a7 a8:Int}{l:Zd}{r y z A C D E F H I b e g m p q:Int}(J:l.length<=1048576):
  me a0 a1 a2 a3 a4 a5 a6 a7 a8 (W36 [r,y,z,A,C,D,E,F,H,I,b,e,g,m,p,q] l)=iG a0 a1 a2 a3 a4 a5 a6 a7 a8 l r y z A C D E F H I b e g m p q:=by
 unfold me;rw[Mm _ (by rw[S8 rfl];omega),aG3];simp only[zG];rw[zA V2,zD];cases iG a0 a1 a2 a3 a4 a5 a6 a7 a8 l r y z A C D E F H I b e g m p q with
 |none=>rfl
 |some x=>
  cases x with
  |inl u=>rfl
  |inr w=>cases w with
   |inl u=>rfl
   |inr v=>rfl
def bI (b:Bool):Int:=cond b 1 0
def VO (m L q b e:Int):Bool:=cond (Zc<|1<b) Zb<|cond (Zc<|1<e) Zb<|cond (Zc<|1<IntKind.u64.wrap (b+e)) Zb<|cond (Zc<|m≠2) (Zc<|zH zJ (b+e)=0)<|cond (Zc<|e=1) (cond (!Zc (0<=q)) (Zc<|L=65535) Zb)<|cond (Zc<|b=1) Za<|!Zc (0<=q)
section
variable {c:Cx}
def az2 (s:Dy)(m:Int)(a b:Bool):lL m a b c.fixed c.tp c.sl c.ns c.mode c.R c.Q c.len c.words s.L s.p s.q s.c0 s.c1 s.c2 s.c3 s.z c.X c.T c.l c.k c.P c.tk s.lv s.pk c.words s.W=O (s.p,s.q):=rfl
def af6 (h:c.Ok)(e:c.mode≠3)(s:Dy)(b:Wd c s.W)(g: ∀k,k<fu c.ns->0<=ib c s.W k/\ib c s.W k<=65536):fB c.fixed c.tp c.sl c.ns c.mode c.R c.Q c.len c.words s.L s.p s.q s.c0 s.c1 s.c2 s.c3 s.z c.X c.T c.l c.k c.P c.tk (c.off 8:Int) c.ns (ft c.X:Int) s.lv s.pk c.words s.W=O (s.p,s.q,iC c s.W):=by
 unfold fB;rw[KA h e b g];rfl
def bk3 (h:c.Ok)(g:c.mode≠3)(s:Dy)(hi:Inv c s)(m:Int)(a b:Bool):cu m a b c.fixed c.tp c.sl c.ns c.mode c.R c.Q c.len c.words s.L s.p s.q s.c0 s.c1 s.c2 s.c3 s.z c.X c.T c.l c.k c.P c.tk (c.off 8:Int) c.ns (ft c.X:Int) s.lv s.pk c.words s.W=O (s.p,s.q,iC c s.W):=by
 unfold cu;exact du (af6 h g s hi.w λk e=>by have:=hi.tag k e;have:=hi.L;omega) rfl
def bk4 (h:c.Ok)(g:c.mode≠3)(s:Dy)(hi:Inv c s)(m:Int)(a b:Bool):cu m a b c.fixed c.tp c.sl c.ns c.mode c.R c.Q c.len c.words s.L s.p s.q s.c0 s.c1 s.c2 s.c3 s.z c.X c.T c.l c.k c.P c.tk (c.off 8:Int) c.ns (ft c.X:Int) s.lv s.pk c.words s.W=O (s.p,s.q,iC c s.W):=by
 unfold cu;exact du (af6 h g s hi.w λk e=>by have:=hi.tag k e;have:=hi.L;omega) rfl
theorem bw2 (s:Dy)(m e g:Int)(a b:Bool):lh e g m a b c.fixed c.tp c.sl c.ns c.mode c.R c.Q c.len c.words s.L s.p s.q s.c0 s.c1 s.c2 s.c3 s.z c.X c.T c.l c.k c.P c.tk s.lv s.pk c.words s.W=O (VO m s.L s.q e g):=by
 unfold lh;refine du (az2 s m a b) ?_;rw[show iO m a b c.fixed c.tp c.sl c.ns c.mode c.R c.Q c.len c.words s.L s.p s.q s.c0 s.c1 s.c2 s.c3 s.z c.X c.T c.l c.k c.P c.tk s.lv s.pk c.words s.W=O s.L from rfl,zG];unfold VO
 grind
theorem bw3 (h:c.Ok)(r:c.mode≠3)(s:Dy)(hi:Inv c s)(m e g:Int)(a b:Bool):fC e g m a b c.fixed c.tp c.sl c.ns c.mode c.R c.Q c.len c.words s.L s.p s.q s.c0 s.c1 s.c2 s.c3 s.z c.X c.T c.l c.k c.P c.tk (c.off 8:Int) c.ns (ft c.X:Int) s.lv s.pk c.words s.W=O (VO m s.L s.q e g):=by
 unfold fC;refine du (bk3 h r s hi m a b) ?_;rw[show de m a b c.fixed c.tp c.sl c.ns c.mode c.R c.Q c.len c.words s.L s.p s.q s.c0 s.c1 s.c2 s.c3 s.z c.X c.T c.l c.k c.P c.tk (c.off 8:Int) c.ns (ft c.X:Int) s.lv s.pk c.words s.W=O s.L from rfl,zG];unfold VO
 grind
theorem bw4 (h:c.Ok)(r:c.mode≠3)(s:Dy)(hi:Inv c s)(m e g:Int)(a b:Bool):fC e g m a b c.fixed c.tp c.sl c.ns c.mode c.R c.Q c.len c.words s.L s.p s.q s.c0 s.c1 s.c2 s.c3 s.z c.X c.T c.l c.k c.P c.tk (c.off 8:Int) c.ns (ft c.X:Int) s.lv s.pk c.words s.W=O (VO m s.L s.q e g):=by
 unfold fC;refine du (bk4 h r s hi m a b) ?_;rw[show de m a b c.fixed c.tp c.sl c.ns c.mode c.R c.Q c.len c.words s.L s.p s.q s.c0 s.c1 s.c2 s.c3 s.z c.X c.T c.l c.k c.P c.tk (c.off 8:Int) c.ns (ft c.X:Int) s.lv s.pk c.words s.W=O s.L from rfl,zG];unfold VO
 grind
def OY (c:Cx)(s:Dy)(en b:Bool):Zd:=W36 [zH zJ c.mode,zH zJ s.L,zH zJ s.p,zH zJ<|zH zI<|s.q+1,zH zJ c.ns,zH zJ s.c0,zH zJ s.c1,zH zJ s.c2,zH zJ s.c3,zH zJ s.lv,zH zJ s.pk,s.z,bI en,bI b,0,0] s.W
def Hv (b:Bool):oY b=O (bI b):=by cases b<;>rfl
def bk0 (s:Dy)(m:Int)(a b:Bool):mG m a b c.fixed c.tp c.sl c.ns c.mode c.R c.Q c.len c.words s.L s.p s.q s.c0 s.c1 s.c2 s.c3 s.z c.X c.T c.l c.k c.P c.tk s.lv s.pk c.words s.W=O (aq4 c s):=by
 rfl
def bv3 (h:c.Ok)(e:Wd c s.W)(g:ft s.W<=1048576)(m:Int)(en b:Bool):ji m en b c.fixed c.tp c.sl c.ns c.mode c.R c.Q c.len c.words s.L s.p s.q s.c0 s.c1 s.c2 s.c3 s.z c.X c.T c.l c.k c.P c.tk s.lv s.pk c.words s.W=O (OY c s en b):=by
 unfold ji;refine du (bk0 s m en b) ?_;simp only[aq4];refine du (Hv en)<|du (Hv b) ?_;refine du (show lg m en b c.fixed c.tp c.sl c.ns c.mode c.R c.Q c.len c.words s.L s.p s.q s.c0 s.c1 s.c2 s.c3 s.z c.X c.T c.l c.k c.P c.tk s.lv s.pk c.words s.W=O s.W from by unfold lg;exact du (bl9 h e) rfl) ?_;exact du (ED _ _ _ _ _ _ _ _ _ _ _ _ _ _ _ _ _ g) rfl
def bk1 (s:Dy)(m:Int)(a b:Bool):gI m a b c.fixed c.tp c.sl c.ns c.mode c.R c.Q c.len c.words s.L s.p s.q s.c0 s.c1 s.c2 s.c3 s.z c.X c.T c.l c.k c.P c.tk (c.off 8:Int) c.ns (ft c.X:Int) s.lv s.pk c.words s.W=O (aq4 c s):=by
 rfl
def bv4 (h:c.Ok)(e:Wd c s.W)(g:ft s.W<=1048576)(m:Int)(en b:Bool):dz m en b c.fixed c.tp c.sl c.ns c.mode c.R c.Q c.len c.words s.L s.p s.q s.c0 s.c1 s.c2 s.c3 s.z c.X c.T c.l c.k c.P c.tk (c.off 8:Int) c.ns (ft c.X:Int) s.lv s.pk c.words s.W=O (OY c s en b):=by
 unfold dz;refine du (bk1 s m en b) ?_;simp only[aq4];refine du (Hv en)<|du (Hv b) ?_;refine du (show fD m en b c.fixed c.tp c.sl c.ns c.mode c.R c.Q c.len c.words s.L s.p s.q s.c0 s.c1 s.c2 s.c3 s.z c.X c.T c.l c.k c.P c.tk (c.off 8:Int) c.ns (ft c.X:Int) s.lv s.pk c.words s.W=O s.W from by unfold fD;exact du (aA8 h e) rfl) ?_;exact du (ED _ _ _ _ _ _ _ _ _ _ _ _ _ _ _ _ _ g) rfl
def bk2 (s:Dy)(m:Int)(a b:Bool):gI m a b c.fixed c.tp c.sl c.ns c.mode c.R c.Q c.len c.words s.L s.p s.q s.c0 s.c1 s.c2 s.c3 s.z c.X c.T c.l c.k c.P c.tk (c.off 8:Int) c.ns (ft c.X:Int) s.lv s.pk c.words s.W=O (aq4 c s):=by
 rfl
def bv5 (h:c.Ok)(e:Wd c s.W)(g:ft s.W<=1048576)(m:Int)(en b:Bool):dz m en b c.fixed c.tp c.sl c.ns c.mode c.R c.Q c.len c.words s.L s.p s.q s.c0 s.c1 s.c2 s.c3 s.z c.X c.T c.l c.k c.P c.tk (c.off 8:Int) c.ns (ft c.X:Int) s.lv s.pk c.words s.W=O (OY c s en b):=by
 unfold dz;refine du (bk2 s m en b) ?_;simp only[aq4];refine du (Hv en)<|du (Hv b) ?_;refine du (show fD m en b c.fixed c.tp c.sl c.ns c.mode c.R c.Q c.len c.words s.L s.p s.q s.c0 s.c1 s.c2 s.c3 s.z c.X c.T c.l c.k c.P c.tk (c.off 8:Int) c.ns (ft c.X:Int) s.lv s.pk c.words s.W=O s.W from by unfold fD;exact du (aA8 h e) rfl) ?_;exact du (ED _ _ _ _ _ _ _ _ _ _ _ _ _ _ _ _ _ g) rfl
def TR (e:ft s.W<=1048576)(en b:Bool):kt (OY c s en b)=O (zH zJ c.mode,zH zJ s.L,zH zJ s.p,zH zJ<|zH zI<|s.q+1,zH zJ c.ns,zH zJ s.c0,zH zJ s.c1,zH zJ s.c2,zH zJ s.c3,zH zJ s.lv,zH zJ s.pk,s.z,bI en,bI b,0,0,0,s.W):=by
 unfold OY;rw[Mm _ (by rw[S8 rfl];omega),aG3]
def XB (h:c.Ok)(m:c.mode=3)(e:gy c.mode (ft c.X) (ft c.T) c.R c.l c.Q c.k c.len c.words=(c.fixed,c.tp,c.sl,c.ns,0))(hi:InvB c s)(g:FT B s)(b:B<=2305843009213693952)(x y:Int):
  iG c.mode c.X c.T c.R c.l c.Q c.k c.len c.words s.W (zH zJ c.mode) (zH zJ s.L) (zH zJ s.p) (zH zJ<|zH zI<|s.q+1) (zH zJ c.ns) (zH zJ s.c0) (zH zJ s.c1) (zH zJ s.c2) (zH zJ s.c3) (zH zJ s.lv) (zH zJ s.pk) s.z x y 0 0=O (.inr<|.inl<|ab5 c s):=bh9 h m e hi g b
def N5 (h:c.Ok)(r:c.mode≠3)(e:gy c.mode (ft c.X) (ft c.T) c.R c.l c.Q c.k c.len c.words=(c.fixed,c.tp,c.sl,c.ns,0))(hi:Inv c s)(g:Ji c s)(m:FT B s)(b:B<=2305843009213693952)(x y:Int):
  iG c.mode c.X c.T c.R c.l c.Q c.k c.len c.words s.W (zH zJ c.mode) (zH zJ s.L) (zH zJ s.p) (zH zJ<|zH zI<|s.q+1) (zH zJ c.ns) (zH zJ s.c0) (zH zJ s.c1) (zH zJ s.c2) (zH zJ s.c3) (zH zJ s.lv) (zH zJ s.pk) s.z x y 0 0=O (.inr<|.inr<|Rf c s):=bi0 h r e hi g m b
def Pe {L q:Int}{m:Int}(g:m≠2->en=Zb)(p:0<=q->m=2->en=Za):VO m L q (bI en) (bI Zb)=Za:=by
 unfold VO;cases en with
 |false=>
  have e: ¬(0<=q/\m=2):=λk=>by cases p k.1 k.2
  by_cases b:m=2
  .rw[zA (show¬(m≠2)from λk=>k b),zA (show¬(0<=q)from λk=>e ⟨k,b⟩)];rfl
  rw[zB (show m≠2 from b)];rfl
 |true=>
  have b:m=2:=Classical.byContradiction λk=>by cases g k
  rw[zA (show¬(m≠2)from λk=>k b)];rfl
def ar5 (h:c.Ok)(g:c.mode=3)(e:gy c.mode (ft c.X) (ft c.T) c.R c.l c.Q c.k c.len c.words=(c.fixed,c.tp,c.sl,c.ns,0))(hi:InvB c s)(u:FT B s)(r:B<=2305843009213693952)(b:ft s.W<=1048576):
  gQ c.mode c.X c.T c.R c.l c.Q c.k c.len c.words (OY c s Zb Zb)=O (.inr<|.inl (c.mode,Zb,Zb,c.fixed,c.tp,c.sl,c.ns,c.mode,c.R,c.Q,c.len,c.words,s.L,s.p,s.q,s.c0,s.c1,s.c2,s.c3,s.z,c.X,c.T,c.l,c.k,c.P,c.tk,s.lv,s.pk,c.words,s.W)):=by
 unfold gQ;have m:me c.mode c.X c.T c.R c.l c.Q c.k c.len c.words (OY c s Zb Zb)=O (.inr<|.inl<|ab5 c s):=(S7 b).trans<|XB h g e hi u r _ _;refine du m ?_;simp only[ci,gM,ab5];refine du (TR b Zb Zb) ?_
 refine du (show md c.mode c.X c.T c.R c.l c.Q c.k c.len c.words c.fixed c.tp c.sl c.ns c.mode c.R c.Q c.len c.words s.L s.p s.q s.c0 s.c1 s.c2 s.c3 s.z c.X c.T c.l c.k c.P c.tk s.lv s.pk c.words s.W=O (c.mode,Zb,Zb)from by
  simp only[md,g]
  rfl) ?_
 refine du (bw2 s c.mode (bI Zb) (bI Zb) Zb Zb) ?_;rw[Pe (λ_=>rfl) (λ_ k=>by omega)];rfl
def ar6 (h:c.Ok)(A:c.mode=1)(e:gy c.mode (ft c.X) (ft c.T) c.R c.l c.Q c.k c.len c.words=(c.fixed,c.tp,c.sl,c.ns,0))(hi:Inv c s)(w:Ji c s)(y:FT B s)(u:B<=2305843009213693952)(b:ft s.W<=1048576)(m:c.mode≠2->en=Zb)(r:0<=s.q->c.mode=2->en=Za):
  gQ c.mode c.X c.T c.R c.l c.Q c.k c.len c.words (OY c s en Zb)=O (.inr<|.inr<|.inl (c.mode,en,Zb,c.fixed,c.tp,c.sl,c.ns,c.mode,c.R,c.Q,c.len,c.words,s.L,s.p,s.q,s.c0,s.c1,s.c2,s.c3,s.z,c.X,c.T,c.l,c.k,c.P,c.tk,(c.off 8:Int),c.ns,(ft c.X:Int),s.lv,s.pk,c.words,s.W)):=by
 unfold gQ;have g:me c.mode c.X c.T c.R c.l c.Q c.k c.len c.words (OY c s en Zb)=O (.inr<|.inr<|Rf c s):=(S7 b).trans<|N5 h V1 e hi w y u _ _;refine du g ?_;simp only[ci,Rf];refine du (TR b en Zb) ?_
 refine du (show gR c.mode c.X c.T c.R c.l c.Q c.k c.len c.words c.fixed c.tp c.sl c.ns c.mode c.R c.Q c.len c.words s.L s.p s.q s.c0 s.c1 s.c2 s.c3 s.z c.X c.T c.l c.k c.P c.tk (c.off 8:Int) c.ns (ft c.X:Int) s.lv s.pk c.words s.W=O (.inl (c.mode,Zb,Zb))from by
  simp only[gR,A]
  rfl) ?_
 rw[gM];refine du (bw3 h V1 s hi c.mode (bI en) (bI Zb) Zb Zb) ?_;rw[Pe m r];cases en<;>rfl
def ar7 (h:c.Ok)(A:c.mode=2)(e:gy c.mode (ft c.X) (ft c.T) c.R c.l c.Q c.k c.len c.words=(c.fixed,c.tp,c.sl,c.ns,0))(hi:Inv c s)(w:Ji c s)(y:FT B s)(u:B<=2305843009213693952)(b:ft s.W<=1048576)(m:c.mode≠2->en=Zb)(r:0<=s.q->c.mode=2->en=Za):
  gQ c.mode c.X c.T c.R c.l c.Q c.k c.len c.words (OY c s en Zb)=O (.inr<|.inr<|.inr (c.mode,en,Zb,c.fixed,c.tp,c.sl,c.ns,c.mode,c.R,c.Q,c.len,c.words,s.L,s.p,s.q,s.c0,s.c1,s.c2,s.c3,s.z,c.X,c.T,c.l,c.k,c.P,c.tk,(c.off 8:Int),c.ns,(ft c.X:Int),s.lv,s.pk,c.words,s.W)):=by
 unfold gQ;have g:me c.mode c.X c.T c.R c.l c.Q c.k c.len c.words (OY c s en Zb)=O (.inr<|.inr<|Rf c s):=(S7 b).trans<|N5 h V1 e hi w y u _ _;refine du g ?_;simp only[ci,Rf];refine du (TR b en Zb) ?_
 refine du (show gR c.mode c.X c.T c.R c.l c.Q c.k c.len c.words c.fixed c.tp c.sl c.ns c.mode c.R c.Q c.len c.words s.L s.p s.q s.c0 s.c1 s.c2 s.c3 s.z c.X c.T c.l c.k c.P c.tk (c.off 8:Int) c.ns (ft c.X:Int) s.lv s.pk c.words s.W=O (.inr (c.mode,Zb,Zb))from by
  simp only[gR,A]
  rfl) ?_
 rw[ci];refine du (bw4 h V1 s hi c.mode (bI en) (bI Zb) Zb Zb) ?_;rw[Pe m r];cases en<;>rfl
end
end
section
open Bool renaming not_true->aB
section
variable {c:Cx} (h:c.Ok)
def QE (c:Cx)(en:Bool)(s:Dy):Prop:=(c.mode≠2->en=Zb)/\(0<=s.q->c.mode=2->en=Za)
def LD :QE c Zb<|oV c:=⟨λ_=>rfl,λb _=>by
 have:(oV c).q= -1:=by unfold oV;split<;>rfl
 omega⟩
include h
theorem TN (w:di c i s)(Q:QE c en s)(e:vM c en s=O a)(m:vP c a s):QE c en<|rR c a s:=by
 refine⟨Q.1,λb g=> ?_⟩;by_cases u:0<=s.q
 .exact Q.2 u g
 have p: ¬c.mode=3:=by omega
 unfold vM at e;unfold vP at m;unfold rR at b;unfold di at w;rw[zF p]at e m b w;rw[zE g]at e;obtain⟨m',m⟩:=m;have f:=(Hr h p w.inv m).2;have z:(yg c a.1 a.2 s).2.q=m'.q:=congrArg Mc.q f
 have y:a.1=1∨a.1=2∨a.1=4∨en=Za:=by
  unfold rO at e;simp only at e;rw[zE (show(pW c s).q<0 by show s.q<0;omega)]at e
  grind
 have r:a.1=1∨a.1=2∨a.1=4->m'.q=s.q:=λk=>by
  unfold mac at m;rcases k with k|k|k
  all_goals
   rw[k]at m;simp only[Int.reduceEq,if_false,if_true]at m;split at m
   .injection m with m;subst m;rfl
   cases m
 grind
theorem XH (s:Dy)(g:Int)(en b:Bool):lM g en b c.fixed c.tp c.sl c.ns c.mode c.R c.Q c.len c.words s.L s.p s.q s.c0 s.c1 s.c2 s.c3 s.z c.X c.T c.l c.k c.P c.tk s.lv s.pk c.words s.W=O (match nxB s with|some a=>(a.1,Za)|none=>(0,Zb)):=by
 unfold lM;refine du (az2 s g en b) ?_;rw[show iO g en b c.fixed c.tp c.sl c.ns c.mode c.R c.Q c.len c.words s.L s.p s.q s.c0 s.c1 s.c2 s.c3 s.z c.X c.T c.l c.k c.P c.tk s.lv s.pk c.words s.W=O s.L from rfl];unfold nxB
 grind
omit h in
theorem bw8 (e:nxB s=O a):a.2=0:=by
 unfold nxB at e
 grind
omit h in
theorem bn2 (b:c.mode=3)(en:Bool)(s:Dy):vM c en s=nxB s:=by unfold vM;rw[zE b]
theorem bJ2 (b:c.mode=3)(y:i<=1000000)(w:di c i s)(e:vM c en s=O a)(m:vP c a s):
  gx c.mode en Zb c.fixed c.tp c.sl c.ns c.mode c.R c.Q c.len c.words s.L s.p s.q s.c0 s.c1 s.c2 s.c3 s.z c.X c.T c.l c.k c.P c.tk s.lv s.pk c.words s.W=O (a.1,Za,0,c.fixed,c.tp,c.sl,c.ns,c.mode,c.R,c.Q,c.len,c.words,(rR c a s).L,(rR c a s).p,(rR c a s).q,(rR c a s).c0,(rR c a s).c1,(rR c a s).c2,(rR c a s).c3,(rR c a s).z,(rR c a s).lv,(rR c a s).pk,c.words,(rR c a s).W):=by
 have g:=w;unfold di at g;rw[zE b]at g;rw[bn2 b]at e;have r:=bw8 e;unfold vP at m;rw[zE b,r]at m;have u:rR c a s=(GP c a.1 0 s).2:=by unfold rR;rw[zE b,r]
 unfold gx;rw[zD];refine du (XH h s c.mode en Zb) ?_;rw[e];show cond (!Za) _ _=_;rw[aB,zD];refine du (do1 h b g.inv g.cnt V1) ?_;show cond (Zc<|(GP c a.1 0 s).1≠0) _ _=_;rw[m,u];rfl
theorem bJ0 (b:c.mode=3)(w:di c i s)(e:vM c en s=Y):
  gx c.mode en Zb c.fixed c.tp c.sl c.ns c.mode c.R c.Q c.len c.words s.L s.p s.q s.c0 s.c1 s.c2 s.c3 s.z c.X c.T c.l c.k c.P c.tk s.lv s.pk c.words s.W=O (0,Zb,0,c.fixed,c.tp,c.sl,c.ns,c.mode,c.R,c.Q,c.len,c.words,s.L,s.p,s.q,s.c0,s.c1,s.c2,s.c3,s.z,s.lv,s.pk,c.words,s.W):=by
 have g:=w;unfold di at g;rw[zE b]at g;rw[bn2 b]at e;unfold gx;rw[zD];refine du (XH h s c.mode en Zb) ?_;rw[e];rfl
theorem bI7 (b:c.mode=3)(w:di c i s):
  li c.mode en Zb c.fixed c.tp c.sl c.ns c.mode c.R c.Q c.len c.words s.L s.p s.q s.c0 s.c1 s.c2 s.c3 s.z c.X c.T c.l c.k c.P c.tk s.lv s.pk c.words s.W=O (vM c en s).isNone:=by
 have e:=w;unfold di at e;rw[zE b]at e;rw[bn2 b];unfold li;rw[zD];refine du (XH h s c.mode en Zb) ?_;cases nxB s<;>rfl
theorem bJ9 (b:c.mode=3)(w:di c i s):
  gO c.mode en Zb c.fixed c.tp c.sl c.ns c.mode c.R c.Q c.len c.words s.L s.p s.q s.c0 s.c1 s.c2 s.c3 s.z c.X c.T c.l c.k c.P c.tk s.lv s.pk c.words s.W=O ((vM c en s).isNone&&(Zc (c.mode=2)&& !en)):=by
 unfold gO;refine du (bI7 h b w) ?_;cases(vM c en s).isNone<;>cases Zc (c.mode=2)<;>cases en<;>rfl
omit h in
theorem bn3 (b:c.mode=1)(en:Bool)(s:Dy):vM c en s=Dt (pW c s):=by unfold vM;rw[Zh,Zh]
theorem bJ3 (y:c.mode=1)(A:1<=c.ns)(u:i<=1000000)(w:di c i s)(e:vM c en s=O a)(m:vP c a s):
  fP c.mode en Zb c.fixed c.tp c.sl c.ns c.mode c.R c.Q c.len c.words s.L s.p s.q s.c0 s.c1 s.c2 s.c3 s.z c.X c.T c.l c.k c.P c.tk (c.off 8:Int) c.ns (ft c.X:Int) s.lv s.pk c.words s.W=O (a.1,a.2,Za,0,c.fixed,c.tp,c.sl,c.ns,c.mode,c.R,c.Q,c.len,c.words,(rR c a s).L,(rR c a s).p,(rR c a s).q,(rR c a s).c0,(rR c a s).c1,(rR c a s).c2,(rR c a s).c3,(rR c a s).z,(rR c a s).lv,(rR c a s).pk,c.words,(rR c a s).W):=by
 have b:=w;unfold di at b;rw[Zh]at b;rw[bn3 y]at e;unfold vP at m;rw[Zh]at m;obtain⟨m',m⟩:=m;have r:=(Hr h V1 b.inv m).1;have g:rR c a s=(yg c a.1 a.2 s).2:=by unfold rR;rw[Zh]
 unfold fP;rw[zD];refine du (Yi h V1 A b.inv c.mode en Zb) ?_;rw[e];show cond (!Za) _ _=_;rw[aB,zD];refine du (do2 h V1 b.inv b.cnt V1) ?_;show cond (Zc<|(yg c a.1 a.2 s).1≠0) _ _=_;rw[r,g];rfl
theorem bJ1 (g:c.mode=1)(m:1<=c.ns)(w:di c i s)(e:vM c en s=Y):
  fP c.mode en Zb c.fixed c.tp c.sl c.ns c.mode c.R c.Q c.len c.words s.L s.p s.q s.c0 s.c1 s.c2 s.c3 s.z c.X c.T c.l c.k c.P c.tk (c.off 8:Int) c.ns (ft c.X:Int) s.lv s.pk c.words s.W=O (0,0,Zb,0,c.fixed,c.tp,c.sl,c.ns,c.mode,c.R,c.Q,c.len,c.words,s.L,s.p,s.q,s.c0,s.c1,s.c2,s.c3,s.z,s.lv,s.pk,c.words,s.W):=by
 have b:=w;unfold di at b;rw[Zh]at b;rw[bn3 g]at e;unfold fP;rw[zD];refine du (Yi h V1 m b.inv c.mode en Zb) ?_;rw[e];rfl
theorem bI8 (e:c.mode=1)(g:1<=c.ns)(w:di c i s):
  jG c.mode en Zb c.fixed c.tp c.sl c.ns c.mode c.R c.Q c.len c.words s.L s.p s.q s.c0 s.c1 s.c2 s.c3 s.z c.X c.T c.l c.k c.P c.tk (c.off 8:Int) c.ns (ft c.X:Int) s.lv s.pk c.words s.W=O (vM c en s).isNone:=by
 have b:=w;unfold di at b;rw[Zh]at b;rw[bn3 e];unfold jG;rw[zD];refine du (Yi h V1 g b.inv c.mode en Zb) ?_;cases Dt (pW c s)<;>rfl
theorem bK0 (b:c.mode=1)(e:1<=c.ns)(w:di c i s):
  gq c.mode en Zb c.fixed c.tp c.sl c.ns c.mode c.R c.Q c.len c.words s.L s.p s.q s.c0 s.c1 s.c2 s.c3 s.z c.X c.T c.l c.k c.P c.tk (c.off 8:Int) c.ns (ft c.X:Int) s.lv s.pk c.words s.W=O ((vM c en s).isNone&&(Zc (c.mode=2)&& !en)):=by
 unfold gq;refine du (bI8 h b e w) ?_;cases(vM c en s).isNone<;>cases Zc (c.mode=2)<;>cases en<;>rfl
omit h in
theorem bn4 (b:c.mode=2)(en:Bool)(s:Dy):vM c en s=rO en (pW c s):=by unfold vM;rw[Zh,zE b]
theorem bJ4 (y:c.mode=2)(A:1<=c.ns)(u:i<=1000000)(w:di c i s)(e:vM c en s=O a)(m:vP c a s):
  fQ c.mode en Zb c.fixed c.tp c.sl c.ns c.mode c.R c.Q c.len c.words s.L s.p s.q s.c0 s.c1 s.c2 s.c3 s.z c.X c.T c.l c.k c.P c.tk (c.off 8:Int) c.ns (ft c.X:Int) s.lv s.pk c.words s.W=O (a.1,a.2,Za,0,c.fixed,c.tp,c.sl,c.ns,c.mode,c.R,c.Q,c.len,c.words,(rR c a s).L,(rR c a s).p,(rR c a s).q,(rR c a s).c0,(rR c a s).c1,(rR c a s).c2,(rR c a s).c3,(rR c a s).z,(rR c a s).lv,(rR c a s).pk,c.words,(rR c a s).W):=by
 have b:=w;unfold di at b;rw[Zh]at b;rw[bn4 y]at e;unfold vP at m;rw[Zh]at m;obtain⟨m',m⟩:=m;have r:=(Hr h V1 b.inv m).1;have g:rR c a s=(yg c a.1 a.2 s).2:=by unfold rR;rw[Zh]
 unfold fQ;rw[zD];refine du (aE8 h V1 A b.inv c.mode en Zb) ?_;rw[e];show cond (!Za) _ _=_;rw[aB,zD];refine du (do2 h V1 b.inv b.cnt V1) ?_;show cond (Zc<|(yg c a.1 a.2 s).1≠0) _ _=_;rw[r,g];rfl
theorem bp6 (g:c.mode=2)(m:1<=c.ns)(w:di c i s)(e:vM c en s=Y):
  fQ c.mode en Zb c.fixed c.tp c.sl c.ns c.mode c.R c.Q c.len c.words s.L s.p s.q s.c0 s.c1 s.c2 s.c3 s.z c.X c.T c.l c.k c.P c.tk (c.off 8:Int) c.ns (ft c.X:Int) s.lv s.pk c.words s.W=O (0,0,Zb,0,c.fixed,c.tp,c.sl,c.ns,c.mode,c.R,c.Q,c.len,c.words,s.L,s.p,s.q,s.c0,s.c1,s.c2,s.c3,s.z,s.lv,s.pk,c.words,s.W):=by
 have b:=w;unfold di at b;rw[Zh]at b;rw[bn4 g]at e;unfold fQ;rw[zD];refine du (aE8 h V1 m b.inv c.mode en Zb) ?_;rw[e];rfl
theorem bI9 (e:c.mode=2)(g:1<=c.ns)(w:di c i s):
  jH c.mode en Zb c.fixed c.tp c.sl c.ns c.mode c.R c.Q c.len c.words s.L s.p s.q s.c0 s.c1 s.c2 s.c3 s.z c.X c.T c.l c.k c.P c.tk (c.off 8:Int) c.ns (ft c.X:Int) s.lv s.pk c.words s.W=O (vM c en s).isNone:=by
 have b:=w;unfold di at b;rw[Zh]at b;rw[bn4 e];unfold jH;rw[zD];refine du (aE8 h V1 g b.inv c.mode en Zb) ?_;cases rO en (pW c s)<;>rfl
theorem aJ5 (b:c.mode=2)(e:1<=c.ns)(w:di c i s):
  gu c.mode en Zb c.fixed c.tp c.sl c.ns c.mode c.R c.Q c.len c.words s.L s.p s.q s.c0 s.c1 s.c2 s.c3 s.z c.X c.T c.l c.k c.P c.tk (c.off 8:Int) c.ns (ft c.X:Int) s.lv s.pk c.words s.W=O ((vM c en s).isNone&&(Zc (c.mode=2)&& !en)):=by
 unfold gu;refine du (bI9 h b e w) ?_;cases(vM c en s).isNone<;>cases Zc (c.mode=2)<;>cases en<;>rfl
theorem fdm (m:c.mode=2)(r:1<=c.ns)(w:di c i s)(e:vM c Zb s=Y)(y:s.q= -1)(u:s.L<65535):
  fO Za c.mode Zb Zb c.fixed c.tp c.sl c.ns c.mode c.R c.Q c.len c.words s.L s.p s.q s.c0 s.c1 s.c2 s.c3 s.z c.X c.T c.l c.k c.P c.tk (c.off 8:Int) c.ns (ft c.X:Int) s.lv s.pk c.words s.W=O (0,c.mode,Zb,Zb,c.fixed,c.tp,c.sl,c.ns,c.mode,c.R,c.Q,c.len,c.words,(H6 s).L,(H6 s).p,(H6 s).q,(H6 s).c0,(H6 s).c1,(H6 s).c2,(H6 s).c3,(H6 s).z):=by
 have g:=w;unfold di at g;rw[Zh]at g
 have b:zr c s=(0,H6 s):=by
  unfold zr;rw[Zh,Zh,Zh];rfl
 unfold fO;rw[zD];refine du (aJ5 h m r w) ?_;rw[e,zB m];show cond (!Za) _ _=_;rw[aB,zD,zD];refine du (bw5 g.inv.L) ?_;rw[b];rfl
theorem fds (b:c.mode=2)(g:1<=c.ns)(w:di c i s)(e:vM c Zb s=Y):
  fO Zb c.mode Zb Zb c.fixed c.tp c.sl c.ns c.mode c.R c.Q c.len c.words s.L s.p s.q s.c0 s.c1 s.c2 s.c3 s.z c.X c.T c.l c.k c.P c.tk (c.off 8:Int) c.ns (ft c.X:Int) s.lv s.pk c.words s.W=O (0,c.mode,Za,Zb,c.fixed,c.tp,c.sl,c.ns,c.mode,c.R,c.Q,c.len,c.words,s.L,s.p,s.q,s.c0,s.c1,s.c2,s.c3,s.z):=by
 unfold fO;rw[zD];refine du (aJ5 h b g w) ?_;rw[e,zB b];rfl
end
end
end Go.V
