/- A part of the proof. No condition. -/
import Derived.Test.YtlkdfancfgakdaaGreatA3
set_option linter.unusedVariables false
set_option linter.unusedSimpArgs false
set_option linter.unusedSectionVars false
namespace Go.V
open Go.Ab
open Option renaming some->O,none->Y
open Bool renaming true->Za,false->Zb
open Decidable renaming decide->Zc
variable {c:Ctx}{x z:Operand}{a:Value}{s:Sh}{b i k lo o p:Nat}{v:VV}{kd:IntKind}{S S':ah}{e:cu}{d:Nat×Nat}{ea:cj}{blk:Blk}{cs:List VV}{Z':Hp}{agg neg:Bool}{l:Zd}
section
open List renaming length_append -> bB, take_of_length_le -> bD, length_cons -> cD, length_drop -> dB, take_append -> dD
open Nat renaming succ_mul -> aB, le_refl -> aD, mul_le_mul_right -> cB
theorem rR : ∀s:Sh,1<=s.w
 | .int _=>aD _
 | .bool=>aD _
 | .str=>aD _
 | .list _=>aD _
 | .pair a _=>Nat.le_trans (rR a) (Nat.le_add_right _ _)
theorem ei : ∀(s:Sh) (x:El s),(dx s x).length=s.w
 | .int _,_=>rfl
 | .bool,_=>rfl
 | .str,_=>rfl
 | .list _,_=>rfl
 | .pair a b,x=>by
  simp only[dx,bB,Sh.w];rw[ei a,ei b]
theorem Hl :gm s []=[]:=rfl
theorem jd {x:El s}{l:List (El s)}:gm s (x::l)=dx s x++gm s l:=rfl
theorem ji {l:List (El s)}:(gm s l).length=l.length*s.w:=by
 induction l with
 |nil=>simp[Hl]
 |cons x l f=>rw[jd,bB,ei,f,cD,aB,Nat.add_comm]
theorem Bd {l m:List (El s)}:gm s (l++m)=gm s l++gm s m:=List.flatMap_append
theorem ql {l:List (El s)}{n:Nat}:gm s (l.take n)=(gm s l).take (n*s.w):=by
 induction l generalizing n with
 |nil=>simp[Hl]
 |cons x l g=>
  cases n with
  |zero=>simp[Hl]
  |succ n=>
   rw[List.take_succ_cons,jd,jd,g,dD,ei];have f:(n+1)*s.w-s.w=n*s.w:=by rw[aB];omega
   rw[f,bD (l:=dx s x) (by rw[ei,aB];omega)]
theorem BT {l:List (El s)}{n:Nat}:gm s (l.drop n)=(gm s l).drop (n*s.w):=by
 induction l generalizing n with
 |nil=>simp[Hl]
 |cons x l g=>
  cases n with
  |zero=>simp
  |succ n=>
   rw[List.drop_succ_cons,jd,g,List.drop_append,ei];have f:(n+1)*s.w-s.w=n*s.w:=by rw[aB];omega
   rw[f,List.drop_of_length_le (l:=dx s x) (by rw[ei,aB];omega),List.nil_append]
theorem Kw {l:List (El s)}{x:El s}(h:l[i]?=O x):((gm s l).drop (i*s.w)).take s.w=dx s x:=by
 rw[<-BT]
 have f:i<l.length:=by
  rcases Nat.lt_or_ge i l.length with h1|h1
  .exact h1
  .rw[List.getElem?_eq_none h1]at h;cases h
 have g:l.drop i=x::l.drop (i+1):=by
  rw[List.drop_eq_getElem_cons f];rw[List.getElem?_eq_getElem f]at h;injection h with h
  rw[h]
 rw[g,jd,dD,ei,Nat.sub_self,List.take_zero,List.append_nil,bD (by rw[ei];exact aD _)]
theorem qU {f:Sh}{x:El f}{y:El s}(h:qD f s x=O y): ∃e:f=s,y=e▸x:=by
 unfold qD at h;split at h
 .rename_i e;injection h with h
  exact⟨e,h.symm⟩
 .cases h
theorem pW {x:El s}:qD s s x=O x:=by
 unfold qD;rw[dif_pos rfl]
theorem F2.app_left {α β:Type}{r:α->β->Prop}{l l':List α}{m:List β}(h:F2 r (l++l') m): ∃f g,m=f++g/\F2 r l f/\F2 r l' g:=by
 induction l generalizing m with
 |nil=>exact⟨[],m,rfl, .nil,h⟩
 |cons a l u=>
  cases h with
  |cons j n=>
   obtain⟨f,g,rfl,q,t⟩:=u n;exact⟨_::f,g,rfl, .cons j q,t⟩
def BC (c:Ctx)(s:Sh)(l:List (El s))(a:Value):Prop:=
 (∃q:Option Addr,a= .slice q 0 0/\l=[]/\∀z,q=O z->z.spot=Y)∨∃b p f y,a= .slice (O ⟨b,p,Y⟩) l.length f/\c.Z.m b=O y/\y.es=s.w/\l.length<=f/\p+l.length*s.w<=y.cells.length/\F2 (VRel c) (gm s l) ((y.cells.drop p).take (l.length*s.w))
theorem BC.rel {l:List (El s)}(h:BC c s l a)(A: ∀b p n f,a= .slice (O ⟨b,p,Y⟩) n f->f≠0->¬c.mut b):VRel c (.lst s l) a:=by
 rcases h with⟨q,rfl,rfl,B⟩|⟨b,p,f,y,rfl,m,r,t,u,w⟩
 .exact .lstn B
 .by_cases j:f=0
  .subst j;have:l=[]:=List.length_eq_zero_iff.1 (by omega);subst this;exact .lstn λz g=>by injection g with g;rw[<-g]
  .exact .lst (A _ _ _ _ rfl j) m r rfl t u w
theorem VRel.listAt {l:List (El s)}(h:VRel c (.lst s l) a):BC c s l a:=by
 cases h with
 |lstn q=>exact .inl ⟨_,rfl,rfl,q⟩
 |lst t r n f g j m=>subst f;exact .inr ⟨_,_,_,_,rfl,r,n,g,j,m⟩
theorem VRel.lst_mut {l:List (El s)}{n f:Nat}(h:VRel c (.lst s l) (.slice (O ⟨b,p,Y⟩) n f))(g:f≠0): ¬c.mut b:=by
 cases h with
 |lstn=>exact(g rfl).elim
 |lst j=>exact j
theorem Rel.fz_mut (g:Rel c)(m:(ad c.S k).frozen=Za)(j:(ad c.S k).dim≠Y)(n:c.μ k=O b): ¬c.mut b:=by
 rintro(⟨r,f,q⟩|h)
 .have:=g.inj r k b f j q n;subst this;rw[f]at m;cases m
 .exact g.fbk k b j n h
def La (c:Ctx)(s:Sh)(f:List VV->Option (El s×List VV)):Prop:= ∀g x h,f g=O (x,h)->
 ∃j,g=j++h/\j.length=s.w/\∀m,F2 (VRel c) j m->F2 (VRel c) (dx s x) m
theorem Kj {c:Ctx}{s:Sh}{f:List VV->Option (El s×List VV)}(u:La c s f): ∀(n:Nat) (cells:List VV) (l:List (El s)),Lg f n cells=O l->
  cells.length=l.length*s.w/\∀as,F2 (VRel c) cells as->F2 (VRel c) (gm s l) as
 |n,[],l,h=>by
  have:l=[]:=by cases n<;>simpa[Lg]using h.symm
  subst this;exact⟨by simp,λas j=>j⟩
 |0,_::_,_,h=>by simp[Lg]at h
 |n+1,v::r,l,h=>by
  simp only[Lg]at h;cases m:f (v::r)with
  |none=>rw[m]at h;cases h
  |some p=>
   obtain⟨x,g⟩:=p;rw[m]at h;simp only[zG]at h;cases q:Lg f n g with
   |none=>rw[q]at h;cases h
   |some H=>
    rw[q]at h;injection h with h
    subst h;obtain⟨I,t,A,B⟩:=u _ _ _ m;obtain⟨C,D⟩:=Kj u n g H q;refine⟨by rw[t,bB,A,C,cD,aB,Nat.add_comm],λas j=> ?_⟩;rw[t]at j;obtain⟨J,K,rfl,E,F⟩:=F2.app_left j;exact(B _ E).append (D _ F)
theorem vU {f:List VV->Option (El s×List VV)}(r:La c s f){l:List (El s)}(h:AW s f (ad c.S k)=O l):
  ∃d,(ad c.S k).dim=O d/\d.1=s.w/\d.2=l.length*s.w/\∀as,F2 (VRel c) (ad c.S k).vals as->F2 (VRel c) (gm s l) as:=by
 generalize ad c.S k=b at h;cases b with
 |dead=>cases h
 |arr t z m=>
  obtain⟨e,g⟩:=qU h;cases e;subst g;exact⟨_,rfl,rfl,rfl,λ_ h=>h⟩
 |cells n z m=>
  simp only[AW]at h;cases j:Nat.beq n s.w with
  |false=>rw[j]at h;cases h
  |true=>
   rw[j,zC]at h;obtain⟨g,q⟩:=Kj r _ _ _ h;exact⟨_,rfl,Nat.eq_of_beq_eq_true j,g,q⟩
theorem M1 (W:Rel c){f:List VV->Option (El s×List VV)}(X:La c s f){n:Nat}{l:List (El s)}(h:AW s f (ad c.S k)=O l)
  (M:(ad c.S k).dim=O d) (hs:IN c k lo n d a):BC c s ((l.drop lo).take n) a/\((l.drop lo).take n).length=n:=by
 obtain⟨d',B,C,I,U⟩:=vU X h;rw[M]at B;injection B with B
 subst B;obtain⟨h0,L⟩:=W.blk k d M;have N:=rR s;rcases hs with⟨rfl,rfl,rfl,q,H⟩|⟨b,Q,y,rfl,q,J,K,F,V⟩
 .have:l.length=0:=by
   rw[H]at I;rcases Nat.eq_zero_or_pos l.length with h|h
   .exact h
   .have:=Nat.mul_pos h N;omega
  rw[List.length_eq_zero_iff]at this;subst this;exact⟨.inl ⟨Y,rfl,by simp,λz H=>by cases H⟩,by simp⟩
 .have Z:lo+n<=l.length:=by
   rw[C,I]at J;exact Nat.le_of_mul_le_mul_right J N
  have g:((l.drop lo).take n).length=n:=by rw[List.length_take,dB];omega
  refine⟨.inr ⟨b,lo*d.1,Q,y,by rw[g],F, ?_,by rw[g];exact K, ?_, ?_⟩,g⟩
  .rcases L with⟨m,j⟩|⟨P,y',cs,A,m,j,r,_⟩
   .rw[j]at q;cases q
   .rw[q]at m;injection m with m
    subst m;rw[F]at j;injection j with j
    subst j;rw[r,C]
  .rw[g];have:=cB d.1 K;rw[Nat.add_mul]at V;rw[<-C];omega
  .rcases L with⟨m,j⟩|⟨P,y',cs,A,m,j,r,_,D,E⟩
   .rw[j]at q;cases q
   .rw[q]at m;injection m with m
    subst m;rw[F]at j;injection j with j
    subst j;have t:=U _ E;have u:cs.length=l.length*s.w:=by rw[<-t.length,ji]
    rw[g,ql,BT,C,D,List.drop_append_of_le_length (by rw[u];exact cB _ (by omega)),List.take_append_of_le_length]
    .exact(t.drop _).take _
    .rw[dB,u,<-Nat.sub_mul];exact cB _ (by omega)
theorem S5 (u:Rel c){f:List VV->Option (El s×List VV)}(m:La c s f){l:List (El s)}(h:AW s f (ad c.S k)=O l)(A:VRel c (.full k) a):BC c s l a:=by
 obtain⟨d,g,q,r,B⟩:=vU m h;cases A with
 |full C _ w=>
  obtain⟨n,j,t⟩:=w d g
  have D:n=l.length:=by
   rw[q,r]at j;exact Nat.eq_of_mul_eq_mul_right (rR s) j
  have:=(M1 u m h g t).1
  rwa [List.drop_zero,bD (by omega)]at this
theorem TG (m:Rel c){f:List VV->Option (El s×List VV)}(j:La c s f){n:Nat}{l:List (El s)}(h:AW s f (ad c.S k)=O l)(r:VRel c (.part k lo n) a):
  BC c s ((l.drop lo).take n) a/\((l.drop lo).take n).length=n:=by
 obtain⟨d,g,t,u,w⟩:=vU j h;cases r with
 |part A _ q=>exact M1 m j h g (q d g)
def Kz :VV->Option Nat
 | .full k=>O k
 | .part k _ _=>O k
 |_=>Y
theorem IN.addr {n:Nat}{m g:Nat}(h:IN c k lo n d (.slice (O ⟨b,p,Y⟩) m g)):c.μ k=O b:=by
 rcases h with⟨h,_⟩|⟨r,j,y,h,q,_⟩
 .cases h
 .injection h with f t u
  injection f with f
  injection f with f
  subst f;exact q
theorem PJ (w:Rel c){f:List VV->Option (El s×List VV)}(t:La c s f){l:List (El s)}(h:GB c.S s f v=O l)(j:VRel c v a):
  BC c s l a/\∀b p n q,a= .slice (O ⟨b,p,Y⟩) n q->q≠0->¬c.mut b∨∃k,Kz v=O k/\(ad c.S k).dim≠Y/\c.μ k=O b:=by
 cases v<;>simp only[GB]at h<;>try(cases h;done)
 case nils=>
  injection h with h
  subst h;cases j;exact⟨.inl ⟨Y,rfl,rfl,λz D=>by cases D⟩,λb p n q e=>by cases e⟩
 case lst s' l'=>
  obtain⟨e,g⟩:=qU h;cases e;subst g;refine⟨j.listAt,λb p n q e B=> .inl ?_⟩;subst e;exact j.lst_mut B
 case full k=>
  refine⟨S5 w t h j,λb p n q e _=> .inr ⟨k,rfl, ?_⟩⟩;obtain⟨d,g,_⟩:=vU t h;subst e;cases j with
  |full C _ u=>
   obtain⟨_,_,A⟩:=u d g;exact⟨by rw[g];simp,A.addr⟩
 case part k lo m=>
  cases r:AW s f (ad c.S k)with
  |none=>rw[r]at h;cases h
  |some E=>
   rw[r]at h;injection h with h
   subst h;refine⟨(TG w t r j).1,λb p n q e _=> .inr ⟨k,rfl, ?_⟩⟩;obtain⟨d,g,_⟩:=vU t r;subst e;cases j with
   |part C _ u=>exact⟨by rw[g];simp,(u d g).addr⟩
theorem NF (t:Rel c){f:List VV->Option (El s×List VV)}(C:La c s f){l:List (El s)}(h:Rl c.S s f v=O l)(D:VRel c v a):VRel c (.lst s l) a:=by
 have j:GB c.S s f v=O l/\∀k,Kz v=O k->(ad c.S k).frozen=Za:=by
  unfold Rl at h;split at h
  .rename_i k;cases g:(ad c.S k).frozen with
   |false=>rw[g]at h;cases h
   |true=>
    rw[g]at h;exact⟨h,λE e=>by cases e;exact g⟩
  .rename_i k lo n;cases g:(ad c.S k).frozen with
   |false=>rw[g]at h;cases h
   |true=>
    rw[g]at h;exact⟨h,λE e=>by cases e;exact g⟩
  .rename_i m q;refine⟨h,λk e=> ?_⟩;cases v<;>simp only[Kz]at e<;>try(cases e;done)
   .exact(m _ rfl).elim
   .exact(q _ _ _ rfl).elim
 obtain⟨m,q⟩:=PJ t C j.1 D;refine m.rel λb p n u e B=> ?_
 rcases q b p n u e B with r|⟨k,r,w,A⟩
 .exact r
 .exact t.fz_mut (j.2 k r) w A
theorem pX {c:Ctx}(u:Rel c): ∀s:Sh,La c s (pv c.S s)
 | .int k,f,x,g,h=>by
  cases f with
  |nil=>simp[pv]at h
  |cons v r=>
   cases v<;>simp only[pv]at h<;>try(cases h;done)
   rename_i L n;cases C:Zc (L=k)with
   |false=>rw[C]at h;cases h
   |true=>
    rw[C]at h;injection h with h
    injection h with j m
    subst j;subst m;have:=of_decide_eq_true C;subst this;exact⟨[_],rfl,rfl,λ_ h=>h⟩
 | .bool,f,x,g,h=>by
  cases f with
  |nil=>simp[pv]at h
  |cons v r=>
   cases v<;>simp only[pv]at h<;>try(cases h;done)
   injection h with h
   injection h with j m
   subst j;subst m;exact⟨[_],rfl,rfl,λ_ h=>h⟩
 | .str,f,x,g,h=>by
  cases f with
  |nil=>simp[pv]at h
  |cons v r=>
   cases v<;>simp only[pv]at h<;>try(cases h;done)
   injection h with h
   injection h with j m
   subst j;subst m;exact⟨[_],rfl,rfl,λ_ h=>h⟩
 | .list s,f,x,g,h=>by
  cases f with
  |nil=>simp[pv]at h
  |cons v r=>
   simp only[pv]at h;cases j:Rl c.S s (pv c.S s) v with
   |none=>rw[j]at h;cases h
   |some l=>
    rw[j]at h;injection h with h
    injection h with m w
    subst m;subst w;refine⟨[v],rfl,rfl,λF t=> ?_⟩;cases t with
    |cons t K=>
     cases K;exact .cons (NF u (pX u s) j t) .nil
 | .pair a b,f,x,g,h=>by
  simp only[pv]at h;cases j:pv c.S a f with
  |none=>rw[j]at h;cases h
  |some p=>
   obtain⟨y,P⟩:=p;rw[j]at h;simp only[zG]at h;cases m:pv c.S b P with
   |none=>rw[m]at h;cases h
   |some q=>
    obtain⟨z,V⟩:=q;rw[m]at h;injection h with h
    injection h with w H
    subst w;subst H;obtain⟨M,rfl,D,A⟩:=pX u a _ _ _ j;obtain⟨N,rfl,E,B⟩:=pX u b _ _ _ m;refine⟨M++N,by rw[List.append_assoc],by rw[bB,D,E];rfl,λF t=> ?_⟩;obtain⟨Q,U,rfl,I,J⟩:=F2.app_left t;exact(A _ I).append (B _ J)
theorem ag5 (g:Rel c){l:List (El s)}(h:WQ c.S s v=O l)(j:VRel c v a):
  BC c s l a/\∀b p n f,a= .slice (O ⟨b,p,Y⟩) n f->f≠0->¬c.mut b∨∃k,Kz v=O k/\(ad c.S k).dim≠Y/\c.μ k=O b:=
 PJ g (pX g s) h j
end
section
open Bool renaming and_eq_true -> aD
open List renaming getElem?_eq_getElem -> aB, getD_eq_getElem?_getD -> bB, getElem?_map -> bD, all_append -> cD, getElem?_eq_none -> dB, length_drop -> dD, length_take -> eD
open Nat renaming zero_add -> cB, le_of_ble_eq_true -> fB
def ar (c:Ctx)(e:cu)(ea:cj):Prop:= ∀t,VRel c (mv e t) (ea t)
theorem ar.frame {f:Ctx}(h:ar c e ea)(g:Le c f):ar f e ea:=λt=>(h t).frame g
theorem zL {d t:Nat}:mv (ui e d v) t=if t=d then v else mv e t:=by
 induction d generalizing e t with
 |zero=>cases e<;>cases t<;>simp[ui,mv]
 |succ d f=>
  cases e with
  |nil=>
   cases t with
   |zero=>simp[ui,mv]
   |succ t=>simp[ui,mv,f]
  |cons a r=>
   cases t with
   |zero=>simp[ui,mv]
   |succ t=>simp[ui,mv,f]
theorem ar.put (h:ar c e ea){d:Nat}(g:VRel c v a):ar c (ui e d v) (ea.put d a):=by
 intro t;rw[zL];unfold cj.put;by_cases f:t=d
 .rw[zE f,zE f];exact g
 .rw[zF f,zF f];exact h t
theorem ar.putO (h:ar c e ea){d:Option Nat}(f:VRel c v a):ar c (putO e d v) (ea.putO d a):=by
 cases d with
 |none=>exact h
 |some d=>exact h.put f
theorem Ts (c:Ctx)(v:Value):VRel c (LZ v) v:=by
 unfold LZ;split
 .exact .bool _
 .exact .int _ _
 .exact .str rfl
 .exact .nilp
 .exact .nils
 .exact .nilf
 .exact .undef _
theorem Hw (c:Ctx)(l:List Value):F2 (VRel c) (l.map LZ) l:=by
 induction l with
 |nil=>exact .nil
 |cons v l f=>exact .cons (Ts c v) f
theorem aA6 (c:Ctx)(v:Value):VRel c (ofC v) v:=by
 unfold ofC;split
 .rename_i cs;exact .agg (by simpa using Hw c cs.toList)
 .exact Ts c _
theorem bl (h:ar c e ea)(x:Operand):VRel c (ev e x) (ea.ev x):=by
 cases x with
 |tmp t=>exact h t
 |const v=>exact aA6 c v
 |global _=>exact .undef _
 |func f=>exact .fn .nil .nil
theorem Mi (h:ar c e ea)(f:List Operand):F2 (VRel c) (f.map (ev e)) (f.map ea.ev):=by
 induction f with
 |nil=>exact .nil
 |cons x f g=>exact .cons (bl h x) g
theorem ap {β:Type}{b:Bool}{x:Option β}{y:β}(h:gd b x=O y):b=Za/\x=O y:=by
 cases b with
 |false=>cases h
 |true=>exact⟨rfl,h⟩
theorem TB (h:VRel c v a)(f:aC3 v=Za):one a=Za:=by
 cases h<;>first|rfl|assumption|(cases f;done)|(rename_i h;rcases h with rfl|⟨_,_,rfl⟩<;>rfl)
theorem qj {c:Ctx}: ∀{l:List VV} {m:List Value},F2 (VRel c) l m->tv l=Za->m.all one=Za
 |_,_, .nil,_=>rfl
 |_,_, .cons f g,h=>by
  simp only[tv,List.all_cons,aD]at h⊢;exact⟨TB f h.1,qj g h.2⟩
theorem G5 : ∀(s:Sh) (x:El s),tv (dx s x)=Za
 | .int _,_=>rfl
 | .bool,_=>rfl
 | .str,_=>rfl
 | .list _,_=>rfl
 | .pair a b,x=>by
  have f:=G5 a x.1;have g:=G5 b x.2;simp only[tv,dx,cD,aD]at*;exact⟨f,g⟩
theorem vX (s:Sh)(l:List (El s)):tv (gm s l)=Za:=by
 induction l with
 |nil=>rfl
 |cons x l g=>
  have f:=G5 s x;rw[jd];simp only[tv,cD,aD]at*;exact⟨f,g⟩
theorem Ki (h:VRel c v a)(g:tv (rK v)=Za):F2 (VRel c) (rK v) (cellsOf a):=by
 have f:one a=Za->cellsOf a=[a]:=λh=>by cases a<;>first|rfl|(cases h;done)
 cases v with
 |agg l=>
  cases h with
  |agg h=>exact h
 |undef=>cases g
 |tup l=>cases g
 |_=>
  rw[f (TB h rfl)];exact .cons h .nil
theorem br {T:lj}{op:AOp}{e:cj}{Z:Hp}{v:Value}{K:Value->Hp->Prop}(h:op.run e Z=O (v,Z'))(f:K v Z'):bn T op e Z K:=by
 unfold bn;split
 .cases h
 .cases h
 .cases h
 .rw[h];exact f
theorem Ap {α:Type}: ∀(l:List α) (i:Nat),nth l i=l[i]?
 |[],_=>rfl
 |_::_,0=>rfl
 |_::l,i+1=>by
  rw[show nth (_::l) (i+1)=nth l i from rfl,Ap l i];rfl
theorem F2.nth {l:List VV}{m:List Value}(h:F2 (VRel c) l m)(f:nth l i=O v): ∃a,m[i]?=O a/\VRel c v a:=by
 rw[Ap]at f;exact h.get i v f
theorem KB {k:IntKind}: ∀{cs:List VV} {l:Zd},zM k cs=O l->cs=l.map (.int k)
 |[],l,h=>by cases h;rfl
 |v::r,l,h=>by
  cases v<;>simp only[zM]at h<;>try(cases h;done)
  rename_i j n;cases g:Zc (j=k)with
  |false=>rw[g]at h;cases h
  |true=>
   rw[g,zC]at h;cases f:zM k r with
   |none=>rw[f]at h;cases h
   |some m=>
    rw[f]at h;injection h with h
    subst h;rw[KB f,of_decide_eq_true g];rfl
theorem M3 : ∀{cs:List VV} {l:List Bool},M2 cs=O l->cs=l.map .bool
 |[],l,h=>by cases h;rfl
 |v::r,l,h=>by
  cases v<;>simp only[M2]at h<;>try(cases h;done)
  cases f:M2 r with
  |none=>rw[f]at h;cases h
  |some m=>
   rw[f]at h;injection h with h
   subst h;rw[M3 f];rfl
theorem Qe : ∀{cs:List VV} {l:List (Zd)},Uq cs=O l->cs=l.map .str
 |[],l,h=>by cases h;rfl
 |v::r,l,h=>by
  cases v<;>simp only[Uq]at h<;>try(cases h;done)
  cases f:Uq r with
  |none=>rw[f]at h;cases h
  |some m=>
   rw[f]at h;injection h with h
   subst h;rw[Qe f];rfl
theorem TH {β:Type}{S:ah}{k:VV->ah->Option β}{y:β}: ∀{cs:List VV} {i:Nat},W9 S k cs i=O y->∃v,cs[i]?=O v/\k v S=O y
 |[],_,h=>by cases h
 |v::r,i,h=>by
  simp only[W9]at h;cases f:Nat.beq i 0 with
  |true=>
   rw[f]at h;have:=Nat.eq_of_beq_eq_true f;subst this;exact⟨v,rfl,h⟩
  |false=>
   rw[f]at h;obtain⟨w,g,m⟩:=TH h;have:i≠0:=λe=>by subst e;cases f
   obtain⟨j,rfl⟩:=Nat.exists_eq_succ_of_ne_zero this;exact⟨w,g,m⟩
theorem SC {β:Type}{k:VV->ah->Option β}{y:β}(j:i<cs.length)(h:SB cs i S k=O y): ∃v,cs[i]?=O v/\k v S=O y:=by
 unfold SB at h;split at h
 .rename_i kd n r;split at h
  .rename_i l g;have:=KB g;subst this;refine⟨_, ?_,h⟩;rw[show(VV.int kd n::l.map (VV.int kd))=(n::l).map (VV.int kd)from rfl,bD];have f:i<(n::l).length:=by simpa using j
   rw[aB f,bB,aB f];rfl
  .cases h
 .rename_i b r;split at h
  .rename_i l g;have:=M3 g;subst this;refine⟨_, ?_,h⟩;rw[show(VV.bool b::l.map VV.bool)=(b::l).map VV.bool from rfl,bD];have f:i<(b::l).length:=by simpa using j
   rw[aB f,bB,aB f];rfl
  .cases h
 .rename_i b r;split at h
  .rename_i l g;have:=Qe g;subst this;refine⟨_, ?_,h⟩;rw[show(VV.str b::l.map VV.str)=(b::l).map VV.str from rfl,bD];have f:i<(b::l).length:=by simpa using j
   rw[aB f,bB,aB f];rfl
  .cases h
 .exact TH h
theorem Rel.block (j:Rel c)(n:(ad c.S k).dim=O d)(f:c.μ k=O b):
  ∃y cs rest,c.Z.m b=O y/\y.es=d.1/\((ad c.S k).frozen=Zb->y.own=Za)/\y.cells=cs++rest/\F2 (VRel c) (ad c.S k).vals cs:=by
 obtain⟨_,h⟩:=j.blk k d n;rcases h with⟨_,h⟩|⟨q,y,cs,rest,h,g⟩
 .rw[h]at f;cases f
 .rw[f]at h;injection h with h
  subst h;exact⟨y,cs,rest,g⟩
def ym (c:Ctx)(cs:List VV)(b p:Nat):Prop:= ∃y,c.Z.m b=O y/\p+cs.length<=y.cells.length/\F2 (VRel c) cs ((y.cells.drop p).take cs.length)
theorem ym.get (h:ym c cs b p)(f:nth cs o=O v): ∃y a,c.Z.m b=O y/\y.cells[p+o]?=O a/\VRel c v a:=by
 obtain⟨y,g,t,j⟩:=h;obtain⟨a,n,q⟩:=F2.nth j f;refine⟨y,a,g, ?_,q⟩;rw[Ap]at f
 have r:o<cs.length:=by
  rcases Nat.lt_or_ge o cs.length with h|h
  .exact h
  .rw[dB h]at f;cases f
 rwa [List.getElem?_take,zE r,List.getElem?_drop]at n
theorem ym.read (h:ym c cs b p){n:Nat}(r:o+n<=cs.length): ∃y as,c.Z.m b=O y/\uG y (p+o) n=O as/\F2 (VRel c) ((cs.drop o).take n) as:=by
 obtain⟨y,g,q,j⟩:=h;refine⟨y,(y.cells.drop (p+o)).take n,g,Zg, ?_⟩;have f:=(j.drop o).take n;rw[List.drop_take,List.drop_drop,List.take_take,Nat.min_eq_left (by omega)]at f;exact f
theorem Rel.stands (m:Rel c)(n:(ad c.S k).dim=O d)(q:c.μ k=O b):ym c (ad c.S k).vals b 0:=by
 obtain⟨y,cs,h,j,_,_,f,g⟩:=m.block n q;have r:=g.length;refine⟨y,j,by rw[f,List.length_append];omega, ?_⟩;rw[List.drop_zero,f,List.take_append_of_le_length (by omega),List.take_of_length_le (by omega)];exact g
theorem ym.part (h:ym c cs b p){n:Nat}(r:o+n<=cs.length):ym c ((cs.drop o).take n) b (p+o):=by
 obtain⟨y,g,q,j⟩:=h;have f:((cs.drop o).take n).length=n:=by rw[eD,dD];omega
 refine⟨y,g,by rw[f];omega, ?_⟩;have m:=(j.drop o).take n;rw[List.drop_take,List.drop_drop,List.take_take,Nat.min_eq_left (by omega)]at m
 rwa [f]
theorem TO {β:Type}(P:Rel c){n:Nat}{k:VV->ah->Option β}{y:β}(h:P6 c.S n agg v k=O y)(M:VRel c v a):
  ∃b o x,a= .pointer (O ⟨b,o,Y⟩)/\c.Z.m b=O x/\
   (agg=Zb->∃u w,x.cells[o]?=O u/\VRel c w u/\k w c.S=O y)/\
   (agg=Za->∃K L,uG x o n=O K/\F2 (VRel c) L K/\k (.agg L) c.S=O y):=by
 have t: ∀(cs:List VV) (b p o:Nat),ym c cs b p->a= .pointer (O ⟨b,p+o,Y⟩)->
   cond agg (gd (Nat.ble (o+n) cs.length) (k (.agg ((cs.drop o).take n)) c.S)) (match nth cs o with
    |some v=>k v c.S
    |none=>Y)=O y->
   ∃b o x,a= .pointer (O ⟨b,o,Y⟩)/\c.Z.m b=O x/\
   (agg=Zb->∃u w,x.cells[o]?=O u/\VRel c w u/\k w c.S=O y)/\
   (agg=Za->∃K L,uG x o n=O K/\F2 (VRel c) L K/\k (.agg L) c.S=O y):=by
  intro cs b p o g r h;cases agg with
  |true=>
   obtain⟨C,N⟩:=ap h;obtain⟨x,X,D,B,E⟩:=g.read (fB C);exact⟨b,p+o,x,r,D,(by intro h;cases h),λ_=>⟨X,_,B,E,N⟩⟩
  |false=>
   rw[zD]at h;split at h
   .rename_i w hw;obtain⟨x,u,D,B,E⟩:=g.get hw;exact⟨b,p+o,x,r,D,(λ_=>⟨u,w,B,E,h⟩),(by intro h;cases h)⟩
   .cases h
 unfold P6 at h;cases v with
 |ptr q o=>
  simp only at h;cases f:ad c.S q with
  |dead=>rw[f]at h;cases h
  |arr s z l=>rw[f]at h;cases h
  |cells A z l=>
   rw[f]at h;cases M with
   |ptr V _ H=>
    obtain⟨b,I,r⟩:=H (A,l.length) (by rw[f];rfl);have g:=P.stands (k:=q) (d:=(A,l.length)) (by rw[f];rfl) I;rw[f]at g;exact t l b 0 o g (by rw[r,cB]) h
 |pix q o m i=>
  simp only at h;cases f:ad c.S q with
  |dead=>rw[f]at h;cases h
  |arr s z l=>rw[f]at h;cases h
  |cells A z l=>
   rw[f]at h;obtain⟨C,N⟩:=ap h;rw[aD]at C;have D:=fB C.2;have F:agg=Zb:=by simpa using C.1
   subst F;cases M with
   |pix V _ U H=>
    obtain⟨b,I,r⟩:=H (A,l.length) (by rw[f];rfl);have g:=P.stands (k:=q) (d:=(A,l.length)) (by rw[f];rfl) I;rw[f]at g;have W:((l.drop o).take m).length=m:=by rw[eD,dD];omega
    obtain⟨w,B,E⟩:=SC (by omega) N;have j:ym c ((l.drop o).take m) b (0+o):=ym.part (cs:=l) g D;rw[<-Ap]at B;obtain⟨x,u,h6,h7,h8⟩:=j.get B;exact⟨b,o+i,x,r,h6,(λ_=>⟨u,w,by rwa [cB]at h7,h8,E⟩),(by intro h;cases h)⟩
 |pel q i o=>
  simp only at h;cases f:ad c.S q with
  |dead=>rw[f]at h;cases h
  |cells A z l=>rw[f]at h;cases h
  |arr s z l=>
   rw[f]at h;simp only at h;cases J:l[i]? with
   |none=>rw[J]at h;cases h
   |some x=>
    rw[J]at h;cases M with
    |pel V _ H=>
     obtain⟨b,I,r⟩:=H (s.w,l.length*s.w) (by rw[f];rfl);have g:=P.stands (k:=q) (d:=(s.w,l.length*s.w)) (by rw[f];rfl) I;rw[f]at g
     have U:i<l.length:=by
      rcases Nat.lt_or_ge i l.length with h|h
      .exact h
      .rw[dB h]at J;cases J
     have Q:i*s.w+s.w<=(gm s l).length:=by
      rw[ji,<-Nat.succ_mul];exact Nat.mul_le_mul_right _ U
     have j:ym c (((gm s l).drop (i*s.w)).take s.w) b (0+i*s.w):=ym.part (cs:=gm s l) g Q;rw[Kw J,cB]at j;exact t (dx s x) b (i*s.w) o j r h
 |pin s x o=>
  simp only at h;cases M with
  |pin hn hy hl hf=>
   exact t (dx s x) _ _ o ⟨_,hy,by rw[ei];exact hl,by rw[ei];exact hf⟩ rfl h
 |_=>cases h
end
section
open Nat renaming lt_of_lt_of_le -> aB
theorem MA.frame {f:Ctx}(F:Le c f)(h:MA c k)(r:ad f.S k=ad c.S k)(H:(ad c.S k).dim≠Y->f.μ k=c.μ k)(E: ∀b y,(ad c.S k).dim≠Y->c.μ k=O b->c.Z.m b=O y->f.Z.m b=O y):MA f k:=by
 intro d n;rw[r]at n;obtain⟨u,w⟩:=h d n;have t:=H (by rw[n];simp);refine⟨u, ?_⟩;rcases w with⟨j,q⟩|⟨b,y,cs,g,j,q,A,B,C,D⟩
 .exact .inl ⟨j,t.trans q⟩
 .exact .inr ⟨b,y,cs,g,t.trans j,E b y (by rw[n];simp) j q,A,by rw[r];exact B,C,by rw[r];exact VRel.frames F D⟩
def uS (S S':ah):Prop:=S'.length=S.length/\∀k,ad S' k=ad S k∨ad S' k=(ad S k).freeze
theorem uS.refl (S:ah):uS S S:=⟨rfl,λ_=> .inl rfl⟩
theorem O7 {b:Blk}:b.freeze.freeze=b.freeze:=by cases b<;>rfl
theorem uS.trans {a b c:ah}(h:uS a b)(k:uS b c):uS a c:=by
 refine⟨k.1.trans h.1,λi=> ?_⟩;rcases h.2 i with h1|h1<;>rcases k.2 i with h2|h2
 .exact .inl (h2.trans h1)
 .exact .inr (by rw[h2,h1])
 .exact .inr (h2.trans h1)
 .exact .inr (by rw[h2,h1,O7])
theorem uS.put :uS S (i9 S k (ad S k).freeze):=by
 refine⟨B0,λi=> ?_⟩;rw[yB];split
 .rename_i h;rw[h.1];exact .inr rfl
 .exact .inl rfl
theorem uS.fold {f:ah->VV->ah}(g: ∀S v,uS S (f S v)): ∀(l:List VV) (S:ah),uS S (l.foldl f S)
 |[],S=>uS.refl S
 |v::l,S=>(g S v).trans (uS.fold g l _)
theorem WG : ∀(n:Nat) (S:ah) (v:VV),uS S (fzv n S v)
 |0,S,_=>uS.refl S
 |n+1,S,v=>by
  have f: ∀k,uS S (match ad S k with
    | .cells j _ l=>l.foldl (fzv n) (i9 S k (.cells j Za l))
    |b=>i9 S k b.freeze):=by
   intro k;have g:=uS.put (S:=S) (k:=k);split
   .rename_i j z l h;rw[h]at g;exact uS.trans g (uS.fold (WG n) l _)
   .exact g
  unfold fzv;split
  .exact f _
  .exact f _
  .exact uS.refl S
theorem Hn (S:ah)(l:List VV):uS S (IQ S l):=uS.fold (WG 3) l S
theorem S8 (S:ah)(v:VV):uS S (ax2 S v):=by
 unfold ax2;split
 .split
  .exact Hn S _
  .exact uS.refl S
 .split
  .exact Hn S _
  .exact uS.refl S
 .exact uS.refl S
theorem Ya (k:Sk)(v:VV)(S:ah):uS S (ae8 k v S):=by
 unfold ae8;split
 .exact S8 S v
 .exact uS.refl S
theorem Nu : ∀(l:List Sk) (vs:List VV) (S:ah),uS S (Gw l vs S)
 |[],_,S=>uS.refl S
 |_::_,[],S=>uS.refl S
 |k::r,v::vs,S=>(Ya k v S).trans (Nu r vs _)
theorem ae6 (b:Bool)(h:uS S S'):uS S (cond b S' S):=by
 cases b
 .exact uS.refl S
 .exact h
theorem S7 (N:Nat)(f:List OSk): ∀(l:List Sk) (vs:List VV) (S:ah),uS S (ax0 N f l vs S)
 |[],_,S=>uS.refl S
 |_::_,[],S=>uS.refl S
 |k::r,v::vs,S=>by
  refine uS.trans ?_ (S7 N f r vs _);split
  .split
   .exact ae6 _ (S8 S v)
   .exact uS.refl S
  .exact uS.refl S
theorem yq : ∀(l:List Nat) (S:ah),uS S (Ft l S)
 |[],S=>uS.refl S
 |_::l,S=>uS.put.trans (yq l _)
theorem uS.dim (h:uS S S')(k:Nat):(ad S' k).dim=(ad S k).dim:=by
 rcases h.2 k with h|h<;>rw[h]
 exact gy
theorem uS.vals (h:uS S S')(k:Nat):(ad S' k).vals=(ad S k).vals:=by
 rcases h.2 k with h|h<;>rw[h]
 exact LD
theorem uS.fz (h:uS S S')(f:(ad S' k).frozen=Zb):ad S' k=ad S k:=by
 rcases h.2 k with h|h
 .exact h
 .rw[h,pY]at f;cases f
theorem uS.le (h:uS c.S S'):Le c ⟨c.μ,S',c.Z,c.fb⟩:=by
 refine⟨Nat.le_of_eq h.1.symm,λk d _ m=>⟨(h.dim k)▸m,rfl⟩,λk n _=> ?_,λ_ _ _ y _ _ _ f=>⟨y,f,rfl⟩,λb y f _=>f,λb y f q=> ?_,Nat.le_refl _,rfl⟩
 .rcases h.2 k with h|h
  .exact h
  .exact h.trans (DI n)
 .rintro⟨k,g,j⟩;exact q ⟨k,by rw[<-h.fz g];exact g,j⟩
theorem uS.rel (f:Rel c)(h:uS c.S S'):Rel ⟨c.μ,S',c.Z,c.fb⟩:=by
 refine⟨f.ok,λk I b j q r t=>f.inj k I b (by rw[<-h.fz j];exact j) (by rw[<-h.dim];exact q) r t,λk d H=> ?_,λk b j r=>f.fbk k b (by rw[<-h.dim];exact j) r,f.fbl⟩;have n:(ad c.S k).dim=O d:=(h.dim k)▸H;obtain⟨w,m⟩:=f.blk k d n;refine⟨w, ?_⟩;rcases m with m|⟨b,y,cs,g,A,B,C,D,E,F⟩
 .exact .inl m
 .exact .inr ⟨b,y,cs,g,A,B,C,λu=>D (by rw[<-h.fz u];exact u),E,by rw[h.vals k];exact VRel.frames h.le F⟩
theorem uS.calm (d:List Nat)(h:uS c.S S'):yV d c ⟨c.μ,S',c.Z,c.fb⟩:=λk _ _ f=>⟨by rw[h.dim];exact f,λ_ _=>rfl⟩
theorem yV.trans {a b:Ctx}{d:List Nat}(h:yV d a b)(k:yV d b c)(q:Le a b):yV d a c:=by
 intro i f n A;obtain⟨j,t⟩:=h i f n A;obtain⟨u,w⟩:=k i (aB f q.len) n j;refine⟨u,λx r=> ?_⟩
 have g:b.μ i=O x:=by
  cases m:(ad b.S i).dim with
  |none=>exact(j m).elim
  |some z=>exact(q.al i z f m).2.trans r
 exact(w x g).trans (t x r)
def Wm (c:Ctx)(kill:Option Nat)(b:Nat):Prop:= ∃k,kill=O k/\c.μ k=O b
def vd (c:Ctx)(b1:Option Nat):Nat->Option Nat:=λi=>if i=c.S.length then b1 else c.μ i
theorem Be {kill:Option Nat}:(rN S kill).length=S.length:=by cases kill<;>simp[rN,B0]
theorem Yh {kill:Option Nat}:ad (rN S kill) i=if kill=O i then .dead else ad S i:=by
 cases kill with
 |none=>simp[rN]
 |some k=>
  simp only[rN,yB,Option.some.injEq];by_cases h:i=k
  .subst h;by_cases f:i<S.length
   .simp[f]
   .simp[f,zQ (Nat.le_of_not_lt f)]
  .simp[h,Ne.symm h]
structure Moves (c:Ctx)(kill:Option Nat)(b1:Option Nat)(blk:Blk)(Z':Hp):Prop where
 fr: ∀b,b1=O b->(∀z,c.Z.m b≠O z)->¬c.fb b
 kz: ∀k,kill=O k->(ad c.S k).frozen=Zb
 ok:Z'.Ok
 n:c.Z.n<=Z'.n
 old: ∀i y,c.Z.m i=O y->¬Wm c kill i->Z'.m i=O y
 one: ∃d,blk.dim=O d/\1<=d.1/\((b1=Y/\d.2=0)∨∃b y cs rest,b1=O b/\Z'.m b=O y/\y.es=d.1/\(blk.frozen=Zb->y.own=Za)/\y.cells=cs++rest/\F2 (VRel c) blk.vals cs/\((∀z,c.Z.m b≠O z)∨Wm c kill b))
section
variable {c:Ctx} {kill b1:Option Nat} {blk:Blk} {Z':Hp}
theorem pZ (i:Nat):ad (rN c.S kill++[blk]) i=if i=c.S.length then blk else if kill=O i then .dead else ad c.S i:=by
 by_cases h:i=c.S.length
 .subst h;rw[zE rfl,<-Be (S:=c.S) (kill:=kill),Ul]
 .rw[zF h];by_cases f:i<c.S.length
  .rw[rP (by rw[Be];exact f),Yh]
  .have g:c.S.length<i:=by omega
   rw[zQ (by rw[List.length_append,Be];simp;omega),zQ (k:=i) (S:=c.S) (by omega)];split<;>rfl
theorem Moves.low (g:Rel c)(h:Moves c kill b1 blk Z'){i b:Nat}(_:i≠c.S.length)(m:kill≠O i)(j:(ad c.S i).dim≠Y)(n:c.μ i=O b): ¬Wm c kill b:=by
 rintro⟨k,rfl,f⟩;exact m (congrArg O (g.inj k i b (h.kz k rfl) j f n))
theorem Moves.le (D:Rel c)(h:Moves c kill b1 blk Z'):Le c ⟨vd c b1,rN c.S kill++[blk],Z',c.fb⟩:=by
 have j: ∀k,k<c.S.length->k≠c.S.length:=λk g=>by omega
 refine⟨by simp[Be],λk d g f=> ?_,λk E f=> ?_,λk d b y g f t u=> ?_,λb y u w=>h.old b y u λ⟨k,e,t⟩=>w ⟨k,h.kz k e,t⟩,λb y u w=> ?_,h.n,rfl⟩
 .simp only[pZ,zF (j k g)]at f;split at f
  .cases f
  .exact⟨f,zF (j k g)⟩
 .have g:=py f;simp only[pZ,zF (j k g)];rw[zF];intro e;have:=h.kz k e;rw[E]at this;cases this
 .simp only[pZ,zF (j k g)]at f;split at f
  .cases f
  .rename_i A;exact⟨y,h.old b y u (h.low D (j k g) A (by rw[f];simp) t),rfl⟩
 .have B: ¬Wm c kill b:=λ⟨k,e,t⟩=>w ⟨k,h.kz k e,t⟩
  rintro⟨k,q,m⟩;simp only[pZ]at q;simp only[vd]at m;by_cases g:k=c.S.length
  .rw[zE g]at q m;obtain⟨d,_,_,r⟩:=h.one;rcases r with⟨r,_⟩|⟨F,y',cs,C,r,_,_,_,_,_,h4⟩
   .rw[r]at m;cases m
   .rw[r]at m;injection m with m
    subst m;rcases h4 with h4|h4
    .exact h4 y u
    .exact B h4
  .rw[zF g]at q m;split at q
   .cases q
   .exact w ⟨k,q,m⟩
theorem Moves.rel (A:Rel c)(h:Moves c kill b1 blk Z'):Rel ⟨vd c b1,rN c.S kill++[blk],Z',c.fb⟩:=by
 have F:=h.le A
 have B: ∀i b,i≠c.S.length->kill≠O i->(ad c.S i).dim≠Y->c.μ i=O b->b1≠O b:=by
  intro i b Q f w m e;obtain⟨d,_,_,j⟩:=h.one;rcases j with⟨j,_⟩|⟨H,y',cs,u,j,_,_,_,_,_,h4⟩
  .rw[j]at e;cases e
  .rw[j]at e;injection e with e
   subst e;rcases h4 with h4|h4
   .cases E:(ad c.S i).dim with
    |none=>exact w E
    |some V=>
     obtain⟨y,_,_,K,_⟩:=A.block E m;exact h4 y K
   .exact h.low A Q f w m h4
 have J: ∀b,c.fb b->b1≠O b:=by
  intro b C e;obtain⟨d,_,_,j⟩:=h.one;rcases j with⟨j,_⟩|⟨H,y',cs,u,j,_,_,_,_,_,h4⟩
  .rw[j]at e;cases e
  .rw[j]at e;injection e with e
   subst e;rcases h4 with h4|⟨k,h4,I⟩
   .exact h.fr _ j h4 C
   .exact A.fbk k _ (rk (h.kz k h4)) I C
 refine⟨h.ok,λk L b f g m q=> ?_,λk=> ?_,λk b f m C=> ?_,λb C=>aB (A.fbl b C) h.n⟩
 rotate_left 2
 .simp only[pZ]at f;simp only[vd]at m;by_cases t:k=c.S.length
  .rw[zE t]at m;exact J b C m
  .rw[zF t]at m f;split at f
   .exact f rfl
   .exact A.fbk k b f m C
 .simp only[pZ]at f g;simp only[vd]at m q;by_cases t:k=c.S.length<;>by_cases D:L=c.S.length
  .omega
  .rw[zE t]at m;rw[zF D]at q g;split at g
   .exact(g rfl).elim
   .rename_i r;exact(B L b D r g q m).elim
  .rw[zF t]at m f;rw[zE D]at q;split at f
   .cases f
   .rename_i r;exact(B k b t r (rk f) m q).elim
  .rw[zF t]at m f;rw[zF D]at q g;split at f
   .cases f
   .split at g
    .exact(g rfl).elim
    .exact A.inj k L b f g m q
 .by_cases f:k=c.S.length
  .subst f;intro d w;simp only[pZ,if_true]at w⊢;obtain⟨U,t,D,j⟩:=h.one;rw[w]at t;injection t with t
   subst t;refine⟨D, ?_⟩;simp only[vd,if_true];rcases j with⟨j,h4⟩|⟨H,y',cs,u,j,h4,I,M,N,P,_⟩
   .exact .inl ⟨h4,j⟩
   .exact .inr ⟨H,y',cs,u,j,h4,I,M,N,VRel.frames F P⟩
  .by_cases r:kill=O k
   .intro d w;simp only[pZ,zF f,zE r]at w;cases w
   .refine(A.blk k).frame F ?_ (λ_=>zF f) λb y w m K=> ?_
    .simp only[pZ,zF f,zF r]
    .exact h.old b y K (h.low A f r w m)
theorem Moves.calm (n:Rel c)(h:Moves c kill b1 blk Z'){d:List Nat}(t: ∀k,kill=O k->k∈d):yV d c ⟨vd c b1,rN c.S kill++[blk],Z',c.fb⟩:=by
 intro k A u f;have j:k≠c.S.length:=by omega
 have m:kill≠O k:=λe=>u (t k e)
 simp only[pZ,zF j,zF m];refine⟨f,λb q=> ?_⟩;cases g:(ad c.S k).dim with
 |none=>exact(f g).elim
 |some w=>
  obtain⟨y,_,_,r,_⟩:=n.block g q;rw[r];exact h.old b y r (h.low n j m f q)
end
theorem OZ (g:Rel c){x:Ab.Blk}(q:blk.dim=O d)(j:1<=d.1)(r:x.es=d.1)(u:x.own=Za)(t:F2 (VRel c) blk.vals x.cells):
  Moves c Y (O c.Z.n) blk (c.Z.add x):=by
 refine⟨(λb h _ m=>by injection h with h;subst h;exact Nat.lt_irrefl _ (g.fbl _ m)),(λ_ h=>by cases h),λb y f=> ?_,Nat.le_succ _,λi y f _=> ?_,d,q,j, .inr ⟨c.Z.n,x,x.cells,[],rfl,zE rfl,r,λ_=>u,by simp,t, .inl λz w=> ?_⟩⟩
 .simp only[Hp.add]at f⊢;split at f
  .omega
  .have:=g.ok b y f;omega
 .have:=g.ok i y f;simp only[Hp.add];rw[Zh];exact f
 .have:=g.ok _ _ w;omega
structure Writes (c:Ctx)(k b:Nat)(blk:Blk)(y':Ab.Blk):Prop where
 kz:(ad c.S k).frozen=Zb
 mu:c.μ k=O b
 dim:blk.dim=(ad c.S k).dim
 fz:blk.frozen=Zb
 one: ∃y cs rest d,c.Z.m b=O y/\(ad c.S k).dim=O d/\y'.es=d.1/\y'.own=Za/\y'.cells.length=y.cells.length/\y'.cells=cs++rest/\F2 (VRel c) blk.vals cs
section
variable {c:Ctx} {k b:Nat} {blk:Blk} {y':Ab.Blk}
theorem Writes.get (h:Writes c k b blk y')(i:Nat):ad (i9 c.S k blk) i=if i=k then blk else ad c.S i:=by
 rw[yB];have:=py (rk h.kz);by_cases f:i=k
 .rw[zE ⟨f,this⟩,zE f]
 .rw[zF (λe=>f e.1),zF f]
theorem Writes.low (g:Rel c)(h:Writes c k b blk y'){i f:Nat}(m:i≠k)(j:(ad c.S i).dim≠Y)(n:c.μ i=O f):f≠b:=by
 rintro rfl;exact m (g.inj k i f h.kz j h.mu n).symm
theorem Writes.le (t:Rel c)(h:Writes c k b blk y'):Le c ⟨c.μ,i9 c.S k blk,c.Z.set b (O y'),c.fb⟩:=by
 refine⟨by simp[B0],λi d _ g=> ?_,λi r g=> ?_,λi d x y _ g u j=> ?_,λx y j n=> ?_,λx y j n=> ?_,Nat.le_refl _,rfl⟩
 .simp only[h.get]at g;split at g
  .rename_i e;subst e;exact⟨h.dim▸g,rfl⟩
  .exact⟨g,rfl⟩
 .simp only[h.get];rw[zF];rintro rfl;rw[h.kz]at r;cases r
 .by_cases e:x=b
  .subst e;obtain⟨w,_,_,_,f,_,_,_,m,_⟩:=h.one;rw[j]at f;injection f with f
   subst f;exact⟨y',by simp[Hp.set],m⟩
  .exact⟨y,by simp[Hp.set,e,j],rfl⟩
 .have q:x≠b:=by rintro rfl;exact n ⟨k,h.kz,h.mu⟩
  simp[Hp.set,q,j]
 .rintro⟨i,f,m⟩;simp only[h.get]at f;split at f
  .rename_i e;subst e;exact n ⟨i,h.kz,m⟩
  .exact n ⟨i,f,m⟩
theorem Writes.rel (f:Rel c)(h:Writes c k b blk y'):Rel ⟨c.μ,i9 c.S k blk,c.Z.set b (O y'),c.fb⟩:=by
 have q:=h.le f
 have B: ∀i,(ad (i9 c.S k blk) i).frozen=Zb->(ad c.S i).frozen=Zb:=by
  intro i m;rw[h.get]at m;split at m
  .rename_i e;subst e;exact h.kz
  .exact m
 have g: ∀i,(ad (i9 c.S k blk) i).dim=(ad c.S i).dim:=by
  intro i;rw[h.get];split
  .rename_i e;subst e;exact h.dim
  .rfl
 refine⟨λx z t=> ?_,λi j x m J r C=>f.inj i j x (B i m) (by rw[<-g];exact J) r C,λi=> ?_,λi x m r=>f.fbk i x (by rw[<-g];exact m) r,f.fbl⟩
 .simp only[Hp.set]at t;split at t
  .rename_i e;subst e;obtain⟨y,_,_,_,D,_⟩:=h.one;exact f.ok _ _ D
  .exact f.ok _ _ t
 .by_cases e:i=k
  .subst e;intro d A;obtain⟨y,cs,u,K,D,w,E,F,L,H,I⟩:=h.one;have n:(ad c.S i).dim=O d:=by rw[<-g];exact A
   rw[n]at w;injection w with w
   subst w;refine⟨(f.blk i d n).1, .inr ⟨b,y',cs,u,h.mu,by simp[Hp.set],E,λ_=>F,H, ?_⟩⟩;simp only[h.get,if_true];exact VRel.frames q I
  .refine(f.blk i).frame q (by simp only[h.get,zF e]) (λ_=>rfl) λx z A r t=> ?_
   have:=h.low f e A r;simp[Hp.set,this,t]
theorem Writes.calm (j:Rel c)(h:Writes c k b blk y'){d:List Nat}(m:k∈d):yV d c ⟨c.μ,i9 c.S k blk,c.Z.set b (O y'),c.fb⟩:=by
 intro i _ q f;have g:i≠k:=by rintro rfl;exact q m
 simp only[h.get,zF g];refine⟨f,λx n=> ?_⟩;have:=h.low j g f n;simp[Hp.set,this]
end
end
section
open Bool renaming and_eq_true -> aB
open List renaming replicate -> bD, nil_append -> dD, append_assoc -> fB, drop_append -> fD, drop_of_length_le -> gD, length_append -> iA, length_cons -> iB, length_take -> iC, replicate_succ -> iD, take_append_drop -> iE
open Nat renaming beq -> aD, le_of_ble_eq_true -> bB, eq_of_beq_eq_true -> cB, ble -> cD, le_refl -> dB, zero_add -> eD
section
variable {β:Type} {T:lj} {c:Ctx} {e:cu} {ea:cj} {k:VV->ah->Option β} {y:β} {d:List Nat}
theorem VRel.bool_inv {b:Bool}(h:VRel c (.bool b) a):a= .bool b:=by cases h;rfl
theorem VRel.int_inv {n:Int}(h:VRel c (.int kd n) a):a= .int kd n:=by cases h;rfl
theorem VRel.str_inv (h:VRel c (.str l) a): ∃s,a= .string s/\au s=l:=by cases h;exact⟨_,rfl,by assumption⟩
theorem VRel.agg_inv {l:List VV}(h:VRel c (.agg l) a): ∃as:Array Value,a= .agg as/\F2 (VRel c) l as.toList:=by cases h;exact⟨_,rfl,by assumption⟩
theorem VRel.tup_inv {l:List VV}(h:VRel c (.tup l) a): ∃as:Array Value,a= .tuple as/\F2 (VRel c) l as.toList:=by cases h;exact⟨_,rfl,by assumption⟩
theorem Ug {p:Bool}{x z v:VV}{m n:Value}(h:ao1 p x z=O v)(g:VRel c x m)(j:VRel c z n):VRel c v (cond p m n):=by
 unfold ao1 at h;split at h
 .rename_i q t r u;cases f:Zc (q=r)with
  |false=>rw[f]at h;cases h
  |true=>
   rw[f]at h;injection h with h
   subst h;have:=of_decide_eq_true f;subst this;rw[g.int_inv,j.int_inv];cases p<;>exact .int _ _
 .injection h with h
  subst h;rw[g.bool_inv,j.bool_inv];cases p<;>exact .bool _
 .injection h with h
  subst h;cases p<;>assumption
 .cases h
theorem az8 (f:Rel c)(g:ar c e ea)(h:k (ev e x) c.S=O y):bn T (.move x) ea c.Z (jb c d k y):=
 br rfl (jb.same f (bl g x) h)
theorem aC6 (m:Rel c)(g:ar c e ea){t a b:Operand}{p:Bool}(q:ev e t= .bool p)(h:al5 p (ev e a) (ev e b) c.S k=O y):bn T (.pick t a b) ea c.Z (jb c d k y):=by
 have j:=bl g t;rw[q]at j;have j:=j.bool_inv
 have f: ∀v,VRel c v (cond p (ea.ev a) (ea.ev b))->k v c.S=O y->bn T (.pick t a b) ea c.Z (jb c d k y):=by
  intro v u n;refine br (v:=cond p (ea.ev a) (ea.ev b)) (Z':=c.Z) ?_ (jb.same m u n);simp only[AOp.run,j];cases p<;>rfl
 unfold al5 at h;split at h
 .rename_i v r;exact f v (Ug r (bl g a) (bl g b)) h
 .cases p with
  |true=>exact f _ (bl g a) h
  |false=>exact f _ (bl g b) h
theorem jb.new {v:Value}{g:VV}{b1:Option Nat}{kill:Option Nat}(f:Rel c)(h:Moves c kill b1 blk Z')(j: ∀q,kill=O q->q∈d)(n:VRel ⟨vd c b1,rN c.S kill++[blk],Z',c.fb⟩ g v)(m:k g (rN c.S kill++[blk])=O y):jb c d k y v Z':=
 ⟨g,_,rfl,h.le f,h.rel f,h.calm f j,n,m⟩
theorem Rr {x:Ab.Blk}{dm:Nat×Nat}(_:blk.dim=O dm):VRel ⟨vd c (O c.Z.n),rN c.S Y++[blk],c.Z.add x,c.fb⟩ (.ptr c.S.length 0) (.pointer (O ⟨c.Z.n,0,Y⟩)):=by
 refine .ptr (by simp[rN]) rfl λf _=>⟨c.Z.n, ?_,rfl⟩
 simp[vd]
theorem ar4 : ∀{z:List Value},z.all aN4=Za->z=bD z.length (.int .u8 0)
 |[],_=>rfl
 |v::z,h=>by
  rw[List.all_cons,aB]at h
  have g:v= .int .u8 0:=by
   have f:=h.1;unfold aN4 at f;split at f
   .rw[of_decide_eq_true f]
   .cases f
  rw[iB,iD,<-ar4 h.2,g]
theorem AU (es:Nat)(z:List Value):(Gl es z).dim=O (es,z.length)/\(Gl es z).frozen=Zb/\∀c:Ctx,F2 (VRel c) (Gl es z).vals z:=by
 unfold Gl;cases f:U1 es z with
 |false=>
  rw[zD];exact⟨by simp[Blk.dim],rfl,λc=>Hw c z⟩
 |true=>
  rw[zC];unfold U1 at f;rw[aB,aB]at f;have j:=cB f.1.1;subst j;refine⟨by simp[Blk.dim,Sh.w],rfl,λc=> ?_⟩;have m:=ar4 f.2
  have g: ∀n,F2 (VRel c) (gm (.int .u8) (bD n (0:Int))) (bD n (.int .u8 0)):=by
   intro n;induction n with
   |zero=>exact .nil
   |succ n q=>exact .cons (.int _ _) q
  have h:=g z.length;rw[<-m]at h;exact h
theorem ab1 (g:Rel c){es:Nat}{z:List Value}(h:gd (cD 1 es) (k (.ptr c.S.length 0) (c.S++[Gl es z]))=O y):bn T (.alloc es z) ea c.Z (jb c d k y):=by
 obtain⟨j,m⟩:=ap h;obtain⟨f,q,n⟩:=AU es z;exact br rfl (jb.new (kill:=Y) g (OZ g (blk:=Gl es z) (x:=⟨z,Za,es⟩) (d:=(es,z.length)) f (bB j) rfl rfl (n c)) (λ_ h=>by cases h) (Rr (dm:=(es,z.length)) f) m)
theorem aL3 (g:Rel c)(n:ar c e ea){es:Nat}(h:gd (cD 1 es&&tv (rK (ev e x))) (k (.ptr c.S.length 0) (c.S++[.cells es Zb (rK (ev e x))]))=O y):bn T (.box es x) ea c.Z (jb c d k y):=by
 obtain⟨f,m⟩:=ap h;rw[aB]at f;have j:=Ki (bl n x) f.2;refine br (by simp only[AOp.run];rw[zE (qj j f.2)]) (jb.new (kill:=Y) g (OZ g (blk:= .cells es Zb (rK (ev e x))) (x:=⟨cellsOf (ea.ev x),Za,es⟩) (d:=(es,(rK (ev e x)).length)) rfl (bB f.1) rfl rfl j) (λ_ h=>by cases h) (Rr (dm:=(es,_)) rfl) m)
theorem AY (n:ar c e ea): ∀(j:List (Nat×Nat×Operand)) {cs r:List VV} {as:List Value},Ln cs (Dg e j)=O r->F2 (VRel c) cs as->∃m,Gt as (j.map λ(o,s,x)=>(o,s,ea.ev x))=O m/\F2 (VRel c) r m
 |[],cs,r,as,h,g=>by
  injection h with h
  subst h;exact⟨as,rfl,g⟩
 |(o,s,x)::j,cs,r,as,h,g=>by
  simp only[Dg,List.map_cons,Ln]at h;cases f:(aD (rK (ev e x)).length s&&cD (o+s) cs.length&&(rK (ev e x)).all aC3)with
  |false=>rw[f]at h;cases h
  |true=>
   rw[f,zC]at h;rw[aB,aB]at f;have t:=cB f.1.1;have B:=bB f.1.2;have q:=Ki (bl n x) f.2;have u:(cellsOf (ea.ev x)).length=s:=by rw[<-q.length];exact t
   have C:as.length=cs.length:=g.length.symm;obtain⟨m,w,A⟩:=AY n j h (((g.take o).append q).append (g.drop (o+s)));refine⟨m, ?_,A⟩;simp only[List.map_cons,Gt];rw[zE ⟨u,by omega⟩];exact w
theorem ac5 (m:Rel c)(n:ar c e ea){z:List Value}{f:List (Nat×Nat×Operand)}{cs:List VV}(q:Ln (z.map LZ) (Dg e f)=O cs)(h:k (.agg cs) c.S=O y):bn T (.build z f) ea c.Z (jb c d k y):=by
 obtain⟨r,g,j⟩:=AY n f q (Hw c z);exact br (by simp only[AOp.run,g];rfl) (jb.same m (.agg (by simpa using j)) h)
theorem zN {dm:Nat×Nat}{n m:Nat}{b:Nat}{yb:Ab.Blk}{kill:Option Nat}(h:blk.dim=O dm)(g:n*dm.1=dm.2)(q:n<=m)(r:Z'.m b=O yb)(j:m*dm.1<=yb.cells.length):
  VRel ⟨vd c (O b),rN c.S kill++[blk],Z',c.fb⟩ (.full c.S.length) (.slice (O ⟨b,0,Y⟩) n m):=by
 refine .full (by simp[Be]) rfl λt f=> ?_
 simp only[pZ,if_true]at f;rw[h]at f;injection f with f
 subst f;exact⟨n,g, .inr ⟨b,m,yb,by simp,by simp[vd],by rw[eD,g];exact dB _,q,r,by rw[eD];exact j⟩⟩
theorem KX : ∀(n:Nat) (z:List Value),F2 (VRel c) ((bD n (z.map LZ)).flatten) (eg z n)
 |0,_=> .nil
 |n+1,z=>by
  simp only[eg,iD,List.flatten_cons];exact(Hw c z).append (KX n z)
theorem O1 (n:Rel c)(u:ar c e ea){es ln:Nat}{z:List Value}{j:List (Nat×Nat×Operand)}{cs:List VV}(w:Ln ((bD ln (z.map LZ)).flatten) (Dg e j)=O cs)
  (h:gd (tv cs&&aD (ln*es) cs.length&&cD 1 es) (k (.full c.S.length) (c.S++[.cells es Zb cs]))=O y):bn T (.buildSlice es ln z j) ea c.Z (jb c d k y):=by
 obtain⟨f,r⟩:=ap h;rw[aB,aB]at f;obtain⟨q,t,g⟩:=AY u j w (KX ln z);have m:=cB f.1.2;refine br (by simp only[AOp.run,t];rw[zE (qj g f.1.1)]) (jb.new (kill:=Y) n (OZ n (blk:= .cells es Zb cs) (x:=⟨q,Za,es⟩) (d:=(es,cs.length)) rfl (bB f.2) rfl rfl g) (λ_ h=>by cases h) ?_ r);exact zN (dm:=(es,cs.length)) (yb:=⟨q,Za,es⟩) rfl m (dB _) (zE rfl) (by rw[<-g.length];exact Nat.le_of_eq m)
theorem az0 (f:Rel c)(t:ar c e ea)(h:P6 c.S 1 Zb (ev e x) k=O y):bn T (.load x) ea c.Z (jb c d k y):=by
 obtain⟨b,o,blk,g,j,m,_⟩:=TO f h (bl t x);obtain⟨u,w,n,q,r⟩:=m rfl;exact br (by simp only[AOp.run,g,j,n];rfl) (jb.same f q r)
theorem ag8 (f:Rel c)(u:ar c e ea){n:Nat}(h:P6 c.S n Za (ev e x) k=O y):bn T (.loadN n x) ea c.Z (jb c d k y):=by
 obtain⟨b,o,blk,g,j,_,m⟩:=TO f h (bl u x);obtain⟨w,A,q,r,t⟩:=m rfl;exact br (by simp only[AOp.run,g,j,q];rfl) (jb.same f (.agg (by simpa using r)) t)
theorem DV : ∀(vs cells:List Value) (o:Nat),(qr cells o vs).length=cells.length
 |[],_,_=>rfl
 |v::vs,cells,o=>by simp only[qr];rw[DV vs];simp
theorem F2.set {l:List VV}{m:List Value}(h:F2 (VRel c) l m){v:VV}(j:VRel c v a): ∀i,F2 (VRel c) (l.set i v) (m.set i a):=by
 induction h with
 |nil=>intro i;simp;exact .nil
 |cons f g n=>
  intro i;cases i with
  |zero=>exact .cons j g
  |succ i=>exact .cons f (n i)
theorem Og : ∀{vs:List VV} {as:List Value},F2 (VRel c) vs as->∀{l:List VV} {m:List Value} (o:Nat),F2 (VRel c) l m->F2 (VRel c) (aE2 l o vs) (qr m o as)
 |_,_, .nil,_,_,_,h=>h
 |_,_, .cons f g,_,_,o,h=>Og g (o+1) (F2.set h f o)
theorem GP : ∀(vs:List Value) (cs rest:List Value) (o:Nat),o+vs.length<=cs.length->qr (cs++rest) o vs=qr cs o vs++rest
 |[],_,_,_,_=>rfl
 |v::vs,cs,rest,o,h=>by
  simp only[iB]at h;simp only[qr];rw[List.set_append_left _ _ (by omega),GP vs _ _ _ (by simp;omega)]
theorem BZ : ∀(vs:List Value) (pre cs:List Value) (o:Nat),qr (pre++cs) (pre.length+o) vs=pre++qr cs o vs
 |[],_,_,_=>rfl
 |v::vs,pre,cs,o=>by
  simp only[qr];rw[List.set_append_right _ _ (by omega),Nat.add_sub_cancel_left,Nat.add_assoc,BZ vs]
theorem HH {blk:Ab.Blk}{o:Nat}{vs:List Value}(f:blk.own=Za)(g:o+vs.length<=blk.cells.length)(h:vs.all one=Za):Dk blk o vs=O ⟨qr blk.cells o vs,Za,blk.es⟩:=by
 unfold Dk;rw[zE ⟨f,g,h⟩,f]
theorem JX (F:Rel c){q es o b:Nat}{l l' vs:List VV}{as:List Value}(g:ad c.S q= .cells es Zb l)(C:c.μ q=O b)(A:F2 (VRel c) vs as)(D:tv vs=Za)(I:o+vs.length<=l.length)
  (h: ∀cs,F2 (VRel c) l cs->F2 (VRel c) l' (qr cs o as)): ∃blk,c.Z.m b=O blk/\∃f,Dk blk o as=O f/\Writes c q b (.cells es Zb l') f:=by
 obtain⟨r,cs,j,t,E,u,w,n⟩:=F.block (k:=q) (d:=(es,l.length)) (by rw[g];rfl) C;rw[g]at u n;have B:=F2.length n;simp only[Blk.vals]at B;have H:=F2.length A;refine⟨r,t,_,HH (u rfl) (by rw[w,iA];omega) (qj A D),⟨by rw[g];rfl,C, ?_,rfl,r,qr cs o as,j,(es,l.length),t,by rw[g];rfl,E,rfl,DV _ _ _, ?_,h cs n⟩⟩
 .have:=F2.length (h cs n);rw[DV]at this;simp only[g,Blk.dim];rw[this,<-B]
 .show qr r.cells o as=_;rw[w,GP _ _ _ _ (by omega)]
theorem Of {v:VV}{B:Value}(A:VRel c v B): ∀{cs:List VV} {as:List Value} {i j:Nat} {r:List VV},Oe v cs i j=O r->F2 (VRel c) cs as->F2 (VRel c) r (if j<=i then as.set (i-j) B else as)
 |[],_,i,j,r,h,q=>by
  cases q;injection h with h
  subst h;simp;exact .nil
 |w::cs,_,i,j,r,h,q=>by
  cases q with
  |cons C D=>
   rename_i a as;simp only[Oe]at h;cases u:ao1 (aD i j) v w with
   |none=>rw[u]at h;cases h
   |some x=>
    rw[u]at h;simp only[zG]at h;cases t:Oe v cs i (j+1)with
    |none=>rw[t]at h;cases h
    |some H=>
     rw[t]at h;injection h with h
     subst h;have f:=Of A t D;have g:=Ug u A C;by_cases m:i=j
     .subst m;rw[Zh]at f;rw[zE (dB _),Nat.sub_self];have:aD i i=Za:=Nat.beq_refl i;rw[this]at g;exact .cons g f
     .have E:aD i j=Zb:=by
       cases F:aD i j with
       |false=>rfl
       |true=>exact(m (cB F)).elim
      rw[E]at g;by_cases n:j+1<=i
      .rw[zE n]at f;rw[Zg,show i-j=(i-(j+1))+1 by omega];exact .cons g f
      .rw[zF n]at f;rw[Zh];exact .cons g f
theorem Py {s:Sh}{x:El s}: ∀{l:List (El s)} {i:Nat},i<l.length->gm s (l.set i x)=(gm s l).take (i*s.w)++(dx s x++(gm s l).drop (i*s.w+s.w))
 |[],_,h=>by simp at h
 |a::l,0,_=>by
  rw[List.set_cons_zero,jd,jd,Nat.zero_mul,List.take_zero,dD,eD,fD,ei,Nat.sub_self,List.drop_zero,gD (by rw[ei];exact dB _),dD]
 |a::l,i+1,h=>by
  have f:(i+1)*s.w=s.w+i*s.w:=by rw[Nat.succ_mul];omega
  rw[List.set_cons_succ,jd,jd,Py (by simpa using h),f,List.take_append,fD,ei,List.take_of_length_le (l:=dx s a) (by rw[ei];omega),gD (l:=dx s a) (by rw[ei];omega),dD,fB];rw[show s.w+i*s.w-s.w=i*s.w by omega,show s.w+i*s.w+s.w-s.w=i*s.w+s.w by omega]
theorem Ko (v:VV){q:Nat}(h:zx v=O q):q∈TA (zx v):=by rw[h];exact List.mem_singleton.2 rfl
theorem Oh {vs cs:List Value}{p o w:Nat}(g:o+vs.length<=w)(m:p+w<=cs.length):qr cs (p+o) vs=cs.take p++(qr ((cs.drop p).take w) o vs++cs.drop (p+w)):=by
 have f:cs=cs.take p++((cs.drop p).take w++cs.drop (p+w)):=by
  rw[<-List.drop_drop,iE,iE]
 have h:(cs.take p).length=p:=by rw[iC];omega
 have j:((cs.drop p).take w).length=w:=by rw[iC,List.length_drop];omega
 conv=>lhs;rw[f]
 have:=BZ vs (cs.take p) ((cs.drop p).take w++cs.drop (p+w)) o;rw[h]at this;rw[this,GP _ _ _ _ (by rw[j];exact g)]
theorem ao9 (hR:Rel c)(he:ar c e ea){n:Nat}{a:Operand}(hd: ∀q,zx (ev e a)=O q->q∈d)
  (h:gd (aD (rK (ev e x)).length n&&tv (rK (ev e x))) (VY c.S (ev e a) (rK (ev e x)) λS'=>k .undef S')=O y):bn T (.store n a x) ea c.Z (jb c d k y):=by
 obtain⟨V,f⟩:=ap h;rw[aB]at V;have hn:=cB V.1;have Q:=Ki (bl he x) V.2;have hlen:(cellsOf (ea.ev x)).length=n:=by rw[<-Q.length];exact hn
 have ha:=bl he a
 have U: ∀(M:Ctx) (q b o:Nat) (j:Ab.Blk) (blk:Blk) (g:Ab.Blk),M.Z=c.Z->Le c M->yV d c M->Rel M->q∈d->ea.ev a= .pointer (O ⟨b,o,Y⟩)->c.Z.m b=O j->Dk j o (cellsOf (ea.ev x))=O g->Writes M q b blk g->
   k .undef (i9 M.S q blk)=O y->bn T (.store n a x) ea c.Z (jb c d k y):=by
  intro M q b o j blk g hZ P N r hq F H J I K;refine br (v:=undef) (Z':=c.Z.set b (O g)) ?_ ?_
  .simp only[AOp.run,F,hlen,if_true,H,J]
  .rw[<-hZ];exact⟨.undef,_,rfl,P.trans (I.le r),I.rel r,N.trans (I.calm r hq) P, .undef _,K⟩
 generalize cellsOf (ea.ev x)=as at*;generalize ev e a=av at*;generalize rK (ev e x)=L at*;unfold VY at f;cases av with
 |ptr q o=>
  simp only at f;cases t:ad c.S q with
  |dead=>rw[t]at f;cases f
  |arr s z l=>rw[t]at f;cases f
  |cells es z l=>
   rw[t]at f;cases z with
   |true=>cases f
   |false=>
    obtain⟨F,H⟩:=ap f;cases ha with
    |ptr hk _ C=>
     obtain⟨b,W,B⟩:=C (es,l.length) (by rw[t];rfl);obtain⟨j,J,g,I,K⟩:=JX hR t W Q V.2 (bB F) λcs A=>Og Q o A
     exact U c q b o j _ g rfl (Le.refl c) (yV.refl d c) hR (hd q rfl) B J I K H
 |pix q o m i=>
  simp only at f;split at f
  .rename_i es l v t;obtain⟨F,H⟩:=ap f;have F:=bB F;split at H
   .rename_i l' hs;cases Q with
    |cons hv hnil=>
     rename_i va as';cases hnil;cases ha with
     |pix hk _ hi C=>
      obtain⟨b,W,B⟩:=C (es,l.length) (by rw[t];rfl)
      obtain⟨j,J,g,I,K⟩:=JX (l':=l.take o++l'++l.drop (o+m)) (o:=o+i) hR t W (.cons hv .nil) V.2 (by simp;omega) λcs A=>by
       have hl:=A.length;rw[Oh (w:=m) (by simp;omega) (by omega),fB];have h8:=Of hv hs ((A.drop o).take m);rw[zE (Nat.zero_le _),Nat.sub_zero]at h8;exact(A.take o).append (h8.append (A.drop _))
      exact U c q b (o+i) j _ g rfl (Le.refl c) (yV.refl d c) hR (hd q rfl) B J I K H
   .cases H
  .cases f
 |pel q i o=>
  simp only at f;cases t:ad (IQ c.S L) q with
  |dead=>rw[t]at f;cases f
  |cells es z l=>rw[t]at f;cases f
  |arr s z l=>
   rw[t]at f;cases z with
   |true=>cases f
   |false=>
    simp only at f;cases E:l[i]? with
    |none=>rw[E]at f;cases f
    |some x'=>
     rw[E]at f;simp only[zG]at f;split at f
     .rename_i z hof;obtain⟨F,H⟩:=ap f;have F:=bB F;have D:=Hn c.S L;have r:Rel ⟨c.μ,IQ c.S L,c.Z,c.fb⟩:=D.rel hR
      have hi:i<l.length:=by
       rcases Nat.lt_or_ge i l.length with h|h
       .exact h
       .rw[List.getElem?_eq_none h]at E;cases E
      have hx1:F2 (VRel ⟨c.μ,IQ c.S L,c.Z,c.fb⟩) L as:=VRel.frames D.le Q;cases ha with
      |pel hk _ C=>
       have u:(ad (IQ c.S L) q).dim=O (s.w,l.length*s.w):=by rw[t];rfl
       obtain⟨b,W,B⟩:=C (s.w,l.length*s.w) (by rw[<-D.dim];exact u);obtain⟨y0,cs,rest,J,I,K,h8,h9⟩:=r.block (k:=q) u W;rw[t]at K h9;have hl:=h9.length;simp only[Blk.vals,ji]at hl;have P:i*s.w+s.w<=l.length*s.w:=by rw[<-Nat.succ_mul];exact Nat.mul_le_mul_right _ hi
       have hlen':L.length=as.length:=Q.length;refine U ⟨c.μ,IQ c.S L,c.Z,c.fb⟩ q b (i*s.w+o) y0 (.arr s Zb (l.set i z)) _ rfl D.le (D.calm d) r (hd q rfl) B J (HH (K rfl) (by rw[h8,iA];omega) (qj Q V.2)) ⟨by rw[t];rfl,W,by rw[u];simp[Blk.dim],rfl,y0,qr cs (i*s.w+o) as,rest,_,J,u,I,rfl,DV _ _ _,by rw[h8,GP _ _ _ _ (by omega)], ?_⟩ H;obtain⟨pre,X,h11,h12⟩:=pX r s _ _ _ hof;rw[List.append_nil]at X;subst X;simp only[Blk.vals];rw[Py hi,Oh (w:=s.w) (by omega) (by omega)];refine(h9.take _).append (F2.append (h12 _ (Og hx1 o ?_)) (h9.drop _));have h13:=(h9.drop (i*s.w)).take s.w;simp only[Blk.vals]at h13
       rwa [Kw E]at h13
     .cases f
 |_=>cases f
end
end
section
theorem EF : ∀{n q:Nat},q<n->q∈Kd n
 |n+1,q,h=>by
  by_cases e:q=n
  .subst e;exact List.mem_cons_self
  .exact List.mem_cons_of_mem _ (EF (by omega))
theorem ay6 (A:Rel c){q es:Nat}{l:List VV}(V:ad c.S q= .cells es Zb l)(U:c.μ q=O b):
  Le c ⟨c.μ,i9 c.S q .dead,c.Z.set b Y,c.fb⟩/\Rel ⟨c.μ,i9 c.S q .dead,c.Z.set b Y,c.fb⟩:=by
 have N:q<c.S.length:=py (by rw[V];simp[Blk.dim]);have n:(ad c.S q).frozen=Zb:=by rw[V];rfl
 have D: ∀i,ad (i9 c.S q .dead) i=if i=q then .dead else ad c.S i:=λi=>by
  rw[yB];by_cases h:i=q
  .rw[zE ⟨h,N⟩,zE h]
  .rw[zF (λk=>h k.1),zF h]
 have C: ∀i d,(ad (i9 c.S q .dead) i).dim=O d->i≠q/\(ad c.S i).dim=O d:=λi d h=>by
  rw[D]at h;by_cases k:i=q
  .rw[zE k]at h;cases h
  .rw[zF k]at h;exact⟨k,h⟩
 have own:c.own b:=⟨q,n,U⟩
 have F: ∀i d f,(ad (i9 c.S q .dead) i).dim=O d->c.μ i=O f->f≠b:=λi d f h u e=>by
  subst e;obtain⟨M,B⟩:=C i d h;exact M (A.inj q i f n (by rw[B];simp) U u).symm
 have j: ∀f,f≠b->(c.Z.set b Y).m f=c.Z.m f:=λf h=>by simp[Hp.set,h]
 have W:Le c ⟨c.μ,i9 c.S q .dead,c.Z.set b Y,c.fb⟩:=by
  refine⟨by rw[B0];exact Nat.le_refl _,λk d L h=>⟨(C k d h).2,rfl⟩,λk t g=> ?_,λk d f y L h u r=>⟨y,(j f (F k d f h u)).trans r,rfl⟩,λf y r P=>(j f (λe=>P (e▸own))).trans r,λf y r P ho=>P ?_,Nat.le_refl _,rfl⟩
  .show ad (i9 c.S q .dead) k=_;rw[D];by_cases e:k=q
   .subst e;rw[n]at t;cases t
   .rw[zF e]
  .obtain⟨k,w,K⟩:=ho;have w:(ad (i9 c.S q .dead) k).frozen=Zb:=w;rw[D]at w;by_cases e:k=q
   .subst e;exact⟨k,n,K⟩
   .rw[zF e]at w;exact⟨k,w,K⟩
 refine⟨W,⟨λf y r=> ?_,λk I f t g u E=> ?_,λk d h=> ?_,λk f g u=> ?_,A.fbl⟩⟩
 .by_cases e:f=b
  .subst e;have r:(c.Z.set f Y).m f=O y:=r;simp[Hp.set]at r
  .exact A.ok f y ((j f e).symm.trans r)
 .have g:(ad (i9 c.S q .dead) I).dim≠Y:=g;cases H:(ad (i9 c.S q .dead) I).dim with
  |none=>exact(g H).elim
  |some d=>
   obtain⟨M,B⟩:=C I d H;have t:(ad (i9 c.S q .dead) k).frozen=Zb:=t;rw[D]at t;by_cases e:k=q
   .subst e;exact A.inj k I f n (by rw[B];simp) u E
   .rw[zF e]at t;exact A.inj k I f t (by rw[B];simp) u E
 .obtain⟨M,B⟩:=C k d h;have L:ad (i9 c.S q .dead) k=ad c.S k:=by rw[D,zF M]
  obtain⟨w,K⟩:=A.blk k d B;refine⟨w,K.imp id λ⟨f,y,cs,J,Q,X,g3,g4,g5,g6⟩=>⟨f,y,cs,J,Q,(j f (F k d f h Q)).trans X,g3,λq=>g4 (by rw[<-L];exact q),g5, ?_⟩⟩;show F2 _ (ad (i9 c.S q .dead) k).vals cs;rw[L];exact VRel.frames W g6
 .have g:(ad (i9 c.S q .dead) k).dim≠Y:=g;cases H:(ad (i9 c.S q .dead) k).dim with
  |none=>exact(g H).elim
  |some d=>exact A.fbk k f (by rw[(C k d H).2];simp) u
end
section
open Bool renaming and_eq_true -> aD, false_eq_true -> bB
open List renaming extract_eq_take_drop -> bD
open Nat renaming eq_of_beq_eq_true -> cB
open Option renaming map_some -> aB
section
variable {β:Type} {T:lj} {c:Ctx} {e:cu} {ea:cj} {k:VV->ah->Option β} {y:β} {d:List Nat}
theorem vV (s:ByteArray):(au s).length=s.size:=by simp[au]
theorem M9 (s t:ByteArray):au (s++t)=au s++au t:=by
 simp[au,ByteArray.data_append]
theorem G6 : ∀{l m:List UInt8},(l.map λb=>(b.toNat:Int))=m.map (λb=>(b.toNat:Int))->l=m
 |[],[],_=>rfl
 |[],_::_,h=>by simp at h
 |_::_,[],h=>by simp at h
 |a::l,b::m,h=>by
  simp only[List.map_cons,List.cons.injEq]at h;rw[G6 h.2,UInt8.toNat_inj.1 (Int.ofNat.inj h.1)]
theorem LB (s:ByteArray):s.toList=s.data.toList:=by
 rw[ByteArray.toList_eq]
theorem Kh (s t:ByteArray):(s.toList==t.toList)=Zc (au s=au t):=by
 rw[LB,LB];by_cases h:s.data.toList=t.data.toList
 .simp[au,h]
 .have:au s≠au t:=λe=>h (G6 e)
  have f: ¬s.data=t.data:=λe=>h (by rw[e])
  simp[this,f]
theorem XJ {op:BinOp}{a b:Int}{j:VV->Option β}(h:UT op kd a b j=O y): ∃v m,WJ op kd a b=O m/\VRel c v m/\j v=O y:=by
 cases op<;>simp only[UT]at h<;>try(cases h;done)
 case add=>exact⟨_,_,rfl, .int _ _,h⟩
 case sub=>exact⟨_,_,rfl, .int _ _,h⟩
 case mul=>exact⟨_,_,rfl, .int _ _,h⟩
 case quo=>
  obtain⟨f,g⟩:=ap h;exact⟨_,_,zF (of_decide_eq_true f), .int _ _,g⟩
 case rem=>
  obtain⟨f,g⟩:=ap h;exact⟨_,_,zF (of_decide_eq_true f), .int _ _,g⟩
 case and=>exact⟨_,_,rfl, .int _ _,h⟩
 case or=>exact⟨_,_,rfl, .int _ _,h⟩
 case xor=>exact⟨_,_,rfl, .int _ _,h⟩
 case andNot=>exact⟨_,_,rfl, .int _ _,h⟩
 case eql=>
  refine⟨_,_,rfl, ?_,h⟩;have:(a==b)=Zc (a=b):=by by_cases h:a=b<;>simp[h]
  rw[this];exact .bool _
 case neq=>
  refine⟨_,_,rfl, ?_,h⟩;have:(a !=b)=Zc (a≠b):=by by_cases h:a=b<;>simp[h]
  rw[this];exact .bool _
 case lss=>exact⟨_,_,rfl, .bool _,h⟩
 case leq=>exact⟨_,_,rfl, .bool _,h⟩
 case gtr=>exact⟨_,_,rfl, .bool _,h⟩
 case geq=>exact⟨_,_,rfl, .bool _,h⟩
theorem aL1 (D:Rel c)(u:ar c e ea){op:BinOp}(h:aL0 op (ev e x) (ev e z) (λv=>k v c.S)=O y):bn T (.bin op x z) ea c.Z (jb c d k y):=by
 have w:=bl u x;have A:=bl u z
 have f: ∀v q,Da op (ea.ev x) (ea.ev z)=O q->VRel c v q->k v c.S=O y->bn T (.bin op x z) ea c.Z (jb c d k y):=λv q g j r=>
  br (by simp only[AOp.run,g];rfl) (jb.same D j r)
 generalize ev e x=H at*;generalize ev e z=I at*;unfold aL0 at h;split at h
 .rename_i E a F b;rw[w.int_inv,A.int_inv]at f;cases m:yS op with
  |true=>
   rw[m,zC]at h;simp only[Da,m,if_true]at f;cases op<;>simp only[ao4]at h<;>try(cases h;done)
   .obtain⟨g,j⟩:=ap h;have g:=of_decide_eq_true g;refine f _ _ ?_ (.int _ _) j;simp only[Oj];rw[Zh]
   .obtain⟨g,j⟩:=ap h;have g:=of_decide_eq_true g;refine f _ _ ?_ (.int _ _) j;simp only[Oj];rw[Zh]
  |false=>
   rw[m,zD]at h;cases n:Zc (E=F)with
   |false=>rw[n]at h;cases h
   |true=>
    rw[n,zC]at h;have n:=of_decide_eq_true n;subst n;obtain⟨v,q,g,j,r⟩:=XJ (c:=c) h;refine f v q ?_ j r;simp only[Da,m,bB,if_false,if_true,g]
 .rename_i a b;obtain⟨s,B,rfl⟩:=w.str_inv;obtain⟨t,C,rfl⟩:=A.str_inv;rw[B,C]at f;cases m:yS op with
  |true=>rw[m]at h;cases h
  |false=>
   rw[m,zD]at h;simp only[Da,m,bB,if_false]at f;cases op<;>simp only[aZ6]at h<;>try(cases h;done)
   .obtain⟨g,j⟩:=ap h;have g:(au s).length+(au t).length<=9223372036854775807:=Nat.le_of_ble_eq_true g;rw[vV,vV]at g;refine f _ _ ?_ (.str (M9 s t)) j;simp only[Xq];rw[zF];show¬(((s.size+t.size:Nat):Int) > 9223372036854775807);omega
   .refine f _ _ rfl ?_ h;rw[Kh];exact .bool _
   .refine f _ _ rfl ?_ h;rw[Kh];have:(!Zc (au s=au t))=Zc (au s≠au t):=by simp
    rw[this];exact .bool _
 .cases h
theorem xC {b:Blk}(h:b.live=Za): ∃dm,b.dim=O dm:=by cases b<;>first|(cases h;done)|exact⟨_,rfl⟩
theorem Ir {v:VV}(h:VRel c v a)(m:Nz c.S v=Za): ∃x,a= .pointer (O x):=by
 cases v<;>try(cases m;done)
 case ptr q o=>
  obtain⟨f,j⟩:=xC m;cases h with
  |ptr r _ g=>obtain⟨b,_,h⟩:=g f j;exact⟨_,h⟩
 case pix q o n i=>
  obtain⟨f,j⟩:=xC m;cases h with
  |pix r _ _ g=>obtain⟨b,_,h⟩:=g f j;exact⟨_,h⟩
 case pel q i o=>
  obtain⟨f,j⟩:=xC m;cases h with
  |pel r _ g=>obtain⟨b,_,h⟩:=g f j;exact⟨_,h⟩
 case pin s x o=>cases h;exact⟨_,rfl⟩
theorem Tr (r:Rel c)(w:ar c e ea)(h:(match ev e x with
  | .fn f a b=>gd (!Cg f) (k (.fn f a b) c.S)
  |v=>gd (Nz c.S v) (k v c.S))=O y):bn T (.nilCheck x) ea c.Z (jb c d k y):=by
 have g:=bl w x;split at h
 .rename_i f a b A;rw[A]at g
  have: ∃m n,ea.ev x= .func (.func f) m n:=by
   generalize ea.ev x=B at g;cases g;exact⟨_,_,rfl⟩
  obtain⟨m,n,j⟩:=this;rw[j]at g;obtain⟨t,h⟩:=ap h;exact br (by simp only[AOp.run,j];rw[zF (by simpa using t)]) (jb.same r g h)
 .obtain⟨j,u⟩:=ap h;obtain⟨p,q⟩:=Ir g j;rw[q]at g;exact br (by simp only[AOp.run,q]) (jb.same r g u)
theorem ai1 {b:Bool}:(b !=neg)=ai0 neg b:=by cases neg<;>cases b<;>rfl
theorem aM1 (B:Rel c)(A:ar c e ea){kd:Nat}{p:Bool}(f:aM0 c.S kd (ev e x) (ev e z)=O p)(h:k (.bool (ai0 neg p)) c.S=O y):bn T (.eqv kd neg x z) ea c.Z (jb c d k y):=by
 have j:=bl A x;have m:=bl A z
 have g:SS kd (ea.ev x) (ea.ev z)=O p->bn T (.eqv kd neg x z) ea c.Z (jb c d k y):=λr=>
  br (v:= .bool (p !=neg)) (by simp only[AOp.run,r];rfl) (jb.same B (by rw[ai1];exact .bool _) h)
 generalize ev e x=C at*;generalize ev e z=D at*;unfold aM0 at f;split at f
 .injection f with f;subst f
  rw[j.bool_inv,m.bool_inv]at g;exact g rfl
 .injection f with f;subst f
  refine g ?_;generalize ea.ev x=t at*;generalize ea.ev z=u at*;cases j;cases m;rfl
 .cases n:Nz c.S D with
  |false=>rw[n]at f;cases f
  |true=>
   rw[n]at f;injection f with f;subst f
   refine g ?_;obtain⟨q,r⟩:=Ir m n;rw[r];generalize ea.ev x=t at*;cases j;rfl
 .cases n:Nz c.S C with
  |false=>rw[n]at f;cases f
  |true=>
   rw[n]at f;injection f with f;subst f
   refine g ?_;obtain⟨q,r⟩:=Ir j n;rw[r];generalize ea.ev z=u at*;cases m;rfl
 .injection f with f;subst f
  refine g ?_;generalize ea.ev x=t at*;generalize ea.ev z=u at*;cases j;cases m;rfl
 .injection f with f;subst f
  refine g ?_;generalize ea.ev x=t at*;generalize ea.ev z=u at*;cases j;cases m;rfl
 .obtain⟨w,f⟩:=ap f;injection f with f;subst f
  refine g ?_;generalize ea.ev x=t at*;generalize ea.ev z=u at*;cases j;cases m;show(if Cg _=Za then Y else O Zb)=O Zb;rw[zF (by simpa using w)]
 .obtain⟨w,f⟩:=ap f;injection f with f;subst f
  refine g ?_;generalize ea.ev x=t at*;generalize ea.ev z=u at*;cases j;cases m;show(if Cg _=Za then Y else O Zb)=O Zb;rw[zF (by simpa using w)]
 .cases f
theorem av8 {kd:Nat}{v w:VV}{m n:Value}{p:Bool}(h:X3 kd v w=O p)(g:VRel c v m)(j:VRel c w n):zK kd m n=O p:=by
 unfold X3 at h;split at h
 .injection h with h;subst h
  rw[g.bool_inv,j.bool_inv];rfl
 .rename_i u a A b;cases f:Zc (u=A)with
  |false=>rw[f]at h;cases h
  |true=>
   rw[f]at h;injection h with h;subst h
   rw[g.int_inv,j.int_inv];simp only[zK,of_decide_eq_true f,if_true];by_cases e:a=b<;>simp[e]
 .injection h with h;subst h
  obtain⟨s,q,rfl⟩:=g.str_inv;obtain⟨t,r,rfl⟩:=j.str_inv;rw[q,r];simp only[zK];rw[Kh]
 .cases h
theorem av9 : ∀{ks:List Nat} {l m:List VV} {t u:List Value} {p:Bool},O6 ks l m=O p->F2 (VRel c) l t->F2 (VRel c) m u->ph ks t u=O p:=by
 intro ks;induction ks with
 |nil=>
  intro l m t u p h A B;cases A<;>cases B<;>simp only[O6]at h<;>try(cases h;done)
  exact h
 |cons kd ks N=>
  intro l m t u p h A B;cases A with
  |nil=>cases m<;>simp[O6]at h
  |cons L H=>
   cases B with
   |nil=>cases ks<;>simp[O6]at h
   |cons M I=>
    rename_i v P J E w Q K F
    have n: ∀q r,X3 kd v w=O q->O6 ks J K=O r->p=(q&&r)->ph (kd::ks) (P::E) (Q::F)=O p:=by
     intro q r f j g;simp only[ph,av8 f L M];cases q with
     |false=>simp[g]
     |true=>rw[N j H I,g];simp
    unfold O6 at h;split at h
    .rename_i f j g;cases f
    .rename_i f j g;cases f;cases j;cases g;cases H;cases I;exact n p Za h rfl (by simp)
    .rename_i f j g;cases f;cases j;cases g;cases C:X3 kd v w with
     |none=>rw[C]at h;cases h
     |some q=>
      rw[C]at h;simp only[zG]at h;cases D:O6 ks J K with
      |none=>rw[D]at h;cases h
      |some r=>
       rw[D]at h;injection h with h
       exact n q r C D h.symm
    .cases h
theorem Vb (w:Rel c)(f:ar c e ea){ks:List Nat}{a b:List VV}{p:Bool}(t:ev e x= .agg a)(u:ev e z= .agg b)(A:O6 ks a b=O p)(h:k (.bool (ai0 neg p)) c.S=O y):
  bn T (.eqCells neg ks x z) ea c.Z (jb c d k y):=by
 have g:=bl f x;have j:=bl f z;rw[t]at g;rw[u]at j;obtain⟨B,m,q⟩:=g.agg_inv;obtain⟨C,n,r⟩:=j.agg_inv;exact br (v:= .bool (p !=neg)) (by simp only[AOp.run,m,n,av9 A q r];rfl) (jb.same w (by rw[ai1];exact .bool _) h)
theorem aZ8 (j:Rel c)(m:ar c e ea){op:UnOp}(h:unK op (ev e x) (λv=>k v c.S)=O y):bn T (.un op x) ea c.Z (jb c d k y):=by
 have f:=bl m x;unfold unK at h;split at h
 .rename_i kd n g;rw[g]at f;exact br (by simp only[AOp.run,f.int_inv];rfl) (jb.same j (.int _ _) h)
 .rename_i kd n g;rw[g]at f;exact br (by simp only[AOp.run,f.int_inv];rfl) (jb.same j (.int _ _) h)
 .rename_i b g;rw[g]at f;exact br (by simp only[AOp.run,f.bool_inv];rfl) (jb.same j (.bool _) h)
 .cases h
theorem Nx {v:VV}{n:Int}(h:Jo v=O n)(f:VRel c v a): ∃kd,a= .int kd n:=by
 cases v<;>simp only[Jo]at h<;>try(cases h;done)
 injection h with h;subst h
 exact⟨_,f.int_inv⟩
theorem au7 (f:Rel c)(g:ar c e ea){n:Int}(j:Jo (ev e x)=O n)(h:k (.int kd (kd.wrap n)) c.S=O y):bn T (.conv kd x) ea c.Z (jb c d k y):=by
 obtain⟨q,m⟩:=Nx j (bl g x);exact br (by simp only[AOp.run,m];rfl) (jb.same f (.int _ _) h)
theorem Ym (j:Rel c)(g:ar c e ea){f:Nat}{a b:List Operand}(h:gd (!Cg f) (k (.fn f (a.map (ev e)) (b.map (ev e))) c.S)=O y):bn T (.mkFunc f a b) ea c.Z (jb c d k y):=
 br (by simp only[AOp.run];rw[zF (by simpa using(ap h).1)]) (jb.same j (.fn (by simpa using Mi g a) (by simpa using Mi g b)) (ap h).2)
theorem X5 (r:Rel c)(C:ar c e ea){o n:Nat}{cs:List VV}(D:ev e x= .agg cs)(h:cond agg (k (.agg (DE cs o n)) c.S) (Yz c.S (nth cs o) k)=O y):bn T (.fieldV o n agg x) ea c.Z (jb c d k y):=by
 have t:=bl C x;rw[D]at t;obtain⟨j,m,q⟩:=t.agg_inv;cases agg with
 |true=>
  refine br (v:= .agg (j.extract o (o+n))) (by simp only[AOp.run,m];rfl) (jb.same r (.agg ?_) h);have:=(q.drop o).take n;simpa[DE,Array.toList_extract,bD]using this
 |false=>
  rw[zD]at h;cases g:nth cs o with
  |none=>rw[g]at h;cases h
  |some w=>
   rw[g]at h;obtain⟨u,A,B⟩:=F2.nth q g;have f:j[o]?=O u:=by simpa using A
   exact br (by simp only[AOp.run,m,f];rfl) (jb.same r B h)
theorem Ve (A:Rel c)(B:ar c e ea){i:Nat}{cs:List VV}(C:ev e x= .tup cs)(h:Yz c.S (nth cs i) k=O y):bn T (.extract x i) ea c.Z (jb c d k y):=by
 have j:=bl B x;rw[C]at j;obtain⟨m,n,q⟩:=j.tup_inv;cases g:nth cs i with
 |none=>rw[g]at h;cases h
 |some w=>
  rw[g]at h;obtain⟨u,r,t⟩:=F2.nth q g;have f:m[i]?=O u:=by simpa using r
  exact br (by simp only[AOp.run,n,f];rfl) (jb.same A t h)
theorem Hr {i:Int}{n j:Nat}(h:ix i n=O j):0<=i/\i<n/\j=i.toNat/\j<n:=by
 unfold ix at h;cases f:(Zc (0<=i)&&Zc (i<n))with
 |false=>rw[f]at h;cases h
 |true=>
  rw[f]at h;injection h with h
  rw[aD]at f;have g:=of_decide_eq_true f.1;have m:=of_decide_eq_true f.2;exact⟨g,m,h.symm,by omega⟩
theorem Xc {α:Type}{l:List α}{i:Int}{x:α}(h:rd l i=O x):0<=i/\i<l.length/\l[i.toNat]?=O x:=by
 unfold rd at h;cases f:Zc (0<=i)with
 |false=>rw[f]at h;cases h
 |true=>
  rw[f]at h;have g:=of_decide_eq_true f
  have j:i.toNat<l.length:=by
   rcases Nat.lt_or_ge i.toNat l.length with h3|h3
   .exact h3
   .rw[zC,List.getElem?_eq_none h3]at h;cases h
  exact⟨g,by omega,h⟩
theorem ag {α γ:Type}{x:Option α}{f:α->Option γ}{z:γ}(h:x.bind f=O z): ∃a,x=O a/\f a=O z:=by
 cases x with
 |none=>cases h
 |some a=>exact⟨a,rfl,h⟩
theorem Yg (H:Rel c)(I:ar c e ea){ln es:Nat}{cs:List VV}{i:Int}(P:ev e x= .agg cs)(Q:ev e z= .int kd i)
  (h:((ix i ln).bind λj=>cond agg (k (.agg (DE cs (j*es) es)) c.S) (gd (Nat.beq es 1&&Nat.beq cs.length ln) (SB cs j c.S k)))=O y):bn T (.indexV ln es agg x z) ea c.Z (jb c d k y):=by
 have J:=bl I x;have K:=bl I z;rw[P]at J;rw[Q]at K;obtain⟨A,B,D⟩:=J.agg_inv;have C:=K.int_inv;obtain⟨j,L,r⟩:=ag h;obtain⟨E,F,rfl,U⟩:=Hr L;cases agg with
 |true=>
  refine br (v:= .agg (A.extract (i.toNat*es) (i.toNat*es+es))) (by simp only[AOp.run,B,C];rw[zE ⟨E,F⟩];rfl) (jb.same H (.agg ?_) r);have:=(D.drop (i.toNat*es)).take es;simpa[DE,Array.toList_extract,bD]using this
 |false=>
  rw[zD]at r;obtain⟨t,M⟩:=ap r;rw[aD]at t;have N:=cB t.1;have V:=cB t.2;subst N;obtain⟨w,f,g⟩:=SC (by omega) M;obtain⟨u,m,n⟩:=D.get _ _ f;have q:A[i.toNat*1]?=O u:=by rw[Nat.mul_one];simpa using m
  exact br (by simp only[AOp.run,B,C,q];rw[zE ⟨E,F⟩];rfl) (jb.same H n g)
theorem Yf (D:Rel c)(j:ar c e ea){i:Int}(E:ev e x= .str l)(F:ev e z= .int kd i)(h:((rd l i).bind λb=>k (.int .u8 b) c.S)=O y):bn T (.indexS x z) ea c.Z (jb c d k y):=by
 have m:=bl j x;have n:=bl j z;rw[E]at m;rw[F]at n;obtain⟨s,q,rfl⟩:=m.str_inv;have r:=n.int_inv;obtain⟨b,t,w⟩:=ag h;obtain⟨A,B,f⟩:=Xc t;simp only[au,List.getElem?_map]at f;cases g:s.data.toList[i.toNat]? with
 |none=>rw[g]at f;cases f
 |some u=>
  rw[g,aB]at f;injection f with f
  subst f
  have C:s[i.toNat]?=O u:=by
   have:i.toNat<s.size:=by rw[vV]at B;omega
   rw[getElem?_pos s i.toNat this];rw[<-g,Array.getElem?_toList,getElem?_pos s.data i.toNat this];rfl
  exact br (v:= .int .u8 u.toNat) (by simp only[AOp.run,q,r,C];rw[zE A];rfl) (jb.same D (.int _ _) w)
theorem az7 (n:Rel c)(g:ar c e ea){f:IntKind}{a b:Int}(q:ev e x= .int kd a)(r:ev e z= .int f b)(h:k (.int kd (max a b)) c.S=O y):bn T (.most x z) ea c.Z (jb c d k y):=by
 have j:=bl g x;have m:=bl g z;rw[q]at j;rw[r]at m;refine br (v:= .int kd (max a b)) ?_ (jb.same n (.int _ _) h);simp only[AOp.run,j.int_inv,m.int_inv,We,aB]
 congr 3
 split<;>omega
theorem ag2 (n:Rel c)(g:ar c e ea){f:IntKind}{a b:Int}(q:ev e x= .int kd a)(r:ev e z= .int f b)(h:k (.int kd (min a b)) c.S=O y):bn T (.least x z) ea c.Z (jb c d k y):=by
 have j:=bl g x;have m:=bl g z;rw[q]at j;rw[r]at m;refine br (v:= .int kd (min a b)) ?_ (jb.same n (.int _ _) h);simp only[AOp.run,j.int_inv,m.int_inv,RQ,aB]
 congr 3
 split<;>omega
end
end
section
open Bool renaming and_eq_true -> bB
open List renaming drop_take -> eD, length_append -> iC
open Nat renaming eq_of_beq_eq_true -> aB, mul_le_mul_right -> aD, le_refl -> bD, add_mul -> cB, le_of_ble_eq_true -> cD, beq -> dB, le_trans -> dD, add_assoc -> fB, eq_of_mul_eq_mul_right -> fD, mul_div_cancel -> gD, zero_add -> iA
open Option renaming map_some -> iB, map_none -> iD
section
variable {β:Type} {T:lj} {c:Ctx} {e:cu} {ea:cj} {k:VV->ah->Option β} {y:β} {d:List Nat}
theorem IN.len {q lo n:Nat}{dm:Nat×Nat}(h:IN c q lo n dm a): ∃p f,a= .slice p n f/\n<=f:=by
 rcases h with⟨rfl,_,rfl,_,_⟩|⟨b,f,x,rfl,_,_,h,_⟩
 .exact⟨Y,0,rfl,bD _⟩
 .exact⟨_,f,rfl,h⟩
theorem ag4 (E:Rel c){v:VV}{n:Nat}(h:lenOf c.S v=O n)(t:VRel c v a)(I: ∀l,v≠ .str l): ∃p B,a= .slice p n B/\n<=B:=by
 cases v<;>simp only[lenOf]at h<;>try(cases h;done)
 case nils=>injection h with h;subst h;cases t;exact⟨Y,0,rfl,bD _⟩
 case str l=>exact(I l rfl).elim
 case lst s l=>
  injection h with h;subst h
  cases t with
  |lstn=>exact⟨_,0,rfl,bD _⟩
  |lst _ _ _ f j _ _=>subst f;exact⟨_,_,rfl,j⟩
 case part q lo m=>
  cases A:(ad c.S q).live with
  |false=>rw[A]at h;cases h
  |true=>
   rw[A]at h;injection h with h;subst h
   obtain⟨D,F⟩:=xC A;cases t with
   |part H _ r=>exact(r D F).len
 case full q=>
  cases t with
  |full H _ r=>
   cases g:ad c.S q with
   |dead=>rw[g]at h;cases h
   |arr s z l=>
    rw[g]at h;injection h with h;subst h
    obtain⟨n,f,j⟩:=r (s.w,l.length*s.w) (by rw[g];rfl);have:n=l.length:=fD (rR s) f;subst this;exact j.len
   |cells u z l=>
    rw[g]at h;injection h with h;subst h
    obtain⟨n,f,j⟩:=r (u,l.length) (by rw[g];rfl);have C:=(E.blk q (u,l.length) (by rw[g];rfl)).1
    have:n=l.length / u:=by
     simp only at f C;rw[<-f,gD _ C]
    subst this;exact j.len
theorem aN9 (f:Rel c)(j:ar c e ea){n:Nat}(q: ∀l,ev e x≠ .str l)(m:lenOf c.S (ev e x)=O n)(h:k (.int .i64 n) c.S=O y):bn T (.len x) ea c.Z (jb c d k y):=by
 obtain⟨p,r,g,_⟩:=ag4 f m (bl j x) q;exact br (by simp only[AOp.run,g]) (jb.same f (.int _ _) h)
theorem ay9 (m:Rel c)(n:ar c e ea)(q:ev e x= .str l)(h:k (.int .i64 l.length) c.S=O y):bn T (.lenS x) ea c.Z (jb c d k y):=by
 have f:=bl n x;rw[q]at f;obtain⟨s,g,j⟩:=f.str_inv;refine br (v:= .int .i64 s.size) (by simp only[AOp.run,g]) (jb.same m ?_ h);rw[<-j,vV];exact .int _ _
theorem Je (j:ar c e ea){lo:Option Operand}{a:Int}{m:Nat}(h:Fv (lo.map (ev e))=O a)(f:0<=a)(n:a<=m):rX m 0 (lo.map ea.ev)=O a.toNat:=by
 cases lo with
 |none=>
  simp only[iD,Fv]at h;injection h with h;subst h
  rfl
 |some x=>
  simp only[iB,Fv]at h⊢;obtain⟨kd,g⟩:=Nx h (bl j x);rw[g];exact zE ⟨f,n⟩
theorem Jd (q:ar c e ea){f:Option Operand}{b:Int}{n g:Nat}(h:Am n (f.map (ev e))=O b)(j:0<=b)(t:b<=n)(r:n<=g):rX g n (f.map ea.ev)=O b.toNat:=by
 cases f with
 |none=>
  simp only[iD,Am]at h;injection h with h;subst h
  simp[rX]
 |some x=>
  simp only[iB,Am]at h⊢;obtain⟨kd,m⟩:=Nx h (bl q x);rw[m];exact zE ⟨j,by omega⟩
theorem vW {a b:Int}{n:Nat}(h:jk a b n=Za):0<=a/\a<=b/\b<=n:=by
 unfold jk at h;rw[bB,bB]at h;exact⟨of_decide_eq_true h.1.1,of_decide_eq_true h.1.2,of_decide_eq_true h.2⟩
theorem HG (r:ar c e ea){es:Nat}{lo t:Option Operand}{p:Option Addr}{n f:Nat}{a b:Int}(H:ea.ev x= .slice p n f)(E:n<=f)(F:f≠0->∀q,p=O q->∃z,c.Z.m q.block=O z/\z.es=es)
  (h:Fv (lo.map (ev e))=O a) (g:Am n (t.map (ev e))=O b) (C:jk a b n=Za):(AOp.slice es x lo t).run ea c.Z=O (.slice (p.map (Pd · (a.toNat*es))) (b.toNat-a.toNat) (f-a.toNat),c.Z):=by
 obtain⟨u,I,w⟩:=vW C
 have D:(f==0||Df c.Z es p lo)=Za:=by
  by_cases j:f=0
  .simp[j]
  .unfold Df;split
   .simp
   .simp
   .rename_i q;obtain⟨z,A,B⟩:=F j q rfl;rw[A];simp[B]
 simp only[AOp.run,H,D,if_true,Jd r g (by omega) w E,Je r h u (m:=b.toNat) (by omega)]
theorem IN.cut {q lo n:Nat}{dm:Nat×Nat}{p:Option Addr}{f A B:Nat}(h:IN c q lo n dm (.slice p n f))(F:A<=B)(H:B<=n):IN c q (lo+A) (B-A) dm (.slice (p.map (Pd · (A*dm.1))) (B-A) (f-A)):=by
 rcases h with⟨m,t,u,w,r⟩|⟨b,C,z,m,t,u,w,r,E⟩
 .injection m with g D j
  subst g;subst j;have:A=0:=by omega
  have:B=0:=by omega
  subst A;subst B;exact .inl ⟨rfl,by omega,rfl,w,r⟩
 .injection m with g D j
  subst g;subst j;refine .inr ⟨b,f-A,z, ?_,t,dD (aD _ (by omega)) u,by omega,r,dD (aD _ (by omega)) E⟩;simp only[iB,Pd,cB]
theorem IN.es (A:Rel c){q lo n j:Nat}{dm:Nat×Nat}{p:Option Addr}(B:(ad c.S q).dim=O dm)(h:IN c q lo n dm (.slice p n j)): ∀z,p=O z->∃blk,c.Z.m z.block=O blk/\blk.es=dm.1:=by
 intro z C;subst C;rcases h with⟨g,_⟩|⟨b,r,x,g,t,_,_,F,_⟩
 .cases g
 .injection g with f D E
  injection f with f
  subst f;obtain⟨blk,_,_,u,w,_⟩:=A.block B t;exact⟨blk,u,w⟩
theorem JD (u:Rel c)(C:ar c e ea){es q o n:Nat}{dm:Nat×Nat}{lo A:Option Operand}{a b:Int}(j:(ad c.S q).dim=O dm)(m:es=dm.1)(g:IN c q o n dm (ea.ev x))
  (t:Fv (lo.map (ev e))=O a) (r:Am n (A.map (ev e))=O b) (w:jk a b n=Za) (h:k (.part q (o+a.toNat) (b.toNat-a.toNat)) c.S=O y):bn T (.slice es x lo A) ea c.Z (jb c d k y):=by
 obtain⟨p,E,B,D⟩:=g.len;rw[B]at g;obtain⟨H,I,J⟩:=vW w;subst m;refine br (HG C B D (λ_=>g.es u j) t r w) (jb.same u ?_ h);refine .part (py (by rw[j];simp)) rfl λF f=> ?_
 rw[j]at f;injection f with f
 subst f;exact g.cut (by omega) (by omega)
theorem tdt {α:Type}(L:List α){A B N p:Nat}(h:B<=N):((((L.drop p).take N).take B).drop A)=(L.drop (p+A)).take (B-A):=by
 rw[List.take_take,Nat.min_eq_left h,eD,List.drop_drop]
theorem ao5 (I:Rel c)(E:ar c e ea){es:Nat}{lo W:Option Operand}(h:VU c.S es (ev e x) (lo.map (ev e)) (W.map (ev e)) k=O y):bn T (.slice es x lo W) ea c.Z (jb c d k y):=by
 have C:=bl E x;unfold VU at h;cases f:lenOf c.S (ev e x)with
 |none=>rw[f]at h;cases h
 |some n=>
  rw[f]at h;simp only at h;cases g:Fv (lo.map (ev e))with
  |none=>rw[g]at h;cases h
  |some a=>
   cases j:Am n (W.map (ev e))with
   |none=>rw[g,j]at h;cases h
   |some b=>
    rw[g,j]at h;simp only at h;split at h
    .rename_i J;rw[J]at C f;obtain⟨t,u⟩:=ap h
     have hn0:n=0:=by
      simp only[lenOf]at f;injection f with f
      exact f.symm
     subst hn0;obtain⟨A,B,H⟩:=vW t;have ha0:a=0:=by omega
     have hb0:b=0:=by omega
     subst a;subst b;have hxe:ea.ev x= .slice Y 0 0:=by generalize ea.ev x=xa at C;cases C;rfl
     exact br (HG E hxe (bD _) (λ_ q h=>by cases h) g j t) (jb.same I .nils u)
    .rename_i s l J;rw[J]at C f;simp only[lenOf]at f;injection f with f
     subst f;obtain⟨t,u⟩:=ap h;have N:=aB t
     have V:jk a b l.length=Za->k (.lst s (U7 l a b)) c.S=O y->bn T (.slice es x lo W) ea c.Z (jb c d k y):=by
      intro P X;obtain⟨A,B,H⟩:=vW P;generalize U:ea.ev x=xa at C;cases C with
      |lstn hq=>
       have hb0:b=0:=by simp at H;omega
       have ha0:a=0:=by omega
       subst a;subst b;refine br (HG E U (bD _) (λh=>(h rfl).elim) g j P) (jb.same I ?_ X);refine .lstn λz hz=> ?_
       obtain⟨z',_,h'⟩:=Option.map_eq_some_iff.1 hz;rw[<-h'];rfl
      |lst hn hy M D h7 h8 h9=>
       rename_i bb p cp z;refine br (HG E U h7 (λ_ q h=>by injection h with h;subst h;exact⟨z,hy,M.trans N.symm⟩) g (by rw[D];exact j) (by rw[D];exact P)) (jb.same I ?_ X);subst N;have Q:(U7 l a b).length=b.toNat-a.toNat:=by simp only[U7,List.length_drop,List.length_take];omega
       refine .lst hn hy M Q.symm (by omega) ?_ ?_
       .have:a.toNat*s.w+(b.toNat-a.toNat)*s.w<=l.length*s.w:=by rw[<-cB];exact aD _ (by omega)
        simp only;rw[D]at h8;omega
       .simp only[U7];rw[BT,ql];have K:=(h9.take (b.toNat*s.w)).drop (a.toNat*s.w);rw[tdt _ (by rw[D];exact aD _ (by omega)),<-Nat.sub_mul]at K;exact K
     split at u
     .rename_i e1 e2
      have P:jk a b l.length=Za:=by
       rw[e1]at g;rw[e2]at j;simp only[Fv]at g;simp only[Am]at j;injection g with g
       injection j with j
       subst g;subst j;simp[jk]
      refine V P ?_;rw[e1]at g;rw[e2]at j;simp only[Fv]at g;simp only[Am]at j;injection g with g
      injection j with j
      subst g;subst j;simp only[U7,Int.toNat_natCast,Int.toNat_zero,List.drop_zero,List.take_length];exact u
     .obtain⟨A,B⟩:=ap u;exact V A B
    .rename_i q J;rw[J]at C f;cases C with
     |full X _ L=>
      cases r:ad c.S q with
      |dead=>rw[r]at h;cases h
      |arr s z l=>
       rw[r]at h;obtain⟨t,u⟩:=ap h;obtain⟨A,B⟩:=ap u;simp only[lenOf,r]at f;injection f with f
       obtain⟨n',H,D⟩:=L (s.w,l.length*s.w) (by rw[r];rfl);have:n'=n:=by rw[<-f];exact fD (rR s) H
       subst this;exact JD I E (by rw[r];rfl) (aB t) D g j A (by rw[iA];exact B)
      |cells F z l=>
       rw[r]at h;obtain⟨t,u⟩:=ap h;obtain⟨A,B⟩:=ap u;rw[bB]at t;simp only[lenOf,r]at f;injection f with f
       obtain⟨n',H,D⟩:=L (F,l.length) (by rw[r];rfl);have he1:=aB t.1;have he2:=cD t.2
       have:n'=n:=by
        simp only at H;rw[<-f,<-H,gD _ (by omega)]
       subst this;exact JD I E (by rw[r];rfl) he1 D g j A (by rw[iA];exact B)
    .rename_i q o m J;rw[J]at C f;cases C with
     |part X _ L=>
      simp only[lenOf]at f;cases r:ad c.S q with
      |dead=>rw[r]at h;cases h
      |arr s z l=>
       rw[r]at h f;injection f with f
       subst f;obtain⟨t,u⟩:=ap h;obtain⟨A,B⟩:=ap u;exact JD I E (dm:=(s.w,l.length*s.w)) (by rw[r];rfl) (aB t) (L _ (by rw[r];rfl)) g j A B
      |cells F z l=>
       rw[r]at h f;injection f with f
       subst f;obtain⟨t,u⟩:=ap h;obtain⟨A,B⟩:=ap u;rw[bB]at t;exact JD I E (dm:=(F,l.length)) (by rw[r];rfl) (aB t.1) (L _ (by rw[r];rfl)) g j A B
    .cases h
theorem Na (s:ByteArray)(a b:Nat):au (s.extract a b)=((au s).take b).drop a:=by
 simp[au,ByteArray.data_extract,Array.toList_extract,List.extract_eq_take_drop,List.map_drop,List.map_take,eD]
theorem Up (B:Rel c)(g:ar c e ea){lo q:Option Operand}(h:KU c.S (ev e x) (lo.map (ev e)) (q.map (ev e)) k=O y):bn T (.sliceStr x lo q) ea c.Z (jb c d k y):=by
 have r:=bl g x;unfold KU at h;split at h
 .rename_i l C;rw[C]at r;obtain⟨s,t,rfl⟩:=r.str_inv;split at h
  .rename_i a b j f;obtain⟨u,w⟩:=ap h;obtain⟨A,D,n⟩:=vW u;rw[vV]at n f;refine br (v:= .string (s.extract a.toNat b.toNat)) ?_ (jb.same B (.str (Na s _ _)) w);simp only[AOp.run,t,Jd g f (by omega) n (bD _),Je g j A (m:=b.toNat) (by omega)]
  .cases h
 .cases h
theorem O0 {dm:Nat×Nat}(h:blk.dim=O dm):blk.vals.length=dm.2:=by
 cases blk with
 |dead=>cases h
 |cells f z l=>injection h with h;subst h;rfl
 |arr s z l=>injection h with h;subst h;exact ji
theorem Uo (W:Rel c)(P:ar c e ea){es n:Nat}{lo hi:Option Operand}(h:KT c.S es n (ev e x) (lo.map (ev e)) (hi.map (ev e)) k=O y):bn T (.sliceArr es n x lo hi) ea c.Z (jb c d k y):=by
 have hx:=bl P x;unfold KT at h;split at h
 .rename_i q o hv;rw[hv]at hx;split at h
  .rename_i es' l N;split at h
   .rename_i a b I H;obtain⟨L,h2⟩:=ap h;simp only[bB]at L;obtain⟨⟨⟨⟨⟨E,h4⟩,F⟩,J⟩,h7⟩,M⟩:=L;have E:=aB E;have h4:=cD h4;have F:=aB F;have J:=cD J;have M:=of_decide_eq_true M;obtain⟨h9,X,B⟩:=vW h7;subst E;cases hx with
    |ptr hk _ hd=>
     have f:(ad c.S q).dim=O (es,l.length):=by rw[N];rfl
     obtain⟨K,U,hp⟩:=hd _ f;obtain⟨z,cs,V,j,C,r,D,A⟩:=W.block f U;rw[N]at r A;have Q:=A.length;simp only[Blk.vals]at Q;have hzl:l.length<=z.cells.length:=by rw[D,iC,Q];omega
     have u:o / es*es=o:=Nat.div_mul_cancel (Nat.dvd_of_mod_eq_zero F);have hae:(o / es+a.toNat)*es=o+a.toNat*es:=by rw[cB,u]
     refine br (v:= .slice (O ⟨K,o+a.toNat*es,Y⟩) (b.toNat-a.toNat) (n-a.toNat)) (Z':=c.Z) ?_ (jb.same W ?_ h2)
     .simp only[AOp.run,hp,j];rw[zE ⟨r rfl,C,by omega⟩,Jd P H (by omega) B (bD _)];simp only;rw[Je P I h9 (m:=b.toNat) (by omega)];simp only;rw[Zg]
     .refine .part hk rfl λd' g=> ?_
      rw[f]at g;injection g with g
      subst g;refine .inr ⟨K,n-a.toNat,z,by simp only[hae],U, ?_,by omega,j, ?_⟩
      .have t:o / es+a.toNat+(b.toNat-a.toNat)=o / es+b.toNat:=by omega
       simp only;rw[t,cB,u];have:b.toNat*es<=n*es:=aD _ (by omega);omega
      .have t:o / es+a.toNat+(n-a.toNat)=o / es+n:=by omega
       simp only;rw[t,cB,u];omega
   .cases h
  .rename_i s l N;split at h
   .rename_i a b I H;obtain⟨L,h2⟩:=ap h;simp only[bB]at L;obtain⟨⟨⟨⟨E,F⟩,J⟩,h7⟩,M⟩:=L;have E:=aB E;have F:=aB F;have J:=cD J;have M:=of_decide_eq_true M;obtain⟨h9,X,B⟩:=vW h7;subst E;subst F;cases hx with
    |ptr hk _ hd=>
     have f:(ad c.S q).dim=O (s.w,l.length*s.w):=by rw[N];rfl
     obtain⟨K,U,hp⟩:=hd _ f;obtain⟨z,cs,V,j,C,r,D,A⟩:=W.block f U;have Q:=A.length;rw[O0 f]at Q;rw[N]at r;have hle:n*s.w<=l.length*s.w:=aD _ J;have hzl:l.length*s.w<=z.cells.length:=by rw[D,iC];simp only at Q;omega
     have t:(a.toNat+(b.toNat-a.toNat))*s.w<=l.length*s.w:=aD _ (by omega);have h18:(a.toNat+(n-a.toNat))*s.w<=l.length*s.w:=aD _ (by omega);refine br (v:= .slice (O ⟨K,0+a.toNat*s.w,Y⟩) (b.toNat-a.toNat) (n-a.toNat)) (Z':=c.Z) ?_ (jb.same W ?_ h2)
     .simp only[AOp.run,hp,j];rw[zE ⟨r rfl,C,by omega⟩,Jd P H (by omega) B (bD _)];simp only;rw[Je P I h9 (m:=b.toNat) (by omega)];simp only;rw[Zg]
     .refine .part hk rfl λd' g=> ?_
      rw[f]at g;injection g with g
      subst g;exact .inr ⟨K,n-a.toNat,z,by simp only[iA],U,t,by omega,j,by simp only;omega⟩
   .cases h
  .cases h
 .cases h
theorem aP0 (J:Rel c)(K:ar c e ea){n:Nat}(h:Yz c.S (aO9 c.S n (ev e x)) k=O y):bn T (.off n x) ea c.Z (jb c d k y):=by
 have E:=bl K x
 have r: ∀w b o,ea.ev x= .pointer (O ⟨b,o,Y⟩)->VRel c w (.pointer (O ⟨b,o+n,Y⟩))->k w c.S=O y->bn T (.off n x) ea c.Z (jb c d k y):=by
  intro w b o I N t;exact br (by simp only[AOp.run,I]) (jb.same J N t)
 generalize ev e x=Q at*;cases Q<;>simp only[aO9]at h<;>try(cases h;done)
 case ptr q o=>
  cases g:(ad c.S q).live with
  |false=>rw[g]at h;cases h
  |true=>
   rw[g]at h;obtain⟨u,f⟩:=xC g;cases E with
   |ptr t _ A=>
    obtain⟨b,B,D⟩:=A u f;exact r _ b o D (.ptr t rfl λH _=>⟨b,B,rfl⟩) h
 case pix q o m i=>
  cases g:(ad c.S q).live with
  |false=>rw[g]at h;cases h
  |true=>
   rw[g]at h;obtain⟨u,f⟩:=xC g;cases E with
   |pix t I M A=>
    obtain⟨b,B,D⟩:=A u f;cases C:dB n 0 with
    |false=>rw[C]at h;cases h
    |true=>
     rw[C]at h;have:=aB C;subst this;exact r _ b (o+i) D (.pix t rfl M λH _=>⟨b,B,rfl⟩) h
 case pel q i o=>
  cases g:(ad c.S q).live with
  |false=>rw[g]at h;cases h
  |true=>
   rw[g]at h;obtain⟨u,f⟩:=xC g;cases E with
   |pel t _ A=>
    obtain⟨b,B,D⟩:=A u f;refine r _ b _ D (.pel t rfl λH j=>⟨b,B, ?_⟩) h;rw[f]at j;injection j with j
    subst j;rw[fB]
 case pin s z o=>
  generalize F:ea.ev x=U at E;cases E with
  |pin C P g L=>
   refine r _ _ _ F ?_ h;rw[fB];exact .pin C P g L
theorem WI {es:Nat}{i:Operand}{b o n f:Nat}{z:Int}(m:ea.ev x= .slice (O ⟨b,o,Y⟩) n f)(h:ea.ev i= .int kd z)(g:0<=z)(j:z<n):
  (AOp.idx es x i).run ea c.Z=O (.pointer (O ⟨b,o+z.toNat*es,Y⟩),c.Z):=by
 simp only[AOp.run,m,h];rw[zE ⟨g,j⟩]
theorem DP (j:Rel c)(D:ar c e ea){es q o n:Nat}{dm:Nat×Nat}{i:Operand}{z:Int}{w:VV}(u:IN c q o n dm (ea.ev x))(m:ea.ev i= .int kd z)(f:0<=z)(t:z<n)
  (A: ∀b,c.μ q=O b->VRel c w (.pointer (O ⟨b,o*dm.1+z.toNat*es,Y⟩))) (r:k w c.S=O y):bn T (.idx es x i) ea c.Z (jb c d k y):=by
 rcases u with⟨_,_,C,_,_⟩|⟨b,B,E,g,h,_⟩
 .omega
 .exact br (WI g m f t) (jb.same j (A b h) r)
theorem aN0 (L:Rel c)(K:ar c e ea){es:Nat}{i:Operand}(h:aM9 c.S es (ev e x) (ev e i) k=O y):bn T (.idx es x i) ea c.Z (jb c d k y):=by
 have N:=bl K x;have E:=bl K i;unfold aM9 at h;split at h
 .rename_i kd z hz;rw[hz]at E;have E:=E.int_inv;split at h
  .rename_i s l hv;rw[hv]at N;obtain⟨t,F⟩:=ap h;have t:=aB t;obtain⟨el,H,r⟩:=ag F;obtain⟨B,u,I⟩:=Xc H;generalize hxa:ea.ev x=xa at N;cases N with
   |lstn=>simp at u;omega
   |lst hn hy he' J X U A=>
    rename_i b p cp blk;subst t;refine br (WI hxa E B (by rw[J];exact u)) (jb.same L ?_ r);have V:z.toNat*s.w+s.w<=l.length*s.w:=by rw[<-Nat.succ_mul];exact aD _ (by omega)
    have W:=(A.drop (z.toNat*s.w)).take s.w;rw[Kw I,eD,List.drop_drop,List.take_take,Nat.min_eq_left (by rw[J];omega)]at W;exact VRel.pin (o:=0) hn hy (by rw[J]at U;exact dD (Nat.le_of_eq (fB _ _ _)) (dD (Nat.add_le_add_left V _) U)) W
  .rename_i q hv;rw[hv]at N;cases N with
   |full M _ P=>
    cases C:ad c.S q with
    |dead=>rw[C]at h;cases h
    |arr s z' l=>
     rw[C]at h;obtain⟨t,F⟩:=ap h;obtain⟨j,H,r⟩:=ag F;obtain⟨B,u,rfl,I⟩:=Hr H;have f:(ad c.S q).dim=O (s.w,l.length*s.w):=by rw[C];rfl
     obtain⟨n,J,X⟩:=P _ f;have:n=l.length:=fD (rR s) J;subst this;refine DP L K X E B u (λb D=> .pel M rfl λQ g=>⟨b,D, ?_⟩) r;rw[f]at g;injection g with g
     subst g;rw[aB t];simp
    |cells es' z' l=>
     rw[C]at h;obtain⟨t,F⟩:=ap h;rw[bB]at t;have A:=aB t.1;have V:=cD t.2;subst A;obtain⟨j,H,r⟩:=ag F;obtain⟨B,u,rfl,I⟩:=Hr H;have f:(ad c.S q).dim=O (es,l.length):=by rw[C];rfl
     obtain⟨n,J,X⟩:=P _ f
     have hn:n=l.length / es:=by
      simp only at J;rw[<-J,gD _ (by omega)]
     cases m:dB es 1 with
     |true=>
      rw[m]at r;have m:=aB m;subst m;refine DP L K X E B (by rw[hn];exact u) (λb D=> .pix M rfl (by rw[Nat.div_one]at I;exact I) λQ g=>⟨b,D,by simp⟩) r
     |false=>
      rw[m]at r;refine DP L K X E B (by rw[hn];exact u) (λb D=> .ptr M rfl λQ g=>⟨b,D,by simp⟩) r
  .rename_i q o n hv;rw[hv]at N;cases N with
   |part M _ P=>
    cases C:ad c.S q with
    |dead=>rw[C]at h;cases h
    |arr s z' l=>
     rw[C]at h;obtain⟨t,F⟩:=ap h;obtain⟨j,H,r⟩:=ag F;obtain⟨B,u,rfl,I⟩:=Hr H;have f:(ad c.S q).dim=O (s.w,l.length*s.w):=by rw[C];rfl
     refine DP L K (P _ f) E B u (λb D=> .pel M rfl λQ g=>⟨b,D, ?_⟩) r;rw[f]at g;injection g with g
     subst g;rw[aB t,cB];simp
    |cells es' z' l=>
     rw[C]at h;obtain⟨t,F⟩:=ap h;rw[bB]at t;have A:=aB t.1;subst A;obtain⟨j,H,r⟩:=ag F;obtain⟨B,u,rfl,I⟩:=Hr H;have f:(ad c.S q).dim=O (es,l.length):=by rw[C];rfl
     cases m:dB es 1 with
     |true=>
      rw[m]at r;have m:=aB m;subst m;refine DP L K (P _ f) E B u (λb D=> .pix M rfl I λQ g=>⟨b,D,by simp⟩) r
     |false=>
      rw[m]at r;refine DP L K (P _ f) E B u (λb D=> .ptr M rfl λQ g=>⟨b,D,by simp[cB]⟩) r
  .cases h
 .cases h
theorem ay2 (u:Rel c)(w:ar c e ea){ln es:Nat}{i:Operand}(h:af2 c.S ln es (ev e x) (ev e i) k=O y):bn T (.idxA ln es x i) ea c.Z (jb c d k y):=by
 have C:=bl w x;have n:=bl w i;unfold af2 at h;split at h
 .rename_i q o kd z N P;rw[N]at C;rw[P]at n;have n:=n.int_inv;obtain⟨L,h⟩:=ap h;obtain⟨j,F,m⟩:=ag h;obtain⟨H,I,rfl,J⟩:=Hr F;cases C with
  |ptr A _ K=>
    obtain⟨E,t⟩:=xC L;obtain⟨b,B,M⟩:=K E t
    have g:(AOp.idxA ln es x i).run ea c.Z=O (.pointer (O ⟨b,o+z.toNat*es,Y⟩),c.Z):=by
     simp only[AOp.run,M,n];rw[zE ⟨H,I⟩]
    refine br g ?_;cases f:dB es 1 with
    |true=>
     rw[f]at m;have f:=aB f;subst f;exact jb.same u (.pix A rfl J λD r=>⟨b,B,by simp⟩) m
    |false=>
     rw[f]at m;exact jb.same u (.ptr A rfl λD r=>⟨b,B,rfl⟩) m
 .cases h
end
end
end Go.V
