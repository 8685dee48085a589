/- A part of the proof. No condition. -/
import Derived.Test.YtlkdfancfgakdaaGreatA7
import Derived.SizedLaws
import Derived.Test.YtlkdfancfgakdaaGreatD2
import Derived.KernelRfl
set_option linter.unusedVariables false
set_option linter.unusedSimpArgs false
set_option linter.unusedSectionVars false
namespace Go.V
open Go.Ab
open Option renaming some->O,none->Y
open Bool renaming true->Za,false->Zb
open Decidable renaming decide->Zc
variable {i t x:Nat}{a v w:Int}{out st:Zd}
set_option maxRecDepth 100000
section
open List renaming getElem?_map -> aB
def fieldAt (P:Program)(t:TypeId)(i:Nat):Option (TypeId×Nat):=match P.underlying t with
 |some (.struct b)=>(b[i]?).map λf=>(f.type,f.offset)
 |_=>Y
section
variable {H:Type} {enc:TypeId×Value->H} {P:Program} {w:World} {base:Nat} {held:Bool}
theorem JY {m:Nat}{t p:TypeId}{i o:Nat}{cs:List Value}{x:DataW H×List MemPlace}{R:Nat}(b:fieldAt P t i=O (p,o))(h:DataW.trod enc P w base (λ_=>Za) held m t cs=O x)(A: ∀n∈x.1.weights P t,n<=R):
  ∃m' s,DataW.trod enc P w base (λ_=>Za) held m' p ((cs.drop o).take (P.cellsOf p))=O s/\∀n∈s.1.weights P p,n<=R:=by
 unfold fieldAt at b;split at b
 .rename_i u r;cases c:u[i]? with
  |none=>rw[c]at b;cases b
  |some f=>
   rw[c,Option.map_some]at b;injection b with b
   injection b with y z
   subst y z;obtain⟨q,n,_,rfl,_,D,C⟩:=DataW.trod_struct r h;obtain⟨hi,_⟩:=Array.getElem?_eq_some_iff.1 c;have e:q[i]?=O (q[i]'(by omega)):=List.getElem?_eq_getElem (by omega);refine⟨n,_,(C i f c).trans e,λk B=>A k ?_⟩;simp only[DataW.weights,r];refine DataW.weights_mem_each (j:=i) (t:=f.type) (d:=(q[i]'(by omega)).1) ?_ ?_ k B
   .rw[aB,Array.getElem?_toList,c];rfl
   .rw[aB,e];rfl
 .cases b
theorem ar0 {m:Nat}{t e:TypeId}{cs:List Value}{x:DataW H×List MemPlace}{R:Nat}{s:Sh}{l:List (El s)}(o:P.underlying t=O (.slice e))(h:DataW.trod enc P w base (λ_=>Za) held m t cs=O x)(u: ∀n∈x.1.weights P t,n<=R)(y:fh w (.list s) cs l):l.length*P.bytesOf e<=R:=by
 rcases y with⟨_,rfl⟩|⟨B,f,j,A,k,_,_,_,rfl,_⟩
 .simp
 .rcases DataW.trod_slice o h with⟨c,_⟩|⟨a,len,p,b,d,n,_,c,rfl,_,_,_,z,_⟩
  .rw[k]at c;cases c
  .rw[k]at c;injection c with c _
   injection c with _ c _
   subst c;have q:=u ((b.length+d.length)*P.bytesOf e) (by simp only[DataW.weights,o,List.length_map];exact List.mem_cons_self ..);have r:(A.take f).length<=b.length+d.length:=by rw[List.length_take];omega
   exact Nat.le_trans (Nat.mul_le_mul_right _ r) q
theorem fh.fst {a b:Sh}{cs:List Value}{y:El (.pair a b)}(h:fh w (.pair a b) cs y)(j:a.w=1):fh w a (cs.take 1) y.1/\fh w b (cs.drop 1) y.2:=by
 obtain⟨d,k,rfl,c,f⟩:=h;have e:d.length=1:=c.len.trans j;rw[<-e,List.take_left,List.drop_left];exact⟨c,f⟩
theorem Rj {t tp tl e:TypeId}{A B:Sh}{v:Value}{d:DataW H}{C:List MemPlace}{R:Nat}{y:El (Ch [.int .i64, .list A, .list A, .int .i64, .list B, .int .i64, .list B, .int .i64, .int .i64])}
  (D:fieldAt P t 3=O (tp,3)) (E:fieldAt P t 4=O (tp,5)) (q:fieldAt P tp 1=O (tl,1)) (u:P.cellsOf tp=2) (s:P.cellsOf tl=1) (z:P.underlying tl=O (.slice e))
  (F:DataW.Trod enc P w base (λ_=>Za) held t v d C) (r: ∀n∈d.weights P t,n<=R)
  (b:HU w Za (Ch [.int .i64, .list A, .list A, .int .i64, .list B, .int .i64, .list B, .int .i64, .int .i64]) v y):
  y.2.2.2.2.1.length*P.bytesOf e<=R/\y.2.2.2.2.2.2.1.length*P.bytesOf e<=R:=by
 obtain⟨f,h⟩:=F;obtain⟨c,rfl,b⟩:=b;have h:DataW.trod enc P w base (λ_=>Za) held f t c.toList=O (d,C):=h;generalize c.toList=c at*;obtain⟨_,b⟩:=fh.fst b rfl;obtain⟨_,b⟩:=fh.fst b rfl;obtain⟨_,b⟩:=fh.fst b rfl;obtain⟨_,b⟩:=fh.fst b rfl;obtain⟨M,b⟩:=fh.fst b rfl;obtain⟨_,b⟩:=fh.fst b rfl;obtain⟨N,b⟩:=fh.fst b rfl;constructor
 .obtain⟨I,K,j,o⟩:=JY D h r;obtain⟨J,L,k,p⟩:=JY q j o;refine ar0 z k p ?_;rw[u,s]
  have:(((c.drop 3).take 2).drop 1).take 1=((((c.drop 1).drop 1).drop 1).drop 1).take 1:=by
   simp only[List.drop_take,List.drop_drop,List.take_take];rfl
  rw[this];exact M
 .obtain⟨I,K,j,o⟩:=JY E h r;obtain⟨J,L,k,p⟩:=JY q j o;refine ar0 z k p ?_;rw[u,s]
  have:(((c.drop 5).take 2).drop 1).take 1=((((((c.drop 1).drop 1).drop 1).drop 1).drop 1).drop 1).take 1:=by
   simp only[List.drop_take,List.drop_drop,List.take_take];rfl
  rw[this];exact N
end
end
section
open Go.IntKind renaming wrap -> zH, i64 -> zI, u64 -> zJ
open Bool renaming not_true -> iK
open Int renaming zero_add -> fB, add_assoc -> iA, mul_nonneg -> iG, add_zero -> iL, le_refl -> iM, ediv_le_self -> jD, ediv_nonneg -> kB, mul_ediv_self_le -> kD, mul_le_mul_of_nonneg_left -> lB, toNat_of_nonneg -> lD, eq_ofNat_of_zero_le -> pL, toNat_natCast -> pM
open List renaming getElem?_eq_getElem -> aD, replicate -> bB, getElem?_set_ne -> cB, length_cons -> cD, append_assoc -> dB, getElem?_append_right -> dD, length_append -> eD, cons_append -> fD, getElem_mem -> gD, nil_append -> iB, getElem_cons_drop -> iD, range -> iF, drop_length -> iH, getElem?_set_self -> iI, length -> iJ, append_nil -> iN, drop_append -> iO, drop_of_length_le -> iP, getD -> iQ, getElem?_drop -> iR, length_drop -> iS, map_append -> iT, set -> iU, set_append_right -> iV, take_append_drop -> iW, take_left' -> iX, any_cons -> mB, any_nil -> mD, dropLast_concat_getLast -> nB, length_take -> nD, mem_cons -> oB, range_succ -> oD, take_succ_eq_append_getElem -> pB, getElem?_cons_zero -> pN, length_flatten -> pO, map_replicate -> pP, mem_append -> pQ, replicate_succ' -> pR, sum_replicate_nat -> pS
open Nat renaming le_refl -> aB, sub_self -> bD, zero_add -> iC, zero_le -> iE, beq -> iY, eq_zero_or_pos -> iZ, mul_one -> jB, mul_add -> pD, mul_comm -> pJ, mul_le_mul_right -> pK, add_sub_cancel -> pT
abbrev bg :=Int×Int×Int×Int×Int
def bw :List bg->Nat->Option Nat
 |[],d=>O d
 |o::r,d=>if o.1<0∨7<o.1 then Y else if o.1=0 then(if d=0 then Y else bw r (d-1))else if o.1=7 then bw r (d+1)else bw r d
theorem vg : ∀(l r:List bg) (d:Nat),bw (l++r) d=(bw l d).bind (bw r)
 |[],r,d=>rfl
 |o::l,r,d=>by
  simp only[fD,bw];split
  .rfl
  split
  .split
   .rfl
   .exact vg l r _
  split
  .exact vg l r _
  .exact vg l r _
theorem JN : ∀(l:List bg) (d e:Nat),bw l d=O e->bw l (d+1)=O (e+1)
 |[],d,e,h=>by
  injection h with h
  subst h;rfl
 |o::l,d,e,h=>by
  simp only[bw]at h⊢;split at h
  .cases h
  rename_i c;rw[zF c];split at h
  .rename_i f;rw[zE f];split at h
   .cases h
   .rename_i b;rw[Zh];have:=JN l _ _ h
    rwa [show d-1+1=d+1-1 by omega]at this
  rename_i f;rw[zF f];split at h
  .rename_i b;rw[zE b];exact JN l _ _ h
  .rename_i b;rw[zF b];exact JN l _ _ h
def aJ9 (l:List bg)(s:Int×Bool×(Zd)×(Zd)×Zd):Prop:=
 ∃(i:Nat) (out st:Zd),i<=l.length/\s=((i:Int),Za,out,st,st)/\out.length=l.length/\(∀x∈st,0<=x/\x<l.length)/\st.length<=i/\bw (l.drop i) st.length=bw l 0
theorem aF0 (h:st≠[]): ∃pre x,st=pre++[x]:=⟨st.dropLast,st.getLast h,(nB h).symm⟩
theorem Vq {l:List bg}(K:l.length<=3518437208780)(s:Int×Bool×(Zd)×(Zd)×Zd)(h:aJ9 l s):
  (∃b,df l s=O (.inl b)/\aJ9 l b/\l.length-b.1.toNat<l.length-s.1.toNat)∨∃c,df l s=O (.inr c)/\((c.1=Zb/\bw l 0=Y)∨(c.1=Za/\bw l 0=O c.2.2.1.length)):=by
 obtain⟨i,out,st,hi,rfl,A,j,B,d⟩:=h;by_cases c:i<l.length
 .have o:l.drop i=l[i]::l.drop (i+1):=(iD c).symm;rw[o]at d;simp only[df];rw[zB (show(i:Int)<(l.length:Int)by omega),zC,dn c];simp only[zG];generalize M:l[i]=x at*;simp only[bw]at d;by_cases D:x.1<0
  .rw[zE (.inl D)]at d;rw[zB D];simp only[zC,zG,qx];exact .inr ⟨_,rfl, .inl ⟨rfl,d.symm⟩⟩
  rw[zA D,zD];by_cases k:7<x.1
  .rw[zE (.inr k)]at d;rw[zB k];simp only[zC,zG,cv,qx];exact .inr ⟨_,rfl, .inl ⟨rfl,d.symm⟩⟩
  rw[zA k,zD];rw[Zh]at d;by_cases u:x.1=0
  .rw[zE u]at d;rw[zB u];simp only[zC,zG,cv];by_cases p:st.length=0
   .rw[zE p]at d;rw[zB (show(st.length:Int)=0 by omega)];simp only[zC,zG,qx];exact .inr ⟨_,rfl, .inl ⟨rfl,d.symm⟩⟩
   .rw[zF p]at d;rw[zA (show¬(st.length:Int)=0 by omega),zD];rw[ae (n:=(st.length:Int)-1) (by omega),Zk,dh];simp only[zG,cv];obtain⟨pre,q,rfl⟩:=aF0 (st:=st) (by intro e;subst e;exact p rfl);have I:=j q (by simp);have f:(pre++[q]).length=pre.length+1:=by simp
    have L:(((pre++[q]).length:Int)-1).toNat-0=pre.length:=by rw[f];omega
    have E:Zc (x.1=7)=Zb:=zA (by omega);rw[bm (show i<out.length by omega)];simp only[zG];rw[aD (show i<out.length by omega)];simp only[zG];rw[E,zD,show((pre++[q]).length:Int)-1=(pre.length:Int)by rw[f];omega,bm (show pre.length<(pre++[q]).length by omega)];simp only[zG];rw[dD (aB _),bD];simp only[pN,zG];rw[dh,bm (show i<(out.set i (-1)).length by simp;omega)];simp only[zG];rw[aD (show i<(out.set i (-1)).length by simp;omega)];simp only[zG];obtain⟨r,rfl⟩:=pL I.1;have J:r<out.length:=by omega
    rw[bm (show r<((out.set i (-1)).set i ((r:Nat):Int)).length by simp;omega)];simp only[zG];rw[aD (show r<((out.set i (-1)).set i ((r:Nat):Int)).length by simp;omega)];simp only[zG]
    have C:(pre++[(r:Int)]).take ((pre.length:Int).toNat-0)=pre:=by
     rw[show(pre.length:Int).toNat-0=pre.length by omega,iX];rfl
    rw[C,ae (n:=(i:Int)+1) (by omega)];refine .inl ⟨_,rfl,⟨i+1,_,pre,c,rfl,by simp[A],λy hy=>j y (by simp[hy]),by rw[f]at B;omega, ?_⟩,by simp;omega⟩;rw[f]at d;exact d
  .rw[zF u]at d;have F:Zc (x.1=0)=Zb:=zA u;rw[F];simp only[zD,zG,cv];rw[bm (show i<out.length by omega)];simp only[zG];rw[aD (show i<out.length by omega)];simp only[zG];by_cases k:x.1=7
   .rw[zE k]at d;rw[zB k];simp only[zC];rw[de (by omega) (by omega),de (by omega) (by omega),ae (n:=(i:Int)+1) (by omega)];refine .inl ⟨_,rfl,⟨i+1,_,st++[(i:Int)],c,rfl,by simp[A],λy hy=> ?_,by simp;omega, ?_⟩,by simp;omega⟩
    .rcases List.mem_append.1 hy with hy|hy
     .exact j y hy
     .simp at hy;subst hy;omega
    .rw[eD];exact d
   .rw[zF k]at d;rw[zA k];simp only[zD];rw[ae (n:=(i:Int)+1) (by omega)];exact .inl ⟨_,rfl,⟨i+1,_,st,c,rfl,by simp[A],j,by omega,d⟩,by simp;omega⟩
 .have z:i=l.length:=by omega
  subst z;rw[iH]at d;simp only[df];rw[zA (show¬(l.length:Int)<(l.length:Int)by omega),zD];exact .inr ⟨_,rfl, .inr ⟨rfl,d.symm⟩⟩
theorem ER {l:List bg}(o:l.length<=3518437208780): ∃m,nb l=O (if bw l 0=O 0 then 0 else 6,m):=by
 unfold nb;rw[zB (show(0:Int)<=(l.length:Int)by omega),zB (show(l.length:Int)<=(l.length:Int)by omega),zB (show 8*(l.length:Int)<=140737488355328 by omega)];show∃m,gd Za _=_
 rw[dh]
 obtain⟨c,k,h⟩:=xD (f:=df l) (a:=((0:Int),Za,bB ((l.length:Int)).toNat (0:Int),([]:Zd),([]:Zd))) (aJ9 l) (λs=>l.length-s.1.toNat) (λc=>(c.1=Zb/\bw l 0=Y)∨(c.1=Za/\bw l 0=O c.2.2.1.length))
  ⟨0,_,[],iE _,rfl,by simp,(λx q=>by cases q),aB _,rfl⟩ (by simp;omega) (λs p=>Vq o s p)
 rw[k];simp only[zG];rcases h with⟨b,d⟩|⟨b,d⟩
 .rw[b,d];exact⟨_,rfl⟩
 .rw[b,d,zC];by_cases j:c.2.2.1.length=0
  .rw[zB (show(c.2.2.1.length:Int)=0 by omega),zE (by rw[j])];exact⟨_,rfl⟩
  .rw[zA (show¬(c.2.2.1.length:Int)=0 by omega),zF (by intro e;injection e with e;exact j e)];exact⟨_,rfl⟩
def zw (w v:Int):Option Int:=if w=0 then O 0 else if 65536<w then Y else if 65536 / w<v then Y else O (w*v)
def vD :List bg->List (Int×Int)->Option (List (Int×Int))
 |[],st=>O st
 |o::r,(v,w)::st=>if o.1=7 then vD r ((o.2.2.2.2,0)::(v,w)::st)else if o.1=0 then(match zw w v,st with
   |some n,(c,d)::b=>vD r ((c,d+n)::b)
   |_,_=>Y)
  else vD r ((v,w+1)::st)
 |_::_,[]=>Y
theorem Ol (s:0<=w/\w<=10000000000)(f:0<=v/\v<=18446744073709551615):wN w v=O (match zw w v with
  |some n=>(n,Za)
  |none=>(0,Zb)):=by
 unfold wN zw;simp only[ak];by_cases b:w=0
 .rw[zE b,zE b]
 rw[zF b,zF b];by_cases c:65536<w
 .rw[zE c,zE c]
 rw[zF c,zF c,zB (show w≠0 from b),dh,Xs (by omega)];have h:0<=65536 / w:=kB (by omega) (by omega);have j:65536 / w<=65536:=jD _ (by omega);rw[ae (n:=65536 / w) (by omega),Zj];by_cases d:65536 / w<v
 .rw[zE d,zE d]
 .rw[zF d,zF d]
  have o:w*v<=65536:=by
   have e:v<=65536 / w:=by omega
   have p:=lB e (show 0<=w by omega);have q:=kD (x:=65536) (k:=w) (by omega);omega
  have r:=iG (show 0<=w by omega) f.1;rw[ae (n:=v) (by omega),ae (n:=w*v) (by omega)]
theorem Hf {n:Int}(d:0<=w)(c:0<=v)(h:zw w v=O n):0<=n/\n<=65536:=by
 unfold zw at h;split at h
 .injection h with h;subst h;omega
 split at h
 .cases h
 split at h
 .cases h
 rename_i e f j;injection h with h
 subst h;have b:v<=65536 / w:=by omega
 have o:=lB b (show 0<=w by omega);have p:=kD (x:=65536) (k:=w) (by omega);exact⟨iG d c,by omega⟩
theorem H8 {k:Int}(h:0<k/\k<7)(d a b v:Int):om k d a b v=O (d,Za):=by
 unfold om vH;simp only[ak];have:k=1∨k=2∨k=3∨k=4∨k=5∨k=6:=by omega
 rcases this with rfl|rfl|rfl|rfl|rfl|rfl<;>rfl
theorem Un (a b:Int)(e:0<=a/\a<=1000000000000)(j:0<=b/\b<=65536):Bp [a,b]=O (a+b):=by
 unfold Bp
 have d:aw (CX [a,b]) gv (0,0)=O (a+b):=by
  have h:=pi (f:=CX [a,b]) (n:=2) (λi=>match i with|0=>0|1=>a|_=>a+b) (c:=a+b) (by omega) ?_ ?_
  .exact h
  .intro i hi
   match i,hi with
   |0,_=>
    show O (Sum.inl (zH zI 1,zH zI (0+a)))=_;rw[Zi,Zi,fB];rfl
   |1,_=>
    show O (Sum.inl (zH zI 2,zH zI (a+b)))=_;rw[Zi,Zi];rfl
  .rfl
 rw[d];rfl
def aE9 (l:List bg)(op:List (Int×Int)):List (Int×Int):=op.reverse.map λp=>((l.getD p.1.toNat (0,0,0,0,0)).2.2.2.2,p.2)
theorem Bh (l:List bg)(pre:List (Int×Int))(p:Int×Int):aE9 l (pre++[p])=((l.getD p.1.toNat (0,0,0,0,0)).2.2.2.2,p.2)::aE9 l pre:=by
 unfold aE9;rw[List.reverse_append,iT];rfl
def aK3 (l:List bg)(s:Int×(Zd)×(Zd)×List (Int×Int)):Prop:=
 ∃(i:Nat) (sz rd:Zd) (b:List (Int×Int)),i<=l.length/\s=((i:Int),sz,rd,b)/\sz.length=l.length/\rd.length=l.length/\b≠[]/\b.length<=i+1/\(∀p∈b,0<=p.1/\p.1<max (l.length:Int) 1/\0<=p.2/\p.2<=65537*i)/\
  bw (l.drop i) (b.length-1)=O 0/\vD (l.drop i) (aE9 l b)=vD l [((l.getD 0 (0,0,0,0,0)).2.2.2.2,0)]
theorem WH {l:List bg}(h:i<l.length):l.getD i (0,0,0,0,0)=l[i]:=by
 rw[List.getD_eq_getElem?_getD,aD h];rfl
theorem Ro {l:List bg}(hl:l.length<=100000)(hv: ∀o∈l,0<=o.2.2.2.2/\o.2.2.2.2<=18446744073709551615)(s:Int×(Zd)×(Zd)×List (Int×Int))(h:aK3 l s):
  (∃b,cw l s=O (.inl b)/\aK3 l b/\l.length-b.1.toNat<l.length-s.1.toNat)∨
  ∃c,cw l s=O (.inr c)/\((c.1=9/\vD l [((l.getD 0 (0,0,0,0,0)).2.2.2.2,0)]=Y)∨(c.1=0/\∃p:Int×Int,c.2.2.2=[p]/\0<=p.2/\vD l [((l.getD 0 (0,0,0,0,0)).2.2.2.2,0)]=O [((l.getD p.1.toNat (0,0,0,0,0)).2.2.2.2,p.2)])):=by
 obtain⟨i,sz,rds,op,hi,rfl,J,I,M,hol,A,j,f⟩:=h;obtain⟨pre,⟨r,w⟩,rfl⟩: ∃pre x,op=pre++[x]:=⟨op.dropLast,op.getLast M,(nB M).symm⟩
 have q:=A (r,w) (by simp);simp only at q;have z:(pre++[(r,w)]).length=pre.length+1:=by simp
 rw[z]at hol j;rw[pT]at j
 have C:(pre++[(r,w)])[pre.length]?=O (r,w):=by
  rw[dD (aB _),bD];rfl
 by_cases c:i<l.length
 .have F:l.drop i=l[i]::l.drop (i+1):=(iD c).symm;have hlv:=hv _ (gD c);have V:l.getD i (0,0,0,0,0)=l[i]:=WH c;rw[F]at j f;rw[Bh]at f;simp only[cw];rw[zB (show(i:Int)<(l.length:Int)by omega),zC,dn c];simp only[zG];generalize hx:l[i]=x at*;simp only[bw]at j;simp only[vD]at f
  have hk: ¬(x.1<0∨7<x.1):=by
   intro hk;rw[zE hk]at j;cases j
  rw[zF hk]at j;rw[z,ae (n:=((pre.length+1:Nat):Int)-1) (by omega),show((pre.length+1:Nat):Int)-1=(pre.length:Int)by omega,bm (show pre.length<pre.length+1 by omega)];simp only[zG];by_cases K:x.1=7
  .rw[Zh,zE K]at j;rw[zE K]at f;rw[zB K,zC,de (by omega) (by omega),ae (n:=(i:Int)+1) (by omega)];refine .inl ⟨_,rfl,⟨i+1,sz,rds,pre++[(r,w)]++[((i:Int),0)],c,rfl,J,I,by simp,by simp;omega,λp hp=> ?_, ?_, ?_⟩,by simp;omega⟩
   .rcases List.mem_append.1 hp with hp|hp
    .have:=A p hp;omega
    .simp at hp;subst hp;simp only;omega
   .rw[eD,z];exact j
   .rw[Bh,Bh];simp only[pM];rw[V];exact f
  .rw[zF K]at f;rw[zA K,zD];by_cases U:x.1=0
   .rw[zE U]at j f;rw[zB U,zC]
    have N:pre.length≠0:=by
     intro e;rw[zE e]at j;cases j
    rw[zF N]at j
    obtain⟨d,⟨k,u⟩,rfl⟩: ∃d x,pre=d++[x]:=by
     have D:pre≠[]:=by intro e;subst e;exact N rfl
     exact⟨pre.dropLast,pre.getLast D,(nB D).symm⟩
    have L:(d++[(k,u)]).length=d.length+1:=by simp
    have B:=A (k,u) (by simp);simp only at B;obtain⟨y,rfl⟩:=pL q.1;have E:y<l.length:=by omega
    rw[C];simp only[zG];rw[dn E];simp only[zG];have T:=hv _ (gD E);rw[Ol ⟨q.2.2.1,by omega⟩ T];simp only[zG];rw[Bh]at f;simp only[pM]at f;rw[WH E]at f;cases W:zw w l[y].2.2.2.2 with
    |none=>
     rw[W]at f;simp only[Bool.not_false,zC];exact .inr ⟨_,rfl, .inl ⟨rfl,f.symm⟩⟩
    |some n=>
     rw[W]at f;have hn:=Hf q.2.2.1 T.1 W;simp only[iK,zD];rw[bm (show y<sz.length by omega)];simp only[zG];rw[aD (show y<sz.length by omega)];simp only[zG];rw[bm (show y<rds.length by omega)];simp only[zG];rw[aD (show y<rds.length by omega)];simp only[zG];rw[Zk,dh];have e1:((d++[(k,u)]).length:Int).toNat-0=d.length+1:=by rw[L];omega
     rw[e1,ae (n:=((d.length+1:Nat):Int)-1) (by omega),show((d.length+1:Nat):Int)-1=(d.length:Int)by omega,bm (show d.length<d.length+1 by omega)];simp only[zG,iC]
     have X:(d++[(k,u)]++[((y:Int),w)])[d.length]?=O (k,u):=by
      rw[dB,dD (aB _),bD];rfl
     rw[X];simp only[zG];rw[Un _ _ (by omega) hn];simp only[zG]
     have htk:((d++[(k,u)]++[((y:Int),w)]).set d.length (k,u+n)).take (d.length+1)=d++[(k,u+n)]:=by
      rw[dB,iV _ _ (aB _),bD];show(d++[(k,u+n),((y:Int),w)]).take (d.length+1)=_;rw[show [(k,u+n),((y:Int),w)]=[(k,u+n)]++[((y:Int),w)]from rfl,<-dB,iX];simp
     rw[htk,ae (n:=(i:Int)+1) (by omega)];refine .inl ⟨_,rfl,⟨i+1,_,_,d++[(k,u+n)],c,rfl,by simp[J],by simp[I],by simp,by simp;omega,λp hp=> ?_, ?_, ?_⟩,by simp;omega⟩
     .rcases List.mem_append.1 hp with hp|hp
      .have:=A p (by simp[hp]);omega
      .simp at hp;subst hp;simp only;omega
     .rw[L]at j;rw[eD];exact j
     .rw[Bh];exact f
   .rw[zF U]at j f;rw[zF K]at j;rw[zA U,zD,H8 (by omega)];simp only[zG,zC];rw[bm (show i<sz.length by omega)];simp only[zG];rw[aD (show i<sz.length by omega)];simp only[zG];rw[C];simp only[zG];rw[ae (n:=w+1) (by omega),ae (n:=(i:Int)+1) (by omega)]
    have Q:(pre++[(r,w)]).set pre.length (r,w+1)=pre++[(r,w+1)]:=by
     rw[iV _ _ (aB _),bD];rfl
    rw[Q];refine .inl ⟨_,rfl,⟨i+1,_,rds,pre++[(r,w+1)],c,rfl,by simp[J],I,by simp,by simp;omega,λp hp=> ?_, ?_, ?_⟩,by simp;omega⟩
    .rcases List.mem_append.1 hp with hp|hp
     .have:=A p (by simp[hp]);omega
     .simp at hp;subst hp;simp only;omega
    .rw[eD];exact j
    .rw[Bh];exact f
 .have hi':i=l.length:=by omega
  subst hi';rw[iH]at j f;simp only[cw];rw[zA (show¬(l.length:Int)<(l.length:Int)by omega),zD]
  have hp:pre=[]:=by
   have j:O pre.length=O 0:=j;injection j with j
   exact List.length_eq_zero_iff.1 j
  subst hp;refine .inr ⟨_,rfl, .inr ⟨rfl,(r,w),rfl,q.2.2.1, ?_⟩⟩;rw[<-f];rfl
def Q9 (l:List bg):Option Int:=(vD l [((l.getD 0 (0,0,0,0,0)).2.2.2.2,0)]).bind λst=>match st with
 |[p]=>O p.2
 |_=>Y
def db (l:List bg):Int×Int:=if bw l 0=O 0 then(match Q9 l with
 |some w=>if 65536<w then(0,9)else(w,0)
 |none=>(0,9))else(0,6)
theorem zR {l:List bg}(C:l.length<=100000)(E: ∀o∈l,0<=o.2.2.2.2/\o.2.2.2.2<=18446744073709551615):ip l=O (db l):=by
 unfold ip qe;obtain⟨m,D⟩:=ER (l:=l) (by omega);rw[D];unfold db;by_cases k:bw l 0=O 0
 .simp only[zE k];simp only[zG];rw[zA (by simp),zD];rw[zB (show(0:Int)<=(l.length:Int)by omega),zB (show(l.length:Int)<=(l.length:Int)by omega),zB (show 8*(l.length:Int)<=140737488355328 by omega)];have b: ∀{β:Type} {y:Option β},gd (iY 1 (Sh.w (.int .i64))&&Za&&Za&&Za&&Nat.ble 1 8) y=y:=λ{β y}=>rfl
  rw[b,b]
  obtain⟨c,B,h⟩:=xD (f:=cw l) (a:=((0:Int),bB ((l.length:Int)).toNat (0:Int),bB ((l.length:Int)).toNat (0:Int),[((0:Int),(0:Int))])) (aK3 l) (λs=>l.length-s.1.toNat) _
   ⟨0,_,_,[(0,0)],iE _,rfl,by simp,by simp,by simp,by simp,(λp q=>by simp at q;subst q;simp only;omega),k,rfl⟩ (by simp;omega) (λs h=>Ro C E s h)
  rw[B];simp only[zG];unfold Q9;rcases h with⟨j,u⟩|⟨j,p,z,F,A⟩
  .rw[j,u];rfl
  .rw[j,A,z];show((((cond (Zc (65536<p.2)) (O (9:Int)) (O 0)).bind λd=>cond (Zc (d≠0)) (O ((0:Int),d,([]:Zd),([]:Zd))) (O (p.2,0,c.2.1,c.2.2.1))).bind λr=>O (r.1,r.2.1)))=O (if 65536<p.2 then(0,9)else(p.2,0));rw[ak];by_cases e:65536<p.2
   .rw[zE e,zE e];rfl
   .rw[zF e,zF e];rfl
 .simp only[zF k];rfl
theorem DT : ∀(l r:List bg) (st:List (Int×Int)),vD (l++r) st=(vD l st).bind (vD r)
 |[],r,st=>rfl
 |o::l,r,[]=>rfl
 |o::l,r,(v,w)::st=>by
  simp only[fD,vD];split
  .exact DT l r _
  split
  .split
   .exact DT l r _
   .rfl
  .exact DT l r _
def WP (v w:Int)(base:List (Int×Int)):List (Int×Int)->List (Int×Int)
 |[]=>[]
 |[p]=>(v,w+p.2)::base
 |p::q::r=>p::WP v w base (q::r)
theorem PI (v w:Int)(base:List (Int×Int))(p:Int×Int): ∀c:List (Int×Int),WP v w base (c++[p])=c++(v,w+p.2)::base
 |[]=>rfl
 |[a]=>rfl
 |a::b::r=>by
  show a::WP v w base (b::r++[p])=_;rw[PI v w base p (b::r)];rfl
theorem vZ (v w:Int)(base:List (Int×Int)): ∀(l:List bg) (e:List (Int×Int)) (c:Int) (d:Nat),bw l e.length=O d->vD l (e++(v,w+c)::base)=(vD l (e++[(0,c)])).map (WP v w base)
 |[],e,c,d,_=>by
  show O _=O _;rw[PI]
 |o::l,[],c,d,h=>by
  simp only[bw,List.length_nil]at h;simp only[iB,vD];split at h
  .cases h
  split at h
  .rw[zE trivial]at h;cases h
  rename_i p f;split at h
  .rename_i b;rw[zE b,zE b];exact vZ v w base l [(o.2.2.2.2,0)] c d h
  .rename_i b;rw[zF b,zF f,zF b,zF f,iA];exact vZ v w base l [] (c+1) d h
 |o::l,(j,k)::e,c,d,h=>by
  simp only[bw,cD]at h;simp only[fD,vD];split at h
  .cases h
  split at h
  .rename_i p f;rw[Zh]at h;rw[Zh,zE f,Zh,zE f];cases r:zw k j with
   |none=>rfl
   |some n=>
    cases e with
    |nil=>
     simp only[iB];rw[iA];exact vZ v w base l [] (c+n) d h
    |cons q e=>
     simp only[fD];exact vZ v w base l ((q.1,q.2+n)::e) c d h
  rename_i p f;split at h
  .rename_i b;rw[zE b,zE b];exact vZ v w base l ((o.2.2.2.2,0)::(j,k)::e) c d h
  .rename_i b;rw[zF b,zF f,zF b,zF f];exact vZ v w base l ((j,k+1)::e) c d h
theorem JM : ∀(l:List bg) (st b:List (Int×Int)) (d f:Nat),st.length=d+1->bw l d=O f->vD l st=O b->b.length=f+1
 |[],st,b,d,f,h,c,e=>by
  injection c with c
  injection e with e
  subst c;subst e;exact h
 |o::l,[],b,d,f,h,_,_=>by simp at h
 |o::l,(v,w)::st,b,d,f,h,c,e=>by
  simp only[bw]at c;simp only[vD]at e;simp only[cD,Nat.add_right_cancel_iff]at h;split at c
  .cases c
  split at c
  .rename_i p k;split at c
   .cases c
   rw[Zh,zE k]at e;split at e
   .rename_i j _ _ n r s q _;exact JM l _ b (d-1) f (by simp at h⊢;omega) c e
   .cases e
  rename_i p k;split at c
  .rename_i j;rw[zE j]at e;exact JM l _ b (d+1) f (by simp;omega) c e
  .rename_i j;rw[zF j,zF k]at e;exact JM l _ b d f (by simp;omega) c e
theorem Mq : ∀(l:List bg) (st b:List (Int×Int)),(∀o∈l,0<=o.2.2.2.2)->(∀p∈st,0<=p.1/\0<=p.2)->vD l st=O b->∀p∈b,0<=p.2
 |[],st,b,_,h,c=>by
  injection c with c
  subst c;exact λp hp=>(h p hp).2
 |o::l,[],b,_,_,c=>by cases c
 |o::l,(v,w)::st,b,q,h,c=>by
  have f:=h (v,w) (by simp);have d: ∀p∈st,0<=p.1/\0<=p.2:=λp hp=>h p (by simp[hp])
  have e: ∀k∈l,0<=k.2.2.2.2:=λk j=>q k (by simp[j])
  simp only at f;simp only[vD]at c;split at c
  .refine Mq l _ b e (λp hp=> ?_) c;rcases List.mem_cons.1 hp with rfl|hp
   .exact⟨q o (by simp),iM _⟩
   .exact h p hp
  split at c
  .split at c
   .rename_i n u y s r;have z:=Hf f.2 f.1 r;refine Mq l _ b e (λp hp=> ?_) c;rcases List.mem_cons.1 hp with rfl|hp
    .have:=d (u,y) (by simp);simp only at this⊢;omega
    .exact d p (by simp[hp])
   .cases c
  .refine Mq l _ b e (λp hp=> ?_) c;rcases List.mem_cons.1 hp with rfl|hp
   .simp only;omega
   .exact h p (by simp[hp])
theorem Ig {l:List bg}(h:bw l 0=O 0)(v w:Int)(base:List (Int×Int)):vD l ((v,w)::base)=(Q9 l).map λm=>(v,w+m)::base:=by
 have b:=vZ v w base l [] 0 0 h;rw[iB,iB,iL]at b;have c:=vZ ((l.getD 0 (0,0,0,0,0)).2.2.2.2) 0 [] l [] 0 0 h;rw[iB,iB,iL]at c;unfold Q9;rw[b,c];cases e:vD l [(0,0)]with
 |none=>rfl
 |some st=>
  have d:=JM l _ st 0 0 rfl h e
  match st,d with
  |[p],_=>
   show O ((v,w+p.2)::base)=O ((v,w+(0+p.2))::base);rw[fB]
theorem K7 {l:List bg}(e: ∀o∈l,0<=o.2.2.2.2){m:Int}(h:bw l 0=O 0)(d:Q9 l=O m):0<=m:=by
 have b:=Ig h 0 0 [];rw[d]at b;have:=Mq l _ _ e (λp c=>by simp at c;subst c;simp) b (0,0+m) (by simp);simp only at this;omega
theorem IC {l:List bg}(y:l.length<=100000):ut l=O (Zc (bw l 0=O 0)):=by
 unfold ut
 obtain⟨c,r,h⟩:=xD (f:=Ac l) (a:=((0:Int),(0:Int))) (λs=> ∃i d:Nat,i<=l.length/\d<=i/\s=((i:Int),(d:Int))/\bw (l.drop i) d=bw l 0) (λs=>l.length-s.1.toNat)
  (λc=>(c= .inl Zb/\bw l 0=Y)∨∃d:Nat,c= .inr (d:Int)/\bw l 0=O d) ⟨0,0,iE _,aB _,rfl,rfl⟩ (by simp;omega) (by
  rintro _ ⟨i,d,hi,u,rfl,b⟩;simp only[Ac,ak];by_cases c:i<l.length
  .rw[(iD c).symm]at b;rw[Zg,dn c];simp only[zG];generalize l[i]=x at*;simp only[bw]at b;by_cases p:x.1<0
   .rw[zE (.inl p)]at b;rw[zE p];exact .inr ⟨_,rfl, .inl ⟨rfl,b.symm⟩⟩
   rw[zF p];by_cases q:7<x.1
   .rw[zE (.inr q)]at b;rw[zE q];exact .inr ⟨_,rfl, .inl ⟨rfl,b.symm⟩⟩
   rw[Zh]at b;rw[zF q];by_cases o:x.1=0
   .rw[zE o]at b;rw[Zh];simp only[zG];rw[zE o,ae (n:=(d:Int)-1) (by omega),ae (n:=(i:Int)+1) (by omega)];by_cases k:d=0
    .rw[zE k]at b;rw[Zg];exact .inr ⟨_,rfl, .inl ⟨rfl,b.symm⟩⟩
    .rw[zF k]at b;rw[Zh];exact .inl ⟨_,rfl,⟨i+1,d-1,c,by omega,by rw[show((d-1:Nat):Int)=(d:Int)-1 by omega];rfl,b⟩,by simp;omega⟩
   .rw[zF o]at b;by_cases j:x.1=7
    .rw[zE j]at b;rw[zE j];simp only[zG];rw[zF o,ae (n:=(d:Int)+1) (by omega),ae (n:=(i:Int)+1) (by omega),Zh];exact .inl ⟨_,rfl,⟨i+1,d+1,c,by omega,rfl,b⟩,by simp;omega⟩
    .rw[zF j]at b;rw[zF j];simp only[zG];rw[zF o,ae (n:=(i:Int)+1) (by omega),Zh];exact .inl ⟨_,rfl,⟨i+1,d,c,by omega,rfl,b⟩,by simp;omega⟩
  .have:i=l.length:=by omega
   subst this;rw[iH]at b;rw[Zh]
   exact .inr ⟨_,rfl, .inr ⟨d,rfl,b.symm⟩⟩)
 rw[r];rcases h with⟨rfl,h⟩|⟨d,rfl,h⟩
 .rw[h];rfl
 .rw[h];show O (Zc ((d:Int)=0))=O (Zc (O d=O 0))
  congr 1
  rw[decide_eq_decide];constructor
  .intro e;have:d=0:=by omega
   rw[this]
  .intro e;injection e with e;omega
theorem E4 : ∀(n:Nat) (s:List bg) (d:Nat),s.length<=n->bw s (d+1)=O 0->∃inner e rest,s=inner++e::rest/\e.1=0/\bw inner 0=O 0/\bw rest d=O 0
 |n,[],d,_,h=>by
  injection h with h
  omega
 |0,o::s,d,f,_=>by simp at f
 |n+1,o::s,d,f,h=>by
  simp only[cD]at f;simp only[bw]at h;split at h
  .cases h
  rename_i B;split at h
  .rename_i j;rw[Zh]at h;exact⟨[],o,s,rfl,j,rfl,h⟩
  rename_i j;split at h
  .rename_i r;obtain⟨p,b,q,k,u,y,z⟩:=E4 n s (d+1) (by omega) h;have c:q.length<=n:=by rw[k]at f;simp at f;omega
   obtain⟨A,C,J,D,E,F,I⟩:=E4 n q d c z;refine⟨o::p++b::A,C,J, ?_,E, ?_,I⟩
   .rw[k,D];simp
   .show bw (o::(p++b::A)) 0=_;simp only[bw];rw[zF B,zF j,zE r,vg,JN _ _ _ y];show bw (b::A) 1=_;simp only[bw];rw[Zh,zE u,Zh];exact F
  .rename_i r;obtain⟨p,b,q,k,u,y,z⟩:=E4 n s d (by omega) h;refine⟨o::p,b,q,by rw[k];rfl,u, ?_,z⟩;simp only[bw];rw[zF B,zF j,zF r];exact y
theorem A4 {s u E F:List bg}{e1 y:bg}(h:s++e1::E=u++y::F)(z:bw s 0=O 0)(A:bw u 0=O 0)(p:e1.1=0)(r:y.1=0):s=u:=by
 have k: ∀{a b:List bg} {e:bg} {x:List bg},a++e::x=b->e.1=0->bw a 0=O 0->bw b 0=O 0->False:=by
  intro a b e x o D C f;rw[<-o,vg,C]at f;have f:bw (e::x) 0=O 0:=f;simp only[bw]at f;rw[Zh,zE D,zE trivial]at f;cases f
 rcases List.append_eq_append_iff.1 h with⟨j,d,c⟩|⟨j,d,c⟩
 .cases j with
  |nil=>rw[iN]at d;exact d.symm
  |cons q j=>
   rw[fD]at c;injection c with c B
   subst c;exact(k d.symm p z A).elim
 .cases j with
  |nil=>rw[iN]at d;exact d
  |cons q j=>
   rw[fD]at c;injection c with c B
   subst c;exact(k d.symm r A z).elim
theorem MZ {l:List bg}(h:bw l 0=O 0)(hi:i<=l.length): ∃d,bw (l.take i) 0=O d/\bw (l.drop i) d=O 0:=by
 rw[<-iW i l,vg]at h;obtain⟨d,b,c⟩:=ag h;exact⟨d,b,c⟩
theorem SE {l:List bg}(h:bw l 0=O 0)(hi:i<l.length)(k:l[i].1=7): ∃inner e rest,l.drop (i+1)=inner++e::rest/\e.1=0/\bw inner 0=O 0:=by
 obtain⟨d,_,b⟩:=MZ h (i:=i) (by omega);rw[(iD hi).symm]at b;simp only[bw]at b;rw[Zh,Zh,zE k]at b;obtain⟨inner,e,rest,c,f,j,_⟩:=E4 _ _ d (aB _) b;exact⟨inner,e,rest,c,f,j⟩
structure MOK (l:List bg)(m:Zd):Prop where
 len:m.length=l.length
 at': ∀i,(hi:i<l.length)->l[i].1=7->∀inner e rest,l.drop (i+1)=inner++e::rest->e.1=0->bw inner 0=O 0->m[i]?=O ((i+1+inner.length:Nat):Int)
theorem aE1 {l:List bg}(M:l.length<=100000)(hi:i<l.length){inner rest:List bg}{e:bg}(h:l.drop (i+1)=inner++e::rest)(I:e.1=0)(E:bw inner 0=O 0):aw (rD l) gv (1,(i:Int))=O ((i+1+inner.length:Nat):Int):=by
 have D:l.length=i+1+inner.length+1+rest.length:=by
  have:=congrArg iJ h;rw[iS]at this;simp at this;omega
 have r: ∀j,j<inner.length+1->∃x,rd l ((i+1+j:Nat):Int)=O x/\(inner++e::rest)[j]?=O x:=by
  intro j q;have s:i+1+j<l.length:=by omega
  refine⟨l[i+1+j],dn s, ?_⟩;rw[<-h,iR,aD s]
 have u: ∀j,j<=inner.length->∃d,bw (inner.take j) 0=O d:=by
  intro j q;obtain⟨d,b,_⟩:=MZ E q;exact⟨d,b⟩
 let c:Nat->Nat:=λj=>(bw (inner.take j) 0).getD 0
 have o: ∀j,j<=inner.length->bw (inner.take j) 0=O (c j):=by
  intro j q;obtain⟨d,F⟩:=u j q;show _=O ((bw (inner.take j) 0).getD 0);rw[F];rfl
 have A: ∀j,c j<=j∨inner.length<j:=by
  intro j;induction j with
  |zero=>exact .inl (aB _)
  |succ j N=>
   by_cases q:j+1<=inner.length
   .left;have b:=o (j+1) q;rw[pB (show j<inner.length by omega),vg,o j (by omega)]at b;have b:bw [inner[j]] (c j)=O (c (j+1)):=b;simp only[bw]at b;split at b
    .cases b
    split at b
    .split at b
     .cases b
     .injection b with b;omega
    split at b
    .injection b with b;omega
    .injection b with b;omega
   .right;omega
 refine It (f:=rD l) (n:=inner.length+1) (λj=>if j<=inner.length then((1+c j:Nat),((i+j:Nat):Int))else(0,((i+1+inner.length:Nat):Int))) (by omega) (λj q=> ?_) ?_
 .have L:=A j;rw[zE (show j<=inner.length by omega)];obtain⟨x,B,k⟩:=r j (by omega);simp only[rD,ak];rw[Zg,ae (n:=((i+j:Nat):Int)+1) (by omega),show((i+j:Nat):Int)+1=((i+1+j:Nat):Int)by omega,B];simp only[zG];by_cases p:j<inner.length
  .rw[List.getElem?_append_left p,aD p]at k;injection k with k
   have b:=o (j+1) p;rw[pB p,vg,o j (by omega)]at b;have b:bw [inner[j]] (c j)=O (c (j+1)):=b;rw[k]at b;simp only[bw]at b;rw[zE (show j+1<=inner.length by omega)];split at b
   .cases b
   split at b
   .rename_i K y;split at b
    .cases b
    .injection b with b
     rw[Zh,zE y,Zi]
     congr 3<;>omega
   rename_i K y;split at b
   .rename_i C;injection b with b
    rw[zE C,zF y,Zi]
    congr 3<;>omega
   .rename_i C;injection b with b
    rw[zF C,zF y]
    congr 3<;>omega
  .have z:j=inner.length:=by omega
   subst z;rw[dD (aB _),bD]at k;injection k with k
   subst k
   have J:c inner.length=0:=by
    have:=o inner.length (aB _);rw[List.take_length,E]at this;injection this with this
    exact this.symm
   rw[Zh,zE I,zF (show¬inner.length+1<=inner.length by omega),J,Zi];rfl
 .rw[Zh];simp only[rD,ak];rw[Zh]
theorem TQ {l:List bg}(K:l.length<=100000):(bw l 0=O 0/\∃m,uX l=O (0,m)/\MOK l m)∨(bw l 0≠O 0/\uX l=O (6,[])):=by
 unfold uX;rw[IC K];simp only[zG];by_cases z:bw l 0=O 0
 .left;refine⟨z, ?_⟩;rw[zB z];simp only[iK,zD]
  have V:aw (rC l) gv (0,[])=O (bB l.length (-1)):=by
   have h:=pi (f:=rC l) (n:=l.length) (λi=>bB i (-1:Int)) (c:=bB l.length (-1)) (by omega) ?_ ?_
   .exact h
   .intro i hi;simp only[rC,ak];rw[Zg,de (by simp;omega) (by omega),Zi,pR];rfl
   .simp only[rC,ak];rw[Zh]
  rw[V];simp only[zG]
  obtain⟨c,W,h⟩:=xD (f:=ye l) (a:=((0:Int),bB l.length (-1:Int))) (λs=> ∃(i:Nat) (out:Zd),i<=l.length/\s=((i:Int),out)/\out.length=l.length/\∀j,j<i->(y:j<l.length)->l[j].1=7->∀b e o,l.drop (j+1)=b++e::o->e.1=0->bw b 0=O 0->out[j]?=O ((j+1+b.length:Nat):Int)) (λs=>l.length-s.1.toNat)
   (λc=>MOK l c) ⟨0,_,iE _,rfl,by simp,λj y=>by omega⟩ (by simp;omega) (by
   rintro _ ⟨i,out,hi,rfl,I,k⟩;simp only[ye,ak];by_cases c:i<l.length
   .rw[Zg,dn c];simp only[zG];by_cases C:l[i].1=7
    .obtain⟨b,e,o,A,D,J⟩:=SE z c C
     have L:l.length=i+1+b.length+1+o.length:=by
      have:=congrArg iJ A;rw[iS]at this;simp at this;omega
     rw[zF (by simp[C]),aE1 K c A D J];simp only[zG];rw[bm (show i<out.length by omega)];simp only[zG];rw[aD (show i<out.length by omega)];simp only[zG];rw[bm (show i+1+b.length<(out.set i ((i+1+b.length:Nat):Int)).length by simp;omega)];simp only[zG];rw[aD (show i+1+b.length<(out.set i ((i+1+b.length:Nat):Int)).length by simp;omega)];simp only[zG];rw[ae (n:=(i:Int)+1) (by omega)];refine .inl ⟨_,rfl,⟨i+1,_,c,rfl,by simp[I],λj y r d q T u M N Q=> ?_⟩,by simp;omega⟩
     have E:l[i+1+b.length].1=0:=by
      have B:(l.drop (i+1))[b.length]?=O e:=by
       rw[A,dD (aB _),bD];rfl
      rw[iR,aD (show i+1+b.length<l.length by omega)]at B;injection B with B
      rw[B];exact D
     have F:i+1+b.length≠j:=by
      intro U;subst U;rw[E]at d;cases d
     rw[cB F];by_cases p:i=j
     .subst p;have:=A4 (A.symm.trans M) J Q D N;subst this;rw[iI (by omega)]
     .rw[cB p];exact k j (by omega) r d q T u M N Q
    .rw[zE C,ae (n:=(i:Int)+1) (by omega)];refine .inl ⟨_,rfl,⟨i+1,out,c,rfl,I,λj y r d=> ?_⟩,by simp;omega⟩;by_cases p:j=i
     .subst p;exact(C d).elim
     .exact k j (by omega) r d
   .have:i=l.length:=by omega
    subst this;rw[Zh]
    exact .inr ⟨_,rfl,I,λj y d=>k j y y d⟩)
  rw[W];exact⟨c,rfl,h⟩
 .right;refine⟨z, ?_⟩;rw[zA z];rfl
theorem WV {α β:Type}{f:α->β}(c: ∀a b,f a=f b->a=b){x y:Option α}(h:x.map f=y.map f):x=y:=by
 cases x with
 |none=>cases y with
  |none=>rfl
  |some b=>cases h
 |some a=>cases y with
  |none=>cases h
  |some b=>
   injection h with h
   rw[c _ _ h]
theorem aK1 :Q9 []=O 0:=rfl
theorem TF (v c:Int)(base:List (Int×Int)): ∀a b:Int,(v,c+a)::base=(v,c+b)::base->a=b:=by
 intro a b h;injection h with h
 injection h with _ h
 omega
theorem K8 {o:bg}{s:List bg}(h:bw (o::s) 0=O 0)(d:o.1≠7):bw s 0=O 0/\(0<o.1/\o.1<7)/\Q9 (o::s)=(Q9 s).map (1+ ·):=by
 have c:=Ig h 0 0 [];simp only[bw]at h;split at h
 .cases h
 rename_i e;split at h
 .rw[zE trivial]at h;cases h
 rename_i b;refine⟨h,by omega,WV (TF 0 0 []) ?_⟩;rw[<-c];simp only[vD];rw[zF d,zF b,Ig h];cases Q9 s with
 |none=>rfl
 |some m=>
  show O [((0:Int),0+1+m)]=O [((0:Int),0+(1+m))];rw[iA]
theorem J4 {o e:bg}{inner rest:List bg}(h:bw (o::(inner++e::rest)) 0=O 0)(d:o.1=7)(c:e.1=0)(hi:bw inner 0=O 0):
  bw rest 0=O 0/\Q9 (o::(inner++e::rest))=(Q9 inner).bind λw=>(zw w o.2.2.2.2).bind λb=>(Q9 rest).map (b+ ·):=by
 have f:=Ig h 0 0 [];simp only[bw]at h;rw[Zh,Zh,zE d,vg,JN _ _ _ hi]at h;have h:bw (e::rest) 1=O 0:=h;simp only[bw]at h;rw[Zh,zE c,Zh]at h;have h:bw rest 0=O 0:=h;refine⟨h,WV (TF 0 0 []) ?_⟩;rw[<-f];simp only[vD];rw[zE d,DT,Ig hi];cases Q9 inner with
 |none=>rfl
 |some w=>
  show vD (e::rest) [(o.2.2.2.2,0+w),(0,0)]=_;simp only[vD];rw[Zh,zE c,fB];simp only[zG];cases zw w o.2.2.2.2 with
  |none=>rfl
  |some b=>
   simp only[zG];rw[Ig h];cases Q9 rest with
   |none=>rfl
   |some m=>
    show O [((0:Int),0+b+m)]=O [((0:Int),0+(b+m))];rw[iA]
theorem VJ {k:Int}(h:0<k/\k<7): ∃x,qM k=O (Za,x):=by
 have:k=1∨k=2∨k=3∨k=4∨k=5∨k=6:=by omega
 rcases this with rfl|rfl|rfl|rfl|rfl|rfl<;>exact⟨_,rfl⟩
def KR (t:Int):Int:=if 65536<t then 65537 else t
def XR (w v:Int):Int:=if KR w=0 then 0 else if v=0 then 0 else if 65536<v then 65537 else if 65536<KR w*v then 65537 else KR w*v
theorem M6 {b:Int}(o:0<=w)(u:0<=v)(h:zw w v=O b):XR w v=b/\w<=65536:=by
 unfold zw at h;unfold XR;split at h
 .rename_i c;injection h with h
  subst h;subst c;exact⟨by rw[zE (show KR 0=0 from rfl)],by omega⟩
 split at h
 .cases h
 split at h
 .cases h
 rename_i c e p;injection h with h
 have j:KR w=w:=zF e;rw[j,zF c];have s:65536 / w<=65536:=jD _ (by omega);have f:v<=65536 / w:=by omega
 have q:=lB f o;have r:=kD (x:=65536) (k:=w) c;refine⟨?_,by omega⟩;by_cases d:v=0
 .rw[zE d,<-h,d,Int.mul_zero]
 .rw[zF d,Zh,Zh,h]
theorem ac6 (k:0<=w)(p:0<=v)(h:zw w v=Y):65536<w∨XR w v=65537:=by
 unfold zw at h;split at h
 .cases h
 rename_i e;split at h
 .rename_i c;exact .inl c
 rename_i c;split at h
 .rename_i f;right;unfold XR;have j:KR w=w:=zF c;have b:=Int.lt_mul_of_ediv_lt (show 0<w by omega) f;rw[Int.mul_comm]at b;have o:0<=65536 / w:=kB (by omega) k;rw[j,zF e,Zh];by_cases d:65536<v
  .rw[zE d]
  .rw[zF d,zE b]
 .cases h
def WOK (l:List bg)(m:Zd)(N:Nat):Prop:= ∀f,2*N<f->∀A seg B,l=A++seg++B->seg.length<N->bw seg 0=O 0->
 ∃r,(cd f).1 l m (A.length:Int) ((A.length+seg.length:Nat):Int)=O r/\0<=r/\r<=65537/\∀t,Q9 seg=O t->r=KR t
section
variable {l:List bg} {m:Zd}
theorem SF (X:l.length<=2000)(K: ∀o∈l,0<=o.2.2.2.2/\o.2.2.2.2<=18446744073709551615)(A:MOK l m){N:Nat}(h:WOK l m N){f:Nat}(W:2*N+1<f)(hi:i<l.length)(J:l[i].1=7){inner rest:List bg}{e:bg}(p:l.drop (i+1)=inner++e::rest)(I:e.1=0)(B:bw inner 0=O 0)(F:inner.length<N):
  ∃r,(cd f).2 l m (i:Int)=O r/\0<=r/\r<=65537/\∀w,Q9 inner=O w->r=XR w l[i].2.2.2.2:=by
 obtain⟨g,rfl⟩: ∃g,f=g+1:=⟨f-1,by omega⟩
 have z:l.length=i+1+inner.length+1+rest.length:=by
  have:=congrArg iJ p;rw[iS]at this;simp at this;omega
 have q:=A.at' i hi J inner e rest p I B
 have b:l=l.take (i+1)++inner++e::rest:=by
  rw[dB,<-p,iW]
 have E:(l.take (i+1)).length=i+1:=by rw[nD];omega
 obtain⟨d,u,y,C,D⟩:=h g (by omega) (l.take (i+1)) inner (e::rest) b F B;rw[E]at u
 have s:rd m (i:Int)=O ((i+1+inner.length:Nat):Int):=by
  have j:i<m.length:=by rw[A.len];exact hi
  rw[dn j,<-q,aD j]
 have c:=K _ (gD hi);show∃r,CO ((cd g).1) ((cd g).2) l m i=O r/\_
 unfold CO;rw[s];simp only[zG];rw[ae (n:=(i:Int)+1) (by omega),show(i:Int)+1=((i+1:Nat):Int)by omega,u];simp only[zG,ak];rw[dn hi];simp only[zG];generalize l[i].2.2.2.2=v at*
 have k:(if d=0 then O 0 else if v=0 then O 0 else if 65536<v then O 65537 else if 65536<IntKind.i64.wrap (d*zH zI v)then O 65537 else O (zH zI (d*zH zI v)))=
   O (if d=0 then 0 else if v=0 then 0 else if 65536<v then 65537 else if 65536<d*v then 65537 else d*v):=by
  split
  .rfl
  split
  .rfl
  split
  .rfl
  rename_i M Q T;have U:=Int.mul_le_mul C (show v<=65536 by omega) c.1 (by omega);have V:=iG y c.1;rw[ae (n:=v) (by omega),Zi];split<;>rfl
 rw[k];refine⟨_,rfl, ?_, ?_,λw L=> ?_⟩
 .split
  .omega
  split
  .omega
  split
  .omega
  split
  .omega
  .exact iG y c.1
 .split
  .omega
  split
  .omega
  split
  .omega
  split<;>omega
 .rw[D w L];rfl
theorem G8 (hl:l.length<=2000)(E: ∀o∈l,0<=o.2.2.2.2/\o.2.2.2.2<=18446744073709551615)(W:MOK l m){N:Nat}(h:WOK l m N){g:Nat}(hg:2*N+1<g)(hi:Nat): ∀(k:Nat) (pre seg B:List bg) (n:Int) (F:Nat),l=pre++seg++B->seg.length<=k->seg.length<=N->seg.length<F->bw seg 0=O 0->hi=pre.length+seg.length->0<=n/\n<=65536->
  ∃c,aw (tA ((cd g).2) l m hi) F ((pre.length:Int),n)=O c/\(c= .inl ()∨∃r,c= .inr r/\0<=r/\r<=65536)/\∀t,Q9 seg=O t->c=if 65536<n+t then .inl ()else .inr (n+t)
 |k,pre,[],B,n,0,_,_,_,z,_,_,_=>by simp at z
 |k,pre,[],B,n,F+1,d,_,_,_,M,hh,hn=>by
  refine⟨.inr n, ?_, .inr ⟨n,rfl,hn⟩,λt j=> ?_⟩
  .rw[da];simp only[tA,ak];rw[zF (by simp at hh;omega)];rfl
  .injection j with j
   subst j;rw[iL,Zh]
 |0,pre,o::seg,B,n,F,_,hk,_,_,_,_,_=>by simp at hk
 |k+1,pre,o::seg,B,n,0,_,_,_,z,_,_,_=>by simp at z
 |k+1,pre,o::seg,B,n,F+1,d,hk,hN,z,M,hh,hn=>by
  simp only[cD]at hk hN z hh;have V:l.length=pre.length+(seg.length+1)+B.length:=by rw[d];simp;omega
  have A:pre.length<l.length:=by omega
  have s:l[pre.length]=o:=by
   have:l[pre.length]?=O o:=by
    rw[d,dB,dD (aB _),bD];rfl
   rw[aD A]at this;injection this
  have X:0<=o.2.2.2.2/\o.2.2.2.2<=18446744073709551615:=by rw[<-s];exact E _ (gD A)
  rw[da];simp only[tA,ak];rw[Zg,dn A,s];simp only[zG];by_cases u:o.1=7
  .
   rw[zE u]
   have hs1:bw seg 1=O 0:=by
    simp only[bw]at M;rw[Zh,Zh,zE u]at M;exact M
   obtain⟨f,e,q,h1,h2,T,h4⟩:=E4 _ seg 0 (aB _) hs1;subst h1;simp only[eD,cD]at hk hN z hh V
   have hd:l.drop (pre.length+1)=f++e::(q++B):=by
    rw[d,dB,iO,iP (by omega),show pre.length+1-pre.length=1 by omega];simp
   obtain⟨r9,b1,b2,b3,b4⟩:=SF hl E W h hg A (by rw[s];exact u) hd h2 T (by omega);rw[s]at b4;rw[b1];simp only[zG];have hmi:=W.at' pre.length A (by rw[s];exact u) f e (q++B) hd h2 T
   have hrd:rd m (pre.length:Int)=O ((pre.length+1+f.length:Nat):Int):=by
    have D:pre.length<m.length:=by rw[W.len];exact A
    rw[dn D,<-hmi,aD D]
   rw[hrd];simp only[zG];rw[ae (n:=n+r9) (by omega),ae (n:=((pre.length+1+f.length:Nat):Int)+1) (by omega)];obtain⟨C,U⟩:=J4 M u h2 T;by_cases L:65536<n+r9
   .rw[zE L];refine⟨.inl (),rfl, .inl rfl,λt j=> ?_⟩;rw[U]at j;obtain⟨w,hw,j⟩:=ag j;obtain⟨b,hb,j⟩:=ag j;have I:=K7 (l:=f) (λJ y=>(E J (by rw[d];simp[y])).1) T hw;obtain⟨e1,_⟩:=M6 I X.1 hb;rw[b4 w hw,e1]at L;cases p:Q9 q with
    |none=>rw[p]at j;cases j
    |some K=>
     rw[p]at j;injection j with j
     have j:b+K=t:=j;have:=K7 (l:=q) (λJ y=>(E J (by rw[d];simp[y])).1) C p;rw[Zg]
   .rw[zF L];simp only[zG,bz];have hp:(pre++o::(f++[e])).length=pre.length+1+f.length+1:=by simp;omega
    obtain⟨c,Q,d2,d3⟩:=G8 hl E W h hg hi k (pre++o::(f++[e])) q B (n+r9) F (by rw[d];simp) (by omega) (by omega) (by omega) C (by rw[hp];omega) (by omega);rw[hp]at Q;refine⟨c,by rw[show((pre.length+1+f.length:Nat):Int)+1=((pre.length+1+f.length+1:Nat):Int)by omega];exact Q,d2,λt j=> ?_⟩;rw[U]at j;obtain⟨w,hw,j⟩:=ag j;obtain⟨b,hb,j⟩:=ag j;have I:=K7 (l:=f) (λJ y=>(E J (by rw[d];simp[y])).1) T hw;obtain⟨e1,_⟩:=M6 I X.1 hb;have hr9:r9=b:=by rw[b4 w hw,e1]
    cases p:Q9 q with
    |none=>rw[p]at j;cases j
    |some K=>
     rw[p]at j;injection j with j
     have:=d3 K p;rw[this,<-j,hr9,iA]
  .rw[zF u];obtain⟨C,hko,U⟩:=K8 M u;obtain⟨x,hx⟩:=VJ hko;rw[hx];simp only[zG,zC];rw[ae (n:=n+1) (by omega),ae (n:=(pre.length:Int)+1) (by omega)];by_cases L:65536<n+1
   .rw[zE L];refine⟨.inl (),rfl, .inl rfl,λt j=> ?_⟩;rw[U]at j;cases p:Q9 seg with
    |none=>rw[p]at j;cases j
    |some K=>
     rw[p]at j;injection j with j
     have j:1+K=t:=j;have:=K7 (l:=seg) (λJ y=>(E J (by rw[d];simp[y])).1) C p;rw[Zg]
   .rw[zF L];simp only[zG,bz];have hp:(pre++[o]).length=pre.length+1:=by simp
    obtain⟨c,Q,d2,d3⟩:=G8 hl E W h hg hi k (pre++[o]) seg B (n+1) F (by rw[d];simp) (by omega) (by omega) (by omega) C (by rw[hp];omega) (by omega);rw[hp]at Q;refine⟨c,Q,d2,λt j=> ?_⟩;rw[U]at j;cases p:Q9 seg with
    |none=>rw[p]at j;cases j
    |some K=>
     rw[p]at j;injection j with j
     rw[d3 K p,<-j,iA]
theorem wok (j:l.length<=2000)(p: ∀o∈l,0<=o.2.2.2.2/\o.2.2.2.2<=18446744073709551615)(k:MOK l m): ∀N,WOK l m N
 |0=>λ_ _ _ _ _ _ h=>absurd h (Nat.not_lt_zero _)
 |N+1=>λf E A seg B b D y=>by
  obtain⟨g,rfl⟩: ∃g,f=g+1:=⟨f-1,by omega⟩
  show∃r,Bk ((cd g).1) ((cd g).2) l m _ _=O r/\_
  unfold Bk
  have z:seg.length<=2000:=by
   have:=congrArg iJ b;simp at this;omega
  obtain⟨c,q,s,e⟩:=G8 j p k (wok j p k N) (g:=g) (by omega) (A.length+seg.length) _ A seg B 0 gv b (aB _) (by omega) (by unfold gv;omega) y rfl (by omega);rw[q];simp only[zG];rcases s with rfl|⟨r,rfl,u,C⟩
  .refine⟨65537,rfl,by omega,by omega,λt d=> ?_⟩;have:=e t d;rw[fB]at this;unfold KR;split at this
   .rename_i c;rw[zE c]
   .cases this
  .refine⟨r,rfl,u,by omega,λt d=> ?_⟩;have:=e t d;rw[fB]at this;unfold KR;split at this
   .cases this
   .rename_i c;injection this with this
    rw[zF c,this]
end
theorem Tl {δ:Type}{f:Int->Option (Int⊕δ)}(n:Nat)(z:n<9223372036854775808)(b:Nat->Prop)(c e:δ)
  (s: ∀i:Nat,i<n->¬b i->f (i:Int)=O (.inl ((i+1:Nat):Int))) (A: ∀i:Nat,i<n->b i->f (i:Int)=O (.inr c)) (y:f (n:Int)=O (.inr e)):
  (∃i,i<n/\b i/\(∀j,j<i->¬b j)/\aw f gv 0=O c)∨((∀j,j<n->¬b j)/\aw f gv 0=O e):=by
 by_cases h: ∃i,i<n/\b i
 .obtain⟨i,k,o⟩:=h
  have q: ∃i,i<n/\b i/\∀j,j<i->¬b j:=by
   induction i using Nat.strongRecOn with
   |ind i B=>
    by_cases d: ∃j,j<i/\b j
    .obtain⟨j,p,u⟩:=d;exact B j p (by omega) u
    .exact⟨i,k,o,λj h p=>d ⟨j,h,p⟩⟩
  obtain⟨i,k,o,p⟩:=q;exact .inl ⟨i,k,o,p,yr (n:=i) (by omega) (λj d=>s j (by omega) (p j d)) (A i k o)⟩
 .have r: ∀j,j<n->¬b j:=λj k o=>h ⟨j,k,o⟩
  exact .inr ⟨r,yr (n:=n) z (λj d=>s j d (r j d)) y⟩
theorem ax5 {seg pre inner rest:List bg}{o e:bg}{t:Int}(f:Q9 seg=O t)(s:seg=pre++o::(inner++e::rest))(r:o.1=7)(q:e.1=0)(hi:bw inner 0=O 0):
  ∃w b,Q9 inner=O w/\zw w o.2.2.2.2=O b:=by
 unfold Q9 at f;rw[s,DT]at f;obtain⟨st,k,u⟩:=ag f;obtain⟨d,y,c⟩:=ag k;cases d with
 |nil=>simp[vD]at c
 |cons p d=>
  simp only[vD]at c;rw[zE r,DT,Ig hi]at c;cases j:Q9 inner with
  |none=>rw[j]at c;cases c
  |some w=>
   rw[j]at c;have c:vD (e::rest) ((o.2.2.2.2,0+w)::(p.1,p.2)::d)=O st:=c;simp only[vD]at c;rw[Zh,zE q,fB]at c;cases h:zw w o.2.2.2.2 with
   |none=>rw[h]at c;cases c
   |some b=>exact⟨w,b,rfl,h⟩
theorem QT : ∀(n:Nat) (seg:List bg),seg.length<=n->bw seg 0=O 0->Q9 seg=Y->∃pre o inner e rest w,seg=pre++o::(inner++e::rest)/\o.1=7/\e.1=0/\bw inner 0=O 0/\Q9 inner=O w/\zw w o.2.2.2.2=Y
 |n,[],_,_,c=>by cases c
 |0,o::s,h,_,_=>by simp at h
 |n+1,o::s,J,k,c=>by
  simp only[cD]at J;by_cases z:o.1=7
  .have C:bw s 1=O 0:=by
    simp only[bw]at k;rw[Zh,Zh,zE z]at k;exact k
   obtain⟨inner,e,rest,K,F,A,L⟩:=E4 _ s 0 (aB _) C;subst K;simp only[eD,cD]at J;obtain⟨d,B⟩:=J4 k z F A;rw[B]at c;cases D:Q9 inner with
   |none=>
    obtain⟨pre,q,p,f,y,w,r,u⟩:=QT n inner (by omega) A D;exact⟨o::pre,q,p,f,y++e::rest,w,by rw[r];simp,u⟩
   |some w=>
    rw[D]at c;simp only[zG]at c;cases I:zw w o.2.2.2.2 with
    |none=>exact⟨[],o,inner,e,rest,w,rfl,z,F,A,D,I⟩
    |some b=>
     rw[I]at c;simp only[zG]at c;cases j:Q9 rest with
     |some t=>rw[j]at c;cases c
     |none=>
      obtain⟨pre,q,p,f,y,E,r,u⟩:=QT n rest (by omega) d j;exact⟨o::(inner++e::pre),q,p,f,y,E,by rw[r];simp,u⟩
  .obtain⟨d,_,B⟩:=K8 k z;rw[B]at c;cases j:Q9 s with
   |some t=>rw[j]at c;cases c
   |none=>
    obtain⟨pre,q,p,f,y,E,r,u⟩:=QT n s (by omega) d j;exact⟨o::pre,q,p,f,y,E,by rw[r];rfl,u⟩
section
variable {l:List bg} {m:Zd}
theorem In (J:l.length<=1500)(q: ∀o∈l,0<=o.2.2.2.2/\o.2.2.2.2<=18446744073709551615)(j:MOK l m)(D:bw l 0=O 0)(hi:i<l.length)(p:l[i].1=7):
  ∃inner e rest b w r,l.drop (i+1)=inner++e::rest/\e.1=0/\bw inner 0=O 0/\m[i]?=O r/\r=((i+1+inner.length:Nat):Int)/\yN l m (i:Int)=O b/\rF l m ((i+1:Nat):Int) r=O w/\0<=b/\0<=w/\
   ∀t,Q9 inner=O t->b=XR t l[i].2.2.2.2/\w=KR t:=by
 obtain⟨inner,e,rest,h,k,c⟩:=SE D hi p
 have s:l.length=i+1+inner.length+1+rest.length:=by
  have:=congrArg iJ h;rw[iS]at this;simp at this;omega
 have d:l=l.take (i+1)++inner++e::rest:=by
  rw[dB,<-h,iW]
 have C:(l.take (i+1)).length=i+1:=by rw[nD];omega
 obtain⟨b,z,A,I,B⟩:=SF (by omega) q j (wok (by omega) q j 1501) (f:=4000) (by omega) hi p h k c (by omega);obtain⟨w,y,E,K,F⟩:=wok (by omega) q j 1501 4000 (by omega) (l.take (i+1)) inner (e::rest) d (by omega) c;rw[C]at y;exact⟨inner,e,rest,b,w,_,h,k,c,j.at' i hi p inner e rest h k c,rfl,z,y,A,E,λt u=>⟨B t u,F t u⟩⟩
theorem VL (W:l.length<=1500)(y: ∀o∈l,0<=o.2.2.2.2/\o.2.2.2.2<=18446744073709551615)(F:MOK l m)(N:bw l 0=O 0):
  aw (oi l (0,m)) gv 0=O (match Q9 l with|some _=> .inr ()|none=> .inl ()):=by
 have I:=Tl (f:=oi l (0,m)) l.length (by omega)
  (λi=> ∃hi:i<l.length,l[i].1=7/\∃b w A,m[i]?=O A/\yN l m (i:Int)=O b/\rF l m ((i+1:Nat):Int) A=O w/\(65536<b∨65536<w)) (.inl ()) (.inr ())
  (λi hi hn=>by
   unfold oi;simp only[ak];rw[Zg,dn hi];simp only[zG];by_cases k:l[i].1=7
   .obtain⟨c,e,j,b,w,A,M,q2,q3,r,q5,u,D,q8⟩:=In W y F N hi k;rw[zE k,u];simp only[zG];rw[zF (λh=>hn ⟨hi,k,b,w,A,r,u,D, .inl h⟩),bm (show i<m.length by rw[F.len];exact hi)];simp only[zG];rw[r];simp only[zG];rw[ae (n:=(i:Int)+1) (by omega),show(i:Int)+1=((i+1:Nat):Int)by omega,D];simp only[zG];rw[zF (λh=>hn ⟨hi,k,b,w,A,r,u,D, .inr h⟩)]
   .rw[zF k,ae (n:=(i:Int)+1) (by omega)]
    rfl)
  (λi _ hst=>by
   obtain⟨hi,k,b,w,A,r,u,D,q8⟩:=hst;unfold oi;simp only[ak];rw[Zg,dn hi];simp only[zG];rw[zE k,u];simp only[zG];by_cases hb:65536<b
   .rw[zE hb]
   .rw[zF hb,bm (show i<m.length by rw[F.len];exact hi)];simp only[zG];rw[r];simp only[zG];rw[ae (n:=(i:Int)+1) (by omega),show(i:Int)+1=((i+1:Nat):Int)by omega,D];simp only[zG]
    rw[Zg])
  (by
   unfold oi;simp only[ak]
   rw[Zh])
 cases hq:Q9 l with
 |some t=>
  rcases I with⟨i,h1,⟨hi,k,b,w,A,r,u,D,q8⟩,_⟩|⟨_,h⟩
  .exfalso;obtain⟨c,e,j,b',w',J,p1,p2,T,E,p5,K,L,p8,p9,C⟩:=In W y F N hi k
   have d:l=l.take i++l[i]::(c++e::j):=by
    rw[<-p1,iD hi,iW]
   obtain⟨w0,b0,g1,g2⟩:=ax5 hq d k p2 T;obtain⟨U,V⟩:=C w0 g1;have q: ∀B∈c,0<=B.2.2.2.2:=λB z=>(y B (by rw[d];simp[z])).1
   have s:=K7 q T g1;obtain⟨x1,x2⟩:=M6 s (y _ (gD hi)).1 g2;obtain⟨x3,x4⟩:=Hf s (y _ (gD hi)).1 g2;rw[r]at E;injection E with E
   rw[u]at K;injection K with K
   rw[<-E,D]at L;injection L with L
   have hs9:KR w0=w0:=zF (by omega);rw[hs9]at V;omega
  .exact h
 |none=>
  rcases I with⟨_,_,_,_,h⟩|⟨h,_⟩
  .exact h
  .exfalso;obtain⟨pre,o,c,e,j,w,M,q2,q3,r,q5,u⟩:=QT _ l (aB _) N hq;have hi:pre.length<l.length:=by rw[M];simp
   have p:l[pre.length]=o:=by
    have:l[pre.length]?=O o:=by
     rw[M,dD (aB _),bD];rfl
    rw[aD hi]at this;injection this
   have k:l[pre.length].1=7:=by rw[p];exact q2
   have hd:l.drop (pre.length+1)=c++e::j:=by
    rw[M,iO,iP (by omega),show pre.length+1-pre.length=1 by omega];simp
   obtain⟨Q,e',rest',b',w',J,p1,p2,T,E,p5,K,L,p8,p9,C⟩:=In W y F N hi k;have:=A4 (hd.symm.trans p1) r T q3 p2;subst this;obtain⟨U,V⟩:=C w q5;have q: ∀B∈c,0<=B.2.2.2.2:=λB z=>(y B (by rw[M];simp[z])).1
   have s:=K7 q r q5;rw[p]at U;have X:0<=o.2.2.2.2:=by rw[<-p];exact(y _ (gD hi)).1
   refine h _ hi ⟨hi,k,b',w',J,E,K,L, ?_⟩;rcases ac6 s X u with x|x
   .right;rw[V];unfold KR;rw[zE x];omega
   .left;rw[U,x];omega
theorem EX (p:l.length<=1500)(h: ∀o∈l,0<=o.2.2.2.2/\o.2.2.2.2<=18446744073709551615):rE l=O (db l):=by
 unfold rE db;rcases TQ (l:=l) (by omega)with⟨b,m,f,d⟩|⟨b,f⟩
 .rw[f,zE b];simp only[zG];rw[zA (by simp),zD,VL p h d b];cases k:Q9 l with
  |none=>rfl
  |some t=>
   have s:=K7 (λo q=>(h o q).1) b k;simp only[zG,bz];obtain⟨w,j,u,y,r⟩:=wok (by omega) h d 1501 4000 (by omega) [] l [] (by simp) (by omega) b
   have j:rF l m 0 (l.length:Int)=O w:=by
    rw[<-j];show _=(cd 4000).1 l m 0 ((0+l.length:Nat):Int);rw[iC];rfl
   rw[j];simp only[zG,ak];have e:=r t k;unfold KR at e;by_cases c:65536<t
   .rw[zE c]at e;rw[zE c,Zg]
   .rw[zF c]at e;rw[zF c,Zh,e]
 .rw[f,zF b];rfl
end
theorem Bc {α δ:Type}{f:Int->Option (Int⊕δ)}{l:List α}(p:α->Bool)(c:Nat->δ)(e:δ)(C:l.length<1000000)
  (q: ∀i,(hi:i<l.length)->f (i:Int)=O (if p l[i]then .inr (c i)else .inl ((i+1:Nat):Int))) (y:f (l.length:Int)=O (.inr e)):
  (l.any p=Za/\∃i:Nat,aw f gv 0=O (c i))∨(l.any p=Zb/\aw f gv 0=O e):=by
 by_cases h: ∃i,∃hi:i<l.length,p l[i]=Za
 .left
  have o: ∃i,(∃hi:i<l.length,p l[i]=Za)/\∀j,j<i->¬∃b:j<l.length,p l[j]=Za:=by
   obtain⟨i,hi⟩:=h;induction i using Nat.strongRecOn with
   |ind i B=>
    by_cases b: ∃j,j<i/\∃b:j<l.length,p l[j]=Za
    .obtain⟨j,k,u⟩:=b;exact B j k u
    .exact⟨i,hi,λj h k=>b ⟨j,h,k⟩⟩
  obtain⟨i,⟨hi,r⟩,s⟩:=o;refine⟨List.any_eq_true.2 ⟨l[i],gD hi,r⟩,i,yr (n:=i) (by omega) (λj b=> ?_) ?_⟩
  .rw[q j (by omega),zF (λd=>s j b ⟨by omega,d⟩)]
  .rw[q i hi,zE r]
 .right;refine⟨?_,yr (n:=l.length) (by omega) (λj b=> ?_) y⟩
  .rw[Bool.eq_false_iff];intro z;obtain⟨x,A,d⟩:=List.any_eq_true.1 z;obtain⟨i,hi,rfl⟩:=List.getElem_of_mem A;exact h ⟨i,hi,d⟩
  .rw[q j b,zF (λd=>h ⟨j,b,d⟩)]
def cf (k:Int):Bool×Bool×Bool×Bool:=if k=1∨k=2∨k=3 then(Za,Za,Za,Zb)else if k=4∨k=6 then(Za,Za,Zb,Zb)else if k=5 then(Za,Zb,Zb,Za)else if k=7 then(Zb,Zb,Zb,Za)else(Zb,Zb,Zb,Zb)
theorem ET (k:Int):k=1∨k=2∨k=3∨k=4∨k=5∨k=6∨k=7∨(¬k=1/\¬k=2/\¬k=3/\¬k=4/\¬k=5/\¬k=6/\¬k=7):=by omega
theorem PZ (k:Int):vH k=O (cf k):=by
 rcases ET k with rfl|rfl|rfl|rfl|rfl|rfl|rfl|⟨b,c,d,e,f,h,j⟩
 any_goals rfl
 simp[vH,cf,b,c,d,e,f,h,j]
theorem H9 (k:Int):qM k=O (cf k):=by
 rcases ET k with rfl|rfl|rfl|rfl|rfl|rfl|rfl|⟨b,c,d,e,f,j,o⟩
 any_goals rfl
 by_cases h:1<=k
 .simp[qM,cf,b,c,d,e,f,j,o,h,show¬k<=3 by omega,bz]
 .simp[qM,cf,b,c,d,e,f,j,o,h,bz]
def FM (n:Int)(q:Bool):Bool:=if q then Zc (0<=n/\n<=2147483647)else Zc (n=0)
theorem L4 (n:Int)(q:Bool):oh n q=O (FM n q):=by
 unfold oh FM;cases q
 .rfl
 .by_cases h:0<=n<;>simp[h]
def yz (o:bg):Bool:=Zc (0<=o.1/\o.1<8)&&(FM o.2.1 (cf o.1).1&&(FM o.2.2.1 (cf o.1).2.1&&(FM o.2.2.2.1 (cf o.1).2.2.1&&((cf o.1).2.2.2||Zc (o.2.2.2.2=0)))))
theorem Rx (o:bg):wG o.1 o.2.1 o.2.2.1 o.2.2.2.1 o.2.2.2.2=O (yz o):=by
 unfold wG Bn yz
 have j:(cond (Zc (0<=o.1)) (O (Zc (o.1<8))) (O Zb))=O (Zc (0<=o.1/\o.1<8)):=by
  by_cases h:0<=o.1<;>simp[h]
 rw[PZ,j];simp only[zG,L4];generalize Zc (0<=o.1/\o.1<8)=b;generalize FM o.2.1 (cf o.1).1=c;generalize FM o.2.2.1 (cf o.1).2.1=d;generalize FM o.2.2.2.1 (cf o.1).2.2.1=e;generalize (cf o.1).2.2.2=f;cases b<;>cases c<;>cases d<;>cases e<;>cases f<;>rfl
theorem TP (o:bg):yM o.1 o.2.1 o.2.2.1 o.2.2.2.1 o.2.2.2.2=O (yz o):=by
 unfold yM;simp only[ak];by_cases y:o.1<0
 .rw[zE y];unfold yz;rw[zA (show¬(0<=o.1/\o.1<8)by omega)];rfl
 rw[zF y];by_cases z:7<o.1
 .rw[zE z];unfold yz;rw[zA (show¬(0<=o.1/\o.1<8)by omega)];rfl
 rw[zF z,H9];simp only[zG]
 have c:=Bc (f:=ur o.2.1 o.2.2.1 o.2.2.2.1 (cf o.1)) (l:=[(o.2.1,(cf o.1).1),(o.2.2.1,(cf o.1).2.1),(o.2.2.2.1,(cf o.1).2.2.1)]) (λp=> !FM p.1 p.2) (λ_=> .inl Zb) (.inr ()) (by simp)
  (λi hi=>by
   unfold ur;have hi:i<3:=hi;rw[ak,Zg,bm (show i<3 from hi),bm (show i<4 by omega)];simp only[zG,ak]
   have A:iQ [o.2.1,o.2.2.1,o.2.2.2.1] i 0=([(o.2.1,(cf o.1).1),(o.2.2.1,(cf o.1).2.1),(o.2.2.2.1,(cf o.1).2.2.1)][i]).1:=by
    rcases(show i=0∨i=1∨i=2 by omega)with rfl|rfl|rfl<;>rfl
   have B:iQ [(cf o.1).1,(cf o.1).2.1,(cf o.1).2.2.1,(cf o.1).2.2.2] i Zb=([(o.2.1,(cf o.1).1),(o.2.2.1,(cf o.1).2.1),(o.2.2.2.1,(cf o.1).2.2.1)][i]).2:=by
    rcases(show i=0∨i=1∨i=2 by omega)with rfl|rfl|rfl<;>rfl
   rw[A,B,ae (n:=(i:Int)+1) (by omega),show(i:Int)+1=((i+1:Nat):Int)by omega];generalize [(o.2.1,(cf o.1).1),(o.2.2.1,(cf o.1).2.1),(o.2.2.2.1,(cf o.1).2.2.1)][i]=x;obtain⟨n,q⟩:=x;simp only[FM];by_cases r:n<0
   .rw[zE r,zE];cases q
    .simp;omega
    .simp;omega
   rw[zF r];by_cases s:2147483647<n
   .rw[zE s,zE];cases q
    .simp;omega
    .simp;omega
   rw[zF s];cases q with
   |true=>
    rw[zB (show 0<=n/\n<=2147483647 by omega)];rfl
   |false=>
    by_cases u:n=0
    .subst u;rfl
    .simp[u])
  (by
   unfold ur
   rw[ak,zF (by simp)])
 unfold yz;rw[zB (show 0<=o.1/\o.1<8 by omega)]
 have b:([(o.2.1,(cf o.1).1),(o.2.2.1,(cf o.1).2.1),(o.2.2.2.1,(cf o.1).2.2.1)].any λp=> !FM p.1 p.2)= !(FM o.2.1 (cf o.1).1&&(FM o.2.2.1 (cf o.1).2.1&&FM o.2.2.2.1 (cf o.1).2.2.1)):=by
  simp[List.any,Bool.not_and]
 rw[b]at c;generalize FM o.2.1 (cf o.1).1=d at*;generalize FM o.2.2.1 (cf o.1).2.1=e at*;generalize FM o.2.2.2.1 (cf o.1).2.2.1=j at*;rcases c with⟨h,_,k⟩|⟨h,k⟩
 .rw[k];cases d<;>cases e<;>cases j<;>first|rfl|cases h
 .rw[k]
  have:d=Za/\e=Za/\j=Za:=by
   cases d<;>cases e<;>cases j<;>first|exact⟨rfl,rfl,rfl⟩|cases h
  obtain⟨rfl,rfl,rfl⟩:=this;simp only[zG,bz];cases(cf o.1).2.2.2<;>rfl
theorem BN (b:Bool)(e:Int):jl b e=O (if b then e else 0):=by cases b<;>rfl
def DH (l:List bg):Bool:=Zc (bw l 0=O 0)&& !(l.any λo=> !yz o)
theorem EJ {R:Int}{l:List bg}(e:l.length<=4096):fp R l=O (if DH l then 0 else 6):=by
 unfold fp;obtain⟨m,d⟩:=ER (l:=l) (by omega);rw[d];simp only[zG,BN];rw[Ze,zD,ak];unfold DH;by_cases b:bw l 0=O 0
 .rw[zE b,zF (by simp),zB b];unfold jj lh
  rcases Bc (f:=fj l) (l:=l) (λo=> !yz o) (λi=> .inl (i:Int)) (.inr ()) (by omega) (λi hi=>by
   unfold fj;rw[ak,Zg,dn hi];simp only[zG];unfold rZ;rw[Rx,ae (n:=(i:Int)+1) (by omega)];simp only[zG]
   cases yz l[i]<;>rfl) (by
   unfold fj
   rw[ak,Zh])with⟨h,i,c⟩|⟨h,c⟩
  .rw[c,h];simp only[zG,bz];rw[Zf];rfl
  .rw[c,h];rfl
 .rw[zF b,zE (by simp),zA b];rfl
theorem VN {R:Int}{l:List bg}(c:l.length<=1500):AK R l=O (DH l):=by
 unfold AK DH;rw[Ze,zD,IC (by omega)];simp only[zG];cases Zc (bw l 0=O 0)with
 |false=>rfl
 |true=>
  rcases Bc (f:=vm l) (l:=l) (λo=> !yz o) (λi=> .inl Zb) (.inr ()) (by omega) (λi hi=>by
   unfold vm;rw[ak,Zg,dn hi];simp only[zG];rw[TP,ae (n:=(i:Int)+1) (by omega)];simp only[zG]
   cases yz l[i]<;>rfl) (by
   unfold vm
   rw[ak,Zh])with⟨h,i,b⟩|⟨h,b⟩
  .rw[b,h];rfl
  .rw[b,h];rfl
def Rv (R:Int)(o:bg):Bool:=((cf o.1).1&&Zc (R<=o.2.1))||((cf o.1).2.1&&Zc (R<=o.2.2.1))||((cf o.1).2.2.1&&Zc (R<=o.2.2.2.1))
def CG (R:Int)(l:List bg):Bool:=Zc (1<=R/\R<=64)&& !(l.any (Rv R))
theorem N8 (x y:Int):bv [x,y]=O [y,x]:=by kernel_rfl
theorem TV (x:Int):bv [x]=O [x]:=by kernel_rfl
theorem N7 :bv []=O []:=by kernel_rfl
theorem JA (o:bg):tP o.1 o.2.1 o.2.2.1 o.2.2.2.1 o.2.2.2.2=O (if(cf o.1).2.1 then(if(cf o.1).2.2.1 then [o.2.2.1,o.2.2.2.1]else [o.2.2.1])else []):=by
 obtain⟨k,d,a,b,v⟩:=o;simp only;rcases ET k with rfl|rfl|rfl|rfl|rfl|rfl|rfl|⟨c,e,f,h,p,j,q⟩
 .exact(show _=(bv [b,a]).bind _ from rfl).trans (by rw[N8];rfl)
 .exact(show _=(bv [b,a]).bind _ from rfl).trans (by rw[N8];rfl)
 .exact(show _=(bv [b,a]).bind _ from rfl).trans (by rw[N8];rfl)
 .exact(show _=(bv [a]).bind _ from rfl).trans (by rw[TV];rfl)
 .exact(show _=(bv []).bind _ from rfl).trans (by rw[N7];rfl)
 .exact(show _=(bv [a]).bind _ from rfl).trans (by rw[TV];rfl)
 .exact(show _=(bv []).bind _ from rfl).trans (by rw[N7];rfl)
 .unfold tP;simp only[zA c,zA e,zA f,zA h,zA j,zD,zG,bz,N7];simp[cf,c,e,f,h,p,j,q]
theorem Q3 (l:Zd)(R:Int)(p:List bg)(c:l.length<2000):ga l R p=O (l.any λn=>Zc (R<=n)):=by
 unfold ga qf
 rcases Bc (f:=jg l R p) (l:=l) (λn=>Zc (R<=n)) (λi=> .inl (i:Int)) (.inr ()) (by omega) (λi hi=>by
  unfold jg;rw[ak,Zg,dn hi];simp only[zG];unfold ni;rw[ae (n:=(i:Int)+1) (by omega)];simp only[zG]
  cases Zc (R<=l[i])<;>rfl) (by
  unfold jg
  rw[ak,Zh])with⟨h,i,b⟩|⟨h,b⟩
 .rw[b,h];simp only[zG,bz];rw[Zf]
 .rw[b,h];rfl
theorem TT (o:bg)(R:Int)(p:List bg):kj o.1 o.2.1 o.2.2.1 o.2.2.2.1 o.2.2.2.2 R p=O (Rv R o):=by
 unfold kj om;rw[JA,PZ];unfold Rv;simp only[zG];obtain⟨k,d,a,b,v⟩:=o;simp only
 have s:(cf k).2.2.1=Za->(cf k).2.1=Za:=by
  unfold cf;split
  .intro _;rfl
  split
  .intro _;rfl
  split
  .intro h;cases h
  split<;>intro h<;>cases h
 have u:(cf k).2.1=Za->(cf k).1=Za:=by
  unfold cf;split
  .intro _;rfl
  split
  .intro _;rfl
  split
  .intro h;cases h
  split<;>intro h<;>cases h
 generalize (cf k).1=f at*;generalize (cf k).2.1=j at*;generalize (cf k).2.2.1=q at*
 have c: ∀l:Zd,l.length<2000->∀r,(l.any λn=>Zc (R<=n))=r->((ga l R p).bind λe=>O e)=O r:=by
  intro l A r B;rw[Q3 l R p A,B];rfl
 cases f<;>cases j<;>cases q<;>first
  |(cases u rfl)
  |(cases s rfl)
  |skip
 .refine c [] (by simp) _ ?_;generalize Zc (R<=d)=x;generalize Zc (R<=a)=y;generalize Zc (R<=b)=z;cases x<;>cases y<;>cases z<;>rfl
 .refine c [d] (by simp) _ ?_;simp only[mB,mD];generalize Zc (R<=d)=x;generalize Zc (R<=a)=y;generalize Zc (R<=b)=z;cases x<;>cases y<;>cases z<;>rfl
 .refine c [a,d] (by simp) _ ?_;simp only[mB,mD];generalize Zc (R<=d)=x;generalize Zc (R<=a)=y;generalize Zc (R<=b)=z;cases x<;>cases y<;>cases z<;>rfl
 .refine c [a,b,d] (by simp) _ ?_;simp only[mB,mD];generalize Zc (R<=d)=x;generalize Zc (R<=a)=y;generalize Zc (R<=b)=z;cases x<;>cases y<;>cases z<;>rfl
theorem Ak {R:Int}{l:List bg}(e:l.length<=4096):gb R l=O (if CG R l then 0 else 7):=by
 unfold gb CG;simp only[BN,zG,ak];by_cases c:R<1
 .rw[zE c,zA (show¬(1<=R/\R<=64)by omega)];rfl
 rw[zF c];by_cases d:64<R
 .rw[zE d,zA (show¬(1<=R/\R<=64)by omega)];rfl
 rw[zF d,zB (show 1<=R/\R<=64 by omega)];unfold i5 jp
 rcases Bc (f:=eu l R l) (l:=l) (Rv R) (λi=> .inl (i:Int)) (.inr ()) (by omega) (λi hi=>by
  unfold eu;rw[ak,Zg,dn hi];simp only[zG];rw[TT,ae (n:=(i:Int)+1) (by omega)];simp only[zG]
  cases Rv R l[i]<;>rfl) (by
  unfold eu
  rw[ak,Zh])with⟨h,i,b⟩|⟨h,b⟩
 .rw[b,h];simp only[zG,bz];rw[Zf];rfl
 .rw[b,h];rfl
theorem L6 {R:Int}{l:List bg}(k:l.length<=1500):tE R l=O (CG R l):=by
 unfold tE CG;simp only[ak];by_cases c:R<1
 .rw[zE c,zA (show¬(1<=R/\R<=64)by omega)];rfl
 rw[zF c];by_cases d:64<R
 .rw[zE d,zA (show¬(1<=R/\R<=64)by omega)];rfl
 rw[zF d,zB (show 1<=R/\R<=64 by omega)]
 rcases Bc (f:=qO R l) (l:=l) (Rv R) (λi=> .inl Zb) (.inr ()) (by omega) (λi hi=>by
  unfold qO;rw[ak,Zg,dn hi];simp only[zG];rw[H9,ae (n:=(i:Int)+1) (by omega)];simp only[zG];unfold Rv;generalize l[i]=o;generalize Zc (R<=o.2.1)=x;generalize Zc (R<=o.2.2.1)=y;generalize Zc (R<=o.2.2.2.1)=z;generalize (cf o.1).1=e;generalize (cf o.1).2.1=j;generalize (cf o.1).2.2.1=b3
  cases e<;>cases j<;>cases b3<;>cases x<;>cases y<;>cases z<;>rfl) (by
  unfold qO
  rw[ak,Zh])with⟨h,i,b⟩|⟨h,b⟩
 .rw[b,h];rfl
 .rw[b,h];rfl
def hmax :List bg->Nat->Nat->Nat
 |[],_,m=>m
 |o::r,d,m=>if o.1=7 then hmax r (d+1) (max m (d+1))else if o.1=0 then hmax r (d-1) m else hmax r d m
def aJ7 (l:List bg)(s:Int×Bool×Int×Zd):Prop:=
 ∃(i m:Nat) (st:Zd),i<=l.length/\s=((i:Int),Za,(m:Int),st)/\st.length<=i/\m<=i/\bw (l.drop i) st.length=bw l 0/\hmax (l.drop i) st.length m=hmax l 0 0
theorem X1 {l:List bg}(A:l.length<=100000)(s:Int×Bool×Int×Zd)(h:aJ7 l s):
  (∃b,rB l s=O (.inl b)/\aJ7 l b/\l.length-b.1.toNat<l.length-s.1.toNat)∨∃c,rB l s=O (.inr c)/\((c.1=Zb/\bw l 0=Y)∨(c.1=Za/\bw l 0=O c.2.2.length/\c.2.1=(hmax l 0 0:Int))):=by
 obtain⟨i,m,st,hi,rfl,z,y,d,e⟩:=h;by_cases c:i<l.length
 .have j:l.drop i=l[i]::l.drop (i+1):=(iD c).symm;rw[j]at d e;simp only[rB];rw[zB (show(i:Int)<(l.length:Int)by omega),zC,dn c];simp only[zG];generalize B:l[i]=x at*;simp only[bw]at d;simp only[hmax]at e;by_cases r:x.1<0
  .rw[zE (.inl r)]at d;rw[zB r];simp only[zC,zG,qx];exact .inr ⟨_,rfl, .inl ⟨rfl,d.symm⟩⟩
  rw[zA r,zD];by_cases f:7<x.1
  .rw[zE (.inr f)]at d;rw[zB f];simp only[zC,zG,cv,qx];exact .inr ⟨_,rfl, .inl ⟨rfl,d.symm⟩⟩
  rw[zA f,zD];rw[Zh]at d;by_cases o:x.1=0
  .rw[zE o]at d;rw[Zh,zE o]at e;rw[zB o];simp only[zC,zG,cv];by_cases p:st.length=0
   .rw[zE p]at d;rw[zB (show(st.length:Int)=0 by omega)];simp only[zC,zG,qx];exact .inr ⟨_,rfl, .inl ⟨rfl,d.symm⟩⟩
   .rw[zF p]at d;rw[zA (show¬(st.length:Int)=0 by omega),zD];rw[ae (n:=(st.length:Int)-1) (by omega),Zk,dh];simp only[zG,cv];rw[zA (show¬x.1=7 by omega)];simp only[zD];rw[ae (n:=(i:Int)+1) (by omega)]
    have k:(st.take (((st.length:Int)-1).toNat-0)).length=st.length-1:=by
     rw[nD];omega
    refine .inl ⟨_,rfl,⟨i+1,m,_,c,rfl,by rw[k];omega,by omega,by rw[k];exact d,by rw[k];exact e⟩,by simp;omega⟩
  .rw[zF o]at d;have u:Zc (x.1=0)=Zb:=zA o;rw[u];simp only[zD,zG,cv];by_cases f:x.1=7
   .rw[zE f]at d e;rw[zB f];simp only[zC];rw[de (by omega) (by omega),ae (n:=(i:Int)+1) (by omega),ae (n:=(st.length:Int)+1) (by omega)];refine .inl ⟨_,rfl,⟨i+1,max m (st.length+1),st++[(i:Int)],c, ?_,by simp;omega,by omega,by rw[eD];exact d,by rw[eD];exact e⟩,by simp;omega⟩;rw[show((max m (st.length+1):Nat):Int)=max (m:Int) ((st.length:Int)+1)by omega];rfl
   .rw[zF f]at d e;rw[zF o]at e;rw[zA f];simp only[zD];rw[ae (n:=(i:Int)+1) (by omega)];exact .inl ⟨_,rfl,⟨i+1,m,st,c,rfl,by omega,by omega,d,e⟩,by simp;omega⟩
 .have q:i=l.length:=by omega
  subst q;rw[iH]at d e;simp only[rB];rw[zA (show¬(l.length:Int)<(l.length:Int)by omega),zD];have e:m=hmax l 0 0:=e;exact .inr ⟨_,rfl, .inr ⟨rfl,d.symm,by rw[<-e]⟩⟩
def H5 (l:List bg):Int×Int:=if bw l 0=O 0 then((hmax l 0 0:Int),0)else(0,6)
theorem Yq {l:List bg}(p:l.length<=100000):Cm l=O (H5 l):=by
 unfold Cm H5
 obtain⟨c,o,h⟩:=xD (f:=rB l) (a:=((0:Int),Za,(0:Int),([]:Zd))) (aJ7 l) (λs=>l.length-s.1.toNat) (λc=>(c.1=Zb/\bw l 0=Y)∨(c.1=Za/\bw l 0=O c.2.2.length/\c.2.1=(hmax l 0 0:Int)))
  ⟨0,0,[],iE _,rfl,aB _,aB _,rfl,rfl⟩ (by simp;omega) (λs q=>X1 p s q)
 rw[o];simp only[zG];rcases h with⟨b,d⟩|⟨b,d,k⟩
 .rw[b,d];rfl
 .rw[b,d,zC];by_cases j:c.2.2.length=0
  .rw[zB (show(c.2.2.length:Int)=0 by omega),zE (by rw[j]),k];rfl
  .rw[zA (show¬(c.2.2.length:Int)=0 by omega),zF (by intro e;injection e with e;exact j e)];rfl
def IP (l:List bg)(i:Nat):Nat:=(bw (l.take i) 0).getD 0
theorem SO {l:List bg}(c:bw l 0=O 0)(hi:i<=l.length):bw (l.take i) 0=O (IP l i):=by
 obtain⟨d,b,_⟩:=MZ c hi;unfold IP;rw[b];rfl
theorem Nj {l:List bg}(e:bw l 0=O 0)(hi:i<l.length):(l[i].1=7/\IP l (i+1)=IP l i+1)∨(l[i].1=0/\0<IP l i/\IP l (i+1)=IP l i-1)∨(l[i].1≠7/\l[i].1≠0/\IP l (i+1)=IP l i):=by
 have b:=SO e (i:=i+1) (by omega);rw[pB hi,vg,SO e (by omega)]at b;have b:bw [l[i]] (IP l i)=O (IP l (i+1)):=b;simp only[bw]at b;split at b
 .cases b
 split at b
 .rename_i f c;split at b
  .cases b
  .injection b with b
   exact .inr (.inl ⟨c,by omega,b.symm⟩)
 rename_i f c;split at b
 .rename_i d;injection b with b
  exact .inl ⟨d,b.symm⟩
 .rename_i d;injection b with b
  exact .inr (.inr ⟨d,c,b.symm⟩)
theorem ad9 {l:List bg}(c:bw l 0=O 0): ∀i,i<=l.length->IP l i<=i
 |0,_=>aB _
 |i+1,h=>by
  have:=ad9 c i (by omega);rcases Nj c (i:=i) (by omega)with⟨_,b⟩|⟨_,_,b⟩|⟨_,_,b⟩<;>omega
theorem RC {l:List bg}(k:l.length<=100000)(h:bw l 0=O 0){n:Nat}(o:n<=l.length):wJ l (n:Int)=O (IP l n:Int):=by
 unfold wJ;have e:aw (qN l (n:Int)) gv (0,((IP l 0:Nat):Int))=O ((IP l n:Nat):Int):=pi (n:=n) (λi=>((IP l i:Nat):Int)) (c:=((IP l n:Nat):Int)) (by omega) (λi hi=> ?_) ?_
 .show((aw (qN l (n:Int)) gv (0,((IP l 0:Nat):Int))).bind _)=_;rw[e];rfl
 .unfold qN;simp only[ak];rw[Zg,dn (show i<l.length by omega)];simp only[zG];have j:=ad9 h i (by omega);rw[ae (n:=(i:Int)+1) (by omega)];rcases Nj h (i:=i) (by omega)with⟨b,d⟩|⟨b,f,d⟩|⟨b,f,d⟩
  .rw[zE b,Zh,ae (n:=((IP l i:Nat):Int)+1) (by omega),d];rfl
  .rw[Zh,zE b,ae (n:=((IP l i:Nat):Int)-1) (by omega),d,show((IP l i-1:Nat):Int)=(IP l i:Int)-1 by omega];rfl
  .rw[zF b,zF f,d];rfl
 .unfold qN;simp only[ak];rw[Zh]
def DB (l:List bg):Nat->Nat
 |0=>0
 |i+1=>max (DB l i) (IP l i)
theorem PD {l:List bg}(j:bw l 0=O 0): ∀k i,i+k=l.length->hmax (l.drop i) (IP l i) (DB l (i+1))=DB l (l.length+1)
 |0,i,h=>by
  have:i=l.length:=by omega
  subst this;rw[iH];rfl
 |k+1,i,h=>by
  rw[(iD (show i<l.length by omega)).symm];simp only[hmax];have d:=PD j k (i+1) (by omega);have e:DB l (i+1+1)=max (DB l (i+1)) (IP l (i+1)):=rfl;have o:DB l (i+1)=max (DB l i) (IP l i):=rfl;rcases Nj j (i:=i) (by omega)with⟨b,c⟩|⟨b,f,c⟩|⟨b,f,c⟩
  .rw[zE b,<-c,<-e];exact d
  .rw[Zh,zE b,<-c,show DB l (i+1)=DB l (i+1+1)by rw[e];omega];exact d
  .rw[zF b,zF f];rw[c,show DB l (i+1+1)=DB l (i+1)by rw[e];omega]at d;exact d
theorem VK {l:List bg}(e:l.length<=100000):AI l=O (H5 l):=by
 unfold AI H5;rw[IC e];simp only[zG];by_cases b:bw l 0=O 0
 .rw[zB b,zE b];simp only[iK,zD];have d:aw (sV l) gv (0,((DB l 0:Nat):Int))=O ((DB l (l.length+1):Nat):Int):=pi (n:=l.length+1) (λi=>((DB l i:Nat):Int)) (c:=((DB l (l.length+1):Nat):Int)) (by omega) (λi hi=> ?_) ?_
  .show((aw (sV l) gv (0,((DB l 0:Nat):Int))).bind _)=_;rw[d];have h:=PD b l.length 0 (by omega);have f:IP l 0=0:=rfl;have j:DB l (0+1)=0:=rfl;rw[f,j,List.drop_zero]at h;rw[h];rfl
  .unfold sV;simp only[ak];rw[Zg,RC e b (by omega)];simp only[zG];rw[ae (n:=(i:Int)+1) (by omega)];show _=O (Sum.inl (((i+1:Nat):Int),((max (DB l i) (IP l i):Nat):Int)));rw[show((max (DB l i) (IP l i):Nat):Int)=max (DB l i:Int) (IP l i:Int)by omega];rfl
  .unfold sV;simp only[ak];rw[Zh]
 .rw[zA b,zF b];rfl
structure OpsOk (l:List bg):Prop where
 len:l.length<=4096
 v: ∀o∈l,0<=o.2.2.2.2/\o.2.2.2.2<=18446744073709551615
def Ls (l:List bg):Int:=if DH l then 0 else 6
def J1 (R:Int)(l:List bg):Int:=if CG R l then 0 else 7
def J2 (l:List bg):Int:=if 8<(H5 l).1 then 8 else 0
def LX (l:List bg):Int:=(db l).2
def yx (R:Int)(l:List bg):Int:=if Ls l≠0 then Ls l else if J1 R l≠0 then J1 R l else if J2 l≠0 then J2 l else LX l
def sP (R:Int)(l:List bg)(Q:Int)(k:List bg):Int:=if Ls l≠0 then Ls l else if Ls k≠0 then Ls k else if J1 R l≠0 then J1 R l else if J1 Q k≠0 then J1 Q k else if J2 l≠0 then J2 l else if J2 k≠0 then J2 k else if LX l≠0 then LX l else LX k
theorem Gm {R:Int}{l:List bg}(h:OpsOk l):jh R l=O (J2 l):=by
 unfold jh J2;have:=h.len;rw[Yq (by omega)];simp only[zG,BN];by_cases c:8<(H5 l).1<;>simp[c]
theorem EK {R:Int}{l:List bg}(h:OpsOk l):iq R l=O (LX l):=by
 unfold iq LX;have:=h.len;rw[zR (by omega) h.v];rfl
theorem H1 {R:Int}{l:List bg}(h:OpsOk l):sT R l=O (yx R l):=by
 unfold sT yx;rw[EJ h.len,Ak h.len,Gm h,EK h];simp only[zG,ak];show(if Ls l≠0 then O (Ls l)else if J1 R l≠0 then O (J1 R l)else if J2 l≠0 then O (J2 l)else if LX l≠0 then O (LX l)else O 0)=_;split
 .rfl
 split
 .rfl
 split
 .rfl
 split
 .rfl
 .rename_i h;rw[show LX l=0 by omega]
theorem U4 {R Q:Int}{l k:List bg}(h:OpsOk l)(b:OpsOk k):uq R l Q k=O (sP R l Q k):=by
 unfold uq sP;rw[EJ h.len,Ak h.len,Gm h,EK h,EJ b.len,Ak b.len,Gm b,EK b];simp only[zG,ak];show(if Ls l≠0 then O (Ls l)else if Ls k≠0 then O (Ls k)else if J1 R l≠0 then O (J1 R l)else if J1 Q k≠0 then O (J1 Q k)else if J2 l≠0 then O (J2 l)else if J2 k≠0 then O (J2 k)else if LX l≠0 then O (LX l)else if LX k≠0 then O (LX k)else O 0)=_;split
 .rfl
 split
 .rfl
 split
 .rfl
 split
 .rfl
 split
 .rfl
 split
 .rfl
 split
 .rfl
 split
 .rfl
 .rename_i h;rw[show LX k=0 by omega]
def WR (R:Int)(l:List bg)(n:Nat):Int:=if n=0 then Ls l else if n=1 then J1 R l else if n=2 then J2 l else LX l
theorem N4 {R:Int}{l:List bg}(h:OpsOk l)(b:l.length<=1500)(n:Nat):wK R l (n:Int)=O (WR R l n):=by
 unfold wK WR;have:=h.len;simp only[ak];by_cases c:n=0
 .rw[Zg,zE c,VN b];unfold Ls;simp only[zG];cases DH l<;>rfl
 rw[Zh,zF c];by_cases d:n=1
 .rw[Zg,zE d,L6 b];unfold J1;simp only[zG];cases CG R l<;>rfl
 rw[Zh,zF d];by_cases e:n=2
 .rw[Zg,zE e,VK (by omega)];unfold J2;simp only[zG];split<;>rfl
 rw[Zh,zF e,EX b h.v];rfl
theorem VM {R Q:Int}{l k:List bg}(h:OpsOk l)(q:OpsOk k)(e:l.length<=1500)(f:k.length<=1500):AJ R l Q k=O (sP R l Q k):=by
 have b: ∀n:Nat,n<4->qH R l Q k (n:Int)=O (if WR R l n≠0 then .inr (.inl (WR R l n))else if WR Q k n≠0 then .inr (.inl (WR Q k n))else .inl ((n+1:Nat):Int)):=by
  intro n s;unfold qH;simp only[ak];rw[Zg,N4 h e,N4 q f];simp only[zG];rw[ae (n:=(n:Int)+1) (by omega)];split
  .rfl
  split<;>rfl
 have c:qH R l Q k 4=O (.inr (.inr ())):=rfl;unfold AJ sP
 have j:aw (qH R l Q k) gv 0=O (if Ls l≠0 then .inl (Ls l)else if Ls k≠0 then .inl (Ls k)else if J1 R l≠0 then .inl (J1 R l)else if J1 Q k≠0 then .inl (J1 Q k)else if J2 l≠0 then .inl (J2 l)else if J2 k≠0 then .inl (J2 k)else if LX l≠0 then .inl (LX l)else if LX k≠0 then .inl (LX k)else .inr ()):=by
  have r:gv=18446744073709551611+1+1+1+1+1:=rfl;rw[r,da];have d:=b 0 (by omega);have e:=b 1 (by omega);have o:=b 2 (by omega);have p:=b 3 (by omega);rw[show WR R l 0=Ls l from rfl,show WR Q k 0=Ls k from rfl]at d;rw[show WR R l 1=J1 R l from rfl,show WR Q k 1=J1 Q k from rfl]at e;rw[show WR R l 2=J2 l from rfl,show WR Q k 2=J2 k from rfl]at o;rw[show WR R l 3=LX l from rfl,show WR Q k 3=LX k from rfl]at p;have d:qH R l Q k 0=_:=d;rw[d];simp only[zG];split
  .rfl
  split
  .rfl
  simp only[bz];rw[da,e];simp only[zG];split
  .rfl
  split
  .rfl
  simp only[bz];rw[da,o];simp only[zG];split
  .rfl
  split
  .rfl
  simp only[bz];rw[da,p];simp only[zG];split
  .rfl
  split
  .rfl
  simp only[bz];rw[da,show(((3+1:Nat):Int))=4 from rfl,c];rfl
 rw[j];simp only[zG];split
 .rfl
 split
 .rfl
 split
 .rfl
 split
 .rfl
 split
 .rfl
 split
 .rfl
 split
 .rfl
 split
 .rfl
 .rename_i h;rw[show LX k=0 by omega];rfl
theorem av1 (a0:Int)(a1:List bg)(a2:Int)(a3:List bg)(a4 a5:Int): ∃d,wp a0 a1 a2 a3 a4 a5=O d/\uu a0 a1 a2 a3 a4 a5=O d:=by
 unfold wp uu;simp only[BN,zG,ak];by_cases b:a4<1
 .rw[zE b,zE b];exact⟨_,rfl,rfl⟩
 rw[zF b,zF b];by_cases c:64<a4
 .rw[zE c,zE c];exact⟨_,rfl,rfl⟩
 rw[zF c,zF c];by_cases e:a5<0
 .rw[zE e,zE e];exact⟨_,rfl,rfl⟩
 rw[zF e,zF e];by_cases f:64<a5
 .rw[zE f];simp only[zG];rw[ak,zE f];exact⟨_,rfl,rfl⟩
 rw[zF f];simp only[zG];rw[ak,zF f];by_cases h:a0<IntKind.i64.wrap (zH zI (a4+a5)+1)
 .rw[zE h,zE h];exact⟨_,rfl,rfl⟩
 rw[zF h,zF h];by_cases j:a2<IntKind.i64.wrap (a4+a5)
 .rw[zE j,zB j];exact⟨_,rfl,rfl⟩
 .rw[zF j,zA j];exact⟨_,rfl,rfl⟩
def Cz (s l x t:Int):Int:=if x<1 then 10 else if 64<x then 10 else if t<0 then 10 else if 64<t then 10 else if s<IntKind.i64.wrap (zH zI (x+t)+1)then 10 else if l<IntKind.i64.wrap (x+t)then 10 else 0
theorem N3 (a0:Int)(a1:List bg)(a2:Int)(a3:List bg)(a4 a5:Int):uu a0 a1 a2 a3 a4 a5=O (Cz a0 a2 a4 a5):=by
 unfold uu Cz;simp only[ak];split
 .rfl
 split
 .rfl
 split
 .rfl
 split
 .rfl
 split
 .rfl
 split<;>rfl
theorem U3 (a0:Int)(a1:List bg)(a2:Int)(a3:List bg)(a4 a5:Int):wp a0 a1 a2 a3 a4 a5=O (Cz a0 a2 a4 a5):=by
 obtain⟨d,b,c⟩:=av1 a0 a1 a2 a3 a4 a5;rw[b,<-c,N3]
def hk0 (m:Int):Int:=if m<1 then 5 else if 3<m then 5 else 0
def hk3 (m n:Int):Int:=if n<0 then 11 else if(if m=2 then 0 else 65535)<n then 11 else 0
def hk4 (b:Int):Int:=if b<0 then 12 else if 1048576<b then 12 else 0
def Cf (m:Int)(x t:Nat)(R:Int)(l:List bg)(Q:Int)(k:List bg)(n b:Int):Int:=if hk0 m≠0 then hk0 m else if sP R l Q k≠0 then sP R l Q k else if Cz R Q x t≠0 then Cz R Q x t else if hk3 m n≠0 then hk3 m n else hk4 b
theorem Gx (b:Bool)(e:Int):pU b e=O (if b then e else 0):=by cases b<;>rfl
section
variable {a0:Int} {a1 a2:Zd} {a3:Int} {a4:List bg} {a5:Int} {a6:List bg} {a7 a8:Int}
theorem af1 :kc a0 a1 a2 a3 a4 a5 a6 a7 a8=O (hk0 a0):=by
 unfold kc hk0;simp only[Gx,zG,ak];split
 .rfl
 .by_cases c:3<a0<;>simp[c]
theorem Vi (b:OpsOk a4)(c:OpsOk a6):ej a0 a1 a2 a3 a4 a5 a6 a7 a8=O (sP a3 a4 a5 a6):=by
 unfold ej;rw[U4 b c];rfl
theorem aM8 :nu a0 a1 a2 a3 a4 a5 a6 a7 a8=O (Cz a3 a5 (a1.length:Nat) (a2.length:Nat)):=by
 unfold nu;rw[U3];rfl
theorem af0 :lf a0 a1 a2 a3 a4 a5 a6 a7 a8=O (hk3 a0 a7):=by
 unfold lf hk3;simp only[Gx,zG,ak];by_cases b:a0=2
 .rw[zE b,zE b];simp only[zG];split
  .rfl
  .by_cases c:0<a7<;>simp[c]
 .rw[zF b,zF b];simp only[zG];split
  .rfl
  .by_cases c:65535<a7<;>simp[c]
theorem ae9 :ld a0 a1 a2 a3 a4 a5 a6 a7 a8=O (hk4 a8):=by
 unfold ld hk4;simp only[Gx,zG,ak];split
 .rfl
 .by_cases c:1048576<a8<;>simp[c]
theorem Jm (j:OpsOk a4)(o:OpsOk a6):qd a0 a1 a2 a3 a4 a5 a6 a7 a8=O (Cf a0 a1.length a2.length a3 a4 a5 a6 a7 a8):=by
 have c:gz a0 a1 a2 a3 a4 a5 a6 a7 a8 0=O (if hk0 a0≠0 then .inr (.inl (hk0 a0))else .inl 1):=by
  show((kc a0 a1 a2 a3 a4 a5 a6 a7 a8).bind λr=>cond (Zc (r≠0)) _ _)=_;rw[af1];simp only[zG,ak];split<;>rfl
 have d:gz a0 a1 a2 a3 a4 a5 a6 a7 a8 1=O (if sP a3 a4 a5 a6≠0 then .inr (.inl (sP a3 a4 a5 a6))else .inl 2):=by
  show((ej a0 a1 a2 a3 a4 a5 a6 a7 a8).bind λr=>cond (Zc (r≠0)) _ _)=_;rw[Vi j o];simp only[zG,ak];split<;>rfl
 have e:gz a0 a1 a2 a3 a4 a5 a6 a7 a8 2=O (if Cz a3 a5 (a1.length:Nat) (a2.length:Nat)≠0 then .inr (.inl (Cz a3 a5 (a1.length:Nat) (a2.length:Nat)))else .inl 3):=by
  show((nu a0 a1 a2 a3 a4 a5 a6 a7 a8).bind λr=>cond (Zc (r≠0)) _ _)=_;rw[aM8];simp only[zG,ak];split<;>rfl
 have f:gz a0 a1 a2 a3 a4 a5 a6 a7 a8 3=O (if hk3 a0 a7≠0 then .inr (.inl (hk3 a0 a7))else .inl 4):=by
  show((lf a0 a1 a2 a3 a4 a5 a6 a7 a8).bind λr=>cond (Zc (r≠0)) _ _)=_;rw[af0];simp only[zG,ak];split<;>rfl
 have k:gz a0 a1 a2 a3 a4 a5 a6 a7 a8 4=O (if hk4 a8≠0 then .inr (.inl (hk4 a8))else .inl 5):=by
  show((ld a0 a1 a2 a3 a4 a5 a6 a7 a8).bind λr=>cond (Zc (r≠0)) _ _)=_;rw[ae9];simp only[zG,ak];split<;>rfl
 have b:gz a0 a1 a2 a3 a4 a5 a6 a7 a8 5=O (.inr (.inr ())):=rfl;unfold qd Cf;have p:gv=18446744073709551610+1+1+1+1+1+1:=rfl;rw[p,da,c];simp only[zG];split
 .rfl
 simp only[bz];rw[da,d];simp only[zG];split
 .rfl
 simp only[bz];rw[da,e];simp only[zG];split
 .rfl
 simp only[bz];rw[da,f];simp only[zG];split
 .rfl
 simp only[bz];rw[da,k];simp only[zG];split
 .rfl
 .rename_i h;simp only[bz];rw[da,b];rw[show hk4 a8=0 by omega];rfl
theorem TR (q:OpsOk a4)(r:OpsOk a6)(o:a4.length<=1500)(p:a6.length<=1500):yO a0 a1 a2 a3 a4 a5 a6 a7 a8=O (Cf a0 a1.length a2.length a3 a4 a5 a6 a7 a8):=by
 unfold yO Cf;rw[VM q r o p,N3];simp only[zG,ak];unfold hk0;by_cases c:a0<1
 .rw[zE c,zE c];rfl
 rw[zF c,zF c];by_cases d:3<a0
 .rw[zE d,zE d];rfl
 rw[zF d,zF d];rw[zF (show¬(0:Int)≠0 by simp)];by_cases e:sP a3 a4 a5 a6≠0
 .rw[zE e,zE e]
 rw[zF e,zF e];by_cases f:Cz a3 a5 (a1.length:Nat) (a2.length:Nat)≠0
 .rw[zE f,zE f]
 rw[zF f,zF f];unfold hk3 hk4;by_cases h:a7<0
 .rw[zE h,zE h];rfl
 rw[zF h,zF h];by_cases j:a0=2
 .rw[zE j,zE j];by_cases k:0<a7
  .rw[zE k,zE (show(11:Int)≠0 by simp)];by_cases b:65535<a7
   .rw[zE b]
   .rw[zF b,Zg]
  .rw[zF k,zF (show¬(0:Int)≠0 by simp),zF (show¬65535<a7 by omega),zF (show¬a7≠0 by omega)];split
   .rfl
   .split<;>rfl
 .rw[zF j,zF j];by_cases b:65535<a7
  .rw[zE b,zE b];rfl
  .rw[zF b,zF b,zF (show¬(0:Int)≠0 by simp)];split
   .rfl
   .split<;>rfl
structure HFacts (a0:Int)(x t:Nat)(a3:Int)(a4:List bg)(a5:Int)(a6:List bg)(a7 a8:Int):Prop where
 mode:1<=a0/\a0<=3
 regs:1<=a3/\a3<=64
 regs':1<=a5/\a5<=64
 xs:1<=x/\x<=64
 ts:t<=64
 w:0<=(db a4).1/\(db a4).1<=65536
 w':0<=(db a6).1/\(db a6).1<=65536
 len:0<=a7/\a7<=65535
 bud:0<=a8/\a8<=1048576
theorem Ti {R:Int}{l:List bg}(h:J1 R l=0):1<=R/\R<=64:=by
 unfold J1 at h;split at h
 .rename_i b;unfold CG at b;rw[Bool.and_eq_true]at b;exact of_decide_eq_true b.1
 .cases h
theorem Ow {l:List bg}(h:OpsOk l):0<=(db l).1/\(db l).1<=65536:=by
 unfold db;split
 .rename_i d;split
  .rename_i w c;have:=K7 (λo b=>(h.v o b).1) d c;split
   .simp
   .simp;omega
  .simp
 .simp
theorem YB {R Q:Int}{l k:List bg}(h:sP R l Q k=0):(1<=R/\R<=64)/\(1<=Q/\Q<=64):=by
 unfold sP at h;split at h
 .rename_i c;exact(c h).elim
 split at h
 .rename_i c;exact(c h).elim
 split at h
 .rename_i c;exact(c h).elim
 split at h
 .rename_i c;exact(c h).elim
 rename_i b d;exact⟨Ti (l:=l) (by omega),Ti (l:=k) (by omega)⟩
theorem KA (j:OpsOk a4)(k:OpsOk a6)(h:Cf a0 x t a3 a4 a5 a6 a7 a8=0):HFacts a0 x t a3 a4 a5 a6 a7 a8:=by
 unfold Cf at h;split at h
 .rename_i c;exact(c h).elim
 split at h
 .rename_i c;exact(c h).elim
 split at h
 .rename_i c;exact(c h).elim
 split at h
 .rename_i c;exact(c h).elim
 rename_i e q b d;obtain⟨o,p⟩:=YB (show sP a3 a4 a5 a6=0 by omega);have e:hk0 a0=0:=by omega
 have b:Cz a3 a5 x t=0:=by omega
 have d:hk3 a0 a7=0:=by omega
 unfold hk0 at e;unfold hk3 at d;unfold hk4 at h;unfold Cz at b;refine⟨?_,o,p, ?_, ?_,Ow j,Ow k, ?_, ?_⟩
 .split at e
  .omega
  split at e<;>omega
 .split at b
  .omega
  split at b<;>omega
 .split at b
  .omega
  split at b
  .omega
  split at b
  .omega
  split at b<;>omega
 .split at d
  .omega
  by_cases f:a0=2
  .rw[zE f]at d;split at d<;>omega
  .rw[zF f]at d;split at d<;>omega
 .split at h
  .omega
  split at h<;>omega
def tK (a0:Int)(a4 a6:List bg):Int:=if a0=3 then(db a6).1 else(db a4).1+(db a6).1
def rY (a0:Int)(x:Nat)(a3:Int)(a4:List bg):Int:=if a0=3 then(db a4).1+a3 else x+1
def xM (x t:Nat)(a3 a5:Int):Int:=2*t+2*x+a3+a5+max a3 a5
theorem Xa (b:OpsOk a4)(c:OpsOk a6):mt a0 a1 a2 a3 a4 a5 a6 a7 a8=O (if Cf a0 a1.length a2.length a3 a4 a5 a6 a7 a8≠0 then(0,0)else((db a4).1,(db a6).1)):=by
 unfold mt;have:=b.len;have:=c.len;rw[Jm b c,zR (by omega) b.v,zR (by omega) c.v];simp only[zG,ak];split<;>rfl
theorem an1 (b:OpsOk a4)(c:OpsOk a6)(d:a4.length<=1500)(e:a6.length<=1500):D6 a0 a1 a2 a3 a4 a5 a6 a7 a8=O (if Cf a0 a1.length a2.length a3 a4 a5 a6 a7 a8≠0 then(0,0)else((db a4).1,(db a6).1)):=by
 unfold D6;have:=b.len;have:=c.len;rw[TR b c d e,EX d b.v,EX e c.v];simp only[zG,ak];split<;>rfl
theorem NW (b:OpsOk a4)(d:OpsOk a6)(h:Cf a0 a1.length a2.length a3 a4 a5 a6 a7 a8=0):wI a0 a1 a2 a3 a4 a5 a6 a7 a8=O (((a2.length:Nat):Int),((a1.length:Nat):Int),a3,a5,max a3 a5,((a1.length:Nat):Int),((a2.length:Nat):Int),tK a0 a4 a6,rY a0 a1.length a3 a4):=by
 have f:=KA b d h;have e:=f.mode;have j:=f.regs;have k:=f.xs;have o:=f.w;have p:=f.w';unfold wI tK rY;rw[Xa b d,zF (λc=>c h)];simp only[zG,ak];rw[ae (n:=(db a4).1+a3) (by omega),ae (n:=(db a4).1+(db a6).1) (by omega),ae (n:=(a1.length:Int)+1) (by omega)];split
 .rfl
 .rfl
def pre (L:Zd):Nat->Int
 |0=>0
 |i+1=>pre L i+L.getD i 0
theorem VH {L:Zd}(b: ∀j,0<=L.getD j 0/\L.getD j 0<=1000000000000): ∀i,0<=pre L i/\pre L i<=1000000000000*i
 |0=>⟨iM _,iM _⟩
 |i+1=>by
  have:=VH b i;have:=b i;simp only[pre];omega
theorem TI {b0 b1 b2 b3 c d f h b n:Int}(o: ∀j,0<=([b0,b1,b2,b3,c,d,f,h,b*n]:Zd).getD j 0/\([b0,b1,b2,b3,c,d,f,h,b*n]:Zd).getD j 0<=1000000000000):Bo b0 b1 b2 b3 c d f h b n=O ((iF 10).map (pre [b0,b1,b2,b3,c,d,f,h,b*n])):=by
 generalize q:([b0,b1,b2,b3,c,d,f,h,b*n]:Zd)=L at*;have r:=VH o
 have k:aw (uW b0 b1 b2 b3 c d f h b) gv (0,(pre L 0,(iF 0).map (pre L)))=O (pre L 8,(iF 8).map (pre L)):=by
  refine pi (n:=8) (λi=>(pre L i,(iF i).map (pre L))) (by omega) (λi hi=> ?_) ?_
  .unfold uW;rw[ak,Zg,bm (show i<9 by omega)];simp only[zG]
   have e:iQ [b0,b1,b2,b3,c,d,f,h,b] i 0=L.getD i 0:=by
    subst q;rcases(show i=0∨i=1∨i=2∨i=3∨i=4∨i=5∨i=6∨i=7 by omega)with rfl|rfl|rfl|rfl|rfl|rfl|rfl|rfl<;>rfl
   have s:=r i;have p:=o i;rw[e];rw[de (by simp;omega) (by omega),ae (n:=pre L i+L.getD i 0) (by omega),ae (n:=(i:Int)+1) (by omega),oD,iT];rfl
  .unfold uW;rw[ak,Zh]
 unfold Bo;have k:aw (uW b0 b1 b2 b3 c d f h b) gv ((0,0,[]))=_:=k;rw[k];have s:=r 8;have p:=o 8;have e:L.getD 8 0=b*n:=by subst q;rfl
 rw[e]at p;simp only[zG];rw[de (by simp) (by omega),de (by simp) (by omega),ae (n:=b*n) (by omega),ae (n:=pre L 8+b*n) (by omega)];show _=O ((iF (8+1+1)).map (pre L));rw[oD (n:=8+1),oD (n:=8),iT,iT];show _=O (((iF 8).map (pre L)++[pre L 8])++[pre L 8+L.getD 8 0]);rw[e]
theorem YF {b0 b1 b2 b3 b c d e f n:Int}(h: ∀j,0<=([b0,b1,b2,b3,b,c,d,e,f*n]:Zd).getD j 0/\([b0,b1,b2,b3,b,c,d,e,f*n]:Zd).getD j 0<=1000000000000):zc b0 b1 b2 b3 b c d e f n=O (b0+b1+b2+b3+b+c+d+e+f*n):=by
 unfold zc;rw[TI h];show O (0+b0+b1+b2+b3+b+c+d+e+f*n)=_;rw[fB]
theorem bj1 {b0 b1 b2 b3 b c d e f:Int}{p:Int->Prop}(h:p b0)(k:p b1)(o:p b2)(q:p b3)(r:p b)(s:p c)(u:p d)(y:p e)(z:p f)(A:p 0): ∀j,p (([b0,b1,b2,b3,b,c,d,e,f]:Zd).getD j 0)
 |0=>h
 |1=>k
 |2=>o
 |3=>q
 |4=>r
 |5=>s
 |6=>u
 |7=>y
 |8=>z
 |j+9=>by
  show p ((([]:Zd)).getD j 0);rw[List.getD_nil];exact A
theorem ah9 {s n:Int}(c:0<=s/\s<=100000)(b:0<=n/\n<=1048576):0<=s*n/\s*n<=1000000000000:=by
 have d:=iG c.1 b.1;have e:=Int.mul_le_mul c.2 b.2 b.1 (by omega);omega
structure SFacts (x t:Nat)(a3 a5 tp sl:Int):Prop where
 xs:1<=x/\x<=64
 ts:t<=64
 r:1<=a3/\a3<=64
 r':1<=a5/\a5<=64
 tp:0<=tp/\tp<=131072
 sl:1<=sl/\sl<=100000
theorem RL (b:OpsOk a4)(c:OpsOk a6)(h:Cf a0 x t a3 a4 a5 a6 a7 a8=0):SFacts x t a3 a5 (tK a0 a4 a6) (rY a0 x a3 a4):=by
 have f:=KA b c h;have d:=f.mode;have e:=f.regs;have j:=f.xs;have k:=f.w;have o:=f.w';refine⟨f.xs,f.ts,f.regs,f.regs', ?_, ?_⟩
 .unfold tK;split<;>omega
 .unfold rY;split<;>omega
theorem VQ {tp sl n:Int}(s:SFacts x t a3 a5 tp sl)(b:0<=n/\n<=1048576): ∀j,0<=([(t:Int),x,a3,a5,max a3 a5,x,t,tp,sl*n]:Zd).getD j 0/\([(t:Int),x,a3,a5,max a3 a5,x,t,tp,sl*n]:Zd).getD j 0<=1000000000000:=by
 have c:=s.xs;have d:=s.ts;have e:=s.r;have f:=s.r';have h:=s.tp;have k:=s.sl;exact bj1 (p:=λy=>0<=y/\y<=1000000000000) (by omega) (by omega) (by omega) (by omega) (by omega) (by omega) (by omega) (by omega) (ah9 (by omega) b) (by omega)
theorem aQ2 {tp b n:Int}(s:SFacts x t a3 a5 tp b)(c:0<=n/\n<=1048576):zc t x a3 a5 (max a3 a5) x t tp b n=O (xM x t a3 a5+tp+n*b):=by
 rw[YF (VQ s c)];unfold xM;rw[Int.mul_comm b n]
 congr 1
 omega
def least (a0 a7:Int):Int:=if a0=3 then a7 else 1
def pm (a0:Int)(x t:Nat)(a3:Int)(a4:List bg)(a5:Int)(a6:List bg)(a7 a8:Int):Int×Int×Int×Int×Int:=
 if Cf a0 x t a3 a4 a5 a6 a7 a8≠0 then(0,0,0,0,Cf a0 x t a3 a4 a5 a6 a7 a8)
 else if a8<xM x t a3 a5+tK a0 a4 a6+least a0 a7*rY a0 x a3 a4 then(0,0,0,0,13)
 else(xM x t a3 a5,tK a0 a4 a6,rY a0 x a3 a4,if a0=3 then a7 else(a8-xM x t a3 a5-tK a0 a4 a6) / rY a0 x a3 a4,0)
theorem al6 {tp b n:Int}(s:SFacts x t a3 a5 tp b):aw (wH (t:Int) (x:Int) a3 a5 (max a3 a5) (x:Int) (t:Int) tp b) gv (0,0,tp,b,n)=O (xM x t a3 a5,tp,b,n):=by
 have d:=VQ (n:=1) s (by omega);have j:=VH d
 have f:pre [(t:Int),x,a3,a5,max a3 a5,x,t,tp,b*1] 7=xM x t a3 a5:=by
  show 0+(t:Int)+x+a3+a5+max a3 a5+x+t=_;unfold xM;omega
 rw[<-f];generalize h:([(t:Int),x,a3,a5,max a3 a5,x,t,tp,b*1]:Zd)=L at*;refine pi (n:=7) (λi=>(pre L i,tp,b,n)) (c:=(pre L 7,tp,b,n)) (by omega) (λi hi=> ?_) ?_
 .unfold wH;rw[ak,Zg,bm (show i<9 by omega)];simp only[zG]
  have e:iQ [(t:Int),x,a3,a5,max a3 a5,x,t,tp,b] i 0=L.getD i 0:=by
   subst h;rcases(show i=0∨i=1∨i=2∨i=3∨i=4∨i=5∨i=6 by omega)with rfl|rfl|rfl|rfl|rfl|rfl|rfl<;>rfl
  have k:=j i;have o:=d i;rw[e,ae (n:=pre L i+L.getD i 0) (by omega),ae (n:=(i:Int)+1) (by omega)];rfl
 .unfold wH;rw[ak,Zh]
theorem HB (e:OpsOk a4)(j:OpsOk a6):pV a0 a1 a2 a3 a4 a5 a6 a7 a8=O (pm a0 a1.length a2.length a3 a4 a5 a6 a7 a8):=by
 unfold pV pm;rw[Jm e j];simp only[zG];by_cases h:Cf a0 a1.length a2.length a3 a4 a5 a6 a7 a8=0
 .rw[zA (λc=>c h),zD,zF (λc=>c h),NW e j h];have s:=RL e j h;have f:=KA e j h;have z:=f.mode;have A:=f.len;have B:=f.bud;have C:=s.xs;have D:=s.ts;have E:=s.r;have F:=s.r';have I:=s.tp;have J:=s.sl
  have u:(cond (Zc (a0=3)) (O a7) (O (1:Int)))=O (least a0 a7):=by
   unfold least;rw[ak];split<;>rfl
  have y:0<=least a0 a7/\least a0 a7<=65535:=by unfold least;split<;>omega
  simp only[zG];rw[u];simp only[zG];rw[aQ2 s (by omega)];simp only[zG];rw[al6 s];simp only[zG,ak];by_cases c:a8<xM a1.length a2.length a3 a5+tK a0 a4 a6+least a0 a7*rY a0 a1.length a3 a4
  .rw[zE c,zE c]
  .rw[zF c,zF c];have q:0<=xM a1.length a2.length a3 a5/\xM a1.length a2.length a3 a5<=1000:=by unfold xM;omega
   by_cases b:a0=3
   .rw[zF (λk=>k b),zE b];unfold least;rw[zE b]
   .rw[zE b,zF b,aM7 (by omega)];unfold least at c;rw[zF b]at c;generalize xM a1.length a2.length a3 a5=d at*;generalize tK a0 a4 a6=tp at*;generalize rY a0 a1.length a3 a4=sl at*;rw[ae (n:=a8-d) (by omega),ae (n:=a8-d-tp) (by omega),Xs (by omega)];have o:0<=(a8-d-tp) / sl:=kB (by omega) (by omega);have p:(a8-d-tp) / sl<=a8-d-tp:=jD _ (by omega);rw[Zi]
 .rw[zB h,zC,zE h]
end
def Reach {α γ:Type}(f:α->Option (α⊕γ))(k:Nat)(s c:α):Prop:= ∀b,aw f (b+k) s=aw f b c
theorem Reach.refl {α γ:Type}{f:α->Option (α⊕γ)}{s:α}:Reach f 0 s s:=λ_=>rfl
theorem Reach.trans {α γ:Type}{f:α->Option (α⊕γ)}{k c:Nat}{s e b:α}(h:Reach f k s e)(j:Reach f c e b):Reach f (k+c) s b:=by
 intro d;rw[show d+(k+c)=(d+c)+k by omega,h,j]
theorem Reach.one {α γ:Type}{f:α->Option (α⊕γ)}{s b:α}(h:f s=O (.inl b)):Reach f 1 s b:=by
 intro c;rw[da,h];rfl
section
variable {l:List bg}
theorem aY4 (d:l.length<=8192)(b:st.length<=8192)(hi:i<l.length)(c:0<l[i].1/\l[i].1<7)(e:out.length=l.length):
  df l ((i:Int),Za,out,st,st)=O (.inl (((i+1:Nat):Int),Za,out.set i (-1),st,st)):=by
 simp only[df];rw[zB (show(i:Int)<(l.length:Int)by omega),zC,dn hi];simp only[zG];generalize f:l[i]=x at*;rw[zA (show¬x.1<0 by omega),zD,zA (show¬7<x.1 by omega),zD,zA (show¬x.1=0 by omega)];simp only[zD,zG,cv];rw[bm (show i<out.length by omega)];simp only[zG];rw[aD (show i<out.length by omega)];simp only[zG];rw[zA (show¬x.1=7 by omega)];simp only[zD];rw[ae (n:=(i:Int)+1) (by omega)];rfl
theorem aA4 (d:l.length<=8192)(c:st.length<=8192)(hi:i<l.length)(b:l[i].1=7)(e:out.length=l.length):
  df l ((i:Int),Za,out,st,st)=O (.inl (((i+1:Nat):Int),Za,out.set i (-1),st++[(i:Int)],st++[(i:Int)])):=by
 simp only[df];rw[zB (show(i:Int)<(l.length:Int)by omega),zC,dn hi];simp only[zG];generalize f:l[i]=x at*;rw[zA (show¬x.1<0 by omega),zD,zA (show¬7<x.1 by omega),zD,zA (show¬x.1=0 by omega)];simp only[zD,zG,cv];rw[bm (show i<out.length by omega)];simp only[zG];rw[aD (show i<out.length by omega)];simp only[zG];rw[zB b];simp only[zC];rw[de (by omega) (by omega),de (by omega) (by omega),ae (n:=(i:Int)+1) (by omega)];rfl
theorem ai7 {q:Nat}(h:l.length<=8192)(f:st.length<8192)(hi:i<l.length)(e:l[i].1=0)(j:out.length=l.length)(k:q<l.length):
  df l ((i:Int),Za,out,st++[(q:Int)],st++[(q:Int)])=O (.inl (((i+1:Nat):Int),Za,((out.set i (-1)).set i (q:Int)).set q (i:Int),st,st)):=by
 have b:(st++[(q:Int)]).length=st.length+1:=by simp
 simp only[df];rw[zB (show(i:Int)<(l.length:Int)by omega),zC,dn hi];simp only[zG];generalize o:l[i]=x at*;rw[zA (show¬x.1<0 by omega),zD,zA (show¬7<x.1 by omega),zD,zB e];simp only[zC,zG,cv];rw[zA (show¬((st++[(q:Int)]).length:Int)=0 by omega),zD];rw[ae (n:=((st++[(q:Int)]).length:Int)-1) (by omega),Zk,dh];simp only[zG,cv];have d:Zc (x.1=7)=Zb:=zA (by omega);rw[bm (show i<out.length by omega)];simp only[zG];rw[aD (show i<out.length by omega)];simp only[zG];rw[d,zD,show((st++[(q:Int)]).length:Int)-1=(st.length:Int)by rw[b];omega,bm (show st.length<(st++[(q:Int)]).length by omega)];simp only[zG];rw[dD (aB _),bD];simp only[pN,zG]
 rw[dh,bm (show i<(out.set i (-1)).length by simp;omega)];simp only[zG];rw[aD (show i<(out.set i (-1)).length by simp;omega)];simp only[zG];rw[bm (show q<((out.set i (-1)).set i ((q:Nat):Int)).length by simp;omega)];simp only[zG];rw[aD (show q<((out.set i (-1)).set i ((q:Nat):Int)).length by simp;omega)];simp only[zG]
 have c:(st++[(q:Int)]).take ((st.length:Int).toNat-0)=st:=by
  rw[show(st.length:Int).toNat-0=st.length by omega,iX];rfl
 rw[c,ae (n:=(i:Int)+1) (by omega)];rfl
theorem Ru (D:l.length<=8192): ∀(k:Nat) (A seg B:List bg) (out st:Zd),seg.length<=k->l=A++seg++B->bw seg 0=O 0->out.length=l.length->st.length<=A.length->
  ∃f,Reach (df l) seg.length ((A.length:Int),Za,out,st,st) (((A.length+seg.length:Nat):Int),Za,f,st,st)/\f.length=l.length/\
   (∀j,¬(A.length<=j/\j<A.length+seg.length)->f[j]?=out[j]?)/\∀j,A.length<=j->j<A.length+seg.length->(y:j<l.length)->l[j].1=7->∀inner e rest,l.drop (j+1)=inner++e::rest->e.1=0->bw inner 0=O 0->f[j]?=O ((j+1+inner.length:Nat):Int)
 |k,A,[],B,out,st,_,b,M,E,hst=>⟨out,Reach.refl,E,λj _=>rfl,λj h1 X=>by simp at X;omega⟩
 |0,A,o::seg,B,out,st,p,_,_,_,_=>by simp at p
 |k+1,A,o::seg,B,out,st,p,b,M,E,hst=>by
  simp only[cD]at p⊢;have L:l.length=A.length+(seg.length+1)+B.length:=by rw[b];simp;omega
  have s:A.length<l.length:=by omega
  have h:l[A.length]=o:=by
   have:l[A.length]?=O o:=by
    rw[b,dB,dD (aB _),bD];rfl
   rw[aD s]at this;injection this
  by_cases r:o.1=7
  .have hs1:bw seg 1=O 0:=by
    simp only[bw]at M;rw[Zh,Zh,zE r]at M;exact M
   obtain⟨inner,e,rest,h1,X,h3,h4⟩:=E4 _ seg 0 (aB _) hs1;subst h1;simp only[eD,cD]at p L⊢
   have hd:l.drop (A.length+1)=inner++e::(rest++B):=by
    rw[b,dB,iO,iP (by omega),show A.length+1-A.length=1 by omega];simp
   have u:(A++[o]).length=A.length+1:=by simp
   obtain⟨S1,V,l1,N,F⟩:=Ru D k (A++[o]) inner (e::(rest++B)) (out.set A.length (-1)) (st++[(A.length:Int)]) (by omega) (by rw[b];simp) h3 (by simp[E]) (by simp;omega);rw[u]at V N F;have K:A.length+1+inner.length<l.length:=by omega
   have J:l[A.length+1+inner.length]=e:=by
    have h5:(l.drop (A.length+1))[inner.length]?=O e:=by
     rw[hd,dD (aB _),bD];rfl
    rw[iR,aD K]at h5;injection h5
   have c1:=ai7 (st:=st) D (by omega) K (by rw[J];exact X) l1 s;have hA2:(A++o::(inner++[e])).length=A.length+1+inner.length+1:=by simp;omega
   obtain⟨S2,r2,l3,k2,g2⟩:=Ru D k (A++o::(inner++[e])) rest B (((S1.set (A.length+1+inner.length) (-1)).set (A.length+1+inner.length) (A.length:Int)).set A.length ((A.length+1+inner.length:Nat):Int)) st (by omega) (by rw[b];simp) h4 (by simp[l1]) (by omega);rw[hA2]at r2 k2 g2;refine⟨S2, ?_,l3,λj y=> ?_,λj h5 h6 y p c W d Q T U=> ?_⟩
   .have h0:=Reach.one (aA4 (out:=out) (st:=st) D (by omega) s (by rw[h];exact r) E);have I:=((h0.trans V).trans (Reach.one c1)).trans r2;rw[show 1+inner.length+1+rest.length=inner.length+(rest.length+1)+1 by omega,show A.length+1+inner.length+1+rest.length=A.length+(inner.length+(rest.length+1)+1)by omega]at I;exact I
   .rw[k2 j (by omega),cB (by omega),cB (by omega),cB (by omega),N j (by omega),cB (by omega)]
   .by_cases z:A.length+1+inner.length+1<=j
    .exact g2 j z (by omega) y p c W d Q T U
    .rw[k2 j (by omega)];by_cases q:A.length=j
     .subst q;rw[iI (by simp;omega)];have:=A4 (hd.symm.trans Q) h3 U X T;subst this;rfl
     .have hj3:j<A.length+1+inner.length:=by
       by_cases C:j<A.length+1+inner.length
       .exact C
       .exfalso;have C:j=A.length+1+inner.length:=by omega
        subst C;rw[J]at p;omega
      rw[cB q,cB (by omega),cB (by omega)];exact F j (by omega) hj3 y p c W d Q T U
  .obtain⟨hsr,hko,_⟩:=K8 M r;have u:(A++[o]).length=A.length+1:=by simp
   have c1:=aY4 (out:=out) (st:=st) D (by omega) s (by rw[h];exact hko) E;obtain⟨S1,V,l1,N,F⟩:=Ru D k (A++[o]) seg B (out.set A.length (-1)) st (by omega) (by rw[b];simp) hsr (by simp[E]) (by omega);rw[u]at V N F;refine⟨S1, ?_,l1,λj y=> ?_,λj h5 h6 y p c W d Q T U=> ?_⟩
   .have I:=(Reach.one c1).trans V;rw[show 1+seg.length=seg.length+1 by omega,show A.length+1+seg.length=A.length+(seg.length+1)by omega]at I;exact I
   .rw[N j (by omega),cB (by omega)]
   .by_cases z:A.length+1<=j
    .exact F j z (by omega) y p c W d Q T U
    .have q:j=A.length:=by omega
     subst q;exact(r (by rw[<-h];exact p)).elim
theorem Ao (o:l.length<=8192)(p:bw l 0=O 0): ∃m,nb l=O (0,m)/\MOK l m:=by
 obtain⟨S',j,q,y,f⟩:=Ru (l:=l) o _ [] l [] (bB ((l.length:Int)).toNat (0:Int)) [] (aB _) (by simp) p (by simp) (by simp);rw[show([]:List bg).length+l.length=l.length by simp]at j f
 have b:aw (df l) gv ((0:Int),Za,bB ((l.length:Int)).toNat (0:Int),([]:Zd),([]:Zd))=O (Za,S',[],[]):=by
  have h:=j (18446744073709551616-l.length);rw[show 18446744073709551616-l.length+l.length=gv by unfold gv;omega,show 18446744073709551616-l.length=(18446744073709551615-l.length)+1 by omega]at h;refine h.trans ?_;rw[da];simp only[df];rw[Ze,zD];rfl
 refine⟨S', ?_,⟨q,λi hi k c e d r s u=>f i (iE _) hi hi k c e d r s u⟩⟩;unfold nb;rw[zB (show(0:Int)<=(l.length:Int)by omega),zB (show(l.length:Int)<=(l.length:Int)by omega),zB (show 8*(l.length:Int)<=140737488355328 by omega)];show gd Za _=_;rw[dh,b];rfl
end
theorem YH {R:Int}{l:List bg}(h:yx R l=0):DH l=Za/\CG R l=Za/\¬8<(H5 l).1/\(db l).2=0:=by
 unfold yx at h;split at h
 .rename_i c;exact(c h).elim
 rename_i d;split at h
 .rename_i c;exact(c h).elim
 rename_i e;split at h
 .rename_i c;exact(c h).elim
 rename_i f;refine⟨?_, ?_, ?_,h⟩
 .cases b:DH l with
  |true=>rfl
  |false=>exact(d (by unfold Ls;rw[b];simp)).elim
 .cases b:CG R l with
  |true=>rfl
  |false=>exact(e (by unfold J1;rw[b];simp)).elim
 .intro b;exact f (by unfold J2;rw[zE b];simp)
theorem Y7 {R:Int}{l:List bg}(b:DH l=Za)(c:CG R l=Za)(d: ¬8<(H5 l).1)(e:(db l).2=0):yx R l=0:=by
 unfold yx;rw[show Ls l=0 by unfold Ls;rw[b];rfl,show J1 R l=0 by unfold J1;rw[c];rfl,show J2 l=0 by unfold J2;rw[zF d]];exact e
section
variable {l:List bg}
theorem ah2 {sz rds:Zd}{pre:List (Int×Int)}(C:l.length<=8192)(D:pre.length<=8192)(hi:i<l.length):
  cw l ((i:Int),sz,rds,pre++[(a,w)])=(cond (Zc (l[i].1=7))
   (O (.inl (((i+1:Nat):Int),sz,rds,pre++[(a,w)]++[((i:Int),0)])))
   (cond (Zc (l[i].1=0))
    ((rd l a).bind λs=>
    (wN w s.2.2.2.2).bind λb=>
    cond (!b.2)
     (O (.inr ((9,sz,rds,pre++[(a,w)]))))
     ((ix a sz.length).bind λf=>
     (sz[f]?).bind λz=>
     (ix a rds.length).bind λh=>
     (rds[h]?).bind λA=>
     gd (jk 0 (pre.length:Int) (pre.length+1)) ((ix (zH zI ((pre.length:Int)-1)) pre.length).bind λo=>
     ((pre++[(a,w)])[(0+o)]?).bind λu=>
     (Bp ([u.2,b.1])).bind λp=>
     (ix (zH zI ((pre.length:Int)-1)) pre.length).bind λj=>
     ((pre++[(a,w)])[(0+j)]?).bind λy=>
     O (.inl (((i+1:Nat):Int),(iU sz f b.1),(iU rds h w),(List.take pre.length ((iU (pre++[(a,w)]) (0+j) ((y.1,p))))))))))
    ((om l[i].1 l[i].2.1 l[i].2.2.1 l[i].2.2.2.1 l[i].2.2.2.2).bind λq=>
    cond (q.2)
     ((ix (i:Int) sz.length).bind λk=>
     (sz[k]?).bind λB=>
     O (.inl (((i+1:Nat):Int),(iU sz k 1),rds,pre++[(a,zH zI (w+1))])))
     (O (.inl (((i+1:Nat):Int),sz,rds,pre++[(a,w)])))))):=by
 have d:(pre++[(a,w)]).length=pre.length+1:=by simp
 have c:(pre++[(a,w)])[pre.length]?=O (a,w):=by
  rw[dD (aB _),bD];rfl
 have e: ∀r,(pre++[(a,w)]).set pre.length (a,r)=pre++[(a,r)]:=by
  intro r;rw[iV _ _ (aB _),bD];rfl
 simp only[cw];rw[zB (show(i:Int)<(l.length:Int)by omega),zC,dn hi];simp only[zG];rw[d,ae (n:=((pre.length+1:Nat):Int)-1) (by omega),show((pre.length+1:Nat):Int)-1=(pre.length:Int)by omega,bm (show pre.length<pre.length+1 by omega)];simp only[zG];rw[c,ae (n:=(i:Int)+1) (by omega),de (by omega) (by omega),show(i:Int)+1=((i+1:Nat):Int)by omega];simp only[zG];rw[e,show((pre.length:Int).toNat-0)=pre.length by omega]
theorem bi8 {sz rds:Zd}{pre:List (Int×Int)}(c:l.length<=8192)(d:pre.length<=8192)(hi:i<l.length)(b:0<l[i].1/\l[i].1<7)(e:sz.length=l.length)(f:0<=w/\w<=1000000000):
  cw l ((i:Int),sz,rds,pre++[(a,w)])=O (.inl (((i+1:Nat):Int),sz.set i 1,rds,pre++[(a,w+1)])):=by
 rw[ah2 c d hi,Ze,Ze];simp only[zD];rw[H8 b];simp only[zG,zC];rw[bm (show i<sz.length by omega)];simp only[zG];rw[aD (show i<sz.length by omega)];simp only[zG];rw[ae (n:=w+1) (by omega)]
theorem aO2 {sz rds:Zd}{pre:List (Int×Int)}(c:l.length<=8192)(d:pre.length<=8192)(hi:i<l.length)(b:l[i].1=7):
  cw l ((i:Int),sz,rds,pre++[(a,w)])=O (.inl (((i+1:Nat):Int),sz,rds,pre++[(a,w)]++[((i:Int),0)])):=by
 rw[ah2 c d hi,zB b,zC]
theorem az4 {b:Nat}{sz rds:Zd}{pre:List (Int×Int)}{w2 n:Int}(p:l.length<=8192)(y:pre.length<8192)(hi:i<l.length)(o:l[i].1=0)(c:b<l.length)(s:sz.length=l.length)(r:rds.length=l.length)(k:0<=w/\w<=1000000000)(u:0<=w2/\w2<=1000000000)
  (j:0<=l[b].2.2.2.2/\l[b].2.2.2.2<=18446744073709551615) (h:zw w l[b].2.2.2.2=O n):
  cw l ((i:Int),sz,rds,pre++[(a,w2)]++[((b:Int),w)])=O (.inl (((i+1:Nat):Int),sz.set b n,rds.set b w,pre++[(a,w2+n)])):=by
 have e:(pre++[(a,w2)]).length=pre.length+1:=by simp
 rw[ah2 p (by omega) hi,Ze,zB o];simp only[zD,zC];rw[dn c];simp only[zG];rw[Ol ⟨k.1,by omega⟩ j,h];have q:=Hf k.1 j.1 h;simp only[zG,iK,zD];rw[bm (show b<sz.length by omega)];simp only[zG];rw[aD (show b<sz.length by omega)];simp only[zG];rw[bm (show b<rds.length by omega)];simp only[zG];rw[aD (show b<rds.length by omega)];simp only[zG];rw[Zk,dh,e,ae (n:=((pre.length+1:Nat):Int)-1) (by omega),show((pre.length+1:Nat):Int)-1=(pre.length:Int)by omega,bm (show pre.length<pre.length+1 by omega)];simp only[zG,iC]
 have d:(pre++[(a,w2)]++[((b:Int),w)])[pre.length]?=O (a,w2):=by
  rw[dB,dD (aB _),bD];rfl
 rw[d];simp only[zG];rw[Un _ _ (by omega) q];simp only[zG]
 have f:((pre++[(a,w2)]++[((b:Int),w)]).set pre.length (a,w2+n)).take (pre.length+1)=pre++[(a,w2+n)]:=by
  rw[dB,iV _ _ (aB _),bD];show(pre++[(a,w2+n),((b:Int),w)]).take (pre.length+1)=_;rw[show [(a,w2+n),((b:Int),w)]=[(a,w2+n)]++[((b:Int),w)]from rfl,<-dB,iX];simp
 rw[f]
def aK0 (l:List bg)(j:Nat)(a b:Int):Prop:= ∀h:j<l.length,(l[j].1=7->∀c e d,l.drop (j+1)=c++e::d->e.1=0->bw c 0=O 0->Q9 c=O b/\zw b l[j].2.2.2.2=O a)/\(l[j].1≠7->b=0/\a=if l[j].1=0 then 0 else 1)
theorem WU (N:l.length<=8192)(hv: ∀o∈l,0<=o.2.2.2.2/\o.2.2.2.2<=18446744073709551615): ∀(k:Nat) (A seg B:List bg) (S R:Zd) (pre:List (Int×Int)) (p w t:Int),seg.length<=k->l=A++seg++B->bw seg 0=O 0->Q9 seg=O t->S.length=l.length->R.length=l.length->pre.length<=A.length->0<=w/\w<=65537*A.length->(∀j,A.length<=j->j<A.length+seg.length->S[j]?=O 0/\R[j]?=O 0)->
  ∃S' R',Reach (cw l) seg.length ((A.length:Int),S,R,pre++[(p,w)]) (((A.length+seg.length:Nat):Int),S',R',pre++[(p,w+t)])/\S'.length=l.length/\R'.length=l.length/\(0<=t/\t<=65537*seg.length)/\
   (∀j,¬(A.length<=j/\j<A.length+seg.length)->S'[j]?=S[j]?/\R'[j]?=R[j]?)/\∀j,A.length<=j->j<A.length+seg.length->∃a b,S'[j]?=O a/\R'[j]?=O b/\aK0 l j a b
 |k,A,[],B,S,R,pre,p,w,t,_,d,Q,q,X,hR,hpre,hw,I=>by
  injection q with q
  subst q;refine⟨S,R, ?_,X,hR,⟨iM _,by simp⟩,λj _=>⟨rfl,rfl⟩,λj h1 M=> ?_⟩
  .rw[iL];exact Reach.refl
  .simp at M;omega
 |0,A,o::seg,B,S,R,pre,p,w,t,hk,_,_,_,_,_,_,_,_=>by simp at hk
 |k+1,A,o::seg,B,S,R,pre,p,w,t,hk,d,Q,q,X,hR,hpre,hw,I=>by
  simp only[cD]at hk I⊢;have hlen:l.length=A.length+(seg.length+1)+B.length:=by rw[d];simp;omega
  have D:A.length<l.length:=by omega
  have f:l[A.length]=o:=by
   have:l[A.length]?=O o:=by
    rw[d,dB,dD (aB _),bD];rfl
   rw[aD D]at this;injection this
  by_cases u:o.1=7
  .have hs1:bw seg 1=O 0:=by
    simp only[bw]at Q;rw[Zh,Zh,zE u]at Q;exact Q
   obtain⟨c,e,r,h1,M,h3,h4⟩:=E4 _ seg 0 (aB _) hs1;subst h1;simp only[eD,cD]at hk I hlen⊢;obtain⟨L,hQ⟩:=J4 Q u M h3;rw[hQ]at q;obtain⟨wi,hwi,q⟩:=ag q;obtain⟨b,hb,q⟩:=ag q;cases s:Q9 r with
   |none=>rw[s]at q;cases q
   |some tr=>
   rw[s]at q;injection q with q
   have q:b+tr=t:=q;have hov:0<=o.2.2.2.2/\o.2.2.2.2<=18446744073709551615:=by rw[<-f];exact hv _ (gD D)
   have hd:l.drop (A.length+1)=c++e::(r++B):=by
    rw[d,dB,iO,iP (by omega),show A.length+1-A.length=1 by omega];simp
   have F:(A++[o]).length=A.length+1:=by simp
   obtain⟨S1,R1,r1,l1,l2,⟨t1,t2⟩,y,T⟩:=WU N hv k (A++[o]) c (e::(r++B)) S R (pre++[(p,w)]) (A.length:Int) 0 wi (by omega) (by rw[d];simp) h3 hwi X hR (by simp;omega) (by omega) (λj z E=>I j (by omega) (by omega));rw[F]at r1 y T;have hei:A.length+1+c.length<l.length:=by omega
   have J:l[A.length+1+c.length]=e:=by
    have z:(l.drop (A.length+1))[c.length]?=O e:=by
     rw[hd,dD (aB _),bD];rfl
    rw[iR,aD hei]at z;injection z
   have hbn:=Hf t1 hov.1 hb;have c1:=az4 (pre:=pre) (a:=p) (w2:=w) N (by omega) hei (by rw[J];exact M) D l1 l2 (w:=0+wi) (by omega) (by omega) (by rw[f];exact hov) (n:=b) (by rw[f,fB];exact hb);have W:(A++o::(c++[e])).length=A.length+1+c.length+1:=by simp;omega
   obtain⟨S2,R2,r2,l3,l4,⟨t3,t4⟩,k2,g2⟩:=WU N hv k (A++o::(c++[e])) r B (S1.set A.length b) (R1.set A.length (0+wi)) pre p (w+b) tr (by omega) (by rw[d];simp) L s (by simp[l1]) (by simp[l2]) (by omega) (by omega) (λj z E=>by
    rw[W]at z E;rw[cB (by omega),cB (by omega),(y j (by omega)).1,(y j (by omega)).2]
    exact I j (by omega) (by omega))
   rw[W]at r2 k2 g2;refine⟨S2,R2, ?_,l3,l4,⟨by omega,by omega⟩,λj hj=> ?_,λj z E=> ?_⟩
   .have h0:=Reach.one (aO2 (sz:=S) (rds:=R) (pre:=pre) (a:=p) (w:=w) N (by omega) D (by rw[f];exact u));have V:=((h0.trans r1).trans (Reach.one c1)).trans r2;rw[show 1+c.length+1+r.length=c.length+(r.length+1)+1 by omega,iA,q,show A.length+1+c.length+1+r.length=A.length+(c.length+(r.length+1)+1)by omega]at V;exact V
   .rw[(k2 j (by omega)).1,(k2 j (by omega)).2,cB (by omega),cB (by omega),(y j (by omega)).1,(y j (by omega)).2];exact⟨rfl,rfl⟩
   .by_cases K:A.length+1+c.length+1<=j
    .exact g2 j K (by omega)
    .rw[(k2 j (by omega)).1,(k2 j (by omega)).2];by_cases C:A.length=j
     .subst C;rw[iI (by omega),iI (by omega)];refine⟨_,_,rfl,rfl,λh=>⟨λ_ inner' e' rest' p1 p2 p3=> ?_,λU=>(U (by rw[f];exact u)).elim⟩⟩;have:=A4 (hd.symm.trans p1) h3 p3 M p2;subst this;rw[fB,f];exact⟨hwi,hb⟩
     .rw[cB C,cB C];by_cases hj3:j<A.length+1+c.length
      .exact T j (by omega) hj3
      .have hj4:j=A.length+1+c.length:=by omega
       subst hj4;rw[(y _ (by omega)).1,(y _ (by omega)).2,(I _ z E).1,(I _ z E).2];refine⟨0,0,rfl,rfl,λh=>⟨λU=> ?_,λ_=>⟨rfl, ?_⟩⟩⟩
       .rw[J]at U;omega
       .rw[J,zE M]
  .obtain⟨L,hko,hQ⟩:=K8 Q u;rw[hQ]at q;cases s:Q9 seg with
   |none=>rw[s]at q;cases q
   |some tr=>
   rw[s]at q;injection q with q
   have q:1+tr=t:=q;have F:(A++[o]).length=A.length+1:=by simp
   have c1:=bi8 (sz:=S) (rds:=R) (pre:=pre) (a:=p) (w:=w) N (by omega) D (by rw[f];exact hko) X (by omega)
   obtain⟨S1,R1,r1,l1,l2,⟨t1,t2⟩,y,T⟩:=WU N hv k (A++[o]) seg B (S.set A.length 1) R pre p (w+1) tr (by omega) (by rw[d];simp) L s (by simp[X]) hR (by omega) (by omega) (λj z E=>by
    rw[F]at z E;rw[cB (by omega)]
    exact I j (by omega) (by omega))
   rw[F]at r1 y T;refine⟨S1,R1, ?_,l1,l2,⟨by omega,by omega⟩,λj hj=> ?_,λj z E=> ?_⟩
   .have V:=(Reach.one c1).trans r1;rw[show 1+seg.length=seg.length+1 by omega,iA,q,show A.length+1+seg.length=A.length+(seg.length+1)by omega]at V;exact V
   .rw[(y j (by omega)).1,(y j (by omega)).2,cB (by omega)];exact⟨rfl,rfl⟩
   .by_cases K:A.length+1<=j
    .exact T j K (by omega)
    .have C:j=A.length:=by omega
     subst C;rw[(y _ (by omega)).1,(y _ (by omega)).2,iI (by omega),(I _ z E).2];refine⟨1,0,rfl,rfl,λh=>⟨λU=>(u (by rw[<-f];exact U)).elim,λ_=>⟨rfl, ?_⟩⟩⟩;rw[f,Zh]
end
theorem JO {l:List bg}(K:l.length<=4096)(B: ∀o∈l,0<=o.2.2.2.2/\o.2.2.2.2<=18446744073709551615):
  ∃r,qe l=O r/\r.1=(db l).1/\r.2.1=(db l).2/\(((db l).2≠0/\r.2.2=([],[]))∨((db l).2=0/\bw l 0=O 0/\r.2.2.1.length=l.length/\r.2.2.2.length=l.length/\∀j,j<l.length->∃a b,r.2.2.1[j]?=O a/\r.2.2.2[j]?=O b/\aK0 l j a b)):=by
 have f:=zR (by omega) B;unfold ip at f;obtain⟨r,d,f⟩:=ag f;injection f with f
 refine⟨r,d,by rw[<-f],by rw[<-f], ?_⟩;unfold qe at d;obtain⟨m,E⟩:=ER (l:=l) (by omega);rw[E]at d;by_cases k:bw l 0=O 0
 .simp only[zE k]at d;simp only[zG]at d;rw[zA (by simp),zD]at d;rw[zB (show(0:Int)<=(l.length:Int)by omega),zB (show(l.length:Int)<=(l.length:Int)by omega),zB (show 8*(l.length:Int)<=140737488355328 by omega)]at d;have q: ∀{β:Type} {y:Option β},gd (iY 1 (Sh.w (.int .i64))&&Za&&Za&&Za&&Nat.ble 1 8) y=y:=λ{β y}=>rfl
  rw[q,q]at d;cases u:Q9 l with
  |none=>
   have e:db l=(0,9):=by unfold db;rw[zE k,u]
   left;refine⟨by rw[e];simp, ?_⟩;obtain⟨c,J,d⟩:=ag d;obtain⟨p,D,d⟩:=ag d;rw[ak]at d;split at d
   .injection d with d
    rw[<-d]
   .rename_i M;exfalso;obtain⟨j,s,d⟩:=ag d;obtain⟨x,L,d⟩:=ag d;injection d with d
    rw[<-d,e]at f;injection f with _ f
    cases f
  |some t=>
   obtain⟨S',R',C,F,I,⟨Q,T⟩,N,z⟩:=WU (l:=l) (by omega) B _ [] l [] (bB ((l.length:Int)).toNat (0:Int)) (bB ((l.length:Int)).toNat (0:Int)) [] 0 0 t (aB _) (by simp) k u (by simp) (by simp) (by simp) (by simp) (λj _ s=>by
    rw[List.getElem?_replicate,zE (by simpa using s)]
    exact⟨rfl,rfl⟩)
   rw[show([]:List bg).length+l.length=l.length by simp]at C z
   have h:aw (cw l) gv ((0:Int),bB ((l.length:Int)).toNat (0:Int),bB ((l.length:Int)).toNat (0:Int),[((0:Int),(0:Int))])=O (0,S',R',[(0,0+t)]):=by
    have A:=C (18446744073709551616-l.length);rw[show 18446744073709551616-l.length+l.length=gv by unfold gv;omega,show 18446744073709551616-l.length=(18446744073709551615-l.length)+1 by omega]at A;refine A.trans ?_;rw[da];simp only[cw];rw[Ze,zD];rfl
   rw[h,fB]at d;have d:((((cond (Zc (65536<t)) (O (9:Int)) (O 0)).bind λp=>cond (Zc (p≠0)) (O ((0:Int),p,([]:Zd),([]:Zd))) (O (t,0,S',R')))))=O r:=d;rw[ak]at d;have e:db l=if 65536<t then(0,9)else(t,0):=by unfold db;rw[zE k,u]
   by_cases c:65536<t
   .rw[zE c]at d e;left;injection d with d
    rw[<-d,e];exact⟨by simp,rfl⟩
   .rw[zF c]at d e;right;injection d with d
    rw[<-d,e];exact⟨rfl,k,F,I,λj s=>z j (iE _) s⟩
 .simp only[zF k]at d;left;have e:db l=(0,6):=by unfold db;rw[zF k]
  have d:O ((0:Int),(6:Int),([]:Zd),([]:Zd))=O r:=d;injection d with d
  rw[<-d,e];exact⟨by simp,rfl⟩
abbrev xI :=Int×Int×Int×Int×Int×Int
inductive Fo where
 |nil
 |op (o:bg) (r:Fo)
 |rep (o:bg) (b:Fo) (e:bg) (r:Fo)
def tz (o:bg):Nat:=o.2.2.2.2.toNat
def ci (o:bg)(b:Nat):xI:=(o.1,o.2.1,o.2.2.1,o.2.2.2.1,o.2.2.2.2,(b:Int))
namespace Fo
def src :Fo->List bg
 | .nil=>[]
 | .op o r=>o::r.src
 | .rep o b e r=>o::(b.src++e::r.src)
def Ok :Fo->Prop
 | .nil=>True
 | .op o r=>(0<o.1/\o.1<7)/\r.Ok
 | .rep o b e r=>(o.1=7/\e.1=0)/\b.Ok/\r.Ok
def n :Fo->Nat
 | .nil=>0
 | .op _ r=>1+r.n
 | .rep o b _ r=>b.n*tz o+r.n
def len :Fo->Nat
 | .nil=>0
 | .op _ r=>r.len+1
 | .rep _ b _ r=>b.len+r.len+2
def hi :Fo->Nat
 | .nil=>0
 | .op _ r=>r.hi
 | .rep _ b _ r=>max (b.hi+1) r.hi
def bare :Fo->Fo
 | .nil=> .nil
 | .op o r=> .op o r.bare
 | .rep o b e r=>if b.n*tz o=0 then r.bare else .rep o b.bare e r.bare
def unroll :Fo->List bg
 | .nil=>[]
 | .op o r=>o::r.unroll
 | .rep o b _ r=>(bB (tz o) b.unroll).flatten++r.unroll
def code :Fo->Nat->List xI
 | .nil,_=>[]
 | .op o r,p=>ci o 0::r.code (p+1)
 | .rep o b e r,p=>ci o (p+b.len+2)::(b.code (p+1)++ci e (p+1)::r.code (p+b.len+2))
def Pos :Fo->Prop
 | .nil=>True
 | .op _ r=>r.Pos
 | .rep o b _ r=>0<b.n*tz o/\b.Pos/\r.Pos
def steps :Fo->Nat
 | .nil=>0
 | .op _ r=>1+r.steps
 | .rep o b _ r=>1+tz o*(b.steps+1)+r.steps
theorem src_len : ∀f:Fo,f.src.length=f.len
 | .nil=>rfl
 | .op o r=>by simp only[src,len,cD,src_len r]
 | .rep o b e r=>by simp only[src,len,cD,eD,src_len r,src_len b];omega
theorem code_len : ∀(f:Fo) (p:Nat),(f.code p).length=f.len
 | .nil,_=>rfl
 | .op o r,p=>by simp only[code,len,cD,code_len r]
 | .rep o b e r,p=>by simp only[code,len,cD,eD,code_len r,code_len b];omega
theorem scan_src : ∀(f:Fo),f.Ok->∀(r:List bg) (d:Nat),bw (f.src++r) d=bw r d
 | .nil,_,r,d=>rfl
 | .op o f,h,r,d=>by
  obtain⟨j,c⟩:=h;simp only[src,fD,bw];rw[Zh,Zh,Zh];exact scan_src f c r d
 | .rep o b e f,h,r,d=>by
  obtain⟨⟨j,c⟩,k,p⟩:=h;simp only[src,fD,dB,bw];rw[Zh,Zh,zE j,scan_src b k];simp only[bw];rw[Zh,zE c,Zh];exact scan_src f p r d
theorem scan0 {f:Fo}(h:f.Ok):bw f.src 0=O 0:=by
 have:=scan_src f h [] 0;rw[iN]at this;exact this
theorem parse : ∀(N:Nat) (l:List bg),l.length<=N->bw l 0=O 0->∃f:Fo,f.Ok/\f.src=l
 |_,[],_,_=>⟨.nil,trivial,rfl⟩
 |0,o::l,h,_=>by simp at h
 |N+1,o::l,h,j=>by
  simp only[cD]at h;by_cases q:o.1=7
  .have s:bw l 1=O 0:=by
    simp only[bw]at j;rw[Zh,Zh,zE q]at j;exact j
   obtain⟨c,e,d,k,p,B,C⟩:=E4 _ l 0 (aB _) s;subst k;simp only[eD,cD]at h;obtain⟨b,z,A⟩:=parse N c (by omega) B;obtain⟨r,u,y⟩:=parse N d (by omega) C;exact⟨.rep o b e r,⟨⟨q,p⟩,z,u⟩,by simp only[src,A,y]⟩
  .obtain⟨k,p,_⟩:=K8 j q;obtain⟨r,u,y⟩:=parse N l (by omega) k;exact⟨.op o r,⟨p,u⟩,by simp only[src,y]⟩
theorem Q9_n : ∀(f:Fo),f.Ok->(∀o∈f.src,0<=o.2.2.2.2)->∀{t:Int},Q9 f.src=O t->t=(f.n:Int)
 | .nil,_,_,t,h=>by
  injection h with h
  exact h.symm
 | .op o r,h,u,t,d=>by
  obtain⟨z,p⟩:=h;have A:=scan0 (f:= .op o r) ⟨z,p⟩;obtain⟨_,_,q⟩:=K8 (o:=o) (s:=r.src) A (by omega);have d:Q9 (o::r.src)=O t:=d;rw[q]at d;cases k:Q9 r.src with
  |none=>rw[k]at d;cases d
  |some m=>
   rw[k]at d;injection d with d
   have:=Q9_n r p (λx y=>u x (List.mem_cons_of_mem _ y)) k;subst this;rw[<-d];show(1:Int)+(r.n:Int)=((1+r.n:Nat):Int);omega
 | .rep o b e r,h,u,t,d=>by
  obtain⟨⟨z,p⟩,q,C⟩:=h;have A:=scan0 (f:= .rep o b e r) ⟨⟨z,p⟩,q,C⟩;obtain⟨_,I⟩:=J4 (o:=o) (e:=e) (inner:=b.src) (rest:=r.src) A z p (scan0 q);have d:Q9 (o::(b.src++e::r.src))=O t:=d;rw[I]at d;obtain⟨w,J,d⟩:=ag d;obtain⟨c,j,d⟩:=ag d;cases k:Q9 r.src with
  |none=>rw[k]at d;cases d
  |some m=>
   rw[k]at d;injection d with d
   have D:=Q9_n r C (λx y=>u x (by simp only[src];simp[y])) k;have E:=Q9_n b q (λx y=>u x (by simp only[src];simp[y])) J;have B:0<=o.2.2.2.2:=u o (by simp[src])
   have F:c=(b.n:Int)*(tz o:Int):=by
    unfold zw at j;rw[E]at j;unfold tz;rw[lD B];split at j
    .rename_i K;injection j with j
     rw[K,Int.zero_mul,j]
    split at j
    .cases j
    split at j
    .cases j
    .injection j with j
     exact j.symm
   rw[<-d,D,F];show(b.n:Int)*(tz o:Int)+(r.n:Int)=((b.n*tz o+r.n:Nat):Int);simp
theorem hmax_src : ∀(f:Fo),f.Ok->∀(r:List bg) (d m:Nat),hmax (f.src++r) d m=hmax r d (max m (if f.hi=0 then 0 else d+f.hi))
 | .nil,_,r,d,m=>by
  simp only[src,iB,hi,zE];rw[Nat.max_zero]
 | .op o f,h,r,d,m=>by
  obtain⟨j,c⟩:=h;simp only[src,fD,hmax,hi];rw[Zh,Zh];exact hmax_src f c r d m
 | .rep o b e f,h,r,d,m=>by
  obtain⟨⟨j,c⟩,p,q⟩:=h;simp only[src,fD,dB,hmax,hi];rw[zE j,hmax_src b p];simp only[hmax];rw[Zh,zE c,pT,hmax_src f q]
  congr 1
  have k:(if max (b.hi+1) f.hi=0 then 0 else d+max (b.hi+1) f.hi)=d+max (b.hi+1) f.hi:=zF (by omega);refine Eq.trans ?_ (congrArg (max m) k.symm);split<;>split<;>omega
theorem hi_le {f:Fo}(h:f.Ok):f.hi<=hmax f.src 0 0:=by
 have:=hmax_src f h [] 0 0;rw[iN]at this;rw[this];simp only[hmax];split<;>omega
theorem bare_n : ∀f:Fo,f.bare.n=f.n
 | .nil=>rfl
 | .op o r=>by simp only[bare,n,bare_n r]
 | .rep o b e r=>by
  simp only[bare,n];split
  .rename_i h;rw[h,bare_n r,iC]
  .simp only[n,bare_n b,bare_n r]
theorem pa : ∀f:Fo,f.unroll.length=f.n
 | .nil=>rfl
 | .op o r=>by simp only[unroll,n,cD,pa r];omega
 | .rep o b e r=>by
  simp only[unroll,n,eD,pa r];rw[pO,pP,pS,pa b,pJ]
theorem bare_unroll : ∀f:Fo,f.bare.unroll=f.unroll
 | .nil=>rfl
 | .op o r=>by simp only[bare,unroll,bare_unroll r]
 | .rep o b e r=>by
  simp only[bare,unroll];split
  .rename_i h
   have c:((bB (tz o) b.unroll).flatten).length=0:=by
    rw[pO,pP,pS,pa b,pJ,h]
   rw[List.eq_nil_of_length_eq_zero c,iB,bare_unroll r]
  .simp only[unroll,bare_unroll b,bare_unroll r]
theorem bare_ok : ∀f:Fo,f.Ok->f.bare.Ok
 | .nil,_=>trivial
 | .op o r,h=>⟨h.1,bare_ok r h.2⟩
 | .rep o b e r,h=>by
  simp only[bare];split
  .exact bare_ok r h.2.2
  .exact⟨h.1,bare_ok b h.2.1,bare_ok r h.2.2⟩
theorem bare_pos : ∀f:Fo,f.bare.Pos
 | .nil=>trivial
 | .op o r=>bare_pos r
 | .rep o b e r=>by
  simp only[bare];split
  .exact bare_pos r
  .rename_i h;exact⟨by rw[bare_n];omega,bare_pos b,bare_pos r⟩
theorem bare_hi : ∀f:Fo,f.bare.hi<=f.hi
 | .nil=>aB _
 | .op o r=>bare_hi r
 | .rep o b e r=>by
  simp only[bare,hi];have c:=bare_hi b;have d:=bare_hi r;split
  .omega
  .simp only[hi];omega
theorem bare_len : ∀f:Fo,f.bare.len<=f.len
 | .nil=>aB _
 | .op o r=>by simp only[bare,len];exact Nat.succ_le_succ (bare_len r)
 | .rep o b e r=>by
  simp only[bare,len];have c:=bare_len b;have d:=bare_len r;split
  .omega
  .simp only[len];omega
theorem bare_mem : ∀(f:Fo) {o:bg},o∈f.bare.src->o∈f.src
 | .nil,o,h=>h
 | .op o r,x,h=>by
  simp only[bare,src,oB]at h⊢;rcases h with h|h
  .exact .inl h
  .exact .inr (bare_mem r h)
 | .rep o b e r,x,h=>by
  simp only[bare]at h;split at h
  .simp only[src,oB,pQ];exact .inr (.inr (.inr (bare_mem r h)))
  .simp only[src,oB,pQ]at h⊢;rcases h with h|h|h|h
   .exact .inl h
   .exact .inr (.inl (bare_mem b h))
   .exact .inr (.inr (.inl h))
   .exact .inr (.inr (.inr (bare_mem r h)))
theorem steps_le : ∀f:Fo,f.Pos->f.steps<=(2*f.len+1)*f.n
 | .nil,_=>aB _
 | .op o r,h=>by
  have c:=steps_le r h;simp only[steps,len,n];rw[pD,jB];have:(2*r.len+1)*r.n<=(2*(r.len+1)+1)*r.n:=pK _ (by omega);omega
 | .rep o b e r,h=>by
  obtain⟨c,d,j⟩:=h;have p:=steps_le b d;have y:=steps_le r j;simp only[steps,len,n]
  have s:0<tz o:=by
   rcases iZ (tz o)with h0|h0
   .rw[h0]at c;simp at c
   .exact h0
  have k:0<b.n:=by
   rcases iZ b.n with h0|h0
   .rw[h0]at c;simp at c
   .exact h0
  have u:tz o<=b.n*tz o:=Nat.le_mul_of_pos_left _ k
  have z:tz o*(b.steps+1)<=(2*b.len+1)*(b.n*tz o)+b.n*tz o:=by
   rw[pD,jB];have:tz o*b.steps<=tz o*((2*b.len+1)*b.n):=Nat.mul_le_mul_left _ p
   have q:tz o*((2*b.len+1)*b.n)=(2*b.len+1)*(b.n*tz o):=by
    rw[pJ,Nat.mul_assoc]
   omega
  have A:(2*r.len+1)*r.n<=(2*(b.len+r.len+2)+1)*r.n:=pK _ (by omega);have B:(2*b.len+3)*(b.n*tz o)<=(2*(b.len+r.len+2)+1)*(b.n*tz o):=pK _ (by omega)
  have C:(2*b.len+3)*(b.n*tz o)=(2*b.len+1)*(b.n*tz o)+b.n*tz o+b.n*tz o:=by
   rw[show 2*b.len+3=(2*b.len+1)+1+1 by omega,Nat.add_mul,Nat.add_mul,Nat.one_mul]
  rw[pD (2*(b.len+r.len+2)+1)];generalize tz o*(b.steps+1)=D at*;generalize (2*(b.len+r.len+2)+1)*(b.n*tz o)=E at*;generalize (2*(b.len+r.len+2)+1)*r.n=F at*;generalize (2*r.len+1)*r.n=I at*;generalize (2*b.len+3)*(b.n*tz o)=J at*;generalize (2*b.len+1)*(b.n*tz o)=K at*;omega
end Fo
def upd (l:Nat->Int)(j:Nat)(v:Int):Nat->Int:=λi=>cond (iY j i) v (l i)
theorem rQ (l:Nat->Int)(j:Nat)(v:Int):upd l j v j=v:=by
 unfold upd;rw[Nat.beq_refl];rfl
theorem G7 {l:Nat->Int}{j:Nat}(h:i≠j):upd l j v i=l i:=by
 unfold upd;cases b:iY j i with
 |true=>exact(h (Nat.eq_of_beq_eq_true b).symm).elim
 |false=>rfl
def NR (o:bg):Prop:=0<=o.2.2.2.2/\o.2.2.2.2<=18446744073709551615
structure Runs {Z γ S:Type}(g:Z->Option (Z⊕γ))(code:List xI)(st:Nat->Nat->(Nat->Int)->S->Z)(stp:bg->S->S)(Vd:Nat->S->Prop)(good:bg->Prop):Prop where
 op: ∀{p d l s m o to},code[p]?=O (ci o to)->good o->(0<o.1/\o.1<7)->d<=8->Vd (1+m) s->g (st p d l s)=O (.inl (st (p+1) d l (stp o s)))/\Vd m (stp o s)
 rep: ∀{p d l s m o to},code[p]?=O (ci o to)->o.1=7->d<8->Vd m s->g (st p d l s)=O (.inl (st (p+1) (d+1) (upd l d o.2.2.2.2) s))
 nxt: ∀{p d l s m e to},code[p]?=O (ci e to)->e.1=0->d<8->1<l d->l d<=18446744073709551615->Vd m s->g (st p (d+1) l s)=O (.inl (st to (d+1) (upd l d (l d-1)) s))
 out: ∀{p d l s m e to},code[p]?=O (ci e to)->e.1=0->d<8->l d=1->Vd m s->g (st p (d+1) l s)=O (.inl (st (p+1) d (upd l d (l d-1)) s))
section
variable {Z γ S:Type} {g:Z->Option (Z⊕γ)} {code:List xI} {st:Nat->Nat->(Nat->Int)->S->Z} {stp:bg->S->S} {Vd:Nat->S->Prop} {good:bg->Prop}
def FJ (stp:bg->S->S)(l:List bg)(s:S):S:=l.foldl (λs o=>stp o s) s
theorem Rh (l r:List bg)(s:S):FJ stp (l++r) s=FJ stp r (FJ stp l s):=List.foldl_append
theorem Hh {A B:List xI}{x:xI}{r:List xI}{p:Nat}(b:code=A++(x::r)++B)(c:A.length=p):code[p]?=O x:=by
 subst c;rw[b,dB,dD (aB _),bD];rfl
theorem rounds (C:Runs g code st stp Vd good){p q d t n:Nat}{e:bg}{u:List bg}(A:d<8)(b:code[q]?=O (ci e p))(B:e.1=0)
  (z: ∀(l:Nat->Int) (s:S) (m:Nat),Vd (n+m) s->∃l',(∀i,i<d+1->l' i=l i)/\Reach g t (st p (d+1) l s) (st q (d+1) l' (FJ stp u s))/\Vd m (FJ stp u s)):
  ∀(k:Nat) (l:Nat->Int) (s:S) (m:Nat),k<18446744073709551615->l d=((k+1:Nat):Int)->Vd (n*(k+1)+m) s->
   ∃l',(∀i,i<d->l' i=l i)/\Reach g ((k+1)*(t+1)) (st p (d+1) l s) (st (q+1) d l' (FJ stp (bB (k+1) u).flatten s))/\Vd m (FJ stp (bB (k+1) u).flatten s)
 |0,l,s,m,K,D,o=>by
  obtain⟨c,h,r,j⟩:=z l s m (by rw[iC,jB]at o;exact o);have E:(bB (0+1) u).flatten=u:=by simp
  rw[E];have f:c d=1:=by rw[h d (by omega),D];rfl
  refine⟨upd c d (c d-1),λi hi=>by rw[G7 (by omega),h i (by omega)], ?_,j⟩;have y:=r.trans (Reach.one (C.out (l:=c) b B A f j));rw[show(0+1)*(t+1)=t+1 by omega];exact y
 |k+1,l,s,m,K,D,o=>by
  have L:n*(k+1+1)+m=n+(n*(k+1)+m):=by rw[Nat.mul_succ n (k+1)];omega
  rw[L]at o;obtain⟨c,h,r,j⟩:=z l s _ o;have f:c d=((k+1+1:Nat):Int):=by rw[h d (by omega),D]
  have y:=r.trans (Reach.one (C.nxt (l:=c) b B A (by omega) (by omega) j));obtain⟨M,F,I,J⟩:=rounds C A b B z k (upd c d (c d-1)) (FJ stp u s) m (by omega) (by rw[rQ,f];omega) j;have E:(bB (k+1+1) u).flatten=u++(bB (k+1) u).flatten:=by rw[List.replicate_succ,List.flatten_cons]
  rw[E,Rh];refine⟨M,λi hi=>by rw[F i hi,G7 (by omega),h i (by omega)], ?_,J⟩;rw[show(k+1+1)*(t+1)=t+1+(k+1)*(t+1)by rw[Nat.succ_mul (k+1)];omega];exact y.trans I
theorem KQ (C:Runs g code st stp Vd good): ∀(f:Fo) {A B:List xI} {p d:Nat} {l:Nat->Int} {s:S} {m:Nat},code=A++f.code p++B->A.length=p->f.Ok->f.Pos->d+f.hi<=8->(∀o∈f.src,good o/\NR o)->Vd (f.n+m) s->
  ∃l',(∀i,i<d->l' i=l i)/\Reach g f.steps (st p d l s) (st (p+f.len) d l' (FJ stp f.unroll s))/\Vd m (FJ stp f.unroll s)
 | .nil,A,B,p,d,l,s,m,y,z,h,J,E,c,j=>by
  refine⟨l,λ_ _=>rfl,Reach.refl, ?_⟩;have:Fo.nil.n+m=m:=iC m;rw[this]at j;exact j
 | .op o r,A,B,p,d,l,s,m,y,z,h,J,E,c,j=>by
  simp only[Fo.n,Nat.add_assoc]at j;simp only[Fo.hi]at E;obtain⟨K,L⟩:=C.op (d:=d) (l:=l) (Hh y z) (c o (by simp[Fo.src])).1 h.1 (by omega) j;have T:(A++[ci o 0]).length=p+1:=by simp[z]
  obtain⟨l',M,N,Q⟩:=KQ C r (A:=A++[ci o 0]) (B:=B) (p:=p+1) (d:=d) (l:=l) (by rw[y];simp[Fo.code]) T h.2 J E (λx I=>c x (by simp[Fo.src,I])) L;refine⟨l',M, ?_,Q⟩;have:=(Reach.one K).trans N;simp only[Fo.steps,Fo.len];rw[show p+(r.len+1)=p+1+r.len by omega];exact this
 | .rep o b e r,A,B,p,d,l,s,m,y,z,h,J,E,c,j=>by
  obtain⟨⟨k1,k2⟩,k3,k4⟩:=h;obtain⟨q1,q2,q3⟩:=J;simp only[Fo.n,Nat.add_assoc]at j;simp only[Fo.hi]at E;have F:=(c o (by simp[Fo.src])).2;unfold NR at F;have hvo:((tz o:Nat):Int)=o.2.2.2.2:=lD F.1
  have hv0:0<tz o:=by
   rcases iZ (tz o)with h0|h0
   .rw[h0]at q1;simp at q1
   .exact h0
  obtain⟨k,h⟩: ∃k,tz o=k+1:=⟨tz o-1,by omega⟩
  have K:=C.rep (d:=d) (l:=l) (Hh y z) k1 (by omega) j;have T:(A++[ci o (p+b.len+2)]).length=p+1:=by simp[z]
  have W:code=(A++[ci o (p+b.len+2)])++b.code (p+1)++(ci e (p+1)::r.code (p+b.len+2)++B):=by rw[y];simp[Fo.code]
  have X:code=(A++ci o (p+b.len+2)::b.code (p+1))++(ci e (p+1)::r.code (p+b.len+2))++B:=by rw[y];simp[Fo.code]
  have U:(A++ci o (p+b.len+2)::b.code (p+1)).length=p+1+b.len:=by simp[z,Fo.code_len];omega
  have D:=Hh X U
  obtain⟨l1,L,M,N⟩:=rounds C (p:=p+1) (q:=p+1+b.len) (d:=d) (t:=b.steps) (n:=b.n) (e:=e) (u:=b.unroll) (by omega) D k2
   (λl s m hm=>KQ C b W T k3 q2 (by omega) (λx I=>c x (by simp[Fo.src,I])) hm) k (upd l d o.2.2.2.2) s (r.n+m) (by omega) (by rw[rQ,<-hvo,h]) (by rw[<-h];exact j)
  have hcr:code=(A++ci o (p+b.len+2)::(b.code (p+1)++[ci e (p+1)]))++r.code (p+b.len+2)++B:=by rw[y];simp[Fo.code]
  have V:(A++ci o (p+b.len+2)::(b.code (p+1)++[ci e (p+1)])).length=p+b.len+2:=by simp[z,Fo.code_len];omega
  obtain⟨l2,Q,h6,h7⟩:=KQ C r (d:=d) (l:=l1) hcr V k4 q3 (by omega) (λx I=>c x (by simp[Fo.src,I])) N;simp only[Fo.unroll,Fo.steps,Fo.len];rw[Rh,h];refine⟨l2,λi hi=>by rw[Q i hi,L i hi,G7 (by omega)], ?_,h7⟩;have h8:=((Reach.one K).trans M).trans (show Reach g r.steps (st (p+1+b.len+1) d l1 _) _ from by rw[show p+1+b.len+1=p+b.len+2 by omega];exact h6);rw[show p+(b.len+r.len+2)=p+b.len+2+r.len by omega];exact h8
end
structure Backs {Z γ S:Type}(g:Z->Option (Z⊕γ))(code:List xI)(st:Nat->Nat->(Nat->Int)->S->Z)(stp:bg->S->S)(Vd:Nat->S->Prop)(good:bg->Prop):Prop where
 op: ∀{p d l s m o to},code[p]?=O (ci o to)->good o->(0<o.1/\o.1<7)->d<=8->Vd (1+m) s->g (st (p+1) d l s)=O (.inl (st p d l (stp o s)))/\Vd m (stp o s)
 rep: ∀{p q d l s m o e to},code[p]?=O (ci e (q+1))->e.1=0->code[q]?=O (ci o to)->d<8->Vd m s->g (st (p+1) d l s)=O (.inl (st p (d+1) (upd l d o.2.2.2.2) s))
 nxt: ∀{p d l s m o to},code[p]?=O (ci o (to+1))->to<=code.length->o.1=7->d<8->1<l d->l d<=18446744073709551615->Vd m s->g (st (p+1) (d+1) l s)=O (.inl (st to (d+1) (upd l d (l d-1)) s))
 out: ∀{p d l s m o to},code[p]?=O (ci o (to+1))->o.1=7->d<8->l d=1->Vd m s->g (st (p+1) (d+1) l s)=O (.inl (st p d (upd l d (l d-1)) s))
section
variable {Z γ S:Type} {g:Z->Option (Z⊕γ)} {code:List xI} {st:Nat->Nat->(Nat->Int)->S->Z} {stp:bg->S->S} {Vd:Nat->S->Prop} {good:bg->Prop}
def EH (stp:bg->S->S)(l:List bg)(s:S):S:=l.foldr stp s
theorem QV (l r:List bg)(s:S):EH stp (l++r) s=EH stp l (EH stp r s):=List.foldr_append
theorem Xg (B:Backs g code st stp Vd good){p q d t n:Nat}{o:bg}{u:List bg}(F:q<=code.length)(A:d<8)(b:code[p]?=O (ci o (q+1)))(D:o.1=7)
  (z: ∀(l:Nat->Int) (s:S) (m:Nat),Vd (n+m) s->∃l',(∀i,i<d+1->l' i=l i)/\Reach g t (st q (d+1) l s) (st (p+1) (d+1) l' (EH stp u s))/\Vd m (EH stp u s)):
  ∀(k:Nat) (l:Nat->Int) (s:S) (m:Nat),k<18446744073709551615->l d=((k+1:Nat):Int)->Vd (n*(k+1)+m) s->
   ∃l',(∀i,i<d->l' i=l i)/\Reach g ((k+1)*(t+1)) (st q (d+1) l s) (st p d l' (EH stp (bB (k+1) u).flatten s))/\Vd m (EH stp (bB (k+1) u).flatten s)
 |0,l,s,m,L,C,j=>by
  obtain⟨c,f,r,h⟩:=z l s m (by rw[iC,jB]at j;exact j);have E:(bB (0+1) u).flatten=u:=by simp
  rw[E];have e:c d=1:=by rw[f d (by omega),C];rfl
  refine⟨upd c d (c d-1),λi hi=>by rw[G7 (by omega),f i (by omega)], ?_,h⟩;have y:=r.trans (Reach.one (B.out (l:=c) b D A e h));rw[show(0+1)*(t+1)=t+1 by omega];exact y
 |k+1,l,s,m,L,C,j=>by
  have M:n*(k+1+1)+m=n+(n*(k+1)+m):=by rw[Nat.mul_succ n (k+1)];omega
  rw[M]at j;obtain⟨c,f,r,h⟩:=z l s _ j;have e:c d=((k+1+1:Nat):Int):=by rw[f d (by omega),C]
  have y:=r.trans (Reach.one (B.nxt (l:=c) b F D A (by omega) (by omega) h));obtain⟨N,I,J,K⟩:=Xg B F A b D z k (upd c d (c d-1)) (EH stp u s) m (by omega) (by rw[rQ,e];omega) h;have E:(bB (k+1+1) u).flatten=(bB (k+1) u).flatten++u:=by rw[pR,List.flatten_append];simp
  rw[E,QV];refine⟨N,λi hi=>by rw[I i hi,G7 (by omega),f i (by omega)], ?_,K⟩;rw[show(k+1+1)*(t+1)=t+1+(k+1)*(t+1)by rw[Nat.succ_mul (k+1)];omega];exact y.trans J
theorem Jb (E:Backs g code st stp Vd good): ∀(f:Fo) {A B:List xI} {p d:Nat} {l:Nat->Int} {s:S} {m:Nat},code=A++f.code p++B->A.length=p->f.Ok->f.Pos->d+f.hi<=8->(∀o∈f.src,good o/\NR o)->Vd (f.n+m) s->
  ∃l',(∀i,i<d->l' i=l i)/\Reach g f.steps (st (p+f.len) d l s) (st p d l' (EH stp f.unroll s))/\Vd m (EH stp f.unroll s)
 | .nil,A,B,p,d,l,s,m,y,C,h,K,F,c,D=>by
  refine⟨l,λ_ _=>rfl,Reach.refl, ?_⟩;have:Fo.nil.n+m=m:=iC m;rw[this]at D;exact D
 | .op o r,A,B,p,d,l,s,m,y,C,h,K,F,c,D=>by
  simp only[Fo.n]at D;simp only[Fo.hi]at F;have U:(A++[ci o 0]).length=p+1:=by simp[C]
  obtain⟨l',N,Q,T⟩:=Jb E r (A:=A++[ci o 0]) (B:=B) (p:=p+1) (d:=d) (l:=l) (m:=1+m) (by rw[y];simp[Fo.code]) U h.2 K F (λx J=>c x (by simp[Fo.src,J])) (by rw[show r.n+(1+m)=1+r.n+m by omega];exact D);obtain⟨L,M⟩:=E.op (d:=d) (l:=l') (Hh y C) (c o (by simp[Fo.src])).1 h.1 (by omega) T;refine⟨l',N, ?_,M⟩;have:=Q.trans (Reach.one L);simp only[Fo.steps,Fo.len];rw[show p+(r.len+1)=p+1+r.len by omega,Nat.add_comm 1];exact this
 | .rep o b e r,A,B,p,d,l,s,m,y,C,h,K,F,c,D=>by
  obtain⟨⟨k1,k2⟩,k3,k4⟩:=h;obtain⟨q1,q2,q3⟩:=K;simp only[Fo.n]at D;simp only[Fo.hi]at F;have I:=(c o (by simp[Fo.src])).2;unfold NR at I;have hvo:((tz o:Nat):Int)=o.2.2.2.2:=lD I.1
  have hv0:0<tz o:=by
   rcases iZ (tz o)with h0|h0
   .rw[h0]at q1;simp at q1
   .exact h0
  obtain⟨k,h⟩: ∃k,tz o=k+1:=⟨tz o-1,by omega⟩
  have j:=Hh y C;have U:(A++[ci o (p+b.len+2)]).length=p+1:=by simp[C]
  have X:code=(A++[ci o (p+b.len+2)])++b.code (p+1)++(ci e (p+1)::r.code (p+b.len+2)++B):=by rw[y];simp[Fo.code]
  have hce:code=(A++ci o (p+b.len+2)::b.code (p+1))++(ci e (p+1)::r.code (p+b.len+2))++B:=by rw[y];simp[Fo.code]
  have V:(A++ci o (p+b.len+2)::b.code (p+1)).length=p+1+b.len:=by simp[C,Fo.code_len];omega
  have z:=Hh hce V;have hcr:code=(A++ci o (p+b.len+2)::(b.code (p+1)++[ci e (p+1)]))++r.code (p+b.len+2)++B:=by rw[y];simp[Fo.code]
  have W:(A++ci o (p+b.len+2)::(b.code (p+1)++[ci e (p+1)])).length=p+b.len+2:=by simp[C,Fo.code_len];omega
  obtain⟨l2,T,h6,h7⟩:=Jb E r (d:=d) (l:=l) (m:=b.n*tz o+m) hcr W k4 q3 (by omega) (λx J=>c x (by simp[Fo.src,J])) (by rw[show r.n+(b.n*tz o+m)=b.n*tz o+r.n+m by omega];exact D);have L:=E.rep (d:=d) (l:=l2) z k2 j (by omega) h7
  obtain⟨l1,M,N,Q⟩:=Xg E (p:=p) (q:=p+1+b.len) (d:=d) (t:=b.steps) (n:=b.n) (o:=o) (u:=b.unroll) (Nat.le_of_lt (List.getElem?_eq_some_iff.1 z).1) (by omega) (by rw[j];congr 2;omega) k1
   (λl s m hm=>Jb E b X U k3 q2 (by omega) (λx J=>c x (by simp[Fo.src,J])) hm) k (upd l2 d o.2.2.2.2) _ m (by omega) (by rw[rQ,<-hvo,h]) (by rw[<-h];exact h7)
  simp only[Fo.unroll,Fo.steps,Fo.len];rw[QV,h];refine⟨l1,λi hi=>by rw[M i hi,G7 (by omega),T i hi], ?_,Q⟩;have h8:=(h6.trans (show Reach g 1 _ _ from by rw[show p+b.len+2=p+1+b.len+1 by omega];exact Reach.one L)).trans N;rw[show p+(b.len+r.len+2)=p+b.len+2+r.len by omega,show 1+(k+1)*(b.steps+1)+r.steps=r.steps+1+(k+1)*(b.steps+1)by omega];exact h8
end
end
end Go.V
