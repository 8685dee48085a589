/- A part of the proof. No condition. -/
import Derived.Test.YtknphpcjacoaeaaGreatL5
import Derived.Test.YtknphpcjacoaeaaGreatA9
set_option linter.unusedVariables false
set_option linter.unusedSimpArgs false
set_option linter.unusedSectionVars false
namespace Go.V
open Go.Ab
open Option renaming some->O,none->Y
open Bool renaming true->Za,false->Zb
open Decidable renaming decide->Zc
variable {W at' ax l st w x:Zd}{s:Dy}{i j k o r:Nat}{B p sx t v:Int}
section
open Int renaming toNat_natCast -> bB
open List renaming length_take -> aD, getElem?_eq_getElem -> cB
open Nat renaming le_refl -> aB, sub_zero -> bD, lt_or_gt_of_ne -> cD
set_option maxRecDepth 100000
theorem bn.put (h:bn W)(k:bn w)(o:Nat):bn (put W o w):=(h.take o).app (k.app (h.drop _))
theorem bn.seg (h:bn W)(o n:Nat):bn (seg W o n):=(h.drop o).take n
theorem ao3 (x:Nat)(g a:Zd):bn (Av x g a):=λv b=>by
 unfold Av at b;obtain⟨i,_,rfl⟩:=List.mem_map.1 b;exact UT _
section
variable {c:Cx}
structure Has (c:Cx)(W st ax at':Zd):Prop where
 wd:Wd c W
 w:bn W
 t:seg W 0 c.T.length=c.T
 s:seg W (c.off 1) c.X.length=st
 x:seg W (c.off 5) c.X.length=ax
 a:seg W (c.off 6) c.T.length=at'
theorem Sr (h:c.Ok)(a:Wd c W)(hi:i<9)(b:w.length<=c.sz i):c.off i+w.length<=W.length:=by
 have:=a.in' h hi;omega
theorem Has.put (h:c.Ok)(H:Has c W st ax at')(hi:i<9)(y:w.length<=c.sz i)(z:bn w)(e:i≠0)(f:i≠1)(g:i≠5)(m:i≠6):Has c (put W (c.off i) w) st ax at':=by
 have u:=Sr h H.wd hi y
 have b: ∀j n,j≠i->n<=c.sz j->j<9->seg (Go.V.put W (c.off i) w) (c.off j) n=seg W (c.off j) n:=λj n q C A=>by
  refine Dd u ?_;rcases cD q with d|hgt
  .exact .inl (by have:=kc (c:=c) d;omega)
  .exact .inr (by have:=kc (c:=c) hgt;omega)
 refine⟨H.wd.put h (by have:=kc (c:=c) (show i<9 from hi);omega),H.w.put z _, ?_, ?_, ?_, ?_⟩
 .have:=b 0 c.T.length (Ne.symm e) (aB _) (by omega);exact this.trans H.t
 .exact(b 1 c.X.length (Ne.symm f) (aB _) (by omega)).trans H.s
 .exact(b 5 c.X.length (Ne.symm g) (aB _) (by omega)).trans H.x
 .exact(b 6 c.T.length (Ne.symm m) (aB _) (by omega)).trans H.a
theorem Dc (h:c.Ok)(d:Wd c W){n:Nat}(a:j≠i)(hi:i<9)(f:j<9)(g:n<=c.sz j)(e:w.length<=c.sz i):seg (put W (c.off i) w) (c.off j) n=seg W (c.off j) n:=by
 refine Dd (Sr h d hi e) ?_;rcases cD a with b|hgt
 .exact .inl (by have:=kc (c:=c) b;omega)
 .exact .inr (by have:=kc (c:=c) hgt;omega)
theorem Has.put1 (h:c.Ok)(H:Has c W st ax at')(d:w.length=c.X.length)(e:bn w):Has c (Go.V.put W (c.off 1) w) w ax at':=by
 have b:w.length<=c.sz 1:=Nat.le_of_eq d;refine⟨H.wd.put h (by have:=kc (c:=c) (show 1<9 by omega);omega),H.w.put e _,(Dc h H.wd (i:=1) (j:=0) (by omega) (by omega) (by omega) (aB _) b).trans H.t, ?_,(Dc h H.wd (i:=1) (j:=5) (by omega) (by omega) (by omega) (aB _) b).trans H.x,(Dc h H.wd (i:=1) (j:=6) (by omega) (by omega) (by omega) (aB _) b).trans H.a⟩;rw[<-d];exact yw (Sr h H.wd (by omega) b)
theorem Has.back (h:c.Ok){a:Zd}(H:Has c W st ax at')(K:c.X.length+c.T.length<=a.length)(g:a.length<=max c.R.toNat c.Q.toNat)(A:bn a):Has c (E2 c W a) st (a.take c.X.length) (Av c.X.length at' a):=by
 have H4:=H.put h (i:=4) (by omega) (w:=a) g A (by omega) (by omega) (by omega) (by omega);unfold E2;generalize Go.V.put W (c.off 4) a=W1 at*;have z:(a.take c.X.length).length<=c.sz 5:=by rw[aD];exact Nat.min_le_left _ _
 have J:(a.take c.X.length).length=c.X.length:=by rw[aD];omega
 have e:=H4.wd.put h (o:=c.off 5) (w:=a.take c.X.length) (by have:=kc (c:=c) (show 5<9 by omega);omega);have p:=λj (m:j≠5) (f:j<9)=>Dc h H4.wd (i:=5) (j:=j) m (by omega) f (aB _) z
 have F:seg (Go.V.put W1 (c.off 5) (a.take c.X.length)) (c.off 5) c.X.length=a.take c.X.length:=by
  have:=yw (Sr h H4.wd (i:=5) (by omega) z);rw[J]at this;exact this
 have I:=(p 6 (by omega) (by omega)).trans H4.a;have D:=(p 0 (by omega) (by omega)).trans H4.t;have E:=(p 1 (by omega) (by omega)).trans H4.s;have C:bn (Go.V.put W1 (c.off 5) (a.take c.X.length)):=H4.w.put (A.take _) _;generalize Go.V.put W1 (c.off 5) (a.take c.X.length)=W2 at*;have b:seg W2 (c.off 6) c.T.length=at':=I;rw[b];have u:at'.length=c.T.length:=by rw[<-b];exact cv (e.in' h (i:=6) (by omega))
 have y:(Av c.X.length at' a).length=c.T.length:=by rw[vp,u]
 have d:(Av c.X.length at' a).length<=c.sz 6:=Nat.le_of_eq y;have q:=λj (m:j≠6) (f:j<9)=>Dc h e (i:=6) (j:=j) m (by omega) f (aB _) d
 refine⟨e.put h (by have:=kc (c:=c) (show 6<9 by omega);omega),C.put (ao3 _ _ _) _,(q 0 (by omega) (by omega)).trans D,(q 1 (by omega) (by omega)).trans E,(q 5 (by omega) (by omega)).trans F, ?_⟩;have:=yw (Sr h e (i:=6) (by omega) d);rw[y]at this;exact this
def BY (c:Cx)(t:Int)(x:Zd):Zd:=x++(c.T++[IntKind.u64.wrap t])
def AK (c:Cx)(t:Int)(x:Zd):Zd:=(LK c.fl (fill c.R (BY c t x))).take c.X.length
def lossV (c:Cx)(x:Zd):Int:=rg (LK c.fk (fill c.Q (x++(c.T++[])))) 0
def Bt (c:Cx)(t:Int)(x a:Zd):Zd:=Wl c.R c.fl (BY c t x) a
def Da (c:Cx)(x:Zd):Zd:=Wl c.Q c.fk (x++(c.T++[])) [1]
theorem Cx.Ok.lens (h:c.Ok):((c.X.length:Int)+c.T.length+1<=c.R/\(c.X.length:Int)+c.T.length<=c.Q)/\(1<=c.R/\c.R<=64)/\(1<=c.Q/\c.Q<=64)/\1<=c.X.length/\c.X.length<=64/\c.T.length<=64:=by
 have n:=h.num;have a:=Mx h.hc;exact⟨RI (by have:=n.x;omega) (by have:=n.t;omega) a.2,n.R,n.Q,n.x.1,n.x.2,n.t⟩
theorem Aw (t:Int)(a:x.length=c.X.length):(BY c t x).length=c.X.length+c.T.length+1:=by unfold BY;simp[a];omega
theorem Ig (b:bn x)(wT:bn c.T):bn (BY c t x):=b.app (wT.app λv a=>by rw[List.mem_singleton.1 a];exact UT _)
variable (h:c.Ok) (wT:bn c.T)
include h wT
theorem AL (d:x.length=c.X.length)(e:bn x):(AK c t x).length=c.X.length/\bn (AK c t x):=by
 obtain⟨⟨m,q⟩,g,f,y,z,u⟩:=h.lens;obtain⟨a,b⟩:=GB h.pl (r:=fill c.R (BY c t x)) (Ig e wT).fill;rw[ia (by rw[Aw t d];omega)]at a;unfold AK;exact⟨by rw[aD,a];omega,b.take _⟩
theorem Kw (u:0<=t/\t<65536)(d:x.length=c.X.length)(a:bn x):rI c.R c.l c.Q c.k (c.X.length:Int) c.T t x=O (0,AK c t x):=by
 obtain⟨⟨y,z⟩,m,g,C,D,A⟩:=h.lens;unfold rI pX;rw[Ze,zD,Ze,zD,Ze,zD,uA (by omega) (by omega) (by simp)];simp only[zG];have q:=Aw (c:=c) t d;have e:x++(c.T++[IntKind.u64.wrap t])=BY c t x:=rfl;rw[e,Sg h.pl (by omega) (Ig a wT)];obtain⟨b,f⟩:=GB h.pl (r:=fill c.R (BY c t x)) (Ig a wT).fill;rw[ia (by omega)]at b;simp only[zG];rw[Zk,bw,bB,bD];rfl
theorem Yh (e:x.length=c.X.length)(f:bn x):BG c.R c.l c.Q c.k (c.X.length:Int) c.T x=O (lossV c x,0):=by
 obtain⟨⟨y,z⟩,q,m,C,D,A⟩:=h.lens;unfold BG;have a:bn (x++(c.T++[])):=f.app (wT.app λv d=>by cases d);have u:(x++(c.T++[])).length=c.X.length+c.T.length:=by simp[e]
 rw[Ze,zD,uA (by omega) (by omega) (by simp)];simp only[zG];rw[Sg h.pk (by omega) a];obtain⟨b,g⟩:=GB h.pk (r:=fill c.Q (x++(c.T++[]))) a.fill;rw[ia (by omega)]at b;simp only[zG];rw[show ix 0 (LK c.fk (fill c.Q (x++(c.T++[])))).length=O 0 from bi (k:=0) (by omega)];simp only[zG];rw[db (by omega)];rfl
theorem D1 {a:Zd}(b:x.length=c.X.length)(e:bn x)(m:a.length=c.X.length)(d:bn a):(Bt c t x a).length=c.R.toNat/\bn (Bt c t x a):=by
 obtain⟨⟨q,u⟩,g,f,z,A,y⟩:=h.lens;exact Nz h.pl (by rw[Aw t b];omega) (by omega) (Ig e wT) d
theorem aU8 :bn [1]:=λv a=>by rw[List.mem_singleton.1 a];unfold zg;omega
theorem D0 (b:x.length=c.X.length)(d:bn x):(Da c x).length=c.Q.toNat/\bn (Da c x):=by
 obtain⟨⟨g,m⟩,f,e,u,y,q⟩:=h.lens;exact Nz h.pk (by simp[b];omega) (by simp;omega) (d.app (wT.app λv a=>by cases a)) (aU8 h wT)
theorem Qb (A:0<=t/\t<65536){a:Zd}(b:x.length=c.X.length)(f:bn x)(m:a.length=c.X.length)(d:bn a):uk c.R c.l c.Q c.k (c.X.length:Int) c.T t x a=O ((Bt c t x a).take c.X.length,((Bt c t x a).drop c.X.length).take c.T.length,0):=by
 obtain⟨⟨C,D⟩,y,u,F,H,E⟩:=h.lens;unfold uk pX;rw[Ze,zD,Ze,zD,Ze,zD,Ze,zD,uA (by omega) (by omega) (by simp)];simp only[zG];have z:=Aw (c:=c) t b;have e:x++(c.T++[IntKind.u64.wrap t])=BY c t x:=rfl;rw[e,P9 h.pl (by omega) (by omega) (Ig f wT) d];obtain⟨g,q⟩:=D1 h wT (t:=t) b f m d;unfold Bt at g⊢;simp only[zG];rw[Zk,bw,Zi,Zk,bw,bB,bD,List.drop_zero,show((c.X.length:Int)+(c.T.length:Int)).toNat-c.X.length=c.T.length by omega]
theorem Qa (a:x.length=c.X.length)(b:bn x):uj c.R c.l c.Q c.k (c.X.length:Int) c.T x=O ((Da c x).take c.X.length,((Da c x).drop c.X.length).take c.T.length,0):=by
 obtain⟨⟨q,u⟩,m,g,z,A,y⟩:=h.lens;unfold uj;rw[Ze,zD,uA (by omega) (by omega) (by simp)];simp only[zG];rw[P9 h.pk (by simp[a];omega) (by simp;omega) (b.app (wT.app λv e=>by cases e)) (aU8 h wT)];obtain⟨d,f⟩:=D0 h wT a b;unfold Da at d⊢;simp only[zG];rw[Zk,bw,Zi,Zk,bw,bB,bD,List.drop_zero,show((c.X.length:Int)+(c.T.length:Int)).toNat-c.X.length=c.T.length by omega]
omit h wT in
theorem Sl {g a:Zd}{x:Nat}(A:g.length<=1000)(z:x+g.length<=a.length)(y:bn g)(u:bn a):Ag g ((a.drop x).take g.length)=O (Av x g a):=by
 unfold Ag;have C:((a.drop x).take g.length).length=g.length:=by rw[aD,List.length_drop];omega
 have b:=cx (f:=xE g ((a.drop x).take g.length)) (n:=g.length) (λi=>(Av x g a).take i) (c:=Av x g a) (by omega)
  (λi hi=>by
   unfold xE;simp only;rw[Zf,zC,bh hi,bh (by omega)];simp only[zG];have e:g[i]=rg g (i:Int):=by have:=db hi;rw[cB hi]at this;injection this
   have m:((a.drop x).take g.length)[i]'(by omega)=rg a ((x+i:Nat):Int):=by
    rw[List.getElem_take,List.getElem_drop];have:=db (r:=a) (k:=x+i) (by omega);rw[cB (by omega)]at this;injection this
   rw[e,m,Db (B7 y _) (B7 u _)];simp only[zG];have d:i<(Av x g a).length:=by rw[vp];exact hi
   rw[ca (by rw[aD];omega) (by omega),Zi,List.take_succ_eq_append_getElem d];have q:(Av x g a)[i]=IntKind.u64.wrap (rg g (i:Int)+rg a ((x+i:Nat):Int)):=by unfold Av;simp
   rw[q]
   rfl)
  (by
   unfold xE
   rw[zA (by simp),zD,List.take_of_length_le (by rw[vp];exact aB _)])
 rw[List.take_zero]at b;rw[b];rfl
end
end
section
open Nat renaming le_of_eq -> aB
section
variable {c:Cx} (h:c.Ok) (wT:bn c.T) {W st ax at':Zd}
def qk (c:Cx)(t:Int)(x:Zd):TS:=uW c.fl (fill c.R (BY c t x)) (bp c.fl.n)
include h wT
theorem Has.lens (H:Has c W st ax at'):st.length=c.X.length/\ax.length=c.X.length/\at'.length=c.T.length/\bn st/\bn ax/\bn at':=by
 refine⟨?_, ?_, ?_, ?_, ?_, ?_⟩
 .rw[<-H.s];exact cv (H.wd.in' h (i:=1) (by omega))
 .rw[<-H.x];exact cv (H.wd.in' h (i:=5) (by omega))
 .rw[<-H.a];exact cv (H.wd.in' h (i:=6) (by omega))
 .rw[<-H.s];exact H.w.seg _ _
 .rw[<-H.x];exact H.w.seg _ _
 .rw[<-H.a];exact H.w.seg _ _
theorem wk {x:Zd}(f:x.length=c.X.length)(g:bn x):bn (qk c t x).1/\bn (qk c t x).2.1/\(qk c t x).1.length=c.R.toNat/\(qk c t x).2.1.length=c.fl.n/\(qk c t x).1.take c.X.length=AK c t x:=by
 obtain⟨⟨u,y⟩,q,m,A,C,z⟩:=h.lens;obtain⟨a,b,d,e⟩:=Gx h.pl (r:=fill c.R (BY c t x)) (t:=bp c.fl.n) (Ig g wT).fill (bn.rep _);refine⟨a,b,d.trans (ia (by rw[Aw t f];omega)),e.trans (bz _), ?_⟩;unfold qk AK;rw[Se]
omit wT in
theorem Has.stepR (H:Has c W st ax at')(p:Int):stepR c W p=qk c p st:=by
 unfold Go.V.stepR qk BY;rw[H.s,H.t]
omit wT in
theorem Has.lossR (H:Has c W st ax at')(x:Zd):lossR c W x=uW c.fk (fill c.Q (x++(c.T++[]))) (bp c.fk.n):=by
 unfold Go.V.lossR;rw[H.t]
theorem Has.lossV (H:Has c W st ax at')(x:Zd):rg (Go.V.lossR c W x).1 0=lossV c x:=by
 rw[H.lossR h,Se];rfl
theorem Has.taped (H:Has c W st ax at')(p:Int):Has c (Go.V.put W (c.off 2) (Go.V.stepR c W p).1) st ax at':=by
 obtain⟨d,q,u,e,y,z⟩:=H.lens h wT;obtain⟨a,f,b,g,m⟩:=wk h wT (t:=p) d e;rw[H.stepR h];exact H.put h (i:=2) (by omega) (aB b) a (by omega) (by omega) (by omega) (by omega)
theorem Has.endd (H:Has c W st ax at'){x:Zd}(b:x.length=c.X.length)(d:bn x):Has c (Px c W x) st ((Da c x).take c.X.length) (Av c.X.length at' (Da c x)):=by
 obtain⟨⟨D,E⟩,A,z,J,K,I⟩:=h.lens;have C:(x++(c.T++[])).length=c.X.length+c.T.length:=by simp[b]
 have q:bn (x++(c.T++[])):=d.app (wT.app λv g=>by cases g);obtain⟨f,u,a,y⟩:=Gx h.pk (r:=fill c.Q (x++(c.T++[]))) (t:=bp c.fk.n) q.fill (bn.rep _);rw[ia (by omega)]at a;obtain⟨F,m⟩:=D0 h wT b d;unfold Px;rw[H.lossR h];have H3:=H.put h (i:=3) (by omega) (aB a) f (by omega) (by omega) (by omega) (by omega);have e:(mh c.fk (uW c.fk (fill c.Q (x++(c.T++[]))) (bp c.fk.n)).1 (fill c.Q [1]) (uW c.fk (fill c.Q (x++(c.T++[]))) (bp c.fk.n)).2.1).2.1=Da c x:=rfl;rw[e];exact H3.back h (by omega) (by omega) m
theorem Has.turn (H:Has c W st ax at'){x:Zd}(a:x.length=c.X.length)(g:bn x):Has c (QH c W (qk c p x).1 (qk c p x).2.1) st ((Bt c p x ax).take c.X.length) (Av c.X.length at' (Bt c p x ax)):=by
 obtain⟨⟨C,D⟩,q,m,I,J,F⟩:=h.lens;obtain⟨u,b,y,z,d,A⟩:=H.lens h wT;obtain⟨E,f⟩:=D1 h wT (t:=p) a g b d;unfold QH;rw[H.x];have e:(mh c.fl (qk c p x).1 (fill c.R ax) (qk c p x).2.1).2.1=Bt c p x ax:=rfl;rw[e];exact H.back h (by omega) (by omega) f
theorem Has.adv1 (H:Has c W st ax at')(p:Int):Has c (Go.V.adv1 c W p) (AK c p st) ax at':=by
 obtain⟨⟨D,E⟩,u,q,I,J,F⟩:=h.lens;obtain⟨b,y,z,d,A,C⟩:=H.lens h wT
 have e:NE c W p=LK c.fl (fill c.R (BY c p st)):=by
  unfold NE BY;rw[H.s,H.t]
 obtain⟨a,f⟩:=GB h.pl (r:=fill c.R (BY c p st)) (Ig d wT).fill;rw[ia (by rw[Aw p b];omega)]at a;obtain⟨g,m⟩:=AL h wT (t:=p) b d;unfold Go.V.adv1;rw[e];exact(H.put h (i:=2) (by omega) (aB a) f (by omega) (by omega) (by omega) (by omega)).put1 h g m
def KB (c:Cx)(t:Int)(x:Zd):Nat->Zd
 |0=>x
 |i+1=>AK c (t+(i:Int)) (KB c t x i)
theorem Has.advW (H:Has c W st ax at')(p:Int): ∀i,Has c (Go.V.advW c W p i) (KB c p st i) ax at'
 |0=>H
 |i+1=>(Has.advW H p i).adv1 h wT _
theorem GF {t:Int}{x:Zd}(a:x.length=c.X.length)(b:bn x): ∀i,(KB c t x i).length=c.X.length/\bn (KB c t x i)
 |0=>⟨a,b⟩
 |i+1=>AL h wT (GF a b i).1 (GF a b i).2
theorem Has.rev (H:Has c W st ax at')(p:Int):Has c (al1 c W p) st ((Bt c p st ax).take c.X.length) (Av c.X.length at' (Bt c p st ax)):=by
 obtain⟨a,d,e,b,f,g⟩:=H.lens h wT;unfold al1;have:=(H.taped h wT p).turn h wT (p:=p) a b;rw[H.stepR h]at this⊢;exact this
theorem Has.both (H:Has c W st ax at')(p:Int):Has c (RA c W p) st ((Bt c p st ((Da c (AK c p st)).take c.X.length)).take c.X.length) (Av c.X.length (Av c.X.length at' (Da c (AK c p st))) (Bt c p st ((Da c (AK c p st)).take c.X.length))):=by
 obtain⟨a,y,z,b,A,C⟩:=H.lens h wT;obtain⟨g,m,q,u,d⟩:=wk h wT (t:=p) a b;obtain⟨e,f⟩:=AL h wT (t:=p) a b;unfold RA;have H2:=H.taped h wT p;rw[H.stepR h]at H2⊢;rw[d];exact(H2.endd h wT e f).turn h wT (p:=p) a b
end
end
section
open List renaming getElem?_eq_getElem -> aB, take_succ_eq_append_getElem -> aD, countP_le_length -> bB, getElem?_eq_none -> bD, getElem?_map -> cB, length_take -> cD
structure RS where
 L:Int
 p:Int
 q:Int
 st:Zd
 sl:List (Int×Zd)
 sx:Int
 kp:List (Zd)
 ax:Zd
 th:Zd
 ls:Int
 n0:Int
 n1:Int
 n2:Int
 n3:Int
 pk:Int
def Gf (c:Cx)(W:Zd)(k:Nat)(x:Int×Zd):Prop:=ge c W k=x.1+1/\((0<=x.1/\x.2=seg W (sp c k+1) c.X.length)∨(x.1= -1/\seg W (sp c k+1) c.X.length=bp c.X.length))
structure Slo (c:Cx)(W:Zd)(r:RS):Prop where
 kp:r.kp=[]
 sx:r.sx=(c.X.length:Int)
 len:r.sl.length=c.ns.toNat
 slot: ∀k,∀hk:k<r.sl.length,Gf c W k r.sl[k]
structure RelD (c:Cx)(s:Dy)(r:RS):Prop where
 L:r.L=s.L
 p:r.p=s.p
 q:r.q=s.q
 n0:r.n0=s.c0
 n1:r.n1=s.c1
 n2:r.n2=s.c2
 n3:r.n3=s.c3
 ls:r.ls=s.z
 pk:r.pk=s.pk
 has:Has c s.W r.st r.ax r.th
section
variable {c:Cx} {W:Zd} {r:RS}
theorem Fj (H:Slo c W r)(a:k<r.sl.length):r.sl[k].1=ge c W k-1:=by
 have:=(H.slot k a).1;omega
theorem Qc (H:Slo c W r)(h:c.Ok):BI r.sl r.sx=O (mN c W):=by
 unfold BI;have g:=h.ns;have d:=H.len
 have a:=cx (f:=vF r.sl) (n:=r.sl.length) (λi=>(mN c W).take i) (c:=mN c W) (by omega)
  (λi hi=>by
   have b:i<(mN c W).length:=by rw[mz];omega
   unfold vF;simp only;rw[Zf,zC,bh hi];simp only[zG];rw[ca (by rw[cD];omega) (by omega),Zi,aD b];have e:=IM (c:=c) (W:=W) (k:=i) (by omega);rw[aB b]at e;injection e with e
   rw[e,Fj H hi]
   rfl)
  (by
   unfold vF
   rw[zA (by simp),zD,List.take_of_length_le (by rw[mz];omega)])
 rw[List.take_zero]at a;rw[a];rfl
theorem Vx (H:Slo c W r):(r.sl.countP λx=>Zc (0<=x.1))=jw c W:=by
 have:r.sl.map (λx=>Zc (0<=x.1))=(List.range c.ns.toNat).map λ(k:Nat)=>Zc (0<ge c W k):=by
  apply List.ext_getElem?;intro i;rw[cB,cB];by_cases hi:i<r.sl.length
  .rw[aB hi,List.getElem?_range (by rw[<-H.len];exact hi)];simp only[Option.map_some]
   congr 1
   have:=Fj H hi;by_cases b:0<ge c W i
   .rw[zB b,Zf]
   .rw[zA b,Ze]
  .rw[bD (by omega),bD (by rw[List.length_range,<-H.len];omega)];rfl
 unfold jw;have a: ∀{α:Type} (l:List α) (p:α->Bool),l.countP p=(l.map p).countP id:=λl p=>by rw[List.countP_map];rfl
 rw[a,this,<-a]
theorem Yj (l:List (Int×Zd))(x:Int)(e:l.length<=2000000):BJ l x=O ((l.countP λx=>Zc (0<=x.1):Nat):Int):=by
 unfold BJ
 have a:=cx (f:=vG l) (n:=l.length) (λi=>(((l.take i).countP λx=>Zc (0<=x.1):Nat):Int)) (c:=((l.countP λx=>Zc (0<=x.1):Nat):Int)) (by omega)
  (λi hi=>by
   unfold vG;simp only;rw[Zf,zC,bh hi];simp only[zG];rw[aD hi,List.countP_append,List.countP_singleton];have d:(l.take i).countP (λx=>Zc (0<=x.1))<=i:=Nat.le_trans bB (by rw[cD];omega);rw[ad (n:=(i:Int)+1) (by omega),Zi];by_cases b:0<=l[i].1
   .rw[zB b,zC,zE rfl];rfl
   .rw[zA b,zD,zF (by simp)];rfl)
  (by
   unfold vG
   rw[zA (by simp),zD,List.take_length])
 rw[show((0:Int),(0:Int))=((0:Int),(((l.take 0).countP λx=>Zc (0<=x.1):Nat):Int))from rfl,a];rfl
theorem Qf (h:c.Ok)(e:r.sl.length<=1048576)(d:r.kp.length<=100000)(b:0<=c.sl*(((r.sl.countP λx=>Zc (0<=x.1):Nat):Int)+r.kp.length)/\c.fixed+c.sl*(((r.sl.countP λx=>Zc (0<=x.1):Nat):Int)+r.kp.length)<=1048576)(a:0<=c.fixed):
  df c.mode c.X c.T c.R c.l c.Q c.k c.len c.words c.R c.l c.Q c.k (c.X.length:Int) c.T c.fixed c.tp c.sl c.ns r.L r.p r.q r.st r.sl r.sx r.kp r.ax r.th r.ls r.n0 r.n1 r.n2 r.n3 r.pk=O (c.fixed+c.sl*(((r.sl.countP λx=>Zc (0<=x.1):Nat):Int)+r.kp.length)):=by
 unfold df;rw[Yj _ _ (by omega)];simp only[zG];have:(r.sl.countP λx=>Zc (0<=x.1))<=r.sl.length:=bB;rw[ad (n:=((r.sl.countP λx=>Zc (0<=x.1):Nat):Int)+_) (by omega),ad (n:=c.sl*_) (by omega),Zi]
theorem zn (h:c.Ok)(hi:Inv c s)(H:Slo c s.W r):df c.mode c.X c.T c.R c.l c.Q c.k c.len c.words c.R c.l c.Q c.k (c.X.length:Int) c.T c.fixed c.tp c.sl c.ns r.L r.p r.q r.st r.sl r.sx r.kp r.ax r.th r.ls r.n0 r.n1 r.n2 r.n3 r.pk=O s.lv:=by
 have f:=DY h hi;have d:=vw h;have g:=h.ns;have e:=Vx H;have a:=hi.lv;have b:0<=c.sl*(jw c s.W:Int):=Int.mul_nonneg (by have:=h.num.sl;have:=h.num.R;rw[h.num.sl];split<;>omega) (by omega);rw[Qf h (by rw[H.len];omega) (by rw[H.kp];simp) (by rw[e,H.kp];simp only[List.length_nil];rw[show((jw c s.W:Int)+((0:Nat):Int))=(jw c s.W:Int)by omega];omega) (by omega),e,H.kp,a];simp
theorem GA {W w:Zd}(g:o+w.length<=W.length)(d:W.length<=1048576)(b:seg W o w.length=w):io W (o:Int) w=O Za:=by
 unfold io;rw[Zi,Ze,zD]
 have a:=oi (f:=tf W (o:Int) w) (n:=w.length) (c:= .inr ()) (by omega)
  (λi hi=>by
   unfold tf;rw[Zf,zC,ad (n:=(o:Int)+i) (by omega),show(o:Int)+(i:Int)=((o+i:Nat):Int)by omega,bh (show o+i<W.length by omega),bh hi];simp only[zG];have e:=yv W o w.length i;rw[b,zE hi,aB hi,aB (show o+i<W.length by omega)]at e;injection e with e
   rw[e,dne,zD,Zi]
   rfl)
  (by
   unfold tf
   rw[Ze,zD])
 rw[a];rfl
theorem D4 (h:c.Ok){W st:Zd}(a:Wd c W){n:Nat}(hi:i<9)(g:n<=c.sz i)(e:seg W (c.off i) n=st):io W (c.off i:Int) st=O Za:=by
 have d:=a.in' h hi;have f:=a.tk h;have b:st.length=n:=by rw[<-e];exact cv (by omega)
 exact GA (by omega) (by omega) (by rw[b];exact e)
theorem Ws (h:c.Ok)(K:c.mode≠3)(F:Wd c W)(V:bn W)(H:Slo c W r)(M: ∀k,k<c.ns.toNat->0<=ge c W k/\ge c W k<=65536):vd r.sl r.sx=O (seg W (c.off 8) (c.ns.toNat*(c.X.length+1))):=by
 unfold vd;have L:=h.ns;have J:=H.len;have hx:=h.lens;have N:=F.tk h
 have z:=cx (f:=um r.sl r.sx) (n:=r.sl.length) (λi=>seg W (c.off 8) (i*(c.X.length+1))) (c:=seg W (c.off 8) (c.ns.toNat*(c.X.length+1))) (by omega)
  (λi hi=>by
   obtain⟨U,s2,s3⟩:=tn h K (k:=i) (by omega);have Q:=M i (by omega);have y:=H.slot i hi;have m:=Fj H hi;have u:(i+1)*(c.X.length+1)=i*(c.X.length+1)+(c.X.length+1):=Nat.succ_mul _ _;unfold sp at U;have d:(seg W (c.off 8) (i*(c.X.length+1))).length=i*(c.X.length+1):=cv (by omega);unfold um;simp only;rw[Zf,zC,bh hi];simp only[zG];rw[ca (by rw[d];omega) (by omega),ad (n:=r.sl[i].1+1) (by omega),m,show ge c W i-1+1=ge c W i by omega,QI (show zg (ge c W i)from B7 V _)]
   have g: ∀n,n<c.X.length+1->seg W (c.off 8) (i*(c.X.length+1)+(n+1))=seg W (c.off 8) (i*(c.X.length+1)+n)++[rg W ((sp c i+n:Nat):Int)]:=λn L=>by
    have b:c.off 8+(i*(c.X.length+1)+n)<W.length:=by omega
    unfold seg;rw[show i*(c.X.length+1)+(n+1)=(i*(c.X.length+1)+n)+1 by omega,aD (by rw[List.length_drop];omega),List.getElem_drop];have:=db b;rw[aB b]at this;injection this with this
    rw[this];unfold sp;rw[show c.off 8+(i*(c.X.length+1)+n)=c.off 8+i*(c.X.length+1)+n by omega]
   have e:=cx (f:=ul r.sl r.sx ((i:Int),seg W (c.off 8) (i*(c.X.length+1)))) (n:=c.X.length) (λj=>seg W (c.off 8) (i*(c.X.length+1)+(j+1))) (c:=seg W (c.off 8) ((i+1)*(c.X.length+1))) (by omega)
    (λj I=>by
     unfold ul;simp only;rw[H.sx,Zf,zC,bh hi];simp only[zG]
     have S:(cond (Zc (0<=r.sl[i].1)) ((rd r.sl[i].2 (j:Int)).bind λC=>O C) (O 0))=O (rg W ((sp c i+(j+1):Nat):Int)):=by
      have Z:seg W (sp c i+1) c.X.length=seg W (sp c i+1) c.X.length:=rfl;have a:=yv W (sp c i+1) c.X.length j;have b:sp c i+1+j<W.length:=by unfold sp;omega
      rw[zE I,db b]at a;rcases y.2 with⟨A,q⟩|⟨A,q⟩
      .rw[zB A,zC];have D:r.sl[i].2.length=c.X.length:=by rw[q];exact cv (by unfold sp;omega)
       rw[<-q,aB (by omega)]at a;rw[bh (by omega)];injection a with a
       simp only[zG];rw[a,show sp c i+1+j=sp c i+(j+1)by omega]
      .rw[A,Ze,zD];rw[q]at a;unfold bp at a;rw[aB (by simp;omega),List.getElem_replicate]at a;injection a with a
       rw[a,show sp c i+1+j=sp c i+(j+1)by omega]
     rw[S];simp only[zG];rw[ca (by rw[cv (by omega)];omega) (by omega),Zi,g (j+1) (by omega)]
     rfl)
    (by
     unfold ul
     rw[H.sx,Ze,zD,u])
   have E:seg W (c.off 8) (i*(c.X.length+1))++[ge c W i]=seg W (c.off 8) (i*(c.X.length+1)+(0+1)):=by
    rw[g 0 (by omega),Nat.add_zero,Nat.add_zero];rfl
   rw[E,e];simp only[zG];rw[Zi]
   rfl)
  (by
   unfold um
   rw[zA (by simp),zD,J])
 rw[show((0:Int),([]:Zd))=((0:Int),seg W (c.off 8) (0*(c.X.length+1)))from by unfold seg;simp,z];rfl
end
end
section
open Int renaming reduceEq -> aB, reduceLE -> aD
open List renaming getElem?_eq_getElem -> bB, getD_eq_getElem?_getD -> bD
theorem NB (a n:Int):ve a n=O (jd a n):=by
 have g:BK a=O (if a=1 then(1,65535)else if 2<=a/\a<=4 then(0,1048575)else(0,0)):=by
  unfold BK;simp only[ag]
  repeat' split
  all_goals first|rfl|omega
 unfold ve jd;rw[g];simp only[zG,ag];by_cases f:a<1
 .rw[zE f,zF (show¬1<=a by omega)]
 by_cases q:9<a
 .rw[zF f,zE q,zE (show 1<=a by omega),zF (show¬a<=9 by omega)]
 rw[zF f,zF q,zE (show 1<=a by omega),zE (show a<=9 by omega)];by_cases e:a=1
 .rw[zE e,zE e];by_cases b:1<=n
  .rw[zE b];congr 1;by_cases d:n<65536
   .rw[zB (show n<=65535 by omega),zB ⟨b,d⟩]
   .rw[zA (show¬n<=65535 by omega),Ze]
  .rw[zF b,Ze]
 rw[zF e,zF e];by_cases m:a<=4
 .rw[zE (show 2<=a/\a<=4 by omega),zE m];by_cases b:0<=n
  .rw[zE b];congr 1;by_cases d:n<1048576
   .rw[zB (show n<=1048575 by omega),zB ⟨b,d⟩]
   .rw[zA (show¬n<=1048575 by omega),Ze]
  .rw[zF b,Ze]
 .rw[zF (show¬(2<=a/\a<=4)by omega),zF m];by_cases b:0<=n
  .rw[zE b];congr 1;by_cases d:n<=0
   .rw[zB d,Zf]
   .rw[zA d,Ze]
  .rw[zF b,Ze]
theorem tV (p q:Int)(b:l.length<=1048576):xx p q l=O (p,q,l):=by
 unfold xx
 have a:=cx (f:=vI l) (n:=l.length) (λi=>(p,q,l.take i)) (c:=(p,q,l)) (by omega)
  (λi hi=>by
   unfold vI;simp only;rw[Zf,zC,bh hi];simp only[zG];rw[ca (by rw[List.length_take];omega) (by omega),Zi,List.take_succ_eq_append_getElem hi]
   rfl)
  (by
   unfold vI
   rw[zA (by simp),zD,List.take_length])
 rw[List.take_zero]at a;rw[a];rfl
theorem Qe {L q:Int}(d:0<=L/\L<=65535)(e:0<=p/\p<=L)(g: -1<=q/\q<=L)(b:l.length<=1048576)(h: ∀t∈l,-1<=t/\t<=L):yV L p q l=O (L,p,q,0,l):=by
 unfold yV;rw[Ze,zD,Ze,zD,Ze,zD,Ze,zD,Ze,zD,Ze,zD,Ze,zD]
 have a:=oi (f:=zM L l) (n:=l.length) (c:= .inr ()) (by omega)
  (λi hi=>by
   have:=h _ (List.getElem_mem hi);unfold zM;rw[Zf,zC,bh hi];simp only[zG];rw[Ze,zD,Ze,zD,Zi]
   rfl)
  (by
   unfold zM
   rw[Ze,zD])
 rw[a];simp only[zG,bg];rw[tV p q b];rfl
theorem ay9 {a n q L d:Int}(I:0<=L/\L<=65535)(J:0<=p/\p<=L)(K: -1<=q/\q<=L)(M:0<=d/\d<=1000000000000)(g:l.length<=1048576)(H: ∀t∈l,-1<=t/\t<=L):
  Ft L p q l d a n=O (L,(Rm a n p q L d l).2.1,(Rm a n p q L d l).2.2.1,(Rm a n p q L d l).2.2.2.2.2,(Rm a n p q L d l).2.2.2.2.1,(Rm a n p q L d l).1):=by
 unfold Ft Rm;rw[NB];simp only[zG];by_cases F:jd a n=Zb
 .rw[F,zE (.inl rfl)];rfl
 have A:jd a n=Za:=by cases h:jd a n with
  |true=>rfl
  |false=>exact(F h).elim
 rw[A,Bool.not_true,zD];by_cases u:7<a
 .rw[zB u,zC,zE (.inr u)]
 rw[zA u,zD,zF (by simp[u])];have E:=zt (a:=a) (n:=n) (by simp[A,u]);by_cases C:(2<=a/\a<=4)/\(l.length:Int)<=n
 .rw[zE C];simp only[ag];rw[zE C.1.1];simp only[zG,ag];rw[zE C.1.2,zE C.2];rfl
 rw[zF C];have D:=E.1;rcases E.2 with ha|ha|ha|ha|ha|ha|ha
 .subst ha;have:=uB D (by omega);simp only[ag,aD,if_false,if_true,zG,zD,bg];rw[tV p q g];simp only[zG];rw[ad (n:=p+n) (by omega),ad (n:=d+n) (by omega)];by_cases c:L-p<n
  .rw[Zg,zE c]
  .rw[Zh,zF c]
 .subst ha;have y:=uB D (by omega);have b:n.toNat<l.length:=by omega
  have m:n=((n.toNat:Nat):Int):=by omega
  simp only[ag,aD,aB,if_false,if_true,zG];rw[Zh];simp only[zG,bg,aB,if_false,if_true];rw[tV p q g];simp only[zG];rw[Uw (by omega) (by omega)];simp only[zG];have e:l[n.toNat]=rg l n:=by unfold rg;rw[bD,bB b];rfl
  rw[e];by_cases c:0<=rg l n
  .rw[zE c,zE c]
  .rw[zF c,zF c];rw[show ix n l.length=O n.toNat from(congrArg (λz=>ix z l.length) m).trans (bi b)];simp only[zG];rw[bB b];rfl
 .subst ha;have y:=uB D (by omega);have b:n.toNat<l.length:=by omega
  simp only[ag,aD,aB,if_false,if_true,zG];rw[Zh];simp only[zG,bg,aB,if_false,if_true];rw[tV p q g];simp only[zG];rw[Uw (by omega) (by omega)];simp only[zG];have e:l[n.toNat]=rg l n:=by unfold rg;rw[bD,bB b];rfl
  rw[e];by_cases c:rg l n<0
  .rw[zE c,zE c];rfl
  .rw[zF c,zF c]
   try rfl
 .subst ha;have y:=uB D (by omega);have b:n.toNat<l.length:=by omega
  have m:n=((n.toNat:Nat):Int):=by omega
  simp only[ag,aD,aB,if_false,if_true,zG];rw[Zh];simp only[zG,bg,aB,if_false,if_true];rw[tV p q g];simp only[zG];rw[Uw (by omega) (by omega)];simp only[zG,decide_true,if_true];have e:l[n.toNat]=rg l n:=by unfold rg;rw[bD,bB b];rfl
  rw[e];by_cases c:rg l n<0
  .rw[zE c,zE c];rfl
  .rw[zF c,zF c]
   try rfl
   rw[show ix n l.length=O n.toNat from(congrArg (λz=>ix z l.length) m).trans (bi b)];simp only[zG];rw[bB b];rfl
 .subst ha;simp only[ag,aD,aB,if_false,if_true,zG,decide_false,zD,bg];rw[tV p q g];simp only[zG];by_cases c:0<=q
  .rw[zE c,zE (show q≠ -1 by omega)]
  .rw[zF c,zF (show¬q≠ -1 by omega)];by_cases f:p≠L
   .rw[zE f,zE f]
   .rw[zF f,zF f];rw[show L=p by omega]
 .subst ha;simp only[ag,aD,aB,if_false,if_true,zG,decide_false,zD,bg];rw[tV p q g];simp only[zG];rw[ad (n:=L-1) (by omega)];by_cases c:0<=q
  .rw[zE c,zE (show q≠ -1 by omega)]
  .rw[zF c,zF (show¬q≠ -1 by omega)];by_cases f:p≠L-1
   .rw[zE f,zE f]
   .rw[zF f,zF f,show L-1=p by omega]
 .subst ha;simp only[ag,aD,aB,if_false,if_true,zG,decide_false,zD,bg];rw[tV p q g];simp only[zG];rw[ad (n:=q-1) (by omega)];by_cases c:q<1
  .rw[zE c,zE (show q<=0 by omega)]
  .rw[zF c,zF (show¬q<=0 by omega)];by_cases f:p≠q-1
   .rw[zE f,zE f]
   .rw[zF f,zF f,show q-1=p by omega]
end
section
open Int renaming toNat_natCast -> cB
open List renaming length_cons -> aB, length_set -> aD, getD_eq_getElem?_getD -> bD, getElem_set -> cD, length_take -> dB
open Nat renaming le_refl -> bB, mul_le_mul_right -> dD
section
variable {c:Cx} {r:RS}
def KL (B:Int)(r:RS):Prop:=(0<=r.n0/\r.n0<=B)/\(0<=r.n1/\r.n1<=B)/\(0<=r.n2/\r.n2<=B)/\(0<=r.n3/\r.n3<=B)
theorem RelD.cnt (H:RelD c s r)(a:DD B s):KL B r:=by
 unfold KL DD at*;rw[H.n0,H.n1,H.n2,H.n3];exact a
def A4 (c:Cx)(x:Zd)(r:RS):RS:={r with ls:=lossV c x,n2:=r.n2+1,n3:=r.n3+1,ax:=(Da c x).take c.X.length,th:=Av c.X.length r.th (Da c x)}
def Sw (c:Cx)(t:Int)(x:Zd)(r:RS):RS:={r with n3:=r.n3+1,ax:=(Bt c t x r.ax).take c.X.length,th:=Av c.X.length r.th (Bt c t x r.ax)}
theorem MO (h:c.Ok)(wT:bn c.T)(b:x.length=c.X.length)(e:bn x)(a:r.th.length=c.T.length)(d:bn r.th)(f:KL B r)(m:B<=4611686018427387904):
  pB c.mode c.X c.T c.R c.l c.Q c.k c.len c.words c.R c.l c.Q c.k (c.X.length:Int) c.T c.fixed c.tp c.sl c.ns r.L r.p r.q r.st r.sl r.sx r.kp r.ax r.th r.ls r.n0 r.n1 r.n2 r.n3 r.pk x=O (c.mode,c.X,c.T,c.R,c.l,c.Q,c.k,c.len,c.words,c.R,c.l,c.Q,c.k,(c.X.length:Int),c.T,c.fixed,c.tp,c.sl,c.ns,r.L,r.p,r.q,r.st,r.sl,r.sx,r.kp,(A4 c x r).ax,(A4 c x r).ls,(A4 c x r).n0,(A4 c x r).n1,(A4 c x r).n2,(A4 c x r).n3,r.pk,(A4 c x r).th):=by
 obtain⟨⟨z,A⟩,y,u,E,F,D⟩:=h.lens;obtain⟨C,g⟩:=D0 h wT b e;unfold KL at f;unfold pB;rw[Yh h wT b e,Qa h wT b e];simp only[zG];rw[<-a,Sl (by omega) (by rw[a];omega) d g];simp only[zG];rw[Zi,Zi];rfl
theorem Kx (h:c.Ok)(wT:bn c.T)(u:0<=t/\t<65536)(f:x.length=c.X.length)(g:bn x)(a:r.ax.length=c.X.length)(d:bn r.ax)(b:r.th.length=c.T.length)(e:bn r.th)(m:KL B r)(z:B<=4611686018427387904):
  nV c.mode c.X c.T c.R c.l c.Q c.k c.len c.words c.R c.l c.Q c.k (c.X.length:Int) c.T c.fixed c.tp c.sl c.ns r.L r.p r.q r.st r.sl r.sx r.kp r.ax r.th r.ls r.n0 r.n1 r.n2 r.n3 r.pk t x=O (c.mode,c.X,c.T,c.R,c.l,c.Q,c.k,c.len,c.words,c.R,c.l,c.Q,c.k,(c.X.length:Int),c.T,c.fixed,c.tp,c.sl,c.ns,r.L,r.p,r.q,r.st,r.sl,r.sx,r.kp,(Sw c t x r).ax,r.ls,r.n0,r.n1,r.n2,(Sw c t x r).n3,r.pk,(Sw c t x r).th):=by
 obtain⟨⟨D,E⟩,C,A,I,J,H⟩:=h.lens;obtain⟨F,y⟩:=D1 h wT (t:=t) f g a d;unfold KL at m;unfold nV;rw[Qb h wT u f g a d];simp only[zG];rw[<-b,Sl (by omega) (by rw[b];omega) e y];simp only[zG];rw[Zi];rfl
theorem Qd {l:List (Int×Zd)}(g:l.length<=1048576)(e:k<l.length):xw l sx (k:Int) t x=O (sx,l.set k (t,x)):=by
 unfold xw
 have a:=cx (f:=vH (k:Int)) (n:=l.length) (λi=>(l,sx,t,x,sx,(l.set k (t,x)).take i)) (c:=(l,sx,t,x,sx,l.set k (t,x))) (by omega)
  (λi hi=>by
   have b:i<(l.set k (t,x)).length:=by rw[aD];exact hi
   unfold vH;simp only;rw[Zf,zC,List.take_succ_eq_append_getElem b,cD];by_cases d:k=i
   .rw[Zf,zC,ca (by rw[dB];omega) (by omega),Zi,zE d];rfl
   .rw[Ze,zD,bh hi];simp only[zG];rw[ca (by rw[dB];omega) (by omega),Zi,zF d]
    rfl)
  (by
   unfold vH;rw[zA (by simp),zD];simp only
   rw[List.take_of_length_le (by simp)])
 rw[List.take_zero]at a;rw[a];rfl
theorem Gf.kept {W':Zd}(a:dv c W W'){x:Int×Zd}(h:Gf c W k x):Gf c W' k x:=by
 unfold Gf at*;rw[a.tag,a.seg (by unfold sp;omega)];exact h
theorem Slo.kept {W':Zd}{r r':RS}(H:Slo c W r)(d:dv c W W')(e1:r'.kp=r.kp)(b:r'.sx=r.sx)(a:r'.sl=r.sl):Slo c W' r':=by
 refine⟨e1.trans H.kp,b.trans H.sx,by rw[a];exact H.len,λk e=> ?_⟩;have:r'.sl[k]=r.sl[k]'(by rw[<-a];exact e):=by simp only[a]
 rw[this];exact(H.slot k _).kept d
theorem Has.put8 (h:c.Ok)(H:Has c W st ax at')(q:c.off 8<=o)(f:o+w.length<=c.off 9)(g:bn w):Has c (Go.V.put W o w) st ax at':=by
 have e:=H.wd.tk h
 have b: ∀j n,j<8->n<=c.sz j->seg (Go.V.put W o w) (c.off j) n=seg W (c.off j) n:=λj n d m=>
  Dd (by omega) (.inl (by have:=kc (c:=c) d;omega))
 exact⟨H.wd.put h f,H.w.put g _,(b 0 _ (by omega) (bB _)).trans H.t,(b 1 _ (by omega) (bB _)).trans H.s,(b 5 _ (by omega) (bB _)).trans H.x,(b 6 _ (by omega) (bB _)).trans H.a⟩
theorem aA6 (h:c.Ok)(q:c.mode≠3)(g:Wd c W)(m:k<c.ns.toNat)(e:x.length=c.X.length):
  (∀j,j<c.ns.toNat->j≠k->∀y,Gf c W j y->Gf c (put W (sp c k) (v::x)) j y)/\ge c (put W (sp c k) (v::x)) k=v/\seg (put W (sp c k) (v::x)) (sp c k+1) c.X.length=x:=by
 obtain⟨C,D,E⟩:=tn h q m;have u:=g.tk h;have a:sp c k+(v::x).length<=W.length:=by rw[aB];omega
 refine⟨λj A d y z=> ?_, ?_, ?_⟩
 .have hd:sp c j+(c.X.length+1)<=sp c k∨sp c k+(v::x).length<=sp c j:=by
   rw[aB,e];unfold sp;rcases Nat.lt_or_gt_of_ne d with b|hgt
   .left;have:=dD (c.X.length+1) (show j+1<=k from b);rw[Nat.succ_mul]at this;omega
   .right;have:=dD (c.X.length+1) (show k+1<=j from hgt);rw[Nat.succ_mul]at this;omega
  unfold Gf at*
  have f:ge c (put W (sp c k) (v::x)) j=ge c W j:=by
   unfold ge rg;rw[cB,bD,bD,X8 a (by rcases hd with hd|hd<;>omega)]
  rw[f,Dd a (by rcases hd with hd|hd;exact .inl (by omega);exact .inr (by omega))];exact z
 .unfold ge rg;rw[cB,bD,Gw a,zE (by rw[aB];omega),Nat.sub_self];rfl
 .apply List.ext_getElem?;intro i;rw[yv,Gw a];by_cases hi:i<c.X.length
  .rw[zE hi,zE (by rw[aB,e];omega),show sp c k+1+i-sp c k=i+1 by omega];rfl
  .rw[zF hi,List.getElem?_eq_none (by omega)]
theorem Slo.put (h:c.Ok)(D:c.mode≠3){r r':RS}(H:Slo c W r)(z:Wd c W)(A:k<c.ns.toNat){y:Zd}(E:x.length=c.X.length)(F:(0<=t/\y=x)∨(t= -1/\x=bp c.X.length))(e1:r'.kp=r.kp)(q:r'.sx=r.sx)(f:r'.sl=r.sl.set k (t,y)):Slo c (Go.V.put W (sp c k) ((t+1)::x)) r':=by
 obtain⟨I,J,K⟩:=aA6 h D z A (v:=t+1) E;have C:=H.len;refine⟨e1.trans H.kp,q.trans H.sx,by rw[f,aD];exact C,λj m=> ?_⟩;have d:j<r.sl.length:=by rw[f,aD]at m;exact m
 have u:r'.sl[j]=(r.sl.set k (t,y))[j]'(by rw[aD];exact d):=by simp only[f]
 rw[u,cD];by_cases g:k=j
 .subst g;rw[zE rfl];unfold Gf;rw[J,K];refine⟨rfl, ?_⟩;rcases F with⟨a,b⟩|⟨a,b⟩
  .exact .inl ⟨a,b⟩
  .exact .inr ⟨a,b⟩
 .rw[zF g];exact I j (by omega) (λe=>g e.symm) _ (H.slot j d)
end
end
section
open Go.IntKind renaming wrap -> zH, i64 -> zI, u64 -> zJ
open Int renaming reduceEq -> aB
section
variable {c:Cx} {r:RS}
def VB (c:Cx)(r:RS)(e:Int):=(c.mode,c.X,c.T,c.R,c.l,c.Q,c.k,c.len,c.words,c.R,c.l,c.Q,c.k,(c.X.length:Int),c.T,c.fixed,c.tp,c.sl,c.ns,r.L,r.p,r.q,r.st,r.sl,r.sx,r.kp,r.ax,r.th,r.ls,r.n0,r.n1,r.n2,r.n3,r.pk,e)
theorem Cx.Ok.rof (h:c.Ok):rJ c.mode c.X c.T c.R c.l c.Q c.k c.len c.words=O ((c.fl.n:Int),(c.fk.n:Int)):=by
 rw[LG h.hl h.hk,zF (by rw[h.hc];simp),h.pl.w,h.pk.w]
def vu (r:RS)(p q pk:Int):RS:={r with p:=p,q:=q,pk:=pk}
def oD (c:Cx)(r:RS)(i:Nat):RS:={r with st:=KB c r.p r.st i,n0:=r.n0+(i:Int)}
theorem ao5 (h:c.Ok)(wT:bn c.T)(b:r.st.length=c.X.length)(e:bn r.st){m:Nat}{a n:Int}{x0:Zd}{x1 x2 x3 x4 x5 x6:Int}{x7:Zd}{x8:Int}(z:n=(m:Int))(E:0<=r.p/\r.p+m<=65535)(y:KL B r)(D:B<=4611686018427387904):
  am vi cj (0,c.mode,c.X,c.T,c.R,c.l,c.Q,c.k,c.len,c.words,c.R,c.l,c.Q,c.k,(c.X.length:Int),c.T,c.fixed,c.tp,c.sl,c.ns,r.L,r.p,r.q,r.st,r.sl,r.sx,r.kp,r.ax,r.th,r.ls,r.n0,r.n1,r.n2,r.n3,r.pk,a,n,x0,x1,x2,x3,x4,x5,x6,x7,x8)=O (c.mode,c.X,c.T,c.R,c.l,c.Q,c.k,c.len,c.words,c.R,c.l,c.Q,c.k,(c.X.length:Int),c.T,c.fixed,c.tp,c.sl,c.ns,(oD c r m).L,(oD c r m).p,(oD c r m).q,(oD c r m).st,(oD c r m).sl,(oD c r m).sx,(oD c r m).kp,(oD c r m).ax,(oD c r m).th,(oD c r m).ls,(oD c r m).n0,(oD c r m).n1,(oD c r m).n2,(oD c r m).n3,(oD c r m).pk,a,n,x0,x1,x2,x3,x4,x5,x6,x7,x8):=by
 subst z;unfold KL at y
 have d:=C4 (f:=vi) (n:=m) (λi=>((i:Int),c.mode,c.X,c.T,c.R,c.l,c.Q,c.k,c.len,c.words,c.R,c.l,c.Q,c.k,(c.X.length:Int),c.T,c.fixed,c.tp,c.sl,c.ns,(oD c r i).L,(oD c r i).p,(oD c r i).q,(oD c r i).st,(oD c r i).sl,(oD c r i).sx,(oD c r i).kp,(oD c r i).ax,(oD c r i).th,(oD c r i).ls,(oD c r i).n0,(oD c r i).n1,(oD c r i).n2,(oD c r i).n3,(oD c r i).pk,a,(m:Int),x0,x1,x2,x3,x4,x5,x6,x7,x8)) (c:=(c.mode,c.X,c.T,c.R,c.l,c.Q,c.k,c.len,c.words,c.R,c.l,c.Q,c.k,(c.X.length:Int),c.T,c.fixed,c.tp,c.sl,c.ns,(oD c r m).L,(oD c r m).p,(oD c r m).q,(oD c r m).st,(oD c r m).sl,(oD c r m).sx,(oD c r m).kp,(oD c r m).ax,(oD c r m).th,(oD c r m).ls,(oD c r m).n0,(oD c r m).n1,(oD c r m).n2,(oD c r m).n3,(oD c r m).pk,a,(m:Int),x0,x1,x2,x3,x4,x5,x6,x7,x8)) (by omega)
  (λi hi=>by
   obtain⟨A,C⟩:=GF h wT (t:=r.p) b e i;simp only[vi];rw[Zf,zC];show((rI c.R c.l c.Q c.k (c.X.length:Int) c.T (zH zI (r.p+(i:Int))) (KB c r.p r.st i)).bind _)=_;rw[ad (n:=r.p+(i:Int)) (by omega),Kw h wT (by omega) A C];simp only[zG];show O (Sum.inl (zH zI ((i:Int)+1),_,_,_,_,_,_,_,_,_,_,_,_,_,_,_,_,_,_,_,_,_,_,_,_,_,_,_,_,_,zH zI (r.n0+(i:Int)+1),_))=_;rw[ad (n:=(i:Int)+1) (by omega),ad (n:=r.n0+(i:Int)+1) (by omega)];have g:(i:Int)+1=((i+1:Nat):Int):=by omega
   have u:r.n0+(i:Int)+1=r.n0+((i+1:Nat):Int):=by omega
   rw[g,u]
   rfl)
  (by
   simp only[vi]
   rw[Ze,zD])
 rw[<-d];show am _ _ _=am _ _ ((0:Int),_,_,_,_,_,_,_,_,_,_,_,_,_,_,_,_,_,_,_,_,_,_,_,_,_,_,_,_,_,r.n0+((0:Nat):Int),_);rw[show r.n0+((0:Nat):Int)=r.n0 by omega];rfl
theorem Wr {l:List (Int×Zd)}(b:l.length<=1048576)(a:k<l.length)(e:0<=t/\t<=65535)(f:(x.length:Int)=sx)(d:l[k].1<0):zL l sx (k:Int) t x=O (l.set k (t,x),sx,0):=by
 unfold zL;rw[Ze,zD,Ze,zD,Ze,zD,Ze,zD,Ze,zD,bh a];simp only[zG];rw[Ze,zD,Qd b a];rfl
theorem Rq {l:List (Int×Zd)}(b:k<l.length)(a: ¬l[k].1<0):vE l sx (k:Int)=O (l[k].1,l[k].2,0):=by
 unfold vE;rw[Ze,zD,Ze,zD,bh b];simp only[zG];rw[zA a,zD]
theorem Yi {l:List (Int×Zd)}(d:l.length<=1048576)(a:k<l.length)(b: ¬l[k].1<0):BH l sx (k:Int)=O (l.set k (-1,[]),sx,0):=by
 unfold BH;rw[Ze,zD,Ze,zD,bh a];simp only[zG];rw[zA b,zD,Qd d a];rfl
theorem Sj (h:c.Ok)(wT:bn c.T)(V:c.mode≠3)(hi:Inv c s)(H:RelD c s r)(S:Slo c s.W r)(hc:DD B s)(hB:B<=2305843009213693952)(a n:Int):
  ∃r',tE c.mode c.X c.T c.R c.l c.Q c.k c.len c.words c.R c.l c.Q c.k (c.X.length:Int) c.T c.fixed c.tp c.sl c.ns r.L r.p r.q r.st r.sl r.sx r.kp r.ax r.th r.ls r.n0 r.n1 r.n2 r.n3 r.pk a n=O (VB c r' (HF c a n s).1)/\RelD c (HF c a n s).2 r'/\Slo c (HF c a n s).2.W r':=by
 have nm:=h.num;have hW:=hi.w;have hL:=hi.L;have hp:=hi.p;have hq:=hi.q;have hpk:=hi.pk;have hns:=h.ns;have hcr:=H.cnt hc;have K:KL 4611686018427387904 r:=by unfold KL at*;omega
 obtain⟨g1,g2,g3,g4⟩:=DY h hi;obtain⟨M,k2,k3,k4,k5,k6⟩:=H.has.lens h wT;have htp:=nm.tp;rw[zF V]at htp;have hsl0:0<=c.sl:=by rw[nm.sl];have:=nm.R;split<;>omega
 have hlen:(mN c s.W).length<=1048576:=by rw[mz];omega
 have htm:=Df hi.tag;have y:=Y0 h V hi a n;have Hs:=H.has;obtain⟨⟨z1,z2⟩,hR,hQ,z3,z4,z5⟩:=h.lens;have eL:=H.L;have ep:=H.p;have U:=H.q;have F:=H.pk;unfold tE;rw[zA V,zD]
 have hspot:ju c.mode c.X c.T c.R c.l c.Q c.k c.len c.words c.R c.l c.Q c.k (c.X.length:Int) c.T c.fixed c.tp c.sl c.ns r.L r.p r.q r.st r.sl r.sx r.kp r.ax r.th r.ls r.n0 r.n1 r.n2 r.n3 r.pk=O (r.p,r.q,mN c s.W):=by
  unfold ju;rw[zB V,zC,Qc S h];rfl
 have A:=zn h hi S;rw[hspot];simp only[zG];rw[eL,ep,U,Qe hL hp hq hlen htm];simp only[zG];rw[ay9 hL hp hq (by omega) hlen htm];simp only[zG];have u: ∃r',O (c.mode,c.X,c.T,c.R,c.l,c.Q,c.k,c.len,c.words,c.R,c.l,c.Q,c.k,(c.X.length:Int),c.T,c.fixed,c.tp,c.sl,c.ns,r.L,r.p,r.q,r.st,r.sl,r.sx,r.kp,r.ax,r.th,r.ls,r.n0,r.n1,r.n2,r.n3,r.pk,(HF c a n s).1)=O (VB c r' (HF c a n s).1)/\RelD c s r'/\Slo c s.W r':=⟨r,rfl,H,S⟩
 rw[eL,ep,U]at u;rw[eL,ep,U]at A;unfold Rm;generalize b:HF c a n s=d at y u⊢;unfold HF at b;by_cases h1:jd a n=Zb∨7<a
 .rw[zE h1]at b;subst b;rw[zE h1,zB (by simp),zC];exact u
 rw[zF h1]at b⊢;obtain⟨h2,hk⟩:=zt h1;rw[mz,Int.toNat_of_nonneg hns.1];by_cases h4:(2<=a/\a<=4)/\c.ns<=n
 .rw[zE h4]at b;subst b;rw[zE h4,zB (by simp),zC];exact u
 rw[zF h4]at b⊢
 have slot:(2<=a/\a<=4)->n=((n.toNat:Nat):Int)/\n.toNat<c.ns.toNat/\rg (mN c s.W) n=ge c s.W n.toNat-1:=λhs=>by
  have hn:=uB h2 ⟨by omega,hs.2⟩
  have E:n.toNat<c.ns.toNat:=by
   have: ¬c.ns<=n:=λh7=>h4 ⟨hs,h7⟩
   omega
  exact⟨by omega,E,ab9 hn.1 E⟩
 have hsz:=S.len
 have I: ∀(f:RS) (e:Dy) (tp:Int),Inv c e->Slo c e.W f->0<=tp->max s.pk (max s.lv e.lv+tp)=e.pk->f.L=e.L->f.n0=e.c0->f.n1=e.c1->f.n2=e.c2->f.n3=e.c3->f.ls=e.z->Has c e.W f.st f.ax f.th->f.pk=s.pk->tp<=1000000->
   ∃r',((df c.mode c.X c.T c.R c.l c.Q c.k c.len c.words c.R c.l c.Q c.k (c.X.length:Int) c.T c.fixed c.tp c.sl c.ns (vu f e.p e.q f.pk).L (vu f e.p e.q f.pk).p (vu f e.p e.q f.pk).q (vu f e.p e.q f.pk).st (vu f e.p e.q f.pk).sl (vu f e.p e.q f.pk).sx (vu f e.p e.q f.pk).kp (vu f e.p e.q f.pk).ax (vu f e.p e.q f.pk).th (vu f e.p e.q f.pk).ls (vu f e.p e.q f.pk).n0 (vu f e.p e.q f.pk).n1 (vu f e.p e.q f.pk).n2 (vu f e.p e.q f.pk).n3 (vu f e.p e.q f.pk).pk).bind λg=>O (c.mode,c.X,c.T,c.R,c.l,c.Q,c.k,c.len,c.words,c.R,c.l,c.Q,c.k,(c.X.length:Int),c.T,c.fixed,c.tp,c.sl,c.ns,(vu f e.p e.q (max f.pk (zH zI ((max s.lv g)+tp)))).L,(vu f e.p e.q (max f.pk (zH zI ((max s.lv g)+tp)))).p,(vu f e.p e.q (max f.pk (zH zI ((max s.lv g)+tp)))).q,(vu f e.p e.q (max f.pk (zH zI ((max s.lv g)+tp)))).st,(vu f e.p e.q (max f.pk (zH zI ((max s.lv g)+tp)))).sl,(vu f e.p e.q (max f.pk (zH zI ((max s.lv g)+tp)))).sx,(vu f e.p e.q (max f.pk (zH zI ((max s.lv g)+tp)))).kp,(vu f e.p e.q (max f.pk (zH zI ((max s.lv g)+tp)))).ax,(vu f e.p e.q (max f.pk (zH zI ((max s.lv g)+tp)))).th,(vu f e.p e.q (max f.pk (zH zI ((max s.lv g)+tp)))).ls,(vu f e.p e.q (max f.pk (zH zI ((max s.lv g)+tp)))).n0,(vu f e.p e.q (max f.pk (zH zI ((max s.lv g)+tp)))).n1,(vu f e.p e.q (max f.pk (zH zI ((max s.lv g)+tp)))).n2,(vu f e.p e.q (max f.pk (zH zI ((max s.lv g)+tp)))).n3,(vu f e.p e.q (max f.pk (zH zI ((max s.lv g)+tp)))).pk,(0:Int)))=O (VB c r' 0)/\RelD c e r'/\Slo c e.W r':=λf e tp hi' S' N hpk' a1 a2 a3 a4 a5 a6 a7 a8 a9=>by
  have S2:Slo c e.W (vu f e.p e.q f.pk):=⟨S'.kp,S'.sx,S'.len,S'.slot⟩;have hl:=zn h hi' S2;have hin:=DY h hi';rw[hl];simp only[zG];rw[Zi,a8,hpk'];exact⟨vu f e.p e.q e.pk,rfl,⟨a1,rfl,rfl,a2,a3,a4,a5,a6,rfl,a7⟩,⟨S'.kp,S'.sx,S'.len,S'.slot⟩⟩
 rcases hk with rfl|rfl|rfl|rfl|rfl|rfl|rfl
 .have hn:=uB h2 (by omega);simp only[aB,reduceIte]at b⊢;by_cases C:s.L-s.p<n
  .rw[zE C]at b;subst b;rw[zE C,zB (by simp),zC];exact u
  rw[zF C]at b;subst b;rw[zF C,zA (by simp),zD,h.rof];simp only[zG];rw[A];simp only[zG];simp only[decide_true,decide_false,zC,zD];have hadv:=Hs.advW h wT s.p n.toNat;have hl:=ao5 (r:=r) h wT M k4 (m:=n.toNat) (a:=1) (n:=n) (x0:=mN c s.W) (x1:=s.L) (x2:=s.p) (x3:=s.q) (x4:=s.L) (x5:=s.p+n) (x6:=s.q) (x7:=mN c s.W) (x8:=0+n) (by omega) (by rw[ep];omega) K (by omega);rw[eL,ep,U]at hl;rw[hl];simp only[zG];have:=I (oD c r n.toNat) _ 0 y (S.kept (r':=oD c r n.toNat) (Om h hW s.p n.toNat) rfl rfl rfl) (by omega) (by simp only;omega) eL (by show r.n0+((n.toNat:Nat):Int)=s.c0+n;rw[H.n0];omega) H.n1 H.n2 H.n3 H.ls (by show Has c (advW c s.W s.p n.toNat) (KB c r.p r.st n.toNat) r.ax r.th;rw[ep];exact hadv) F (by omega);exact this
 .obtain⟨en,E,N⟩:=slot (by omega);simp only[aB,reduceIte]at b⊢;rw[N];have D:n.toNat<r.sl.length:=by omega
  have hsl:=S.slot n.toNat D;have hst:=Fj S D;by_cases C:0<=ge c s.W n.toNat-1
  .rw[zE C]at b;subst b;rw[zE C,zB (by simp),zC];exact u
  rw[zF C]at b;subst b;rw[zF C,zA (by simp),zD,h.rof];simp only[zG];rw[A];simp only[zG,decide_true,decide_false,zC,zD];have hS:=Wr (l:=r.sl) (sx:=r.sx) (k:=n.toNat) (t:=s.p) (x:=r.st) (by omega) D (by omega) (by rw[S.sx,M]) (by omega);rw[<-en]at hS;rw[hS];simp only[zG]
  have eW:zH zJ (zH zI (s.p+1))::seg s.W (c.off 1) c.X.length=(s.p+1)::r.st:=by
   rw[Zi,QI ⟨by omega,by omega⟩,Hs.s]
  have hsp:=tn h V E;have Z:((s.p+1)::r.st).length=c.X.length+1:=by rw[List.length_cons,M]
  have wx1:bn ((s.p+1)::r.st):=λv hv=>by
   rcases List.mem_cons.1 hv with rfl|hv
   .unfold zg;omega
   .exact k4 v hv
  rw[eW]at y⊢;exact I {r with L:=s.L,sl:=r.sl.set n.toNat (s.p,r.st)} _ 0 y (S.put h V hW E M (.inl ⟨hp.1,rfl⟩) rfl rfl rfl) (by omega) (by simp only;omega) rfl H.n0 H.n1 H.n2 H.n3 H.ls (Hs.put8 h (by unfold sp;omega) (by rw[Z];omega) wx1) F (by omega)
 .obtain⟨en,E,N⟩:=slot (by omega);simp only[aB,reduceIte]at b⊢;rw[N];have D:n.toNat<r.sl.length:=by omega
  have hsl:=S.slot n.toNat D;have hst:=Fj S D;by_cases C:ge c s.W n.toNat-1<0
  .rw[zE C]at b;subst b;rw[zE C,zB (by simp),zC];exact u
  rw[zF C]at b;subst b;rw[zF C,zA (by simp),zD,h.rof];simp only[zG];rw[A];simp only[zG,decide_true,decide_false,zC,zD];have hS:=Rq (l:=r.sl) (sx:=r.sx) (k:=n.toNat) D (by omega);rw[<-en]at hS;rw[hS];simp only[zG]
  have hx:r.sl[n.toNat].2=seg s.W (sp c n.toNat+1) c.X.length:=by
   rcases hsl.2 with⟨_,q⟩|⟨q,_⟩
   .exact q
   .omega
  have hsp:=tn h V E;have htk:=hW.tk h;have hl2:(seg s.W (sp c n.toNat+1) c.X.length).length=c.X.length:=cv (by omega)
  exact I {r with L:=s.L,st:=r.sl[n.toNat].2} _ 0 y (S.kept (dv.put h (dv.refl s.W) hW (i:=1) (by omega) (by rw[hl2];exact Nat.le_refl _)) rfl rfl rfl) (by omega) (by simp only;omega) rfl H.n0 H.n1 H.n2 H.n3 H.ls (by
   show Has c (put s.W (c.off 1) (seg s.W (sp c n.toNat+1) c.X.length)) r.sl[n.toNat].2 r.ax r.th;rw[hx]
   exact Hs.put1 h hl2 (Hs.w.seg _ _)) F (by omega)
 .obtain⟨en,E,N⟩:=slot (by omega);simp only[aB,reduceIte]at b⊢;rw[N];have D:n.toNat<r.sl.length:=by omega
  have hsl:=S.slot n.toNat D;have hst:=Fj S D;by_cases C:ge c s.W n.toNat-1<0
  .rw[zE C]at b;subst b;rw[zE C,zB (by simp),zC];exact u
  rw[zF C]at b;subst b;rw[zF C,zA (by simp),zD,h.rof];simp only[zG];rw[A];simp only[zG,decide_true,decide_false,zC,zD];have hS:=Yi (l:=r.sl) (sx:=r.sx) (k:=n.toNat) (by omega) D (by omega);rw[<-en]at hS;rw[hS];simp only[zG];have hsp:=tn h V E;have eW:bp (c.X.length+1)=(-1+1)::bp c.X.length:=rfl;have hlh:=VQ h hi (WZ E (by omega))
  exact I {r with L:=s.L,sl:=r.sl.set n.toNat (-1,[])} _ 0 y (by
   show Slo c (put s.W (sp c n.toNat) (bp (c.X.length+1))) _;rw[eW]
   exact S.put h V hW E (bz _) (.inr ⟨rfl,rfl⟩) rfl rfl rfl) (by omega) (by simp only;omega) rfl H.n0 H.n1 H.n2 H.n3 H.ls (Hs.put8 h (by unfold sp;omega) (by rw[bz];omega) (bn.rep _)) F (by omega)
 .simp only[aB,reduceIte]at b⊢;by_cases C:s.q≠ -1
  .rw[zE C]at b;subst b;rw[zE C,zB (by simp),zC];exact u
  rw[zF C]at b⊢;by_cases J:s.p≠s.L
  .rw[zE J]at b;subst b;rw[zE J,zB (by simp),zC];exact u
  rw[zF J]at b;subst b;rw[zF J,zA (by simp),zD,h.rof];simp only[zG];rw[A];simp only[zG,decide_true,decide_false,zC,zD];have he:pB c.mode c.X c.T c.R c.l c.Q c.k c.len c.words c.R c.l c.Q c.k (c.X.length:Int) c.T c.fixed c.tp c.sl c.ns s.L s.p s.q r.st r.sl r.sx r.kp r.ax r.th r.ls r.n0 r.n1 r.n2 r.n3 r.pk r.st=_:=MO (r:={r with L:=s.L,p:=s.p,q:=s.q}) h wT M k4 k3 k6 K (by omega);rw[he];simp only[zG];have hE:=Hs.endd h wT M k4;have eW:seg s.W (c.off 1) c.X.length=r.st:=Hs.s;rw[eW]at y⊢;exact I {A4 c r.st r with L:=s.L} _ (c.fk.n:Int) y (S.kept (Lp h hW M) rfl rfl rfl) (by omega) (by simp only;omega) rfl H.n0 H.n1 (by show r.n2+1=s.c2+1;rw[H.n2]) (by show r.n3+1=s.c3+1;rw[H.n3]) (Hs.lossV h wT r.st).symm hE F (by have:=h.pk.n;omega)
 .simp only[aB,reduceIte]at b⊢;by_cases C:s.q≠ -1
  .rw[zE C]at b;subst b;rw[zE C,zB (by simp),zC];exact u
  rw[zF C]at b⊢;by_cases J:s.p≠s.L-1
  .rw[zE J]at b;subst b;rw[zE J,zB (by simp),zC];exact u
  rw[zF J]at b;subst b;rw[zF J,zA (by simp),zD,h.rof];simp only[zG];rw[A];simp only[zG,decide_true,decide_false,zC,zD];obtain⟨v1,v2⟩:=AL h wT (t:=s.p) M k4;rw[Kw h wT (by omega) M k4];simp only[zG];generalize Z:AK c s.p r.st=x1 at*;obtain⟨q1,q2⟩:=D0 h wT v1 v2;have he:pB c.mode c.X c.T c.R c.l c.Q c.k c.len c.words c.R c.l c.Q c.k (c.X.length:Int) c.T c.fixed c.tp c.sl c.ns s.L s.p s.q r.st r.sl r.sx r.kp r.ax r.th r.ls r.n0 r.n1 r.n2 r.n3 r.pk x1=O (c.mode,c.X,c.T,c.R,c.l,c.Q,c.k,c.len,c.words,c.R,c.l,c.Q,c.k,(c.X.length:Int),c.T,c.fixed,c.tp,c.sl,c.ns,s.L,s.p,s.q,r.st,r.sl,r.sx,r.kp,(A4 c x1 r).ax,(A4 c x1 r).ls,(A4 c x1 r).n0,(A4 c x1 r).n1,(A4 c x1 r).n2,(A4 c x1 r).n3,r.pk,(A4 c x1 r).th):=MO (r:={r with L:=s.L,p:=s.p,q:=s.q}) h wT v1 v2 k3 k6 K (by omega);rw[he];simp only[zG];have N:nV c.mode c.X c.T c.R c.l c.Q c.k c.len c.words c.R c.l c.Q c.k (c.X.length:Int) c.T c.fixed c.tp c.sl c.ns s.L s.p s.q r.st r.sl r.sx r.kp (A4 c x1 r).ax (A4 c x1 r).th (A4 c x1 r).ls (A4 c x1 r).n0 (A4 c x1 r).n1 (A4 c x1 r).n2 (A4 c x1 r).n3 r.pk s.p r.st=_:=Kx (r:={A4 c x1 r with L:=s.L,p:=s.p,q:=s.q}) (B:=4611686018427387904) h wT (by omega) M k4 (by show((Da c x1).take c.X.length).length=_;rw[List.length_take];omega) (q2.take _) (by show(Av c.X.length r.th (Da c x1)).length=_;rw[vp];exact k3) (ao3 _ _ _) (by unfold KL DD at*;show(0<=r.n0/\r.n0<=4611686018427387904)/\(0<=r.n1/\r.n1<=4611686018427387904)/\(0<=r.n2+1/\r.n2+1<=4611686018427387904)/\0<=r.n3+1/\r.n3+1<=4611686018427387904;omega) (by omega)
  have hE:=Hs.both h wT s.p;rw[Z]at hE
  have eZ:rg (lossR c (put s.W (c.off 2) (stepR c s.W s.p).1) ((stepR c s.W s.p).1.take c.X.length)).1 0=lossV c x1:=by
   rw[(Hs.taped h wT s.p).lossV h wT,Hs.stepR h,(wk h wT (t:=s.p) M k4).2.2.2.2,Z]
  rw[eZ]at y⊢;unfold DD at hc;rw[N];simp only[zG];show∃r',((df _ _ _ _ _ _ _ _ _ _ _ _ _ _ _ _ _ _ _ _ _ _ _ _ _ _ _ _ _ _ (zH zI (r.n1+1)) _ _ _).bind λg=>O (_,_,_,_,_,_,_,_,_,_,_,_,_,_,_,_,_,_,_,_,_,_,_,_,_,_,_,_,_,_,(zH zI (r.n1+1)),_,_,max r.pk (zH zI ((max s.lv g)+(zH zI ((c.fl.n:Int)+(c.fk.n:Int))))),0))=_/\_
  have hfn:=h.pl.n;have hfk:=h.pk.n;rw[ad (n:=r.n1+1) (by have:=H.n1;omega),ad (n:=(c.fl.n:Int)+(c.fk.n:Int)) (by omega)];exact I {Sw c s.p r.st (A4 c x1 r)with L:=s.L,n1:=r.n1+1} _ ((c.fl.n:Int)+(c.fk.n:Int)) y (S.kept (Lo h hW s.p).1 rfl rfl rfl) (by omega) (by simp only;omega) rfl H.n0 (by show r.n1+1=s.c1+1;rw[H.n1]) (by show r.n2+1=s.c2+1;rw[H.n2]) (by show r.n3+1+1=s.c3+1+1;rw[H.n3]) rfl hE F (by omega)
 .simp only[aB,reduceIte]at b⊢;by_cases C:s.q<=0
  .rw[zE C]at b;subst b;rw[zE C,zB (by simp),zC];exact u
  rw[zF C]at b⊢;by_cases J:s.p≠s.q-1
  .rw[zE J]at b;subst b;rw[zE J,zB (by simp),zC];exact u
  rw[zF J]at b;subst b;rw[zF J,zA (by simp),zD,h.rof];simp only[zG];rw[A];simp only[zG,decide_true,decide_false,zC,zD];have N:nV c.mode c.X c.T c.R c.l c.Q c.k c.len c.words c.R c.l c.Q c.k (c.X.length:Int) c.T c.fixed c.tp c.sl c.ns s.L s.p s.q r.st r.sl r.sx r.kp r.ax r.th r.ls r.n0 r.n1 r.n2 r.n3 r.pk s.p r.st=_:=Kx (r:={r with L:=s.L,p:=s.p,q:=s.q}) h wT (by omega) M k4 k2 k5 k3 k6 K (by omega);have hE:=Hs.rev h wT s.p;unfold DD at hc;rw[N];simp only[zG];have hfn:=h.pl.n;rw[ad (n:=r.n1+1) (by have:=H.n1;omega)];exact I {Sw c s.p r.st r with L:=s.L,n1:=r.n1+1} _ (c.fl.n:Int) y (S.kept (On h hW s.p).1 rfl rfl rfl) (by omega) (by simp only;omega) rfl H.n0 (by show r.n1+1=s.c1+1;rw[H.n1]) H.n2 (by show r.n3+1=s.c3+1;rw[H.n3]) H.ls hE F (by omega)
end
end
section
open Bool renaming not_true -> aB
open List renaming length_take -> bB, take_succ_eq_append_getElem -> bD
open Nat renaming le_refl -> aD
section
variable {c:Cx} {r:RS}
structure Bas (c:Cx)(s:Dy)(r:RS):Prop where
 sl:r.sl=[]
 len:(r.kp.length:Int)=iv s
 kept: ∀i,∀hi:i<r.kp.length,r.kp[i].length=c.X.length/\bn r.kp[i]/\seg s.W (oJ c i) c.sl.toNat=(qk c (i:Int) r.kp[i]).2.1++(qk c (i:Int) r.kp[i]).1
theorem VK (hi:InvB c s):0<=iv s/\iv s<=s.L:=by
 have:=hi.p;have:=hi.q;unfold iv;split<;>omega
theorem Jh (h:c.Ok)(m:c.mode=3)(hi:InvB c s)(H:Bas c s r):df c.mode c.X c.T c.R c.l c.Q c.k c.len c.words c.R c.l c.Q c.k (c.X.length:Int) c.T c.fixed c.tp c.sl c.ns r.L r.p r.q r.st r.sl r.sx r.kp r.ax r.th r.ls r.n0 r.n1 r.n2 r.n3 r.pk=O s.lv:=by
 obtain⟨u,y,z,A,C,D,E⟩:=MC h m hi;have f:=VK hi;have I:=vw h;have J:=h.ns;have d:=h.num;have a:0<=c.sl:=by rw[d.sl];have:=d.R;split<;>omega
 have b:=hi.lv;have F:0<=c.sl*iv s:=Int.mul_nonneg a f.1;have e:(((r.sl.countP λx=>Zc (0<=x.1):Nat):Int)+r.kp.length)=iv s:=by rw[H.sl,H.len];simp
 have g:r.kp.length<=65535:=by have:=H.len;have:=hi.L;have:=d.len;omega
 rw[Qf h (by rw[H.sl];simp) (by omega) (by rw[e];omega) (by omega),e,b]
theorem UB (h:c.Ok)(e:Pl c):tD c.mode c.X c.T c.R c.l c.Q c.k c.len c.words=O (0,c.P):=by
 obtain⟨p,a,b,_⟩:=aj2 (a0:=c.mode) (a1:=c.X) (a2:=c.T) (a3:=c.R) (a5:=c.Q) (a7:=c.len) (a8:=c.words) h.hl h.hk;rw[P1 h e]at a;injection a with a
 rw[b,<-a]
theorem Yo (h:c.Ok)(wT:bn c.T)(hi:i<r.kp.length)(hi2:i<65536)(u:r.kp[i].length=c.X.length)(J:bn r.kp[i]):BP c.mode c.X c.T c.R c.l c.Q c.k c.len c.words c.R c.l c.Q c.k (c.X.length:Int) c.T c.fixed c.tp c.sl c.ns r.L r.p r.q r.st r.sl r.sx r.kp r.ax r.th r.ls r.n0 r.n1 r.n2 r.n3 r.pk (i:Int)=O ((qk c (i:Int) r.kp[i]).2.1++(qk c (i:Int) r.kp[i]).1):=by
 obtain⟨⟨l1,l2⟩,hR,hQ,x1,x2,t2⟩:=h.lens;obtain⟨U,V,Z,f4,f5⟩:=wk h wT (t:=(i:Int)) u J;have hb:=Aw (c:=c) (i:Int) u;have hu:=h.pl.ulen;have I:=h.pl.goodU;have wb:=Ig (t:=(i:Int)) J wT;unfold BP pX;rw[yu h.pl];simp only[zG];rw[bh hi];simp only[zG];rw[uA (by omega) (by omega) (by simp)];simp only[zG];have e:r.kp[i]++(c.T++[IntKind.u64.wrap (i:Int)])=BY c (i:Int) r.kp[i]:=rfl;rw[e,AB ⟨by omega,by omega⟩ (by omega)];simp only[zG];have D:(fill c.R (BY c (i:Int) r.kp[i])).length=c.R.toNat:=ia (by omega);have K:qk c (i:Int) r.kp[i]=AN pQ c.fl.unroll (fill c.R (BY c (i:Int) r.kp[i]),bp c.fl.n,0):=rfl;have H:bn (fill c.R (BY c (i:Int) r.kp[i])):=wb.fill;rw[K]at U V Z f4⊢;generalize fill c.R (BY c (i:Int) r.kp[i])=a at*
 have F:=cx (f:=vM (c.fl.unroll,0)) (n:=c.fl.unroll.length) (λk=>((AN pQ (c.fl.unroll.take k) (a,bp c.fl.n,0)).2.1.take k,(AN pQ (c.fl.unroll.take k) (a,bp c.fl.n,0)).1)) (c:=((AN pQ c.fl.unroll (a,bp c.fl.n,0)).2.1,(AN pQ c.fl.unroll (a,bp c.fl.n,0)).1)) (by omega)
  (λk m=>by
   rw[QA m];obtain⟨A,C,g⟩:=Ll (c.fl.unroll.take k) (a,bp c.fl.n,0);obtain⟨M,e7⟩:=XS (c.fl.unroll.take k) (a,bp c.fl.n,0) H (bn.rep _) (λo E=>(I o (List.mem_of_mem_take E)).2);rw[bB,Nat.min_eq_left (by omega)]at g;generalize AN pQ (c.fl.unroll.take k) (a,bp c.fl.n,0)=s at*;have d:=I _ (List.getElem_mem m)
   have b:Il c.fl.unroll (k:Int) ((k+1:Nat):Int)=[c.fl.unroll[k]]:=by
    unfold Il;simp only[Int.toNat_natCast];rw[bD m,List.drop_left' (by rw[bB];omega)]
   generalize u:c.fl.unroll[k]=x at*;obtain⟨y,ka,kb,z,q2,q3,g1,g2,g3⟩:=B2 d.1;have A:s.1.length=a.length:=A;have C:s.2.1.length=(bp c.fl.n).length:=C;rw[bz]at C;have g:s.2.2=k:=by rw[g];simp
   unfold vM;simp only;rw[Zf,zC,bh m,u];simp only[zG];rw[z,bi (by omega:y<s.1.length)];simp only[zG];rw[db (by omega:y<s.1.length)];simp only[zG];rw[ca (by rw[bB];omega) (by omega),ad (n:=(k:Int)+1) (by omega),show(k:Int)+1=((k+1:Nat):Int)by omega,Zk,bw,b];rw[IC (l:=[x]) (r:=s.1) (by simp) (by omega) (λo E=>by rw[List.mem_singleton.1 E,A,D];exact d) M 0];simp only[zG]
   have N:(pQ x s).2.1.take (k+1)=s.2.1.take k++[rg s.1 (y:Int)]:=by
    unfold pQ;simp only;rw[g,z,bD (by rw[List.length_set];omega),List.getElem_set_self,List.take_set_of_le (aD _)]
   rw[N];unfold pQ;rw[z];show O (Sum.inl (_,_,(AN GH [x] (s.1,0)).1))=_
   have S:(AN GH [x] (s.1,0)).1=s.1.set y (app x (rg s.1 x.2.2.1) (rg s.1 x.2.2.2.1)):=by
    show s.1.set x.2.1.toNat _=_;rw[z];rfl
   rw[S]
   rfl)
  (by
   unfold vM;rw[zA (by simp),zD,List.take_length,hu.1];simp only
   rw[List.take_of_length_le (by omega)])
 rw[show((0:Int),([]:Zd),a)=((0:Int),(AN pQ (c.fl.unroll.take 0) (a,bp c.fl.n,0)).2.1.take 0,(AN pQ (c.fl.unroll.take 0) (a,bp c.fl.n,0)).1)from rfl,F];simp only[zG];rw[uA (by omega) (by omega) (by simp)];simp only[zG,List.append_nil]
theorem Wv (h:c.Ok)(wT:bn c.T)(m:c.mode=3)(hi:InvB c s)(H:Bas c s r):vj c.mode c.X c.T c.R c.l c.Q c.k c.len c.words c.R c.l c.Q c.k (c.X.length:Int) c.T c.fixed c.tp c.sl c.ns r.L r.p r.q r.st r.sl r.sx r.kp r.ax r.th r.ls r.n0 r.n1 r.n2 r.n3 r.pk s.W (c.off 8:Int)=O Za:=by
 obtain⟨M,N,S,U,V,Z,b7⟩:=MC h m hi;have hh:=VK hi;have F:=hi.w.tk h;have g:=h.num.len;have hL:=hi.L;unfold vj;have E:r.kp.length<=c.ns.toNat:=by have:=H.len;omega
 have d:=oi (f:=ur c.mode c.X c.T c.R c.l c.Q c.k c.len c.words c.R c.l c.Q c.k (c.X.length:Int) c.T c.fixed c.tp c.sl c.ns r.L r.p r.q r.st r.sl r.sx r.kp r.ax r.th r.ls r.n0 r.n1 r.n2 r.n3 r.pk s.W (c.off 8:Int)) (n:=r.kp.length) (c:= .inr ()) (by omega)
  (λi a=>by
   obtain⟨u,y,I⟩:=H.kept i a;obtain⟨J,s2,K,s4⟩:=AH h m (i:=i) (by omega);obtain⟨f1,f2,C,D,f5⟩:=wk h wT (t:=(i:Int)) u y;have e:((qk c (i:Int) r.kp[i]).2.1++(qk c (i:Int) r.kp[i]).1).length=c.sl.toNat:=by rw[List.length_append,C,D,J]
   unfold ur;rw[Zf,zC,Yo h wT a (by omega) u y];simp only[zG];have b:c.sl=((c.sl.toNat:Nat):Int):=by have:=h.num.R;omega
   have z:(i:Int)*c.sl=((i*c.sl.toNat:Nat):Int):=by rw[Int.natCast_mul,<-b]
   have A:(c.off 8:Int)+((i*c.sl.toNat:Nat):Int)=(oJ c i:Int):=by unfold oJ;omega
   have e3:((i*c.sl.toNat:Nat):Int)<=1048576:=by unfold oJ at K;omega
   rw[z,ad (n:=((i*c.sl.toNat:Nat):Int)) (by omega),A,ad (n:=(oJ c i:Int)) (by omega)];rw[GA (by rw[e];omega) (by omega) (by rw[e];exact I)];simp only[zG];rw[aB,zD,Zi]
   rfl)
  (by
   unfold ur
   rw[Ze,zD])
 rw[d];rfl
theorem Sp (h:c.Ok)(e:Pl c)(H:Has c W r.st r.ax r.th){x:Option Bool}(K:(cond (Zc (c.mode=3))
    ((vj c.mode c.X c.T c.R c.l c.Q c.k c.len c.words c.R c.l c.Q c.k (c.X.length:Int) c.T c.fixed c.tp c.sl c.ns r.L r.p r.q r.st r.sl r.sx r.kp r.ax r.th r.ls r.n0 r.n1 r.n2 r.n3 r.pk W (c.off 8:Int)).bind λb=>O b)
    ((vd r.sl r.sx).bind λd=>(io W (c.off 8:Int) d).bind λf=>O f))=x):oe c.mode c.X c.T c.R c.l c.Q c.k c.len c.words c.R c.l c.Q c.k (c.X.length:Int) c.T c.fixed c.tp c.sl c.ns r.L r.p r.q r.st r.sl r.sx r.kp r.ax r.th r.ls r.n0 r.n1 r.n2 r.n3 r.pk W=x:=by
 have M:c.P.length=10:=Cx.P_len;have F:=H.wd.tk h;have I:=H.wd;unfold Wd at I;have J:0<=c.words:=by have:=h.off9_le;omega
 unfold oe;rw[UB h e];simp only[zG];rw[Ze,zD];have z:ix 0 c.P.length=O 0:=bi (k:=0) (by omega);have A:ix 1 c.P.length=O 1:=bi (k:=1) (by omega);have C:ix 5 c.P.length=O 5:=bi (k:=5) (by omega);have D:ix 6 c.P.length=O 6:=bi (k:=6) (by omega);have E:ix 8 c.P.length=O 8:=bi (k:=8) (by omega);have g:=D4 h H.wd (i:=0) (by omega) (aD _) H.t;have m:=D4 h H.wd (i:=1) (by omega) (aD _) H.s;have u:=D4 h H.wd (i:=5) (by omega) (aD _) H.x;have y:=D4 h H.wd (i:=6) (by omega) (aD _) H.a;rw[z];simp only[zG];rw[Cx.P_get (i:=0) (by omega)];simp only[zG];rw[g];simp only[zG];rw[aB,zD,A];simp only[zG];rw[Cx.P_get (i:=1) (by omega)];simp only[zG];rw[m];simp only[zG];rw[aB,zD,C];simp only[zG];rw[Cx.P_get (i:=5) (by omega)]
 simp only[zG];rw[u];simp only[zG];rw[aB,zD,D];simp only[zG];rw[Cx.P_get (i:=6) (by omega)];simp only[zG];rw[y];simp only[zG];rw[aB,zD,E];simp only[zG];rw[Cx.P_get (i:=8) (by omega)];exact K
theorem bd7 (h:c.Ok)(wT:bn c.T)(a:c.mode=3)(e:Pl c)(hi:InvB c s)(H:Has c s.W r.st r.ax r.th)(S:Bas c s r):oe c.mode c.X c.T c.R c.l c.Q c.k c.len c.words c.R c.l c.Q c.k (c.X.length:Int) c.T c.fixed c.tp c.sl c.ns r.L r.p r.q r.st r.sl r.sx r.kp r.ax r.th r.ls r.n0 r.n1 r.n2 r.n3 r.pk s.W=O Za:=by
 refine Sp h e H ?_;rw[zB a,zC,Wv h wT a hi S];rfl
theorem aA4 (h:c.Ok)(b:c.mode≠3)(e:Pl c)(hi:Inv c s)(H:Has c s.W r.st r.ax r.th)(S:Slo c s.W r):oe c.mode c.X c.T c.R c.l c.Q c.k c.len c.words c.R c.l c.Q c.k (c.X.length:Int) c.T c.fixed c.tp c.sl c.ns r.L r.p r.q r.st r.sl r.sx r.kp r.ax r.th r.ls r.n0 r.n1 r.n2 r.n3 r.pk s.W=O Za:=by
 refine Sp h e H ?_;have m:=hi.L;have g:=hi.w.tk h;rw[zA b,zD,Ws h b hi.w H.w S (λk f=>by have:=hi.tag k f;omega)];simp only[zG]
 have a:c.off 8+c.ns.toNat*(c.X.length+1)<=s.W.length:=by
  rcases Nat.eq_zero_or_pos c.ns.toNat with h0|h0
  .rw[h0,Nat.zero_mul];have:=aw5 (c:=c) (show 8<=9 by omega);omega
  .have:=(tn h b h0).2.1;omega
 have d:=cv a;rw[GA (by rw[d];exact a) (by omega) (by rw[d])];rfl
end
end
section
section
variable {c:Cx} {r:RS}
theorem Ym (H:RelD c s r)(m:0<=s.L/\s.L<=65535):BO c.mode c.X c.T c.R c.l c.Q c.k c.len c.words c.R c.l c.Q c.k (c.X.length:Int) c.T c.fixed c.tp c.sl c.ns r.L r.p r.q r.st r.sl r.sx r.kp r.ax r.th r.ls r.n0 r.n1 r.n2 r.n3 r.pk=O (VB c {r with L:=(qh c s).2.L} (qh c s).1):=by
 have d:=H.L;have g:=H.q;have b:({r with L:=s.L}:RS)=r:=by rw[<-d]
 unfold BO qh;by_cases a:c.mode≠2
 .rw[zB a,zC,zE a];simp only;rw[b];rfl
 rw[zA a,zD,zF a];by_cases e:0<=s.q
 .rw[zB (show 0<=r.q by omega),zC,zE e];simp only;rw[b];rfl
 rw[zA (show¬0<=r.q by omega),zD,zF e];by_cases f:s.L=65535
 .rw[zB (show r.L=65535 by omega),zC,zE f];simp only;rw[b];rfl
 rw[zA (show¬r.L=65535 by omega),zD,zF f,d,Zi];rfl
theorem RelD.more (H:RelD c s r):RelD c (qh c s).2 {r with L:=(qh c s).2.L}:=by
 rw[PU];exact⟨rfl,H.p,H.q,H.n0,H.n1,H.n2,H.n3,H.ls,H.pk,H.has⟩
end
end
section
open Int renaming toNat_natCast -> bB, reduceEq -> bD
open List renaming length_append -> aB, length_singleton -> aD, getD_eq_getElem?_getD -> cB, length_take -> cD, take_of_length_le -> dB, getElem?_eq_getElem -> fB
open Nat renaming le_of_eq -> dD, le_refl -> eD
theorem al2 (h:j≠i):rg (l.set j v) (i:Int)=rg l (i:Int):=by
 unfold rg;rw[bB,cB,cB,List.getElem?_set_ne h]
theorem Wz (h:j<l.length):rg (l.set j v) (j:Int)=v:=by
 unfold rg;rw[bB,cB,List.getElem?_set_self h];rfl
theorem RD (t:Zd): ∀(l:List bu) (r a b:Zd) (n:Nat),(DB (sq t) l (r,a,n)).1=(DB (sq t) l (r,b,n)).1/\(DB (sq t) l (r,a,n)).2.2=(DB (sq t) l (r,b,n)).2.2
 |[],_,_,_,_=>⟨rfl,rfl⟩
 |o::l,r,a,b,n=>by
  obtain⟨e,d⟩:=RD t l r a b n;refine⟨?_, ?_⟩
  .show(DB (sq t) l (r,a,n)).1.set o.2.1.toNat (rg t (((DB (sq t) l (r,a,n)).2.2-1:Nat):Int))=_;rw[e,d];rfl
  .show(DB (sq t) l (r,a,n)).2.2-1=_;rw[d];rfl
theorem aq7 (t:Zd)(l:List bu)(r a b:Zd)(n:Nat):(DB (sq t) l (r,a,n)).1=(DB (sq t) l (r,b,n)).1:=(RD t l r a b n).1
theorem bp7 {a:Zd}: ∀(n:Nat) (l:List bu),l.length=n->∀(r e t:Zd),(∀o∈l,Xg r.length o)->l.length<=e.length->(∀i,i<l.length->rg t (i:Int)=rg (AN pQ l (r,e,0)).2.1 (i:Int))->(DB (sq t) l ((AN pQ l (r,e,0)).1,a,l.length)).1=r
 |0,l,u,r,e,t,_,_,_=>by
  have:=List.length_eq_zero_iff.1 u;subst this;rfl
 |n+1,l,u,r,e,t,J,M,z=>by
  obtain⟨d,o,rfl⟩: ∃d o,l=d++[o]:=⟨l.take n,l[n]'(by omega),by
   rw[<-List.take_succ_eq_append_getElem (by omega),dB (by omega)]⟩
  rw[aB,aD]at u M;have y:d.length=n:=by omega
  obtain⟨E,F,g⟩:=Ll d (r,e,0);rw[TG];have N:AN pQ (d++[o]) (r,e,0)=pQ o (AN pQ d (r,e,0)):=by rw[Oj];rfl
  rw[N]at z⊢;have U:=bp7 (a:=a) n d y r e t (λx S=>J x (by simp[S])) (by omega);have m: ∀D,(DB (sq t) d ((AN pQ d (r,e,0)).1,D,d.length)).1=(DB (sq t) d ((AN pQ d (r,e,0)).1,a,d.length)).1:=λD=>aq7 t d _ _ _ _
  have q:=J o (by simp);generalize AN pQ d (r,e,0)=s at*;have E:s.1.length=r.length:=E;have F:s.2.1.length=e.length:=F;have g:s.2.2=d.length:=by rw[g];simp
  obtain⟨V,ka,kb,K,q2,q3,g1,g2,g3⟩:=B2 q;have Q:=z d.length (by rw[aB,aD];omega)
  have A: ∀i,i<d.length->rg t (i:Int)=rg s.2.1 (i:Int):=λi hi=>by
   rw[z i (by rw[aB,aD];omega)];show rg (s.2.1.set s.2.2 (rg s.1 o.2.1)) (i:Int)=_;exact al2 (by omega)
  have C:rg t ((d.length:Nat):Int)=rg s.1 (V:Int):=by
   rw[Q];show rg (s.2.1.set s.2.2 (rg s.1 o.2.1)) ((d.length:Nat):Int)=_;rw[g,K];exact Wz (by omega)
  have f:(DB (sq t) [o] ((pQ o s).1,a,(d++[o]).length)).1=s.1/\(DB (sq t) [o] ((pQ o s).1,a,(d++[o]).length)).2.2=d.length:=by
   rw[aB,aD];refine⟨?_,by show d.length+1-1=_;omega⟩;show((s.1.set o.2.1.toNat _).set o.2.1.toNat (rg t ((d.length+1-1:Nat):Int)))=s.1;rw[K,bB,List.set_set,Nat.add_sub_cancel,C,Yv (by omega)]
  generalize hb:DB (sq t) [o] ((pQ o s).1,a,(d++[o]).length)=b at*;obtain⟨X,L,Z⟩:=b;obtain⟨H,I⟩:=f;simp only at H I;subst H I;rw[m L];exact U A
section
variable {c:Cx} {r:RS}
theorem aN0 (W:Zd)(o n m:Nat):seg W o (n+m)=seg W o n++seg W (o+n) m:=by
 unfold seg;rw[List.take_add,List.drop_drop]
theorem ah6 (h:c.Ok)(wT:bn c.T)(g:c.mode=3)(hi:InvB c s)(S:Bas c s r)(a:i<r.kp.length)(b:i<c.ns.toNat):Bu c s.W i=(qk c (i:Int) r.kp[i]).2.1/\Ff c s.W i=(qk c (i:Int) r.kp[i]).1:=by
 obtain⟨q,u,d⟩:=S.kept i a;obtain⟨z,A,C,e,D⟩:=wk h wT (t:=(i:Int)) q u;obtain⟨y,E,F,H⟩:=AH h g b;have m:=hi.w.tk h;rw[y,aN0]at d;have f:(seg s.W (oJ c i) c.fl.n).length=c.fl.n:=cv (by omega);exact List.append_inj d (f.trans e.symm)
theorem ap7 (h:c.Ok)(wT:bn c.T)(z:c.mode=3)(hi:InvB c s)(H:Has c s.W r.st r.ax r.th)(S:Bas c s r)(b:i<r.kp.length)(e:i<c.ns.toNat):
  (JY c s.W i).2.1=Bt c (i:Int) r.kp[i] r.ax/\(JY c s.W i).1.take c.X.length=r.kp[i]:=by
 obtain⟨⟨K,L⟩,D,C,N,Q,M⟩:=h.lens;obtain⟨g,I,J⟩:=S.kept i b;obtain⟨m,q⟩:=ah6 h wT z hi S b e;have E:=Aw (c:=c) (i:Int) g;have f:=h.pl.ulen;have y:=h.pl.goodU;unfold JY;rw[m,q,H.x];refine⟨rfl, ?_⟩;have d:(fill c.R (BY c (i:Int) r.kp[i])).length=c.R.toNat:=ia (by omega);have:=bp7 (a:=fill c.R r.ax) c.fl.n c.fl.unroll f.1 (fill c.R (BY c (i:Int) r.kp[i])) (bp c.fl.n) (qk c (i:Int) r.kp[i]).2.1 (λo A=>by rw[d];exact(y o A).1) (by rw[bz];omega) (λj F=>rfl);rw[f.1]at this;show((DB (sq (qk c (i:Int) r.kp[i]).2.1) c.fl.unroll ((qk c (i:Int) r.kp[i]).1,fill c.R r.ax,c.fl.n)).1).take c.X.length=_;have u:(qk c (i:Int) r.kp[i]).1=(AN pQ c.fl.unroll (fill c.R (BY c (i:Int) r.kp[i]),bp c.fl.n,0)).1:=rfl;rw[u,this];unfold fill BY;rw[List.append_assoc,List.take_left' g]
theorem Bas.kept8 {b:Dy}{r r':RS}(S:Bas c s r)(z:c.mode=3)(f:dv c s.W b.W)(e1:r'.sl=r.sl)(y:r'.kp.length<=r.kp.length)(d:r'.kp=r.kp.take r'.kp.length)(g:(r'.kp.length:Int)=iv b):Bas c b r':=by
 refine⟨e1.trans S.sl,g,λi hi=> ?_⟩;have a:i<r.kp.length:=by omega
 have e:r'.kp[i]=r.kp[i]:=by
  have:r'.kp[i]?=r.kp[i]?:=by rw[d,List.getElem?_take,zE hi]
  rw[fB hi,fB a]at this;injection this
 rw[e];obtain⟨m,q,u⟩:=S.kept i a;refine⟨m,q, ?_⟩;rw[f.seg (by unfold oJ;omega)];exact u
theorem Wu (h:c.Ok)(wT:bn c.T)(E:c.mode=3)(hi:InvB c s)(H:RelD c s r)(S:Bas c s r)(F:r.sx=0)(hc:DD B s)(hB:B<=2305843009213693952)(a n:Int):
  ∃r',zP c.mode c.X c.T c.R c.l c.Q c.k c.len c.words c.R c.l c.Q c.k (c.X.length:Int) c.T c.fixed c.tp c.sl c.ns r.L r.p r.q r.st r.sl r.sx r.kp r.ax r.th r.ls r.n0 r.n1 r.n2 r.n3 r.pk a n=O (VB c r' (N8 c a n s).1)/\RelD c (N8 c a n s).2 r'/\Bas c (N8 c a n s).2 r'/\r'.sx=0:=by
 have nm:=h.num;have hW:=hi.w;have hL:=hi.L;have hp:=hi.p;have hq:=hi.q;have hqp:=hi.qp;have hpk:=hi.pk;have hns:=h.ns;have hcr:=H.cnt hc;have C:KL 4611686018427387904 r:=by unfold KL at*;omega
 obtain⟨g1,g2,g3,g4,g5,g6,g7⟩:=MC h E hi;obtain⟨V,k2,k3,Z,k5,k6⟩:=H.has.lens h wT;have g:=ab4 h E hi a n;have Hs:=H.has;obtain⟨⟨z1,z2⟩,hR,hQ,z3,z4,z5⟩:=h.lens;have eL:=H.L;have ep:=H.p;have eq':=H.q;have J:=H.pk;have hlen:=nm.len;have M:=S.len;have htp:=nm.tp;rw[zE E]at htp;have u:=Jh h E hi S;have e: ∃r',O (c.mode,c.X,c.T,c.R,c.l,c.Q,c.k,c.len,c.words,c.R,c.l,c.Q,c.k,(c.X.length:Int),c.T,c.fixed,c.tp,c.sl,c.ns,r.L,r.p,r.q,r.st,r.sl,r.sx,r.kp,r.ax,r.th,r.ls,r.n0,r.n1,r.n2,r.n3,r.pk,(N8 c a n s).1)=O (VB c r' (N8 c a n s).1)/\RelD c s r'/\Bas c s r'/\r'.sx=0:=⟨r,rfl,H,S,F⟩
 unfold zP;rw[NB];simp only[zG];rw[eL,ep,eq']at e u⊢;generalize b:N8 c a n s=d at g e⊢;unfold N8 at b;by_cases hk: ¬(a=8∨a=5∨a=9)
 .rw[Zh,Zh,Zh]at b;subst b;cases hr:jd a n with
  |false=>
   simp only[Bool.not_false,zC,zG,ej];exact e
  |true=>
   simp only[Bool.not_true,zD];rw[zB (show a≠5 by omega),zC,zB (show a≠8 by omega),zC,zB (show a≠9 by omega),zC];simp only[zG,ej];exact e
 have hk:a=8∨a=5∨a=9:=by omega
 have hr:jd a n=Zc (n=0):=by
  unfold jd;rw[Zh,Zh,Zh,Zh]
 by_cases N:n≠0
 .have b:(2,s)=d:=by
   rw[<-b];rcases hk with rfl|rfl|rfl
   .rw[zE rfl,zE N]
   .rw[Zh,zE rfl,zE N]
   .rw[Zh,Zh,zE rfl,zE N]
  subst b;rw[hr,zA N];simp only[Bool.not_false,zC,zG,ej];exact e
 have hn0:n=0:=by omega
 rw[hr,zB hn0];simp only[Bool.not_true,zD];rcases hk with rfl|rfl|rfl
 .
  rw[zE rfl,zF N]at b;simp only[ne_eq,bD,not_false_eq_true,decide_true,zC,not_true_eq_false,decide_false,zD,zG,bg];by_cases y:0<=s.q
  .rw[zE y]at b;subst b;rw[zB y,zC];exact e
  rw[zF y]at b;rw[zA y,zD];by_cases I:s.p=s.L
  .rw[zE I]at b;subst b;rw[zB I,zC];exact e
  rw[zF I]at b;subst b;have f:iv s=s.p:=by unfold iv;rw[Zg]
  have hkp:(r.kp.length:Int)=s.p:=by rw[M,f]
  have U:r.kp.take s.p.toNat=r.kp:=dB (by omega);rw[zA I,zD];simp only[decide_true];rw[bw,Zk,bw,U,ca (by omega) (by omega),Kw h wT (by omega) V Z];simp only[zG];rw[ad (n:=s.p+1) (by omega),ad (n:=r.n1+1) (by unfold KL at C;omega)];obtain⟨v1,v2⟩:=AL h wT (t:=s.p) V Z;obtain⟨f1,f2,f3,f4,f5⟩:=wk h wT (t:=s.p) V Z;obtain⟨s1,s2,s3,s4⟩:=AH h E (i:=s.p.toNat) (by omega);have htk:=hW.tk h;have hT:=Hs.taped h wT s.p;rw[Hs.stepR h]at hT;have m:((qk c s.p r.st).2.1++(qk c s.p r.st).1).length=c.sl.toNat:=by rw[aB,f3,f4,s1]
  have hT2:=hT.put8 h (o:=oJ c s.p.toNat) (w:=(qk c s.p r.st).2.1++(qk c s.p r.st).1) s4 (by rw[m];exact s3) (f2.app f1);have hT3:=hT2.put1 h v1 v2
  have hWe:(put (put (put s.W (c.off 2) (stepR c s.W s.p).1) (oJ c s.p.toNat) ((stepR c s.W s.p).2.1++(stepR c s.W s.p).1)) (c.off 1) ((stepR c s.W s.p).1.take c.X.length))=put (put (put s.W (c.off 2) (qk c s.p r.st).1) (oJ c s.p.toNat) ((qk c s.p r.st).2.1++(qk c s.p r.st).1)) (c.off 1) (AK c s.p r.st):=by
   rw[Hs.stepR h,f5]
  rw[hWe]at g⊢;have hK2:dv c s.W (put s.W (c.off 2) (qk c s.p r.st).1):=dv.put h (dv.refl s.W) hW (i:=2) (by omega) (dD f3)
  have hlW:oJ c s.p.toNat+((qk c s.p r.st).2.1++(qk c s.p r.st).1).length<=(put s.W (c.off 2) (qk c s.p r.st).1).length:=by
   have:=hT.wd.tk h;rw[m];omega
  have S': ∀r':RS,r'.sl=r.sl->r'.kp=r.kp++[r.st]->∀s':Dy,s'.q=s.q->s'.p=s.p+1->s'.W=put (put (put s.W (c.off 2) (qk c s.p r.st).1) (oJ c s.p.toNat) ((qk c s.p r.st).2.1++(qk c s.p r.st).1)) (c.off 1) (AK c s.p r.st)->Bas c s' r':=λr' e1 e2 s' e3 e4 e5=>by
   have hK3:dv c (put (put s.W (c.off 2) (qk c s.p r.st).1) (oJ c s.p.toNat) ((qk c s.p r.st).2.1++(qk c s.p r.st).1)) s'.W:=by
    rw[e5];exact dv.put h (dv.refl _) hT2.wd (i:=1) (by omega) (dD v1)
   refine⟨e1.trans S.sl,by rw[e2,aB,aD];unfold iv;rw[e3,e4,Zg];omega,λi hi=> ?_⟩;rw[e2,aB,aD]at hi;have e6:r'.kp[i]'(by rw[e2,aB,aD];exact hi)=(r.kp++[r.st])[i]'(by rw[aB,aD];exact hi):=by simp only[e2]
   rw[e6,hK3.seg (by unfold oJ;omega)];by_cases hlt:i<r.kp.length
   .rw[List.getElem_append_left hlt];obtain⟨A,D,k3'⟩:=S.kept i hlt;refine⟨A,D, ?_⟩
    have hd:oJ c i+c.sl.toNat<=oJ c s.p.toNat:=by
     unfold oJ;have:=Nat.mul_le_mul_right c.sl.toNat (show i+1<=s.p.toNat by omega);rw[Nat.succ_mul]at this;omega
    rw[Dd hlW (.inl hd),hK2.seg (by unfold oJ;omega)];exact k3'
   .have hie:i=r.kp.length:=by omega
    subst hie;rw[List.getElem_append_right (eD _)];simp only[Nat.sub_self,List.getElem_singleton];refine⟨V,Z, ?_⟩;have ek:r.kp.length=s.p.toNat:=by omega
    rw[hkp,ek,<-m];exact yw hlW
  have hl2:=Jh (r:={r with L:=s.L,p:=s.p+1,q:=s.q,st:=AK c s.p r.st,kp:=r.kp++[r.st],n1:=r.n1+1}) h E g (by refine S' _ ?_ ?_ _ ?_ ?_ ?_<;>rfl);rw[show df c.mode c.X c.T c.R c.l c.Q c.k c.len c.words c.R c.l c.Q c.k (c.X.length:Int) c.T c.fixed c.tp c.sl c.ns s.L (s.p+1) s.q (AK c s.p r.st) r.sl r.sx (r.kp++[r.st]) r.ax r.th r.ls r.n0 (r.n1+1) r.n2 r.n3 r.pk=_ from hl2];simp only[zG];exact⟨{r with L:=s.L,p:=s.p+1,q:=s.q,st:=AK c s.p r.st,kp:=r.kp++[r.st],n1:=r.n1+1,pk:=max r.pk (s.lv+c.sl)},rfl,⟨rfl,rfl,rfl,H.n0,by show r.n1+1=s.c1+1;rw[H.n1],H.n2,H.n3,H.ls,by show max r.pk _=max s.pk _;rw[J],hT3⟩,(by refine S' _ ?_ ?_ _ ?_ ?_ ?_<;>rfl),F⟩
 .
  rw[Zh,zE rfl,zF N]at b;simp only[ne_eq,bD,not_false_eq_true,decide_true,zC,not_true_eq_false,decide_false,zD,zG,bg];by_cases y:0<=s.q
  .rw[zE y]at b;subst b;rw[zB y,zC];exact e
  rw[zF y]at b;rw[zA y,zD];by_cases I:s.p≠s.L
  .rw[zE I]at b;subst b;have z: ¬s.p=s.L:=I;simp only[z,not_false_eq_true,decide_true,zC];exact e
  rw[zF I]at b;subst b;have z:s.p=s.L:=by omega
  have f:iv s=s.p:=by unfold iv;rw[Zg]
  simp only[z,not_true_eq_false,decide_false,zD];rw[z]at u;rw[h.rof];simp only[zG];rw[u];simp only[zG];have hfk:=h.pk.n;rw[ad (n:=s.lv+(c.fk.n:Int)) (by omega)];have hE:=Hs.endd h wT V Z;have eW:seg s.W (c.off 1) c.X.length=r.st:=Hs.s;rw[eW]at g⊢;have he:pB c.mode c.X c.T c.R c.l c.Q c.k c.len c.words c.R c.l c.Q c.k (c.X.length:Int) c.T c.fixed c.tp c.sl c.ns s.L s.L s.L r.st r.sl r.sx r.kp r.ax r.th r.ls r.n0 r.n1 r.n2 r.n3 (max r.pk (s.lv+(c.fk.n:Int))) r.st=_:=MO (r:={r with L:=s.L,p:=s.L,q:=s.L,pk:=max r.pk (s.lv+(c.fk.n:Int))}) h wT V Z k3 k6 C (by omega);rw[he];simp only[zG]
  exact⟨{A4 c r.st r with L:=s.L,p:=s.L,q:=s.L,pk:=max r.pk (s.lv+(c.fk.n:Int))},rfl,⟨rfl,by first|rfl|exact z.symm,rfl,H.n0,H.n1,by show r.n2+1=s.c2+1;rw[H.n2],by show r.n3+1=s.c3+1;rw[H.n3],(Hs.lossV h wT r.st).symm,by show max r.pk _=max s.pk _;rw[J],hE⟩,S.kept8 E (Lp h hW V) rfl (eD _) (dB (eD _)).symm (by
   show(r.kp.length:Int)=_;rw[M,f];unfold iv;simp only
   rw[Zh,z]),F⟩
 .
  rw[Zh,Zh,zE rfl,zF N]at b;simp only[ne_eq,bD,not_false_eq_true,decide_true,zC,not_true_eq_false,decide_false,zD,zG,bg];by_cases y:s.q<1
  .rw[zE y]at b;subst b;rw[zB y,zC];exact e
  rw[zF y]at b;subst b;have f:iv s=s.q:=by unfold iv;rw[Zh]
  have hkp:(r.kp.length:Int)=s.q:=by rw[M,f]
  obtain⟨i,hi1⟩: ∃i:Nat,s.q-1=(i:Int):=⟨(s.q-1).toNat,by omega⟩
  have K:i<r.kp.length:=by omega
  obtain⟨A,D,k3'⟩:=S.kept i K;obtain⟨b1,b2⟩:=ap7 h wT E hi Hs S K (by omega);obtain⟨p1,p2⟩:=D1 h wT (t:=(i:Int)) A D k2 k5;rw[zA y,zD,ad (n:=s.q-1) (by omega),hi1,bh K];simp only[zG];rw[Zk,bw];have hcut:Il r.kp 0 (i:Int)=r.kp.take i:=by unfold Il;simp
  rw[hcut];have ht:nV c.mode c.X c.T c.R c.l c.Q c.k c.len c.words c.R c.l c.Q c.k (c.X.length:Int) c.T c.fixed c.tp c.sl c.ns s.L (i:Int) (i:Int) r.kp[i] r.sl r.sx (r.kp.take i) r.ax r.th r.ls r.n0 r.n1 r.n2 r.n3 r.pk (i:Int) r.kp[i]=_:=Kx (r:={r with L:=s.L,p:=(i:Int),q:=(i:Int),st:=r.kp[i],kp:=r.kp.take i}) h wT (by omega) A D k2 k5 k3 k6 C (by omega);rw[ht];simp only[zG];have hb:=Hs.back h (a:=Bt c (i:Int) r.kp[i] r.ax) (by omega) (by omega) p2;have hb1:=hb.put1 h A D;rw[hi1,bB,b1,b2]at g;rw[bB,b1,b2]
  exact⟨{Sw c (i:Int) r.kp[i] r with L:=s.L,p:=(i:Int),q:=(i:Int),st:=r.kp[i],kp:=r.kp.take i},rfl,⟨rfl,rfl,rfl,H.n0,H.n1,H.n2,by show r.n3+1=s.c3+1;rw[H.n3],H.ls,J,hb1⟩,S.kept8 E ((PL h hW (by omega) (by omega)).trans (dv.put h (dv.refl _) hb.wd (i:=1) (by omega) (dD A))) rfl (by rw[cD];omega) (by simp only[cD];rw[Nat.min_eq_left (by omega)]) (by
   show((r.kp.take i).length:Int)=_;rw[cD,Nat.min_eq_left (by omega)];unfold iv;simp only
   rw[Zh]),F⟩
end
end
section
open Int renaming toNat_natCast -> bB
open List renaming replicate -> aB, drop_replicate -> bD, length_replicate -> cB, replicate_append_replicate -> cD, take_replicate -> dB
open Nat renaming le_refl -> aD
section
variable {c:Cx}
theorem MS {N n:Nat}(h:o+n<=N):seg (bp N) o n=bp n:=by
 unfold seg bp;rw[bD,dB,Nat.min_eq_left (by omega)]
theorem aj6 {N n:Nat}(h:o+n<=N):put (bp N) o (bp n)=bp N:=by
 unfold put bp;rw[dB,bD,cB,cD,cD,Nat.min_eq_left (by omega)]
 congr 1
 omega
theorem Y6 (h:c.Ok)(wT:bn c.T)(f:bn c.X):Has c (Um c (bp c.words.toNat)) c.X (bp c.X.length) (bp c.T.length):=by
 have a:Wd c (bp c.words.toNat):=bz _;have b:=a.tk h;rw[bz]at b;have m:=kc (c:=c) (show 5<9 by omega);have q:=kc (c:=c) (show 6<9 by omega);have g:=kc (c:=c) (show 0<9 by omega);have d:c.T.length<=c.sz 0:=aD _;have e:=a.put h (o:=c.off 0) (w:=c.T) (by have:c.sz 0=c.T.length:=rfl;omega);unfold Um
 have H0:Has c (put (bp c.words.toNat) (c.off 0) c.T) (seg (put (bp c.words.toNat) (c.off 0) c.T) (c.off 1) c.X.length) (bp c.X.length) (bp c.T.length):=by
  refine⟨e,(bn.rep _).put wT _, ?_,rfl, ?_, ?_⟩
  .exact yw (Sr h a (by omega) d)
  .rw[Dc h a (n:=c.X.length) (i:=0) (j:=5) (by omega) (by omega) (by omega) (aD _) d];exact MS (by have:c.sz 5=c.X.length:=rfl;omega)
  .rw[Dc h a (n:=c.T.length) (i:=0) (j:=6) (by omega) (by omega) (by omega) (aD _) d];exact MS (by have:c.sz 6=c.T.length:=rfl;omega)
 exact H0.put1 h rfl f
def av9 (c:Cx):RS:=⟨c.len,0,-1,c.X,[],0,[],bp c.X.length,bp c.T.length,0,0,0,0,0,c.fixed⟩
def PX (c:Cx):RS:=⟨c.len,0,-1,c.X,aB c.ns.toNat (-1,[]),(c.X.length:Int),[],bp c.X.length,bp c.T.length,0,0,0,0,0,c.fixed⟩
theorem aw0 (h:c.Ok)(wT:bn c.T)(a:bn c.X)(b:c.mode=3):RelD c (new1 c) (av9 c)/\Bas c (new1 c) (av9 c):=
 ⟨⟨rfl,rfl,rfl,rfl,rfl,rfl,rfl,rfl,rfl,Y6 h wT a⟩,⟨rfl,rfl,λi hi=>by cases hi⟩⟩
theorem aw1 (h:c.Ok)(wT:bn c.T)(u:bn c.X)(f:c.mode≠3):RelD c (new2 c) (PX c)/\Slo c (new2 c).W (PX c):=by
 have g:Wd c (bp c.words.toNat):=bz _;have b:=g.tk h;rw[bz]at b;have e:put (bp c.words.toNat) (c.off 8) (bp (c.sl*c.ns).toNat)=bp c.words.toNat:=aj6 (by have:=PZ (c:=c);omega)
 have d:(new2 c).W=Um c (bp c.words.toNat):=by
  show Um c (put (bp c.words.toNat) (c.off 8) (bp (c.sl*c.ns).toNat))=_;rw[e]
 refine⟨⟨rfl,rfl,rfl,rfl,rfl,rfl,rfl,rfl,rfl,by rw[d];exact Y6 h wT u⟩,⟨rfl,rfl,by simp[PX],λk q=> ?_⟩⟩;have a:k<c.ns.toNat:=by simpa[PX]using q
 have m:(PX c).sl[k]=(-1,[]):=by simp[PX]
 rw[m];refine⟨PW h f a, .inr ⟨rfl, ?_⟩⟩;obtain⟨y,z,A⟩:=tn h f a;rw[d,(Jl h g).2.2.seg (by unfold sp;omega)];exact MS (by omega)
theorem aj7 {n:Int}{x:Int}(b:0<=n/\n<=1048576):DK n x=O (x,aB n.toNat (-1,[])):=by
 unfold DK
 have a:=cx (f:=xu n) (n:=n.toNat) (λi=>(x,aB i ((-1:Int),([]:Zd)))) (c:=(x,aB n.toNat (-1,[]))) (by omega)
  (λi hi=>by
   unfold xu;simp only;rw[Zf,zC,ca (by rw[cB];omega) (by omega),Zi,List.replicate_succ']
   rfl)
  (by
   unfold xu;simp only
   rw[Ze,zD])
 rw[List.replicate_zero]at a;rw[a];rfl
theorem Yn (h:c.Ok)(a:c.mode=3)(e:Pl c):
  rb c.mode c.X c.T c.R c.l c.Q c.k c.len c.words=O (c.mode,c.X,c.T,c.R,c.l,c.Q,c.k,c.len,c.words,c.R,c.l,c.Q,c.k,(c.X.length:Int),c.T,c.fixed,c.tp,c.sl,c.ns,c.len,-1,c.X,0,c.fixed,0,[],bp c.X.length,bp c.T.length):=by
 have b:=h.lens;unfold rb;rw[Gz h.hl h.hk,e];simp only[zG];rw[zA (by simp),zD,Ub ⟨by omega,by omega⟩,Ub ⟨by omega,by omega⟩,zA (by simp[a]),zD];simp only[bB];rfl
theorem Qg (h:c.Ok)(a:c.mode≠3)(e:Pl c):
  rb c.mode c.X c.T c.R c.l c.Q c.k c.len c.words=O (c.mode,c.X,c.T,c.R,c.l,c.Q,c.k,c.len,c.words,c.R,c.l,c.Q,c.k,(c.X.length:Int),c.T,c.fixed,c.tp,c.sl,c.ns,c.len,-1,c.X,(c.X.length:Int),c.fixed,0,aB c.ns.toNat (-1,[]),bp c.X.length,bp c.T.length):=by
 have b:=h.lens;unfold rb;rw[Gz h.hl h.hk,e];simp only[zG];rw[zA (by simp),zD,Ub ⟨by omega,by omega⟩,Ub ⟨by omega,by omega⟩,zB a,zC,aj7 h.ns];simp only[bB,zG];rfl
theorem aj9 {a0:Int}{a1 a2:Zd}{a3:Int}{a4:List bu}{a5:Int}{a6:List bu}{a7 a8:Int}(b:OpsOk a4)(a:OpsOk a6)(h:(oX a0 a1.length a2.length a3 a4 a5 a6 a7 a8).2.2.2.2≠0):
  rb a0 a1 a2 a3 a4 a5 a6 a7 a8=O (0,[],[],0,[],0,[],0,0,0,[],0,[],0,[],0,0,0,0,0,0,[],0,0,(oX a0 a1.length a2.length a3 a4 a5 a6 a7 a8).2.2.2.2,[],[],[]):=by
 unfold rb;rw[Gz b a];simp only[zG];rw[zB h,zC]
theorem Slo.more {r:RS}(S:Slo c s.W r):Slo c (qh c s).2.W {r with L:=(qh c s).2.L}:=by
 rw[PU];exact⟨S.kp,S.sx,S.len,S.slot⟩
end
end
section
open Nat renaming le_refl -> aB, mul_add -> aD, eq_zero_or_pos -> bB
def ch :Nat->Nat->Nat
 |_,0=>1
 |0,_+1=>0
 |n+1,k+1=>ch n k+ch n (k+1)
theorem Po (n:Nat):ch n 0=1:=by cases n<;>rfl
theorem Mj (n k:Nat):ch (n+1) (k+1)=ch n k+ch n (k+1):=rfl
theorem TH : ∀n k,ch (n+1) (k+1)*(k+1)=ch n k*(n+1)
 |0,0=>rfl
 |0,k+1=>by rw[Mj];simp[ch]
 |n+1,0=>by
  have h:=TH n 0;rw[Po]at h;rw[Mj (n+1) 0,Po];omega
 |n+1,k+1=>by
  have a:=TH n k;have b:=TH n (k+1);rw[Mj (n+1) (k+1),Nat.add_mul,b,show k+1+1=(k+1)+1 from rfl,aD (ch (n+1) (k+1)),a,Nat.mul_one,Mj n k,aD (ch n k+ch n (k+1)) (n+1) 1,Nat.add_mul];omega
theorem TJ : ∀{n k:Nat},k<=n->1<=ch n k
 |n,0,_=>by rw[Po];exact aB _
 |n+1,k+1,h=>by rw[Mj];have:=TJ (n:=n) (k:=k) (by omega);omega
theorem TI : ∀{n k:Nat},n<k->ch n k=0
 |0,k+1,_=>rfl
 |n+1,k+1,h=>by rw[Mj,TI (by omega),TI (by omega)]
theorem TK (n:Nat):ch n n=1:=by
 induction n with
 |zero=>rfl
 |succ n a=>rw[Mj,a,TI (by omega)]
theorem Ld : ∀s a b,a+b=s->ch s a=ch s b
 |0,a,b,h=>by rw[show a=0 by omega,show b=0 by omega]
 |s+1,0,b,h=>by rw[show b=s+1 by omega,Po,TK]
 |s+1,a+1,0,h=>by rw[show a=s by omega,Po,TK]
 |s+1,a+1,b+1,h=>by
  rw[Mj,Mj,Ld s a (b+1) (by omega),Ld s (a+1) b (by omega)];omega
theorem bi1 (d i:Nat):ch (d+i) i<=ch (d+(i+1)) (i+1):=by
 rw[show d+(i+1)=(d+i)+1 by omega,Mj];omega
theorem Xy (d:Nat)(h:i<=j):ch (d+i) i<=ch (d+j) j:=by
 induction j with
 |zero=>rw[show i=0 by omega];exact aB _
 |succ j a=>
  by_cases hi:i=j+1
  .rw[hi];exact aB _
  .exact Nat.le_trans (a (by omega)) (bi1 d j)
theorem Lc {s:Nat}(a:1<=s): ∀l,l+1<=ch (s+l) l
 |0=>by rw[Po];exact aB _
 |l+1=>by
  rw[show s+(l+1)=(s+l)+1 by omega,Mj];have:=Lc a l;have:=TJ (n:=s+l) (k:=l+1) (by omega);omega
theorem aq9 (r:Nat):ch (1+r) r=r+1:=by
 induction r with
 |zero=>rfl
 |succ r a=>rw[show 1+(r+1)=(1+r)+1 by omega,Mj,a,Nat.add_comm 1 r,TK]
def qK :Nat:=1099511627776
def Xx (n k:Int):Int:=if n<0∨k<0∨n<k then 0 else((min qK (ch n.toNat k.toNat):Nat):Int)
theorem YY {d:Nat}(hi:1<=i):ch (d+(i-1)) (i-1)*(d+i) / i=ch (d+i) i:=by
 have:=TH (d+(i-1)) (i-1);rw[show i-1+1=i by omega,show d+(i-1)+1=d+i by omega]at this;rw[<-this];exact Nat.mul_div_cancel _ (by omega)
theorem ag1 (c m i:Nat):c*(m / i)+c*(m % i) / i=c*m / i:=by
 rcases bB i with rfl|h
 .simp
 .conv=>rhs;rw[<-Nat.div_add_mod m i,aD,Nat.mul_left_comm,Nat.mul_add_div h]
structure IsRep (l s r:Nat):Prop where
 up:l<=ch (s+r) r
 low: ∀x,x<r->ch (s+x) x<l
theorem IsRep.eq {l s r':Nat}(h:IsRep l s r)(a:IsRep l s r'):r=r':=by
 rcases Nat.lt_trichotomy r r' with k|k|k
 .have:=a.low _ k;have:=h.up;omega
 .exact k
 .have:=h.low _ k;have:=a.up;omega
theorem IsRep.le {l s:Nat}(h:IsRep l s r)(a:1<=s):r<=l:=by
 rcases Nat.lt_or_ge l r with k|k
 .have:=h.low _ k;have:=Lc a l;omega
 .exact k
theorem aM5 (l:Nat):IsRep l 1 (l-1):=⟨by rw[aq9];omega,λx a=>by rw[aq9];omega⟩
theorem bc9 {l s:Nat}(h:l<=ch (s+r) r)(h':r=0∨ch (s+(r-1)) (r-1)<l):IsRep l s r:=
 ⟨h,λx a=>by
  rcases h' with h'|h'
  .omega
  .exact Nat.lt_of_le_of_lt (Xy s (show x<=r-1 by omega)) h'⟩
def spI (n c r:Int):Int:=max 1 (max (Xx (c+r-2) c) (n-Xx (c+r-1) (c-1)))
theorem Og {n:Nat}(h:k<=n):Xx (n:Int) (k:Int)=((min qK (ch n k):Nat):Int):=by
 unfold Xx;rw[Zh];rfl
theorem aq8 (n k:Int):0<=Xx n k/\Xx n k<=1099511627776:=by
 unfold Xx qK;split<;>omega
theorem bd9 {n c:Nat}(A:2<=n)(z:1<=c)(e:IsRep n c r)(y:n<=65536):1<=spI n c r/\spI n c r<=n-1/\(c=1->spI n c r=n-1):=by
 have C:1<=r:=by
  rcases bB r with h|h
  .have:=e.up;rw[h,Po]at this;omega
  .exact h
 have d:=e.low (r-1) (by omega)
 have g:Xx ((c:Int)+r-2) c<=(n:Int)-1:=by
  unfold Xx;split
  .omega
  .rename_i h;rw[show((c:Int)+r-2).toNat=c+r-2 by omega,Int.toNat_natCast];have q:ch (c+(r-1)) (r-1)=ch (c+(r-1)) c:=Ld _ _ _ (by omega)
   have u:ch (c+r-2) c<=ch (c+(r-1)) c:=by
    obtain⟨a,rfl⟩: ∃a,c=a+1:=⟨c-1,by omega⟩
    rw[show a+1+(r-1)=(a+1+r-2)+1 by omega,Mj];omega
   omega
 have m:1<=Xx ((c:Int)+r-1) (c-1):=by
  rw[show(c:Int)+r-1=((c+r-1:Nat):Int)by omega,show(c:Int)-1=((c-1:Nat):Int)by omega,Og (by omega)];have:=TJ (n:=c+r-1) (k:=c-1) (by omega);unfold qK;omega
 unfold spI;refine⟨by omega,by omega,λb=> ?_⟩;subst b
 have f:Xx (((1:Nat):Int)+r-1) (((1:Nat):Int)-1)=1:=by
  rw[show(((1:Nat):Int))+r-1=((r:Nat):Int)by omega,show(((1:Nat):Int))-1=((0:Nat):Int)by omega,Og (by omega),Po];rfl
 rw[f];omega
end
end Go.V
