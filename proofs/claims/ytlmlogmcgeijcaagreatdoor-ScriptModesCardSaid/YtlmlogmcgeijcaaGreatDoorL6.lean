/- A part of the proof. No condition. -/
import Derived.Test.YtlmlogmcgeijcaaGreatDoorL5
set_option linter.unusedVariables false
set_option linter.unusedSimpArgs false
set_option linter.unusedSectionVars false
namespace Go.V
open Go.Ab
open Option renaming some->O,none->Y
open Bool renaming true->Za,false->Zb
open Decidable renaming decide->Zc
variable {s s':Dy}{en:Bool}{f i j o:Nat}{a:Int×Int}{at' ax l:Zd}{B v:Int}
set_option maxRecDepth 100000
section
open List renaming length_cons -> aB
def lY (c:Cx)(i:Nat):Zd:=F7 c 0 c.X i
def qY (c:Cx)(L:Nat):Nat->Zd×Zd
 |0=>((zt c (lY c L)).take c.X.length,yg c.X.length (cj c.T.length) (zt c (lY c L)))
 |k+1=>((tY c ((L-(k+1):Nat):Int) (lY c (L-(k+1))) (qY c L k).1).take c.X.length,yg c.X.length (qY c L k).2 (tY c ((L-(k+1):Nat):Int) (lY c (L-(k+1))) (qY c L k).1))
section
variable {c:Cx} (h:c.Ok) (wT:cv c.T) (wX:cv c.X)
theorem Ef (i:Nat):lY c (i+1)=yC c (i:Int) (lY c i):=by
 show yC c (0+(i:Int)) _=_;rw[Int.zero_add];rfl
theorem UZ (i:Nat): ∀k,F7 c (i:Int) (lY c i) k=lY c (i+k)
 |0=>rfl
 |k+1=>by
  show yC c ((i:Int)+(k:Int)) (F7 c (i:Int) (lY c i) k)=_;rw[UZ i k,<-Nat.add_assoc,Ef]
  congr 1
def Xb (c:Cx)(s:Dy):Zd×Zd:=qY c s.L.toNat (s.L-s.q).toNat
structure Jn (c:Cx)(s:Dy)(ax at':Zd):Prop where
 has:Has c s.W (lY c s.p.toNat) ax at'
 ini:s.q<0->at'=cj c.T.length
 adj:0<=s.q->(ax,at')=Xb c s/\s.z=lossV c (lY c s.L.toNat)
def Sls (c:Cx)(s:Dy):Prop:= ∀k,k<c.ns.toNat->0<gX c s.W k->seg s.W (sp c k+1) c.X.length=lY c (gX c s.W k-1).toNat
include h wT wX
theorem EY (i:Nat):(lY c i).length=c.X.length/\cv (lY c i):=Ck h wT rfl wX i
omit wT wX in
theorem Sls.kept (S:Sls c s)(b:dy c s.W s'.W):Sls c s':=λk e d=>by
 rw[b.tag]at d⊢;rw[b.seg (by unfold sp;omega)];exact S k e d
omit wT wX in
theorem Sls.put (q:c.mode≠3)(S:Sls c s)(u:Wd c s.W){k:Nat}(w:k<c.ns.toNat){x:Zd}(z:x.length=c.X.length)(e:s'.W=put s.W (sp c k) (v::x))(y:0<v->x=lY c (v-1).toNat):Sls c s':=λj p g=>by
 obtain⟨A,C,D⟩:=qA h q w;obtain⟨E,_,_⟩:=qA h q p;obtain⟨F,H⟩:=u.tk h;have m:(v::x).length=c.X.length+1:=by rw[aB,z]
 have b:sp c k+(v::x).length<=s.W.length:=by rw[m];omega
 rw[e]at g⊢;by_cases d:j=k
 .subst d;rw[xj b m]at g⊢;have g:0<v:=g
  have r:seg (Go.V.put s.W (sp c j) (v::x)) (sp c j+1) c.X.length=x:=by
   have:=F4 (n:=(v::x).length) b (Nat.le_refl _);rw[List.take_length,m]at this
   have t:seg (Go.V.put s.W (sp c j) (v::x)) (sp c j+1) c.X.length=(seg (Go.V.put s.W (sp c j) (v::x)) (sp c j) (c.X.length+1)).drop 1:=by
    unfold seg;rw[List.drop_take,List.drop_drop];rfl
   rw[t,this];rfl
  rw[r];exact y g
 .rw[J5 b m (Ne.symm (Ne.symm d))]at g⊢
  rw[nK b (by
   rw[m];rcases Nat.lt_or_gt_of_ne d with h1|h1
   .have:=UX (c:=c) h1;omega
   .have:=UX (c:=c) h1
    omega)]
  exact S j p g
omit h wT wX in
theorem Ks {L q:Int}(k:0<q)(g:q<=L):qY c L.toNat (L-(q-1)).toNat=((tY c (q-1) (lY c (q-1).toNat) (qY c L.toNat (L-q).toNat).1).take c.X.length,yg c.X.length (qY c L.toNat (L-q).toNat).2 (tY c (q-1) (lY c (q-1).toNat) (qY c L.toNat (L-q).toNat).1)):=by
 have b:(L-(q-1)).toNat=(L-q).toNat+1:=by omega
 have d:L.toNat-((L-q).toNat+1)=(q-1).toNat:=by omega
 have e:(((q-1).toNat:Nat):Int)=q-1:=by omega
 rw[b];show(_,_)=_;rw[d,e]
omit wT wX in
theorem Has.put8' {W st:Zd}(H:Has c W st ax at'){w:Zd}(r:c.off 8<=o)(d:o+w.length<=c.off 9)(e:cv w):Has c (Go.V.put W o w) st ax at':=by
 have q:=H.wd.tk h;have u:=Yx (c:=c) (i:=7) (j:=8) (by omega);have b:o+w.length<=W.length:=by omega
 have k:=ga (c:=c) (i:=1) (j:=7) (by omega);have m:=ga (c:=c) (i:=5) (j:=7) (by omega);have p:=ga (c:=c) (i:=6) (j:=7) (by omega);have g:=ga (c:=c) (i:=0) (j:=7) (by omega);refine⟨H.wd.put h d,H.w.put e _, ?_, ?_, ?_, ?_⟩
 .rw[nK b (.inl (show 0+c.T.length<=o by have:c.off 0+c.sz 0=0+c.T.length:=rfl;omega))];exact H.t
 .rw[nK b (.inl (show c.off 1+c.X.length<=o by have:c.sz 1=c.X.length:=rfl;omega))];exact H.s
 .rw[nK b (.inl (show c.off 5+c.X.length<=o by have:c.sz 5=c.X.length:=rfl;omega))];exact H.x
 .rw[nK b (.inl (show c.off 6+c.T.length<=o by have:c.sz 6=c.T.length:=rfl;omega))];exact H.a
theorem aL1 (u:c.mode≠3)(hi:Inv c s)(J:Jn c s ax at')(S:Sls c s){m':Mc}(e:JC a (oO c s)=O m'): ∃r g,Jn c (CC c a.1 a.2 s).2 r g/\Sls c (CC c a.1 a.2 s).2:=by
 obtain⟨a,n⟩:=a;have m:=hi.w;have hL:=hi.L;have hp:=hi.p;have hq:=hi.q;have hns:=h.ns;have H:=J.has;obtain⟨D,E⟩:=EY h wT wX s.p.toNat;have z:(seg s.W (c.off 1) c.X.length).length=c.X.length:=dp (m.in' h (i:=1) (by omega));unfold JC oO at e;simp only[nU]at e;show∃r g,Jn c (CC c a n s).2 r g/\Sls c (CC c a n s).2
 by_cases F:a=1
 .subst F;rw[zE rfl]at e;by_cases b:1<=n/\n<=65535/\s.p+n<=s.L
  .unfold CC;rw[zF (by rw[Rg (by omega)];simp),Zh,zE rfl,Zh];refine⟨ax,at',⟨?_,J.ini,J.adj⟩,S.kept h (JW h m s.p n.toNat)⟩;have:=H.advW h wT s.p n.toNat;have A:=UZ (c:=c) s.p.toNat n.toNat;rw[show((s.p.toNat:Nat):Int)=s.p by omega]at A;rw[A]at this;show Has c (advW c s.W s.p n.toNat) (lY c (s.p+n).toNat) ax at';rw[show(s.p+n).toNat=s.p.toNat+n.toNat by omega];exact this
  .rw[zF b]at e;cases e
 rw[zF F]at e;by_cases I:a=2
 .subst I;rw[zE rfl]at e;by_cases b:0<=n/\n<(c.ns.toNat:Int)/\(kR c s.W).getD n.toNat 0<0
  .have k:n.toNat<c.ns.toNat:=by omega
   obtain⟨x,s2,s3⟩:=qA h u k;have Z:=xA (c:=c) (W:=s.W) k;unfold CC;rw[zF (by rw[Bb (by omega) (by omega)];simp),Zh,Zh,zE rfl,Zh];have hv:IntKind.u64.wrap (IntKind.i64.wrap (s.p+1))=s.p+1:=by rw[Zi,Zk]
   refine⟨ax,at',⟨?_,J.ini,J.adj⟩, ?_⟩
   .refine H.put8' h (by unfold sp;omega) (by rw[aB,z];exact x) ?_;intro v hv';rcases List.mem_cons.1 hv' with rfl|hv'
    .exact WV _
    .exact H.w.seg _ _ v hv'
   .refine S.put h u m k z rfl λ_=> ?_
    rw[hv,H.s]
    congr 1
    omega
  .rw[zF b]at e;cases e
 rw[zF I]at e;by_cases K:a=3
 .subst K;rw[zE rfl]at e;by_cases b:0<=n/\n<(c.ns.toNat:Int)/\0<=(kR c s.W).getD n.toNat 0
  .have k:n.toNat<c.ns.toNat:=by omega
   obtain⟨x,s2,s3⟩:=qA h u k;obtain⟨t1,t2⟩:=m.tk h;have Z:=xA (c:=c) (W:=s.W) k;have l2:(seg s.W (sp c n.toNat+1) c.X.length).length=c.X.length:=dp (by omega);unfold CC;rw[zF (by rw[Bb (by omega) (by omega)];simp),Zh,Zh,Zh,zE rfl,Zh];refine⟨ax,at',⟨?_,J.ini,J.adj⟩,S.kept h (dy.put h (dy.refl s.W) m (i:=1) (by omega) (by rw[l2];exact Nat.le_refl _))⟩;have hs:=S n.toNat k (by omega);have:=H.put1 h l2 (H.w.seg _ _);rw[hs]at this⊢;exact this
  .rw[zF b]at e;cases e
 rw[zF K]at e;by_cases M:a=4
 .subst M;rw[zE rfl]at e;by_cases b:0<=n/\n<(c.ns.toNat:Int)/\0<=(kR c s.W).getD n.toNat 0
  .have k:n.toNat<c.ns.toNat:=by omega
   obtain⟨x,s2,s3⟩:=qA h u k;have Z:=xA (c:=c) (W:=s.W) k;unfold CC;rw[zF (by rw[Bb (by omega) (by omega)];simp),Zh,Zh,Zh,Zh,zE rfl,Zh];refine⟨ax,at',⟨?_,J.ini,J.adj⟩, ?_⟩
   .exact H.put8' h (by unfold sp;omega) (by rw[cd];exact x) (cv.rep _)
   .exact S.put h u m k (cd _) (show _=put s.W (sp c n.toNat) (0::cj c.X.length)from rfl) λd=>by omega
  .rw[zF b]at e;cases e
 rw[zF M]at e;by_cases N:a=5
 .subst N;rw[zE rfl]at e;by_cases b:n=0/\s.q= -1/\s.p=s.L
  .unfold CC;rw[zF (by rw[Ba (by omega) b.1];simp),Zh,Zh,Zh,Zh,Zh,zE rfl,Zh,Zh];have H2:=H.endd h wT D E;have y:=J.ini (by omega);refine⟨(zt c (lY c s.p.toNat)).take c.X.length,yg c.X.length at' (zt c (lY c s.p.toNat)),⟨?_,λd=> ?_,λd=>⟨?_, ?_⟩⟩,S.kept h (GQ h m z)⟩
   .show Has c (HT c s.W (seg s.W (c.off 1) c.X.length)) (lY c s.p.toNat) _ _;rw[H.s];exact H2
   .exfalso;have d:s.p<0:=d;omega
   .show _=qY c s.L.toNat (s.L-s.p).toNat;rw[show(s.L-s.p).toNat=0 by omega,y,b.2.2];rfl
   .show rg (lossR c s.W (seg s.W (c.off 1) c.X.length)).1 0=_;rw[H.s,H.lossV h wT,b.2.2]
  .rw[zF b]at e;cases e
 rw[zF N]at e;by_cases Q:a=6
 .subst Q;rw[zE rfl]at e;by_cases b:n=0/\s.q= -1/\s.p=s.L-1
  .unfold CC;rw[zF (by rw[Ba (by omega) b.1];simp),Zh,Zh,Zh,Zh,Zh,Zh,zE rfl,Zh,Zh];have H2:=H.both h wT s.p;have y:=J.ini (by omega)
   have C:yC c s.p (lY c s.p.toNat)=lY c s.L.toNat:=by
    have:=Ef (c:=c) s.p.toNat;rw[show((s.p.toNat:Nat):Int)=s.p by omega,show s.p.toNat+1=s.L.toNat by omega]at this;exact this.symm
   rw[C]at H2;refine⟨_,_,⟨H2,λd=> ?_,λd=>⟨?_, ?_⟩⟩,S.kept h (GP h m s.p).1⟩
   .exfalso;have d:s.p<0:=d;omega
   .show _=qY c s.L.toNat (s.L-s.p).toNat;have:=Ks (c:=c) (L:=s.L) (q:=s.L) (by omega) (Int.le_refl _);rw[b.2.2,this,show(s.L-s.L).toNat=0 by omega,y];rfl
   .show rg (lossR c (put s.W (c.off 2) (stepR c s.W s.p).1) ((stepR c s.W s.p).1.take c.X.length)).1 0=_;have H3:=H.taped h wT s.p;rw[H3.lossV h wT,H.stepR h,(yD h wT (t:=s.p) D E).2.2.2.2,C]
  .rw[zF b]at e;cases e
 rw[zF Q]at e;by_cases V:a=7
 .subst V;rw[zE rfl]at e;by_cases b:n=0/\0<s.q/\s.p=s.q-1
  .unfold CC;rw[zF (by rw[Ba (by omega) b.1];simp),Zh,Zh,Zh,Zh,Zh,Zh,Zh,Zh,Zh];have H2:=H.rev h wT s.p;obtain⟨i1,i2⟩:=J.adj (by omega);unfold Xb at i1;refine⟨_,_,⟨H2,λd=> ?_,λd=>⟨?_,i2⟩⟩,S.kept h (JX h m s.p).1⟩
   .exfalso;have d:s.p<0:=d;omega
   .show _=qY c s.L.toNat (s.L-s.p).toNat;have:=Ks (c:=c) (L:=s.L) (q:=s.q) (by omega) (by omega);rw[b.2.2,this,<-i1]
  .rw[zF b]at e;cases e
 rw[zF V]at e;cases e
omit wX in
theorem aE2 (J:Jn c s ax at')(d:s.q=0)(g:0<=s.L):Db c s=(lossV c (lY c s.L.toNat),0,(qY c s.L.toNat s.L.toNat).1,(qY c s.L.toNat s.L.toNat).2):=by
 obtain⟨b,e⟩:=J.adj (by omega);unfold Xb at b;rw[d,Int.sub_zero]at b;unfold Db;rw[Zh,e,J.has.x,J.has.a,<-b]
end
end
section
open Int renaming toNat_natCast -> bB
open List renaming length_append -> aB, length_singleton -> aD, getD_eq_getElem?_getD -> bD
theorem WC (h:j≠i):rg (l.set j v) (i:Int)=rg l (i:Int):=by
 unfold rg;rw[bB,bD,bD,List.getElem?_set_ne h]
theorem Rf (h:j<l.length):rg (l.set j v) (j:Int)=v:=by
 unfold rg;rw[bB,bD,List.getElem?_set_self h];rfl
theorem MZ (t:Zd): ∀(l:List bx) (r a b:Zd) (n:Nat),(C8 (qf t) l (r,a,n)).1=(C8 (qf t) l (r,b,n)).1/\(C8 (qf t) l (r,a,n)).2.2=(C8 (qf t) l (r,b,n)).2.2
 |[],_,_,_,_=>⟨rfl,rfl⟩
 |o::l,r,a,b,n=>by
  obtain⟨e,d⟩:=MZ t l r a b n;refine⟨?_, ?_⟩
  .show(C8 (qf t) l (r,a,n)).1.set o.2.1.toNat (rg t (((C8 (qf t) l (r,a,n)).2.2-1:Nat):Int))=_;rw[e,d];rfl
  .show(C8 (qf t) l (r,a,n)).2.2-1=_;rw[d];rfl
theorem Xy (t:Zd)(l:List bx)(r a b:Zd)(n:Nat):(C8 (qf t) l (r,a,n)).1=(C8 (qf t) l (r,b,n)).1:=(MZ t l r a b n).1
theorem aN0 {a:Zd}: ∀(n:Nat) (l:List bx),l.length=n->∀(r e t:Zd),(∀o∈l,SO r.length o)->l.length<=e.length->(∀i,i<l.length->rg t (i:Int)=rg (Ge uz l (r,e,0)).2.1 (i:Int))->(C8 (qf t) l ((Ge uz l (r,e,0)).1,a,l.length)).1=r
 |0,l,q,r,e,t,_,_,_=>by
  have:=List.length_eq_zero_iff.1 q;subst this;rfl
 |n+1,l,q,r,e,t,H,K,w=>by
  obtain⟨d,o,rfl⟩: ∃d o,l=d++[o]:=⟨l.take n,l[n]'(by omega),by
   rw[<-List.take_succ_eq_append_getElem (by omega),List.take_of_length_le (by omega)]⟩
  rw[aB,aD]at q K;have u:d.length=n:=by omega
  obtain⟨C,D,k⟩:=Qq d (r,e,0);rw[OE];have L:Ge uz (d++[o]) (r,e,0)=uz o (Ge uz d (r,e,0)):=by rw[OV];rfl
  rw[L]at w⊢;have Q:=aN0 (a:=a) n d u r e t (λx N=>H x (by simp[N])) (by omega);have m: ∀A,(C8 (qf t) d ((Ge uz d (r,e,0)).1,A,d.length)).1=(C8 (qf t) d ((Ge uz d (r,e,0)).1,a,d.length)).1:=λA=>Xy t d _ _ _ _
  have p:=H o (by simp);generalize Ge uz d (r,e,0)=s at*;have C:s.1.length=r.length:=C;have D:s.2.1.length=e.length:=D;have k:s.2.2=d.length:=by rw[k];simp
  obtain⟨V,ka,kb,I,q2,q3,g1,g2,g3⟩:=GN p;have M:=w d.length (by rw[aB,aD];omega)
  have y: ∀i,i<d.length->rg t (i:Int)=rg s.2.1 (i:Int):=λi hi=>by
   rw[w i (by rw[aB,aD];omega)];show rg (s.2.1.set s.2.2 (rg s.1 o.2.1)) (i:Int)=_;exact WC (by omega)
  have z:rg t ((d.length:Nat):Int)=rg s.1 (V:Int):=by
   rw[M];show rg (s.2.1.set s.2.2 (rg s.1 o.2.1)) ((d.length:Nat):Int)=_;rw[k,I];exact Rf (by omega)
  have g:(C8 (qf t) [o] ((uz o s).1,a,(d++[o]).length)).1=s.1/\(C8 (qf t) [o] ((uz o s).1,a,(d++[o]).length)).2.2=d.length:=by
   rw[aB,aD];refine⟨?_,by show d.length+1-1=_;omega⟩;show((s.1.set o.2.1.toNat _).set o.2.1.toNat (rg t ((d.length+1-1:Nat):Int)))=s.1;rw[I,bB,List.set_set,Nat.add_sub_cancel,z,aE7 (by omega)]
  generalize hb:C8 (qf t) [o] ((uz o s).1,a,(d++[o]).length)=b at*;obtain⟨W,J,Z⟩:=b;obtain⟨E,F⟩:=g;simp only at E F;subst E F;rw[m J];exact Q y
section
variable {c:Cx} (h:c.Ok) (wT:cv c.T) (wX:cv c.X)
def Kps (c:Cx)(s:Dy):Prop:= ∀i:Nat,(i:Int)<iN s->zx c s.W i=(jb c (i:Int) (lY c i)).1/\vH c s.W i=(jb c (i:Int) (lY c i)).2.1
include h
theorem Kps.kept (K:Kps c s)(b:dy c s.W s'.W)(d:iN s'<=iN s):Kps c s':=λi hi=>by
 unfold zx vH;rw[b.seg (by unfold ja;omega),b.seg (by unfold ja;omega)];exact K i (by omega)
include wT wX
theorem Sp (z:c.mode=3)(hi:InvB c s)(K:Kps c s)(A:0<s.q):(wH c s.W (s.q-1).toNat).1.take c.X.length=lY c (s.q-1).toNat/\True:=by
 refine⟨?_,trivial⟩;obtain⟨⟨C,D⟩,w,u,F,H,E⟩:=h.lens;obtain⟨p,r⟩:=K (s.q-1).toNat (by unfold iN;rw[Zh];omega);generalize (s.q-1).toNat=i at*;obtain⟨d,t⟩:=EY h wT wX i;have x:=DP (c:=c) (i:Int) d;have e:=h.pl.ulen;have k:=h.pl.goodU;unfold wH;rw[p,r];have b:(fill c.R (Fg c (i:Int) (lY c i))).length=c.R.toNat:=kw (by omega);have:=aN0 (a:=fill c.R (seg s.W (c.off 5) c.X.length)) c.fl.n c.fl.unroll e.1 (fill c.R (Fg c (i:Int) (lY c i))) (cj c.fl.n) (jb c (i:Int) (lY c i)).2.1 (λo m=>by rw[b];exact(k o m).1) (by rw[cd];omega) (λj y=>rfl);rw[e.1]at this;show((C8 (qf (jb c (i:Int) (lY c i)).2.1) c.fl.unroll ((jb c (i:Int) (lY c i)).1,fill c.R (seg s.W (c.off 5) c.X.length),c.fl.n)).1).take c.X.length=_;have g:(jb c (i:Int) (lY c i)).1=(Ge uz c.fl.unroll (fill c.R (Fg c (i:Int) (lY c i)),cj c.fl.n,0)).1:=rfl;rw[g,this];unfold fill Fg;rw[List.append_assoc,List.take_left' d]
theorem aL2 (hm:c.mode=3)(hi:InvB c s)(J:Jn c s ax at')(K:Kps c s)(a n:Int): ∃I r,Jn c (ET c a n s).2 I r/\Kps c (ET c a n s).2:=by
 have z:=hi.w;have hp:=hi.p;have hq:=hi.q;have hLc:=hi.L;have nm:=h.num;have hns:=h.ns;have hb:=h.base hm;have H:=J.has;obtain⟨Q,V⟩:=EY h wT wX s.p.toNat;have C:((s.p.toNat:Nat):Int)=s.p:=by omega
 have l1:(seg s.W (c.off 1) c.X.length).length=c.X.length:=dp (z.in' h (i:=1) (by omega));unfold ET;by_cases h8:a=8
 .rw[zE h8];by_cases e:n≠0
  .rw[zE e];exact⟨ax,at',J,K⟩
  rw[zF e];by_cases g:0<=s.q
  .rw[zE g];exact⟨ax,at',J,K⟩
  rw[zF g];by_cases u:s.p=s.L
  .rw[zE u];exact⟨ax,at',J,K⟩
  rw[zF u];obtain⟨s1,s2,s3,s4⟩:=Bg h hm (i:=s.p.toNat) (by omega);obtain⟨t1,t2⟩:=z.tk h;obtain⟨M,f2,N,F,y⟩:=yD h wT (t:=s.p) Q V;have H2:=H.taped h wT s.p;rw[H.stepR h]at H2⊢;have b:((jb c s.p (lY c s.p.toNat)).2.1++(jb c s.p (lY c s.p.toNat)).1).length=c.sl.toNat:=by rw[aB,N,F,s1]
  have ww:cv ((jb c s.p (lY c s.p.toNat)).2.1++(jb c s.p (lY c s.p.toNat)).1):=f2.app M;have H3:=H2.put8' h (o:=ja c s.p.toNat) s4 (by rw[b];exact s3) ww
  have eS:lY c (s.p+1).toNat=yC c s.p (lY c s.p.toNat):=by
   have:=Ef (c:=c) s.p.toNat;rw[C]at this;rw[show(s.p+1).toNat=s.p.toNat+1 by omega,this]
  have lt:((jb c s.p (lY c s.p.toNat)).1.take c.X.length).length=c.X.length:=by rw[y,(zL h wT Q V).1]
  have H4:=H3.put1 h lt (M.take _);rw[y]at H4 lt;refine⟨ax,at',⟨?_,J.ini,J.adj⟩,λi m=> ?_⟩
  .show Has c (put (put (put s.W (c.off 2) (jb c s.p (lY c s.p.toNat)).1) (ja c s.p.toNat) ((jb c s.p (lY c s.p.toNat)).2.1++(jb c s.p (lY c s.p.toNat)).1)) (c.off 1) ((jb c s.p (lY c s.p.toNat)).1.take c.X.length)) (lY c (s.p+1).toNat) ax at';rw[y,eS];exact H4
  .have m:(i:Int)<if s.q<0 then s.p+1 else s.q:=m
   rw[Zg]at m;have Z:Wd c (put s.W (c.off 2) (jb c s.p (lY c s.p.toNat)).1):=H2.wd;have hW3:=H3.wd
   have kK:dy c (put (put s.W (c.off 2) (jb c s.p (lY c s.p.toNat)).1) (ja c s.p.toNat) ((jb c s.p (lY c s.p.toNat)).2.1++(jb c s.p (lY c s.p.toNat)).1)) (put (put (put s.W (c.off 2) (jb c s.p (lY c s.p.toNat)).1) (ja c s.p.toNat) ((jb c s.p (lY c s.p.toNat)).2.1++(jb c s.p (lY c s.p.toNat)).1)) (c.off 1) ((jb c s.p (lY c s.p.toNat)).1.take c.X.length)):=
    dy.put h (dy.refl _) hW3 (i:=1) (by omega) (by rw[y,lt];exact Nat.le_refl _)
   have D:dy c s.W (put s.W (c.off 2) (jb c s.p (lY c s.p.toNat)).1):=dy.put h (dy.refl _) z (i:=2) (by omega) (Nat.le_of_eq N);obtain⟨u1,u2⟩:=Z.tk h;have d:ja c s.p.toNat+((jb c s.p (lY c s.p.toNat)).2.1++(jb c s.p (lY c s.p.toNat)).1).length<=(put s.W (c.off 2) (jb c s.p (lY c s.p.toNat)).1).length:=by rw[b];omega
   show seg (put (put (put s.W (c.off 2) (jb c s.p (lY c s.p.toNat)).1) (ja c s.p.toNat) ((jb c s.p (lY c s.p.toNat)).2.1++(jb c s.p (lY c s.p.toNat)).1)) (c.off 1) ((jb c s.p (lY c s.p.toNat)).1.take c.X.length)) (ja c i+c.fl.n) c.R.toNat=_/\seg (put (put (put s.W (c.off 2) (jb c s.p (lY c s.p.toNat)).1) (ja c s.p.toNat) ((jb c s.p (lY c s.p.toNat)).2.1++(jb c s.p (lY c s.p.toNat)).1)) (c.off 1) ((jb c s.p (lY c s.p.toNat)).1.take c.X.length)) (ja c i) c.fl.n=_;rw[kK.seg (by unfold ja;omega),kK.seg (by unfold ja;omega)];by_cases hip:i=s.p.toNat
   .subst hip;rw[C];have e0:=tt d;rw[b]at e0;constructor
    .have e1:seg (put (put s.W (c.off 2) (jb c s.p (lY c s.p.toNat)).1) (ja c s.p.toNat) ((jb c s.p (lY c s.p.toNat)).2.1++(jb c s.p (lY c s.p.toNat)).1)) (ja c s.p.toNat+c.fl.n) c.R.toNat=(seg (put (put s.W (c.off 2) (jb c s.p (lY c s.p.toNat)).1) (ja c s.p.toNat) ((jb c s.p (lY c s.p.toNat)).2.1++(jb c s.p (lY c s.p.toNat)).1)) (ja c s.p.toNat) c.sl.toNat).drop c.fl.n:=by
      unfold seg;rw[List.drop_take,List.drop_drop,s1,show c.fl.n+c.R.toNat-c.fl.n=c.R.toNat by omega]
     rw[e1,e0,<-F,List.drop_left]
    .rw[F4 d (by rw[b];omega),<-F,List.take_left]
   .have hne:i<s.p.toNat:=by omega
    have hsh:ja c i+c.sl.toNat<=ja c s.p.toNat:=by
     unfold ja;have:(i+1)*c.sl.toNat<=s.p.toNat*c.sl.toNat:=Nat.mul_le_mul_right _ hne;rw[Nat.succ_mul]at this;omega
    rw[nK d (.inl (by omega)),nK d (.inl (by omega)),D.seg (by unfold ja;omega),D.seg (by unfold ja;omega)];exact K i (by unfold iN;rw[Zg];omega)
 rw[zF h8];by_cases h5:a=5
 .rw[zE h5];by_cases e:n≠0
  .rw[zE e];exact⟨ax,at',J,K⟩
  rw[zF e];by_cases g:0<=s.q
  .rw[zE g];exact⟨ax,at',J,K⟩
  rw[zF g];by_cases u:s.p≠s.L
  .rw[zE u];exact⟨ax,at',J,K⟩
  rw[zF u];have H2:=H.endd h wT Q V;have i0:=J.ini (by omega);have A:s.p=s.L:=by omega
  refine⟨(zt c (lY c s.p.toNat)).take c.X.length,yg c.X.length at' (zt c (lY c s.p.toNat)),⟨?_,λk=> ?_,λk=>⟨?_, ?_⟩⟩,K.kept h (GQ h z l1) ?_⟩
  .show Has c (HT c s.W (seg s.W (c.off 1) c.X.length)) (lY c s.p.toNat) _ _;rw[H.s];exact H2
  .exfalso;have k:s.L<0:=k;omega
  .show _=qY c s.L.toNat (s.L-s.L).toNat;rw[show(s.L-s.L).toNat=0 by omega,i0,A];rfl
  .show rg (lossR c s.W (seg s.W (c.off 1) c.X.length)).1 0=_;rw[H.s,H.lossV h wT,A]
  .show(if s.L<0 then s.p else s.L)<=if s.q<0 then s.p else s.q
   rw[Zh,Zg];omega
 rw[zF h5];by_cases h9:a=9
 .rw[zE h9];by_cases e:n≠0
  .rw[zE e];exact⟨ax,at',J,K⟩
  rw[zF e];by_cases g:s.q<1
  .rw[zE g];exact⟨ax,at',J,K⟩
  rw[zF g];have hqp:=hi.qp (by omega);obtain⟨i1,i2⟩:=J.adj (by omega);unfold Xb at i1;obtain⟨G1,G2⟩:=EY h wT wX (s.q-1).toNat;have hqq:(((s.q-1).toNat:Nat):Int)=s.q-1:=by omega
  obtain⟨k1,D⟩:=K (s.q-1).toNat (by unfold iN;rw[Zh];omega);rw[hqq]at k1 D;obtain⟨hl1,hl2,hl3,hl4,hl5,hl6⟩:=H.lens h wT;obtain⟨M,f2,N,F,y⟩:=yD h wT (t:=s.q-1) G1 G2
  have eB:(wH c s.W (s.q-1).toNat).2.1=tY c (s.q-1) (lY c (s.q-1).toNat) ax:=by
   unfold wH;rw[k1,D,H.x];rfl
  obtain⟨⟨q1,q2⟩,hR,hQ,x1,x2,t2⟩:=h.lens;obtain⟨p1,p2⟩:=I1 h wT (t:=s.q-1) G1 G2 hl2 hl5;have H2:=H.back h (a:=tY c (s.q-1) (lY c (s.q-1).toNat) ax) (by omega) (by omega) p2;obtain⟨E,b2⟩:=Sp h wT wX hm hi K (by omega);have H3:=H2.put1 h (w:=(wH c s.W (s.q-1).toNat).1.take c.X.length) (by rw[E,G1]) (by rw[E];exact G2);have hb9:=Lf h (a:=tY c (s.q-1) (lY c (s.q-1).toNat) ax) z (by omega) (by omega);refine⟨(tY c (s.q-1) (lY c (s.q-1).toNat) ax).take c.X.length,yg c.X.length at' (tY c (s.q-1) (lY c (s.q-1).toNat) ax),⟨?_,λk=> ?_,λk=>⟨?_,i2⟩⟩,K.kept h ?_ ?_⟩
  .show Has c (put (yj c s.W (wH c s.W (s.q-1).toNat).2.1) (c.off 1) ((wH c s.W (s.q-1).toNat).1.take c.X.length)) (lY c (s.q-1).toNat) _ _;rw[E]at H3⊢;rw[eB];exact H3
  .exfalso;have k:s.q-1<0:=k;omega
  .show _=qY c s.L.toNat (s.L-(s.q-1)).toNat;rw[Ks (c:=c) (L:=s.L) (q:=s.q) (by omega) (by omega),<-i1]
  .show dy c s.W (put (yj c s.W (wH c s.W (s.q-1).toNat).2.1) (c.off 1) ((wH c s.W (s.q-1).toNat).1.take c.X.length));rw[eB];exact dy.put h hb9 H2.wd (i:=1) (by omega) (by rw[E,G1];exact Nat.le_refl _)
  .show(if s.q-1<0 then s.q-1 else s.q-1)<=if s.q<0 then s.p else s.q
   rw[Zh,Zh];omega
 rw[zF h9];exact⟨ax,at',J,K⟩
end
end
section
inductive Ev where
 |act (a:Int×Int)
 |more
 |stop
def ul :List Ev->List (Int×Int)
 |[]=>[]
 | .act a::r=>a::ul r
 |_::r=>ul r
theorem AS : ∀a b:List Ev,ul (a++b)=ul a++ul b
 |[],b=>rfl
 | .act x::r,b=>congrArg (x:: ·) (AS r b)
 | .more::r,b=>AS r b
 | .stop::r,b=>AS r b
theorem DM : ∀l:List (Int×Int),ul (l.map .act)=l
 |[]=>rfl
 |x::r=>congrArg (x:: ·) (DM r)
def Yw (s:Dy):Option (Int×Int):=if s.q<0 then(if s.p<s.L then O (8,0)else O (5,0))else if 0<s.q then O (9,0)else Y
def tA (c:Cx)(en:Bool)(s:Dy):Option (Int×Int):=if c.mode=3 then Yw s else if c.mode=2 then qe en (oO c s)else A5 (oO c s)
def rK (c:Cx)(a:Int×Int)(s:Dy):Dy:=if c.mode=3 then(ET c a.1 a.2 s).2 else(CC c a.1 a.2 s).2
def vU (c:Cx)(a:Int×Int)(s:Dy):Prop:=if c.mode=3 then(ET c a.1 a.2 s).1=0 else∃b,JC a (oO c s)=O b
def Fh (s:Dy):Dy:={s with L:=s.L+1}
inductive Way (c:Cx)(l:Nat):Nat->Bool->Dy->List Ev->Nat->Bool->Dy->Prop
 |nil (f:Nat) (en:Bool) (s:Dy):Way c l f en s [] f en s
 |act {f:Nat} {en:Bool} {s:Dy} {a:Int×Int} {es:List Ev} {f':Nat} {en':Bool} {s':Dy}:tA c en s=O a->vU c a s->Way c l f en (rK c a s) es f' en' s'->Way c l f en s (.act a::es) f' en' s'
 |more {f:Nat} {s:Dy} {es:List Ev} {f':Nat} {en':Bool} {s':Dy}:c.mode=2->tA c Zb s=Y->s.q= -1->s.L<65535->f<l->Way c l (f+1) Zb (Fh s) es f' en' s'->Way c l f Zb s (.more::es) f' en' s'
 |stop {f:Nat} {s:Dy} {es:List Ev} {f':Nat} {en':Bool} {s':Dy}:c.mode=2->tA c Zb s=Y->s.q= -1->f=l->Way c l (f+1) Za s es f' en' s'->Way c l f Zb s (.stop::es) f' en' s'
theorem Way.app {c:Cx}{l:Nat}{es:List Ev}{f1:Nat}{g:Bool}{s1:Dy}(h:Way c l f en s es f1 g s1): ∀{m:List Ev} {q:Nat} {k:Bool} {r:Dy},Way c l f1 g s1 m q k r->Way c l f en s (es++m) q k r:=by
 induction h with
 |nil=>exact λh=>h
 |act a b _ p=>exact λh=> .act a b (p h)
 |more a b c d e _ p=>exact λh=> .more a b c d e (p h)
 |stop a b c d _ p=>exact λh=> .stop a b c d (p h)
def cz (c:Cx)(i:Nat)(s:Dy):Prop:=if c.mode=3 then Well1 c i s else Well2 c i s
def JE (c:Cx)(s:Dy):Prop:=(∃ax at',Jn c s ax at')/\if c.mode=3 then Kps c s else Sls c s
section
variable {c:Cx} (h:c.Ok)
include h
theorem oe (w:cz c i s)(e:tA c en s=O a)(m:vU c a s):cz c (i+1) (rK c a s):=by
 unfold cz rK vU at*;by_cases b:c.mode=3
 .simp only[zE b]at w m⊢;have:=w.act h b a;unfold ae1 at this
  have g:a.1≠0:=λd=>by
   unfold ET at m;rw[d]at m;simp at m
  rw[zF g]at this;exact this
 .simp only[zF b]at w m⊢;have:=w.act h b a;unfold W9 at this
  have g:a.1≠0:=λd=>by
   obtain⟨k,m⟩:=m;unfold JC at m;rw[d]at m;simp at m
  rw[zF g]at this;exact this
theorem Cp (w:cz c i s)(d:c.mode=2)(e:s.q= -1)(b:s.L<65535):cz c (i+1) (Fh s):=by
 unfold cz at*;rw[Zh]at*;have:=w.act h (by omega) (0,0);unfold W9 wJ at this;rw[zE rfl,Zh,Zh,Zh]at this;exact this
theorem RR (p:i<=j)(w:cz c i s):cz c j s:=by
 have m:De (65536*i) s->De (65536*j) s:=λk=>by
  obtain⟨a,b,d,e⟩:=k;unfold De;omega
 unfold cz at*;split
 .rename_i g;rw[zE g]at w;exact⟨w.inv,m w.cnt⟩
 .rename_i g;rw[zF g]at w;exact⟨w.inv,m w.cnt,w.len⟩
theorem Way.well {l:Nat}{es:List Ev}{q:Nat}{p:Bool}(H:Way c l f en s es q p s'): ∀{i:Nat},cz c i s->cz c (i+es.length) s':=by
 have k: ∀(i:Nat) (e:Ev) (es:List Ev),i+(e::es).length=i+1+es.length:=λi e es=>by
  rw[List.length_cons];omega
 induction H with
 |nil=>exact λw=>w
 |act a b _ m=>
  intro i w;rw[k];exact m (oe h w a b)
 |more a b d e g _ m=>
  intro i w;rw[k];exact m (Cp h w a d e)
 |stop a b d e _ m=>
  intro i w;rw[k];exact m (RR h (Nat.le_succ i) w)
theorem aC0 (wT:cv c.T)(wX:cv c.X)(w:cz c i s)(J:JE c s)(m:vU c a s):JE c (rK c a s):=by
 unfold cz JE rK vU at*;obtain⟨⟨ax,at',J⟩,K⟩:=J;by_cases d:c.mode=3
 .simp only[zE d]at w m K⊢;obtain⟨e,b,g,k⟩:=aL2 h wT wX d w.inv J K a.1 a.2;exact⟨⟨_,_,g⟩,k⟩
 .simp only[zF d]at w m K⊢;obtain⟨p,m⟩:=m;obtain⟨e,b,g,k⟩:=aL1 h wT wX d w.inv J K m;exact⟨⟨_,_,g⟩,k⟩
omit h in
theorem ak0 (J:JE c s)(d:c.mode=2)(e:s.q= -1):JE c (Fh s):=by
 obtain⟨⟨ax,at',J⟩,K⟩:=J;unfold JE;rw[Zh]at*;exact⟨⟨ax,at',J.has,J.ini,λb=>by have b:0<=s.q:=b;omega⟩,K⟩
theorem Way.je (wT:cv c.T)(wX:cv c.X){l:Nat}{es:List Ev}{p:Nat}{m:Bool}(H:Way c l f en s es p m s'): ∀{i:Nat},cz c i s->JE c s->JE c s':=by
 induction H with
 |nil=>exact λ_ J=>J
 |act a b _ k=>exact λw J=>k (oe h w a b) (aC0 h wT wX w J b)
 |more a b d e g _ k=>exact λw J=>k (Cp h w a d e) (ak0 J a d)
 |stop a b d e _ k=>exact λw J=>k w J
theorem J6 {l:Nat}(b:c.mode≠3){r:Mc->Option (Int×Int)}(d: ∀s,tA c en s=r (oO c s)){m m':Mc}{k:List (Int×Int)}(R:Run r m k m'): ∀{i:Nat} (s:Dy),oO c s=m->cz c i s->∃s',Way c l f en s (k.map .act) f en s'/\oO c s'=m':=by
 induction R with
 |nil=>exact λs e _=>⟨s, .nil _ _ _,e⟩
 | @cons A C D a k t p _ x=>
  intro i s e w;subst e;have q:tA c en s=O a:=(d s).trans t
  have mm:vU c a s:=by
   unfold vU;rw[zF b];exact⟨_,p⟩
  have g:=w;unfold cz at g;rw[zF b]at g;have u:=(JT h b g.inv p).2;obtain⟨s',y,z⟩:=x (rK c a s) (by unfold rK;rw[zF b];exact u) (oe h w q mm);exact⟨s', .act q mm y,z⟩
def rL (c:Cx):Dy:=if c.mode=3 then new1 c else new2 c
theorem og :cz c 0 (rL c):=by
 unfold cz rL;split
 .rename_i b;exact NQ h b [] 0
 .rename_i b;exact NR h b [] 0
theorem MW {l:Nat}{f:Nat}(b:c.mode=3): ∀(n:Nat) {i:Nat} (s:Dy),cz c i s->s.q= -1->s.L-s.p=n->∃s',Way c l f Zb s (List.replicate n (.act (8,0))) f Zb s'/\s'.q= -1/\s'.p=s.L/\s'.L=s.L
 |0,i,s,w,g,m=>⟨s, .nil _ _ _,g,by omega,rfl⟩
 |n+1,i,s,w,g,m=>by
  have e:tA c Zb s=O (8,0):=by
   unfold tA Yw;rw[zE b,Zg,Zg]
  have k:ET c 8 0 s=(0,(ET c 8 0 s).2):=by
   unfold ET;rw[zE rfl,Zh,Zh,Zh]
  have y:(ET c 8 0 s).2.q=s.q/\(ET c 8 0 s).2.p=s.p+1/\(ET c 8 0 s).2.L=s.L:=by
   unfold ET;rw[zE rfl,Zh,Zh,Zh];exact⟨rfl,rfl,rfl⟩
  have mm:vU c (8,0) s:=by
   unfold vU;rw[zE b];exact congrArg Prod.fst k
  have d:rK c (8,0) s=(ET c 8 0 s).2:=by unfold rK;rw[zE b]
  obtain⟨s',r,t,u,x⟩:=MW b n (rK c (8,0) s) (oe h w e mm) (by rw[d];omega) (by rw[d];omega);rw[d]at u x;exact⟨s', .act e mm r,t,by omega,by omega⟩
theorem MV {l:Nat}{f:Nat}(b:c.mode=3): ∀(n:Nat) {i:Nat} (s:Dy),cz c i s->s.q=n->∃s',Way c l f Zb s (List.replicate n (.act (9,0))) f Zb s'/\s'.q=0/\s'.L=s.L
 |0,i,s,w,k=>⟨s, .nil _ _ _,by omega,rfl⟩
 |n+1,i,s,w,k=>by
  have d:tA c Zb s=O (9,0):=by
   unfold tA Yw;rw[zE b,Zh,Zg]
  have g:(ET c 9 0 s).1=0/\(ET c 9 0 s).2.q=s.q-1/\(ET c 9 0 s).2.L=s.L:=by
   unfold ET;rw[Zh,Zh,zE rfl,Zh,Zh];exact⟨rfl,rfl,rfl⟩
  have mm:vU c (9,0) s:=by
   unfold vU;rw[zE b];exact g.1
  have e:rK c (9,0) s=(ET c 9 0 s).2:=by unfold rK;rw[zE b]
  obtain⟨s',m,p,r⟩:=MV b n (rK c (9,0) s) (oe h w d mm) (by rw[e];omega);rw[e]at r;exact⟨s', .act d mm m,p,by omega⟩
end
end
section
open List renaming length_append -> aB, length_cons -> bB, length_map -> bD, length_replicate -> cB, replicate -> cD, drop_replicate -> cK, replicate_append_replicate -> cL, take_replicate -> cM
open Nat renaming le_refl -> aD
section
variable {c:Cx}
theorem NG {N n:Nat}(h:o+n<=N):seg (cj N) o n=cj n:=by
 unfold seg cj;rw[cK,cM,Nat.min_eq_left (by omega)]
theorem Wy {N n:Nat}(h:o+n<=N):put (cj N) o (cj n)=cj N:=by
 unfold put cj;rw[cM,cK,cB,cL,cL,Nat.min_eq_left (by omega)]
 congr 1
 omega
theorem aj3 (h:c.Ok)(wT:cv c.T)(wX:cv c.X):Has c (O3 c (cj c.words.toNat)) c.X (cj c.X.length) (cj c.T.length):=by
 have b:Wd c (cj c.words.toNat):=cd _;have d:=b.tk h;rw[cd]at d;have m:=ga (c:=c) (show 5<9 by omega);have p:=ga (c:=c) (show 6<9 by omega);have k:=ga (c:=c) (show 0<9 by omega);have e:c.T.length<=c.sz 0:=aD _;have g:=b.put h (o:=c.off 0) (w:=c.T) (by have:c.sz 0=c.T.length:=rfl;omega);unfold O3
 have H0:Has c (put (cj c.words.toNat) (c.off 0) c.T) (seg (put (cj c.words.toNat) (c.off 0) c.T) (c.off 1) c.X.length) (cj c.X.length) (cj c.T.length):=by
  refine⟨g,(cv.rep _).put wT _, ?_,rfl, ?_, ?_⟩
  .exact tt (NK h b (by omega) e)
  .rw[yA h b (n:=c.X.length) (i:=0) (j:=5) (by omega) (by omega) (by omega) (aD _) e];exact NG (by have:c.sz 5=c.X.length:=rfl;omega)
  .rw[yA h b (n:=c.T.length) (i:=0) (j:=6) (by omega) (by omega) (by omega) (aD _) e];exact NG (by have:c.sz 6=c.T.length:=rfl;omega)
 exact H0.put1 h rfl wX
end
section
variable {c:Cx} (h:c.Ok)
include h
theorem YI (g:c.mode=2)(J:1<=c.ns)(w:c.len=0){l:Nat}(I:l<=400): ∀k,k<=l->∃s es,Way c l 0 Zb (new2 c) es k Zb s/\oO c s=⟨k,k,-1,(ey c.ns.toNat k).2⟩/\es.length=(ey c.ns.toNat k).1.length+k/\(ul es).length=(ey c.ns.toNat k).1.length
 |0,H=>by
  have m:=Yk h (by omega);rw[w]at m;have w0:=og h;unfold rL at w0;rw[Zh]at w0;have b: ∀s,tA c Zb s=qe Zb (oO c s):=λs=>by unfold tA;rw[Zh,zE g]
  obtain⟨s,r,e⟩:=J6 h (l:=l) (f:=0) (by omega) b (TN (s:=c.ns.toNat) (by omega)).1 (new2 c) m w0;exact⟨s,_,r,e,by rw[bD,Nat.add_zero],by rw[DM]⟩
 |k+1,H=>by
  obtain⟨s,es,r,e,y,z⟩:=YI g J w I k (by omega);have b: ∀s,tA c Zb s=qe Zb (oO c s):=λs=>by unfold tA;rw[Zh,zE g]
  have d:(ey c.ns.toNat (k+1)).1.length=(ey c.ns.toNat k).1.length+([(1,1)]++(tW (k+1) (ey c.ns.toNat k).2).1).length:=by
   show((ey c.ns.toNat k).1++[(1,1)]++(tW (k+1) (ey c.ns.toNat k).2).1).length=_;rw[List.append_assoc,aB]
  have x:=Kv (s:=c.ns.toNat) (k:=k) (by omega) (by omega);rw[<-e]at x;have u:s.q= -1:=congrArg Mc.q e;have A:s.L=(k:Int):=congrArg Mc.L e;have C:s.p=(k:Int):=congrArg Mc.p e;have D:kR c s.W=(ey c.ns.toNat k).2:=congrArg Mc.t e;have w0:=og h;unfold rL at w0;rw[Zh]at w0;have N:=r.well h w0;have Q:=Cp h N g u (by omega)
  have E:oO c (Fh s)=⟨(k:Int)+1,k,-1,(ey c.ns.toNat k).2⟩:=by
   show Mc.mk (s.L+1) s.p s.q (kR c s.W)=_;rw[A,C,u,D]
  obtain⟨M,K,F⟩:=J6 h (l:=l) (f:=k+1) (by omega) b (TO (s:=c.ns.toNat) (k:=k) (by omega) (by omega)).1 (Fh s) E Q;refine⟨M,es++ .more::([(1,1)]++(tW (k+1) (ey c.ns.toNat k).2).1).map .act,r.app (.more g ((b s).trans x) u (by omega) (by omega) K),F, ?_, ?_⟩
  .rw[aB,bB,bD,y,d];omega
  .rw[AS];show(ul es++ul (([(1,1)]++(tW (k+1) (ey c.ns.toNat k).2).1).map .act)).length=_;rw[DM,aB,z,d]
theorem aC5 (g:c.mode=2):c.len=0:=by
 have hc:=h.hc;have e:=h.num.len;unfold pu at hc;split at hc
 .rename_i k;exact absurd hc k
 split at hc
 .rename_i k;exact absurd hc k
 split at hc
 .rename_i k;exact absurd hc k
 split at hc
 .rename_i k;exact absurd hc k
 rename_i k;unfold hk3 at k;rw[zE g]at k;by_cases b:c.len<0
 .omega
 by_cases d:0<c.len
 .rw[zF b,zE d]at k;omega
 .omega
structure Fin (c:Cx)(l:Nat)(f:Nat)(en:Bool)(s:Dy)(es:List Ev):Prop where
 no:tA c en s=Y
 q:s.q=0
 L:s.L=l
 len:es.length<=(l+1)*(l+2)+8*l+2010
 one:1<=(ul es).length
 en:c.mode=2->en=Za
theorem as1 (e:fJ c.mode c.X.length c.T.length c.R c.l c.Q c.k c.len c.words=(c.fixed,c.tp,c.sl,c.ns,0)){l:Nat}(hl:l<=400)(g:c.mode≠2->c.len=l): ∃es f en s,Way c l 0 Zb (rL c) es f en s/\Fin c l f en s es:=by
 have nm:=h.num.mode;have w0:=og h;have hns:=h.ns;by_cases b:c.mode=3
 .have F:=g (by omega);have D:rL c=new1 c:=by unfold rL;rw[zE b]
  rw[D]at w0⊢;obtain⟨d,m,q1,W,L1⟩:=MW h (l:=l) (f:=0) b l (new1 c) w0 rfl (by show c.len-0=_;omega);have L1:d.L=c.len:=L1;have W:d.p=c.len:=W;have x:=m.well h w0
  have z:tA c Zb d=O (5,0):=by
   unfold tA Yw;rw[zE b,Zg,Zh]
  have K:(ET c 5 0 d).1=0/\(ET c 5 0 d).2.q=d.L/\(ET c 5 0 d).2.L=d.L:=by
   unfold ET;rw[Zh,zE rfl,Zh,Zh,Zh];exact⟨rfl,rfl,rfl⟩
  have mm:vU c (5,0) d:=by
   unfold vU;rw[zE b];exact K.1
  have N:rK c (5,0) d=(ET c 5 0 d).2:=by unfold rK;rw[zE b]
  have y:=oe h x z mm;obtain⟨C,r2,q2,L2⟩:=MV h (l:=l) (f:=0) b l (rK c (5,0) d) y (by rw[N];omega);rw[N]at L2;refine⟨_,_,_,C,m.app (.act z mm r2), ?_,q2,by omega, ?_, ?_,λk=>by omega⟩
  .unfold tA Yw;rw[zE b,Zh,Zh]
  .rw[aB,bB,cB,cB];omega
  .rw[AS,aB];show 1<=_+(ul (cD l (Ev.act (9,0)))).length.succ;omega
 have hn:=Yv h b e;have D:rL c=new2 c:=by unfold rL;rw[zF b]
 rw[D]at w0⊢;by_cases h1:c.mode=1
 .have F:=g (by omega);have w: ∀s,tA c Zb s=A5 (oO c s):=λs=>by unfold tA;rw[zF b,Zh]
  obtain⟨m',R,H,I,hR⟩:=aq4 (l:=l) (s:=c.ns.toNat) (by omega) (by omega);have u:=Yk h b;rw[F]at u;obtain⟨s,m,t⟩:=J6 h (l:=l) (f:=0) b w R (new2 c) u w0;have x:=m.well h w0;refine⟨_,_,_,s,m,(w s).trans (by rw[t];exact H), ?_, ?_,by rw[bD];omega, ?_,λk=>by omega⟩
  .rw[<-I,<-t];rfl
  .have y:=x;unfold cz at y;rw[zF b]at y;exact(y.len (by omega)).trans F
  .rw[DM];by_cases J:l=0
   .rw[zE J];exact aD _
   .rw[zF J]at R⊢;generalize pt (2*l) Zb l c.ns.toNat 0 (cD c.ns.toNat Zb) Za=k at R⊢;cases k with
    |nil=>
     exfalso;generalize hM:(⟨(l:Int),0,-1,cD c.ns.toNat (-1)⟩:Mc)=M at R;cases R;rw[<-hM]at I;have:(-1:Int)=0:=I;omega
    |cons _ _=>exact Nat.succ_le_succ (Nat.zero_le _)
 .have A:c.mode=2:=by omega
  have r: ∀en s,tA c en s=qe en (oO c s):=λen s=>by unfold tA;rw[zF b,zE A]
  have hal:=Ku c.ns.toNat l;have hbk:=TR (vF l (ey c.ns.toNat l).2.length) (ey c.ns.toNat l).2 l
  have hbl:(MU l (ey c.ns.toNat l).2).length<=4*l+2/\1<=(MU l (ey c.ns.toNat l).2).length:=by
   unfold MU frB;rw[bB,aB];split
   .rw[List.length_singleton];omega
   .rw[List.length_nil];omega
  obtain⟨s,es,m,t,z,K⟩:=YI h A hn (aC5 h A) hl l (aD _);have V:=Kv (s:=c.ns.toNat) (k:=l) (by omega) (by omega);rw[<-t]at V;obtain⟨Z,b2⟩:=Xm (l:=l) (s:=c.ns.toNat) (by omega) (by omega);have x:=m.well h w0;obtain⟨C,r3,E⟩:=J6 h (l:=l) (f:=l+1) b (r Za) Z s t x;refine⟨_,_,_,C,m.app (.stop A ((r Zb s).trans V) (congrArg Mc.q t) rfl r3),(r Za C).trans (by rw[E];exact b2),congrArg Mc.q E,congrArg Mc.L E, ?_, ?_,λ_=>rfl⟩
  .rw[aB,bB,bD,z];omega
  .rw[AS,aB];show 1<=_+(ul ((MU l (ey c.ns.toNat l).2).map .act)).length;rw[DM];omega
omit h in
theorem Fin.le {l:Nat}{es:List Ev}(F:Fin c l f en s es)(d:l<=40):es.length<=6000:=by
 have:=F.len;have b:(l+1)*(l+2)<=41*42:=Nat.mul_le_mul (by omega) (by omega);omega
theorem aC1 (wT:cv c.T)(wX:cv c.X):JE c (rL c):=by
 have r:Wd c (cj c.words.toNat):=cd _;have g:=r.tk h;rw[cd]at g;have H:=aj3 h wT wX;unfold JE rL;by_cases d:c.mode=3
 .simp only[zE d];exact⟨⟨_,_,H,λ_=>rfl,λb=>by have b:(0:Int)<= -1:=b;omega⟩,λi hi=>by have hi:(i:Int)<0:=hi;omega⟩
 .simp only[zF d];have e:put (cj c.words.toNat) (c.off 8) (cj (c.sl*c.ns).toNat)=cj c.words.toNat:=Wy (by have:=Lr (c:=c);omega)
  have m:(new2 c).W=O3 c (cj c.words.toNat):=by
   show O3 c (put (cj c.words.toNat) (c.off 8) (cj (c.sl*c.ns).toNat))=_;rw[e]
  refine⟨⟨cj c.X.length,cj c.T.length,by rw[m];exact H,λ_=>rfl,λb=>by have b:(0:Int)<= -1:=b;omega⟩,λk p q=> ?_⟩;rw[GX h d p]at q;omega
end
end
section
open Go.IntKind renaming wrap -> zH, i64 -> zI, u64 -> zJ
open List renaming append_assoc -> aB, getD_eq_getElem?_getD -> aD, getElem?_append_right -> bB
def aa6 (s x:Int):Int:=(3*s+x) % 18446744073709551616
def S36 (l:Zd):Int:=l.foldl aa6 1
theorem Ri (a b:Int):xI [a,b]=O (a*b % 18446744073709551616):=by
 unfold xI;rw[Ic (l:=[a,b]) (λs x=>s*x % 18446744073709551616) 1 (c:=id) (by simp) ?_ ?_]
 .simp only[zG,List.foldl,id];rw[Int.one_mul,Int.mul_emod,Int.emod_emod_of_dvd _ (Int.dvd_refl _),<-Int.mul_emod]
 .intro i hi s;simp only[zV,ag];rw[Zg,cl hi];simp only[zG];rw[ad (by simp at hi;omega),Ma];rfl
 .intro s;simp only[zV,ag];rw[Zh];rfl
theorem Rh (a b:Int):xH [a,b]=O ((a+b) % 18446744073709551616):=by
 unfold xH;rw[Ic (l:=[a,b]) (λs x=>(s+x) % 18446744073709551616) 0 (c:=id) (by simp) ?_ ?_]
 .simp only[zG,List.foldl,id]
  congr 1
  omega
 .intro i hi s;simp only[zU,ag];rw[Zg,cl hi];simp only[zG];rw[ad (by simp at hi;omega),Ma];rfl
 .intro s;simp only[zU,ag];rw[Zh];rfl
theorem U1 (s x:Int):(s*3 % 18446744073709551616+x) % 18446744073709551616=aa6 s x:=by
 unfold aa6;omega
theorem SK (l:Zd)(b:l.length<9223372036854775807):wN l=O (S36 l):=by
 unfold wN;rw[Ic (l:=l) aa6 1 (c:=id) b ?_ ?_]
 .rfl
 .intro i hi s;simp only[vP,ag];rw[Zg,cl hi];simp only[zG,Ri,Rh,U1];rw[Zi];rfl
 .intro s;simp only[vP,ag];rw[Zh];rfl
def Vi (h:Zd)(l:Zd):Zd:=h++(l.length:Int)::l++[S36 (h++(l.length:Int)::l)]
theorem B5 (l:Zd)(a1 a2 a3 a4 a5 a6 a7 a8 a9 a10 a11 a12 a13 a14 a15 a16:Int)(g:l.length<=1048576):mj l a1 a2 a3 a4 a5 a6 a7 a8 a9 a10 a11 a12 a13 a14 a15 a16=
  O (Vi [a1,a2,a3,a4,a5,a6,a7,a8,a9,a10,a11,a12,a13,a14,a15,a16] l):=by
 unfold mj Vi;rw[ad (show-9223372036854775808<=(16+(((l.length:Nat)):Int))/\(16+(((l.length:Nat)):Int))<=9223372036854775807 by omega),Zi,uB (by omega)];have e:AU (List.replicate 16 (0:Int)) 0 (List.length (List.replicate 16 (0:Int))) [a1,a2,a3,a4,a5,a6,a7,a8,a9,a10,a11,a12,a13,a14,a15,a16]=[a1,a2,a3,a4,a5,a6,a7,a8,a9,a10,a11,a12,a13,a14,a15,a16]:=rfl;rw[e];have b:Zc (16<=16+(l.length:Int)+2)=Za:=zB (by omega);have d:Zc ((8:Int)*(16+(l.length:Int)+2)<=140737488355328)=Za:=zB (by omega);rw[b,d];show gd Za _=_;rw[ci,bp (by simp) (by omega),bp (by simp;omega) (by omega),SK _ (by simp;omega)];simp only[zG];rw[bp (by simp;omega) (by omega)];simp only[aB,List.singleton_append]
def TQ (e:Int):Int×Int×Int×Int×Int×Int×Int×Int×Int×Int×Int×Int×Int×Int×Int×Int×Int×Zd:=(0,0,0,0,0,0,0,0,0,0,0,0,0,0,0,0,e,[])
def Pe (w:Zd):Int×Int×Int×Int×Int×Int×Int×Int×Int×Int×Int×Int×Int×Int×Int×Int×Int×Zd:=
 if w.length<18 then TQ 4 else if(w.length:Int)-18<w.getD 16 0 then TQ 4 else if w.getD 16 0<(w.length:Int)-18 then TQ 21
 else if w.getD (w.length-1) 0≠S36 (w.take (w.length-1))then TQ 3 else(w.getD 0 0,w.getD 1 0,w.getD 2 0,w.getD 3 0,w.getD 4 0,w.getD 5 0,w.getD 6 0,w.getD 7 0,w.getD 8 0,w.getD 9 0,w.getD 10 0,w.getD 11 0,w.getD 12 0,w.getD 13 0,w.getD 14 0,w.getD 15 0,0,(w.take (w.length-1)).drop 17)
theorem IX (w:Zd)(p:w.length<=2000000):jW w=O (Pe w):=by
 unfold jW Pe;rw[uB (show w.length<9223372036854775808 by omega)];simp only[ag];by_cases m:w.length<18
 .rw[Zg,zE m];rfl
 rw[Zh,zF m,Zk,ad (show-9223372036854775808<=(w.length:Int)-1/\(w.length:Int)-1<=9223372036854775807 by omega)];rw[show rd w 16=O (w.getD 16 0)from zw (i:=16) (by omega)];simp only[zG,ag];by_cases e:(w.length:Int)-18<w.getD 16 0
 .rw[zE e,zE e];rfl
 rw[zF e,zF e];by_cases g:w.getD 16 0<(w.length:Int)-18
 .rw[zE g,zE g];rfl
 rw[zF g,zF g]
 have b:aq (pF w) di (0,1)=O (S36 (w.take (w.length-1))):=by
  refine fj (n:=w.length-1) (λi=>(w.take i).foldl aa6 1) (by omega) ?_ ?_
  .intro i hi;have d:i<w.length:=by omega
   simp only[pF,ag];rw[Zg,cl d,ad (show-9223372036854775808<=(w.length:Int)-1/\(w.length:Int)-1<=9223372036854775807 by omega)];simp only[zG,Ri,Rh,U1];rw[Zh,Zi,List.take_succ_eq_append_getElem d,List.foldl_append];rfl
  .simp only[pF,ag];rw[Zg,cl (by omega),ad (show-9223372036854775808<=(w.length:Int)-1/\(w.length:Int)-1<=9223372036854775807 by omega)];simp only[zG];rw[Zg];rfl
 rw[b,show rd w ((w.length:Int)-1)=O (w.getD (w.length-1) 0)from by rw[<-zw (by omega)];congr 1;omega];simp only[zG,ag];by_cases k:w.getD (w.length-1) 0≠S36 (w.take (w.length-1))
 .rw[zE k,zE k];rfl
 rw[zF k,zF k];unfold eY ak pm;rw[zB (show(0:Int)<=17 by omega),zB (show(17:Int)<=(w.length:Int)-1 by omega),zB (show(w.length:Int)-1<=(w.length:Int)by omega)];show gd Za _=_;rw[ci,bp (by simp;omega) (by omega)];simp only[zG];rw[show((w.length:Int)-1).toNat=w.length-1 by omega];rfl
theorem Oq {h:Zd}(b:h.length=16):(Vi h l).length=l.length+18:=by
 simp[Vi,b];omega
theorem W8 {h:Zd}(b:h.length=16):(Vi h l).take (l.length+17)=h++(l.length:Int)::l:=by
 unfold Vi;rw[List.take_append_of_le_length (by simp[b];omega),List.take_of_length_le (by simp[b];omega)]
theorem W7 {h:Zd}(b:h.length=16):(Vi h l).getD (l.length+17) 0=S36 (h++(l.length:Int)::l):=by
 unfold Vi;rw[aD,bB (by simp[b];omega)];simp[b];rw[show l.length+17-(16+(l.length+1))=0 by omega];rfl
theorem ax9 {h:Zd}(b:h.length=16):(Vi h l).getD 16 0=l.length:=by
 unfold Vi;rw[aD,aB,bB (by simp[b])];simp[b]
theorem YS (l:Zd)(a1 a2 a3 a4 a5 a6 a7 a8 a9 a10 a11 a12 a13 a14 a15 a16:Int):Pe (Vi [a1,a2,a3,a4,a5,a6,a7,a8,a9,a10,a11,a12,a13,a14,a15,a16] l)=(a1,a2,a3,a4,a5,a6,a7,a8,a9,a10,a11,a12,a13,a14,a15,a16,0,l):=by
 have b:[a1,a2,a3,a4,a5,a6,a7,a8,a9,a10,a11,a12,a13,a14,a15,a16].length=16:=rfl;unfold Pe;rw[Oq b,ax9 b,Zh,Zh,Zh,show l.length+18-1=l.length+17 by omega,W7 b,W8 b,zF (by simp)];have d:([a1,a2,a3,a4,a5,a6,a7,a8,a9,a10,a11,a12,a13,a14,a15,a16]++(l.length:Int)::l).drop 17=l:=rfl;rw[d];rfl
theorem Oo {a0:Int}{a1 a2:Zd}{a3:Int}{a4:List bx}{a5:Int}{a6:List bx}{a7 a8:Int}{p q r t y z A C D E b d e g k m:Int}(F:l.length<=1048576):
  lN a0 a1 a2 a3 a4 a5 a6 a7 a8 (Vi [p,q,r,t,y,z,A,C,D,E,b,d,e,g,k,m] l)=hC a0 a1 a2 a3 a4 a5 a6 a7 a8 l p q r t y z A C D E b d e g k m:=by
 unfold lN;rw[IX _ (by rw[Oq rfl];omega),YS];simp only[zG];rw[zA (by simp),zD];cases hC a0 a1 a2 a3 a4 a5 a6 a7 a8 l p q r t y z A C D E b d e g k m with
 |none=>rfl
 |some x=>
  cases x with
  |inl u=>rfl
  |inr w=>cases w with
   |inl u=>rfl
   |inr v=>rfl
def bI (b:Bool):Int:=cond b 1 0
def QI (m L q b d:Int):Bool:=cond (Zc (1<b)) Zb (cond (Zc (1<d)) Zb (cond (Zc (1<IntKind.u64.wrap (b+d))) Zb (cond (Zc (m≠2)) (Zc (zH zJ (b+d)=0)) (cond (Zc (d=1)) (cond (!(Zc (0<=q))) (Zc (L=65535)) Zb) (cond (Zc (b=1)) Za (!(Zc (0<=q))))))))
section
variable {c:Cx}
theorem XP (s:Dy)(m:Int)(a b:Bool):lu m a b c.fixed c.tp c.sl c.ns c.mode c.R c.Q c.len c.words s.L s.p s.q s.c0 s.c1 s.c2 s.c3 s.z c.X c.T c.l c.k c.P c.tk s.lv s.pk c.words s.W=O (s.p,s.q):=rfl
theorem UY (h:c.Ok)(d:c.mode≠3)(s:Dy)(b:Wd c s.W)(e: ∀k,k<c.ns.toNat->0<=gX c s.W k/\gX c s.W k<=65536):dj c.fixed c.tp c.sl c.ns c.mode c.R c.Q c.len c.words s.L s.p s.q s.c0 s.c1 s.c2 s.c3 s.z c.X c.T c.l c.k c.P c.tk (c.off 8:Int) c.ns (c.X.length:Int) s.lv s.pk c.words s.W=O (s.p,s.q,kR c s.W):=by
 unfold dj;rw[Hl h d b e];rfl
theorem aA2 (h:c.Ok)(e:c.mode≠3)(s:Dy)(hi:Inv c s)(m:Int)(a b:Bool):fV m a b c.fixed c.tp c.sl c.ns c.mode c.R c.Q c.len c.words s.L s.p s.q s.c0 s.c1 s.c2 s.c3 s.z c.X c.T c.l c.k c.P c.tk (c.off 8:Int) c.ns (c.X.length:Int) s.lv s.pk c.words s.W=O (s.p,s.q,kR c s.W):=by
 unfold fV;exact db (UY h e s hi.w λk d=>by have:=hi.tag k d;have:=hi.L;omega) rfl
theorem aA3 (h:c.Ok)(e:c.mode≠3)(s:Dy)(hi:Inv c s)(m:Int)(a b:Bool):fW m a b c.fixed c.tp c.sl c.ns c.mode c.R c.Q c.len c.words s.L s.p s.q s.c0 s.c1 s.c2 s.c3 s.z c.X c.T c.l c.k c.P c.tk (c.off 8:Int) c.ns (c.X.length:Int) s.lv s.pk c.words s.W=O (s.p,s.q,kR c s.W):=by
 unfold fW;exact db (UY h e s hi.w λk d=>by have:=hi.tag k d;have:=hi.L;omega) rfl
theorem aL4 (s:Dy)(m d e:Int)(a b:Bool):kM d e m a b c.fixed c.tp c.sl c.ns c.mode c.R c.Q c.len c.words s.L s.p s.q s.c0 s.c1 s.c2 s.c3 s.z c.X c.T c.l c.k c.P c.tk s.lv s.pk c.words s.W=O (QI m s.L s.q d e):=by
 unfold kM;refine db (XP s m a b) ?_;rw[show gc m a b c.fixed c.tp c.sl c.ns c.mode c.R c.Q c.len c.words s.L s.p s.q s.c0 s.c1 s.c2 s.c3 s.z c.X c.T c.l c.k c.P c.tk s.lv s.pk c.words s.W=O s.L from rfl];simp only[zG];unfold QI;cases Zc (1<d)<;>cases Zc (1<e)<;>cases Zc (1<IntKind.u64.wrap (d+e))<;>cases Zc (m≠2)<;>cases Zc (e=1)<;>cases Zc (0<=s.q)<;>cases Zc (d=1)<;>rfl
theorem aL5 (h:c.Ok)(g:c.mode≠3)(s:Dy)(hi:Inv c s)(m d e:Int)(a b:Bool):kN d e m a b c.fixed c.tp c.sl c.ns c.mode c.R c.Q c.len c.words s.L s.p s.q s.c0 s.c1 s.c2 s.c3 s.z c.X c.T c.l c.k c.P c.tk (c.off 8:Int) c.ns (c.X.length:Int) s.lv s.pk c.words s.W=O (QI m s.L s.q d e):=by
 unfold kN;refine db (aA2 h g s hi m a b) ?_;rw[show fC m a b c.fixed c.tp c.sl c.ns c.mode c.R c.Q c.len c.words s.L s.p s.q s.c0 s.c1 s.c2 s.c3 s.z c.X c.T c.l c.k c.P c.tk (c.off 8:Int) c.ns (c.X.length:Int) s.lv s.pk c.words s.W=O s.L from rfl];simp only[zG];unfold QI;cases Zc (1<d)<;>cases Zc (1<e)<;>cases Zc (1<IntKind.u64.wrap (d+e))<;>cases Zc (m≠2)<;>cases Zc (e=1)<;>cases Zc (0<=s.q)<;>cases Zc (d=1)<;>rfl
theorem aL6 (h:c.Ok)(g:c.mode≠3)(s:Dy)(hi:Inv c s)(m d e:Int)(a b:Bool):kO d e m a b c.fixed c.tp c.sl c.ns c.mode c.R c.Q c.len c.words s.L s.p s.q s.c0 s.c1 s.c2 s.c3 s.z c.X c.T c.l c.k c.P c.tk (c.off 8:Int) c.ns (c.X.length:Int) s.lv s.pk c.words s.W=O (QI m s.L s.q d e):=by
 unfold kO;refine db (aA3 h g s hi m a b) ?_;rw[show fD m a b c.fixed c.tp c.sl c.ns c.mode c.R c.Q c.len c.words s.L s.p s.q s.c0 s.c1 s.c2 s.c3 s.z c.X c.T c.l c.k c.P c.tk (c.off 8:Int) c.ns (c.X.length:Int) s.lv s.pk c.words s.W=O s.L from rfl];simp only[zG];unfold QI;cases Zc (1<d)<;>cases Zc (1<e)<;>cases Zc (1<IntKind.u64.wrap (d+e))<;>cases Zc (m≠2)<;>cases Zc (e=1)<;>cases Zc (0<=s.q)<;>cases Zc (d=1)<;>rfl
def K7 (c:Cx)(s:Dy)(en b:Bool):Zd:=Vi [zH zJ c.mode,zH zJ s.L,zH zJ s.p,zH zJ (zH zI (s.q+1)),zH zJ c.ns,zH zJ s.c0,zH zJ s.c1,zH zJ s.c2,zH zJ s.c3,zH zJ s.lv,zH zJ s.pk,s.z,bI en,bI b,0,0] s.W
theorem EF (b:Bool):jV b=O (bI b):=by cases b<;>rfl
theorem az9 (s:Dy)(m:Int)(a b:Bool):ji m a b c.fixed c.tp c.sl c.ns c.mode c.R c.Q c.len c.words s.L s.p s.q s.c0 s.c1 s.c2 s.c3 s.z c.X c.T c.l c.k c.P c.tk s.lv s.pk c.words s.W=O (Rq c s):=by
 unfold ji;exact db (W5 s) rfl
theorem aK6 (h:c.Ok)(d:Wd c s.W)(e:s.W.length<=1048576)(m:Int)(en b:Bool):iR m en b c.fixed c.tp c.sl c.ns c.mode c.R c.Q c.len c.words s.L s.p s.q s.c0 s.c1 s.c2 s.c3 s.z c.X c.T c.l c.k c.P c.tk s.lv s.pk c.words s.W=O (K7 c s en b):=by
 unfold iR;refine db (az9 s m en b) ?_;simp only[Rq];refine db (EF en) (db (EF b) ?_);refine db (show kL m en b c.fixed c.tp c.sl c.ns c.mode c.R c.Q c.len c.words s.L s.p s.q s.c0 s.c1 s.c2 s.c3 s.z c.X c.T c.l c.k c.P c.tk s.lv s.pk c.words s.W=O s.W from by unfold kL;exact db (aB6 h d) rfl) ?_;exact db (B5 _ _ _ _ _ _ _ _ _ _ _ _ _ _ _ _ _ e) rfl
theorem aA0 (s:Dy)(m:Int)(a b:Bool):iu m a b c.fixed c.tp c.sl c.ns c.mode c.R c.Q c.len c.words s.L s.p s.q s.c0 s.c1 s.c2 s.c3 s.z c.X c.T c.l c.k c.P c.tk (c.off 8:Int) c.ns (c.X.length:Int) s.lv s.pk c.words s.W=O (Rq c s):=by
 unfold iu;exact db (PS s) rfl
theorem aK7 (h:c.Ok)(d:Wd c s.W)(e:s.W.length<=1048576)(m:Int)(en b:Bool):iS m en b c.fixed c.tp c.sl c.ns c.mode c.R c.Q c.len c.words s.L s.p s.q s.c0 s.c1 s.c2 s.c3 s.z c.X c.T c.l c.k c.P c.tk (c.off 8:Int) c.ns (c.X.length:Int) s.lv s.pk c.words s.W=O (K7 c s en b):=by
 unfold iS;refine db (aA0 s m en b) ?_;simp only[Rq];refine db (EF en) (db (EF b) ?_);refine db (show jg m en b c.fixed c.tp c.sl c.ns c.mode c.R c.Q c.len c.words s.L s.p s.q s.c0 s.c1 s.c2 s.c3 s.z c.X c.T c.l c.k c.P c.tk (c.off 8:Int) c.ns (c.X.length:Int) s.lv s.pk c.words s.W=O s.W from by unfold jg;exact db (X1 h d) rfl) ?_;exact db (B5 _ _ _ _ _ _ _ _ _ _ _ _ _ _ _ _ _ e) rfl
theorem aA1 (s:Dy)(m:Int)(a b:Bool):iv m a b c.fixed c.tp c.sl c.ns c.mode c.R c.Q c.len c.words s.L s.p s.q s.c0 s.c1 s.c2 s.c3 s.z c.X c.T c.l c.k c.P c.tk (c.off 8:Int) c.ns (c.X.length:Int) s.lv s.pk c.words s.W=O (Rq c s):=by
 unfold iv;exact db (PS s) rfl
theorem aK8 (h:c.Ok)(d:Wd c s.W)(e:s.W.length<=1048576)(m:Int)(en b:Bool):iT m en b c.fixed c.tp c.sl c.ns c.mode c.R c.Q c.len c.words s.L s.p s.q s.c0 s.c1 s.c2 s.c3 s.z c.X c.T c.l c.k c.P c.tk (c.off 8:Int) c.ns (c.X.length:Int) s.lv s.pk c.words s.W=O (K7 c s en b):=by
 unfold iT;refine db (aA1 s m en b) ?_;simp only[Rq];refine db (EF en) (db (EF b) ?_);refine db (show jh m en b c.fixed c.tp c.sl c.ns c.mode c.R c.Q c.len c.words s.L s.p s.q s.c0 s.c1 s.c2 s.c3 s.z c.X c.T c.l c.k c.P c.tk (c.off 8:Int) c.ns (c.X.length:Int) s.lv s.pk c.words s.W=O s.W from by unfold jh;exact db (X1 h d) rfl) ?_;exact db (B5 _ _ _ _ _ _ _ _ _ _ _ _ _ _ _ _ _ e) rfl
theorem Pf (d:s.W.length<=1048576)(en b:Bool):jW (K7 c s en b)=O (zH zJ c.mode,zH zJ s.L,zH zJ s.p,zH zJ (zH zI (s.q+1)),zH zJ c.ns,zH zJ s.c0,zH zJ s.c1,zH zJ s.c2,zH zJ s.c3,zH zJ s.lv,zH zJ s.pk,s.z,bI en,bI b,0,0,0,s.W):=by
 unfold K7;rw[IX _ (by rw[Oq rfl];omega),YS]
theorem Sg (h:c.Ok)(g:c.mode=3)(e:fJ c.mode c.X.length c.T.length c.R c.l c.Q c.k c.len c.words=(c.fixed,c.tp,c.sl,c.ns,0))(hi:InvB c s)(d:De B s)(b:B<=2305843009213693952)(x y:Int):
  hC c.mode c.X c.T c.R c.l c.Q c.k c.len c.words s.W (zH zJ c.mode) (zH zJ s.L) (zH zJ s.p) (zH zJ (zH zI (s.q+1))) (zH zJ c.ns) (zH zJ s.c0) (zH zJ s.c1) (zH zJ s.c2) (zH zJ s.c3) (zH zJ s.lv) (zH zJ s.pk) s.z x y 0 0=O (.inr (.inl (Ue c s))):=ay2 h g e hi d b
theorem Kt (h:c.Ok)(m:c.mode≠3)(e:fJ c.mode c.X.length c.T.length c.R c.l c.Q c.k c.len c.words=(c.fixed,c.tp,c.sl,c.ns,0))(hi:Inv c s)(d:Gj c s)(g:De B s)(b:B<=2305843009213693952)(x y:Int):
  hC c.mode c.X c.T c.R c.l c.Q c.k c.len c.words s.W (zH zJ c.mode) (zH zJ s.L) (zH zJ s.p) (zH zJ (zH zI (s.q+1))) (zH zJ c.ns) (zH zJ s.c0) (zH zJ s.c1) (zH zJ s.c2) (zH zJ s.c3) (zH zJ s.lv) (zH zJ s.pk) s.z x y 0 0=O (.inr (.inr (M7 c s))):=ay3 h m e hi d g b
theorem Ln {L q:Int}{m:Int}(d:m≠2->en=Zb)(g:0<=q->m=2->en=Za):QI m L q (bI en) (bI Zb)=Za:=by
 unfold QI;cases en with
 |false=>
  have e: ¬(0<=q/\m=2):=λk=>by cases g k.1 k.2
  by_cases b:m=2
  .rw[zA (show¬(m≠2)from λk=>k b),zA (show¬(0<=q)from λk=>e ⟨k,b⟩)];rfl
  .rw[zB (show m≠2 from b)];rfl
 |true=>
  have b:m=2:=Classical.byContradiction λk=>by cases d k
  rw[zA (show¬(m≠2)from λk=>k b)];rfl
theorem WN (h:c.Ok)(d:c.mode=3)(e:fJ c.mode c.X.length c.T.length c.R c.l c.Q c.k c.len c.words=(c.fixed,c.tp,c.sl,c.ns,0))(hi:InvB c s)(r:De B s)(m:B<=2305843009213693952)(b:s.W.length<=1048576):
  gp c.mode c.X c.T c.R c.l c.Q c.k c.len c.words (K7 c s Zb Zb)=O (.inr (.inl (c.mode,Zb,Zb,c.fixed,c.tp,c.sl,c.ns,c.mode,c.R,c.Q,c.len,c.words,s.L,s.p,s.q,s.c0,s.c1,s.c2,s.c3,s.z,c.X,c.T,c.l,c.k,c.P,c.tk,s.lv,s.pk,c.words,s.W))):=by
 unfold gp;have g:lN c.mode c.X c.T c.R c.l c.Q c.k c.len c.words (K7 c s Zb Zb)=O (.inr (.inl (Ue c s))):=(Oo b).trans (Sg h d e hi r m _ _);refine db g ?_;simp only[ck,iw,Ue];refine db (Pf b Zb Zb) ?_
 refine db (show lM c.mode c.X c.T c.R c.l c.Q c.k c.len c.words c.fixed c.tp c.sl c.ns c.mode c.R c.Q c.len c.words s.L s.p s.q s.c0 s.c1 s.c2 s.c3 s.z c.X c.T c.l c.k c.P c.tk s.lv s.pk c.words s.W=O (c.mode,Zb,Zb)from by
  simp only[lM,d]
  rfl) ?_
 refine db (aL4 s c.mode (bI Zb) (bI Zb) Zb Zb) ?_;rw[Ln (λ_=>rfl) (λ_ k=>by omega)];rfl
theorem WO (h:c.Ok)(w:c.mode=1)(e:fJ c.mode c.X.length c.T.length c.R c.l c.Q c.k c.len c.words=(c.fixed,c.tp,c.sl,c.ns,0))(hi:Inv c s)(t:Gj c s)(u:De B s)(r:B<=2305843009213693952)(b:s.W.length<=1048576)(g:c.mode≠2->en=Zb)(m:0<=s.q->c.mode=2->en=Za):
  gp c.mode c.X c.T c.R c.l c.Q c.k c.len c.words (K7 c s en Zb)=O (.inr (.inr (.inl (c.mode,en,Zb,c.fixed,c.tp,c.sl,c.ns,c.mode,c.R,c.Q,c.len,c.words,s.L,s.p,s.q,s.c0,s.c1,s.c2,s.c3,s.z,c.X,c.T,c.l,c.k,c.P,c.tk,(c.off 8:Int),c.ns,(c.X.length:Int),s.lv,s.pk,c.words,s.W)))):=by
 unfold gp;have d:lN c.mode c.X c.T c.R c.l c.Q c.k c.len c.words (K7 c s en Zb)=O (.inr (.inr (M7 c s))):=(Oo b).trans (Kt h (by omega) e hi t u r _ _);refine db d ?_;simp only[ck,M7];refine db (Pf b en Zb) ?_
 refine db (show gq c.mode c.X c.T c.R c.l c.Q c.k c.len c.words c.fixed c.tp c.sl c.ns c.mode c.R c.Q c.len c.words s.L s.p s.q s.c0 s.c1 s.c2 s.c3 s.z c.X c.T c.l c.k c.P c.tk (c.off 8:Int) c.ns (c.X.length:Int) s.lv s.pk c.words s.W=O (.inl (c.mode,Zb,Zb))from by
  simp only[gq,w]
  rfl) ?_
 rw[iw];refine db (aL5 h (by omega) s hi c.mode (bI en) (bI Zb) Zb Zb) ?_;rw[Ln g m];cases en<;>rfl
theorem WP (h:c.Ok)(w:c.mode=2)(e:fJ c.mode c.X.length c.T.length c.R c.l c.Q c.k c.len c.words=(c.fixed,c.tp,c.sl,c.ns,0))(hi:Inv c s)(t:Gj c s)(u:De B s)(r:B<=2305843009213693952)(b:s.W.length<=1048576)(g:c.mode≠2->en=Zb)(m:0<=s.q->c.mode=2->en=Za):
  gp c.mode c.X c.T c.R c.l c.Q c.k c.len c.words (K7 c s en Zb)=O (.inr (.inr (.inr (c.mode,en,Zb,c.fixed,c.tp,c.sl,c.ns,c.mode,c.R,c.Q,c.len,c.words,s.L,s.p,s.q,s.c0,s.c1,s.c2,s.c3,s.z,c.X,c.T,c.l,c.k,c.P,c.tk,(c.off 8:Int),c.ns,(c.X.length:Int),s.lv,s.pk,c.words,s.W)))):=by
 unfold gp;have d:lN c.mode c.X c.T c.R c.l c.Q c.k c.len c.words (K7 c s en Zb)=O (.inr (.inr (M7 c s))):=(Oo b).trans (Kt h (by omega) e hi t u r _ _);refine db d ?_;simp only[ck,M7];refine db (Pf b en Zb) ?_
 refine db (show gq c.mode c.X c.T c.R c.l c.Q c.k c.len c.words c.fixed c.tp c.sl c.ns c.mode c.R c.Q c.len c.words s.L s.p s.q s.c0 s.c1 s.c2 s.c3 s.z c.X c.T c.l c.k c.P c.tk (c.off 8:Int) c.ns (c.X.length:Int) s.lv s.pk c.words s.W=O (.inr (c.mode,Zb,Zb))from by
  simp only[gq,w]
  rfl) ?_
 rw[ck];refine db (aL6 h (by omega) s hi c.mode (bI en) (bI Zb) Zb Zb) ?_;rw[Ln g m];cases en<;>rfl
end
end
section
open Bool renaming not_true -> aB
section
variable {c:Cx} (h:c.Ok)
def QE (c:Cx)(en:Bool)(s:Dy):Prop:=(c.mode≠2->en=Zb)/\(0<=s.q->c.mode=2->en=Za)
theorem Ij :QE c Zb (rL c):=⟨λ_=>rfl,λb _=>by
 have:(rL c).q= -1:=by unfold rL;split<;>rfl
 omega⟩
include h
theorem Pc (w:cz c i s)(Q:QE c en s)(e:tA c en s=O a)(m:vU c a s):QE c en (rK c a s):=by
 refine⟨Q.1,λg p=> ?_⟩;by_cases x:0<=s.q
 .exact Q.2 x p
 have r: ¬c.mode=3:=by omega
 unfold tA at e;unfold vU at m;unfold rK at g;unfold cz at w;rw[zF r]at e m g w;rw[zE p]at e;obtain⟨t,m⟩:=m;have f:=(JT h r w.inv m).2;have y:(CC c a.1 a.2 s).2.q=t.q:=congrArg Mc.q f
 have d:a.1=1∨a.1=2∨a.1=4∨en=Za:=by
  unfold qe at e;simp only at e;rw[zE (show(oO c s).q<0 by show s.q<0;omega)]at e;split at e
  .injection e with e;subst e;exact .inl rfl
  .split at e
   .injection e with e;subst e;exact .inr (.inr (.inl rfl))
   .split at e
    .injection e with e;subst e;exact .inr (.inl rfl)
    .split at e
     .rename_i u;exact .inr (.inr (.inr u))
     .cases e
 have b:a.1=1∨a.1=2∨a.1=4->t.q=s.q:=λk=>by
  unfold JC at m;rcases k with k|k|k
  all_goals
   rw[k]at m;simp only[Int.reduceEq,if_false,if_true]at m;split at m
   .injection m with m;subst m;rfl
   .cases m
 rcases d with k|k|k|k
 .have:=b (.inl k);omega
 .have:=b (.inr (.inl k));omega
 .have:=b (.inr (.inr k));omega
 .exact k
theorem Sq (s:Dy)(g:Int)(en b:Bool):lx g en b c.fixed c.tp c.sl c.ns c.mode c.R c.Q c.len c.words s.L s.p s.q s.c0 s.c1 s.c2 s.c3 s.z c.X c.T c.l c.k c.P c.tk s.lv s.pk c.words s.W=O (match Yw s with|some a=>(a.1,Za)|none=>(0,Zb)):=by
 unfold lx;refine db (XP s g en b) ?_;rw[show gc g en b c.fixed c.tp c.sl c.ns c.mode c.R c.Q c.len c.words s.L s.p s.q s.c0 s.c1 s.c2 s.c3 s.z c.X c.T c.l c.k c.P c.tk s.lv s.pk c.words s.W=O s.L from rfl];unfold Yw;by_cases c1:s.q<0
 .by_cases c2:s.p<s.L
  .simp only[zG,zB c1,zC,zB c2,zE c1,zE c2]
  .simp only[zG,zB c1,zC,zA c2,zE c1,zF c2,zD]
 .by_cases c2:0<s.q
  .simp only[zG,zA c1,zC,zB c2,zF c1,zE c2,zD]
  .simp only[zG,zA c1,zC,zA c2,zF c1,zF c2,zD]
omit h in
theorem aM1 (e:Yw s=O a):a.2=0:=by
 unfold Yw at e;split at e
 .split at e<;>(injection e with e;subst e;rfl)
 .split at e
  .injection e with e;subst e;rfl
  .cases e
omit h in
theorem aD1 (b:c.mode=3)(en:Bool)(s:Dy):tA c en s=Yw s:=by unfold tA;rw[zE b]
theorem aW8 (b:c.mode=3)(t:i<=1000000)(w:cz c i s)(e:tA c en s=O a)(m:vU c a s):
  gG c.mode en Zb c.fixed c.tp c.sl c.ns c.mode c.R c.Q c.len c.words s.L s.p s.q s.c0 s.c1 s.c2 s.c3 s.z c.X c.T c.l c.k c.P c.tk s.lv s.pk c.words s.W=O (a.1,Za,0,c.fixed,c.tp,c.sl,c.ns,c.mode,c.R,c.Q,c.len,c.words,(rK c a s).L,(rK c a s).p,(rK c a s).q,(rK c a s).c0,(rK c a s).c1,(rK c a s).c2,(rK c a s).c3,(rK c a s).z,(rK c a s).lv,(rK c a s).pk,c.words,(rK c a s).W):=by
 have d:=w;unfold cz at d;rw[zE b]at d;rw[aD1 b]at e;have g:=aM1 e;unfold vU at m;rw[zE b,g]at m;have r:rK c a s=(ET c a.1 0 s).2:=by unfold rK;rw[zE b,g]
 unfold gG;rw[zD];refine db (Sq h s c.mode en Zb) ?_;rw[e];show cond (!Za) _ _=_;rw[aB,zD];refine db (do1 h b d.inv d.cnt (by omega)) ?_;show cond (Zc ((ET c a.1 0 s).1≠0)) _ _=_;rw[m,r];rfl
theorem aW6 (b:c.mode=3)(w:cz c i s)(e:tA c en s=Y):
  gG c.mode en Zb c.fixed c.tp c.sl c.ns c.mode c.R c.Q c.len c.words s.L s.p s.q s.c0 s.c1 s.c2 s.c3 s.z c.X c.T c.l c.k c.P c.tk s.lv s.pk c.words s.W=O (0,Zb,0,c.fixed,c.tp,c.sl,c.ns,c.mode,c.R,c.Q,c.len,c.words,s.L,s.p,s.q,s.c0,s.c1,s.c2,s.c3,s.z,s.lv,s.pk,c.words,s.W):=by
 have d:=w;unfold cz at d;rw[zE b]at d;rw[aD1 b]at e;unfold gG;rw[zD];refine db (Sq h s c.mode en Zb) ?_;rw[e];rfl
theorem aW3 (b:c.mode=3)(w:cz c i s):
  kP c.mode en Zb c.fixed c.tp c.sl c.ns c.mode c.R c.Q c.len c.words s.L s.p s.q s.c0 s.c1 s.c2 s.c3 s.z c.X c.T c.l c.k c.P c.tk s.lv s.pk c.words s.W=O (tA c en s).isNone:=by
 have d:=w;unfold cz at d;rw[zE b]at d;rw[aD1 b];unfold kP;rw[zD];refine db (Sq h s c.mode en Zb) ?_;cases Yw s<;>rfl
theorem aX2 (b:c.mode=3)(w:cz c i s):
  iC c.mode en Zb c.fixed c.tp c.sl c.ns c.mode c.R c.Q c.len c.words s.L s.p s.q s.c0 s.c1 s.c2 s.c3 s.z c.X c.T c.l c.k c.P c.tk s.lv s.pk c.words s.W=O ((tA c en s).isNone&&(Zc (c.mode=2)&& !en)):=by
 unfold iC;refine db (aW3 h b w) ?_;cases(tA c en s).isNone<;>cases Zc (c.mode=2)<;>cases en<;>rfl
omit h in
theorem aD2 (b:c.mode=1)(en:Bool)(s:Dy):tA c en s=A5 (oO c s):=by unfold tA;rw[Zh,Zh]
theorem aW9 (t:c.mode=1)(u:1<=c.ns)(r:i<=1000000)(w:cz c i s)(e:tA c en s=O a)(m:vU c a s):
  fX c.mode en Zb c.fixed c.tp c.sl c.ns c.mode c.R c.Q c.len c.words s.L s.p s.q s.c0 s.c1 s.c2 s.c3 s.z c.X c.T c.l c.k c.P c.tk (c.off 8:Int) c.ns (c.X.length:Int) s.lv s.pk c.words s.W=O (a.1,a.2,Za,0,c.fixed,c.tp,c.sl,c.ns,c.mode,c.R,c.Q,c.len,c.words,(rK c a s).L,(rK c a s).p,(rK c a s).q,(rK c a s).c0,(rK c a s).c1,(rK c a s).c2,(rK c a s).c3,(rK c a s).z,(rK c a s).lv,(rK c a s).pk,c.words,(rK c a s).W):=by
 have b:=w;unfold cz at b;rw[Zh]at b;rw[aD2 t]at e;unfold vU at m;rw[Zh]at m;obtain⟨x,m⟩:=m;have g:=(JT h (by omega) b.inv m).1;have d:rK c a s=(CC c a.1 a.2 s).2:=by unfold rK;rw[Zh]
 unfold fX;rw[zD];refine db (S4 h (by omega) u b.inv c.mode en Zb) ?_;rw[e];show cond (!Za) _ _=_;rw[aB,zD];refine db (do2 h (by omega) b.inv b.cnt (by omega)) ?_;show cond (Zc ((CC c a.1 a.2 s).1≠0)) _ _=_;rw[g,d];rfl
theorem aW7 (d:c.mode=1)(g:1<=c.ns)(w:cz c i s)(e:tA c en s=Y):
  fX c.mode en Zb c.fixed c.tp c.sl c.ns c.mode c.R c.Q c.len c.words s.L s.p s.q s.c0 s.c1 s.c2 s.c3 s.z c.X c.T c.l c.k c.P c.tk (c.off 8:Int) c.ns (c.X.length:Int) s.lv s.pk c.words s.W=O (0,0,Zb,0,c.fixed,c.tp,c.sl,c.ns,c.mode,c.R,c.Q,c.len,c.words,s.L,s.p,s.q,s.c0,s.c1,s.c2,s.c3,s.z,s.lv,s.pk,c.words,s.W):=by
 have b:=w;unfold cz at b;rw[Zh]at b;rw[aD2 d]at e;unfold fX;rw[zD];refine db (S4 h (by omega) g b.inv c.mode en Zb) ?_;rw[e];rfl
theorem aW4 (d:c.mode=1)(e:1<=c.ns)(w:cz c i s):
  jj c.mode en Zb c.fixed c.tp c.sl c.ns c.mode c.R c.Q c.len c.words s.L s.p s.q s.c0 s.c1 s.c2 s.c3 s.z c.X c.T c.l c.k c.P c.tk (c.off 8:Int) c.ns (c.X.length:Int) s.lv s.pk c.words s.W=O (tA c en s).isNone:=by
 have b:=w;unfold cz at b;rw[Zh]at b;rw[aD2 d];unfold jj;rw[zD];refine db (S4 h (by omega) e b.inv c.mode en Zb) ?_;cases A5 (oO c s)<;>rfl
theorem aX3 (b:c.mode=1)(d:1<=c.ns)(w:cz c i s):
  gH c.mode en Zb c.fixed c.tp c.sl c.ns c.mode c.R c.Q c.len c.words s.L s.p s.q s.c0 s.c1 s.c2 s.c3 s.z c.X c.T c.l c.k c.P c.tk (c.off 8:Int) c.ns (c.X.length:Int) s.lv s.pk c.words s.W=O ((tA c en s).isNone&&(Zc (c.mode=2)&& !en)):=by
 unfold gH;refine db (aW4 h b d w) ?_;cases(tA c en s).isNone<;>cases Zc (c.mode=2)<;>cases en<;>rfl
omit h in
theorem aD3 (b:c.mode=2)(en:Bool)(s:Dy):tA c en s=qe en (oO c s):=by unfold tA;rw[Zh,zE b]
theorem aX0 (t:c.mode=2)(u:1<=c.ns)(r:i<=1000000)(w:cz c i s)(e:tA c en s=O a)(m:vU c a s):
  fY c.mode en Zb c.fixed c.tp c.sl c.ns c.mode c.R c.Q c.len c.words s.L s.p s.q s.c0 s.c1 s.c2 s.c3 s.z c.X c.T c.l c.k c.P c.tk (c.off 8:Int) c.ns (c.X.length:Int) s.lv s.pk c.words s.W=O (a.1,a.2,Za,0,c.fixed,c.tp,c.sl,c.ns,c.mode,c.R,c.Q,c.len,c.words,(rK c a s).L,(rK c a s).p,(rK c a s).q,(rK c a s).c0,(rK c a s).c1,(rK c a s).c2,(rK c a s).c3,(rK c a s).z,(rK c a s).lv,(rK c a s).pk,c.words,(rK c a s).W):=by
 have b:=w;unfold cz at b;rw[Zh]at b;rw[aD3 t]at e;unfold vU at m;rw[Zh]at m;obtain⟨x,m⟩:=m;have g:=(JT h (by omega) b.inv m).1;have d:rK c a s=(CC c a.1 a.2 s).2:=by unfold rK;rw[Zh]
 unfold fY;rw[zD];refine db (YH h (by omega) u b.inv c.mode en Zb) ?_;rw[e];show cond (!Za) _ _=_;rw[aB,zD];refine db (do2 h (by omega) b.inv b.cnt (by omega)) ?_;show cond (Zc ((CC c a.1 a.2 s).1≠0)) _ _=_;rw[g,d];rfl
theorem aF2 (d:c.mode=2)(g:1<=c.ns)(w:cz c i s)(e:tA c en s=Y):
  fY c.mode en Zb c.fixed c.tp c.sl c.ns c.mode c.R c.Q c.len c.words s.L s.p s.q s.c0 s.c1 s.c2 s.c3 s.z c.X c.T c.l c.k c.P c.tk (c.off 8:Int) c.ns (c.X.length:Int) s.lv s.pk c.words s.W=O (0,0,Zb,0,c.fixed,c.tp,c.sl,c.ns,c.mode,c.R,c.Q,c.len,c.words,s.L,s.p,s.q,s.c0,s.c1,s.c2,s.c3,s.z,s.lv,s.pk,c.words,s.W):=by
 have b:=w;unfold cz at b;rw[Zh]at b;rw[aD3 d]at e;unfold fY;rw[zD];refine db (YH h (by omega) g b.inv c.mode en Zb) ?_;rw[e];rfl
theorem aW5 (d:c.mode=2)(e:1<=c.ns)(w:cz c i s):
  jk c.mode en Zb c.fixed c.tp c.sl c.ns c.mode c.R c.Q c.len c.words s.L s.p s.q s.c0 s.c1 s.c2 s.c3 s.z c.X c.T c.l c.k c.P c.tk (c.off 8:Int) c.ns (c.X.length:Int) s.lv s.pk c.words s.W=O (tA c en s).isNone:=by
 have b:=w;unfold cz at b;rw[Zh]at b;rw[aD3 d];unfold jk;rw[zD];refine db (YH h (by omega) e b.inv c.mode en Zb) ?_;cases qe en (oO c s)<;>rfl
theorem ac0 (b:c.mode=2)(d:1<=c.ns)(w:cz c i s):
  gI c.mode en Zb c.fixed c.tp c.sl c.ns c.mode c.R c.Q c.len c.words s.L s.p s.q s.c0 s.c1 s.c2 s.c3 s.z c.X c.T c.l c.k c.P c.tk (c.off 8:Int) c.ns (c.X.length:Int) s.lv s.pk c.words s.W=O ((tA c en s).isNone&&(Zc (c.mode=2)&& !en)):=by
 unfold gI;refine db (aW5 h b d w) ?_;cases(tA c en s).isNone<;>cases Zc (c.mode=2)<;>cases en<;>rfl
theorem fdm (g:c.mode=2)(m:1<=c.ns)(w:cz c i s)(e:tA c Zb s=Y)(t:s.q= -1)(r:s.L<65535):
  fU Za c.mode Zb Zb c.fixed c.tp c.sl c.ns c.mode c.R c.Q c.len c.words s.L s.p s.q s.c0 s.c1 s.c2 s.c3 s.z c.X c.T c.l c.k c.P c.tk (c.off 8:Int) c.ns (c.X.length:Int) s.lv s.pk c.words s.W=O (0,c.mode,Zb,Zb,c.fixed,c.tp,c.sl,c.ns,c.mode,c.R,c.Q,c.len,c.words,(Fh s).L,(Fh s).p,(Fh s).q,(Fh s).c0,(Fh s).c1,(Fh s).c2,(Fh s).c3,(Fh s).z):=by
 have d:=w;unfold cz at d;rw[Zh]at d
 have b:wJ c s=(0,Fh s):=by
  unfold wJ;rw[Zh,Zh,Zh];rfl
 unfold fU;rw[zD];refine db (ac0 h g m w) ?_;rw[e,zB g];show cond (!Za) _ _=_;rw[aB,zD,zD];refine db (aL8 d.inv.L) ?_;rw[b];rfl
theorem fds (b:c.mode=2)(d:1<=c.ns)(w:cz c i s)(e:tA c Zb s=Y):
  fU Zb c.mode Zb Zb c.fixed c.tp c.sl c.ns c.mode c.R c.Q c.len c.words s.L s.p s.q s.c0 s.c1 s.c2 s.c3 s.z c.X c.T c.l c.k c.P c.tk (c.off 8:Int) c.ns (c.X.length:Int) s.lv s.pk c.words s.W=O (0,c.mode,Za,Zb,c.fixed,c.tp,c.sl,c.ns,c.mode,c.R,c.Q,c.len,c.words,s.L,s.p,s.q,s.c0,s.c1,s.c2,s.c3,s.z):=by
 unfold fU;rw[zD];refine db (ac0 h b d w) ?_;rw[e,zB b];rfl
end
end
end Go.V
