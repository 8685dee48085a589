/- A part of the proofs of this claim: what functions of the program answer on an abstract machine, and plain laws. No condition. -/
import Derived.Test.YtgigjokffalgkaaGreatL3
import Derived.Test.YtgigjokffalgkaaGreatD2
import Derived.Test.YtgigjokffalgkaaGreatA6
set_option linter.unusedVariables false
set_option linter.unusedSimpArgs false
set_option linter.unusedSectionVars false
namespace Go.V
open Go.Ab
open Option renaming some->C,none->O
open Bool renaming true->Za,false->Zb
open Decidable renaming decide->Zc
section
set_option maxRecDepth 100000
section
variable {c:Cx} {r:RS}
theorem dj0 (s:Dy):qh c.fixed c.tp c.sl c.ns c.mode c.R c.Q c.len c.words s.L s.p s.q s.c0 s.c1 s.c2 s.c3 s.z c.X c.T c.l c.k c.P c.tk s.lv s.pk c.words s.W=C (s.p,s.q):=rfl
theorem bx6 {s:Dy}(H:RelD c s r)(hL:0<=s.L/\s.L<=65535):pL c.mode c.X c.T c.R c.l c.Q c.k c.len c.words c.R c.l c.Q c.k (c.X.length:Int) c.T c.fixed c.tp c.sl c.ns r.L r.p r.q r.st r.sl r.sx r.kp r.ax r.th r.ls r.n0 r.n1 r.n2 r.n3 r.pk=C (bt7 c {r with L:=(mg c s).2.L} (mg c s).1):=by
 have eL:=H.L;have eq':=H.q;have e0:({r with L:=s.L}:RS)=r:=by rw[<-eL]
 unfold pL mg;by_cases h1:c.mode≠2
 .rw[zB h1,zC,zE h1];simp only;rw[e0];rfl
 rw[zA h1,zD,zF h1];by_cases h2:0<=s.q
 .rw[zB (show 0<=r.q by omega),zC,zE h2];simp only;rw[e0];rfl
 rw[zA (show¬0<=r.q by omega),zD,zF h2];by_cases h3:s.L=65535
 .rw[zB (show r.L=65535 by omega),zC,zE h3];simp only;rw[e0];rfl
 rw[zA (show¬r.L=65535 by omega),zD,zF h3,eL,bq (by omega)];rfl
theorem RelD.more {s:Dy}(H:RelD c s r):RelD c (mg c s).2 {r with L:=(mg c s).2.L}:=by
 rw[aM2];exact⟨rfl,H.p,H.q,H.n0,H.n1,H.n2,H.n3,H.ls,H.pk,H.has⟩
end
end
section
open Int renaming toNat_natCast -> bB, reduceEq -> bD
open List renaming length_append -> aB, length_singleton -> aD, getD_eq_getElem?_getD -> cB, length_take -> cD, take_of_length_le -> dB, getElem?_eq_getElem -> eD
open Nat renaming le_of_eq -> dD, le_refl -> eB
theorem cM7 {l:Zd}{j i:Nat}{v:Int}(h:j≠i):rg (l.set j v) (i:Int)=rg l (i:Int):=by
 unfold rg;rw[bB,cB,cB,List.getElem?_set_ne h]
theorem cp6 {l:Zd}{j:Nat}{v:Int}(h:j<l.length):rg (l.set j v) (j:Int)=v:=by
 unfold rg;rw[bB,cB,List.getElem?_set_self h];rfl
theorem bJ3 (t:Zd): ∀(l:List cq) (r a a':Zd) (n:Nat),(zc (oO t) l (r,a,n)).1=(zc (oO t) l (r,a',n)).1/\(zc (oO t) l (r,a,n)).2.2=(zc (oO t) l (r,a',n)).2.2
 |[],_,_,_,_=>⟨rfl,rfl⟩
 |o::l,r,a,a',n=>by
  obtain⟨h1,h2⟩:=bJ3 t l r a a' n;refine⟨?_, ?_⟩
  .show(zc (oO t) l (r,a,n)).1.set o.2.1.toNat (rg t (((zc (oO t) l (r,a,n)).2.2-1:Nat):Int))=_;rw[h1,h2];rfl
  .show(zc (oO t) l (r,a,n)).2.2-1=_;rw[h2];rfl
theorem cR3 (t:Zd)(l:List cq)(r a a':Zd)(n:Nat):(zc (oO t) l (r,a,n)).1=(zc (oO t) l (r,a',n)).1:=(bJ3 t l r a a' n).1
theorem dC6 {a:Zd}: ∀(n:Nat) (l:List cq),l.length=n->∀(r t0 t:Zd),(∀o∈l,inR r.length o)->l.length<=t0.length->(∀i,i<l.length->rg t (i:Int)=rg (vC mm l (r,t0,0)).2.1 (i:Int))->(zc (oO t) l ((vC mm l (r,t0,0)).1,a,l.length)).1=r
 |0,l,hl,r,t0,t,_,_,_=>by
  have:=List.length_eq_zero_iff.1 hl;subst this;rfl
 |n+1,l,hl,r,t0,t,hg,h0,ht=>by
  obtain⟨l0,o,rfl⟩: ∃l0 o,l=l0++[o]:=⟨l.take n,l[n]'(by omega),by
   rw[<-List.take_succ_eq_append_getElem (by omega),dB (by omega)]⟩
  rw[aB,aD]at hl h0;have hln:l0.length=n:=by omega
  obtain⟨e1,e2,e3⟩:=aS9 l0 (r,t0,0);rw[bZ1];have hf:vC mm (l0++[o]) (r,t0,0)=mm o (vC mm l0 (r,t0,0)):=by rw[bl4];rfl
  rw[hf]at ht⊢;have ih:=dC6 (a:=a) n l0 hln r t0 t (λx hx=>hg x (by simp[hx])) (by omega);have ha': ∀a',(zc (oO t) l0 ((vC mm l0 (r,t0,0)).1,a',l0.length)).1=(zc (oO t) l0 ((vC mm l0 (r,t0,0)).1,a,l0.length)).1:=λa'=>cR3 t l0 _ _ _ _
  have hgo:=hg o (by simp);generalize vC mm l0 (r,t0,0)=s at*;have e1:s.1.length=r.length:=e1;have e2:s.2.1.length=t0.length:=e2;have e3:s.2.2=l0.length:=by rw[e3];simp
  obtain⟨kd,ka,kb,q1,q2,q3,g1,g2,g3⟩:=zO hgo;have hv:=ht l0.length (by rw[aB,aD];omega)
  have ht': ∀i,i<l0.length->rg t (i:Int)=rg s.2.1 (i:Int):=λi hi=>by
   rw[ht i (by rw[aB,aD];omega)];show rg (s.2.1.set s.2.2 (rg s.1 o.2.1)) (i:Int)=_;exact cM7 (by omega)
  have hv':rg t ((l0.length:Nat):Int)=rg s.1 (kd:Int):=by
   rw[hv];show rg (s.2.1.set s.2.2 (rg s.1 o.2.1)) ((l0.length:Nat):Int)=_;rw[e3,q1];exact cp6 (by omega)
  have hone:(zc (oO t) [o] ((mm o s).1,a,(l0++[o]).length)).1=s.1/\(zc (oO t) [o] ((mm o s).1,a,(l0++[o]).length)).2.2=l0.length:=by
   rw[aB,aD];refine⟨?_,by show l0.length+1-1=_;omega⟩;show((s.1.set o.2.1.toNat _).set o.2.1.toNat (rg t ((l0.length+1-1:Nat):Int)))=s.1;rw[q1,bB,List.set_set,Nat.add_sub_cancel,hv',cA0 (by omega)]
  generalize hb:zc (oO t) [o] ((mm o s).1,a,(l0++[o]).length)=b at*;obtain⟨b1,b2,b3⟩:=b;obtain⟨h1,h2⟩:=hone;simp only at h1 h2;subst h1 h2;rw[ha' b2];exact ih ht'
section
variable {c:Cx} {r:RS}
theorem di6 (W:Zd)(o n m:Nat):seg W o (n+m)=seg W o n++seg W (o+n) m:=by
 unfold seg;rw[List.take_add,List.drop_drop]
theorem cK1 (h:c.Ok)(wT:cg c.T)(hm:c.mode=3){s:Dy}(hi:InvB c s)(S:Bas c s r){i:Nat}(hik:i<r.kp.length)(hin:i<c.ns.toNat):bz4 c s.W i=(mH c (i:Int) r.kp[i]).2.1/\bM5 c s.W i=(mH c (i:Int) r.kp[i]).1:=by
 obtain⟨k1,k2,k3⟩:=S.kept i hik;obtain⟨f1,f2,f3,f4,f5⟩:=rE h wT (t:=(i:Int)) k1 k2;obtain⟨s1,s2,s3,s4⟩:=aA6 h hm hin;have htk:=hi.w.tk h;rw[s1,di6]at k3;have hl:(seg s.W (po c i) c.fl.n).length=c.fl.n:=jK (by omega);exact List.append_inj k3 (hl.trans f4.symm)
theorem cQ7 (h:c.Ok)(wT:cg c.T)(hm:c.mode=3){s:Dy}(hi:InvB c s)(H:Has c s.W r.st r.ax r.th)(S:Bas c s r){i:Nat}(hik:i<r.kp.length)(hin:i<c.ns.toNat):
  (be1 c s.W i).2.1=wA c (i:Int) r.kp[i] r.ax/\(be1 c s.W i).1.take c.X.length=r.kp[i]:=by
 obtain⟨⟨l1,l2⟩,hR,hQ,x1,x2,t2⟩:=h.lens;obtain⟨k1,k2,k3⟩:=S.kept i hik;obtain⟨e1,e2⟩:=cK1 h wT hm hi S hik hin;have hb:=vl (c:=c) (i:Int) k1;have hu:=h.pl.ulen;have hg:=h.pl.goodU;unfold be1;rw[e1,e2,H.x];refine⟨rfl, ?_⟩;have hfl:(fill c.R (xm c (i:Int) r.kp[i])).length=c.R.toNat:=ip (by omega);have:=dC6 (a:=fill c.R r.ax) c.fl.n c.fl.unroll hu.1 (fill c.R (xm c (i:Int) r.kp[i])) (dg c.fl.n) (mH c (i:Int) r.kp[i]).2.1 (λo ho=>by rw[hfl];exact(hg o ho).1) (by rw[gl];omega) (λj hj=>rfl);rw[hu.1]at this;show((zc (oO (mH c (i:Int) r.kp[i]).2.1) c.fl.unroll ((mH c (i:Int) r.kp[i]).1,fill c.R r.ax,c.fl.n)).1).take c.X.length=_;have e3:(mH c (i:Int) r.kp[i]).1=(vC mm c.fl.unroll (fill c.R (xm c (i:Int) r.kp[i]),dg c.fl.n,0)).1:=rfl;rw[e3,this];unfold fill xm;rw[List.append_assoc,List.take_left' k1]
theorem Bas.kept8 {s s':Dy}{r r':RS}(S:Bas c s r)(hm:c.mode=3)(hK:fe c s.W s'.W)(e1:r'.sl=r.sl)(hl:r'.kp.length<=r.kp.length)(e2:r'.kp=r.kp.take r'.kp.length)(hh:(r'.kp.length:Int)=lu s'):Bas c s' r':=by
 refine⟨e1.trans S.sl,hh,λi hi=> ?_⟩;have hi':i<r.kp.length:=by omega
 have e3:r'.kp[i]=r.kp[i]:=by
  have:r'.kp[i]?=r.kp[i]?:=by rw[e2,List.getElem?_take,zE hi]
  rw[eD hi,eD hi']at this;injection this
 rw[e3];obtain⟨k1,k2,k3⟩:=S.kept i hi';refine⟨k1,k2, ?_⟩;rw[hK.seg (by unfold po;omega)];exact k3
theorem cp2 (h:c.Ok)(wT:cg c.T)(hm:c.mode=3){s:Dy}(hi:InvB c s)(H:RelD c s r)(S:Bas c s r)(hsx:r.sx=0){B:Int}(hc:Cnt B s)(hB:B<=2305843009213693952)(a n:Int):
  ∃r',uz c.mode c.X c.T c.R c.l c.Q c.k c.len c.words c.R c.l c.Q c.k (c.X.length:Int) c.T c.fixed c.tp c.sl c.ns r.L r.p r.q r.st r.sl r.sx r.kp r.ax r.th r.ls r.n0 r.n1 r.n2 r.n3 r.pk a n=C (bt7 c r' (plF c a n s).1)/\RelD c (plF c a n s).2 r'/\Bas c (plF c a n s).2 r'/\r'.sx=0:=by
 have nm:=h.num;have hW:=hi.w;have hL:=hi.L;have hp:=hi.p;have hq:=hi.q;have hqp:=hi.qp;have hpk:=hi.pk;have hns:=h.ns;have hcr:=H.cnt hc;have hcr':aO2 4611686018427387904 r:=by unfold aO2 at*;omega
 obtain⟨g1,g2,g3,g4,g5,g6,g7⟩:=cb3 h hm hi;obtain⟨k1,k2,k3,k4,k5,k6⟩:=H.has.lens h wT;have hinv:=cF0 h hm hi a n;have Hs:=H.has;obtain⟨⟨z1,z2⟩,hR,hQ,z3,z4,z5⟩:=h.lens;have eL:=H.L;have ep:=H.p;have eq':=H.q;have epk:=H.pk;have hlen:=nm.len;have hkl:=S.len;have htp:=nm.tp;rw[zE hm]at htp;have hlive:=aZ5 h hm hi S;have same: ∃r',C (c.mode,c.X,c.T,c.R,c.l,c.Q,c.k,c.len,c.words,c.R,c.l,c.Q,c.k,(c.X.length:Int),c.T,c.fixed,c.tp,c.sl,c.ns,r.L,r.p,r.q,r.st,r.sl,r.sx,r.kp,r.ax,r.th,r.ls,r.n0,r.n1,r.n2,r.n3,r.pk,(plF c a n s).1)=C (bt7 c r' (plF c a n s).1)/\RelD c s r'/\Bas c s r'/\r'.sx=0:=⟨r,rfl,H,S,hsx⟩
 unfold uz;rw[bf7];simp only[zG];rw[eL,ep,eq']at same hlive⊢;generalize hdo:plF c a n s=d at hinv same⊢;unfold plF at hdo;by_cases hk: ¬(a=8∨a=5∨a=9)
 .rw[zF (by omega),zF (by omega),zF (by omega)]at hdo;subst hdo;cases hr:lL a n with
  |false=>
   simp only[Bool.not_false,zC,zG,de];exact same
  |true=>
   simp only[Bool.not_true,zD];rw[zB (show a≠5 by omega),zC,zB (show a≠8 by omega),zC,zB (show a≠9 by omega),zC];simp only[zG,de];exact same
 have hk:a=8∨a=5∨a=9:=by omega
 have hr:lL a n=Zc (n=0):=by
  unfold lL;rw[zF (by omega),zF (by omega),zF (by omega),zF (by omega)]
 by_cases hn:n≠0
 .have hdo:(2,s)=d:=by
   rw[<-hdo];rcases hk with rfl|rfl|rfl
   .rw[zE rfl,zE hn]
   .rw[zF (by omega),zE rfl,zE hn]
   .rw[zF (by omega),zF (by omega),zE rfl,zE hn]
  subst hdo;rw[hr,zA hn];simp only[Bool.not_false,zC,zG,de];exact same
 have hn0:n=0:=by omega
 rw[hr,zB hn0];simp only[Bool.not_true,zD];rcases hk with rfl|rfl|rfl
 .
  rw[zE rfl,zF hn]at hdo;simp only[ne_eq,bD,not_false_eq_true,decide_true,zC,not_true_eq_false,decide_false,zD,zG,cn];by_cases h1:0<=s.q
  .rw[zE h1]at hdo;subst hdo;rw[zB h1,zC];exact same
  rw[zF h1]at hdo;rw[zA h1,zD];by_cases h2:s.p=s.L
  .rw[zE h2]at hdo;subst hdo;rw[zB h2,zC];exact same
  rw[zF h2]at hdo;subst hdo;have hheld:lu s=s.p:=by unfold lu;rw[zE (by omega)]
  have hkp:(r.kp.length:Int)=s.p:=by rw[hkl,hheld]
  have htake:r.kp.take s.p.toNat=r.kp:=dB (by omega);rw[zA h2,zD];simp only[decide_true];rw[fq,lF (by omega),fq,htake,dh (by omega) (by omega),aN0 h wT (by omega) k1 k4];simp only[zG];rw[bq (n:=s.p+1) (by omega),bq (n:=r.n1+1) (by unfold aO2 at hcr';omega)];obtain⟨v1,v2⟩:=vA h wT (t:=s.p) k1 k4;obtain⟨f1,f2,f3,f4,f5⟩:=rE h wT (t:=s.p) k1 k4;obtain⟨s1,s2,s3,s4⟩:=aA6 h hm (i:=s.p.toNat) (by omega);have htk:=hW.tk h;have hT:=Hs.taped h wT s.p;rw[Hs.stepR h]at hT;have hlen2:((mH c s.p r.st).2.1++(mH c s.p r.st).1).length=c.sl.toNat:=by rw[aB,f3,f4,s1]
  have hT2:=hT.put8 h (o:=po c s.p.toNat) (w:=(mH c s.p r.st).2.1++(mH c s.p r.st).1) s4 (by rw[hlen2];exact s3) (f2.app f1);have hT3:=hT2.put1 h v1 v2
  have hWe:(put (put (put s.W (c.off 2) (stepR c s.W s.p).1) (po c s.p.toNat) ((stepR c s.W s.p).2.1++(stepR c s.W s.p).1)) (c.off 1) ((stepR c s.W s.p).1.take c.X.length))=put (put (put s.W (c.off 2) (mH c s.p r.st).1) (po c s.p.toNat) ((mH c s.p r.st).2.1++(mH c s.p r.st).1)) (c.off 1) (vz c s.p r.st):=by
   rw[Hs.stepR h,f5]
  rw[hWe]at hinv⊢;have hK2:fe c s.W (put s.W (c.off 2) (mH c s.p r.st).1):=fe.put h (fe.refl s.W) hW (i:=2) (by omega) (dD f3)
  have hlW:po c s.p.toNat+((mH c s.p r.st).2.1++(mH c s.p r.st).1).length<=(put s.W (c.off 2) (mH c s.p r.st).1).length:=by
   have:=hT.wd.tk h;rw[hlen2];omega
  have S': ∀r':RS,r'.sl=r.sl->r'.kp=r.kp++[r.st]->∀s':Dy,s'.q=s.q->s'.p=s.p+1->s'.W=put (put (put s.W (c.off 2) (mH c s.p r.st).1) (po c s.p.toNat) ((mH c s.p r.st).2.1++(mH c s.p r.st).1)) (c.off 1) (vz c s.p r.st)->Bas c s' r':=λr' e1 e2 s' e3 e4 e5=>by
   have hK3:fe c (put (put s.W (c.off 2) (mH c s.p r.st).1) (po c s.p.toNat) ((mH c s.p r.st).2.1++(mH c s.p r.st).1)) s'.W:=by
    rw[e5];exact fe.put h (fe.refl _) hT2.wd (i:=1) (by omega) (dD v1)
   refine⟨e1.trans S.sl,by rw[e2,aB,aD];unfold lu;rw[e3,e4,zE (by omega)];omega,λi hi=> ?_⟩;rw[e2,aB,aD]at hi;have e6:r'.kp[i]'(by rw[e2,aB,aD];exact hi)=(r.kp++[r.st])[i]'(by rw[aB,aD];exact hi):=by simp only[e2]
   rw[e6,hK3.seg (by unfold po;omega)];by_cases hlt:i<r.kp.length
   .rw[List.getElem_append_left hlt];obtain⟨k1',k2',k3'⟩:=S.kept i hlt;refine⟨k1',k2', ?_⟩
    have hd:po c i+c.sl.toNat<=po c s.p.toNat:=by
     unfold po;have:=Nat.mul_le_mul_right c.sl.toNat (show i+1<=s.p.toNat by omega);rw[Nat.succ_mul]at this;omega
    rw[yE hlW (.inl hd),hK2.seg (by unfold po;omega)];exact k3'
   .have hie:i=r.kp.length:=by omega
    subst hie;rw[List.getElem_append_right (eB _)];simp only[Nat.sub_self,List.getElem_singleton];refine⟨k1,k4, ?_⟩;have ek:r.kp.length=s.p.toNat:=by omega
    rw[hkp,ek,<-hlen2];exact tF hlW
  have hl2:=aZ5 (r:={r with L:=s.L,p:=s.p+1,q:=s.q,st:=vz c s.p r.st,kp:=r.kp++[r.st],n1:=r.n1+1}) h hm hinv (by refine S' _ ?_ ?_ _ ?_ ?_ ?_<;>rfl);rw[show il c.mode c.X c.T c.R c.l c.Q c.k c.len c.words c.R c.l c.Q c.k (c.X.length:Int) c.T c.fixed c.tp c.sl c.ns s.L (s.p+1) s.q (vz c s.p r.st) r.sl r.sx (r.kp++[r.st]) r.ax r.th r.ls r.n0 (r.n1+1) r.n2 r.n3 r.pk=_ from hl2];simp only[zG];exact⟨{r with L:=s.L,p:=s.p+1,q:=s.q,st:=vz c s.p r.st,kp:=r.kp++[r.st],n1:=r.n1+1,pk:=max r.pk (s.lv+c.sl)},rfl,⟨rfl,rfl,rfl,H.n0,by show r.n1+1=s.c1+1;rw[H.n1],H.n2,H.n3,H.ls,by show max r.pk _=max s.pk _;rw[epk],hT3⟩,(by refine S' _ ?_ ?_ _ ?_ ?_ ?_<;>rfl),hsx⟩
 .
  rw[zF (by omega),zE rfl,zF hn]at hdo;simp only[ne_eq,bD,not_false_eq_true,decide_true,zC,not_true_eq_false,decide_false,zD,zG,cn];by_cases h1:0<=s.q
  .rw[zE h1]at hdo;subst hdo;rw[zB h1,zC];exact same
  rw[zF h1]at hdo;rw[zA h1,zD];by_cases h2:s.p≠s.L
  .rw[zE h2]at hdo;subst hdo;have h2': ¬s.p=s.L:=h2;simp only[h2',not_false_eq_true,decide_true,zC];exact same
  rw[zF h2]at hdo;subst hdo;have h2':s.p=s.L:=by omega
  have hheld:lu s=s.p:=by unfold lu;rw[zE (by omega)]
  simp only[h2',not_true_eq_false,decide_false,zD];rw[h2']at hlive;rw[h.rof];simp only[zG];rw[hlive];simp only[zG];have hfk:=h.pk.n;rw[bq (n:=s.lv+(c.fk.n:Int)) (by omega)];have hE:=Hs.endd h wT k1 k4;have eW:seg s.W (c.off 1) c.X.length=r.st:=Hs.s;rw[eW]at hinv⊢;have he:lY c.mode c.X c.T c.R c.l c.Q c.k c.len c.words c.R c.l c.Q c.k (c.X.length:Int) c.T c.fixed c.tp c.sl c.ns s.L s.L s.L r.st r.sl r.sx r.kp r.ax r.th r.ls r.n0 r.n1 r.n2 r.n3 (max r.pk (s.lv+(c.fk.n:Int))) r.st=_:=ba8 (r:={r with L:=s.L,p:=s.L,q:=s.L,pk:=max r.pk (s.lv+(c.fk.n:Int))}) h wT k1 k4 k3 k6 hcr' (by omega);rw[he];simp only[zG]
  exact⟨{vQ c r.st r with L:=s.L,p:=s.L,q:=s.L,pk:=max r.pk (s.lv+(c.fk.n:Int))},rfl,⟨rfl,by first|rfl|exact h2'.symm,rfl,H.n0,H.n1,by show r.n2+1=s.c2+1;rw[H.n2],by show r.n3+1=s.c3+1;rw[H.n3],(Hs.lossV h wT r.st).symm,by show max r.pk _=max s.pk _;rw[epk],hE⟩,S.kept8 hm (bl6 h hW k1) rfl (eB _) (dB (eB _)).symm (by
   show(r.kp.length:Int)=_;rw[hkl,hheld];unfold lu;simp only
   rw[zF (by omega),h2']),hsx⟩
 .
  rw[zF (by omega),zF (by omega),zE rfl,zF hn]at hdo;simp only[ne_eq,bD,not_false_eq_true,decide_true,zC,not_true_eq_false,decide_false,zD,zG,cn];by_cases h1:s.q<1
  .rw[zE h1]at hdo;subst hdo;rw[zB h1,zC];exact same
  rw[zF h1]at hdo;subst hdo;have hheld:lu s=s.q:=by unfold lu;rw[zF (by omega)]
  have hkp:(r.kp.length:Int)=s.q:=by rw[hkl,hheld]
  obtain⟨i,hi1⟩: ∃i:Nat,s.q-1=(i:Int):=⟨(s.q-1).toNat,by omega⟩
  have hik:i<r.kp.length:=by omega
  obtain⟨k1',k2',k3'⟩:=S.kept i hik;obtain⟨b1,b2⟩:=cQ7 h wT hm hi Hs S hik (by omega);obtain⟨p1,p2⟩:=zR h wT (t:=(i:Int)) k1' k2' k2 k5;rw[zA h1,zD,bq (n:=s.q-1) (by omega),hi1,ci hik];simp only[zG];rw[lF (by omega),fq];have hcut:ae4 r.kp 0 (i:Int)=r.kp.take i:=by unfold ae4;simp
  rw[hcut];have ht:kJ c.mode c.X c.T c.R c.l c.Q c.k c.len c.words c.R c.l c.Q c.k (c.X.length:Int) c.T c.fixed c.tp c.sl c.ns s.L (i:Int) (i:Int) r.kp[i] r.sl r.sx (r.kp.take i) r.ax r.th r.ls r.n0 r.n1 r.n2 r.n3 r.pk (i:Int) r.kp[i]=_:=aN1 (r:={r with L:=s.L,p:=(i:Int),q:=(i:Int),st:=r.kp[i],kp:=r.kp.take i}) h wT (by omega) k1' k2' k2 k5 k3 k6 hcr' (by omega);rw[ht];simp only[zG];have hb:=Hs.back h (a:=wA c (i:Int) r.kp[i] r.ax) (by omega) (by omega) p2;have hb1:=hb.put1 h k1' k2';rw[hi1,bB,b1,b2]at hinv;rw[bB,b1,b2]
  exact⟨{bN2 c (i:Int) r.kp[i] r with L:=s.L,p:=(i:Int),q:=(i:Int),st:=r.kp[i],kp:=r.kp.take i},rfl,⟨rfl,rfl,rfl,H.n0,H.n1,H.n2,by show r.n3+1=s.c3+1;rw[H.n3],H.ls,epk,hb1⟩,S.kept8 hm ((bu9 h hW (by omega) (by omega)).trans (fe.put h (fe.refl _) hb.wd (i:=1) (by omega) (dD k1'))) rfl (by rw[cD];omega) (by simp only[cD];rw[Nat.min_eq_left (by omega)]) (by
   show((r.kp.take i).length:Int)=_;rw[cD,Nat.min_eq_left (by omega)];unfold lu;simp only
   rw[zF (by omega)]),hsx⟩
end
end
section
open Int renaming toNat_natCast -> bB
open List renaming replicate -> aB, drop_replicate -> bD, length_replicate -> cB, replicate_append_replicate -> cD, take_replicate -> dB
open Nat renaming le_refl -> aD
section
variable {c:Cx}
theorem bb1 {N o n:Nat}(h:o+n<=N):seg (dg N) o n=dg n:=by
 unfold seg dg;rw[bD,dB,Nat.min_eq_left (by omega)]
theorem cM3 {N o n:Nat}(h:o+n<=N):put (dg N) o (dg n)=dg N:=by
 unfold put dg;rw[dB,bD,cB,cD,cD,Nat.min_eq_left (by omega)]
 congr 1
 omega
theorem cD2 (h:c.Ok)(wT:cg c.T)(wX:cg c.X):Has c (cb5 c (dg c.words.toNat)) c.X (dg c.X.length) (dg c.T.length):=by
 have hz:Wd c (dg c.words.toNat):=gl _;have htk:=hz.tk h;rw[gl]at htk;have o5:=jm (c:=c) (show 5<9 by omega);have o6:=jm (c:=c) (show 6<9 by omega);have o0:=jm (c:=c) (show 0<9 by omega);have s0:c.T.length<=c.sz 0:=aD _;have w0':=hz.put h (o:=c.off 0) (w:=c.T) (by have:c.sz 0=c.T.length:=rfl;omega);unfold cb5
 have H0:Has c (put (dg c.words.toNat) (c.off 0) c.T) (seg (put (dg c.words.toNat) (c.off 0) c.T) (c.off 1) c.X.length) (dg c.X.length) (dg c.T.length):=by
  refine⟨w0',(cg.rep _).put wT _, ?_,rfl, ?_, ?_⟩
  .exact tF (bM8 h hz (by omega) s0)
  .rw[yD h hz (n:=c.X.length) (i:=0) (j:=5) (by omega) (by omega) (by omega) (aD _) s0];exact bb1 (by have:c.sz 5=c.X.length:=rfl;omega)
  .rw[yD h hz (n:=c.T.length) (i:=0) (j:=6) (by omega) (by omega) (by omega) (aD _) s0];exact bb1 (by have:c.sz 6=c.T.length:=rfl;omega)
 exact H0.put1 h rfl wX
def cV3 (c:Cx):RS:=⟨c.len,0,-1,c.X,[],0,[],dg c.X.length,dg c.T.length,0,0,0,0,0,c.fixed⟩
def bv9 (c:Cx):RS:=⟨c.len,0,-1,c.X,aB c.ns.toNat (-1,[]),(c.X.length:Int),[],dg c.X.length,dg c.T.length,0,0,0,0,0,c.fixed⟩
theorem cV4 (h:c.Ok)(wT:cg c.T)(wX:cg c.X)(hm:c.mode=3):RelD c (new1 c) (cV3 c)/\Bas c (new1 c) (cV3 c):=
 ⟨⟨rfl,rfl,rfl,rfl,rfl,rfl,rfl,rfl,rfl,cD2 h wT wX⟩,⟨rfl,rfl,λi hi=>by cases hi⟩⟩
theorem cV5 (h:c.Ok)(wT:cg c.T)(wX:cg c.X)(hm:c.mode≠3):RelD c (new2 c) (bv9 c)/\Slo c (new2 c).W (bv9 c):=by
 have hz:Wd c (dg c.words.toNat):=gl _;have htk:=hz.tk h;rw[gl]at htk;have e:put (dg c.words.toNat) (c.off 8) (dg (c.sl*c.ns).toNat)=dg c.words.toNat:=cM3 (by have:=bH9 (c:=c);omega)
 have eW:(new2 c).W=cb5 c (dg c.words.toNat):=by
  show cb5 c (put (dg c.words.toNat) (c.off 8) (dg (c.sl*c.ns).toNat))=_;rw[e]
 refine⟨⟨rfl,rfl,rfl,rfl,rfl,rfl,rfl,rfl,rfl,by rw[eW];exact cD2 h wT wX⟩,⟨rfl,rfl,by simp[bv9],λk hk=> ?_⟩⟩;have hk':k<c.ns.toNat:=by simpa[bv9]using hk
 have e2:(bv9 c).sl[k]=(-1,[]):=by simp[bv9]
 rw[e2];refine⟨bv8 h hm hk', .inr ⟨rfl, ?_⟩⟩;obtain⟨s1,s2,s3⟩:=wB h hm hk';rw[eW,(bl9 h hz).2.2.seg (by unfold sp;omega)];exact bb1 (by omega)
theorem cM4 {n:Int}{x:Int}(hn:0<=n/\n<=1048576):zq n x=C (x,aB n.toNat (-1,[])):=by
 unfold zq
 have key:=ff (f:=sF n) (n:=n.toNat) (λi=>(x,aB i ((-1:Int),([]:Zd)))) (c:=(x,aB n.toNat (-1,[]))) (by omega)
  (λi hi=>by
   unfold sF;simp only;rw[zB (by omega),zC,dh (by rw[cB];omega) (by omega),bq (by omega),List.replicate_succ']
   rfl)
  (by
   unfold sF;simp only
   rw[zA (by omega),zD])
 rw[List.replicate_zero]at key;rw[key];rfl
theorem cz3 (h:c.Ok)(hm:c.mode=3)(e:jc c.mode c.X.length c.T.length c.R c.l c.Q c.k c.len c.words=(c.fixed,c.tp,c.sl,c.ns,0)):
  ni c.mode c.X c.T c.R c.l c.Q c.k c.len c.words=C (c.mode,c.X,c.T,c.R,c.l,c.Q,c.k,c.len,c.words,c.R,c.l,c.Q,c.k,(c.X.length:Int),c.T,c.fixed,c.tp,c.sl,c.ns,c.len,-1,c.X,0,c.fixed,0,[],dg c.X.length,dg c.T.length):=by
 have x5:=h.lens;unfold ni;rw[yC h.hl h.hk,e];simp only[zG];rw[zA (by simp),zD,gdz ⟨by omega,by omega⟩,gdz ⟨by omega,by omega⟩,zA (by simp[hm]),zD];simp only[bB];rfl
theorem cz4 (h:c.Ok)(hm:c.mode≠3)(e:jc c.mode c.X.length c.T.length c.R c.l c.Q c.k c.len c.words=(c.fixed,c.tp,c.sl,c.ns,0)):
  ni c.mode c.X c.T c.R c.l c.Q c.k c.len c.words=C (c.mode,c.X,c.T,c.R,c.l,c.Q,c.k,c.len,c.words,c.R,c.l,c.Q,c.k,(c.X.length:Int),c.T,c.fixed,c.tp,c.sl,c.ns,c.len,-1,c.X,(c.X.length:Int),c.fixed,0,aB c.ns.toNat (-1,[]),dg c.X.length,dg c.T.length):=by
 have x5:=h.lens;unfold ni;rw[yC h.hl h.hk,e];simp only[zG];rw[zA (by simp),zD,gdz ⟨by omega,by omega⟩,gdz ⟨by omega,by omega⟩,zB hm,zC,cM4 h.ns];simp only[bB,zG];rfl
theorem cM6 {a0:Int}{a1 a2:Zd}{a3:Int}{a4:List cq}{a5:Int}{a6:List cq}{a7 a8:Int}(hl:OpsOk a4)(hk:OpsOk a6)(h:(jc a0 a1.length a2.length a3 a4 a5 a6 a7 a8).2.2.2.2≠0):
  ni a0 a1 a2 a3 a4 a5 a6 a7 a8=C (0,[],[],0,[],0,[],0,0,0,[],0,[],0,[],0,0,0,0,0,0,[],0,0,(jc a0 a1.length a2.length a3 a4 a5 a6 a7 a8).2.2.2.2,[],[],[]):=by
 unfold ni;rw[yC hl hk];simp only[zG];rw[zB h,zC]
structure Both1 (c:Cx)(i:Nat)(s:Dy)(r:RS):Prop where
 w:Well1 c i s
 H:RelD c s r
 S:Bas c s r
 sx:r.sx=0
structure Both2 (c:Cx)(i:Nat)(s:Dy)(r:RS):Prop where
 w:Well2 c i s
 H:RelD c s r
 S:Slo c s.W r
theorem Bas.more {s:Dy}{r:RS}(hm:c.mode=3)(S:Bas c s r):Bas c (mg c s).2 {r with L:=(mg c s).2.L}:=by
 have e:mg c s=(19,s):=by unfold mg;rw[zE (by omega)]
 rw[e];exact⟨S.sl,S.len,S.kept⟩
theorem Slo.more {s:Dy}{r:RS}(S:Slo c s.W r):Slo c (mg c s).2.W {r with L:=(mg c s).2.L}:=by
 rw[aM2];exact⟨S.kp,S.sx,S.len,S.slot⟩
end
end
section
section
variable {c:Cx}
end
section
variable {a0:Int} {a1 a2:Zd} {a3:Int} {a4:List cq} {a5:Int} {a6:List cq} {a7 a8:Int}
end
end
section
open Go.IntKind renaming wrap -> zH, i64 -> zI, u64 -> zJ
open List renaming getElem?_eq_getElem -> aD
open Sum renaming inl -> aB
theorem bZ5 {l:Zd}{L:Int}(hl:l.length<1000000)(h: ∃t∈l,t< -1∨L<t):dy l L=C Za:=by
 obtain⟨t,ht,hb⟩:=h;obtain⟨j,hj,rfl⟩:=List.getElem_of_mem ht;unfold dy jb
 have key2: ∃i:Nat,ca (cv l L) dq 0=C (.inl (i:Int)):=by
  rcases ud (f:=cv l L) (l:=l) (λt=>Zc (t< -1∨L<t)) (λi=> .inl (i:Int)) (.inr ()) (by omega) (λi hi=>by
   unfold cv kc;rw[zB (by omega),zC,ci hi];simp only[zG,bv];by_cases h1:l[i]< -1
   .rw[zE h1,zE (by simp[h1])];rfl
   .rw[zF h1];simp only[zG,bv];by_cases h2:L<l[i]
    .rw[zE h2,zE (by simp[h2])]
    .rw[zF h2,zF (by simp[h1,h2]),bq (by omega)];rfl) (by
   unfold cv
   rw[zA (by omega),zD])with⟨_,i,hi⟩|⟨h1,_⟩
  .exact⟨i,hi⟩
  .have:=List.any_eq_false.1 h1 _ (List.getElem_mem hj);exact(this (by simp[hb])).elim
 obtain⟨i,hi⟩:=key2;rw[hi];simp only[zG,de];rw[zB (by omega)]
theorem bv5 {L p q:Int}{l:Zd}(hL:0<=L/\L<=65535)(hp:0<=p/\p<=L)(hq: -1<=q/\q<=L)(hl:l.length<1000000)(h: ∃t∈l,t< -1∨L<t):kH L p q l=C (.inl ()):=by
 unfold kH su kc;rw[zB (show 0<=L by omega),zB (show L<65536 by omega)];simp only[zC,zG,Bool.not_true,zD];rw[zA (show¬(1048576<(l.length:Int))by omega),zA (show¬p= -1 by omega),zA (show¬p< -1 by omega),zA (show¬L<p by omega),zA (show¬q< -1 by omega),zA (show¬L<q by omega)];simp only[zD,zG];rw[bZ5 hl h];rfl
section
variable {c:Cx} {W:Zd}
theorem cZ6 (wW:cg W)(k:Nat):0<=eu c W k:=(vt wW _).1
theorem cw1 (h:c.Ok)(hm:c.mode≠3)(hW:Wd c W)(wW:cg W){z1:Int}(h1:0<=z1/\z1<=65535):
  ((∀k,k<c.ns.toNat->eu c W k<=z1+1)/\ca (ja c.mode W z1 (c.fixed,c.tp,c.sl,c.ns,0) (0,c.P)) dq (0,0)=C (.inr ((jo c W:Nat):Int)))∨((∃k,k<c.ns.toNat/\z1+1<eu c W k)/\ca (ja c.mode W z1 (c.fixed,c.tp,c.sl,c.ns,0) (0,c.P)) dq (0,0)=C (.inl Zb)):=by
 have hns:=h.ns;have nm:=h.num;have hsl:=nm.sl;rw[zF hm]at hsl;have htk:=hW.tk h;have x5:=h.lens
 have key:=cw8 (f:=ja c.mode W z1 (c.fixed,c.tp,c.sl,c.ns,0) (0,c.P)) (λi=>(((List.range i).countP λ(k:Nat)=>Zc (0<eu c W k):Nat):Int)) c.ns.toNat (by omega) (λi=>z1+1<eu c W i) (λ_=> .inl Zb)
  (λi hi hn _=>by
   obtain⟨s1,s2,s3⟩:=wB h hm hi;have hc:(List.range i).countP (λ(k:Nat)=>Zc (0<eu c W k))<=i:=Nat.le_trans List.countP_le_length (by simp);unfold ja;simp only;rw[zB (by omega),zC,zB hm,zC,show ix 8 c.P.length=C 8 from cl (k:=8) (by rw[Cx.P_len];omega)];simp only[zG];rw[Cx.P_get (show 8<10 by omega)];simp only[zG];have e1:(i:Int)*c.sl=((i*(c.X.length+1):Nat):Int):=by rw[hsl,Int.natCast_mul];rfl
   unfold sp at s1;have hlt:sp c i<W.length:=by unfold sp;omega
   rw[e1,bq (n:=((i*(c.X.length+1):Nat):Int)) (by omega),bq (n:=(c.off 8:Int)+_) (by omega),show(c.off 8:Int)+((i*(c.X.length+1):Nat):Int)=((sp c i:Nat):Int)by unfold sp;omega]
   have e2:rd W ((sp c i:Nat):Int)=C (eu c W i):=by
    rw[ci hlt];have:=fh hlt;rw[aD hlt]at this;exact this
   rw[e2];simp only[zG];rw[qe (show du (z1+1)by unfold du;omega),zA hn,zD,List.range_succ,List.countP_append,List.countP_singleton,bq (n:=(i:Int)+1) (by omega),bq (by omega)];by_cases ht:0<eu c W i
   .rw[zB ht,zC,zE rfl];rfl
   .rw[zA ht,zD,zF (by simp)];rfl)
  (λi hi hst _=>by
   obtain⟨s1,s2,s3⟩:=wB h hm hi;unfold ja;simp only;rw[zB (by omega),zC,zB hm,zC,show ix 8 c.P.length=C 8 from cl (k:=8) (by rw[Cx.P_len];omega)];simp only[zG];rw[Cx.P_get (show 8<10 by omega)];simp only[zG];have e1:(i:Int)*c.sl=((i*(c.X.length+1):Nat):Int):=by rw[hsl,Int.natCast_mul];rfl
   unfold sp at s1;have hlt:sp c i<W.length:=by unfold sp;omega
   rw[e1,bq (n:=((i*(c.X.length+1):Nat):Int)) (by omega),bq (n:=(c.off 8:Int)+_) (by omega),show(c.off 8:Int)+((i*(c.X.length+1):Nat):Int)=((sp c i:Nat):Int)by unfold sp;omega]
   have e2:rd W ((sp c i:Nat):Int)=C (eu c W i):=by
    rw[ci hlt];have:=fh hlt;rw[aD hlt]at this;exact this
   rw[e2];simp only[zG]
   rw[qe (show du (z1+1)by unfold du;omega),zB hst,zC])
  (.inr ((jo c W:Nat):Int))
  (λ_=>by
   unfold ja;simp only;rw[zA (by omega),zD]
   rfl)
 rcases key with⟨i,h2,h3,_,h4⟩|⟨h2,h4⟩
 .exact .inr ⟨⟨i,h2,h3⟩,h4⟩
 .exact .inl ⟨λk hk=>by have:=h2 k hk;omega,h4⟩
def Pre (c:Cx)(W:Zd)(z0 z1 z2 z3 z4:Int):Prop:=W.length=c.words.toNat/\z0=zH zJ c.mode/\z4=zH zJ c.ns/\(z1<=65535/\(c.mode≠2->z1=zH zJ c.len))/\z2<=z1/\z3<=z1+1
def lw (c:Cx)(W:Zd)(z2 z3:Int):Int:=if c.mode=3 then(if 0<z3 then z3-1 else z2)else(jo c W:Int)
def cB7 (c:Cx)(W:Zd)(z1:Int):Prop:=c.mode≠3->∀k,k<c.ns.toNat->eu c W k<=z1+1
def Fit (c:Cx)(W:Zd)(z0 z1 z2 z3 z4 z9 z10:Int):Prop:=Pre c W z0 z1 z2 z3 z4/\cB7 c W z1/\z9=c.fixed+lw c W z2 z3*c.sl/\z9<=z10/\z10<=c.words
theorem ca8 (h:c.Ok){z0 z1 z2 z3 z4:Int}(w2:du z2)(w3:du z3)(hp:Pre c W z0 z1 z2 z3 z4):0<=lw c W z2 z3/\lw c W z2 z3<=c.ns/\0<=lw c W z2 z3*c.sl/\lw c W z2 z3*c.sl<=c.sl*c.ns/\c.fixed+lw c W z2 z3*c.sl<=c.words/\0<=c.fixed:=by
 have hns:=h.ns;have nm:=h.num;have hf:=ae9 h;have hfit:=h.fit;have hul:=cG6 c W;have htp:0<=c.tp:=by have:=nm.tp;split at this<;>omega
 have hsl0:0<=c.sl:=by rw[nm.sl];have:=nm.R;split<;>omega
 unfold du at w2 w3;obtain⟨_,_,_,⟨p4,p5⟩,p6,p7⟩:=hp
 have hh:0<=lw c W z2 z3/\lw c W z2 z3<=c.ns:=by
  unfold lw;by_cases hm:c.mode=3
  .rw[zE hm];have hb:=h.base hm;have hl:=nm.len;have p5':=p5 (by omega);rw[qe ⟨by omega,by omega⟩]at p5';split<;>omega
  .rw[zF hm];omega
 have h1:0<=lw c W z2 z3*c.sl:=Int.mul_nonneg hh.1 hsl0;have h2:lw c W z2 z3*c.sl<=c.ns*c.sl:=Int.mul_le_mul_of_nonneg_right hh.2 hsl0;rw[Int.mul_comm c.ns]at h2;exact⟨hh.1,hh.2,h1,h2,by omega,by omega⟩
variable (h:c.Ok) (e:jc c.mode c.X.length c.T.length c.R c.l c.Q c.k c.len c.words=(c.fixed,c.tp,c.sl,c.ns,0)) (wW:cg W) (hWl:W.length<=1048576) {z0 z1 z2 z3 z4 z5 z6 z7 z8 z9 z10 z11 z12 z13 z14 z15:Int} (w0:du z0) (w1:du z1) (w2:du z2) (w3:du z3) (w4:du z4) (w9:du z9) (w10:du z10)
include h e wW hWl w0 w1 w2 w3 w4 w9 w10
theorem cC8 : ∃b,sJ c.mode c.X c.T c.R c.l c.Q c.k c.len c.words W z0 z1 z2 z3 z4 z5 z6 z7 z8 z9 z10 z11 z12 z13 z14 z15=C b/\(b=Za↔Fit c W z0 z1 z2 z3 z4 z9 z10):=by
 have nm:=h.num;have hw:=nm.words;have hns:=h.ns;have hlen:=nm.len;have v1:=w1;have v2:=w2;have v3:=w3;have v9:=w9;have v10:=w10;unfold du at v1 v2 v3 v9 v10;have elen:zH zJ c.len=c.len:=qe ⟨by omega,by omega⟩;unfold sJ;rw[yC h.hl h.hk,e];simp only[zG];rw[aU9 h e];simp only[zG];have no: ∀{P:Prop},(¬P)->∃b,(C Zb:Option Bool)=C b/\(b=Za↔P):=λhP=>⟨Zb,rfl,by simp[hP]⟩
 by_cases c0:W.length=c.words.toNat
 .by_cases c1:z0=zH zJ c.mode
  .by_cases c2:z4=zH zJ c.ns
   .by_cases c3:z1<=65535
    .by_cases c4:c.mode≠2->z1=zH zJ c.len
     .rw[zA (show¬(((W.length:Nat):Int)≠c.words)by omega),zA (show¬z0≠_ from λk=>k c1),zA (show¬z4≠_ from λk=>k c2),zA (show¬65535<z1 by omega)];simp only[zD];have ew:zH zJ (z1+1)=z1+1:=qe ⟨by omega,by omega⟩;rw[ew]
      have hst: ∀{β:Type} (F:Bool⊕Unit->Option β),((cond (Zc (c.mode≠2)) (cond (Zc (z1≠IntKind.u64.wrap c.len)) (C (aB Zb)) (cond (Zc (z1<z2)) (C (aB Zb)) (cond (Zc (z1+1<z3)) (C (aB Zb)) (C (Sum.inr ()))))) (cond (Zc (z1<z2)) (C (aB Zb)) (cond (Zc (z1+1<z3)) (C (aB Zb)) (C (Sum.inr ()))))).bind F)=(if z2<=z1/\z3<=z1+1 then F (.inr ())else F (.inl Zb)):=λF=>by
       have inner:(cond (Zc (z1<z2)) (C (aB Zb)) (cond (Zc (z1+1<z3)) (C (aB Zb)) (C (Sum.inr ()))):Option (Bool⊕Unit))=if z2<=z1/\z3<=z1+1 then C (.inr ())else C (.inl Zb):=by
        simp only[bv];by_cases a1:z1<z2
        .rw[zE a1,zF (by omega)]
        .rw[zF a1];by_cases a2:z1+1<z3
         .rw[zE a2,zF (by omega)]
         .rw[zF a2,zE (by omega)]
       rw[inner];by_cases a0:c.mode≠2
       .rw[zB a0,zC,zA (λk=>k (c4 a0)),zD];split<;>rfl
       .rw[zA a0,zD];split<;>rfl
      rw[hst];by_cases c5:z2<=z1/\z3<=z1+1
      .rw[zE c5];simp only[cn];have hp:Pre c W z0 z1 z2 z3 z4:=⟨c0,c1,c2,⟨c3,c4⟩,c5.1,c5.2⟩;obtain⟨h1,h2,h3,h4,h5,h6⟩:=ca8 h w2 w3 hp
       have fin: ∀(b:Int),b=lw c W z2 z3->cB7 c W z1->∃q,(cond (Zc (z9=(zH zJ (zH zI (c.fixed+(zH zI (b*c.sl))))))) (cond (Zc (z9<=z10)) (C (Zc (z10<=(zH zJ c.words)))) (C Zb)) (C Zb))=C q/\(q=Za↔Fit c W z0 z1 z2 z3 z4 z9 z10):=λb hb ht=>by
        subst hb;rw[bq (n:=lw c W z2 z3*c.sl) (by omega),bq (by omega),qe ⟨by omega,by omega⟩,qe (n:=c.words) ⟨by omega,by omega⟩];by_cases d1:z9=c.fixed+lw c W z2 z3*c.sl
        .rw[zB d1,zC];by_cases d2:z9<=z10
         .rw[zB d2,zC];exact⟨_,rfl,by rw[decide_eq_true_iff];exact⟨λk=>⟨hp,ht,d1,d2,k⟩,λk=>k.2.2.2.2⟩⟩
         .rw[zA d2,zD];exact no λk=>d2 k.2.2.2.1
        .rw[zA d1,zD];exact no λk=>d1 k.2.2.1
       by_cases hm:c.mode=3
       .have hs:((cond (Zc (c.mode=3)) (cond (Zc (0<z3)) (C (zH zI (zH zI z3-1))) (C (zH zI z2))) (C 0)):Option Int)=C (lw c W z2 z3):=by
         rw[zB hm,zC,bv];unfold lw;rw[zE hm];by_cases k3:0<z3
         .rw[zE k3,zE k3,bq (n:=z3) (by omega),bq (by omega)]
         .rw[zF k3,zF k3,bq (by omega)]
        rw[hs];simp only[zG]
        have hl':ca (ja c.mode W z1 (c.fixed,c.tp,c.sl,c.ns,0) (0,c.P)) dq (0,lw c W z2 z3)=C (.inr (lw c W z2 z3)):=by
         refine gk (Reach.refl) (by omega) ?_;unfold ja;simp only;rw[zA (show¬c.mode≠3 from λk=>k hm),zD];cases Zc (0<c.ns)<;>rfl
        rw[hl'];simp only[zG,cn];exact fin _ rfl λk=>(k hm).elim
       .have hs:((cond (Zc (c.mode=3)) (cond (Zc (0<z3)) (C (zH zI (zH zI z3-1))) (C (zH zI z2))) (C 0)):Option Int)=C 0:=by rw[zA hm,zD]
        rw[hs];simp only[zG];rcases cw1 h hm c0 wW (z1:=z1) ⟨by omega,c3⟩with⟨ht,hl⟩|⟨⟨k,k1,k2⟩,hl⟩
        .rw[hl];simp only[zG,cn];exact fin _ (by unfold lw;rw[zF hm]) λ_=>ht
        .rw[hl];simp only[zG,de];exact no λq=>by have:=q.2.1 hm k k1;omega
      .rw[zF c5];simp only[de];exact no λk=>c5 ⟨k.1.2.2.2.2.1,k.1.2.2.2.2.2⟩
     .have hm2:c.mode≠2:=λk=>c4 λq=>(q k).elim
      have hz:z1≠IntKind.u64.wrap c.len:=λk=>c4 λ_=>k
      rw[zA (show¬(((W.length:Nat):Int)≠c.words)by omega),zA (show¬z0≠_ from λk=>k c1),zA (show¬z4≠_ from λk=>k c2),zA (show¬65535<z1 by omega),zB hm2,zB hz];simp only[zD,zC,zG,de];exact no λk=>c4 k.1.2.2.2.1.2
    .rw[zA (show¬(((W.length:Nat):Int)≠c.words)by omega),zA (show¬z0≠_ from λk=>k c1),zA (show¬z4≠_ from λk=>k c2),zB (show 65535<z1 by omega)];simp only[zD,zC,zG,de];exact no λk=>c3 k.1.2.2.2.1.1
   .rw[zA (show¬(((W.length:Nat):Int)≠c.words)by omega),zA (show¬z0≠_ from λk=>k c1),zB (show z4≠_ from c2)];simp only[zD,zC,zG,de];exact no λk=>c2 k.1.2.2.1
  .rw[zA (show¬(((W.length:Nat):Int)≠c.words)by omega),zB (show z0≠_ from c1)];simp only[zD,zC,zG,de];exact no λk=>c1 k.1.2.1
 .rw[zB (show((W.length:Nat):Int)≠c.words by omega)];simp only[zC,zG,de];exact no λk=>c0 k.1.1
end
end
section
open Go.IntKind renaming wrap -> zH, i64 -> zI, u64 -> zJ
open Bool renaming not_false -> aB, not_true -> aD
open Int renaming mul_comm -> bD
open Sum renaming inl -> bB
section
variable {c:Cx} {W:Zd}
theorem bk7 (h:c.Ok)(hm:c.mode≠3)(hW:Wd c W)(ht: ∃k,k<c.ns.toNat/\65536<eu c W k):lQ (c.off 8:Int) c.ns (c.X.length:Int) c.tk W=C (.inl 2):=by
 have n:=h.num;have nx:=n.x;have nns:=h.ns;have nm:=n.mul;have nw:=n.words;have hsl:=n.sl;rw[zF hm]at hsl;have h9:=h.off9_le;have h89:c.off 9=c.off 8+(c.sl*c.ns).toNat:=bH9;obtain⟨t1,t2⟩:=hW.tk h;unfold lQ mb gg;rw[zB (show 0<=c.ns by omega),zB (show c.ns<=1048576 by omega),zB (show 1<=(c.X.length:Int)by omega),zB (show(c.X.length:Int)<=64 by omega)];simp only[zC,zD,aD,zG];rw[bq (n:=(c.X.length:Int)+1) (by omega),<-hsl,bD c.ns,bq (n:=c.sl*c.ns) (by omega)]
 have hrd:gw (c.off 8:Int) (c.sl*c.ns) c.tk W=C (0,seg W (c.off 8) (c.sl*c.ns).toNat):=by
  have:=br1 (W:=W) (o:=c.off 8) (n:=(c.sl*c.ns).toNat) (tk:=c.off 9) (by omega) t1 t2;rw[Int.toNat_of_nonneg nm]at this;exact this
 rw[hrd];simp only[zG];rw[zA (by simp),zD]
 have key:=bf2 (f:=gx (c.off 8:Int) c.ns (c.X.length:Int) c.tk W) c.ns.toNat (by omega) (λi=>65536<eu c W i) (.inl ()) (.inr ())
  (λi hi hn=>by
   unfold gx;rw[zB (by omega),zC,am6 h hm hi];simp only[zG];rw[bm2 h hm hW hi];simp only[zG];rw[zA hn,zD,bq (by omega)]
   rfl)
  (λi hi hs=>by
   unfold gx;rw[zB (by omega),zC,am6 h hm hi];simp only[zG];rw[bm2 h hm hW hi];simp only[zG]
   rw[zB hs,zC])
  (by
   unfold gx
   rw[zA (by omega),zD])
 rcases key with⟨i,_,_,_,hl⟩|⟨hn,_⟩
 .rw[hl];rfl
 .obtain⟨k,k1,k2⟩:=ht;exact(hn k k1 k2).elim
theorem dj5 (h:c.Ok)(hm:c.mode≠3):(vS c W).length<1000000:=by
 have hns:=h.ns;rw[af9];rcases Nat.eq_zero_or_pos c.ns.toNat with h0|h0
 .omega
 .have:=(wB h hm h0).2.2;omega
theorem cZ7 {L:Int}(ht: ∃k,k<c.ns.toNat/\L+1<eu c W k): ∃t∈vS c W,t< -1∨L<t:=by
 obtain⟨k,k1,k2⟩:=ht;exact⟨eu c W k-1,List.mem_of_getElem? (bz2 k1), .inr (by omega)⟩
theorem de2 (hm:c.mode=3){z2 z3:Int}(h3:0<=z3):cond (Zc (z3-1<0)) (C z2) (C (z3-1))=C (lw c W z2 z3):=by
 unfold lw;rw[zE hm,bv];by_cases k:0<z3
 .rw[zE k,zF (by omega)]
 .rw[zF k,zE (by omega)]
def dz (W:Zd)(z1 z2 z3 z5 z6 z7 z8 z9 z10 z11:Int):Dy:=⟨z1,z2,z3-1,zH zI z5,zH zI z6,zH zI z7,zH zI z8,z11,z9,z10,W⟩
variable (h:c.Ok) (e:jc c.mode c.X.length c.T.length c.R c.l c.Q c.k c.len c.words=(c.fixed,c.tp,c.sl,c.ns,0)) (wW:cg W) (hWl:W.length<=1048576) {z0 z1 z2 z3 z4 z5 z6 z7 z8 z9 z10 z11 z12 z13 z14 z15:Int} (w1:du z1) (w2:du z2) (w3:du z3) (w9:du z9) (w10:du z10)
include h e wW hWl w1 w2 w3 w9 w10
theorem cH4 (hm:c.mode=3): ∃b,(b=Za↔Fit c W z0 z1 z2 z3 z4 z9 z10)/\jp c.mode c.X c.T c.R c.l c.Q c.k c.len c.words W z0 z1 z2 z3 z4 z5 z6 z7 z8 z9 z10 z11 z12 z13 z14 z15=C (bif b then .inr (.inl (do0 c (dz W z1 z2 z3 z5 z6 z7 z8 z9 z10 z11)))else .inl 3):=by
 have nm:=h.num;have hw:=nm.words;have hns:=h.ns;have hlen:=nm.len;have nmul:=nm.mul;have v1:=w1;have v2:=w2;have v3:=w3;have v9:=w9;have v10:=w10;unfold du at v1 v2 v3 v9 v10;have elen:zH zJ c.len=c.len:=qe ⟨by omega,by omega⟩;have no: ∀{α:Type} {y:α},(¬Fit c W z0 z1 z2 z3 z4 z9 z10)->∃b,(b=Za↔Fit c W z0 z1 z2 z3 z4 z9 z10)/\C (bB (3:Int))=C (bif b then Sum.inr y else bB 3):=λhP=>⟨Zb,by simp[hP],rfl⟩
 unfold jp;rw[co0 h e];simp only[zG,cn];rw[qe (n:=((W.length:Nat):Int)) ⟨by omega,by omega⟩,qe (n:=c.words) ⟨by omega,by omega⟩];by_cases c0': ¬(W.length=c.words.toNat)
 .rw[zB (show((W.length:Nat):Int)≠c.words by omega),zC];exact no λk=>c0' k.1.1
 have c0:W.length=c.words.toNat:=Classical.not_not.1 c0';rw[zA (show¬(((W.length:Nat):Int)≠c.words)by omega),zD];by_cases c1': ¬(z0=zH zJ c.mode)
 .rw[zB (show z0≠_ from c1'),zC];exact no λk=>c1' k.1.2.1
 have c1:z0=zH zJ c.mode:=Classical.not_not.1 c1';rw[zA (show¬z0≠_ from λk=>k c1),zD];by_cases c2': ¬(z4=zH zJ c.ns)
 .rw[zB (show z4≠_ from c2'),zC];exact no λk=>c2' k.1.2.2.1
 have c2:z4=zH zJ c.ns:=Classical.not_not.1 c2';rw[zA (show¬z4≠_ from λk=>k c2),zD];by_cases c3': ¬(z1<=65535/\(c.mode≠2->z1=zH zJ c.len))
 .have hl:er z1 c.fixed c.tp c.sl c.ns c.mode c.R c.Q c.len c.words c.len 0 (-1) 0 0 0 0 0 c.X c.T c.l c.k c.P=C Zb:=by
   unfold er;rw[bv];by_cases a0:c.mode=2
   .rw[zE a0,zA (λk=>c3' ⟨by omega,λq=>(q a0).elim⟩)]
   .rw[zF a0,zA (λk=>c3' ⟨by omega,λ_=>k⟩)]
  rw[hl];simp only[zG,aB,zC];exact no λk=>c3' k.1.2.2.2.1
 have c3:z1<=65535/\(c.mode≠2->z1=zH zJ c.len):=Classical.not_not.1 c3'
 have hl:er z1 c.fixed c.tp c.sl c.ns c.mode c.R c.Q c.len c.words c.len 0 (-1) 0 0 0 0 0 c.X c.T c.l c.k c.P=C Za:=by
  unfold er;rw[bv];by_cases a0:c.mode=2
  .rw[zE a0,zB (by omega)]
  .rw[zF a0,zB (c3.2 a0)]
 rw[hl];simp only[zG,aD,zD];rw[qe (n:=z1+1) ⟨by omega,by omega⟩];by_cases c5': ¬(z2<=z1)
 .rw[zB (show z1<z2 by omega),zC];exact no λk=>c5' k.1.2.2.2.2.1
 have c5:z2<=z1:=Classical.not_not.1 c5';rw[zA (show¬z1<z2 by omega),zD];by_cases c6': ¬(z3<=z1+1)
 .rw[zB (show z1+1<z3 by omega),zC];exact no λk=>c6' k.1.2.2.2.2.2
 have c6:z3<=z1+1:=Classical.not_not.1 c6';rw[zA (show¬z1+1<z3 by omega),zD];have hp:Pre c W z0 z1 z2 z3 z4:=⟨c0,c1,c2,c3,c5,c6⟩;obtain⟨h1,h2,h3,h4,h5,h6⟩:=ca8 h w2 w3 hp;by_cases c7': ¬(z9<=c.words)
 .rw[zB (show c.words<z9 by omega),zC];exact no λk=>by have:=k.2.2.1;omega
 have c7:z9<=c.words:=Classical.not_not.1 c7';rw[zA (show¬c.words<z9 by omega),zD];by_cases c8': ¬(z10<=c.words)
 .rw[zB (show c.words<z10 by omega),zC];exact no λk=>c8' k.2.2.2.2
 have c8:z10<=c.words:=Classical.not_not.1 c8';rw[zA (show¬c.words<z10 by omega),zD,br0 h c0];simp only[zG,cn];have htk:=Wd.tk h c0;have h89:c.off 9=c.off 8+(c.sl*c.ns).toNat:=bH9;rw[show ix 8 c.P.length=C 8 from cl (k:=8) (by rw[Cx.P_len];omega)];simp only[zG];rw[Cx.P_get (show 8<10 by omega)];simp only[zG]
 have etk:gf (zH zI ((c.off 8:Int)+zH zI (c.ns*c.sl))) 0 W=C (0,0,c.tk):=by
  rw[bD,bq (n:=c.sl*c.ns) (by omega),bq (by omega),show(c.off 8:Int)+c.sl*c.ns=((c.off 9:Nat):Int)by omega];have:=cG2 (o:=0) (n:=c.off 9) (W:=W) (by omega) (by omega);rw[Nat.zero_add]at this;exact this
 rw[etk];simp only[zG];rw[bq (n:=z1) (by omega),bq (n:=z2) (by omega),bq (n:=z3) (by omega),bq (n:=z3-1) (by omega),bq (n:=z9) (by omega),bq (n:=z10) (by omega)];unfold kj ge;simp only[zG];rw[zB hm,zC];simp only[zG,de,aD,zD];have tagok:cB7 c W z1:=λk=>(k hm).elim
 unfold oq ge;simp only[zG];rw[zB hm,aD,zD];have hh:cond (Zc (z3-1<0)) (C z2) (C (z3-1))=C (lw c W z2 z3):=de2 hm v3.1;rw[hh];simp only[zG];rw[bq (n:=lw c W z2 z3*c.sl) (by omega),bq (n:=c.fixed+lw c W z2 z3*c.sl) (by omega)];by_cases d1': ¬(z9=c.fixed+lw c W z2 z3*c.sl)
 .rw[zB (show z9≠_ from d1'),zC];simp only[zG,de,cn,aB,zC];exact no λk=>d1' k.2.2.1
 have d1:z9=c.fixed+lw c W z2 z3*c.sl:=Classical.not_not.1 d1';rw[zA (show¬z9≠_ from λk=>k d1),zD];simp only[zG,de,cn];by_cases d2': ¬(z9<=z10)
 .have hmt:kT c.words z9 z10=C (.inl ()):=by
   unfold kT;rw[zA (show¬z9<0 by omega),zD,zB (show z10<z9 by omega),zC]
  rw[hmt];simp only[zG,de,cn];exact no λk=>d2' k.2.2.2.1
 have d2:z9<=z10:=Classical.not_not.1 d2';rw[cm8 (by omega) d2 c8];simp only[zG,de,cn];exact⟨Za,by simp only[true_iff];exact⟨hp,tagok,d1,d2,c8⟩,rfl⟩
theorem cH5 (hm:c.mode≠3): ∃b,(b=Za↔Fit c W z0 z1 z2 z3 z4 z9 z10)/\jp c.mode c.X c.T c.R c.l c.Q c.k c.len c.words W z0 z1 z2 z3 z4 z5 z6 z7 z8 z9 z10 z11 z12 z13 z14 z15=C (bif b then .inr (.inr (do1 c (dz W z1 z2 z3 z5 z6 z7 z8 z9 z10 z11)))else .inl 3):=by
 have nm:=h.num;have hw:=nm.words;have hns:=h.ns;have hlen:=nm.len;have nmul:=nm.mul;have v1:=w1;have v2:=w2;have v3:=w3;have v9:=w9;have v10:=w10;unfold du at v1 v2 v3 v9 v10;have elen:zH zJ c.len=c.len:=qe ⟨by omega,by omega⟩;have no: ∀{α:Type} {y:α},(¬Fit c W z0 z1 z2 z3 z4 z9 z10)->∃b,(b=Za↔Fit c W z0 z1 z2 z3 z4 z9 z10)/\C (bB (3:Int))=C (bif b then Sum.inr y else bB 3):=λhP=>⟨Zb,by simp[hP],rfl⟩
 unfold jp;rw[co0 h e];simp only[zG,cn];rw[qe (n:=((W.length:Nat):Int)) ⟨by omega,by omega⟩,qe (n:=c.words) ⟨by omega,by omega⟩];by_cases c0': ¬(W.length=c.words.toNat)
 .rw[zB (show((W.length:Nat):Int)≠c.words by omega),zC];exact no λk=>c0' k.1.1
 have c0:W.length=c.words.toNat:=Classical.not_not.1 c0';rw[zA (show¬(((W.length:Nat):Int)≠c.words)by omega),zD];by_cases c1': ¬(z0=zH zJ c.mode)
 .rw[zB (show z0≠_ from c1'),zC];exact no λk=>c1' k.1.2.1
 have c1:z0=zH zJ c.mode:=Classical.not_not.1 c1';rw[zA (show¬z0≠_ from λk=>k c1),zD];by_cases c2': ¬(z4=zH zJ c.ns)
 .rw[zB (show z4≠_ from c2'),zC];exact no λk=>c2' k.1.2.2.1
 have c2:z4=zH zJ c.ns:=Classical.not_not.1 c2';rw[zA (show¬z4≠_ from λk=>k c2),zD];by_cases c3': ¬(z1<=65535/\(c.mode≠2->z1=zH zJ c.len))
 .have hl:er z1 c.fixed c.tp c.sl c.ns c.mode c.R c.Q c.len c.words c.len 0 (-1) 0 0 0 0 0 c.X c.T c.l c.k c.P=C Zb:=by
   unfold er;rw[bv];by_cases a0:c.mode=2
   .rw[zE a0,zA (λk=>c3' ⟨by omega,λq=>(q a0).elim⟩)]
   .rw[zF a0,zA (λk=>c3' ⟨by omega,λ_=>k⟩)]
  rw[hl];simp only[zG,aB,zC];exact no λk=>c3' k.1.2.2.2.1
 have c3:z1<=65535/\(c.mode≠2->z1=zH zJ c.len):=Classical.not_not.1 c3'
 have hl:er z1 c.fixed c.tp c.sl c.ns c.mode c.R c.Q c.len c.words c.len 0 (-1) 0 0 0 0 0 c.X c.T c.l c.k c.P=C Za:=by
  unfold er;rw[bv];by_cases a0:c.mode=2
  .rw[zE a0,zB (by omega)]
  .rw[zF a0,zB (c3.2 a0)]
 rw[hl];simp only[zG,aD,zD];rw[qe (n:=z1+1) ⟨by omega,by omega⟩];by_cases c5': ¬(z2<=z1)
 .rw[zB (show z1<z2 by omega),zC];exact no λk=>c5' k.1.2.2.2.2.1
 have c5:z2<=z1:=Classical.not_not.1 c5';rw[zA (show¬z1<z2 by omega),zD];by_cases c6': ¬(z3<=z1+1)
 .rw[zB (show z1+1<z3 by omega),zC];exact no λk=>c6' k.1.2.2.2.2.2
 have c6:z3<=z1+1:=Classical.not_not.1 c6';rw[zA (show¬z1+1<z3 by omega),zD];have hp:Pre c W z0 z1 z2 z3 z4:=⟨c0,c1,c2,c3,c5,c6⟩;obtain⟨h1,h2,h3,h4,h5,h6⟩:=ca8 h w2 w3 hp;by_cases c7': ¬(z9<=c.words)
 .rw[zB (show c.words<z9 by omega),zC];exact no λk=>by have:=k.2.2.1;omega
 have c7:z9<=c.words:=Classical.not_not.1 c7';rw[zA (show¬c.words<z9 by omega),zD];by_cases c8': ¬(z10<=c.words)
 .rw[zB (show c.words<z10 by omega),zC];exact no λk=>c8' k.2.2.2.2
 have c8:z10<=c.words:=Classical.not_not.1 c8';rw[zA (show¬c.words<z10 by omega),zD,br0 h c0];simp only[zG,cn];have htk:=Wd.tk h c0;have h89:c.off 9=c.off 8+(c.sl*c.ns).toNat:=bH9;rw[show ix 8 c.P.length=C 8 from cl (k:=8) (by rw[Cx.P_len];omega)];simp only[zG];rw[Cx.P_get (show 8<10 by omega)];simp only[zG]
 have etk:gf (zH zI ((c.off 8:Int)+zH zI (c.ns*c.sl))) 0 W=C (0,0,c.tk):=by
  rw[bD,bq (n:=c.sl*c.ns) (by omega),bq (by omega),show(c.off 8:Int)+c.sl*c.ns=((c.off 9:Nat):Int)by omega];have:=cG2 (o:=0) (n:=c.off 9) (W:=W) (by omega) (by omega);rw[Nat.zero_add]at this;exact this
 rw[etk];simp only[zG];rw[bq (n:=z1) (by omega),bq (n:=z2) (by omega),bq (n:=z3) (by omega),bq (n:=z3-1) (by omega),bq (n:=z9) (by omega),bq (n:=z10) (by omega)];unfold kj ge;simp only[zG];rw[zA hm,zD];rw[show ix 8 c.P.length=C 8 from cl (k:=8) (by rw[Cx.P_len];omega)];simp only[zG];rw[Cx.P_get (i:=8) (by omega)];simp only[zG];by_cases t1: ∃k,k<c.ns.toNat/\65536<eu c W k
 .rw[bk7 h hm c0 t1];simp only[zG,de];exact no λq=>by obtain⟨k,k1,k2⟩:=t1;have:=q.2.1 hm k k1;omega
 have t2: ∀k,k<c.ns.toNat->0<=eu c W k/\eu c W k<=65536:=λk hk=>⟨cZ6 wW k,by have: ¬65536<eu c W k:=λq=>t1 ⟨k,hk,q⟩;omega⟩
 rw[cd8 h hm c0 t2];simp only[zG,cn];unfold oo;rw[ce0 h hm c0 t2];simp only[zG];have tl:(vS c W).length<1000000:=dj5 h hm;by_cases t3: ∃k,k<c.ns.toNat/\z1+1<eu c W k
 .rw[bv5 (by omega) (by omega) (by omega) tl (cZ7 t3)];simp only[zG,de,cn,aB,zC];exact no λq=>by obtain⟨k,k1,k2⟩:=t3;have:=q.2.1 hm k k1;omega
 have tagok:cB7 c W z1:=λ_ k hk=>by have: ¬z1+1<eu c W k:=λq=>t3 ⟨k,hk,q⟩;omega
 rw[cx1 (by omega) (by omega) (by omega) tl (cr2 (λk hk=>⟨cZ6 wW k,tagok hm k hk⟩))];simp only[zG,de,cn,aD,zD];unfold ot lJ;simp only[zG];rw[zA hm,aB,zC];have hh:lw c W z2 z3=((jo c W:Nat):Int):=zF hm;unfold oY;rw[ce0 h hm c0 t2];simp only[zG];rw[cO2 tl,cO3,<-hh];simp only[zG];rw[bq (n:=lw c W z2 z3*c.sl) (by omega),bq (n:=c.fixed+lw c W z2 z3*c.sl) (by omega)];by_cases d1': ¬(z9=c.fixed+lw c W z2 z3*c.sl)
 .rw[zB (show z9≠_ from d1'),zC];simp only[zG,de,cn,aB,zC];exact no λk=>d1' k.2.2.1
 have d1:z9=c.fixed+lw c W z2 z3*c.sl:=Classical.not_not.1 d1';rw[zA (show¬z9≠_ from λk=>k d1),zD];simp only[zG,de,cn];by_cases d2': ¬(z9<=z10)
 .have hmt:kT c.words z9 z10=C (.inl ()):=by
   unfold kT;rw[zA (show¬z9<0 by omega),zD,zB (show z10<z9 by omega),zC]
  rw[hmt];simp only[zG,de,cn];exact no λk=>d2' k.2.2.2.1
 have d2:z9<=z10:=Classical.not_not.1 d2';rw[cm8 (by omega) d2 c8];simp only[zG,de,cn];exact⟨Za,by simp only[true_iff];exact⟨hp,tagok,d1,d2,c8⟩,rfl⟩
end
end
section
open List renaming getElem?_eq_getElem -> aB
def wrL (w:Zd)(x:Int)(s:Int×Zd):Option ((Int×Zd)⊕Zd):=
 cond (Zc (s.1<((w.length:Nat):Int))) ((rd w s.1).bind λv=>(ix (IntKind.i64.wrap (x+s.1)) s.2.length).bind λj=>(s.2[j]?).bind λ_=>C (.inl (IntKind.i64.wrap (s.1+1),s.2.set j v))) (C (.inr s.2))
def wn (N:Nat)(g:Zd):Prop:=g.length=N/\cg g
theorem ce8 {f:Int×Zd->Option ((Int×Zd)⊕Zd)}{w:Zd}{o N:Nat}(ho:o+w.length<=N)(hN:N<=1048576)(ww:cg w)
  (hs: ∀k,∀hk:k<w.length,∀g:Zd,g.length=N->f ((k:Int),g)=C (.inl (((k+1:Nat):Int),g.set (o+k) w[k]))) (he: ∀g,f ((w.length:Int),g)=C (.inr g)) {g:Zd} (hg:wn N g): ∃g',ca f dq (0,g)=C g'/\wn N g':=
 lx (f:=f) (a:=(0,g)) (λa=> ∃(k:Nat) (g:Zd),a=((k:Int),g)/\k<=w.length/\wn N g) (λa=>((w.length:Int)-a.1).toNat) (wn N) ⟨0,g,rfl,Nat.zero_le _,hg⟩ (by simp only;omega) λa ha=>by
  obtain⟨k,g,rfl,hk,hg⟩:=ha;by_cases hlt:k<w.length
  .exact .inl ⟨_,hs k hlt g hg.1,⟨k+1,_,rfl,hlt,by rw[List.length_set];exact hg.1,hg.2.set (ww _ (List.getElem_mem hlt)) _⟩,by simp only;omega⟩
  .have:k=w.length:=by omega
   subst this;exact .inr ⟨g,he g,hg⟩
theorem aW2 {f:Int×Zd->Option ((Int×Zd)⊕Zd)}{w:Zd}{o N:Nat}(ho:o+w.length<=N)(hN:N<=1048576)(ww:cg w)(hf: ∀s,f s=wrL w (o:Int) s){g:Zd}(hg:wn N g): ∃g',ca f dq (0,g)=C g'/\wn N g':=
 ce8 ho hN ww (λk hk g hgl=>by
  rw[hf];unfold wrL;simp only;rw[zB (by omega),zC,ci hk];simp only[zG];rw[bq (n:=(o:Int)+k) (by omega),show(o:Int)+(k:Int)=((o+k:Nat):Int)by omega,cl (by omega)];simp only[zG];rw[fh (by omega)];simp only[zG];rw[bq (by omega)]
  rfl) (λg=>by
  rw[hf];unfold wrL
  rw[zA (by simp),zD]) hg
section
variable {c:Cx} {r:RS}
theorem cl9 (h:c.Ok)(wT:cg c.T){i:Nat}{t g:Zd}(hl:t.length=c.sl.toNat)(wt:cg t)(hin:c.off 8+i*c.sl.toNat+c.sl.toNat<=c.words.toNat)(hsl:0<=c.sl)(hN:c.words.toNat<=1048576)(hg:wn c.words.toNat g):
  ∃g',ca (pJ c.sl (0,c.P) ((i:Int),g) t) dq (0,g)=C g'/\wn c.words.toNat g':=
 ce8 (o:=c.off 8+i*c.sl.toNat) (by omega) hN wt (λk hk g hgl=>by
  unfold pJ;simp only;rw[zB (by omega),zC,show ix 8 c.P.length=C 8 from cl (k:=8) (by rw[Cx.P_len];omega)];simp only[zG];rw[Cx.P_get (i:=8) (by omega)];simp only[zG];have e1:(i:Int)*c.sl=((i*c.sl.toNat:Nat):Int):=by rw[Int.natCast_mul,Int.toNat_of_nonneg hsl]
  rw[cl hk];simp only[zG];rw[aB hk];simp only[zG];rw[e1,bq (n:=((i*c.sl.toNat:Nat):Int)) (by omega),bq (n:=(c.off 8:Int)+_) (by omega),bq (n:=(c.off 8:Int)+((i*c.sl.toNat:Nat):Int)+(k:Int)) (by omega),show(c.off 8:Int)+((i*c.sl.toNat:Nat):Int)+(k:Int)=((c.off 8+i*c.sl.toNat+k:Nat):Int)by omega,cl (by omega)];simp only[zG];rw[fh (by omega)];simp only[zG];rw[bq (by omega)]
  rfl) (λg=>by
  unfold pJ
  rw[zA (by simp),zD]) hg
theorem bE {α β:Type}{o:Option α}{a:α}{F:α->Option β}{r:Option β}(h:o=C a)(k:F a=r):o.bind F=r:=by
 subst h;exact k
theorem bf9 (h:c.Ok)(wT:cg c.T)(e:jc c.mode c.X.length c.T.length c.R c.l c.Q c.k c.len c.words=(c.fixed,c.tp,c.sl,c.ns,0)){W:Zd}(H:Has c W r.st r.ax r.th){ws:Zd}(hws:od r.sl r.sx=C ws)(wws:cg ws)(hwl:c.off 8+ws.length<=c.off 9)
  (hk: ∀i,∀hi:i<r.kp.length,i<65536/\r.kp[i].length=c.X.length/\cg r.kp[i]/\c.off 8+i*c.sl.toNat+c.sl.toNat<=c.words.toNat/\c.sl.toNat=c.fl.n+c.R.toNat) (hkl:r.kp.length<=65536): ∃g,oe c.mode c.X c.T c.R c.l c.Q c.k c.len c.words c.R c.l c.Q c.k (c.X.length:Int) c.T c.fixed c.tp c.sl c.ns r.L r.p r.q r.st r.sl r.sx r.kp r.ax r.th r.ls r.n0 r.n1 r.n2 r.n3 r.pk=C g/\wn c.words.toNat g:=by
 have nm:=h.num;have hw:=nm.words;have x5:=h.lens;obtain⟨k1,k2,k3,k4,k5,k6⟩:=H.lens h wT;have h9:=h.off9_le;have o0:=jm (c:=c) (show 0<9 by omega);have o1:=jm (c:=c) (show 1<9 by omega);have o5:=jm (c:=c) (show 5<9 by omega);have o6:=jm (c:=c) (show 6<9 by omega);have z0:c.sz 0=c.T.length:=rfl;have z1:c.sz 1=c.X.length:=rfl;have z5:c.sz 5=c.X.length:=rfl;have z6:c.sz 6=c.T.length:=rfl;have i0:ix 0 c.P.length=C 0:=cl (k:=0) (by rw[Cx.P_len];omega);have i1:ix 1 c.P.length=C 1:=cl (k:=1) (by rw[Cx.P_len];omega);have i5:ix 5 c.P.length=C 5:=cl (k:=5) (by rw[Cx.P_len];omega);have i6:ix 6 c.P.length=C 6:=cl (k:=6) (by rw[Cx.P_len];omega);have i8:ix 8 c.P.length=C 8:=cl (k:=8) (by rw[Cx.P_len];omega)
 obtain⟨g1,e1,ok1⟩: ∃g,ca (pI c.T r.st r.ax r.th ws (c.off 0:Int) (c.off 1:Int) (c.off 5:Int) (c.off 6:Int) (c.off 8:Int)) dq (0,List.replicate c.words.toNat 0)=C g/\wn c.words.toNat g:=by
  have one: ∀(i:Nat) (g:Zd),(∃g',ca (ac4 c.T r.st r.ax r.th ws (c.off 0:Int) (c.off 1:Int) (c.off 5:Int) (c.off 6:Int) (c.off 8:Int) ((i:Int),g)) dq (0,g)=C g'/\wn c.words.toNat g')->i<5->∃g',pI c.T r.st r.ax r.th ws (c.off 0:Int) (c.off 1:Int) (c.off 5:Int) (c.off 6:Int) (c.off 8:Int) ((i:Int),g)=C (.inl (((i+1:Nat):Int),g'))/\wn c.words.toNat g':=λi g hex hi=>by
   obtain⟨g',e',ok'⟩:=hex;refine⟨g', ?_,ok'⟩;unfold pI;simp only;rw[zB (by omega),zC,e'];simp only[zG];rw[bq (by omega)];rfl
  obtain⟨g1,a1,b1⟩:=one 0 _ (aW2 (w:=c.T) (o:=c.off 0) (by omega) (by omega) wT (λs=>rfl) ⟨List.length_replicate,cg.rep _⟩) (by omega);obtain⟨g2,a2,b2⟩:=one 1 g1 (aW2 (w:=r.st) (o:=c.off 1) (by omega) (by omega) k4 (λs=>rfl) b1) (by omega);obtain⟨g3,a3,b3⟩:=one 2 g2 (aW2 (w:=r.ax) (o:=c.off 5) (by omega) (by omega) k5 (λs=>rfl) b2) (by omega);obtain⟨g4,a4,b4⟩:=one 3 g3 (aW2 (w:=r.th) (o:=c.off 6) (by omega) (by omega) k6 (λs=>rfl) b3) (by omega)
  obtain⟨g5,a5,b5⟩:=one 4 g4 (ce8 (o:=c.off 8) (w:=ws) (by omega) (by omega) wws (λk hk g hgl=>by
   show cond (Zc ((k:Int)<((ws.length:Nat):Int))) ((ix (k:Int) ws.length).bind λj=>(ws[j]?).bind λv=>(ix (IntKind.i64.wrap ((c.off 8:Int)+(k:Int))) g.length).bind λj2=>(g[j2]?).bind λ_=>C (Sum.inl (IntKind.i64.wrap ((k:Int)+1),g.set j2 v))) (C (Sum.inr g))=_;rw[zB (by omega),zC,cl hk];simp only[zG];rw[aB hk];simp only[zG];rw[bq (n:=(c.off 8:Int)+k) (by omega),show(c.off 8:Int)+(k:Int)=((c.off 8+k:Nat):Int)by omega,cl (by omega)];simp only[zG];rw[fh (by omega)];simp only[zG];rw[bq (by omega)]
   rfl) (λg=>by
   show cond (Zc (((ws.length:Nat):Int)<((ws.length:Nat):Int))) _ (C (Sum.inr g))=_
   rw[zA (by omega),zD]) b4) (by omega)
  exact⟨g5,gk (((((Reach.one a1).trans (Reach.one a2)).trans (Reach.one a3)).trans (Reach.one a4)).trans (Reach.one a5)) (by omega) rfl,b5⟩
 have hsl0:0<=c.sl:=by rw[nm.sl];have:=nm.R;split<;>omega
 obtain⟨g2,e2,ok2⟩:=lx (f:=pK c.mode c.X c.T c.R c.l c.Q c.k c.len c.words c.R c.l c.Q c.k (c.X.length:Int) c.T c.fixed c.tp c.sl c.ns r.L r.p r.q r.st r.sl r.sx r.kp r.ax r.th r.ls r.n0 r.n1 r.n2 r.n3 r.pk (0,c.P)) (a:=(0,g1)) (λa=> ∃(i:Nat) (g:Zd),a=((i:Int),g)/\i<=r.kp.length/\wn c.words.toNat g) (λa=>((r.kp.length:Int)-a.1).toNat) (wn c.words.toNat) ⟨0,g1,rfl,Nat.zero_le _,ok1⟩ (by simp only;omega) (λa ha=>by
  obtain⟨i,g,rfl,hi,hg⟩:=ha;by_cases hlt:i<r.kp.length
  .obtain⟨q1,q2,q3,q4,q5⟩:=hk i hlt;obtain⟨f1,f2,f3,f4,f5⟩:=rE h wT (t:=(i:Int)) q2 q3;obtain⟨g',e',ok'⟩:=cl9 h wT (i:=i) (t:=(mH c (i:Int) r.kp[i]).2.1++(mH c (i:Int) r.kp[i]).1) (by rw[List.length_append,f3,f4,q5]) (f2.app f1) q4 hsl0 (by omega) hg;refine .inl ⟨(((i+1:Nat):Int),g'), ?_,⟨i+1,g',rfl,hlt,ok'⟩,by simp only;omega⟩;unfold pK;simp only;rw[zB (by omega),zC,cz5 h wT hlt q1 q2 q3];simp only[zG];rw[e'];simp only[zG];rw[bq (by omega)];rfl
  .have:i=r.kp.length:=by omega
   subst this;refine .inr ⟨g, ?_,hg⟩;unfold pK;simp only
   rw[zA (by omega),zD])
 refine⟨g2, ?_,ok2⟩;unfold oe;refine bE (aU9 h e) ?_;rw[gdz ⟨by omega,by omega⟩];refine bE hws (bE i0 (bE (Cx.P_get (i:=0) (by omega)) (bE i1 (bE (Cx.P_get (i:=1) (by omega)) (bE i5 (bE (Cx.P_get (i:=5) (by omega)) (bE i6 (bE (Cx.P_get (i:=6) (by omega)) (bE i8 (bE (Cx.P_get (i:=8) (by omega)) (bE e1 (bE e2 rfl))))))))))))
end
end
section
section
variable {z0 z1 z2 z3 z4 z5 z6 z7 z8 z9 z10 z11 y12 y13 y14 y15:Int}
end
theorem cH3 {a0:Int}{a1 a2:Zd}{a3:Int}{a4:List cq}{a5:Int}{a6:List cq}{a7 a8:Int}(hl:OpsOk a4)(hk:OpsOk a6)(h:(jc a0 a1.length a2.length a3 a4 a5 a6 a7 a8).2.2.2.2≠0){W:Zd}{z0 z1 z2 z3 z4 z5 z6 z7 z8 z9 z10 z11 z12 z13 z14 z15:Int}:
  jp a0 a1 a2 a3 a4 a5 a6 a7 a8 W z0 z1 z2 z3 z4 z5 z6 z7 z8 z9 z10 z11 z12 z13 z14 z15=C (.inl (jc a0 a1.length a2.length a3 a4 a5 a6 a7 a8).2.2.2.2):=by
 unfold jp;rw[cM2 hl hk h];simp only[zG,de];rw[zB h,zC]
section
variable {c:Cx}
theorem cj0 :cg []:=λv hv=>by cases hv
theorem cO4 (h:c.Ok)(hm:c.mode≠3){W:Zd}(hW:Wd c W):c.off 8+(seg W (c.off 8) (c.ns.toNat*(c.X.length+1))).length<=c.off 9:=by
 have htk:=hW.tk h
 have hlen:c.off 8+c.ns.toNat*(c.X.length+1)<=c.off 9:=by
  rcases Nat.eq_zero_or_pos c.ns.toNat with h0|h0
  .rw[h0,Nat.zero_mul];have:=cx7 (c:=c) (show 8<=9 by omega);omega
  .have:=(wB h hm h0).2.1;omega
 rw[jK (by omega)];exact hlen
theorem bs2 (h:c.Ok)(wT:cg c.T)(hm:c.mode=3){i:Nat}(hi:i<=100){s:Dy}{r:RS}(b:Both1 c i s r)(x:Int×Int):
  ∃r' e,Both1 c (i+1) (bG8 c x s).2 r'/\(x.1=0->pL c.mode c.X c.T c.R c.l c.Q c.k c.len c.words c.R c.l c.Q c.k (c.X.length:Int) c.T c.fixed c.tp c.sl c.ns r.L r.p r.q r.st r.sl r.sx r.kp r.ax r.th r.ls r.n0 r.n1 r.n2 r.n3 r.pk=C (bt7 c r' e))/\(x.1≠0->oW c.mode c.X c.T c.R c.l c.Q c.k c.len c.words c.R c.l c.Q c.k (c.X.length:Int) c.T c.fixed c.tp c.sl c.ns r.L r.p r.q r.st r.sl r.sx r.kp r.ax r.th r.ls r.n0 r.n1 r.n2 r.n3 r.pk x.1 x.2=C (bt7 c r' e)):=by
 have hw:=b.w.act h hm x;have hL:=b.w.L h;by_cases hx:x.1=0
 .have ea:bG8 c x s=mg c s:=by unfold bG8;rw[zE hx]
  rw[ea]at hw⊢;exact⟨{r with L:=(mg c s).2.L},_,⟨hw,b.H.more,b.S.more hm,b.sx⟩,λ_=>bx6 b.H hL,λk=>(k hx).elim⟩
 .have ea:bG8 c x s=plF c x.1 x.2 s:=by unfold bG8;rw[zF hx]
  have hcb:Cnt (65536*(i:Int)) s:=b.w.cnt;rw[ea]at hw⊢;obtain⟨r',e1,e2,e3,e4⟩:=cp2 h wT hm b.w.inv b.H b.S b.sx hcb (by omega) x.1 x.2;have e5:oW c.mode c.X c.T c.R c.l c.Q c.k c.len c.words c.R c.l c.Q c.k (c.X.length:Int) c.T c.fixed c.tp c.sl c.ns r.L r.p r.q r.st r.sl r.sx r.kp r.ax r.th r.ls r.n0 r.n1 r.n2 r.n3 r.pk x.1 x.2=C (bt7 c r' (plF c x.1 x.2 s).1):=by unfold oW;rw[zB hm,zC,e1];rfl
  exact⟨r',_,⟨hw,e2,e3,e4⟩,λk=>(hx k).elim,λ_=>e5⟩
theorem cq9 (h:c.Ok)(wT:cg c.T)(hm:c.mode=3)(e:jc c.mode c.X.length c.T.length c.R c.l c.Q c.k c.len c.words=(c.fixed,c.tp,c.sl,c.ns,0)){i:Nat}{s:Dy}{r:RS}(b:Both1 c i s r): ∃g,oe c.mode c.X c.T c.R c.l c.Q c.k c.len c.words c.R c.l c.Q c.k (c.X.length:Int) c.T c.fixed c.tp c.sl c.ns r.L r.p r.q r.st r.sl r.sx r.kp r.ax r.th r.ls r.n0 r.n1 r.n2 r.n3 r.pk=C g/\wn c.words.toNat g:=by
 have hL:=b.w.L h;have nm:=h.num;have hns:=h.ns;have htk:=b.w.inv.w.tk h;have hWl:s.W.length=c.words.toNat:=b.w.inv.w;have hws:od r.sl r.sx=C []:=by rw[b.S.sl,b.sx];rfl
 have hkl:=b.S.len;have hh:=cl8 b.w.inv;have hns3:=(cb3 h hm b.w.inv).2.2.2.2.2.2;refine bf9 h wT e b.H.has hws cj0 ?_ (λi hi=> ?_) ?_
 .have:=cx7 (c:=c) (show 8<=9 by omega);simp only[List.length_nil];omega
 .skip
  obtain⟨k1,k2,k3⟩:=b.S.kept i hi;obtain⟨s1,s2,s3,s4⟩:=aA6 h hm (i:=i) (by omega);unfold po at s3;exact⟨by omega,k1,k2,by omega,s1⟩
 .omega
theorem cY4 (h:c.Ok)(hm:c.mode=3){i:Nat}{s:Dy}{r:RS}(b:Both1 c i s r): ∃z0 z1 z2 z3 z4 z5 z6 z7 z8 z9 z10,lO c.mode c.X c.T c.R c.l c.Q c.k c.len c.words c.R c.l c.Q c.k (c.X.length:Int) c.T c.fixed c.tp c.sl c.ns r.L r.p r.q r.st r.sl r.sx r.kp r.ax r.th r.ls r.n0 r.n1 r.n2 r.n3 r.pk=C (z0,z1,z2,z3,z4,z5,z6,z7,z8,z9,z10,r.ls)/\(du z0/\du z1/\du z2/\du z3/\du z4/\du z5/\du z6/\du z7/\du z8/\du z9/\du z10):=by
 have hlv:=aZ5 h hm b.w.inv b.S;unfold lO;rw[hlv];exact⟨_,_,_,_,_,_,_,_,_,_,_,rfl,qM _,qM _,qM _,qM _,qM _,qM _,qM _,qM _,qM _,qM _,qM _⟩
theorem bs3 (h:c.Ok)(wT:cg c.T)(hm:c.mode≠3){i:Nat}(hi:i<=100){s:Dy}{r:RS}(b:Both2 c i s r)(x:Int×Int):
  ∃r' e,Both2 c (i+1) (bG9 c x s).2 r'/\(x.1=0->pL c.mode c.X c.T c.R c.l c.Q c.k c.len c.words c.R c.l c.Q c.k (c.X.length:Int) c.T c.fixed c.tp c.sl c.ns r.L r.p r.q r.st r.sl r.sx r.kp r.ax r.th r.ls r.n0 r.n1 r.n2 r.n3 r.pk=C (bt7 c r' e))/\(x.1≠0->oW c.mode c.X c.T c.R c.l c.Q c.k c.len c.words c.R c.l c.Q c.k (c.X.length:Int) c.T c.fixed c.tp c.sl c.ns r.L r.p r.q r.st r.sl r.sx r.kp r.ax r.th r.ls r.n0 r.n1 r.n2 r.n3 r.pk x.1 x.2=C (bt7 c r' e)):=by
 have hw:=b.w.act h hm x;have hL:=b.w.inv.L;by_cases hx:x.1=0
 .have ea:bG9 c x s=mg c s:=by unfold bG9;rw[zE hx]
  rw[ea]at hw⊢;exact⟨{r with L:=(mg c s).2.L},_,⟨hw,b.H.more,b.S.more⟩,λ_=>bx6 b.H hL,λk=>(k hx).elim⟩
 .have ea:bG9 c x s=doF c x.1 x.2 s:=by unfold bG9;rw[zF hx]
  have hcb:Cnt (65536*(i:Int)) s:=b.w.cnt;rw[ea]at hw⊢;obtain⟨r',e1,e2,e3⟩:=cM5 h wT hm b.w.inv b.H b.S hcb (by omega) x.1 x.2;have e5:=e1;exact⟨r',_,⟨hw,e2,e3⟩,λk=>(hx k).elim,λ_=>e5⟩
theorem cr0 (h:c.Ok)(wT:cg c.T)(hm:c.mode≠3)(e:jc c.mode c.X.length c.T.length c.R c.l c.Q c.k c.len c.words=(c.fixed,c.tp,c.sl,c.ns,0)){i:Nat}{s:Dy}{r:RS}(b:Both2 c i s r): ∃g,oe c.mode c.X c.T c.R c.l c.Q c.k c.len c.words c.R c.l c.Q c.k (c.X.length:Int) c.T c.fixed c.tp c.sl c.ns r.L r.p r.q r.st r.sl r.sx r.kp r.ax r.th r.ls r.n0 r.n1 r.n2 r.n3 r.pk=C g/\wn c.words.toNat g:=by
 have hL:=b.w.inv.L;have nm:=h.num;have hns:=h.ns;have htk:=b.w.inv.w.tk h;have hWl:s.W.length=c.words.toNat:=b.w.inv.w;have hws:=cp0 h hm b.w.inv.w b.H.has.w b.S (λk hk=>by have:=b.w.inv.tag k hk;omega);refine bf9 h wT e b.H.has hws (b.H.has.w.seg _ _) ?_ (λi hi=> ?_) ?_
 .exact cO4 h hm b.w.inv.w
 .rw[b.S.kp]at hi;cases hi
 .rw[b.S.kp];simp
theorem cY5 (h:c.Ok)(hm:c.mode≠3){i:Nat}{s:Dy}{r:RS}(b:Both2 c i s r): ∃z0 z1 z2 z3 z4 z5 z6 z7 z8 z9 z10,lO c.mode c.X c.T c.R c.l c.Q c.k c.len c.words c.R c.l c.Q c.k (c.X.length:Int) c.T c.fixed c.tp c.sl c.ns r.L r.p r.q r.st r.sl r.sx r.kp r.ax r.th r.ls r.n0 r.n1 r.n2 r.n3 r.pk=C (z0,z1,z2,z3,z4,z5,z6,z7,z8,z9,z10,r.ls)/\(du z0/\du z1/\du z2/\du z3/\du z4/\du z5/\du z6/\du z7/\du z8/\du z9/\du z10):=by
 have hlv:=aM0 h b.w.inv b.S;unfold lO;rw[hlv];exact⟨_,_,_,_,_,_,_,_,_,_,_,rfl,qM _,qM _,qM _,qM _,qM _,qM _,qM _,qM _,qM _,qM _,qM _⟩
end
end
section
section
variable {c:Cx}
end
section
variable {a0:Int} {a1 a2:Zd} {a3:Int} {a4:List cq} {a5:Int} {a6:List cq} {a7 a8:Int}
end
end
section
open List renaming append_assoc -> aB, getD_eq_getElem?_getD -> aD, getElem?_append_right -> bB
def cd9 (s x:Int):Int:=(3*s+x) % 18446744073709551616
def S36 (l:Zd):Int:=l.foldl cd9 1
theorem cp8 (a b:Int):xL [a,b]=C (a*b % 18446744073709551616):=by
 unfold xL;rw[aZ8 (l:=[a,b]) (λs x=>s*x % 18446744073709551616) 1 (c:=id) (by simp) ?_ ?_]
 .simp only[zG,List.foldl,id];rw[Int.one_mul,Int.mul_emod,Int.emod_emod_of_dvd _ (Int.dvd_refl _),<-Int.mul_emod]
 .intro i hi s;simp only[aa1,bv];rw[zE (by omega),ci hi];simp only[zG];rw[bq (by simp at hi;omega),bN8];rfl
 .intro s;simp only[aa1,bv];rw[zF (by omega)];rfl
theorem cp7 (a b:Int):xK [a,b]=C ((a+b) % 18446744073709551616):=by
 unfold xK;rw[aZ8 (l:=[a,b]) (λs x=>(s+x) % 18446744073709551616) 0 (c:=id) (by simp) ?_ ?_]
 .simp only[zG,List.foldl,id]
  congr 1
  omega
 .intro i hi s;simp only[aa0,bv];rw[zE (by omega),ci hi];simp only[zG];rw[bq (by simp at hi;omega),bN8];rfl
 .intro s;simp only[aa0,bv];rw[zF (by omega)];rfl
theorem cG0 (s x:Int):(s*3 % 18446744073709551616+x) % 18446744073709551616=cd9 s x:=by
 unfold cd9;omega
theorem cw2 (l:Zd)(hl:l.length<9223372036854775807):wF l=C (S36 l):=by
 unfold wF;rw[aZ8 (l:=l) cd9 1 (c:=id) hl ?_ ?_]
 .rfl
 .intro i hi s;simp only[vF,bv];rw[zE (by omega),ci hi];simp only[zG,cp8,cp7,cG0];rw[bq (by omega)];rfl
 .intro s;simp only[vF,bv];rw[zF (by omega)];rfl
def W36 (h:Zd)(l:Zd):Zd:=h++(l.length:Int)::l++[S36 (h++(l.length:Int)::l)]
theorem al9 (l:Zd)(a1 a2 a3 a4 a5 a6 a7 a8 a9 a10 a11 a12 a13 a14 a15 a16:Int)(hl:l.length<=1048576):mM l a1 a2 a3 a4 a5 a6 a7 a8 a9 a10 a11 a12 a13 a14 a15 a16=
  C (W36 [a1,a2,a3,a4,a5,a6,a7,a8,a9,a10,a11,a12,a13,a14,a15,a16] l):=by
 unfold mM W36;rw[bq (show-9223372036854775808<=(16+(((l.length:Nat)):Int))/\(16+(((l.length:Nat)):Int))<=9223372036854775807 by omega),bq (by omega),bc2 (by omega)];have hb:ae3 (List.replicate 16 (0:Int)) 0 (List.length (List.replicate 16 (0:Int))) [a1,a2,a3,a4,a5,a6,a7,a8,a9,a10,a11,a12,a13,a14,a15,a16]=[a1,a2,a3,a4,a5,a6,a7,a8,a9,a10,a11,a12,a13,a14,a15,a16]:=rfl;rw[hb];have e1:Zc (16<=16+(l.length:Int)+2)=Za:=zB (by omega);have e2:Zc ((8:Int)*(16+(l.length:Int)+2)<=140737488355328)=Za:=zB (by omega);rw[e1,e2];show gd Za _=_;rw[fq,dh (by simp) (by omega),dh (by simp;omega) (by omega),cw2 _ (by simp;omega)];simp only[zG];rw[dh (by simp;omega) (by omega)];simp only[aB,List.singleton_append]
def cC1 (e:Int):Int×Int×Int×Int×Int×Int×Int×Int×Int×Int×Int×Int×Int×Int×Int×Int×Int×Zd:=(0,0,0,0,0,0,0,0,0,0,0,0,0,0,0,0,e,[])
def ba5 (w:Zd):Int×Int×Int×Int×Int×Int×Int×Int×Int×Int×Int×Int×Int×Int×Int×Int×Int×Zd:=
 if w.length<18 then cC1 4 else if(w.length:Int)-18<w.getD 16 0 then cC1 4 else if w.getD 16 0<(w.length:Int)-18 then cC1 21
 else if w.getD (w.length-1) 0≠S36 (w.take (w.length-1))then cC1 3 else(w.getD 0 0,w.getD 1 0,w.getD 2 0,w.getD 3 0,w.getD 4 0,w.getD 5 0,w.getD 6 0,w.getD 7 0,w.getD 8 0,w.getD 9 0,w.getD 10 0,w.getD 11 0,w.getD 12 0,w.getD 13 0,w.getD 14 0,w.getD 15 0,0,(w.take (w.length-1)).drop 17)
theorem zN (w:Zd)(hl:w.length<=2000000):ib w=C (ba5 w):=by
 unfold ib ba5;rw[bc2 (show w.length<9223372036854775808 by omega)];simp only[bv];by_cases c1:w.length<18
 .rw[zE (by omega),zE c1];rfl
 rw[zF (by omega),zF c1,nZ (by omega),bq (show-9223372036854775808<=(w.length:Int)-1/\(w.length:Int)-1<=9223372036854775807 by omega)];rw[show rd w 16=C (w.getD 16 0)from aU7 (i:=16) (by omega)];simp only[zG,bv];by_cases c2:(w.length:Int)-18<w.getD 16 0
 .rw[zE c2,zE c2];rfl
 rw[zF c2,zF c2];by_cases c3:w.getD 16 0<(w.length:Int)-18
 .rw[zE c3,zE c3];rfl
 rw[zF c3,zF c3]
 have hloop:ca (pt w) dq (0,1)=C (S36 (w.take (w.length-1))):=by
  refine ff (n:=w.length-1) (λi=>(w.take i).foldl cd9 1) (by omega) ?_ ?_
  .intro i hi;have hlt:i<w.length:=by omega
   simp only[pt,bv];rw[zE (by omega),ci hlt,bq (show-9223372036854775808<=(w.length:Int)-1/\(w.length:Int)-1<=9223372036854775807 by omega)];simp only[zG,cp8,cp7,cG0];rw[zF (by omega),bq (by omega),List.take_succ_eq_append_getElem hlt,List.foldl_append];rfl
  .simp only[pt,bv];rw[zE (by omega),ci (by omega),bq (show-9223372036854775808<=(w.length:Int)-1/\(w.length:Int)-1<=9223372036854775807 by omega)];simp only[zG];rw[zE (by omega)];rfl
 rw[hloop,show rd w ((w.length:Int)-1)=C (w.getD (w.length-1) 0)from by rw[<-aU7 (by omega)];congr 1;omega];simp only[zG,bv];by_cases c4:w.getD (w.length-1) 0≠S36 (w.take (w.length-1))
 .rw[zE c4,zE c4];rfl
 rw[zF c4,zF c4];unfold lq cd ae4;rw[zB (show(0:Int)<=17 by omega),zB (show(17:Int)<=(w.length:Int)-1 by omega),zB (show(w.length:Int)-1<=(w.length:Int)by omega)];show gd Za _=_;rw[fq,dh (by simp;omega) (by omega)];simp only[zG];rw[show((w.length:Int)-1).toNat=w.length-1 by omega];rfl
theorem aC0 {h l:Zd}(hh:h.length=16):(W36 h l).length=l.length+18:=by
 simp[W36,hh];omega
theorem cP4 {h l:Zd}(hh:h.length=16):(W36 h l).take (l.length+17)=h++(l.length:Int)::l:=by
 unfold W36;rw[List.take_append_of_le_length (by simp[hh];omega),List.take_of_length_le (by simp[hh];omega)]
theorem cP3 {h l:Zd}(hh:h.length=16):(W36 h l).getD (l.length+17) 0=S36 (h++(l.length:Int)::l):=by
 unfold W36;rw[aD,bB (by simp[hh];omega)];simp[hh];rw[show l.length+17-(16+(l.length+1))=0 by omega];rfl
theorem dq1 {h l:Zd}(hh:h.length=16):(W36 h l).getD 16 0=l.length:=by
 unfold W36;rw[aD,aB,bB (by simp[hh])];simp[hh]
theorem bw7 (l:Zd)(a1 a2 a3 a4 a5 a6 a7 a8 a9 a10 a11 a12 a13 a14 a15 a16:Int):ba5 (W36 [a1,a2,a3,a4,a5,a6,a7,a8,a9,a10,a11,a12,a13,a14,a15,a16] l)=(a1,a2,a3,a4,a5,a6,a7,a8,a9,a10,a11,a12,a13,a14,a15,a16,0,l):=by
 have hh:[a1,a2,a3,a4,a5,a6,a7,a8,a9,a10,a11,a12,a13,a14,a15,a16].length=16:=rfl;unfold ba5;rw[aC0 hh,dq1 hh,zF (by omega),zF (by omega),zF (by omega),show l.length+18-1=l.length+17 by omega,cP3 hh,cP4 hh,zF (by simp)];have hd:([a1,a2,a3,a4,a5,a6,a7,a8,a9,a10,a11,a12,a13,a14,a15,a16]++(l.length:Int)::l).drop 17=l:=rfl;rw[hd];rfl
theorem bY1 {a0:Int}{a1 a2:Zd}{a3:Int}{a4:List cq}{a5:Int}{a6:List cq}{a7 a8:Int}{l:Zd}{z0 z1 z2 z3 z4 z5 z6 z7 z8 z9 z10 z11 z12 z13 z14 z15:Int}(hl:l.length<=1048576):
  ut a0 a1 a2 a3 a4 a5 a6 a7 a8 (W36 [z0,z1,z2,z3,z4,z5,z6,z7,z8,z9,z10,z11,z12,z13,z14,z15] l)=jp a0 a1 a2 a3 a4 a5 a6 a7 a8 l z0 z1 z2 z3 z4 z5 z6 z7 z8 z9 z10 z11 z12 z13 z14 z15:=by
 unfold ut;rw[zN _ (by rw[aC0 rfl];omega),bw7];simp only[zG];rw[zA (by simp),zD];cases jp a0 a1 a2 a3 a4 a5 a6 a7 a8 l z0 z1 z2 z3 z4 z5 z6 z7 z8 z9 z10 z11 z12 z13 z14 z15 with
 |none=>rfl
 |some x=>
  cases x with
  |inl u=>rfl
  |inr w=>cases w with
   |inl u=>rfl
   |inr v=>rfl
section
variable {c:Cx}
end
end
section
section
variable {c:Cx} {o0:Int} {o1 o2:Zd} {o3:Int} {o4:List cq} {o5:Int} {o6:List cq} {o7 o8:Int}
end
end
section
section
variable {c:Cx}
end
section
variable {a0:Int} {a1 a2:Zd} {a3:Int} {a4:List cq} {a5:Int} {a6:List cq} {a7 a8 a9:Int} {a10 a11:Zd} {a12:Int} {a13:List cq} {a14:Int} {a15:List cq} {a16 a17:Int}
end
end
section
open Go.IntKind renaming wrap -> zH, i64 -> zI, u64 -> zJ
open Int renaming tdiv -> aB, eq_ofNat_of_zero_le -> aD
open Nat renaming div_le_self -> bB, le_div_iff_mul_le -> bD
theorem cB2 {n:Nat}(h:n<=9223372036854775807):zH zI (n:Int)=(n:Int):=bq (by omega)
theorem cT0 {x:Nat}:wG (x:Int)=C ((min x 1099511627776:Nat):Int):=by
 unfold wG;rw[zA (by omega),zD];by_cases h:1099511627776<x
 .rw[zB (by omega),zC,Nat.min_eq_right (by omega)];rfl
 .rw[zA (by omega),zD,Nat.min_eq_left (by omega)]
theorem ck4 {n k:Nat}(hk:k<=n)(hn:n<=2097152): ∃c,ca (oF (n:Int) (k:Int)) dq (1,1)=C c/\(c= .inl ()∨∃v:Nat,c= .inr (v:Int)/\v<=1099511627776/\(1<=k->n-k+1<=v)/\1<=v):=by
 refine lx (λs=> ∃i c:Nat,s=((i:Int),(c:Int))/\1<=i/\i<=k+1/\1<=c/\c<=1099511627776/\(2<=i->n-k+1<=c)) (λs=>k+1-s.1.toNat) _ ⟨1,1,rfl,by omega,by omega,by omega,by omega,by omega⟩ (by simp;omega) ?_;rintro s ⟨i,c,rfl,h1,h2,h3,h4,h5⟩;unfold oF;simp only;by_cases hi:i<=k
 .rw[zB (show(i:Int)<=(k:Int)by omega),zC,zB (show(i:Int)≠0 by omega),zB (show(c:Int)≠0 by omega)];show(∃b,gd Za (gd Za _)=_/\_)∨∃b,gd Za (gd Za _)=_/\_
  rw[fq,fq]
  have e1:zH zI (zH zI ((n:Int)-(k:Int))+(i:Int))=((n-k+i:Nat):Int):=by
   rw[bq (show-9223372036854775808<=(n:Int)-(k:Int)/\(n:Int)-(k:Int)<=9223372036854775807 by omega),bq (by omega)];omega
  rw[e1];generalize hm:n-k+i=m at*;have hmi:i<=m:=by omega
  have d1:1<=m / i:=(bD (by omega)).2 (by omega);have d2:m / i<=m:=bB _ _;have d3:1099511627776 / c<=1099511627776:=bB _ _
  have e2:zH zI (aB (m:Int) (i:Int))=((m / i:Nat):Int):=by
   rw[show aB (m:Int) (i:Int)=((m / i:Nat):Int)from rfl,cB2 (by omega)]
  have e3:zH zI (aB 1099511627776 (c:Int))=((1099511627776 / c:Nat):Int):=by
   rw[show aB 1099511627776 (c:Int)=((1099511627776 / c:Nat):Int)from rfl,cB2 (by omega)]
  rw[e2,e3];by_cases hw:1099511627776 / c<m / i
  .rw[zB (show((1099511627776 / c:Nat):Int)<((m / i:Nat):Int)by omega),zC];exact .inr ⟨_,rfl, .inl rfl⟩
  .rw[zA (show¬((1099511627776 / c:Nat):Int)<((m / i:Nat):Int)by omega),zD,fq,fq];have p1:m / i*c<=1099511627776:=(bD (by omega)).1 (by omega);rw[Nat.mul_comm]at p1;have p0:c<=c*(m / i):=Nat.le_mul_of_pos_right c d1;have r1:m % i<i:=Nat.mod_lt _ (by omega);have p2:c*(m % i)<=1099511627776*2097152:=Nat.mul_le_mul h4 (by omega)
   have e4:zH zI ((c:Int)*((m / i:Nat):Int))=((c*(m / i):Nat):Int):=by
    rw[<-Int.natCast_mul,cB2 (by omega)]
   have e5:zH zI ((c:Int)*(Int.tmod (m:Int) (i:Int)))=((c*(m % i):Nat):Int):=by
    rw[show Int.tmod (m:Int) (i:Int)=((m % i:Nat):Int)from rfl,<-Int.natCast_mul,cB2 (by omega)]
   have q1:c*(m % i) / i<=c*(m % i):=bB _ _
   have e6:zH zI (aB ((c*(m % i):Nat):Int) (i:Int))=((c*(m % i) / i:Nat):Int):=by
    rw[show aB ((c*(m % i):Nat):Int) (i:Int)=((c*(m % i) / i:Nat):Int)from rfl,cB2 (by omega)]
   rw[e4,e5,e6]
   have e7:zH zI (((c*(m / i):Nat):Int)+((c*(m % i) / i:Nat):Int))=((c*(m / i)+c*(m % i) / i:Nat):Int):=by
    rw[<-Int.natCast_add,cB2 (by omega)]
   rw[e7,cT0];simp only[zG]
   have hge:2<=i+1->n-k+1<=c*(m / i):=λ_=>by
    by_cases h1i:i=1
    .subst h1i;rw[Nat.div_one];exact Nat.le_trans (show n-k+1<=m by omega) (Nat.le_mul_of_pos_left m (by omega))
    .exact Nat.le_trans (h5 (by omega)) p0
   generalize c*(m / i)=u at*;generalize c*(m % i) / i=v at*;by_cases hM:min (u+v) 1099511627776=1099511627776
   .rw[zB (by omega),zC];exact .inr ⟨_,rfl, .inl rfl⟩
   .rw[zA (by omega),zD];refine .inl ⟨_,rfl,⟨i+1,min (u+v) 1099511627776, ?_,by omega,by omega,by omega,by omega,by omega⟩, ?_⟩
    .rw[bq (by omega)];rfl
    .rw[bq (by omega)];show k+1-((i:Int)+1).toNat<k+1-(i:Int).toNat;omega
 .rw[zA (show¬(i:Int)<=(k:Int)by omega),zD];exact .inr ⟨_,rfl, .inr ⟨c,rfl,h4,λhk1=>h5 (by omega),h3⟩⟩
theorem bs9 {n k:Nat}(hk:k<=n)(hn:n<=2097152): ∃v:Nat,i4 (n:Int) (k:Int)=C (v:Int)/\v<=1099511627776/\(1<=k->k+1<=n->(max k (n-k))+1<=v)/\1<=v:=by
 unfold i4;rw[zA (by omega),zD,zA (by omega),zD,zA (by omega),zD,bq (show-9223372036854775808<=(n:Int)-(k:Int)/\(n:Int)-(k:Int)<=9223372036854775807 by omega)]
 have fin: ∀k':Nat,k'<=n->(1<=k->k+1<=n->1<=k'/\(max k (n-k))+1<=n-k'+1)->∃v:Nat,((ca (oF (n:Int) (k':Int)) dq (1,1)).bind λr7=>ck r7 (λu'8=>C 1099511627776) (λw9=>C w9))=C (v:Int)/\v<=1099511627776/\(1<=k->k+1<=n->(max k (n-k))+1<=v)/\1<=v:=by
  intro k' h1 h2;obtain⟨c,e,h⟩:=ck4 h1 hn;rw[e];rcases h with rfl|⟨v,rfl,h3,h4,h5⟩
  .exact⟨1099511627776,rfl,by omega,λ_ _=>by omega,by omega⟩
  .exact⟨v,rfl,h3,λa b=>by have:=h2 a b;have:=h4 this.1;omega,h5⟩
 by_cases h:(n:Int)-(k:Int)<(k:Int)
 .rw[zB h,zC];simp only[zG];rw[show(n:Int)-(k:Int)=((n-k:Nat):Int)by omega];exact fin (n-k) (by omega) λa b=>by omega
 .rw[zA h,zD];simp only[zG];exact fin k hk λa b=>by omega
theorem bt0 {a b:Int}(h:a<=2097152): ∃v,i4 a b=C v:=by
 by_cases h1:a<0
 .exact⟨0,by unfold i4;rw[zB h1];rfl⟩
 by_cases h2:b<0
 .exact⟨0,by unfold i4;rw[zA h1,zB h2];rfl⟩
 by_cases h3:a<b
 .exact⟨0,by unfold i4;rw[zA h1,zA h2,zB h3];rfl⟩
 obtain⟨n,rfl⟩:=aD (show 0<=a by omega);obtain⟨k,rfl⟩:=aD (show 0<=b by omega);obtain⟨v,e,_⟩:=bs9 (n:=n) (k:=k) (by omega) (by omega);exact⟨_,e⟩
theorem cw7 {r s:Nat}(hs:2<=s/\s<=1048576)(hr:r<=65536): ∃v:Nat,qW (r:Int) (s:Int)=C ((v:Int),0)/\r+1<=v:=by
 unfold qW;rw[zA (by omega),zD,zA (by omega),zD,zA (by omega),zD,zA (by omega),zD,bq (by omega),show(s:Int)+(r:Int)=((s+r:Nat):Int)by omega];obtain⟨v,e,_,h1,h2⟩:=bs9 (n:=s+r) (k:=r) (by omega) (by omega);rw[e];refine⟨v,rfl, ?_⟩;by_cases h0:r=0
 .omega
 .have:=h1 (by omega) (by omega);omega
theorem cX7 (l s:Int): ∃r e,wR l s=C (r,e)/\(e=0->0<=l/\l<65536/\1<=s/\s<=1048576/\0<=r/\r<=l):=by
 unfold wR;by_cases h1:l<0
 .exact⟨0,2,by rw[zB h1];rfl,λh=>by cases h⟩
 rw[zA h1,zD];by_cases h2:65536<=l
 .exact⟨0,2,by rw[zB h2];rfl,λh=>by cases h⟩
 rw[zA h2,zD];by_cases h3:s<1
 .exact⟨0,2,by rw[zB h3];rfl,λh=>by cases h⟩
 rw[zA h3,zD];by_cases h4:1048576<s
 .exact⟨0,2,by rw[zB h4];rfl,λh=>by cases h⟩
 rw[zA h4,zD];by_cases h5:s=1
 .rw[zB h5,zC,bq (by omega)];exact⟨_,_,rfl,λ_=>by omega⟩
 rw[zA h5,zD];obtain⟨s,rfl⟩:=aD (show 0<=s by omega)
 obtain⟨c,e,hc⟩:=lx (f:=vH l (s:Int)) (a:=0) (λr=>0<=r/\r<=l) (λr=>(l-r).toNat) (λc=>0<=c/\c<=l) ⟨by omega,by omega⟩ (by omega) (λr hr=>by
  obtain⟨r,rfl⟩:=aD hr.1;unfold vH;obtain⟨v,e,hv⟩:=cw7 (r:=r) (s:=s) ⟨by omega,by omega⟩ (by omega);rw[e];simp only[zG];by_cases hl:l<=(v:Int)
  .rw[zB hl,zC];exact .inr ⟨_,rfl,hr⟩
  .rw[zA hl,zD,bq (by omega)]
   exact .inl ⟨_,rfl,⟨by omega,by omega⟩,by omega⟩)
 rw[e];exact⟨_,_,rfl,λ_=>by omega⟩
theorem cN1 (n c:Int): ∃x,ux n c=C x:=by
 unfold ux;by_cases h1:n<2
 .exact⟨_,by rw[zB h1];rfl⟩
 rw[zA h1,zD];obtain⟨r,e,h,he⟩:=cX7 n c;rw[h];simp only[zG];by_cases h0:e≠0
 .rw[zB h0];exact⟨_,rfl⟩
 rw[zA h0,zD];have he:=he (Classical.not_not.1 h0);rw[bq (show-9223372036854775808<=c+r/\c+r<=9223372036854775807 by omega),bq (show-9223372036854775808<=c+r-2/\c+r-2<=9223372036854775807 by omega),bq (show-9223372036854775808<=c+r-1/\c+r-1<=9223372036854775807 by omega)];obtain⟨u,hu⟩:=bt0 (a:=c+r-2) (b:=c) (by omega);obtain⟨v,hv⟩:=bt0 (a:=c+r-1) (b:=zH zI (c-1)) (by omega);rw[hu,hv];exact⟨_,rfl⟩
end
section
open Int renaming eq_ofNat_of_zero_le -> aB, toNat_natCast -> aD
theorem up1 {i:Nat}(h:i<=4000000):IntKind.i64.wrap ((i:Int)+1)=((i+1:Nat):Int):=by rw[bq (by omega)];omega
theorem aT6 {δ:Type}{f:Int->Option (Int⊕δ)}(n:Nat)(hn:n<=4000000)(hs: ∀i:Nat,i<n->f (i:Int)=C (.inl ((i+1:Nat):Int))∨∃c,f (i:Int)=C (.inr c))(he: ∃c,f (n:Int)=C (.inr c)): ∃c,ca f dq 0=C c:=by
 obtain⟨c,e,_⟩:=lx (f:=f) (a:=0) (λs=> ∃i:Nat,s=(i:Int)/\i<=n) (λs=>n-s.toNat) (λ_=>True) ⟨0,rfl,by omega⟩ (by omega) (by
  rintro s ⟨i,rfl,hi⟩;by_cases h:i<n
  .rcases hs i h with h1|⟨c,h1⟩
   .exact .inl ⟨_,h1,⟨i+1,rfl,by omega⟩,by simp only[aD];omega⟩
   .exact .inr ⟨c,h1,trivial⟩
  .rw[show i=n by omega];obtain⟨c,h1⟩:=he
   exact .inr ⟨c,h1,trivial⟩)
 exact⟨c,e⟩
theorem aD6 {γ δ:Type}{f:(Int×γ)->Option ((Int×γ)⊕δ)}(n:Nat)(hn:n<=4000000)(x:γ)(I:Nat->γ->Prop)(h0:I 0 x)(hs: ∀(i:Nat) y,i<n->I i y->(∃y',f ((i:Int),y)=C (.inl (((i+1:Nat):Int),y'))/\I (i+1) y')∨∃c,f ((i:Int),y)=C (.inr c))(he: ∀y,I n y->∃c,f ((n:Int),y)=C (.inr c)): ∃c,ca f dq (0,x)=C c:=by
 obtain⟨c,e,_⟩:=lx (f:=f) (a:=(0,x)) (λs=> ∃(i:Nat) (y:γ),s=((i:Int),y)/\i<=n/\I i y) (λs=>n-s.1.toNat) (λ_=>True) ⟨0,x,rfl,by omega,h0⟩ (by simp only[Int.toNat_zero];omega) (by
  rintro s ⟨i,y,rfl,hi,hI⟩;by_cases h:i<n
  .rcases hs i y h hI with⟨y',h1,h2⟩|⟨c,h1⟩
   .exact .inl ⟨_,h1,⟨i+1,y',rfl,by omega,h2⟩,by simp only[aD];omega⟩
   .exact .inr ⟨c,h1,trivial⟩
  .have hin:i=n:=by omega
   subst hin;obtain⟨c,h1⟩:=he y hI
   exact .inr ⟨c,h1,trivial⟩)
 exact⟨c,e⟩
theorem cO6 (a0 a1 a2:Int)(l:Zd): ∃q,oV a0 a1 a2 l=C q/\(q.2.2.2.1=0->0<=a0/\a0<65536/\l.length<=1048576):=by
 unfold oV;by_cases h1:a0<0
 .exact⟨_,by rw[zB h1];rfl,λh=>by cases h⟩
 rw[zA h1,zD];by_cases h2:65536<=a0
 .exact⟨_,by rw[zB h2];rfl,λh=>by cases h⟩
 rw[zA h2,zD];by_cases h3:1048576<((l.length:Nat):Int)
 .exact⟨_,by rw[zB h3];rfl,λh=>by cases h⟩
 rw[zA h3,zD];by_cases h4:a1<0
 .exact⟨_,by rw[zB h4];rfl,λh=>by cases h⟩
 rw[zA h4,zD];by_cases h5:a0<a1
 .exact⟨_,by rw[zB h5];rfl,λh=>by cases h⟩
 rw[zA h5,zD];by_cases h6:a2< -1
 .exact⟨_,by rw[zB h6];rfl,λh=>by cases h⟩
 rw[zA h6,zD];by_cases h7:a0<a2
 .exact⟨_,by rw[zB h7];rfl,λh=>by cases h⟩
 rw[zA h7,zD]
 obtain⟨c,hc⟩:=aT6 (f:=mv a0 l) l.length (by omega) (λi hi=>by
  unfold mv;rw[zB (by omega),zC,ci hi];simp only[zG];by_cases c1:l[i]< -1
  .rw[zB c1];exact .inr ⟨_,rfl⟩
  rw[zA c1,zD];by_cases c2:a0<l[i]
  .rw[zB c2];exact .inr ⟨_,rfl⟩
  rw[zA c2,zD,up1 (by omega)]
  exact .inl rfl) (by
  unfold mv;rw[zA (by omega)]
  exact⟨_,rfl⟩)
 rw[hc];simp only[zG]
 have hsp: ∃x,lW a1 a2 l=C x:=by
  unfold lW
  obtain⟨c,hc⟩:=aD6 (f:=kr l) l.length (by omega) (a1,a2,[]) (λi y=>y.2.2.length=i) rfl (λi y hi hy=>by
   unfold kr;simp only;rw[zB (by omega),zC,ci hi];simp only[zG];rw[dh (by omega) (by decide),up1 (by omega)]
   exact .inl ⟨_,rfl,by simp;omega⟩) (λy hy=>by
   unfold kr;simp only;rw[zA (by omega)]
   exact⟨_,rfl⟩)
  rw[hc];exact⟨_,rfl⟩
 obtain⟨x,hx⟩:=hsp;cases c with
 |inl u=>exact⟨_,rfl,λh=>by cases h⟩
 |inr u=>
  show∃q,((lW a1 a2 l).bind λr11=>C (a0,r11.1,r11.2.1,(0:Int),r11.2.2))=C q/\_
  rw[hx];exact⟨_,rfl,λ_=>⟨by omega,by omega,by omega⟩⟩
theorem aN3 (a b:Int)(l:Zd)(t:Int)(hl:l.length<=1048576): ∃x,pG a b l t=C x:=by
 unfold pG
 obtain⟨c,hc⟩:=aT6 (f:=qX l t) l.length (by omega) (λi hi=>by
  unfold qX;rw[zB (by omega),zC,ci hi];simp only[zG];by_cases c1:l[i]=t
  .rw[zB c1];exact .inr ⟨_,rfl⟩
  rw[zA c1,zD,up1 (by omega)]
  exact .inl rfl) (by
  unfold qX;rw[zA (by omega)]
  exact⟨_,rfl⟩)
 rw[hc];cases c with
 |inl u=>exact⟨_,rfl⟩
 |inr u=>exact⟨_,rfl⟩
theorem uo (l:Zd)(t:Int)(hl:l.length<=1048576): ∃x,jV l t=C x:=by
 unfold jV
 obtain⟨c,hc⟩:=aT6 (f:=qZ l t) l.length (by omega) (λi hi=>by
  unfold qZ;rw[zB (by omega),zC,ci hi];simp only[zG];by_cases c1:l[i]=t
  .rw[zB c1];exact .inr ⟨_,rfl⟩
  rw[zA c1,zD,up1 (by omega)]
  exact .inl rfl) (by
  unfold qZ;rw[zA (by omega)]
  exact⟨_,rfl⟩)
 rw[hc];cases c with
 |inl u=>exact⟨_,rfl⟩
 |inr u=>exact⟨_,rfl⟩
theorem bJ6 (a b:Int)(l:Zd)(hl:l.length<=1048576): ∃x,qw a b l=C x:=by
 unfold qw
 obtain⟨c,hc⟩:=aD6 (f:=pF l) l.length (by omega) 0 (λ_ _=>True) trivial (λi y hi _=>by
  unfold pF;simp only;rw[zB (by omega),zC,ci hi];simp only[zG];rw[up1 (by omega)];by_cases c1:l[i]<0
  .rw[zB c1];exact .inl ⟨_,rfl,trivial⟩
  .rw[zA c1];exact .inl ⟨_,rfl,trivial⟩) (λy _=>by
  unfold pF;simp only;rw[zA (by omega)]
  exact⟨_,rfl⟩)
 rw[hc];exact⟨_,rfl⟩
theorem cN7 (l:Zd)(hl:l.length<=1048576): ∃x,ca (nT l) dq (0,-1)=C x:=
 aD6 (f:=nT l) l.length (by omega) (-1) (λ_ _=>True) trivial (λi y hi _=>by
  unfold nT;simp only;rw[zB (by omega),zC,ci hi];simp only[zG];rw[up1 (by omega)]
  exact .inl ⟨_,rfl,trivial⟩) (λy _=>by
  unfold nT;simp only;rw[zA (by omega)]
  exact⟨_,rfl⟩)
theorem cN8 (l:Zd)(hl:l.length<=1048576): ∃x,ca (nU l) dq (0,-1)=C x:=
 aD6 (f:=nU l) l.length (by omega) (-1) (λ_ _=>True) trivial (λi y hi _=>by
  unfold nU;simp only;rw[zB (by omega),zC,ci hi];simp only[zG];rw[up1 (by omega)]
  exact .inl ⟨_,rfl,trivial⟩) (λy _=>by
  unfold nU;simp only;rw[zA (by omega)]
  exact⟨_,rfl⟩)
def qN (x:Option (Int×Int×Bool)):Prop:= ∃k n b,x=C (k,n,b)/\(b=Za->k≠0)
theorem qN.cond {b:Bool}{x y:Option (Int×Int×Bool)}(hx:b=Za->qN x)(hy:b=Zb->qN y):qN (cond b x y):=by
 cases b with
 |true=>exact hx rfl
 |false=>exact hy rfl
theorem qN.bind {α:Type}{x:Option α}{f:α->Option (Int×Int×Bool)}(hx: ∃a,x=C a)(hf: ∀a,qN (f a)):qN (x.bind f):=by
 obtain⟨a,rfl⟩:=hx;exact hf a
theorem qN.mk {k n:Int}{b:Bool}(h:b=Za->k≠0):qN (C (k,n,b)):=⟨k,n,b,rfl,h⟩
theorem lm {α:Type}{b:Bool}{x y:Option α}(hx: ∃a,x=C a)(hy: ∃a,y=C a): ∃a,cond b x y=C a:=by cases b<;>assumption
theorem cO7 (a0 a1 a2:Int)(l:Zd):qN (wS a0 a1 a2 l):=by
 unfold wS at7;obtain⟨q,hq,hq2⟩:=cO6 a0 a1 a2 l;rw[hq];simp only[zG];by_cases h0:q.2.2.2.1=0
 .obtain⟨b1,b2,hl⟩:=hq2 h0;rw[zB h0,zC];simp only[zG];refine qN.cond (λ_=> .mk (by simp)) λ_=> ?_
  refine qN.bind (lm ⟨_,rfl⟩ ⟨_,rfl⟩) λs5=> ?_
  refine qN.bind (cN7 l hl) λr10=> ?_
  refine qN.bind (lm ⟨_,rfl⟩ ⟨_,rfl⟩) λs11=> ?_
  refine qN.cond (λ_=>qN.bind (aN3 _ _ _ _ hl) λ_=> .mk (by simp)) λ_=> ?_
  refine qN.cond (λ_=> .mk (by simp)) λ_=> ?_
  refine qN.bind (lm (lm ⟨_,rfl⟩ ⟨_,rfl⟩) ⟨_,rfl⟩) λs13=> ?_
  cases s13 with
  |inl u=>exact .mk (by simp)
  |inr u=>
   show qN (cond _ _ _);refine qN.cond (λ_=>qN.cond (λ_=> .mk (by simp)) λ_=> .mk (by simp)) λ_=> ?_
   refine qN.cond (λ_=>qN.cond (λ_=> .mk (by simp)) λ_=> .mk (by simp)) λ_=> ?_
   refine qN.bind (lm ⟨_,rfl⟩ ⟨_,rfl⟩) λs16=> ?_
   refine qN.cond (λ_=>qN.bind (aN3 _ _ _ _ hl) λ_=> .mk (by simp)) λ_=> ?_
   refine qN.cond (λ_=>qN.bind (bJ6 _ _ _ hl) λ_=>qN.cond (λ_=>qN.bind (aN3 _ _ _ _ hl) λ_=> .mk (by simp)) λ_=> .mk (by simp)) λ_=> ?_
   exact qN.bind (bJ6 _ _ _ hl) λ_=>qN.bind (cN1 _ _) λ_=> .mk (by simp)
 .rw[zA h0,zD];exact .mk (by simp)
theorem cA6 {a0 a1:Int}(h0:0<=a0/\a0<65536)(h1:1<=a1/\a1<=1048576): ∃d:Int,sH a0 a1=C (d,0)/\1<=d:=by
 unfold sH;rw[zA (by omega),zD,zA (by omega),zD,zA (by omega),zD,zA (by omega),zD]
 obtain⟨c,e,hc⟩:=lx (f:=sI a0 a1) (a:=65536) (λs=>1<=s/\s<=65536) (λs=>s.toNat) (λc=>1<=c) ⟨by omega,by omega⟩ (by omega) (by
  intro s hs;unfold sI;by_cases c1:1<s
  .rw[zB c1,zC];obtain⟨n,rfl⟩:=aB (show 0<=s by omega)
   have e1:IntKind.i64.wrap (Int.tdiv (n:Int) 2)=((n / 2:Nat):Int):=by
    rw[show Int.tdiv (n:Int) 2=((n / 2:Nat):Int)from rfl,cB2 (by omega)]
   rw[e1];generalize Zc (a0<_)=b;cases b with
   |true=>exact .inl ⟨_,rfl,⟨by omega,by omega⟩,by omega⟩
   |false=>exact .inr ⟨_,rfl,by omega⟩
  .rw[zA c1,zD]
   exact .inr ⟨_,rfl,hs.1⟩)
 rw[e];exact⟨c,rfl,hc⟩
theorem do2 {β:Type}{d:Int}{x:Option β}(h:1<=d):gd (Zc (d≠0)) x=x:=by rw[zB (by omega)];rfl
theorem cO8 (a0:Int)(a1:Bool)(a2 a3:Int)(l:Zd):qN (wV a0 a1 a2 a3 l):=by
 unfold wV;obtain⟨q,hq,hq2⟩:=cO6 a0 a2 a3 l;rw[hq];simp only[zG];refine qN.cond (λ_=> .mk (by simp)) λh0=> ?_
 obtain⟨b1,b2,hl⟩:=hq2 (by simpa using h0);refine qN.cond (λ_=> .mk (by simp)) λh1=> ?_
 have h1: ¬((l.length:Nat):Int)<1:=of_decide_eq_false h1;refine qN.cond (λ_=> ?_) λ_=> ?_
 .refine qN.cond (λ_=> .mk (by simp)) λ_=> ?_
  obtain⟨d,hd,hd1⟩:=cA6 (a0:=a0) (a1:=((l.length:Nat):Int)) ⟨b1,b2⟩ ⟨by omega,by omega⟩;rw[hd];simp only[zG]
  have hloop: ∃c,ca (qY a0 l (d,0)) dq 0=C c:=by
   obtain⟨n,rfl⟩:=aB b1;refine aT6 (n+1) (by omega) (λi hi=> ?_) ?_
   .unfold qY;rw[zB (show(i:Int)<=(n:Int)by omega),zC,do2 hd1];obtain⟨x,hx⟩:=uo l (i:Int) hl;rw[hx];simp only[zG];rw[up1 (by omega)];cases Zc (Int.tmod (i:Int) d≠0)with
    |true=>
     simp only[zC,zG];cases Zc (0<=x)with
     |true=>exact .inr ⟨_,rfl⟩
     |false=>exact .inl rfl
    |false=>exact .inl rfl
   .unfold qY;rw[zA (show¬((n+1:Nat):Int)<=(n:Int)by omega)];exact⟨_,rfl⟩
  refine qN.bind hloop λr12=> ?_
  cases r12 with
  |inl u=>exact .mk (by simp)
  |inr u=>
   show qN (Option.bind _ _);rw[do2 hd1];refine qN.bind (lm ?_ ⟨_,rfl⟩) λs17=> ?_
   .obtain⟨x,hx⟩:=uo l a0 hl;obtain⟨y,hy⟩:=uo l (-1) hl;rw[hx,hy];exact lm ⟨_,rfl⟩ ⟨_,rfl⟩
   .exact qN.cond (λ_=>qN.bind (uo _ _ hl) λ_=> .mk (by simp)) λ_=>qN.cond (λ_=> .mk (by simp)) λ_=> .mk (by simp)
 .refine qN.bind (cN8 l hl) λr23=> ?_
  refine qN.cond (λ_=>qN.bind (uo _ _ hl) λ_=> .mk (by simp)) λ_=> ?_
  refine qN.cond (λ_=> .mk (by simp)) λ_=> ?_
  refine qN.cond (λ_=> .mk (by simp)) λ_=> ?_
  refine qN.bind (lm (lm ⟨_,rfl⟩ ⟨_,rfl⟩) ⟨_,rfl⟩) λs25=> ?_
  refine qN.cond (λ_=>qN.bind (uo _ _ hl) λ_=> .mk (by simp)) λ_=> ?_
  exact qN.cond (λ_=> .mk (by simp)) λ_=> .mk (by simp)
end
section
open Int renaming add_emod -> aB, dvd_refl -> aD, emod_emod_of_dvd -> bB, mul_emod -> bD
open List renaming append_assoc -> cB, getD_eq_getElem?_getD -> cD, getElem?_eq_getElem -> dB, getElem_mem -> dD, length_take -> eB, take_succ_eq_append_getElem -> eD
def In (l:Zd):Prop:= ∀x∈l,0<=x/\x<=18446744073709551615
def dG5 (p:Nat->Int)(j:Nat)(v:Int):Nat->Int:=λm=>cond (Nat.beq j m) v (p m)
theorem cX0 {a b:Int}(ha:0<=a/\a<=18446744073709551615)(hb:0<=b/\b<=18446744073709551615):jy a b=C ((a+b) % 18446744073709551616):=by
 rw[uk (show du a from⟨ha.1,by omega⟩) (show du b from⟨hb.1,by omega⟩),bN8]
theorem cG4 {a b:Int}(ha:0<=a/\a<=18446744073709551615)(hb:0<=b/\b<=18446744073709551615):jT a b=C (a*b % 18446744073709551616):=by
 rw[zS (show du a from⟨ha.1,by omega⟩) (show du b from⟨hb.1,by omega⟩),bN8]
theorem ca5 : ∀(l:Zd) (s:Int),0<=s/\s<=18446744073709551615->0<=l.foldl cd9 s/\l.foldl cd9 s<=18446744073709551615
 |[],s,h=>h
 |x::l,s,h=>ca5 l _ (by unfold cd9;omega)
def P36 :Zd->Int
 |[]=>1
 |_::l=>P36 l*3 % 18446744073709551616
def Q36 :Zd->Int
 |[]=>0
 |x::l=>(Q36 l+x*P36 l % 18446744073709551616) % 18446744073709551616
theorem cO9 : ∀l,0<=P36 l/\P36 l<=18446744073709551615
 |[]=>by show(0:Int)<=1/\(1:Int)<=18446744073709551615;omega
 |x::l=>by unfold P36;omega
theorem cP0 : ∀l,0<=Q36 l/\Q36 l<=18446744073709551615
 |[]=>by show(0:Int)<=0/\(0:Int)<=18446744073709551615;omega
 |x::l=>by unfold Q36;omega
theorem dt0 (a b m:Int):a % m*b % m=a*b % m:=by rw[bD,bB _ (aD _),<-bD]
theorem dg0 (a b m:Int):a*(b % m) % m=a*b % m:=by rw[bD,bB _ (aD _),<-bD]
theorem bY3 (a b m:Int):(a % m+b) % m=(a+b) % m:=by rw[aB,bB _ (aD _),<-aB]
theorem cB8 (a b m:Int):(a+b % m) % m=(a+b) % m:=by rw[aB,bB _ (aD _),<-aB]
theorem cS3 : ∀(l:Zd) (t:Int),l.foldl cd9 t % 18446744073709551616=(t*P36 l+Q36 l) % 18446744073709551616
 |[],t=>by simp[P36,Q36]
 |x::l,t=>by
  rw[List.foldl_cons,cS3 l];show((3*t+x) % 18446744073709551616*P36 l+Q36 l) % 18446744073709551616=(t*(P36 l*3 % 18446744073709551616)+(Q36 l+x*P36 l % 18446744073709551616) % 18446744073709551616) % 18446744073709551616;generalize P36 l=P;generalize Q36 l=Q
  have l1:((3*t+x) % 18446744073709551616*P+Q) % 18446744073709551616=((3*t+x)*P+Q) % 18446744073709551616:=by
   rw[<-bY3,dt0,bY3]
  have l2:(t*(P*3 % 18446744073709551616)+(Q+x*P % 18446744073709551616) % 18446744073709551616) % 18446744073709551616=(t*(P*3)+(Q+x*P)) % 18446744073709551616:=by
   rw[cB8,<-Int.add_assoc,cB8,Int.add_assoc,<-bY3,dg0,bY3]
  rw[l1,l2,Int.add_mul,Int.mul_assoc 3 t P,<-Int.mul_assoc t P 3]
  congr 1
  omega
theorem dp9 (l:Zd):(Q36 l+P36 l) % 18446744073709551616=S36 l:=by
 have h:=cS3 l 1;have h2:=ca5 l 1 (by omega);unfold S36;rw[Int.one_mul]at h;rw[Int.add_comm,<-h,Int.emod_eq_of_lt h2.1 (by omega)]
theorem bM4 (l:Zd)(hi:In l)(hl:l.length<9223372036854775807):uR l=C (S36 l):=by
 unfold uR;have h:=nL (f:=oX l) (n:=l.length) (c:=(Q36 l,P36 l)) (λk=>((l.length:Int)-1-(k:Int),Q36 (l.drop (l.length-k)),P36 (l.drop (l.length-k)))) (by omega) ?_ ?_
 .simp only[Nat.sub_zero,List.drop_length]at h;rw[bq (by omega),show(l.length:Int)-1=(l.length:Int)-1-((0:Nat):Int)by omega];show(ca (oX l) dq (_,Q36 [],P36 [])).bind _=_;rw[h];simp only[zG];have h1:=cO9 l;have h2:=cP0 l;rw[cX0 h2 h1,dp9];rfl
 .intro k hk;have hj:l.length-(k+1)<l.length:=by omega
  have e1:(l.length:Int)-1-(k:Int)=((l.length-(k+1):Nat):Int):=by omega
  have e2:l.drop (l.length-(k+1))=l[l.length-(k+1)]::l.drop (l.length-k):=by
   rw[<-List.getElem_cons_drop hj]
   congr 2
   omega
  have hx:=hi _ (dD hj);have h1:=cO9 (l.drop (l.length-k));have h2:=cP0 (l.drop (l.length-k));simp only[oX,bv];rw[e1,zE (by omega),ci hj];simp only[zG];rw[cG4 hx h1,cG4 h1 (by omega)];simp only[zG];rw[cX0 h2 (by omega),e2,bq (by omega),show((l.length-(k+1):Nat):Int)-1=(l.length:Int)-1-((k+1:Nat):Int)by omega];rfl
 .simp only[oX,bv];rw[zF (by omega),Nat.sub_self,List.drop_zero]
theorem dq0 (l:Zd):0<=S36 l/\S36 l<=18446744073709551615:=ca5 l 1 (by omega)
theorem aA0 (l:Zd)(a1 a2 a3 a4 a5 a6 a7 a8 a9 a10 a11 a12 a13 a14 a15 a16:Int)(hl:l.length<=1048576)(hi:In ([a1,a2,a3,a4,a5,a6,a7,a8,a9,a10,a11,a12,a13,a14,a15,a16]++(l.length:Int)::l)):
  qz l a1 a2 a3 a4 a5 a6 a7 a8 a9 a10 a11 a12 a13 a14 a15 a16=C (W36 [a1,a2,a3,a4,a5,a6,a7,a8,a9,a10,a11,a12,a13,a14,a15,a16] l):=by
 unfold qz
 have h0:ca (pM a1 a2 a3 a4 a5 a6 a7 a8 a9 a10 a11 a12 a13 a14 a15 a16) dq (0,[])=C [a1,a2,a3,a4,a5,a6,a7,a8,a9,a10,a11,a12,a13,a14,a15,a16]:=by
  have h:=nL (f:=pM a1 a2 a3 a4 a5 a6 a7 a8 a9 a10 a11 a12 a13 a14 a15 a16) (n:=16) (c:=[a1,a2,a3,a4,a5,a6,a7,a8,a9,a10,a11,a12,a13,a14,a15,a16]) (λi=>((i:Int),[a1,a2,a3,a4,a5,a6,a7,a8,a9,a10,a11,a12,a13,a14,a15,a16].take i)) (by omega) ?_ ?_
  .exact h
  .intro i hi;have hlt:i<[a1,a2,a3,a4,a5,a6,a7,a8,a9,a10,a11,a12,a13,a14,a15,a16].length:=hi;simp only[pM,bv];rw[zE (by omega),cl hi];simp only[zG];rw[dh (by rw[eB];omega) (by omega),bq (by omega),eD hlt,cD,dB hlt];rfl
  .rfl
 rw[h0];simp only[zG];rw[dh (by simp) (by omega),bc2 (by omega)]
 have h1:ca (mU l) dq (0,[a1,a2,a3,a4,a5,a6,a7,a8,a9,a10,a11,a12,a13,a14,a15,a16]++[(l.length:Int)])=C ([a1,a2,a3,a4,a5,a6,a7,a8,a9,a10,a11,a12,a13,a14,a15,a16]++[(l.length:Int)]++l):=by
  have h:=nL (f:=mU l) (n:=l.length) (c:=[a1,a2,a3,a4,a5,a6,a7,a8,a9,a10,a11,a12,a13,a14,a15,a16]++[(l.length:Int)]++l) (λi=>((i:Int),[a1,a2,a3,a4,a5,a6,a7,a8,a9,a10,a11,a12,a13,a14,a15,a16]++[(l.length:Int)]++l.take i)) (by omega) ?_ ?_
  .exact h
  .intro i hi;simp only[mU,bv];rw[zE (by omega),ci hi];simp only[zG];rw[dh (by simp;omega) (by omega),bq (by omega),eD hi,<-cB];rfl
  .simp only[mU,bv];rw[zF (by omega),List.take_length]
 rw[h1];simp only[zG];have e:[a1,a2,a3,a4,a5,a6,a7,a8,a9,a10,a11,a12,a13,a14,a15,a16]++[(l.length:Int)]++l=[a1,a2,a3,a4,a5,a6,a7,a8,a9,a10,a11,a12,a13,a14,a15,a16]++(l.length:Int)::l:=by rw[cB];rfl
 rw[e,bM4 _ hi (by simp;omega)];simp only[zG];rw[dh (by simp;omega) (by omega)];rfl
def cZ5 (t:Int×Int×Int×Int×Int×Int×Int×Int×Int×Int×Int×Int×Int×Int×Int×Int×Int×Zd):(Zd)×Int×Int×Int×Int×Int×Int×Int×Int×Int×Int×Int×Int×Int×Int×Int×Int×Int:=
 (t.2.2.2.2.2.2.2.2.2.2.2.2.2.2.2.2.2,t.1,t.2.1,t.2.2.1,t.2.2.2.1,t.2.2.2.2.1,t.2.2.2.2.2.1,t.2.2.2.2.2.2.1,t.2.2.2.2.2.2.2.1,t.2.2.2.2.2.2.2.2.1,t.2.2.2.2.2.2.2.2.2.1,t.2.2.2.2.2.2.2.2.2.2.1,t.2.2.2.2.2.2.2.2.2.2.2.1,t.2.2.2.2.2.2.2.2.2.2.2.2.1,t.2.2.2.2.2.2.2.2.2.2.2.2.2.1,t.2.2.2.2.2.2.2.2.2.2.2.2.2.2.1,t.2.2.2.2.2.2.2.2.2.2.2.2.2.2.2.1,t.2.2.2.2.2.2.2.2.2.2.2.2.2.2.2.2.1)
def aB2 (g:Nat->Int):Nat->Nat->Int
 |0=>λ_=>0
 |i+1=>dG5 (aB2 g i) i (g i)
theorem bk6 (w:Zd)(hl:16<=w.length):ca (re w) dq (0,0,0,0,0,0,0,0,0,0,0,0,0,0,0,0,0)=C (w.getD 0 0,w.getD 1 0,w.getD 2 0,w.getD 3 0,w.getD 4 0,w.getD 5 0,w.getD 6 0,w.getD 7 0,w.getD 8 0,w.getD 9 0,w.getD 10 0,w.getD 11 0,w.getD 12 0,w.getD 13 0,w.getD 14 0,w.getD 15 0):=by
 have h:=nL (f:=re w) (n:=16) (c:=(w.getD 0 0,w.getD 1 0,w.getD 2 0,w.getD 3 0,w.getD 4 0,w.getD 5 0,w.getD 6 0,w.getD 7 0,w.getD 8 0,w.getD 9 0,w.getD 10 0,w.getD 11 0,w.getD 12 0,w.getD 13 0,w.getD 14 0,w.getD 15 0)) (λi=>((i:Int),aB2 (λk=>w.getD k 0) i 0,aB2 (λk=>w.getD k 0) i 1,aB2 (λk=>w.getD k 0) i 2,aB2 (λk=>w.getD k 0) i 3,aB2 (λk=>w.getD k 0) i 4,aB2 (λk=>w.getD k 0) i 5,aB2 (λk=>w.getD k 0) i 6,aB2 (λk=>w.getD k 0) i 7,aB2 (λk=>w.getD k 0) i 8,aB2 (λk=>w.getD k 0) i 9,aB2 (λk=>w.getD k 0) i 10,aB2 (λk=>w.getD k 0) i 11,aB2 (λk=>w.getD k 0) i 12,aB2 (λk=>w.getD k 0) i 13,aB2 (λk=>w.getD k 0) i 14,aB2 (λk=>w.getD k 0) i 15)) (by omega) ?_ ?_
 .exact h
 .intro i hi;simp only[re,bv];rw[zE (by omega),cl hi,aU7 (show i<w.length by omega)];simp only[zG];rw[bq (by omega)];rfl
 .rfl
theorem cz6 (w:Zd)(hl:w.length<=1100000)(hi:In w):xd w=C (cZ5 (ba5 w)):=by
 unfold xd ba5;simp only[bv];by_cases c1:w.length<18
 .rw[zE (by omega),zE c1];rfl
 have h16:0<=w.getD 16 0/\w.getD 16 0<=18446744073709551615:=by
  rw[cD,dB (show 16<w.length by omega)];exact hi _ (dD _)
 rw[zF (by omega),zF c1,bq (show-9223372036854775808<=(w.length:Int)-18/\(w.length:Int)-18<=9223372036854775807 by omega),nZ (by omega)];rw[show rd w 16=C (w.getD 16 0)from aU7 (i:=16) (by omega)];simp only[zG,bv];by_cases c2:(w.length:Int)-18<w.getD 16 0
 .rw[zE c2,zE c2];rfl
 rw[zF c2,zF c2];rw[bq (n:=w.getD 16 0) (by omega),bq (n:=w.getD 16 0+18) (by omega)];by_cases c3:w.getD 16 0<(w.length:Int)-18
 .rw[zE (by omega),zE c3];rfl
 rw[zF (by omega),zF c3];have e1:w.getD 16 0+17=((w.length-1:Nat):Int):=by omega
 have e2:17+w.getD 16 0=((w.length-1:Nat):Int):=by omega
 rw[e1,e2,bq (by omega),aU7 (show w.length-1<w.length by omega)];simp only[zG];unfold lq ae4;rw[zB (show(0:Int)<=((w.length-1:Nat):Int)by omega),zB (show(17:Int)<=((w.length-1:Nat):Int)by omega),zB (show((w.length-1:Nat):Int)<=(w.length:Int)by omega)];show gd Za _=_;rw[fq];rw[show List.drop (Int.toNat 0) (List.take (((w.length-1:Nat):Int).toNat) w)=w.take (w.length-1)from rfl,bM4 _ (λx hx=>hi x (List.mem_of_mem_take hx)) (by rw[eB];omega)];simp only[zG,bv];by_cases c4:w.getD (w.length-1) 0≠S36 (w.take (w.length-1))
 .rw[zE c4,zE c4];rfl
 rw[zF c4,zF c4,bk6 w (by omega)];rfl
end
section
open Bool renaming not_true -> aB
open Sum renaming inl -> aD
section
variable {c:Cx}
theorem ag0 {α β:Type}{x:Option α}{a:α}{f:α->Option β}(h:x=C a):x.bind f=f a:=by rw[h];rfl
theorem cG7 (n:Nat):cg (dg n):=cg.rep n
theorem cw9 (h:c.Ok){W x:Zd}(wW:cg W)(wx:cg x):du (rg (lossR c W x).1 0):=
 vt (uj h.pk (cg.fill (wx.app ((wW.seg _ _).app λ_ hv=>by cases hv))) (cG7 _)).1 0
theorem cZ3 (h:c.Ok){W:Zd}(wW:cg W)(p:Int):cg (stepR c W p).1:=
 (uj h.pl (cg.fill ((wW.seg _ _).app ((wW.seg _ _).app λv hv=>by rw[List.mem_singleton.1 hv];exact qM _))) (cG7 _)).1
theorem cU6 {s:Dy}(wz:du s.z):du (mg c s).2.z:=by
 rw[aM2];exact wz
theorem cP5 (h:c.Ok){s:Dy}(wW:cg s.W)(wz:du s.z)(x:Int×Int):du (bG8 c x s).2.z:=by
 unfold bG8;split
 .exact cU6 wz
 .unfold plF
  repeat' split
  all_goals first|exact wz|exact cw9 h wW (wW.seg _ _)
theorem cP6 (h:c.Ok){s:Dy}(wW:cg s.W)(wz:du s.z)(x:Int×Int):du (bG9 c x s).2.z:=by
 unfold bG9;split
 .exact cU6 wz
 .generalize x.1=a;generalize x.2=n;unfold doF;by_cases h1:lL a n=Zb∨7<a
  .rw[zE h1];exact wz
  rw[zF h1];by_cases h2:(2<=a/\a<=4)/\c.ns<=n
  .rw[zE h2];exact wz
  rw[zF h2];by_cases h3:a=1
  .rw[zE h3];split<;>exact wz
  rw[zF h3];by_cases h4:a=2
  .rw[zE h4];split<;>exact wz
  rw[zF h4];by_cases h5:a=3
  .rw[zE h5];split<;>exact wz
  rw[zF h5];by_cases h6:a=4
  .rw[zE h6];split<;>exact wz
  rw[zF h6];by_cases h7:a=5
  .rw[zE h7];split
   .exact wz
   .split
    .exact wz
    .exact cw9 h wW (wW.seg _ _)
  rw[zF h7];by_cases h8:a=6
  .rw[zE h8];split
   .exact wz
   .split
    .exact wz
    .exact cw9 h (wW.put (cZ3 h wW _) _) ((cZ3 h wW _).take _)
  rw[zF h8];split
  .exact wz
  .split<;>exact wz
theorem cE4 (h:c.Ok)(hm:c.mode=3){i:Nat}{s:Dy}{r:RS}(b:Both1 c i s r)(en fa:Bool):qN (nz c.mode c.X c.T c.R c.l c.Q c.k c.len c.words c.R c.l c.Q c.k (c.X.length:Int) c.T c.fixed c.tp c.sl c.ns r.L r.p r.q r.st r.sl r.sx r.kp r.ax r.th r.ls r.n0 r.n1 r.n2 r.n3 r.pk en fa):=by
 have hsp: ∃tg,kI c.mode c.X c.T c.R c.l c.Q c.k c.len c.words c.R c.l c.Q c.k (c.X.length:Int) c.T c.fixed c.tp c.sl c.ns r.L r.p r.q r.st r.sl r.sx r.kp r.ax r.th r.ls r.n0 r.n1 r.n2 r.n3 r.pk=C (r.p,r.q,tg):=by
  unfold kI;rw[zA (not_not_intro hm)];exact⟨_,rfl⟩
 obtain⟨tg,hsp⟩:=hsp;unfold nz;rw[hsp];simp only[zG];refine qN.cond (λ_=> ?_) λ_=>qN.cond (λ_=> ?_) λ_=> ?_
 .obtain⟨k,n,q,e1,e2⟩:=cO7 r.L r.p r.q tg;rw[e1];exact⟨k,n,q,rfl,e2⟩
 .obtain⟨k,n,q,e1,e2⟩:=cO8 r.L en r.p r.q tg;rw[e1];exact⟨k,n,q,rfl,e2⟩
 .exact qN.cond (λ_=>qN.cond (λ_=> .mk (by simp)) λ_=> .mk (by simp)) λ_=>qN.cond (λ_=> .mk (by simp)) λ_=> .mk (by simp)
theorem dj3 (h:c.Ok)(wT:cg c.T)(hm:c.mode=3){i:Nat}(hi:i<=100){s:Dy}{r:RS}(b:Both1 c i s r)(wz:du s.z)(en fa:Bool):
  ∃j s' r' en' fa' k n q x,j<=i+1/\(Both1 c j s' r'/\du s'.z)/\pO c.mode c.X c.T c.R c.l c.Q c.k c.len c.words c.R c.l c.Q c.k (c.X.length:Int) c.T c.fixed c.tp c.sl c.ns r.L r.p r.q r.st r.sl r.sx r.kp r.ax r.th r.ls r.n0 r.n1 r.n2 r.n3 r.pk en fa=C (c.mode,c.X,c.T,c.R,c.l,c.Q,c.k,c.len,c.words,c.R,c.l,c.Q,c.k,(c.X.length:Int),c.T,c.fixed,c.tp,c.sl,c.ns,r'.L,r'.p,r'.q,r'.st,r'.sl,r'.sx,r'.kp,r'.ax,r'.th,r'.ls,r'.n0,r'.n1,r'.n2,r'.n3,r'.pk,en',fa',k,n,q,x):=by
 unfold pO;cases fa with
 |true=>exact⟨i,s,r,en,Za,_,_,_,_,by omega,⟨b,wz⟩,rfl⟩
 |false=>
  obtain⟨k,n,q,e1,e2⟩:=cE4 h hm b en Zb;rw[zD,e1];simp only[zG];cases q with
  |false=>exact⟨i,s,r,en,Zb,_,_,_,_,by omega,⟨b,wz⟩,rfl⟩
  |true=>
   rw[aB,zD];obtain⟨r',e',b',_,hd⟩:=bs2 h wT hm hi b (k,n);refine⟨i+1,_,r',en,Zb,k,n,Za,0,by omega,⟨b',cP5 h b.H.has.w wz _⟩, ?_⟩;refine(ag0 (hd (e2 rfl))).trans ?_;rfl
theorem dd5 (h:c.Ok)(wT:cg c.T)(hm:c.mode=3){i:Nat}(hi:i<=100){s:Dy}{r:RS}(b:Both1 c i s r)(wz:du s.z)(en fa m:Bool):
  ∃j s' r' en' fa' x,j<=i+1/\(Both1 c j s' r'/\du s'.z)/\pN c.mode c.X c.T c.R c.l c.Q c.k c.len c.words c.R c.l c.Q c.k (c.X.length:Int) c.T c.fixed c.tp c.sl c.ns r.L r.p r.q r.st r.sl r.sx r.kp r.ax r.th r.ls r.n0 r.n1 r.n2 r.n3 r.pk en fa m=C (c.mode,c.X,c.T,c.R,c.l,c.Q,c.k,c.len,c.words,c.R,c.l,c.Q,c.k,(c.X.length:Int),c.T,c.fixed,c.tp,c.sl,c.ns,r'.L,r'.p,r'.q,r'.st,r'.sl,r'.sx,r'.kp,r'.ax,r'.th,r'.ls,r'.n0,r'.n1,r'.n2,r'.n3,r'.pk,en',fa',x):=by
 unfold pN;cases fa with
 |true=>exact⟨i,s,r,en,Za,_,by omega,⟨b,wz⟩,rfl⟩
 |false=>
  have hw: ∃q,oh c.mode c.X c.T c.R c.l c.Q c.k c.len c.words c.R c.l c.Q c.k (c.X.length:Int) c.T c.fixed c.tp c.sl c.ns r.L r.p r.q r.st r.sl r.sx r.kp r.ax r.th r.ls r.n0 r.n1 r.n2 r.n3 r.pk en Zb=C q:=by
   unfold oh;obtain⟨k,n,q,e1,e2⟩:=cE4 h hm b en Zb;rw[e1];simp only[zG];exact lm (lm (lm ⟨_,rfl⟩ ⟨_,rfl⟩) ⟨_,rfl⟩) ⟨_,rfl⟩
  obtain⟨q1,hq⟩:=hw;rw[zD,hq];simp only[zG];cases q1 with
  |false=>exact⟨i,s,r,en,Zb,_,by omega,⟨b,wz⟩,rfl⟩
  |true=>
   rw[aB,zD];cases m with
   |false=>exact⟨i,s,r,Za,Zb,_,by omega,⟨b,wz⟩,rfl⟩
   |true=>
    rw[aB,zD];obtain⟨r',e',b',hd,_⟩:=bs2 h wT hm hi b (0,0);by_cases he:e'=0
    .refine⟨i+1,_,r',en,Zb,0,by omega,⟨b',cP5 h b.H.has.w wz _⟩,(ag0 (hd rfl)).trans ?_⟩;show cond (Zc (e'≠0)) _ _=_;rw[zA (λk=>k he)];rfl
    .refine⟨i,s,r,en,Za,e',by omega,⟨b,wz⟩,(ag0 (hd rfl)).trans ?_⟩;show cond (Zc (e'≠0)) _ _=_;rw[zB he];rfl
theorem df1 (h:c.Ok)(wT:cg c.T)(hm:c.mode=3){l:Zd}(hl:l.length<=80){s:Dy}{r:RS}(b:Both1 c 0 s r)(wz:du s.z):
  ∃j s' r' en fa,(Both1 c j s' r'/\du s'.z)/\ca (db l) dq (0,c.mode,c.X,c.T,c.R,c.l,c.Q,c.k,c.len,c.words,c.mode,c.X,c.T,c.R,c.l,c.Q,c.k,c.len,c.words,c.R,c.l,c.Q,c.k,(c.X.length:Int),c.T,c.fixed,c.tp,c.sl,c.ns,r.L,r.p,r.q,r.st,r.sl,r.sx,r.kp,r.ax,r.th,r.ls,r.n0,r.n1,r.n2,r.n3,r.pk,Zb,Zb)=C (c.mode,c.X,c.T,c.R,c.l,c.Q,c.k,c.len,c.words,c.mode,c.X,c.T,c.R,c.l,c.Q,c.k,c.len,c.words,c.R,c.l,c.Q,c.k,(c.X.length:Int),c.T,c.fixed,c.tp,c.sl,c.ns,r'.L,r'.p,r'.q,r'.st,r'.sl,r'.sx,r'.kp,r'.ax,r'.th,r'.ls,r'.n0,r'.n1,r'.n2,r'.n3,r'.pk,en,fa):=by
 obtain⟨y,h1,j,s',r',en,fa,h2,h3⟩:=lx (f:=db l) (a:=(0,c.mode,c.X,c.T,c.R,c.l,c.Q,c.k,c.len,c.words,c.mode,c.X,c.T,c.R,c.l,c.Q,c.k,c.len,c.words,c.R,c.l,c.Q,c.k,(c.X.length:Int),c.T,c.fixed,c.tp,c.sl,c.ns,r.L,r.p,r.q,r.st,r.sl,r.sx,r.kp,r.ax,r.th,r.ls,r.n0,r.n1,r.n2,r.n3,r.pk,Zb,Zb)) (λa=> ∃(i j:Nat) (s:Dy) (r:RS) (en fa:Bool),a=((i:Int),c.mode,c.X,c.T,c.R,c.l,c.Q,c.k,c.len,c.words,c.mode,c.X,c.T,c.R,c.l,c.Q,c.k,c.len,c.words,c.R,c.l,c.Q,c.k,(c.X.length:Int),c.T,c.fixed,c.tp,c.sl,c.ns,r.L,r.p,r.q,r.st,r.sl,r.sx,r.kp,r.ax,r.th,r.ls,r.n0,r.n1,r.n2,r.n3,r.pk,en,fa)/\i<=l.length/\j<=i/\(Both1 c j s r/\du s.z)) (λa=>((l.length:Int)-a.1).toNat) (λy=> ∃(j:Nat) (s':Dy) (r':RS) (en fa:Bool),y=(c.mode,c.X,c.T,c.R,c.l,c.Q,c.k,c.len,c.words,c.mode,c.X,c.T,c.R,c.l,c.Q,c.k,c.len,c.words,c.R,c.l,c.Q,c.k,(c.X.length:Int),c.T,c.fixed,c.tp,c.sl,c.ns,r'.L,r'.p,r'.q,r'.st,r'.sl,r'.sx,r'.kp,r'.ax,r'.th,r'.ls,r'.n0,r'.n1,r'.n2,r'.n3,r'.pk,en,fa)/\(Both1 c j s' r'/\du s'.z)) ⟨0,0,s,r,Zb,Zb,rfl,Nat.zero_le _,Nat.le_refl _,b,wz⟩ (by simp only;omega) (λa ha=>by
  obtain⟨i,j,s,r,en,fa,rfl,hi,hj,b,wz⟩:=ha;by_cases hlt:i<l.length
  .left;by_cases hx:l[i]=0
   .obtain⟨j',s',r',en',fa',k,n,q,x,hj',b',hd⟩:=dj3 h wT hm (i:=j) (by omega) b wz en fa;refine⟨(((i+1:Nat):Int),c.mode,c.X,c.T,c.R,c.l,c.Q,c.k,c.len,c.words,c.mode,c.X,c.T,c.R,c.l,c.Q,c.k,c.len,c.words,c.R,c.l,c.Q,c.k,(c.X.length:Int),c.T,c.fixed,c.tp,c.sl,c.ns,r'.L,r'.p,r'.q,r'.st,r'.sl,r'.sx,r'.kp,r'.ax,r'.th,r'.ls,r'.n0,r'.n1,r'.n2,r'.n3,r'.pk,en',fa'), ?_,⟨i+1,j',s',r',en',fa',rfl,hlt,by omega,b'⟩,by simp only;omega⟩;simp only[db];rw[zB (by omega),zC,ci hlt];simp only[zG];rw[zB hx,zC];refine(ag0 hd).trans ?_;show C (aD (IntKind.i64.wrap ((i:Int)+1),_))=_;rw[bq (by omega),show(i:Int)+1=((i+1:Nat):Int)by omega]
   .obtain⟨j',s',r',en',fa',x,hj',b',hd⟩:=dd5 h wT hm (i:=j) (by omega) b wz en fa (Zc (l[i]=1));refine⟨(((i+1:Nat):Int),c.mode,c.X,c.T,c.R,c.l,c.Q,c.k,c.len,c.words,c.mode,c.X,c.T,c.R,c.l,c.Q,c.k,c.len,c.words,c.R,c.l,c.Q,c.k,(c.X.length:Int),c.T,c.fixed,c.tp,c.sl,c.ns,r'.L,r'.p,r'.q,r'.st,r'.sl,r'.sx,r'.kp,r'.ax,r'.th,r'.ls,r'.n0,r'.n1,r'.n2,r'.n3,r'.pk,en',fa'), ?_,⟨i+1,j',s',r',en',fa',rfl,hlt,by omega,b'⟩,by simp only;omega⟩;simp only[db];rw[zB (by omega),zC,ci hlt];simp only[zG];rw[zA hx,zD];refine(ag0 hd).trans ?_;show C (aD (IntKind.i64.wrap ((i:Int)+1),_))=_;rw[bq (by omega),show(i:Int)+1=((i+1:Nat):Int)by omega]
  .right;have hie:i=l.length:=by omega
   subst hie;refine⟨_, ?_,j,s,r,en,fa,rfl,b,wz⟩;simp only[db]
   rw[zA (by omega),zD])
 exact⟨j,s',r',en,fa,h3,by rw[h1,h2]⟩
theorem cE5 (h:c.Ok)(hm:c.mode≠3){i:Nat}{s:Dy}{r:RS}(b:Both2 c i s r)(en fa:Bool):qN (nz c.mode c.X c.T c.R c.l c.Q c.k c.len c.words c.R c.l c.Q c.k (c.X.length:Int) c.T c.fixed c.tp c.sl c.ns r.L r.p r.q r.st r.sl r.sx r.kp r.ax r.th r.ls r.n0 r.n1 r.n2 r.n3 r.pk en fa):=by
 have hsp: ∃tg,kI c.mode c.X c.T c.R c.l c.Q c.k c.len c.words c.R c.l c.Q c.k (c.X.length:Int) c.T c.fixed c.tp c.sl c.ns r.L r.p r.q r.st r.sl r.sx r.kp r.ax r.th r.ls r.n0 r.n1 r.n2 r.n3 r.pk=C (r.p,r.q,tg):=by
  unfold kI;rw[zB hm,zC,bx3 b.S h];exact⟨_,rfl⟩
 obtain⟨tg,hsp⟩:=hsp;unfold nz;rw[hsp];simp only[zG];refine qN.cond (λ_=> ?_) λ_=>qN.cond (λ_=> ?_) λ_=> ?_
 .obtain⟨k,n,q,e1,e2⟩:=cO7 r.L r.p r.q tg;rw[e1];exact⟨k,n,q,rfl,e2⟩
 .obtain⟨k,n,q,e1,e2⟩:=cO8 r.L en r.p r.q tg;rw[e1];exact⟨k,n,q,rfl,e2⟩
 .exact qN.cond (λ_=>qN.cond (λ_=> .mk (by simp)) λ_=> .mk (by simp)) λ_=>qN.cond (λ_=> .mk (by simp)) λ_=> .mk (by simp)
theorem dj4 (h:c.Ok)(wT:cg c.T)(hm:c.mode≠3){i:Nat}(hi:i<=100){s:Dy}{r:RS}(b:Both2 c i s r)(wz:du s.z)(en fa:Bool):
  ∃j s' r' en' fa' k n q x,j<=i+1/\(Both2 c j s' r'/\du s'.z)/\pO c.mode c.X c.T c.R c.l c.Q c.k c.len c.words c.R c.l c.Q c.k (c.X.length:Int) c.T c.fixed c.tp c.sl c.ns r.L r.p r.q r.st r.sl r.sx r.kp r.ax r.th r.ls r.n0 r.n1 r.n2 r.n3 r.pk en fa=C (c.mode,c.X,c.T,c.R,c.l,c.Q,c.k,c.len,c.words,c.R,c.l,c.Q,c.k,(c.X.length:Int),c.T,c.fixed,c.tp,c.sl,c.ns,r'.L,r'.p,r'.q,r'.st,r'.sl,r'.sx,r'.kp,r'.ax,r'.th,r'.ls,r'.n0,r'.n1,r'.n2,r'.n3,r'.pk,en',fa',k,n,q,x):=by
 unfold pO;cases fa with
 |true=>exact⟨i,s,r,en,Za,_,_,_,_,by omega,⟨b,wz⟩,rfl⟩
 |false=>
  obtain⟨k,n,q,e1,e2⟩:=cE5 h hm b en Zb;rw[zD,e1];simp only[zG];cases q with
  |false=>exact⟨i,s,r,en,Zb,_,_,_,_,by omega,⟨b,wz⟩,rfl⟩
  |true=>
   rw[aB,zD];obtain⟨r',e',b',_,hd⟩:=bs3 h wT hm hi b (k,n);refine⟨i+1,_,r',en,Zb,k,n,Za,0,by omega,⟨b',cP6 h b.H.has.w wz _⟩, ?_⟩;refine(ag0 (hd (e2 rfl))).trans ?_;rfl
theorem dd6 (h:c.Ok)(wT:cg c.T)(hm:c.mode≠3){i:Nat}(hi:i<=100){s:Dy}{r:RS}(b:Both2 c i s r)(wz:du s.z)(en fa m:Bool):
  ∃j s' r' en' fa' x,j<=i+1/\(Both2 c j s' r'/\du s'.z)/\pN c.mode c.X c.T c.R c.l c.Q c.k c.len c.words c.R c.l c.Q c.k (c.X.length:Int) c.T c.fixed c.tp c.sl c.ns r.L r.p r.q r.st r.sl r.sx r.kp r.ax r.th r.ls r.n0 r.n1 r.n2 r.n3 r.pk en fa m=C (c.mode,c.X,c.T,c.R,c.l,c.Q,c.k,c.len,c.words,c.R,c.l,c.Q,c.k,(c.X.length:Int),c.T,c.fixed,c.tp,c.sl,c.ns,r'.L,r'.p,r'.q,r'.st,r'.sl,r'.sx,r'.kp,r'.ax,r'.th,r'.ls,r'.n0,r'.n1,r'.n2,r'.n3,r'.pk,en',fa',x):=by
 unfold pN;cases fa with
 |true=>exact⟨i,s,r,en,Za,_,by omega,⟨b,wz⟩,rfl⟩
 |false=>
  have hw: ∃q,oh c.mode c.X c.T c.R c.l c.Q c.k c.len c.words c.R c.l c.Q c.k (c.X.length:Int) c.T c.fixed c.tp c.sl c.ns r.L r.p r.q r.st r.sl r.sx r.kp r.ax r.th r.ls r.n0 r.n1 r.n2 r.n3 r.pk en Zb=C q:=by
   unfold oh;obtain⟨k,n,q,e1,e2⟩:=cE5 h hm b en Zb;rw[e1];simp only[zG];exact lm (lm (lm ⟨_,rfl⟩ ⟨_,rfl⟩) ⟨_,rfl⟩) ⟨_,rfl⟩
  obtain⟨q1,hq⟩:=hw;rw[zD,hq];simp only[zG];cases q1 with
  |false=>exact⟨i,s,r,en,Zb,_,by omega,⟨b,wz⟩,rfl⟩
  |true=>
   rw[aB,zD];cases m with
   |false=>exact⟨i,s,r,Za,Zb,_,by omega,⟨b,wz⟩,rfl⟩
   |true=>
    rw[aB,zD];obtain⟨r',e',b',hd,_⟩:=bs3 h wT hm hi b (0,0);by_cases he:e'=0
    .refine⟨i+1,_,r',en,Zb,0,by omega,⟨b',cP6 h b.H.has.w wz _⟩,(ag0 (hd rfl)).trans ?_⟩;show cond (Zc (e'≠0)) _ _=_;rw[zA (λk=>k he)];rfl
    .refine⟨i,s,r,en,Za,e',by omega,⟨b,wz⟩,(ag0 (hd rfl)).trans ?_⟩;show cond (Zc (e'≠0)) _ _=_;rw[zB he];rfl
theorem df2 (h:c.Ok)(wT:cg c.T)(hm:c.mode≠3){l:Zd}(hl:l.length<=80){s:Dy}{r:RS}(b:Both2 c 0 s r)(wz:du s.z):
  ∃j s' r' en fa,(Both2 c j s' r'/\du s'.z)/\ca (db l) dq (0,c.mode,c.X,c.T,c.R,c.l,c.Q,c.k,c.len,c.words,c.mode,c.X,c.T,c.R,c.l,c.Q,c.k,c.len,c.words,c.R,c.l,c.Q,c.k,(c.X.length:Int),c.T,c.fixed,c.tp,c.sl,c.ns,r.L,r.p,r.q,r.st,r.sl,r.sx,r.kp,r.ax,r.th,r.ls,r.n0,r.n1,r.n2,r.n3,r.pk,Zb,Zb)=C (c.mode,c.X,c.T,c.R,c.l,c.Q,c.k,c.len,c.words,c.mode,c.X,c.T,c.R,c.l,c.Q,c.k,c.len,c.words,c.R,c.l,c.Q,c.k,(c.X.length:Int),c.T,c.fixed,c.tp,c.sl,c.ns,r'.L,r'.p,r'.q,r'.st,r'.sl,r'.sx,r'.kp,r'.ax,r'.th,r'.ls,r'.n0,r'.n1,r'.n2,r'.n3,r'.pk,en,fa):=by
 obtain⟨y,h1,j,s',r',en,fa,h2,h3⟩:=lx (f:=db l) (a:=(0,c.mode,c.X,c.T,c.R,c.l,c.Q,c.k,c.len,c.words,c.mode,c.X,c.T,c.R,c.l,c.Q,c.k,c.len,c.words,c.R,c.l,c.Q,c.k,(c.X.length:Int),c.T,c.fixed,c.tp,c.sl,c.ns,r.L,r.p,r.q,r.st,r.sl,r.sx,r.kp,r.ax,r.th,r.ls,r.n0,r.n1,r.n2,r.n3,r.pk,Zb,Zb)) (λa=> ∃(i j:Nat) (s:Dy) (r:RS) (en fa:Bool),a=((i:Int),c.mode,c.X,c.T,c.R,c.l,c.Q,c.k,c.len,c.words,c.mode,c.X,c.T,c.R,c.l,c.Q,c.k,c.len,c.words,c.R,c.l,c.Q,c.k,(c.X.length:Int),c.T,c.fixed,c.tp,c.sl,c.ns,r.L,r.p,r.q,r.st,r.sl,r.sx,r.kp,r.ax,r.th,r.ls,r.n0,r.n1,r.n2,r.n3,r.pk,en,fa)/\i<=l.length/\j<=i/\(Both2 c j s r/\du s.z)) (λa=>((l.length:Int)-a.1).toNat) (λy=> ∃(j:Nat) (s':Dy) (r':RS) (en fa:Bool),y=(c.mode,c.X,c.T,c.R,c.l,c.Q,c.k,c.len,c.words,c.mode,c.X,c.T,c.R,c.l,c.Q,c.k,c.len,c.words,c.R,c.l,c.Q,c.k,(c.X.length:Int),c.T,c.fixed,c.tp,c.sl,c.ns,r'.L,r'.p,r'.q,r'.st,r'.sl,r'.sx,r'.kp,r'.ax,r'.th,r'.ls,r'.n0,r'.n1,r'.n2,r'.n3,r'.pk,en,fa)/\(Both2 c j s' r'/\du s'.z)) ⟨0,0,s,r,Zb,Zb,rfl,Nat.zero_le _,Nat.le_refl _,b,wz⟩ (by simp only;omega) (λa ha=>by
  obtain⟨i,j,s,r,en,fa,rfl,hi,hj,b,wz⟩:=ha;by_cases hlt:i<l.length
  .left;by_cases hx:l[i]=0
   .obtain⟨j',s',r',en',fa',k,n,q,x,hj',b',hd⟩:=dj4 h wT hm (i:=j) (by omega) b wz en fa;refine⟨(((i+1:Nat):Int),c.mode,c.X,c.T,c.R,c.l,c.Q,c.k,c.len,c.words,c.mode,c.X,c.T,c.R,c.l,c.Q,c.k,c.len,c.words,c.R,c.l,c.Q,c.k,(c.X.length:Int),c.T,c.fixed,c.tp,c.sl,c.ns,r'.L,r'.p,r'.q,r'.st,r'.sl,r'.sx,r'.kp,r'.ax,r'.th,r'.ls,r'.n0,r'.n1,r'.n2,r'.n3,r'.pk,en',fa'), ?_,⟨i+1,j',s',r',en',fa',rfl,hlt,by omega,b'⟩,by simp only;omega⟩;simp only[db];rw[zB (by omega),zC,ci hlt];simp only[zG];rw[zB hx,zC];refine(ag0 hd).trans ?_;show C (aD (IntKind.i64.wrap ((i:Int)+1),_))=_;rw[bq (by omega),show(i:Int)+1=((i+1:Nat):Int)by omega]
   .obtain⟨j',s',r',en',fa',x,hj',b',hd⟩:=dd6 h wT hm (i:=j) (by omega) b wz en fa (Zc (l[i]=1));refine⟨(((i+1:Nat):Int),c.mode,c.X,c.T,c.R,c.l,c.Q,c.k,c.len,c.words,c.mode,c.X,c.T,c.R,c.l,c.Q,c.k,c.len,c.words,c.R,c.l,c.Q,c.k,(c.X.length:Int),c.T,c.fixed,c.tp,c.sl,c.ns,r'.L,r'.p,r'.q,r'.st,r'.sl,r'.sx,r'.kp,r'.ax,r'.th,r'.ls,r'.n0,r'.n1,r'.n2,r'.n3,r'.pk,en',fa'), ?_,⟨i+1,j',s',r',en',fa',rfl,hlt,by omega,b'⟩,by simp only;omega⟩;simp only[db];rw[zB (by omega),zC,ci hlt];simp only[zG];rw[zA hx,zD];refine(ag0 hd).trans ?_;show C (aD (IntKind.i64.wrap ((i:Int)+1),_))=_;rw[bq (by omega),show(i:Int)+1=((i+1:Nat):Int)by omega]
  .right;have hie:i=l.length:=by omega
   subst hie;refine⟨_, ?_,j,s,r,en,fa,rfl,b,wz⟩;simp only[db]
   rw[zA (by omega),zD])
 exact⟨j,s',r',en,fa,h3,by rw[h1,h2]⟩
end
end
section
open Go.IntKind renaming wrap -> zH, i64 -> zI, u64 -> zJ
open Bool renaming true_and -> aD
open Nat renaming beq -> aB
theorem ay7 :jx=C Za:=by kernel_rfl
theorem cX6 {wh v z0 z1 z2 z3 z4 z5 z6 z7 z8 z9 z10 z11 z12 z13:Int}(hv:du v)(h0:du z0)(h1:du z1)(h2:du z2)(h3:du z3)(h4:du z4)(h5:du z5)(h6:du z6)(h7:du z7)(h8:du z8)(h9:du z9)(h10:du z10)(h11:du z11)(h12:du z12)(h13:du z13):
  ∃y0 y1 y2 y3 y4 y5 y6 y7 y8 y9 y10 y11 y12 y13 y14 y15,(((cond (Zc (0<=wh)) (cond (Zc (wh<16)) ((ix wh 16).bind λj78=>C (((cond (aB j78 0) v z0),(cond (aB j78 1) v z1),(cond (aB j78 2) v z2),(cond (aB j78 3) v z3),(cond (aB j78 4) v z4),(cond (aB j78 5) v z5),(cond (aB j78 6) v z6),(cond (aB j78 7) v z7),(cond (aB j78 8) v z8),(cond (aB j78 9) v z9),(cond (aB j78 10) v z10),(cond (aB j78 11) v z11),(cond (aB j78 12) v z12),(cond (aB j78 13) v z13),(cond (aB j78 14) v 0),(cond (aB j78 15) v 0)))) (C ((z0,z1,z2,z3,z4,z5,z6,z7,z8,z9,z10,z11,z12,z13,0,0)))) (C ((z0,z1,z2,z3,z4,z5,z6,z7,z8,z9,z10,z11,z12,z13,0,0)))):Option (Int×Int×Int×Int×Int×Int×Int×Int×Int×Int×Int×Int×Int×Int×Int×Int)))=C (y0,y1,y2,y3,y4,y5,y6,y7,y8,y9,y10,y11,y12,y13,y14,y15)/\(du y0/\du y1/\du y2/\du y3/\du y4/\du y5/\du y6/\du y7/\du y8/\du y9/\du y10/\du y11/\du y12/\du y13/\du y14/\du y15):=by
 have h0':du 0:=⟨by omega,by omega⟩;have hc: ∀(b:Bool) {x:Int},du x->du (cond b v x):=λb x hx=>by cases b<;>assumption
 by_cases c1:0<=wh
 .by_cases c2:wh<16
  .obtain⟨n,rfl⟩:=Int.eq_ofNat_of_zero_le c1;rw[zB c1,zB c2,zC,zC,cl (show n<16 by omega)];exact⟨_,_,_,_,_,_,_,_,_,_,_,_,_,_,_,_,rfl,hc _ h0,hc _ h1,hc _ h2,hc _ h3,hc _ h4,hc _ h5,hc _ h6,hc _ h7,hc _ h8,hc _ h9,hc _ h10,hc _ h11,hc _ h12,hc _ h13,hc _ h0',hc _ h0'⟩
  .rw[zB c1,zA c2,zC,zD];exact⟨_,_,_,_,_,_,_,_,_,_,_,_,_,_,_,_,rfl,h0,h1,h2,h3,h4,h5,h6,h7,h8,h9,h10,h11,h12,h13,h0',h0'⟩
 .rw[zA c1,zD];exact⟨_,_,_,_,_,_,_,_,_,_,_,_,_,_,_,_,rfl,h0,h1,h2,h3,h4,h5,h6,h7,h8,h9,h10,h11,h12,h13,h0',h0'⟩
def bI (b:Bool):Int:=cond b 1 0
def az3 (m L q y12 y13:Int):Bool:=cond (Zc (1<y12)) Zb (cond (Zc (1<y13)) Zb (cond (Zc (1<IntKind.u64.wrap (y12+y13))) Zb (cond (Zc (m≠2)) (Zc (zH zJ (y12+y13)=0)) (cond (Zc (y13=1)) (cond (!(Zc (0<=q))) (Zc (L=65535)) Zb) (cond (Zc (y12=1)) Za (!(Zc (0<=q))))))))
theorem aD7 {m L q y12 y13:Int}(h:az3 m L q y12 y13=Za):y12<=1/\y13<=1:=by
 unfold az3 at h;by_cases c1:1<y12
 .rw[zB c1]at h;cases h
 by_cases c2:1<y13
 .rw[zA c1,zB c2]at h;cases h
 omega
theorem bJ0 {y:Int}(w:du y)(h:y<=1):bI (Zc (y=1))=y:=by
 unfold du at w;by_cases c:y=1
 .rw[zB c,c];rfl
 .rw[zA c];show(0:Int)=y;omega
theorem da5 {y:Int}(w:du y):zH zJ y=y:=nZ w
theorem InW {h l:Zd}(hi:In (h++(l.length:Int)::l)):In (W36 h l):=by
 intro x hx;unfold W36 at hx;rcases List.mem_append.1 hx with hx|hx
 .exact hi x hx
 .rw[List.mem_singleton.1 hx];exact dq0 _
section
variable {c:Cx} {g:Zd} {y0 y1 y2 y3 y4 y5 y6 y7 y8 y9 y10 y11 y12 y13 y14 y15:Int}
theorem db0 {g:Zd}(hg:cg g)(hl:g.length<=1048576)(w0:du y0)(w1:du y1)(w2:du y2)(w3:du y3)(w4:du y4)(w5:du y5)(w6:du y6)(w7:du y7)(w8:du y8)(w9:du y9)(w10:du y10)(w11:du y11)(w12:du y12)(w13:du y13)(w14:du y14)(w15:du y15):In ([y0,y1,y2,y3,y4,y5,y6,y7,y8,y9,y10,y11,y12,y13,y14,y15]++(g.length:Int)::g):=by
 intro x hx;have k: ∀{y:Int},du y->0<=y/\y<=18446744073709551615:=λw=>⟨w.1,by have:=w.2;omega⟩
 simp only[List.mem_append,List.mem_cons,List.not_mem_nil,or_false]at hx;rcases hx with(h|h|h|h|h|h|h|h|h|h|h|h|h|h|h|h)|h|h
 .subst h;exact k w0
 .subst h;exact k w1
 .subst h;exact k w2
 .subst h;exact k w3
 .subst h;exact k w4
 .subst h;exact k w5
 .subst h;exact k w6
 .subst h;exact k w7
 .subst h;exact k w8
 .subst h;exact k w9
 .subst h;exact k w10
 .subst h;exact k w11
 .subst h;exact k w12
 .subst h;exact k w13
 .subst h;exact k w14
 .subst h;exact k w15
 .subst h;omega
 .exact k (hg x h)
theorem cr3 (h:c.Ok)(hg:cg g)(hl:g.length<=1048576)(w0:du y0)(w1:du y1)(w2:du y2)(w3:du y3)(w4:du y4)(w5:du y5)(w6:du y6)(w7:du y7)(w8:du y8)(w9:du y9)(w10:du y10)(w11:du y11)(w12:du y12)(w13:du y13)(w14:du y14)(w15:du y15){bf:Bool}(hf:sJ c.mode c.X c.T c.R c.l c.Q c.k c.len c.words g y0 y1 y2 y3 y4 y5 y6 y7 y8 y9 y10 y11 y12 y13 y14 y15=C bf):
  mw c.mode c.X c.T c.R c.l c.Q c.k c.len c.words (W36 [y0,y1,y2,y3,y4,y5,y6,y7,y8,y9,y10,y11,y12,y13,y14,y15] g)=C (cond (bf&&az3 c.mode y1 (y3-1) y12 y13) 0 3):=by
 have hm:=h.num.mode;unfold mw;rw[cz6 _ (by rw[aC0 rfl];omega) (InW (db0 hg hl w0 w1 w2 w3 w4 w5 w6 w7 w8 w9 w10 w11 w12 w13 w14 w15)),bw7];simp only[zG,cZ5];rw[zA (show¬((0:Int)≠0)by simp),zD];refine bE hf ?_;cases bf with
 |false=>rfl
 |true=>
  simp only[Bool.not_true,zD,aD];unfold az3;have a12:=w12.1;have a13:=w13.1;have a3:=w3.1;by_cases c1:1<y12
  .rw[zB c1];rfl
  rw[zA c1];simp only[zD];by_cases c2:1<y13
  .rw[zB c2];rfl
  rw[zA c2];simp only[zD];rw[nZ (show 0<=y12+y13/\y12+y13<18446744073709551616 by omega)];by_cases c3:1<y12+y13
  .rw[zB c3];rfl
  rw[zA c3];simp only[zD];by_cases c4:c.mode=2
  .rw[zA (not_not_intro c4),zB c4];simp only[zD,zC,zG,ck];by_cases c5:y13=1
   .have c6:y12=0:=by omega
    rw[zB c5];simp only[zC];by_cases c7:0<y3
    .rw[zB c7,zB (show 0<=y3-1 by omega)];rfl
    .rw[zA c7,zA (show¬0<=y3-1 by omega)];simp only[zD,Bool.not_false,zC];by_cases c8:y1=65535
     .rw[zA (not_not_intro c8),zB c8,zB c6];rfl
     .rw[zB c8,zA c8];rfl
   .rw[zA c5];simp only[zD,zG,ck];by_cases c6:y12=0
    .rw[zB c6,zA (show¬y12=1 by omega)];by_cases c7:0<y3
     .rw[zB c7,zB (show 0<=y3-1 by omega)];rfl
     .rw[zA c7,zA (show¬0<=y3-1 by omega)];rfl
    .rw[zA c6,zB (show y12=1 by omega)];rfl
  .rw[zB c4,zA c4];simp only[zD,zC,zG];by_cases c5:0<y12+y13
   .rw[zB c5,zA (show¬y12+y13=0 by omega)];rfl
   .rw[zA c5,zB (show y12+y13=0 by omega)];rfl
theorem dy2 (s:Dy)(m y12 y13:Int)(a b:Bool):lB y12 y13 m a b c.fixed c.tp c.sl c.ns c.mode c.R c.Q c.len c.words s.L s.p s.q s.c0 s.c1 s.c2 s.c3 s.z c.X c.T c.l c.k c.P c.tk s.lv s.pk c.words s.W=C (az3 m s.L s.q y12 y13):=by
 unfold lB;rw[dj0,show rk c.fixed c.tp c.sl c.ns c.mode c.R c.Q c.len c.words s.L s.p s.q s.c0 s.c1 s.c2 s.c3 s.z c.X c.T c.l c.k c.P c.tk s.lv s.pk c.words s.W=C s.L from rfl];simp only[zG];unfold az3;cases Zc (1<y12)<;>cases Zc (1<y13)<;>cases Zc (1<IntKind.u64.wrap (y12+y13))<;>cases Zc (m≠2)<;>cases Zc (y13=1)<;>cases Zc (0<=s.q)<;>cases Zc (y12=1)<;>rfl
theorem cF8 (h:c.Ok)(hm:c.mode≠3)(s:Dy)(hW:Wd c s.W)(ht: ∀k,k<c.ns.toNat->0<=eu c s.W k/\eu c s.W k<=65536):fi c.fixed c.tp c.sl c.ns c.mode c.R c.Q c.len c.words s.L s.p s.q s.c0 s.c1 s.c2 s.c3 s.z c.X c.T c.l c.k c.P c.tk (c.off 8:Int) c.ns (c.X.length:Int) s.lv s.pk c.words s.W=C (s.p,s.q,vS c s.W):=by
 unfold fi;rw[ce0 h hm hW ht];rfl
theorem dy3 (h:c.Ok)(hm:c.mode≠3)(s:Dy)(hW:Wd c s.W)(ht: ∀k,k<c.ns.toNat->0<=eu c s.W k/\eu c s.W k<=65536)(m y12 y13:Int)(a b:Bool):lC y12 y13 m a b c.fixed c.tp c.sl c.ns c.mode c.R c.Q c.len c.words s.L s.p s.q s.c0 s.c1 s.c2 s.c3 s.z c.X c.T c.l c.k c.P c.tk (c.off 8:Int) c.ns (c.X.length:Int) s.lv s.pk c.words s.W=C (az3 m s.L s.q y12 y13):=by
 unfold lC;rw[cF8 h hm s hW ht,show jf c.fixed c.tp c.sl c.ns c.mode c.R c.Q c.len c.words s.L s.p s.q s.c0 s.c1 s.c2 s.c3 s.z c.X c.T c.l c.k c.P c.tk (c.off 8:Int) c.ns (c.X.length:Int) s.lv s.pk c.words s.W=C s.L from rfl];simp only[zG];unfold az3;cases Zc (1<y12)<;>cases Zc (1<y13)<;>cases Zc (1<IntKind.u64.wrap (y12+y13))<;>cases Zc (m≠2)<;>cases Zc (y13=1)<;>cases Zc (0<=s.q)<;>cases Zc (y12=1)<;>rfl
theorem dy4 (h:c.Ok)(hm:c.mode≠3)(s:Dy)(hW:Wd c s.W)(ht: ∀k,k<c.ns.toNat->0<=eu c s.W k/\eu c s.W k<=65536)(m y12 y13:Int)(a b:Bool):lD y12 y13 m a b c.fixed c.tp c.sl c.ns c.mode c.R c.Q c.len c.words s.L s.p s.q s.c0 s.c1 s.c2 s.c3 s.z c.X c.T c.l c.k c.P c.tk (c.off 8:Int) c.ns (c.X.length:Int) s.lv s.pk c.words s.W=C (az3 m s.L s.q y12 y13):=by
 unfold lD;rw[cF8 h hm s hW ht,show jf c.fixed c.tp c.sl c.ns c.mode c.R c.Q c.len c.words s.L s.p s.q s.c0 s.c1 s.c2 s.c3 s.z c.X c.T c.l c.k c.P c.tk (c.off 8:Int) c.ns (c.X.length:Int) s.lv s.pk c.words s.W=C s.L from rfl];simp only[zG];unfold az3;cases Zc (1<y12)<;>cases Zc (1<y13)<;>cases Zc (1<IntKind.u64.wrap (y12+y13))<;>cases Zc (m≠2)<;>cases Zc (y13=1)<;>cases Zc (0<=s.q)<;>cases Zc (y12=1)<;>rfl
def cS5 (c:Cx)(s:Dy)(en fa:Bool):Zd:=W36 [zH zJ c.mode,zH zJ s.L,zH zJ s.p,zH zJ (zH zI (s.q+1)),zH zJ c.ns,zH zJ s.c0,zH zJ s.c1,zH zJ s.c2,zH zJ s.c3,zH zJ s.lv,zH zJ s.pk,s.z,bI en,bI fa,0,0] s.W
theorem aC9 (b:Bool):kN b=C (bI b):=by cases b<;>rfl
theorem dx8 (h:c.Ok){s:Dy}(hW:Wd c s.W)(hl:s.W.length<=1048576)(m:Int)(en fa:Bool):jP m en fa c.fixed c.tp c.sl c.ns c.mode c.R c.Q c.len c.words s.L s.p s.q s.c0 s.c1 s.c2 s.c3 s.z c.X c.T c.l c.k c.P c.tk s.lv s.pk c.words s.W=C (cS5 c s en fa):=by
 unfold jP ou;rw[cP1,aC9,aC9,dr7 h hW];simp only[zG,cY3];rw[al9 _ _ _ _ _ _ _ _ _ _ _ _ _ _ _ _ _ hl];rfl
theorem dx9 (h:c.Ok){s:Dy}(hW:Wd c s.W)(hl:s.W.length<=1048576)(m:Int)(en fa:Bool):jQ m en fa c.fixed c.tp c.sl c.ns c.mode c.R c.Q c.len c.words s.L s.p s.q s.c0 s.c1 s.c2 s.c3 s.z c.X c.T c.l c.k c.P c.tk (c.off 8:Int) c.ns (c.X.length:Int) s.lv s.pk c.words s.W=C (cS5 c s en fa):=by
 unfold jQ mK;rw[ci4,aC9,aC9,cT1 h hW];simp only[zG,cY3];rw[al9 _ _ _ _ _ _ _ _ _ _ _ _ _ _ _ _ _ hl];rfl
theorem dy0 (h:c.Ok){s:Dy}(hW:Wd c s.W)(hl:s.W.length<=1048576)(m:Int)(en fa:Bool):jR m en fa c.fixed c.tp c.sl c.ns c.mode c.R c.Q c.len c.words s.L s.p s.q s.c0 s.c1 s.c2 s.c3 s.z c.X c.T c.l c.k c.P c.tk (c.off 8:Int) c.ns (c.X.length:Int) s.lv s.pk c.words s.W=C (cS5 c s en fa):=by
 unfold jR mL;rw[ci4,aC9,aC9,cT1 h hW];simp only[zG,cY3];rw[al9 _ _ _ _ _ _ _ _ _ _ _ _ _ _ _ _ _ hl];rfl
theorem cc7 {s:Dy}(hl:s.W.length<=1048576)(en fa:Bool):ib (cS5 c s en fa)=C (zH zJ c.mode,zH zJ s.L,zH zJ s.p,zH zJ (zH zI (s.q+1)),zH zJ c.ns,zH zJ s.c0,zH zJ s.c1,zH zJ s.c2,zH zJ s.c3,zH zJ s.lv,zH zJ s.pk,s.z,bI en,bI fa,0,0,0,s.W):=by
 unfold cS5;rw[zN _ (by rw[aC0 rfl];omega),bw7]
theorem du5 (h:c.Ok)(e:jc c.mode c.X.length c.T.length c.R c.l c.Q c.k c.len c.words=(c.fixed,c.tp,c.sl,c.ns,0))(hm:c.mode=3)(hg:cg g)(hl:g.length<=1048576)(w1:du y1)(w2:du y2)(w3:du y3)(w9:du y9)(w10:du y10):
  ∃b,(b=Za↔Fit c g y0 y1 y2 y3 y4 y9 y10)/\∀s,s=dz g y1 y2 y3 y5 y6 y7 y8 y9 y10 y11->jS c.mode c.X c.T c.R c.l c.Q c.k c.len c.words (W36 [y0,y1,y2,y3,y4,y5,y6,y7,y8,y9,y10,y11,y12,y13,y14,y15] g)=C (bif b&&az3 c.mode y1 (y3-1) y12 y13 then .inr (.inl (c.mode,Zc (y12=1),Zc (y13=1),c.fixed,c.tp,c.sl,c.ns,c.mode,c.R,c.Q,c.len,c.words,s.L,s.p,s.q,s.c0,s.c1,s.c2,s.c3,s.z,c.X,c.T,c.l,c.k,c.P,c.tk,s.lv,s.pk,c.words,s.W))else .inl 3):=by
 obtain⟨b,hb1,hb2⟩:=cH4 (z0:=y0) (z4:=y4) (z5:=y5) (z6:=y6) (z7:=y7) (z8:=y8) (z11:=y11) (z12:=y12) (z13:=y13) (z14:=y14) (z15:=y15) h e hg hl w1 w2 w3 w9 w10 hm;refine⟨b,hb1,λs hs=> ?_⟩;unfold jS;refine bE ((bY1 hl).trans hb2) ?_;cases b with
 |false=>
  simp only[zD,de,Bool.false_and];rw[zB (show(3:Int)≠0 by decide)];rfl
 |true=>
  simp only[zC,cn,de,aD];rw[<-hs];simp only[do0];refine bE ((zN _ (by rw[aC0 rfl];omega)).trans (congrArg C (bw7 ..))) ?_
  have hof:qr c.mode c.X c.T c.R c.l c.Q c.k c.len c.words c.fixed c.tp c.sl c.ns c.mode c.R c.Q c.len c.words s.L s.p s.q s.c0 s.c1 s.c2 s.c3 s.z c.X c.T c.l c.k c.P c.tk s.lv s.pk c.words s.W=C (c.mode,Zb,Zb):=by
   simp only[qr,hm];rfl
  refine bE hof ?_;refine bE (dy2 s c.mode y12 y13 Zb Zb) ?_;have e1:s.L=y1:=by rw[hs];rfl
  have e2:s.q=y3-1:=by rw[hs];rfl
  rw[e1,e2];cases az3 c.mode y1 (y3-1) y12 y13 with
  |false=>rfl
  |true=>rfl
theorem du6 (h:c.Ok)(e:jc c.mode c.X.length c.T.length c.R c.l c.Q c.k c.len c.words=(c.fixed,c.tp,c.sl,c.ns,0))(hm:c.mode≠3)(hg:cg g)(hl:g.length<=1048576)(hW:Wd c g)(w1:du y1)(w2:du y2)(w3:du y3)(w9:du y9)(w10:du y10):
  ∃b,(b=Za↔Fit c g y0 y1 y2 y3 y4 y9 y10)/\∀s,s=dz g y1 y2 y3 y5 y6 y7 y8 y9 y10 y11->jS c.mode c.X c.T c.R c.l c.Q c.k c.len c.words (W36 [y0,y1,y2,y3,y4,y5,y6,y7,y8,y9,y10,y11,y12,y13,y14,y15] g)=C (bif b&&az3 c.mode y1 (y3-1) y12 y13 then(bif Zc (c.mode=1)then .inr (.inr (.inl (c.mode,Zc (y12=1),Zc (y13=1),c.fixed,c.tp,c.sl,c.ns,c.mode,c.R,c.Q,c.len,c.words,s.L,s.p,s.q,s.c0,s.c1,s.c2,s.c3,s.z,c.X,c.T,c.l,c.k,c.P,c.tk,(c.off 8:Int),c.ns,(c.X.length:Int),s.lv,s.pk,c.words,s.W)))else .inr (.inr (.inr (c.mode,Zc (y12=1),Zc (y13=1),c.fixed,c.tp,c.sl,c.ns,c.mode,c.R,c.Q,c.len,c.words,s.L,s.p,s.q,s.c0,s.c1,s.c2,s.c3,s.z,c.X,c.T,c.l,c.k,c.P,c.tk,(c.off 8:Int),c.ns,(c.X.length:Int),s.lv,s.pk,c.words,s.W))))else .inl 3):=by
 obtain⟨b,hb1,hb2⟩:=cH5 (z0:=y0) (z4:=y4) (z5:=y5) (z6:=y6) (z7:=y7) (z8:=y8) (z11:=y11) (z12:=y12) (z13:=y13) (z14:=y14) (z15:=y15) h e hg hl w1 w2 w3 w9 w10 hm;refine⟨b,hb1,λs hs=> ?_⟩;unfold jS;refine bE ((bY1 hl).trans hb2) ?_;cases b with
 |false=>
  simp only[zD,de,Bool.false_and];rw[zB (show(3:Int)≠0 by decide)];rfl
 |true=>
  have hfit:=hb1.1 rfl;have hsW:s.W=g:=by rw[hs];rfl
  have ht: ∀k,k<c.ns.toNat->0<=eu c s.W k/\eu c s.W k<=65536:=by
   intro k hk;rw[hsW];have:=hfit.2.1 hm k hk;have:=hfit.1.2.2.2.1.1;exact⟨cZ6 hg k,by omega⟩
  have hW':Wd c s.W:=by rw[hsW];exact hW
  simp only[zC,cn,aD];rw[<-hs];simp only[do1];refine bE ((zN _ (by rw[aC0 rfl];omega)).trans (congrArg C (bw7 ..))) ?_;have e1:s.L=y1:=by rw[hs];rfl
  have e2:s.q=y3-1:=by rw[hs];rfl
  by_cases hm1:c.mode=1
  .have hof:mp c.mode c.X c.T c.R c.l c.Q c.k c.len c.words c.fixed c.tp c.sl c.ns c.mode c.R c.Q c.len c.words s.L s.p s.q s.c0 s.c1 s.c2 s.c3 s.z c.X c.T c.l c.k c.P c.tk (c.off 8:Int) c.ns (c.X.length:Int) s.lv s.pk c.words s.W=C (.inl (c.mode,Zb,Zb)):=by
    simp only[mp,hm1];rfl
   refine bE hof ?_;rw[de,zB hm1,zC];refine bE (dy3 h hm s hW' ht c.mode y12 y13 Zb Zb) ?_;rw[e1,e2];cases az3 c.mode y1 (y3-1) y12 y13 with
   |false=>rfl
   |true=>rfl
  .have hm2:c.mode=2:=by have:=h.num.mode;omega
   have hof:mp c.mode c.X c.T c.R c.l c.Q c.k c.len c.words c.fixed c.tp c.sl c.ns c.mode c.R c.Q c.len c.words s.L s.p s.q s.c0 s.c1 s.c2 s.c3 s.z c.X c.T c.l c.k c.P c.tk (c.off 8:Int) c.ns (c.X.length:Int) s.lv s.pk c.words s.W=C (.inr (c.mode,Zb,Zb)):=by
    simp only[mp,hm2];rfl
   refine bE hof ?_;rw[cn,zA hm1,zD];refine bE (dy4 h hm s hW' ht c.mode y12 y13 Zb Zb) ?_;rw[e1,e2];cases az3 c.mode y1 (y3-1) y12 y13 with
   |false=>rfl
   |true=>rfl
end
end
section
open Bool renaming not_true -> aB, and_eq_true -> aD
theorem db5 (b:Bool):du (bI b):=by cases b<;>(unfold bI du;exact⟨by decide,by decide⟩)
section
variable {c:Cx}
theorem de7 (h:c.Ok)(wT:cg c.T)(wX:cg c.X)(hm:c.mode=3)(e:jc c.mode c.X.length c.T.length c.R c.l c.Q c.k c.len c.words=(c.fixed,c.tp,c.sl,c.ns,0))(hs:mq c.mode c.X c.T c.R c.l c.Q c.k c.len c.words=C Za){l:Zd}(hl:l.length<=60){wh v:Int}(hv:du v):fj c.mode c.X c.T c.R c.l c.Q c.k c.len c.words l wh v=C Za:=by
 have nm:=h.num;have hwd:=nm.words;obtain⟨q1,q2⟩:=cV4 h wT wX hm;have b:Both1 c 0 (new1 c) (cV3 c):=⟨bN5 h hm ([]:List (Int×Int)) 0,q1,q2,rfl⟩;obtain⟨j,s,r,en,fa,⟨b',wz⟩,hloop⟩:=df1 h wT hm (l:=l) (by omega) b w0;obtain⟨z0,z1,z2,z3,z4,z5,z6,z7,z8,z9,z10,hsc,hz0,hz1,hz2,hz3,hz4,hz5,hz6,hz7,hz8,hz9,hz10⟩:=cY4 h hm b';obtain⟨g,himg,hg1,hg2⟩:=cq9 h wT hm e b';have hls:du r.ls:=by rw[b'.H.ls];exact wz
 have hgl:g.length<=1048576:=by omega
 have hW:Wd c g:=hg1
 have hfl:og c.mode c.X c.T c.R c.l c.Q c.k c.len c.words c.R c.l c.Q c.k (c.X.length:Int) c.T c.fixed c.tp c.sl c.ns r.L r.p r.q r.st r.sl r.sx r.kp r.ax r.th r.ls r.n0 r.n1 r.n2 r.n3 r.pk en fa=C (z0,z1,z2,z3,z4,z5,z6,z7,z8,z9,z10,r.ls,bI en,bI fa):=by
  unfold og;refine bE hsc ?_;cases en<;>cases fa<;>rfl
 obtain⟨y0,y1,y2,y3,y4,y5,y6,y7,y8,y9,y10,y11,y12,y13,y14,y15,hy,w0,w1,w2,w3,w4,w5,w6,w7,w8,w9,w10,w11,w12,w13,w14,w15⟩:=cX6 (wh:=wh) (v:=v) hv hz0 hz1 hz2 hz3 hz4 hz5 hz6 hz7 hz8 hz9 hz10 hls (db5 en) (db5 fa);obtain⟨bf,hf1,hf2⟩:=cC8 (z0:=y0) (z1:=y1) (z2:=y2) (z3:=y3) (z4:=y4) (z5:=y5) (z6:=y6) (z7:=y7) (z8:=y8) (z9:=y9) (z10:=y10) (z11:=y11) (z12:=y12) (z13:=y13) (z14:=y14) (z15:=y15) h e hg2 hgl w0 w1 w2 w3 w4 w9 w10;obtain⟨bt,ht1,ht2⟩:=du5 (y0:=y0) (y1:=y1) (y2:=y2) (y3:=y3) (y4:=y4) (y5:=y5) (y6:=y6) (y7:=y7) (y8:=y8) (y9:=y9) (y10:=y10) (y11:=y11) (y12:=y12) (y13:=y13) (y14:=y14) (y15:=y15) h e hm hg2 hgl w1 w2 w3 w9 w10
 have hbf:bf=bt:=by
  cases bt with
  |true=>exact hf2.2 (ht1.1 rfl)
  |false=>cases bf with
   |false=>rfl
   |true=>exact absurd (ht1.2 (hf2.1 rfl)) (by simp)
 have hth:=cr3 h hg2 hgl w0 w1 w2 w3 w4 w5 w6 w7 w8 w9 w10 w11 w12 w13 w14 w15 hf1;rw[hbf]at hth;have ht3:=ht2 _ rfl;unfold fj;rw[hs];simp only[zG,aB,zD];rw[zA (show¬(60<((l.length:Nat):Int))by omega)];simp only[zD];refine bE (show nj c.mode c.X c.T c.R c.l c.Q c.k c.len c.words=C _ from by unfold nj;exact(ag0 (cz3 h hm e)).trans rfl) ?_;show cond (Zc ((0:Int)≠0)) _ _=_;rw[zA (show¬((0:Int)≠0)by simp),zD];refine bE hloop ?_;refine bE hfl ?_;refine bE hy ?_;refine bE himg ?_;refine bE (aA0 g y0 y1 y2 y3 y4 y5 y6 y7 y8 y9 y10 y11 y12 y13 y14 y15 hgl (db0 hg2 hgl w0 w1 w2 w3 w4 w5 w6 w7 w8 w9 w10 w11 w12 w13 w14 w15)) ?_;refine bE ht3 ?_;cases hcb:(bt&&az3 c.mode y1 (y3-1) y12 y13)with
 |false=>
  rw[hcb]at hth;rw[zD,de];refine bE hth ?_;rw[ay7];rfl
 |true=>
  rw[hcb]at hth;rw[aD]at hcb;have hmay:=hcb.2;rw[zC];rw[cn,de];refine bE hth ?_;rw[zC,zA (show¬((0:Int)≠0)by simp),zD];refine bE (dx8 h (s:=(dz g y1 y2 y3 y5 y6 y7 y8 y9 y10 y11)) hW hgl c.mode (Zc (y12=1)) (Zc (y13=1))) ?_;refine bE (cc7 (c:=c) (s:=(dz g y1 y2 y3 y5 y6 y7 y8 y9 y10 y11)) hgl (Zc (y12=1)) (Zc (y13=1))) ?_;show cond (Zc ((0:Int)=0)) (cond (Zc (bI (Zc (y12=1))=y12)) (cond (Zc (bI (Zc (y13=1))=y13)) (cond (Zc (IntKind.u64.wrap y2=y2)) ((jx).bind λr93=>C r93) (C Zb)) (C Zb)) (C Zb)) (C Zb)=C Za;rw[zB rfl,zC,zB (bJ0 w12 (aD7 hmay).1),zC,zB (bJ0 w13 (aD7 hmay).2),zC,zB (da5 w2),zC,ay7];rfl
theorem de8 (h:c.Ok)(wT:cg c.T)(wX:cg c.X)(hm:c.mode≠3)(e:jc c.mode c.X.length c.T.length c.R c.l c.Q c.k c.len c.words=(c.fixed,c.tp,c.sl,c.ns,0))(hs:mq c.mode c.X c.T c.R c.l c.Q c.k c.len c.words=C Za){l:Zd}(hl:l.length<=60){wh v:Int}(hv:du v):fj c.mode c.X c.T c.R c.l c.Q c.k c.len c.words l wh v=C Za:=by
 have nm:=h.num;have hwd:=nm.words;obtain⟨q1,q2⟩:=cV5 h wT wX hm;have b:Both2 c 0 (new2 c) (bv9 c):=⟨bN6 h hm ([]:List (Int×Int)) 0,q1,q2⟩;obtain⟨j,s,r,en,fa,⟨b',wz⟩,hloop⟩:=df2 h wT hm (l:=l) (by omega) b w0;obtain⟨z0,z1,z2,z3,z4,z5,z6,z7,z8,z9,z10,hsc,hz0,hz1,hz2,hz3,hz4,hz5,hz6,hz7,hz8,hz9,hz10⟩:=cY5 h hm b';obtain⟨g,himg,hg1,hg2⟩:=cr0 h wT hm e b';have hls:du r.ls:=by rw[b'.H.ls];exact wz
 have hgl:g.length<=1048576:=by omega
 have hW:Wd c g:=hg1
 have hfl:og c.mode c.X c.T c.R c.l c.Q c.k c.len c.words c.R c.l c.Q c.k (c.X.length:Int) c.T c.fixed c.tp c.sl c.ns r.L r.p r.q r.st r.sl r.sx r.kp r.ax r.th r.ls r.n0 r.n1 r.n2 r.n3 r.pk en fa=C (z0,z1,z2,z3,z4,z5,z6,z7,z8,z9,z10,r.ls,bI en,bI fa):=by
  unfold og;refine bE hsc ?_;cases en<;>cases fa<;>rfl
 obtain⟨y0,y1,y2,y3,y4,y5,y6,y7,y8,y9,y10,y11,y12,y13,y14,y15,hy,w0,w1,w2,w3,w4,w5,w6,w7,w8,w9,w10,w11,w12,w13,w14,w15⟩:=cX6 (wh:=wh) (v:=v) hv hz0 hz1 hz2 hz3 hz4 hz5 hz6 hz7 hz8 hz9 hz10 hls (db5 en) (db5 fa);obtain⟨bf,hf1,hf2⟩:=cC8 (z0:=y0) (z1:=y1) (z2:=y2) (z3:=y3) (z4:=y4) (z5:=y5) (z6:=y6) (z7:=y7) (z8:=y8) (z9:=y9) (z10:=y10) (z11:=y11) (z12:=y12) (z13:=y13) (z14:=y14) (z15:=y15) h e hg2 hgl w0 w1 w2 w3 w4 w9 w10;obtain⟨bt,ht1,ht2⟩:=du6 (y0:=y0) (y1:=y1) (y2:=y2) (y3:=y3) (y4:=y4) (y5:=y5) (y6:=y6) (y7:=y7) (y8:=y8) (y9:=y9) (y10:=y10) (y11:=y11) (y12:=y12) (y13:=y13) (y14:=y14) (y15:=y15) h e hm hg2 hgl hW w1 w2 w3 w9 w10
 have hbf:bf=bt:=by
  cases bt with
  |true=>exact hf2.2 (ht1.1 rfl)
  |false=>cases bf with
   |false=>rfl
   |true=>exact absurd (ht1.2 (hf2.1 rfl)) (by simp)
 have hth:=cr3 h hg2 hgl w0 w1 w2 w3 w4 w5 w6 w7 w8 w9 w10 w11 w12 w13 w14 w15 hf1;rw[hbf]at hth;have ht3:=ht2 _ rfl;unfold fj;rw[hs];simp only[zG,aB,zD];rw[zA (show¬(60<((l.length:Nat):Int))by omega)];simp only[zD];refine bE (show nj c.mode c.X c.T c.R c.l c.Q c.k c.len c.words=C _ from by unfold nj;exact(ag0 (cz4 h hm e)).trans rfl) ?_;show cond (Zc ((0:Int)≠0)) _ _=_;rw[zA (show¬((0:Int)≠0)by simp),zD];refine bE hloop ?_;refine bE hfl ?_;refine bE hy ?_;refine bE himg ?_;refine bE (aA0 g y0 y1 y2 y3 y4 y5 y6 y7 y8 y9 y10 y11 y12 y13 y14 y15 hgl (db0 hg2 hgl w0 w1 w2 w3 w4 w5 w6 w7 w8 w9 w10 w11 w12 w13 w14 w15)) ?_;refine bE ht3 ?_;cases hcb:(bt&&az3 c.mode y1 (y3-1) y12 y13)with
 |false=>
  rw[hcb]at hth;rw[zD,de];refine bE hth ?_;rw[ay7];rfl
 |true=>
  rw[hcb]at hth;rw[aD]at hcb;have hmay:=hcb.2;rw[zC];by_cases hm1:c.mode=1
  .rw[zB hm1,zC,cn,cn,de];refine bE hth ?_;rw[zC,zA (show¬((0:Int)≠0)by simp),zD];refine bE (dx9 h (s:=(dz g y1 y2 y3 y5 y6 y7 y8 y9 y10 y11)) hW hgl c.mode (Zc (y12=1)) (Zc (y13=1))) ?_;refine bE (cc7 (c:=c) (s:=(dz g y1 y2 y3 y5 y6 y7 y8 y9 y10 y11)) hgl (Zc (y12=1)) (Zc (y13=1))) ?_;show cond (Zc ((0:Int)=0)) (cond (Zc (bI (Zc (y12=1))=y12)) (cond (Zc (bI (Zc (y13=1))=y13)) (cond (Zc (IntKind.u64.wrap y2=y2)) ((jx).bind λr93=>C r93) (C Zb)) (C Zb)) (C Zb)) (C Zb)=C Za;rw[zB rfl,zC,zB (bJ0 w12 (aD7 hmay).1),zC,zB (bJ0 w13 (aD7 hmay).2),zC,zB (da5 w2),zC,ay7];rfl
  .rw[zA hm1,zD,cn,cn,cn];refine bE hth ?_;rw[zC,zA (show¬((0:Int)≠0)by simp),zD];refine bE (dy0 h (s:=(dz g y1 y2 y3 y5 y6 y7 y8 y9 y10 y11)) hW hgl c.mode (Zc (y12=1)) (Zc (y13=1))) ?_;refine bE (cc7 (c:=c) (s:=(dz g y1 y2 y3 y5 y6 y7 y8 y9 y10 y11)) hgl (Zc (y12=1)) (Zc (y13=1))) ?_;show cond (Zc ((0:Int)=0)) (cond (Zc (bI (Zc (y12=1))=y12)) (cond (Zc (bI (Zc (y13=1))=y13)) (cond (Zc (IntKind.u64.wrap y2=y2)) ((jx).bind λr93=>C r93) (C Zb)) (C Zb)) (C Zb)) (C Zb)=C Za;rw[zB rfl,zC,zB (bJ0 w12 (aD7 hmay).1),zC,zB (bJ0 w13 (aD7 hmay).2),zC,zB (da5 w2),zC,ay7];rfl
end
theorem cm4 {a0:Int}{a1 a2:Zd}{a3:Int}{a4:List cq}{a5:Int}{a6:List cq}{a7 a8:Int}{a9:Zd}{a10 a11:Int}(h1:cg a1)(h2:cg a2)(h4: ∀o∈a4,okV o)(h6: ∀o∈a6,okV o)(hv:du a11):fj a0 a1 a2 a3 a4 a5 a6 a7 a8 a9 a10 a11=C Za:=by
 rcases di9 (a0:=a0) (a1:=a1) (a2:=a2) (a3:=a3) (a5:=a5) (a7:=a7) (a8:=a8) h4 h6 with hs|⟨hs,o4,o6,x1,x2⟩
 .unfold fj;rw[hs,ay7];rfl
 by_cases c1:(60:Int)<((a9.length:Nat):Int)
 .unfold fj;rw[hs];simp only[zG,aB,zD];rw[zB c1,ay7];rfl
 by_cases hp:(jc a0 a1.length a2.length a3 a4 a5 a6 a7 a8).2.2.2.2≠0
 .unfold fj;rw[hs];simp only[zG,aB,zD];rw[zA c1];simp only[zD];refine bE (show nj a0 a1 a2 a3 a4 a5 a6 a7 a8=C _ from by unfold nj;exact(ag0 (cM6 o4 o6 hp)).trans rfl) ?_;show cond (Zc ((jc a0 a1.length a2.length a3 a4 a5 a6 a7 a8).2.2.2.2≠0)) _ _=_;rw[zB hp,zC];refine bE (aA0 [] 0 0 0 0 0 0 0 0 0 0 0 0 0 0 0 0 (by simp) (db0 cj0 (by simp) w0 w0 w0 w0 w0 w0 w0 w0 w0 w0 w0 w0 w0 w0 w0 w0)) ?_
  refine bE (show jS a0 a1 a2 a3 a4 a5 a6 a7 a8 (W36 [0,0,0,0,0,0,0,0,0,0,0,0,0,0,0,0] [])=C (.inl (jc a0 a1.length a2.length a3 a4 a5 a6 a7 a8).2.2.2.2)from by
   unfold jS;refine bE ((bY1 (by simp)).trans (cH3 o4 o6 hp)) ?_;rw[de,zB hp]
   rfl) ?_
  rw[de,zB rfl,zC,ay7];rfl
 obtain⟨c,hc,e0,e1,e2,e3,e4,e5,e6,e7,e8,e9⟩:=dF1 o4 o6 (show(jc a0 a1.length a2.length a3 a4 a5 a6 a7 a8).2.2.2.2=0 by omega);subst e0 e1 e2 e3 e4 e5 e6 e7 e8;by_cases hm:c.mode=3
 .exact de7 hc h2 h1 hm e9 hs (by omega) hv
 .exact de8 hc h2 h1 hm e9 hs (by omega) hv
end
end Go.V
