/- A part of the proofs of this claim: what functions of the program answer on an abstract machine, and plain laws. No condition. -/
import Derived.Test.YtbocegmeciaanaaGreatL3
set_option linter.unusedVariables false
set_option linter.unusedSimpArgs false
set_option linter.unusedSectionVars false
namespace Go.V
open Go.Ab
section
set_option maxRecDepth 100000
section
variable {c:Cx} {r:RS}
theorem bi4 {s:Dy}(H:RelD c s r)(hL:0≤s.L∧s.L≤65535):pE c.mode c.X c.T c.R c.l c.Q c.k c.len c.words c.R c.l c.Q c.k (c.X.length:Int) c.T c.fixed c.tp c.sl c.ns r.L r.p r.q r.st r.sl r.sx r.kp r.ax r.th r.ls r.n0 r.n1 r.n2 r.n3 r.pk=some (encR c {r with L:=(mI c s).2.L} (mI c s).1):=by
 have eL:=H.L;have eq':=H.q;have e0:({r with L:=s.L}:RS)=r:=by rw[←eL]
 unfold pE mI;by_cases h1:c.mode≠2
 ·rw[zB h1,zC,zE h1];simp only;rw[e0];rfl
 rw[zA h1,zD,zF h1];by_cases h2:0≤s.q
 ·rw[zB (show 0≤r.q by omega),zC,zE h2];simp only;rw[e0];rfl
 rw[zA (show¬0≤r.q by omega),zD,zF h2];by_cases h3:s.L=65535
 ·rw[zB (show r.L=65535 by omega),zC,zE h3];simp only;rw[e0];rfl
 rw[zA (show¬r.L=65535 by omega),zD,zF h3,eL,bk (by omega)];rfl
theorem RelD.more {s:Dy}(H:RelD c s r):RelD c (mI c s).2 {r with L:=(mI c s).2.L}:=by
 rw[bg5];exact⟨rfl,H.p,H.q,H.n0,H.n1,H.n2,H.n3,H.ls,H.pk,H.has⟩
end
end
section
open Int renaming toNat_natCast → bB, reduceEq → bD
open List renaming length_append → aB, length_singleton → aD, getD_eq_getElem?_getD → cB, length_take → cD, take_of_length_le → dB, getElem?_eq_getElem → fB
open Nat renaming le_of_eq → dD, le_refl → eD
theorem cr4 {l:List Int}{j i:Nat}{v:Int}(h:j≠i):rg (l.set j v) (i:Int)=rg l (i:Int):=by
 unfold rg;rw[bB,cB,cB,List.getElem?_set_ne h]
theorem bT9 {l:List Int}{j:Nat}{v:Int}(h:j<l.length):rg (l.set j v) (j:Int)=v:=by
 unfold rg;rw[bB,cB,List.getElem?_set_self h];rfl
theorem br6 (t:List Int): ∀(l:List cu) (r a a':List Int) (n:Nat),(xP (nT t) l (r,a,n)).1=(xP (nT t) l (r,a',n)).1∧(xP (nT t) l (r,a,n)).2.2=(xP (nT t) l (r,a',n)).2.2
 |[],_,_,_,_=>⟨rfl,rfl⟩
 |o::l,r,a,a',n=>by
  obtain⟨h1,h2⟩:=br6 t l r a a' n;refine⟨?_, ?_⟩
  ·show(xP (nT t) l (r,a,n)).1.set o.2.1.toNat (rg t (((xP (nT t) l (r,a,n)).2.2-1:Nat):Int))=_;rw[h1,h2];rfl
  ·show(xP (nT t) l (r,a,n)).2.2-1=_;rw[h2];rfl
theorem cv5 (t:List Int)(l:List cu)(r a a':List Int)(n:Nat):(xP (nT t) l (r,a,n)).1=(xP (nT t) l (r,a',n)).1:=(br6 t l r a a' n).1
theorem dh9 {a:List Int}: ∀(n:Nat) (l:List cu),l.length=n→∀(r t0 t:List Int),(∀o∈l,inR r.length o)→l.length≤t0.length→(∀i,i<l.length→rg t (i:Int)=rg (uE mq l (r,t0,0)).2.1 (i:Int))→(xP (nT t) l ((uE mq l (r,t0,0)).1,a,l.length)).1=r
 |0,l,hl,r,t0,t,_,_,_=>by
  have:=List.length_eq_zero_iff.1 hl;subst this;rfl
 |n+1,l,hl,r,t0,t,hg,h0,ht=>by
  obtain⟨l0,o,rfl⟩: ∃l0 o,l=l0++[o]:=⟨l.take n,l[n]'(by omega),by
   rw[←List.take_succ_eq_append_getElem (by omega),dB (by omega)]⟩
  rw[aB,aD]at hl h0;have hln:l0.length=n:=by omega
  obtain⟨e1,e2,e3⟩:=aG9 l0 (r,t0,0);rw[bE7];have hf:uE mq (l0++[o]) (r,t0,0)=mq o (uE mq l0 (r,t0,0)):=by rw[aX6];rfl
  rw[hf]at ht⊢;have ih:=dh9 (a:=a) n l0 hln r t0 t (fun x hx=>hg x (by simp[hx])) (by omega);have ha': ∀a',(xP (nT t) l0 ((uE mq l0 (r,t0,0)).1,a',l0.length)).1=(xP (nT t) l0 ((uE mq l0 (r,t0,0)).1,a,l0.length)).1:=fun a'=>cv5 t l0 _ _ _ _
  have hgo:=hg o (by simp);generalize uE mq l0 (r,t0,0)=s at*;have e1:s.1.length=r.length:=e1;have e2:s.2.1.length=t0.length:=e2;have e3:s.2.2=l0.length:=by rw[e3];simp
  obtain⟨kd,ka,kb,q1,q2,q3,g1,g2,g3⟩:=vU hgo;have hv:=ht l0.length (by rw[aB,aD];omega)
  have ht': ∀i,i<l0.length→rg t (i:Int)=rg s.2.1 (i:Int):=fun i hi=>by
   rw[ht i (by rw[aB,aD];omega)];show rg (s.2.1.set s.2.2 (rg s.1 o.2.1)) (i:Int)=_;exact cr4 (by omega)
  have hv':rg t ((l0.length:Nat):Int)=rg s.1 (kd:Int):=by
   rw[hv];show rg (s.2.1.set s.2.2 (rg s.1 o.2.1)) ((l0.length:Nat):Int)=_;rw[e3,q1];exact bT9 (by omega)
  have hone:(xP (nT t) [o] ((mq o s).1,a,(l0++[o]).length)).1=s.1∧(xP (nT t) [o] ((mq o s).1,a,(l0++[o]).length)).2.2=l0.length:=by
   rw[aB,aD];refine⟨?_,by show l0.length+1-1=_;omega⟩;show((s.1.set o.2.1.toNat _).set o.2.1.toNat (rg t ((l0.length+1-1:Nat):Int)))=s.1;rw[q1,bB,List.set_set,Nat.add_sub_cancel,hv',ce1 (by omega)]
  generalize hb:xP (nT t) [o] ((mq o s).1,a,(l0++[o]).length)=b at*;obtain⟨b1,b2,b3⟩:=b;obtain⟨h1,h2⟩:=hone;simp only at h1 h2;subst h1 h2;rw[ha' b2];exact ih ht'
section
variable {c:Cx} {r:RS}
theorem cN6 (W:List Int)(o n m:Nat):seg W o (n+m)=seg W o n++seg W (o+n) m:=by
 unfold seg;rw[List.take_add,List.drop_drop]
theorem co7 (h:c.Ok)(wT:ce c.T)(hm:c.mode=3){s:Dy}(hi:InvB c s)(S:Bas c s r){i:Nat}(hik:i<r.kp.length)(hin:i<c.ns.toNat):vm c s.W i=(mL c (i:Int) r.kp[i]).2.1∧zK c s.W i=(mL c (i:Int) r.kp[i]).1:=by
 obtain⟨k1,k2,k3⟩:=S.kept i hik;obtain⟨f1,f2,f3,f4,f5⟩:=qQ h wT (t:=(i:Int)) k1 k2;obtain⟨s1,s2,s3,s4⟩:=uy h hm hin;have htk:=hi.w.tk h;rw[s1,cN6]at k3;have hl:(seg s.W (mJ c i) c.fl.n).length=c.fl.n:=ib (by omega);exact List.append_inj k3 (hl.trans f4.symm)
theorem cu8 (h:c.Ok)(wT:ce c.T)(hm:c.mode=3){s:Dy}(hi:InvB c s)(H:Has c s.W r.st r.ax r.th)(S:Bas c s r){i:Nat}(hik:i<r.kp.length)(hin:i<c.ns.toNat):
  (ay6 c s.W i).2.1=vk c (i:Int) r.kp[i] r.ax∧(ay6 c s.W i).1.take c.X.length=r.kp[i]:=by
 obtain⟨⟨l1,l2⟩,hR,hQ,x1,x2,t2⟩:=h.lens;obtain⟨k1,k2,k3⟩:=S.kept i hik;obtain⟨e1,e2⟩:=co7 h wT hm hi S hik hin;have hb:=uk (c:=c) (i:Int) k1;have hu:=h.pl.ulen;have hg:=h.pl.goodU;unfold ay6;rw[e1,e2,H.x];refine⟨rfl, ?_⟩;have hfl:(fill c.R (vP c (i:Int) r.kp[i])).length=c.R.toNat:=ik (by omega);have:=dh9 (a:=fill c.R r.ax) c.fl.n c.fl.unroll hu.1 (fill c.R (vP c (i:Int) r.kp[i])) (da c.fl.n) (mL c (i:Int) r.kp[i]).2.1 (fun o ho=>by rw[hfl];exact(hg o ho).1) (by rw[fd];omega) (fun j hj=>rfl);rw[hu.1]at this;show((xP (nT (mL c (i:Int) r.kp[i]).2.1) c.fl.unroll ((mL c (i:Int) r.kp[i]).1,fill c.R r.ax,c.fl.n)).1).take c.X.length=_;have e3:(mL c (i:Int) r.kp[i]).1=(uE mq c.fl.unroll (fill c.R (vP c (i:Int) r.kp[i]),da c.fl.n,0)).1:=rfl;rw[e3,this];unfold fill vP;rw[List.append_assoc,List.take_left' k1]
theorem Bas.kept8 {s s':Dy}{r r':RS}(S:Bas c s r)(hm:c.mode=3)(hK:fm c s.W s'.W)(e1:r'.sl=r.sl)(hl:r'.kp.length≤r.kp.length)(e2:r'.kp=r.kp.take r'.kp.length)(hh:(r'.kp.length:Int)=kr s'):Bas c s' r':=by
 refine⟨e1.trans S.sl,hh,fun i hi=> ?_⟩;have hi':i<r.kp.length:=by omega
 have e3:r'.kp[i]=r.kp[i]:=by
  have:r'.kp[i]?=r.kp[i]?:=by rw[e2,List.getElem?_take,zE hi]
  rw[fB hi,fB hi']at this;injection this
 rw[e3];obtain⟨k1,k2,k3⟩:=S.kept i hi';refine⟨k1,k2, ?_⟩;rw[hK.seg (by unfold mJ;omega)];exact k3
theorem bT5 (h:c.Ok)(wT:ce c.T)(hm:c.mode=3){s:Dy}(hi:InvB c s)(H:RelD c s r)(S:Bas c s r)(hsx:r.sx=0){B:Int}(hc:Cnt B s)(hB:B≤2305843009213693952)(a n:Int):
  ∃r',tD c.mode c.X c.T c.R c.l c.Q c.k c.len c.words c.R c.l c.Q c.k (c.X.length:Int) c.T c.fixed c.tp c.sl c.ns r.L r.p r.q r.st r.sl r.sx r.kp r.ax r.th r.ls r.n0 r.n1 r.n2 r.n3 r.pk a n=some (encR c r' (plF c a n s).1)∧RelD c (plF c a n s).2 r'∧Bas c (plF c a n s).2 r'∧r'.sx=0:=by
 have nm:=h.num;have hW:=hi.w;have hL:=hi.L;have hp:=hi.p;have hq:=hi.q;have hqp:=hi.qp;have hpk:=hi.pk;have hns:=h.ns;have hcr:=H.cnt hc;have hcr':aD5 4611686018427387904 r:=by unfold aD5 at*;omega
 obtain⟨g1,g2,g3,g4,g5,g6,g7⟩:=bf8 h hm hi;obtain⟨k1,k2,k3,k4,k5,k6⟩:=H.has.lens h wT;have hinv:=cj1 h hm hi a n;have Hs:=H.has;obtain⟨⟨z1,z2⟩,hR,hQ,z3,z4,z5⟩:=h.lens;have eL:=H.L;have ep:=H.p;have eq':=H.q;have epk:=H.pk;have hlen:=nm.len;have hkl:=S.len;have htp:=nm.tp;rw[zE hm]at htp;have hlive:=aN4 h hm hi S;have same: ∃r',some (c.mode,c.X,c.T,c.R,c.l,c.Q,c.k,c.len,c.words,c.R,c.l,c.Q,c.k,(c.X.length:Int),c.T,c.fixed,c.tp,c.sl,c.ns,r.L,r.p,r.q,r.st,r.sl,r.sx,r.kp,r.ax,r.th,r.ls,r.n0,r.n1,r.n2,r.n3,r.pk,(plF c a n s).1)=some (encR c r' (plF c a n s).1)∧RelD c s r'∧Bas c s r'∧r'.sx=0:=⟨r,rfl,H,S,hsx⟩
 unfold tD;rw[aT1];simp only[zG];rw[eL,ep,eq']at same hlive⊢;generalize hdo:plF c a n s=d at hinv same⊢;unfold plF at hdo;by_cases hk: ¬(a=8∨a=5∨a=9)
 ·rw[zF (by omega),zF (by omega),zF (by omega)]at hdo;subst hdo;cases hr:mE a n with
  |false=>
   simp only[Bool.not_false,zC,zG,di];exact same
  |true=>
   simp only[Bool.not_true,zD];rw[zB (show a≠5 by omega),zC,zB (show a≠8 by omega),zC,zB (show a≠9 by omega),zC];simp only[zG,di];exact same
 have hk:a=8∨a=5∨a=9:=by omega
 have hr:mE a n=decide (n=0):=by
  unfold mE;rw[zF (by omega),zF (by omega),zF (by omega),zF (by omega)]
 by_cases hn:n≠0
 ·have hdo:(2,s)=d:=by
   rw[←hdo];rcases hk with rfl|rfl|rfl
   ·rw[zE rfl,zE hn]
   ·rw[zF (by omega),zE rfl,zE hn]
   ·rw[zF (by omega),zF (by omega),zE rfl,zE hn]
  subst hdo;rw[hr,zA hn];simp only[Bool.not_false,zC,zG,di];exact same
 have hn0:n=0:=by omega
 rw[hr,zB hn0];simp only[Bool.not_true,zD];rcases hk with rfl|rfl|rfl
 ·
  rw[zE rfl,zF hn]at hdo;simp only[ne_eq,bD,not_false_eq_true,decide_true,zC,not_true_eq_false,decide_false,zD,zG,cn];by_cases h1:0≤s.q
  ·rw[zE h1]at hdo;subst hdo;rw[zB h1,zC];exact same
  rw[zF h1]at hdo;rw[zA h1,zD];by_cases h2:s.p=s.L
  ·rw[zE h2]at hdo;subst hdo;rw[zB h2,zC];exact same
  rw[zF h2]at hdo;subst hdo;have hheld:kr s=s.p:=by unfold kr;rw[zE (by omega)]
  have hkp:(r.kp.length:Int)=s.p:=by rw[hkl,hheld]
  have htake:r.kp.take s.p.toNat=r.kp:=dB (by omega);rw[zA h2,zD];simp only[decide_true];rw[ei,iw (by omega),ei,htake,dk (by omega) (by omega),aC3 h wT (by omega) k1 k4];simp only[zG];rw[bk (n:=s.p+1) (by omega),bk (n:=r.n1+1) (by unfold aD5 at hcr';omega)];obtain⟨v1,v2⟩:=uC h wT (t:=s.p) k1 k4;obtain⟨f1,f2,f3,f4,f5⟩:=qQ h wT (t:=s.p) k1 k4;obtain⟨s1,s2,s3,s4⟩:=uy h hm (i:=s.p.toNat) (by omega);have htk:=hW.tk h;have hT:=Hs.taped h wT s.p;rw[Hs.stepR h]at hT;have hlen2:((mL c s.p r.st).2.1++(mL c s.p r.st).1).length=c.sl.toNat:=by rw[aB,f3,f4,s1]
  have hT2:=hT.put8 h (o:=mJ c s.p.toNat) (w:=(mL c s.p r.st).2.1++(mL c s.p r.st).1) s4 (by rw[hlen2];exact s3) (f2.app f1);have hT3:=hT2.put1 h v1 v2
  have hWe:(put (put (put s.W (c.off 2) (stepR c s.W s.p).1) (mJ c s.p.toNat) ((stepR c s.W s.p).2.1++(stepR c s.W s.p).1)) (c.off 1) ((stepR c s.W s.p).1.take c.X.length))=put (put (put s.W (c.off 2) (mL c s.p r.st).1) (mJ c s.p.toNat) ((mL c s.p r.st).2.1++(mL c s.p r.st).1)) (c.off 1) (uB c s.p r.st):=by
   rw[Hs.stepR h,f5]
  rw[hWe]at hinv⊢;have hK2:fm c s.W (put s.W (c.off 2) (mL c s.p r.st).1):=fm.put h (fm.refl s.W) hW (i:=2) (by omega) (dD f3)
  have hlW:mJ c s.p.toNat+((mL c s.p r.st).2.1++(mL c s.p r.st).1).length≤(put s.W (c.off 2) (mL c s.p r.st).1).length:=by
   have:=hT.wd.tk h;rw[hlen2];omega
  have S': ∀r':RS,r'.sl=r.sl→r'.kp=r.kp++[r.st]→∀s':Dy,s'.q=s.q→s'.p=s.p+1→s'.W=put (put (put s.W (c.off 2) (mL c s.p r.st).1) (mJ c s.p.toNat) ((mL c s.p r.st).2.1++(mL c s.p r.st).1)) (c.off 1) (uB c s.p r.st)→Bas c s' r':=fun r' e1 e2 s' e3 e4 e5=>by
   have hK3:fm c (put (put s.W (c.off 2) (mL c s.p r.st).1) (mJ c s.p.toNat) ((mL c s.p r.st).2.1++(mL c s.p r.st).1)) s'.W:=by
    rw[e5];exact fm.put h (fm.refl _) hT2.wd (i:=1) (by omega) (dD v1)
   refine⟨e1.trans S.sl,by rw[e2,aB,aD];unfold kr;rw[e3,e4,zE (by omega)];omega,fun i hi=> ?_⟩;rw[e2,aB,aD]at hi;have e6:r'.kp[i]'(by rw[e2,aB,aD];exact hi)=(r.kp++[r.st])[i]'(by rw[aB,aD];exact hi):=by simp only[e2]
   rw[e6,hK3.seg (by unfold mJ;omega)];by_cases hlt:i<r.kp.length
   ·rw[List.getElem_append_left hlt];obtain⟨k1',k2',k3'⟩:=S.kept i hlt;refine⟨k1',k2', ?_⟩
    have hd:mJ c i+c.sl.toNat≤mJ c s.p.toNat:=by
     unfold mJ;have:=Nat.mul_le_mul_right c.sl.toNat (show i+1≤s.p.toNat by omega);rw[Nat.succ_mul]at this;omega
    rw[xw hlW (.inl hd),hK2.seg (by unfold mJ;omega)];exact k3'
   ·have hie:i=r.kp.length:=by omega
    subst hie;rw[List.getElem_append_right (eD _)];simp only[Nat.sub_self,List.getElem_singleton];refine⟨k1,k4, ?_⟩;have ek:r.kp.length=s.p.toNat:=by omega
    rw[hkp,ek,←hlen2];exact sF hlW
  have hl2:=aN4 (r:={r with L:=s.L,p:=s.p+1,q:=s.q,st:=uB c s.p r.st,kp:=r.kp++[r.st],n1:=r.n1+1}) h hm hinv (by refine S' _ ?_ ?_ _ ?_ ?_ ?_<;>rfl);rw[show iu c.mode c.X c.T c.R c.l c.Q c.k c.len c.words c.R c.l c.Q c.k (c.X.length:Int) c.T c.fixed c.tp c.sl c.ns s.L (s.p+1) s.q (uB c s.p r.st) r.sl r.sx (r.kp++[r.st]) r.ax r.th r.ls r.n0 (r.n1+1) r.n2 r.n3 r.pk=_ from hl2];simp only[zG];exact⟨{r with L:=s.L,p:=s.p+1,q:=s.q,st:=uB c s.p r.st,kp:=r.kp++[r.st],n1:=r.n1+1,pk:=max r.pk (s.lv+c.sl)},rfl,⟨rfl,rfl,rfl,H.n0,by show r.n1+1=s.c1+1;rw[H.n1],H.n2,H.n3,H.ls,by show max r.pk _=max s.pk _;rw[epk],hT3⟩,(by refine S' _ ?_ ?_ _ ?_ ?_ ?_<;>rfl),hsx⟩
 ·
  rw[zF (by omega),zE rfl,zF hn]at hdo;simp only[ne_eq,bD,not_false_eq_true,decide_true,zC,not_true_eq_false,decide_false,zD,zG,cn];by_cases h1:0≤s.q
  ·rw[zE h1]at hdo;subst hdo;rw[zB h1,zC];exact same
  rw[zF h1]at hdo;rw[zA h1,zD];by_cases h2:s.p≠s.L
  ·rw[zE h2]at hdo;subst hdo;have h2': ¬s.p=s.L:=h2;simp only[h2',not_false_eq_true,decide_true,zC];exact same
  rw[zF h2]at hdo;subst hdo;have h2':s.p=s.L:=by omega
  have hheld:kr s=s.p:=by unfold kr;rw[zE (by omega)]
  simp only[h2',not_true_eq_false,decide_false,zD];rw[h2']at hlive;rw[h.rof];simp only[zG];rw[hlive];simp only[zG];have hfk:=h.pk.n;rw[bk (n:=s.lv+(c.fk.n:Int)) (by omega)];have hE:=Hs.endd h wT k1 k4;have eW:seg s.W (c.off 1) c.X.length=r.st:=Hs.s;rw[eW]at hinv⊢;have he:lZ c.mode c.X c.T c.R c.l c.Q c.k c.len c.words c.R c.l c.Q c.k (c.X.length:Int) c.T c.fixed c.tp c.sl c.ns s.L s.L s.L r.st r.sl r.sx r.kp r.ax r.th r.ls r.n0 r.n1 r.n2 r.n3 (max r.pk (s.lv+(c.fk.n:Int))) r.st=_:=aO3 (r:={r with L:=s.L,p:=s.L,q:=s.L,pk:=max r.pk (s.lv+(c.fk.n:Int))}) h wT k1 k4 k3 k6 hcr' (by omega);rw[he];simp only[zG]
  exact⟨{uR c r.st r with L:=s.L,p:=s.L,q:=s.L,pk:=max r.pk (s.lv+(c.fk.n:Int))},rfl,⟨rfl,by first|rfl|exact h2'.symm,rfl,H.n0,H.n1,by show r.n2+1=s.c2+1;rw[H.n2],by show r.n3+1=s.c3+1;rw[H.n3],(Hs.lossV h wT r.st).symm,by show max r.pk _=max s.pk _;rw[epk],hE⟩,S.kept8 hm (aX8 h hW k1) rfl (eD _) (dB (eD _)).symm (by
   show(r.kp.length:Int)=_;rw[hkl,hheld];unfold kr;simp only
   rw[zF (by omega),h2']),hsx⟩
 ·
  rw[zF (by omega),zF (by omega),zE rfl,zF hn]at hdo;simp only[ne_eq,bD,not_false_eq_true,decide_true,zC,not_true_eq_false,decide_false,zD,zG,cn];by_cases h1:s.q<1
  ·rw[zE h1]at hdo;subst hdo;rw[zB h1,zC];exact same
  rw[zF h1]at hdo;subst hdo;have hheld:kr s=s.q:=by unfold kr;rw[zF (by omega)]
  have hkp:(r.kp.length:Int)=s.q:=by rw[hkl,hheld]
  obtain⟨i,hi1⟩: ∃i:Nat,s.q-1=(i:Int):=⟨(s.q-1).toNat,by omega⟩
  have hik:i<r.kp.length:=by omega
  obtain⟨k1',k2',k3'⟩:=S.kept i hik;obtain⟨b1,b2⟩:=cu8 h wT hm hi Hs S hik (by omega);obtain⟨p1,p2⟩:=yi h wT (t:=(i:Int)) k1' k2' k2 k5;rw[zA h1,zD,bk (n:=s.q-1) (by omega),hi1,ci hik];simp only[zG];rw[iw (by omega),ei];have hcut:ax4 r.kp 0 (i:Int)=r.kp.take i:=by unfold ax4;simp
  rw[hcut];have ht:kP c.mode c.X c.T c.R c.l c.Q c.k c.len c.words c.R c.l c.Q c.k (c.X.length:Int) c.T c.fixed c.tp c.sl c.ns s.L (i:Int) (i:Int) r.kp[i] r.sl r.sx (r.kp.take i) r.ax r.th r.ls r.n0 r.n1 r.n2 r.n3 r.pk (i:Int) r.kp[i]=_:=aC4 (r:={r with L:=s.L,p:=(i:Int),q:=(i:Int),st:=r.kp[i],kp:=r.kp.take i}) h wT (by omega) k1' k2' k2 k5 k3 k6 hcr' (by omega);rw[ht];simp only[zG];have hb:=Hs.back h (a:=vk c (i:Int) r.kp[i] r.ax) (by omega) (by omega) p2;have hb1:=hb.put1 h k1' k2';rw[hi1,bB,b1,b2]at hinv;rw[bB,b1,b2]
  exact⟨{bv8 c (i:Int) r.kp[i] r with L:=s.L,p:=(i:Int),q:=(i:Int),st:=r.kp[i],kp:=r.kp.take i},rfl,⟨rfl,rfl,rfl,H.n0,H.n1,H.n2,by show r.n3+1=s.c3+1;rw[H.n3],H.ls,epk,hb1⟩,S.kept8 hm ((bf4 h hW (by omega) (by omega)).trans (fm.put h (fm.refl _) hb.wd (i:=1) (by omega) (dD k1'))) rfl (by rw[cD];omega) (by simp only[cD];rw[Nat.min_eq_left (by omega)]) (by
   show((r.kp.take i).length:Int)=_;rw[cD,Nat.min_eq_left (by omega)];unfold kr;simp only
   rw[zF (by omega)]),hsx⟩
end
end
section
open Int renaming toNat_natCast → bB
open List renaming replicate → aB, drop_replicate → bD, length_replicate → cB, replicate_append_replicate → cD, take_replicate → dB
open Nat renaming le_refl → aD
section
variable {c:Cx}
theorem aO6 {N o n:Nat}(h:o+n≤N):seg (da N) o n=da n:=by
 unfold seg da;rw[bD,dB,Nat.min_eq_left (by omega)]
theorem cr0 {N o n:Nat}(h:o+n≤N):put (da N) o (da n)=da N:=by
 unfold put da;rw[dB,bD,cB,cD,cD,Nat.min_eq_left (by omega)]
 congr 1
 omega
theorem ch2 (h:c.Ok)(wT:ce c.T)(wX:ce c.X):Has c (bH0 c (da c.words.toNat)) c.X (da c.X.length) (da c.T.length):=by
 have hz:Wd c (da c.words.toNat):=fd _;have htk:=hz.tk h;rw[fd]at htk;have o5:=jh (c:=c) (show 5<9 by omega);have o6:=jh (c:=c) (show 6<9 by omega);have o0:=jh (c:=c) (show 0<9 by omega);have s0:c.T.length≤c.sz 0:=aD _;have w0':=hz.put h (o:=c.off 0) (w:=c.T) (by have:c.sz 0=c.T.length:=rfl;omega);unfold bH0
 have H0:Has c (put (da c.words.toNat) (c.off 0) c.T) (seg (put (da c.words.toNat) (c.off 0) c.T) (c.off 1) c.X.length) (da c.X.length) (da c.T.length):=by
  refine⟨w0',(ce.rep _).put wT _, ?_,rfl, ?_, ?_⟩
  ·exact sF (bv3 h hz (by omega) s0)
  ·rw[xu h hz (n:=c.X.length) (i:=0) (j:=5) (by omega) (by omega) (by omega) (aD _) s0];exact aO6 (by have:c.sz 5=c.X.length:=rfl;omega)
  ·rw[xu h hz (n:=c.T.length) (i:=0) (j:=6) (by omega) (by omega) (by omega) (aD _) s0];exact aO6 (by have:c.sz 6=c.T.length:=rfl;omega)
 exact H0.put1 h rfl wX
def cz1 (c:Cx):RS:=⟨c.len,0,-1,c.X,[],0,[],da c.X.length,da c.T.length,0,0,0,0,0,c.fixed⟩
def bg8 (c:Cx):RS:=⟨c.len,0,-1,c.X,aB c.ns.toNat (-1,[]),(c.X.length:Int),[],da c.X.length,da c.T.length,0,0,0,0,0,c.fixed⟩
theorem cz2 (h:c.Ok)(wT:ce c.T)(wX:ce c.X)(hm:c.mode=3):RelD c (new1 c) (cz1 c)∧Bas c (new1 c) (cz1 c):=
 ⟨⟨rfl,rfl,rfl,rfl,rfl,rfl,rfl,rfl,rfl,ch2 h wT wX⟩,⟨rfl,rfl,fun i hi=>by cases hi⟩⟩
theorem cz3 (h:c.Ok)(wT:ce c.T)(wX:ce c.X)(hm:c.mode≠3):RelD c (new2 c) (bg8 c)∧Slo c (new2 c).W (bg8 c):=by
 have hz:Wd c (da c.words.toNat):=fd _;have htk:=hz.tk h;rw[fd]at htk;have e:put (da c.words.toNat) (c.off 8) (da (c.sl*c.ns).toNat)=da c.words.toNat:=cr0 (by have:=bq3 (c:=c);omega)
 have eW:(new2 c).W=bH0 c (da c.words.toNat):=by
  show bH0 c (put (da c.words.toNat) (c.off 8) (da (c.sl*c.ns).toNat))=_;rw[e]
 refine⟨⟨rfl,rfl,rfl,rfl,rfl,rfl,rfl,rfl,rfl,by rw[eW];exact ch2 h wT wX⟩,⟨rfl,rfl,by simp[bg8],fun k hk=> ?_⟩⟩;have hk':k<c.ns.toNat:=by simpa[bg8]using hk
 have e2:(bg8 c).sl[k]=(-1,[]):=by simp[bg8]
 rw[e2];refine⟨bg7 h hm hk', .inr ⟨rfl, ?_⟩⟩;obtain⟨s1,s2,s3⟩:=vl h hm hk';rw[eW,(aY1 h hz).2.2.seg (by unfold sp;omega)];exact aO6 (by omega)
theorem cr1 {n:Int}{x:Int}(hn:0≤n∧n≤1048576):xV n x=some (x,aB n.toNat (-1,[])):=by
 unfold xV
 have key:=ff (f:=rZ n) (n:=n.toNat) (fun i=>(x,aB i ((-1:Int),([]:List Int)))) (c:=(x,aB n.toNat (-1,[]))) (by omega)
  (fun i hi=>by
   unfold rZ;simp only;rw[zB (by omega),zC,dk (by rw[cB];omega) (by omega),bk (by omega),List.replicate_succ']
   rfl)
  (by
   unfold rZ;simp only
   rw[zA (by omega),zD])
 rw[List.replicate_zero]at key;rw[key];rfl
theorem cd4 (h:c.Ok)(hm:c.mode=3)(e:jT c.mode c.X.length c.T.length c.R c.l c.Q c.k c.len c.words=(c.fixed,c.tp,c.sl,c.ns,0)):
  nk c.mode c.X c.T c.R c.l c.Q c.k c.len c.words=some (c.mode,c.X,c.T,c.R,c.l,c.Q,c.k,c.len,c.words,c.R,c.l,c.Q,c.k,(c.X.length:Int),c.T,c.fixed,c.tp,c.sl,c.ns,c.len,-1,c.X,0,c.fixed,0,[],da c.X.length,da c.T.length):=by
 have x5:=h.lens;unfold nk;rw[xr h.hl h.hk,e];simp only[zG];rw[zA (by simp),zD,gdz ⟨by omega,by omega⟩,gdz ⟨by omega,by omega⟩,zA (by simp[hm]),zD];simp only[bB];rfl
theorem cd5 (h:c.Ok)(hm:c.mode≠3)(e:jT c.mode c.X.length c.T.length c.R c.l c.Q c.k c.len c.words=(c.fixed,c.tp,c.sl,c.ns,0)):
  nk c.mode c.X c.T c.R c.l c.Q c.k c.len c.words=some (c.mode,c.X,c.T,c.R,c.l,c.Q,c.k,c.len,c.words,c.R,c.l,c.Q,c.k,(c.X.length:Int),c.T,c.fixed,c.tp,c.sl,c.ns,c.len,-1,c.X,(c.X.length:Int),c.fixed,0,aB c.ns.toNat (-1,[]),da c.X.length,da c.T.length):=by
 have x5:=h.lens;unfold nk;rw[xr h.hl h.hk,e];simp only[zG];rw[zA (by simp),zD,gdz ⟨by omega,by omega⟩,gdz ⟨by omega,by omega⟩,zB hm,zC,cr1 h.ns];simp only[bB,zG];rfl
theorem cr3 {a0:Int}{a1 a2:List Int}{a3:Int}{a4:List cu}{a5:Int}{a6:List cu}{a7 a8:Int}(hl:OpsOk a4)(hk:OpsOk a6)(h:(jT a0 a1.length a2.length a3 a4 a5 a6 a7 a8).2.2.2.2≠0):
  nk a0 a1 a2 a3 a4 a5 a6 a7 a8=some (0,[],[],0,[],0,[],0,0,0,[],0,[],0,[],0,0,0,0,0,0,[],0,0,(jT a0 a1.length a2.length a3 a4 a5 a6 a7 a8).2.2.2.2,[],[],[]):=by
 unfold nk;rw[xr hl hk];simp only[zG];rw[zB h,zC]
structure Both1 (c:Cx)(i:Nat)(s:Dy)(r:RS):Prop where
 w:Well1 c i s
 H:RelD c s r
 S:Bas c s r
 sx:r.sx=0
structure Both2 (c:Cx)(i:Nat)(s:Dy)(r:RS):Prop where
 w:Well2 c i s
 H:RelD c s r
 S:Slo c s.W r
theorem Bas.more {s:Dy}{r:RS}(hm:c.mode=3)(S:Bas c s r):Bas c (mI c s).2 {r with L:=(mI c s).2.L}:=by
 have e:mI c s=(19,s):=by unfold mI;rw[zE (by omega)]
 rw[e];exact⟨S.sl,S.len,S.kept⟩
theorem Slo.more {s:Dy}{r:RS}(S:Slo c s.W r):Slo c (mI c s).2.W {r with L:=(mI c s).2.L}:=by
 rw[bg5];exact⟨S.kp,S.sx,S.len,S.slot⟩
end
end
section
section
variable {c:Cx}
end
section
variable {a0:Int} {a1 a2:List Int} {a3:Int} {a4:List cu} {a5:Int} {a6:List cu} {a7 a8:Int}
end
end
section
open Go.IntKind renaming wrap → zH, i64 → zI, u64 → zJ
open List renaming getElem?_eq_getElem → aD
open Sum renaming inl → aB
theorem wUI {x:Int}(h:ij x):zH zJ (zH zI x)=x:=by
 unfold ij at h
 have e:zH zI x=if 9223372036854775808≤x % 18446744073709551616 then x % 18446744073709551616-18446744073709551616 else x % 18446744073709551616:=by
  unfold IntKind.wrap;simp only[show IntKind.i64.signed=true from rfl,show(2:Int) ^ IntKind.i64.bits=18446744073709551616 from rfl,show(2:Int) ^ (IntKind.i64.bits-1)=9223372036854775808 from rfl,Bool.true_and,decide_eq_true_eq,ge_iff_le]
 rw[e,wU];split<;>omega
theorem bF1 {l:List Int}{L:Int}(hl:l.length<1000000)(h: ∃t∈l,t< -1∨L<t):dw l L=some true:=by
 obtain⟨t,ht,hb⟩:=h;obtain⟨j,hj,rfl⟩:=List.getElem_of_mem ht;unfold dw jk
 have key2: ∃i:Nat,bt (cw l L) dy 0=some (.inl (i:Int)):=by
  rcases te (f:=cw l L) (l:=l) (fun t=>decide (t< -1∨L<t)) (fun i=> .inl (i:Int)) (.inr ()) (by omega) (fun i hi=>by
   unfold cw kn;rw[zB (by omega),zC,ci hi];simp only[zG,br];by_cases h1:l[i]< -1
   ·rw[zE h1,zE (by simp[h1])];rfl
   ·rw[zF h1];simp only[zG,br];by_cases h2:L<l[i]
    ·rw[zE h2,zE (by simp[h2])]
    ·rw[zF h2,zF (by simp[h1,h2]),bk (by omega)];rfl) (by
   unfold cw
   rw[zA (by omega),zD])with⟨_,i,hi⟩|⟨h1,_⟩
  ·exact⟨i,hi⟩
  ·have:=List.any_eq_false.1 h1 _ (List.getElem_mem hj);exact(this (by simp[hb])).elim
 obtain⟨i,hi⟩:=key2;rw[hi];simp only[zG,di];rw[zB (by omega)]
theorem bg1 {L p q:Int}{l:List Int}(hL:0≤L∧L≤65535)(hp:0≤p∧p≤L)(hq: -1≤q∧q≤L)(hl:l.length<1000000)(h: ∃t∈l,t< -1∨L<t):kO L p q l=some (.inl ()):=by
 unfold kO rR kn;rw[zB (show 0≤L by omega),zB (show L<65536 by omega)];simp only[zC,zG,Bool.not_true,zD];rw[zA (show¬(1048576<(l.length:Int))by omega),zA (show¬p= -1 by omega),zA (show¬p< -1 by omega),zA (show¬L<p by omega),zA (show¬q< -1 by omega),zA (show¬L<q by omega)];simp only[zD,zG];rw[bF1 hl h];rfl
section
variable {c:Cx} {W:List Int}
theorem cU0 (wW:ce W)(k:Nat):0≤gc c W k:=(uV wW _).1
theorem ca4 (h:c.Ok)(hm:c.mode≠3)(hW:Wd c W)(wW:ce W){z1:Int}(h1:0≤z1∧z1≤65535):
  ((∀k,k<c.ns.toNat→gc c W k≤z1+1)∧bt (jj c.mode W z1 (c.fixed,c.tp,c.sl,c.ns,0) (0,c.P)) dy (0,0)=some (.inr ((jy c W:Nat):Int)))∨((∃k,k<c.ns.toNat∧z1+1<gc c W k)∧bt (jj c.mode W z1 (c.fixed,c.tp,c.sl,c.ns,0) (0,c.P)) dy (0,0)=some (.inl false)):=by
 have hns:=h.ns;have nm:=h.num;have hsl:=nm.sl;rw[zF hm]at hsl;have htk:=hW.tk h;have x5:=h.lens
 have key:=ca8 (f:=jj c.mode W z1 (c.fixed,c.tp,c.sl,c.ns,0) (0,c.P)) (fun i=>(((List.range i).countP fun(k:Nat)=>decide (0<gc c W k):Nat):Int)) c.ns.toNat (by omega) (fun i=>z1+1<gc c W i) (fun _=> .inl false)
  (fun i hi hn _=>by
   obtain⟨s1,s2,s3⟩:=vl h hm hi;have hc:(List.range i).countP (fun(k:Nat)=>decide (0<gc c W k))≤i:=Nat.le_trans List.countP_le_length (by simp);unfold jj;simp only;rw[zB (by omega),zC,zB hm,zC,show ix 8 c.P.length=some 8 from cd (k:=8) (by rw[Cx.P_len];omega)];simp only[zG];rw[Cx.P_get (show 8<10 by omega)];simp only[zG];have e1:(i:Int)*c.sl=((i*(c.X.length+1):Nat):Int):=by rw[hsl,Int.natCast_mul];rfl
   unfold sp at s1;have hlt:sp c i<W.length:=by unfold sp;omega
   rw[e1,bk (n:=((i*(c.X.length+1):Nat):Int)) (by omega),bk (n:=(c.off 8:Int)+_) (by omega),show(c.off 8:Int)+((i*(c.X.length+1):Nat):Int)=((sp c i:Nat):Int)by unfold sp;omega]
   have e2:rd W ((sp c i:Nat):Int)=some (gc c W i):=by
    rw[ci hlt];have:=du hlt;rw[aD hlt]at this;exact this
   rw[e2];simp only[zG];rw[nr (show ij (z1+1)by unfold ij;omega),zA hn,zD,List.range_succ,List.countP_append,List.countP_singleton,bk (n:=(i:Int)+1) (by omega),bk (by omega)];by_cases ht:0<gc c W i
   ·rw[zB ht,zC,zE rfl];rfl
   ·rw[zA ht,zD,zF (by simp)];rfl)
  (fun i hi hst _=>by
   obtain⟨s1,s2,s3⟩:=vl h hm hi;unfold jj;simp only;rw[zB (by omega),zC,zB hm,zC,show ix 8 c.P.length=some 8 from cd (k:=8) (by rw[Cx.P_len];omega)];simp only[zG];rw[Cx.P_get (show 8<10 by omega)];simp only[zG];have e1:(i:Int)*c.sl=((i*(c.X.length+1):Nat):Int):=by rw[hsl,Int.natCast_mul];rfl
   unfold sp at s1;have hlt:sp c i<W.length:=by unfold sp;omega
   rw[e1,bk (n:=((i*(c.X.length+1):Nat):Int)) (by omega),bk (n:=(c.off 8:Int)+_) (by omega),show(c.off 8:Int)+((i*(c.X.length+1):Nat):Int)=((sp c i:Nat):Int)by unfold sp;omega]
   have e2:rd W ((sp c i:Nat):Int)=some (gc c W i):=by
    rw[ci hlt];have:=du hlt;rw[aD hlt]at this;exact this
   rw[e2];simp only[zG]
   rw[nr (show ij (z1+1)by unfold ij;omega),zB hst,zC])
  (.inr ((jy c W:Nat):Int))
  (fun _=>by
   unfold jj;simp only;rw[zA (by omega),zD]
   rfl)
 rcases key with⟨i,h2,h3,_,h4⟩|⟨h2,h4⟩
 ·exact .inr ⟨⟨i,h2,h3⟩,h4⟩
 ·exact .inl ⟨fun k hk=>by have:=h2 k hk;omega,h4⟩
def Pre (c:Cx)(W:List Int)(z0 z1 z2 z3 z4:Int):Prop:=W.length=c.words.toNat∧z0=zH zJ c.mode∧z4=zH zJ c.ns∧(z1≤65535∧(c.mode≠2→z1=zH zJ c.len))∧z2≤z1∧z3≤z1+1
def lA (c:Cx)(W:List Int)(z2 z3:Int):Int:=if c.mode=3 then(if 0<z3 then z3-1 else z2)else(jy c W:Int)
def cf9 (c:Cx)(W:List Int)(z1:Int):Prop:=c.mode≠3→∀k,k<c.ns.toNat→gc c W k≤z1+1
def Fit (c:Cx)(W:List Int)(z0 z1 z2 z3 z4 z9 z10:Int):Prop:=Pre c W z0 z1 z2 z3 z4∧cf9 c W z1∧z9=c.fixed+lA c W z2 z3*c.sl∧z9≤z10∧z10≤c.words
theorem bG4 (h:c.Ok){z0 z1 z2 z3 z4:Int}(w2:ij z2)(w3:ij z3)(hp:Pre c W z0 z1 z2 z3 z4):0≤lA c W z2 z3∧lA c W z2 z3≤c.ns∧0≤lA c W z2 z3*c.sl∧lA c W z2 z3*c.sl≤c.sl*c.ns∧c.fixed+lA c W z2 z3*c.sl≤c.words∧0≤c.fixed:=by
 have hns:=h.ns;have nm:=h.num;have hf:=uq h;have hfit:=h.fit;have hul:=ck7 c W;have htp:0≤c.tp:=by have:=nm.tp;split at this<;>omega
 have hsl0:0≤c.sl:=by rw[nm.sl];have:=nm.R;split<;>omega
 unfold ij at w2 w3;obtain⟨_,_,_,⟨p4,p5⟩,p6,p7⟩:=hp
 have hh:0≤lA c W z2 z3∧lA c W z2 z3≤c.ns:=by
  unfold lA;by_cases hm:c.mode=3
  ·rw[zE hm];have hb:=h.base hm;have hl:=nm.len;have p5':=p5 (by omega);rw[nr ⟨by omega,by omega⟩]at p5';split<;>omega
  ·rw[zF hm];omega
 have h1:0≤lA c W z2 z3*c.sl:=Int.mul_nonneg hh.1 hsl0;have h2:lA c W z2 z3*c.sl≤c.ns*c.sl:=Int.mul_le_mul_of_nonneg_right hh.2 hsl0;rw[Int.mul_comm c.ns]at h2;exact⟨hh.1,hh.2,h1,h2,by omega,by omega⟩
variable (h:c.Ok) (e:jT c.mode c.X.length c.T.length c.R c.l c.Q c.k c.len c.words=(c.fixed,c.tp,c.sl,c.ns,0)) (wW:ce W) (hWl:W.length≤1048576) {z0 z1 z2 z3 z4 z5 z6 z7 z8 z9 z10 z11 z12 z13 z14 z15:Int} (w0:ij z0) (w1:ij z1) (w2:ij z2) (w3:ij z3) (w4:ij z4) (w9:ij z9) (w10:ij z10)
include h e wW hWl w0 w1 w2 w3 w4 w9 w10
theorem cg8 : ∃b,pA c.mode c.X c.T c.R c.l c.Q c.k c.len c.words W z0 z1 z2 z3 z4 z5 z6 z7 z8 z9 z10 z11 z12 z13 z14 z15=some b∧(b=true↔Fit c W z0 z1 z2 z3 z4 z9 z10):=by
 have nm:=h.num;have hw:=nm.words;have hns:=h.ns;have hlen:=nm.len;have v1:=w1;have v2:=w2;have v3:=w3;have v9:=w9;have v10:=w10;unfold ij at v1 v2 v3 v9 v10;have elen:zH zJ c.len=c.len:=nr ⟨by omega,by omega⟩;unfold pA;rw[xr h.hl h.hk,e];simp only[zG];rw[aI8 h e];simp only[zG];have no: ∀{P:Prop},(¬P)→∃b,(some false:Option Bool)=some b∧(b=true↔P):=fun hP=>⟨false,rfl,by simp[hP]⟩
 by_cases c0:W.length=c.words.toNat
 ·by_cases c1:z0=zH zJ c.mode
  ·by_cases c2:z4=zH zJ c.ns
   ·by_cases c3:z1≤65535
    ·by_cases c4:c.mode≠2→z1=zH zJ c.len
     ·rw[zA (show¬(((W.length:Nat):Int)≠c.words)by omega),zA (show¬z0≠_ from fun k=>k c1),zA (show¬z4≠_ from fun k=>k c2),zA (show¬65535<z1 by omega)];simp only[zD];have ew:zH zJ (z1+1)=z1+1:=nr ⟨by omega,by omega⟩;rw[ew]
      have hst: ∀{β:Type} (F:Bool⊕Unit→Option β),((cond (decide (c.mode≠2)) (cond (decide (z1≠IntKind.u64.wrap c.len)) (some (aB false)) (cond (decide (z1<z2)) (some (aB false)) (cond (decide (z1+1<z3)) (some (aB false)) (some (Sum.inr ()))))) (cond (decide (z1<z2)) (some (aB false)) (cond (decide (z1+1<z3)) (some (aB false)) (some (Sum.inr ()))))).bind F)=(if z2≤z1∧z3≤z1+1 then F (.inr ())else F (.inl false)):=fun F=>by
       have inner:(cond (decide (z1<z2)) (some (aB false)) (cond (decide (z1+1<z3)) (some (aB false)) (some (Sum.inr ()))):Option (Bool⊕Unit))=if z2≤z1∧z3≤z1+1 then some (.inr ())else some (.inl false):=by
        simp only[br];by_cases a1:z1<z2
        ·rw[zE a1,zF (by omega)]
        ·rw[zF a1];by_cases a2:z1+1<z3
         ·rw[zE a2,zF (by omega)]
         ·rw[zF a2,zE (by omega)]
       rw[inner];by_cases a0:c.mode≠2
       ·rw[zB a0,zC,zA (fun k=>k (c4 a0)),zD];split<;>rfl
       ·rw[zA a0,zD];split<;>rfl
      rw[hst];by_cases c5:z2≤z1∧z3≤z1+1
      ·rw[zE c5];simp only[cn];have hp:Pre c W z0 z1 z2 z3 z4:=⟨c0,c1,c2,⟨c3,c4⟩,c5.1,c5.2⟩;obtain⟨h1,h2,h3,h4,h5,h6⟩:=bG4 h w2 w3 hp
       have fin: ∀(b:Int),b=lA c W z2 z3→cf9 c W z1→∃q,(cond (decide (z9=(zH zJ (zH zI (c.fixed+(zH zI (b*c.sl))))))) (cond (decide (z9≤z10)) (some (decide (z10≤(zH zJ c.words)))) (some false)) (some false))=some q∧(q=true↔Fit c W z0 z1 z2 z3 z4 z9 z10):=fun b hb ht=>by
        subst hb;rw[bk (n:=lA c W z2 z3*c.sl) (by omega),bk (by omega),nr ⟨by omega,by omega⟩,nr (n:=c.words) ⟨by omega,by omega⟩];by_cases d1:z9=c.fixed+lA c W z2 z3*c.sl
        ·rw[zB d1,zC];by_cases d2:z9≤z10
         ·rw[zB d2,zC];exact⟨_,rfl,by rw[decide_eq_true_iff];exact⟨fun k=>⟨hp,ht,d1,d2,k⟩,fun k=>k.2.2.2.2⟩⟩
         ·rw[zA d2,zD];exact no fun k=>d2 k.2.2.2.1
        ·rw[zA d1,zD];exact no fun k=>d1 k.2.2.1
       by_cases hm:c.mode=3
       ·have hs:((cond (decide (c.mode=3)) (cond (decide (0<z3)) (some (zH zI (zH zI z3-1))) (some (zH zI z2))) (some 0)):Option Int)=some (lA c W z2 z3):=by
         rw[zB hm,zC,br];unfold lA;rw[zE hm];by_cases k3:0<z3
         ·rw[zE k3,zE k3,bk (n:=z3) (by omega),bk (by omega)]
         ·rw[zF k3,zF k3,bk (by omega)]
        rw[hs];simp only[zG]
        have hl':bt (jj c.mode W z1 (c.fixed,c.tp,c.sl,c.ns,0) (0,c.P)) dy (0,lA c W z2 z3)=some (.inr (lA c W z2 z3)):=by
         refine fj (Reach.refl) (by omega) ?_;unfold jj;simp only;rw[zA (show¬c.mode≠3 from fun k=>k hm),zD];cases decide (0<c.ns)<;>rfl
        rw[hl'];simp only[zG,cn];exact fin _ rfl fun k=>(k hm).elim
       ·have hs:((cond (decide (c.mode=3)) (cond (decide (0<z3)) (some (zH zI (zH zI z3-1))) (some (zH zI z2))) (some 0)):Option Int)=some 0:=by rw[zA hm,zD]
        rw[hs];simp only[zG];rcases ca4 h hm c0 wW (z1:=z1) ⟨by omega,c3⟩with⟨ht,hl⟩|⟨⟨k,k1,k2⟩,hl⟩
        ·rw[hl];simp only[zG,cn];exact fin _ (by unfold lA;rw[zF hm]) fun _=>ht
        ·rw[hl];simp only[zG,di];exact no fun q=>by have:=q.2.1 hm k k1;omega
      ·rw[zF c5];simp only[di];exact no fun k=>c5 ⟨k.1.2.2.2.2.1,k.1.2.2.2.2.2⟩
     ·have hm2:c.mode≠2:=fun k=>c4 fun q=>(q k).elim
      have hz:z1≠IntKind.u64.wrap c.len:=fun k=>c4 fun _=>k
      rw[zA (show¬(((W.length:Nat):Int)≠c.words)by omega),zA (show¬z0≠_ from fun k=>k c1),zA (show¬z4≠_ from fun k=>k c2),zA (show¬65535<z1 by omega),zB hm2,zB hz];simp only[zD,zC,zG,di];exact no fun k=>c4 k.1.2.2.2.1.2
    ·rw[zA (show¬(((W.length:Nat):Int)≠c.words)by omega),zA (show¬z0≠_ from fun k=>k c1),zA (show¬z4≠_ from fun k=>k c2),zB (show 65535<z1 by omega)];simp only[zD,zC,zG,di];exact no fun k=>c3 k.1.2.2.2.1.1
   ·rw[zA (show¬(((W.length:Nat):Int)≠c.words)by omega),zA (show¬z0≠_ from fun k=>k c1),zB (show z4≠_ from c2)];simp only[zD,zC,zG,di];exact no fun k=>c2 k.1.2.2.1
  ·rw[zA (show¬(((W.length:Nat):Int)≠c.words)by omega),zB (show z0≠_ from c1)];simp only[zD,zC,zG,di];exact no fun k=>c1 k.1.2.1
 ·rw[zB (show((W.length:Nat):Int)≠c.words by omega)];simp only[zC,zG,di];exact no fun k=>c0 k.1.1
end
end
section
open Go.IntKind renaming wrap → zH, i64 → zI, u64 → zJ
open Bool renaming not_false → aB, not_true → aD
open Int renaming mul_comm → bD
open Sum renaming inl → bB
section
variable {c:Cx} {W:List Int}
theorem aX1 (h:c.Ok)(hm:c.mode≠3)(hW:Wd c W)(ht: ∃k,k<c.ns.toNat∧65536<gc c W k):lP (c.off 8:Int) c.ns (c.X.length:Int) c.tk W=some (.inl 2):=by
 have n:=h.num;have nx:=n.x;have nns:=h.ns;have nm:=n.mul;have nw:=n.words;have hsl:=n.sl;rw[zF hm]at hsl;have h9:=h.off9_le;have h89:c.off 9=c.off 8+(c.sl*c.ns).toNat:=bq3;obtain⟨t1,t2⟩:=hW.tk h;unfold lP me gm;rw[zB (show 0≤c.ns by omega),zB (show c.ns≤1048576 by omega),zB (show 1≤(c.X.length:Int)by omega),zB (show(c.X.length:Int)≤64 by omega)];simp only[zC,zD,aD,zG];rw[bk (n:=(c.X.length:Int)+1) (by omega),←hsl,bD c.ns,bk (n:=c.sl*c.ns) (by omega)]
 have hrd:ec (c.off 8:Int) (c.sl*c.ns) c.tk W=some (0,seg W (c.off 8) (c.sl*c.ns).toNat):=by
  have:=ae1 (W:=W) (o:=c.off 8) (n:=(c.sl*c.ns).toNat) (tk:=c.off 9) (by omega) t1 t2;rw[Int.toNat_of_nonneg nm]at this;exact this
 rw[hrd];simp only[zG];rw[zA (by simp),zD]
 have key:=aS7 (f:=ic (c.off 8:Int) c.ns (c.X.length:Int) c.tk W) c.ns.toNat (by omega) (fun i=>65536<gc c W i) (.inl ()) (.inr ())
  (fun i hi hn=>by
   unfold ic;rw[zB (by omega),zC,af4 h hm hi];simp only[zG];rw[aY4 h hm hW hi];simp only[zG];rw[zA hn,zD,bk (by omega)]
   rfl)
  (fun i hi hs=>by
   unfold ic;rw[zB (by omega),zC,af4 h hm hi];simp only[zG];rw[aY4 h hm hW hi];simp only[zG]
   rw[zB hs,zC])
  (by
   unfold ic
   rw[zA (by omega),zD])
 rcases key with⟨i,_,_,_,hl⟩|⟨hn,_⟩
 ·rw[hl];rfl
 ·obtain⟨k,k1,k2⟩:=ht;exact(hn k k1 k2).elim
theorem cO3 (h:c.Ok)(hm:c.mode≠3):(we c W).length<1000000:=by
 have hns:=h.ns;rw[zQ];rcases Nat.eq_zero_or_pos c.ns.toNat with h0|h0
 ·omega
 ·have:=(vl h hm h0).2.2;omega
theorem cD7 {L:Int}(ht: ∃k,k<c.ns.toNat∧L+1<gc c W k): ∃t∈we c W,t< -1∨L<t:=by
 obtain⟨k,k1,k2⟩:=ht;exact⟨gc c W k-1,List.mem_of_getElem? (bk1 k1), .inr (by omega)⟩
theorem cI9 (hm:c.mode=3){z2 z3:Int}(h3:0≤z3):cond (decide (z3-1<0)) (some z2) (some (z3-1))=some (lA c W z2 z3):=by
 unfold lA;rw[zE hm,br];by_cases k:0<z3
 ·rw[zE k,zF (by omega)]
 ·rw[zF k,zE (by omega)]
def dz (W:List Int)(z1 z2 z3 z5 z6 z7 z8 z9 z10 z11:Int):Dy:=⟨z1,z2,z3-1,zH zI z5,zH zI z6,zH zI z7,zH zI z8,z11,z9,z10,W⟩
variable (h:c.Ok) (e:jT c.mode c.X.length c.T.length c.R c.l c.Q c.k c.len c.words=(c.fixed,c.tp,c.sl,c.ns,0)) (wW:ce W) (hWl:W.length≤1048576) {z0 z1 z2 z3 z4 z5 z6 z7 z8 z9 z10 z11 z12 z13 z14 z15:Int} (w1:ij z1) (w2:ij z2) (w3:ij z3) (w9:ij z9) (w10:ij z10)
include h e wW hWl w1 w2 w3 w9 w10
theorem br1 (hm:c.mode=3): ∃b,(b=true↔Fit c W z0 z1 z2 z3 z4 z9 z10)∧jc c.mode c.X c.T c.R c.l c.Q c.k c.len c.words W z0 z1 z2 z3 z4 z5 z6 z7 z8 z9 z10 z11 z12 z13 z14 z15=some (bif b then .inr (.inl (cS7 c (dz W z1 z2 z3 z5 z6 z7 z8 z9 z10 z11)))else .inl 3):=by
 have nm:=h.num;have hw:=nm.words;have hns:=h.ns;have hlen:=nm.len;have nmul:=nm.mul;have v1:=w1;have v2:=w2;have v3:=w3;have v9:=w9;have v10:=w10;unfold ij at v1 v2 v3 v9 v10;have elen:zH zJ c.len=c.len:=nr ⟨by omega,by omega⟩;have no: ∀{α:Type} {y:α},(¬Fit c W z0 z1 z2 z3 z4 z9 z10)→∃b,(b=true↔Fit c W z0 z1 z2 z3 z4 z9 z10)∧some (bB (3:Int))=some (bif b then Sum.inr y else bB 3):=fun hP=>⟨false,by simp[hP],rfl⟩
 unfold jc;rw[bS4 h e];simp only[zG,cn];rw[nr (n:=((W.length:Nat):Int)) ⟨by omega,by omega⟩,nr (n:=c.words) ⟨by omega,by omega⟩];by_cases c0': ¬(W.length=c.words.toNat)
 ·rw[zB (show((W.length:Nat):Int)≠c.words by omega),zC];exact no fun k=>c0' k.1.1
 have c0:W.length=c.words.toNat:=Classical.not_not.1 c0';rw[zA (show¬(((W.length:Nat):Int)≠c.words)by omega),zD];by_cases c1': ¬(z0=zH zJ c.mode)
 ·rw[zB (show z0≠_ from c1'),zC];exact no fun k=>c1' k.1.2.1
 have c1:z0=zH zJ c.mode:=Classical.not_not.1 c1';rw[zA (show¬z0≠_ from fun k=>k c1),zD];by_cases c2': ¬(z4=zH zJ c.ns)
 ·rw[zB (show z4≠_ from c2'),zC];exact no fun k=>c2' k.1.2.2.1
 have c2:z4=zH zJ c.ns:=Classical.not_not.1 c2';rw[zA (show¬z4≠_ from fun k=>k c2),zD];by_cases c3': ¬(z1≤65535∧(c.mode≠2→z1=zH zJ c.len))
 ·have hl:eu z1 c.fixed c.tp c.sl c.ns c.mode c.R c.Q c.len c.words c.len 0 (-1) 0 0 0 0 0 c.X c.T c.l c.k c.P=some false:=by
   unfold eu;rw[br];by_cases a0:c.mode=2
   ·rw[zE a0,zA (fun k=>c3' ⟨by omega,fun q=>(q a0).elim⟩)]
   ·rw[zF a0,zA (fun k=>c3' ⟨by omega,fun _=>k⟩)]
  rw[hl];simp only[zG,aB,zC];exact no fun k=>c3' k.1.2.2.2.1
 have c3:z1≤65535∧(c.mode≠2→z1=zH zJ c.len):=Classical.not_not.1 c3'
 have hl:eu z1 c.fixed c.tp c.sl c.ns c.mode c.R c.Q c.len c.words c.len 0 (-1) 0 0 0 0 0 c.X c.T c.l c.k c.P=some true:=by
  unfold eu;rw[br];by_cases a0:c.mode=2
  ·rw[zE a0,zB (by omega)]
  ·rw[zF a0,zB (c3.2 a0)]
 rw[hl];simp only[zG,aD,zD];rw[nr (n:=z1+1) ⟨by omega,by omega⟩];by_cases c5': ¬(z2≤z1)
 ·rw[zB (show z1<z2 by omega),zC];exact no fun k=>c5' k.1.2.2.2.2.1
 have c5:z2≤z1:=Classical.not_not.1 c5';rw[zA (show¬z1<z2 by omega),zD];by_cases c6': ¬(z3≤z1+1)
 ·rw[zB (show z1+1<z3 by omega),zC];exact no fun k=>c6' k.1.2.2.2.2.2
 have c6:z3≤z1+1:=Classical.not_not.1 c6';rw[zA (show¬z1+1<z3 by omega),zD];have hp:Pre c W z0 z1 z2 z3 z4:=⟨c0,c1,c2,c3,c5,c6⟩;obtain⟨h1,h2,h3,h4,h5,h6⟩:=bG4 h w2 w3 hp;by_cases c7': ¬(z9≤c.words)
 ·rw[zB (show c.words<z9 by omega),zC];exact no fun k=>by have:=k.2.2.1;omega
 have c7:z9≤c.words:=Classical.not_not.1 c7';rw[zA (show¬c.words<z9 by omega),zD];by_cases c8': ¬(z10≤c.words)
 ·rw[zB (show c.words<z10 by omega),zC];exact no fun k=>c8' k.2.2.2.2
 have c8:z10≤c.words:=Classical.not_not.1 c8';rw[zA (show¬c.words<z10 by omega),zD,bc1 h c0];simp only[zG,cn];have htk:=Wd.tk h c0;have h89:c.off 9=c.off 8+(c.sl*c.ns).toNat:=bq3;rw[show ix 8 c.P.length=some 8 from cd (k:=8) (by rw[Cx.P_len];omega)];simp only[zG];rw[Cx.P_get (show 8<10 by omega)];simp only[zG]
 have etk:gk (zH zI ((c.off 8:Int)+zH zI (c.ns*c.sl))) 0 W=some (0,0,c.tk):=by
  rw[bD,bk (n:=c.sl*c.ns) (by omega),bk (by omega),show(c.off 8:Int)+c.sl*c.ns=((c.off 9:Nat):Int)by omega];have:=ck3 (o:=0) (n:=c.off 9) (W:=W) (by omega) (by omega);rw[Nat.zero_add]at this;exact this
 rw[etk];simp only[zG];rw[bk (n:=z1) (by omega),bk (n:=z2) (by omega),bk (n:=z3) (by omega),bk (n:=z3-1) (by omega),bk (n:=z9) (by omega),bk (n:=z10) (by omega)];unfold ku gj;simp only[zG];rw[zB hm,zC];simp only[zG,di,aD,zD];have tagok:cf9 c W z1:=fun k=>(k hm).elim
 unfold ou gj;simp only[zG];rw[zB hm,aD,zD];have hh:cond (decide (z3-1<0)) (some z2) (some (z3-1))=some (lA c W z2 z3):=cI9 hm v3.1;rw[hh];simp only[zG];rw[bk (n:=lA c W z2 z3*c.sl) (by omega),bk (n:=c.fixed+lA c W z2 z3*c.sl) (by omega)];by_cases d1': ¬(z9=c.fixed+lA c W z2 z3*c.sl)
 ·rw[zB (show z9≠_ from d1'),zC];simp only[zG,di,cn,aB,zC];exact no fun k=>d1' k.2.2.1
 have d1:z9=c.fixed+lA c W z2 z3*c.sl:=Classical.not_not.1 d1';rw[zA (show¬z9≠_ from fun k=>k d1),zD];simp only[zG,di,cn];by_cases d2': ¬(z9≤z10)
 ·have hmt:kZ c.words z9 z10=some (.inl ()):=by
   unfold kZ;rw[zA (show¬z9<0 by omega),zD,zB (show z10<z9 by omega),zC]
  rw[hmt];simp only[zG,di,cn];exact no fun k=>d2' k.2.2.2.1
 have d2:z9≤z10:=Classical.not_not.1 d2';rw[bR1 (by omega) d2 c8];simp only[zG,di,cn];exact⟨true,by simp only[true_iff];exact⟨hp,tagok,d1,d2,c8⟩,rfl⟩
theorem br2 (hm:c.mode≠3): ∃b,(b=true↔Fit c W z0 z1 z2 z3 z4 z9 z10)∧jc c.mode c.X c.T c.R c.l c.Q c.k c.len c.words W z0 z1 z2 z3 z4 z5 z6 z7 z8 z9 z10 z11 z12 z13 z14 z15=some (bif b then .inr (.inr (cS8 c (dz W z1 z2 z3 z5 z6 z7 z8 z9 z10 z11)))else .inl 3):=by
 have nm:=h.num;have hw:=nm.words;have hns:=h.ns;have hlen:=nm.len;have nmul:=nm.mul;have v1:=w1;have v2:=w2;have v3:=w3;have v9:=w9;have v10:=w10;unfold ij at v1 v2 v3 v9 v10;have elen:zH zJ c.len=c.len:=nr ⟨by omega,by omega⟩;have no: ∀{α:Type} {y:α},(¬Fit c W z0 z1 z2 z3 z4 z9 z10)→∃b,(b=true↔Fit c W z0 z1 z2 z3 z4 z9 z10)∧some (bB (3:Int))=some (bif b then Sum.inr y else bB 3):=fun hP=>⟨false,by simp[hP],rfl⟩
 unfold jc;rw[bS4 h e];simp only[zG,cn];rw[nr (n:=((W.length:Nat):Int)) ⟨by omega,by omega⟩,nr (n:=c.words) ⟨by omega,by omega⟩];by_cases c0': ¬(W.length=c.words.toNat)
 ·rw[zB (show((W.length:Nat):Int)≠c.words by omega),zC];exact no fun k=>c0' k.1.1
 have c0:W.length=c.words.toNat:=Classical.not_not.1 c0';rw[zA (show¬(((W.length:Nat):Int)≠c.words)by omega),zD];by_cases c1': ¬(z0=zH zJ c.mode)
 ·rw[zB (show z0≠_ from c1'),zC];exact no fun k=>c1' k.1.2.1
 have c1:z0=zH zJ c.mode:=Classical.not_not.1 c1';rw[zA (show¬z0≠_ from fun k=>k c1),zD];by_cases c2': ¬(z4=zH zJ c.ns)
 ·rw[zB (show z4≠_ from c2'),zC];exact no fun k=>c2' k.1.2.2.1
 have c2:z4=zH zJ c.ns:=Classical.not_not.1 c2';rw[zA (show¬z4≠_ from fun k=>k c2),zD];by_cases c3': ¬(z1≤65535∧(c.mode≠2→z1=zH zJ c.len))
 ·have hl:eu z1 c.fixed c.tp c.sl c.ns c.mode c.R c.Q c.len c.words c.len 0 (-1) 0 0 0 0 0 c.X c.T c.l c.k c.P=some false:=by
   unfold eu;rw[br];by_cases a0:c.mode=2
   ·rw[zE a0,zA (fun k=>c3' ⟨by omega,fun q=>(q a0).elim⟩)]
   ·rw[zF a0,zA (fun k=>c3' ⟨by omega,fun _=>k⟩)]
  rw[hl];simp only[zG,aB,zC];exact no fun k=>c3' k.1.2.2.2.1
 have c3:z1≤65535∧(c.mode≠2→z1=zH zJ c.len):=Classical.not_not.1 c3'
 have hl:eu z1 c.fixed c.tp c.sl c.ns c.mode c.R c.Q c.len c.words c.len 0 (-1) 0 0 0 0 0 c.X c.T c.l c.k c.P=some true:=by
  unfold eu;rw[br];by_cases a0:c.mode=2
  ·rw[zE a0,zB (by omega)]
  ·rw[zF a0,zB (c3.2 a0)]
 rw[hl];simp only[zG,aD,zD];rw[nr (n:=z1+1) ⟨by omega,by omega⟩];by_cases c5': ¬(z2≤z1)
 ·rw[zB (show z1<z2 by omega),zC];exact no fun k=>c5' k.1.2.2.2.2.1
 have c5:z2≤z1:=Classical.not_not.1 c5';rw[zA (show¬z1<z2 by omega),zD];by_cases c6': ¬(z3≤z1+1)
 ·rw[zB (show z1+1<z3 by omega),zC];exact no fun k=>c6' k.1.2.2.2.2.2
 have c6:z3≤z1+1:=Classical.not_not.1 c6';rw[zA (show¬z1+1<z3 by omega),zD];have hp:Pre c W z0 z1 z2 z3 z4:=⟨c0,c1,c2,c3,c5,c6⟩;obtain⟨h1,h2,h3,h4,h5,h6⟩:=bG4 h w2 w3 hp;by_cases c7': ¬(z9≤c.words)
 ·rw[zB (show c.words<z9 by omega),zC];exact no fun k=>by have:=k.2.2.1;omega
 have c7:z9≤c.words:=Classical.not_not.1 c7';rw[zA (show¬c.words<z9 by omega),zD];by_cases c8': ¬(z10≤c.words)
 ·rw[zB (show c.words<z10 by omega),zC];exact no fun k=>c8' k.2.2.2.2
 have c8:z10≤c.words:=Classical.not_not.1 c8';rw[zA (show¬c.words<z10 by omega),zD,bc1 h c0];simp only[zG,cn];have htk:=Wd.tk h c0;have h89:c.off 9=c.off 8+(c.sl*c.ns).toNat:=bq3;rw[show ix 8 c.P.length=some 8 from cd (k:=8) (by rw[Cx.P_len];omega)];simp only[zG];rw[Cx.P_get (show 8<10 by omega)];simp only[zG]
 have etk:gk (zH zI ((c.off 8:Int)+zH zI (c.ns*c.sl))) 0 W=some (0,0,c.tk):=by
  rw[bD,bk (n:=c.sl*c.ns) (by omega),bk (by omega),show(c.off 8:Int)+c.sl*c.ns=((c.off 9:Nat):Int)by omega];have:=ck3 (o:=0) (n:=c.off 9) (W:=W) (by omega) (by omega);rw[Nat.zero_add]at this;exact this
 rw[etk];simp only[zG];rw[bk (n:=z1) (by omega),bk (n:=z2) (by omega),bk (n:=z3) (by omega),bk (n:=z3-1) (by omega),bk (n:=z9) (by omega),bk (n:=z10) (by omega)];unfold ku gj;simp only[zG];rw[zA hm,zD];rw[show ix 8 c.P.length=some 8 from cd (k:=8) (by rw[Cx.P_len];omega)];simp only[zG];rw[Cx.P_get (i:=8) (by omega)];simp only[zG];by_cases t1: ∃k,k<c.ns.toNat∧65536<gc c W k
 ·rw[aX1 h hm c0 t1];simp only[zG,di];exact no fun q=>by obtain⟨k,k1,k2⟩:=t1;have:=q.2.1 hm k k1;omega
 have t2: ∀k,k<c.ns.toNat→0≤gc c W k∧gc c W k≤65536:=fun k hk=>⟨cU0 wW k,by have: ¬65536<gc c W k:=fun q=>t1 ⟨k,hk,q⟩;omega⟩
 rw[bJ2 h hm c0 t2];simp only[zG,cn];unfold ot;rw[ck2 h hm c0 t2];simp only[zG];have tl:(we c W).length<1000000:=cO3 h hm;by_cases t3: ∃k,k<c.ns.toNat∧z1+1<gc c W k
 ·rw[bg1 (by omega) (by omega) (by omega) tl (cD7 t3)];simp only[zG,di,cn,aB,zC];exact no fun q=>by obtain⟨k,k1,k2⟩:=t3;have:=q.2.1 hm k k1;omega
 have tagok:cf9 c W z1:=fun _ k hk=>by have: ¬z1+1<gc c W k:=fun q=>t3 ⟨k,hk,q⟩;omega
 rw[cb0 (by omega) (by omega) (by omega) tl (bV7 (fun k hk=>⟨cU0 wW k,tagok hm k hk⟩))];simp only[zG,di,cn,aD,zD];unfold ov lI;simp only[zG];rw[zA hm,aB,zC];have hh:lA c W z2 z3=((jy c W:Nat):Int):=zF hm;unfold oU;rw[ck2 h hm c0 t2];simp only[zG];rw[cs8 tl,cs9,←hh];simp only[zG];rw[bk (n:=lA c W z2 z3*c.sl) (by omega),bk (n:=c.fixed+lA c W z2 z3*c.sl) (by omega)];by_cases d1': ¬(z9=c.fixed+lA c W z2 z3*c.sl)
 ·rw[zB (show z9≠_ from d1'),zC];simp only[zG,di,cn,aB,zC];exact no fun k=>d1' k.2.2.1
 have d1:z9=c.fixed+lA c W z2 z3*c.sl:=Classical.not_not.1 d1';rw[zA (show¬z9≠_ from fun k=>k d1),zD];simp only[zG,di,cn];by_cases d2': ¬(z9≤z10)
 ·have hmt:kZ c.words z9 z10=some (.inl ()):=by
   unfold kZ;rw[zA (show¬z9<0 by omega),zD,zB (show z10<z9 by omega),zC]
  rw[hmt];simp only[zG,di,cn];exact no fun k=>d2' k.2.2.2.1
 have d2:z9≤z10:=Classical.not_not.1 d2';rw[bR1 (by omega) d2 c8];simp only[zG,di,cn];exact⟨true,by simp only[true_iff];exact⟨hp,tagok,d1,d2,c8⟩,rfl⟩
end
end
section
open List renaming getElem?_eq_getElem → aB
def wrL (w:List Int)(x:Int)(s:Int×List Int):Option ((Int×List Int)⊕List Int):=
 cond (decide (s.1<((w.length:Nat):Int))) ((rd w s.1).bind fun v=>(ix (IntKind.i64.wrap (x+s.1)) s.2.length).bind fun j=>(s.2[j]?).bind fun _=>some (.inl (IntKind.i64.wrap (s.1+1),s.2.set j v))) (some (.inr s.2))
def sX (N:Nat)(g:List Int):Prop:=g.length=N∧ce g
theorem bK0 {f:Int×List Int→Option ((Int×List Int)⊕List Int)}{w:List Int}{o N:Nat}(ho:o+w.length≤N)(hN:N≤1048576)(ww:ce w)
  (hs: ∀k,∀hk:k<w.length,∀g:List Int,g.length=N→f ((k:Int),g)=some (.inl (((k+1:Nat):Int),g.set (o+k) w[k]))) (he: ∀g,f ((w.length:Int),g)=some (.inr g)) {g:List Int} (hg:sX N g): ∃g',bt f dy (0,g)=some g'∧sX N g':=
 qr (f:=f) (a:=(0,g)) (fun a=> ∃(k:Nat) (g:List Int),a=((k:Int),g)∧k≤w.length∧sX N g) (fun a=>((w.length:Int)-a.1).toNat) (sX N) ⟨0,g,rfl,Nat.zero_le _,hg⟩ (by simp only;omega) fun a ha=>by
  obtain⟨k,g,rfl,hk,hg⟩:=ha;by_cases hlt:k<w.length
  ·exact .inl ⟨_,hs k hlt g hg.1,⟨k+1,_,rfl,hlt,by rw[List.length_set];exact hg.1,hg.2.set (ww _ (List.getElem_mem hlt)) _⟩,by simp only;omega⟩
  ·have:k=w.length:=by omega
   subst this;exact .inr ⟨g,he g,hg⟩
theorem aK1 {f:Int×List Int→Option ((Int×List Int)⊕List Int)}{w:List Int}{o N:Nat}(ho:o+w.length≤N)(hN:N≤1048576)(ww:ce w)(hf: ∀s,f s=wrL w (o:Int) s){g:List Int}(hg:sX N g): ∃g',bt f dy (0,g)=some g'∧sX N g':=
 bK0 ho hN ww (fun k hk g hgl=>by
  rw[hf];unfold wrL;simp only;rw[zB (by omega),zC,ci hk];simp only[zG];rw[bk (n:=(o:Int)+k) (by omega),show(o:Int)+(k:Int)=((o+k:Nat):Int)by omega,cd (by omega)];simp only[zG];rw[du (by omega)];simp only[zG];rw[bk (by omega)]
  rfl) (fun g=>by
  rw[hf];unfold wrL
  rw[zA (by simp),zD]) hg
section
variable {c:Cx} {r:RS}
theorem bQ1 (h:c.Ok)(wT:ce c.T){i:Nat}{t g:List Int}(hl:t.length=c.sl.toNat)(wt:ce t)(hin:c.off 8+i*c.sl.toNat+c.sl.toNat≤c.words.toNat)(hsl:0≤c.sl)(hN:c.words.toNat≤1048576)(hg:sX c.words.toNat g):
  ∃g',bt (pC c.sl (0,c.P) ((i:Int),g) t) dy (0,g)=some g'∧sX c.words.toNat g':=
 bK0 (o:=c.off 8+i*c.sl.toNat) (by omega) hN wt (fun k hk g hgl=>by
  unfold pC;simp only;rw[zB (by omega),zC,show ix 8 c.P.length=some 8 from cd (k:=8) (by rw[Cx.P_len];omega)];simp only[zG];rw[Cx.P_get (i:=8) (by omega)];simp only[zG];have e1:(i:Int)*c.sl=((i*c.sl.toNat:Nat):Int):=by rw[Int.natCast_mul,Int.toNat_of_nonneg hsl]
  rw[cd hk];simp only[zG];rw[aB hk];simp only[zG];rw[e1,bk (n:=((i*c.sl.toNat:Nat):Int)) (by omega),bk (n:=(c.off 8:Int)+_) (by omega),bk (n:=(c.off 8:Int)+((i*c.sl.toNat:Nat):Int)+(k:Int)) (by omega),show(c.off 8:Int)+((i*c.sl.toNat:Nat):Int)+(k:Int)=((c.off 8+i*c.sl.toNat+k:Nat):Int)by omega,cd (by omega)];simp only[zG];rw[du (by omega)];simp only[zG];rw[bk (by omega)]
  rfl) (fun g=>by
  unfold pC
  rw[zA (by simp),zD]) hg
theorem bE {α β:Type}{o:Option α}{a:α}{F:α→Option β}{r:Option β}(h:o=some a)(k:F a=r):o.bind F=r:=by
 subst h;exact k
theorem aT3 (h:c.Ok)(wT:ce c.T)(e:jT c.mode c.X.length c.T.length c.R c.l c.Q c.k c.len c.words=(c.fixed,c.tp,c.sl,c.ns,0)){W:List Int}(H:Has c W r.st r.ax r.th){ws:List Int}(hws:oj r.sl r.sx=some ws)(wws:ce ws)(hwl:c.off 8+ws.length≤c.off 9)
  (hk: ∀i,∀hi:i<r.kp.length,i<65536∧r.kp[i].length=c.X.length∧ce r.kp[i]∧c.off 8+i*c.sl.toNat+c.sl.toNat≤c.words.toNat∧c.sl.toNat=c.fl.n+c.R.toNat) (hkl:r.kp.length≤65536): ∃g,ol c.mode c.X c.T c.R c.l c.Q c.k c.len c.words c.R c.l c.Q c.k (c.X.length:Int) c.T c.fixed c.tp c.sl c.ns r.L r.p r.q r.st r.sl r.sx r.kp r.ax r.th r.ls r.n0 r.n1 r.n2 r.n3 r.pk=some g∧sX c.words.toNat g:=by
 have nm:=h.num;have hw:=nm.words;have x5:=h.lens;obtain⟨k1,k2,k3,k4,k5,k6⟩:=H.lens h wT;have h9:=h.off9_le;have o0:=jh (c:=c) (show 0<9 by omega);have o1:=jh (c:=c) (show 1<9 by omega);have o5:=jh (c:=c) (show 5<9 by omega);have o6:=jh (c:=c) (show 6<9 by omega);have z0:c.sz 0=c.T.length:=rfl;have z1:c.sz 1=c.X.length:=rfl;have z5:c.sz 5=c.X.length:=rfl;have z6:c.sz 6=c.T.length:=rfl;have i0:ix 0 c.P.length=some 0:=cd (k:=0) (by rw[Cx.P_len];omega);have i1:ix 1 c.P.length=some 1:=cd (k:=1) (by rw[Cx.P_len];omega);have i5:ix 5 c.P.length=some 5:=cd (k:=5) (by rw[Cx.P_len];omega);have i6:ix 6 c.P.length=some 6:=cd (k:=6) (by rw[Cx.P_len];omega);have i8:ix 8 c.P.length=some 8:=cd (k:=8) (by rw[Cx.P_len];omega)
 obtain⟨g1,e1,ok1⟩: ∃g,bt (pB c.T r.st r.ax r.th ws (c.off 0:Int) (c.off 1:Int) (c.off 5:Int) (c.off 6:Int) (c.off 8:Int)) dy (0,List.replicate c.words.toNat 0)=some g∧sX c.words.toNat g:=by
  have one: ∀(i:Nat) (g:List Int),(∃g',bt (yV c.T r.st r.ax r.th ws (c.off 0:Int) (c.off 1:Int) (c.off 5:Int) (c.off 6:Int) (c.off 8:Int) ((i:Int),g)) dy (0,g)=some g'∧sX c.words.toNat g')→i<5→∃g',pB c.T r.st r.ax r.th ws (c.off 0:Int) (c.off 1:Int) (c.off 5:Int) (c.off 6:Int) (c.off 8:Int) ((i:Int),g)=some (.inl (((i+1:Nat):Int),g'))∧sX c.words.toNat g':=fun i g hex hi=>by
   obtain⟨g',e',ok'⟩:=hex;refine⟨g', ?_,ok'⟩;unfold pB;simp only;rw[zB (by omega),zC,e'];simp only[zG];rw[bk (by omega)];rfl
  obtain⟨g1,a1,b1⟩:=one 0 _ (aK1 (w:=c.T) (o:=c.off 0) (by omega) (by omega) wT (fun s=>rfl) ⟨List.length_replicate,ce.rep _⟩) (by omega);obtain⟨g2,a2,b2⟩:=one 1 g1 (aK1 (w:=r.st) (o:=c.off 1) (by omega) (by omega) k4 (fun s=>rfl) b1) (by omega);obtain⟨g3,a3,b3⟩:=one 2 g2 (aK1 (w:=r.ax) (o:=c.off 5) (by omega) (by omega) k5 (fun s=>rfl) b2) (by omega);obtain⟨g4,a4,b4⟩:=one 3 g3 (aK1 (w:=r.th) (o:=c.off 6) (by omega) (by omega) k6 (fun s=>rfl) b3) (by omega)
  obtain⟨g5,a5,b5⟩:=one 4 g4 (bK0 (o:=c.off 8) (w:=ws) (by omega) (by omega) wws (fun k hk g hgl=>by
   show cond (decide ((k:Int)<((ws.length:Nat):Int))) ((ix (k:Int) ws.length).bind fun j=>(ws[j]?).bind fun v=>(ix (IntKind.i64.wrap ((c.off 8:Int)+(k:Int))) g.length).bind fun j2=>(g[j2]?).bind fun _=>some (Sum.inl (IntKind.i64.wrap ((k:Int)+1),g.set j2 v))) (some (Sum.inr g))=_;rw[zB (by omega),zC,cd hk];simp only[zG];rw[aB hk];simp only[zG];rw[bk (n:=(c.off 8:Int)+k) (by omega),show(c.off 8:Int)+(k:Int)=((c.off 8+k:Nat):Int)by omega,cd (by omega)];simp only[zG];rw[du (by omega)];simp only[zG];rw[bk (by omega)]
   rfl) (fun g=>by
   show cond (decide (((ws.length:Nat):Int)<((ws.length:Nat):Int))) _ (some (Sum.inr g))=_
   rw[zA (by omega),zD]) b4) (by omega)
  exact⟨g5,fj (((((Reach.one a1).trans (Reach.one a2)).trans (Reach.one a3)).trans (Reach.one a4)).trans (Reach.one a5)) (by omega) rfl,b5⟩
 have hsl0:0≤c.sl:=by rw[nm.sl];have:=nm.R;split<;>omega
 obtain⟨g2,e2,ok2⟩:=qr (f:=pD c.mode c.X c.T c.R c.l c.Q c.k c.len c.words c.R c.l c.Q c.k (c.X.length:Int) c.T c.fixed c.tp c.sl c.ns r.L r.p r.q r.st r.sl r.sx r.kp r.ax r.th r.ls r.n0 r.n1 r.n2 r.n3 r.pk (0,c.P)) (a:=(0,g1)) (fun a=> ∃(i:Nat) (g:List Int),a=((i:Int),g)∧i≤r.kp.length∧sX c.words.toNat g) (fun a=>((r.kp.length:Int)-a.1).toNat) (sX c.words.toNat) ⟨0,g1,rfl,Nat.zero_le _,ok1⟩ (by simp only;omega) (fun a ha=>by
  obtain⟨i,g,rfl,hi,hg⟩:=ha;by_cases hlt:i<r.kp.length
  ·obtain⟨q1,q2,q3,q4,q5⟩:=hk i hlt;obtain⟨f1,f2,f3,f4,f5⟩:=qQ h wT (t:=(i:Int)) q2 q3;obtain⟨g',e',ok'⟩:=bQ1 h wT (i:=i) (t:=(mL c (i:Int) r.kp[i]).2.1++(mL c (i:Int) r.kp[i]).1) (by rw[List.length_append,f3,f4,q5]) (f2.app f1) q4 hsl0 (by omega) hg;refine .inl ⟨(((i+1:Nat):Int),g'), ?_,⟨i+1,g',rfl,hlt,ok'⟩,by simp only;omega⟩;unfold pD;simp only;rw[zB (by omega),zC,cd6 h wT hlt q1 q2 q3];simp only[zG];rw[e'];simp only[zG];rw[bk (by omega)];rfl
  ·have:i=r.kp.length:=by omega
   subst this;refine .inr ⟨g, ?_,hg⟩;unfold pD;simp only
   rw[zA (by omega),zD])
 refine⟨g2, ?_,ok2⟩;unfold ol;refine bE (aI8 h e) ?_;rw[gdz ⟨by omega,by omega⟩];refine bE hws (bE i0 (bE (Cx.P_get (i:=0) (by omega)) (bE i1 (bE (Cx.P_get (i:=1) (by omega)) (bE i5 (bE (Cx.P_get (i:=5) (by omega)) (bE i6 (bE (Cx.P_get (i:=6) (by omega)) (bE i8 (bE (Cx.P_get (i:=8) (by omega)) (bE e1 (bE e2 rfl))))))))))))
end
end
section
open Go.IntKind renaming wrap → zH, i64 → zI, u64 → zJ
open Sum renaming inl → aB, inr → aD
section
variable {z0 z1 z2 z3 z4 z5 z6 z7 z8 z9 z10 z11 y12 y13 y14 y15:Int}
theorem cV2 :cb z0 z1 z2 z3 z4 z5 z6 z7 z8 z9 z10 z11 y12 y13 y14 y15 z0 z1 z2 z3 z4 z5 z6 z7 z8 z9 z10 z11 0 0 0 0 0=some (.inl 1):=by
 show cond (decide (z0≠z0)) (some (aD (aB false))) (some (aB (zH zI (0+1))))=_;rw[dne];rfl
theorem cV3 :cb z0 z1 z2 z3 z4 z5 z6 z7 z8 z9 z10 z11 y12 y13 y14 y15 z0 z1 z2 z3 z4 z5 z6 z7 z8 z9 z10 z11 0 0 0 0 1=some (.inl 2):=by
 show cond (decide (z1≠z1)) (some (aD (aB false))) (some (aB (zH zI (1+1))))=_;rw[dne];rfl
theorem cV4 :cb z0 z1 z2 z3 z4 z5 z6 z7 z8 z9 z10 z11 y12 y13 y14 y15 z0 z1 z2 z3 z4 z5 z6 z7 z8 z9 z10 z11 0 0 0 0 2=some (.inl 3):=by
 show cond (decide (z2≠z2)) (some (aD (aB false))) (some (aB (zH zI (2+1))))=_;rw[dne];rfl
theorem cV5 :cb z0 z1 z2 z3 z4 z5 z6 z7 z8 z9 z10 z11 y12 y13 y14 y15 z0 z1 z2 z3 z4 z5 z6 z7 z8 z9 z10 z11 0 0 0 0 3=some (.inl 4):=by
 show cond (decide (z3≠z3)) (some (aD (aB false))) (some (aB (zH zI (3+1))))=_;rw[dne];rfl
theorem cV6 :cb z0 z1 z2 z3 z4 z5 z6 z7 z8 z9 z10 z11 y12 y13 y14 y15 z0 z1 z2 z3 z4 z5 z6 z7 z8 z9 z10 z11 0 0 0 0 4=some (.inl 5):=by
 show cond (decide (z4≠z4)) (some (aD (aB false))) (some (aB (zH zI (4+1))))=_;rw[dne];rfl
theorem cV7 :cb z0 z1 z2 z3 z4 z5 z6 z7 z8 z9 z10 z11 y12 y13 y14 y15 z0 z1 z2 z3 z4 z5 z6 z7 z8 z9 z10 z11 0 0 0 0 5=some (.inl 6):=by
 show cond (decide (z5≠z5)) (some (aD (aB false))) (some (aB (zH zI (5+1))))=_;rw[dne];rfl
theorem cV8 :cb z0 z1 z2 z3 z4 z5 z6 z7 z8 z9 z10 z11 y12 y13 y14 y15 z0 z1 z2 z3 z4 z5 z6 z7 z8 z9 z10 z11 0 0 0 0 6=some (.inl 7):=by
 show cond (decide (z6≠z6)) (some (aD (aB false))) (some (aB (zH zI (6+1))))=_;rw[dne];rfl
theorem cV9 :cb z0 z1 z2 z3 z4 z5 z6 z7 z8 z9 z10 z11 y12 y13 y14 y15 z0 z1 z2 z3 z4 z5 z6 z7 z8 z9 z10 z11 0 0 0 0 7=some (.inl 8):=by
 show cond (decide (z7≠z7)) (some (aD (aB false))) (some (aB (zH zI (7+1))))=_;rw[dne];rfl
theorem cW0 :cb z0 z1 z2 z3 z4 z5 z6 z7 z8 z9 z10 z11 y12 y13 y14 y15 z0 z1 z2 z3 z4 z5 z6 z7 z8 z9 z10 z11 0 0 0 0 8=some (.inl 9):=by
 show cond (decide (z8≠z8)) (some (aD (aB false))) (some (aB (zH zI (8+1))))=_;rw[dne];rfl
theorem cW1 :cb z0 z1 z2 z3 z4 z5 z6 z7 z8 z9 z10 z11 y12 y13 y14 y15 z0 z1 z2 z3 z4 z5 z6 z7 z8 z9 z10 z11 0 0 0 0 9=some (.inl 10):=by
 show cond (decide (z9≠z9)) (some (aD (aB false))) (some (aB (zH zI (9+1))))=_;rw[dne];rfl
theorem cF6 :cb z0 z1 z2 z3 z4 z5 z6 z7 z8 z9 z10 z11 y12 y13 y14 y15 z0 z1 z2 z3 z4 z5 z6 z7 z8 z9 z10 z11 0 0 0 0 10=some (.inl 11):=by
 show cond (decide (z10≠z10)) (some (aD (aB false))) (some (aB (zH zI (10+1))))=_;rw[dne];rfl
theorem cF7 :cb z0 z1 z2 z3 z4 z5 z6 z7 z8 z9 z10 z11 y12 y13 y14 y15 z0 z1 z2 z3 z4 z5 z6 z7 z8 z9 z10 z11 0 0 0 0 11=some (.inl 12):=by
 show cond (decide (z11≠z11)) (some (aD (aB false))) (some (aB (zH zI (11+1))))=_;rw[dne];rfl
theorem cF8 :cb z0 z1 z2 z3 z4 z5 z6 z7 z8 z9 z10 z11 y12 y13 y14 y15 z0 z1 z2 z3 z4 z5 z6 z7 z8 z9 z10 z11 0 0 0 0 12=some (.inl 13):=by
 rfl
theorem cF9 :cb z0 z1 z2 z3 z4 z5 z6 z7 z8 z9 z10 z11 y12 y13 y14 y15 z0 z1 z2 z3 z4 z5 z6 z7 z8 z9 z10 z11 0 0 0 0 13=some (.inl 14):=by
 rfl
theorem cG0 :cb z0 z1 z2 z3 z4 z5 z6 z7 z8 z9 z10 z11 y12 y13 y14 y15 z0 z1 z2 z3 z4 z5 z6 z7 z8 z9 z10 z11 0 0 0 0 14=some (.inl 15):=by
 rfl
theorem cG1 :cb z0 z1 z2 z3 z4 z5 z6 z7 z8 z9 z10 z11 y12 y13 y14 y15 z0 z1 z2 z3 z4 z5 z6 z7 z8 z9 z10 z11 0 0 0 0 15=some (.inl 16):=by
 rfl
theorem cm7 :bt (cb z0 z1 z2 z3 z4 z5 z6 z7 z8 z9 z10 z11 y12 y13 y14 y15 z0 z1 z2 z3 z4 z5 z6 z7 z8 z9 z10 z11 0 0 0 0) dy 0=some (.inr ()):=fj ((((((((((((((((Reach.one cV2).trans (Reach.one cV3)).trans (Reach.one cV4)).trans (Reach.one cV5)).trans (Reach.one cV6)).trans (Reach.one cV7)).trans (Reach.one cV8)).trans (Reach.one cV9)).trans (Reach.one cW0)).trans (Reach.one cW1)).trans (Reach.one cF6)).trans (Reach.one cF7)).trans (Reach.one cF8)).trans (Reach.one cF9)).trans (Reach.one cG0)).trans (Reach.one cG1)) (by decide) rfl
theorem cW2 :cc z0 z1 z2 z3 z4 z5 z6 z7 z8 z9 z10 z11 y12 y13 y14 y15 z0 z1 z2 z3 z4 z5 z6 z7 z8 z9 z10 z11 0 0 0 0 0=some (.inl 1):=by
 show cond (decide (z0≠z0)) (some (aD (aB false))) (some (aB (zH zI (0+1))))=_;rw[dne];rfl
theorem cW3 :cc z0 z1 z2 z3 z4 z5 z6 z7 z8 z9 z10 z11 y12 y13 y14 y15 z0 z1 z2 z3 z4 z5 z6 z7 z8 z9 z10 z11 0 0 0 0 1=some (.inl 2):=by
 show cond (decide (z1≠z1)) (some (aD (aB false))) (some (aB (zH zI (1+1))))=_;rw[dne];rfl
theorem cW4 :cc z0 z1 z2 z3 z4 z5 z6 z7 z8 z9 z10 z11 y12 y13 y14 y15 z0 z1 z2 z3 z4 z5 z6 z7 z8 z9 z10 z11 0 0 0 0 2=some (.inl 3):=by
 show cond (decide (z2≠z2)) (some (aD (aB false))) (some (aB (zH zI (2+1))))=_;rw[dne];rfl
theorem cW5 :cc z0 z1 z2 z3 z4 z5 z6 z7 z8 z9 z10 z11 y12 y13 y14 y15 z0 z1 z2 z3 z4 z5 z6 z7 z8 z9 z10 z11 0 0 0 0 3=some (.inl 4):=by
 show cond (decide (z3≠z3)) (some (aD (aB false))) (some (aB (zH zI (3+1))))=_;rw[dne];rfl
theorem cW6 :cc z0 z1 z2 z3 z4 z5 z6 z7 z8 z9 z10 z11 y12 y13 y14 y15 z0 z1 z2 z3 z4 z5 z6 z7 z8 z9 z10 z11 0 0 0 0 4=some (.inl 5):=by
 show cond (decide (z4≠z4)) (some (aD (aB false))) (some (aB (zH zI (4+1))))=_;rw[dne];rfl
theorem cW7 :cc z0 z1 z2 z3 z4 z5 z6 z7 z8 z9 z10 z11 y12 y13 y14 y15 z0 z1 z2 z3 z4 z5 z6 z7 z8 z9 z10 z11 0 0 0 0 5=some (.inl 6):=by
 show cond (decide (z5≠z5)) (some (aD (aB false))) (some (aB (zH zI (5+1))))=_;rw[dne];rfl
theorem cW8 :cc z0 z1 z2 z3 z4 z5 z6 z7 z8 z9 z10 z11 y12 y13 y14 y15 z0 z1 z2 z3 z4 z5 z6 z7 z8 z9 z10 z11 0 0 0 0 6=some (.inl 7):=by
 show cond (decide (z6≠z6)) (some (aD (aB false))) (some (aB (zH zI (6+1))))=_;rw[dne];rfl
theorem cW9 :cc z0 z1 z2 z3 z4 z5 z6 z7 z8 z9 z10 z11 y12 y13 y14 y15 z0 z1 z2 z3 z4 z5 z6 z7 z8 z9 z10 z11 0 0 0 0 7=some (.inl 8):=by
 show cond (decide (z7≠z7)) (some (aD (aB false))) (some (aB (zH zI (7+1))))=_;rw[dne];rfl
theorem cX0 :cc z0 z1 z2 z3 z4 z5 z6 z7 z8 z9 z10 z11 y12 y13 y14 y15 z0 z1 z2 z3 z4 z5 z6 z7 z8 z9 z10 z11 0 0 0 0 8=some (.inl 9):=by
 show cond (decide (z8≠z8)) (some (aD (aB false))) (some (aB (zH zI (8+1))))=_;rw[dne];rfl
theorem cX1 :cc z0 z1 z2 z3 z4 z5 z6 z7 z8 z9 z10 z11 y12 y13 y14 y15 z0 z1 z2 z3 z4 z5 z6 z7 z8 z9 z10 z11 0 0 0 0 9=some (.inl 10):=by
 show cond (decide (z9≠z9)) (some (aD (aB false))) (some (aB (zH zI (9+1))))=_;rw[dne];rfl
theorem cG2 :cc z0 z1 z2 z3 z4 z5 z6 z7 z8 z9 z10 z11 y12 y13 y14 y15 z0 z1 z2 z3 z4 z5 z6 z7 z8 z9 z10 z11 0 0 0 0 10=some (.inl 11):=by
 show cond (decide (z10≠z10)) (some (aD (aB false))) (some (aB (zH zI (10+1))))=_;rw[dne];rfl
theorem cG3 :cc z0 z1 z2 z3 z4 z5 z6 z7 z8 z9 z10 z11 y12 y13 y14 y15 z0 z1 z2 z3 z4 z5 z6 z7 z8 z9 z10 z11 0 0 0 0 11=some (.inl 12):=by
 show cond (decide (z11≠z11)) (some (aD (aB false))) (some (aB (zH zI (11+1))))=_;rw[dne];rfl
theorem cG4 :cc z0 z1 z2 z3 z4 z5 z6 z7 z8 z9 z10 z11 y12 y13 y14 y15 z0 z1 z2 z3 z4 z5 z6 z7 z8 z9 z10 z11 0 0 0 0 12=some (.inl 13):=by
 rfl
theorem cG5 :cc z0 z1 z2 z3 z4 z5 z6 z7 z8 z9 z10 z11 y12 y13 y14 y15 z0 z1 z2 z3 z4 z5 z6 z7 z8 z9 z10 z11 0 0 0 0 13=some (.inl 14):=by
 rfl
theorem cG6 :cc z0 z1 z2 z3 z4 z5 z6 z7 z8 z9 z10 z11 y12 y13 y14 y15 z0 z1 z2 z3 z4 z5 z6 z7 z8 z9 z10 z11 0 0 0 0 14=some (.inl 15):=by
 rfl
theorem cG7 :cc z0 z1 z2 z3 z4 z5 z6 z7 z8 z9 z10 z11 y12 y13 y14 y15 z0 z1 z2 z3 z4 z5 z6 z7 z8 z9 z10 z11 0 0 0 0 15=some (.inl 16):=by
 rfl
theorem cm8 :bt (cc z0 z1 z2 z3 z4 z5 z6 z7 z8 z9 z10 z11 y12 y13 y14 y15 z0 z1 z2 z3 z4 z5 z6 z7 z8 z9 z10 z11 0 0 0 0) dy 0=some (.inr ()):=fj ((((((((((((((((Reach.one cW2).trans (Reach.one cW3)).trans (Reach.one cW4)).trans (Reach.one cW5)).trans (Reach.one cW6)).trans (Reach.one cW7)).trans (Reach.one cW8)).trans (Reach.one cW9)).trans (Reach.one cX0)).trans (Reach.one cX1)).trans (Reach.one cG2)).trans (Reach.one cG3)).trans (Reach.one cG4)).trans (Reach.one cG5)).trans (Reach.one cG6)).trans (Reach.one cG7)) (by decide) rfl
end
theorem cl2 {a0:Int}{a1 a2:List Int}{a3:Int}{a4:List cu}{a5:Int}{a6:List cu}{a7 a8:Int}(hl:OpsOk a4)(hk:OpsOk a6)(h:(jT a0 a1.length a2.length a3 a4 a5 a6 a7 a8).2.2.2.2≠0){W:List Int}{z0 z1 z2 z3 z4 z5 z6 z7 z8 z9 z10 z11 z12 z13 z14 z15:Int}:
  jc a0 a1 a2 a3 a4 a5 a6 a7 a8 W z0 z1 z2 z3 z4 z5 z6 z7 z8 z9 z10 z11 z12 z13 z14 z15=some (.inl (jT a0 a1.length a2.length a3 a4 a5 a6 a7 a8).2.2.2.2):=by
 unfold jc;rw[cq9 hl hk h];simp only[zG,di];rw[zB h,zC]
section
variable {c:Cx}
theorem cu3 :ce []:=fun v hv=>by cases hv
theorem ct1 (h:c.Ok)(hm:c.mode≠3){W:List Int}(hW:Wd c W):c.off 8+(seg W (c.off 8) (c.ns.toNat*(c.X.length+1))).length≤c.off 9:=by
 have htk:=hW.tk h
 have hlen:c.off 8+c.ns.toNat*(c.X.length+1)≤c.off 9:=by
  rcases Nat.eq_zero_or_pos c.ns.toNat with h0|h0
  ·rw[h0,Nat.zero_mul];have:=cb6 (c:=c) (show 8≤9 by omega);omega
  ·have:=(vl h hm h0).2.1;omega
 rw[ib (by omega)];exact hlen
theorem bZ0 (h:c.Ok)(wT:ce c.T)(hm:c.mode=3){i:Nat}(hi:i≤100){s:Dy}{r:RS}(b:Both1 c i s r)(x:Int×Int):
  ∃r' e,Both1 c (i+1) (bM7 c x s).2 r'∧(x.1=0→pE c.mode c.X c.T c.R c.l c.Q c.k c.len c.words c.R c.l c.Q c.k (c.X.length:Int) c.T c.fixed c.tp c.sl c.ns r.L r.p r.q r.st r.sl r.sx r.kp r.ax r.th r.ls r.n0 r.n1 r.n2 r.n3 r.pk=some (encR c r' e))∧(x.1≠0→oT c.mode c.X c.T c.R c.l c.Q c.k c.len c.words c.R c.l c.Q c.k (c.X.length:Int) c.T c.fixed c.tp c.sl c.ns r.L r.p r.q r.st r.sl r.sx r.kp r.ax r.th r.ls r.n0 r.n1 r.n2 r.n3 r.pk x.1 x.2=some (encR c r' e)):=by
 have hw:=b.w.act h hm x;have hL:=b.w.L h;by_cases hx:x.1=0
 ·have ea:bM7 c x s=mI c s:=by unfold bM7;rw[zE hx]
  rw[ea]at hw⊢;exact⟨{r with L:=(mI c s).2.L},_,⟨hw,b.H.more,b.S.more hm,b.sx⟩,fun _=>bi4 b.H hL,fun k=>(k hx).elim⟩
 ·have ea:bM7 c x s=plF c x.1 x.2 s:=by unfold bM7;rw[zF hx]
  have hcb:Cnt (65536*(i:Int)) s:=b.w.cnt;rw[ea]at hw⊢;obtain⟨r',e1,e2,e3,e4⟩:=bT5 h wT hm b.w.inv b.H b.S b.sx hcb (by omega) x.1 x.2;have e5:oT c.mode c.X c.T c.R c.l c.Q c.k c.len c.words c.R c.l c.Q c.k (c.X.length:Int) c.T c.fixed c.tp c.sl c.ns r.L r.p r.q r.st r.sl r.sx r.kp r.ax r.th r.ls r.n0 r.n1 r.n2 r.n3 r.pk x.1 x.2=some (encR c r' (plF c x.1 x.2 s).1):=by unfold oT;rw[zB hm,zC,e1];rfl
  exact⟨r',_,⟨hw,e2,e3,e4⟩,fun k=>(hx k).elim,fun _=>e5⟩
theorem bN2 (h:c.Ok)(wT:ce c.T)(hm:c.mode=3){l:List (Int×Int)}(hl:l.length≤80){s:Dy}{r:RS}(b:Both1 c 0 s r):
  ∃s' r',Both1 c l.length s' r'∧bt (eg l) dy (0,c.mode,c.X,c.T,c.R,c.l,c.Q,c.k,c.len,c.words,c.mode,c.X,c.T,c.R,c.l,c.Q,c.k,c.len,c.words,c.R,c.l,c.Q,c.k,(c.X.length:Int),c.T,c.fixed,c.tp,c.sl,c.ns,r.L,r.p,r.q,r.st,r.sl,r.sx,r.kp,r.ax,r.th,r.ls,r.n0,r.n1,r.n2,r.n3,r.pk)=some (c.mode,c.X,c.T,c.R,c.l,c.Q,c.k,c.len,c.words,c.mode,c.X,c.T,c.R,c.l,c.Q,c.k,c.len,c.words,c.R,c.l,c.Q,c.k,(c.X.length:Int),c.T,c.fixed,c.tp,c.sl,c.ns,r'.L,r'.p,r'.q,r'.st,r'.sl,r'.sx,r'.kp,r'.ax,r'.th,r'.ls,r'.n0,r'.n1,r'.n2,r'.n3,r'.pk):=by
 obtain⟨y,h1,s',r',h2,h3⟩:=qr (f:=eg l) (a:=(0,c.mode,c.X,c.T,c.R,c.l,c.Q,c.k,c.len,c.words,c.mode,c.X,c.T,c.R,c.l,c.Q,c.k,c.len,c.words,c.R,c.l,c.Q,c.k,(c.X.length:Int),c.T,c.fixed,c.tp,c.sl,c.ns,r.L,r.p,r.q,r.st,r.sl,r.sx,r.kp,r.ax,r.th,r.ls,r.n0,r.n1,r.n2,r.n3,r.pk)) (fun a=> ∃(i:Nat) (s:Dy) (r:RS),a=((i:Int),c.mode,c.X,c.T,c.R,c.l,c.Q,c.k,c.len,c.words,c.mode,c.X,c.T,c.R,c.l,c.Q,c.k,c.len,c.words,c.R,c.l,c.Q,c.k,(c.X.length:Int),c.T,c.fixed,c.tp,c.sl,c.ns,r.L,r.p,r.q,r.st,r.sl,r.sx,r.kp,r.ax,r.th,r.ls,r.n0,r.n1,r.n2,r.n3,r.pk)∧i≤l.length∧Both1 c i s r) (fun a=>((l.length:Int)-a.1).toNat) (fun y=> ∃s' r',y=(c.mode,c.X,c.T,c.R,c.l,c.Q,c.k,c.len,c.words,c.mode,c.X,c.T,c.R,c.l,c.Q,c.k,c.len,c.words,c.R,c.l,c.Q,c.k,(c.X.length:Int),c.T,c.fixed,c.tp,c.sl,c.ns,r'.L,r'.p,r'.q,r'.st,r'.sl,r'.sx,r'.kp,r'.ax,r'.th,r'.ls,r'.n0,r'.n1,r'.n2,r'.n3,r'.pk)∧Both1 c l.length s' r') ⟨0,s,r,rfl,Nat.zero_le _,b⟩ (by simp only;omega) (fun a ha=>by
  obtain⟨i,s,r,rfl,hi,b⟩:=ha;by_cases hlt:i<l.length
  ·left;obtain⟨r',e,b',m1,m2⟩:=bZ0 h wT hm (i:=i) (by omega) b l[i];refine⟨(((i+1:Nat):Int),c.mode,c.X,c.T,c.R,c.l,c.Q,c.k,c.len,c.words,c.mode,c.X,c.T,c.R,c.l,c.Q,c.k,c.len,c.words,c.R,c.l,c.Q,c.k,(c.X.length:Int),c.T,c.fixed,c.tp,c.sl,c.ns,r'.L,r'.p,r'.q,r'.st,r'.sl,r'.sx,r'.kp,r'.ax,r'.th,r'.ls,r'.n0,r'.n1,r'.n2,r'.n3,r'.pk), ?_,⟨i+1,_,r',rfl,hlt,b'⟩,by simp only;omega⟩;simp only[eg];rw[zB (by omega),zC,ci hlt];simp only[zG];by_cases hx:l[i].1=0
   ·rw[zB hx,zC,m1 hx];simp only[zG,encR];rw[bk (by omega),show(i:Int)+1=((i+1:Nat):Int)by omega]
   ·rw[zA hx,zD,m2 hx];simp only[zG,encR];rw[bk (by omega),show(i:Int)+1=((i+1:Nat):Int)by omega]
  ·right;have hie:i=l.length:=by omega
   subst hie;refine⟨_, ?_,s,r,rfl,b⟩;simp only[eg]
   rw[zA (by omega),zD])
 exact⟨s',r',h3,by rw[h1,h2]⟩
theorem bV4 (h:c.Ok)(wT:ce c.T)(hm:c.mode=3)(e:jT c.mode c.X.length c.T.length c.R c.l c.Q c.k c.len c.words=(c.fixed,c.tp,c.sl,c.ns,0)){i:Nat}{s:Dy}{r:RS}(b:Both1 c i s r): ∃g,ol c.mode c.X c.T c.R c.l c.Q c.k c.len c.words c.R c.l c.Q c.k (c.X.length:Int) c.T c.fixed c.tp c.sl c.ns r.L r.p r.q r.st r.sl r.sx r.kp r.ax r.th r.ls r.n0 r.n1 r.n2 r.n3 r.pk=some g∧sX c.words.toNat g:=by
 have hL:=b.w.L h;have nm:=h.num;have hns:=h.ns;have htk:=b.w.inv.w.tk h;have hWl:s.W.length=c.words.toNat:=b.w.inv.w;have hws:oj r.sl r.sx=some []:=by rw[b.S.sl,b.sx];rfl
 have hkl:=b.S.len;have hh:=bQ0 b.w.inv;have hns3:=(bf8 h hm b.w.inv).2.2.2.2.2.2;refine aT3 h wT e b.H.has hws cu3 ?_ (fun i hi=> ?_) ?_
 ·have:=cb6 (c:=c) (show 8≤9 by omega);simp only[List.length_nil];omega
 ·skip
  obtain⟨k1,k2,k3⟩:=b.S.kept i hi;obtain⟨s1,s2,s3,s4⟩:=uy h hm (i:=i) (by omega);unfold mJ at s3;exact⟨by omega,k1,k2,by omega,s1⟩
 ·omega
theorem cC5 (h:c.Ok)(hm:c.mode=3){i:Nat}{s:Dy}{r:RS}(b:Both1 c i s r): ∃z0 z1 z2 z3 z4 z5 z6 z7 z8 z9 z10,lO c.mode c.X c.T c.R c.l c.Q c.k c.len c.words c.R c.l c.Q c.k (c.X.length:Int) c.T c.fixed c.tp c.sl c.ns r.L r.p r.q r.st r.sl r.sx r.kp r.ax r.th r.ls r.n0 r.n1 r.n2 r.n3 r.pk=some (z0,z1,z2,z3,z4,z5,z6,z7,z8,z9,z10,r.ls)∧(ij z0∧ij z1∧ij z2∧ij z3∧ij z4∧ij z5∧ij z6∧ij z7∧ij z8∧ij z9∧ij z10):=by
 have hlv:=aN4 h hm b.w.inv b.S;unfold lO;rw[hlv];exact⟨_,_,_,_,_,_,_,_,_,_,_,rfl,qR _,qR _,qR _,qR _,qR _,qR _,qR _,qR _,qR _,qR _,qR _⟩
theorem bZ1 (h:c.Ok)(wT:ce c.T)(hm:c.mode≠3){i:Nat}(hi:i≤100){s:Dy}{r:RS}(b:Both2 c i s r)(x:Int×Int):
  ∃r' e,Both2 c (i+1) (bM8 c x s).2 r'∧(x.1=0→pE c.mode c.X c.T c.R c.l c.Q c.k c.len c.words c.R c.l c.Q c.k (c.X.length:Int) c.T c.fixed c.tp c.sl c.ns r.L r.p r.q r.st r.sl r.sx r.kp r.ax r.th r.ls r.n0 r.n1 r.n2 r.n3 r.pk=some (encR c r' e))∧(x.1≠0→oT c.mode c.X c.T c.R c.l c.Q c.k c.len c.words c.R c.l c.Q c.k (c.X.length:Int) c.T c.fixed c.tp c.sl c.ns r.L r.p r.q r.st r.sl r.sx r.kp r.ax r.th r.ls r.n0 r.n1 r.n2 r.n3 r.pk x.1 x.2=some (encR c r' e)):=by
 have hw:=b.w.act h hm x;have hL:=b.w.inv.L;by_cases hx:x.1=0
 ·have ea:bM8 c x s=mI c s:=by unfold bM8;rw[zE hx]
  rw[ea]at hw⊢;exact⟨{r with L:=(mI c s).2.L},_,⟨hw,b.H.more,b.S.more⟩,fun _=>bi4 b.H hL,fun k=>(k hx).elim⟩
 ·have ea:bM8 c x s=doF c x.1 x.2 s:=by unfold bM8;rw[zF hx]
  have hcb:Cnt (65536*(i:Int)) s:=b.w.cnt;rw[ea]at hw⊢;obtain⟨r',e1,e2,e3⟩:=cr2 h wT hm b.w.inv b.H b.S hcb (by omega) x.1 x.2;have e5:=e1;exact⟨r',_,⟨hw,e2,e3⟩,fun k=>(hx k).elim,fun _=>e5⟩
theorem bN3 (h:c.Ok)(wT:ce c.T)(hm:c.mode≠3){l:List (Int×Int)}(hl:l.length≤80){s:Dy}{r:RS}(b:Both2 c 0 s r):
  ∃s' r',Both2 c l.length s' r'∧bt (eg l) dy (0,c.mode,c.X,c.T,c.R,c.l,c.Q,c.k,c.len,c.words,c.mode,c.X,c.T,c.R,c.l,c.Q,c.k,c.len,c.words,c.R,c.l,c.Q,c.k,(c.X.length:Int),c.T,c.fixed,c.tp,c.sl,c.ns,r.L,r.p,r.q,r.st,r.sl,r.sx,r.kp,r.ax,r.th,r.ls,r.n0,r.n1,r.n2,r.n3,r.pk)=some (c.mode,c.X,c.T,c.R,c.l,c.Q,c.k,c.len,c.words,c.mode,c.X,c.T,c.R,c.l,c.Q,c.k,c.len,c.words,c.R,c.l,c.Q,c.k,(c.X.length:Int),c.T,c.fixed,c.tp,c.sl,c.ns,r'.L,r'.p,r'.q,r'.st,r'.sl,r'.sx,r'.kp,r'.ax,r'.th,r'.ls,r'.n0,r'.n1,r'.n2,r'.n3,r'.pk):=by
 obtain⟨y,h1,s',r',h2,h3⟩:=qr (f:=eg l) (a:=(0,c.mode,c.X,c.T,c.R,c.l,c.Q,c.k,c.len,c.words,c.mode,c.X,c.T,c.R,c.l,c.Q,c.k,c.len,c.words,c.R,c.l,c.Q,c.k,(c.X.length:Int),c.T,c.fixed,c.tp,c.sl,c.ns,r.L,r.p,r.q,r.st,r.sl,r.sx,r.kp,r.ax,r.th,r.ls,r.n0,r.n1,r.n2,r.n3,r.pk)) (fun a=> ∃(i:Nat) (s:Dy) (r:RS),a=((i:Int),c.mode,c.X,c.T,c.R,c.l,c.Q,c.k,c.len,c.words,c.mode,c.X,c.T,c.R,c.l,c.Q,c.k,c.len,c.words,c.R,c.l,c.Q,c.k,(c.X.length:Int),c.T,c.fixed,c.tp,c.sl,c.ns,r.L,r.p,r.q,r.st,r.sl,r.sx,r.kp,r.ax,r.th,r.ls,r.n0,r.n1,r.n2,r.n3,r.pk)∧i≤l.length∧Both2 c i s r) (fun a=>((l.length:Int)-a.1).toNat) (fun y=> ∃s' r',y=(c.mode,c.X,c.T,c.R,c.l,c.Q,c.k,c.len,c.words,c.mode,c.X,c.T,c.R,c.l,c.Q,c.k,c.len,c.words,c.R,c.l,c.Q,c.k,(c.X.length:Int),c.T,c.fixed,c.tp,c.sl,c.ns,r'.L,r'.p,r'.q,r'.st,r'.sl,r'.sx,r'.kp,r'.ax,r'.th,r'.ls,r'.n0,r'.n1,r'.n2,r'.n3,r'.pk)∧Both2 c l.length s' r') ⟨0,s,r,rfl,Nat.zero_le _,b⟩ (by simp only;omega) (fun a ha=>by
  obtain⟨i,s,r,rfl,hi,b⟩:=ha;by_cases hlt:i<l.length
  ·left;obtain⟨r',e,b',m1,m2⟩:=bZ1 h wT hm (i:=i) (by omega) b l[i];refine⟨(((i+1:Nat):Int),c.mode,c.X,c.T,c.R,c.l,c.Q,c.k,c.len,c.words,c.mode,c.X,c.T,c.R,c.l,c.Q,c.k,c.len,c.words,c.R,c.l,c.Q,c.k,(c.X.length:Int),c.T,c.fixed,c.tp,c.sl,c.ns,r'.L,r'.p,r'.q,r'.st,r'.sl,r'.sx,r'.kp,r'.ax,r'.th,r'.ls,r'.n0,r'.n1,r'.n2,r'.n3,r'.pk), ?_,⟨i+1,_,r',rfl,hlt,b'⟩,by simp only;omega⟩;simp only[eg];rw[zB (by omega),zC,ci hlt];simp only[zG];by_cases hx:l[i].1=0
   ·rw[zB hx,zC,m1 hx];simp only[zG,encR];rw[bk (by omega),show(i:Int)+1=((i+1:Nat):Int)by omega]
   ·rw[zA hx,zD,m2 hx];simp only[zG,encR];rw[bk (by omega),show(i:Int)+1=((i+1:Nat):Int)by omega]
  ·right;have hie:i=l.length:=by omega
   subst hie;refine⟨_, ?_,s,r,rfl,b⟩;simp only[eg]
   rw[zA (by omega),zD])
 exact⟨s',r',h3,by rw[h1,h2]⟩
theorem bV5 (h:c.Ok)(wT:ce c.T)(hm:c.mode≠3)(e:jT c.mode c.X.length c.T.length c.R c.l c.Q c.k c.len c.words=(c.fixed,c.tp,c.sl,c.ns,0)){i:Nat}{s:Dy}{r:RS}(b:Both2 c i s r): ∃g,ol c.mode c.X c.T c.R c.l c.Q c.k c.len c.words c.R c.l c.Q c.k (c.X.length:Int) c.T c.fixed c.tp c.sl c.ns r.L r.p r.q r.st r.sl r.sx r.kp r.ax r.th r.ls r.n0 r.n1 r.n2 r.n3 r.pk=some g∧sX c.words.toNat g:=by
 have hL:=b.w.inv.L;have nm:=h.num;have hns:=h.ns;have htk:=b.w.inv.w.tk h;have hWl:s.W.length=c.words.toNat:=b.w.inv.w;have hws:=bT3 h hm b.w.inv.w b.H.has.w b.S (fun k hk=>by have:=b.w.inv.tag k hk;omega);refine aT3 h wT e b.H.has hws (b.H.has.w.seg _ _) ?_ (fun i hi=> ?_) ?_
 ·exact ct1 h hm b.w.inv.w
 ·rw[b.S.kp]at hi;cases hi
 ·rw[b.S.kp];simp
theorem cC6 (h:c.Ok)(hm:c.mode≠3){i:Nat}{s:Dy}{r:RS}(b:Both2 c i s r): ∃z0 z1 z2 z3 z4 z5 z6 z7 z8 z9 z10,lO c.mode c.X c.T c.R c.l c.Q c.k c.len c.words c.R c.l c.Q c.k (c.X.length:Int) c.T c.fixed c.tp c.sl c.ns r.L r.p r.q r.st r.sl r.sx r.kp r.ax r.th r.ls r.n0 r.n1 r.n2 r.n3 r.pk=some (z0,z1,z2,z3,z4,z5,z6,z7,z8,z9,z10,r.ls)∧(ij z0∧ij z1∧ij z2∧ij z3∧ij z4∧ij z5∧ij z6∧ij z7∧ij z8∧ij z9∧ij z10):=by
 have hlv:=aB4 h b.w.inv b.S;unfold lO;rw[hlv];exact⟨_,_,_,_,_,_,_,_,_,_,_,rfl,qR _,qR _,qR _,qR _,qR _,qR _,qR _,qR _,qR _,qR _,qR _⟩
end
end
section
open Bool renaming not_true → aD
open Int renaming eq_ofNat_of_zero_le → bB
open List renaming length_take → bD
open Nat renaming beq → aB
theorem ch5 {g:List Int}{N:Nat}(hg:sX N g){p v:Int}(wv:ij v): ∃g',(cond (decide (0≤p)) (cond (decide (p<((g.length:Nat):Int))) ((ix p g.length).bind fun j=>(g[j]?).bind fun _=>some (g.set j v)) (some g)) (some g))=some g'∧sX N g':=by
 by_cases h0:0≤p
 ·rw[zB h0,zC];by_cases h1:p<((g.length:Nat):Int)
  ·rw[zB h1,zC];obtain⟨k,rfl⟩:=bB h0;refine⟨g.set k v, ?_,by rw[List.length_set];exact hg.1,hg.2.set wv _⟩;rw[show ix (k:Int) g.length=some k from cd (by omega)];simp only[zG];rw[du (by omega)];rfl
  ·rw[zA h1,zD];exact⟨g,rfl,hg⟩
 ·rw[zA h0,zD];exact⟨g,rfl,hg⟩
theorem xz {b:Bool}{x y:Int}(hx:ij x)(hy:ij y):ij (cond b x y):=by cases b<;>assumption
theorem cC4 {p u z0 z1 z2 z3 z4 z5 z6 z7 z8 z9 z10 z11:Int}(wu:ij u)(hw:ij z0∧ij z1∧ij z2∧ij z3∧ij z4∧ij z5∧ij z6∧ij z7∧ij z8∧ij z9∧ij z10): ∃y0 y1 y2 y3 y4 y5 y6 y7 y8 y9 y10 y11 y12 y13 y14 y15,(cond (decide (0≤p)) (cond (decide (p<16)) ((ix p 16).bind fun j=>some ((cond (aB j 0) u z0),(cond (aB j 1) u z1),(cond (aB j 2) u z2),(cond (aB j 3) u z3),(cond (aB j 4) u z4),(cond (aB j 5) u z5),(cond (aB j 6) u z6),(cond (aB j 7) u z7),(cond (aB j 8) u z8),(cond (aB j 9) u z9),(cond (aB j 10) u z10),(cond (aB j 11) u z11),(cond (aB j 12) u 0),(cond (aB j 13) u 0),(cond (aB j 14) u 0),(cond (aB j 15) u 0))) (some (z0,z1,z2,z3,z4,z5,z6,z7,z8,z9,z10,z11,0,0,0,0))) (some (z0,z1,z2,z3,z4,z5,z6,z7,z8,z9,z10,z11,0,0,0,0)))=some (y0,y1,y2,y3,y4,y5,y6,y7,y8,y9,y10,y11,y12,y13,y14,y15)∧(ij y0∧ij y1∧ij y2∧ij y3∧ij y4∧ij y5∧ij y6∧ij y7∧ij y8∧ij y9∧ij y10):=by
 obtain⟨w0,w1,w2,w3,w4,w5,w6,w7,w8,w9,w10⟩:=hw;by_cases h0:0≤p
 ·rw[zB h0,zC];by_cases h1:p<16
  ·rw[zB h1,zC];obtain⟨k,rfl⟩:=bB h0;rw[show ix (k:Int) 16=some k from cd (by omega)];exact⟨_,_,_,_,_,_,_,_,_,_,_,_,_,_,_,_,rfl,xz wu w0,xz wu w1,xz wu w2,xz wu w3,xz wu w4,xz wu w5,xz wu w6,xz wu w7,xz wu w8,xz wu w9,xz wu w10⟩
  ·rw[zA h1,zD];exact⟨_,_,_,_,_,_,_,_,_,_,_,_,_,_,_,_,rfl,w0,w1,w2,w3,w4,w5,w6,w7,w8,w9,w10⟩
 ·rw[zA h0,zD];exact⟨_,_,_,_,_,_,_,_,_,_,_,_,_,_,_,_,rfl,w0,w1,w2,w3,w4,w5,w6,w7,w8,w9,w10⟩
section
variable {c:Cx}
theorem cj6 {W:List Int}{z0 z1 z2 z3 z4 z5 z6 z7 z8 z9 z10 z11:Int}(f:Fit c W z0 z1 z2 z3 z4 z9 z10)(w1:ij z1)(w2:ij z2)(w3:ij z3)(w5:ij z5)(w6:ij z6)(w7:ij z7)(w8:ij z8)(w9:ij z9)(w10:ij z10):cN4 c (dz W z1 z2 z3 z5 z6 z7 z8 z9 z10 z11)=(z0,z1,z2,z3,z4,z5,z6,z7,z8,z9,z10,z11,0,0,0,0):=by
 obtain⟨⟨_,f1,f2,_⟩,_⟩:=f;unfold cN4 dz;simp only;rw[show z3-1+1=z3 by omega,wUI w3,wUI w5,wUI w6,wUI w7,wUI w8,nr w1,nr w2,nr w9,nr w10,←f1,←f2]
theorem bq1 (h:c.Ok)(wT:ce c.T)(wX:ce c.X)(hm:c.mode=3)(e:jT c.mode c.X.length c.T.length c.R c.l c.Q c.k c.len c.words=(c.fixed,c.tp,c.sl,c.ns,0))(hs:mv c.mode c.X c.T c.R c.l c.Q c.k c.len c.words=some true){l:List (Int×Int)}(hl:l.length≤60){p v q u:Int}(wv:ij v)(wu:ij u):gl c.mode c.X c.T c.R c.l c.Q c.k c.len c.words l p v q u=some true:=by
 have nm:=h.num;have hwd:=nm.words;have hnw:1≤c.words:=by have:=uq h;omega
 obtain⟨q1,q2⟩:=cz2 h wT wX hm;have b:Both1 c 0 (new1 c) (cz1 c):=⟨bw1 h hm l 0,q1,q2,rfl⟩;obtain⟨s,r,b',hloop⟩:=bN2 h wT hm (l:=l) (by omega) b;obtain⟨g,hg,gok⟩:=bV4 h wT hm e b';obtain⟨z0,z1,z2,z3,z4,z5,z6,z7,z8,z9,z10,hsc,zw⟩:=cC5 h hm b';obtain⟨g',hg',gok'⟩:=ch5 gok (p:=p) wv;obtain⟨y0,y1,y2,y3,y4,y5,y6,y7,y8,y9,y10,y11,y12,y13,y14,y15,hy,w0,w1,w2,w3,w4,w5,w6,w7,w8,w9,w10⟩:=cC4 (p:=q) (z11:=r.ls) wu zw;obtain⟨bb,hb1,hb2⟩:=br1 (z0:=y0) (z1:=y1) (z2:=y2) (z3:=y3) (z4:=y4) (z5:=y5) (z6:=y6) (z7:=y7) (z8:=y8) (z9:=y9) (z10:=y10) (z11:=y11) (z12:=y12) (z13:=y13) (z14:=y14) (z15:=y15) h e gok'.2 (by rw[gok'.1];omega) w1 w2 w3 w9 w10 hm;obtain⟨bf,hf1,hf2⟩:=cg8 (z5:=y5) (z6:=y6) (z7:=y7) (z8:=y8) (z11:=y11) (z12:=y12) (z13:=y13) (z14:=y14) (z15:=y15) h e gok'.2 (by rw[gok'.1];omega) w0 w1 w2 w3 w4 w9 w10;have hlen1:(g'.take (g'.length-1)).length=g'.length-1:=by rw[bD];omega
 obtain⟨bs,hs1,hs2⟩:=br1 (z0:=y0) (z1:=y1) (z2:=y2) (z3:=y3) (z4:=y4) (z5:=y5) (z6:=y6) (z7:=y7) (z8:=y8) (z9:=y9) (z10:=y10) (z11:=y11) (z12:=y12) (z13:=y13) (z14:=y14) (z15:=y15) h e (gok'.2.take (g'.length-1)) (by rw[hlen1,gok'.1];omega) w1 w2 w3 w9 w10 hm
 have hbs:bs=false:=by
  cases bs with
  |false=>rfl
  |true=>have:=(hs1.1 rfl).1.1;rw[hlen1,gok'.1]at this;omega
 have hbf:bf=bb:=by
  cases bb with
  |true=>exact hf2.2 (hb1.1 rfl)
  |false=>cases bf with
   |false=>rfl
   |true=>exact absurd (hb1.2 (hf2.1 rfl)) (by simp)
 unfold gl;rw[hs];simp only[zG,aD,zD];rw[zA (show¬(60<((l.length:Nat):Int))by omega)];simp only[zD];rw[cd4 h hm e];simp only[zG];rw[zA (by simp),zD];refine bE hloop ?_;refine bE hg ?_;refine bE hsc ?_;refine bE hg' ?_;refine bE hy ?_;refine bE hb2 ?_;cases bb with
 |false=>
  simp only[zD,di];rw[hf1,hbf];simp only[zG,Bool.not_false,zC,decide_true];rw[aB0];rfl
 |true=>
  have f:=hb1.1 rfl;have hW:Wd c g':=f.1.1;simp only[zC,di,cn,cS7];rw[hf1,hbf];simp only[zG,aD,zD];refine bE (cY0 h (s:=dz g' y1 y2 y3 y5 y6 y7 y8 y9 y10 y11) hW) ?_;show(nC g' g').bind _=_;rw[cC3 (by rw[gok'.1];omega)];simp only[zG,aD,zD];refine bE ((ct4 (c:=c) (dz g' y1 y2 y3 y5 y6 y7 y8 y9 y10 y11)).trans (congrArg some (cj6 f w1 w2 w3 w5 w6 w7 w8 w9 w10))) ?_;refine bE cm7 ?_;simp only[cn];rw[bk (by rw[gok'.1];omega),iw (by rw[gok'.1];omega),ei]
  have ht:(g'.drop 0).take ((((g'.length:Nat):Int)-1).toNat-0)=g'.take (g'.length-1):=by
   rw[List.drop_zero,Nat.sub_zero,show(((g'.length:Nat):Int)-1).toNat=g'.length-1 by omega]
  rw[ht];refine bE hs2 ?_;rw[hbs];simp only[zD,di,decide_true,zC];rw[aB0];rfl
theorem bq2 (h:c.Ok)(wT:ce c.T)(wX:ce c.X)(hm:c.mode≠3)(e:jT c.mode c.X.length c.T.length c.R c.l c.Q c.k c.len c.words=(c.fixed,c.tp,c.sl,c.ns,0))(hs:mv c.mode c.X c.T c.R c.l c.Q c.k c.len c.words=some true){l:List (Int×Int)}(hl:l.length≤60){p v q u:Int}(wv:ij v)(wu:ij u):gl c.mode c.X c.T c.R c.l c.Q c.k c.len c.words l p v q u=some true:=by
 have nm:=h.num;have hwd:=nm.words;have hnw:1≤c.words:=by have:=uq h;omega
 obtain⟨q1,q2⟩:=cz3 h wT wX hm;have b:Both2 c 0 (new2 c) (bg8 c):=⟨bw2 h hm l 0,q1,q2⟩;obtain⟨s,r,b',hloop⟩:=bN3 h wT hm (l:=l) (by omega) b;obtain⟨g,hg,gok⟩:=bV5 h wT hm e b';obtain⟨z0,z1,z2,z3,z4,z5,z6,z7,z8,z9,z10,hsc,zw⟩:=cC6 h hm b';obtain⟨g',hg',gok'⟩:=ch5 gok (p:=p) wv;obtain⟨y0,y1,y2,y3,y4,y5,y6,y7,y8,y9,y10,y11,y12,y13,y14,y15,hy,w0,w1,w2,w3,w4,w5,w6,w7,w8,w9,w10⟩:=cC4 (p:=q) (z11:=r.ls) wu zw;obtain⟨bb,hb1,hb2⟩:=br2 (z0:=y0) (z1:=y1) (z2:=y2) (z3:=y3) (z4:=y4) (z5:=y5) (z6:=y6) (z7:=y7) (z8:=y8) (z9:=y9) (z10:=y10) (z11:=y11) (z12:=y12) (z13:=y13) (z14:=y14) (z15:=y15) h e gok'.2 (by rw[gok'.1];omega) w1 w2 w3 w9 w10 hm;obtain⟨bf,hf1,hf2⟩:=cg8 (z5:=y5) (z6:=y6) (z7:=y7) (z8:=y8) (z11:=y11) (z12:=y12) (z13:=y13) (z14:=y14) (z15:=y15) h e gok'.2 (by rw[gok'.1];omega) w0 w1 w2 w3 w4 w9 w10;have hlen1:(g'.take (g'.length-1)).length=g'.length-1:=by rw[bD];omega
 obtain⟨bs,hs1,hs2⟩:=br2 (z0:=y0) (z1:=y1) (z2:=y2) (z3:=y3) (z4:=y4) (z5:=y5) (z6:=y6) (z7:=y7) (z8:=y8) (z9:=y9) (z10:=y10) (z11:=y11) (z12:=y12) (z13:=y13) (z14:=y14) (z15:=y15) h e (gok'.2.take (g'.length-1)) (by rw[hlen1,gok'.1];omega) w1 w2 w3 w9 w10 hm
 have hbs:bs=false:=by
  cases bs with
  |false=>rfl
  |true=>have:=(hs1.1 rfl).1.1;rw[hlen1,gok'.1]at this;omega
 have hbf:bf=bb:=by
  cases bb with
  |true=>exact hf2.2 (hb1.1 rfl)
  |false=>cases bf with
   |false=>rfl
   |true=>exact absurd (hb1.2 (hf2.1 rfl)) (by simp)
 unfold gl;rw[hs];simp only[zG,aD,zD];rw[zA (show¬(60<((l.length:Nat):Int))by omega)];simp only[zD];rw[cd5 h hm e];simp only[zG];rw[zA (by simp),zD];refine bE hloop ?_;refine bE hg ?_;refine bE hsc ?_;refine bE hg' ?_;refine bE hy ?_;refine bE hb2 ?_;cases bb with
 |false=>
  simp only[zD,di];rw[hf1,hbf];simp only[zG,Bool.not_false,zC,decide_true];rw[aB0];rfl
 |true=>
  have f:=hb1.1 rfl;have hW:Wd c g':=f.1.1;simp only[zC,di,cn,cS8];rw[hf1,hbf];simp only[zG,aD,zD];refine bE (cY1 h (s:=dz g' y1 y2 y3 y5 y6 y7 y8 y9 y10 y11) hW) ?_;show(nC g' g').bind _=_;rw[cC3 (by rw[gok'.1];omega)];simp only[zG,aD,zD];refine bE ((ct5 (c:=c) (dz g' y1 y2 y3 y5 y6 y7 y8 y9 y10 y11)).trans (congrArg some (cj6 f w1 w2 w3 w5 w6 w7 w8 w9 w10))) ?_;refine bE cm8 ?_;simp only[cn];rw[bk (by rw[gok'.1];omega),iw (by rw[gok'.1];omega),ei]
  have ht:(g'.drop 0).take ((((g'.length:Nat):Int)-1).toNat-0)=g'.take (g'.length-1):=by
   rw[List.drop_zero,Nat.sub_zero,show(((g'.length:Nat):Int)-1).toNat=g'.length-1 by omega]
  rw[ht];refine bE hs2 ?_;rw[hbs];simp only[zD,di,decide_true,zC];rw[aB0];rfl
end
section
variable {a0:Int} {a1 a2:List Int} {a3:Int} {a4:List cu} {a5:Int} {a6:List cu} {a7 a8:Int}
theorem bQ7 {a9:List (Int×Int)}{a10 a11 a12 a13:Int}(h1:ce a1)(h2:ce a2)(h4: ∀o∈a4,okV o)(h6: ∀o∈a6,okV o)(wv:ij a11)(wu:ij a13):gl a0 a1 a2 a3 a4 a5 a6 a7 a8 a9 a10 a11 a12 a13=some true:=by
 rcases cN9 (a0:=a0) (a1:=a1) (a2:=a2) (a3:=a3) (a5:=a5) (a7:=a7) (a8:=a8) h4 h6 with hs|⟨hs,o4,o6,x1,x2⟩
 ·unfold gl;rw[hs,aB0];rfl
 by_cases c1:(60:Int)<((a9.length:Nat):Int)
 ·unfold gl;rw[hs];simp only[zG,aD,zD];rw[zB c1,aB0];rfl
 by_cases hp:(jT a0 a1.length a2.length a3 a4 a5 a6 a7 a8).2.2.2.2≠0
 ·unfold gl;rw[hs];simp only[zG,aD,zD];rw[zA c1];simp only[zD];rw[cr3 o4 o6 hp];simp only[zG];rw[zB hp,zC,cl2 o4 o6 hp];simp only[zG,di,decide_true,zC];rw[aB0];rfl
 obtain⟨c,hc,e0,e1,e2,e3,e4,e5,e6,e7,e8,e9⟩:=dk5 o4 o6 (show(jT a0 a1.length a2.length a3 a4 a5 a6 a7 a8).2.2.2.2=0 by omega);subst e0 e1 e2 e3 e4 e5 e6 e7 e8;by_cases hm:c.mode=3
 ·exact bq1 hc h2 h1 hm e9 hs (by omega) wv wu
 ·exact bq2 hc h2 h1 hm e9 hs (by omega) wv wu
end
end
end Go.V
