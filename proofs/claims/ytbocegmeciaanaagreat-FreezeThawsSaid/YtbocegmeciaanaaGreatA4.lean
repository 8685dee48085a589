/- A part of the proofs of this claim: what functions of the program answer on an abstract machine, and plain laws. No condition. -/
import Derived.Test.YtbocegmeciaanaaGreatA3
set_option linter.unusedVariables false
set_option linter.unusedSimpArgs false
set_option linter.unusedSectionVars false
namespace Go.V
open Go.Ab
open Option renaming some->C,none->O
open Bool renaming true->Za,false->Zb
open Decidable renaming decide->Zc
section
open Bool renaming and_eq_true -> aB
open List renaming replicate -> bD, nil_append -> dD, append_assoc -> fB, drop_append -> fD, drop_of_length_le -> gB, length_append -> gD, length_cons -> iA, length_take -> iB, replicate_succ -> iC, take_append_drop -> iD
open Nat renaming beq -> aD, le_of_ble_eq_true -> bB, eq_of_beq_eq_true -> cB, ble -> cD, le_refl -> dB, zero_add -> eD
section
variable {β:Type} {T:ja} {c:Ctx} {e:gf} {ea:ey} {k:VV->ci->Option β} {y:β} {d:List Nat}
theorem VRel.bool_inv {b:Bool}{a:Value}(h:VRel c (.bool b) a):a= .bool b:=by cases h;rfl
theorem VRel.int_inv {kd:IntKind}{n:Int}{a:Value}(h:VRel c (.int kd n) a):a= .int kd n:=by cases h;rfl
theorem VRel.str_inv {l:Zd}{a:Value}(h:VRel c (.str l) a): ∃s,a= .string s/\fp s=l:=by cases h;exact⟨_,rfl,by assumption⟩
theorem VRel.agg_inv {l:List VV}{a:Value}(h:VRel c (.agg l) a): ∃as:Array Value,a= .agg as/\F2 (VRel c) l as.toList:=by cases h;exact⟨_,rfl,by assumption⟩
theorem VRel.tup_inv {l:List VV}{a:Value}(h:VRel c (.tup l) a): ∃as:Array Value,a= .tuple as/\F2 (VRel c) l as.toList:=by cases h;exact⟨_,rfl,by assumption⟩
theorem cK4 {p:Bool}{x z v:VV}{xa za:Value}(h:ds3 p x z=C v)(hx:VRel c x xa)(hz:VRel c z za):VRel c v (cond p xa za):=by
 unfold ds3 at h;split at h
 .rename_i k1 n1 k2 n2;cases hk:Zc (k1=k2)with
  |false=>rw[hk]at h;cases h
  |true=>
   rw[hk]at h;injection h with h
   subst h;have:=of_decide_eq_true hk;subst this;rw[hx.int_inv,hz.int_inv];cases p<;>exact .int _ _
 .injection h with h
  subst h;rw[hx.bool_inv,hz.bool_inv];cases p<;>exact .bool _
 .injection h with h
  subst h;cases p<;>assumption
 .cases h
theorem dz0 (hR:gw c)(he:cn c e ea){x:Operand}(h:k (ev e x) c.S=C y):di T (.move x) ea c.Y (kq c d k y):=
 dq rfl (kq.same hR (dk he x) h)
theorem dB3 (hR:gw c)(he:cn c e ea){t a b:Operand}{p:Bool}(hp:ev e t= .bool p)(h:dq3 p (ev e a) (ev e b) c.S k=C y):di T (.pick t a b) ea c.Y (kq c d k y):=by
 have ht:=dk he t;rw[hp]at ht;have ht:=ht.bool_inv
 have key: ∀v,VRel c v (cond p (ea.ev a) (ea.ev b))->k v c.S=C y->di T (.pick t a b) ea c.Y (kq c d k y):=by
  intro v hv hk;refine dq (v:=cond p (ea.ev a) (ea.ev b)) (Y':=c.Y) ?_ (kq.same hR hv hk);simp only[AOp.run,ht];cases p<;>rfl
 unfold dq3 at h;split at h
 .rename_i v hs;exact key v (cK4 hs (dk he a) (dk he b)) h
 .cases p with
  |true=>exact key _ (dk he a) h
  |false=>exact key _ (dk he b) h
theorem kq.new {v:Value}{vv:VV}{b1:Option Nat}{blk:Blk}{Y':Hp}{kill:Option Nat}(hR:gw c)(h:Moves c kill b1 blk Y')(hd: ∀q,kill=C q->q∈d)(hv:VRel ⟨aj5 c b1,w6 c.S kill++[blk],Y',c.fb⟩ vv v)(hk:k vv (w6 c.S kill++[blk])=C y):kq c d k y v Y':=
 ⟨vv,_,rfl,h.le hR,h.rel hR,h.calm hR hd,hv,hk⟩
theorem cY4 {blk:Blk}{x:Ab.Blk}{dm:Nat×Nat}(_:blk.dim=C dm):VRel ⟨aj5 c (C c.Y.n),w6 c.S O++[blk],c.Y.add x,c.fb⟩ (.ptr c.S.length 0) (.pointer (C ⟨c.Y.n,0,O⟩)):=by
 refine .ptr (by simp[w6]) rfl λd' _=>⟨c.Y.n, ?_,rfl⟩
 simp[aj5]
theorem du1 : ∀{z:List Value},z.all dL6=Za->z=bD z.length (.int .u8 0)
 |[],_=>rfl
 |v::z,h=>by
  rw[List.all_cons,aB]at h
  have h1:v= .int .u8 0:=by
   have h0:=h.1;unfold dL6 at h0;split at h0
   .rw[of_decide_eq_true h0]
   .cases h0
  rw[iA,iC,<-du1 h.2,h1]
theorem av7 (es:Nat)(z:List Value):(bc6 es z).dim=C (es,z.length)/\(bc6 es z).frozen=Zb/\∀c:Ctx,F2 (VRel c) (bc6 es z).vals z:=by
 unfold bc6;cases hb:cO8 es z with
 |false=>
  rw[yD];exact⟨by simp[Blk.dim],rfl,λc=>bi2 c z⟩
 |true=>
  rw[yB];unfold cO8 at hb;rw[aB,aB]at hb;have he:=cB hb.1.1;subst he;refine⟨by simp[Blk.dim,Sh.w],rfl,λc=> ?_⟩;have hz:=du1 hb.2
  have key: ∀n,F2 (VRel c) (io (.int .u8) (bD n (0:Int))) (bD n (.int .u8 0)):=by
   intro n;induction n with
   |zero=>exact .nil
   |succ n ih=>exact .cons (.int _ _) ih
  have h1:=key z.length;rw[<-hz]at h1;exact h1
theorem dj2 (hR:gw c){es:Nat}{z:List Value}(h:gd (cD 1 es) (k (.ptr c.S.length 0) (c.S++[bc6 es z]))=C y):di T (.alloc es z) ea c.Y (kq c d k y):=by
 obtain⟨h1,h2⟩:=co h;obtain⟨h3,h4,h5⟩:=av7 es z;exact dq rfl (kq.new (kill:=O) hR (cC8 hR (blk:=bc6 es z) (x:=⟨z,Za,es⟩) (d:=(es,z.length)) h3 (bB h1) rfl rfl (h5 c)) (λ_ h=>by cases h) (cY4 (dm:=(es,z.length)) h3) h2)
theorem dK5 (hR:gw c)(he:cn c e ea){es:Nat}{x:Operand}(h:gd (cD 1 es&&wh (uq (ev e x))) (k (.ptr c.S.length 0) (c.S++[.cells es Zb (uq (ev e x))]))=C y):di T (.box es x) ea c.Y (kq c d k y):=by
 obtain⟨h1,h2⟩:=co h;rw[aB]at h1;have hf:=bB4 (dk he x) h1.2;refine dq (by simp only[AOp.run];rw[xB (qe hf h1.2)]) (kq.new (kill:=O) hR (cC8 hR (blk:= .cells es Zb (uq (ev e x))) (x:=⟨cellsOf (ea.ev x),Za,es⟩) (d:=(es,(uq (ev e x)).length)) rfl (bB h1.1) rfl rfl hf) (λ_ h=>by cases h) (cY4 (dm:=(es,_)) rfl) h2)
theorem aw1 (he:cn c e ea): ∀(ps:List (Nat×Nat×Operand)) {cs r:List VV} {as:List Value},bH6 cs (aJ8 e ps)=C r->F2 (VRel c) cs as->∃ra,bd4 as (ps.map λ(o,s,x)=>(o,s,ea.ev x))=C ra/\F2 (VRel c) r ra
 |[],cs,r,as,h,hf=>by
  injection h with h
  subst h;exact⟨as,rfl,hf⟩
 |(o,s,x)::ps,cs,r,as,h,hf=>by
  simp only[aJ8,List.map_cons,bH6]at h;cases hb:(aD (uq (ev e x)).length s&&cD (o+s) cs.length&&(uq (ev e x)).all dB1)with
  |false=>rw[hb]at h;cases h
  |true=>
   rw[hb,yB]at h;rw[aB,aB]at hb;have h1:=cB hb.1.1;have h2:=bB hb.1.2;have hx:=bB4 (dk he x) hb.2;have h3:(cellsOf (ea.ev x)).length=s:=by rw[<-hx.length];exact h1
   have h4:as.length=cs.length:=hf.length.symm;obtain⟨ra,h5,h6⟩:=aw1 he ps h (((hf.take o).append hx).append (hf.drop (o+s)));refine⟨ra, ?_,h6⟩;simp only[List.map_cons,bd4];rw[xB ⟨h3,by omega⟩];exact h5
theorem dk2 (hR:gw c)(he:cn c e ea){z:List Value}{ps:List (Nat×Nat×Operand)}{cs:List VV}(hf:bH6 (z.map bL5) (aJ8 e ps)=C cs)(h:k (.agg cs) c.S=C y):di T (.build z ps) ea c.Y (kq c d k y):=by
 obtain⟨ra,h1,h2⟩:=aw1 he ps hf (bi2 c z);exact dq (by simp only[AOp.run,h1];rfl) (kq.same hR (.agg (by simpa using h2)) h)
theorem ap5 {blk:Blk}{dm:Nat×Nat}{n m:Nat}{b:Nat}{yb:Ab.Blk}{Y':Hp}{kill:Option Nat}(hd:blk.dim=C dm)(hn:n*dm.1=dm.2)(hm:n<=m)(hy:Y'.m b=C yb)(hl:m*dm.1<=yb.cells.length):
  VRel ⟨aj5 c (C b),w6 c.S kill++[blk],Y',c.fb⟩ (.full c.S.length) (.slice (C ⟨b,0,O⟩) n m):=by
 refine .full (by simp[ax5]) rfl λd' hd'=> ?_
 simp only[po,if_true]at hd';rw[hd]at hd';injection hd' with hd'
 subst hd';exact⟨n,hn, .inr ⟨b,m,yb,by simp,by simp[aj5],by rw[eD,hn];exact dB _,hm,hy,by rw[eD];exact hl⟩⟩
theorem bF0 : ∀(n:Nat) (z:List Value),F2 (VRel c) ((bD n (z.map bL5)).flatten) (gv z n)
 |0,_=> .nil
 |n+1,z=>by
  simp only[gv,iC,List.flatten_cons];exact(bi2 c z).append (bF0 n z)
theorem ce5 (hR:gw c)(he:cn c e ea){es ln:Nat}{z:List Value}{ps:List (Nat×Nat×Operand)}{cs:List VV}(hf:bH6 ((bD ln (z.map bL5)).flatten) (aJ8 e ps)=C cs)
  (h:gd (wh cs&&aD (ln*es) cs.length&&cD 1 es) (k (.full c.S.length) (c.S++[.cells es Zb cs]))=C y):di T (.buildSlice es ln z ps) ea c.Y (kq c d k y):=by
 obtain⟨h1,h2⟩:=co h;rw[aB,aB]at h1;obtain⟨ra,h3,h4⟩:=aw1 he ps hf (bF0 ln z);have h5:=cB h1.1.2;refine dq (by simp only[AOp.run,h3];rw[xB (qe h4 h1.1.1)]) (kq.new (kill:=O) hR (cC8 hR (blk:= .cells es Zb cs) (x:=⟨ra,Za,es⟩) (d:=(es,cs.length)) rfl (bB h1.2) rfl rfl h4) (λ_ h=>by cases h) ?_ h2);exact ap5 (dm:=(es,cs.length)) (yb:=⟨ra,Za,es⟩) rfl h5 (dB _) (xB rfl) (by rw[<-h4.length];exact Nat.le_of_eq h5)
theorem dy4 (hR:gw c)(he:cn c e ea){x:Operand}(h:ck3 c.S 1 Zb (ev e x) k=C y):di T (.load x) ea c.Y (kq c d k y):=by
 obtain⟨b,o,blk,h1,h2,h3,_⟩:=cI5 hR h (dk he x);obtain⟨u,w,h4,h5,h6⟩:=h3 rfl;exact dq (by simp only[AOp.run,h1,h2,h4];rfl) (kq.same hR h5 h6)
theorem dn4 (hR:gw c)(he:cn c e ea){n:Nat}{x:Operand}(h:ck3 c.S n Za (ev e x) k=C y):di T (.loadN n x) ea c.Y (kq c d k y):=by
 obtain⟨b,o,blk,h1,h2,_,h3⟩:=cI5 hR h (dk he x);obtain⟨us,ws,h4,h5,h6⟩:=h3 rfl;exact dq (by simp only[AOp.run,h1,h2,h4];rfl) (kq.same hR (.agg (by simpa using h5)) h6)
theorem aN0 : ∀(vs cells:List Value) (o:Nat),(qk cells o vs).length=cells.length
 |[],_,_=>rfl
 |v::vs,cells,o=>by simp only[qk];rw[aN0 vs];simp
theorem F2.set {l:List VV}{m:List Value}(h:F2 (VRel c) l m){v:VV}{a:Value}(hv:VRel c v a): ∀i,F2 (VRel c) (l.set i v) (m.set i a):=by
 induction h with
 |nil=>intro i;simp;exact .nil
 |cons h1 h2 ih=>
  intro i;cases i with
  |zero=>exact .cons hv h2
  |succ i=>exact .cons h1 (ih i)
theorem bZ0 : ∀{vs:List VV} {as:List Value},F2 (VRel c) vs as->∀{l:List VV} {m:List Value} (o:Nat),F2 (VRel c) l m->F2 (VRel c) (dC6 l o vs) (qk m o as)
 |_,_, .nil,_,_,_,h=>h
 |_,_, .cons h1 h2,_,_,o,h=>bZ0 h2 (o+1) (F2.set h h1 o)
theorem be9 : ∀(vs:List Value) (cs rest:List Value) (o:Nat),o+vs.length<=cs.length->qk (cs++rest) o vs=qk cs o vs++rest
 |[],_,_,_,_=>rfl
 |v::vs,cs,rest,o,h=>by
  simp only[iA]at h;simp only[qk];rw[List.set_append_left _ _ (by omega),be9 vs _ _ _ (by simp;omega)]
theorem aC7 : ∀(vs:List Value) (pre cs:List Value) (o:Nat),qk (pre++cs) (pre.length+o) vs=pre++qk cs o vs
 |[],_,_,_=>rfl
 |v::vs,pre,cs,o=>by
  simp only[qk];rw[List.set_append_right _ _ (by omega),Nat.add_sub_cancel_left,Nat.add_assoc,aC7 vs]
theorem bi7 {blk:Ab.Blk}{o:Nat}{vs:List Value}(h1:blk.own=Za)(h2:o+vs.length<=blk.cells.length)(h3:vs.all one=Za):ar9 blk o vs=C ⟨qk blk.cells o vs,Za,blk.es⟩:=by
 unfold ar9;rw[xB ⟨h1,h2,h3⟩,h1]
theorem bz8 (hR:gw c){q es o b:Nat}{l l' vs:List VV}{as:List Value}(hb:cc c.S q= .cells es Zb l)(hm:c.Z q=C b)(hf:F2 (VRel c) vs as)(h1:wh vs=Za)(ho:o+vs.length<=l.length)
  (hl': ∀cs,F2 (VRel c) l cs->F2 (VRel c) l' (qk cs o as)): ∃blk,c.Y.m b=C blk/\∃blk',ar9 blk o as=C blk'/\Writes c q b (.cells es Zb l') blk':=by
 obtain⟨y0,cs,rest,h2,h3,h4,h5,h6⟩:=hR.block (k:=q) (d:=(es,l.length)) (by rw[hb];rfl) hm;rw[hb]at h4 h6;have hl:=F2.length h6;simp only[Blk.vals]at hl;have ha:=F2.length hf;refine⟨y0,h2,_,bi7 (h4 rfl) (by rw[h5,gD];omega) (qe hf h1),⟨by rw[hb];rfl,hm, ?_,rfl,y0,qk cs o as,rest,(es,l.length),h2,by rw[hb];rfl,h3,rfl,aN0 _ _ _, ?_,hl' cs h6⟩⟩
 .have:=F2.length (hl' cs h6);rw[aN0]at this;simp only[hb,Blk.dim];rw[this,<-hl]
 .show qk y0.cells o as=_;rw[h5,be9 _ _ _ _ (by omega)]
theorem bY9 {v:VV}{va:Value}(hv:VRel c v va): ∀{cs:List VV} {as:List Value} {i j:Nat} {r:List VV},bY8 v cs i j=C r->F2 (VRel c) cs as->F2 (VRel c) r (if j<=i then as.set (i-j) va else as)
 |[],_,i,j,r,h,hf=>by
  cases hf;injection h with h
  subst h;simp;exact .nil
 |w::cs,_,i,j,r,h,hf=>by
  cases hf with
  |cons h1 h2=>
   rename_i a as;simp only[bY8]at h;cases hs:ds3 (aD i j) v w with
   |none=>rw[hs]at h;cases h
   |some x=>
    rw[hs]at h;simp only[wA]at h;cases hr:bY8 v cs i (j+1)with
    |none=>rw[hr]at h;cases h
    |some r'=>
     rw[hr]at h;injection h with h
     subst h;have h3:=bY9 hv hr h2;have h4:=cK4 hs hv h1;by_cases hij:i=j
     .subst hij;rw[xD (by omega)]at h3;rw[xB (dB _),Nat.sub_self];have:aD i i=Za:=Nat.beq_refl i;rw[this]at h4;exact .cons h4 h3
     .have hb:aD i j=Zb:=by
       cases hh:aD i j with
       |false=>rfl
       |true=>exact(hij (cB hh)).elim
      rw[hb]at h4;by_cases hlt:j+1<=i
      .rw[xB hlt]at h3;rw[xB (by omega),show i-j=(i-(j+1))+1 by omega];exact .cons h4 h3
      .rw[xD hlt]at h3;rw[xD (by omega)];exact .cons h4 h3
theorem ci1 {s:Sh}{x:El s}: ∀{l:List (El s)} {i:Nat},i<l.length->io s (l.set i x)=(io s l).take (i*s.w)++(gk s x++(io s l).drop (i*s.w+s.w))
 |[],_,h=>by simp at h
 |a::l,0,_=>by
  rw[List.set_cons_zero,jr,jr,Nat.zero_mul,List.take_zero,dD,eD,fD,gp,Nat.sub_self,List.drop_zero,gB (by rw[gp];exact dB _),dD]
 |a::l,i+1,h=>by
  have h1:(i+1)*s.w=s.w+i*s.w:=by rw[Nat.succ_mul];omega
  rw[List.set_cons_succ,jr,jr,ci1 (by simpa using h),h1,List.take_append,fD,gp,List.take_of_length_le (l:=gk s a) (by rw[gp];omega),gB (l:=gk s a) (by rw[gp];omega),dD,fB];rw[show s.w+i*s.w-s.w=i*s.w by omega,show s.w+i*s.w+s.w-s.w=i*s.w+s.w by omega]
theorem bC0 (v:VV){q:Nat}(h:ao6 v=C q):q∈df5 (ao6 v):=by rw[h];exact List.mem_singleton.2 rfl
theorem bZ1 {vs cs:List Value}{p o w:Nat}(h1:o+vs.length<=w)(h2:p+w<=cs.length):qk cs (p+o) vs=cs.take p++(qk ((cs.drop p).take w) o vs++cs.drop (p+w)):=by
 have e1:cs=cs.take p++((cs.drop p).take w++cs.drop (p+w)):=by
  rw[<-List.drop_drop,iD,iD]
 have hp:(cs.take p).length=p:=by rw[iB];omega
 have hw:((cs.drop p).take w).length=w:=by rw[iB,List.length_drop];omega
 conv=>lhs;rw[e1]
 have:=aC7 vs (cs.take p) ((cs.drop p).take w++cs.drop (p+w)) o;rw[hp]at this;rw[this,be9 _ _ _ _ (by rw[hw];exact h1)]
theorem ds9 (hR:gw c)(he:cn c e ea){n:Nat}{a x:Operand}(hd: ∀q,ao6 (ev e a)=C q->q∈d)
  (h:gd (aD (uq (ev e x)).length n&&wh (uq (ev e x))) (cU0 c.S (ev e a) (uq (ev e x)) λS'=>k .undef S')=C y):di T (.store n a x) ea c.Y (kq c d k y):=by
 obtain⟨h1,h2⟩:=co h;rw[aB]at h1;have hn:=cB h1.1;have hx:=bB4 (dk he x) h1.2;have hlen:(cellsOf (ea.ev x)).length=n:=by rw[<-hx.length];exact hn
 have ha:=dk he a
 have key: ∀(c1:Ctx) (q b o:Nat) (blk0:Ab.Blk) (blk:Blk) (blk':Ab.Blk),c1.Y=c.Y->Le c c1->am3 d c c1->gw c1->q∈d->ea.ev a= .pointer (C ⟨b,o,O⟩)->c.Y.m b=C blk0->ar9 blk0 o (cellsOf (ea.ev x))=C blk'->Writes c1 q b blk blk'->
   k .undef (ql c1.S q blk)=C y->di T (.store n a x) ea c.Y (kq c d k y):=by
  intro c1 q b o blk0 blk blk' hY hle hcalm hR1 hq h3 h4 h5 h6 h7;refine dq (v:=undef) (Y':=c.Y.set b (C blk')) ?_ ?_
  .simp only[AOp.run,h3,hlen,if_true,h4,h5]
  .rw[<-hY];exact⟨.undef,_,rfl,hle.trans (h6.le hR1),h6.rel hR1,hcalm.trans (h6.calm hR1 hq) hle, .undef _,h7⟩
 generalize cellsOf (ea.ev x)=as at*;generalize ev e a=av at*;generalize uq (ev e x)=vs at*;unfold cU0 at h2;cases av with
 |ptr q o=>
  simp only at h2;cases hb:cc c.S q with
  |dead=>rw[hb]at h2;cases h2
  |arr s z l=>rw[hb]at h2;cases h2
  |cells es z l=>
   rw[hb]at h2;cases z with
   |true=>cases h2
   |false=>
    obtain⟨h3,h4⟩:=co h2;cases ha with
    |ptr hk _ hd'=>
     obtain⟨b,hm,hav⟩:=hd' (es,l.length) (by rw[hb];rfl);obtain⟨blk0,h5,blk',h6,h7⟩:=bz8 hR hb hm hx h1.2 (bB h3) λcs hcs=>bZ0 hx o hcs
     exact key c q b o blk0 _ blk' rfl (Le.refl c) (am3.refl d c) hR (hd q rfl) hav h5 h6 h7 h4
 |pix q o m i=>
  simp only at h2;split at h2
  .rename_i es l v hb;obtain⟨h3,h4⟩:=co h2;have h3:=bB h3;split at h4
   .rename_i l' hs;cases hx with
    |cons hv hnil=>
     rename_i va as';cases hnil;cases ha with
     |pix hk _ hi hd'=>
      obtain⟨b,hm,hav⟩:=hd' (es,l.length) (by rw[hb];rfl)
      obtain⟨blk0,h5,blk',h6,h7⟩:=bz8 (l':=l.take o++l'++l.drop (o+m)) (o:=o+i) hR hb hm (.cons hv .nil) h1.2 (by simp;omega) λcs hcs=>by
       have hl:=hcs.length;rw[bZ1 (w:=m) (by simp;omega) (by omega),fB];have h8:=bY9 hv hs ((hcs.drop o).take m);rw[xB (Nat.zero_le _),Nat.sub_zero]at h8;exact(hcs.take o).append (h8.append (hcs.drop _))
      exact key c q b (o+i) blk0 _ blk' rfl (Le.refl c) (am3.refl d c) hR (hd q rfl) hav h5 h6 h7 h4
   .cases h4
  .cases h2
 |pel q i o=>
  simp only at h2;cases hb:cc (fzL c.S vs) q with
  |dead=>rw[hb]at h2;cases h2
  |cells es z l=>rw[hb]at h2;cases h2
  |arr s z l=>
   rw[hb]at h2;cases z with
   |true=>cases h2
   |false=>
    simp only at h2;cases hx':l[i]? with
    |none=>rw[hx']at h2;cases h2
    |some x'=>
     rw[hx']at h2;simp only[wA]at h2;split at h2
     .rename_i z hof;obtain⟨h3,h4⟩:=co h2;have h3:=bB h3;have hfz:=bh6 c.S vs;have hR1:gw ⟨c.Z,fzL c.S vs,c.Y,c.fb⟩:=hfz.rel hR
      have hi:i<l.length:=by
       rcases Nat.lt_or_ge i l.length with h|h
       .exact h
       .rw[List.getElem?_eq_none h]at hx';cases hx'
      have hx1:F2 (VRel ⟨c.Z,fzL c.S vs,c.Y,c.fb⟩) vs as:=VRel.frames hfz.le hx;cases ha with
      |pel hk _ hd'=>
       have hdim:(cc (fzL c.S vs) q).dim=C (s.w,l.length*s.w):=by rw[hb];rfl
       obtain⟨b,hm,hav⟩:=hd' (s.w,l.length*s.w) (by rw[<-hfz.dim];exact hdim);obtain⟨y0,cs,rest,h5,h6,h7,h8,h9⟩:=hR1.block (k:=q) hdim hm;rw[hb]at h7 h9;have hl:=h9.length;simp only[Blk.vals,jx]at hl;have hle:i*s.w+s.w<=l.length*s.w:=by rw[<-Nat.succ_mul];exact Nat.mul_le_mul_right _ hi
       have hlen':vs.length=as.length:=hx.length;refine key ⟨c.Z,fzL c.S vs,c.Y,c.fb⟩ q b (i*s.w+o) y0 (.arr s Zb (l.set i z)) _ rfl hfz.le (hfz.calm d) hR1 (hd q rfl) hav h5 (bi7 (h7 rfl) (by rw[h8,gD];omega) (qe hx h1.2)) ⟨by rw[hb];rfl,hm,by rw[hdim];simp[Blk.dim],rfl,y0,qk cs (i*s.w+o) as,rest,_,h5,hdim,h6,rfl,aN0 _ _ _,by rw[h8,be9 _ _ _ _ (by omega)], ?_⟩ h4;obtain⟨pre,h10,h11,h12⟩:=pm hR1 s _ _ _ hof;rw[List.append_nil]at h10;subst h10;simp only[Blk.vals];rw[ci1 hi,bZ1 (w:=s.w) (by omega) (by omega)];refine(h9.take _).append (F2.append (h12 _ (bZ0 hx1 o ?_)) (h9.drop _));have h13:=(h9.drop (i*s.w)).take s.w;simp only[Blk.vals]at h13
       rwa [bC3 hx']at h13
     .cases h2
 |_=>cases h2
end
end
section
open Bool renaming and_eq_true -> aD, false_eq_true -> bB
open List renaming extract_eq_take_drop -> bD
open Nat renaming eq_of_beq_eq_true -> cB
open Option renaming map_some -> aB
section
variable {β:Type} {T:ja} {c:Ctx} {e:gf} {ea:ey} {k:VV->ci->Option β} {y:β} {d:List Nat}
theorem ac7 (s:ByteArray):(fp s).length=s.size:=by simp[fp]
theorem bS7 (s t:ByteArray):fp (s++t)=fp s++fp t:=by
 simp[fp,ByteArray.data_append]
theorem bf9 : ∀{l m:List UInt8},(l.map λb=>(b.toNat:Int))=m.map (λb=>(b.toNat:Int))->l=m
 |[],[],_=>rfl
 |[],_::_,h=>by simp at h
 |_::_,[],h=>by simp at h
 |a::l,b::m,h=>by
  simp only[List.map_cons,List.cons.injEq]at h;rw[bf9 h.2,UInt8.toNat_inj.1 (Int.ofNat.inj h.1)]
theorem bJ0 (s:ByteArray):s.toList=s.data.toList:=by
 rw[ByteArray.toList_eq]
theorem bB3 (s t:ByteArray):(s.toList==t.toList)=Zc (fp s=fp t):=by
 rw[bJ0,bJ0];by_cases h:s.data.toList=t.data.toList
 .simp[fp,h]
 .have:fp s≠fp t:=λe=>h (bf9 e)
  have h': ¬s.data=t.data:=λe=>h (by rw[e])
  simp[this,h']
theorem db5 {op:BinOp}{kd:IntKind}{a b:Int}{kk:VV->Option β}(h:cO3 op kd a b kk=C y): ∃v va,cX3 op kd a b=C va/\VRel c v va/\kk v=C y:=by
 cases op<;>simp only[cO3]at h<;>try(cases h;done)
 case add=>exact⟨_,_,rfl, .int _ _,h⟩
 case sub=>exact⟨_,_,rfl, .int _ _,h⟩
 case mul=>exact⟨_,_,rfl, .int _ _,h⟩
 case quo=>
  obtain⟨h1,h2⟩:=co h;exact⟨_,_,xD (of_decide_eq_true h1), .int _ _,h2⟩
 case rem=>
  obtain⟨h1,h2⟩:=co h;exact⟨_,_,xD (of_decide_eq_true h1), .int _ _,h2⟩
 case and=>exact⟨_,_,rfl, .int _ _,h⟩
 case or=>exact⟨_,_,rfl, .int _ _,h⟩
 case xor=>exact⟨_,_,rfl, .int _ _,h⟩
 case andNot=>exact⟨_,_,rfl, .int _ _,h⟩
 case eql=>
  refine⟨_,_,rfl, ?_,h⟩;have:(a==b)=Zc (a=b):=by by_cases h:a=b<;>simp[h]
  rw[this];exact .bool _
 case neq=>
  refine⟨_,_,rfl, ?_,h⟩;have:(a !=b)=Zc (a≠b):=by by_cases h:a=b<;>simp[h]
  rw[this];exact .bool _
 case lss=>exact⟨_,_,rfl, .bool _,h⟩
 case leq=>exact⟨_,_,rfl, .bool _,h⟩
 case gtr=>exact⟨_,_,rfl, .bool _,h⟩
 case geq=>exact⟨_,_,rfl, .bool _,h⟩
theorem dK4 (hR:gw c)(he:cn c e ea){op:BinOp}{x z:Operand}(h:dK3 op (ev e x) (ev e z) (λv=>k v c.S)=C y):di T (.bin op x z) ea c.Y (kq c d k y):=by
 have hx:=dk he x;have hz:=dk he z
 have key: ∀v va,aJ3 op (ea.ev x) (ea.ev z)=C va->VRel c v va->k v c.S=C y->di T (.bin op x z) ea c.Y (kq c d k y):=λv va h1 h2 h3=>
  dq (by simp only[AOp.run,h1];rfl) (kq.same hR h2 h3)
 generalize ev e x=xv at*;generalize ev e z=zv at*;unfold dK3 at h;split at h
 .rename_i kx a kz b;rw[hx.int_inv,hz.int_inv]at key;cases hs:am1 op with
  |true=>
   rw[hs,yB]at h;simp only[aJ3,hs,if_true]at key;cases op<;>simp only[ds6]at h<;>try(cases h;done)
   .obtain⟨h1,h2⟩:=co h;have h1:=of_decide_eq_true h1;refine key _ _ ?_ (.int _ _) h2;simp only[bZ3];rw[xD (by omega)]
   .obtain⟨h1,h2⟩:=co h;have h1:=of_decide_eq_true h1;refine key _ _ ?_ (.int _ _) h2;simp only[bZ3];rw[xD (by omega)]
  |false=>
   rw[hs,yD]at h;cases hk:Zc (kx=kz)with
   |false=>rw[hk]at h;cases h
   |true=>
    rw[hk,yB]at h;have hk:=of_decide_eq_true hk;subst hk;obtain⟨v,va,h1,h2,h3⟩:=db5 (c:=c) h;refine key v va ?_ h2 h3;simp only[aJ3,hs,bB,if_false,if_true,h1]
 .rename_i a b;obtain⟨s,e1,rfl⟩:=hx.str_inv;obtain⟨t,e2,rfl⟩:=hz.str_inv;rw[e1,e2]at key;cases hs:am1 op with
  |true=>rw[hs]at h;cases h
  |false=>
   rw[hs,yD]at h;simp only[aJ3,hs,bB,if_false]at key;cases op<;>simp only[dV8]at h<;>try(cases h;done)
   .obtain⟨h1,h2⟩:=co h;have h1:(fp s).length+(fp t).length<=9223372036854775807:=Nat.le_of_ble_eq_true h1;rw[ac7,ac7]at h1;refine key _ _ ?_ (.str (bS7 s t)) h2;simp only[da1];rw[xD];show¬(((s.size+t.size:Nat):Int) > 9223372036854775807);omega
   .refine key _ _ rfl ?_ h;rw[bB3];exact .bool _
   .refine key _ _ rfl ?_ h;rw[bB3];have:(!Zc (fp s=fp t))=Zc (fp s≠fp t):=by simp
    rw[this];exact .bool _
 .cases h
theorem ah8 {b:Blk}(h:b.live=Za): ∃dm,b.dim=C dm:=by cases b<;>first|(cases h;done)|exact⟨_,rfl⟩
theorem bp2 {v:VV}{a:Value}(h:VRel c v a)(hp:bU7 c.S v=Za): ∃x,a= .pointer (C x):=by
 cases v<;>try(cases hp;done)
 case ptr q o=>
  obtain⟨dd,hh⟩:=ah8 hp;cases h with
  |ptr hk _ hd=>obtain⟨b,_,h⟩:=hd dd hh;exact⟨_,h⟩
 case pix q o n i=>
  obtain⟨dd,hh⟩:=ah8 hp;cases h with
  |pix hk _ _ hd=>obtain⟨b,_,h⟩:=hd dd hh;exact⟨_,h⟩
 case pel q i o=>
  obtain⟨dd,hh⟩:=ah8 hp;cases h with
  |pel hk _ hd=>obtain⟨b,_,h⟩:=hd dd hh;exact⟨_,h⟩
 case pin s x o=>cases h;exact⟨_,rfl⟩
theorem cG9 (hR:gw c)(he:cn c e ea){x:Operand}(h:(match ev e x with
  | .fn f a b=>k (.fn f a b) c.S
  |v=>gd (bU7 c.S v) (k v c.S))=C y):di T (.nilCheck x) ea c.Y (kq c d k y):=by
 have hx:=dk he x;split at h
 .rename_i f a b hv;rw[hv]at hx
  have: ∃a' b',ea.ev x= .func (.func f) a' b':=by
   generalize ea.ev x=xa at hx;cases hx;exact⟨_,_,rfl⟩
  obtain⟨a',b',h1⟩:=this;rw[h1]at hx;exact dq (by simp only[AOp.run,h1]) (kq.same hR hx h)
 .obtain⟨h1,h2⟩:=co h;obtain⟨p,h3⟩:=bp2 hx h1;rw[h3]at hx;exact dq (by simp only[AOp.run,h3]) (kq.same hR hx h2)
theorem do0 {neg b:Bool}:(b !=neg)=dn9 neg b:=by cases neg<;>cases b<;>rfl
theorem dK7 (hR:gw c)(he:cn c e ea){kd:Nat}{neg:Bool}{x z:Operand}{p:Bool}(hp:dK6 c.S kd (ev e x) (ev e z)=C p)(h:k (.bool (dn9 neg p)) c.S=C y):di T (.eqv kd neg x z) ea c.Y (kq c d k y):=by
 have hx:=dk he x;have hz:=dk he z
 have key:cF1 kd (ea.ev x) (ea.ev z)=C p->di T (.eqv kd neg x z) ea c.Y (kq c d k y):=λh1=>
  dq (v:= .bool (p !=neg)) (by simp only[AOp.run,h1];rfl) (kq.same hR (by rw[do0];exact .bool _) h)
 generalize ev e x=xv at*;generalize ev e z=zv at*;unfold dK6 at hp;split at hp
 .injection hp with hp;subst hp
  rw[hx.bool_inv,hz.bool_inv]at key;exact key rfl
 .injection hp with hp;subst hp
  refine key ?_;generalize ea.ev x=xa at*;generalize ea.ev z=za at*;cases hx;cases hz;rfl
 .cases hi:bU7 c.S zv with
  |false=>rw[hi]at hp;cases hp
  |true=>
   rw[hi]at hp;injection hp with hp;subst hp
   refine key ?_;obtain⟨q,h1⟩:=bp2 hz hi;rw[h1];generalize ea.ev x=xa at*;cases hx;rfl
 .cases hi:bU7 c.S xv with
  |false=>rw[hi]at hp;cases hp
  |true=>
   rw[hi]at hp;injection hp with hp;subst hp
   refine key ?_;obtain⟨q,h1⟩:=bp2 hx hi;rw[h1];generalize ea.ev z=za at*;cases hz;rfl
 .injection hp with hp;subst hp
  refine key ?_;generalize ea.ev x=xa at*;generalize ea.ev z=za at*;cases hx;cases hz;rfl
 .injection hp with hp;subst hp
  refine key ?_;generalize ea.ev x=xa at*;generalize ea.ev z=za at*;cases hx;cases hz;rfl
 .injection hp with hp;subst hp
  refine key ?_;generalize ea.ev x=xa at*;generalize ea.ev z=za at*;cases hx;cases hz;rfl
 .injection hp with hp;subst hp
  refine key ?_;generalize ea.ev x=xa at*;generalize ea.ev z=za at*;cases hx;cases hz;rfl
 .cases hp
theorem dw4 {kd:Nat}{v w:VV}{va wa:Value}{p:Bool}(h:dc9 kd v w=C p)(hv:VRel c v va)(hw:VRel c w wa):ao9 kd va wa=C p:=by
 unfold dc9 at h;split at h
 .injection h with h;subst h
  rw[hv.bool_inv,hw.bool_inv];rfl
 .rename_i k1 a k2 b;cases hk:Zc (k1=k2)with
  |false=>rw[hk]at h;cases h
  |true=>
   rw[hk]at h;injection h with h;subst h
   rw[hv.int_inv,hw.int_inv];simp only[ao9,of_decide_eq_true hk,if_true];by_cases e:a=b<;>simp[e]
 .injection h with h;subst h
  obtain⟨s,e1,rfl⟩:=hv.str_inv;obtain⟨t,e2,rfl⟩:=hw.str_inv;rw[e1,e2];simp only[ao9];rw[bB3]
 .cases h
theorem dw5 : ∀{ks:List Nat} {l m:List VV} {la ma:List Value} {p:Bool},cf0 ks l m=C p->F2 (VRel c) l la->F2 (VRel c) m ma->ov ks la ma=C p:=by
 intro ks;induction ks with
 |nil=>
  intro l m la ma p h hl hm;cases hl<;>cases hm<;>simp only[cf0]at h<;>try(cases h;done)
  exact h
 |cons kd ks ih=>
  intro l m la ma p h hl hm;cases hl with
  |nil=>cases m<;>simp[cf0]at h
  |cons h1 h2=>
   cases hm with
   |nil=>cases ks<;>simp[cf0]at h
   |cons h3 h4=>
    rename_i v va l' la' w wa m' ma'
    have key: ∀q r,dc9 kd v w=C q->cf0 ks l' m'=C r->p=(q&&r)->ov (kd::ks) (va::la') (wa::ma')=C p:=by
     intro q r e1 e2 e3;simp only[ov,dw4 e1 h1 h3];cases q with
     |false=>simp[e3]
     |true=>rw[ih e2 h2 h4,e3];simp
    unfold cf0 at h;split at h
    .rename_i e1 e2 e3;cases e1
    .rename_i e1 e2 e3;cases e1;cases e2;cases e3;cases h2;cases h4;exact key p Za h rfl (by simp)
    .rename_i e1 e2 e3;cases e1;cases e2;cases e3;cases hq:dc9 kd v w with
     |none=>rw[hq]at h;cases h
     |some q=>
      rw[hq]at h;simp only[wA]at h;cases hr:cf0 ks l' m' with
      |none=>rw[hr]at h;cases h
      |some r=>
       rw[hr]at h;injection h with h
       exact key q r hq hr h.symm
    .cases h
theorem cP6 (hR:gw c)(he:cn c e ea){ks:List Nat}{neg:Bool}{x z:Operand}{a b:List VV}{p:Bool}(h1:ev e x= .agg a)(h2:ev e z= .agg b)(hp:cf0 ks a b=C p)(h:k (.bool (dn9 neg p)) c.S=C y):
  di T (.eqCells neg ks x z) ea c.Y (kq c d k y):=by
 have hx:=dk he x;have hz:=dk he z;rw[h1]at hx;rw[h2]at hz;obtain⟨as,e1,f1⟩:=hx.agg_inv;obtain⟨bs,e2,f2⟩:=hz.agg_inv;exact dq (v:= .bool (p !=neg)) (by simp only[AOp.run,e1,e2,dw5 hp f1 f2];rfl) (kq.same hR (by rw[do0];exact .bool _) h)
theorem dW3 (hR:gw c)(he:cn c e ea){op:UnOp}{x:Operand}(h:unK op (ev e x) (λv=>k v c.S)=C y):di T (.un op x) ea c.Y (kq c d k y):=by
 have hx:=dk he x;unfold unK at h;split at h
 .rename_i kd n hv;rw[hv]at hx;exact dq (by simp only[AOp.run,hx.int_inv];rfl) (kq.same hR (.int _ _) h)
 .rename_i kd n hv;rw[hv]at hx;exact dq (by simp only[AOp.run,hx.int_inv];rfl) (kq.same hR (.int _ _) h)
 .rename_i b hv;rw[hv]at hx;exact dq (by simp only[AOp.run,hx.bool_inv];rfl) (kq.same hR (.bool _) h)
 .cases h
theorem bU6 {v:VV}{n:Int}{a:Value}(h:bw3 v=C n)(hv:VRel c v a): ∃kd,a= .int kd n:=by
 cases v<;>simp only[bw3]at h<;>try(cases h;done)
 injection h with h;subst h
 exact⟨_,hv.int_inv⟩
theorem dv3 (hR:gw c)(he:cn c e ea){kd:IntKind}{x:Operand}{n:Int}(hn:bw3 (ev e x)=C n)(h:k (.int kd (kd.wrap n)) c.S=C y):di T (.conv kd x) ea c.Y (kq c d k y):=by
 obtain⟨kd',hx⟩:=bU6 hn (dk he x);exact dq (by simp only[AOp.run,hx];rfl) (kq.same hR (.int _ _) h)
theorem de6 (hR:gw c)(he:cn c e ea){f:Nat}{a b:List Operand}(h:k (.fn f (a.map (ev e)) (b.map (ev e))) c.S=C y):di T (.mkFunc f a b) ea c.Y (kq c d k y):=
 dq rfl (kq.same hR (.fn (by simpa using bM6 he a) (by simpa using bM6 he b)) h)
theorem dd1 (hR:gw c)(he:cn c e ea){o n:Nat}{agg:Bool}{x:Operand}{cs:List VV}(hx:ev e x= .agg cs)(h:cond agg (k (.agg (aM3 cs o n)) c.S) (df6 c.S (nth cs o) k)=C y):di T (.fieldV o n agg x) ea c.Y (kq c d k y):=by
 have hv:=dk he x;rw[hx]at hv;obtain⟨as,e1,f1⟩:=hv.agg_inv;cases agg with
 |true=>
  refine dq (v:= .agg (as.extract o (o+n))) (by simp only[AOp.run,e1];rfl) (kq.same hR (.agg ?_) h);have:=(f1.drop o).take n;simpa[aM3,Array.toList_extract,bD]using this
 |false=>
  rw[yD]at h;cases hn:nth cs o with
  |none=>rw[hn]at h;cases h
  |some w=>
   rw[hn]at h;obtain⟨u,h1,h2⟩:=F2.nth f1 hn;have h1':as[o]?=C u:=by simpa using h1
   exact dq (by simp only[AOp.run,e1,h1'];rfl) (kq.same hR h2 h)
theorem cP8 (hR:gw c)(he:cn c e ea){i:Nat}{x:Operand}{cs:List VV}(hx:ev e x= .tup cs)(h:df6 c.S (nth cs i) k=C y):di T (.extract x i) ea c.Y (kq c d k y):=by
 have hv:=dk he x;rw[hx]at hv;obtain⟨as,e1,f1⟩:=hv.tup_inv;cases hn:nth cs i with
 |none=>rw[hn]at h;cases h
 |some w=>
  rw[hn]at h;obtain⟨u,h1,h2⟩:=F2.nth f1 hn;have h1':as[i]?=C u:=by simpa using h1
  exact dq (by simp only[AOp.run,e1,h1'];rfl) (kq.same hR h2 h)
theorem bh8 {i:Int}{n j:Nat}(h:ix i n=C j):0<=i/\i<n/\j=i.toNat/\j<n:=by
 unfold ix at h;cases hb:(Zc (0<=i)&&Zc (i<n))with
 |false=>rw[hb]at h;cases h
 |true=>
  rw[hb]at h;injection h with h
  rw[aD]at hb;have h1:=of_decide_eq_true hb.1;have h2:=of_decide_eq_true hb.2;exact⟨h1,h2,h.symm,by omega⟩
theorem cZ3 {α:Type}{l:List α}{i:Int}{x:α}(h:rd l i=C x):0<=i/\i<l.length/\l[i.toNat]?=C x:=by
 unfold rd at h;cases hb:Zc (0<=i)with
 |false=>rw[hb]at h;cases h
 |true=>
  rw[hb]at h;have h1:=of_decide_eq_true hb
  have h2:i.toNat<l.length:=by
   rcases Nat.lt_or_ge i.toNat l.length with h3|h3
   .exact h3
   .rw[yB,List.getElem?_eq_none h3]at h;cases h
  exact⟨h1,by omega,h⟩
theorem cf {α γ:Type}{x:Option α}{f:α->Option γ}{z:γ}(h:x.bind f=C z): ∃a,x=C a/\f a=C z:=by
 cases x with
 |none=>cases h
 |some a=>exact⟨a,rfl,h⟩
theorem de0 (hR:gw c)(he:cn c e ea){ln es:Nat}{agg:Bool}{x z:Operand}{cs:List VV}{kd:IntKind}{i:Int}(hx:ev e x= .agg cs)(hz:ev e z= .int kd i)
  (h:((ix i ln).bind λj=>cond agg (k (.agg (aM3 cs (j*es) es)) c.S) (gd (Nat.beq es 1&&Nat.beq cs.length ln) (cD2 cs j c.S k)))=C y):di T (.indexV ln es agg x z) ea c.Y (kq c d k y):=by
 have hv:=dk he x;have hw:=dk he z;rw[hx]at hv;rw[hz]at hw;obtain⟨as,e1,f1⟩:=hv.agg_inv;have e2:=hw.int_inv;obtain⟨j,h1,h2⟩:=cf h;obtain⟨h3,h4,rfl,h5⟩:=bh8 h1;cases agg with
 |true=>
  refine dq (v:= .agg (as.extract (i.toNat*es) (i.toNat*es+es))) (by simp only[AOp.run,e1,e2];rw[xB ⟨h3,h4⟩];rfl) (kq.same hR (.agg ?_) h2);have:=(f1.drop (i.toNat*es)).take es;simpa[aM3,Array.toList_extract,bD]using this
 |false=>
  rw[yD]at h2;obtain⟨h6,h7⟩:=co h2;rw[aD]at h6;have h8:=cB h6.1;have h9:=cB h6.2;subst h8;obtain⟨w,h10,h11⟩:=cD3 (by omega) h7;obtain⟨u,h12,h13⟩:=f1.get _ _ h10;have h14:as[i.toNat*1]?=C u:=by rw[Nat.mul_one];simpa using h12
  exact dq (by simp only[AOp.run,e1,e2,h14];rw[xB ⟨h3,h4⟩];rfl) (kq.same hR h13 h11)
theorem dd9 (hR:gw c)(he:cn c e ea){x z:Operand}{l:Zd}{kd:IntKind}{i:Int}(hx:ev e x= .str l)(hz:ev e z= .int kd i)(h:((rd l i).bind λb=>k (.int .u8 b) c.S)=C y):di T (.indexS x z) ea c.Y (kq c d k y):=by
 have hv:=dk he x;have hw:=dk he z;rw[hx]at hv;rw[hz]at hw;obtain⟨s,e1,rfl⟩:=hv.str_inv;have e2:=hw.int_inv;obtain⟨b,h1,h2⟩:=cf h;obtain⟨h3,h4,h5⟩:=cZ3 h1;simp only[fp,List.getElem?_map]at h5;cases hb:s.data.toList[i.toNat]? with
 |none=>rw[hb]at h5;cases h5
 |some u=>
  rw[hb,aB]at h5;injection h5 with h5
  subst h5
  have h6:s[i.toNat]?=C u:=by
   have:i.toNat<s.size:=by rw[ac7]at h4;omega
   rw[getElem?_pos s i.toNat this];rw[<-hb,Array.getElem?_toList,getElem?_pos s.data i.toNat this];rfl
  exact dq (v:= .int .u8 u.toNat) (by simp only[AOp.run,e1,e2,h6];rw[xB h3];rfl) (kq.same hR (.int _ _) h2)
theorem dy9 (hR:gw c)(he:cn c e ea){x z:Operand}{kd kd':IntKind}{a b:Int}(hx:ev e x= .int kd a)(hz:ev e z= .int kd' b)(h:k (.int kd (max a b)) c.S=C y):di T (.most x z) ea c.Y (kq c d k y):=by
 have hv:=dk he x;have hw:=dk he z;rw[hx]at hv;rw[hz]at hw;refine dq (v:= .int kd (max a b)) ?_ (kq.same hR (.int _ _) h);simp only[AOp.run,hv.int_inv,hw.int_inv,cU9,aB]
 congr 3
 split<;>omega
theorem dn0 (hR:gw c)(he:cn c e ea){x z:Operand}{kd kd':IntKind}{a b:Int}(hx:ev e x= .int kd a)(hz:ev e z= .int kd' b)(h:k (.int kd (min a b)) c.S=C y):di T (.least x z) ea c.Y (kq c d k y):=by
 have hv:=dk he x;have hw:=dk he z;rw[hx]at hv;rw[hz]at hw;refine dq (v:= .int kd (min a b)) ?_ (kq.same hR (.int _ _) h);simp only[AOp.run,hv.int_inv,hw.int_inv,cz3,aB]
 congr 3
 split<;>omega
end
end
section
open Bool renaming and_eq_true -> bB
open List renaming drop_take -> eD, length_append -> iB
open Nat renaming eq_of_beq_eq_true -> aB, mul_le_mul_right -> aD, le_refl -> bD, add_mul -> cB, le_of_ble_eq_true -> cD, beq -> dB, le_trans -> dD, add_assoc -> fB, eq_of_mul_eq_mul_right -> fD, mul_div_cancel -> gB, zero_add -> gD
open Option renaming map_some -> iA, map_none -> iC
section
variable {β:Type} {T:ja} {c:Ctx} {e:gf} {ea:ey} {k:VV->ci->Option β} {y:β} {d:List Nat}
theorem SlR.len {q lo n:Nat}{dm:Nat×Nat}{a:Value}(h:SlR c q lo n dm a): ∃p cp,a= .slice p n cp/\n<=cp:=by
 rcases h with⟨rfl,_,rfl,_,_⟩|⟨b,cp,x,rfl,_,_,h,_⟩
 .exact⟨O,0,rfl,bD _⟩
 .exact⟨_,cp,rfl,h⟩
theorem dn2 (hR:gw c){v:VV}{a:Value}{n:Nat}(h:lenOf c.S v=C n)(hv:VRel c v a)(hs: ∀l,v≠ .str l): ∃p cp,a= .slice p n cp/\n<=cp:=by
 cases v<;>simp only[lenOf]at h<;>try(cases h;done)
 case nils=>injection h with h;subst h;cases hv;exact⟨O,0,rfl,bD _⟩
 case str l=>exact(hs l rfl).elim
 case lst s l=>
  injection h with h;subst h
  cases hv with
  |lstn=>exact⟨_,0,rfl,bD _⟩
  |lst _ _ _ h1 h2 _ _=>subst h1;exact⟨_,_,rfl,h2⟩
 case part q lo m=>
  cases hl:(cc c.S q).live with
  |false=>rw[hl]at h;cases h
  |true=>
   rw[hl]at h;injection h with h;subst h
   obtain⟨dd,hh⟩:=ah8 hl;cases hv with
   |part hk _ hd=>exact(hd dd hh).len
 case full q=>
  cases hv with
  |full hk _ hd=>
   cases hb:cc c.S q with
   |dead=>rw[hb]at h;cases h
   |arr s z l=>
    rw[hb]at h;injection h with h;subst h
    obtain⟨n,h1,h2⟩:=hd (s.w,l.length*s.w) (by rw[hb];rfl);have:n=l.length:=fD (uy s) h1;subst this;exact h2.len
   |cells es z l=>
    rw[hb]at h;injection h with h;subst h
    obtain⟨n,h1,h2⟩:=hd (es,l.length) (by rw[hb];rfl);have h3:=(hR.blk q (es,l.length) (by rw[hb];rfl)).1
    have:n=l.length / es:=by
     simp only at h1 h3;rw[<-h1,gB _ h3]
    subst this;exact h2.len
theorem dL9 (hR:gw c)(he:cn c e ea){x:Operand}{n:Nat}(hs: ∀l,ev e x≠ .str l)(hn:lenOf c.S (ev e x)=C n)(h:k (.int .i64 n) c.S=C y):di T (.len x) ea c.Y (kq c d k y):=by
 obtain⟨p,cp,h1,_⟩:=dn2 hR hn (dk he x) hs;exact dq (by simp only[AOp.run,h1]) (kq.same hR (.int _ _) h)
theorem dy3 (hR:gw c)(he:cn c e ea){x:Operand}{l:Zd}(hx:ev e x= .str l)(h:k (.int .i64 l.length) c.S=C y):di T (.lenS x) ea c.Y (kq c d k y):=by
 have hv:=dk he x;rw[hx]at hv;obtain⟨s,h1,h2⟩:=hv.str_inv;refine dq (v:= .int .i64 s.size) (by simp only[AOp.run,h1]) (kq.same hR ?_ h);rw[<-h2,ac7];exact .int _ _
theorem bv3 (he:cn c e ea){lo:Option Operand}{a:Int}{m:Nat}(h:aW0 (lo.map (ev e))=C a)(h0:0<=a)(hm:a<=m):uG m 0 (lo.map ea.ev)=C a.toNat:=by
 cases lo with
 |none=>
  simp only[iC,aW0]at h;injection h with h;subst h
  rfl
 |some x=>
  simp only[iA,aW0]at h⊢;obtain⟨kd,h1⟩:=bU6 h (dk he x);rw[h1];exact xB ⟨h0,hm⟩
theorem bv2 (he:cn c e ea){hi:Option Operand}{b:Int}{n cp:Nat}(h:ar7 n (hi.map (ev e))=C b)(h0:0<=b)(hm:b<=n)(hc:n<=cp):uG cp n (hi.map ea.ev)=C b.toNat:=by
 cases hi with
 |none=>
  simp only[iC,ar7]at h;injection h with h;subst h
  simp[uG]
 |some x=>
  simp only[iA,ar7]at h⊢;obtain⟨kd,h1⟩:=bU6 h (dk he x);rw[h1];exact xB ⟨h0,by omega⟩
theorem ac8 {a b:Int}{n:Nat}(h:md a b n=Za):0<=a/\a<=b/\b<=n:=by
 unfold md at h;rw[bB,bB]at h;exact⟨of_decide_eq_true h.1.1,of_decide_eq_true h.1.2,of_decide_eq_true h.2⟩
theorem bi5 (he:cn c e ea){es:Nat}{x:Operand}{lo hi:Option Operand}{p:Option Addr}{n cp:Nat}{a b:Int}(hx:ea.ev x= .slice p n cp)(hn:n<=cp)(hp:cp≠0->∀q,p=C q->∃z,c.Y.m q.block=C z/\z.es=es)
  (hlo:aW0 (lo.map (ev e))=C a) (hhi:ar7 n (hi.map (ev e))=C b) (hg:md a b n=Za):(AOp.slice es x lo hi).run ea c.Y=C (.slice (p.map (cg1 · (a.toNat*es))) (b.toNat-a.toNat) (cp-a.toNat),c.Y):=by
 obtain⟨h1,h2,h3⟩:=ac8 hg
 have hm:(cp==0||aJ6 c.Y es p lo)=Za:=by
  by_cases hc:cp=0
  .simp[hc]
  .unfold aJ6;split
   .simp
   .simp
   .rename_i q;obtain⟨z,h4,h5⟩:=hp hc q rfl;rw[h4];simp[h5]
 simp only[AOp.run,hx,hm,if_true,bv2 he hhi (by omega) h3 hn,bv3 he hlo h1 (m:=b.toNat) (by omega)]
theorem SlR.cut {q lo n:Nat}{dm:Nat×Nat}{p:Option Addr}{cp A B:Nat}(h:SlR c q lo n dm (.slice p n cp))(hA:A<=B)(hB:B<=n):SlR c q (lo+A) (B-A) dm (.slice (p.map (cg1 · (A*dm.1))) (B-A) (cp-A)):=by
 rcases h with⟨h1,h2,h3,h4,h5⟩|⟨b,cp',z,h1,h2,h3,h4,h5,h6⟩
 .injection h1 with e1 e2 e3
  subst e1;subst e3;have:A=0:=by omega
  have:B=0:=by omega
  subst A;subst B;exact .inl ⟨rfl,by omega,rfl,h4,h5⟩
 .injection h1 with e1 e2 e3
  subst e1;subst e3;refine .inr ⟨b,cp-A,z, ?_,h2,dD (aD _ (by omega)) h3,by omega,h5,dD (aD _ (by omega)) h6⟩;simp only[iA,cg1,cB]
theorem SlR.es (hR:gw c){q lo n cp:Nat}{dm:Nat×Nat}{p:Option Addr}(hd:(cc c.S q).dim=C dm)(h:SlR c q lo n dm (.slice p n cp)): ∀z,p=C z->∃blk,c.Y.m z.block=C blk/\blk.es=dm.1:=by
 intro z hz;subst hz;rcases h with⟨h1,_⟩|⟨b,cp',x,h1,h2,_,_,h5,_⟩
 .cases h1
 .injection h1 with e1 e2 e3
  injection e1 with e1
  subst e1;obtain⟨blk,_,_,h6,h7,_⟩:=hR.block hd h2;exact⟨blk,h6,h7⟩
theorem bx5 (hR:gw c)(he:cn c e ea){es q o n:Nat}{dm:Nat×Nat}{x:Operand}{lo hi:Option Operand}{a b:Int}(hd:(cc c.S q).dim=C dm)(hes:es=dm.1)(hs:SlR c q o n dm (ea.ev x))
  (hlo:aW0 (lo.map (ev e))=C a) (hhi:ar7 n (hi.map (ev e))=C b) (hg:md a b n=Za) (h:k (.part q (o+a.toNat) (b.toNat-a.toNat)) c.S=C y):di T (.slice es x lo hi) ea c.Y (kq c d k y):=by
 obtain⟨p,cp,hx,hn⟩:=hs.len;rw[hx]at hs;obtain⟨h1,h2,h3⟩:=ac8 hg;subst hes;refine dq (bi5 he hx hn (λ_=>hs.es hR hd) hlo hhi hg) (kq.same hR ?_ h);refine .part (ud (by rw[hd];simp)) rfl λd' hd'=> ?_
 rw[hd]at hd';injection hd' with hd'
 subst hd';exact hs.cut (by omega) (by omega)
theorem tdt {α:Type}(L:List α){A B N p:Nat}(h:B<=N):((((L.drop p).take N).take B).drop A)=(L.drop (p+A)).take (B-A):=by
 rw[List.take_take,Nat.min_eq_left h,eD,List.drop_drop]
theorem ds7 (hR:gw c)(he:cn c e ea){es:Nat}{x:Operand}{lo hi:Option Operand}(h:cT7 c.S es (ev e x) (lo.map (ev e)) (hi.map (ev e)) k=C y):di T (.slice es x lo hi) ea c.Y (kq c d k y):=by
 have hx:=dk he x;unfold cT7 at h;cases hln:lenOf c.S (ev e x)with
 |none=>rw[hln]at h;cases h
 |some n=>
  rw[hln]at h;simp only at h;cases hlo:aW0 (lo.map (ev e))with
  |none=>rw[hlo]at h;cases h
  |some a=>
   cases hhi:ar7 n (hi.map (ev e))with
   |none=>rw[hlo,hhi]at h;cases h
   |some b=>
    rw[hlo,hhi]at h;simp only at h;split at h
    .rename_i hv;rw[hv]at hx hln;obtain⟨h1,h2⟩:=co h
     have hn0:n=0:=by
      simp only[lenOf]at hln;injection hln with hln
      exact hln.symm
     subst hn0;obtain⟨h3,h4,h5⟩:=ac8 h1;have ha0:a=0:=by omega
     have hb0:b=0:=by omega
     subst a;subst b;have hxe:ea.ev x= .slice O 0 0:=by generalize ea.ev x=xa at hx;cases hx;rfl
     exact dq (bi5 he hxe (bD _) (λ_ q h=>by cases h) hlo hhi h1) (kq.same hR .nils h2)
    .rename_i s l hv;rw[hv]at hx hln;simp only[lenOf]at hln;injection hln with hln
     subst hln;obtain⟨h1,h2⟩:=co h;have hes:=aB h1
     have key:md a b l.length=Za->k (.lst s (bo6 l a b)) c.S=C y->di T (.slice es x lo hi) ea c.Y (kq c d k y):=by
      intro hg hk;obtain⟨h3,h4,h5⟩:=ac8 hg;generalize hxa:ea.ev x=xa at hx;cases hx with
      |lstn hq=>
       have hb0:b=0:=by simp at h5;omega
       have ha0:a=0:=by omega
       subst a;subst b;refine dq (bi5 he hxa (bD _) (λh=>(h rfl).elim) hlo hhi hg) (kq.same hR ?_ hk);refine .lstn λz hz=> ?_
       obtain⟨z',_,h'⟩:=Option.map_eq_some_iff.1 hz;rw[<-h'];rfl
      |lst hn hy he' h6 h7 h8 h9=>
       rename_i bb p cp z;refine dq (bi5 he hxa h7 (λ_ q h=>by injection h with h;subst h;exact⟨z,hy,he'.trans hes.symm⟩) hlo (by rw[h6];exact hhi) (by rw[h6];exact hg)) (kq.same hR ?_ hk);subst hes;have hlen:(bo6 l a b).length=b.toNat-a.toNat:=by simp only[bo6,List.length_drop,List.length_take];omega
       refine .lst hn hy he' hlen.symm (by omega) ?_ ?_
       .have:a.toNat*s.w+(b.toNat-a.toNat)*s.w<=l.length*s.w:=by rw[<-cB];exact aD _ (by omega)
        simp only;rw[h6]at h8;omega
       .simp only[bo6];rw[aB4,qg];have h10:=(h9.take (b.toNat*s.w)).drop (a.toNat*s.w);rw[tdt _ (by rw[h6];exact aD _ (by omega)),<-Nat.sub_mul]at h10;exact h10
     split at h2
     .rename_i e1 e2
      have hg:md a b l.length=Za:=by
       rw[e1]at hlo;rw[e2]at hhi;simp only[aW0]at hlo;simp only[ar7]at hhi;injection hlo with hlo
       injection hhi with hhi
       subst hlo;subst hhi;simp[md]
      refine key hg ?_;rw[e1]at hlo;rw[e2]at hhi;simp only[aW0]at hlo;simp only[ar7]at hhi;injection hlo with hlo
      injection hhi with hhi
      subst hlo;subst hhi;simp only[bo6,Int.toNat_natCast,Int.toNat_zero,List.drop_zero,List.take_length];exact h2
     .obtain⟨h3,h4⟩:=co h2;exact key h3 h4
    .rename_i q hv;rw[hv]at hx hln;cases hx with
     |full hk _ hd=>
      cases hb:cc c.S q with
      |dead=>rw[hb]at h;cases h
      |arr s z l=>
       rw[hb]at h;obtain⟨h1,h2⟩:=co h;obtain⟨h3,h4⟩:=co h2;simp only[lenOf,hb]at hln;injection hln with hln
       obtain⟨n',h5,h6⟩:=hd (s.w,l.length*s.w) (by rw[hb];rfl);have:n'=n:=by rw[<-hln];exact fD (uy s) h5
       subst this;exact bx5 hR he (by rw[hb];rfl) (aB h1) h6 hlo hhi h3 (by rw[gD];exact h4)
      |cells es' z l=>
       rw[hb]at h;obtain⟨h1,h2⟩:=co h;obtain⟨h3,h4⟩:=co h2;rw[bB]at h1;simp only[lenOf,hb]at hln;injection hln with hln
       obtain⟨n',h5,h6⟩:=hd (es',l.length) (by rw[hb];rfl);have he1:=aB h1.1;have he2:=cD h1.2
       have:n'=n:=by
        simp only at h5;rw[<-hln,<-h5,gB _ (by omega)]
       subst this;exact bx5 hR he (by rw[hb];rfl) he1 h6 hlo hhi h3 (by rw[gD];exact h4)
    .rename_i q o m hv;rw[hv]at hx hln;cases hx with
     |part hk _ hd=>
      simp only[lenOf]at hln;cases hb:cc c.S q with
      |dead=>rw[hb]at h;cases h
      |arr s z l=>
       rw[hb]at h hln;injection hln with hln
       subst hln;obtain⟨h1,h2⟩:=co h;obtain⟨h3,h4⟩:=co h2;exact bx5 hR he (dm:=(s.w,l.length*s.w)) (by rw[hb];rfl) (aB h1) (hd _ (by rw[hb];rfl)) hlo hhi h3 h4
      |cells es' z l=>
       rw[hb]at h hln;injection hln with hln
       subst hln;obtain⟨h1,h2⟩:=co h;obtain⟨h3,h4⟩:=co h2;rw[bB]at h1;exact bx5 hR he (dm:=(es',l.length)) (by rw[hb];rfl) (aB h1.1) (hd _ (by rw[hb];rfl)) hlo hhi h3 h4
    .cases h
theorem bS8 (s:ByteArray)(a b:Nat):fp (s.extract a b)=((fp s).take b).drop a:=by
 simp[fp,ByteArray.data_extract,Array.toList_extract,List.extract_eq_take_drop,List.map_drop,List.map_take,eD]
theorem cL0 (hR:gw c)(he:cn c e ea){x:Operand}{lo hi:Option Operand}(h:bE8 c.S (ev e x) (lo.map (ev e)) (hi.map (ev e)) k=C y):di T (.sliceStr x lo hi) ea c.Y (kq c d k y):=by
 have hx:=dk he x;unfold bE8 at h;split at h
 .rename_i l hv;rw[hv]at hx;obtain⟨s,h1,rfl⟩:=hx.str_inv;split at h
  .rename_i a b hlo hhi;obtain⟨h2,h3⟩:=co h;obtain⟨h4,h5,h6⟩:=ac8 h2;rw[ac7]at h6 hhi;refine dq (v:= .string (s.extract a.toNat b.toNat)) ?_ (kq.same hR (.str (bS8 s _ _)) h3);simp only[AOp.run,h1,bv2 he hhi (by omega) h6 (bD _),bv3 he hlo h4 (m:=b.toNat) (by omega)]
  .cases h
 .cases h
theorem ce4 {blk:Blk}{dm:Nat×Nat}(h:blk.dim=C dm):blk.vals.length=dm.2:=by
 cases blk with
 |dead=>cases h
 |cells es z l=>injection h with h;subst h;rfl
 |arr s z l=>injection h with h;subst h;exact jx
theorem cK9 (hR:gw c)(he:cn c e ea){es n:Nat}{x:Operand}{lo hi:Option Operand}(h:bE7 c.S es n (ev e x) (lo.map (ev e)) (hi.map (ev e)) k=C y):di T (.sliceArr es n x lo hi) ea c.Y (kq c d k y):=by
 have hx:=dk he x;unfold bE7 at h;split at h
 .rename_i q o hv;rw[hv]at hx;split at h
  .rename_i es' l hb;split at h
   .rename_i a b hlo hhi;obtain⟨h1,h2⟩:=co h;simp only[bB]at h1;obtain⟨⟨⟨⟨⟨h3,h4⟩,h5⟩,h6⟩,h7⟩,h8⟩:=h1;have h3:=aB h3;have h4:=cD h4;have h5:=aB h5;have h6:=cD h6;have h8:=of_decide_eq_true h8;obtain⟨h9,h10,h11⟩:=ac8 h7;subst h3;cases hx with
    |ptr hk _ hd=>
     have hdim:(cc c.S q).dim=C (es,l.length):=by rw[hb];rfl
     obtain⟨bb,hm,hp⟩:=hd _ hdim;obtain⟨z,cs,rest,h12,h13,h14,h15,h16⟩:=hR.block hdim hm;rw[hb]at h14 h16;have hl:=h16.length;simp only[Blk.vals]at hl;have hzl:l.length<=z.cells.length:=by rw[h15,iB,hl];omega
     have hdiv:o / es*es=o:=Nat.div_mul_cancel (Nat.dvd_of_mod_eq_zero h5);have hae:(o / es+a.toNat)*es=o+a.toNat*es:=by rw[cB,hdiv]
     refine dq (v:= .slice (C ⟨bb,o+a.toNat*es,O⟩) (b.toNat-a.toNat) (n-a.toNat)) (Y':=c.Y) ?_ (kq.same hR ?_ h2)
     .simp only[AOp.run,hp,h12];rw[xB ⟨h14 rfl,h13,by omega⟩,bv2 he hhi (by omega) h11 (bD _)];simp only;rw[bv3 he hlo h9 (m:=b.toNat) (by omega)];simp only;rw[xB (by omega)]
     .refine .part hk rfl λd' hd'=> ?_
      rw[hdim]at hd';injection hd' with hd'
      subst hd';refine .inr ⟨bb,n-a.toNat,z,by simp only[hae],hm, ?_,by omega,h12, ?_⟩
      .have h17:o / es+a.toNat+(b.toNat-a.toNat)=o / es+b.toNat:=by omega
       simp only;rw[h17,cB,hdiv];have:b.toNat*es<=n*es:=aD _ (by omega);omega
      .have h17:o / es+a.toNat+(n-a.toNat)=o / es+n:=by omega
       simp only;rw[h17,cB,hdiv];omega
   .cases h
  .rename_i s l hb;split at h
   .rename_i a b hlo hhi;obtain⟨h1,h2⟩:=co h;simp only[bB]at h1;obtain⟨⟨⟨⟨h3,h5⟩,h6⟩,h7⟩,h8⟩:=h1;have h3:=aB h3;have h5:=aB h5;have h6:=cD h6;have h8:=of_decide_eq_true h8;obtain⟨h9,h10,h11⟩:=ac8 h7;subst h3;subst h5;cases hx with
    |ptr hk _ hd=>
     have hdim:(cc c.S q).dim=C (s.w,l.length*s.w):=by rw[hb];rfl
     obtain⟨bb,hm,hp⟩:=hd _ hdim;obtain⟨z,cs,rest,h12,h13,h14,h15,h16⟩:=hR.block hdim hm;have hl:=h16.length;rw[ce4 hdim]at hl;rw[hb]at h14;have hle:n*s.w<=l.length*s.w:=aD _ h6;have hzl:l.length*s.w<=z.cells.length:=by rw[h15,iB];simp only at hl;omega
     have h17:(a.toNat+(b.toNat-a.toNat))*s.w<=l.length*s.w:=aD _ (by omega);have h18:(a.toNat+(n-a.toNat))*s.w<=l.length*s.w:=aD _ (by omega);refine dq (v:= .slice (C ⟨bb,0+a.toNat*s.w,O⟩) (b.toNat-a.toNat) (n-a.toNat)) (Y':=c.Y) ?_ (kq.same hR ?_ h2)
     .simp only[AOp.run,hp,h12];rw[xB ⟨h14 rfl,h13,by omega⟩,bv2 he hhi (by omega) h11 (bD _)];simp only;rw[bv3 he hlo h9 (m:=b.toNat) (by omega)];simp only;rw[xB (by omega)]
     .refine .part hk rfl λd' hd'=> ?_
      rw[hdim]at hd';injection hd' with hd'
      subst hd';exact .inr ⟨bb,n-a.toNat,z,by simp only[gD],hm,h17,by omega,h12,by simp only;omega⟩
   .cases h
  .cases h
 .cases h
theorem dM6 (hR:gw c)(he:cn c e ea){n:Nat}{x:Operand}(h:df6 c.S (dz8 c.S n (ev e x)) k=C y):di T (.off n x) ea c.Y (kq c d k y):=by
 have hx:=dk he x
 have key: ∀w b o,ea.ev x= .pointer (C ⟨b,o,O⟩)->VRel c w (.pointer (C ⟨b,o+n,O⟩))->k w c.S=C y->di T (.off n x) ea c.Y (kq c d k y):=by
  intro w b o h1 hw hk;exact dq (by simp only[AOp.run,h1]) (kq.same hR hw hk)
 generalize ev e x=xv at*;cases xv<;>simp only[dz8]at h<;>try(cases h;done)
 case ptr q o=>
  cases hl:(cc c.S q).live with
  |false=>rw[hl]at h;cases h
  |true=>
   rw[hl]at h;obtain⟨dd,hdd⟩:=ah8 hl;cases hx with
   |ptr hk _ hd=>
    obtain⟨b,hm,hp⟩:=hd dd hdd;exact key _ b o hp (.ptr hk rfl λd' _=>⟨b,hm,rfl⟩) h
 case pix q o m i=>
  cases hl:(cc c.S q).live with
  |false=>rw[hl]at h;cases h
  |true=>
   rw[hl]at h;obtain⟨dd,hdd⟩:=ah8 hl;cases hx with
   |pix hk h1 hi hd=>
    obtain⟨b,hm,hp⟩:=hd dd hdd;cases hn:dB n 0 with
    |false=>rw[hn]at h;cases h
    |true=>
     rw[hn]at h;have:=aB hn;subst this;exact key _ b (o+i) hp (.pix hk rfl hi λd' _=>⟨b,hm,rfl⟩) h
 case pel q i o=>
  cases hl:(cc c.S q).live with
  |false=>rw[hl]at h;cases h
  |true=>
   rw[hl]at h;obtain⟨dd,hdd⟩:=ah8 hl;cases hx with
   |pel hk _ hd=>
    obtain⟨b,hm,hp⟩:=hd dd hdd;refine key _ b _ hp (.pel hk rfl λd' hd'=>⟨b,hm, ?_⟩) h;rw[hdd]at hd';injection hd' with hd'
    subst hd';rw[fB]
 case pin s z o=>
  generalize hxa:ea.ev x=xa at hx;cases hx with
  |pin hn hy hl hf=>
   refine key _ _ _ hxa ?_ h;rw[fB];exact .pin hn hy hl hf
theorem cX2 {es:Nat}{x i:Operand}{b o n cp:Nat}{kd:IntKind}{z:Int}(hx:ea.ev x= .slice (C ⟨b,o,O⟩) n cp)(hi:ea.ev i= .int kd z)(h0:0<=z)(hn:z<n):
  (AOp.idx es x i).run ea c.Y=C (.pointer (C ⟨b,o+z.toNat*es,O⟩),c.Y):=by
 simp only[AOp.run,hx,hi];rw[xB ⟨h0,hn⟩]
theorem aM6 (hR:gw c)(he:cn c e ea){es q o n:Nat}{dm:Nat×Nat}{x i:Operand}{z:Int}{w:VV}{kd:IntKind}(hs:SlR c q o n dm (ea.ev x))(hi:ea.ev i= .int kd z)(h0:0<=z)(hn:z<n)
  (hw: ∀b,c.Z q=C b->VRel c w (.pointer (C ⟨b,o*dm.1+z.toNat*es,O⟩))) (hk:k w c.S=C y):di T (.idx es x i) ea c.Y (kq c d k y):=by
 rcases hs with⟨_,_,h3,_,_⟩|⟨b,cp,x',h1,h2,_⟩
 .omega
 .exact dq (cX2 h1 hi h0 hn) (kq.same hR (hw b h2) hk)
theorem dL3 (hR:gw c)(he:cn c e ea){es:Nat}{x i:Operand}(h:dx7 c.S es (ev e x) (ev e i) k=C y):di T (.idx es x i) ea c.Y (kq c d k y):=by
 have hx:=dk he x;have hi:=dk he i;unfold dx7 at h;split at h
 .rename_i kd z hz;rw[hz]at hi;have hi:=hi.int_inv;split at h
  .rename_i s l hv;rw[hv]at hx;obtain⟨h1,h2⟩:=co h;have h1:=aB h1;obtain⟨el,h3,h4⟩:=cf h2;obtain⟨h5,h6,h7⟩:=cZ3 h3;generalize hxa:ea.ev x=xa at hx;cases hx with
   |lstn=>simp at h6;omega
   |lst hn hy he' h8 h9 h10 h11=>
    rename_i b p cp blk;subst h1;refine dq (cX2 hxa hi h5 (by rw[h8];exact h6)) (kq.same hR ?_ h4);have h12:z.toNat*s.w+s.w<=l.length*s.w:=by rw[<-Nat.succ_mul];exact aD _ (by omega)
    have h13:=(h11.drop (z.toNat*s.w)).take s.w;rw[bC3 h7,eD,List.drop_drop,List.take_take,Nat.min_eq_left (by rw[h8];omega)]at h13;exact VRel.pin (o:=0) hn hy (by rw[h8]at h10;exact dD (Nat.le_of_eq (fB _ _ _)) (dD (Nat.add_le_add_left h12 _) h10)) h13
  .rename_i q hv;rw[hv]at hx;cases hx with
   |full hk _ hd=>
    cases hb:cc c.S q with
    |dead=>rw[hb]at h;cases h
    |arr s z' l=>
     rw[hb]at h;obtain⟨h1,h2⟩:=co h;obtain⟨j,h3,h4⟩:=cf h2;obtain⟨h5,h6,rfl,h7⟩:=bh8 h3;have hdim:(cc c.S q).dim=C (s.w,l.length*s.w):=by rw[hb];rfl
     obtain⟨n,h8,h9⟩:=hd _ hdim;have:n=l.length:=fD (uy s) h8;subst this;refine aM6 hR he h9 hi h5 h6 (λb hm=> .pel hk rfl λd' hd'=>⟨b,hm, ?_⟩) h4;rw[hdim]at hd';injection hd' with hd'
     subst hd';rw[aB h1];simp
    |cells es' z' l=>
     rw[hb]at h;obtain⟨h1,h2⟩:=co h;rw[bB]at h1;have h11:=aB h1.1;have h12:=cD h1.2;subst h11;obtain⟨j,h3,h4⟩:=cf h2;obtain⟨h5,h6,rfl,h7⟩:=bh8 h3;have hdim:(cc c.S q).dim=C (es,l.length):=by rw[hb];rfl
     obtain⟨n,h8,h9⟩:=hd _ hdim
     have hn:n=l.length / es:=by
      simp only at h8;rw[<-h8,gB _ (by omega)]
     cases he1:dB es 1 with
     |true=>
      rw[he1]at h4;have he1:=aB he1;subst he1;refine aM6 hR he h9 hi h5 (by rw[hn];exact h6) (λb hm=> .pix hk rfl (by rw[Nat.div_one]at h7;exact h7) λd' hd'=>⟨b,hm,by simp⟩) h4
     |false=>
      rw[he1]at h4;refine aM6 hR he h9 hi h5 (by rw[hn];exact h6) (λb hm=> .ptr hk rfl λd' hd'=>⟨b,hm,by simp⟩) h4
  .rename_i q o n hv;rw[hv]at hx;cases hx with
   |part hk _ hd=>
    cases hb:cc c.S q with
    |dead=>rw[hb]at h;cases h
    |arr s z' l=>
     rw[hb]at h;obtain⟨h1,h2⟩:=co h;obtain⟨j,h3,h4⟩:=cf h2;obtain⟨h5,h6,rfl,h7⟩:=bh8 h3;have hdim:(cc c.S q).dim=C (s.w,l.length*s.w):=by rw[hb];rfl
     refine aM6 hR he (hd _ hdim) hi h5 h6 (λb hm=> .pel hk rfl λd' hd'=>⟨b,hm, ?_⟩) h4;rw[hdim]at hd';injection hd' with hd'
     subst hd';rw[aB h1,cB];simp
    |cells es' z' l=>
     rw[hb]at h;obtain⟨h1,h2⟩:=co h;rw[bB]at h1;have h11:=aB h1.1;subst h11;obtain⟨j,h3,h4⟩:=cf h2;obtain⟨h5,h6,rfl,h7⟩:=bh8 h3;have hdim:(cc c.S q).dim=C (es,l.length):=by rw[hb];rfl
     cases he1:dB es 1 with
     |true=>
      rw[he1]at h4;have he1:=aB he1;subst he1;refine aM6 hR he (hd _ hdim) hi h5 h6 (λb hm=> .pix hk rfl h7 λd' hd'=>⟨b,hm,by simp⟩) h4
     |false=>
      rw[he1]at h4;refine aM6 hR he (hd _ hdim) hi h5 h6 (λb hm=> .ptr hk rfl λd' hd'=>⟨b,hm,by simp[cB]⟩) h4
  .cases h
 .cases h
theorem dx6 (hR:gw c)(he:cn c e ea){ln es:Nat}{x i:Operand}(h:cX1 c.S ln es (ev e x) (ev e i) k=C y):di T (.idxA ln es x i) ea c.Y (kq c d k y):=by
 have hx:=dk he x;have hi:=dk he i;unfold cX1 at h;split at h
 .rename_i q o kd z hv hz;rw[hv]at hx;rw[hz]at hi;have hi:=hi.int_inv;obtain⟨hl,h⟩:=co h;obtain⟨j,h3,h4⟩:=cf h;obtain⟨h5,h6,rfl,h7⟩:=bh8 h3;cases hx with
  |ptr hk _ hd=>
    obtain⟨dd,hdd⟩:=ah8 hl;obtain⟨b,hm,hp⟩:=hd dd hdd
    have hrun:(AOp.idxA ln es x i).run ea c.Y=C (.pointer (C ⟨b,o+z.toNat*es,O⟩),c.Y):=by
     simp only[AOp.run,hp,hi];rw[xB ⟨h5,h6⟩]
    refine dq hrun ?_;cases he1:dB es 1 with
    |true=>
     rw[he1]at h4;have he1:=aB he1;subst he1;exact kq.same hR (.pix hk rfl h7 λd' hd'=>⟨b,hm,by simp⟩) h4
    |false=>
     rw[he1]at h4;exact kq.same hR (.ptr hk rfl λd' hd'=>⟨b,hm,rfl⟩) h4
 .cases h
end
end
section
open Bool renaming and_eq_true -> bB
open List renaming length_append -> cD, length_take -> dB, take_of_length_le -> dD, replicate -> gD, length_drop -> iB, length_nil -> iC, drop_zero -> iE, replicate_succ -> iF, append_assoc -> iG, flatten_cons -> iH, take_take -> iI, drop_eq_nil_of_le -> iP, getD_eq_getElem?_getD -> iQ, length_cons -> iR, take_append_of_le_length -> iS
open Nat renaming beq -> aB, eq_of_beq_eq_true -> aD, le_refl -> bD, zero_add -> cB, add_mul -> eD, le_of_ble_eq_true -> fB, eq_of_mul_eq_mul_right -> fD, mul_le_mul_right -> gB, ble -> iA, min_eq_left -> iD, eq_zero_or_pos -> iJ, min_le_left -> iK, mul_div_cancel -> iL, mul_one -> iM, mul_pos -> iN, zero_mul -> iO, le_of_mul_le_mul_right -> iT, mul_le_mul_left -> iU
open Option renaming getD_some -> iV
section
variable {β:Type} {T:ja} {c:Ctx} {e:gf} {ea:ey} {k:VV->ci->Option β} {y:β} {d:List Nat}
theorem aN1 : ∀{z:List Value} {s:Sh},bI8 z=C s->F2 (VRel c) (gk s (ai2 s)) z
 |[],s,h=>by simp[bI8]at h
 |v::r,s,h=>by
  unfold bI8 at h;split at h
  .rename_i h0;injection h0 with h1 h2
   subst h1;subst h2;injection h with h;subst h
   exact .cons (.int _ _) .nil
  .rename_i h0;injection h0 with h1 h2
   subst h1;subst h2;injection h with h;subst h
   exact .cons (.bool _) .nil
  .rename_i h0;injection h0 with h1 h2
   subst h1;subst h2;obtain⟨s',h3,h4⟩:=cf h;injection h4 with h4;subst h4
   exact .cons (.int _ _) (aN1 h3)
  .rename_i h0;injection h0 with h1 h2
   subst h1;subst h2;obtain⟨s',h3,h4⟩:=cf h;injection h4 with h4;subst h4
   exact .cons (.bool _) (aN1 h3)
  .cases h
theorem aa5 {s:Sh}{x:El s}: ∀n,io s (gD n x)=(gD n (gk s x)).flatten
 |0=>rfl
 |n+1=>by rw[iF,jr,aa5 n,iF,iH]
theorem cl3 (z:List Value)(m n:Nat):gv z (m+n)=gv z m++gv z n:=by
 simp only[gv];rw[<-List.replicate_append_replicate,List.flatten_append]
theorem cl4 (z:List Value)(n:Nat):(gv z n).length=n*z.length:=by
 simp[gv,List.length_flatten,List.map_replicate]
theorem dy8 (hR:gw c)(he:cn c e ea){es bytes:Nat}{z:List Value}{l m:Operand}(h:dn7 c.S es bytes z (ev e l) (ev e m) k=C y):di T (.makeSlice es bytes z l m) ea c.Y (kq c d k y):=by
 have hl:=dk he l;have hm:=dk he m;unfold dn7 at h;split at h
 .rename_i k1 a k2 b s h1 h2 hs;rw[h1]at hl;rw[h2]at hm;obtain⟨hg,hk⟩:=co h;simp only[bB]at hg;obtain⟨⟨⟨⟨g1,g2⟩,g3⟩,g4⟩,g5⟩:=hg;have g1:=aD g1;have g2:=of_decide_eq_true g2;have g3:=of_decide_eq_true g3;have g4:=of_decide_eq_true g4;have g5:=fB g5;have hz:=aN1 (c:=c) hs;have hzl:z.length=s.w:=by rw[<-hz.length,gp]
  have hb:b<=bytes*b:=by
   have:(1:Int)*b<=bytes*b:=Int.mul_le_mul_of_nonneg_right (by omega) (by omega);omega
  refine dq (v:= .slice (C ⟨c.Y.n,0,O⟩) a.toNat b.toNat) (Y':=c.Y.add ⟨gv z b.toNat,Za,es⟩) ?_ ?_
  .simp only[AOp.run,hl.int_inv,hm.int_inv];rw[xB ⟨g2,g3,by omega,by omega⟩]
  .have hab:gv z b.toNat=gv z a.toNat++gv z (b.toNat-a.toNat):=by rw[<-cl3];congr 1;omega
   have hrel:F2 (VRel c) (io s (gD a.toNat (ai2 s))) (gv z a.toNat):=by
    rw[aa5];clear hab;generalize a.toNat=n;induction n with
    |zero=>exact .nil
    |succ n ih=>
     simp only[gv,iF,iH]at ih⊢;exact hz.append ih
   have hmv:Moves c O (C c.Y.n) (.arr s Zb (gD a.toNat (ai2 s))) (c.Y.add ⟨gv z b.toNat,Za,es⟩):=by
    refine⟨(λb h _ hb=>by injection h with h;subst h;exact Nat.lt_irrefl _ (hR.fbl _ hb)),(λ_ h=>by cases h),λq x hx=> ?_,Nat.le_succ _,λi x hx _=> ?_,(s.w,(gD a.toNat (ai2 s)).length*s.w),rfl,uy s, .inr ⟨c.Y.n,⟨gv z b.toNat,Za,es⟩,gv z a.toNat,gv z (b.toNat-a.toNat),rfl,xB rfl,g1,λ_=>rfl,hab,hrel, .inl λw hw=> ?_⟩⟩
    .simp only[Hp.add]at hx⊢;split at hx
     .omega
     .have:=hR.ok q x hx;omega
    .have:=hR.ok i x hx;simp only[Hp.add];rw[xD (by omega)];exact hx
    .have:=hR.ok _ _ hw;omega
   refine kq.new (kill:=O) hR hmv (λ_ h=>by cases h) (ap5 (dm:=(s.w,(gD a.toNat (ai2 s)).length*s.w)) (n:=a.toNat) (m:=b.toNat) (yb:=⟨gv z b.toNat,Za,es⟩) rfl (by simp) (by omega) (xB rfl) ?_) hk;rw[cl4,hzl];exact bD _
 .cases h
def More.cellsOf :More->List VV
 | .cells l=>l
 | .lst s l=>io s l
theorem bW8 {x:Ab.Blk}{o n m:Nat}(h:o+n<=x.cells.length)(hm:m<=n):w8 x o m=C (((x.cells.drop o).take n).take m):=by
 unfold w8;rw[xB (by omega),iI,iD hm]
theorem bi3 (hR:gw c){q o n es:Nat}{dm:Nat×Nat}{a:Value}(hd:(cc c.S q).dim=C dm)(he:dm.1=es)(hs:SlR c q o n dm a):
  ∃all,aZ3 a=C n/\(∀m,m<=n->c.Y.slice es a m=C (all.take (m*es)))/\all.length=n*es/\F2 (VRel c) (((cc c.S q).vals.drop (o*es)).take (n*es)) all:=by
 subst he;rcases hs with⟨rfl,rfl,rfl,hm,hz⟩|⟨b,cp,x,rfl,hm,h3,h4,hx,h5⟩
 .refine⟨[],rfl,λm hm'=> ?_,by simp,by simp;exact .nil⟩;have:m=0:=by omega
  subst this;simp[Hp.slice]
 .obtain⟨y0,cs,rest,h6,_,_,h7,h8⟩:=hR.block hd hm;rw[hx]at h6;injection h6 with h6
  subst h6;have hl:=h8.length
  have hvl:(cc c.S q).vals.length=dm.2:=by
   generalize cc c.S q=blk at hd;cases blk with
   |dead=>cases hd
   |cells es z l=>injection hd with hd;subst hd;rfl
   |arr s z l=>injection hd with hd;subst hd;exact jx
  rw[eD]at h3;have h9:((cs.drop (o*dm.1)).take (n*dm.1)).length=n*dm.1:=by rw[dB,iB];omega
  refine⟨(cs.drop (o*dm.1)).take (n*dm.1),rfl,λm hm'=> ?_,h9,(h8.drop _).take _⟩;have h10:m*dm.1<=n*dm.1:=gB _ hm';by_cases hm0:m=0
  .subst hm0;simp[Hp.slice]
  simp only[Hp.slice,hx,xD hm0];rw[bW8 (n:=n*dm.1) (by rw[h7,cD];omega) h10,h7,List.drop_append_of_le_length (by omega),iS (l₁:=cs.drop (o*dm.1)) (by rw[iB];omega)]
theorem ak4 (hR:gw c){es:Nat}{v:VV}{a:Value}{m:More}(h:lg c.S es v=C m)(hv:VRel c v a):
  ∃n all,aZ3 a=C n/\(∀i,i<=n->c.Y.slice es a i=C (all.take (i*es)))/\all.length=n*es/\F2 (VRel c) m.cellsOf all/\(∀s l,m= .lst s l->es=s.w/\n=l.length):=by
 cases v<;>simp only[lg]at h<;>try(cases h;done)
 case nils=>
  injection h with h;subst h
  cases hv;refine⟨0,[],rfl,λi hi=> ?_,by simp, .nil,λs l h=>by cases h⟩;have:i=0:=by omega
  subst this;simp[Hp.slice]
 case str l=>
  cases he:aB es 1 with
  |false=>rw[he]at h;cases h
  |true=>
   rw[he]at h;have he:=aD he;subst he;injection h with h;subst h
   obtain⟨s,rfl,rfl⟩:=hv.str_inv;refine⟨s.size,s.data.toList.map λb=> .int .u8 b.toNat,rfl,λi hi=> ?_,by simp, ?_,λs' l h=> ?_⟩
   .simp only[Hp.slice,if_true,iM];simp[ByteArray.data_extract,Array.toList_extract,List.extract_eq_take_drop,List.map_take]
   .simp only[More.cellsOf,fp,io];generalize s.data.toList=l;induction l with
    |nil=>exact .nil
    |cons b l ih=>exact .cons (.int _ _) ih
   .injection h with h1 h2
    subst h1;cases h2;exact⟨rfl,(ac7 s).symm⟩
 case lst s l=>
  cases he:aB es s.w with
  |false=>rw[he]at h;cases h
  |true=>
   rw[he]at h;have he:=aD he;subst he;injection h with h;subst h
   refine⟨l.length, ?_⟩;rcases hv.listAt with⟨qq,rfl,rfl,hqq⟩|⟨b,p,cp,x,rfl,h1,h2,h3,h4,h5⟩
   .refine⟨[],rfl,λi hi=> ?_,by simp, .nil,λs' l h=>by injection h with h1 h2;subst h1;cases h2;exact⟨rfl,rfl⟩⟩;have:i=0:=by simp at hi;exact hi
    subst this;cases qq with
    |none=>simp[Hp.slice]
    |some z=>
     have:=hqq z rfl;obtain⟨zb,zo,zs⟩:=z;simp only at this;subst this;simp[Hp.slice]
   .refine⟨(x.cells.drop p).take (l.length*s.w),rfl,λi hi=> ?_,by rw[<-h5.length,jx],h5,λs' l' h=>by injection h with h1 h2;subst h1;cases h2;exact⟨rfl,rfl⟩⟩;by_cases hi0:i=0
    .subst hi0;simp[Hp.slice]
    simp only[Hp.slice,h1,xD hi0];exact bW8 h4 (gB _ hi)
 case full q=>
  cases hv with
  |full hk _ hd=>
   cases hb:cc c.S q with
   |dead=>rw[hb]at h;cases h
   |arr s z l=>
    rw[hb]at h;cases he:aB es s.w with
    |false=>simp only[he]at h;cases h
    |true=>
     simp only[he]at h;have he:=aD he;subst he;injection h with h;subst h
     have hdim:(cc c.S q).dim=C (s.w,l.length*s.w):=by rw[hb];rfl
     obtain⟨n,h1,h2⟩:=hd _ hdim;have:n=l.length:=fD (uy s) h1;subst this;obtain⟨all,h3,h4,h5,h6⟩:=bi3 hR hdim rfl h2;rw[hb,iO,iE,dD (by simp[Blk.vals,jx])]at h6;exact⟨_,all,h3,h4,h5,h6,λs' l' h=>by injection h with h1 h2;subst h1;cases h2;exact⟨rfl,rfl⟩⟩
   |cells es' z l=>
    rw[hb]at h;cases he:(aB es es'&&iA 1 es)with
    |false=>simp only[he]at h;cases h
    |true=>
     simp only[he]at h;rw[bB]at he;have he1:=aD he.1;subst he1;injection h with h;subst h
     have hdim:(cc c.S q).dim=C (es,l.length):=by rw[hb];rfl
     obtain⟨n,h1,h2⟩:=hd _ hdim;obtain⟨all,h3,h4,h5,h6⟩:=bi3 hR hdim rfl h2;simp only at h1;rw[hb,iO,iE,h1,dD (by exact bD _)]at h6;exact⟨_,all,h3,h4,h5,h6,λs' l' h=>by cases h⟩
 case part q o n=>
  cases hv with
  |part hk _ hd=>
   cases hb:cc c.S q with
   |dead=>rw[hb]at h;cases h
   |arr s z l=>
    rw[hb]at h;cases he:aB es s.w with
    |false=>simp only[he]at h;cases h
    |true=>
     simp only[he]at h;have he:=aD he;subst he;injection h with h;subst h
     have hdim:(cc c.S q).dim=C (s.w,l.length*s.w):=by rw[hb];rfl
     have h2:=hd _ hdim;obtain⟨all,h3,h4,h5,h6⟩:=bi3 hR hdim rfl h2;rw[hb]at h6;simp only[Blk.vals]at h6;rw[<-aB4,<-qg]at h6
     have h7:n=((l.drop o).take n).length:=by
      have:=h6.length;rw[jx,h5]at this;exact(fD (uy s) this).symm
     exact⟨_,all,h3,h4,h5,h6,λs' l' h=>by injection h with h1 h2;subst h1;cases h2;exact⟨rfl,h7⟩⟩
   |cells es' z l=>
    rw[hb]at h;cases he:(aB es es'&&iA 1 es)with
    |false=>simp only[he]at h;cases h
    |true=>
     simp only[he]at h;rw[bB]at he;have he1:=aD he.1;subst he1;injection h with h;subst h
     have hdim:(cc c.S q).dim=C (es,l.length):=by rw[hb];rfl
     have h2:=hd _ hdim;obtain⟨all,h3,h4,h5,h6⟩:=bi3 hR hdim rfl h2;rw[hb]at h6;exact⟨_,all,h3,h4,h5,h6,λs' l' h=>by cases h⟩
def Base.cellsOf :Base->List VV
 | .none=>[]
 | .cells _ l=>l
 | .arr s l=>io s l
structure BaseAt (c:Ctx)(es sl:Nat)(base:Base)(kill:Option Nat)(a:Value):Prop where
 no:kill=O->a= .slice O 0 0/\sl=0/\base= .none
 yes: ∀q,kill=C q->∃dm,(cc c.S q).dim=C dm/\dm.1=es/\(cc c.S q).frozen=Zb/\SlR c q 0 sl dm a/\base.cellsOf=(cc c.S q).vals.take (sl*es)
 es: ∀e l,base= .cells e l->e=es/\1<=es
theorem aS4 {blk:Blk}{dm:Nat×Nat}(h:blk.dim=C dm):blk.vals.length=dm.2:=by
 cases blk with
 |dead=>cases h
 |cells es z l=>injection h with h;subst h;rfl
 |arr s z l=>injection h with h;subst h;exact jx
theorem db8 {es:Nat}{v:VV}{a:Value}{base:Base}{kill:Option Nat}(hR:gw c)(h:aJ2 c.S es v=C (base,kill))(hv:VRel c v a): ∃sl,BaseAt c es sl base kill a/\base.cellsOf.length=sl*es/\(∀s l,base= .arr s l->es=s.w/\sl=l.length):=by
 cases v<;>try(cases h;done)
 case nils=>
  simp only[aJ2]at h;injection h with h
  injection h with h1 h2
  subst h1;subst h2;cases hv;exact⟨0,⟨λ_=>⟨rfl,rfl,rfl⟩,(λq h=>by cases h),(λe l h=>by cases h)⟩,by simp[Base.cellsOf],λs l h=>by cases h⟩
 case full q=>
  simp only[aJ2]at h;cases hv with
  |full hk _ hd=>
   cases hb:cc c.S q with
   |dead=>rw[hb]at h;cases h
   |arr s z l=>
    rw[hb]at h;cases z with
    |true=>cases h
    |false=>
     simp only at h;cases he:aB es s.w with
     |false=>rw[he]at h;cases h
     |true=>
      rw[he]at h;have he:=aD he;subst he;injection h with h
      injection h with h1 h2
      subst h1;subst h2;have hdim:(cc c.S q).dim=C (s.w,l.length*s.w):=by rw[hb];rfl
      obtain⟨n,h1,h2⟩:=hd _ hdim;have:n=l.length:=fD (uy s) h1;subst this;refine⟨l.length,⟨(λh=>by cases h),λq' h=> ?_,(λe l h=>by cases h)⟩,jx,λs' l' h=>by injection h with h1 h2;subst h1;cases h2;exact⟨rfl,rfl⟩⟩;injection h with h
      subst h;refine⟨_,hdim,rfl,by rw[hb];rfl,h2, ?_⟩;rw[hb];exact(dD (by rw[show(Base.arr s l).cellsOf=io s l from rfl,jx];exact bD _)).symm
   |cells es' z l=>
    rw[hb]at h;cases z with
    |true=>cases h
    |false=>
     simp only at h;cases he:(aB es es'&&iA 1 es)with
     |false=>rw[he]at h;cases h
     |true=>
      rw[he]at h;rw[bB]at he;have he1:=aD he.1;subst he1;injection h with h
      injection h with h1 h2
      subst h1;subst h2;have hdim:(cc c.S q).dim=C (es,l.length):=by rw[hb];rfl
      obtain⟨n,h1,h2⟩:=hd _ hdim;simp only at h1;refine⟨n,⟨(λh=>by cases h),λq' h=> ?_,λe l h=>by injection h with h1 h2;exact⟨h1.symm,fB he.2⟩⟩,h1.symm,λs' l' h=>by cases h⟩;injection h with h
      subst h;refine⟨_,hdim,rfl,by rw[hb];rfl,h2, ?_⟩;rw[hb,h1];exact(dD (bD _)).symm
 case part q lo n=>
  cases lo with
  |succ lo=>cases h
  |zero=>
   simp only[aJ2]at h;cases hv with
   |part hk _ hd=>
    cases hb:cc c.S q with
    |dead=>rw[hb]at h;cases h
    |arr s z l=>
     rw[hb]at h;cases z with
     |true=>cases h
     |false=>
      simp only at h;cases he:aB es s.w with
      |false=>rw[he]at h;cases h
      |true=>
       rw[he]at h;have he:=aD he;subst he;injection h with h
       injection h with h1 h2
       subst h1;subst h2;have hdim:(cc c.S q).dim=C (s.w,l.length*s.w):=by rw[hb];rfl
       have h2:=hd _ hdim
       have hn:n<=l.length:=by
        rcases h2 with⟨_,_,h3,_,_⟩|⟨b,cp,x,_,_,h3,_⟩
        .omega
        .rw[cB]at h3;exact iT h3 (uy s)
       have hlen:(l.take n).length=n:=by rw[dB];omega
       refine⟨n,⟨(λh=>by cases h),λq' h=> ?_,(λe l h=>by cases h)⟩,by simp only[Base.cellsOf];rw[jx,hlen],λs' l' h=>by injection h with h1 h2;subst h1;cases h2;exact⟨rfl,hlen.symm⟩⟩;injection h with h
       subst h;refine⟨_,hdim,rfl,by rw[hb];rfl,h2, ?_⟩;rw[hb];exact qg
    |cells es' z l=>
     rw[hb]at h;cases z with
     |true=>cases h
     |false=>
      simp only at h;cases he:(aB es es'&&iA 1 es)with
      |false=>rw[he]at h;cases h
      |true=>
       rw[he]at h;rw[bB]at he;have he1:=aD he.1;subst he1;injection h with h
       injection h with h1 h2
       subst h1;subst h2;have hdim:(cc c.S q).dim=C (es,l.length):=by rw[hb];rfl
       have h2:=hd _ hdim
       have hn:n*es<=l.length:=by
        rcases h2 with⟨_,_,h3,_,_⟩|⟨b,cp,x,_,_,h3,_⟩
        .subst h3;simp
        .rwa [cB]at h3
       refine⟨n,⟨(λh=>by cases h),λq' h=> ?_,λe l h=>by injection h with h1 h2;exact⟨h1.symm,fB he.2⟩⟩,by simp only[Base.cellsOf];rw[dB];omega,λs' l' h=>by cases h⟩;injection h with h
       subst h;exact⟨_,hdim,rfl,by rw[hb];rfl,h2,by rw[hb];rfl⟩
theorem ds4 {vs cs:List Value}(h:cs.length=vs.length):qk cs 0 vs=vs:=by
 induction vs generalizing cs with
 |nil=>simp only[qk];exact List.length_eq_zero_iff.1 h
 |cons v vs ih=>
  cases cs with
  |nil=>simp at h
  |cons a cs=>
   have h1:cs.length=vs.length:=by simpa using h
   show qk ((a::cs).set 0 v) (0+1) vs=_;have h2:=aC7 vs [v] cs 0;simp only[iR,iC,List.singleton_append,cB]at h2;rw[List.set_cons_zero,h2,ih h1]
theorem cz1 {vs cs:List Value}{p:Nat}(h:p+vs.length<=cs.length):qk cs p vs=cs.take p++(vs++cs.drop (p+vs.length)):=by
 have:=bZ1 (vs:=vs) (cs:=cs) (p:=p) (o:=0) (w:=vs.length) (by omega) h;rw[Nat.add_zero,ds4 (by rw[dB,iB];omega)]at this;exact this
theorem ct9 {Y:Hp}{x z:Ab.Blk}{b i:Nat}(h:((Y.set b O).add x).m i=C z):i=Y.n∨(i≠b/\Y.m i=C z):=by
 by_cases h1:i=Y.n
 .exact .inl h1
 .refine .inr ?_;have h2:((Y.set b O).add x).m i=(Y.set b O).m i:=xD h1;rw[h2]at h;by_cases h3:i=b
  .have h4:(Y.set b O).m i=O:=xB h3;rw[h4]at h;cases h
  .have h4:(Y.set b O).m i=Y.m i:=xD h3;exact⟨h3,h4▸h⟩
theorem cC7 {Y:Hp}{x:Ab.Blk}{b i:Nat}(h1:i≠Y.n)(h3:i≠b):((Y.set b O).add x).m i=Y.m i:=by
 have h2:((Y.set b O).add x).m i=(Y.set b O).m i:=xD h1;have h4:(Y.set b O).m i=Y.m i:=xD h3;exact h2.trans h4
structure Grown (c:Ctx)(base more:List VV)(es n:Nat)(blk:Blk):Prop where
 dim:blk.dim=C (es,n*es)
 fz:blk.frozen=Zb
 rel: ∀bs ms,F2 (VRel c) base bs->F2 (VRel c) more ms->F2 (VRel c) blk.vals (bs++ms)
theorem ac4 {c1:Ctx}{es bytes sl n:Nat}{base:Base}{kill:Option Nat}{more:List VV}{blk:Blk}{s:Operand}{op:AOp}{all:List Value}(hR:gw c1)(hS:Frz c.S c1.S)(hZ:c1.Z=c.Z)(hY:c1.Y=c.Y)(hle:Le c c1)(hcalm:am3 d c c1)
  (he1:1<=es) (hb:BaseAt c es sl base kill (ea.ev s)) (hkz: ∀q,kill=C q->(cc c1.S q).frozen=Zb)
  (hop: ∀a sl' sc,ea.ev s= .slice a sl' sc->op.run ea c.Y=up es bytes c.Y a sl' sc n all) (h3:all.length=n*es) (h4:F2 (VRel c1) more all) (h5:all.all one=Za) (hg:Grown c1 base.cellsOf more es (sl+n) blk)
  (hf:jq (sl+n) bytes=Za) (hd: ∀q,kill=C q->q∈d) (hk:k (.full c1.S.length) (w6 c1.S kill++[blk])=C y):di T op ea c.Y (kq c d k y):=by
 have hfit:(sl+n)*bytes<=140737488355328/\sl+n<=9223372036854775807:=by
  unfold jq at hf;rw[bB]at hf;have g1:=of_decide_eq_true hf.1;have g2:=fB hf.2;refine⟨g1, ?_⟩;have:(sl+n)*1<=(sl+n)*bytes:=iU _ g2;omega
 have hnew:all=[]->n=0:=by
  intro h;subst h;simp only[iC]at h3;rcases iJ n with h|h
  .exact h
  .have:=iN h he1;omega
 have fin: ∀{v:Value} {Y':Hp} {b1:Option Nat},Moves c1 kill b1 blk Y'->VRel ⟨aj5 c1 b1,w6 c1.S kill++[blk],Y',c1.fb⟩ (.full c1.S.length) v->kq c d k y v Y':=by
  intro v Y' b1 hm hv;exact⟨_,_,rfl,hle.trans (hm.le hR),hm.rel hR,hcalm.trans (hm.calm hR hd) hle,hv,hk⟩
 cases kill with
 |none=>
  obtain⟨e1,e2,e3⟩:=hb.no rfl;subst e2;subst e3;by_cases hn:n=0
  .subst hn;have:all=[]:=by simpa using h3
   subst this;have hmv:Moves c1 O O blk c1.Y:=⟨(λ_ h=>by cases h),(λ_ h=>by cases h),hR.ok,bD _,λ_ _ h _=>h,_,hg.dim,he1, .inl ⟨rfl,by simp⟩⟩;refine dq (v:= .slice O 0 0) (Y':=c.Y) ?_ ?_
   .rw[hop _ _ _ e1];unfold up;rw[xB (by simp)];simp
   .rw[<-hY];refine fin hmv (.full (by simp[w6]) rfl λd' hd'=> ?_);simp only[po,if_true]at hd';rw[hg.dim]at hd';injection hd' with hd'
    subst hd';exact⟨0,by simp, .inl ⟨rfl,rfl,rfl,by simp[aj5],by simp⟩⟩
  .have hmv:=cC8 hR (blk:=blk) (x:=⟨all,Za,es⟩) hg.dim he1 rfl rfl (by have:=hg.rel [] all .nil h4;simpa using this);refine dq (v:= .slice (C ⟨c.Y.n,0,O⟩) n n) (Y':=c.Y.add ⟨all,Za,es⟩) ?_ ?_
   .rw[hop _ _ _ e1];unfold up;rw[xD (by omega),xB ⟨hfit.1,hfit.2,h5⟩];simp
   .rw[<-hY];refine fin hmv (ap5 (yb:=⟨all,Za,es⟩) hg.dim (by simp) (bD _) (xB rfl) ?_);show n*es<=all.length;omega
 |some q=>
  obtain⟨dm,g1,g2,g3,g4,g5⟩:=hb.yes q rfl;subst g2;have hdim1:(cc c1.S q).dim=C dm:=by rw[hS.dim];exact g1
  have hvals1:(cc c1.S q).vals=(cc c.S q).vals:=hS.vals q;rcases g4 with⟨e1,_,e2,e3,e4⟩|⟨b,cp,yb,e1,e3,e4,e5,e6,e7⟩
  .subst e2;have hbase:base.cellsOf=[]:=by rw[g5];simp
   by_cases hn:n=0
   .subst hn;have:all=[]:=by simpa using h3
    subst this;have hmv:Moves c1 (C q) O blk c1.Y:=⟨(λ_ h=>by cases h),(λ_ h=>by injection h with h;subst h;exact hkz q rfl),hR.ok,bD _,λ_ _ h _=>h,_,hg.dim,he1, .inl ⟨rfl,by simp⟩⟩;refine dq (v:= .slice O 0 0) (Y':=c.Y) ?_ ?_
    .rw[hop _ _ _ e1];unfold up;rw[xB (by simp)];simp
    .rw[<-hY];refine fin hmv (.full (by simp[ax5]) rfl λd' hd'=> ?_);simp only[po,if_true]at hd';rw[hg.dim]at hd';injection hd' with hd'
     subst hd';exact⟨0,by simp, .inl ⟨rfl,rfl,rfl,by simp[aj5],by simp⟩⟩
   .have hmv:Moves c1 (C q) (C c1.Y.n) blk (c1.Y.add ⟨all,Za,dm.1⟩):=by
     have h0:=cC8 hR (blk:=blk) (x:=⟨all,Za,dm.1⟩) hg.dim he1 rfl rfl (by have:=hg.rel [] all (by rw[hbase];exact .nil) h4;simpa using this);refine⟨h0.fr,(λ_ h=>by injection h with h;subst h;exact hkz q rfl),h0.ok,h0.n,λi z hz _=>h0.old i z hz (λ⟨_,h,_⟩=>by cases h), ?_⟩;obtain⟨dd,k1,k2,k3⟩:=h0.one;refine⟨dd,k1,k2, ?_⟩;rcases k3 with k3|⟨b',y',cs,rest,k3,k4,k5,k6,k7,k8,k9⟩
     .exact .inl k3
     .refine .inr ⟨b',y',cs,rest,k3,k4,k5,k6,k7,k8, .inl ?_⟩;rcases k9 with k9|⟨_,k9,_⟩
      .exact k9
      .cases k9
    refine dq (v:= .slice (C ⟨c.Y.n,0,O⟩) n n) (Y':=c.Y.add ⟨all,Za,dm.1⟩) ?_ ?_
    .rw[hop _ _ _ e1];unfold up;rw[xD (by omega),xB ⟨hfit.1,hfit.2,h5⟩];simp
    .rw[<-hY];refine fin hmv (ap5 (yb:=⟨all,Za,dm.1⟩) hg.dim (by simp) (bD _) (xB rfl) ?_);show n*dm.1<=all.length;omega
  .rw[iO]at e1;rw[cB]at e4 e7;have e3':c1.Z q=C b:=by rw[hZ];exact e3
   obtain⟨yb',cs,rest,f1,f2,f3,f4,f5⟩:=hR.block hdim1 e3';rw[hY]at f1;rw[e6]at f1;injection f1 with f1
   subst f1;have hown:=f3 (hkz q rfl);have hcl:cs.length=dm.2:=by rw[<-f5.length];exact aS4 hdim1
   have hbs:F2 (VRel c1) base.cellsOf (cs.take (sl*dm.1)):=by rw[g5,<-hvals1];exact f5.take _
   have hrel:=hg.rel _ _ hbs h4;have hytake:yb.cells.take (sl*dm.1)=cs.take (sl*dm.1):=by rw[f4,iS (by omega)]
   have hcp:sl*dm.1<=cp*dm.1:=gB _ e5;by_cases hroom:sl+n<=cp
   .have hroom':sl*dm.1+n*dm.1<=cp*dm.1:=by rw[<-eD];exact gB _ hroom
    have hset:qk yb.cells (sl*dm.1) all=cs.take (sl*dm.1)++(all++yb.cells.drop (sl*dm.1+all.length)):=by rw[cz1 (by omega),hytake]
    have mk: ∀Y':Hp,Y'.Ok->Y'.n=c1.Y.n->(∀i,i≠b->Y'.m i=c1.Y.m i)->Y'.m b=C ⟨qk yb.cells (sl*dm.1) all,Za,yb.es⟩->Moves c1 (C q) (C b) blk Y':=by
     intro Y' ho hn hm hb';refine⟨(λb' h hz _=>by injection h with h;subst h;exact hz _ (by rw[hY];exact e6)),(λ_ h=>by injection h with h;subst h;exact hkz q rfl),ho,by omega,λi z hz hK=> ?_,(dm.1,(sl+n)*dm.1),hg.dim,he1, .inr ⟨b,_,cs.take (sl*dm.1)++all,yb.cells.drop (sl*dm.1+all.length),rfl,hb',f2,λ_=>rfl,by show qk _ _ _=_;rw[hset,iG],hrel, .inr ⟨q,rfl,e3'⟩⟩⟩;have:i≠b:=by rintro rfl;exact hK ⟨q,rfl,e3'⟩
     rw[hm i this];exact hz
    have hfull: ∀Y':Hp,Y'.m b=C ⟨qk yb.cells (sl*dm.1) all,Za,yb.es⟩->VRel ⟨aj5 c1 (C b),w6 c1.S (C q)++[blk],Y',c1.fb⟩ (.full c1.S.length) (.slice (C ⟨b,0,O⟩) (sl+n) cp):=by
     intro Y' hb';refine ap5 hg.dim rfl hroom hb' ?_;show cp*dm.1<=(qk yb.cells (sl*dm.1) all).length;rw[aN0];exact e7
    by_cases hn:all=[]
    .have hself:yb=⟨qk yb.cells (sl*dm.1) all,Za,yb.es⟩:=by
      subst hn;cases yb;simp only[qk]at*;simp[hown]
     refine dq (v:= .slice (C ⟨b,0,O⟩) (sl+n) cp) (Y':=c.Y) ?_ ?_
     .rw[hop _ _ _ e1];unfold up;rw[xB hroom];simp[hn]
     .rw[<-hY];have e6':c1.Y.m b=C ⟨qk yb.cells (sl*dm.1) all,Za,yb.es⟩:=by rw[<-hself,hY];exact e6
      exact fin (mk c1.Y hR.ok rfl (λ_ _=>rfl) e6') (hfull _ e6')
    .refine dq (v:= .slice (C ⟨b,0,O⟩) (sl+n) cp) (Y':=c.Y.set b (C ⟨qk yb.cells (sl*dm.1) all,Za,yb.es⟩)) ?_ ?_
     .rw[hop _ _ _ e1];unfold up;rw[xB hroom];simp only[hn,if_false,e6,cB];rw[bi7 hown (by omega) h5]
     .rw[<-hY];refine fin (mk _ (λi z hz=> ?_) rfl (λi hi=>by simp[Hp.set,hi]) (by simp[Hp.set])) (hfull _ (by simp[Hp.set]));simp only[Hp.set]at hz;split at hz
      .rename_i e;subst e;exact hR.ok _ _ (by rw[hY];exact e6)
      .exact hR.ok _ _ hz
   .have hmv:Moves c1 (C q) (C c1.Y.n) blk ((c1.Y.set b O).add ⟨cs.take (sl*dm.1)++all,Za,dm.1⟩):=by
     refine⟨(λb h _ hb=>by injection h with h;subst h;exact Nat.lt_irrefl _ (hR.fbl _ hb)),(λ_ h=>by injection h with h;subst h;exact hkz q rfl),λi z hz=> ?_,Nat.le_succ _,λi z hz hK=> ?_,(dm.1,(sl+n)*dm.1),hg.dim,he1, .inr ⟨c1.Y.n,_,cs.take (sl*dm.1)++all,[],rfl,xB rfl,rfl,λ_=>rfl,by simp,hrel, .inl λz hz=> ?_⟩⟩
     .show i<c1.Y.n+1;rcases ct9 hz with h0|⟨_,h0⟩
      .omega
      .have:=hR.ok i z h0;omega
     .have h0:i≠b:=by rintro rfl;exact hK ⟨q,rfl,e3'⟩
      have h9:=hR.ok i z hz;rw[cC7 (by omega) h0];exact hz
     .have:=hR.ok _ _ hz;omega
    refine dq (v:= .slice (C ⟨c.Y.n,0,O⟩) (sl+n) (sl+n)) (Y':=(c.Y.set b O).add ⟨cs.take (sl*dm.1)++all,Za,dm.1⟩) ?_ ?_
    .rw[hop _ _ _ e1];unfold up;rw[xD hroom,xB ⟨hfit.1,hfit.2,h5⟩];simp only[e6];rw[xB ⟨hown,f2⟩]
     have:w8 yb 0 (sl*dm.1)=C (cs.take (sl*dm.1)):=by
      unfold w8;rw[xB (by omega),iE,hytake]
     rw[this]
    .rw[<-hY];refine fin hmv (ap5 (yb:=⟨cs.take (sl*dm.1)++all,Za,dm.1⟩) hg.dim rfl (bD _) (xB rfl) ?_);show(sl+n)*dm.1<=(cs.take (sl*dm.1)++all).length;rw[cD,dB,eD];omega
theorem bF3 {S:ci}{s:Sh}{cs:List VV}{l:List (El s)}{c1:Ctx}(hR:gw c1)(hS:c1.S=S)(h:da5 S s cs=C l):cs.length=l.length*s.w/\∀as,F2 (VRel c1) cs as->F2 (VRel c1) (io s l) as:=by
 subst hS;exact bB5 (pm hR s) _ _ _ h
theorem bR2 (hR:gw c)(he:cn c e ea){es bytes:Nat}{s:Operand}{op:AOp}{mo:Option More}(hd: ∀q,ao6 (ev e s)=C q->q∈d)(h:bM4 c.S es bytes (aJ2 c.S es (ev e s)) mo k=C y)
  (hm: ∀m,mo=C m->∃n all,(∀a sl' sc,ea.ev s= .slice a sl' sc->op.run ea c.Y=up es bytes c.Y a sl' sc n all)/\all.length=n*es/\F2 (VRel c) m.cellsOf all/\(∀s l,m= .lst s l->es=s.w/\n=l.length)):di T op ea c.Y (kq c d k y):=by
 have hs:=dk he s;unfold bM4 at h;cases hbo:aJ2 c.S es (ev e s)with
 |none=>rw[hbo]at h;cases h
 |some p=>
  obtain⟨base,kill⟩:=p;cases mo with
  |none=>rw[hbo]at h;cases base<;>cases h
  |some m=>
   obtain⟨sl,hb,hbl,hba⟩:=db8 hR hbo hs;obtain⟨n,all,hop,h3,h4,h5⟩:=hm m rfl
   have hkd: ∀q,kill=C q->q∈d:=by
    intro q hq;refine hd q ?_;subst hq;cases hv:ev e s<;>rw[hv]at hbo<;>try(cases hbo;done)
    case full b=>
     simp only[aJ2]at hbo;split at hbo
     .rename_i s' l hbb;cases hh:aB es s'.w with
      |false=>rw[hh]at hbo;cases hbo
      |true=>rw[hh]at hbo;simp only[yB,Option.some.injEq,Prod.mk.injEq]at hbo;rw[<-hbo.2];rfl
     .rename_i es' l hbb;cases hh:(aB es es'&&iA 1 es)with
      |false=>rw[hh]at hbo;cases hbo
      |true=>rw[hh]at hbo;simp only[yB,Option.some.injEq,Prod.mk.injEq]at hbo;rw[<-hbo.2];rfl
     .cases hbo
    case part b lo m=>
     cases lo with
     |succ lo=>cases hbo
     |zero=>
      simp only[aJ2]at hbo;split at hbo
      .rename_i s' l hbb;cases hh:aB es s'.w with
       |false=>rw[hh]at hbo;cases hbo
       |true=>rw[hh]at hbo;simp only[yB,Option.some.injEq,Prod.mk.injEq]at hbo;rw[<-hbo.2];rfl
      .rename_i es' l hbb;cases hh:(aB es es'&&iA 1 es)with
       |false=>rw[hh]at hbo;cases hbo
       |true=>rw[hh]at hbo;simp only[yB,Option.some.injEq,Prod.mk.injEq]at hbo;rw[<-hbo.2];rfl
      .cases hbo
   have hkz: ∀q,kill=C q->(cc c.S q).frozen=Zb:=by
    intro q hq;obtain⟨_,_,_,h,_⟩:=hb.yes q hq;exact h
   rw[hbo]at h;have one4: ∀(c1:Ctx) (l:List VV),F2 (VRel c1) l all->wh l=Za->all.all one=Za:=λc1 l h1 h2=>qe h1 h2
   cases base with
   |arr s' l=>
    obtain⟨g1,g2⟩:=hba s' l rfl;subst g1;cases m with
    |lst s2 l'=>
     simp only at h;obtain⟨l2,k1,k2⟩:=cf h;obtain⟨ee,k3⟩:=sv k1;cases ee;subst k3;obtain⟨k4,k5⟩:=co k2;obtain⟨_,k6⟩:=h5 _ _ rfl;refine ac4 hR (Frz.refl _) rfl rfl (Le.refl c) (am3.refl d c) (uy _) hb hkz hop h3 h4 (one4 c _ h4 (ac9 _ _)) ⟨?_,rfl,λbs ms f1 f2=> ?_⟩ (by rw[g2,k6];exact k4) hkd k5
     .simp only[Blk.dim,cD,g2,k6]
     .simp only[Blk.vals];rw[ax4];exact f1.append f2
    |cells cs=>
     simp only at h;split at h
     .rename_i s3 l3 hkk;obtain⟨l2,k1,k2⟩:=cf h;obtain⟨k4,k5⟩:=co k2;have hfz:=bh6 c.S cs;have hR1:gw ⟨c.Z,fzL c.S cs,c.Y,c.fb⟩:=hfz.rel hR;obtain⟨k6,k7⟩:=bF3 hR1 rfl k1;have h4':F2 (VRel ⟨c.Z,fzL c.S cs,c.Y,c.fb⟩) cs all:=VRel.frames hfz.le h4
      have k8:n=l2.length:=by
       have:=h4.length;simp only[More.cellsOf]at this;rw[k6,h3]at this;exact(fD (uy _) this).symm
      have hkz': ∀q,kill=C q->(cc (fzL c.S cs) q).frozen=Zb:=by
       intro q hq;subst hq;simp only[iV]at hkk;rw[hkk];rfl
      refine ac4 (c1:=⟨c.Z,fzL c.S cs,c.Y,c.fb⟩) hR1 hfz rfl rfl hfz.le (hfz.calm d) (uy _) hb hkz' hop h3 h4' (one4 _ _ (k7 _ h4') (ac9 _ _)) ⟨?_,rfl,λbs ms f1 f2=> ?_⟩ (by rw[g2,k8];exact k4) hkd k5
      .simp only[Blk.dim,cD,g2,k8]
      .simp only[Blk.vals];rw[ax4];exact f1.append (k7 _ f2)
     .cases h
   |cells es0 l=>
    obtain⟨g1,g2⟩:=hb.es _ _ rfl;subst g1;cases m with
    |lst s2 l'=>
     simp only at h;obtain⟨w1,w2⟩:=h5 _ _ rfl;subst w1;split at h
     .rename_i s3 l3 hkk;obtain⟨l1,k1,k2⟩:=cf h;obtain⟨k4,k5⟩:=co k2;have hfz:=bh6 c.S l;have hR1:gw ⟨c.Z,fzL c.S l,c.Y,c.fb⟩:=hfz.rel hR;obtain⟨k6,k7⟩:=bF3 hR1 rfl k1;have h4':F2 (VRel ⟨c.Z,fzL c.S l,c.Y,c.fb⟩) (io s2 l') all:=VRel.frames hfz.le h4
      have k8:sl=l1.length:=by
       simp only[Base.cellsOf]at hbl;rw[k6]at hbl;exact(fD (uy _) hbl).symm
      have hkz': ∀q,kill=C q->(cc (fzL c.S l) q).frozen=Zb:=by
       intro q hq;subst hq;simp only[iV]at hkk;rw[hkk];rfl
      refine ac4 (c1:=⟨c.Z,fzL c.S l,c.Y,c.fb⟩) hR1 hfz rfl rfl hfz.le (hfz.calm d) (uy _) hb hkz' hop h3 h4' (one4 _ _ h4' (ac9 _ _)) ⟨?_,rfl,λbs ms f1 f2=> ?_⟩ (by rw[w2,k8];exact k4) hkd k5
      .simp only[Blk.dim,cD,w2,k8]
      .simp only[Blk.vals];rw[ax4];exact(k7 _ f1).append f2
     .cases h
    |cells cs=>
     simp only at h;obtain⟨k4,k5⟩:=co h;rw[bB]at k4;simp only[Base.cellsOf]at hbl;simp only[More.cellsOf]at h4;have k6:cs.length=n*es0:=by rw[h4.length];exact h3
     refine ac4 (blk:= .cells es0 Zb (l++cs)) hR (Frz.refl _) rfl rfl (Le.refl c) (am3.refl d c) g2 hb hkz hop h3 h4 (one4 c _ h4 k4.2) ⟨?_,rfl,λbs ms f1 f2=>F2.append (l:=l) f1 f2⟩ ?_ hkd k5
     .simp only[Blk.dim,cD,hbl,k6,eD]
     .have:(l.length+cs.length) / es0=sl+n:=by rw[hbl,k6,<-eD,iL _ g2]
      rw[<-this];exact k4.1
   |none=>
    have hsl:kill=O->sl=0:=λhh=>(hb.no hh).2.1
    have hsl0: ∀(q:Nat),1<=es->sl=0:=by
     intro _ hh;simp only[Base.cellsOf,iC]at hbl;rcases iJ sl with h|h
     .exact h
     .have:=iN h hh;omega
    cases m with
    |lst s2 l'=>
     simp only at h;obtain⟨w1,w2⟩:=h5 _ _ rfl;subst w1;have hz:=hsl0 0 (uy _);subst hz;obtain⟨k4,k5⟩:=co h;refine ac4 hR (Frz.refl _) rfl rfl (Le.refl c) (am3.refl d c) (uy _) hb hkz hop h3 h4 (one4 c _ h4 (ac9 _ _)) ⟨?_,rfl,λbs ms f1 f2=> ?_⟩ (by rw[w2];exact k4) hkd k5
     .simp only[Blk.dim,cD,w2,iC]
     .cases f1;exact f2
    |cells cs=>
     simp only at h;obtain⟨k4,k5⟩:=co h;rw[bB,bB]at k4;have g2:=fB k4.1.2;have hz:=hsl0 0 g2;subst hz;simp only[More.cellsOf]at h4;have k6:cs.length=n*es:=by rw[h4.length];exact h3
     refine ac4 (blk:= .cells es Zb cs) hR (Frz.refl _) rfl rfl (Le.refl c) (am3.refl d c) g2 hb hkz hop h3 h4 (one4 c _ h4 k4.2) ⟨?_,rfl,λbs ms f1 f2=>by cases f1;exact f2⟩ ?_ hkd k5
     .simp only[Blk.dim,k6,cB]
     .have:cs.length / es=0+n:=by rw[k6,iL _ g2,cB]
      rw[<-this];exact k4.1.1
theorem dh7 {s:Sh}{l:List (El s)}{a:Value}{bytes n:Nat}{all:List Value}(hv:VRel c (.tgt s l) a)(h3:all.length=n*s.w)(h1:1<=n)(h5:all.all one=Za)(hf:jq (l.length+n) bytes=Za):
  ∃p sc old,a= .slice p l.length sc/\F2 (VRel c) (io s l) old/\up s.w bytes c.Y p l.length sc n all=C (.slice (C ⟨c.Y.n,0,O⟩) (l.length+n) (l.length+n),c.Y.add ⟨old++all,Za,s.w⟩):=by
 have hfit:(l.length+n)*bytes<=140737488355328/\l.length+n<=9223372036854775807:=by
  unfold jq at hf;rw[bB]at hf;have g1:=of_decide_eq_true hf.1;have g2:=fB hf.2;refine⟨g1, ?_⟩;have:(l.length+n)*1<=(l.length+n)*bytes:=iU _ g2;omega
 cases hv with
 |tgtn hq=>
  simp only[iC,cB]at hfit⊢;rcases hq with rfl|⟨b,o,rfl⟩
  .refine⟨O,0,[],rfl, .nil, ?_⟩;unfold up;rw[xD (by omega),xB (by rw[cB];exact⟨hfit.1,hfit.2,h5⟩)];simp
  .refine⟨_,0,[],rfl, .nil, ?_⟩;unfold up;rw[xD (by omega),xB (by rw[cB];exact⟨hfit.1,hfit.2,h5⟩)];simp
 |tgt hn hy he h4 hf'=>
  rename_i b p yb;by_cases h0:l=[]
  .subst h0;simp only[iC,cB]at hfit⊢;refine⟨_,0,[],rfl, .nil, ?_⟩;unfold up;rw[xD (by omega),xB (by rw[cB];exact⟨hfit.1,hfit.2,h5⟩)];simp
  .have hl:l.length≠0:=λh=>h0 (List.eq_nil_of_length_eq_zero h)
   refine⟨_,_,_,rfl,hf', ?_⟩;unfold up;rw[xD (by omega),xB ⟨hfit.1,hfit.2,h5⟩];simp only[hl,if_false,hy,he,if_true]
   have:w8 yb p (l.length*s.w)=C ((yb.cells.drop p).take (l.length*s.w)):=by
    unfold w8;rw[xB h4]
   rw[this]
theorem bZ7 {c1:Ctx}{bytes n:Nat}{s:Sh}{l l2:List (El s)}{so:Operand}{op:AOp}{all:List Value}(hR:gw c1)(hY:c1.Y=c.Y)(hle:Le c c1)(hcalm:am3 d c c1)
  (hv:VRel c1 (.tgt s l) (ea.ev so)) (hop: ∀a sl' sc,ea.ev so= .slice a sl' sc->op.run ea c.Y=up s.w bytes c.Y a sl' sc n all) (h3:all.length=n*s.w) (h4:F2 (VRel c1) (io s l2) all) (h5:all.all one=Za) (hn:n=l2.length) (h1:1<=n)
  (h:cF7 c1.S bytes s O l l2 k=C y):di T op ea c.Y (kq c d k y):=by
 unfold cF7 at h;obtain⟨g1,g2⟩:=co h;rw[<-hn]at g1;obtain⟨p,sc,old,e1,f1,f2⟩:=dh7 hv h3 h1 h5 g1;have hrel:F2 (VRel c1) (io s (l++l2)) (old++all):=by rw[ax4];exact f1.append h4
 have hmv:=cC8 hR (blk:= .arr s Zb (l++l2)) (x:=⟨old++all,Za,s.w⟩) (d:=(s.w,(l++l2).length*s.w)) rfl (uy s) rfl rfl hrel;refine dq (v:= .slice (C ⟨c.Y.n,0,O⟩) (l.length+n) (l.length+n)) (Y':=c.Y.add ⟨old++all,Za,s.w⟩) ?_ ?_
 .rw[hop _ _ _ e1,<-hY,f2]
 .rw[<-hY];refine⟨_,_,rfl,hle.trans (hmv.le hR),hmv.rel hR,hcalm.trans (hmv.calm hR (λq h=>by cases h)) hle, ?_,g2⟩;refine ap5 (yb:=⟨old++all,Za,s.w⟩) (dm:=(s.w,(l++l2).length*s.w)) rfl (by simp[hn]) (bD _) (xB rfl) ?_;show(l.length+n)*s.w<=(old++all).length;rw[cD,<-f1.length,jx,h3,eD];exact bD _
theorem dt6 (hR:gw c)(he:cn c e ea){es bytes:Nat}{s:Sh}{l:List (El s)}{so:Operand}{op:AOp}{mo:Option More}(hs:ev e so= .tgt s l)(h:cU8 c.S es bytes s l mo k=C y)
  (hm: ∀m,mo=C m->∃n all,(∀a sl' sc,ea.ev so= .slice a sl' sc->op.run ea c.Y=up es bytes c.Y a sl' sc n all)/\all.length=n*es/\F2 (VRel c) m.cellsOf all/\(∀s l,m= .lst s l->es=s.w/\n=l.length)):di T op ea c.Y (kq c d k y):=by
 have hv:=dk he so;rw[hs]at hv;unfold cU8 at h;cases mo with
 |none=>cases h
 |some m=>
  obtain⟨n,all,hop,h3,h4,h5⟩:=hm m rfl;cases m with
  |lst s' l'=>
   simp only at h;obtain⟨l2,k1,k2⟩:=cf h;obtain⟨ee,k3⟩:=sv k1;cases ee;subst k3;obtain⟨k4,k5⟩:=co k2;rw[bB]at k4;have w1:=aD k4.1;have w2:=fB k4.2;subst w1;obtain⟨_,k6⟩:=h5 _ _ rfl;exact bZ7 hR rfl (Le.refl c) (am3.refl d c) hv hop h3 h4 (qe h4 (ac9 _ _)) k6 (by rw[k6];exact w2) k5
  |cells cs=>
   simp only at h;obtain⟨l2,k1,k2⟩:=cf h;obtain⟨k4,k5⟩:=co k2;rw[bB]at k4;have w1:=aD k4.1;have w2:=fB k4.2;subst w1;have hfz:=bh6 c.S cs;have hR1:gw ⟨c.Z,fzL c.S cs,c.Y,c.fb⟩:=hfz.rel hR;obtain⟨k6,k7⟩:=bF3 hR1 rfl k1;have h4':F2 (VRel ⟨c.Z,fzL c.S cs,c.Y,c.fb⟩) cs all:=VRel.frames hfz.le h4
   have k8:n=l2.length:=by
    have:=h4.length;simp only[More.cellsOf]at this;rw[k6,h3]at this;exact(fD (uy _) this).symm
   exact bZ7 (c1:=⟨c.Z,fzL c.S cs,c.Y,c.fb⟩) hR1 rfl hfz.le (hfz.calm d) (hv.frame hfz.le) hop h3 (k7 _ h4') (qe (k7 _ h4') (ac9 _ _)) k8 (by rw[k8];exact w2) k5
theorem cL3 (hR:gw c){v:VV}{a:Value}{S1:ci}{s:Sh}{l:List (El s)}(h:bZ6 c.S v=C (S1, .arr s l))(hv:VRel c v a):Frz c.S S1/\VRel ⟨c.Z,S1,c.Y,c.fb⟩ (.lst s l) a:=by
 unfold bZ6 at h;split at h
 .simp only[Option.some.injEq,Prod.mk.injEq,Base.arr.injEq]at h;obtain⟨h1,rfl,h2⟩:=h;have h2:=eq_of_heq h2;subst h1;subst h2;exact⟨Frz.refl _,hv⟩
 .rename_i q;split at h
  .rename_i s' z l' hb;simp only[Option.some.injEq,Prod.mk.injEq,Base.arr.injEq]at h;obtain⟨h1,rfl,h2⟩:=h;have h2:=eq_of_heq h2;subst h1;subst h2;have hfz:Frz c.S (ql c.S q (cc c.S q).freeze):=Frz.put;refine⟨hfz, ?_⟩;have hR1:=hfz.rel hR;have hq:q<c.S.length:=ud (by rw[hb];simp[Blk.dim]);have hg:cc (ql c.S q (cc c.S q).freeze) q= .arr s' Za l':=by rw[cZ9 hq,hb];rfl
   refine bV2 hR1 (pm hR1 s') (v:= .full q) ?_ (hv.frame hfz.le);show cond (cc (ql c.S q (cc c.S q).freeze) q).frozen _ _=_;rw[hg];simp only[Blk.frozen,yB,be0,hg,av9,pj]
  .cases h
 .cases h
theorem dv0 (hR:gw c)(he:cn c e ea){x:Operand}(hx:ev e x= .nils)(h:k (.int .i64 0) c.S=C y):di T (.capN x) ea c.Y (kq c d k y):=by
 have hv:=dk he x;rw[hx]at hv;have e1:ea.ev x= .slice O 0 0:=by generalize ea.ev x=q at hv;cases hv;rfl
 refine dq (v:= .int .i64 0) (Y':=c.Y) ?_ (kq.same hR (.int _ _) h);simp only[AOp.run,e1]
theorem dh0 (hR:gw c)(he:cn c e ea){x hi mx:Operand}(h:cz2 c.S (ev e x) (ev e hi) (ev e mx) k=C y):di T (.sliceX x hi mx) ea c.Y (kq c d k y):=by
 have hv:=dk he x;have hvh:=dk he hi;have hvm:=dk he mx;unfold cz2 at h;split at h
 .rename_i kh zh km zm eh em;rw[eh]at hvh;rw[em]at hvm;have q1:ea.ev hi= .int kh zh:=hvh.int_inv;have q2:ea.ev mx= .int km zm:=hvm.int_inv;obtain⟨g1,h1⟩:=co h;clear h;have g1:=of_decide_eq_true g1;subst g1;have h:=h1;clear h1
  have run: ∀(p:Option Addr) (n cp:Nat) (r:Value),ea.ev x= .slice p n cp->0<=zh->zh<=cp->(match p with
    |none=>C (Value.slice O 0 0,c.Y)
    |some ⟨b,o,O⟩=>C (.slice (C ⟨b,o,C 0⟩) zh.toNat zh.toNat,c.Y)
    |_=>O)=C (r,c.Y)->(AOp.sliceX x hi mx).run ea c.Y=C (r,c.Y):=by
   intro p n cp r hp h0 h1 hr;have b1:uG cp 0 (C (.int km zh))=C zh.toNat:=xB ⟨h0,h1⟩;have b2:uG zh.toNat 0 (C (.int kh zh))=C zh.toNat:=xB ⟨h0,by omega⟩;simp only[AOp.run,hp,q1,q2,b1,b2,if_true];exact hr
  split at h
  .rename_i hx;rw[hx]at hv;obtain⟨g2,h1⟩:=co h;clear h;have h:=h1;clear h1;have g2:=of_decide_eq_true g2;subst g2;have e1:ea.ev x= .slice O 0 0:=by generalize ea.ev x=q at hv;cases hv;rfl
   exact dq (run _ _ _ (.slice O 0 0) e1 (by simp) (by simp) rfl) (kq.same hR .nils h)
  .split at h
   .rename_i S1 s l hsrc;obtain⟨g2,h1⟩:=co h;clear h;have h:=h1;clear h1;obtain⟨c1,c2,c3⟩:=ac8 g2;obtain⟨hfz,hl⟩:=cL3 hR hsrc hv;have hR1:=hfz.rel hR;have out: ∀v:Value,VRel ⟨c.Z,S1,c.Y,c.fb⟩ (.tgt s (l.take zh.toNat)) v->kq c d k y v c.Y:=λv hv=>⟨_,⟨c.Z,S1,c.Y,c.fb⟩,rfl,hfz.le,hR1,hfz.calm d,hv,h⟩
    cases hl':ea.ev x with
    |slice p n cp=>
     rw[hl']at hl;cases hl with
     |lstn hq=>
      have z0:zh=0:=by simp at c3;omega
      subst z0;cases p with
      |none=>exact dq (run _ _ _ (.slice O 0 0) hl' (by simp) (by simp) rfl) (out _ (.tgtn (.inl rfl)))
      |some A=>
       obtain⟨b,o,sp⟩:=A;have:sp=O:=hq _ rfl;subst this;exact dq (run _ _ _ (.slice (C ⟨b,o,C 0⟩) 0 0) hl' (by simp) (by simp) rfl) (out _ (.tgtn (.inr ⟨_,_,rfl⟩)))
     |lst hn hy he' h1 h2 h3 hf=>
      rename_i b o yb;refine dq (run _ _ _ (.slice (C ⟨b,o,C 0⟩) zh.toNat zh.toNat) hl' c2 (by omega) rfl) (out _ ?_);have hlen:(l.take zh.toNat).length=zh.toNat:=by rw[dB];omega
      have hmul:zh.toNat*s.w<=n*s.w:=gB _ (by omega)
      have:=VRel.tgt (c:=⟨c.Z,S1,c.Y,c.fb⟩) (l:=l.take zh.toNat) hn hy he' (p:=o) (by rw[hlen];omega) (by
       rw[hlen,qg];have h9:=hf.take (zh.toNat*s.w);rw[iI,iD hmul]at h9
       exact h9)
      rw[hlen]at this;exact this
    |_=>rw[hl']at hl;cases hl
   .cases h
 .cases h
theorem cO1 (hR:gw c)(he:cn c e ea){es bytes:Nat}{s x:Operand}(hd: ∀q,ao6 (ev e s)=C q->q∈d)(h:bR3 c.S es bytes (ev e s) (ev e x) k=C y)(hap:cu4 c.S es bytes (ev e s) (ev e x) k=C y->di T (.append es bytes s x) ea c.Y (kq c d k y)):di T (.append es bytes s x) ea c.Y (kq c d k y):=by
 unfold bR3 at h;split at h
 .rename_i s' l hs;refine dt6 hR he hs h λm hmo=> ?_
  obtain⟨n,all,h1,h2,h3,h4,h5⟩:=ak4 hR hmo (dk he x);have h2n:=h2 n (bD _);rw[dD (by omega)]at h2n;refine⟨n,all,λa sl' sc hs=> ?_,h3,h4,h5⟩;simp only[AOp.run,hs,h1,h2n]
 .exact hap h
theorem db3 (hR:gw c)(he:cn c e ea){es bytes:Nat}{s x:Operand}(hd: ∀q,ao6 (ev e s)=C q->q∈d)(h:cu4 c.S es bytes (ev e s) (ev e x) k=C y):di T (.append es bytes s x) ea c.Y (kq c d k y):=by
 refine bR2 hR he hd h λm hmo=> ?_
 obtain⟨n,all,h1,h2,h3,h4,h5⟩:=ak4 hR hmo (dk he x);have h2n:=h2 n (bD _);rw[dD (by omega)]at h2n;refine⟨n,all,λa sl' sc hs=> ?_,h3,h4,h5⟩;simp only[AOp.run,hs,h1,h2n]
theorem cO2 (hR:gw c)(he:cn c e ea){es bytes:Nat}{z:List Value}{s x:Operand}(hd: ∀q,ao6 (ev e s)=C q->q∈d)(h:bR4 c.S es bytes z (ev e s) (ev e x) k=C y):di T (.appendZ es bytes z s x) ea c.Y (kq c d k y):=by
 have hx:=dk he x;unfold bR4 at h;split at h
 .rename_i kd l hl;rw[hl]at hx;obtain⟨hg,h⟩:=co h;unfold tb at hg;rw[bB,bB]at hg;have g1:=of_decide_eq_true hg.1;have g2:=of_decide_eq_true hg.2.1;have g3:=of_decide_eq_true hg.2.2;refine bR2 hR he hd h λm hmo=> ?_
  unfold cM2 at hmo;split at hmo
  .rename_i sh hs;cases hb:aB es sh.w with
   |false=>rw[hb]at hmo;cases hmo
   |true=>
    rw[hb]at hmo;simp only[yB,Option.some.injEq]at hmo;subst hmo;have he:=aD hb;subst he;have hz:=aN1 (c:=c) hs;have hzl:z.length=sh.w:=by rw[<-hz.length,gp]
    refine⟨l.toNat,gv z l.toNat,λa sl' sc hs'=> ?_,by rw[ax1,hzl], ?_,λs' l' h'=> ?_⟩
    .simp only[AOp.run,hs',hx.int_inv];rw[xB ⟨g1,g2,g3⟩]
    .show F2 (VRel c) (io sh (gD l.toNat (ai2 sh))) (gv z l.toNat);rw[aa5];generalize l.toNat=n;induction n with
     |zero=>exact .nil
     |succ n ih=>
      simp only[gv,iF,iH]at ih⊢;exact hz.append ih
    .injection h' with h1 h2
     subst h1;have h2:=eq_of_heq h2;rw[<-h2,List.length_replicate];exact⟨rfl,rfl⟩
  .cases hmo
 .cases h
theorem dh2 {S:ci}{q:Nat}:ql S q (cc S q)=S:=by
 induction S generalizing q with
 |nil=>rfl
 |cons a r ih=>
  cases q with
  |zero=>rfl
  |succ q=>simp only[ql,cc,ih]
theorem ds5 {Y:Hp}{b:Nat}{x:Ab.Blk}(h:Y.m b=C x):Y.set b (C x)=Y:=by
 have:(λi=>if i=b then C x else Y.m i)=Y.m:=by
  funext i
  by_cases hi:i=b
  .rw[xB hi,hi,h]
  .rw[xD hi]
 show Hp.mk _ _=_;rw[this]
theorem dk8 {es n m b o cp:Nat}{x z:Operand}{all:List Value}{x0:Ab.Blk}(hx:ea.ev x= .slice (C ⟨b,o,O⟩) n cp)(h1:aZ3 (ea.ev z)=C m)(h2:c.Y.slice es (ea.ev z) (min m n)=C all)(hy:c.Y.m b=C x0)
  (hown:x0.own=Za) (hlen:o+all.length<=x0.cells.length) (hone:all.all one=Za):(AOp.copy es x z).run ea c.Y=C (.int .i64 (min m n:Nat),c.Y.set b (C ⟨qk x0.cells o all,Za,x0.es⟩)):=by
 simp only[AOp.run,hx,h1,h2];by_cases hn:all=[]
 .rw[xB hn];subst hn;have:(⟨qk x0.cells o [],Za,x0.es⟩:Ab.Blk)=x0:=by cases x0;simp only[qk]at*;simp[hown]
  rw[this,ds5 hy]
 .rw[xD hn,hy];simp only[bi7 hown hlen hone]
theorem ch3 (hR:gw c){es q o n m:Nat}{dm:Nat×Nat}{x z:Operand}{blk:Blk}{all:List Value}(hdim:(cc c.S q).dim=C dm)(hes:dm.1=es)(hz:(cc c.S q).frozen=Zb)(hs:SlR c q o n dm (ea.ev x))
  (h1:aZ3 (ea.ev z)=C m) (h2:c.Y.slice es (ea.ev z) (min m n)=C all) (h3:all.length=min m n*es) (h5:all.all one=Za) (hd:q∈d) (hbd:blk.dim=C dm) (hbz:blk.frozen=Zb) (hnil:dm.2=0->blk=cc c.S q)
  (hrel: ∀cs,F2 (VRel c) (cc c.S q).vals cs->F2 (VRel c) blk.vals (qk cs (o*es) all)) (hk:k (.int .i64 (min m n:Nat)) (ql c.S q blk)=C y):di T (.copy es x z) ea c.Y (kq c d k y):=by
 subst hes;rcases hs with⟨e1,e2,e3,e4,e5⟩|⟨b,cp,yb,e1,e2,e3,e4,e5,e6⟩
 .subst e2;subst e3;have:all=[]:=by simpa using h3
  subst this;refine dq (v:= .int .i64 (min m 0:Nat)) (Y':=c.Y) ?_ (kq.same hR (.int _ _) ?_)
  .simp only[AOp.run,e1,h1,h2];simp
  .rw[hnil e5,dh2]at hk;exact hk
 .obtain⟨y0,cs,rest,f1,f2,f3,f4,f5⟩:=hR.block hdim e2;rw[e5]at f1;injection f1 with f1
  subst f1;have hl:=f5.length;rw[aS4 hdim]at hl
  have hle:o*dm.1+min m n*dm.1<=dm.2:=by
   have:(o+min m n)*dm.1<=(o+n)*dm.1:=gB _ (by omega);rw[eD]at this;omega
  have hlen:o*dm.1+all.length<=yb.cells.length:=by rw[f4,cD,h3];omega
  have hw:Writes c q b blk ⟨qk yb.cells (o*dm.1) all,Za,yb.es⟩:=⟨hz,e2,hbd.trans hdim.symm,hbz,yb,qk cs (o*dm.1) all,rest,dm,e5,hdim,f2,rfl,aN0 _ _ _,by show qk _ _ _=_;rw[f4,be9 _ _ _ _ (by omega)],hrel cs f5⟩;exact dq (dk8 e1 h1 h2 e5 (f3 hz) hlen h5) ⟨_,_,rfl,hw.le hR,hw.rel hR,hw.calm hR hd, .int _ _,hk⟩
theorem bD5 {kd:IntKind}: ∀{cs r:List VV} {m ml:Zd} {j:Nat} {as ms:List Value},bx4 kd m j cs=C r->F2 (VRel c) cs as->F2 (VRel c) (ml.map (VV.int kd)) ms->ml=(m.drop j).take cs.length->
  F2 (VRel c) r (ms++as.drop ms.length)
 |[],r,m,ml,j,as,ms,h,hf,hm,hl=>by
  simp only[bx4]at h;injection h with h;subst h
  cases hf;simp at hl;subst hl;cases hm;exact .nil
 |v::cs,r,m,ml,j,as,ms,h,hf,hm,hl=>by
  cases v<;>simp only[bx4]at h<;>try(cases h;done)
  rename_i k' n;cases hk:Zc (k'=kd)with
  |false=>rw[hk]at h;cases h
  |true=>
   rw[hk,yB]at h;have hk:=of_decide_eq_true hk;subst hk;obtain⟨r',h1,h2⟩:=cf h;injection h2 with h2
   subst h2;cases hf with
   |cons hf1 hf2=>
    rename_i a as;have ha:=hf1.int_inv;subst ha;by_cases hj:j<m.length
    .have hd:m.drop j=m[j]::m.drop (j+1):=List.drop_eq_getElem_cons hj;rw[hd]at hl;simp only[iR,List.take_succ_cons]at hl;subst hl;cases hm with
     |cons hm1 hm2=>
      rename_i b ms;have hb:=hm1.int_inv;subst hb;have:=bD5 h1 hf2 hm2 rfl;rw[iQ,List.getElem?_eq_getElem hj];exact .cons (.int _ _) this
    .have hd:m.drop j=[]:=iP (by omega);rw[hd]at hl;simp only[List.take_nil]at hl;subst hl;cases hm;have:=bD5 (ml:=[]) h1 hf2 .nil (by rw[iP (by omega)];simp);rw[iQ,List.getElem?_eq_none (by omega)];exact .cons (.int _ _) this
theorem ck0 {kd:IntKind}{m:Zd}: ∀{cs r:List VV} {j:Nat},bx4 kd m j cs=C r->r.length=cs.length
 |[],r,j,h=>by injection h with h;subst h;rfl
 |v::cs,r,j,h=>by
  cases v<;>simp only[bx4]at h<;>try(cases h;done)
  rename_i k' n;cases hk:Zc (k'=kd)with
  |false=>rw[hk]at h;cases h
  |true=>
   rw[hk,yB]at h;obtain⟨r',h1,h2⟩:=cf h;injection h2 with h2
   subst h2;simp[ck0 h1]
theorem cG6 {kd:IntKind}{m:Zd}:io (.int kd) m=m.map (VV.int kd):=by
 induction m with
 |nil=>rfl
 |cons a m ih=>rw[jr,ih];rfl
theorem bB1 {α:Type}{l m:List α}{o n:Nat}(h:o+n<=l.length):aL9 l o n m=l.take o++(m.take (min m.length n)++l.drop (o+min m.length n)):=by
 unfold aL9;rw[Nat.min_comm n m.length]
 congr 2
 by_cases hh:n<=m.length
 .rw[Nat.min_eq_right hh]
 .rw[iD (by omega),dD (by omega),dD (by omega)]
theorem dj9 {α:Type}{l m:List α}{o n:Nat}(h:o+n<=l.length):(aL9 l o n m).length=l.length:=by
 rw[bB1 h];simp only[cD,dB,iB];omega
theorem cE2 (hR:gw c){es q o n:Nat}{x z:Operand}{s:Sh}{l l2:List (El s)}{mc:List VV}{m:Nat}{all:List Value}(hb:cc c.S q= .arr s Zb l)(hs:SlR c q o n (s.w,l.length*s.w) (ea.ev x))(he:es=s.w)
  (h1:aZ3 (ea.ev z)=C m) (h2: ∀i,i<=m->c.Y.slice es (ea.ev z) i=C (all.take (i*es))) (h3:all.length=m*es) (h4:F2 (VRel c) (io s l2) all) (hm:m=l2.length) (hd:q∈d)
  (hk:k (.int .i64 (min l2.length n:Nat)) (ql c.S q (.arr s Zb (aL9 l o n l2)))=C y):di T (.copy es x z) ea c.Y (kq c d k y):=by
 subst he;have hdim:(cc c.S q).dim=C (s.w,l.length*s.w):=by rw[hb];rfl
 have hle:o+n<=l.length:=by
  rcases hs with⟨_,e2,e3,_,_⟩|⟨b,cp,yb,_,_,e3,_⟩
  .omega
  .exact iT e3 (uy s)
 have h2':=h2 (min m n) (iK _ _)
 have hal:(all.take (min m n*s.w)).length=min m n*s.w:=by
  rw[dB,h3,iD];exact gB _ (iK _ _)
 have h4':=h4.take (min m n*s.w);rw[<-qg]at h4';rw[<-hm]at hk;refine ch3 hR hdim rfl (by rw[hb];rfl) hs h1 h2' hal (qe h4' (ac9 _ _)) hd ?_ rfl (λh0=> ?_) (λcs hcs=> ?_) hk
 .simp only[Blk.dim,dj9 hle]
 .have:l.length=0:=by
   rcases iJ l.length with h|h
   .exact h
   .have:=iN h (uy s);simp only at h0;omega
  rw[hb,bB1 hle];rw[List.length_eq_zero_iff]at this;subst this;have hn:n=0:=by simp at hle;omega
  subst hn;simp
 .rw[hb]at hcs;simp only[Blk.vals]at hcs⊢;have hcl:=hcs.length;rw[jx]at hcl;have hle2:o*s.w+min m n*s.w<=l.length*s.w:=by rw[<-eD];exact gB _ (by omega)
  rw[cz1 (by rw[hal];omega),bB1 hle,ax4,ax4,qg,aB4,hal,<-hm,eD];exact(hcs.take _).append (h4'.append (hcs.drop _))
theorem dv4 (hR:gw c)(he:cn c e ea){es:Nat}{x z:Operand}(hd: ∀q,ao6 (ev e x)=C q->q∈d)(h:dk7 c.S es (ev e x) (ev e z) k=C y):di T (.copy es x z) ea c.Y (kq c d k y):=by
 have hx:=dk he x;have hz:=dk he z;unfold dk7 at h
 have go: ∀(q o n:Nat) (dm:Nat×Nat),(cc c.S q).dim=C dm->q∈d->SlR c q o n dm (ea.ev x)->
   (match cc c.S q,lg c.S es (ev e z)with
   | .arr s Zb l,C (.lst s' l')=>(rk (.list s') (.list s) l').bind λl2=>gd (aB es s.w) (k (.int .i64 (min l2.length n:Nat)) (ql c.S q (.arr s Zb (aL9 l o n l2))))
   | .arr s Zb l,C (.cells cs)=>(ap3 .u64 cs).bind λm=>(rk (.list (.int .u64)) (.list s) m).bind λl2=>gd (aB es s.w) (k (.int .i64 (min l2.length n:Nat)) (ql c.S q (.arr s Zb (aL9 l o n l2))))
   | .cells 1 Zb l,C (.lst (.int kd) m)=>gd (aB es 1&&iA (o+n) l.length) (match bx4 kd m 0 ((l.drop o).take n)with
    |some c'=>k (.int .i64 (min m.length n:Nat)) (ql c.S q (.cells 1 Zb (l.take o++c'++l.drop (o+n))))
    |none=>O)
   |_,_=>O)=C y->di T (.copy es x z) ea c.Y (kq c d k y):=by
  intro q o n dm hdim hqd hs h;split at h
  .rename_i s l s' l' hb hm;obtain⟨m,all,h1,h2,h3,h4,h5⟩:=ak4 hR hm hz;obtain⟨l2,k1,k2⟩:=cf h;obtain⟨ee,k3⟩:=sv k1;cases ee;subst k3;obtain⟨k4,k5⟩:=co k2;rw[hb]at hdim;injection hdim with hdim
   subst hdim;exact cE2 (mc:=[]) hR hb hs (aD k4) h1 h2 h3 h4 (h5 _ _ rfl).2 hqd k5
  .rename_i s l cs hb hm;obtain⟨m,all,h1,h2,h3,h4,h5⟩:=ak4 hR hm hz;obtain⟨ml,k0,k1⟩:=cf h;obtain⟨l2,k1,k2⟩:=cf k1;obtain⟨ee,k3⟩:=sv k1;cases ee;subst k3;obtain⟨k4,k5⟩:=co k2;rw[hb]at hdim;injection hdim with hdim
   subst hdim;have hcs:=bC6 k0;simp only[More.cellsOf]at h4;rw[hcs,<-cG6]at h4;have he1:=aD k4
   have hml:m=l2.length:=by
    have:=h4.length;rw[jx,h3,he1]at this;exact(fD (uy _) this).symm
   exact cE2 (mc:=[]) hR hb hs he1 h1 h2 h3 h4 hml hqd k5
  .rename_i l kd ml hb hm;obtain⟨m,all,h1,h2,h3,h4,h5⟩:=ak4 hR hm hz;obtain⟨k1,k2⟩:=co h;rw[bB]at k1;have he1:=aD k1.1;have hle:=fB k1.2;subst he1;split at k2
   .rename_i c' hov;have hml:=(h5 _ _ rfl).2;rw[hb]at hdim;injection hdim with hdim
    subst hdim;have h2':=h2 (min m n) (iK _ _);have hal:(all.take (min m n*1)).length=min m n*1:=by rw[dB,h3,iD];omega
    simp only[More.cellsOf]at h4;have h4':F2 (VRel c) (io (.int kd) (ml.take (min m n))) (all.take (min m n*1)):=by rw[qg];exact h4.take (min m n*1)
    have hc':=ck0 hov;have hlen:((l.drop o).take n).length=n:=by rw[dB,iB];omega
    rw[<-hml]at k2;refine ch3 hR (by rw[hb];rfl) rfl (by rw[hb];rfl) hs h1 h2' hal (qe h4' (ac9 _ _)) hqd ?_ rfl (λh0=> ?_) (λcs hcs=> ?_) k2
    .simp only[Blk.dim,cD,dB,iB,hc']
     congr 2
     omega
    .simp only at h0;have:l=[]:=List.length_eq_zero_iff.1 h0;subst this;rw[hb];simp at hle;have hn:n=0:=by omega
     subst hn;simp[bx4]at hov;subst hov;simp
    .rw[hb]at hcs;simp only[Blk.vals]at hcs⊢;have hcl:=hcs.length;rw[cz1 (by rw[hal];omega),iG,iM];refine(hcs.take _).append ?_;have h6:=bD5 (ml:=ml.take (min m n)) hov ((hcs.drop o).take n) (by rw[<-cG6];exact h4') (by rw[hlen,iE,hml,Nat.min_comm,<-iI,dD (l:=ml) (bD _)])
     have h7:cs.drop (o+(all.take (min m n*1)).length)=((cs.drop o).take n).drop (all.take (min m n*1)).length++cs.drop (o+n):=by
      rw[hal,iM,List.drop_take,List.drop_drop]
      conv=>lhs;rw[<-List.take_append_drop (n-min m n) (cs.drop (o+min m n))]
      rw[List.drop_drop]
      congr 2
      omega
     rw[h7,<-iG];exact h6.append (hcs.drop _)
   .cases k2
  .cases h
 generalize ev e x=xv at*;cases xv<;>try(cases h;done)
 case full q=>
  simp only at h;cases hx with
  |full hk _ hdd=>
   split at h
   .rename_i n hn;cases hb:cc c.S q with
    |dead=>simp only[lenOf,hb]at hn;cases hn
    |arr s z' l=>
     simp only[lenOf,hb]at hn;injection hn with hn
     have hdim:(cc c.S q).dim=C (s.w,l.length*s.w):=by rw[hb];rfl
     obtain⟨n',h1,h2⟩:=hdd _ hdim;have:n'=n:=by rw[<-hn];exact fD (uy s) h1
     subst this;exact go q 0 n' _ hdim (hd q rfl) h2 h
    |cells es' z' l=>
     simp only[lenOf,hb]at hn;injection hn with hn
     have hdim:(cc c.S q).dim=C (es',l.length):=by rw[hb];rfl
     obtain⟨n',h1,h2⟩:=hdd _ hdim;have h3:=(hR.blk q _ hdim).1
     have:n'=n:=by
      simp only at h1 h3;rw[<-hn,<-h1,iL _ h3]
     subst this;exact go q 0 n' _ hdim (hd q rfl) h2 h
   .cases h
 case part q o n=>
  simp only at h;cases hx with
  |part hk _ hdd=>
   cases hdm:(cc c.S q).dim with
   |none=>
    have:cc c.S q= .dead:=by
     generalize cc c.S q=blk at hdm;cases blk<;>first|rfl|(cases hdm;done)
    rw[this]at h;cases h
   |some dm=>exact go q o n dm hdm (hd q rfl) (hdd dm hdm) h
end
end
section
open List renaming append_assoc -> aD, foldl_cons -> bD, getD_eq_getElem?_getD -> cB, getElem?_map -> cD, take_of_length_le -> dB
open Nat renaming le_refl -> aB, le_of_ble_eq_true -> dD
open Option renaming map_some -> bB
section
variable {β:Type} {T:Ab.ja} {c:Ctx} {e:gf} {ea:ey} {d:List Nat} {k:VV->ci->Option β} {y:β}
theorem dc3 (s:ByteArray)(j:Nat):((fp s).getD j 0).toNat=(s.get! j).toNat:=by
 have e1:s.get! j=s.data[j]!:=rfl;rw[e1];unfold fp;rcases Nat.lt_or_ge j s.data.size with h'|h'
 .rw[getElem!_pos s.data j h',cB,cD,Array.getElem?_toList,Array.getElem?_eq_getElem h'];rfl
 .rw[getElem!_neg s.data j (by omega),cB,cD,Array.getElem?_toList,Array.getElem?_eq_none h'];rfl
theorem aA8 (s:ByteArray):(fp s).length=s.size:=by
 simp[fp]
theorem ch5 (s:ByteArray)(i:Nat):Utf8.decode s i=ck7 (fp s) i:=by
 unfold Utf8.decode ck7;simp only[dc3,aA8]
theorem dq8 (hR:gw c)(he:cn c e ea){x:Operand}{l:Zd}(hx:ev e x= .str l)(h:k (.it c.S.length l) (c.S++[.cells 1 Zb [.int .i64 0]])=C y):di T (.range x) ea c.Y (kq c d k y):=by
 have hv:=dk he x;rw[hx]at hv;obtain⟨s,hs,hl⟩:=hv.str_inv;refine dq (v:= .iface c.Y.n (.string s)) (Y':=c.Y.add ⟨[.int .i64 0],Za,1⟩) (by simp only[AOp.run,hs]) ?_;refine kq.new (kill:=O) hR (cC8 hR (blk:= .cells 1 Zb [.int .i64 0]) (x:=⟨[.int .i64 0],Za,1⟩) (d:=(1,1)) rfl (aB _) rfl rfl (.cons (.int _ _) .nil)) (λ_ h=>by cases h) ?_ h;refine .it (by simp[w6]) rfl hl λd' _=>⟨c.Y.n, ?_,rfl⟩
 simp[aj5]
theorem dz2 (hR:gw c)(h:k (.bld c.S.length) (c.S++[.cells 1 Zb [.str []]])=C y):di T .newB ea c.Y (kq c d k y):=by
 refine dq (v:= .iface c.Y.n .nilFunc) (Y':=c.Y.add ⟨[.string ByteArray.empty],Za,1⟩) (by simp only[AOp.run]) ?_;refine kq.new (kill:=O) hR (cC8 hR (blk:= .cells 1 Zb [.str []]) (x:=⟨[.string ByteArray.empty],Za,1⟩) (d:=(1,1)) rfl (aB _) rfl rfl (.cons (.str rfl) .nil)) (λ_ h=>by cases h) ?_ h;refine .bld (by simp[w6]) rfl λd' _=>⟨c.Y.n, ?_,rfl⟩
 simp[aj5]
theorem VRel.it_inv {q:Nat}{l:Zd}{a:Value}(h:VRel c (.it q l) a): ∃s,fp s=l/\∀d,(cc c.S q).dim=C d->∃b,c.Z q=C b/\a= .iface b (.string s):=by
 cases h with
 |it _ _ hs hd=>exact⟨_,hs,hd⟩
theorem dz4 (hR:gw c)(he:cn c e ea){x:Operand}(hd: ∀q,ao6 (ev e x)=C q->q∈d)(h:do9 c.S (ev e x) k=C y):di T (.next x) ea c.Y (kq c d k y):=by
 have hv:=dk he x;generalize ev e x=v at*;unfold do9 at h;split at h
 .rename_i q l;split at h
  .rename_i es p r hb;obtain⟨h1,h2⟩:=co h;rw[Bool.and_eq_true]at h1;have hp:=of_decide_eq_true h1.1;have hes:=dD h1.2;generalize hax:ea.ev x=a at hv;obtain⟨s,hs,hdim⟩:=hv.it_inv
   .skip
    obtain⟨b,hm,rfl⟩:=hdim (es,(VV.int .i64 p::r).length) (by rw[hb];rfl);obtain⟨y0,cs,rest,q2,q3,q4,q5,q6⟩:=hR.block (k:=q) (d:=(es,(VV.int .i64 p::r).length)) (by rw[hb];rfl) hm;rw[hb]at q4 q6;simp only[Blk.vals]at q6;cases q6 with
    |cons r1 r2=>
     rename_i c0 cr;cases r1;have hcells:y0.cells= .int .i64 p::(cr++rest):=q5;have hsz:s.size=l.length:=by rw[<-hs,aA8]
     by_cases hlt:p<l.length
     .rw[zD hlt,yB]at h2
      have hw:Writes c q b (.cells es Zb (.int .i64 (cK1 l p)::r)) ⟨.int .i64 (cK1 l p)::(cr++rest),Za,y0.es⟩:=by
       refine⟨by rw[hb];rfl,hm,by rw[hb];rfl,rfl,y0, .int .i64 (cK1 l p)::cr,rest,(es,_),q2,by rw[hb];rfl,q3,rfl,by rw[hcells];rfl,rfl, .cons (.int _ _) r2⟩
      refine dq (v:= .tuple #[.bool Za, .int .i64 p, .int .i32 (dr5 l p)]) (Y':=c.Y.set b (C ⟨.int .i64 (cK1 l p)::(cr++rest),Za,y0.es⟩)) ?_ ⟨.tup [.bool Za, .int .i64 p, .int .i32 (dr5 l p)],_,rfl,hw.le hR,hw.rel hR,hw.calm hR (hd q rfl), .tup (.cons (.bool _) (.cons (.int _ _) (.cons (.int _ _) .nil))),h2⟩;simp only[AOp.run,hax,q2];rw[xB (q4 rfl),hcells];simp only[];rw[xB hp,xB (by omega),ch5,hs];rfl
     .rw[zB hlt,yD]at h2;refine dq (v:= .tuple #[.bool Zb]) (Y':=c.Y) ?_ (kq.same hR (.tup (.cons (.bool _) .nil)) h2);simp only[AOp.run,hax,q2];rw[xB (q4 rfl),hcells];simp only[];rw[xB hp,xD (by omega)]
  .cases h
 .cases h
theorem dw3 (hR:gw c)(he:cn c e ea){x:Operand}{n:Int}(hx:bw3 (ev e x)=C n)(h:k (.str (ca2 n)) c.S=C y):di T (.encR x) ea c.Y (kq c d k y):=by
 have hv:=dk he x
 have key:dm4 (ea.ev x)=C n:=by
  generalize ea.ev x=a at hv;generalize ev e x=v at*;cases hv<;>simp only[bw3]at hx<;>first|(cases hx;done)|exact hx
 refine dq (v:= .string (Utf8.encode n)) (Y':=c.Y) ?_ (kq.same hR (.str rfl) h);simp only[AOp.run,key,bB]
theorem cF8 : ∀{cs:List VV} {as:List Value} {l:Zd},ap3 .u8 cs=C l->F2 (VRel c) cs as->aJ4 as=C l
 |[],_,l,h,hf=>by
  cases hf;injection h with h
  subst h;rfl
 |v::cs,_,l,h,hf=>by
  cases hf with
  |cons h1 h2=>
   cases v with
   |int k' n=>
    unfold ap3 at h;by_cases hk:k'= .u8
    .subst hk;rw[zD rfl,yB]at h;cases hr:ap3 .u8 cs with
     |none=>rw[hr]at h;cases h
     |some r=>
      rw[hr]at h;injection h with h
      subst h;cases h1;unfold aJ4;rw[cF8 hr h2];rfl
    .rw[zB hk]at h;cases h
   |_=>cases h
theorem bU0 : ∀{l:Zd} {as:List Value},F2 (VRel c) (io (.int .u8) l) as->aJ4 as=C l
 |[],_,hf=>by cases hf;rfl
 |n::l,_,hf=>by
  cases hf with
  |cons h1 h2=>
   cases h1;unfold aJ4;rw[bU0 (l:=l) h2];rfl
theorem dO0 (l:Zd):fp (cU1 l)=l.map bS6:=by
 have key: ∀(l:Zd) (s:ByteArray),fp (l.foldl (λr n=>r.push (UInt8.ofNat n.toNat)) s)=fp s++l.map bS6:=by
  intro l;induction l with
  |nil=>intro s;simp
  |cons n l ih=>
   intro s;rw[bD,ih,List.map_cons]
   have:fp (s.push (UInt8.ofNat n.toNat))=fp s++[bS6 n]:=by
    simp[fp,bS6,ByteArray.push]
   rw[this,aD];rfl
 have:=key l ByteArray.empty;simpa[cU1,fp]using this
theorem dt0 (hR:gw c)(he:cn c e ea){x:Operand}(h:cU2 c.S (ev e x) k=C y):di T (.strOf x) ea c.Y (kq c d k y):=by
 have hv:=dk he x
 have key: ∀(m:More) (l:Zd),(∀t,ev e x≠ .str t)->lg c.S 1 (ev e x)=C m->(∀as,F2 (VRel c) m.cellsOf as->aJ4 as=C l)->k (.str (l.map bS6)) c.S=C y->di T (.strOf x) ea c.Y (kq c d k y):=by
  intro m l hns hm hb hk;obtain⟨n,all,h1,h2,h3,h4,_⟩:=ak4 hR hm hv;have h5:=h2 n (aB _);rw[Nat.mul_one,dB (by omega)]at h5;have h6:=hb all h4
  obtain⟨p,cp,hp⟩: ∃p cp,ea.ev x= .slice p n cp:=by
   generalize ea.ev x=a at*;cases a<;>simp[aZ3]at h1
   .generalize ev e x=v at*
    have hdm: ∀q,(lg c.S 1 (.full q)=C m∨∃o n,lg c.S 1 (.part q o n)=C m)->∃d,(cc c.S q).dim=C d:=by
     intro q hq;cases hg:cc c.S q with
     |dead=>rcases hq with hq|⟨_,_,hq⟩<;>simp[lg,hg]at hq
     |cells es z l=>exact⟨_,rfl⟩
     |arr s z l=>exact⟨_,rfl⟩
    cases hv with
    |str _=>exact(hns _ rfl).elim
    |undef=>simp[lg]at hm
    |ptr _ _ _=>simp[lg]at hm
    |it _ _ _ _=>simp[lg]at hm
    |bld _ _ _=>simp[lg]at hm
    |pix _ _ _ _=>simp[lg]at hm
    |pel _ _ _=>simp[lg]at hm
    |tgtn _=>simp[lg]at hm
    |full _ _ hd=>
     obtain⟨d,hd'⟩:=hdm _ (.inl hm);obtain⟨_,_,hs⟩:=hd d hd';rcases hs with⟨e,_⟩|⟨_,_,_,e,_⟩<;>cases e
    |part _ _ hd=>
     obtain⟨d,hd'⟩:=hdm _ (.inr ⟨_,_,hm⟩);rcases hd d hd' with⟨e,_⟩|⟨_,_,_,e,_⟩<;>cases e
   .subst h1;exact⟨_,_,rfl⟩
  refine dq (v:= .string (cU1 l)) (Y':=c.Y) ?_ (kq.same hR (.str (dO0 l)) hk);rw[hp]at h5;simp only[AOp.run,hp,h5,h6,bB]
 unfold cU2 at h;split at h
 .cases h
 .rename_i hns;split at h
  .rename_i s l hm;by_cases hs:s= .int .u8
   .subst hs;rw[pj]at h;exact key _ l (λt ht=>hns t ht) hm (λas ha=>bU0 ha) h
   .unfold rk at h;rw[dif_neg (λe=>hs (by injection e))]at h;cases h
  .rename_i cs hm;cases hi:ap3 .u8 cs with
   |none=>rw[hi]at h;cases h
   |some l=>
    rw[hi]at h;exact key _ l (λt ht=>hns t ht) hm (λas ha=>cF8 hi ha) h
  .cases h
theorem ci6 : ∀{cs:List VV} {as:List Value} {l:Zd},ap3 .i32 cs=C l->F2 (VRel c) cs as->aK0 as=C l
 |[],_,l,h,hf=>by
  cases hf;injection h with h
  subst h;rfl
 |v::cs,_,l,h,hf=>by
  cases hf with
  |cons h1 h2=>
   cases v with
   |int k' n=>
    unfold ap3 at h;by_cases hk:k'= .i32
    .subst hk;rw[zD rfl,yB]at h;cases hr:ap3 .i32 cs with
     |none=>rw[hr]at h;cases h
     |some r=>
      rw[hr]at h;injection h with h
      subst h;cases h1;unfold aK0;rw[ci6 hr h2];rfl
    .rw[zB hk]at h;cases h
   |_=>cases h
theorem bU1 : ∀{l:Zd} {as:List Value},F2 (VRel c) (io (.int .i32) l) as->aK0 as=C l
 |[],_,hf=>by cases hf;rfl
 |n::l,_,hf=>by
  cases hf with
  |cons h1 h2=>
   cases h1;unfold aK0;rw[bU1 (l:=l) h2];rfl
theorem dO1 (l:Zd):fp (cU3 l)=l.flatMap ca2:=by
 have key: ∀(l:Zd) (s:ByteArray),fp (l.foldl (λr n=>r++Utf8.encode n) s)=fp s++l.flatMap ca2:=by
  intro l;induction l with
  |nil=>intro s;simp
  |cons n l ih=>
   intro s;rw[bD,ih,List.flatMap_cons,bS7,aD];rfl
 have:=key l ByteArray.empty;simpa[cU3,fp]using this
theorem dD0 (hR:gw c)(he:cn c e ea){x:Operand}(h:dt1 c.S (ev e x) k=C y):di T (.strOfR x) ea c.Y (kq c d k y):=by
 have hv:=dk he x
 have key: ∀(m:More) (l:Zd),(∀t,ev e x≠ .str t)->lg c.S 1 (ev e x)=C m->(∀as,F2 (VRel c) m.cellsOf as->aK0 as=C l)->k (.str (l.flatMap ca2)) c.S=C y->di T (.strOfR x) ea c.Y (kq c d k y):=by
  intro m l hns hm hb hk;obtain⟨n,all,h1,h2,h3,h4,_⟩:=ak4 hR hm hv;have h5:=h2 n (aB _);rw[Nat.mul_one,dB (by omega)]at h5;have h6:=hb all h4
  obtain⟨p,cp,hp⟩: ∃p cp,ea.ev x= .slice p n cp:=by
   generalize ea.ev x=a at*;cases a<;>simp[aZ3]at h1
   .generalize ev e x=v at*
    have hdm: ∀q,(lg c.S 1 (.full q)=C m∨∃o n,lg c.S 1 (.part q o n)=C m)->∃d,(cc c.S q).dim=C d:=by
     intro q hq;cases hg:cc c.S q with
     |dead=>rcases hq with hq|⟨_,_,hq⟩<;>simp[lg,hg]at hq
     |cells es z l=>exact⟨_,rfl⟩
     |arr s z l=>exact⟨_,rfl⟩
    cases hv with
    |str _=>exact(hns _ rfl).elim
    |undef=>simp[lg]at hm
    |ptr _ _ _=>simp[lg]at hm
    |it _ _ _ _=>simp[lg]at hm
    |bld _ _ _=>simp[lg]at hm
    |pix _ _ _ _=>simp[lg]at hm
    |pel _ _ _=>simp[lg]at hm
    |tgtn _=>simp[lg]at hm
    |full _ _ hd=>
     obtain⟨d,hd'⟩:=hdm _ (.inl hm);obtain⟨_,_,hs⟩:=hd d hd';rcases hs with⟨e,_⟩|⟨_,_,_,e,_⟩<;>cases e
    |part _ _ hd=>
     obtain⟨d,hd'⟩:=hdm _ (.inr ⟨_,_,hm⟩);rcases hd d hd' with⟨e,_⟩|⟨_,_,_,e,_⟩<;>cases e
   .subst h1;exact⟨_,_,rfl⟩
  refine dq (v:= .string (cU3 l)) (Y':=c.Y) ?_ (kq.same hR (.str (dO1 l)) hk);rw[hp]at h5;simp only[AOp.run,hp,h5,h6,bB]
 unfold dt1 at h;split at h
 .cases h
 .rename_i hns;split at h
  .rename_i s l hm;by_cases hs:s= .int .i32
   .subst hs;rw[pj]at h;exact key _ l (λt ht=>hns t ht) hm (λas ha=>bU1 ha) h
   .unfold rk at h;rw[dif_neg (λe=>hs (by injection e))]at h;cases h
  .rename_i cs hm;cases hi:ap3 .i32 cs with
   |none=>rw[hi]at h;cases h
   |some l=>
    rw[hi]at h;exact key _ l (λt ht=>hns t ht) hm (λas ha=>ci6 hi ha) h
  .cases h
theorem cK2 (s:ByteArray): ∀(b i:Nat) (acc:Array Value),(Conv.runesFrom s b i acc).toList=acc.toList++(bY6 b (fp s) i).map (Value.int .i32)
 |0,i,acc=>by simp[Conv.runesFrom,bY6]
 |b+1,i,acc=>by
  unfold Conv.runesFrom bY6;rw[aA8];by_cases h:i<s.size
  .rw[xB h,xB h,cK2 s b];simp only[Array.toList_push,aD,List.map_cons,ch5];rfl
  .rw[xD h,xD h];simp
theorem dg7 (s:ByteArray):rl s=(bq9 (fp s)).map (Value.int .i32):=by
 unfold rl bq9;rw[cK2,aA8];rfl
theorem ci2 (k:IntKind): ∀l:Zd,F2 (VRel c) (io (.int k) l) (l.map (Value.int k))
 |[]=> .nil
 |n::l=> .cons (.int k n) (ci2 k l)
theorem dr6 (hR:gw c)(he:cn c e ea){x:Operand}(h:cT2 c.S (ev e x) k=C y):di T (.runesOf x) ea c.Y (kq c d k y):=by
 have hv:=dk he x;unfold cT2 at h;split at h
 .rename_i l hx;obtain⟨hg,hk⟩:=co h;have hg:=dD hg;rw[hx]at hv;obtain⟨s,hs,hl⟩:=hv.str_inv;have hsz:s.size=l.length:=by rw[<-hl,aA8]
  have hra:=dg7 s;rw[hl]at hra;refine dq (v:= .slice (C ⟨c.Y.n,0,O⟩) (rl s).length (rl s).length) (Y':=c.Y.add ⟨rl s,Za,1⟩) ?_ ?_
  .simp only[AOp.run,hs];rw[xB (by omega)]
  .have hlen:(rl s).length=(bq9 l).length:=by rw[hra,List.length_map]
   have hmv:Moves c O (C c.Y.n) (.arr (.int .i32) Zb (bq9 l)) (c.Y.add ⟨rl s,Za,1⟩):=by
    refine⟨(λb h _ hb=>by injection h with h;subst h;exact Nat.lt_irrefl _ (hR.fbl _ hb)),(λ_ h=>by cases h),λq x hx=> ?_,Nat.le_succ _,λi x hx _=> ?_,(1,(bq9 l).length*1),rfl,aB _, .inr ⟨c.Y.n,⟨rl s,Za,1⟩,rl s,[],rfl,xB rfl,rfl,λ_=>rfl,(List.append_nil _).symm,by rw[hra];exact ci2 _ _, .inl λw hw=> ?_⟩⟩
    .simp only[Hp.add]at hx⊢;split at hx
     .omega
     .have:=hR.ok q x hx;omega
    .have:=hR.ok i x hx;simp only[Hp.add];rw[xD (by omega)];exact hx
    .have:=hR.ok _ _ hw;omega
   refine kq.new (kill:=O) hR hmv (λ_ h=>by cases h) (ap5 (dm:=(1,(bq9 l).length*1)) (n:=(rl s).length) (m:=(rl s).length) (yb:=⟨rl s,Za,1⟩) rfl (by simp only;omega) (aB _) (xB rfl) ?_) hk;simp
 .cases h
end
end
end Go.V
