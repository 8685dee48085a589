/- A part of the proofs of this claim: what functions of the program answer on an abstract machine, and plain laws. No condition. -/
import Derived.Test.YtbocegmeciaanaaGreatA5
import Derived.Test.YtbocegmeciaanaaGreatA3
import Derived.IntWalk
import Derived.KernelRfl
import Derived.WideKeyArr2
import Derived.RowKit
import Derived.ProofKit
import Derived.OpenShut
import Derived.ChangeArms
import Derived.Below
set_option linter.unusedVariables false
set_option linter.unusedSimpArgs false
set_option linter.unusedSectionVars false
namespace Go.V
open Go.Ab
open Option renaming some->C,none->O
open Bool renaming true->Za,false->Zb
open Decidable renaming decide->Zc
section
open Bool renaming and_eq_true -> aD, or_eq_true -> cD
open List renaming mem_cons_of_mem -> cB, map_congr_left -> fB
open Nat renaming beq -> aB, eq_of_beq_eq_true -> bB, lt_of_lt_of_le -> bD, beq_refl -> dB, le_of_ble_eq_true -> dD, le_refl -> eD
def ac1 {β:Type}(c:Ctx)(k:gf->ci->Option β)(y:β):ey->Hp->Prop:=λea Y'=> ∃e' c',c'.Y=Y'/\Le c c'/\gw c'/\cn c' e' ea/\k e' c'.S=C y
theorem ac1.of {β:Type}{c c1:Ctx}{k:gf->ci->Option β}{y:β}(h:Le c c1){ea:ey}{Y':Hp}(hp:ac1 c1 k y ea Y'):ac1 c k y ea Y':=by
 obtain⟨e',c',h1,h2,h3⟩:=hp;exact⟨e',c',h1,h.trans h2,h3⟩
def ad6 {β:Type}(c:Ctx)(k:AExit->gf->ci->Option β)(y:β):AExit->ey->Hp->Prop:=λx=>ac1 c (k x) y
section
variable {β:Type} {tab:Tab} {y:β}
theorem bT7 : ∀{ops:List AOper} {c:Ctx} {e:gf} {ea:ey} {k:gf->ci->Option β},gw c->cn c e ea->bd2 tab ops e c.S k=C y->Ab.aD1 (jv tab) (ac1 c k y) ops ea c.Y
 |[],c,e,ea,k,hR,he,h=>⟨e,c,rfl,Le.refl c,hR,he,h⟩
 |o::r,c,e,ea,k,hR,he,h=>by
  have step: ∀e1,cn c e1 ea->bT6 tab o.op e1 c.S (λv S'=>bd2 tab r (putO e1 o.dst v) S' k)=C y->di (jv tab) o.op ea c.Y λv Y'=>Ab.aD1 (jv tab) (ac1 c k y) r (ea.putO o.dst v) Y':=by
   intro e1 he1 h1;refine ve (ed tab) (λv Y' hv=> ?_) (bv7 hR he1 h1);obtain⟨vv,c',h2,h3,h4,_,h6,h7⟩:=hv;subst h2;exact Ab.aV0 (ed tab) (λea' Y'' hp=>hp.of h3) _ _ _ (bT7 h4 ((he1.frame h3).putO h6) h7)
  have skip: ∀e1,cn c e1 ea->bd2 tab r (putO e1 o.dst (.tup [])) c.S k=C y->Ab.aD1 (jv tab) (ac1 c k y) r (ea.putO o.dst undef) c.Y:=λe1 he1 h1=>bT7 hR (he1.putO (.tup .nil)) h1
  simp only[bd2]at h;simp only[Ab.aD1];split at h
  .rename_i hg;have:wanted o ea=Za:=by simp only[wanted,hg]
   rw[xB this];exact step e he h
  .rename_i t w hg;split at h
   .rename_i p hp;have ht:=he t;rw[hp]at ht;have ht:=ht.bool_inv;have hw:wanted o ea=(p==w):=by simp only[wanted,hg,ht]
    have hput:cn c (ya e t (.bool p)) ea:=by
     have:=he.put (d:=t) (VRel.bool (c:=c) p);intro i;have h1:=this i;unfold ey.put at h1;by_cases hi:i=t
     .rw[xB hi]at h1;subst hi;rw[ht];exact h1
     .rw[xD hi]at h1;exact h1
    rw[hw];cases p<;>cases w<;>simp only[yB,yD]at h
    .rw[xB (by decide)];exact step _ hput h
    .rw[xD (by decide)];exact skip _ hput h
    .rw[xD (by decide)];exact skip _ hput h
    .rw[xB (by decide)];exact step _ hput h
   .rename_i hp;have ht:=he t;rw[hp]at ht
    have hw:wanted o ea=Zb:=by
     simp only[wanted,hg];generalize ea t=u at ht;cases ht;rfl
    rw[hw,xD (by decide)];exact skip _ he h
   .cases h
def di8 :Value->Option Nat
 | .pointer (C a)=>C a.block
 | .slice (C a) _ _=>C a.block
 |_=>O
def aZ4 :AOp->Operand
 | .load x| .loadN _ x| .sliceArr _ _ x _ _| .slice _ x _ _=>x
 |_=> .global 0
theorem bV4 {op:AOp}{ea:ey}{Y Y1 Y':Hp}{v:Value}(hl:op.isLoad=Za)(h:op.run ea Y=C (v,Y1))(hd: ∀b,di8 (ea.ev (aZ4 op))=C b->Y'.m b=Y.m b):op.run ea Y'=C (v,Y'):=by
 cases op<;>try(cases hl;done)
 case load x=>
  simp only[AOp.run,aZ4]at h hd⊢;split at h
  .rename_i b o hx;rw[hx]at hd;rw[hd b rfl];split at h
   .rename_i blk hb;cases hc:blk.cells[o]? with
    |none=>rw[hc]at h;cases h
    |some u=>
     rw[hc]at h;injection h with h
     injection h with h1 h2
     subst h1;rfl
   .cases h
  .cases h
 case loadN n x=>
  simp only[AOp.run,aZ4]at h hd⊢;split at h
  .rename_i b o hx;rw[hx]at hd;rw[hd b rfl];split at h
   .rename_i blk hb;cases hc:w8 blk o n with
    |none=>rw[hc]at h;cases h
    |some u=>
     rw[hc]at h;injection h with h
     injection h with h1 h2
     subst h1;rfl
   .cases h
  .cases h
 case slice es x lo hi=>
  cases lo with
  |none=>cases hl
  |some l=>
   simp only[AOp.run,aZ4]at h hd⊢;split at h
   .rename_i a ln cap hx;rw[hx]at hd
    have hm:aJ6 Y' es a (C l)=aJ6 Y es a (C l):=by
     cases a with
     |none=>rfl
     |some a=>simp only[aJ6];rw[hd a.block rfl]
    rw[hm];cases hc:(cap==0||aJ6 Y es a (C l))with
    |false=>rw[hc]at h;simp at h
    |true=>
     rw[hc,xB rfl]at h;rw[xB rfl];split at h
     .split at h
      .injection h with h
       injection h with h1 h2
       subst h1;rfl
      .cases h
     .cases h
   .cases h
 case sliceArr es n x lo hi=>
  simp only[AOp.run,aZ4]at h hd⊢;split at h
  .rename_i b o hx;rw[hx]at hd;rw[hd b rfl];split at h
   .rename_i blk hb;split at h
    .rename_i hc;rw[xB hc];split at h
     .split at h
      .split at h
       .rename_i hlt;injection h with h
        injection h with h1 h2
        subst h1;rw[xB hlt]
       .cases h
      .cases h
     .cases h
    .cases h
   .cases h
  .cases h
theorem dn5 {op:AOp}{ea:ey}{Y Y1:Hp}{v:Value}{q:Option Addr}(hl:op.isLoad=Za)(hx:ea.ev (aZ4 op)= .slice q 0 0)(h:op.run ea Y=C (v,Y1))(Y':Hp):op.run ea Y'=C (v,Y'):=by
 cases op<;>try(cases hl;done)
 case load x=>
  simp only[aZ4]at hx;simp only[AOp.run,hx]at h;cases h
 case loadN n x=>
  simp only[aZ4]at hx;simp only[AOp.run,hx]at h;cases h
 case slice es x lo hi=>
  simp only[aZ4]at hx;simp only[AOp.run,hx,beq_self_eq_true,Bool.true_or,if_true]at h⊢;split at h
  .split at h
   .injection h with h
    injection h with h1 h2
    subst h1;rfl
   .cases h
  .cases h
 case sliceArr es n x lo hi=>
  simp only[aZ4]at hx;simp only[AOp.run,hx]at h;cases h
def bn7 (c:Ctx)(p:Hp->Prop):Option (Option Nat)->Prop
 |none=>True
 |some O=>p c.Y/\∀Y',(∀b y,c.Y.m b=C y->¬c.mut b->Y'.m b=C y)->p Y'
 |some (C q)=>(cc c.S q).dim≠O/\p c.Y/\∀Y',(∀b,c.Z q=C b->Y'.m b=c.Y.m b)->p Y'
inductive ChkRel (c:Ctx):List (Nat×(Hp->Prop))->Chk->Prop where
 |nil:ChkRel c [] []
 |cons {i:Nat} {p:Hp->Prop} {s:Option (Option Nat)} {l:List (Nat×(Hp->Prop))} {m:Chk}:bn7 c p s->ChkRel c l m->ChkRel c ((i,p)::l) ((i,s)::m)
theorem bn7.now {c:Ctx}{p:Hp->Prop}{s:Option Nat}(h:bn7 c p (C s)):p c.Y:=by
 cases s with
 |none=>exact h.1
 |some q=>exact h.2.1
theorem bn7.next {c c':Ctx}{p:Hp->Prop}{d:List Nat}(hl:Le c c')(hc:am3 d c c'): ∀{s:Option (Option Nat)},bn7 c p s->bn7 c' p (match s with
  |some (C q)=>cond (tx q d) O (C (C q))
  |s=>s)
 |none,_=>trivial
 |some O,h=>by
  refine⟨h.2 _ λb y hy hn=>(hl.rd b y hy hn).1,λY' hY=>h.2 Y' λb y hy hn=> ?_⟩;obtain⟨h1,h2⟩:=hl.rd b y hy hn;exact hY b y h1 h2
 |some (C q),h=>by
  cases hm:tx q d with
  |true=>
   show bn7 c' p (cond (tx q d) O (C (C q)));rw[hm];exact trivial
  |false=>
   show bn7 c' p (cond (tx q d) O (C (C q)));rw[hm];obtain⟨h1,h2,h3⟩:=h;have hq:q∉d:=λe=>by rw[qi.2 e]at hm;cases hm
   obtain⟨h4,h5⟩:=hc q (ud h1) hq h1
   have hmu:c'.Z q=c.Z q:=by
    cases hdd:(cc c'.S q).dim with
    |none=>exact(h4 hdd).elim
    |some dd=>exact(hl.al q dd (ud h1) hdd).2
   exact⟨h4,h3 _ h5,λY' hY=>h3 Y' λb hb=>by rw[hY b (by rw[hmu];exact hb),h5 b hb]⟩
theorem ChkRel.next {c c':Ctx}{d:List Nat}(hl:Le c c')(hc:am3 d c c'): ∀{l:List (Nat×(Hp->Prop))} {m:Chk},ChkRel c l m->ChkRel c' l (bM2 d m)
 |_,_, .nil=> .nil
 |_,_, .cons (s:=s) h1 h2=>by
  have h3:=h1.next hl hc
  have h4:=ChkRel.next hl hc h2
  cases s with
  |none=>exact .cons h3 h4
  |some s=>
   cases s with
   |none=>exact .cons h3 h4
   |some q=>exact .cons h3 h4
theorem aD0 : ∀m:Chk,bM2 [] m=m
 |[]=>rfl
 |(i,O)::r=>by simp only[bM2,aD0 r]
 |(i,C O)::r=>by simp only[bM2,aD0 r]
 |(i,C (C q))::r=>by simp only[bM2,aD0 r,tx,yD]
theorem bq2 {c:Ctx}{is:List Nat}: ∀{l:List (Nat×(Hp->Prop))} {m:Chk},ChkRel c l m->ta is m=Za->aw4 is c.Y l
 |_,_, .nil,_=>trivial
 |_,_, .cons (i:=i) (s:=s) h1 h2,h=>by
  simp only[ta]at h;simp only[aw4]
  have hc:is.contains i=tx i is:=by
   cases hm:tx i is with
   |true=>simpa using qi.1 hm
   |false=>
    cases hh:is.contains i with
    |false=>rfl
    |true=>
     have:i∈is:=by simpa using hh
     rw[qi.2 this]at hm;cases hm
  rw[hc];cases hm:tx i is with
  |false=>
   rw[hm,yD]at h;rw[xD (by decide)];exact bq2 h2 h
  |true=>
   rw[hm,yB]at h;rw[xB rfl];cases s with
   |none=>cases h
   |some s=>exact⟨h1.now,bq2 h2 h⟩
theorem cg7 {c:Ctx}{e:gf}{ea:ey}{op:AOp}{v:Value}{Y1:Hp}(hR:gw c)(he:cn c e ea)(hl:op.isLoad=Za)(h:op.run ea c.Y=C (v,Y1)):bn7 c (λY'=>op.run ea Y'=C (v,Y')) (du6 c.S op e):=by
 have hx:=dk he (aZ4 op);have hself:op.run ea c.Y=C (v,c.Y):=bV4 hl h λ_ _=>rfl
 have key:bn7 c (λY'=>op.run ea Y'=C (v,Y')) (dj6 c.S (ev e (aZ4 op))):=by
  generalize ev e (aZ4 op)=xv at*
  have blkcase: ∀q,ao6 xv=C q->(∀b,di8 (ea.ev (aZ4 op))=C b->(cc c.S q).dim≠O->c.Z q=C b)->bn7 c (λY'=>op.run ea Y'=C (v,Y')) (cond (cc c.S q).live (C (C q)) O):=by
   intro q hq hb;cases hlv:(cc c.S q).live with
   |false=>trivial
   |true=>
    obtain⟨dm,hdm⟩:=ah8 hlv;exact⟨by rw[hdm];simp,hself,λY' hY=>bV4 hl h λb hbb=>hY b (hb b hbb (by rw[hdm];simp))⟩
  have novalue:(∀b,di8 (ea.ev (aZ4 op))=C b->∃y,c.Y.m b=C y/\¬c.mut b)->bn7 c (λY'=>op.run ea Y'=C (v,Y')) (C O):=by
   intro hb;refine⟨hself,λY' hY=>bV4 hl h λb hbb=> ?_⟩;obtain⟨y,h1,h2⟩:=hb b hbb;rw[hY b y h1 h2,h1]
  cases xv<;>simp only[dj6,ao6]<;>try exact trivial
  case ptr q o=>
   refine blkcase q rfl λb hb hdm=> ?_
   cases hx with
   |ptr hk ho hd=>
    cases hdd:(cc c.S q).dim with
    |none=>exact(hdm hdd).elim
    |some d=>
     obtain⟨b',h1,h2⟩:=hd d hdd;rw[h2]at hb;injection hb with hb
     subst hb;exact h1
  case it q l=>
   refine blkcase q rfl λb hb hdm=> ?_
   obtain⟨s,_,hd⟩:=hx.it_inv;cases hdd:(cc c.S q).dim with
   |none=>exact(hdm hdd).elim
   |some d=>
    obtain⟨b',h1,h2⟩:=hd d hdd;rw[h2]at hb;cases hb
  case bld q=>
   refine blkcase q rfl λb hb hdm=> ?_
   cases hx with
   |bld _ _ hd=>
   cases hdd:(cc c.S q).dim with
   |none=>exact(hdm hdd).elim
   |some d=>
    obtain⟨b',h1,h2⟩:=hd d hdd;rw[h2]at hb;cases hb
  case pix q o n i=>
   refine blkcase q rfl λb hb hdm=> ?_
   cases hx with
   |pix hk ho hi hd=>
    cases hdd:(cc c.S q).dim with
    |none=>exact(hdm hdd).elim
    |some d=>
     obtain⟨b',h1,h2⟩:=hd d hdd;rw[h2]at hb;injection hb with hb
     subst hb;exact h1
  case pel q i o=>
   refine blkcase q rfl λb hb hdm=> ?_
   cases hx with
   |pel hk ho hd=>
    cases hdd:(cc c.S q).dim with
    |none=>exact(hdm hdd).elim
    |some d=>
     obtain⟨b',h1,h2⟩:=hd d hdd;rw[h2]at hb;injection hb with hb
     subst hb;exact h1
  case full q=>
   refine blkcase q rfl λb hb hdm=> ?_
   cases hx with
   |full hk ho hd=>
    cases hdd:(cc c.S q).dim with
    |none=>exact(hdm hdd).elim
    |some d=>
     obtain⟨n,_,h2⟩:=hd d hdd;rcases h2 with⟨h2,_⟩|⟨b',cp,yb,h2,h3,_⟩
     .rw[h2]at hb;cases hb
     .rw[h2]at hb;injection hb with hb
      subst hb;exact h3
  case part q lo n=>
   refine blkcase q rfl λb hb hdm=> ?_
   cases hx with
   |part hk ho hd=>
    cases hdd:(cc c.S q).dim with
    |none=>exact(hdm hdd).elim
    |some d=>
     rcases hd d hdd with⟨h2,_⟩|⟨b',cp,yb,h2,h3,_⟩
     .rw[h2]at hb;cases hb
     .rw[h2]at hb;injection hb with hb
      subst hb;exact h3
  case pin s x o=>
   refine novalue λb hb=> ?_
   generalize ea.ev (aZ4 op)=xa at*;cases hx with
   |pin hn hy hl hf=>
    injection hb with hb
    subst hb;exact⟨_,hy,hn⟩
  case lst s l=>
   generalize hxa:ea.ev (aZ4 op)=xa at*;cases hx with
   |lstn hq=>
    refine⟨hself,λY' hY=> ?_⟩;have:=dn5 hl hxa h;exact this Y'
   |lst hn hy _ _ _ _ _=>
    refine novalue λb hb=> ?_
    injection hb with hb
    subst hb;exact⟨_,hy,hn⟩
  case nils=>
   refine novalue λb hb=> ?_
   generalize ea.ev (aZ4 op)=xa at*;cases hx;cases hb
 cases op<;>first|(cases hl;done)|exact key
theorem be7 {T:Ab.ja}{op:AOp}{e:ey}{Y:Hp}(hs:op.still=Za){k:Value->Hp->Prop}:(match op.run e Y with
  |some (v,Y')=>k v Y'
  |none=>False)=di T op e Y k:=by
 cases op<;>first|(cases hs;done)|rfl
theorem dd0 {it:SItem}{c:Ctx}{e:gf}{ea:ey}{chk:Chk}{ach:List (Nat×(Hp->Prop))}{k:Chk->gf->ci->Option β}(hR:gw c)(he:cn c e ea)(hc:ChkRel c ach chk)(h:bC1 tab it chk e c.S k=C y){Q:List (Nat×(Hp->Prop))->ey->Hp->Prop}
  (hQ: ∀c' ach' chk' e' ea',Le c c'->gw c'->ChkRel c' ach' chk'->cn c' e' ea'->k chk' e' c'.S=C y->Q ach' ea' c'.Y):
  if it.mover then di (jv tab) it.o.op ea c.Y (λv Y'=>aw4 it.chks Y' ach/\Q ach (ea.putO it.o.dst v) Y')
  else match it.o.op.run ea c.Y with
   |some (v,_)=>Q (if it.keep then(it.idx,λY'=>it.o.op.run ea Y'=C (v,Y'))::ach else ach) (ea.putO it.o.dst v) c.Y
   |none=>False:=by
 unfold bC1 at h;cases hm:it.mover with
 |true=>
  rw[hm,yB]at h;rw[xB rfl];obtain⟨h1,h2⟩:=co h;refine ve (ed tab) (λv Y' hv=> ?_) (bv7 hR he h2);obtain⟨vv,c',h3,h4,h5,h6,h7,h8⟩:=hv;subst h3;have hn:=hc.next h4 h6
  exact⟨bq2 hn h1,hQ c' ach _ _ _ h4 h5 hn ((he.frame h4).putO h7) h8⟩
 |false=>
  rw[hm,yD]at h;rw[xD (by decide)];obtain⟨h1,h2⟩:=co h;rw[aD]at h1;have h3:=bv7 hR he h2;rw[<-be7 h1.1]at h3;cases hr:it.o.op.run ea c.Y with
  |none=>rw[hr]at h3;exact h3
  |some p=>
   obtain⟨v,Y1⟩:=p;rw[hr]at h3;obtain⟨vv,c',h4,h5,h6,h7,h8,h9⟩:=h3;simp only
   have hd:bv6 tab it.o.op e c.S=[]:=by
    have:=h1.1;cases hop:it.o.op<;>rw[hop]at this<;>first|(cases this;done)|rfl
   have hn:=hc.next h5 h7
   rw[hd,aD0]at hn;have hY1:Y1=c.Y:=br2 h1.1 hr;rw[<-hY1,<-h4];cases hk:it.keep with
   |false=>
    rw[hk,yD]at h9;rw[xD (by decide)];exact hQ c' ach chk _ _ h5 h6 hn ((he.frame h5).putO h8) h9
   |true=>
    rw[hk,yB]at h9;rw[xB rfl];have hld:it.o.op.isLoad=Za:=by have:=h1.2;rw[hk]at this;simpa using this
    have hkp:=cg7 hR he hld hr;have hn2:=(ChkRel.cons (i:=it.idx) hkp hc).next h5 h7
    rw[hd,aD0]at hn2;exact hQ c' _ _ _ _ h5 h6 hn2 ((he.frame h5).putO h8) h9
end
structure LeV (c c':Ctx):Prop where
 len:c.S.length<=c'.S.length
 al: ∀k d,k<c.S.length->(cc c'.S k).dim=C d->(cc c.S k).dim=C d/\c'.Z k=c.Z k
 ln: ∀k d b y,k<c.S.length->(cc c'.S k).dim=C d->c.Z k=C b->c.Y.m b=C y->∃y',c'.Y.m b=C y'/\y'.cells.length=y.cells.length
 rd: ∀b y,c.Y.m b=C y->¬c.mut b->c'.Y.m b=C y/\¬c'.mut b
theorem SlR.frameV {c c':Ctx}(h:LeV c c'){k lo n:Nat}{d:Nat×Nat}{a:Value}(hk:k<c.S.length)(hd:(cc c'.S k).dim=C d)(hs:SlR c k lo n d a):SlR c' k lo n d a:=by
 obtain⟨h1,h2⟩:=h.al k d hk hd;rcases hs with⟨rfl,rfl,rfl,hm,hz⟩|⟨b,cp,y,rfl,hm,h3,h4,hy,h5⟩
 .exact .inl ⟨rfl,rfl,rfl,h2.trans hm,hz⟩
 .obtain⟨y',hy',hl⟩:=h.ln k d b y hk hd hm hy;exact .inr ⟨b,cp,y',rfl,h2.trans hm,h3,h4,hy',by rw[hl];exact h5⟩
theorem VRel.frameV {c c':Ctx}(h:LeV c c'): ∀{v:VV} {a:Value},VRel c v a->VRel c' v a
 |_,_, .undef a=> .undef a
 |_,_, .bool b=> .bool b
 |_,_, .int k n=> .int k n
 |_,_, .str hs=> .str hs
 |_,_, .nilp=> .nilp
 |_,_, .nils=> .nils
 |_,_, .nilf=> .nilf
 |_,_, .ptr hk h1 hd=> .ptr (bD hk h.len) h1 λd hd'=>by
  obtain⟨h1,h2⟩:=h.al _ d hk hd';obtain⟨b,h3,h4⟩:=hd d h1;exact⟨b,h2.trans h3,h4⟩
 |_,_, .it hk h1 hs hd=> .it (bD hk h.len) h1 hs λd hd'=>by
  obtain⟨h1,h2⟩:=h.al _ d hk hd';obtain⟨b,h3,h4⟩:=hd d h1;exact⟨b,h2.trans h3,h4⟩
 |_,_, .bld hk h1 hd=> .bld (bD hk h.len) h1 λd hd'=>by
  obtain⟨h1,h2⟩:=h.al _ d hk hd';obtain⟨b,h3,h4⟩:=hd d h1;exact⟨b,h2.trans h3,h4⟩
 |_,_, .pix hk h1 hi hd=> .pix (bD hk h.len) h1 hi λd hd'=>by
  obtain⟨h1,h2⟩:=h.al _ d hk hd';obtain⟨b,h3,h4⟩:=hd d h1;exact⟨b,h2.trans h3,h4⟩
 |_,_, .pel hk h1 hd=> .pel (bD hk h.len) h1 λd hd'=>by
  obtain⟨h1,h2⟩:=h.al _ d hk hd';obtain⟨b,h3,h4⟩:=hd d h1;exact⟨b,h2.trans h3,h4⟩
 |_,_, .pin hn hy hl hf=> .pin (h.rd _ _ hy hn).2 (h.rd _ _ hy hn).1 hl (go hf)
 |_,_, .lstn hq=> .lstn hq
 |_,_, .tgtn hq=> .tgtn hq
 |_,_, .tgt hn hy he h3 hf=> .tgt (h.rd _ _ hy hn).2 (h.rd _ _ hy hn).1 he h3 (go hf)
 |_,_, .lst hn hy he h1 h2 h3 hf=> .lst (h.rd _ _ hy hn).2 (h.rd _ _ hy hn).1 he h1 h2 h3 (go hf)
 |_,_, .full hk h1 hd=> .full (bD hk h.len) h1 λd hd'=>by
  obtain⟨h1,h2⟩:=h.al _ d hk hd';obtain⟨n,h3,h4⟩:=hd d h1;exact⟨n,h3,h4.frameV h hk hd'⟩
 |_,_, .part hk h1 hd=> .part (bD hk h.len) h1 λd hd'=>by
  obtain⟨h1,h2⟩:=h.al _ d hk hd';exact(hd d h1).frameV h hk hd'
 |_,_, .fn h1 h2=> .fn (go h1) (go h2)
 |_,_, .agg h1=> .agg (go h1)
 |_,_, .tup h1=> .tup (go h1)
where
 go: ∀{l:List VV} {m:List Value},F2 (VRel c) l m->F2 (VRel c') l m
  |_,_, .nil=> .nil
  |_,_, .cons h1 h2=> .cons (VRel.frameV h h1) (go h2)
theorem VRel.framesV {c c':Ctx}(h:LeV c c'){l:List VV}{m:List Value}(hf:F2 (VRel c) l m):F2 (VRel c') l m:=hf.imp λ_ _ hv=>hv.frameV h
theorem cn.frameV {c c':Ctx}{e:gf}{ea:ey}(h:cn c e ea)(hl:LeV c c'):cn c' e ea:=λt=>(h t).frameV hl
def aa3 (op:AOp)(ea:ey)(x:Ab.Blk)(vf:Nat->Value):Prop:= ∀Y:Hp,op.run ea Y=C (vf Y.n,Y.add x)
theorem aa3.unique {op:AOp}{ea:ey}{x x':Ab.Blk}{vf vf':Nat->Value}(h:aa3 op ea x vf)(h':aa3 op ea x' vf'):x=x'/\vf=vf':=by
 have key: ∀n,vf n=vf' n/\x=x':=by
  intro n;have h1:=h ⟨λ_=>O,n⟩;rw[h' ⟨λ_=>O,n⟩]at h1;injection h1 with h1
  injection h1 with h1 h2
  refine⟨h1.symm, ?_⟩;have h3:=congrArg (λs:Hp=>s.m n) h2;simp only[Hp.add,if_true]at h3;injection h3 with h3
  exact h3.symm
 exact⟨(key 0).2,funext λn=>(key n).1⟩
theorem cv6 {ea ea':ey}{x:Operand}(h: ∀t∈cH6 x,ea' t=ea t):ea'.ev x=ea.ev x:=by
 cases x with
 |tmp t=>exact h t (by simp[cH6])
 |_=>rfl
theorem aa3.same {op:AOp}{ea ea':ey}{x:Ab.Blk}{vf:Nat->Value}(h:aa3 op ea x vf)(hf:aB5 op=Za)(he: ∀t∈aH1 op,ea' t=ea t):aa3 op ea' x vf:=by
 intro Y;have h1:=h Y;cases op<;>first|(cases hf;done)|skip
 case alloc es z=>exact h1
 case makeSlice es bytes z l m=>
  have e1:ea'.ev l=ea.ev l:=cv6 λt ht=>he t (by simp[aH1,ht])
  have e2:ea'.ev m=ea.ev m:=cv6 λt ht=>he t (by simp[aH1,ht])
  simp only[AOp.run]at h1⊢;rw[e1,e2];exact h1
 case buildSlice es ln z ps=>
  have e1:(ps.map λ(o,s,x)=>(o,s,ea'.ev x))=ps.map λ(o,s,x)=>(o,s,ea.ev x):=by
   apply fB;rintro⟨o,s,x⟩ hx;simp only;rw[cv6 λt ht=>he t (List.mem_flatMap.2 ⟨_,hx,ht⟩)]
  simp only[AOp.run]at h1⊢;rw[e1];exact h1
theorem bY7 {c c':Ctx}: ∀{l:List VV} {m:List Value},l.all cZ8=Za->F2 (VRel c) l m->F2 (VRel c') l m
 |_,_,_, .nil=> .nil
 |v::l,_,h, .cons h1 h2=>by
  rw[List.all_cons,aD]at h;refine .cons ?_ (bY7 h.2 h2);cases h1<;>first|(cases h.1;done)|skip
  .exact .bool _
  .exact .int _ _
  .exact .str (by assumption)
structure FreshFact (op:AOp)(ea:ey)(blk:Blk)(w:Bool)(x:Ab.Blk)(vf:Nat->Value):Prop where
 run:aa3 op ea x vf
 fz:blk.frozen=Zb
 dm: ∃dm cs rest,blk.dim=C dm/\1<=dm.1/\x.es=dm.1/\x.own=Za/\x.cells=cs++rest/\∀c':Ctx,F2 (VRel c') blk.vals cs
 vv: ∀(c':Ctx) (k b:Nat),k<c'.S.length->cc c'.S k=blk->c'.Z k=C b->c'.Y.m b=C x->VRel c' (vvF w k) (vf b)
theorem bp1 {β:Type}{c:Ctx}{e:gf}{ea:ey}{op:AOp}{k:Blk->Bool->Option β}{y:β}(he:cn c e ea)(h:aT1 op e k=C y):aB5 op=Za/\∃blk w x vf,k blk w=C y/\FreshFact op ea blk w x vf:=by
 cases op<;>simp only[aT1]at h<;>first|(cases h;done)|skip
 case alloc es z=>
  obtain⟨h1,h2⟩:=co h;have h1:=dD h1;refine⟨rfl,_,_,⟨z,Za,es⟩,λn=> .pointer (C ⟨n,0,O⟩),h2,⟨λY=>rfl,(av7 es z).2.1,⟨(es,z.length),z,[],(av7 es z).1,h1,rfl,rfl,by simp,λc'=>(av7 es z).2.2 c'⟩,λc' k b hk hs hm hy=> ?_⟩⟩;refine .ptr hk rfl λd hd=>⟨b,hm,rfl⟩
 case makeSlice es bytes z l m=>
  have hl:=dk he l;have hm:=dk he m;split at h
  .rename_i k1 a k2 b s h1 h2 hs;rw[h1]at hl;rw[h2]at hm;obtain⟨hg,hk⟩:=co h;simp only[aD]at hg;obtain⟨⟨⟨⟨g1,g2⟩,g3⟩,g4⟩,g5⟩:=hg;have g1:=bB g1;have g2:=of_decide_eq_true g2;have g3:=of_decide_eq_true g3;have g4:=of_decide_eq_true g4;have g5:=dD g5;have hz: ∀c':Ctx,F2 (VRel c') (gk s (ai2 s)) z:=λc'=>aN1 (c:=c') hs
   have hzl:z.length=s.w:=by rw[<-(hz c).length,gp]
   have hb:b<=bytes*b:=by
    have:(1:Int)*b<=bytes*b:=Int.mul_le_mul_of_nonneg_right (by omega) (by omega);omega
   refine⟨rfl,_,_,⟨gv z b.toNat,Za,es⟩,λn=> .slice (C ⟨n,0,O⟩) a.toNat b.toNat,hk,⟨λY=> ?_,rfl,⟨(s.w,(List.replicate a.toNat (ai2 s)).length*s.w),gv z a.toNat,gv z (b.toNat-a.toNat),rfl,uy s,g1,rfl, ?_,λc'=> ?_⟩,λc' k q hk hs' hm' hy=> ?_⟩⟩
   .simp only[AOp.run,hl.int_inv,hm.int_inv];rw[xB ⟨g2,g3,by omega,by omega⟩]
   .show gv z b.toNat=_;rw[<-cl3]
    congr 1
    omega
   .show F2 (VRel c') (io s (List.replicate a.toNat (ai2 s))) (gv z a.toNat);rw[aa5];generalize a.toNat=n;induction n with
    |zero=>exact .nil
    |succ n ih=>
     simp only[gv,List.replicate_succ,List.flatten_cons]at ih⊢;exact(hz c').append ih
   .refine .full hk rfl λd hd=> ?_
    rw[hs']at hd;injection hd with hd
    subst hd;refine⟨a.toNat,by simp, .inr ⟨q,b.toNat,_,by simp,hm',by simp,by omega,hy, ?_⟩⟩;rw[Nat.zero_add];show b.toNat*s.w<=(gv z b.toNat).length;rw[cl4,hzl];exact eD _
  .cases h
 case buildSlice es ln z ps=>
  split at h
  .rename_i cs hf;obtain⟨h1,h2⟩:=co h;simp only[aD]at h1;obtain⟨⟨⟨⟨g1,g2⟩,g3⟩,g4⟩,g5⟩:=h1;have g2:=bB g2;have g3:=dD g3;obtain⟨ra,h3,h4⟩:=aw1 he ps hf (bF0 ln z);refine⟨g5,_,_,⟨ra,Za,es⟩,λn=> .slice (C ⟨n,0,O⟩) ln ln,h2,⟨λY=> ?_,rfl,⟨(es,cs.length),ra,[],rfl,g3,rfl,rfl,by simp,λc'=>bY7 g4 h4⟩,λc' k q hk hs' hm' hy=> ?_⟩⟩
   .simp only[AOp.run,h3];rw[xB (qe h4 g1)]
   .refine .full hk rfl λd hd=> ?_
    rw[hs']at hd;injection hd with hd
    subst hd;refine⟨ln,g2, .inr ⟨q,ln,_,by simp,hm',by simp[g2],eD _,hy, ?_⟩⟩;rw[Nat.zero_add];show ln*es<=ra.length;rw[<-h4.length];exact Nat.le_of_eq g2
  .cases h
theorem xz {i q:Nat}: ∀{l:List Nat},l.Nodup->(q∈bm7 i l↔q∈l/\q≠i)
 |[],_=>by simp[bm7]
 |a::r,h=>by
  obtain⟨h1,h2⟩:=List.nodup_cons.1 h;simp only[bm7];cases hb:aB a i with
  |true=>
   have:=bB hb;subst this;rw[yB];constructor
   .intro hq;exact⟨cB _ hq,λe=>h1 (e▸hq)⟩
   .rintro⟨hq,hn⟩;rcases List.mem_cons.1 hq with rfl|hq
    .exact(hn rfl).elim
    .exact hq
  |false=>
   have hne:a≠i:=λe=>by subst e;rw[dB]at hb;cases hb
   rw[yD,List.mem_cons,List.mem_cons,xz h2];constructor
   .rintro(rfl|⟨h3,h4⟩)
    .exact⟨.inl rfl,hne⟩
    .exact⟨.inr h3,h4⟩
   .rintro⟨rfl|h3,h4⟩
    .exact .inl rfl
    .exact .inr ⟨h3,h4⟩
theorem bH3 {i:Nat}: ∀{l:List Nat},l.Nodup->(bm7 i l).Nodup
 |[],h=>h
 |a::r,h=>by
  obtain⟨h1,h2⟩:=List.nodup_cons.1 h;simp only[bm7];cases hb:aB a i with
  |true=>exact h2
  |false=>
   rw[yD,List.nodup_cons];exact⟨λhq=>h1 ((xz h2).1 hq).1,bH3 h2⟩
section
variable {tab:Tab} {ops:List (AOper×List Nat)}
structure InvL (ops:List (AOper×List Nat))(c0 c:Ctx)(e:gf)(ea:ey)(ach:List (Nat×(Hp->Prop)))(chk:Chk)(P ls nd:List Nat)(r:List LItem)(pd:Nat->Nat):Prop where
 le:Le c0 ⟨c.Z,c.S,c.Y,c0.fb⟩
 R:gw c
 E:cn c e ea
 K:ChkRel c ach chk
 ks:ach.map (·.1)=ls
 nd:ta nd chk=Za
 fb: ∀b,c.fb b↔(c0.fb b∨∃q∈P,pd q=b)
 nod:P.Nodup
 inj: ∀q q',q∈P->q'∈P->pd q=pd q'->q=q'
 new: ∀q∈P,c0.Y.n<=pd q
 pend: ∀q∈P,aB5 (fj ops q).op=Za/\∃x vf,aa3 (fj ops q).op ea x vf/\c.Y.m (pd q)=C x/\∀t,(fj ops q).dst=C t->ea t=vf (pd q)
 und: ∀it∈r,aB it.kind 2=Za->∀t,(fj ops it.i).dst=C t->tq e t= .undef
 ds:ch7 ops r=Za
theorem bn7.frameV {c c':Ctx}{p:Hp->Prop}(hR:gw c)(hl:LeV c c')(hS: ∀q,q<c.S.length->cc c'.S q=cc c.S q)(hmu: ∀q,q<c.S.length->c'.Z q=c.Z q)(hY: ∀b y,c.Y.m b=C y->c'.Y.m b=C y): ∀{s:Option (Option Nat)},bn7 c p s->bn7 c' p s
 |none,_=>trivial
 |some O,h=>by
  refine⟨h.2 _ λb y hy _=>hY b y hy,λY' hY'=>h.2 Y' λb y hy hn=> ?_⟩;obtain⟨h1,h2⟩:=hl.rd b y hy hn;exact hY' b y h1 h2
 |some (C q),h=>by
  obtain⟨h1,h2,h3⟩:=h;have hq:=ud h1
  have hb: ∀b,c.Z q=C b->c'.Y.m b=c.Y.m b:=by
   intro b hb;cases hd:(cc c.S q).dim with
   |none=>exact(h1 hd).elim
   |some d=>
    obtain⟨_,h4⟩:=hR.blk q d hd;rcases h4 with⟨_,h4⟩|⟨b',y,cs,rest,h4,h5,_⟩
    .rw[hb]at h4;cases h4
    .rw[hb]at h4;injection h4 with h4
     subst h4;rw[h5];exact hY _ _ h5
  exact⟨by rw[hS q hq];exact h1,h3 _ hb,λY' hs=>h3 Y' λb hb'=>(hs b (by rw[hmu q hq];exact hb')).trans (hb b hb')⟩
theorem ChkRel.frameV {c c':Ctx}(hR:gw c)(hl:LeV c c')(hS: ∀q,q<c.S.length->cc c'.S q=cc c.S q)(hmu: ∀q,q<c.S.length->c'.Z q=c.Z q)(hY: ∀b y,c.Y.m b=C y->c'.Y.m b=C y): ∀{l:List (Nat×(Hp->Prop))} {m:Chk},ChkRel c l m->ChkRel c' l m
 |_,_, .nil=> .nil
 |_,_, .cons h1 h2=> .cons (h1.frameV hR hl hS hmu hY) (h2.frameV hR hl hS hmu hY)
theorem aB6 {c:Ctx}{m:Nat}{is:List Nat}: ∀{l:List (Nat×(Hp->Prop))} {chk:Chk},ChkRel c l chk->ta is chk=Za->(∀i∈l.map (·.1),ar3 ops i m=Za∨tx i is=Za)->aV9 ops m c.Y l
 |_,_, .nil,_,_=>trivial
 |_,_, .cons (i:=i) (s:=s) h1 h2,h,hb=>by
  simp only[ta]at h;simp only[aV9];have hrest:ta is _=Za->aV9 ops m c.Y _:=λh3=>aB6 h2 h3 λj hj=>hb j (by simp only[List.map_cons];exact cB _ hj)
  cases hbf:ar3 ops i m with
  |true=>
   rw[xB rfl];cases hm:tx i is with
   |false=>rw[hm,yD]at h;exact hrest h
   |true=>
    rw[hm,yB]at h;cases s with
    |none=>cases h
    |some s=>exact hrest h
  |false=>
   rw[xD (by decide)];rcases hb i (by simp)with h3|h3
   .rw[hbf]at h3;cases h3
   .rw[h3,yB]at h;cases s with
    |none=>cases h
    |some s=>exact⟨h1.now,hrest h⟩
theorem cX5 {β:Type}{c0 c:Ctx}{e:gf}{ea:ey}{ach:List (Nat×(Hp->Prop))}{chk:Chk}{P ls nd:List Nat}{it:LItem}{r:List LItem}{pd:Nat->Nat}{k:gf->ci->Option β}{y:β}(h0:gw c0)
  (hI:InvL ops c0 c e ea ach chk P ls nd (it::r) pd) (hk:aB it.kind 2=Za) (hP:it.i∈P) (h:evL tab ops (it::r) chk e c.S k=C y):
  ∃c' e',c'.Y=c.Y/\InvL ops c0 c' e' ea ach chk (bm7 it.i P) ls nd r pd/\evL tab ops r chk e' c'.S k=C y:=by
 have hk3:aB it.kind 3=Zb:=by rw[bB hk];rfl
 simp only[evL,hk,hk3,yB,yD]at h;obtain⟨hfb,blk,w,x',vf',h1,h2⟩:=bp1 hI.E h;obtain⟨_,x,vf,h3,h4,h5⟩:=hI.pend _ hP;obtain⟨ex,ef⟩:=h2.run.unique h3;subst ex;subst ef;obtain⟨dm,cs,rest,d1,d2,d3,d4,d5,d6⟩:=h2.dm;have hlen:(c.S++[blk]).length=c.S.length+1:=by simp
 have hds:=hI.ds;simp only[ch7,aD]at hds
 let b:=pd it.i
 let c':Ctx:=⟨λq=>if q=c.S.length then C b else c.Z q,c.S++[blk],c.Y,λq=>c0.fb q∨∃j∈bm7 it.i P,pd j=q⟩
 have hfbb:c.fb b:=(hI.fb b).2 (.inr ⟨it.i,hP,rfl⟩);have hS: ∀q,q<c.S.length->cc c'.S q=cc c.S q:=λq hq=>uv hq
 have hmu: ∀q,q<c.S.length->c'.Z q=c.Z q:=λq hq=>xD (Nat.ne_of_lt hq)
 have hnewS:cc c'.S c.S.length=blk:=cK6;have hnewmu:c'.Z c.S.length=C b:=xB rfl
 have hfb': ∀q,c'.fb q->c.fb q:=by
  rintro q (hq|⟨j,hj,rfl⟩)
  .exact(hI.fb q).2 (.inl hq)
  .exact(hI.fb _).2 (.inr ⟨j,((xz hI.nod).1 hj).1,rfl⟩)
 have hbnot: ¬c'.fb b:=by
  rintro(hq|⟨j,hj,hjb⟩)
  .have:=h0.fbl _ hq;have:=hI.new _ hP;omega
  .obtain⟨hj1,hj2⟩:=(xz hI.nod).1 hj;exact hj2 (hI.inj _ _ hj1 hP hjb)
 have hown: ∀q,c'.own q->c.own q∨q=b:=by
  rintro q ⟨j,hj1,hj2⟩;by_cases hj:j<c.S.length
  .rw[hS j hj]at hj1;rw[hmu j hj]at hj2;exact .inl ⟨j,hj1,hj2⟩
  .by_cases hj3:j=c.S.length
   .subst hj3;rw[hnewmu]at hj2;injection hj2 with hj2
    exact .inr hj2.symm
   .rw[ap7 (by show c'.S.length<=j;rw[hlen];omega)]at hj1;cases hj1
 have hV:LeV c c':=by
  refine⟨by rw[hlen];omega,λq d hq hd=> ?_,λq d b' y' hq hd hm hy=>⟨y',hy,rfl⟩,λb' y' hy hn=>⟨hy,λhm=> ?_⟩⟩
  .rw[hS q hq]at hd;exact⟨hd,hmu q hq⟩
  .rcases hm with hm|hm
   .rcases hown b' hm with hm|hm
    .exact hn (.inl hm)
    .subst hm;exact hn (.inr hfbb)
   .exact hn (.inr (hfb' _ hm))
 have hR':gw c':=by
  refine⟨hI.R.ok,λq q' b' hq hq' hm hm'=> ?_,λq d hd=> ?_,λq b' hd hm=> ?_,λb' hb'=>hI.R.fbl _ (hfb' _ hb')⟩
  .have cases3: ∀j,(cc c'.S j).dim≠O->j<c.S.length∨j=c.S.length:=by
    intro j hj;have:=ud hj;rw[hlen]at this;omega
   rcases cases3 q (tn hq)with h6|h6
   .rcases cases3 q' hq' with h7|h7
    .rw[hS q h6]at hq;rw[hS q' h7]at hq';rw[hmu q h6]at hm;rw[hmu q' h7]at hm';exact hI.R.inj q q' b' hq hq' hm hm'
    .subst h7;rw[hnewmu]at hm';injection hm' with hm'
     subst hm';rw[hmu q h6]at hm;rw[hS q h6]at hq;exact(hI.R.fbk q _ (tn hq) hm hfbb).elim
   .rcases cases3 q' hq' with h7|h7
    .subst h6;rw[hnewmu]at hm;injection hm with hm
     subst hm;rw[hmu q' h7]at hm';rw[hS q' h7]at hq';exact(hI.R.fbk q' _ hq' hm' hfbb).elim
    .rw[h6,h7]
  .by_cases hq:q<c.S.length
   .rw[hS q hq]at hd⊢;obtain⟨h6,h7⟩:=hI.R.blk q d hd;refine⟨h6, ?_⟩;rcases h7 with⟨h7,h8⟩|⟨b',y',cs',rest',h7,h8,h9,h10,h11,h12⟩
    .exact .inl ⟨h7,by rw[hmu q hq];exact h8⟩
    .exact .inr ⟨b',y',cs',rest',by rw[hmu q hq];exact h7,h8,h9,h10,h11,VRel.framesV hV h12⟩
   .by_cases hq2:q=c.S.length
    .subst hq2;rw[hnewS]at hd⊢;rw[d1]at hd;injection hd with hd
     subst hd;exact⟨d2, .inr ⟨b,x',cs,rest,hnewmu,h4,d3,λ_=>d4,d5,d6 c'⟩⟩
    .rw[ap7 (by show c'.S.length<=q;rw[hlen];omega)]at hd;cases hd
  .by_cases hq:q<c.S.length
   .rw[hS q hq]at hd;rw[hmu q hq]at hm;exact λhf=>hI.R.fbk q b' hd hm (hfb' _ hf)
   .have:=ud hd;rw[hlen]at this;have hq2:q=c.S.length:=by omega
    subst hq2;rw[hnewmu]at hm;injection hm with hm
    subst hm;exact hbnot
 have hvv:VRel c' (vvF w c.S.length) (vf' b):=h2.vv c' c.S.length b (by rw[hlen];omega) hnewS hnewmu h4
 have hE':cn c' (putO e (fj ops it.i).dst (vvF w c.S.length)) ea:=by
  have hE:=hI.E.frameV hV;cases hd:(fj ops it.i).dst with
  |none=>exact hE
  |some t=>
   intro t';show VRel c' (tq (ya e t _) t') (ea t');rw[ap0];by_cases ht:t'=t
   .subst ht;rw[xB rfl,h5 _ hd];exact hvv
   .rw[xD ht];exact hE t'
 refine⟨c',_,rfl,⟨?_,hR',hE',hI.K.frameV hI.R hV hS hmu (λ_ _ hy=>hy),hI.ks,hI.nd,λq=>Iff.rfl,bH3 hI.nod,λq q' hq hq'=>hI.inj q q' ((xz hI.nod).1 hq).1 ((xz hI.nod).1 hq').1,λq hq=>hI.new q ((xz hI.nod).1 hq).1,λq hq=>hI.pend q ((xz hI.nod).1 hq).1, ?_,hds.2⟩,h1⟩
 .have hle:=hI.le;refine⟨Nat.le_trans hle.len (by show c.S.length<=c'.S.length;rw[hlen];omega),λq d hq hd=> ?_,λq hf hd=> ?_,λq d b' y' hq hd hm hy=> ?_,λb' y' hy hn=>hle.un b' y' hy hn,λb' y' hy hn ho=> ?_,hle.n,rfl⟩
  .have hq':q<c.S.length:=bD hq hle.len;have:=hS q hq';rw[show(⟨c'.Z,c'.S,c'.Y,c0.fb⟩:Ctx).S=c'.S from rfl,this]at hd;obtain⟨h6,h7⟩:=hle.al q d hq hd;exact⟨h6,(hmu q hq').trans h7⟩
  .have hq':q<c.S.length:=bD (ud hd) hle.len;exact(hS q hq').trans (hle.fz q hf hd)
  .have hq':q<c.S.length:=bD hq hle.len;have:=hS q hq';rw[show(⟨c'.Z,c'.S,c'.Y,c0.fb⟩:Ctx).S=c'.S from rfl,this]at hd;exact hle.ln q d b' y' hq hd hm hy
  .have ho':c'.own b':=ho;rcases hown b' ho' with ho2|ho2
   .exact hle.ow b' y' hy hn ho2
   .subst ho2;have:=h0.ok _ _ hy;have:=hI.new _ hP;omega
 .intro it' hit' hk' t ht;have hu:=hI.und it' (cB _ hit') hk' t ht;cases hd:(fj ops it.i).dst with
  |none=>exact hu
  |some t'=>
   show tq (ya e t' _) t=_;rw[ap0];by_cases htt:t=t'
   .subst htt;have:=List.all_eq_true.1 hds.1 it' hit';rw[hk,hk']at this;simp only[Bool.not_true,Bool.false_or,neO,hd,ht,dB]at this;cases this
   .rw[xD htt];exact hu
theorem cI1 {β:Type}{c0 c:Ctx}{e:gf}{ea:ey}{ach:List (Nat×(Hp->Prop))}{chk:Chk}{P ls nd:List Nat}{it:LItem}{r:List LItem}{pd:Nat->Nat}{k:gf->ci->Option β}{y:β}
  (hI:InvL ops c0 c e ea ach chk P ls nd (it::r) pd) (hk:aB it.kind 3=Za) (h:evL tab ops (it::r) chk e c.S k=C y):
  InvL ops c0 c e ea ach chk P ls nd r pd/\evL tab ops r chk e c.S k=C y:=by
 simp only[evL,hk,yB]at h;obtain⟨_,_,_,_,_,h1,_⟩:=bp1 hI.E h;have hds:=hI.ds;simp only[ch7,aD]at hds;exact⟨⟨hI.le,hI.R,hI.E,hI.K,hI.ks,hI.nd,hI.fb,hI.nod,hI.inj,hI.new,hI.pend,λj hj hk t ht=>hI.und j (cB _ hj) hk t ht,hds.2⟩,h1⟩
theorem bz0 {β:Type}{c0:Ctx}{ea:ey}{ach:List (Nat×(Hp->Prop))}{chk:Chk}{ls nd:List Nat}{pd:Nat->Nat}{k:gf->ci->Option β}{y:β}{i:Nat}(h0:gw c0): ∀(r:List LItem) {P P':List Nat} {it:LItem} {r':List LItem} {c:Ctx} {e:gf},aU6 r P i=C (P',it,r')->
  InvL ops c0 c e ea ach chk P ls nd r pd->evL tab ops r chk e c.S k=C y->
  ∃c' e',c'.Y=c.Y/\InvL ops c0 c' e' ea ach chk P' ls nd (it::r') pd/\evL tab ops (it::r') chk e' c'.S k=C y/\aB it.kind 2=Zb/\it.i=i/\∀q∈P',q∈P
 |[],P,P',it,r',c,e,h,_,_=>by cases h
 |a::r,P,P',it,r',c,e,h,hI,hv=>by
  simp only[aU6]at h;cases hk3:aB a.kind 3 with
  |true=>
   rw[hk3,yB]at h;obtain⟨h1,h2⟩:=cI1 hI hk3 hv;exact bz0 h0 r h h1 h2
  |false=>
  rw[hk3,yD]at h;cases hk:aB a.kind 2 with
  |false=>
   rw[hk,yD]at h;cases hi:aB a.i i with
   |false=>rw[hi]at h;cases h
   |true=>
    rw[hi,yB]at h;injection h with h
    injection h with h1 h
    injection h with h2 h3
    subst h1;subst h2;subst h3;exact⟨c,e,rfl,hI,hv,hk,bB hi,λq hq=>hq⟩
  |true=>
   rw[hk,yB]at h;cases hm:tx a.i P with
   |false=>rw[hm]at h;cases h
   |true=>
    rw[hm,yB]at h;obtain⟨c1,e1,h1,h2,h3⟩:=cX5 h0 hI hk (qi.1 hm) hv;obtain⟨c2,e2,h4,h5,h6,h7,h8,h9⟩:=bz0 h0 r h h2 h3;exact⟨c2,e2,h4.trans h1,h5,h6,h7,h8,λq hq=>((xz hI.nod).1 (h9 q hq)).1⟩
theorem cv7 {β:Type}{c0:Ctx}{ea:ey}{ach:List (Nat×(Hp->Prop))}{chk:Chk}{ls nd:List Nat}{pd:Nat->Nat}{k:gf->ci->Option β}{y:β}(h0:gw c0): ∀(r:List LItem) {P:List Nat} {c:Ctx} {e:gf},cP9 r P=Za->
  InvL ops c0 c e ea ach chk P ls nd r pd->evL tab ops r chk e c.S k=C y->ac1 c0 k y ea c.Y
 |[],P,c,e,h,hI,hv=>by
  have hP:P=[]:=by
   cases P with
   |nil=>rfl
   |cons a r=>simp[cP9]at h
  subst hP
  have hfb:c.fb=c0.fb:=by
   funext b
   refine propext ((hI.fb b).trans ⟨λh=> ?_, .inl⟩);rcases h with h|⟨q,hq,_⟩
   .exact h
   .cases hq
  refine⟨e,c,rfl, ?_,hI.R,hI.E,hv⟩;have:=hI.le;rw[<-hfb]at this;exact this
 |a::r,P,c,e,h,hI,hv=>by
  simp only[cP9]at h;cases hk3:aB a.kind 3 with
  |true=>
   rw[hk3,yB]at h;obtain⟨h1,h2⟩:=cI1 hI hk3 hv;exact cv7 h0 r h h1 h2
  |false=>
  rw[hk3,yD]at h;simp only[aD]at h;obtain⟨c1,e1,h1,h2,h3⟩:=cX5 h0 hI h.1.1 (qi.1 h.1.2) hv;rw[<-h1];exact cv7 h0 r h.2 h2 h3
theorem bM8 {β:Type}{c:Ctx}{ea:ey}{chk:Chk}{k:gf->ci->Option β}{y:β}{m:Nat}: ∀(r:List LItem) {e e':gf} {S:ci},bU5 ops r m=Za->cn c e ea->(∀t∈aH1 (fj ops m).op,tq e' t=tq e t)->evL tab ops r chk e' S k=C y->∃x vf,aB5 (fj ops m).op=Za/\aa3 (fj ops m).op ea x vf
 |[],e,e',S,h,_,_,_=>by cases h
 |a::r,e,e',S,h,he,hu,hv=>by
  have huse: ∀(vv:VV),bw9 (fj ops a.i).dst (aH1 (fj ops m).op)=Za->∀t∈aH1 (fj ops m).op,tq (putO e' (fj ops a.i).dst vv) t=tq e t:=by
   intro vv h1 t ht;rw[<-hu t ht];cases hd:(fj ops a.i).dst with
   |none=>rfl
   |some t'=>
    show tq (ya e' t' _) t=_;rw[ap0];by_cases htt:t=t'
    .subst htt;rw[hd]at h1;simp only[bw9]at h1;rw[qi.2 ht]at h1;cases h1
    .rw[xD htt]
  have fresh_here: ∀{γ:Type} {k':Blk->Bool->Option γ} {z:γ},aT1 (fj ops m).op e' k'=C z->∃x vf,aB5 (fj ops m).op=Za/\aa3 (fj ops m).op ea x vf:=by
   intro γ k' z hv
   have hv':aT1 (fj ops m).op e k'=C z:=by
    cases hop:(fj ops m).op<;>rw[hop]at hv hu<;>simp only[aT1]at hv<;>first|(cases hv;done)|skip
    case alloc es z=>exact hv
    case makeSlice es bytes z l q=>
     have e1:ev e' l=ev e l:=by
      cases l with
      |tmp t=>exact hu t (by simp[aH1,cH6])
      |_=>rfl
     have e2:ev e' q=ev e q:=by
      cases q with
      |tmp t=>exact hu t (by simp[aH1,cH6])
      |_=>rfl
     rw[e1,e2]at hv;exact hv
    case buildSlice es ln z ps=>
     have e1:aJ8 e' ps=aJ8 e ps:=by
      unfold aJ8;apply fB;rintro⟨o,s,x⟩ hx;simp only
      have:ev e' x=ev e x:=by
       cases x with
       |tmp t=>exact hu t (List.mem_flatMap.2 ⟨_,hx,by simp[cH6]⟩)
       |_=>rfl
      rw[this]
     rw[e1]at hv;exact hv
   obtain⟨hf,blk,w,x,vf,_,h2⟩:=bp1 he hv';exact⟨x,vf,hf,h2.run⟩
  simp only[bU5]at h;cases hk3:aB a.kind 3 with
  |true=>
   rw[hk3,yB,cD]at h;simp only[evL,hk3,yB]at hv;rcases h with h|h
   .rw[bB h]at hv;exact fresh_here hv
   .have hnext:evL tab ops r chk e' S k=C y:=by
     cases hop:(fj ops a.i).op<;>rw[hop]at hv<;>simp only[aT1]at hv<;>first|(cases hv;done)|skip
     case alloc es z=>exact(co hv).2
     case makeSlice es bytes z l q=>
      split at hv
      .exact(co hv).2
      .cases hv
     case buildSlice es ln z ps=>
      split at hv
      .exact(co hv).2
      .cases hv
    exact bM8 r h he hu hnext
  |false=>
  rw[hk3,yD]at h;simp only[cD,aD]at h;rcases h with⟨hk,h⟩|⟨⟨⟨hk,hmv⟩,h1⟩,h2⟩
  .simp only[evL,hk,hk3,yB,yD]at hv;by_cases hi:a.i=m
   .rw[hi]at hv;exact fresh_here hv
   .rcases h with h|⟨h1,h2⟩
    .exact(hi (bB h)).elim
    .have hnext: ∃blk w,evL tab ops r chk (putO e' (fj ops a.i).dst (vvF w S.length)) (S++[blk]) k=C y:=by
      cases hop:(fj ops a.i).op<;>rw[hop]at hv<;>simp only[aT1]at hv<;>first|(cases hv;done)|skip
      case alloc es z=>exact⟨_,_,(co hv).2⟩
      case makeSlice es bytes z l q=>
       split at hv
       .exact⟨_,_,(co hv).2⟩
       .cases hv
      case buildSlice es ln z ps=>
       split at hv
       .exact⟨_,_,(co hv).2⟩
       .cases hv
     obtain⟨blk,w,hv2⟩:=hnext;exact bM8 r h2 he (huse _ h1) hv2
  .have hk2:aB a.kind 2=Zb:=by rw[bB hk];rfl
   have hk1:aB a.kind 1=Zb:=by rw[bB hk];rfl
   simp only[evL,hk2,hk1,hk3,yD]at hv;obtain⟨_,hv⟩:=co hv;cases hop:(fj ops a.i).op<;>rw[hop]at hmv<;>first|(cases hmv;done)|skip
   case move x=>
    rw[hop]at hv;simp only[bT6,AOp.isLoad,yD]at hv;obtain⟨_,hv⟩:=co hv;exact bM8 r h2 he (huse _ h1) hv
theorem cV8 {F:Nat->Prop}: ∀{l:List Nat},(∀m∈l,F m)->ce3 F l
 |[],_=>trivial
 |[m],h=>h m (by simp)
 |m::m'::r,h=>⟨h m (by simp),cV8 λq hq=>h q (cB _ hq)⟩
theorem dz3 {D:List Nat}{i:Nat}(h:mw ops D=C i): ∃p,ops[i]?=C (fj ops i,p)/\(fj ops i).op.still=Za:=by
 unfold mw at h;have h1:=List.find?_some h;simp only[aD]at h1;have h2:=h1.2;unfold aU5 at h2;unfold fj;split at h2
 .rename_i o p ho;rw[ho];exact⟨p,rfl,h2⟩
 .cases h2
theorem dn8 {D:List Nat}{m:Nat}(h:m∈ge ops D): ∃p,ops[m]?=C (fj ops m,p)/\(fj ops m).op.still=Zb:=by
 unfold ge at h;obtain⟨h1,h2⟩:=List.mem_filter.1 h;have h1:=List.mem_range.1 h1;simp only[aD]at h2;have h3:=h2.2;unfold aU5 at h3;unfold fj;rw[List.getElem?_eq_getElem h1]at h3⊢;exact⟨_,rfl,by simpa using h3⟩
theorem cY5 {self:Nat}{ex:Bool}{P:List Nat}{r:List LItem}(h:bm8 ops self ex P r=Za){q:Nat}(hq:q∈P):(∀t,(fj ops self).dst=C t->(fj ops q).dst≠C t)/\∀t,(fj ops self).dst=C t->t∉aH1 (fj ops q).op:=by
 simp only[bm8,aD]at h;have h1:=List.all_eq_true.1 h.1 q hq;rw[aD]at h1;refine⟨λt ht e=> ?_,λt ht hu=> ?_⟩
 .have:=h1.1;rw[ht,e]at this;simp only[neO,dB]at this;cases this
 .have:=h1.2;rw[ht]at this;simp only[bw9]at this;rw[qi.2 hu]at this;cases this
theorem dz9 {self:Nat}{ex:Bool}{P:List Nat}{r:List LItem}(h:bm8 ops self ex P r=Za){it:LItem}(hit:it∈r)(hk:aB it.kind 2=Za)(hne:ex=Za->it.i≠self){t:Nat}(ht:(fj ops self).dst=C t):(fj ops it.i).dst≠C t:=by
 simp only[bm8,aD]at h;have h1:=List.all_eq_true.1 h.2 it hit
 have h2:(ex&&aB it.i self)=Zb:=by
  cases ex with
  |false=>rfl
  |true=>exact Bool.eq_false_iff.2 λe=>hne rfl (bB e)
 rw[hk,h2]at h1;intro e;rw[ht,e]at h1;simp only[Bool.not_true,Bool.false_or,neO,dB]at h1;cases h1
theorem bx8 {ea:ey}{d:Option Nat}{v:Value}{t:Nat}(h: ∀t',d=C t'->t≠t'):(ea.putO d v) t=ea t:=by
 cases d with
 |none=>rfl
 |some t'=>exact xD (h t' rfl)
theorem dq7 {e:gf}{d:Option Nat}{v:VV}{t:Nat}(h: ∀t',d=C t'->t≠t'):tq (putO e d v) t=tq e t:=by
 cases d with
 |none=>rfl
 |some t'=>
  show tq (ya e t' v) t=_;rw[ap0,xD (h t' rfl)]
theorem InvL.on {c0 c c':Ctx}{e:gf}{ea:ey}{ach ach':List (Nat×(Hp->Prop))}{chk chk':Chk}{P ls ls' nd nd':List Nat}{it:LItem}{r:List LItem}{pd:Nat->Nat}{i:Nat}{vv:VV}{v:Value}
  (hI:InvL ops c0 c e ea ach chk P ls nd (it::r) pd) (hd:bm8 ops i Zb P r=Za) (hl:Le c c') (hR:gw c') (hv:VRel c' vv v) (hK:ChkRel c' ach' chk') (hks:ach'.map (·.1)=ls') (hnd:ta nd' chk'=Za):
  InvL ops c0 c' (putO e (fj ops i).dst vv) (ea.putO (fj ops i).dst v) ach' chk' P ls' nd' r pd:=by
 have hds:=hI.ds;simp only[ch7,aD]at hds;refine⟨?_,hR,(hI.E.frame hl).putO hv,hK,hks,hnd,λb=>by rw[hl.fb];exact hI.fb b,hI.nod,hI.inj,hI.new,λq hq=> ?_,λj hj hk t ht=> ?_,hds.2⟩
 .have h1:=hI.le;have h2:Le ⟨c.Z,c.S,c.Y,c0.fb⟩ ⟨c'.Z,c'.S,c'.Y,c0.fb⟩:=⟨hl.len,hl.al,hl.fz,hl.ln,hl.un,hl.ow,hl.n,rfl⟩;exact h1.trans h2
 .obtain⟨hf,x,vf,h1,h2,h3⟩:=hI.pend q hq;obtain⟨k1,k2⟩:=cY5 hd hq;refine⟨hf,x,vf,h1.same hf λt ht=>bx8 λt' ht' e=>k2 t' ht' (e▸ht),hl.un _ _ h2 λho=> ?_,λt ht=> ?_⟩
  .obtain⟨j,hj1,hj2⟩:=ho;exact hI.R.fbk j _ (tn hj1) hj2 ((hI.fb _).2 (.inr ⟨q,hq,rfl⟩))
  .rw[bx8 λt' ht' e=>k1 t' ht' (e▸ht)];exact h3 t ht
 .rw[dq7 λt' ht' e=>dz9 hd hj hk (λh=>by cases h) ht' (e▸ht)];exact hI.und j (cB _ hj) hk t ht
theorem cv5 {β:Type}{c0:Ctx}{k:gf->ci->Option β}{y:β}(h0:gw c0): ∀(f:Nat) {D P ls nd:List Nat} {r:List LItem} {c:Ctx} {e:gf} {ea:ey} {ach:List (Nat×(Hp->Prop))} {chk:Chk} {pd:Nat->Nat},cu9 ops f D P ls nd r=Za->InvL ops c0 c e ea ach chk P ls nd r pd->evL tab ops r chk e c.S k=C y->
  wpD (jv tab) (ac1 c0 k y) ops f D ach ea c.Y
 |0,D,P,ls,nd,r,c,e,ea,ach,chk,pd,h,hI,hv=>cv7 h0 r h hI hv
 |f+1,D,P,ls,nd,r,c,e,ea,ach,chk,pd,h,hI,hv=>by
  simp only[cu9]at h;simp only[wpD];cases hns:mw ops D with
  |some i=>
   rw[hns]at h;simp only[aD]at h⊢;obtain⟨hg,h⟩:=h;obtain⟨p,ho,hst⟩:=dz3 hns;rw[ho]
   have hw:wanted (fj ops i) ea=Za:=by
    unfold wanted;cases hgg:(fj ops i).guard with
    |none=>rfl
    |some q=>rw[hgg]at hg;cases hg
   simp only[hw,if_true];cases hs:aU6 r P i with
   |none=>rw[hs]at h;cases h
   |some q=>
    obtain⟨P',it,r'⟩:=q;rw[hs]at h;simp only[aD]at h;obtain⟨⟨hk0,hd⟩,hc⟩:=h;obtain⟨c1,e1,h1,h2,h3,h4,h5,h6⟩:=bz0 h0 r hs hI hv;subst h5;have hk1:aB it.kind 1=Zb:=by rw[bB hk0];rfl
    have hk3:aB it.kind 3=Zb:=by rw[bB hk0];rfl
    simp only[evL,h4,hk1,hk3,yD]at h3;obtain⟨_,h3⟩:=co h3;have h7:=bv7 h2.R h2.E h3;rw[<-be7 hst,h1]at h7;cases hr:(fj ops it.i).op.run ea c.Y with
    |none=>rw[hr]at h7;exact h7.elim
    |some q=>
     obtain⟨v,Y1⟩:=q;rw[hr]at h7;obtain⟨vv,c2,g1,g2,g3,g4,g5,g6⟩:=h7;simp only
     have hdd:bv6 tab (fj ops it.i).op e1 c1.S=[]:=by
      cases hop:(fj ops it.i).op<;>rw[hop]at hst<;>first|(cases hst;done)|rfl
     have hY1:Y1=c.Y:=br2 hst hr;obtain⟨g7,g8⟩:=co g6;have hn:=h2.K.next g2 g4
     rw[hdd,aD0]at hn
     have hstep: ∀{ach':List (Nat×(Hp->Prop))} {chk':Chk} {ls':List Nat},ChkRel c2 ach' chk'->ach'.map (·.1)=ls'->ta it.need chk'=Za->evL tab ops r' chk' (putO e1 (fj ops it.i).dst vv) c2.S k=C y->cu9 ops f (it.i::D) P' ls' it.need r'=Za->
       wpD (jv tab) (ac1 c0 k y) ops f (it.i::D) ach' (ea.putO (fj ops it.i).dst v) c.Y:=by
      intro ach' chk' ls' q1 q2 q3 q4 q5;have:=cv5 h0 f q5 (h2.on hd g2 g3 g5 q1 q2 q3) q4;rw[g1,hY1]at this;exact this
     cases hld:(fj ops it.i).op.isLoad with
     |false=>
      rw[hld]at g7 g8 hc;rw[xD (by decide)];exact hstep hn h2.ks g7 g8 hc
     |true=>
      rw[hld]at g7 g8 hc;rw[xB rfl];have hkp:=cg7 h2.R h2.E hld (by rw[h1];exact hr);have hn2:=(ChkRel.cons (i:=it.i) hkp h2.K).next g2 g4
      rw[hdd,aD0]at hn2;exact hstep hn2 (by rw[List.map_cons,h2.ks];rfl) g7 g8 hc
  |none=>
   rw[hns]at h;simp only at h⊢
   have each: ∀{ms:List Nat},(∀m∈ms,m∈ge ops D)->(ms.all λm=>(fj ops m).guard.isNone&&cond (aB5 (fj ops m).op)
    (!tx m P&&r.any (λit=>aB it.kind 2&&aB it.i m)&&(cF9 (fj ops m).op||bU5 ops r m)&&bm8 ops m Za P r&&bw9 (fj ops m).dst (aH1 (fj ops m).op)&&ls.all (λi=>ar3 ops i m||tx i nd)&&cu9 ops f (m::D) (m::P) ls nd r)
    (match aU6 r P m with
    |some (P',it,r')=>aB it.kind 1&&bm8 ops m Zb P' r'&&ls.all (λi=>ar3 ops i m||tx i it.chks)&&cu9 ops f (m::D) P' ls it.need r'
    |none=>Zb))=Za->ce3 (λm=>match ops[m]? with
     |some (o,_)=>if wanted o ea then di (jv tab) o.op ea c.Y λv Y'=>aV9 ops m Y' ach/\wpD (jv tab) (ac1 c0 k y) ops f (m::D) ach (ea.putO o.dst v) Y'
      else wpD (jv tab) (ac1 c0 k y) ops f (m::D) ach (ea.putO o.dst undef) c.Y
     |none=>False) ms:=by
    intro ms hms hall;refine cV8 λm hm=> ?_
    have h:=List.all_eq_true.1 hall m hm;simp only[aD]at h;obtain⟨hg,h⟩:=h;obtain⟨p,ho,hst⟩:=dn8 (hms m hm);rw[ho]
    have hw:wanted (fj ops m) ea=Za:=by
     unfold wanted;cases hgg:(fj ops m).guard with
     |none=>rfl
     |some q=>rw[hgg]at hg;cases hg
    simp only[hw,if_true];cases hfr:aB5 (fj ops m).op with
    |false=>
     rw[hfr,yD]at h;cases hs:aU6 r P m with
     |none=>rw[hs]at h;cases h
     |some q=>
      obtain⟨P',it,r'⟩:=q;rw[hs]at h;simp only[aD]at h;obtain⟨⟨⟨hk1,hd⟩,hls⟩,hc⟩:=h;obtain⟨c1,e1,h1,h2,h3,h4,h5,h6⟩:=bz0 h0 r hs hI hv;subst h5;have hk3:aB it.kind 3=Zb:=by rw[bB hk1];rfl
      simp only[evL,h4,hk1,hk3,yD,yB]at h3;have h7:=bv7 h2.R h2.E h3;rw[h1]at h7;refine ve (ed tab) (λv Y' hx=> ?_) h7;obtain⟨vv,c2,g1,g2,g3,g4,g5,g6⟩:=hx;obtain⟨g7,g8⟩:=co g6;rw[aD]at g7;have hn:=h2.K.next g2 g4
      subst g1;refine⟨aB6 hn g7.1 λi hi=> ?_,cv5 h0 f hc (h2.on hd g2 g3 g5 hn h2.ks g7.2) g8⟩;rw[h2.ks]at hi;have:=List.all_eq_true.1 hls i hi;rw[cD]at this;exact this
    |true=>
     rw[hfr,yB]at h;simp only[aD]at h;obtain⟨⟨⟨⟨⟨⟨hnm,hany⟩,hor⟩,hd⟩,hself⟩,hls⟩,hc⟩:=h;have hmP:m∉P:=λe=>by rw[qi.2 e]at hnm;cases hnm
     obtain⟨x,vf,hF⟩: ∃x vf,aa3 (fj ops m).op ea x vf:=by
      rw[cD]at hor;rcases hor with hor|hor
      .cases hop:(fj ops m).op<;>rw[hop]at hor<;>first|(cases hor;done)|skip
       case alloc es z=>exact⟨⟨z,Za,es⟩,λn=> .pointer (C ⟨n,0,O⟩),λY=>rfl⟩
      .obtain⟨x,vf,_,h1⟩:=bM8 r hor hI.E (λt _=>rfl) hv;exact⟨x,vf,h1⟩
     let c':Ctx:=⟨c.Z,c.S,c.Y.add x,λb=>c.fb b∨b=c.Y.n⟩
     have hadd: ∀b y,c.Y.m b=C y->(c.Y.add x).m b=C y:=by
      intro b y hy;have:=hI.R.ok b y hy;simp only[Hp.add];rw[xD (by omega)];exact hy
     have hV:LeV c c':=by
      refine⟨eD _,λq d hq hdm=>⟨hdm,rfl⟩,λq d b y hq hdm hm hy=>⟨y,hadd b y hy,rfl⟩,λb y hy hn=>⟨hadd b y hy,λhm=> ?_⟩⟩;rcases hm with hm|hm|hm
      .exact hn (.inl hm)
      .exact hn (.inr hm)
      .have:=hI.R.ok b y hy;omega
     have hR':gw c':=by
      refine⟨λb y hy=> ?_,hI.R.inj,λq d hdm=> ?_,λq b hdm hm hf=> ?_,λb hb=> ?_⟩
      .simp only[c',Hp.add]at hy⊢;split at hy
       .omega
       .have:=hI.R.ok b y hy;omega
      .obtain⟨h6,h7⟩:=hI.R.blk q d hdm;refine⟨h6, ?_⟩;rcases h7 with h7|⟨b',y',cs',rest',h7,h8,h9,h10,h11,h12⟩
       .exact .inl h7
       .exact .inr ⟨b',y',cs',rest',h7,hadd _ _ h8,h9,h10,h11,VRel.framesV hV h12⟩
      .rcases hf with hf|hf
       .exact hI.R.fbk q b hdm hm hf
       .subst hf;have hdm':(cc c.S q).dim≠O:=hdm;cases hd2:(cc c.S q).dim with
        |none=>exact hdm' hd2
        |some d=>
         obtain⟨_,h7⟩:=hI.R.blk q d hd2;have hm':c.Z q=C c.Y.n:=hm;rcases h7 with⟨_,h7⟩|⟨b',y',cs',rest',h7,h8,_⟩
         .rw[hm']at h7;cases h7
         .rw[hm']at h7;injection h7 with h7
          subst h7;have:=hI.R.ok _ _ h8;omega
      .show b<c.Y.n+1;rcases hb with hb|hb
       .have:=hI.R.fbl b hb;omega
       .omega
     have hK':=hI.K.frameV hI.R hV (λ_ _=>rfl) (λ_ _=>rfl) hadd;refine dq (hF c.Y) ⟨aB6 hK' hI.nd λi hi=> ?_, ?_⟩
     .rw[hI.ks]at hi;have:=List.all_eq_true.1 hls i hi;rw[cD]at this;exact this
     .refine cv5 (c:=c') (pd:=λq=>if q=m then c.Y.n else pd q) h0 f hc ⟨?_,hR', ?_,hK',hI.ks,hI.nd,λb=> ?_,List.nodup_cons.2 ⟨hmP,hI.nod⟩,λq q' hq hq' he=> ?_,λq hq=> ?_,λq hq=> ?_,hI.und,hI.ds⟩ hv
      .have hle:=hI.le;refine⟨hle.len,hle.al,hle.fz,λq d b y hq hdm hm hy=> ?_,λb y hy hn=>hadd _ _ (hle.un b y hy hn),hle.ow,Nat.le_trans hle.n (Nat.le_succ _),rfl⟩;obtain⟨y',q1,q2⟩:=hle.ln q d b y hq hdm hm hy;exact⟨y',hadd _ _ q1,q2⟩
      .have hE:=hI.E.frameV hV;intro t;cases hdst:(fj ops m).dst with
       |none=>exact hE t
       |some t'=>
        show VRel c' (tq e t) (if t=t' then _ else ea t);by_cases htt:t=t'
        .subst htt;rw[xB rfl];obtain⟨it,hit,hit2⟩:=List.any_eq_true.1 hany;rw[aD]at hit2;have hitm:=bB hit2.2;subst hitm;rw[hI.und it hit hit2.1 _ hdst];exact .undef _
        .rw[xD htt];exact hE t
      .constructor
       .rintro(hb|hb)
        .rcases(hI.fb b).1 hb with hb|⟨q,hq,hb⟩
         .exact .inl hb
         .refine .inr ⟨q,cB _ hq, ?_⟩;show(if q=m then c.Y.n else pd q)=b;rw[xD (λe:q=m=>hmP (e▸hq))];exact hb
        .exact .inr ⟨m,List.mem_cons_self,by simp[hb]⟩
       .rintro(hb|⟨q,hq,hb⟩)
        .exact .inl ((hI.fb b).2 (.inl hb))
        .rcases List.mem_cons.1 hq with rfl|hq
         .simp only[if_true]at hb;exact .inr hb.symm
         .have hb:(if q=m then c.Y.n else pd q)=b:=hb;rw[xD (λe:q=m=>hmP (e▸hq))]at hb;exact .inl ((hI.fb b).2 (.inr ⟨q,hq,hb⟩))
      .have hlt: ∀q∈P,pd q<c.Y.n:=λq hq=>hI.R.fbl _ ((hI.fb _).2 (.inr ⟨q,hq,rfl⟩))
       have he:(if q=m then c.Y.n else pd q)=if q'=m then c.Y.n else pd q':=he
       rcases List.mem_cons.1 hq with rfl|hq1
       .rcases List.mem_cons.1 hq' with rfl|hq2
        .rfl
        .rw[xB rfl,xD (λe:q'=q=>hmP (e▸hq2))]at he;have:=hlt _ hq2;omega
       .rw[xD (λe:q=m=>hmP (e▸hq1))]at he;rcases List.mem_cons.1 hq' with rfl|hq2
        .rw[xB rfl]at he;have:=hlt _ hq1;omega
        .rw[xD (λe:q'=m=>hmP (e▸hq2))]at he;exact hI.inj q q' hq1 hq2 he
      .show c0.Y.n<=(if q=m then c.Y.n else pd q);rcases List.mem_cons.1 hq with rfl|hq
       .rw[xB rfl];exact hI.le.n
       .rw[xD (λe:q=m=>hmP (e▸hq))];exact hI.new q hq
      .show aB5 (fj ops q).op=Za/\∃x1 vf1,aa3 (fj ops q).op (ea.putO (fj ops m).dst (vf c.Y.n)) x1 vf1/\c'.Y.m (if q=m then c.Y.n else pd q)=C x1/\∀t,(fj ops q).dst=C t->ea.putO (fj ops m).dst (vf c.Y.n) t=vf1 (if q=m then c.Y.n else pd q)
       rcases List.mem_cons.1 hq with rfl|hq
       .rw[xB rfl];refine⟨hfr,x,vf,hF.same hfr λt ht=>bx8 λt' ht' e=> ?_,xB rfl,λt ht=> ?_⟩
        .subst e;rw[ht']at hself;simp only[bw9]at hself;rw[qi.2 ht]at hself;cases hself
        .rw[ht];exact xB rfl
       .rw[xD (λe:q=m=>hmP (e▸hq))];obtain⟨hf',x',vf',q1,q2,q3⟩:=hI.pend q hq;obtain⟨k1,k2⟩:=cY5 hd hq;refine⟨hf',x',vf',q1.same hf' λt ht=>bx8 λt' ht' e=>k2 t' ht' (e▸ht),hadd _ _ q2,λt ht=> ?_⟩;rw[bx8 λt' ht' e=>k1 t' ht' (e▸ht)];exact q3 t ht
   cases hrm:ge ops D with
   |nil=>rw[hrm]at h;exact cv7 h0 r h hI hv
   |cons a l=>
    rw[hrm]at h;exact each (λm hm=>by rw[hrm];exact hm) h
end
end
section
open Bool renaming and_eq_true -> aB
open List renaming mem_cons_self -> aD, mem_cons_of_mem -> cB, mem_of_getElem? -> cD
open Nat renaming beq -> bB, zero_add -> bD, eq_of_beq_eq_true -> dB
section
variable {tab:Tab}
theorem cI3 {c:Ctx}{e:gf}{ea:ey}{t:Nat}{p:Bool}(he:cn c e ea)(hp:tq e t= .bool p):cn c (ya e t (.bool p)) ea:=by
 have ht:=he t;rw[hp]at ht;have ht:=ht.bool_inv;intro i;rw[ap0];by_cases hi:i=t
 .subst hi;rw[xB rfl,ht];exact .bool _
 .rw[xD hi];exact he i
theorem bp0 {β:Type}{y:β}: ∀{its:List SItem} {c:Ctx} {e:gf} {ea:ey} {chk:Chk} {ach:List (Nat×(Hp->Prop))} {k:gf->ci->Option β},gw c->cn c e ea->ChkRel c ach chk->ah5 tab its chk e c.S k=C y->wpI (jv tab) (ac1 c k y) its ach ea c.Y
 |[],c,e,ea,chk,ach,k,hR,he,hc,h=>⟨e,c,rfl,Le.refl c,hR,he,h⟩
 |it::r,c,e,ea,chk,ach,k,hR,he,hc,h=>by
  have step: ∀e1,cn c e1 ea->bC1 tab it chk e1 c.S (λchk' e' S'=>ah5 tab r chk' e' S' k)=C y->
    (if it.mover then di (jv tab) it.o.op ea c.Y (λv Y'=>aw4 it.chks Y' ach/\wpI (jv tab) (ac1 c k y) r ach (ea.putO it.o.dst v) Y')
    else match it.o.op.run ea c.Y with
     |some (v,_)=>wpI (jv tab) (ac1 c k y) r (if it.keep then(it.idx,λY'=>it.o.op.run ea Y'=C (v,Y'))::ach else ach) (ea.putO it.o.dst v) c.Y
     |none=>False):=by
   intro e1 he1 h1;refine dd0 (Q:=λach' ea' Y'=>wpI (jv tab) (ac1 c k y) r ach' ea' Y') hR he1 hc h1 λc' ach' chk' e' ea' h2 h3 h4 h5 h6=> ?_
   exact bg3 (ed tab) (λea'' Y'' hp=>hp.of h2) _ _ _ _ (bp0 h3 h5 h4 h6)
  have skip: ∀e1,cn c e1 ea->ah5 tab r chk (putO e1 it.o.dst (.tup [])) c.S k=C y->wpI (jv tab) (ac1 c k y) r ach (ea.putO it.o.dst undef) c.Y:=λe1 he1 h1=>bp0 hR (he1.putO (.tup .nil)) hc h1
  simp only[ah5]at h;simp only[wpI];split at h
  .rename_i hg;have:wanted it.o ea=Za:=by simp only[wanted,hg]
   rw[xB this];exact step e he h
  .rename_i t w hg;split at h
   .rename_i p hp;have ht:=he t;rw[hp]at ht;have ht:=ht.bool_inv;have hw:wanted it.o ea=(p==w):=by simp only[wanted,hg,ht]
    have hput:=cI3 he hp;rw[hw];cases p<;>cases w<;>simp only[yB,yD]at h
    .rw[xB (by decide)];exact step _ hput h
    .rw[xD (by decide)];exact skip _ hput h
    .rw[xD (by decide)];exact skip _ hput h
    .rw[xB (by decide)];exact step _ hput h
   .rename_i hp;have ht:=he t;rw[hp]at ht
    have hw:wanted it.o ea=Zb:=by
     simp only[wanted,hg];generalize ea t=u at ht;cases ht;rfl
    rw[hw,xD (by decide)];exact skip _ he h
   .cases h
def ab9 (as:List Nat)(e e':ey):Prop:= ∀t,t∉as->e' t=e t
theorem ab9.refl (as:List Nat)(e:ey):ab9 as e e:=λ_ _=>rfl
theorem ab9.put {as:List Nat}{e e':ey}{d:Option Nat}{v:Value}(h:ab9 as e e')(hd: ∀t,t∈cv4 d->t∈as):ab9 as e (e'.putO d v):=by
 intro t ht;cases d with
 |none=>exact h t ht
 |some d=>
  have:t≠d:=by rintro rfl;exact ht (hd t (List.mem_singleton.2 rfl))
  simp only[ey.putO,ey.put,xD this];exact h t ht
theorem br4 {T:Ab.ja}(hT:ac0 T){Q:ey->Hp->Prop}{as:List Nat}{e0:ey}: ∀{ops:List AOper} {e:ey} {Y:Hp},(∀o,o∈ops->∀t,t∈cv4 o.dst->t∈as)->ab9 as e0 e->Ab.aD1 T Q ops e Y->Ab.aD1 T (λe' Y'=>ab9 as e0 e'/\Q e' Y') ops e Y
 |[],e,Y,_,hk,h=>⟨hk,h⟩
 |o::r,e,Y,ha,hk,h=>by
  simp only[Ab.aD1]at h⊢;have hr: ∀o,o∈r->∀t,t∈cv4 o.dst->t∈as:=λo ho=>ha o (cB _ ho)
  split at h
  .rename_i hw;rw[xB hw];exact ve hT (λv Y' hv=>br4 hT hr (hk.put (ha o aD)) hv) h
  .rename_i hw;rw[xD hw];exact br4 hT hr (hk.put (ha o aD)) h
theorem bz6 {T:Ab.ja}(hT:ac0 T){Q:ey->Hp->Prop}{as:List Nat}{e0:ey}: ∀{its:List SItem} {chk:List (Nat×(Hp->Prop))} {e:ey} {Y:Hp},(∀o,o∈its->∀t,t∈cv4 o.o.dst->t∈as)->ab9 as e0 e->wpI T Q its chk e Y->wpI T (λe' Y'=>ab9 as e0 e'/\Q e' Y') its chk e Y
 |[],chk,e,Y,_,hk,h=>⟨hk,h⟩
 |it::r,chk,e,Y,ha,hk,h=>by
  simp only[wpI]at h⊢;have hr: ∀o,o∈r->∀t,t∈cv4 o.o.dst->t∈as:=λo ho=>ha o (cB _ ho)
  split at h
  .rename_i hw;rw[xB hw];split at h
   .rename_i hm;rw[xB hm];exact ve hT (λv Y' hv=>⟨hv.1,bz6 hT hr (hk.put (ha it aD)) hv.2⟩) h
   .rename_i hm;rw[xD hm];split at h
    .exact bz6 hT hr (hk.put (ha it aD)) h
    .exact h.elim
  .rename_i hw;rw[xD hw];exact bz6 hT hr (hk.put (ha it aD)) h
theorem cD0 {F G:Nat->Prop}(h: ∀m,F m->G m): ∀{l:List Nat},ce3 F l->ce3 G l
 |[],_=>trivial
 |[m],q=>h m q
 |m::m'::r,q=>⟨h m q.1,cD0 h q.2⟩
theorem bg1 {T:Ab.ja}(hT:ac0 T){Q:ey->Hp->Prop}{as:List Nat}{e0:ey}{ops:List (AOper×List Nat)}(ha: ∀o,o∈ops->∀t,t∈cv4 o.1.dst->t∈as): ∀(f:Nat) {D:List Nat} {chk:List (Nat×(Hp->Prop))} {e:ey} {Y:Hp},ab9 as e0 e->wpD T Q ops f D chk e Y->wpD T (λe' Y'=>ab9 as e0 e'/\Q e' Y') ops f D chk e Y
 |0,D,chk,e,Y,hk,h=>⟨hk,h⟩
 |f+1,D,chk,e,Y,hk,h=>by
  simp only[wpD]at h⊢;cases hn:mw ops D with
  |some i=>
   rw[hn]at h;simp only at h⊢;cases ho:ops[i]? with
   |none=>rw[ho]at h;exact h
   |some p=>
    obtain⟨o,pr⟩:=p;rw[ho]at h;have hm:(o,pr)∈ops:=cD ho;simp only at h⊢;split at h
    .rename_i hw;rw[xB hw];split at h
     .rename_i v Y' hr;exact bg1 hT ha f (hk.put (ha _ hm)) h
     .exact h.elim
    .rename_i hw;rw[xD hw];exact bg1 hT ha f (hk.put (ha _ hm)) h
  |none=>
   rw[hn]at h;simp only at h⊢;cases hr:ge ops D with
   |nil=>rw[hr]at h;exact⟨hk,h⟩
   |cons a l=>
    rw[hr]at h;simp only at h⊢;refine cD0 (λm hm=> ?_) h;cases ho:ops[m]? with
    |none=>rw[ho]at hm;exact hm
    |some p=>
     obtain⟨o,pr⟩:=p;rw[ho]at hm;have hmem:(o,pr)∈ops:=cD ho;simp only at hm⊢;split at hm
     .rename_i hw;rw[xB hw];exact ve hT (λv Y' hx=>⟨hx.1,bg1 hT ha f (hk.put (ha _ hmem)) hx.2⟩) hm
     .rename_i hw;rw[xD hw];exact bg1 hT ha f (hk.put (ha _ hmem)) hm
theorem aq2 {T:Ab.ja}(hT:ac0 T){as:List Nat}{e0:ey}: ∀(c:AC) {Q:AExit->ey->Hp->Prop} {e:ey} {Y:Hp},be1 c=Za->(∀t,t∈qf c->t∈as)->ab9 as e0 e->wpA T c Q e Y->wpA T c (λx e' Y'=>ab9 as e0 e'/\Q x e' Y') e Y
 | .skip,_,_,_,_,_,hk,h=>⟨hk,h⟩
 | .exit _,_,_,_,_,_,hk,h=>⟨hk,h⟩
 | .ret,_,_,_,_,_,hk,h=>⟨hk,h⟩
 | .region ops,Q,e,Y,_,ha,hk,h=>br4 hT (λo ho t ht=>ha t (List.mem_flatMap.2 ⟨o,ho,ht⟩)) hk h
 | .sched its,Q,e,Y,_,ha,hk,h=>bz6 hT (λo ho t ht=>ha t (List.mem_flatMap.2 ⟨o,ho,ht⟩)) hk h
 | .draw ops,Q,e,Y,_,ha,hk,h=>bg1 hT (λo ho t ht=>ha t (List.mem_flatMap.2 ⟨o,ho,ht⟩)) _ hk h
 | .seq a b,Q,e,Y,hd,ha,hk,h=>by
  simp only[be1,aB]at hd;have h1:=aq2 hT a hd.1 (λt ht=>ha t (List.mem_append.2 (.inl ht))) hk h;refine jc hT a _ _ (λx e' Y' hx=> ?_) e Y h1;obtain⟨hx1,hx2⟩:=hx;cases x with
  |normal=>exact aq2 hT b hd.2 (λt ht=>ha t (List.mem_append.2 (.inr ht))) hx1 hx2
  |exit i=>exact⟨hx1,hx2⟩
  |ret=>exact⟨hx1,hx2⟩
 | .cond c a b,Q,e,Y,hd,ha,hk,h=>by
  simp only[be1,aB]at hd;simp only[wpA]at h⊢;split at h
  .exact aq2 hT a hd.1 (λt ht=>ha t (List.mem_append.2 (.inl ht))) hk h
  .exact aq2 hT b hd.2 (λt ht=>ha t (List.mem_append.2 (.inr ht))) hk h
  .exact h.elim
 | .block id b,Q,e,Y,hd,ha,hk,h=>by
  have h1:=aq2 hT b hd ha hk h;refine jc hT b _ _ (λx e' Y' hx=> ?_) e Y h1;obtain⟨hx1,hx2⟩:=hx;cases x with
  |normal=>exact⟨hx1,hx2⟩
  |exit i=>
   simp only at hx2⊢;split at hx2
   .rename_i hi;rw[xB hi];exact⟨hx1,hx2⟩
   .rename_i hi;rw[xD hi];exact⟨hx1,hx2⟩
  |ret=>exact⟨hx1,hx2⟩
 | .loop b,Q,e,Y,hd,ha,hk,h=>by
  obtain⟨n,hn⟩:=h;refine⟨n, ?_⟩;induction n generalizing e Y with
  |zero=>exact hn.elim
  |succ n ih=>
   simp only[ph]at hn⊢;have h1:=aq2 hT b hd ha hk hn;refine jc hT b _ _ (λx e' Y' hx=> ?_) e Y h1;obtain⟨hx1,hx2⟩:=hx;cases x with
   |normal=>exact ih _ _ hx1 hx2
   |exit i=>exact⟨hx1,hx2⟩
   |ret=>exact⟨hx1,hx2⟩
theorem bh0 {S:ci}{N:Nat}{fx:List Nat}{sk:SSk}{vals:List VV}{t:Tup sk.shs}(h:bo9 S N fx sk vals=C t):sk.noRo=Za/\∃st,vn S N fx sk vals=C st/\toL sk.shs t=st.ls:=by
 unfold bo9 at h;obtain⟨h1,h2⟩:=co h;obtain⟨st,h3,h4⟩:=cf h2;exact⟨h1,st,h3,bx1 h4⟩
theorem bg9 {S:ci}{N:Nat}{fx:List Nat}{vals:List Nat->List VV}{hit:XK->Bool}: ∀{l:List Alt} {s:ao4 l},ar5 S N fx vals hit l=C s->∃p,dj4 l s=C p/\hit p.1.x=Za/\bo9 S N fx p.1.sk (vals p.1.ts)=C p.2
 |[],s,h=>by cases h
 |[a],s,h=>by
  simp only[ar5]at h;cases hh:hit a.x with
  |false=>rw[hh]at h;cases h
  |true=>rw[hh]at h;exact⟨⟨a,s⟩,rfl,hh,h⟩
 |a::b::r,s,h=>by
  simp only[ar5]at h;split at h
  .rename_i t ht;injection h with h
   subst h;cases hh:hit a.x with
   |false=>rw[hh]at ht;cases ht
   |true=>rw[hh]at ht;exact⟨⟨a,t⟩,rfl,hh,ht⟩
  .obtain⟨s',h1,h2⟩:=cf h;injection h2 with h2
   subst h2;obtain⟨p,h3,h4,h5⟩:=bg9 h1;exact⟨p,h3,h4,h5⟩
theorem XK.is_out {x:XK}{y:AExit}(h:x.is y=Za):x.out=y:=by
 cases x<;>cases y<;>simp only[XK.is]at h<;>first|rfl|(cases h;done)|skip
 rename_i i j;rw[show(XK.exit i).out=AExit.exit i from rfl,dB h]
theorem bx9 {c:Ctx}: ∀{ts:List Nat} {e:gf} {ea:ey} {vs:List VV},cn c e ea->F2 (VRel c) vs (ts.map ea)->cn c (cI4 e ts vs) ea
 |[],e,ea,vs,he,hf=>by
  cases hf;exact he
 |t::ts,e,ea,vs,he,hf=>by
  cases hf with
  |cons h1 h2=>
   have:=bx9 he h2;intro i;simp only[cI4,ap0];by_cases hi:i=t
   .subst hi;rw[xB rfl];exact h1
   .rw[xD hi];exact this i
theorem bB6 : ∀{ts:List Nat} {e:gf} {t:Nat},tq (bc9 e ts) t= .undef∨(t∉ts/\tq (bc9 e ts) t=tq e t)
 |[],e,t=> .inr ⟨by simp,rfl⟩
 |a::ts,e,t=>by
  simp only[bc9,ap0];by_cases h:t=a
  .rw[xB h];exact .inl rfl
  .rw[xD h];rcases bB6 (ts:=ts) (e:=e) (t:=t)with h1|⟨h1,h2⟩
   .exact .inl h1
   .exact .inr ⟨by simp[h,h1],h2⟩
theorem bg6 {c:Ctx}{as:List Nat}{e:gf}{ea ea':ey}(he:cn c e ea)(hk:ab9 as ea ea'):cn c (bc9 e as) ea':=by
 intro t;rcases bB6 (ts:=as) (e:=e) (t:=t)with h|⟨h1,h2⟩
 .rw[h];exact .undef _
 .rw[h2,hk t h1];exact he t
theorem bN0 {c:Ctx}{e:gf}{ea:ey}(he:cn c e ea): ∀ts:List Nat,F2 (VRel c) (ts.map (tq e)) (ts.map ea)
 |[]=> .nil
 |t::ts=> .cons (he t) (bN0 he ts)
theorem cw3 {β:Type}{c c1 c':Ctx}{e0:gf}{ea0 ea':ey}{fx mov asg:List Nat}{exits:List Alt}{s:ao4 exits}{k:AExit->gf->ci->Option β}{y:β}{e':gf}{x:AExit}(hR:gw c)(he0:cn c e0 ea0)(hR':gw c')(hw:Within c c1 fx mov)(hR1:gw c1)(hle:Le c1 c')(hok:bL6 c.S fx=Za)
  (hke:ab9 asg ea0 ea') (he':cn c' e' ea') (hd:ar5 c'.S c.S.length fx (λts=>ts.map (tq e')) (λy=>y.is x) exits=C s) (h:dx2 e0 c.S fx mov asg exits s k=C y):ad6 c k y x ea' c'.Y:=by
 obtain⟨p,h1,h2,h3⟩:=bg9 hd;obtain⟨hro,st,h4,h5⟩:=bh0 h3;unfold dx2 at h;rw[cu3,h1]at h;simp only[wA]at h;rw[XK.is_out h2]at h;unfold bf0 at h;rw[h5]at h;cases he:wY id p.1.sk st.ls with
 |none=>rw[he]at h;cases h
 |some q=>
  obtain⟨vs,fs,bs⟩:=q;rw[he]at h;simp only[Bool.false_or]at h;cases hS:ap9 fx fs (om fx mov (aV5 vs fs bs) 0 c.S)with
  |none=>rw[hS]at h;cases h
  |some S2=>
   rw[hS]at h;obtain⟨ct,g1,g2,g3,g4,g5⟩:=dy2 hR hR' hw hR1 hle hok hro h4 he (bN0 he' _) hS;refine⟨_,ct,g1,g3,g4,bx9 (bg6 (he0.frame g3) hke) g5, ?_⟩;rw[g2];exact h
theorem cO4 {S:ci}{fx:List Nat}:Frz S (om fx [] Za 0 S):=by
 refine⟨tj,λk=> ?_⟩;by_cases hk:k<S.length
 .rw[ti hk];simp only[tx,yD,bD];cases tx k fx with
  |true=>exact .inl rfl
  |false=>exact .inr rfl
 .rw[ap7 (by rw[tj];omega),ap7 (by omega)];exact .inl rfl
def dX6 (c:Ctx)(e0:gf)(ea0:ey)(fx mov asg:List Nat)(ts:List Nat)(sk:SSk)(t:Tup sk.shs)(ea:ey)(Y:Hp):Prop:=
 ∃c1 e1,c1.Y=Y/\bf0 e0 c.S fx mov asg Za ts sk t=C (e1,c1.S)/\gw c1/\cn c1 e1 ea/\Within c c1 fx mov/\ab9 asg ea0 ea
theorem bZ2 {e0 e1:gf}{S S1:ci}{fx mov asg ts:List Nat}{sk:SSk}{t:Tup sk.shs}(h:bf0 e0 S fx mov asg Za ts sk t=C (e1,S1)): ∃vs fs bs S',wY id sk (toL sk.shs t)=C (vs,fs,bs)/\ap9 fx fs (om fx mov Za 0 S)=C S'/\e1=cI4 (bc9 e0 asg) ts vs/\S1=S'++bs:=by
 unfold bf0 at h;split at h
 .rename_i vs fs bs he;simp only[Bool.true_or]at h;split at h
  .rename_i S' hS;injection h with h
   injection h with h1 h2
   exact⟨vs,fs,bs,S',he,hS,h1.symm,h2.symm⟩
  .cases h
 .cases h
theorem bH9 {ops:List (AOper×List Nat)}: ∀{r:List LItem} {it:LItem} {t:Nat},it∈r->bB it.kind 2=Za->(fj ops it.i).dst=C t->t∈bh5 ops r
 |a::r,it,t,h,hk,ht=>by
  simp only[bh5];rcases List.mem_cons.1 h with rfl|h
  .rw[hk,yB,ht];exact aD
  .have:=bH9 h hk ht;cases bB a.kind 2 with
   |false=>exact this
   |true=>exact List.mem_append.2 (.inr this)
theorem eo {α γ:Type}(f:α->Option (α⊕γ))(n:Nat)(a:α):cj f (n+1) a=(f a).bind λs=>da s (cj f n) C:=rfl
theorem bF5 {f:(AExit->ey->Hp->Prop)->ey->Hp->Prop}(hf: ∀(Q Q':AExit->ey->Hp->Prop),(∀x e Y,Q x e Y->Q' x e Y)->∀e Y,f Q e Y->f Q' e Y){Q:AExit->ey->Hp->Prop}:
  ∀(n m:Nat) (e:ey) (Y:Hp),n<=m->ph f Q n e Y->ph f Q m e Y
 |0,_,_,_,_,h=>h.elim
 |n+1,0,_,_,hm,_=>absurd hm (Nat.not_succ_le_zero _)
 |n+1,m+1,e,Y,hm,h=>by
  simp only[ph]at h⊢;refine hf _ _ (λx e' Y' hx=> ?_) e Y h;cases x with
  |normal=>exact bF5 hf n m e' Y' (Nat.le_of_succ_le_succ hm) hx
  |exit id=>exact hx
  |ret=>exact hx
theorem bw7 {b:AC}(ih: ∀(at':AT) {β:Type} {y:β} {c:Ctx} {e:gf} {ea:ey} {k:AExit->gf->ci->Option β},gw c->cn c e ea->eval tab b at' β e c.S k=C y->wpA (jv tab) b (ad6 c k y) ea c.Y):
  ∀(at':AT) {β:Type} {y:β} {c:Ctx} {e:gf} {ea:ey} {k:AExit->gf->ci->Option β},gw c->cn c e ea->bV5 (eval tab b) at' β e c.S k=C y->ph (wpA (jv tab) b) (ad6 c k y) at'.rounds ea c.Y
 | .n l r,β,y,c,e,ea,k,hR,he,h=>by
  simp only[bV5]at h;have h1:=ih l hR he h;simp only[AT.rounds,ph];refine jc (ed tab) b _ _ (λx ea' Y' hx=> ?_) ea c.Y h1;obtain⟨e',c',h2,h3,h4,h5,h6⟩:=hx;subst h2;cases x with
  |normal=>exact bg4 (jc (ed tab) b) (λx ea'' Y'' hp=>ac1.of h3 hp) _ _ _ (bw7 ih r h4 h5 h6)
  |exit i=>exact⟨e',c',rfl,h3,h4,h5,h6⟩
  |ret=>exact⟨e',c',rfl,h3,h4,h5,h6⟩
 | .sz m l r,β,y,c,e,ea,k,hR,he,h=>by
  simp only[bV5]at h;simp only[AT.rounds];cases hm:bB m c.S.length with
  |true=>
   rw[hm]at h;exact bF5 (jc (ed tab) b) _ _ _ _ (Nat.le_add_right _ _) (bw7 ih l hR he h)
  |false=>
   rw[hm]at h;exact bF5 (jc (ed tab) b) _ _ _ _ (Nat.le_add_left _ _) (bw7 ih r hR he h)
 | .no,_,_,_,_,_,_,_,_,h=>by cases h
 | .lp _ _ _ _,_,_,_,_,_,_,_,_,h=>by cases h
 | .jn _ _ _ _ _,_,_,_,_,_,_,_,_,h=>by cases h
 | .dr _,_,_,_,_,_,_,_,_,h=>by cases h
theorem aa4 : ∀(ac:AC) (at':AT) {β:Type} {y:β} {c:Ctx} {e:gf} {ea:ey} {k:AExit->gf->ci->Option β},gw c->cn c e ea->eval tab ac at' β e c.S k=C y->wpA (jv tab) ac (ad6 c k y) ea c.Y
 | .skip,_,_,_,c,e,ea,k,hR,he,h=>⟨e,c,rfl,Le.refl c,hR,he,h⟩
 | .exit i,_,_,_,c,e,ea,k,hR,he,h=>⟨e,c,rfl,Le.refl c,hR,he,h⟩
 | .ret,_,_,_,c,e,ea,k,hR,he,h=>⟨e,c,rfl,Le.refl c,hR,he,h⟩
 | .region ops,_,_,_,c,e,ea,k,hR,he,h=>bT7 hR he h
 | .sched its,_,_,_,c,e,ea,k,hR,he,h=>bp0 hR he .nil h
 | .draw ops,at',_,y,c,e,ea,k,hR,he,h=>by
  simp only[eval]at h;split at h
  .rename_i L _;obtain⟨hg,h⟩:=co h;rw[aB]at hg;refine cv5 hR ops.length (pd:=λ_=>0) hg.1 ⟨Le.refl c,hR,bg6 he (ab9.refl _ ea), .nil,rfl,rfl,λb=>⟨.inl,λh=> ?_⟩,List.nodup_nil,(λ_ _ h=>by cases h),(λ_ h=>by cases h),(λ_ h=>by cases h),λit hit hk t ht=> ?_,hg.2⟩ h
   .rcases h with h|⟨_,h,_⟩
    .exact h
    .cases h
   .rcases @bB6 (bh5 ops (aT3 ops L L [])) e t with h1|⟨h1,_⟩
    .exact h1
    .exact(h1 (bH9 hit hk ht)).elim
  .cases h
 | .seq a b,at',β,y,c,e,ea,k,hR,he,h=>by
  have plain: ∀l r,(eval tab a l β e c.S λx e' S'=>match x with
    | .normal=>eval tab b r β e' S' k
    |x=>k x e' S')=C y->wpA (jv tab) (.seq a b) (ad6 c k y) ea c.Y:=by
   intro l r h1;refine jc (ed tab) a _ _ (λx ea' Y' hx=> ?_) ea c.Y (aa4 a l hR he h1);obtain⟨e',c',h2,h3,h4,h5,h6⟩:=hx;subst h2;cases x with
   |normal=>exact jc (ed tab) b _ _ (λx ea'' Y'' hp=>ac1.of h3 hp) _ _ (aa4 b r h4 h5 h6)
   |exit i=>exact⟨e',c',rfl,h3,h4,h5,h6⟩
   |ret=>exact⟨e',c',rfl,h3,h4,h5,h6⟩
  simp only[eval]at h;split at h
  .rename_i fx mov exits l r _;obtain⟨hg,h⟩:=co h;rw[aB]at hg;obtain⟨s,h1,h2⟩:=cf h;have hfz:Frz c.S (om (fx++mov) [] Za 0 c.S):=cO4;have hR1:gw ⟨c.Z,om (fx++mov) [] Za 0 c.S,c.Y,c.fb⟩:=hfz.rel hR
   have hw:Within c ⟨c.Z,om (fx++mov) [] Za 0 c.S,c.Y,c.fb⟩ fx mov:=by
    refine⟨hfz.le,λq hq hn hm=> ?_,λ_ _ _ _ _ _ _ _ hy=>hy⟩;show cc (om (fx++mov) [] Za 0 c.S) q=_;rw[ti hq];simp only[tx,yD,bD];rcases hm with hm|hz
    .rw[oo (by simp[hn,hm])];rfl
    .cases tx q (fx++mov)with
     |true=>exact(aM5 hz).symm
     |false=>rfl
   have h3:=aq2 (ed tab) (as:=qf a) (e0:=ea) a hg.2 (λt ht=>ht) (ab9.refl _ ea) (aa4 a l (c:=⟨c.Z,om (fx++mov) [] Za 0 c.S,c.Y,c.fb⟩) hR1 (he.frame hfz.le) h1);refine jc (ed tab) a _ _ (λx ea' Y' hx=> ?_) ea c.Y h3;obtain⟨hk,e',c',h4,h5,h6,h7,h8⟩:=hx;subst h4;have h9:=cw3 hR he h6 hw hR1 h5 hg.1 hk h7 h8 h2;cases x with
   |normal=>
    obtain⟨e2,c2,g1,g2,g3,g4,g5⟩:=h9;rw[<-g1];exact jc (ed tab) b _ _ (λx ea'' Y'' hp=>ac1.of g2 hp) _ _ (aa4 b r g3 g4 g5)
   |exit i=>exact h9
   |ret=>exact h9
  .exact plain _ _ h
  .exact plain _ _ h
 | .cond t a b,at',β,y,c,e,ea,k,hR,he,h=>by
  simp only[eval]at h;split at h
  .rename_i p hp;have ht:=dk he t;rw[hp]at ht;have ht:=ht.bool_inv
   have key: ∀(e1 e2:gf) (l r:AT),cn c e1 ea∨p=Zb->cn c e2 ea∨p=Za->cond p (eval tab a l β e1 c.S k) (eval tab b r β e2 c.S k)=C y->wpA (jv tab) (.cond t a b) (ad6 c k y) ea c.Y:=by
    intro e1 e2 l r h1 h2 h3;simp only[wpA,ht];cases p with
    |true=>
     rcases h1 with h1|h1
     .exact aa4 a l hR h1 h3
     .cases h1
    |false=>
     rcases h2 with h2|h2
     .exact aa4 b r hR h2 h3
     .cases h2
   have pb: ∀(i:Nat),t= .tmp i->(cn c (ya e i (.bool Za)) ea∨p=Zb)/\(cn c (ya e i (.bool Zb)) ea∨p=Za):=by
    intro i hi;subst hi;have:=cI3 he hp;cases p with
    |true=>exact⟨.inl this, .inr rfl⟩
    |false=>exact⟨.inr rfl, .inl this⟩
   split at h
   .exact key _ _ _ _ (pb _ rfl).1 (pb _ rfl).2 h
   .exact key _ _ _ _ (pb _ rfl).1 (pb _ rfl).2 h
   .exact key _ _ _ _ (.inl he) (.inl he) h
   .exact key _ _ _ _ (.inl he) (.inl he) h
  .cases h
 | .block id b,at',β,y,c,e,ea,k,hR,he,h=>by
  simp only[eval]at h;refine jc (ed tab) b _ _ (λx ea' Y' hx=> ?_) ea c.Y (aa4 b _ hR he h);obtain⟨e',c',h2,h3,h4,h5,h6⟩:=hx;cases x with
  |normal=>exact⟨e',c',h2,h3,h4,h5,h6⟩
  |ret=>exact⟨e',c',h2,h3,h4,h5,h6⟩
  |exit i=>
   simp only at h6⊢;cases hi:bB i id with
   |true=>
    rw[hi]at h6;rw[xB (dB hi)];exact⟨e',c',h2,h3,h4,h5,h6⟩
   |false=>
    rw[hi]at h6;rw[xD (λe=>by rw[e,Nat.beq_refl]at hi;cases hi)];exact⟨e',c',h2,h3,h4,h5,h6⟩
 | .loop b,at',β,y,c,e,ea,k,hR,he,h=>by
  simp only[eval]at h;split at h
  .rename_i fx head exits l _;obtain⟨hg,h⟩:=co h;rw[aB,aB]at hg;obtain⟨⟨g1,g2⟩,g3⟩:=hg;split at h
   .rename_i st hd;obtain⟨t0,h1,h⟩:=cf h;obtain⟨s,h2,h3⟩:=cf h
    have round: ∀(n:Nat) (t:Tup head.sk.shs) (ea1:ey) (Y1:Hp),dX6 c e ea fx (vo st.m) (qf b) head.ts head.sk t ea1 Y1->cj (λt=>match bf0 e c.S fx (vo st.m) (qf b) Za head.ts head.sk t with
      |some (e1,S1)=>eval tab b l (Tup head.sk.shs⊕ao4 exits) e1 S1 λx e' S'=>(match x with
       | .normal=>(bo9 S' c.S.length fx head.sk (head.ts.map (tq e'))).bind λt=>C (.inl t)
       |x=>(ar5 S' c.S.length fx (λts=>ts.map (tq e')) (λy=>y.is x) exits).bind λs=>C (.inr s))
      |none=>O) n t=C s->ph (wpA (jv tab) b) (ad6 c k y) n ea1 Y1:=by
     intro n;induction n with
     |zero=>intro t ea1 Y1 _ hl;cases hl
     |succ n ih=>
      intro t ea1 Y1 hH hl;rw[eo]at hl;obtain⟨z,hl1,hl2⟩:=cf hl;obtain⟨c1,e1,q1,q2,q3,q4,q5,q6⟩:=hH;subst q1;rw[q2]at hl1;simp only at hl1;have h4:=aq2 (ed tab) (as:=qf b) (e0:=ea) b g3 (λt ht=>ht) q6 (aa4 b l q3 q4 hl1);simp only[ph];refine jc (ed tab) b _ _ (λx ea' Y' hx=> ?_) ea1 c1.Y h4;obtain⟨hk,e',c',h5,h6,h7,h8,h9⟩:=hx;subst h5;cases x with
      |normal=>
       simp only at h9⊢;obtain⟨t',h10,h11⟩:=cf h9;injection h11 with h11
       subst h11;simp only[da]at hl2;refine ih t' ea' c'.Y ?_ hl2;obtain⟨hro,st',h12,h13⟩:=bh0 h10
       have hset: ∃e2 S2,bf0 e c.S fx (vo st.m) (qf b) Za head.ts head.sk t'=C (e2,S2):=by
        cases n with
        |zero=>cases hl2
        |succ n=>
         rw[eo]at hl2;obtain⟨z',hl3,_⟩:=cf hl2;cases hz:bf0 e c.S fx (vo st.m) (qf b) Za head.ts head.sk t' with
         |none=>rw[hz]at hl3;cases hl3
         |some q=>exact⟨q.1,q.2,rfl⟩
       obtain⟨e2,S2,hset⟩:=hset;obtain⟨vs,fs,bs,S3,r1,r2,r3,r4⟩:=bZ2 hset;rw[h13]at r1;obtain⟨ct,u1,u2,u3,u4,u5,u6,u7,u8⟩:=dH9 hR h7 q5 q3 h6 g2 hro h12 r1 (bN0 h8 _) r2;refine⟨ct,e2,u1,by rw[hset,r4,u2],u6, ?_,cm1 u5 r2 u2 λq hq hn hm hdm b' y' hb hy=> ?_,hk⟩
       .rw[r3];exact bx9 (bg6 (he.frame u5) hk) u7
       .refine(u8 q hq hn ?_).2 b' y' hb hy;obtain⟨v1,v2,v3,_⟩:=oz r2;rw[tj]at v2;rw[u2,uv (by rw[v2];exact hq),v3 q hn,ti hq,bD,oo hn];rcases hm with hm|hz
        .rw[oo hm,yD,yD,yB,iw];exact hdm
        .rw[hz];cases tx q (vo st.m)with
         |true=>exact hdm
         |false=>rw[yD,yD,yB,iw];exact hdm
      |exit i=>
       simp only at h9⊢;obtain⟨s',h10,h11⟩:=cf h9;injection h11 with h11
       subst h11;simp only[da]at hl2;injection hl2 with hl2
       subst hl2;exact cw3 hR he h7 q5 q3 h6 g2 hk h8 h10 h3
      |ret=>
       simp only at h9⊢;obtain⟨s',h10,h11⟩:=cf h9;injection h11 with h11
       subst h11;simp only[da]at hl2;injection hl2 with hl2
       subst hl2;exact cw3 hR he h7 q5 q3 h6 g2 hk h8 h10 h3
    refine⟨gi,round gi t0 ea c.Y ?_ h2⟩
    have hset: ∃e2 S2,bf0 e c.S fx (vo st.m) (qf b) Za head.ts head.sk t0=C (e2,S2):=by
     have hb:gi=(gi-1)+1:=rfl;rw[hb,eo]at h2;obtain⟨z',hl3,_⟩:=cf h2;cases hz:bf0 e c.S fx (vo st.m) (qf b) Za head.ts head.sk t0 with
     |none=>rw[hz]at hl3;cases hl3
     |some q=>exact⟨q.1,q.2,rfl⟩
    obtain⟨e2,S2,hset⟩:=hset;obtain⟨vs,fs,bs,S3,r1,r2,r3,r4⟩:=bZ2 hset;rw[bx1 h1]at r1;obtain⟨ct,u1,u2,u3,u4,u5,u6,u7⟩:=dc8 hR g2 g1 hd r1 (bN0 he _) r2;refine⟨ct,e2,u1,by rw[hset,r4,u2],u6, ?_,cm1 u5 r2 u2 λq hq hn hm hdm b' y' hb hy=>by rw[u1];exact hy,ab9.refl _ _⟩;rw[r3];exact bx9 (bg6 (he.frame u5) (ab9.refl _ _)) u7
   .cases h
  .exact⟨_,bw7 (λat'' {β y c e ea k} hR he h=>aa4 b at'' hR he h) at' hR he h⟩
end
end
section
open Nat renaming le_of_ble_eq_true -> aB, zero_add -> aD
theorem bN1 {c:Ctx}{e:gf}{ea:ey}(hR:gw c)(he:cn c e ea): ∀{rs:List ARes} {vs:List VV},by2 e c.S rs=C vs->∃us,bE3 ea c.Y rs=C us/\F2 (VRel c) vs us
 |[],vs,h=>by injection h with h;subst h;exact⟨[],rfl, .nil⟩
 |r::rs,vs,h=>by
  simp only[by2]at h;obtain⟨v,h1,h⟩:=cf h;obtain⟨vs',h2,h⟩:=cf h;injection h with h
  subst h;obtain⟨us,h3,h4⟩:=bN1 hR he h2
  have key: ∃u,bX9 ea c.Y r=C u/\VRel c v u:=by
   cases r with
   |tmp t=>
    simp only[dB9]at h1;injection h1 with h1
    subst h1;exact⟨_,rfl,he t⟩
   |cell t=>
    simp only[dB9]at h1;split at h1
    .rename_i b o hp;split at h1
     .rename_i es z l hb;have ht:=he t;rw[hp]at ht;cases ht with
      |ptr hk _ hd=>
       have hdim:(cc c.S b).dim=C (es,l.length):=by rw[hb];rfl
       obtain⟨bb,hm,ha⟩:=hd _ hdim;have hs:=hR.stands hdim hm;rw[hb]at hs;obtain⟨y,a,h5,h6,h7⟩:=hs.get h1;refine⟨a, ?_,h7⟩;rw[aD]at h6;simp only[bX9,ha,h5,wA,h6]
     .cases h1
    .cases h1
   |cellN t n=>
    simp only[dB9]at h1;split at h1
    .rename_i b o hp;split at h1
     .rename_i es z l hb;cases hc:Nat.ble (o+n) l.length with
      |false=>rw[hc]at h1;cases h1
      |true=>
       rw[hc]at h1;injection h1 with h1
       subst h1;have ht:=he t;rw[hp]at ht;cases ht with
       |ptr hk _ hd=>
        have hdim:(cc c.S b).dim=C (es,l.length):=by rw[hb];rfl
        obtain⟨bb,hm,ha⟩:=hd _ hdim;have hs:=hR.stands hdim hm;rw[hb]at hs;obtain⟨y,as,h5,h6,h7⟩:=hs.read (aB hc);rw[aD]at h6;refine⟨.agg as.toArray, ?_, .agg (by simp only[Blk.vals]at h7;simpa using h7)⟩;simp only[bX9,ha,h5,wA,h6,Option.map_some]
     .cases h1
    .cases h1
  obtain⟨u,h5,h6⟩:=key;exact⟨u::us,by simp only[bE3,h5,h3], .cons h6 h4⟩
theorem cz7 {c:Ctx}{vs:List VV}{us:List Value}(h:F2 (VRel c) vs us):VRel c (cL8 vs) (aH0 us):=by
 cases h with
 |nil=>exact .tup .nil
 |cons h1 h2=>
  cases h2 with
  |nil=>exact h1
  |cons h2 h3=>exact .tup (by simpa using F2.cons h1 (F2.cons h2 h3))
theorem bR5 {c:Ctx}{vs:List VV}{as:List Value}(h:F2 (VRel c) vs as):cn c vs (ey.of as):=by
 intro t
 have hg: ∀(l:List VV) (i:Nat),tq l i=(l[i]?).getD .undef:=by
  intro l;induction l with
  |nil=>intro i;simp[tq]
  |cons a l ih=>intro i;cases i with
   |zero=>simp[tq]
   |succ i=>simp[tq,ih]
 rw[hg];unfold ey.of;cases hv:vs[t]? with
 |none=>exact .undef _
 |some v=>
  obtain⟨a,h1,h2⟩:=h.get t v hv;rw[h1];exact h2
theorem bS0 : ∀{n q:Nat},q<n->q∈bR9 n
 |n+1,q,h=>by
  by_cases e:q=n
  .subst e;exact List.mem_cons_self
  .exact List.mem_cons_of_mem _ (bS0 (by omega))
theorem dr3 {P:Program}{f:FuncId}{tab:Tab}{vals:List Sk}{objs:List OSk}{outs:List Alt}{at':AT}{run:Tup (SSk.shs ⟨vals,[],objs⟩)->Option (ao4 outs)}(ht:nh P tab.fs)(hi:cg P tab.is)
  (he: ∀t o,run t=C o->bT8 P f tab vals objs outs at' t=C o):at0 P ⟨f,vals,objs,outs,run⟩:=by
 intro B Z Y w args cargs K hs hR0 ha;obtain⟨c,vals',st,t,o,p,v,fs,bs,S',h1,hR,hf,hd,hl,hcut,hok,hrun,hp,henc,hS,hK⟩:=hs;subst h1;have hev:=he t o hrun;unfold bT8 at hev;split at hev
 .rename_i af vs fs0 S0 htr hen;obtain⟨hg,hev⟩:=co hev;refine cW7 htr (ed tab) (bf6 ht hi) B Z c.Y w args cargs K ?_ hR0 ha;have htl:toL (SSk.shs ⟨vals,[],objs⟩) t=st.ls:=bx1 hl;rw[htl]at hen;obtain⟨hE,hfv⟩:=enter hR rfl hd hen hf;have hlen:args.length<=af.ntmps:=by rw[<-hfv.length];exact aB hg
  refine⟨hlen, ?_⟩;obtain⟨l1,l2⟩:=hE.len;have hbody:=aa4 af.body at' (c:=sw c st S0) hE.rel (bR5 hfv) hev;refine jc (ed tab) af.body _ _ (λx ea Y' hx=> ?_) _ _ hbody;obtain⟨e',c',h2,h3,h4,h5,h6⟩:=hx;subst h2
  have fin:(match by2 e' c'.S af.results with
    |some rs=>ar5 c'.S S0.length (ah6 objs 0) (λ_=>[cL8 rs]) (λ_=>Za) outs
    |none=>O)=C o->(match bE3 ea c'.Y af.results with
    |some vs=>K (aH0 vs) c'.Y
    |none=>False):=by
   intro h7;split at h7
   .rename_i rs hrs;obtain⟨us,h8,h9⟩:=bN1 h4 h5 hrs;rw[h8];simp only;obtain⟨p',q1,_,q3⟩:=bg9 h7;simp only at hp;rw[hp]at q1;injection q1 with q1
    subst q1;obtain⟨hro,st',q4,q5⟩:=bh0 q3;obtain⟨ap1,_⟩:=wV hd;have hnd:=wQ ap1;rw[List.nil_append]at hnd;simp only at henc hS hcut hok;rw[q5]at henc
    have hlent: ∀(i:Nat) (o:OSk) (x:Src),objs[i]?=C o->o.ro=Za->st.m[i]?=C (C x)->x.k∈st.lent:=by
     intro i o x g1 g2 g3;unfold vn at hd;obtain⟨st1,d1,hd⟩:=cf hd;obtain⟨st2,d2,hd⟩:=cf hd;obtain⟨st3,d3,hd⟩:=cf hd
     have:st3=st:=by
      cases hb:(bm5 ([]++vo st3.m)&&aT0 ([]++pa (FSum.ins ⟨f,vals,objs,outs,run⟩).free st3.m) st3.lent)with
      |false=>rw[hb]at hd;cases hd
      |true=>rw[hb]at hd;injection hd
     subst this;exact cy7 d3 i o x g1 g2 (by rw[aD];exact g3)
    obtain⟨ct,r1,r2,r3,r4,r5,r6⟩:=bY0 hR rfl hE h3 h4 hcut hok hnd hlent hro (by rw[<-l1];exact q4) henc (.cons (cz7 h9) .nil) hS;cases r5 with
    |cons r5 _=>exact hK _ _ ⟨ct,r1,r2,r3,r4,r5,r6⟩
   .cases h7
  cases x with
  |exit i=>cases h6
  |normal=>exact fin h6
  |ret=>exact fin h6
 .cases hev
theorem jm {P:Program}{f:FuncId}{tab:List FSum}{ins:List Inl}{vals:List Sk}{objs:List OSk}{outs:List Alt}{at':AT}{run:Tup (SSk.shs ⟨vals,[],objs⟩)->Option (ao4 outs)}(ht:nh P tab)(hi:cg P ins)
  (he: ∀t,bT8 P f ⟨tab,ins⟩ vals objs outs at' t=run t):at0 P ⟨f,vals,objs,outs,run⟩:=dr3 (tab:=⟨tab,ins⟩) ht hi λt o h=>(he t).trans h
theorem dr2 {P:Program}{f:FuncId}{tab:List FSum}{vals:List Sk}{objs:List OSk}{outs:List Alt}{at':AT}{run:Tup (SSk.shs ⟨vals,[],objs⟩)->Option (ao4 outs)}(ht:nh P tab)
  (he: ∀t,bT8 P f ⟨tab,[]⟩ vals objs outs at' t=run t):at0 P ⟨f,vals,objs,outs,run⟩:=jm ht (cg.nil P) he
theorem dy {P:Program}{f:FuncId}{tab:List FSum}{ins:List Inl}{at':AT}(ht:nh P tab)(hi:cg P ins):cO0 P ⟨f,ir P f ⟨tab,ins⟩ at'⟩:=by
 intro B Z Y w args cargs K hs hR0 ha;obtain⟨β,y,c,vals,k,h1,hR,hf,hev,hK⟩:=hs;subst h1;simp only[ir]at hev;split at hev
 .rename_i af htr;obtain⟨hg,hev⟩:=co hev;refine cW7 htr (ed ⟨tab,ins⟩) (bf6 (tab:=⟨tab,ins⟩) ht hi) B Z c.Y w args cargs K ?_ hR0 ha;have hlen:args.length<=af.ntmps:=by rw[<-hf.length];exact aB hg
  refine⟨hlen, ?_⟩;have hbody:=aa4 af.body at' (c:=c) hR (bR5 hf) hev;refine jc (ed ⟨tab,ins⟩) af.body _ _ (λx ea Y' hx=> ?_) _ _ hbody;obtain⟨e',c',h2,h3,h4,h5,h6⟩:=hx;subst h2
  have fin:(match by2 e' c'.S af.results with
    |some rs=>k (cL8 rs) c'.S
    |none=>O)=C y->(match bE3 ea c'.Y af.results with
    |some vs=>K (aH0 vs) c'.Y
    |none=>False):=by
   intro h7;split at h7
   .rename_i rs hrs;obtain⟨us,h8,h9⟩:=bN1 h4 h5 hrs;rw[h8];exact hK _ _ ⟨cL8 rs,c',rfl,h3,h4,λq hq hn=>(hn (bS0 hq)).elim,cz7 h9,h7⟩
   .cases h7
  cases x with
  |exit i=>cases h6
  |normal=>exact fin h6
  |ret=>exact fin h6
 .cases hev
def bp4 :List Alt:=[⟨.ret,[],⟨[.leaf .bool],[],[]⟩⟩]
def ak2 (Y:Hp):Ctx:=⟨λ_=>O,[],Y,λ_=>False⟩
theorem cQ6 {Y:Hp}(h:Y.Ok):gw (ak2 Y):=
 ⟨h,λk k' b hz _ _ _=>(by cases hz),λk d hd=>(by cases hd),λk b hd=>(hd rfl).elim,λb hb=>hb.elim⟩
theorem bp3 {Y:Hp}(b:Nat): ¬(ak2 Y).mut b:=by
 rintro(⟨k,h,_⟩|h)
 .cases h
 .exact h
theorem dm9 {P:Program}{f:FuncId}{vals:List Sk}{run:Tup (SSk.shs ⟨vals,[],[]⟩)->Option (ao4 bp4)}(h:at0 P ⟨f,vals,[],bp4,run⟩){w:World}(hT:db0 P w){rows:List Row}{args:List Value}{cargs:Array Value}{vs:List VV}{st:DSt}{t:Tup (SSk.shs ⟨vals,[],[]⟩)}
  (hrows: ∀r∈rows,∀(i:Nat) (v:Value),r.cells[i]?=C v->∃v',w.cell? ⟨r.c,r.o+i,O⟩=C v'/\VR (uu rows) v v') (hargs:F2 (VR (uu rows)) args cargs.toList)
  (hv:F2 (VRel (ak2 (tt w.heap.size rows))) vs args) (hd:vn [] 0 [] ⟨vals,[],[]⟩ vs=C st) (hl:ofL _ st.ls=C t) (hr:run t=C Za):
  Calls P f cargs w λe w'=>e= .returned (.bool Za)/\Go.RowKit.Below w.heap.size w w':=by
 have hm:st.m=[]:=by
  unfold vn at hd;obtain⟨st1,d1,hd⟩:=cf hd;obtain⟨st2,d2,hd⟩:=cf hd;obtain⟨st3,d3,hd⟩:=cf hd
  have:st3=st:=by
   cases hb:(bm5 ([]++vo st3.m)&&aT0 ([]++pa ([]:List OSk) st3.m) st3.lent)with
   |false=>rw[hb]at hd;cases hd
   |true=>rw[hb]at hd;injection hd
  subst this;simp only[ah3]at d3;cases hb:Nat.beq 0 st2.m.length with
  |false=>rw[hb]at d3;cases d3
  |true=>
   rw[hb]at d3;injection d3 with d3
   subst d3;exact List.length_eq_zero_iff.1 (Nat.eq_of_beq_eq_true hb).symm
 refine dL8 (S:=(FSum.mk f vals [] bp4 run).spec) h hT hrows hargs ?_;refine⟨ak2 (tt w.heap.size rows),vs,st,t,Za,⟨⟨.ret,[],⟨[.leaf .bool],[],[]⟩⟩,Za⟩, .bool Za,[],[],cond (aV5 [.bool Za] [] []) (aV7 st.lent []) [],rfl,cQ6 dC0,hv,hd,hl,by rw[hm];rfl,by rw[hm];rfl,hr,rfl,rfl,by rw[hm];rfl, ?_⟩;rintro r Y' ⟨ct,_,_,_,_,hrel,_⟩;exact hrel.bool_inv
end
section
open List renaming getElem?_eq_getElem -> aB
theorem de5 {α γ:Type}{f:α->Option (α⊕γ)}(I:α->Prop)(m:α->Nat)(Q:γ->Prop)(h: ∀a,I a->(∃b,f a=C (.inl b)/\I b/\m b<m a)∨∃c,f a=C (.inr c)/\Q c): ∀(n:Nat) (a:α),I a->m a<n->∃c,cj f n a=C c/\Q c:=by
 intro n;induction n with
 |zero=>intro a _ h1;omega
 |succ n ih=>
  intro a hI hm;rcases h a hI with⟨b,h1,h2,h3⟩|⟨c,h1,h2⟩
  .obtain⟨c,h4,h5⟩:=ih b h2 (by omega);exact⟨c,by rw[eo,h1];exact h4,h5⟩
  .exact⟨c,by rw[eo,h1];rfl,h2⟩
theorem ap4 {α γ:Type}{f:α->Option (α⊕γ)}{a:α}(I:α->Prop)(m:α->Nat)(Q:γ->Prop)(h0:I a)(hm:m a<18446744073709551616)(h: ∀a,I a->(∃b,f a=C (.inl b)/\I b/\m b<m a)∨∃c,f a=C (.inr c)/\Q c): ∃c,cj f gi a=C c/\Q c:=
 de5 I m Q h gi a h0 hm
theorem dy5 {α γ:Type}{f:α->Option (α⊕γ)}{a:α}{c:γ}(I:α->Prop)(m:α->Nat)(h0:I a)(hm:m a<18446744073709551616)(h: ∀a,I a->(∃b,f a=C (.inl b)/\I b/\m b<m a)∨f a=C (.inr c)):cj f gi a=C c:=by
 obtain⟨c',h1,h2⟩:=ap4 I m (· =c) h0 hm λa ha=>by
  rcases h a ha with h|h
  .exact .inl h
  .exact .inr ⟨c,h,rfl⟩
 rw[h1,h2]
theorem cd {α:Type}{p:Prop}[Decidable p]{x y:α}:cond (decide p) x y=if p then x else y:=by by_cases h:p<;>simp[h]
theorem fg {β:Type}{x:Option β}:gd Za x=x:=rfl
theorem dL0 {β:Type}{p:Prop}[Decidable p]{x:Option β}(h:p):gd (decide p) x=x:=by rw[zD h];rfl
theorem ej {β:Type}{n b:Nat}{x:Option β}(h:n*b<=140737488355328)(hb:1<=b):gd (jq n b) x=x:=by
 have:jq n b=Za:=by
  unfold jq;rw[zD h,Bool.true_and];exact Nat.ble_eq_true_of_le hb
 rw[this];rfl
theorem dh {α:Type}{l:List α}{i:Nat}(h:i<l.length):rd l (i:Int)=C l[i]:=by
 unfold rd;rw[zD (by omega),yB,Int.toNat_natCast,aB h]
theorem cy0 {α:Type}{l:List α}{i:Int}(h0:0<=i)(h:i<l.length):rd l i=C (l[i.toNat]'(by omega)):=by
 unfold rd;rw[zD h0,yB,aB (by omega)]
theorem bg {n:Int}(h: -9223372036854775808<=n/\n<=9223372036854775807):IntKind.i64.wrap n=n:=IntWalk.i64_in _ h
theorem dg {α γ β:Type}{a:α}{f:α->Option β}{g:γ->Option β}:da (.inl a) f g=f a:=rfl
theorem cq {α γ β:Type}{a:γ}{f:α->Option β}{g:γ->Option β}:da (.inr a) f g=g a:=rfl
theorem bF8.lst {k:IntKind}{w:World}{a:Option Addr}{len cap:Nat}{zs:Zd}{rows:List Row}{j:Nat}(h:bF8 k w a len cap zs)(hr:rows[j]?=C (by3 k a cap zs)):
  VRel (ak2 (tt w.heap.size rows)) (.lst (.int k) (zs.take len)) (dr4 j a len cap):=by
 rcases h with⟨rfl,rfl,rfl,rfl⟩|⟨x,rfl,hl,hm,hz,hc,hw⟩
 .exact .lstn λz hz=>by cases hz
 .by_cases h0:cap=0
  .have:len=0:=by omega
   subst h0;subst this;have:zs.take 0=([]:Zd):=rfl;rw[this];exact .lstn λz hz=>by injection hz with hz;rw[<-hz]
  .have hz0:0<zs.length:=by omega
   have hlt:x.block<w.heap.size:=cu8 (x:=⟨x.block,x.off+0,O⟩) (aA9 (bi6 (hc 0 hz0)) (hc 0 hz0))
   have hm:(tt w.heap.size rows).m j=C ⟨zs.map (Value.int k),Zb,1⟩:=by
    simp only[tt,hr,wA,by3,xB hlt]
   refine .lst (bp3 j) hm rfl (by rw[List.length_take];omega) hl ?_ ?_
   .simp only[List.length_map,Nat.zero_add];show len*1<=zs.length;omega
   .rw[List.drop_zero];show F2 _ _ ((zs.map (Value.int k)).take (len*1));rw[Nat.mul_one,<-List.map_take];generalize zs.take len=l;induction l with
    |nil=>exact .nil
    |cons n l ih=>exact .cons (.int _ _) ih
end
section
def bd3 (a:AFn)(tab:Tab)(vals:List Sk)(objs:List OSk)(outs:List Alt)(at':AT)(t:Tup (SSk.shs ⟨vals,[],objs⟩)):Option (ao4 outs):=
 match wY id ⟨vals,[],objs⟩ (toL _ t)with
 |some (vs,_,S)=>gd (Nat.ble vs.length a.ntmps) (eval tab a.body at' (ao4 outs) vs S λx e S'=>match x with
  | .exit _=>O
  |_=>(match by2 e S' a.results with
   |some rs=>ar5 S' S.length (ah6 objs 0) (λ_=>[cL8 rs]) (λ_=>Za) outs
   |none=>O))
 |_=>O
theorem cf7 {P:Program}{f:FuncId}{af:AFn}{tab:Tab}{vals:List Sk}{objs:List OSk}{outs:List Alt}{at':AT}{run:Tup (SSk.shs ⟨vals,[],objs⟩)->Option (ao4 outs)}(ht:nh P tab.fs)(hi:cg P tab.is)(htr:cL6 P f=C af)(hen0: ∀t:Tup (SSk.shs ⟨vals,[],objs⟩),∃r,wY id ⟨vals,[],objs⟩ (toL _ t)=C r)
  (he: ∀t o vs fs S,run t=C o->wY id ⟨vals,[],objs⟩ (toL _ t)=C (vs,fs,S)->∀(c:Ctx) args,F2 (VRel c) vs args->
   ∃b,bd3 ⟨af.ntmps,af.results,b⟩ tab vals objs outs at' t=C o/\∀T (_:ac0 T) Q Y,wpA T b Q (ey.of args) Y->wpA T af.body Q (ey.of args) Y):at0 P ⟨f,vals,objs,outs,run⟩:=by
 intro B Z Y w args cargs K hs hR0 ha;obtain⟨c,vals',st,t,o,p,v,fs,bs,S',h1,hR,hf,hd,hl,hcut,hok,hrun,hp,henc,hS,hK⟩:=hs;subst h1;have htl:toL (SSk.shs ⟨vals,[],objs⟩) t=st.ls:=bx1 hl;cases hen:wY id ⟨vals,[],objs⟩ (toL (SSk.shs ⟨vals,[],objs⟩) t)with
 |none=>
  obtain⟨r,q⟩:=hen0 t;rw[hen]at q;cases q
 |some tr=>
 obtain⟨vs,fs0,S0⟩:=tr;refine cW7 htr (ed tab) (bf6 ht hi) B Z c.Y w args cargs K ?_ hR0 ha;have hen':=hen;rw[htl]at hen;obtain⟨hE,hfv⟩:=enter hR rfl hd hen hf;obtain⟨bd,hev,himp⟩:=he t o vs fs0 S0 hrun hen' _ _ hfv;unfold bd3 at hev;rw[hen']at hev;obtain⟨hg,hev⟩:=co hev;have hlen:args.length<=af.ntmps:=by rw[<-hfv.length];exact Nat.le_of_ble_eq_true hg
 refine⟨hlen,himp _ (ed tab) _ _ ?_⟩;obtain⟨l1,l2⟩:=hE.len;have hbody:=aa4 bd at' (c:=sw c st S0) hE.rel (bR5 hfv) hev;refine jc (ed tab) bd _ _ (λx ea Y' hx=> ?_) _ _ hbody;obtain⟨e',c',h2,h3,h4,h5,h6⟩:=hx;subst h2
 have fin:(match by2 e' c'.S af.results with
   |some rs=>ar5 c'.S S0.length (ah6 objs 0) (λ_=>[cL8 rs]) (λ_=>Za) outs
   |none=>O)=C o->(match bE3 ea c'.Y af.results with
   |some vs=>K (aH0 vs) c'.Y
   |none=>False):=by
  intro h7;split at h7
  .rename_i rs hrs;obtain⟨us,h8,h9⟩:=bN1 h4 h5 hrs;rw[h8];simp only;obtain⟨p',q1,_,q3⟩:=bg9 h7;simp only at hp;rw[hp]at q1;injection q1 with q1
   subst q1;obtain⟨hro,st',q4,q5⟩:=bh0 q3;obtain⟨ap1,_⟩:=wV hd;have hnd:=wQ ap1;rw[List.nil_append]at hnd;simp only at henc hS hcut hok;rw[q5]at henc
   have hlent: ∀(i:Nat) (o:OSk) (x:Src),objs[i]?=C o->o.ro=Za->st.m[i]?=C (C x)->x.k∈st.lent:=by
    intro i o x g1 g2 g3;unfold vn at hd;obtain⟨st1,d1,hd⟩:=cf hd;obtain⟨st2,d2,hd⟩:=cf hd;obtain⟨st3,d3,hd⟩:=cf hd
    have:st3=st:=by
     cases hb:(bm5 ([]++vo st3.m)&&aT0 ([]++pa (FSum.ins ⟨f,vals,objs,outs,run⟩).free st3.m) st3.lent)with
     |false=>rw[hb]at hd;cases hd
     |true=>rw[hb]at hd;injection hd
    subst this;exact cy7 d3 i o x g1 g2 (by rw[Nat.zero_add];exact g3)
   obtain⟨ct,r1,r2,r3,r4,r5,r6⟩:=bY0 hR rfl hE h3 h4 hcut hok hnd hlent hro (by rw[<-l1];exact q4) henc (.cons (cz7 h9) .nil) hS;cases r5 with
   |cons r5 _=>exact hK _ _ ⟨ct,r1,r2,r3,r4,r5,r6⟩
  .cases h7
 cases x with
 |exit i=>cases h6
 |normal=>exact fin h6
 |ret=>exact fin h6
def cP1 (es bytes:Nat)(z:List Value)(c:AOp)(n:AOp):AC:=
 .seq (.region [⟨C 2, .move (.const (.slice O 0 0)),O⟩]) (.seq (.seq (.region [⟨C 3, .move (.tmp 0),O⟩,⟨C 4,c,O⟩]) (.cond (.tmp 4) (.seq (.region [⟨C 2,n,O⟩]) .ret) .skip))
  (.seq (.region [⟨C 5, .buildSlice es 0 z [],O⟩,⟨C 6, .move (.tmp 0),O⟩,⟨C 7, .append es bytes (.tmp 5) (.tmp 6),O⟩,⟨C 2, .move (.tmp 7),O⟩]) .ret))
def cv0 (es bytes:Nat)(z:List Value):AFn:=⟨8,[.tmp 2],cP1 es bytes z (.eqv 2 Zb (.tmp 3) (.const (.slice O 0 0))) (.move (.const (.slice O 0 0)))⟩
def dv1 (es bytes:Nat)(z:List Value):AFn:=⟨8,[.tmp 2],cP1 es bytes z (.move (.const (.bool Zb))) (.move (.const (.slice O 0 0)))⟩
def dk5 (es bytes:Nat)(z:List Value):AFn:=⟨8,[.tmp 2],cP1 es bytes z (.move (.const (.bool Za))) (.append es bytes (.const (.slice O 0 0)) (.tmp 0))⟩
def aB0 (s:Sh):List Alt:=[⟨.ret,[],⟨[.full 0],[],[.arr Zb s]⟩⟩]
theorem bd0 {P:Program}{f:FuncId}{es bytes:Nat}{z:List Value}{s:Sh}(htr:cL6 P f=C (cv0 es bytes z))
  (h0: ∀t:Tup (SSk.shs ⟨[.leaf (.list s)],[],[]⟩),wY id ⟨[.leaf (.list s)],[],[]⟩ (toL _ t)=C ([.lst s t],[],[]))
  (h1: ∀l:List (El s),bd3 (dv1 es bytes z) ⟨[],[]⟩ [.leaf (.list s)] [] (aB0 s) .no l=gd (jq (0+l.length) bytes) (C l))
  (h2:bd3 (dk5 es bytes z) ⟨[],[]⟩ [.leaf (.list s)] [] (aB0 s) .no ([]:List (El s))=gd (jq (0+0) bytes) (C ([]:List (El s)))):
  at0 P ⟨f,[.leaf (.list s)],[],aB0 s,λl:List (El s)=>gd (jq (0+l.length) bytes) (C l)⟩:=by
 refine cf7 (at':= .no) (tab:=⟨[],[]⟩) (nh.nil P) (cg.nil P) htr (λt=>⟨_,h0 t⟩) λt o vs fs S hrun hen c args ha=> ?_
 have hvs:vs=[.lst s t]:=by
  rw[h0 t]at hen;injection hen with hen
  injection hen with hen
  exact hen.symm
 subst hvs;cases ha with
 |cons ha hb=>
 cases hb
 have no: ∀q n cp (args:List Value),args=[.slice (C q) n cp]->∃b,bd3 ⟨(cv0 es bytes z).ntmps,(cv0 es bytes z).results,b⟩ ⟨[],[]⟩ [.leaf (.list s)] [] (aB0 s) .no t=C o/\
   ∀T (_:ac0 T) Q Y,wpA T b Q (ey.of args) Y->wpA T (cv0 es bytes z).body Q (ey.of args) Y:=by
  rintro q n cp args rfl;exact⟨_,(h1 t).trans hrun,λT _ Q Y h=>h⟩
 cases ha with
 | @lst s l b p n cp y h3 h4 h5 h6 h7 h8 h9=>exact no _ _ _ _ rfl
 | @lstn s q h3=>
  cases q with
  |some q=>exact no _ _ _ _ rfl
  |none=>exact⟨_,h2.trans hrun,λT _ Q Y h=>h⟩
theorem qj {P:Program}{f:FuncId}{vals:List Sk}{objs:List OSk}{outs:List Alt}{run:Tup (SSk.shs ⟨vals,[],objs⟩)->Option (ao4 outs)}(h: ∀t,run t=O):at0 P ⟨f,vals,objs,outs,run⟩:=by
 intro B Z Y w args cargs K hs;obtain⟨c,vals',st,t,o,p,v,fs,bs,S',h1,hR,hf,hd,hl,hcut,hok,hrun,_⟩:=hs;have hrun:run t=C o:=hrun;rw[h t]at hrun;cases hrun
end
open Go.Ab Go.ChangeShapes Go.WideShapes
section
theorem de3 {P:Program}{f:FuncId}{vals:List Sk}{run:Tup (SSk.shs ⟨vals,[],[]⟩)->Option (ao4 bp4)}(h:at0 P ⟨f,vals,[],bp4,run⟩){w:World}(hT:db0 P w){rows:List Row}{args:List Value}{cargs:Array Value}{vs:List VV}(t:Tup (SSk.shs ⟨vals,[],[]⟩))
  (hrows: ∀r∈rows,∀(i:Nat) (v:Value),r.cells[i]?=C v->∃v',w.cell? ⟨r.c,r.o+i,O⟩=C v'/\VR (uu rows) v v') (hargs:F2 (VR (uu rows)) args cargs.toList)
  (hv:F2 (VRel (ak2 (tt w.heap.size rows))) vs args) (hd:((vn [] 0 [] ⟨vals,[],[]⟩ vs).bind λst=>ofL _ st.ls)=C t) (hr:run t=C Za):
  Calls P f cargs w λe w'=>e= .returned (.bool Za)/\Go.RowKit.Below w.heap.size w w':=by
 obtain⟨st,h1,h2⟩:=cf hd;exact dm9 h hT hrows hargs hv h1 h2 hr
end
section
open Int renaming tmod -> aB, tmod_lt_of_pos -> aD
theorem aB8 {α δ:Type}{f:α->Option (α⊕δ)}{n:Nat}(F:Nat->α){c:δ}(hn:n<9223372036854775808)(hs: ∀i,i<n->f (F i)=C (.inl (F (i+1))))(he:f (F n)=C (.inr c)):cj f gi (F 0)=C c:=by
 have key: ∀k i m,i+k=n->k<m->cj f m (F i)=C c:=by
  intro k;induction k with
  |zero=>
   intro i m h1 h2;obtain⟨m,rfl⟩: ∃m',m=m'+1:=⟨m-1,by omega⟩
   have:i=n:=by omega
   subst this;show(f (F i)).bind _=_;rw[he];rfl
  |succ k ih=>
   intro i m h1 h2;obtain⟨m,rfl⟩: ∃m',m=m'+1:=⟨m-1,by omega⟩
   show(f (F i)).bind _=_;rw[hs i (by omega)];exact ih (i+1) m (by omega) (by omega)
 exact key n 0 gi (by omega) (by unfold gi;omega)
theorem gl {γ δ:Type}{f:(Int×γ)->Option ((Int×γ)⊕δ)}{n:Nat}(F:Nat->γ){c:δ}(hn:n<9223372036854775808)(hs: ∀i,i<n->f ((i:Int),F i)=C (.inl (((i+1:Nat):Int),F (i+1))))(he:f ((n:Int),F n)=C (.inr c)):cj f gi (0,F 0)=C c:=
 aB8 (λi=>((i:Int),F i)) hn hs he
theorem ad1 {δ:Type}{f:Int->Option (Int⊕δ)}{n:Nat}{c:δ}(hn:n<9223372036854775808)(hs: ∀i:Nat,i<n->f (i:Int)=C (.inl ((i+1:Nat):Int)))(he:f (n:Int)=C (.inr c)):cj f gi 0=C c:=
 aB8 (λi=>(i:Int)) hn hs he
theorem bD3 {α γ δ:Type}{f:(Int×γ)->Option ((Int×γ)⊕δ)}{l:List α}(g:γ->α->γ)(s:γ){c:γ->δ}(hn:l.length<9223372036854775807)
  (hs: ∀(i:Nat) (h:i<l.length) s,f ((i:Int),s)=C (.inl (((i+1:Nat):Int),g s l[i]))) (he: ∀s,f ((l.length:Int),s)=C (.inr (c s))):cj f gi (0,s)=C (c (l.foldl g s)):=by
 have h:=gl (f:=f) (n:=l.length) (λi=>(l.take i).foldl g s) (c:=c (l.foldl g s)) (by omega) ?_ ?_
 .exact h
 .intro i hi;rw[hs i hi,List.take_succ_eq_append_getElem hi,List.foldl_append];rfl
 .rw[he,List.take_length]
theorem cQ7 {γ δ:Type}{f:(Int×γ)->Option ((Int×γ)⊕δ)}(F:Nat->γ)(n:Nat)(hn:n<9223372036854775808)(stop:Nat->Prop)[DecidablePred stop](c:Nat->δ)
  (hs: ∀i,i<n->¬stop i->(∀j,j<i->¬stop j)->f ((i:Int),F i)=C (.inl (((i+1:Nat):Int),F (i+1)))) (hx: ∀i,i<n->stop i->(∀j,j<i->¬stop j)->f ((i:Int),F i)=C (.inr (c i))) (e:δ) (he:(∀j,j<n->¬stop j)->f ((n:Int),F n)=C (.inr e)):
  (∃i,i<n/\stop i/\(∀j,j<i->¬stop j)/\cj f gi (0,F 0)=C (c i))∨((∀j,j<n->¬stop j)/\cj f gi (0,F 0)=C e):=by
 by_cases h: ∃i,i<n/\stop i
 .obtain⟨i,h1,h2⟩:=h
  have hex: ∃i,i<n/\stop i/\∀j,j<i->¬stop j:=by
   induction i using Nat.strongRecOn with
   |ind i ih=>
    by_cases hj: ∃j,j<i/\stop j
    .obtain⟨j,h3,h4⟩:=hj;exact ih j h3 (by omega) h4
    .exact⟨i,h1,h2,λj h h3=>hj ⟨j,h,h3⟩⟩
  obtain⟨i,h1,h2,h3⟩:=hex;exact .inl ⟨i,h1,h2,h3,gl F (n:=i) (by omega) (λj hj=>hs j (by omega) (h3 j hj) λk hk=>h3 k (by omega)) (hx i h1 h2 h3)⟩
 .have h': ∀j,j<n->¬stop j:=λj hj hs=>h ⟨j,hj,hs⟩
  exact .inr ⟨h',gl F hn (λj hj=>hs j hj (h' j hj) λk hk=>h' k (by omega)) (he h')⟩
theorem da7 (n:Int):IntKind.u64.wrap n=n % 18446744073709551616:=by rfl
theorem cm2 {n:Nat}(h:n<9223372036854775808):IntKind.u64.wrap (n:Int)=n:=by
 rw[da7];omega
theorem gq {n:Int}(h:0<=n/\n<18446744073709551616):IntKind.u64.wrap n=n:=by
 rw[da7];omega
theorem cZ2 {l:Zd}{i:Nat}(h:i<l.length):rd l (i:Int)=C (l.getD i 0):=by
 rw[dh h,List.getD_eq_getElem?_getD,List.getElem?_eq_getElem h];rfl
theorem cw {k n:Nat}(h:k<n):ix (k:Int) n=C k:=by
 unfold ix;rw[zD (show(0:Int)<=k by omega),zD (show(k:Int)<n by omega)];rfl
theorem i7 {a b:Int}{n:Nat}(h:0<=a/\a<=b/\b<=n):md a b n=Za:=by
 unfold md;rw[zD h.1,zD h.2.1,zD h.2.2];rfl
theorem da4 {a b:Int}(h:0<=a):Int.tdiv a b=a / b:=Int.tdiv_eq_ediv_of_nonneg h
theorem spot {L:Nat}(h0:0<L)(hL:L<=1000000){a:Int}(ha: -9223372036854775808<=a/\a<=9223372036854775807): ∃k:Nat,k<L/\aB (IntKind.i64.wrap (aB a (L:Int)+(L:Int))) (L:Int)=(k:Int):=by
 have hp:(0:Int)<(L:Int):=by omega
 have h1:=aD a hp;have h2:=Int.lt_tmod_of_pos a hp;rw[bg (by omega)];have h3:=Int.tmod_nonneg (L:Int) (show 0<=aB a (L:Int)+(L:Int)by omega);have h4:=aD (aB a (L:Int)+(L:Int)) hp;exact⟨(aB (aB a (L:Int)+(L:Int)) (L:Int)).toNat,by omega,by omega⟩
end
section
open List renaming append_nil -> aD, append_assoc -> bB, getElem?_eq_getElem -> bD, getElem?_append_left -> cD, length_append -> dB, drop_zero -> dD, getElem?_append_right -> eD, length_cons -> iA, length_take -> iB, take_of_length_le -> iC
open Nat renaming beq -> aB, eq_of_beq_eq_true -> cB, le_refl -> fB, not_lt_zero -> fD, zero_add -> gB, zero_mul -> gD, eq_zero_or_pos -> iD
open Option renaming map_some -> iE
def nz (w:World):(s:Sh)->List Value->El s->Prop
 | .int k,cs,n=>cs=[.int k n]/\(Lit.int k n).wf=Za
 | .bool,cs,b=>cs=[.bool b]
 | .str,cs,l=> ∃s:ByteArray,cs=[.string s]/\fp s=l/\s.size<=maxLen
 | .list s,cs,l=>(cs=[.slice O 0 0]/\l=[])∨∃(a:Addr) (len cap:Nat) (ys:List (El s)),cs=[.slice (C a) len cap]/\len<=cap/\cap<=maxLen/\ys.length=cap/\l=ys.take len/\
   ∀i y,ys[i]?=C y->∃zs,(∀j z,zs[j]?=C z->w.cell? (a.add (i*s.w+j))=C z)/\nz w s zs y
 | .pair a b,cs,x=> ∃c1 c2,cs=c1++c2/\nz w a c1 x.1/\nz w b c2 x.2
theorem nz.len {w:World}: ∀{s:Sh} {cs:List Value} {x:El s},nz w s cs x->cs.length=s.w
 | .int k,_,_,⟨h,_⟩=>by subst h;rfl
 | .bool,_,_,h=>by
  have h:_=[Value.bool _]:=h;subst h;rfl
 | .str,_,_,⟨s,h,_⟩=>by subst h;rfl
 | .list s,_,_,h=>by
  rcases h with⟨h,_⟩|⟨a,len,cap,ys,h,_⟩<;>subst h<;>rfl
 | .pair a b,_,_,⟨c1,c2,h,h1,h2⟩=>by
  subst h;rw[dB,h1.len,h2.len];rfl
def aA5 (w:World)(rows:List Row):Prop:= ∀r∈rows,∀(i:Nat) (v:Value),r.cells[i]?=C v->∃v',w.cell? ⟨r.c,r.o+i,O⟩=C v'/\VR (uu rows) v v'
theorem cy8 (rows more:List Row):(uu rows).le (uu (rows++more)):=by
 intro b g h;simp only[uu]at h⊢;cases hr:rows[b]? with
 |none=>rw[hr]at h;cases h
 |some r=>
  rw[hr]at h;obtain⟨hb,hr'⟩:=List.getElem?_eq_some_iff.1 hr;rw[cD hb,hr];exact h
theorem cZ6 (size:Nat)(rows more:List Row):Le (ak2 (tt size rows)) (ak2 (tt size (rows++more))):=by
 have hs: ∀k,cc ([]:ci) k= .dead:=λk=>by cases k<;>rfl
 refine⟨fB _,λk d h=>(fD _ h).elim,λk _ h=> ?_,λk d b y h=>(fD _ h).elim,λb y h _=> ?_,λb y _ _ h=>(bp3 b (.inl h)).elim, ?_,rfl⟩
 .rfl
 .simp only[ak2,tt]at h⊢;cases hr:rows[b]? with
  |none=>rw[hr]at h;cases h
  |some r=>
   rw[hr]at h;obtain⟨hb,hr'⟩:=List.getElem?_eq_some_iff.1 hr;rw[cD hb,hr];exact h
 .show rows.length<=(rows++more).length;rw[dB];omega
theorem di4 {Z Z':Mu}(h:Z.le Z'){l m:List Value}(hf:F2 (VR Z) l m):F2 (VR Z') l m:=hf.imp λ_ _ hv=>hv.mono h
theorem aA5.app {w:World}{rows more:List Row}(h:aA5 w rows)(hm: ∀r∈more,∀(i:Nat) (v:Value),r.cells[i]?=C v->∃v',w.cell? ⟨r.c,r.o+i,O⟩=C v'/\VR (uu (rows++more)) v v'):aA5 w (rows++more):=by
 intro r hr i v hv;rcases List.mem_append.1 hr with hr|hr
 .obtain⟨v',h1,h2⟩:=h r hr i v hv;exact⟨v',h1,h2.mono (cy8 _ _)⟩
 .exact hm r hr i v hv
theorem du4 (a:Addr)(i j:Nat):(a.add i).add j=a.add (i+j):=by
 unfold Addr.add;by_cases hj:j=0
 .subst hj;simp
 .by_cases hi:i=0
  .subst hi;simp
  .simp[hi,hj,Nat.add_assoc]
structure Built (w:World)(rows more:List Row)(acs cs:List Value)(vs:List VV):Prop where
 ok:aA5 w (rows++more)
 vr:F2 (VR (uu (rows++more))) acs cs
 vv:F2 (VRel (ak2 (tt w.heap.size (rows++more)))) vs acs
theorem Built.app {w:World}{rows m1 m2:List Row}{a1 a2 c1 c2:List Value}{v1 v2:List VV}(h1:Built w rows m1 a1 c1 v1)(h2:Built w (rows++m1) m2 a2 c2 v2):Built w rows (m1++m2) (a1++a2) (c1++c2) (v1++v2):=by
 refine⟨?_, ?_, ?_⟩
 .rw[<-bB];exact h2.ok
 .rw[<-bB];exact(di4 (cy8 _ _) h1.vr).append h2.vr
 .rw[<-bB];exact(VRel.frames (cZ6 _ _ _) h1.vv).append h2.vv
theorem Built.nil {w:World}{rows:List Row}(h:aA5 w rows):Built w rows [] [] [] []:=⟨by rw[aD];exact h, .nil, .nil⟩
theorem dk1 {w:World}{s:Sh}(ih: ∀{cs:List Value} {x:El s},nz w s cs x->∀{rows:List Row},aA5 w rows->∃more acs,Built w rows more acs cs (gk s x))(a:Addr): ∀(ys:List (El s)) (k:Nat),
  (∀i y,ys[i]?=C y->∃zs,(∀j z,zs[j]?=C z->w.cell? (a.add ((k+i)*s.w+j))=C z)/\nz w s zs y)->∀{rows:List Row},aA5 w rows->
  ∃more acs ccs,Built w rows more acs ccs (io s ys)/\ccs.length=ys.length*s.w/\∀i z,ccs[i]?=C z->w.cell? (a.add (k*s.w+i))=C z
 |[],k,_,rows,h=>⟨[],[],[], .nil h,by simp,λi z hz=>by simp at hz⟩
 |y::ys,k,hy,rows,h=>by
  obtain⟨zs,h1,h2⟩:=hy 0 y rfl;obtain⟨m1,a1,h3⟩:=ih h2 h
  obtain⟨m2,a2,c2,h4,h5,h6⟩:=dk1 ih a ys (k+1) (λi y' hy'=>by
   obtain⟨zs',h7,h8⟩:=hy (i+1) y' (by simpa using hy')
   exact⟨zs',λj z hz=>by rw[show k+1+i=k+(i+1)by omega];exact h7 j z hz,h8⟩) h3.ok
  refine⟨m1++m2,a1++a2,zs++c2, ?_, ?_,λi z hz=> ?_⟩
  .have:=h3.app h4;rw[jr];exact this
  .rw[dB,h5,h2.len,iA,Nat.succ_mul];omega
  .have hl:=h2.len;by_cases hi:i<zs.length
   .rw[cD hi]at hz;have:=h1 i z hz
    rwa [Nat.add_zero]at this
   .rw[eD (by omega)]at hz;have:=h6 _ z hz;rw[show(k+1)*s.w+(i-zs.length)=k*s.w+i by rw[Nat.succ_mul];omega]at this;exact this
theorem build {w:World}: ∀(s:Sh) {cs:List Value} {x:El s},nz w s cs x->∀{rows:List Row},aA5 w rows->∃more acs,Built w rows more acs cs (gk s x)
 | .int k,_,n,⟨h,_⟩,rows,hr=>by
  subst h;exact⟨[],_,by rw[aD];exact hr, .cons (.int _ _) .nil, .cons (.int _ _) .nil⟩
 | .bool,_,b,h,rows,hr=>by
  have h:_=[Value.bool _]:=h;subst h;exact⟨[],_,by rw[aD];exact hr, .cons (.bool _) .nil, .cons (.bool _) .nil⟩
 | .str,_,l,⟨s,h,h2,_⟩,rows,hr=>by
  subst h;exact⟨[],_,by rw[aD];exact hr, .cons (.string _) .nil, .cons (.str h2) .nil⟩
 | .pair a b,_,x,⟨c1,c2,h,h1,h2⟩,rows,hr=>by
  subst h;obtain⟨m1,a1,h3⟩:=build a h1 hr;obtain⟨m2,a2,h4⟩:=build b h2 h3.ok;exact⟨m1++m2,a1++a2,h3.app h4⟩
 | .list s,_,l,h,rows,hr=>by
  rcases h with⟨h,h2⟩|⟨a,len,cap,ys,h,hlc,hcm,hyl,hl,hy⟩
  .subst h;subst h2;exact⟨[],_,by rw[aD];exact hr, .cons .nils .nil, .cons (.lstn λz hz=>by cases hz) .nil⟩
  .subst h;obtain⟨m1,a1,c1,h1,h2,h3⟩:=dk1 (λhc=>build s hc) a ys 0 (λi y h=>by rw[gB];exact hy i y h) hr;have hw:=uy s;rw[hyl]at h2;have hal:a1.length=cap*s.w:=by rw[h1.vr.length,h2]
   let row:Row:=⟨a.block,a.off,cap*s.w,s.w,a1⟩
   have hspot:0<cap->a.spot=O/\a.block<w.heap.size:=by
    intro hc;have hlt:0<c1.length:=by rw[h2];exact Nat.mul_pos hc hw
    have:=h3 0 _ (bD hlt);rw[gD,Nat.add_zero]at this;have hsp:=bi6 this;exact⟨hsp,cu8 (x:=⟨a.block,a.off+0,O⟩) (aA9 hsp this)⟩
   have hget: ∀(rs:List Row),(rows++(m1++[row])++rs)[(rows++m1).length]?=C row:=by
    intro rs;rw[<-bB,bB _ [row],eD (fB _),Nat.sub_self];rfl
   have hmu:(uu (rows++(m1++[row]))).at (rows++m1).length ⟨a.block,a.off,cap*s.w,s.w,0,O⟩:=by
    have:=hget [];rw[aD]at this;refine⟨?_,rfl⟩;simp only[uu,this];rfl
   have hok:aA5 w (rows++(m1++[row])):=by
    rw[<-bB];refine h1.ok.app λr hr' i v hv=> ?_
    have:r=row:=by simpa using hr'
    subst this;obtain⟨v',q1,q2⟩:=h1.vr.get i v hv;have hc:=h3 i v' q1;rw[gD,gB]at hc
    have hcap:0<cap:=by
     rcases iD cap with e|e
     .have hv:a1[i]?=C v:=hv;obtain⟨hi,_⟩:=List.getElem?_eq_some_iff.1 hv;rw[hal,e,gD]at hi;exact(fD _ hi).elim
     .exact e
    exact⟨v',aA9 (hspot hcap).1 hc,q2.mono (cy8 _ _)⟩
   refine⟨m1++[row],[.slice (C ⟨(rows++m1).length,0,O⟩) len cap],hok, ?_, ?_⟩
   .refine .cons ?_ .nil;by_cases hc:cap=0
    .have:len=0:=by omega
     subst hc;subst this;exact .slice0 _ hmu
    .have hsp:=(hspot (by omega)).1;obtain⟨b,o,sp⟩:=a;simp only at hsp;subst hsp;exact .slice (o:=0) hmu hlc (fB _) (by simp)
   .refine .cons ?_ .nil;by_cases hc:cap=0
    .have e:len=0:=by omega
     subst hc;subst e;rw[hl,List.take_zero];exact .lstn λz hz=>by injection hz with hz;rw[<-hz]
    .have hlt:=(hspot (by omega)).2
     have hm:(ak2 (tt w.heap.size (rows++(m1++[row])))).Y.m (rows++m1).length=C ⟨a1,Zb,s.w⟩:=by
      have:=hget [];rw[aD]at this;simp only[ak2,tt,this,wA];exact xB hlt
     have hlen:l.length=len:=by rw[hl,iB];omega
     refine .lst (bp3 _) hm rfl hlen.symm hlc ?_ ?_
     .show 0+len*s.w<=a1.length;rw[hal,gB];exact Nat.mul_le_mul_right _ hlc
     .show F2 _ _ ((a1.drop 0).take (len*s.w));rw[dD,hl]
      have h5:F2 (VRel (ak2 (tt w.heap.size (rows++(m1++[row]))))) (io s ys) a1:=by
       rw[<-bB];exact VRel.frames (cZ6 _ _ _) h1.vv
      have h6:io s (ys.take len)=(io s ys).take (len*s.w):=qg;rw[h6];exact h5.take _
def aJ7 :List Sh->Sh
 |[]=> .bool
 |[a]=>a
 |a::b::r=> .pair a (aJ7 (b::r))
theorem cG8 {w:World}: ∀{l1 l2:List Sh} {c1 c2:List Value},l1≠[]->l2≠[]->(∃x,nz w (aJ7 l1) c1 x)->(∃x,nz w (aJ7 l2) c2 x)->∃x,nz w (aJ7 (l1++l2)) (c1++c2) x
 |[a],b::r,c1,c2,_,_,⟨x,h1⟩,⟨y,h2⟩=>⟨(x,y),c1,c2,rfl,h1,h2⟩
 |a::b::r,l2,c1,c2,_,hl,⟨x,d1,d2,h0,h1,h2⟩,h3=>by
  subst h0;obtain⟨z,h4⟩:=cG8 (l1:=b::r) (by simp) hl ⟨x.2,h2⟩ h3;exact⟨(x.1,z),d1,d2++c2,by rw[bB],h1,h4⟩
def bv9 {α:Type}(P:Program)(r:TypeId->Option (List Sh))(ty:α->TypeId)(off:α->Nat):List α->Nat->Option (List Sh)
 |[],_=>C []
 |f::l,o=>cond (aB (off f) o) (match r (ty f)with
  |some (s::ss)=>cond (aB (s::ss).length (P.cellsOf (ty f))) ((bv9 P r ty off l (o+(s::ss).length)).map ((s::ss)++ ·)) O
  |_=>O) O
def ad0 (P:Program):Nat->TypeId->Option (List Sh)
 |0,_=>O
 |n+1,t=>match P.underlying t with
  |some (.int k)=>C [.int k]
  |some .bool=>C [.bool]
  |some .string=>C [.str]
  |some (.slice e)=>(match ad0 P n e with
   |some (s::ss)=>cond (aB (s::ss).length (P.cellsOf e)) (C [.list (aJ7 (s::ss))]) O
   |_=>O)
  |some (.struct fs)=>(match bv9 P (ad0 P n) Field.type Field.offset fs.toList 0 with
   |some L=>cond (aB L.length (P.cellsOf t)) (C L) O
   |none=>O)
  |some (.array m e)=>(match bv9 P (ad0 P n) (λ_=>e) (λi=>i*P.cellsOf e) (List.range m) 0 with
   |some L=>cond (aB L.length (P.cellsOf t)) (C L) O
   |none=>O)
  |_=>O
section
variable {H:Type} {enc:TypeId×Value->H} {P:Program} {w:World} {base:Nat} {held:Bool}
theorem be2 {α:Type}{n m:Nat}{ty:α->TypeId}{off:α->Nat}(ih: ∀{t:TypeId} {l:List Sh} {cs:List Value} {x:DataW H×List MemPlace},ad0 P n t=C l->l≠[]->DataW.trod enc P w base (λ_=>Za) held m t cs=C x->∃y,nz w (aJ7 l) cs y){cs:List Value}:
  ∀(fs:List α) (o:Nat) (L:List Sh),bv9 P (ad0 P n) ty off fs o=C L->L≠[]->(∀(i:Nat) (f:α),fs[i]?=C f->∃x,DataW.trod enc P w base (λ_=>Za) held m (ty f) ((cs.drop (off f)).take (P.cellsOf (ty f)))=C x)->
   ∃y,nz w (aJ7 L) ((cs.drop o).take L.length) y
 |[],o,L,h,hne,_=>by
  injection h with h
  exact(hne h.symm).elim
 |f::fs,o,L,h,hne,hm=>by
  obtain⟨y,hy⟩:=hm 0 f rfl;simp only[bv9]at h;cases hb:aB (off f) o with
  |false=>rw[hb]at h;cases h
  |true=>
   have hb:=cB hb;subst hb;rw[Nat.beq_refl,yB]at h;cases hr:ad0 P n (ty f)with
   |none=>rw[hr]at h;cases h
   |some l=>
    rw[hr]at h;cases l with
    |nil=>cases h
    |cons s ss=>
     simp only at h;cases hc:aB (s::ss).length (P.cellsOf (ty f))with
     |false=>rw[hc]at h;cases h
     |true=>
      rw[hc,yB]at h;have hc:=cB hc;rw[<-hc]at hy;have h1:=ih hr (by simp) hy;cases hf:bv9 P (ad0 P n) ty off fs (off f+(s::ss).length)with
      |none=>rw[hf]at h;cases h
      |some L2=>
       rw[hf,iE]at h;injection h with h
       subst h;rw[dB,List.take_add,List.drop_drop];cases L2 with
       |nil=>
        rw[List.length_nil,List.take_zero,aD,aD];exact h1
       |cons s2 r2=>exact cG8 (by simp) (by simp) h1 (be2 ih fs _ _ hf (by simp) λi g hg=>hm (i+1) g (by simpa using hg))
theorem ck1 {β:Type}{p:Nat->β->Prop}: ∀(n:Nat),(∀i,i<n->∃y,p i y)->∃ys:List β,ys.length=n/\∀i y,ys[i]?=C y->p i y
 |0,_=>⟨[],rfl,λi y h=>by simp at h⟩
 |n+1,h=>by
  obtain⟨ys,h1,h2⟩:=ck1 n λi hi=>h i (by omega)
  obtain⟨y,h3⟩:=h n (by omega);refine⟨ys++[y],by simp[h1],λi z hz=> ?_⟩;by_cases hi:i<ys.length
  .rw[cD hi]at hz;exact h2 i z hz
  .rw[eD (by omega)]at hz
   have:i-ys.length=0:=by
    rcases iD (i-ys.length)with e|e
    .exact e
    .rw[List.getElem?_eq_none (by simp;omega)]at hz;cases hz
   rw[this]at hz;injection hz with hz
   subst hz;have:i=n:=by omega
   subst this;exact h3
theorem dc4 {a:Addr}{c:Nat}{zs:List Value}(h:w.cells? base a c=C zs):zs.length=c/\∀j z,zs[j]?=C z->w.cell? (a.add j)=C z:=by
 unfold World.cells? at h;split at h
 .have hl:=mapM_some_length h;rw[List.length_range]at hl;refine⟨hl,λj z hz=> ?_⟩
  have hj:j<c:=by
   obtain⟨hj,_⟩:=List.getElem?_eq_some_iff.1 hz;omega
  have:=mapM_some_get h j j (by simp[hj]);rw[this,hz]
 .cases h
theorem do3 : ∀(l:List Sh),l≠[]->(∀s∈l,s.w=1)->(aJ7 l).w=l.length
 |[a],_,h=>h a (by simp)
 |a::b::r,_,h=>by
  show a.w+(aJ7 (b::r)).w=_;rw[h a (by simp),do3 (b::r) (by simp) λs hs=>h s (List.mem_cons_of_mem _ hs),iA (as:=b::r)];omega
theorem cv8 {α:Type}{n:Nat}{ty:α->TypeId}{off:α->Nat}(ih: ∀{t:TypeId} {l:List Sh},ad0 P n t=C l->∀s∈l,s.w=1): ∀(fs:List α) (o:Nat) (L:List Sh),bv9 P (ad0 P n) ty off fs o=C L->∀s∈L,s.w=1
 |[],o,L,h=>by
  injection h with h
  subst h;intro s hs;cases hs
 |f::fs,o,L,h=>by
  simp only[bv9]at h;cases hb:aB (off f) o with
  |false=>rw[hb]at h;cases h
  |true=>
   rw[hb,yB]at h;cases hr:ad0 P n (ty f)with
   |none=>rw[hr]at h;cases h
   |some l=>
    rw[hr]at h;cases l with
    |nil=>cases h
    |cons s ss=>
     simp only at h;cases hc:aB (s::ss).length (P.cellsOf (ty f))with
     |false=>rw[hc]at h;cases h
     |true=>
      rw[hc,yB]at h;cases hf:bv9 P (ad0 P n) ty off fs (o+(s::ss).length)with
      |none=>rw[hf]at h;cases h
      |some L2=>
       rw[hf,iE]at h;injection h with h
       subst h;intro q hq;rcases List.mem_append.1 hq with hq|hq
       .exact ih hr q hq
       .exact cv8 ih fs _ _ hf q hq
theorem cw0 : ∀(n:Nat) {t:TypeId} {l:List Sh},ad0 P n t=C l->∀s∈l,s.w=1
 |0,t,l,h=>by cases h
 |n+1,t,l,h=>by
  have one: ∀{a:Sh},a.w=1->C [a]=C l->∀s∈l,s.w=1:=by
   intro a ha e;injection e with e
   subst e;intro s hs;rw[List.mem_singleton]at hs;subst hs;exact ha
  simp only[ad0]at h;split at h
  .exact one rfl h
  .exact one rfl h
  .exact one rfl h
  .split at h
   .rename_i e hu x s ss hr;cases hc:aB (s::ss).length (P.cellsOf e)with
    |false=>rw[hc]at h;cases h
    |true=>rw[hc,yB]at h;exact one rfl h
   .cases h
  .split at h
   .rename_i L hf;cases hc:aB L.length (P.cellsOf t)with
    |false=>rw[hc]at h;cases h
    |true=>
     rw[hc,yB]at h;injection h with h
     subst h;exact cv8 (λh=>cw0 n h) _ _ _ hf
   .cases h
  .split at h
   .rename_i L hf;cases hc:aB L.length (P.cellsOf t)with
    |false=>rw[hc]at h;cases h
    |true=>
     rw[hc,yB]at h;injection h with h
     subst h;exact cv8 (λh=>cw0 n h) _ _ _ hf
   .cases h
  .cases h
theorem aT7 : ∀(n:Nat) {m:Nat} {t:TypeId} {l:List Sh} {cs:List Value} {x:DataW H×List MemPlace},ad0 P n t=C l->l≠[]->DataW.trod enc P w base (λ_=>Za) held m t cs=C x->∃y,nz w (aJ7 l) cs y
 |0,m,t,l,cs,x,h,_,_=>by cases h
 |n+1,m,t,l,cs,x,h,hne,hd=>by
  simp only[ad0]at h;split at h
  .rename_i k hu;injection h with h
   subst h;obtain⟨a,e1,_,e2⟩:=DataW.trod_int hu hd;exact⟨a,e1,e2⟩
  .rename_i hu;injection h with h
   subst h;obtain⟨a,e1,_⟩:=DataW.trod_bool hu hd;exact⟨a,e1⟩
  .rename_i hu;injection h with h
   subst h;obtain⟨a,e1,_,e2⟩:=DataW.trod_string hu hd;exact⟨_,a,e1,rfl,e2⟩
  .rename_i e hu;split at h
   .rename_i s ss hr;cases hc:aB (s::ss).length (P.cellsOf e)with
    |false=>rw[hc]at h;cases h
    |true=>
     rw[hc,yB]at h;injection h with h
     subst h;have hc:=cB hc;have hw:(aJ7 (s::ss)).w=P.cellsOf e:=by rw[do3 _ (by simp) (cw0 n hr),hc]
     rcases DataW.trod_slice hu hd with⟨e1,_⟩|⟨a,len,cap,elems,rest,m',_,e1,_,hb,hlc,hcm,hel,he,hrest⟩
     .exact⟨([]:List (El (aJ7 (s::ss)))), .inl ⟨e1,rfl⟩⟩
     .have hall: ∀i,i<cap->∃y:El (aJ7 (s::ss)),∃zs,(∀j z,zs[j]?=C z->w.cell? (a.add (i*(aJ7 (s::ss)).w+j))=C z)/\nz w (aJ7 (s::ss)) zs y:=by
       intro i hi
       have hsome: ∃q,(w.cells? base (a.add (i*P.cellsOf e)) (P.cellsOf e)).bind (DataW.trod enc P w base (λ_=>Za) held m' e)=C q:=by
        by_cases hi2:i<len
        .rw[he i hi2];exact⟨_,bD (by omega)⟩
        .obtain⟨h8,h9⟩:=hrest.1 rfl;have:=h9 (i-len) (by omega);rw[show len+(i-len)=i by omega]at this;rw[this];exact⟨_,bD (by omega)⟩
       obtain⟨q,hq⟩:=hsome;obtain⟨zs,h1,h2⟩:=cf hq;obtain⟨y,h3⟩:=aT7 n hr (by simp) h2;obtain⟨h4,h5⟩:=dc4 h1;exact⟨y,zs,λj z hz=>by rw[hw,<-du4];exact h5 j z hz,h3⟩
      obtain⟨ys,h6,h7⟩:=ck1 cap hall;exact⟨ys.take len, .inr ⟨a,len,cap,ys,e1,hlc,hcm,h6,rfl,h7⟩⟩
   .cases h
  .rename_i fs hu;split at h
   .rename_i L hf;cases hc:aB L.length (P.cellsOf t)with
    |false=>rw[hc]at h;cases h
    |true=>
     rw[hc,yB]at h;injection h with h
     subst h;have hc:=cB hc;obtain⟨xs,m',_,_,hl,hxl,hx⟩:=DataW.trod_struct hu hd
     have:=be2 (cs:=cs) (λh1 h2 h3=>aT7 n (m:=m') h1 h2 h3) fs.toList 0 _ hf hne λi f hi=>by
      have hi':fs[i]?=C f:=by rw[<-Array.getElem?_toList];exact hi
      have:=hx i f hi';rw[this]
      have:i<xs.length:=by
       obtain⟨h9,_⟩:=List.getElem?_eq_some_iff.1 hi;rw[hxl];simpa using h9
      exact⟨_,bD this⟩
     rw[dD,iC (by omega)]at this;exact this
   .cases h
  .rename_i k e hu;split at h
   .rename_i L hf;cases hc:aB L.length (P.cellsOf t)with
    |false=>rw[hc]at h;cases h
    |true=>
     rw[hc,yB]at h;injection h with h
     subst h;have hc:=cB hc;obtain⟨xs,m',_,_,hl,hxl,hx⟩:=DataW.trod_array hu hd
     have:=be2 (cs:=cs) (λh1 h2 h3=>aT7 n (m:=m') h1 h2 h3) (List.range k) 0 _ hf hne λi f hi=>by
      obtain⟨h9,h10⟩:=List.getElem?_eq_some_iff.1 hi;rw[List.getElem_range]at h10;subst h10;have h9:i<k:=by simpa using h9
      have:=hx i h9;rw[this];exact⟨_,bD (by omega)⟩
     rw[dD,iC (by omega)]at this;exact this
   .cases h
  .cases h
end
def isAgg (P:Program)(t:TypeId):Bool:=match P.underlying t with
 |some (.struct _)|some (.array _ _)=>Za
 |_=>Zb
def bl2 (w:World):(b:Bool)->(s:Sh)->Value->El s->Prop
 |true,s,v,x=> ∃cs,v= .agg cs/\nz w s cs.toList x
 |false,s,v,x=>nz w s [v] x
theorem bW3 {H:Type}{enc:TypeId×Value->H}{P:Program}{w:World}{base:Nat}{held:Bool}{n:Nat}{t:TypeId}{l:List Sh}{r:Reach}{b0:Nat}{v:Value}{d:DataW H}{ps:List MemPlace}(hl:ad0 P n t=C l)(hne:l≠[])
  (hval:Value.okWide P w r b0 t v) (hd:DataW.Trod enc P w base (λ_=>Za) held t v d ps): ∃x:El (aJ7 l),bl2 w (isAgg P t) (aJ7 l) v x:=by
 obtain⟨fuel,hf⟩:=hd;obtain⟨x,hx⟩:=aT7 n hl hne hf;refine⟨x, ?_⟩
 have cell:isAgg P t=Zb->(∀cs,v≠ .agg cs)->bl2 w (isAgg P t) (aJ7 l) v x:=by
  intro h1 h2;rw[h1]
  have:v.cells.toList=[v]:=by
   unfold Value.cells;split
   .rename_i cs;exact(h2 cs rfl).elim
   .rfl
  rw[this]at hx;exact hx
 cases n with
 |zero=>cases hl
 |succ n=>
  simp only[ad0]at hl;split at hl
  .rename_i k hu;refine cell (by simp[isAgg,hu]) λcs e=> ?_
   subst e;simp[Value.okWide,hu,Cell.okWide,Cell.ok]at hval
  .rename_i hu;refine cell (by simp[isAgg,hu]) λcs e=> ?_
   subst e;simp[Value.okWide,hu,Cell.okWide,Cell.ok]at hval
  .rename_i hu;refine cell (by simp[isAgg,hu]) λcs e=> ?_
   subst e;simp[Value.okWide,hu,Cell.okWide,Cell.ok]at hval
  .rename_i e hu;refine cell (by simp[isAgg,hu]) λcs e=> ?_
   subst e;simp[Value.okWide,hu,Cell.okWide,Cell.ok]at hval
  .rename_i fs hu;simp only[Value.okWide,hu]at hval;obtain⟨cs,rfl,_,_⟩:=hval;rw[show isAgg P t=Za by simp[isAgg,hu]];exact⟨cs,rfl,hx⟩
  .rename_i k e hu;simp only[Value.okWide,hu]at hval;obtain⟨cs,rfl,_,_⟩:=hval;rw[show isAgg P t=Za by simp[isAgg,hu]];exact⟨cs,rfl,hx⟩
  .cases hl
@[reducible] def All :List (Bool×Sh)->Type
 |[]=>Unit
 |[k]=>El k.2
 |k::k'::r=>El k.2×All (k'::r)
def cm3 (w:World):(ks:List (Bool×Sh))->List Value->All ks->Prop
 |[],vs,_=>vs=[]
 |[k],vs,x=> ∃v,vs=[v]/\bl2 w k.1 k.2 v x
 |k::k'::r,vs,x=> ∃v us,vs=v::us/\bl2 w k.1 k.2 v x.1/\cm3 w (k'::r) us x.2
def dJ7 (k:Bool×Sh)(x:El k.2):VV:=cond k.1 (.agg (gk k.2 x)) ((gk k.2 x).headD .undef)
def dj5 :(ks:List (Bool×Sh))->All ks->List VV
 |[],_=>[]
 |[k],x=>[dJ7 k x]
 |k::k'::r,x=>dJ7 k x.1::dj5 (k'::r) x.2
theorem cg9 {w:World}{k:Bool×Sh}{v:Value}{x:El k.2}(h:bl2 w k.1 k.2 v x){rows:List Row}(hr:aA5 w rows): ∃more av,Built w rows more [av] [v] [dJ7 k x]:=by
 obtain⟨b,s⟩:=k;cases b with
 |true=>
  obtain⟨cs,rfl,h1⟩:=h;obtain⟨more,acs,h2⟩:=build s h1 hr;exact⟨more, .agg acs.toArray,h2.ok, .cons (.agg (by simpa using h2.vr)) .nil, .cons (.agg (by simpa using h2.vv)) .nil⟩
 |false=>
  obtain⟨more,acs,h2⟩:=build s h hr;have h3:=h2.vr;have h4:=h2.vv;cases h3 with
  | @cons a _ as _ h5 h6=>
   cases h6;refine⟨more,a,h2.ok, .cons h5 .nil, ?_⟩;show F2 _ [(gk s x).headD .undef] _;generalize gk s x=l at*;cases h4 with
   |cons h7 h8=>
    cases h8;exact .cons h7 .nil
theorem bS5 {w:World}: ∀(ks:List (Bool×Sh)) {vs:List Value} {x:All ks},cm3 w ks vs x->∀{rows:List Row},aA5 w rows->∃more avs,Built w rows more avs vs (dj5 ks x)
 |[],vs,x,h,rows,hr=>by
  have h:vs=[]:=h;subst h;exact⟨[],[], .nil hr⟩
 |[k],vs,x,⟨v,h,h1⟩,rows,hr=>by
  subst h;obtain⟨more,av,h2⟩:=cg9 h1 hr;exact⟨more,[av],h2⟩
 |k::k'::r,vs,x,⟨v,us,h,h1,h2⟩,rows,hr=>by
  subst h;obtain⟨m1,av,h3⟩:=cg9 h1 hr;obtain⟨m2,avs,h4⟩:=bS5 (k'::r) h2 h3.ok;exact⟨m1++m2,av::avs,h3.app h4⟩
def inK (k:IntKind)(n:Int):Prop:=match k with
 | .i64=> -9223372036854775808<=n/\n<=9223372036854775807
 | .u64=>0<=n/\n<=18446744073709551615
 | .u8=>0<=n/\n<=255
 |_=>True
theorem dL4 {k:IntKind}{n:Int}(h:(Lit.int k n).wf=Za):inK k n:=by
 cases k<;>first|trivial|exact dO3 h|exact dO4 h|exact dW6 h
def da9 :(s:Sh)->El s->Prop
 | .int k,n=>inK k n
 | .bool,_=>True
 | .str,l=>l.length<=9223372036854775807/\∀n∈l,0<=n/\n<=255
 | .list s,l=>l.length<=9223372036854775807/\∀x∈l,da9 s x
 | .pair a b,x=>da9 a x.1/\da9 b x.2
theorem nz.fine {w:World}: ∀{s:Sh} {cs:List Value} {x:El s},nz w s cs x->da9 s x
 | .int k,_,_,⟨_,h⟩=>dL4 h
 | .bool,_,_,_=>trivial
 | .str,_,_,⟨s,_,h,hm⟩=>by
  subst h;refine⟨?_,λn hn=> ?_⟩
  .unfold fp;rw[List.length_map];unfold maxLen at hm;simpa using hm
  .unfold fp at hn;obtain⟨b,_,rfl⟩:=List.mem_map.1 hn;have:=b.toNat_lt;omega
 | .list s,_,l,h=>by
  rcases h with⟨_,h⟩|⟨a,len,cap,ys,_,hlc,hcm,hyl,hl,hy⟩
  .subst h;exact⟨Nat.zero_le _,λx hx=>by cases hx⟩
  .subst hl;refine⟨by rw[iB];unfold maxLen at hcm;omega,λx hx=> ?_⟩;obtain⟨i,hi,rfl⟩:=List.getElem_of_mem (List.mem_of_mem_take hx);obtain⟨zs,_,h⟩:=hy i _ (bD hi);exact h.fine
 | .pair a b,_,_,⟨c1,c2,_,h1,h2⟩=>⟨h1.fine,h2.fine⟩
theorem bl2.fine {w:World}{b:Bool}{s:Sh}{v:Value}{x:El s}(h:bl2 w b s v x):da9 s x:=by
 cases b with
 |true=>obtain⟨cs,_,h⟩:=h;exact h.fine
 |false=>exact nz.fine h
theorem dm8 {P:Program}{f:FuncId}{vals:List Sk}{run:Tup (SSk.shs ⟨vals,[],[]⟩)->Option (ao4 bp4)}(h:at0 P ⟨f,vals,[],bp4,run⟩){w:World}(hT:db0 P w){cargs:Array Value}(ks:List (Bool×Sh))(x:All ks)(t:Tup (SSk.shs ⟨vals,[],[]⟩))
  (hA:cm3 w ks cargs.toList x) (hd:((vn [] 0 [] ⟨vals,[],[]⟩ (dj5 ks x)).bind λst=>ofL _ st.ls)=C t) (hr:run t=C Za):
  Calls P f cargs w λe w'=>e= .returned (.bool Za)/\Go.RowKit.Below w.heap.size w w':=by
 obtain⟨rows,avs,h1⟩:=bS5 ks hA (rows:=[]) (λr hr=>by cases hr);exact de3 h hT t h1.ok h1.vr h1.vv hd hr
end
end Go.V
