/- A part of the proofs of this claim: what functions of the program answer on an abstract machine, and plain laws. No condition. -/
import Derived.Test.YtbocegmeciaanaaGreatA5
import Derived.Test.YtbocegmeciaanaaGreatA3
import Derived.IntWalk
import Derived.KernelRfl
import Derived.WideKeyArr2
import Derived.RowKit
import Derived.ProofKit
import Derived.OpenShut
import Derived.ChangeArms
import Derived.Below
set_option linter.unusedVariables false
set_option linter.unusedSimpArgs false
set_option linter.unusedSectionVars false
namespace Go.V
open Go.Ab
section
open Bool renaming and_eq_true → aD, or_eq_true → cD
open List renaming mem_cons_of_mem → cB, map_congr_left → fB
open Nat renaming beq → aB, eq_of_beq_eq_true → bB, lt_of_lt_of_le → bD, beq_refl → dB, le_of_ble_eq_true → dD, le_refl → eD
def rh {β:Type}(c:Ctx)(k:et→bq→Option β)(y:β):dh→Hp→Prop:=fun ea σ'=> ∃e' c',c'.σ=σ'∧Le c c'∧fq c'∧bw c' e' ea∧k e' c'.S=some y
theorem rh.of {β:Type}{c c1:Ctx}{k:et→bq→Option β}{y:β}(h:Le c c1){ea:dh}{σ':Hp}(hp:rh c1 k y ea σ'):rh c k y ea σ':=by
 obtain⟨e',c',h1,h2,h3⟩:=hp;exact⟨e',c',h1,h.trans h2,h3⟩
def rC {β:Type}(c:Ctx)(k:AExit→et→bq→Option β)(y:β):AExit→dh→Hp→Prop:=fun x=>rh c (k x) y
section
variable {β:Type} {tab:Tab} {y:β}
theorem be3 : ∀{ops:List AOper} {c:Ctx} {e:et} {ea:dh} {k:et→bq→Option β},fq c→bw c e ea→ap8 tab ops e c.S k=some y→Ab.xA (i7 tab) (rh c k y) ops ea c.σ
 |[],c,e,ea,k,hR,he,h=>⟨e,c,rfl,Le.refl c,hR,he,h⟩
 |o::r,c,e,ea,k,hR,he,h=>by
  have step: ∀e1,bw c e1 ea→be2 tab o.op e1 c.S (fun v S'=>ap8 tab r (putO e1 o.dst v) S' k)=some y→ck (i7 tab) o.op ea c.σ fun v σ'=>Ab.xA (i7 tab) (rh c k y) r (ea.putO o.dst v) σ':=by
   intro e1 he1 h1;refine nS (db tab) (fun v σ' hv=> ?_) (aG6 hR he1 h1);obtain⟨vv,c',h2,h3,h4,_,h6,h7⟩:=hv;subst h2;exact Ab.ag8 (db tab) (fun ea' σ'' hp=>hp.of h3) _ _ _ (be3 h4 ((he1.frame h3).putO h6) h7)
  have skip: ∀e1,bw c e1 ea→ap8 tab r (putO e1 o.dst (.tup [])) c.S k=some y→Ab.xA (i7 tab) (rh c k y) r (ea.putO o.dst undef) c.σ:=fun e1 he1 h1=>be3 hR (he1.putO (.tup .nil)) h1
  simp only[ap8]at h;simp only[Ab.xA];split at h
  ·rename_i hg;have:wanted o ea=true:=by simp only[wanted,hg]
   rw[zE this];exact step e he h
  ·rename_i t w hg;split at h
   ·rename_i p hp;have ht:=he t;rw[hp]at ht;have ht:=ht.bool_inv;have hw:wanted o ea=(p==w):=by simp only[wanted,hg,ht]
    have hput:bw c (pK e t (.bool p)) ea:=by
     have:=he.put (d:=t) (VRel.bool (c:=c) p);intro i;have h1:=this i;unfold dh.put at h1;by_cases hi:i=t
     ·rw[zE hi]at h1;subst hi;rw[ht];exact h1
     ·rw[zF hi]at h1;exact h1
    rw[hw];cases p<;>cases w<;>simp only[zC,zD]at h
    ·rw[zE (by decide)];exact step _ hput h
    ·rw[zF (by decide)];exact skip _ hput h
    ·rw[zF (by decide)];exact skip _ hput h
    ·rw[zE (by decide)];exact step _ hput h
   ·rename_i hp;have ht:=he t;rw[hp]at ht
    have hw:wanted o ea=false:=by
     simp only[wanted,hg];generalize ea t=u at ht;cases ht;rfl
    rw[hw,zF (by decide)];exact skip _ he h
   ·cases h
def ct9 :Value→Option Nat
 | .pointer (some a)=>some a.block
 | .slice (some a) _ _=>some a.block
 |_=>none
def al1 :AOp→Operand
 | .load x| .loadN _ x| .sliceArr _ _ x _ _| .slice _ x _ _=>x
 |_=> .global 0
theorem bf9 {op:AOp}{ea:dh}{σ σ1 σ':Hp}{v:Value}(hl:op.isLoad=true)(h:op.run ea σ=some (v,σ1))(hd: ∀b,ct9 (ea.ev (al1 op))=some b→σ'.m b=σ.m b):op.run ea σ'=some (v,σ'):=by
 cases op<;>try(cases hl;done)
 case load x=>
  simp only[AOp.run,al1]at h hd⊢;split at h
  ·rename_i b o hx;rw[hx]at hd;rw[hd b rfl];split at h
   ·rename_i blk hb;cases hc:blk.cells[o]? with
    |none=>rw[hc]at h;cases h
    |some u=>
     rw[hc]at h;injection h with h
     injection h with h1 h2
     subst h1;rfl
   ·cases h
  ·cases h
 case loadN n x=>
  simp only[AOp.run,al1]at h hd⊢;split at h
  ·rename_i b o hx;rw[hx]at hd;rw[hd b rfl];split at h
   ·rename_i blk hb;cases hc:pi blk o n with
    |none=>rw[hc]at h;cases h
    |some u=>
     rw[hc]at h;injection h with h
     injection h with h1 h2
     subst h1;rfl
   ·cases h
  ·cases h
 case slice es x lo hi=>
  cases lo with
  |none=>cases hl
  |some l=>
   simp only[AOp.run,al1]at h hd⊢;split at h
   ·rename_i a ln cap hx;rw[hx]at hd
    have hm:yM σ' es a (some l)=yM σ es a (some l):=by
     cases a with
     |none=>rfl
     |some a=>simp only[yM];rw[hd a.block rfl]
    rw[hm];cases hc:(cap==0||yM σ es a (some l))with
    |false=>rw[hc]at h;simp at h
    |true=>
     rw[hc,zE rfl]at h;rw[zE rfl];split at h
     ·split at h
      ·injection h with h
       injection h with h1 h2
       subst h1;rfl
      ·cases h
     ·cases h
   ·cases h
 case sliceArr es n x lo hi=>
  simp only[AOp.run,al1]at h hd⊢;split at h
  ·rename_i b o hx;rw[hx]at hd;rw[hd b rfl];split at h
   ·rename_i blk hb;split at h
    ·rename_i hc;rw[zE hc];split at h
     ·split at h
      ·split at h
       ·rename_i hlt;injection h with h
        injection h with h1 h2
        subst h1;rw[zE hlt]
       ·cases h
      ·cases h
     ·cases h
    ·cases h
   ·cases h
  ·cases h
theorem cy2 {op:AOp}{ea:dh}{σ σ1:Hp}{v:Value}{q:Option Addr}(hl:op.isLoad=true)(hx:ea.ev (al1 op)= .slice q 0 0)(h:op.run ea σ=some (v,σ1))(σ':Hp):op.run ea σ'=some (v,σ'):=by
 cases op<;>try(cases hl;done)
 case load x=>
  simp only[al1]at hx;simp only[AOp.run,hx]at h;cases h
 case loadN n x=>
  simp only[al1]at hx;simp only[AOp.run,hx]at h;cases h
 case slice es x lo hi=>
  simp only[al1]at hx;simp only[AOp.run,hx,beq_self_eq_true,Bool.true_or,if_true]at h⊢;split at h
  ·split at h
   ·injection h with h
    injection h with h1 h2
    subst h1;rfl
   ·cases h
  ·cases h
 case sliceArr es n x lo hi=>
  simp only[al1]at hx;simp only[AOp.run,hx]at h;cases h
def az7 (c:Ctx)(p:Hp→Prop):Option (Option Nat)→Prop
 |none=>True
 |some none=>p c.σ∧∀σ',(∀b y,c.σ.m b=some y→¬c.mut b→σ'.m b=some y)→p σ'
 |some (some q)=>(bl c.S q).dim≠none∧p c.σ∧∀σ',(∀b,c.μ q=some b→σ'.m b=c.σ.m b)→p σ'
inductive ChkRel (c:Ctx):List (Nat×(Hp→Prop))→Chk→Prop where
 |nil:ChkRel c [] []
 |cons {i:Nat} {p:Hp→Prop} {s:Option (Option Nat)} {l:List (Nat×(Hp→Prop))} {m:Chk}:az7 c p s→ChkRel c l m→ChkRel c ((i,p)::l) ((i,s)::m)
theorem az7.now {c:Ctx}{p:Hp→Prop}{s:Option Nat}(h:az7 c p (some s)):p c.σ:=by
 cases s with
 |none=>exact h.1
 |some q=>exact h.2.1
theorem az7.next {c c':Ctx}{p:Hp→Prop}{d:List Nat}(hl:Le c c')(hc:tL d c c'): ∀{s:Option (Option Nat)},az7 c p s→az7 c' p (match s with
  |some (some q)=>cond (mK q d) none (some (some q))
  |s=>s)
 |none,_=>trivial
 |some none,h=>by
  refine⟨h.2 _ fun b y hy hn=>(hl.rd b y hy hn).1,fun σ' hσ=>h.2 σ' fun b y hy hn=> ?_⟩;obtain⟨h1,h2⟩:=hl.rd b y hy hn;exact hσ b y h1 h2
 |some (some q),h=>by
  cases hm:mK q d with
  |true=>
   show az7 c' p (cond (mK q d) none (some (some q)));rw[hm];exact trivial
  |false=>
   show az7 c' p (cond (mK q d) none (some (some q)));rw[hm];obtain⟨h1,h2,h3⟩:=h;have hq:q∉d:=fun e=>by rw[lB.2 e]at hm;cases hm
   obtain⟨h4,h5⟩:=hc q (mO h1) hq h1
   have hmu:c'.μ q=c.μ q:=by
    cases hdd:(bl c'.S q).dim with
    |none=>exact(h4 hdd).elim
    |some dd=>exact(hl.al q dd (mO h1) hdd).2
   exact⟨h4,h3 _ h5,fun σ' hσ=>h3 σ' fun b hb=>by rw[hσ b (by rw[hmu];exact hb),h5 b hb]⟩
theorem ChkRel.next {c c':Ctx}{d:List Nat}(hl:Le c c')(hc:tL d c c'): ∀{l:List (Nat×(Hp→Prop))} {m:Chk},ChkRel c l m→ChkRel c' l (aX2 d m)
 |_,_, .nil=> .nil
 |_,_, .cons (s:=s) h1 h2=>by
  have h3:=h1.next hl hc
  have h4:=ChkRel.next hl hc h2
  cases s with
  |none=>exact .cons h3 h4
  |some s=>
   cases s with
   |none=>exact .cons h3 h4
   |some q=>exact .cons h3 h4
theorem xy : ∀m:Chk,aX2 [] m=m
 |[]=>rfl
 |(i,none)::r=>by simp only[aX2,xy r]
 |(i,some none)::r=>by simp only[aX2,xy r]
 |(i,some (some q))::r=>by simp only[aX2,xy r,mK,zD]
theorem aC0 {c:Ctx}{is:List Nat}: ∀{l:List (Nat×(Hp→Prop))} {m:Chk},ChkRel c l m→mn is m=true→vX is c.σ l
 |_,_, .nil,_=>trivial
 |_,_, .cons (i:=i) (s:=s) h1 h2,h=>by
  simp only[mn]at h;simp only[vX]
  have hc:is.contains i=mK i is:=by
   cases hm:mK i is with
   |true=>simpa using lB.1 hm
   |false=>
    cases hh:is.contains i with
    |false=>rfl
    |true=>
     have:i∈is:=by simpa using hh
     rw[lB.2 this]at hm;cases hm
  rw[hc];cases hm:mK i is with
  |false=>
   rw[hm,zD]at h;rw[zF (by decide)];exact aC0 h2 h
  |true=>
   rw[hm,zC]at h;rw[zE rfl];cases s with
   |none=>cases h
   |some s=>exact⟨h1.now,aC0 h2 h⟩
theorem br4 {c:Ctx}{e:et}{ea:dh}{op:AOp}{v:Value}{σ1:Hp}(hR:fq c)(he:bw c e ea)(hl:op.isLoad=true)(h:op.run ea c.σ=some (v,σ1)):az7 c (fun σ'=>op.run ea σ'=some (v,σ')) (cF0 c.S op e):=by
 have hx:=cm he (al1 op);have hself:op.run ea c.σ=some (v,c.σ):=bf9 hl h fun _ _=>rfl
 have key:az7 c (fun σ'=>op.run ea σ'=some (v,σ')) (cu7 c.S (ev e (al1 op))):=by
  generalize ev e (al1 op)=xv at*
  have blkcase: ∀q,ul xv=some q→(∀b,ct9 (ea.ev (al1 op))=some b→(bl c.S q).dim≠none→c.μ q=some b)→az7 c (fun σ'=>op.run ea σ'=some (v,σ')) (cond (bl c.S q).live (some (some q)) none):=by
   intro q hq hb;cases hlv:(bl c.S q).live with
   |false=>trivial
   |true=>
    obtain⟨dm,hdm⟩:=sD hlv;exact⟨by rw[hdm];simp,hself,fun σ' hσ=>bf9 hl h fun b hbb=>hσ b (hb b hbb (by rw[hdm];simp))⟩
  have novalue:(∀b,ct9 (ea.ev (al1 op))=some b→∃y,c.σ.m b=some y∧¬c.mut b)→az7 c (fun σ'=>op.run ea σ'=some (v,σ')) (some none):=by
   intro hb;refine⟨hself,fun σ' hσ=>bf9 hl h fun b hbb=> ?_⟩;obtain⟨y,h1,h2⟩:=hb b hbb;rw[hσ b y h1 h2,h1]
  cases xv<;>simp only[cu7,ul]<;>try exact trivial
  case ptr q o=>
   refine blkcase q rfl fun b hb hdm=> ?_
   cases hx with
   |ptr hk ho hd=>
    cases hdd:(bl c.S q).dim with
    |none=>exact(hdm hdd).elim
    |some d=>
     obtain⟨b',h1,h2⟩:=hd d hdd;rw[h2]at hb;injection hb with hb
     subst hb;exact h1
  case it q l=>
   refine blkcase q rfl fun b hb hdm=> ?_
   obtain⟨s,_,hd⟩:=hx.it_inv;cases hdd:(bl c.S q).dim with
   |none=>exact(hdm hdd).elim
   |some d=>
    obtain⟨b',h1,h2⟩:=hd d hdd;rw[h2]at hb;cases hb
  case bld q=>
   refine blkcase q rfl fun b hb hdm=> ?_
   cases hx with
   |bld _ _ hd=>
   cases hdd:(bl c.S q).dim with
   |none=>exact(hdm hdd).elim
   |some d=>
    obtain⟨b',h1,h2⟩:=hd d hdd;rw[h2]at hb;cases hb
  case pix q o n i=>
   refine blkcase q rfl fun b hb hdm=> ?_
   cases hx with
   |pix hk ho hi hd=>
    cases hdd:(bl c.S q).dim with
    |none=>exact(hdm hdd).elim
    |some d=>
     obtain⟨b',h1,h2⟩:=hd d hdd;rw[h2]at hb;injection hb with hb
     subst hb;exact h1
  case pel q i o=>
   refine blkcase q rfl fun b hb hdm=> ?_
   cases hx with
   |pel hk ho hd=>
    cases hdd:(bl c.S q).dim with
    |none=>exact(hdm hdd).elim
    |some d=>
     obtain⟨b',h1,h2⟩:=hd d hdd;rw[h2]at hb;injection hb with hb
     subst hb;exact h1
  case full q=>
   refine blkcase q rfl fun b hb hdm=> ?_
   cases hx with
   |full hk ho hd=>
    cases hdd:(bl c.S q).dim with
    |none=>exact(hdm hdd).elim
    |some d=>
     obtain⟨n,_,h2⟩:=hd d hdd;rcases h2 with⟨h2,_⟩|⟨b',cp,yb,h2,h3,_⟩
     ·rw[h2]at hb;cases hb
     ·rw[h2]at hb;injection hb with hb
      subst hb;exact h3
  case part q lo n=>
   refine blkcase q rfl fun b hb hdm=> ?_
   cases hx with
   |part hk ho hd=>
    cases hdd:(bl c.S q).dim with
    |none=>exact(hdm hdd).elim
    |some d=>
     rcases hd d hdd with⟨h2,_⟩|⟨b',cp,yb,h2,h3,_⟩
     ·rw[h2]at hb;cases hb
     ·rw[h2]at hb;injection hb with hb
      subst hb;exact h3
  case pin s x o=>
   refine novalue fun b hb=> ?_
   generalize ea.ev (al1 op)=xa at*;cases hx with
   |pin hn hy hl hf=>
    injection hb with hb
    subst hb;exact⟨_,hy,hn⟩
  case lst s l=>
   generalize hxa:ea.ev (al1 op)=xa at*;cases hx with
   |lstn hq=>
    refine⟨hself,fun σ' hσ=> ?_⟩;have:=cy2 hl hxa h;exact this σ'
   |lst hn hy _ _ _ _ _=>
    refine novalue fun b hb=> ?_
    injection hb with hb
    subst hb;exact⟨_,hy,hn⟩
  case nils=>
   refine novalue fun b hb=> ?_
   generalize ea.ev (al1 op)=xa at*;cases hx;cases hb
 cases op<;>first|(cases hl;done)|exact key
theorem ar5 {T:Ab.ig}{op:AOp}{e:dh}{σ:Hp}(hs:op.still=true){k:Value→Hp→Prop}:(match op.run e σ with
  |some (v,σ')=>k v σ'
  |none=>False)=ck T op e σ k:=by
 cases op<;>first|(cases hs;done)|rfl
theorem cn5 {it:SItem}{c:Ctx}{e:et}{ea:dh}{chk:Chk}{ach:List (Nat×(Hp→Prop))}{k:Chk→et→bq→Option β}(hR:fq c)(he:bw c e ea)(hc:ChkRel c ach chk)(h:aM5 tab it chk e c.S k=some y){Q:List (Nat×(Hp→Prop))→dh→Hp→Prop}
  (hQ: ∀c' ach' chk' e' ea',Le c c'→fq c'→ChkRel c' ach' chk'→bw c' e' ea'→k chk' e' c'.S=some y→Q ach' ea' c'.σ):
  if it.mover then ck (i7 tab) it.o.op ea c.σ (fun v σ'=>vX it.chks σ' ach∧Q ach (ea.putO it.o.dst v) σ')
  else match it.o.op.run ea c.σ with
   |some (v,_)=>Q (if it.keep then(it.idx,fun σ'=>it.o.op.run ea σ'=some (v,σ'))::ach else ach) (ea.putO it.o.dst v) c.σ
   |none=>False:=by
 unfold aM5 at h;cases hm:it.mover with
 |true=>
  rw[hm,zC]at h;rw[zE rfl];obtain⟨h1,h2⟩:=bx h;refine nS (db tab) (fun v σ' hv=> ?_) (aG6 hR he h2);obtain⟨vv,c',h3,h4,h5,h6,h7,h8⟩:=hv;subst h3;have hn:=hc.next h4 h6
  exact⟨aC0 hn h1,hQ c' ach _ _ _ h4 h5 hn ((he.frame h4).putO h7) h8⟩
 |false=>
  rw[hm,zD]at h;rw[zF (by decide)];obtain⟨h1,h2⟩:=bx h;rw[aD]at h1;have h3:=aG6 hR he h2;rw[←ar5 h1.1]at h3;cases hr:it.o.op.run ea c.σ with
  |none=>rw[hr]at h3;exact h3
  |some p=>
   obtain⟨v,σ1⟩:=p;rw[hr]at h3;obtain⟨vv,c',h4,h5,h6,h7,h8,h9⟩:=h3;simp only
   have hd:aG4 tab it.o.op e c.S=[]:=by
    have:=h1.1;cases hop:it.o.op<;>rw[hop]at this<;>first|(cases this;done)|rfl
   have hn:=hc.next h5 h7
   rw[hd,xy]at hn;have hσ1:σ1=c.σ:=aC8 h1.1 hr;rw[←hσ1,←h4];cases hk:it.keep with
   |false=>
    rw[hk,zD]at h9;rw[zF (by decide)];exact hQ c' ach chk _ _ h5 h6 hn ((he.frame h5).putO h8) h9
   |true=>
    rw[hk,zC]at h9;rw[zE rfl];have hld:it.o.op.isLoad=true:=by have:=h1.2;rw[hk]at this;simpa using this
    have hkp:=br4 hR he hld hr;have hn2:=(ChkRel.cons (i:=it.idx) hkp hc).next h5 h7
    rw[hd,xy]at hn2;exact hQ c' _ _ _ _ h5 h6 hn2 ((he.frame h5).putO h8) h9
end
structure LeV (c c':Ctx):Prop where
 len:c.S.length≤c'.S.length
 al: ∀k d,k<c.S.length→(bl c'.S k).dim=some d→(bl c.S k).dim=some d∧c'.μ k=c.μ k
 ln: ∀k d b y,k<c.S.length→(bl c'.S k).dim=some d→c.μ k=some b→c.σ.m b=some y→∃y',c'.σ.m b=some y'∧y'.cells.length=y.cells.length
 rd: ∀b y,c.σ.m b=some y→¬c.mut b→c'.σ.m b=some y∧¬c'.mut b
theorem SlR.frameV {c c':Ctx}(h:LeV c c'){k lo n:Nat}{d:Nat×Nat}{a:Value}(hk:k<c.S.length)(hd:(bl c'.S k).dim=some d)(hs:SlR c k lo n d a):SlR c' k lo n d a:=by
 obtain⟨h1,h2⟩:=h.al k d hk hd;rcases hs with⟨rfl,rfl,rfl,hm,hz⟩|⟨b,cp,y,rfl,hm,h3,h4,hy,h5⟩
 ·exact .inl ⟨rfl,rfl,rfl,h2.trans hm,hz⟩
 ·obtain⟨y',hy',hl⟩:=h.ln k d b y hk hd hm hy;exact .inr ⟨b,cp,y',rfl,h2.trans hm,h3,h4,hy',by rw[hl];exact h5⟩
theorem VRel.frameV {c c':Ctx}(h:LeV c c'): ∀{v:VV} {a:Value},VRel c v a→VRel c' v a
 |_,_, .undef a=> .undef a
 |_,_, .bool b=> .bool b
 |_,_, .int k n=> .int k n
 |_,_, .str hs=> .str hs
 |_,_, .nilp=> .nilp
 |_,_, .nils=> .nils
 |_,_, .nilf=> .nilf
 |_,_, .ptr hk h1 hd=> .ptr (bD hk h.len) h1 fun d hd'=>by
  obtain⟨h1,h2⟩:=h.al _ d hk hd';obtain⟨b,h3,h4⟩:=hd d h1;exact⟨b,h2.trans h3,h4⟩
 |_,_, .it hk h1 hs hd=> .it (bD hk h.len) h1 hs fun d hd'=>by
  obtain⟨h1,h2⟩:=h.al _ d hk hd';obtain⟨b,h3,h4⟩:=hd d h1;exact⟨b,h2.trans h3,h4⟩
 |_,_, .bld hk h1 hd=> .bld (bD hk h.len) h1 fun d hd'=>by
  obtain⟨h1,h2⟩:=h.al _ d hk hd';obtain⟨b,h3,h4⟩:=hd d h1;exact⟨b,h2.trans h3,h4⟩
 |_,_, .pix hk h1 hi hd=> .pix (bD hk h.len) h1 hi fun d hd'=>by
  obtain⟨h1,h2⟩:=h.al _ d hk hd';obtain⟨b,h3,h4⟩:=hd d h1;exact⟨b,h2.trans h3,h4⟩
 |_,_, .pel hk h1 hd=> .pel (bD hk h.len) h1 fun d hd'=>by
  obtain⟨h1,h2⟩:=h.al _ d hk hd';obtain⟨b,h3,h4⟩:=hd d h1;exact⟨b,h2.trans h3,h4⟩
 |_,_, .pin hn hy hl hf=> .pin (h.rd _ _ hy hn).2 (h.rd _ _ hy hn).1 hl (go hf)
 |_,_, .lstn hq=> .lstn hq
 |_,_, .tgtn hq=> .tgtn hq
 |_,_, .tgt hn hy he h3 hf=> .tgt (h.rd _ _ hy hn).2 (h.rd _ _ hy hn).1 he h3 (go hf)
 |_,_, .lst hn hy he h1 h2 h3 hf=> .lst (h.rd _ _ hy hn).2 (h.rd _ _ hy hn).1 he h1 h2 h3 (go hf)
 |_,_, .full hk h1 hd=> .full (bD hk h.len) h1 fun d hd'=>by
  obtain⟨h1,h2⟩:=h.al _ d hk hd';obtain⟨n,h3,h4⟩:=hd d h1;exact⟨n,h3,h4.frameV h hk hd'⟩
 |_,_, .part hk h1 hd=> .part (bD hk h.len) h1 fun d hd'=>by
  obtain⟨h1,h2⟩:=h.al _ d hk hd';exact(hd d h1).frameV h hk hd'
 |_,_, .fn h1 h2=> .fn (go h1) (go h2)
 |_,_, .agg h1=> .agg (go h1)
 |_,_, .tup h1=> .tup (go h1)
where
 go: ∀{l:List VV} {m:List Value},F2 (VRel c) l m→F2 (VRel c') l m
  |_,_, .nil=> .nil
  |_,_, .cons h1 h2=> .cons (VRel.frameV h h1) (go h2)
theorem VRel.framesV {c c':Ctx}(h:LeV c c'){l:List VV}{m:List Value}(hf:F2 (VRel c) l m):F2 (VRel c') l m:=hf.imp fun _ _ hv=>hv.frameV h
theorem bw.frameV {c c':Ctx}{e:et}{ea:dh}(h:bw c e ea)(hl:LeV c c'):bw c' e ea:=fun t=>(h t).frameV hl
def qF (op:AOp)(ea:dh)(x:Ab.Blk)(vf:Nat→Value):Prop:= ∀σ:Hp,op.run ea σ=some (vf σ.n,σ.add x)
theorem qF.unique {op:AOp}{ea:dh}{x x':Ab.Blk}{vf vf':Nat→Value}(h:qF op ea x vf)(h':qF op ea x' vf'):x=x'∧vf=vf':=by
 have key: ∀n,vf n=vf' n∧x=x':=by
  intro n;have h1:=h ⟨fun _=>none,n⟩;rw[h' ⟨fun _=>none,n⟩]at h1;injection h1 with h1
  injection h1 with h1 h2
  refine⟨h1.symm, ?_⟩;have h3:=congrArg (fun s:Hp=>s.m n) h2;simp only[Hp.add,if_true]at h3;injection h3 with h3
  exact h3.symm
 exact⟨(key 0).2,funext fun n=>(key n).1⟩
theorem bF7 {ea ea':dh}{x:Operand}(h: ∀t∈bS0 x,ea' t=ea t):ea'.ev x=ea.ev x:=by
 cases x with
 |tmp t=>exact h t (by simp[bS0])
 |_=>rfl
theorem qF.same {op:AOp}{ea ea':dh}{x:Ab.Blk}{vf:Nat→Value}(h:qF op ea x vf)(hf:xi op=true)(he: ∀t∈yl op,ea' t=ea t):qF op ea' x vf:=by
 intro σ;have h1:=h σ;cases op<;>first|(cases hf;done)|skip
 case alloc es z=>exact h1
 case makeSlice es bytes z l m=>
  have e1:ea'.ev l=ea.ev l:=bF7 fun t ht=>he t (by simp[yl,ht])
  have e2:ea'.ev m=ea.ev m:=bF7 fun t ht=>he t (by simp[yl,ht])
  simp only[AOp.run]at h1⊢;rw[e1,e2];exact h1
 case buildSlice es ln z ps=>
  have e1:(ps.map fun(o,s,x)=>(o,s,ea'.ev x))=ps.map fun(o,s,x)=>(o,s,ea.ev x):=by
   apply fB;rintro⟨o,s,x⟩ hx;simp only;rw[bF7 fun t ht=>he t (List.mem_flatMap.2 ⟨_,hx,ht⟩)]
  simp only[AOp.run]at h1⊢;rw[e1];exact h1
theorem bj3 {c c':Ctx}: ∀{l:List VV} {m:List Value},l.all cj8=true→F2 (VRel c) l m→F2 (VRel c') l m
 |_,_,_, .nil=> .nil
 |v::l,_,h, .cons h1 h2=>by
  rw[List.all_cons,aD]at h;refine .cons ?_ (bj3 h.2 h2);cases h1<;>first|(cases h.1;done)|skip
  ·exact .bool _
  ·exact .int _ _
  ·exact .str (by assumption)
structure FreshFact (op:AOp)(ea:dh)(blk:Blk)(w:Bool)(x:Ab.Blk)(vf:Nat→Value):Prop where
 run:qF op ea x vf
 fz:blk.frozen=false
 dm: ∃dm cs rest,blk.dim=some dm∧1≤dm.1∧x.es=dm.1∧x.own=true∧x.cells=cs++rest∧∀c':Ctx,F2 (VRel c') blk.vals cs
 vv: ∀(c':Ctx) (k b:Nat),k<c'.S.length→bl c'.S k=blk→c'.μ k=some b→c'.σ.m b=some x→VRel c' (vvF w k) (vf b)
theorem aA9 {β:Type}{c:Ctx}{e:et}{ea:dh}{op:AOp}{k:Blk→Bool→Option β}{y:β}(he:bw c e ea)(h:ae8 op e k=some y):xi op=true∧∃blk w x vf,k blk w=some y∧FreshFact op ea blk w x vf:=by
 cases op<;>simp only[ae8]at h<;>first|(cases h;done)|skip
 case alloc es z=>
  obtain⟨h1,h2⟩:=bx h;have h1:=dD h1;refine⟨rfl,_,_,⟨z,true,es⟩,fun n=> .pointer (some ⟨n,0,none⟩),h2,⟨fun σ=>rfl,(vN es z).2.1,⟨(es,z.length),z,[],(vN es z).1,h1,rfl,rfl,by simp,fun c'=>(vN es z).2.2 c'⟩,fun c' k b hk hs hm hy=> ?_⟩⟩;refine .ptr hk rfl fun d hd=>⟨b,hm,rfl⟩
 case makeSlice es bytes z l m=>
  have hl:=cm he l;have hm:=cm he m;split at h
  ·rename_i k1 a k2 b s h1 h2 hs;rw[h1]at hl;rw[h2]at hm;obtain⟨hg,hk⟩:=bx h;simp only[aD]at hg;obtain⟨⟨⟨⟨g1,g2⟩,g3⟩,g4⟩,g5⟩:=hg;have g1:=bB g1;have g2:=of_decide_eq_true g2;have g3:=of_decide_eq_true g3;have g4:=of_decide_eq_true g4;have g5:=dD g5;have hz: ∀c':Ctx,F2 (VRel c') (fa s (sG s)) z:=fun c'=>zN (c:=c') hs
   have hzl:z.length=s.w:=by rw[←(hz c).length,fg]
   have hb:b≤bytes*b:=by
    have:(1:Int)*b≤bytes*b:=Int.mul_le_mul_of_nonneg_right (by omega) (by omega);omega
   refine⟨rfl,_,_,⟨fp z b.toNat,true,es⟩,fun n=> .slice (some ⟨n,0,none⟩) a.toNat b.toNat,hk,⟨fun σ=> ?_,rfl,⟨(s.w,(List.replicate a.toNat (sG s)).length*s.w),fp z a.toNat,fp z (b.toNat-a.toNat),rfl,ni s,g1,rfl, ?_,fun c'=> ?_⟩,fun c' k q hk hs' hm' hy=> ?_⟩⟩
   ·simp only[AOp.run,hl.int_inv,hm.int_inv];rw[zE ⟨g2,g3,by omega,by omega⟩]
   ·show fp z b.toNat=_;rw[←bv6]
    congr 1
    omega
   ·show F2 (VRel c') (gp s (List.replicate a.toNat (sG s))) (fp z a.toNat);rw[qH];generalize a.toNat=n;induction n with
    |zero=>exact .nil
    |succ n ih=>
     simp only[fp,List.replicate_succ,List.flatten_cons]at ih⊢;exact(hz c').append ih
   ·refine .full hk rfl fun d hd=> ?_
    rw[hs']at hd;injection hd with hd
    subst hd;refine⟨a.toNat,by simp, .inr ⟨q,b.toNat,_,by simp,hm',by simp,by omega,hy, ?_⟩⟩;rw[Nat.zero_add];show b.toNat*s.w≤(fp z b.toNat).length;rw[bv7,hzl];exact eD _
  ·cases h
 case buildSlice es ln z ps=>
  split at h
  ·rename_i cs hf;obtain⟨h1,h2⟩:=bx h;simp only[aD]at h1;obtain⟨⟨⟨⟨g1,g2⟩,g3⟩,g4⟩,g5⟩:=h1;have g2:=bB g2;have g3:=dD g3;obtain⟨ra,h3,h4⟩:=vS he ps hf (aP1 ln z);refine⟨g5,_,_,⟨ra,true,es⟩,fun n=> .slice (some ⟨n,0,none⟩) ln ln,h2,⟨fun σ=> ?_,rfl,⟨(es,cs.length),ra,[],rfl,g3,rfl,rfl,by simp,fun c'=>bj3 g4 h4⟩,fun c' k q hk hs' hm' hy=> ?_⟩⟩
   ·simp only[AOp.run,h3];rw[zE (lx h4 g1)]
   ·refine .full hk rfl fun d hd=> ?_
    rw[hs']at hd;injection hd with hd
    subst hd;refine⟨ln,g2, .inr ⟨q,ln,_,by simp,hm',by simp[g2],eD _,hy, ?_⟩⟩;rw[Nat.zero_add];show ln*es≤ra.length;rw[←h4.length];exact Nat.le_of_eq g2
  ·cases h
theorem pJ {i q:Nat}: ∀{l:List Nat},l.Nodup→(q∈ay7 i l↔q∈l∧q≠i)
 |[],_=>by simp[ay7]
 |a::r,h=>by
  obtain⟨h1,h2⟩:=List.nodup_cons.1 h;simp only[ay7];cases hb:aB a i with
  |true=>
   have:=bB hb;subst this;rw[zC];constructor
   ·intro hq;exact⟨cB _ hq,fun e=>h1 (e▸hq)⟩
   ·rintro⟨hq,hn⟩;rcases List.mem_cons.1 hq with rfl|hq
    ·exact(hn rfl).elim
    ·exact hq
  |false=>
   have hne:a≠i:=fun e=>by subst e;rw[dB]at hb;cases hb
   rw[zD,List.mem_cons,List.mem_cons,pJ h2];constructor
   ·rintro(rfl|⟨h3,h4⟩)
    ·exact⟨.inl rfl,hne⟩
    ·exact⟨.inr h3,h4⟩
   ·rintro⟨rfl|h3,h4⟩
    ·exact .inl rfl
    ·exact .inr ⟨h3,h4⟩
theorem aR9 {i:Nat}: ∀{l:List Nat},l.Nodup→(ay7 i l).Nodup
 |[],h=>h
 |a::r,h=>by
  obtain⟨h1,h2⟩:=List.nodup_cons.1 h;simp only[ay7];cases hb:aB a i with
  |true=>exact h2
  |false=>
   rw[zD,List.nodup_cons];exact⟨fun hq=>h1 ((pJ h2).1 hq).1,aR9 h2⟩
section
variable {tab:Tab} {ops:List (AOper×List Nat)}
structure InvL (ops:List (AOper×List Nat))(c0 c:Ctx)(e:et)(ea:dh)(ach:List (Nat×(Hp→Prop)))(chk:Chk)(P ls nd:List Nat)(r:List LItem)(pd:Nat→Nat):Prop where
 le:Le c0 ⟨c.μ,c.S,c.σ,c0.fb⟩
 R:fq c
 E:bw c e ea
 K:ChkRel c ach chk
 ks:ach.map (·.1)=ls
 nd:mn nd chk=true
 fb: ∀b,c.fb b↔(c0.fb b∨∃q∈P,pd q=b)
 nod:P.Nodup
 inj: ∀q q',q∈P→q'∈P→pd q=pd q'→q=q'
 new: ∀q∈P,c0.σ.n≤pd q
 pend: ∀q∈P,xi (dv ops q).op=true∧∃x vf,qF (dv ops q).op ea x vf∧c.σ.m (pd q)=some x∧∀t,(dv ops q).dst=some t→ea t=vf (pd q)
 und: ∀it∈r,aB it.kind 2=true→∀t,(dv ops it.i).dst=some t→mD e t= .undef
 ds:bs4 ops r=true
theorem az7.frameV {c c':Ctx}{p:Hp→Prop}(hR:fq c)(hl:LeV c c')(hS: ∀q,q<c.S.length→bl c'.S q=bl c.S q)(hmu: ∀q,q<c.S.length→c'.μ q=c.μ q)(hσ: ∀b y,c.σ.m b=some y→c'.σ.m b=some y): ∀{s:Option (Option Nat)},az7 c p s→az7 c' p s
 |none,_=>trivial
 |some none,h=>by
  refine⟨h.2 _ fun b y hy _=>hσ b y hy,fun σ' hσ'=>h.2 σ' fun b y hy hn=> ?_⟩;obtain⟨h1,h2⟩:=hl.rd b y hy hn;exact hσ' b y h1 h2
 |some (some q),h=>by
  obtain⟨h1,h2,h3⟩:=h;have hq:=mO h1
  have hb: ∀b,c.μ q=some b→c'.σ.m b=c.σ.m b:=by
   intro b hb;cases hd:(bl c.S q).dim with
   |none=>exact(h1 hd).elim
   |some d=>
    obtain⟨_,h4⟩:=hR.blk q d hd;rcases h4 with⟨_,h4⟩|⟨b',y,cs,rest,h4,h5,_⟩
    ·rw[hb]at h4;cases h4
    ·rw[hb]at h4;injection h4 with h4
     subst h4;rw[h5];exact hσ _ _ h5
  exact⟨by rw[hS q hq];exact h1,h3 _ hb,fun σ' hs=>h3 σ' fun b hb'=>(hs b (by rw[hmu q hq];exact hb')).trans (hb b hb')⟩
theorem ChkRel.frameV {c c':Ctx}(hR:fq c)(hl:LeV c c')(hS: ∀q,q<c.S.length→bl c'.S q=bl c.S q)(hmu: ∀q,q<c.S.length→c'.μ q=c.μ q)(hσ: ∀b y,c.σ.m b=some y→c'.σ.m b=some y): ∀{l:List (Nat×(Hp→Prop))} {m:Chk},ChkRel c l m→ChkRel c' l m
 |_,_, .nil=> .nil
 |_,_, .cons h1 h2=> .cons (h1.frameV hR hl hS hmu hσ) (h2.frameV hR hl hS hmu hσ)
theorem xj {c:Ctx}{m:Nat}{is:List Nat}: ∀{l:List (Nat×(Hp→Prop))} {chk:Chk},ChkRel c l chk→mn is chk=true→(∀i∈l.map (·.1),uO ops i m=true∨mK i is=true)→ah8 ops m c.σ l
 |_,_, .nil,_,_=>trivial
 |_,_, .cons (i:=i) (s:=s) h1 h2,h,hb=>by
  simp only[mn]at h;simp only[ah8];have hrest:mn is _=true→ah8 ops m c.σ _:=fun h3=>xj h2 h3 fun j hj=>hb j (by simp only[List.map_cons];exact cB _ hj)
  cases hbf:uO ops i m with
  |true=>
   rw[zE rfl];cases hm:mK i is with
   |false=>rw[hm,zD]at h;exact hrest h
   |true=>
    rw[hm,zC]at h;cases s with
    |none=>cases h
    |some s=>exact hrest h
  |false=>
   rw[zF (by decide)];rcases hb i (by simp)with h3|h3
   ·rw[hbf]at h3;cases h3
   ·rw[h3,zC]at h;cases s with
    |none=>cases h
    |some s=>exact⟨h1.now,hrest h⟩
theorem ch8 {β:Type}{c0 c:Ctx}{e:et}{ea:dh}{ach:List (Nat×(Hp→Prop))}{chk:Chk}{P ls nd:List Nat}{it:LItem}{r:List LItem}{pd:Nat→Nat}{k:et→bq→Option β}{y:β}(h0:fq c0)
  (hI:InvL ops c0 c e ea ach chk P ls nd (it::r) pd) (hk:aB it.kind 2=true) (hP:it.i∈P) (h:evL tab ops (it::r) chk e c.S k=some y):
  ∃c' e',c'.σ=c.σ∧InvL ops c0 c' e' ea ach chk (ay7 it.i P) ls nd r pd∧evL tab ops r chk e' c'.S k=some y:=by
 have hk3:aB it.kind 3=false:=by rw[bB hk];rfl
 simp only[evL,hk,hk3,zC,zD]at h;obtain⟨hfb,blk,w,x',vf',h1,h2⟩:=aA9 hI.E h;obtain⟨_,x,vf,h3,h4,h5⟩:=hI.pend _ hP;obtain⟨ex,ef⟩:=h2.run.unique h3;subst ex;subst ef;obtain⟨dm,cs,rest,d1,d2,d3,d4,d5,d6⟩:=h2.dm;have hlen:(c.S++[blk]).length=c.S.length+1:=by simp
 have hds:=hI.ds;simp only[bs4,aD]at hds
 let b:=pd it.i
 let c':Ctx:=⟨fun q=>if q=c.S.length then some b else c.μ q,c.S++[blk],c.σ,fun q=>c0.fb q∨∃j∈ay7 it.i P,pd j=q⟩
 have hfbb:c.fb b:=(hI.fb b).2 (.inr ⟨it.i,hP,rfl⟩);have hS: ∀q,q<c.S.length→bl c'.S q=bl c.S q:=fun q hq=>ng hq
 have hmu: ∀q,q<c.S.length→c'.μ q=c.μ q:=fun q hq=>zF (Nat.ne_of_lt hq)
 have hnewS:bl c'.S c.S.length=blk:=bU9;have hnewmu:c'.μ c.S.length=some b:=zE rfl
 have hfb': ∀q,c'.fb q→c.fb q:=by
  rintro q (hq|⟨j,hj,rfl⟩)
  ·exact(hI.fb q).2 (.inl hq)
  ·exact(hI.fb _).2 (.inr ⟨j,((pJ hI.nod).1 hj).1,rfl⟩)
 have hbnot: ¬c'.fb b:=by
  rintro(hq|⟨j,hj,hjb⟩)
  ·have:=h0.fbl _ hq;have:=hI.new _ hP;omega
  ·obtain⟨hj1,hj2⟩:=(pJ hI.nod).1 hj;exact hj2 (hI.inj _ _ hj1 hP hjb)
 have hown: ∀q,c'.own q→c.own q∨q=b:=by
  rintro q ⟨j,hj1,hj2⟩;by_cases hj:j<c.S.length
  ·rw[hS j hj]at hj1;rw[hmu j hj]at hj2;exact .inl ⟨j,hj1,hj2⟩
  ·by_cases hj3:j=c.S.length
   ·subst hj3;rw[hnewmu]at hj2;injection hj2 with hj2
    exact .inr hj2.symm
   ·rw[ux (by show c'.S.length≤j;rw[hlen];omega)]at hj1;cases hj1
 have hV:LeV c c':=by
  refine⟨by rw[hlen];omega,fun q d hq hd=> ?_,fun q d b' y' hq hd hm hy=>⟨y',hy,rfl⟩,fun b' y' hy hn=>⟨hy,fun hm=> ?_⟩⟩
  ·rw[hS q hq]at hd;exact⟨hd,hmu q hq⟩
  ·rcases hm with hm|hm
   ·rcases hown b' hm with hm|hm
    ·exact hn (.inl hm)
    ·subst hm;exact hn (.inr hfbb)
   ·exact hn (.inr (hfb' _ hm))
 have hR':fq c':=by
  refine⟨hI.R.ok,fun q q' b' hq hq' hm hm'=> ?_,fun q d hd=> ?_,fun q b' hd hm=> ?_,fun b' hb'=>hI.R.fbl _ (hfb' _ hb')⟩
  ·have cases3: ∀j,(bl c'.S j).dim≠none→j<c.S.length∨j=c.S.length:=by
    intro j hj;have:=mO hj;rw[hlen]at this;omega
   rcases cases3 q (mC hq)with h6|h6
   ·rcases cases3 q' hq' with h7|h7
    ·rw[hS q h6]at hq;rw[hS q' h7]at hq';rw[hmu q h6]at hm;rw[hmu q' h7]at hm';exact hI.R.inj q q' b' hq hq' hm hm'
    ·subst h7;rw[hnewmu]at hm';injection hm' with hm'
     subst hm';rw[hmu q h6]at hm;rw[hS q h6]at hq;exact(hI.R.fbk q _ (mC hq) hm hfbb).elim
   ·rcases cases3 q' hq' with h7|h7
    ·subst h6;rw[hnewmu]at hm;injection hm with hm
     subst hm;rw[hmu q' h7]at hm';rw[hS q' h7]at hq';exact(hI.R.fbk q' _ hq' hm' hfbb).elim
    ·rw[h6,h7]
  ·by_cases hq:q<c.S.length
   ·rw[hS q hq]at hd⊢;obtain⟨h6,h7⟩:=hI.R.blk q d hd;refine⟨h6, ?_⟩;rcases h7 with⟨h7,h8⟩|⟨b',y',cs',rest',h7,h8,h9,h10,h11,h12⟩
    ·exact .inl ⟨h7,by rw[hmu q hq];exact h8⟩
    ·exact .inr ⟨b',y',cs',rest',by rw[hmu q hq];exact h7,h8,h9,h10,h11,VRel.framesV hV h12⟩
   ·by_cases hq2:q=c.S.length
    ·subst hq2;rw[hnewS]at hd⊢;rw[d1]at hd;injection hd with hd
     subst hd;exact⟨d2, .inr ⟨b,x',cs,rest,hnewmu,h4,d3,fun _=>d4,d5,d6 c'⟩⟩
    ·rw[ux (by show c'.S.length≤q;rw[hlen];omega)]at hd;cases hd
  ·by_cases hq:q<c.S.length
   ·rw[hS q hq]at hd;rw[hmu q hq]at hm;exact fun hf=>hI.R.fbk q b' hd hm (hfb' _ hf)
   ·have:=mO hd;rw[hlen]at this;have hq2:q=c.S.length:=by omega
    subst hq2;rw[hnewmu]at hm;injection hm with hm
    subst hm;exact hbnot
 have hvv:VRel c' (vvF w c.S.length) (vf' b):=h2.vv c' c.S.length b (by rw[hlen];omega) hnewS hnewmu h4
 have hE':bw c' (putO e (dv ops it.i).dst (vvF w c.S.length)) ea:=by
  have hE:=hI.E.frameV hV;cases hd:(dv ops it.i).dst with
  |none=>exact hE
  |some t=>
   intro t';show VRel c' (mD (pK e t _) t') (ea t');rw[ur];by_cases ht:t'=t
   ·subst ht;rw[zE rfl,h5 _ hd];exact hvv
   ·rw[zF ht];exact hE t'
 refine⟨c',_,rfl,⟨?_,hR',hE',hI.K.frameV hI.R hV hS hmu (fun _ _ hy=>hy),hI.ks,hI.nd,fun q=>Iff.rfl,aR9 hI.nod,fun q q' hq hq'=>hI.inj q q' ((pJ hI.nod).1 hq).1 ((pJ hI.nod).1 hq').1,fun q hq=>hI.new q ((pJ hI.nod).1 hq).1,fun q hq=>hI.pend q ((pJ hI.nod).1 hq).1, ?_,hds.2⟩,h1⟩
 ·have hle:=hI.le;refine⟨Nat.le_trans hle.len (by show c.S.length≤c'.S.length;rw[hlen];omega),fun q d hq hd=> ?_,fun q hf hd=> ?_,fun q d b' y' hq hd hm hy=> ?_,fun b' y' hy hn=>hle.un b' y' hy hn,fun b' y' hy hn ho=> ?_,hle.n,rfl⟩
  ·have hq':q<c.S.length:=bD hq hle.len;have:=hS q hq';rw[show(⟨c'.μ,c'.S,c'.σ,c0.fb⟩:Ctx).S=c'.S from rfl,this]at hd;obtain⟨h6,h7⟩:=hle.al q d hq hd;exact⟨h6,(hmu q hq').trans h7⟩
  ·have hq':q<c.S.length:=bD (mO hd) hle.len;exact(hS q hq').trans (hle.fz q hf hd)
  ·have hq':q<c.S.length:=bD hq hle.len;have:=hS q hq';rw[show(⟨c'.μ,c'.S,c'.σ,c0.fb⟩:Ctx).S=c'.S from rfl,this]at hd;exact hle.ln q d b' y' hq hd hm hy
  ·have ho':c'.own b':=ho;rcases hown b' ho' with ho2|ho2
   ·exact hle.ow b' y' hy hn ho2
   ·subst ho2;have:=h0.ok _ _ hy;have:=hI.new _ hP;omega
 ·intro it' hit' hk' t ht;have hu:=hI.und it' (cB _ hit') hk' t ht;cases hd:(dv ops it.i).dst with
  |none=>exact hu
  |some t'=>
   show mD (pK e t' _) t=_;rw[ur];by_cases htt:t=t'
   ·subst htt;have:=List.all_eq_true.1 hds.1 it' hit';rw[hk,hk']at this;simp only[Bool.not_true,Bool.false_or,neO,hd,ht,dB]at this;cases this
   ·rw[zF htt];exact hu
theorem bS5 {β:Type}{c0 c:Ctx}{e:et}{ea:dh}{ach:List (Nat×(Hp→Prop))}{chk:Chk}{P ls nd:List Nat}{it:LItem}{r:List LItem}{pd:Nat→Nat}{k:et→bq→Option β}{y:β}
  (hI:InvL ops c0 c e ea ach chk P ls nd (it::r) pd) (hk:aB it.kind 3=true) (h:evL tab ops (it::r) chk e c.S k=some y):
  InvL ops c0 c e ea ach chk P ls nd r pd∧evL tab ops r chk e c.S k=some y:=by
 simp only[evL,hk,zC]at h;obtain⟨_,_,_,_,_,h1,_⟩:=aA9 hI.E h;have hds:=hI.ds;simp only[bs4,aD]at hds;exact⟨⟨hI.le,hI.R,hI.E,hI.K,hI.ks,hI.nd,hI.fb,hI.nod,hI.inj,hI.new,hI.pend,fun j hj hk t ht=>hI.und j (cB _ hj) hk t ht,hds.2⟩,h1⟩
theorem aJ7 {β:Type}{c0:Ctx}{ea:dh}{ach:List (Nat×(Hp→Prop))}{chk:Chk}{ls nd:List Nat}{pd:Nat→Nat}{k:et→bq→Option β}{y:β}{i:Nat}(h0:fq c0): ∀(r:List LItem) {P P':List Nat} {it:LItem} {r':List LItem} {c:Ctx} {e:et},ag5 r P i=some (P',it,r')→
  InvL ops c0 c e ea ach chk P ls nd r pd→evL tab ops r chk e c.S k=some y→
  ∃c' e',c'.σ=c.σ∧InvL ops c0 c' e' ea ach chk P' ls nd (it::r') pd∧evL tab ops (it::r') chk e' c'.S k=some y∧aB it.kind 2=false∧it.i=i∧∀q∈P',q∈P
 |[],P,P',it,r',c,e,h,_,_=>by cases h
 |a::r,P,P',it,r',c,e,h,hI,hv=>by
  simp only[ag5]at h;cases hk3:aB a.kind 3 with
  |true=>
   rw[hk3,zC]at h;obtain⟨h1,h2⟩:=bS5 hI hk3 hv;exact aJ7 h0 r h h1 h2
  |false=>
  rw[hk3,zD]at h;cases hk:aB a.kind 2 with
  |false=>
   rw[hk,zD]at h;cases hi:aB a.i i with
   |false=>rw[hi]at h;cases h
   |true=>
    rw[hi,zC]at h;injection h with h
    injection h with h1 h
    injection h with h2 h3
    subst h1;subst h2;subst h3;exact⟨c,e,rfl,hI,hv,hk,bB hi,fun q hq=>hq⟩
  |true=>
   rw[hk,zC]at h;cases hm:mK a.i P with
   |false=>rw[hm]at h;cases h
   |true=>
    rw[hm,zC]at h;obtain⟨c1,e1,h1,h2,h3⟩:=ch8 h0 hI hk (lB.1 hm) hv;obtain⟨c2,e2,h4,h5,h6,h7,h8,h9⟩:=aJ7 h0 r h h2 h3;exact⟨c2,e2,h4.trans h1,h5,h6,h7,h8,fun q hq=>((pJ hI.nod).1 (h9 q hq)).1⟩
theorem bF8 {β:Type}{c0:Ctx}{ea:dh}{ach:List (Nat×(Hp→Prop))}{chk:Chk}{ls nd:List Nat}{pd:Nat→Nat}{k:et→bq→Option β}{y:β}(h0:fq c0): ∀(r:List LItem) {P:List Nat} {c:Ctx} {e:et},ca3 r P=true→
  InvL ops c0 c e ea ach chk P ls nd r pd→evL tab ops r chk e c.S k=some y→rh c0 k y ea c.σ
 |[],P,c,e,h,hI,hv=>by
  have hP:P=[]:=by
   cases P with
   |nil=>rfl
   |cons a r=>simp[ca3]at h
  subst hP
  have hfb:c.fb=c0.fb:=by
   funext b
   refine propext ((hI.fb b).trans ⟨fun h=> ?_, .inl⟩);rcases h with h|⟨q,hq,_⟩
   ·exact h
   ·cases hq
  refine⟨e,c,rfl, ?_,hI.R,hI.E,hv⟩;have:=hI.le;rw[←hfb]at this;exact this
 |a::r,P,c,e,h,hI,hv=>by
  simp only[ca3]at h;cases hk3:aB a.kind 3 with
  |true=>
   rw[hk3,zC]at h;obtain⟨h1,h2⟩:=bS5 hI hk3 hv;exact bF8 h0 r h h1 h2
  |false=>
  rw[hk3,zD]at h;simp only[aD]at h;obtain⟨c1,e1,h1,h2,h3⟩:=ch8 h0 hI h.1.1 (lB.1 h.1.2) hv;rw[←h1];exact bF8 h0 r h.2 h2 h3
theorem aX7 {β:Type}{c:Ctx}{ea:dh}{chk:Chk}{k:et→bq→Option β}{y:β}{m:Nat}: ∀(r:List LItem) {e e':et} {S:bq},bf0 ops r m=true→bw c e ea→(∀t∈yl (dv ops m).op,mD e' t=mD e t)→evL tab ops r chk e' S k=some y→∃x vf,xi (dv ops m).op=true∧qF (dv ops m).op ea x vf
 |[],e,e',S,h,_,_,_=>by cases h
 |a::r,e,e',S,h,he,hu,hv=>by
  have huse: ∀(vv:VV),aH7 (dv ops a.i).dst (yl (dv ops m).op)=true→∀t∈yl (dv ops m).op,mD (putO e' (dv ops a.i).dst vv) t=mD e t:=by
   intro vv h1 t ht;rw[←hu t ht];cases hd:(dv ops a.i).dst with
   |none=>rfl
   |some t'=>
    show mD (pK e' t' _) t=_;rw[ur];by_cases htt:t=t'
    ·subst htt;rw[hd]at h1;simp only[aH7]at h1;rw[lB.2 ht]at h1;cases h1
    ·rw[zF htt]
  have fresh_here: ∀{γ:Type} {k':Blk→Bool→Option γ} {z:γ},ae8 (dv ops m).op e' k'=some z→∃x vf,xi (dv ops m).op=true∧qF (dv ops m).op ea x vf:=by
   intro γ k' z hv
   have hv':ae8 (dv ops m).op e k'=some z:=by
    cases hop:(dv ops m).op<;>rw[hop]at hv hu<;>simp only[ae8]at hv<;>first|(cases hv;done)|skip
    case alloc es z=>exact hv
    case makeSlice es bytes z l q=>
     have e1:ev e' l=ev e l:=by
      cases l with
      |tmp t=>exact hu t (by simp[yl,bS0])
      |_=>rfl
     have e2:ev e' q=ev e q:=by
      cases q with
      |tmp t=>exact hu t (by simp[yl,bS0])
      |_=>rfl
     rw[e1,e2]at hv;exact hv
    case buildSlice es ln z ps=>
     have e1:yN e' ps=yN e ps:=by
      unfold yN;apply fB;rintro⟨o,s,x⟩ hx;simp only
      have:ev e' x=ev e x:=by
       cases x with
       |tmp t=>exact hu t (List.mem_flatMap.2 ⟨_,hx,by simp[bS0]⟩)
       |_=>rfl
      rw[this]
     rw[e1]at hv;exact hv
   obtain⟨hf,blk,w,x,vf,_,h2⟩:=aA9 he hv';exact⟨x,vf,hf,h2.run⟩
  simp only[bf0]at h;cases hk3:aB a.kind 3 with
  |true=>
   rw[hk3,zC,cD]at h;simp only[evL,hk3,zC]at hv;rcases h with h|h
   ·rw[bB h]at hv;exact fresh_here hv
   ·have hnext:evL tab ops r chk e' S k=some y:=by
     cases hop:(dv ops a.i).op<;>rw[hop]at hv<;>simp only[ae8]at hv<;>first|(cases hv;done)|skip
     case alloc es z=>exact(bx hv).2
     case makeSlice es bytes z l q=>
      split at hv
      ·exact(bx hv).2
      ·cases hv
     case buildSlice es ln z ps=>
      split at hv
      ·exact(bx hv).2
      ·cases hv
    exact aX7 r h he hu hnext
  |false=>
  rw[hk3,zD]at h;simp only[cD,aD]at h;rcases h with⟨hk,h⟩|⟨⟨⟨hk,hmv⟩,h1⟩,h2⟩
  ·simp only[evL,hk,hk3,zC,zD]at hv;by_cases hi:a.i=m
   ·rw[hi]at hv;exact fresh_here hv
   ·rcases h with h|⟨h1,h2⟩
    ·exact(hi (bB h)).elim
    ·have hnext: ∃blk w,evL tab ops r chk (putO e' (dv ops a.i).dst (vvF w S.length)) (S++[blk]) k=some y:=by
      cases hop:(dv ops a.i).op<;>rw[hop]at hv<;>simp only[ae8]at hv<;>first|(cases hv;done)|skip
      case alloc es z=>exact⟨_,_,(bx hv).2⟩
      case makeSlice es bytes z l q=>
       split at hv
       ·exact⟨_,_,(bx hv).2⟩
       ·cases hv
      case buildSlice es ln z ps=>
       split at hv
       ·exact⟨_,_,(bx hv).2⟩
       ·cases hv
     obtain⟨blk,w,hv2⟩:=hnext;exact aX7 r h2 he (huse _ h1) hv2
  ·have hk2:aB a.kind 2=false:=by rw[bB hk];rfl
   have hk1:aB a.kind 1=false:=by rw[bB hk];rfl
   simp only[evL,hk2,hk1,hk3,zD]at hv;obtain⟨_,hv⟩:=bx hv;cases hop:(dv ops a.i).op<;>rw[hop]at hmv<;>first|(cases hmv;done)|skip
   case move x=>
    rw[hop]at hv;simp only[be2,AOp.isLoad,zD]at hv;obtain⟨_,hv⟩:=bx hv;exact aX7 r h2 he (huse _ h1) hv
theorem cg1 {F:Nat→Prop}: ∀{l:List Nat},(∀m∈l,F m)→bp2 F l
 |[],_=>trivial
 |[m],h=>h m (by simp)
 |m::m'::r,h=>⟨h m (by simp),cg1 fun q hq=>h q (cB _ hq)⟩
theorem cK5 {D:List Nat}{i:Nat}(h:jY ops D=some i): ∃p,ops[i]?=some (dv ops i,p)∧(dv ops i).op.still=true:=by
 unfold jY at h;have h1:=List.find?_some h;simp only[aD]at h1;have h2:=h1.2;unfold ag3 at h2;unfold dv;split at h2
 ·rename_i o p ho;rw[ho];exact⟨p,rfl,h2⟩
 ·cases h2
theorem cy5 {D:List Nat}{m:Nat}(h:m∈er ops D): ∃p,ops[m]?=some (dv ops m,p)∧(dv ops m).op.still=false:=by
 unfold er at h;obtain⟨h1,h2⟩:=List.mem_filter.1 h;have h1:=List.mem_range.1 h1;simp only[aD]at h2;have h3:=h2.2;unfold ag3 at h3;unfold dv;rw[List.getElem?_eq_getElem h1]at h3⊢;exact⟨_,rfl,by simpa using h3⟩
theorem ci6 {self:Nat}{ex:Bool}{P:List Nat}{r:List LItem}(h:ay8 ops self ex P r=true){q:Nat}(hq:q∈P):(∀t,(dv ops self).dst=some t→(dv ops q).dst≠some t)∧∀t,(dv ops self).dst=some t→t∉yl (dv ops q).op:=by
 simp only[ay8,aD]at h;have h1:=List.all_eq_true.1 h.1 q hq;rw[aD]at h1;refine⟨fun t ht e=> ?_,fun t ht hu=> ?_⟩
 ·have:=h1.1;rw[ht,e]at this;simp only[neO,dB]at this;cases this
 ·have:=h1.2;rw[ht]at this;simp only[aH7]at this;rw[lB.2 hu]at this;cases this
theorem cL1 {self:Nat}{ex:Bool}{P:List Nat}{r:List LItem}(h:ay8 ops self ex P r=true){it:LItem}(hit:it∈r)(hk:aB it.kind 2=true)(hne:ex=true→it.i≠self){t:Nat}(ht:(dv ops self).dst=some t):(dv ops it.i).dst≠some t:=by
 simp only[ay8,aD]at h;have h1:=List.all_eq_true.1 h.2 it hit
 have h2:(ex&&aB it.i self)=false:=by
  cases ex with
  |false=>rfl
  |true=>exact Bool.eq_false_iff.2 fun e=>hne rfl (bB e)
 rw[hk,h2]at h1;intro e;rw[ht,e]at h1;simp only[Bool.not_true,Bool.false_or,neO,dB]at h1;cases h1
theorem aI5 {ea:dh}{d:Option Nat}{v:Value}{t:Nat}(h: ∀t',d=some t'→t≠t'):(ea.putO d v) t=ea t:=by
 cases d with
 |none=>rfl
 |some t'=>exact zF (h t' rfl)
theorem cB2 {e:et}{d:Option Nat}{v:VV}{t:Nat}(h: ∀t',d=some t'→t≠t'):mD (putO e d v) t=mD e t:=by
 cases d with
 |none=>rfl
 |some t'=>
  show mD (pK e t' v) t=_;rw[ur,zF (h t' rfl)]
theorem InvL.on {c0 c c':Ctx}{e:et}{ea:dh}{ach ach':List (Nat×(Hp→Prop))}{chk chk':Chk}{P ls ls' nd nd':List Nat}{it:LItem}{r:List LItem}{pd:Nat→Nat}{i:Nat}{vv:VV}{v:Value}
  (hI:InvL ops c0 c e ea ach chk P ls nd (it::r) pd) (hd:ay8 ops i false P r=true) (hl:Le c c') (hR:fq c') (hv:VRel c' vv v) (hK:ChkRel c' ach' chk') (hks:ach'.map (·.1)=ls') (hnd:mn nd' chk'=true):
  InvL ops c0 c' (putO e (dv ops i).dst vv) (ea.putO (dv ops i).dst v) ach' chk' P ls' nd' r pd:=by
 have hds:=hI.ds;simp only[bs4,aD]at hds;refine⟨?_,hR,(hI.E.frame hl).putO hv,hK,hks,hnd,fun b=>by rw[hl.fb];exact hI.fb b,hI.nod,hI.inj,hI.new,fun q hq=> ?_,fun j hj hk t ht=> ?_,hds.2⟩
 ·have h1:=hI.le;have h2:Le ⟨c.μ,c.S,c.σ,c0.fb⟩ ⟨c'.μ,c'.S,c'.σ,c0.fb⟩:=⟨hl.len,hl.al,hl.fz,hl.ln,hl.un,hl.ow,hl.n,rfl⟩;exact h1.trans h2
 ·obtain⟨hf,x,vf,h1,h2,h3⟩:=hI.pend q hq;obtain⟨k1,k2⟩:=ci6 hd hq;refine⟨hf,x,vf,h1.same hf fun t ht=>aI5 fun t' ht' e=>k2 t' ht' (e▸ht),hl.un _ _ h2 fun ho=> ?_,fun t ht=> ?_⟩
  ·obtain⟨j,hj1,hj2⟩:=ho;exact hI.R.fbk j _ (mC hj1) hj2 ((hI.fb _).2 (.inr ⟨q,hq,rfl⟩))
  ·rw[aI5 fun t' ht' e=>k1 t' ht' (e▸ht)];exact h3 t ht
 ·rw[cB2 fun t' ht' e=>cL1 hd hj hk (fun h=>by cases h) ht' (e▸ht)];exact hI.und j (cB _ hj) hk t ht
theorem bF6 {β:Type}{c0:Ctx}{k:et→bq→Option β}{y:β}(h0:fq c0): ∀(f:Nat) {D P ls nd:List Nat} {r:List LItem} {c:Ctx} {e:et} {ea:dh} {ach:List (Nat×(Hp→Prop))} {chk:Chk} {pd:Nat→Nat},bE9 ops f D P ls nd r=true→InvL ops c0 c e ea ach chk P ls nd r pd→evL tab ops r chk e c.S k=some y→
  wpD (i7 tab) (rh c0 k y) ops f D ach ea c.σ
 |0,D,P,ls,nd,r,c,e,ea,ach,chk,pd,h,hI,hv=>bF8 h0 r h hI hv
 |f+1,D,P,ls,nd,r,c,e,ea,ach,chk,pd,h,hI,hv=>by
  simp only[bE9]at h;simp only[wpD];cases hns:jY ops D with
  |some i=>
   rw[hns]at h;simp only[aD]at h⊢;obtain⟨hg,h⟩:=h;obtain⟨p,ho,hst⟩:=cK5 hns;rw[ho]
   have hw:wanted (dv ops i) ea=true:=by
    unfold wanted;cases hgg:(dv ops i).guard with
    |none=>rfl
    |some q=>rw[hgg]at hg;cases hg
   simp only[hw,if_true];cases hs:ag5 r P i with
   |none=>rw[hs]at h;cases h
   |some q=>
    obtain⟨P',it,r'⟩:=q;rw[hs]at h;simp only[aD]at h;obtain⟨⟨hk0,hd⟩,hc⟩:=h;obtain⟨c1,e1,h1,h2,h3,h4,h5,h6⟩:=aJ7 h0 r hs hI hv;subst h5;have hk1:aB it.kind 1=false:=by rw[bB hk0];rfl
    have hk3:aB it.kind 3=false:=by rw[bB hk0];rfl
    simp only[evL,h4,hk1,hk3,zD]at h3;obtain⟨_,h3⟩:=bx h3;have h7:=aG6 h2.R h2.E h3;rw[←ar5 hst,h1]at h7;cases hr:(dv ops it.i).op.run ea c.σ with
    |none=>rw[hr]at h7;exact h7.elim
    |some q=>
     obtain⟨v,σ1⟩:=q;rw[hr]at h7;obtain⟨vv,c2,g1,g2,g3,g4,g5,g6⟩:=h7;simp only
     have hdd:aG4 tab (dv ops it.i).op e1 c1.S=[]:=by
      cases hop:(dv ops it.i).op<;>rw[hop]at hst<;>first|(cases hst;done)|rfl
     have hσ1:σ1=c.σ:=aC8 hst hr;obtain⟨g7,g8⟩:=bx g6;have hn:=h2.K.next g2 g4
     rw[hdd,xy]at hn
     have hstep: ∀{ach':List (Nat×(Hp→Prop))} {chk':Chk} {ls':List Nat},ChkRel c2 ach' chk'→ach'.map (·.1)=ls'→mn it.need chk'=true→evL tab ops r' chk' (putO e1 (dv ops it.i).dst vv) c2.S k=some y→bE9 ops f (it.i::D) P' ls' it.need r'=true→
       wpD (i7 tab) (rh c0 k y) ops f (it.i::D) ach' (ea.putO (dv ops it.i).dst v) c.σ:=by
      intro ach' chk' ls' q1 q2 q3 q4 q5;have:=bF6 h0 f q5 (h2.on hd g2 g3 g5 q1 q2 q3) q4;rw[g1,hσ1]at this;exact this
     cases hld:(dv ops it.i).op.isLoad with
     |false=>
      rw[hld]at g7 g8 hc;rw[zF (by decide)];exact hstep hn h2.ks g7 g8 hc
     |true=>
      rw[hld]at g7 g8 hc;rw[zE rfl];have hkp:=br4 h2.R h2.E hld (by rw[h1];exact hr);have hn2:=(ChkRel.cons (i:=it.i) hkp h2.K).next g2 g4
      rw[hdd,xy]at hn2;exact hstep hn2 (by rw[List.map_cons,h2.ks];rfl) g7 g8 hc
  |none=>
   rw[hns]at h;simp only at h⊢
   have each: ∀{ms:List Nat},(∀m∈ms,m∈er ops D)→(ms.all fun m=>(dv ops m).guard.isNone&&cond (xi (dv ops m).op)
    (!mK m P&&r.any (fun it=>aB it.kind 2&&aB it.i m)&&(bQ3 (dv ops m).op||bf0 ops r m)&&ay8 ops m true P r&&aH7 (dv ops m).dst (yl (dv ops m).op)&&ls.all (fun i=>uO ops i m||mK i nd)&&bE9 ops f (m::D) (m::P) ls nd r)
    (match ag5 r P m with
    |some (P',it,r')=>aB it.kind 1&&ay8 ops m false P' r'&&ls.all (fun i=>uO ops i m||mK i it.chks)&&bE9 ops f (m::D) P' ls it.need r'
    |none=>false))=true→bp2 (fun m=>match ops[m]? with
     |some (o,_)=>if wanted o ea then ck (i7 tab) o.op ea c.σ fun v σ'=>ah8 ops m σ' ach∧wpD (i7 tab) (rh c0 k y) ops f (m::D) ach (ea.putO o.dst v) σ'
      else wpD (i7 tab) (rh c0 k y) ops f (m::D) ach (ea.putO o.dst undef) c.σ
     |none=>False) ms:=by
    intro ms hms hall;refine cg1 fun m hm=> ?_
    have h:=List.all_eq_true.1 hall m hm;simp only[aD]at h;obtain⟨hg,h⟩:=h;obtain⟨p,ho,hst⟩:=cy5 (hms m hm);rw[ho]
    have hw:wanted (dv ops m) ea=true:=by
     unfold wanted;cases hgg:(dv ops m).guard with
     |none=>rfl
     |some q=>rw[hgg]at hg;cases hg
    simp only[hw,if_true];cases hfr:xi (dv ops m).op with
    |false=>
     rw[hfr,zD]at h;cases hs:ag5 r P m with
     |none=>rw[hs]at h;cases h
     |some q=>
      obtain⟨P',it,r'⟩:=q;rw[hs]at h;simp only[aD]at h;obtain⟨⟨⟨hk1,hd⟩,hls⟩,hc⟩:=h;obtain⟨c1,e1,h1,h2,h3,h4,h5,h6⟩:=aJ7 h0 r hs hI hv;subst h5;have hk3:aB it.kind 3=false:=by rw[bB hk1];rfl
      simp only[evL,h4,hk1,hk3,zD,zC]at h3;have h7:=aG6 h2.R h2.E h3;rw[h1]at h7;refine nS (db tab) (fun v σ' hx=> ?_) h7;obtain⟨vv,c2,g1,g2,g3,g4,g5,g6⟩:=hx;obtain⟨g7,g8⟩:=bx g6;rw[aD]at g7;have hn:=h2.K.next g2 g4
      subst g1;refine⟨xj hn g7.1 fun i hi=> ?_,bF6 h0 f hc (h2.on hd g2 g3 g5 hn h2.ks g7.2) g8⟩;rw[h2.ks]at hi;have:=List.all_eq_true.1 hls i hi;rw[cD]at this;exact this
    |true=>
     rw[hfr,zC]at h;simp only[aD]at h;obtain⟨⟨⟨⟨⟨⟨hnm,hany⟩,hor⟩,hd⟩,hself⟩,hls⟩,hc⟩:=h;have hmP:m∉P:=fun e=>by rw[lB.2 e]at hnm;cases hnm
     obtain⟨x,vf,hF⟩: ∃x vf,qF (dv ops m).op ea x vf:=by
      rw[cD]at hor;rcases hor with hor|hor
      ·cases hop:(dv ops m).op<;>rw[hop]at hor<;>first|(cases hor;done)|skip
       case alloc es z=>exact⟨⟨z,true,es⟩,fun n=> .pointer (some ⟨n,0,none⟩),fun σ=>rfl⟩
      ·obtain⟨x,vf,_,h1⟩:=aX7 r hor hI.E (fun t _=>rfl) hv;exact⟨x,vf,h1⟩
     let c':Ctx:=⟨c.μ,c.S,c.σ.add x,fun b=>c.fb b∨b=c.σ.n⟩
     have hadd: ∀b y,c.σ.m b=some y→(c.σ.add x).m b=some y:=by
      intro b y hy;have:=hI.R.ok b y hy;simp only[Hp.add];rw[zF (by omega)];exact hy
     have hV:LeV c c':=by
      refine⟨eD _,fun q d hq hdm=>⟨hdm,rfl⟩,fun q d b y hq hdm hm hy=>⟨y,hadd b y hy,rfl⟩,fun b y hy hn=>⟨hadd b y hy,fun hm=> ?_⟩⟩;rcases hm with hm|hm|hm
      ·exact hn (.inl hm)
      ·exact hn (.inr hm)
      ·have:=hI.R.ok b y hy;omega
     have hR':fq c':=by
      refine⟨fun b y hy=> ?_,hI.R.inj,fun q d hdm=> ?_,fun q b hdm hm hf=> ?_,fun b hb=> ?_⟩
      ·simp only[c',Hp.add]at hy⊢;split at hy
       ·omega
       ·have:=hI.R.ok b y hy;omega
      ·obtain⟨h6,h7⟩:=hI.R.blk q d hdm;refine⟨h6, ?_⟩;rcases h7 with h7|⟨b',y',cs',rest',h7,h8,h9,h10,h11,h12⟩
       ·exact .inl h7
       ·exact .inr ⟨b',y',cs',rest',h7,hadd _ _ h8,h9,h10,h11,VRel.framesV hV h12⟩
      ·rcases hf with hf|hf
       ·exact hI.R.fbk q b hdm hm hf
       ·subst hf;have hdm':(bl c.S q).dim≠none:=hdm;cases hd2:(bl c.S q).dim with
        |none=>exact hdm' hd2
        |some d=>
         obtain⟨_,h7⟩:=hI.R.blk q d hd2;have hm':c.μ q=some c.σ.n:=hm;rcases h7 with⟨_,h7⟩|⟨b',y',cs',rest',h7,h8,_⟩
         ·rw[hm']at h7;cases h7
         ·rw[hm']at h7;injection h7 with h7
          subst h7;have:=hI.R.ok _ _ h8;omega
      ·show b<c.σ.n+1;rcases hb with hb|hb
       ·have:=hI.R.fbl b hb;omega
       ·omega
     have hK':=hI.K.frameV hI.R hV (fun _ _=>rfl) (fun _ _=>rfl) hadd;refine cv (hF c.σ) ⟨xj hK' hI.nd fun i hi=> ?_, ?_⟩
     ·rw[hI.ks]at hi;have:=List.all_eq_true.1 hls i hi;rw[cD]at this;exact this
     ·refine bF6 (c:=c') (pd:=fun q=>if q=m then c.σ.n else pd q) h0 f hc ⟨?_,hR', ?_,hK',hI.ks,hI.nd,fun b=> ?_,List.nodup_cons.2 ⟨hmP,hI.nod⟩,fun q q' hq hq' he=> ?_,fun q hq=> ?_,fun q hq=> ?_,hI.und,hI.ds⟩ hv
      ·have hle:=hI.le;refine⟨hle.len,hle.al,hle.fz,fun q d b y hq hdm hm hy=> ?_,fun b y hy hn=>hadd _ _ (hle.un b y hy hn),hle.ow,Nat.le_trans hle.n (Nat.le_succ _),rfl⟩;obtain⟨y',q1,q2⟩:=hle.ln q d b y hq hdm hm hy;exact⟨y',hadd _ _ q1,q2⟩
      ·have hE:=hI.E.frameV hV;intro t;cases hdst:(dv ops m).dst with
       |none=>exact hE t
       |some t'=>
        show VRel c' (mD e t) (if t=t' then _ else ea t);by_cases htt:t=t'
        ·subst htt;rw[zE rfl];obtain⟨it,hit,hit2⟩:=List.any_eq_true.1 hany;rw[aD]at hit2;have hitm:=bB hit2.2;subst hitm;rw[hI.und it hit hit2.1 _ hdst];exact .undef _
        ·rw[zF htt];exact hE t
      ·constructor
       ·rintro(hb|hb)
        ·rcases(hI.fb b).1 hb with hb|⟨q,hq,hb⟩
         ·exact .inl hb
         ·refine .inr ⟨q,cB _ hq, ?_⟩;show(if q=m then c.σ.n else pd q)=b;rw[zF (fun e:q=m=>hmP (e▸hq))];exact hb
        ·exact .inr ⟨m,List.mem_cons_self,by simp[hb]⟩
       ·rintro(hb|⟨q,hq,hb⟩)
        ·exact .inl ((hI.fb b).2 (.inl hb))
        ·rcases List.mem_cons.1 hq with rfl|hq
         ·simp only[if_true]at hb;exact .inr hb.symm
         ·have hb:(if q=m then c.σ.n else pd q)=b:=hb;rw[zF (fun e:q=m=>hmP (e▸hq))]at hb;exact .inl ((hI.fb b).2 (.inr ⟨q,hq,hb⟩))
      ·have hlt: ∀q∈P,pd q<c.σ.n:=fun q hq=>hI.R.fbl _ ((hI.fb _).2 (.inr ⟨q,hq,rfl⟩))
       have he:(if q=m then c.σ.n else pd q)=if q'=m then c.σ.n else pd q':=he
       rcases List.mem_cons.1 hq with rfl|hq1
       ·rcases List.mem_cons.1 hq' with rfl|hq2
        ·rfl
        ·rw[zE rfl,zF (fun e:q'=q=>hmP (e▸hq2))]at he;have:=hlt _ hq2;omega
       ·rw[zF (fun e:q=m=>hmP (e▸hq1))]at he;rcases List.mem_cons.1 hq' with rfl|hq2
        ·rw[zE rfl]at he;have:=hlt _ hq1;omega
        ·rw[zF (fun e:q'=m=>hmP (e▸hq2))]at he;exact hI.inj q q' hq1 hq2 he
      ·show c0.σ.n≤(if q=m then c.σ.n else pd q);rcases List.mem_cons.1 hq with rfl|hq
       ·rw[zE rfl];exact hI.le.n
       ·rw[zF (fun e:q=m=>hmP (e▸hq))];exact hI.new q hq
      ·show xi (dv ops q).op=true∧∃x1 vf1,qF (dv ops q).op (ea.putO (dv ops m).dst (vf c.σ.n)) x1 vf1∧c'.σ.m (if q=m then c.σ.n else pd q)=some x1∧∀t,(dv ops q).dst=some t→ea.putO (dv ops m).dst (vf c.σ.n) t=vf1 (if q=m then c.σ.n else pd q)
       rcases List.mem_cons.1 hq with rfl|hq
       ·rw[zE rfl];refine⟨hfr,x,vf,hF.same hfr fun t ht=>aI5 fun t' ht' e=> ?_,zE rfl,fun t ht=> ?_⟩
        ·subst e;rw[ht']at hself;simp only[aH7]at hself;rw[lB.2 ht]at hself;cases hself
        ·rw[ht];exact zE rfl
       ·rw[zF (fun e:q=m=>hmP (e▸hq))];obtain⟨hf',x',vf',q1,q2,q3⟩:=hI.pend q hq;obtain⟨k1,k2⟩:=ci6 hd hq;refine⟨hf',x',vf',q1.same hf' fun t ht=>aI5 fun t' ht' e=>k2 t' ht' (e▸ht),hadd _ _ q2,fun t ht=> ?_⟩;rw[aI5 fun t' ht' e=>k1 t' ht' (e▸ht)];exact q3 t ht
   cases hrm:er ops D with
   |nil=>rw[hrm]at h;exact bF8 h0 r h hI hv
   |cons a l=>
    rw[hrm]at h;exact each (fun m hm=>by rw[hrm];exact hm) h
end
end
section
open Bool renaming and_eq_true → aB
open List renaming mem_cons_self → aD, mem_cons_of_mem → cB, mem_of_getElem? → cD
open Nat renaming beq → bB, zero_add → bD, eq_of_beq_eq_true → dB
section
variable {tab:Tab}
theorem bS7 {c:Ctx}{e:et}{ea:dh}{t:Nat}{p:Bool}(he:bw c e ea)(hp:mD e t= .bool p):bw c (pK e t (.bool p)) ea:=by
 have ht:=he t;rw[hp]at ht;have ht:=ht.bool_inv;intro i;rw[ur];by_cases hi:i=t
 ·subst hi;rw[zE rfl,ht];exact .bool _
 ·rw[zF hi];exact he i
theorem aA8 {β:Type}{y:β}: ∀{its:List SItem} {c:Ctx} {e:et} {ea:dh} {chk:Chk} {ach:List (Nat×(Hp→Prop))} {k:et→bq→Option β},fq c→bw c e ea→ChkRel c ach chk→sB tab its chk e c.S k=some y→wpI (i7 tab) (rh c k y) its ach ea c.σ
 |[],c,e,ea,chk,ach,k,hR,he,hc,h=>⟨e,c,rfl,Le.refl c,hR,he,h⟩
 |it::r,c,e,ea,chk,ach,k,hR,he,hc,h=>by
  have step: ∀e1,bw c e1 ea→aM5 tab it chk e1 c.S (fun chk' e' S'=>sB tab r chk' e' S' k)=some y→
    (if it.mover then ck (i7 tab) it.o.op ea c.σ (fun v σ'=>vX it.chks σ' ach∧wpI (i7 tab) (rh c k y) r ach (ea.putO it.o.dst v) σ')
    else match it.o.op.run ea c.σ with
     |some (v,_)=>wpI (i7 tab) (rh c k y) r (if it.keep then(it.idx,fun σ'=>it.o.op.run ea σ'=some (v,σ'))::ach else ach) (ea.putO it.o.dst v) c.σ
     |none=>False):=by
   intro e1 he1 h1;refine cn5 (Q:=fun ach' ea' σ'=>wpI (i7 tab) (rh c k y) r ach' ea' σ') hR he1 hc h1 fun c' ach' chk' e' ea' h2 h3 h4 h5 h6=> ?_
   exact as8 (db tab) (fun ea'' σ'' hp=>hp.of h2) _ _ _ _ (aA8 h3 h5 h4 h6)
  have skip: ∀e1,bw c e1 ea→sB tab r chk (putO e1 it.o.dst (.tup [])) c.S k=some y→wpI (i7 tab) (rh c k y) r ach (ea.putO it.o.dst undef) c.σ:=fun e1 he1 h1=>aA8 hR (he1.putO (.tup .nil)) hc h1
  simp only[sB]at h;simp only[wpI];split at h
  ·rename_i hg;have:wanted it.o ea=true:=by simp only[wanted,hg]
   rw[zE this];exact step e he h
  ·rename_i t w hg;split at h
   ·rename_i p hp;have ht:=he t;rw[hp]at ht;have ht:=ht.bool_inv;have hw:wanted it.o ea=(p==w):=by simp only[wanted,hg,ht]
    have hput:=bS7 he hp;rw[hw];cases p<;>cases w<;>simp only[zC,zD]at h
    ·rw[zE (by decide)];exact step _ hput h
    ·rw[zF (by decide)];exact skip _ hput h
    ·rw[zF (by decide)];exact skip _ hput h
    ·rw[zE (by decide)];exact step _ hput h
   ·rename_i hp;have ht:=he t;rw[hp]at ht
    have hw:wanted it.o ea=false:=by
     simp only[wanted,hg];generalize ea t=u at ht;cases ht;rfl
    rw[hw,zF (by decide)];exact skip _ he h
   ·cases h
def re (as:List Nat)(e e':dh):Prop:= ∀t,t∉as→e' t=e t
theorem re.refl (as:List Nat)(e:dh):re as e e:=fun _ _=>rfl
theorem re.put {as:List Nat}{e e':dh}{d:Option Nat}{v:Value}(h:re as e e')(hd: ∀t,t∈bF4 d→t∈as):re as e (e'.putO d v):=by
 intro t ht;cases d with
 |none=>exact h t ht
 |some d=>
  have:t≠d:=by rintro rfl;exact ht (hd t (List.mem_singleton.2 rfl))
  simp only[dh.putO,dh.put,zF this];exact h t ht
theorem aD0 {T:Ab.ig}(hT:rf T){Q:dh→Hp→Prop}{as:List Nat}{e0:dh}: ∀{ops:List AOper} {e:dh} {σ:Hp},(∀o,o∈ops→∀t,t∈bF4 o.dst→t∈as)→re as e0 e→Ab.xA T Q ops e σ→Ab.xA T (fun e' σ'=>re as e0 e'∧Q e' σ') ops e σ
 |[],e,σ,_,hk,h=>⟨hk,h⟩
 |o::r,e,σ,ha,hk,h=>by
  simp only[Ab.xA]at h⊢;have hr: ∀o,o∈r→∀t,t∈bF4 o.dst→t∈as:=fun o ho=>ha o (cB _ ho)
  split at h
  ·rename_i hw;rw[zE hw];exact nS hT (fun v σ' hv=>aD0 hT hr (hk.put (ha o aD)) hv) h
  ·rename_i hw;rw[zF hw];exact aD0 hT hr (hk.put (ha o aD)) h
theorem aK0 {T:Ab.ig}(hT:rf T){Q:dh→Hp→Prop}{as:List Nat}{e0:dh}: ∀{its:List SItem} {chk:List (Nat×(Hp→Prop))} {e:dh} {σ:Hp},(∀o,o∈its→∀t,t∈bF4 o.o.dst→t∈as)→re as e0 e→wpI T Q its chk e σ→wpI T (fun e' σ'=>re as e0 e'∧Q e' σ') its chk e σ
 |[],chk,e,σ,_,hk,h=>⟨hk,h⟩
 |it::r,chk,e,σ,ha,hk,h=>by
  simp only[wpI]at h⊢;have hr: ∀o,o∈r→∀t,t∈bF4 o.o.dst→t∈as:=fun o ho=>ha o (cB _ ho)
  split at h
  ·rename_i hw;rw[zE hw];split at h
   ·rename_i hm;rw[zE hm];exact nS hT (fun v σ' hv=>⟨hv.1,aK0 hT hr (hk.put (ha it aD)) hv.2⟩) h
   ·rename_i hm;rw[zF hm];split at h
    ·exact aK0 hT hr (hk.put (ha it aD)) h
    ·exact h.elim
  ·rename_i hw;rw[zF hw];exact aK0 hT hr (hk.put (ha it aD)) h
theorem bN5 {F G:Nat→Prop}(h: ∀m,F m→G m): ∀{l:List Nat},bp2 F l→bp2 G l
 |[],_=>trivial
 |[m],q=>h m q
 |m::m'::r,q=>⟨h m q.1,bN5 h q.2⟩
theorem as6 {T:Ab.ig}(hT:rf T){Q:dh→Hp→Prop}{as:List Nat}{e0:dh}{ops:List (AOper×List Nat)}(ha: ∀o,o∈ops→∀t,t∈bF4 o.1.dst→t∈as): ∀(f:Nat) {D:List Nat} {chk:List (Nat×(Hp→Prop))} {e:dh} {σ:Hp},re as e0 e→wpD T Q ops f D chk e σ→wpD T (fun e' σ'=>re as e0 e'∧Q e' σ') ops f D chk e σ
 |0,D,chk,e,σ,hk,h=>⟨hk,h⟩
 |f+1,D,chk,e,σ,hk,h=>by
  simp only[wpD]at h⊢;cases hn:jY ops D with
  |some i=>
   rw[hn]at h;simp only at h⊢;cases ho:ops[i]? with
   |none=>rw[ho]at h;exact h
   |some p=>
    obtain⟨o,pr⟩:=p;rw[ho]at h;have hm:(o,pr)∈ops:=cD ho;simp only at h⊢;split at h
    ·rename_i hw;rw[zE hw];split at h
     ·rename_i v σ' hr;exact as6 hT ha f (hk.put (ha _ hm)) h
     ·exact h.elim
    ·rename_i hw;rw[zF hw];exact as6 hT ha f (hk.put (ha _ hm)) h
  |none=>
   rw[hn]at h;simp only at h⊢;cases hr:er ops D with
   |nil=>rw[hr]at h;exact⟨hk,h⟩
   |cons a l=>
    rw[hr]at h;simp only at h⊢;refine bN5 (fun m hm=> ?_) h;cases ho:ops[m]? with
    |none=>rw[ho]at hm;exact hm
    |some p=>
     obtain⟨o,pr⟩:=p;rw[ho]at hm;have hmem:(o,pr)∈ops:=cD ho;simp only at hm⊢;split at hm
     ·rename_i hw;rw[zE hw];exact nS hT (fun v σ' hx=>⟨hx.1,as6 hT ha f (hk.put (ha _ hmem)) hx.2⟩) hm
     ·rename_i hw;rw[zF hw];exact as6 hT ha f (hk.put (ha _ hmem)) hm
theorem uD {T:Ab.ig}(hT:rf T){as:List Nat}{e0:dh}: ∀(c:AC) {Q:AExit→dh→Hp→Prop} {e:dh} {σ:Hp},aq8 c=true→(∀t,t∈ly c→t∈as)→re as e0 e→vn T c Q e σ→vn T c (fun x e' σ'=>re as e0 e'∧Q x e' σ') e σ
 | .skip,_,_,_,_,_,hk,h=>⟨hk,h⟩
 | .exit _,_,_,_,_,_,hk,h=>⟨hk,h⟩
 | .ret,_,_,_,_,_,hk,h=>⟨hk,h⟩
 | .region ops,Q,e,σ,_,ha,hk,h=>aD0 hT (fun o ho t ht=>ha t (List.mem_flatMap.2 ⟨o,ho,ht⟩)) hk h
 | .sched its,Q,e,σ,_,ha,hk,h=>aK0 hT (fun o ho t ht=>ha t (List.mem_flatMap.2 ⟨o,ho,ht⟩)) hk h
 | .draw ops,Q,e,σ,_,ha,hk,h=>as6 hT (fun o ho t ht=>ha t (List.mem_flatMap.2 ⟨o,ho,ht⟩)) _ hk h
 | .seq a b,Q,e,σ,hd,ha,hk,h=>by
  simp only[aq8,aB]at hd;have h1:=uD hT a hd.1 (fun t ht=>ha t (List.mem_append.2 (.inl ht))) hk h;refine il hT a _ _ (fun x e' σ' hx=> ?_) e σ h1;obtain⟨hx1,hx2⟩:=hx;cases x with
  |normal=>exact uD hT b hd.2 (fun t ht=>ha t (List.mem_append.2 (.inr ht))) hx1 hx2
  |exit i=>exact⟨hx1,hx2⟩
  |ret=>exact⟨hx1,hx2⟩
 | .cond c a b,Q,e,σ,hd,ha,hk,h=>by
  simp only[aq8,aB]at hd;simp only[vn]at h⊢;split at h
  ·exact uD hT a hd.1 (fun t ht=>ha t (List.mem_append.2 (.inl ht))) hk h
  ·exact uD hT b hd.2 (fun t ht=>ha t (List.mem_append.2 (.inr ht))) hk h
  ·exact h.elim
 | .block id b,Q,e,σ,hd,ha,hk,h=>by
  have h1:=uD hT b hd ha hk h;refine il hT b _ _ (fun x e' σ' hx=> ?_) e σ h1;obtain⟨hx1,hx2⟩:=hx;cases x with
  |normal=>exact⟨hx1,hx2⟩
  |exit i=>
   simp only at hx2⊢;split at hx2
   ·rename_i hi;rw[zE hi];exact⟨hx1,hx2⟩
   ·rename_i hi;rw[zF hi];exact⟨hx1,hx2⟩
  |ret=>exact⟨hx1,hx2⟩
 | .loop b,Q,e,σ,hd,ha,hk,h=>by
  obtain⟨n,hn⟩:=h;refine⟨n, ?_⟩;induction n generalizing e σ with
  |zero=>exact hn.elim
  |succ n ih=>
   simp only[kS]at hn⊢;have h1:=uD hT b hd ha hk hn;refine il hT b _ _ (fun x e' σ' hx=> ?_) e σ h1;obtain⟨hx1,hx2⟩:=hx;cases x with
   |normal=>exact ih _ _ hx1 hx2
   |exit i=>exact⟨hx1,hx2⟩
   |ret=>exact⟨hx1,hx2⟩
theorem at6 {S:bq}{N:Nat}{fx:List Nat}{sk:wY}{vals:List VV}{t:Tup sk.shs}(h:aA7 S N fx sk vals=some t):sk.noRo=true∧∃st,ob S N fx sk vals=some st∧toL sk.shs t=st.ls:=by
 unfold aA7 at h;obtain⟨h1,h2⟩:=bx h;obtain⟨st,h3,h4⟩:=bn h2;exact⟨h1,st,h3,aH9 h4⟩
theorem at5 {S:bq}{N:Nat}{fx:List Nat}{vals:List Nat→List VV}{hit:XK→Bool}: ∀{l:List Alt} {s:ug l},uQ S N fx vals hit l=some s→∃p,cu5 l s=some p∧hit p.1.x=true∧aA7 S N fx p.1.sk (vals p.1.ts)=some p.2
 |[],s,h=>by cases h
 |[a],s,h=>by
  simp only[uQ]at h;cases hh:hit a.x with
  |false=>rw[hh]at h;cases h
  |true=>rw[hh]at h;exact⟨⟨a,s⟩,rfl,hh,h⟩
 |a::b::r,s,h=>by
  simp only[uQ]at h;split at h
  ·rename_i t ht;injection h with h
   subst h;cases hh:hit a.x with
   |false=>rw[hh]at ht;cases ht
   |true=>rw[hh]at ht;exact⟨⟨a,t⟩,rfl,hh,ht⟩
  ·obtain⟨s',h1,h2⟩:=bn h;injection h2 with h2
   subst h2;obtain⟨p,h3,h4,h5⟩:=at5 h1;exact⟨p,h3,h4,h5⟩
theorem XK.is_out {x:XK}{y:AExit}(h:x.is y=true):x.out=y:=by
 cases x<;>cases y<;>simp only[XK.is]at h<;>first|rfl|(cases h;done)|skip
 rename_i i j;rw[show(XK.exit i).out=AExit.exit i from rfl,dB h]
theorem aI6 {c:Ctx}: ∀{ts:List Nat} {e:et} {ea:dh} {vs:List VV},bw c e ea→F2 (VRel c) vs (ts.map ea)→bw c (bS8 e ts vs) ea
 |[],e,ea,vs,he,hf=>by
  cases hf;exact he
 |t::ts,e,ea,vs,he,hf=>by
  cases hf with
  |cons h1 h2=>
   have:=aI6 he h2;intro i;simp only[bS8,ur];by_cases hi:i=t
   ·subst hi;rw[zE rfl];exact h1
   ·rw[zF hi];exact this i
theorem aM0 : ∀{ts:List Nat} {e:et} {t:Nat},mD (ap5 e ts) t= .undef∨(t∉ts∧mD (ap5 e ts) t=mD e t)
 |[],e,t=> .inr ⟨by simp,rfl⟩
 |a::ts,e,t=>by
  simp only[ap5,ur];by_cases h:t=a
  ·rw[zE h];exact .inl rfl
  ·rw[zF h];rcases aM0 (ts:=ts) (e:=e) (t:=t)with h1|⟨h1,h2⟩
   ·exact .inl h1
   ·exact .inr ⟨by simp[h,h1],h2⟩
theorem at1 {c:Ctx}{as:List Nat}{e:et}{ea ea':dh}(he:bw c e ea)(hk:re as ea ea'):bw c (ap5 e as) ea':=by
 intro t;rcases aM0 (ts:=as) (e:=e) (t:=t)with h|⟨h1,h2⟩
 ·rw[h];exact .undef _
 ·rw[h2,hk t h1];exact he t
theorem aY0 {c:Ctx}{e:et}{ea:dh}(he:bw c e ea): ∀ts:List Nat,F2 (VRel c) (ts.map (mD e)) (ts.map ea)
 |[]=> .nil
 |t::ts=> .cons (he t) (aY0 he ts)
theorem bG3 {β:Type}{c c1 c':Ctx}{e0:et}{ea0 ea':dh}{fx mov asg:List Nat}{exits:List Alt}{s:ug exits}{k:AExit→et→bq→Option β}{y:β}{e':et}{x:AExit}(hR:fq c)(he0:bw c e0 ea0)(hR':fq c')(hw:Within c c1 fx mov)(hR1:fq c1)(hle:Le c1 c')(hok:aW6 c.S fx=true)
  (hke:re asg ea0 ea') (he':bw c' e' ea') (hd:uQ c'.S c.S.length fx (fun ts=>ts.map (mD e')) (fun y=>y.is x) exits=some s) (h:cI6 e0 c.S fx mov asg exits s k=some y):rC c k y x ea' c'.σ:=by
 obtain⟨p,h1,h2,h3⟩:=at5 hd;obtain⟨hro,st,h4,h5⟩:=at6 h3;unfold cI6 at h;rw[bE3,h1]at h;simp only[zG]at h;rw[XK.is_out h2]at h;unfold ar8 at h;rw[h5]at h;cases he:pf id p.1.sk st.ls with
 |none=>rw[he]at h;cases h
 |some q=>
  obtain⟨vs,fs,bs⟩:=q;rw[he]at h;simp only[Bool.false_or]at h;cases hS:uA fx fs (kD fx mov (ah4 vs fs bs) 0 c.S)with
  |none=>rw[hS]at h;cases h
  |some S2=>
   rw[hS]at h;obtain⟨ct,g1,g2,g3,g4,g5⟩:=cJ4 hR hR' hw hR1 hle hok hro h4 he (aY0 he' _) hS;refine⟨_,ct,g1,g3,g4,aI6 (at1 (he0.frame g3) hke) g5, ?_⟩;rw[g2];exact h
theorem bY7 {S:bq}{fx:List Nat}:sI S (kD fx [] true 0 S):=by
 refine⟨mB,fun k=> ?_⟩;by_cases hk:k<S.length
 ·rw[mA hk];simp only[mK,zD,bD];cases mK k fx with
  |true=>exact .inl rfl
  |false=>exact .inr rfl
 ·rw[ux (by rw[mB];omega),ux (by omega)];exact .inl rfl
def dj5 (c:Ctx)(e0:et)(ea0:dh)(fx mov asg:List Nat)(ts:List Nat)(sk:wY)(t:Tup sk.shs)(ea:dh)(σ:Hp):Prop:=
 ∃c1 e1,c1.σ=σ∧ar8 e0 c.S fx mov asg true ts sk t=some (e1,c1.S)∧fq c1∧bw c1 e1 ea∧Within c c1 fx mov∧re asg ea0 ea
theorem bj8 {e0 e1:et}{S S1:bq}{fx mov asg ts:List Nat}{sk:wY}{t:Tup sk.shs}(h:ar8 e0 S fx mov asg true ts sk t=some (e1,S1)): ∃vs fs bs S',pf id sk (toL sk.shs t)=some (vs,fs,bs)∧uA fx fs (kD fx mov true 0 S)=some S'∧e1=bS8 (ap5 e0 asg) ts vs∧S1=S'++bs:=by
 unfold ar8 at h;split at h
 ·rename_i vs fs bs he;simp only[Bool.true_or]at h;split at h
  ·rename_i S' hS;injection h with h
   injection h with h1 h2
   exact⟨vs,fs,bs,S',he,hS,h1.symm,h2.symm⟩
  ·cases h
 ·cases h
theorem aS5 {ops:List (AOper×List Nat)}: ∀{r:List LItem} {it:LItem} {t:Nat},it∈r→bB it.kind 2=true→(dv ops it.i).dst=some t→t∈au1 ops r
 |a::r,it,t,h,hk,ht=>by
  simp only[au1];rcases List.mem_cons.1 h with rfl|h
  ·rw[hk,zC,ht];exact aD
  ·have:=aS5 h hk ht;cases bB a.kind 2 with
   |false=>exact this
   |true=>exact List.mem_append.2 (.inr this)
theorem df {α γ:Type}(f:α→Option (α⊕γ))(n:Nat)(a:α):bt f (n+1) a=(f a).bind fun s=>cj s (bt f n) some:=rfl
theorem aP6 {f:(AExit→dh→Hp→Prop)→dh→Hp→Prop}(hf: ∀(Q Q':AExit→dh→Hp→Prop),(∀x e σ,Q x e σ→Q' x e σ)→∀e σ,f Q e σ→f Q' e σ){Q:AExit→dh→Hp→Prop}:
  ∀(n m:Nat) (e:dh) (σ:Hp),n≤m→kS f Q n e σ→kS f Q m e σ
 |0,_,_,_,_,h=>h.elim
 |n+1,0,_,_,hm,_=>absurd hm (Nat.not_succ_le_zero _)
 |n+1,m+1,e,σ,hm,h=>by
  simp only[kS]at h⊢;refine hf _ _ (fun x e' σ' hx=> ?_) e σ h;cases x with
  |normal=>exact aP6 hf n m e' σ' (Nat.le_of_succ_le_succ hm) hx
  |exit id=>exact hx
  |ret=>exact hx
theorem aH6 {b:AC}(ih: ∀(at':AT) {β:Type} {y:β} {c:Ctx} {e:et} {ea:dh} {k:AExit→et→bq→Option β},fq c→bw c e ea→eval tab b at' β e c.S k=some y→vn (i7 tab) b (rC c k y) ea c.σ):
  ∀(at':AT) {β:Type} {y:β} {c:Ctx} {e:et} {ea:dh} {k:AExit→et→bq→Option β},fq c→bw c e ea→bg0 (eval tab b) at' β e c.S k=some y→kS (vn (i7 tab) b) (rC c k y) at'.rounds ea c.σ
 | .n l r,β,y,c,e,ea,k,hR,he,h=>by
  simp only[bg0]at h;have h1:=ih l hR he h;simp only[AT.rounds,kS];refine il (db tab) b _ _ (fun x ea' σ' hx=> ?_) ea c.σ h1;obtain⟨e',c',h2,h3,h4,h5,h6⟩:=hx;subst h2;cases x with
  |normal=>exact as9 (il (db tab) b) (fun x ea'' σ'' hp=>rh.of h3 hp) _ _ _ (aH6 ih r h4 h5 h6)
  |exit i=>exact⟨e',c',rfl,h3,h4,h5,h6⟩
  |ret=>exact⟨e',c',rfl,h3,h4,h5,h6⟩
 | .sz m l r,β,y,c,e,ea,k,hR,he,h=>by
  simp only[bg0]at h;simp only[AT.rounds];cases hm:bB m c.S.length with
  |true=>
   rw[hm]at h;exact aP6 (il (db tab) b) _ _ _ _ (Nat.le_add_right _ _) (aH6 ih l hR he h)
  |false=>
   rw[hm]at h;exact aP6 (il (db tab) b) _ _ _ _ (Nat.le_add_left _ _) (aH6 ih r hR he h)
 | .no,_,_,_,_,_,_,_,_,h=>by cases h
 | .lp _ _ _ _,_,_,_,_,_,_,_,_,h=>by cases h
 | .jn _ _ _ _ _,_,_,_,_,_,_,_,_,h=>by cases h
 | .dr _,_,_,_,_,_,_,_,_,h=>by cases h
theorem qG : ∀(ac:AC) (at':AT) {β:Type} {y:β} {c:Ctx} {e:et} {ea:dh} {k:AExit→et→bq→Option β},fq c→bw c e ea→eval tab ac at' β e c.S k=some y→vn (i7 tab) ac (rC c k y) ea c.σ
 | .skip,_,_,_,c,e,ea,k,hR,he,h=>⟨e,c,rfl,Le.refl c,hR,he,h⟩
 | .exit i,_,_,_,c,e,ea,k,hR,he,h=>⟨e,c,rfl,Le.refl c,hR,he,h⟩
 | .ret,_,_,_,c,e,ea,k,hR,he,h=>⟨e,c,rfl,Le.refl c,hR,he,h⟩
 | .region ops,_,_,_,c,e,ea,k,hR,he,h=>be3 hR he h
 | .sched its,_,_,_,c,e,ea,k,hR,he,h=>aA8 hR he .nil h
 | .draw ops,at',_,y,c,e,ea,k,hR,he,h=>by
  simp only[eval]at h;split at h
  ·rename_i L _;obtain⟨hg,h⟩:=bx h;rw[aB]at hg;refine bF6 hR ops.length (pd:=fun _=>0) hg.1 ⟨Le.refl c,hR,at1 he (re.refl _ ea), .nil,rfl,rfl,fun b=>⟨.inl,fun h=> ?_⟩,List.nodup_nil,(fun _ _ h=>by cases h),(fun _ h=>by cases h),(fun _ h=>by cases h),fun it hit hk t ht=> ?_,hg.2⟩ h
   ·rcases h with h|⟨_,h,_⟩
    ·exact h
    ·cases h
   ·rcases @aM0 (au1 ops (af0 ops L L [])) e t with h1|⟨h1,_⟩
    ·exact h1
    ·exact(h1 (aS5 hit hk ht)).elim
  ·cases h
 | .seq a b,at',β,y,c,e,ea,k,hR,he,h=>by
  have plain: ∀l r,(eval tab a l β e c.S fun x e' S'=>match x with
    | .normal=>eval tab b r β e' S' k
    |x=>k x e' S')=some y→vn (i7 tab) (.seq a b) (rC c k y) ea c.σ:=by
   intro l r h1;refine il (db tab) a _ _ (fun x ea' σ' hx=> ?_) ea c.σ (qG a l hR he h1);obtain⟨e',c',h2,h3,h4,h5,h6⟩:=hx;subst h2;cases x with
   |normal=>exact il (db tab) b _ _ (fun x ea'' σ'' hp=>rh.of h3 hp) _ _ (qG b r h4 h5 h6)
   |exit i=>exact⟨e',c',rfl,h3,h4,h5,h6⟩
   |ret=>exact⟨e',c',rfl,h3,h4,h5,h6⟩
  simp only[eval]at h;split at h
  ·rename_i fx mov exits l r _;obtain⟨hg,h⟩:=bx h;rw[aB]at hg;obtain⟨s,h1,h2⟩:=bn h;have hfz:sI c.S (kD (fx++mov) [] true 0 c.S):=bY7;have hR1:fq ⟨c.μ,kD (fx++mov) [] true 0 c.S,c.σ,c.fb⟩:=hfz.rel hR
   have hw:Within c ⟨c.μ,kD (fx++mov) [] true 0 c.S,c.σ,c.fb⟩ fx mov:=by
    refine⟨hfz.le,fun q hq hn hm=> ?_,fun _ _ _ _ _ _ _ _ hy=>hy⟩;show bl (kD (fx++mov) [] true 0 c.S) q=_;rw[mA hq];simp only[mK,zD,bD];rcases hm with hm|hz
    ·rw[kE (by simp[hn,hm])];rfl
    ·cases mK q (fx++mov)with
     |true=>exact(zu hz).symm
     |false=>rfl
   have h3:=uD (db tab) (as:=ly a) (e0:=ea) a hg.2 (fun t ht=>ht) (re.refl _ ea) (qG a l (c:=⟨c.μ,kD (fx++mov) [] true 0 c.S,c.σ,c.fb⟩) hR1 (he.frame hfz.le) h1);refine il (db tab) a _ _ (fun x ea' σ' hx=> ?_) ea c.σ h3;obtain⟨hk,e',c',h4,h5,h6,h7,h8⟩:=hx;subst h4;have h9:=bG3 hR he h6 hw hR1 h5 hg.1 hk h7 h8 h2;cases x with
   |normal=>
    obtain⟨e2,c2,g1,g2,g3,g4,g5⟩:=h9;rw[←g1];exact il (db tab) b _ _ (fun x ea'' σ'' hp=>rh.of g2 hp) _ _ (qG b r g3 g4 g5)
   |exit i=>exact h9
   |ret=>exact h9
  ·exact plain _ _ h
  ·exact plain _ _ h
 | .cond t a b,at',β,y,c,e,ea,k,hR,he,h=>by
  simp only[eval]at h;split at h
  ·rename_i p hp;have ht:=cm he t;rw[hp]at ht;have ht:=ht.bool_inv
   have key: ∀(e1 e2:et) (l r:AT),bw c e1 ea∨p=false→bw c e2 ea∨p=true→cond p (eval tab a l β e1 c.S k) (eval tab b r β e2 c.S k)=some y→vn (i7 tab) (.cond t a b) (rC c k y) ea c.σ:=by
    intro e1 e2 l r h1 h2 h3;simp only[vn,ht];cases p with
    |true=>
     rcases h1 with h1|h1
     ·exact qG a l hR h1 h3
     ·cases h1
    |false=>
     rcases h2 with h2|h2
     ·exact qG b r hR h2 h3
     ·cases h2
   have pb: ∀(i:Nat),t= .tmp i→(bw c (pK e i (.bool true)) ea∨p=false)∧(bw c (pK e i (.bool false)) ea∨p=true):=by
    intro i hi;subst hi;have:=bS7 he hp;cases p with
    |true=>exact⟨.inl this, .inr rfl⟩
    |false=>exact⟨.inr rfl, .inl this⟩
   split at h
   ·exact key _ _ _ _ (pb _ rfl).1 (pb _ rfl).2 h
   ·exact key _ _ _ _ (pb _ rfl).1 (pb _ rfl).2 h
   ·exact key _ _ _ _ (.inl he) (.inl he) h
   ·exact key _ _ _ _ (.inl he) (.inl he) h
  ·cases h
 | .block id b,at',β,y,c,e,ea,k,hR,he,h=>by
  simp only[eval]at h;refine il (db tab) b _ _ (fun x ea' σ' hx=> ?_) ea c.σ (qG b _ hR he h);obtain⟨e',c',h2,h3,h4,h5,h6⟩:=hx;cases x with
  |normal=>exact⟨e',c',h2,h3,h4,h5,h6⟩
  |ret=>exact⟨e',c',h2,h3,h4,h5,h6⟩
  |exit i=>
   simp only at h6⊢;cases hi:bB i id with
   |true=>
    rw[hi]at h6;rw[zE (dB hi)];exact⟨e',c',h2,h3,h4,h5,h6⟩
   |false=>
    rw[hi]at h6;rw[zF (fun e=>by rw[e,Nat.beq_refl]at hi;cases hi)];exact⟨e',c',h2,h3,h4,h5,h6⟩
 | .loop b,at',β,y,c,e,ea,k,hR,he,h=>by
  simp only[eval]at h;split at h
  ·rename_i fx head exits l _;obtain⟨hg,h⟩:=bx h;rw[aB,aB]at hg;obtain⟨⟨g1,g2⟩,g3⟩:=hg;split at h
   ·rename_i st hd;obtain⟨t0,h1,h⟩:=bn h;obtain⟨s,h2,h3⟩:=bn h
    have round: ∀(n:Nat) (t:Tup head.sk.shs) (ea1:dh) (σ1:Hp),dj5 c e ea fx (oc st.m) (ly b) head.ts head.sk t ea1 σ1→bt (fun t=>match ar8 e c.S fx (oc st.m) (ly b) true head.ts head.sk t with
      |some (e1,S1)=>eval tab b l (Tup head.sk.shs⊕ug exits) e1 S1 fun x e' S'=>(match x with
       | .normal=>(aA7 S' c.S.length fx head.sk (head.ts.map (mD e'))).bind fun t=>some (.inl t)
       |x=>(uQ S' c.S.length fx (fun ts=>ts.map (mD e')) (fun y=>y.is x) exits).bind fun s=>some (.inr s))
      |none=>none) n t=some s→kS (vn (i7 tab) b) (rC c k y) n ea1 σ1:=by
     intro n;induction n with
     |zero=>intro t ea1 σ1 _ hl;cases hl
     |succ n ih=>
      intro t ea1 σ1 hH hl;rw[df]at hl;obtain⟨z,hl1,hl2⟩:=bn hl;obtain⟨c1,e1,q1,q2,q3,q4,q5,q6⟩:=hH;subst q1;rw[q2]at hl1;simp only at hl1;have h4:=uD (db tab) (as:=ly b) (e0:=ea) b g3 (fun t ht=>ht) q6 (qG b l q3 q4 hl1);simp only[kS];refine il (db tab) b _ _ (fun x ea' σ' hx=> ?_) ea1 c1.σ h4;obtain⟨hk,e',c',h5,h6,h7,h8,h9⟩:=hx;subst h5;cases x with
      |normal=>
       simp only at h9⊢;obtain⟨t',h10,h11⟩:=bn h9;injection h11 with h11
       subst h11;simp only[cj]at hl2;refine ih t' ea' c'.σ ?_ hl2;obtain⟨hro,st',h12,h13⟩:=at6 h10
       have hset: ∃e2 S2,ar8 e c.S fx (oc st.m) (ly b) true head.ts head.sk t'=some (e2,S2):=by
        cases n with
        |zero=>cases hl2
        |succ n=>
         rw[df]at hl2;obtain⟨z',hl3,_⟩:=bn hl2;cases hz:ar8 e c.S fx (oc st.m) (ly b) true head.ts head.sk t' with
         |none=>rw[hz]at hl3;cases hl3
         |some q=>exact⟨q.1,q.2,rfl⟩
       obtain⟨e2,S2,hset⟩:=hset;obtain⟨vs,fs,bs,S3,r1,r2,r3,r4⟩:=bj8 hset;rw[h13]at r1;obtain⟨ct,u1,u2,u3,u4,u5,u6,u7,u8⟩:=cT3 hR h7 q5 q3 h6 g2 hro h12 r1 (aY0 h8 _) r2;refine⟨ct,e2,u1,by rw[hset,r4,u2],u6, ?_,bw3 u5 r2 u2 fun q hq hn hm hdm b' y' hb hy=> ?_,hk⟩
       ·rw[r3];exact aI6 (at1 (he.frame u5) hk) u7
       ·refine(u8 q hq hn ?_).2 b' y' hb hy;obtain⟨v1,v2,v3,_⟩:=kJ r2;rw[mB]at v2;rw[u2,ng (by rw[v2];exact hq),v3 q hn,mA hq,bD,kE hn];rcases hm with hm|hz
        ·rw[kE hm,zD,zD,zC,gv];exact hdm
        ·rw[hz];cases mK q (oc st.m)with
         |true=>exact hdm
         |false=>rw[zD,zD,zC,gv];exact hdm
      |exit i=>
       simp only at h9⊢;obtain⟨s',h10,h11⟩:=bn h9;injection h11 with h11
       subst h11;simp only[cj]at hl2;injection hl2 with hl2
       subst hl2;exact bG3 hR he h7 q5 q3 h6 g2 hk h8 h10 h3
      |ret=>
       simp only at h9⊢;obtain⟨s',h10,h11⟩:=bn h9;injection h11 with h11
       subst h11;simp only[cj]at hl2;injection hl2 with hl2
       subst hl2;exact bG3 hR he h7 q5 q3 h6 g2 hk h8 h10 h3
    refine⟨dy,round dy t0 ea c.σ ?_ h2⟩
    have hset: ∃e2 S2,ar8 e c.S fx (oc st.m) (ly b) true head.ts head.sk t0=some (e2,S2):=by
     have hb:dy=(dy-1)+1:=rfl;rw[hb,df]at h2;obtain⟨z',hl3,_⟩:=bn h2;cases hz:ar8 e c.S fx (oc st.m) (ly b) true head.ts head.sk t0 with
     |none=>rw[hz]at hl3;cases hl3
     |some q=>exact⟨q.1,q.2,rfl⟩
    obtain⟨e2,S2,hset⟩:=hset;obtain⟨vs,fs,bs,S3,r1,r2,r3,r4⟩:=bj8 hset;rw[aH9 h1]at r1;obtain⟨ct,u1,u2,u3,u4,u5,u6,u7⟩:=cn3 hR g2 g1 hd r1 (aY0 he _) r2;refine⟨ct,e2,u1,by rw[hset,r4,u2],u6, ?_,bw3 u5 r2 u2 fun q hq hn hm hdm b' y' hb hy=>by rw[u1];exact hy,re.refl _ _⟩;rw[r3];exact aI6 (at1 (he.frame u5) (re.refl _ _)) u7
   ·cases h
  ·exact⟨_,aH6 (fun at'' {β y c e ea k} hR he h=>qG b at'' hR he h) at' hR he h⟩
end
end
section
open Nat renaming le_of_ble_eq_true → aB, zero_add → aD
theorem aY2 {c:Ctx}{e:et}{ea:dh}(hR:fq c)(he:bw c e ea): ∀{rs:List ARes} {vs:List VV},aJ0 e c.S rs=some vs→∃us,aO4 ea c.σ rs=some us∧F2 (VRel c) vs us
 |[],vs,h=>by injection h with h;subst h;exact⟨[],rfl, .nil⟩
 |r::rs,vs,h=>by
  simp only[aJ0]at h;obtain⟨v,h1,h⟩:=bn h;obtain⟨vs',h2,h⟩:=bn h;injection h with h
  subst h;obtain⟨us,h3,h4⟩:=aY2 hR he h2
  have key: ∃u,bi5 ea c.σ r=some u∧VRel c v u:=by
   cases r with
   |tmp t=>
    simp only[cN1]at h1;injection h1 with h1
    subst h1;exact⟨_,rfl,he t⟩
   |cell t=>
    simp only[cN1]at h1;split at h1
    ·rename_i b o hp;split at h1
     ·rename_i es z l hb;have ht:=he t;rw[hp]at ht;cases ht with
      |ptr hk _ hd=>
       have hdim:(bl c.S b).dim=some (es,l.length):=by rw[hb];rfl
       obtain⟨bb,hm,ha⟩:=hd _ hdim;have hs:=hR.stands hdim hm;rw[hb]at hs;obtain⟨y,a,h5,h6,h7⟩:=hs.get h1;refine⟨a, ?_,h7⟩;rw[aD]at h6;simp only[bi5,ha,h5,zG,h6]
     ·cases h1
    ·cases h1
   |cellN t n=>
    simp only[cN1]at h1;split at h1
    ·rename_i b o hp;split at h1
     ·rename_i es z l hb;cases hc:Nat.ble (o+n) l.length with
      |false=>rw[hc]at h1;cases h1
      |true=>
       rw[hc]at h1;injection h1 with h1
       subst h1;have ht:=he t;rw[hp]at ht;cases ht with
       |ptr hk _ hd=>
        have hdim:(bl c.S b).dim=some (es,l.length):=by rw[hb];rfl
        obtain⟨bb,hm,ha⟩:=hd _ hdim;have hs:=hR.stands hdim hm;rw[hb]at hs;obtain⟨y,as,h5,h6,h7⟩:=hs.read (aB hc);rw[aD]at h6;refine⟨.agg as.toArray, ?_, .agg (by simp only[Blk.vals]at h7;simpa using h7)⟩;simp only[bi5,ha,h5,zG,h6,Option.map_some]
     ·cases h1
    ·cases h1
  obtain⟨u,h5,h6⟩:=key;exact⟨u::us,by simp only[aO4,h5,h3], .cons h6 h4⟩
theorem bJ7 {c:Ctx}{vs:List VV}{us:List Value}(h:F2 (VRel c) vs us):VRel c (bW3 vs) (yk us):=by
 cases h with
 |nil=>exact .tup .nil
 |cons h1 h2=>
  cases h2 with
  |nil=>exact h1
  |cons h2 h3=>exact .tup (by simpa using F2.cons h1 (F2.cons h2 h3))
theorem bc2 {c:Ctx}{vs:List VV}{as:List Value}(h:F2 (VRel c) vs as):bw c vs (dh.of as):=by
 intro t
 have hg: ∀(l:List VV) (i:Nat),mD l i=(l[i]?).getD .undef:=by
  intro l;induction l with
  |nil=>intro i;simp[mD]
  |cons a l ih=>intro i;cases i with
   |zero=>simp[mD]
   |succ i=>simp[mD,ih]
 rw[hg];unfold dh.of;cases hv:vs[t]? with
 |none=>exact .undef _
 |some v=>
  obtain⟨a,h1,h2⟩:=h.get t v hv;rw[h1];exact h2
theorem bc7 : ∀{n q:Nat},q<n→q∈bc6 n
 |n+1,q,h=>by
  by_cases e:q=n
  ·subst e;exact List.mem_cons_self
  ·exact List.mem_cons_of_mem _ (bc7 (by omega))
theorem cB8 {P:Program}{f:FuncId}{tab:Tab}{vals:List Sk}{objs:List OSk}{outs:List Alt}{at':AT}{run:Tup (wY.shs ⟨vals,[],objs⟩)→Option (ug outs)}(ht:ke P tab.fs)(hi:bp P tab.is)
  (he: ∀t o,run t=some o→be4 P f tab vals objs outs at' t=some o):vi P ⟨f,vals,objs,outs,run⟩:=by
 intro B μ σ w args cargs K hs hR0 ha;obtain⟨c,vals',st,t,o,p,v,fs,bs,S',h1,hR,hf,hd,hl,hcut,hok,hrun,hp,henc,hS,hK⟩:=hs;subst h1;have hev:=he t o hrun;unfold be4 at hev;split at hev
 ·rename_i af vs fs0 S0 htr hen;obtain⟨hg,hev⟩:=bx hev;refine cg9 htr (db tab) (as1 ht hi) B μ c.σ w args cargs K ?_ hR0 ha;have htl:toL (wY.shs ⟨vals,[],objs⟩) t=st.ls:=aH9 hl;rw[htl]at hen;obtain⟨hE,hfv⟩:=enter hR rfl hd hen hf;have hlen:args.length≤af.ntmps:=by rw[←hfv.length];exact aB hg
  refine⟨hlen, ?_⟩;obtain⟨l1,l2⟩:=hE.len;have hbody:=qG af.body at' (c:=mj c st S0) hE.rel (bc2 hfv) hev;refine il (db tab) af.body _ _ (fun x ea σ' hx=> ?_) _ _ hbody;obtain⟨e',c',h2,h3,h4,h5,h6⟩:=hx;subst h2
  have fin:(match aJ0 e' c'.S af.results with
    |some rs=>uQ c'.S S0.length (sC objs 0) (fun _=>[bW3 rs]) (fun _=>true) outs
    |none=>none)=some o→(match aO4 ea c'.σ af.results with
    |some vs=>K (yk vs) c'.σ
    |none=>False):=by
   intro h7;split at h7
   ·rename_i rs hrs;obtain⟨us,h8,h9⟩:=aY2 h4 h5 hrs;rw[h8];simp only;obtain⟨p',q1,_,q3⟩:=at5 h7;simp only at hp;rw[hp]at q1;injection q1 with q1
    subst q1;obtain⟨hro,st',q4,q5⟩:=at6 q3;obtain⟨ap1,_⟩:=pe hd;have hnd:=oZ ap1;rw[List.nil_append]at hnd;simp only at henc hS hcut hok;rw[q5]at henc
    have hlent: ∀(i:Nat) (o:OSk) (x:Src),objs[i]?=some o→o.ro=true→st.m[i]?=some (some x)→x.k∈st.lent:=by
     intro i o x g1 g2 g3;unfold ob at hd;obtain⟨st1,d1,hd⟩:=bn hd;obtain⟨st2,d2,hd⟩:=bn hd;obtain⟨st3,d3,hd⟩:=bn hd
     have:st3=st:=by
      cases hb:(ay5 ([]++oc st3.m)&&ae7 ([]++kK (FSum.ins ⟨f,vals,objs,outs,run⟩).free st3.m) st3.lent)with
      |false=>rw[hb]at hd;cases hd
      |true=>rw[hb]at hd;injection hd
     subst this;exact bI6 d3 i o x g1 g2 (by rw[aD];exact g3)
    obtain⟨ct,r1,r2,r3,r4,r5,r6⟩:=bi6 hR rfl hE h3 h4 hcut hok hnd hlent hro (by rw[←l1];exact q4) henc (.cons (bJ7 h9) .nil) hS;cases r5 with
    |cons r5 _=>exact hK _ _ ⟨ct,r1,r2,r3,r4,r5,r6⟩
   ·cases h7
  cases x with
  |exit i=>cases h6
  |normal=>exact fin h6
  |ret=>exact fin h6
 ·cases hev
theorem iy {P:Program}{f:FuncId}{tab:List FSum}{ins:List Inl}{vals:List Sk}{objs:List OSk}{outs:List Alt}{at':AT}{run:Tup (wY.shs ⟨vals,[],objs⟩)→Option (ug outs)}(ht:ke P tab)(hi:bp P ins)
  (he: ∀t,be4 P f ⟨tab,ins⟩ vals objs outs at' t=run t):vi P ⟨f,vals,objs,outs,run⟩:=cB8 (tab:=⟨tab,ins⟩) ht hi fun t o h=>(he t).trans h
theorem cB7 {P:Program}{f:FuncId}{tab:List FSum}{vals:List Sk}{objs:List OSk}{outs:List Alt}{at':AT}{run:Tup (wY.shs ⟨vals,[],objs⟩)→Option (ug outs)}(ht:ke P tab)
  (he: ∀t,be4 P f ⟨tab,[]⟩ vals objs outs at' t=run t):vi P ⟨f,vals,objs,outs,run⟩:=iy ht (bp.nil P) he
theorem cy {P:Program}{f:FuncId}{tab:List FSum}{ins:List Inl}{at':AT}(ht:ke P tab)(hi:bp P ins):bY3 P ⟨f,gt P f ⟨tab,ins⟩ at'⟩:=by
 intro B μ σ w args cargs K hs hR0 ha;obtain⟨β,y,c,vals,k,h1,hR,hf,hev,hK⟩:=hs;subst h1;simp only[gt]at hev;split at hev
 ·rename_i af htr;obtain⟨hg,hev⟩:=bx hev;refine cg9 htr (db ⟨tab,ins⟩) (as1 (tab:=⟨tab,ins⟩) ht hi) B μ c.σ w args cargs K ?_ hR0 ha;have hlen:args.length≤af.ntmps:=by rw[←hf.length];exact aB hg
  refine⟨hlen, ?_⟩;have hbody:=qG af.body at' (c:=c) hR (bc2 hf) hev;refine il (db ⟨tab,ins⟩) af.body _ _ (fun x ea σ' hx=> ?_) _ _ hbody;obtain⟨e',c',h2,h3,h4,h5,h6⟩:=hx;subst h2
  have fin:(match aJ0 e' c'.S af.results with
    |some rs=>k (bW3 rs) c'.S
    |none=>none)=some y→(match aO4 ea c'.σ af.results with
    |some vs=>K (yk vs) c'.σ
    |none=>False):=by
   intro h7;split at h7
   ·rename_i rs hrs;obtain⟨us,h8,h9⟩:=aY2 h4 h5 hrs;rw[h8];exact hK _ _ ⟨bW3 rs,c',rfl,h3,h4,fun q hq hn=>(hn (bc7 hq)).elim,bJ7 h9,h7⟩
   ·cases h7
  cases x with
  |exit i=>cases h6
  |normal=>exact fin h6
  |ret=>exact fin h6
 ·cases hev
def aB3 :List Alt:=[⟨.ret,[],⟨[.leaf .bool],[],[]⟩⟩]
def tg (σ:Hp):Ctx:=⟨fun _=>none,[],σ,fun _=>False⟩
theorem ca7 {σ:Hp}(h:σ.Ok):fq (tg σ):=
 ⟨h,fun k k' b hz _ _ _=>(by cases hz),fun k d hd=>(by cases hd),fun k b hd=>(hd rfl).elim,fun b hb=>hb.elim⟩
theorem aB2 {σ:Hp}(b:Nat): ¬(tg σ).mut b:=by
 rintro(⟨k,h,_⟩|h)
 ·cases h
 ·exact h
theorem cx5 {P:Program}{f:FuncId}{vals:List Sk}{run:Tup (wY.shs ⟨vals,[],[]⟩)→Option (ug aB3)}(h:vi P ⟨f,vals,[],aB3,run⟩){w:World}(hT:cl1 P w){rows:List Row}{args:List Value}{cargs:Array Value}{vs:List VV}{st:DSt}{t:Tup (wY.shs ⟨vals,[],[]⟩)}
  (hrows: ∀r∈rows,∀(i:Nat) (v:Value),r.cells[i]?=some v→∃v',w.cell? ⟨r.c,r.o+i,none⟩=some v'∧VR (nc rows) v v') (hargs:F2 (VR (nc rows)) args cargs.toList)
  (hv:F2 (VRel (tg (mF w.heap.size rows))) vs args) (hd:ob [] 0 [] ⟨vals,[],[]⟩ vs=some st) (hl:ofL _ st.ls=some t) (hr:run t=some true):
  Calls P f cargs w fun e w'=>e= .returned (.bool true)∧Go.RowKit.Below w.heap.size w w':=by
 have hm:st.m=[]:=by
  unfold ob at hd;obtain⟨st1,d1,hd⟩:=bn hd;obtain⟨st2,d2,hd⟩:=bn hd;obtain⟨st3,d3,hd⟩:=bn hd
  have:st3=st:=by
   cases hb:(ay5 ([]++oc st3.m)&&ae7 ([]++kK ([]:List OSk) st3.m) st3.lent)with
   |false=>rw[hb]at hd;cases hd
   |true=>rw[hb]at hd;injection hd
  subst this;simp only[sy]at d3;cases hb:Nat.beq 0 st2.m.length with
  |false=>rw[hb]at d3;cases d3
  |true=>
   rw[hb]at d3;injection d3 with d3
   subst d3;exact List.length_eq_zero_iff.1 (Nat.eq_of_beq_eq_true hb).symm
 refine cY6 (S:=(FSum.mk f vals [] aB3 run).spec) h hT hrows hargs ?_;refine⟨tg (mF w.heap.size rows),vs,st,t,true,⟨⟨.ret,[],⟨[.leaf .bool],[],[]⟩⟩,true⟩, .bool true,[],[],cond (ah4 [.bool true] [] []) (ah6 st.lent []) [],rfl,ca7 cN3,hv,hd,hl,by rw[hm];rfl,by rw[hm];rfl,hr,rfl,rfl,by rw[hm];rfl, ?_⟩;rintro r σ' ⟨ct,_,_,_,_,hrel,_⟩;exact hrel.bool_inv
end
section
open List renaming getElem?_eq_getElem → aB
theorem cp2 {α γ:Type}{f:α→Option (α⊕γ)}(I:α→Prop)(m:α→Nat)(Q:γ→Prop)(h: ∀a,I a→(∃b,f a=some (.inl b)∧I b∧m b<m a)∨∃c,f a=some (.inr c)∧Q c): ∀(n:Nat) (a:α),I a→m a<n→∃c,bt f n a=some c∧Q c:=by
 intro n;induction n with
 |zero=>intro a _ h1;omega
 |succ n ih=>
  intro a hI hm;rcases h a hI with⟨b,h1,h2,h3⟩|⟨c,h1,h2⟩
  ·obtain⟨c,h4,h5⟩:=ih b h2 (by omega);exact⟨c,by rw[df,h1];exact h4,h5⟩
  ·exact⟨c,by rw[df,h1];rfl,h2⟩
theorem qr {α γ:Type}{f:α→Option (α⊕γ)}{a:α}(I:α→Prop)(m:α→Nat)(Q:γ→Prop)(h0:I a)(hm:m a<18446744073709551616)(h: ∀a,I a→(∃b,f a=some (.inl b)∧I b∧m b<m a)∨∃c,f a=some (.inr c)∧Q c): ∃c,bt f dy a=some c∧Q c:=
 cp2 I m Q h dy a h0 hm
theorem cJ7 {α γ:Type}{f:α→Option (α⊕γ)}{a:α}{c:γ}(I:α→Prop)(m:α→Nat)(h0:I a)(hm:m a<18446744073709551616)(h: ∀a,I a→(∃b,f a=some (.inl b)∧I b∧m b<m a)∨f a=some (.inr c)):bt f dy a=some c:=by
 obtain⟨c',h1,h2⟩:=qr I m (· =c) h0 hm fun a ha=>by
  rcases h a ha with h|h
  ·exact .inl h
  ·exact .inr ⟨c,h,rfl⟩
 rw[h1,h2]
theorem br {α:Type}{p:Prop}[Decidable p]{x y:α}:cond (decide p) x y=if p then x else y:=by by_cases h:p<;>simp[h]
theorem ei {β:Type}{x:Option β}:gd true x=x:=rfl
theorem cX6 {β:Type}{p:Prop}[Decidable p]{x:Option β}(h:p):gd (decide p) x=x:=by rw[zB h];rfl
theorem dk {β:Type}{n b:Nat}{x:Option β}(h:n*b≤140737488355328)(hb:1≤b):gd (i9 n b) x=x:=by
 have:i9 n b=true:=by
  unfold i9;rw[zB h,Bool.true_and];exact Nat.ble_eq_true_of_le hb
 rw[this];rfl
theorem ci {α:Type}{l:List α}{i:Nat}(h:i<l.length):rd l (i:Int)=some l[i]:=by
 unfold rd;rw[zB (by omega),zC,Int.toNat_natCast,aB h]
theorem bI1 {α:Type}{l:List α}{i:Int}(h0:0≤i)(h:i<l.length):rd l i=some (l[i.toNat]'(by omega)):=by
 unfold rd;rw[zB h0,zC,aB (by omega)]
theorem bk {n:Int}(h: -9223372036854775808≤n∧n≤9223372036854775807):IntKind.i64.wrap n=n:=IntWalk.i64_in _ h
theorem di {α γ β:Type}{a:α}{f:α→Option β}{g:γ→Option β}:cj (.inl a) f g=f a:=rfl
theorem cn {α γ β:Type}{a:γ}{f:α→Option β}{g:γ→Option β}:cj (.inr a) f g=g a:=rfl
theorem aQ2.lst {k:IntKind}{w:World}{a:Option Addr}{len cap:Nat}{zs:List Int}{rows:List Row}{j:Nat}(h:aQ2 k w a len cap zs)(hr:rows[j]?=some (aJ1 k a cap zs)):
  VRel (tg (mF w.heap.size rows)) (.lst (.int k) (zs.take len)) (cB9 j a len cap):=by
 rcases h with⟨rfl,rfl,rfl,rfl⟩|⟨x,rfl,hl,hm,hz,hc,hw⟩
 ·exact .lstn fun z hz=>by cases hz
 ·by_cases h0:cap=0
  ·have:len=0:=by omega
   subst h0;subst this;have:zs.take 0=([]:List Int):=rfl;rw[this];exact .lstn fun z hz=>by injection hz with hz;rw[←hz]
  ·have hz0:0<zs.length:=by omega
   have hlt:x.block<w.heap.size:=bE8 (x:=⟨x.block,x.off+0,none⟩) (xc (av1 (hc 0 hz0)) (hc 0 hz0))
   have hm:(mF w.heap.size rows).m j=some ⟨zs.map (Value.int k),false,1⟩:=by
    simp only[mF,hr,zG,aJ1,zE hlt]
   refine .lst (aB2 j) hm rfl (by rw[List.length_take];omega) hl ?_ ?_
   ·simp only[List.length_map,Nat.zero_add];show len*1≤zs.length;omega
   ·rw[List.drop_zero];show F2 _ _ ((zs.map (Value.int k)).take (len*1));rw[Nat.mul_one,←List.map_take];generalize zs.take len=l;induction l with
    |nil=>exact .nil
    |cons n l ih=>exact .cons (.int _ _) ih
end
section
def ap9 (a:AFn)(tab:Tab)(vals:List Sk)(objs:List OSk)(outs:List Alt)(at':AT)(t:Tup (wY.shs ⟨vals,[],objs⟩)):Option (ug outs):=
 match pf id ⟨vals,[],objs⟩ (toL _ t)with
 |some (vs,_,S)=>gd (Nat.ble vs.length a.ntmps) (eval tab a.body at' (ug outs) vs S fun x e S'=>match x with
  | .exit _=>none
  |_=>(match aJ0 e S' a.results with
   |some rs=>uQ S' S.length (sC objs 0) (fun _=>[bW3 rs]) (fun _=>true) outs
   |none=>none))
 |_=>none
theorem bq7 {P:Program}{f:FuncId}{af:AFn}{tab:Tab}{vals:List Sk}{objs:List OSk}{outs:List Alt}{at':AT}{run:Tup (wY.shs ⟨vals,[],objs⟩)→Option (ug outs)}(ht:ke P tab.fs)(hi:bp P tab.is)(htr:bW1 P f=some af)(hen0: ∀t:Tup (wY.shs ⟨vals,[],objs⟩),∃r,pf id ⟨vals,[],objs⟩ (toL _ t)=some r)
  (he: ∀t o vs fs S,run t=some o→pf id ⟨vals,[],objs⟩ (toL _ t)=some (vs,fs,S)→∀(c:Ctx) args,F2 (VRel c) vs args→
   ∃b,ap9 ⟨af.ntmps,af.results,b⟩ tab vals objs outs at' t=some o∧∀T (_:rf T) Q σ,vn T b Q (dh.of args) σ→vn T af.body Q (dh.of args) σ):vi P ⟨f,vals,objs,outs,run⟩:=by
 intro B μ σ w args cargs K hs hR0 ha;obtain⟨c,vals',st,t,o,p,v,fs,bs,S',h1,hR,hf,hd,hl,hcut,hok,hrun,hp,henc,hS,hK⟩:=hs;subst h1;have htl:toL (wY.shs ⟨vals,[],objs⟩) t=st.ls:=aH9 hl;cases hen:pf id ⟨vals,[],objs⟩ (toL (wY.shs ⟨vals,[],objs⟩) t)with
 |none=>
  obtain⟨r,q⟩:=hen0 t;rw[hen]at q;cases q
 |some tr=>
 obtain⟨vs,fs0,S0⟩:=tr;refine cg9 htr (db tab) (as1 ht hi) B μ c.σ w args cargs K ?_ hR0 ha;have hen':=hen;rw[htl]at hen;obtain⟨hE,hfv⟩:=enter hR rfl hd hen hf;obtain⟨bd,hev,himp⟩:=he t o vs fs0 S0 hrun hen' _ _ hfv;unfold ap9 at hev;rw[hen']at hev;obtain⟨hg,hev⟩:=bx hev;have hlen:args.length≤af.ntmps:=by rw[←hfv.length];exact Nat.le_of_ble_eq_true hg
 refine⟨hlen,himp _ (db tab) _ _ ?_⟩;obtain⟨l1,l2⟩:=hE.len;have hbody:=qG bd at' (c:=mj c st S0) hE.rel (bc2 hfv) hev;refine il (db tab) bd _ _ (fun x ea σ' hx=> ?_) _ _ hbody;obtain⟨e',c',h2,h3,h4,h5,h6⟩:=hx;subst h2
 have fin:(match aJ0 e' c'.S af.results with
   |some rs=>uQ c'.S S0.length (sC objs 0) (fun _=>[bW3 rs]) (fun _=>true) outs
   |none=>none)=some o→(match aO4 ea c'.σ af.results with
   |some vs=>K (yk vs) c'.σ
   |none=>False):=by
  intro h7;split at h7
  ·rename_i rs hrs;obtain⟨us,h8,h9⟩:=aY2 h4 h5 hrs;rw[h8];simp only;obtain⟨p',q1,_,q3⟩:=at5 h7;simp only at hp;rw[hp]at q1;injection q1 with q1
   subst q1;obtain⟨hro,st',q4,q5⟩:=at6 q3;obtain⟨ap1,_⟩:=pe hd;have hnd:=oZ ap1;rw[List.nil_append]at hnd;simp only at henc hS hcut hok;rw[q5]at henc
   have hlent: ∀(i:Nat) (o:OSk) (x:Src),objs[i]?=some o→o.ro=true→st.m[i]?=some (some x)→x.k∈st.lent:=by
    intro i o x g1 g2 g3;unfold ob at hd;obtain⟨st1,d1,hd⟩:=bn hd;obtain⟨st2,d2,hd⟩:=bn hd;obtain⟨st3,d3,hd⟩:=bn hd
    have:st3=st:=by
     cases hb:(ay5 ([]++oc st3.m)&&ae7 ([]++kK (FSum.ins ⟨f,vals,objs,outs,run⟩).free st3.m) st3.lent)with
     |false=>rw[hb]at hd;cases hd
     |true=>rw[hb]at hd;injection hd
    subst this;exact bI6 d3 i o x g1 g2 (by rw[Nat.zero_add];exact g3)
   obtain⟨ct,r1,r2,r3,r4,r5,r6⟩:=bi6 hR rfl hE h3 h4 hcut hok hnd hlent hro (by rw[←l1];exact q4) henc (.cons (bJ7 h9) .nil) hS;cases r5 with
   |cons r5 _=>exact hK _ _ ⟨ct,r1,r2,r3,r4,r5,r6⟩
  ·cases h7
 cases x with
 |exit i=>cases h6
 |normal=>exact fin h6
 |ret=>exact fin h6
def bZ5 (es bytes:Nat)(z:List Value)(c:AOp)(n:AOp):AC:=
 .seq (.region [⟨some 2, .move (.const (.slice none 0 0)),none⟩]) (.seq (.seq (.region [⟨some 3, .move (.tmp 0),none⟩,⟨some 4,c,none⟩]) (.cond (.tmp 4) (.seq (.region [⟨some 2,n,none⟩]) .ret) .skip))
  (.seq (.region [⟨some 5, .buildSlice es 0 z [],none⟩,⟨some 6, .move (.tmp 0),none⟩,⟨some 7, .append es bytes (.tmp 5) (.tmp 6),none⟩,⟨some 2, .move (.tmp 7),none⟩]) .ret))
def bF0 (es bytes:Nat)(z:List Value):AFn:=⟨8,[.tmp 2],bZ5 es bytes z (.eqv 2 false (.tmp 3) (.const (.slice none 0 0))) (.move (.const (.slice none 0 0)))⟩
def cF5 (es bytes:Nat)(z:List Value):AFn:=⟨8,[.tmp 2],bZ5 es bytes z (.move (.const (.bool false))) (.move (.const (.slice none 0 0)))⟩
def cv6 (es bytes:Nat)(z:List Value):AFn:=⟨8,[.tmp 2],bZ5 es bytes z (.move (.const (.bool true))) (.append es bytes (.const (.slice none 0 0)) (.tmp 0))⟩
def xd (s:Sh):List Alt:=[⟨.ret,[],⟨[.full 0],[],[.arr false s]⟩⟩]
theorem ap6 {P:Program}{f:FuncId}{es bytes:Nat}{z:List Value}{s:Sh}(htr:bW1 P f=some (bF0 es bytes z))
  (h0: ∀t:Tup (wY.shs ⟨[.leaf (.list s)],[],[]⟩),pf id ⟨[.leaf (.list s)],[],[]⟩ (toL _ t)=some ([.lst s t],[],[]))
  (h1: ∀l:List (El s),ap9 (cF5 es bytes z) ⟨[],[]⟩ [.leaf (.list s)] [] (xd s) .no l=gd (i9 (0+l.length) bytes) (some l))
  (h2:ap9 (cv6 es bytes z) ⟨[],[]⟩ [.leaf (.list s)] [] (xd s) .no ([]:List (El s))=gd (i9 (0+0) bytes) (some ([]:List (El s)))):
  vi P ⟨f,[.leaf (.list s)],[],xd s,fun l:List (El s)=>gd (i9 (0+l.length) bytes) (some l)⟩:=by
 refine bq7 (at':= .no) (tab:=⟨[],[]⟩) (ke.nil P) (bp.nil P) htr (fun t=>⟨_,h0 t⟩) fun t o vs fs S hrun hen c args ha=> ?_
 have hvs:vs=[.lst s t]:=by
  rw[h0 t]at hen;injection hen with hen
  injection hen with hen
  exact hen.symm
 subst hvs;cases ha with
 |cons ha hb=>
 cases hb
 have no: ∀q n cp (args:List Value),args=[.slice (some q) n cp]→∃b,ap9 ⟨(bF0 es bytes z).ntmps,(bF0 es bytes z).results,b⟩ ⟨[],[]⟩ [.leaf (.list s)] [] (xd s) .no t=some o∧
   ∀T (_:rf T) Q σ,vn T b Q (dh.of args) σ→vn T (bF0 es bytes z).body Q (dh.of args) σ:=by
  rintro q n cp args rfl;exact⟨_,(h1 t).trans hrun,fun T _ Q σ h=>h⟩
 cases ha with
 | @lst s l b p n cp y h3 h4 h5 h6 h7 h8 h9=>exact no _ _ _ _ rfl
 | @lstn s q h3=>
  cases q with
  |some q=>exact no _ _ _ _ rfl
  |none=>exact⟨_,h2.trans hrun,fun T _ Q σ h=>h⟩
theorem lC {P:Program}{f:FuncId}{vals:List Sk}{objs:List OSk}{outs:List Alt}{run:Tup (wY.shs ⟨vals,[],objs⟩)→Option (ug outs)}(h: ∀t,run t=none):vi P ⟨f,vals,objs,outs,run⟩:=by
 intro B μ σ w args cargs K hs;obtain⟨c,vals',st,t,o,p,v,fs,bs,S',h1,hR,hf,hd,hl,hcut,hok,hrun,_⟩:=hs;have hrun:run t=some o:=hrun;rw[h t]at hrun;cases hrun
end
open Go.Ab Go.ChangeShapes Go.WideShapes
section
theorem co9 {P:Program}{f:FuncId}{vals:List Sk}{run:Tup (wY.shs ⟨vals,[],[]⟩)→Option (ug aB3)}(h:vi P ⟨f,vals,[],aB3,run⟩){w:World}(hT:cl1 P w){rows:List Row}{args:List Value}{cargs:Array Value}{vs:List VV}(t:Tup (wY.shs ⟨vals,[],[]⟩))
  (hrows: ∀r∈rows,∀(i:Nat) (v:Value),r.cells[i]?=some v→∃v',w.cell? ⟨r.c,r.o+i,none⟩=some v'∧VR (nc rows) v v') (hargs:F2 (VR (nc rows)) args cargs.toList)
  (hv:F2 (VRel (tg (mF w.heap.size rows))) vs args) (hd:((ob [] 0 [] ⟨vals,[],[]⟩ vs).bind fun st=>ofL _ st.ls)=some t) (hr:run t=some true):
  Calls P f cargs w fun e w'=>e= .returned (.bool true)∧Go.RowKit.Below w.heap.size w w':=by
 obtain⟨st,h1,h2⟩:=bn hd;exact cx5 h hT hrows hargs hv h1 h2 hr
end
section
open Int renaming tmod → aB, tmod_lt_of_pos → aD
theorem xl {α δ:Type}{f:α→Option (α⊕δ)}{n:Nat}(F:Nat→α){c:δ}(hn:n<9223372036854775808)(hs: ∀i,i<n→f (F i)=some (.inl (F (i+1))))(he:f (F n)=some (.inr c)):bt f dy (F 0)=some c:=by
 have key: ∀k i m,i+k=n→k<m→bt f m (F i)=some c:=by
  intro k;induction k with
  |zero=>
   intro i m h1 h2;obtain⟨m,rfl⟩: ∃m',m=m'+1:=⟨m-1,by omega⟩
   have:i=n:=by omega
   subst this;show(f (F i)).bind _=_;rw[he];rfl
  |succ k ih=>
   intro i m h1 h2;obtain⟨m,rfl⟩: ∃m',m=m'+1:=⟨m-1,by omega⟩
   show(f (F i)).bind _=_;rw[hs i (by omega)];exact ih (i+1) m (by omega) (by omega)
 exact key n 0 dy (by omega) (by unfold dy;omega)
theorem ff {γ δ:Type}{f:(Int×γ)→Option ((Int×γ)⊕δ)}{n:Nat}(F:Nat→γ){c:δ}(hn:n<9223372036854775808)(hs: ∀i,i<n→f ((i:Int),F i)=some (.inl (((i+1:Nat):Int),F (i+1))))(he:f ((n:Int),F n)=some (.inr c)):bt f dy (0,F 0)=some c:=
 xl (fun i=>((i:Int),F i)) hn hs he
theorem ru {δ:Type}{f:Int→Option (Int⊕δ)}{n:Nat}{c:δ}(hn:n<9223372036854775808)(hs: ∀i:Nat,i<n→f (i:Int)=some (.inl ((i+1:Nat):Int)))(he:f (n:Int)=some (.inr c)):bt f dy 0=some c:=
 xl (fun i=>(i:Int)) hn hs he
theorem ca8 {γ δ:Type}{f:(Int×γ)→Option ((Int×γ)⊕δ)}(F:Nat→γ)(n:Nat)(hn:n<9223372036854775808)(stop:Nat→Prop)[DecidablePred stop](c:Nat→δ)
  (hs: ∀i,i<n→¬stop i→(∀j,j<i→¬stop j)→f ((i:Int),F i)=some (.inl (((i+1:Nat):Int),F (i+1)))) (hx: ∀i,i<n→stop i→(∀j,j<i→¬stop j)→f ((i:Int),F i)=some (.inr (c i))) (e:δ) (he:(∀j,j<n→¬stop j)→f ((n:Int),F n)=some (.inr e)):
  (∃i,i<n∧stop i∧(∀j,j<i→¬stop j)∧bt f dy (0,F 0)=some (c i))∨((∀j,j<n→¬stop j)∧bt f dy (0,F 0)=some e):=by
 by_cases h: ∃i,i<n∧stop i
 ·obtain⟨i,h1,h2⟩:=h
  have hex: ∃i,i<n∧stop i∧∀j,j<i→¬stop j:=by
   induction i using Nat.strongRecOn with
   |ind i ih=>
    by_cases hj: ∃j,j<i∧stop j
    ·obtain⟨j,h3,h4⟩:=hj;exact ih j h3 (by omega) h4
    ·exact⟨i,h1,h2,fun j h h3=>hj ⟨j,h,h3⟩⟩
  obtain⟨i,h1,h2,h3⟩:=hex;exact .inl ⟨i,h1,h2,h3,ff F (n:=i) (by omega) (fun j hj=>hs j (by omega) (h3 j hj) fun k hk=>h3 k (by omega)) (hx i h1 h2 h3)⟩
 ·have h': ∀j,j<n→¬stop j:=fun j hj hs=>h ⟨j,hj,hs⟩
  exact .inr ⟨h',ff F hn (fun j hj=>hs j hj (h' j hj) fun k hk=>h' k (by omega)) (he h')⟩
theorem di3 (n:Int):IntKind.u64.wrap n=n % 18446744073709551616:=by rfl
theorem qv {n:Int}(h:0≤n∧n<18446744073709551616):IntKind.u64.wrap n=n:=by
 rw[di3];omega
theorem cd {k n:Nat}(h:k<n):ix (k:Int) n=some k:=by
 unfold ix;rw[zB (show(0:Int)≤k by omega),zB (show(k:Int)<n by omega)];rfl
theorem iw {a b:Int}{n:Nat}(h:0≤a∧a≤b∧b≤n):jO a b n=true:=by
 unfold jO;rw[zB h.1,zB h.2.1,zB h.2.2];rfl
theorem ck4 {a b:Int}(h:0≤a):Int.tdiv a b=a / b:=Int.tdiv_eq_ediv_of_nonneg h
theorem spot {L:Nat}(h0:0<L)(hL:L≤1000000){a:Int}(ha: -9223372036854775808≤a∧a≤9223372036854775807): ∃k:Nat,k<L∧aB (IntKind.i64.wrap (aB a (L:Int)+(L:Int))) (L:Int)=(k:Int):=by
 have hp:(0:Int)<(L:Int):=by omega
 have h1:=aD a hp;have h2:=Int.lt_tmod_of_pos a hp;rw[bk (by omega)];have h3:=Int.tmod_nonneg (L:Int) (show 0≤aB a (L:Int)+(L:Int)by omega);have h4:=aD (aB a (L:Int)+(L:Int)) hp;exact⟨(aB (aB a (L:Int)+(L:Int)) (L:Int)).toNat,by omega,by omega⟩
end
section
open List renaming append_nil → aD, append_assoc → bB, getElem?_eq_getElem → bD, getElem?_append_left → cD, length_append → dB, drop_zero → dD, getElem?_append_right → eD, length_cons → gP, length_take → gQ, take_of_length_le → gR
open Nat renaming beq → aB, eq_of_beq_eq_true → cB, le_refl → fB, not_lt_zero → fD, zero_add → gB, zero_mul → gD, eq_zero_or_pos → gS
open Option renaming map_some → gT
def kt (w:World):(s:Sh)→List Value→El s→Prop
 | .int k,cs,n=>cs=[.int k n]∧(Lit.int k n).wf=true
 | .bool,cs,b=>cs=[.bool b]
 | .str,cs,l=> ∃s:ByteArray,cs=[.string s]∧dx s=l∧s.size≤maxLen
 | .list s,cs,l=>(cs=[.slice none 0 0]∧l=[])∨∃(a:Addr) (len cap:Nat) (ys:List (El s)),cs=[.slice (some a) len cap]∧len≤cap∧cap≤maxLen∧ys.length=cap∧l=ys.take len∧
   ∀i y,ys[i]?=some y→∃zs,(∀j z,zs[j]?=some z→w.cell? (a.add (i*s.w+j))=some z)∧kt w s zs y
 | .pair a b,cs,x=> ∃c1 c2,cs=c1++c2∧kt w a c1 x.1∧kt w b c2 x.2
theorem kt.len {w:World}: ∀{s:Sh} {cs:List Value} {x:El s},kt w s cs x→cs.length=s.w
 | .int k,_,_,⟨h,_⟩=>by subst h;rfl
 | .bool,_,_,h=>by
  have h:_=[Value.bool _]:=h;subst h;rfl
 | .str,_,_,⟨s,h,_⟩=>by subst h;rfl
 | .list s,_,_,h=>by
  rcases h with⟨h,_⟩|⟨a,len,cap,ys,h,_⟩<;>subst h<;>rfl
 | .pair a b,_,_,⟨c1,c2,h,h1,h2⟩=>by
  subst h;rw[dB,h1.len,h2.len];rfl
def wV (w:World)(rows:List Row):Prop:= ∀r∈rows,∀(i:Nat) (v:Value),r.cells[i]?=some v→∃v',w.cell? ⟨r.c,r.o+i,none⟩=some v'∧VR (nc rows) v v'
theorem bI7 (rows more:List Row):(nc rows).le (nc (rows++more)):=by
 intro b g h;simp only[nc]at h⊢;cases hr:rows[b]? with
 |none=>rw[hr]at h;cases h
 |some r=>
  rw[hr]at h;obtain⟨hb,hr'⟩:=List.getElem?_eq_some_iff.1 hr;rw[cD hb,hr];exact h
theorem cj5 (size:Nat)(rows more:List Row):Le (tg (mF size rows)) (tg (mF size (rows++more))):=by
 have hs: ∀k,bl ([]:bq) k= .dead:=fun k=>by cases k<;>rfl
 refine⟨fB _,fun k d h=>(fD _ h).elim,fun k _ h=> ?_,fun k d b y h=>(fD _ h).elim,fun b y h _=> ?_,fun b y _ _ h=>(aB2 b (.inl h)).elim, ?_,rfl⟩
 ·rfl
 ·simp only[tg,mF]at h⊢;cases hr:rows[b]? with
  |none=>rw[hr]at h;cases h
  |some r=>
   rw[hr]at h;obtain⟨hb,hr'⟩:=List.getElem?_eq_some_iff.1 hr;rw[cD hb,hr];exact h
 ·show rows.length≤(rows++more).length;rw[dB];omega
theorem ct7 {μ μ':Mu}(h:μ.le μ'){l m:List Value}(hf:F2 (VR μ) l m):F2 (VR μ') l m:=hf.imp fun _ _ hv=>hv.mono h
theorem wV.app {w:World}{rows more:List Row}(h:wV w rows)(hm: ∀r∈more,∀(i:Nat) (v:Value),r.cells[i]?=some v→∃v',w.cell? ⟨r.c,r.o+i,none⟩=some v'∧VR (nc (rows++more)) v v'):wV w (rows++more):=by
 intro r hr i v hv;rcases List.mem_append.1 hr with hr|hr
 ·obtain⟨v',h1,h2⟩:=h r hr i v hv;exact⟨v',h1,h2.mono (bI7 _ _)⟩
 ·exact hm r hr i v hv
theorem cE8 (a:Addr)(i j:Nat):(a.add i).add j=a.add (i+j):=by
 unfold Addr.add;by_cases hj:j=0
 ·subst hj;simp
 ·by_cases hi:i=0
  ·subst hi;simp
  ·simp[hi,hj,Nat.add_assoc]
structure Built (w:World)(rows more:List Row)(acs cs:List Value)(vs:List VV):Prop where
 ok:wV w (rows++more)
 vr:F2 (VR (nc (rows++more))) acs cs
 vv:F2 (VRel (tg (mF w.heap.size (rows++more)))) vs acs
theorem Built.app {w:World}{rows m1 m2:List Row}{a1 a2 c1 c2:List Value}{v1 v2:List VV}(h1:Built w rows m1 a1 c1 v1)(h2:Built w (rows++m1) m2 a2 c2 v2):Built w rows (m1++m2) (a1++a2) (c1++c2) (v1++v2):=by
 refine⟨?_, ?_, ?_⟩
 ·rw[←bB];exact h2.ok
 ·rw[←bB];exact(ct7 (bI7 _ _) h1.vr).append h2.vr
 ·rw[←bB];exact(VRel.frames (cj5 _ _ _) h1.vv).append h2.vv
theorem Built.nil {w:World}{rows:List Row}(h:wV w rows):Built w rows [] [] [] []:=⟨by rw[aD];exact h, .nil, .nil⟩
theorem cv2 {w:World}{s:Sh}(ih: ∀{cs:List Value} {x:El s},kt w s cs x→∀{rows:List Row},wV w rows→∃more acs,Built w rows more acs cs (fa s x))(a:Addr): ∀(ys:List (El s)) (k:Nat),
  (∀i y,ys[i]?=some y→∃zs,(∀j z,zs[j]?=some z→w.cell? (a.add ((k+i)*s.w+j))=some z)∧kt w s zs y)→∀{rows:List Row},wV w rows→
  ∃more acs ccs,Built w rows more acs ccs (gp s ys)∧ccs.length=ys.length*s.w∧∀i z,ccs[i]?=some z→w.cell? (a.add (k*s.w+i))=some z
 |[],k,_,rows,h=>⟨[],[],[], .nil h,by simp,fun i z hz=>by simp at hz⟩
 |y::ys,k,hy,rows,h=>by
  obtain⟨zs,h1,h2⟩:=hy 0 y rfl;obtain⟨m1,a1,h3⟩:=ih h2 h
  obtain⟨m2,a2,c2,h4,h5,h6⟩:=cv2 ih a ys (k+1) (fun i y' hy'=>by
   obtain⟨zs',h7,h8⟩:=hy (i+1) y' (by simpa using hy')
   exact⟨zs',fun j z hz=>by rw[show k+1+i=k+(i+1)by omega];exact h7 j z hz,h8⟩) h3.ok
  refine⟨m1++m2,a1++a2,zs++c2, ?_, ?_,fun i z hz=> ?_⟩
  ·have:=h3.app h4;rw[i3];exact this
  ·rw[dB,h5,h2.len,gP,Nat.succ_mul];omega
  ·have hl:=h2.len;by_cases hi:i<zs.length
   ·rw[cD hi]at hz;have:=h1 i z hz
    rwa [Nat.add_zero]at this
   ·rw[eD (by omega)]at hz;have:=h6 _ z hz;rw[show(k+1)*s.w+(i-zs.length)=k*s.w+i by rw[Nat.succ_mul];omega]at this;exact this
theorem build {w:World}: ∀(s:Sh) {cs:List Value} {x:El s},kt w s cs x→∀{rows:List Row},wV w rows→∃more acs,Built w rows more acs cs (fa s x)
 | .int k,_,n,⟨h,_⟩,rows,hr=>by
  subst h;exact⟨[],_,by rw[aD];exact hr, .cons (.int _ _) .nil, .cons (.int _ _) .nil⟩
 | .bool,_,b,h,rows,hr=>by
  have h:_=[Value.bool _]:=h;subst h;exact⟨[],_,by rw[aD];exact hr, .cons (.bool _) .nil, .cons (.bool _) .nil⟩
 | .str,_,l,⟨s,h,h2,_⟩,rows,hr=>by
  subst h;exact⟨[],_,by rw[aD];exact hr, .cons (.string _) .nil, .cons (.str h2) .nil⟩
 | .pair a b,_,x,⟨c1,c2,h,h1,h2⟩,rows,hr=>by
  subst h;obtain⟨m1,a1,h3⟩:=build a h1 hr;obtain⟨m2,a2,h4⟩:=build b h2 h3.ok;exact⟨m1++m2,a1++a2,h3.app h4⟩
 | .list s,_,l,h,rows,hr=>by
  rcases h with⟨h,h2⟩|⟨a,len,cap,ys,h,hlc,hcm,hyl,hl,hy⟩
  ·subst h;subst h2;exact⟨[],_,by rw[aD];exact hr, .cons .nils .nil, .cons (.lstn fun z hz=>by cases hz) .nil⟩
  ·subst h;obtain⟨m1,a1,c1,h1,h2,h3⟩:=cv2 (fun hc=>build s hc) a ys 0 (fun i y h=>by rw[gB];exact hy i y h) hr;have hw:=ni s;rw[hyl]at h2;have hal:a1.length=cap*s.w:=by rw[h1.vr.length,h2]
   let row:Row:=⟨a.block,a.off,cap*s.w,s.w,a1⟩
   have hspot:0<cap→a.spot=none∧a.block<w.heap.size:=by
    intro hc;have hlt:0<c1.length:=by rw[h2];exact Nat.mul_pos hc hw
    have:=h3 0 _ (bD hlt);rw[gD,Nat.add_zero]at this;have hsp:=av1 this;exact⟨hsp,bE8 (x:=⟨a.block,a.off+0,none⟩) (xc hsp this)⟩
   have hget: ∀(rs:List Row),(rows++(m1++[row])++rs)[(rows++m1).length]?=some row:=by
    intro rs;rw[←bB,bB _ [row],eD (fB _),Nat.sub_self];rfl
   have hmu:(nc (rows++(m1++[row]))).at (rows++m1).length ⟨a.block,a.off,cap*s.w,s.w,0,none⟩:=by
    have:=hget [];rw[aD]at this;refine⟨?_,rfl⟩;simp only[nc,this];rfl
   have hok:wV w (rows++(m1++[row])):=by
    rw[←bB];refine h1.ok.app fun r hr' i v hv=> ?_
    have:r=row:=by simpa using hr'
    subst this;obtain⟨v',q1,q2⟩:=h1.vr.get i v hv;have hc:=h3 i v' q1;rw[gD,gB]at hc
    have hcap:0<cap:=by
     rcases gS cap with e|e
     ·have hv:a1[i]?=some v:=hv;obtain⟨hi,_⟩:=List.getElem?_eq_some_iff.1 hv;rw[hal,e,gD]at hi;exact(fD _ hi).elim
     ·exact e
    exact⟨v',xc (hspot hcap).1 hc,q2.mono (bI7 _ _)⟩
   refine⟨m1++[row],[.slice (some ⟨(rows++m1).length,0,none⟩) len cap],hok, ?_, ?_⟩
   ·refine .cons ?_ .nil;by_cases hc:cap=0
    ·have:len=0:=by omega
     subst hc;subst this;exact .slice0 _ hmu
    ·have hsp:=(hspot (by omega)).1;obtain⟨b,o,sp⟩:=a;simp only at hsp;subst hsp;exact .slice (o:=0) hmu hlc (fB _) (by simp)
   ·refine .cons ?_ .nil;by_cases hc:cap=0
    ·have e:len=0:=by omega
     subst hc;subst e;rw[hl,List.take_zero];exact .lstn fun z hz=>by injection hz with hz;rw[←hz]
    ·have hlt:=(hspot (by omega)).2
     have hm:(tg (mF w.heap.size (rows++(m1++[row])))).σ.m (rows++m1).length=some ⟨a1,false,s.w⟩:=by
      have:=hget [];rw[aD]at this;simp only[tg,mF,this,zG];exact zE hlt
     have hlen:l.length=len:=by rw[hl,gQ];omega
     refine .lst (aB2 _) hm rfl hlen.symm hlc ?_ ?_
     ·show 0+len*s.w≤a1.length;rw[hal,gB];exact Nat.mul_le_mul_right _ hlc
     ·show F2 _ _ ((a1.drop 0).take (len*s.w));rw[dD,hl]
      have h5:F2 (VRel (tg (mF w.heap.size (rows++(m1++[row]))))) (gp s ys) a1:=by
       rw[←bB];exact VRel.frames (cj5 _ _ _) h1.vv
      have h6:gp s (ys.take len)=(gp s ys).take (len*s.w):=lz;rw[h6];exact h5.take _
def vW :List Sh→Sh
 |[]=> .bool
 |[a]=>a
 |a::b::r=> .pair a (vW (b::r))
theorem bR2 {w:World}: ∀{l1 l2:List Sh} {c1 c2:List Value},l1≠[]→l2≠[]→(∃x,kt w (vW l1) c1 x)→(∃x,kt w (vW l2) c2 x)→∃x,kt w (vW (l1++l2)) (c1++c2) x
 |[a],b::r,c1,c2,_,_,⟨x,h1⟩,⟨y,h2⟩=>⟨(x,y),c1,c2,rfl,h1,h2⟩
 |a::b::r,l2,c1,c2,_,hl,⟨x,d1,d2,h0,h1,h2⟩,h3=>by
  subst h0;obtain⟨z,h4⟩:=bR2 (l1:=b::r) (by simp) hl ⟨x.2,h2⟩ h3;exact⟨(x.1,z),d1,d2++c2,by rw[bB],h1,h4⟩
def aG8 {α:Type}(P:Program)(r:TypeId→Option (List Sh))(ty:α→TypeId)(off:α→Nat):List α→Nat→Option (List Sh)
 |[],_=>some []
 |f::l,o=>cond (aB (off f) o) (match r (ty f)with
  |some (s::ss)=>cond (aB (s::ss).length (P.cellsOf (ty f))) ((aG8 P r ty off l (o+(s::ss).length)).map ((s::ss)++ ·)) none
  |_=>none) none
def pg (P:Program):Nat→TypeId→Option (List Sh)
 |0,_=>none
 |n+1,t=>match P.underlying t with
  |some (.int k)=>some [.int k]
  |some .bool=>some [.bool]
  |some .string=>some [.str]
  |some (.slice e)=>(match pg P n e with
   |some (s::ss)=>cond (aB (s::ss).length (P.cellsOf e)) (some [.list (vW (s::ss))]) none
   |_=>none)
  |some (.struct fs)=>(match aG8 P (pg P n) Field.type Field.offset fs.toList 0 with
   |some L=>cond (aB L.length (P.cellsOf t)) (some L) none
   |none=>none)
  |some (.array m e)=>(match aG8 P (pg P n) (fun _=>e) (fun i=>i*P.cellsOf e) (List.range m) 0 with
   |some L=>cond (aB L.length (P.cellsOf t)) (some L) none
   |none=>none)
  |_=>none
section
variable {H:Type} {enc:TypeId×Value→H} {P:Program} {w:World} {base:Nat} {held:Bool}
theorem aq9 {α:Type}{n m:Nat}{ty:α→TypeId}{off:α→Nat}(ih: ∀{t:TypeId} {l:List Sh} {cs:List Value} {x:DataW H×List MemPlace},pg P n t=some l→l≠[]→DataW.trod enc P w base (fun _=>true) held m t cs=some x→∃y,kt w (vW l) cs y){cs:List Value}:
  ∀(fs:List α) (o:Nat) (L:List Sh),aG8 P (pg P n) ty off fs o=some L→L≠[]→(∀(i:Nat) (f:α),fs[i]?=some f→∃x,DataW.trod enc P w base (fun _=>true) held m (ty f) ((cs.drop (off f)).take (P.cellsOf (ty f)))=some x)→
   ∃y,kt w (vW L) ((cs.drop o).take L.length) y
 |[],o,L,h,hne,_=>by
  injection h with h
  exact(hne h.symm).elim
 |f::fs,o,L,h,hne,hm=>by
  obtain⟨y,hy⟩:=hm 0 f rfl;simp only[aG8]at h;cases hb:aB (off f) o with
  |false=>rw[hb]at h;cases h
  |true=>
   have hb:=cB hb;subst hb;rw[Nat.beq_refl,zC]at h;cases hr:pg P n (ty f)with
   |none=>rw[hr]at h;cases h
   |some l=>
    rw[hr]at h;cases l with
    |nil=>cases h
    |cons s ss=>
     simp only at h;cases hc:aB (s::ss).length (P.cellsOf (ty f))with
     |false=>rw[hc]at h;cases h
     |true=>
      rw[hc,zC]at h;have hc:=cB hc;rw[←hc]at hy;have h1:=ih hr (by simp) hy;cases hf:aG8 P (pg P n) ty off fs (off f+(s::ss).length)with
      |none=>rw[hf]at h;cases h
      |some L2=>
       rw[hf,gT]at h;injection h with h
       subst h;rw[dB,List.take_add,List.drop_drop];cases L2 with
       |nil=>
        rw[List.length_nil,List.take_zero,aD,aD];exact h1
       |cons s2 r2=>exact bR2 (by simp) (by simp) h1 (aq9 ih fs _ _ hf (by simp) fun i g hg=>hm (i+1) g (by simpa using hg))
theorem bu5 {β:Type}{p:Nat→β→Prop}: ∀(n:Nat),(∀i,i<n→∃y,p i y)→∃ys:List β,ys.length=n∧∀i y,ys[i]?=some y→p i y
 |0,_=>⟨[],rfl,fun i y h=>by simp at h⟩
 |n+1,h=>by
  obtain⟨ys,h1,h2⟩:=bu5 n fun i hi=>h i (by omega)
  obtain⟨y,h3⟩:=h n (by omega);refine⟨ys++[y],by simp[h1],fun i z hz=> ?_⟩;by_cases hi:i<ys.length
  ·rw[cD hi]at hz;exact h2 i z hz
  ·rw[eD (by omega)]at hz
   have:i-ys.length=0:=by
    rcases gS (i-ys.length)with e|e
    ·exact e
    ·rw[List.getElem?_eq_none (by simp;omega)]at hz;cases hz
   rw[this]at hz;injection hz with hz
   subst hz;have:i=n:=by omega
   subst this;exact h3
theorem cm6 {a:Addr}{c:Nat}{zs:List Value}(h:w.cells? base a c=some zs):zs.length=c∧∀j z,zs[j]?=some z→w.cell? (a.add j)=some z:=by
 unfold World.cells? at h;split at h
 ·have hl:=mapM_some_length h;rw[List.length_range]at hl;refine⟨hl,fun j z hz=> ?_⟩
  have hj:j<c:=by
   obtain⟨hj,_⟩:=List.getElem?_eq_some_iff.1 hz;omega
  have:=mapM_some_get h j j (by simp[hj]);rw[this,hz]
 ·cases h
theorem cy8 : ∀(l:List Sh),l≠[]→(∀s∈l,s.w=1)→(vW l).w=l.length
 |[a],_,h=>h a (by simp)
 |a::b::r,_,h=>by
  show a.w+(vW (b::r)).w=_;rw[h a (by simp),cy8 (b::r) (by simp) fun s hs=>h s (List.mem_cons_of_mem _ hs),gP (as:=b::r)];omega
theorem bF9 {α:Type}{n:Nat}{ty:α→TypeId}{off:α→Nat}(ih: ∀{t:TypeId} {l:List Sh},pg P n t=some l→∀s∈l,s.w=1): ∀(fs:List α) (o:Nat) (L:List Sh),aG8 P (pg P n) ty off fs o=some L→∀s∈L,s.w=1
 |[],o,L,h=>by
  injection h with h
  subst h;intro s hs;cases hs
 |f::fs,o,L,h=>by
  simp only[aG8]at h;cases hb:aB (off f) o with
  |false=>rw[hb]at h;cases h
  |true=>
   rw[hb,zC]at h;cases hr:pg P n (ty f)with
   |none=>rw[hr]at h;cases h
   |some l=>
    rw[hr]at h;cases l with
    |nil=>cases h
    |cons s ss=>
     simp only at h;cases hc:aB (s::ss).length (P.cellsOf (ty f))with
     |false=>rw[hc]at h;cases h
     |true=>
      rw[hc,zC]at h;cases hf:aG8 P (pg P n) ty off fs (o+(s::ss).length)with
      |none=>rw[hf]at h;cases h
      |some L2=>
       rw[hf,gT]at h;injection h with h
       subst h;intro q hq;rcases List.mem_append.1 hq with hq|hq
       ·exact ih hr q hq
       ·exact bF9 ih fs _ _ hf q hq
theorem bG1 : ∀(n:Nat) {t:TypeId} {l:List Sh},pg P n t=some l→∀s∈l,s.w=1
 |0,t,l,h=>by cases h
 |n+1,t,l,h=>by
  have one: ∀{a:Sh},a.w=1→some [a]=some l→∀s∈l,s.w=1:=by
   intro a ha e;injection e with e
   subst e;intro s hs;rw[List.mem_singleton]at hs;subst hs;exact ha
  simp only[pg]at h;split at h
  ·exact one rfl h
  ·exact one rfl h
  ·exact one rfl h
  ·split at h
   ·rename_i e hu x s ss hr;cases hc:aB (s::ss).length (P.cellsOf e)with
    |false=>rw[hc]at h;cases h
    |true=>rw[hc,zC]at h;exact one rfl h
   ·cases h
  ·split at h
   ·rename_i L hf;cases hc:aB L.length (P.cellsOf t)with
    |false=>rw[hc]at h;cases h
    |true=>
     rw[hc,zC]at h;injection h with h
     subst h;exact bF9 (fun h=>bG1 n h) _ _ _ hf
   ·cases h
  ·split at h
   ·rename_i L hf;cases hc:aB L.length (P.cellsOf t)with
    |false=>rw[hc]at h;cases h
    |true=>
     rw[hc,zC]at h;injection h with h
     subst h;exact bF9 (fun h=>bG1 n h) _ _ _ hf
   ·cases h
  ·cases h
theorem af3 : ∀(n:Nat) {m:Nat} {t:TypeId} {l:List Sh} {cs:List Value} {x:DataW H×List MemPlace},pg P n t=some l→l≠[]→DataW.trod enc P w base (fun _=>true) held m t cs=some x→∃y,kt w (vW l) cs y
 |0,m,t,l,cs,x,h,_,_=>by cases h
 |n+1,m,t,l,cs,x,h,hne,hd=>by
  simp only[pg]at h;split at h
  ·rename_i k hu;injection h with h
   subst h;obtain⟨a,e1,_,e2⟩:=DataW.trod_int hu hd;exact⟨a,e1,e2⟩
  ·rename_i hu;injection h with h
   subst h;obtain⟨a,e1,_⟩:=DataW.trod_bool hu hd;exact⟨a,e1⟩
  ·rename_i hu;injection h with h
   subst h;obtain⟨a,e1,_,e2⟩:=DataW.trod_string hu hd;exact⟨_,a,e1,rfl,e2⟩
  ·rename_i e hu;split at h
   ·rename_i s ss hr;cases hc:aB (s::ss).length (P.cellsOf e)with
    |false=>rw[hc]at h;cases h
    |true=>
     rw[hc,zC]at h;injection h with h
     subst h;have hc:=cB hc;have hw:(vW (s::ss)).w=P.cellsOf e:=by rw[cy8 _ (by simp) (bG1 n hr),hc]
     rcases DataW.trod_slice hu hd with⟨e1,_⟩|⟨a,len,cap,elems,rest,m',_,e1,_,hb,hlc,hcm,hel,he,hrest⟩
     ·exact⟨([]:List (El (vW (s::ss)))), .inl ⟨e1,rfl⟩⟩
     ·have hall: ∀i,i<cap→∃y:El (vW (s::ss)),∃zs,(∀j z,zs[j]?=some z→w.cell? (a.add (i*(vW (s::ss)).w+j))=some z)∧kt w (vW (s::ss)) zs y:=by
       intro i hi
       have hsome: ∃q,(w.cells? base (a.add (i*P.cellsOf e)) (P.cellsOf e)).bind (DataW.trod enc P w base (fun _=>true) held m' e)=some q:=by
        by_cases hi2:i<len
        ·rw[he i hi2];exact⟨_,bD (by omega)⟩
        ·obtain⟨h8,h9⟩:=hrest.1 rfl;have:=h9 (i-len) (by omega);rw[show len+(i-len)=i by omega]at this;rw[this];exact⟨_,bD (by omega)⟩
       obtain⟨q,hq⟩:=hsome;obtain⟨zs,h1,h2⟩:=bn hq;obtain⟨y,h3⟩:=af3 n hr (by simp) h2;obtain⟨h4,h5⟩:=cm6 h1;exact⟨y,zs,fun j z hz=>by rw[hw,←cE8];exact h5 j z hz,h3⟩
      obtain⟨ys,h6,h7⟩:=bu5 cap hall;exact⟨ys.take len, .inr ⟨a,len,cap,ys,e1,hlc,hcm,h6,rfl,h7⟩⟩
   ·cases h
  ·rename_i fs hu;split at h
   ·rename_i L hf;cases hc:aB L.length (P.cellsOf t)with
    |false=>rw[hc]at h;cases h
    |true=>
     rw[hc,zC]at h;injection h with h
     subst h;have hc:=cB hc;obtain⟨xs,m',_,_,hl,hxl,hx⟩:=DataW.trod_struct hu hd
     have:=aq9 (cs:=cs) (fun h1 h2 h3=>af3 n (m:=m') h1 h2 h3) fs.toList 0 _ hf hne fun i f hi=>by
      have hi':fs[i]?=some f:=by rw[←Array.getElem?_toList];exact hi
      have:=hx i f hi';rw[this]
      have:i<xs.length:=by
       obtain⟨h9,_⟩:=List.getElem?_eq_some_iff.1 hi;rw[hxl];simpa using h9
      exact⟨_,bD this⟩
     rw[dD,gR (by omega)]at this;exact this
   ·cases h
  ·rename_i k e hu;split at h
   ·rename_i L hf;cases hc:aB L.length (P.cellsOf t)with
    |false=>rw[hc]at h;cases h
    |true=>
     rw[hc,zC]at h;injection h with h
     subst h;have hc:=cB hc;obtain⟨xs,m',_,_,hl,hxl,hx⟩:=DataW.trod_array hu hd
     have:=aq9 (cs:=cs) (fun h1 h2 h3=>af3 n (m:=m') h1 h2 h3) (List.range k) 0 _ hf hne fun i f hi=>by
      obtain⟨h9,h10⟩:=List.getElem?_eq_some_iff.1 hi;rw[List.getElem_range]at h10;subst h10;have h9:i<k:=by simpa using h9
      have:=hx i h9;rw[this];exact⟨_,bD (by omega)⟩
     rw[dD,gR (by omega)]at this;exact this
   ·cases h
  ·cases h
end
def isAgg (P:Program)(t:TypeId):Bool:=match P.underlying t with
 |some (.struct _)|some (.array _ _)=>true
 |_=>false
def yQ (w:World):(b:Bool)→(s:Sh)→Value→El s→Prop
 |true,s,v,x=> ∃cs,v= .agg cs∧kt w s cs.toList x
 |false,s,v,x=>kt w s [v] x
theorem zx {H:Type}{enc:TypeId×Value→H}{P:Program}{w:World}{base:Nat}{held:Bool}{n:Nat}{t:TypeId}{l:List Sh}{r:Reach}{b0:Nat}{v:Value}{d:DataW H}{ps:List MemPlace}(hl:pg P n t=some l)(hne:l≠[])
  (hval:Value.okWide P w r b0 t v) (hd:DataW.Trod enc P w base (fun _=>true) held t v d ps): ∃x:El (vW l),yQ w (isAgg P t) (vW l) v x:=by
 obtain⟨fuel,hf⟩:=hd;obtain⟨x,hx⟩:=af3 n hl hne hf;refine⟨x, ?_⟩
 have cell:isAgg P t=false→(∀cs,v≠ .agg cs)→yQ w (isAgg P t) (vW l) v x:=by
  intro h1 h2;rw[h1]
  have:v.cells.toList=[v]:=by
   unfold Value.cells;split
   ·rename_i cs;exact(h2 cs rfl).elim
   ·rfl
  rw[this]at hx;exact hx
 cases n with
 |zero=>cases hl
 |succ n=>
  simp only[pg]at hl;split at hl
  ·rename_i k hu;refine cell (by simp[isAgg,hu]) fun cs e=> ?_
   subst e;simp[Value.okWide,hu,Cell.okWide,Cell.ok]at hval
  ·rename_i hu;refine cell (by simp[isAgg,hu]) fun cs e=> ?_
   subst e;simp[Value.okWide,hu,Cell.okWide,Cell.ok]at hval
  ·rename_i hu;refine cell (by simp[isAgg,hu]) fun cs e=> ?_
   subst e;simp[Value.okWide,hu,Cell.okWide,Cell.ok]at hval
  ·rename_i e hu;refine cell (by simp[isAgg,hu]) fun cs e=> ?_
   subst e;simp[Value.okWide,hu,Cell.okWide,Cell.ok]at hval
  ·rename_i fs hu;simp only[Value.okWide,hu]at hval;obtain⟨cs,rfl,_,_⟩:=hval;rw[show isAgg P t=true by simp[isAgg,hu]];exact⟨cs,rfl,hx⟩
  ·rename_i k e hu;simp only[Value.okWide,hu]at hval;obtain⟨cs,rfl,_,_⟩:=hval;rw[show isAgg P t=true by simp[isAgg,hu]];exact⟨cs,rfl,hx⟩
  ·cases hl
@[reducible] def All :List (Bool×Sh)→Type
 |[]=>Unit
 |[k]=>El k.2
 |k::k'::r=>El k.2×All (k'::r)
def bw4 (w:World):(ks:List (Bool×Sh))→List Value→All ks→Prop
 |[],vs,_=>vs=[]
 |[k],vs,x=> ∃v,vs=[v]∧yQ w k.1 k.2 v x
 |k::k'::r,vs,x=> ∃v us,vs=v::us∧yQ w k.1 k.2 v x.1∧bw4 w (k'::r) us x.2
def cU5 (k:Bool×Sh)(x:El k.2):VV:=cond k.1 (.agg (fa k.2 x)) ((fa k.2 x).headD .undef)
def cu6 :(ks:List (Bool×Sh))→All ks→List VV
 |[],_=>[]
 |[k],x=>[cU5 k x]
 |k::k'::r,x=>cU5 k x.1::cu6 (k'::r) x.2
theorem br5 {w:World}{k:Bool×Sh}{v:Value}{x:El k.2}(h:yQ w k.1 k.2 v x){rows:List Row}(hr:wV w rows): ∃more av,Built w rows more [av] [v] [cU5 k x]:=by
 obtain⟨b,s⟩:=k;cases b with
 |true=>
  obtain⟨cs,rfl,h1⟩:=h;obtain⟨more,acs,h2⟩:=build s h1 hr;exact⟨more, .agg acs.toArray,h2.ok, .cons (.agg (by simpa using h2.vr)) .nil, .cons (.agg (by simpa using h2.vv)) .nil⟩
 |false=>
  obtain⟨more,acs,h2⟩:=build s h hr;have h3:=h2.vr;have h4:=h2.vv;cases h3 with
  | @cons a _ as _ h5 h6=>
   cases h6;refine⟨more,a,h2.ok, .cons h5 .nil, ?_⟩;show F2 _ [(fa s x).headD .undef] _;generalize fa s x=l at*;cases h4 with
   |cons h7 h8=>
    cases h8;exact .cons h7 .nil
theorem bd2 {w:World}: ∀(ks:List (Bool×Sh)) {vs:List Value} {x:All ks},bw4 w ks vs x→∀{rows:List Row},wV w rows→∃more avs,Built w rows more avs vs (cu6 ks x)
 |[],vs,x,h,rows,hr=>by
  have h:vs=[]:=h;subst h;exact⟨[],[], .nil hr⟩
 |[k],vs,x,⟨v,h,h1⟩,rows,hr=>by
  subst h;obtain⟨more,av,h2⟩:=br5 h1 hr;exact⟨more,[av],h2⟩
 |k::k'::r,vs,x,⟨v,us,h,h1,h2⟩,rows,hr=>by
  subst h;obtain⟨m1,av,h3⟩:=br5 h1 hr;obtain⟨m2,avs,h4⟩:=bd2 (k'::r) h2 h3.ok;exact⟨m1++m2,av::avs,h3.app h4⟩
def inK (k:IntKind)(n:Int):Prop:=match k with
 | .i64=> -9223372036854775808≤n∧n≤9223372036854775807
 | .u64=>0≤n∧n≤18446744073709551615
 | .u8=>0≤n∧n≤255
 |_=>True
theorem cY2 {k:IntKind}{n:Int}(h:(Lit.int k n).wf=true):inK k n:=by
 cases k<;>first|trivial|exact da7 h|exact da8 h|exact di2 h
def cl0 :(s:Sh)→El s→Prop
 | .int k,n=>inK k n
 | .bool,_=>True
 | .str,l=>l.length≤9223372036854775807∧∀n∈l,0≤n∧n≤255
 | .list s,l=>l.length≤9223372036854775807∧∀x∈l,cl0 s x
 | .pair a b,x=>cl0 a x.1∧cl0 b x.2
theorem kt.fine {w:World}: ∀{s:Sh} {cs:List Value} {x:El s},kt w s cs x→cl0 s x
 | .int k,_,_,⟨_,h⟩=>cY2 h
 | .bool,_,_,_=>trivial
 | .str,_,_,⟨s,_,h,hm⟩=>by
  subst h;refine⟨?_,fun n hn=> ?_⟩
  ·unfold dx;rw[List.length_map];unfold maxLen at hm;simpa using hm
  ·unfold dx at hn;obtain⟨b,_,rfl⟩:=List.mem_map.1 hn;have:=b.toNat_lt;omega
 | .list s,_,l,h=>by
  rcases h with⟨_,h⟩|⟨a,len,cap,ys,_,hlc,hcm,hyl,hl,hy⟩
  ·subst h;exact⟨Nat.zero_le _,fun x hx=>by cases hx⟩
  ·subst hl;refine⟨by rw[gQ];unfold maxLen at hcm;omega,fun x hx=> ?_⟩;obtain⟨i,hi,rfl⟩:=List.getElem_of_mem (List.mem_of_mem_take hx);obtain⟨zs,_,h⟩:=hy i _ (bD hi);exact h.fine
 | .pair a b,_,_,⟨c1,c2,_,h1,h2⟩=>⟨h1.fine,h2.fine⟩
theorem yQ.fine {w:World}{b:Bool}{s:Sh}{v:Value}{x:El s}(h:yQ w b s v x):cl0 s x:=by
 cases b with
 |true=>obtain⟨cs,_,h⟩:=h;exact h.fine
 |false=>exact kt.fine h
theorem cx4 {P:Program}{f:FuncId}{vals:List Sk}{run:Tup (wY.shs ⟨vals,[],[]⟩)→Option (ug aB3)}(h:vi P ⟨f,vals,[],aB3,run⟩){w:World}(hT:cl1 P w){cargs:Array Value}(ks:List (Bool×Sh))(x:All ks)(t:Tup (wY.shs ⟨vals,[],[]⟩))
  (hA:bw4 w ks cargs.toList x) (hd:((ob [] 0 [] ⟨vals,[],[]⟩ (cu6 ks x)).bind fun st=>ofL _ st.ls)=some t) (hr:run t=some true):
  Calls P f cargs w fun e w'=>e= .returned (.bool true)∧Go.RowKit.Below w.heap.size w w':=by
 obtain⟨rows,avs,h1⟩:=bd2 ks hA (rows:=[]) (fun r hr=>by cases hr);exact co9 h hT t h1.ok h1.vr h1.vv hd hr
end
end Go.V
