/- A part of the proofs of this claim: what functions of the program answer on an abstract machine, and plain laws. No condition. -/
import Derived.Test.YtbocegmeciaanaaGreatA5
import Derived.Test.YtbocegmeciaanaaGreatA3
import Derived.IntWalk
import Derived.KernelRfl
import Derived.WideKeyArr2
import Derived.RowKit
import Derived.ProofKit
import Derived.OpenShut
import Derived.ChangeArms
import Derived.Below
set_option linter.unusedVariables false
set_option linter.unusedSimpArgs false
set_option linter.unusedSectionVars false
namespace Go.V
open Go.Ab
section
open Bool renaming and_eq_true → aD, or_eq_true → cD
open List renaming mem_cons_of_mem → cB, map_congr_left → fB
open Nat renaming beq → aB, eq_of_beq_eq_true → bB, lt_of_lt_of_le → bD, beq_refl → dB, le_of_ble_eq_true → dD, le_refl → eD
def rb {β:Type}(c:Ctx)(k:ej→bu→Option β)(y:β):dh→Hp→Prop:=fun ea σ'=> ∃e' c',c'.σ=σ'∧Le c c'∧fe c'∧bz c' e' ea∧k e' c'.S=some y
theorem rb.of {β:Type}{c c1:Ctx}{k:ej→bu→Option β}{y:β}(h:Le c c1){ea:dh}{σ':Hp}(hp:rb c1 k y ea σ'):rb c k y ea σ':=by
 obtain⟨e',c',h1,h2,h3⟩:=hp;exact⟨e',c',h1,h.trans h2,h3⟩
def rA {β:Type}(c:Ctx)(k:AExit→ej→bu→Option β)(y:β):AExit→dh→Hp→Prop:=fun x=>rb c (k x) y
section
variable {β:Type} {tab:Tab} {y:β}
theorem bb6 : ∀{ops:List AOper} {c:Ctx} {e:ej} {ea:dh} {k:ej→bu→Option β},fe c→bz c e ea→an2 tab ops e c.S k=some y→Ab.xf (iw tab) (rb c k y) ops ea c.σ
 |[],c,e,ea,k,hR,he,h=>⟨e,c,rfl,Le.refl c,hR,he,h⟩
 |o::r,c,e,ea,k,hR,he,h=>by
  have step: ∀e1,bz c e1 ea→bb5 tab o.op e1 c.S (fun v S'=>an2 tab r (putO e1 o.dst v) S' k)=some y→ck (iw tab) o.op ea c.σ fun v σ'=>Ab.xf (iw tab) (rb c k y) r (ea.putO o.dst v) σ':=by
   intro e1 he1 h1;refine ol (cz tab) (fun v σ' hv=> ?_) (aE3 hR he1 h1);obtain⟨vv,c',h2,h3,h4,_,h6,h7⟩:=hv;subst h2;exact Ab.ae9 (cz tab) (fun ea' σ'' hp=>hp.of h3) _ _ _ (bb6 h4 ((he1.frame h3).putO h6) h7)
  have skip: ∀e1,bz c e1 ea→an2 tab r (putO e1 o.dst (.tup [])) c.S k=some y→Ab.xf (iw tab) (rb c k y) r (ea.putO o.dst undef) c.σ:=fun e1 he1 h1=>bb6 hR (he1.putO (.tup .nil)) h1
  simp only[an2]at h;simp only[Ab.xf];split at h
  ·rename_i hg;have:wanted o ea=true:=by simp only[wanted,hg]
   rw[zE this];exact step e he h
  ·rename_i t w hg;split at h
   ·rename_i p hp;have ht:=he t;rw[hp]at ht;have ht:=ht.bool_inv;have hw:wanted o ea=(p==w):=by simp only[wanted,hg,ht]
    have hput:bz c (pR e t (.bool p)) ea:=by
     have:=he.put (d:=t) (VRel.bool (c:=c) p);intro i;have h1:=this i;unfold dh.put at h1;by_cases hi:i=t
     ·rw[zE hi]at h1;subst hi;rw[ht];exact h1
     ·rw[zF hi]at h1;exact h1
    rw[hw];cases p<;>cases w<;>simp only[zC,zD]at h
    ·rw[zE (by decide)];exact step _ hput h
    ·rw[zF (by decide)];exact skip _ hput h
    ·rw[zF (by decide)];exact skip _ hput h
    ·rw[zE (by decide)];exact step _ hput h
   ·rename_i hp;have ht:=he t;rw[hp]at ht
    have hw:wanted o ea=false:=by
     simp only[wanted,hg];generalize ea t=u at ht;cases ht;rfl
    rw[hw,zF (by decide)];exact skip _ he h
   ·cases h
def cp5 :Value→Option Nat
 | .pointer (some a)=>some a.block
 | .slice (some a) _ _=>some a.block
 |_=>none
def ai5 :AOp→Operand
 | .load x| .loadN _ x| .sliceArr _ _ x _ _| .slice _ x _ _=>x
 |_=> .global 0
theorem bd4 {op:AOp}{ea:dh}{σ σ1 σ':Hp}{v:Value}(hl:op.isLoad=true)(h:op.run ea σ=some (v,σ1))(hd: ∀b,cp5 (ea.ev (ai5 op))=some b→σ'.m b=σ.m b):op.run ea σ'=some (v,σ'):=by
 cases op<;>try(cases hl;done)
 case load x=>
  simp only[AOp.run,ai5]at h hd⊢;split at h
  ·rename_i b o hx;rw[hx]at hd;rw[hd b rfl];split at h
   ·rename_i blk hb;cases hc:blk.cells[o]? with
    |none=>rw[hc]at h;cases h
    |some u=>
     rw[hc]at h;injection h with h
     injection h with h1 h2
     subst h1;rfl
   ·cases h
  ·cases h
 case loadN n x=>
  simp only[AOp.run,ai5]at h hd⊢;split at h
  ·rename_i b o hx;rw[hx]at hd;rw[hd b rfl];split at h
   ·rename_i blk hb;cases hc:pv blk o n with
    |none=>rw[hc]at h;cases h
    |some u=>
     rw[hc]at h;injection h with h
     injection h with h1 h2
     subst h1;rfl
   ·cases h
  ·cases h
 case slice es x lo hi=>
  cases lo with
  |none=>cases hl
  |some l=>
   simp only[AOp.run,ai5]at h hd⊢;split at h
   ·rename_i a ln cap hx;rw[hx]at hd
    have hm:yq σ' es a (some l)=yq σ es a (some l):=by
     cases a with
     |none=>rfl
     |some a=>simp only[yq];rw[hd a.block rfl]
    rw[hm];cases hc:(cap==0||yq σ es a (some l))with
    |false=>rw[hc]at h;simp at h
    |true=>
     rw[hc,zE rfl]at h;rw[zE rfl];split at h
     ·split at h
      ·injection h with h
       injection h with h1 h2
       subst h1;rfl
      ·cases h
     ·cases h
   ·cases h
 case sliceArr es n x lo hi=>
  simp only[AOp.run,ai5]at h hd⊢;split at h
  ·rename_i b o hx;rw[hx]at hd;rw[hd b rfl];split at h
   ·rename_i blk hb;split at h
    ·rename_i hc;rw[zE hc];split at h
     ·split at h
      ·split at h
       ·rename_i hlt;injection h with h
        injection h with h1 h2
        subst h1;rw[zE hlt]
       ·cases h
      ·cases h
     ·cases h
    ·cases h
   ·cases h
  ·cases h
theorem cu1 {op:AOp}{ea:dh}{σ σ1:Hp}{v:Value}{q:Option Addr}(hl:op.isLoad=true)(hx:ea.ev (ai5 op)= .slice q 0 0)(h:op.run ea σ=some (v,σ1))(σ':Hp):op.run ea σ'=some (v,σ'):=by
 cases op<;>try(cases hl;done)
 case load x=>
  simp only[ai5]at hx;simp only[AOp.run,hx]at h;cases h
 case loadN n x=>
  simp only[ai5]at hx;simp only[AOp.run,hx]at h;cases h
 case slice es x lo hi=>
  simp only[ai5]at hx;simp only[AOp.run,hx,beq_self_eq_true,Bool.true_or,if_true]at h⊢;split at h
  ·split at h
   ·injection h with h
    injection h with h1 h2
    subst h1;rfl
   ·cases h
  ·cases h
 case sliceArr es n x lo hi=>
  simp only[ai5]at hx;simp only[AOp.run,hx]at h;cases h
def aw9 (c:Ctx)(p:Hp→Prop):Option (Option Nat)→Prop
 |none=>True
 |some none=>p c.σ∧∀σ',(∀b y,c.σ.m b=some y→¬c.mut b→σ'.m b=some y)→p σ'
 |some (some q)=>(bn c.S q).dim≠none∧p c.σ∧∀σ',(∀b,c.μ q=some b→σ'.m b=c.σ.m b)→p σ'
inductive ChkRel (c:Ctx):List (Nat×(Hp→Prop))→Chk→Prop where
 |nil:ChkRel c [] []
 |cons {i:Nat} {p:Hp→Prop} {s:Option (Option Nat)} {l:List (Nat×(Hp→Prop))} {m:Chk}:aw9 c p s→ChkRel c l m→ChkRel c ((i,p)::l) ((i,s)::m)
theorem aw9.now {c:Ctx}{p:Hp→Prop}{s:Option Nat}(h:aw9 c p (some s)):p c.σ:=by
 cases s with
 |none=>exact h.1
 |some q=>exact h.2.1
theorem aw9.next {c c':Ctx}{p:Hp→Prop}{d:List Nat}(hl:Le c c')(hc:tE d c c'): ∀{s:Option (Option Nat)},aw9 c p s→aw9 c' p (match s with
  |some (some q)=>cond (mW q d) none (some (some q))
  |s=>s)
 |none,_=>trivial
 |some none,h=>by
  refine⟨h.2 _ fun b y hy hn=>(hl.rd b y hy hn).1,fun σ' hσ=>h.2 σ' fun b y hy hn=> ?_⟩;obtain⟨h1,h2⟩:=hl.rd b y hy hn;exact hσ b y h1 h2
 |some (some q),h=>by
  cases hm:mW q d with
  |true=>
   show aw9 c' p (cond (mW q d) none (some (some q)));rw[hm];exact trivial
  |false=>
   show aw9 c' p (cond (mW q d) none (some (some q)));rw[hm];obtain⟨h1,h2,h3⟩:=h;have hq:q∉d:=fun e=>by rw[lJ.2 e]at hm;cases hm
   obtain⟨h4,h5⟩:=hc q (ng h1) hq h1
   have hmu:c'.μ q=c.μ q:=by
    cases hdd:(bn c'.S q).dim with
    |none=>exact(h4 hdd).elim
    |some dd=>exact(hl.al q dd (ng h1) hdd).2
   exact⟨h4,h3 _ h5,fun σ' hσ=>h3 σ' fun b hb=>by rw[hσ b (by rw[hmu];exact hb),h5 b hb]⟩
theorem ChkRel.next {c c':Ctx}{d:List Nat}(hl:Le c c')(hc:tE d c c'): ∀{l:List (Nat×(Hp→Prop))} {m:Chk},ChkRel c l m→ChkRel c' l (aU0 d m)
 |_,_, .nil=> .nil
 |_,_, .cons (s:=s) h1 h2=>by
  have h3:=h1.next hl hc
  have h4:=ChkRel.next hl hc h2
  cases s with
  |none=>exact .cons h3 h4
  |some s=>
   cases s with
   |none=>exact .cons h3 h4
   |some q=>exact .cons h3 h4
theorem xe : ∀m:Chk,aU0 [] m=m
 |[]=>rfl
 |(i,none)::r=>by simp only[aU0,xe r]
 |(i,some none)::r=>by simp only[aU0,xe r]
 |(i,some (some q))::r=>by simp only[aU0,xe r,mW,zD]
theorem az3 {c:Ctx}{is:List Nat}: ∀{l:List (Nat×(Hp→Prop))} {m:Chk},ChkRel c l m→mH is m=true→vJ is c.σ l
 |_,_, .nil,_=>trivial
 |_,_, .cons (i:=i) (s:=s) h1 h2,h=>by
  simp only[mH]at h;simp only[vJ]
  have hc:is.contains i=mW i is:=by
   cases hm:mW i is with
   |true=>simpa using lJ.1 hm
   |false=>
    cases hh:is.contains i with
    |false=>rfl
    |true=>
     have:i∈is:=by simpa using hh
     rw[lJ.2 this]at hm;cases hm
  rw[hc];cases hm:mW i is with
  |false=>
   rw[hm,zD]at h;rw[zF (by decide)];exact az3 h2 h
  |true=>
   rw[hm,zC]at h;rw[zE rfl];cases s with
   |none=>cases h
   |some s=>exact⟨h1.now,az3 h2 h⟩
theorem bo1 {c:Ctx}{e:ej}{ea:dh}{op:AOp}{v:Value}{σ1:Hp}(hR:fe c)(he:bz c e ea)(hl:op.isLoad=true)(h:op.run ea c.σ=some (v,σ1)):aw9 c (fun σ'=>op.run ea σ'=some (v,σ')) (cA6 c.S op e):=by
 have hx:=cm he (ai5 op);have hself:op.run ea c.σ=some (v,c.σ):=bd4 hl h fun _ _=>rfl
 have key:aw9 c (fun σ'=>op.run ea σ'=some (v,σ')) (cq3 c.S (ev e (ai5 op))):=by
  generalize ev e (ai5 op)=xv at*
  have blkcase: ∀q,ua xv=some q→(∀b,cp5 (ea.ev (ai5 op))=some b→(bn c.S q).dim≠none→c.μ q=some b)→aw9 c (fun σ'=>op.run ea σ'=some (v,σ')) (cond (bn c.S q).live (some (some q)) none):=by
   intro q hq hb;cases hlv:(bn c.S q).live with
   |false=>trivial
   |true=>
    obtain⟨dm,hdm⟩:=sG hlv;exact⟨by rw[hdm];simp,hself,fun σ' hσ=>bd4 hl h fun b hbb=>hσ b (hb b hbb (by rw[hdm];simp))⟩
  have novalue:(∀b,cp5 (ea.ev (ai5 op))=some b→∃y,c.σ.m b=some y∧¬c.mut b)→aw9 c (fun σ'=>op.run ea σ'=some (v,σ')) (some none):=by
   intro hb;refine⟨hself,fun σ' hσ=>bd4 hl h fun b hbb=> ?_⟩;obtain⟨y,h1,h2⟩:=hb b hbb;rw[hσ b y h1 h2,h1]
  cases xv<;>simp only[cq3,ua]<;>try exact trivial
  case ptr q o=>
   refine blkcase q rfl fun b hb hdm=> ?_
   cases hx with
   |ptr hk ho hd=>
    cases hdd:(bn c.S q).dim with
    |none=>exact(hdm hdd).elim
    |some d=>
     obtain⟨b',h1,h2⟩:=hd d hdd;rw[h2]at hb;injection hb with hb
     subst hb;exact h1
  case it q l=>
   refine blkcase q rfl fun b hb hdm=> ?_
   obtain⟨s,_,hd⟩:=hx.it_inv;cases hdd:(bn c.S q).dim with
   |none=>exact(hdm hdd).elim
   |some d=>
    obtain⟨b',h1,h2⟩:=hd d hdd;rw[h2]at hb;cases hb
  case bld q=>
   refine blkcase q rfl fun b hb hdm=> ?_
   cases hx with
   |bld _ _ hd=>
   cases hdd:(bn c.S q).dim with
   |none=>exact(hdm hdd).elim
   |some d=>
    obtain⟨b',h1,h2⟩:=hd d hdd;rw[h2]at hb;cases hb
  case pix q o n i=>
   refine blkcase q rfl fun b hb hdm=> ?_
   cases hx with
   |pix hk ho hi hd=>
    cases hdd:(bn c.S q).dim with
    |none=>exact(hdm hdd).elim
    |some d=>
     obtain⟨b',h1,h2⟩:=hd d hdd;rw[h2]at hb;injection hb with hb
     subst hb;exact h1
  case pel q i o=>
   refine blkcase q rfl fun b hb hdm=> ?_
   cases hx with
   |pel hk ho hd=>
    cases hdd:(bn c.S q).dim with
    |none=>exact(hdm hdd).elim
    |some d=>
     obtain⟨b',h1,h2⟩:=hd d hdd;rw[h2]at hb;injection hb with hb
     subst hb;exact h1
  case full q=>
   refine blkcase q rfl fun b hb hdm=> ?_
   cases hx with
   |full hk ho hd=>
    cases hdd:(bn c.S q).dim with
    |none=>exact(hdm hdd).elim
    |some d=>
     obtain⟨n,_,h2⟩:=hd d hdd;rcases h2 with⟨h2,_⟩|⟨b',cp,yb,h2,h3,_⟩
     ·rw[h2]at hb;cases hb
     ·rw[h2]at hb;injection hb with hb
      subst hb;exact h3
  case part q lo n=>
   refine blkcase q rfl fun b hb hdm=> ?_
   cases hx with
   |part hk ho hd=>
    cases hdd:(bn c.S q).dim with
    |none=>exact(hdm hdd).elim
    |some d=>
     rcases hd d hdd with⟨h2,_⟩|⟨b',cp,yb,h2,h3,_⟩
     ·rw[h2]at hb;cases hb
     ·rw[h2]at hb;injection hb with hb
      subst hb;exact h3
  case pin s x o=>
   refine novalue fun b hb=> ?_
   generalize ea.ev (ai5 op)=xa at*;cases hx with
   |pin hn hy hl hf=>
    injection hb with hb
    subst hb;exact⟨_,hy,hn⟩
  case lst s l=>
   generalize hxa:ea.ev (ai5 op)=xa at*;cases hx with
   |lstn hq=>
    refine⟨hself,fun σ' hσ=> ?_⟩;have:=cu1 hl hxa h;exact this σ'
   |lst hn hy _ _ _ _ _=>
    refine novalue fun b hb=> ?_
    injection hb with hb
    subst hb;exact⟨_,hy,hn⟩
  case nils=>
   refine novalue fun b hb=> ?_
   generalize ea.ev (ai5 op)=xa at*;cases hx;cases hb
 cases op<;>first|(cases hl;done)|exact key
theorem ao8 {T:Ab.ia}{op:AOp}{e:dh}{σ:Hp}(hs:op.still=true){k:Value→Hp→Prop}:(match op.run e σ with
  |some (v,σ')=>k v σ'
  |none=>False)=ck T op e σ k:=by
 cases op<;>first|(cases hs;done)|rfl
theorem cj7 {it:SItem}{c:Ctx}{e:ej}{ea:dh}{chk:Chk}{ach:List (Nat×(Hp→Prop))}{k:Chk→ej→bu→Option β}(hR:fe c)(he:bz c e ea)(hc:ChkRel c ach chk)(h:aK4 tab it chk e c.S k=some y){Q:List (Nat×(Hp→Prop))→dh→Hp→Prop}
  (hQ: ∀c' ach' chk' e' ea',Le c c'→fe c'→ChkRel c' ach' chk'→bz c' e' ea'→k chk' e' c'.S=some y→Q ach' ea' c'.σ):
  if it.mover then ck (iw tab) it.o.op ea c.σ (fun v σ'=>vJ it.chks σ' ach∧Q ach (ea.putO it.o.dst v) σ')
  else match it.o.op.run ea c.σ with
   |some (v,_)=>Q (if it.keep then(it.idx,fun σ'=>it.o.op.run ea σ'=some (v,σ'))::ach else ach) (ea.putO it.o.dst v) c.σ
   |none=>False:=by
 unfold aK4 at h;cases hm:it.mover with
 |true=>
  rw[hm,zC]at h;rw[zE rfl];obtain⟨h1,h2⟩:=ca h;refine ol (cz tab) (fun v σ' hv=> ?_) (aE3 hR he h2);obtain⟨vv,c',h3,h4,h5,h6,h7,h8⟩:=hv;subst h3;have hn:=hc.next h4 h6
  exact⟨az3 hn h1,hQ c' ach _ _ _ h4 h5 hn ((he.frame h4).putO h7) h8⟩
 |false=>
  rw[hm,zD]at h;rw[zF (by decide)];obtain⟨h1,h2⟩:=ca h;rw[aD]at h1;have h3:=aE3 hR he h2;rw[←ao8 h1.1]at h3;cases hr:it.o.op.run ea c.σ with
  |none=>rw[hr]at h3;exact h3
  |some p=>
   obtain⟨v,σ1⟩:=p;rw[hr]at h3;obtain⟨vv,c',h4,h5,h6,h7,h8,h9⟩:=h3;simp only
   have hd:aE2 tab it.o.op e c.S=[]:=by
    have:=h1.1;cases hop:it.o.op<;>rw[hop]at this<;>first|(cases this;done)|rfl
   have hn:=hc.next h5 h7
   rw[hd,xe]at hn;have hσ1:σ1=c.σ:=aA1 h1.1 hr;rw[←hσ1,←h4];cases hk:it.keep with
   |false=>
    rw[hk,zD]at h9;rw[zF (by decide)];exact hQ c' ach chk _ _ h5 h6 hn ((he.frame h5).putO h8) h9
   |true=>
    rw[hk,zC]at h9;rw[zE rfl];have hld:it.o.op.isLoad=true:=by have:=h1.2;rw[hk]at this;simpa using this
    have hkp:=bo1 hR he hld hr;have hn2:=(ChkRel.cons (i:=it.idx) hkp hc).next h5 h7
    rw[hd,xe]at hn2;exact hQ c' _ _ _ _ h5 h6 hn2 ((he.frame h5).putO h8) h9
end
structure LeV (c c':Ctx):Prop where
 len:c.S.length≤c'.S.length
 al: ∀k d,k<c.S.length→(bn c'.S k).dim=some d→(bn c.S k).dim=some d∧c'.μ k=c.μ k
 ln: ∀k d b y,k<c.S.length→(bn c'.S k).dim=some d→c.μ k=some b→c.σ.m b=some y→∃y',c'.σ.m b=some y'∧y'.cells.length=y.cells.length
 rd: ∀b y,c.σ.m b=some y→¬c.mut b→c'.σ.m b=some y∧¬c'.mut b
theorem SlR.frameV {c c':Ctx}(h:LeV c c'){k lo n:Nat}{d:Nat×Nat}{a:Value}(hk:k<c.S.length)(hd:(bn c'.S k).dim=some d)(hs:SlR c k lo n d a):SlR c' k lo n d a:=by
 obtain⟨h1,h2⟩:=h.al k d hk hd;rcases hs with⟨rfl,rfl,rfl,hm,hz⟩|⟨b,cp,y,rfl,hm,h3,h4,hy,h5⟩
 ·exact .inl ⟨rfl,rfl,rfl,h2.trans hm,hz⟩
 ·obtain⟨y',hy',hl⟩:=h.ln k d b y hk hd hm hy;exact .inr ⟨b,cp,y',rfl,h2.trans hm,h3,h4,hy',by rw[hl];exact h5⟩
theorem VRel.frameV {c c':Ctx}(h:LeV c c'): ∀{v:VV} {a:Value},VRel c v a→VRel c' v a
 |_,_, .undef a=> .undef a
 |_,_, .bool b=> .bool b
 |_,_, .int k n=> .int k n
 |_,_, .str hs=> .str hs
 |_,_, .nilp=> .nilp
 |_,_, .nils=> .nils
 |_,_, .nilf=> .nilf
 |_,_, .ptr hk h1 hd=> .ptr (bD hk h.len) h1 fun d hd'=>by
  obtain⟨h1,h2⟩:=h.al _ d hk hd';obtain⟨b,h3,h4⟩:=hd d h1;exact⟨b,h2.trans h3,h4⟩
 |_,_, .it hk h1 hs hd=> .it (bD hk h.len) h1 hs fun d hd'=>by
  obtain⟨h1,h2⟩:=h.al _ d hk hd';obtain⟨b,h3,h4⟩:=hd d h1;exact⟨b,h2.trans h3,h4⟩
 |_,_, .bld hk h1 hd=> .bld (bD hk h.len) h1 fun d hd'=>by
  obtain⟨h1,h2⟩:=h.al _ d hk hd';obtain⟨b,h3,h4⟩:=hd d h1;exact⟨b,h2.trans h3,h4⟩
 |_,_, .pix hk h1 hi hd=> .pix (bD hk h.len) h1 hi fun d hd'=>by
  obtain⟨h1,h2⟩:=h.al _ d hk hd';obtain⟨b,h3,h4⟩:=hd d h1;exact⟨b,h2.trans h3,h4⟩
 |_,_, .pel hk h1 hd=> .pel (bD hk h.len) h1 fun d hd'=>by
  obtain⟨h1,h2⟩:=h.al _ d hk hd';obtain⟨b,h3,h4⟩:=hd d h1;exact⟨b,h2.trans h3,h4⟩
 |_,_, .pin hn hy hl hf=> .pin (h.rd _ _ hy hn).2 (h.rd _ _ hy hn).1 hl (go hf)
 |_,_, .lstn hq=> .lstn hq
 |_,_, .tgtn hq=> .tgtn hq
 |_,_, .tgt hn hy he h3 hf=> .tgt (h.rd _ _ hy hn).2 (h.rd _ _ hy hn).1 he h3 (go hf)
 |_,_, .lst hn hy he h1 h2 h3 hf=> .lst (h.rd _ _ hy hn).2 (h.rd _ _ hy hn).1 he h1 h2 h3 (go hf)
 |_,_, .full hk h1 hd=> .full (bD hk h.len) h1 fun d hd'=>by
  obtain⟨h1,h2⟩:=h.al _ d hk hd';obtain⟨n,h3,h4⟩:=hd d h1;exact⟨n,h3,h4.frameV h hk hd'⟩
 |_,_, .part hk h1 hd=> .part (bD hk h.len) h1 fun d hd'=>by
  obtain⟨h1,h2⟩:=h.al _ d hk hd';exact(hd d h1).frameV h hk hd'
 |_,_, .fn h1 h2=> .fn (go h1) (go h2)
 |_,_, .agg h1=> .agg (go h1)
 |_,_, .tup h1=> .tup (go h1)
where
 go: ∀{l:List VV} {m:List Value},F2 (VRel c) l m→F2 (VRel c') l m
  |_,_, .nil=> .nil
  |_,_, .cons h1 h2=> .cons (VRel.frameV h h1) (go h2)
theorem VRel.framesV {c c':Ctx}(h:LeV c c'){l:List VV}{m:List Value}(hf:F2 (VRel c) l m):F2 (VRel c') l m:=hf.imp fun _ _ hv=>hv.frameV h
theorem bz.frameV {c c':Ctx}{e:ej}{ea:dh}(h:bz c e ea)(hl:LeV c c'):bz c' e ea:=fun t=>(h t).frameV hl
def qH (op:AOp)(ea:dh)(x:Ab.Blk)(vf:Nat→Value):Prop:= ∀σ:Hp,op.run ea σ=some (vf σ.n,σ.add x)
theorem qH.unique {op:AOp}{ea:dh}{x x':Ab.Blk}{vf vf':Nat→Value}(h:qH op ea x vf)(h':qH op ea x' vf'):x=x'∧vf=vf':=by
 have key: ∀n,vf n=vf' n∧x=x':=by
  intro n;have h1:=h ⟨fun _=>none,n⟩;rw[h' ⟨fun _=>none,n⟩]at h1;injection h1 with h1
  injection h1 with h1 h2
  refine⟨h1.symm, ?_⟩;have h3:=congrArg (fun s:Hp=>s.m n) h2;simp only[Hp.add,if_true]at h3;injection h3 with h3
  exact h3.symm
 exact⟨(key 0).2,funext fun n=>(key n).1⟩
theorem bC6 {ea ea':dh}{x:Operand}(h: ∀t∈bO6 x,ea' t=ea t):ea'.ev x=ea.ev x:=by
 cases x with
 |tmp t=>exact h t (by simp[bO6])
 |_=>rfl
theorem qH.same {op:AOp}{ea ea':dh}{x:Ab.Blk}{vf:Nat→Value}(h:qH op ea x vf)(hf:wQ op=true)(he: ∀t∈xO op,ea' t=ea t):qH op ea' x vf:=by
 intro σ;have h1:=h σ;cases op<;>first|(cases hf;done)|skip
 case alloc es z=>exact h1
 case makeSlice es bytes z l m=>
  have e1:ea'.ev l=ea.ev l:=bC6 fun t ht=>he t (by simp[xO,ht])
  have e2:ea'.ev m=ea.ev m:=bC6 fun t ht=>he t (by simp[xO,ht])
  simp only[AOp.run]at h1⊢;rw[e1,e2];exact h1
 case buildSlice es ln z ps=>
  have e1:(ps.map fun(o,s,x)=>(o,s,ea'.ev x))=ps.map fun(o,s,x)=>(o,s,ea.ev x):=by
   apply fB;rintro⟨o,s,x⟩ hx;simp only;rw[bC6 fun t ht=>he t (List.mem_flatMap.2 ⟨_,hx,ht⟩)]
  simp only[AOp.run]at h1⊢;rw[e1];exact h1
theorem bg5 {c c':Ctx}: ∀{l:List VV} {m:List Value},l.all cg6=true→F2 (VRel c) l m→F2 (VRel c') l m
 |_,_,_, .nil=> .nil
 |v::l,_,h, .cons h1 h2=>by
  rw[List.all_cons,aD]at h;refine .cons ?_ (bg5 h.2 h2);cases h1<;>first|(cases h.1;done)|skip
  ·exact .bool _
  ·exact .int _ _
  ·exact .str (by assumption)
structure FreshFact (op:AOp)(ea:dh)(blk:Blk)(w:Bool)(x:Ab.Blk)(vf:Nat→Value):Prop where
 run:qH op ea x vf
 fz:blk.frozen=false
 dm: ∃dm cs rest,blk.dim=some dm∧1≤dm.1∧x.es=dm.1∧x.own=true∧x.cells=cs++rest∧∀c':Ctx,F2 (VRel c') blk.vals cs
 vv: ∀(c':Ctx) (k b:Nat),k<c'.S.length→bn c'.S k=blk→c'.μ k=some b→c'.σ.m b=some x→VRel c' (vvF w k) (vf b)
theorem ay3 {β:Type}{c:Ctx}{e:ej}{ea:dh}{op:AOp}{k:Blk→Bool→Option β}{y:β}(he:bz c e ea)(h:ac6 op e k=some y):wQ op=true∧∃blk w x vf,k blk w=some y∧FreshFact op ea blk w x vf:=by
 cases op<;>simp only[ac6]at h<;>first|(cases h;done)|skip
 case alloc es z=>
  obtain⟨h1,h2⟩:=ca h;have h1:=dD h1;refine⟨rfl,_,_,⟨z,true,es⟩,fun n=> .pointer (some ⟨n,0,none⟩),h2,⟨fun σ=>rfl,(vA es z).2.1,⟨(es,z.length),z,[],(vA es z).1,h1,rfl,rfl,by simp,fun c'=>(vA es z).2.2 c'⟩,fun c' k b hk hs hm hy=> ?_⟩⟩;refine .ptr hk rfl fun d hd=>⟨b,hm,rfl⟩
 case makeSlice es bytes z l m=>
  have hl:=cm he l;have hm:=cm he m;split at h
  ·rename_i k1 a k2 b s h1 h2 hs;rw[h1]at hl;rw[h2]at hm;obtain⟨hg,hk⟩:=ca h;simp only[aD]at hg;obtain⟨⟨⟨⟨g1,g2⟩,g3⟩,g4⟩,g5⟩:=hg;have g1:=bB g1;have g2:=of_decide_eq_true g2;have g3:=of_decide_eq_true g3;have g4:=of_decide_eq_true g4;have g5:=dD g5;have hz: ∀c':Ctx,F2 (VRel c') (er s (sK s)) z:=fun c'=>yY (c:=c') hs
   have hzl:z.length=s.w:=by rw[←(hz c).length,et]
   have hb:b≤bytes*b:=by
    have:(1:Int)*b≤bytes*b:=Int.mul_le_mul_of_nonneg_right (by omega) (by omega);omega
   refine⟨rfl,_,_,⟨fd z b.toNat,true,es⟩,fun n=> .slice (some ⟨n,0,none⟩) a.toNat b.toNat,hk,⟨fun σ=> ?_,rfl,⟨(s.w,(List.replicate a.toNat (sK s)).length*s.w),fd z a.toNat,fd z (b.toNat-a.toNat),rfl,nF s,g1,rfl, ?_,fun c'=> ?_⟩,fun c' k q hk hs' hm' hy=> ?_⟩⟩
   ·simp only[AOp.run,hl.int_inv,hm.int_inv];rw[zE ⟨g2,g3,by omega,by omega⟩]
   ·show fd z b.toNat=_;rw[←bs9]
    congr 1
    omega
   ·show F2 (VRel c') (gb s (List.replicate a.toNat (sK s))) (fd z a.toNat);rw[qJ];generalize a.toNat=n;induction n with
    |zero=>exact .nil
    |succ n ih=>
     simp only[fd,List.replicate_succ,List.flatten_cons]at ih⊢;exact(hz c').append ih
   ·refine .full hk rfl fun d hd=> ?_
    rw[hs']at hd;injection hd with hd
    subst hd;refine⟨a.toNat,by simp, .inr ⟨q,b.toNat,_,by simp,hm',by simp,by omega,hy, ?_⟩⟩;rw[Nat.zero_add];show b.toNat*s.w≤(fd z b.toNat).length;rw[bt0,hzl];exact eD _
  ·cases h
 case buildSlice es ln z ps=>
  split at h
  ·rename_i cs hf;obtain⟨h1,h2⟩:=ca h;simp only[aD]at h1;obtain⟨⟨⟨⟨g1,g2⟩,g3⟩,g4⟩,g5⟩:=h1;have g2:=bB g2;have g3:=dD g3;obtain⟨ra,h3,h4⟩:=vF he ps hf (aN1 ln z);refine⟨g5,_,_,⟨ra,true,es⟩,fun n=> .slice (some ⟨n,0,none⟩) ln ln,h2,⟨fun σ=> ?_,rfl,⟨(es,cs.length),ra,[],rfl,g3,rfl,rfl,by simp,fun c'=>bg5 g4 h4⟩,fun c' k q hk hs' hm' hy=> ?_⟩⟩
   ·simp only[AOp.run,h3];rw[zE (lG h4 g1)]
   ·refine .full hk rfl fun d hd=> ?_
    rw[hs']at hd;injection hd with hd
    subst hd;refine⟨ln,g2, .inr ⟨q,ln,_,by simp,hm',by simp[g2],eD _,hy, ?_⟩⟩;rw[Nat.zero_add];show ln*es≤ra.length;rw[←h4.length];exact Nat.le_of_eq g2
  ·cases h
theorem pP {i q:Nat}: ∀{l:List Nat},l.Nodup→(q∈av7 i l↔q∈l∧q≠i)
 |[],_=>by simp[av7]
 |a::r,h=>by
  obtain⟨h1,h2⟩:=List.nodup_cons.1 h;simp only[av7];cases hb:aB a i with
  |true=>
   have:=bB hb;subst this;rw[zC];constructor
   ·intro hq;exact⟨cB _ hq,fun e=>h1 (e▸hq)⟩
   ·rintro⟨hq,hn⟩;rcases List.mem_cons.1 hq with rfl|hq
    ·exact(hn rfl).elim
    ·exact hq
  |false=>
   have hne:a≠i:=fun e=>by subst e;rw[dB]at hb;cases hb
   rw[zD,List.mem_cons,List.mem_cons,pP h2];constructor
   ·rintro(rfl|⟨h3,h4⟩)
    ·exact⟨.inl rfl,hne⟩
    ·exact⟨.inr h3,h4⟩
   ·rintro⟨rfl|h3,h4⟩
    ·exact .inl rfl
    ·exact .inr ⟨h3,h4⟩
theorem aP5 {i:Nat}: ∀{l:List Nat},l.Nodup→(av7 i l).Nodup
 |[],h=>h
 |a::r,h=>by
  obtain⟨h1,h2⟩:=List.nodup_cons.1 h;simp only[av7];cases hb:aB a i with
  |true=>exact h2
  |false=>
   rw[zD,List.nodup_cons];exact⟨fun hq=>h1 ((pP h2).1 hq).1,aP5 h2⟩
section
variable {tab:Tab} {ops:List (AOper×List Nat)}
structure InvL (ops:List (AOper×List Nat))(c0 c:Ctx)(e:ej)(ea:dh)(ach:List (Nat×(Hp→Prop)))(chk:Chk)(P ls nd:List Nat)(r:List LItem)(pd:Nat→Nat):Prop where
 le:Le c0 ⟨c.μ,c.S,c.σ,c0.fb⟩
 R:fe c
 E:bz c e ea
 K:ChkRel c ach chk
 ks:ach.map (·.1)=ls
 nd:mH nd chk=true
 fb: ∀b,c.fb b↔(c0.fb b∨∃q∈P,pd q=b)
 nod:P.Nodup
 inj: ∀q q',q∈P→q'∈P→pd q=pd q'→q=q'
 new: ∀q∈P,c0.σ.n≤pd q
 pend: ∀q∈P,wQ (dv ops q).op=true∧∃x vf,qH (dv ops q).op ea x vf∧c.σ.m (pd q)=some x∧∀t,(dv ops q).dst=some t→ea t=vf (pd q)
 und: ∀it∈r,aB it.kind 2=true→∀t,(dv ops it.i).dst=some t→mS e t= .undef
 ds:bp1 ops r=true
theorem aw9.frameV {c c':Ctx}{p:Hp→Prop}(hR:fe c)(hl:LeV c c')(hS: ∀q,q<c.S.length→bn c'.S q=bn c.S q)(hmu: ∀q,q<c.S.length→c'.μ q=c.μ q)(hσ: ∀b y,c.σ.m b=some y→c'.σ.m b=some y): ∀{s:Option (Option Nat)},aw9 c p s→aw9 c' p s
 |none,_=>trivial
 |some none,h=>by
  refine⟨h.2 _ fun b y hy _=>hσ b y hy,fun σ' hσ'=>h.2 σ' fun b y hy hn=> ?_⟩;obtain⟨h1,h2⟩:=hl.rd b y hy hn;exact hσ' b y h1 h2
 |some (some q),h=>by
  obtain⟨h1,h2,h3⟩:=h;have hq:=ng h1
  have hb: ∀b,c.μ q=some b→c'.σ.m b=c.σ.m b:=by
   intro b hb;cases hd:(bn c.S q).dim with
   |none=>exact(h1 hd).elim
   |some d=>
    obtain⟨_,h4⟩:=hR.blk q d hd;rcases h4 with⟨_,h4⟩|⟨b',y,cs,rest,h4,h5,_⟩
    ·rw[hb]at h4;cases h4
    ·rw[hb]at h4;injection h4 with h4
     subst h4;rw[h5];exact hσ _ _ h5
  exact⟨by rw[hS q hq];exact h1,h3 _ hb,fun σ' hs=>h3 σ' fun b hb'=>(hs b (by rw[hmu q hq];exact hb')).trans (hb b hb')⟩
theorem ChkRel.frameV {c c':Ctx}(hR:fe c)(hl:LeV c c')(hS: ∀q,q<c.S.length→bn c'.S q=bn c.S q)(hmu: ∀q,q<c.S.length→c'.μ q=c.μ q)(hσ: ∀b y,c.σ.m b=some y→c'.σ.m b=some y): ∀{l:List (Nat×(Hp→Prop))} {m:Chk},ChkRel c l m→ChkRel c' l m
 |_,_, .nil=> .nil
 |_,_, .cons h1 h2=> .cons (h1.frameV hR hl hS hmu hσ) (h2.frameV hR hl hS hmu hσ)
theorem wR {c:Ctx}{m:Nat}{is:List Nat}: ∀{l:List (Nat×(Hp→Prop))} {chk:Chk},ChkRel c l chk→mH is chk=true→(∀i∈l.map (·.1),uF ops i m=true∨mW i is=true)→ag3 ops m c.σ l
 |_,_, .nil,_,_=>trivial
 |_,_, .cons (i:=i) (s:=s) h1 h2,h,hb=>by
  simp only[mH]at h;simp only[ag3];have hrest:mH is _=true→ag3 ops m c.σ _:=fun h3=>wR h2 h3 fun j hj=>hb j (by simp only[List.map_cons];exact cB _ hj)
  cases hbf:uF ops i m with
  |true=>
   rw[zE rfl];cases hm:mW i is with
   |false=>rw[hm,zD]at h;exact hrest h
   |true=>
    rw[hm,zC]at h;cases s with
    |none=>cases h
    |some s=>exact hrest h
  |false=>
   rw[zF (by decide)];rcases hb i (by simp)with h3|h3
   ·rw[hbf]at h3;cases h3
   ·rw[h3,zC]at h;cases s with
    |none=>cases h
    |some s=>exact⟨h1.now,hrest h⟩
theorem ce4 {β:Type}{c0 c:Ctx}{e:ej}{ea:dh}{ach:List (Nat×(Hp→Prop))}{chk:Chk}{P ls nd:List Nat}{it:LItem}{r:List LItem}{pd:Nat→Nat}{k:ej→bu→Option β}{y:β}(h0:fe c0)
  (hI:InvL ops c0 c e ea ach chk P ls nd (it::r) pd) (hk:aB it.kind 2=true) (hP:it.i∈P) (h:evL tab ops (it::r) chk e c.S k=some y):
  ∃c' e',c'.σ=c.σ∧InvL ops c0 c' e' ea ach chk (av7 it.i P) ls nd r pd∧evL tab ops r chk e' c'.S k=some y:=by
 have hk3:aB it.kind 3=false:=by rw[bB hk];rfl
 simp only[evL,hk,hk3,zC,zD]at h;obtain⟨hfb,blk,w,x',vf',h1,h2⟩:=ay3 hI.E h;obtain⟨_,x,vf,h3,h4,h5⟩:=hI.pend _ hP;obtain⟨ex,ef⟩:=h2.run.unique h3;subst ex;subst ef;obtain⟨dm,cs,rest,d1,d2,d3,d4,d5,d6⟩:=h2.dm;have hlen:(c.S++[blk]).length=c.S.length+1:=by simp
 have hds:=hI.ds;simp only[bp1,aD]at hds
 let b:=pd it.i
 let c':Ctx:=⟨fun q=>if q=c.S.length then some b else c.μ q,c.S++[blk],c.σ,fun q=>c0.fb q∨∃j∈av7 it.i P,pd j=q⟩
 have hfbb:c.fb b:=(hI.fb b).2 (.inr ⟨it.i,hP,rfl⟩);have hS: ∀q,q<c.S.length→bn c'.S q=bn c.S q:=fun q hq=>nD hq
 have hmu: ∀q,q<c.S.length→c'.μ q=c.μ q:=fun q hq=>zF (Nat.ne_of_lt hq)
 have hnewS:bn c'.S c.S.length=blk:=bR9;have hnewmu:c'.μ c.S.length=some b:=zE rfl
 have hfb': ∀q,c'.fb q→c.fb q:=by
  rintro q (hq|⟨j,hj,rfl⟩)
  ·exact(hI.fb q).2 (.inl hq)
  ·exact(hI.fb _).2 (.inr ⟨j,((pP hI.nod).1 hj).1,rfl⟩)
 have hbnot: ¬c'.fb b:=by
  rintro(hq|⟨j,hj,hjb⟩)
  ·have:=h0.fbl _ hq;have:=hI.new _ hP;omega
  ·obtain⟨hj1,hj2⟩:=(pP hI.nod).1 hj;exact hj2 (hI.inj _ _ hj1 hP hjb)
 have hown: ∀q,c'.own q→c.own q∨q=b:=by
  rintro q ⟨j,hj1,hj2⟩;by_cases hj:j<c.S.length
  ·rw[hS j hj]at hj1;rw[hmu j hj]at hj2;exact .inl ⟨j,hj1,hj2⟩
  ·by_cases hj3:j=c.S.length
   ·subst hj3;rw[hnewmu]at hj2;injection hj2 with hj2
    exact .inr hj2.symm
   ·rw[uk (by show c'.S.length≤j;rw[hlen];omega)]at hj1;cases hj1
 have hV:LeV c c':=by
  refine⟨by rw[hlen];omega,fun q d hq hd=> ?_,fun q d b' y' hq hd hm hy=>⟨y',hy,rfl⟩,fun b' y' hy hn=>⟨hy,fun hm=> ?_⟩⟩
  ·rw[hS q hq]at hd;exact⟨hd,hmu q hq⟩
  ·rcases hm with hm|hm
   ·rcases hown b' hm with hm|hm
    ·exact hn (.inl hm)
    ·subst hm;exact hn (.inr hfbb)
   ·exact hn (.inr (hfb' _ hm))
 have hR':fe c':=by
  refine⟨hI.R.ok,fun q q' b' hq hq' hm hm'=> ?_,fun q d hd=> ?_,fun q b' hd hm=> ?_,fun b' hb'=>hI.R.fbl _ (hfb' _ hb')⟩
  ·have cases3: ∀j,(bn c'.S j).dim≠none→j<c.S.length∨j=c.S.length:=by
    intro j hj;have:=ng hj;rw[hlen]at this;omega
   rcases cases3 q (mR hq)with h6|h6
   ·rcases cases3 q' hq' with h7|h7
    ·rw[hS q h6]at hq;rw[hS q' h7]at hq';rw[hmu q h6]at hm;rw[hmu q' h7]at hm';exact hI.R.inj q q' b' hq hq' hm hm'
    ·subst h7;rw[hnewmu]at hm';injection hm' with hm'
     subst hm';rw[hmu q h6]at hm;rw[hS q h6]at hq;exact(hI.R.fbk q _ (mR hq) hm hfbb).elim
   ·rcases cases3 q' hq' with h7|h7
    ·subst h6;rw[hnewmu]at hm;injection hm with hm
     subst hm;rw[hmu q' h7]at hm';rw[hS q' h7]at hq';exact(hI.R.fbk q' _ hq' hm' hfbb).elim
    ·rw[h6,h7]
  ·by_cases hq:q<c.S.length
   ·rw[hS q hq]at hd⊢;obtain⟨h6,h7⟩:=hI.R.blk q d hd;refine⟨h6, ?_⟩;rcases h7 with⟨h7,h8⟩|⟨b',y',cs',rest',h7,h8,h9,h10,h11,h12⟩
    ·exact .inl ⟨h7,by rw[hmu q hq];exact h8⟩
    ·exact .inr ⟨b',y',cs',rest',by rw[hmu q hq];exact h7,h8,h9,h10,h11,VRel.framesV hV h12⟩
   ·by_cases hq2:q=c.S.length
    ·subst hq2;rw[hnewS]at hd⊢;rw[d1]at hd;injection hd with hd
     subst hd;exact⟨d2, .inr ⟨b,x',cs,rest,hnewmu,h4,d3,fun _=>d4,d5,d6 c'⟩⟩
    ·rw[uk (by show c'.S.length≤q;rw[hlen];omega)]at hd;cases hd
  ·by_cases hq:q<c.S.length
   ·rw[hS q hq]at hd;rw[hmu q hq]at hm;exact fun hf=>hI.R.fbk q b' hd hm (hfb' _ hf)
   ·have:=ng hd;rw[hlen]at this;have hq2:q=c.S.length:=by omega
    subst hq2;rw[hnewmu]at hm;injection hm with hm
    subst hm;exact hbnot
 have hvv:VRel c' (vvF w c.S.length) (vf' b):=h2.vv c' c.S.length b (by rw[hlen];omega) hnewS hnewmu h4
 have hE':bz c' (putO e (dv ops it.i).dst (vvF w c.S.length)) ea:=by
  have hE:=hI.E.frameV hV;cases hd:(dv ops it.i).dst with
  |none=>exact hE
  |some t=>
   intro t';show VRel c' (mS (pR e t _) t') (ea t');rw[ud];by_cases ht:t'=t
   ·subst ht;rw[zE rfl,h5 _ hd];exact hvv
   ·rw[zF ht];exact hE t'
 refine⟨c',_,rfl,⟨?_,hR',hE',hI.K.frameV hI.R hV hS hmu (fun _ _ hy=>hy),hI.ks,hI.nd,fun q=>Iff.rfl,aP5 hI.nod,fun q q' hq hq'=>hI.inj q q' ((pP hI.nod).1 hq).1 ((pP hI.nod).1 hq').1,fun q hq=>hI.new q ((pP hI.nod).1 hq).1,fun q hq=>hI.pend q ((pP hI.nod).1 hq).1, ?_,hds.2⟩,h1⟩
 ·have hle:=hI.le;refine⟨Nat.le_trans hle.len (by show c.S.length≤c'.S.length;rw[hlen];omega),fun q d hq hd=> ?_,fun q hf hd=> ?_,fun q d b' y' hq hd hm hy=> ?_,fun b' y' hy hn=>hle.un b' y' hy hn,fun b' y' hy hn ho=> ?_,hle.n,rfl⟩
  ·have hq':q<c.S.length:=bD hq hle.len;have:=hS q hq';rw[show(⟨c'.μ,c'.S,c'.σ,c0.fb⟩:Ctx).S=c'.S from rfl,this]at hd;obtain⟨h6,h7⟩:=hle.al q d hq hd;exact⟨h6,(hmu q hq').trans h7⟩
  ·have hq':q<c.S.length:=bD (ng hd) hle.len;exact(hS q hq').trans (hle.fz q hf hd)
  ·have hq':q<c.S.length:=bD hq hle.len;have:=hS q hq';rw[show(⟨c'.μ,c'.S,c'.σ,c0.fb⟩:Ctx).S=c'.S from rfl,this]at hd;exact hle.ln q d b' y' hq hd hm hy
  ·have ho':c'.own b':=ho;rcases hown b' ho' with ho2|ho2
   ·exact hle.ow b' y' hy hn ho2
   ·subst ho2;have:=h0.ok _ _ hy;have:=hI.new _ hP;omega
 ·intro it' hit' hk' t ht;have hu:=hI.und it' (cB _ hit') hk' t ht;cases hd:(dv ops it.i).dst with
  |none=>exact hu
  |some t'=>
   show mS (pR e t' _) t=_;rw[ud];by_cases htt:t=t'
   ·subst htt;have:=List.all_eq_true.1 hds.1 it' hit';rw[hk,hk']at this;simp only[Bool.not_true,Bool.false_or,neO,hd,ht,dB]at this;cases this
   ·rw[zF htt];exact hu
theorem bP5 {β:Type}{c0 c:Ctx}{e:ej}{ea:dh}{ach:List (Nat×(Hp→Prop))}{chk:Chk}{P ls nd:List Nat}{it:LItem}{r:List LItem}{pd:Nat→Nat}{k:ej→bu→Option β}{y:β}
  (hI:InvL ops c0 c e ea ach chk P ls nd (it::r) pd) (hk:aB it.kind 3=true) (h:evL tab ops (it::r) chk e c.S k=some y):
  InvL ops c0 c e ea ach chk P ls nd r pd∧evL tab ops r chk e c.S k=some y:=by
 simp only[evL,hk,zC]at h;obtain⟨_,_,_,_,_,h1,_⟩:=ay3 hI.E h;have hds:=hI.ds;simp only[bp1,aD]at hds;exact⟨⟨hI.le,hI.R,hI.E,hI.K,hI.ks,hI.nd,hI.fb,hI.nod,hI.inj,hI.new,hI.pend,fun j hj hk t ht=>hI.und j (cB _ hj) hk t ht,hds.2⟩,h1⟩
theorem aH6 {β:Type}{c0:Ctx}{ea:dh}{ach:List (Nat×(Hp→Prop))}{chk:Chk}{ls nd:List Nat}{pd:Nat→Nat}{k:ej→bu→Option β}{y:β}{i:Nat}(h0:fe c0): ∀(r:List LItem) {P P':List Nat} {it:LItem} {r':List LItem} {c:Ctx} {e:ej},ae6 r P i=some (P',it,r')→
  InvL ops c0 c e ea ach chk P ls nd r pd→evL tab ops r chk e c.S k=some y→
  ∃c' e',c'.σ=c.σ∧InvL ops c0 c' e' ea ach chk P' ls nd (it::r') pd∧evL tab ops (it::r') chk e' c'.S k=some y∧aB it.kind 2=false∧it.i=i∧∀q∈P',q∈P
 |[],P,P',it,r',c,e,h,_,_=>by cases h
 |a::r,P,P',it,r',c,e,h,hI,hv=>by
  simp only[ae6]at h;cases hk3:aB a.kind 3 with
  |true=>
   rw[hk3,zC]at h;obtain⟨h1,h2⟩:=bP5 hI hk3 hv;exact aH6 h0 r h h1 h2
  |false=>
  rw[hk3,zD]at h;cases hk:aB a.kind 2 with
  |false=>
   rw[hk,zD]at h;cases hi:aB a.i i with
   |false=>rw[hi]at h;cases h
   |true=>
    rw[hi,zC]at h;injection h with h
    injection h with h1 h
    injection h with h2 h3
    subst h1;subst h2;subst h3;exact⟨c,e,rfl,hI,hv,hk,bB hi,fun q hq=>hq⟩
  |true=>
   rw[hk,zC]at h;cases hm:mW a.i P with
   |false=>rw[hm]at h;cases h
   |true=>
    rw[hm,zC]at h;obtain⟨c1,e1,h1,h2,h3⟩:=ce4 h0 hI hk (lJ.1 hm) hv;obtain⟨c2,e2,h4,h5,h6,h7,h8,h9⟩:=aH6 h0 r h h2 h3;exact⟨c2,e2,h4.trans h1,h5,h6,h7,h8,fun q hq=>((pP hI.nod).1 (h9 q hq)).1⟩
theorem bC7 {β:Type}{c0:Ctx}{ea:dh}{ach:List (Nat×(Hp→Prop))}{chk:Chk}{ls nd:List Nat}{pd:Nat→Nat}{k:ej→bu→Option β}{y:β}(h0:fe c0): ∀(r:List LItem) {P:List Nat} {c:Ctx} {e:ej},bX4 r P=true→
  InvL ops c0 c e ea ach chk P ls nd r pd→evL tab ops r chk e c.S k=some y→rb c0 k y ea c.σ
 |[],P,c,e,h,hI,hv=>by
  have hP:P=[]:=by
   cases P with
   |nil=>rfl
   |cons a r=>simp[bX4]at h
  subst hP
  have hfb:c.fb=c0.fb:=by
   funext b
   refine propext ((hI.fb b).trans ⟨fun h=> ?_, .inl⟩);rcases h with h|⟨q,hq,_⟩
   ·exact h
   ·cases hq
  refine⟨e,c,rfl, ?_,hI.R,hI.E,hv⟩;have:=hI.le;rw[←hfb]at this;exact this
 |a::r,P,c,e,h,hI,hv=>by
  simp only[bX4]at h;cases hk3:aB a.kind 3 with
  |true=>
   rw[hk3,zC]at h;obtain⟨h1,h2⟩:=bP5 hI hk3 hv;exact bC7 h0 r h h1 h2
  |false=>
  rw[hk3,zD]at h;simp only[aD]at h;obtain⟨c1,e1,h1,h2,h3⟩:=ce4 h0 hI h.1.1 (lJ.1 h.1.2) hv;rw[←h1];exact bC7 h0 r h.2 h2 h3
theorem aU6 {β:Type}{c:Ctx}{ea:dh}{chk:Chk}{k:ej→bu→Option β}{y:β}{m:Nat}: ∀(r:List LItem) {e e':ej} {S:bu},bc5 ops r m=true→bz c e ea→(∀t∈xO (dv ops m).op,mS e' t=mS e t)→evL tab ops r chk e' S k=some y→∃x vf,wQ (dv ops m).op=true∧qH (dv ops m).op ea x vf
 |[],e,e',S,h,_,_,_=>by cases h
 |a::r,e,e',S,h,he,hu,hv=>by
  have huse: ∀(vv:VV),aF6 (dv ops a.i).dst (xO (dv ops m).op)=true→∀t∈xO (dv ops m).op,mS (putO e' (dv ops a.i).dst vv) t=mS e t:=by
   intro vv h1 t ht;rw[←hu t ht];cases hd:(dv ops a.i).dst with
   |none=>rfl
   |some t'=>
    show mS (pR e' t' _) t=_;rw[ud];by_cases htt:t=t'
    ·subst htt;rw[hd]at h1;simp only[aF6]at h1;rw[lJ.2 ht]at h1;cases h1
    ·rw[zF htt]
  have fresh_here: ∀{γ:Type} {k':Blk→Bool→Option γ} {z:γ},ac6 (dv ops m).op e' k'=some z→∃x vf,wQ (dv ops m).op=true∧qH (dv ops m).op ea x vf:=by
   intro γ k' z hv
   have hv':ac6 (dv ops m).op e k'=some z:=by
    cases hop:(dv ops m).op<;>rw[hop]at hv hu<;>simp only[ac6]at hv<;>first|(cases hv;done)|skip
    case alloc es z=>exact hv
    case makeSlice es bytes z l q=>
     have e1:ev e' l=ev e l:=by
      cases l with
      |tmp t=>exact hu t (by simp[xO,bO6])
      |_=>rfl
     have e2:ev e' q=ev e q:=by
      cases q with
      |tmp t=>exact hu t (by simp[xO,bO6])
      |_=>rfl
     rw[e1,e2]at hv;exact hv
    case buildSlice es ln z ps=>
     have e1:yr e' ps=yr e ps:=by
      unfold yr;apply fB;rintro⟨o,s,x⟩ hx;simp only
      have:ev e' x=ev e x:=by
       cases x with
       |tmp t=>exact hu t (List.mem_flatMap.2 ⟨_,hx,by simp[bO6]⟩)
       |_=>rfl
      rw[this]
     rw[e1]at hv;exact hv
   obtain⟨hf,blk,w,x,vf,_,h2⟩:=ay3 he hv';exact⟨x,vf,hf,h2.run⟩
  simp only[bc5]at h;cases hk3:aB a.kind 3 with
  |true=>
   rw[hk3,zC,cD]at h;simp only[evL,hk3,zC]at hv;rcases h with h|h
   ·rw[bB h]at hv;exact fresh_here hv
   ·have hnext:evL tab ops r chk e' S k=some y:=by
     cases hop:(dv ops a.i).op<;>rw[hop]at hv<;>simp only[ac6]at hv<;>first|(cases hv;done)|skip
     case alloc es z=>exact(ca hv).2
     case makeSlice es bytes z l q=>
      split at hv
      ·exact(ca hv).2
      ·cases hv
     case buildSlice es ln z ps=>
      split at hv
      ·exact(ca hv).2
      ·cases hv
    exact aU6 r h he hu hnext
  |false=>
  rw[hk3,zD]at h;simp only[cD,aD]at h;rcases h with⟨hk,h⟩|⟨⟨⟨hk,hmv⟩,h1⟩,h2⟩
  ·simp only[evL,hk,hk3,zC,zD]at hv;by_cases hi:a.i=m
   ·rw[hi]at hv;exact fresh_here hv
   ·rcases h with h|⟨h1,h2⟩
    ·exact(hi (bB h)).elim
    ·have hnext: ∃blk w,evL tab ops r chk (putO e' (dv ops a.i).dst (vvF w S.length)) (S++[blk]) k=some y:=by
      cases hop:(dv ops a.i).op<;>rw[hop]at hv<;>simp only[ac6]at hv<;>first|(cases hv;done)|skip
      case alloc es z=>exact⟨_,_,(ca hv).2⟩
      case makeSlice es bytes z l q=>
       split at hv
       ·exact⟨_,_,(ca hv).2⟩
       ·cases hv
      case buildSlice es ln z ps=>
       split at hv
       ·exact⟨_,_,(ca hv).2⟩
       ·cases hv
     obtain⟨blk,w,hv2⟩:=hnext;exact aU6 r h2 he (huse _ h1) hv2
  ·have hk2:aB a.kind 2=false:=by rw[bB hk];rfl
   have hk1:aB a.kind 1=false:=by rw[bB hk];rfl
   simp only[evL,hk2,hk1,hk3,zD]at hv;obtain⟨_,hv⟩:=ca hv;cases hop:(dv ops a.i).op<;>rw[hop]at hmv<;>first|(cases hmv;done)|skip
   case move x=>
    rw[hop]at hv;simp only[bb5,AOp.isLoad,zD]at hv;obtain⟨_,hv⟩:=ca hv;exact aU6 r h2 he (huse _ h1) hv
theorem cc9 {F:Nat→Prop}: ∀{l:List Nat},(∀m∈l,F m)→bm2 F l
 |[],_=>trivial
 |[m],h=>h m (by simp)
 |m::m'::r,h=>⟨h m (by simp),cc9 fun q hq=>h q (cB _ hq)⟩
theorem cE8 {D:List Nat}{i:Nat}(h:jV ops D=some i): ∃p,ops[i]?=some (dv ops i,p)∧(dv ops i).op.still=true:=by
 unfold jV at h;have h1:=List.find?_some h;simp only[aD]at h1;have h2:=h1.2;unfold ae4 at h2;unfold dv;split at h2
 ·rename_i o p ho;rw[ho];exact⟨p,rfl,h2⟩
 ·cases h2
theorem cu4 {D:List Nat}{m:Nat}(h:m∈ei ops D): ∃p,ops[m]?=some (dv ops m,p)∧(dv ops m).op.still=false:=by
 unfold ei at h;obtain⟨h1,h2⟩:=List.mem_filter.1 h;have h1:=List.mem_range.1 h1;simp only[aD]at h2;have h3:=h2.2;unfold ae4 at h3;unfold dv;rw[List.getElem?_eq_getElem h1]at h3⊢;exact⟨_,rfl,by simpa using h3⟩
theorem cf4 {self:Nat}{ex:Bool}{P:List Nat}{r:List LItem}(h:av8 ops self ex P r=true){q:Nat}(hq:q∈P):(∀t,(dv ops self).dst=some t→(dv ops q).dst≠some t)∧∀t,(dv ops self).dst=some t→t∉xO (dv ops q).op:=by
 simp only[av8,aD]at h;have h1:=List.all_eq_true.1 h.1 q hq;rw[aD]at h1;refine⟨fun t ht e=> ?_,fun t ht hu=> ?_⟩
 ·have:=h1.1;rw[ht,e]at this;simp only[neO,dB]at this;cases this
 ·have:=h1.2;rw[ht]at this;simp only[aF6]at this;rw[lJ.2 hu]at this;cases this
theorem cF4 {self:Nat}{ex:Bool}{P:List Nat}{r:List LItem}(h:av8 ops self ex P r=true){it:LItem}(hit:it∈r)(hk:aB it.kind 2=true)(hne:ex=true→it.i≠self){t:Nat}(ht:(dv ops self).dst=some t):(dv ops it.i).dst≠some t:=by
 simp only[av8,aD]at h;have h1:=List.all_eq_true.1 h.2 it hit
 have h2:(ex&&aB it.i self)=false:=by
  cases ex with
  |false=>rfl
  |true=>exact Bool.eq_false_iff.2 fun e=>hne rfl (bB e)
 rw[hk,h2]at h1;intro e;rw[ht,e]at h1;simp only[Bool.not_true,Bool.false_or,neO,dB]at h1;cases h1
theorem aG4 {ea:dh}{d:Option Nat}{v:Value}{t:Nat}(h: ∀t',d=some t'→t≠t'):(ea.putO d v) t=ea t:=by
 cases d with
 |none=>rfl
 |some t'=>exact zF (h t' rfl)
theorem cx2 {e:ej}{d:Option Nat}{v:VV}{t:Nat}(h: ∀t',d=some t'→t≠t'):mS (putO e d v) t=mS e t:=by
 cases d with
 |none=>rfl
 |some t'=>
  show mS (pR e t' v) t=_;rw[ud,zF (h t' rfl)]
theorem InvL.on {c0 c c':Ctx}{e:ej}{ea:dh}{ach ach':List (Nat×(Hp→Prop))}{chk chk':Chk}{P ls ls' nd nd':List Nat}{it:LItem}{r:List LItem}{pd:Nat→Nat}{i:Nat}{vv:VV}{v:Value}
  (hI:InvL ops c0 c e ea ach chk P ls nd (it::r) pd) (hd:av8 ops i false P r=true) (hl:Le c c') (hR:fe c') (hv:VRel c' vv v) (hK:ChkRel c' ach' chk') (hks:ach'.map (·.1)=ls') (hnd:mH nd' chk'=true):
  InvL ops c0 c' (putO e (dv ops i).dst vv) (ea.putO (dv ops i).dst v) ach' chk' P ls' nd' r pd:=by
 have hds:=hI.ds;simp only[bp1,aD]at hds;refine⟨?_,hR,(hI.E.frame hl).putO hv,hK,hks,hnd,fun b=>by rw[hl.fb];exact hI.fb b,hI.nod,hI.inj,hI.new,fun q hq=> ?_,fun j hj hk t ht=> ?_,hds.2⟩
 ·have h1:=hI.le;have h2:Le ⟨c.μ,c.S,c.σ,c0.fb⟩ ⟨c'.μ,c'.S,c'.σ,c0.fb⟩:=⟨hl.len,hl.al,hl.fz,hl.ln,hl.un,hl.ow,hl.n,rfl⟩;exact h1.trans h2
 ·obtain⟨hf,x,vf,h1,h2,h3⟩:=hI.pend q hq;obtain⟨k1,k2⟩:=cf4 hd hq;refine⟨hf,x,vf,h1.same hf fun t ht=>aG4 fun t' ht' e=>k2 t' ht' (e▸ht),hl.un _ _ h2 fun ho=> ?_,fun t ht=> ?_⟩
  ·obtain⟨j,hj1,hj2⟩:=ho;exact hI.R.fbk j _ (mR hj1) hj2 ((hI.fb _).2 (.inr ⟨q,hq,rfl⟩))
  ·rw[aG4 fun t' ht' e=>k1 t' ht' (e▸ht)];exact h3 t ht
 ·rw[cx2 fun t' ht' e=>cF4 hd hj hk (fun h=>by cases h) ht' (e▸ht)];exact hI.und j (cB _ hj) hk t ht
theorem bC5 {β:Type}{c0:Ctx}{k:ej→bu→Option β}{y:β}(h0:fe c0): ∀(f:Nat) {D P ls nd:List Nat} {r:List LItem} {c:Ctx} {e:ej} {ea:dh} {ach:List (Nat×(Hp→Prop))} {chk:Chk} {pd:Nat→Nat},bC0 ops f D P ls nd r=true→InvL ops c0 c e ea ach chk P ls nd r pd→evL tab ops r chk e c.S k=some y→
  wpD (iw tab) (rb c0 k y) ops f D ach ea c.σ
 |0,D,P,ls,nd,r,c,e,ea,ach,chk,pd,h,hI,hv=>bC7 h0 r h hI hv
 |f+1,D,P,ls,nd,r,c,e,ea,ach,chk,pd,h,hI,hv=>by
  simp only[bC0]at h;simp only[wpD];cases hns:jV ops D with
  |some i=>
   rw[hns]at h;simp only[aD]at h⊢;obtain⟨hg,h⟩:=h;obtain⟨p,ho,hst⟩:=cE8 hns;rw[ho]
   have hw:wanted (dv ops i) ea=true:=by
    unfold wanted;cases hgg:(dv ops i).guard with
    |none=>rfl
    |some q=>rw[hgg]at hg;cases hg
   simp only[hw,if_true];cases hs:ae6 r P i with
   |none=>rw[hs]at h;cases h
   |some q=>
    obtain⟨P',it,r'⟩:=q;rw[hs]at h;simp only[aD]at h;obtain⟨⟨hk0,hd⟩,hc⟩:=h;obtain⟨c1,e1,h1,h2,h3,h4,h5,h6⟩:=aH6 h0 r hs hI hv;subst h5;have hk1:aB it.kind 1=false:=by rw[bB hk0];rfl
    have hk3:aB it.kind 3=false:=by rw[bB hk0];rfl
    simp only[evL,h4,hk1,hk3,zD]at h3;obtain⟨_,h3⟩:=ca h3;have h7:=aE3 h2.R h2.E h3;rw[←ao8 hst,h1]at h7;cases hr:(dv ops it.i).op.run ea c.σ with
    |none=>rw[hr]at h7;exact h7.elim
    |some q=>
     obtain⟨v,σ1⟩:=q;rw[hr]at h7;obtain⟨vv,c2,g1,g2,g3,g4,g5,g6⟩:=h7;simp only
     have hdd:aE2 tab (dv ops it.i).op e1 c1.S=[]:=by
      cases hop:(dv ops it.i).op<;>rw[hop]at hst<;>first|(cases hst;done)|rfl
     have hσ1:σ1=c.σ:=aA1 hst hr;obtain⟨g7,g8⟩:=ca g6;have hn:=h2.K.next g2 g4
     rw[hdd,xe]at hn
     have hstep: ∀{ach':List (Nat×(Hp→Prop))} {chk':Chk} {ls':List Nat},ChkRel c2 ach' chk'→ach'.map (·.1)=ls'→mH it.need chk'=true→evL tab ops r' chk' (putO e1 (dv ops it.i).dst vv) c2.S k=some y→bC0 ops f (it.i::D) P' ls' it.need r'=true→
       wpD (iw tab) (rb c0 k y) ops f (it.i::D) ach' (ea.putO (dv ops it.i).dst v) c.σ:=by
      intro ach' chk' ls' q1 q2 q3 q4 q5;have:=bC5 h0 f q5 (h2.on hd g2 g3 g5 q1 q2 q3) q4;rw[g1,hσ1]at this;exact this
     cases hld:(dv ops it.i).op.isLoad with
     |false=>
      rw[hld]at g7 g8 hc;rw[zF (by decide)];exact hstep hn h2.ks g7 g8 hc
     |true=>
      rw[hld]at g7 g8 hc;rw[zE rfl];have hkp:=bo1 h2.R h2.E hld (by rw[h1];exact hr);have hn2:=(ChkRel.cons (i:=it.i) hkp h2.K).next g2 g4
      rw[hdd,xe]at hn2;exact hstep hn2 (by rw[List.map_cons,h2.ks];rfl) g7 g8 hc
  |none=>
   rw[hns]at h;simp only at h⊢
   have each: ∀{ms:List Nat},(∀m∈ms,m∈ei ops D)→(ms.all fun m=>(dv ops m).guard.isNone&&cond (wQ (dv ops m).op)
    (!mW m P&&r.any (fun it=>aB it.kind 2&&aB it.i m)&&(bM7 (dv ops m).op||bc5 ops r m)&&av8 ops m true P r&&aF6 (dv ops m).dst (xO (dv ops m).op)&&ls.all (fun i=>uF ops i m||mW i nd)&&bC0 ops f (m::D) (m::P) ls nd r)
    (match ae6 r P m with
    |some (P',it,r')=>aB it.kind 1&&av8 ops m false P' r'&&ls.all (fun i=>uF ops i m||mW i it.chks)&&bC0 ops f (m::D) P' ls it.need r'
    |none=>false))=true→bm2 (fun m=>match ops[m]? with
     |some (o,_)=>if wanted o ea then ck (iw tab) o.op ea c.σ fun v σ'=>ag3 ops m σ' ach∧wpD (iw tab) (rb c0 k y) ops f (m::D) ach (ea.putO o.dst v) σ'
      else wpD (iw tab) (rb c0 k y) ops f (m::D) ach (ea.putO o.dst undef) c.σ
     |none=>False) ms:=by
    intro ms hms hall;refine cc9 fun m hm=> ?_
    have h:=List.all_eq_true.1 hall m hm;simp only[aD]at h;obtain⟨hg,h⟩:=h;obtain⟨p,ho,hst⟩:=cu4 (hms m hm);rw[ho]
    have hw:wanted (dv ops m) ea=true:=by
     unfold wanted;cases hgg:(dv ops m).guard with
     |none=>rfl
     |some q=>rw[hgg]at hg;cases hg
    simp only[hw,if_true];cases hfr:wQ (dv ops m).op with
    |false=>
     rw[hfr,zD]at h;cases hs:ae6 r P m with
     |none=>rw[hs]at h;cases h
     |some q=>
      obtain⟨P',it,r'⟩:=q;rw[hs]at h;simp only[aD]at h;obtain⟨⟨⟨hk1,hd⟩,hls⟩,hc⟩:=h;obtain⟨c1,e1,h1,h2,h3,h4,h5,h6⟩:=aH6 h0 r hs hI hv;subst h5;have hk3:aB it.kind 3=false:=by rw[bB hk1];rfl
      simp only[evL,h4,hk1,hk3,zD,zC]at h3;have h7:=aE3 h2.R h2.E h3;rw[h1]at h7;refine ol (cz tab) (fun v σ' hx=> ?_) h7;obtain⟨vv,c2,g1,g2,g3,g4,g5,g6⟩:=hx;obtain⟨g7,g8⟩:=ca g6;rw[aD]at g7;have hn:=h2.K.next g2 g4
      subst g1;refine⟨wR hn g7.1 fun i hi=> ?_,bC5 h0 f hc (h2.on hd g2 g3 g5 hn h2.ks g7.2) g8⟩;rw[h2.ks]at hi;have:=List.all_eq_true.1 hls i hi;rw[cD]at this;exact this
    |true=>
     rw[hfr,zC]at h;simp only[aD]at h;obtain⟨⟨⟨⟨⟨⟨hnm,hany⟩,hor⟩,hd⟩,hself⟩,hls⟩,hc⟩:=h;have hmP:m∉P:=fun e=>by rw[lJ.2 e]at hnm;cases hnm
     obtain⟨x,vf,hF⟩: ∃x vf,qH (dv ops m).op ea x vf:=by
      rw[cD]at hor;rcases hor with hor|hor
      ·cases hop:(dv ops m).op<;>rw[hop]at hor<;>first|(cases hor;done)|skip
       case alloc es z=>exact⟨⟨z,true,es⟩,fun n=> .pointer (some ⟨n,0,none⟩),fun σ=>rfl⟩
      ·obtain⟨x,vf,_,h1⟩:=aU6 r hor hI.E (fun t _=>rfl) hv;exact⟨x,vf,h1⟩
     let c':Ctx:=⟨c.μ,c.S,c.σ.add x,fun b=>c.fb b∨b=c.σ.n⟩
     have hadd: ∀b y,c.σ.m b=some y→(c.σ.add x).m b=some y:=by
      intro b y hy;have:=hI.R.ok b y hy;simp only[Hp.add];rw[zF (by omega)];exact hy
     have hV:LeV c c':=by
      refine⟨eD _,fun q d hq hdm=>⟨hdm,rfl⟩,fun q d b y hq hdm hm hy=>⟨y,hadd b y hy,rfl⟩,fun b y hy hn=>⟨hadd b y hy,fun hm=> ?_⟩⟩;rcases hm with hm|hm|hm
      ·exact hn (.inl hm)
      ·exact hn (.inr hm)
      ·have:=hI.R.ok b y hy;omega
     have hR':fe c':=by
      refine⟨fun b y hy=> ?_,hI.R.inj,fun q d hdm=> ?_,fun q b hdm hm hf=> ?_,fun b hb=> ?_⟩
      ·simp only[c',Hp.add]at hy⊢;split at hy
       ·omega
       ·have:=hI.R.ok b y hy;omega
      ·obtain⟨h6,h7⟩:=hI.R.blk q d hdm;refine⟨h6, ?_⟩;rcases h7 with h7|⟨b',y',cs',rest',h7,h8,h9,h10,h11,h12⟩
       ·exact .inl h7
       ·exact .inr ⟨b',y',cs',rest',h7,hadd _ _ h8,h9,h10,h11,VRel.framesV hV h12⟩
      ·rcases hf with hf|hf
       ·exact hI.R.fbk q b hdm hm hf
       ·subst hf;have hdm':(bn c.S q).dim≠none:=hdm;cases hd2:(bn c.S q).dim with
        |none=>exact hdm' hd2
        |some d=>
         obtain⟨_,h7⟩:=hI.R.blk q d hd2;have hm':c.μ q=some c.σ.n:=hm;rcases h7 with⟨_,h7⟩|⟨b',y',cs',rest',h7,h8,_⟩
         ·rw[hm']at h7;cases h7
         ·rw[hm']at h7;injection h7 with h7
          subst h7;have:=hI.R.ok _ _ h8;omega
      ·show b<c.σ.n+1;rcases hb with hb|hb
       ·have:=hI.R.fbl b hb;omega
       ·omega
     have hK':=hI.K.frameV hI.R hV (fun _ _=>rfl) (fun _ _=>rfl) hadd;refine cw (hF c.σ) ⟨wR hK' hI.nd fun i hi=> ?_, ?_⟩
     ·rw[hI.ks]at hi;have:=List.all_eq_true.1 hls i hi;rw[cD]at this;exact this
     ·refine bC5 (c:=c') (pd:=fun q=>if q=m then c.σ.n else pd q) h0 f hc ⟨?_,hR', ?_,hK',hI.ks,hI.nd,fun b=> ?_,List.nodup_cons.2 ⟨hmP,hI.nod⟩,fun q q' hq hq' he=> ?_,fun q hq=> ?_,fun q hq=> ?_,hI.und,hI.ds⟩ hv
      ·have hle:=hI.le;refine⟨hle.len,hle.al,hle.fz,fun q d b y hq hdm hm hy=> ?_,fun b y hy hn=>hadd _ _ (hle.un b y hy hn),hle.ow,Nat.le_trans hle.n (Nat.le_succ _),rfl⟩;obtain⟨y',q1,q2⟩:=hle.ln q d b y hq hdm hm hy;exact⟨y',hadd _ _ q1,q2⟩
      ·have hE:=hI.E.frameV hV;intro t;cases hdst:(dv ops m).dst with
       |none=>exact hE t
       |some t'=>
        show VRel c' (mS e t) (if t=t' then _ else ea t);by_cases htt:t=t'
        ·subst htt;rw[zE rfl];obtain⟨it,hit,hit2⟩:=List.any_eq_true.1 hany;rw[aD]at hit2;have hitm:=bB hit2.2;subst hitm;rw[hI.und it hit hit2.1 _ hdst];exact .undef _
        ·rw[zF htt];exact hE t
      ·constructor
       ·rintro(hb|hb)
        ·rcases(hI.fb b).1 hb with hb|⟨q,hq,hb⟩
         ·exact .inl hb
         ·refine .inr ⟨q,cB _ hq, ?_⟩;show(if q=m then c.σ.n else pd q)=b;rw[zF (fun e:q=m=>hmP (e▸hq))];exact hb
        ·exact .inr ⟨m,List.mem_cons_self,by simp[hb]⟩
       ·rintro(hb|⟨q,hq,hb⟩)
        ·exact .inl ((hI.fb b).2 (.inl hb))
        ·rcases List.mem_cons.1 hq with rfl|hq
         ·simp only[if_true]at hb;exact .inr hb.symm
         ·have hb:(if q=m then c.σ.n else pd q)=b:=hb;rw[zF (fun e:q=m=>hmP (e▸hq))]at hb;exact .inl ((hI.fb b).2 (.inr ⟨q,hq,hb⟩))
      ·have hlt: ∀q∈P,pd q<c.σ.n:=fun q hq=>hI.R.fbl _ ((hI.fb _).2 (.inr ⟨q,hq,rfl⟩))
       have he:(if q=m then c.σ.n else pd q)=if q'=m then c.σ.n else pd q':=he
       rcases List.mem_cons.1 hq with rfl|hq1
       ·rcases List.mem_cons.1 hq' with rfl|hq2
        ·rfl
        ·rw[zE rfl,zF (fun e:q'=q=>hmP (e▸hq2))]at he;have:=hlt _ hq2;omega
       ·rw[zF (fun e:q=m=>hmP (e▸hq1))]at he;rcases List.mem_cons.1 hq' with rfl|hq2
        ·rw[zE rfl]at he;have:=hlt _ hq1;omega
        ·rw[zF (fun e:q'=m=>hmP (e▸hq2))]at he;exact hI.inj q q' hq1 hq2 he
      ·show c0.σ.n≤(if q=m then c.σ.n else pd q);rcases List.mem_cons.1 hq with rfl|hq
       ·rw[zE rfl];exact hI.le.n
       ·rw[zF (fun e:q=m=>hmP (e▸hq))];exact hI.new q hq
      ·show wQ (dv ops q).op=true∧∃x1 vf1,qH (dv ops q).op (ea.putO (dv ops m).dst (vf c.σ.n)) x1 vf1∧c'.σ.m (if q=m then c.σ.n else pd q)=some x1∧∀t,(dv ops q).dst=some t→ea.putO (dv ops m).dst (vf c.σ.n) t=vf1 (if q=m then c.σ.n else pd q)
       rcases List.mem_cons.1 hq with rfl|hq
       ·rw[zE rfl];refine⟨hfr,x,vf,hF.same hfr fun t ht=>aG4 fun t' ht' e=> ?_,zE rfl,fun t ht=> ?_⟩
        ·subst e;rw[ht']at hself;simp only[aF6]at hself;rw[lJ.2 ht]at hself;cases hself
        ·rw[ht];exact zE rfl
       ·rw[zF (fun e:q=m=>hmP (e▸hq))];obtain⟨hf',x',vf',q1,q2,q3⟩:=hI.pend q hq;obtain⟨k1,k2⟩:=cf4 hd hq;refine⟨hf',x',vf',q1.same hf' fun t ht=>aG4 fun t' ht' e=>k2 t' ht' (e▸ht),hadd _ _ q2,fun t ht=> ?_⟩;rw[aG4 fun t' ht' e=>k1 t' ht' (e▸ht)];exact q3 t ht
   cases hrm:ei ops D with
   |nil=>rw[hrm]at h;exact bC7 h0 r h hI hv
   |cons a l=>
    rw[hrm]at h;exact each (fun m hm=>by rw[hrm];exact hm) h
end
end
section
open Bool renaming and_eq_true → aB
open List renaming mem_cons_self → aD, mem_cons_of_mem → cB, mem_of_getElem? → cD
open Nat renaming beq → bB, zero_add → bD, eq_of_beq_eq_true → dB
section
variable {tab:Tab}
theorem bP7 {c:Ctx}{e:ej}{ea:dh}{t:Nat}{p:Bool}(he:bz c e ea)(hp:mS e t= .bool p):bz c (pR e t (.bool p)) ea:=by
 have ht:=he t;rw[hp]at ht;have ht:=ht.bool_inv;intro i;rw[ud];by_cases hi:i=t
 ·subst hi;rw[zE rfl,ht];exact .bool _
 ·rw[zF hi];exact he i
theorem ay2 {β:Type}{y:β}: ∀{its:List SItem} {c:Ctx} {e:ej} {ea:dh} {chk:Chk} {ach:List (Nat×(Hp→Prop))} {k:ej→bu→Option β},fe c→bz c e ea→ChkRel c ach chk→sD tab its chk e c.S k=some y→wpI (iw tab) (rb c k y) its ach ea c.σ
 |[],c,e,ea,chk,ach,k,hR,he,hc,h=>⟨e,c,rfl,Le.refl c,hR,he,h⟩
 |it::r,c,e,ea,chk,ach,k,hR,he,hc,h=>by
  have step: ∀e1,bz c e1 ea→aK4 tab it chk e1 c.S (fun chk' e' S'=>sD tab r chk' e' S' k)=some y→
    (if it.mover then ck (iw tab) it.o.op ea c.σ (fun v σ'=>vJ it.chks σ' ach∧wpI (iw tab) (rb c k y) r ach (ea.putO it.o.dst v) σ')
    else match it.o.op.run ea c.σ with
     |some (v,_)=>wpI (iw tab) (rb c k y) r (if it.keep then(it.idx,fun σ'=>it.o.op.run ea σ'=some (v,σ'))::ach else ach) (ea.putO it.o.dst v) c.σ
     |none=>False):=by
   intro e1 he1 h1;refine cj7 (Q:=fun ach' ea' σ'=>wpI (iw tab) (rb c k y) r ach' ea' σ') hR he1 hc h1 fun c' ach' chk' e' ea' h2 h3 h4 h5 h6=> ?_
   exact aq4 (cz tab) (fun ea'' σ'' hp=>hp.of h2) _ _ _ _ (ay2 h3 h5 h4 h6)
  have skip: ∀e1,bz c e1 ea→sD tab r chk (putO e1 it.o.dst (.tup [])) c.S k=some y→wpI (iw tab) (rb c k y) r ach (ea.putO it.o.dst undef) c.σ:=fun e1 he1 h1=>ay2 hR (he1.putO (.tup .nil)) hc h1
  simp only[sD]at h;simp only[wpI];split at h
  ·rename_i hg;have:wanted it.o ea=true:=by simp only[wanted,hg]
   rw[zE this];exact step e he h
  ·rename_i t w hg;split at h
   ·rename_i p hp;have ht:=he t;rw[hp]at ht;have ht:=ht.bool_inv;have hw:wanted it.o ea=(p==w):=by simp only[wanted,hg,ht]
    have hput:=bP7 he hp;rw[hw];cases p<;>cases w<;>simp only[zC,zD]at h
    ·rw[zE (by decide)];exact step _ hput h
    ·rw[zF (by decide)];exact skip _ hput h
    ·rw[zF (by decide)];exact skip _ hput h
    ·rw[zE (by decide)];exact step _ hput h
   ·rename_i hp;have ht:=he t;rw[hp]at ht
    have hw:wanted it.o ea=false:=by
     simp only[wanted,hg];generalize ea t=u at ht;cases ht;rfl
    rw[hw,zF (by decide)];exact skip _ he h
   ·cases h
def qY (as:List Nat)(e e':dh):Prop:= ∀t,t∉as→e' t=e t
theorem qY.refl (as:List Nat)(e:dh):qY as e e:=fun _ _=>rfl
theorem qY.put {as:List Nat}{e e':dh}{d:Option Nat}{v:Value}(h:qY as e e')(hd: ∀t,t∈bC4 d→t∈as):qY as e (e'.putO d v):=by
 intro t ht;cases d with
 |none=>exact h t ht
 |some d=>
  have:t≠d:=by rintro rfl;exact ht (hd t (List.mem_singleton.2 rfl))
  simp only[dh.putO,dh.put,zF this];exact h t ht
theorem aA3 {T:Ab.ia}(hT:qZ T){Q:dh→Hp→Prop}{as:List Nat}{e0:dh}: ∀{ops:List AOper} {e:dh} {σ:Hp},(∀o,o∈ops→∀t,t∈bC4 o.dst→t∈as)→qY as e0 e→Ab.xf T Q ops e σ→Ab.xf T (fun e' σ'=>qY as e0 e'∧Q e' σ') ops e σ
 |[],e,σ,_,hk,h=>⟨hk,h⟩
 |o::r,e,σ,ha,hk,h=>by
  simp only[Ab.xf]at h⊢;have hr: ∀o,o∈r→∀t,t∈bC4 o.dst→t∈as:=fun o ho=>ha o (cB _ ho)
  split at h
  ·rename_i hw;rw[zE hw];exact ol hT (fun v σ' hv=>aA3 hT hr (hk.put (ha o aD)) hv) h
  ·rename_i hw;rw[zF hw];exact aA3 hT hr (hk.put (ha o aD)) h
theorem aI0 {T:Ab.ia}(hT:qZ T){Q:dh→Hp→Prop}{as:List Nat}{e0:dh}: ∀{its:List SItem} {chk:List (Nat×(Hp→Prop))} {e:dh} {σ:Hp},(∀o,o∈its→∀t,t∈bC4 o.o.dst→t∈as)→qY as e0 e→wpI T Q its chk e σ→wpI T (fun e' σ'=>qY as e0 e'∧Q e' σ') its chk e σ
 |[],chk,e,σ,_,hk,h=>⟨hk,h⟩
 |it::r,chk,e,σ,ha,hk,h=>by
  simp only[wpI]at h⊢;have hr: ∀o,o∈r→∀t,t∈bC4 o.o.dst→t∈as:=fun o ho=>ha o (cB _ ho)
  split at h
  ·rename_i hw;rw[zE hw];split at h
   ·rename_i hm;rw[zE hm];exact ol hT (fun v σ' hv=>⟨hv.1,aI0 hT hr (hk.put (ha it aD)) hv.2⟩) h
   ·rename_i hm;rw[zF hm];split at h
    ·exact aI0 hT hr (hk.put (ha it aD)) h
    ·exact h.elim
  ·rename_i hw;rw[zF hw];exact aI0 hT hr (hk.put (ha it aD)) h
theorem bK1 {F G:Nat→Prop}(h: ∀m,F m→G m): ∀{l:List Nat},bm2 F l→bm2 G l
 |[],_=>trivial
 |[m],q=>h m q
 |m::m'::r,q=>⟨h m q.1,bK1 h q.2⟩
theorem aq2 {T:Ab.ia}(hT:qZ T){Q:dh→Hp→Prop}{as:List Nat}{e0:dh}{ops:List (AOper×List Nat)}(ha: ∀o,o∈ops→∀t,t∈bC4 o.1.dst→t∈as): ∀(f:Nat) {D:List Nat} {chk:List (Nat×(Hp→Prop))} {e:dh} {σ:Hp},qY as e0 e→wpD T Q ops f D chk e σ→wpD T (fun e' σ'=>qY as e0 e'∧Q e' σ') ops f D chk e σ
 |0,D,chk,e,σ,hk,h=>⟨hk,h⟩
 |f+1,D,chk,e,σ,hk,h=>by
  simp only[wpD]at h⊢;cases hn:jV ops D with
  |some i=>
   rw[hn]at h;simp only at h⊢;cases ho:ops[i]? with
   |none=>rw[ho]at h;exact h
   |some p=>
    obtain⟨o,pr⟩:=p;rw[ho]at h;have hm:(o,pr)∈ops:=cD ho;simp only at h⊢;split at h
    ·rename_i hw;rw[zE hw];split at h
     ·rename_i v σ' hr;exact aq2 hT ha f (hk.put (ha _ hm)) h
     ·exact h.elim
    ·rename_i hw;rw[zF hw];exact aq2 hT ha f (hk.put (ha _ hm)) h
  |none=>
   rw[hn]at h;simp only at h⊢;cases hr:ei ops D with
   |nil=>rw[hr]at h;exact⟨hk,h⟩
   |cons a l=>
    rw[hr]at h;simp only at h⊢;refine bK1 (fun m hm=> ?_) h;cases ho:ops[m]? with
    |none=>rw[ho]at hm;exact hm
    |some p=>
     obtain⟨o,pr⟩:=p;rw[ho]at hm;have hmem:(o,pr)∈ops:=cD ho;simp only at hm⊢;split at hm
     ·rename_i hw;rw[zE hw];exact ol hT (fun v σ' hx=>⟨hx.1,aq2 hT ha f (hk.put (ha _ hmem)) hx.2⟩) hm
     ·rename_i hw;rw[zF hw];exact aq2 hT ha f (hk.put (ha _ hmem)) hm
theorem uu {T:Ab.ia}(hT:qZ T){as:List Nat}{e0:dh}: ∀(c:AC) {Q:AExit→dh→Hp→Prop} {e:dh} {σ:Hp},ao1 c=true→(∀t,t∈lH c→t∈as)→qY as e0 e→vb T c Q e σ→vb T c (fun x e' σ'=>qY as e0 e'∧Q x e' σ') e σ
 | .skip,_,_,_,_,_,hk,h=>⟨hk,h⟩
 | .exit _,_,_,_,_,_,hk,h=>⟨hk,h⟩
 | .ret,_,_,_,_,_,hk,h=>⟨hk,h⟩
 | .region ops,Q,e,σ,_,ha,hk,h=>aA3 hT (fun o ho t ht=>ha t (List.mem_flatMap.2 ⟨o,ho,ht⟩)) hk h
 | .sched its,Q,e,σ,_,ha,hk,h=>aI0 hT (fun o ho t ht=>ha t (List.mem_flatMap.2 ⟨o,ho,ht⟩)) hk h
 | .draw ops,Q,e,σ,_,ha,hk,h=>aq2 hT (fun o ho t ht=>ha t (List.mem_flatMap.2 ⟨o,ho,ht⟩)) _ hk h
 | .seq a b,Q,e,σ,hd,ha,hk,h=>by
  simp only[ao1,aB]at hd;have h1:=uu hT a hd.1 (fun t ht=>ha t (List.mem_append.2 (.inl ht))) hk h;refine ic hT a _ _ (fun x e' σ' hx=> ?_) e σ h1;obtain⟨hx1,hx2⟩:=hx;cases x with
  |normal=>exact uu hT b hd.2 (fun t ht=>ha t (List.mem_append.2 (.inr ht))) hx1 hx2
  |exit i=>exact⟨hx1,hx2⟩
  |ret=>exact⟨hx1,hx2⟩
 | .cond c a b,Q,e,σ,hd,ha,hk,h=>by
  simp only[ao1,aB]at hd;simp only[vb]at h⊢;split at h
  ·exact uu hT a hd.1 (fun t ht=>ha t (List.mem_append.2 (.inl ht))) hk h
  ·exact uu hT b hd.2 (fun t ht=>ha t (List.mem_append.2 (.inr ht))) hk h
  ·exact h.elim
 | .block id b,Q,e,σ,hd,ha,hk,h=>by
  have h1:=uu hT b hd ha hk h;refine ic hT b _ _ (fun x e' σ' hx=> ?_) e σ h1;obtain⟨hx1,hx2⟩:=hx;cases x with
  |normal=>exact⟨hx1,hx2⟩
  |exit i=>
   simp only at hx2⊢;split at hx2
   ·rename_i hi;rw[zE hi];exact⟨hx1,hx2⟩
   ·rename_i hi;rw[zF hi];exact⟨hx1,hx2⟩
  |ret=>exact⟨hx1,hx2⟩
 | .loop b,Q,e,σ,hd,ha,hk,h=>by
  obtain⟨n,hn⟩:=h;refine⟨n, ?_⟩;induction n generalizing e σ with
  |zero=>exact hn.elim
  |succ n ih=>
   simp only[lf]at hn⊢;have h1:=uu hT b hd ha hk hn;refine ic hT b _ _ (fun x e' σ' hx=> ?_) e σ h1;obtain⟨hx1,hx2⟩:=hx;cases x with
   |normal=>exact ih _ _ hx1 hx2
   |exit i=>exact⟨hx1,hx2⟩
   |ret=>exact⟨hx1,hx2⟩
theorem ar1 {S:bu}{N:Nat}{fx:List Nat}{sk:wH}{vals:List VV}{t:Tup sk.shs}(h:ay1 S N fx sk vals=some t):sk.noRo=true∧∃st,oA S N fx sk vals=some st∧toL sk.shs t=st.ls:=by
 unfold ay1 at h;obtain⟨h1,h2⟩:=ca h;obtain⟨st,h3,h4⟩:=bq h2;exact⟨h1,st,h3,aF8 h4⟩
theorem ar0 {S:bu}{N:Nat}{fx:List Nat}{vals:List Nat→List VV}{hit:XK→Bool}: ∀{l:List Alt} {s:tX l},uH S N fx vals hit l=some s→∃p,cq1 l s=some p∧hit p.1.x=true∧ay1 S N fx p.1.sk (vals p.1.ts)=some p.2
 |[],s,h=>by cases h
 |[a],s,h=>by
  simp only[uH]at h;cases hh:hit a.x with
  |false=>rw[hh]at h;cases h
  |true=>rw[hh]at h;exact⟨⟨a,s⟩,rfl,hh,h⟩
 |a::b::r,s,h=>by
  simp only[uH]at h;split at h
  ·rename_i t ht;injection h with h
   subst h;cases hh:hit a.x with
   |false=>rw[hh]at ht;cases ht
   |true=>rw[hh]at ht;exact⟨⟨a,t⟩,rfl,hh,ht⟩
  ·obtain⟨s',h1,h2⟩:=bq h;injection h2 with h2
   subst h2;obtain⟨p,h3,h4,h5⟩:=ar0 h1;exact⟨p,h3,h4,h5⟩
theorem XK.is_out {x:XK}{y:AExit}(h:x.is y=true):x.out=y:=by
 cases x<;>cases y<;>simp only[XK.is]at h<;>first|rfl|(cases h;done)|skip
 rename_i i j;rw[show(XK.exit i).out=AExit.exit i from rfl,dB h]
theorem aG5 {c:Ctx}: ∀{ts:List Nat} {e:ej} {ea:dh} {vs:List VV},bz c e ea→F2 (VRel c) vs (ts.map ea)→bz c (bP8 e ts vs) ea
 |[],e,ea,vs,he,hf=>by
  cases hf;exact he
 |t::ts,e,ea,vs,he,hf=>by
  cases hf with
  |cons h1 h2=>
   have:=aG5 he h2;intro i;simp only[bP8,ud];by_cases hi:i=t
   ·subst hi;rw[zE rfl];exact h1
   ·rw[zF hi];exact this i
theorem aJ9 : ∀{ts:List Nat} {e:ej} {t:Nat},mS (am9 e ts) t= .undef∨(t∉ts∧mS (am9 e ts) t=mS e t)
 |[],e,t=> .inr ⟨by simp,rfl⟩
 |a::ts,e,t=>by
  simp only[am9,ud];by_cases h:t=a
  ·rw[zE h];exact .inl rfl
  ·rw[zF h];rcases aJ9 (ts:=ts) (e:=e) (t:=t)with h1|⟨h1,h2⟩
   ·exact .inl h1
   ·exact .inr ⟨by simp[h,h1],h2⟩
theorem aq7 {c:Ctx}{as:List Nat}{e:ej}{ea ea':dh}(he:bz c e ea)(hk:qY as ea ea'):bz c (am9 e as) ea':=by
 intro t;rcases aJ9 (ts:=as) (e:=e) (t:=t)with h|⟨h1,h2⟩
 ·rw[h];exact .undef _
 ·rw[h2,hk t h1];exact he t
theorem aU8 {c:Ctx}{e:ej}{ea:dh}(he:bz c e ea): ∀ts:List Nat,F2 (VRel c) (ts.map (mS e)) (ts.map ea)
 |[]=> .nil
 |t::ts=> .cons (he t) (aU8 he ts)
theorem bD4 {β:Type}{c c1 c':Ctx}{e0:ej}{ea0 ea':dh}{fx mov asg:List Nat}{exits:List Alt}{s:tX exits}{k:AExit→ej→bu→Option β}{y:β}{e':ej}{x:AExit}(hR:fe c)(he0:bz c e0 ea0)(hR':fe c')(hw:Within c c1 fx mov)(hR1:fe c1)(hle:Le c1 c')(hok:aT5 c.S fx=true)
  (hke:qY asg ea0 ea') (he':bz c' e' ea') (hd:uH c'.S c.S.length fx (fun ts=>ts.map (mS e')) (fun y=>y.is x) exits=some s) (h:cD0 e0 c.S fx mov asg exits s k=some y):rA c k y x ea' c'.σ:=by
 obtain⟨p,h1,h2,h3⟩:=ar0 hd;obtain⟨hro,st,h4,h5⟩:=ar1 h3;unfold cD0 at h;rw[bB4,h1]at h;simp only[zG]at h;rw[XK.is_out h2]at h;unfold ap3 at h;rw[h5]at h;cases he:pq id p.1.sk st.ls with
 |none=>rw[he]at h;cases h
 |some q=>
  obtain⟨vs,fs,bs⟩:=q;rw[he]at h;simp only[Bool.false_or]at h;cases hS:up fx fs (kL fx mov (af9 vs fs bs) 0 c.S)with
  |none=>rw[hS]at h;cases h
  |some S2=>
   rw[hS]at h;obtain⟨ct,g1,g2,g3,g4,g5⟩:=cD7 hR hR' hw hR1 hle hok hro h4 he (aU8 he' _) hS;refine⟨_,ct,g1,g3,g4,aG5 (aq7 (he0.frame g3) hke) g5, ?_⟩;rw[g2];exact h
theorem bV8 {S:bu}{fx:List Nat}:sM S (kL fx [] true 0 S):=by
 refine⟨mQ,fun k=> ?_⟩;by_cases hk:k<S.length
 ·rw[mP hk];simp only[mW,zD,bD];cases mW k fx with
  |true=>exact .inl rfl
  |false=>exact .inr rfl
 ·rw[uk (by rw[mQ];omega),uk (by omega)];exact .inl rfl
def dc6 (c:Ctx)(e0:ej)(ea0:dh)(fx mov asg:List Nat)(ts:List Nat)(sk:wH)(t:Tup sk.shs)(ea:dh)(σ:Hp):Prop:=
 ∃c1 e1,c1.σ=σ∧ap3 e0 c.S fx mov asg true ts sk t=some (e1,c1.S)∧fe c1∧bz c1 e1 ea∧Within c c1 fx mov∧qY asg ea0 ea
theorem bh0 {e0 e1:ej}{S S1:bu}{fx mov asg ts:List Nat}{sk:wH}{t:Tup sk.shs}(h:ap3 e0 S fx mov asg true ts sk t=some (e1,S1)): ∃vs fs bs S',pq id sk (toL sk.shs t)=some (vs,fs,bs)∧up fx fs (kL fx mov true 0 S)=some S'∧e1=bP8 (am9 e0 asg) ts vs∧S1=S'++bs:=by
 unfold ap3 at h;split at h
 ·rename_i vs fs bs he;simp only[Bool.true_or]at h;split at h
  ·rename_i S' hS;injection h with h
   injection h with h1 h2
   exact⟨vs,fs,bs,S',he,hS,h1.symm,h2.symm⟩
  ·cases h
 ·cases h
theorem aQ1 {ops:List (AOper×List Nat)}: ∀{r:List LItem} {it:LItem} {t:Nat},it∈r→bB it.kind 2=true→(dv ops it.i).dst=some t→t∈ar6 ops r
 |a::r,it,t,h,hk,ht=>by
  simp only[ar6];rcases List.mem_cons.1 h with rfl|h
  ·rw[hk,zC,ht];exact aD
  ·have:=aQ1 h hk ht;cases bB a.kind 2 with
   |false=>exact this
   |true=>exact List.mem_append.2 (.inr this)
theorem de {α γ:Type}(f:α→Option (α⊕γ))(n:Nat)(a:α):bw f (n+1) a=(f a).bind fun s=>di s (bw f n) some:=rfl
theorem aN6 {f:(AExit→dh→Hp→Prop)→dh→Hp→Prop}(hf: ∀(Q Q':AExit→dh→Hp→Prop),(∀x e σ,Q x e σ→Q' x e σ)→∀e σ,f Q e σ→f Q' e σ){Q:AExit→dh→Hp→Prop}:
  ∀(n m:Nat) (e:dh) (σ:Hp),n≤m→lf f Q n e σ→lf f Q m e σ
 |0,_,_,_,_,h=>h.elim
 |n+1,0,_,_,hm,_=>absurd hm (Nat.not_succ_le_zero _)
 |n+1,m+1,e,σ,hm,h=>by
  simp only[lf]at h⊢;refine hf _ _ (fun x e' σ' hx=> ?_) e σ h;cases x with
  |normal=>exact aN6 hf n m e' σ' (Nat.le_of_succ_le_succ hm) hx
  |exit id=>exact hx
  |ret=>exact hx
theorem aF5 {b:AC}(ih: ∀(at':AT) {β:Type} {y:β} {c:Ctx} {e:ej} {ea:dh} {k:AExit→ej→bu→Option β},fe c→bz c e ea→eval tab b at' β e c.S k=some y→vb (iw tab) b (rA c k y) ea c.σ):
  ∀(at':AT) {β:Type} {y:β} {c:Ctx} {e:ej} {ea:dh} {k:AExit→ej→bu→Option β},fe c→bz c e ea→bd5 (eval tab b) at' β e c.S k=some y→lf (vb (iw tab) b) (rA c k y) at'.rounds ea c.σ
 | .n l r,β,y,c,e,ea,k,hR,he,h=>by
  simp only[bd5]at h;have h1:=ih l hR he h;simp only[AT.rounds,lf];refine ic (cz tab) b _ _ (fun x ea' σ' hx=> ?_) ea c.σ h1;obtain⟨e',c',h2,h3,h4,h5,h6⟩:=hx;subst h2;cases x with
  |normal=>exact aq5 (ic (cz tab) b) (fun x ea'' σ'' hp=>rb.of h3 hp) _ _ _ (aF5 ih r h4 h5 h6)
  |exit i=>exact⟨e',c',rfl,h3,h4,h5,h6⟩
  |ret=>exact⟨e',c',rfl,h3,h4,h5,h6⟩
 | .sz m l r,β,y,c,e,ea,k,hR,he,h=>by
  simp only[bd5]at h;simp only[AT.rounds];cases hm:bB m c.S.length with
  |true=>
   rw[hm]at h;exact aN6 (ic (cz tab) b) _ _ _ _ (Nat.le_add_right _ _) (aF5 ih l hR he h)
  |false=>
   rw[hm]at h;exact aN6 (ic (cz tab) b) _ _ _ _ (Nat.le_add_left _ _) (aF5 ih r hR he h)
 | .no,_,_,_,_,_,_,_,_,h=>by cases h
 | .lp _ _ _ _,_,_,_,_,_,_,_,_,h=>by cases h
 | .jn _ _ _ _ _,_,_,_,_,_,_,_,_,h=>by cases h
 | .dr _,_,_,_,_,_,_,_,_,h=>by cases h
theorem qI : ∀(ac:AC) (at':AT) {β:Type} {y:β} {c:Ctx} {e:ej} {ea:dh} {k:AExit→ej→bu→Option β},fe c→bz c e ea→eval tab ac at' β e c.S k=some y→vb (iw tab) ac (rA c k y) ea c.σ
 | .skip,_,_,_,c,e,ea,k,hR,he,h=>⟨e,c,rfl,Le.refl c,hR,he,h⟩
 | .exit i,_,_,_,c,e,ea,k,hR,he,h=>⟨e,c,rfl,Le.refl c,hR,he,h⟩
 | .ret,_,_,_,c,e,ea,k,hR,he,h=>⟨e,c,rfl,Le.refl c,hR,he,h⟩
 | .region ops,_,_,_,c,e,ea,k,hR,he,h=>bb6 hR he h
 | .sched its,_,_,_,c,e,ea,k,hR,he,h=>ay2 hR he .nil h
 | .draw ops,at',_,y,c,e,ea,k,hR,he,h=>by
  simp only[eval]at h;split at h
  ·rename_i L _;obtain⟨hg,h⟩:=ca h;rw[aB]at hg;refine bC5 hR ops.length (pd:=fun _=>0) hg.1 ⟨Le.refl c,hR,aq7 he (qY.refl _ ea), .nil,rfl,rfl,fun b=>⟨.inl,fun h=> ?_⟩,List.nodup_nil,(fun _ _ h=>by cases h),(fun _ h=>by cases h),(fun _ h=>by cases h),fun it hit hk t ht=> ?_,hg.2⟩ h
   ·rcases h with h|⟨_,h,_⟩
    ·exact h
    ·cases h
   ·rcases @aJ9 (ar6 ops (ac8 ops L L [])) e t with h1|⟨h1,_⟩
    ·exact h1
    ·exact(h1 (aQ1 hit hk ht)).elim
  ·cases h
 | .seq a b,at',β,y,c,e,ea,k,hR,he,h=>by
  have plain: ∀l r,(eval tab a l β e c.S fun x e' S'=>match x with
    | .normal=>eval tab b r β e' S' k
    |x=>k x e' S')=some y→vb (iw tab) (.seq a b) (rA c k y) ea c.σ:=by
   intro l r h1;refine ic (cz tab) a _ _ (fun x ea' σ' hx=> ?_) ea c.σ (qI a l hR he h1);obtain⟨e',c',h2,h3,h4,h5,h6⟩:=hx;subst h2;cases x with
   |normal=>exact ic (cz tab) b _ _ (fun x ea'' σ'' hp=>rb.of h3 hp) _ _ (qI b r h4 h5 h6)
   |exit i=>exact⟨e',c',rfl,h3,h4,h5,h6⟩
   |ret=>exact⟨e',c',rfl,h3,h4,h5,h6⟩
  simp only[eval]at h;split at h
  ·rename_i fx mov exits l r _;obtain⟨hg,h⟩:=ca h;rw[aB]at hg;obtain⟨s,h1,h2⟩:=bq h;have hfz:sM c.S (kL (fx++mov) [] true 0 c.S):=bV8;have hR1:fe ⟨c.μ,kL (fx++mov) [] true 0 c.S,c.σ,c.fb⟩:=hfz.rel hR
   have hw:Within c ⟨c.μ,kL (fx++mov) [] true 0 c.S,c.σ,c.fb⟩ fx mov:=by
    refine⟨hfz.le,fun q hq hn hm=> ?_,fun _ _ _ _ _ _ _ _ hy=>hy⟩;show bn (kL (fx++mov) [] true 0 c.S) q=_;rw[mP hq];simp only[mW,zD,bD];rcases hm with hm|hz
    ·rw[kM (by simp[hn,hm])];rfl
    ·cases mW q (fx++mov)with
     |true=>exact(yS hz).symm
     |false=>rfl
   have h3:=uu (cz tab) (as:=lH a) (e0:=ea) a hg.2 (fun t ht=>ht) (qY.refl _ ea) (qI a l (c:=⟨c.μ,kL (fx++mov) [] true 0 c.S,c.σ,c.fb⟩) hR1 (he.frame hfz.le) h1);refine ic (cz tab) a _ _ (fun x ea' σ' hx=> ?_) ea c.σ h3;obtain⟨hk,e',c',h4,h5,h6,h7,h8⟩:=hx;subst h4;have h9:=bD4 hR he h6 hw hR1 h5 hg.1 hk h7 h8 h2;cases x with
   |normal=>
    obtain⟨e2,c2,g1,g2,g3,g4,g5⟩:=h9;rw[←g1];exact ic (cz tab) b _ _ (fun x ea'' σ'' hp=>rb.of g2 hp) _ _ (qI b r g3 g4 g5)
   |exit i=>exact h9
   |ret=>exact h9
  ·exact plain _ _ h
  ·exact plain _ _ h
 | .cond t a b,at',β,y,c,e,ea,k,hR,he,h=>by
  simp only[eval]at h;split at h
  ·rename_i p hp;have ht:=cm he t;rw[hp]at ht;have ht:=ht.bool_inv
   have key: ∀(e1 e2:ej) (l r:AT),bz c e1 ea∨p=false→bz c e2 ea∨p=true→cond p (eval tab a l β e1 c.S k) (eval tab b r β e2 c.S k)=some y→vb (iw tab) (.cond t a b) (rA c k y) ea c.σ:=by
    intro e1 e2 l r h1 h2 h3;simp only[vb,ht];cases p with
    |true=>
     rcases h1 with h1|h1
     ·exact qI a l hR h1 h3
     ·cases h1
    |false=>
     rcases h2 with h2|h2
     ·exact qI b r hR h2 h3
     ·cases h2
   have pb: ∀(i:Nat),t= .tmp i→(bz c (pR e i (.bool true)) ea∨p=false)∧(bz c (pR e i (.bool false)) ea∨p=true):=by
    intro i hi;subst hi;have:=bP7 he hp;cases p with
    |true=>exact⟨.inl this, .inr rfl⟩
    |false=>exact⟨.inr rfl, .inl this⟩
   split at h
   ·exact key _ _ _ _ (pb _ rfl).1 (pb _ rfl).2 h
   ·exact key _ _ _ _ (pb _ rfl).1 (pb _ rfl).2 h
   ·exact key _ _ _ _ (.inl he) (.inl he) h
   ·exact key _ _ _ _ (.inl he) (.inl he) h
  ·cases h
 | .block id b,at',β,y,c,e,ea,k,hR,he,h=>by
  simp only[eval]at h;refine ic (cz tab) b _ _ (fun x ea' σ' hx=> ?_) ea c.σ (qI b _ hR he h);obtain⟨e',c',h2,h3,h4,h5,h6⟩:=hx;cases x with
  |normal=>exact⟨e',c',h2,h3,h4,h5,h6⟩
  |ret=>exact⟨e',c',h2,h3,h4,h5,h6⟩
  |exit i=>
   simp only at h6⊢;cases hi:bB i id with
   |true=>
    rw[hi]at h6;rw[zE (dB hi)];exact⟨e',c',h2,h3,h4,h5,h6⟩
   |false=>
    rw[hi]at h6;rw[zF (fun e=>by rw[e,Nat.beq_refl]at hi;cases hi)];exact⟨e',c',h2,h3,h4,h5,h6⟩
 | .loop b,at',β,y,c,e,ea,k,hR,he,h=>by
  simp only[eval]at h;split at h
  ·rename_i fx head exits l _;obtain⟨hg,h⟩:=ca h;rw[aB,aB]at hg;obtain⟨⟨g1,g2⟩,g3⟩:=hg;split at h
   ·rename_i st hd;obtain⟨t0,h1,h⟩:=bq h;obtain⟨s,h2,h3⟩:=bq h
    have round: ∀(n:Nat) (t:Tup head.sk.shs) (ea1:dh) (σ1:Hp),dc6 c e ea fx (oB st.m) (lH b) head.ts head.sk t ea1 σ1→bw (fun t=>match ap3 e c.S fx (oB st.m) (lH b) true head.ts head.sk t with
      |some (e1,S1)=>eval tab b l (Tup head.sk.shs⊕tX exits) e1 S1 fun x e' S'=>(match x with
       | .normal=>(ay1 S' c.S.length fx head.sk (head.ts.map (mS e'))).bind fun t=>some (.inl t)
       |x=>(uH S' c.S.length fx (fun ts=>ts.map (mS e')) (fun y=>y.is x) exits).bind fun s=>some (.inr s))
      |none=>none) n t=some s→lf (vb (iw tab) b) (rA c k y) n ea1 σ1:=by
     intro n;induction n with
     |zero=>intro t ea1 σ1 _ hl;cases hl
     |succ n ih=>
      intro t ea1 σ1 hH hl;rw[de]at hl;obtain⟨z,hl1,hl2⟩:=bq hl;obtain⟨c1,e1,q1,q2,q3,q4,q5,q6⟩:=hH;subst q1;rw[q2]at hl1;simp only at hl1;have h4:=uu (cz tab) (as:=lH b) (e0:=ea) b g3 (fun t ht=>ht) q6 (qI b l q3 q4 hl1);simp only[lf];refine ic (cz tab) b _ _ (fun x ea' σ' hx=> ?_) ea1 c1.σ h4;obtain⟨hk,e',c',h5,h6,h7,h8,h9⟩:=hx;subst h5;cases x with
      |normal=>
       simp only at h9⊢;obtain⟨t',h10,h11⟩:=bq h9;injection h11 with h11
       subst h11;simp only[di]at hl2;refine ih t' ea' c'.σ ?_ hl2;obtain⟨hro,st',h12,h13⟩:=ar1 h10
       have hset: ∃e2 S2,ap3 e c.S fx (oB st.m) (lH b) true head.ts head.sk t'=some (e2,S2):=by
        cases n with
        |zero=>cases hl2
        |succ n=>
         rw[de]at hl2;obtain⟨z',hl3,_⟩:=bq hl2;cases hz:ap3 e c.S fx (oB st.m) (lH b) true head.ts head.sk t' with
         |none=>rw[hz]at hl3;cases hl3
         |some q=>exact⟨q.1,q.2,rfl⟩
       obtain⟨e2,S2,hset⟩:=hset;obtain⟨vs,fs,bs,S3,r1,r2,r3,r4⟩:=bh0 hset;rw[h13]at r1;obtain⟨ct,u1,u2,u3,u4,u5,u6,u7,u8⟩:=cN7 hR h7 q5 q3 h6 g2 hro h12 r1 (aU8 h8 _) r2;refine⟨ct,e2,u1,by rw[hset,r4,u2],u6, ?_,bt5 u5 r2 u2 fun q hq hn hm hdm b' y' hb hy=> ?_,hk⟩
       ·rw[r3];exact aG5 (aq7 (he.frame u5) hk) u7
       ·refine(u8 q hq hn ?_).2 b' y' hb hy;obtain⟨v1,v2,v3,_⟩:=kT r2;rw[mQ]at v2;rw[u2,nD (by rw[v2];exact hq),v3 q hn,mP hq,bD,kM hn];rcases hm with hm|hz
        ·rw[kM hm,zD,zD,zC,gh];exact hdm
        ·rw[hz];cases mW q (oB st.m)with
         |true=>exact hdm
         |false=>rw[zD,zD,zC,gh];exact hdm
      |exit i=>
       simp only at h9⊢;obtain⟨s',h10,h11⟩:=bq h9;injection h11 with h11
       subst h11;simp only[di]at hl2;injection hl2 with hl2
       subst hl2;exact bD4 hR he h7 q5 q3 h6 g2 hk h8 h10 h3
      |ret=>
       simp only at h9⊢;obtain⟨s',h10,h11⟩:=bq h9;injection h11 with h11
       subst h11;simp only[di]at hl2;injection hl2 with hl2
       subst hl2;exact bD4 hR he h7 q5 q3 h6 g2 hk h8 h10 h3
    refine⟨fa,round fa t0 ea c.σ ?_ h2⟩
    have hset: ∃e2 S2,ap3 e c.S fx (oB st.m) (lH b) true head.ts head.sk t0=some (e2,S2):=by
     have hb:fa=(fa-1)+1:=rfl;rw[hb,de]at h2;obtain⟨z',hl3,_⟩:=bq h2;cases hz:ap3 e c.S fx (oB st.m) (lH b) true head.ts head.sk t0 with
     |none=>rw[hz]at hl3;cases hl3
     |some q=>exact⟨q.1,q.2,rfl⟩
    obtain⟨e2,S2,hset⟩:=hset;obtain⟨vs,fs,bs,S3,r1,r2,r3,r4⟩:=bh0 hset;rw[aF8 h1]at r1;obtain⟨ct,u1,u2,u3,u4,u5,u6,u7⟩:=cj5 hR g2 g1 hd r1 (aU8 he _) r2;refine⟨ct,e2,u1,by rw[hset,r4,u2],u6, ?_,bt5 u5 r2 u2 fun q hq hn hm hdm b' y' hb hy=>by rw[u1];exact hy,qY.refl _ _⟩;rw[r3];exact aG5 (aq7 (he.frame u5) (qY.refl _ _)) u7
   ·cases h
  ·exact⟨_,aF5 (fun at'' {β y c e ea k} hR he h=>qI b at'' hR he h) at' hR he h⟩
end
end
section
open Nat renaming le_of_ble_eq_true → aB, zero_add → aD
theorem aU9 {c:Ctx}{e:ej}{ea:dh}(hR:fe c)(he:bz c e ea): ∀{rs:List ARes} {vs:List VV},aG9 e c.S rs=some vs→∃us,aM4 ea c.σ rs=some us∧F2 (VRel c) vs us
 |[],vs,h=>by injection h with h;subst h;exact⟨[],rfl, .nil⟩
 |r::rs,vs,h=>by
  simp only[aG9]at h;obtain⟨v,h1,h⟩:=bq h;obtain⟨vs',h2,h⟩:=bq h;injection h with h
  subst h;obtain⟨us,h3,h4⟩:=aU9 hR he h2
  have key: ∃u,bf7 ea c.σ r=some u∧VRel c v u:=by
   cases r with
   |tmp t=>
    simp only[cH4]at h1;injection h1 with h1
    subst h1;exact⟨_,rfl,he t⟩
   |cell t=>
    simp only[cH4]at h1;split at h1
    ·rename_i b o hp;split at h1
     ·rename_i es z l hb;have ht:=he t;rw[hp]at ht;cases ht with
      |ptr hk _ hd=>
       have hdim:(bn c.S b).dim=some (es,l.length):=by rw[hb];rfl
       obtain⟨bb,hm,ha⟩:=hd _ hdim;have hs:=hR.stands hdim hm;rw[hb]at hs;obtain⟨y,a,h5,h6,h7⟩:=hs.get h1;refine⟨a, ?_,h7⟩;rw[aD]at h6;simp only[bf7,ha,h5,zG,h6]
     ·cases h1
    ·cases h1
   |cellN t n=>
    simp only[cH4]at h1;split at h1
    ·rename_i b o hp;split at h1
     ·rename_i es z l hb;cases hc:Nat.ble (o+n) l.length with
      |false=>rw[hc]at h1;cases h1
      |true=>
       rw[hc]at h1;injection h1 with h1
       subst h1;have ht:=he t;rw[hp]at ht;cases ht with
       |ptr hk _ hd=>
        have hdim:(bn c.S b).dim=some (es,l.length):=by rw[hb];rfl
        obtain⟨bb,hm,ha⟩:=hd _ hdim;have hs:=hR.stands hdim hm;rw[hb]at hs;obtain⟨y,as,h5,h6,h7⟩:=hs.read (aB hc);rw[aD]at h6;refine⟨.agg as.toArray, ?_, .agg (by simp only[Blk.vals]at h7;simpa using h7)⟩;simp only[bf7,ha,h5,zG,h6,Option.map_some]
     ·cases h1
    ·cases h1
  obtain⟨u,h5,h6⟩:=key;exact⟨u::us,by simp only[aM4,h5,h3], .cons h6 h4⟩
theorem bG8 {c:Ctx}{vs:List VV}{us:List Value}(h:F2 (VRel c) vs us):VRel c (bT2 vs) (xN us):=by
 cases h with
 |nil=>exact .tup .nil
 |cons h1 h2=>
  cases h2 with
  |nil=>exact h1
  |cons h2 h3=>exact .tup (by simpa using F2.cons h1 (F2.cons h2 h3))
theorem aZ4 {c:Ctx}{vs:List VV}{as:List Value}(h:F2 (VRel c) vs as):bz c vs (dh.of as):=by
 intro t
 have hg: ∀(l:List VV) (i:Nat),mS l i=(l[i]?).getD .undef:=by
  intro l;induction l with
  |nil=>intro i;simp[mS]
  |cons a l ih=>intro i;cases i with
   |zero=>simp[mS]
   |succ i=>simp[mS,ih]
 rw[hg];unfold dh.of;cases hv:vs[t]? with
 |none=>exact .undef _
 |some v=>
  obtain⟨a,h1,h2⟩:=h.get t v hv;rw[h1];exact h2
theorem aZ9 : ∀{n q:Nat},q<n→q∈aZ8 n
 |n+1,q,h=>by
  by_cases e:q=n
  ·subst e;exact List.mem_cons_self
  ·exact List.mem_cons_of_mem _ (aZ9 (by omega))
theorem cx8 {P:Program}{f:FuncId}{tab:Tab}{vals:List Sk}{objs:List OSk}{outs:List Alt}{at':AT}{run:Tup (wH.shs ⟨vals,[],objs⟩)→Option (tX outs)}(ht:ki P tab.fs)(hi:bt P tab.is)
  (he: ∀t o,run t=some o→bb7 P f tab vals objs outs at' t=some o):uW P ⟨f,vals,objs,outs,run⟩:=by
 intro B μ σ w args cargs K hs hR0 ha;obtain⟨c,vals',st,t,o,p,v,fs,bs,S',h1,hR,hf,hd,hl,hcut,hok,hrun,hp,henc,hS,hK⟩:=hs;subst h1;have hev:=he t o hrun;unfold bb7 at hev;split at hev
 ·rename_i af vs fs0 S0 htr hen;obtain⟨hg,hev⟩:=ca hev;refine cd6 htr (cz tab) (ap7 ht hi) B μ c.σ w args cargs K ?_ hR0 ha;have htl:toL (wH.shs ⟨vals,[],objs⟩) t=st.ls:=aF8 hl;rw[htl]at hen;obtain⟨hE,hfv⟩:=enter hR rfl hd hen hf;have hlen:args.length≤af.ntmps:=by rw[←hfv.length];exact aB hg
  refine⟨hlen, ?_⟩;obtain⟨l1,l2⟩:=hE.len;have hbody:=qI af.body at' (c:=mF c st S0) hE.rel (aZ4 hfv) hev;refine ic (cz tab) af.body _ _ (fun x ea σ' hx=> ?_) _ _ hbody;obtain⟨e',c',h2,h3,h4,h5,h6⟩:=hx;subst h2
  have fin:(match aG9 e' c'.S af.results with
    |some rs=>uH c'.S S0.length (sE objs 0) (fun _=>[bT2 rs]) (fun _=>true) outs
    |none=>none)=some o→(match aM4 ea c'.σ af.results with
    |some vs=>K (xN vs) c'.σ
    |none=>False):=by
   intro h7;split at h7
   ·rename_i rs hrs;obtain⟨us,h8,h9⟩:=aU9 h4 h5 hrs;rw[h8];simp only;obtain⟨p',q1,_,q3⟩:=ar0 h7;simp only at hp;rw[hp]at q1;injection q1 with q1
    subst q1;obtain⟨hro,st',q4,q5⟩:=ar1 q3;obtain⟨ap1,_⟩:=pp hd;have hnd:=pm ap1;rw[List.nil_append]at hnd;simp only at henc hS hcut hok;rw[q5]at henc
    have hlent: ∀(i:Nat) (o:OSk) (x:Src),objs[i]?=some o→o.ro=true→st.m[i]?=some (some x)→x.k∈st.lent:=by
     intro i o x g1 g2 g3;unfold oA at hd;obtain⟨st1,d1,hd⟩:=bq hd;obtain⟨st2,d2,hd⟩:=bq hd;obtain⟨st3,d3,hd⟩:=bq hd
     have:st3=st:=by
      cases hb:(av5 ([]++oB st3.m)&&ac5 ([]++kU (FSum.ins ⟨f,vals,objs,outs,run⟩).free st3.m) st3.lent)with
      |false=>rw[hb]at hd;cases hd
      |true=>rw[hb]at hd;injection hd
     subst this;exact bF7 d3 i o x g1 g2 (by rw[aD];exact g3)
    obtain⟨ct,r1,r2,r3,r4,r5,r6⟩:=bf8 hR rfl hE h3 h4 hcut hok hnd hlent hro (by rw[←l1];exact q4) henc (.cons (bG8 h9) .nil) hS;cases r5 with
    |cons r5 _=>exact hK _ _ ⟨ct,r1,r2,r3,r4,r5,r6⟩
   ·cases h7
  cases x with
  |exit i=>cases h6
  |normal=>exact fin h6
  |ret=>exact fin h6
 ·cases hev
theorem i4 {P:Program}{f:FuncId}{tab:List FSum}{ins:List Inl}{vals:List Sk}{objs:List OSk}{outs:List Alt}{at':AT}{run:Tup (wH.shs ⟨vals,[],objs⟩)→Option (tX outs)}(ht:ki P tab)(hi:bt P ins)
  (he: ∀t,bb7 P f ⟨tab,ins⟩ vals objs outs at' t=run t):uW P ⟨f,vals,objs,outs,run⟩:=cx8 (tab:=⟨tab,ins⟩) ht hi fun t o h=>(he t).trans h
theorem cx7 {P:Program}{f:FuncId}{tab:List FSum}{vals:List Sk}{objs:List OSk}{outs:List Alt}{at':AT}{run:Tup (wH.shs ⟨vals,[],objs⟩)→Option (tX outs)}(ht:ki P tab)
  (he: ∀t,bb7 P f ⟨tab,[]⟩ vals objs outs at' t=run t):uW P ⟨f,vals,objs,outs,run⟩:=i4 ht (bt.nil P) he
theorem cy {P:Program}{f:FuncId}{tab:List FSum}{ins:List Inl}{at':AT}(ht:ki P tab)(hi:bt P ins):bV4 P ⟨f,gi P f ⟨tab,ins⟩ at'⟩:=by
 intro B μ σ w args cargs K hs hR0 ha;obtain⟨β,y,c,vals,k,h1,hR,hf,hev,hK⟩:=hs;subst h1;simp only[gi]at hev;split at hev
 ·rename_i af htr;obtain⟨hg,hev⟩:=ca hev;refine cd6 htr (cz ⟨tab,ins⟩) (ap7 (tab:=⟨tab,ins⟩) ht hi) B μ c.σ w args cargs K ?_ hR0 ha;have hlen:args.length≤af.ntmps:=by rw[←hf.length];exact aB hg
  refine⟨hlen, ?_⟩;have hbody:=qI af.body at' (c:=c) hR (aZ4 hf) hev;refine ic (cz ⟨tab,ins⟩) af.body _ _ (fun x ea σ' hx=> ?_) _ _ hbody;obtain⟨e',c',h2,h3,h4,h5,h6⟩:=hx;subst h2
  have fin:(match aG9 e' c'.S af.results with
    |some rs=>k (bT2 rs) c'.S
    |none=>none)=some y→(match aM4 ea c'.σ af.results with
    |some vs=>K (xN vs) c'.σ
    |none=>False):=by
   intro h7;split at h7
   ·rename_i rs hrs;obtain⟨us,h8,h9⟩:=aU9 h4 h5 hrs;rw[h8];exact hK _ _ ⟨bT2 rs,c',rfl,h3,h4,fun q hq hn=>(hn (aZ9 hq)).elim,bG8 h9,h7⟩
   ·cases h7
  cases x with
  |exit i=>cases h6
  |normal=>exact fin h6
  |ret=>exact fin h6
 ·cases hev
def ay6 :List Alt:=[⟨.ret,[],⟨[.leaf .bool],[],[]⟩⟩]
def ta (σ:Hp):Ctx:=⟨fun _=>none,[],σ,fun _=>False⟩
theorem bY0 {σ:Hp}(h:σ.Ok):fe (ta σ):=
 ⟨h,fun k k' b hz _ _ _=>(by cases hz),fun k d hd=>(by cases hd),fun k b hd=>(hd rfl).elim,fun b hb=>hb.elim⟩
theorem ay5 {σ:Hp}(b:Nat): ¬(ta σ).mut b:=by
 rintro(⟨k,h,_⟩|h)
 ·cases h
 ·exact h
theorem ct5 {P:Program}{f:FuncId}{vals:List Sk}{run:Tup (wH.shs ⟨vals,[],[]⟩)→Option (tX ay6)}(h:uW P ⟨f,vals,[],ay6,run⟩){w:World}(hT:ch7 P w){rows:List Row}{args:List Value}{cargs:Array Value}{vs:List VV}{st:DSt}{t:Tup (wH.shs ⟨vals,[],[]⟩)}
  (hrows: ∀r∈rows,∀(i:Nat) (v:Value),r.cells[i]?=some v→∃v',w.cell? ⟨r.c,r.o+i,none⟩=some v'∧VR (nC rows) v v') (hargs:F2 (VR (nC rows)) args cargs.toList)
  (hv:F2 (VRel (ta (mT w.heap.size rows))) vs args) (hd:oA [] 0 [] ⟨vals,[],[]⟩ vs=some st) (hl:ofL _ st.ls=some t) (hr:run t=some true):
  Calls P f cargs w fun e w'=>e= .returned (.bool true)∧Go.RowKit.Below w.heap.size w w':=by
 have hm:st.m=[]:=by
  unfold oA at hd;obtain⟨st1,d1,hd⟩:=bq hd;obtain⟨st2,d2,hd⟩:=bq hd;obtain⟨st3,d3,hd⟩:=bq hd
  have:st3=st:=by
   cases hb:(av5 ([]++oB st3.m)&&ac5 ([]++kU ([]:List OSk) st3.m) st3.lent)with
   |false=>rw[hb]at hd;cases hd
   |true=>rw[hb]at hd;injection hd
  subst this;simp only[sB]at d3;cases hb:Nat.beq 0 st2.m.length with
  |false=>rw[hb]at d3;cases d3
  |true=>
   rw[hb]at d3;injection d3 with d3
   subst d3;exact List.length_eq_zero_iff.1 (Nat.eq_of_beq_eq_true hb).symm
 refine cR0 (S:=(FSum.mk f vals [] ay6 run).spec) h hT hrows hargs ?_;refine⟨ta (mT w.heap.size rows),vs,st,t,true,⟨⟨.ret,[],⟨[.leaf .bool],[],[]⟩⟩,true⟩, .bool true,[],[],cond (af9 [.bool true] [] []) (ag1 st.lent []) [],rfl,bY0 cH7,hv,hd,hl,by rw[hm];rfl,by rw[hm];rfl,hr,rfl,rfl,by rw[hm];rfl, ?_⟩;rintro r σ' ⟨ct,_,_,_,_,hrel,_⟩;exact hrel.bool_inv
end
section
open List renaming getElem?_eq_getElem → aB
theorem cl1 {α γ:Type}{f:α→Option (α⊕γ)}(I:α→Prop)(m:α→Nat)(Q:γ→Prop)(h: ∀a,I a→(∃b,f a=some (.inl b)∧I b∧m b<m a)∨∃c,f a=some (.inr c)∧Q c): ∀(n:Nat) (a:α),I a→m a<n→∃c,bw f n a=some c∧Q c:=by
 intro n;induction n with
 |zero=>intro a _ h1;omega
 |succ n ih=>
  intro a hI hm;rcases h a hI with⟨b,h1,h2,h3⟩|⟨c,h1,h2⟩
  ·obtain⟨c,h4,h5⟩:=ih b h2 (by omega);exact⟨c,by rw[de,h1];exact h4,h5⟩
  ·exact⟨c,by rw[de,h1];rfl,h2⟩
theorem uf {α γ:Type}{f:α→Option (α⊕γ)}{a:α}(I:α→Prop)(m:α→Nat)(Q:γ→Prop)(h0:I a)(hm:m a<18446744073709551616)(h: ∀a,I a→(∃b,f a=some (.inl b)∧I b∧m b<m a)∨∃c,f a=some (.inr c)∧Q c): ∃c,bw f fa a=some c∧Q c:=
 cl1 I m Q h fa a h0 hm
theorem cE0 {α γ:Type}{f:α→Option (α⊕γ)}{a:α}{c:γ}(I:α→Prop)(m:α→Nat)(h0:I a)(hm:m a<18446744073709551616)(h: ∀a,I a→(∃b,f a=some (.inl b)∧I b∧m b<m a)∨f a=some (.inr c)):bw f fa a=some c:=by
 obtain⟨c',h1,h2⟩:=uf I m (· =c) h0 hm fun a ha=>by
  rcases h a ha with h|h
  ·exact .inl h
  ·exact .inr ⟨c,h,rfl⟩
 rw[h1,h2]
theorem br {α:Type}{p:Prop}[Decidable p]{x y:α}:cond (decide p) x y=if p then x else y:=by by_cases h:p<;>simp[h]
theorem du {β:Type}{x:Option β}:gd true x=x:=rfl
theorem cQ2 {β:Type}{p:Prop}[Decidable p]{x:Option β}(h:p):gd (decide p) x=x:=by rw[zB h];rfl
theorem df {β:Type}{n b:Nat}{x:Option β}(h:n*b≤140737488355328)(hb:1≤b):gd (iq n b) x=x:=by
 have:iq n b=true:=by
  unfold iq;rw[zB h,Bool.true_and];exact Nat.ble_eq_true_of_le hb
 rw[this];rfl
theorem cq {α:Type}{l:List α}{i:Nat}(h:i<l.length):rd l (i:Int)=some l[i]:=by
 unfold rd;rw[zB (by omega),zC,Int.toNat_natCast,aB h]
theorem bF1 {α:Type}{l:List α}{i:Int}(h0:0≤i)(h:i<l.length):rd l i=some (l[i.toNat]'(by omega)):=by
 unfold rd;rw[zB h0,zC,aB (by omega)]
theorem bm {n:Int}(h: -9223372036854775808≤n∧n≤9223372036854775807):IntKind.i64.wrap n=n:=IntWalk.i64_in _ h
theorem kg {α γ β:Type}{a:α}{f:α→Option β}{g:γ→Option β}:di (.inl a) f g=f a:=rfl
theorem dp {α γ β:Type}{a:γ}{f:α→Option β}{g:γ→Option β}:di (.inr a) f g=g a:=rfl
theorem aN9.lst {k:IntKind}{w:World}{a:Option Addr}{len cap:Nat}{zs:List Int}{rows:List Row}{j:Nat}(h:aN9 k w a len cap zs)(hr:rows[j]?=some (aH0 k a cap zs)):
  VRel (ta (mT w.heap.size rows)) (.lst (.int k) (zs.take len)) (cx9 j a len cap):=by
 rcases h with⟨rfl,rfl,rfl,rfl⟩|⟨x,rfl,hl,hm,hz,hc,hw⟩
 ·exact .lstn fun z hz=>by cases hz
 ·by_cases h0:cap=0
  ·have:len=0:=by omega
   subst h0;subst this;have:zs.take 0=([]:List Int):=rfl;rw[this];exact .lstn fun z hz=>by injection hz with hz;rw[←hz]
  ·have hz0:0<zs.length:=by omega
   have hlt:x.block<w.heap.size:=bB9 (x:=⟨x.block,x.off+0,none⟩) (wJ (as8 (hc 0 hz0)) (hc 0 hz0))
   have hm:(mT w.heap.size rows).m j=some ⟨zs.map (Value.int k),false,1⟩:=by
    simp only[mT,hr,zG,aH0,zE hlt]
   refine .lst (ay5 j) hm rfl (by rw[List.length_take];omega) hl ?_ ?_
   ·simp only[List.length_map,Nat.zero_add];show len*1≤zs.length;omega
   ·rw[List.drop_zero];show F2 _ _ ((zs.map (Value.int k)).take (len*1));rw[Nat.mul_one,←List.map_take];generalize zs.take len=l;induction l with
    |nil=>exact .nil
    |cons n l ih=>exact .cons (.int _ _) ih
end
section
def an3 (a:AFn)(tab:Tab)(vals:List Sk)(objs:List OSk)(outs:List Alt)(at':AT)(t:Tup (wH.shs ⟨vals,[],objs⟩)):Option (tX outs):=
 match pq id ⟨vals,[],objs⟩ (toL _ t)with
 |some (vs,_,S)=>gd (Nat.ble vs.length a.ntmps) (eval tab a.body at' (tX outs) vs S fun x e S'=>match x with
  | .exit _=>none
  |_=>(match aG9 e S' a.results with
   |some rs=>uH S' S.length (sE objs 0) (fun _=>[bT2 rs]) (fun _=>true) outs
   |none=>none))
 |_=>none
theorem bn5 {P:Program}{f:FuncId}{af:AFn}{tab:Tab}{vals:List Sk}{objs:List OSk}{outs:List Alt}{at':AT}{run:Tup (wH.shs ⟨vals,[],objs⟩)→Option (tX outs)}(ht:ki P tab.fs)(hi:bt P tab.is)(htr:bT0 P f=some af)(hen0: ∀t:Tup (wH.shs ⟨vals,[],objs⟩),∃r,pq id ⟨vals,[],objs⟩ (toL _ t)=some r)
  (he: ∀t o vs fs S,run t=some o→pq id ⟨vals,[],objs⟩ (toL _ t)=some (vs,fs,S)→∀(c:Ctx) args,F2 (VRel c) vs args→
   ∃b,an3 ⟨af.ntmps,af.results,b⟩ tab vals objs outs at' t=some o∧∀T (_:qZ T) Q σ,vb T b Q (dh.of args) σ→vb T af.body Q (dh.of args) σ):uW P ⟨f,vals,objs,outs,run⟩:=by
 intro B μ σ w args cargs K hs hR0 ha;obtain⟨c,vals',st,t,o,p,v,fs,bs,S',h1,hR,hf,hd,hl,hcut,hok,hrun,hp,henc,hS,hK⟩:=hs;subst h1;have htl:toL (wH.shs ⟨vals,[],objs⟩) t=st.ls:=aF8 hl;cases hen:pq id ⟨vals,[],objs⟩ (toL (wH.shs ⟨vals,[],objs⟩) t)with
 |none=>
  obtain⟨r,q⟩:=hen0 t;rw[hen]at q;cases q
 |some tr=>
 obtain⟨vs,fs0,S0⟩:=tr;refine cd6 htr (cz tab) (ap7 ht hi) B μ c.σ w args cargs K ?_ hR0 ha;have hen':=hen;rw[htl]at hen;obtain⟨hE,hfv⟩:=enter hR rfl hd hen hf;obtain⟨bd,hev,himp⟩:=he t o vs fs0 S0 hrun hen' _ _ hfv;unfold an3 at hev;rw[hen']at hev;obtain⟨hg,hev⟩:=ca hev;have hlen:args.length≤af.ntmps:=by rw[←hfv.length];exact Nat.le_of_ble_eq_true hg
 refine⟨hlen,himp _ (cz tab) _ _ ?_⟩;obtain⟨l1,l2⟩:=hE.len;have hbody:=qI bd at' (c:=mF c st S0) hE.rel (aZ4 hfv) hev;refine ic (cz tab) bd _ _ (fun x ea σ' hx=> ?_) _ _ hbody;obtain⟨e',c',h2,h3,h4,h5,h6⟩:=hx;subst h2
 have fin:(match aG9 e' c'.S af.results with
   |some rs=>uH c'.S S0.length (sE objs 0) (fun _=>[bT2 rs]) (fun _=>true) outs
   |none=>none)=some o→(match aM4 ea c'.σ af.results with
   |some vs=>K (xN vs) c'.σ
   |none=>False):=by
  intro h7;split at h7
  ·rename_i rs hrs;obtain⟨us,h8,h9⟩:=aU9 h4 h5 hrs;rw[h8];simp only;obtain⟨p',q1,_,q3⟩:=ar0 h7;simp only at hp;rw[hp]at q1;injection q1 with q1
   subst q1;obtain⟨hro,st',q4,q5⟩:=ar1 q3;obtain⟨ap1,_⟩:=pp hd;have hnd:=pm ap1;rw[List.nil_append]at hnd;simp only at henc hS hcut hok;rw[q5]at henc
   have hlent: ∀(i:Nat) (o:OSk) (x:Src),objs[i]?=some o→o.ro=true→st.m[i]?=some (some x)→x.k∈st.lent:=by
    intro i o x g1 g2 g3;unfold oA at hd;obtain⟨st1,d1,hd⟩:=bq hd;obtain⟨st2,d2,hd⟩:=bq hd;obtain⟨st3,d3,hd⟩:=bq hd
    have:st3=st:=by
     cases hb:(av5 ([]++oB st3.m)&&ac5 ([]++kU (FSum.ins ⟨f,vals,objs,outs,run⟩).free st3.m) st3.lent)with
     |false=>rw[hb]at hd;cases hd
     |true=>rw[hb]at hd;injection hd
    subst this;exact bF7 d3 i o x g1 g2 (by rw[Nat.zero_add];exact g3)
   obtain⟨ct,r1,r2,r3,r4,r5,r6⟩:=bf8 hR rfl hE h3 h4 hcut hok hnd hlent hro (by rw[←l1];exact q4) henc (.cons (bG8 h9) .nil) hS;cases r5 with
   |cons r5 _=>exact hK _ _ ⟨ct,r1,r2,r3,r4,r5,r6⟩
  ·cases h7
 cases x with
 |exit i=>cases h6
 |normal=>exact fin h6
 |ret=>exact fin h6
def bW5 (es bytes:Nat)(z:List Value)(c:AOp)(n:AOp):AC:=
 .seq (.region [⟨some 2, .move (.const (.slice none 0 0)),none⟩]) (.seq (.seq (.region [⟨some 3, .move (.tmp 0),none⟩,⟨some 4,c,none⟩]) (.cond (.tmp 4) (.seq (.region [⟨some 2,n,none⟩]) .ret) .skip))
  (.seq (.region [⟨some 5, .buildSlice es 0 z [],none⟩,⟨some 6, .move (.tmp 0),none⟩,⟨some 7, .append es bytes (.tmp 5) (.tmp 6),none⟩,⟨some 2, .move (.tmp 7),none⟩]) .ret))
def bC1 (es bytes:Nat)(z:List Value):AFn:=⟨8,[.tmp 2],bW5 es bytes z (.eqv 2 false (.tmp 3) (.const (.slice none 0 0))) (.move (.const (.slice none 0 0)))⟩
def cB1 (es bytes:Nat)(z:List Value):AFn:=⟨8,[.tmp 2],bW5 es bytes z (.move (.const (.bool false))) (.move (.const (.slice none 0 0)))⟩
def cr2 (es bytes:Nat)(z:List Value):AFn:=⟨8,[.tmp 2],bW5 es bytes z (.move (.const (.bool true))) (.append es bytes (.const (.slice none 0 0)) (.tmp 0))⟩
def wK (s:Sh):List Alt:=[⟨.ret,[],⟨[.full 0],[],[.arr false s]⟩⟩]
theorem an0 {P:Program}{f:FuncId}{es bytes:Nat}{z:List Value}{s:Sh}(htr:bT0 P f=some (bC1 es bytes z))
  (h0: ∀t:Tup (wH.shs ⟨[.leaf (.list s)],[],[]⟩),pq id ⟨[.leaf (.list s)],[],[]⟩ (toL _ t)=some ([.lst s t],[],[]))
  (h1: ∀l:List (El s),an3 (cB1 es bytes z) ⟨[],[]⟩ [.leaf (.list s)] [] (wK s) .no l=gd (iq (0+l.length) bytes) (some l))
  (h2:an3 (cr2 es bytes z) ⟨[],[]⟩ [.leaf (.list s)] [] (wK s) .no ([]:List (El s))=gd (iq (0+0) bytes) (some ([]:List (El s)))):
  uW P ⟨f,[.leaf (.list s)],[],wK s,fun l:List (El s)=>gd (iq (0+l.length) bytes) (some l)⟩:=by
 refine bn5 (at':= .no) (tab:=⟨[],[]⟩) (ki.nil P) (bt.nil P) htr (fun t=>⟨_,h0 t⟩) fun t o vs fs S hrun hen c args ha=> ?_
 have hvs:vs=[.lst s t]:=by
  rw[h0 t]at hen;injection hen with hen
  injection hen with hen
  exact hen.symm
 subst hvs;cases ha with
 |cons ha hb=>
 cases hb
 have no: ∀q n cp (args:List Value),args=[.slice (some q) n cp]→∃b,an3 ⟨(bC1 es bytes z).ntmps,(bC1 es bytes z).results,b⟩ ⟨[],[]⟩ [.leaf (.list s)] [] (wK s) .no t=some o∧
   ∀T (_:qZ T) Q σ,vb T b Q (dh.of args) σ→vb T (bC1 es bytes z).body Q (dh.of args) σ:=by
  rintro q n cp args rfl;exact⟨_,(h1 t).trans hrun,fun T _ Q σ h=>h⟩
 cases ha with
 | @lst s l b p n cp y h3 h4 h5 h6 h7 h8 h9=>exact no _ _ _ _ rfl
 | @lstn s q h3=>
  cases q with
  |some q=>exact no _ _ _ _ rfl
  |none=>exact⟨_,h2.trans hrun,fun T _ Q σ h=>h⟩
theorem lK {P:Program}{f:FuncId}{vals:List Sk}{objs:List OSk}{outs:List Alt}{run:Tup (wH.shs ⟨vals,[],objs⟩)→Option (tX outs)}(h: ∀t,run t=none):uW P ⟨f,vals,objs,outs,run⟩:=by
 intro B μ σ w args cargs K hs;obtain⟨c,vals',st,t,o,p,v,fs,bs,S',h1,hR,hf,hd,hl,hcut,hok,hrun,_⟩:=hs;have hrun:run t=some o:=hrun;rw[h t]at hrun;cases hrun
end
open Go.Ab Go.ChangeShapes Go.WideShapes
section
theorem ck9 {P:Program}{f:FuncId}{vals:List Sk}{run:Tup (wH.shs ⟨vals,[],[]⟩)→Option (tX ay6)}(h:uW P ⟨f,vals,[],ay6,run⟩){w:World}(hT:ch7 P w){rows:List Row}{args:List Value}{cargs:Array Value}{vs:List VV}(t:Tup (wH.shs ⟨vals,[],[]⟩))
  (hrows: ∀r∈rows,∀(i:Nat) (v:Value),r.cells[i]?=some v→∃v',w.cell? ⟨r.c,r.o+i,none⟩=some v'∧VR (nC rows) v v') (hargs:F2 (VR (nC rows)) args cargs.toList)
  (hv:F2 (VRel (ta (mT w.heap.size rows))) vs args) (hd:((oA [] 0 [] ⟨vals,[],[]⟩ vs).bind fun st=>ofL _ st.ls)=some t) (hr:run t=some true):
  Calls P f cargs w fun e w'=>e= .returned (.bool true)∧Go.RowKit.Below w.heap.size w w':=by
 obtain⟨st,h1,h2⟩:=bq hd;exact ct5 h hT hrows hargs hv h1 h2 hr
end
section
open Int renaming tmod → aB, tmod_lt_of_pos → aD
theorem wV {α δ:Type}{f:α→Option (α⊕δ)}{n:Nat}(F:Nat→α){c:δ}(hn:n<9223372036854775808)(hs: ∀i,i<n→f (F i)=some (.inl (F (i+1))))(he:f (F n)=some (.inr c)):bw f fa (F 0)=some c:=by
 have key: ∀k i m,i+k=n→k<m→bw f m (F i)=some c:=by
  intro k;induction k with
  |zero=>
   intro i m h1 h2;obtain⟨m,rfl⟩: ∃m',m=m'+1:=⟨m-1,by omega⟩
   have:i=n:=by omega
   subst this;show(f (F i)).bind _=_;rw[he];rfl
  |succ k ih=>
   intro i m h1 h2;obtain⟨m,rfl⟩: ∃m',m=m'+1:=⟨m-1,by omega⟩
   show(f (F i)).bind _=_;rw[hs i (by omega)];exact ih (i+1) m (by omega) (by omega)
 exact key n 0 fa (by omega) (by unfold fa;omega)
theorem fh {γ δ:Type}{f:(Int×γ)→Option ((Int×γ)⊕δ)}{n:Nat}(F:Nat→γ){c:δ}(hn:n<9223372036854775808)(hs: ∀i,i<n→f ((i:Int),F i)=some (.inl (((i+1:Nat):Int),F (i+1))))(he:f ((n:Int),F n)=some (.inr c)):bw f fa (0,F 0)=some c:=
 wV (fun i=>((i:Int),F i)) hn hs he
theorem pQ {δ:Type}{f:Int→Option (Int⊕δ)}{n:Nat}{c:δ}(hn:n<9223372036854775808)(hs: ∀i:Nat,i<n→f (i:Int)=some (.inl ((i+1:Nat):Int)))(he:f (n:Int)=some (.inr c)):bw f fa 0=some c:=
 wV (fun i=>(i:Int)) hn hs he
theorem db7 (n:Int):IntKind.u64.wrap n=n % 18446744073709551616:=by rfl
theorem qx {n:Int}(h:0≤n∧n<18446744073709551616):IntKind.u64.wrap n=n:=by
 rw[db7];omega
theorem ce {k n:Nat}(h:k<n):ix (k:Int) n=some k:=by
 unfold ix;rw[zB (show(0:Int)≤k by omega),zB (show(k:Int)<n by omega)];rfl
theorem gm {a b:Int}{n:Nat}(h:0≤a∧a≤b∧b≤n):jK a b n=true:=by
 unfold jK;rw[zB h.1,zB h.2.1,zB h.2.2];rfl
theorem ch1 {a b:Int}(h:0≤a):Int.tdiv a b=a / b:=Int.tdiv_eq_ediv_of_nonneg h
theorem spot {L:Nat}(h0:0<L)(hL:L≤1000000){a:Int}(ha: -9223372036854775808≤a∧a≤9223372036854775807): ∃k:Nat,k<L∧aB (IntKind.i64.wrap (aB a (L:Int)+(L:Int))) (L:Int)=(k:Int):=by
 have hp:(0:Int)<(L:Int):=by omega
 have h1:=aD a hp;have h2:=Int.lt_tmod_of_pos a hp;rw[bm (by omega)];have h3:=Int.tmod_nonneg (L:Int) (show 0≤aB a (L:Int)+(L:Int)by omega);have h4:=aD (aB a (L:Int)+(L:Int)) hp;exact⟨(aB (aB a (L:Int)+(L:Int)) (L:Int)).toNat,by omega,by omega⟩
end
section
open List renaming append_nil → aD, append_assoc → bB, getElem?_eq_getElem → bD, getElem?_append_left → cD, length_append → dB, drop_zero → dD, getElem?_append_right → eD, length_cons → gN, length_take → gO, take_of_length_le → gP
open Nat renaming beq → aB, eq_of_beq_eq_true → cB, le_refl → fB, not_lt_zero → fD, zero_add → gB, zero_mul → gD, eq_zero_or_pos → gQ
open Option renaming map_some → gR
def kA (w:World):(s:Sh)→List Value→El s→Prop
 | .int k,cs,n=>cs=[.int k n]∧(Lit.int k n).wf=true
 | .bool,cs,b=>cs=[.bool b]
 | .str,cs,l=> ∃s:ByteArray,cs=[.string s]∧dw s=l∧s.size≤maxLen
 | .list s,cs,l=>(cs=[.slice none 0 0]∧l=[])∨∃(a:Addr) (len cap:Nat) (ys:List (El s)),cs=[.slice (some a) len cap]∧len≤cap∧cap≤maxLen∧ys.length=cap∧l=ys.take len∧
   ∀i y,ys[i]?=some y→∃zs,(∀j z,zs[j]?=some z→w.cell? (a.add (i*s.w+j))=some z)∧kA w s zs y
 | .pair a b,cs,x=> ∃c1 c2,cs=c1++c2∧kA w a c1 x.1∧kA w b c2 x.2
theorem kA.len {w:World}: ∀{s:Sh} {cs:List Value} {x:El s},kA w s cs x→cs.length=s.w
 | .int k,_,_,⟨h,_⟩=>by subst h;rfl
 | .bool,_,_,h=>by
  have h:_=[Value.bool _]:=h;subst h;rfl
 | .str,_,_,⟨s,h,_⟩=>by subst h;rfl
 | .list s,_,_,h=>by
  rcases h with⟨h,_⟩|⟨a,len,cap,ys,h,_⟩<;>subst h<;>rfl
 | .pair a b,_,_,⟨c1,c2,h,h1,h2⟩=>by
  subst h;rw[dB,h1.len,h2.len];rfl
def wG (w:World)(rows:List Row):Prop:= ∀r∈rows,∀(i:Nat) (v:Value),r.cells[i]?=some v→∃v',w.cell? ⟨r.c,r.o+i,none⟩=some v'∧VR (nC rows) v v'
theorem bF8 (rows more:List Row):(nC rows).le (nC (rows++more)):=by
 intro b g h;simp only[nC]at h⊢;cases hr:rows[b]? with
 |none=>rw[hr]at h;cases h
 |some r=>
  rw[hr]at h;obtain⟨hb,hr'⟩:=List.getElem?_eq_some_iff.1 hr;rw[cD hb,hr];exact h
theorem cg4 (size:Nat)(rows more:List Row):Le (ta (mT size rows)) (ta (mT size (rows++more))):=by
 have hs: ∀k,bn ([]:bu) k= .dead:=fun k=>by cases k<;>rfl
 refine⟨fB _,fun k d h=>(fD _ h).elim,fun k _ h=> ?_,fun k d b y h=>(fD _ h).elim,fun b y h _=> ?_,fun b y _ _ h=>(ay5 b (.inl h)).elim, ?_,rfl⟩
 ·rfl
 ·simp only[ta,mT]at h⊢;cases hr:rows[b]? with
  |none=>rw[hr]at h;cases h
  |some r=>
   rw[hr]at h;obtain⟨hb,hr'⟩:=List.getElem?_eq_some_iff.1 hr;rw[cD hb,hr];exact h
 ·show rows.length≤(rows++more).length;rw[dB];omega
theorem cp3 {μ μ':Mu}(h:μ.le μ'){l m:List Value}(hf:F2 (VR μ) l m):F2 (VR μ') l m:=hf.imp fun _ _ hv=>hv.mono h
theorem wG.app {w:World}{rows more:List Row}(h:wG w rows)(hm: ∀r∈more,∀(i:Nat) (v:Value),r.cells[i]?=some v→∃v',w.cell? ⟨r.c,r.o+i,none⟩=some v'∧VR (nC (rows++more)) v v'):wG w (rows++more):=by
 intro r hr i v hv;rcases List.mem_append.1 hr with hr|hr
 ·obtain⟨v',h1,h2⟩:=h r hr i v hv;exact⟨v',h1,h2.mono (bF8 _ _)⟩
 ·exact hm r hr i v hv
theorem cA4 (a:Addr)(i j:Nat):(a.add i).add j=a.add (i+j):=by
 unfold Addr.add;by_cases hj:j=0
 ·subst hj;simp
 ·by_cases hi:i=0
  ·subst hi;simp
  ·simp[hi,hj,Nat.add_assoc]
structure Built (w:World)(rows more:List Row)(acs cs:List Value)(vs:List VV):Prop where
 ok:wG w (rows++more)
 vr:F2 (VR (nC (rows++more))) acs cs
 vv:F2 (VRel (ta (mT w.heap.size (rows++more)))) vs acs
theorem Built.app {w:World}{rows m1 m2:List Row}{a1 a2 c1 c2:List Value}{v1 v2:List VV}(h1:Built w rows m1 a1 c1 v1)(h2:Built w (rows++m1) m2 a2 c2 v2):Built w rows (m1++m2) (a1++a2) (c1++c2) (v1++v2):=by
 refine⟨?_, ?_, ?_⟩
 ·rw[←bB];exact h2.ok
 ·rw[←bB];exact(cp3 (bF8 _ _) h1.vr).append h2.vr
 ·rw[←bB];exact(VRel.frames (cg4 _ _ _) h1.vv).append h2.vv
theorem Built.nil {w:World}{rows:List Row}(h:wG w rows):Built w rows [] [] [] []:=⟨by rw[aD];exact h, .nil, .nil⟩
theorem cq8 {w:World}{s:Sh}(ih: ∀{cs:List Value} {x:El s},kA w s cs x→∀{rows:List Row},wG w rows→∃more acs,Built w rows more acs cs (er s x))(a:Addr): ∀(ys:List (El s)) (k:Nat),
  (∀i y,ys[i]?=some y→∃zs,(∀j z,zs[j]?=some z→w.cell? (a.add ((k+i)*s.w+j))=some z)∧kA w s zs y)→∀{rows:List Row},wG w rows→
  ∃more acs ccs,Built w rows more acs ccs (gb s ys)∧ccs.length=ys.length*s.w∧∀i z,ccs[i]?=some z→w.cell? (a.add (k*s.w+i))=some z
 |[],k,_,rows,h=>⟨[],[],[], .nil h,by simp,fun i z hz=>by simp at hz⟩
 |y::ys,k,hy,rows,h=>by
  obtain⟨zs,h1,h2⟩:=hy 0 y rfl;obtain⟨m1,a1,h3⟩:=ih h2 h
  obtain⟨m2,a2,c2,h4,h5,h6⟩:=cq8 ih a ys (k+1) (fun i y' hy'=>by
   obtain⟨zs',h7,h8⟩:=hy (i+1) y' (by simpa using hy')
   exact⟨zs',fun j z hz=>by rw[show k+1+i=k+(i+1)by omega];exact h7 j z hz,h8⟩) h3.ok
  refine⟨m1++m2,a1++a2,zs++c2, ?_, ?_,fun i z hz=> ?_⟩
  ·have:=h3.app h4;rw[ir];exact this
  ·rw[dB,h5,h2.len,gN,Nat.succ_mul];omega
  ·have hl:=h2.len;by_cases hi:i<zs.length
   ·rw[cD hi]at hz;have:=h1 i z hz
    rwa [Nat.add_zero]at this
   ·rw[eD (by omega)]at hz;have:=h6 _ z hz;rw[show(k+1)*s.w+(i-zs.length)=k*s.w+i by rw[Nat.succ_mul];omega]at this;exact this
theorem build {w:World}: ∀(s:Sh) {cs:List Value} {x:El s},kA w s cs x→∀{rows:List Row},wG w rows→∃more acs,Built w rows more acs cs (er s x)
 | .int k,_,n,⟨h,_⟩,rows,hr=>by
  subst h;exact⟨[],_,by rw[aD];exact hr, .cons (.int _ _) .nil, .cons (.int _ _) .nil⟩
 | .bool,_,b,h,rows,hr=>by
  have h:_=[Value.bool _]:=h;subst h;exact⟨[],_,by rw[aD];exact hr, .cons (.bool _) .nil, .cons (.bool _) .nil⟩
 | .str,_,l,⟨s,h,h2,_⟩,rows,hr=>by
  subst h;exact⟨[],_,by rw[aD];exact hr, .cons (.string _) .nil, .cons (.str h2) .nil⟩
 | .pair a b,_,x,⟨c1,c2,h,h1,h2⟩,rows,hr=>by
  subst h;obtain⟨m1,a1,h3⟩:=build a h1 hr;obtain⟨m2,a2,h4⟩:=build b h2 h3.ok;exact⟨m1++m2,a1++a2,h3.app h4⟩
 | .list s,_,l,h,rows,hr=>by
  rcases h with⟨h,h2⟩|⟨a,len,cap,ys,h,hlc,hcm,hyl,hl,hy⟩
  ·subst h;subst h2;exact⟨[],_,by rw[aD];exact hr, .cons .nils .nil, .cons (.lstn fun z hz=>by cases hz) .nil⟩
  ·subst h;obtain⟨m1,a1,c1,h1,h2,h3⟩:=cq8 (fun hc=>build s hc) a ys 0 (fun i y h=>by rw[gB];exact hy i y h) hr;have hw:=nF s;rw[hyl]at h2;have hal:a1.length=cap*s.w:=by rw[h1.vr.length,h2]
   let row:Row:=⟨a.block,a.off,cap*s.w,s.w,a1⟩
   have hspot:0<cap→a.spot=none∧a.block<w.heap.size:=by
    intro hc;have hlt:0<c1.length:=by rw[h2];exact Nat.mul_pos hc hw
    have:=h3 0 _ (bD hlt);rw[gD,Nat.add_zero]at this;have hsp:=as8 this;exact⟨hsp,bB9 (x:=⟨a.block,a.off+0,none⟩) (wJ hsp this)⟩
   have hget: ∀(rs:List Row),(rows++(m1++[row])++rs)[(rows++m1).length]?=some row:=by
    intro rs;rw[←bB,bB _ [row],eD (fB _),Nat.sub_self];rfl
   have hmu:(nC (rows++(m1++[row]))).at (rows++m1).length ⟨a.block,a.off,cap*s.w,s.w,0,none⟩:=by
    have:=hget [];rw[aD]at this;refine⟨?_,rfl⟩;simp only[nC,this];rfl
   have hok:wG w (rows++(m1++[row])):=by
    rw[←bB];refine h1.ok.app fun r hr' i v hv=> ?_
    have:r=row:=by simpa using hr'
    subst this;obtain⟨v',q1,q2⟩:=h1.vr.get i v hv;have hc:=h3 i v' q1;rw[gD,gB]at hc
    have hcap:0<cap:=by
     rcases gQ cap with e|e
     ·have hv:a1[i]?=some v:=hv;obtain⟨hi,_⟩:=List.getElem?_eq_some_iff.1 hv;rw[hal,e,gD]at hi;exact(fD _ hi).elim
     ·exact e
    exact⟨v',wJ (hspot hcap).1 hc,q2.mono (bF8 _ _)⟩
   refine⟨m1++[row],[.slice (some ⟨(rows++m1).length,0,none⟩) len cap],hok, ?_, ?_⟩
   ·refine .cons ?_ .nil;by_cases hc:cap=0
    ·have:len=0:=by omega
     subst hc;subst this;exact .slice0 _ hmu
    ·have hsp:=(hspot (by omega)).1;obtain⟨b,o,sp⟩:=a;simp only at hsp;subst hsp;exact .slice (o:=0) hmu hlc (fB _) (by simp)
   ·refine .cons ?_ .nil;by_cases hc:cap=0
    ·have e:len=0:=by omega
     subst hc;subst e;rw[hl,List.take_zero];exact .lstn fun z hz=>by injection hz with hz;rw[←hz]
    ·have hlt:=(hspot (by omega)).2
     have hm:(ta (mT w.heap.size (rows++(m1++[row])))).σ.m (rows++m1).length=some ⟨a1,false,s.w⟩:=by
      have:=hget [];rw[aD]at this;simp only[ta,mT,this,zG];exact zE hlt
     have hlen:l.length=len:=by rw[hl,gO];omega
     refine .lst (ay5 _) hm rfl hlen.symm hlc ?_ ?_
     ·show 0+len*s.w≤a1.length;rw[hal,gB];exact Nat.mul_le_mul_right _ hlc
     ·show F2 _ _ ((a1.drop 0).take (len*s.w));rw[dD,hl]
      have h5:F2 (VRel (ta (mT w.heap.size (rows++(m1++[row]))))) (gb s ys) a1:=by
       rw[←bB];exact VRel.frames (cg4 _ _ _) h1.vv
      have h6:gb s (ys.take len)=(gb s ys).take (len*s.w):=lI;rw[h6];exact h5.take _
def yT :List Sh→Sh
 |[]=> .bool
 |[a]=>a
 |a::b::r=> .pair a (yT (b::r))
theorem bN7 {w:World}: ∀{l1 l2:List Sh} {c1 c2:List Value},l1≠[]→l2≠[]→(∃x,kA w (yT l1) c1 x)→(∃x,kA w (yT l2) c2 x)→∃x,kA w (yT (l1++l2)) (c1++c2) x
 |[a],b::r,c1,c2,_,_,⟨x,h1⟩,⟨y,h2⟩=>⟨(x,y),c1,c2,rfl,h1,h2⟩
 |a::b::r,l2,c1,c2,_,hl,⟨x,d1,d2,h0,h1,h2⟩,h3=>by
  subst h0;obtain⟨z,h4⟩:=bN7 (l1:=b::r) (by simp) hl ⟨x.2,h2⟩ h3;exact⟨(x.1,z),d1,d2++c2,by rw[bB],h1,h4⟩
def aE5 {α:Type}(P:Program)(r:TypeId→Option (List Sh))(ty:α→TypeId)(off:α→Nat):List α→Nat→Option (List Sh)
 |[],_=>some []
 |f::l,o=>cond (aB (off f) o) (match r (ty f)with
  |some (s::ss)=>cond (aB (s::ss).length (P.cellsOf (ty f))) ((aE5 P r ty off l (o+(s::ss).length)).map ((s::ss)++ ·)) none
  |_=>none) none
def sF (P:Program):Nat→TypeId→Option (List Sh)
 |0,_=>none
 |n+1,t=>match P.underlying t with
  |some (.int k)=>some [.int k]
  |some .bool=>some [.bool]
  |some .string=>some [.str]
  |some (.slice e)=>(match sF P n e with
   |some (s::ss)=>cond (aB (s::ss).length (P.cellsOf e)) (some [.list (yT (s::ss))]) none
   |_=>none)
  |some (.struct fs)=>(match aE5 P (sF P n) Field.type Field.offset fs.toList 0 with
   |some L=>cond (aB L.length (P.cellsOf t)) (some L) none
   |none=>none)
  |some (.array m e)=>(match aE5 P (sF P n) (fun _=>e) (fun i=>i*P.cellsOf e) (List.range m) 0 with
   |some L=>cond (aB L.length (P.cellsOf t)) (some L) none
   |none=>none)
  |_=>none
section
variable {H:Type} {enc:TypeId×Value→H} {P:Program} {w:World} {base:Nat} {held:Bool}
theorem ao2 {α:Type}{n m:Nat}{ty:α→TypeId}{off:α→Nat}(ih: ∀{t:TypeId} {l:List Sh} {cs:List Value} {x:DataW H×List MemPlace},sF P n t=some l→l≠[]→DataW.trod enc P w base (fun _=>true) held m t cs=some x→∃y,kA w (yT l) cs y){cs:List Value}:
  ∀(fs:List α) (o:Nat) (L:List Sh),aE5 P (sF P n) ty off fs o=some L→L≠[]→(∀(i:Nat) (f:α),fs[i]?=some f→∃x,DataW.trod enc P w base (fun _=>true) held m (ty f) ((cs.drop (off f)).take (P.cellsOf (ty f)))=some x)→
   ∃y,kA w (yT L) ((cs.drop o).take L.length) y
 |[],o,L,h,hne,_=>by
  injection h with h
  exact(hne h.symm).elim
 |f::fs,o,L,h,hne,hm=>by
  obtain⟨y,hy⟩:=hm 0 f rfl;simp only[aE5]at h;cases hb:aB (off f) o with
  |false=>rw[hb]at h;cases h
  |true=>
   have hb:=cB hb;subst hb;rw[Nat.beq_refl,zC]at h;cases hr:sF P n (ty f)with
   |none=>rw[hr]at h;cases h
   |some l=>
    rw[hr]at h;cases l with
    |nil=>cases h
    |cons s ss=>
     simp only at h;cases hc:aB (s::ss).length (P.cellsOf (ty f))with
     |false=>rw[hc]at h;cases h
     |true=>
      rw[hc,zC]at h;have hc:=cB hc;rw[←hc]at hy;have h1:=ih hr (by simp) hy;cases hf:aE5 P (sF P n) ty off fs (off f+(s::ss).length)with
      |none=>rw[hf]at h;cases h
      |some L2=>
       rw[hf,gR]at h;injection h with h
       subst h;rw[dB,List.take_add,List.drop_drop];cases L2 with
       |nil=>
        rw[List.length_nil,List.take_zero,aD,aD];exact h1
       |cons s2 r2=>exact bN7 (by simp) (by simp) h1 (ao2 ih fs _ _ hf (by simp) fun i g hg=>hm (i+1) g (by simpa using hg))
theorem br5 {β:Type}{p:Nat→β→Prop}: ∀(n:Nat),(∀i,i<n→∃y,p i y)→∃ys:List β,ys.length=n∧∀i y,ys[i]?=some y→p i y
 |0,_=>⟨[],rfl,fun i y h=>by simp at h⟩
 |n+1,h=>by
  obtain⟨ys,h1,h2⟩:=br5 n fun i hi=>h i (by omega)
  obtain⟨y,h3⟩:=h n (by omega);refine⟨ys++[y],by simp[h1],fun i z hz=> ?_⟩;by_cases hi:i<ys.length
  ·rw[cD hi]at hz;exact h2 i z hz
  ·rw[eD (by omega)]at hz
   have:i-ys.length=0:=by
    rcases gQ (i-ys.length)with e|e
    ·exact e
    ·rw[List.getElem?_eq_none (by simp;omega)]at hz;cases hz
   rw[this]at hz;injection hz with hz
   subst hz;have:i=n:=by omega
   subst this;exact h3
theorem cj1 {a:Addr}{c:Nat}{zs:List Value}(h:w.cells? base a c=some zs):zs.length=c∧∀j z,zs[j]?=some z→w.cell? (a.add j)=some z:=by
 unfold World.cells? at h;split at h
 ·have hl:=mapM_some_length h;rw[List.length_range]at hl;refine⟨hl,fun j z hz=> ?_⟩
  have hj:j<c:=by
   obtain⟨hj,_⟩:=List.getElem?_eq_some_iff.1 hz;omega
  have:=mapM_some_get h j j (by simp[hj]);rw[this,hz]
 ·cases h
theorem cu7 : ∀(l:List Sh),l≠[]→(∀s∈l,s.w=1)→(yT l).w=l.length
 |[a],_,h=>h a (by simp)
 |a::b::r,_,h=>by
  show a.w+(yT (b::r)).w=_;rw[h a (by simp),cu7 (b::r) (by simp) fun s hs=>h s (List.mem_cons_of_mem _ hs),gN (as:=b::r)];omega
theorem bC8 {α:Type}{n:Nat}{ty:α→TypeId}{off:α→Nat}(ih: ∀{t:TypeId} {l:List Sh},sF P n t=some l→∀s∈l,s.w=1): ∀(fs:List α) (o:Nat) (L:List Sh),aE5 P (sF P n) ty off fs o=some L→∀s∈L,s.w=1
 |[],o,L,h=>by
  injection h with h
  subst h;intro s hs;cases hs
 |f::fs,o,L,h=>by
  simp only[aE5]at h;cases hb:aB (off f) o with
  |false=>rw[hb]at h;cases h
  |true=>
   rw[hb,zC]at h;cases hr:sF P n (ty f)with
   |none=>rw[hr]at h;cases h
   |some l=>
    rw[hr]at h;cases l with
    |nil=>cases h
    |cons s ss=>
     simp only at h;cases hc:aB (s::ss).length (P.cellsOf (ty f))with
     |false=>rw[hc]at h;cases h
     |true=>
      rw[hc,zC]at h;cases hf:aE5 P (sF P n) ty off fs (o+(s::ss).length)with
      |none=>rw[hf]at h;cases h
      |some L2=>
       rw[hf,gR]at h;injection h with h
       subst h;intro q hq;rcases List.mem_append.1 hq with hq|hq
       ·exact ih hr q hq
       ·exact bC8 ih fs _ _ hf q hq
theorem bD0 : ∀(n:Nat) {t:TypeId} {l:List Sh},sF P n t=some l→∀s∈l,s.w=1
 |0,t,l,h=>by cases h
 |n+1,t,l,h=>by
  have one: ∀{a:Sh},a.w=1→some [a]=some l→∀s∈l,s.w=1:=by
   intro a ha e;injection e with e
   subst e;intro s hs;rw[List.mem_singleton]at hs;subst hs;exact ha
  simp only[sF]at h;split at h
  ·exact one rfl h
  ·exact one rfl h
  ·exact one rfl h
  ·split at h
   ·rename_i e hu x s ss hr;cases hc:aB (s::ss).length (P.cellsOf e)with
    |false=>rw[hc]at h;cases h
    |true=>rw[hc,zC]at h;exact one rfl h
   ·cases h
  ·split at h
   ·rename_i L hf;cases hc:aB L.length (P.cellsOf t)with
    |false=>rw[hc]at h;cases h
    |true=>
     rw[hc,zC]at h;injection h with h
     subst h;exact bC8 (fun h=>bD0 n h) _ _ _ hf
   ·cases h
  ·split at h
   ·rename_i L hf;cases hc:aB L.length (P.cellsOf t)with
    |false=>rw[hc]at h;cases h
    |true=>
     rw[hc,zC]at h;injection h with h
     subst h;exact bC8 (fun h=>bD0 n h) _ _ _ hf
   ·cases h
  ·cases h
theorem ad3 : ∀(n:Nat) {m:Nat} {t:TypeId} {l:List Sh} {cs:List Value} {x:DataW H×List MemPlace},sF P n t=some l→l≠[]→DataW.trod enc P w base (fun _=>true) held m t cs=some x→∃y,kA w (yT l) cs y
 |0,m,t,l,cs,x,h,_,_=>by cases h
 |n+1,m,t,l,cs,x,h,hne,hd=>by
  simp only[sF]at h;split at h
  ·rename_i k hu;injection h with h
   subst h;obtain⟨a,e1,_,e2⟩:=DataW.trod_int hu hd;exact⟨a,e1,e2⟩
  ·rename_i hu;injection h with h
   subst h;obtain⟨a,e1,_⟩:=DataW.trod_bool hu hd;exact⟨a,e1⟩
  ·rename_i hu;injection h with h
   subst h;obtain⟨a,e1,_,e2⟩:=DataW.trod_string hu hd;exact⟨_,a,e1,rfl,e2⟩
  ·rename_i e hu;split at h
   ·rename_i s ss hr;cases hc:aB (s::ss).length (P.cellsOf e)with
    |false=>rw[hc]at h;cases h
    |true=>
     rw[hc,zC]at h;injection h with h
     subst h;have hc:=cB hc;have hw:(yT (s::ss)).w=P.cellsOf e:=by rw[cu7 _ (by simp) (bD0 n hr),hc]
     rcases DataW.trod_slice hu hd with⟨e1,_⟩|⟨a,len,cap,elems,rest,m',_,e1,_,hb,hlc,hcm,hel,he,hrest⟩
     ·exact⟨([]:List (El (yT (s::ss)))), .inl ⟨e1,rfl⟩⟩
     ·have hall: ∀i,i<cap→∃y:El (yT (s::ss)),∃zs,(∀j z,zs[j]?=some z→w.cell? (a.add (i*(yT (s::ss)).w+j))=some z)∧kA w (yT (s::ss)) zs y:=by
       intro i hi
       have hsome: ∃q,(w.cells? base (a.add (i*P.cellsOf e)) (P.cellsOf e)).bind (DataW.trod enc P w base (fun _=>true) held m' e)=some q:=by
        by_cases hi2:i<len
        ·rw[he i hi2];exact⟨_,bD (by omega)⟩
        ·obtain⟨h8,h9⟩:=hrest.1 rfl;have:=h9 (i-len) (by omega);rw[show len+(i-len)=i by omega]at this;rw[this];exact⟨_,bD (by omega)⟩
       obtain⟨q,hq⟩:=hsome;obtain⟨zs,h1,h2⟩:=bq hq;obtain⟨y,h3⟩:=ad3 n hr (by simp) h2;obtain⟨h4,h5⟩:=cj1 h1;exact⟨y,zs,fun j z hz=>by rw[hw,←cA4];exact h5 j z hz,h3⟩
      obtain⟨ys,h6,h7⟩:=br5 cap hall;exact⟨ys.take len, .inr ⟨a,len,cap,ys,e1,hlc,hcm,h6,rfl,h7⟩⟩
   ·cases h
  ·rename_i fs hu;split at h
   ·rename_i L hf;cases hc:aB L.length (P.cellsOf t)with
    |false=>rw[hc]at h;cases h
    |true=>
     rw[hc,zC]at h;injection h with h
     subst h;have hc:=cB hc;obtain⟨xs,m',_,_,hl,hxl,hx⟩:=DataW.trod_struct hu hd
     have:=ao2 (cs:=cs) (fun h1 h2 h3=>ad3 n (m:=m') h1 h2 h3) fs.toList 0 _ hf hne fun i f hi=>by
      have hi':fs[i]?=some f:=by rw[←Array.getElem?_toList];exact hi
      have:=hx i f hi';rw[this]
      have:i<xs.length:=by
       obtain⟨h9,_⟩:=List.getElem?_eq_some_iff.1 hi;rw[hxl];simpa using h9
      exact⟨_,bD this⟩
     rw[dD,gP (by omega)]at this;exact this
   ·cases h
  ·rename_i k e hu;split at h
   ·rename_i L hf;cases hc:aB L.length (P.cellsOf t)with
    |false=>rw[hc]at h;cases h
    |true=>
     rw[hc,zC]at h;injection h with h
     subst h;have hc:=cB hc;obtain⟨xs,m',_,_,hl,hxl,hx⟩:=DataW.trod_array hu hd
     have:=ao2 (cs:=cs) (fun h1 h2 h3=>ad3 n (m:=m') h1 h2 h3) (List.range k) 0 _ hf hne fun i f hi=>by
      obtain⟨h9,h10⟩:=List.getElem?_eq_some_iff.1 hi;rw[List.getElem_range]at h10;subst h10;have h9:i<k:=by simpa using h9
      have:=hx i h9;rw[this];exact⟨_,bD (by omega)⟩
     rw[dD,gP (by omega)]at this;exact this
   ·cases h
  ·cases h
end
def isAgg (P:Program)(t:TypeId):Bool:=match P.underlying t with
 |some (.struct _)|some (.array _ _)=>true
 |_=>false
def aA8 (w:World):(b:Bool)→(s:Sh)→Value→El s→Prop
 |true,s,v,x=> ∃cs,v= .agg cs∧kA w s cs.toList x
 |false,s,v,x=>kA w s [v] x
theorem bO7 {H:Type}{enc:TypeId×Value→H}{P:Program}{w:World}{base:Nat}{held:Bool}{n:Nat}{t:TypeId}{l:List Sh}{r:Reach}{b0:Nat}{v:Value}{d:DataW H}{ps:List MemPlace}(hl:sF P n t=some l)(hne:l≠[])
  (hval:Value.okWide P w r b0 t v) (hd:DataW.Trod enc P w base (fun _=>true) held t v d ps): ∃x:El (yT l),aA8 w (isAgg P t) (yT l) v x:=by
 obtain⟨fuel,hf⟩:=hd;obtain⟨x,hx⟩:=ad3 n hl hne hf;refine⟨x, ?_⟩
 have cell:isAgg P t=false→(∀cs,v≠ .agg cs)→aA8 w (isAgg P t) (yT l) v x:=by
  intro h1 h2;rw[h1]
  have:v.cells.toList=[v]:=by
   unfold Value.cells;split
   ·rename_i cs;exact(h2 cs rfl).elim
   ·rfl
  rw[this]at hx;exact hx
 cases n with
 |zero=>cases hl
 |succ n=>
  simp only[sF]at hl;split at hl
  ·rename_i k hu;refine cell (by simp[isAgg,hu]) fun cs e=> ?_
   subst e;simp[Value.okWide,hu,Cell.okWide,Cell.ok]at hval
  ·rename_i hu;refine cell (by simp[isAgg,hu]) fun cs e=> ?_
   subst e;simp[Value.okWide,hu,Cell.okWide,Cell.ok]at hval
  ·rename_i hu;refine cell (by simp[isAgg,hu]) fun cs e=> ?_
   subst e;simp[Value.okWide,hu,Cell.okWide,Cell.ok]at hval
  ·rename_i e hu;refine cell (by simp[isAgg,hu]) fun cs e=> ?_
   subst e;simp[Value.okWide,hu,Cell.okWide,Cell.ok]at hval
  ·rename_i fs hu;simp only[Value.okWide,hu]at hval;obtain⟨cs,rfl,_,_⟩:=hval;rw[show isAgg P t=true by simp[isAgg,hu]];exact⟨cs,rfl,hx⟩
  ·rename_i k e hu;simp only[Value.okWide,hu]at hval;obtain⟨cs,rfl,_,_⟩:=hval;rw[show isAgg P t=true by simp[isAgg,hu]];exact⟨cs,rfl,hx⟩
  ·cases hl
@[reducible] def All :List (Bool×Sh)→Type
 |[]=>Unit
 |[k]=>El k.2
 |k::k'::r=>El k.2×All (k'::r)
def bt6 (w:World):(ks:List (Bool×Sh))→List Value→All ks→Prop
 |[],vs,_=>vs=[]
 |[k],vs,x=> ∃v,vs=[v]∧aA8 w k.1 k.2 v x
 |k::k'::r,vs,x=> ∃v us,vs=v::us∧aA8 w k.1 k.2 v x.1∧bt6 w (k'::r) us x.2
def cO9 (k:Bool×Sh)(x:El k.2):VV:=cond k.1 (.agg (er k.2 x)) ((er k.2 x).headD .undef)
def cq2 :(ks:List (Bool×Sh))→All ks→List VV
 |[],_=>[]
 |[k],x=>[cO9 k x]
 |k::k'::r,x=>cO9 k x.1::cq2 (k'::r) x.2
theorem bo3 {w:World}{k:Bool×Sh}{v:Value}{x:El k.2}(h:aA8 w k.1 k.2 v x){rows:List Row}(hr:wG w rows): ∃more av,Built w rows more [av] [v] [cO9 k x]:=by
 obtain⟨b,s⟩:=k;cases b with
 |true=>
  obtain⟨cs,rfl,h1⟩:=h;obtain⟨more,acs,h2⟩:=build s h1 hr;exact⟨more, .agg acs.toArray,h2.ok, .cons (.agg (by simpa using h2.vr)) .nil, .cons (.agg (by simpa using h2.vv)) .nil⟩
 |false=>
  obtain⟨more,acs,h2⟩:=build s h hr;have h3:=h2.vr;have h4:=h2.vv;cases h3 with
  | @cons a _ as _ h5 h6=>
   cases h6;refine⟨more,a,h2.ok, .cons h5 .nil, ?_⟩;show F2 _ [(er s x).headD .undef] _;generalize er s x=l at*;cases h4 with
   |cons h7 h8=>
    cases h8;exact .cons h7 .nil
theorem ba4 {w:World}: ∀(ks:List (Bool×Sh)) {vs:List Value} {x:All ks},bt6 w ks vs x→∀{rows:List Row},wG w rows→∃more avs,Built w rows more avs vs (cq2 ks x)
 |[],vs,x,h,rows,hr=>by
  have h:vs=[]:=h;subst h;exact⟨[],[], .nil hr⟩
 |[k],vs,x,⟨v,h,h1⟩,rows,hr=>by
  subst h;obtain⟨more,av,h2⟩:=bo3 h1 hr;exact⟨more,[av],h2⟩
 |k::k'::r,vs,x,⟨v,us,h,h1,h2⟩,rows,hr=>by
  subst h;obtain⟨m1,av,h3⟩:=bo3 h1 hr;obtain⟨m2,avs,h4⟩:=ba4 (k'::r) h2 h3.ok;exact⟨m1++m2,av::avs,h3.app h4⟩
def inK (k:IntKind)(n:Int):Prop:=match k with
 | .i64=> -9223372036854775808≤n∧n≤9223372036854775807
 | .u64=>0≤n∧n≤18446744073709551615
 | .u8=>0≤n∧n≤255
 |_=>True
theorem cQ6 {k:IntKind}{n:Int}(h:(Lit.int k n).wf=true):inK k n:=by
 cases k<;>first|trivial|exact cT6 h|exact cT7 h|exact db6 h
def ch6 :(s:Sh)→El s→Prop
 | .int k,n=>inK k n
 | .bool,_=>True
 | .str,l=>l.length≤9223372036854775807∧∀n∈l,0≤n∧n≤255
 | .list s,l=>l.length≤9223372036854775807∧∀x∈l,ch6 s x
 | .pair a b,x=>ch6 a x.1∧ch6 b x.2
theorem kA.fine {w:World}: ∀{s:Sh} {cs:List Value} {x:El s},kA w s cs x→ch6 s x
 | .int k,_,_,⟨_,h⟩=>cQ6 h
 | .bool,_,_,_=>trivial
 | .str,_,_,⟨s,_,h,hm⟩=>by
  subst h;refine⟨?_,fun n hn=> ?_⟩
  ·unfold dw;rw[List.length_map];unfold maxLen at hm;simpa using hm
  ·unfold dw at hn;obtain⟨b,_,rfl⟩:=List.mem_map.1 hn;have:=b.toNat_lt;omega
 | .list s,_,l,h=>by
  rcases h with⟨_,h⟩|⟨a,len,cap,ys,_,hlc,hcm,hyl,hl,hy⟩
  ·subst h;exact⟨Nat.zero_le _,fun x hx=>by cases hx⟩
  ·subst hl;refine⟨by rw[gO];unfold maxLen at hcm;omega,fun x hx=> ?_⟩;obtain⟨i,hi,rfl⟩:=List.getElem_of_mem (List.mem_of_mem_take hx);obtain⟨zs,_,h⟩:=hy i _ (bD hi);exact h.fine
 | .pair a b,_,_,⟨c1,c2,_,h1,h2⟩=>⟨h1.fine,h2.fine⟩
theorem aA8.fine {w:World}{b:Bool}{s:Sh}{v:Value}{x:El s}(h:aA8 w b s v x):ch6 s x:=by
 cases b with
 |true=>obtain⟨cs,_,h⟩:=h;exact h.fine
 |false=>exact kA.fine h
theorem ct4 {P:Program}{f:FuncId}{vals:List Sk}{run:Tup (wH.shs ⟨vals,[],[]⟩)→Option (tX ay6)}(h:uW P ⟨f,vals,[],ay6,run⟩){w:World}(hT:ch7 P w){cargs:Array Value}(ks:List (Bool×Sh))(x:All ks)(t:Tup (wH.shs ⟨vals,[],[]⟩))
  (hA:bt6 w ks cargs.toList x) (hd:((oA [] 0 [] ⟨vals,[],[]⟩ (cq2 ks x)).bind fun st=>ofL _ st.ls)=some t) (hr:run t=some true):
  Calls P f cargs w fun e w'=>e= .returned (.bool true)∧Go.RowKit.Below w.heap.size w w':=by
 obtain⟨rows,avs,h1⟩:=ba4 ks hA (rows:=[]) (fun r hr=>by cases hr);exact ck9 h hT t h1.ok h1.vr h1.vv hd hr
end
end Go.V
