/- A part of the proofs of this claim: what functions of the program answer on an abstract machine, and plain laws. No condition. -/
import Derived.Test.YtobfihgmpgobhaaGreatDoorA5
import Derived.Test.YtobfihgmpgobhaaGreatDoorA3
import Derived.IntWalk
import Derived.KernelRfl
import Derived.WideKeyArr2
import Derived.RowKit
import Derived.ProofKit
import Derived.OpenShut
import Derived.ChangeArms
import Derived.Below
set_option linter.unusedVariables false
set_option linter.unusedSimpArgs false
set_option linter.unusedSectionVars false
namespace Go.V
open Go.Ab
section
open Bool renaming and_eq_true → aB, or_eq_true → aF, false_or → aI, not_true → aJ
open List renaming mem_cons_of_mem → aD, mem_cons_self → aG, mem_cons → aK, map_congr_left → aO
open Nat renaming beq → aA, eq_of_beq_eq_true → aC, lt_of_lt_of_le → aE, beq_refl → aH, le_of_ble_eq_true → aL, le_refl → aM, le_trans → aN
def gW {β:Type}(c:Ctx)(k:bu→ae→Option β)(y:β):br→Hp→Prop:=fun ea σ'=> ∃e' c',c'.σ=σ'∧Le c c'∧Rel c'∧an c' e' ea∧k e' c'.S=some y
theorem gW.of {β:Type}{c c1:Ctx}{k:bu→ae→Option β}{y:β}(h:Le c c1){ea:br}{σ':Hp}(hp:gW c1 k y ea σ'):gW c k y ea σ':=by
 obtain⟨e',c',h1,h2,h3⟩:=hp;exact⟨e',c',h1,h.trans h2,h3⟩
def jf {β:Type}(c:Ctx)(k:AExit→bu→ae→Option β)(y:β):AExit→br→Hp→Prop:=fun x=>gW c (k x) y
section
variable {β:Type} {tab:Tab} {y:β}
theorem Cr : ∀{ops:List AOper} {c:Ctx} {e:bu} {ea:br} {k:bu→ae→Option β},Rel c→an c e ea→uG tab ops e c.S k=some y→Ab.pK (cy tab) (gW c k y) ops ea c.σ
 |[],c,e,ea,k,hR,he,h=>⟨e,c,rfl,Le.refl c,hR,he,h⟩
 |o::r,c,e,ea,k,hR,he,h=>by
  have step: ∀e1,an c e1 ea→zp tab o.op e1 c.S (fun v S'=>uG tab r (putO e1 o.dst v) S' k)=some y→bj (cy tab) o.op ea c.σ fun v σ'=>Ab.pK (cy tab) (gW c k y) r (ea.putO o.dst v) σ':=by
   intro e1 he1 h1;refine eK (bh tab) (fun v σ' hv=> ?_) (ld hR he1 h1);obtain⟨vv,c',h2,h3,h4,_,h6,h7⟩:=hv;subst h2;exact Ab.sZ (bh tab) (fun ea' σ'' hp=>hp.of h3) _ _ _ (Cr h4 ((he1.frame h3).putO h6) h7)
  have skip: ∀e1,an c e1 ea→uG tab r (putO e1 o.dst (.tup [])) c.S k=some y→Ab.pK (cy tab) (gW c k y) r (ea.putO o.dst undef) c.σ:=fun e1 he1 h1=>Cr hR (he1.putO (.tup .nil)) h1
  simp only[uG]at h;simp only[Ab.pK];split at h
  ·rename_i hg;have:wanted o ea=true:=by simp only[wanted,hg]
   rw[zE this];exact step e he h
  ·rename_i t w hg;split at h
   ·rename_i p hp;have ht:=he t;rw[hp]at ht;have ht:=ht.bool_inv;have hw:wanted o ea=(p==w):=by simp only[wanted,hg,ht]
    have hput:an c (iH e t (.bool p)) ea:=by
     have:=he.put (d:=t) (VRel.bool (c:=c) p);intro i;have h1:=this i;unfold br.put at h1;by_cases hi:i=t
     ·rw[zE hi]at h1;subst hi;rw[ht];exact h1
     ·rw[zF hi]at h1;exact h1
    rw[hw];cases p<;>cases w<;>simp only[zC,zD]at h
    ·rw[zE (by decide)];exact step _ hput h
    ·rw[zF (by decide)];exact skip _ hput h
    ·rw[zF (by decide)];exact skip _ hput h
    ·rw[zE (by decide)];exact step _ hput h
   ·rename_i hp;have ht:=he t;rw[hp]at ht
    have hw:wanted o ea=false:=by
     simp only[wanted,hg];generalize ea t=u at ht;cases ht;rfl
    rw[hw,zF (by decide)];exact skip _ he h
   ·cases h
def LR :Value→Option Nat
 | .pointer (some a)=>some a.block
 | .slice (some a) _ _=>some a.block
 |_=>none
def tL :AOp→Operand
 | .load x| .loadN _ x| .sliceArr _ _ x _ _| .slice _ x _ _=>x
 |_=> .global 0
theorem CN {op:AOp}{ea:br}{σ σ1 σ':Hp}{v:Value}(hl:op.isLoad=true)(h:op.run ea σ=some (v,σ1))(hd: ∀b,LR (ea.ev (tL op))=some b→σ'.m b=σ.m b):op.run ea σ'=some (v,σ'):=by
 cases op<;>try(cases hl;done)
 case load x=>
  simp only[AOp.run,tL]at h hd⊢;split at h
  ·rename_i b o hx;rw[hx]at hd;rw[hd b rfl];split at h
   ·rename_i blk hb;cases hc:blk.cells[o]? with
    |none=>rw[hc]at h;cases h
    |some u=>
     rw[hc]at h;injection h with h
     injection h with h1 h2
     subst h1;rfl
   ·cases h
  ·cases h
 case loadN n x=>
  simp only[AOp.run,tL]at h hd⊢;split at h
  ·rename_i b o hx;rw[hx]at hd;rw[hd b rfl];split at h
   ·rename_i blk hb;cases hc:iN blk o n with
    |none=>rw[hc]at h;cases h
    |some u=>
     rw[hc]at h;injection h with h
     injection h with h1 h2
     subst h1;rfl
   ·cases h
  ·cases h
 case slice es x lo hi=>
  cases lo with
  |none=>cases hl
  |some l=>
   simp only[AOp.run,tL]at h hd⊢;split at h
   ·rename_i a ln cap hx;rw[hx]at hd
    have hm:qJ σ' es a (some l)=qJ σ es a (some l):=by
     cases a with
     |none=>rfl
     |some a=>simp only[qJ];rw[hd a.block rfl]
    rw[hm];cases hc:(cap==0||qJ σ es a (some l))with
    |false=>rw[hc]at h;simp at h
    |true=>
     rw[hc,zE rfl]at h;rw[zE rfl];split at h
     ·split at h
      ·injection h with h
       injection h with h1 h2
       subst h1;rfl
      ·cases h
     ·cases h
   ·cases h
 case sliceArr es n x lo hi=>
  simp only[AOp.run,tL]at h hd⊢;split at h
  ·rename_i b o hx;rw[hx]at hd;rw[hd b rfl];split at h
   ·rename_i blk hb;split at h
    ·rename_i hc;rw[zE hc];split at h
     ·split at h
      ·split at h
       ·rename_i hlt;injection h with h
        injection h with h1 h2
        subst h1;rw[zE hlt]
       ·cases h
      ·cases h
     ·cases h
    ·cases h
   ·cases h
  ·cases h
theorem MM {op:AOp}{ea:br}{σ σ1:Hp}{v:Value}{q:Option Addr}(hl:op.isLoad=true)(hx:ea.ev (tL op)= .slice q 0 0)(h:op.run ea σ=some (v,σ1))(σ':Hp):op.run ea σ'=some (v,σ'):=by
 cases op<;>try(cases hl;done)
 case load x=>
  simp only[tL]at hx;simp only[AOp.run,hx]at h;cases h
 case loadN n x=>
  simp only[tL]at hx;simp only[AOp.run,hx]at h;cases h
 case slice es x lo hi=>
  simp only[tL]at hx;simp only[AOp.run,hx,beq_self_eq_true,Bool.true_or,if_true]at h⊢;split at h
  ·split at h
   ·injection h with h
    injection h with h1 h2
    subst h1;rfl
   ·cases h
  ·cases h
 case sliceArr es n x lo hi=>
  simp only[tL]at hx;simp only[AOp.run,hx]at h;cases h
structure LeV (c c':Ctx):Prop where
 len:c.S.length≤c'.S.length
 al: ∀k d,k<c.S.length→(aa c'.S k).dim=some d→(aa c.S k).dim=some d∧c'.μ k=c.μ k
 ln: ∀k d b y,k<c.S.length→(aa c'.S k).dim=some d→c.μ k=some b→c.σ.m b=some y→∃y',c'.σ.m b=some y'∧y'.cells.length=y.cells.length
 rd: ∀b y,c.σ.m b=some y→¬c.mut b→c'.σ.m b=some y∧¬c'.mut b
theorem LeV.trans {a b c:Ctx}(h:LeV a b)(k:LeV b c):LeV a c:=by
 refine⟨aN h.len k.len,fun q d hq hd=> ?_,fun q d x y hq hd hm hy=> ?_,fun x y hy hn=> ?_⟩
 ·obtain⟨h1,h2⟩:=k.al q d (aE hq h.len) hd;obtain⟨h3,h4⟩:=h.al q d hq h1;exact⟨h3,h2.trans h4⟩
 ·obtain⟨h1,h2⟩:=k.al q d (aE hq h.len) hd;obtain⟨h3,h4⟩:=h.al q d hq h1;obtain⟨y1,h5,h6⟩:=h.ln q d x y hq h1 hm hy;obtain⟨y2,h7,h8⟩:=k.ln q d x y1 (aE hq h.len) hd (h4.trans hm) h5;exact⟨y2,h7,h8.trans h6⟩
 ·obtain⟨h1,h2⟩:=h.rd x y hy hn;exact k.rd x y h1 h2
theorem Le.toV {c c':Ctx}(h:Le c c'):LeV c c':=⟨h.len,h.al,h.ln,h.rd⟩
theorem LeV.refl (c:Ctx):LeV c c:=(Le.refl c).toV
theorem xy.frameV {c c':Ctx}(h:LeV c c'){k lo n:Nat}{d:Nat×Nat}{a:Value}(hk:k<c.S.length)(hd:(aa c'.S k).dim=some d)(hs:xy c k lo n d a):xy c' k lo n d a:=by
 obtain⟨h1,h2⟩:=h.al k d hk hd;rcases hs with⟨rfl,rfl,rfl,hm,hz⟩|⟨b,cp,y,rfl,hm,h3,h4,hy,h5⟩
 ·exact .inl ⟨rfl,rfl,rfl,h2.trans hm,hz⟩
 ·obtain⟨y',hy',hl⟩:=h.ln k d b y hk hd hm hy;exact .inr ⟨b,cp,y',rfl,h2.trans hm,h3,h4,hy',by rw[hl];exact h5⟩
theorem VRel.frameV {c c':Ctx}(h:LeV c c'): ∀{v:VV} {a:Value},VRel c v a→VRel c' v a
 |_,_, .undef a=> .undef a
 |_,_, .bool b=> .bool b
 |_,_, .int k n=> .int k n
 |_,_, .str hs=> .str hs
 |_,_, .nilp=> .nilp
 |_,_, .nils=> .nils
 |_,_, .nilf=> .nilf
 |_,_, .ptr hk h1 hd=> .ptr (aE hk h.len) h1 fun d hd'=>by
  obtain⟨h1,h2⟩:=h.al _ d hk hd';obtain⟨b,h3,h4⟩:=hd d h1;exact⟨b,h2.trans h3,h4⟩
 |_,_, .it hk h1 hs hd=> .it (aE hk h.len) h1 hs fun d hd'=>by
  obtain⟨h1,h2⟩:=h.al _ d hk hd';obtain⟨b,h3,h4⟩:=hd d h1;exact⟨b,h2.trans h3,h4⟩
 |_,_, .bld hk h1 hd=> .bld (aE hk h.len) h1 fun d hd'=>by
  obtain⟨h1,h2⟩:=h.al _ d hk hd';obtain⟨b,h3,h4⟩:=hd d h1;exact⟨b,h2.trans h3,h4⟩
 |_,_, .pix hk h1 hi hd=> .pix (aE hk h.len) h1 hi fun d hd'=>by
  obtain⟨h1,h2⟩:=h.al _ d hk hd';obtain⟨b,h3,h4⟩:=hd d h1;exact⟨b,h2.trans h3,h4⟩
 |_,_, .pel hk h1 hd=> .pel (aE hk h.len) h1 fun d hd'=>by
  obtain⟨h1,h2⟩:=h.al _ d hk hd';obtain⟨b,h3,h4⟩:=hd d h1;exact⟨b,h2.trans h3,h4⟩
 |_,_, .pin hn hy hl hf=> .pin (h.rd _ _ hy hn).2 (h.rd _ _ hy hn).1 hl (go hf)
 |_,_, .lstn hq=> .lstn hq
 |_,_, .tgtn hq=> .tgtn hq
 |_,_, .tgt hn hy he h3 hf=> .tgt (h.rd _ _ hy hn).2 (h.rd _ _ hy hn).1 he h3 (go hf)
 |_,_, .lst hn hy he h1 h2 h3 hf=> .lst (h.rd _ _ hy hn).2 (h.rd _ _ hy hn).1 he h1 h2 h3 (go hf)
 |_,_, .full hk h1 hd=> .full (aE hk h.len) h1 fun d hd'=>by
  obtain⟨h1,h2⟩:=h.al _ d hk hd';obtain⟨n,h3,h4⟩:=hd d h1;exact⟨n,h3,h4.frameV h hk hd'⟩
 |_,_, .part hk h1 hd=> .part (aE hk h.len) h1 fun d hd'=>by
  obtain⟨h1,h2⟩:=h.al _ d hk hd';exact(hd d h1).frameV h hk hd'
 |_,_, .fn h1 h2=> .fn (go h1) (go h2)
 |_,_, .agg h1=> .agg (go h1)
 |_,_, .tup h1=> .tup (go h1)
where
 go: ∀{l:List VV} {m:List Value},F2 (VRel c) l m→F2 (VRel c') l m
  |_,_, .nil=> .nil
  |_,_, .cons h1 h2=> .cons (VRel.frameV h h1) (go h2)
theorem VRel.framesV {c c':Ctx}(h:LeV c c'){l:List VV}{m:List Value}(hf:F2 (VRel c) l m):F2 (VRel c') l m:=hf.imp fun _ _ hv=>hv.frameV h
theorem an.frameV {c c':Ctx}{e:bu}{ea:br}(h:an c e ea)(hl:LeV c c'):an c' e ea:=fun t=>(h t).frameV hl
def Gp (c:Ctx)(p:Hp→Prop)(f:ae→Bool):Prop:= ∀c',LeV c c'→Rel c'→f c'.S=true→p c'.σ
theorem Gp.next {c c':Ctx}{p:Hp→Prop}{f:ae→Bool}(h:Gp c p f)(hl:LeV c c'):Gp c' p f:=fun c2 h2=>h c2 (hl.trans h2)
def wR (c:Ctx)(p:Hp→Prop):Option (Option Nat)→Prop
 |none=>True
 |some none=>p c.σ∧∀σ',(∀b y,c.σ.m b=some y→¬c.mut b→σ'.m b=some y)→p σ'
 |some (some q)=>(aa c.S q).dim≠none∧p c.σ∧∀σ',(∀b,c.μ q=some b→σ'.m b=c.σ.m b)→p σ'
inductive ChkRel (c:Ctx):List (Nat×(Hp→Prop))→wh→Prop where
 |nil:ChkRel c [] []
 |cons {i:Nat} {p:Hp→Prop} {s:Option (Option Nat)} {f:ae→Bool} {l:List (Nat×(Hp→Prop))} {m:wh}:wR c p s→Gp c p f→ChkRel c l m→ChkRel c ((i,p)::l) ((i,s,f)::m)
theorem wR.now {c:Ctx}{p:Hp→Prop}{s:Option Nat}(h:wR c p (some s)):p c.σ:=by
 cases s with
 |none=>exact h.1
 |some q=>exact h.2.1
theorem wR.next {c c':Ctx}{p:Hp→Prop}{d:List Nat}(hl:Le c c')(hc:lx d c c'): ∀{s:Option (Option Nat)},wR c p s→wR c' p (match s with
  |some (some q)=>cond (eJ q d) none (some (some q))
  |s=>s)
 |none,_=>trivial
 |some none,h=>by
  refine⟨h.2 _ fun b y hy hn=>(hl.rd b y hy hn).1,fun σ' hσ=>h.2 σ' fun b y hy hn=> ?_⟩;obtain⟨h1,h2⟩:=hl.rd b y hy hn;exact hσ b y h1 h2
 |some (some q),h=>by
  cases hm:eJ q d with
  |true=>
   show wR c' p (cond (eJ q d) none (some (some q)));rw[hm];exact trivial
  |false=>
   show wR c' p (cond (eJ q d) none (some (some q)));rw[hm];obtain⟨h1,h2,h3⟩:=h;have hq:q∉d:=fun e=>by rw[dU.2 e]at hm;cases hm
   obtain⟨h4,h5⟩:=hc q (eS h1) hq h1
   have hmu:c'.μ q=c.μ q:=by
    cases hdd:(aa c'.S q).dim with
    |none=>exact(h4 hdd).elim
    |some dd=>exact(hl.al q dd (eS h1) hdd).2
   exact⟨h4,h3 _ h5,fun σ' hσ=>h3 σ' fun b hb=>by rw[hσ b (by rw[hmu];exact hb),h5 b hb]⟩
theorem ChkRel.next {c c':Ctx}{d:List Nat}(hl:Le c c')(hc:lx d c c'): ∀{l:List (Nat×(Hp→Prop))} {m:wh},ChkRel c l m→ChkRel c' l (Bl d m)
 |_,_, .nil=> .nil
 |_,_, .cons (s:=s) h1 hj h2=>by
  have h3:=h1.next hl hc
  have h4:=ChkRel.next hl hc h2
  have hj:=hj.next hl.toV
  cases s with
  |none=>exact .cons h3 hj h4
  |some s=>
   cases s with
   |none=>exact .cons h3 hj h4
   |some q=>exact .cons h3 hj h4
theorem pJ : ∀m:wh,Bl [] m=m
 |[]=>rfl
 |(i,none,_)::r=>by simp only[Bl,pJ r]
 |(i,some none,_)::r=>by simp only[Bl,pJ r]
 |(i,some (some q),_)::r=>by simp only[Bl,pJ r,eJ,zD]
theorem sS {c:Ctx}{is:List Nat}(hR:Rel c): ∀{l:List (Nat×(Hp→Prop))} {m:wh},ChkRel c l m→rD c.S is m=true→oG is c.σ l
 |_,_, .nil,_=>trivial
 |_,_, .cons (i:=i) (s:=s) (f:=f) h1 hj h2,h=>by
  simp only[rD]at h;simp only[oG]
  have hc:is.contains i=eJ i is:=by
   cases hm:eJ i is with
   |true=>simpa using dU.1 hm
   |false=>
    cases hh:is.contains i with
    |false=>rfl
    |true=>
     have:i∈is:=by simpa using hh
     rw[dU.2 this]at hm;cases hm
  rw[hc];cases hm:eJ i is with
  |false=>
   rw[hm,zD]at h;rw[zF (by decide)];exact sS hR h2 h
  |true=>
   rw[hm,zC]at h;rw[zE rfl];cases s with
   |none=>
    simp only at h;cases hf:f c.S with
    |false=>rw[hf]at h;cases h
    |true=>
     rw[hf,zC]at h;exact⟨hj c (LeV.refl c) hR hf,sS hR h2 h⟩
   |some s=>exact⟨h1.now,sS hR h2 h⟩
theorem fW {T:Ab.dn}{op:AOp}{e:br}{σ:Hp}(hs:op.still=true){k:Value→Hp→Prop}:(match op.run e σ with
  |some (v,σ')=>k v σ'
  |none=>False)=bj T op e σ k:=by
 cases op<;>first|(cases hs;done)|rfl
theorem sI {s t:ByteArray}(h:ak s=ak t):s=t:=by
 unfold ak at h;have h1:=List.map_inj_right (fun a b (h:((a.toNat:Nat):Int)=(b.toNat:Int))=>UInt8.toNat_inj.1 (Int.ofNat.inj h))|>.1 h
 obtain⟨⟨s⟩⟩:=s;obtain⟨⟨t⟩⟩:=t;simp only at h1;rw[h1]
theorem On {c c':Ctx}{x y:VV}{a b:Value}(hx:VRel c x a)(hy:VRel c' y b)(h:Qr x y=true):a=b:=by
 cases hx<;>cases hy<;>simp only[Qr,aB,decide_eq_true_eq,Bool.false_eq_true]at h
 case bool.bool=>rw[h]
 case int.int=>rw[h.1,h.2]
 case str.str h1 _ _ h2=>rw[sI (h1.trans (h.trans h2.symm))]
 all_goals rfl
theorem Lg {tab:Tab}{c c0:Ctx}{e:bu}{ea:br}{op:AOp}{vv:VV}{v:Value}(he:an c e ea)(hs:op.still=true)(hv:VRel c0 vv v):Gp c (fun σ'=>op.run ea σ'=some (v,σ')) (FZ tab op e vv):=by
 intro c' hl hR h;unfold FZ at h;split at h
 ·rename_i b hb;subst h;have h1:=ld hR (he.frameV hl) hb;rw[←fW hs]at h1;show op.run ea c'.σ=some (v,c'.σ);cases hr:op.run ea c'.σ with
  |none=>rw[hr]at h1;exact h1.elim
  |some q=>
   obtain⟨v1,σ1⟩:=q;rw[hr]at h1;obtain⟨vv1,c2,g1,g2,g3,g4,g5,g6⟩:=h1;injection g6 with g6
   rw[md hs hr,On hv g5 g6]
 ·cases h
theorem yY {c:Ctx}{e:bu}{ea:br}{op:AOp}{v:Value}{σ1:Hp}(hR:Rel c)(he:an c e ea)(hl:op.isLoad=true)(h:op.run ea c.σ=some (v,σ1)):wR c (fun σ'=>op.run ea σ'=some (v,σ')) (Kz c.S op e):=by
 have hx:=bg he (tL op);have hself:op.run ea c.σ=some (v,c.σ):=CN hl h fun _ _=>rfl
 have key:wR c (fun σ'=>op.run ea σ'=some (v,σ')) (L0 c.S (ev e (tL op))):=by
  generalize ev e (tL op)=xv at*
  have blkcase: ∀q,mW xv=some q→(∀b,LR (ea.ev (tL op))=some b→(aa c.S q).dim≠none→c.μ q=some b)→wR c (fun σ'=>op.run ea σ'=some (v,σ')) (cond (aa c.S q).live (some (some q)) none):=by
   intro q hq hb;cases hlv:(aa c.S q).live with
   |false=>trivial
   |true=>
    obtain⟨dm,hdm⟩:=li hlv;exact⟨by rw[hdm];simp,hself,fun σ' hσ=>CN hl h fun b hbb=>hσ b (hb b hbb (by rw[hdm];simp))⟩
  have novalue:(∀b,LR (ea.ev (tL op))=some b→∃y,c.σ.m b=some y∧¬c.mut b)→wR c (fun σ'=>op.run ea σ'=some (v,σ')) (some none):=by
   intro hb;refine⟨hself,fun σ' hσ=>CN hl h fun b hbb=> ?_⟩;obtain⟨y,h1,h2⟩:=hb b hbb;rw[hσ b y h1 h2,h1]
  cases xv<;>simp only[L0,mW]<;>try exact trivial
  case ptr q o=>
   refine blkcase q rfl fun b hb hdm=> ?_
   cases hx with
   |ptr hk ho hd=>
    cases hdd:(aa c.S q).dim with
    |none=>exact(hdm hdd).elim
    |some d=>
     obtain⟨b',h1,h2⟩:=hd d hdd;rw[h2]at hb;injection hb with hb
     subst hb;exact h1
  case it q l=>
   refine blkcase q rfl fun b hb hdm=> ?_
   obtain⟨s,_,hd⟩:=hx.it_inv;cases hdd:(aa c.S q).dim with
   |none=>exact(hdm hdd).elim
   |some d=>
    obtain⟨b',h1,h2⟩:=hd d hdd;rw[h2]at hb;cases hb
  case bld q=>
   refine blkcase q rfl fun b hb hdm=> ?_
   cases hx with
   |bld _ _ hd=>
   cases hdd:(aa c.S q).dim with
   |none=>exact(hdm hdd).elim
   |some d=>
    obtain⟨b',h1,h2⟩:=hd d hdd;rw[h2]at hb;cases hb
  case pix q o n i=>
   refine blkcase q rfl fun b hb hdm=> ?_
   cases hx with
   |pix hk ho hi hd=>
    cases hdd:(aa c.S q).dim with
    |none=>exact(hdm hdd).elim
    |some d=>
     obtain⟨b',h1,h2⟩:=hd d hdd;rw[h2]at hb;injection hb with hb
     subst hb;exact h1
  case pel q i o=>
   refine blkcase q rfl fun b hb hdm=> ?_
   cases hx with
   |pel hk ho hd=>
    cases hdd:(aa c.S q).dim with
    |none=>exact(hdm hdd).elim
    |some d=>
     obtain⟨b',h1,h2⟩:=hd d hdd;rw[h2]at hb;injection hb with hb
     subst hb;exact h1
  case full q=>
   refine blkcase q rfl fun b hb hdm=> ?_
   cases hx with
   |full hk ho hd=>
    cases hdd:(aa c.S q).dim with
    |none=>exact(hdm hdd).elim
    |some d=>
     obtain⟨n,_,h2⟩:=hd d hdd;rcases h2 with⟨h2,_⟩|⟨b',cp,yb,h2,h3,_⟩
     ·rw[h2]at hb;cases hb
     ·rw[h2]at hb;injection hb with hb
      subst hb;exact h3
  case part q lo n=>
   refine blkcase q rfl fun b hb hdm=> ?_
   cases hx with
   |part hk ho hd=>
    cases hdd:(aa c.S q).dim with
    |none=>exact(hdm hdd).elim
    |some d=>
     rcases hd d hdd with⟨h2,_⟩|⟨b',cp,yb,h2,h3,_⟩
     ·rw[h2]at hb;cases hb
     ·rw[h2]at hb;injection hb with hb
      subst hb;exact h3
  case pin s x o=>
   refine novalue fun b hb=> ?_
   generalize ea.ev (tL op)=xa at*;cases hx with
   |pin hn hy hl hf=>
    injection hb with hb
    subst hb;exact⟨_,hy,hn⟩
  case lst s l=>
   generalize hxa:ea.ev (tL op)=xa at*;cases hx with
   |lstn hq=>
    refine⟨hself,fun σ' hσ=> ?_⟩;have:=MM hl hxa h;exact this σ'
   |lst hn hy _ _ _ _ _=>
    refine novalue fun b hb=> ?_
    injection hb with hb
    subst hb;exact⟨_,hy,hn⟩
  case nils=>
   refine novalue fun b hb=> ?_
   generalize ea.ev (tL op)=xa at*;cases hx;cases hb
 cases op<;>first|(cases hl;done)|exact key
theorem KP {it:SItem}{c:Ctx}{e:bu}{ea:br}{chk:wh}{ach:List (Nat×(Hp→Prop))}{k:wh→bu→ae→Option β}(hR:Rel c)(he:an c e ea)(hc:ChkRel c ach chk)(h:zn tab it chk e c.S k=some y){Q:List (Nat×(Hp→Prop))→br→Hp→Prop}
  (hQ: ∀c' ach' chk' e' ea',Le c c'→Rel c'→ChkRel c' ach' chk'→an c' e' ea'→k chk' e' c'.S=some y→Q ach' ea' c'.σ):
  if it.mover then bj (cy tab) it.o.op ea c.σ (fun v σ'=>oG it.chks σ' ach∧Q ach (ea.putO it.o.dst v) σ')
  else match it.o.op.run ea c.σ with
   |some (v,_)=>Q (if it.keep then(it.idx,fun σ'=>it.o.op.run ea σ'=some (v,σ'))::ach else ach) (ea.putO it.o.dst v) c.σ
   |none=>False:=by
 unfold zn at h;cases hm:it.mover with
 |true=>
  rw[hm,zC]at h;rw[zE rfl];refine eK (bh tab) (fun v σ' hv=> ?_) (ld hR he h);obtain⟨vv,c',h3,h4,h5,h6,h7,h8⟩:=hv;subst h3;obtain⟨h1,h8⟩:=ai h8;have hn:=hc.next h4 h6
  exact⟨sS h5 hn h1,hQ c' ach _ _ _ h4 h5 hn ((he.frame h4).putO h7) h8⟩
 |false=>
  rw[hm,zD]at h;rw[zF (by decide)];obtain⟨h1,h2⟩:=ai h;rw[aB]at h1;have h3:=ld hR he h2;rw[←fW h1.1]at h3;cases hr:it.o.op.run ea c.σ with
  |none=>rw[hr]at h3;exact h3
  |some p=>
   obtain⟨v,σ1⟩:=p;rw[hr]at h3;obtain⟨vv,c',h4,h5,h6,h7,h8,h9⟩:=h3;simp only
   have hd:wK tab it.o.op e c.S=[]:=by
    have:=h1.1;cases hop:it.o.op<;>rw[hop]at this<;>first|(cases this;done)|rfl
   have hn:=hc.next h5 h7
   rw[hd,pJ]at hn;have hσ1:σ1=c.σ:=md h1.1 hr;rw[←hσ1,←h4];cases hk:it.keep with
   |false=>
    simp only[hk,zD]at h9;rw[zF (by decide)];exact hQ c' ach chk _ _ h5 h6 hn ((he.frame h5).putO h8) h9
   |true=>
    simp only[hk,zC]at h9;rw[zE rfl];have hld:it.o.op.isLoad=true:=by have:=h1.2;rw[hk]at this;simpa using this
    have hkp:=yY hR he hld hr;have hn2:=(ChkRel.cons (i:=it.idx) (f:=FZ tab it.o.op e vv) hkp (Lg he h1.1 h8) hc).next h5 h7
    rw[hd,pJ]at hn2;exact hQ c' _ _ _ _ h5 h6 hn2 ((he.frame h5).putO h8) h9
end
def gV (op:AOp)(ea:br)(x:Ab.Blk)(vf:Nat→Value):Prop:= ∀σ:Hp,op.run ea σ=some (vf σ.n,σ.add x)
theorem gV.unique {op:AOp}{ea:br}{x x':Ab.Blk}{vf vf':Nat→Value}(h:gV op ea x vf)(h':gV op ea x' vf'):x=x'∧vf=vf':=by
 have key: ∀n,vf n=vf' n∧x=x':=by
  intro n;have h1:=h ⟨fun _=>none,n⟩;rw[h' ⟨fun _=>none,n⟩]at h1;injection h1 with h1
  injection h1 with h1 h2
  refine⟨h1.symm, ?_⟩;have h3:=congrArg (fun s:Hp=>s.m n) h2;simp only[Hp.add,if_true]at h3;injection h3 with h3
  exact h3.symm
 exact⟨(key 0).2,funext fun n=>(key n).1⟩
theorem FH {ea ea':br}{x:Operand}(h: ∀t∈HC x,ea' t=ea t):ea'.ev x=ea.ev x:=by
 cases x with
 |tmp t=>exact h t (by simp[HC])
 |_=>rfl
theorem gV.same {op:AOp}{ea ea':br}{x:Ab.Blk}{vf:Nat→Value}(h:gV op ea x vf)(hf:iu op=true)(he: ∀t∈lu op,ea' t=ea t):gV op ea' x vf:=by
 intro σ;have h1:=h σ;cases op<;>first|(cases hf;done)|skip
 case alloc es z=>exact h1
 case makeSlice es bytes z l m=>
  have e1:ea'.ev l=ea.ev l:=FH fun t ht=>he t (by simp[lu,ht])
  have e2:ea'.ev m=ea.ev m:=FH fun t ht=>he t (by simp[lu,ht])
  simp only[AOp.run]at h1⊢;rw[e1,e2];exact h1
 case buildSlice es ln z ps=>
  have e1:(ps.map fun(o,s,x)=>(o,s,ea'.ev x))=ps.map fun(o,s,x)=>(o,s,ea.ev x):=by
   apply aO;rintro⟨o,s,x⟩ hx;simp only;rw[FH fun t ht=>he t (List.mem_flatMap.2 ⟨_,hx,ht⟩)]
  simp only[AOp.run]at h1⊢;rw[e1];exact h1
theorem Db {c c':Ctx}: ∀{l:List VV} {m:List Value},l.all Km=true→F2 (VRel c) l m→F2 (VRel c') l m
 |_,_,_, .nil=> .nil
 |v::l,_,h, .cons h1 h2=>by
  rw[List.all_cons,aB]at h;refine .cons ?_ (Db h.2 h2);cases h1<;>first|(cases h.1;done)|skip
  ·exact .bool _
  ·exact .int _ _
  ·exact .str (by assumption)
structure FreshFact (op:AOp)(ea:br)(blk:Blk)(w:Bool)(x:Ab.Blk)(vf:Nat→Value):Prop where
 run:gV op ea x vf
 fz:blk.frozen=false
 dm: ∃dm cs rest,blk.dim=some dm∧1≤dm.1∧x.es=dm.1∧x.own=true∧x.cells=cs++rest∧∀c':Ctx,F2 (VRel c') blk.vals cs
 vv: ∀(c':Ctx) (k b:Nat),k<c'.S.length→aa c'.S k=blk→c'.μ k=some b→c'.σ.m b=some x→VRel c' (QY w k) (vf b)
theorem sM {β:Type}{c:Ctx}{e:bu}{ea:br}{op:AOp}{k:Blk→Bool→Option β}{y:β}(he:an c e ea)(h:px op e k=some y):iu op=true∧∃blk w x vf,k blk w=some y∧FreshFact op ea blk w x vf:=by
 cases op<;>simp only[px]at h<;>first|(cases h;done)|skip
 case alloc es z=>
  obtain⟨h1,h2⟩:=ai h;have h1:=aL h1;refine⟨rfl,_,_,⟨z,true,es⟩,fun n=> .pointer (some ⟨n,0,none⟩),h2,⟨fun σ=>rfl,(ov es z).2.1,⟨(es,z.length),z,[],(ov es z).1,h1,rfl,rfl,by simp,fun c'=>(ov es z).2.2 c'⟩,fun c' k b hk hs hm hy=> ?_⟩⟩;refine .ptr hk rfl fun d hd=>⟨b,hm,rfl⟩
 case makeSlice es bytes z l m=>
  have hl:=bg he l;have hm:=bg he m;split at h
  ·rename_i k1 a k2 b s h1 h2 hs;rw[h1]at hl;rw[h2]at hm;obtain⟨hg,hk⟩:=ai h;simp only[aB]at hg;obtain⟨⟨⟨⟨g1,g2⟩,g3⟩,g4⟩,g5⟩:=hg;have g1:=aC g1;have g2:=of_decide_eq_true g2;have g3:=of_decide_eq_true g3;have g4:=of_decide_eq_true g4;have g5:=aL g5;have hz: ∀c':Ctx,F2 (VRel c') (ce s (lv s)) z:=fun c'=>rI (c:=c') hs
   have hzl:z.length=s.w:=by rw[←(hz c).length,cm]
   have hb:b≤bytes*b:=by
    have:(1:Int)*b≤bytes*b:=Int.mul_le_mul_of_nonneg_right (by omega) (by omega);omega
   refine⟨rfl,_,_,⟨co z b.toNat,true,es⟩,fun n=> .slice (some ⟨n,0,none⟩) a.toNat b.toNat,hk,⟨fun σ=> ?_,rfl,⟨(s.w,(List.replicate a.toNat (lv s)).length*s.w),co z a.toNat,co z (b.toNat-a.toNat),rfl,fY s,g1,rfl, ?_,fun c'=> ?_⟩,fun c' k q hk hs' hm' hy=> ?_⟩⟩
   ·simp only[AOp.run,hl.int_inv,hm.int_inv];rw[zE ⟨g2,g3,by omega,by omega⟩]
   ·show co z b.toNat=_;rw[←E5]
    congr 1
    omega
   ·show F2 (VRel c') (cv s (List.replicate a.toNat (lv s))) (co z a.toNat);rw[ju];generalize a.toNat=n;induction n with
    |zero=>exact .nil
    |succ n ih=>
     simp only[co,List.replicate_succ,List.flatten_cons]at ih⊢;exact(hz c').append ih
   ·refine .full hk rfl fun d hd=> ?_
    rw[hs']at hd;injection hd with hd
    subst hd;refine⟨a.toNat,by simp, .inr ⟨q,b.toNat,_,by simp,hm',by simp,by omega,hy, ?_⟩⟩;rw[Nat.zero_add];show b.toNat*s.w≤(co z b.toNat).length;rw[E6,hzl];exact aM _
  ·cases h
 case buildSlice es ln z ps=>
  split at h
  ·rename_i cs hf;obtain⟨h1,h2⟩:=ai h;simp only[aB]at h1;obtain⟨⟨⟨⟨g1,g2⟩,g3⟩,g4⟩,g5⟩:=h1;have g2:=aC g2;have g3:=aL g3;obtain⟨ra,h3,h4⟩:=oD he ps hf (Aa ln z);refine⟨g5,_,_,⟨ra,true,es⟩,fun n=> .slice (some ⟨n,0,none⟩) ln ln,h2,⟨fun σ=> ?_,rfl,⟨(es,cs.length),ra,[],rfl,g3,rfl,rfl,by simp,fun c'=>Db g4 h4⟩,fun c' k q hk hs' hm' hy=> ?_⟩⟩
   ·simp only[AOp.run,h3];rw[zE (eF h4 g1)]
   ·refine .full hk rfl fun d hd=> ?_
    rw[hs']at hd;injection hd with hd
    subst hd;refine⟨ln,g2, .inr ⟨q,ln,_,by simp,hm',by simp[g2],aM _,hy, ?_⟩⟩;rw[Nat.zero_add];show ln*es≤ra.length;rw[←h4.length];exact Nat.le_of_eq g2
  ·cases h
theorem iF {i q:Nat}: ∀{l:List Nat},l.Nodup→(q∈rl i l↔q∈l∧q≠i)
 |[],_=>by simp[rl]
 |a::r,h=>by
  obtain⟨h1,h2⟩:=List.nodup_cons.1 h;simp only[rl];cases hb:aA a i with
  |true=>
   have:=aC hb;subst this;rw[zC];constructor
   ·intro hq;exact⟨aD _ hq,fun e=>h1 (e▸hq)⟩
   ·rintro⟨hq,hn⟩;rcases List.mem_cons.1 hq with rfl|hq
    ·exact(hn rfl).elim
    ·exact hq
  |false=>
   have hne:a≠i:=fun e=>by subst e;rw[aH]at hb;cases hb
   rw[zD,aK,aK,iF h2];constructor
   ·rintro(rfl|⟨h3,h4⟩)
    ·exact⟨.inl rfl,hne⟩
    ·exact⟨.inr h3,h4⟩
   ·rintro⟨rfl|h3,h4⟩
    ·exact .inl rfl
    ·exact .inr ⟨h3,h4⟩
theorem Aw {i:Nat}: ∀{l:List Nat},l.Nodup→(rl i l).Nodup
 |[],h=>h
 |a::r,h=>by
  obtain⟨h1,h2⟩:=List.nodup_cons.1 h;simp only[rl];cases hb:aA a i with
  |true=>exact h2
  |false=>
   rw[zD,List.nodup_cons];exact⟨fun hq=>h1 ((iF h2).1 hq).1,Aw h2⟩
theorem oN : ∀{ts:List Nat} {e:bu} {t:Nat},ey (iY e ts) t= .undef∨(t∉ts∧ey (iY e ts) t=ey e t)
 |[],e,t=> .inr ⟨by simp,rfl⟩
 |a::ts,e,t=>by
  simp only[iY,nb];by_cases h:t=a
  ·rw[zE h];exact .inl rfl
  ·rw[zF h];rcases oN (ts:=ts) (e:=e) (t:=t)with h1|⟨h1,h2⟩
   ·exact .inl h1
   ·exact .inr ⟨by simp[h,h1],h2⟩
section
variable {tab:Tab} {ops:List (AOper×List Nat)}
structure InvL (ops:List (AOper×List Nat))(c0 c:Ctx)(e:bu)(ea:br)(ach:List (Nat×(Hp→Prop)))(chk:wh)(P ls nd:List Nat)(r:List LItem)(pd:Nat→Nat):Prop where
 le:Le c0 ⟨c.μ,c.S,c.σ,c0.fb⟩
 R:Rel c
 E:an c e ea
 K:ChkRel c ach chk
 ks:ach.map (·.1)=ls
 nd:iw nd chk=true
 fb: ∀b,c.fb b↔(c0.fb b∨∃q∈P,pd q=b)
 nod:P.Nodup
 inj: ∀q q',q∈P→q'∈P→pd q=pd q'→q=q'
 new: ∀q∈P,c0.σ.n≤pd q
 pend: ∀q∈P,iu (au ops q).op=true∧∃x vf,gV (au ops q).op ea x vf∧c.σ.m (pd q)=some x∧∀t,(au ops q).dst=some t→ea t=vf (pd q)
 und: ∀it∈r,aA it.kind 2=true→∀t,(au ops it.i).dst=some t→ey e t= .undef
 ds:wL ops r=true
theorem wR.frameV {c c':Ctx}{p:Hp→Prop}(hR:Rel c)(hl:LeV c c')(hS: ∀q,q<c.S.length→aa c'.S q=aa c.S q)(hmu: ∀q,q<c.S.length→c'.μ q=c.μ q)(hσ: ∀b y,c.σ.m b=some y→c'.σ.m b=some y): ∀{s:Option (Option Nat)},wR c p s→wR c' p s
 |none,_=>trivial
 |some none,h=>by
  refine⟨h.2 _ fun b y hy _=>hσ b y hy,fun σ' hσ'=>h.2 σ' fun b y hy hn=> ?_⟩;obtain⟨h1,h2⟩:=hl.rd b y hy hn;exact hσ' b y h1 h2
 |some (some q),h=>by
  obtain⟨h1,h2,h3⟩:=h;have hq:=eS h1
  have hb: ∀b,c.μ q=some b→c'.σ.m b=c.σ.m b:=by
   intro b hb;cases hd:(aa c.S q).dim with
   |none=>exact(h1 hd).elim
   |some d=>
    obtain⟨_,h4⟩:=hR.blk q d hd;rcases h4 with⟨_,h4⟩|⟨b',y,cs,rest,h4,h5,_⟩
    ·rw[hb]at h4;cases h4
    ·rw[hb]at h4;injection h4 with h4
     subst h4;rw[h5];exact hσ _ _ h5
  exact⟨by rw[hS q hq];exact h1,h3 _ hb,fun σ' hs=>h3 σ' fun b hb'=>(hs b (by rw[hmu q hq];exact hb')).trans (hb b hb')⟩
theorem ChkRel.frameV {c c':Ctx}(hR:Rel c)(hl:LeV c c')(hS: ∀q,q<c.S.length→aa c'.S q=aa c.S q)(hmu: ∀q,q<c.S.length→c'.μ q=c.μ q)(hσ: ∀b y,c.σ.m b=some y→c'.σ.m b=some y): ∀{l:List (Nat×(Hp→Prop))} {m:wh},ChkRel c l m→ChkRel c' l m
 |_,_, .nil=> .nil
 |_,_, .cons h1 hj h2=> .cons (h1.frameV hR hl hS hmu hσ) (hj.next hl) (h2.frameV hR hl hS hmu hσ)
theorem iv {c:Ctx}{m:Nat}{is:List Nat}: ∀{l:List (Nat×(Hp→Prop))} {chk:wh},ChkRel c l chk→iw is chk=true→(∀i∈l.map (·.1),kU ops i m=true∨eJ i is=true)→rz ops m c.σ l
 |_,_, .nil,_,_=>trivial
 |_,_, .cons (i:=i) (s:=s) h1 _ h2,h,hb=>by
  simp only[iw]at h;simp only[rz];have hrest:iw is _=true→rz ops m c.σ _:=fun h3=>iv h2 h3 fun j hj=>hb j (by simp only[List.map_cons];exact aD _ hj)
  cases hbf:kU ops i m with
  |true=>
   rw[zE rfl];cases hm:eJ i is with
   |false=>rw[hm,zD]at h;exact hrest h
   |true=>
    rw[hm,zC]at h;cases s with
    |none=>cases h
    |some s=>exact hrest h
  |false=>
   rw[zF (by decide)];rcases hb i (by simp)with h3|h3
   ·rw[hbf]at h3;cases h3
   ·rw[h3,zC]at h;cases s with
    |none=>cases h
    |some s=>exact⟨h1.now,hrest h⟩
theorem CJ {β:Type}{c0 c:Ctx}{e:bu}{ea:br}{ach:List (Nat×(Hp→Prop))}{chk:wh}{P ls nd:List Nat}{it:LItem}{r:List LItem}{pd:Nat→Nat}{K:bu→ae→Option β}{y:β}(h0:Rel c0)
  (hI:InvL ops c0 c e ea ach chk P ls nd (it::r) pd) (hk:aA it.kind 2=true) (hP:it.i∈P) (h:px (au ops it.i).op e (fun blk w=>K (putO e (au ops it.i).dst (QY w c.S.length)) (c.S++[blk]))=some y):
  ∃c' e',c'.σ=c.σ∧InvL ops c0 c' e' ea ach chk (rl it.i P) ls nd r pd∧K e' c'.S=some y∧c'.μ c.S.length=some (pd it.i)∧c.S.length<c'.S.length∧∃vv,e'=putO e (au ops it.i).dst vv:=by
 obtain⟨hfb,blk,w,x',vf',h1,h2⟩:=sM hI.E h;obtain⟨_,x,vf,h3,h4,h5⟩:=hI.pend _ hP;obtain⟨ex,ef⟩:=h2.run.unique h3;subst ex;subst ef;obtain⟨dm,cs,rest,d1,d2,d3,d4,d5,d6⟩:=h2.dm;have hlen:(c.S++[blk]).length=c.S.length+1:=by simp
 have hds:=hI.ds;simp only[wL,aB]at hds
 let b:=pd it.i
 let c':Ctx:=⟨fun q=>if q=c.S.length then some b else c.μ q,c.S++[blk],c.σ,fun q=>c0.fb q∨∃j∈rl it.i P,pd j=q⟩
 have hfbb:c.fb b:=(hI.fb b).2 (.inr ⟨it.i,hP,rfl⟩);have hS: ∀q,q<c.S.length→aa c'.S q=aa c.S q:=fun q hq=>fX hq
 have hmu: ∀q,q<c.S.length→c'.μ q=c.μ q:=fun q hq=>zF (Nat.ne_of_lt hq)
 have hnewS:aa c'.S c.S.length=blk:=H6;have hnewmu:c'.μ c.S.length=some b:=zE rfl
 have hfb': ∀q,c'.fb q→c.fb q:=by
  rintro q (hq|⟨j,hj,rfl⟩)
  ·exact(hI.fb q).2 (.inl hq)
  ·exact(hI.fb _).2 (.inr ⟨j,((iF hI.nod).1 hj).1,rfl⟩)
 have hbnot: ¬c'.fb b:=by
  rintro(hq|⟨j,hj,hjb⟩)
  ·have:=h0.fbl _ hq;have:=hI.new _ hP;omega
  ·obtain⟨hj1,hj2⟩:=(iF hI.nod).1 hj;exact hj2 (hI.inj _ _ hj1 hP hjb)
 have hown: ∀q,c'.own q→c.own q∨q=b:=by
  rintro q ⟨j,hj1,hj2⟩;by_cases hj:j<c.S.length
  ·rw[hS j hj]at hj1;rw[hmu j hj]at hj2;exact .inl ⟨j,hj1,hj2⟩
  ·by_cases hj3:j=c.S.length
   ·subst hj3;rw[hnewmu]at hj2;injection hj2 with hj2
    exact .inr hj2.symm
   ·rw[nn (by show c'.S.length≤j;rw[hlen];omega)]at hj1;cases hj1
 have hV:LeV c c':=by
  refine⟨by rw[hlen];omega,fun q d hq hd=> ?_,fun q d b' y' hq hd hm hy=>⟨y',hy,rfl⟩,fun b' y' hy hn=>⟨hy,fun hm=> ?_⟩⟩
  ·rw[hS q hq]at hd;exact⟨hd,hmu q hq⟩
  ·rcases hm with hm|hm
   ·rcases hown b' hm with hm|hm
    ·exact hn (.inl hm)
    ·subst hm;exact hn (.inr hfbb)
   ·exact hn (.inr (hfb' _ hm))
 have hR':Rel c':=by
  refine⟨hI.R.ok,fun q q' b' hq hq' hm hm'=> ?_,fun q d hd=> ?_,fun q b' hd hm=> ?_,fun b' hb'=>hI.R.fbl _ (hfb' _ hb')⟩
  ·have cases3: ∀j,(aa c'.S j).dim≠none→j<c.S.length∨j=c.S.length:=by
    intro j hj;have:=eS hj;rw[hlen]at this;omega
   rcases cases3 q (fE hq)with h6|h6
   ·rcases cases3 q' hq' with h7|h7
    ·rw[hS q h6]at hq;rw[hS q' h7]at hq';rw[hmu q h6]at hm;rw[hmu q' h7]at hm';exact hI.R.inj q q' b' hq hq' hm hm'
    ·subst h7;rw[hnewmu]at hm';injection hm' with hm'
     subst hm';rw[hmu q h6]at hm;rw[hS q h6]at hq;exact(hI.R.fbk q _ (fE hq) hm hfbb).elim
   ·rcases cases3 q' hq' with h7|h7
    ·subst h6;rw[hnewmu]at hm;injection hm with hm
     subst hm;rw[hmu q' h7]at hm';rw[hS q' h7]at hq';exact(hI.R.fbk q' _ hq' hm' hfbb).elim
    ·rw[h6,h7]
  ·by_cases hq:q<c.S.length
   ·rw[hS q hq]at hd⊢;obtain⟨h6,h7⟩:=hI.R.blk q d hd;refine⟨h6, ?_⟩;rcases h7 with⟨h7,h8⟩|⟨b',y',cs',rest',h7,h8,h9,h10,h11,h12⟩
    ·exact .inl ⟨h7,by rw[hmu q hq];exact h8⟩
    ·exact .inr ⟨b',y',cs',rest',by rw[hmu q hq];exact h7,h8,h9,h10,h11,VRel.framesV hV h12⟩
   ·by_cases hq2:q=c.S.length
    ·subst hq2;rw[hnewS]at hd⊢;rw[d1]at hd;injection hd with hd
     subst hd;exact⟨d2, .inr ⟨b,x',cs,rest,hnewmu,h4,d3,fun _=>d4,d5,d6 c'⟩⟩
    ·rw[nn (by show c'.S.length≤q;rw[hlen];omega)]at hd;cases hd
  ·by_cases hq:q<c.S.length
   ·rw[hS q hq]at hd;rw[hmu q hq]at hm;exact fun hf=>hI.R.fbk q b' hd hm (hfb' _ hf)
   ·have:=eS hd;rw[hlen]at this;have hq2:q=c.S.length:=by omega
    subst hq2;rw[hnewmu]at hm;injection hm with hm
    subst hm;exact hbnot
 have hvv:VRel c' (QY w c.S.length) (vf' b):=h2.vv c' c.S.length b (by rw[hlen];omega) hnewS hnewmu h4
 have hE':an c' (putO e (au ops it.i).dst (QY w c.S.length)) ea:=by
  have hE:=hI.E.frameV hV;cases hd:(au ops it.i).dst with
  |none=>exact hE
  |some t=>
   intro t';show VRel c' (ey (iH e t _) t') (ea t');rw[nb];by_cases ht:t'=t
   ·subst ht;rw[zE rfl,h5 _ hd];exact hvv
   ·rw[zF ht];exact hE t'
 refine⟨c',_,rfl,⟨?_,hR',hE',hI.K.frameV hI.R hV hS hmu (fun _ _ hy=>hy),hI.ks,hI.nd,fun q=>Iff.rfl,Aw hI.nod,fun q q' hq hq'=>hI.inj q q' ((iF hI.nod).1 hq).1 ((iF hI.nod).1 hq').1,fun q hq=>hI.new q ((iF hI.nod).1 hq).1,fun q hq=>hI.pend q ((iF hI.nod).1 hq).1, ?_,hds.2⟩,h1,hnewmu,by rw[hlen];omega,_,rfl⟩
 ·have hle:=hI.le;refine⟨aN hle.len (by show c.S.length≤c'.S.length;rw[hlen];omega),fun q d hq hd=> ?_,fun q hf hd=> ?_,fun q d b' y' hq hd hm hy=> ?_,fun b' y' hy hn=>hle.un b' y' hy hn,fun b' y' hy hn ho=> ?_,hle.n,rfl⟩
  ·have hq':q<c.S.length:=aE hq hle.len;have:=hS q hq';rw[show(⟨c'.μ,c'.S,c'.σ,c0.fb⟩:Ctx).S=c'.S from rfl,this]at hd;obtain⟨h6,h7⟩:=hle.al q d hq hd;exact⟨h6,(hmu q hq').trans h7⟩
  ·have hq':q<c.S.length:=aE (eS hd) hle.len;exact(hS q hq').trans (hle.fz q hf hd)
  ·have hq':q<c.S.length:=aE hq hle.len;have:=hS q hq';rw[show(⟨c'.μ,c'.S,c'.σ,c0.fb⟩:Ctx).S=c'.S from rfl,this]at hd;exact hle.ln q d b' y' hq hd hm hy
  ·have ho':c'.own b':=ho;rcases hown b' ho' with ho2|ho2
   ·exact hle.ow b' y' hy hn ho2
   ·subst ho2;have:=h0.ok _ _ hy;have:=hI.new _ hP;omega
 ·intro it' hit' hk' t ht;have hu:=hI.und it' (aD _ hit') hk' t ht;cases hd:(au ops it.i).dst with
  |none=>exact hu
  |some t'=>
   show ey (iH e t' _) t=_;rw[nb];by_cases htt:t=t'
   ·subst htt;have:=List.all_eq_true.1 hds.1 it' hit';rw[hk,hk']at this;simp only[aJ,aI,Ka,hd,ht,aH]at this;cases this
   ·rw[zF htt];exact hu
theorem J4 {β:Type}{c0 c:Ctx}{e:bu}{ea:br}{ach:List (Nat×(Hp→Prop))}{chk:wh}{P ls nd:List Nat}{it:LItem}{r:List LItem}{pd:Nat→Nat}{k:bu→ae→Option β}{y:β}(h0:Rel c0)
  (hI:InvL ops c0 c e ea ach chk P ls nd (it::r) pd) (hk:aA it.kind 2=true) (hP:it.i∈P) (h:tt tab ops (it::r) chk e c.S k=some y):
  ∃c' e',c'.σ=c.σ∧InvL ops c0 c' e' ea ach chk (rl it.i P) ls nd r pd∧tt tab ops r chk e' c'.S k=some y:=by
 have hk3:aA it.kind 3=false:=by rw[aC hk];rfl
 simp only[tt,hk,hk3,zC,zD]at h;obtain⟨c',e',h1,h2,h3,_⟩:=CJ (K:=fun e' S'=>tt tab ops r chk e' S' k) h0 hI hk hP h;exact⟨c',e',h1,h2,h3⟩
theorem HJ {β:Type}{c0 c:Ctx}{e:bu}{ea:br}{ach:List (Nat×(Hp→Prop))}{chk:wh}{P ls nd:List Nat}{it:LItem}{r:List LItem}{pd:Nat→Nat}{k:bu→ae→Option β}{y:β}
  (hI:InvL ops c0 c e ea ach chk P ls nd (it::r) pd) (hk:aA it.kind 3=true) (h:tt tab ops (it::r) chk e c.S k=some y):
  InvL ops c0 c e ea ach chk P ls nd r pd∧tt tab ops r chk e c.S k=some y:=by
 simp only[tt,hk,zC]at h;obtain⟨_,_,_,_,_,h1,_⟩:=sM hI.E h;have hds:=hI.ds;simp only[wL,aB]at hds;exact⟨⟨hI.le,hI.R,hI.E,hI.K,hI.ks,hI.nd,hI.fb,hI.nod,hI.inj,hI.new,hI.pend,fun j hj hk t ht=>hI.und j (aD _ hj) hk t ht,hds.2⟩,h1⟩
theorem yJ {β:Type}{c0:Ctx}{ea:br}{ach:List (Nat×(Hp→Prop))}{chk:wh}{ls nd:List Nat}{pd:Nat→Nat}{k:bu→ae→Option β}{y:β}{i:Nat}(h0:Rel c0): ∀(r:List LItem) {P P':List Nat} {it:LItem} {r':List LItem} {c:Ctx} {e:bu},sV r P i=some (P',it,r')→
  InvL ops c0 c e ea ach chk P ls nd r pd→tt tab ops r chk e c.S k=some y→
  ∃c' e',c'.σ=c.σ∧InvL ops c0 c' e' ea ach chk P' ls nd (it::r') pd∧tt tab ops (it::r') chk e' c'.S k=some y∧aA it.kind 2=false∧it.i=i∧∀q∈P',q∈P
 |[],P,P',it,r',c,e,h,_,_=>by cases h
 |a::r,P,P',it,r',c,e,h,hI,hv=>by
  simp only[sV]at h;cases hk3:aA a.kind 3 with
  |true=>
   rw[hk3,zC]at h;obtain⟨h1,h2⟩:=HJ hI hk3 hv;exact yJ h0 r h h1 h2
  |false=>
  rw[hk3,zD]at h;cases hk:aA a.kind 2 with
  |false=>
   rw[hk,zD]at h;cases hi:aA a.i i with
   |false=>rw[hi]at h;cases h
   |true=>
    rw[hi,zC]at h;injection h with h
    injection h with h1 h
    injection h with h2 h3
    subst h1;subst h2;subst h3;exact⟨c,e,rfl,hI,hv,hk,aC hi,fun q hq=>hq⟩
  |true=>
   rw[hk,zC]at h;cases hm:eJ a.i P with
   |false=>rw[hm]at h;cases h
   |true=>
    rw[hm,zC]at h;obtain⟨c1,e1,h1,h2,h3⟩:=J4 h0 hI hk (dU.1 hm) hv;obtain⟨c2,e2,h4,h5,h6,h7,h8,h9⟩:=yJ h0 r h h2 h3;exact⟨c2,e2,h4.trans h1,h5,h6,h7,h8,fun q hq=>((iF hI.nod).1 (h9 q hq)).1⟩
theorem FI {β:Type}{c0:Ctx}{ea:br}{ach:List (Nat×(Hp→Prop))}{chk:wh}{ls nd:List Nat}{pd:Nat→Nat}{k:bu→ae→Option β}{y:β}(h0:Rel c0): ∀(r:List LItem) {P:List Nat} {c:Ctx} {e:bu},IU r P=true→
  InvL ops c0 c e ea ach chk P ls nd r pd→tt tab ops r chk e c.S k=some y→gW c0 k y ea c.σ
 |[],P,c,e,h,hI,hv=>by
  have hP:P=[]:=by
   cases P with
   |nil=>rfl
   |cons a r=>simp[IU]at h
  subst hP
  have hfb:c.fb=c0.fb:=by
   funext b
   refine propext ((hI.fb b).trans ⟨fun h=> ?_, .inl⟩);rcases h with h|⟨q,hq,_⟩
   ·exact h
   ·cases hq
  refine⟨e,c,rfl, ?_,hI.R,hI.E,hv⟩;have:=hI.le;rw[←hfb]at this;exact this
 |a::r,P,c,e,h,hI,hv=>by
  simp only[IU]at h;cases hk3:aA a.kind 3 with
  |true=>
   rw[hk3,zC]at h;obtain⟨h1,h2⟩:=HJ hI hk3 hv;exact FI h0 r h h1 h2
  |false=>
  rw[hk3,zD]at h;simp only[aB]at h;obtain⟨c1,e1,h1,h2,h3⟩:=J4 h0 hI h.1.1 (dU.1 h.1.2) hv;rw[←h1];exact FI h0 r h.2 h2 h3
theorem Bt {β:Type}{c:Ctx}{ea:br}{chk:wh}{k:bu→ae→Option β}{y:β}{m:Nat}: ∀(r:List LItem) {e e':bu} {S:ae},CA ops r m=true→an c e ea→(∀t∈lu (au ops m).op,ey e' t=ey e t)→tt tab ops r chk e' S k=some y→∃x vf,iu (au ops m).op=true∧gV (au ops m).op ea x vf
 |[],e,e',S,h,_,_,_=>by cases h
 |a::r,e,e',S,h,he,hu,hv=>by
  have huse: ∀(vv:VV),jN (au ops a.i).dst (lu (au ops m).op)=true→∀t∈lu (au ops m).op,ey (putO e' (au ops a.i).dst vv) t=ey e t:=by
   intro vv h1 t ht;rw[←hu t ht];cases hd:(au ops a.i).dst with
   |none=>rfl
   |some t'=>
    show ey (iH e' t' _) t=_;rw[nb];by_cases htt:t=t'
    ·subst htt;rw[hd]at h1;simp only[jN]at h1;rw[dU.2 ht]at h1;cases h1
    ·rw[zF htt]
  have fresh_here: ∀{γ:Type} {k':Blk→Bool→Option γ} {z:γ},px (au ops m).op e' k'=some z→∃x vf,iu (au ops m).op=true∧gV (au ops m).op ea x vf:=by
   intro γ k' z hv
   have hv':px (au ops m).op e k'=some z:=by
    cases hop:(au ops m).op<;>rw[hop]at hv hu<;>simp only[px]at hv<;>first|(cases hv;done)|skip
    case alloc es z=>exact hv
    case makeSlice es bytes z l q=>
     have e1:ev e' l=ev e l:=by
      cases l with
      |tmp t=>exact hu t (by simp[lu,HC])
      |_=>rfl
     have e2:ev e' q=ev e q:=by
      cases q with
      |tmp t=>exact hu t (by simp[lu,HC])
      |_=>rfl
     rw[e1,e2]at hv;exact hv
    case buildSlice es ln z ps=>
     have e1:qK e' ps=qK e ps:=by
      unfold qK;apply aO;rintro⟨o,s,x⟩ hx;simp only
      have:ev e' x=ev e x:=by
       cases x with
       |tmp t=>exact hu t (List.mem_flatMap.2 ⟨_,hx,by simp[HC]⟩)
       |_=>rfl
      rw[this]
     rw[e1]at hv;exact hv
   obtain⟨hf,blk,w,x,vf,_,h2⟩:=sM he hv';exact⟨x,vf,hf,h2.run⟩
  simp only[CA]at h;cases hk3:aA a.kind 3 with
  |true=>
   rw[hk3,zC,aF]at h;simp only[tt,hk3,zC]at hv;rcases h with h|h
   ·rw[aC h]at hv;exact fresh_here hv
   ·have hnext:tt tab ops r chk e' S k=some y:=by
     cases hop:(au ops a.i).op<;>rw[hop]at hv<;>simp only[px]at hv<;>first|(cases hv;done)|skip
     case alloc es z=>exact(ai hv).2
     case makeSlice es bytes z l q=>
      split at hv
      ·exact(ai hv).2
      ·cases hv
     case buildSlice es ln z ps=>
      split at hv
      ·exact(ai hv).2
      ·cases hv
    exact Bt r h he hu hnext
  |false=>
  rw[hk3,zD]at h;simp only[aF,aB]at h;rcases h with⟨hk,h⟩|⟨⟨⟨hk,hmv⟩,h1⟩,h2⟩
  ·simp only[tt,hk,hk3,zC,zD]at hv;by_cases hi:a.i=m
   ·rw[hi]at hv;exact fresh_here hv
   ·rcases h with h|⟨h1,h2⟩
    ·exact(hi (aC h)).elim
    ·have hnext: ∃blk w,tt tab ops r chk (putO e' (au ops a.i).dst (QY w S.length)) (S++[blk]) k=some y:=by
      cases hop:(au ops a.i).op<;>rw[hop]at hv<;>simp only[px]at hv<;>first|(cases hv;done)|skip
      case alloc es z=>exact⟨_,_,(ai hv).2⟩
      case makeSlice es bytes z l q=>
       split at hv
       ·exact⟨_,_,(ai hv).2⟩
       ·cases hv
      case buildSlice es ln z ps=>
       split at hv
       ·exact⟨_,_,(ai hv).2⟩
       ·cases hv
     obtain⟨blk,w,hv2⟩:=hnext;exact Bt r h2 he (huse _ h1) hv2
  ·have hk2:aA a.kind 2=false:=by rw[aC hk];rfl
   have hk1:aA a.kind 1=false:=by rw[aC hk];rfl
   have hk5:aA a.kind 5=false:=by rw[aC hk];rfl
   simp only[tt,hk2,hk1,hk3,hk5,zD]at hv;obtain⟨_,hv⟩:=ai hv;cases hop:(au ops a.i).op<;>rw[hop]at hmv<;>first|(cases hmv;done)|skip
   case move x=>
    rw[hop]at hv;simp only[zp,AOp.isLoad,zD]at hv;obtain⟨_,hv⟩:=ai hv;exact Bt r h2 he (huse _ h1) hv
theorem Fy {F:Nat→Prop}: ∀{l:List Nat},(∀m∈l,F m)→B5 F l
 |[],_=>trivial
 |[m],h=>h m (by simp)
 |m::m'::r,h=>⟨h m (by simp),Fy fun q hq=>h q (aD _ hq)⟩
theorem FV {D:List Nat}{i:Nat}(h:ci ops D=some i): ∃p,ops[i]?=some (au ops i,p)∧(au ops i).op.still=true:=by
 unfold ci at h;have h1:=List.find?_some h;simp only[aB]at h1;have h2:=h1.2;unfold sU at h2;unfold au;split at h2
 ·rename_i o p ho;rw[ho];exact⟨p,rfl,h2⟩
 ·cases h2
theorem CR {D:List Nat}{m:Nat}(h:m∈bi ops D): ∃p,ops[m]?=some (au ops m,p)∧(au ops m).op.still=false:=by
 unfold bi at h;obtain⟨h1,h2⟩:=List.mem_filter.1 h;have h1:=List.mem_range.1 h1;simp only[aB]at h2;have h3:=h2.2;unfold sU at h3;unfold au;rw[List.getElem?_eq_getElem h1]at h3⊢;exact⟨_,rfl,by simpa using h3⟩
theorem Kd {self:Nat}{ex:Bool}{P:List Nat}{r:List LItem}(h:ll ops self ex P r=true){q:Nat}(hq:q∈P):(∀t,(au ops self).dst=some t→(au ops q).dst≠some t)∧∀t,(au ops self).dst=some t→t∉lu (au ops q).op:=by
 simp only[ll,aB]at h;have h1:=List.all_eq_true.1 h.1 q hq;rw[aB]at h1;refine⟨fun t ht e=> ?_,fun t ht hu=> ?_⟩
 ·have:=h1.1;rw[ht,e]at this;simp only[Ka,aH]at this;cases this
 ·have:=h1.2;rw[ht]at this;simp only[jN]at this;rw[dU.2 hu]at this;cases this
theorem OX {self:Nat}{ex:Bool}{P:List Nat}{r:List LItem}(h:ll ops self ex P r=true){it:LItem}(hit:it∈r)(hk:aA it.kind 2=true)(hne:ex=true→it.i≠self){t:Nat}(ht:(au ops self).dst=some t):(au ops it.i).dst≠some t:=by
 simp only[ll,aB]at h;have h1:=List.all_eq_true.1 h.2 it hit
 have h2:(ex&&aA it.i self)=false:=by
  cases ex with
  |false=>rfl
  |true=>exact Bool.eq_false_iff.2 fun e=>hne rfl (aC e)
 rw[hk,h2]at h1;intro e;rw[ht,e]at h1;simp only[aJ,aI,Ka,aH]at h1;cases h1
theorem qn {ea:br}{d:Option Nat}{v:Value}{t:Nat}(h: ∀t',d=some t'→t≠t'):(ea.putO d v) t=ea t:=by
 cases d with
 |none=>rfl
 |some t'=>exact zF (h t' rfl)
theorem Nd {e:bu}{d:Option Nat}{v:VV}{t:Nat}(h: ∀t',d=some t'→t≠t'):ey (putO e d v) t=ey e t:=by
 cases d with
 |none=>rfl
 |some t'=>
  show ey (iH e t' v) t=_;rw[nb,zF (h t' rfl)]
theorem InvL.on {c0 c c':Ctx}{e:bu}{ea:br}{ach ach':List (Nat×(Hp→Prop))}{chk chk':wh}{P ls ls' nd nd':List Nat}{it:LItem}{r:List LItem}{pd:Nat→Nat}{i:Nat}{vv:VV}{v:Value}
  (hI:InvL ops c0 c e ea ach chk P ls nd (it::r) pd) (hd:ll ops i false P r=true) (hl:Le c c') (hR:Rel c') (hv:VRel c' vv v) (hK:ChkRel c' ach' chk') (hks:ach'.map (·.1)=ls') (hnd:iw nd' chk'=true):
  InvL ops c0 c' (putO e (au ops i).dst vv) (ea.putO (au ops i).dst v) ach' chk' P ls' nd' r pd:=by
 have hds:=hI.ds;simp only[wL,aB]at hds;refine⟨?_,hR,(hI.E.frame hl).putO hv,hK,hks,hnd,fun b=>by rw[hl.fb];exact hI.fb b,hI.nod,hI.inj,hI.new,fun q hq=> ?_,fun j hj hk t ht=> ?_,hds.2⟩
 ·have h1:=hI.le;have h2:Le ⟨c.μ,c.S,c.σ,c0.fb⟩ ⟨c'.μ,c'.S,c'.σ,c0.fb⟩:=⟨hl.len,hl.al,hl.fz,hl.ln,hl.un,hl.ow,hl.n,rfl⟩;exact h1.trans h2
 ·obtain⟨hf,x,vf,h1,h2,h3⟩:=hI.pend q hq;obtain⟨k1,k2⟩:=Kd hd hq;refine⟨hf,x,vf,h1.same hf fun t ht=>qn fun t' ht' e=>k2 t' ht' (e▸ht),hl.un _ _ h2 fun ho=> ?_,fun t ht=> ?_⟩
  ·obtain⟨j,hj1,hj2⟩:=ho;exact hI.R.fbk j _ (fE hj1) hj2 ((hI.fb _).2 (.inr ⟨q,hq,rfl⟩))
  ·rw[qn fun t' ht' e=>k1 t' ht' (e▸ht)];exact h3 t ht
 ·rw[Nd fun t' ht' e=>OX hd hj hk (fun h=>by cases h) ht' (e▸ht)];exact hI.und j (aD _ hj) hk t ht
theorem zw {c0 c:Ctx}{e:bu}{ea:br}{ach:List (Nat×(Hp→Prop))}{chk:wh}{P ls nd:List Nat}{r:List LItem}{pd:Nat→Nat}{m:Nat}{x:Ab.Blk}{vf:Nat→Value}
  (hI:InvL ops c0 c e ea ach chk P ls nd r pd) (hmP:m∉P) (hfr:iu (au ops m).op=true) (hF:gV (au ops m).op ea x vf) (hd:ll ops m true P r=true) (hself:jN (au ops m).dst (lu (au ops m).op)=true)
  (hany:r.any (fun it=>aA it.kind 2&&aA it.i m)=true):
  InvL ops c0 ⟨c.μ,c.S,c.σ.add x,fun b=>c.fb b∨b=c.σ.n⟩ e (ea.putO (au ops m).dst (vf c.σ.n)) ach chk (m::P) ls nd r (fun q=>if q=m then c.σ.n else pd q):=by
 let c':Ctx:=⟨c.μ,c.S,c.σ.add x,fun b=>c.fb b∨b=c.σ.n⟩
 have hadd: ∀b y,c.σ.m b=some y→(c.σ.add x).m b=some y:=by
  intro b y hy;have:=hI.R.ok b y hy;simp only[Hp.add];rw[zF (by omega)];exact hy
 have hV:LeV c c':=by
  refine⟨aM _,fun q d hq hdm=>⟨hdm,rfl⟩,fun q d b y hq hdm hm hy=>⟨y,hadd b y hy,rfl⟩,fun b y hy hn=>⟨hadd b y hy,fun hm=> ?_⟩⟩;rcases hm with hm|hm|hm
  ·exact hn (.inl hm)
  ·exact hn (.inr hm)
  ·have:=hI.R.ok b y hy;omega
 have hR':Rel c':=by
  refine⟨fun b y hy=> ?_,hI.R.inj,fun q d hdm=> ?_,fun q b hdm hm hf=> ?_,fun b hb=> ?_⟩
  ·simp only[c',Hp.add]at hy⊢;split at hy
   ·omega
   ·have:=hI.R.ok b y hy;omega
  ·obtain⟨h6,h7⟩:=hI.R.blk q d hdm;refine⟨h6, ?_⟩;rcases h7 with h7|⟨b',y',cs',rest',h7,h8,h9,h10,h11,h12⟩
   ·exact .inl h7
   ·exact .inr ⟨b',y',cs',rest',h7,hadd _ _ h8,h9,h10,h11,VRel.framesV hV h12⟩
  ·rcases hf with hf|hf
   ·exact hI.R.fbk q b hdm hm hf
   ·subst hf;have hdm':(aa c.S q).dim≠none:=hdm;cases hd2:(aa c.S q).dim with
    |none=>exact hdm' hd2
    |some d=>
     obtain⟨_,h7⟩:=hI.R.blk q d hd2;have hm':c.μ q=some c.σ.n:=hm;rcases h7 with⟨_,h7⟩|⟨b',y',cs',rest',h7,h8,_⟩
     ·rw[hm']at h7;cases h7
     ·rw[hm']at h7;injection h7 with h7
      subst h7;have:=hI.R.ok _ _ h8;omega
  ·show b<c.σ.n+1;rcases hb with hb|hb
   ·have:=hI.R.fbl b hb;omega
   ·omega
 have hK':=hI.K.frameV hI.R hV (fun _ _=>rfl) (fun _ _=>rfl) hadd;refine⟨?_,hR', ?_,hK',hI.ks,hI.nd,fun b=> ?_,List.nodup_cons.2 ⟨hmP,hI.nod⟩,fun q q' hq hq' he=> ?_,fun q hq=> ?_,fun q hq=> ?_,hI.und,hI.ds⟩
 ·have hle:=hI.le;refine⟨hle.len,hle.al,hle.fz,fun q d b y hq hdm hm hy=> ?_,fun b y hy hn=>hadd _ _ (hle.un b y hy hn),hle.ow,aN hle.n (Nat.le_succ _),rfl⟩;obtain⟨y',q1,q2⟩:=hle.ln q d b y hq hdm hm hy;exact⟨y',hadd _ _ q1,q2⟩
 ·have hE:=hI.E.frameV hV;intro t;cases hdst:(au ops m).dst with
  |none=>exact hE t
  |some t'=>
   show VRel c' (ey e t) (if t=t' then _ else ea t);by_cases htt:t=t'
   ·subst htt;rw[zE rfl];obtain⟨it,hit,hit2⟩:=List.any_eq_true.1 hany;rw[aB]at hit2;have hitm:=aC hit2.2;subst hitm;rw[hI.und it hit hit2.1 _ hdst];exact .undef _
   ·rw[zF htt];exact hE t
 ·constructor
  ·rintro(hb|hb)
   ·rcases(hI.fb b).1 hb with hb|⟨q,hq,hb⟩
    ·exact .inl hb
    ·refine .inr ⟨q,aD _ hq, ?_⟩;show(if q=m then c.σ.n else pd q)=b;rw[zF (fun e:q=m=>hmP (e▸hq))];exact hb
   ·exact .inr ⟨m,aG,by simp[hb]⟩
  ·rintro(hb|⟨q,hq,hb⟩)
   ·exact .inl ((hI.fb b).2 (.inl hb))
   ·rcases List.mem_cons.1 hq with rfl|hq
    ·simp only[if_true]at hb;exact .inr hb.symm
    ·have hb:(if q=m then c.σ.n else pd q)=b:=hb;rw[zF (fun e:q=m=>hmP (e▸hq))]at hb;exact .inl ((hI.fb b).2 (.inr ⟨q,hq,hb⟩))
 ·have hlt: ∀q∈P,pd q<c.σ.n:=fun q hq=>hI.R.fbl _ ((hI.fb _).2 (.inr ⟨q,hq,rfl⟩))
  have he:(if q=m then c.σ.n else pd q)=if q'=m then c.σ.n else pd q':=he
  rcases List.mem_cons.1 hq with rfl|hq1
  ·rcases List.mem_cons.1 hq' with rfl|hq2
   ·rfl
   ·rw[zE rfl,zF (fun e:q'=q=>hmP (e▸hq2))]at he;have:=hlt _ hq2;omega
  ·rw[zF (fun e:q=m=>hmP (e▸hq1))]at he;rcases List.mem_cons.1 hq' with rfl|hq2
   ·rw[zE rfl]at he;have:=hlt _ hq1;omega
   ·rw[zF (fun e:q'=m=>hmP (e▸hq2))]at he;exact hI.inj q q' hq1 hq2 he
 ·show c0.σ.n≤(if q=m then c.σ.n else pd q);rcases List.mem_cons.1 hq with rfl|hq
  ·rw[zE rfl];exact hI.le.n
  ·rw[zF (fun e:q=m=>hmP (e▸hq))];exact hI.new q hq
 ·show iu (au ops q).op=true∧∃x1 vf1,gV (au ops q).op (ea.putO (au ops m).dst (vf c.σ.n)) x1 vf1∧c'.σ.m (if q=m then c.σ.n else pd q)=some x1∧∀t,(au ops q).dst=some t→ea.putO (au ops m).dst (vf c.σ.n) t=vf1 (if q=m then c.σ.n else pd q)
  rcases List.mem_cons.1 hq with rfl|hq
  ·rw[zE rfl];refine⟨hfr,x,vf,hF.same hfr fun t ht=>qn fun t' ht' e=> ?_,zE rfl,fun t ht=> ?_⟩
   ·subst e;rw[ht']at hself;simp only[jN]at hself;rw[dU.2 ht]at hself;cases hself
   ·rw[ht];exact zE rfl
  ·rw[zF (fun e:q=m=>hmP (e▸hq))];obtain⟨hf',x',vf',q1,q2,q3⟩:=hI.pend q hq;obtain⟨k1,k2⟩:=Kd hd hq;refine⟨hf',x',vf',q1.same hf' fun t ht=>qn fun t' ht' e=>k2 t' ht' (e▸ht),hadd _ _ q2,fun t ht=> ?_⟩;rw[qn fun t' ht' e=>k1 t' ht' (e▸ht)];exact q3 t ht
def vO (ops:List (AOper×List Nat))(j:Nat)(ea:br):Value:=match(au ops j).dst with
 |some t=>ea t
 |none=>undef
def wQ (ops:List (AOper×List Nat))(b:Nat)(x:Ab.Blk)(l:List Nat)(ea:br):Prop:= ∀j∈l,∀σ':Hp,σ'.m b=some x→(au ops j).op.run ea σ'=some (vO ops j ea,σ')
def JK (ops:List (AOper×List Nat))(b:Nat)(x:Ab.Blk):List Nat→br→Prop
 |[],_=>True
 |i::g,ea=> ∃v,(∀σ':Hp,σ'.m b=some x→(au ops i).op.run ea σ'=some (v,σ'))∧JK ops b x g (ea.putO (au ops i).dst v)
theorem Eu {o:Option Nat}{i:Nat}(h:Om o i=true):o=some i:=by
 cases o with
 |none=>cases h
 |some a=>rw[aC (h:aA a i=true)]
theorem nu {o:AOper}{ea:br}(h:o.guard.isNone=true):wanted o ea=true:=by
 unfold wanted;cases hg:o.guard with
 |none=>rfl
 |some q=>rw[hg]at h;cases h
theorem zO {d:Option Nat}{l:List Nat}(h:jN d l=true): ∀t,d=some t→t∉l:=by
 intro t ht hm;rw[ht]at h;simp only[jN]at h;rw[dU.2 hm]at h;cases h
theorem Kb {d d':Option Nat}(h:Ka d d'=true): ∀t,d=some t→d'≠some t:=by
 intro t ht e;rw[ht,e]at h;simp only[Ka,aH]at h;cases h
theorem Ew {b:Nat}{x:Ab.Blk}{l:List Nat}{ea:br}{d:Option Nat}{v:Value}(h:wQ ops b x l ea)(h1: ∀j∈l,jN d (au ops j).op.reads=true)(h2: ∀j∈l,Ka d (au ops j).dst=true):wQ ops b x l (ea.putO d v):=by
 intro j hj σ' hσ;have e1:(au ops j).op.run (ea.putO d v) σ'=(au ops j).op.run ea σ':=rF fun t ht=>qn fun t' ht' e=>zO (h1 j hj) t' ht' (e▸ht)
 have e2:vO ops j (ea.putO d v)=vO ops j ea:=by
  unfold vO;cases hd:(au ops j).dst with
  |none=>rfl
  |some t=>exact qn fun t' ht' e=>Kb (h2 j hj) t' ht' (e▸hd)
 rw[e1,e2];exact h j hj σ' hσ
theorem Mj {β:Type}{n b:Nat}{x:Ab.Blk}{y:β}{z:Option β}{c1:Ctx}(hμ:c1.μ n=some b)(hn:n<c1.S.length)(hx:c1.σ.m b=some x): ∀(g:List Nat) {c:Ctx} {e:bu} {ea:br},Le c1 c→c.σ=c1.σ→Rel c→an c e ea→RD tab ops n g e c.S z=some y→JK ops b x g ea∧z=some y
 |[],_,_,_,_,_,_,_,h=>⟨trivial,h⟩
 |i::g,c,e,ea,hl,hσ,hR,hE,h=>by
  simp only[RD]at h;obtain⟨h1,h2⟩:=ai h;rw[aB]at h1;obtain⟨hst,hld⟩:=h1;have h3:=ld hR hE h2;rw[←fW hst]at h3;cases hr:(au ops i).op.run ea c.σ with
  |none=>rw[hr]at h3;exact h3.elim
  |some q=>
   obtain⟨v,σ1⟩:=q;rw[hr]at h3;obtain⟨vv,c2,g1,g2,g3,g4,g5,g6⟩:=h3;have hσ1:σ1=c.σ:=md hst hr;rw[hσ1]at g1 hr;obtain⟨k1,k2⟩:=Mj hμ hn hx g (hl.trans g2) (g1.trans hσ) g3 ((hE.frame g2).putO g5) g6;refine⟨⟨v,fun σ' hs=> ?_,k1⟩,k2⟩;cases hlo:(au ops i).op.isLoad with
   |false=>exact E1 hst hlo hr σ'
   |true=>
    rw[hlo]at hld;have hk:=yY hR hE hlo hr;cases ha:Kz c.S (au ops i).op e with
    |none=>rw[ha]at hld;cases hld
    |some s=>
     cases s with
     |none=>rw[ha]at hld;cases hld
     |some q=>
      rw[ha]at hld hk
      have hq:q=n:=by
       simp only[aJ,aI,P0]at hld;exact aC hld
      subst hq;obtain⟨hd,_,hp⟩:=hk;refine hp σ' fun b' hb'=> ?_
      cases hdm:(aa c.S q).dim with
      |none=>exact(hd hdm).elim
      |some d=>
       obtain⟨_,q2⟩:=hl.al q d hn hdm;rw[q2,hμ]at hb';injection hb' with hb'
       subst hb';rw[hs,hσ,hx]
theorem GX {T:Ab.dn}{Q:br→Hp→Prop}{ach:List (Nat×(Hp→Prop))}{b m cc:Nat}{x:Ab.Blk}{σ:Hp}(hx:σ.m b=some x): ∀(g pre:List Nat) {f f2:Nat} {D D2:List Nat} {ea:br} {gl:List (Nat×(Hp→Prop))},KI ops g f D=some (f2,D2)→JK ops b x g ea→QI ops m cc pre g=true→wQ ops b x pre ea→(∀p∈gl,∀σ':Hp,σ'.m b=some x→p.2 σ')→
  (∀ea' gl',wQ ops b x (g.reverse++pre) ea'→(∀p∈gl',∀σ':Hp,σ'.m b=some x→p.2 σ')→(∀t,t∉lg ops g→ea' t=ea t)→sY T Q ops f2 D2 (gl'++ach) ea' σ)→sY T Q ops f D (gl++ach) ea σ
 |[],pre,f,f2,D,D2,ea,gl,hs,hg,ho,hf,hgl,hk=>by
  simp only[KI]at hs;injection hs with hs
  injection hs with h1 h2
  subst h1;subst h2;exact hk ea gl hf hgl fun t _=>rfl
 |i::g,pre,0,f2,D,D2,ea,gl,hs,hg,ho,hf,hgl,hk=>by cases hs
 |i::g,pre,f+1,f2,D,D2,ea,gl,hs,hg,ho,hf,hgl,hk=>by
  simp only[KI]at hs;cases hc:Om (ci ops D) i&&(au ops i).guard.isNone with
  |false=>rw[hc]at hs;cases hs
  |true=>
   rw[hc,zC]at hs;rw[aB]at hc;have hns:=Eu hc.1;obtain⟨p,hp,hst⟩:=FV hns;obtain⟨v,hv,hg2⟩:=hg;simp only[QI,aB]at ho;obtain⟨⟨⟨⟨⟨⟨⟨o1,o2⟩,o3⟩,o4⟩,o5⟩,o6⟩,o7⟩,o8⟩:=ho;simp only[sY];rw[hns];simp only[hp,nu hc.2,if_true,hv σ hx];obtain⟨t0,ht0⟩:=Option.isSome_iff_exists.1 o1;have o6':=List.all_eq_true.1 o6
   have hf2:wQ ops b x (i::pre) (ea.putO (au ops i).dst v):=by
    intro j hj;rcases List.mem_cons.1 hj with rfl|hj
    ·intro σ' hσ;have e1:(au ops j).op.run (ea.putO (au ops j).dst v) σ'=(au ops j).op.run ea σ':=rF fun t ht=>qn fun t' ht' e=>zO (o6' j aG) t' ht' (e▸ht)
     have e2:vO ops j (ea.putO (au ops j).dst v)=v:=by
      unfold vO;rw[ht0];exact zE rfl
     rw[e1,e2];exact hv σ' hσ
    ·exact Ew hf (fun j hj=>o6' j (aD _ hj)) (List.all_eq_true.1 o7) j hj
   have hfin: ∀gl2:List (Nat×(Hp→Prop)),(∀p∈gl2,∀σ':Hp,σ'.m b=some x→p.2 σ')→sY T Q ops f (i::D) (gl2++ach) (ea.putO (au ops i).dst v) σ:=by
    intro gl2 hgl2;refine GX hx g (i::pre) hs hg2 o8 hf2 hgl2 fun ea' gl' k1 k2 k3=>hk ea' gl' (by rw[List.reverse_cons,List.append_assoc];exact k1) k2 fun t ht=> ?_
    simp only[lg,ht0,List.mem_append,List.mem_singleton,not_or]at ht;rw[k3 t ht.2,ht0];exact zF ht.1
   cases hlo:(au ops i).op.isLoad with
   |false=>
    rw[zF (by decide)];exact hfin gl hgl
   |true=>
    rw[zE rfl];refine hfin ((i,_)::gl) fun p hp=> ?_
    rcases List.mem_cons.1 hp with rfl|hp
    ·exact hv
    ·exact hgl p hp
theorem Hj {β:Type}{b:Nat}{x:Ab.Blk}{k:bu→ae→Option β}{y:β}{ea:br}: ∀(g:List Nat) {r r3:List LItem} {c:Ctx} {e:bu} {chk:wh},Hi g r=some r3→wQ ops b x g ea→c.σ.m b=some x→(∀j∈g,(au ops j).dst.isSome=true)→Rel c→an c e ea→tt tab ops r chk e c.S k=some y→
  ∃c' e' chk',c'.σ=c.σ∧Le c c'∧Rel c'∧an c' e' ea∧tt tab ops r3 chk' e' c'.S k=some y
 |[],r,r3,c,e,chk,h,_,_,_,hR,hE,hv=>by
  injection h with h
  subst h;exact⟨c,e,chk,rfl,Le.refl c,hR,hE,hv⟩
 |i::g,[],r3,c,e,chk,h,_,_,_,_,_,_=>by cases h
 |i::g,it::r,r3,c,e,chk,h,hf,hx,hs,hR,hE,hv=>by
  simp only[Hi]at h;cases hc:aA it.kind 0&&aA it.i i with
  |false=>rw[hc]at h;cases h
  |true=>
   rw[hc,zC]at h;rw[aB]at hc;have hi:=aC hc.2;subst hi;have hk:=aC hc.1;simp only[tt,hk,show aA 0 3=false from rfl,show aA 0 2=false from rfl,show aA 0 1=false from rfl,show aA 0 5=false from rfl,zD]at hv;obtain⟨hst,hv⟩:=ai hv;have h7:=ld hR hE hv;rw[←fW hst,hf it.i aG c.σ hx]at h7;obtain⟨vv,c2,g1,g2,g3,g4,g5,g6⟩:=h7;obtain⟨_,g8⟩:=ai g6
   have hE2:an c2 (putO e (au ops it.i).dst vv) ea:=by
    have h8:=(hE.frame g2).putO (d:=(au ops it.i).dst) g5;obtain⟨t,ht⟩:=Option.isSome_iff_exists.1 (hs it.i aG)
    have:ea.putO (au ops it.i).dst (vO ops it.i ea)=ea:=by
     funext t'
     unfold vO;rw[ht];show(if t'=t then ea t else ea t')=ea t';by_cases h:t'=t
     ·subst h;rw[zE rfl]
     ·rw[zF h]
    rw[this]at h8;exact h8
   obtain⟨c3,e3,chk3,k1,k2,k3,k4,k5⟩:=Hj g h (fun j hj=>hf j (aD _ hj)) (by rw[g1];exact hx) (fun j hj=>hs j (aD _ hj)) g3 hE2 g8;exact⟨c3,e3,chk3,k1.trans g1,g2.trans k2,k3,k4,k5⟩
theorem HT {β:Type}{k:bu→ae→Option β}{y:β}{c0:Ctx}: ∀(r:List LItem) {f:Nat} {D:List Nat} {c:Ctx} {e:bu} {ea:br} {chk:wh} {ach:List (Nat×(Hp→Prop))},KJ ops r f D=true→Le c0 c→Rel c→an c e ea→tt tab ops r chk e c.S k=some y→sY (cy tab) (gW c0 k y) ops f D ach ea c.σ
 |[],0,D,c,e,ea,chk,ach,h,hl,hR,hE,hv=>⟨e,c,rfl,hl,hR,hE,hv⟩
 |[],f+1,D,c,e,ea,chk,ach,h,hl,hR,hE,hv=>by
  simp only[KJ,aB]at h;simp only[sY];cases hns:ci ops D with
  |some i=>rw[hns]at h;cases h.1
  |none=>
   cases hrm:bi ops D with
   |cons a l=>rw[hrm]at h;cases h.2
   |nil=>exact⟨e,c,rfl,hl,hR,hE,hv⟩
 |it::r,0,D,c,e,ea,chk,ach,h,hl,hR,hE,hv=>by cases h
 |it::r,f+1,D,c,e,ea,chk,ach,h,hl,hR,hE,hv=>by
  simp only[KJ,aB]at h;obtain⟨⟨⟨h1,h2⟩,h3⟩,h4⟩:=h;have hns:=Eu h2;obtain⟨p,hp,hst⟩:=FV hns;have hk:=aC h1;simp only[tt,hk,show aA 0 3=false from rfl,show aA 0 2=false from rfl,show aA 0 1=false from rfl,show aA 0 5=false from rfl,zD]at hv;obtain⟨_,hv⟩:=ai hv;have h7:=ld hR hE hv;rw[←fW hst]at h7;simp only[sY];rw[hns];simp only[hp,nu h3,if_true];cases hr:(au ops it.i).op.run ea c.σ with
  |none=>rw[hr]at h7;exact h7.elim
  |some q=>
   obtain⟨v,σ1⟩:=q;rw[hr]at h7;obtain⟨vv,c2,g1,g2,g3,g4,g5,g6⟩:=h7;obtain⟨_,g8⟩:=ai g6;have hσ1:σ1=c.σ:=md hst hr;have:=HT r (ach:=if(au ops it.i).op.isLoad=true then(it.i,fun σ'=>(au ops it.i).op.run ea σ'=some (v,σ'))::ach else ach) h4 (hl.trans g2) g3 ((hE.frame g2).putO g5) g8;rw[g1,hσ1]at this;exact this
theorem vQ {m c:Nat}: ∀{g pre:List Nat},QI ops m c pre g=true→∀i∈g,(au ops i).dst.isSome=true∧jN (au ops i).dst (lu (au ops m).op)=true∧Ka (au ops i).dst (au ops m).dst=true∧jN (au ops c).dst (au ops i).op.reads=true∧Ka (au ops c).dst (au ops i).dst=true
 |[],_,_,_,h=>by cases h
 |j::g,pre,ho,i,h=>by
  simp only[QI,aB]at ho;obtain⟨⟨⟨⟨⟨⟨⟨o1,o2⟩,o3⟩,o4⟩,o5⟩,_⟩,_⟩,o8⟩:=ho;rcases List.mem_cons.1 h with rfl|h
  ·exact⟨o1,o2,o3,o4,o5⟩
  ·exact vQ o8 i h
theorem zx {t:Nat}: ∀{g:List Nat},t∈lg ops g→∃i∈g,(au ops i).dst=some t
 |[],h=>by cases h
 |i::g,h=>by
  simp only[lg]at h;rcases List.mem_append.1 h with h|h
  ·cases hd:(au ops i).dst with
   |none=>rw[hd]at h;cases h
   |some t'=>
    rw[hd]at h;rw[List.mem_singleton.1 h];exact⟨i,aG,hd⟩
  ·obtain⟨j,h1,h2⟩:=zx h;exact⟨j,aD _ h1,h2⟩
theorem KU {β:Type}{k:bu→ae→Option β}{y:β}{c0 c:Ctx}{e:bu}{ea:br}{ach:List (Nat×(Hp→Prop))}{chk:wh}{ls nd D D1 g:List Nat}{itc itm:LItem}{r2 r3:List LItem}{pd:Nat→Nat}{f f1 m:Nat}{x:Ab.Blk}{vf:Nat→Value}(h0:Rel c0)
  (hk1:itc.kind=1) (hkm:itm.kind=2) (him:itm.i=m) (hfr:iu (au ops m).op=true) (hF:gV (au ops m).op ea x vf) (hself:jN (au ops m).dst (lu (au ops m).op)=true) (hgc:(au ops itc.i).guard.isNone=true)
  (hls1:ls.all (fun i=>kU ops i m||eJ i nd)=true) (hls2:ls.all (fun i=>kU ops i itc.i||eJ i itc.chks)=true) (hdst:ll ops itc.i false [m] [itm]=true) (hG:QI ops m itc.i [] g=true) (hS:KI ops g f (m::D)=some (f1+1,D1)) (hns:ci ops D1=none) (hrm:bi ops D1=[itc.i]) (hL:Hi g r2=some r3) (hZ:KJ ops r3 f1 (itc.i::D1)=true)
  (hI:InvL ops c0 c e ea ach chk [] ls nd [itc,itm] pd) (hcl: ∀t∈lg ops g,ey e t= .undef) (hGrp:JK ops c.σ.n x g (ea.putO (au ops m).dst (vf c.σ.n))) (hz:tt tab ops (itc::itm::r2) chk e c.S k=some y):
  rz ops m (c.σ.add x) ach∧sY (cy tab) (gW c0 k y) ops f (m::D) ach (ea.putO (au ops m).dst (vf c.σ.n)) (c.σ.add x):=by
 have hN:=zw hI (by simp) hfr hF (by simp[ll,hk1,hkm,him,show aA 1 2=false from rfl,show aA 2 2=true from rfl]) hself (by simp[hk1,hkm,him,show aA 1 2=false from rfl,show aA 2 2=true from rfl]);have hx:(c.σ.add x).m c.σ.n=some x:=zE rfl;refine⟨iv hN.K hI.nd fun i hi=> ?_,GX (ach:=ach) (gl:=[]) hx g [] hS hGrp hG (fun _ h=>by cases h) (fun _ h=>by cases h) fun ea2 gl hf2 hgl hsame=> ?_⟩
 ·rw[hI.ks]at hi;have:=List.all_eq_true.1 hls1 i hi;rw[aF]at this;exact this
 ·obtain⟨p,hp,hst⟩:=CR (show itc.i∈bi ops D1 by rw[hrm];simp);simp only[sY];rw[hns];simp only[hrm,B5,hp,nu hgc,if_true]
  have hE2:an ⟨c.μ,c.S,c.σ.add x,fun b=>c.fb b∨b=c.σ.n⟩ e ea2:=by
   intro t;by_cases ht:t∈lg ops g
   ·rw[hcl t ht];exact .undef _
   ·rw[hsame t ht];exact hN.E t
  have hN2:InvL ops c0 ⟨c.μ,c.S,c.σ.add x,fun b=>c.fb b∨b=c.σ.n⟩ e ea2 ach chk [m] ls nd [itc,itm] (fun q=>if q=m then c.σ.n else pd q):=by
   refine⟨hN.le,hN.R,hE2,hN.K,hN.ks,hN.nd,hN.fb,hN.nod,hN.inj,hN.new,fun q hq=> ?_,hN.und,hN.ds⟩;obtain⟨q1,x',vf',q2,q3,q4⟩:=hN.pend q hq;have hqm:=List.mem_singleton.1 hq;refine⟨q1,x',vf',q2.same q1 fun t ht=>hsame t fun hm=> ?_,q3,fun t ht=>(hsame t fun hm=> ?_).trans (q4 t ht)⟩
   ·obtain⟨i,hi,hd⟩:=zx hm;rw[hqm]at ht;exact zO (vQ hG i hi).2.1 t hd ht
   ·obtain⟨i,hi,hd⟩:=zx hm;rw[hqm]at ht;exact Kb (vQ hG i hi).2.2.1 t hd ht
  simp only[tt,hk1,show aA 1 3=false from rfl,show aA 1 2=false from rfl,show aA 1 1=true from rfl,zD,zC]at hz;refine eK (bh tab) (fun v σ' hx'=> ?_) (ld hN2.R hN2.E hz);obtain⟨vv,c4,g1,g2,g3,g4,g5,g6⟩:=hx';obtain⟨g7,g8⟩:=ai g6;rw[aB]at g7;have hn:=hN2.K.next g2 g4
  subst g1;have hI4:=hN2.on hdst g2 g3 g5 hn hN2.ks g7.2
  have hx4:c4.σ.m c.σ.n=some x:=by
   refine g2.un _ _ hx fun ho=> ?_
   obtain⟨j,hj1,hj2⟩:=ho;exact hN2.R.fbk j _ (fE hj1) hj2 (.inr rfl)
  refine⟨Ab.iv fun i p hip hbf=> ?_, ?_⟩
  ·rcases List.mem_append.1 hip with h|h
   ·exact hgl _ h _ hx4
   ·refine Ab.vH (iv hn g7.1 fun i hi=> ?_) i p h hbf;rw[hN2.ks]at hi;have:=List.all_eq_true.1 hls2 i hi;rw[aF]at this;exact this
  ·simp only[tt,hkm,show aA 2 3=false from rfl,show aA 2 2=true from rfl,zD,zC]at g8;obtain⟨c5,e5,l1,l2,l3,_⟩:=CJ (K:=fun e' S'=>tt tab ops r2 _ e' S' k) h0 hI4 (by rw[hkm];rfl) (by rw[him];simp) g8;have hP:rl itm.i [m]=[]:=by rw[him];simp[rl]
   rw[hP]at l2
   have hfb:c5.fb=c0.fb:=by
    funext b
    refine propext ((l2.fb b).trans ⟨fun h=> ?_, .inl⟩);rcases h with h|⟨q,hq,_⟩
    ·exact h
    ·cases hq
   have hle:Le c0 c5:=by
    have:=l2.le;rw[←hfb]at this;exact this
   have hf4:wQ ops c.σ.n x g (ea2.putO (au ops itc.i).dst v):=by
    refine Ew (fun j hj=>hf2 j (by simp[hj])) (fun j hj=>(vQ hG j hj).2.2.2.1) fun j hj=>(vQ hG j hj).2.2.2.2
   obtain⟨c6,e6,chk6,k1,k2,k3,k4,k5⟩:=Hj g hL hf4 (by rw[l1];exact hx4) (fun j hj=>(vQ hG j hj).1) l2.R l2.E l3;have:=HT r3 (ach:=gl++ach) hZ (hle.trans k2) k3 k4 k5;rw[k1,l1]at this;exact this
theorem Cq {β:Type}{c0:Ctx}{k:bu→ae→Option β}{y:β}(h0:Rel c0): ∀(f:Nat) {D P ls nd:List Nat} {r:List LItem} {c:Ctx} {e:bu} {ea:br} {ach:List (Nat×(Hp→Prop))} {chk:wh} {pd:Nat→Nat},D7 ops f D P ls nd r=true→InvL ops c0 c e ea ach chk P ls nd r pd→tt tab ops r chk e c.S k=some y→
  sY (cy tab) (gW c0 k y) ops f D ach ea c.σ
 |0,D,P,ls,nd,r,c,e,ea,ach,chk,pd,h,hI,hv=>FI h0 r h hI hv
 |f+1,D,P,ls,nd,r,c,e,ea,ach,chk,pd,h,hI,hv=>by
  simp only[D7]at h;simp only[sY];cases hns:ci ops D with
  |some i=>
   rw[hns]at h;simp only[aB]at h⊢;obtain⟨hg,h⟩:=h;obtain⟨p,ho,hst⟩:=FV hns;rw[ho]
   have hw:wanted (au ops i) ea=true:=by
    unfold wanted;cases hgg:(au ops i).guard with
    |none=>rfl
    |some q=>rw[hgg]at hg;cases hg
   simp only[hw,if_true];cases hs:sV r P i with
   |none=>rw[hs]at h;cases h
   |some q=>
    obtain⟨P',it,r'⟩:=q;rw[hs]at h;simp only[aB]at h;obtain⟨⟨hk0,hd⟩,hc⟩:=h;obtain⟨c1,e1,h1,h2,h3,h4,h5,h6⟩:=yJ h0 r hs hI hv;subst h5;have hk1:aA it.kind 1=false:=by rw[aC hk0];rfl
    have hk3:aA it.kind 3=false:=by rw[aC hk0];rfl
    have hk5:aA it.kind 5=false:=by rw[aC hk0];rfl
    simp only[tt,h4,hk1,hk3,hk5,zD]at h3;obtain⟨_,h3⟩:=ai h3;have h7:=ld h2.R h2.E h3;rw[←fW hst,h1]at h7;cases hr:(au ops it.i).op.run ea c.σ with
    |none=>rw[hr]at h7;exact h7.elim
    |some q=>
     obtain⟨v,σ1⟩:=q;rw[hr]at h7;obtain⟨vv,c2,g1,g2,g3,g4,g5,g6⟩:=h7;simp only
     have hdd:wK tab (au ops it.i).op e1 c1.S=[]:=by
      cases hop:(au ops it.i).op<;>rw[hop]at hst<;>first|(cases hst;done)|rfl
     have hσ1:σ1=c.σ:=md hst hr;obtain⟨g7,g8⟩:=ai g6;have hn:=h2.K.next g2 g4
     rw[hdd,pJ]at hn
     have hstep: ∀{ach':List (Nat×(Hp→Prop))} {chk':wh} {ls':List Nat},ChkRel c2 ach' chk'→ach'.map (·.1)=ls'→iw it.need chk'=true→tt tab ops r' chk' (putO e1 (au ops it.i).dst vv) c2.S k=some y→D7 ops f (it.i::D) P' ls' it.need r'=true→
       sY (cy tab) (gW c0 k y) ops f (it.i::D) ach' (ea.putO (au ops it.i).dst v) c.σ:=by
      intro ach' chk' ls' q1 q2 q3 q4 q5;have:=Cq h0 f q5 (h2.on hd g2 g3 g5 q1 q2 q3) q4;rw[g1,hσ1]at this;exact this
     cases hld:(au ops it.i).op.isLoad with
     |false=>
      rw[hld]at g7 g8 hc;rw[zF (by decide)];exact hstep hn h2.ks g7 g8 hc
     |true=>
      rw[hld]at g7 g8 hc;rw[zE rfl];have hkp:=yY h2.R h2.E hld (by rw[h1];exact hr);have hn2:=(ChkRel.cons (i:=it.i) (f:=fun _=>false) hkp (fun _ _ _ h=>by cases h) h2.K).next g2 g4
      rw[hdd,pJ]at hn2;exact hstep hn2 (by rw[List.map_cons,h2.ks];rfl) g7 g8 hc
  |none=>
   rw[hns]at h;simp only at h⊢;cases hgp:P5 r with
   |true=>
    rw[hgp,zC,aB]at h;obtain⟨hA,hB⟩:=h
    obtain⟨it,itc,itm,r2,rfl⟩: ∃it itc itm r2,r=it::itc::itm::r2:=by
     match r,hA with
     |it::itc::itm::r2,_=>exact⟨it,itc,itm,r2,rfl⟩
     |[],hA=>cases hA
     |[_],hA=>cases hA
     |[_,_],hA=>cases hA
    simp only[L8,aB]at hA;obtain⟨⟨⟨⟨⟨⟨⟨⟨⟨⟨⟨⟨⟨⟨⟨a1,a2⟩,a3⟩,a4⟩,a5⟩,a6⟩,a7⟩,a8⟩,a9⟩,a10⟩,a11⟩,a12⟩,a13⟩,a14⟩,a15⟩,a16⟩:=hA
    have hP:P=[]:=by
     cases P with
     |nil=>rfl
     |cons a l=>cases a1
    subst hP;have hk5:it.kind=5:=aC hgp;have hk1:=aC a2;have hkm:=aC a3;have him:=aC a4;simp only[tt,hk5,show aA 5 3=false from rfl,show aA 5 2=false from rfl,show aA 5 1=false from rfl,show aA 5 5=true from rfl,zD,zC]at hv;have hds:=hI.ds;simp only[wL,aB]at hds
    have hI':InvL ops c0 c (iY e (lg ops it.chks)) ea ach chk [] ls nd (itc::itm::r2) pd:=by
     refine⟨hI.le,hI.R,fun t=> ?_,hI.K,hI.ks,hI.nd,hI.fb,hI.nod,hI.inj,hI.new,hI.pend,fun j hj hk t ht=> ?_,by simp only[wL,aB];exact hds.2⟩
     ·rcases @oN (lg ops it.chks) e t with h1|⟨_,h1⟩
      ·rw[h1];exact .undef _
      ·rw[h1];exact hI.E t
     ·rcases @oN (lg ops it.chks) e t with h1|⟨_,h1⟩
      ·exact h1
      ·rw[h1];exact hI.und j (aD _ hj) hk t ht
    have hI2:InvL ops c0 c (iY e (lg ops it.chks)) ea ach chk [] ls nd [itc,itm] pd:=by
     refine⟨hI'.le,hI'.R,hI'.E,hI'.K,hI'.ks,hI'.nd,hI'.fb,hI'.nod,hI'.inj,hI'.new,hI'.pend,fun j hj hk t ht=>hI'.und j (by simp only[aK,List.not_mem_nil,or_false]at hj⊢;rcases hj with h|h<;>simp[h]) hk t ht,by simp[wL,hk1,show aA 1 2=false from rfl]⟩
    have hcl: ∀t∈lg ops it.chks,ey (iY e (lg ops it.chks)) t= .undef:=by
     intro t ht;rcases @oN (lg ops it.chks) e t with h1|⟨h1,_⟩
     ·exact h1
     ·exact(h1 ht).elim
    obtain⟨_,_,_,x,vf,_,hFF⟩:=sM hI'.E hv;have hF:=hFF.run;have hN:=zw hI2 (by simp) a5 hF (by simp[ll,hk1,hkm,him,show aA 1 2=false from rfl,show aA 2 2=true from rfl]) a9 (by simp[hk1,hkm,him,show aA 1 2=false from rfl,show aA 2 2=true from rfl]);rw[←him]at hv hN
    have hN3:InvL ops c0 ⟨c.μ,c.S,c.σ.add x,fun b=>c.fb b∨b=c.σ.n⟩ (iY e (lg ops it.chks)) (ea.putO (au ops itm.i).dst (vf c.σ.n)) ach chk [itm.i] ls nd [itm] (fun q=>if q=itm.i then c.σ.n else pd q):=
     ⟨hN.le,hN.R,hN.E,hN.K,hN.ks,hN.nd,hN.fb,hN.nod,hN.inj,hN.new,hN.pend,fun j hj hk t ht=>hN.und j (aD _ hj) hk t ht,by simp[wL]⟩
    obtain⟨c3,e3,l1,l2,l3,l4,l5,_⟩:=CJ (K:=fun e2 S2=>RD tab ops c.S.length it.chks e2 S2 (tt tab ops (itc::itm::r2) chk (iY e (lg ops it.chks)) c.S k)) h0 hN3 (by rw[hkm];rfl) (by simp) hv;obtain⟨hGrp,hz⟩:=Mj (b:=c.σ.n) (x:=x) (by rw[l4];simp) l5 (by rw[l1];exact zE rfl) it.chks (Le.refl c3) rfl l2.R l2.E l3;rw[him]at hGrp
    have hdst:ll ops itc.i false [it.i] [itm]=true:=by
     simp only[ll,aB,List.all_cons]at a14⊢;exact⟨a14.1,a14.2.1,rfl⟩
    cases hrm:bi ops D with
    |nil=>rw[hrm]at a10;cases a10
    |cons a l=>
     refine Fy fun m hm=> ?_
     have hmem:m∈bi ops D:=by rw[hrm];exact hm
     obtain⟨p,ho,hst⟩:=CR hmem;have hor:=List.all_eq_true.1 a11 m hmem;rw[aF]at hor;rw[ho];rcases hor with hor|hor
     ·have:=aC hor;subst this;simp only[nu a7,if_true];split at a16
      ·rename_i f1 D1 r3 hS hL;simp only[aB]at a16;obtain⟨⟨b1,b2⟩,b3⟩:=a16
       have hns1:ci ops D1=none:=by
        cases h:ci ops D1 with
        |none=>rfl
        |some i=>rw[h]at b1;cases b1
       have hrm1:bi ops D1=[itc.i]:=by
        split at b2
        ·rename_i x hx;rw[hx,aC b2]
        ·cases b2
       exact bl (hF c.σ) (KU h0 hk1 hkm him a5 hF a9 a8 a12 a13 hdst a15 hS hns1 hrm1 hL b3 hI2 hcl hGrp hz)
      ·cases a16
     ·have:=aC hor;subst this;simp only[nu a8,if_true];simp only[tt,hk1,show aA 1 3=false from rfl,show aA 1 2=false from rfl,show aA 1 1=true from rfl,zD,zC]at hz;refine eK (bh tab) (fun v σ' hx'=> ?_) (ld hI'.R hI'.E hz);obtain⟨vv,c2,g1,g2,g3,g4,g5,g6⟩:=hx';obtain⟨g7,g8⟩:=ai g6;rw[aB]at g7;have hn:=hI'.K.next g2 g4
      subst g1
      have hd0:ll ops itc.i false [] (itm::r2)=true:=by
       simp only[ll,aB]at a14⊢;exact⟨rfl,a14.2⟩
      refine⟨iv hn g7.1 fun i hi=> ?_,Cq h0 f hB (hI'.on hd0 g2 g3 g5 hn hI'.ks g7.2) g8⟩;rw[hI'.ks]at hi;have:=List.all_eq_true.1 a13 i hi;rw[aF]at this;exact this
   |false=>
   rw[hgp,zD]at h
   have each: ∀{ms:List Nat},(∀m∈ms,m∈bi ops D)→(ms.all fun m=>(au ops m).guard.isNone&&cond (iu (au ops m).op)
    (!eJ m P&&r.any (fun it=>aA it.kind 2&&aA it.i m)&&(CE (au ops m).op||CA ops r m)&&ll ops m true P r&&jN (au ops m).dst (lu (au ops m).op)&&ls.all (fun i=>kU ops i m||eJ i nd)&&D7 ops f (m::D) (m::P) ls nd r)
    (match sV r P m with
    |some (P',it,r')=>aA it.kind 1&&ll ops m false P' r'&&ls.all (fun i=>kU ops i m||eJ i it.chks)&&D7 ops f (m::D) P' ls it.need r'
    |none=>false))=true→B5 (fun m=>match ops[m]? with
     |some (o,_)=>if wanted o ea then bj (cy tab) o.op ea c.σ fun v σ'=>rz ops m σ' ach∧sY (cy tab) (gW c0 k y) ops f (m::D) ach (ea.putO o.dst v) σ'
      else sY (cy tab) (gW c0 k y) ops f (m::D) ach (ea.putO o.dst undef) c.σ
     |none=>False) ms:=by
    intro ms hms hall;refine Fy fun m hm=> ?_
    have h:=List.all_eq_true.1 hall m hm;simp only[aB]at h;obtain⟨hg,h⟩:=h;obtain⟨p,ho,hst⟩:=CR (hms m hm);rw[ho]
    have hw:wanted (au ops m) ea=true:=by
     unfold wanted;cases hgg:(au ops m).guard with
     |none=>rfl
     |some q=>rw[hgg]at hg;cases hg
    simp only[hw,if_true];cases hfr:iu (au ops m).op with
    |false=>
     rw[hfr,zD]at h;cases hs:sV r P m with
     |none=>rw[hs]at h;cases h
     |some q=>
      obtain⟨P',it,r'⟩:=q;rw[hs]at h;simp only[aB]at h;obtain⟨⟨⟨hk1,hd⟩,hls⟩,hc⟩:=h;obtain⟨c1,e1,h1,h2,h3,h4,h5,h6⟩:=yJ h0 r hs hI hv;subst h5;have hk3:aA it.kind 3=false:=by rw[aC hk1];rfl
      simp only[tt,h4,hk1,hk3,zD,zC]at h3;have h7:=ld h2.R h2.E h3;rw[h1]at h7;refine eK (bh tab) (fun v σ' hx=> ?_) h7;obtain⟨vv,c2,g1,g2,g3,g4,g5,g6⟩:=hx;obtain⟨g7,g8⟩:=ai g6;rw[aB]at g7;have hn:=h2.K.next g2 g4
      subst g1;refine⟨iv hn g7.1 fun i hi=> ?_,Cq h0 f hc (h2.on hd g2 g3 g5 hn h2.ks g7.2) g8⟩;rw[h2.ks]at hi;have:=List.all_eq_true.1 hls i hi;rw[aF]at this;exact this
    |true=>
     rw[hfr,zC]at h;simp only[aB]at h;obtain⟨⟨⟨⟨⟨⟨hnm,hany⟩,hor⟩,hd⟩,hself⟩,hls⟩,hc⟩:=h;have hmP:m∉P:=fun e=>by rw[dU.2 e]at hnm;cases hnm
     obtain⟨x,vf,hF⟩: ∃x vf,gV (au ops m).op ea x vf:=by
      rw[aF]at hor;rcases hor with hor|hor
      ·cases hop:(au ops m).op<;>rw[hop]at hor<;>first|(cases hor;done)|skip
       case alloc es z=>exact⟨⟨z,true,es⟩,fun n=> .pointer (some ⟨n,0,none⟩),fun σ=>rfl⟩
      ·obtain⟨x,vf,_,h1⟩:=Bt r hor hI.E (fun t _=>rfl) hv;exact⟨x,vf,h1⟩
     have hI':=zw hI hmP hfr hF hd hself hany;refine bl (hF c.σ) ⟨iv hI'.K hI.nd fun i hi=> ?_, ?_⟩
     ·rw[hI.ks]at hi;have:=List.all_eq_true.1 hls i hi;rw[aF]at this;exact this
     ·exact Cq h0 f hc hI' hv
   cases hrm:bi ops D with
   |nil=>rw[hrm]at h;exact FI h0 r h hI hv
   |cons a l=>
    rw[hrm]at h;exact each (fun m hm=>by rw[hrm];exact hm) h
end
end
section
open Bool renaming and_eq_true → aA
open List renaming mem_cons_self → aB, mem_cons_of_mem → aE, mem_of_getElem? → aF
open Nat renaming beq → aC, zero_add → aD, eq_of_beq_eq_true → aG
section
variable {tab:Tab}
theorem HK {c:Ctx}{e:bu}{ea:br}{t:Nat}{p:Bool}(he:an c e ea)(hp:ey e t= .bool p):an c (iH e t (.bool p)) ea:=by
 have ht:=he t;rw[hp]at ht;have ht:=ht.bool_inv;intro i;rw[nb];by_cases hi:i=t
 ·subst hi;rw[zE rfl,ht];exact .bool _
 ·rw[zF hi];exact he i
theorem xg {β:Type}{y:β}: ∀{its:List SItem} {c:Ctx} {e:bu} {ea:br} {chk:wh} {ach:List (Nat×(Hp→Prop))} {k:bu→ae→Option β},Rel c→an c e ea→ChkRel c ach chk→kZ tab its chk e c.S k=some y→Gi (cy tab) (gW c k y) its ach ea c.σ
 |[],c,e,ea,chk,ach,k,hR,he,hc,h=>⟨e,c,rfl,Le.refl c,hR,he,h⟩
 |it::r,c,e,ea,chk,ach,k,hR,he,hc,h=>by
  have step: ∀e1,an c e1 ea→zn tab it chk e1 c.S (fun chk' e' S'=>kZ tab r chk' e' S' k)=some y→
    (if it.mover then bj (cy tab) it.o.op ea c.σ (fun v σ'=>oG it.chks σ' ach∧Gi (cy tab) (gW c k y) r ach (ea.putO it.o.dst v) σ')
    else match it.o.op.run ea c.σ with
     |some (v,_)=>Gi (cy tab) (gW c k y) r (if it.keep then(it.idx,fun σ'=>it.o.op.run ea σ'=some (v,σ'))::ach else ach) (ea.putO it.o.dst v) c.σ
     |none=>False):=by
   intro e1 he1 h1;refine KP (Q:=fun ach' ea' σ'=>Gi (cy tab) (gW c k y) r ach' ea' σ') hR he1 hc h1 fun c' ach' chk' e' ea' h2 h3 h4 h5 h6=> ?_
   exact vq (bh tab) (fun ea'' σ'' hp=>hp.of h2) _ _ _ _ (xg h3 h5 h4 h6)
  have skip: ∀e1,an c e1 ea→kZ tab r chk (putO e1 it.o.dst (.tup [])) c.S k=some y→Gi (cy tab) (gW c k y) r ach (ea.putO it.o.dst undef) c.σ:=fun e1 he1 h1=>xg hR (he1.putO (.tup .nil)) hc h1
  simp only[kZ]at h;simp only[Gi];split at h
  ·rename_i hg;have:wanted it.o ea=true:=by simp only[wanted,hg]
   rw[zE this];exact step e he h
  ·rename_i t w hg;split at h
   ·rename_i p hp;have ht:=he t;rw[hp]at ht;have ht:=ht.bool_inv;have hw:wanted it.o ea=(p==w):=by simp only[wanted,hg,ht]
    have hput:=HK he hp;rw[hw];cases p<;>cases w<;>simp only[zC,zD]at h
    ·rw[zE (by decide)];exact step _ hput h
    ·rw[zF (by decide)];exact skip _ hput h
    ·rw[zF (by decide)];exact skip _ hput h
    ·rw[zE (by decide)];exact step _ hput h
   ·rename_i hp;have ht:=he t;rw[hp]at ht
    have hw:wanted it.o ea=false:=by
     simp only[wanted,hg];generalize ea t=u at ht;cases ht;rfl
    rw[hw,zF (by decide)];exact skip _ he h
   ·cases h
def jG (as:List Nat)(e e':br):Prop:= ∀t,t∉as→e' t=e t
theorem jG.refl (as:List Nat)(e:br):jG as e e:=fun _ _=>rfl
theorem jG.put {as:List Nat}{e e':br}{d:Option Nat}{v:Value}(h:jG as e e')(hd: ∀t,t∈FE d→t∈as):jG as e (e'.putO d v):=by
 intro t ht;cases d with
 |none=>exact h t ht
 |some d=>
  have:t≠d:=by rintro rfl;exact ht (hd t (List.mem_singleton.2 rfl))
  simp only[br.putO,br.put,zF this];exact h t ht
theorem xw {T:Ab.dn}(hT:lG T){Q:br→Hp→Prop}{as:List Nat}{e0:br}: ∀{ops:List AOper} {e:br} {σ:Hp},(∀o,o∈ops→∀t,t∈FE o.dst→t∈as)→jG as e0 e→Ab.pK T Q ops e σ→Ab.pK T (fun e' σ'=>jG as e0 e'∧Q e' σ') ops e σ
 |[],e,σ,_,hk,h=>⟨hk,h⟩
 |o::r,e,σ,ha,hk,h=>by
  simp only[Ab.pK]at h⊢;have hr: ∀o,o∈r→∀t,t∈FE o.dst→t∈as:=fun o ho=>ha o (aE _ ho)
  split at h
  ·rename_i hw;rw[zE hw];exact eK hT (fun v σ' hv=>xw hT hr (hk.put (ha o aB)) hv) h
  ·rename_i hw;rw[zF hw];exact xw hT hr (hk.put (ha o aB)) h
theorem yO {T:Ab.dn}(hT:lG T){Q:br→Hp→Prop}{as:List Nat}{e0:br}: ∀{its:List SItem} {chk:List (Nat×(Hp→Prop))} {e:br} {σ:Hp},(∀o,o∈its→∀t,t∈FE o.o.dst→t∈as)→jG as e0 e→Gi T Q its chk e σ→Gi T (fun e' σ'=>jG as e0 e'∧Q e' σ') its chk e σ
 |[],chk,e,σ,_,hk,h=>⟨hk,h⟩
 |it::r,chk,e,σ,ha,hk,h=>by
  simp only[Gi]at h⊢;have hr: ∀o,o∈r→∀t,t∈FE o.o.dst→t∈as:=fun o ho=>ha o (aE _ ho)
  split at h
  ·rename_i hw;rw[zE hw];split at h
   ·rename_i hm;rw[zE hm];exact eK hT (fun v σ' hv=>⟨hv.1,yO hT hr (hk.put (ha it aB)) hv.2⟩) h
   ·rename_i hm;rw[zF hm];split at h
    ·exact yO hT hr (hk.put (ha it aB)) h
    ·exact h.elim
  ·rename_i hw;rw[zF hw];exact yO hT hr (hk.put (ha it aB)) h
theorem GG {F G:Nat→Prop}(h: ∀m,F m→G m): ∀{l:List Nat},B5 F l→B5 G l
 |[],_=>trivial
 |[m],q=>h m q
 |m::m'::r,q=>⟨h m q.1,GG h q.2⟩
theorem vo {T:Ab.dn}(hT:lG T){Q:br→Hp→Prop}{as:List Nat}{e0:br}{ops:List (AOper×List Nat)}(ha: ∀o,o∈ops→∀t,t∈FE o.1.dst→t∈as): ∀(f:Nat) {D:List Nat} {chk:List (Nat×(Hp→Prop))} {e:br} {σ:Hp},jG as e0 e→sY T Q ops f D chk e σ→sY T (fun e' σ'=>jG as e0 e'∧Q e' σ') ops f D chk e σ
 |0,D,chk,e,σ,hk,h=>⟨hk,h⟩
 |f+1,D,chk,e,σ,hk,h=>by
  simp only[sY]at h⊢;cases hn:ci ops D with
  |some i=>
   rw[hn]at h;simp only at h⊢;cases ho:ops[i]? with
   |none=>rw[ho]at h;exact h
   |some p=>
    obtain⟨o,pr⟩:=p;rw[ho]at h;have hm:(o,pr)∈ops:=aF ho;simp only at h⊢;split at h
    ·rename_i hw;rw[zE hw];split at h
     ·rename_i v σ' hr;exact vo hT ha f (hk.put (ha _ hm)) h
     ·exact h.elim
    ·rename_i hw;rw[zF hw];exact vo hT ha f (hk.put (ha _ hm)) h
  |none=>
   rw[hn]at h;simp only at h⊢;cases hr:bi ops D with
   |nil=>rw[hr]at h;exact⟨hk,h⟩
   |cons a l=>
    rw[hr]at h;simp only at h⊢;refine GG (fun m hm=> ?_) h;cases ho:ops[m]? with
    |none=>rw[ho]at hm;exact hm
    |some p=>
     obtain⟨o,pr⟩:=p;rw[ho]at hm;have hmem:(o,pr)∈ops:=aF ho;simp only at hm⊢;split at hm
     ·rename_i hw;rw[zE hw];exact eK hT (fun v σ' hx=>⟨hx.1,vo hT ha f (hk.put (ha _ hmem)) hx.2⟩) hm
     ·rename_i hw;rw[zF hw];exact vo hT ha f (hk.put (ha _ hmem)) hm
theorem nv {T:Ab.dn}(hT:lG T){as:List Nat}{e0:br}: ∀(c:AC) {Q:AExit→br→Hp→Prop} {e:br} {σ:Hp},uP c=true→(∀t,t∈eG c→t∈as)→jG as e0 e→nw T c Q e σ→nw T c (fun x e' σ'=>jG as e0 e'∧Q x e' σ') e σ
 | .skip,_,_,_,_,_,hk,h=>⟨hk,h⟩
 | .exit _,_,_,_,_,_,hk,h=>⟨hk,h⟩
 | .ret,_,_,_,_,_,hk,h=>⟨hk,h⟩
 | .region ops,Q,e,σ,_,ha,hk,h=>xw hT (fun o ho t ht=>ha t (List.mem_flatMap.2 ⟨o,ho,ht⟩)) hk h
 | .sched its,Q,e,σ,_,ha,hk,h=>yO hT (fun o ho t ht=>ha t (List.mem_flatMap.2 ⟨o,ho,ht⟩)) hk h
 | .draw ops,Q,e,σ,_,ha,hk,h=>vo hT (fun o ho t ht=>ha t (List.mem_flatMap.2 ⟨o,ho,ht⟩)) _ hk h
 | .seq a b,Q,e,σ,hd,ha,hk,h=>by
  simp only[uP,aA]at hd;have h1:=nv hT a hd.1 (fun t ht=>ha t (List.mem_append.2 (.inl ht))) hk h;refine cx hT a _ _ (fun x e' σ' hx=> ?_) e σ h1;obtain⟨hx1,hx2⟩:=hx;cases x with
  |normal=>exact nv hT b hd.2 (fun t ht=>ha t (List.mem_append.2 (.inr ht))) hx1 hx2
  |exit i=>exact⟨hx1,hx2⟩
  |ret=>exact⟨hx1,hx2⟩
 | .cond c a b,Q,e,σ,hd,ha,hk,h=>by
  simp only[uP,aA]at hd;simp only[nw]at h⊢;split at h
  ·exact nv hT a hd.1 (fun t ht=>ha t (List.mem_append.2 (.inl ht))) hk h
  ·exact nv hT b hd.2 (fun t ht=>ha t (List.mem_append.2 (.inr ht))) hk h
  ·exact h.elim
 | .block id b,Q,e,σ,hd,ha,hk,h=>by
  have h1:=nv hT b hd ha hk h;refine cx hT b _ _ (fun x e' σ' hx=> ?_) e σ h1;obtain⟨hx1,hx2⟩:=hx;cases x with
  |normal=>exact⟨hx1,hx2⟩
  |exit i=>
   simp only at hx2⊢;split at hx2
   ·rename_i hi;rw[zE hi];exact⟨hx1,hx2⟩
   ·rename_i hi;rw[zF hi];exact⟨hx1,hx2⟩
  |ret=>exact⟨hx1,hx2⟩
 | .loop b,Q,e,σ,hd,ha,hk,h=>by
  obtain⟨n,hn⟩:=h;refine⟨n, ?_⟩;induction n generalizing e σ with
  |zero=>exact hn.elim
  |succ n ih=>
   simp only[dE]at hn⊢;have h1:=nv hT b hd ha hk hn;refine cx hT b _ _ (fun x e' σ' hx=> ?_) e σ h1;obtain⟨hx1,hx2⟩:=hx;cases x with
   |normal=>exact ih _ _ hx1 hx2
   |exit i=>exact⟨hx1,hx2⟩
   |ret=>exact⟨hx1,hx2⟩
theorem zj {S:ae}{N:Nat}{fx:List Nat}{sk:iX}{vals:List VV}{t:pQ sk.shs}(h:Co S N fx sk vals=some t):sk.noRo=true∧∃st,fT S N fx sk vals=some st∧BB sk.shs t=st.ls:=by
 unfold Co at h;obtain⟨h1,h2⟩:=ai h;obtain⟨st,h3,h4⟩:=ah h2;exact⟨h1,st,h3,qm h4⟩
theorem Mf {S:ae}{N:Nat}{fx:List Nat}{sk:iX}{vals:List VV}{t:pQ sk.shs}(h:JV S N fx sk vals=some t):sk.fxRo=true∧∃st,fT S N fx sk vals=some st∧BB sk.shs t=st.ls:=by
 unfold JV at h;obtain⟨h1,h2⟩:=ai h;obtain⟨st,h3,h4⟩:=ah h2;exact⟨h1,st,h3,qm h4⟩
theorem vz {S:ae}{N:Nat}{fx:List Nat}{vals:List Nat→List VV}{hit:XK→Bool}: ∀{l:List Alt} {s:mV l},nG S N fx vals hit l=some s→∃p,LX l s=some p∧hit p.1.x=true∧Co S N fx p.1.sk (vals p.1.ts)=some p.2
 |[],s,h=>by cases h
 |[a],s,h=>by
  simp only[nG]at h;cases hh:hit a.x with
  |false=>rw[hh]at h;cases h
  |true=>rw[hh]at h;exact⟨⟨a,s⟩,rfl,hh,h⟩
 |a::b::r,s,h=>by
  simp only[nG]at h;split at h
  ·rename_i t ht;injection h with h
   subst h;cases hh:hit a.x with
   |false=>rw[hh]at ht;cases ht
   |true=>rw[hh]at ht;exact⟨⟨a,t⟩,rfl,hh,ht⟩
  ·obtain⟨s',h1,h2⟩:=ah h;injection h2 with h2
   subst h2;obtain⟨p,h3,h4,h5⟩:=vz h1;exact⟨p,h3,h4,h5⟩
theorem XK.is_out {x:XK}{y:AExit}(h:x.is y=true):x.out=y:=by
 cases x<;>cases y<;>simp only[XK.is]at h<;>first|rfl|(cases h;done)|skip
 rename_i i j;rw[show(XK.exit i).out=AExit.exit i from rfl,aG h]
theorem yE {c:Ctx}: ∀{ts:List Nat} {e:bu} {ea:br} {vs:List VV},an c e ea→F2 (VRel c) vs (ts.map ea)→an c (HL e ts vs) ea
 |[],e,ea,vs,he,hf=>by
  cases hf;exact he
 |t::ts,e,ea,vs,he,hf=>by
  cases hf with
  |cons h1 h2=>
   have:=yE he h2;intro i;simp only[HL,nb];by_cases hi:i=t
   ·subst hi;rw[zE rfl];exact h1
   ·rw[zF hi];exact this i
theorem vy {c:Ctx}{as:List Nat}{e:bu}{ea ea':br}(he:an c e ea)(hk:jG as ea ea'):an c (iY e as) ea':=by
 intro t;rcases oN (ts:=as) (e:=e) (t:=t)with h|⟨h1,h2⟩
 ·rw[h];exact .undef _
 ·rw[h2,hk t h1];exact he t
theorem Bv {c:Ctx}{e:bu}{ea:br}(he:an c e ea): ∀ts:List Nat,F2 (VRel c) (ts.map (ey e)) (ts.map ea)
 |[]=> .nil
 |t::ts=> .cons (he t) (Bv he ts)
theorem FN {β:Type}{c c1 c':Ctx}{e0:bu}{ea0 ea':br}{fx mov asg:List Nat}{exits:List Alt}{s:mV exits}{k:AExit→bu→ae→Option β}{y:β}{e':bu}{x:AExit}(hR:Rel c)(he0:an c e0 ea0)(hR':Rel c')(hw:Within c c1 fx mov)(hR1:Rel c1)(hle:Le c1 c')(hok:Bi c.S fx=true)
  (hke:jG asg ea0 ea') (he':an c' e' ea') (hd:nG c'.S c.S.length fx (fun ts=>ts.map (ey e')) (fun y=>y.is x) exits=some s) (h:Ox e0 c.S fx mov asg exits s k=some y):jf c k y x ea' c'.σ:=by
 obtain⟨p,h1,h2,h3⟩:=vz hd;obtain⟨hro,st,h4,h5⟩:=zj h3;unfold Ox at h;rw[Fz,h1]at h;simp only[zG]at h;rw[XK.is_out h2]at h;unfold uZ at h;rw[h5]at h;cases he:fK id p.1.sk st.ls with
 |none=>rw[he]at h;cases h
 |some q=>
  obtain⟨vs,fs,bs⟩:=q;rw[he]at h;simp only[Bool.false_or]at h;cases hS:nq fx fs (dL fx mov (qi vs fs bs) 0 c.S)with
  |none=>rw[hS]at h;cases h
  |some S2=>
   rw[hS]at h;obtain⟨ct,g1,g2,g3,g4,g5⟩:=OG hR hR' hw hR1 hle hok hro h4 he (Bv he' _) hS;refine⟨_,ct,g1,g3,g4,yE (vy (he0.frame g3) hke) g5, ?_⟩;rw[g2];exact h
theorem ID {S:ae}{fx:List Nat}:i1 S (dL fx [] true 0 S):=by
 refine⟨fD,fun k=> ?_⟩;by_cases hk:k<S.length
 ·rw[fC hk];simp only[eJ,zD,aD];cases eJ k fx with
  |true=>exact .inl rfl
  |false=>exact .inr rfl
 ·rw[nn (by rw[fD];omega),nn (by omega)];exact .inl rfl
def S4 (c:Ctx)(e0:bu)(ea0:br)(fx mov asg:List Nat)(ts:List Nat)(sk:iX)(t:pQ sk.shs)(ea:br)(σ:Hp):Prop:=
 ∃c1 e1,c1.σ=σ∧uZ e0 c.S fx mov asg true ts sk t=some (e1,c1.S)∧Rel c1∧an c1 e1 ea∧Within c c1 fx mov∧jG asg ea0 ea
theorem Di {e0 e1:bu}{S S1:ae}{fx mov asg ts:List Nat}{sk:iX}{t:pQ sk.shs}(h:uZ e0 S fx mov asg true ts sk t=some (e1,S1)): ∃vs fs bs S',fK id sk (BB sk.shs t)=some (vs,fs,bs)∧nq fx fs (dL fx mov true 0 S)=some S'∧e1=HL (iY e0 asg) ts vs∧S1=S'++bs:=by
 unfold uZ at h;split at h
 ·rename_i vs fs bs he;simp only[Bool.true_or]at h;split at h
  ·rename_i S' hS;injection h with h
   injection h with h1 h2
   exact⟨vs,fs,bs,S',he,hS,h1.symm,h2.symm⟩
  ·cases h
 ·cases h
theorem AB {ops:List (AOper×List Nat)}: ∀{r:List LItem} {it:LItem} {t:Nat},it∈r→aC it.kind 2=true→(au ops it.i).dst=some t→t∈vD ops r
 |a::r,it,t,h,hk,ht=>by
  simp only[vD];rcases List.mem_cons.1 h with rfl|h
  ·rw[hk,zC,ht];exact aB
  ·have:=AB h hk ht;cases aC a.kind 2 with
   |false=>exact this
   |true=>exact List.mem_append.2 (.inr this)
theorem cf {α γ:Type}(f:α→Option (α⊕γ))(n:Nat)(a:α):aw f (n+1) a=(f a).bind fun s=>bt s (aw f n) some:=rfl
theorem Af {f:(AExit→br→Hp→Prop)→br→Hp→Prop}(hf: ∀(Q Q':AExit→br→Hp→Prop),(∀x e σ,Q x e σ→Q' x e σ)→∀e σ,f Q e σ→f Q' e σ){Q:AExit→br→Hp→Prop}:
  ∀(n m:Nat) (e:br) (σ:Hp),n≤m→dE f Q n e σ→dE f Q m e σ
 |0,_,_,_,_,h=>h.elim
 |n+1,0,_,_,hm,_=>absurd hm (Nat.not_succ_le_zero _)
 |n+1,m+1,e,σ,hm,h=>by
  simp only[dE]at h⊢;refine hf _ _ (fun x e' σ' hx=> ?_) e σ h;cases x with
  |normal=>exact Af hf n m e' σ' (Nat.le_of_succ_le_succ hm) hx
  |exit id=>exact hx
  |ret=>exact hx
theorem yy {b:AC}(ih: ∀(at':AT) {β:Type} {y:β} {c:Ctx} {e:bu} {ea:br} {k:AExit→bu→ae→Option β},Rel c→an c e ea→eval tab b at' β e c.S k=some y→nw (cy tab) b (jf c k y) ea c.σ):
  ∀(at':AT) {β:Type} {y:β} {c:Ctx} {e:bu} {ea:br} {k:AExit→bu→ae→Option β},Rel c→an c e ea→CO (eval tab b) at' β e c.S k=some y→dE (nw (cy tab) b) (jf c k y) at'.rounds ea c.σ
 | .n l r,β,y,c,e,ea,k,hR,he,h=>by
  simp only[CO]at h;have h1:=ih l hR he h;simp only[AT.rounds,dE];refine cx (bh tab) b _ _ (fun x ea' σ' hx=> ?_) ea c.σ h1;obtain⟨e',c',h2,h3,h4,h5,h6⟩:=hx;subst h2;cases x with
  |normal=>exact qr (cx (bh tab) b) (fun x ea'' σ'' hp=>gW.of h3 hp) _ _ _ (yy ih r h4 h5 h6)
  |exit i=>exact⟨e',c',rfl,h3,h4,h5,h6⟩
  |ret=>exact⟨e',c',rfl,h3,h4,h5,h6⟩
 | .sz m l r,β,y,c,e,ea,k,hR,he,h=>by
  simp only[CO]at h;simp only[AT.rounds];cases hm:aC m c.S.length with
  |true=>
   rw[hm]at h;exact Af (cx (bh tab) b) _ _ _ _ (Nat.le_add_right _ _) (yy ih l hR he h)
  |false=>
   rw[hm]at h;exact Af (cx (bh tab) b) _ _ _ _ (Nat.le_add_left _ _) (yy ih r hR he h)
 | .no,_,_,_,_,_,_,_,_,h=>by cases h
 | .lp _ _ _ _,_,_,_,_,_,_,_,_,h=>by cases h
 | .jn _ _ _ _ _,_,_,_,_,_,_,_,_,h=>by cases h
 | .dr _,_,_,_,_,_,_,_,_,h=>by cases h
 | .all,_,_,_,_,_,_,_,_,h=>by cases h
theorem Hl {b:AC}(ih: ∀{β:Type} {y:β} {c:Ctx} {e:bu} {ea:br} {k:AExit→bu→ae→Option β},Rel c→an c e ea→eval tab b .all β e c.S k=some y→nw (cy tab) b (jf c k y) ea c.σ):
  ∀(n:Nat) {β:Type} {y:β} {c:Ctx} {e:bu} {ea:br} {k:AExit→bu→ae→Option β},Rel c→an c e ea→MK (eval tab b .all) n β e c.S k=some y→dE (nw (cy tab) b) (jf c k y) n ea c.σ
 |0,_,_,_,_,_,_,_,_,h=>by cases h
 |n+1,β,y,c,e,ea,k,hR,he,h=>by
  have h1:=ih hR he (show eval tab b .all β e c.S (fun x e' S'=>match x with
   | .normal=>MK (eval tab b .all) n β e' S' k
   |x=>k x e' S')=some y from h)
  simp only[dE];refine cx (bh tab) b _ _ (fun x ea' σ' hx=> ?_) ea c.σ h1;obtain⟨e',c',h2,h3,h4,h5,h6⟩:=hx;subst h2;cases x with
  |normal=>exact qr (cx (bh tab) b) (fun x ea'' σ'' hp=>gW.of h3 hp) _ _ _ (Hl ih n h4 h5 h6)
  |exit i=>exact⟨e',c',rfl,h3,h4,h5,h6⟩
  |ret=>exact⟨e',c',rfl,h3,h4,h5,h6⟩
theorem iG : ∀(ac:AC) (at':AT) {β:Type} {y:β} {c:Ctx} {e:bu} {ea:br} {k:AExit→bu→ae→Option β},Rel c→an c e ea→eval tab ac at' β e c.S k=some y→nw (cy tab) ac (jf c k y) ea c.σ
 | .skip,_,_,_,c,e,ea,k,hR,he,h=>⟨e,c,rfl,Le.refl c,hR,he,h⟩
 | .exit i,_,_,_,c,e,ea,k,hR,he,h=>⟨e,c,rfl,Le.refl c,hR,he,h⟩
 | .ret,_,_,_,c,e,ea,k,hR,he,h=>⟨e,c,rfl,Le.refl c,hR,he,h⟩
 | .region ops,_,_,_,c,e,ea,k,hR,he,h=>Cr hR he h
 | .sched its,_,_,_,c,e,ea,k,hR,he,h=>xg hR he .nil h
 | .draw ops,at',_,y,c,e,ea,k,hR,he,h=>by
  simp only[eval]at h;split at h
  ·rename_i L _;obtain⟨hg,h⟩:=ai h;rw[aA]at hg;refine Cq hR ops.length (pd:=fun _=>0) hg.1 ⟨Le.refl c,hR,vy he (jG.refl _ ea), .nil,rfl,rfl,fun b=>⟨.inl,fun h=> ?_⟩,List.nodup_nil,(fun _ _ h=>by cases h),(fun _ h=>by cases h),(fun _ h=>by cases h),fun it hit hk t ht=> ?_,hg.2⟩ h
   ·rcases h with h|⟨_,h,_⟩
    ·exact h
    ·cases h
   ·rcases @oN (vD ops (qj ops L L [])) e t with h1|⟨h1,_⟩
    ·exact h1
    ·exact(h1 (AB hit hk ht)).elim
  ·cases h
 | .seq a b,at',β,y,c,e,ea,k,hR,he,h=>by
  have plain: ∀l r,(eval tab a l β e c.S fun x e' S'=>match x with
    | .normal=>eval tab b r β e' S' k
    |x=>k x e' S')=some y→nw (cy tab) (.seq a b) (jf c k y) ea c.σ:=by
   intro l r h1;refine cx (bh tab) a _ _ (fun x ea' σ' hx=> ?_) ea c.σ (iG a l hR he h1);obtain⟨e',c',h2,h3,h4,h5,h6⟩:=hx;subst h2;cases x with
   |normal=>exact cx (bh tab) b _ _ (fun x ea'' σ'' hp=>gW.of h3 hp) _ _ (iG b r h4 h5 h6)
   |exit i=>exact⟨e',c',rfl,h3,h4,h5,h6⟩
   |ret=>exact⟨e',c',rfl,h3,h4,h5,h6⟩
  simp only[eval]at h;split at h
  ·rename_i fx mov exits l r _;obtain⟨hg,h⟩:=ai h;rw[aA]at hg;obtain⟨s,h1,h2⟩:=ah h;have hfz:i1 c.S (dL (fx++mov) [] true 0 c.S):=ID;have hR1:Rel ⟨c.μ,dL (fx++mov) [] true 0 c.S,c.σ,c.fb⟩:=hfz.rel hR
   have hw:Within c ⟨c.μ,dL (fx++mov) [] true 0 c.S,c.σ,c.fb⟩ fx mov:=by
    refine⟨hfz.le,fun q hq hn hm=> ?_,fun _ _ _ _ _ _ _ _ hy=>hy⟩;show aa (dL (fx++mov) [] true 0 c.S) q=_;rw[fC hq];simp only[eJ,zD,aD];rcases hm with hm|hz
    ·rw[dO (by simp[hn,hm])];rfl
    ·cases eJ q (fx++mov)with
     |true=>exact(rr hz).symm
     |false=>rfl
   have h3:=nv (bh tab) (as:=eG a) (e0:=ea) a hg.2 (fun t ht=>ht) (jG.refl _ ea) (iG a l (c:=⟨c.μ,dL (fx++mov) [] true 0 c.S,c.σ,c.fb⟩) hR1 (he.frame hfz.le) h1);refine cx (bh tab) a _ _ (fun x ea' σ' hx=> ?_) ea c.σ h3;obtain⟨hk,e',c',h4,h5,h6,h7,h8⟩:=hx;subst h4;have h9:=FN hR he h6 hw hR1 h5 hg.1 hk h7 h8 h2;cases x with
   |normal=>
    obtain⟨e2,c2,g1,g2,g3,g4,g5⟩:=h9;rw[←g1];exact cx (bh tab) b _ _ (fun x ea'' σ'' hp=>gW.of g2 hp) _ _ (iG b r g3 g4 g5)
   |exit i=>exact h9
   |ret=>exact h9
  ·exact plain _ _ h
  ·exact plain _ _ h
 | .cond t a b,at',β,y,c,e,ea,k,hR,he,h=>by
  simp only[eval]at h;split at h
  ·rename_i p hp;have ht:=bg he t;rw[hp]at ht;have ht:=ht.bool_inv
   have key: ∀(e1 e2:bu) (l r:AT),an c e1 ea∨p=false→an c e2 ea∨p=true→cond p (eval tab a l β e1 c.S k) (eval tab b r β e2 c.S k)=some y→nw (cy tab) (.cond t a b) (jf c k y) ea c.σ:=by
    intro e1 e2 l r h1 h2 h3;simp only[nw,ht];cases p with
    |true=>
     rcases h1 with h1|h1
     ·exact iG a l hR h1 h3
     ·cases h1
    |false=>
     rcases h2 with h2|h2
     ·exact iG b r hR h2 h3
     ·cases h2
   have pb: ∀(i:Nat),t= .tmp i→(an c (iH e i (.bool true)) ea∨p=false)∧(an c (iH e i (.bool false)) ea∨p=true):=by
    intro i hi;subst hi;have:=HK he hp;cases p with
    |true=>exact⟨.inl this, .inr rfl⟩
    |false=>exact⟨.inr rfl, .inl this⟩
   split at h
   ·exact key _ _ _ _ (pb _ rfl).1 (pb _ rfl).2 h
   ·exact key _ _ _ _ (pb _ rfl).1 (pb _ rfl).2 h
   ·exact key _ _ _ _ (.inl he) (.inl he) h
   ·exact key _ _ _ _ (.inl he) (.inl he) h
  ·cases h
 | .block id b,at',β,y,c,e,ea,k,hR,he,h=>by
  simp only[eval]at h;refine cx (bh tab) b _ _ (fun x ea' σ' hx=> ?_) ea c.σ (iG b _ hR he h);obtain⟨e',c',h2,h3,h4,h5,h6⟩:=hx;cases x with
  |normal=>exact⟨e',c',h2,h3,h4,h5,h6⟩
  |ret=>exact⟨e',c',h2,h3,h4,h5,h6⟩
  |exit i=>
   simp only at h6⊢;cases hi:aC i id with
   |true=>
    rw[hi]at h6;rw[zE (aG hi)];exact⟨e',c',h2,h3,h4,h5,h6⟩
   |false=>
    rw[hi]at h6;rw[zF (fun e=>by rw[e,Nat.beq_refl]at hi;cases hi)];exact⟨e',c',h2,h3,h4,h5,h6⟩
 | .loop b,at',β,y,c,e,ea,k,hR,he,h=>by
  simp only[eval]at h;split at h
  ·rename_i fx head exits l _;have hfz:=Hb c.S.length head.sk.free head.sk.vals (head.ts.map (ey e)) c.S;refine cx (bh tab) (.loop b) _ _ (fun x ea' σ' hp=>gW.of hfz.le hp) ea c.σ ?_;replace hR:=hfz.rel hR;replace he:=he.frame hfz.le;generalize Ou c.S.length head.sk.free head.sk.vals (head.ts.map (ey e)) c.S=S1 at h hR he hfz⊢;clear hfz;generalize hc:(⟨c.μ,S1,c.σ,c.fb⟩:Ctx)=c1 at hR he⊢;have e1:S1=c1.S:=by rw[←hc]
   have e2:c.σ=c1.σ:=by rw[←hc]
   rw[e2];rw[e1]at h;clear e1 e2 hc;revert h he hR;revert c1;intro c h hR he;obtain⟨hg,h⟩:=ai h;rw[aA,aA]at hg;obtain⟨⟨g1,g2⟩,g3⟩:=hg;split at h
   ·rename_i st hd;obtain⟨t0,h1,h⟩:=ah h;obtain⟨s,h2,h3⟩:=ah h
    have round: ∀(n:Nat) (t:pQ head.sk.shs) (ea1:br) (σ1:Hp),S4 c e ea fx (gE st.m) (eG b) head.ts head.sk t ea1 σ1→aw (fun t=>match uZ e c.S fx (gE st.m) (eG b) true head.ts head.sk t with
      |some (e1,S1)=>eval tab b l (pQ head.sk.shs⊕mV exits) e1 S1 fun x e' S'=>(match x with
       | .normal=>(JV S' c.S.length fx head.sk (head.ts.map (ey e'))).bind fun t=>some (.inl t)
       |x=>(nG S' c.S.length fx (fun ts=>ts.map (ey e')) (fun y=>y.is x) exits).bind fun s=>some (.inr s))
      |none=>none) n t=some s→dE (nw (cy tab) b) (jf c k y) n ea1 σ1:=by
     intro n;induction n with
     |zero=>intro t ea1 σ1 _ hl;cases hl
     |succ n ih=>
      intro t ea1 σ1 hH hl;rw[cf]at hl;obtain⟨z,hl1,hl2⟩:=ah hl;obtain⟨c1,e1,q1,q2,q3,q4,q5,q6⟩:=hH;subst q1;rw[q2]at hl1;simp only at hl1;have h4:=nv (bh tab) (as:=eG b) (e0:=ea) b g3 (fun t ht=>ht) q6 (iG b l q3 q4 hl1);simp only[dE];refine cx (bh tab) b _ _ (fun x ea' σ' hx=> ?_) ea1 c1.σ h4;obtain⟨hk,e',c',h5,h6,h7,h8,h9⟩:=hx;subst h5;cases x with
      |normal=>
       simp only at h9⊢;obtain⟨t',h10,h11⟩:=ah h9;injection h11 with h11
       subst h11;simp only[bt]at hl2;refine ih t' ea' c'.σ ?_ hl2;obtain⟨hro,st',h12,h13⟩:=Mf h10
       have hset: ∃e2 S2,uZ e c.S fx (gE st.m) (eG b) true head.ts head.sk t'=some (e2,S2):=by
        cases n with
        |zero=>cases hl2
        |succ n=>
         rw[cf]at hl2;obtain⟨z',hl3,_⟩:=ah hl2;cases hz:uZ e c.S fx (gE st.m) (eG b) true head.ts head.sk t' with
         |none=>rw[hz]at hl3;cases hl3
         |some q=>exact⟨q.1,q.2,rfl⟩
       obtain⟨e2,S2,hset⟩:=hset;obtain⟨vs,fs,bs,S3,r1,r2,r3,r4⟩:=Di hset;rw[h13]at r1;obtain⟨ct,u1,u2,u3,u4,u5,u6,u7,u8⟩:=P9 hR h7 q5 q3 h6 g2 hro h12 r1 (Bv h8 _) r2;refine⟨ct,e2,u1,by rw[hset,r4,u2],u6, ?_,E9 u5 r2 u2 fun q hq hn hm hdm b' y' hb hy=> ?_,hk⟩
       ·rw[r3];exact yE (vy (he.frame u5) hk) u7
       ·refine(u8 q hq hn ?_).2 b' y' hb hy;obtain⟨v1,v2,v3,_⟩:=dV r2;rw[fD]at v2;rw[u2,fX (by rw[v2];exact hq),v3 q hn,fC hq,aD,dO hn];rcases hm with hm|hz
        ·rw[dO hm,zD,zD,zC,cD];exact hdm
        ·rw[hz];cases eJ q (gE st.m)with
         |true=>exact hdm
         |false=>rw[zD,zD,zC,cD];exact hdm
      |exit i=>
       simp only at h9⊢;obtain⟨s',h10,h11⟩:=ah h9;injection h11 with h11
       subst h11;simp only[bt]at hl2;injection hl2 with hl2
       subst hl2;exact FN hR he h7 q5 q3 h6 g2 hk h8 h10 h3
      |ret=>
       simp only at h9⊢;obtain⟨s',h10,h11⟩:=ah h9;injection h11 with h11
       subst h11;simp only[bt]at hl2;injection hl2 with hl2
       subst hl2;exact FN hR he h7 q5 q3 h6 g2 hk h8 h10 h3
    refine⟨di,round di t0 ea c.σ ?_ h2⟩
    have hset: ∃e2 S2,uZ e c.S fx (gE st.m) (eG b) true head.ts head.sk t0=some (e2,S2):=by
     have hb:di=(di-1)+1:=rfl;rw[hb,cf]at h2;obtain⟨z',hl3,_⟩:=ah h2;cases hz:uZ e c.S fx (gE st.m) (eG b) true head.ts head.sk t0 with
     |none=>rw[hz]at hl3;cases hl3
     |some q=>exact⟨q.1,q.2,rfl⟩
    obtain⟨e2,S2,hset⟩:=hset;obtain⟨vs,fs,bs,S3,r1,r2,r3,r4⟩:=Di hset;rw[qm h1]at r1;obtain⟨ct,u1,u2,u3,u4,u5,u6,u7⟩:=KN hR g2 g1 hd r1 (Bv he _) r2;refine⟨ct,e2,u1,by rw[hset,r4,u2],u6, ?_,E9 u5 r2 u2 fun q hq hn hm hdm b' y' hb hy=>by rw[u1];exact hy,jG.refl _ _⟩;rw[r3];exact yE (vy (he.frame u5) (jG.refl _ _)) u7
   ·cases h
  ·exact⟨_,Hl (fun hR he h=>iG b .all hR he h) _ hR he h⟩
  ·exact⟨_,yy (fun at'' {β y c e ea k} hR he h=>iG b at'' hR he h) at' hR he h⟩
end
end
section
open Nat renaming le_of_ble_eq_true → aA, zero_add → aB
theorem Bx {c:Ctx}{e:bu}{ea:br}(hR:Rel c)(he:an c e ea): ∀{rs:List ARes} {vs:List VV},yF e c.S rs=some vs→∃us,zT ea c.σ rs=some us∧F2 (VRel c) vs us
 |[],vs,h=>by injection h with h;subst h;exact⟨[],rfl, .nil⟩
 |r::rs,vs,h=>by
  simp only[yF]at h;obtain⟨v,h1,h⟩:=ah h;obtain⟨vs',h2,h⟩:=ah h;injection h with h
  subst h;obtain⟨us,h3,h4⟩:=Bx hR he h2
  have key: ∃u,C3 ea c.σ r=some u∧VRel c v u:=by
   cases r with
   |tmp t=>
    simp only[Po]at h1;injection h1 with h1
    subst h1;exact⟨_,rfl,he t⟩
   |cell t=>
    simp only[Po]at h1;split at h1
    ·rename_i b o hp;split at h1
     ·rename_i es z l hb;have ht:=he t;rw[hp]at ht;cases ht with
      |ptr hk _ hd=>
       have hdim:(aa c.S b).dim=some (es,l.length):=by rw[hb];rfl
       obtain⟨bb,hm,ha⟩:=hd _ hdim;have hs:=hR.stands hdim hm;rw[hb]at hs;obtain⟨y,a,h5,h6,h7⟩:=hs.get h1;refine⟨a, ?_,h7⟩;rw[aB]at h6;simp only[C3,ha,h5,zG,h6]
     ·cases h1
    ·cases h1
   |cellN t n=>
    simp only[Po]at h1;split at h1
    ·rename_i b o hp;split at h1
     ·rename_i es z l hb;cases hc:Nat.ble (o+n) l.length with
      |false=>rw[hc]at h1;cases h1
      |true=>
       rw[hc]at h1;injection h1 with h1
       subst h1;have ht:=he t;rw[hp]at ht;cases ht with
       |ptr hk _ hd=>
        have hdim:(aa c.S b).dim=some (es,l.length):=by rw[hb];rfl
        obtain⟨bb,hm,ha⟩:=hd _ hdim;have hs:=hR.stands hdim hm;rw[hb]at hs;obtain⟨y,as,h5,h6,h7⟩:=hs.read (aA hc);rw[aB]at h6;refine⟨.agg as.toArray, ?_, .agg (by simp only[Blk.vals]at h7;simpa using h7)⟩;simp only[C3,ha,h5,zG,h6,Option.map_some]
     ·cases h1
    ·cases h1
  obtain⟨u,h5,h6⟩:=key;exact⟨u::us,by simp only[zT,h5,h3], .cons h6 h4⟩
theorem Gh {c:Ctx}{vs:List VV}{us:List Value}(h:F2 (VRel c) vs us):VRel c (Iq vs) (qp us):=by
 cases h with
 |nil=>exact .tup .nil
 |cons h1 h2=>
  cases h2 with
  |nil=>exact h1
  |cons h2 h3=>exact .tup (by simpa using F2.cons h1 (F2.cons h2 h3))
theorem B9 {c:Ctx}{vs:List VV}{as:List Value}(h:F2 (VRel c) vs as):an c vs (br.of as):=by
 intro t
 have hg: ∀(l:List VV) (i:Nat),ey l i=(l[i]?).getD .undef:=by
  intro l;induction l with
  |nil=>intro i;simp[ey]
  |cons a l ih=>intro i;cases i with
   |zero=>simp[ey]
   |succ i=>simp[ey,ih]
 rw[hg];unfold br.of;cases hv:vs[t]? with
 |none=>exact .undef _
 |some v=>
  obtain⟨a,h1,h2⟩:=h.get t v hv;rw[h1];exact h2
theorem sG : ∀{n q:Nat},q<n→q∈yZ n
 |n+1,q,h=>by
  by_cases e:q=n
  ·subst e;exact List.mem_cons_self
  ·exact List.mem_cons_of_mem _ (sG (by omega))
theorem Nk {P:Program}{f:FuncId}{tab:Tab}{vals:List Sk}{objs:List OSk}{outs:List Alt}{at':AT}{run:pQ (iX.shs ⟨vals,[],objs⟩)→Option (mV outs)}(ht:cE P tab.fs)(hi:ad P tab.is)
  (he: ∀t o,run t=some o→zq P f tab vals objs outs at' t=some o):cd P ⟨f,vals,objs,outs,run⟩:=by
 intro B μ σ w args cargs K hs hR0 ha;obtain⟨c,vals',st,t,o,p,v,fs,bs,S',h1,hR,hf,hd,hl,hcut,hok,hrun,hp,henc,hS,hK⟩:=hs;subst h1;have hev:=he t o hrun;unfold zq at hev;split at hev
 ·rename_i af vs fs0 S0 htr hen;obtain⟨hg,hev⟩:=ai hev;refine Ml htr (bh tab) (vk ht hi) B μ c.σ w args cargs K ?_ hR0 ha;have htl:BB (iX.shs ⟨vals,[],objs⟩) t=st.ls:=qm hl;rw[htl]at hen;obtain⟨hE,hfv⟩:=enter hR rfl hd hen hf;have hlen:args.length≤af.ntmps:=by rw[←hfv.length];exact aA hg
  refine⟨hlen, ?_⟩;obtain⟨l1,l2⟩:=hE.len;have hbody:=iG af.body at' (c:=eH c st S0) hE.rel (B9 hfv) hev;refine cx (bh tab) af.body _ _ (fun x ea σ' hx=> ?_) _ _ hbody;obtain⟨e',c',h2,h3,h4,h5,h6⟩:=hx;subst h2
  have fin:(match yF e' c'.S af.results with
    |some rs=>nG c'.S S0.length (lf objs 0) (fun _=>[Iq rs]) (fun _=>true) outs
    |none=>none)=some o→(match zT ea c'.σ af.results with
    |some vs=>K (qp vs) c'.σ
    |none=>False):=by
   intro h7;split at h7
   ·rename_i rs hrs;obtain⟨us,h8,h9⟩:=Bx h4 h5 hrs;rw[h8];simp only;obtain⟨p',q1,_,q3⟩:=vz h7;simp only at hp;rw[hp]at q1;injection q1 with q1
    subst q1;obtain⟨hro,st',q4,q5⟩:=zj q3;obtain⟨ap1,_⟩:=ir hd;have hnd:=io ap1;rw[List.nil_append]at hnd;simp only at henc hS hcut hok;rw[q5]at henc
    have hlent: ∀(i:Nat) (o:OSk) (x:Src),objs[i]?=some o→o.ro=true→st.m[i]?=some (some x)→x.k∈st.lent:=by
     intro i o x g1 g2 g3;unfold fT at hd;obtain⟨st1,d1,hd⟩:=ah hd;obtain⟨st2,d2,hd⟩:=ah hd;obtain⟨st3,d3,hd⟩:=ah hd
     have:st3=st:=by
      cases hb:(wJ ([]++gE st3.m)&&sL ([]++dX (FSum.ins ⟨f,vals,objs,outs,run⟩).free st3.m) st3.lent)with
      |false=>rw[hb]at hd;cases hd
      |true=>rw[hb]at hd;injection hd
     subst this;exact F3 d3 i o x g1 g2 (by rw[aB];exact g3)
    obtain⟨ct,r1,r2,r3,r4,r5,r6⟩:=C4 hR rfl hE h3 h4 hcut hok hnd hlent hro (by rw[←l1];exact q4) henc (.cons (Gh h9) .nil) hS;cases r5 with
    |cons r5 _=>exact hK _ _ ⟨ct,r1,r2,r3,r4,r5,r6⟩
   ·cases h7
  cases x with
  |exit i=>cases h6
  |normal=>exact fin h6
  |ret=>exact fin h6
 ·cases hev
theorem EY {P:Program}{f:FuncId}{tab:List FSum}{ins:List Inl}{vals:List Sk}{objs:List OSk}{outs:List Alt}{at':AT}{run:pQ (iX.shs ⟨vals,[],objs⟩)→Option (mV outs)}(ht:cE P tab)(hi:ad P ins)
  (he: ∀t,zq P f ⟨tab,ins⟩ vals objs outs at' t=run t):cd P ⟨f,vals,objs,outs,run⟩:=Nk (tab:=⟨tab,ins⟩) ht hi fun t o h=>(he t).trans h
theorem Nj {P:Program}{f:FuncId}{tab:List FSum}{vals:List Sk}{objs:List OSk}{outs:List Alt}{at':AT}{run:pQ (iX.shs ⟨vals,[],objs⟩)→Option (mV outs)}(ht:cE P tab)
  (he: ∀t,zq P f ⟨tab,[]⟩ vals objs outs at' t=run t):cd P ⟨f,vals,objs,outs,run⟩:=EY ht (ad.nil P) he
theorem az {P:Program}{f:FuncId}{tab:List FSum}{ins:List Inl}{at':AT}(ht:cE P tab)(hi:ad P ins):B3 P ⟨f,bx P f ⟨tab,ins⟩ at'⟩:=by
 intro B μ σ w args cargs K hs hR0 ha;obtain⟨β,y,c,vals,k,h1,hR,hf,hev,hK⟩:=hs;subst h1;simp only[bx]at hev;split at hev
 ·rename_i af htr;obtain⟨hg,hev⟩:=ai hev;refine Ml htr (bh ⟨tab,ins⟩) (vk (tab:=⟨tab,ins⟩) ht hi) B μ c.σ w args cargs K ?_ hR0 ha;have hlen:args.length≤af.ntmps:=by rw[←hf.length];exact aA hg
  refine⟨hlen, ?_⟩;have hbody:=iG af.body at' (c:=c) hR (B9 hf) hev;refine cx (bh ⟨tab,ins⟩) af.body _ _ (fun x ea σ' hx=> ?_) _ _ hbody;obtain⟨e',c',h2,h3,h4,h5,h6⟩:=hx;subst h2
  have fin:(match yF e' c'.S af.results with
    |some rs=>k (Iq rs) c'.S
    |none=>none)=some y→(match zT ea c'.σ af.results with
    |some vs=>K (qp vs) c'.σ
    |none=>False):=by
   intro h7;split at h7
   ·rename_i rs hrs;obtain⟨us,h8,h9⟩:=Bx h4 h5 hrs;rw[h8];exact hK _ _ ⟨Iq rs,c',rfl,h3,h4,fun q hq hn=>(hn (sG hq)).elim,Gh h9,h7⟩
   ·cases h7
  cases x with
  |exit i=>cases h6
  |normal=>exact fin h6
  |ret=>exact fin h6
 ·cases hev
def xj :List Alt:=[⟨.ret,[],⟨[.leaf .bool],[],[]⟩⟩]
def nI (σ:Hp):Ctx:=⟨fun _=>none,[],σ,fun _=>False⟩
theorem I0 {σ:Hp}(h:σ.Ok):Rel (nI σ):=
 ⟨h,fun k k' b hz _ _ _=>(by cases hz),fun k d hd=>(by cases hd),fun k b hd=>(hd rfl).elim,fun b hb=>hb.elim⟩
theorem CK {σ:Hp}(b:Nat): ¬(nI σ).mut b:=by
 rintro(⟨k,h,_⟩|h)
 ·cases h
 ·exact h
theorem MC {P:Program}{f:FuncId}{vals:List Sk}{run:pQ (iX.shs ⟨vals,[],[]⟩)→Option (mV xj)}(h:cd P ⟨f,vals,[],xj,run⟩){w:World}(hT:GB P w){rows:List Row}{args:List Value}{cargs:Array Value}{vs:List VV}{st:DSt}{t:pQ (iX.shs ⟨vals,[],[]⟩)}
  (hrows: ∀r∈rows,∀(i:Nat) (v:Value),r.cells[i]?=some v→∃v',w.cell? ⟨r.c,r.o+i,none⟩=some v'∧VR (gx rows) v v') (hargs:F2 (VR (gx rows)) args cargs.toList)
  (hv:F2 (VRel (nI (iZ w.heap.size rows))) vs args) (hd:fT [] 0 [] ⟨vals,[],[]⟩ vs=some st) (hl:Gn _ st.ls=some t) (hr:run t=some true):
  Calls P f cargs w fun e w'=>e= .returned (.bool true)∧Go.RowKit.Below w.heap.size w w':=by
 have hm:st.m=[]:=by
  unfold fT at hd;obtain⟨st1,d1,hd⟩:=ah hd;obtain⟨st2,d2,hd⟩:=ah hd;obtain⟨st3,d3,hd⟩:=ah hd
  have:st3=st:=by
   cases hb:(wJ ([]++gE st3.m)&&sL ([]++dX ([]:List OSk) st3.m) st3.lent)with
   |false=>rw[hb]at hd;cases hd
   |true=>rw[hb]at hd;injection hd
  subst this;simp only[kW]at d3;cases hb:Nat.beq 0 st2.m.length with
  |false=>rw[hb]at d3;cases d3
  |true=>
   rw[hb]at d3;injection d3 with d3
   subst d3;exact List.length_eq_zero_iff.1 (Nat.eq_of_beq_eq_true hb).symm
 refine QB (S:=(FSum.mk f vals [] xj run).spec) h hT hrows hargs ?_;refine⟨nI (iZ w.heap.size rows),vs,st,t,true,⟨⟨.ret,[],⟨[.leaf .bool],[],[]⟩⟩,true⟩, .bool true,[],[],cond (qi [.bool true] [] []) (tu st.lent []) [],rfl,I0 Pq,hv,hd,hl,by rw[hm];rfl,by rw[hm];rfl,hr,rfl,rfl,by rw[hm];rfl, ?_⟩;rintro r σ' ⟨ct,_,_,_,_,hrel,_⟩;exact hrel.bool_inv
end
section
theorem K1 {α γ:Type}{f:α→Option (α⊕γ)}(I:α→Prop)(m:α→Nat)(Q:γ→Prop)(h: ∀a,I a→(∃b,f a=some (.inl b)∧I b∧m b<m a)∨∃c,f a=some (.inr c)∧Q c): ∀(n:Nat) (a:α),I a→m a<n→∃c,aw f n a=some c∧Q c:=by
 intro n;induction n with
 |zero=>intro a _ h1;omega
 |succ n ih=>
  intro a hI hm;rcases h a hI with⟨b,h1,h2,h3⟩|⟨c,h1,h2⟩
  ·obtain⟨c,h4,h5⟩:=ih b h2 (by omega);exact⟨c,by rw[cf,h1];exact h4,h5⟩
  ·exact⟨c,by rw[cf,h1];rfl,h2⟩
theorem rA {α γ:Type}{f:α→Option (α⊕γ)}{a:α}(I:α→Prop)(m:α→Nat)(Q:γ→Prop)(h0:I a)(hm:m a<18446744073709551616)(h: ∀a,I a→(∃b,f a=some (.inl b)∧I b∧m b<m a)∨∃c,f a=some (.inr c)∧Q c): ∃c,aw f di a=some c∧Q c:=
 K1 I m Q h di a h0 hm
theorem dB {α:Type}{p:Prop}[Decidable p]{x y:α}:cond (decide p) x y=if p then x else y:=by by_cases h:p<;>simp[h]
theorem fp {β:Type}{x:Option β}:gd true x=x:=rfl
theorem fO {β:Type}{n b:Nat}{x:Option β}(h:n*b≤140737488355328)(hb:1≤b):gd (cG n b) x=x:=by
 have:cG n b=true:=by
  unfold cG;rw[zB h,Bool.true_and];exact Nat.ble_eq_true_of_le hb
 rw[this];rfl
theorem nK {α:Type}{l:List α}{i:Nat}(h:i<l.length):rd l (i:Int)=some l[i]:=by
 unfold rd;rw[zB (by omega),zC,Int.toNat_natCast,List.getElem?_eq_getElem h]
theorem cR {n:Int}(h: -9223372036854775808≤n∧n≤9223372036854775807):IntKind.i64.wrap n=n:=IntWalk.i64_in _ h
theorem mj {α γ β:Type}{a:α}{f:α→Option β}{g:γ→Option β}:bt (.inl a) f g=f a:=rfl
theorem db {α γ β:Type}{a:γ}{f:α→Option β}{g:γ→Option β}:bt (.inr a) f g=g a:=rfl
end
section
def uH (a:AFn)(tab:Tab)(vals:List Sk)(objs:List OSk)(outs:List Alt)(at':AT)(t:pQ (iX.shs ⟨vals,[],objs⟩)):Option (mV outs):=
 match fK id ⟨vals,[],objs⟩ (BB _ t)with
 |some (vs,_,S)=>gd (Nat.ble vs.length a.ntmps) (eval tab a.body at' (mV outs) vs S fun x e S'=>match x with
  | .exit _=>none
  |_=>(match yF e S' a.results with
   |some rs=>nG S' S.length (lf objs 0) (fun _=>[Iq rs]) (fun _=>true) outs
   |none=>none))
 |_=>none
theorem Ee {P:Program}{f:FuncId}{af:AFn}{tab:Tab}{vals:List Sk}{objs:List OSk}{outs:List Alt}{at':AT}{run:pQ (iX.shs ⟨vals,[],objs⟩)→Option (mV outs)}(ht:cE P tab.fs)(hi:ad P tab.is)(htr:LC P f=some af)(hen0: ∀t:pQ (iX.shs ⟨vals,[],objs⟩),∃r,fK id ⟨vals,[],objs⟩ (BB _ t)=some r)
  (he: ∀t o vs fs S,run t=some o→fK id ⟨vals,[],objs⟩ (BB _ t)=some (vs,fs,S)→∀(c:Ctx) args,F2 (VRel c) vs args→
   ∃b,uH ⟨af.ntmps,af.results,b⟩ tab vals objs outs at' t=some o∧∀T (_:lG T) Q σ,nw T b Q (br.of args) σ→nw T af.body Q (br.of args) σ):cd P ⟨f,vals,objs,outs,run⟩:=by
 intro B μ σ w args cargs K hs hR0 ha;obtain⟨c,vals',st,t,o,p,v,fs,bs,S',h1,hR,hf,hd,hl,hcut,hok,hrun,hp,henc,hS,hK⟩:=hs;subst h1;have htl:BB (iX.shs ⟨vals,[],objs⟩) t=st.ls:=qm hl;cases hen:fK id ⟨vals,[],objs⟩ (BB (iX.shs ⟨vals,[],objs⟩) t)with
 |none=>
  obtain⟨r,q⟩:=hen0 t;rw[hen]at q;cases q
 |some tr=>
 obtain⟨vs,fs0,S0⟩:=tr;refine Ml htr (bh tab) (vk ht hi) B μ c.σ w args cargs K ?_ hR0 ha;have hen':=hen;rw[htl]at hen;obtain⟨hE,hfv⟩:=enter hR rfl hd hen hf;obtain⟨bd,hev,himp⟩:=he t o vs fs0 S0 hrun hen' _ _ hfv;unfold uH at hev;rw[hen']at hev;obtain⟨hg,hev⟩:=ai hev;have hlen:args.length≤af.ntmps:=by rw[←hfv.length];exact Nat.le_of_ble_eq_true hg
 refine⟨hlen,himp _ (bh tab) _ _ ?_⟩;obtain⟨l1,l2⟩:=hE.len;have hbody:=iG bd at' (c:=eH c st S0) hE.rel (B9 hfv) hev;refine cx (bh tab) bd _ _ (fun x ea σ' hx=> ?_) _ _ hbody;obtain⟨e',c',h2,h3,h4,h5,h6⟩:=hx;subst h2
 have fin:(match yF e' c'.S af.results with
   |some rs=>nG c'.S S0.length (lf objs 0) (fun _=>[Iq rs]) (fun _=>true) outs
   |none=>none)=some o→(match zT ea c'.σ af.results with
   |some vs=>K (qp vs) c'.σ
   |none=>False):=by
  intro h7;split at h7
  ·rename_i rs hrs;obtain⟨us,h8,h9⟩:=Bx h4 h5 hrs;rw[h8];simp only;obtain⟨p',q1,_,q3⟩:=vz h7;simp only at hp;rw[hp]at q1;injection q1 with q1
   subst q1;obtain⟨hro,st',q4,q5⟩:=zj q3;obtain⟨ap1,_⟩:=ir hd;have hnd:=io ap1;rw[List.nil_append]at hnd;simp only at henc hS hcut hok;rw[q5]at henc
   have hlent: ∀(i:Nat) (o:OSk) (x:Src),objs[i]?=some o→o.ro=true→st.m[i]?=some (some x)→x.k∈st.lent:=by
    intro i o x g1 g2 g3;unfold fT at hd;obtain⟨st1,d1,hd⟩:=ah hd;obtain⟨st2,d2,hd⟩:=ah hd;obtain⟨st3,d3,hd⟩:=ah hd
    have:st3=st:=by
     cases hb:(wJ ([]++gE st3.m)&&sL ([]++dX (FSum.ins ⟨f,vals,objs,outs,run⟩).free st3.m) st3.lent)with
     |false=>rw[hb]at hd;cases hd
     |true=>rw[hb]at hd;injection hd
    subst this;exact F3 d3 i o x g1 g2 (by rw[Nat.zero_add];exact g3)
   obtain⟨ct,r1,r2,r3,r4,r5,r6⟩:=C4 hR rfl hE h3 h4 hcut hok hnd hlent hro (by rw[←l1];exact q4) henc (.cons (Gh h9) .nil) hS;cases r5 with
   |cons r5 _=>exact hK _ _ ⟨ct,r1,r2,r3,r4,r5,r6⟩
  ·cases h7
 cases x with
 |exit i=>cases h6
 |normal=>exact fin h6
 |ret=>exact fin h6
def IJ (es bytes:Nat)(z:List Value)(c:AOp)(n:AOp):AC:=
 .seq (.region [⟨some 2, .move (.const (.slice none 0 0)),none⟩]) (.seq (.seq (.region [⟨some 3, .move (.tmp 0),none⟩,⟨some 4,c,none⟩]) (.cond (.tmp 4) (.seq (.region [⟨some 2,n,none⟩]) .ret) .skip))
  (.seq (.region [⟨some 5, .buildSlice es 0 z [],none⟩,⟨some 6, .move (.tmp 0),none⟩,⟨some 7, .append es bytes (.tmp 5) (.tmp 6),none⟩,⟨some 2, .move (.tmp 7),none⟩]) .ret))
def FC (es bytes:Nat)(z:List Value):AFn:=⟨8,[.tmp 2],IJ es bytes z (.eqv 2 false (.tmp 3) (.const (.slice none 0 0))) (.move (.const (.slice none 0 0)))⟩
def N9 (es bytes:Nat)(z:List Value):AFn:=⟨8,[.tmp 2],IJ es bytes z (.move (.const (.bool false))) (.move (.const (.slice none 0 0)))⟩
def L9 (es bytes:Nat)(z:List Value):AFn:=⟨8,[.tmp 2],IJ es bytes z (.move (.const (.bool true))) (.append es bytes (.const (.slice none 0 0)) (.tmp 0))⟩
def po (s:Sh):List Alt:=[⟨.ret,[],⟨[.full 0],[],[.arr false s]⟩⟩]
theorem uF {P:Program}{f:FuncId}{es bytes:Nat}{z:List Value}{s:Sh}(htr:LC P f=some (FC es bytes z))
  (h0: ∀t:pQ (iX.shs ⟨[.leaf (.list s)],[],[]⟩),fK id ⟨[.leaf (.list s)],[],[]⟩ (BB _ t)=some ([.lst s t],[],[]))
  (h1: ∀l:List (El s),uH (N9 es bytes z) ⟨[],[]⟩ [.leaf (.list s)] [] (po s) .no l=gd (cG (0+l.length) bytes) (some l))
  (h2:uH (L9 es bytes z) ⟨[],[]⟩ [.leaf (.list s)] [] (po s) .no ([]:List (El s))=gd (cG (0+0) bytes) (some ([]:List (El s)))):
  cd P ⟨f,[.leaf (.list s)],[],po s,fun l:List (El s)=>gd (cG (0+l.length) bytes) (some l)⟩:=by
 refine Ee (at':= .no) (tab:=⟨[],[]⟩) (cE.nil P) (ad.nil P) htr (fun t=>⟨_,h0 t⟩) fun t o vs fs S hrun hen c args ha=> ?_
 have hvs:vs=[.lst s t]:=by
  rw[h0 t]at hen;injection hen with hen
  injection hen with hen
  exact hen.symm
 subst hvs;cases ha with
 |cons ha hb=>
 cases hb
 have no: ∀q n cp (args:List Value),args=[.slice (some q) n cp]→∃b,uH ⟨(FC es bytes z).ntmps,(FC es bytes z).results,b⟩ ⟨[],[]⟩ [.leaf (.list s)] [] (po s) .no t=some o∧
   ∀T (_:lG T) Q σ,nw T b Q (br.of args) σ→nw T (FC es bytes z).body Q (br.of args) σ:=by
  rintro q n cp args rfl;exact⟨_,(h1 t).trans hrun,fun T _ Q σ h=>h⟩
 cases ha with
 | @lst s l b p n cp y h3 h4 h5 h6 h7 h8 h9=>exact no _ _ _ _ rfl
 | @lstn s q h3=>
  cases q with
  |some q=>exact no _ _ _ _ rfl
  |none=>exact⟨_,h2.trans hrun,fun T _ Q σ h=>h⟩
end
section
end
open Go.Ab Go.ChangeShapes Go.WideShapes
section
theorem KZ {P:Program}{f:FuncId}{vals:List Sk}{run:pQ (iX.shs ⟨vals,[],[]⟩)→Option (mV xj)}(h:cd P ⟨f,vals,[],xj,run⟩){w:World}(hT:GB P w){rows:List Row}{args:List Value}{cargs:Array Value}{vs:List VV}(t:pQ (iX.shs ⟨vals,[],[]⟩))
  (hrows: ∀r∈rows,∀(i:Nat) (v:Value),r.cells[i]?=some v→∃v',w.cell? ⟨r.c,r.o+i,none⟩=some v'∧VR (gx rows) v v') (hargs:F2 (VR (gx rows)) args cargs.toList)
  (hv:F2 (VRel (nI (iZ w.heap.size rows))) vs args) (hd:((fT [] 0 [] ⟨vals,[],[]⟩ vs).bind fun st=>Gn _ st.ls)=some t) (hr:run t=some true):
  Calls P f cargs w fun e w'=>e= .returned (.bool true)∧Go.RowKit.Below w.heap.size w w':=by
 obtain⟨st,h1,h2⟩:=ah hd;exact MC h hT hrows hargs hv h1 h2 hr
end
section
theorem jC {α δ:Type}{f:α→Option (α⊕δ)}{n:Nat}(F:Nat→α){c:δ}(hn:n<9223372036854775808)(hs: ∀i,i<n→f (F i)=some (.inl (F (i+1))))(he:f (F n)=some (.inr c)):aw f di (F 0)=some c:=by
 have key: ∀k i m,i+k=n→k<m→aw f m (F i)=some c:=by
  intro k;induction k with
  |zero=>
   intro i m h1 h2;obtain⟨m,rfl⟩: ∃m',m=m'+1:=⟨m-1,by omega⟩
   have:i=n:=by omega
   subst this;show(f (F i)).bind _=_;rw[he];rfl
  |succ k ih=>
   intro i m h1 h2;obtain⟨m,rfl⟩: ∃m',m=m'+1:=⟨m-1,by omega⟩
   show(f (F i)).bind _=_;rw[hs i (by omega)];exact ih (i+1) m (by omega) (by omega)
 exact key n 0 di (by omega) (by unfold di;omega)
theorem ML {γ δ:Type}{f:(Int×γ)→Option ((Int×γ)⊕δ)}{n:Nat}(F:Nat→γ){c:δ}(hn:n<9223372036854775808)(hs: ∀i,i<n→f ((i:Int),F i)=some (.inl (((i+1:Nat):Int),F (i+1))))(he:f ((n:Int),F n)=some (.inr c)):aw f di (0,F 0)=some c:=
 jC (fun i=>((i:Int),F i)) hn hs he
theorem vK {δ:Type}{f:Int→Option (Int⊕δ)}{n:Nat}{c:δ}(hn:n<9223372036854775808)(hs: ∀i:Nat,i<n→f (i:Int)=some (.inl ((i+1:Nat):Int)))(he:f (n:Int)=some (.inr c)):aw f di 0=some c:=
 jC (fun i=>(i:Int)) hn hs he
theorem Qg (n:Int):IntKind.u64.wrap n=n % 18446744073709551616:=by rfl
theorem LF {n:Nat}(h:n<9223372036854775808):IntKind.u64.wrap (n:Int)=n:=by
 rw[Qg];omega
theorem jo {n:Int}(h:0≤n∧n<18446744073709551616):IntKind.u64.wrap n=n:=by
 rw[Qg];omega
theorem Bw {l:List Int}{i:Nat}(h:i<l.length):rd l (i:Int)=some (l.getD i 0):=by
 rw[nK h,List.getD_eq_getElem?_getD,List.getElem?_eq_getElem h];rfl
theorem dC {k n:Nat}(h:k<n):ix (k:Int) n=some k:=by
 unfold ix;rw[zB (show(0:Int)≤k by omega),zB (show(k:Int)<n by omega)];rfl
theorem kV {a b:Int}{n:Nat}(h:0≤a∧a≤b∧b≤n):cb a b n=true:=by
 unfold cb;rw[zB h.1,zB h.2.1,zB h.2.2];rfl
theorem Kr {a b:Int}(h:0≤a):Int.tdiv a b=a / b:=Int.tdiv_eq_ediv_of_nonneg h
theorem Pz {a b:Int}(h:0≤a):Int.tmod a b=a % b:=Int.tmod_eq_emod_of_nonneg h
end
section
open List renaming append_nil → aB, append_assoc → aC, getElem?_eq_getElem → aD, getElem?_append_left → aF, length_append → aG, drop_zero → aH, getElem?_append_right → aI, length_cons → aN, length_take → aO, take_of_length_le → aP
open Nat renaming beq → aA, eq_of_beq_eq_true → aE, le_refl → aJ, not_lt_zero → aK, zero_add → aL, zero_mul → aM, eq_zero_or_pos → aQ
open Option renaming map_some → aR
def dF (w:World):(s:Sh)→List Value→El s→Prop
 | .int k,cs,n=>cs=[.int k n]∧(Lit.int k n).wf=true
 | .bool,cs,b=>cs=[.bool b]
 | .str,cs,l=> ∃s:ByteArray,cs=[.string s]∧ak s=l∧s.size≤maxLen
 | .list s,cs,l=>(cs=[.slice none 0 0]∧l=[])∨∃(a:Addr) (len cap:Nat) (ys:List (El s)),cs=[.slice (some a) len cap]∧len≤cap∧cap≤maxLen∧ys.length=cap∧l=ys.take len∧
   ∀i y,ys[i]?=some y→∃zs,(∀j z,zs[j]?=some z→w.cell? (a.add (i*s.w+j))=some z)∧dF w s zs y
 | .pair a b,cs,x=> ∃c1 c2,cs=c1++c2∧dF w a c1 x.1∧dF w b c2 x.2
theorem dF.len {w:World}: ∀{s:Sh} {cs:List Value} {x:El s},dF w s cs x→cs.length=s.w
 | .int k,_,_,⟨h,_⟩=>by subst h;rfl
 | .bool,_,_,h=>by
  have h:_=[Value.bool _]:=h;subst h;rfl
 | .str,_,_,⟨s,h,_⟩=>by subst h;rfl
 | .list s,_,_,h=>by
  rcases h with⟨h,_⟩|⟨a,len,cap,ys,h,_⟩<;>subst h<;>rfl
 | .pair a b,_,_,⟨c1,c2,h,h1,h2⟩=>by
  subst h;rw[aG,h1.len,h2.len];rfl
def pn (w:World)(rows:List Row):Prop:= ∀r∈rows,∀(i:Nat) (v:Value),r.cells[i]?=some v→∃v',w.cell? ⟨r.c,r.o+i,none⟩=some v'∧VR (gx rows) v v'
theorem F4 (rows more:List Row):(gx rows).le (gx (rows++more)):=by
 intro b g h;simp only[gx]at h⊢;cases hr:rows[b]? with
 |none=>rw[hr]at h;cases h
 |some r=>
  rw[hr]at h;obtain⟨hb,hr'⟩:=List.getElem?_eq_some_iff.1 hr;rw[aF hb,hr];exact h
theorem Kk (size:Nat)(rows more:List Row):Le (nI (iZ size rows)) (nI (iZ size (rows++more))):=by
 have hs: ∀k,aa ([]:ae) k= .dead:=fun k=>by cases k<;>rfl
 refine⟨aJ _,fun k d h=>(aK _ h).elim,fun k _ h=> ?_,fun k d b y h=>(aK _ h).elim,fun b y h _=> ?_,fun b y _ _ h=>(CK b (.inl h)).elim, ?_,rfl⟩
 ·rfl
 ·simp only[nI,iZ]at h⊢;cases hr:rows[b]? with
  |none=>rw[hr]at h;cases h
  |some r=>
   rw[hr]at h;obtain⟨hb,hr'⟩:=List.getElem?_eq_some_iff.1 hr;rw[aF hb,hr];exact h
 ·show rows.length≤(rows++more).length;rw[aG];omega
theorem LQ {μ μ':Mu}(h:μ.le μ'){l m:List Value}(hf:F2 (VR μ) l m):F2 (VR μ') l m:=hf.imp fun _ _ hv=>hv.mono h
theorem pn.app {w:World}{rows more:List Row}(h:pn w rows)(hm: ∀r∈more,∀(i:Nat) (v:Value),r.cells[i]?=some v→∃v',w.cell? ⟨r.c,r.o+i,none⟩=some v'∧VR (gx (rows++more)) v v'):pn w (rows++more):=by
 intro r hr i v hv;rcases List.mem_append.1 hr with hr|hr
 ·obtain⟨v',h1,h2⟩:=h r hr i v hv;exact⟨v',h1,h2.mono (F4 _ _)⟩
 ·exact hm r hr i v hv
theorem N3 (a:Addr)(i j:Nat):(a.add i).add j=a.add (i+j):=by
 unfold Addr.add;by_cases hj:j=0
 ·subst hj;simp
 ·by_cases hi:i=0
  ·subst hi;simp
  ·simp[hi,hj,Nat.add_assoc]
structure Built (w:World)(rows more:List Row)(acs cs:List Value)(vs:List VV):Prop where
 ok:pn w (rows++more)
 vr:F2 (VR (gx (rows++more))) acs cs
 vv:F2 (VRel (nI (iZ w.heap.size (rows++more)))) vs acs
theorem Built.app {w:World}{rows m1 m2:List Row}{a1 a2 c1 c2:List Value}{v1 v2:List VV}(h1:Built w rows m1 a1 c1 v1)(h2:Built w (rows++m1) m2 a2 c2 v2):Built w rows (m1++m2) (a1++a2) (c1++c2) (v1++v2):=by
 refine⟨?_, ?_, ?_⟩
 ·rw[←aC];exact h2.ok
 ·rw[←aC];exact(LQ (F4 _ _) h1.vr).append h2.vr
 ·rw[←aC];exact(VRel.frames (Kk _ _ _) h1.vv).append h2.vv
theorem Built.nil {w:World}{rows:List Row}(h:pn w rows):Built w rows [] [] [] []:=⟨by rw[aB];exact h, .nil, .nil⟩
theorem L5 {w:World}{s:Sh}(ih: ∀{cs:List Value} {x:El s},dF w s cs x→∀{rows:List Row},pn w rows→∃more acs,Built w rows more acs cs (ce s x))(a:Addr): ∀(ys:List (El s)) (k:Nat),
  (∀i y,ys[i]?=some y→∃zs,(∀j z,zs[j]?=some z→w.cell? (a.add ((k+i)*s.w+j))=some z)∧dF w s zs y)→∀{rows:List Row},pn w rows→
  ∃more acs ccs,Built w rows more acs ccs (cv s ys)∧ccs.length=ys.length*s.w∧∀i z,ccs[i]?=some z→w.cell? (a.add (k*s.w+i))=some z
 |[],k,_,rows,h=>⟨[],[],[], .nil h,by simp,fun i z hz=>by simp at hz⟩
 |y::ys,k,hy,rows,h=>by
  obtain⟨zs,h1,h2⟩:=hy 0 y rfl;obtain⟨m1,a1,h3⟩:=ih h2 h
  obtain⟨m2,a2,c2,h4,h5,h6⟩:=L5 ih a ys (k+1) (fun i y' hy'=>by
   obtain⟨zs',h7,h8⟩:=hy (i+1) y' (by simpa using hy')
   exact⟨zs',fun j z hz=>by rw[show k+1+i=k+(i+1)by omega];exact h7 j z hz,h8⟩) h3.ok
  refine⟨m1++m2,a1++a2,zs++c2, ?_, ?_,fun i z hz=> ?_⟩
  ·have:=h3.app h4;rw[cL];exact this
  ·rw[aG,h5,h2.len,aN,Nat.succ_mul];omega
  ·have hl:=h2.len;by_cases hi:i<zs.length
   ·rw[aF hi]at hz;have:=h1 i z hz
    rwa [Nat.add_zero]at this
   ·rw[aI (by omega)]at hz;have:=h6 _ z hz;rw[show(k+1)*s.w+(i-zs.length)=k*s.w+i by rw[Nat.succ_mul];omega]at this;exact this
theorem build {w:World}: ∀(s:Sh) {cs:List Value} {x:El s},dF w s cs x→∀{rows:List Row},pn w rows→∃more acs,Built w rows more acs cs (ce s x)
 | .int k,_,n,⟨h,_⟩,rows,hr=>by
  subst h;exact⟨[],_,by rw[aB];exact hr, .cons (.int _ _) .nil, .cons (.int _ _) .nil⟩
 | .bool,_,b,h,rows,hr=>by
  have h:_=[Value.bool _]:=h;subst h;exact⟨[],_,by rw[aB];exact hr, .cons (.bool _) .nil, .cons (.bool _) .nil⟩
 | .str,_,l,⟨s,h,h2,_⟩,rows,hr=>by
  subst h;exact⟨[],_,by rw[aB];exact hr, .cons (.string _) .nil, .cons (.str h2) .nil⟩
 | .pair a b,_,x,⟨c1,c2,h,h1,h2⟩,rows,hr=>by
  subst h;obtain⟨m1,a1,h3⟩:=build a h1 hr;obtain⟨m2,a2,h4⟩:=build b h2 h3.ok;exact⟨m1++m2,a1++a2,h3.app h4⟩
 | .list s,_,l,h,rows,hr=>by
  rcases h with⟨h,h2⟩|⟨a,len,cap,ys,h,hlc,hcm,hyl,hl,hy⟩
  ·subst h;subst h2;exact⟨[],_,by rw[aB];exact hr, .cons .nils .nil, .cons (.lstn fun z hz=>by cases hz) .nil⟩
  ·subst h;obtain⟨m1,a1,c1,h1,h2,h3⟩:=L5 (fun hc=>build s hc) a ys 0 (fun i y h=>by rw[aL];exact hy i y h) hr;have hw:=fY s;rw[hyl]at h2;have hal:a1.length=cap*s.w:=by rw[h1.vr.length,h2]
   let row:Row:=⟨a.block,a.off,cap*s.w,s.w,a1⟩
   have hspot:0<cap→a.spot=none∧a.block<w.heap.size:=by
    intro hc;have hlt:0<c1.length:=by rw[h2];exact Nat.mul_pos hc hw
    have:=h3 0 _ (aD hlt);rw[aM,Nat.add_zero]at this;have hsp:=Lq this;exact⟨hsp,N8 (x:=⟨a.block,a.off+0,none⟩) (Cl hsp this)⟩
   have hget: ∀(rs:List Row),(rows++(m1++[row])++rs)[(rows++m1).length]?=some row:=by
    intro rs;rw[←aC,aC _ [row],aI (aJ _),Nat.sub_self];rfl
   have hmu:(gx (rows++(m1++[row]))).at (rows++m1).length ⟨a.block,a.off,cap*s.w,s.w,0,none⟩:=by
    have:=hget [];rw[aB]at this;refine⟨?_,rfl⟩;simp only[gx,this];rfl
   have hok:pn w (rows++(m1++[row])):=by
    rw[←aC];refine h1.ok.app fun r hr' i v hv=> ?_
    have:r=row:=by simpa using hr'
    subst this;obtain⟨v',q1,q2⟩:=h1.vr.get i v hv;have hc:=h3 i v' q1;rw[aM,aL]at hc
    have hcap:0<cap:=by
     rcases aQ cap with e|e
     ·have hv:a1[i]?=some v:=hv;obtain⟨hi,_⟩:=List.getElem?_eq_some_iff.1 hv;rw[hal,e,aM]at hi;exact(aK _ hi).elim
     ·exact e
    exact⟨v',Cl (hspot hcap).1 hc,q2.mono (F4 _ _)⟩
   refine⟨m1++[row],[.slice (some ⟨(rows++m1).length,0,none⟩) len cap],hok, ?_, ?_⟩
   ·refine .cons ?_ .nil;by_cases hc:cap=0
    ·have:len=0:=by omega
     subst hc;subst this;exact .slice0 _ hmu
    ·have hsp:=(hspot (by omega)).1;obtain⟨b,o,sp⟩:=a;simp only at hsp;subst hsp;exact .slice (o:=0) hmu hlc (aJ _) (by simp)
   ·refine .cons ?_ .nil;by_cases hc:cap=0
    ·have e:len=0:=by omega
     subst hc;subst e;rw[hl,List.take_zero];exact .lstn fun z hz=>by injection hz with hz;rw[←hz]
    ·have hlt:=(hspot (by omega)).2
     have hm:(nI (iZ w.heap.size (rows++(m1++[row])))).σ.m (rows++m1).length=some ⟨a1,false,s.w⟩:=by
      have:=hget [];rw[aB]at this;simp only[nI,iZ,this,zG];exact zE hlt
     have hlen:l.length=len:=by rw[hl,aO];omega
     refine .lst (CK _) hm rfl hlen.symm hlc ?_ ?_
     ·show 0+len*s.w≤a1.length;rw[hal,aL];exact Nat.mul_le_mul_right _ hlc
     ·show F2 _ _ ((a1.drop 0).take (len*s.w));rw[aH,hl]
      have h5:F2 (VRel (nI (iZ w.heap.size (rows++(m1++[row]))))) (cv s ys) a1:=by
       rw[←aC];exact VRel.frames (Kk _ _ _) h1.vv
      have h6:cv s (ys.take len)=(cv s ys).take (len*s.w):=eI;rw[h6];exact h5.take _
def sO :List Sh→Sh
 |[]=> .bool
 |[a]=>a
 |a::b::r=> .pair a (sO (b::r))
theorem Hr {w:World}: ∀{l1 l2:List Sh} {c1 c2:List Value},l1≠[]→l2≠[]→(∃x,dF w (sO l1) c1 x)→(∃x,dF w (sO l2) c2 x)→∃x,dF w (sO (l1++l2)) (c1++c2) x
 |[a],b::r,c1,c2,_,_,⟨x,h1⟩,⟨y,h2⟩=>⟨(x,y),c1,c2,rfl,h1,h2⟩
 |a::b::r,l2,c1,c2,_,hl,⟨x,d1,d2,h0,h1,h2⟩,h3=>by
  subst h0;obtain⟨z,h4⟩:=Hr (l1:=b::r) (by simp) hl ⟨x.2,h2⟩ h3;exact⟨(x.1,z),d1,d2++c2,by rw[aC],h1,h4⟩
def yn {α:Type}(P:Program)(r:TypeId→Option (List Sh))(ty:α→TypeId)(off:α→Nat):List α→Nat→Option (List Sh)
 |[],_=>some []
 |f::l,o=>cond (aA (off f) o) (match r (ty f)with
  |some (s::ss)=>cond (aA (s::ss).length (P.cellsOf (ty f))) ((yn P r ty off l (o+(s::ss).length)).map ((s::ss)++ ·)) none
  |_=>none) none
def lI (P:Program):Nat→TypeId→Option (List Sh)
 |0,_=>none
 |n+1,t=>match P.underlying t with
  |some (.int k)=>some [.int k]
  |some .bool=>some [.bool]
  |some .string=>some [.str]
  |some (.slice e)=>(match lI P n e with
   |some (s::ss)=>cond (aA (s::ss).length (P.cellsOf e)) (some [.list (sO (s::ss))]) none
   |_=>none)
  |some (.struct fs)=>(match yn P (lI P n) Field.type Field.offset fs.toList 0 with
   |some L=>cond (aA L.length (P.cellsOf t)) (some L) none
   |none=>none)
  |some (.array m e)=>(match yn P (lI P n) (fun _=>e) (fun i=>i*P.cellsOf e) (List.range m) 0 with
   |some L=>cond (aA L.length (P.cellsOf t)) (some L) none
   |none=>none)
  |_=>none
section
variable {H:Type} {enc:TypeId×Value→H} {P:Program} {w:World} {base:Nat} {held:Bool}
theorem uS {α:Type}{n m:Nat}{ty:α→TypeId}{off:α→Nat}(ih: ∀{t:TypeId} {l:List Sh} {cs:List Value} {x:DataW H×List MemPlace},lI P n t=some l→l≠[]→DataW.trod enc P w base (fun _=>true) held m t cs=some x→∃y,dF w (sO l) cs y){cs:List Value}:
  ∀(fs:List α) (o:Nat) (L:List Sh),yn P (lI P n) ty off fs o=some L→L≠[]→(∀(i:Nat) (f:α),fs[i]?=some f→∃x,DataW.trod enc P w base (fun _=>true) held m (ty f) ((cs.drop (off f)).take (P.cellsOf (ty f)))=some x)→
   ∃y,dF w (sO L) ((cs.drop o).take L.length) y
 |[],o,L,h,hne,_=>by
  injection h with h
  exact(hne h.symm).elim
 |f::fs,o,L,h,hne,hm=>by
  obtain⟨y,hy⟩:=hm 0 f rfl;simp only[yn]at h;cases hb:aA (off f) o with
  |false=>rw[hb]at h;cases h
  |true=>
   have hb:=aE hb;subst hb;rw[Nat.beq_refl,zC]at h;cases hr:lI P n (ty f)with
   |none=>rw[hr]at h;cases h
   |some l=>
    rw[hr]at h;cases l with
    |nil=>cases h
    |cons s ss=>
     simp only at h;cases hc:aA (s::ss).length (P.cellsOf (ty f))with
     |false=>rw[hc]at h;cases h
     |true=>
      rw[hc,zC]at h;have hc:=aE hc;rw[←hc]at hy;have h1:=ih hr (by simp) hy;cases hf:yn P (lI P n) ty off fs (off f+(s::ss).length)with
      |none=>rw[hf]at h;cases h
      |some L2=>
       rw[hf,aR]at h;injection h with h
       subst h;rw[aG,List.take_add,List.drop_drop];cases L2 with
       |nil=>
        rw[List.length_nil,List.take_zero,aB,aB];exact h1
       |cons s2 r2=>exact Hr (by simp) (by simp) h1 (uS ih fs _ _ hf (by simp) fun i g hg=>hm (i+1) g (by simpa using hg))
theorem EU {β:Type}{p:Nat→β→Prop}: ∀(n:Nat),(∀i,i<n→∃y,p i y)→∃ys:List β,ys.length=n∧∀i y,ys[i]?=some y→p i y
 |0,_=>⟨[],rfl,fun i y h=>by simp at h⟩
 |n+1,h=>by
  obtain⟨ys,h1,h2⟩:=EU n fun i hi=>h i (by omega)
  obtain⟨y,h3⟩:=h n (by omega);refine⟨ys++[y],by simp[h1],fun i z hz=> ?_⟩;by_cases hi:i<ys.length
  ·rw[aF hi]at hz;exact h2 i z hz
  ·rw[aI (by omega)]at hz
   have:i-ys.length=0:=by
    rcases aQ (i-ys.length)with e|e
    ·exact e
    ·rw[List.getElem?_eq_none (by simp;omega)]at hz;cases hz
   rw[this]at hz;injection hz with hz
   subst hz;have:i=n:=by omega
   subst this;exact h3
theorem KH {a:Addr}{c:Nat}{zs:List Value}(h:w.cells? base a c=some zs):zs.length=c∧∀j z,zs[j]?=some z→w.cell? (a.add j)=some z:=by
 unfold World.cells? at h;split at h
 ·have hl:=mapM_some_length h;rw[List.length_range]at hl;refine⟨hl,fun j z hz=> ?_⟩
  have hj:j<c:=by
   obtain⟨hj,_⟩:=List.getElem?_eq_some_iff.1 hz;omega
  have:=mapM_some_get h j j (by simp[hj]);rw[this,hz]
 ·cases h
theorem MT : ∀(l:List Sh),l≠[]→(∀s∈l,s.w=1)→(sO l).w=l.length
 |[a],_,h=>h a (by simp)
 |a::b::r,_,h=>by
  show a.w+(sO (b::r)).w=_;rw[h a (by simp),MT (b::r) (by simp) fun s hs=>h s (List.mem_cons_of_mem _ hs)];simp only[aN];omega
theorem FJ {α:Type}{n:Nat}{ty:α→TypeId}{off:α→Nat}(ih: ∀{t:TypeId} {l:List Sh},lI P n t=some l→∀s∈l,s.w=1): ∀(fs:List α) (o:Nat) (L:List Sh),yn P (lI P n) ty off fs o=some L→∀s∈L,s.w=1
 |[],o,L,h=>by
  injection h with h
  subst h;intro s hs;cases hs
 |f::fs,o,L,h=>by
  simp only[yn]at h;cases hb:aA (off f) o with
  |false=>rw[hb]at h;cases h
  |true=>
   rw[hb,zC]at h;cases hr:lI P n (ty f)with
   |none=>rw[hr]at h;cases h
   |some l=>
    rw[hr]at h;cases l with
    |nil=>cases h
    |cons s ss=>
     simp only at h;cases hc:aA (s::ss).length (P.cellsOf (ty f))with
     |false=>rw[hc]at h;cases h
     |true=>
      rw[hc,zC]at h;cases hf:yn P (lI P n) ty off fs (o+(s::ss).length)with
      |none=>rw[hf]at h;cases h
      |some L2=>
       rw[hf,aR]at h;injection h with h
       subst h;intro q hq;rcases List.mem_append.1 hq with hq|hq
       ·exact ih hr q hq
       ·exact FJ ih fs _ _ hf q hq
theorem FL : ∀(n:Nat) {t:TypeId} {l:List Sh},lI P n t=some l→∀s∈l,s.w=1
 |0,t,l,h=>by cases h
 |n+1,t,l,h=>by
  have one: ∀{a:Sh},a.w=1→some [a]=some l→∀s∈l,s.w=1:=by
   intro a ha e;injection e with e
   subst e;intro s hs;rw[List.mem_singleton]at hs;subst hs;exact ha
  simp only[lI]at h;split at h
  ·exact one rfl h
  ·exact one rfl h
  ·exact one rfl h
  ·split at h
   ·rename_i e hu x s ss hr;cases hc:aA (s::ss).length (P.cellsOf e)with
    |false=>rw[hc]at h;cases h
    |true=>rw[hc,zC]at h;exact one rfl h
   ·cases h
  ·split at h
   ·rename_i L hf;cases hc:aA L.length (P.cellsOf t)with
    |false=>rw[hc]at h;cases h
    |true=>
     rw[hc,zC]at h;injection h with h
     subst h;exact FJ (fun h=>FL n h) _ _ _ hf
   ·cases h
  ·split at h
   ·rename_i L hf;cases hc:aA L.length (P.cellsOf t)with
    |false=>rw[hc]at h;cases h
    |true=>
     rw[hc,zC]at h;injection h with h
     subst h;exact FJ (fun h=>FL n h) _ _ _ hf
   ·cases h
  ·cases h
theorem sR : ∀(n:Nat) {m:Nat} {t:TypeId} {l:List Sh} {cs:List Value} {x:DataW H×List MemPlace},lI P n t=some l→l≠[]→DataW.trod enc P w base (fun _=>true) held m t cs=some x→∃y,dF w (sO l) cs y
 |0,m,t,l,cs,x,h,_,_=>by cases h
 |n+1,m,t,l,cs,x,h,hne,hd=>by
  simp only[lI]at h;split at h
  ·rename_i k hu;injection h with h
   subst h;obtain⟨a,e1,_,e2⟩:=DataW.trod_int hu hd;exact⟨a,e1,e2⟩
  ·rename_i hu;injection h with h
   subst h;obtain⟨a,e1,_⟩:=DataW.trod_bool hu hd;exact⟨a,e1⟩
  ·rename_i hu;injection h with h
   subst h;obtain⟨a,e1,_,e2⟩:=DataW.trod_string hu hd;exact⟨_,a,e1,rfl,e2⟩
  ·rename_i e hu;split at h
   ·rename_i s ss hr;cases hc:aA (s::ss).length (P.cellsOf e)with
    |false=>rw[hc]at h;cases h
    |true=>
     rw[hc,zC]at h;injection h with h
     subst h;have hc:=aE hc;have hw:(sO (s::ss)).w=P.cellsOf e:=by rw[MT _ (by simp) (FL n hr),hc]
     rcases DataW.trod_slice hu hd with⟨e1,_⟩|⟨a,len,cap,elems,rest,m',_,e1,_,hb,hlc,hcm,hel,he,hrest⟩
     ·exact⟨([]:List (El (sO (s::ss)))), .inl ⟨e1,rfl⟩⟩
     ·have hall: ∀i,i<cap→∃y:El (sO (s::ss)),∃zs,(∀j z,zs[j]?=some z→w.cell? (a.add (i*(sO (s::ss)).w+j))=some z)∧dF w (sO (s::ss)) zs y:=by
       intro i hi
       have hsome: ∃q,(w.cells? base (a.add (i*P.cellsOf e)) (P.cellsOf e)).bind (DataW.trod enc P w base (fun _=>true) held m' e)=some q:=by
        by_cases hi2:i<len
        ·rw[he i hi2];exact⟨_,aD (by omega)⟩
        ·obtain⟨h8,h9⟩:=hrest.1 rfl;have:=h9 (i-len) (by omega);rw[show len+(i-len)=i by omega]at this;rw[this];exact⟨_,aD (by omega)⟩
       obtain⟨q,hq⟩:=hsome;obtain⟨zs,h1,h2⟩:=ah hq;obtain⟨y,h3⟩:=sR n hr (by simp) h2;obtain⟨h4,h5⟩:=KH h1;exact⟨y,zs,fun j z hz=>by rw[hw,←N3];exact h5 j z hz,h3⟩
      obtain⟨ys,h6,h7⟩:=EU cap hall;exact⟨ys.take len, .inr ⟨a,len,cap,ys,e1,hlc,hcm,h6,rfl,h7⟩⟩
   ·cases h
  ·rename_i fs hu;split at h
   ·rename_i L hf;cases hc:aA L.length (P.cellsOf t)with
    |false=>rw[hc]at h;cases h
    |true=>
     rw[hc,zC]at h;injection h with h
     subst h;have hc:=aE hc;obtain⟨xs,m',_,_,hl,hxl,hx⟩:=DataW.trod_struct hu hd
     have:=uS (cs:=cs) (fun h1 h2 h3=>sR n (m:=m') h1 h2 h3) fs.toList 0 _ hf hne fun i f hi=>by
      have hi':fs[i]?=some f:=by rw[←Array.getElem?_toList];exact hi
      have:=hx i f hi';rw[this]
      have:i<xs.length:=by
       obtain⟨h9,_⟩:=List.getElem?_eq_some_iff.1 hi;rw[hxl];simpa using h9
      exact⟨_,aD this⟩
     rw[aH,aP (by omega)]at this;exact this
   ·cases h
  ·rename_i k e hu;split at h
   ·rename_i L hf;cases hc:aA L.length (P.cellsOf t)with
    |false=>rw[hc]at h;cases h
    |true=>
     rw[hc,zC]at h;injection h with h
     subst h;have hc:=aE hc;obtain⟨xs,m',_,_,hl,hxl,hx⟩:=DataW.trod_array hu hd
     have:=uS (cs:=cs) (fun h1 h2 h3=>sR n (m:=m') h1 h2 h3) (List.range k) 0 _ hf hne fun i f hi=>by
      obtain⟨h9,h10⟩:=List.getElem?_eq_some_iff.1 hi;rw[List.getElem_range]at h10;subst h10;have h9:i<k:=by simpa using h9
      have:=hx i h9;rw[this];exact⟨_,aD (by omega)⟩
     rw[aH,aP (by omega)]at this;exact this
   ·cases h
  ·cases h
end
def isAgg (P:Program)(t:TypeId):Bool:=match P.underlying t with
 |some (.struct _)|some (.array _ _)=>true
 |_=>false
def Ag (w:World):(b:Bool)→(s:Sh)→Value→El s→Prop
 |true,s,v,x=> ∃cs,v= .agg cs∧dF w s cs.toList x
 |false,s,v,x=>dF w s [v] x
theorem M8 {H:Type}{enc:TypeId×Value→H}{P:Program}{w:World}{base:Nat}{held:Bool}{n:Nat}{t:TypeId}{l:List Sh}{r:Reach}{b0:Nat}{v:Value}{d:DataW H}{ps:List MemPlace}(hl:lI P n t=some l)(hne:l≠[])
  (hval:Value.okWide P w r b0 t v) (hd:DataW.Trod enc P w base (fun _=>true) held t v d ps): ∃x:El (sO l),Ag w (isAgg P t) (sO l) v x:=by
 obtain⟨fuel,hf⟩:=hd;obtain⟨x,hx⟩:=sR n hl hne hf;refine⟨x, ?_⟩
 have cell:isAgg P t=false→(∀cs,v≠ .agg cs)→Ag w (isAgg P t) (sO l) v x:=by
  intro h1 h2;rw[h1]
  have:v.cells.toList=[v]:=by
   unfold Value.cells;split
   ·rename_i cs;exact(h2 cs rfl).elim
   ·rfl
  rw[this]at hx;exact hx
 cases n with
 |zero=>cases hl
 |succ n=>
  simp only[lI]at hl;split at hl
  ·rename_i k hu;refine cell (by simp[isAgg,hu]) fun cs e=> ?_
   subst e;simp[Value.okWide,hu,Cell.okWide,Cell.ok]at hval
  ·rename_i hu;refine cell (by simp[isAgg,hu]) fun cs e=> ?_
   subst e;simp[Value.okWide,hu,Cell.okWide,Cell.ok]at hval
  ·rename_i hu;refine cell (by simp[isAgg,hu]) fun cs e=> ?_
   subst e;simp[Value.okWide,hu,Cell.okWide,Cell.ok]at hval
  ·rename_i e hu;refine cell (by simp[isAgg,hu]) fun cs e=> ?_
   subst e;simp[Value.okWide,hu,Cell.okWide,Cell.ok]at hval
  ·rename_i fs hu;simp only[Value.okWide,hu]at hval;obtain⟨cs,rfl,_,_⟩:=hval;rw[show isAgg P t=true by simp[isAgg,hu]];exact⟨cs,rfl,hx⟩
  ·rename_i k e hu;simp only[Value.okWide,hu]at hval;obtain⟨cs,rfl,_,_⟩:=hval;rw[show isAgg P t=true by simp[isAgg,hu]];exact⟨cs,rfl,hx⟩
  ·cases hl
@[reducible] def Rj :List (Bool×Sh)→Type
 |[]=>Unit
 |[k]=>El k.2
 |k::k'::r=>El k.2×Rj (k'::r)
def Fa (w:World):(ks:List (Bool×Sh))→List Value→Rj ks→Prop
 |[],vs,_=>vs=[]
 |[k],vs,x=> ∃v,vs=[v]∧Ag w k.1 k.2 v x
 |k::k'::r,vs,x=> ∃v us,vs=v::us∧Ag w k.1 k.2 v x.1∧Fa w (k'::r) us x.2
def Qk (k:Bool×Sh)(x:El k.2):VV:=cond k.1 (.agg (ce k.2 x)) ((ce k.2 x).headD .undef)
def LZ :(ks:List (Bool×Sh))→Rj ks→List VV
 |[],_=>[]
 |[k],x=>[Qk k x]
 |k::k'::r,x=>Qk k x.1::LZ (k'::r) x.2
theorem Eo {w:World}{k:Bool×Sh}{v:Value}{x:El k.2}(h:Ag w k.1 k.2 v x){rows:List Row}(hr:pn w rows): ∃more av,Built w rows more [av] [v] [Qk k x]:=by
 obtain⟨b,s⟩:=k;cases b with
 |true=>
  obtain⟨cs,rfl,h1⟩:=h;obtain⟨more,acs,h2⟩:=build s h1 hr;exact⟨more, .agg acs.toArray,h2.ok, .cons (.agg (by simpa using h2.vr)) .nil, .cons (.agg (by simpa using h2.vv)) .nil⟩
 |false=>
  obtain⟨more,acs,h2⟩:=build s h hr;have h3:=h2.vr;have h4:=h2.vv;cases h3 with
  | @cons a _ asw _ h5 h6=>
   cases h6;refine⟨more,a,h2.ok, .cons h5 .nil, ?_⟩;show F2 _ [(ce s x).headD .undef] _;generalize ce s x=l at*;cases h4 with
   |cons h7 h8=>
    cases h8;exact .cons h7 .nil
theorem Ch {w:World}: ∀(ks:List (Bool×Sh)) {vs:List Value} {x:Rj ks},Fa w ks vs x→∀{rows:List Row},pn w rows→∃more avs,Built w rows more avs vs (LZ ks x)
 |[],vs,x,h,rows,hr=>by
  have h:vs=[]:=h;subst h;exact⟨[],[], .nil hr⟩
 |[k],vs,x,⟨v,h,h1⟩,rows,hr=>by
  subst h;obtain⟨more,av,h2⟩:=Eo h1 hr;exact⟨more,[av],h2⟩
 |k::k'::r,vs,x,⟨v,us,h,h1,h2⟩,rows,hr=>by
  subst h;obtain⟨m1,av,h3⟩:=Eo h1 hr;obtain⟨m2,avs,h4⟩:=Ch (k'::r) h2 h3.ok;exact⟨m1++m2,av::avs,h3.app h4⟩
def TK (k:IntKind)(n:Int):Prop:=match k with
 | .i64=> -9223372036854775808≤n∧n≤9223372036854775807
 | .u64=>0≤n∧n≤18446744073709551615
 | .u8=>0≤n∧n≤255
 |_=>True
theorem Qx {k:IntKind}{n:Int}(h:(Lit.int k n).wf=true):TK k n:=by
 cases k<;>first|trivial|exact QZ h|exact Q0 h|exact RT h
def Iv :(s:Sh)→El s→Prop
 | .int k,n=>TK k n
 | .bool,_=>True
 | .str,l=>l.length≤9223372036854775807∧∀n∈l,0≤n∧n≤255
 | .list s,l=>l.length≤9223372036854775807∧∀x∈l,Iv s x
 | .pair a b,x=>Iv a x.1∧Iv b x.2
theorem dF.fine {w:World}: ∀{s:Sh} {cs:List Value} {x:El s},dF w s cs x→Iv s x
 | .int k,_,_,⟨_,h⟩=>Qx h
 | .bool,_,_,_=>trivial
 | .str,_,_,⟨s,_,h,hm⟩=>by
  subst h;refine⟨?_,fun n hn=> ?_⟩
  ·unfold ak;rw[List.length_map];unfold maxLen at hm;simpa using hm
  ·unfold ak at hn;obtain⟨b,_,rfl⟩:=List.mem_map.1 hn;have:=b.toNat_lt;omega
 | .list s,_,l,h=>by
  rcases h with⟨_,h⟩|⟨a,len,cap,ys,_,hlc,hcm,hyl,hl,hy⟩
  ·subst h;exact⟨Nat.zero_le _,fun x hx=>by cases hx⟩
  ·subst hl;refine⟨by rw[aO];unfold maxLen at hcm;omega,fun x hx=> ?_⟩;obtain⟨i,hi,rfl⟩:=List.getElem_of_mem (List.mem_of_mem_take hx);obtain⟨zs,_,h⟩:=hy i _ (aD hi);exact h.fine
 | .pair a b,_,_,⟨c1,c2,_,h1,h2⟩=>⟨h1.fine,h2.fine⟩
theorem Ag.fine {w:World}{b:Bool}{s:Sh}{v:Value}{x:El s}(h:Ag w b s v x):Iv s x:=by
 cases b with
 |true=>obtain⟨cs,_,h⟩:=h;exact h.fine
 |false=>exact dF.fine h
theorem MB {P:Program}{f:FuncId}{vals:List Sk}{run:pQ (iX.shs ⟨vals,[],[]⟩)→Option (mV xj)}(h:cd P ⟨f,vals,[],xj,run⟩){w:World}(hT:GB P w){cargs:Array Value}(ks:List (Bool×Sh))(x:Rj ks)(t:pQ (iX.shs ⟨vals,[],[]⟩))
  (hA:Fa w ks cargs.toList x) (hd:((fT [] 0 [] ⟨vals,[],[]⟩ (LZ ks x)).bind fun st=>Gn _ st.ls)=some t) (hr:run t=some true):
  Calls P f cargs w fun e w'=>e= .returned (.bool true)∧Go.RowKit.Below w.heap.size w w':=by
 obtain⟨rows,avs,h1⟩:=Ch ks hA (rows:=[]) (fun r hr=>by cases hr);exact KZ h hT t h1.ok h1.vr h1.vv hd hr
end
end Go.V
