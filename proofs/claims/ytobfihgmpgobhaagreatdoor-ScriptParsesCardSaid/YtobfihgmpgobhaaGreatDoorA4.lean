/- A part of the proofs of this claim: what functions of the program answer on an abstract machine, and plain laws. No condition. -/
import Derived.Test.YtobfihgmpgobhaaGreatDoorA3
set_option linter.unusedVariables false
set_option linter.unusedSimpArgs false
set_option linter.unusedSectionVars false
namespace Go.V
open Go.Ab
section
open Nat renaming lt_of_lt_of_le → aA
theorem BD.frame {c c':Ctx}(hl:Le c c'){k:Nat}(h:BD c k)(hS:aa c'.S k=aa c.S k)(hμ:(aa c.S k).dim≠none→c'.μ k=c.μ k)(hσ: ∀b y,(aa c.S k).dim≠none→c.μ k=some b→c.σ.m b=some y→c'.σ.m b=some y):BD c' k:=by
 intro d hd;rw[hS]at hd;obtain⟨h1,h2⟩:=h d hd;have hm:=hμ (by rw[hd];simp);refine⟨h1, ?_⟩;rcases h2 with⟨h3,h4⟩|⟨b,y,cs,rest,h3,h4,h5,h6,h7,h8⟩
 ·exact .inl ⟨h3,hm.trans h4⟩
 ·exact .inr ⟨b,y,cs,rest,hm.trans h3,hσ b y (by rw[hd];simp) h3 h4,h5,by rw[hS];exact h6,h7,by rw[hS];exact VRel.frames hl h8⟩
def i1 (S S':ae):Prop:=S'.length=S.length∧∀k,aa S' k=aa S k∨aa S' k=(aa S k).freeze
theorem i1.refl (S:ae):i1 S S:=⟨rfl,fun _=> .inl rfl⟩
theorem Ec {b:Blk}:b.freeze.freeze=b.freeze:=by cases b<;>rfl
theorem i1.trans {a b c:ae}(h:i1 a b)(k:i1 b c):i1 a c:=by
 refine⟨k.1.trans h.1,fun i=> ?_⟩;rcases h.2 i with h1|h1<;>rcases k.2 i with h2|h2
 ·exact .inl (h2.trans h1)
 ·exact .inr (by rw[h2,h1])
 ·exact .inr (h2.trans h1)
 ·exact .inr (by rw[h2,h1,Ec])
theorem i1.put {S:ae}{k:Nat}:i1 S (dQ S k (aa S k).freeze):=by
 refine⟨vh,fun i=> ?_⟩;rw[oT];split
 ·rename_i h;rw[h.1];exact .inr rfl
 ·exact .inl rfl
theorem i1.fold {f:ae→VV→ae}(hf: ∀S v,i1 S (f S v)): ∀(l:List VV) (S:ae),i1 S (l.foldl f S)
 |[],S=>i1.refl S
 |v::l,S=>(hf S v).trans (i1.fold hf l _)
theorem JX : ∀(n:Nat) (S:ae) (v:VV),i1 S (Rp n S v)
 |0,S,_=>i1.refl S
 |n+1,S,v=>by
  have key: ∀k,i1 S (match aa S k with
    | .cells es _ l=>l.foldl (Rp n) (dQ S k (.cells es true l))
    |b=>dQ S k b.freeze):=by
   intro k;have hp:=i1.put (S:=S) (k:=k);split
   ·rename_i es z l h;rw[h]at hp;exact i1.trans hp (i1.fold (JX n) l _)
   ·exact hp
  unfold Rp;split
  ·exact key _
  ·exact key _
  ·exact i1.refl S
theorem vE (S:ae)(l:List VV):i1 S (xz S l):=i1.fold (JX 3) l S
theorem Hc (S:ae)(v:VV):i1 S (Ov S v):=by
 unfold Ov;split
 ·split
  ·exact vE S _
  ·exact i1.refl S
 ·split
  ·exact vE S _
  ·exact i1.refl S
 ·exact i1.refl S
theorem KS (k:Sk)(v:VV)(S:ae):i1 S (Mn k v S):=by
 unfold Mn;split
 ·exact Hc S v
 ·exact i1.refl S
theorem Cz : ∀(l:List Sk) (vs:List VV) (S:ae),i1 S (uK l vs S)
 |[],_,S=>i1.refl S
 |_::_,[],S=>i1.refl S
 |k::r,v::vs,S=>(KS k v S).trans (Cz r vs _)
theorem Mm {S S':ae}(b:Bool)(h:i1 S S'):i1 S (cond b S' S):=by
 cases b
 ·exact i1.refl S
 ·exact h
theorem Hb (N:Nat)(free:List OSk): ∀(l:List Sk) (vs:List VV) (S:ae),i1 S (Ou N free l vs S)
 |[],_,S=>i1.refl S
 |_::_,[],S=>i1.refl S
 |k::r,v::vs,S=>by
  refine i1.trans ?_ (Hb N free r vs _);split
  ·split
   ·exact Mm _ (Hc S v)
   ·exact i1.refl S
  ·exact i1.refl S
theorem lT : ∀(l:List Nat) (S:ae),i1 S (tu l S)
 |[],S=>i1.refl S
 |_::l,S=>i1.put.trans (lT l _)
theorem i1.dim {S S':ae}(h:i1 S S')(k:Nat):(aa S' k).dim=(aa S k).dim:=by
 rcases h.2 k with h|h<;>rw[h]
 exact cD
theorem i1.vals {S S':ae}(h:i1 S S')(k:Nat):(aa S' k).vals=(aa S k).vals:=by
 rcases h.2 k with h|h<;>rw[h]
 exact AS
theorem i1.fz {S S':ae}(h:i1 S S'){k:Nat}(hz:(aa S' k).frozen=false):aa S' k=aa S k:=by
 rcases h.2 k with h|h
 ·exact h
 ·rw[h,ew]at hz;cases hz
theorem i1.le {c:Ctx}{S':ae}(h:i1 c.S S'):Le c ⟨c.μ,S',c.σ,c.fb⟩:=by
 refine⟨Nat.le_of_eq h.1.symm,fun k d _ hd=>⟨(h.dim k)▸hd,rfl⟩,fun k hk _=> ?_,fun _ _ _ y _ _ _ hy=>⟨y,hy,rfl⟩,fun b y hy _=>hy,fun b y hy hn=> ?_,Nat.le_refl _,rfl⟩
 ·rcases h.2 k with h|h
  ·exact h
  ·exact h.trans (rr hk)
 ·rintro⟨k,h1,h2⟩;exact hn ⟨k,by rw[←h.fz h1];exact h1,h2⟩
theorem i1.rel {c:Ctx}(hR:Rel c){S':ae}(h:i1 c.S S'):Rel ⟨c.μ,S',c.σ,c.fb⟩:=by
 refine⟨hR.ok,fun k k' b hk hk' hm hm'=>hR.inj k k' b (by rw[←h.fz hk];exact hk) (by rw[←h.dim];exact hk') hm hm',fun k d hd=> ?_,fun k b hk hm=>hR.fbk k b (by rw[←h.dim];exact hk) hm,hR.fbl⟩;have hd':(aa c.S k).dim=some d:=(h.dim k)▸hd;obtain⟨h1,h2⟩:=hR.blk k d hd';refine⟨h1, ?_⟩;rcases h2 with h2|⟨b,y,cs,rest,h3,h4,h5,h6,h7,h8⟩
 ·exact .inl h2
 ·exact .inr ⟨b,y,cs,rest,h3,h4,h5,fun hz=>h6 (by rw[←h.fz hz];exact hz),h7,by rw[h.vals k];exact VRel.frames h.le h8⟩
theorem i1.calm {c:Ctx}{S':ae}(d:List Nat)(h:i1 c.S S'):lx d c ⟨c.μ,S',c.σ,c.fb⟩:=fun k _ _ hk=>⟨by rw[h.dim];exact hk,fun _ _=>rfl⟩
theorem lx.trans {a b c:Ctx}{d:List Nat}(h:lx d a b)(k:lx d b c)(hl:Le a b):lx d a c:=by
 intro i hi hd hn;obtain⟨h1,h2⟩:=h i hi hd hn;obtain⟨h3,h4⟩:=k i (aA hi hl.len) hd h1;refine⟨h3,fun x hx=> ?_⟩
 have hx':b.μ i=some x:=by
  cases hb:(aa b.S i).dim with
  |none=>exact(h1 hb).elim
  |some z=>exact(hl.al i z hi hb).2.trans hx
 exact(h4 x hx').trans (h2 x hx)
def JL (c:Ctx)(kill:Option Nat)(b:Nat):Prop:= ∃k,kill=some k∧c.μ k=some b
def lj (c:Ctx)(b1:Option Nat):Nat→Option Nat:=fun i=>if i=c.S.length then b1 else c.μ i
theorem oQ {S:ae}{kill:Option Nat}:(gY S kill).length=S.length:=by cases kill<;>simp[gY,vh]
theorem KY {S:ae}{kill:Option Nat}{i:Nat}:aa (gY S kill) i=if kill=some i then .dead else aa S i:=by
 cases kill with
 |none=>simp[gY]
 |some k=>
  simp only[gY,oT,Option.some.injEq];by_cases h:i=k
  ·subst h;by_cases h1:i<S.length
   ·simp[h1]
   ·simp[h1,nn (Nat.le_of_not_lt h1)]
  ·simp[h,Ne.symm h]
structure Moves (c:Ctx)(kill:Option Nat)(b1:Option Nat)(blk:Blk)(σ':Hp):Prop where
 fr: ∀b,b1=some b→(∀z,c.σ.m b≠some z)→¬c.fb b
 kz: ∀k,kill=some k→(aa c.S k).frozen=false
 ok:σ'.Ok
 n:c.σ.n≤σ'.n
 old: ∀i y,c.σ.m i=some y→¬JL c kill i→σ'.m i=some y
 one: ∃d,blk.dim=some d∧1≤d.1∧((b1=none∧d.2=0)∨∃b y cs rest,b1=some b∧σ'.m b=some y∧y.es=d.1∧(blk.frozen=false→y.own=true)∧y.cells=cs++rest∧F2 (VRel c) blk.vals cs∧((∀z,c.σ.m b≠some z)∨JL c kill b))
section
variable {c:Ctx} {kill b1:Option Nat} {blk:Blk} {σ':Hp}
theorem ez (i:Nat):aa (gY c.S kill++[blk]) i=if i=c.S.length then blk else if kill=some i then .dead else aa c.S i:=by
 by_cases h:i=c.S.length
 ·subst h;rw[zE rfl,←oQ (S:=c.S) (kill:=kill),H6]
 ·rw[zF h];by_cases h1:i<c.S.length
  ·rw[fX (by rw[oQ];exact h1),KY]
  ·have h2:c.S.length<i:=by omega
   rw[nn (by rw[List.length_append,oQ];simp;omega),nn (k:=i) (S:=c.S) (by omega)];split<;>rfl
theorem Moves.low (hR:Rel c)(h:Moves c kill b1 blk σ'){i b:Nat}(_:i≠c.S.length)(hk:kill≠some i)(hd:(aa c.S i).dim≠none)(hm:c.μ i=some b): ¬JL c kill b:=by
 rintro⟨k,rfl,h1⟩;exact hk (congrArg some (hR.inj k i b (h.kz k rfl) hd h1 hm))
theorem Moves.le (hR:Rel c)(h:Moves c kill b1 blk σ'):Le c ⟨lj c b1,gY c.S kill++[blk],σ',c.fb⟩:=by
 have hlt: ∀k,k<c.S.length→k≠c.S.length:=fun k hk=>by omega
 refine⟨by simp[oQ],fun k d hk hd=> ?_,fun k hz hd=> ?_,fun k d b y hk hd hm hy=> ?_,fun b y hy hn=>h.old b y hy fun⟨k,e,hm⟩=>hn ⟨k,h.kz k e,hm⟩,fun b y hy hn=> ?_,h.n,rfl⟩
 ·simp only[ez,zF (hlt k hk)]at hd;split at hd
  ·cases hd
  ·exact⟨hd,zF (hlt k hk)⟩
 ·have hk:=eS hd;simp only[ez,zF (hlt k hk)];rw[zF];intro e;have:=h.kz k e;rw[hz]at this;cases this
 ·simp only[ez,zF (hlt k hk)]at hd;split at hd
  ·cases hd
  ·rename_i hne;exact⟨y,h.old b y hy (h.low hR (hlt k hk) hne (by rw[hd];simp) hm),rfl⟩
 ·have hnk: ¬JL c kill b:=fun⟨k,e,hm⟩=>hn ⟨k,h.kz k e,hm⟩
  rintro⟨k,h1,h2⟩;simp only[ez]at h1;simp only[lj]at h2;by_cases hk:k=c.S.length
  ·rw[zE hk]at h1 h2;obtain⟨d,_,_,h3⟩:=h.one;rcases h3 with⟨h3,_⟩|⟨b',y',cs,rest,h3,_,_,_,_,_,h4⟩
   ·rw[h3]at h2;cases h2
   ·rw[h3]at h2;injection h2 with h2
    subst h2;rcases h4 with h4|h4
    ·exact h4 y hy
    ·exact hnk h4
  ·rw[zF hk]at h1 h2;split at h1
   ·cases h1
   ·exact hn ⟨k,h1,h2⟩
theorem Moves.rel (hR:Rel c)(h:Moves c kill b1 blk σ'):Rel ⟨lj c b1,gY c.S kill++[blk],σ',c.fb⟩:=by
 have hle:=h.le hR
 have hnew: ∀i b,i≠c.S.length→kill≠some i→(aa c.S i).dim≠none→c.μ i=some b→b1≠some b:=by
  intro i b hi hk hd hm e;obtain⟨d,_,_,h3⟩:=h.one;rcases h3 with⟨h3,_⟩|⟨b',y',cs,rest,h3,_,_,_,_,_,h4⟩
  ·rw[h3]at e;cases e
  ·rw[h3]at e;injection e with e
   subst e;rcases h4 with h4|h4
   ·cases hdd:(aa c.S i).dim with
    |none=>exact hd hdd
    |some dd=>
     obtain⟨y,_,_,hy,_⟩:=hR.block hdd hm;exact h4 y hy
   ·exact h.low hR hi hk hd hm h4
 have hfb: ∀b,c.fb b→b1≠some b:=by
  intro b hb e;obtain⟨d,_,_,h3⟩:=h.one;rcases h3 with⟨h3,_⟩|⟨b',y',cs,rest,h3,_,_,_,_,_,h4⟩
  ·rw[h3]at e;cases e
  ·rw[h3]at e;injection e with e
   subst e;rcases h4 with h4|⟨k,h4,h5⟩
   ·exact h.fr _ h3 h4 hb
   ·exact hR.fbk k _ (fE (h.kz k h4)) h5 hb
 refine⟨h.ok,fun k k' b hk hk' hm hm'=> ?_,fun k=> ?_,fun k b hk hm hb=> ?_,fun b hb=>aA (hR.fbl b hb) h.n⟩
 rotate_left 2
 ·simp only[ez]at hk;simp only[lj]at hm;by_cases h1:k=c.S.length
  ·rw[zE h1]at hm;exact hfb b hb hm
  ·rw[zF h1]at hm hk;split at hk
   ·exact hk rfl
   ·exact hR.fbk k b hk hm hb
 ·simp only[ez]at hk hk';simp only[lj]at hm hm';by_cases h1:k=c.S.length<;>by_cases h2:k'=c.S.length
  ·omega
  ·rw[zE h1]at hm;rw[zF h2]at hm' hk';split at hk'
   ·exact(hk' rfl).elim
   ·rename_i hne;exact(hnew k' b h2 hne hk' hm' hm).elim
  ·rw[zF h1]at hm hk;rw[zE h2]at hm';split at hk
   ·cases hk
   ·rename_i hne;exact(hnew k b h1 hne (fE hk) hm hm').elim
  ·rw[zF h1]at hm hk;rw[zF h2]at hm' hk';split at hk
   ·cases hk
   ·split at hk'
    ·exact(hk' rfl).elim
    ·exact hR.inj k k' b hk hk' hm hm'
 ·by_cases hk:k=c.S.length
  ·subst hk;intro d hd;simp only[ez,if_true]at hd⊢;obtain⟨d',h1,h2,h3⟩:=h.one;rw[hd]at h1;injection h1 with h1
   subst h1;refine⟨h2, ?_⟩;simp only[lj,if_true];rcases h3 with⟨h3,h4⟩|⟨b',y',cs,rest,h3,h4,h5,h6,h7,h8,_⟩
   ·exact .inl ⟨h4,h3⟩
   ·exact .inr ⟨b',y',cs,rest,h3,h4,h5,h6,h7,VRel.frames hle h8⟩
  ·by_cases hne:kill=some k
   ·intro d hd;simp only[ez,zF hk,zE hne]at hd;cases hd
   ·refine(hR.blk k).frame hle ?_ (fun _=>zF hk) fun b y hd hm hy=> ?_
    ·simp only[ez,zF hk,zF hne]
    ·exact h.old b y hy (h.low hR hk hne hd hm)
theorem Moves.calm (hR:Rel c)(h:Moves c kill b1 blk σ'){d:List Nat}(hd: ∀k,kill=some k→k∈d):lx d c ⟨lj c b1,gY c.S kill++[blk],σ',c.fb⟩:=by
 intro k hk hn hdim;have h1:k≠c.S.length:=by omega
 have h2:kill≠some k:=fun e=>hn (hd k e)
 simp only[ez,zF h1,zF h2];refine⟨hdim,fun b hm=> ?_⟩;cases hdd:(aa c.S k).dim with
 |none=>exact(hdim hdd).elim
 |some dd=>
  obtain⟨y,_,_,hy,_⟩:=hR.block hdd hm;rw[hy];exact h.old b y hy (h.low hR h1 h2 hdim hm)
end
theorem Fw {c:Ctx}(hR:Rel c){blk:Blk}{x:Ab.Blk}{d:Nat×Nat}(hd:blk.dim=some d)(h1:1≤d.1)(he:x.es=d.1)(ho:x.own=true)(hf:F2 (VRel c) blk.vals x.cells):
  Moves c none (some c.σ.n) blk (c.σ.add x):=by
 refine⟨(fun b h _ hb=>by injection h with h;subst h;exact Nat.lt_irrefl _ (hR.fbl _ hb)),(fun _ h=>by cases h),fun b y hy=> ?_,Nat.le_succ _,fun i y hy _=> ?_,d,hd,h1, .inr ⟨c.σ.n,x,x.cells,[],rfl,zE rfl,he,fun _=>ho,by simp,hf, .inl fun z hz=> ?_⟩⟩
 ·simp only[Hp.add]at hy⊢;split at hy
  ·omega
  ·have:=hR.ok b y hy;omega
 ·have:=hR.ok i y hy;simp only[Hp.add];rw[zF (by omega)];exact hy
 ·have:=hR.ok _ _ hz;omega
structure Writes (c:Ctx)(k b:Nat)(blk:Blk)(y':Ab.Blk):Prop where
 kz:(aa c.S k).frozen=false
 mu:c.μ k=some b
 dim:blk.dim=(aa c.S k).dim
 fz:blk.frozen=false
 one: ∃y cs rest d,c.σ.m b=some y∧(aa c.S k).dim=some d∧y'.es=d.1∧y'.own=true∧y'.cells.length=y.cells.length∧y'.cells=cs++rest∧F2 (VRel c) blk.vals cs
section
variable {c:Ctx} {k b:Nat} {blk:Blk} {y':Ab.Blk}
theorem Writes.get (h:Writes c k b blk y')(i:Nat):aa (dQ c.S k blk) i=if i=k then blk else aa c.S i:=by
 rw[oT];have:=eS (fE h.kz);by_cases hi:i=k
 ·rw[zE ⟨hi,this⟩,zE hi]
 ·rw[zF (fun e=>hi e.1),zF hi]
theorem Writes.low (hR:Rel c)(h:Writes c k b blk y'){i b':Nat}(hi:i≠k)(hd:(aa c.S i).dim≠none)(hm:c.μ i=some b'):b'≠b:=by
 rintro rfl;exact hi (hR.inj k i b' h.kz hd h.mu hm).symm
theorem Writes.le (hR:Rel c)(h:Writes c k b blk y'):Le c ⟨c.μ,dQ c.S k blk,c.σ.set b (some y'),c.fb⟩:=by
 refine⟨by simp[vh],fun i d _ hd=> ?_,fun i hz hd=> ?_,fun i d x y _ hd hm hy=> ?_,fun x y hy hn=> ?_,fun x y hy hn=> ?_,Nat.le_refl _,rfl⟩
 ·simp only[h.get]at hd;split at hd
  ·rename_i e;subst e;exact⟨h.dim▸hd,rfl⟩
  ·exact⟨hd,rfl⟩
 ·simp only[h.get];rw[zF];rintro rfl;rw[h.kz]at hz;cases hz
 ·by_cases e:x=b
  ·subst e;obtain⟨y0,_,_,_,h1,_,_,_,h2,_⟩:=h.one;rw[hy]at h1;injection h1 with h1
   subst h1;exact⟨y',by simp[Hp.set],h2⟩
  ·exact⟨y,by simp[Hp.set,e,hy],rfl⟩
 ·have hne:x≠b:=by rintro rfl;exact hn ⟨k,h.kz,h.mu⟩
  simp[Hp.set,hne,hy]
 ·rintro⟨i,h1,h2⟩;simp only[h.get]at h1;split at h1
  ·rename_i e;subst e;exact hn ⟨i,h.kz,h2⟩
  ·exact hn ⟨i,h1,h2⟩
theorem Writes.rel (hR:Rel c)(h:Writes c k b blk y'):Rel ⟨c.μ,dQ c.S k blk,c.σ.set b (some y'),c.fb⟩:=by
 have hle:=h.le hR
 have hfz: ∀i,(aa (dQ c.S k blk) i).frozen=false→(aa c.S i).frozen=false:=by
  intro i hi;rw[h.get]at hi;split at hi
  ·rename_i e;subst e;exact h.kz
  ·exact hi
 have hdm: ∀i,(aa (dQ c.S k blk) i).dim=(aa c.S i).dim:=by
  intro i;rw[h.get];split
  ·rename_i e;subst e;exact h.dim
  ·rfl
 refine⟨fun x z hz=> ?_,fun i j x hi hj hm hm'=>hR.inj i j x (hfz i hi) (by rw[←hdm];exact hj) hm hm',fun i=> ?_,fun i x hi hm=>hR.fbk i x (by rw[←hdm];exact hi) hm,hR.fbl⟩
 ·simp only[Hp.set]at hz;split at hz
  ·rename_i e;subst e;obtain⟨y,_,_,_,h1,_⟩:=h.one;exact hR.ok _ _ h1
  ·exact hR.ok _ _ hz
 ·by_cases e:i=k
  ·subst e;intro d hd;obtain⟨y,cs,rest,d',h1,h2,h3,h4,h5,h6,h7⟩:=h.one;have hd':(aa c.S i).dim=some d:=by rw[←hdm];exact hd
   rw[hd']at h2;injection h2 with h2
   subst h2;refine⟨(hR.blk i d hd').1, .inr ⟨b,y',cs,rest,h.mu,by simp[Hp.set],h3,fun _=>h4,h6, ?_⟩⟩;simp only[h.get,if_true];exact VRel.frames hle h7
  ·refine(hR.blk i).frame hle (by simp only[h.get,zF e]) (fun _=>rfl) fun x z hd hm hz=> ?_
   have:=h.low hR e hd hm;simp[Hp.set,this,hz]
theorem Writes.calm (hR:Rel c)(h:Writes c k b blk y'){d:List Nat}(hd:k∈d):lx d c ⟨c.μ,dQ c.S k blk,c.σ.set b (some y'),c.fb⟩:=by
 intro i _ hn hdim;have hne:i≠k:=by rintro rfl;exact hn hd
 simp only[h.get,zF hne];refine⟨hdim,fun x hm=> ?_⟩;have:=h.low hR hne hdim hm;simp[Hp.set,this]
end
end
section
open Bool renaming and_eq_true → aA
open List renaming replicate → aD, nil_append → aH, append_assoc → aJ, drop_append → aK, drop_of_length_le → aL, length_append → aM, length_cons → aN, length_take → aO, replicate_succ → aP, take_append_drop → aQ
open Nat renaming beq → aB, le_of_ble_eq_true → aC, eq_of_beq_eq_true → aE, ble → aF, le_refl → aG, zero_add → aI
section
variable {β:Type} {T:dn} {c:Ctx} {e:bu} {ea:br} {k:VV→ae→Option β} {y:β} {d:List Nat}
theorem VRel.bool_inv {b:Bool}{a:Value}(h:VRel c (.bool b) a):a= .bool b:=by cases h;rfl
theorem VRel.int_inv {kd:IntKind}{n:Int}{a:Value}(h:VRel c (.int kd n) a):a= .int kd n:=by cases h;rfl
theorem VRel.str_inv {l:List Int}{a:Value}(h:VRel c (.str l) a): ∃s,a= .string s∧ak s=l:=by cases h;exact⟨_,rfl,by assumption⟩
theorem VRel.agg_inv {l:List VV}{a:Value}(h:VRel c (.agg l) a): ∃as:Array Value,a= .agg as∧F2 (VRel c) l as.toList:=by cases h;exact⟨_,rfl,by assumption⟩
theorem VRel.tup_inv {l:List VV}{a:Value}(h:VRel c (.tup l) a): ∃as:Array Value,a= .tuple as∧F2 (VRel c) l as.toList:=by cases h;exact⟨_,rfl,by assumption⟩
theorem H4 {p:Bool}{x z v:VV}{xa za:Value}(h:Nq p x z=some v)(hx:VRel c x xa)(hz:VRel c z za):VRel c v (cond p xa za):=by
 unfold Nq at h;split at h
 ·rename_i k1 n1 k2 n2;cases hk:decide (k1=k2)with
  |false=>rw[hk]at h;cases h
  |true=>
   rw[hk]at h;injection h with h
   subst h;have:=of_decide_eq_true hk;subst this;rw[hx.int_inv,hz.int_inv];cases p<;>exact .int _ _
 ·injection h with h
  subst h;rw[hx.bool_inv,hz.bool_inv];cases p<;>exact .bool _
 ·injection h with h
  subst h;cases p<;>assumption
 ·cases h
theorem OP (hR:Rel c)(he:an c e ea){x:Operand}(h:k (ev e x) c.S=some y):bj T (.move x) ea c.σ (cK c d k y):=
 bl rfl (cK.same hR (bg he x) h)
theorem Pf (hR:Rel c)(he:an c e ea){t a b:Operand}{p:Bool}(hp:ev e t= .bool p)(h:Na p (ev e a) (ev e b) c.S k=some y):bj T (.pick t a b) ea c.σ (cK c d k y):=by
 have ht:=bg he t;rw[hp]at ht;have ht:=ht.bool_inv
 have key: ∀v,VRel c v (cond p (ea.ev a) (ea.ev b))→k v c.S=some y→bj T (.pick t a b) ea c.σ (cK c d k y):=by
  intro v hv hk;refine bl (v:=cond p (ea.ev a) (ea.ev b)) (σ':=c.σ) ?_ (cK.same hR hv hk);simp only[AOp.run,ht];cases p<;>rfl
 unfold Na at h;split at h
 ·rename_i v hs;exact key v (H4 hs (bg he a) (bg he b)) h
 ·cases p with
  |true=>exact key _ (bg he a) h
  |false=>exact key _ (bg he b) h
theorem cK.new {v:Value}{vv:VV}{b1:Option Nat}{blk:Blk}{σ':Hp}{kill:Option Nat}(hR:Rel c)(h:Moves c kill b1 blk σ')(hd: ∀q,kill=some q→q∈d)(hv:VRel ⟨lj c b1,gY c.S kill++[blk],σ',c.fb⟩ vv v)(hk:k vv (gY c.S kill++[blk])=some y):cK c d k y v σ':=
 ⟨vv,_,rfl,h.le hR,h.rel hR,h.calm hR hd,hv,hk⟩
theorem Kc {blk:Blk}{x:Ab.Blk}{dm:Nat×Nat}(_:blk.dim=some dm):VRel ⟨lj c (some c.σ.n),gY c.S none++[blk],c.σ.add x,c.fb⟩ (.ptr c.S.length 0) (.pointer (some ⟨c.σ.n,0,none⟩)):=by
 refine .ptr (by simp[gY]) rfl fun d' _=>⟨c.σ.n, ?_,rfl⟩
 simp[lj]
theorem NN : ∀{z:List Value},z.all Qz=true→z=aD z.length (.int .u8 0)
 |[],_=>rfl
 |v::z,h=>by
  rw[List.all_cons,aA]at h
  have h1:v= .int .u8 0:=by
   have h0:=h.1;unfold Qz at h0;split at h0
   ·rw[of_decide_eq_true h0]
   ·cases h0
  rw[aN,aP,←NN h.2,h1]
theorem ov (es:Nat)(z:List Value):(uD es z).dim=some (es,z.length)∧(uD es z).frozen=false∧∀c:Ctx,F2 (VRel c) (uD es z).vals z:=by
 unfold uD;cases hb:II es z with
 |false=>
  rw[zD];exact⟨by simp[Blk.dim],rfl,fun c=>vP c z⟩
 |true=>
  rw[zC];unfold II at hb;rw[aA,aA]at hb;have he:=aE hb.1.1;subst he;refine⟨by simp[Blk.dim,Sh.w],rfl,fun c=> ?_⟩;have hz:=NN hb.2
  have key: ∀n,F2 (VRel c) (cv (.int .u8) (aD n (0:Int))) (aD n (.int .u8 0)):=by
   intro n;induction n with
   |zero=>exact .nil
   |succ n ih=>exact .cons (.int _ _) ih
  have h1:=key z.length;rw[←hz]at h1;exact h1
theorem LV (hR:Rel c){es:Nat}{z:List Value}(h:gd (aF 1 es) (k (.ptr c.S.length 0) (c.S++[uD es z]))=some y):bj T (.alloc es z) ea c.σ (cK c d k y):=by
 obtain⟨h1,h2⟩:=ai h;obtain⟨h3,h4,h5⟩:=ov es z;exact bl rfl (cK.new (kill:=none) hR (Fw hR (blk:=uD es z) (x:=⟨z,true,es⟩) (d:=(es,z.length)) h3 (aC h1) rfl rfl (h5 c)) (fun _ h=>by cases h) (Kc (dm:=(es,z.length)) h3) h2)
theorem Qp (hR:Rel c)(he:an c e ea){es:Nat}{x:Operand}(h:gd (aF 1 es&&gO (fS (ev e x))) (k (.ptr c.S.length 0) (c.S++[.cells es false (fS (ev e x))]))=some y):bj T (.box es x) ea c.σ (cK c d k y):=by
 obtain⟨h1,h2⟩:=ai h;rw[aA]at h1;have hf:=zc (bg he x) h1.2;refine bl (by simp only[AOp.run];rw[zE (eF hf h1.2)]) (cK.new (kill:=none) hR (Fw hR (blk:= .cells es false (fS (ev e x))) (x:=⟨cellsOf (ea.ev x),true,es⟩) (d:=(es,(fS (ev e x)).length)) rfl (aC h1.1) rfl rfl hf) (fun _ h=>by cases h) (Kc (dm:=(es,_)) rfl) h2)
theorem oD (he:an c e ea): ∀(ps:List (Nat×Nat×Operand)) {cs r:List VV} {as:List Value},Az cs (qK e ps)=some r→F2 (VRel c) cs as→∃ra,uI as (ps.map fun(o,s,x)=>(o,s,ea.ev x))=some ra∧F2 (VRel c) r ra
 |[],cs,r,as,h,hf=>by
  injection h with h
  subst h;exact⟨as,rfl,hf⟩
 |(o,s,x)::ps,cs,r,as,h,hf=>by
  simp only[qK,List.map_cons,Az]at h;cases hb:(aB (fS (ev e x)).length s&&aF (o+s) cs.length&&(fS (ev e x)).all Pc)with
  |false=>rw[hb]at h;cases h
  |true=>
   rw[hb,zC]at h;rw[aA,aA]at hb;have h1:=aE hb.1.1;have h2:=aC hb.1.2;have hx:=zc (bg he x) hb.2;have h3:(cellsOf (ea.ev x)).length=s:=by rw[←hx.length];exact h1
   have h4:as.length=cs.length:=hf.length.symm;obtain⟨ra,h5,h6⟩:=oD he ps h (((hf.take o).append hx).append (hf.drop (o+s)));refine⟨ra, ?_,h6⟩;simp only[List.map_cons,uI];rw[zE ⟨h3,by omega⟩];exact h5
theorem L6 (hR:Rel c)(he:an c e ea){z:List Value}{ps:List (Nat×Nat×Operand)}{cs:List VV}(hf:Az (z.map Bh) (qK e ps)=some cs)(h:k (.agg cs) c.S=some y):bj T (.build z ps) ea c.σ (cK c d k y):=by
 obtain⟨ra,h1,h2⟩:=oD he ps hf (vP c z);exact bl (by simp only[AOp.run,h1];rfl) (cK.same hR (.agg (by simpa using h2)) h)
theorem ni {blk:Blk}{dm:Nat×Nat}{n m:Nat}{b:Nat}{yb:Ab.Blk}{σ':Hp}{kill:Option Nat}(hd:blk.dim=some dm)(hn:n*dm.1=dm.2)(hm:n≤m)(hy:σ'.m b=some yb)(hl:m*dm.1≤yb.cells.length):
  VRel ⟨lj c (some b),gY c.S kill++[blk],σ',c.fb⟩ (.full c.S.length) (.slice (some ⟨b,0,none⟩) n m):=by
 refine .full (by simp[oQ]) rfl fun d' hd'=> ?_
 simp only[ez,if_true]at hd';rw[hd]at hd';injection hd' with hd'
 subst hd';exact⟨n,hn, .inr ⟨b,m,yb,by simp,by simp[lj],by rw[aI,hn];exact aG _,hm,hy,by rw[aI];exact hl⟩⟩
theorem Aa : ∀(n:Nat) (z:List Value),F2 (VRel c) ((aD n (z.map Bh)).flatten) (co z n)
 |0,_=> .nil
 |n+1,z=>by
  simp only[co,aP,List.flatten_cons];exact(vP c z).append (Aa n z)
theorem D5 (hR:Rel c)(he:an c e ea){es ln:Nat}{z:List Value}{ps:List (Nat×Nat×Operand)}{cs:List VV}(hf:Az ((aD ln (z.map Bh)).flatten) (qK e ps)=some cs)
  (h:gd (gO cs&&aB (ln*es) cs.length&&aF 1 es) (k (.full c.S.length) (c.S++[.cells es false cs]))=some y):bj T (.buildSlice es ln z ps) ea c.σ (cK c d k y):=by
 obtain⟨h1,h2⟩:=ai h;rw[aA,aA]at h1;obtain⟨ra,h3,h4⟩:=oD he ps hf (Aa ln z);have h5:=aE h1.1.2;refine bl (by simp only[AOp.run,h3];rw[zE (eF h4 h1.1.1)]) (cK.new (kill:=none) hR (Fw hR (blk:= .cells es false cs) (x:=⟨ra,true,es⟩) (d:=(es,cs.length)) rfl (aC h1.2) rfl rfl h4) (fun _ h=>by cases h) ?_ h2);exact ni (dm:=(es,cs.length)) (yb:=⟨ra,true,es⟩) rfl h5 (aG _) (zE rfl) (by rw[←h4.length];exact Nat.le_of_eq h5)
theorem OK (hR:Rel c)(he:an c e ea){x:Operand}(h:EV c.S 1 false (ev e x) k=some y):bj T (.load x) ea c.σ (cK c d k y):=by
 obtain⟨b,o,blk,h1,h2,h3,_⟩:=HN hR h (bg he x);obtain⟨u,w,h4,h5,h6⟩:=h3 rfl;exact bl (by simp only[AOp.run,h1,h2,h4];rfl) (cK.same hR h5 h6)
theorem MI (hR:Rel c)(he:an c e ea){n:Nat}{x:Operand}(h:EV c.S n true (ev e x) k=some y):bj T (.loadN n x) ea c.σ (cK c d k y):=by
 obtain⟨b,o,blk,h1,h2,_,h3⟩:=HN hR h (bg he x);obtain⟨us,ws,h4,h5,h6⟩:=h3 rfl;exact bl (by simp only[AOp.run,h1,h2,h4];rfl) (cK.same hR (.agg (by simpa using h5)) h6)
theorem rG : ∀(vs cells:List Value) (o:Nat),(eL cells o vs).length=cells.length
 |[],_,_=>rfl
 |v::vs,cells,o=>by simp only[eL];rw[rG vs];simp
theorem F2.set {l:List VV}{m:List Value}(h:F2 (VRel c) l m){v:VV}{a:Value}(hv:VRel c v a): ∀i,F2 (VRel c) (l.set i v) (m.set i a):=by
 induction h with
 |nil=>intro i;simp;exact .nil
 |cons h1 h2 ih=>
  intro i;cases i with
  |zero=>exact .cons hv h2
  |succ i=>exact .cons h1 (ih i)
theorem Dg : ∀{vs:List VV} {as:List Value},F2 (VRel c) vs as→∀{l:List VV} {m:List Value} (o:Nat),F2 (VRel c) l m→F2 (VRel c) (Pv l o vs) (eL m o as)
 |_,_, .nil,_,_,_,h=>h
 |_,_, .cons h1 h2,_,_,o,h=>Dg h2 (o+1) (F2.set h h1 o)
theorem uY : ∀(vs:List Value) (cs rest:List Value) (o:Nat),o+vs.length≤cs.length→eL (cs++rest) o vs=eL cs o vs++rest
 |[],_,_,_,_=>rfl
 |v::vs,cs,rest,o,h=>by
  simp only[aN]at h;simp only[eL];rw[List.set_append_left _ _ (by omega),uY vs _ _ _ (by simp;omega)]
theorem pI : ∀(vs:List Value) (pre cs:List Value) (o:Nat),eL (pre++cs) (pre.length+o) vs=pre++eL cs o vs
 |[],_,_,_=>rfl
 |v::vs,pre,cs,o=>by
  simp only[eL];rw[List.set_append_right _ _ (by omega),Nat.add_sub_cancel_left,Nat.add_assoc,pI vs]
theorem vV {blk:Ab.Blk}{o:Nat}{vs:List Value}(h1:blk.own=true)(h2:o+vs.length≤blk.cells.length)(h3:vs.all one=true):qO blk o vs=some ⟨eL blk.cells o vs,true,blk.es⟩:=by
 unfold qO;rw[zE ⟨h1,h2,h3⟩,h1]
theorem yQ (hR:Rel c){q es o b:Nat}{l l' vs:List VV}{as:List Value}(hb:aa c.S q= .cells es false l)(hm:c.μ q=some b)(hf:F2 (VRel c) vs as)(h1:gO vs=true)(ho:o+vs.length≤l.length)
  (hl': ∀cs,F2 (VRel c) l cs→F2 (VRel c) l' (eL cs o as)): ∃blk,c.σ.m b=some blk∧∃blk',qO blk o as=some blk'∧Writes c q b (.cells es false l') blk':=by
 obtain⟨y0,cs,rest,h2,h3,h4,h5,h6⟩:=hR.block (k:=q) (d:=(es,l.length)) (by rw[hb];rfl) hm;rw[hb]at h4 h6;have hl:=F2.length h6;simp only[Blk.vals]at hl;have ha:=F2.length hf;refine⟨y0,h2,_,vV (h4 rfl) (by rw[h5,aM];omega) (eF hf h1),⟨by rw[hb];rfl,hm, ?_,rfl,y0,eL cs o as,rest,(es,l.length),h2,by rw[hb];rfl,h3,rfl,rG _ _ _, ?_,hl' cs h6⟩⟩
 ·have:=F2.length (hl' cs h6);rw[rG]at this;simp only[hb,Blk.dim];rw[this,←hl]
 ·show eL y0.cells o as=_;rw[h5,uY _ _ _ _ (by omega)]
theorem Df {v:VV}{va:Value}(hv:VRel c v va): ∀{cs:List VV} {as:List Value} {i j:Nat} {r:List VV},De v cs i j=some r→F2 (VRel c) cs as→F2 (VRel c) r (if j≤i then as.set (i-j) va else as)
 |[],_,i,j,r,h,hf=>by
  cases hf;injection h with h
  subst h;simp;exact .nil
 |w::cs,_,i,j,r,h,hf=>by
  cases hf with
  |cons h1 h2=>
   rename_i a as;simp only[De]at h;cases hs:Nq (aB i j) v w with
   |none=>rw[hs]at h;cases h
   |some x=>
    rw[hs]at h;simp only[zG]at h;cases hr:De v cs i (j+1)with
    |none=>rw[hr]at h;cases h
    |some r'=>
     rw[hr]at h;injection h with h
     subst h;have h3:=Df hv hr h2;have h4:=H4 hs hv h1;by_cases hij:i=j
     ·subst hij;rw[zF (by omega)]at h3;rw[zE (aG _),Nat.sub_self];have:aB i i=true:=Nat.beq_refl i;rw[this]at h4;exact .cons h4 h3
     ·have hb:aB i j=false:=by
       cases hh:aB i j with
       |false=>rfl
       |true=>exact(hij (aE hh)).elim
      rw[hb]at h4;by_cases hlt:j+1≤i
      ·rw[zE hlt]at h3;rw[zE (by omega),show i-j=(i-(j+1))+1 by omega];exact .cons h4 h3
      ·rw[zF hlt]at h3;rw[zF (by omega)];exact .cons h4 h3
theorem Ey {s:Sh}{x:El s}: ∀{l:List (El s)} {i:Nat},i<l.length→cv s (l.set i x)=(cv s l).take (i*s.w)++(ce s x++(cv s l).drop (i*s.w+s.w))
 |[],_,h=>by simp at h
 |a::l,0,_=>by
  rw[List.set_cons_zero,cL,cL,Nat.zero_mul,List.take_zero,aH,aI,aK,cm,Nat.sub_self,List.drop_zero,aL (by rw[cm];exact aG _),aH]
 |a::l,i+1,h=>by
  have h1:(i+1)*s.w=s.w+i*s.w:=by rw[Nat.succ_mul];omega
  rw[List.set_cons_succ,cL,cL,Ey (by simpa using h),h1,List.take_append,aK,cm,List.take_of_length_le (l:=ce s a) (by rw[cm];omega),aL (l:=ce s a) (by rw[cm];omega),aH,aJ];rw[show s.w+i*s.w-s.w=i*s.w by omega,show s.w+i*s.w+s.w-s.w=i*s.w+s.w by omega]
theorem zl (v:VV){q:Nat}(h:mW v=some q):q∈Hz (mW v):=by rw[h];exact List.mem_singleton.2 rfl
theorem Dh {vs cs:List Value}{p o w:Nat}(h1:o+vs.length≤w)(h2:p+w≤cs.length):eL cs (p+o) vs=cs.take p++(eL ((cs.drop p).take w) o vs++cs.drop (p+w)):=by
 have e1:cs=cs.take p++((cs.drop p).take w++cs.drop (p+w)):=by
  rw[←List.drop_drop,aQ,aQ]
 have hp:(cs.take p).length=p:=by rw[aO];omega
 have hw:((cs.drop p).take w).length=w:=by rw[aO,List.length_drop];omega
 conv=>lhs;rw[e1]
 have:=pI vs (cs.take p) ((cs.drop p).take w++cs.drop (p+w)) o;rw[hp]at this;rw[this,uY _ _ _ _ (by rw[hw];exact h1)]
theorem NA (hR:Rel c)(he:an c e ea){n:Nat}{a x:Operand}(hd: ∀q,mW (ev e a)=some q→q∈d)
  (h:gd (aB (fS (ev e x)).length n&&gO (fS (ev e x))) (Jz c.S (ev e a) (fS (ev e x)) fun S'=>k .undef S')=some y):bj T (.store n a x) ea c.σ (cK c d k y):=by
 obtain⟨h1,h2⟩:=ai h;rw[aA]at h1;have hn:=aE h1.1;have hx:=zc (bg he x) h1.2;have hlen:(cellsOf (ea.ev x)).length=n:=by rw[←hx.length];exact hn
 have ha:=bg he a
 have key: ∀(c1:Ctx) (q b o:Nat) (blk0:Ab.Blk) (blk:Blk) (blk':Ab.Blk),c1.σ=c.σ→Le c c1→lx d c c1→Rel c1→q∈d→ea.ev a= .pointer (some ⟨b,o,none⟩)→c.σ.m b=some blk0→qO blk0 o (cellsOf (ea.ev x))=some blk'→Writes c1 q b blk blk'→
   k .undef (dQ c1.S q blk)=some y→bj T (.store n a x) ea c.σ (cK c d k y):=by
  intro c1 q b o blk0 blk blk' hσ hle hcalm hR1 hq h3 h4 h5 h6 h7;refine bl (v:=undef) (σ':=c.σ.set b (some blk')) ?_ ?_
  ·simp only[AOp.run,h3,hlen,if_true,h4,h5]
  ·rw[←hσ];exact⟨.undef,_,rfl,hle.trans (h6.le hR1),h6.rel hR1,hcalm.trans (h6.calm hR1 hq) hle, .undef _,h7⟩
 generalize cellsOf (ea.ev x)=as at*;generalize ev e a=av at*;generalize fS (ev e x)=vs at*;unfold Jz at h2;cases av with
 |ptr q o=>
  simp only at h2;cases hb:aa c.S q with
  |dead=>rw[hb]at h2;cases h2
  |arr s z l=>rw[hb]at h2;cases h2
  |cells es z l=>
   rw[hb]at h2;cases z with
   |true=>cases h2
   |false=>
    obtain⟨h3,h4⟩:=ai h2;cases ha with
    |ptr hk _ hd'=>
     obtain⟨b,hm,hav⟩:=hd' (es,l.length) (by rw[hb];rfl);obtain⟨blk0,h5,blk',h6,h7⟩:=yQ hR hb hm hx h1.2 (aC h3) fun cs hcs=>Dg hx o hcs
     exact key c q b o blk0 _ blk' rfl (Le.refl c) (lx.refl d c) hR (hd q rfl) hav h5 h6 h7 h4
 |pix q o m i=>
  simp only at h2;split at h2
  ·rename_i es l v hb;obtain⟨h3,h4⟩:=ai h2;have h3:=aC h3;split at h4
   ·rename_i l' hs;cases hx with
    |cons hv hnil=>
     rename_i va as';cases hnil;cases ha with
     |pix hk _ hi hd'=>
      obtain⟨b,hm,hav⟩:=hd' (es,l.length) (by rw[hb];rfl)
      obtain⟨blk0,h5,blk',h6,h7⟩:=yQ (l':=l.take o++l'++l.drop (o+m)) (o:=o+i) hR hb hm (.cons hv .nil) h1.2 (by simp;omega) fun cs hcs=>by
       have hl:=hcs.length;rw[Dh (w:=m) (by simp;omega) (by omega),aJ];have h8:=Df hv hs ((hcs.drop o).take m);rw[zE (Nat.zero_le _),Nat.sub_zero]at h8;exact(hcs.take o).append (h8.append (hcs.drop _))
      exact key c q b (o+i) blk0 _ blk' rfl (Le.refl c) (lx.refl d c) hR (hd q rfl) hav h5 h6 h7 h4
   ·cases h4
  ·cases h2
 |pel q i o=>
  simp only at h2;cases hb:aa (xz c.S vs) q with
  |dead=>rw[hb]at h2;cases h2
  |cells es z l=>rw[hb]at h2;cases h2
  |arr s z l=>
   rw[hb]at h2;cases z with
   |true=>cases h2
   |false=>
    simp only at h2;cases hx':l[i]? with
    |none=>rw[hx']at h2;cases h2
    |some x'=>
     rw[hx']at h2;simp only[zG]at h2;split at h2
     ·rename_i z hof;obtain⟨h3,h4⟩:=ai h2;have h3:=aC h3;have hfz:=vE c.S vs;have hR1:Rel ⟨c.μ,xz c.S vs,c.σ,c.fb⟩:=hfz.rel hR
      have hi:i<l.length:=by
       rcases Nat.lt_or_ge i l.length with h|h
       ·exact h
       ·rw[List.getElem?_eq_none h]at hx';cases hx'
      have hx1:F2 (VRel ⟨c.μ,xz c.S vs,c.σ,c.fb⟩) vs as:=VRel.frames hfz.le hx;cases ha with
      |pel hk _ hd'=>
       have hdim:(aa (xz c.S vs) q).dim=some (s.w,l.length*s.w):=by rw[hb];rfl
       obtain⟨b,hm,hav⟩:=hd' (s.w,l.length*s.w) (by rw[←hfz.dim];exact hdim);obtain⟨y0,cs,rest,h5,h6,h7,h8,h9⟩:=hR1.block (k:=q) hdim hm;rw[hb]at h7 h9;have hl:=h9.length;simp only[Blk.vals,cM]at hl;have hle:i*s.w+s.w≤l.length*s.w:=by rw[←Nat.succ_mul];exact Nat.mul_le_mul_right _ hi
       have hlen':vs.length=as.length:=hx.length;refine key ⟨c.μ,xz c.S vs,c.σ,c.fb⟩ q b (i*s.w+o) y0 (.arr s false (l.set i z)) _ rfl hfz.le (hfz.calm d) hR1 (hd q rfl) hav h5 (vV (h7 rfl) (by rw[h8,aM];omega) (eF hx h1.2)) ⟨by rw[hb];rfl,hm,by rw[hdim];simp[Blk.dim],rfl,y0,eL cs (i*s.w+o) as,rest,_,h5,hdim,h6,rfl,rG _ _ _,by rw[h8,uY _ _ _ _ (by omega)], ?_⟩ h4;obtain⟨pre,h10,h11,h12⟩:=eo hR1 s _ _ _ hof;rw[List.append_nil]at h10;subst h10;simp only[Blk.vals];rw[Ey hi,Dh (w:=s.w) (by omega) (by omega)];refine(h9.take _).append (F2.append (h12 _ (Dg hx1 o ?_)) (h9.drop _));have h13:=(h9.drop (i*s.w)).take s.w;simp only[Blk.vals]at h13
       rwa [zu hx']at h13
     ·cases h2
 |_=>cases h2
end
end
section
open Bool renaming and_eq_true → aB, false_eq_true → aC
open List renaming extract_eq_take_drop → aD
open Nat renaming eq_of_beq_eq_true → aE
open Option renaming map_some → aA
section
variable {β:Type} {T:dn} {c:Ctx} {e:bu} {ea:br} {k:VV→ae→Option β} {y:β} {d:List Nat}
theorem jK (s:ByteArray):(ak s).length=s.size:=by simp[ak]
theorem xc (s t:ByteArray):ak (s++t)=ak s++ak t:=by
 simp[ak,ByteArray.data_append]
theorem vn : ∀{l m:List UInt8},(l.map fun b=>(b.toNat:Int))=m.map (fun b=>(b.toNat:Int))→l=m
 |[],[],_=>rfl
 |[],_::_,h=>by simp at h
 |_::_,[],h=>by simp at h
 |a::l,b::m,h=>by
  simp only[List.map_cons,List.cons.injEq]at h;rw[vn h.2,UInt8.toNat_inj.1 (Int.ofNat.inj h.1)]
theorem AQ (s:ByteArray):s.toList=s.data.toList:=by
 rw[ByteArray.toList_eq]
theorem y8 (s t:ByteArray):(s.toList==t.toList)=decide (ak s=ak t):=by
 rw[AQ,AQ];by_cases h:s.data.toList=t.data.toList
 ·simp[ak,h]
 ·have:ak s≠ak t:=fun e=>h (vn e)
  have h': ¬s.data=t.data:=fun e=>h (by rw[e])
  simp[this,h']
theorem Ky {op:BinOp}{kd:IntKind}{a b:Int}{kk:VV→Option β}(h:IC op kd a b kk=some y): ∃v va,J0 op kd a b=some va∧VRel c v va∧kk v=some y:=by
 cases op<;>simp only[IC]at h<;>try(cases h;done)
 case add=>exact⟨_,_,rfl, .int _ _,h⟩
 case sub=>exact⟨_,_,rfl, .int _ _,h⟩
 case mul=>exact⟨_,_,rfl, .int _ _,h⟩
 case quo=>
  obtain⟨h1,h2⟩:=ai h;exact⟨_,_,zF (of_decide_eq_true h1), .int _ _,h2⟩
 case rem=>
  obtain⟨h1,h2⟩:=ai h;exact⟨_,_,zF (of_decide_eq_true h1), .int _ _,h2⟩
 case and=>exact⟨_,_,rfl, .int _ _,h⟩
 case or=>exact⟨_,_,rfl, .int _ _,h⟩
 case xor=>exact⟨_,_,rfl, .int _ _,h⟩
 case andNot=>exact⟨_,_,rfl, .int _ _,h⟩
 case eql=>
  refine⟨_,_,rfl, ?_,h⟩;have:(a==b)=decide (a=b):=by by_cases h:a=b<;>simp[h]
  rw[this];exact .bool _
 case neq=>
  refine⟨_,_,rfl, ?_,h⟩;have:(a !=b)=decide (a≠b):=by by_cases h:a=b<;>simp[h]
  rw[this];exact .bool _
 case lss=>exact⟨_,_,rfl, .bool _,h⟩
 case leq=>exact⟨_,_,rfl, .bool _,h⟩
 case gtr=>exact⟨_,_,rfl, .bool _,h⟩
 case geq=>exact⟨_,_,rfl, .bool _,h⟩
theorem Qm (hR:Rel c)(he:an c e ea){op:BinOp}{x z:Operand}(h:Ql op (ev e x) (ev e z) (fun v=>k v c.S)=some y):bj T (.bin op x z) ea c.σ (cK c d k y):=by
 have hx:=bg he x;have hz:=bg he z
 have key: ∀v va,qG op (ea.ev x) (ea.ev z)=some va→VRel c v va→k v c.S=some y→bj T (.bin op x z) ea c.σ (cK c d k y):=fun v va h1 h2 h3=>
  bl (by simp only[AOp.run,h1];rfl) (cK.same hR h2 h3)
 generalize ev e x=xv at*;generalize ev e z=zv at*;unfold Ql at h;split at h
 ·rename_i kx a kz b;rw[hx.int_inv,hz.int_inv]at key;cases hs:mn op with
  |true=>
   rw[hs,zC]at h;simp only[qG,hs,if_true]at key;cases op<;>simp only[Nx]at h<;>try(cases h;done)
   ·obtain⟨h1,h2⟩:=ai h;have h1:=of_decide_eq_true h1;refine key _ _ ?_ (.int _ _) h2;simp only[Dk];rw[zF (by omega)]
   ·obtain⟨h1,h2⟩:=ai h;have h1:=of_decide_eq_true h1;refine key _ _ ?_ (.int _ _) h2;simp only[Dk];rw[zF (by omega)]
  |false=>
   rw[hs,zD]at h;cases hk:decide (kx=kz)with
   |false=>rw[hk]at h;cases h
   |true=>
    rw[hk,zC]at h;have hk:=of_decide_eq_true hk;subst hk;obtain⟨v,va,h1,h2,h3⟩:=Ky (c:=c) h;refine key v va ?_ h2 h3;simp only[qG,hs,aC,if_false,if_true,h1]
 ·rename_i a b;obtain⟨s,e1,rfl⟩:=hx.str_inv;obtain⟨t,e2,rfl⟩:=hz.str_inv;rw[e1,e2]at key;cases hs:mn op with
  |true=>rw[hs]at h;cases h
  |false=>
   rw[hs,zD]at h;simp only[qG,hs,aC,if_false]at key;cases op<;>simp only[RP]at h<;>try(cases h;done)
   ·obtain⟨h1,h2⟩:=ai h;have h1:(ak s).length+(ak t).length≤9223372036854775807:=Nat.le_of_ble_eq_true h1;rw[jK,jK]at h1;refine key _ _ ?_ (.str (xc s t)) h2;simp only[Kp];rw[zF];show¬(((s.size+t.size:Nat):Int) > 9223372036854775807);omega
   ·refine key _ _ rfl ?_ h;rw[y8];exact .bool _
   ·refine key _ _ rfl ?_ h;rw[y8];have:(!decide (ak s=ak t))=decide (ak s≠ak t):=by simp
    rw[this];exact .bool _
 ·cases h
theorem li {b:Blk}(h:b.live=true): ∃dm,b.dim=some dm:=by cases b<;>first|(cases h;done)|exact⟨_,rfl⟩
theorem xi {v:VV}{a:Value}(h:VRel c v a)(hp:CF c.S v=true): ∃x,a= .pointer (some x):=by
 cases v<;>try(cases hp;done)
 case ptr q o=>
  obtain⟨dd,hh⟩:=li hp;cases h with
  |ptr hk _ hd=>obtain⟨b,_,h⟩:=hd dd hh;exact⟨_,h⟩
 case pix q o n i=>
  obtain⟨dd,hh⟩:=li hp;cases h with
  |pix hk _ _ hd=>obtain⟨b,_,h⟩:=hd dd hh;exact⟨_,h⟩
 case pel q i o=>
  obtain⟨dd,hh⟩:=li hp;cases h with
  |pel hk _ hd=>obtain⟨b,_,h⟩:=hd dd hh;exact⟨_,h⟩
 case pin s x o=>cases h;exact⟨_,rfl⟩
theorem Hu (hR:Rel c)(he:an c e ea){x:Operand}(h:(match ev e x with
  | .fn f a b=>gd (!wd f) (k (.fn f a b) c.S)
  |v=>gd (CF c.S v) (k v c.S))=some y):bj T (.nilCheck x) ea c.σ (cK c d k y):=by
 have hx:=bg he x;split at h
 ·rename_i f a b hv;rw[hv]at hx
  have: ∃a' b',ea.ev x= .func (.func f) a' b':=by
   generalize ea.ev x=xa at hx;cases hx;exact⟨_,_,rfl⟩
  obtain⟨a',b',h1⟩:=this;rw[h1]at hx;obtain⟨h0,h⟩:=ai h;exact bl (by simp only[AOp.run,h1];rw[zF (by simpa using h0)]) (cK.same hR hx h)
 ·obtain⟨h1,h2⟩:=ai h;obtain⟨p,h3⟩:=xi hx h1;rw[h3]at hx;exact bl (by simp only[AOp.run,h3]) (cK.same hR hx h2)
theorem MS {neg b:Bool}:(b !=neg)=MR neg b:=by cases neg<;>cases b<;>rfl
theorem Qt (hR:Rel c)(he:an c e ea){kd:Nat}{neg:Bool}{x z:Operand}{p:Bool}(hp:Qs c.S kd (ev e x) (ev e z)=some p)(h:k (.bool (MR neg p)) c.S=some y):bj T (.eqv kd neg x z) ea c.σ (cK c d k y):=by
 have hx:=bg he x;have hz:=bg he z
 have key:G6 kd (ea.ev x) (ea.ev z)=some p→bj T (.eqv kd neg x z) ea c.σ (cK c d k y):=fun h1=>
  bl (v:= .bool (p !=neg)) (by simp only[AOp.run,h1];rfl) (cK.same hR (by rw[MS];exact .bool _) h)
 generalize ev e x=xv at*;generalize ev e z=zv at*;unfold Qs at hp;split at hp
 ·injection hp with hp;subst hp
  rw[hx.bool_inv,hz.bool_inv]at key;exact key rfl
 ·injection hp with hp;subst hp
  refine key ?_;generalize ea.ev x=xa at*;generalize ea.ev z=za at*;cases hx;cases hz;rfl
 ·cases hi:CF c.S zv with
  |false=>rw[hi]at hp;cases hp
  |true=>
   rw[hi]at hp;injection hp with hp;subst hp
   refine key ?_;obtain⟨q,h1⟩:=xi hz hi;rw[h1];generalize ea.ev x=xa at*;cases hx;rfl
 ·cases hi:CF c.S xv with
  |false=>rw[hi]at hp;cases hp
  |true=>
   rw[hi]at hp;injection hp with hp;subst hp
   refine key ?_;obtain⟨q,h1⟩:=xi hx hi;rw[h1];generalize ea.ev z=za at*;cases hz;rfl
 ·injection hp with hp;subst hp
  refine key ?_;generalize ea.ev x=xa at*;generalize ea.ev z=za at*;cases hx;cases hz;rfl
 ·injection hp with hp;subst hp
  refine key ?_;generalize ea.ev x=xa at*;generalize ea.ev z=za at*;cases hx;cases hz;rfl
 ·obtain⟨h0,hp⟩:=ai hp;injection hp with hp;subst hp
  refine key ?_;generalize ea.ev x=xa at*;generalize ea.ev z=za at*;cases hx;cases hz;show(if wd _=true then none else some false)=some false;rw[zF (by simpa using h0)]
 ·obtain⟨h0,hp⟩:=ai hp;injection hp with hp;subst hp
  refine key ?_;generalize ea.ev x=xa at*;generalize ea.ev z=za at*;cases hx;cases hz;show(if wd _=true then none else some false)=some false;rw[zF (by simpa using h0)]
 ·cases hp
theorem Oj {kd:Nat}{v w:VV}{va wa:Value}{p:Bool}(h:KO kd v w=some p)(hv:VRel c v va)(hw:VRel c w wa):mZ kd va wa=some p:=by
 unfold KO at h;split at h
 ·injection h with h;subst h
  rw[hv.bool_inv,hw.bool_inv];rfl
 ·rename_i k1 a k2 b;cases hk:decide (k1=k2)with
  |false=>rw[hk]at h;cases h
  |true=>
   rw[hk]at h;injection h with h;subst h
   rw[hv.int_inv,hw.int_inv];simp only[mZ,of_decide_eq_true hk,if_true];by_cases e:a=b<;>simp[e]
 ·injection h with h;subst h
  obtain⟨s,e1,rfl⟩:=hv.str_inv;obtain⟨t,e2,rfl⟩:=hw.str_inv;rw[e1,e2];simp only[mZ];rw[y8]
 ·cases h
theorem Ol : ∀{ks:List Nat} {l m:List VV} {la ma:List Value} {p:Bool},Ea ks l m=some p→F2 (VRel c) l la→F2 (VRel c) m ma→dT ks la ma=some p:=by
 intro ks;induction ks with
 |nil=>
  intro l m la ma p h hl hm;cases hl<;>cases hm<;>simp only[Ea]at h<;>try(cases h;done)
  exact h
 |cons kd ks ih=>
  intro l m la ma p h hl hm;cases hl with
  |nil=>cases m<;>simp[Ea]at h
  |cons h1 h2=>
   cases hm with
   |nil=>cases ks<;>simp[Ea]at h
   |cons h3 h4=>
    rename_i v va l' la' w wa m' ma'
    have key: ∀q r,KO kd v w=some q→Ea ks l' m'=some r→p=(q&&r)→dT (kd::ks) (va::la') (wa::ma')=some p:=by
     intro q r e1 e2 e3;simp only[dT,Oj e1 h1 h3];cases q with
     |false=>simp[e3]
     |true=>rw[ih e2 h2 h4,e3];simp
    unfold Ea at h;split at h
    ·rename_i e1 e2 e3;cases e1
    ·rename_i e1 e2 e3;cases e1;cases e2;cases e3;cases h2;cases h4;exact key p true h rfl (by simp)
    ·rename_i e1 e2 e3;cases e1;cases e2;cases e3;cases hq:KO kd v w with
     |none=>rw[hq]at h;cases h
     |some q=>
      rw[hq]at h;simp only[zG]at h;cases hr:Ea ks l' m' with
      |none=>rw[hr]at h;cases h
      |some r=>
       rw[hr]at h;injection h with h
       exact key q r hq hr h.symm
    ·cases h
theorem IQ (hR:Rel c)(he:an c e ea){ks:List Nat}{neg:Bool}{x z:Operand}{a b:List VV}{p:Bool}(h1:ev e x= .agg a)(h2:ev e z= .agg b)(hp:Ea ks a b=some p)(h:k (.bool (MR neg p)) c.S=some y):
  bj T (.eqCells neg ks x z) ea c.σ (cK c d k y):=by
 have hx:=bg he x;have hz:=bg he z;rw[h1]at hx;rw[h2]at hz;obtain⟨as,e1,f1⟩:=hx.agg_inv;obtain⟨bs,e2,f2⟩:=hz.agg_inv;exact bl (v:= .bool (p !=neg)) (by simp only[AOp.run,e1,e2,Ol hp f1 f2];rfl) (cK.same hR (by rw[MS];exact .bool _) h)
theorem RS (hR:Rel c)(he:an c e ea){op:UnOp}{x:Operand}(h:Tl op (ev e x) (fun v=>k v c.S)=some y):bj T (.un op x) ea c.σ (cK c d k y):=by
 have hx:=bg he x;unfold Tl at h;split at h
 ·rename_i kd n hv;rw[hv]at hx;exact bl (by simp only[AOp.run,hx.int_inv];rfl) (cK.same hR (.int _ _) h)
 ·rename_i kd n hv;rw[hv]at hx;exact bl (by simp only[AOp.run,hx.int_inv];rfl) (cK.same hR (.int _ _) h)
 ·rename_i b hv;rw[hv]at hx;exact bl (by simp only[AOp.run,hx.bool_inv];rfl) (cK.same hR (.bool _) h)
 ·cases h
theorem CD {v:VV}{n:Int}{a:Value}(h:yq v=some n)(hv:VRel c v a): ∃kd,a= .int kd n:=by
 cases v<;>simp only[yq]at h<;>try(cases h;done)
 injection h with h;subst h
 exact⟨_,hv.int_inv⟩
theorem Oc (hR:Rel c)(he:an c e ea){kd:IntKind}{x:Operand}{n:Int}(hn:yq (ev e x)=some n)(h:k (.int kd (kd.wrap n)) c.S=some y):bj T (.conv kd x) ea c.σ (cK c d k y):=by
 obtain⟨kd',hx⟩:=CD hn (bg he x);exact bl (by simp only[AOp.run,hx];rfl) (cK.same hR (.int _ _) h)
theorem K2 (hR:Rel c)(he:an c e ea){f:Nat}{a b:List Operand}(h:gd (!wd f) (k (.fn f (a.map (ev e)) (b.map (ev e))) c.S)=some y):bj T (.mkFunc f a b) ea c.σ (cK c d k y):=
 bl (by simp only[AOp.run];rw[zF (by simpa using(ai h).1)]) (cK.same hR (.fn (by simpa using Bs he a) (by simpa using Bs he b)) (ai h).2)
theorem KQ (hR:Rel c)(he:an c e ea){o n:Nat}{agg:Bool}{x:Operand}{cs:List VV}(hx:ev e x= .agg cs)(h:cond agg (k (.agg (rn cs o n)) c.S) (Lf c.S (nth cs o) k)=some y):bj T (.fieldV o n agg x) ea c.σ (cK c d k y):=by
 have hv:=bg he x;rw[hx]at hv;obtain⟨as,e1,f1⟩:=hv.agg_inv;cases agg with
 |true=>
  refine bl (v:= .agg (as.extract o (o+n))) (by simp only[AOp.run,e1];rfl) (cK.same hR (.agg ?_) h);have:=(f1.drop o).take n;simpa[rn,Array.toList_extract,aD]using this
 |false=>
  rw[zD]at h;cases hn:nth cs o with
  |none=>rw[hn]at h;cases h
  |some w=>
   rw[hn]at h;obtain⟨u,h1,h2⟩:=F2.nth f1 hn;have h1':as[o]?=some u:=by simpa using h1
   exact bl (by simp only[AOp.run,e1,h1'];rfl) (cK.same hR h2 h)
theorem IT (hR:Rel c)(he:an c e ea){i:Nat}{x:Operand}{cs:List VV}(hx:ev e x= .tup cs)(h:Lf c.S (nth cs i) k=some y):bj T (.extract x i) ea c.σ (cK c d k y):=by
 have hv:=bg he x;rw[hx]at hv;obtain⟨as,e1,f1⟩:=hv.tup_inv;cases hn:nth cs i with
 |none=>rw[hn]at h;cases h
 |some w=>
  rw[hn]at h;obtain⟨u,h1,h2⟩:=F2.nth f1 hn;have h1':as[i]?=some u:=by simpa using h1
  exact bl (by simp only[AOp.run,e1,h1'];rfl) (cK.same hR h2 h)
theorem vG {i:Int}{n j:Nat}(h:ix i n=some j):0≤i∧i<n∧j=i.toNat∧j<n:=by
 unfold ix at h;cases hb:(decide (0≤i)&&decide (i<n))with
 |false=>rw[hb]at h;cases h
 |true=>
  rw[hb]at h;injection h with h
  rw[aB]at hb;have h1:=of_decide_eq_true hb.1;have h2:=of_decide_eq_true hb.2;exact⟨h1,h2,h.symm,by omega⟩
theorem Ki {α:Type}{l:List α}{i:Int}{x:α}(h:rd l i=some x):0≤i∧i<l.length∧l[i.toNat]?=some x:=by
 unfold rd at h;cases hb:decide (0≤i)with
 |false=>rw[hb]at h;cases h
 |true=>
  rw[hb]at h;have h1:=of_decide_eq_true hb
  have h2:i.toNat<l.length:=by
   rcases Nat.lt_or_ge i.toNat l.length with h3|h3
   ·exact h3
   ·rw[zC,List.getElem?_eq_none h3]at h;cases h
  exact⟨h1,by omega,h⟩
theorem ah {α γ:Type}{x:Option α}{f:α→Option γ}{z:γ}(h:x.bind f=some z): ∃a,x=some a∧f a=some z:=by
 cases x with
 |none=>cases h
 |some a=>exact⟨a,rfl,h⟩
theorem KW (hR:Rel c)(he:an c e ea){ln es:Nat}{agg:Bool}{x z:Operand}{cs:List VV}{kd:IntKind}{i:Int}(hx:ev e x= .agg cs)(hz:ev e z= .int kd i)
  (h:((ix i ln).bind fun j=>cond agg (k (.agg (rn cs (j*es) es)) c.S) (gd (Nat.beq es 1&&Nat.beq cs.length ln) (GI cs j c.S k)))=some y):bj T (.indexV ln es agg x z) ea c.σ (cK c d k y):=by
 have hv:=bg he x;have hw:=bg he z;rw[hx]at hv;rw[hz]at hw;obtain⟨as,e1,f1⟩:=hv.agg_inv;have e2:=hw.int_inv;obtain⟨j,h1,h2⟩:=ah h;obtain⟨h3,h4,rfl,h5⟩:=vG h1;cases agg with
 |true=>
  refine bl (v:= .agg (as.extract (i.toNat*es) (i.toNat*es+es))) (by simp only[AOp.run,e1,e2];rw[zE ⟨h3,h4⟩];rfl) (cK.same hR (.agg ?_) h2);have:=(f1.drop (i.toNat*es)).take es;simpa[rn,Array.toList_extract,aD]using this
 |false=>
  rw[zD]at h2;obtain⟨h6,h7⟩:=ai h2;rw[aB]at h6;have h8:=aE h6.1;have h9:=aE h6.2;subst h8;obtain⟨w,h10,h11⟩:=GJ (by omega) h7;obtain⟨u,h12,h13⟩:=f1.get _ _ h10;have h14:as[i.toNat*1]?=some u:=by rw[Nat.mul_one];simpa using h12
  exact bl (by simp only[AOp.run,e1,e2,h14];rw[zE ⟨h3,h4⟩];rfl) (cK.same hR h13 h11)
theorem KV (hR:Rel c)(he:an c e ea){x z:Operand}{l:List Int}{kd:IntKind}{i:Int}(hx:ev e x= .str l)(hz:ev e z= .int kd i)(h:((rd l i).bind fun b=>k (.int .u8 b) c.S)=some y):bj T (.indexS x z) ea c.σ (cK c d k y):=by
 have hv:=bg he x;have hw:=bg he z;rw[hx]at hv;rw[hz]at hw;obtain⟨s,e1,rfl⟩:=hv.str_inv;have e2:=hw.int_inv;obtain⟨b,h1,h2⟩:=ah h;obtain⟨h3,h4,h5⟩:=Ki h1;simp only[ak,List.getElem?_map]at h5;cases hb:s.data.toList[i.toNat]? with
 |none=>rw[hb]at h5;cases h5
 |some u=>
  rw[hb,aA]at h5;injection h5 with h5
  subst h5
  have h6:s[i.toNat]?=some u:=by
   have:i.toNat<s.size:=by rw[jK]at h4;omega
   rw[getElem?_pos s i.toNat this];rw[←hb,Array.getElem?_toList,getElem?_pos s.data i.toNat this];rfl
  exact bl (v:= .int .u8 u.toNat) (by simp only[AOp.run,e1,e2,h6];rw[zE h3];rfl) (cK.same hR (.int _ _) h2)
theorem OO (hR:Rel c)(he:an c e ea){x z:Operand}{kd kd':IntKind}{a b:Int}(hx:ev e x= .int kd a)(hz:ev e z= .int kd' b)(h:k (.int kd (max a b)) c.S=some y):bj T (.most x z) ea c.σ (cK c d k y):=by
 have hv:=bg he x;have hw:=bg he z;rw[hx]at hv;rw[hz]at hw;refine bl (v:= .int kd (max a b)) ?_ (cK.same hR (.int _ _) h);simp only[AOp.run,hv.int_inv,hw.int_inv,JF,aA]
 congr 3
 split<;>omega
theorem MD (hR:Rel c)(he:an c e ea){x z:Operand}{kd kd':IntKind}{a b:Int}(hx:ev e x= .int kd a)(hz:ev e z= .int kd' b)(h:k (.int kd (min a b)) c.S=some y):bj T (.least x z) ea c.σ (cK c d k y):=by
 have hv:=bg he x;have hw:=bg he z;rw[hx]at hv;rw[hz]at hw;refine bl (v:= .int kd (min a b)) ?_ (cK.same hR (.int _ _) h);simp only[AOp.run,hv.int_inv,hw.int_inv,Gd,aA]
 congr 3
 split<;>omega
end
end
section
open Bool renaming and_eq_true → aC
open List renaming drop_take → aI, length_append → aO
open Nat renaming eq_of_beq_eq_true → aA, mul_le_mul_right → aB, le_refl → aD, add_mul → aE, le_of_ble_eq_true → aF, beq → aG, le_trans → aH, add_assoc → aJ, eq_of_mul_eq_mul_right → aK, mul_div_cancel → aL, zero_add → aM
open Option renaming map_some → aN, map_none → aP
section
variable {β:Type} {T:dn} {c:Ctx} {e:bu} {ea:br} {k:VV→ae→Option β} {y:β} {d:List Nat}
theorem xy.len {q lo n:Nat}{dm:Nat×Nat}{a:Value}(h:xy c q lo n dm a): ∃p cp,a= .slice p n cp∧n≤cp:=by
 rcases h with⟨rfl,_,rfl,_,_⟩|⟨b,cp,x,rfl,_,_,h,_⟩
 ·exact⟨none,0,rfl,aD _⟩
 ·exact⟨_,cp,rfl,h⟩
theorem MF (hR:Rel c){v:VV}{a:Value}{n:Nat}(h:lenOf c.S v=some n)(hv:VRel c v a)(hs: ∀l,v≠ .str l): ∃p cp,a= .slice p n cp∧n≤cp:=by
 cases v<;>simp only[lenOf]at h<;>try(cases h;done)
 case nils=>injection h with h;subst h;cases hv;exact⟨none,0,rfl,aD _⟩
 case str l=>exact(hs l rfl).elim
 case lst s l=>
  injection h with h;subst h
  cases hv with
  |lstn=>exact⟨_,0,rfl,aD _⟩
  |lst _ _ _ h1 h2 _ _=>subst h1;exact⟨_,_,rfl,h2⟩
 case part q lo m=>
  cases hl:(aa c.S q).live with
  |false=>rw[hl]at h;cases h
  |true=>
   rw[hl]at h;injection h with h;subst h
   obtain⟨dd,hh⟩:=li hl;cases hv with
   |part hk _ hd=>exact(hd dd hh).len
 case full q=>
  cases hv with
  |full hk _ hd=>
   cases hb:aa c.S q with
   |dead=>rw[hb]at h;cases h
   |arr s z l=>
    rw[hb]at h;injection h with h;subst h
    obtain⟨n,h1,h2⟩:=hd (s.w,l.length*s.w) (by rw[hb];rfl);have:n=l.length:=aK (fY s) h1;subst this;exact h2.len
   |cells es z l=>
    rw[hb]at h;injection h with h;subst h
    obtain⟨n,h1,h2⟩:=hd (es,l.length) (by rw[hb];rfl);have h3:=(hR.blk q (es,l.length) (by rw[hb];rfl)).1
    have:n=l.length / es:=by
     simp only at h1 h3;rw[←h1,aL _ h3]
    subst this;exact h2.len
theorem QC (hR:Rel c)(he:an c e ea){x:Operand}{n:Nat}(hs: ∀l,ev e x≠ .str l)(hn:lenOf c.S (ev e x)=some n)(h:k (.int .i64 n) c.S=some y):bj T (.len x) ea c.σ (cK c d k y):=by
 obtain⟨p,cp,h1,_⟩:=MF hR hn (bg he x) hs;exact bl (by simp only[AOp.run,h1]) (cK.same hR (.int _ _) h)
theorem OJ (hR:Rel c)(he:an c e ea){x:Operand}{l:List Int}(hx:ev e x= .str l)(h:k (.int .i64 l.length) c.S=some y):bj T (.lenS x) ea c.σ (cK c d k y):=by
 have hv:=bg he x;rw[hx]at hv;obtain⟨s,h1,h2⟩:=hv.str_inv;refine bl (v:= .int .i64 s.size) (by simp only[AOp.run,h1]) (cK.same hR ?_ h);rw[←h2,jK];exact .int _ _
theorem yj (he:an c e ea){lo:Option Operand}{a:Int}{m:Nat}(h:tx (lo.map (ev e))=some a)(h0:0≤a)(hm:a≤m):ge m 0 (lo.map ea.ev)=some a.toNat:=by
 cases lo with
 |none=>
  simp only[aP,tx]at h;injection h with h;subst h
  rfl
 |some x=>
  simp only[aN,tx]at h⊢;obtain⟨kd,h1⟩:=CD h (bg he x);rw[h1];exact zE ⟨h0,hm⟩
theorem yi (he:an c e ea){hi:Option Operand}{b:Int}{n cp:Nat}(h:nH n (hi.map (ev e))=some b)(h0:0≤b)(hm:b≤n)(hc:n≤cp):ge cp n (hi.map ea.ev)=some b.toNat:=by
 cases hi with
 |none=>
  simp only[aP,nH]at h;injection h with h;subst h
  simp[ge]
 |some x=>
  simp only[aN,nH]at h⊢;obtain⟨kd,h1⟩:=CD h (bg he x);rw[h1];exact zE ⟨h0,by omega⟩
theorem jL {a b:Int}{n:Nat}(h:cb a b n=true):0≤a∧a≤b∧b≤n:=by
 unfold cb at h;rw[aC,aC]at h;exact⟨of_decide_eq_true h.1.1,of_decide_eq_true h.1.2,of_decide_eq_true h.2⟩
theorem vU (he:an c e ea){es:Nat}{x:Operand}{lo hi:Option Operand}{p:Option Addr}{n cp:Nat}{a b:Int}(hx:ea.ev x= .slice p n cp)(hn:n≤cp)(hp:cp≠0→∀q,p=some q→∃z,c.σ.m q.block=some z∧z.es=es)
  (hlo:tx (lo.map (ev e))=some a) (hhi:nH n (hi.map (ev e))=some b) (hg:cb a b n=true):(AOp.slice es x lo hi).run ea c.σ=some (.slice (p.map (Ei · (a.toNat*es))) (b.toNat-a.toNat) (cp-a.toNat),c.σ):=by
 obtain⟨h1,h2,h3⟩:=jL hg
 have hm:(cp==0||qJ c.σ es p lo)=true:=by
  by_cases hc:cp=0
  ·simp[hc]
  ·unfold qJ;split
   ·simp
   ·simp
   ·rename_i q;obtain⟨z,h4,h5⟩:=hp hc q rfl;rw[h4];simp[h5]
 simp only[AOp.run,hx,hm,if_true,yi he hhi (by omega) h3 hn,yj he hlo h1 (m:=b.toNat) (by omega)]
theorem xy.cut {q lo n:Nat}{dm:Nat×Nat}{p:Option Addr}{cp A B:Nat}(h:xy c q lo n dm (.slice p n cp))(hA:A≤B)(hB:B≤n):xy c q (lo+A) (B-A) dm (.slice (p.map (Ei · (A*dm.1))) (B-A) (cp-A)):=by
 rcases h with⟨h1,h2,h3,h4,h5⟩|⟨b,cp',z,h1,h2,h3,h4,h5,h6⟩
 ·injection h1 with e1 e2 e3
  subst e1;subst e3;have:A=0:=by omega
  have:B=0:=by omega
  subst A;subst B;exact .inl ⟨rfl,by omega,rfl,h4,h5⟩
 ·injection h1 with e1 e2 e3
  subst e1;subst e3;refine .inr ⟨b,cp-A,z, ?_,h2,aH (aB _ (by omega)) h3,by omega,h5,aH (aB _ (by omega)) h6⟩;simp only[aN,Ei,aE]
theorem xy.es (hR:Rel c){q lo n cp:Nat}{dm:Nat×Nat}{p:Option Addr}(hd:(aa c.S q).dim=some dm)(h:xy c q lo n dm (.slice p n cp)): ∀z,p=some z→∃blk,c.σ.m z.block=some blk∧blk.es=dm.1:=by
 intro z hz;subst hz;rcases h with⟨h1,_⟩|⟨b,cp',x,h1,h2,_,_,h5,_⟩
 ·cases h1
 ·injection h1 with e1 e2 e3
  injection e1 with e1
  subst e1;obtain⟨blk,_,_,h6,h7,_⟩:=hR.block hd h2;exact⟨blk,h6,h7⟩
theorem yC (hR:Rel c)(he:an c e ea){es q o n:Nat}{dm:Nat×Nat}{x:Operand}{lo hi:Option Operand}{a b:Int}(hd:(aa c.S q).dim=some dm)(hes:es=dm.1)(hs:xy c q o n dm (ea.ev x))
  (hlo:tx (lo.map (ev e))=some a) (hhi:nH n (hi.map (ev e))=some b) (hg:cb a b n=true) (h:k (.part q (o+a.toNat) (b.toNat-a.toNat)) c.S=some y):bj T (.slice es x lo hi) ea c.σ (cK c d k y):=by
 obtain⟨p,cp,hx,hn⟩:=hs.len;rw[hx]at hs;obtain⟨h1,h2,h3⟩:=jL hg;subst hes;refine bl (vU he hx hn (fun _=>hs.es hR hd) hlo hhi hg) (cK.same hR ?_ h);refine .part (eS (by rw[hd];simp)) rfl fun d' hd'=> ?_
 rw[hd]at hd';injection hd' with hd'
 subst hd';exact hs.cut (by omega) (by omega)
theorem Uf {α:Type}(L:List α){A B N p:Nat}(h:B≤N):((((L.drop p).take N).take B).drop A)=(L.drop (p+A)).take (B-A):=by
 rw[List.take_take,Nat.min_eq_left h,aI,List.drop_drop]
theorem Ny (hR:Rel c)(he:an c e ea){es:Nat}{x:Operand}{lo hi:Option Operand}(h:Js c.S es (ev e x) (lo.map (ev e)) (hi.map (ev e)) k=some y):bj T (.slice es x lo hi) ea c.σ (cK c d k y):=by
 have hx:=bg he x;unfold Js at h;cases hln:lenOf c.S (ev e x)with
 |none=>rw[hln]at h;cases h
 |some n=>
  rw[hln]at h;simp only at h;cases hlo:tx (lo.map (ev e))with
  |none=>rw[hlo]at h;cases h
  |some a=>
   cases hhi:nH n (hi.map (ev e))with
   |none=>rw[hlo,hhi]at h;cases h
   |some b=>
    rw[hlo,hhi]at h;simp only at h;split at h
    ·rename_i hv;rw[hv]at hx hln;obtain⟨h1,h2⟩:=ai h
     have hn0:n=0:=by
      simp only[lenOf]at hln;injection hln with hln
      exact hln.symm
     subst hn0;obtain⟨h3,h4,h5⟩:=jL h1;have ha0:a=0:=by omega
     have hb0:b=0:=by omega
     subst a;subst b;have hxe:ea.ev x= .slice none 0 0:=by generalize ea.ev x=xa at hx;cases hx;rfl
     exact bl (vU he hxe (aD _) (fun _ q h=>by cases h) hlo hhi h1) (cK.same hR .nils h2)
    ·rename_i s l hv;rw[hv]at hx hln;simp only[lenOf]at hln;injection hln with hln
     subst hln;obtain⟨h1,h2⟩:=ai h;have hes:=aA h1
     have key:cb a b l.length=true→k (.lst s (fZ l a b)) c.S=some y→bj T (.slice es x lo hi) ea c.σ (cK c d k y):=by
      intro hg hk;obtain⟨h3,h4,h5⟩:=jL hg;generalize hxa:ea.ev x=xa at hx;cases hx with
      |lstn hq=>
       have hb0:b=0:=by simp at h5;omega
       have ha0:a=0:=by omega
       subst a;subst b;refine bl (vU he hxa (aD _) (fun h=>(h rfl).elim) hlo hhi hg) (cK.same hR ?_ hk);refine .lstn fun z hz=> ?_
       obtain⟨z',_,h'⟩:=Option.map_eq_some_iff.1 hz;rw[←h'];rfl
      |lst hn hy he' h6 h7 h8 h9=>
       rename_i bb p cp z;refine bl (vU he hxa h7 (fun _ q h=>by injection h with h;subst h;exact⟨z,hy,he'.trans hes.symm⟩) hlo (by rw[h6];exact hhi) (by rw[h6];exact hg)) (cK.same hR ?_ hk);subst hes;have hlen:(fZ l a b).length=b.toNat-a.toNat:=by simp only[fZ,List.length_drop,List.length_take];omega
       refine .lst hn hy he' hlen.symm (by omega) ?_ ?_
       ·have:a.toNat*s.w+(b.toNat-a.toNat)*s.w≤l.length*s.w:=by rw[←aE];exact aB _ (by omega)
        simp only;rw[h6]at h8;omega
       ·simp only[fZ];rw[pv,eI];have h10:=(h9.take (b.toNat*s.w)).drop (a.toNat*s.w);rw[Uf _ (by rw[h6];exact aB _ (by omega)),←Nat.sub_mul]at h10;exact h10
     split at h2
     ·rename_i e1 e2
      have hg:cb a b l.length=true:=by
       rw[e1]at hlo;rw[e2]at hhi;simp only[tx]at hlo;simp only[nH]at hhi;injection hlo with hlo
       injection hhi with hhi
       subst hlo;subst hhi;simp[cb]
      refine key hg ?_;rw[e1]at hlo;rw[e2]at hhi;simp only[tx]at hlo;simp only[nH]at hhi;injection hlo with hlo
      injection hhi with hhi
      subst hlo;subst hhi;simp only[fZ,Int.toNat_natCast,Int.toNat_zero,List.drop_zero,List.take_length];exact h2
     ·obtain⟨h3,h4⟩:=ai h2;exact key h3 h4
    ·rename_i q hv;rw[hv]at hx hln;cases hx with
     |full hk _ hd=>
      cases hb:aa c.S q with
      |dead=>rw[hb]at h;cases h
      |arr s z l=>
       rw[hb]at h;obtain⟨h1,h2⟩:=ai h;obtain⟨h3,h4⟩:=ai h2;simp only[lenOf,hb]at hln;injection hln with hln
       obtain⟨n',h5,h6⟩:=hd (s.w,l.length*s.w) (by rw[hb];rfl);have:n'=n:=by rw[←hln];exact aK (fY s) h5
       subst this;exact yC hR he (by rw[hb];rfl) (aA h1) h6 hlo hhi h3 (by rw[aM];exact h4)
      |cells es' z l=>
       rw[hb]at h;obtain⟨h1,h2⟩:=ai h;obtain⟨h3,h4⟩:=ai h2;rw[aC]at h1;simp only[lenOf,hb]at hln;injection hln with hln
       obtain⟨n',h5,h6⟩:=hd (es',l.length) (by rw[hb];rfl);have he1:=aA h1.1;have he2:=aF h1.2
       have:n'=n:=by
        simp only at h5;rw[←hln,←h5,aL _ (by omega)]
       subst this;exact yC hR he (by rw[hb];rfl) he1 h6 hlo hhi h3 (by rw[aM];exact h4)
    ·rename_i q o m hv;rw[hv]at hx hln;cases hx with
     |part hk _ hd=>
      simp only[lenOf]at hln;cases hb:aa c.S q with
      |dead=>rw[hb]at h;cases h
      |arr s z l=>
       rw[hb]at h hln;injection hln with hln
       subst hln;obtain⟨h1,h2⟩:=ai h;obtain⟨h3,h4⟩:=ai h2;exact yC hR he (dm:=(s.w,l.length*s.w)) (by rw[hb];rfl) (aA h1) (hd _ (by rw[hb];rfl)) hlo hhi h3 h4
      |cells es' z l=>
       rw[hb]at h hln;injection hln with hln
       subst hln;obtain⟨h1,h2⟩:=ai h;obtain⟨h3,h4⟩:=ai h2;rw[aC]at h1;exact yC hR he (dm:=(es',l.length)) (by rw[hb];rfl) (aA h1.1) (hd _ (by rw[hb];rfl)) hlo hhi h3 h4
    ·cases h
theorem Cj (s:ByteArray)(a b:Nat):ak (s.extract a b)=((ak s).take b).drop a:=by
 simp[ak,ByteArray.data_extract,Array.toList_extract,List.extract_eq_take_drop,List.map_drop,List.map_take,aI]
theorem Ia (hR:Rel c)(he:an c e ea){x:Operand}{lo hi:Option Operand}(h:zY c.S (ev e x) (lo.map (ev e)) (hi.map (ev e)) k=some y):bj T (.sliceStr x lo hi) ea c.σ (cK c d k y):=by
 have hx:=bg he x;unfold zY at h;split at h
 ·rename_i l hv;rw[hv]at hx;obtain⟨s,h1,rfl⟩:=hx.str_inv;split at h
  ·rename_i a b hlo hhi;obtain⟨h2,h3⟩:=ai h;obtain⟨h4,h5,h6⟩:=jL h2;rw[jK]at h6 hhi;refine bl (v:= .string (s.extract a.toNat b.toNat)) ?_ (cK.same hR (.str (Cj s _ _)) h3);simp only[AOp.run,h1,yi he hhi (by omega) h6 (aD _),yj he hlo h4 (m:=b.toNat) (by omega)]
  ·cases h
 ·cases h
theorem D4 {blk:Blk}{dm:Nat×Nat}(h:blk.dim=some dm):blk.vals.length=dm.2:=by
 cases blk with
 |dead=>cases h
 |cells es z l=>injection h with h;subst h;rfl
 |arr s z l=>injection h with h;subst h;exact cM
theorem H9 (hR:Rel c)(he:an c e ea){es n:Nat}{x:Operand}{lo hi:Option Operand}(h:zX c.S es n (ev e x) (lo.map (ev e)) (hi.map (ev e)) k=some y):bj T (.sliceArr es n x lo hi) ea c.σ (cK c d k y):=by
 have hx:=bg he x;unfold zX at h;split at h
 ·rename_i q o hv;rw[hv]at hx;split at h
  ·rename_i es' l hb;split at h
   ·rename_i a b hlo hhi;obtain⟨h1,h2⟩:=ai h;simp only[aC]at h1;obtain⟨⟨⟨⟨⟨h3,h4⟩,h5⟩,h6⟩,h7⟩,h8⟩:=h1;have h3:=aA h3;have h4:=aF h4;have h5:=aA h5;have h6:=aF h6;have h8:=of_decide_eq_true h8;obtain⟨h9,h10,h11⟩:=jL h7;subst h3;cases hx with
    |ptr hk _ hd=>
     have hdim:(aa c.S q).dim=some (es,l.length):=by rw[hb];rfl
     obtain⟨bb,hm,hp⟩:=hd _ hdim;obtain⟨z,cs,rest,h12,h13,h14,h15,h16⟩:=hR.block hdim hm;rw[hb]at h14 h16;have hl:=h16.length;simp only[Blk.vals]at hl;have hzl:l.length≤z.cells.length:=by rw[h15,aO,hl];omega
     have hdiv:o / es*es=o:=Nat.div_mul_cancel (Nat.dvd_of_mod_eq_zero h5);have hae:(o / es+a.toNat)*es=o+a.toNat*es:=by rw[aE,hdiv]
     refine bl (v:= .slice (some ⟨bb,o+a.toNat*es,none⟩) (b.toNat-a.toNat) (n-a.toNat)) (σ':=c.σ) ?_ (cK.same hR ?_ h2)
     ·simp only[AOp.run,hp,h12];rw[zE ⟨h14 rfl,h13,by omega⟩,yi he hhi (by omega) h11 (aD _)];simp only;rw[yj he hlo h9 (m:=b.toNat) (by omega)];simp only;rw[zE (by omega)]
     ·refine .part hk rfl fun d' hd'=> ?_
      rw[hdim]at hd';injection hd' with hd'
      subst hd';refine .inr ⟨bb,n-a.toNat,z,by simp only[hae],hm, ?_,by omega,h12, ?_⟩
      ·have h17:o / es+a.toNat+(b.toNat-a.toNat)=o / es+b.toNat:=by omega
       simp only;rw[h17,aE,hdiv];have:b.toNat*es≤n*es:=aB _ (by omega);omega
      ·have h17:o / es+a.toNat+(n-a.toNat)=o / es+n:=by omega
       simp only;rw[h17,aE,hdiv];omega
   ·cases h
  ·rename_i s l hb;split at h
   ·rename_i a b hlo hhi;obtain⟨h1,h2⟩:=ai h;simp only[aC]at h1;obtain⟨⟨⟨⟨h3,h5⟩,h6⟩,h7⟩,h8⟩:=h1;have h3:=aA h3;have h5:=aA h5;have h6:=aF h6;have h8:=of_decide_eq_true h8;obtain⟨h9,h10,h11⟩:=jL h7;subst h3;subst h5;cases hx with
    |ptr hk _ hd=>
     have hdim:(aa c.S q).dim=some (s.w,l.length*s.w):=by rw[hb];rfl
     obtain⟨bb,hm,hp⟩:=hd _ hdim;obtain⟨z,cs,rest,h12,h13,h14,h15,h16⟩:=hR.block hdim hm;have hl:=h16.length;rw[D4 hdim]at hl;rw[hb]at h14;have hle:n*s.w≤l.length*s.w:=aB _ h6;have hzl:l.length*s.w≤z.cells.length:=by rw[h15,aO];simp only at hl;omega
     have h17:(a.toNat+(b.toNat-a.toNat))*s.w≤l.length*s.w:=aB _ (by omega);have h18:(a.toNat+(n-a.toNat))*s.w≤l.length*s.w:=aB _ (by omega);refine bl (v:= .slice (some ⟨bb,0+a.toNat*s.w,none⟩) (b.toNat-a.toNat) (n-a.toNat)) (σ':=c.σ) ?_ (cK.same hR ?_ h2)
     ·simp only[AOp.run,hp,h12];rw[zE ⟨h14 rfl,h13,by omega⟩,yi he hhi (by omega) h11 (aD _)];simp only;rw[yj he hlo h9 (m:=b.toNat) (by omega)];simp only;rw[zE (by omega)]
     ·refine .part hk rfl fun d' hd'=> ?_
      rw[hdim]at hd';injection hd' with hd'
      subst hd';exact .inr ⟨bb,n-a.toNat,z,by simp only[aM],hm,h17,by omega,h12,by simp only;omega⟩
   ·cases h
  ·cases h
 ·cases h
theorem QH (hR:Rel c)(he:an c e ea){n:Nat}{x:Operand}(h:Lf c.S (QG c.S n (ev e x)) k=some y):bj T (.off n x) ea c.σ (cK c d k y):=by
 have hx:=bg he x
 have key: ∀w b o,ea.ev x= .pointer (some ⟨b,o,none⟩)→VRel c w (.pointer (some ⟨b,o+n,none⟩))→k w c.S=some y→bj T (.off n x) ea c.σ (cK c d k y):=by
  intro w b o h1 hw hk;exact bl (by simp only[AOp.run,h1]) (cK.same hR hw hk)
 generalize ev e x=xv at*;cases xv<;>simp only[QG]at h<;>try(cases h;done)
 case ptr q o=>
  cases hl:(aa c.S q).live with
  |false=>rw[hl]at h;cases h
  |true=>
   rw[hl]at h;obtain⟨dd,hdd⟩:=li hl;cases hx with
   |ptr hk _ hd=>
    obtain⟨b,hm,hp⟩:=hd dd hdd;exact key _ b o hp (.ptr hk rfl fun d' _=>⟨b,hm,rfl⟩) h
 case pix q o m i=>
  cases hl:(aa c.S q).live with
  |false=>rw[hl]at h;cases h
  |true=>
   rw[hl]at h;obtain⟨dd,hdd⟩:=li hl;cases hx with
   |pix hk h1 hi hd=>
    obtain⟨b,hm,hp⟩:=hd dd hdd;cases hn:aG n 0 with
    |false=>rw[hn]at h;cases h
    |true=>
     rw[hn]at h;have:=aA hn;subst this;exact key _ b (o+i) hp (.pix hk rfl hi fun d' _=>⟨b,hm,rfl⟩) h
 case pel q i o=>
  cases hl:(aa c.S q).live with
  |false=>rw[hl]at h;cases h
  |true=>
   rw[hl]at h;obtain⟨dd,hdd⟩:=li hl;cases hx with
   |pel hk _ hd=>
    obtain⟨b,hm,hp⟩:=hd dd hdd;refine key _ b _ hp (.pel hk rfl fun d' hd'=>⟨b,hm, ?_⟩) h;rw[hdd]at hd';injection hd' with hd'
    subst hd';rw[aJ]
 case pin s z o=>
  generalize hxa:ea.ev x=xa at hx;cases hx with
  |pin hn hy hl hf=>
   refine key _ _ _ hxa ?_ h;rw[aJ];exact .pin hn hy hl hf
theorem JY {es:Nat}{x i:Operand}{b o n cp:Nat}{kd:IntKind}{z:Int}(hx:ea.ev x= .slice (some ⟨b,o,none⟩) n cp)(hi:ea.ev i= .int kd z)(h0:0≤z)(hn:z<n):
  (AOp.idx es x i).run ea c.σ=some (.pointer (some ⟨b,o+z.toNat*es,none⟩),c.σ):=by
 simp only[AOp.run,hx,hi];rw[zE ⟨h0,hn⟩]
theorem rC (hR:Rel c)(he:an c e ea){es q o n:Nat}{dm:Nat×Nat}{x i:Operand}{z:Int}{w:VV}{kd:IntKind}(hs:xy c q o n dm (ea.ev x))(hi:ea.ev i= .int kd z)(h0:0≤z)(hn:z<n)
  (hw: ∀b,c.μ q=some b→VRel c w (.pointer (some ⟨b,o*dm.1+z.toNat*es,none⟩))) (hk:k w c.S=some y):bj T (.idx es x i) ea c.σ (cK c d k y):=by
 rcases hs with⟨_,_,h3,_,_⟩|⟨b,cp,x',h1,h2,_⟩
 ·omega
 ·exact bl (JY h1 hi h0 hn) (cK.same hR (hw b h2) hk)
theorem Qw (hR:Rel c)(he:an c e ea){es:Nat}{x i:Operand}(h:Qv c.S es (ev e x) (ev e i) k=some y):bj T (.idx es x i) ea c.σ (cK c d k y):=by
 have hx:=bg he x;have hi:=bg he i;unfold Qv at h;split at h
 ·rename_i kd z hz;rw[hz]at hi;have hi:=hi.int_inv;split at h
  ·rename_i s l hv;rw[hv]at hx;obtain⟨h1,h2⟩:=ai h;have h1:=aA h1;obtain⟨el,h3,h4⟩:=ah h2;obtain⟨h5,h6,h7⟩:=Ki h3;generalize hxa:ea.ev x=xa at hx;cases hx with
   |lstn=>simp at h6;omega
   |lst hn hy he' h8 h9 h10 h11=>
    rename_i b p cp blk;subst h1;refine bl (JY hxa hi h5 (by rw[h8];exact h6)) (cK.same hR ?_ h4);have h12:z.toNat*s.w+s.w≤l.length*s.w:=by rw[←Nat.succ_mul];exact aB _ (by omega)
    have h13:=(h11.drop (z.toNat*s.w)).take s.w;rw[zu h7,aI,List.drop_drop,List.take_take,Nat.min_eq_left (by rw[h8];omega)]at h13;exact VRel.pin (o:=0) hn hy (by rw[h8]at h10;exact aH (Nat.le_of_eq (aJ _ _ _)) (aH (Nat.add_le_add_left h12 _) h10)) h13
  ·rename_i q hv;rw[hv]at hx;cases hx with
   |full hk _ hd=>
    cases hb:aa c.S q with
    |dead=>rw[hb]at h;cases h
    |arr s z' l=>
     rw[hb]at h;obtain⟨h1,h2⟩:=ai h;obtain⟨j,h3,h4⟩:=ah h2;obtain⟨h5,h6,rfl,h7⟩:=vG h3;have hdim:(aa c.S q).dim=some (s.w,l.length*s.w):=by rw[hb];rfl
     obtain⟨n,h8,h9⟩:=hd _ hdim;have:n=l.length:=aK (fY s) h8;subst this;refine rC hR he h9 hi h5 h6 (fun b hm=> .pel hk rfl fun d' hd'=>⟨b,hm, ?_⟩) h4;rw[hdim]at hd';injection hd' with hd'
     subst hd';rw[aA h1];simp
    |cells es' z' l=>
     rw[hb]at h;obtain⟨h1,h2⟩:=ai h;rw[aC]at h1;have h11:=aA h1.1;have h12:=aF h1.2;subst h11;obtain⟨j,h3,h4⟩:=ah h2;obtain⟨h5,h6,rfl,h7⟩:=vG h3;have hdim:(aa c.S q).dim=some (es,l.length):=by rw[hb];rfl
     obtain⟨n,h8,h9⟩:=hd _ hdim
     have hn:n=l.length / es:=by
      simp only at h8;rw[←h8,aL _ (by omega)]
     cases he1:aG es 1 with
     |true=>
      rw[he1]at h4;have he1:=aA he1;subst he1;refine rC hR he h9 hi h5 (by rw[hn];exact h6) (fun b hm=> .pix hk rfl (by rw[Nat.div_one]at h7;exact h7) fun d' hd'=>⟨b,hm,by simp⟩) h4
     |false=>
      rw[he1]at h4;refine rC hR he h9 hi h5 (by rw[hn];exact h6) (fun b hm=> .ptr hk rfl fun d' hd'=>⟨b,hm,by simp⟩) h4
  ·rename_i q o n hv;rw[hv]at hx;cases hx with
   |part hk _ hd=>
    cases hb:aa c.S q with
    |dead=>rw[hb]at h;cases h
    |arr s z' l=>
     rw[hb]at h;obtain⟨h1,h2⟩:=ai h;obtain⟨j,h3,h4⟩:=ah h2;obtain⟨h5,h6,rfl,h7⟩:=vG h3;have hdim:(aa c.S q).dim=some (s.w,l.length*s.w):=by rw[hb];rfl
     refine rC hR he (hd _ hdim) hi h5 h6 (fun b hm=> .pel hk rfl fun d' hd'=>⟨b,hm, ?_⟩) h4;rw[hdim]at hd';injection hd' with hd'
     subst hd';rw[aA h1,aE];simp
    |cells es' z' l=>
     rw[hb]at h;obtain⟨h1,h2⟩:=ai h;rw[aC]at h1;have h11:=aA h1.1;subst h11;obtain⟨j,h3,h4⟩:=ah h2;obtain⟨h5,h6,rfl,h7⟩:=vG h3;have hdim:(aa c.S q).dim=some (es,l.length):=by rw[hb];rfl
     cases he1:aG es 1 with
     |true=>
      rw[he1]at h4;have he1:=aA he1;subst he1;refine rC hR he (hd _ hdim) hi h5 h6 (fun b hm=> .pix hk rfl h7 fun d' hd'=>⟨b,hm,by simp⟩) h4
     |false=>
      rw[he1]at h4;refine rC hR he (hd _ hdim) hi h5 h6 (fun b hm=> .ptr hk rfl fun d' hd'=>⟨b,hm,by simp[aE]⟩) h4
  ·cases h
 ·cases h
theorem Oz (hR:Rel c)(he:an c e ea){ln es:Nat}{x i:Operand}(h:Mq c.S ln es (ev e x) (ev e i) k=some y):bj T (.idxA ln es x i) ea c.σ (cK c d k y):=by
 have hx:=bg he x;have hi:=bg he i;unfold Mq at h;split at h
 ·rename_i q o kd z hv hz;rw[hv]at hx;rw[hz]at hi;have hi:=hi.int_inv;obtain⟨hl,h⟩:=ai h;obtain⟨j,h3,h4⟩:=ah h;obtain⟨h5,h6,rfl,h7⟩:=vG h3;cases hx with
  |ptr hk _ hd=>
    obtain⟨dd,hdd⟩:=li hl;obtain⟨b,hm,hp⟩:=hd dd hdd
    have hrun:(AOp.idxA ln es x i).run ea c.σ=some (.pointer (some ⟨b,o+z.toNat*es,none⟩),c.σ):=by
     simp only[AOp.run,hp,hi];rw[zE ⟨h5,h6⟩]
    refine bl hrun ?_;cases he1:aG es 1 with
    |true=>
     rw[he1]at h4;have he1:=aA he1;subst he1;exact cK.same hR (.pix hk rfl h7 fun d' hd'=>⟨b,hm,by simp⟩) h4
    |false=>
     rw[he1]at h4;exact cK.same hR (.ptr hk rfl fun d' hd'=>⟨b,hm,rfl⟩) h4
 ·cases h
end
end
section
open Bool renaming and_eq_true → aC
open List renaming length_append → aF, length_take → aG, take_of_length_le → aH, replicate → aM, length_drop → aO, length_nil → aP, drop_zero → aR, replicate_succ → aS, append_assoc → aT, flatten_cons → aU, take_take → aV, drop_eq_nil_of_le → bC, getD_eq_getElem?_getD → bD, length_cons → bF, take_append_of_le_length → bG
open Nat renaming beq → aA, eq_of_beq_eq_true → aB, le_refl → aD, zero_add → aE, add_mul → aI, le_of_ble_eq_true → aJ, eq_of_mul_eq_mul_right → aK, mul_le_mul_right → aL, ble → aN, min_eq_left → aQ, eq_zero_or_pos → aW, min_le_left → aX, mul_div_cancel → aY, mul_one → aZ, mul_pos → bA, zero_mul → bB, le_of_mul_le_mul_right → bH, mul_le_mul_left → bI
open Option renaming getD_some → bJ
section
variable {β:Type} {T:dn} {c:Ctx} {e:bu} {ea:br} {k:VV→ae→Option β} {y:β} {d:List Nat}
theorem rI : ∀{z:List Value} {s:Sh},AO z=some s→F2 (VRel c) (ce s (lv s)) z
 |[],s,h=>by simp[AO]at h
 |v::r,s,h=>by
  unfold AO at h;split at h
  ·rename_i h0;injection h0 with h1 h2
   subst h1;subst h2;injection h with h;subst h
   exact .cons (.int _ _) .nil
  ·rename_i h0;injection h0 with h1 h2
   subst h1;subst h2;injection h with h;subst h
   exact .cons (.bool _) .nil
  ·rename_i h0;injection h0 with h1 h2
   subst h1;subst h2;obtain⟨s',h3,h4⟩:=ah h;injection h4 with h4;subst h4
   exact .cons (.int _ _) (rI h3)
  ·rename_i h0;injection h0 with h1 h2
   subst h1;subst h2;obtain⟨s',h3,h4⟩:=ah h;injection h4 with h4;subst h4
   exact .cons (.bool _) (rI h3)
  ·cases h
theorem ju {s:Sh}{x:El s}: ∀n,cv s (aM n x)=(aM n (ce s x)).flatten
 |0=>rfl
 |n+1=>by rw[aS,cL,ju n,aS,aU]
theorem E5 (z:List Value)(m n:Nat):co z (m+n)=co z m++co z n:=by
 simp only[co];rw[←List.replicate_append_replicate,List.flatten_append]
theorem E6 (z:List Value)(n:Nat):(co z n).length=n*z.length:=by
 simp[co,List.length_flatten,List.map_replicate]
theorem OM (hR:Rel c)(he:an c e ea){es bytes:Nat}{z:List Value}{l m:Operand}(h:MN c.S es bytes z (ev e l) (ev e m) k=some y):bj T (.makeSlice es bytes z l m) ea c.σ (cK c d k y):=by
 have hl:=bg he l;have hm:=bg he m;unfold MN at h;split at h
 ·rename_i k1 a k2 b s h1 h2 hs;rw[h1]at hl;rw[h2]at hm;obtain⟨hg,hk⟩:=ai h;simp only[aC]at hg;obtain⟨⟨⟨⟨g1,g2⟩,g3⟩,g4⟩,g5⟩:=hg;have g1:=aB g1;have g2:=of_decide_eq_true g2;have g3:=of_decide_eq_true g3;have g4:=of_decide_eq_true g4;have g5:=aJ g5;have hz:=rI (c:=c) hs;have hzl:z.length=s.w:=by rw[←hz.length,cm]
  have hb:b≤bytes*b:=by
   have:(1:Int)*b≤bytes*b:=Int.mul_le_mul_of_nonneg_right (by omega) (by omega);omega
  refine bl (v:= .slice (some ⟨c.σ.n,0,none⟩) a.toNat b.toNat) (σ':=c.σ.add ⟨co z b.toNat,true,es⟩) ?_ ?_
  ·simp only[AOp.run,hl.int_inv,hm.int_inv];rw[zE ⟨g2,g3,by omega,by omega⟩]
  ·have hab:co z b.toNat=co z a.toNat++co z (b.toNat-a.toNat):=by rw[←E5];congr 1;omega
   have hrel:F2 (VRel c) (cv s (aM a.toNat (lv s))) (co z a.toNat):=by
    rw[ju];clear hab;generalize a.toNat=n;induction n with
    |zero=>exact .nil
    |succ n ih=>
     simp only[co,aS,aU]at ih⊢;exact hz.append ih
   have hmv:Moves c none (some c.σ.n) (.arr s false (aM a.toNat (lv s))) (c.σ.add ⟨co z b.toNat,true,es⟩):=by
    refine⟨(fun b h _ hb=>by injection h with h;subst h;exact Nat.lt_irrefl _ (hR.fbl _ hb)),(fun _ h=>by cases h),fun q x hx=> ?_,Nat.le_succ _,fun i x hx _=> ?_,(s.w,(aM a.toNat (lv s)).length*s.w),rfl,fY s, .inr ⟨c.σ.n,⟨co z b.toNat,true,es⟩,co z a.toNat,co z (b.toNat-a.toNat),rfl,zE rfl,g1,fun _=>rfl,hab,hrel, .inl fun w hw=> ?_⟩⟩
    ·simp only[Hp.add]at hx⊢;split at hx
     ·omega
     ·have:=hR.ok q x hx;omega
    ·have:=hR.ok i x hx;simp only[Hp.add];rw[zF (by omega)];exact hx
    ·have:=hR.ok _ _ hw;omega
   refine cK.new (kill:=none) hR hmv (fun _ h=>by cases h) (ni (dm:=(s.w,(aM a.toNat (lv s)).length*s.w)) (n:=a.toNat) (m:=b.toNat) (yb:=⟨co z b.toNat,true,es⟩) rfl (by simp) (by omega) (zE rfl) ?_) hk;rw[E6,hzl];exact aD _
 ·cases h
def More.cellsOf :More→List VV
 | .cells l=>l
 | .lst s l=>cv s l
theorem C0 {x:Ab.Blk}{o n m:Nat}(h:o+n≤x.cells.length)(hm:m≤n):iN x o m=some (((x.cells.drop o).take n).take m):=by
 unfold iN;rw[zE (by omega),aV,aQ hm]
theorem vR (hR:Rel c){q o n es:Nat}{dm:Nat×Nat}{a:Value}(hd:(aa c.S q).dim=some dm)(he:dm.1=es)(hs:xy c q o n dm a):
  ∃all,tK a=some n∧(∀m,m≤n→c.σ.slice es a m=some (all.take (m*es)))∧all.length=n*es∧F2 (VRel c) (((aa c.S q).vals.drop (o*es)).take (n*es)) all:=by
 subst he;rcases hs with⟨rfl,rfl,rfl,hm,hz⟩|⟨b,cp,x,rfl,hm,h3,h4,hx,h5⟩
 ·refine⟨[],rfl,fun m hm'=> ?_,by simp,by simp;exact .nil⟩;have:m=0:=by omega
  subst this;simp[Hp.slice]
 ·obtain⟨y0,cs,rest,h6,_,_,h7,h8⟩:=hR.block hd hm;rw[hx]at h6;injection h6 with h6
  subst h6;have hl:=h8.length
  have hvl:(aa c.S q).vals.length=dm.2:=by
   generalize aa c.S q=blk at hd;cases blk with
   |dead=>cases hd
   |cells es z l=>injection hd with hd;subst hd;rfl
   |arr s z l=>injection hd with hd;subst hd;exact cM
  rw[aI]at h3;have h9:((cs.drop (o*dm.1)).take (n*dm.1)).length=n*dm.1:=by rw[aG,aO];omega
  refine⟨(cs.drop (o*dm.1)).take (n*dm.1),rfl,fun m hm'=> ?_,h9,(h8.drop _).take _⟩;have h10:m*dm.1≤n*dm.1:=aL _ hm';by_cases hm0:m=0
  ·subst hm0;simp[Hp.slice]
  simp only[Hp.slice,hx,zF hm0];rw[C0 (n:=n*dm.1) (by rw[h7,aF];omega) h10,h7,List.drop_append_of_le_length (by omega),bG (l₁:=cs.drop (o*dm.1)) (by rw[aO];omega)]
theorem lV (hR:Rel c){es:Nat}{v:VV}{a:Value}{m:More}(h:cX c.S es v=some m)(hv:VRel c v a):
  ∃n all,tK a=some n∧(∀i,i≤n→c.σ.slice es a i=some (all.take (i*es)))∧all.length=n*es∧F2 (VRel c) m.cellsOf all∧(∀s l,m= .lst s l→es=s.w∧n=l.length):=by
 cases v<;>simp only[cX]at h<;>try(cases h;done)
 case nils=>
  injection h with h;subst h
  cases hv;refine⟨0,[],rfl,fun i hi=> ?_,by simp, .nil,fun s l h=>by cases h⟩;have:i=0:=by omega
  subst this;simp[Hp.slice]
 case str l=>
  cases he:aA es 1 with
  |false=>rw[he]at h;cases h
  |true=>
   rw[he]at h;have he:=aB he;subst he;injection h with h;subst h
   obtain⟨s,rfl,rfl⟩:=hv.str_inv;refine⟨s.size,s.data.toList.map fun b=> .int .u8 b.toNat,rfl,fun i hi=> ?_,by simp, ?_,fun s' l h=> ?_⟩
   ·simp only[Hp.slice,if_true,aZ];simp[ByteArray.data_extract,Array.toList_extract,List.extract_eq_take_drop,List.map_take]
   ·simp only[More.cellsOf,ak,cv];generalize s.data.toList=l;induction l with
    |nil=>exact .nil
    |cons b l ih=>exact .cons (.int _ _) ih
   ·injection h with h1 h2
    subst h1;cases h2;exact⟨rfl,(jK s).symm⟩
 case lst s l=>
  cases he:aA es s.w with
  |false=>rw[he]at h;cases h
  |true=>
   rw[he]at h;have he:=aB he;subst he;injection h with h;subst h
   refine⟨l.length, ?_⟩;rcases hv.listAt with⟨qq,rfl,rfl,hqq⟩|⟨b,p,cp,x,rfl,h1,h2,h3,h4,h5⟩
   ·refine⟨[],rfl,fun i hi=> ?_,by simp, .nil,fun s' l h=>by injection h with h1 h2;subst h1;cases h2;exact⟨rfl,rfl⟩⟩;have:i=0:=by simp at hi;exact hi
    subst this;cases qq with
    |none=>simp[Hp.slice]
    |some z=>
     have:=hqq z rfl;obtain⟨zb,zo,zs⟩:=z;simp only at this;subst this;simp[Hp.slice]
   ·refine⟨(x.cells.drop p).take (l.length*s.w),rfl,fun i hi=> ?_,by rw[←h5.length,cM],h5,fun s' l' h=>by injection h with h1 h2;subst h1;cases h2;exact⟨rfl,rfl⟩⟩;by_cases hi0:i=0
    ·subst hi0;simp[Hp.slice]
    simp only[Hp.slice,h1,zF hi0];exact C0 h4 (aL _ hi)
 case full q=>
  cases hv with
  |full hk _ hd=>
   cases hb:aa c.S q with
   |dead=>rw[hb]at h;cases h
   |arr s z l=>
    rw[hb]at h;cases he:aA es s.w with
    |false=>simp only[he]at h;cases h
    |true=>
     simp only[he]at h;have he:=aB he;subst he;injection h with h;subst h
     have hdim:(aa c.S q).dim=some (s.w,l.length*s.w):=by rw[hb];rfl
     obtain⟨n,h1,h2⟩:=hd _ hdim;have:n=l.length:=aK (fY s) h1;subst this;obtain⟨all,h3,h4,h5,h6⟩:=vR hR hdim rfl h2;rw[hb,bB,aR,aH (by simp[Blk.vals,cM])]at h6;exact⟨_,all,h3,h4,h5,h6,fun s' l' h=>by injection h with h1 h2;subst h1;cases h2;exact⟨rfl,rfl⟩⟩
   |cells es' z l=>
    rw[hb]at h;cases he:(aA es es'&&aN 1 es)with
    |false=>simp only[he]at h;cases h
    |true=>
     simp only[he]at h;rw[aC]at he;have he1:=aB he.1;subst he1;injection h with h;subst h
     have hdim:(aa c.S q).dim=some (es,l.length):=by rw[hb];rfl
     obtain⟨n,h1,h2⟩:=hd _ hdim;obtain⟨all,h3,h4,h5,h6⟩:=vR hR hdim rfl h2;simp only at h1;rw[hb,bB,aR,h1,aH (by exact aD _)]at h6;exact⟨_,all,h3,h4,h5,h6,fun s' l' h=>by cases h⟩
 case part q o n=>
  cases hv with
  |part hk _ hd=>
   cases hb:aa c.S q with
   |dead=>rw[hb]at h;cases h
   |arr s z l=>
    rw[hb]at h;cases he:aA es s.w with
    |false=>simp only[he]at h;cases h
    |true=>
     simp only[he]at h;have he:=aB he;subst he;injection h with h;subst h
     have hdim:(aa c.S q).dim=some (s.w,l.length*s.w):=by rw[hb];rfl
     have h2:=hd _ hdim;obtain⟨all,h3,h4,h5,h6⟩:=vR hR hdim rfl h2;rw[hb]at h6;simp only[Blk.vals]at h6;rw[←pv,←eI]at h6
     have h7:n=((l.drop o).take n).length:=by
      have:=h6.length;rw[cM,h5]at this;exact(aK (fY s) this).symm
     exact⟨_,all,h3,h4,h5,h6,fun s' l' h=>by injection h with h1 h2;subst h1;cases h2;exact⟨rfl,h7⟩⟩
   |cells es' z l=>
    rw[hb]at h;cases he:(aA es es'&&aN 1 es)with
    |false=>simp only[he]at h;cases h
    |true=>
     simp only[he]at h;rw[aC]at he;have he1:=aB he.1;subst he1;injection h with h;subst h
     have hdim:(aa c.S q).dim=some (es,l.length):=by rw[hb];rfl
     have h2:=hd _ hdim;obtain⟨all,h3,h4,h5,h6⟩:=vR hR hdim rfl h2;rw[hb]at h6;exact⟨_,all,h3,h4,h5,h6,fun s' l' h=>by cases h⟩
def Base.cellsOf :Base→List VV
 | .none=>[]
 | .cells _ l=>l
 | .arr s l=>cv s l
structure BaseAt (c:Ctx)(es sl:Nat)(base:Base)(kill:Option Nat)(a:Value):Prop where
 no:kill=none→a= .slice none 0 0∧sl=0∧base= .none
 yes: ∀q,kill=some q→∃dm,(aa c.S q).dim=some dm∧dm.1=es∧(aa c.S q).frozen=false∧xy c q 0 sl dm a∧base.cellsOf=(aa c.S q).vals.take (sl*es)
 es: ∀e l,base= .cells e l→e=es∧1≤es
theorem sH {blk:Blk}{dm:Nat×Nat}(h:blk.dim=some dm):blk.vals.length=dm.2:=by
 cases blk with
 |dead=>cases h
 |cells es z l=>injection h with h;subst h;rfl
 |arr s z l=>injection h with h;subst h;exact cM
theorem KA {es:Nat}{v:VV}{a:Value}{base:Base}{kill:Option Nat}(hR:Rel c)(h:qF c.S es v=some (base,kill))(hv:VRel c v a): ∃sl,BaseAt c es sl base kill a∧base.cellsOf.length=sl*es∧(∀s l,base= .arr s l→es=s.w∧sl=l.length):=by
 cases v<;>try(cases h;done)
 case nils=>
  simp only[qF]at h;injection h with h
  injection h with h1 h2
  subst h1;subst h2;cases hv;exact⟨0,⟨fun _=>⟨rfl,rfl,rfl⟩,(fun q h=>by cases h),(fun e l h=>by cases h)⟩,by simp[Base.cellsOf],fun s l h=>by cases h⟩
 case full q=>
  simp only[qF]at h;cases hv with
  |full hk _ hd=>
   cases hb:aa c.S q with
   |dead=>rw[hb]at h;cases h
   |arr s z l=>
    rw[hb]at h;cases z with
    |true=>cases h
    |false=>
     simp only at h;cases he:aA es s.w with
     |false=>rw[he]at h;cases h
     |true=>
      rw[he]at h;have he:=aB he;subst he;injection h with h
      injection h with h1 h2
      subst h1;subst h2;have hdim:(aa c.S q).dim=some (s.w,l.length*s.w):=by rw[hb];rfl
      obtain⟨n,h1,h2⟩:=hd _ hdim;have:n=l.length:=aK (fY s) h1;subst this;refine⟨l.length,⟨(fun h=>by cases h),fun q' h=> ?_,(fun e l h=>by cases h)⟩,cM,fun s' l' h=>by injection h with h1 h2;subst h1;cases h2;exact⟨rfl,rfl⟩⟩;injection h with h
      subst h;refine⟨_,hdim,rfl,by rw[hb];rfl,h2, ?_⟩;rw[hb];exact(aH (by rw[show(Base.arr s l).cellsOf=cv s l from rfl,cM];exact aD _)).symm
   |cells es' z l=>
    rw[hb]at h;cases z with
    |true=>cases h
    |false=>
     simp only at h;cases he:(aA es es'&&aN 1 es)with
     |false=>rw[he]at h;cases h
     |true=>
      rw[he]at h;rw[aC]at he;have he1:=aB he.1;subst he1;injection h with h
      injection h with h1 h2
      subst h1;subst h2;have hdim:(aa c.S q).dim=some (es,l.length):=by rw[hb];rfl
      obtain⟨n,h1,h2⟩:=hd _ hdim;simp only at h1;refine⟨n,⟨(fun h=>by cases h),fun q' h=> ?_,fun e l h=>by injection h with h1 h2;exact⟨h1.symm,aJ he.2⟩⟩,h1.symm,fun s' l' h=>by cases h⟩;injection h with h
      subst h;refine⟨_,hdim,rfl,by rw[hb];rfl,h2, ?_⟩;rw[hb,h1];exact(aH (aD _)).symm
 case part q lo n=>
  cases lo with
  |succ lo=>cases h
  |zero=>
   simp only[qF]at h;cases hv with
   |part hk _ hd=>
    cases hb:aa c.S q with
    |dead=>rw[hb]at h;cases h
    |arr s z l=>
     rw[hb]at h;cases z with
     |true=>cases h
     |false=>
      simp only at h;cases he:aA es s.w with
      |false=>rw[he]at h;cases h
      |true=>
       rw[he]at h;have he:=aB he;subst he;injection h with h
       injection h with h1 h2
       subst h1;subst h2;have hdim:(aa c.S q).dim=some (s.w,l.length*s.w):=by rw[hb];rfl
       have h2:=hd _ hdim
       have hn:n≤l.length:=by
        rcases h2 with⟨_,_,h3,_,_⟩|⟨b,cp,x,_,_,h3,_⟩
        ·omega
        ·rw[aE]at h3;exact bH h3 (fY s)
       have hlen:(l.take n).length=n:=by rw[aG];omega
       refine⟨n,⟨(fun h=>by cases h),fun q' h=> ?_,(fun e l h=>by cases h)⟩,by simp only[Base.cellsOf];rw[cM,hlen],fun s' l' h=>by injection h with h1 h2;subst h1;cases h2;exact⟨rfl,hlen.symm⟩⟩;injection h with h
       subst h;refine⟨_,hdim,rfl,by rw[hb];rfl,h2, ?_⟩;rw[hb];exact eI
    |cells es' z l=>
     rw[hb]at h;cases z with
     |true=>cases h
     |false=>
      simp only at h;cases he:(aA es es'&&aN 1 es)with
      |false=>rw[he]at h;cases h
      |true=>
       rw[he]at h;rw[aC]at he;have he1:=aB he.1;subst he1;injection h with h
       injection h with h1 h2
       subst h1;subst h2;have hdim:(aa c.S q).dim=some (es,l.length):=by rw[hb];rfl
       have h2:=hd _ hdim
       have hn:n*es≤l.length:=by
        rcases h2 with⟨_,_,h3,_,_⟩|⟨b,cp,x,_,_,h3,_⟩
        ·subst h3;simp
        ·rwa [aE]at h3
       refine⟨n,⟨(fun h=>by cases h),fun q' h=> ?_,fun e l h=>by injection h with h1 h2;exact⟨h1.symm,aJ he.2⟩⟩,by simp only[Base.cellsOf];rw[aG];omega,fun s' l' h=>by cases h⟩;injection h with h
       subst h;exact⟨_,hdim,rfl,by rw[hb];rfl,h2,by rw[hb];rfl⟩
theorem Nr {vs cs:List Value}(h:cs.length=vs.length):eL cs 0 vs=vs:=by
 induction vs generalizing cs with
 |nil=>simp only[eL];exact List.length_eq_zero_iff.1 h
 |cons v vs ih=>
  cases cs with
  |nil=>simp at h
  |cons a cs=>
   have h1:cs.length=vs.length:=by simpa using h
   show eL ((a::cs).set 0 v) (0+1) vs=_;have h2:=pI vs [v] cs 0;simp only[bF,aP,List.singleton_append,aE]at h2;rw[List.set_cons_zero,h2,ih h1]
theorem F8 {vs cs:List Value}{p:Nat}(h:p+vs.length≤cs.length):eL cs p vs=cs.take p++(vs++cs.drop (p+vs.length)):=by
 have:=Dh (vs:=vs) (cs:=cs) (p:=p) (o:=0) (w:=vs.length) (by omega) h;rw[Nat.add_zero,Nr (by rw[aG,aO];omega)]at this;exact this
theorem Fv {σ:Hp}{x z:Ab.Blk}{b i:Nat}(h:((σ.set b none).add x).m i=some z):i=σ.n∨(i≠b∧σ.m i=some z):=by
 by_cases h1:i=σ.n
 ·exact .inl h1
 ·refine .inr ?_;have h2:((σ.set b none).add x).m i=(σ.set b none).m i:=zF h1;rw[h2]at h;by_cases h3:i=b
  ·have h4:(σ.set b none).m i=none:=zE h3;rw[h4]at h;cases h
  ·have h4:(σ.set b none).m i=σ.m i:=zF h3;exact⟨h3,h4▸h⟩
theorem GC {σ:Hp}{x:Ab.Blk}{b i:Nat}(h1:i≠σ.n)(h3:i≠b):((σ.set b none).add x).m i=σ.m i:=by
 have h2:((σ.set b none).add x).m i=(σ.set b none).m i:=zF h1;have h4:(σ.set b none).m i=σ.m i:=zF h3;exact h2.trans h4
structure Grown (c:Ctx)(base more:List VV)(es n:Nat)(blk:Blk):Prop where
 dim:blk.dim=some (es,n*es)
 fz:blk.frozen=false
 rel: ∀bs ms,F2 (VRel c) base bs→F2 (VRel c) more ms→F2 (VRel c) blk.vals (bs++ms)
theorem jI {c1:Ctx}{es bytes sl n:Nat}{base:Base}{kill:Option Nat}{more:List VV}{blk:Blk}{s:Operand}{op:AOp}{all:List Value}(hR:Rel c1)(hS:i1 c.S c1.S)(hμ:c1.μ=c.μ)(hσ:c1.σ=c.σ)(hle:Le c c1)(hcalm:lx d c c1)
  (he1:1≤es) (hb:BaseAt c es sl base kill (ea.ev s)) (hkz: ∀q,kill=some q→(aa c1.S q).frozen=false)
  (hop: ∀a sl' sc,ea.ev s= .slice a sl' sc→op.run ea c.σ=fR es bytes c.σ a sl' sc n all) (h3:all.length=n*es) (h4:F2 (VRel c1) more all) (h5:all.all one=true) (hg:Grown c1 base.cellsOf more es (sl+n) blk)
  (hf:cG (sl+n) bytes=true) (hd: ∀q,kill=some q→q∈d) (hk:k (.full c1.S.length) (gY c1.S kill++[blk])=some y):bj T op ea c.σ (cK c d k y):=by
 have hfit:(sl+n)*bytes≤140737488355328∧sl+n≤9223372036854775807:=by
  unfold cG at hf;rw[aC]at hf;have g1:=of_decide_eq_true hf.1;have g2:=aJ hf.2;refine⟨g1, ?_⟩;have:(sl+n)*1≤(sl+n)*bytes:=bI _ g2;omega
 have hnew:all=[]→n=0:=by
  intro h;subst h;simp only[aP]at h3;rcases aW n with h|h
  ·exact h
  ·have:=bA h he1;omega
 have fin: ∀{v:Value} {σ':Hp} {b1:Option Nat},Moves c1 kill b1 blk σ'→VRel ⟨lj c1 b1,gY c1.S kill++[blk],σ',c1.fb⟩ (.full c1.S.length) v→cK c d k y v σ':=by
  intro v σ' b1 hm hv;exact⟨_,_,rfl,hle.trans (hm.le hR),hm.rel hR,hcalm.trans (hm.calm hR hd) hle,hv,hk⟩
 cases kill with
 |none=>
  obtain⟨e1,e2,e3⟩:=hb.no rfl;subst e2;subst e3;by_cases hn:n=0
  ·subst hn;have:all=[]:=by simpa using h3
   subst this;have hmv:Moves c1 none none blk c1.σ:=⟨(fun _ h=>by cases h),(fun _ h=>by cases h),hR.ok,aD _,fun _ _ h _=>h,_,hg.dim,he1, .inl ⟨rfl,by simp⟩⟩;refine bl (v:= .slice none 0 0) (σ':=c.σ) ?_ ?_
   ·rw[hop _ _ _ e1];unfold fR;rw[zE (by simp)];simp
   ·rw[←hσ];refine fin hmv (.full (by simp[gY]) rfl fun d' hd'=> ?_);simp only[ez,if_true]at hd';rw[hg.dim]at hd';injection hd' with hd'
    subst hd';exact⟨0,by simp, .inl ⟨rfl,rfl,rfl,by simp[lj],by simp⟩⟩
  ·have hmv:=Fw hR (blk:=blk) (x:=⟨all,true,es⟩) hg.dim he1 rfl rfl (by have:=hg.rel [] all .nil h4;simpa using this);refine bl (v:= .slice (some ⟨c.σ.n,0,none⟩) n n) (σ':=c.σ.add ⟨all,true,es⟩) ?_ ?_
   ·rw[hop _ _ _ e1];unfold fR;rw[zF (by omega),zE ⟨hfit.1,hfit.2,h5⟩];simp
   ·rw[←hσ];refine fin hmv (ni (yb:=⟨all,true,es⟩) hg.dim (by simp) (aD _) (zE rfl) ?_);show n*es≤all.length;omega
 |some q=>
  obtain⟨dm,g1,g2,g3,g4,g5⟩:=hb.yes q rfl;subst g2;have hdim1:(aa c1.S q).dim=some dm:=by rw[hS.dim];exact g1
  have hvals1:(aa c1.S q).vals=(aa c.S q).vals:=hS.vals q;rcases g4 with⟨e1,_,e2,e3,e4⟩|⟨b,cp,yb,e1,e3,e4,e5,e6,e7⟩
  ·subst e2;have hbase:base.cellsOf=[]:=by rw[g5];simp
   by_cases hn:n=0
   ·subst hn;have:all=[]:=by simpa using h3
    subst this;have hmv:Moves c1 (some q) none blk c1.σ:=⟨(fun _ h=>by cases h),(fun _ h=>by injection h with h;subst h;exact hkz q rfl),hR.ok,aD _,fun _ _ h _=>h,_,hg.dim,he1, .inl ⟨rfl,by simp⟩⟩;refine bl (v:= .slice none 0 0) (σ':=c.σ) ?_ ?_
    ·rw[hop _ _ _ e1];unfold fR;rw[zE (by simp)];simp
    ·rw[←hσ];refine fin hmv (.full (by simp[oQ]) rfl fun d' hd'=> ?_);simp only[ez,if_true]at hd';rw[hg.dim]at hd';injection hd' with hd'
     subst hd';exact⟨0,by simp, .inl ⟨rfl,rfl,rfl,by simp[lj],by simp⟩⟩
   ·have hmv:Moves c1 (some q) (some c1.σ.n) blk (c1.σ.add ⟨all,true,dm.1⟩):=by
     have h0:=Fw hR (blk:=blk) (x:=⟨all,true,dm.1⟩) hg.dim he1 rfl rfl (by have:=hg.rel [] all (by rw[hbase];exact .nil) h4;simpa using this);refine⟨h0.fr,(fun _ h=>by injection h with h;subst h;exact hkz q rfl),h0.ok,h0.n,fun i z hz _=>h0.old i z hz (fun⟨_,h,_⟩=>by cases h), ?_⟩;obtain⟨dd,k1,k2,k3⟩:=h0.one;refine⟨dd,k1,k2, ?_⟩;rcases k3 with k3|⟨b',y',cs,rest,k3,k4,k5,k6,k7,k8,k9⟩
     ·exact .inl k3
     ·refine .inr ⟨b',y',cs,rest,k3,k4,k5,k6,k7,k8, .inl ?_⟩;rcases k9 with k9|⟨_,k9,_⟩
      ·exact k9
      ·cases k9
    refine bl (v:= .slice (some ⟨c.σ.n,0,none⟩) n n) (σ':=c.σ.add ⟨all,true,dm.1⟩) ?_ ?_
    ·rw[hop _ _ _ e1];unfold fR;rw[zF (by omega),zE ⟨hfit.1,hfit.2,h5⟩];simp
    ·rw[←hσ];refine fin hmv (ni (yb:=⟨all,true,dm.1⟩) hg.dim (by simp) (aD _) (zE rfl) ?_);show n*dm.1≤all.length;omega
  ·rw[bB]at e1;rw[aE]at e4 e7;have e3':c1.μ q=some b:=by rw[hμ];exact e3
   obtain⟨yb',cs,rest,f1,f2,f3,f4,f5⟩:=hR.block hdim1 e3';rw[hσ]at f1;rw[e6]at f1;injection f1 with f1
   subst f1;have hown:=f3 (hkz q rfl);have hcl:cs.length=dm.2:=by rw[←f5.length];exact sH hdim1
   have hbs:F2 (VRel c1) base.cellsOf (cs.take (sl*dm.1)):=by rw[g5,←hvals1];exact f5.take _
   have hrel:=hg.rel _ _ hbs h4;have hytake:yb.cells.take (sl*dm.1)=cs.take (sl*dm.1):=by rw[f4,bG (by omega)]
   have hcp:sl*dm.1≤cp*dm.1:=aL _ e5;by_cases hroom:sl+n≤cp
   ·have hroom':sl*dm.1+n*dm.1≤cp*dm.1:=by rw[←aI];exact aL _ hroom
    have hset:eL yb.cells (sl*dm.1) all=cs.take (sl*dm.1)++(all++yb.cells.drop (sl*dm.1+all.length)):=by rw[F8 (by omega),hytake]
    have mk: ∀σ':Hp,σ'.Ok→σ'.n=c1.σ.n→(∀i,i≠b→σ'.m i=c1.σ.m i)→σ'.m b=some ⟨eL yb.cells (sl*dm.1) all,true,yb.es⟩→Moves c1 (some q) (some b) blk σ':=by
     intro σ' ho hn hm hb';refine⟨(fun b' h hz _=>by injection h with h;subst h;exact hz _ (by rw[hσ];exact e6)),(fun _ h=>by injection h with h;subst h;exact hkz q rfl),ho,by omega,fun i z hz hK=> ?_,(dm.1,(sl+n)*dm.1),hg.dim,he1, .inr ⟨b,_,cs.take (sl*dm.1)++all,yb.cells.drop (sl*dm.1+all.length),rfl,hb',f2,fun _=>rfl,by show eL _ _ _=_;rw[hset,aT],hrel, .inr ⟨q,rfl,e3'⟩⟩⟩;have:i≠b:=by rintro rfl;exact hK ⟨q,rfl,e3'⟩
     rw[hm i this];exact hz
    have hfull: ∀σ':Hp,σ'.m b=some ⟨eL yb.cells (sl*dm.1) all,true,yb.es⟩→VRel ⟨lj c1 (some b),gY c1.S (some q)++[blk],σ',c1.fb⟩ (.full c1.S.length) (.slice (some ⟨b,0,none⟩) (sl+n) cp):=by
     intro σ' hb';refine ni hg.dim rfl hroom hb' ?_;show cp*dm.1≤(eL yb.cells (sl*dm.1) all).length;rw[rG];exact e7
    by_cases hn:all=[]
    ·have hself:yb=⟨eL yb.cells (sl*dm.1) all,true,yb.es⟩:=by
      subst hn;cases yb;simp only[eL]at*;simp[hown]
     refine bl (v:= .slice (some ⟨b,0,none⟩) (sl+n) cp) (σ':=c.σ) ?_ ?_
     ·rw[hop _ _ _ e1];unfold fR;rw[zE hroom];simp[hn]
     ·rw[←hσ];have e6':c1.σ.m b=some ⟨eL yb.cells (sl*dm.1) all,true,yb.es⟩:=by rw[←hself,hσ];exact e6
      exact fin (mk c1.σ hR.ok rfl (fun _ _=>rfl) e6') (hfull _ e6')
    ·refine bl (v:= .slice (some ⟨b,0,none⟩) (sl+n) cp) (σ':=c.σ.set b (some ⟨eL yb.cells (sl*dm.1) all,true,yb.es⟩)) ?_ ?_
     ·rw[hop _ _ _ e1];unfold fR;rw[zE hroom];simp only[hn,if_false,e6,aE];rw[vV hown (by omega) h5]
     ·rw[←hσ];refine fin (mk _ (fun i z hz=> ?_) rfl (fun i hi=>by simp[Hp.set,hi]) (by simp[Hp.set])) (hfull _ (by simp[Hp.set]));simp only[Hp.set]at hz;split at hz
      ·rename_i e;subst e;exact hR.ok _ _ (by rw[hσ];exact e6)
      ·exact hR.ok _ _ hz
   ·have hmv:Moves c1 (some q) (some c1.σ.n) blk ((c1.σ.set b none).add ⟨cs.take (sl*dm.1)++all,true,dm.1⟩):=by
     refine⟨(fun b h _ hb=>by injection h with h;subst h;exact Nat.lt_irrefl _ (hR.fbl _ hb)),(fun _ h=>by injection h with h;subst h;exact hkz q rfl),fun i z hz=> ?_,Nat.le_succ _,fun i z hz hK=> ?_,(dm.1,(sl+n)*dm.1),hg.dim,he1, .inr ⟨c1.σ.n,_,cs.take (sl*dm.1)++all,[],rfl,zE rfl,rfl,fun _=>rfl,by simp,hrel, .inl fun z hz=> ?_⟩⟩
     ·show i<c1.σ.n+1;rcases Fv hz with h0|⟨_,h0⟩
      ·omega
      ·have:=hR.ok i z h0;omega
     ·have h0:i≠b:=by rintro rfl;exact hK ⟨q,rfl,e3'⟩
      have h9:=hR.ok i z hz;rw[GC (by omega) h0];exact hz
     ·have:=hR.ok _ _ hz;omega
    refine bl (v:= .slice (some ⟨c.σ.n,0,none⟩) (sl+n) (sl+n)) (σ':=(c.σ.set b none).add ⟨cs.take (sl*dm.1)++all,true,dm.1⟩) ?_ ?_
    ·rw[hop _ _ _ e1];unfold fR;rw[zF hroom,zE ⟨hfit.1,hfit.2,h5⟩];simp only[e6];rw[zE ⟨hown,f2⟩]
     have:iN yb 0 (sl*dm.1)=some (cs.take (sl*dm.1)):=by
      unfold iN;rw[zE (by omega),aR,hytake]
     rw[this]
    ·rw[←hσ];refine fin hmv (ni (yb:=⟨cs.take (sl*dm.1)++all,true,dm.1⟩) hg.dim rfl (aD _) (zE rfl) ?_);show(sl+n)*dm.1≤(cs.take (sl*dm.1)++all).length;rw[aF,aG,aI];omega
theorem Ae {S:ae}{s:Sh}{cs:List VV}{l:List (El s)}{c1:Ctx}(hR:Rel c1)(hS:c1.S=S)(h:Ks S s cs=some l):cs.length=l.length*s.w∧∀as,F2 (VRel c1) cs as→F2 (VRel c1) (cv s l) as:=by
 subst hS;exact zd (eo hR s) _ _ _ h
theorem B6 (hR:Rel c)(he:an c e ea){es bytes:Nat}{s:Operand}{op:AOp}{mo:Option More}(hd: ∀q,mW (ev e s)=some q→q∈d)(h:Bq c.S es bytes (qF c.S es (ev e s)) mo k=some y)
  (hm: ∀m,mo=some m→∃n all,(∀a sl' sc,ea.ev s= .slice a sl' sc→op.run ea c.σ=fR es bytes c.σ a sl' sc n all)∧all.length=n*es∧F2 (VRel c) m.cellsOf all∧(∀s l,m= .lst s l→es=s.w∧n=l.length)):bj T op ea c.σ (cK c d k y):=by
 have hs:=bg he s;unfold Bq at h;cases hbo:qF c.S es (ev e s)with
 |none=>rw[hbo]at h;cases h
 |some p=>
  obtain⟨base,kill⟩:=p;cases mo with
  |none=>rw[hbo]at h;cases base<;>cases h
  |some m=>
   obtain⟨sl,hb,hbl,hba⟩:=KA hR hbo hs;obtain⟨n,all,hop,h3,h4,h5⟩:=hm m rfl
   have hkd: ∀q,kill=some q→q∈d:=by
    intro q hq;refine hd q ?_;subst hq;cases hv:ev e s<;>rw[hv]at hbo<;>try(cases hbo;done)
    case full b=>
     simp only[qF]at hbo;split at hbo
     ·rename_i s' l hbb;cases hh:aA es s'.w with
      |false=>rw[hh]at hbo;cases hbo
      |true=>rw[hh]at hbo;simp only[zC,Option.some.injEq,Prod.mk.injEq]at hbo;rw[←hbo.2];rfl
     ·rename_i es' l hbb;cases hh:(aA es es'&&aN 1 es)with
      |false=>rw[hh]at hbo;cases hbo
      |true=>rw[hh]at hbo;simp only[zC,Option.some.injEq,Prod.mk.injEq]at hbo;rw[←hbo.2];rfl
     ·cases hbo
    case part b lo m=>
     cases lo with
     |succ lo=>cases hbo
     |zero=>
      simp only[qF]at hbo;split at hbo
      ·rename_i s' l hbb;cases hh:aA es s'.w with
       |false=>rw[hh]at hbo;cases hbo
       |true=>rw[hh]at hbo;simp only[zC,Option.some.injEq,Prod.mk.injEq]at hbo;rw[←hbo.2];rfl
      ·rename_i es' l hbb;cases hh:(aA es es'&&aN 1 es)with
       |false=>rw[hh]at hbo;cases hbo
       |true=>rw[hh]at hbo;simp only[zC,Option.some.injEq,Prod.mk.injEq]at hbo;rw[←hbo.2];rfl
      ·cases hbo
   have hkz: ∀q,kill=some q→(aa c.S q).frozen=false:=by
    intro q hq;obtain⟨_,_,_,h,_⟩:=hb.yes q hq;exact h
   rw[hbo]at h;have one4: ∀(c1:Ctx) (l:List VV),F2 (VRel c1) l all→gO l=true→all.all one=true:=fun c1 l h1 h2=>eF h1 h2
   cases base with
   |arr s' l=>
    obtain⟨g1,g2⟩:=hba s' l rfl;subst g1;cases m with
    |lst s2 l'=>
     simp only at h;obtain⟨l2,k1,k2⟩:=ah h;obtain⟨ee,k3⟩:=fm k1;cases ee;subst k3;obtain⟨k4,k5⟩:=ai k2;obtain⟨_,k6⟩:=h5 _ _ rfl;refine jI hR (i1.refl _) rfl rfl (Le.refl c) (lx.refl d c) (fY _) hb hkz hop h3 h4 (one4 c _ h4 (jM _ _)) ⟨?_,rfl,fun bs ms f1 f2=> ?_⟩ (by rw[g2,k6];exact k4) hkd k5
     ·simp only[Blk.dim,aF,g2,k6]
     ·simp only[Blk.vals];rw[oP];exact f1.append f2
    |cells cs=>
     simp only at h;split at h
     ·rename_i s3 l3 hkk;obtain⟨l2,k1,k2⟩:=ah h;obtain⟨k4,k5⟩:=ai k2;have hfz:=vE c.S cs;have hR1:Rel ⟨c.μ,xz c.S cs,c.σ,c.fb⟩:=hfz.rel hR;obtain⟨k6,k7⟩:=Ae hR1 rfl k1;have h4':F2 (VRel ⟨c.μ,xz c.S cs,c.σ,c.fb⟩) cs all:=VRel.frames hfz.le h4
      have k8:n=l2.length:=by
       have:=h4.length;simp only[More.cellsOf]at this;rw[k6,h3]at this;exact(aK (fY _) this).symm
      have hkz': ∀q,kill=some q→(aa (xz c.S cs) q).frozen=false:=by
       intro q hq;subst hq;simp only[bJ]at hkk;rw[hkk];rfl
      refine jI (c1:=⟨c.μ,xz c.S cs,c.σ,c.fb⟩) hR1 hfz rfl rfl hfz.le (hfz.calm d) (fY _) hb hkz' hop h3 h4' (one4 _ _ (k7 _ h4') (jM _ _)) ⟨?_,rfl,fun bs ms f1 f2=> ?_⟩ (by rw[g2,k8];exact k4) hkd k5
      ·simp only[Blk.dim,aF,g2,k8]
      ·simp only[Blk.vals];rw[oP];exact f1.append (k7 _ f2)
     ·cases h
   |cells es0 l=>
    obtain⟨g1,g2⟩:=hb.es _ _ rfl;subst g1;cases m with
    |lst s2 l'=>
     simp only at h;obtain⟨w1,w2⟩:=h5 _ _ rfl;subst w1;split at h
     ·rename_i s3 l3 hkk;obtain⟨l1,k1,k2⟩:=ah h;obtain⟨k4,k5⟩:=ai k2;have hfz:=vE c.S l;have hR1:Rel ⟨c.μ,xz c.S l,c.σ,c.fb⟩:=hfz.rel hR;obtain⟨k6,k7⟩:=Ae hR1 rfl k1;have h4':F2 (VRel ⟨c.μ,xz c.S l,c.σ,c.fb⟩) (cv s2 l') all:=VRel.frames hfz.le h4
      have k8:sl=l1.length:=by
       simp only[Base.cellsOf]at hbl;rw[k6]at hbl;exact(aK (fY _) hbl).symm
      have hkz': ∀q,kill=some q→(aa (xz c.S l) q).frozen=false:=by
       intro q hq;subst hq;simp only[bJ]at hkk;rw[hkk];rfl
      refine jI (c1:=⟨c.μ,xz c.S l,c.σ,c.fb⟩) hR1 hfz rfl rfl hfz.le (hfz.calm d) (fY _) hb hkz' hop h3 h4' (one4 _ _ h4' (jM _ _)) ⟨?_,rfl,fun bs ms f1 f2=> ?_⟩ (by rw[w2,k8];exact k4) hkd k5
      ·simp only[Blk.dim,aF,w2,k8]
      ·simp only[Blk.vals];rw[oP];exact(k7 _ f1).append f2
     ·cases h
    |cells cs=>
     simp only at h;obtain⟨k4,k5⟩:=ai h;rw[aC]at k4;simp only[Base.cellsOf]at hbl;simp only[More.cellsOf]at h4;have k6:cs.length=n*es0:=by rw[h4.length];exact h3
     refine jI (blk:= .cells es0 false (l++cs)) hR (i1.refl _) rfl rfl (Le.refl c) (lx.refl d c) g2 hb hkz hop h3 h4 (one4 c _ h4 k4.2) ⟨?_,rfl,fun bs ms f1 f2=>F2.append (l:=l) f1 f2⟩ ?_ hkd k5
     ·simp only[Blk.dim,aF,hbl,k6,aI]
     ·have:(l.length+cs.length) / es0=sl+n:=by rw[hbl,k6,←aI,aY _ g2]
      rw[←this];exact k4.1
   |none=>
    have hsl:kill=none→sl=0:=fun hh=>(hb.no hh).2.1
    have hsl0: ∀(q:Nat),1≤es→sl=0:=by
     intro _ hh;simp only[Base.cellsOf,aP]at hbl;rcases aW sl with h|h
     ·exact h
     ·have:=bA h hh;omega
    cases m with
    |lst s2 l'=>
     simp only at h;obtain⟨w1,w2⟩:=h5 _ _ rfl;subst w1;have hz:=hsl0 0 (fY _);subst hz;obtain⟨k4,k5⟩:=ai h;refine jI hR (i1.refl _) rfl rfl (Le.refl c) (lx.refl d c) (fY _) hb hkz hop h3 h4 (one4 c _ h4 (jM _ _)) ⟨?_,rfl,fun bs ms f1 f2=> ?_⟩ (by rw[w2];exact k4) hkd k5
     ·simp only[Blk.dim,aF,w2,aP]
     ·cases f1;exact f2
    |cells cs=>
     simp only at h;obtain⟨k4,k5⟩:=ai h;rw[aC,aC]at k4;have g2:=aJ k4.1.2;have hz:=hsl0 0 g2;subst hz;simp only[More.cellsOf]at h4;have k6:cs.length=n*es:=by rw[h4.length];exact h3
     refine jI (blk:= .cells es false cs) hR (i1.refl _) rfl rfl (Le.refl c) (lx.refl d c) g2 hb hkz hop h3 h4 (one4 c _ h4 k4.2) ⟨?_,rfl,fun bs ms f1 f2=>by cases f1;exact f2⟩ ?_ hkd k5
     ·simp only[Blk.dim,k6,aE]
     ·have:cs.length / es=0+n:=by rw[k6,aY _ g2,aE]
      rw[←this];exact k4.1.1
theorem LA {s:Sh}{l:List (El s)}{a:Value}{bytes n:Nat}{all:List Value}(hv:VRel c (.tgt s l) a)(h3:all.length=n*s.w)(h1:1≤n)(h5:all.all one=true)(hf:cG (l.length+n) bytes=true):
  ∃p sc old,a= .slice p l.length sc∧F2 (VRel c) (cv s l) old∧fR s.w bytes c.σ p l.length sc n all=some (.slice (some ⟨c.σ.n,0,none⟩) (l.length+n) (l.length+n),c.σ.add ⟨old++all,true,s.w⟩):=by
 have hfit:(l.length+n)*bytes≤140737488355328∧l.length+n≤9223372036854775807:=by
  unfold cG at hf;rw[aC]at hf;have g1:=of_decide_eq_true hf.1;have g2:=aJ hf.2;refine⟨g1, ?_⟩;have:(l.length+n)*1≤(l.length+n)*bytes:=bI _ g2;omega
 cases hv with
 |tgtn hq=>
  simp only[aP,aE]at hfit⊢;rcases hq with rfl|⟨b,o,rfl⟩
  ·refine⟨none,0,[],rfl, .nil, ?_⟩;unfold fR;rw[zF (by omega),zE (by rw[aE];exact⟨hfit.1,hfit.2,h5⟩)];simp
  ·refine⟨_,0,[],rfl, .nil, ?_⟩;unfold fR;rw[zF (by omega),zE (by rw[aE];exact⟨hfit.1,hfit.2,h5⟩)];simp
 |tgt hn hy he h4 hf'=>
  rename_i b p yb;by_cases h0:l=[]
  ·subst h0;simp only[aP,aE]at hfit⊢;refine⟨_,0,[],rfl, .nil, ?_⟩;unfold fR;rw[zF (by omega),zE (by rw[aE];exact⟨hfit.1,hfit.2,h5⟩)];simp
  ·have hl:l.length≠0:=fun h=>h0 (List.eq_nil_of_length_eq_zero h)
   refine⟨_,_,_,rfl,hf', ?_⟩;unfold fR;rw[zF (by omega),zE ⟨hfit.1,hfit.2,h5⟩];simp only[hl,if_false,hy,he,if_true]
   have:iN yb p (l.length*s.w)=some ((yb.cells.drop p).take (l.length*s.w)):=by
    unfold iN;rw[zE h4]
   rw[this]
theorem Dq {c1:Ctx}{bytes n:Nat}{s:Sh}{l l2:List (El s)}{so:Operand}{op:AOp}{all:List Value}(hR:Rel c1)(hσ:c1.σ=c.σ)(hle:Le c c1)(hcalm:lx d c c1)
  (hv:VRel c1 (.tgt s l) (ea.ev so)) (hop: ∀a sl' sc,ea.ev so= .slice a sl' sc→op.run ea c.σ=fR s.w bytes c.σ a sl' sc n all) (h3:all.length=n*s.w) (h4:F2 (VRel c1) (cv s l2) all) (h5:all.all one=true) (hn:n=l2.length) (h1:1≤n)
  (h:FO c1.S bytes s none l l2 k=some y):bj T op ea c.σ (cK c d k y):=by
 unfold FO at h;obtain⟨g1,g2⟩:=ai h;rw[←hn]at g1;obtain⟨p,sc,old,e1,f1,f2⟩:=LA hv h3 h1 h5 g1;have hrel:F2 (VRel c1) (cv s (l++l2)) (old++all):=by rw[oP];exact f1.append h4
 have hmv:=Fw hR (blk:= .arr s false (l++l2)) (x:=⟨old++all,true,s.w⟩) (d:=(s.w,(l++l2).length*s.w)) rfl (fY s) rfl rfl hrel;refine bl (v:= .slice (some ⟨c.σ.n,0,none⟩) (l.length+n) (l.length+n)) (σ':=c.σ.add ⟨old++all,true,s.w⟩) ?_ ?_
 ·rw[hop _ _ _ e1,←hσ,f2]
 ·rw[←hσ];refine⟨_,_,rfl,hle.trans (hmv.le hR),hmv.rel hR,hcalm.trans (hmv.calm hR (fun q h=>by cases h)) hle, ?_,g2⟩;refine ni (yb:=⟨old++all,true,s.w⟩) (dm:=(s.w,(l++l2).length*s.w)) rfl (by simp[hn]) (aD _) (zE rfl) ?_;show(l.length+n)*s.w≤(old++all).length;rw[aF,←f1.length,cM,h3,aI];exact aD _
theorem NG (hR:Rel c)(he:an c e ea){es bytes:Nat}{s:Sh}{l:List (El s)}{so:Operand}{op:AOp}{mo:Option More}(hs:ev e so= .tgt s l)(h:JD c.S es bytes s l mo k=some y)
  (hm: ∀m,mo=some m→∃n all,(∀a sl' sc,ea.ev so= .slice a sl' sc→op.run ea c.σ=fR es bytes c.σ a sl' sc n all)∧all.length=n*es∧F2 (VRel c) m.cellsOf all∧(∀s l,m= .lst s l→es=s.w∧n=l.length)):bj T op ea c.σ (cK c d k y):=by
 have hv:=bg he so;rw[hs]at hv;unfold JD at h;cases mo with
 |none=>cases h
 |some m=>
  obtain⟨n,all,hop,h3,h4,h5⟩:=hm m rfl;cases m with
  |lst s' l'=>
   simp only at h;obtain⟨l2,k1,k2⟩:=ah h;obtain⟨ee,k3⟩:=fm k1;cases ee;subst k3;obtain⟨k4,k5⟩:=ai k2;rw[aC]at k4;have w1:=aB k4.1;have w2:=aJ k4.2;subst w1;obtain⟨_,k6⟩:=h5 _ _ rfl;exact Dq hR rfl (Le.refl c) (lx.refl d c) hv hop h3 h4 (eF h4 (jM _ _)) k6 (by rw[k6];exact w2) k5
  |cells cs=>
   simp only at h;obtain⟨l2,k1,k2⟩:=ah h;obtain⟨k4,k5⟩:=ai k2;rw[aC]at k4;have w1:=aB k4.1;have w2:=aJ k4.2;subst w1;have hfz:=vE c.S cs;have hR1:Rel ⟨c.μ,xz c.S cs,c.σ,c.fb⟩:=hfz.rel hR;obtain⟨k6,k7⟩:=Ae hR1 rfl k1;have h4':F2 (VRel ⟨c.μ,xz c.S cs,c.σ,c.fb⟩) cs all:=VRel.frames hfz.le h4
   have k8:n=l2.length:=by
    have:=h4.length;simp only[More.cellsOf]at this;rw[k6,h3]at this;exact(aK (fY _) this).symm
   exact Dq (c1:=⟨c.μ,xz c.S cs,c.σ,c.fb⟩) hR1 rfl hfz.le (hfz.calm d) (hv.frame hfz.le) hop h3 (k7 _ h4') (eF (k7 _ h4') (jM _ _)) k8 (by rw[k8];exact w2) k5
theorem Il (hR:Rel c){v:VV}{a:Value}{S1:ae}{s:Sh}{l:List (El s)}(h:Dp c.S v=some (S1, .arr s l))(hv:VRel c v a):i1 c.S S1∧VRel ⟨c.μ,S1,c.σ,c.fb⟩ (.lst s l) a:=by
 unfold Dp at h;split at h
 ·simp only[Option.some.injEq,Prod.mk.injEq,Base.arr.injEq]at h;obtain⟨h1,rfl,h2⟩:=h;have h2:=eq_of_heq h2;subst h1;subst h2;exact⟨i1.refl _,hv⟩
 ·rename_i q;split at h
  ·rename_i s' z l' hb;simp only[Option.some.injEq,Prod.mk.injEq,Base.arr.injEq]at h;obtain⟨h1,rfl,h2⟩:=h;have h2:=eq_of_heq h2;subst h1;subst h2;have hfz:i1 c.S (dQ c.S q (aa c.S q).freeze):=i1.put;refine⟨hfz, ?_⟩;have hR1:=hfz.rel hR;have hq:q<c.S.length:=eS (by rw[hb];simp[Blk.dim]);have hg:aa (dQ c.S q (aa c.S q).freeze) q= .arr s' true l':=by rw[Kn hq,hb];rfl
   refine CL hR1 (eo hR1 s') (v:= .full q) ?_ (hv.frame hfz.le);show cond (aa (dQ c.S q (aa c.S q).freeze) q).frozen _ _=_;rw[hg];simp only[Blk.frozen,zC,uN,hg,oB,ek]
  ·cases h
 ·cases h
theorem N7 (hR:Rel c)(he:an c e ea){x:Operand}(hx:ev e x= .nils)(h:k (.int .i64 0) c.S=some y):bj T (.capN x) ea c.σ (cK c d k y):=by
 have hv:=bg he x;rw[hx]at hv;have e1:ea.ev x= .slice none 0 0:=by generalize ea.ev x=q at hv;cases hv;rfl
 refine bl (v:= .int .i64 0) (σ':=c.σ) ?_ (cK.same hR (.int _ _) h);simp only[AOp.run,e1]
theorem Lm (hR:Rel c)(he:an c e ea){x hi mx:Operand}(h:F9 c.S (ev e x) (ev e hi) (ev e mx) k=some y):bj T (.sliceX x hi mx) ea c.σ (cK c d k y):=by
 have hv:=bg he x;have hvh:=bg he hi;have hvm:=bg he mx;unfold F9 at h;split at h
 ·rename_i kh zh km zm eh em;rw[eh]at hvh;rw[em]at hvm;have q1:ea.ev hi= .int kh zh:=hvh.int_inv;have q2:ea.ev mx= .int km zm:=hvm.int_inv;obtain⟨g1,h1⟩:=ai h;clear h;have g1:=of_decide_eq_true g1;subst g1;have h:=h1;clear h1
  have run: ∀(p:Option Addr) (n cp:Nat) (r:Value),ea.ev x= .slice p n cp→0≤zh→zh≤cp→(match p with
    |none=>some (Value.slice none 0 0,c.σ)
    |some ⟨b,o,none⟩=>some (.slice (some ⟨b,o,some 0⟩) zh.toNat zh.toNat,c.σ)
    |_=>none)=some (r,c.σ)→(AOp.sliceX x hi mx).run ea c.σ=some (r,c.σ):=by
   intro p n cp r hp h0 h1 hr;have b1:ge cp 0 (some (.int km zh))=some zh.toNat:=zE ⟨h0,h1⟩;have b2:ge zh.toNat 0 (some (.int kh zh))=some zh.toNat:=zE ⟨h0,by omega⟩;simp only[AOp.run,hp,q1,q2,b1,b2,if_true];exact hr
  split at h
  ·rename_i hx;rw[hx]at hv;obtain⟨g2,h1⟩:=ai h;clear h;have h:=h1;clear h1;have g2:=of_decide_eq_true g2;subst g2;have e1:ea.ev x= .slice none 0 0:=by generalize ea.ev x=q at hv;cases hv;rfl
   exact bl (run _ _ _ (.slice none 0 0) e1 (by simp) (by simp) rfl) (cK.same hR .nils h)
  ·split at h
   ·rename_i S1 s l hsrc;obtain⟨g2,h1⟩:=ai h;clear h;have h:=h1;clear h1;obtain⟨c1,c2,c3⟩:=jL g2;obtain⟨hfz,hl⟩:=Il hR hsrc hv;have hR1:=hfz.rel hR;have out: ∀v:Value,VRel ⟨c.μ,S1,c.σ,c.fb⟩ (.tgt s (l.take zh.toNat)) v→cK c d k y v c.σ:=fun v hv=>⟨_,⟨c.μ,S1,c.σ,c.fb⟩,rfl,hfz.le,hR1,hfz.calm d,hv,h⟩
    cases hl':ea.ev x with
    |slice p n cp=>
     rw[hl']at hl;cases hl with
     |lstn hq=>
      have z0:zh=0:=by simp at c3;omega
      subst z0;cases p with
      |none=>exact bl (run _ _ _ (.slice none 0 0) hl' (by simp) (by simp) rfl) (out _ (.tgtn (.inl rfl)))
      |some A=>
       obtain⟨b,o,sp⟩:=A;have:sp=none:=hq _ rfl;subst this;exact bl (run _ _ _ (.slice (some ⟨b,o,some 0⟩) 0 0) hl' (by simp) (by simp) rfl) (out _ (.tgtn (.inr ⟨_,_,rfl⟩)))
     |lst hn hy he' h1 h2 h3 hf=>
      rename_i b o yb;refine bl (run _ _ _ (.slice (some ⟨b,o,some 0⟩) zh.toNat zh.toNat) hl' c2 (by omega) rfl) (out _ ?_);have hlen:(l.take zh.toNat).length=zh.toNat:=by rw[aG];omega
      have hmul:zh.toNat*s.w≤n*s.w:=aL _ (by omega)
      have:=VRel.tgt (c:=⟨c.μ,S1,c.σ,c.fb⟩) (l:=l.take zh.toNat) hn hy he' (p:=o) (by rw[hlen];omega) (by
       rw[hlen,eI];have h9:=hf.take (zh.toNat*s.w);rw[aV,aQ hmul]at h9
       exact h9)
      rw[hlen]at this;exact this
    |_=>rw[hl']at hl;cases hl
   ·cases h
 ·cases h
theorem IA (hR:Rel c)(he:an c e ea){es bytes:Nat}{s x:Operand}(hd: ∀q,mW (ev e s)=some q→q∈d)(h:B7 c.S es bytes (ev e s) (ev e x) k=some y)(hap:FA c.S es bytes (ev e s) (ev e x) k=some y→bj T (.append es bytes s x) ea c.σ (cK c d k y)):bj T (.append es bytes s x) ea c.σ (cK c d k y):=by
 unfold B7 at h;split at h
 ·rename_i s' l hs;refine NG hR he hs h fun m hmo=> ?_
  obtain⟨n,all,h1,h2,h3,h4,h5⟩:=lV hR hmo (bg he x);have h2n:=h2 n (aD _);rw[aH (by omega)]at h2n;refine⟨n,all,fun a sl' sc hs=> ?_,h3,h4,h5⟩;simp only[AOp.run,hs,h1,h2n]
 ·exact hap h
theorem Kx (hR:Rel c)(he:an c e ea){es bytes:Nat}{s x:Operand}(hd: ∀q,mW (ev e s)=some q→q∈d)(h:FA c.S es bytes (ev e s) (ev e x) k=some y):bj T (.append es bytes s x) ea c.σ (cK c d k y):=by
 refine B6 hR he hd h fun m hmo=> ?_
 obtain⟨n,all,h1,h2,h3,h4,h5⟩:=lV hR hmo (bg he x);have h2n:=h2 n (aD _);rw[aH (by omega)]at h2n;refine⟨n,all,fun a sl' sc hs=> ?_,h3,h4,h5⟩;simp only[AOp.run,hs,h1,h2n]
theorem IB (hR:Rel c)(he:an c e ea){es bytes:Nat}{z:List Value}{s x:Operand}(hd: ∀q,mW (ev e s)=some q→q∈d)(h:B8 c.S es bytes z (ev e s) (ev e x) k=some y):bj T (.appendZ es bytes z s x) ea c.σ (cK c d k y):=by
 have hx:=bg he x;unfold B8 at h;split at h
 ·rename_i kd l hl;rw[hl]at hx;obtain⟨hg,h⟩:=ai h;unfold vu at hg;rw[aC,aC]at hg;have g1:=of_decide_eq_true hg.1;have g2:=of_decide_eq_true hg.2.1;have g3:=of_decide_eq_true hg.2.2;refine B6 hR he hd h fun m hmo=> ?_
  unfold Is at hmo;split at hmo
  ·rename_i sh hs;cases hb:aA es sh.w with
   |false=>rw[hb]at hmo;cases hmo
   |true=>
    rw[hb]at hmo;simp only[zC,Option.some.injEq]at hmo;subst hmo;have he:=aB hb;subst he;have hz:=rI (c:=c) hs;have hzl:z.length=sh.w:=by rw[←hz.length,cm]
    refine⟨l.toNat,co z l.toNat,fun a sl' sc hs'=> ?_,by rw[oI,hzl], ?_,fun s' l' h'=> ?_⟩
    ·simp only[AOp.run,hs',hx.int_inv];rw[zE ⟨g1,g2,g3⟩]
    ·show F2 (VRel c) (cv sh (aM l.toNat (lv sh))) (co z l.toNat);rw[ju];generalize l.toNat=n;induction n with
     |zero=>exact .nil
     |succ n ih=>
      simp only[co,aS,aU]at ih⊢;exact hz.append ih
    ·injection h' with h1 h2
     subst h1;have h2:=eq_of_heq h2;rw[←h2,List.length_replicate];exact⟨rfl,rfl⟩
  ·cases hmo
 ·cases h
theorem E0 {S:ae}{q:Nat}:dQ S q (aa S q)=S:=by
 induction S generalizing q with
 |nil=>rfl
 |cons a r ih=>
  cases q with
  |zero=>rfl
  |succ q=>simp only[dQ,aa,ih]
theorem Ns {σ:Hp}{b:Nat}{x:Ab.Blk}(h:σ.m b=some x):σ.set b (some x)=σ:=by
 have:(fun i=>if i=b then some x else σ.m i)=σ.m:=by
  funext i
  by_cases hi:i=b
  ·rw[zE hi,hi,h]
  ·rw[zF hi]
 show Hp.mk _ _=_;rw[this]
theorem Md {es n m b o cp:Nat}{x z:Operand}{all:List Value}{x0:Ab.Blk}(hx:ea.ev x= .slice (some ⟨b,o,none⟩) n cp)(h1:tK (ea.ev z)=some m)(h2:c.σ.slice es (ea.ev z) (min m n)=some all)(hy:c.σ.m b=some x0)
  (hown:x0.own=true) (hlen:o+all.length≤x0.cells.length) (hone:all.all one=true):(AOp.copy es x z).run ea c.σ=some (.int .i64 (min m n:Nat),c.σ.set b (some ⟨eL x0.cells o all,true,x0.es⟩)):=by
 simp only[AOp.run,hx,h1,h2];by_cases hn:all=[]
 ·rw[zE hn];subst hn;have:(⟨eL x0.cells o [],true,x0.es⟩:Ab.Blk)=x0:=by cases x0;simp only[eL]at*;simp[hown]
  rw[this,Ns hy]
 ·rw[zF hn,hy];simp only[vV hown hlen hone]
theorem Ep (hR:Rel c){es q o n m:Nat}{dm:Nat×Nat}{x z:Operand}{blk:Blk}{all:List Value}(hdim:(aa c.S q).dim=some dm)(hes:dm.1=es)(hz:(aa c.S q).frozen=false)(hs:xy c q o n dm (ea.ev x))
  (h1:tK (ea.ev z)=some m) (h2:c.σ.slice es (ea.ev z) (min m n)=some all) (h3:all.length=min m n*es) (h5:all.all one=true) (hd:q∈d) (hbd:blk.dim=some dm) (hbz:blk.frozen=false) (hnil:dm.2=0→blk=aa c.S q)
  (hrel: ∀cs,F2 (VRel c) (aa c.S q).vals cs→F2 (VRel c) blk.vals (eL cs (o*es) all)) (hk:k (.int .i64 (min m n:Nat)) (dQ c.S q blk)=some y):bj T (.copy es x z) ea c.σ (cK c d k y):=by
 subst hes;rcases hs with⟨e1,e2,e3,e4,e5⟩|⟨b,cp,yb,e1,e2,e3,e4,e5,e6⟩
 ·subst e2;subst e3;have:all=[]:=by simpa using h3
  subst this;refine bl (v:= .int .i64 (min m 0:Nat)) (σ':=c.σ) ?_ (cK.same hR (.int _ _) ?_)
  ·simp only[AOp.run,e1,h1,h2];simp
  ·rw[hnil e5,E0]at hk;exact hk
 ·obtain⟨y0,cs,rest,f1,f2,f3,f4,f5⟩:=hR.block hdim e2;rw[e5]at f1;injection f1 with f1
  subst f1;have hl:=f5.length;rw[sH hdim]at hl
  have hle:o*dm.1+min m n*dm.1≤dm.2:=by
   have:(o+min m n)*dm.1≤(o+n)*dm.1:=aL _ (by omega);rw[aI]at this;omega
  have hlen:o*dm.1+all.length≤yb.cells.length:=by rw[f4,aF,h3];omega
  have hw:Writes c q b blk ⟨eL yb.cells (o*dm.1) all,true,yb.es⟩:=⟨hz,e2,hbd.trans hdim.symm,hbz,yb,eL cs (o*dm.1) all,rest,dm,e5,hdim,f2,rfl,rG _ _ _,by show eL _ _ _=_;rw[f4,uY _ _ _ _ (by omega)],hrel cs f5⟩;exact bl (Md e1 h1 h2 e5 (f3 hz) hlen h5) ⟨_,_,rfl,hw.le hR,hw.rel hR,hw.calm hR hd, .int _ _,hk⟩
theorem zP {kd:IntKind}: ∀{cs r:List VV} {m ml:List Int} {j:Nat} {as ms:List Value},yB kd m j cs=some r→F2 (VRel c) cs as→F2 (VRel c) (ml.map (VV.int kd)) ms→ml=(m.drop j).take cs.length→
  F2 (VRel c) r (ms++as.drop ms.length)
 |[],r,m,ml,j,as,ms,h,hf,hm,hl=>by
  simp only[yB]at h;injection h with h;subst h
  cases hf;simp at hl;subst hl;cases hm;exact .nil
 |v::cs,r,m,ml,j,as,ms,h,hf,hm,hl=>by
  cases v<;>simp only[yB]at h<;>try(cases h;done)
  rename_i k' n;cases hk:decide (k'=kd)with
  |false=>rw[hk]at h;cases h
  |true=>
   rw[hk,zC]at h;have hk:=of_decide_eq_true hk;subst hk;obtain⟨r',h1,h2⟩:=ah h;injection h2 with h2
   subst h2;cases hf with
   |cons hf1 hf2=>
    rename_i a as;have ha:=hf1.int_inv;subst ha;by_cases hj:j<m.length
    ·have hd:m.drop j=m[j]::m.drop (j+1):=List.drop_eq_getElem_cons hj;rw[hd]at hl;simp only[bF,List.take_succ_cons]at hl;subst hl;cases hm with
     |cons hm1 hm2=>
      rename_i b ms;have hb:=hm1.int_inv;subst hb;have:=zP h1 hf2 hm2 rfl;rw[bD,List.getElem?_eq_getElem hj];exact .cons (.int _ _) this
    ·have hd:m.drop j=[]:=bC (by omega);rw[hd]at hl;simp only[List.take_nil]at hl;subst hl;cases hm;have:=zP (ml:=[]) h1 hf2 .nil (by rw[bC (by omega)];simp);rw[bD,List.getElem?_eq_none (by omega)];exact .cons (.int _ _) this
theorem ET {kd:IntKind}{m:List Int}: ∀{cs r:List VV} {j:Nat},yB kd m j cs=some r→r.length=cs.length
 |[],r,j,h=>by injection h with h;subst h;rfl
 |v::cs,r,j,h=>by
  cases v<;>simp only[yB]at h<;>try(cases h;done)
  rename_i k' n;cases hk:decide (k'=kd)with
  |false=>rw[hk]at h;cases h
  |true=>
   rw[hk,zC]at h;obtain⟨r',h1,h2⟩:=ah h;injection h2 with h2
   subst h2;simp[ET h1]
theorem Hn {kd:IntKind}{m:List Int}:cv (.int kd) m=m.map (VV.int kd):=by
 induction m with
 |nil=>rfl
 |cons a m ih=>rw[cL,ih];rfl
theorem y6 {α:Type}{l m:List α}{o n:Nat}(h:o+n≤l.length):D3 l o n m=l.take o++(m.take (min m.length n)++l.drop (o+min m.length n)):=by
 unfold D3;rw[Nat.min_comm n m.length]
 congr 2
 by_cases hh:n≤m.length
 ·rw[Nat.min_eq_right hh]
 ·rw[aQ (by omega),aH (by omega),aH (by omega)]
theorem L4 {α:Type}{l m:List α}{o n:Nat}(h:o+n≤l.length):(D3 l o n m).length=l.length:=by
 rw[y6 h];simp only[aF,aG,aO];omega
theorem G0 (hR:Rel c){es q o n:Nat}{x z:Operand}{s:Sh}{l l2:List (El s)}{mc:List VV}{m:Nat}{all:List Value}(hb:aa c.S q= .arr s false l)(hs:xy c q o n (s.w,l.length*s.w) (ea.ev x))(he:es=s.w)
  (h1:tK (ea.ev z)=some m) (h2: ∀i,i≤m→c.σ.slice es (ea.ev z) i=some (all.take (i*es))) (h3:all.length=m*es) (h4:F2 (VRel c) (cv s l2) all) (hm:m=l2.length) (hd:q∈d)
  (hk:k (.int .i64 (min l2.length n:Nat)) (dQ c.S q (.arr s false (D3 l o n l2)))=some y):bj T (.copy es x z) ea c.σ (cK c d k y):=by
 subst he;have hdim:(aa c.S q).dim=some (s.w,l.length*s.w):=by rw[hb];rfl
 have hle:o+n≤l.length:=by
  rcases hs with⟨_,e2,e3,_,_⟩|⟨b,cp,yb,_,_,e3,_⟩
  ·omega
  ·exact bH e3 (fY s)
 have h2':=h2 (min m n) (aX _ _)
 have hal:(all.take (min m n*s.w)).length=min m n*s.w:=by
  rw[aG,h3,aQ];exact aL _ (aX _ _)
 have h4':=h4.take (min m n*s.w);rw[←eI]at h4';rw[←hm]at hk;refine Ep hR hdim rfl (by rw[hb];rfl) hs h1 h2' hal (eF h4' (jM _ _)) hd ?_ rfl (fun h0=> ?_) (fun cs hcs=> ?_) hk
 ·simp only[Blk.dim,L4 hle]
 ·have:l.length=0:=by
   rcases aW l.length with h|h
   ·exact h
   ·have:=bA h (fY s);simp only at h0;omega
  rw[hb,y6 hle];rw[List.length_eq_zero_iff]at this;subst this;have hn:n=0:=by simp at hle;omega
  subst hn;simp
 ·rw[hb]at hcs;simp only[Blk.vals]at hcs⊢;have hcl:=hcs.length;rw[cM]at hcl;have hle2:o*s.w+min m n*s.w≤l.length*s.w:=by rw[←aI];exact aL _ (by omega)
  rw[F8 (by rw[hal];omega),y6 hle,oP,oP,eI,pv,hal,←hm,aI];exact(hcs.take _).append (h4'.append (hcs.drop _))
theorem Od (hR:Rel c)(he:an c e ea){es:Nat}{x z:Operand}(hd: ∀q,mW (ev e x)=some q→q∈d)(h:Mc c.S es (ev e x) (ev e z) k=some y):bj T (.copy es x z) ea c.σ (cK c d k y):=by
 have hx:=bg he x;have hz:=bg he z;unfold Mc at h
 have go: ∀(q o n:Nat) (dm:Nat×Nat),(aa c.S q).dim=some dm→q∈d→xy c q o n dm (ea.ev x)→
   (match aa c.S q,cX c.S es (ev e z)with
   | .arr s false l,some (.lst s' l')=>(eU (.list s') (.list s) l').bind fun l2=>gd (aA es s.w) (k (.int .i64 (min l2.length n:Nat)) (dQ c.S q (.arr s false (D3 l o n l2))))
   | .arr s false l,some (.cells cs)=>(nf .u64 cs).bind fun m=>(eU (.list (.int .u64)) (.list s) m).bind fun l2=>gd (aA es s.w) (k (.int .i64 (min l2.length n:Nat)) (dQ c.S q (.arr s false (D3 l o n l2))))
   | .cells 1 false l,some (.lst (.int kd) m)=>gd (aA es 1&&aN (o+n) l.length) (match yB kd m 0 ((l.drop o).take n)with
    |some c'=>k (.int .i64 (min m.length n:Nat)) (dQ c.S q (.cells 1 false (l.take o++c'++l.drop (o+n))))
    |none=>none)
   |_,_=>none)=some y→bj T (.copy es x z) ea c.σ (cK c d k y):=by
  intro q o n dm hdim hqd hs h;split at h
  ·rename_i s l s' l' hb hm;obtain⟨m,all,h1,h2,h3,h4,h5⟩:=lV hR hm hz;obtain⟨l2,k1,k2⟩:=ah h;obtain⟨ee,k3⟩:=fm k1;cases ee;subst k3;obtain⟨k4,k5⟩:=ai k2;rw[hb]at hdim;injection hdim with hdim
   subst hdim;exact G0 (mc:=[]) hR hb hs (aB k4) h1 h2 h3 h4 (h5 _ _ rfl).2 hqd k5
  ·rename_i s l cs hb hm;obtain⟨m,all,h1,h2,h3,h4,h5⟩:=lV hR hm hz;obtain⟨ml,k0,k1⟩:=ah h;obtain⟨l2,k1,k2⟩:=ah k1;obtain⟨ee,k3⟩:=fm k1;cases ee;subst k3;obtain⟨k4,k5⟩:=ai k2;rw[hb]at hdim;injection hdim with hdim
   subst hdim;have hcs:=zK k0;simp only[More.cellsOf]at h4;rw[hcs,←Hn]at h4;have he1:=aB k4
   have hml:m=l2.length:=by
    have:=h4.length;rw[cM,h3,he1]at this;exact(aK (fY _) this).symm
   exact G0 (mc:=[]) hR hb hs he1 h1 h2 h3 h4 hml hqd k5
  ·rename_i l kd ml hb hm;obtain⟨m,all,h1,h2,h3,h4,h5⟩:=lV hR hm hz;obtain⟨k1,k2⟩:=ai h;rw[aC]at k1;have he1:=aB k1.1;have hle:=aJ k1.2;subst he1;split at k2
   ·rename_i c' hov;have hml:=(h5 _ _ rfl).2;rw[hb]at hdim;injection hdim with hdim
    subst hdim;have h2':=h2 (min m n) (aX _ _);have hal:(all.take (min m n*1)).length=min m n*1:=by rw[aG,h3,aQ];omega
    simp only[More.cellsOf]at h4;have h4':F2 (VRel c) (cv (.int kd) (ml.take (min m n))) (all.take (min m n*1)):=by rw[eI];exact h4.take (min m n*1)
    have hc':=ET hov;have hlen:((l.drop o).take n).length=n:=by rw[aG,aO];omega
    rw[←hml]at k2;refine Ep hR (by rw[hb];rfl) rfl (by rw[hb];rfl) hs h1 h2' hal (eF h4' (jM _ _)) hqd ?_ rfl (fun h0=> ?_) (fun cs hcs=> ?_) k2
    ·simp only[Blk.dim,aF,aG,aO,hc']
     congr 2
     omega
    ·simp only at h0;have:l=[]:=List.length_eq_zero_iff.1 h0;subst this;rw[hb];simp at hle;have hn:n=0:=by omega
     subst hn;simp[yB]at hov;subst hov;simp
    ·rw[hb]at hcs;simp only[Blk.vals]at hcs⊢;have hcl:=hcs.length;rw[F8 (by rw[hal];omega),aT,aZ];refine(hcs.take _).append ?_;have h6:=zP (ml:=ml.take (min m n)) hov ((hcs.drop o).take n) (by rw[←Hn];exact h4') (by rw[hlen,aR,hml,Nat.min_comm,←aV,aH (l:=ml) (aD _)])
     have h7:cs.drop (o+(all.take (min m n*1)).length)=((cs.drop o).take n).drop (all.take (min m n*1)).length++cs.drop (o+n):=by
      rw[hal,aZ,List.drop_take,List.drop_drop]
      conv=>lhs;rw[←List.take_append_drop (n-min m n) (cs.drop (o+min m n))]
      rw[List.drop_drop]
      congr 2
      omega
     rw[h7,←aT];exact h6.append (hcs.drop _)
   ·cases k2
  ·cases h
 generalize ev e x=xv at*;cases xv<;>try(cases h;done)
 case full q=>
  simp only at h;cases hx with
  |full hk _ hdd=>
   split at h
   ·rename_i n hn;cases hb:aa c.S q with
    |dead=>simp only[lenOf,hb]at hn;cases hn
    |arr s z' l=>
     simp only[lenOf,hb]at hn;injection hn with hn
     have hdim:(aa c.S q).dim=some (s.w,l.length*s.w):=by rw[hb];rfl
     obtain⟨n',h1,h2⟩:=hdd _ hdim;have:n'=n:=by rw[←hn];exact aK (fY s) h1
     subst this;exact go q 0 n' _ hdim (hd q rfl) h2 h
    |cells es' z' l=>
     simp only[lenOf,hb]at hn;injection hn with hn
     have hdim:(aa c.S q).dim=some (es',l.length):=by rw[hb];rfl
     obtain⟨n',h1,h2⟩:=hdd _ hdim;have h3:=(hR.blk q _ hdim).1
     have:n'=n:=by
      simp only at h1 h3;rw[←hn,←h1,aY _ h3]
     subst this;exact go q 0 n' _ hdim (hd q rfl) h2 h
   ·cases h
 case part q o n=>
  simp only at h;cases hx with
  |part hk _ hdd=>
   cases hdm:(aa c.S q).dim with
   |none=>
    have:aa c.S q= .dead:=by
     generalize aa c.S q=blk at hdm;cases blk<;>first|rfl|(cases hdm;done)
    rw[this]at h;cases h
   |some dm=>exact go q o n dm hdm (hd q rfl) (hdd dm hdm) h
end
end
section
open Bool renaming and_eq_true → aE
open List renaming mem_cons_of_mem → aA, append_assoc → aC, foldl_cons → aF, getD_eq_getElem?_getD → aG, getElem?_map → aH, mem_cons_self → aI, take_of_length_le → aJ
open Nat renaming le_refl → aB, le_of_ble_eq_true → aK
open Option renaming map_some → aD
section
variable {β:Type} {T:Ab.dn} {c:Ctx} {e:bu} {ea:br} {d:List Nat} {k:VV→ae→Option β} {y:β}
theorem KF (s:ByteArray)(j:Nat):((ak s).getD j 0).toNat=(s.get! j).toNat:=by
 have e1:s.get! j=s.data[j]!:=rfl;rw[e1];unfold ak;rcases Nat.lt_or_ge j s.data.size with h'|h'
 ·rw[getElem!_pos s.data j h',aG,aH,Array.getElem?_toList,Array.getElem?_eq_getElem h'];rfl
 ·rw[getElem!_neg s.data j (by omega),aG,aH,Array.getElem?_toList,Array.getElem?_eq_none h'];rfl
theorem ip (s:ByteArray):(ak s).length=s.size:=by
 simp[ak]
theorem Es (s:ByteArray)(i:Nat):Utf8.decode s i=tA (ak s) i:=by
 unfold Utf8.decode tA;simp only[KF,ip]
theorem Nf (hR:Rel c)(he:an c e ea){x:Operand}{l:List Int}(hx:ev e x= .str l)(h:k (.it c.S.length l) (c.S++[.cells 1 false [.int .i64 0]])=some y):bj T (.range x) ea c.σ (cK c d k y):=by
 have hv:=bg he x;rw[hx]at hv;obtain⟨s,hs,hl⟩:=hv.str_inv;refine bl (v:= .iface c.σ.n (.string s)) (σ':=c.σ.add ⟨[.int .i64 0],true,1⟩) (by simp only[AOp.run,hs]) ?_;refine cK.new (kill:=none) hR (Fw hR (blk:= .cells 1 false [.int .i64 0]) (x:=⟨[.int .i64 0],true,1⟩) (d:=(1,1)) rfl (aB _) rfl rfl (.cons (.int _ _) .nil)) (fun _ h=>by cases h) ?_ h;refine .it (by simp[gY]) rfl hl fun d' _=>⟨c.σ.n, ?_,rfl⟩
 simp[lj]
theorem OT (hR:Rel c)(h:k (.bld c.S.length) (c.S++[.cells 1 false [.str []]])=some y):bj T .newB ea c.σ (cK c d k y):=by
 refine bl (v:= .iface c.σ.n .nilFunc) (σ':=c.σ.add ⟨[.string ByteArray.empty],true,1⟩) (by simp only[AOp.run]) ?_;refine cK.new (kill:=none) hR (Fw hR (blk:= .cells 1 false [.str []]) (x:=⟨[.string ByteArray.empty],true,1⟩) (d:=(1,1)) rfl (aB _) rfl rfl (.cons (.str rfl) .nil)) (fun _ h=>by cases h) ?_ h;refine .bld (by simp[gY]) rfl fun d' _=>⟨c.σ.n, ?_,rfl⟩
 simp[lj]
theorem VRel.it_inv {q:Nat}{l:List Int}{a:Value}(h:VRel c (.it q l) a): ∃s,ak s=l∧∀d,(aa c.S q).dim=some d→∃b,c.μ q=some b∧a= .iface b (.string s):=by
 cases h with
 |it _ _ hs hd=>exact⟨_,hs,hd⟩
theorem OU (hR:Rel c)(he:an c e ea){x:Operand}(hd: ∀q,mW (ev e x)=some q→q∈d)(h:MU c.S (ev e x) k=some y):bj T (.next x) ea c.σ (cK c d k y):=by
 have hv:=bg he x;generalize ev e x=v at*;unfold MU at h;split at h
 ·rename_i q l;split at h
  ·rename_i es p r hb;obtain⟨h1,h2⟩:=ai h;rw[aE]at h1;have hp:=of_decide_eq_true h1.1;have hes:=aK h1.2;generalize hax:ea.ev x=a at hv;obtain⟨s,hs,hdim⟩:=hv.it_inv
   ·skip
    obtain⟨b,hm,rfl⟩:=hdim (es,(VV.int .i64 p::r).length) (by rw[hb];rfl);obtain⟨y0,cs,rest,q2,q3,q4,q5,q6⟩:=hR.block (k:=q) (d:=(es,(VV.int .i64 p::r).length)) (by rw[hb];rfl) hm;rw[hb]at q4 q6;simp only[Blk.vals]at q6;cases q6 with
    |cons r1 r2=>
     rename_i c0 cr;cases r1;have hcells:y0.cells= .int .i64 p::(cr++rest):=q5;have hsz:s.size=l.length:=by rw[←hs,ip]
     by_cases hlt:p<l.length
     ·rw[zB hlt,zC]at h2
      have hw:Writes c q b (.cells es false (.int .i64 (gf l p)::r)) ⟨.int .i64 (gf l p)::(cr++rest),true,y0.es⟩:=by
       refine⟨by rw[hb];rfl,hm,by rw[hb];rfl,rfl,y0, .int .i64 (gf l p)::cr,rest,(es,_),q2,by rw[hb];rfl,q3,rfl,by rw[hcells];rfl,rfl, .cons (.int _ _) r2⟩
      refine bl (v:= .tuple #[.bool true, .int .i64 p, .int .i32 (fL l p)]) (σ':=c.σ.set b (some ⟨.int .i64 (gf l p)::(cr++rest),true,y0.es⟩)) ?_ ⟨.tup [.bool true, .int .i64 p, .int .i32 (fL l p)],_,rfl,hw.le hR,hw.rel hR,hw.calm hR (hd q rfl), .tup (.cons (.bool _) (.cons (.int _ _) (.cons (.int _ _) .nil))),h2⟩;simp only[AOp.run,hax,q2];rw[zE (q4 rfl),hcells];simp only[];rw[zE hp,zE (by omega),Es,hs];rfl
     ·rw[zA hlt,zD]at h2;refine bl (v:= .tuple #[.bool false]) (σ':=c.σ) ?_ (cK.same hR (.tup (.cons (.bool _) .nil)) h2);simp only[AOp.run,hax,q2];rw[zE (q4 rfl),hcells];simp only[];rw[zE hp,zF (by omega)]
  ·cases h
 ·cases h
theorem EK : ∀(n:Nat) (l:List Int),l.length≤n→(∀x∈(ql l).1,x∈l)∧(∀x∈(ql l).2,x∈l)
 |_,[],_=>⟨fun x hx=>(by cases hx),fun x hx=>by cases hx⟩
 |_,[a],_=>⟨fun x hx=>(by cases hx),fun x hx=>by cases hx⟩
 |0,a::b::r,h=>by simp at h
 |n+1,a::b::r,h=>by
  obtain⟨h1,h2⟩:=EK n r (by simp at h;omega);unfold ql;by_cases ha:a=1
  ·rw[zE ha];refine⟨fun x hx=> ?_,fun x hx=> ?_⟩
   ·rcases List.mem_cons.1 hx with rfl|hx
    ·simp
    ·exact aA _ (aA _ (h1 x hx))
   ·exact aA _ (aA _ (h2 x hx))
  ·rw[zF ha];exact⟨fun x hx=>(by cases hx),fun x hx=>aA _ hx⟩
theorem xm : ∀l:List Int,∀x∈(lW l).2,x∈l
 |[],x,hx=>by cases hx
 |a::r,x,hx=>by
  unfold lW at hx;by_cases ha:a=1
  ·rw[zE ha]at hx;exact aA _ (xm r x hx)
  ·rw[zF ha]at hx;exact aA _ hx
theorem EI : ∀(n:Nat) (l:List Int),∀p∈EG n l,∀x∈p.1,x∈l
 |0,_,p,hp=>by cases hp
 |n+1,[],p,hp=>by cases hp
 |n+1,a::l,p,hp=>by
  obtain⟨h1,h2⟩:=EK _ (a::l) (aB _);unfold EG at hp;rcases List.mem_cons.1 hp with rfl|hp
  ·exact h1
  ·exact fun x hx=>h2 x (xm _ x (xm _ x (EI n _ p hp x hx)))
theorem EL {k:List Int}{v:Int}(hk: ∀x∈k,0≤x∧x<256): ∀l:List (List Int×Int),(∀p∈l,∀x∈p.1,0≤x∧x<256)→∀p∈sN k v l,∀x∈p.1,0≤x∧x<256
 |[],_,p,hp=>by
  have:p=(k,v):=by simpa[sN]using hp
  subst this;exact hk
 |q::l,h,p,hp=>by
  unfold sN at hp;split at hp
  ·rcases List.mem_cons.1 hp with rfl|hp
   ·exact h q (aI ..)
   ·exact h p (aA _ hp)
  ·rcases List.mem_cons.1 hp with rfl|hp
   ·exact h p (aI ..)
   ·exact EL hk l (fun p hp=>h p (aA _ hp)) p hp
theorem KG (s key:ByteArray)(n:Int):ak (vj (lJ (ak s) (ak key) n))=lJ (ak s) (ak key) n:=
 As _ (CS _ (EL (Ci key) _ fun p hp x hx=>Ci s x (EI _ _ p hp x hx)))
theorem zN {kd:IntKind}{v:VV}{kk:Nat→Nat→Bool→List Int→List VV→Option β}(h:Hm c.S kd v kk=some y): ∃q es fz l r,v= .fn (MQ kd) [] [.ptr q 0]∧aa c.S q= .cells es fz (.str l::r)∧kk q es fz l r=some y:=by
 unfold Hm at h;split at h
 ·rename_i f q;obtain⟨h1,h2⟩:=ai h;split at h2
  ·rename_i es fz l r hb;exact⟨q,es,fz,l,r,by rw[Nat.eq_of_beq_eq_true h1],hb,h2⟩
  ·cases h2
 ·cases h
theorem CP {kd:IntKind}{q es:Nat}{fz:Bool}{l:List Int}{r:List VV}{a:Value}(hR:Rel c)(hv:VRel c (.fn (MQ kd) [] [.ptr q 0]) a)(hb:aa c.S q= .cells es fz (.str l::r)):
  ∃b y0 s cr rest,AG kd a=some b∧c.μ q=some b∧c.σ.m b=some y0∧y0.es=es∧(fz=false→y0.own=true)∧y0.cells= .string s::(cr++rest)∧ak s=l∧F2 (VRel c) r cr:=by
 have hdim:(aa c.S q).dim=some (es,(VV.str l::r).length):=by rw[hb];rfl
 obtain⟨b,hm,ha⟩: ∃b,c.μ q=some b∧AG kd a=some b:=by
  cases hv with
  |fn h1 h2=>
   rename_i a' b'
   have e1:a'.toList=[]:=by cases h:a'.toList with
    |nil=>rfl
    |cons x r=>rw[h]at h1;cases h1
   cases h3:b'.toList with
   |nil=>rw[h3]at h2;cases h2
   |cons x r=>
    rw[h3]at h2;cases h2 with
    |cons h4 h5=>
     cases h5;cases h4 with
     |ptr _ _ hd=>
      obtain⟨b,hm,rfl⟩:=hd _ hdim;refine⟨b,hm, ?_⟩;unfold AG;simp only[e1,h3,and_self,if_true]
 obtain⟨y0,cs,rest,q2,q3,q4,q5,q6⟩:=hR.block (k:=q) (d:=(es,(VV.str l::r).length)) hdim hm;rw[hb]at q4 q6;simp only[Blk.vals]at q6;cases q6 with
 |cons r1 r2=>
  rename_i c0 cr;obtain⟨s,hs,hl⟩:=r1.str_inv;subst hs;exact⟨b,y0,s,cr,rest,ha,hm,q2,q3,q4,q5,hl,r2⟩
theorem MO (hR:Rel c){kd:IntKind}(h:k (.fn (MQ kd) [] [.ptr c.S.length 0]) (c.S++[.cells 1 false [.str []]])=some y):bj T (.makeM kd) ea c.σ (cK c d k y):=by
 refine bl (v:=LN kd c.σ.n) (σ':=c.σ.add ⟨[.string ByteArray.empty],true,1⟩) (by simp only[AOp.run]) ?_;refine cK.new (kill:=none) hR (Fw hR (blk:= .cells 1 false [.str []]) (x:=⟨[.string ByteArray.empty],true,1⟩) (d:=(1,1)) rfl (aB _) rfl rfl (.cons (.str rfl) .nil)) (fun _ h=>by cases h) ?_ h;refine .fn .nil (.cons (.ptr (by simp[gY]) rfl fun d' _=>⟨c.σ.n, ?_,rfl⟩) .nil);simp[lj]
theorem MJ (hR:Rel c)(he:an c e ea){kd:IntKind}{ok:Bool}{x i:Operand}{key:List Int}(hk:ev e i= .str key)(h:(Hm c.S kd (ev e x) fun _ _ _ l _=>k (cond ok (.tup [.int kd ((fV l key).getD 0), .bool (fV l key).isSome]) (.int kd ((fV l key).getD 0))) c.S)=some y):bj T (.lookM kd ok x i) ea c.σ (cK c d k y):=by
 have hv:=bg he x;have hi:=bg he i;rw[hk]at hi;obtain⟨ks,e1,e2⟩:=hi.str_inv;obtain⟨q,es,fz,l,r,h1,h2,h3⟩:=zN h;rw[h1]at hv;obtain⟨b,y0,s,cr,rest,m1,m2,m3,m4,m5,m6,m7,m8⟩:=CP hR hv h2;refine bl (v:=J8 kd ok s ks) (σ':=c.σ) (by simp only[AOp.run,m1,e1,m3,m6]) (cK.same hR ?_ h3);unfold J8;rw[m7,e2];cases ok
 ·exact .int _ _
 ·exact .tup (.cons (.int _ _) (.cons (.bool _) .nil))
theorem OI (hR:Rel c)(he:an c e ea){kd:IntKind}{x:Operand}(h:(Hm c.S kd (ev e x) fun _ _ _ l _=>k (.int .i64 (rB l)) c.S)=some y):bj T (.lenM kd x) ea c.σ (cK c d k y):=by
 have hv:=bg he x;obtain⟨q,es,fz,l,r,h1,h2,h3⟩:=zN h;rw[h1]at hv;obtain⟨b,y0,s,cr,rest,m1,m2,m3,m4,m5,m6,m7,m8⟩:=CP hR hv h2;refine bl (v:= .int .i64 (rB (ak s))) (σ':=c.σ) (by simp only[AOp.run,m1,m3,m6]) (cK.same hR ?_ h3);rw[m7];exact .int _ _
theorem PD (hR:Rel c)(he:an c e ea){kd k':IntKind}{x i v:Operand}{key:List Int}{n:Int}(hk:ev e i= .str key)(hn:ev e v= .int k' n)(hd: ∀q,Qa (ev e x)=some q→q∈d)
  (h:(Hm c.S kd (ev e x) fun q es fz l r=>gd (decide (k'=kd)&& !fz) (k .undef (dQ c.S q (.cells es false (.str (lJ l key n)::r)))))=some y):bj T (.updM kd x i v) ea c.σ (cK c d k y):=by
 have hv:=bg he x;have hi:=bg he i;have hu:=bg he v;rw[hk]at hi;rw[hn]at hu;obtain⟨ks,e1,e2⟩:=hi.str_inv;have e3:=hu.int_inv;obtain⟨q,es,fz,l,r,h1,h2,h3⟩:=zN h;obtain⟨h4,h5⟩:=ai h3;rw[aE]at h4;have hkk:=of_decide_eq_true h4.1;have hfz:fz=false:=by simpa using h4.2
 subst hkk hfz;rw[h1]at hv;have hdq:=hd q (by rw[h1];rfl);obtain⟨b,y0,s,cr,rest,m1,m2,m3,m4,m5,m6,m7,m8⟩:=CP hR hv h2
 have hw:Writes c q b (.cells es false (.str (lJ l key n)::r)) ⟨.string (vj (lJ (ak s) (ak ks) n))::(cr++rest),true,y0.es⟩:=by
  refine⟨by rw[h2];rfl,m2,by rw[h2];rfl,rfl,y0, .string (vj (lJ (ak s) (ak ks) n))::cr,rest,(es,_),m3,by rw[h2];rfl,m4,rfl,by rw[m6];rfl,rfl, .cons (.str ?_) m8⟩;rw[KG,m7,e2]
 refine bl (v:=undef) (σ':=c.σ.set b (some ⟨.string (vj (lJ (ak s) (ak ks) n))::(cr++rest),true,y0.es⟩)) ?_ ⟨.undef,_,rfl,hw.le hR,hw.rel hR,hw.calm hR hdq, .undef _,h5⟩;simp only[AOp.run,m1,e1,e3,m3,m6];rw[zE trivial,zE (m5 rfl)]
theorem Oi (hR:Rel c)(he:an c e ea){x:Operand}{n:Int}(hx:yq (ev e x)=some n)(h:k (.str (lL n)) c.S=some y):bj T (.encR x) ea c.σ (cK c d k y):=by
 have hv:=bg he x
 have key:Mt (ea.ev x)=some n:=by
  generalize ea.ev x=a at hv;generalize ev e x=v at*;cases hv<;>simp only[yq]at hx<;>first|(cases hx;done)|exact hx
 refine bl (v:= .string (Utf8.encode n)) (σ':=c.σ) ?_ (cK.same hR (.str rfl) h);simp only[AOp.run,key,aD]
theorem Hd : ∀{cs:List VV} {as:List Value} {l:List Int},nf .u8 cs=some l→F2 (VRel c) cs as→qH as=some l
 |[],_,l,h,hf=>by
  cases hf;injection h with h
  subst h;rfl
 |v::cs,_,l,h,hf=>by
  cases hf with
  |cons h1 h2=>
   cases v with
   |int k' n=>
    unfold nf at h;by_cases hk:k'= .u8
    ·subst hk;rw[zB rfl,zC]at h;cases hr:nf .u8 cs with
     |none=>rw[hr]at h;cases h
     |some r=>
      rw[hr]at h;injection h with h
      subst h;cases h1;unfold qH;rw[Hd hr h2];rfl
    ·rw[zA hk]at h;cases h
   |_=>cases h
theorem Ct : ∀{l:List Int} {as:List Value},F2 (VRel c) (cv (.int .u8) l) as→qH as=some l
 |[],_,hf=>by cases hf;rfl
 |n::l,_,hf=>by
  cases hf with
  |cons h1 h2=>
   cases h1;unfold qH;rw[Ct (l:=l) h2];rfl
theorem QU (l:List Int):ak (vj l)=l.map ji:=by
 have key: ∀(l:List Int) (s:ByteArray),ak (l.foldl (fun r n=>r.push (UInt8.ofNat n.toNat)) s)=ak s++l.map ji:=by
  intro l;induction l with
  |nil=>intro s;simp
  |cons n l ih=>
   intro s;rw[aF,ih,List.map_cons]
   have:ak (s.push (UInt8.ofNat n.toNat))=ak s++[ji n]:=by
    simp[ak,ji,ByteArray.push]
   rw[this,aC];rfl
 have:=key l ByteArray.empty;simpa[vj,ak]using this
theorem NB (hR:Rel c)(he:an c e ea){x:Operand}(h:JA c.S (ev e x) k=some y):bj T (.strOf x) ea c.σ (cK c d k y):=by
 have hv:=bg he x
 have key: ∀(m:More) (l:List Int),(∀t,ev e x≠ .str t)→cX c.S 1 (ev e x)=some m→(∀as,F2 (VRel c) m.cellsOf as→qH as=some l)→k (.str (l.map ji)) c.S=some y→bj T (.strOf x) ea c.σ (cK c d k y):=by
  intro m l hns hm hb hk;obtain⟨n,all,h1,h2,h3,h4,_⟩:=lV hR hm hv;have h5:=h2 n (aB _);rw[Nat.mul_one,aJ (by omega)]at h5;have h6:=hb all h4
  obtain⟨p,cp,hp⟩: ∃p cp,ea.ev x= .slice p n cp:=by
   generalize ea.ev x=a at*;cases a<;>simp[tK]at h1
   ·generalize ev e x=v at*
    have hdm: ∀q,(cX c.S 1 (.full q)=some m∨∃o n,cX c.S 1 (.part q o n)=some m)→∃d,(aa c.S q).dim=some d:=by
     intro q hq;cases hg:aa c.S q with
     |dead=>rcases hq with hq|⟨_,_,hq⟩<;>simp[cX,hg]at hq
     |cells es z l=>exact⟨_,rfl⟩
     |arr s z l=>exact⟨_,rfl⟩
    cases hv with
    |str _=>exact(hns _ rfl).elim
    |undef=>simp[cX]at hm
    |ptr _ _ _=>simp[cX]at hm
    |it _ _ _ _=>simp[cX]at hm
    |bld _ _ _=>simp[cX]at hm
    |pix _ _ _ _=>simp[cX]at hm
    |pel _ _ _=>simp[cX]at hm
    |tgtn _=>simp[cX]at hm
    |full _ _ hd=>
     obtain⟨d,hd'⟩:=hdm _ (.inl hm);obtain⟨_,_,hs⟩:=hd d hd';rcases hs with⟨e,_⟩|⟨_,_,_,e,_⟩<;>cases e
    |part _ _ hd=>
     obtain⟨d,hd'⟩:=hdm _ (.inr ⟨_,_,hm⟩);rcases hd d hd' with⟨e,_⟩|⟨_,_,_,e,_⟩<;>cases e
   ·subst h1;exact⟨_,_,rfl⟩
  refine bl (v:= .string (vj l)) (σ':=c.σ) ?_ (cK.same hR (.str (QU l)) hk);rw[hp]at h5;simp only[AOp.run,hp,h5,h6,aD]
 unfold JA at h;split at h
 ·cases h
 ·rename_i hns;split at h
  ·rename_i s l hm;by_cases hs:s= .int .u8
   ·subst hs;rw[ek]at h;exact key _ l (fun t ht=>hns t ht) hm (fun as ha=>Ct ha) h
   ·unfold eU at h;rw[dif_neg (fun e=>hs (by injection e))]at h;cases h
  ·rename_i cs hm;cases hi:nf .u8 cs with
   |none=>rw[hi]at h;cases h
   |some l=>
    rw[hi]at h;exact key _ l (fun t ht=>hns t ht) hm (fun as ha=>Hd hi ha) h
  ·cases h
theorem EB : ∀{cs:List VV} {as:List Value} {l:List Int},nf .i32 cs=some l→F2 (VRel c) cs as→qN as=some l
 |[],_,l,h,hf=>by
  cases hf;injection h with h
  subst h;rfl
 |v::cs,_,l,h,hf=>by
  cases hf with
  |cons h1 h2=>
   cases v with
   |int k' n=>
    unfold nf at h;by_cases hk:k'= .i32
    ·subst hk;rw[zB rfl,zC]at h;cases hr:nf .i32 cs with
     |none=>rw[hr]at h;cases h
     |some r=>
      rw[hr]at h;injection h with h
      subst h;cases h1;unfold qN;rw[EB hr h2];rfl
    ·rw[zA hk]at h;cases h
   |_=>cases h
theorem Cv : ∀{l:List Int} {as:List Value},F2 (VRel c) (cv (.int .i32) l) as→qN as=some l
 |[],_,hf=>by cases hf;rfl
 |n::l,_,hf=>by
  cases hf with
  |cons h1 h2=>
   cases h1;unfold qN;rw[Cv (l:=l) h2];rfl
theorem QV (l:List Int):ak (JB l)=l.flatMap lL:=by
 have key: ∀(l:List Int) (s:ByteArray),ak (l.foldl (fun r n=>r++Utf8.encode n) s)=ak s++l.flatMap lL:=by
  intro l;induction l with
  |nil=>intro s;simp
  |cons n l ih=>
   intro s;rw[aF,ih,List.flatMap_cons,xc,aC];rfl
 have:=key l ByteArray.empty;simpa[JB,ak]using this
theorem Py (hR:Rel c)(he:an c e ea){x:Operand}(h:NC c.S (ev e x) k=some y):bj T (.strOfR x) ea c.σ (cK c d k y):=by
 have hv:=bg he x
 have key: ∀(m:More) (l:List Int),(∀t,ev e x≠ .str t)→cX c.S 1 (ev e x)=some m→(∀as,F2 (VRel c) m.cellsOf as→qN as=some l)→k (.str (l.flatMap lL)) c.S=some y→bj T (.strOfR x) ea c.σ (cK c d k y):=by
  intro m l hns hm hb hk;obtain⟨n,all,h1,h2,h3,h4,_⟩:=lV hR hm hv;have h5:=h2 n (aB _);rw[Nat.mul_one,aJ (by omega)]at h5;have h6:=hb all h4
  obtain⟨p,cp,hp⟩: ∃p cp,ea.ev x= .slice p n cp:=by
   generalize ea.ev x=a at*;cases a<;>simp[tK]at h1
   ·generalize ev e x=v at*
    have hdm: ∀q,(cX c.S 1 (.full q)=some m∨∃o n,cX c.S 1 (.part q o n)=some m)→∃d,(aa c.S q).dim=some d:=by
     intro q hq;cases hg:aa c.S q with
     |dead=>rcases hq with hq|⟨_,_,hq⟩<;>simp[cX,hg]at hq
     |cells es z l=>exact⟨_,rfl⟩
     |arr s z l=>exact⟨_,rfl⟩
    cases hv with
    |str _=>exact(hns _ rfl).elim
    |undef=>simp[cX]at hm
    |ptr _ _ _=>simp[cX]at hm
    |it _ _ _ _=>simp[cX]at hm
    |bld _ _ _=>simp[cX]at hm
    |pix _ _ _ _=>simp[cX]at hm
    |pel _ _ _=>simp[cX]at hm
    |tgtn _=>simp[cX]at hm
    |full _ _ hd=>
     obtain⟨d,hd'⟩:=hdm _ (.inl hm);obtain⟨_,_,hs⟩:=hd d hd';rcases hs with⟨e,_⟩|⟨_,_,_,e,_⟩<;>cases e
    |part _ _ hd=>
     obtain⟨d,hd'⟩:=hdm _ (.inr ⟨_,_,hm⟩);rcases hd d hd' with⟨e,_⟩|⟨_,_,_,e,_⟩<;>cases e
   ·subst h1;exact⟨_,_,rfl⟩
  refine bl (v:= .string (JB l)) (σ':=c.σ) ?_ (cK.same hR (.str (QV l)) hk);rw[hp]at h5;simp only[AOp.run,hp,h5,h6,aD]
 unfold NC at h;split at h
 ·cases h
 ·rename_i hns;split at h
  ·rename_i s l hm;by_cases hs:s= .int .i32
   ·subst hs;rw[ek]at h;exact key _ l (fun t ht=>hns t ht) hm (fun as ha=>Cv ha) h
   ·unfold eU at h;rw[dif_neg (fun e=>hs (by injection e))]at h;cases h
  ·rename_i cs hm;cases hi:nf .i32 cs with
   |none=>rw[hi]at h;cases h
   |some l=>
    rw[hi]at h;exact key _ l (fun t ht=>hns t ht) hm (fun as ha=>EB hi ha) h
  ·cases h
theorem H0 (s:ByteArray): ∀(b i:Nat) (acc:Array Value),(Conv.runesFrom s b i acc).toList=acc.toList++(Da b (ak s) i).map (Value.int .i32)
 |0,i,acc=>by simp[Conv.runesFrom,Da]
 |b+1,i,acc=>by
  unfold Conv.runesFrom Da;rw[ip];by_cases h:i<s.size
  ·rw[zE h,zE h,H0 s b];simp only[Array.toList_push,aC,List.map_cons,Es];rfl
  ·rw[zF h,zF h];simp
theorem Ll (s:ByteArray):eV s=(qM (ak s)).map (Value.int .i32):=by
 unfold eV qM;rw[H0,ip];rfl
theorem Ez (k:IntKind): ∀l:List Int,F2 (VRel c) (cv (.int k) l) (l.map (Value.int k))
 |[]=> .nil
 |n::l=> .cons (.int k n) (Ez k l)
theorem ON (hR:Rel c)(he:an c e ea){x:Operand}(h:MP c.S (ev e x) k=some y):bj T (.mark x) ea c.σ (cK c d k y):=by
 have hv:=bg he x;unfold MP at h;split at h
 ·rename_i q hx;split at h
  ·rename_i es u r hb;have h2:=h;have hfz:(aa c.S q).frozen=false:=by rw[hb];rfl
   have hd:(aa c.S q).dim=some (es,(u::r).length):=by rw[hb];rfl
   rw[hx]at hv;generalize hax:ea.ev x=a at hv;have hv0:=hv;cases hv with
   |full hk ho hdim=>
    obtain⟨n,hn2,hs⟩:=hdim _ hd;rcases hs with⟨_,_,_,_,h0⟩|⟨b,cp,y0,rfl,hm,hle,hcp,hy,hle2⟩
    ·simp at h0
    ·obtain⟨y1,cs,rest,q2,q3,q4,q5,q6⟩:=hR.block hd hm;have hpos:0<n:=Nat.pos_of_ne_zero (fun e=>by subst e;rw[Nat.zero_mul]at hn2;simp at hn2);refine bl (v:= .slice (some ⟨b,0*es,none⟩) n cp) (σ':=c.σ) ?_ (cK.same hR hv0 h2);simp only[AOp.run,hax];rw[zE hpos,q2];simp only[q4 hfz,if_true]
  ·cases h
 ·cases h
theorem Nn (hR:Rel c)(he:an c e ea){x:Operand}(h:Jj c.S (ev e x) k=some y):bj T (.runesOf x) ea c.σ (cK c d k y):=by
 have hv:=bg he x;unfold Jj at h;split at h
 ·rename_i l hx;obtain⟨hg,hk⟩:=ai h;have hg:=aK hg;rw[hx]at hv;obtain⟨s,hs,hl⟩:=hv.str_inv;have hsz:s.size=l.length:=by rw[←hl,ip]
  have hra:=Ll s;rw[hl]at hra;refine bl (v:= .slice (some ⟨c.σ.n,0,none⟩) (eV s).length (eV s).length) (σ':=c.σ.add ⟨eV s,true,1⟩) ?_ ?_
  ·simp only[AOp.run,hs];rw[zE (by omega)]
  ·have hlen:(eV s).length=(qM l).length:=by rw[hra,List.length_map]
   have hmv:Moves c none (some c.σ.n) (.arr (.int .i32) false (qM l)) (c.σ.add ⟨eV s,true,1⟩):=by
    refine⟨(fun b h _ hb=>by injection h with h;subst h;exact Nat.lt_irrefl _ (hR.fbl _ hb)),(fun _ h=>by cases h),fun q x hx=> ?_,Nat.le_succ _,fun i x hx _=> ?_,(1,(qM l).length*1),rfl,aB _, .inr ⟨c.σ.n,⟨eV s,true,1⟩,eV s,[],rfl,zE rfl,rfl,fun _=>rfl,(List.append_nil _).symm,by rw[hra];exact Ez _ _, .inl fun w hw=> ?_⟩⟩
    ·simp only[Hp.add]at hx⊢;split at hx
     ·omega
     ·have:=hR.ok q x hx;omega
    ·have:=hR.ok i x hx;simp only[Hp.add];rw[zF (by omega)];exact hx
    ·have:=hR.ok _ _ hw;omega
   refine cK.new (kill:=none) hR hmv (fun _ h=>by cases h) (ni (dm:=(1,(qM l).length*1)) (n:=(eV s).length) (m:=(eV s).length) (yb:=⟨eV s,true,1⟩) rfl (by simp only;omega) (aB _) (zE rfl) ?_) hk;simp
 ·cases h
end
end
end Go.V
