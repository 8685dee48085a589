/- A part of the proofs of this claim: what functions of the program answer on an abstract machine, and plain laws. No condition. -/
import Derived.Test.YtabdgoepkddlbaaGreatA1
import Derived.Laws.BytesString
import Derived.Laws.RangeAny
import Derived.Laws.IdiomStrings
import Derived.Laws.Cover4
import Derived.Lib.OthersKept
import Derived.IntWalk
import Derived.Below
set_option linter.unusedVariables false
set_option linter.unusedSimpArgs false
set_option linter.unusedSectionVars false
namespace Go.Ab
open Option renaming some->Y,none->Z
open Bool renaming true->Za,false->Zb
open Decidable renaming decide->Zc
section
open Go.RowKit
section
variable {P:Program} {o:Oper} {a:Act} {w w':World} {B:Base P} {N:Nat} {μ:Mu} {e:cb} {σ σ':Hp} {v:Value}
theorem R.iter (h:R B μ σ w)(s:ByteArray):R B (μ.add σ.n ⟨w.heap.size,0,0,1,0,Y (.string s)⟩) (σ.add ⟨[.int .i64 0],Za,1⟩) (w.iter s 0)/\μ.le (μ.add σ.n ⟨w.heap.size,0,0,1,0,Y (.string s)⟩):=by
 have hf:μ σ.n=Z:=h.fresh _ (Nat.le_refl _);have hle':μ.le (μ.add σ.n ⟨w.heap.size,0,0,1,0,Y (.string s)⟩):=Mu.le_add hf
 have old: ∀b x,b≠σ.n->(σ.add ⟨[.int .i64 0],Za,1⟩).m b=Y x->σ.m b=Y x:=by
  intro b x hb hx;simpa[Hp.add,hb]using hx
 have new: ∀x,(σ.add ⟨[.int .i64 0],Za,1⟩).m σ.n=Y x->x=⟨[.int .i64 0],Za,1⟩:=by
  intro x hx;simp[Hp.add]at hx;exact hx.symm
 have oldlt: ∀b x g,σ.m b=Y x->μ b=Y g->g.c<w.heap.size:=λb x g hx hg=>(h.get hx hg).lt
 have hsz:(w.iter s 0).heap.size=w.heap.size+1:=by simp[World.iter]
 refine⟨⟨by rw[hsz];exact Nat.le_succ_of_le h.base,λk hk=>(Below.heap_alloc w _ _ (Nat.lt_of_lt_of_le hk h.base)).trans (h.old k hk),λb hb=> ?_,λb x hx=> ?_,λb b' x x' g g' hx hx' hne ho hg hg'=> ?_, ?_⟩,hle'⟩
 .have:σ.n+1<=b:=hb;unfold Mu.add;rw[zF (by omega)];exact h.fresh b (by omega)
 .by_cases hb:b=σ.n
  .subst hb;obtain rfl:=new x hx
   exact⟨⟨w.heap.size,0,0,1,0,Y (.string s)⟩,by simp[Mu.add],⟨by rw[hsz];exact Nat.lt_succ_self _,rfl,λh0=>(by cases h0),λh0=>(by cases h0),λs' hs=>by
    injection hs with hs
    injection hs with hs
    subst hs
    exact⟨h.base,0,rfl,World.iter_heap w s 0⟩,λhs=>by injection hs with hs;cases hs⟩⟩
  .have hx':=old b x hb hx;obtain⟨g,h1,h2⟩:=h.live b x hx';exact⟨g,hle' _ _ h1,(h2.mono hle').kept (by rw[hsz];exact Nat.le_succ _) (Below.heap_alloc w _ _ h2.lt) (λhi k hk=>Below.heap_alloc w _ _ (h.buf hx' h1 hi hk).2.1)⟩
 .by_cases hb:b=σ.n
  .subst hb;have hb':b'≠σ.n:=λe=>hne e.symm
   have:g.c=w.heap.size:=by simp[Mu.add]at hg;rw[<-hg]
   have h2:μ b'=Y g':=by simpa[Mu.add,hb']using hg'
   have:=oldlt b' x' g' (old _ _ hb' hx') h2;omega
  .have h1:μ b=Y g:=by simpa[Mu.add,hb]using hg
   have hx1:=old b x hb hx;by_cases hb':b'=σ.n
   .subst hb';have:g'.c=w.heap.size:=by simp[Mu.add]at hg';rw[<-hg']
    have:=oldlt b x g hx1 h1;omega
   .have h2:μ b'=Y g':=by simpa[Mu.add,hb']using hg'
    exact h.inj b b' x x' g g' hx1 (old _ _ hb' hx') hne ho h1 h2
 .refine h.sep.of (λb x g hx hg=> ?_) (λb x g hx hg hi _=> ?_)
  .by_cases hb:b=σ.n
   .subst hb;have e1:g=⟨w.heap.size,0,0,1,0,Y (.string s)⟩:=by simp[Mu.add]at hg;exact hg.symm
    subst e1;exact .inr ⟨λh0=>(by injection h0 with h0;cases h0),λb1 x1 g1 k h1 h2 h3 h4 e=>by have:=(h.buf h1 h2 h3 h4).2.1;simp only at e;omega⟩
   .exact .inl ⟨x,old b x hb hx,by simpa[Mu.add,hb]using hg⟩
  .unfold zd;rw[show(w.iter s 0).heap[g.c]?=w.heap[g.c]? from Below.heap_alloc w _ _ (oldlt b x g hx hg)]
theorem R.step (h:R B μ σ w){b:Nat}{x:Blk}{g:G}{s:ByteArray}(hx:σ.m b=Y x)(ho:x.own=Za)(hg:μ b=Y g)(hit:g.it=Y (.string s))(q:Nat):
  R B μ (σ.set b (Y ⟨[.int .i64 (q:Int)],Za,x.es⟩)) (w.iterAt g.c s q):=by
 have hl:=h.get hx hg;obtain⟨o1,p,o3,o4⟩:=hl.iter s hit;have hother: ∀k,k≠g.c->(w.iterAt g.c s q).heap[k]?=w.heap[k]?:=λk hk=>Lib.iterAt_other w _ k s q hk
 have hsz:(w.iterAt g.c s q).heap.size=w.heap.size:=Lib.iterAt_size w _ s q
 have old: ∀b' x',b'≠b->(σ.set b (Y ⟨[.int .i64 (q:Int)],Za,x.es⟩)).m b'=Y x'->σ.m b'=Y x':=by
  intro b' x' hb hx';simpa[Hp.set,hb]using hx'
 have new: ∀x',(σ.set b (Y ⟨[.int .i64 (q:Int)],Za,x.es⟩)).m b=Y x'->x'=⟨[.int .i64 (q:Int)],Za,x.es⟩:=by
  intro x' hx';simp[Hp.set]at hx';exact hx'.symm
 refine⟨by rw[hsz];exact h.base,λk hk=>(hother k (by omega)).trans (h.old k hk),h.fresh,λb' x' hx'=> ?_,λb1 b2 x1 x2 g1 g2 h1 h2 hne hown hg1 hg2=> ?_, ?_⟩
 .by_cases hb:b'=b
  .subst hb;obtain rfl:=new x' hx'
   exact⟨g,hg,⟨by rw[hsz];exact hl.lt,hl.es,λh0=>(by rw[hit]at h0;cases h0),λh0=>(by rw[hit]at h0;cases h0),λs' hs=>by
    rw[hit]at hs;injection hs with hs
    injection hs with hs
    subst hs
    exact⟨o1,q,rfl,Lib.iterAt_heap w _ s p q o4⟩,λhs=>by rw[hit]at hs;injection hs with hs;cases hs⟩⟩
  .have hx1:=old b' x' hb hx';obtain⟨g',h1,h2⟩:=h.live b' x' hx1;exact⟨g',h1,h.stays hx1 h1 (by rw[hsz];exact Nat.le_refl _) g.c (λk hk _=>hother k hk) (λe=>h.inj b b' x x' g g' hx hx1 (λe=>hb e.symm) ho hg h1 e.symm) (λhi hk=>((h.sep b' x' g' hx1 h1 hi _ hk b x g hx hg).1 rfl))⟩
 .have keyown: ∀b' x',(σ.set b (Y ⟨[.int .i64 (q:Int)],Za,x.es⟩)).m b'=Y x'->∃y,σ.m b'=Y y/\y.own=x'.own:=by
   intro b' x' hx';by_cases hb:b'=b
   .subst hb;obtain rfl:=new x' hx';exact⟨x,hx,ho⟩
   .exact⟨x',old b' x' hb hx',rfl⟩
  obtain⟨y1,hy1,e1⟩:=keyown _ _ h1;obtain⟨y2,hy2,_⟩:=keyown _ _ h2;exact h.inj b1 b2 y1 y2 g1 g2 hy1 hy2 hne (e1.trans hown) hg1 hg2
 .have oldl: ∀b' x',(σ.set b (Y ⟨[.int .i64 (q:Int)],Za,x.es⟩)).m b'=Y x'->∃y,σ.m b'=Y y:=by
   intro b' x' hx';by_cases hb:b'=b
   .subst hb;exact⟨x,hx⟩
   .exact⟨x',old b' x' hb hx'⟩
  refine h.sep.of (λb' x' g' hx' hg'=> .inl (let⟨y,hy⟩:=oldl b' x' hx';⟨y,hy,hg'⟩)) (λb' x' g' hx' hg' hi _=> ?_);have hne:b'≠b:=λe=>by subst e;rw[hg]at hg';injection hg' with hg';subst hg';rw[hit]at hi;injection hi with hi;cases hi
  unfold zd;rw[hother _ (λe=>h.inj b b' x x' g g' hx hx' (λe=>hne e.symm) ho hg hg' e.symm)]
end
end
section
open Go.RowKit
section
variable {P:Program} {o:Oper} {a:Act} {w:World} {B:Base P} {N:Nat} {μ:Mu} {e:cb} {σ σ':Hp} {v:Value}
theorem bf2 {x y:Option Operand}(h:dF9 x=Y y):x=y/\∀u,y=Y u->cx u=Za:=by
 unfold dF9 at h;split at h
 .rename_i x;obtain⟨z,hz,h⟩:=Option.map_eq_some_iff.1 h;obtain⟨rfl,h2⟩:=ar hz;subst h;exact⟨rfl,λu hu=>by injection hu with hu;exact hu▸h2⟩
 .injection h with h
  subst h;exact⟨rfl,λu hu=>by cases hu⟩
def AOp.isCall :AOp->Bool
 | .call _ _| .callv _ _=>Za
 |_=>Zb
theorem dw8 {op:BinOp}{t t':TypeId}{x y:Operand}{ao:AOp}(ho:o.op= .binOp op t x y t')(h:cH0 P op t x y=Y ao)(hr:ao.run e σ=Y (v,σ'))(he:gm μ N e a.tmps)(hR:R B μ σ w):qi P o a w B μ v σ':=by
 unfold cH0 at h;split at h
 .split at h
  .rename_i h1 h2;obtain⟨rfl,k1⟩:=ar h1;obtain⟨rfl,k2⟩:=ar h2;injection h with h
   subst h;exact dq6 ho k1 k2 hr he hR
  .cases h
 .split at h
  .rename_i h1 h2;obtain⟨rfl,k1⟩:=ar h1;obtain⟨rfl,k2⟩:=ar h2;injection h with h
   subst h;exact dq6 ho k1 k2 hr he hR
  .cases h
 .split at h
  .rename_i hf h1 h2;obtain⟨rfl,k1⟩:=ar h1;obtain⟨rfl,k2⟩:=ar h2;injection h with h
   subst h;exact aL8 ho rfl hf k1 k2 hr he hR
  .rename_i hf h1 h2;obtain⟨rfl,k1⟩:=ar h1;obtain⟨rfl,k2⟩:=ar h2;injection h with h
   subst h;exact aL8 ho rfl hf k1 k2 hr he hR
  .cases h
 .split at h
  .rename_i hf h1 h2;obtain⟨rfl,k1⟩:=ar h1;obtain⟨rfl,k2⟩:=ar h2;injection h with h
   subst h;exact aL8 ho rfl hf k1 k2 hr he hR
  .rename_i hf h1 h2;obtain⟨rfl,k1⟩:=ar h1;obtain⟨rfl,k2⟩:=ar h2;injection h with h
   subst h;exact aL8 ho rfl hf k1 k2 hr he hR
  .cases h
 .rename_i hu;split at h
  .rename_i hk h1 h2;obtain⟨rfl,k1⟩:=ar h1;obtain⟨rfl,k2⟩:=ar h2;injection h with h
   subst h;exact dq7 ho rfl hu hk k1 k2 hr he hR
  .rename_i hk h1 h2;obtain⟨rfl,k1⟩:=ar h1;obtain⟨rfl,k2⟩:=ar h2;injection h with h
   subst h;exact dq7 ho rfl hu hk k1 k2 hr he hR
  .cases h
 .cases h
theorem dg7 {c:Call}{ao:AOp}(ho:o.op= .call c)(h:aN0 P c=Y ao)(hc:ao.isCall=Zb)(hr:ao.run e σ=Y (v,σ'))(he:gm μ N e a.tmps)(hR:R B μ σ w):qi P o a w B μ v σ':=by
 unfold aN0 at h;split at h
 .split at h
  .obtain⟨x,_,h⟩:=Option.map_eq_some_iff.1 h;subst h;simp[AOp.isCall]at hc
  .cases h
 .obtain⟨x,_,h⟩:=Option.map_eq_some_iff.1 h;subst h;simp[AOp.isCall]at hc
 .rename_i hcal;split at h
  .rename_i ha ht;split at h
   .rename_i hu1 hu2 h1 h2;obtain⟨rfl,k1⟩:=ar h1;obtain⟨rfl,k2⟩:=ar h2;split at h
    .rename_i hn hb hz;split at h
     .rename_i hzn;injection h with h
      subst h;exact ch5 ho hcal ha ht hu1 (.inl ⟨_,hu2⟩) hn hb hz hzn k1 k2 hr he hR
     .cases h
    .cases h
   .rename_i hu1 hu2 h1 h2;obtain⟨rfl,k1⟩:=ar h1;obtain⟨rfl,k2⟩:=ar h2;split at h
    .rename_i hn hb hz;split at h
     .rename_i hzn;injection h with h
      subst h;exact ch5 ho hcal ha ht hu1 (.inr hu2) hn hb hz hzn k1 k2 hr he hR
     .cases h
    .cases h
   .rename_i hu1 hu2 h1 h2;obtain⟨rfl,k1⟩:=ar h1;obtain⟨rfl,k2⟩:=ar h2;split at h
    .rename_i hn hb hz;split at h
     .rename_i hzn;injection h with h
      subst h;exact cO7 ho hcal ha ht hu1 ⟨_,hu2⟩ hn hb hz hzn.1 hzn.2 k1 k2 hr he hR
     .cases h
    .cases h
   .cases h
  .cases h
 .rename_i hcal;split at h
  .rename_i ha ht;split at h
   .rename_i hu h1 h2;obtain⟨rfl,k1⟩:=ar h1;obtain⟨rfl,k2⟩:=ar h2;split at h
    .rename_i hn;injection h with h
     subst h;exact dF3 ho hcal ha ht hu hn k1 k2 hr he hR
    .cases h
   .cases h
  .cases h
 .rename_i hcal;split at h
  .rename_i ha ht;split at h
   .rename_i hu h1;obtain⟨rfl,k1⟩:=ar h1;injection h with h
    subst h;exact dS3 ho hcal ha ht hu k1 hr he hR
   .rename_i hu;injection h with h
    subst h;exact cW2 ho hcal ha ht (.inl ⟨_,hu⟩) hr hR
   .rename_i hu;split at h
    .rename_i hp;injection h with h
     subst h;exact cW2 ho hcal ha ht (.inr ⟨_,_,hu,hp⟩) hr hR
    .cases h
   .cases h
  .cases h
 .rename_i hcal;split at h
  .rename_i ha ht;split at h
   .rename_i hu h1;obtain⟨rfl,k1⟩:=ar h1;injection h with h
    subst h;exact dF1 ho hcal ha ht hu k1 hr he hR
   .cases h
  .cases h
 .rename_i hcal;split at h
  .rename_i ha;split at h
   .rename_i h1 h2;obtain⟨rfl,k1⟩:=ar h1;obtain⟨rfl,k2⟩:=ar h2;injection h with h
    subst h;exact dF6 ho hcal ha k1 k2 hr he hR
   .cases h
  .cases h
 .rename_i hcal;split at h
  .rename_i ha;split at h
   .rename_i h1 h2;obtain⟨rfl,k1⟩:=ar h1;obtain⟨rfl,k2⟩:=ar h2;injection h with h
    subst h;exact dq8 ho hcal ha k1 k2 hr he hR
   .cases h
  .cases h
 .cases h
theorem dI7 {ao:AOp}(h:cH3 P o=Y ao)(hc:ao.isCall=Zb)(hr:ao.run e σ=Y (v,σ'))(he:gm μ N e a.tmps)(hR:R B μ σ w):qi P o a w B μ v σ':=by
 unfold cH3 at h;split at h
 .rename_i ho;obtain⟨x,h1,h⟩:=Option.map_eq_some_iff.1 h;obtain⟨rfl,k1⟩:=ar h1;subst h;exact cW3 (.inl ho) k1 hr he hR
 .rename_i ho;obtain⟨x,h1,h⟩:=Option.map_eq_some_iff.1 h;obtain⟨rfl,k1⟩:=ar h1;subst h;exact cW3 (.inr ho) k1 hr he hR
 .rename_i ho;split at h
  .rename_i h1 h2 h3;obtain⟨rfl,k1⟩:=ar h1;obtain⟨rfl,k2⟩:=ar h2;obtain⟨rfl,k3⟩:=ar h3;injection h with h
   subst h;exact dF7 ho k1 k2 k3 hr he hR
  .cases h
 .rename_i ho;split at h
  .cases h
  .split at h
   .rename_i hz;injection h with h
    subst h;exact dq5 ho hz hr hR
   .cases h
 .rename_i ho;split at h
  .rename_i h1;obtain⟨rfl,k1⟩:=ar h1;injection h with h
   subst h;exact dS1 ho k1 hr he hR
  .cases h
 .rename_i ho;split at h
  .rename_i hu hz;split at h
   .rename_i hall;obtain⟨ps,hp,h⟩:=Option.map_eq_some_iff.1 h;subst h;exact bI4 ho hu hz hall hp hr he hR
   .cases h
  .rename_i hu hz;split at h
   .rename_i hn;obtain⟨ps,hp,h⟩:=Option.map_eq_some_iff.1 h;subst h;exact bU2 ho hu hn hz hp hr he hR
   .cases h
  .cases h
 .rename_i ho;split at h
  .rename_i hu;split at h
   .rename_i hn hz;split at h
    .rename_i hcond;obtain⟨ps,hp,h⟩:=Option.map_eq_some_iff.1 h;subst h;exact cd3 ho hu hn hz hcond.1 hcond.2.1 hcond.2.2 hp hr he hR
    .cases h
   .cases h
  .cases h
 .injection h with h
  subst h;cases hr
 .rename_i ho;split at h
  .rename_i ht h1;obtain⟨rfl,k1⟩:=ar h1;obtain⟨n,hn,h⟩:=Option.map_eq_some_iff.1 h;subst h;exact dq9 ho ht hn k1 hr he hR
  .rename_i ht h1;obtain⟨rfl,k1⟩:=ar h1;injection h with h
   subst h;exact dF5 ho ht k1 hr he hR
  .cases h
 .rename_i ho;split at h
  .rename_i hn h1 h2;obtain⟨rfl,k1⟩:=ar h1;obtain⟨rfl,k2⟩:=ar h2;injection h with h
   subst h;exact dr1 ho hn k1 k2 hr he hR
  .cases h
 .rename_i ho;obtain⟨x,h1,h⟩:=Option.map_eq_some_iff.1 h;obtain⟨rfl,k1⟩:=ar h1;subst h;exact cD3 ho k1 hr he hR
 .rename_i ho;exact dw8 ho h hr he hR
 .rename_i ho;obtain⟨x,h1,h⟩:=Option.map_eq_some_iff.1 h;obtain⟨rfl,k1⟩:=ar h1;subst h;exact ea2 ho k1 hr he hR
 .rename_i ho;split at h
  .rename_i hs hd h1;obtain⟨rfl,k1⟩:=ar h1;injection h with h
   subst h;exact dF2 ho hs hd k1 hr he hR
  .cases h
 .rename_i ho;split at h
  .rename_i h0 h1;injection h with h
   subst h;exact de3 ho h0 h1 hr he hR
  .cases h
 .rename_i ho;split at h
  .rename_i hu;split at h
   .rename_i hn hb hz h1 h2;obtain⟨rfl,k1⟩:=ar h1;obtain⟨rfl,k2⟩:=ar h2;split at h
    .rename_i hcond;injection h with h
     subst h;exact cs6 ho hu hn hb hz k1 k2 hcond.1 hcond.2 hr he hR
    .cases h
   .cases h
  .cases h
 .rename_i ho;split at h
  .rename_i hu h1 h2 h3;obtain⟨rfl,k1⟩:=ar h1;obtain⟨rfl,k2⟩:=bf2 h2;obtain⟨rfl,k3⟩:=bf2 h3;obtain⟨n,hn,h⟩:=Option.map_eq_some_iff.1 h;subst h;exact dr0 ho hu hn k1 k2 k3 hr he hR
  .rename_i hu h1 h2 h3;obtain⟨rfl,k1⟩:=ar h1;obtain⟨rfl,k2⟩:=bf2 h2;obtain⟨rfl,k3⟩:=bf2 h3;obtain⟨n,hn,h⟩:=Option.map_eq_some_iff.1 h;subst h;exact cD4 ho hu hn k1 k2 k3 hr he hR
  .cases h
 .rename_i ho;split at h
  .rename_i hu h1;obtain⟨rfl,k1⟩:=ar h1;split at h
   .rename_i hi;split at h
    .rename_i hn;split at h
     .cases h
     .rename_i h0;injection h with h
      subst h;exact dS4 ho hu hi hn h0 k1 hr he hR
    .cases h
   .cases h
  .cases h
 .rename_i ho;split at h
  .rename_i hu h1;obtain⟨rfl,k1⟩:=ar h1;split at h
   .rename_i hi;split at h
    .rename_i hn hb;injection h with h
     subst h;exact de0 ho hu hi hn hb k1 hr he hR
    .cases h
   .cases h
  .cases h
 .rename_i ho;split at h
  .rename_i hu h1 h2;obtain⟨rfl,k1⟩:=ar h1;obtain⟨rfl,k2⟩:=ar h2;obtain⟨n,hn,h⟩:=Option.map_eq_some_iff.1 h;subst h;exact dS2 ho hu hn k1 k2 hr he hR
  .rename_i hu h1 h2;obtain⟨rfl,k1⟩:=ar h1;obtain⟨rfl,k2⟩:=ar h2;obtain⟨n,hn,h⟩:=Option.map_eq_some_iff.1 h;subst h;exact dF4 ho hu hn k1 k2 hr he hR
  .cases h
 .rename_i ho;split at h
  .rename_i hu h1 h2;obtain⟨rfl,k1⟩:=ar h1;obtain⟨rfl,k2⟩:=ar h2;split at h
   .rename_i hn hb;injection h with h
    subst h;exact de2 ho hu hn hb k1 k2 hr he hR
   .cases h
  .rename_i hu h1 h2;obtain⟨rfl,k1⟩:=ar h1;obtain⟨rfl,k2⟩:=ar h2;injection h with h
   subst h;exact de1 ho hu k1 k2 hr he hR
  .cases h
 .rename_i ho;split at h
  .rename_i hu h1 h2 h3;obtain⟨rfl,k1⟩:=ar h1;obtain⟨rfl,k2⟩:=ar h2;obtain⟨rfl,k3⟩:=ar h3;split at h
   .rename_i hn;injection h with h
    subst h;obtain⟨n,hn⟩:=Option.isSome_iff_exists.1 hn;exact de4 ho hu hn k1 k2 k3 hr he hR
   .cases h
  .cases h
 .rename_i ho;obtain⟨x,h1,h⟩:=Option.map_eq_some_iff.1 h;obtain⟨rfl,k1⟩:=ar h1;subst h;exact cO8 ho k1 hr he hR
 .rename_i ho;exact dg7 ho h hc hr he hR
 .injection h with h
  subst h;cases hr
 .injection h with h
  subst h;cases hr
 .cases h
end
end
section
open Result renaming andThen_ok -> aB
open Sem renaming run_bind -> aD, run_pure -> bB
open Go.RowKit
def cu8 (ops:Array Oper):Option (Nat×Bool)->Option (Option (Nat×Bool))
 |none=>Y Z
 |some (j,want)=>match(ops[j]?).bind (·.dst)with
  |some t=>Y (Y (t,want))
  |none=>Z
def dm1 (N:Nat):Option Nat->Bool
 |none=>Za
 |some d=>d<N
def bB8 (P:Program)(N:Nat)(ops:Array Oper)(o:Oper):Option AOper:=match cH3 P o,cu8 ops o.guard with
 |some op,Y g=>if dm1 N o.dst then Y ⟨o.dst,op,g⟩else Z
 |_,_=>Z
def bv8 (P:Program)(N:Nat)(ops:Array Oper):List Oper->Option (List AOper)
 |[]=>Y []
 |o::r=>match bB8 P N ops o,bv8 P N ops r with
  |some x,Y l=>Y (x::l)
  |_,_=>Z
def ck0 (P:Program)(f:FuncId):Prop:= ∃fn,P.funcs[f]?=Y fn/\fn.body.isSome=Za/\(fn.name== "runtime.NumGoroutine")=Zb
def dX1 (P:Program)(B:Base P)(μ:Mu)(w:World)(K:Value->Hp->Prop):Ending->World->Prop:=λx w'=>
 ∃r σ' r' μ',x= .returned r'/\K r σ'/\μ.le μ'/\R B μ' σ' w'/\VR μ' r r'/\Below B w w'/\P=P
def Sim (P:Program)(f:FuncId)(S:bx9):Prop:=
 ∀(B:Base P) μ σ w args (cargs:Array Value) K,S args σ K->R B μ σ w->F2 (VR μ) args cargs.toList->ck0 P f/\Calls P f cargs w (dX1 P B μ w K)
def aO5 :Nat:=1000000
def ai9 :AExit->Exit->Prop
 | .normal, .normal=>True
 | .exit i, .exit j=>i=j/\j<aO5
 | .exit i, .goto l=>i=aO5+2*l
 | .ret, .ret=>True
 |_,_=>False
def xA {P:Program}(B:Base P)(N:Nat)(μ:Mu)(w:World)(Q:AExit->cb->Hp->Prop):Exit->Act->World->Prop:=λx a' w'=>
 ∃ax e' σ' μ',ai9 ax x/\Q ax e' σ'/\μ.le μ'/\R B μ' σ' w'/\gm μ' N e' a'.tmps/\a'.defers=[]/\Below B w w'
section
variable {P:Program} {T:gr} {o:Oper} {a:Act} {w:World} {B:Base P} {N:Nat} {μ:Mu} {e:cb} {σ σ':Hp} {v:Value}
theorem xA.trans {μ':Mu}{w':World}{Q:AExit->cb->Hp->Prop}(hμ:μ.le μ')(hb:Below B w w'){x:Exit}{a':Act}{w'':World}(h:xA B N μ' w' Q x a' w''):xA B N μ w Q x a' w'':=by
 obtain⟨ax,e',σ',μ'',h1,h2,h3,h4,h5,h6,h7⟩:=h;exact⟨ax,e',σ',μ'',h1,h2,Mu.le_trans hμ h3,h4,h5,h6,hb.trans h7⟩
theorem ci7 {ops:Array Oper}{g:Option (Nat×Bool)}{op:AOp}(hg:cu8 ops o.guard=Y g)(he:gm μ N e a.tmps):Region.wanted o (yielded ops a.tmps)=wanted ⟨o.dst,op,g⟩ e:=by
 unfold cu8 at hg;unfold Region.wanted wanted;split at hg
 .rename_i h;injection hg with hg
  subst hg;simp[h]
 .rename_i j want h;split at hg
  .rename_i t ht;injection hg with hg
   subst hg;simp only[h];have hv:=he.2 t;unfold yielded;rw[ht];simp only[zG];by_cases hlt:t<a.tmps.size
   .have e1:a.tmps[t]?=Y (a.tmps.getD t undef):=by simp[hlt]
    rw[e1];generalize a.tmps.getD t undef=u at*;generalize e t=u' at*;cases hv<;>simp
    try(rename_i b;cases b<;>cases want<;>rfl)
   .have e1:a.tmps[t]?=Z:=Array.getElem?_eq_none (Nat.le_of_not_lt hlt);have e2:a.tmps.getD t undef=undef:=by simp[e1]
    rw[e2]at hv;rw[e1];generalize e t=u at*;cases hv;simp
  .cases hg
theorem gm.putO (h:gm μ N e a.tmps){d:Option Nat}(hd:dm1 N d=Za){v':Value}(hv:VR μ v v'):gm μ N (e.putO d v) (a.put d v').tmps:=by
 cases d with
 |none=>exact h
 |some d=>exact h.put d (by simpa[dm1]using hd) hv
theorem zy (d:Option Nat)(v':Value):(a.put d v').defers=a.defers:=by cases d<;>rfl
theorem cf6 {f:FuncId}(h:ck0 P f)(args:Array Value)(w:World):(callFunc f args).run P w= .ok (.enter f args) w:=by
 obtain⟨fn,h1,h2,h3⟩:=h;have h4:fn.body.isNone=Zb:=by cases hb:fn.body<;>simp[hb]at h2⊢
 simp only[callFunc,aD,run_program,aB,h1,h3,h4,Bool.false_eq_true,if_false,bB]
theorem VR.func_inv {f:Fn}{x y:Array Value}{v':Value}(h:VR μ (.func f x y) v'): ∃x' y',v'= .func f x' y'/\F2 (VR μ) x.toList x'.toList/\F2 (VR μ) y.toList y'.toList:=by
 cases h with
 |func h1 h2=>exact⟨_,_,rfl,h1,h2⟩
theorem dg8 {f:FuncId}{args:List Operand}(h:cH3 P o=Y (.call f args)): ∃c,o.op= .call c/\aN0 P c=Y (.call f args):=by
 unfold cH3 at h;split at h
 all_goals first
  |exact⟨_,‹_›,h⟩
  |(exfalso;revert h;unfold cH0;(repeat' split)<;>simp)
  |(exfalso;revert h;(repeat' split)<;>simp)
theorem cR4 {f:Operand}{args:List Operand}(h:cH3 P o=Y (.callv f args)): ∃c,o.op= .call c/\aN0 P c=Y (.callv f args):=by
 unfold cH3 at h;split at h
 all_goals first
  |exact⟨_,‹_›,h⟩
  |(exfalso;revert h;unfold cH0;(repeat' split)<;>simp)
  |(exfalso;revert h;(repeat' split)<;>simp)
theorem cH1 {c:Call}{f:FuncId}{args:List Operand}(h:aN0 P c=Y (.call f args)):c.callee= .value (.func f)/\bI6 c.args.toList=Y args:=by
 unfold aN0 at h;split at h
 .rename_i hc;split at h
  .simp at h;obtain⟨h1,rfl⟩:=h;exact⟨hc,h1⟩
  .cases h
 all_goals (exfalso;revert h;(repeat' split)<;>simp)
theorem cu7 {c:Call}{f:Operand}{args:List Operand}(h:aN0 P c=Y (.callv f args)):c.callee= .value f/\cx f=Za/\bI6 c.args.toList=Y args:=by
 unfold aN0 at h;split at h
 .exfalso;revert h;split<;>simp
 .rename_i hc;simp at h;obtain⟨h1,rfl⟩:=h;exact⟨hc,rfl,h1⟩
 all_goals (exfalso;revert h;(repeat' split)<;>simp)
theorem cT2 (hT: ∀f,Sim P f (T f)){f:FuncId}{args:List Value}{cargs:Array Value}{k:Value->Hp->Prop}(hr:T f args σ k)(hR:R B μ σ w)(ha:F2 (VR μ) args cargs.toList)
  (hrun:ck0 P f->(execOp a.eval o).run P w= .ok (.enter f cargs) w) {next:Act->World->Prop} {Q:Exit->Act->World->Prop}
  (hk: ∀v σ' v' μ' w',k v σ'->μ.le μ'->R B μ' σ' w'->VR μ' v v'->Below B w w'->next (a.put o.dst v') w'):o.wp P a w next Q:=by
 obtain⟨h1,h2⟩:=hT f B μ σ w args cargs k hr hR ha;unfold Oper.wp;rw[hrun h1];simp only[Oper.upon];refine h2.mono λx w' hx=> ?_
 obtain⟨r,σ',r',μ',rfl,q1,q2,q3,q4,q5,_⟩:=hx;exact hk r σ' r' μ' w' q1 q2 q3 q4 q5
theorem bV6 (hT: ∀f,Sim P f (T f)){op:AOp}(h:cH3 P o=Y op){k:Value->Hp->Prop}(hr:br T op e σ k)(he:gm μ N e a.tmps)(hR:R B μ σ w)
  {next:Act->World->Prop} {Q:Exit->Act->World->Prop}
  (hk: ∀v σ' v' μ' w',k v σ'->μ.le μ'->R B μ' σ' w'->VR μ' v v'->Below B w w'->next (a.put o.dst v') w'):o.wp P a w next Q:=by
 by_cases hc:op.isCall=Za
 .cases op<;>simp[AOp.isCall]at hc
  case call f args=>
   obtain⟨c,ho,h1⟩:=dg8 h;obtain⟨h2,h3⟩:=cH1 h1;have ha:=bs4 he h3;simp only[br]at hr;refine cT2 (cargs:=c.args.map a.eval) hT hr hR (by simpa using ha) (λhcall=> ?_) hk;simp only[execOp,ho,resolve,h2,aD,Act.eval,Deferred.ofValue,bB,aB,invoke];simp[cf6 hcall]
  case callv f args=>
   obtain⟨c,ho,h1⟩:=cR4 h;obtain⟨h2,h4,h3⟩:=cu7 h1;have ha:=bs4 he h3;have hf:=he.ev h4;simp only[br]at hr;split at hr
   .rename_i g first captured hg
    rw[hg]at hf;obtain⟨x',y',e1,e2,e3⟩:=hf.func_inv;refine cT2 (cargs:=x'++c.args.map a.eval++y') hT hr hR (by simpa using(e2.append ha).append e3) (λhcall=> ?_) hk;simp only[execOp,ho,resolve,h2,e1,aD,Deferred.ofValue,bB,aB,invoke];simp[cf6 hcall]
   .exact hr.elim
 .have hr': ∃v σ',op.run e σ=Y (v,σ')/\k v σ':=by
   unfold br at hr;cases op<;>simp[AOp.isCall]at hc<;>simp only at hr
   all_goals
    split at hr
    .rename_i v σ' hv;exact⟨v,σ',hv,hr⟩
    .exact hr.elim
  obtain⟨v,σ',hv,hkv⟩:=hr';obtain⟨nx,w',μ',v',h1,h2,h3,h4,h5,h6⟩:=dI7 h (by simpa using hc) hv he hR;unfold Oper.wp;rw[h1];rcases h2 with rfl|⟨rfl,rfl⟩
  .exact hk v σ' v' μ' w' hkv h3 h4 h5 h6
  .exact hk v σ' undef μ' w' hkv h3 h4 h5 h6
theorem cs9 (hT: ∀f,Sim P f (T f)){ops:Array Oper}{Q:AExit->cb->Hp->Prop}{μ0:Mu}{w0:World}: ∀(l:List Oper) (al:List AOper) (e:cb) (σ:Hp) (μ:Mu) (a:Act) (w:World),bv8 P N ops l=Y al->aq2 T (Q .normal) al e σ->
  R B μ σ w->gm μ N e a.tmps->a.defers=[]->μ0.le μ->Below B w0 w->wpList P ops (xA B N μ0 w0 Q) l a w
 |[],al,e,σ,μ,a,w,h,hw,hR,he,hd,hμ0,hb0=>by
  simp[bv8]at h;subst h;exact⟨.normal,e,σ,μ,trivial,hw,hμ0,hR,he,hd,hb0⟩
 |o::l,al,e,σ,μ,a,w,h,hw,hR,he,hd,hμ0,hb0=>by
  simp only[bv8]at h;split at h
  .rename_i x r h1 h2;injection h with h
   subst h;unfold bB8 at h1;split at h1
   .rename_i op g h3 h4;split at h1
    .rename_i h5;injection h1 with h1
     subst h1;have hwant:=ci7 (op:=op) h4 he;unfold wpList;simp only[aq2]at hw;rw[hwant];split
     .rename_i hb;rw[zE hb]at hw;left;refine bV6 hT h3 hw he hR λv σ' v' μ' w' hk hμ hR' hv hbel=> ?_
      exact cs9 hT l r _ σ' μ' (a.put o.dst v') w' h2 hk hR' ((he.mono hμ).putO h5 hv) (by rw[zy];exact hd) (Mu.le_trans hμ0 hμ) (hb0.trans hbel)
     .rename_i hb;rw[zF hb]at hw;exact cs9 hT l r _ σ μ (a.put o.dst undef) w h2 hw hR (he.putO h5 (VR.undef μ)) (by rw[zy];exact hd) hμ0 hb0
    .cases h1
   .cases h1
  .cases h
end
end
section
open List renaming map_congr_left -> aB, mem_append -> aD
open Go.RowKit
def sY :Operand->List Nat
 | .tmp t=>[t]
 |_=>[]
def dw0 :Option Operand->List Nat
 |some x=>sY x
 |none=>[]
def AOp.reads :AOp->List Nat
 | .move x| .box _ x| .load x| .loadN _ x| .nilCheck x| .un _ x| .conv _ x| .off _ x| .fieldV _ _ _ x| .extract x _| .len x| .capN x=>sY x
 | .pick c a b| .sliceX c a b=>sY c++sY a++sY b
 | .alloc _ _| .lenC _| .stuck=>[]
 | .build _ ps| .buildSlice _ _ _ ps=>ps.flatMap λp=>sY p.2.2
 | .store _ a x=>sY a++sY x
 | .bin _ x y| .eqv _ _ x y| .eqCells _ _ x y| .idx _ x y| .idxA _ _ x y| .indexV _ _ _ x y| .indexS x y| .append _ _ x y| .appendZ _ _ _ x y| .copy _ x y| .most x y| .least x y| .makeSlice _ _ _ x y=>sY x++sY y
 | .mkFunc _ xs cs=>xs.flatMap sY++cs.flatMap sY
 | .slice _ x lo hi| .sliceArr _ _ x lo hi=>sY x++dw0 lo++dw0 hi
 | .call _ xs=>xs.flatMap sY
 | .callv f xs=>sY f++xs.flatMap sY
theorem bi {e e':cb}{x:Operand}(h: ∀t∈sY x,e t=e' t):e.ev x=e'.ev x:=by
 cases x<;>first|rfl|exact h _ (by simp[sY])
theorem be1 {e e':cb}{x:Option Operand}(h: ∀t∈dw0 x,e t=e' t):x.map e.ev=x.map e'.ev:=by
 cases x with
 |none=>rfl
 |some x=>simp only[Option.map_some];rw[bi h]
theorem be0 {e e':cb}{xs:List Operand}(h: ∀t∈xs.flatMap sY,e t=e' t):xs.map e.ev=xs.map e'.ev:=by
 apply aB;intro x hx;exact bi λt ht=>h t (List.mem_flatMap.2 ⟨x,hx,ht⟩)
theorem cf7 {e e':cb}{ps:List (Nat×Nat×Operand)}(h: ∀t∈ps.flatMap (λp=>sY p.2.2),e t=e' t):(ps.map λ(o,s,x)=>(o,s,e.ev x))=ps.map λ(o,s,x)=>(o,s,e'.ev x):=by
 apply aB;rintro⟨o,s,x⟩ hx;simp only;rw[bi λt ht=>h t (List.mem_flatMap.2 ⟨_,hx,ht⟩)]
theorem bA8 {e e':cb}{σ:Hp}{op:AOp}(h: ∀t∈op.reads,e t=e' t):op.run e σ=op.run e' σ:=by
 cases op<;>simp only[AOp.reads,aD]at h<;>simp only[AOp.run]
 case move x=>rw[bi h]
 case pick c a b=>rw[bi λt ht=>h t (.inl (.inl ht)),bi λt ht=>h t (.inl (.inr ht)),bi λt ht=>h t (.inr ht)]
 case box es x=>rw[bi h]
 case build z ps=>rw[cf7 h]
 case buildSlice es ln z ps=>rw[cf7 h]
 case load x=>rw[bi h]
 case loadN n x=>rw[bi h]
 case store n a x=>rw[bi λt ht=>h t (.inl ht),bi λt ht=>h t (.inr ht)]
 case nilCheck x=>rw[bi h]
 case bin op x y=>rw[bi λt ht=>h t (.inl ht),bi λt ht=>h t (.inr ht)]
 case eqv kd neg x y=>rw[bi λt ht=>h t (.inl ht),bi λt ht=>h t (.inr ht)]
 case eqCells neg ks x y=>rw[bi λt ht=>h t (.inl ht),bi λt ht=>h t (.inr ht)]
 case un op x=>rw[bi h]
 case conv k x=>rw[bi h]
 case mkFunc f xs cs=>rw[be0 λt ht=>h t (.inl ht),be0 λt ht=>h t (.inr ht)]
 case makeSlice es by_ z l c=>rw[bi λt ht=>h t (.inl ht),bi λt ht=>h t (.inr ht)]
 case slice es x lo hi=>rw[bi λt ht=>h t (.inl (.inl ht)),be1 λt ht=>h t (.inl (.inr ht)),be1 λt ht=>h t (.inr ht)]
 case sliceArr es n x lo hi=>rw[bi λt ht=>h t (.inl (.inl ht)),be1 λt ht=>h t (.inl (.inr ht)),be1 λt ht=>h t (.inr ht)]
 case off n x=>rw[bi h]
 case idx es x i=>rw[bi λt ht=>h t (.inl ht),bi λt ht=>h t (.inr ht)]
 case idxA ln es x i=>rw[bi λt ht=>h t (.inl ht),bi λt ht=>h t (.inr ht)]
 case fieldV fo n agg x=>rw[bi h]
 case indexV ln es agg x i=>rw[bi λt ht=>h t (.inl ht),bi λt ht=>h t (.inr ht)]
 case indexS x i=>rw[bi λt ht=>h t (.inl ht),bi λt ht=>h t (.inr ht)]
 case extract x i=>rw[bi h]
 case append es by_ s x=>rw[bi λt ht=>h t (.inl ht),bi λt ht=>h t (.inr ht)]
 case appendZ es by_ z s x=>rw[bi λt ht=>h t (.inl ht),bi λt ht=>h t (.inr ht)]
 case copy es d s=>rw[bi λt ht=>h t (.inl ht),bi λt ht=>h t (.inr ht)]
 case len x=>rw[bi h]
 case capN x=>rw[bi h]
 case sliceX c a b=>rw[bi λt ht=>h t (.inl (.inl ht)),bi λt ht=>h t (.inl (.inr ht)),bi λt ht=>h t (.inr ht)]
 case most x y=>rw[bi λt ht=>h t (.inl ht),bi λt ht=>h t (.inr ht)]
 case least x y=>rw[bi λt ht=>h t (.inl ht),bi λt ht=>h t (.inr ht)]
theorem cF4 {T:gr}{e e':cb}{σ:Hp}{op:AOp}{k:Value->Hp->Prop}(h: ∀t∈op.reads,e t=e' t)(hr:br T op e σ k):br T op e' σ k:=by
 by_cases hc:op.isCall=Za
 .cases op<;>simp[AOp.isCall]at hc
  case call f xs=>
   simp only[br,AOp.reads]at*;rw[<-be0 h];exact hr
  case callv f xs=>
   simp only[br,AOp.reads,aD]at*;rw[<-be0 λt ht=>h t (.inr ht),<-bi λt ht=>h t (.inl ht)];exact hr
 .unfold br at*;cases op<;>simp[AOp.isCall]at hc<;>simp only at hr⊢ <;>rw[<-bA8 h]<;>exact hr
def AOper.looks (o:AOper):List Nat:=o.op.reads++(match o.guard with|some (t,_)=>[t]|none=>[])
theorem aN1 {e e':cb}{o:AOper}(h: ∀t∈o.looks,e t=e' t):wanted o e=wanted o e':=by
 unfold wanted;unfold AOper.looks at h;cases hg:o.guard with
 |none=>rfl
 |some g=>
  rw[hg]at h;have:=h g.1 (by simp);simp only[this]
theorem bo1 {e:cb}{σ σ':Hp}{op:AOp}{v:Value}(hs:op.still=Za)(h:op.run e σ=Y (v,σ')):σ'=σ:=by
 cases op<;>simp[AOp.still]at hs<;>simp only[AOp.run]at h
 all_goals
  revert h
  repeat' split
  all_goals first
   |(intro h;cases h;done)
   |(intro h;simp only[Option.some.injEq,Prod.mk.injEq]at h;exact h.2.symm)
   |(intro h;obtain⟨_,_,h⟩:=Option.map_eq_some_iff.1 h;simp only[Prod.mk.injEq]at h;exact h.2.symm)
theorem df6 {e:cb}{σ:Hp}{op:AOp}{v:Value}(hs:op.still=Za)(hl:op.isLoad=Zb)(h:op.run e σ=Y (v,σ))(σ':Hp):op.run e σ'=Y (v,σ'):=by
 cases op<;>simp[AOp.still]at hs
 case slice es x lo hi=>
  cases lo with
  |some _=>simp[AOp.isLoad]at hl
  |none=>
   simp only[AOp.run,az2,Bool.or_true,if_true]at h⊢;revert h
   repeat' split
   all_goals first
    |(intro h;cases h;done)
    |(intro h;simp only[Option.some.injEq,Prod.mk.injEq]at h⊢;exact⟨h.1,trivial⟩)
    |simp_all
 all_goals first
  |(simp[AOp.isLoad]at hl;done)
  |(simp only[AOp.run]at h⊢
    revert h
    repeat' split
    all_goals first
     |(intro h;cases h;done)
     |(intro h;simp only[Option.some.injEq,Prod.mk.injEq]at h⊢;exact⟨h.1,trivial⟩)
     |(intro h;obtain⟨u,hu,h⟩:=Option.map_eq_some_iff.1 h;simp only[Prod.mk.injEq]at h;rw[hu];simp[h.1]))
end
section
open Bool renaming and_eq_true -> bB, not_eq_true' -> eD
open List renaming mem_cons_of_mem -> aB, mem_cons_self -> aD, range -> bD, find?_some -> cB, getD_eq_getElem?_getD -> cD, getElem?_eq_none -> dB, all_eq_true -> fB, mem_of_find?_eq_some -> fD
open Nat renaming lt_or_ge -> dD
open Go.RowKit
theorem dc9 {listed:Array Bool}{i:Nat}(h:listed.getD i Za=Zb):listed.getD i Zb=Zb:=by
 rcases dD i listed.size with h'|h'
 .simp[h']at h⊢;exact h
 .simp[Array.getElem?_eq_none h']at h
theorem dC4 {listed:Array Bool}{i:Nat}(hi:i<listed.size)(h:listed.getD i Zb=Zb):listed.getD i Za=Zb:=by
 simp[hi]at h⊢;exact h
abbrev DL :=List (AOper×List Nat)
def sU (al:DL)(i:Nat):Option Nat:=(al[i]?).bind (·.1.dst)
def be9 (al:DL)(i:Nat):List Nat:=match al[i]? with
 |some (o,_)=>o.looks
 |none=>[]
def aL0 (al:DL):Bool:=
 (bD al.length).all λi=>
  (jp al i).all (λq=>Zc (q<i))&&
  (match sU al i with
   |none=>Za
   |some t=>(bD al.length).all λj=>i==j||((sU al j !=Y t)&&(!(be9 al j).contains t||ae7 al i j||ae7 al j i)))
section
variable {al:DL}
theorem cA4 (h:aL0 al=Za){i q:Nat}(hi:i<al.length)(hq:q∈jp al i):q<i:=by
 have:=List.all_eq_true.1 h i (List.mem_range.2 hi);simp only[bB,fB,decide_eq_true_eq]at this;exact this.1 q hq
theorem aC5 {i t:Nat}(h:sU al i=Y t):i<al.length:=by
 unfold sU at h;rcases dD i al.length with h1|h1
 .exact h1
 .simp[dB h1]at h
theorem cM3 (h:aL0 al=Za){i j t:Nat}(hi:sU al i=Y t)(hj:sU al j=Y t):i=j:=by
 have:=List.all_eq_true.1 h i (List.mem_range.2 (aC5 hi));simp only[bB,hi]at this;have:=List.all_eq_true.1 this.2 j (List.mem_range.2 (aC5 hj));by_cases e:i=j
 .exact e
 .simp[hj,e]at this
theorem cM2 (h:aL0 al=Za){i j t:Nat}(hi:sU al i=Y t)(hjl:j<al.length)(hj:t∈be9 al j)(hne:i≠j):ae7 al i j=Za∨ae7 al j i=Za:=by
 have:=List.all_eq_true.1 h i (List.mem_range.2 (aC5 hi));simp only[bB,hi]at this;have:=List.all_eq_true.1 this.2 j (List.mem_range.2 hjl);simp[hne,hj]at this;exact this.2
def av5 (al:DL)(D:List Nat):Prop:= ∀i∈D,∀q∈jp al i,q∈D
theorem cO0 {acc ps:List Nat}{p:Nat}(h:(bn4 acc ps).testBit p=Za): ∃q∈ps,q=p∨(acc.getD q 0).testBit p=Za:=by
 have key: ∀(ps:List Nat) (m:Nat),(ps.foldl (λm q=>m|||2 ^ q|||acc.getD q 0) m).testBit p=Za->m.testBit p=Za∨∃q∈ps,q=p∨(acc.getD q 0).testBit p=Za:=by
  intro ps;induction ps with
  |nil=>intro m h;exact .inl h
  |cons q ps ih=>
   intro m h;rcases ih _ h with h1|⟨q',h1,h2⟩
   .simp only[Nat.testBit_or,Nat.testBit_two_pow,Bool.or_eq_true,decide_eq_true_eq]at h1;rcases h1 with(h1|h1)|h1
    .exact .inl h1
    .exact .inr ⟨q,aD .., .inl h1⟩
    .exact .inr ⟨q,aD .., .inr h1⟩
   .exact .inr ⟨q',aB _ h1,h2⟩
 rcases key ps 0 h with h1|h1
 .simp at h1
 .exact h1
theorem bT5 {al0:DL}: ∀(r pre:DL) (acc:List Nat),pre++r=al0->acc.length=pre.length->
  (∀j p,(acc.getD j 0).testBit p=Za->∃q∈jp al0 j,q=p∨(q<j/\(acc.getD q 0).testBit p=Za))->
  ∀j p,((cC4 acc r).getD j 0).testBit p=Za->∃q∈jp al0 j,q=p∨(q<j/\((cC4 acc r).getD q 0).testBit p=Za)
 |[],pre,acc,_,_,h=>h
 |(o,ps)::r,pre,acc,he,hl,h=>by
  simp only[cC4];refine bT5 r (pre++[(o,ps)]) (acc++[bn4 acc ps]) (by rw[List.append_assoc];exact he) (by simp[hl]) λj p hj=> ?_
  have hps:jp al0 acc.length=ps:=by
   unfold jp;rw[<-he,hl,List.getElem?_append_right (Nat.le_refl _)];simp
  have hget: ∀q,q<acc.length->(acc++[bn4 acc ps]).getD q 0=acc.getD q 0:=by
   intro q hq;simp only[cD];rw[List.getElem?_append_left hq]
  by_cases h1:j<acc.length
  .rw[hget j h1]at hj;obtain⟨q,h2,h3⟩:=h j p hj;refine⟨q,h2,h3.imp id λ⟨h4,h5⟩=>⟨h4, ?_⟩⟩;rw[hget q (by omega)];exact h5
  .by_cases h2:j=acc.length
   .subst h2;have:(acc++[bn4 acc ps]).getD acc.length 0=bn4 acc ps:=by simp
    rw[this]at hj;obtain⟨q,h3,h4⟩:=cO0 hj;refine⟨q,by rw[hps];exact h3,h4.imp id λh5=> ?_⟩
    have hq:q<acc.length:=by
     rcases dD q acc.length with h6|h6
     .exact h6
     .simp[cD,dB h6]at h5
    exact⟨hq,by rw[hget q hq];exact h5⟩
   .have:(acc++[bn4 acc ps]).getD j 0=0:=by
     simp only[cD];rw[dB (by simp;omega)];rfl
    rw[this]at hj;simp at hj
theorem da8 {p j:Nat}(h:ae7 al p j=Za): ∃q∈jp al j,q=p∨(q<j/\ae7 al p q=Za):=
 bT5 al [] [] rfl rfl (λj p h=>by simp at h) j p h
theorem av5.bef {D:List Nat}(h:av5 al D): ∀(p j:Nat),ae7 al p j=Za->(∀q∈jp al j,q∈D)->p∈D:=by
 intro p j;induction j using Nat.strongRecOn with
 |_ j ih=>
  intro hb hj;obtain⟨q,hq,rfl|⟨hlt,hb⟩⟩:=da8 hb
  .exact hj q hq
  .exact ih q hlt hb (h q (hj q hq))
def ki (al:DL)(e0:cb)(val:Nat->Value)(D:List Nat):cb:=λt=>match D.find? (λi=>sU al i==Y t)with
 |some i=>val i
 |none=>e0 t
theorem wv {e0:cb}{val:Nat->Value}{D:List Nat}(h:aL0 al=Za){i t:Nat}(hi:i∈D)(hd:sU al i=Y t):ki al e0 val D t=val i:=by
 unfold ki;cases hf:D.find? (λi=>sU al i==Y t)with
 |none=>
  have:=List.find?_eq_none.1 hf i hi;simp[hd]at this
 |some j=>
  have:=cB hf;simp only[beq_iff_eq]at this;rw[cM3 h this hd]
theorem ui {e0:cb}{val:Nat->Value}{D:List Nat}{t:Nat}(h: ∀i∈D,sU al i≠Y t):ki al e0 val D t=e0 t:=by
 unfold ki;have:D.find? (λi=>sU al i==Y t)=Z:=List.find?_eq_none.2 λi hi=>by simpa using h i hi
 rw[this]
theorem ao4 {e0:cb}{val:Nat->Value}{D:List Nat}(h:aL0 al=Za)(i:Nat)(hi:i∉D):ki al e0 val (i::D)=(ki al e0 val D).putO (sU al i) (val i):=by
 funext t
 cases hd:sU al i with
 |none=>
  simp only[cb.putO];by_cases hx: ∃j∈D,sU al j=Y t
  .obtain⟨j,hj,hjt⟩:=hx;rw[wv h (aB _ hj) hjt,wv h hj hjt]
  .rw[ui (λj hj hjt=>hx ⟨j,hj,hjt⟩)];refine ui λj hj hjt=> ?_
   rcases List.mem_cons.1 hj with rfl|hj
   .rw[hd]at hjt;cases hjt
   .exact hx ⟨j,hj,hjt⟩
 |some d=>
  simp only[cb.putO,cb.put];split
  .rename_i ht;subst ht;exact wv h (aD ..) hd
  .rename_i ht;by_cases hx: ∃j∈D,sU al j=Y t
   .obtain⟨j,hj,hjt⟩:=hx;rw[wv h (aB _ hj) hjt,wv h hj hjt]
   .rw[ui (λj hj hjt=>hx ⟨j,hj,hjt⟩)];refine ui λj hj hjt=> ?_
    rcases List.mem_cons.1 hj with rfl|hj
    .rw[hd]at hjt;exact ht (Option.some.inj hjt).symm
    .exact hx ⟨j,hj,hjt⟩
def ba8 (al:DL)(e0:cb)(val:Nat->Value)(j:Nat):cb:=λt=>match(bD al.length).find? (λi=>sU al i==Y t&&ae7 al i j)with
 |some i=>val i
 |none=>e0 t
theorem ct8 {e0:cb}{val:Nat->Value}{D:List Nat}(h:aL0 al=Za)(hD:av5 al D){j:Nat}(hjl:j<al.length)(hj:j∉D)(hp: ∀q∈jp al j,q∈D){t:Nat}(ht:t∈be9 al j):
  ki al e0 val D t=ba8 al e0 val j t:=by
 unfold ba8;cases hf:(bD al.length).find? (λi=>sU al i==Y t&&ae7 al i j)with
 |some i=>
  have:=cB hf;simp only[bB,beq_iff_eq]at this;exact wv h (hD.bef _ _ this.2 hp) this.1
 |none=>
  refine ui λi hi hit=> ?_
  have h1:=List.find?_eq_none.1 hf i (List.mem_range.2 (aC5 hit));simp only[hit,beq_self_eq_true,Bool.true_and]at h1;have hne:i≠j:=λe=>hj (e▸hi)
  rcases cM2 h hit hjl ht hne with hb|hb
  .exact h1 hb
  .exact hj (hD.bef _ _ hb (hD i hi))
theorem du3 {e0:cb}{val val':Nat->Value}{D:List Nat}(hD:av5 al D){j:Nat}(hj:j∈D)(hv: ∀i∈D,val' i=val i):ba8 al e0 val' j=ba8 al e0 val j:=by
 funext t
 unfold ba8;cases hf:(bD al.length).find? (λi=>sU al i==Y t&&ae7 al i j)with
 |none=>rfl
 |some i=>
  have:=cB hf;simp only[bB,beq_iff_eq]at this;exact hv i (hD.bef _ _ this.2 (hD j hj))
theorem bd9 {e0:cb}{val val':Nat->Value}{D:List Nat}(hv: ∀i∈D,val' i=val i):ki al e0 val' D=ki al e0 val D:=by
 funext t
 unfold ki;cases hf:D.find? (λi=>sU al i==Y t)with
 |none=>rfl
 |some i=>exact hv i (fD hf)
def left (n:Nat)(D:List Nat):Nat:=((bD n).filter λi=> !D.contains i).length
theorem bz8 {n i:Nat}{D:List Nat}(hi:i<n)(hD:i∉D):left n (i::D)<left n D:=by
 unfold left
 have:(bD n).filter (λj=> !(i::D).contains j)=((bD n).filter λj=> !D.contains j).filter λj=>j !=i:=by
  rw[List.filter_filter];apply List.filter_congr;intro j _;simp only[List.contains_cons,Bool.not_or];rfl
 rw[this];refine List.length_filter_lt_length_iff_exists.2 ⟨i, ?_,by simp⟩;simp[hi,hD]
theorem bz9 {n:Nat}{D:List Nat}(h:left n D=0){i:Nat}(hi:i<n):i∈D:=by
 unfold left at h;have:=List.eq_nil_of_length_eq_zero h;rw[List.filter_eq_nil_iff]at this;have:=this i (List.mem_range.2 hi);simpa using this
theorem do0 {n i:Nat}{D:List Nat}(hi:i<n)(hD:i∉D):0<left n D:=by
 rcases Nat.eq_zero_or_pos (left n D)with h|h
 .exact absurd (bz9 h hi) hD
 .exact h
end
section
variable {P:Program} {T:gr} {al:DL} {ops:Array Oper} {B:Base P} {N:Nat}
structure Fits (P:Program)(N:Nat)(ops:Array Oper)(al:DL):Prop where
 len:ops.size=al.length
 op: ∀(i:Nat) o,ops[i]?=Y o->∃x,al[i]?=Y (x,jp al i)/\bB8 P N ops o=Y x
 pred: ∀(i:Nat) o,ops[i]?=Y o->∀q,q∈jp al i↔∃e∈o.after,Region.binds .any e=Za/\e.on=q
def bD2 (al:DL)(e0:cb)(val:Nat->Value)(σ:Hp)(chk:List (Nat×(Hp->Prop)))(j:Nat):Prop:=
 ∃x p,al[j]?=Y (x,p)/\x.op.still=Za/\
  ((wanted x (ba8 al e0 val j)=Za/\x.op.run (ba8 al e0 val j) σ=Y (val j,σ)/\
   (x.op.isLoad=Za->∃c,(j,c)∈chk/\∀σ',c σ'->x.op.run (ba8 al e0 val j) σ'=Y (val j,σ')))∨
   (wanted x (ba8 al e0 val j)=Zb/\val j=undef))
structure Inv (al:DL)(e0:cb)(val:Nat->Value)(σ:Hp)(chk:List (Nat×(Hp->Prop)))(D L:List Nat):Prop where
 dc:av5 al D
 lc:av5 al L
 sub: ∀i∈L,i∈D
 lt: ∀i∈D,i<al.length
 tells: ∀j∈D,j∉L->bD2 al e0 val σ chk j
theorem bn7 {D:List Nat}{i:Nat}:ct3 al D i=Za↔i∉D/\∀q∈jp al i,q∈D:=by
 unfold ct3;simp only[bB,eD,fB,List.contains_iff_mem];constructor
 .rintro⟨h1,h2⟩;exact⟨λh=>by simp[h]at h1,h2⟩
 .rintro⟨h1,h2⟩;exact⟨by simpa using h1,h2⟩
theorem ap7 {D:List Nat}{i:Nat}(h:li al D=Y i):i<al.length/\i∉D/\(∀q∈jp al i,q∈D)/\aM8 al i=Za:=by
 unfold li at h;have h1:=cB h;have h2:=fD h;simp only[bB]at h1;obtain⟨h3,h4⟩:=bn7.1 h1.1;exact⟨List.mem_range.1 h2,h3,h4,h1.2⟩
theorem bT8 {D:List Nat}(h:li al D=Z){i:Nat}(hi:i<al.length)(h1:i∉D)(h2: ∀q∈jp al i,q∈D):aM8 al i=Zb:=by
 unfold li at h;have:=List.find?_eq_none.1 h i (List.mem_range.2 hi);simp only[bn7.2 ⟨h1,h2⟩,Bool.true_and]at this;simpa using this
theorem ap4 {D:List Nat}{i:Nat}:i∈cy al D↔i<al.length/\i∉D/\(∀q∈jp al i,q∈D)/\aM8 al i=Zb:=by
 unfold cy;simp only[List.mem_filter,List.mem_range,bB,eD,bn7,and_assoc]
theorem cy8 {f:Nat->Prop}: ∀{l:List Nat},cc1 f l->∀m∈l,f m
 |[],_,m,hm=>by cases hm
 |[x],h,m,hm=>by simp at hm;subst hm;exact h
 |x::y::r,h,m,hm=>by
  rcases List.mem_cons.1 hm with rfl|hm
  .exact h.1
  .exact cy8 h.2 m hm
def upd (val:Nat->Value)(i:Nat)(v:Value):Nat->Value:=λk=>if k=i then v else val k
theorem bD2.upd {e0:cb}{val:Nat->Value}{σ:Hp}{chk:List (Nat×(Hp->Prop))}{D:List Nat}{i j:Nat}{v:Value}(hD:av5 al D)(hj:j∈D)(hi:i∉D)(h:bD2 al e0 val σ chk j):bD2 al e0 (upd val i v) σ chk j:=by
 obtain⟨x,p,h1,h2,h3⟩:=h;have hv: ∀k∈D,Ab.upd val i v k=val k:=λk hk=>zF λ(e:k=i)=>hi (e▸hk)
 have hs:=du3 (e0:=e0) hD hj hv;refine⟨x,p,h1,h2, ?_⟩;rw[hs,hv j hj];exact h3
theorem bD2.more {e0:cb}{val:Nat->Value}{σ:Hp}{chk chk':List (Nat×(Hp->Prop))}{j:Nat}(h:bD2 al e0 val σ chk j)(hc: ∀c∈chk,c∈chk'):bD2 al e0 val σ chk' j:=by
 obtain⟨x,p,h1,h2,h3⟩:=h;refine⟨x,p,h1,h2,h3.imp (λ⟨k1,k2,k3⟩=>⟨k1,k2,λhl=> ?_⟩) id⟩;obtain⟨c,k4,k5⟩:=k3 hl;exact⟨c,hc _ k4,k5⟩
theorem cp0 {Q:cb->Hp->Prop}(hok:aL0 al=Za){e0:cb}{σ:Hp}{L:List Nat}: ∀(f:Nat) (val:Nat->Value) (D:List Nat) (chk:List (Nat×(Hp->Prop))) (e:cb),wpD T Q al f D chk e σ->left al.length D<=f->e=ki al e0 val D->
  Inv al e0 val σ chk D L->∃f' val' D' chk',wpD T Q al f' D' chk' (ki al e0 val' D') σ/\left al.length D'<=f'/\Inv al e0 val' σ chk' D' L/\li al D'=Z/\(∀i∈D,val' i=val i)/\∀i∈D,i∈D'
 |0,val,D,chk,e,h,hf,he,hI=>by
  have hall: ∀i,i<al.length->i∈D:=λi hi=>bz9 (by omega) hi
  refine⟨0,val,D,chk,by rw[<-he];exact h,hf,hI, ?_,λ_ _=>rfl,λ_ hi=>hi⟩;cases hn:li al D with
  |none=>rfl
  |some i=>exact absurd (hall i (ap7 hn).1) (ap7 hn).2.1
 |f+1,val,D,chk,e,h,hf,he,hI=>by
  cases hn:li al D with
  |none=>exact⟨f+1,val,D,chk,by rw[<-he];exact h,hf,hI,hn,λ_ _=>rfl,λ_ hi=>hi⟩
  |some i=>
   obtain⟨h1,h2,h3,h4⟩:=ap7 hn;simp only[wpD,hn]at h;split at h
   .rename_i x p hx;have hst:x.op.still=Za:=by simpa[aM8,hx]using h4
    have hlooks: ∀t∈x.looks,e t=ba8 al e0 val i t:=by
     intro t ht;rw[he];exact ct8 hok hI.dc h1 h2 h3 (by simpa[be9,hx]using ht)
    have hdst:sU al i=x.dst:=by simp[sU,hx]
    have hleft:left al.length (i::D)<=f:=by have:=bz8 h1 h2;omega
    have hDc:av5 al (i::D):=by
     intro k hk q hq;rcases List.mem_cons.1 hk with rfl|hk
     .exact aB _ (h3 q hq)
     .exact aB _ (hI.dc k hk q hq)
    have step: ∀(v:Value) (chk':List (Nat×(Hp->Prop))),wpD T Q al f (i::D) chk' (e.putO x.dst v) σ->(∀c∈chk,c∈chk')->bD2 al e0 (upd val i v) σ chk' i->
      ∃f' val' D' chk',wpD T Q al f' D' chk' (ki al e0 val' D') σ/\left al.length D'<=f'/\Inv al e0 val' σ chk' D' L/\li al D'=Z/\(∀i∈D,val' i=val i)/\∀i∈D,i∈D':=by
     intro v chk' hw hc ht;have hval: ∀k∈D,upd val i v k=val k:=λk hk=>zF λ(e:k=i)=>h2 (e▸hk)
     have henv:e.putO x.dst v=ki al e0 (upd val i v) (i::D):=by
      rw[ao4 hok i h2,bd9 hval,hdst,<-he]
      congr 1
      exact(zE rfl).symm
     obtain⟨f',val',D',chk'',g1,g2,g3,g4,g5,g6⟩:=cp0 hok f (upd val i v) (i::D) chk' _ hw hleft henv ⟨hDc,hI.lc,λk hk=>aB _ (hI.sub k hk),λk hk=>(List.mem_cons.1 hk).elim (λe=>e▸h1) (hI.lt k),λj hj hjL=>by
      rcases List.mem_cons.1 hj with rfl|hj
      .exact ht
      .exact((hI.tells j hj hjL).upd hI.dc hj h2).more hc⟩
     exact⟨f',val',D',chk'',g1,g2,g3,g4,λk hk=>(g5 k (aB _ hk)).trans (hval k hk),λk hk=>g6 k (aB _ hk)⟩
    have hseen: ∀v,ba8 al e0 (upd val i v) i=ba8 al e0 val i:=by
     intro v
     funext t
     unfold ba8;cases hf':(bD al.length).find? (λk=>sU al k==Y t&&ae7 al k i)with
     |none=>rfl
     |some k=>
      have:=cB hf';simp only[bB,beq_iff_eq]at this;exact zF λ(e:k=i)=>h2 (e▸hI.dc.bef _ _ this.2 h3)
    have hw0:=aN1 hlooks;have hr0: ∀σ',x.op.run e σ'=x.op.run (ba8 al e0 val i) σ':=λσ'=>bA8 λt ht=>hlooks t (by simp[AOper.looks,ht])
    split at h
    .rename_i hwant;split at h
     .rename_i v σ1 hrun;obtain rfl:=bo1 hst hrun;refine step v _ h (λc hc=>by split<;>simp[hc]) ⟨x,p,hx,hst, .inl ⟨by rw[hseen,<-hw0];exact hwant,by rw[hseen,<-hr0];rw[hrun];congr 2;exact(zE rfl).symm,λhl=> ?_⟩⟩;refine⟨_,by rw[zE hl];exact aD ..,λσ' hσ'=> ?_⟩;rw[hseen,<-hr0,hσ']
      congr 2
      exact(zE rfl).symm
     .exact h.elim
    .rename_i hwant;exact step undef chk h (λc hc=>hc) ⟨x,p,hx,hst, .inr ⟨by rw[hseen,<-hw0];simpa using hwant,zE rfl⟩⟩
   .exact h.elim
theorem bz7 {m:Nat}{σ:Hp}: ∀{chk:List (Nat×(Hp->Prop))},aO6 al m σ chk->∀j c,(j,c)∈chk->ae7 al j m=Zb->c σ
 |[],_,j,c,h,_=>by cases h
 |(i,d)::r,hk,j,c,h,hb=>by
  simp only[aO6]at hk;rcases List.mem_cons.1 h with h|h
  .injection h with h1 h2
   subst h1 h2;rw[zF (by simp[hb])]at hk;exact hk.1
  .split at hk
   .exact bz7 hk j c h hb
   .exact bz7 hk.2 j c h hb
theorem Fits.ready (hF:Fits P N ops al){listed:Array Bool}{L:List Nat}(hs:listed.size=ops.size)(hL: ∀i,i<ops.size->(listed.getD i Zb=Za↔i∈L))(hlt: ∀i∈L,i<ops.size){i:Nat}:
  i∈Region.ready .any ops listed↔i<al.length/\i∉L/\∀q∈jp al i,q∈L:=by
 have hg: ∀k,listed.getD k Zb=Za↔k∈L:=by
  intro k;by_cases hk:k<ops.size
  .exact hL k hk
  .constructor
   .intro h;have:listed.getD k Zb=Zb:=by simp[Array.getElem?_eq_none (show listed.size<=k by omega)]
    rw[this]at h;cases h
   .intro h;exact absurd (hlt k h) hk
 rw[mem_ready];constructor
 .rintro⟨h1,o,h2,h3⟩;have hi:i<ops.size:=(Array.getElem?_eq_some_iff.1 h2).1;refine⟨hF.len▸hi,λh=> ?_,λq hq=> ?_⟩
  .have h4:=(hg i).2 h;rw[dc9 h1]at h4;cases h4
  .obtain⟨e,h4,h5,rfl⟩:=(hF.pred i o h2 q).1 hq;exact(hg _).1 (h3 e h4 h5)
 .rintro⟨h1,h2,h3⟩;have hi:i<ops.size:=hF.len▸h1;refine⟨dC4 (by omega) ?_,ops[i],Array.getElem?_eq_getElem hi,λe he hb=>(hg _).2 (h3 _ ((hF.pred i _ (Array.getElem?_eq_getElem hi) _).2 ⟨e,he,hb,rfl⟩))⟩;cases hh:listed.getD i Zb with
  |true=>exact absurd ((hg i).1 hh) h2
  |false=>rfl
theorem dB3 (hT: ∀f,Sim P f (T f))(hF:Fits P N ops al)(hok:aL0 al=Za){Q:AExit->cb->Hp->Prop}{e0:cb}{μ0:Mu}{w0:World}: ∀(fuel:Nat) (f:Nat) (val:Nat->Value) (D L:List Nat) (chk:List (Nat×(Hp->Prop))) (listed:Array Bool) (σ:Hp) (μ:Mu) (a:Act) (w:World),
  wpD T (Q .normal) al f D chk (ki al e0 val D) σ->left al.length D<=f->left al.length L<=fuel->Inv al e0 val σ chk D L->listed.size=ops.size->(∀i,i<ops.size->(listed.getD i Zb=Za↔i∈L))->
  R B μ σ w->gm μ N (ki al e0 val L) a.tmps->a.defers=[]->μ0.le μ->Below B w0 w->wpAny P .any ops (xA B N μ0 w0 Q) fuel listed a w:=by
 intro fuel;induction fuel with
 |zero=>
  intro f val D L chk listed σ μ a w h hf hfu hI hs hL hR he hd hμ hb;have hall: ∀i,i<al.length->i∈L:=λi hi=>bz9 (by omega) hi
  have hlt: ∀i∈L,i<ops.size:=λi hi=>by rw[hF.len];exact hI.lt i (hI.sub i hi)
  have hnil:Region.ready .any ops listed=[]:=by
   cases hr:Region.ready .any ops listed with
   |nil=>rfl
   |cons i r=>
    have:=(hF.ready hs hL hlt (i:=i)).1 (by rw[hr];exact aD ..);exact absurd (hall i this.1) this.2.1
  refine⟨hnil, ?_⟩;obtain⟨f',val',D',chk',g1,g2,g3,g4,g5,g6⟩:=cp0 (Q:=Q .normal) hok f val D chk _ h hf rfl hI
  have hq:Q .normal (ki al e0 val' D') σ:=by
   have hmv:cy al D'=[]:=by
    cases hm:cy al D' with
    |nil=>rfl
    |cons i r=>
     have:=ap4.1 (show i∈cy al D' by rw[hm];exact aD ..);exact absurd (g6 i (hI.sub i (hall i this.1))) this.2.1
   cases f' with
   |zero=>exact g1
   |succ f'=>simp only[wpD,g4,hmv]at g1;exact g1
  have henv:ki al e0 val' D'=ki al e0 val L:=by
   funext t
   by_cases hx: ∃j,j<al.length/\sU al j=Y t
   .obtain⟨j,hj,hjt⟩:=hx;rw[wv hok (g6 j (hI.sub j (hall j hj))) hjt,wv hok (hall j hj) hjt,g5 j (hI.sub j (hall j hj))]
   .rw[ui (λj _ hjt=>hx ⟨j,aC5 hjt,hjt⟩),ui (λj _ hjt=>hx ⟨j,aC5 hjt,hjt⟩)]
  rw[henv]at hq;exact⟨.normal,_,σ,μ,trivial,hq,hμ,hR,he,hd,hb⟩
 |succ fuel ih=>
  intro f val D L chk listed σ μ a w h hf hfu hI hs hL hR he hd hμ hb;have hlt: ∀i∈L,i<ops.size:=λi hi=>by rw[hF.len];exact hI.lt i (hI.sub i hi)
  obtain⟨f',val',D',chk',g1,g2,g3,g4,g5,g6⟩:=cp0 (Q:=Q .normal) hok f val D chk _ h hf rfl hI;have hvL: ∀i∈L,val' i=val i:=λi hi=>g5 i (hI.sub i hi)
  have he':gm μ N (ki al e0 val' L) a.tmps:=by rw[bd9 hvL];exact he
  have hL': ∀i,i<ops.size->∀(hi:i∉L),(∀k,k<ops.size->((listed.setIfInBounds i Za).getD k Zb=Za↔k∈i::L)):=by
   intro i hi hiL k hk;by_cases e:k=i
   .subst e;simp[hs,hk]
   .rw[getD_set_ne Zb (λe'=>e e'.symm)];rw[hL k hk];simp[e]
  have hLc: ∀i,(∀q∈jp al i,q∈L)->av5 al (i::L):=by
   intro i hp k hk q hq;rcases List.mem_cons.1 hk with rfl|hk
   .exact aB _ (hp q hq)
   .exact aB _ (hI.lc k hk q hq)
  refine⟨λhnil=> ?_,λi hi=> ?_⟩
  .
   have hDL: ∀j∈D',j∈L:=by
    intro j;induction j using Nat.strongRecOn with
    |_ j ihj=>
     intro hj;by_cases hjL:j∈L
     .exact hjL
     .exfalso;have hr:=(hF.ready hs hL hlt (i:=j)).2 ⟨g3.lt j hj,hjL,λq hq=>ihj q (cA4 hok (g3.lt j hj) hq) (g3.dc j hj q hq)⟩;rw[hnil]at hr;cases hr
   have hq:Q .normal (ki al e0 val' D') σ:=by
    have hmv:cy al D'=[]:=by
     cases hm:cy al D' with
     |nil=>rfl
     |cons i r=>
      exfalso;have:=ap4.1 (show i∈cy al D' by rw[hm];exact aD ..);have hr:=(hF.ready hs hL hlt (i:=i)).2 ⟨this.1,λh=>this.2.1 (g3.sub i h),λq hq=>hDL q (this.2.2.1 q hq)⟩;rw[hnil]at hr;cases hr
    cases f' with
    |zero=>exact g1
    |succ f'=>simp only[wpD,g4,hmv]at g1;exact g1
   have henv:ki al e0 val' D'=ki al e0 val' L:=by
    funext t
    by_cases hx: ∃j∈L,sU al j=Y t
    .obtain⟨j,hj,hjt⟩:=hx;rw[wv hok (g3.sub j hj) hjt,wv hok hj hjt]
    .rw[ui (λj hj hjt=>hx ⟨j,hDL j hj,hjt⟩),ui (λj hj hjt=>hx ⟨j,hj,hjt⟩)]
   rw[henv]at hq;exact⟨.normal,_,σ,μ,trivial,hq,hμ,hR,he',hd,hb⟩
  .
   obtain⟨k1,k2,k3⟩:=(hF.ready hs hL hlt).1 hi;have hio:i<ops.size:=hF.len▸k1;have hoi:ops[i]?=Y ops[i]:=Array.getElem?_eq_getElem hio;obtain⟨x,hx,htr⟩:=hF.op i _ hoi;have hfu':left al.length (i::L)<=fuel:=by have:=bz8 k1 k2;omega
   have hs':(listed.setIfInBounds i Za).size=ops.size:=by simpa using hs
   have hdst:sU al i=x.dst:=by simp[sU,hx]
   unfold bB8 at htr;split at htr
   case h_2=>cases htr
   rename_i op g t1 t2;split at htr
   case isFalse=>cases htr
   rename_i t3;injection htr with htr
   subst htr
   have hlooks: ∀t∈(⟨ops[i].dst,op,g⟩:AOper).looks,ki al e0 val' L t=ba8 al e0 val' i t:=by
    intro t ht;exact ct8 hok g3.lc k1 k2 k3 (by simpa[be9,hx]using ht)
   have hwant:=ci7 (op:=op) t2 he';rw[aN1 hlooks]at hwant;unfold wpOp;rw[hoi];simp only;rw[hwant];by_cases hiD:i∈D'
   .
    obtain⟨x',p,y1,y2,y3⟩:=g3.tells i hiD k2;rw[hx]at y1;injection y1 with y1
    injection y1 with y1 _
    subst y1
    have hInv': ∀(μ':Mu) (w':World),Inv al e0 val' σ chk' D' (i::L):=λμ' w'=>
     ⟨g3.dc,hLc i k3,λk hk=>(List.mem_cons.1 hk).elim (λe=>e▸hiD) (g3.sub k),g3.lt,λj hj hjL=>g3.tells j hj λh=>hjL (aB _ h)⟩
    rcases y3 with⟨y4,y5,_⟩|⟨y4,y5⟩
    .rw[y4];rw[zE rfl];left
     have hrun:br T op (ki al e0 val' L) σ λv σ'=>v=val' i/\σ'=σ:=by
      have:op.run (ki al e0 val' L) σ=Y (val' i,σ):=by
       rw[bA8 (e':=ba8 al e0 val' i) λt ht=>hlooks t (by simp[AOper.looks,ht])];exact y5
      unfold br;cases op<;>simp[AOp.still]at y2<;>simp only[this]<;>exact⟨trivial,trivial⟩
     refine bV6 hT t1 hrun he' hR λv σ' v' μ' w' hk hμ' hR' hv hbel=> ?_
     obtain⟨rfl,rfl⟩:=hk;refine ih f' val' D' (i::L) chk' _ σ' μ' _ w' g1 g2 hfu' (hInv' μ' w') hs' (hL' i hio k2) hR' ?_ (by rw[zy];exact hd) (Mu.le_trans hμ hμ') (hb.trans hbel);rw[ao4 hok i k2,hdst];exact(he'.mono hμ').putO t3 hv
    .rw[y4];simp only[Bool.false_eq_true,if_false];refine ih f' val' D' (i::L) chk' _ σ μ _ w g1 g2 hfu' (hInv' μ w) hs' (hL' i hio k2) hR ?_ (by rw[zy];exact hd) hμ hb;rw[ao4 hok i k2,hdst,y5];exact he'.putO t3 (VR.undef μ)
   .
    have hpD: ∀q∈jp al i,q∈D':=λq hq=>g3.sub q (k3 q hq)
    have hst:=bT8 g4 k1 hiD hpD;have hmem:i∈cy al D':=ap4.2 ⟨k1,hiD,hpD,hst⟩
    have hlooksD: ∀t∈(⟨ops[i].dst,op,g⟩:AOper).looks,ki al e0 val' D' t=ba8 al e0 val' i t:=by
     intro t ht;exact ct8 hok g3.dc k1 hiD hpD (by simpa[be9,hx]using ht)
    have hsame: ∀t∈(⟨ops[i].dst,op,g⟩:AOper).looks,ki al e0 val' D' t=ki al e0 val' L t:=λt ht=>(hlooksD t ht).trans (hlooks t ht).symm
    obtain⟨f'',rfl⟩: ∃f'',f'=f''+1:=⟨f'-1,by have:=do0 k1 hiD;omega⟩
    have hleft:left al.length (i::D')<=f'':=by have:=bz8 k1 hiD;omega
    simp only[wpD,g4]at g1
    have hcomp:(if wanted ⟨ops[i].dst,op,g⟩ (ki al e0 val' D')then br T op (ki al e0 val' D') σ λv σ'=>aO6 al i σ' chk'/\wpD T (Q .normal) al f'' (i::D') chk' ((ki al e0 val' D').putO ops[i].dst v) σ'
      else wpD T (Q .normal) al f'' (i::D') chk' ((ki al e0 val' D').putO ops[i].dst undef) σ):=by
     cases hm:cy al D' with
     |nil=>rw[hm]at hmem;cases hmem
     |cons m r=>
      rw[hm]at g1 hmem;simp only at g1;have:=cy8 g1 i hmem;simp only[hx]at this;exact this
    rw[aN1 hlooksD]at hcomp
    have hDc:av5 al (i::D'):=by
     intro k hk q hq;rcases List.mem_cons.1 hk with rfl|hk
     .exact aB _ (hpD q hq)
     .exact aB _ (g3.dc k hk q hq)
    have hlag: ∀j∈i::D',j∉i::L->j∈D'/\j∉L:=λj hj hjL=>
     ⟨(List.mem_cons.1 hj).elim (λe=>absurd (e▸aD ..) hjL) id,λh=>hjL (aB _ h)⟩
    have hval: ∀v,∀k∈D',upd val' i v k=val' k:=λv k hk=>zF λ(e:k=i)=>hiD (e▸hk)
    have henvD: ∀v,(ki al e0 val' D').putO ops[i].dst v=ki al e0 (upd val' i v) (i::D'):=by
     intro v;rw[ao4 hok i hiD,bd9 (hval v),hdst]
     congr 1
     exact(zE rfl).symm
    have henvL: ∀v,(ki al e0 val' L).putO ops[i].dst v=ki al e0 (upd val' i v) (i::L):=by
     intro v;rw[ao4 hok i k2,bd9 (λk hk=>hval v k (g3.sub k hk)),hdst]
     congr 1
     exact(zE rfl).symm
    split at hcomp
    .rename_i hw1;rw[hw1,zE rfl];left;refine bV6 hT t1 (cF4 (λt ht=>hsame t (by simp[AOper.looks,ht])) hcomp) he' hR λv σ' v' μ' w' hk hμ' hR' hv hbel=> ?_
     obtain⟨hk1,hk2⟩:=hk;rw[henvD v]at hk2;refine ih f'' (upd val' i v) (i::D') (i::L) chk' _ σ' μ' _ w' hk2 hleft hfu' ⟨hDc,hLc i k3,λk hk=>(List.mem_cons.1 hk).elim (λe=>e▸aD ..) λh=>aB _ (g3.sub k h),λk hk=>(List.mem_cons.1 hk).elim (λe=>e▸k1) (g3.lt k),λj hj hjL=> ?_⟩ hs' (hL' i hio k2) hR' ?_ (by rw[zy];exact hd) (Mu.le_trans hμ hμ') (hb.trans hbel)
     .obtain⟨hjD,hjL'⟩:=hlag j hj hjL;have ht:=(g3.tells j hjD hjL').upd (i:=i) (v:=v) g3.dc hjD hiD;obtain⟨x',p,z1,z2,z3⟩:=ht;refine⟨x',p,z1,z2,z3.imp (λ⟨z4,z5,z6⟩=>⟨z4, ?_,z6⟩) id⟩;cases hl:x'.op.isLoad with
      |false=>exact df6 z2 hl z5 σ'
      |true=>
       obtain⟨c,z7,z8⟩:=z6 hl;refine z8 σ' (bz7 hk1 j c z7 ?_);cases hbf:ae7 al j i with
       |false=>rfl
       |true=>exact absurd (g3.lc.bef _ _ hbf k3) hjL'
     .rw[<-henvL v];exact(he'.mono hμ').putO t3 hv
    .rename_i hw1;rw[zF hw1];rw[henvD undef]at hcomp;refine ih f'' (upd val' i undef) (i::D') (i::L) chk' _ σ μ _ w hcomp hleft hfu' ⟨hDc,hLc i k3,λk hk=>(List.mem_cons.1 hk).elim (λe=>e▸aD ..) λh=>aB _ (g3.sub k h),λk hk=>(List.mem_cons.1 hk).elim (λe=>e▸k1) (g3.lt k),λj hj hjL=> ?_⟩ hs' (hL' i hio k2) hR ?_ (by rw[zy];exact hd) hμ hb
     .obtain⟨hjD,hjL'⟩:=hlag j hj hjL;exact(g3.tells j hjD hjL').upd g3.dc hjD hiD
     .rw[<-henvL undef];exact he'.putO t3 (VR.undef μ)
end
end
section
open Go.RowKit
def xe (T:gr):Prop:= ∀f args σ (K K':Value->Hp->Prop),(∀r σ',K r σ'->K' r σ')->T f args σ K->T f args σ K'
theorem tY {T:gr}(hT:xe T){op:AOp}{e:cb}{σ:Hp}{k k':Value->Hp->Prop}(hk: ∀v σ',k v σ'->k' v σ')(h:br T op e σ k):br T op e σ k':=by
 unfold br at*;cases op<;>simp only at h⊢
 case call f xs=>exact hT _ _ _ _ _ hk h
 case callv f xs=>
  split at h
  .exact hT _ _ _ _ _ hk h
  .exact h.elim
 all_goals
  split at h
  .exact hk _ _ h
  .exact h.elim
section
variable {T:gr}
theorem aN2 (hT:xe T){Q Q':cb->Hp->Prop}(hq: ∀e σ,Q e σ->Q' e σ): ∀(l:List AOper) (e:cb) (σ:Hp),aq2 T Q l e σ->aq2 T Q' l e σ
 |[],e,σ,h=>hq e σ h
 |o::l,e,σ,h=>by
  simp only[aq2]at h⊢;split at h
  .rename_i hw;rw[zE hw];exact tY hT (λv σ' hk=>aN2 hT hq l _ σ' hk) h
  .rename_i hw;rw[zF hw];exact aN2 hT hq l _ σ h
theorem ce1 {f g:Nat->Prop}(h: ∀m,f m->g m): ∀{l:List Nat},cc1 f l->cc1 g l
 |[],_=>trivial
 |[_],hf=>h _ hf
 |_::_::_,hf=>⟨h _ hf.1,ce1 h hf.2⟩
theorem bc3 (hT:xe T){Q Q':cb->Hp->Prop}(hq: ∀e σ,Q e σ->Q' e σ){ops:List (AOper×List Nat)}: ∀(f:Nat) (done:List Nat) (chk:List (Nat×(Hp->Prop))) (e:cb) (σ:Hp),wpD T Q ops f done chk e σ->wpD T Q' ops f done chk e σ
 |0,done,chk,e,σ,h=>hq e σ h
 |f+1,done,chk,e,σ,h=>by
  simp only[wpD]at h⊢;split at h
  .split at h
   .split at h
    .rename_i hw;rw[zE hw];split at h
     .exact bc3 hT hq f _ _ _ _ h
     .exact h.elim
    .rename_i hw;rw[zF hw];exact bc3 hT hq f _ _ _ _ h
   .exact h.elim
  .split at h
   .exact hq e σ h
   .refine ce1 (λm hm=> ?_) h;split at hm
    .split at hm
     .rename_i hw;rw[zE hw];exact tY hT (λv σ' hk=>⟨hk.1,bc3 hT hq f _ _ _ _ hk.2⟩) hm
     .rename_i hw;rw[zF hw];exact bc3 hT hq f _ _ _ _ hm
    .exact hm.elim
theorem bc4 (hT:xe T){Q Q':cb->Hp->Prop}(hq: ∀e σ,Q e σ->Q' e σ): ∀(l:List SItem) (chk:List (Nat×(Hp->Prop))) (e:cb) (σ:Hp),wpI T Q l chk e σ->wpI T Q' l chk e σ
 |[],_,e,σ,h=>hq e σ h
 |it::l,chk,e,σ,h=>by
  simp only[wpI]at h⊢;split at h
  .rename_i hw;rw[zE hw];split at h
   .rename_i hm;rw[zE hm];exact tY hT (λv σ' hk=>⟨hk.1,bc4 hT hq l _ _ σ' hk.2⟩) h
   .rename_i hm;rw[zF hm];split at h
    .exact bc4 hT hq l _ _ σ h
    .exact h.elim
  .rename_i hw;rw[zF hw];exact bc4 hT hq l _ _ σ h
theorem bc5 {f:(AExit->cb->Hp->Prop)->cb->Hp->Prop}(hf: ∀(Q Q':AExit->cb->Hp->Prop),(∀x e σ,Q x e σ->Q' x e σ)->∀e σ,f Q e σ->f Q' e σ){Q Q':AExit->cb->Hp->Prop}(hq: ∀x e σ,Q x e σ->Q' x e σ):
  ∀(n:Nat) (e:cb) (σ:Hp),om f Q n e σ->om f Q' n e σ
 |0,_,_,h=>h.elim
 |n+1,e,σ,h=>by
  simp only[om]at h⊢;refine hf _ _ (λx e' σ' hx=> ?_) e σ h;cases x with
  |normal=>exact bc5 hf hq n e' σ' hx
  |exit id=>exact hq _ _ _ hx
  |ret=>exact hq _ _ _ hx
theorem gu (hT:xe T): ∀(c:AC) (Q Q':AExit->cb->Hp->Prop),(∀x e σ,Q x e σ->Q' x e σ)->∀(e:cb) (σ:Hp),wpA T c Q e σ->wpA T c Q' e σ:=by
 intro c;induction c with
 |skip=>intro Q Q' hq e σ h;exact hq _ _ _ h
 |region ops=>intro Q Q' hq e σ h;exact aN2 hT (hq .normal) ops e σ h
 |draw ops=>intro Q Q' hq e σ h;exact bc3 hT (hq .normal) _ _ _ e σ h
 |sched its=>intro Q Q' hq e σ h;exact bc4 hT (hq .normal) its [] e σ h
 |seq a b iha ihb=>
  intro Q Q' hq e σ h;refine iha _ _ (λx e' σ' hx=> ?_) e σ h;cases x with
  |normal=>exact ihb Q Q' hq e' σ' hx
  |exit id=>exact hq _ _ _ hx
  |ret=>exact hq _ _ _ hx
 |cond c a b iha ihb=>
  intro Q Q' hq e σ h;simp only[wpA]at h⊢;split at h
  .exact iha Q Q' hq e σ h
  .exact ihb Q Q' hq e σ h
  .exact h.elim
 |block id b ih=>
  intro Q Q' hq e σ h;refine ih _ _ (λx e' σ' hx=> ?_) e σ h;cases x with
  |normal=>exact hq _ _ _ hx
  |exit i=>
   simp only at hx⊢;split at hx
   .rename_i hi;rw[zE hi];exact hq _ _ _ hx
   .rename_i hi;rw[zF hi];exact hq _ _ _ hx
  |ret=>exact hq _ _ _ hx
 |loop b ih=>
  intro Q Q' hq e σ h;obtain⟨n,hn⟩:=h;exact⟨n,bc5 (f:=wpA T b) ih hq n e σ hn⟩
 |exit id=>intro Q Q' hq e σ h;exact hq _ _ _ h
 |ret=>intro Q Q' hq e σ h;exact hq _ _ _ h
def AC.outs :AC->Nat->Bool
 | .seq a b,i| .cond _ a b,i=>a.outs i||b.outs i
 | .block id b,i=>b.outs i&& !(i==id)
 | .loop b,i=>b.outs i
 | .exit j,i=>i==j
 |_,_=>Zb
def cJ9 (c:AC)(Q:AExit->cb->Hp->Prop):AExit->cb->Hp->Prop:=λx e σ=>(∀i,x= .exit i->c.outs i=Za)/\Q x e σ
theorem ba5 {c:AC}{Q:AExit->cb->Hp->Prop}:cJ9 c Q .normal=Q .normal:=by
 funext e σ
 exact propext ⟨λh=>h.2,λh=>⟨λi hi=>(by cases hi),h⟩⟩
theorem bF1 {f:(AExit->cb->Hp->Prop)->cb->Hp->Prop}{b:AC}(hf: ∀(Q Q':AExit->cb->Hp->Prop),(∀x e σ,Q x e σ->Q' x e σ)->∀e σ,f Q e σ->f Q' e σ)
  (ho: ∀Q e σ,f Q e σ->f (cJ9 b Q) e σ) {Q:AExit->cb->Hp->Prop}: ∀(n:Nat) (e:cb) (σ:Hp),om f Q n e σ->om f (cJ9 b Q) n e σ
 |0,_,_,h=>h.elim
 |n+1,e,σ,h=>by
  simp only[om]at h⊢;refine hf _ _ (λx e' σ' hx=> ?_) e σ (ho _ e σ h);obtain⟨h1,h2⟩:=hx;cases x with
  |normal=>exact bF1 hf ho n e' σ' h2
  |exit id=>exact⟨h1,h2⟩
  |ret=>exact⟨h1,h2⟩
theorem cI2 (hT:xe T): ∀(c:AC) (Q:AExit->cb->Hp->Prop) (e:cb) (σ:Hp),wpA T c Q e σ->wpA T c (cJ9 c Q) e σ:=by
 intro c;induction c with
 |skip=>intro Q e σ h;exact⟨λi hi=>(by cases hi),h⟩
 |region ops=>intro Q e σ h;simp only[wpA]at h⊢;rw[ba5];exact h
 |draw ops=>intro Q e σ h;simp only[wpA]at h⊢;rw[ba5];exact h
 |sched its=>intro Q e σ h;simp only[wpA]at h⊢;rw[ba5];exact h
 |seq a b iha ihb=>
  intro Q e σ h;simp only[wpA]at h⊢;refine gu hT a _ _ (λx e' σ' hx=> ?_) e σ (iha _ e σ h);obtain⟨h1,h2⟩:=hx;cases x with
  |normal=>exact gu hT b _ _ (λx e σ hx=>⟨λi hi=>by rw[AC.outs,hx.1 i hi,Bool.or_true],hx.2⟩) e' σ' (ihb Q e' σ' h2)
  |exit id=>exact⟨λi hi=>by rw[AC.outs,h1 i hi,Bool.true_or],h2⟩
  |ret=>exact⟨λi hi=>(by cases hi),h2⟩
 |cond c a b iha ihb=>
  intro Q e σ h;simp only[wpA]at h⊢;split at h
  .exact gu hT a _ _ (λx e σ hx=>⟨λi hi=>by rw[AC.outs,hx.1 i hi,Bool.true_or],hx.2⟩) e σ (iha Q e σ h)
  .exact gu hT b _ _ (λx e σ hx=>⟨λi hi=>by rw[AC.outs,hx.1 i hi,Bool.or_true],hx.2⟩) e σ (ihb Q e σ h)
  .exact h.elim
 |block id b ih=>
  intro Q e σ h;simp only[wpA]at h⊢;refine gu hT b _ _ (λx e' σ' hx=> ?_) e σ (ih _ e σ h);obtain⟨h1,h2⟩:=hx;cases x with
  |normal=>exact⟨λi hi=>(by cases hi),h2⟩
  |exit i=>
   simp only at h2⊢;split at h2
   .rename_i hi;rw[zE hi];exact⟨λi hi=>(by cases hi),h2⟩
   .rename_i hi;rw[zF hi];refine⟨λj hj=> ?_,h2⟩;injection hj with hj
    subst hj;rw[AC.outs,h1 i rfl];simp[hi]
  |ret=>exact⟨λi hi=>(by cases hi),h2⟩
 |loop b ih=>
  intro Q e σ h;obtain⟨n,hn⟩:=h;exact⟨n,bF1 (f:=wpA T b) (gu hT b) ih n e σ hn⟩
 |exit id=>
  intro Q e σ h;refine⟨λi hi=> ?_,h⟩;injection hi with hi
  subst hi;simp[AC.outs]
 |ret=>intro Q e σ h;exact⟨λi hi=>(by cases hi),h⟩
end
end
section
open Bool renaming and_eq_true -> bB, or_eq_true -> bD, false_eq_true -> cB
open List renaming mem_cons_of_mem -> aB, mem_cons_self -> aD
open Go.RowKit
def bB7 (P:Program)(N:Nat)(ops:Array Oper):List Oper->Option DL
 |[]=>Y []
 |o::r=>match bB8 P N ops o,bB7 P N ops r with
  |some x,Y l=>Y ((x,(o.after.toList.filter (Region.binds .any ·)).map (·.on))::l)
  |_,_=>Z
def AC.outsL :AC->List Nat
 | .seq a b| .cond _ a b=>a.outsL++b.outsL
 | .block id b=>b.outsL.filter λi=> !(i==id)
 | .loop b=>b.outsL
 | .exit j=>[j]
 |_=>[]
theorem dr5 : ∀(c:AC) (i:Nat),c.outs i=Za->i∈c.outsL:=by
 intro c;induction c with
 |seq a b iha ihb=>
  intro i h;simp only[AC.outs,bD]at h;exact List.mem_append.2 (h.elim (λh=> .inl (iha i h)) λh=> .inr (ihb i h))
 |cond c a b iha ihb=>
  intro i h;simp only[AC.outs,bD]at h;exact List.mem_append.2 (h.elim (λh=> .inl (iha i h)) λh=> .inr (ihb i h))
 |block id b ih=>
  intro i h;simp only[AC.outs,bB]at h;exact List.mem_filter.2 ⟨ih i h.1,h.2⟩
 |loop b ih=>intro i h;exact ih i h
 |exit j=>intro i h;simp[AC.outs]at h;simp[AC.outsL,h]
 |_=>intro i h;simp[AC.outs]at h
def AC.noJump (c:AC):Bool:=c.outsL.all λi=>Zc (i<aO5)
theorem ch4 {c:AC}(h:c.noJump=Za){i:Nat}(hi:c.outs i=Za):i<aO5:=by
 have:=List.all_eq_true.1 h i (dr5 c i hi);exact of_decide_eq_true this
def xy :Code->List Nat
 | .seq a b=>xy a++xy b
 | .label l=>[l]
 |_=>[]
theorem aZ6 : ∀(c:Code) (l:Nat),l∉xy c->findLabel c l=Z:=by
 intro c;induction c with
 |seq a b iha ihb=>
  intro l h;simp only[xy,List.mem_append,not_or]at h;simp only[findLabel,iha l h.1,ihb l h.2]
 |label l'=>
  intro l h;simp only[xy,List.mem_singleton]at h;simp only[findLabel];rw[zF (by simpa using λe=>h e.symm)]
 |_=>intro l h;rfl
def bs7 (l:Nat):Code->Bool
 | .goto l'=>l'==l
 | .seq a b| .cond _ a b=>bs7 l a||bs7 l b
 | .block _ b| .loop b| .scope b=>bs7 l b
 |_=>Zb
def be7 :Code->Option Nat
 | .label l=>Y l
 |_=>Z
theorem cr8 {c:Code}{l:Nat}(h:be7 c=Y l):c= .label l:=by
 cases c<;>simp[be7]at h;rw[h]
def kg :Code->Option Nat
 | .seq a b=>match be7 a with
  |some l=>if bs7 l b then Y l else kg b
  |none=>kg b
 |_=>Z
def az1 (l:Nat):Nat:=aO5+2*l
def aj1 (l:Nat):Nat:=aO5+2*l+1
def dD8 (l:Nat)(b:AC):AC:= .block (aj1 l) (.loop (.block (az1 l) (.seq b (.exit (aj1 l)))))
def bt0 (a b:Code):Bool:=match kg b with
 |some l=> !(xy a).contains l
 |none=>Za
def vQ (x:Option AC):Option AC×Option AC:=(x,x)
def dT0 :Option AC->Option AC->Option AC
 |some a,Y b=>Y (.seq a b)
 |_,_=>Z
def cQ5 (a b:Code)(xa xb sb:Option AC):Option AC:=match be7 a with
 |some l=>if bs7 l b then xb.map (dD8 l)else if bt0 a b then sb.map (.seq .skip)else Z
 |none=>match xa,sb with
  |some x,Y y=>if bt0 a b&&((kg b).isNone||x.noJump)then Y (.seq x y)else Z
  |_,_=>Z
def tr2 (P:Program)(N:Nat):Code->Option AC×Option AC
 | .skip=>vQ (Y .skip)
 | .label _=>vQ (Y .skip)
 | .region _ ops draw=>vQ (if draw then match bB7 P N ops ops.toList with
   |some l=>if aL0 l&&P.follows .mixedOrders then(match bf0 l l.length [] []with
    |some its=>Y (.sched its)
    |none=>Y (.draw l))else Z
   |none=>Z
  else(bv8 P N ops ops.toList).map .region)
 | .seq a b=>(dT0 (tr2 P N a).1 (tr2 P N b).1,cQ5 a b (tr2 P N a).1 (tr2 P N b).1 (tr2 P N b).2)
 | .cond c a b=>vQ (match opd c,(tr2 P N a).1,(tr2 P N b).1 with
  |some c,Y a,Y b=>Y (.cond c a b)
  |_,_,_=>Z)
 | .block id b=>vQ (if id<aO5 then((tr2 P N b).1).map (.block id)else Z)
 | .loop b=>vQ (((tr2 P N b).1).map .loop)
 | .scope b=>vQ (match(tr2 P N b).2 with
  |some ac=>if ac.noJump then Y ac else Z
  |none=>Z)
 | .exit id=>vQ (if id<aO5 then Y (.exit id)else Z)
 | .goto l=>vQ (Y (.exit (az1 l)))
 | .ret=>vQ (Y .ret)
 |_=>vQ Z
def sy (P:Program)(N:Nat)(c:Code):Option AC:=(tr2 P N c).1
def cu9 (P:Program)(N:Nat)(c:Code):Option AC:=(tr2 P N c).2
section
variable {P:Program} {T:gr} {ops:Array Oper} {B:Base P} {N:Nat}
theorem bE9 : ∀{l:List Oper} {al:DL},bB7 P N ops l=Y al->l.length=al.length/\∀(i:Nat) o,l[i]?=Y o->∃x,al[i]?=Y (x,(o.after.toList.filter (Region.binds .any ·)).map (·.on))/\bB8 P N ops o=Y x
 |[],al,h=>by
  simp[bB7]at h;subst h;exact⟨rfl,λi o h=>by simp at h⟩
 |o::l,al,h=>by
  simp only[bB7]at h;split at h
  .rename_i x r h1 h2;injection h with h
   subst h;obtain⟨h3,h4⟩:=bE9 h2;refine⟨by simp[h3],λi o' ho=> ?_⟩;cases i with
   |zero=>simp at ho;subst ho;exact⟨x,rfl,h1⟩
   |succ i=>simp at ho;simpa using h4 i o' ho
  .cases h
theorem dC1 {al:DL}(h:bB7 P N ops ops.toList=Y al):Fits P N ops al:=by
 obtain⟨h1,h2⟩:=bE9 h;refine⟨by simpa using h1,λi o ho=> ?_,λi o ho q=> ?_⟩
 .obtain⟨x,h3,h4⟩:=h2 i o (by simpa using ho);refine⟨x, ?_,h4⟩;have:jp al i=(o.after.toList.filter (Region.binds .any ·)).map (·.on):=by simp[jp,h3]
  rw[this];exact h3
 .obtain⟨x,h3,h4⟩:=h2 i o (by simpa using ho);have:jp al i=(o.after.toList.filter (Region.binds .any ·)).map (·.on):=by simp[jp,h3]
  rw[this];simp[and_assoc]
theorem cv3 {b:Code}{f:(AExit->cb->Hp->Prop)->cb->Hp->Prop}
  (hb: ∀(Q:AExit->cb->Hp->Prop) (e:cb) (σ:Hp) (μ:Mu) (a:Act) (w:World),f Q e σ->R B μ σ w->gm μ N e a.tmps->a.defers=[]->b.wp P (xA B N μ w Q) a w)
  {Q:AExit->cb->Hp->Prop} {μ0:Mu} {w0:World} {n:Nat} {e:cb} {σ:Hp} {μ:Mu} {a:Act} {w:World} (h:om f Q n e σ) (hR:R B μ σ w) (he:gm μ N e a.tmps) (hd:a.defers=[]) (hμ:μ0.le μ) (hbel:Below B w0 w):
  (Code.loop b).wp P (xA B N μ0 w0 Q) a w:=by
 intro bf k cs
 have key: ∀n e σ μ a w,om f Q n e σ->R B μ σ w->gm μ N e a.tmps->a.defers=[]->μ0.le μ->Below B w0 w->
   ∃x a' w',xA B N μ0 w0 Q x a' w'/\Arrives P (lone (bf.at a (.code b:: .inLoop b::k)) cs w) bf k cs x a' w':=by
  intro n;induction n with
  |zero=>intro e σ μ a w h;exact h.elim
  |succ n ih=>
   intro e σ μ a w h hR he hd hμ hbel;simp only[om]at h;obtain⟨x,a₁,w₁,hq,harr⟩:=hb _ e σ μ a w h hR he hd bf (.inLoop b::k) cs;obtain⟨ax,e1,σ1,μ1,hx,hq,h1,h2,h3,h4,h5⟩:=hq;cases ax with
   |normal=>
    cases x<;>simp[ai9]at hx;obtain⟨x₂,a₂,w₂,hq₂,harr₂⟩:=ih e1 σ1 μ1 a₁ w₁ hq h2 h3 h4 (Mu.le_trans hμ h1) (hbel.trans h5);exact⟨x₂,a₂,w₂,hq₂, .of_steps (Steps.trans harr (.one step_inLoop)) harr₂⟩
   |exit id=>
    cases x with
    |exit j=>
     obtain⟨rfl,hj⟩:=hx;exact⟨.exit id,a₁,w₁,⟨.exit id,e1,σ1,μ1,⟨rfl,hj⟩,hq,Mu.le_trans hμ h1,h2,h3,h4,hbel.trans h5⟩, .pass (x:= .inLoop b) rfl (λ_ _=> .inl (by simp)) harr⟩
    |goto l=>exact⟨.goto l,a₁,w₁,⟨.exit id,e1,σ1,μ1,hx,hq,Mu.le_trans hμ h1,h2,h3,h4,hbel.trans h5⟩,λk' hk=>harr k' (by simp[gotoIn,hk])⟩
    |_=>exact hx.elim
   |ret=>
    cases x<;>simp[ai9]at hx;exact⟨.ret,a₁,w₁,⟨.ret,e1,σ1,μ1,trivial,hq,Mu.le_trans hμ h1,h2,h3,h4,hbel.trans h5⟩, .pass (x:= .inLoop b) rfl (λ_ _=> .inl (by simp)) harr⟩
 obtain⟨x,a',w',hq,harr⟩:=key n e σ μ a w h hR he hd hμ hbel;exact⟨x,a',w',hq, .of_steps (.one step_loop) harr⟩
theorem ba6 {is:List Nat}{σ:Hp}: ∀{chk:List (Nat×(Hp->Prop))},aj2 is σ chk->∀i c,(i,c)∈chk->i∈is->c σ
 |[],_,i,c,h,_=>by cases h
 |(j,d)::r,hr,i,c,h,hi=>by
  simp only[aj2]at hr;rcases List.mem_cons.1 h with h|h
  .injection h with h1 h2
   subst h1 h2;rw[zE (by simpa using hi)]at hr;exact hr.1
  .split at hr
   .exact ba6 hr.2 i c h hi
   .exact ba6 hr i c h hi
theorem ap0 {al:DL}{m:Nat}{σ:Hp}: ∀{chk:List (Nat×(Hp->Prop))},(∀i c,(i,c)∈chk->ae7 al i m=Zb->c σ)->aO6 al m σ chk
 |[],_=>trivial
 |(j,d)::r,h=>by
  simp only[aO6];split
  .exact ap0 λi c hc=>h i c (aB _ hc)
  .rename_i hb;exact⟨h j d (aD ..) (by simpa using hb),ap0 λi c hc=>h i c (aB _ hc)⟩
theorem cF5 {op:AOp}{e:cb}{σ:Hp}{k k':Value->Hp->Prop}(hT:xe T)(hk: ∀v σ',k v σ'->k' v σ')(h:br T op e σ k):br T op e σ k':=by
 unfold br at*;cases op<;>simp only at h⊢
 case call f xs=>exact hT _ _ _ _ _ hk h
 case callv f xs=>
  split at h
  .exact hT _ _ _ _ _ hk h
  .exact h.elim
 all_goals
  split at h
  .exact hk _ _ h
  .exact h.elim
theorem ba0 (hT:xe T){Q:cb->Hp->Prop}{al:DL}: ∀(f:Nat) (done loads:List Nat) (its:List SItem) (chk chk':List (Nat×(Hp->Prop))) (e:cb) (σ:Hp),bf0 al f done loads=Y its->wpI T Q its chk' e σ->
  (∀i c,(i,c)∈chk->i∈loads)->(∀i c,(i,c)∈chk->dn4 al i=Za->(i,c)∈chk')->wpD T Q al f done chk e σ
 |0,done,loads,its,chk,chk',e,σ,h,hw,_,_=>by
  simp[bf0]at h;subst h;exact hw
 |f+1,done,loads,its,chk,chk',e,σ,h,hw,h1,h2=>by
  simp only[bf0]at h;simp only[wpD];split at h
  .rename_i i hn;split at h
   .rename_i o p ho;obtain⟨r,hr,h⟩:=Option.map_eq_some_iff.1 h;subst h;simp only[wpI]at hw;split at hw
    .rename_i hwant;rw[zE hwant];simp only[cB,if_false]at hw;split at hw
     .rename_i v σ1 hrun;refine ba0 hT f _ _ _ _ _ _ _ hr hw (λj c hc=> ?_) (λj c hc hk=> ?_)
      .by_cases hl:o.op.isLoad=Za
       .rw[zE hl]at hc⊢;rcases List.mem_cons.1 hc with hc|hc
        .injection hc with hc _
         subst hc;exact aD ..
        .exact aB _ (h1 j c hc)
       .rw[zF hl]at hc⊢;exact h1 j c hc
      .by_cases hl:o.op.isLoad=Za
       .rw[zE hl]at hc;rcases List.mem_cons.1 hc with hc|hc
        .have hj:j=i:=by injection hc
         subst hj;rw[zE (by simp[hl,hk]),hc];exact aD ..
        .split
         .exact aB _ (h2 j c hc hk)
         .exact h2 j c hc hk
       .rw[zF hl]at hc;split
        .exact aB _ (h2 j c hc hk)
        .exact h2 j c hc hk
     .exact hw.elim
    .rename_i hwant;rw[zF hwant];refine ba0 hT f _ _ _ _ _ _ _ hr hw (λj c hc=> ?_) h2;split
     .exact aB _ (h1 j c hc)
     .exact h1 j c hc
   .cases h
  .rename_i hn;split at h
   .rename_i hm;rw[hm];injection h with h
    subst h;exact hw
   .rename_i m hm;rw[hm];simp only[cc1];split at h
    .rename_i o p ho;obtain⟨r,hr,h⟩:=Option.map_eq_some_iff.1 h;subst h
     have hmv:cO4 al m=Za:=by
      have:=(ap4.1 (show m∈cy al done by rw[hm];exact aD ..)).2.2.2;simpa[aM8,cO4,ho]using this
     have hml:m<al.length:=(ap4.1 (show m∈cy al done by rw[hm];exact aD ..)).1;simp only[wpI]at hw⊢;split at hw
     .rename_i hwant;rw[zE hwant];simp only[if_true]at hw;refine cF5 hT (λv σ' hk=> ?_) hw;refine⟨ap0 λi c hc hb=> ?_,ba0 hT f _ _ _ _ _ _ _ hr hk.2 h1 h2⟩;have hkp:dn4 al i=Za:=List.any_eq_true.2 ⟨m,List.mem_range.2 hml,by simp[hmv,hb]⟩;exact ba6 hk.1 i c (h2 i c hc hkp) (by simp[h1 i c hc,hb])
     .rename_i hwant;rw[zF hwant];exact ba0 hT f _ _ _ _ _ _ _ hr hw h1 h2
    .cases h
   .cases h
def bE4 (l:Nat)(J:Act->World->Prop)(Q:Exit->Act->World->Prop):Exit->Act->World->Prop
 | .goto l',a,w=>(l'=l/\J a w)∨(l'≠l/\Q (.goto l') a w)
 |x,a,w=>Q x a w
theorem cF8 {c rest:Code}{Q:Exit->Act->World->Prop}{a:Act}{w:World}(l:Nat)(J:Nat->Act->World->Prop)(hf:findLabel c l=Y rest)(hQ: ∀l' a w,¬Q (.goto l') a w)
  (first:c.wp P (bE4 l (λa w=> ∃n,J n a w) Q) a w) (pass: ∀n a w,J n a w->rest.wp P (bE4 l (λa w=> ∃m,m<n/\J m a w) Q) a w):(Code.scope c).wp P Q a w:=by
 intro b k cs;have hg:gotoIn l (.inScope c::k)=Y (.code rest:: .inScope c::k):=by simp[gotoIn,hf]
 have key: ∀n a w,J n a w->∃e a' w',Q e a' w'/\Arrives P (lone (b.at a (.code rest:: .inScope c::k)) cs w) b k cs e a' w':=by
  intro n;induction n using Nat.strongRecOn with
  |_ n ih=>
   intro a w hJ;obtain⟨e,a₁,w₁,hq,harr⟩:=pass n a w hJ b (.inScope c::k) cs;cases e with
   |normal=>exact⟨.normal,a₁,w₁,hq,Steps.trans harr (.one step_inScope)⟩
   |exit id=>exact⟨.exit id,a₁,w₁,hq,λk' hk=>harr k' (by simp[exitTo,hk])⟩
   |goto l'=>
    rcases hq with⟨rfl,m,hlt,hJ'⟩|⟨_,hq⟩
    .obtain⟨e₂,a₂,w₂,hq₂,harr₂⟩:=ih m hlt a₁ w₁ hJ';exact⟨e₂,a₂,w₂,hq₂, .of_steps (harr _ hg) harr₂⟩
    .exact(hQ _ _ _ hq).elim
   |ret=>exact⟨_,a₁,w₁,hq,harr⟩
   |panic ch=>exact⟨_,a₁,w₁,hq,harr⟩
   |outgrown=>exact⟨_,a₁,w₁,hq,harr⟩
 obtain⟨e,a₁,w₁,hq,harr⟩:=first b (.inScope c::k) cs
 cases e with
 |normal=>exact⟨.normal,a₁,w₁,hq, .head step_scope (Steps.trans harr (.one step_inScope))⟩
 |exit id=>exact⟨.exit id,a₁,w₁,hq,λk' hk=> .head step_scope (harr k' (by simp[exitTo,hk]))⟩
 |goto l'=>
  rcases hq with⟨rfl,n,hJ'⟩|⟨_,hq⟩
  .obtain⟨e₂,a₂,w₂,hq₂,harr₂⟩:=key n a₁ w₁ hJ';exact⟨e₂,a₂,w₂,hq₂, .of_steps (.head step_scope (harr _ hg)) harr₂⟩
  .exact(hQ _ _ _ hq).elim
 |ret=>exact⟨_,a₁,w₁,hq, .of_steps (.one step_scope) harr⟩
 |panic ch=>exact⟨_,a₁,w₁,hq, .of_steps (.one step_scope) harr⟩
 |outgrown=>exact⟨_,a₁,w₁,hq, .of_steps (.one step_scope) harr⟩
def Jst {P:Program}(B:Base P)(N:Nat)(μ0:Mu)(w0:World)(L:Nat->cb->Hp->Prop)(n:Nat):Act->World->Prop:=λa w=>
 ∃e σ μ,L n e σ/\μ0.le μ/\R B μ σ w/\gm μ N e a.tmps/\a.defers=[]/\Below B w0 w
def Aok (P:Program)(T:gr)(B:Base P)(N:Nat)(c:Code):Prop:= ∀(ac:AC),sy P N c=Y ac->∀(Q:AExit->cb->Hp->Prop) (e:cb) (σ:Hp) (μ:Mu) (a:Act) (w:World),wpA T ac Q e σ->
  R B μ σ w->gm μ N e a.tmps->a.defers=[]->c.wp P (xA B N μ w Q) a w
def Sok (P:Program)(T:gr)(B:Base P)(N:Nat)(c:Code):Prop:= ∀(ac:AC),cu9 P N c=Y ac->∀(Q:AExit->cb->Hp->Prop),
 (kg c=Z->∀(e:cb) (σ:Hp) (μ:Mu) (a:Act) (w:World),wpA T ac Q e σ->R B μ σ w->gm μ N e a.tmps->a.defers=[]->c.wp P (xA B N μ w Q) a w)/\
 (∀l,kg c=Y l->∃rest L,findLabel c l=Y rest/\∀μ0 w0,
  (∀(e:cb) (σ:Hp) (μ:Mu) (a:Act) (w:World),wpA T ac Q e σ->R B μ σ w->gm μ N e a.tmps->a.defers=[]->μ0.le μ->Below B w0 w->c.wp P (bE4 l (λa w=> ∃n,Jst B N μ0 w0 L n a w) (xA B N μ0 w0 Q)) a w)/\
  (∀n a w,Jst B N μ0 w0 L n a w->rest.wp P (bE4 l (λa w=> ∃m,m<n/\Jst B N μ0 w0 L m a w) (xA B N μ0 w0 Q)) a w))
theorem Sok.of {c:Code}(h1:cu9 P N c=sy P N c)(h2:kg c=Z)(h:Aok P T B N c):Sok P T B N c:=λac hac Q=>
 ⟨λ_=>h ac (h1▸hac) Q,λl hl=>by rw[h2]at hl;cases hl⟩
theorem bA3 {μ:Mu}{w:World}{Q:AExit->cb->Hp->Prop}{x:Exit}{a':Act}{w':World}(h:xA B N μ w Q x a' w')(hx:x≠ .normal): ∃ax e' σ' μ',ax≠ .normal/\ai9 ax x/\Q ax e' σ'/\μ.le μ'/\R B μ' σ' w'/\gm μ' N e' a'.tmps/\a'.defers=[]/\Below B w w':=by
 obtain⟨ax,e',σ',μ',h1,h2,h3⟩:=h;refine⟨ax,e',σ',μ', ?_,h1,h2,h3⟩;rintro rfl;cases x<;>first|exact h1.elim|exact hx rfl
theorem dG3 {μ:Mu}{w:World}{Q Q':AExit->cb->Hp->Prop}{x:Exit}{a':Act}{w':World}(h:xA B N μ w Q x a' w')(hq: ∀ax e σ,ai9 ax x->Q ax e σ->Q' ax e σ):xA B N μ w Q' x a' w':=by
 obtain⟨ax,e',σ',μ',h1,h2,h3⟩:=h;exact⟨ax,e',σ',μ',h1,hq _ _ _ h1 h2,h3⟩
theorem cQ2 {x y:Code}{a:Act}{w:World}{μ:Mu}{Q1:AExit->cb->Hp->Prop}{F:Exit->Act->World->Prop}(h:x.wp P (xA B N μ w Q1) a w)
  (hn: ∀e σ μ' a' w',Q1 .normal e σ->μ.le μ'->R B μ' σ w'->gm μ' N e a'.tmps->a'.defers=[]->Below B w w'->y.wp P F a' w')
  (ho: ∀x a' w',x≠ .normal->xA B N μ w Q1 x a' w'->F x a' w'):(Code.seq x y).wp P F a w:=by
 refine wp_seq (wp_mono h λx' a' w' hx=> ?_);cases x' with
 |normal=>
  obtain⟨ax,e',σ',μ',h1,h2,h3,h4,h5,h6,h7⟩:=hx;cases ax with
  |normal=>exact hn e' σ' μ' a' w' h2 h3 h4 h5 h6 h7
  |exit i=>exact h1.elim
  |ret=>exact h1.elim
 |exit i=>exact ho _ a' w' (by simp) hx
 |goto l=>exact ho _ a' w' (by simp) hx
 |ret=>exact ho _ a' w' (by simp) hx
 |panic ch=>exact ho _ a' w' (by simp) hx
 |outgrown=>exact ho _ a' w' (by simp) hx
theorem cB8 {l:Nat}{J:Act->World->Prop}{F:Exit->Act->World->Prop}{x:Exit}{a:Act}{w:World}(hg:x= .goto l->J a w)(hF:x≠ .goto l->F x a w):bE4 l J F x a w:=by
 cases x with
 |goto l'=>
  by_cases hl:l'=l
  .subst hl;exact .inl ⟨rfl,hg rfl⟩
  .exact .inr ⟨hl,hF (by simpa using hl)⟩
 |_=>exact hF (by simp)
theorem bS8 {l:Nat}{J J':Act->World->Prop}{F F':Exit->Act->World->Prop}(hJ: ∀a w,J a w->J' a w)(hF: ∀x a w,F x a w->F' x a w){x:Exit}{a:Act}{w:World}(h:bE4 l J F x a w):bE4 l J' F' x a w:=by
 cases x with
 |goto l'=>
  rcases h with⟨h1,h2⟩|⟨h1,h2⟩
  .exact .inl ⟨h1,hJ _ _ h2⟩
  .exact .inr ⟨h1,hF _ _ _ h2⟩
 |_=>exact hF _ _ _ h
theorem dk5 (hM:xe T)(hT: ∀f,Sim P f (T f)): ∀(c:Code),Aok P T B N c/\Sok P T B N c:=by
 intro c;induction c with
 |skip=>
  refine(λA=>⟨A,Sok.of rfl rfl A⟩) ?_;intro ac h Q e σ μ a w hw hR he hd;simp[sy,tr2,vQ]at h;subst h;exact wp_skip ⟨.normal,e,σ,μ,trivial,hw,μ.le_refl,hR,he,hd,Below.refl _ _⟩
 |label l=>
  refine(λA=>⟨A,Sok.of rfl rfl A⟩) ?_;intro ac h Q e σ μ a w hw hR he hd;simp[sy,tr2,vQ]at h;subst h;exact wp_label ⟨.normal,e,σ,μ,trivial,hw,μ.le_refl,hR,he,hd,Below.refl _ _⟩
 |goto l=>
  refine(λA=>⟨A,Sok.of rfl rfl A⟩) ?_;intro ac h Q e σ μ a w hw hR he hd;simp[sy,tr2,vQ]at h;subst h;exact wp_goto ⟨.exit (az1 l),e,σ,μ,rfl,hw,μ.le_refl,hR,he,hd,Below.refl _ _⟩
 |region id ops draw=>
  refine(λA=>⟨A,Sok.of rfl rfl A⟩) ?_;intro ac h Q e σ μ a w hw hR he hd;simp only[sy,tr2,vQ]at h;cases draw with
  |false=>
   simp only[cB,if_false]at h;obtain⟨al,h1,h⟩:=Option.map_eq_some_iff.1 h;subst h;exact wp_region_list (cs9 hT ops.toList al e σ μ a w h1 hw hR he hd μ.le_refl (Below.refl _ _))
  |true=>
   simp only[if_true]at h;split at h
   .rename_i al h1;split at h
    .rename_i h2
     have hw:wpD T (Q .normal) al al.length [] [] e σ:=by
      split at h
      .rename_i its hits;injection h with h
       subst h;exact ba0 hM al.length [] [] its [] [] e σ hits hw (λi c hc=>(by cases hc)) (λi c hc=>(by cases hc))
      .injection h with h
       subst h;exact hw
     simp only[bB]at h2;have hF:=dC1 h1;have hempty: ∀(val:Nat->Value),ki al e val []=e:=λval=>funext λt=>ui λi hi=>by cases hi
     refine wp_region_any h2.2 ?_;have hl:left al.length []<=al.length:=by unfold left;exact Nat.le_trans (List.length_filter_le _ _) (by simp)
     refine dB3 hT hF h2.1 (e0:=e) ops.size al.length (λ_=>undef) [] [] [] _ σ μ a _ (by rw[hempty];exact hw) hl (by rw[hF.len];exact hl) ⟨λi hi=>(by cases hi),λi hi=>(by cases hi),λi hi=>(by cases hi),λi hi=>(by cases hi),λi hi=>(by cases hi)⟩ (by simp) (λi hi=>by simp[hi]) (hR.same rfl) (by rw[hempty];exact he) hd μ.le_refl (Below.refl _ _).drew
    .cases h
   .cases h
 |seq x y ihx ihy=>
  refine⟨?_, ?_⟩
  .intro ac h Q e σ μ a w hw hR he hd;have h:dT0 (sy P N x) (sy P N y)=Y ac:=h;unfold dT0 at h;split at h
   .rename_i ax ay h1 h2;injection h with h
    subst h;simp only[wpA]at hw;have h1:sy P N x=Y ax:=h1;have h2:sy P N y=Y ay:=h2;refine cQ2 (ihx.1 ax h1 _ e σ μ a w hw hR he hd) (λe' σ' μ' a' w' hq g1 g2 g3 g4 g5=> ?_) λx' a' w' hx hp=> ?_
    .exact wp_mono (ihy.1 ay h2 Q e' σ' μ' a' w' hq g2 g3 g4) λx'' a'' w'' h''=>h''.trans g1 g5
    .obtain⟨axx,e',σ',μ',h0,h1',h2',h3'⟩:=bA3 hp hx;refine⟨axx,e',σ',μ',h1', ?_,h3'⟩;cases axx with
     |normal=>exact(h0 rfl).elim
     |exit i=>exact h2'
     |ret=>exact h2'
   .cases h
  .intro ac h Q;have h:cQ5 x y (sy P N x) (sy P N y) (cu9 P N y)=Y ac:=h;unfold cQ5 at h;split at h
   .rename_i l hl;obtain rfl:=cr8 hl;split at h
    .
     rename_i hg;obtain⟨yc,h1,h⟩:=Option.map_eq_some_iff.1 h;subst h;have hll:kg (.seq (.label l) y)=Y l:=by simp[kg,be7,hg]
     refine⟨λhn=>(by rw[hll]at hn;cases hn),λl' hl'=> ?_⟩;rw[hll]at hl';injection hl' with hl'
     subst hl'
     let Q1:AExit->cb->Hp->Prop:=λx e σ=>match x with
      | .exit i=>if i=aj1 l then Q .normal e σ else Q (.exit i) e σ
      |x=>Q x e σ
     let body:AC:= .block (az1 l) (.seq yc (.exit (aj1 l)))
     have hne:aj1 l≠az1 l:=by unfold aj1 az1;omega
     have round: ∀(n:Nat) (e:cb) (σ:Hp) (μ:Mu) (a:Act) (w:World) (μ0:Mu) (w0:World),om (wpA T body) Q1 (n+1) e σ->R B μ σ w->gm μ N e a.tmps->a.defers=[]->μ0.le μ->Below B w0 w->
       y.wp P (bE4 l (λa w=>Jst B N μ0 w0 (λn=>om (wpA T body) Q1 n) n a w) (xA B N μ0 w0 Q)) a w:=by
      intro n e σ μ a w μ0 w0 hw hR he hd hμ hb;simp only[om,body,wpA]at hw;refine wp_mono (ihy.1 yc h1 _ e σ μ a w hw hR he hd) λx' a' w' hp=> ?_
      obtain⟨ax,e',σ',μ',q1,q2,q3,q4,q5,q6,q7⟩:=hp;refine cB8 (λhx=> ?_) λhx=> ?_
      .subst hx;cases ax with
       |exit i=>
        have q1:i=az1 l:=q1;subst q1;simp only[if_true]at q2;exact⟨e',σ',μ',q2,Mu.le_trans hμ q3,q4,q5,q6,hb.trans q7⟩
       |_=>exact q1.elim
      .cases ax with
       |normal=>
        simp only[zF hne]at q2;simp only[Q1,if_true]at q2;exact⟨.normal,e',σ',μ',q1,q2,Mu.le_trans hμ q3,q4,q5,q6,hb.trans q7⟩
       |ret=>exact⟨.ret,e',σ',μ',q1,q2,Mu.le_trans hμ q3,q4,q5,q6,hb.trans q7⟩
       |exit i=>
        have hi:i≠az1 l/\i≠aj1 l:=by
         cases x' with
         |exit j=>
          obtain⟨rfl,hj⟩:=q1;unfold az1 aj1;omega
         |goto l'=>
          have q1:i=aO5+2*l':=q1;have:l'≠l:=λe=>hx (by rw[e])
          unfold az1 aj1;omega
         |_=>exact q1.elim
        simp only[zF hi.1,Q1,zF hi.2]at q2;exact⟨.exit i,e',σ',μ',q1,q2,Mu.le_trans hμ q3,q4,q5,q6,hb.trans q7⟩
     refine⟨.seq .skip y,λn=>om (wpA T body) Q1 n,by simp[findLabel],λμ0 w0=>⟨λe σ μ a w hw hR he hd hμ hb=> ?_,λn a w hJ=> ?_⟩⟩
     .have hw': ∃n,om (wpA T body) Q1 n e σ:=hw
      obtain⟨n,hn⟩:=hw';cases n with
      |zero=>exact hn.elim
      |succ n=>
       refine wp_seq (wp_label ?_);exact wp_mono (round n e σ μ a w μ0 w0 hn hR he hd hμ hb) λx' a' w' h'=>bS8 (λ_ _ h=>⟨n,h⟩) (λ_ _ _ h=>h) h'
     .obtain⟨e,σ,μ,hn,hμ,hR,he,hd,hb⟩:=hJ;cases n with
      |zero=>exact hn.elim
      |succ n=>
       refine wp_seq (wp_skip ?_);exact wp_mono (round n e σ μ a w μ0 w0 hn hR he hd hμ hb) λx' a' w' h'=>bS8 (λ_ _ h=>⟨n,Nat.lt_succ_self n,h⟩) (λ_ _ _ h=>h) h'
    .
     rename_i hg;split at h
     .rename_i hlo;obtain⟨yc,h1,h⟩:=Option.map_eq_some_iff.1 h;subst h;have hll:kg (.seq (.label l) y)=kg y:=by simp[kg,be7,hg]
      obtain⟨s1,s2⟩:=ihy.2 yc h1 Q;refine⟨λhn e σ μ a w hw hR he hd=>wp_seq (wp_label ?_),λl' hl'=> ?_⟩
      .exact s1 (hll▸hn) e σ μ a w hw hR he hd
      .rw[hll]at hl';obtain⟨rest,L,hf,hJ⟩:=s2 l' hl'
       have hlab:findLabel (.seq (.label l) y) l'=Y rest:=by
        have:findLabel (.label l) l'=Z:=aZ6 _ _ (by
         unfold bt0 at hlo;rw[hl']at hlo
         simpa using hlo)
        simp[findLabel,hf]at this⊢;simp[this]
       refine⟨rest,L,hlab,λμ0 w0=>⟨λe σ μ a w hw hR he hd hμ hb=>wp_seq (wp_label ?_),(hJ μ0 w0).2⟩⟩;exact(hJ μ0 w0).1 e σ μ a w hw hR he hd hμ hb
     .cases h
   .rename_i hl;split at h
    .rename_i ax ay h1 h2;split at h
     .rename_i hlo;rw[bB,bD]at hlo;obtain⟨hlo,hnj⟩:=hlo;injection h with h
      subst h;have hll:kg (.seq x y)=kg y:=by simp[kg,hl]
      obtain⟨s1,s2⟩:=ihy.2 ay h2 Q;refine⟨λhn e σ μ a w hw hR he hd=> ?_,λl' hl'=> ?_⟩
      .simp only[wpA]at hw;refine cQ2 (ihx.1 ax h1 _ e σ μ a w hw hR he hd) (λe' σ' μ' a' w' hq g1 g2 g3 g4 g5=> ?_) λx' a' w' hx hp=> ?_
       .exact wp_mono (s1 (hll▸hn) e' σ' μ' a' w' hq g2 g3 g4) λx'' a'' w'' h''=>h''.trans g1 g5
       .obtain⟨axx,e',σ',μ',h0,h1',h2',h3'⟩:=bA3 hp hx;refine⟨axx,e',σ',μ',h1', ?_,h3'⟩;cases axx with
        |normal=>exact(h0 rfl).elim
        |exit i=>exact h2'
        |ret=>exact h2'
      .rw[hll]at hl';obtain⟨rest,L,hf,hJ⟩:=s2 l' hl'
       have hlab:findLabel (.seq x y) l'=Y rest:=by
        have:findLabel x l'=Z:=aZ6 _ _ (by
         unfold bt0 at hlo;rw[hl']at hlo
         simpa using hlo)
        simp[findLabel,hf,this]
       have hnj:ax.noJump=Za:=by
        rcases hnj with h|h
        .rw[hl']at h;cases h
        .exact h
       refine⟨rest,L,hlab,λμ0 w0=>⟨λe σ μ a w hw hR he hd hμ hb=> ?_,(hJ μ0 w0).2⟩⟩;simp only[wpA]at hw;refine cQ2 (ihx.1 ax h1 _ e σ μ a w (cI2 hM _ _ e σ hw) hR he hd) (λe' σ' μ' a' w' hq g1 g2 g3 g4 g5=> ?_) λx' a' w' hx hp=> ?_
       .exact(hJ μ0 w0).1 e' σ' μ' a' w' hq.2 g2 g3 g4 (Mu.le_trans hμ g1) (hb.trans g5)
       .obtain⟨axx,e',σ',μ',h0,h1',h2',h3',h4',h5',h6',h7'⟩:=bA3 hp hx;refine cB8 (λhg=> ?_) λ_=> ?_
        .subst hg;cases axx with
         |exit i=>
          have k1:i=aO5+2*l':=h1';have:=ch4 hnj (h2'.1 i rfl);omega
         |_=>exact h1'.elim
        .refine⟨axx,e',σ',μ',h1', ?_,Mu.le_trans hμ h3',h4',h5',h6',hb.trans h7'⟩;cases axx with
         |normal=>exact(h0 rfl).elim
         |exit i=>exact h2'.2
         |ret=>exact h2'.2
     .cases h
    .cases h
 |cond c x y ihx ihy=>
  refine(λA=>⟨A,Sok.of rfl rfl A⟩) ?_;intro ac h Q e σ μ a w hw hR he hd;simp only[sy,tr2,vQ]at h;split at h
  .rename_i c' ax ay h0 h1 h2;injection h with h
   subst h;obtain⟨rfl,k0⟩:=ar h0;have hv:=he.ev k0;simp only[wpA]at hw;split at hw
   .rename_i hb;rw[hb]at hv;exact wp_cond_true hv.bool_inv (ihx.1 ax h1 Q e σ μ a w hw hR he hd)
   .rename_i hb;rw[hb]at hv;exact wp_cond_false hv.bool_inv (ihy.1 ay h2 Q e σ μ a w hw hR he hd)
   .exact hw.elim
  .cases h
 |block id b ih=>
  refine(λA=>⟨A,Sok.of rfl rfl A⟩) ?_;intro ac h Q e σ μ a w hw hR he hd;simp only[sy,tr2,vQ]at h;split at h
  .rename_i hlt;obtain⟨ab,h1,h⟩:=Option.map_eq_some_iff.1 h;subst h;simp only[wpA]at hw;refine wp_block (wp_mono (ih.1 ab h1 _ e σ μ a w hw hR he hd) λx a' w' hx=> ?_);obtain⟨axx,e',σ',μ',hxr,hq,g1,g2,g3,g4,g5⟩:=hx;cases axx with
   |normal=>
    cases x<;>simp[ai9]at hxr;exact⟨.normal,e',σ',μ',trivial,hq,g1,g2,g3,g4,g5⟩
   |exit i=>
    simp only at hq;cases x with
    |exit j=>
     obtain⟨rfl,hj⟩:=hxr;simp only[Exit.inBlock];split
     .rename_i hid;rw[zE hid]at hq;exact⟨.normal,e',σ',μ',trivial,hq,g1,g2,g3,g4,g5⟩
     .rename_i hid;rw[zF hid]at hq;exact⟨.exit i,e',σ',μ',⟨rfl,hj⟩,hq,g1,g2,g3,g4,g5⟩
    |goto l=>
     have hxr':i=aO5+2*l:=hxr;rw[zF (by omega)]at hq;exact⟨.exit i,e',σ',μ',hxr,hq,g1,g2,g3,g4,g5⟩
    |_=>exact hxr.elim
   |ret=>
    cases x<;>simp[ai9]at hxr;exact⟨.ret,e',σ',μ',trivial,hq,g1,g2,g3,g4,g5⟩
  .cases h
 |loop b ih=>
  refine(λA=>⟨A,Sok.of rfl rfl A⟩) ?_;intro ac h Q e σ μ a w hw hR he hd;simp only[sy,tr2,vQ]at h;obtain⟨ab,h1,h⟩:=Option.map_eq_some_iff.1 h;subst h;simp only[wpA]at hw;obtain⟨n,hn⟩:=hw;exact cv3 (f:=wpA T ab) (λQ e σ μ a w hf=>ih.1 ab h1 Q e σ μ a w hf) hn hR he hd μ.le_refl (Below.refl _ _)
 |scope b ih=>
  refine(λA=>⟨A,Sok.of rfl rfl A⟩) ?_;intro ac h Q e σ μ a w hw hR he hd;simp only[sy,tr2,vQ]at h;split at h
  .rename_i ac' h1;split at h
   .rename_i hno;injection h with h
    subst h;have hw':=cI2 hM _ Q e σ hw
    have hng: ∀(l':Nat) (a:Act) (w':World),¬xA B N μ w (cJ9 ac' Q) (.goto l') a w':=by
     rintro l' a w' ⟨ax,e',σ',μ',k1,k2,_⟩;cases ax with
     |exit i=>
      have k1:i=aO5+2*l':=k1;have:=ch4 hno (k2.1 i rfl);omega
     |_=>exact k1.elim
    have fin: ∀{x:Exit} {a':Act} {w':World},xA B N μ w (cJ9 ac' Q) x a' w'->xA B N μ w Q x a' w':=λh=>dG3 h λ_ _ _ _ h=>h.2
    obtain⟨s1,s2⟩:=ih.2 ac' h1 (cJ9 ac' Q);cases hl:kg b with
    |none=>
     refine wp_scope_straight (wp_mono (s1 hl e σ μ a w hw' hR he hd) λx a' w' hx=> ?_);cases x with
     |goto l'=>exact(hng l' a' w' hx).elim
     |_=>exact fin hx
    |some l=>
     obtain⟨rest,L,hf,hJ⟩:=s2 l hl;obtain⟨j1,j2⟩:=hJ μ w;refine wp_mono (cF8 l (Jst B N μ w L) hf hng (j1 e σ μ a w hw' hR he hd μ.le_refl (Below.refl _ _)) j2) λx a' w' hx=>fin hx
   .cases h
  .cases h
 |exit id=>
  refine(λA=>⟨A,Sok.of rfl rfl A⟩) ?_;intro ac h Q e σ μ a w hw hR he hd;simp only[sy,tr2,vQ]at h;split at h
  .rename_i hlt;injection h with h
   subst h;exact wp_exit ⟨.exit id,e,σ,μ,⟨rfl,hlt⟩,hw,μ.le_refl,hR,he,hd,Below.refl _ _⟩
  .cases h
 |ret=>
  refine(λA=>⟨A,Sok.of rfl rfl A⟩) ?_;intro ac h Q e σ μ a w hw hR he hd;simp[sy,tr2,vQ]at h;subst h;exact wp_ret ⟨.ret,e,σ,μ,trivial,hw,μ.le_refl,hR,he,hd,Below.refl _ _⟩
 |_=>
  refine(λA=>⟨A,Sok.of rfl rfl A⟩) ?_;intro ac h;simp[sy,tr2,vQ]at h
theorem dA4 (hM:xe T)(hT: ∀f,Sim P f (T f))(c:Code)(ac:AC)(h:sy P N c=Y ac)(Q:AExit->cb->Hp->Prop)(e:cb)(σ:Hp)(μ:Mu)(a:Act)(w:World)(hw:wpA T ac Q e σ)
  (hR:R B μ σ w) (he:gm μ N e a.tmps) (hd:a.defers=[]):c.wp P (xA B N μ w Q) a w:=(dk5 hM hT c).1 ac h Q e σ μ a w hw hR he hd
end
end
section
open List renaming mapM_cons -> bD, getElem?_eq_getElem -> cB
open Result renaming andThen_ok -> aB
open Sem renaming run_bind -> aD, run_pure -> bB
open Go.RowKit
def bX4 (P:Program):List ResultVar->Option (List ARes)
 |[]=>Y []
 | .tmp t::r=>(bX4 P r).map (.tmp t:: ·)
 | .cell a t::r=>match au1 P t,qu P t,bX4 P r with
  |some Za,Y n,Y r=>Y (.cellN a n::r)
  |some Zb,Y _,Y r=>Y (.cell a::r)
  |_,_,_=>Z
def cH2 (P:Program)(f:FuncId):Option AFn:=match P.funcs[f]? with
 |some fn=>match fn.body,cM8 P f with
  |some c,true=>match sy P fn.ntmps c,bX4 P fn.results.toList with
   |some ac,Y rs=>Y ⟨fn.ntmps,rs,ac⟩
   |_,_=>Z
  |_,_=>Z
 |none=>Z
section
variable {P:Program} {T:gr} {B:Base P} {N:Nat} {μ:Mu} {σ:Hp} {w:World} {e:cb}
def az4 (tmps:Array Value):ResultVar->Sem Value
 | .tmp t=>pure (tmps.getD t undef)
 | .cell a t=>do loadVar t (<-asAddr (tmps.getD a undef))
theorem cP8 (fn:Func)(tmps:Array Value):results fn tmps=(do
  let vs<-fn.results.mapM (az4 tmps)
  pure (if h:vs.size=1 then vs[0]else .tuple vs)):=rfl
theorem ct5 {tmps:Array Value}(he:gm μ N e tmps)(hR:R B μ σ w): ∀(l:List ResultVar) (rs:List ARes) (vs:List Value),bX4 P l=Y rs->bA7 e σ rs=Y vs->
  ∃vs',(l.mapM (az4 tmps)).run P w= .ok vs' w/\F2 (VR μ) vs vs'
 |[],rs,vs,h,hr=>by
  simp[bX4]at h;subst h;simp[bA7]at hr;subst hr;exact⟨[],by simp, .nil⟩
 | .tmp t::l,rs,vs,h,hr=>by
  simp only[bX4]at h;obtain⟨rs',h1,h⟩:=Option.map_eq_some_iff.1 h;subst h;simp only[bA7]at hr;split at hr
  .rename_i v vs1 h2 h3;injection hr with hr
   subst hr;simp[bU9]at h2;subst h2;obtain⟨vs',h4,h5⟩:=ct5 he hR l rs' vs1 h1 h3;refine⟨tmps.getD t undef::vs', ?_, .cons (he.2 t) h5⟩;have hF:(az4 tmps (.tmp t)).run P w= .ok (tmps.getD t undef) w:=rfl;simp only[bD,aD,bB,aB,hF,h4]
  .cases hr
 | .cell a t::l,rs,vs,h,hr=>by
  simp only[bX4]at h;have hv:=he.2 a;split at h
  .rename_i n rs' h1 h2 h3;injection h with h
   subst h;simp only[bA7]at hr;split at hr
   .rename_i v vs1 h4 h5;injection hr with hr
    subst hr;obtain⟨vs',h6,h7⟩:=ct5 he hR l rs' vs1 h3 h5;simp only[bU9]at h4;split at h4
    .rename_i b o hb;rw[hb]at hv;obtain⟨g,hg,hq⟩:=hv.ptr_inv;obtain⟨x,hx,h4⟩:=Option.bind_eq_some_iff.1 h4;obtain⟨cs,hcs,rfl⟩:=Option.map_eq_some_iff.1 h4;obtain⟨cs',k1,k2⟩:=hR.reads hx hg hcs;refine⟨.agg cs'.toArray::vs', ?_, .cons (.agg k2) h7⟩
     have hF:(az4 tmps (.cell a t)).run P w= .ok (.agg cs'.toArray) w:=by
      simp only[az4,aD,hq,asAddr,bB,aB,loadVar,bf6 h1,if_true,sv h2,k1 P w rfl]
     simp only[bD,aD,bB,aB,hF,h6]
    .cases h4
   .cases hr
  .rename_i n rs' h1 h2 h3;injection h with h
   subst h;simp only[bA7]at hr;split at hr
   .rename_i v vs1 h4 h5;injection hr with hr
    subst hr;obtain⟨vs',h6,h7⟩:=ct5 he hR l rs' vs1 h3 h5;simp only[bU9]at h4;split at h4
    .rename_i b o hb;rw[hb]at hv;obtain⟨g,hg,hq⟩:=hv.ptr_inv;obtain⟨x,hx,h4⟩:=Option.bind_eq_some_iff.1 h4;obtain⟨v',k1,k2⟩:=(hR.get hx hg.1).cell hg.2 o v h4;refine⟨v'::vs', ?_, .cons k2 h7⟩
     have hF:(az4 tmps (.cell a t)).run P w= .ok v' w:=by
      simp only[az4,aD,hq,asAddr,bB,aB,loadVar,bf6 h1,Bool.false_eq_true,if_false,run_load,k1]
     simp only[bD,aD,bB,aB,hF,h6]
    .cases h4
   .cases hr
  .cases h
theorem cT7 {f:FuncId}{af:AFn}(h:cH2 P f=Y af)(hM:xe T)(hT: ∀g,Sim P g (T g)):Sim P f (wpF T af):=by
 unfold cH2 at h;split at h
 .rename_i fn hfn;split at h
  .rename_i c hb hen;split at h
   .rename_i ac rs h1 h2;injection h with h
    subst h;intro B μ σ w args cargs K hw hR ha;obtain⟨hlen,hw⟩:=hw
    have hcall:ck0 P f:=by
     unfold cM8 at hen;rw[hfn]at hen;simp only[Bool.and_eq_true,Bool.not_eq_true']at hen;exact⟨fn,hfn,hen.1,hen.2⟩
    refine⟨hcall,calls_of_wp hfn hb ?_⟩;have hsz:cargs.size=args.length:=by simpa using ha.length.symm
    have henv:gm μ fn.ntmps (cb.of args) (cargs++Array.replicate (fn.ntmps-cargs.size) undef):=by
     refine⟨by simp only[Array.size_append,Array.size_replicate];simp only at hlen;omega,λt=> ?_⟩;unfold cb.of;by_cases ht:t<args.length
     .obtain⟨v',h3,h4⟩:=ha.get t args[t] (cB ht)
      have:(cargs++Array.replicate (fn.ntmps-cargs.size) undef).getD t undef=v':=by
       simp only[Array.getD_eq_getD_getElem?];rw[Array.getElem?_append_left (by omega)];have:cargs[t]?=Y v':=by simpa using h3
       simp[this]
      rw[this,cB ht];exact h4
     .have:(cargs++Array.replicate (fn.ntmps-cargs.size) undef).getD t undef=undef:=by
       simp only[Array.getD_eq_getD_getElem?];rw[Array.getElem?_append_right (by omega),Array.getElem?_replicate];split<;>rfl
      rw[this,List.getElem?_eq_none (by omega)];exact VR.undef μ
    refine wp_mono (dA4 hM hT c ac h1 _ _ σ μ ⟨_,[]⟩ w hw hR henv rfl) λx a' w' hx=> ?_
    obtain⟨ax,e',σ',μ',hxr,hq,g1,g2,g3,g4,g5⟩:=hx
    have fin:(match bA7 e' σ' rs with
      |some vs=>K (au9 vs) σ'
      |none=>False)->a'.defers=[]/\∃v,(results fn a'.tmps).run P w'= .ok v w'/\dX1 P B μ w K (.returned v) w':=by
     intro hq;refine⟨g4, ?_⟩;split at hq
     .rename_i vs hvs;obtain⟨vs',k1,k2⟩:=ct5 (P:=P) g3 g2 fn.results.toList rs vs h2 hvs;have hl:=k2.length;refine⟨au9 vs', ?_,_,σ',_,μ',rfl,hq,g1,g2, ?_,g5,rfl⟩
      .rw[cP8,Array.mapM_eq_mapM_toList];simp only[aD,Sem.run_map,k1,aB,bB]
       congr 1
       match vs',hl with
       |[],_=>rfl
       |[v],_=>rfl
       |v::u::r,_=>simp[au9]
      .match vs,vs',k2 with
       |[],_, .nil=>exact .tuple .nil
       |[v],_, .cons h .nil=>exact h
       |v::u::r,_, .cons h (.cons h' t)=>exact .tuple (.cons h (.cons h' t))
     .exact hq.elim
    cases ax with
    |normal=>
     cases x<;>simp[ai9]at hxr;exact fin hq
    |exit id=>exact hq.elim
    |ret=>
     cases x<;>simp[ai9]at hxr;exact fin hq
   .cases h
  .cases h
 .cases h
theorem Sim.none (P:Program)(f:FuncId):Sim P f λ_ _ _=>False:=λ_ _ _ _ _ _ _ h=>h.elim
theorem Sim.of {f:FuncId}{S S':bx9}(h:Sim P f S)(hS: ∀args σ K,S' args σ K->S args σ K):Sim P f S':=
 λB μ σ w args cargs K hk=>h B μ σ w args cargs K (hS args σ K hk)
end
inductive Rn (ν:Nat->Nat)(n:Nat):Value->Value->Prop where
 |bool (b:Bool):Rn ν n (.bool b) (.bool b)
 |int (k:IntKind) (m:Int):Rn ν n (.int k m) (.int k m)
 |string (s:ByteArray):Rn ν n (.string s) (.string s)
 |nilp:Rn ν n (.pointer Z) (.pointer Z)
 |ptr {b o:Nat}:b<n->Rn ν n (.pointer (Y ⟨b,o,Z⟩)) (.pointer (Y ⟨ν b,o,Z⟩))
 |nils:Rn ν n (.slice Z 0 0) (.slice Z 0 0)
 |slice {b o l c:Nat}:b<n->Rn ν n (.slice (Y ⟨b,o,Z⟩) l c) (.slice (Y ⟨ν b,o,Z⟩) l c)
 |nilf:Rn ν n .nilFunc .nilFunc
 |func {f:Fn} {a a' c c':Array Value}:F2 (Rn ν n) a.toList a'.toList->F2 (Rn ν n) c.toList c'.toList->Rn ν n (.func f a c) (.func f a' c')
 |nili:Rn ν n .nilIface .nilIface
 |agg {a a':Array Value}:F2 (Rn ν n) a.toList a'.toList->Rn ν n (.agg a) (.agg a')
 |tuple {a a':Array Value}:F2 (Rn ν n) a.toList a'.toList->Rn ν n (.tuple a) (.tuple a')
theorem Rn.vr {ν:Nat->Nat}{n:Nat}{μ1 μ':Mu}(hμ: ∀b,b<n->μ' b=μ1 (ν b)): ∀{v u:Value},Rn ν n v u->∀{u':Value},VR μ1 u u'->VR μ' v u'
 |_,_, .bool b,_,h=>by cases h;exact .bool b
 |_,_, .int k m,_,h=>by cases h;exact .int k m
 |_,_, .string s,_,h=>by cases h;exact .string s
 |_,_, .nilp,_,h=>by cases h;exact .nilp
 |_,_, .ptr hb,_,h=>by cases h with|ptr h1=>exact .ptr ⟨(hμ _ hb).trans h1.1,h1.2⟩
 |_,_, .nils,_,h=>by cases h;exact .nils
 |_,_, .slice hb,_,h=>by cases h with
  |slice h1 h2 h3 h4=>exact .slice ⟨(hμ _ hb).trans h1.1,h1.2⟩ h2 h3 h4
  |slice0 A' h1=>exact .slice0 _ ⟨(hμ _ hb).trans h1.1,h1.2⟩
 |_,_, .nilf,_,h=>by cases h;exact .nilf
 |_,_, .func h1 h2,_,h=>by cases h with|func k1 k2=>exact .func (go h1 k1) (go h2 k2)
 |_,_, .nili,_,h=>by cases h;exact .nili
 |_,_, .agg h1,_,h=>by cases h with|agg k1=>exact .agg (go h1 k1)
 |_,_, .tuple h1,_,h=>by cases h with|tuple k1=>exact .tuple (go h1 k1)
where
 go {l m:List Value}:F2 (Rn ν n) l m->∀{m':List Value},F2 (VR μ1) m m'->F2 (VR μ') l m'
 | .nil,_,h=>by cases h;exact .nil
 | .cons h1 t1,_,h=>by cases h with|cons k1 k2=>exact .cons (Rn.vr hμ h1 k1) (go t1 k2)
theorem VR.narrow {μ μ1 μ':Mu}(hμ: ∀b g g1,μ b=Y g->μ1 b=Y g1->μ' b=Y g1): ∀{v u:Value},VR μ v u->∀{u':Value},VR μ1 v u'->VR μ' v u'
 |_,_, .bool b,_,h=>by cases h;exact .bool b
 |_,_, .int k m,_,h=>by cases h;exact .int k m
 |_,_, .string s,_,h=>by cases h;exact .string s
 |_,_, .nilp,_,h=>by cases h;exact .nilp
 |_,_, .ptr hb,_,h=>by cases h with|ptr h1=>exact .ptr ⟨hμ _ _ _ hb.1 h1.1,h1.2⟩
 |_,_, .nils,_,h=>by cases h;exact .nils
 |_,_, .slice hb _ _ _,_,h=>by cases h with
  |slice h1 h2 h3 h4=>exact .slice ⟨hμ _ _ _ hb.1 h1.1,h1.2⟩ h2 h3 h4
  |slice0 A' h1=>exact .slice0 _ ⟨hμ _ _ _ hb.1 h1.1,h1.2⟩
 |_,_, .slice0 A' hb,_,h=>by cases h with
  |slice h1 h2 h3 h4=>exact .slice ⟨hμ _ _ _ hb.1 h1.1,h1.2⟩ h2 h3 h4
  |slice0 A' h1=>exact .slice0 _ ⟨hμ _ _ _ hb.1 h1.1,h1.2⟩
 |_,_, .sliceX hb _,_,h=>by cases h with
  |sliceX h1 h2=>exact .sliceX ⟨hμ _ _ _ hb.1 h1.1,h1.2⟩ h2
  |sliceX0 A' h1=>exact .sliceX0 _ ⟨hμ _ _ _ hb.1 h1.1,h1.2⟩
 |_,_, .sliceX0 A' hb,_,h=>by cases h with
  |sliceX h1 h2=>exact .sliceX ⟨hμ _ _ _ hb.1 h1.1,h1.2⟩ h2
  |sliceX0 A' h1=>exact .sliceX0 _ ⟨hμ _ _ _ hb.1 h1.1,h1.2⟩
 |_,_, .nilf,_,h=>by cases h;exact .nilf
 |_,_, .func h1 h2,_,h=>by cases h with|func k1 k2=>exact .func (go h1 k1) (go h2 k2)
 |_,_, .iter hb _,_,h=>by cases h with|iter k1 k2=>exact .iter (hμ _ _ _ hb k1) k2
 |_,_, .nili,_,h=>by cases h;exact .nili
 |_,_, .agg h1,_,h=>by cases h with|agg k1=>exact .agg (go h1 k1)
 |_,_, .tuple h1,_,h=>by cases h with|tuple k1=>exact .tuple (go h1 k1)
where
 go {l m:List Value}:F2 (VR μ) l m->∀{m':List Value},F2 (VR μ1) l m'->F2 (VR μ') l m'
 | .nil,_,h=>by cases h;exact .nil
 | .cons h1 t1,_,h=>by cases h with|cons k1 k2=>exact .cons (VR.narrow hμ h1 k1) (go t1 k2)
end
section
open Nat renaming lt_or_ge -> aB, lt_of_lt_of_le -> aD
open Go.RowKit
structure Weak (σ0 σ1:Hp)(r:Value)(σ':Hp)(r':Value)(ν:Nat->Nat):Prop where
 n:σ0.n<=σ'.n
 old: ∀b,b<σ0.n->ν b=b
 inj: ∀b b' x x',σ'.m b=Y x->σ'.m b'=Y x'->b≠b'->ν b≠ν b'
 blk: ∀b x',σ'.m b=Y x'->(σ0.m b=Y x'/\σ1.m b=Y x')∨
  (b<σ'.n/\∃x,σ1.m (ν b)=Y x/\x'.es=x.es/\(x'.own=Za->x.own=Za)/\F2 (Rn ν σ'.n) x'.cells (x.cells.take x'.cells.length))
 res:Rn ν σ'.n r' r
section
variable {P:Program} {f:FuncId} {S S':bx9}
theorem R.weak {P:Program}{B:Base P}{μ μ1:Mu}{σ σ1 σ':Hp}{w w':World}{r r':Value}{ν:Nat->Nat}(hR:R B μ σ w)(hR1:R B μ1 σ1 w')(hμ:μ.le μ1)(h:Weak σ σ1 r σ' r' ν):
  ∃μ',μ.le μ'/\R B μ' σ' w'/\∀rc,VR μ1 r rc->VR μ' r' rc:=by
 have hdom: ∀b g,μ b=Y g->b<σ.n:=λb g hb=>by
  rcases aB b σ.n with h1|h1
  .exact h1
  .rw[hR.fresh b h1]at hb;cases hb
 have hin: ∀b,b<σ'.n->(λb=>if b<σ'.n then μ1 (ν b)else Z) b=μ1 (ν b):=λb hb=>zE hb
 have hlt0: ∀b x,σ.m b=Y x->b<σ.n:=λb x hx=>by
  obtain⟨g,hg,_⟩:=hR.live b x hx;exact hdom b g hg
 have hnar: ∀b g g1,μ b=Y g->μ1 b=Y g1->(λb=>if b<σ'.n then μ1 (ν b)else Z) b=Y g1:=by
  intro b g g1 hb hb1;have h1:=hdom b g hb;rw[hin b (aD h1 h.n),h.old b h1];exact hb1
 refine⟨λb=>if b<σ'.n then μ1 (ν b)else Z,λb g hb=> ?_,⟨hR1.base,hR1.old,λb hb=>zF (by omega),λb x' hx'=> ?_,λb b' x x' g g' hx hx' hne ho hg hg'=> ?_, ?_⟩,λrc hrc=>h.res.vr hin hrc⟩
 .exact hnar b g g hb (hμ b g hb)
 .rcases h.blk b x' hx' with⟨h1,h2⟩|⟨h1,x,h2,h3,h4,h5⟩
  .obtain⟨g,hg,hl⟩:=hR1.live b x' h2;obtain⟨g0,hg0,hl0⟩:=hR.live b x' h1;have hgg:g=g0:=by have:=hμ b g0 hg0;rw[hg]at this;exact Option.some.inj this
   refine⟨g,hnar b g0 g hg0 hg,hl.lt,hl.es,λh0 i v hv=> ?_,hl.own,hl.iter,hl.bld⟩;obtain⟨u,hu,hvu⟩:=hl.cell h0 i v hv;obtain⟨u0,_,hvu0⟩:=hl0.cell (hgg▸h0) i v hv;exact⟨u,hu,hvu0.narrow hnar hvu⟩
  .obtain⟨g,hg,hl⟩:=hR1.live (ν b) x h2
   have hlen:x'.cells.length<=x.cells.length:=by
    have:=h5.length;rw[List.length_take]at this;omega
   refine⟨g,by simp only[zE h1];exact hg,hl.lt,hl.es.trans h3.symm,λh0 i v hv=> ?_,λh0 ho=> ?_,λs hs=> ?_,λhs=> ?_⟩
   .obtain⟨u,hu,hvu⟩:=h5.get i v hv
    have hi:i<x'.cells.length:=by
     rcases aB i x'.cells.length with h6|h6
     .exact h6
     .rw[List.getElem?_eq_none h6]at hv;cases hv
    rw[List.getElem?_take,zE hi]at hu;obtain⟨u',hu',huu⟩:=hl.cell h0 i u hu;exact⟨u',hu',hvu.vr hin huu⟩
   .obtain⟨k1,k2,k3⟩:=hl.own h0 (h4 ho);exact⟨k1,by omega,k3⟩
   .obtain⟨k1,p,k2,k3⟩:=hl.iter s hs;refine⟨k1,p, ?_,k3⟩;rw[k2]at h5;have hl5:=h5.length;cases hx':x'.cells with
    |nil=>rfl
    |cons v r=>
     rw[hx']at h5 hl5;cases hc:x.cells.length with
     |zero=>rw[hc]at h5;simp at h5;cases h5
     |succ n=>
      rw[hc]at h5;simp at h5;cases h5 with
      |cons h6 h7=>
       cases h7;cases h6;simp
   .obtain⟨k1,p,s,k0,k2,k3⟩:=hl.bld hs;refine⟨k1,p,s,k0, ?_,k3⟩;rw[k2]at h5;have hl5:=h5.length;cases hx':x'.cells with
    |nil=>rfl
    |cons v r=>
     rw[hx']at h5 hl5;cases hc:x.cells.length with
     |zero=>rw[hc]at h5;simp at h5;cases h5
     |succ n=>
      rw[hc]at h5;simp at h5;cases h5 with
      |cons h6 h7=>
       cases h7;cases h6;simp
 .have key: ∀b x,σ'.m b=Y x->∃y,σ1.m (ν b)=Y y/\(x.own=Za->y.own=Za)/\b<σ'.n:=by
   intro b x hx;rcases h.blk b x hx with⟨h1,h2⟩|⟨h1,y,h2,_,h4,_⟩
   .have hb:=hlt0 b x h1;exact⟨x,by rw[h.old b hb];exact h2,id,aD hb h.n⟩
   .exact⟨y,h2,h4,h1⟩
  obtain⟨y,hy,hyo,hb⟩:=key b x hx;obtain⟨y',hy',_,hb'⟩:=key b' x' hx';simp only[zE hb]at hg;simp only[zE hb']at hg';exact hR1.inj (ν b) (ν b') y y' g g' hy hy' (h.inj b b' x x' hx hx' hne) (hyo ho) hg hg'
 .have key: ∀b x g,σ'.m b=Y x->(λb=>if b<σ'.n then μ1 (ν b)else Z) b=Y g->∃y,σ1.m (ν b)=Y y/\μ1 (ν b)=Y g:=by
   intro b x g hx hg
   have hb:b<σ'.n:=by
    rcases aB b σ'.n with h|h
    .exact h
    .simp only[zF (show¬b<σ'.n by omega)]at hg;cases hg
   simp only[zE hb]at hg;rcases h.blk b x hx with⟨h1,h2⟩|⟨_,y,h2,_⟩
   .exact⟨x,by rw[h.old b (hlt0 b x h1)];exact h2,hg⟩
   .exact⟨y,h2,hg⟩
  intro b x g hx hg hi k hk b' x' g' hx' hg';obtain⟨y,h1,h2⟩:=key b x g hx hg;obtain⟨y',h3,h4⟩:=key b' x' g' hx' hg';obtain⟨m1,m2⟩:=hR1.sep (ν b) y g h1 h2 hi k hk (ν b') y' g' h3 h4;exact⟨m1,λhne=>m2 (h.inj b' b x' x hx' hx hne)⟩
theorem Sim.weak (h:Sim P f S)(hS: ∀args σ K,S' args σ K->S args σ λr1 σ1=> ∃ν σ' r',Weak σ σ1 r1 σ' r' ν/\K r' σ'):Sim P f S':=by
 intro B μ σ w args cargs K hk hR ha;obtain⟨hc,hcalls⟩:=h B μ σ w args cargs _ (hS args σ K hk) hR ha;refine⟨hc,hcalls.mono λx w' hx=> ?_⟩;obtain⟨r1,σ1,rc,μ1,rfl,⟨ν,σ',r',hw,hK⟩,h1,h2,h3,h4,_⟩:=hx;obtain⟨μ',k1,k2,k3⟩:=hR.weak h2 h1 hw;exact⟨r',σ',rc,μ',rfl,hK,k1,k2,k3 rc h3,h4,rfl⟩
end
def Ext (σ σ1:Hp):Prop:=σ.n<=σ1.n/\∀b,b<σ.n->σ1.m b=σ.m b
theorem Ext.refl (σ:Hp):Ext σ σ:=⟨Nat.le_refl _,λ_ _=>rfl⟩
theorem Ext.trans {a b c:Hp}(h:Ext a b)(k:Ext b c):Ext a c:=⟨Nat.le_trans h.1 k.1,λx hx=>(k.2 x (aD hx h.1)).trans (h.2 x hx)⟩
theorem Ext.add {σ σ1:Hp}(h:Ext σ σ1)(x:Blk):Ext σ (σ1.add x):=by
 refine⟨Nat.le_succ_of_le h.1,λb hb=> ?_⟩;have:b≠σ1.n:=by have:=h.1;omega
 simp only[Hp.add,zF this];exact h.2 b hb
theorem Ext.set {σ σ1:Hp}(h:Ext σ σ1){b:Nat}(hb:σ.n<=b)(x:Option Blk):Ext σ (σ1.set b x):=by
 refine⟨h.1,λb' hb'=> ?_⟩;have:b'≠b:=by omega
 simp only[Hp.set,zF this];exact h.2 b' hb'
def Hp.Ok (σ:Hp):Prop:= ∀b x,σ.m b=Y x->b<σ.n
def Fin (σ:Hp)(K:Value->Hp->Prop)(r1:Value)(σ1:Hp):Prop:= ∃ν σ' r',Weak σ σ1 r1 σ' r' ν/\K r' σ'
section
variable {P:Program} {f:FuncId} {S S':bx9} {σ σ1:Hp} {K:Value->Hp->Prop}
theorem Sim.lt (h:Sim P f λargs σ K=>σ.Ok/\S args σ K):Sim P f S:=by
 intro B μ σ w args cargs K hk hR ha;refine h B μ σ w args cargs K ⟨λb x hx=> ?_,hk⟩ hR ha;obtain⟨g,hg,_⟩:=hR.live b x hx;rcases aB b σ.n with h1|h1
 .exact h1
 .rw[hR.fresh b h1]at hg;cases hg
theorem Sim.fin (h:Sim P f S)(hS: ∀args σ K,σ.Ok->S' args σ K->S args σ (Fin σ K)):Sim P f S':=
 Sim.lt (Sim.weak h λargs σ K ⟨hlt,hk⟩=>hS args σ K hlt hk)
theorem Fin.plain {r:Value}(h:Ext σ σ1)(hlt:σ.Ok)(hr:Rn id σ.n r r)(hK:K r σ):Fin σ K r σ1:=
 ⟨id,σ,r,⟨Nat.le_refl _,λ_ _=>rfl,λ_ _ _ _ _ _ hne=>hne,λb x' hx'=> .inl ⟨hx',(h.2 b (hlt b x' hx')).trans hx'⟩,hr⟩,hK⟩
theorem Fin.all {r:Value}(hn:σ.n<=σ1.n)(h1:σ1.Ok)(hr:Rn id σ1.n r r)(hc: ∀b x,σ1.m b=Y x->F2 (Rn id σ1.n) x.cells x.cells)(hK:K r σ1):Fin σ K r σ1:=
 ⟨id,σ1,r,⟨hn,λ_ _=>rfl,λ_ _ _ _ _ _ hne=>hne,λb x' hx'=> .inr ⟨h1 b x' hx',x',hx',rfl,id,by rw[List.take_length];exact hc b x' hx'⟩,hr⟩,hK⟩
theorem Fin.new1 {r r':Value}{b:Nat}{x x':Blk}(h:Ext σ σ1)(hlt:σ.Ok)(hb:σ.n<=b)(hx:σ1.m b=Y x)(he:x'.es=x.es)(ho:x'.own=Za->x.own=Za)(hc:F2 (Rn (λi=>if i=σ.n then b else i) (σ.n+1)) x'.cells (x.cells.take x'.cells.length))
  (hr:Rn (λi=>if i=σ.n then b else i) (σ.n+1) r' r) (hK:K r' (σ.add x')):Fin σ K r σ1:=by
 refine⟨λi=>if i=σ.n then b else i,σ.add x',r',⟨Nat.le_succ _,λi hi=>zF (by omega),λi i' y y' hy hy' hne=> ?_,λi y hy=> ?_,hr⟩,hK⟩
 .have hold: ∀i y,(σ.add x').m i=Y y->i≠σ.n->i<σ.n:=by
   intro i y hy hi;simp only[Hp.add,zF hi]at hy;exact hlt i y hy
  by_cases h1:i=σ.n
  .have h2:i'≠σ.n:=λe=>hne (h1.trans e.symm)
   have:=hold i' y' hy' h2;simp only[zE h1,zF h2];omega
  .have:=hold i y hy h1;by_cases h2:i'=σ.n
   .simp only[zF h1,zE h2];omega
   .simp only[zF h1,zF h2];exact hne
 .by_cases h1:i=σ.n
  .subst h1;simp only[Hp.add,zE trivial]at hy;injection hy with hy
   subst hy;exact .inr ⟨Nat.lt_succ_self _,x,by simp only[zE trivial];exact hx,he,ho,hc⟩
  .simp only[Hp.add,zF h1]at hy;exact .inl ⟨hy,(h.2 i (hlt i y hy)).trans hy⟩
end
section
variable {T:gr}
end
abbrev ec :=List Value->Hp->Value->Hp->Prop
def sp (S:ec):bx9:=λargs σ K=> ∃r σ',S args σ r σ'/\K r σ'
abbrev cK2 :=FuncId->ec
def sps (U:cK2):gr:=λf=>sp (U f)
def cy4 (P:Program)(U:cK2):Prop:= ∀f,Sim P f (sps U f)
def cK2.put (U:cK2)(f:FuncId)(S:ec):cK2:=λg=>if g=f then S else U g
def dR6 :cK2:=λ_ _ _ _ _=>False
theorem cy4.none (P:Program):cy4 P dR6:=λf B μ σ w args cargs K h=>by
 obtain⟨_,_,h,_⟩:=h;exact h.elim
theorem cy4.put {P:Program}{U:cK2}(h:cy4 P U){f:FuncId}{S:ec}(hS:Sim P f (sp S)):cy4 P (U.put f S):=by
 intro g;show Sim P g (sp (if g=f then S else U g));by_cases e:g=f
 .subst e;rw[zE rfl];exact hS
 .rw[zF e];exact h g
end
section
section
variable {T:gr} {Q:AExit->cb->Hp->Prop} {q:cb->Hp->Prop} {e:cb} {σ σ':Hp} {a b:AC} {k:Value->Hp->Prop} {v:Value} {K:Value->Hp->Prop}
theorem cP2 {d t:Nat}(h:t≠d):(e.put d v) t=e t:=zF h
def Hp.load (σ:Hp):Value->Option Value
 | .pointer (Y ⟨b,o,Z⟩)=>match σ.m b with
  |some x=>x.cells[o]?
  |none=>Z
 |_=>Z
def Hp.loadN (σ:Hp)(n:Nat):Value->Option Value
 | .pointer (Y ⟨b,o,Z⟩)=>match σ.m b with
  |some x=>(vk x o n).map λcs=> .agg cs.toArray
  |none=>Z
 |_=>Z
theorem run_load {x:Operand}:(AOp.load x).run e σ=(σ.load (e.ev x)).map λv=>(v,σ):=by
 simp only[AOp.run];generalize e.ev x=v;cases v<;>try rfl
 rename_i p;rcases p with _|⟨b,o,sp⟩
 .rfl
 .cases sp with
  |some s=>rfl
  |none=>
   simp only[Hp.load];cases σ.m b<;>rfl
def Hp.store (σ:Hp)(n:Nat)(a x:Value):Option Hp:=match a with
 | .pointer (Y ⟨b,o,Z⟩)=>if(cellsOf x).length=n then(match σ.m b with
  |some blk=>(af2 blk o (cellsOf x)).map λy=>σ.set b (Y y)
  |none=>Z)else Z
 |_=>Z
theorem run_store {n:Nat}{x y:Operand}:(AOp.store n x y).run e σ=(σ.store n (e.ev x) (e.ev y)).map λσ'=>(undef,σ'):=by
 simp only[AOp.run];generalize e.ev x=v;cases v<;>try rfl
 rename_i p;rcases p with _|⟨b,o,sp⟩
 .rfl
 .cases sp with
  |some s=>rfl
  |none=>
   simp only[Hp.store];by_cases h:(cellsOf (e.ev y)).length=n
   .simp only[h,if_true];cases σ.m b with
    |none=>rfl
    |some blk=>
     simp only;cases af2 blk o (cellsOf (e.ev y))<;>rfl
   .simp only[h,if_false];rfl
end
end
section
def dE6 :gr:=λ_ _ _ _=>False
def gr.put (T:gr)(f:FuncId)(s:bx9):gr:=λg=>if g=f then s else T g
def bC7 (s:bx9):Prop:= ∀args σ (K K':Value->Hp->Prop),(∀r σ',K r σ'->K' r σ')->s args σ K->s args σ K'
structure Known (P:Program)(T:gr):Prop where
 mono:xe T
 sim: ∀f,Sim P f (T f)
theorem Known.none (P:Program):Known P dE6:=⟨λ_ _ _ _ _ _ h=>h,λf=>Sim.none P f⟩
theorem Known.put {P:Program}{T:gr}(h:Known P T){f:FuncId}{s:bx9}(hm:bC7 s)(hs:Sim P f s):Known P (T.put f s):=by
 constructor
 .intro g args σ K K' hk hg;simp only[gr.put]at hg⊢;split
  .rename_i he;rw[zE he]at hg;exact hm _ _ _ _ hk hg
  .rename_i he;rw[zF he]at hg;exact h.mono _ _ _ _ _ hk hg
 .intro g;show Sim P g (if g=f then s else T g);by_cases e:g=f
  .subst e;rw[zE rfl];exact hs
  .rw[zF e];exact h.sim g
theorem bC7.sp (S:ec):bC7 (sp S):=λ_ _ _ _ hk ⟨r,σ',h1,h2⟩=>⟨r,σ',h1,hk r σ' h2⟩
theorem bC7.wpF {T:gr}(hT:xe T)(a:AFn):bC7 (wpF T a):=by
 intro args σ K K' hk h;refine⟨h.1,gu hT _ _ _ (λx e s hx=> ?_) _ _ h.2⟩;cases x with
 |exit id=>exact hx
 |normal=>
  simp only at hx⊢;split at hx
  .exact hk _ _ hx
  .exact hx
 |ret=>
  simp only at hx⊢;split at hx
  .exact hk _ _ hx
  .exact hx
theorem Known.fn {P:Program}{T:gr}(h:Known P T){f:FuncId}{af:AFn}(ht:cH2 P f=Y af):Sim P f (wpF T af):=cT7 ht h.mono h.sim
theorem Known.rel {P:Program}{T:gr}(hU:Known P T){f:FuncId}{af:AFn}{S:ec}(h:cH2 P f=Y af)
  (hS: ∀args σ r σ',σ.Ok->S args σ r σ'->wpF T af args σ (Fin σ λr1 σ1=>r1=r/\σ1=σ')):Sim P f (sp S):=by
 refine Sim.fin (hU.fn h) λargs σ K hlt hk=> ?_
 obtain⟨r,σ',h1,h2⟩:=hk;refine bC7.wpF hU.mono af _ _ _ _ ?_ (hS args σ r σ' hlt h1);rintro r1 σ1 ⟨ν,s',r',hw,rfl,rfl⟩;exact⟨ν,s',r',hw,h2⟩
section
variable {T:gr} {Q:AExit->cb->Hp->Prop} {e:cb} {σ:Hp} {b:AC} {I:cb->Hp->Prop} {m:cb->Hp->Nat} {e0:cb} {σ0:Hp}
end
section
variable {k:IntKind} {a b:Int}
end
section
variable {a b c d:Value} {l:List Value}
end
section
variable {σ:Hp} {x y:Blk} {i b o:Nat} {z:Option Blk}
theorem set_set {z':Option Blk}:(σ.set b z).set b z'=σ.set b z':=by
 simp only[Hp.set,Hp.mk.injEq,and_true]
 funext i
 split<;>rfl
end
section
variable {e:cb} {σ:Hp} {rs:List ARes} {t n b o:Nat}
def two (v:Option Value)(vs:Option (List Value)):Option (List Value):=match v,vs with
 |some v,Y vs=>Y (v::vs)
 |_,_=>Z
end
section
variable {T:gr} {e:cb} {σ:Hp} {k:Value->Hp->Prop} {q:cb->Hp->Prop}
def dE8 (n:Nat):Value->Option Value
 | .pointer (Y ⟨b,o,Z⟩)=>Y (.pointer (Y ⟨b,o+n,Z⟩))
 |_=>Z
def dD2 (es:Nat)(k:Value->Hp->Prop)(σ:Hp):Value->Value->Prop
 | .slice (Y ⟨b,o,Z⟩) n _, .int _ j=>(0<=j/\j<n)/\k (.pointer (Y ⟨b,o+j.toNat*es,Z⟩)) σ
 |_,_=>False
def cU5 (ln es:Nat)(k:Value->Hp->Prop)(σ:Hp):Value->Value->Prop
 | .pointer (Y ⟨b,o,Z⟩), .int _ j=>(0<=j/\j<ln)/\k (.pointer (Y ⟨b,o+j.toNat*es,Z⟩)) σ
 |_,_=>False
def fieldV (fo n:Nat)(agg:Bool):Value->Option Value
 | .agg cs=>if agg=Za then Y (.agg (cs.extract fo (fo+n)))else cs[fo]?
 |_=>Z
end
section
variable {T:gr} {q:cb->Hp->Prop} {r:List SItem} {e:cb} {σ:Hp} {i:Nat} {d:Option Nat} {kp:Bool} {is:List Nat} {chk:List (Nat×(Hp->Prop))}
end
end
section
def e0 :cb:=λ_=>undef
section
variable {T:gr} {e:cb} {σ:Hp} {k:Value->Hp->Prop}
end
section
variable {σ:Hp} {x:Blk} {i b:Nat} {z:Option Blk}
end
end
section
open IntKind renaming bits -> bB, max -> bD, min -> cB, signed -> cD
open List renaming getElem?_eq_none -> aB, getElem?_eq_getElem -> dB
open Nat renaming lt_or_ge -> aD
open Option renaming map_some -> dD
open Go.RowKit (Below)
structure Row where
 c:Nat
 o:Nat
 ext:Nat
 es:Nat
 cells:List Value
def cZ8 (P:Program)(w:World):Prop:=P.globalNamed "internal/strconv.uint64pow10" ≠Z->Lib.TabIs P w "internal/strconv.uint64pow10" .u64 Lib.pow10Tab
def Base.of {P:Program}(w:World)(hT:cZ8 P w):Base P:=⟨w.heap.size,λb=>w.heap[b]?,λw' _ hh hne=>by
 have h:=hT hne;unfold Lib.TabIs World.var? at h⊢;cases hg:P.globalNamed "internal/strconv.uint64pow10" with
 |none=>exact(hne hg).elim
 |some g=>
  simp only[hg,zG]at h⊢
  have hlt:g<w.heap.size:=by
   rcases aD g w.heap.size with h'|h'
   .exact h'
   .rw[Array.getElem?_eq_none h']at h;cases h
  rw[hh g hlt]
  exact h⟩
def sW (rows:List Row):Mu:=λi=>(rows[i]?).map λr=>⟨r.c,r.o,r.ext,r.es,0,Z⟩
def su (size:Nat)(rows:List Row):Hp:={m:=λi=>(rows[i]?).bind λr=>if r.c<size then Y ⟨r.cells,Zb,r.es⟩else Z,n:=rows.length}
theorem dS7 {P:Program}{w:World}(hT:cZ8 P w){rows:List Row}(h: ∀r∈rows,∀(i:Nat) (v:Value),r.cells[i]?=Y v->∃v',w.cell? ⟨r.c,r.o+i,Z⟩=Y v'/\VR (sW rows) v v'):
  R (Base.of w hT) (sW rows) (su w.heap.size rows) w:=by
 refine⟨Nat.le_refl _,λ_ _=>rfl,λb hb=> ?_,λb x hx=> ?_,λb b' x x' g g' hx _ _ ho=> ?_,λb x g _ hg hi _ _=>(by
  simp only[sW]at hg;cases hr:rows[b]? with
  |none=>rw[hr]at hg;cases hg
  |some r=>rw[hr]at hg;injection hg with hg;subst hg;cases hi)⟩
 .simp only[sW,aB hb,Option.map_none]
 .simp only[su]at hx;cases hr:rows[b]? with
  |none=>rw[hr]at hx;cases hx
  |some r=>
   rw[hr,zG]at hx;split at hx
   .rename_i hlt;injection hx with hx
    subst hx;refine⟨⟨r.c,r.o,r.ext,r.es,0,Z⟩,by simp only[sW,hr,dD],hlt,rfl,λ_ i v hv=>h r (List.mem_of_getElem? hr) i v hv,λ_ ho=>(by cases ho),λ_ hs=>(by cases hs),λhs=>by cases hs⟩
   .cases hx
 .simp only[su]at hx;cases hr:rows[b]? with
  |none=>rw[hr]at hx;cases hx
  |some r=>
   rw[hr,zG]at hx;split at hx
   .injection hx with hx
    subst hx;cases ho
   .cases hx
theorem dH0 {size:Nat}{rows:List Row}:(su size rows).Ok:=by
 intro b x hx;rcases aD b rows.length with h|h
 .exact h
 .simp only[su,aB h,Option.bind_none]at hx;cases hx
theorem dR0 {P:Program}{f:FuncId}{S:bx9}(hs:Sim P f S){w:World}(hT:cZ8 P w){rows:List Row}{args:List Value}{cargs:Array Value}
  (hrows: ∀r∈rows,∀(i:Nat) (v:Value),r.cells[i]?=Y v->∃v',w.cell? ⟨r.c,r.o+i,Z⟩=Y v'/\VR (sW rows) v v')
  (hargs:F2 (VR (sW rows)) args cargs.toList) (h:S args (su w.heap.size rows) λr _=>r= .bool Za):
  Calls P f cargs w λe w'=>e= .returned (.bool Za)/\Below w.heap.size w w':=by
 refine(hs _ _ _ w args cargs _ h (dS7 hT hrows) hargs).2.mono λx w' hx=> ?_
 obtain⟨r,σ',r',μ',rfl,rfl,_,_,hr,hb,_⟩:=hx;cases hr;exact⟨rfl,hb⟩
def Sl (k:IntKind)(σ:Hp)(v:Value)(l:Zd):Prop:=
 (v= .slice Z 0 0/\l=[])∨∃b c rest,v= .slice (Y ⟨b,0,Z⟩) l.length c/\l.length<=c/\c<=maxLen/\b<σ.n/\(l≠[]->σ.m b=Y ⟨(l++rest).map (.int k),Zb,1⟩)
def bC6 (k:IntKind)(w:World)(a:Option Addr)(len cap:Nat)(zs:Zd):Prop:=
 (a=Z/\len=0/\cap=0/\zs=[])∨
 ∃x,a=Y x/\len<=cap/\cap<=maxLen/\zs.length=cap/\(∀i,i<zs.length->w.cell? (x.add i)=Y (.int k (zs.getD i 0)))/\∀n∈zs,(Lit.int k n).wf=Za
def bu9 (k:IntKind)(a:Option Addr)(cap:Nat)(zs:Zd):Row:=match a with
 |some x=>⟨x.block,x.off,cap,1,zs.map (.int k)⟩
 |none=>⟨0,0,0,1,[]⟩
def dt9 (k:Nat)(a:Option Addr)(len cap:Nat):Value:=match a with
 |some _=> .slice (Y ⟨k,0,Z⟩) len cap
 |none=> .slice Z 0 0
section
variable {k:IntKind} {w:World} {a:Option Addr} {len cap:Nat} {zs:Zd} {rows:List Row} {j:Nat}
theorem cp6 {x:Addr}{v:Value}(h:w.cell? x=Y v):x.block<w.heap.size:=by
 unfold World.cell? at h;split at h
 .rename_i hb;exact(Array.getElem?_eq_some_iff.1 hb).1
 .cases h
theorem bf8 {x:Addr}{v:Value}(h:w.cell? (x.add 0)=Y v):x.spot=Z:=by
 have:=World.cell?_spot h;simpa[Addr.add]using this
theorem ao1 {x:Addr}{i:Nat}{v:Value}(hs:x.spot=Z)(h:w.cell? (x.add i)=Y v):w.cell? ⟨x.block,x.off+i,Z⟩=Y v:=by
 obtain⟨b,o,s⟩:=x;simp only at hs;subst hs
 have:(⟨b,o,Z⟩:Addr).add i=⟨b,o+i,Z⟩:=by
  simp only[Addr.add];split
  .rename_i h0;subst h0;rfl
  .rfl
 rwa [this]at h
theorem bC6.cells (h:bC6 k w a len cap zs){i:Nat}{v:Value}(hv:(bu9 k a cap zs).cells[i]?=Y v):
  ∃v',w.cell? ⟨(bu9 k a cap zs).c,(bu9 k a cap zs).o+i,Z⟩=Y v'/\VR (sW rows) v v':=by
 rcases h with⟨rfl,rfl,rfl,rfl⟩|⟨x,rfl,hl,hm,hz,hc,hw⟩
 .simp[bu9]at hv
 .simp only[bu9]at hv⊢;simp only[List.getElem?_map]at hv
  have hi:i<zs.length:=by
   rcases aD i zs.length with h|h
   .exact h
   .rw[aB h]at hv;cases hv
  rw[dB hi,dD]at hv;injection hv with hv
  subst hv;refine⟨_,ao1 (bf8 (hc 0 (by omega))) (hc i hi), ?_⟩;have:zs.getD i 0=zs[i]:=by simp[List.getD,dB hi]
  rw[this];exact .int _ _
theorem bC6.sl (h:bC6 k w a len cap zs)(hr:rows[j]?=Y (bu9 k a cap zs)):Sl k (su w.heap.size rows) (dt9 j a len cap) (zs.take len):=by
 rcases h with⟨rfl,rfl,rfl,rfl⟩|⟨x,rfl,hl,hm,hz,hc,hw⟩
 .exact .inl ⟨rfl,by simp⟩
 .have hlen:(zs.take len).length=len:=by rw[List.length_take];omega
  refine .inr ⟨j,cap,zs.drop len,by rw[hlen];rfl,by omega,hm, ?_,λhne=> ?_⟩
  .rcases aD j rows.length with h|h
   .exact h
   .rw[aB h]at hr;cases hr
  .have hz0:0<zs.length:=by
    rcases Nat.eq_zero_or_pos zs.length with h|h
    .rw[List.length_eq_zero_iff]at h;subst h;simp at hne
    .exact h
   have hlt:x.block<w.heap.size:=cp6 (x:=⟨x.block,x.off+0,Z⟩) (ao1 (bf8 (hc 0 hz0)) (hc 0 hz0));simp only[su,hr,zG,bu9,zE hlt,List.take_append_drop]
theorem bC6.wf (h:bC6 k w a len cap zs): ∀n∈zs.take len,(Lit.int k n).wf=Za:=by
 rcases h with⟨rfl,rfl,rfl,rfl⟩|⟨x,rfl,hl,hm,hz,hc,hw⟩
 .simp
 .exact λn hn=>hw n (List.mem_of_mem_take hn)
end
theorem dT9 {n:Int}(h:(Lit.int .i64 n).wf=Za): -9223372036854775808<=n/\n<=9223372036854775807:=by
 simpa[Lit.wf,cB,bD,cD,bB]using h
theorem dU0 {n:Int}(h:(Lit.int .u64 n).wf=Za):0<=n/\n<=18446744073709551615:=by
 simpa[Lit.wf,cB,bD,cD,bB]using h
theorem ec1 {n:Int}(h:(Lit.int .u8 n).wf=Za):0<=n/\n<=255:=by
 simpa[Lit.wf,cB,bD,cD,bB]using h
end
end Go.Ab
