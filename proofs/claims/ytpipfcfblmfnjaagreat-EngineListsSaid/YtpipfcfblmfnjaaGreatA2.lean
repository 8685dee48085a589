/- A part of the proofs of this claim: what functions of the program answer on an abstract machine, and plain laws. No condition. -/
import Derived.Test.YtpipfcfblmfnjaaGreatA1
import Derived.Laws.BytesString
import Derived.Laws.RangeAny
import Derived.Laws.IdiomStrings
import Derived.Laws.Cover4
import Derived.Lib.OthersKept
import Derived.IntWalk
import Derived.Below
set_option linter.unusedVariables false
set_option linter.unusedSimpArgs false
set_option linter.unusedSectionVars false
namespace Go.Ab
section
open Go.RowKit
section
variable {P:Program} {o:Oper} {a:Act} {w w':World} {B:Base P} {N:Nat} {μ:Mu} {e:dM} {σ σ':Hp} {v:Value}
theorem R.iter (h:R B μ σ w)(s:ByteArray):R B (μ.add σ.n ⟨w.heap.size,0,0,1,0,some (.string s)⟩) (σ.add ⟨[.int .i64 0],true,1⟩) (w.iter s 0)∧μ.le (μ.add σ.n ⟨w.heap.size,0,0,1,0,some (.string s)⟩):=by
 have hf:μ σ.n=none:=h.fresh _ (Nat.le_refl _);have hle':μ.le (μ.add σ.n ⟨w.heap.size,0,0,1,0,some (.string s)⟩):=Mu.le_add hf
 have old: ∀b x,b≠σ.n→(σ.add ⟨[.int .i64 0],true,1⟩).m b=some x→σ.m b=some x:=by
  intro b x hb hx;simpa[Hp.add,hb]using hx
 have new: ∀x,(σ.add ⟨[.int .i64 0],true,1⟩).m σ.n=some x→x=⟨[.int .i64 0],true,1⟩:=by
  intro x hx;simp[Hp.add]at hx;exact hx.symm
 have oldlt: ∀b x g,σ.m b=some x→μ b=some g→g.c<w.heap.size:=fun b x g hx hg=>(h.get hx hg).lt
 have hsz:(w.iter s 0).heap.size=w.heap.size+1:=by simp[World.iter]
 refine⟨⟨by rw[hsz];exact Nat.le_succ_of_le h.base,fun k hk=>(Below.heap_alloc w _ _ (Nat.lt_of_lt_of_le hk h.base)).trans (h.old k hk),fun b hb=> ?_,fun b x hx=> ?_,fun b b' x x' g g' hx hx' hne ho hg hg'=> ?_, ?_⟩,hle'⟩
 ·have:σ.n+1≤b:=hb;unfold Mu.add;rw[zF (by omega)];exact h.fresh b (by omega)
 ·by_cases hb:b=σ.n
  ·subst hb;obtain rfl:=new x hx
   exact⟨⟨w.heap.size,0,0,1,0,some (.string s)⟩,by simp[Mu.add],⟨by rw[hsz];exact Nat.lt_succ_self _,rfl,fun h0=>(by cases h0),fun h0=>(by cases h0),fun s' hs=>by
    injection hs with hs
    injection hs with hs
    subst hs
    exact⟨h.base,0,rfl,World.iter_heap w s 0⟩,fun hs=>by injection hs with hs;cases hs⟩⟩
  ·have hx':=old b x hb hx;obtain⟨g,h1,h2⟩:=h.live b x hx';exact⟨g,hle' _ _ h1,(h2.mono hle').kept (by rw[hsz];exact Nat.le_succ _) (Below.heap_alloc w _ _ h2.lt) (fun hi k hk=>Below.heap_alloc w _ _ (h.buf hx' h1 hi hk).2.1)⟩
 ·by_cases hb:b=σ.n
  ·subst hb;have hb':b'≠σ.n:=fun e=>hne e.symm
   have:g.c=w.heap.size:=by simp[Mu.add]at hg;rw[←hg]
   have h2:μ b'=some g':=by simpa[Mu.add,hb']using hg'
   have:=oldlt b' x' g' (old _ _ hb' hx') h2;omega
  ·have h1:μ b=some g:=by simpa[Mu.add,hb]using hg
   have hx1:=old b x hb hx;by_cases hb':b'=σ.n
   ·subst hb';have:g'.c=w.heap.size:=by simp[Mu.add]at hg';rw[←hg']
    have:=oldlt b x g hx1 h1;omega
   ·have h2:μ b'=some g':=by simpa[Mu.add,hb']using hg'
    exact h.inj b b' x x' g g' hx1 (old _ _ hb' hx') hne ho h1 h2
 ·refine h.sep.of (fun b x g hx hg=> ?_) (fun b x g hx hg hi _=> ?_)
  ·by_cases hb:b=σ.n
   ·subst hb;have e1:g=⟨w.heap.size,0,0,1,0,some (.string s)⟩:=by simp[Mu.add]at hg;exact hg.symm
    subst e1;exact .inr ⟨fun h0=>(by injection h0 with h0;cases h0),fun b1 x1 g1 k h1 h2 h3 h4 e=>by have:=(h.buf h1 h2 h3 h4).2.1;simp only at e;omega⟩
   ·exact .inl ⟨x,old b x hb hx,by simpa[Mu.add,hb]using hg⟩
  ·unfold qr;rw[show(w.iter s 0).heap[g.c]?=w.heap[g.c]? from Below.heap_alloc w _ _ (oldlt b x g hx hg)]
theorem R.step (h:R B μ σ w){b:Nat}{x:Blk}{g:G}{s:ByteArray}(hx:σ.m b=some x)(ho:x.own=true)(hg:μ b=some g)(hit:g.it=some (.string s))(q:Nat):
  R B μ (σ.set b (some ⟨[.int .i64 (q:Int)],true,x.es⟩)) (w.iterAt g.c s q):=by
 have hl:=h.get hx hg;obtain⟨o1,p,o3,o4⟩:=hl.iter s hit;have hother: ∀k,k≠g.c→(w.iterAt g.c s q).heap[k]?=w.heap[k]?:=fun k hk=>Lib.iterAt_other w _ k s q hk
 have hsz:(w.iterAt g.c s q).heap.size=w.heap.size:=Lib.iterAt_size w _ s q
 have old: ∀b' x',b'≠b→(σ.set b (some ⟨[.int .i64 (q:Int)],true,x.es⟩)).m b'=some x'→σ.m b'=some x':=by
  intro b' x' hb hx';simpa[Hp.set,hb]using hx'
 have new: ∀x',(σ.set b (some ⟨[.int .i64 (q:Int)],true,x.es⟩)).m b=some x'→x'=⟨[.int .i64 (q:Int)],true,x.es⟩:=by
  intro x' hx';simp[Hp.set]at hx';exact hx'.symm
 refine⟨by rw[hsz];exact h.base,fun k hk=>(hother k (by omega)).trans (h.old k hk),h.fresh,fun b' x' hx'=> ?_,fun b1 b2 x1 x2 g1 g2 h1 h2 hne hown hg1 hg2=> ?_, ?_⟩
 ·by_cases hb:b'=b
  ·subst hb;obtain rfl:=new x' hx'
   exact⟨g,hg,⟨by rw[hsz];exact hl.lt,hl.es,fun h0=>(by rw[hit]at h0;cases h0),fun h0=>(by rw[hit]at h0;cases h0),fun s' hs=>by
    rw[hit]at hs;injection hs with hs
    injection hs with hs
    subst hs
    exact⟨o1,q,rfl,Lib.iterAt_heap w _ s p q o4⟩,fun hs=>by rw[hit]at hs;injection hs with hs;cases hs⟩⟩
  ·have hx1:=old b' x' hb hx';obtain⟨g',h1,h2⟩:=h.live b' x' hx1;exact⟨g',h1,h.stays hx1 h1 (by rw[hsz];exact Nat.le_refl _) g.c (fun k hk _=>hother k hk) (fun e=>h.inj b b' x x' g g' hx hx1 (fun e=>hb e.symm) ho hg h1 e.symm) (fun hi hk=>((h.sep b' x' g' hx1 h1 hi _ hk b x g hx hg).1 rfl))⟩
 ·have keyown: ∀b' x',(σ.set b (some ⟨[.int .i64 (q:Int)],true,x.es⟩)).m b'=some x'→∃y,σ.m b'=some y∧y.own=x'.own:=by
   intro b' x' hx';by_cases hb:b'=b
   ·subst hb;obtain rfl:=new x' hx';exact⟨x,hx,ho⟩
   ·exact⟨x',old b' x' hb hx',rfl⟩
  obtain⟨y1,hy1,e1⟩:=keyown _ _ h1;obtain⟨y2,hy2,_⟩:=keyown _ _ h2;exact h.inj b1 b2 y1 y2 g1 g2 hy1 hy2 hne (e1.trans hown) hg1 hg2
 ·have oldl: ∀b' x',(σ.set b (some ⟨[.int .i64 (q:Int)],true,x.es⟩)).m b'=some x'→∃y,σ.m b'=some y:=by
   intro b' x' hx';by_cases hb:b'=b
   ·subst hb;exact⟨x,hx⟩
   ·exact⟨x',old b' x' hb hx'⟩
  refine h.sep.of (fun b' x' g' hx' hg'=> .inl (let⟨y,hy⟩:=oldl b' x' hx';⟨y,hy,hg'⟩)) (fun b' x' g' hx' hg' hi _=> ?_);have hne:b'≠b:=fun e=>by subst e;rw[hg]at hg';injection hg' with hg';subst hg';rw[hit]at hi;injection hi with hi;cases hi
  unfold qr;rw[hother _ (fun e=>h.inj b b' x x' g g' hx hx' (fun e=>hne e.symm) ho hg hg' e.symm)]
end
end
section
open Go.RowKit
section
variable {P:Program} {o:Oper} {a:Act} {w:World} {B:Base P} {N:Nat} {μ:Mu} {e:dM} {σ σ':Hp} {v:Value}
theorem aj5 {x y:Option Operand}(h:cw1 x=some y):x=y∧∀u,y=some u→eb u=true:=by
 unfold cw1 at h;split at h
 ·rename_i x;obtain⟨z,hz,h⟩:=Option.map_eq_some_iff.1 h;obtain⟨rfl,h2⟩:=cw hz;subst h;exact⟨rfl,fun u hu=>by injection hu with hu;exact hu▸h2⟩
 ·injection h with h
  subst h;exact⟨rfl,fun u hu=>by cases hu⟩
def AOp.isCall :AOp→Bool
 | .call _ _| .callv _ _=>true
 |_=>false
theorem cp0 {op:BinOp}{t t':TypeId}{x y:Operand}{ao:AOp}(ho:o.op= .binOp op t x y t')(h:bH3 P op t x y=some ao)(hr:ao.run e σ=some (v,σ'))(he:fj μ N e a.tmps)(hR:R B μ σ w):i9 P o a w B μ v σ':=by
 unfold bH3 at h;split at h
 ·split at h
  ·rename_i h1 h2;obtain⟨rfl,k1⟩:=cw h1;obtain⟨rfl,k2⟩:=cw h2;injection h with h
   subst h;exact cl1 ho k1 k2 hr he hR
  ·cases h
 ·split at h
  ·rename_i h1 h2;obtain⟨rfl,k1⟩:=cw h1;obtain⟨rfl,k2⟩:=cw h2;injection h with h
   subst h;exact cl1 ho k1 k2 hr he hR
  ·cases h
 ·split at h
  ·rename_i hf h1 h2;obtain⟨rfl,k1⟩:=cw h1;obtain⟨rfl,k2⟩:=cw h2;injection h with h
   subst h;exact yt ho rfl hf k1 k2 hr he hR
  ·rename_i hf h1 h2;obtain⟨rfl,k1⟩:=cw h1;obtain⟨rfl,k2⟩:=cw h2;injection h with h
   subst h;exact yt ho rfl hf k1 k2 hr he hR
  ·cases h
 ·split at h
  ·rename_i hf h1 h2;obtain⟨rfl,k1⟩:=cw h1;obtain⟨rfl,k2⟩:=cw h2;injection h with h
   subst h;exact yt ho rfl hf k1 k2 hr he hR
  ·rename_i hf h1 h2;obtain⟨rfl,k1⟩:=cw h1;obtain⟨rfl,k2⟩:=cw h2;injection h with h
   subst h;exact yt ho rfl hf k1 k2 hr he hR
  ·cases h
 ·rename_i hu;split at h
  ·rename_i hk h1 h2;obtain⟨rfl,k1⟩:=cw h1;obtain⟨rfl,k2⟩:=cw h2;injection h with h
   subst h;exact cl2 ho rfl hu hk k1 k2 hr he hR
  ·rename_i hk h1 h2;obtain⟨rfl,k1⟩:=cw h1;obtain⟨rfl,k2⟩:=cw h2;injection h with h
   subst h;exact cl2 ho rfl hu hk k1 k2 hr he hR
  ·cases h
 ·cases h
theorem cd7 {c:Call}{ao:AOp}(ho:o.op= .call c)(h:yI P c=some ao)(hc:ao.isCall=false)(hr:ao.run e σ=some (v,σ'))(he:fj μ N e a.tmps)(hR:R B μ σ w):i9 P o a w B μ v σ':=by
 unfold yI at h;split at h
 ·split at h
  ·obtain⟨x,_,h⟩:=Option.map_eq_some_iff.1 h;subst h;simp[AOp.isCall]at hc
  ·cases h
 ·obtain⟨x,_,h⟩:=Option.map_eq_some_iff.1 h;subst h;simp[AOp.isCall]at hc
 ·rename_i hcal;split at h
  ·rename_i ha ht;split at h
   ·rename_i hu1 hu2 h1 h2;obtain⟨rfl,k1⟩:=cw h1;obtain⟨rfl,k2⟩:=cw h2;split at h
    ·rename_i hn hb hz;split at h
     ·rename_i hzn;injection h with h
      subst h;exact bi1 ho hcal ha ht hu1 (.inl ⟨_,hu2⟩) hn hb hz hzn k1 k2 hr he hR
     ·cases h
    ·cases h
   ·rename_i hu1 hu2 h1 h2;obtain⟨rfl,k1⟩:=cw h1;obtain⟨rfl,k2⟩:=cw h2;split at h
    ·rename_i hn hb hz;split at h
     ·rename_i hzn;injection h with h
      subst h;exact bi1 ho hcal ha ht hu1 (.inr hu2) hn hb hz hzn k1 k2 hr he hR
     ·cases h
    ·cases h
   ·rename_i hu1 hu2 h1 h2;obtain⟨rfl,k1⟩:=cw h1;obtain⟨rfl,k2⟩:=cw h2;split at h
    ·rename_i hn hb hz;split at h
     ·rename_i hzn;injection h with h
      subst h;exact bN4 ho hcal ha ht hu1 ⟨_,hu2⟩ hn hb hz hzn.1 hzn.2 k1 k2 hr he hR
     ·cases h
    ·cases h
   ·cases h
  ·cases h
 ·rename_i hcal;split at h
  ·rename_i ha ht;split at h
   ·rename_i hu h1 h2;obtain⟨rfl,k1⟩:=cw h1;obtain⟨rfl,k2⟩:=cw h2;split at h
    ·rename_i hn;injection h with h
     subst h;exact cv5 ho hcal ha ht hu hn k1 k2 hr he hR
    ·cases h
   ·cases h
  ·cases h
 ·rename_i hcal;split at h
  ·rename_i ha ht;split at h
   ·rename_i hu h1;obtain⟨rfl,k1⟩:=cw h1;injection h with h
    subst h;exact cF0 ho hcal ha ht hu k1 hr he hR
   ·rename_i hu;injection h with h
    subst h;exact bU7 ho hcal ha ht (.inl ⟨_,hu⟩) hr hR
   ·rename_i hu;split at h
    ·rename_i hp;injection h with h
     subst h;exact bU7 ho hcal ha ht (.inr ⟨_,_,hu,hp⟩) hr hR
    ·cases h
   ·cases h
  ·cases h
 ·rename_i hcal;split at h
  ·rename_i ha ht;split at h
   ·rename_i hu h1;obtain⟨rfl,k1⟩:=cw h1;injection h with h
    subst h;exact cv3 ho hcal ha ht hu k1 hr he hR
   ·cases h
  ·cases h
 ·rename_i hcal;split at h
  ·rename_i ha;split at h
   ·rename_i h1 h2;obtain⟨rfl,k1⟩:=cw h1;obtain⟨rfl,k2⟩:=cw h2;injection h with h
    subst h;exact cv8 ho hcal ha k1 k2 hr he hR
   ·cases h
  ·cases h
 ·rename_i hcal;split at h
  ·rename_i ha;split at h
   ·rename_i h1 h2;obtain⟨rfl,k1⟩:=cw h1;obtain⟨rfl,k2⟩:=cw h2;injection h with h
    subst h;exact cl3 ho hcal ha k1 k2 hr he hR
   ·cases h
  ·cases h
 ·cases h
theorem cz0 {ao:AOp}(h:bH6 P o=some ao)(hc:ao.isCall=false)(hr:ao.run e σ=some (v,σ'))(he:fj μ N e a.tmps)(hR:R B μ σ w):i9 P o a w B μ v σ':=by
 unfold bH6 at h;split at h
 ·rename_i ho;obtain⟨x,h1,h⟩:=Option.map_eq_some_iff.1 h;obtain⟨rfl,k1⟩:=cw h1;subst h;exact bU8 (.inl ho) k1 hr he hR
 ·rename_i ho;obtain⟨x,h1,h⟩:=Option.map_eq_some_iff.1 h;obtain⟨rfl,k1⟩:=cw h1;subst h;exact bU8 (.inr ho) k1 hr he hR
 ·rename_i ho;split at h
  ·rename_i h1 h2 h3;obtain⟨rfl,k1⟩:=cw h1;obtain⟨rfl,k2⟩:=cw h2;obtain⟨rfl,k3⟩:=cw h3;injection h with h
   subst h;exact cv9 ho k1 k2 k3 hr he hR
  ·cases h
 ·rename_i ho;split at h
  ·cases h
  ·split at h
   ·rename_i hz;injection h with h
    subst h;exact cl0 ho hz hr hR
   ·cases h
 ·rename_i ho;split at h
  ·rename_i h1;obtain⟨rfl,k1⟩:=cw h1;injection h with h
   subst h;exact cE8 ho k1 hr he hR
  ·cases h
 ·rename_i ho;split at h
  ·rename_i hu hz;split at h
   ·rename_i hall;obtain⟨ps,hp,h⟩:=Option.map_eq_some_iff.1 h;subst h;exact aK6 ho hu hz hall hp hr he hR
   ·cases h
  ·rename_i hu hz;split at h
   ·rename_i hn;obtain⟨ps,hp,h⟩:=Option.map_eq_some_iff.1 h;subst h;exact aV8 ho hu hn hz hp hr he hR
   ·cases h
  ·cases h
 ·rename_i ho;split at h
  ·rename_i hu;split at h
   ·rename_i hn hz;split at h
    ·rename_i hcond;obtain⟨ps,hp,h⟩:=Option.map_eq_some_iff.1 h;subst h;exact be6 ho hu hn hz hcond.1 hcond.2.1 hcond.2.2 hp hr he hR
    ·cases h
   ·cases h
  ·cases h
 ·injection h with h
  subst h;cases hr
 ·rename_i ho;split at h
  ·rename_i ht h1;obtain⟨rfl,k1⟩:=cw h1;obtain⟨n,hn,h⟩:=Option.map_eq_some_iff.1 h;subst h;exact cl4 ho ht hn k1 hr he hR
  ·rename_i ht h1;obtain⟨rfl,k1⟩:=cw h1;injection h with h
   subst h;exact cv7 ho ht k1 hr he hR
  ·cases h
 ·rename_i ho;split at h
  ·rename_i hn h1 h2;obtain⟨rfl,k1⟩:=cw h1;obtain⟨rfl,k2⟩:=cw h2;injection h with h
   subst h;exact cl6 ho hn k1 k2 hr he hR
  ·cases h
 ·rename_i ho;obtain⟨x,h1,h⟩:=Option.map_eq_some_iff.1 h;obtain⟨rfl,k1⟩:=cw h1;subst h;exact bD3 ho k1 hr he hR
 ·rename_i ho;exact cp0 ho h hr he hR
 ·rename_i ho;obtain⟨x,h1,h⟩:=Option.map_eq_some_iff.1 h;obtain⟨rfl,k1⟩:=cw h1;subst h;exact cL1 ho k1 hr he hR
 ·rename_i ho;split at h
  ·rename_i hs hd h1;obtain⟨rfl,k1⟩:=cw h1;injection h with h
   subst h;exact cv4 ho hs hd k1 hr he hR
  ·cases h
 ·rename_i ho;split at h
  ·rename_i h0 h1;injection h with h
   subst h;exact cb5 ho h0 h1 hr he hR
  ·cases h
 ·rename_i ho;split at h
  ·rename_i hu;split at h
   ·rename_i hn hb hz h1 h2;obtain⟨rfl,k1⟩:=cw h1;obtain⟨rfl,k2⟩:=cw h2;split at h
    ·rename_i hcond;injection h with h
     subst h;exact bu0 ho hu hn hb hz k1 k2 hcond.1 hcond.2 hr he hR
    ·cases h
   ·cases h
  ·cases h
 ·rename_i ho;split at h
  ·rename_i hu h1 h2 h3;obtain⟨rfl,k1⟩:=cw h1;obtain⟨rfl,k2⟩:=aj5 h2;obtain⟨rfl,k3⟩:=aj5 h3;obtain⟨n,hn,h⟩:=Option.map_eq_some_iff.1 h;subst h;exact cl5 ho hu hn k1 k2 k3 hr he hR
  ·rename_i hu h1 h2 h3;obtain⟨rfl,k1⟩:=cw h1;obtain⟨rfl,k2⟩:=aj5 h2;obtain⟨rfl,k3⟩:=aj5 h3;obtain⟨n,hn,h⟩:=Option.map_eq_some_iff.1 h;subst h;exact bD4 ho hu hn k1 k2 k3 hr he hR
  ·cases h
 ·rename_i ho;split at h
  ·rename_i hu h1;obtain⟨rfl,k1⟩:=cw h1;split at h
   ·rename_i hi;split at h
    ·rename_i hn;split at h
     ·cases h
     ·rename_i h0;injection h with h
      subst h;exact cF1 ho hu hi hn h0 k1 hr he hR
    ·cases h
   ·cases h
  ·cases h
 ·rename_i ho;split at h
  ·rename_i hu h1;obtain⟨rfl,k1⟩:=cw h1;split at h
   ·rename_i hi;split at h
    ·rename_i hn hb;injection h with h
     subst h;exact cb2 ho hu hi hn hb k1 hr he hR
    ·cases h
   ·cases h
  ·cases h
 ·rename_i ho;split at h
  ·rename_i hu h1 h2;obtain⟨rfl,k1⟩:=cw h1;obtain⟨rfl,k2⟩:=cw h2;obtain⟨n,hn,h⟩:=Option.map_eq_some_iff.1 h;subst h;exact cE9 ho hu hn k1 k2 hr he hR
  ·rename_i hu h1 h2;obtain⟨rfl,k1⟩:=cw h1;obtain⟨rfl,k2⟩:=cw h2;obtain⟨n,hn,h⟩:=Option.map_eq_some_iff.1 h;subst h;exact cv6 ho hu hn k1 k2 hr he hR
  ·cases h
 ·rename_i ho;split at h
  ·rename_i hu h1 h2;obtain⟨rfl,k1⟩:=cw h1;obtain⟨rfl,k2⟩:=cw h2;split at h
   ·rename_i hn hb;injection h with h
    subst h;exact cb4 ho hu hn hb k1 k2 hr he hR
   ·cases h
  ·rename_i hu h1 h2;obtain⟨rfl,k1⟩:=cw h1;obtain⟨rfl,k2⟩:=cw h2;injection h with h
   subst h;exact cb3 ho hu k1 k2 hr he hR
  ·cases h
 ·rename_i ho;split at h
  ·rename_i hu h1 h2 h3;obtain⟨rfl,k1⟩:=cw h1;obtain⟨rfl,k2⟩:=cw h2;obtain⟨rfl,k3⟩:=cw h3;split at h
   ·rename_i hn;injection h with h
    subst h;obtain⟨n,hn⟩:=Option.isSome_iff_exists.1 hn;exact cb6 ho hu hn k1 k2 k3 hr he hR
   ·cases h
  ·cases h
 ·rename_i ho;obtain⟨x,h1,h⟩:=Option.map_eq_some_iff.1 h;obtain⟨rfl,k1⟩:=cw h1;subst h;exact bN5 ho k1 hr he hR
 ·rename_i ho;exact cd7 ho h hc hr he hR
 ·injection h with h
  subst h;cases hr
 ·injection h with h
  subst h;cases hr
 ·cases h
end
end
section
open Result renaming andThen_ok → aB
open Sem renaming run_bind → aD, run_pure → aW
open Go.RowKit
def bv9 (ops:Array Oper):Option (Nat×Bool)→Option (Option (Nat×Bool))
 |none=>some none
 |some (j,want)=>match(ops[j]?).bind (·.dst)with
  |some t=>some (some (t,want))
  |none=>none
def ch4 (N:Nat):Option Nat→Bool
 |none=>true
 |some d=>d<N
def aE0 (P:Program)(N:Nat)(ops:Array Oper)(o:Oper):Option AOper:=match bH6 P o,bv9 ops o.guard with
 |some op,some g=>if ch4 N o.dst then some ⟨o.dst,op,g⟩else none
 |_,_=>none
def ay4 (P:Program)(N:Nat)(ops:Array Oper):List Oper→Option (List AOper)
 |[]=>some []
 |o::r=>match aE0 P N ops o,ay4 P N ops r with
  |some x,some l=>some (x::l)
  |_,_=>none
def bj9 (P:Program)(f:FuncId):Prop:= ∃fn,P.funcs[f]?=some fn∧fn.body.isSome=true∧(fn.name== "runtime.NumGoroutine")=false
def cH7 (P:Program)(B:Base P)(μ:Mu)(w:World)(K:Value→Hp→Prop):Ending→World→Prop:=fun x w'=>
 ∃r σ' r' μ',x= .returned r'∧K r σ'∧μ.le μ'∧R B μ' σ' w'∧VR μ' r r'∧Below B w w'∧P=P
def yQ (P:Program)(f:FuncId)(S:aA3):Prop:=
 ∀(B:Base P) μ σ w args (cargs:Array Value) K,S args σ K→R B μ σ w→F2 (VR μ) args cargs.toList→bj9 P f∧Calls P f cargs w (cH7 P B μ w K)
def yV :Nat:=1000000
def tf :AExit→Exit→Prop
 | .normal, .normal=>True
 | .exit i, .exit j=>i=j∧j<yV
 | .exit i, .goto l=>i=yV+2*l
 | .ret, .ret=>True
 |_,_=>False
def oN {P:Program}(B:Base P)(N:Nat)(μ:Mu)(w:World)(Q:AExit→dM→Hp→Prop):Exit→Act→World→Prop:=fun x a' w'=>
 ∃ax e' σ' μ',tf ax x∧Q ax e' σ'∧μ.le μ'∧R B μ' σ' w'∧fj μ' N e' a'.tmps∧a'.defers=[]∧Below B w w'
section
variable {P:Program} {T:fB} {o:Oper} {a:Act} {w:World} {B:Base P} {N:Nat} {μ:Mu} {e:dM} {σ σ':Hp} {v:Value}
theorem oN.trans {μ':Mu}{w':World}{Q:AExit→dM→Hp→Prop}(hμ:μ.le μ')(hb:Below B w w'){x:Exit}{a':Act}{w'':World}(h:oN B N μ' w' Q x a' w''):oN B N μ w Q x a' w'':=by
 obtain⟨ax,e',σ',μ'',h1,h2,h3,h4,h5,h6,h7⟩:=h;exact⟨ax,e',σ',μ'',h1,h2,Mu.le_trans hμ h3,h4,h5,h6,hb.trans h7⟩
theorem bj5 {ops:Array Oper}{g:Option (Nat×Bool)}{op:AOp}(hg:bv9 ops o.guard=some g)(he:fj μ N e a.tmps):Region.wanted o (yielded ops a.tmps)=wanted ⟨o.dst,op,g⟩ e:=by
 unfold bv9 at hg;unfold Region.wanted wanted;split at hg
 ·rename_i h;injection hg with hg
  subst hg;simp[h]
 ·rename_i j want h;split at hg
  ·rename_i t ht;injection hg with hg
   subst hg;simp only[h];have hv:=he.2 t;unfold yielded;rw[ht];simp only[zG];by_cases hlt:t<a.tmps.size
   ·have e1:a.tmps[t]?=some (a.tmps.getD t undef):=by simp[hlt]
    rw[e1];generalize a.tmps.getD t undef=u at*;generalize e t=u' at*;cases hv<;>simp
    try(rename_i b;cases b<;>cases want<;>rfl)
   ·have e1:a.tmps[t]?=none:=Array.getElem?_eq_none (Nat.le_of_not_lt hlt);have e2:a.tmps.getD t undef=undef:=by simp[e1]
    rw[e2]at hv;rw[e1];generalize e t=u at*;cases hv;simp
  ·cases hg
theorem fj.putO (h:fj μ N e a.tmps){d:Option Nat}(hd:ch4 N d=true){v':Value}(hv:VR μ v v'):fj μ N (e.putO d v) (a.put d v').tmps:=by
 cases d with
 |none=>exact h
 |some d=>exact h.put d (by simpa[ch4]using hd) hv
theorem qF (d:Option Nat)(v':Value):(a.put d v').defers=a.defers:=by cases d<;>rfl
theorem bg2 {f:FuncId}(h:bj9 P f)(args:Array Value)(w:World):(callFunc f args).run P w= .ok (.enter f args) w:=by
 obtain⟨fn,h1,h2,h3⟩:=h;have h4:fn.body.isNone=false:=by cases hb:fn.body<;>simp[hb]at h2⊢
 simp only[callFunc,aD,run_program,aB,h1,h3,h4,Bool.false_eq_true,if_false,aW]
theorem VR.func_inv {f:Fn}{x y:Array Value}{v':Value}(h:VR μ (.func f x y) v'): ∃x' y',v'= .func f x' y'∧F2 (VR μ) x.toList x'.toList∧F2 (VR μ) y.toList y'.toList:=by
 cases h with
 |func h1 h2=>exact⟨_,_,rfl,h1,h2⟩
theorem cd8 {f:FuncId}{args:List Operand}(h:bH6 P o=some (.call f args)): ∃c,o.op= .call c∧yI P c=some (.call f args):=by
 unfold bH6 at h;split at h
 all_goals first
  |exact⟨_,‹_›,h⟩
  |(exfalso;revert h;unfold bH3;(repeat' split)<;>simp)
  |(exfalso;revert h;(repeat' split)<;>simp)
theorem bQ5 {f:Operand}{args:List Operand}(h:bH6 P o=some (.callv f args)): ∃c,o.op= .call c∧yI P c=some (.callv f args):=by
 unfold bH6 at h;split at h
 all_goals first
  |exact⟨_,‹_›,h⟩
  |(exfalso;revert h;unfold bH3;(repeat' split)<;>simp)
  |(exfalso;revert h;(repeat' split)<;>simp)
theorem bH4 {c:Call}{f:FuncId}{args:List Operand}(h:yI P c=some (.call f args)):c.callee= .value (.func f)∧aK8 c.args.toList=some args:=by
 unfold yI at h;split at h
 ·rename_i hc;split at h
  ·simp at h;obtain⟨h1,rfl⟩:=h;exact⟨hc,h1⟩
  ·cases h
 all_goals (exfalso;revert h;(repeat' split)<;>simp)
theorem bv8 {c:Call}{f:Operand}{args:List Operand}(h:yI P c=some (.callv f args)):c.callee= .value f∧eb f=true∧aK8 c.args.toList=some args:=by
 unfold yI at h;split at h
 ·exfalso;revert h;split<;>simp
 ·rename_i hc;simp at h;obtain⟨h1,rfl⟩:=h;exact⟨hc,rfl,h1⟩
 all_goals (exfalso;revert h;(repeat' split)<;>simp)
theorem bR8 (hT: ∀f,yQ P f (T f)){f:FuncId}{args:List Value}{cargs:Array Value}{k:Value→Hp→Prop}(hr:T f args σ k)(hR:R B μ σ w)(ha:F2 (VR μ) args cargs.toList)
  (hrun:bj9 P f→(execOp a.eval o).run P w= .ok (.enter f cargs) w) {next:Act→World→Prop} {Q:Exit→Act→World→Prop}
  (hk: ∀v σ' v' μ' w',k v σ'→μ.le μ'→R B μ' σ' w'→VR μ' v v'→Below B w w'→next (a.put o.dst v') w'):o.wp P a w next Q:=by
 obtain⟨h1,h2⟩:=hT f B μ σ w args cargs k hr hR ha;unfold Oper.wp;rw[hrun h1];simp only[Oper.upon];refine h2.mono fun x w' hx=> ?_
 obtain⟨r,σ',r',μ',rfl,q1,q2,q3,q4,q5,_⟩:=hx;exact hk r σ' r' μ' w' q1 q2 q3 q4 q5
theorem aX1 (hT: ∀f,yQ P f (T f)){op:AOp}(h:bH6 P o=some op){k:Value→Hp→Prop}(hr:dv T op e σ k)(he:fj μ N e a.tmps)(hR:R B μ σ w)
  {next:Act→World→Prop} {Q:Exit→Act→World→Prop}
  (hk: ∀v σ' v' μ' w',k v σ'→μ.le μ'→R B μ' σ' w'→VR μ' v v'→Below B w w'→next (a.put o.dst v') w'):o.wp P a w next Q:=by
 by_cases hc:op.isCall=true
 ·cases op<;>simp[AOp.isCall]at hc
  case call f args=>
   obtain⟨c,ho,h1⟩:=cd8 h;obtain⟨h2,h3⟩:=bH4 h1;have ha:=av6 he h3;simp only[dv]at hr;refine bR8 (cargs:=c.args.map a.eval) hT hr hR (by simpa using ha) (fun hcall=> ?_) hk;simp only[execOp,ho,resolve,h2,aD,Act.eval,Deferred.ofValue,aW,aB,invoke];simp[bg2 hcall]
  case callv f args=>
   obtain⟨c,ho,h1⟩:=bQ5 h;obtain⟨h2,h4,h3⟩:=bv8 h1;have ha:=av6 he h3;have hf:=he.ev h4;simp only[dv]at hr;split at hr
   ·rename_i g first captured hg
    rw[hg]at hf;obtain⟨x',y',e1,e2,e3⟩:=hf.func_inv;refine bR8 (cargs:=x'++c.args.map a.eval++y') hT hr hR (by simpa using(e2.append ha).append e3) (fun hcall=> ?_) hk;simp only[execOp,ho,resolve,h2,e1,aD,Deferred.ofValue,aW,aB,invoke];simp[bg2 hcall]
   ·exact hr.elim
 ·have hr': ∃v σ',op.run e σ=some (v,σ')∧k v σ':=by
   unfold dv at hr;cases op<;>simp[AOp.isCall]at hc<;>simp only at hr
   all_goals
    split at hr
    ·rename_i v σ' hv;exact⟨v,σ',hv,hr⟩
    ·exact hr.elim
  obtain⟨v,σ',hv,hkv⟩:=hr';obtain⟨nx,w',μ',v',h1,h2,h3,h4,h5,h6⟩:=cz0 h (by simpa using hc) hv he hR;unfold Oper.wp;rw[h1];rcases h2 with rfl|⟨rfl,rfl⟩
  ·exact hk v σ' v' μ' w' hkv h3 h4 h5 h6
  ·exact hk v σ' undef μ' w' hkv h3 h4 h5 h6
theorem bu3 (hT: ∀f,yQ P f (T f)){ops:Array Oper}{Q:AExit→dM→Hp→Prop}{μ0:Mu}{w0:World}: ∀(l:List Oper) (al:List AOper) (e:dM) (σ:Hp) (μ:Mu) (a:Act) (w:World),ay4 P N ops l=some al→uz T (Q .normal) al e σ→
  R B μ σ w→fj μ N e a.tmps→a.defers=[]→μ0.le μ→Below B w0 w→wpList P ops (oN B N μ0 w0 Q) l a w
 |[],al,e,σ,μ,a,w,h,hw,hR,he,hd,hμ0,hb0=>by
  simp[ay4]at h;subst h;exact⟨.normal,e,σ,μ,trivial,hw,hμ0,hR,he,hd,hb0⟩
 |o::l,al,e,σ,μ,a,w,h,hw,hR,he,hd,hμ0,hb0=>by
  simp only[ay4]at h;split at h
  ·rename_i x r h1 h2;injection h with h
   subst h;unfold aE0 at h1;split at h1
   ·rename_i op g h3 h4;split at h1
    ·rename_i h5;injection h1 with h1
     subst h1;have hwant:=bj5 (op:=op) h4 he;unfold wpList;simp only[uz]at hw;rw[hwant];split
     ·rename_i hb;rw[zE hb]at hw;left;refine aX1 hT h3 hw he hR fun v σ' v' μ' w' hk hμ hR' hv hbel=> ?_
      exact bu3 hT l r _ σ' μ' (a.put o.dst v') w' h2 hk hR' ((he.mono hμ).putO h5 hv) (by rw[qF];exact hd) (Mu.le_trans hμ0 hμ) (hb0.trans hbel)
     ·rename_i hb;rw[zF hb]at hw;exact bu3 hT l r _ σ μ (a.put o.dst undef) w h2 hw hR (he.putO h5 (VR.undef μ)) (by rw[qF];exact hd) hμ0 hb0
    ·cases h1
   ·cases h1
  ·cases h
end
end
section
open List renaming map_congr_left → aB, mem_append → aD
open Go.RowKit
def ku :Operand→List Nat
 | .tmp t=>[t]
 |_=>[]
def co8 :Option Operand→List Nat
 |some x=>ku x
 |none=>[]
def AOp.reads :AOp→List Nat
 | .move x| .box _ x| .load x| .loadN _ x| .nilCheck x| .un _ x| .conv _ x| .off _ x| .fieldV _ _ _ x| .extract x _| .len x| .capN x=>ku x
 | .pick c a b| .sliceX c a b=>ku c++ku a++ku b
 | .alloc _ _| .lenC _| .stuck=>[]
 | .build _ ps| .buildSlice _ _ _ ps=>ps.flatMap fun p=>ku p.2.2
 | .store _ a x=>ku a++ku x
 | .bin _ x y| .eqv _ _ x y| .eqCells _ _ x y| .idx _ x y| .idxA _ _ x y| .indexV _ _ _ x y| .indexS x y| .append _ _ x y| .appendZ _ _ _ x y| .copy _ x y| .most x y| .least x y| .makeSlice _ _ _ x y=>ku x++ku y
 | .mkFunc _ xs cs=>xs.flatMap ku++cs.flatMap ku
 | .slice _ x lo hi| .sliceArr _ _ x lo hi=>ku x++co8 lo++co8 hi
 | .call _ xs=>xs.flatMap ku
 | .callv f xs=>ku f++xs.flatMap ku
theorem df {e e':dM}{x:Operand}(h: ∀t∈ku x,e t=e' t):e.ev x=e'.ev x:=by
 cases x<;>first|rfl|exact h _ (by simp[ku])
theorem ai4 {e e':dM}{x:Option Operand}(h: ∀t∈co8 x,e t=e' t):x.map e.ev=x.map e'.ev:=by
 cases x with
 |none=>rfl
 |some x=>simp only[Option.map_some];rw[df h]
theorem ai3 {e e':dM}{xs:List Operand}(h: ∀t∈xs.flatMap ku,e t=e' t):xs.map e.ev=xs.map e'.ev:=by
 apply aB;intro x hx;exact df fun t ht=>h t (List.mem_flatMap.2 ⟨x,hx,ht⟩)
theorem bg3 {e e':dM}{ps:List (Nat×Nat×Operand)}(h: ∀t∈ps.flatMap (fun p=>ku p.2.2),e t=e' t):(ps.map fun(o,s,x)=>(o,s,e.ev x))=ps.map fun(o,s,x)=>(o,s,e'.ev x):=by
 apply aB;rintro⟨o,s,x⟩ hx;simp only;rw[df fun t ht=>h t (List.mem_flatMap.2 ⟨_,hx,ht⟩)]
theorem aD1 {e e':dM}{σ:Hp}{op:AOp}(h: ∀t∈op.reads,e t=e' t):op.run e σ=op.run e' σ:=by
 cases op<;>simp only[AOp.reads,aD]at h<;>simp only[AOp.run]
 case move x=>rw[df h]
 case pick c a b=>rw[df fun t ht=>h t (.inl (.inl ht)),df fun t ht=>h t (.inl (.inr ht)),df fun t ht=>h t (.inr ht)]
 case box es x=>rw[df h]
 case build z ps=>rw[bg3 h]
 case buildSlice es ln z ps=>rw[bg3 h]
 case load x=>rw[df h]
 case loadN n x=>rw[df h]
 case store n a x=>rw[df fun t ht=>h t (.inl ht),df fun t ht=>h t (.inr ht)]
 case nilCheck x=>rw[df h]
 case bin op x y=>rw[df fun t ht=>h t (.inl ht),df fun t ht=>h t (.inr ht)]
 case eqv kd neg x y=>rw[df fun t ht=>h t (.inl ht),df fun t ht=>h t (.inr ht)]
 case eqCells neg ks x y=>rw[df fun t ht=>h t (.inl ht),df fun t ht=>h t (.inr ht)]
 case un op x=>rw[df h]
 case conv k x=>rw[df h]
 case mkFunc f xs cs=>rw[ai3 fun t ht=>h t (.inl ht),ai3 fun t ht=>h t (.inr ht)]
 case makeSlice es by_ z l c=>rw[df fun t ht=>h t (.inl ht),df fun t ht=>h t (.inr ht)]
 case slice es x lo hi=>rw[df fun t ht=>h t (.inl (.inl ht)),ai4 fun t ht=>h t (.inl (.inr ht)),ai4 fun t ht=>h t (.inr ht)]
 case sliceArr es n x lo hi=>rw[df fun t ht=>h t (.inl (.inl ht)),ai4 fun t ht=>h t (.inl (.inr ht)),ai4 fun t ht=>h t (.inr ht)]
 case off n x=>rw[df h]
 case idx es x i=>rw[df fun t ht=>h t (.inl ht),df fun t ht=>h t (.inr ht)]
 case idxA ln es x i=>rw[df fun t ht=>h t (.inl ht),df fun t ht=>h t (.inr ht)]
 case fieldV fo n agg x=>rw[df h]
 case indexV ln es agg x i=>rw[df fun t ht=>h t (.inl ht),df fun t ht=>h t (.inr ht)]
 case indexS x i=>rw[df fun t ht=>h t (.inl ht),df fun t ht=>h t (.inr ht)]
 case extract x i=>rw[df h]
 case append es by_ s x=>rw[df fun t ht=>h t (.inl ht),df fun t ht=>h t (.inr ht)]
 case appendZ es by_ z s x=>rw[df fun t ht=>h t (.inl ht),df fun t ht=>h t (.inr ht)]
 case copy es d s=>rw[df fun t ht=>h t (.inl ht),df fun t ht=>h t (.inr ht)]
 case len x=>rw[df h]
 case capN x=>rw[df h]
 case sliceX c a b=>rw[df fun t ht=>h t (.inl (.inl ht)),df fun t ht=>h t (.inl (.inr ht)),df fun t ht=>h t (.inr ht)]
 case most x y=>rw[df fun t ht=>h t (.inl ht),df fun t ht=>h t (.inr ht)]
 case least x y=>rw[df fun t ht=>h t (.inl ht),df fun t ht=>h t (.inr ht)]
theorem bF9 {T:fB}{e e':dM}{σ:Hp}{op:AOp}{k:Value→Hp→Prop}(h: ∀t∈op.reads,e t=e' t)(hr:dv T op e σ k):dv T op e' σ k:=by
 by_cases hc:op.isCall=true
 ·cases op<;>simp[AOp.isCall]at hc
  case call f xs=>
   simp only[dv,AOp.reads]at*;rw[←ai3 h];exact hr
  case callv f xs=>
   simp only[dv,AOp.reads,aD]at*;rw[←ai3 fun t ht=>h t (.inr ht),←df fun t ht=>h t (.inl ht)];exact hr
 ·unfold dv at*;cases op<;>simp[AOp.isCall]at hc<;>simp only at hr⊢ <;>rw[←aD1 h]<;>exact hr
def AOper.looks (o:AOper):List Nat:=o.op.reads++(match o.guard with|some (t,_)=>[t]|none=>[])
theorem yJ {e e':dM}{o:AOper}(h: ∀t∈o.looks,e t=e' t):wanted o e=wanted o e':=by
 unfold wanted;unfold AOper.looks at h;cases hg:o.guard with
 |none=>rfl
 |some g=>
  rw[hg]at h;have:=h g.1 (by simp);simp only[this]
theorem ar4 {e:dM}{σ σ':Hp}{op:AOp}{v:Value}(hs:op.still=true)(h:op.run e σ=some (v,σ')):σ'=σ:=by
 cases op<;>simp[AOp.still]at hs<;>simp only[AOp.run]at h
 all_goals
  revert h
  repeat' split
  all_goals first
   |(intro h;cases h;done)
   |(intro h;simp only[Option.some.injEq,Prod.mk.injEq]at h;exact h.2.symm)
   |(intro h;obtain⟨_,_,h⟩:=Option.map_eq_some_iff.1 h;simp only[Prod.mk.injEq]at h;exact h.2.symm)
theorem cd1 {e:dM}{σ:Hp}{op:AOp}{v:Value}(hs:op.still=true)(hl:op.isLoad=false)(h:op.run e σ=some (v,σ))(σ':Hp):op.run e σ'=some (v,σ'):=by
 cases op<;>simp[AOp.still]at hs
 case slice es x lo hi=>
  cases lo with
  |some _=>simp[AOp.isLoad]at hl
  |none=>
   simp only[AOp.run,vZ,Bool.or_true,if_true]at h⊢;revert h
   repeat' split
   all_goals first
    |(intro h;cases h;done)
    |(intro h;simp only[Option.some.injEq,Prod.mk.injEq]at h⊢;exact⟨h.1,trivial⟩)
    |simp_all
 all_goals first
  |(simp[AOp.isLoad]at hl;done)
  |(simp only[AOp.run]at h⊢
    revert h
    repeat' split
    all_goals first
     |(intro h;cases h;done)
     |(intro h;simp only[Option.some.injEq,Prod.mk.injEq]at h⊢;exact⟨h.1,trivial⟩)
     |(intro h;obtain⟨u,hu,h⟩:=Option.map_eq_some_iff.1 h;simp only[Prod.mk.injEq]at h;rw[hu];simp[h.1]))
end
section
open Bool renaming and_eq_true → aW, not_eq_true' → bC
open List renaming mem_cons_of_mem → aB, mem_cons_self → aD, range → aX, find?_some → aY, getD_eq_getElem?_getD → aZ, getElem?_eq_none → bA, all_eq_true → bD, mem_of_find?_eq_some → bE
open Nat renaming lt_or_ge → bB
open Go.RowKit
theorem ca0 {listed:Array Bool}{i:Nat}(h:listed.getD i true=false):listed.getD i false=false:=by
 rcases bB i listed.size with h'|h'
 ·simp[h']at h⊢;exact h
 ·simp[Array.getElem?_eq_none h']at h
theorem cs4 {listed:Array Bool}{i:Nat}(hi:i<listed.size)(h:listed.getD i false=false):listed.getD i true=false:=by
 simp[hi]at h⊢;exact h
abbrev DL :=List (AOper×List Nat)
def kn (al:DL)(i:Nat):Option Nat:=(al[i]?).bind (·.1.dst)
def aj2 (al:DL)(i:Nat):List Nat:=match al[i]? with
 |some (o,_)=>o.looks
 |none=>[]
def ym (al:DL):Bool:=
 (aX al.length).all fun i=>
  (gv al i).all (fun q=>decide (q<i))&&
  (match kn al i with
   |none=>true
   |some t=>(aX al.length).all fun j=>i==j||((kn al j !=some t)&&(!(aj2 al j).contains t||sf al i j||sf al j i)))
section
variable {al:DL}
theorem bA6 (h:ym al=true){i q:Nat}(hi:i<al.length)(hq:q∈gv al i):q<i:=by
 have:=List.all_eq_true.1 h i (List.mem_range.2 hi);simp only[aW,bD,decide_eq_true_eq]at this;exact this.1 q hq
theorem wG {i t:Nat}(h:kn al i=some t):i<al.length:=by
 unfold kn at h;rcases bB i al.length with h1|h1
 ·exact h1
 ·simp[bA h1]at h
theorem bL7 (h:ym al=true){i j t:Nat}(hi:kn al i=some t)(hj:kn al j=some t):i=j:=by
 have:=List.all_eq_true.1 h i (List.mem_range.2 (wG hi));simp only[aW,hi]at this;have:=List.all_eq_true.1 this.2 j (List.mem_range.2 (wG hj));by_cases e:i=j
 ·exact e
 ·simp[hj,e]at this
theorem bL6 (h:ym al=true){i j t:Nat}(hi:kn al i=some t)(hjl:j<al.length)(hj:t∈aj2 al j)(hne:i≠j):sf al i j=true∨sf al j i=true:=by
 have:=List.all_eq_true.1 h i (List.mem_range.2 (wG hi));simp only[aW,hi]at this;have:=List.all_eq_true.1 this.2 j (List.mem_range.2 hjl);simp[hne,hj]at this;exact this.2
def vq (al:DL)(D:List Nat):Prop:= ∀i∈D,∀q∈gv al i,q∈D
theorem bM7 {acc ps:List Nat}{p:Nat}(h:(aq7 acc ps).testBit p=true): ∃q∈ps,q=p∨(acc.getD q 0).testBit p=true:=by
 have key: ∀(ps:List Nat) (m:Nat),(ps.foldl (fun m q=>m|||2 ^ q|||acc.getD q 0) m).testBit p=true→m.testBit p=true∨∃q∈ps,q=p∨(acc.getD q 0).testBit p=true:=by
  intro ps;induction ps with
  |nil=>intro m h;exact .inl h
  |cons q ps ih=>
   intro m h;rcases ih _ h with h1|⟨q',h1,h2⟩
   ·simp only[Nat.testBit_or,Nat.testBit_two_pow,Bool.or_eq_true,decide_eq_true_eq]at h1;rcases h1 with(h1|h1)|h1
    ·exact .inl h1
    ·exact .inr ⟨q,aD .., .inl h1⟩
    ·exact .inr ⟨q,aD .., .inr h1⟩
   ·exact .inr ⟨q',aB _ h1,h2⟩
 rcases key ps 0 h with h1|h1
 ·simp at h1
 ·exact h1
theorem aV3 {al0:DL}: ∀(r pre:DL) (acc:List Nat),pre++r=al0→acc.length=pre.length→
  (∀j p,(acc.getD j 0).testBit p=true→∃q∈gv al0 j,q=p∨(q<j∧(acc.getD q 0).testBit p=true))→
  ∀j p,((bC6 acc r).getD j 0).testBit p=true→∃q∈gv al0 j,q=p∨(q<j∧((bC6 acc r).getD q 0).testBit p=true)
 |[],pre,acc,_,_,h=>h
 |(o,ps)::r,pre,acc,he,hl,h=>by
  simp only[bC6];refine aV3 r (pre++[(o,ps)]) (acc++[aq7 acc ps]) (by rw[List.append_assoc];exact he) (by simp[hl]) fun j p hj=> ?_
  have hps:gv al0 acc.length=ps:=by
   unfold gv;rw[←he,hl,List.getElem?_append_right (Nat.le_refl _)];simp
  have hget: ∀q,q<acc.length→(acc++[aq7 acc ps]).getD q 0=acc.getD q 0:=by
   intro q hq;simp only[aZ];rw[List.getElem?_append_left hq]
  by_cases h1:j<acc.length
  ·rw[hget j h1]at hj;obtain⟨q,h2,h3⟩:=h j p hj;refine⟨q,h2,h3.imp id fun⟨h4,h5⟩=>⟨h4, ?_⟩⟩;rw[hget q (by omega)];exact h5
  ·by_cases h2:j=acc.length
   ·subst h2;have:(acc++[aq7 acc ps]).getD acc.length 0=aq7 acc ps:=by simp
    rw[this]at hj;obtain⟨q,h3,h4⟩:=bM7 hj;refine⟨q,by rw[hps];exact h3,h4.imp id fun h5=> ?_⟩
    have hq:q<acc.length:=by
     rcases bB q acc.length with h6|h6
     ·exact h6
     ·simp[aZ,bA h6]at h5
    exact⟨hq,by rw[hget q hq];exact h5⟩
   ·have:(acc++[aq7 acc ps]).getD j 0=0:=by
     simp only[aZ];rw[bA (by simp;omega)];rfl
    rw[this]at hj;simp at hj
theorem bX5 {p j:Nat}(h:sf al p j=true): ∃q∈gv al j,q=p∨(q<j∧sf al p q=true):=
 aV3 al [] [] rfl rfl (fun j p h=>by simp at h) j p h
theorem vq.bef {D:List Nat}(h:vq al D): ∀(p j:Nat),sf al p j=true→(∀q∈gv al j,q∈D)→p∈D:=by
 intro p j;induction j using Nat.strongRecOn with
 |_ j ih=>
  intro hb hj;obtain⟨q,hq,rfl|⟨hlt,hb⟩⟩:=bX5 hb
  ·exact hj q hq
  ·exact ih q hlt hb (h q (hj q hq))
def gF (al:DL)(e0:dM)(val:Nat→Value)(D:List Nat):dM:=fun t=>match D.find? (fun i=>kn al i==some t)with
 |some i=>val i
 |none=>e0 t
theorem nG {e0:dM}{val:Nat→Value}{D:List Nat}(h:ym al=true){i t:Nat}(hi:i∈D)(hd:kn al i=some t):gF al e0 val D t=val i:=by
 unfold gF;cases hf:D.find? (fun i=>kn al i==some t)with
 |none=>
  have:=List.find?_eq_none.1 hf i hi;simp[hd]at this
 |some j=>
  have:=aY hf;simp only[beq_iff_eq]at this;rw[bL7 h this hd]
theorem lJ {e0:dM}{val:Nat→Value}{D:List Nat}{t:Nat}(h: ∀i∈D,kn al i≠some t):gF al e0 val D t=e0 t:=by
 unfold gF;have:D.find? (fun i=>kn al i==some t)=none:=List.find?_eq_none.2 fun i hi=>by simpa using h i hi
 rw[this]
theorem ue {e0:dM}{val:Nat→Value}{D:List Nat}(h:ym al=true)(i:Nat)(hi:i∉D):gF al e0 val (i::D)=(gF al e0 val D).putO (kn al i) (val i):=by
 funext t
 cases hd:kn al i with
 |none=>
  simp only[dM.putO];by_cases hx: ∃j∈D,kn al j=some t
  ·obtain⟨j,hj,hjt⟩:=hx;rw[nG h (aB _ hj) hjt,nG h hj hjt]
  ·rw[lJ (fun j hj hjt=>hx ⟨j,hj,hjt⟩)];refine lJ fun j hj hjt=> ?_
   rcases List.mem_cons.1 hj with rfl|hj
   ·rw[hd]at hjt;cases hjt
   ·exact hx ⟨j,hj,hjt⟩
 |some d=>
  simp only[dM.putO,dM.put];split
  ·rename_i ht;subst ht;exact nG h (aD ..) hd
  ·rename_i ht;by_cases hx: ∃j∈D,kn al j=some t
   ·obtain⟨j,hj,hjt⟩:=hx;rw[nG h (aB _ hj) hjt,nG h hj hjt]
   ·rw[lJ (fun j hj hjt=>hx ⟨j,hj,hjt⟩)];refine lJ fun j hj hjt=> ?_
    rcases List.mem_cons.1 hj with rfl|hj
    ·rw[hd]at hjt;exact ht (Option.some.inj hjt).symm
    ·exact hx ⟨j,hj,hjt⟩
def af8 (al:DL)(e0:dM)(val:Nat→Value)(j:Nat):dM:=fun t=>match(aX al.length).find? (fun i=>kn al i==some t&&sf al i j)with
 |some i=>val i
 |none=>e0 t
theorem bv0 {e0:dM}{val:Nat→Value}{D:List Nat}(h:ym al=true)(hD:vq al D){j:Nat}(hjl:j<al.length)(hj:j∉D)(hp: ∀q∈gv al j,q∈D){t:Nat}(ht:t∈aj2 al j):
  gF al e0 val D t=af8 al e0 val j t:=by
 unfold af8;cases hf:(aX al.length).find? (fun i=>kn al i==some t&&sf al i j)with
 |some i=>
  have:=aY hf;simp only[aW,beq_iff_eq]at this;exact nG h (hD.bef _ _ this.2 hp) this.1
 |none=>
  refine lJ fun i hi hit=> ?_
  have h1:=List.find?_eq_none.1 hf i (List.mem_range.2 (wG hit));simp only[hit,beq_self_eq_true,Bool.true_and]at h1;have hne:i≠j:=fun e=>hj (e▸hi)
  rcases bL6 h hit hjl ht hne with hb|hb
  ·exact h1 hb
  ·exact hj (hD.bef _ _ hb (hD i hi))
theorem cn7 {e0:dM}{val val':Nat→Value}{D:List Nat}(hD:vq al D){j:Nat}(hj:j∈D)(hv: ∀i∈D,val' i=val i):af8 al e0 val' j=af8 al e0 val j:=by
 funext t
 unfold af8;cases hf:(aX al.length).find? (fun i=>kn al i==some t&&sf al i j)with
 |none=>rfl
 |some i=>
  have:=aY hf;simp only[aW,beq_iff_eq]at this;exact hv i (hD.bef _ _ this.2 (hD j hj))
theorem ai2 {e0:dM}{val val':Nat→Value}{D:List Nat}(hv: ∀i∈D,val' i=val i):gF al e0 val' D=gF al e0 val D:=by
 funext t
 unfold gF;cases hf:D.find? (fun i=>kn al i==some t)with
 |none=>rfl
 |some i=>exact hv i (bE hf)
def left (n:Nat)(D:List Nat):Nat:=((aX n).filter fun i=> !D.contains i).length
theorem aC3 {n i:Nat}{D:List Nat}(hi:i<n)(hD:i∉D):left n (i::D)<left n D:=by
 unfold left
 have:(aX n).filter (fun j=> !(i::D).contains j)=((aX n).filter fun j=> !D.contains j).filter fun j=>j !=i:=by
  rw[List.filter_filter];apply List.filter_congr;intro j _;simp only[List.contains_cons,Bool.not_or];rfl
 rw[this];refine List.length_filter_lt_length_iff_exists.2 ⟨i, ?_,by simp⟩;simp[hi,hD]
theorem aC4 {n:Nat}{D:List Nat}(h:left n D=0){i:Nat}(hi:i<n):i∈D:=by
 unfold left at h;have:=List.eq_nil_of_length_eq_zero h;rw[List.filter_eq_nil_iff]at this;have:=this i (List.mem_range.2 hi);simpa using this
theorem ci9 {n i:Nat}{D:List Nat}(hi:i<n)(hD:i∉D):0<left n D:=by
 rcases Nat.eq_zero_or_pos (left n D)with h|h
 ·exact absurd (aC4 h hi) hD
 ·exact h
end
section
variable {P:Program} {T:fB} {al:DL} {ops:Array Oper} {B:Base P} {N:Nat}
structure Fits (P:Program)(N:Nat)(ops:Array Oper)(al:DL):Prop where
 len:ops.size=al.length
 op: ∀(i:Nat) o,ops[i]?=some o→∃x,al[i]?=some (x,gv al i)∧aE0 P N ops o=some x
 pred: ∀(i:Nat) o,ops[i]?=some o→∀q,q∈gv al i↔∃e∈o.after,Region.binds .any e=true∧e.on=q
def aF2 (al:DL)(e0:dM)(val:Nat→Value)(σ:Hp)(chk:List (Nat×(Hp→Prop)))(j:Nat):Prop:=
 ∃x p,al[j]?=some (x,p)∧x.op.still=true∧
  ((wanted x (af8 al e0 val j)=true∧x.op.run (af8 al e0 val j) σ=some (val j,σ)∧
   (x.op.isLoad=true→∃c,(j,c)∈chk∧∀σ',c σ'→x.op.run (af8 al e0 val j) σ'=some (val j,σ')))∨
   (wanted x (af8 al e0 val j)=false∧val j=undef))
structure Inv (al:DL)(e0:dM)(val:Nat→Value)(σ:Hp)(chk:List (Nat×(Hp→Prop)))(D L:List Nat):Prop where
 dc:vq al D
 lc:vq al L
 sub: ∀i∈L,i∈D
 lt: ∀i∈D,i<al.length
 tells: ∀j∈D,j∉L→aF2 al e0 val σ chk j
theorem aq9 {D:List Nat}{i:Nat}:bu5 al D i=true↔i∉D∧∀q∈gv al i,q∈D:=by
 unfold bu5;simp only[aW,bC,bD,List.contains_iff_mem];constructor
 ·rintro⟨h1,h2⟩;exact⟨fun h=>by simp[h]at h1,h2⟩
 ·rintro⟨h1,h2⟩;exact⟨by simpa using h1,h2⟩
theorem uu {D:List Nat}{i:Nat}(h:gN al D=some i):i<al.length∧i∉D∧(∀q∈gv al i,q∈D)∧yF al i=true:=by
 unfold gN at h;have h1:=aY h;have h2:=bE h;simp only[aW]at h1;obtain⟨h3,h4⟩:=aq9.1 h1.1;exact⟨List.mem_range.1 h2,h3,h4,h1.2⟩
theorem aV5 {D:List Nat}(h:gN al D=none){i:Nat}(hi:i<al.length)(h1:i∉D)(h2: ∀q∈gv al i,q∈D):yF al i=false:=by
 unfold gN at h;have:=List.find?_eq_none.1 h i (List.mem_range.2 hi);simp only[aq9.2 ⟨h1,h2⟩,Bool.true_and]at this;simpa using this
theorem uq {D:List Nat}{i:Nat}:i∈ec al D↔i<al.length∧i∉D∧(∀q∈gv al i,q∈D)∧yF al i=false:=by
 unfold ec;simp only[List.mem_filter,List.mem_range,aW,bC,aq9,and_assoc]
theorem bz2 {f:Nat→Prop}: ∀{l:List Nat},bd7 f l→∀m∈l,f m
 |[],_,m,hm=>by cases hm
 |[x],h,m,hm=>by simp at hm;subst hm;exact h
 |x::y::r,h,m,hm=>by
  rcases List.mem_cons.1 hm with rfl|hm
  ·exact h.1
  ·exact bz2 h.2 m hm
def upd (val:Nat→Value)(i:Nat)(v:Value):Nat→Value:=fun k=>if k=i then v else val k
theorem aF2.upd {e0:dM}{val:Nat→Value}{σ:Hp}{chk:List (Nat×(Hp→Prop))}{D:List Nat}{i j:Nat}{v:Value}(hD:vq al D)(hj:j∈D)(hi:i∉D)(h:aF2 al e0 val σ chk j):aF2 al e0 (upd val i v) σ chk j:=by
 obtain⟨x,p,h1,h2,h3⟩:=h;have hv: ∀k∈D,Ab.upd val i v k=val k:=fun k hk=>zF fun(e:k=i)=>hi (e▸hk)
 have hs:=cn7 (e0:=e0) hD hj hv;refine⟨x,p,h1,h2, ?_⟩;rw[hs,hv j hj];exact h3
theorem aF2.more {e0:dM}{val:Nat→Value}{σ:Hp}{chk chk':List (Nat×(Hp→Prop))}{j:Nat}(h:aF2 al e0 val σ chk j)(hc: ∀c∈chk,c∈chk'):aF2 al e0 val σ chk' j:=by
 obtain⟨x,p,h1,h2,h3⟩:=h;refine⟨x,p,h1,h2,h3.imp (fun⟨k1,k2,k3⟩=>⟨k1,k2,fun hl=> ?_⟩) id⟩;obtain⟨c,k4,k5⟩:=k3 hl;exact⟨c,hc _ k4,k5⟩
theorem bq2 {Q:dM→Hp→Prop}(hok:ym al=true){e0:dM}{σ:Hp}{L:List Nat}: ∀(f:Nat) (val:Nat→Value) (D:List Nat) (chk:List (Nat×(Hp→Prop))) (e:dM),wpD T Q al f D chk e σ→left al.length D≤f→e=gF al e0 val D→
  Inv al e0 val σ chk D L→∃f' val' D' chk',wpD T Q al f' D' chk' (gF al e0 val' D') σ∧left al.length D'≤f'∧Inv al e0 val' σ chk' D' L∧gN al D'=none∧(∀i∈D,val' i=val i)∧∀i∈D,i∈D'
 |0,val,D,chk,e,h,hf,he,hI=>by
  have hall: ∀i,i<al.length→i∈D:=fun i hi=>aC4 (by omega) hi
  refine⟨0,val,D,chk,by rw[←he];exact h,hf,hI, ?_,fun _ _=>rfl,fun _ hi=>hi⟩;cases hn:gN al D with
  |none=>rfl
  |some i=>exact absurd (hall i (uu hn).1) (uu hn).2.1
 |f+1,val,D,chk,e,h,hf,he,hI=>by
  cases hn:gN al D with
  |none=>exact⟨f+1,val,D,chk,by rw[←he];exact h,hf,hI,hn,fun _ _=>rfl,fun _ hi=>hi⟩
  |some i=>
   obtain⟨h1,h2,h3,h4⟩:=uu hn;simp only[wpD,hn]at h;split at h
   ·rename_i x p hx;have hst:x.op.still=true:=by simpa[yF,hx]using h4
    have hlooks: ∀t∈x.looks,e t=af8 al e0 val i t:=by
     intro t ht;rw[he];exact bv0 hok hI.dc h1 h2 h3 (by simpa[aj2,hx]using ht)
    have hdst:kn al i=x.dst:=by simp[kn,hx]
    have hleft:left al.length (i::D)≤f:=by have:=aC3 h1 h2;omega
    have hDc:vq al (i::D):=by
     intro k hk q hq;rcases List.mem_cons.1 hk with rfl|hk
     ·exact aB _ (h3 q hq)
     ·exact aB _ (hI.dc k hk q hq)
    have step: ∀(v:Value) (chk':List (Nat×(Hp→Prop))),wpD T Q al f (i::D) chk' (e.putO x.dst v) σ→(∀c∈chk,c∈chk')→aF2 al e0 (upd val i v) σ chk' i→
      ∃f' val' D' chk',wpD T Q al f' D' chk' (gF al e0 val' D') σ∧left al.length D'≤f'∧Inv al e0 val' σ chk' D' L∧gN al D'=none∧(∀i∈D,val' i=val i)∧∀i∈D,i∈D':=by
     intro v chk' hw hc ht;have hval: ∀k∈D,upd val i v k=val k:=fun k hk=>zF fun(e:k=i)=>h2 (e▸hk)
     have henv:e.putO x.dst v=gF al e0 (upd val i v) (i::D):=by
      rw[ue hok i h2,ai2 hval,hdst,←he]
      congr 1
      exact(zE rfl).symm
     obtain⟨f',val',D',chk'',g1,g2,g3,g4,g5,g6⟩:=bq2 hok f (upd val i v) (i::D) chk' _ hw hleft henv ⟨hDc,hI.lc,fun k hk=>aB _ (hI.sub k hk),fun k hk=>(List.mem_cons.1 hk).elim (fun e=>e▸h1) (hI.lt k),fun j hj hjL=>by
      rcases List.mem_cons.1 hj with rfl|hj
      ·exact ht
      ·exact((hI.tells j hj hjL).upd hI.dc hj h2).more hc⟩
     exact⟨f',val',D',chk'',g1,g2,g3,g4,fun k hk=>(g5 k (aB _ hk)).trans (hval k hk),fun k hk=>g6 k (aB _ hk)⟩
    have hseen: ∀v,af8 al e0 (upd val i v) i=af8 al e0 val i:=by
     intro v
     funext t
     unfold af8;cases hf':(aX al.length).find? (fun k=>kn al k==some t&&sf al k i)with
     |none=>rfl
     |some k=>
      have:=aY hf';simp only[aW,beq_iff_eq]at this;exact zF fun(e:k=i)=>h2 (e▸hI.dc.bef _ _ this.2 h3)
    have hw0:=yJ hlooks;have hr0: ∀σ',x.op.run e σ'=x.op.run (af8 al e0 val i) σ':=fun σ'=>aD1 fun t ht=>hlooks t (by simp[AOper.looks,ht])
    split at h
    ·rename_i hwant;split at h
     ·rename_i v σ1 hrun;obtain rfl:=ar4 hst hrun;refine step v _ h (fun c hc=>by split<;>simp[hc]) ⟨x,p,hx,hst, .inl ⟨by rw[hseen,←hw0];exact hwant,by rw[hseen,←hr0];rw[hrun];congr 2;exact(zE rfl).symm,fun hl=> ?_⟩⟩;refine⟨_,by rw[zE hl];exact aD ..,fun σ' hσ'=> ?_⟩;rw[hseen,←hr0,hσ']
      congr 2
      exact(zE rfl).symm
     ·exact h.elim
    ·rename_i hwant;exact step undef chk h (fun c hc=>hc) ⟨x,p,hx,hst, .inr ⟨by rw[hseen,←hw0];simpa using hwant,zE rfl⟩⟩
   ·exact h.elim
theorem aC2 {m:Nat}{σ:Hp}: ∀{chk:List (Nat×(Hp→Prop))},yW al m σ chk→∀j c,(j,c)∈chk→sf al j m=false→c σ
 |[],_,j,c,h,_=>by cases h
 |(i,d)::r,hk,j,c,h,hb=>by
  simp only[yW]at hk;rcases List.mem_cons.1 h with h|h
  ·injection h with h1 h2
   subst h1 h2;rw[zF (by simp[hb])]at hk;exact hk.1
  ·split at hk
   ·exact aC2 hk j c h hb
   ·exact aC2 hk.2 j c h hb
theorem Fits.ready (hF:Fits P N ops al){listed:Array Bool}{L:List Nat}(hs:listed.size=ops.size)(hL: ∀i,i<ops.size→(listed.getD i false=true↔i∈L))(hlt: ∀i∈L,i<ops.size){i:Nat}:
  i∈Region.ready .any ops listed↔i<al.length∧i∉L∧∀q∈gv al i,q∈L:=by
 have hg: ∀k,listed.getD k false=true↔k∈L:=by
  intro k;by_cases hk:k<ops.size
  ·exact hL k hk
  ·constructor
   ·intro h;have:listed.getD k false=false:=by simp[Array.getElem?_eq_none (show listed.size≤k by omega)]
    rw[this]at h;cases h
   ·intro h;exact absurd (hlt k h) hk
 rw[mem_ready];constructor
 ·rintro⟨h1,o,h2,h3⟩;have hi:i<ops.size:=(Array.getElem?_eq_some_iff.1 h2).1;refine⟨hF.len▸hi,fun h=> ?_,fun q hq=> ?_⟩
  ·have h4:=(hg i).2 h;rw[ca0 h1]at h4;cases h4
  ·obtain⟨e,h4,h5,rfl⟩:=(hF.pred i o h2 q).1 hq;exact(hg _).1 (h3 e h4 h5)
 ·rintro⟨h1,h2,h3⟩;have hi:i<ops.size:=hF.len▸h1;refine⟨cs4 (by omega) ?_,ops[i],Array.getElem?_eq_getElem hi,fun e he hb=>(hg _).2 (h3 _ ((hF.pred i _ (Array.getElem?_eq_getElem hi) _).2 ⟨e,he,hb,rfl⟩))⟩;cases hh:listed.getD i false with
  |true=>exact absurd ((hg i).1 hh) h2
  |false=>rfl
theorem cr3 (hT: ∀f,yQ P f (T f))(hF:Fits P N ops al)(hok:ym al=true){Q:AExit→dM→Hp→Prop}{e0:dM}{μ0:Mu}{w0:World}: ∀(fuel:Nat) (f:Nat) (val:Nat→Value) (D L:List Nat) (chk:List (Nat×(Hp→Prop))) (listed:Array Bool) (σ:Hp) (μ:Mu) (a:Act) (w:World),
  wpD T (Q .normal) al f D chk (gF al e0 val D) σ→left al.length D≤f→left al.length L≤fuel→Inv al e0 val σ chk D L→listed.size=ops.size→(∀i,i<ops.size→(listed.getD i false=true↔i∈L))→
  R B μ σ w→fj μ N (gF al e0 val L) a.tmps→a.defers=[]→μ0.le μ→Below B w0 w→wpAny P .any ops (oN B N μ0 w0 Q) fuel listed a w:=by
 intro fuel;induction fuel with
 |zero=>
  intro f val D L chk listed σ μ a w h hf hfu hI hs hL hR he hd hμ hb;have hall: ∀i,i<al.length→i∈L:=fun i hi=>aC4 (by omega) hi
  have hlt: ∀i∈L,i<ops.size:=fun i hi=>by rw[hF.len];exact hI.lt i (hI.sub i hi)
  have hnil:Region.ready .any ops listed=[]:=by
   cases hr:Region.ready .any ops listed with
   |nil=>rfl
   |cons i r=>
    have:=(hF.ready hs hL hlt (i:=i)).1 (by rw[hr];exact aD ..);exact absurd (hall i this.1) this.2.1
  refine⟨hnil, ?_⟩;obtain⟨f',val',D',chk',g1,g2,g3,g4,g5,g6⟩:=bq2 (Q:=Q .normal) hok f val D chk _ h hf rfl hI
  have hq:Q .normal (gF al e0 val' D') σ:=by
   have hmv:ec al D'=[]:=by
    cases hm:ec al D' with
    |nil=>rfl
    |cons i r=>
     have:=uq.1 (show i∈ec al D' by rw[hm];exact aD ..);exact absurd (g6 i (hI.sub i (hall i this.1))) this.2.1
   cases f' with
   |zero=>exact g1
   |succ f'=>simp only[wpD,g4,hmv]at g1;exact g1
  have henv:gF al e0 val' D'=gF al e0 val L:=by
   funext t
   by_cases hx: ∃j,j<al.length∧kn al j=some t
   ·obtain⟨j,hj,hjt⟩:=hx;rw[nG hok (g6 j (hI.sub j (hall j hj))) hjt,nG hok (hall j hj) hjt,g5 j (hI.sub j (hall j hj))]
   ·rw[lJ (fun j _ hjt=>hx ⟨j,wG hjt,hjt⟩),lJ (fun j _ hjt=>hx ⟨j,wG hjt,hjt⟩)]
  rw[henv]at hq;exact⟨.normal,_,σ,μ,trivial,hq,hμ,hR,he,hd,hb⟩
 |succ fuel ih=>
  intro f val D L chk listed σ μ a w h hf hfu hI hs hL hR he hd hμ hb;have hlt: ∀i∈L,i<ops.size:=fun i hi=>by rw[hF.len];exact hI.lt i (hI.sub i hi)
  obtain⟨f',val',D',chk',g1,g2,g3,g4,g5,g6⟩:=bq2 (Q:=Q .normal) hok f val D chk _ h hf rfl hI;have hvL: ∀i∈L,val' i=val i:=fun i hi=>g5 i (hI.sub i hi)
  have he':fj μ N (gF al e0 val' L) a.tmps:=by rw[ai2 hvL];exact he
  have hL': ∀i,i<ops.size→∀(hi:i∉L),(∀k,k<ops.size→((listed.setIfInBounds i true).getD k false=true↔k∈i::L)):=by
   intro i hi hiL k hk;by_cases e:k=i
   ·subst e;simp[hs,hk]
   ·rw[getD_set_ne false (fun e'=>e e'.symm)];rw[hL k hk];simp[e]
  have hLc: ∀i,(∀q∈gv al i,q∈L)→vq al (i::L):=by
   intro i hp k hk q hq;rcases List.mem_cons.1 hk with rfl|hk
   ·exact aB _ (hp q hq)
   ·exact aB _ (hI.lc k hk q hq)
  refine⟨fun hnil=> ?_,fun i hi=> ?_⟩
  ·
   have hDL: ∀j∈D',j∈L:=by
    intro j;induction j using Nat.strongRecOn with
    |_ j ihj=>
     intro hj;by_cases hjL:j∈L
     ·exact hjL
     ·exfalso;have hr:=(hF.ready hs hL hlt (i:=j)).2 ⟨g3.lt j hj,hjL,fun q hq=>ihj q (bA6 hok (g3.lt j hj) hq) (g3.dc j hj q hq)⟩;rw[hnil]at hr;cases hr
   have hq:Q .normal (gF al e0 val' D') σ:=by
    have hmv:ec al D'=[]:=by
     cases hm:ec al D' with
     |nil=>rfl
     |cons i r=>
      exfalso;have:=uq.1 (show i∈ec al D' by rw[hm];exact aD ..);have hr:=(hF.ready hs hL hlt (i:=i)).2 ⟨this.1,fun h=>this.2.1 (g3.sub i h),fun q hq=>hDL q (this.2.2.1 q hq)⟩;rw[hnil]at hr;cases hr
    cases f' with
    |zero=>exact g1
    |succ f'=>simp only[wpD,g4,hmv]at g1;exact g1
   have henv:gF al e0 val' D'=gF al e0 val' L:=by
    funext t
    by_cases hx: ∃j∈L,kn al j=some t
    ·obtain⟨j,hj,hjt⟩:=hx;rw[nG hok (g3.sub j hj) hjt,nG hok hj hjt]
    ·rw[lJ (fun j hj hjt=>hx ⟨j,hDL j hj,hjt⟩),lJ (fun j hj hjt=>hx ⟨j,hj,hjt⟩)]
   rw[henv]at hq;exact⟨.normal,_,σ,μ,trivial,hq,hμ,hR,he',hd,hb⟩
  ·
   obtain⟨k1,k2,k3⟩:=(hF.ready hs hL hlt).1 hi;have hio:i<ops.size:=hF.len▸k1;have hoi:ops[i]?=some ops[i]:=Array.getElem?_eq_getElem hio;obtain⟨x,hx,htr⟩:=hF.op i _ hoi;have hfu':left al.length (i::L)≤fuel:=by have:=aC3 k1 k2;omega
   have hs':(listed.setIfInBounds i true).size=ops.size:=by simpa using hs
   have hdst:kn al i=x.dst:=by simp[kn,hx]
   unfold aE0 at htr;split at htr
   case h_2=>cases htr
   rename_i op g t1 t2;split at htr
   case isFalse=>cases htr
   rename_i t3;injection htr with htr
   subst htr
   have hlooks: ∀t∈(⟨ops[i].dst,op,g⟩:AOper).looks,gF al e0 val' L t=af8 al e0 val' i t:=by
    intro t ht;exact bv0 hok g3.lc k1 k2 k3 (by simpa[aj2,hx]using ht)
   have hwant:=bj5 (op:=op) t2 he';rw[yJ hlooks]at hwant;unfold wpOp;rw[hoi];simp only;rw[hwant];by_cases hiD:i∈D'
   ·
    obtain⟨x',p,y1,y2,y3⟩:=g3.tells i hiD k2;rw[hx]at y1;injection y1 with y1
    injection y1 with y1 _
    subst y1
    have hInv': ∀(μ':Mu) (w':World),Inv al e0 val' σ chk' D' (i::L):=fun μ' w'=>
     ⟨g3.dc,hLc i k3,fun k hk=>(List.mem_cons.1 hk).elim (fun e=>e▸hiD) (g3.sub k),g3.lt,fun j hj hjL=>g3.tells j hj fun h=>hjL (aB _ h)⟩
    rcases y3 with⟨y4,y5,_⟩|⟨y4,y5⟩
    ·rw[y4];rw[zE rfl];left
     have hrun:dv T op (gF al e0 val' L) σ fun v σ'=>v=val' i∧σ'=σ:=by
      have:op.run (gF al e0 val' L) σ=some (val' i,σ):=by
       rw[aD1 (e':=af8 al e0 val' i) fun t ht=>hlooks t (by simp[AOper.looks,ht])];exact y5
      unfold dv;cases op<;>simp[AOp.still]at y2<;>simp only[this]<;>exact⟨trivial,trivial⟩
     refine aX1 hT t1 hrun he' hR fun v σ' v' μ' w' hk hμ' hR' hv hbel=> ?_
     obtain⟨rfl,rfl⟩:=hk;refine ih f' val' D' (i::L) chk' _ σ' μ' _ w' g1 g2 hfu' (hInv' μ' w') hs' (hL' i hio k2) hR' ?_ (by rw[qF];exact hd) (Mu.le_trans hμ hμ') (hb.trans hbel);rw[ue hok i k2,hdst];exact(he'.mono hμ').putO t3 hv
    ·rw[y4];simp only[Bool.false_eq_true,if_false];refine ih f' val' D' (i::L) chk' _ σ μ _ w g1 g2 hfu' (hInv' μ w) hs' (hL' i hio k2) hR ?_ (by rw[qF];exact hd) hμ hb;rw[ue hok i k2,hdst,y5];exact he'.putO t3 (VR.undef μ)
   ·
    have hpD: ∀q∈gv al i,q∈D':=fun q hq=>g3.sub q (k3 q hq)
    have hst:=aV5 g4 k1 hiD hpD;have hmem:i∈ec al D':=uq.2 ⟨k1,hiD,hpD,hst⟩
    have hlooksD: ∀t∈(⟨ops[i].dst,op,g⟩:AOper).looks,gF al e0 val' D' t=af8 al e0 val' i t:=by
     intro t ht;exact bv0 hok g3.dc k1 hiD hpD (by simpa[aj2,hx]using ht)
    have hsame: ∀t∈(⟨ops[i].dst,op,g⟩:AOper).looks,gF al e0 val' D' t=gF al e0 val' L t:=fun t ht=>(hlooksD t ht).trans (hlooks t ht).symm
    obtain⟨f'',rfl⟩: ∃f'',f'=f''+1:=⟨f'-1,by have:=ci9 k1 hiD;omega⟩
    have hleft:left al.length (i::D')≤f'':=by have:=aC3 k1 hiD;omega
    simp only[wpD,g4]at g1
    have hcomp:(if wanted ⟨ops[i].dst,op,g⟩ (gF al e0 val' D')then dv T op (gF al e0 val' D') σ fun v σ'=>yW al i σ' chk'∧wpD T (Q .normal) al f'' (i::D') chk' ((gF al e0 val' D').putO ops[i].dst v) σ'
      else wpD T (Q .normal) al f'' (i::D') chk' ((gF al e0 val' D').putO ops[i].dst undef) σ):=by
     cases hm:ec al D' with
     |nil=>rw[hm]at hmem;cases hmem
     |cons m r=>
      rw[hm]at g1 hmem;simp only at g1;have:=bz2 g1 i hmem;simp only[hx]at this;exact this
    rw[yJ hlooksD]at hcomp
    have hDc:vq al (i::D'):=by
     intro k hk q hq;rcases List.mem_cons.1 hk with rfl|hk
     ·exact aB _ (hpD q hq)
     ·exact aB _ (g3.dc k hk q hq)
    have hlag: ∀j∈i::D',j∉i::L→j∈D'∧j∉L:=fun j hj hjL=>
     ⟨(List.mem_cons.1 hj).elim (fun e=>absurd (e▸aD ..) hjL) id,fun h=>hjL (aB _ h)⟩
    have hval: ∀v,∀k∈D',upd val' i v k=val' k:=fun v k hk=>zF fun(e:k=i)=>hiD (e▸hk)
    have henvD: ∀v,(gF al e0 val' D').putO ops[i].dst v=gF al e0 (upd val' i v) (i::D'):=by
     intro v;rw[ue hok i hiD,ai2 (hval v),hdst]
     congr 1
     exact(zE rfl).symm
    have henvL: ∀v,(gF al e0 val' L).putO ops[i].dst v=gF al e0 (upd val' i v) (i::L):=by
     intro v;rw[ue hok i k2,ai2 (fun k hk=>hval v k (g3.sub k hk)),hdst]
     congr 1
     exact(zE rfl).symm
    split at hcomp
    ·rename_i hw1;rw[hw1,zE rfl];left;refine aX1 hT t1 (bF9 (fun t ht=>hsame t (by simp[AOper.looks,ht])) hcomp) he' hR fun v σ' v' μ' w' hk hμ' hR' hv hbel=> ?_
     obtain⟨hk1,hk2⟩:=hk;rw[henvD v]at hk2;refine ih f'' (upd val' i v) (i::D') (i::L) chk' _ σ' μ' _ w' hk2 hleft hfu' ⟨hDc,hLc i k3,fun k hk=>(List.mem_cons.1 hk).elim (fun e=>e▸aD ..) fun h=>aB _ (g3.sub k h),fun k hk=>(List.mem_cons.1 hk).elim (fun e=>e▸k1) (g3.lt k),fun j hj hjL=> ?_⟩ hs' (hL' i hio k2) hR' ?_ (by rw[qF];exact hd) (Mu.le_trans hμ hμ') (hb.trans hbel)
     ·obtain⟨hjD,hjL'⟩:=hlag j hj hjL;have ht:=(g3.tells j hjD hjL').upd (i:=i) (v:=v) g3.dc hjD hiD;obtain⟨x',p,z1,z2,z3⟩:=ht;refine⟨x',p,z1,z2,z3.imp (fun⟨z4,z5,z6⟩=>⟨z4, ?_,z6⟩) id⟩;cases hl:x'.op.isLoad with
      |false=>exact cd1 z2 hl z5 σ'
      |true=>
       obtain⟨c,z7,z8⟩:=z6 hl;refine z8 σ' (aC2 hk1 j c z7 ?_);cases hbf:sf al j i with
       |false=>rfl
       |true=>exact absurd (g3.lc.bef _ _ hbf k3) hjL'
     ·rw[←henvL v];exact(he'.mono hμ').putO t3 hv
    ·rename_i hw1;rw[zF hw1];rw[henvD undef]at hcomp;refine ih f'' (upd val' i undef) (i::D') (i::L) chk' _ σ μ _ w hcomp hleft hfu' ⟨hDc,hLc i k3,fun k hk=>(List.mem_cons.1 hk).elim (fun e=>e▸aD ..) fun h=>aB _ (g3.sub k h),fun k hk=>(List.mem_cons.1 hk).elim (fun e=>e▸k1) (g3.lt k),fun j hj hjL=> ?_⟩ hs' (hL' i hio k2) hR ?_ (by rw[qF];exact hd) hμ hb
     ·obtain⟨hjD,hjL'⟩:=hlag j hj hjL;exact(g3.tells j hjD hjL').upd g3.dc hjD hiD
     ·rw[←henvL undef];exact he'.putO t3 (VR.undef μ)
end
end
section
open Go.RowKit
def oq (T:fB):Prop:= ∀f args σ (K K':Value→Hp→Prop),(∀r σ',K r σ'→K' r σ')→T f args σ K→T f args σ K'
theorem lu {T:fB}(hT:oq T){op:AOp}{e:dM}{σ:Hp}{k k':Value→Hp→Prop}(hk: ∀v σ',k v σ'→k' v σ')(h:dv T op e σ k):dv T op e σ k':=by
 unfold dv at*;cases op<;>simp only at h⊢
 case call f xs=>exact hT _ _ _ _ _ hk h
 case callv f xs=>
  split at h
  ·exact hT _ _ _ _ _ hk h
  ·exact h.elim
 all_goals
  split at h
  ·exact hk _ _ h
  ·exact h.elim
section
variable {T:fB}
theorem yK (hT:oq T){Q Q':dM→Hp→Prop}(hq: ∀e σ,Q e σ→Q' e σ): ∀(l:List AOper) (e:dM) (σ:Hp),uz T Q l e σ→uz T Q' l e σ
 |[],e,σ,h=>hq e σ h
 |o::l,e,σ,h=>by
  simp only[uz]at h⊢;split at h
  ·rename_i hw;rw[zE hw];exact lu hT (fun v σ' hk=>yK hT hq l _ σ' hk) h
  ·rename_i hw;rw[zF hw];exact yK hT hq l _ σ h
theorem bf2 {f g:Nat→Prop}(h: ∀m,f m→g m): ∀{l:List Nat},bd7 f l→bd7 g l
 |[],_=>trivial
 |[_],hf=>h _ hf
 |_::_::_,hf=>⟨h _ hf.1,bf2 h hf.2⟩
theorem ah2 (hT:oq T){Q Q':dM→Hp→Prop}(hq: ∀e σ,Q e σ→Q' e σ){ops:List (AOper×List Nat)}: ∀(f:Nat) (done:List Nat) (chk:List (Nat×(Hp→Prop))) (e:dM) (σ:Hp),wpD T Q ops f done chk e σ→wpD T Q' ops f done chk e σ
 |0,done,chk,e,σ,h=>hq e σ h
 |f+1,done,chk,e,σ,h=>by
  simp only[wpD]at h⊢;split at h
  ·split at h
   ·split at h
    ·rename_i hw;rw[zE hw];split at h
     ·exact ah2 hT hq f _ _ _ _ h
     ·exact h.elim
    ·rename_i hw;rw[zF hw];exact ah2 hT hq f _ _ _ _ h
   ·exact h.elim
  ·split at h
   ·exact hq e σ h
   ·refine bf2 (fun m hm=> ?_) h;split at hm
    ·split at hm
     ·rename_i hw;rw[zE hw];exact lu hT (fun v σ' hk=>⟨hk.1,ah2 hT hq f _ _ _ _ hk.2⟩) hm
     ·rename_i hw;rw[zF hw];exact ah2 hT hq f _ _ _ _ hm
    ·exact hm.elim
theorem ah3 (hT:oq T){Q Q':dM→Hp→Prop}(hq: ∀e σ,Q e σ→Q' e σ): ∀(l:List SItem) (chk:List (Nat×(Hp→Prop))) (e:dM) (σ:Hp),wpI T Q l chk e σ→wpI T Q' l chk e σ
 |[],_,e,σ,h=>hq e σ h
 |it::l,chk,e,σ,h=>by
  simp only[wpI]at h⊢;split at h
  ·rename_i hw;rw[zE hw];split at h
   ·rename_i hm;rw[zE hm];exact lu hT (fun v σ' hk=>⟨hk.1,ah3 hT hq l _ _ σ' hk.2⟩) h
   ·rename_i hm;rw[zF hm];split at h
    ·exact ah3 hT hq l _ _ σ h
    ·exact h.elim
  ·rename_i hw;rw[zF hw];exact ah3 hT hq l _ _ σ h
theorem ah4 {f:(AExit→dM→Hp→Prop)→dM→Hp→Prop}(hf: ∀(Q Q':AExit→dM→Hp→Prop),(∀x e σ,Q x e σ→Q' x e σ)→∀e σ,f Q e σ→f Q' e σ){Q Q':AExit→dM→Hp→Prop}(hq: ∀x e σ,Q x e σ→Q' x e σ):
  ∀(n:Nat) (e:dM) (σ:Hp),iJ f Q n e σ→iJ f Q' n e σ
 |0,_,_,h=>h.elim
 |n+1,e,σ,h=>by
  simp only[iJ]at h⊢;refine hf _ _ (fun x e' σ' hx=> ?_) e σ h;cases x with
  |normal=>exact ah4 hf hq n e' σ' hx
  |exit id=>exact hq _ _ _ hx
  |ret=>exact hq _ _ _ hx
theorem fC (hT:oq T): ∀(c:AC) (Q Q':AExit→dM→Hp→Prop),(∀x e σ,Q x e σ→Q' x e σ)→∀(e:dM) (σ:Hp),sK T c Q e σ→sK T c Q' e σ:=by
 intro c;induction c with
 |skip=>intro Q Q' hq e σ h;exact hq _ _ _ h
 |region ops=>intro Q Q' hq e σ h;exact yK hT (hq .normal) ops e σ h
 |draw ops=>intro Q Q' hq e σ h;exact ah2 hT (hq .normal) _ _ _ e σ h
 |sched its=>intro Q Q' hq e σ h;exact ah3 hT (hq .normal) its [] e σ h
 |seq a b iha ihb=>
  intro Q Q' hq e σ h;refine iha _ _ (fun x e' σ' hx=> ?_) e σ h;cases x with
  |normal=>exact ihb Q Q' hq e' σ' hx
  |exit id=>exact hq _ _ _ hx
  |ret=>exact hq _ _ _ hx
 |cond c a b iha ihb=>
  intro Q Q' hq e σ h;simp only[sK]at h⊢;split at h
  ·exact iha Q Q' hq e σ h
  ·exact ihb Q Q' hq e σ h
  ·exact h.elim
 |block id b ih=>
  intro Q Q' hq e σ h;refine ih _ _ (fun x e' σ' hx=> ?_) e σ h;cases x with
  |normal=>exact hq _ _ _ hx
  |exit i=>
   simp only at hx⊢;split at hx
   ·rename_i hi;rw[zE hi];exact hq _ _ _ hx
   ·rename_i hi;rw[zF hi];exact hq _ _ _ hx
  |ret=>exact hq _ _ _ hx
 |loop b ih=>
  intro Q Q' hq e σ h;obtain⟨n,hn⟩:=h;exact⟨n,ah4 (f:=sK T b) ih hq n e σ hn⟩
 |exit id=>intro Q Q' hq e σ h;exact hq _ _ _ h
 |ret=>intro Q Q' hq e σ h;exact hq _ _ _ h
def AC.outs :AC→Nat→Bool
 | .seq a b,i| .cond _ a b,i=>a.outs i||b.outs i
 | .block id b,i=>b.outs i&& !(i==id)
 | .loop b,i=>b.outs i
 | .exit j,i=>i==j
 |_,_=>false
def bJ3 (c:AC)(Q:AExit→dM→Hp→Prop):AExit→dM→Hp→Prop:=fun x e σ=>(∀i,x= .exit i→c.outs i=true)∧Q x e σ
theorem af4 {c:AC}{Q:AExit→dM→Hp→Prop}:bJ3 c Q .normal=Q .normal:=by
 funext e σ
 exact propext ⟨fun h=>h.2,fun h=>⟨fun i hi=>(by cases hi),h⟩⟩
theorem aH2 {f:(AExit→dM→Hp→Prop)→dM→Hp→Prop}{b:AC}(hf: ∀(Q Q':AExit→dM→Hp→Prop),(∀x e σ,Q x e σ→Q' x e σ)→∀e σ,f Q e σ→f Q' e σ)
  (ho: ∀Q e σ,f Q e σ→f (bJ3 b Q) e σ) {Q:AExit→dM→Hp→Prop}: ∀(n:Nat) (e:dM) (σ:Hp),iJ f Q n e σ→iJ f (bJ3 b Q) n e σ
 |0,_,_,h=>h.elim
 |n+1,e,σ,h=>by
  simp only[iJ]at h⊢;refine hf _ _ (fun x e' σ' hx=> ?_) e σ (ho _ e σ h);obtain⟨h1,h2⟩:=hx;cases x with
  |normal=>exact aH2 hf ho n e' σ' h2
  |exit id=>exact⟨h1,h2⟩
  |ret=>exact⟨h1,h2⟩
theorem bI5 (hT:oq T): ∀(c:AC) (Q:AExit→dM→Hp→Prop) (e:dM) (σ:Hp),sK T c Q e σ→sK T c (bJ3 c Q) e σ:=by
 intro c;induction c with
 |skip=>intro Q e σ h;exact⟨fun i hi=>(by cases hi),h⟩
 |region ops=>intro Q e σ h;simp only[sK]at h⊢;rw[af4];exact h
 |draw ops=>intro Q e σ h;simp only[sK]at h⊢;rw[af4];exact h
 |sched its=>intro Q e σ h;simp only[sK]at h⊢;rw[af4];exact h
 |seq a b iha ihb=>
  intro Q e σ h;simp only[sK]at h⊢;refine fC hT a _ _ (fun x e' σ' hx=> ?_) e σ (iha _ e σ h);obtain⟨h1,h2⟩:=hx;cases x with
  |normal=>exact fC hT b _ _ (fun x e σ hx=>⟨fun i hi=>by rw[AC.outs,hx.1 i hi,Bool.or_true],hx.2⟩) e' σ' (ihb Q e' σ' h2)
  |exit id=>exact⟨fun i hi=>by rw[AC.outs,h1 i hi,Bool.true_or],h2⟩
  |ret=>exact⟨fun i hi=>(by cases hi),h2⟩
 |cond c a b iha ihb=>
  intro Q e σ h;simp only[sK]at h⊢;split at h
  ·exact fC hT a _ _ (fun x e σ hx=>⟨fun i hi=>by rw[AC.outs,hx.1 i hi,Bool.true_or],hx.2⟩) e σ (iha Q e σ h)
  ·exact fC hT b _ _ (fun x e σ hx=>⟨fun i hi=>by rw[AC.outs,hx.1 i hi,Bool.or_true],hx.2⟩) e σ (ihb Q e σ h)
  ·exact h.elim
 |block id b ih=>
  intro Q e σ h;simp only[sK]at h⊢;refine fC hT b _ _ (fun x e' σ' hx=> ?_) e σ (ih _ e σ h);obtain⟨h1,h2⟩:=hx;cases x with
  |normal=>exact⟨fun i hi=>(by cases hi),h2⟩
  |exit i=>
   simp only at h2⊢;split at h2
   ·rename_i hi;rw[zE hi];exact⟨fun i hi=>(by cases hi),h2⟩
   ·rename_i hi;rw[zF hi];refine⟨fun j hj=> ?_,h2⟩;injection hj with hj
    subst hj;rw[AC.outs,h1 i rfl];simp[hi]
  |ret=>exact⟨fun i hi=>(by cases hi),h2⟩
 |loop b ih=>
  intro Q e σ h;obtain⟨n,hn⟩:=h;exact⟨n,aH2 (f:=sK T b) (fC hT b) ih n e σ hn⟩
 |exit id=>
  intro Q e σ h;refine⟨fun i hi=> ?_,h⟩;injection hi with hi
  subst hi;simp[AC.outs]
 |ret=>intro Q e σ h;exact⟨fun i hi=>(by cases hi),h⟩
end
end
section
open Bool renaming and_eq_true → aW, or_eq_true → aX, false_eq_true → aY
open List renaming mem_cons_of_mem → aB, mem_cons_self → aD
open Go.RowKit
def aD9 (P:Program)(N:Nat)(ops:Array Oper):List Oper→Option DL
 |[]=>some []
 |o::r=>match aE0 P N ops o,aD9 P N ops r with
  |some x,some l=>some ((x,(o.after.toList.filter (Region.binds .any ·)).map (·.on))::l)
  |_,_=>none
def AC.outsL :AC→List Nat
 | .seq a b| .cond _ a b=>a.outsL++b.outsL
 | .block id b=>b.outsL.filter fun i=> !(i==id)
 | .loop b=>b.outsL
 | .exit j=>[j]
 |_=>[]
theorem cl8 : ∀(c:AC) (i:Nat),c.outs i=true→i∈c.outsL:=by
 intro c;induction c with
 |seq a b iha ihb=>
  intro i h;simp only[AC.outs,aX]at h;exact List.mem_append.2 (h.elim (fun h=> .inl (iha i h)) fun h=> .inr (ihb i h))
 |cond c a b iha ihb=>
  intro i h;simp only[AC.outs,aX]at h;exact List.mem_append.2 (h.elim (fun h=> .inl (iha i h)) fun h=> .inr (ihb i h))
 |block id b ih=>
  intro i h;simp only[AC.outs,aW]at h;exact List.mem_filter.2 ⟨ih i h.1,h.2⟩
 |loop b ih=>intro i h;exact ih i h
 |exit j=>intro i h;simp[AC.outs]at h;simp[AC.outsL,h]
 |_=>intro i h;simp[AC.outs]at h
def AC.noJump (c:AC):Bool:=c.outsL.all fun i=>decide (i<yV)
theorem bi0 {c:AC}(h:c.noJump=true){i:Nat}(hi:c.outs i=true):i<yV:=by
 have:=List.all_eq_true.1 h i (cl8 c i hi);exact of_decide_eq_true this
def oL :Code→List Nat
 | .seq a b=>oL a++oL b
 | .label l=>[l]
 |_=>[]
theorem ae5 : ∀(c:Code) (l:Nat),l∉oL c→findLabel c l=none:=by
 intro c;induction c with
 |seq a b iha ihb=>
  intro l h;simp only[oL,List.mem_append,not_or]at h;simp only[findLabel,iha l h.1,ihb l h.2]
 |label l'=>
  intro l h;simp only[oL,List.mem_singleton]at h;simp only[findLabel];rw[zF (by simpa using fun e=>h e.symm)]
 |_=>intro l h;rfl
def aw0 (l:Nat):Code→Bool
 | .goto l'=>l'==l
 | .seq a b| .cond _ a b=>aw0 l a||aw0 l b
 | .block _ b| .loop b| .scope b=>aw0 l b
 |_=>false
def aj0 :Code→Option Nat
 | .label l=>some l
 |_=>none
theorem bt2 {c:Code}{l:Nat}(h:aj0 c=some l):c= .label l:=by
 cases c<;>simp[aj0]at h;rw[h]
def gE :Code→Option Nat
 | .seq a b=>match aj0 a with
  |some l=>if aw0 l b then some l else gE b
  |none=>gE b
 |_=>none
def vY (l:Nat):Nat:=yV+2*l
def th (l:Nat):Nat:=yV+2*l+1
def ct9 (l:Nat)(b:AC):AC:= .block (th l) (.loop (.block (vY l) (.seq b (.exit (th l)))))
def aw3 (a b:Code):Bool:=match gE b with
 |some l=> !(oL a).contains l
 |none=>true
def ng (x:Option AC):Option AC×Option AC:=(x,x)
def cF6 :Option AC→Option AC→Option AC
 |some a,some b=>some (.seq a b)
 |_,_=>none
def bP5 (a b:Code)(xa xb sb:Option AC):Option AC:=match aj0 a with
 |some l=>if aw0 l b then xb.map (ct9 l)else if aw3 a b then sb.map (.seq .skip)else none
 |none=>match xa,sb with
  |some x,some y=>if aw3 a b&&((gE b).isNone||x.noJump)then some (.seq x y)else none
  |_,_=>none
def tr2 (P:Program)(N:Nat):Code→Option AC×Option AC
 | .skip=>ng (some .skip)
 | .label _=>ng (some .skip)
 | .region _ ops draw=>ng (if draw then match aD9 P N ops ops.toList with
   |some l=>if ym l&&P.follows .mixedOrders then(match aj3 l l.length [] []with
    |some its=>some (.sched its)
    |none=>some (.draw l))else none
   |none=>none
  else(ay4 P N ops ops.toList).map .region)
 | .seq a b=>(cF6 (tr2 P N a).1 (tr2 P N b).1,bP5 a b (tr2 P N a).1 (tr2 P N b).1 (tr2 P N b).2)
 | .cond c a b=>ng (match uB c,(tr2 P N a).1,(tr2 P N b).1 with
  |some c,some a,some b=>some (.cond c a b)
  |_,_,_=>none)
 | .block id b=>ng (if id<yV then((tr2 P N b).1).map (.block id)else none)
 | .loop b=>ng (((tr2 P N b).1).map .loop)
 | .scope b=>ng (match(tr2 P N b).2 with
  |some ac=>if ac.noJump then some ac else none
  |none=>none)
 | .exit id=>ng (if id<yV then some (.exit id)else none)
 | .goto l=>ng (some (.exit (vY l)))
 | .ret=>ng (some .ret)
 |_=>ng none
def jM (P:Program)(N:Nat)(c:Code):Option AC:=(tr2 P N c).1
def bw0 (P:Program)(N:Nat)(c:Code):Option AC:=(tr2 P N c).2
section
variable {P:Program} {T:fB} {ops:Array Oper} {B:Base P} {N:Nat}
theorem aH0 : ∀{l:List Oper} {al:DL},aD9 P N ops l=some al→l.length=al.length∧∀(i:Nat) o,l[i]?=some o→∃x,al[i]?=some (x,(o.after.toList.filter (Region.binds .any ·)).map (·.on))∧aE0 P N ops o=some x
 |[],al,h=>by
  simp[aD9]at h;subst h;exact⟨rfl,fun i o h=>by simp at h⟩
 |o::l,al,h=>by
  simp only[aD9]at h;split at h
  ·rename_i x r h1 h2;injection h with h
   subst h;obtain⟨h3,h4⟩:=aH0 h2;refine⟨by simp[h3],fun i o' ho=> ?_⟩;cases i with
   |zero=>simp at ho;subst ho;exact⟨x,rfl,h1⟩
   |succ i=>simp at ho;simpa using h4 i o' ho
  ·cases h
theorem cs1 {al:DL}(h:aD9 P N ops ops.toList=some al):Fits P N ops al:=by
 obtain⟨h1,h2⟩:=aH0 h;refine⟨by simpa using h1,fun i o ho=> ?_,fun i o ho q=> ?_⟩
 ·obtain⟨x,h3,h4⟩:=h2 i o (by simpa using ho);refine⟨x, ?_,h4⟩;have:gv al i=(o.after.toList.filter (Region.binds .any ·)).map (·.on):=by simp[gv,h3]
  rw[this];exact h3
 ·obtain⟨x,h3,h4⟩:=h2 i o (by simpa using ho);have:gv al i=(o.after.toList.filter (Region.binds .any ·)).map (·.on):=by simp[gv,h3]
  rw[this];simp[and_assoc]
theorem bw5 {b:Code}{f:(AExit→dM→Hp→Prop)→dM→Hp→Prop}
  (hb: ∀(Q:AExit→dM→Hp→Prop) (e:dM) (σ:Hp) (μ:Mu) (a:Act) (w:World),f Q e σ→R B μ σ w→fj μ N e a.tmps→a.defers=[]→b.wp P (oN B N μ w Q) a w)
  {Q:AExit→dM→Hp→Prop} {μ0:Mu} {w0:World} {n:Nat} {e:dM} {σ:Hp} {μ:Mu} {a:Act} {w:World} (h:iJ f Q n e σ) (hR:R B μ σ w) (he:fj μ N e a.tmps) (hd:a.defers=[]) (hμ:μ0.le μ) (hbel:Below B w0 w):
  (Code.loop b).wp P (oN B N μ0 w0 Q) a w:=by
 intro bf k cs
 have key: ∀n e σ μ a w,iJ f Q n e σ→R B μ σ w→fj μ N e a.tmps→a.defers=[]→μ0.le μ→Below B w0 w→
   ∃x a' w',oN B N μ0 w0 Q x a' w'∧Arrives P (lone (bf.at a (.code b:: .inLoop b::k)) cs w) bf k cs x a' w':=by
  intro n;induction n with
  |zero=>intro e σ μ a w h;exact h.elim
  |succ n ih=>
   intro e σ μ a w h hR he hd hμ hbel;simp only[iJ]at h;obtain⟨x,a₁,w₁,hq,harr⟩:=hb _ e σ μ a w h hR he hd bf (.inLoop b::k) cs;obtain⟨ax,e1,σ1,μ1,hx,hq,h1,h2,h3,h4,h5⟩:=hq;cases ax with
   |normal=>
    cases x<;>simp[tf]at hx;obtain⟨x₂,a₂,w₂,hq₂,harr₂⟩:=ih e1 σ1 μ1 a₁ w₁ hq h2 h3 h4 (Mu.le_trans hμ h1) (hbel.trans h5);exact⟨x₂,a₂,w₂,hq₂, .of_steps (Steps.trans harr (.one step_inLoop)) harr₂⟩
   |exit id=>
    cases x with
    |exit j=>
     obtain⟨rfl,hj⟩:=hx;exact⟨.exit id,a₁,w₁,⟨.exit id,e1,σ1,μ1,⟨rfl,hj⟩,hq,Mu.le_trans hμ h1,h2,h3,h4,hbel.trans h5⟩, .pass (x:= .inLoop b) rfl (fun _ _=> .inl (by simp)) harr⟩
    |goto l=>exact⟨.goto l,a₁,w₁,⟨.exit id,e1,σ1,μ1,hx,hq,Mu.le_trans hμ h1,h2,h3,h4,hbel.trans h5⟩,fun k' hk=>harr k' (by simp[gotoIn,hk])⟩
    |_=>exact hx.elim
   |ret=>
    cases x<;>simp[tf]at hx;exact⟨.ret,a₁,w₁,⟨.ret,e1,σ1,μ1,trivial,hq,Mu.le_trans hμ h1,h2,h3,h4,hbel.trans h5⟩, .pass (x:= .inLoop b) rfl (fun _ _=> .inl (by simp)) harr⟩
 obtain⟨x,a',w',hq,harr⟩:=key n e σ μ a w h hR he hd hμ hbel;exact⟨x,a',w',hq, .of_steps (.one step_loop) harr⟩
theorem af6 {is:List Nat}{σ:Hp}: ∀{chk:List (Nat×(Hp→Prop))},ti is σ chk→∀i c,(i,c)∈chk→i∈is→c σ
 |[],_,i,c,h,_=>by cases h
 |(j,d)::r,hr,i,c,h,hi=>by
  simp only[ti]at hr;rcases List.mem_cons.1 h with h|h
  ·injection h with h1 h2
   subst h1 h2;rw[zE (by simpa using hi)]at hr;exact hr.1
  ·split at hr
   ·exact af6 hr.2 i c h hi
   ·exact af6 hr i c h hi
theorem um {al:DL}{m:Nat}{σ:Hp}: ∀{chk:List (Nat×(Hp→Prop))},(∀i c,(i,c)∈chk→sf al i m=false→c σ)→yW al m σ chk
 |[],_=>trivial
 |(j,d)::r,h=>by
  simp only[yW];split
  ·exact um fun i c hc=>h i c (aB _ hc)
  ·rename_i hb;exact⟨h j d (aD ..) (by simpa using hb),um fun i c hc=>h i c (aB _ hc)⟩
theorem bG0 {op:AOp}{e:dM}{σ:Hp}{k k':Value→Hp→Prop}(hT:oq T)(hk: ∀v σ',k v σ'→k' v σ')(h:dv T op e σ k):dv T op e σ k':=by
 unfold dv at*;cases op<;>simp only at h⊢
 case call f xs=>exact hT _ _ _ _ _ hk h
 case callv f xs=>
  split at h
  ·exact hT _ _ _ _ _ hk h
  ·exact h.elim
 all_goals
  split at h
  ·exact hk _ _ h
  ·exact h.elim
theorem ae9 (hT:oq T){Q:dM→Hp→Prop}{al:DL}: ∀(f:Nat) (done loads:List Nat) (its:List SItem) (chk chk':List (Nat×(Hp→Prop))) (e:dM) (σ:Hp),aj3 al f done loads=some its→wpI T Q its chk' e σ→
  (∀i c,(i,c)∈chk→i∈loads)→(∀i c,(i,c)∈chk→ci3 al i=true→(i,c)∈chk')→wpD T Q al f done chk e σ
 |0,done,loads,its,chk,chk',e,σ,h,hw,_,_=>by
  simp[aj3]at h;subst h;exact hw
 |f+1,done,loads,its,chk,chk',e,σ,h,hw,h1,h2=>by
  simp only[aj3]at h;simp only[wpD];split at h
  ·rename_i i hn;split at h
   ·rename_i o p ho;obtain⟨r,hr,h⟩:=Option.map_eq_some_iff.1 h;subst h;simp only[wpI]at hw;split at hw
    ·rename_i hwant;rw[zE hwant];simp only[aY,if_false]at hw;split at hw
     ·rename_i v σ1 hrun;refine ae9 hT f _ _ _ _ _ _ _ hr hw (fun j c hc=> ?_) (fun j c hc hk=> ?_)
      ·by_cases hl:o.op.isLoad=true
       ·rw[zE hl]at hc⊢;rcases List.mem_cons.1 hc with hc|hc
        ·injection hc with hc _
         subst hc;exact aD ..
        ·exact aB _ (h1 j c hc)
       ·rw[zF hl]at hc⊢;exact h1 j c hc
      ·by_cases hl:o.op.isLoad=true
       ·rw[zE hl]at hc;rcases List.mem_cons.1 hc with hc|hc
        ·have hj:j=i:=by injection hc
         subst hj;rw[zE (by simp[hl,hk]),hc];exact aD ..
        ·split
         ·exact aB _ (h2 j c hc hk)
         ·exact h2 j c hc hk
       ·rw[zF hl]at hc;split
        ·exact aB _ (h2 j c hc hk)
        ·exact h2 j c hc hk
     ·exact hw.elim
    ·rename_i hwant;rw[zF hwant];refine ae9 hT f _ _ _ _ _ _ _ hr hw (fun j c hc=> ?_) h2;split
     ·exact aB _ (h1 j c hc)
     ·exact h1 j c hc
   ·cases h
  ·rename_i hn;split at h
   ·rename_i hm;rw[hm];injection h with h
    subst h;exact hw
   ·rename_i m hm;rw[hm];simp only[bd7];split at h
    ·rename_i o p ho;obtain⟨r,hr,h⟩:=Option.map_eq_some_iff.1 h;subst h
     have hmv:bN1 al m=true:=by
      have:=(uq.1 (show m∈ec al done by rw[hm];exact aD ..)).2.2.2;simpa[yF,bN1,ho]using this
     have hml:m<al.length:=(uq.1 (show m∈ec al done by rw[hm];exact aD ..)).1;simp only[wpI]at hw⊢;split at hw
     ·rename_i hwant;rw[zE hwant];simp only[if_true]at hw;refine bG0 hT (fun v σ' hk=> ?_) hw;refine⟨um fun i c hc hb=> ?_,ae9 hT f _ _ _ _ _ _ _ hr hk.2 h1 h2⟩;have hkp:ci3 al i=true:=List.any_eq_true.2 ⟨m,List.mem_range.2 hml,by simp[hmv,hb]⟩;exact af6 hk.1 i c (h2 i c hc hkp) (by simp[h1 i c hc,hb])
     ·rename_i hwant;rw[zF hwant];exact ae9 hT f _ _ _ _ _ _ _ hr hw h1 h2
    ·cases h
   ·cases h
def aG5 (l:Nat)(J:Act→World→Prop)(Q:Exit→Act→World→Prop):Exit→Act→World→Prop
 | .goto l',a,w=>(l'=l∧J a w)∨(l'≠l∧Q (.goto l') a w)
 |x,a,w=>Q x a w
theorem bG3 {c rest:Code}{Q:Exit→Act→World→Prop}{a:Act}{w:World}(l:Nat)(J:Nat→Act→World→Prop)(hf:findLabel c l=some rest)(hQ: ∀l' a w,¬Q (.goto l') a w)
  (first:c.wp P (aG5 l (fun a w=> ∃n,J n a w) Q) a w) (pass: ∀n a w,J n a w→rest.wp P (aG5 l (fun a w=> ∃m,m<n∧J m a w) Q) a w):(Code.scope c).wp P Q a w:=by
 intro b k cs;have hg:gotoIn l (.inScope c::k)=some (.code rest:: .inScope c::k):=by simp[gotoIn,hf]
 have key: ∀n a w,J n a w→∃e a' w',Q e a' w'∧Arrives P (lone (b.at a (.code rest:: .inScope c::k)) cs w) b k cs e a' w':=by
  intro n;induction n using Nat.strongRecOn with
  |_ n ih=>
   intro a w hJ;obtain⟨e,a₁,w₁,hq,harr⟩:=pass n a w hJ b (.inScope c::k) cs;cases e with
   |normal=>exact⟨.normal,a₁,w₁,hq,Steps.trans harr (.one step_inScope)⟩
   |exit id=>exact⟨.exit id,a₁,w₁,hq,fun k' hk=>harr k' (by simp[exitTo,hk])⟩
   |goto l'=>
    rcases hq with⟨rfl,m,hlt,hJ'⟩|⟨_,hq⟩
    ·obtain⟨e₂,a₂,w₂,hq₂,harr₂⟩:=ih m hlt a₁ w₁ hJ';exact⟨e₂,a₂,w₂,hq₂, .of_steps (harr _ hg) harr₂⟩
    ·exact(hQ _ _ _ hq).elim
   |ret=>exact⟨_,a₁,w₁,hq,harr⟩
   |panic ch=>exact⟨_,a₁,w₁,hq,harr⟩
   |outgrown=>exact⟨_,a₁,w₁,hq,harr⟩
 obtain⟨e,a₁,w₁,hq,harr⟩:=first b (.inScope c::k) cs
 cases e with
 |normal=>exact⟨.normal,a₁,w₁,hq, .head step_scope (Steps.trans harr (.one step_inScope))⟩
 |exit id=>exact⟨.exit id,a₁,w₁,hq,fun k' hk=> .head step_scope (harr k' (by simp[exitTo,hk]))⟩
 |goto l'=>
  rcases hq with⟨rfl,n,hJ'⟩|⟨_,hq⟩
  ·obtain⟨e₂,a₂,w₂,hq₂,harr₂⟩:=key n a₁ w₁ hJ';exact⟨e₂,a₂,w₂,hq₂, .of_steps (.head step_scope (harr _ hg)) harr₂⟩
  ·exact(hQ _ _ _ hq).elim
 |ret=>exact⟨_,a₁,w₁,hq, .of_steps (.one step_scope) harr⟩
 |panic ch=>exact⟨_,a₁,w₁,hq, .of_steps (.one step_scope) harr⟩
 |outgrown=>exact⟨_,a₁,w₁,hq, .of_steps (.one step_scope) harr⟩
def Jst {P:Program}(B:Base P)(N:Nat)(μ0:Mu)(w0:World)(L:Nat→dM→Hp→Prop)(n:Nat):Act→World→Prop:=fun a w=>
 ∃e σ μ,L n e σ∧μ0.le μ∧R B μ σ w∧fj μ N e a.tmps∧a.defers=[]∧Below B w0 w
def Aok (P:Program)(T:fB)(B:Base P)(N:Nat)(c:Code):Prop:= ∀(ac:AC),jM P N c=some ac→∀(Q:AExit→dM→Hp→Prop) (e:dM) (σ:Hp) (μ:Mu) (a:Act) (w:World),sK T ac Q e σ→
  R B μ σ w→fj μ N e a.tmps→a.defers=[]→c.wp P (oN B N μ w Q) a w
def Sok (P:Program)(T:fB)(B:Base P)(N:Nat)(c:Code):Prop:= ∀(ac:AC),bw0 P N c=some ac→∀(Q:AExit→dM→Hp→Prop),
 (gE c=none→∀(e:dM) (σ:Hp) (μ:Mu) (a:Act) (w:World),sK T ac Q e σ→R B μ σ w→fj μ N e a.tmps→a.defers=[]→c.wp P (oN B N μ w Q) a w)∧
 (∀l,gE c=some l→∃rest L,findLabel c l=some rest∧∀μ0 w0,
  (∀(e:dM) (σ:Hp) (μ:Mu) (a:Act) (w:World),sK T ac Q e σ→R B μ σ w→fj μ N e a.tmps→a.defers=[]→μ0.le μ→Below B w0 w→c.wp P (aG5 l (fun a w=> ∃n,Jst B N μ0 w0 L n a w) (oN B N μ0 w0 Q)) a w)∧
  (∀n a w,Jst B N μ0 w0 L n a w→rest.wp P (aG5 l (fun a w=> ∃m,m<n∧Jst B N μ0 w0 L m a w) (oN B N μ0 w0 Q)) a w))
theorem Sok.of {c:Code}(h1:bw0 P N c=jM P N c)(h2:gE c=none)(h:Aok P T B N c):Sok P T B N c:=fun ac hac Q=>
 ⟨fun _=>h ac (h1▸hac) Q,fun l hl=>by rw[h2]at hl;cases hl⟩
theorem aC7 {μ:Mu}{w:World}{Q:AExit→dM→Hp→Prop}{x:Exit}{a':Act}{w':World}(h:oN B N μ w Q x a' w')(hx:x≠ .normal): ∃ax e' σ' μ',ax≠ .normal∧tf ax x∧Q ax e' σ'∧μ.le μ'∧R B μ' σ' w'∧fj μ' N e' a'.tmps∧a'.defers=[]∧Below B w w':=by
 obtain⟨ax,e',σ',μ',h1,h2,h3⟩:=h;refine⟨ax,e',σ',μ', ?_,h1,h2,h3⟩;rintro rfl;cases x<;>first|exact h1.elim|exact hx rfl
theorem cw5 {μ:Mu}{w:World}{Q Q':AExit→dM→Hp→Prop}{x:Exit}{a':Act}{w':World}(h:oN B N μ w Q x a' w')(hq: ∀ax e σ,tf ax x→Q ax e σ→Q' ax e σ):oN B N μ w Q' x a' w':=by
 obtain⟨ax,e',σ',μ',h1,h2,h3⟩:=h;exact⟨ax,e',σ',μ',h1,hq _ _ _ h1 h2,h3⟩
theorem bP1 {x y:Code}{a:Act}{w:World}{μ:Mu}{Q1:AExit→dM→Hp→Prop}{F:Exit→Act→World→Prop}(h:x.wp P (oN B N μ w Q1) a w)
  (hn: ∀e σ μ' a' w',Q1 .normal e σ→μ.le μ'→R B μ' σ w'→fj μ' N e a'.tmps→a'.defers=[]→Below B w w'→y.wp P F a' w')
  (ho: ∀x a' w',x≠ .normal→oN B N μ w Q1 x a' w'→F x a' w'):(Code.seq x y).wp P F a w:=by
 refine wp_seq (wp_mono h fun x' a' w' hx=> ?_);cases x' with
 |normal=>
  obtain⟨ax,e',σ',μ',h1,h2,h3,h4,h5,h6,h7⟩:=hx;cases ax with
  |normal=>exact hn e' σ' μ' a' w' h2 h3 h4 h5 h6 h7
  |exit i=>exact h1.elim
  |ret=>exact h1.elim
 |exit i=>exact ho _ a' w' (by simp) hx
 |goto l=>exact ho _ a' w' (by simp) hx
 |ret=>exact ho _ a' w' (by simp) hx
 |panic ch=>exact ho _ a' w' (by simp) hx
 |outgrown=>exact ho _ a' w' (by simp) hx
theorem bB9 {l:Nat}{J:Act→World→Prop}{F:Exit→Act→World→Prop}{x:Exit}{a:Act}{w:World}(hg:x= .goto l→J a w)(hF:x≠ .goto l→F x a w):aG5 l J F x a w:=by
 cases x with
 |goto l'=>
  by_cases hl:l'=l
  ·subst hl;exact .inl ⟨rfl,hg rfl⟩
  ·exact .inr ⟨hl,hF (by simpa using hl)⟩
 |_=>exact hF (by simp)
theorem aU7 {l:Nat}{J J':Act→World→Prop}{F F':Exit→Act→World→Prop}(hJ: ∀a w,J a w→J' a w)(hF: ∀x a w,F x a w→F' x a w){x:Exit}{a:Act}{w:World}(h:aG5 l J F x a w):aG5 l J' F' x a w:=by
 cases x with
 |goto l'=>
  rcases h with⟨h1,h2⟩|⟨h1,h2⟩
  ·exact .inl ⟨h1,hJ _ _ h2⟩
  ·exact .inr ⟨h1,hF _ _ _ h2⟩
 |_=>exact hF _ _ _ h
theorem cg7 (hM:oq T)(hT: ∀f,yQ P f (T f)): ∀(c:Code),Aok P T B N c∧Sok P T B N c:=by
 intro c;induction c with
 |skip=>
  refine(fun A=>⟨A,Sok.of rfl rfl A⟩) ?_;intro ac h Q e σ μ a w hw hR he hd;simp[jM,tr2,ng]at h;subst h;exact wp_skip ⟨.normal,e,σ,μ,trivial,hw,μ.le_refl,hR,he,hd,Below.refl _ _⟩
 |label l=>
  refine(fun A=>⟨A,Sok.of rfl rfl A⟩) ?_;intro ac h Q e σ μ a w hw hR he hd;simp[jM,tr2,ng]at h;subst h;exact wp_label ⟨.normal,e,σ,μ,trivial,hw,μ.le_refl,hR,he,hd,Below.refl _ _⟩
 |goto l=>
  refine(fun A=>⟨A,Sok.of rfl rfl A⟩) ?_;intro ac h Q e σ μ a w hw hR he hd;simp[jM,tr2,ng]at h;subst h;exact wp_goto ⟨.exit (vY l),e,σ,μ,rfl,hw,μ.le_refl,hR,he,hd,Below.refl _ _⟩
 |region id ops draw=>
  refine(fun A=>⟨A,Sok.of rfl rfl A⟩) ?_;intro ac h Q e σ μ a w hw hR he hd;simp only[jM,tr2,ng]at h;cases draw with
  |false=>
   simp only[aY,if_false]at h;obtain⟨al,h1,h⟩:=Option.map_eq_some_iff.1 h;subst h;exact wp_region_list (bu3 hT ops.toList al e σ μ a w h1 hw hR he hd μ.le_refl (Below.refl _ _))
  |true=>
   simp only[if_true]at h;split at h
   ·rename_i al h1;split at h
    ·rename_i h2
     have hw:wpD T (Q .normal) al al.length [] [] e σ:=by
      split at h
      ·rename_i its hits;injection h with h
       subst h;exact ae9 hM al.length [] [] its [] [] e σ hits hw (fun i c hc=>(by cases hc)) (fun i c hc=>(by cases hc))
      ·injection h with h
       subst h;exact hw
     simp only[aW]at h2;have hF:=cs1 h1;have hempty: ∀(val:Nat→Value),gF al e val []=e:=fun val=>funext fun t=>lJ fun i hi=>by cases hi
     refine wp_region_any h2.2 ?_;have hl:left al.length []≤al.length:=by unfold left;exact Nat.le_trans (List.length_filter_le _ _) (by simp)
     refine cr3 hT hF h2.1 (e0:=e) ops.size al.length (fun _=>undef) [] [] [] _ σ μ a _ (by rw[hempty];exact hw) hl (by rw[hF.len];exact hl) ⟨fun i hi=>(by cases hi),fun i hi=>(by cases hi),fun i hi=>(by cases hi),fun i hi=>(by cases hi),fun i hi=>(by cases hi)⟩ (by simp) (fun i hi=>by simp[hi]) (hR.same rfl) (by rw[hempty];exact he) hd μ.le_refl (Below.refl _ _).drew
    ·cases h
   ·cases h
 |seq x y ihx ihy=>
  refine⟨?_, ?_⟩
  ·intro ac h Q e σ μ a w hw hR he hd;have h:cF6 (jM P N x) (jM P N y)=some ac:=h;unfold cF6 at h;split at h
   ·rename_i ax ay h1 h2;injection h with h
    subst h;simp only[sK]at hw;have h1:jM P N x=some ax:=h1;have h2:jM P N y=some ay:=h2;refine bP1 (ihx.1 ax h1 _ e σ μ a w hw hR he hd) (fun e' σ' μ' a' w' hq g1 g2 g3 g4 g5=> ?_) fun x' a' w' hx hp=> ?_
    ·exact wp_mono (ihy.1 ay h2 Q e' σ' μ' a' w' hq g2 g3 g4) fun x'' a'' w'' h''=>h''.trans g1 g5
    ·obtain⟨axx,e',σ',μ',h0,h1',h2',h3'⟩:=aC7 hp hx;refine⟨axx,e',σ',μ',h1', ?_,h3'⟩;cases axx with
     |normal=>exact(h0 rfl).elim
     |exit i=>exact h2'
     |ret=>exact h2'
   ·cases h
  ·intro ac h Q;have h:bP5 x y (jM P N x) (jM P N y) (bw0 P N y)=some ac:=h;unfold bP5 at h;split at h
   ·rename_i l hl;obtain rfl:=bt2 hl;split at h
    ·
     rename_i hg;obtain⟨yc,h1,h⟩:=Option.map_eq_some_iff.1 h;subst h;have hll:gE (.seq (.label l) y)=some l:=by simp[gE,aj0,hg]
     refine⟨fun hn=>(by rw[hll]at hn;cases hn),fun l' hl'=> ?_⟩;rw[hll]at hl';injection hl' with hl'
     subst hl'
     let Q1:AExit→dM→Hp→Prop:=fun x e σ=>match x with
      | .exit i=>if i=th l then Q .normal e σ else Q (.exit i) e σ
      |x=>Q x e σ
     let body:AC:= .block (vY l) (.seq yc (.exit (th l)))
     have hne:th l≠vY l:=by unfold th vY;omega
     have round: ∀(n:Nat) (e:dM) (σ:Hp) (μ:Mu) (a:Act) (w:World) (μ0:Mu) (w0:World),iJ (sK T body) Q1 (n+1) e σ→R B μ σ w→fj μ N e a.tmps→a.defers=[]→μ0.le μ→Below B w0 w→
       y.wp P (aG5 l (fun a w=>Jst B N μ0 w0 (fun n=>iJ (sK T body) Q1 n) n a w) (oN B N μ0 w0 Q)) a w:=by
      intro n e σ μ a w μ0 w0 hw hR he hd hμ hb;simp only[iJ,body,sK]at hw;refine wp_mono (ihy.1 yc h1 _ e σ μ a w hw hR he hd) fun x' a' w' hp=> ?_
      obtain⟨ax,e',σ',μ',q1,q2,q3,q4,q5,q6,q7⟩:=hp;refine bB9 (fun hx=> ?_) fun hx=> ?_
      ·subst hx;cases ax with
       |exit i=>
        have q1:i=vY l:=q1;subst q1;simp only[if_true]at q2;exact⟨e',σ',μ',q2,Mu.le_trans hμ q3,q4,q5,q6,hb.trans q7⟩
       |_=>exact q1.elim
      ·cases ax with
       |normal=>
        simp only[zF hne]at q2;simp only[Q1,if_true]at q2;exact⟨.normal,e',σ',μ',q1,q2,Mu.le_trans hμ q3,q4,q5,q6,hb.trans q7⟩
       |ret=>exact⟨.ret,e',σ',μ',q1,q2,Mu.le_trans hμ q3,q4,q5,q6,hb.trans q7⟩
       |exit i=>
        have hi:i≠vY l∧i≠th l:=by
         cases x' with
         |exit j=>
          obtain⟨rfl,hj⟩:=q1;unfold vY th;omega
         |goto l'=>
          have q1:i=yV+2*l':=q1;have:l'≠l:=fun e=>hx (by rw[e])
          unfold vY th;omega
         |_=>exact q1.elim
        simp only[zF hi.1,Q1,zF hi.2]at q2;exact⟨.exit i,e',σ',μ',q1,q2,Mu.le_trans hμ q3,q4,q5,q6,hb.trans q7⟩
     refine⟨.seq .skip y,fun n=>iJ (sK T body) Q1 n,by simp[findLabel],fun μ0 w0=>⟨fun e σ μ a w hw hR he hd hμ hb=> ?_,fun n a w hJ=> ?_⟩⟩
     ·have hw': ∃n,iJ (sK T body) Q1 n e σ:=hw
      obtain⟨n,hn⟩:=hw';cases n with
      |zero=>exact hn.elim
      |succ n=>
       refine wp_seq (wp_label ?_);exact wp_mono (round n e σ μ a w μ0 w0 hn hR he hd hμ hb) fun x' a' w' h'=>aU7 (fun _ _ h=>⟨n,h⟩) (fun _ _ _ h=>h) h'
     ·obtain⟨e,σ,μ,hn,hμ,hR,he,hd,hb⟩:=hJ;cases n with
      |zero=>exact hn.elim
      |succ n=>
       refine wp_seq (wp_skip ?_);exact wp_mono (round n e σ μ a w μ0 w0 hn hR he hd hμ hb) fun x' a' w' h'=>aU7 (fun _ _ h=>⟨n,Nat.lt_succ_self n,h⟩) (fun _ _ _ h=>h) h'
    ·
     rename_i hg;split at h
     ·rename_i hlo;obtain⟨yc,h1,h⟩:=Option.map_eq_some_iff.1 h;subst h;have hll:gE (.seq (.label l) y)=gE y:=by simp[gE,aj0,hg]
      obtain⟨s1,s2⟩:=ihy.2 yc h1 Q;refine⟨fun hn e σ μ a w hw hR he hd=>wp_seq (wp_label ?_),fun l' hl'=> ?_⟩
      ·exact s1 (hll▸hn) e σ μ a w hw hR he hd
      ·rw[hll]at hl';obtain⟨rest,L,hf,hJ⟩:=s2 l' hl'
       have hlab:findLabel (.seq (.label l) y) l'=some rest:=by
        have:findLabel (.label l) l'=none:=ae5 _ _ (by
         unfold aw3 at hlo;rw[hl']at hlo
         simpa using hlo)
        simp[findLabel,hf]at this⊢;simp[this]
       refine⟨rest,L,hlab,fun μ0 w0=>⟨fun e σ μ a w hw hR he hd hμ hb=>wp_seq (wp_label ?_),(hJ μ0 w0).2⟩⟩;exact(hJ μ0 w0).1 e σ μ a w hw hR he hd hμ hb
     ·cases h
   ·rename_i hl;split at h
    ·rename_i ax ay h1 h2;split at h
     ·rename_i hlo;rw[aW,aX]at hlo;obtain⟨hlo,hnj⟩:=hlo;injection h with h
      subst h;have hll:gE (.seq x y)=gE y:=by simp[gE,hl]
      obtain⟨s1,s2⟩:=ihy.2 ay h2 Q;refine⟨fun hn e σ μ a w hw hR he hd=> ?_,fun l' hl'=> ?_⟩
      ·simp only[sK]at hw;refine bP1 (ihx.1 ax h1 _ e σ μ a w hw hR he hd) (fun e' σ' μ' a' w' hq g1 g2 g3 g4 g5=> ?_) fun x' a' w' hx hp=> ?_
       ·exact wp_mono (s1 (hll▸hn) e' σ' μ' a' w' hq g2 g3 g4) fun x'' a'' w'' h''=>h''.trans g1 g5
       ·obtain⟨axx,e',σ',μ',h0,h1',h2',h3'⟩:=aC7 hp hx;refine⟨axx,e',σ',μ',h1', ?_,h3'⟩;cases axx with
        |normal=>exact(h0 rfl).elim
        |exit i=>exact h2'
        |ret=>exact h2'
      ·rw[hll]at hl';obtain⟨rest,L,hf,hJ⟩:=s2 l' hl'
       have hlab:findLabel (.seq x y) l'=some rest:=by
        have:findLabel x l'=none:=ae5 _ _ (by
         unfold aw3 at hlo;rw[hl']at hlo
         simpa using hlo)
        simp[findLabel,hf,this]
       have hnj:ax.noJump=true:=by
        rcases hnj with h|h
        ·rw[hl']at h;cases h
        ·exact h
       refine⟨rest,L,hlab,fun μ0 w0=>⟨fun e σ μ a w hw hR he hd hμ hb=> ?_,(hJ μ0 w0).2⟩⟩;simp only[sK]at hw;refine bP1 (ihx.1 ax h1 _ e σ μ a w (bI5 hM _ _ e σ hw) hR he hd) (fun e' σ' μ' a' w' hq g1 g2 g3 g4 g5=> ?_) fun x' a' w' hx hp=> ?_
       ·exact(hJ μ0 w0).1 e' σ' μ' a' w' hq.2 g2 g3 g4 (Mu.le_trans hμ g1) (hb.trans g5)
       ·obtain⟨axx,e',σ',μ',h0,h1',h2',h3',h4',h5',h6',h7'⟩:=aC7 hp hx;refine bB9 (fun hg=> ?_) fun _=> ?_
        ·subst hg;cases axx with
         |exit i=>
          have k1:i=yV+2*l':=h1';have:=bi0 hnj (h2'.1 i rfl);omega
         |_=>exact h1'.elim
        ·refine⟨axx,e',σ',μ',h1', ?_,Mu.le_trans hμ h3',h4',h5',h6',hb.trans h7'⟩;cases axx with
         |normal=>exact(h0 rfl).elim
         |exit i=>exact h2'.2
         |ret=>exact h2'.2
     ·cases h
    ·cases h
 |cond c x y ihx ihy=>
  refine(fun A=>⟨A,Sok.of rfl rfl A⟩) ?_;intro ac h Q e σ μ a w hw hR he hd;simp only[jM,tr2,ng]at h;split at h
  ·rename_i c' ax ay h0 h1 h2;injection h with h
   subst h;obtain⟨rfl,k0⟩:=cw h0;have hv:=he.ev k0;simp only[sK]at hw;split at hw
   ·rename_i hb;rw[hb]at hv;exact wp_cond_true hv.bool_inv (ihx.1 ax h1 Q e σ μ a w hw hR he hd)
   ·rename_i hb;rw[hb]at hv;exact wp_cond_false hv.bool_inv (ihy.1 ay h2 Q e σ μ a w hw hR he hd)
   ·exact hw.elim
  ·cases h
 |block id b ih=>
  refine(fun A=>⟨A,Sok.of rfl rfl A⟩) ?_;intro ac h Q e σ μ a w hw hR he hd;simp only[jM,tr2,ng]at h;split at h
  ·rename_i hlt;obtain⟨ab,h1,h⟩:=Option.map_eq_some_iff.1 h;subst h;simp only[sK]at hw;refine wp_block (wp_mono (ih.1 ab h1 _ e σ μ a w hw hR he hd) fun x a' w' hx=> ?_);obtain⟨axx,e',σ',μ',hxr,hq,g1,g2,g3,g4,g5⟩:=hx;cases axx with
   |normal=>
    cases x<;>simp[tf]at hxr;exact⟨.normal,e',σ',μ',trivial,hq,g1,g2,g3,g4,g5⟩
   |exit i=>
    simp only at hq;cases x with
    |exit j=>
     obtain⟨rfl,hj⟩:=hxr;simp only[Exit.inBlock];split
     ·rename_i hid;rw[zE hid]at hq;exact⟨.normal,e',σ',μ',trivial,hq,g1,g2,g3,g4,g5⟩
     ·rename_i hid;rw[zF hid]at hq;exact⟨.exit i,e',σ',μ',⟨rfl,hj⟩,hq,g1,g2,g3,g4,g5⟩
    |goto l=>
     have hxr':i=yV+2*l:=hxr;rw[zF (by omega)]at hq;exact⟨.exit i,e',σ',μ',hxr,hq,g1,g2,g3,g4,g5⟩
    |_=>exact hxr.elim
   |ret=>
    cases x<;>simp[tf]at hxr;exact⟨.ret,e',σ',μ',trivial,hq,g1,g2,g3,g4,g5⟩
  ·cases h
 |loop b ih=>
  refine(fun A=>⟨A,Sok.of rfl rfl A⟩) ?_;intro ac h Q e σ μ a w hw hR he hd;simp only[jM,tr2,ng]at h;obtain⟨ab,h1,h⟩:=Option.map_eq_some_iff.1 h;subst h;simp only[sK]at hw;obtain⟨n,hn⟩:=hw;exact bw5 (f:=sK T ab) (fun Q e σ μ a w hf=>ih.1 ab h1 Q e σ μ a w hf) hn hR he hd μ.le_refl (Below.refl _ _)
 |scope b ih=>
  refine(fun A=>⟨A,Sok.of rfl rfl A⟩) ?_;intro ac h Q e σ μ a w hw hR he hd;simp only[jM,tr2,ng]at h;split at h
  ·rename_i ac' h1;split at h
   ·rename_i hno;injection h with h
    subst h;have hw':=bI5 hM _ Q e σ hw
    have hng: ∀(l':Nat) (a:Act) (w':World),¬oN B N μ w (bJ3 ac' Q) (.goto l') a w':=by
     rintro l' a w' ⟨ax,e',σ',μ',k1,k2,_⟩;cases ax with
     |exit i=>
      have k1:i=yV+2*l':=k1;have:=bi0 hno (k2.1 i rfl);omega
     |_=>exact k1.elim
    have fin: ∀{x:Exit} {a':Act} {w':World},oN B N μ w (bJ3 ac' Q) x a' w'→oN B N μ w Q x a' w':=fun h=>cw5 h fun _ _ _ _ h=>h.2
    obtain⟨s1,s2⟩:=ih.2 ac' h1 (bJ3 ac' Q);cases hl:gE b with
    |none=>
     refine wp_scope_straight (wp_mono (s1 hl e σ μ a w hw' hR he hd) fun x a' w' hx=> ?_);cases x with
     |goto l'=>exact(hng l' a' w' hx).elim
     |_=>exact fin hx
    |some l=>
     obtain⟨rest,L,hf,hJ⟩:=s2 l hl;obtain⟨j1,j2⟩:=hJ μ w;refine wp_mono (bG3 l (Jst B N μ w L) hf hng (j1 e σ μ a w hw' hR he hd μ.le_refl (Below.refl _ _)) j2) fun x a' w' hx=>fin hx
   ·cases h
  ·cases h
 |exit id=>
  refine(fun A=>⟨A,Sok.of rfl rfl A⟩) ?_;intro ac h Q e σ μ a w hw hR he hd;simp only[jM,tr2,ng]at h;split at h
  ·rename_i hlt;injection h with h
   subst h;exact wp_exit ⟨.exit id,e,σ,μ,⟨rfl,hlt⟩,hw,μ.le_refl,hR,he,hd,Below.refl _ _⟩
  ·cases h
 |ret=>
  refine(fun A=>⟨A,Sok.of rfl rfl A⟩) ?_;intro ac h Q e σ μ a w hw hR he hd;simp[jM,tr2,ng]at h;subst h;exact wp_ret ⟨.ret,e,σ,μ,trivial,hw,μ.le_refl,hR,he,hd,Below.refl _ _⟩
 |_=>
  refine(fun A=>⟨A,Sok.of rfl rfl A⟩) ?_;intro ac h;simp[jM,tr2,ng]at h
theorem cq4 (hM:oq T)(hT: ∀f,yQ P f (T f))(c:Code)(ac:AC)(h:jM P N c=some ac)(Q:AExit→dM→Hp→Prop)(e:dM)(σ:Hp)(μ:Mu)(a:Act)(w:World)(hw:sK T ac Q e σ)
  (hR:R B μ σ w) (he:fj μ N e a.tmps) (hd:a.defers=[]):c.wp P (oN B N μ w Q) a w:=(cg7 hM hT c).1 ac h Q e σ μ a w hw hR he hd
end
end
section
open List renaming mapM_cons → aX, getElem?_eq_getElem → aY
open Result renaming andThen_ok → aB
open Sem renaming run_bind → aD, run_pure → aW
open Go.RowKit
def aY9 (P:Program):List ResultVar→Option (List ARes)
 |[]=>some []
 | .tmp t::r=>(aY9 P r).map (.tmp t:: ·)
 | .cell a t::r=>match vi P t,jg P t,aY9 P r with
  |some true,some n,some r=>some (.cellN a n::r)
  |some false,some _,some r=>some (.cell a::r)
  |_,_,_=>none
def bH5 (P:Program)(f:FuncId):Option AFn:=match P.funcs[f]? with
 |some fn=>match fn.body,bL8 P f with
  |some c,true=>match jM P fn.ntmps c,aY9 P fn.results.toList with
   |some ac,some rs=>some ⟨fn.ntmps,rs,ac⟩
   |_,_=>none
  |_,_=>none
 |none=>none
section
variable {P:Program} {T:fB} {B:Base P} {N:Nat} {μ:Mu} {σ:Hp} {w:World} {e:dM}
def bF7 (tmps:Array Value):ResultVar→Sem Value
 | .tmp t=>pure (tmps.getD t undef)
 | .cell a t=>do loadVar t (←asAddr (tmps.getD a undef))
theorem bO8 (fn:Func)(tmps:Array Value):results fn tmps=(do
  let vs←fn.results.mapM (bF7 tmps)
  pure (if h:vs.size=1 then vs[0]else .tuple vs)):=rfl
theorem bu7 {tmps:Array Value}(he:fj μ N e tmps)(hR:R B μ σ w): ∀(l:List ResultVar) (rs:List ARes) (vs:List Value),aY9 P l=some rs→aD0 e σ rs=some vs→
  ∃vs',(l.mapM (bF7 tmps)).run P w= .ok vs' w∧F2 (VR μ) vs vs'
 |[],rs,vs,h,hr=>by
  simp[aY9]at h;subst h;simp[aD0]at hr;subst hr;exact⟨[],by simp, .nil⟩
 | .tmp t::l,rs,vs,h,hr=>by
  simp only[aY9]at h;obtain⟨rs',h1,h⟩:=Option.map_eq_some_iff.1 h;subst h;simp only[aD0]at hr;split at hr
  ·rename_i v vs1 h2 h3;injection hr with hr
   subst hr;simp[aW5]at h2;subst h2;obtain⟨vs',h4,h5⟩:=bu7 he hR l rs' vs1 h1 h3;refine⟨tmps.getD t undef::vs', ?_, .cons (he.2 t) h5⟩;have hF:(bF7 tmps (.tmp t)).run P w= .ok (tmps.getD t undef) w:=rfl;simp only[aX,aD,aW,aB,hF,h4]
  ·cases hr
 | .cell a t::l,rs,vs,h,hr=>by
  simp only[aY9]at h;have hv:=he.2 a;split at h
  ·rename_i n rs' h1 h2 h3;injection h with h
   subst h;simp only[aD0]at hr;split at hr
   ·rename_i v vs1 h4 h5;injection hr with hr
    subst hr;obtain⟨vs',h6,h7⟩:=bu7 he hR l rs' vs1 h3 h5;simp only[aW5]at h4;split at h4
    ·rename_i b o hb;rw[hb]at hv;obtain⟨g,hg,hq⟩:=hv.ptr_inv;obtain⟨x,hx,h4⟩:=Option.bind_eq_some_iff.1 h4;obtain⟨cs,hcs,rfl⟩:=Option.map_eq_some_iff.1 h4;obtain⟨cs',k1,k2⟩:=hR.reads hx hg hcs;refine⟨.agg cs'.toArray::vs', ?_, .cons (.agg k2) h7⟩
     have hF:(bF7 tmps (.cell a t)).run P w= .ok (.agg cs'.toArray) w:=by
      simp only[bF7,aD,hq,asAddr,aW,aB,loadVar,aj8 h1,if_true,jL h2,k1 P w rfl]
     simp only[aX,aD,aW,aB,hF,h6]
    ·cases h4
   ·cases hr
  ·rename_i n rs' h1 h2 h3;injection h with h
   subst h;simp only[aD0]at hr;split at hr
   ·rename_i v vs1 h4 h5;injection hr with hr
    subst hr;obtain⟨vs',h6,h7⟩:=bu7 he hR l rs' vs1 h3 h5;simp only[aW5]at h4;split at h4
    ·rename_i b o hb;rw[hb]at hv;obtain⟨g,hg,hq⟩:=hv.ptr_inv;obtain⟨x,hx,h4⟩:=Option.bind_eq_some_iff.1 h4;obtain⟨v',k1,k2⟩:=(hR.get hx hg.1).cell hg.2 o v h4;refine⟨v'::vs', ?_, .cons k2 h7⟩
     have hF:(bF7 tmps (.cell a t)).run P w= .ok v' w:=by
      simp only[bF7,aD,hq,asAddr,aW,aB,loadVar,aj8 h1,Bool.false_eq_true,if_false,run_load,k1]
     simp only[aX,aD,aW,aB,hF,h6]
    ·cases h4
   ·cases hr
  ·cases h
theorem bS5 {f:FuncId}{af:AFn}(h:bH5 P f=some af)(hM:oq T)(hT: ∀g,yQ P g (T g)):yQ P f (wpF T af):=by
 unfold bH5 at h;split at h
 ·rename_i fn hfn;split at h
  ·rename_i c hb hen;split at h
   ·rename_i ac rs h1 h2;injection h with h
    subst h;intro B μ σ w args cargs K hw hR ha;obtain⟨hlen,hw⟩:=hw
    have hcall:bj9 P f:=by
     unfold bL8 at hen;rw[hfn]at hen;simp only[Bool.and_eq_true,Bool.not_eq_true']at hen;exact⟨fn,hfn,hen.1,hen.2⟩
    refine⟨hcall,calls_of_wp hfn hb ?_⟩;have hsz:cargs.size=args.length:=by simpa using ha.length.symm
    have henv:fj μ fn.ntmps (dM.of args) (cargs++Array.replicate (fn.ntmps-cargs.size) undef):=by
     refine⟨by simp only[Array.size_append,Array.size_replicate];simp only at hlen;omega,fun t=> ?_⟩;unfold dM.of;by_cases ht:t<args.length
     ·obtain⟨v',h3,h4⟩:=ha.get t args[t] (aY ht)
      have:(cargs++Array.replicate (fn.ntmps-cargs.size) undef).getD t undef=v':=by
       simp only[Array.getD_eq_getD_getElem?];rw[Array.getElem?_append_left (by omega)];have:cargs[t]?=some v':=by simpa using h3
       simp[this]
      rw[this,aY ht];exact h4
     ·have:(cargs++Array.replicate (fn.ntmps-cargs.size) undef).getD t undef=undef:=by
       simp only[Array.getD_eq_getD_getElem?];rw[Array.getElem?_append_right (by omega),Array.getElem?_replicate];split<;>rfl
      rw[this,List.getElem?_eq_none (by omega)];exact VR.undef μ
    refine wp_mono (cq4 hM hT c ac h1 _ _ σ μ ⟨_,[]⟩ w hw hR henv rfl) fun x a' w' hx=> ?_
    obtain⟨ax,e',σ',μ',hxr,hq,g1,g2,g3,g4,g5⟩:=hx
    have fin:(match aD0 e' σ' rs with
      |some vs=>K (vn vs) σ'
      |none=>False)→a'.defers=[]∧∃v,(results fn a'.tmps).run P w'= .ok v w'∧cH7 P B μ w K (.returned v) w':=by
     intro hq;refine⟨g4, ?_⟩;split at hq
     ·rename_i vs hvs;obtain⟨vs',k1,k2⟩:=bu7 (P:=P) g3 g2 fn.results.toList rs vs h2 hvs;have hl:=k2.length;refine⟨vn vs', ?_,_,σ',_,μ',rfl,hq,g1,g2, ?_,g5,rfl⟩
      ·rw[bO8,Array.mapM_eq_mapM_toList];simp only[aD,Sem.run_map,k1,aB,aW]
       congr 1
       match vs',hl with
       |[],_=>rfl
       |[v],_=>rfl
       |v::u::r,_=>simp[vn]
      ·match vs,vs',k2 with
       |[],_, .nil=>exact .tuple .nil
       |[v],_, .cons h .nil=>exact h
       |v::u::r,_, .cons h (.cons h' t)=>exact .tuple (.cons h (.cons h' t))
     ·exact hq.elim
    cases ax with
    |normal=>
     cases x<;>simp[tf]at hxr;exact fin hq
    |exit id=>exact hq.elim
    |ret=>
     cases x<;>simp[tf]at hxr;exact fin hq
   ·cases h
  ·cases h
 ·cases h
theorem yQ.none (P:Program)(f:FuncId):yQ P f fun _ _ _=>False:=fun _ _ _ _ _ _ _ h=>h.elim
theorem yQ.of {f:FuncId}{S S':aA3}(h:yQ P f S)(hS: ∀args σ K,S' args σ K→S args σ K):yQ P f S':=
 fun B μ σ w args cargs K hk=>h B μ σ w args cargs K (hS args σ K hk)
end
inductive Rn (ν:Nat→Nat)(n:Nat):Value→Value→Prop where
 |bool (b:Bool):Rn ν n (.bool b) (.bool b)
 |int (k:IntKind) (m:Int):Rn ν n (.int k m) (.int k m)
 |string (s:ByteArray):Rn ν n (.string s) (.string s)
 |nilp:Rn ν n (.pointer none) (.pointer none)
 |ptr {b o:Nat}:b<n→Rn ν n (.pointer (some ⟨b,o,none⟩)) (.pointer (some ⟨ν b,o,none⟩))
 |nils:Rn ν n (.slice none 0 0) (.slice none 0 0)
 |slice {b o l c:Nat}:b<n→Rn ν n (.slice (some ⟨b,o,none⟩) l c) (.slice (some ⟨ν b,o,none⟩) l c)
 |nilf:Rn ν n .nilFunc .nilFunc
 |func {f:Fn} {a a' c c':Array Value}:F2 (Rn ν n) a.toList a'.toList→F2 (Rn ν n) c.toList c'.toList→Rn ν n (.func f a c) (.func f a' c')
 |nili:Rn ν n .nilIface .nilIface
 |agg {a a':Array Value}:F2 (Rn ν n) a.toList a'.toList→Rn ν n (.agg a) (.agg a')
 |tuple {a a':Array Value}:F2 (Rn ν n) a.toList a'.toList→Rn ν n (.tuple a) (.tuple a')
theorem Rn.vr {ν:Nat→Nat}{n:Nat}{μ1 μ':Mu}(hμ: ∀b,b<n→μ' b=μ1 (ν b)): ∀{v u:Value},Rn ν n v u→∀{u':Value},VR μ1 u u'→VR μ' v u'
 |_,_, .bool b,_,h=>by cases h;exact .bool b
 |_,_, .int k m,_,h=>by cases h;exact .int k m
 |_,_, .string s,_,h=>by cases h;exact .string s
 |_,_, .nilp,_,h=>by cases h;exact .nilp
 |_,_, .ptr hb,_,h=>by cases h with|ptr h1=>exact .ptr ⟨(hμ _ hb).trans h1.1,h1.2⟩
 |_,_, .nils,_,h=>by cases h;exact .nils
 |_,_, .slice hb,_,h=>by cases h with
  |slice h1 h2 h3 h4=>exact .slice ⟨(hμ _ hb).trans h1.1,h1.2⟩ h2 h3 h4
  |slice0 A' h1=>exact .slice0 _ ⟨(hμ _ hb).trans h1.1,h1.2⟩
 |_,_, .nilf,_,h=>by cases h;exact .nilf
 |_,_, .func h1 h2,_,h=>by cases h with|func k1 k2=>exact .func (go h1 k1) (go h2 k2)
 |_,_, .nili,_,h=>by cases h;exact .nili
 |_,_, .agg h1,_,h=>by cases h with|agg k1=>exact .agg (go h1 k1)
 |_,_, .tuple h1,_,h=>by cases h with|tuple k1=>exact .tuple (go h1 k1)
where
 go {l m:List Value}:F2 (Rn ν n) l m→∀{m':List Value},F2 (VR μ1) m m'→F2 (VR μ') l m'
 | .nil,_,h=>by cases h;exact .nil
 | .cons h1 t1,_,h=>by cases h with|cons k1 k2=>exact .cons (Rn.vr hμ h1 k1) (go t1 k2)
theorem VR.narrow {μ μ1 μ':Mu}(hμ: ∀b g g1,μ b=some g→μ1 b=some g1→μ' b=some g1): ∀{v u:Value},VR μ v u→∀{u':Value},VR μ1 v u'→VR μ' v u'
 |_,_, .bool b,_,h=>by cases h;exact .bool b
 |_,_, .int k m,_,h=>by cases h;exact .int k m
 |_,_, .string s,_,h=>by cases h;exact .string s
 |_,_, .nilp,_,h=>by cases h;exact .nilp
 |_,_, .ptr hb,_,h=>by cases h with|ptr h1=>exact .ptr ⟨hμ _ _ _ hb.1 h1.1,h1.2⟩
 |_,_, .nils,_,h=>by cases h;exact .nils
 |_,_, .slice hb _ _ _,_,h=>by cases h with
  |slice h1 h2 h3 h4=>exact .slice ⟨hμ _ _ _ hb.1 h1.1,h1.2⟩ h2 h3 h4
  |slice0 A' h1=>exact .slice0 _ ⟨hμ _ _ _ hb.1 h1.1,h1.2⟩
 |_,_, .slice0 A' hb,_,h=>by cases h with
  |slice h1 h2 h3 h4=>exact .slice ⟨hμ _ _ _ hb.1 h1.1,h1.2⟩ h2 h3 h4
  |slice0 A' h1=>exact .slice0 _ ⟨hμ _ _ _ hb.1 h1.1,h1.2⟩
 |_,_, .sliceX hb _,_,h=>by cases h with
  |sliceX h1 h2=>exact .sliceX ⟨hμ _ _ _ hb.1 h1.1,h1.2⟩ h2
  |sliceX0 A' h1=>exact .sliceX0 _ ⟨hμ _ _ _ hb.1 h1.1,h1.2⟩
 |_,_, .sliceX0 A' hb,_,h=>by cases h with
  |sliceX h1 h2=>exact .sliceX ⟨hμ _ _ _ hb.1 h1.1,h1.2⟩ h2
  |sliceX0 A' h1=>exact .sliceX0 _ ⟨hμ _ _ _ hb.1 h1.1,h1.2⟩
 |_,_, .nilf,_,h=>by cases h;exact .nilf
 |_,_, .func h1 h2,_,h=>by cases h with|func k1 k2=>exact .func (go h1 k1) (go h2 k2)
 |_,_, .iter hb _,_,h=>by cases h with|iter k1 k2=>exact .iter (hμ _ _ _ hb k1) k2
 |_,_, .nili,_,h=>by cases h;exact .nili
 |_,_, .agg h1,_,h=>by cases h with|agg k1=>exact .agg (go h1 k1)
 |_,_, .tuple h1,_,h=>by cases h with|tuple k1=>exact .tuple (go h1 k1)
where
 go {l m:List Value}:F2 (VR μ) l m→∀{m':List Value},F2 (VR μ1) l m'→F2 (VR μ') l m'
 | .nil,_,h=>by cases h;exact .nil
 | .cons h1 t1,_,h=>by cases h with|cons k1 k2=>exact .cons (VR.narrow hμ h1 k1) (go t1 k2)
end
section
open Nat renaming lt_or_ge → aB, lt_of_lt_of_le → aD
open Go.RowKit
structure Weak (σ0 σ1:Hp)(r:Value)(σ':Hp)(r':Value)(ν:Nat→Nat):Prop where
 n:σ0.n≤σ'.n
 old: ∀b,b<σ0.n→ν b=b
 inj: ∀b b' x x',σ'.m b=some x→σ'.m b'=some x'→b≠b'→ν b≠ν b'
 blk: ∀b x',σ'.m b=some x'→(σ0.m b=some x'∧σ1.m b=some x')∨
  (b<σ'.n∧∃x,σ1.m (ν b)=some x∧x'.es=x.es∧(x'.own=true→x.own=true)∧F2 (Rn ν σ'.n) x'.cells (x.cells.take x'.cells.length))
 res:Rn ν σ'.n r' r
section
variable {P:Program} {f:FuncId} {S S':aA3}
theorem R.weak {P:Program}{B:Base P}{μ μ1:Mu}{σ σ1 σ':Hp}{w w':World}{r r':Value}{ν:Nat→Nat}(hR:R B μ σ w)(hR1:R B μ1 σ1 w')(hμ:μ.le μ1)(h:Weak σ σ1 r σ' r' ν):
  ∃μ',μ.le μ'∧R B μ' σ' w'∧∀rc,VR μ1 r rc→VR μ' r' rc:=by
 have hdom: ∀b g,μ b=some g→b<σ.n:=fun b g hb=>by
  rcases aB b σ.n with h1|h1
  ·exact h1
  ·rw[hR.fresh b h1]at hb;cases hb
 have hin: ∀b,b<σ'.n→(fun b=>if b<σ'.n then μ1 (ν b)else none) b=μ1 (ν b):=fun b hb=>zE hb
 have hlt0: ∀b x,σ.m b=some x→b<σ.n:=fun b x hx=>by
  obtain⟨g,hg,_⟩:=hR.live b x hx;exact hdom b g hg
 have hnar: ∀b g g1,μ b=some g→μ1 b=some g1→(fun b=>if b<σ'.n then μ1 (ν b)else none) b=some g1:=by
  intro b g g1 hb hb1;have h1:=hdom b g hb;rw[hin b (aD h1 h.n),h.old b h1];exact hb1
 refine⟨fun b=>if b<σ'.n then μ1 (ν b)else none,fun b g hb=> ?_,⟨hR1.base,hR1.old,fun b hb=>zF (by omega),fun b x' hx'=> ?_,fun b b' x x' g g' hx hx' hne ho hg hg'=> ?_, ?_⟩,fun rc hrc=>h.res.vr hin hrc⟩
 ·exact hnar b g g hb (hμ b g hb)
 ·rcases h.blk b x' hx' with⟨h1,h2⟩|⟨h1,x,h2,h3,h4,h5⟩
  ·obtain⟨g,hg,hl⟩:=hR1.live b x' h2;obtain⟨g0,hg0,hl0⟩:=hR.live b x' h1;have hgg:g=g0:=by have:=hμ b g0 hg0;rw[hg]at this;exact Option.some.inj this
   refine⟨g,hnar b g0 g hg0 hg,hl.lt,hl.es,fun h0 i v hv=> ?_,hl.own,hl.iter,hl.bld⟩;obtain⟨u,hu,hvu⟩:=hl.cell h0 i v hv;obtain⟨u0,_,hvu0⟩:=hl0.cell (hgg▸h0) i v hv;exact⟨u,hu,hvu0.narrow hnar hvu⟩
  ·obtain⟨g,hg,hl⟩:=hR1.live (ν b) x h2
   have hlen:x'.cells.length≤x.cells.length:=by
    have:=h5.length;rw[List.length_take]at this;omega
   refine⟨g,by simp only[zE h1];exact hg,hl.lt,hl.es.trans h3.symm,fun h0 i v hv=> ?_,fun h0 ho=> ?_,fun s hs=> ?_,fun hs=> ?_⟩
   ·obtain⟨u,hu,hvu⟩:=h5.get i v hv
    have hi:i<x'.cells.length:=by
     rcases aB i x'.cells.length with h6|h6
     ·exact h6
     ·rw[List.getElem?_eq_none h6]at hv;cases hv
    rw[List.getElem?_take,zE hi]at hu;obtain⟨u',hu',huu⟩:=hl.cell h0 i u hu;exact⟨u',hu',hvu.vr hin huu⟩
   ·obtain⟨k1,k2,k3⟩:=hl.own h0 (h4 ho);exact⟨k1,by omega,k3⟩
   ·obtain⟨k1,p,k2,k3⟩:=hl.iter s hs;refine⟨k1,p, ?_,k3⟩;rw[k2]at h5;have hl5:=h5.length;cases hx':x'.cells with
    |nil=>rfl
    |cons v r=>
     rw[hx']at h5 hl5;cases hc:x.cells.length with
     |zero=>rw[hc]at h5;simp at h5;cases h5
     |succ n=>
      rw[hc]at h5;simp at h5;cases h5 with
      |cons h6 h7=>
       cases h7;cases h6;simp
   ·obtain⟨k1,p,s,k0,k2,k3⟩:=hl.bld hs;refine⟨k1,p,s,k0, ?_,k3⟩;rw[k2]at h5;have hl5:=h5.length;cases hx':x'.cells with
    |nil=>rfl
    |cons v r=>
     rw[hx']at h5 hl5;cases hc:x.cells.length with
     |zero=>rw[hc]at h5;simp at h5;cases h5
     |succ n=>
      rw[hc]at h5;simp at h5;cases h5 with
      |cons h6 h7=>
       cases h7;cases h6;simp
 ·have key: ∀b x,σ'.m b=some x→∃y,σ1.m (ν b)=some y∧(x.own=true→y.own=true)∧b<σ'.n:=by
   intro b x hx;rcases h.blk b x hx with⟨h1,h2⟩|⟨h1,y,h2,_,h4,_⟩
   ·have hb:=hlt0 b x h1;exact⟨x,by rw[h.old b hb];exact h2,id,aD hb h.n⟩
   ·exact⟨y,h2,h4,h1⟩
  obtain⟨y,hy,hyo,hb⟩:=key b x hx;obtain⟨y',hy',_,hb'⟩:=key b' x' hx';simp only[zE hb]at hg;simp only[zE hb']at hg';exact hR1.inj (ν b) (ν b') y y' g g' hy hy' (h.inj b b' x x' hx hx' hne) (hyo ho) hg hg'
 ·have key: ∀b x g,σ'.m b=some x→(fun b=>if b<σ'.n then μ1 (ν b)else none) b=some g→∃y,σ1.m (ν b)=some y∧μ1 (ν b)=some g:=by
   intro b x g hx hg
   have hb:b<σ'.n:=by
    rcases aB b σ'.n with h|h
    ·exact h
    ·simp only[zF (show¬b<σ'.n by omega)]at hg;cases hg
   simp only[zE hb]at hg;rcases h.blk b x hx with⟨h1,h2⟩|⟨_,y,h2,_⟩
   ·exact⟨x,by rw[h.old b (hlt0 b x h1)];exact h2,hg⟩
   ·exact⟨y,h2,hg⟩
  intro b x g hx hg hi k hk b' x' g' hx' hg';obtain⟨y,h1,h2⟩:=key b x g hx hg;obtain⟨y',h3,h4⟩:=key b' x' g' hx' hg';obtain⟨m1,m2⟩:=hR1.sep (ν b) y g h1 h2 hi k hk (ν b') y' g' h3 h4;exact⟨m1,fun hne=>m2 (h.inj b' b x' x hx' hx hne)⟩
theorem yQ.weak (h:yQ P f S)(hS: ∀args σ K,S' args σ K→S args σ fun r1 σ1=> ∃ν σ' r',Weak σ σ1 r1 σ' r' ν∧K r' σ'):yQ P f S':=by
 intro B μ σ w args cargs K hk hR ha;obtain⟨hc,hcalls⟩:=h B μ σ w args cargs _ (hS args σ K hk) hR ha;refine⟨hc,hcalls.mono fun x w' hx=> ?_⟩;obtain⟨r1,σ1,rc,μ1,rfl,⟨ν,σ',r',hw,hK⟩,h1,h2,h3,h4,_⟩:=hx;obtain⟨μ',k1,k2,k3⟩:=hR.weak h2 h1 hw;exact⟨r',σ',rc,μ',rfl,hK,k1,k2,k3 rc h3,h4,rfl⟩
end
def Ext (σ σ1:Hp):Prop:=σ.n≤σ1.n∧∀b,b<σ.n→σ1.m b=σ.m b
theorem Ext.refl (σ:Hp):Ext σ σ:=⟨Nat.le_refl _,fun _ _=>rfl⟩
theorem Ext.trans {a b c:Hp}(h:Ext a b)(k:Ext b c):Ext a c:=⟨Nat.le_trans h.1 k.1,fun x hx=>(k.2 x (aD hx h.1)).trans (h.2 x hx)⟩
theorem Ext.add {σ σ1:Hp}(h:Ext σ σ1)(x:Blk):Ext σ (σ1.add x):=by
 refine⟨Nat.le_succ_of_le h.1,fun b hb=> ?_⟩;have:b≠σ1.n:=by have:=h.1;omega
 simp only[Hp.add,zF this];exact h.2 b hb
theorem Ext.set {σ σ1:Hp}(h:Ext σ σ1){b:Nat}(hb:σ.n≤b)(x:Option Blk):Ext σ (σ1.set b x):=by
 refine⟨h.1,fun b' hb'=> ?_⟩;have:b'≠b:=by omega
 simp only[Hp.set,zF this];exact h.2 b' hb'
def Hp.Ok (σ:Hp):Prop:= ∀b x,σ.m b=some x→b<σ.n
def Fin (σ:Hp)(K:Value→Hp→Prop)(r1:Value)(σ1:Hp):Prop:= ∃ν σ' r',Weak σ σ1 r1 σ' r' ν∧K r' σ'
section
variable {P:Program} {f:FuncId} {S S':aA3} {σ σ1:Hp} {K:Value→Hp→Prop}
theorem yQ.lt (h:yQ P f fun args σ K=>σ.Ok∧S args σ K):yQ P f S:=by
 intro B μ σ w args cargs K hk hR ha;refine h B μ σ w args cargs K ⟨fun b x hx=> ?_,hk⟩ hR ha;obtain⟨g,hg,_⟩:=hR.live b x hx;rcases aB b σ.n with h1|h1
 ·exact h1
 ·rw[hR.fresh b h1]at hg;cases hg
theorem yQ.fin (h:yQ P f S)(hS: ∀args σ K,σ.Ok→S' args σ K→S args σ (Fin σ K)):yQ P f S':=
 yQ.lt (yQ.weak h fun args σ K ⟨hlt,hk⟩=>hS args σ K hlt hk)
theorem Fin.plain {r:Value}(h:Ext σ σ1)(hlt:σ.Ok)(hr:Rn id σ.n r r)(hK:K r σ):Fin σ K r σ1:=
 ⟨id,σ,r,⟨Nat.le_refl _,fun _ _=>rfl,fun _ _ _ _ _ _ hne=>hne,fun b x' hx'=> .inl ⟨hx',(h.2 b (hlt b x' hx')).trans hx'⟩,hr⟩,hK⟩
theorem Fin.all {r:Value}(hn:σ.n≤σ1.n)(h1:σ1.Ok)(hr:Rn id σ1.n r r)(hc: ∀b x,σ1.m b=some x→F2 (Rn id σ1.n) x.cells x.cells)(hK:K r σ1):Fin σ K r σ1:=
 ⟨id,σ1,r,⟨hn,fun _ _=>rfl,fun _ _ _ _ _ _ hne=>hne,fun b x' hx'=> .inr ⟨h1 b x' hx',x',hx',rfl,id,by rw[List.take_length];exact hc b x' hx'⟩,hr⟩,hK⟩
theorem Fin.new1 {r r':Value}{b:Nat}{x x':Blk}(h:Ext σ σ1)(hlt:σ.Ok)(hb:σ.n≤b)(hx:σ1.m b=some x)(he:x'.es=x.es)(ho:x'.own=true→x.own=true)(hc:F2 (Rn (fun i=>if i=σ.n then b else i) (σ.n+1)) x'.cells (x.cells.take x'.cells.length))
  (hr:Rn (fun i=>if i=σ.n then b else i) (σ.n+1) r' r) (hK:K r' (σ.add x')):Fin σ K r σ1:=by
 refine⟨fun i=>if i=σ.n then b else i,σ.add x',r',⟨Nat.le_succ _,fun i hi=>zF (by omega),fun i i' y y' hy hy' hne=> ?_,fun i y hy=> ?_,hr⟩,hK⟩
 ·have hold: ∀i y,(σ.add x').m i=some y→i≠σ.n→i<σ.n:=by
   intro i y hy hi;simp only[Hp.add,zF hi]at hy;exact hlt i y hy
  by_cases h1:i=σ.n
  ·have h2:i'≠σ.n:=fun e=>hne (h1.trans e.symm)
   have:=hold i' y' hy' h2;simp only[zE h1,zF h2];omega
  ·have:=hold i y hy h1;by_cases h2:i'=σ.n
   ·simp only[zF h1,zE h2];omega
   ·simp only[zF h1,zF h2];exact hne
 ·by_cases h1:i=σ.n
  ·subst h1;simp only[Hp.add,zE trivial]at hy;injection hy with hy
   subst hy;exact .inr ⟨Nat.lt_succ_self _,x,by simp only[zE trivial];exact hx,he,ho,hc⟩
  ·simp only[Hp.add,zF h1]at hy;exact .inl ⟨hy,(h.2 i (hlt i y hy)).trans hy⟩
end
section
variable {T:fB}
end
abbrev eI :=List Value→Hp→Value→Hp→Prop
def sp (S:eI):aA3:=fun args σ K=> ∃r σ',S args σ r σ'∧K r σ'
abbrev bJ7 :=FuncId→eI
def sps (U:bJ7):fB:=fun f=>sp (U f)
def by8 (P:Program)(U:bJ7):Prop:= ∀f,yQ P f (sps U f)
def bJ7.put (U:bJ7)(f:FuncId)(S:eI):bJ7:=fun g=>if g=f then S else U g
def cE5 :bJ7:=fun _ _ _ _ _=>False
theorem by8.none (P:Program):by8 P cE5:=fun f B μ σ w args cargs K h=>by
 obtain⟨_,_,h,_⟩:=h;exact h.elim
theorem by8.put {P:Program}{U:bJ7}(h:by8 P U){f:FuncId}{S:eI}(hS:yQ P f (sp S)):by8 P (U.put f S):=by
 intro g;show yQ P g (sp (if g=f then S else U g));by_cases e:g=f
 ·subst e;rw[zE rfl];exact hS
 ·rw[zF e];exact h g
end
section
section
variable {T:fB} {Q:AExit→dM→Hp→Prop} {q:dM→Hp→Prop} {e:dM} {σ σ':Hp} {a b:AC} {k:Value→Hp→Prop} {v:Value} {K:Value→Hp→Prop}
theorem bO0 {d t:Nat}(h:t≠d):(e.put d v) t=e t:=zF h
def Hp.load (σ:Hp):Value→Option Value
 | .pointer (some ⟨b,o,none⟩)=>match σ.m b with
  |some x=>x.cells[o]?
  |none=>none
 |_=>none
def Hp.loadN (σ:Hp)(n:Nat):Value→Option Value
 | .pointer (some ⟨b,o,none⟩)=>match σ.m b with
  |some x=>(mK x o n).map fun cs=> .agg cs.toArray
  |none=>none
 |_=>none
theorem run_load {x:Operand}:(AOp.load x).run e σ=(σ.load (e.ev x)).map fun v=>(v,σ):=by
 simp only[AOp.run];generalize e.ev x=v;cases v<;>try rfl
 rename_i p;rcases p with _|⟨b,o,sp⟩
 ·rfl
 ·cases sp with
  |some s=>rfl
  |none=>
   simp only[Hp.load];cases σ.m b<;>rfl
def Hp.store (σ:Hp)(n:Nat)(a x:Value):Option Hp:=match a with
 | .pointer (some ⟨b,o,none⟩)=>if(cellsOf x).length=n then(match σ.m b with
  |some blk=>(sq blk o (cellsOf x)).map fun y=>σ.set b (some y)
  |none=>none)else none
 |_=>none
theorem run_store {n:Nat}{x y:Operand}:(AOp.store n x y).run e σ=(σ.store n (e.ev x) (e.ev y)).map fun σ'=>(undef,σ'):=by
 simp only[AOp.run];generalize e.ev x=v;cases v<;>try rfl
 rename_i p;rcases p with _|⟨b,o,sp⟩
 ·rfl
 ·cases sp with
  |some s=>rfl
  |none=>
   simp only[Hp.store];by_cases h:(cellsOf (e.ev y)).length=n
   ·simp only[h,if_true];cases σ.m b with
    |none=>rfl
    |some blk=>
     simp only;cases sq blk o (cellsOf (e.ev y))<;>rfl
   ·simp only[h,if_false];rfl
end
end
section
def cu8 :fB:=fun _ _ _ _=>False
def fB.put (T:fB)(f:FuncId)(s:aA3):fB:=fun g=>if g=f then s else T g
def aE7 (s:aA3):Prop:= ∀args σ (K K':Value→Hp→Prop),(∀r σ',K r σ'→K' r σ')→s args σ K→s args σ K'
structure Known (P:Program)(T:fB):Prop where
 mono:oq T
 sim: ∀f,yQ P f (T f)
theorem Known.none (P:Program):Known P cu8:=⟨fun _ _ _ _ _ _ h=>h,fun f=>yQ.none P f⟩
theorem Known.put {P:Program}{T:fB}(h:Known P T){f:FuncId}{s:aA3}(hm:aE7 s)(hs:yQ P f s):Known P (T.put f s):=by
 constructor
 ·intro g args σ K K' hk hg;simp only[fB.put]at hg⊢;split
  ·rename_i he;rw[zE he]at hg;exact hm _ _ _ _ hk hg
  ·rename_i he;rw[zF he]at hg;exact h.mono _ _ _ _ _ hk hg
 ·intro g;show yQ P g (if g=f then s else T g);by_cases e:g=f
  ·subst e;rw[zE rfl];exact hs
  ·rw[zF e];exact h.sim g
theorem aE7.sp (S:eI):aE7 (sp S):=fun _ _ _ _ hk ⟨r,σ',h1,h2⟩=>⟨r,σ',h1,hk r σ' h2⟩
theorem aE7.wpF {T:fB}(hT:oq T)(a:AFn):aE7 (wpF T a):=by
 intro args σ K K' hk h;refine⟨h.1,fC hT _ _ _ (fun x e s hx=> ?_) _ _ h.2⟩;cases x with
 |exit id=>exact hx
 |normal=>
  simp only at hx⊢;split at hx
  ·exact hk _ _ hx
  ·exact hx
 |ret=>
  simp only at hx⊢;split at hx
  ·exact hk _ _ hx
  ·exact hx
theorem Known.fn {P:Program}{T:fB}(h:Known P T){f:FuncId}{af:AFn}(ht:bH5 P f=some af):yQ P f (wpF T af):=bS5 ht h.mono h.sim
theorem Known.rel {P:Program}{T:fB}(hU:Known P T){f:FuncId}{af:AFn}{S:eI}(h:bH5 P f=some af)
  (hS: ∀args σ r σ',σ.Ok→S args σ r σ'→wpF T af args σ (Fin σ fun r1 σ1=>r1=r∧σ1=σ')):yQ P f (sp S):=by
 refine yQ.fin (hU.fn h) fun args σ K hlt hk=> ?_
 obtain⟨r,σ',h1,h2⟩:=hk;refine aE7.wpF hU.mono af _ _ _ _ ?_ (hS args σ r σ' hlt h1);rintro r1 σ1 ⟨ν,s',r',hw,rfl,rfl⟩;exact⟨ν,s',r',hw,h2⟩
section
variable {T:fB} {Q:AExit→dM→Hp→Prop} {e:dM} {σ:Hp} {b:AC} {I:dM→Hp→Prop} {m:dM→Hp→Nat} {e0:dM} {σ0:Hp}
end
section
variable {k:IntKind} {a b:Int}
end
section
variable {a b c d:Value} {l:List Value}
end
section
variable {σ:Hp} {x y:Blk} {i b o:Nat} {z:Option Blk}
theorem set_set {z':Option Blk}:(σ.set b z).set b z'=σ.set b z':=by
 simp only[Hp.set,Hp.mk.injEq,and_true]
 funext i
 split<;>rfl
end
section
variable {e:dM} {σ:Hp} {rs:List ARes} {t n b o:Nat}
def two (v:Option Value)(vs:Option (List Value)):Option (List Value):=match v,vs with
 |some v,some vs=>some (v::vs)
 |_,_=>none
end
section
variable {T:fB} {e:dM} {σ:Hp} {k:Value→Hp→Prop} {q:dM→Hp→Prop}
def cv0 (n:Nat):Value→Option Value
 | .pointer (some ⟨b,o,none⟩)=>some (.pointer (some ⟨b,o+n,none⟩))
 |_=>none
def ct3 (es:Nat)(k:Value→Hp→Prop)(σ:Hp):Value→Value→Prop
 | .slice (some ⟨b,o,none⟩) n _, .int _ j=>(0≤j∧j<n)∧k (.pointer (some ⟨b,o+j.toNat*es,none⟩)) σ
 |_,_=>False
def bT2 (ln es:Nat)(k:Value→Hp→Prop)(σ:Hp):Value→Value→Prop
 | .pointer (some ⟨b,o,none⟩), .int _ j=>(0≤j∧j<ln)∧k (.pointer (some ⟨b,o+j.toNat*es,none⟩)) σ
 |_,_=>False
def fieldV (fo n:Nat)(agg:Bool):Value→Option Value
 | .agg cs=>if agg=true then some (.agg (cs.extract fo (fo+n)))else cs[fo]?
 |_=>none
end
section
variable {T:fB} {q:dM→Hp→Prop} {r:List SItem} {e:dM} {σ:Hp} {i:Nat} {d:Option Nat} {kp:Bool} {is:List Nat} {chk:List (Nat×(Hp→Prop))}
end
end
section
def e0 :dM:=fun _=>undef
section
variable {T:fB} {e:dM} {σ:Hp} {k:Value→Hp→Prop}
end
section
variable {σ:Hp} {x:Blk} {i b:Nat} {z:Option Blk}
end
end
section
open IntKind renaming bits → aW, max → aX, min → aY, signed → aZ
open List renaming getElem?_eq_none → aB, getElem?_eq_getElem → bA
open Nat renaming lt_or_ge → aD
open Option renaming map_some → bB
open Go.RowKit (Below)
structure Row where
 c:Nat
 o:Nat
 ext:Nat
 es:Nat
 cells:List Value
def bW6 (P:Program)(w:World):Prop:=P.globalNamed "internal/strconv.uint64pow10" ≠none→Lib.TabIs P w "internal/strconv.uint64pow10" .u64 Lib.pow10Tab
def Base.of {P:Program}(w:World)(hT:bW6 P w):Base P:=⟨w.heap.size,fun b=>w.heap[b]?,fun w' _ hh hne=>by
 have h:=hT hne;unfold Lib.TabIs World.var? at h⊢;cases hg:P.globalNamed "internal/strconv.uint64pow10" with
 |none=>exact(hne hg).elim
 |some g=>
  simp only[hg,zG]at h⊢
  have hlt:g<w.heap.size:=by
   rcases aD g w.heap.size with h'|h'
   ·exact h'
   ·rw[Array.getElem?_eq_none h']at h;cases h
  rw[hh g hlt]
  exact h⟩
def kq (rows:List Row):Mu:=fun i=>(rows[i]?).map fun r=>⟨r.c,r.o,r.ext,r.es,0,none⟩
def jK (size:Nat)(rows:List Row):Hp:={m:=fun i=>(rows[i]?).bind fun r=>if r.c<size then some ⟨r.cells,false,r.es⟩else none,n:=rows.length}
theorem cF4 {P:Program}{w:World}(hT:bW6 P w){rows:List Row}(h: ∀r∈rows,∀(i:Nat) (v:Value),r.cells[i]?=some v→∃v',w.cell? ⟨r.c,r.o+i,none⟩=some v'∧VR (kq rows) v v'):
  R (Base.of w hT) (kq rows) (jK w.heap.size rows) w:=by
 refine⟨Nat.le_refl _,fun _ _=>rfl,fun b hb=> ?_,fun b x hx=> ?_,fun b b' x x' g g' hx _ _ ho=> ?_,fun b x g _ hg hi _ _=>(by
  simp only[kq]at hg;cases hr:rows[b]? with
  |none=>rw[hr]at hg;cases hg
  |some r=>rw[hr]at hg;injection hg with hg;subst hg;cases hi)⟩
 ·simp only[kq,aB hb,Option.map_none]
 ·simp only[jK]at hx;cases hr:rows[b]? with
  |none=>rw[hr]at hx;cases hx
  |some r=>
   rw[hr,zG]at hx;split at hx
   ·rename_i hlt;injection hx with hx
    subst hx;refine⟨⟨r.c,r.o,r.ext,r.es,0,none⟩,by simp only[kq,hr,bB],hlt,rfl,fun _ i v hv=>h r (List.mem_of_getElem? hr) i v hv,fun _ ho=>(by cases ho),fun _ hs=>(by cases hs),fun hs=>by cases hs⟩
   ·cases hx
 ·simp only[jK]at hx;cases hr:rows[b]? with
  |none=>rw[hr]at hx;cases hx
  |some r=>
   rw[hr,zG]at hx;split at hx
   ·injection hx with hx
    subst hx;cases ho
   ·cases hx
theorem cx2 {size:Nat}{rows:List Row}:(jK size rows).Ok:=by
 intro b x hx;rcases aD b rows.length with h|h
 ·exact h
 ·simp only[jK,aB h,Option.bind_none]at hx;cases hx
theorem cE0 {P:Program}{f:FuncId}{S:aA3}(hs:yQ P f S){w:World}(hT:bW6 P w){rows:List Row}{args:List Value}{cargs:Array Value}
  (hrows: ∀r∈rows,∀(i:Nat) (v:Value),r.cells[i]?=some v→∃v',w.cell? ⟨r.c,r.o+i,none⟩=some v'∧VR (kq rows) v v')
  (hargs:F2 (VR (kq rows)) args cargs.toList) (h:S args (jK w.heap.size rows) fun r _=>r= .bool true):
  Calls P f cargs w fun e w'=>e= .returned (.bool true)∧Below w.heap.size w w':=by
 refine(hs _ _ _ w args cargs _ h (cF4 hT hrows) hargs).2.mono fun x w' hx=> ?_
 obtain⟨r,σ',r',μ',rfl,rfl,_,_,hr,hb,_⟩:=hx;cases hr;exact⟨rfl,hb⟩
def Sl (k:IntKind)(σ:Hp)(v:Value)(l:List Int):Prop:=
 (v= .slice none 0 0∧l=[])∨∃b c rest,v= .slice (some ⟨b,0,none⟩) l.length c∧l.length≤c∧c≤maxLen∧b<σ.n∧(l≠[]→σ.m b=some ⟨(l++rest).map (.int k),false,1⟩)
def aE6 (k:IntKind)(w:World)(a:Option Addr)(len cap:Nat)(zs:List Int):Prop:=
 (a=none∧len=0∧cap=0∧zs=[])∨
 ∃x,a=some x∧len≤cap∧cap≤maxLen∧zs.length=cap∧(∀i,i<zs.length→w.cell? (x.add i)=some (.int k (zs.getD i 0)))∧∀n∈zs,(Lit.int k n).wf=true
def ax8 (k:IntKind)(a:Option Addr)(cap:Nat)(zs:List Int):Row:=match a with
 |some x=>⟨x.block,x.off,cap,1,zs.map (.int k)⟩
 |none=>⟨0,0,0,1,[]⟩
def cn2 (k:Nat)(a:Option Addr)(len cap:Nat):Value:=match a with
 |some _=> .slice (some ⟨k,0,none⟩) len cap
 |none=> .slice none 0 0
section
variable {k:IntKind} {w:World} {a:Option Addr} {len cap:Nat} {zs:List Int} {rows:List Row} {j:Nat}
theorem bq9 {x:Addr}{v:Value}(h:w.cell? x=some v):x.block<w.heap.size:=by
 unfold World.cell? at h;split at h
 ·rename_i hb;exact(Array.getElem?_eq_some_iff.1 hb).1
 ·cases h
theorem ak0 {x:Addr}{v:Value}(h:w.cell? (x.add 0)=some v):x.spot=none:=by
 have:=World.cell?_spot h;simpa[Addr.add]using this
theorem ub {x:Addr}{i:Nat}{v:Value}(hs:x.spot=none)(h:w.cell? (x.add i)=some v):w.cell? ⟨x.block,x.off+i,none⟩=some v:=by
 obtain⟨b,o,s⟩:=x;simp only at hs;subst hs
 have:(⟨b,o,none⟩:Addr).add i=⟨b,o+i,none⟩:=by
  simp only[Addr.add];split
  ·rename_i h0;subst h0;rfl
  ·rfl
 rwa [this]at h
theorem aE6.cells (h:aE6 k w a len cap zs){i:Nat}{v:Value}(hv:(ax8 k a cap zs).cells[i]?=some v):
  ∃v',w.cell? ⟨(ax8 k a cap zs).c,(ax8 k a cap zs).o+i,none⟩=some v'∧VR (kq rows) v v':=by
 rcases h with⟨rfl,rfl,rfl,rfl⟩|⟨x,rfl,hl,hm,hz,hc,hw⟩
 ·simp[ax8]at hv
 ·simp only[ax8]at hv⊢;simp only[List.getElem?_map]at hv
  have hi:i<zs.length:=by
   rcases aD i zs.length with h|h
   ·exact h
   ·rw[aB h]at hv;cases hv
  rw[bA hi,bB]at hv;injection hv with hv
  subst hv;refine⟨_,ub (ak0 (hc 0 (by omega))) (hc i hi), ?_⟩;have:zs.getD i 0=zs[i]:=by simp[List.getD,bA hi]
  rw[this];exact .int _ _
theorem aE6.sl (h:aE6 k w a len cap zs)(hr:rows[j]?=some (ax8 k a cap zs)):Sl k (jK w.heap.size rows) (cn2 j a len cap) (zs.take len):=by
 rcases h with⟨rfl,rfl,rfl,rfl⟩|⟨x,rfl,hl,hm,hz,hc,hw⟩
 ·exact .inl ⟨rfl,by simp⟩
 ·have hlen:(zs.take len).length=len:=by rw[List.length_take];omega
  refine .inr ⟨j,cap,zs.drop len,by rw[hlen];rfl,by omega,hm, ?_,fun hne=> ?_⟩
  ·rcases aD j rows.length with h|h
   ·exact h
   ·rw[aB h]at hr;cases hr
  ·have hz0:0<zs.length:=by
    rcases Nat.eq_zero_or_pos zs.length with h|h
    ·rw[List.length_eq_zero_iff]at h;subst h;simp at hne
    ·exact h
   have hlt:x.block<w.heap.size:=bq9 (x:=⟨x.block,x.off+0,none⟩) (ub (ak0 (hc 0 hz0)) (hc 0 hz0));simp only[jK,hr,zG,ax8,zE hlt,List.take_append_drop]
theorem aE6.wf (h:aE6 k w a len cap zs): ∀n∈zs.take len,(Lit.int k n).wf=true:=by
 rcases h with⟨rfl,rfl,rfl,rfl⟩|⟨x,rfl,hl,hm,hz,hc,hw⟩
 ·simp
 ·exact fun n hn=>hw n (List.mem_of_mem_take hn)
end
theorem cG6 {n:Int}(h:(Lit.int .i64 n).wf=true): -9223372036854775808≤n∧n≤9223372036854775807:=by
 simpa[Lit.wf,aY,aX,aZ,aW]using h
theorem cG7 {n:Int}(h:(Lit.int .u64 n).wf=true):0≤n∧n≤18446744073709551615:=by
 simpa[Lit.wf,aY,aX,aZ,aW]using h
theorem cM4 {n:Int}(h:(Lit.int .u8 n).wf=true):0≤n∧n≤255:=by
 simpa[Lit.wf,aY,aX,aZ,aW]using h
end
end Go.Ab
