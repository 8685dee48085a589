/- A part of the proofs of this claim: what functions of the program answer on an abstract machine, and plain laws. No condition. -/
import Derived.Test.YtgigjokffalgkaaGreatA1
import Derived.Laws.BytesString
import Derived.Laws.RangeAny
import Derived.Laws.IdiomStrings
import Derived.Laws.Cover4
import Derived.Lib.OthersKept
import Derived.IntWalk
import Derived.Below
set_option linter.unusedVariables false
set_option linter.unusedSimpArgs false
set_option linter.unusedSectionVars false
namespace Go.Ab
open Option renaming some->C,none->O
open Bool renaming true->Za,false->Zb
open Decidable renaming decide->Zc
section
open Go.RowKit
section
variable {P:Program} {o:Oper} {a:Act} {w w':World} {B:Base P} {N:Nat} {Z:Mu} {e:dn} {Y Y':Hp} {v:Value}
theorem R.iter (h:R B Z Y w)(s:ByteArray):R B (Z.add Y.n ⟨w.heap.size,0,0,1,0,C (.string s)⟩) (Y.add ⟨[.int .i64 0],Za,1⟩) (w.iter s 0)/\Z.le (Z.add Y.n ⟨w.heap.size,0,0,1,0,C (.string s)⟩):=by
 have hf:Z Y.n=O:=h.fresh _ (Nat.le_refl _);have hle':Z.le (Z.add Y.n ⟨w.heap.size,0,0,1,0,C (.string s)⟩):=Mu.le_add hf
 have old: ∀b x,b≠Y.n->(Y.add ⟨[.int .i64 0],Za,1⟩).m b=C x->Y.m b=C x:=by
  intro b x hb hx;simpa[Hp.add,hb]using hx
 have new: ∀x,(Y.add ⟨[.int .i64 0],Za,1⟩).m Y.n=C x->x=⟨[.int .i64 0],Za,1⟩:=by
  intro x hx;simp[Hp.add]at hx;exact hx.symm
 have oldlt: ∀b x g,Y.m b=C x->Z b=C g->g.c<w.heap.size:=λb x g hx hg=>(h.get hx hg).lt
 have hsz:(w.iter s 0).heap.size=w.heap.size+1:=by simp[World.iter]
 refine⟨⟨by rw[hsz];exact Nat.le_succ_of_le h.base,λk hk=>(Below.heap_alloc w _ _ (Nat.lt_of_lt_of_le hk h.base)).trans (h.old k hk),λb hb=> ?_,λb x hx=> ?_,λb b' x x' g g' hx hx' hne ho hg hg'=> ?_, ?_⟩,hle'⟩
 .have:Y.n+1<=b:=hb;unfold Mu.add;rw[zF (by omega)];exact h.fresh b (by omega)
 .by_cases hb:b=Y.n
  .subst hb;obtain rfl:=new x hx
   exact⟨⟨w.heap.size,0,0,1,0,C (.string s)⟩,by simp[Mu.add],⟨by rw[hsz];exact Nat.lt_succ_self _,rfl,λh0=>(by cases h0),λh0=>(by cases h0),λs' hs=>by
    injection hs with hs
    injection hs with hs
    subst hs
    exact⟨h.base,0,rfl,World.iter_heap w s 0⟩,λhs=>by injection hs with hs;cases hs⟩⟩
  .have hx':=old b x hb hx;obtain⟨g,h1,h2⟩:=h.live b x hx';exact⟨g,hle' _ _ h1,(h2.mono hle').kept (by rw[hsz];exact Nat.le_succ _) (Below.heap_alloc w _ _ h2.lt) (λhi k hk=>Below.heap_alloc w _ _ (h.buf hx' h1 hi hk).2.1)⟩
 .by_cases hb:b=Y.n
  .subst hb;have hb':b'≠Y.n:=λe=>hne e.symm
   have:g.c=w.heap.size:=by simp[Mu.add]at hg;rw[<-hg]
   have h2:Z b'=C g':=by simpa[Mu.add,hb']using hg'
   have:=oldlt b' x' g' (old _ _ hb' hx') h2;omega
  .have h1:Z b=C g:=by simpa[Mu.add,hb]using hg
   have hx1:=old b x hb hx;by_cases hb':b'=Y.n
   .subst hb';have:g'.c=w.heap.size:=by simp[Mu.add]at hg';rw[<-hg']
    have:=oldlt b x g hx1 h1;omega
   .have h2:Z b'=C g':=by simpa[Mu.add,hb']using hg'
    exact h.inj b b' x x' g g' hx1 (old _ _ hb' hx') hne ho h1 h2
 .refine h.sep.of (λb x g hx hg=> ?_) (λb x g hx hg hi _=> ?_)
  .by_cases hb:b=Y.n
   .subst hb;have e1:g=⟨w.heap.size,0,0,1,0,C (.string s)⟩:=by simp[Mu.add]at hg;exact hg.symm
    subst e1;exact .inr ⟨λh0=>(by injection h0 with h0;cases h0),λb1 x1 g1 k h1 h2 h3 h4 e=>by have:=(h.buf h1 h2 h3 h4).2.1;simp only at e;omega⟩
   .exact .inl ⟨x,old b x hb hx,by simpa[Mu.add,hb]using hg⟩
  .unfold tX;rw[show(w.iter s 0).heap[g.c]?=w.heap[g.c]? from Below.heap_alloc w _ _ (oldlt b x g hx hg)]
theorem R.step (h:R B Z Y w){b:Nat}{x:Blk}{g:G}{s:ByteArray}(hx:Y.m b=C x)(ho:x.own=Za)(hg:Z b=C g)(hit:g.it=C (.string s))(q:Nat):
  R B Z (Y.set b (C ⟨[.int .i64 (q:Int)],Za,x.es⟩)) (w.iterAt g.c s q):=by
 have hl:=h.get hx hg;obtain⟨o1,p,o3,o4⟩:=hl.iter s hit;have hother: ∀k,k≠g.c->(w.iterAt g.c s q).heap[k]?=w.heap[k]?:=λk hk=>Lib.iterAt_other w _ k s q hk
 have hsz:(w.iterAt g.c s q).heap.size=w.heap.size:=Lib.iterAt_size w _ s q
 have old: ∀b' x',b'≠b->(Y.set b (C ⟨[.int .i64 (q:Int)],Za,x.es⟩)).m b'=C x'->Y.m b'=C x':=by
  intro b' x' hb hx';simpa[Hp.set,hb]using hx'
 have new: ∀x',(Y.set b (C ⟨[.int .i64 (q:Int)],Za,x.es⟩)).m b=C x'->x'=⟨[.int .i64 (q:Int)],Za,x.es⟩:=by
  intro x' hx';simp[Hp.set]at hx';exact hx'.symm
 refine⟨by rw[hsz];exact h.base,λk hk=>(hother k (by omega)).trans (h.old k hk),h.fresh,λb' x' hx'=> ?_,λb1 b2 x1 x2 g1 g2 h1 h2 hne hown hg1 hg2=> ?_, ?_⟩
 .by_cases hb:b'=b
  .subst hb;obtain rfl:=new x' hx'
   exact⟨g,hg,⟨by rw[hsz];exact hl.lt,hl.es,λh0=>(by rw[hit]at h0;cases h0),λh0=>(by rw[hit]at h0;cases h0),λs' hs=>by
    rw[hit]at hs;injection hs with hs
    injection hs with hs
    subst hs
    exact⟨o1,q,rfl,Lib.iterAt_heap w _ s p q o4⟩,λhs=>by rw[hit]at hs;injection hs with hs;cases hs⟩⟩
  .have hx1:=old b' x' hb hx';obtain⟨g',h1,h2⟩:=h.live b' x' hx1;exact⟨g',h1,h.stays hx1 h1 (by rw[hsz];exact Nat.le_refl _) g.c (λk hk _=>hother k hk) (λe=>h.inj b b' x x' g g' hx hx1 (λe=>hb e.symm) ho hg h1 e.symm) (λhi hk=>((h.sep b' x' g' hx1 h1 hi _ hk b x g hx hg).1 rfl))⟩
 .have keyown: ∀b' x',(Y.set b (C ⟨[.int .i64 (q:Int)],Za,x.es⟩)).m b'=C x'->∃y,Y.m b'=C y/\y.own=x'.own:=by
   intro b' x' hx';by_cases hb:b'=b
   .subst hb;obtain rfl:=new x' hx';exact⟨x,hx,ho⟩
   .exact⟨x',old b' x' hb hx',rfl⟩
  obtain⟨y1,hy1,e1⟩:=keyown _ _ h1;obtain⟨y2,hy2,_⟩:=keyown _ _ h2;exact h.inj b1 b2 y1 y2 g1 g2 hy1 hy2 hne (e1.trans hown) hg1 hg2
 .have oldl: ∀b' x',(Y.set b (C ⟨[.int .i64 (q:Int)],Za,x.es⟩)).m b'=C x'->∃y,Y.m b'=C y:=by
   intro b' x' hx';by_cases hb:b'=b
   .subst hb;exact⟨x,hx⟩
   .exact⟨x',old b' x' hb hx'⟩
  refine h.sep.of (λb' x' g' hx' hg'=> .inl (let⟨y,hy⟩:=oldl b' x' hx';⟨y,hy,hg'⟩)) (λb' x' g' hx' hg' hi _=> ?_);have hne:b'≠b:=λe=>by subst e;rw[hg]at hg';injection hg' with hg';subst hg';rw[hit]at hi;injection hi with hi;cases hi
  unfold tX;rw[hother _ (λe=>h.inj b b' x x' g g' hx hx' (λe=>hne e.symm) ho hg hg' e.symm)]
end
end
section
open Go.RowKit
section
variable {P:Program} {o:Oper} {a:Act} {w:World} {B:Base P} {N:Nat} {Z:Mu} {e:dn} {Y Y':Hp} {v:Value}
theorem aE0 {x y:Option Operand}(h:dh5 x=C y):x=y/\∀u,y=C u->ei u=Za:=by
 unfold dh5 at h;split at h
 .rename_i x;obtain⟨z,hz,h⟩:=Option.map_eq_some_iff.1 h;obtain⟨rfl,h2⟩:=cc hz;subst h;exact⟨rfl,λu hu=>by injection hu with hu;exact hu▸h2⟩
 .injection h with h
  subst h;exact⟨rfl,λu hu=>by cases hu⟩
def AOp.isCall :AOp->Bool
 | .call _ _| .callv _ _=>Za
 |_=>Zb
theorem da1 {op:BinOp}{t t':TypeId}{x y:Operand}{ao:AOp}(ho:o.op= .binOp op t x y t')(h:cr5 P op t x y=C ao)(hr:ao.run e Y=C (v,Y'))(he:gv Z N e a.tmps)(hR:R B Z Y w):lG P o a w B Z v Y':=by
 unfold cr5 at h;split at h
 .split at h
  .rename_i h1 h2;obtain⟨rfl,k1⟩:=cc h1;obtain⟨rfl,k2⟩:=cc h2;injection h with h
   subst h;exact cV9 ho k1 k2 hr he hR
  .cases h
 .split at h
  .rename_i h1 h2;obtain⟨rfl,k1⟩:=cc h1;obtain⟨rfl,k2⟩:=cc h2;injection h with h
   subst h;exact cV9 ho k1 k2 hr he hR
  .cases h
 .split at h
  .rename_i hf h1 h2;obtain⟨rfl,k1⟩:=cc h1;obtain⟨rfl,k2⟩:=cc h2;injection h with h
   subst h;exact am3 ho rfl hf k1 k2 hr he hR
  .rename_i hf h1 h2;obtain⟨rfl,k1⟩:=cc h1;obtain⟨rfl,k2⟩:=cc h2;injection h with h
   subst h;exact am3 ho rfl hf k1 k2 hr he hR
  .cases h
 .split at h
  .rename_i hf h1 h2;obtain⟨rfl,k1⟩:=cc h1;obtain⟨rfl,k2⟩:=cc h2;injection h with h
   subst h;exact am3 ho rfl hf k1 k2 hr he hR
  .rename_i hf h1 h2;obtain⟨rfl,k1⟩:=cc h1;obtain⟨rfl,k2⟩:=cc h2;injection h with h
   subst h;exact am3 ho rfl hf k1 k2 hr he hR
  .cases h
 .rename_i hu;split at h
  .rename_i hk h1 h2;obtain⟨rfl,k1⟩:=cc h1;obtain⟨rfl,k2⟩:=cc h2;injection h with h
   subst h;exact cW0 ho rfl hu hk k1 k2 hr he hR
  .rename_i hk h1 h2;obtain⟨rfl,k1⟩:=cc h1;obtain⟨rfl,k2⟩:=cc h2;injection h with h
   subst h;exact cW0 ho rfl hu hk k1 k2 hr he hR
  .cases h
 .cases h
theorem cN9 {c:Call}{ao:AOp}(ho:o.op= .call c)(h:an8 P c=C ao)(hc:ao.isCall=Zb)(hr:ao.run e Y=C (v,Y'))(he:gv Z N e a.tmps)(hR:R B Z Y w):lG P o a w B Z v Y':=by
 unfold an8 at h;split at h
 .split at h
  .obtain⟨x,_,h⟩:=Option.map_eq_some_iff.1 h;subst h;simp[AOp.isCall]at hc
  .cases h
 .obtain⟨x,_,h⟩:=Option.map_eq_some_iff.1 h;subst h;simp[AOp.isCall]at hc
 .rename_i hcal;split at h
  .rename_i ha ht;split at h
   .rename_i hu1 hu2 h1 h2;obtain⟨rfl,k1⟩:=cc h1;obtain⟨rfl,k2⟩:=cc h2;split at h
    .rename_i hn hb hz;split at h
     .rename_i hzn;injection h with h
      subst h;exact bL6 ho hcal ha ht hu1 (.inl ⟨_,hu2⟩) hn hb hz hzn k1 k2 hr he hR
     .cases h
    .cases h
   .rename_i hu1 hu2 h1 h2;obtain⟨rfl,k1⟩:=cc h1;obtain⟨rfl,k2⟩:=cc h2;split at h
    .rename_i hn hb hz;split at h
     .rename_i hzn;injection h with h
      subst h;exact bL6 ho hcal ha ht hu1 (.inr hu2) hn hb hz hzn k1 k2 hr he hR
     .cases h
    .cases h
   .rename_i hu1 hu2 h1 h2;obtain⟨rfl,k1⟩:=cc h1;obtain⟨rfl,k2⟩:=cc h2;split at h
    .rename_i hn hb hz;split at h
     .rename_i hzn;injection h with h
      subst h;exact cx8 ho hcal ha ht hu1 ⟨_,hu2⟩ hn hb hz hzn.1 hzn.2 k1 k2 hr he hR
     .cases h
    .cases h
   .cases h
  .cases h
 .rename_i hcal;split at h
  .rename_i ha ht;split at h
   .rename_i hu h1 h2;obtain⟨rfl,k1⟩:=cc h1;obtain⟨rfl,k2⟩:=cc h2;split at h
    .rename_i hn;injection h with h
     subst h;exact dg9 ho hcal ha ht hu hn k1 k2 hr he hR
    .cases h
   .cases h
  .cases h
 .rename_i hcal;split at h
  .rename_i ha ht;split at h
   .rename_i hu h1;obtain⟨rfl,k1⟩:=cc h1;injection h with h
    subst h;exact dt6 ho hcal ha ht hu k1 hr he hR
   .rename_i hu;injection h with h
    subst h;exact cE7 ho hcal ha ht (.inl ⟨_,hu⟩) hr hR
   .rename_i hu;split at h
    .rename_i hp;injection h with h
     subst h;exact cE7 ho hcal ha ht (.inr ⟨_,_,hu,hp⟩) hr hR
    .cases h
   .cases h
  .cases h
 .rename_i hcal;split at h
  .rename_i ha ht;split at h
   .rename_i hu h1;obtain⟨rfl,k1⟩:=cc h1;injection h with h
    subst h;exact dg7 ho hcal ha ht hu k1 hr he hR
   .cases h
  .cases h
 .rename_i hcal;split at h
  .rename_i ha;split at h
   .rename_i h1 h2;obtain⟨rfl,k1⟩:=cc h1;obtain⟨rfl,k2⟩:=cc h2;injection h with h
    subst h;exact dh2 ho hcal ha k1 k2 hr he hR
   .cases h
  .cases h
 .rename_i hcal;split at h
  .rename_i ha;split at h
   .rename_i h1 h2;obtain⟨rfl,k1⟩:=cc h1;obtain⟨rfl,k2⟩:=cc h2;injection h with h
    subst h;exact cW1 ho hcal ha k1 k2 hr he hR
   .cases h
  .cases h
 .cases h
theorem dn2 {ao:AOp}(h:cr8 P o=C ao)(hc:ao.isCall=Zb)(hr:ao.run e Y=C (v,Y'))(he:gv Z N e a.tmps)(hR:R B Z Y w):lG P o a w B Z v Y':=by
 unfold cr8 at h;split at h
 .rename_i ho;obtain⟨x,h1,h⟩:=Option.map_eq_some_iff.1 h;obtain⟨rfl,k1⟩:=cc h1;subst h;exact cE8 (.inl ho) k1 hr he hR
 .rename_i ho;obtain⟨x,h1,h⟩:=Option.map_eq_some_iff.1 h;obtain⟨rfl,k1⟩:=cc h1;subst h;exact cE8 (.inr ho) k1 hr he hR
 .rename_i ho;split at h
  .rename_i h1 h2 h3;obtain⟨rfl,k1⟩:=cc h1;obtain⟨rfl,k2⟩:=cc h2;obtain⟨rfl,k3⟩:=cc h3;injection h with h
   subst h;exact dh3 ho k1 k2 k3 hr he hR
  .cases h
 .rename_i ho;split at h
  .cases h
  .split at h
   .rename_i hz;injection h with h
    subst h;exact cV8 ho hz hr hR
   .cases h
 .rename_i ho;split at h
  .rename_i h1;obtain⟨rfl,k1⟩:=cc h1;injection h with h
   subst h;exact dt4 ho k1 hr he hR
  .cases h
 .rename_i ho;split at h
  .rename_i hu hz;split at h
   .rename_i hall;obtain⟨ps,hp,h⟩:=Option.map_eq_some_iff.1 h;subst h;exact bk1 ho hu hz hall hp hr he hR
   .cases h
  .rename_i hu hz;split at h
   .rename_i hn;obtain⟨ps,hp,h⟩:=Option.map_eq_some_iff.1 h;subst h;exact bw1 ho hu hn hz hp hr he hR
   .cases h
  .cases h
 .rename_i ho;split at h
  .rename_i hu;split at h
   .rename_i hn hz;split at h
    .rename_i hcond;obtain⟨ps,hp,h⟩:=Option.map_eq_some_iff.1 h;subst h;exact bI0 ho hu hn hz hcond.1 hcond.2.1 hcond.2.2 hp hr he hR
    .cases h
   .cases h
  .cases h
 .injection h with h
  subst h;cases hr
 .rename_i ho;split at h
  .rename_i ht h1;obtain⟨rfl,k1⟩:=cc h1;obtain⟨n,hn,h⟩:=Option.map_eq_some_iff.1 h;subst h;exact cW2 ho ht hn k1 hr he hR
  .rename_i ht h1;obtain⟨rfl,k1⟩:=cc h1;injection h with h
   subst h;exact dh1 ho ht k1 hr he hR
  .cases h
 .rename_i ho;split at h
  .rename_i hn h1 h2;obtain⟨rfl,k1⟩:=cc h1;obtain⟨rfl,k2⟩:=cc h2;injection h with h
   subst h;exact cW4 ho hn k1 k2 hr he hR
  .cases h
 .rename_i ho;obtain⟨x,h1,h⟩:=Option.map_eq_some_iff.1 h;obtain⟨rfl,k1⟩:=cc h1;subst h;exact cn3 ho k1 hr he hR
 .rename_i ho;exact da1 ho h hr he hR
 .rename_i ho;obtain⟨x,h1,h⟩:=Option.map_eq_some_iff.1 h;obtain⟨rfl,k1⟩:=cc h1;subst h;exact dA3 ho k1 hr he hR
 .rename_i ho;split at h
  .rename_i hs hd h1;obtain⟨rfl,k1⟩:=cc h1;injection h with h
   subst h;exact dg8 ho hs hd k1 hr he hR
  .cases h
 .rename_i ho;split at h
  .rename_i h0 h1;injection h with h
   subst h;exact cL3 ho h0 h1 hr he hR
  .cases h
 .rename_i ho;split at h
  .rename_i hu;split at h
   .rename_i hn hb hz h1 h2;obtain⟨rfl,k1⟩:=cc h1;obtain⟨rfl,k2⟩:=cc h2;split at h
    .rename_i hcond;injection h with h
     subst h;exact cb9 ho hu hn hb hz k1 k2 hcond.1 hcond.2 hr he hR
    .cases h
   .cases h
  .cases h
 .rename_i ho;split at h
  .rename_i hu h1 h2 h3;obtain⟨rfl,k1⟩:=cc h1;obtain⟨rfl,k2⟩:=aE0 h2;obtain⟨rfl,k3⟩:=aE0 h3;obtain⟨n,hn,h⟩:=Option.map_eq_some_iff.1 h;subst h;exact cW3 ho hu hn k1 k2 k3 hr he hR
  .rename_i hu h1 h2 h3;obtain⟨rfl,k1⟩:=cc h1;obtain⟨rfl,k2⟩:=aE0 h2;obtain⟨rfl,k3⟩:=aE0 h3;obtain⟨n,hn,h⟩:=Option.map_eq_some_iff.1 h;subst h;exact cn4 ho hu hn k1 k2 k3 hr he hR
  .cases h
 .rename_i ho;split at h
  .rename_i hu h1;obtain⟨rfl,k1⟩:=cc h1;split at h
   .rename_i hi;split at h
    .rename_i hn;split at h
     .cases h
     .rename_i h0;injection h with h
      subst h;exact dt7 ho hu hi hn h0 k1 hr he hR
    .cases h
   .cases h
  .cases h
 .rename_i ho;split at h
  .rename_i hu h1;obtain⟨rfl,k1⟩:=cc h1;split at h
   .rename_i hi;split at h
    .rename_i hn hb;injection h with h
     subst h;exact cL0 ho hu hi hn hb k1 hr he hR
    .cases h
   .cases h
  .cases h
 .rename_i ho;split at h
  .rename_i hu h1 h2;obtain⟨rfl,k1⟩:=cc h1;obtain⟨rfl,k2⟩:=cc h2;obtain⟨n,hn,h⟩:=Option.map_eq_some_iff.1 h;subst h;exact dt5 ho hu hn k1 k2 hr he hR
  .rename_i hu h1 h2;obtain⟨rfl,k1⟩:=cc h1;obtain⟨rfl,k2⟩:=cc h2;obtain⟨n,hn,h⟩:=Option.map_eq_some_iff.1 h;subst h;exact dh0 ho hu hn k1 k2 hr he hR
  .cases h
 .rename_i ho;split at h
  .rename_i hu h1 h2;obtain⟨rfl,k1⟩:=cc h1;obtain⟨rfl,k2⟩:=cc h2;split at h
   .rename_i hn hb;injection h with h
    subst h;exact cL2 ho hu hn hb k1 k2 hr he hR
   .cases h
  .rename_i hu h1 h2;obtain⟨rfl,k1⟩:=cc h1;obtain⟨rfl,k2⟩:=cc h2;injection h with h
   subst h;exact cL1 ho hu k1 k2 hr he hR
  .cases h
 .rename_i ho;split at h
  .rename_i hu h1 h2 h3;obtain⟨rfl,k1⟩:=cc h1;obtain⟨rfl,k2⟩:=cc h2;obtain⟨rfl,k3⟩:=cc h3;split at h
   .rename_i hn;injection h with h
    subst h;obtain⟨n,hn⟩:=Option.isSome_iff_exists.1 hn;exact cL4 ho hu hn k1 k2 k3 hr he hR
   .cases h
  .cases h
 .rename_i ho;obtain⟨x,h1,h⟩:=Option.map_eq_some_iff.1 h;obtain⟨rfl,k1⟩:=cc h1;subst h;exact cx9 ho k1 hr he hR
 .rename_i ho;exact cN9 ho h hc hr he hR
 .injection h with h
  subst h;cases hr
 .injection h with h
  subst h;cases hr
 .cases h
end
end
section
open Result renaming andThen_ok -> aB
open Sem renaming run_bind -> aD, run_pure -> bB
open Go.RowKit
def ce3 (ops:Array Oper):Option (Nat×Bool)->Option (Option (Nat×Bool))
 |none=>C O
 |some (j,want)=>match(ops[j]?).bind (·.dst)with
  |some t=>C (C (t,want))
  |none=>O
def cS1 (N:Nat):Option Nat->Bool
 |none=>Za
 |some d=>d<N
def bb8 (P:Program)(N:Nat)(ops:Array Oper)(o:Oper):Option AOper:=match cr8 P o,ce3 ops o.guard with
 |some op,C g=>if cS1 N o.dst then C ⟨o.dst,op,g⟩else O
 |_,_=>O
def aW0 (P:Program)(N:Nat)(ops:Array Oper):List Oper->Option (List AOper)
 |[]=>C []
 |o::r=>match bb8 P N ops o,aW0 P N ops r with
  |some x,C l=>C (x::l)
  |_,_=>O
def bO0 (P:Program)(f:FuncId):Prop:= ∃fn,P.funcs[f]?=C fn/\fn.body.isSome=Za/\(fn.name== "runtime.NumGoroutine")=Zb
def dv7 (P:Program)(B:Base P)(Z:Mu)(w:World)(K:Value->Hp->Prop):Ending->World->Prop:=λx w'=>
 ∃r Y' r' Z',x= .returned r'/\K r Y'/\Z.le Z'/\R B Z' Y' w'/\VR Z' r r'/\Below B w w'/\P=P
def Sim (P:Program)(f:FuncId)(S:aX6):Prop:=
 ∀(B:Base P) Z Y w args (cargs:Array Value) K,S args Y K->R B Z Y w->F2 (VR Z) args cargs.toList->bO0 P f/\Calls P f cargs w (dv7 P B Z w K)
def ap4 :Nat:=1000000
def xo :AExit->Exit->Prop
 | .normal, .normal=>True
 | .exit i, .exit j=>i=j/\j<ap4
 | .exit i, .goto l=>i=ap4+2*l
 | .ret, .ret=>True
 |_,_=>False
def rY {P:Program}(B:Base P)(N:Nat)(Z:Mu)(w:World)(Q:AExit->dn->Hp->Prop):Exit->Act->World->Prop:=λx a' w'=>
 ∃ax e' Y' Z',xo ax x/\Q ax e' Y'/\Z.le Z'/\R B Z' Y' w'/\gv Z' N e' a'.tmps/\a'.defers=[]/\Below B w w'
section
variable {P:Program} {T:gz} {o:Oper} {a:Act} {w:World} {B:Base P} {N:Nat} {Z:Mu} {e:dn} {Y Y':Hp} {v:Value}
theorem rY.trans {Z':Mu}{w':World}{Q:AExit->dn->Hp->Prop}(hZ:Z.le Z')(hb:Below B w w'){x:Exit}{a':Act}{w'':World}(h:rY B N Z' w' Q x a' w''):rY B N Z w Q x a' w'':=by
 obtain⟨ax,e',Y',Z'',h1,h2,h3,h4,h5,h6,h7⟩:=h;exact⟨ax,e',Y',Z'',h1,h2,Mu.le_trans hZ h3,h4,h5,h6,hb.trans h7⟩
theorem bN4 {ops:Array Oper}{g:Option (Nat×Bool)}{op:AOp}(hg:ce3 ops o.guard=C g)(he:gv Z N e a.tmps):Region.wanted o (yielded ops a.tmps)=wanted ⟨o.dst,op,g⟩ e:=by
 unfold ce3 at hg;unfold Region.wanted wanted;split at hg
 .rename_i h;injection hg with hg
  subst hg;simp[h]
 .rename_i j want h;split at hg
  .rename_i t ht;injection hg with hg
   subst hg;simp only[h];have hv:=he.2 t;unfold yielded;rw[ht];simp only[zG];by_cases hlt:t<a.tmps.size
   .have e1:a.tmps[t]?=C (a.tmps.getD t undef):=by simp[hlt]
    rw[e1];generalize a.tmps.getD t undef=u at*;generalize e t=u' at*;cases hv<;>simp
    try(rename_i b;cases b<;>cases want<;>rfl)
   .have e1:a.tmps[t]?=O:=Array.getElem?_eq_none (Nat.le_of_not_lt hlt);have e2:a.tmps.getD t undef=undef:=by simp[e1]
    rw[e2]at hv;rw[e1];generalize e t=u at*;cases hv;simp
  .cases hg
theorem gv.putO (h:gv Z N e a.tmps){d:Option Nat}(hd:cS1 N d=Za){v':Value}(hv:VR Z v v'):gv Z N (e.putO d v) (a.put d v').tmps:=by
 cases d with
 |none=>exact h
 |some d=>exact h.put d (by simpa[cS1]using hd) hv
theorem ui (d:Option Nat)(v':Value):(a.put d v').defers=a.defers:=by cases d<;>rfl
theorem bK0 {f:FuncId}(h:bO0 P f)(args:Array Value)(w:World):(callFunc f args).run P w= .ok (.enter f args) w:=by
 obtain⟨fn,h1,h2,h3⟩:=h;have h4:fn.body.isNone=Zb:=by cases hb:fn.body<;>simp[hb]at h2⊢
 simp only[callFunc,aD,run_program,aB,h1,h3,h4,Bool.false_eq_true,if_false,bB]
theorem VR.func_inv {f:Fn}{x y:Array Value}{v':Value}(h:VR Z (.func f x y) v'): ∃x' y',v'= .func f x' y'/\F2 (VR Z) x.toList x'.toList/\F2 (VR Z) y.toList y'.toList:=by
 cases h with
 |func h1 h2=>exact⟨_,_,rfl,h1,h2⟩
theorem cO0 {f:FuncId}{args:List Operand}(h:cr8 P o=C (.call f args)): ∃c,o.op= .call c/\an8 P c=C (.call f args):=by
 unfold cr8 at h;split at h
 all_goals first
  |exact⟨_,‹_›,h⟩
  |(exfalso;revert h;unfold cr5;(repeat' split)<;>simp)
  |(exfalso;revert h;(repeat' split)<;>simp)
theorem cB1 {f:Operand}{args:List Operand}(h:cr8 P o=C (.callv f args)): ∃c,o.op= .call c/\an8 P c=C (.callv f args):=by
 unfold cr8 at h;split at h
 all_goals first
  |exact⟨_,‹_›,h⟩
  |(exfalso;revert h;unfold cr5;(repeat' split)<;>simp)
  |(exfalso;revert h;(repeat' split)<;>simp)
theorem cr6 {c:Call}{f:FuncId}{args:List Operand}(h:an8 P c=C (.call f args)):c.callee= .value (.func f)/\bk4 c.args.toList=C args:=by
 unfold an8 at h;split at h
 .rename_i hc;split at h
  .simp at h;obtain⟨h1,rfl⟩:=h;exact⟨hc,h1⟩
  .cases h
 all_goals (exfalso;revert h;(repeat' split)<;>simp)
theorem ce2 {c:Call}{f:Operand}{args:List Operand}(h:an8 P c=C (.callv f args)):c.callee= .value f/\ei f=Za/\bk4 c.args.toList=C args:=by
 unfold an8 at h;split at h
 .exfalso;revert h;split<;>simp
 .rename_i hc;simp at h;obtain⟨h1,rfl⟩:=h;exact⟨hc,rfl,h1⟩
 all_goals (exfalso;revert h;(repeat' split)<;>simp)
theorem cC6 (hT: ∀f,Sim P f (T f)){f:FuncId}{args:List Value}{cargs:Array Value}{k:Value->Hp->Prop}(hr:T f args Y k)(hR:R B Z Y w)(ha:F2 (VR Z) args cargs.toList)
  (hrun:bO0 P f->(execOp a.eval o).run P w= .ok (.enter f cargs) w) {next:Act->World->Prop} {Q:Exit->Act->World->Prop}
  (hk: ∀v Y' v' Z' w',k v Y'->Z.le Z'->R B Z' Y' w'->VR Z' v v'->Below B w w'->next (a.put o.dst v') w'):o.wp P a w next Q:=by
 obtain⟨h1,h2⟩:=hT f B Z Y w args cargs k hr hR ha;unfold Oper.wp;rw[hrun h1];simp only[Oper.upon];refine h2.mono λx w' hx=> ?_
 obtain⟨r,Y',r',Z',rfl,q1,q2,q3,q4,q5,_⟩:=hx;exact hk r Y' r' Z' w' q1 q2 q3 q4 q5
theorem by1 (hT: ∀f,Sim P f (T f)){op:AOp}(h:cr8 P o=C op){k:Value->Hp->Prop}(hr:cz T op e Y k)(he:gv Z N e a.tmps)(hR:R B Z Y w)
  {next:Act->World->Prop} {Q:Exit->Act->World->Prop}
  (hk: ∀v Y' v' Z' w',k v Y'->Z.le Z'->R B Z' Y' w'->VR Z' v v'->Below B w w'->next (a.put o.dst v') w'):o.wp P a w next Q:=by
 by_cases hc:op.isCall=Za
 .cases op<;>simp[AOp.isCall]at hc
  case call f args=>
   obtain⟨c,ho,h1⟩:=cO0 h;obtain⟨h2,h3⟩:=cr6 h1;have ha:=aS7 he h3;simp only[cz]at hr;refine cC6 (cargs:=c.args.map a.eval) hT hr hR (by simpa using ha) (λhcall=> ?_) hk;simp only[execOp,ho,resolve,h2,aD,Act.eval,Deferred.ofValue,bB,aB,invoke];simp[bK0 hcall]
  case callv f args=>
   obtain⟨c,ho,h1⟩:=cB1 h;obtain⟨h2,h4,h3⟩:=ce2 h1;have ha:=aS7 he h3;have hf:=he.ev h4;simp only[cz]at hr;split at hr
   .rename_i g first captured hg
    rw[hg]at hf;obtain⟨x',y',e1,e2,e3⟩:=hf.func_inv;refine cC6 (cargs:=x'++c.args.map a.eval++y') hT hr hR (by simpa using(e2.append ha).append e3) (λhcall=> ?_) hk;simp only[execOp,ho,resolve,h2,e1,aD,Deferred.ofValue,bB,aB,invoke];simp[bK0 hcall]
   .exact hr.elim
 .have hr': ∃v Y',op.run e Y=C (v,Y')/\k v Y':=by
   unfold cz at hr;cases op<;>simp[AOp.isCall]at hc<;>simp only at hr
   all_goals
    split at hr
    .rename_i v Y' hv;exact⟨v,Y',hv,hr⟩
    .exact hr.elim
  obtain⟨v,Y',hv,hkv⟩:=hr';obtain⟨nx,w',Z',v',h1,h2,h3,h4,h5,h6⟩:=dn2 h (by simpa using hc) hv he hR;unfold Oper.wp;rw[h1];rcases h2 with rfl|⟨rfl,rfl⟩
  .exact hk v Y' v' Z' w' hkv h3 h4 h5 h6
  .exact hk v Y' undef Z' w' hkv h3 h4 h5 h6
theorem cc2 (hT: ∀f,Sim P f (T f)){ops:Array Oper}{Q:AExit->dn->Hp->Prop}{Z0:Mu}{w0:World}: ∀(l:List Oper) (al:List AOper) (e:dn) (Y:Hp) (Z:Mu) (a:Act) (w:World),aW0 P N ops l=C al->yI T (Q .normal) al e Y->
  R B Z Y w->gv Z N e a.tmps->a.defers=[]->Z0.le Z->Below B w0 w->wpList P ops (rY B N Z0 w0 Q) l a w
 |[],al,e,Y,Z,a,w,h,hw,hR,he,hd,hZ0,hb0=>by
  simp[aW0]at h;subst h;exact⟨.normal,e,Y,Z,trivial,hw,hZ0,hR,he,hd,hb0⟩
 |o::l,al,e,Y,Z,a,w,h,hw,hR,he,hd,hZ0,hb0=>by
  simp only[aW0]at h;split at h
  .rename_i x r h1 h2;injection h with h
   subst h;unfold bb8 at h1;split at h1
   .rename_i op g h3 h4;split at h1
    .rename_i h5;injection h1 with h1
     subst h1;have hwant:=bN4 (op:=op) h4 he;unfold wpList;simp only[yI]at hw;rw[hwant];split
     .rename_i hb;rw[zE hb]at hw;left;refine by1 hT h3 hw he hR λv Y' v' Z' w' hk hZ hR' hv hbel=> ?_
      exact cc2 hT l r _ Y' Z' (a.put o.dst v') w' h2 hk hR' ((he.mono hZ).putO h5 hv) (by rw[ui];exact hd) (Mu.le_trans hZ0 hZ) (hb0.trans hbel)
     .rename_i hb;rw[zF hb]at hw;exact cc2 hT l r _ Y Z (a.put o.dst undef) w h2 hw hR (he.putO h5 (VR.undef Z)) (by rw[ui];exact hd) hZ0 hb0
    .cases h1
   .cases h1
  .cases h
end
end
section
open List renaming map_congr_left -> aB, mem_append -> aD
open Go.RowKit
def nc :Operand->List Nat
 | .tmp t=>[t]
 |_=>[]
def da0 :Option Operand->List Nat
 |some x=>nc x
 |none=>[]
def AOp.reads :AOp->List Nat
 | .move x| .box _ x| .load x| .loadN _ x| .nilCheck x| .un _ x| .conv _ x| .off _ x| .fieldV _ _ _ x| .extract x _| .len x| .capN x=>nc x
 | .pick c a b| .sliceX c a b=>nc c++nc a++nc b
 | .alloc _ _| .lenC _| .stuck=>[]
 | .build _ ps| .buildSlice _ _ _ ps=>ps.flatMap λp=>nc p.2.2
 | .store _ a x=>nc a++nc x
 | .bin _ x y| .eqv _ _ x y| .eqCells _ _ x y| .idx _ x y| .idxA _ _ x y| .indexV _ _ _ x y| .indexS x y| .append _ _ x y| .appendZ _ _ _ x y| .copy _ x y| .most x y| .least x y| .makeSlice _ _ _ x y=>nc x++nc y
 | .mkFunc _ xs cs=>xs.flatMap nc++cs.flatMap nc
 | .slice _ x lo hi| .sliceArr _ _ x lo hi=>nc x++da0 lo++da0 hi
 | .call _ xs=>xs.flatMap nc
 | .callv f xs=>nc f++xs.flatMap nc
theorem cj {e e':dn}{x:Operand}(h: ∀t∈nc x,e t=e' t):e.ev x=e'.ev x:=by
 cases x<;>first|rfl|exact h _ (by simp[nc])
theorem aC8 {e e':dn}{x:Option Operand}(h: ∀t∈da0 x,e t=e' t):x.map e.ev=x.map e'.ev:=by
 cases x with
 |none=>rfl
 |some x=>simp only[Option.map_some];rw[cj h]
theorem aC7 {e e':dn}{xs:List Operand}(h: ∀t∈xs.flatMap nc,e t=e' t):xs.map e.ev=xs.map e'.ev:=by
 apply aB;intro x hx;exact cj λt ht=>h t (List.mem_flatMap.2 ⟨x,hx,ht⟩)
theorem bK1 {e e':dn}{ps:List (Nat×Nat×Operand)}(h: ∀t∈ps.flatMap (λp=>nc p.2.2),e t=e' t):(ps.map λ(o,s,x)=>(o,s,e.ev x))=ps.map λ(o,s,x)=>(o,s,e'.ev x):=by
 apply aB;rintro⟨o,s,x⟩ hx;simp only;rw[cj λt ht=>h t (List.mem_flatMap.2 ⟨_,hx,ht⟩)]
theorem bb0 {e e':dn}{Y:Hp}{op:AOp}(h: ∀t∈op.reads,e t=e' t):op.run e Y=op.run e' Y:=by
 cases op<;>simp only[AOp.reads,aD]at h<;>simp only[AOp.run]
 case move x=>rw[cj h]
 case pick c a b=>rw[cj λt ht=>h t (.inl (.inl ht)),cj λt ht=>h t (.inl (.inr ht)),cj λt ht=>h t (.inr ht)]
 case box es x=>rw[cj h]
 case build z ps=>rw[bK1 h]
 case buildSlice es ln z ps=>rw[bK1 h]
 case load x=>rw[cj h]
 case loadN n x=>rw[cj h]
 case store n a x=>rw[cj λt ht=>h t (.inl ht),cj λt ht=>h t (.inr ht)]
 case nilCheck x=>rw[cj h]
 case bin op x y=>rw[cj λt ht=>h t (.inl ht),cj λt ht=>h t (.inr ht)]
 case eqv kd neg x y=>rw[cj λt ht=>h t (.inl ht),cj λt ht=>h t (.inr ht)]
 case eqCells neg ks x y=>rw[cj λt ht=>h t (.inl ht),cj λt ht=>h t (.inr ht)]
 case un op x=>rw[cj h]
 case conv k x=>rw[cj h]
 case mkFunc f xs cs=>rw[aC7 λt ht=>h t (.inl ht),aC7 λt ht=>h t (.inr ht)]
 case makeSlice es by_ z l c=>rw[cj λt ht=>h t (.inl ht),cj λt ht=>h t (.inr ht)]
 case slice es x lo hi=>rw[cj λt ht=>h t (.inl (.inl ht)),aC8 λt ht=>h t (.inl (.inr ht)),aC8 λt ht=>h t (.inr ht)]
 case sliceArr es n x lo hi=>rw[cj λt ht=>h t (.inl (.inl ht)),aC8 λt ht=>h t (.inl (.inr ht)),aC8 λt ht=>h t (.inr ht)]
 case off n x=>rw[cj h]
 case idx es x i=>rw[cj λt ht=>h t (.inl ht),cj λt ht=>h t (.inr ht)]
 case idxA ln es x i=>rw[cj λt ht=>h t (.inl ht),cj λt ht=>h t (.inr ht)]
 case fieldV fo n agg x=>rw[cj h]
 case indexV ln es agg x i=>rw[cj λt ht=>h t (.inl ht),cj λt ht=>h t (.inr ht)]
 case indexS x i=>rw[cj λt ht=>h t (.inl ht),cj λt ht=>h t (.inr ht)]
 case extract x i=>rw[cj h]
 case append es by_ s x=>rw[cj λt ht=>h t (.inl ht),cj λt ht=>h t (.inr ht)]
 case appendZ es by_ z s x=>rw[cj λt ht=>h t (.inl ht),cj λt ht=>h t (.inr ht)]
 case copy es d s=>rw[cj λt ht=>h t (.inl ht),cj λt ht=>h t (.inr ht)]
 case len x=>rw[cj h]
 case capN x=>rw[cj h]
 case sliceX c a b=>rw[cj λt ht=>h t (.inl (.inl ht)),cj λt ht=>h t (.inl (.inr ht)),cj λt ht=>h t (.inr ht)]
 case most x y=>rw[cj λt ht=>h t (.inl ht),cj λt ht=>h t (.inr ht)]
 case least x y=>rw[cj λt ht=>h t (.inl ht),cj λt ht=>h t (.inr ht)]
theorem cp9 {T:gz}{e e':dn}{Y:Hp}{op:AOp}{k:Value->Hp->Prop}(h: ∀t∈op.reads,e t=e' t)(hr:cz T op e Y k):cz T op e' Y k:=by
 by_cases hc:op.isCall=Za
 .cases op<;>simp[AOp.isCall]at hc
  case call f xs=>
   simp only[cz,AOp.reads]at*;rw[<-aC7 h];exact hr
  case callv f xs=>
   simp only[cz,AOp.reads,aD]at*;rw[<-aC7 λt ht=>h t (.inr ht),<-cj λt ht=>h t (.inl ht)];exact hr
 .unfold cz at*;cases op<;>simp[AOp.isCall]at hc<;>simp only at hr⊢ <;>rw[<-bb0 h]<;>exact hr
def AOper.looks (o:AOper):List Nat:=o.op.reads++(match o.guard with|some (t,_)=>[t]|none=>[])
theorem an9 {e e':dn}{o:AOper}(h: ∀t∈o.looks,e t=e' t):wanted o e=wanted o e':=by
 unfold wanted;unfold AOper.looks at h;cases hg:o.guard with
 |none=>rfl
 |some g=>
  rw[hg]at h;have:=h g.1 (by simp);simp only[this]
theorem aN5 {e:dn}{Y Y':Hp}{op:AOp}{v:Value}(hs:op.still=Za)(h:op.run e Y=C (v,Y')):Y'=Y:=by
 cases op<;>simp[AOp.still]at hs<;>simp only[AOp.run]at h
 all_goals
  revert h
  repeat' split
  all_goals first
   |(intro h;cases h;done)
   |(intro h;simp only[Option.some.injEq,Prod.mk.injEq]at h;exact h.2.symm)
   |(intro h;obtain⟨_,_,h⟩:=Option.map_eq_some_iff.1 h;simp only[Prod.mk.injEq]at h;exact h.2.symm)
theorem cN3 {e:dn}{Y:Hp}{op:AOp}{v:Value}(hs:op.still=Za)(hl:op.isLoad=Zb)(h:op.run e Y=C (v,Y))(Y':Hp):op.run e Y'=C (v,Y'):=by
 cases op<;>simp[AOp.still]at hs
 case slice es x lo hi=>
  cases lo with
  |some _=>simp[AOp.isLoad]at hl
  |none=>
   simp only[AOp.run,ac1,Bool.or_true,if_true]at h⊢;revert h
   repeat' split
   all_goals first
    |(intro h;cases h;done)
    |(intro h;simp only[Option.some.injEq,Prod.mk.injEq]at h⊢;exact⟨h.1,trivial⟩)
    |simp_all
 all_goals first
  |(simp[AOp.isLoad]at hl;done)
  |(simp only[AOp.run]at h⊢
    revert h
    repeat' split
    all_goals first
     |(intro h;cases h;done)
     |(intro h;simp only[Option.some.injEq,Prod.mk.injEq]at h⊢;exact⟨h.1,trivial⟩)
     |(intro h;obtain⟨u,hu,h⟩:=Option.map_eq_some_iff.1 h;simp only[Prod.mk.injEq]at h;rw[hu];simp[h.1]))
end
section
open Bool renaming and_eq_true -> bB, not_eq_true' -> eB
open List renaming mem_cons_of_mem -> aB, mem_cons_self -> aD, range -> bD, find?_some -> cB, getD_eq_getElem?_getD -> cD, getElem?_eq_none -> dB, all_eq_true -> eD, mem_of_find?_eq_some -> fB
open Nat renaming lt_or_ge -> dD
open Go.RowKit
theorem cJ8 {listed:Array Bool}{i:Nat}(h:listed.getD i Za=Zb):listed.getD i Zb=Zb:=by
 rcases dD i listed.size with h'|h'
 .simp[h']at h⊢;exact h
 .simp[Array.getElem?_eq_none h']at h
theorem dd8 {listed:Array Bool}{i:Nat}(hi:i<listed.size)(h:listed.getD i Zb=Zb):listed.getD i Za=Zb:=by
 simp[hi]at h⊢;exact h
abbrev DL :=List (AOper×List Nat)
def mX (al:DL)(i:Nat):Option Nat:=(al[i]?).bind (·.1.dst)
def aD5 (al:DL)(i:Nat):List Nat:=match al[i]? with
 |some (o,_)=>o.looks
 |none=>[]
def al7 (al:DL):Bool:=
 (bD al.length).all λi=>
  (jl al i).all (λq=>Zc (q<i))&&
  (match mX al i with
   |none=>Za
   |some t=>(bD al.length).all λj=>i==j||((mX al j !=C t)&&(!(aD5 al j).contains t||vN al i j||vN al j i)))
section
variable {al:DL}
theorem cl0 (h:al7 al=Za){i q:Nat}(hi:i<al.length)(hq:q∈jl al i):q<i:=by
 have:=List.all_eq_true.1 h i (List.mem_range.2 hi);simp only[bB,eD,decide_eq_true_eq]at this;exact this.1 q hq
theorem ae7 {i t:Nat}(h:mX al i=C t):i<al.length:=by
 unfold mX at h;rcases dD i al.length with h1|h1
 .exact h1
 .simp[dB h1]at h
theorem cv4 (h:al7 al=Za){i j t:Nat}(hi:mX al i=C t)(hj:mX al j=C t):i=j:=by
 have:=List.all_eq_true.1 h i (List.mem_range.2 (ae7 hi));simp only[bB,hi]at this;have:=List.all_eq_true.1 this.2 j (List.mem_range.2 (ae7 hj));by_cases e:i=j
 .exact e
 .simp[hj,e]at this
theorem cv3 (h:al7 al=Za){i j t:Nat}(hi:mX al i=C t)(hjl:j<al.length)(hj:t∈aD5 al j)(hne:i≠j):vN al i j=Za∨vN al j i=Za:=by
 have:=List.all_eq_true.1 h i (List.mem_range.2 (ae7 hi));simp only[bB,hi]at this;have:=List.all_eq_true.1 this.2 j (List.mem_range.2 hjl);simp[hne,hj]at this;exact this.2
def zW (al:DL)(D:List Nat):Prop:= ∀i∈D,∀q∈jl al i,q∈D
theorem cx2 {acc ps:List Nat}{p:Nat}(h:(aM1 acc ps).testBit p=Za): ∃q∈ps,q=p∨(acc.getD q 0).testBit p=Za:=by
 have key: ∀(ps:List Nat) (m:Nat),(ps.foldl (λm q=>m|||2 ^ q|||acc.getD q 0) m).testBit p=Za->m.testBit p=Za∨∃q∈ps,q=p∨(acc.getD q 0).testBit p=Za:=by
  intro ps;induction ps with
  |nil=>intro m h;exact .inl h
  |cons q ps ih=>
   intro m h;rcases ih _ h with h1|⟨q',h1,h2⟩
   .simp only[Nat.testBit_or,Nat.testBit_two_pow,Bool.or_eq_true,decide_eq_true_eq]at h1;rcases h1 with(h1|h1)|h1
    .exact .inl h1
    .exact .inr ⟨q,aD .., .inl h1⟩
    .exact .inr ⟨q,aD .., .inr h1⟩
   .exact .inr ⟨q',aB _ h1,h2⟩
 rcases key ps 0 h with h1|h1
 .simp at h1
 .exact h1
theorem bv6 {al0:DL}: ∀(r pre:DL) (acc:List Nat),pre++r=al0->acc.length=pre.length->
  (∀j p,(acc.getD j 0).testBit p=Za->∃q∈jl al0 j,q=p∨(q<j/\(acc.getD q 0).testBit p=Za))->
  ∀j p,((cm7 acc r).getD j 0).testBit p=Za->∃q∈jl al0 j,q=p∨(q<j/\((cm7 acc r).getD q 0).testBit p=Za)
 |[],pre,acc,_,_,h=>h
 |(o,ps)::r,pre,acc,he,hl,h=>by
  simp only[cm7];refine bv6 r (pre++[(o,ps)]) (acc++[aM1 acc ps]) (by rw[List.append_assoc];exact he) (by simp[hl]) λj p hj=> ?_
  have hps:jl al0 acc.length=ps:=by
   unfold jl;rw[<-he,hl,List.getElem?_append_right (Nat.le_refl _)];simp
  have hget: ∀q,q<acc.length->(acc++[aM1 acc ps]).getD q 0=acc.getD q 0:=by
   intro q hq;simp only[cD];rw[List.getElem?_append_left hq]
  by_cases h1:j<acc.length
  .rw[hget j h1]at hj;obtain⟨q,h2,h3⟩:=h j p hj;refine⟨q,h2,h3.imp id λ⟨h4,h5⟩=>⟨h4, ?_⟩⟩;rw[hget q (by omega)];exact h5
  .by_cases h2:j=acc.length
   .subst h2;have:(acc++[aM1 acc ps]).getD acc.length 0=aM1 acc ps:=by simp
    rw[this]at hj;obtain⟨q,h3,h4⟩:=cx2 hj;refine⟨q,by rw[hps];exact h3,h4.imp id λh5=> ?_⟩
    have hq:q<acc.length:=by
     rcases dD q acc.length with h6|h6
     .exact h6
     .simp[cD,dB h6]at h5
    exact⟨hq,by rw[hget q hq];exact h5⟩
   .have:(acc++[aM1 acc ps]).getD j 0=0:=by
     simp only[cD];rw[dB (by simp;omega)];rfl
    rw[this]at hj;simp at hj
theorem cI1 {p j:Nat}(h:vN al p j=Za): ∃q∈jl al j,q=p∨(q<j/\vN al p q=Za):=
 bv6 al [] [] rfl rfl (λj p h=>by simp at h) j p h
theorem zW.bef {D:List Nat}(h:zW al D): ∀(p j:Nat),vN al p j=Za->(∀q∈jl al j,q∈D)->p∈D:=by
 intro p j;induction j using Nat.strongRecOn with
 |_ j ih=>
  intro hb hj;obtain⟨q,hq,rfl|⟨hlt,hb⟩⟩:=cI1 hb
  .exact hj q hq
  .exact ih q hlt hb (h q (hj q hq))
def jJ (al:DL)(e0:dn)(val:Nat->Value)(D:List Nat):dn:=λt=>match D.find? (λi=>mX al i==C t)with
 |some i=>val i
 |none=>e0 t
theorem qF {e0:dn}{val:Nat->Value}{D:List Nat}(h:al7 al=Za){i t:Nat}(hi:i∈D)(hd:mX al i=C t):jJ al e0 val D t=val i:=by
 unfold jJ;cases hf:D.find? (λi=>mX al i==C t)with
 |none=>
  have:=List.find?_eq_none.1 hf i hi;simp[hd]at this
 |some j=>
  have:=cB hf;simp only[beq_iff_eq]at this;rw[cv4 h this hd]
theorem oj {e0:dn}{val:Nat->Value}{D:List Nat}{t:Nat}(h: ∀i∈D,mX al i≠C t):jJ al e0 val D t=e0 t:=by
 unfold jJ;have:D.find? (λi=>mX al i==C t)=O:=List.find?_eq_none.2 λi hi=>by simpa using h i hi
 rw[this]
theorem yo {e0:dn}{val:Nat->Value}{D:List Nat}(h:al7 al=Za)(i:Nat)(hi:i∉D):jJ al e0 val (i::D)=(jJ al e0 val D).putO (mX al i) (val i):=by
 funext t
 cases hd:mX al i with
 |none=>
  simp only[dn.putO];by_cases hx: ∃j∈D,mX al j=C t
  .obtain⟨j,hj,hjt⟩:=hx;rw[qF h (aB _ hj) hjt,qF h hj hjt]
  .rw[oj (λj hj hjt=>hx ⟨j,hj,hjt⟩)];refine oj λj hj hjt=> ?_
   rcases List.mem_cons.1 hj with rfl|hj
   .rw[hd]at hjt;cases hjt
   .exact hx ⟨j,hj,hjt⟩
 |some d=>
  simp only[dn.putO,dn.put];split
  .rename_i ht;subst ht;exact qF h (aD ..) hd
  .rename_i ht;by_cases hx: ∃j∈D,mX al j=C t
   .obtain⟨j,hj,hjt⟩:=hx;rw[qF h (aB _ hj) hjt,qF h hj hjt]
   .rw[oj (λj hj hjt=>hx ⟨j,hj,hjt⟩)];refine oj λj hj hjt=> ?_
    rcases List.mem_cons.1 hj with rfl|hj
    .rw[hd]at hjt;exact ht (Option.some.inj hjt).symm
    .exact hx ⟨j,hj,hjt⟩
def aA2 (al:DL)(e0:dn)(val:Nat->Value)(j:Nat):dn:=λt=>match(bD al.length).find? (λi=>mX al i==C t&&vN al i j)with
 |some i=>val i
 |none=>e0 t
theorem cd5 {e0:dn}{val:Nat->Value}{D:List Nat}(h:al7 al=Za)(hD:zW al D){j:Nat}(hjl:j<al.length)(hj:j∉D)(hp: ∀q∈jl al j,q∈D){t:Nat}(ht:t∈aD5 al j):
  jJ al e0 val D t=aA2 al e0 val j t:=by
 unfold aA2;cases hf:(bD al.length).find? (λi=>mX al i==C t&&vN al i j)with
 |some i=>
  have:=cB hf;simp only[bB,beq_iff_eq]at this;exact qF h (hD.bef _ _ this.2 hp) this.1
 |none=>
  refine oj λi hi hit=> ?_
  have h1:=List.find?_eq_none.1 hf i (List.mem_range.2 (ae7 hit));simp only[hit,beq_self_eq_true,Bool.true_and]at h1;have hne:i≠j:=λe=>hj (e▸hi)
  rcases cv3 h hit hjl ht hne with hb|hb
  .exact h1 hb
  .exact hj (hD.bef _ _ hb (hD i hi))
theorem cY6 {e0:dn}{val val':Nat->Value}{D:List Nat}(hD:zW al D){j:Nat}(hj:j∈D)(hv: ∀i∈D,val' i=val i):aA2 al e0 val' j=aA2 al e0 val j:=by
 funext t
 unfold aA2;cases hf:(bD al.length).find? (λi=>mX al i==C t&&vN al i j)with
 |none=>rfl
 |some i=>
  have:=cB hf;simp only[bB,beq_iff_eq]at this;exact hv i (hD.bef _ _ this.2 (hD j hj))
theorem aC6 {e0:dn}{val val':Nat->Value}{D:List Nat}(hv: ∀i∈D,val' i=val i):jJ al e0 val' D=jJ al e0 val D:=by
 funext t
 unfold jJ;cases hf:D.find? (λi=>mX al i==C t)with
 |none=>rfl
 |some i=>exact hv i (fB hf)
def left (n:Nat)(D:List Nat):Nat:=((bD n).filter λi=> !D.contains i).length
theorem aZ3 {n i:Nat}{D:List Nat}(hi:i<n)(hD:i∉D):left n (i::D)<left n D:=by
 unfold left
 have:(bD n).filter (λj=> !(i::D).contains j)=((bD n).filter λj=> !D.contains j).filter λj=>j !=i:=by
  rw[List.filter_filter];apply List.filter_congr;intro j _;simp only[List.contains_cons,Bool.not_or];rfl
 rw[this];refine List.length_filter_lt_length_iff_exists.2 ⟨i, ?_,by simp⟩;simp[hi,hD]
theorem aZ4 {n:Nat}{D:List Nat}(h:left n D=0){i:Nat}(hi:i<n):i∈D:=by
 unfold left at h;have:=List.eq_nil_of_length_eq_zero h;rw[List.filter_eq_nil_iff]at this;have:=this i (List.mem_range.2 hi);simpa using this
theorem cT8 {n i:Nat}{D:List Nat}(hi:i<n)(hD:i∉D):0<left n D:=by
 rcases Nat.eq_zero_or_pos (left n D)with h|h
 .exact absurd (aZ4 h hi) hD
 .exact h
end
section
variable {P:Program} {T:gz} {al:DL} {ops:Array Oper} {B:Base P} {N:Nat}
structure Fits (P:Program)(N:Nat)(ops:Array Oper)(al:DL):Prop where
 len:ops.size=al.length
 op: ∀(i:Nat) o,ops[i]?=C o->∃x,al[i]?=C (x,jl al i)/\bb8 P N ops o=C x
 pred: ∀(i:Nat) o,ops[i]?=C o->∀q,q∈jl al i↔∃e∈o.after,Region.binds .any e=Za/\e.on=q
def be0 (al:DL)(e0:dn)(val:Nat->Value)(Y:Hp)(chk:List (Nat×(Hp->Prop)))(j:Nat):Prop:=
 ∃x p,al[j]?=C (x,p)/\x.op.still=Za/\
  ((wanted x (aA2 al e0 val j)=Za/\x.op.run (aA2 al e0 val j) Y=C (val j,Y)/\
   (x.op.isLoad=Za->∃c,(j,c)∈chk/\∀Y',c Y'->x.op.run (aA2 al e0 val j) Y'=C (val j,Y')))∨
   (wanted x (aA2 al e0 val j)=Zb/\val j=undef))
structure Inv (al:DL)(e0:dn)(val:Nat->Value)(Y:Hp)(chk:List (Nat×(Hp->Prop)))(D L:List Nat):Prop where
 dc:zW al D
 lc:zW al L
 sub: ∀i∈L,i∈D
 lt: ∀i∈D,i<al.length
 tells: ∀j∈D,j∉L->be0 al e0 val Y chk j
theorem aM6 {D:List Nat}{i:Nat}:cc8 al D i=Za↔i∉D/\∀q∈jl al i,q∈D:=by
 unfold cc8;simp only[bB,eB,eD,List.contains_iff_mem];constructor
 .rintro⟨h1,h2⟩;exact⟨λh=>by simp[h]at h1,h2⟩
 .rintro⟨h1,h2⟩;exact⟨by simpa using h1,h2⟩
theorem yz {D:List Nat}{i:Nat}(h:jO al D=C i):i<al.length/\i∉D/\(∀q∈jl al i,q∈D)/\an5 al i=Za:=by
 unfold jO at h;have h1:=cB h;have h2:=fB h;simp only[bB]at h1;obtain⟨h3,h4⟩:=aM6.1 h1.1;exact⟨List.mem_range.1 h2,h3,h4,h1.2⟩
theorem bw0 {D:List Nat}(h:jO al D=O){i:Nat}(hi:i<al.length)(h1:i∉D)(h2: ∀q∈jl al i,q∈D):an5 al i=Zb:=by
 unfold jO at h;have:=List.find?_eq_none.1 h i (List.mem_range.2 hi);simp only[aM6.2 ⟨h1,h2⟩,Bool.true_and]at this;simpa using this
theorem yx {D:List Nat}{i:Nat}:i∈ej al D↔i<al.length/\i∉D/\(∀q∈jl al i,q∈D)/\an5 al i=Zb:=by
 unfold ej;simp only[List.mem_filter,List.mem_range,bB,eB,aM6,and_assoc]
theorem ci9 {f:Nat->Prop}: ∀{l:List Nat},bH0 f l->∀m∈l,f m
 |[],_,m,hm=>by cases hm
 |[x],h,m,hm=>by simp at hm;subst hm;exact h
 |x::y::r,h,m,hm=>by
  rcases List.mem_cons.1 hm with rfl|hm
  .exact h.1
  .exact ci9 h.2 m hm
def upd (val:Nat->Value)(i:Nat)(v:Value):Nat->Value:=λk=>if k=i then v else val k
theorem be0.upd {e0:dn}{val:Nat->Value}{Y:Hp}{chk:List (Nat×(Hp->Prop))}{D:List Nat}{i j:Nat}{v:Value}(hD:zW al D)(hj:j∈D)(hi:i∉D)(h:be0 al e0 val Y chk j):be0 al e0 (upd val i v) Y chk j:=by
 obtain⟨x,p,h1,h2,h3⟩:=h;have hv: ∀k∈D,Ab.upd val i v k=val k:=λk hk=>zF λ(e:k=i)=>hi (e▸hk)
 have hs:=cY6 (e0:=e0) hD hj hv;refine⟨x,p,h1,h2, ?_⟩;rw[hs,hv j hj];exact h3
theorem be0.more {e0:dn}{val:Nat->Value}{Y:Hp}{chk chk':List (Nat×(Hp->Prop))}{j:Nat}(h:be0 al e0 val Y chk j)(hc: ∀c∈chk,c∈chk'):be0 al e0 val Y chk' j:=by
 obtain⟨x,p,h1,h2,h3⟩:=h;refine⟨x,p,h1,h2,h3.imp (λ⟨k1,k2,k3⟩=>⟨k1,k2,λhl=> ?_⟩) id⟩;obtain⟨c,k4,k5⟩:=k3 hl;exact⟨c,hc _ k4,k5⟩
theorem bY5 {Q:dn->Hp->Prop}(hok:al7 al=Za){e0:dn}{Y:Hp}{L:List Nat}: ∀(f:Nat) (val:Nat->Value) (D:List Nat) (chk:List (Nat×(Hp->Prop))) (e:dn),wpD T Q al f D chk e Y->left al.length D<=f->e=jJ al e0 val D->
  Inv al e0 val Y chk D L->∃f' val' D' chk',wpD T Q al f' D' chk' (jJ al e0 val' D') Y/\left al.length D'<=f'/\Inv al e0 val' Y chk' D' L/\jO al D'=O/\(∀i∈D,val' i=val i)/\∀i∈D,i∈D'
 |0,val,D,chk,e,h,hf,he,hI=>by
  have hall: ∀i,i<al.length->i∈D:=λi hi=>aZ4 (by omega) hi
  refine⟨0,val,D,chk,by rw[<-he];exact h,hf,hI, ?_,λ_ _=>rfl,λ_ hi=>hi⟩;cases hn:jO al D with
  |none=>rfl
  |some i=>exact absurd (hall i (yz hn).1) (yz hn).2.1
 |f+1,val,D,chk,e,h,hf,he,hI=>by
  cases hn:jO al D with
  |none=>exact⟨f+1,val,D,chk,by rw[<-he];exact h,hf,hI,hn,λ_ _=>rfl,λ_ hi=>hi⟩
  |some i=>
   obtain⟨h1,h2,h3,h4⟩:=yz hn;simp only[wpD,hn]at h;split at h
   .rename_i x p hx;have hst:x.op.still=Za:=by simpa[an5,hx]using h4
    have hlooks: ∀t∈x.looks,e t=aA2 al e0 val i t:=by
     intro t ht;rw[he];exact cd5 hok hI.dc h1 h2 h3 (by simpa[aD5,hx]using ht)
    have hdst:mX al i=x.dst:=by simp[mX,hx]
    have hleft:left al.length (i::D)<=f:=by have:=aZ3 h1 h2;omega
    have hDc:zW al (i::D):=by
     intro k hk q hq;rcases List.mem_cons.1 hk with rfl|hk
     .exact aB _ (h3 q hq)
     .exact aB _ (hI.dc k hk q hq)
    have step: ∀(v:Value) (chk':List (Nat×(Hp->Prop))),wpD T Q al f (i::D) chk' (e.putO x.dst v) Y->(∀c∈chk,c∈chk')->be0 al e0 (upd val i v) Y chk' i->
      ∃f' val' D' chk',wpD T Q al f' D' chk' (jJ al e0 val' D') Y/\left al.length D'<=f'/\Inv al e0 val' Y chk' D' L/\jO al D'=O/\(∀i∈D,val' i=val i)/\∀i∈D,i∈D':=by
     intro v chk' hw hc ht;have hval: ∀k∈D,upd val i v k=val k:=λk hk=>zF λ(e:k=i)=>h2 (e▸hk)
     have henv:e.putO x.dst v=jJ al e0 (upd val i v) (i::D):=by
      rw[yo hok i h2,aC6 hval,hdst,<-he]
      congr 1
      exact(zE rfl).symm
     obtain⟨f',val',D',chk'',g1,g2,g3,g4,g5,g6⟩:=bY5 hok f (upd val i v) (i::D) chk' _ hw hleft henv ⟨hDc,hI.lc,λk hk=>aB _ (hI.sub k hk),λk hk=>(List.mem_cons.1 hk).elim (λe=>e▸h1) (hI.lt k),λj hj hjL=>by
      rcases List.mem_cons.1 hj with rfl|hj
      .exact ht
      .exact((hI.tells j hj hjL).upd hI.dc hj h2).more hc⟩
     exact⟨f',val',D',chk'',g1,g2,g3,g4,λk hk=>(g5 k (aB _ hk)).trans (hval k hk),λk hk=>g6 k (aB _ hk)⟩
    have hseen: ∀v,aA2 al e0 (upd val i v) i=aA2 al e0 val i:=by
     intro v
     funext t
     unfold aA2;cases hf':(bD al.length).find? (λk=>mX al k==C t&&vN al k i)with
     |none=>rfl
     |some k=>
      have:=cB hf';simp only[bB,beq_iff_eq]at this;exact zF λ(e:k=i)=>h2 (e▸hI.dc.bef _ _ this.2 h3)
    have hw0:=an9 hlooks;have hr0: ∀Y',x.op.run e Y'=x.op.run (aA2 al e0 val i) Y':=λY'=>bb0 λt ht=>hlooks t (by simp[AOper.looks,ht])
    split at h
    .rename_i hwant;split at h
     .rename_i v Y1 hrun;obtain rfl:=aN5 hst hrun;refine step v _ h (λc hc=>by split<;>simp[hc]) ⟨x,p,hx,hst, .inl ⟨by rw[hseen,<-hw0];exact hwant,by rw[hseen,<-hr0];rw[hrun];congr 2;exact(zE rfl).symm,λhl=> ?_⟩⟩;refine⟨_,by rw[zE hl];exact aD ..,λY' hY'=> ?_⟩;rw[hseen,<-hr0,hY']
      congr 2
      exact(zE rfl).symm
     .exact h.elim
    .rename_i hwant;exact step undef chk h (λc hc=>hc) ⟨x,p,hx,hst, .inr ⟨by rw[hseen,<-hw0];simpa using hwant,zE rfl⟩⟩
   .exact h.elim
theorem aZ2 {m:Nat}{Y:Hp}: ∀{chk:List (Nat×(Hp->Prop))},ap5 al m Y chk->∀j c,(j,c)∈chk->vN al j m=Zb->c Y
 |[],_,j,c,h,_=>by cases h
 |(i,d)::r,hk,j,c,h,hb=>by
  simp only[ap5]at hk;rcases List.mem_cons.1 h with h|h
  .injection h with h1 h2
   subst h1 h2;rw[zF (by simp[hb])]at hk;exact hk.1
  .split at hk
   .exact aZ2 hk j c h hb
   .exact aZ2 hk.2 j c h hb
theorem Fits.ready (hF:Fits P N ops al){listed:Array Bool}{L:List Nat}(hs:listed.size=ops.size)(hL: ∀i,i<ops.size->(listed.getD i Zb=Za↔i∈L))(hlt: ∀i∈L,i<ops.size){i:Nat}:
  i∈Region.ready .any ops listed↔i<al.length/\i∉L/\∀q∈jl al i,q∈L:=by
 have hg: ∀k,listed.getD k Zb=Za↔k∈L:=by
  intro k;by_cases hk:k<ops.size
  .exact hL k hk
  .constructor
   .intro h;have:listed.getD k Zb=Zb:=by simp[Array.getElem?_eq_none (show listed.size<=k by omega)]
    rw[this]at h;cases h
   .intro h;exact absurd (hlt k h) hk
 rw[mem_ready];constructor
 .rintro⟨h1,o,h2,h3⟩;have hi:i<ops.size:=(Array.getElem?_eq_some_iff.1 h2).1;refine⟨hF.len▸hi,λh=> ?_,λq hq=> ?_⟩
  .have h4:=(hg i).2 h;rw[cJ8 h1]at h4;cases h4
  .obtain⟨e,h4,h5,rfl⟩:=(hF.pred i o h2 q).1 hq;exact(hg _).1 (h3 e h4 h5)
 .rintro⟨h1,h2,h3⟩;have hi:i<ops.size:=hF.len▸h1;refine⟨dd8 (by omega) ?_,ops[i],Array.getElem?_eq_getElem hi,λe he hb=>(hg _).2 (h3 _ ((hF.pred i _ (Array.getElem?_eq_getElem hi) _).2 ⟨e,he,hb,rfl⟩))⟩;cases hh:listed.getD i Zb with
  |true=>exact absurd ((hg i).1 hh) h2
  |false=>rfl
theorem dc8 (hT: ∀f,Sim P f (T f))(hF:Fits P N ops al)(hok:al7 al=Za){Q:AExit->dn->Hp->Prop}{e0:dn}{Z0:Mu}{w0:World}: ∀(fuel:Nat) (f:Nat) (val:Nat->Value) (D L:List Nat) (chk:List (Nat×(Hp->Prop))) (listed:Array Bool) (Y:Hp) (Z:Mu) (a:Act) (w:World),
  wpD T (Q .normal) al f D chk (jJ al e0 val D) Y->left al.length D<=f->left al.length L<=fuel->Inv al e0 val Y chk D L->listed.size=ops.size->(∀i,i<ops.size->(listed.getD i Zb=Za↔i∈L))->
  R B Z Y w->gv Z N (jJ al e0 val L) a.tmps->a.defers=[]->Z0.le Z->Below B w0 w->wpAny P .any ops (rY B N Z0 w0 Q) fuel listed a w:=by
 intro fuel;induction fuel with
 |zero=>
  intro f val D L chk listed Y Z a w h hf hfu hI hs hL hR he hd hZ hb;have hall: ∀i,i<al.length->i∈L:=λi hi=>aZ4 (by omega) hi
  have hlt: ∀i∈L,i<ops.size:=λi hi=>by rw[hF.len];exact hI.lt i (hI.sub i hi)
  have hnil:Region.ready .any ops listed=[]:=by
   cases hr:Region.ready .any ops listed with
   |nil=>rfl
   |cons i r=>
    have:=(hF.ready hs hL hlt (i:=i)).1 (by rw[hr];exact aD ..);exact absurd (hall i this.1) this.2.1
  refine⟨hnil, ?_⟩;obtain⟨f',val',D',chk',g1,g2,g3,g4,g5,g6⟩:=bY5 (Q:=Q .normal) hok f val D chk _ h hf rfl hI
  have hq:Q .normal (jJ al e0 val' D') Y:=by
   have hmv:ej al D'=[]:=by
    cases hm:ej al D' with
    |nil=>rfl
    |cons i r=>
     have:=yx.1 (show i∈ej al D' by rw[hm];exact aD ..);exact absurd (g6 i (hI.sub i (hall i this.1))) this.2.1
   cases f' with
   |zero=>exact g1
   |succ f'=>simp only[wpD,g4,hmv]at g1;exact g1
  have henv:jJ al e0 val' D'=jJ al e0 val L:=by
   funext t
   by_cases hx: ∃j,j<al.length/\mX al j=C t
   .obtain⟨j,hj,hjt⟩:=hx;rw[qF hok (g6 j (hI.sub j (hall j hj))) hjt,qF hok (hall j hj) hjt,g5 j (hI.sub j (hall j hj))]
   .rw[oj (λj _ hjt=>hx ⟨j,ae7 hjt,hjt⟩),oj (λj _ hjt=>hx ⟨j,ae7 hjt,hjt⟩)]
  rw[henv]at hq;exact⟨.normal,_,Y,Z,trivial,hq,hZ,hR,he,hd,hb⟩
 |succ fuel ih=>
  intro f val D L chk listed Y Z a w h hf hfu hI hs hL hR he hd hZ hb;have hlt: ∀i∈L,i<ops.size:=λi hi=>by rw[hF.len];exact hI.lt i (hI.sub i hi)
  obtain⟨f',val',D',chk',g1,g2,g3,g4,g5,g6⟩:=bY5 (Q:=Q .normal) hok f val D chk _ h hf rfl hI;have hvL: ∀i∈L,val' i=val i:=λi hi=>g5 i (hI.sub i hi)
  have he':gv Z N (jJ al e0 val' L) a.tmps:=by rw[aC6 hvL];exact he
  have hL': ∀i,i<ops.size->∀(hi:i∉L),(∀k,k<ops.size->((listed.setIfInBounds i Za).getD k Zb=Za↔k∈i::L)):=by
   intro i hi hiL k hk;by_cases e:k=i
   .subst e;simp[hs,hk]
   .rw[getD_set_ne Zb (λe'=>e e'.symm)];rw[hL k hk];simp[e]
  have hLc: ∀i,(∀q∈jl al i,q∈L)->zW al (i::L):=by
   intro i hp k hk q hq;rcases List.mem_cons.1 hk with rfl|hk
   .exact aB _ (hp q hq)
   .exact aB _ (hI.lc k hk q hq)
  refine⟨λhnil=> ?_,λi hi=> ?_⟩
  .
   have hDL: ∀j∈D',j∈L:=by
    intro j;induction j using Nat.strongRecOn with
    |_ j ihj=>
     intro hj;by_cases hjL:j∈L
     .exact hjL
     .exfalso;have hr:=(hF.ready hs hL hlt (i:=j)).2 ⟨g3.lt j hj,hjL,λq hq=>ihj q (cl0 hok (g3.lt j hj) hq) (g3.dc j hj q hq)⟩;rw[hnil]at hr;cases hr
   have hq:Q .normal (jJ al e0 val' D') Y:=by
    have hmv:ej al D'=[]:=by
     cases hm:ej al D' with
     |nil=>rfl
     |cons i r=>
      exfalso;have:=yx.1 (show i∈ej al D' by rw[hm];exact aD ..);have hr:=(hF.ready hs hL hlt (i:=i)).2 ⟨this.1,λh=>this.2.1 (g3.sub i h),λq hq=>hDL q (this.2.2.1 q hq)⟩;rw[hnil]at hr;cases hr
    cases f' with
    |zero=>exact g1
    |succ f'=>simp only[wpD,g4,hmv]at g1;exact g1
   have henv:jJ al e0 val' D'=jJ al e0 val' L:=by
    funext t
    by_cases hx: ∃j∈L,mX al j=C t
    .obtain⟨j,hj,hjt⟩:=hx;rw[qF hok (g3.sub j hj) hjt,qF hok hj hjt]
    .rw[oj (λj hj hjt=>hx ⟨j,hDL j hj,hjt⟩),oj (λj hj hjt=>hx ⟨j,hj,hjt⟩)]
   rw[henv]at hq;exact⟨.normal,_,Y,Z,trivial,hq,hZ,hR,he',hd,hb⟩
  .
   obtain⟨k1,k2,k3⟩:=(hF.ready hs hL hlt).1 hi;have hio:i<ops.size:=hF.len▸k1;have hoi:ops[i]?=C ops[i]:=Array.getElem?_eq_getElem hio;obtain⟨x,hx,htr⟩:=hF.op i _ hoi;have hfu':left al.length (i::L)<=fuel:=by have:=aZ3 k1 k2;omega
   have hs':(listed.setIfInBounds i Za).size=ops.size:=by simpa using hs
   have hdst:mX al i=x.dst:=by simp[mX,hx]
   unfold bb8 at htr;split at htr
   case h_2=>cases htr
   rename_i op g t1 t2;split at htr
   case isFalse=>cases htr
   rename_i t3;injection htr with htr
   subst htr
   have hlooks: ∀t∈(⟨ops[i].dst,op,g⟩:AOper).looks,jJ al e0 val' L t=aA2 al e0 val' i t:=by
    intro t ht;exact cd5 hok g3.lc k1 k2 k3 (by simpa[aD5,hx]using ht)
   have hwant:=bN4 (op:=op) t2 he';rw[an9 hlooks]at hwant;unfold wpOp;rw[hoi];simp only;rw[hwant];by_cases hiD:i∈D'
   .
    obtain⟨x',p,y1,y2,y3⟩:=g3.tells i hiD k2;rw[hx]at y1;injection y1 with y1
    injection y1 with y1 _
    subst y1
    have hInv': ∀(Z':Mu) (w':World),Inv al e0 val' Y chk' D' (i::L):=λZ' w'=>
     ⟨g3.dc,hLc i k3,λk hk=>(List.mem_cons.1 hk).elim (λe=>e▸hiD) (g3.sub k),g3.lt,λj hj hjL=>g3.tells j hj λh=>hjL (aB _ h)⟩
    rcases y3 with⟨y4,y5,_⟩|⟨y4,y5⟩
    .rw[y4];rw[zE rfl];left
     have hrun:cz T op (jJ al e0 val' L) Y λv Y'=>v=val' i/\Y'=Y:=by
      have:op.run (jJ al e0 val' L) Y=C (val' i,Y):=by
       rw[bb0 (e':=aA2 al e0 val' i) λt ht=>hlooks t (by simp[AOper.looks,ht])];exact y5
      unfold cz;cases op<;>simp[AOp.still]at y2<;>simp only[this]<;>exact⟨trivial,trivial⟩
     refine by1 hT t1 hrun he' hR λv Y' v' Z' w' hk hZ' hR' hv hbel=> ?_
     obtain⟨rfl,rfl⟩:=hk;refine ih f' val' D' (i::L) chk' _ Y' Z' _ w' g1 g2 hfu' (hInv' Z' w') hs' (hL' i hio k2) hR' ?_ (by rw[ui];exact hd) (Mu.le_trans hZ hZ') (hb.trans hbel);rw[yo hok i k2,hdst];exact(he'.mono hZ').putO t3 hv
    .rw[y4];simp only[Bool.false_eq_true,if_false];refine ih f' val' D' (i::L) chk' _ Y Z _ w g1 g2 hfu' (hInv' Z w) hs' (hL' i hio k2) hR ?_ (by rw[ui];exact hd) hZ hb;rw[yo hok i k2,hdst,y5];exact he'.putO t3 (VR.undef Z)
   .
    have hpD: ∀q∈jl al i,q∈D':=λq hq=>g3.sub q (k3 q hq)
    have hst:=bw0 g4 k1 hiD hpD;have hmem:i∈ej al D':=yx.2 ⟨k1,hiD,hpD,hst⟩
    have hlooksD: ∀t∈(⟨ops[i].dst,op,g⟩:AOper).looks,jJ al e0 val' D' t=aA2 al e0 val' i t:=by
     intro t ht;exact cd5 hok g3.dc k1 hiD hpD (by simpa[aD5,hx]using ht)
    have hsame: ∀t∈(⟨ops[i].dst,op,g⟩:AOper).looks,jJ al e0 val' D' t=jJ al e0 val' L t:=λt ht=>(hlooksD t ht).trans (hlooks t ht).symm
    obtain⟨f'',rfl⟩: ∃f'',f'=f''+1:=⟨f'-1,by have:=cT8 k1 hiD;omega⟩
    have hleft:left al.length (i::D')<=f'':=by have:=aZ3 k1 hiD;omega
    simp only[wpD,g4]at g1
    have hcomp:(if wanted ⟨ops[i].dst,op,g⟩ (jJ al e0 val' D')then cz T op (jJ al e0 val' D') Y λv Y'=>ap5 al i Y' chk'/\wpD T (Q .normal) al f'' (i::D') chk' ((jJ al e0 val' D').putO ops[i].dst v) Y'
      else wpD T (Q .normal) al f'' (i::D') chk' ((jJ al e0 val' D').putO ops[i].dst undef) Y):=by
     cases hm:ej al D' with
     |nil=>rw[hm]at hmem;cases hmem
     |cons m r=>
      rw[hm]at g1 hmem;simp only at g1;have:=ci9 g1 i hmem;simp only[hx]at this;exact this
    rw[an9 hlooksD]at hcomp
    have hDc:zW al (i::D'):=by
     intro k hk q hq;rcases List.mem_cons.1 hk with rfl|hk
     .exact aB _ (hpD q hq)
     .exact aB _ (g3.dc k hk q hq)
    have hlag: ∀j∈i::D',j∉i::L->j∈D'/\j∉L:=λj hj hjL=>
     ⟨(List.mem_cons.1 hj).elim (λe=>absurd (e▸aD ..) hjL) id,λh=>hjL (aB _ h)⟩
    have hval: ∀v,∀k∈D',upd val' i v k=val' k:=λv k hk=>zF λ(e:k=i)=>hiD (e▸hk)
    have henvD: ∀v,(jJ al e0 val' D').putO ops[i].dst v=jJ al e0 (upd val' i v) (i::D'):=by
     intro v;rw[yo hok i hiD,aC6 (hval v),hdst]
     congr 1
     exact(zE rfl).symm
    have henvL: ∀v,(jJ al e0 val' L).putO ops[i].dst v=jJ al e0 (upd val' i v) (i::L):=by
     intro v;rw[yo hok i k2,aC6 (λk hk=>hval v k (g3.sub k hk)),hdst]
     congr 1
     exact(zE rfl).symm
    split at hcomp
    .rename_i hw1;rw[hw1,zE rfl];left;refine by1 hT t1 (cp9 (λt ht=>hsame t (by simp[AOper.looks,ht])) hcomp) he' hR λv Y' v' Z' w' hk hZ' hR' hv hbel=> ?_
     obtain⟨hk1,hk2⟩:=hk;rw[henvD v]at hk2;refine ih f'' (upd val' i v) (i::D') (i::L) chk' _ Y' Z' _ w' hk2 hleft hfu' ⟨hDc,hLc i k3,λk hk=>(List.mem_cons.1 hk).elim (λe=>e▸aD ..) λh=>aB _ (g3.sub k h),λk hk=>(List.mem_cons.1 hk).elim (λe=>e▸k1) (g3.lt k),λj hj hjL=> ?_⟩ hs' (hL' i hio k2) hR' ?_ (by rw[ui];exact hd) (Mu.le_trans hZ hZ') (hb.trans hbel)
     .obtain⟨hjD,hjL'⟩:=hlag j hj hjL;have ht:=(g3.tells j hjD hjL').upd (i:=i) (v:=v) g3.dc hjD hiD;obtain⟨x',p,z1,z2,z3⟩:=ht;refine⟨x',p,z1,z2,z3.imp (λ⟨z4,z5,z6⟩=>⟨z4, ?_,z6⟩) id⟩;cases hl:x'.op.isLoad with
      |false=>exact cN3 z2 hl z5 Y'
      |true=>
       obtain⟨c,z7,z8⟩:=z6 hl;refine z8 Y' (aZ2 hk1 j c z7 ?_);cases hbf:vN al j i with
       |false=>rfl
       |true=>exact absurd (g3.lc.bef _ _ hbf k3) hjL'
     .rw[<-henvL v];exact(he'.mono hZ').putO t3 hv
    .rename_i hw1;rw[zF hw1];rw[henvD undef]at hcomp;refine ih f'' (upd val' i undef) (i::D') (i::L) chk' _ Y Z _ w hcomp hleft hfu' ⟨hDc,hLc i k3,λk hk=>(List.mem_cons.1 hk).elim (λe=>e▸aD ..) λh=>aB _ (g3.sub k h),λk hk=>(List.mem_cons.1 hk).elim (λe=>e▸k1) (g3.lt k),λj hj hjL=> ?_⟩ hs' (hL' i hio k2) hR ?_ (by rw[ui];exact hd) hZ hb
     .obtain⟨hjD,hjL'⟩:=hlag j hj hjL;exact(g3.tells j hjD hjL').upd g3.dc hjD hiD
     .rw[<-henvL undef];exact he'.putO t3 (VR.undef Z)
end
end
section
open Go.RowKit
def rO (T:gz):Prop:= ∀f args Y (K K':Value->Hp->Prop),(∀r Y',K r Y'->K' r Y')->T f args Y K->T f args Y K'
theorem nM {T:gz}(hT:rO T){op:AOp}{e:dn}{Y:Hp}{k k':Value->Hp->Prop}(hk: ∀v Y',k v Y'->k' v Y')(h:cz T op e Y k):cz T op e Y k':=by
 unfold cz at*;cases op<;>simp only at h⊢
 case call f xs=>exact hT _ _ _ _ _ hk h
 case callv f xs=>
  split at h
  .exact hT _ _ _ _ _ hk h
  .exact h.elim
 all_goals
  split at h
  .exact hk _ _ h
  .exact h.elim
section
variable {T:gz}
theorem ao0 (hT:rO T){Q Q':dn->Hp->Prop}(hq: ∀e Y,Q e Y->Q' e Y): ∀(l:List AOper) (e:dn) (Y:Hp),yI T Q l e Y->yI T Q' l e Y
 |[],e,Y,h=>hq e Y h
 |o::l,e,Y,h=>by
  simp only[yI]at h⊢;split at h
  .rename_i hw;rw[zE hw];exact nM hT (λv Y' hk=>ao0 hT hq l _ Y' hk) h
  .rename_i hw;rw[zF hw];exact ao0 hT hq l _ Y h
theorem bI8 {f g:Nat->Prop}(h: ∀m,f m->g m): ∀{l:List Nat},bH0 f l->bH0 g l
 |[],_=>trivial
 |[_],hf=>h _ hf
 |_::_::_,hf=>⟨h _ hf.1,bI8 h hf.2⟩
theorem aB5 (hT:rO T){Q Q':dn->Hp->Prop}(hq: ∀e Y,Q e Y->Q' e Y){ops:List (AOper×List Nat)}: ∀(f:Nat) (done:List Nat) (chk:List (Nat×(Hp->Prop))) (e:dn) (Y:Hp),wpD T Q ops f done chk e Y->wpD T Q' ops f done chk e Y
 |0,done,chk,e,Y,h=>hq e Y h
 |f+1,done,chk,e,Y,h=>by
  simp only[wpD]at h⊢;split at h
  .split at h
   .split at h
    .rename_i hw;rw[zE hw];split at h
     .exact aB5 hT hq f _ _ _ _ h
     .exact h.elim
    .rename_i hw;rw[zF hw];exact aB5 hT hq f _ _ _ _ h
   .exact h.elim
  .split at h
   .exact hq e Y h
   .refine bI8 (λm hm=> ?_) h;split at hm
    .split at hm
     .rename_i hw;rw[zE hw];exact nM hT (λv Y' hk=>⟨hk.1,aB5 hT hq f _ _ _ _ hk.2⟩) hm
     .rename_i hw;rw[zF hw];exact aB5 hT hq f _ _ _ _ hm
    .exact hm.elim
theorem aB6 (hT:rO T){Q Q':dn->Hp->Prop}(hq: ∀e Y,Q e Y->Q' e Y): ∀(l:List SItem) (chk:List (Nat×(Hp->Prop))) (e:dn) (Y:Hp),wpI T Q l chk e Y->wpI T Q' l chk e Y
 |[],_,e,Y,h=>hq e Y h
 |it::l,chk,e,Y,h=>by
  simp only[wpI]at h⊢;split at h
  .rename_i hw;rw[zE hw];split at h
   .rename_i hm;rw[zE hm];exact nM hT (λv Y' hk=>⟨hk.1,aB6 hT hq l _ _ Y' hk.2⟩) h
   .rename_i hm;rw[zF hm];split at h
    .exact aB6 hT hq l _ _ Y h
    .exact h.elim
  .rename_i hw;rw[zF hw];exact aB6 hT hq l _ _ Y h
theorem aB7 {f:(AExit->dn->Hp->Prop)->dn->Hp->Prop}(hf: ∀(Q Q':AExit->dn->Hp->Prop),(∀x e Y,Q x e Y->Q' x e Y)->∀e Y,f Q e Y->f Q' e Y){Q Q':AExit->dn->Hp->Prop}(hq: ∀x e Y,Q x e Y->Q' x e Y):
  ∀(n:Nat) (e:dn) (Y:Hp),kM f Q n e Y->kM f Q' n e Y
 |0,_,_,h=>h.elim
 |n+1,e,Y,h=>by
  simp only[kM]at h⊢;refine hf _ _ (λx e' Y' hx=> ?_) e Y h;cases x with
  |normal=>exact aB7 hf hq n e' Y' hx
  |exit id=>exact hq _ _ _ hx
  |ret=>exact hq _ _ _ hx
theorem ia (hT:rO T): ∀(c:AC) (Q Q':AExit->dn->Hp->Prop),(∀x e Y,Q x e Y->Q' x e Y)->∀(e:dn) (Y:Hp),wC T c Q e Y->wC T c Q' e Y:=by
 intro c;induction c with
 |skip=>intro Q Q' hq e Y h;exact hq _ _ _ h
 |region ops=>intro Q Q' hq e Y h;exact ao0 hT (hq .normal) ops e Y h
 |draw ops=>intro Q Q' hq e Y h;exact aB5 hT (hq .normal) _ _ _ e Y h
 |sched its=>intro Q Q' hq e Y h;exact aB6 hT (hq .normal) its [] e Y h
 |seq a b iha ihb=>
  intro Q Q' hq e Y h;refine iha _ _ (λx e' Y' hx=> ?_) e Y h;cases x with
  |normal=>exact ihb Q Q' hq e' Y' hx
  |exit id=>exact hq _ _ _ hx
  |ret=>exact hq _ _ _ hx
 |cond c a b iha ihb=>
  intro Q Q' hq e Y h;simp only[wC]at h⊢;split at h
  .exact iha Q Q' hq e Y h
  .exact ihb Q Q' hq e Y h
  .exact h.elim
 |block id b ih=>
  intro Q Q' hq e Y h;refine ih _ _ (λx e' Y' hx=> ?_) e Y h;cases x with
  |normal=>exact hq _ _ _ hx
  |exit i=>
   simp only at hx⊢;split at hx
   .rename_i hi;rw[zE hi];exact hq _ _ _ hx
   .rename_i hi;rw[zF hi];exact hq _ _ _ hx
  |ret=>exact hq _ _ _ hx
 |loop b ih=>
  intro Q Q' hq e Y h;obtain⟨n,hn⟩:=h;exact⟨n,aB7 (f:=wC T b) ih hq n e Y hn⟩
 |exit id=>intro Q Q' hq e Y h;exact hq _ _ _ h
 |ret=>intro Q Q' hq e Y h;exact hq _ _ _ h
def AC.outs :AC->Nat->Bool
 | .seq a b,i| .cond _ a b,i=>a.outs i||b.outs i
 | .block id b,i=>b.outs i&& !(i==id)
 | .loop b,i=>b.outs i
 | .exit j,i=>i==j
 |_,_=>Zb
def ct3 (c:AC)(Q:AExit->dn->Hp->Prop):AExit->dn->Hp->Prop:=λx e Y=>(∀i,x= .exit i->c.outs i=Za)/\Q x e Y
theorem az6 {c:AC}{Q:AExit->dn->Hp->Prop}:ct3 c Q .normal=Q .normal:=by
 funext e Y
 exact propext ⟨λh=>h.2,λh=>⟨λi hi=>(by cases hi),h⟩⟩
theorem bg7 {f:(AExit->dn->Hp->Prop)->dn->Hp->Prop}{b:AC}(hf: ∀(Q Q':AExit->dn->Hp->Prop),(∀x e Y,Q x e Y->Q' x e Y)->∀e Y,f Q e Y->f Q' e Y)
  (ho: ∀Q e Y,f Q e Y->f (ct3 b Q) e Y) {Q:AExit->dn->Hp->Prop}: ∀(n:Nat) (e:dn) (Y:Hp),kM f Q n e Y->kM f (ct3 b Q) n e Y
 |0,_,_,h=>h.elim
 |n+1,e,Y,h=>by
  simp only[kM]at h⊢;refine hf _ _ (λx e' Y' hx=> ?_) e Y (ho _ e Y h);obtain⟨h1,h2⟩:=hx;cases x with
  |normal=>exact bg7 hf ho n e' Y' h2
  |exit id=>exact⟨h1,h2⟩
  |ret=>exact⟨h1,h2⟩
theorem cs1 (hT:rO T): ∀(c:AC) (Q:AExit->dn->Hp->Prop) (e:dn) (Y:Hp),wC T c Q e Y->wC T c (ct3 c Q) e Y:=by
 intro c;induction c with
 |skip=>intro Q e Y h;exact⟨λi hi=>(by cases hi),h⟩
 |region ops=>intro Q e Y h;simp only[wC]at h⊢;rw[az6];exact h
 |draw ops=>intro Q e Y h;simp only[wC]at h⊢;rw[az6];exact h
 |sched its=>intro Q e Y h;simp only[wC]at h⊢;rw[az6];exact h
 |seq a b iha ihb=>
  intro Q e Y h;simp only[wC]at h⊢;refine ia hT a _ _ (λx e' Y' hx=> ?_) e Y (iha _ e Y h);obtain⟨h1,h2⟩:=hx;cases x with
  |normal=>exact ia hT b _ _ (λx e Y hx=>⟨λi hi=>by rw[AC.outs,hx.1 i hi,Bool.or_true],hx.2⟩) e' Y' (ihb Q e' Y' h2)
  |exit id=>exact⟨λi hi=>by rw[AC.outs,h1 i hi,Bool.true_or],h2⟩
  |ret=>exact⟨λi hi=>(by cases hi),h2⟩
 |cond c a b iha ihb=>
  intro Q e Y h;simp only[wC]at h⊢;split at h
  .exact ia hT a _ _ (λx e Y hx=>⟨λi hi=>by rw[AC.outs,hx.1 i hi,Bool.true_or],hx.2⟩) e Y (iha Q e Y h)
  .exact ia hT b _ _ (λx e Y hx=>⟨λi hi=>by rw[AC.outs,hx.1 i hi,Bool.or_true],hx.2⟩) e Y (ihb Q e Y h)
  .exact h.elim
 |block id b ih=>
  intro Q e Y h;simp only[wC]at h⊢;refine ia hT b _ _ (λx e' Y' hx=> ?_) e Y (ih _ e Y h);obtain⟨h1,h2⟩:=hx;cases x with
  |normal=>exact⟨λi hi=>(by cases hi),h2⟩
  |exit i=>
   simp only at h2⊢;split at h2
   .rename_i hi;rw[zE hi];exact⟨λi hi=>(by cases hi),h2⟩
   .rename_i hi;rw[zF hi];refine⟨λj hj=> ?_,h2⟩;injection hj with hj
    subst hj;rw[AC.outs,h1 i rfl];simp[hi]
  |ret=>exact⟨λi hi=>(by cases hi),h2⟩
 |loop b ih=>
  intro Q e Y h;obtain⟨n,hn⟩:=h;exact⟨n,bg7 (f:=wC T b) (ia hT b) ih n e Y hn⟩
 |exit id=>
  intro Q e Y h;refine⟨λi hi=> ?_,h⟩;injection hi with hi
  subst hi;simp[AC.outs]
 |ret=>intro Q e Y h;exact⟨λi hi=>(by cases hi),h⟩
end
end
section
open Bool renaming and_eq_true -> bB, or_eq_true -> bD, false_eq_true -> cB
open List renaming mem_cons_of_mem -> aB, mem_cons_self -> aD
open Go.RowKit
def bb7 (P:Program)(N:Nat)(ops:Array Oper):List Oper->Option DL
 |[]=>C []
 |o::r=>match bb8 P N ops o,bb7 P N ops r with
  |some x,C l=>C ((x,(o.after.toList.filter (Region.binds .any ·)).map (·.on))::l)
  |_,_=>O
def AC.outsL :AC->List Nat
 | .seq a b| .cond _ a b=>a.outsL++b.outsL
 | .block id b=>b.outsL.filter λi=> !(i==id)
 | .loop b=>b.outsL
 | .exit j=>[j]
 |_=>[]
theorem cW6 : ∀(c:AC) (i:Nat),c.outs i=Za->i∈c.outsL:=by
 intro c;induction c with
 |seq a b iha ihb=>
  intro i h;simp only[AC.outs,bD]at h;exact List.mem_append.2 (h.elim (λh=> .inl (iha i h)) λh=> .inr (ihb i h))
 |cond c a b iha ihb=>
  intro i h;simp only[AC.outs,bD]at h;exact List.mem_append.2 (h.elim (λh=> .inl (iha i h)) λh=> .inr (ihb i h))
 |block id b ih=>
  intro i h;simp only[AC.outs,bB]at h;exact List.mem_filter.2 ⟨ih i h.1,h.2⟩
 |loop b ih=>intro i h;exact ih i h
 |exit j=>intro i h;simp[AC.outs]at h;simp[AC.outsL,h]
 |_=>intro i h;simp[AC.outs]at h
def AC.noJump (c:AC):Bool:=c.outsL.all λi=>Zc (i<ap4)
theorem bL5 {c:AC}(h:c.noJump=Za){i:Nat}(hi:c.outs i=Za):i<ap4:=by
 have:=List.all_eq_true.1 h i (cW6 c i hi);exact of_decide_eq_true this
def rX :Code->List Nat
 | .seq a b=>rX a++rX b
 | .label l=>[l]
 |_=>[]
theorem ay5 : ∀(c:Code) (l:Nat),l∉rX c->findLabel c l=O:=by
 intro c;induction c with
 |seq a b iha ihb=>
  intro l h;simp only[rX,List.mem_append,not_or]at h;simp only[findLabel,iha l h.1,ihb l h.2]
 |label l'=>
  intro l h;simp only[rX,List.mem_singleton]at h;simp only[findLabel];rw[zF (by simpa using λe=>h e.symm)]
 |_=>intro l h;rfl
def aT0 (l:Nat):Code->Bool
 | .goto l'=>l'==l
 | .seq a b| .cond _ a b=>aT0 l a||aT0 l b
 | .block _ b| .loop b| .scope b=>aT0 l b
 |_=>Zb
def aD3 :Code->Option Nat
 | .label l=>C l
 |_=>O
theorem ca9 {c:Code}{l:Nat}(h:aD3 c=C l):c= .label l:=by
 cases c<;>simp[aD3]at h;rw[h]
def jH :Code->Option Nat
 | .seq a b=>match aD3 a with
  |some l=>if aT0 l b then C l else jH b
  |none=>jH b
 |_=>O
def ac0 (l:Nat):Nat:=ap4+2*l
def xr (l:Nat):Nat:=ap4+2*l+1
def df4 (l:Nat)(b:AC):AC:= .block (xr l) (.loop (.block (ac0 l) (.seq b (.exit (xr l)))))
def aT3 (a b:Code):Bool:=match jH b with
 |some l=> !(rX a).contains l
 |none=>Za
def qd (x:Option AC):Option AC×Option AC:=(x,x)
def du1 :Option AC->Option AC->Option AC
 |some a,C b=>C (.seq a b)
 |_,_=>O
def cA3 (a b:Code)(xa xb sb:Option AC):Option AC:=match aD3 a with
 |some l=>if aT0 l b then xb.map (df4 l)else if aT3 a b then sb.map (.seq .skip)else O
 |none=>match xa,sb with
  |some x,C y=>if aT3 a b&&((jH b).isNone||x.noJump)then C (.seq x y)else O
  |_,_=>O
def tr2 (P:Program)(N:Nat):Code->Option AC×Option AC
 | .skip=>qd (C .skip)
 | .label _=>qd (C .skip)
 | .region _ ops draw=>qd (if draw then match bb7 P N ops ops.toList with
   |some l=>if al7 l&&P.follows .mixedOrders then(match aD8 l l.length [] []with
    |some its=>C (.sched its)
    |none=>C (.draw l))else O
   |none=>O
  else(aW0 P N ops ops.toList).map .region)
 | .seq a b=>(du1 (tr2 P N a).1 (tr2 P N b).1,cA3 a b (tr2 P N a).1 (tr2 P N b).1 (tr2 P N b).2)
 | .cond c a b=>qd (match yK c,(tr2 P N a).1,(tr2 P N b).1 with
  |some c,C a,C b=>C (.cond c a b)
  |_,_,_=>O)
 | .block id b=>qd (if id<ap4 then((tr2 P N b).1).map (.block id)else O)
 | .loop b=>qd (((tr2 P N b).1).map .loop)
 | .scope b=>qd (match(tr2 P N b).2 with
  |some ac=>if ac.noJump then C ac else O
  |none=>O)
 | .exit id=>qd (if id<ap4 then C (.exit id)else O)
 | .goto l=>qd (C (.exit (ac0 l)))
 | .ret=>qd (C .ret)
 |_=>qd O
def mF (P:Program)(N:Nat)(c:Code):Option AC:=(tr2 P N c).1
def ce4 (P:Program)(N:Nat)(c:Code):Option AC:=(tr2 P N c).2
section
variable {P:Program} {T:gz} {ops:Array Oper} {B:Base P} {N:Nat}
theorem bg5 : ∀{l:List Oper} {al:DL},bb7 P N ops l=C al->l.length=al.length/\∀(i:Nat) o,l[i]?=C o->∃x,al[i]?=C (x,(o.after.toList.filter (Region.binds .any ·)).map (·.on))/\bb8 P N ops o=C x
 |[],al,h=>by
  simp[bb7]at h;subst h;exact⟨rfl,λi o h=>by simp at h⟩
 |o::l,al,h=>by
  simp only[bb7]at h;split at h
  .rename_i x r h1 h2;injection h with h
   subst h;obtain⟨h3,h4⟩:=bg5 h2;refine⟨by simp[h3],λi o' ho=> ?_⟩;cases i with
   |zero=>simp at ho;subst ho;exact⟨x,rfl,h1⟩
   |succ i=>simp at ho;simpa using h4 i o' ho
  .cases h
theorem dd7 {al:DL}(h:bb7 P N ops ops.toList=C al):Fits P N ops al:=by
 obtain⟨h1,h2⟩:=bg5 h;refine⟨by simpa using h1,λi o ho=> ?_,λi o ho q=> ?_⟩
 .obtain⟨x,h3,h4⟩:=h2 i o (by simpa using ho);refine⟨x, ?_,h4⟩;have:jl al i=(o.after.toList.filter (Region.binds .any ·)).map (·.on):=by simp[jl,h3]
  rw[this];exact h3
 .obtain⟨x,h3,h4⟩:=h2 i o (by simpa using ho);have:jl al i=(o.after.toList.filter (Region.binds .any ·)).map (·.on):=by simp[jl,h3]
  rw[this];simp[and_assoc]
theorem ce7 {b:Code}{f:(AExit->dn->Hp->Prop)->dn->Hp->Prop}
  (hb: ∀(Q:AExit->dn->Hp->Prop) (e:dn) (Y:Hp) (Z:Mu) (a:Act) (w:World),f Q e Y->R B Z Y w->gv Z N e a.tmps->a.defers=[]->b.wp P (rY B N Z w Q) a w)
  {Q:AExit->dn->Hp->Prop} {Z0:Mu} {w0:World} {n:Nat} {e:dn} {Y:Hp} {Z:Mu} {a:Act} {w:World} (h:kM f Q n e Y) (hR:R B Z Y w) (he:gv Z N e a.tmps) (hd:a.defers=[]) (hZ:Z0.le Z) (hbel:Below B w0 w):
  (Code.loop b).wp P (rY B N Z0 w0 Q) a w:=by
 intro bf k cs
 have key: ∀n e Y Z a w,kM f Q n e Y->R B Z Y w->gv Z N e a.tmps->a.defers=[]->Z0.le Z->Below B w0 w->
   ∃x a' w',rY B N Z0 w0 Q x a' w'/\Arrives P (lone (bf.at a (.code b:: .inLoop b::k)) cs w) bf k cs x a' w':=by
  intro n;induction n with
  |zero=>intro e Y Z a w h;exact h.elim
  |succ n ih=>
   intro e Y Z a w h hR he hd hZ hbel;simp only[kM]at h;obtain⟨x,a₁,w₁,hq,harr⟩:=hb _ e Y Z a w h hR he hd bf (.inLoop b::k) cs;obtain⟨ax,e1,Y1,Z1,hx,hq,h1,h2,h3,h4,h5⟩:=hq;cases ax with
   |normal=>
    cases x<;>simp[xo]at hx;obtain⟨x₂,a₂,w₂,hq₂,harr₂⟩:=ih e1 Y1 Z1 a₁ w₁ hq h2 h3 h4 (Mu.le_trans hZ h1) (hbel.trans h5);exact⟨x₂,a₂,w₂,hq₂, .of_steps (Steps.trans harr (.one step_inLoop)) harr₂⟩
   |exit id=>
    cases x with
    |exit j=>
     obtain⟨rfl,hj⟩:=hx;exact⟨.exit id,a₁,w₁,⟨.exit id,e1,Y1,Z1,⟨rfl,hj⟩,hq,Mu.le_trans hZ h1,h2,h3,h4,hbel.trans h5⟩, .pass (x:= .inLoop b) rfl (λ_ _=> .inl (by simp)) harr⟩
    |goto l=>exact⟨.goto l,a₁,w₁,⟨.exit id,e1,Y1,Z1,hx,hq,Mu.le_trans hZ h1,h2,h3,h4,hbel.trans h5⟩,λk' hk=>harr k' (by simp[gotoIn,hk])⟩
    |_=>exact hx.elim
   |ret=>
    cases x<;>simp[xo]at hx;exact⟨.ret,a₁,w₁,⟨.ret,e1,Y1,Z1,trivial,hq,Mu.le_trans hZ h1,h2,h3,h4,hbel.trans h5⟩, .pass (x:= .inLoop b) rfl (λ_ _=> .inl (by simp)) harr⟩
 obtain⟨x,a',w',hq,harr⟩:=key n e Y Z a w h hR he hd hZ hbel;exact⟨x,a',w',hq, .of_steps (.one step_loop) harr⟩
theorem az7 {is:List Nat}{Y:Hp}: ∀{chk:List (Nat×(Hp->Prop))},xu is Y chk->∀i c,(i,c)∈chk->i∈is->c Y
 |[],_,i,c,h,_=>by cases h
 |(j,d)::r,hr,i,c,h,hi=>by
  simp only[xu]at hr;rcases List.mem_cons.1 h with h|h
  .injection h with h1 h2
   subst h1 h2;rw[zE (by simpa using hi)]at hr;exact hr.1
  .split at hr
   .exact az7 hr.2 i c h hi
   .exact az7 hr i c h hi
theorem yv {al:DL}{m:Nat}{Y:Hp}: ∀{chk:List (Nat×(Hp->Prop))},(∀i c,(i,c)∈chk->vN al i m=Zb->c Y)->ap5 al m Y chk
 |[],_=>trivial
 |(j,d)::r,h=>by
  simp only[ap5];split
  .exact yv λi c hc=>h i c (aB _ hc)
  .rename_i hb;exact⟨h j d (aD ..) (by simpa using hb),yv λi c hc=>h i c (aB _ hc)⟩
theorem cq0 {op:AOp}{e:dn}{Y:Hp}{k k':Value->Hp->Prop}(hT:rO T)(hk: ∀v Y',k v Y'->k' v Y')(h:cz T op e Y k):cz T op e Y k':=by
 unfold cz at*;cases op<;>simp only at h⊢
 case call f xs=>exact hT _ _ _ _ _ hk h
 case callv f xs=>
  split at h
  .exact hT _ _ _ _ _ hk h
  .exact h.elim
 all_goals
  split at h
  .exact hk _ _ h
  .exact h.elim
theorem az0 (hT:rO T){Q:dn->Hp->Prop}{al:DL}: ∀(f:Nat) (done loads:List Nat) (its:List SItem) (chk chk':List (Nat×(Hp->Prop))) (e:dn) (Y:Hp),aD8 al f done loads=C its->wpI T Q its chk' e Y->
  (∀i c,(i,c)∈chk->i∈loads)->(∀i c,(i,c)∈chk->cT2 al i=Za->(i,c)∈chk')->wpD T Q al f done chk e Y
 |0,done,loads,its,chk,chk',e,Y,h,hw,_,_=>by
  simp[aD8]at h;subst h;exact hw
 |f+1,done,loads,its,chk,chk',e,Y,h,hw,h1,h2=>by
  simp only[aD8]at h;simp only[wpD];split at h
  .rename_i i hn;split at h
   .rename_i o p ho;obtain⟨r,hr,h⟩:=Option.map_eq_some_iff.1 h;subst h;simp only[wpI]at hw;split at hw
    .rename_i hwant;rw[zE hwant];simp only[cB,if_false]at hw;split at hw
     .rename_i v Y1 hrun;refine az0 hT f _ _ _ _ _ _ _ hr hw (λj c hc=> ?_) (λj c hc hk=> ?_)
      .by_cases hl:o.op.isLoad=Za
       .rw[zE hl]at hc⊢;rcases List.mem_cons.1 hc with hc|hc
        .injection hc with hc _
         subst hc;exact aD ..
        .exact aB _ (h1 j c hc)
       .rw[zF hl]at hc⊢;exact h1 j c hc
      .by_cases hl:o.op.isLoad=Za
       .rw[zE hl]at hc;rcases List.mem_cons.1 hc with hc|hc
        .have hj:j=i:=by injection hc
         subst hj;rw[zE (by simp[hl,hk]),hc];exact aD ..
        .split
         .exact aB _ (h2 j c hc hk)
         .exact h2 j c hc hk
       .rw[zF hl]at hc;split
        .exact aB _ (h2 j c hc hk)
        .exact h2 j c hc hk
     .exact hw.elim
    .rename_i hwant;rw[zF hwant];refine az0 hT f _ _ _ _ _ _ _ hr hw (λj c hc=> ?_) h2;split
     .exact aB _ (h1 j c hc)
     .exact h1 j c hc
   .cases h
  .rename_i hn;split at h
   .rename_i hm;rw[hm];injection h with h
    subst h;exact hw
   .rename_i m hm;rw[hm];simp only[bH0];split at h
    .rename_i o p ho;obtain⟨r,hr,h⟩:=Option.map_eq_some_iff.1 h;subst h
     have hmv:cx6 al m=Za:=by
      have:=(yx.1 (show m∈ej al done by rw[hm];exact aD ..)).2.2.2;simpa[an5,cx6,ho]using this
     have hml:m<al.length:=(yx.1 (show m∈ej al done by rw[hm];exact aD ..)).1;simp only[wpI]at hw⊢;split at hw
     .rename_i hwant;rw[zE hwant];simp only[if_true]at hw;refine cq0 hT (λv Y' hk=> ?_) hw;refine⟨yv λi c hc hb=> ?_,az0 hT f _ _ _ _ _ _ _ hr hk.2 h1 h2⟩;have hkp:cT2 al i=Za:=List.any_eq_true.2 ⟨m,List.mem_range.2 hml,by simp[hmv,hb]⟩;exact az7 hk.1 i c (h2 i c hc hkp) (by simp[h1 i c hc,hb])
     .rename_i hwant;rw[zF hwant];exact az0 hT f _ _ _ _ _ _ _ hr hw h1 h2
    .cases h
   .cases h
def bf1 (l:Nat)(J:Act->World->Prop)(Q:Exit->Act->World->Prop):Exit->Act->World->Prop
 | .goto l',a,w=>(l'=l/\J a w)∨(l'≠l/\Q (.goto l') a w)
 |x,a,w=>Q x a w
theorem cq3 {c rest:Code}{Q:Exit->Act->World->Prop}{a:Act}{w:World}(l:Nat)(J:Nat->Act->World->Prop)(hf:findLabel c l=C rest)(hQ: ∀l' a w,¬Q (.goto l') a w)
  (first:c.wp P (bf1 l (λa w=> ∃n,J n a w) Q) a w) (pass: ∀n a w,J n a w->rest.wp P (bf1 l (λa w=> ∃m,m<n/\J m a w) Q) a w):(Code.scope c).wp P Q a w:=by
 intro b k cs;have hg:gotoIn l (.inScope c::k)=C (.code rest:: .inScope c::k):=by simp[gotoIn,hf]
 have key: ∀n a w,J n a w->∃e a' w',Q e a' w'/\Arrives P (lone (b.at a (.code rest:: .inScope c::k)) cs w) b k cs e a' w':=by
  intro n;induction n using Nat.strongRecOn with
  |_ n ih=>
   intro a w hJ;obtain⟨e,a₁,w₁,hq,harr⟩:=pass n a w hJ b (.inScope c::k) cs;cases e with
   |normal=>exact⟨.normal,a₁,w₁,hq,Steps.trans harr (.one step_inScope)⟩
   |exit id=>exact⟨.exit id,a₁,w₁,hq,λk' hk=>harr k' (by simp[exitTo,hk])⟩
   |goto l'=>
    rcases hq with⟨rfl,m,hlt,hJ'⟩|⟨_,hq⟩
    .obtain⟨e₂,a₂,w₂,hq₂,harr₂⟩:=ih m hlt a₁ w₁ hJ';exact⟨e₂,a₂,w₂,hq₂, .of_steps (harr _ hg) harr₂⟩
    .exact(hQ _ _ _ hq).elim
   |ret=>exact⟨_,a₁,w₁,hq,harr⟩
   |panic ch=>exact⟨_,a₁,w₁,hq,harr⟩
   |outgrown=>exact⟨_,a₁,w₁,hq,harr⟩
 obtain⟨e,a₁,w₁,hq,harr⟩:=first b (.inScope c::k) cs
 cases e with
 |normal=>exact⟨.normal,a₁,w₁,hq, .head step_scope (Steps.trans harr (.one step_inScope))⟩
 |exit id=>exact⟨.exit id,a₁,w₁,hq,λk' hk=> .head step_scope (harr k' (by simp[exitTo,hk]))⟩
 |goto l'=>
  rcases hq with⟨rfl,n,hJ'⟩|⟨_,hq⟩
  .obtain⟨e₂,a₂,w₂,hq₂,harr₂⟩:=key n a₁ w₁ hJ';exact⟨e₂,a₂,w₂,hq₂, .of_steps (.head step_scope (harr _ hg)) harr₂⟩
  .exact(hQ _ _ _ hq).elim
 |ret=>exact⟨_,a₁,w₁,hq, .of_steps (.one step_scope) harr⟩
 |panic ch=>exact⟨_,a₁,w₁,hq, .of_steps (.one step_scope) harr⟩
 |outgrown=>exact⟨_,a₁,w₁,hq, .of_steps (.one step_scope) harr⟩
def Jst {P:Program}(B:Base P)(N:Nat)(Z0:Mu)(w0:World)(L:Nat->dn->Hp->Prop)(n:Nat):Act->World->Prop:=λa w=>
 ∃e Y Z,L n e Y/\Z0.le Z/\R B Z Y w/\gv Z N e a.tmps/\a.defers=[]/\Below B w0 w
def Aok (P:Program)(T:gz)(B:Base P)(N:Nat)(c:Code):Prop:= ∀(ac:AC),mF P N c=C ac->∀(Q:AExit->dn->Hp->Prop) (e:dn) (Y:Hp) (Z:Mu) (a:Act) (w:World),wC T ac Q e Y->
  R B Z Y w->gv Z N e a.tmps->a.defers=[]->c.wp P (rY B N Z w Q) a w
def Sok (P:Program)(T:gz)(B:Base P)(N:Nat)(c:Code):Prop:= ∀(ac:AC),ce4 P N c=C ac->∀(Q:AExit->dn->Hp->Prop),
 (jH c=O->∀(e:dn) (Y:Hp) (Z:Mu) (a:Act) (w:World),wC T ac Q e Y->R B Z Y w->gv Z N e a.tmps->a.defers=[]->c.wp P (rY B N Z w Q) a w)/\
 (∀l,jH c=C l->∃rest L,findLabel c l=C rest/\∀Z0 w0,
  (∀(e:dn) (Y:Hp) (Z:Mu) (a:Act) (w:World),wC T ac Q e Y->R B Z Y w->gv Z N e a.tmps->a.defers=[]->Z0.le Z->Below B w0 w->c.wp P (bf1 l (λa w=> ∃n,Jst B N Z0 w0 L n a w) (rY B N Z0 w0 Q)) a w)/\
  (∀n a w,Jst B N Z0 w0 L n a w->rest.wp P (bf1 l (λa w=> ∃m,m<n/\Jst B N Z0 w0 L m a w) (rY B N Z0 w0 Q)) a w))
theorem Sok.of {c:Code}(h1:ce4 P N c=mF P N c)(h2:jH c=O)(h:Aok P T B N c):Sok P T B N c:=λac hac Q=>
 ⟨λ_=>h ac (h1▸hac) Q,λl hl=>by rw[h2]at hl;cases hl⟩
theorem ba3 {Z:Mu}{w:World}{Q:AExit->dn->Hp->Prop}{x:Exit}{a':Act}{w':World}(h:rY B N Z w Q x a' w')(hx:x≠ .normal): ∃ax e' Y' Z',ax≠ .normal/\xo ax x/\Q ax e' Y'/\Z.le Z'/\R B Z' Y' w'/\gv Z' N e' a'.tmps/\a'.defers=[]/\Below B w w':=by
 obtain⟨ax,e',Y',Z',h1,h2,h3⟩:=h;refine⟨ax,e',Y',Z', ?_,h1,h2,h3⟩;rintro rfl;cases x<;>first|exact h1.elim|exact hx rfl
theorem dh8 {Z:Mu}{w:World}{Q Q':AExit->dn->Hp->Prop}{x:Exit}{a':Act}{w':World}(h:rY B N Z w Q x a' w')(hq: ∀ax e Y,xo ax x->Q ax e Y->Q' ax e Y):rY B N Z w Q' x a' w':=by
 obtain⟨ax,e',Y',Z',h1,h2,h3⟩:=h;exact⟨ax,e',Y',Z',h1,hq _ _ _ h1 h2,h3⟩
theorem cz9 {x y:Code}{a:Act}{w:World}{Z:Mu}{Q1:AExit->dn->Hp->Prop}{F:Exit->Act->World->Prop}(h:x.wp P (rY B N Z w Q1) a w)
  (hn: ∀e Y Z' a' w',Q1 .normal e Y->Z.le Z'->R B Z' Y w'->gv Z' N e a'.tmps->a'.defers=[]->Below B w w'->y.wp P F a' w')
  (ho: ∀x a' w',x≠ .normal->rY B N Z w Q1 x a' w'->F x a' w'):(Code.seq x y).wp P F a w:=by
 refine wp_seq (wp_mono h λx' a' w' hx=> ?_);cases x' with
 |normal=>
  obtain⟨ax,e',Y',Z',h1,h2,h3,h4,h5,h6,h7⟩:=hx;cases ax with
  |normal=>exact hn e' Y' Z' a' w' h2 h3 h4 h5 h6 h7
  |exit i=>exact h1.elim
  |ret=>exact h1.elim
 |exit i=>exact ho _ a' w' (by simp) hx
 |goto l=>exact ho _ a' w' (by simp) hx
 |ret=>exact ho _ a' w' (by simp) hx
 |panic ch=>exact ho _ a' w' (by simp) hx
 |outgrown=>exact ho _ a' w' (by simp) hx
theorem cm1 {l:Nat}{J:Act->World->Prop}{F:Exit->Act->World->Prop}{x:Exit}{a:Act}{w:World}(hg:x= .goto l->J a w)(hF:x≠ .goto l->F x a w):bf1 l J F x a w:=by
 cases x with
 |goto l'=>
  by_cases hl:l'=l
  .subst hl;exact .inl ⟨rfl,hg rfl⟩
  .exact .inr ⟨hl,hF (by simpa using hl)⟩
 |_=>exact hF (by simp)
theorem bu8 {l:Nat}{J J':Act->World->Prop}{F F':Exit->Act->World->Prop}(hJ: ∀a w,J a w->J' a w)(hF: ∀x a w,F x a w->F' x a w){x:Exit}{a:Act}{w:World}(h:bf1 l J F x a w):bf1 l J' F' x a w:=by
 cases x with
 |goto l'=>
  rcases h with⟨h1,h2⟩|⟨h1,h2⟩
  .exact .inl ⟨h1,hJ _ _ h2⟩
  .exact .inr ⟨h1,hF _ _ _ h2⟩
 |_=>exact hF _ _ _ h
theorem cR5 (hM:rO T)(hT: ∀f,Sim P f (T f)): ∀(c:Code),Aok P T B N c/\Sok P T B N c:=by
 intro c;induction c with
 |skip=>
  refine(λA=>⟨A,Sok.of rfl rfl A⟩) ?_;intro ac h Q e Y Z a w hw hR he hd;simp[mF,tr2,qd]at h;subst h;exact wp_skip ⟨.normal,e,Y,Z,trivial,hw,Z.le_refl,hR,he,hd,Below.refl _ _⟩
 |label l=>
  refine(λA=>⟨A,Sok.of rfl rfl A⟩) ?_;intro ac h Q e Y Z a w hw hR he hd;simp[mF,tr2,qd]at h;subst h;exact wp_label ⟨.normal,e,Y,Z,trivial,hw,Z.le_refl,hR,he,hd,Below.refl _ _⟩
 |goto l=>
  refine(λA=>⟨A,Sok.of rfl rfl A⟩) ?_;intro ac h Q e Y Z a w hw hR he hd;simp[mF,tr2,qd]at h;subst h;exact wp_goto ⟨.exit (ac0 l),e,Y,Z,rfl,hw,Z.le_refl,hR,he,hd,Below.refl _ _⟩
 |region id ops draw=>
  refine(λA=>⟨A,Sok.of rfl rfl A⟩) ?_;intro ac h Q e Y Z a w hw hR he hd;simp only[mF,tr2,qd]at h;cases draw with
  |false=>
   simp only[cB,if_false]at h;obtain⟨al,h1,h⟩:=Option.map_eq_some_iff.1 h;subst h;exact wp_region_list (cc2 hT ops.toList al e Y Z a w h1 hw hR he hd Z.le_refl (Below.refl _ _))
  |true=>
   simp only[if_true]at h;split at h
   .rename_i al h1;split at h
    .rename_i h2
     have hw:wpD T (Q .normal) al al.length [] [] e Y:=by
      split at h
      .rename_i its hits;injection h with h
       subst h;exact az0 hM al.length [] [] its [] [] e Y hits hw (λi c hc=>(by cases hc)) (λi c hc=>(by cases hc))
      .injection h with h
       subst h;exact hw
     simp only[bB]at h2;have hF:=dd7 h1;have hempty: ∀(val:Nat->Value),jJ al e val []=e:=λval=>funext λt=>oj λi hi=>by cases hi
     refine wp_region_any h2.2 ?_;have hl:left al.length []<=al.length:=by unfold left;exact Nat.le_trans (List.length_filter_le _ _) (by simp)
     refine dc8 hT hF h2.1 (e0:=e) ops.size al.length (λ_=>undef) [] [] [] _ Y Z a _ (by rw[hempty];exact hw) hl (by rw[hF.len];exact hl) ⟨λi hi=>(by cases hi),λi hi=>(by cases hi),λi hi=>(by cases hi),λi hi=>(by cases hi),λi hi=>(by cases hi)⟩ (by simp) (λi hi=>by simp[hi]) (hR.same rfl) (by rw[hempty];exact he) hd Z.le_refl (Below.refl _ _).drew
    .cases h
   .cases h
 |seq x y ihx ihy=>
  refine⟨?_, ?_⟩
  .intro ac h Q e Y Z a w hw hR he hd;have h:du1 (mF P N x) (mF P N y)=C ac:=h;unfold du1 at h;split at h
   .rename_i ax ay h1 h2;injection h with h
    subst h;simp only[wC]at hw;have h1:mF P N x=C ax:=h1;have h2:mF P N y=C ay:=h2;refine cz9 (ihx.1 ax h1 _ e Y Z a w hw hR he hd) (λe' Y' Z' a' w' hq g1 g2 g3 g4 g5=> ?_) λx' a' w' hx hp=> ?_
    .exact wp_mono (ihy.1 ay h2 Q e' Y' Z' a' w' hq g2 g3 g4) λx'' a'' w'' h''=>h''.trans g1 g5
    .obtain⟨axx,e',Y',Z',h0,h1',h2',h3'⟩:=ba3 hp hx;refine⟨axx,e',Y',Z',h1', ?_,h3'⟩;cases axx with
     |normal=>exact(h0 rfl).elim
     |exit i=>exact h2'
     |ret=>exact h2'
   .cases h
  .intro ac h Q;have h:cA3 x y (mF P N x) (mF P N y) (ce4 P N y)=C ac:=h;unfold cA3 at h;split at h
   .rename_i l hl;obtain rfl:=ca9 hl;split at h
    .
     rename_i hg;obtain⟨yc,h1,h⟩:=Option.map_eq_some_iff.1 h;subst h;have hll:jH (.seq (.label l) y)=C l:=by simp[jH,aD3,hg]
     refine⟨λhn=>(by rw[hll]at hn;cases hn),λl' hl'=> ?_⟩;rw[hll]at hl';injection hl' with hl'
     subst hl'
     let Q1:AExit->dn->Hp->Prop:=λx e Y=>match x with
      | .exit i=>if i=xr l then Q .normal e Y else Q (.exit i) e Y
      |x=>Q x e Y
     let body:AC:= .block (ac0 l) (.seq yc (.exit (xr l)))
     have hne:xr l≠ac0 l:=by unfold xr ac0;omega
     have round: ∀(n:Nat) (e:dn) (Y:Hp) (Z:Mu) (a:Act) (w:World) (Z0:Mu) (w0:World),kM (wC T body) Q1 (n+1) e Y->R B Z Y w->gv Z N e a.tmps->a.defers=[]->Z0.le Z->Below B w0 w->
       y.wp P (bf1 l (λa w=>Jst B N Z0 w0 (λn=>kM (wC T body) Q1 n) n a w) (rY B N Z0 w0 Q)) a w:=by
      intro n e Y Z a w Z0 w0 hw hR he hd hZ hb;simp only[kM,body,wC]at hw;refine wp_mono (ihy.1 yc h1 _ e Y Z a w hw hR he hd) λx' a' w' hp=> ?_
      obtain⟨ax,e',Y',Z',q1,q2,q3,q4,q5,q6,q7⟩:=hp;refine cm1 (λhx=> ?_) λhx=> ?_
      .subst hx;cases ax with
       |exit i=>
        have q1:i=ac0 l:=q1;subst q1;simp only[if_true]at q2;exact⟨e',Y',Z',q2,Mu.le_trans hZ q3,q4,q5,q6,hb.trans q7⟩
       |_=>exact q1.elim
      .cases ax with
       |normal=>
        simp only[zF hne]at q2;simp only[Q1,if_true]at q2;exact⟨.normal,e',Y',Z',q1,q2,Mu.le_trans hZ q3,q4,q5,q6,hb.trans q7⟩
       |ret=>exact⟨.ret,e',Y',Z',q1,q2,Mu.le_trans hZ q3,q4,q5,q6,hb.trans q7⟩
       |exit i=>
        have hi:i≠ac0 l/\i≠xr l:=by
         cases x' with
         |exit j=>
          obtain⟨rfl,hj⟩:=q1;unfold ac0 xr;omega
         |goto l'=>
          have q1:i=ap4+2*l':=q1;have:l'≠l:=λe=>hx (by rw[e])
          unfold ac0 xr;omega
         |_=>exact q1.elim
        simp only[zF hi.1,Q1,zF hi.2]at q2;exact⟨.exit i,e',Y',Z',q1,q2,Mu.le_trans hZ q3,q4,q5,q6,hb.trans q7⟩
     refine⟨.seq .skip y,λn=>kM (wC T body) Q1 n,by simp[findLabel],λZ0 w0=>⟨λe Y Z a w hw hR he hd hZ hb=> ?_,λn a w hJ=> ?_⟩⟩
     .have hw': ∃n,kM (wC T body) Q1 n e Y:=hw
      obtain⟨n,hn⟩:=hw';cases n with
      |zero=>exact hn.elim
      |succ n=>
       refine wp_seq (wp_label ?_);exact wp_mono (round n e Y Z a w Z0 w0 hn hR he hd hZ hb) λx' a' w' h'=>bu8 (λ_ _ h=>⟨n,h⟩) (λ_ _ _ h=>h) h'
     .obtain⟨e,Y,Z,hn,hZ,hR,he,hd,hb⟩:=hJ;cases n with
      |zero=>exact hn.elim
      |succ n=>
       refine wp_seq (wp_skip ?_);exact wp_mono (round n e Y Z a w Z0 w0 hn hR he hd hZ hb) λx' a' w' h'=>bu8 (λ_ _ h=>⟨n,Nat.lt_succ_self n,h⟩) (λ_ _ _ h=>h) h'
    .
     rename_i hg;split at h
     .rename_i hlo;obtain⟨yc,h1,h⟩:=Option.map_eq_some_iff.1 h;subst h;have hll:jH (.seq (.label l) y)=jH y:=by simp[jH,aD3,hg]
      obtain⟨s1,s2⟩:=ihy.2 yc h1 Q;refine⟨λhn e Y Z a w hw hR he hd=>wp_seq (wp_label ?_),λl' hl'=> ?_⟩
      .exact s1 (hll▸hn) e Y Z a w hw hR he hd
      .rw[hll]at hl';obtain⟨rest,L,hf,hJ⟩:=s2 l' hl'
       have hlab:findLabel (.seq (.label l) y) l'=C rest:=by
        have:findLabel (.label l) l'=O:=ay5 _ _ (by
         unfold aT3 at hlo;rw[hl']at hlo
         simpa using hlo)
        simp[findLabel,hf]at this⊢;simp[this]
       refine⟨rest,L,hlab,λZ0 w0=>⟨λe Y Z a w hw hR he hd hZ hb=>wp_seq (wp_label ?_),(hJ Z0 w0).2⟩⟩;exact(hJ Z0 w0).1 e Y Z a w hw hR he hd hZ hb
     .cases h
   .rename_i hl;split at h
    .rename_i ax ay h1 h2;split at h
     .rename_i hlo;rw[bB,bD]at hlo;obtain⟨hlo,hnj⟩:=hlo;injection h with h
      subst h;have hll:jH (.seq x y)=jH y:=by simp[jH,hl]
      obtain⟨s1,s2⟩:=ihy.2 ay h2 Q;refine⟨λhn e Y Z a w hw hR he hd=> ?_,λl' hl'=> ?_⟩
      .simp only[wC]at hw;refine cz9 (ihx.1 ax h1 _ e Y Z a w hw hR he hd) (λe' Y' Z' a' w' hq g1 g2 g3 g4 g5=> ?_) λx' a' w' hx hp=> ?_
       .exact wp_mono (s1 (hll▸hn) e' Y' Z' a' w' hq g2 g3 g4) λx'' a'' w'' h''=>h''.trans g1 g5
       .obtain⟨axx,e',Y',Z',h0,h1',h2',h3'⟩:=ba3 hp hx;refine⟨axx,e',Y',Z',h1', ?_,h3'⟩;cases axx with
        |normal=>exact(h0 rfl).elim
        |exit i=>exact h2'
        |ret=>exact h2'
      .rw[hll]at hl';obtain⟨rest,L,hf,hJ⟩:=s2 l' hl'
       have hlab:findLabel (.seq x y) l'=C rest:=by
        have:findLabel x l'=O:=ay5 _ _ (by
         unfold aT3 at hlo;rw[hl']at hlo
         simpa using hlo)
        simp[findLabel,hf,this]
       have hnj:ax.noJump=Za:=by
        rcases hnj with h|h
        .rw[hl']at h;cases h
        .exact h
       refine⟨rest,L,hlab,λZ0 w0=>⟨λe Y Z a w hw hR he hd hZ hb=> ?_,(hJ Z0 w0).2⟩⟩;simp only[wC]at hw;refine cz9 (ihx.1 ax h1 _ e Y Z a w (cs1 hM _ _ e Y hw) hR he hd) (λe' Y' Z' a' w' hq g1 g2 g3 g4 g5=> ?_) λx' a' w' hx hp=> ?_
       .exact(hJ Z0 w0).1 e' Y' Z' a' w' hq.2 g2 g3 g4 (Mu.le_trans hZ g1) (hb.trans g5)
       .obtain⟨axx,e',Y',Z',h0,h1',h2',h3',h4',h5',h6',h7'⟩:=ba3 hp hx;refine cm1 (λhg=> ?_) λ_=> ?_
        .subst hg;cases axx with
         |exit i=>
          have k1:i=ap4+2*l':=h1';have:=bL5 hnj (h2'.1 i rfl);omega
         |_=>exact h1'.elim
        .refine⟨axx,e',Y',Z',h1', ?_,Mu.le_trans hZ h3',h4',h5',h6',hb.trans h7'⟩;cases axx with
         |normal=>exact(h0 rfl).elim
         |exit i=>exact h2'.2
         |ret=>exact h2'.2
     .cases h
    .cases h
 |cond c x y ihx ihy=>
  refine(λA=>⟨A,Sok.of rfl rfl A⟩) ?_;intro ac h Q e Y Z a w hw hR he hd;simp only[mF,tr2,qd]at h;split at h
  .rename_i c' ax ay h0 h1 h2;injection h with h
   subst h;obtain⟨rfl,k0⟩:=cc h0;have hv:=he.ev k0;simp only[wC]at hw;split at hw
   .rename_i hb;rw[hb]at hv;exact wp_cond_true hv.bool_inv (ihx.1 ax h1 Q e Y Z a w hw hR he hd)
   .rename_i hb;rw[hb]at hv;exact wp_cond_false hv.bool_inv (ihy.1 ay h2 Q e Y Z a w hw hR he hd)
   .exact hw.elim
  .cases h
 |block id b ih=>
  refine(λA=>⟨A,Sok.of rfl rfl A⟩) ?_;intro ac h Q e Y Z a w hw hR he hd;simp only[mF,tr2,qd]at h;split at h
  .rename_i hlt;obtain⟨ab,h1,h⟩:=Option.map_eq_some_iff.1 h;subst h;simp only[wC]at hw;refine wp_block (wp_mono (ih.1 ab h1 _ e Y Z a w hw hR he hd) λx a' w' hx=> ?_);obtain⟨axx,e',Y',Z',hxr,hq,g1,g2,g3,g4,g5⟩:=hx;cases axx with
   |normal=>
    cases x<;>simp[xo]at hxr;exact⟨.normal,e',Y',Z',trivial,hq,g1,g2,g3,g4,g5⟩
   |exit i=>
    simp only at hq;cases x with
    |exit j=>
     obtain⟨rfl,hj⟩:=hxr;simp only[Exit.inBlock];split
     .rename_i hid;rw[zE hid]at hq;exact⟨.normal,e',Y',Z',trivial,hq,g1,g2,g3,g4,g5⟩
     .rename_i hid;rw[zF hid]at hq;exact⟨.exit i,e',Y',Z',⟨rfl,hj⟩,hq,g1,g2,g3,g4,g5⟩
    |goto l=>
     have hxr':i=ap4+2*l:=hxr;rw[zF (by omega)]at hq;exact⟨.exit i,e',Y',Z',hxr,hq,g1,g2,g3,g4,g5⟩
    |_=>exact hxr.elim
   |ret=>
    cases x<;>simp[xo]at hxr;exact⟨.ret,e',Y',Z',trivial,hq,g1,g2,g3,g4,g5⟩
  .cases h
 |loop b ih=>
  refine(λA=>⟨A,Sok.of rfl rfl A⟩) ?_;intro ac h Q e Y Z a w hw hR he hd;simp only[mF,tr2,qd]at h;obtain⟨ab,h1,h⟩:=Option.map_eq_some_iff.1 h;subst h;simp only[wC]at hw;obtain⟨n,hn⟩:=hw;exact ce7 (f:=wC T ab) (λQ e Y Z a w hf=>ih.1 ab h1 Q e Y Z a w hf) hn hR he hd Z.le_refl (Below.refl _ _)
 |scope b ih=>
  refine(λA=>⟨A,Sok.of rfl rfl A⟩) ?_;intro ac h Q e Y Z a w hw hR he hd;simp only[mF,tr2,qd]at h;split at h
  .rename_i ac' h1;split at h
   .rename_i hno;injection h with h
    subst h;have hw':=cs1 hM _ Q e Y hw
    have hng: ∀(l':Nat) (a:Act) (w':World),¬rY B N Z w (ct3 ac' Q) (.goto l') a w':=by
     rintro l' a w' ⟨ax,e',Y',Z',k1,k2,_⟩;cases ax with
     |exit i=>
      have k1:i=ap4+2*l':=k1;have:=bL5 hno (k2.1 i rfl);omega
     |_=>exact k1.elim
    have fin: ∀{x:Exit} {a':Act} {w':World},rY B N Z w (ct3 ac' Q) x a' w'->rY B N Z w Q x a' w':=λh=>dh8 h λ_ _ _ _ h=>h.2
    obtain⟨s1,s2⟩:=ih.2 ac' h1 (ct3 ac' Q);cases hl:jH b with
    |none=>
     refine wp_scope_straight (wp_mono (s1 hl e Y Z a w hw' hR he hd) λx a' w' hx=> ?_);cases x with
     |goto l'=>exact(hng l' a' w' hx).elim
     |_=>exact fin hx
    |some l=>
     obtain⟨rest,L,hf,hJ⟩:=s2 l hl;obtain⟨j1,j2⟩:=hJ Z w;refine wp_mono (cq3 l (Jst B N Z w L) hf hng (j1 e Y Z a w hw' hR he hd Z.le_refl (Below.refl _ _)) j2) λx a' w' hx=>fin hx
   .cases h
  .cases h
 |exit id=>
  refine(λA=>⟨A,Sok.of rfl rfl A⟩) ?_;intro ac h Q e Y Z a w hw hR he hd;simp only[mF,tr2,qd]at h;split at h
  .rename_i hlt;injection h with h
   subst h;exact wp_exit ⟨.exit id,e,Y,Z,⟨rfl,hlt⟩,hw,Z.le_refl,hR,he,hd,Below.refl _ _⟩
  .cases h
 |ret=>
  refine(λA=>⟨A,Sok.of rfl rfl A⟩) ?_;intro ac h Q e Y Z a w hw hR he hd;simp[mF,tr2,qd]at h;subst h;exact wp_ret ⟨.ret,e,Y,Z,trivial,hw,Z.le_refl,hR,he,hd,Below.refl _ _⟩
 |_=>
  refine(λA=>⟨A,Sok.of rfl rfl A⟩) ?_;intro ac h;simp[mF,tr2,qd]at h
theorem dc0 (hM:rO T)(hT: ∀f,Sim P f (T f))(c:Code)(ac:AC)(h:mF P N c=C ac)(Q:AExit->dn->Hp->Prop)(e:dn)(Y:Hp)(Z:Mu)(a:Act)(w:World)(hw:wC T ac Q e Y)
  (hR:R B Z Y w) (he:gv Z N e a.tmps) (hd:a.defers=[]):c.wp P (rY B N Z w Q) a w:=(cR5 hM hT c).1 ac h Q e Y Z a w hw hR he hd
end
end
section
open List renaming mapM_cons -> bD, getElem?_eq_getElem -> cB
open Result renaming andThen_ok -> aB
open Sem renaming run_bind -> aD, run_pure -> bB
open Go.RowKit
def bz9 (P:Program):List ResultVar->Option (List ARes)
 |[]=>C []
 | .tmp t::r=>(bz9 P r).map (.tmp t:: ·)
 | .cell a t::r=>match zy P t,lM P t,bz9 P r with
  |some Za,C n,C r=>C (.cellN a n::r)
  |some Zb,C _,C r=>C (.cell a::r)
  |_,_,_=>O
def cr7 (P:Program)(f:FuncId):Option AFn:=match P.funcs[f]? with
 |some fn=>match fn.body,cv6 P f with
  |some c,true=>match mF P fn.ntmps c,bz9 P fn.results.toList with
   |some ac,C rs=>C ⟨fn.ntmps,rs,ac⟩
   |_,_=>O
  |_,_=>O
 |none=>O
section
variable {P:Program} {T:gz} {B:Base P} {N:Nat} {Z:Mu} {Y:Hp} {w:World} {e:dn}
def cp4 (tmps:Array Value):ResultVar->Sem Value
 | .tmp t=>pure (tmps.getD t undef)
 | .cell a t=>do loadVar t (<-asAddr (tmps.getD a undef))
theorem cz7 (fn:Func)(tmps:Array Value):results fn tmps=(do
  let vs<-fn.results.mapM (cp4 tmps)
  pure (if h:vs.size=1 then vs[0]else .tuple vs)):=rfl
theorem cd1 {tmps:Array Value}(he:gv Z N e tmps)(hR:R B Z Y w): ∀(l:List ResultVar) (rs:List ARes) (vs:List Value),bz9 P l=C rs->ba9 e Y rs=C vs->
  ∃vs',(l.mapM (cp4 tmps)).run P w= .ok vs' w/\F2 (VR Z) vs vs'
 |[],rs,vs,h,hr=>by
  simp[bz9]at h;subst h;simp[ba9]at hr;subst hr;exact⟨[],by simp, .nil⟩
 | .tmp t::l,rs,vs,h,hr=>by
  simp only[bz9]at h;obtain⟨rs',h1,h⟩:=Option.map_eq_some_iff.1 h;subst h;simp only[ba9]at hr;split at hr
  .rename_i v vs1 h2 h3;injection hr with hr
   subst hr;simp[bx7]at h2;subst h2;obtain⟨vs',h4,h5⟩:=cd1 he hR l rs' vs1 h1 h3;refine⟨tmps.getD t undef::vs', ?_, .cons (he.2 t) h5⟩;have hF:(cp4 tmps (.tmp t)).run P w= .ok (tmps.getD t undef) w:=rfl;simp only[bD,aD,bB,aB,hF,h4]
  .cases hr
 | .cell a t::l,rs,vs,h,hr=>by
  simp only[bz9]at h;have hv:=he.2 a;split at h
  .rename_i n rs' h1 h2 h3;injection h with h
   subst h;simp only[ba9]at hr;split at hr
   .rename_i v vs1 h4 h5;injection hr with hr
    subst hr;obtain⟨vs',h6,h7⟩:=cd1 he hR l rs' vs1 h3 h5;simp only[bx7]at h4;split at h4
    .rename_i b o hb;rw[hb]at hv;obtain⟨g,hg,hq⟩:=hv.ptr_inv;obtain⟨x,hx,h4⟩:=Option.bind_eq_some_iff.1 h4;obtain⟨cs,hcs,rfl⟩:=Option.map_eq_some_iff.1 h4;obtain⟨cs',k1,k2⟩:=hR.reads hx hg hcs;refine⟨.agg cs'.toArray::vs', ?_, .cons (.agg k2) h7⟩
     have hF:(cp4 tmps (.cell a t)).run P w= .ok (.agg cs'.toArray) w:=by
      simp only[cp4,aD,hq,asAddr,bB,aB,loadVar,aE2 h1,if_true,mE h2,k1 P w rfl]
     simp only[bD,aD,bB,aB,hF,h6]
    .cases h4
   .cases hr
  .rename_i n rs' h1 h2 h3;injection h with h
   subst h;simp only[ba9]at hr;split at hr
   .rename_i v vs1 h4 h5;injection hr with hr
    subst hr;obtain⟨vs',h6,h7⟩:=cd1 he hR l rs' vs1 h3 h5;simp only[bx7]at h4;split at h4
    .rename_i b o hb;rw[hb]at hv;obtain⟨g,hg,hq⟩:=hv.ptr_inv;obtain⟨x,hx,h4⟩:=Option.bind_eq_some_iff.1 h4;obtain⟨v',k1,k2⟩:=(hR.get hx hg.1).cell hg.2 o v h4;refine⟨v'::vs', ?_, .cons k2 h7⟩
     have hF:(cp4 tmps (.cell a t)).run P w= .ok v' w:=by
      simp only[cp4,aD,hq,asAddr,bB,aB,loadVar,aE2 h1,Bool.false_eq_true,if_false,run_load,k1]
     simp only[bD,aD,bB,aB,hF,h6]
    .cases h4
   .cases hr
  .cases h
theorem cC9 {f:FuncId}{af:AFn}(h:cr7 P f=C af)(hM:rO T)(hT: ∀g,Sim P g (T g)):Sim P f (wpF T af):=by
 unfold cr7 at h;split at h
 .rename_i fn hfn;split at h
  .rename_i c hb hen;split at h
   .rename_i ac rs h1 h2;injection h with h
    subst h;intro B Z Y w args cargs K hw hR ha;obtain⟨hlen,hw⟩:=hw
    have hcall:bO0 P f:=by
     unfold cv6 at hen;rw[hfn]at hen;simp only[Bool.and_eq_true,Bool.not_eq_true']at hen;exact⟨fn,hfn,hen.1,hen.2⟩
    refine⟨hcall,calls_of_wp hfn hb ?_⟩;have hsz:cargs.size=args.length:=by simpa using ha.length.symm
    have henv:gv Z fn.ntmps (dn.of args) (cargs++Array.replicate (fn.ntmps-cargs.size) undef):=by
     refine⟨by simp only[Array.size_append,Array.size_replicate];simp only at hlen;omega,λt=> ?_⟩;unfold dn.of;by_cases ht:t<args.length
     .obtain⟨v',h3,h4⟩:=ha.get t args[t] (cB ht)
      have:(cargs++Array.replicate (fn.ntmps-cargs.size) undef).getD t undef=v':=by
       simp only[Array.getD_eq_getD_getElem?];rw[Array.getElem?_append_left (by omega)];have:cargs[t]?=C v':=by simpa using h3
       simp[this]
      rw[this,cB ht];exact h4
     .have:(cargs++Array.replicate (fn.ntmps-cargs.size) undef).getD t undef=undef:=by
       simp only[Array.getD_eq_getD_getElem?];rw[Array.getElem?_append_right (by omega),Array.getElem?_replicate];split<;>rfl
      rw[this,List.getElem?_eq_none (by omega)];exact VR.undef Z
    refine wp_mono (dc0 hM hT c ac h1 _ _ Y Z ⟨_,[]⟩ w hw hR henv rfl) λx a' w' hx=> ?_
    obtain⟨ax,e',Y',Z',hxr,hq,g1,g2,g3,g4,g5⟩:=hx
    have fin:(match ba9 e' Y' rs with
      |some vs=>K (zT vs) Y'
      |none=>False)->a'.defers=[]/\∃v,(results fn a'.tmps).run P w'= .ok v w'/\dv7 P B Z w K (.returned v) w':=by
     intro hq;refine⟨g4, ?_⟩;split at hq
     .rename_i vs hvs;obtain⟨vs',k1,k2⟩:=cd1 (P:=P) g3 g2 fn.results.toList rs vs h2 hvs;have hl:=k2.length;refine⟨zT vs', ?_,_,Y',_,Z',rfl,hq,g1,g2, ?_,g5,rfl⟩
      .rw[cz7,Array.mapM_eq_mapM_toList];simp only[aD,Sem.run_map,k1,aB,bB]
       congr 1
       match vs',hl with
       |[],_=>rfl
       |[v],_=>rfl
       |v::u::r,_=>simp[zT]
      .match vs,vs',k2 with
       |[],_, .nil=>exact .tuple .nil
       |[v],_, .cons h .nil=>exact h
       |v::u::r,_, .cons h (.cons h' t)=>exact .tuple (.cons h (.cons h' t))
     .exact hq.elim
    cases ax with
    |normal=>
     cases x<;>simp[xo]at hxr;exact fin hq
    |exit id=>exact hq.elim
    |ret=>
     cases x<;>simp[xo]at hxr;exact fin hq
   .cases h
  .cases h
 .cases h
theorem Sim.none (P:Program)(f:FuncId):Sim P f λ_ _ _=>False:=λ_ _ _ _ _ _ _ h=>h.elim
theorem Sim.of {f:FuncId}{S S':aX6}(h:Sim P f S)(hS: ∀args Y K,S' args Y K->S args Y K):Sim P f S':=
 λB Z Y w args cargs K hk=>h B Z Y w args cargs K (hS args Y K hk)
end
inductive Rn (ν:Nat->Nat)(n:Nat):Value->Value->Prop where
 |bool (b:Bool):Rn ν n (.bool b) (.bool b)
 |int (k:IntKind) (m:Int):Rn ν n (.int k m) (.int k m)
 |string (s:ByteArray):Rn ν n (.string s) (.string s)
 |nilp:Rn ν n (.pointer O) (.pointer O)
 |ptr {b o:Nat}:b<n->Rn ν n (.pointer (C ⟨b,o,O⟩)) (.pointer (C ⟨ν b,o,O⟩))
 |nils:Rn ν n (.slice O 0 0) (.slice O 0 0)
 |slice {b o l c:Nat}:b<n->Rn ν n (.slice (C ⟨b,o,O⟩) l c) (.slice (C ⟨ν b,o,O⟩) l c)
 |nilf:Rn ν n .nilFunc .nilFunc
 |func {f:Fn} {a a' c c':Array Value}:F2 (Rn ν n) a.toList a'.toList->F2 (Rn ν n) c.toList c'.toList->Rn ν n (.func f a c) (.func f a' c')
 |nili:Rn ν n .nilIface .nilIface
 |agg {a a':Array Value}:F2 (Rn ν n) a.toList a'.toList->Rn ν n (.agg a) (.agg a')
 |tuple {a a':Array Value}:F2 (Rn ν n) a.toList a'.toList->Rn ν n (.tuple a) (.tuple a')
theorem Rn.vr {ν:Nat->Nat}{n:Nat}{Z1 Z':Mu}(hZ: ∀b,b<n->Z' b=Z1 (ν b)): ∀{v u:Value},Rn ν n v u->∀{u':Value},VR Z1 u u'->VR Z' v u'
 |_,_, .bool b,_,h=>by cases h;exact .bool b
 |_,_, .int k m,_,h=>by cases h;exact .int k m
 |_,_, .string s,_,h=>by cases h;exact .string s
 |_,_, .nilp,_,h=>by cases h;exact .nilp
 |_,_, .ptr hb,_,h=>by cases h with|ptr h1=>exact .ptr ⟨(hZ _ hb).trans h1.1,h1.2⟩
 |_,_, .nils,_,h=>by cases h;exact .nils
 |_,_, .slice hb,_,h=>by cases h with
  |slice h1 h2 h3 h4=>exact .slice ⟨(hZ _ hb).trans h1.1,h1.2⟩ h2 h3 h4
  |slice0 A' h1=>exact .slice0 _ ⟨(hZ _ hb).trans h1.1,h1.2⟩
 |_,_, .nilf,_,h=>by cases h;exact .nilf
 |_,_, .func h1 h2,_,h=>by cases h with|func k1 k2=>exact .func (go h1 k1) (go h2 k2)
 |_,_, .nili,_,h=>by cases h;exact .nili
 |_,_, .agg h1,_,h=>by cases h with|agg k1=>exact .agg (go h1 k1)
 |_,_, .tuple h1,_,h=>by cases h with|tuple k1=>exact .tuple (go h1 k1)
where
 go {l m:List Value}:F2 (Rn ν n) l m->∀{m':List Value},F2 (VR Z1) m m'->F2 (VR Z') l m'
 | .nil,_,h=>by cases h;exact .nil
 | .cons h1 t1,_,h=>by cases h with|cons k1 k2=>exact .cons (Rn.vr hZ h1 k1) (go t1 k2)
theorem VR.narrow {Z Z1 Z':Mu}(hZ: ∀b g g1,Z b=C g->Z1 b=C g1->Z' b=C g1): ∀{v u:Value},VR Z v u->∀{u':Value},VR Z1 v u'->VR Z' v u'
 |_,_, .bool b,_,h=>by cases h;exact .bool b
 |_,_, .int k m,_,h=>by cases h;exact .int k m
 |_,_, .string s,_,h=>by cases h;exact .string s
 |_,_, .nilp,_,h=>by cases h;exact .nilp
 |_,_, .ptr hb,_,h=>by cases h with|ptr h1=>exact .ptr ⟨hZ _ _ _ hb.1 h1.1,h1.2⟩
 |_,_, .nils,_,h=>by cases h;exact .nils
 |_,_, .slice hb _ _ _,_,h=>by cases h with
  |slice h1 h2 h3 h4=>exact .slice ⟨hZ _ _ _ hb.1 h1.1,h1.2⟩ h2 h3 h4
  |slice0 A' h1=>exact .slice0 _ ⟨hZ _ _ _ hb.1 h1.1,h1.2⟩
 |_,_, .slice0 A' hb,_,h=>by cases h with
  |slice h1 h2 h3 h4=>exact .slice ⟨hZ _ _ _ hb.1 h1.1,h1.2⟩ h2 h3 h4
  |slice0 A' h1=>exact .slice0 _ ⟨hZ _ _ _ hb.1 h1.1,h1.2⟩
 |_,_, .sliceX hb _,_,h=>by cases h with
  |sliceX h1 h2=>exact .sliceX ⟨hZ _ _ _ hb.1 h1.1,h1.2⟩ h2
  |sliceX0 A' h1=>exact .sliceX0 _ ⟨hZ _ _ _ hb.1 h1.1,h1.2⟩
 |_,_, .sliceX0 A' hb,_,h=>by cases h with
  |sliceX h1 h2=>exact .sliceX ⟨hZ _ _ _ hb.1 h1.1,h1.2⟩ h2
  |sliceX0 A' h1=>exact .sliceX0 _ ⟨hZ _ _ _ hb.1 h1.1,h1.2⟩
 |_,_, .nilf,_,h=>by cases h;exact .nilf
 |_,_, .func h1 h2,_,h=>by cases h with|func k1 k2=>exact .func (go h1 k1) (go h2 k2)
 |_,_, .iter hb _,_,h=>by cases h with|iter k1 k2=>exact .iter (hZ _ _ _ hb k1) k2
 |_,_, .nili,_,h=>by cases h;exact .nili
 |_,_, .agg h1,_,h=>by cases h with|agg k1=>exact .agg (go h1 k1)
 |_,_, .tuple h1,_,h=>by cases h with|tuple k1=>exact .tuple (go h1 k1)
where
 go {l m:List Value}:F2 (VR Z) l m->∀{m':List Value},F2 (VR Z1) l m'->F2 (VR Z') l m'
 | .nil,_,h=>by cases h;exact .nil
 | .cons h1 t1,_,h=>by cases h with|cons k1 k2=>exact .cons (VR.narrow hZ h1 k1) (go t1 k2)
end
section
open Nat renaming lt_or_ge -> aB, lt_of_lt_of_le -> aD
open Go.RowKit
structure Weak (Y0 Y1:Hp)(r:Value)(Y':Hp)(r':Value)(ν:Nat->Nat):Prop where
 n:Y0.n<=Y'.n
 old: ∀b,b<Y0.n->ν b=b
 inj: ∀b b' x x',Y'.m b=C x->Y'.m b'=C x'->b≠b'->ν b≠ν b'
 blk: ∀b x',Y'.m b=C x'->(Y0.m b=C x'/\Y1.m b=C x')∨
  (b<Y'.n/\∃x,Y1.m (ν b)=C x/\x'.es=x.es/\(x'.own=Za->x.own=Za)/\F2 (Rn ν Y'.n) x'.cells (x.cells.take x'.cells.length))
 res:Rn ν Y'.n r' r
section
variable {P:Program} {f:FuncId} {S S':aX6}
theorem R.weak {P:Program}{B:Base P}{Z Z1:Mu}{Y Y1 Y':Hp}{w w':World}{r r':Value}{ν:Nat->Nat}(hR:R B Z Y w)(hR1:R B Z1 Y1 w')(hZ:Z.le Z1)(h:Weak Y Y1 r Y' r' ν):
  ∃Z',Z.le Z'/\R B Z' Y' w'/\∀rc,VR Z1 r rc->VR Z' r' rc:=by
 have hdom: ∀b g,Z b=C g->b<Y.n:=λb g hb=>by
  rcases aB b Y.n with h1|h1
  .exact h1
  .rw[hR.fresh b h1]at hb;cases hb
 have hin: ∀b,b<Y'.n->(λb=>if b<Y'.n then Z1 (ν b)else O) b=Z1 (ν b):=λb hb=>zE hb
 have hlt0: ∀b x,Y.m b=C x->b<Y.n:=λb x hx=>by
  obtain⟨g,hg,_⟩:=hR.live b x hx;exact hdom b g hg
 have hnar: ∀b g g1,Z b=C g->Z1 b=C g1->(λb=>if b<Y'.n then Z1 (ν b)else O) b=C g1:=by
  intro b g g1 hb hb1;have h1:=hdom b g hb;rw[hin b (aD h1 h.n),h.old b h1];exact hb1
 refine⟨λb=>if b<Y'.n then Z1 (ν b)else O,λb g hb=> ?_,⟨hR1.base,hR1.old,λb hb=>zF (by omega),λb x' hx'=> ?_,λb b' x x' g g' hx hx' hne ho hg hg'=> ?_, ?_⟩,λrc hrc=>h.res.vr hin hrc⟩
 .exact hnar b g g hb (hZ b g hb)
 .rcases h.blk b x' hx' with⟨h1,h2⟩|⟨h1,x,h2,h3,h4,h5⟩
  .obtain⟨g,hg,hl⟩:=hR1.live b x' h2;obtain⟨g0,hg0,hl0⟩:=hR.live b x' h1;have hgg:g=g0:=by have:=hZ b g0 hg0;rw[hg]at this;exact Option.some.inj this
   refine⟨g,hnar b g0 g hg0 hg,hl.lt,hl.es,λh0 i v hv=> ?_,hl.own,hl.iter,hl.bld⟩;obtain⟨u,hu,hvu⟩:=hl.cell h0 i v hv;obtain⟨u0,_,hvu0⟩:=hl0.cell (hgg▸h0) i v hv;exact⟨u,hu,hvu0.narrow hnar hvu⟩
  .obtain⟨g,hg,hl⟩:=hR1.live (ν b) x h2
   have hlen:x'.cells.length<=x.cells.length:=by
    have:=h5.length;rw[List.length_take]at this;omega
   refine⟨g,by simp only[zE h1];exact hg,hl.lt,hl.es.trans h3.symm,λh0 i v hv=> ?_,λh0 ho=> ?_,λs hs=> ?_,λhs=> ?_⟩
   .obtain⟨u,hu,hvu⟩:=h5.get i v hv
    have hi:i<x'.cells.length:=by
     rcases aB i x'.cells.length with h6|h6
     .exact h6
     .rw[List.getElem?_eq_none h6]at hv;cases hv
    rw[List.getElem?_take,zE hi]at hu;obtain⟨u',hu',huu⟩:=hl.cell h0 i u hu;exact⟨u',hu',hvu.vr hin huu⟩
   .obtain⟨k1,k2,k3⟩:=hl.own h0 (h4 ho);exact⟨k1,by omega,k3⟩
   .obtain⟨k1,p,k2,k3⟩:=hl.iter s hs;refine⟨k1,p, ?_,k3⟩;rw[k2]at h5;have hl5:=h5.length;cases hx':x'.cells with
    |nil=>rfl
    |cons v r=>
     rw[hx']at h5 hl5;cases hc:x.cells.length with
     |zero=>rw[hc]at h5;simp at h5;cases h5
     |succ n=>
      rw[hc]at h5;simp at h5;cases h5 with
      |cons h6 h7=>
       cases h7;cases h6;simp
   .obtain⟨k1,p,s,k0,k2,k3⟩:=hl.bld hs;refine⟨k1,p,s,k0, ?_,k3⟩;rw[k2]at h5;have hl5:=h5.length;cases hx':x'.cells with
    |nil=>rfl
    |cons v r=>
     rw[hx']at h5 hl5;cases hc:x.cells.length with
     |zero=>rw[hc]at h5;simp at h5;cases h5
     |succ n=>
      rw[hc]at h5;simp at h5;cases h5 with
      |cons h6 h7=>
       cases h7;cases h6;simp
 .have key: ∀b x,Y'.m b=C x->∃y,Y1.m (ν b)=C y/\(x.own=Za->y.own=Za)/\b<Y'.n:=by
   intro b x hx;rcases h.blk b x hx with⟨h1,h2⟩|⟨h1,y,h2,_,h4,_⟩
   .have hb:=hlt0 b x h1;exact⟨x,by rw[h.old b hb];exact h2,id,aD hb h.n⟩
   .exact⟨y,h2,h4,h1⟩
  obtain⟨y,hy,hyo,hb⟩:=key b x hx;obtain⟨y',hy',_,hb'⟩:=key b' x' hx';simp only[zE hb]at hg;simp only[zE hb']at hg';exact hR1.inj (ν b) (ν b') y y' g g' hy hy' (h.inj b b' x x' hx hx' hne) (hyo ho) hg hg'
 .have key: ∀b x g,Y'.m b=C x->(λb=>if b<Y'.n then Z1 (ν b)else O) b=C g->∃y,Y1.m (ν b)=C y/\Z1 (ν b)=C g:=by
   intro b x g hx hg
   have hb:b<Y'.n:=by
    rcases aB b Y'.n with h|h
    .exact h
    .simp only[zF (show¬b<Y'.n by omega)]at hg;cases hg
   simp only[zE hb]at hg;rcases h.blk b x hx with⟨h1,h2⟩|⟨_,y,h2,_⟩
   .exact⟨x,by rw[h.old b (hlt0 b x h1)];exact h2,hg⟩
   .exact⟨y,h2,hg⟩
  intro b x g hx hg hi k hk b' x' g' hx' hg';obtain⟨y,h1,h2⟩:=key b x g hx hg;obtain⟨y',h3,h4⟩:=key b' x' g' hx' hg';obtain⟨m1,m2⟩:=hR1.sep (ν b) y g h1 h2 hi k hk (ν b') y' g' h3 h4;exact⟨m1,λhne=>m2 (h.inj b' b x' x hx' hx hne)⟩
theorem Sim.weak (h:Sim P f S)(hS: ∀args Y K,S' args Y K->S args Y λr1 Y1=> ∃ν Y' r',Weak Y Y1 r1 Y' r' ν/\K r' Y'):Sim P f S':=by
 intro B Z Y w args cargs K hk hR ha;obtain⟨hc,hcalls⟩:=h B Z Y w args cargs _ (hS args Y K hk) hR ha;refine⟨hc,hcalls.mono λx w' hx=> ?_⟩;obtain⟨r1,Y1,rc,Z1,rfl,⟨ν,Y',r',hw,hK⟩,h1,h2,h3,h4,_⟩:=hx;obtain⟨Z',k1,k2,k3⟩:=hR.weak h2 h1 hw;exact⟨r',Y',rc,Z',rfl,hK,k1,k2,k3 rc h3,h4,rfl⟩
end
def Ext (Y Y1:Hp):Prop:=Y.n<=Y1.n/\∀b,b<Y.n->Y1.m b=Y.m b
theorem Ext.refl (Y:Hp):Ext Y Y:=⟨Nat.le_refl _,λ_ _=>rfl⟩
theorem Ext.trans {a b c:Hp}(h:Ext a b)(k:Ext b c):Ext a c:=⟨Nat.le_trans h.1 k.1,λx hx=>(k.2 x (aD hx h.1)).trans (h.2 x hx)⟩
theorem Ext.add {Y Y1:Hp}(h:Ext Y Y1)(x:Blk):Ext Y (Y1.add x):=by
 refine⟨Nat.le_succ_of_le h.1,λb hb=> ?_⟩;have:b≠Y1.n:=by have:=h.1;omega
 simp only[Hp.add,zF this];exact h.2 b hb
theorem Ext.set {Y Y1:Hp}(h:Ext Y Y1){b:Nat}(hb:Y.n<=b)(x:Option Blk):Ext Y (Y1.set b x):=by
 refine⟨h.1,λb' hb'=> ?_⟩;have:b'≠b:=by omega
 simp only[Hp.set,zF this];exact h.2 b' hb'
def Hp.Ok (Y:Hp):Prop:= ∀b x,Y.m b=C x->b<Y.n
def Fin (Y:Hp)(K:Value->Hp->Prop)(r1:Value)(Y1:Hp):Prop:= ∃ν Y' r',Weak Y Y1 r1 Y' r' ν/\K r' Y'
section
variable {P:Program} {f:FuncId} {S S':aX6} {Y Y1:Hp} {K:Value->Hp->Prop}
theorem Sim.lt (h:Sim P f λargs Y K=>Y.Ok/\S args Y K):Sim P f S:=by
 intro B Z Y w args cargs K hk hR ha;refine h B Z Y w args cargs K ⟨λb x hx=> ?_,hk⟩ hR ha;obtain⟨g,hg,_⟩:=hR.live b x hx;rcases aB b Y.n with h1|h1
 .exact h1
 .rw[hR.fresh b h1]at hg;cases hg
theorem Sim.fin (h:Sim P f S)(hS: ∀args Y K,Y.Ok->S' args Y K->S args Y (Fin Y K)):Sim P f S':=
 Sim.lt (Sim.weak h λargs Y K ⟨hlt,hk⟩=>hS args Y K hlt hk)
theorem Fin.plain {r:Value}(h:Ext Y Y1)(hlt:Y.Ok)(hr:Rn id Y.n r r)(hK:K r Y):Fin Y K r Y1:=
 ⟨id,Y,r,⟨Nat.le_refl _,λ_ _=>rfl,λ_ _ _ _ _ _ hne=>hne,λb x' hx'=> .inl ⟨hx',(h.2 b (hlt b x' hx')).trans hx'⟩,hr⟩,hK⟩
theorem Fin.all {r:Value}(hn:Y.n<=Y1.n)(h1:Y1.Ok)(hr:Rn id Y1.n r r)(hc: ∀b x,Y1.m b=C x->F2 (Rn id Y1.n) x.cells x.cells)(hK:K r Y1):Fin Y K r Y1:=
 ⟨id,Y1,r,⟨hn,λ_ _=>rfl,λ_ _ _ _ _ _ hne=>hne,λb x' hx'=> .inr ⟨h1 b x' hx',x',hx',rfl,id,by rw[List.take_length];exact hc b x' hx'⟩,hr⟩,hK⟩
theorem Fin.new1 {r r':Value}{b:Nat}{x x':Blk}(h:Ext Y Y1)(hlt:Y.Ok)(hb:Y.n<=b)(hx:Y1.m b=C x)(he:x'.es=x.es)(ho:x'.own=Za->x.own=Za)(hc:F2 (Rn (λi=>if i=Y.n then b else i) (Y.n+1)) x'.cells (x.cells.take x'.cells.length))
  (hr:Rn (λi=>if i=Y.n then b else i) (Y.n+1) r' r) (hK:K r' (Y.add x')):Fin Y K r Y1:=by
 refine⟨λi=>if i=Y.n then b else i,Y.add x',r',⟨Nat.le_succ _,λi hi=>zF (by omega),λi i' y y' hy hy' hne=> ?_,λi y hy=> ?_,hr⟩,hK⟩
 .have hold: ∀i y,(Y.add x').m i=C y->i≠Y.n->i<Y.n:=by
   intro i y hy hi;simp only[Hp.add,zF hi]at hy;exact hlt i y hy
  by_cases h1:i=Y.n
  .have h2:i'≠Y.n:=λe=>hne (h1.trans e.symm)
   have:=hold i' y' hy' h2;simp only[zE h1,zF h2];omega
  .have:=hold i y hy h1;by_cases h2:i'=Y.n
   .simp only[zF h1,zE h2];omega
   .simp only[zF h1,zF h2];exact hne
 .by_cases h1:i=Y.n
  .subst h1;simp only[Hp.add,zE trivial]at hy;injection hy with hy
   subst hy;exact .inr ⟨Nat.lt_succ_self _,x,by simp only[zE trivial];exact hx,he,ho,hc⟩
  .simp only[Hp.add,zF h1]at hy;exact .inl ⟨hy,(h.2 i (hlt i y hy)).trans hy⟩
end
section
variable {T:gz}
end
abbrev ga :=List Value->Hp->Value->Hp->Prop
def sp (S:ga):aX6:=λargs Y K=> ∃r Y',S args Y r Y'/\K r Y'
abbrev ct8 :=FuncId->ga
def sps (U:ct8):gz:=λf=>sp (U f)
def ci5 (P:Program)(U:ct8):Prop:= ∀f,Sim P f (sps U f)
def ct8.put (U:ct8)(f:FuncId)(S:ga):ct8:=λg=>if g=f then S else U g
def dt2 :ct8:=λ_ _ _ _ _=>False
theorem ci5.none (P:Program):ci5 P dt2:=λf B Z Y w args cargs K h=>by
 obtain⟨_,_,h,_⟩:=h;exact h.elim
theorem ci5.put {P:Program}{U:ct8}(h:ci5 P U){f:FuncId}{S:ga}(hS:Sim P f (sp S)):ci5 P (U.put f S):=by
 intro g;show Sim P g (sp (if g=f then S else U g));by_cases e:g=f
 .subst e;rw[zE rfl];exact hS
 .rw[zF e];exact h g
end
section
section
variable {T:gz} {Q:AExit->dn->Hp->Prop} {q:dn->Hp->Prop} {e:dn} {Y Y':Hp} {a b:AC} {k:Value->Hp->Prop} {v:Value} {K:Value->Hp->Prop}
theorem cc4 {d t:Nat}(h:t≠d):(e.put d v) t=e t:=zF h
def Hp.load (Y:Hp):Value->Option Value
 | .pointer (C ⟨b,o,O⟩)=>match Y.m b with
  |some x=>x.cells[o]?
  |none=>O
 |_=>O
def Hp.loadN (Y:Hp)(n:Nat):Value->Option Value
 | .pointer (C ⟨b,o,O⟩)=>match Y.m b with
  |some x=>(pm x o n).map λcs=> .agg cs.toArray
  |none=>O
 |_=>O
theorem run_load {x:Operand}:(AOp.load x).run e Y=(Y.load (e.ev x)).map λv=>(v,Y):=by
 simp only[AOp.run];generalize e.ev x=v;cases v<;>try rfl
 rename_i p;rcases p with _|⟨b,o,sp⟩
 .rfl
 .cases sp with
  |some s=>rfl
  |none=>
   simp only[Hp.load];cases Y.m b<;>rfl
def Hp.store (Y:Hp)(n:Nat)(a x:Value):Option Hp:=match a with
 | .pointer (C ⟨b,o,O⟩)=>if(cellsOf x).length=n then(match Y.m b with
  |some blk=>(vT blk o (cellsOf x)).map λy=>Y.set b (C y)
  |none=>O)else O
 |_=>O
theorem run_store {n:Nat}{x y:Operand}:(AOp.store n x y).run e Y=(Y.store n (e.ev x) (e.ev y)).map λY'=>(undef,Y'):=by
 simp only[AOp.run];generalize e.ev x=v;cases v<;>try rfl
 rename_i p;rcases p with _|⟨b,o,sp⟩
 .rfl
 .cases sp with
  |some s=>rfl
  |none=>
   simp only[Hp.store];by_cases h:(cellsOf (e.ev y)).length=n
   .simp only[h,if_true];cases Y.m b with
    |none=>rfl
    |some blk=>
     simp only;cases vT blk o (cellsOf (e.ev y))<;>rfl
   .simp only[h,if_false];rfl
end
end
section
def dg3 :gz:=λ_ _ _ _=>False
def gz.put (T:gz)(f:FuncId)(s:aX6):gz:=λg=>if g=f then s else T g
def bc9 (s:aX6):Prop:= ∀args Y (K K':Value->Hp->Prop),(∀r Y',K r Y'->K' r Y')->s args Y K->s args Y K'
structure Known (P:Program)(T:gz):Prop where
 mono:rO T
 sim: ∀f,Sim P f (T f)
theorem Known.none (P:Program):Known P dg3:=⟨λ_ _ _ _ _ _ h=>h,λf=>Sim.none P f⟩
theorem Known.put {P:Program}{T:gz}(h:Known P T){f:FuncId}{s:aX6}(hm:bc9 s)(hs:Sim P f s):Known P (T.put f s):=by
 constructor
 .intro g args Y K K' hk hg;simp only[gz.put]at hg⊢;split
  .rename_i he;rw[zE he]at hg;exact hm _ _ _ _ hk hg
  .rename_i he;rw[zF he]at hg;exact h.mono _ _ _ _ _ hk hg
 .intro g;show Sim P g (if g=f then s else T g);by_cases e:g=f
  .subst e;rw[zE rfl];exact hs
  .rw[zF e];exact h.sim g
theorem bc9.sp (S:ga):bc9 (sp S):=λ_ _ _ _ hk ⟨r,Y',h1,h2⟩=>⟨r,Y',h1,hk r Y' h2⟩
theorem bc9.wpF {T:gz}(hT:rO T)(a:AFn):bc9 (wpF T a):=by
 intro args Y K K' hk h;refine⟨h.1,ia hT _ _ _ (λx e s hx=> ?_) _ _ h.2⟩;cases x with
 |exit id=>exact hx
 |normal=>
  simp only at hx⊢;split at hx
  .exact hk _ _ hx
  .exact hx
 |ret=>
  simp only at hx⊢;split at hx
  .exact hk _ _ hx
  .exact hx
theorem Known.fn {P:Program}{T:gz}(h:Known P T){f:FuncId}{af:AFn}(ht:cr7 P f=C af):Sim P f (wpF T af):=cC9 ht h.mono h.sim
theorem Known.rel {P:Program}{T:gz}(hU:Known P T){f:FuncId}{af:AFn}{S:ga}(h:cr7 P f=C af)
  (hS: ∀args Y r Y',Y.Ok->S args Y r Y'->wpF T af args Y (Fin Y λr1 Y1=>r1=r/\Y1=Y')):Sim P f (sp S):=by
 refine Sim.fin (hU.fn h) λargs Y K hlt hk=> ?_
 obtain⟨r,Y',h1,h2⟩:=hk;refine bc9.wpF hU.mono af _ _ _ _ ?_ (hS args Y r Y' hlt h1);rintro r1 Y1 ⟨ν,s',r',hw,rfl,rfl⟩;exact⟨ν,s',r',hw,h2⟩
section
variable {T:gz} {Q:AExit->dn->Hp->Prop} {e:dn} {Y:Hp} {b:AC} {I:dn->Hp->Prop} {m:dn->Hp->Nat} {e0:dn} {Y0:Hp}
end
section
variable {k:IntKind} {a b:Int}
end
section
variable {a b c d:Value} {l:List Value}
end
section
variable {Y:Hp} {x y:Blk} {i b o:Nat} {z:Option Blk}
theorem set_set {z':Option Blk}:(Y.set b z).set b z'=Y.set b z':=by
 simp only[Hp.set,Hp.mk.injEq,and_true]
 funext i
 split<;>rfl
end
section
variable {e:dn} {Y:Hp} {rs:List ARes} {t n b o:Nat}
def two (v:Option Value)(vs:Option (List Value)):Option (List Value):=match v,vs with
 |some v,C vs=>C (v::vs)
 |_,_=>O
end
section
variable {T:gz} {e:dn} {Y:Hp} {k:Value->Hp->Prop} {q:dn->Hp->Prop}
def dg5 (n:Nat):Value->Option Value
 | .pointer (C ⟨b,o,O⟩)=>C (.pointer (C ⟨b,o+n,O⟩))
 |_=>O
def de4 (es:Nat)(k:Value->Hp->Prop)(Y:Hp):Value->Value->Prop
 | .slice (C ⟨b,o,O⟩) n _, .int _ j=>(0<=j/\j<n)/\k (.pointer (C ⟨b,o+j.toNat*es,O⟩)) Y
 |_,_=>False
def cD3 (ln es:Nat)(k:Value->Hp->Prop)(Y:Hp):Value->Value->Prop
 | .pointer (C ⟨b,o,O⟩), .int _ j=>(0<=j/\j<ln)/\k (.pointer (C ⟨b,o+j.toNat*es,O⟩)) Y
 |_,_=>False
def fieldV (fo n:Nat)(agg:Bool):Value->Option Value
 | .agg cs=>if agg=Za then C (.agg (cs.extract fo (fo+n)))else cs[fo]?
 |_=>O
end
section
variable {T:gz} {q:dn->Hp->Prop} {r:List SItem} {e:dn} {Y:Hp} {i:Nat} {d:Option Nat} {kp:Bool} {is:List Nat} {chk:List (Nat×(Hp->Prop))}
end
end
section
def e0 :dn:=λ_=>undef
section
variable {T:gz} {e:dn} {Y:Hp} {k:Value->Hp->Prop}
end
section
variable {Y:Hp} {x:Blk} {i b:Nat} {z:Option Blk}
end
end
section
open IntKind renaming bits -> bB, max -> bD, min -> cB, signed -> cD
open List renaming getElem?_eq_none -> aB, getElem?_eq_getElem -> dB
open Nat renaming lt_or_ge -> aD
open Option renaming map_some -> dD
open Go.RowKit (Below)
structure Row where
 c:Nat
 o:Nat
 ext:Nat
 es:Nat
 cells:List Value
def cH1 (P:Program)(w:World):Prop:=P.globalNamed "internal/strconv.uint64pow10" ≠O->Lib.TabIs P w "internal/strconv.uint64pow10" .u64 Lib.pow10Tab
def Base.of {P:Program}(w:World)(hT:cH1 P w):Base P:=⟨w.heap.size,λb=>w.heap[b]?,λw' _ hh hne=>by
 have h:=hT hne;unfold Lib.TabIs World.var? at h⊢;cases hg:P.globalNamed "internal/strconv.uint64pow10" with
 |none=>exact(hne hg).elim
 |some g=>
  simp only[hg,zG]at h⊢
  have hlt:g<w.heap.size:=by
   rcases aD g w.heap.size with h'|h'
   .exact h'
   .rw[Array.getElem?_eq_none h']at h;cases h
  rw[hh g hlt]
  exact h⟩
def mZ (rows:List Row):Mu:=λi=>(rows[i]?).map λr=>⟨r.c,r.o,r.ext,r.es,0,O⟩
def mD (size:Nat)(rows:List Row):Hp:={m:=λi=>(rows[i]?).bind λr=>if r.c<size then C ⟨r.cells,Zb,r.es⟩else O,n:=rows.length}
theorem dt8 {P:Program}{w:World}(hT:cH1 P w){rows:List Row}(h: ∀r∈rows,∀(i:Nat) (v:Value),r.cells[i]?=C v->∃v',w.cell? ⟨r.c,r.o+i,O⟩=C v'/\VR (mZ rows) v v'):
  R (Base.of w hT) (mZ rows) (mD w.heap.size rows) w:=by
 refine⟨Nat.le_refl _,λ_ _=>rfl,λb hb=> ?_,λb x hx=> ?_,λb b' x x' g g' hx _ _ ho=> ?_,λb x g _ hg hi _ _=>(by
  simp only[mZ]at hg;cases hr:rows[b]? with
  |none=>rw[hr]at hg;cases hg
  |some r=>rw[hr]at hg;injection hg with hg;subst hg;cases hi)⟩
 .simp only[mZ,aB hb,Option.map_none]
 .simp only[mD]at hx;cases hr:rows[b]? with
  |none=>rw[hr]at hx;cases hx
  |some r=>
   rw[hr,zG]at hx;split at hx
   .rename_i hlt;injection hx with hx
    subst hx;refine⟨⟨r.c,r.o,r.ext,r.es,0,O⟩,by simp only[mZ,hr,dD],hlt,rfl,λ_ i v hv=>h r (List.mem_of_getElem? hr) i v hv,λ_ ho=>(by cases ho),λ_ hs=>(by cases hs),λhs=>by cases hs⟩
   .cases hx
 .simp only[mD]at hx;cases hr:rows[b]? with
  |none=>rw[hr]at hx;cases hx
  |some r=>
   rw[hr,zG]at hx;split at hx
   .injection hx with hx
    subst hx;cases ho
   .cases hx
theorem di4 {size:Nat}{rows:List Row}:(mD size rows).Ok:=by
 intro b x hx;rcases aD b rows.length with h|h
 .exact h
 .simp only[mD,aB h,Option.bind_none]at hx;cases hx
theorem ds6 {P:Program}{f:FuncId}{S:aX6}(hs:Sim P f S){w:World}(hT:cH1 P w){rows:List Row}{args:List Value}{cargs:Array Value}
  (hrows: ∀r∈rows,∀(i:Nat) (v:Value),r.cells[i]?=C v->∃v',w.cell? ⟨r.c,r.o+i,O⟩=C v'/\VR (mZ rows) v v')
  (hargs:F2 (VR (mZ rows)) args cargs.toList) (h:S args (mD w.heap.size rows) λr _=>r= .bool Za):
  Calls P f cargs w λe w'=>e= .returned (.bool Za)/\Below w.heap.size w w':=by
 refine(hs _ _ _ w args cargs _ h (dt8 hT hrows) hargs).2.mono λx w' hx=> ?_
 obtain⟨r,Y',r',Z',rfl,rfl,_,_,hr,hb,_⟩:=hx;cases hr;exact⟨rfl,hb⟩
def Sl (k:IntKind)(Y:Hp)(v:Value)(l:Zd):Prop:=
 (v= .slice O 0 0/\l=[])∨∃b c rest,v= .slice (C ⟨b,0,O⟩) l.length c/\l.length<=c/\c<=maxLen/\b<Y.n/\(l≠[]->Y.m b=C ⟨(l++rest).map (.int k),Zb,1⟩)
def bc8 (k:IntKind)(w:World)(a:Option Addr)(len cap:Nat)(zs:Zd):Prop:=
 (a=O/\len=0/\cap=0/\zs=[])∨
 ∃x,a=C x/\len<=cap/\cap<=maxLen/\zs.length=cap/\(∀i,i<zs.length->w.cell? (x.add i)=C (.int k (zs.getD i 0)))/\∀n∈zs,(Lit.int k n).wf=Za
def aV2 (k:IntKind)(a:Option Addr)(cap:Nat)(zs:Zd):Row:=match a with
 |some x=>⟨x.block,x.off,cap,1,zs.map (.int k)⟩
 |none=>⟨0,0,0,1,[]⟩
def cY1 (k:Nat)(a:Option Addr)(len cap:Nat):Value:=match a with
 |some _=> .slice (C ⟨k,0,O⟩) len cap
 |none=> .slice O 0 0
section
variable {k:IntKind} {w:World} {a:Option Addr} {len cap:Nat} {zs:Zd} {rows:List Row} {j:Nat}
theorem bZ2 {x:Addr}{v:Value}(h:w.cell? x=C v):x.block<w.heap.size:=by
 unfold World.cell? at h;split at h
 .rename_i hb;exact(Array.getElem?_eq_some_iff.1 hb).1
 .cases h
theorem aE4 {x:Addr}{v:Value}(h:w.cell? (x.add 0)=C v):x.spot=O:=by
 have:=World.cell?_spot h;simpa[Addr.add]using this
theorem ym {x:Addr}{i:Nat}{v:Value}(hs:x.spot=O)(h:w.cell? (x.add i)=C v):w.cell? ⟨x.block,x.off+i,O⟩=C v:=by
 obtain⟨b,o,s⟩:=x;simp only at hs;subst hs
 have:(⟨b,o,O⟩:Addr).add i=⟨b,o+i,O⟩:=by
  simp only[Addr.add];split
  .rename_i h0;subst h0;rfl
  .rfl
 rwa [this]at h
theorem bc8.cells (h:bc8 k w a len cap zs){i:Nat}{v:Value}(hv:(aV2 k a cap zs).cells[i]?=C v):
  ∃v',w.cell? ⟨(aV2 k a cap zs).c,(aV2 k a cap zs).o+i,O⟩=C v'/\VR (mZ rows) v v':=by
 rcases h with⟨rfl,rfl,rfl,rfl⟩|⟨x,rfl,hl,hm,hz,hc,hw⟩
 .simp[aV2]at hv
 .simp only[aV2]at hv⊢;simp only[List.getElem?_map]at hv
  have hi:i<zs.length:=by
   rcases aD i zs.length with h|h
   .exact h
   .rw[aB h]at hv;cases hv
  rw[dB hi,dD]at hv;injection hv with hv
  subst hv;refine⟨_,ym (aE4 (hc 0 (by omega))) (hc i hi), ?_⟩;have:zs.getD i 0=zs[i]:=by simp[List.getD,dB hi]
  rw[this];exact .int _ _
theorem bc8.sl (h:bc8 k w a len cap zs)(hr:rows[j]?=C (aV2 k a cap zs)):Sl k (mD w.heap.size rows) (cY1 j a len cap) (zs.take len):=by
 rcases h with⟨rfl,rfl,rfl,rfl⟩|⟨x,rfl,hl,hm,hz,hc,hw⟩
 .exact .inl ⟨rfl,by simp⟩
 .have hlen:(zs.take len).length=len:=by rw[List.length_take];omega
  refine .inr ⟨j,cap,zs.drop len,by rw[hlen];rfl,by omega,hm, ?_,λhne=> ?_⟩
  .rcases aD j rows.length with h|h
   .exact h
   .rw[aB h]at hr;cases hr
  .have hz0:0<zs.length:=by
    rcases Nat.eq_zero_or_pos zs.length with h|h
    .rw[List.length_eq_zero_iff]at h;subst h;simp at hne
    .exact h
   have hlt:x.block<w.heap.size:=bZ2 (x:=⟨x.block,x.off+0,O⟩) (ym (aE4 (hc 0 hz0)) (hc 0 hz0));simp only[mD,hr,zG,aV2,zE hlt,List.take_append_drop]
theorem bc8.wf (h:bc8 k w a len cap zs): ∀n∈zs.take len,(Lit.int k n).wf=Za:=by
 rcases h with⟨rfl,rfl,rfl,rfl⟩|⟨x,rfl,hl,hm,hz,hc,hw⟩
 .simp
 .exact λn hn=>hw n (List.mem_of_mem_take hn)
end
theorem du8 {n:Int}(h:(Lit.int .i64 n).wf=Za): -9223372036854775808<=n/\n<=9223372036854775807:=by
 simpa[Lit.wf,cB,bD,cD,bB]using h
theorem du9 {n:Int}(h:(Lit.int .u64 n).wf=Za):0<=n/\n<=18446744073709551615:=by
 simpa[Lit.wf,cB,bD,cD,bB]using h
theorem dC8 {n:Int}(h:(Lit.int .u8 n).wf=Za):0<=n/\n<=255:=by
 simpa[Lit.wf,cB,bD,cD,bB]using h
end
end Go.Ab
