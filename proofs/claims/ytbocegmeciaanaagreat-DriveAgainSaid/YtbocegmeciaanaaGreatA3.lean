/- A part of the proofs of this claim: what functions of the program answer on an abstract machine, and plain laws. No condition. -/
import Derived.Test.YtbocegmeciaanaaGreatA2
import Derived.IntWalk
import Derived.Below
set_option linter.unusedVariables false
set_option linter.unusedSimpArgs false
set_option linter.unusedSectionVars false
namespace Go.Ab
section
open List renaming mapM_cons → bD, getElem?_eq_getElem → cB
open Result renaming andThen_ok → aB
open Sem renaming run_bind → aD, run_pure → bB
open Go.RowKit
def bk7 (P:Program):List ResultVar→Option (List ARes)
 |[]=>some []
 | .tmp t::r=>(bk7 P r).map (.tmp t:: ·)
 | .cell a t::r=>match ye P t,lM P t,bk7 P r with
  |some true,some n,some r=>some (.cellN a n::r)
  |some false,some _,some r=>some (.cell a::r)
  |_,_,_=>none
def bW1 (P:Program)(f:FuncId):Option AFn:=match P.funcs[f]? with
 |some fn=>match fn.body,bZ9 P f with
  |some c,true=>match mH P fn.ntmps c,bk7 P fn.results.toList with
   |some ac,some rs=>some ⟨fn.ntmps,rs,ac⟩
   |_,_=>none
  |_,_=>none
 |none=>none
section
variable {P:Program} {T:ig} {B:Base P} {N:Nat} {μ:Mu} {σ:Hp} {w:World} {e:dh}
def bT7 (tmps:Array Value):ResultVar→Sem Value
 | .tmp t=>pure (tmps.getD t undef)
 | .cell a t=>do loadVar t (←asAddr (tmps.getD a undef))
theorem cd7 (fn:Func)(tmps:Array Value):results fn tmps=(do
  let vs←fn.results.mapM (bT7 tmps)
  pure (if h:vs.size=1 then vs[0]else .tuple vs)):=rfl
theorem bI5 {tmps:Array Value}(he:gh μ N e tmps)(hR:R B μ σ w): ∀(l:List ResultVar) (rs:List ARes) (vs:List Value),bk7 P l=some rs→aO4 e σ rs=some vs→
  ∃vs',(l.mapM (bT7 tmps)).run P w= .ok vs' w∧F2 (VR μ) vs vs'
 |[],rs,vs,h,hr=>by
  simp[bk7]at h;subst h;simp[aO4]at hr;subst hr;exact⟨[],by simp, .nil⟩
 | .tmp t::l,rs,vs,h,hr=>by
  simp only[bk7]at h;obtain⟨rs',h1,h⟩:=Option.map_eq_some_iff.1 h;subst h;simp only[aO4]at hr;split at hr
  ·rename_i v vs1 h2 h3;injection hr with hr
   subst hr;simp[bi5]at h2;subst h2;obtain⟨vs',h4,h5⟩:=bI5 he hR l rs' vs1 h1 h3;refine⟨tmps.getD t undef::vs', ?_, .cons (he.2 t) h5⟩;have hF:(bT7 tmps (.tmp t)).run P w= .ok (tmps.getD t undef) w:=rfl;simp only[bD,aD,bB,aB,hF,h4]
  ·cases hr
 | .cell a t::l,rs,vs,h,hr=>by
  simp only[bk7]at h;have hv:=he.2 a;split at h
  ·rename_i n rs' h1 h2 h3;injection h with h
   subst h;simp only[aO4]at hr;split at hr
   ·rename_i v vs1 h4 h5;injection hr with hr
    subst hr;obtain⟨vs',h6,h7⟩:=bI5 he hR l rs' vs1 h3 h5;simp only[bi5]at h4;split at h4
    ·rename_i b o hb;rw[hb]at hv;obtain⟨g,hg,hq⟩:=hv.ptr_inv;obtain⟨x,hx,h4⟩:=Option.bind_eq_some_iff.1 h4;obtain⟨cs,hcs,rfl⟩:=Option.map_eq_some_iff.1 h4;obtain⟨cs',k1,k2⟩:=hR.reads hx hg hcs;refine⟨.agg cs'.toArray::vs', ?_, .cons (.agg k2) h7⟩
     have hF:(bT7 tmps (.cell a t)).run P w= .ok (.agg cs'.toArray) w:=by
      simp only[bT7,aD,hq,asAddr,bB,aB,loadVar,au9 h1,if_true,mG h2,k1 P w rfl]
     simp only[bD,aD,bB,aB,hF,h6]
    ·cases h4
   ·cases hr
  ·rename_i n rs' h1 h2 h3;injection h with h
   subst h;simp only[aO4]at hr;split at hr
   ·rename_i v vs1 h4 h5;injection hr with hr
    subst hr;obtain⟨vs',h6,h7⟩:=bI5 he hR l rs' vs1 h3 h5;simp only[bi5]at h4;split at h4
    ·rename_i b o hb;rw[hb]at hv;obtain⟨g,hg,hq⟩:=hv.ptr_inv;obtain⟨x,hx,h4⟩:=Option.bind_eq_some_iff.1 h4;obtain⟨v',k1,k2⟩:=(hR.get hx hg.1).cell hg.2 o v h4;refine⟨v'::vs', ?_, .cons k2 h7⟩
     have hF:(bT7 tmps (.cell a t)).run P w= .ok v' w:=by
      simp only[bT7,aD,hq,asAddr,bB,aB,loadVar,au9 h1,Bool.false_eq_true,if_false,run_load,k1]
     simp only[bD,aD,bB,aB,hF,h6]
    ·cases h4
   ·cases hr
  ·cases h
theorem cg9 {f:FuncId}{af:AFn}(h:bW1 P f=some af)(hM:rf T)(hT: ∀g,Sim P g (T g)):Sim P f (wpF T af):=by
 unfold bW1 at h;split at h
 ·rename_i fn hfn;split at h
  ·rename_i c hb hen;split at h
   ·rename_i ac rs h1 h2;injection h with h
    subst h;intro B μ σ w args cargs K hw hR ha;obtain⟨hlen,hw⟩:=hw
    have hcall:bw5 P f:=by
     unfold bZ9 at hen;rw[hfn]at hen;simp only[Bool.and_eq_true,Bool.not_eq_true']at hen;exact⟨fn,hfn,hen.1,hen.2⟩
    refine⟨hcall,calls_of_wp hfn hb ?_⟩;have hsz:cargs.size=args.length:=by simpa using ha.length.symm
    have henv:gh μ fn.ntmps (dh.of args) (cargs++Array.replicate (fn.ntmps-cargs.size) undef):=by
     refine⟨by simp only[Array.size_append,Array.size_replicate];simp only at hlen;omega,fun t=> ?_⟩;unfold dh.of;by_cases ht:t<args.length
     ·obtain⟨v',h3,h4⟩:=ha.get t args[t] (cB ht)
      have:(cargs++Array.replicate (fn.ntmps-cargs.size) undef).getD t undef=v':=by
       simp only[Array.getD_eq_getD_getElem?];rw[Array.getElem?_append_left (by omega)];have:cargs[t]?=some v':=by simpa using h3
       simp[this]
      rw[this,cB ht];exact h4
     ·have:(cargs++Array.replicate (fn.ntmps-cargs.size) undef).getD t undef=undef:=by
       simp only[Array.getD_eq_getD_getElem?];rw[Array.getElem?_append_right (by omega),Array.getElem?_replicate];split<;>rfl
      rw[this,List.getElem?_eq_none (by omega)];exact VR.undef μ
    refine wp_mono (cG8 hM hT c ac h1 _ _ σ μ ⟨_,[]⟩ w hw hR henv rfl) fun x a' w' hx=> ?_
    obtain⟨ax,e',σ',μ',hxr,hq,g1,g2,g3,g4,g5⟩:=hx
    have fin:(match aO4 e' σ' rs with
      |some vs=>K (yk vs) σ'
      |none=>False)→a'.defers=[]∧∃v,(results fn a'.tmps).run P w'= .ok v w'∧db6 P B μ w K (.returned v) w':=by
     intro hq;refine⟨g4, ?_⟩;split at hq
     ·rename_i vs hvs;obtain⟨vs',k1,k2⟩:=bI5 (P:=P) g3 g2 fn.results.toList rs vs h2 hvs;have hl:=k2.length;refine⟨yk vs', ?_,_,σ',_,μ',rfl,hq,g1,g2, ?_,g5,rfl⟩
      ·rw[cd7,Array.mapM_eq_mapM_toList];simp only[aD,Sem.run_map,k1,aB,bB]
       congr 1
       match vs',hl with
       |[],_=>rfl
       |[v],_=>rfl
       |v::u::r,_=>simp[yk]
      ·match vs,vs',k2 with
       |[],_, .nil=>exact .tuple .nil
       |[v],_, .cons h .nil=>exact h
       |v::u::r,_, .cons h (.cons h' t)=>exact .tuple (.cons h (.cons h' t))
     ·exact hq.elim
    cases ax with
    |normal=>
     cases x<;>simp[vR]at hxr;exact fin hq
    |exit id=>exact hq.elim
    |ret=>
     cases x<;>simp[vR]at hxr;exact fin hq
   ·cases h
  ·cases h
 ·cases h
theorem Sim.none (P:Program)(f:FuncId):Sim P f fun _ _ _=>False:=fun _ _ _ _ _ _ _ h=>h.elim
theorem Sim.of {f:FuncId}{S S':aL3}(h:Sim P f S)(hS: ∀args σ K,S' args σ K→S args σ K):Sim P f S':=
 fun B μ σ w args cargs K hk=>h B μ σ w args cargs K (hS args σ K hk)
end
inductive Rn (ν:Nat→Nat)(n:Nat):Value→Value→Prop where
 |bool (b:Bool):Rn ν n (.bool b) (.bool b)
 |int (k:IntKind) (m:Int):Rn ν n (.int k m) (.int k m)
 |string (s:ByteArray):Rn ν n (.string s) (.string s)
 |nilp:Rn ν n (.pointer none) (.pointer none)
 |ptr {b o:Nat}:b<n→Rn ν n (.pointer (some ⟨b,o,none⟩)) (.pointer (some ⟨ν b,o,none⟩))
 |nils:Rn ν n (.slice none 0 0) (.slice none 0 0)
 |slice {b o l c:Nat}:b<n→Rn ν n (.slice (some ⟨b,o,none⟩) l c) (.slice (some ⟨ν b,o,none⟩) l c)
 |nilf:Rn ν n .nilFunc .nilFunc
 |func {f:Fn} {a a' c c':Array Value}:F2 (Rn ν n) a.toList a'.toList→F2 (Rn ν n) c.toList c'.toList→Rn ν n (.func f a c) (.func f a' c')
 |nili:Rn ν n .nilIface .nilIface
 |agg {a a':Array Value}:F2 (Rn ν n) a.toList a'.toList→Rn ν n (.agg a) (.agg a')
 |tuple {a a':Array Value}:F2 (Rn ν n) a.toList a'.toList→Rn ν n (.tuple a) (.tuple a')
theorem Rn.vr {ν:Nat→Nat}{n:Nat}{μ1 μ':Mu}(hμ: ∀b,b<n→μ' b=μ1 (ν b)): ∀{v u:Value},Rn ν n v u→∀{u':Value},VR μ1 u u'→VR μ' v u'
 |_,_, .bool b,_,h=>by cases h;exact .bool b
 |_,_, .int k m,_,h=>by cases h;exact .int k m
 |_,_, .string s,_,h=>by cases h;exact .string s
 |_,_, .nilp,_,h=>by cases h;exact .nilp
 |_,_, .ptr hb,_,h=>by cases h with|ptr h1=>exact .ptr ⟨(hμ _ hb).trans h1.1,h1.2⟩
 |_,_, .nils,_,h=>by cases h;exact .nils
 |_,_, .slice hb,_,h=>by cases h with
  |slice h1 h2 h3 h4=>exact .slice ⟨(hμ _ hb).trans h1.1,h1.2⟩ h2 h3 h4
  |slice0 A' h1=>exact .slice0 _ ⟨(hμ _ hb).trans h1.1,h1.2⟩
 |_,_, .nilf,_,h=>by cases h;exact .nilf
 |_,_, .func h1 h2,_,h=>by cases h with|func k1 k2=>exact .func (go h1 k1) (go h2 k2)
 |_,_, .nili,_,h=>by cases h;exact .nili
 |_,_, .agg h1,_,h=>by cases h with|agg k1=>exact .agg (go h1 k1)
 |_,_, .tuple h1,_,h=>by cases h with|tuple k1=>exact .tuple (go h1 k1)
where
 go {l m:List Value}:F2 (Rn ν n) l m→∀{m':List Value},F2 (VR μ1) m m'→F2 (VR μ') l m'
 | .nil,_,h=>by cases h;exact .nil
 | .cons h1 t1,_,h=>by cases h with|cons k1 k2=>exact .cons (Rn.vr hμ h1 k1) (go t1 k2)
theorem VR.narrow {μ μ1 μ':Mu}(hμ: ∀b g g1,μ b=some g→μ1 b=some g1→μ' b=some g1): ∀{v u:Value},VR μ v u→∀{u':Value},VR μ1 v u'→VR μ' v u'
 |_,_, .bool b,_,h=>by cases h;exact .bool b
 |_,_, .int k m,_,h=>by cases h;exact .int k m
 |_,_, .string s,_,h=>by cases h;exact .string s
 |_,_, .nilp,_,h=>by cases h;exact .nilp
 |_,_, .ptr hb,_,h=>by cases h with|ptr h1=>exact .ptr ⟨hμ _ _ _ hb.1 h1.1,h1.2⟩
 |_,_, .nils,_,h=>by cases h;exact .nils
 |_,_, .slice hb _ _ _,_,h=>by cases h with
  |slice h1 h2 h3 h4=>exact .slice ⟨hμ _ _ _ hb.1 h1.1,h1.2⟩ h2 h3 h4
  |slice0 A' h1=>exact .slice0 _ ⟨hμ _ _ _ hb.1 h1.1,h1.2⟩
 |_,_, .slice0 A' hb,_,h=>by cases h with
  |slice h1 h2 h3 h4=>exact .slice ⟨hμ _ _ _ hb.1 h1.1,h1.2⟩ h2 h3 h4
  |slice0 A' h1=>exact .slice0 _ ⟨hμ _ _ _ hb.1 h1.1,h1.2⟩
 |_,_, .sliceX hb _,_,h=>by cases h with
  |sliceX h1 h2=>exact .sliceX ⟨hμ _ _ _ hb.1 h1.1,h1.2⟩ h2
  |sliceX0 A' h1=>exact .sliceX0 _ ⟨hμ _ _ _ hb.1 h1.1,h1.2⟩
 |_,_, .sliceX0 A' hb,_,h=>by cases h with
  |sliceX h1 h2=>exact .sliceX ⟨hμ _ _ _ hb.1 h1.1,h1.2⟩ h2
  |sliceX0 A' h1=>exact .sliceX0 _ ⟨hμ _ _ _ hb.1 h1.1,h1.2⟩
 |_,_, .nilf,_,h=>by cases h;exact .nilf
 |_,_, .func h1 h2,_,h=>by cases h with|func k1 k2=>exact .func (go h1 k1) (go h2 k2)
 |_,_, .iter hb _,_,h=>by cases h with|iter k1 k2=>exact .iter (hμ _ _ _ hb k1) k2
 |_,_, .nili,_,h=>by cases h;exact .nili
 |_,_, .agg h1,_,h=>by cases h with|agg k1=>exact .agg (go h1 k1)
 |_,_, .tuple h1,_,h=>by cases h with|tuple k1=>exact .tuple (go h1 k1)
where
 go {l m:List Value}:F2 (VR μ) l m→∀{m':List Value},F2 (VR μ1) l m'→F2 (VR μ') l m'
 | .nil,_,h=>by cases h;exact .nil
 | .cons h1 t1,_,h=>by cases h with|cons k1 k2=>exact .cons (VR.narrow hμ h1 k1) (go t1 k2)
end
section
open Nat renaming lt_or_ge → aB, lt_of_lt_of_le → aD
open Go.RowKit
structure Weak (σ0 σ1:Hp)(r:Value)(σ':Hp)(r':Value)(ν:Nat→Nat):Prop where
 n:σ0.n≤σ'.n
 old: ∀b,b<σ0.n→ν b=b
 inj: ∀b b' x x',σ'.m b=some x→σ'.m b'=some x'→b≠b'→ν b≠ν b'
 blk: ∀b x',σ'.m b=some x'→(σ0.m b=some x'∧σ1.m b=some x')∨
  (b<σ'.n∧∃x,σ1.m (ν b)=some x∧x'.es=x.es∧(x'.own=true→x.own=true)∧F2 (Rn ν σ'.n) x'.cells (x.cells.take x'.cells.length))
 res:Rn ν σ'.n r' r
section
variable {P:Program} {f:FuncId} {S S':aL3}
theorem R.weak {P:Program}{B:Base P}{μ μ1:Mu}{σ σ1 σ':Hp}{w w':World}{r r':Value}{ν:Nat→Nat}(hR:R B μ σ w)(hR1:R B μ1 σ1 w')(hμ:μ.le μ1)(h:Weak σ σ1 r σ' r' ν):
  ∃μ',μ.le μ'∧R B μ' σ' w'∧∀rc,VR μ1 r rc→VR μ' r' rc:=by
 have hdom: ∀b g,μ b=some g→b<σ.n:=fun b g hb=>by
  rcases aB b σ.n with h1|h1
  ·exact h1
  ·rw[hR.fresh b h1]at hb;cases hb
 have hin: ∀b,b<σ'.n→(fun b=>if b<σ'.n then μ1 (ν b)else none) b=μ1 (ν b):=fun b hb=>zE hb
 have hlt0: ∀b x,σ.m b=some x→b<σ.n:=fun b x hx=>by
  obtain⟨g,hg,_⟩:=hR.live b x hx;exact hdom b g hg
 have hnar: ∀b g g1,μ b=some g→μ1 b=some g1→(fun b=>if b<σ'.n then μ1 (ν b)else none) b=some g1:=by
  intro b g g1 hb hb1;have h1:=hdom b g hb;rw[hin b (aD h1 h.n),h.old b h1];exact hb1
 refine⟨fun b=>if b<σ'.n then μ1 (ν b)else none,fun b g hb=> ?_,⟨hR1.base,hR1.old,fun b hb=>zF (by omega),fun b x' hx'=> ?_,fun b b' x x' g g' hx hx' hne ho hg hg'=> ?_, ?_⟩,fun rc hrc=>h.res.vr hin hrc⟩
 ·exact hnar b g g hb (hμ b g hb)
 ·rcases h.blk b x' hx' with⟨h1,h2⟩|⟨h1,x,h2,h3,h4,h5⟩
  ·obtain⟨g,hg,hl⟩:=hR1.live b x' h2;obtain⟨g0,hg0,hl0⟩:=hR.live b x' h1;have hgg:g=g0:=by have:=hμ b g0 hg0;rw[hg]at this;exact Option.some.inj this
   refine⟨g,hnar b g0 g hg0 hg,hl.lt,hl.es,fun h0 i v hv=> ?_,hl.own,hl.iter,hl.bld⟩;obtain⟨u,hu,hvu⟩:=hl.cell h0 i v hv;obtain⟨u0,_,hvu0⟩:=hl0.cell (hgg▸h0) i v hv;exact⟨u,hu,hvu0.narrow hnar hvu⟩
  ·obtain⟨g,hg,hl⟩:=hR1.live (ν b) x h2
   have hlen:x'.cells.length≤x.cells.length:=by
    have:=h5.length;rw[List.length_take]at this;omega
   refine⟨g,by simp only[zE h1];exact hg,hl.lt,hl.es.trans h3.symm,fun h0 i v hv=> ?_,fun h0 ho=> ?_,fun s hs=> ?_,fun hs=> ?_⟩
   ·obtain⟨u,hu,hvu⟩:=h5.get i v hv
    have hi:i<x'.cells.length:=by
     rcases aB i x'.cells.length with h6|h6
     ·exact h6
     ·rw[List.getElem?_eq_none h6]at hv;cases hv
    rw[List.getElem?_take,zE hi]at hu;obtain⟨u',hu',huu⟩:=hl.cell h0 i u hu;exact⟨u',hu',hvu.vr hin huu⟩
   ·obtain⟨k1,k2,k3⟩:=hl.own h0 (h4 ho);exact⟨k1,by omega,k3⟩
   ·obtain⟨k1,p,k2,k3⟩:=hl.iter s hs;refine⟨k1,p, ?_,k3⟩;rw[k2]at h5;have hl5:=h5.length;cases hx':x'.cells with
    |nil=>rfl
    |cons v r=>
     rw[hx']at h5 hl5;cases hc:x.cells.length with
     |zero=>rw[hc]at h5;simp at h5;cases h5
     |succ n=>
      rw[hc]at h5;simp at h5;cases h5 with
      |cons h6 h7=>
       cases h7;cases h6;simp
   ·obtain⟨k1,p,s,k0,k2,k3⟩:=hl.bld hs;refine⟨k1,p,s,k0, ?_,k3⟩;rw[k2]at h5;have hl5:=h5.length;cases hx':x'.cells with
    |nil=>rfl
    |cons v r=>
     rw[hx']at h5 hl5;cases hc:x.cells.length with
     |zero=>rw[hc]at h5;simp at h5;cases h5
     |succ n=>
      rw[hc]at h5;simp at h5;cases h5 with
      |cons h6 h7=>
       cases h7;cases h6;simp
 ·have key: ∀b x,σ'.m b=some x→∃y,σ1.m (ν b)=some y∧(x.own=true→y.own=true)∧b<σ'.n:=by
   intro b x hx;rcases h.blk b x hx with⟨h1,h2⟩|⟨h1,y,h2,_,h4,_⟩
   ·have hb:=hlt0 b x h1;exact⟨x,by rw[h.old b hb];exact h2,id,aD hb h.n⟩
   ·exact⟨y,h2,h4,h1⟩
  obtain⟨y,hy,hyo,hb⟩:=key b x hx;obtain⟨y',hy',_,hb'⟩:=key b' x' hx';simp only[zE hb]at hg;simp only[zE hb']at hg';exact hR1.inj (ν b) (ν b') y y' g g' hy hy' (h.inj b b' x x' hx hx' hne) (hyo ho) hg hg'
 ·have key: ∀b x g,σ'.m b=some x→(fun b=>if b<σ'.n then μ1 (ν b)else none) b=some g→∃y,σ1.m (ν b)=some y∧μ1 (ν b)=some g:=by
   intro b x g hx hg
   have hb:b<σ'.n:=by
    rcases aB b σ'.n with h|h
    ·exact h
    ·simp only[zF (show¬b<σ'.n by omega)]at hg;cases hg
   simp only[zE hb]at hg;rcases h.blk b x hx with⟨h1,h2⟩|⟨_,y,h2,_⟩
   ·exact⟨x,by rw[h.old b (hlt0 b x h1)];exact h2,hg⟩
   ·exact⟨y,h2,hg⟩
  intro b x g hx hg hi k hk b' x' g' hx' hg';obtain⟨y,h1,h2⟩:=key b x g hx hg;obtain⟨y',h3,h4⟩:=key b' x' g' hx' hg';obtain⟨m1,m2⟩:=hR1.sep (ν b) y g h1 h2 hi k hk (ν b') y' g' h3 h4;exact⟨m1,fun hne=>m2 (h.inj b' b x' x hx' hx hne)⟩
theorem Sim.weak (h:Sim P f S)(hS: ∀args σ K,S' args σ K→S args σ fun r1 σ1=> ∃ν σ' r',Weak σ σ1 r1 σ' r' ν∧K r' σ'):Sim P f S':=by
 intro B μ σ w args cargs K hk hR ha;obtain⟨hc,hcalls⟩:=h B μ σ w args cargs _ (hS args σ K hk) hR ha;refine⟨hc,hcalls.mono fun x w' hx=> ?_⟩;obtain⟨r1,σ1,rc,μ1,rfl,⟨ν,σ',r',hw,hK⟩,h1,h2,h3,h4,_⟩:=hx;obtain⟨μ',k1,k2,k3⟩:=hR.weak h2 h1 hw;exact⟨r',σ',rc,μ',rfl,hK,k1,k2,k3 rc h3,h4,rfl⟩
end
def Ext (σ σ1:Hp):Prop:=σ.n≤σ1.n∧∀b,b<σ.n→σ1.m b=σ.m b
theorem Ext.refl (σ:Hp):Ext σ σ:=⟨Nat.le_refl _,fun _ _=>rfl⟩
theorem Ext.trans {a b c:Hp}(h:Ext a b)(k:Ext b c):Ext a c:=⟨Nat.le_trans h.1 k.1,fun x hx=>(k.2 x (aD hx h.1)).trans (h.2 x hx)⟩
theorem Ext.add {σ σ1:Hp}(h:Ext σ σ1)(x:Blk):Ext σ (σ1.add x):=by
 refine⟨Nat.le_succ_of_le h.1,fun b hb=> ?_⟩;have:b≠σ1.n:=by have:=h.1;omega
 simp only[Hp.add,zF this];exact h.2 b hb
theorem Ext.set {σ σ1:Hp}(h:Ext σ σ1){b:Nat}(hb:σ.n≤b)(x:Option Blk):Ext σ (σ1.set b x):=by
 refine⟨h.1,fun b' hb'=> ?_⟩;have:b'≠b:=by omega
 simp only[Hp.set,zF this];exact h.2 b' hb'
def Hp.Ok (σ:Hp):Prop:= ∀b x,σ.m b=some x→b<σ.n
def Fin (σ:Hp)(K:Value→Hp→Prop)(r1:Value)(σ1:Hp):Prop:= ∃ν σ' r',Weak σ σ1 r1 σ' r' ν∧K r' σ'
section
variable {P:Program} {f:FuncId} {S S':aL3} {σ σ1:Hp} {K:Value→Hp→Prop}
theorem Sim.lt (h:Sim P f fun args σ K=>σ.Ok∧S args σ K):Sim P f S:=by
 intro B μ σ w args cargs K hk hR ha;refine h B μ σ w args cargs K ⟨fun b x hx=> ?_,hk⟩ hR ha;obtain⟨g,hg,_⟩:=hR.live b x hx;rcases aB b σ.n with h1|h1
 ·exact h1
 ·rw[hR.fresh b h1]at hg;cases hg
theorem Sim.fin (h:Sim P f S)(hS: ∀args σ K,σ.Ok→S' args σ K→S args σ (Fin σ K)):Sim P f S':=
 Sim.lt (Sim.weak h fun args σ K ⟨hlt,hk⟩=>hS args σ K hlt hk)
theorem Fin.plain {r:Value}(h:Ext σ σ1)(hlt:σ.Ok)(hr:Rn id σ.n r r)(hK:K r σ):Fin σ K r σ1:=
 ⟨id,σ,r,⟨Nat.le_refl _,fun _ _=>rfl,fun _ _ _ _ _ _ hne=>hne,fun b x' hx'=> .inl ⟨hx',(h.2 b (hlt b x' hx')).trans hx'⟩,hr⟩,hK⟩
theorem Fin.all {r:Value}(hn:σ.n≤σ1.n)(h1:σ1.Ok)(hr:Rn id σ1.n r r)(hc: ∀b x,σ1.m b=some x→F2 (Rn id σ1.n) x.cells x.cells)(hK:K r σ1):Fin σ K r σ1:=
 ⟨id,σ1,r,⟨hn,fun _ _=>rfl,fun _ _ _ _ _ _ hne=>hne,fun b x' hx'=> .inr ⟨h1 b x' hx',x',hx',rfl,id,by rw[List.take_length];exact hc b x' hx'⟩,hr⟩,hK⟩
theorem Fin.new1 {r r':Value}{b:Nat}{x x':Blk}(h:Ext σ σ1)(hlt:σ.Ok)(hb:σ.n≤b)(hx:σ1.m b=some x)(he:x'.es=x.es)(ho:x'.own=true→x.own=true)(hc:F2 (Rn (fun i=>if i=σ.n then b else i) (σ.n+1)) x'.cells (x.cells.take x'.cells.length))
  (hr:Rn (fun i=>if i=σ.n then b else i) (σ.n+1) r' r) (hK:K r' (σ.add x')):Fin σ K r σ1:=by
 refine⟨fun i=>if i=σ.n then b else i,σ.add x',r',⟨Nat.le_succ _,fun i hi=>zF (by omega),fun i i' y y' hy hy' hne=> ?_,fun i y hy=> ?_,hr⟩,hK⟩
 ·have hold: ∀i y,(σ.add x').m i=some y→i≠σ.n→i<σ.n:=by
   intro i y hy hi;simp only[Hp.add,zF hi]at hy;exact hlt i y hy
  by_cases h1:i=σ.n
  ·have h2:i'≠σ.n:=fun e=>hne (h1.trans e.symm)
   have:=hold i' y' hy' h2;simp only[zE h1,zF h2];omega
  ·have:=hold i y hy h1;by_cases h2:i'=σ.n
   ·simp only[zF h1,zE h2];omega
   ·simp only[zF h1,zF h2];exact hne
 ·by_cases h1:i=σ.n
  ·subst h1;simp only[Hp.add,zE trivial]at hy;injection hy with hy
   subst hy;exact .inr ⟨Nat.lt_succ_self _,x,by simp only[zE trivial];exact hx,he,ho,hc⟩
  ·simp only[Hp.add,zF h1]at hy;exact .inl ⟨hy,(h.2 i (hlt i y hy)).trans hy⟩
end
section
variable {T:ig}
end
abbrev fq :=List Value→Hp→Value→Hp→Prop
def sp (S:fq):aL3:=fun args σ K=> ∃r σ',S args σ r σ'∧K r σ'
abbrev bY2 :=FuncId→fq
def sps (U:bY2):ig:=fun f=>sp (U f)
def bM6 (P:Program)(U:bY2):Prop:= ∀f,Sim P f (sps U f)
def bY2.put (U:bY2)(f:FuncId)(S:fq):bY2:=fun g=>if g=f then S else U g
def cZ1 :bY2:=fun _ _ _ _ _=>False
theorem bM6.none (P:Program):bM6 P cZ1:=fun f B μ σ w args cargs K h=>by
 obtain⟨_,_,h,_⟩:=h;exact h.elim
theorem bM6.put {P:Program}{U:bY2}(h:bM6 P U){f:FuncId}{S:fq}(hS:Sim P f (sp S)):bM6 P (U.put f S):=by
 intro g;show Sim P g (sp (if g=f then S else U g));by_cases e:g=f
 ·subst e;rw[zE rfl];exact hS
 ·rw[zF e];exact h g
end
section
section
variable {T:ig} {Q:AExit→dh→Hp→Prop} {q:dh→Hp→Prop} {e:dh} {σ σ':Hp} {a b:AC} {k:Value→Hp→Prop} {v:Value} {K:Value→Hp→Prop}
theorem bH9 {d t:Nat}(h:t≠d):(e.put d v) t=e t:=zF h
def Hp.load (σ:Hp):Value→Option Value
 | .pointer (some ⟨b,o,none⟩)=>match σ.m b with
  |some x=>x.cells[o]?
  |none=>none
 |_=>none
def Hp.loadN (σ:Hp)(n:Nat):Value→Option Value
 | .pointer (some ⟨b,o,none⟩)=>match σ.m b with
  |some x=>(pi x o n).map fun cs=> .agg cs.toArray
  |none=>none
 |_=>none
theorem run_load {x:Operand}:(AOp.load x).run e σ=(σ.load (e.ev x)).map fun v=>(v,σ):=by
 simp only[AOp.run];generalize e.ev x=v;cases v<;>try rfl
 rename_i p;rcases p with _|⟨b,o,sp⟩
 ·rfl
 ·cases sp with
  |some s=>rfl
  |none=>
   simp only[Hp.load];cases σ.m b<;>rfl
def Hp.store (σ:Hp)(n:Nat)(a x:Value):Option Hp:=match a with
 | .pointer (some ⟨b,o,none⟩)=>if(cellsOf x).length=n then(match σ.m b with
  |some blk=>(uW blk o (cellsOf x)).map fun y=>σ.set b (some y)
  |none=>none)else none
 |_=>none
theorem run_store {n:Nat}{x y:Operand}:(AOp.store n x y).run e σ=(σ.store n (e.ev x) (e.ev y)).map fun σ'=>(undef,σ'):=by
 simp only[AOp.run];generalize e.ev x=v;cases v<;>try rfl
 rename_i p;rcases p with _|⟨b,o,sp⟩
 ·rfl
 ·cases sp with
  |some s=>rfl
  |none=>
   simp only[Hp.store];by_cases h:(cellsOf (e.ev y)).length=n
   ·simp only[h,if_true];cases σ.m b with
    |none=>rfl
    |some blk=>
     simp only;cases uW blk o (cellsOf (e.ev y))<;>rfl
   ·simp only[h,if_false];rfl
def lenS :Value→Option Value
 | .slice _ n _=>some (.int .i64 n)
 |_=>none
end
end
section
def cK8 :ig:=fun _ _ _ _=>False
def ig.put (T:ig)(f:FuncId)(s:aL3):ig:=fun g=>if g=f then s else T g
def aQ3 (s:aL3):Prop:= ∀args σ (K K':Value→Hp→Prop),(∀r σ',K r σ'→K' r σ')→s args σ K→s args σ K'
structure Known (P:Program)(T:ig):Prop where
 mono:rf T
 sim: ∀f,Sim P f (T f)
theorem Known.none (P:Program):Known P cK8:=⟨fun _ _ _ _ _ _ h=>h,fun f=>Sim.none P f⟩
theorem Known.put {P:Program}{T:ig}(h:Known P T){f:FuncId}{s:aL3}(hm:aQ3 s)(hs:Sim P f s):Known P (T.put f s):=by
 constructor
 ·intro g args σ K K' hk hg;simp only[ig.put]at hg⊢;split
  ·rename_i he;rw[zE he]at hg;exact hm _ _ _ _ hk hg
  ·rename_i he;rw[zF he]at hg;exact h.mono _ _ _ _ _ hk hg
 ·intro g;show Sim P g (if g=f then s else T g);by_cases e:g=f
  ·subst e;rw[zE rfl];exact hs
  ·rw[zF e];exact h.sim g
theorem aQ3.sp (S:fq):aQ3 (sp S):=fun _ _ _ _ hk ⟨r,σ',h1,h2⟩=>⟨r,σ',h1,hk r σ' h2⟩
theorem aQ3.wpF {T:ig}(hT:rf T)(a:AFn):aQ3 (wpF T a):=by
 intro args σ K K' hk h;refine⟨h.1,il hT _ _ _ (fun x e s hx=> ?_) _ _ h.2⟩;cases x with
 |exit id=>exact hx
 |normal=>
  simp only at hx⊢;split at hx
  ·exact hk _ _ hx
  ·exact hx
 |ret=>
  simp only at hx⊢;split at hx
  ·exact hk _ _ hx
  ·exact hx
theorem Known.fn {P:Program}{T:ig}(h:Known P T){f:FuncId}{af:AFn}(ht:bW1 P f=some af):Sim P f (wpF T af):=cg9 ht h.mono h.sim
theorem Known.rel {P:Program}{T:ig}(hU:Known P T){f:FuncId}{af:AFn}{S:fq}(h:bW1 P f=some af)
  (hS: ∀args σ r σ',σ.Ok→S args σ r σ'→wpF T af args σ (Fin σ fun r1 σ1=>r1=r∧σ1=σ')):Sim P f (sp S):=by
 refine Sim.fin (hU.fn h) fun args σ K hlt hk=> ?_
 obtain⟨r,σ',h1,h2⟩:=hk;refine aQ3.wpF hU.mono af _ _ _ _ ?_ (hS args σ r σ' hlt h1);rintro r1 σ1 ⟨ν,s',r',hw,rfl,rfl⟩;exact⟨ν,s',r',hw,h2⟩
section
variable {T:ig} {Q:AExit→dh→Hp→Prop} {e:dh} {σ:Hp} {b:AC} {I:dh→Hp→Prop} {m:dh→Hp→Nat} {e0:dh} {σ0:Hp}
end
section
variable {k:IntKind} {a b:Int}
end
section
variable {a b c d:Value} {l:List Value}
end
section
variable {σ:Hp} {x y:Blk} {i b o:Nat} {z:Option Blk}
theorem set_set {z':Option Blk}:(σ.set b z).set b z'=σ.set b z':=by
 simp only[Hp.set,Hp.mk.injEq,and_true]
 funext i
 split<;>rfl
end
section
variable {e:dh} {σ:Hp} {rs:List ARes} {t n b o:Nat}
def two (v:Option Value)(vs:Option (List Value)):Option (List Value):=match v,vs with
 |some v,some vs=>some (v::vs)
 |_,_=>none
end
section
variable {T:ig} {e:dh} {σ:Hp} {k:Value→Hp→Prop} {q:dh→Hp→Prop}
def cL0 (n:Nat):Value→Option Value
 | .pointer (some ⟨b,o,none⟩)=>some (.pointer (some ⟨b,o+n,none⟩))
 |_=>none
def cJ1 (es:Nat)(k:Value→Hp→Prop)(σ:Hp):Value→Value→Prop
 | .slice (some ⟨b,o,none⟩) n _, .int _ j=>(0≤j∧j<n)∧k (.pointer (some ⟨b,o+j.toNat*es,none⟩)) σ
 |_,_=>False
def ch3 (ln es:Nat)(k:Value→Hp→Prop)(σ:Hp):Value→Value→Prop
 | .pointer (some ⟨b,o,none⟩), .int _ j=>(0≤j∧j<ln)∧k (.pointer (some ⟨b,o+j.toNat*es,none⟩)) σ
 |_,_=>False
def fieldV (fo n:Nat)(agg:Bool):Value→Option Value
 | .agg cs=>if agg=true then some (.agg (cs.extract fo (fo+n)))else cs[fo]?
 |_=>none
end
section
variable {T:ig} {q:dh→Hp→Prop} {r:List SItem} {e:dh} {σ:Hp} {i:Nat} {d:Option Nat} {kp:Bool} {is:List Nat} {chk:List (Nat×(Hp→Prop))}
end
end
section
def e0 :dh:=fun _=>undef
section
variable {T:ig} {e:dh} {σ:Hp} {k:Value→Hp→Prop}
end
section
variable {σ:Hp} {x:Blk} {i b:Nat} {z:Option Blk}
end
end
section
open IntKind renaming bits → bB, max → bD, min → cB, signed → cD
open List renaming getElem?_eq_none → aB, getElem?_eq_getElem → dB
open Nat renaming lt_or_ge → aD
open Option renaming map_some → dD
open Go.RowKit (Below)
structure Row where
 c:Nat
 o:Nat
 ext:Nat
 es:Nat
 cells:List Value
def cl1 (P:Program)(w:World):Prop:=P.globalNamed "internal/strconv.uint64pow10" ≠none→Lib.TabIs P w "internal/strconv.uint64pow10" .u64 Lib.pow10Tab
def Base.of {P:Program}(w:World)(hT:cl1 P w):Base P:=⟨w.heap.size,fun b=>w.heap[b]?,fun w' _ hh hne=>by
 have h:=hT hne;unfold Lib.TabIs World.var? at h⊢;cases hg:P.globalNamed "internal/strconv.uint64pow10" with
 |none=>exact(hne hg).elim
 |some g=>
  simp only[hg,zG]at h⊢
  have hlt:g<w.heap.size:=by
   rcases aD g w.heap.size with h'|h'
   ·exact h'
   ·rw[Array.getElem?_eq_none h']at h;cases h
  rw[hh g hlt]
  exact h⟩
def nc (rows:List Row):Mu:=fun i=>(rows[i]?).map fun r=>⟨r.c,r.o,r.ext,r.es,0,none⟩
def mF (size:Nat)(rows:List Row):Hp:={m:=fun i=>(rows[i]?).bind fun r=>if r.c<size then some ⟨r.cells,false,r.es⟩else none,n:=rows.length}
theorem cZ7 {P:Program}{w:World}(hT:cl1 P w){rows:List Row}(h: ∀r∈rows,∀(i:Nat) (v:Value),r.cells[i]?=some v→∃v',w.cell? ⟨r.c,r.o+i,none⟩=some v'∧VR (nc rows) v v'):
  R (Base.of w hT) (nc rows) (mF w.heap.size rows) w:=by
 refine⟨Nat.le_refl _,fun _ _=>rfl,fun b hb=> ?_,fun b x hx=> ?_,fun b b' x x' g g' hx _ _ ho=> ?_,fun b x g _ hg hi _ _=>(by
  simp only[nc]at hg;cases hr:rows[b]? with
  |none=>rw[hr]at hg;cases hg
  |some r=>rw[hr]at hg;injection hg with hg;subst hg;cases hi)⟩
 ·simp only[nc,aB hb,Option.map_none]
 ·simp only[mF]at hx;cases hr:rows[b]? with
  |none=>rw[hr]at hx;cases hx
  |some r=>
   rw[hr,zG]at hx;split at hx
   ·rename_i hlt;injection hx with hx
    subst hx;refine⟨⟨r.c,r.o,r.ext,r.es,0,none⟩,by simp only[nc,hr,dD],hlt,rfl,fun _ i v hv=>h r (List.mem_of_getElem? hr) i v hv,fun _ ho=>(by cases ho),fun _ hs=>(by cases hs),fun hs=>by cases hs⟩
   ·cases hx
 ·simp only[mF]at hx;cases hr:rows[b]? with
  |none=>rw[hr]at hx;cases hx
  |some r=>
   rw[hr,zG]at hx;split at hx
   ·injection hx with hx
    subst hx;cases ho
   ·cases hx
theorem cN3 {size:Nat}{rows:List Row}:(mF size rows).Ok:=by
 intro b x hx;rcases aD b rows.length with h|h
 ·exact h
 ·simp only[mF,aB h,Option.bind_none]at hx;cases hx
theorem cY6 {P:Program}{f:FuncId}{S:aL3}(hs:Sim P f S){w:World}(hT:cl1 P w){rows:List Row}{args:List Value}{cargs:Array Value}
  (hrows: ∀r∈rows,∀(i:Nat) (v:Value),r.cells[i]?=some v→∃v',w.cell? ⟨r.c,r.o+i,none⟩=some v'∧VR (nc rows) v v')
  (hargs:F2 (VR (nc rows)) args cargs.toList) (h:S args (mF w.heap.size rows) fun r _=>r= .bool true):
  Calls P f cargs w fun e w'=>e= .returned (.bool true)∧Below w.heap.size w w':=by
 refine(hs _ _ _ w args cargs _ h (cZ7 hT hrows) hargs).2.mono fun x w' hx=> ?_
 obtain⟨r,σ',r',μ',rfl,rfl,_,_,hr,hb,_⟩:=hx;cases hr;exact⟨rfl,hb⟩
def Sl (k:IntKind)(σ:Hp)(v:Value)(l:List Int):Prop:=
 (v= .slice none 0 0∧l=[])∨∃b c rest,v= .slice (some ⟨b,0,none⟩) l.length c∧l.length≤c∧c≤maxLen∧b<σ.n∧(l≠[]→σ.m b=some ⟨(l++rest).map (.int k),false,1⟩)
def aQ2 (k:IntKind)(w:World)(a:Option Addr)(len cap:Nat)(zs:List Int):Prop:=
 (a=none∧len=0∧cap=0∧zs=[])∨
 ∃x,a=some x∧len≤cap∧cap≤maxLen∧zs.length=cap∧(∀i,i<zs.length→w.cell? (x.add i)=some (.int k (zs.getD i 0)))∧∀n∈zs,(Lit.int k n).wf=true
def aJ1 (k:IntKind)(a:Option Addr)(cap:Nat)(zs:List Int):Row:=match a with
 |some x=>⟨x.block,x.off,cap,1,zs.map (.int k)⟩
 |none=>⟨0,0,0,1,[]⟩
def cB9 (k:Nat)(a:Option Addr)(len cap:Nat):Value:=match a with
 |some _=> .slice (some ⟨k,0,none⟩) len cap
 |none=> .slice none 0 0
section
variable {k:IntKind} {w:World} {a:Option Addr} {len cap:Nat} {zs:List Int} {rows:List Row} {j:Nat}
theorem bE8 {x:Addr}{v:Value}(h:w.cell? x=some v):x.block<w.heap.size:=by
 unfold World.cell? at h;split at h
 ·rename_i hb;exact(Array.getElem?_eq_some_iff.1 hb).1
 ·cases h
theorem av1 {x:Addr}{v:Value}(h:w.cell? (x.add 0)=some v):x.spot=none:=by
 have:=World.cell?_spot h;simpa[Addr.add]using this
theorem xc {x:Addr}{i:Nat}{v:Value}(hs:x.spot=none)(h:w.cell? (x.add i)=some v):w.cell? ⟨x.block,x.off+i,none⟩=some v:=by
 obtain⟨b,o,s⟩:=x;simp only at hs;subst hs
 have:(⟨b,o,none⟩:Addr).add i=⟨b,o+i,none⟩:=by
  simp only[Addr.add];split
  ·rename_i h0;subst h0;rfl
  ·rfl
 rwa [this]at h
theorem aQ2.cells (h:aQ2 k w a len cap zs){i:Nat}{v:Value}(hv:(aJ1 k a cap zs).cells[i]?=some v):
  ∃v',w.cell? ⟨(aJ1 k a cap zs).c,(aJ1 k a cap zs).o+i,none⟩=some v'∧VR (nc rows) v v':=by
 rcases h with⟨rfl,rfl,rfl,rfl⟩|⟨x,rfl,hl,hm,hz,hc,hw⟩
 ·simp[aJ1]at hv
 ·simp only[aJ1]at hv⊢;simp only[List.getElem?_map]at hv
  have hi:i<zs.length:=by
   rcases aD i zs.length with h|h
   ·exact h
   ·rw[aB h]at hv;cases hv
  rw[dB hi,dD]at hv;injection hv with hv
  subst hv;refine⟨_,xc (av1 (hc 0 (by omega))) (hc i hi), ?_⟩;have:zs.getD i 0=zs[i]:=by simp[List.getD,dB hi]
  rw[this];exact .int _ _
theorem aQ2.sl (h:aQ2 k w a len cap zs)(hr:rows[j]?=some (aJ1 k a cap zs)):Sl k (mF w.heap.size rows) (cB9 j a len cap) (zs.take len):=by
 rcases h with⟨rfl,rfl,rfl,rfl⟩|⟨x,rfl,hl,hm,hz,hc,hw⟩
 ·exact .inl ⟨rfl,by simp⟩
 ·have hlen:(zs.take len).length=len:=by rw[List.length_take];omega
  refine .inr ⟨j,cap,zs.drop len,by rw[hlen];rfl,by omega,hm, ?_,fun hne=> ?_⟩
  ·rcases aD j rows.length with h|h
   ·exact h
   ·rw[aB h]at hr;cases hr
  ·have hz0:0<zs.length:=by
    rcases Nat.eq_zero_or_pos zs.length with h|h
    ·rw[List.length_eq_zero_iff]at h;subst h;simp at hne
    ·exact h
   have hlt:x.block<w.heap.size:=bE8 (x:=⟨x.block,x.off+0,none⟩) (xc (av1 (hc 0 hz0)) (hc 0 hz0));simp only[mF,hr,zG,aJ1,zE hlt,List.take_append_drop]
theorem aQ2.wf (h:aQ2 k w a len cap zs): ∀n∈zs.take len,(Lit.int k n).wf=true:=by
 rcases h with⟨rfl,rfl,rfl,rfl⟩|⟨x,rfl,hl,hm,hz,hc,hw⟩
 ·simp
 ·exact fun n hn=>hw n (List.mem_of_mem_take hn)
end
theorem da7 {n:Int}(h:(Lit.int .i64 n).wf=true): -9223372036854775808≤n∧n≤9223372036854775807:=by
 simpa[Lit.wf,cB,bD,cD,bB]using h
theorem da8 {n:Int}(h:(Lit.int .u64 n).wf=true):0≤n∧n≤18446744073709551615:=by
 simpa[Lit.wf,cB,bD,cD,bB]using h
theorem di2 {n:Int}(h:(Lit.int .u8 n).wf=true):0≤n∧n≤255:=by
 simpa[Lit.wf,cB,bD,cD,bB]using h
end
end Go.Ab
namespace Go.V
open Go.Ab
section
open List renaming replicate → bD
open Nat renaming beq → aB, ble → aD
open Option renaming none → bB
inductive Sh where
 |int (k:IntKind)
 |bool
 |str
 |list (s:Sh)
 |pair (a b:Sh)
 deriving DecidableEq
@[reducible] def El :Sh→Type
 | .int _=>Int
 | .bool=>Bool
 | .str=>List Int
 | .list s=>List (El s)
 | .pair a b=>El a×El b
def Sh.w :Sh→Nat
 | .pair a b=>a.w+b.w
 |_=>1
inductive VV where
 |undef
 |bool (b:Bool)
 |int (k:IntKind) (n:Int)
 |str (l:List Int)
 |nilp
 |nils
 |nilf
 |ptr (k o:Nat)
 |pix (k o n i:Nat)
 |pel (k i o:Nat)
 |pin (s:Sh) (x:El s) (o:Nat)
 |lst (s:Sh) (l:List (El s))
 |tgt (s:Sh) (l:List (El s))
 |full (k:Nat)
 |part (k lo n:Nat)
 |it (k:Nat) (l:List Int)
 |bld (k:Nat)
 |fn (f:Nat) (a c:List VV)
 |agg (l:List VV)
 |tup (l:List VV)
inductive Blk where
 |dead
 |cells (es:Nat) (fz:Bool) (l:List VV)
 |arr (s:Sh) (fz:Bool) (l:List (El s))
abbrev bq :=List Blk
abbrev et :=List VV
def mD :et→Nat→VV
 |[],_=> .undef
 |v::_,0=>v
 |_::r,n+1=>mD r n
def pK :et→Nat→VV→et
 |[],0,v=>[v]
 |[],n+1,v=> .undef::pK [] n v
 |_::r,0,v=>v::r
 |a::r,n+1,v=>a::pK r n v
def putO (e:et)(d:Option Nat)(v:VV):et:=match d with
 |some d=>pK e d v
 |none=>e
def bl :bq→Nat→Blk
 |[],_=> .dead
 |b::_,0=>b
 |_::r,n+1=>bl r n
def lE :bq→Nat→Blk→bq
 |[],_,_=>[]
 |_::r,0,b=>b::r
 |a::r,n+1,b=>a::lE r n b
def nth {α:Type}:List α→Nat→Option α
 |[],_=>none
 |v::_,0=>some v
 |_::r,n+1=>nth r n
def dx (s:ByteArray):List Int:=s.data.toList.map fun b=>(b.toNat:Int)
def aW5 :Value→VV
 | .bool b=> .bool b
 | .int k n=> .int k n
 | .string s=> .str (dx s)
 | .pointer none=> .nilp
 | .slice none 0 0=> .nils
 | .nilFunc=> .nilf
 |_=> .undef
def ofC :Value→VV
 | .agg cs=> .agg (cs.toList.map aW5)
 |v=>aW5 v
def ev (e:et):Operand→VV
 | .tmp t=>mD e t
 | .const v=>ofC v
 | .func f=> .fn f [] []
 | .global _=> .undef
def cM3 :VV→Bool
 | .undef| .agg _| .tup _=>false
 |_=>true
def mY :VV→List VV
 | .agg l=>l
 |v=>[v]
def fa :(s:Sh)→El s→List VV
 | .int k,n=>[.int k n]
 | .bool,b=>[.bool b]
 | .str,l=>[.str l]
 | .list s,l=>[.lst s l]
 | .pair a b,x=>fa a x.1++fa b x.2
def gp (s:Sh)(l:List (El s)):List VV:=l.flatMap (fa s)
def lK (s' s:Sh)(x:El s'):Option (El s):=if h:s'=s then some (h▸x)else none
def aR6 {α:Type}(f:List VV→Option (α×List VV)):Nat→List VV→Option (List α)
 |_,[]=>some []
 |0,_::_=>none
 |n+1,v::l=>(f (v::l)).bind fun p=>(aR6 f n p.2).bind fun r=>some (p.1::r)
def Blk.frozen :Blk→Bool
 | .dead=>true
 | .cells _ z _=>z
 | .arr _ z _=>z
def vQ (s:Sh)(f:List VV→Option (El s×List VV)):Blk→Option (List (El s))
 | .dead=>none
 | .arr s' _ l=>lK (.list s') (.list s) l
 | .cells es _ l=>bif aB es s.w then aR6 f l.length l else none
def aq6 (S:bq)(s:Sh)(f:List VV→Option (El s×List VV)):VV→Option (List (El s))
 | .nils=>some []
 | .lst s' l=>lK (.list s') (.list s) l
 | .full k=>vQ s f (bl S k)
 | .part k lo n=>(vQ s f (bl S k)).bind fun l=>some ((l.drop lo).take n)
 |_=>none
def bG8 (S:bq)(s:Sh)(f:List VV→Option (El s×List VV)):VV→Option (List (El s))
 | .full k=>bif (bl S k).frozen then aq6 S s f (.full k)else none
 | .part k lo n=>bif (bl S k).frozen then aq6 S s f (.part k lo n)else none
 |v=>aq6 S s f v
def kR (S:bq):(s:Sh)→List VV→Option (El s×List VV)
 | .int k, .int k' n::r=>bif decide (k'=k)then some (n,r)else none
 | .bool, .bool b::r=>some (b,r)
 | .str, .str l::r=>some (l,r)
 | .list s,v::r=>(bG8 S s (kR S s) v).bind fun l=>some (l,r)
 | .pair a b,l=>(kR S a l).bind fun p=>(kR S b p.2).bind fun q=>some ((p.1,q.1),q.2)
 |_,_=>none
def ci1 (S:bq)(s:Sh)(v:VV):Option (List (El s)):=aq6 S s (kR S s) v
def Blk.freeze :Blk→Blk
 | .dead=> .dead
 | .cells es _ l=> .cells es true l
 | .arr s _ l=> .arr s true l
def fzv :Nat→bq→VV→bq
 |0,S,_=>S
 |n+1,S,v=>match v with
  | .full k=>(match bl S k with
   | .cells es _ l=>l.foldl (fzv n) (lE S k (.cells es true l))
   |b=>lE S k b.freeze)
  | .part k _ _=>(match bl S k with
   | .cells es _ l=>l.foldl (fzv n) (lE S k (.cells es true l))
   |b=>lE S k b.freeze)
  |_=>S
def fzL (S:bq)(l:List VV):bq:=l.foldl (fzv 3) S
def cX5 (S:bq):VV→bq
 | .full k=>(match bl S k with
  | .cells _ _ l=>fzL S l
  |_=>S)
 | .part k _ _=>(match bl S k with
  | .cells _ _ l=>fzL S l
  |_=>S)
 |_=>S
section
variable {β:Type}
def gd (b:Bool)(x:Option β):Option β:=cond b x none
def ix (i:Int)(n:Nat):Option Nat:=cond (decide (0≤i)&&decide (i<n)) (some i.toNat) none
def rd {α:Type}(l:List α)(i:Int):Option α:=cond (decide (0≤i)) l[i.toNat]? none
def cC8 (p:Bool):VV→VV→Option VV
 | .int k x, .int k' y=>cond (decide (k=k')) (some (.int k (cond p x y))) none
 | .bool x, .bool y=>some (.bool (cond p x y))
 | .str x, .str y=>some (.str (cond p x y))
 |_,_=>none
def cA8 (p:Bool)(x y:VV)(S:bq)(k:VV→bq→Option β):Option β:=match cC8 p x y with
 |some v=>k v S
 |none=>cond p (k x S) (k y S)
def ut :IntKind→List VV→Option (List Int)
 |_,[]=>some []
 |k, .int k' n::r=>cond (decide (k'=k)) ((ut k r).bind fun l=>some (n::l)) none
 |_,_=>none
def bc9 :List VV→Option (List Bool)
 |[]=>some []
 | .bool b::r=>(bc9 r).bind fun l=>some (b::l)
 |_=>none
def bV6 :List VV→Option (List (List Int))
 |[]=>some []
 | .str b::r=>(bV6 r).bind fun l=>some (b::l)
 |_=>none
def cj0 (S:bq)(k:VV→bq→Option β):List VV→Nat→Option β
 |[],_=>none
 |v::r,i=>cond (aB i 0) (k v S) (cj0 S k r (i-1))
def bN7 (cs:List VV)(i:Nat)(S:bq)(k:VV→bq→Option β):Option β:=match cs with
 | .int kd n::r=>(match ut kd r with
  |some l=>k (.int kd ((n::l).getD i 0)) S
  |none=>none)
 | .bool b::r=>(match bc9 r with
  |some l=>k (.bool ((b::l).getD i false)) S
  |none=>none)
 | .str b::r=>(match bV6 r with
  |some l=>k (.str ((b::l).getD i [])) S
  |none=>none)
 |cs=>cj0 S k cs i
def bj4 (v:VV):List VV→Nat→Nat→Option (List VV)
 |[],_,_=>some []
 |c::r,i,j=>(cC8 (aB i j) v c).bind fun x=>(bj4 v r i (j+1)).bind fun l=>some (x::l)
def cN7 (cells:List VV)(o:Nat):List VV→List VV
 |[]=>cells
 |v::vs=>cN7 (cells.set o v) (o+1) vs
def aS2 (cells:List VV):List (Nat×Nat×VV)→Option (List VV)
 |[]=>some cells
 |(off,size,v)::rest=>
  cond (aB (mY v).length size&&aD (off+size) cells.length&&(mY v).all cM3) (aS2 (cells.take off++mY v++cells.drop (off+size)) rest) none
def yN (e:et)(l:List (Nat×Nat×Operand)):List (Nat×Nat×VV):=l.map fun(o,s,x)=>(o,s,ev e x)
def oC (l:List VV):Bool:=l.all cM3
def bu6 (S:bq)(n:Nat)(agg:Bool)(a:VV)(k:VV→bq→Option β):Option β:=
 let out (cs:List VV) (o:Nat):Option β:=cond agg (gd (aD (o+n) cs.length) (k (.agg ((cs.drop o).take n)) S)) (match nth cs o with
  |some v=>k v S
  |none=>none)
 match a with
 | .ptr b o=>(match bl S b with
  | .cells _ _ l=>out l o
  |_=>none)
 | .pix b o m i=>(match bl S b with
  | .cells _ _ l=>gd (!agg&&aD (o+m) l.length) (bN7 ((l.drop o).take m) i S k)
  |_=>none)
 | .pel b i o=>(match bl S b with
  | .arr s _ l=>(l[i]?).bind fun x=>out (fa s x) o
  |_=>none)
 | .pin s x o=>out (fa s x) o
 |_=>none
def ce6 (S:bq)(a:VV)(cs:List VV)(k:bq→Option β):Option β:=match a with
 | .ptr b o=>(match bl S b with
  | .cells es false l=>gd (aD (o+cs.length) l.length) (k (lE S b (.cells es false (cN7 l o cs))))
  |_=>none)
 | .pix b o m i=>(match bl S b,cs with
  | .cells es false l,[v]=>gd (aD (o+m) l.length) (match bj4 v ((l.drop o).take m) i 0 with
   |some l'=>k (lE S b (.cells es false (l.take o++l'++l.drop (o+m))))
   |none=>none)
  |_,_=>none)
 | .pel b i o=>(match bl (fzL S cs) b with
  | .arr s false l=>(l[i]?).bind fun x=>(match kR (fzL S cs) s (cN7 (fa s x) o cs)with
   |some (y,[])=>gd (aD (o+cs.length) s.w) (k (lE (fzL S cs) b (.arr s false (l.set i y))))
   |_=>none)
  |_=>none)
 |_=>none
def cF3 (k:IntKind)(f:BitVec k.bits→BitVec k.bits→BitVec k.bits)(x y:Int):Int:=k.wrap (f (BitVec.ofInt k.bits x) (BitVec.ofInt k.bits y)).toNat
def bY6 (op:BinOp)(kd:IntKind)(x y:Int)(k:VV→Option β):Option β:=match op with
 | .add=>k (.int kd (kd.wrap (x+y)))
 | .sub=>k (.int kd (kd.wrap (x-y)))
 | .mul=>k (.int kd (kd.wrap (x*y)))
 | .quo=>gd (decide (y≠0)) (k (.int kd (kd.wrap (x.tdiv y))))
 | .rem=>gd (decide (y≠0)) (k (.int kd (x.tmod y)))
 | .and=>k (.int kd (cF3 kd (· &&& ·) x y))
 | .or=>k (.int kd (cF3 kd (· ||| ·) x y))
 | .xor=>k (.int kd (cF3 kd (· ^^^ ·) x y))
 | .andNot=>k (.int kd (cF3 kd (fun a b=>a&&& ~~~b) x y))
 | .eql=>k (.bool (decide (x=y)))
 | .neq=>k (.bool (decide (x≠y)))
 | .lss=>k (.bool (decide (x<y)))
 | .leq=>k (.bool (decide (x≤y)))
 | .gtr=>k (.bool (decide (y<x)))
 | .geq=>k (.bool (decide (y≤x)))
 |_=>none
def cD1 (op:BinOp)(kd:IntKind)(x y:Int)(k:VV→Option β):Option β:=match op with
 | .shl=>gd (decide (0≤y)) (k (.int kd (kd.wrap (x*2 ^ (min y.toNat kd.bits)))))
 | .shr=>gd (decide (0≤y)) (k (.int kd (x.fdiv (2 ^ (min y.toNat kd.bits)))))
 |_=>none
def dh4 (a b:Nat):Bool:=aD (a+b) 9223372036854775807
def dh5 (op:BinOp)(x y:List Int)(k:VV→Option β):Option β:=match op with
 | .add=>gd (dh4 x.length y.length) (k (.str (x++y)))
 | .eql=>k (.bool (decide (x=y)))
 | .neq=>k (.bool (decide (x≠y)))
 |_=>none
def cU9 (op:BinOp)(x y:VV)(k:VV→Option β):Option β:=match x,y with
 | .int kx a, .int ky b=>cond (tI op) (cD1 op kx a b k) (cond (decide (kx=ky)) (bY6 op kx a b k) none)
 | .str a, .str b=>cond (tI op) none (dh5 op a b k)
 |_,_=>none
def cy6 (neg p:Bool):Bool:=cond neg (!p) p
def Blk.live :Blk→Bool
 | .dead=>false
 |_=>true
def bf2 (S:bq):VV→Bool
 | .ptr k _=>(bl S k).live
 | .pix k _ _ _=>(bl S k).live
 | .pel k _ _=>(bl S k).live
 | .pin _ _ _=>true
 |_=>false
def cX2 (S:bq):Nat→VV→VV→Option Bool
 |0, .bool a, .bool b=>some (a==b)
 |1, .nilp, .nilp=>some true
 |1, .nilp,v=>cond (bf2 S v) (some false) none
 |1,v, .nilp=>cond (bf2 S v) (some false) none
 |2, .nils, .nils=>some true
 |3, .nilf, .nilf=>some true
 |3, .nilf, .fn _ _ _=>some false
 |3, .fn _ _ _, .nilf=>some false
 |_,_,_=>none
def cn4 :Nat→VV→VV→Option Bool
 |0, .bool a, .bool b=>some (a==b)
 |1, .int k a, .int k' b=>cond (decide (k=k')) (some (decide (a=b))) none
 |2, .str a, .str b=>some (decide (a=b))
 |_,_,_=>none
def bp9 :List Nat→List VV→List VV→Option Bool
 |[],[],[]=>some true
 |[k],[a],[b]=>cn4 k a b
 |k::ks,a::r,b::s=>(cn4 k a b).bind fun p=>(bp9 ks r s).bind fun q=>some (p&&q)
 |_,_,_=>none
def unK (op:UnOp)(x:VV)(k:VV→Option β):Option β:=match op,x with
 | .neg, .int kd n=>k (.int kd (kd.wrap (0-n)))
 | .xor, .int kd n=>k (.int kd (kd.wrap (BitVec.ofInt kd.bits (if kd.signed then-1 else kd.max) ^^^ BitVec.ofInt kd.bits n).toNat))
 | .not, .bool b=>k (.bool !b)
 |_,_=>none
def aH2 :VV→Option Int
 | .int _ n=>some n
 |_=>none
def lenOf (S:bq):VV→Option Nat
 | .nils=>some 0
 | .lst _ l=>some l.length
 | .full b=>(match bl S b with
  | .arr _ _ l=>some l.length
  | .cells es _ l=>some (l.length / es)
  | .dead=>none)
 | .part b _ n=>cond (bl S b).live (some n) none
 | .str l=>some l.length
 |_=>none
def ax4 {α:Type}(l:List α)(lo hi:Int):List α:=(l.take hi.toNat).drop lo.toNat
def ah9 :Option VV→Option Int
 |none=>some 0
 |some v=>aH2 v
def uS (n:Nat):Option VV→Option Int
 |none=>some n
 |some v=>aH2 v
def jO (lo hi:Int)(n:Nat):Bool:=decide (0≤lo)&&decide (lo≤hi)&&decide (hi≤n)
def ce3 (S:bq)(es:Nat)(x:VV)(lo hi:Option VV)(k:VV→bq→Option β):Option β:=
 match lenOf S x with
 |none=>none
 |some n=>match ah9 lo,uS n hi with
  |some a,some b=>(match x with
   | .nils=>gd (jO a b n) (k .nils S)
   | .lst s l=>gd (aB es s.w) (match lo,hi with
    |none,none=>k (.lst s l) S
    |_,_=>gd (jO a b n) (k (.lst s (ax4 l a b)) S))
   | .full q=>(match bl S q with
    | .arr s _ _=>gd (aB es s.w) (gd (jO a b n) (k (.part q a.toNat (b.toNat-a.toNat)) S))
    | .cells es' _ _=>gd (aB es es'&&aD 1 es) (gd (jO a b n) (k (.part q a.toNat (b.toNat-a.toNat)) S))
    | .dead=>none)
   | .part q o _=>(match bl S q with
    | .arr s _ _=>gd (aB es s.w) (gd (jO a b n) (k (.part q (o+a.toNat) (b.toNat-a.toNat)) S))
    | .cells es' _ _=>gd (aB es es'&&aD 1 es) (gd (jO a b n) (k (.part q (o+a.toNat) (b.toNat-a.toNat)) S))
    | .dead=>none)
   |_=>none)
  |_,_=>none
def aO9 (S:bq)(x:VV)(lo hi:Option VV)(k:VV→bq→Option β):Option β:=match x with
 | .str l=>(match ah9 lo,uS l.length hi with
  |some a,some b=>gd (jO a b l.length) (k (.str (ax4 l a b)) S)
  |_,_=>none)
 |_=>none
def aO8 (S:bq)(es n:Nat)(x:VV)(lo hi:Option VV)(k:VV→bq→Option β):Option β:=match x with
 | .ptr b o=>(match bl S b with
  | .cells es' false l=>(match ah9 lo,uS n hi with
   |some a,some c=>gd (aB es es'&&aD 1 es&&aB (o % es) 0&&aD (o+n*es) l.length&&jO a c n&&decide (a<n)) (k (.part b (o / es+a.toNat) (c.toNat-a.toNat)) S)
   |_,_=>none)
  | .arr s false l=>(match ah9 lo,uS n hi with
   |some a,some c=>gd (aB es s.w&&aB o 0&&aD n l.length&&jO a c n&&decide (a<n)) (k (.part b a.toNat (c.toNat-a.toNat)) S)
   |_,_=>none)
  |_=>none)
 |_=>none
def cY4 :Value→Bool
 | .int .u8 n=>decide (n=0)
 |_=>false
def bZ2 (es:Nat)(z:List Value):Bool:=aB es 1&&aD 20 z.length&&z.all cY4
def ao8 (es:Nat)(z:List Value):Blk:=cond (bZ2 es z) (.arr (.int .u8) false (bD z.length (0:Int))) (.cells es false (z.map aW5))
def cL0 (S:bq)(n:Nat):VV→Option VV
 | .ptr b o=>cond (bl S b).live (some (.ptr b (o+n))) none
 | .pel b i o=>cond (bl S b).live (some (.pel b i (o+n))) none
 | .pin s x o=>some (.pin s x (o+n))
 | .pix b o m i=>cond (bl S b).live (cond (aB n 0) (some (.pix b o m i)) none) none
 |_=>none
def cJ1 (S:bq)(es:Nat)(x i:VV)(k:VV→bq→Option β):Option β:=match i with
 | .int _ i=>(match x with
  | .lst s l=>gd (aB es s.w) ((rd l i).bind fun y=>k (.pin s y 0) S)
  | .full b=>(match bl S b with
   | .arr s _ l=>gd (aB es s.w) ((ix i l.length).bind fun j=>k (.pel b j 0) S)
   | .cells es' _ l=>gd (aB es es'&&aD 1 es) ((ix i (l.length / es)).bind fun j=>cond (aB es 1) (k (.pix b 0 l.length j) S) (k (.ptr b (j*es)) S))
   | .dead=>none)
  | .part b o n=>(match bl S b with
   | .arr s _ _=>gd (aB es s.w) ((ix i n).bind fun j=>k (.pel b (o+j) 0) S)
   | .cells es' _ _=>gd (aB es es'&&aD 1 es) ((ix i n).bind fun j=>cond (aB es 1) (k (.pix b o n j) S) (k (.ptr b ((o+j)*es)) S))
   | .dead=>none)
  |_=>none)
 |_=>none
def ch3 (S:bq)(ln es:Nat)(x i:VV)(k:VV→bq→Option β):Option β:=match x,i with
 | .ptr b o, .int _ i=>gd (bl S b).live ((ix i ln).bind fun j=>cond (aB es 1) (k (.pix b o ln j) S) (k (.ptr b (o+j*es)) S))
 |_,_=>none
def zr (l:List VV)(a n:Nat):List VV:=(l.drop a).take n
def i9 (n bytes:Nat):Bool:=decide (n*bytes≤140737488355328)&&aD 1 bytes
inductive Base where
 |none
 |cells (es:Nat) (l:List VV)
 |arr (s:Sh) (l:List (El s))
def yI (S:bq)(es:Nat):VV→Option (Base×Option Nat)
 | .nils=>some (.none,none)
 | .full b=>(match bl S b with
  | .arr s false l=>cond (aB es s.w) (some (.arr s l,some b)) bB
  | .cells es' false l=>cond (aB es es'&&aD 1 es) (some (.cells es l,some b)) bB
  |_=>bB)
 | .part b 0 n=>(match bl S b with
  | .arr s false l=>cond (aB es s.w) (some (.arr s (l.take n),some b)) bB
  | .cells es' false l=>cond (aB es es'&&aD 1 es) (some (.cells es (l.take (n*es)),some b)) bB
  |_=>bB)
 |_=>bB
inductive More where
 |cells (l:List VV)
 |lst (s:Sh) (l:List (El s))
def jx (S:bq)(es:Nat):VV→Option More
 | .nils=>some (.cells [])
 | .lst s l=>cond (aB es s.w) (some (.lst s l)) none
 | .str l=>cond (aB es 1) (some (.lst (.int .u8) l)) none
 | .full b=>(match bl S b with
  | .arr s _ l=>cond (aB es s.w) (some (.lst s l)) none
  | .cells es' _ l=>cond (aB es es'&&aD 1 es) (some (.cells l)) none
  |_=>none)
 | .part b o n=>(match bl S b with
  | .arr s _ l=>cond (aB es s.w) (some (.lst s ((l.drop o).take n))) none
  | .cells es' _ l=>cond (aB es es'&&aD 1 es) (some (.cells ((l.drop (o*es)).take (n*es)))) none
  |_=>none)
 |_=>none
def ph (S:bq):Option Nat→bq
 |none=>S
 |some b=>lE S b .dead
def ck5 (S:bq)(s:Sh)(l:List VV):Option (List (El s)):=aR6 (kR S s) l.length l
def bP9 (S:bq)(bytes:Nat)(s:Sh)(kill:Option Nat)(a b:List (El s))(k:VV→bq→Option β):Option β:=
 gd (i9 (a.length+b.length) bytes) (k (.full S.length) (ph S kill++[.arr s false (a++b)]))
def aX3 (S:bq)(es bytes:Nat)(bo:Option (Base×Option Nat))(mo:Option More)(k:VV→bq→Option β):Option β:=
 match bo,mo with
 |some (.arr s l,kill),some (.lst s' l')=>(lK (.list s') (.list s) l').bind fun l2=>bP9 S bytes s kill l l2 k
 |some (.arr s l,kill),some (.cells cs)=>(match bl (fzL S cs) (kill.getD 0)with
  | .arr _ false _=>(ck5 (fzL S cs) s cs).bind fun l2=>bP9 (fzL S cs) bytes s kill l l2 k
  |_=>none)
 |some (.cells _ l,kill),some (.lst s l')=>(match bl (fzL S l) (kill.getD 0)with
  | .cells _ false _=>(ck5 (fzL S l) s l).bind fun l1=>bP9 (fzL S l) bytes s kill l1 l' k
  |_=>none)
 |some (.none,kill),some (.lst s l')=>bP9 S bytes s kill [] l' k
 |some (.cells es l,kill),some (.cells cs)=>gd (i9 ((l.length+cs.length) / es) bytes&&oC cs) (k (.full S.length) (ph S kill++[.cells es false (l++cs)]))
 |some (.none,kill),some (.cells cs)=>gd (i9 (cs.length / es) bytes&&aD 1 es&&oC cs) (k (.full S.length) (ph S kill++[.cells es false cs]))
 |_,_=>none
def bE4 (S:bq)(es bytes:Nat)(x y:VV)(k:VV→bq→Option β):Option β:=aX3 S es bytes (yI S es x) (jx S es y) k
def bk3 (S:bq):VV→Option (bq×Base)
 | .lst s l=>some (S, .arr s l)
 | .full q=>(match bl S q with
  | .arr s _ l=>some (lE S q (bl S q).freeze, .arr s l)
  |_=>none)
 |_=>none
def bJ1 (S:bq)(x hi mx:VV)(k:VV→bq→Option β):Option β:=match hi,mx with
 | .int _ h, .int _ m=>gd (decide (h=m)) (match x with
  | .nils=>gd (decide (h=0)) (k .nils S)
  |v=>(match bk3 S v with
   |some (S1, .arr s l)=>gd (jO 0 h l.length) (k (.tgt s (l.take h.toNat)) S1)
   |_=>none))
 |_,_=>none
def cf2 (S:bq)(es bytes:Nat)(s:Sh)(l:List (El s))(mo:Option More)(k:VV→bq→Option β):Option β:=match mo with
 |some (.lst s' l')=>(lK (.list s') (.list s) l').bind fun l2=>gd (aB es s.w&&aD 1 l2.length) (bP9 S bytes s none l l2 k)
 |some (.cells cs)=>(ck5 (fzL S cs) s cs).bind fun l2=>gd (aB es s.w&&aD 1 l2.length) (bP9 (fzL S cs) bytes s none l l2 k)
 |none=>none
def bb9 (S:bq)(es bytes:Nat)(x y:VV)(k:VV→bq→Option β):Option β:=match x with
 | .tgt s l=>cf2 S es bytes s l (jx S es y) k
 |x=>bE4 S es bytes x y k
def bv0 (l:List Int)(i:Nat):Nat×Nat:=
 let at' (k:Nat):Nat:=(l.getD (i+k) 0).toNat
 let cont (k:Nat):Bool:=i+k<l.length&&at' k / 64==2
 let b0:=at' 0
 if b0<0x80 then(b0,1)
 else if b0 / 32==6&&cont 1 then
  let c:=(b0 % 32)*64+at' 1 % 64
  if c≥0x80 then(c,2)else(Utf8.runeError,1)
 else if b0 / 16==14&&cont 1&&cont 2 then
  let c:=(b0 % 16)*4096+(at' 1 % 64)*64+at' 2 % 64
  if c≥0x800&&Utf8.valid c then(c,3)else(Utf8.runeError,1)
 else if b0 / 8==30&&cont 1&&cont 2&&cont 3 then
  let c:=(b0 % 8)*262144+(at' 1 % 64)*4096+(at' 2 % 64)*64+at' 3 % 64
  if c≥0x10000&&Utf8.valid c then(c,4)else(Utf8.runeError,1)
 else(Utf8.runeError,1)
def cC0 (l:List Int)(p:Int):Int:=((bv0 l p.toNat).1:Nat)
def bU4 (l:List Int)(p:Int):Int:=((p.toNat+(bv0 l p.toNat).2:Nat):Int)
def bk9 (n:Int):List Int:=dx (Utf8.encode n)
def bd3 (n:Int):Int:=((UInt8.ofNat n.toNat).toNat:Nat)
def cz4 (S:bq)(v:VV)(k:VV→bq→Option β):Option β:=match v with
 | .it q l=>(match bl S q with
  | .cells es false (.int .i64 p::r)=>gd (decide (0≤p)&&aD 1 es) (cond (decide (p<l.length)) (k (.tup [.bool true, .int .i64 p, .int .i32 (cC0 l p)]) (lE S q (.cells es false (.int .i64 (bU4 l p)::r)))) (k (.tup [.bool false]) S))
  |_=>none)
 |_=>none
def ce8 (S:bq)(v:VV)(k:VV→bq→Option β):Option β:=match v with
 | .str _=>none
 |v=>(match jx S 1 v with
  |some (.lst s l)=>(lK (.list s) (.list (.int .u8)) l).bind fun l2=>k (.str (l2.map bd3)) S
  |some (.cells cs)=>(ut .u8 cs).bind fun l=>k (.str (l.map bd3)) S
  |none=>none)
def cD6 (S:bq)(v:VV)(k:VV→bq→Option β):Option β:=match v with
 | .str _=>none
 |v=>(match jx S 1 v with
  |some (.lst s l)=>(lK (.list s) (.list (.int .i32)) l).bind fun l2=>k (.str (l2.flatMap bk9)) S
  |some (.cells cs)=>(ut .i32 cs).bind fun l=>k (.str (l.flatMap bk9)) S
  |none=>none)
def bj2 :Nat→List Int→Nat→List Int
 |0,_,_=>[]
 |b+1,l,i=>if i<l.length then(((bv0 l i).1:Nat):Int)::bj2 b l (i+(bv0 l i).2)else []
def aC5 (l:List Int):List Int:=bj2 l.length l 0
def cd8 (S:bq)(v:VV)(k:VV→bq→Option β):Option β:=match v with
 | .str l=>gd (aD l.length 70368744177664) (k (.full S.length) (S++[.arr (.int .i32) false (aC5 l)]))
 |_=>none
def aF8 {α:Type}(l:List α)(o n:Nat)(m:List α):List α:=l.take o++(m.take n++l.drop (o+min n m.length))
def aI1 (kd:IntKind)(m:List Int):Nat→List VV→Option (List VV)
 |_,[]=>some []
 |j, .int k n::r=>cond (decide (k=kd)) ((aI1 kd m (j+1) r).bind fun l=>some (.int k (m.getD j n)::l)) none
 |_,_=>none
def cv8 (S:bq)(es:Nat)(d y:VV)(k:VV→bq→Option β):Option β:=
 let go (b o n:Nat):Option β:=match bl S b,jx S es y with
  | .arr s false l,some (.lst s' l')=>(lK (.list s') (.list s) l').bind fun l2=>gd (aB es s.w) (k (.int .i64 (min l2.length n:Nat)) (lE S b (.arr s false (aF8 l o n l2))))
  | .arr s false l,some (.cells cs)=>(ut .u64 cs).bind fun m=>(lK (.list (.int .u64)) (.list s) m).bind fun l2=>gd (aB es s.w) (k (.int .i64 (min l2.length n:Nat)) (lE S b (.arr s false (aF8 l o n l2))))
  | .cells 1 false l,some (.lst (.int kd) m)=>gd (aB es 1&&aD (o+n) l.length) (match aI1 kd m 0 ((l.drop o).take n)with
   |some c=>k (.int .i64 (min m.length n:Nat)) (lE S b (.cells 1 false (l.take o++c++l.drop (o+n))))
   |none=>none)
  |_,_=>none
 match d with
 | .full b=>(match lenOf S d with
  |some n=>go b 0 n
  |none=>none)
 | .part b o n=>go b o n
 |_=>none
def aT5 :List Value→Option Sh
 |[.int k 0]=>some (.int k)
 |[.bool false]=>some .bool
 | .int k 0::r=>(aT5 r).bind fun s=>some (.pair (.int k) s)
 | .bool false::r=>(aT5 r).bind fun s=>some (.pair .bool s)
 |_=>none
def sG :(s:Sh)→El s
 | .int _=>(0:Int)
 | .bool=>false
 | .str=>[]
 | .list _=>[]
 | .pair a b=>(sG a,sG b)
def cy4 (S:bq)(es bytes:Nat)(z:List Value)(l c:VV)(k:VV→bq→Option β):Option β:=match l,c,aT5 z with
 | .int _ l, .int _ c,some s=>gd (aB es s.w&&decide (0≤l)&&decide (l≤c)&&decide (bytes*c≤140737488355328)&&aD 1 bytes) (k (.full S.length) (S++[.arr s false (bD l.toNat (sG s))]))
 |_,_,_=>none
def bW6 (es:Nat)(z:List Value)(l:Int):Option More:=match aT5 z with
 |some s=>cond (aB es s.w) (some (.lst s (bD l.toNat (sG s)))) none
 |none=>none
def og (bytes:Nat)(l:Int):Bool:=decide (0≤l)&&(decide (l≤9223372036854775807)&&decide (l*(bytes:Int)≤281474976710656))
def bc0 (S:bq)(es bytes:Nat)(z:List Value)(x l:VV)(k:VV→bq→Option β):Option β:=match l with
 | .int _ l=>gd (og bytes l) (aX3 S es bytes (yI S es x) (bW6 es z l) k)
 |_=>none
end
end
section
open List renaming replicate → bB
open Nat renaming beq → aB, ble → aD
inductive Sk where
 |undef
 |leaf (s:Sh)
 |cint (k:IntKind) (n:Int)
 |nilp
 |nils
 |nilf
 |ptr (j o:Nat)
 |full (j:Nat)
 |pin (s:Sh) (o:Nat)
 |fn (f:Nat) (a c:List Sk)
 |agg (l:List Sk)
 |tup (l:List Sk)
inductive OSk where
 |dead
 |cells (es:Nat) (ro:Bool) (l:List Sk)
 |arr (ro:Bool) (s:Sh)
structure Leaf where
 s:Sh
 v:El s
structure Src where
 k:Nat
 cut:Option Nat
structure DSt where
 m:List (Option Src)
 ls:List Leaf
 lent:List Nat
def DSt.push (st:DSt)(s:Sh)(v:El s):DSt:={st with ls:=st.ls++[⟨s,v⟩]}
def DSt.lend (st:DSt):VV→DSt
 | .full k=>{st with lent:=k::st.lent}
 | .part k _ _=>{st with lent:=k::st.lent}
 |_=>st
def DSt.link (N:Nat)(st:DSt)(j:Nat)(x:Option Src):Option DSt:=
 cond (Nat.blt j N) (match x with
  |some ⟨k,none⟩=>cond (aB k j) (some st) none
  |_=>none)
 (match nth st.m (j-N)with
 |some (some ⟨k,none⟩)=>(match x with
  |some ⟨k',none⟩=>cond (aB k k') (some st) none
  |_=>none)
 |some _=>none
 |none=>cond (aB (j-N) st.m.length) (some {st with m:=st.m++[x]}) none)
mutual
def dec (S:bq)(N:Nat):Sk→VV→DSt→Option DSt
 | .undef,_,st=>some st
 | .leaf s,v,st=>(match s,v with
  | .int k, .int k' n=>cond (decide (k'=k)) (some (st.push (.int k) n)) none
  | .bool, .bool b=>some (st.push .bool b)
  | .str, .str l=>some (st.push .str l)
  | .list s,v=>(ci1 S s v).bind fun l=>some ((st.lend v).push (.list s) l)
  |_,_=>none)
 | .cint k n, .int k' n',st=>cond (decide (k'=k)&&decide (n'=n)) (some st) none
 | .nilp, .nilp,st=>some st
 | .nils, .nils,st=>some st
 | .nilf, .nilf,st=>some st
 | .ptr j o, .ptr k o',st=>cond (aB o o') (st.link N j (some ⟨k,none⟩)) none
 | .full j,v,st=>(match v with
  | .full k=>st.link N j (some ⟨k,none⟩)
  | .part k 0 n=>st.link N j (some ⟨k,some n⟩)
  | .nils=>st.link N j none
  |_=>none)
 | .pin s o, .pin s' x o',st=>cond (aB o o') ((lK s' s x).bind fun y=>some (st.push s y)) none
 | .fn f a c, .fn f' a' c',st=>cond (aB f f') ((aA6 S N a a' st).bind fun st1=>aA6 S N c c' st1) none
 | .agg l, .agg l',st=>aA6 S N l l' st
 | .tup l, .tup l',st=>aA6 S N l l' st
 |_,_,_=>none
def aA6 (S:bq)(N:Nat):List Sk→List VV→DSt→Option DSt
 |[],[],st=>some st
 |k::r,v::r',st=>(dec S N k v st).bind fun st1=>aA6 S N r r' st1
 |_,_,_=>none
end
def bd7 {α:Type}:Option Nat→List α→List α
 |none,l=>l
 |some n,l=>l.take n
def bZ6 (S:bq)(N:Nat):OSk→Option Src→DSt→Option DSt
 | .dead,_,st=>some st
 | .cells es ro l,some ⟨k,none⟩,st=>(match bl S k with
  | .cells es' fz cs=>cond (aB es es'&&(ro|| !fz)) (aA6 S N l cs (cond ro {st with lent:=k::st.lent} st)) none
  |_=>none)
 | .arr ro s,none,st=>cond ro none (some (st.push (.list s) []))
 | .arr ro s,some ⟨k,cut⟩,st=>cond (ro|| !(bl S k).frozen) ((ci1 S s (.full k)).bind fun l=>some ((cond ro {st with lent:=k::st.lent} st).push (.list s) (bd7 cut l))) none
 |_,_,_=>none
def aM2 (S:bq)(N:Nat):List OSk→List Nat→DSt→Option DSt
 |[],[],st=>some st
 |o::r,j::js,st=>(bZ6 S N o (some ⟨j,none⟩) st).bind fun st1=>aM2 S N r js st1
 |_,_,_=>none
def sy (S:bq)(N:Nat):List OSk→Nat→DSt→Option DSt
 |[],i,st=>cond (aB i st.m.length) (some st) none
 |o::r,i,st=>(match nth st.m i with
  |some x=>(bZ6 S N o x st).bind fun st1=>sy S N r (i+1) st1
  |none=>none)
def OSk.ro :OSk→Bool
 | .cells _ ro _=>ro
 | .arr ro _=>ro
 | .dead=>false
def mK (k:Nat):List Nat→Bool
 |[]=>false
 |a::r=>cond (aB a k) true (mK k r)
def ay5 :List Nat→Bool
 |[]=>true
 |a::r=>cond (mK a r) false (ay5 r)
def oc :List (Option Src)→List Nat
 |[]=>[]
 |none::r=>oc r
 |some x::r=>x.k::oc r
def kK :List OSk→List (Option Src)→List Nat
 |o::r,some x::s=>cond o.ro (kK r s) (x.k::kK r s)
 |_::r,none::s=>kK r s
 |_,_=>[]
def ae7 (w:List Nat)(l:List Nat):Bool:=w.all fun k=> !mK k l
structure wY where
 vals:List Sk
 fix:List OSk
 free:List OSk
def ob (S:bq)(N:Nat)(fx:List Nat)(sk:wY)(vals:List VV):Option DSt:=
 (aA6 S N sk.vals vals ⟨[],[],[]⟩).bind fun st=>(aM2 S N sk.fix fx st).bind fun st1=>(sy S N sk.free 0 st1).bind fun st2=>
  cond (ay5 (fx++oc st2.m)&&ae7 (fx++kK sk.free st2.m) st2.lent) (some st2) none
mutual
def enc (f:Nat→Nat):Sk→List Leaf→Option (VV×List Leaf)
 | .undef,ls=>some (.undef,ls)
 | .leaf s,x::ls=>(lK x.s s x.v).bind fun(y:El s)=>some ((match s,y with
  | .int k,n=> .int k n
  | .bool,b=> .bool b
  | .str,l=> .str l
  | .list s,l=> .lst s l
  | .pair _ _,_=> .undef),ls)
 | .cint k n,ls=>some (.int k n,ls)
 | .nilp,ls=>some (.nilp,ls)
 | .nils,ls=>some (.nils,ls)
 | .nilf,ls=>some (.nilf,ls)
 | .ptr j o,ls=>some (.ptr (f j) o,ls)
 | .full j,ls=>some (.full (f j),ls)
 | .pin s o,x::ls=>(lK x.s s x.v).bind fun(y:El s)=>some (.pin s y o,ls)
 | .fn g a c,ls=>(bp7 f a ls).bind fun p=>(bp7 f c p.2).bind fun q=>some (.fn g p.1 q.1,q.2)
 | .agg l,ls=>(bp7 f l ls).bind fun p=>some (.agg p.1,p.2)
 | .tup l,ls=>(bp7 f l ls).bind fun p=>some (.tup p.1,p.2)
 |_,_=>none
def bp7 (f:Nat→Nat):List Sk→List Leaf→Option (List VV×List Leaf)
 |[],ls=>some ([],ls)
 |k::r,ls=>(enc f k ls).bind fun p=>(bp7 f r p.2).bind fun q=>some (p.1::q.1,q.2)
end
def bp8 (f:Nat→Nat):OSk→List Leaf→Option (Blk×List Leaf)
 | .dead,ls=>some (.dead,ls)
 | .cells es ro l,ls=>(bp7 f l ls).bind fun p=>some (.cells es ro p.1,p.2)
 | .arr ro s,x::ls=>(lK x.s (.list s) x.v).bind fun l=>some (.arr s ro l,ls)
 | .arr _ _,[]=>none
def ah5 (f:Nat→Nat):List OSk→List Leaf→Option (List Blk×List Leaf)
 |[],ls=>some ([],ls)
 |o::r,ls=>(bp8 f o ls).bind fun p=>(ah5 f r p.2).bind fun q=>some (p.1::q.1,q.2)
def pf (f:Nat→Nat)(sk:wY)(ls:List Leaf):Option (List VV×List Blk×List Blk):=
 (bp7 f sk.vals ls).bind fun p=>(ah5 f sk.fix p.2).bind fun q=>(ah5 f sk.free q.2).bind fun r=>match r.2 with
  |[]=>some (p.1,q.1,r.1)
  |_::_=>none
mutual
def Sk.shs :Sk→List Sh
 | .leaf s=>[s]
 | .pin s _=>[s]
 | .fn _ a c=>ce2 a++ce2 c
 | .agg l=>ce2 l
 | .tup l=>ce2 l
 |_=>[]
def ce2 :List Sk→List Sh
 |[]=>[]
 |k::r=>k.shs++ce2 r
end
def OSk.shs :OSk→List Sh
 | .dead=>[]
 | .cells _ _ l=>ce2 l
 | .arr _ s=>[.list s]
def da1 :List OSk→List Sh
 |[]=>[]
 |o::r=>o.shs++da1 r
def wY.shs (sk:wY):List Sh:=ce2 sk.vals++(da1 sk.fix++da1 sk.free)
@[reducible] def Tup :List Sh→Type
 |[]=>Unit
 |[s]=>El s
 |s::s'::r=>El s×Tup (s'::r)
def toL :(ss:List Sh)→Tup ss→List Leaf
 |[],_=>[]
 |[s],x=>[⟨s,x⟩]
 |s::s'::r,x=>⟨s,x.1⟩::toL (s'::r) x.2
def ofL :(ss:List Sh)→List Leaf→Option (Tup ss)
 |[],[]=>some ()
 |[s],[x]=>lK x.s s x.v
 |s::s'::r,x::ls=>(lK x.s s x.v).bind fun a=>(ofL (s'::r) ls).bind fun b=>some (a,b)
 |_,_=>none
inductive XK where
 |normal
 |exit (id:Nat)
 |ret
structure Alt where
 x:XK
 ts:List Nat
 sk:wY
@[reducible] def Alt.Ty (a:Alt):Type:=Tup a.sk.shs
@[reducible] def ug :List Alt→Type
 |[]=>Empty
 |[a]=>a.Ty
 |a::b::r=>a.Ty⊕ug (b::r)
def cj {α γ β:Type}(s:α⊕γ)(f:α→Option β)(g:γ→Option β):Option β:=match s with
 | .inl a=>f a
 | .inr b=>g b
def cu4 {β:Type}:(l:List Alt)→ug l→((a:Alt)→a.Ty→Option β)→Option β
 |[],_,_=>none
 |[a],t,k=>k a t
 |a::b::r,s,k=>cj s (fun t=>k a t) fun s'=>cu4 (b::r) s' k
def wY.noRo (sk:wY):Bool:=sk.fix.all (fun o=> !o.ro)&&sk.free.all fun o=> !o.ro
def aA7 (S:bq)(N:Nat)(fx:List Nat)(sk:wY)(vals:List VV):Option (Tup sk.shs):=
 gd sk.noRo ((ob S N fx sk vals).bind fun st=>ofL sk.shs st.ls)
def uQ (S:bq)(N:Nat)(fx:List Nat)(vals:List Nat→List VV)(hit:XK→Bool):(l:List Alt)→Option (ug l)
 |[]=>none
 |[a]=>cond (hit a.x) (aA7 S N fx a.sk (vals a.ts)) none
 |a::b::r=>match cond (hit a.x) (aA7 S N fx a.sk (vals a.ts)) none with
  |some t=>some (.inl t)
  |none=>(uQ S N fx vals hit (b::r)).bind fun s=>some (.inr s)
def Sh.al :Sh→Bool
 | .list _=>true
 | .pair a b=>a.al||b.al
 |_=>false
mutual
def alV :VV→Bool
 | .lst _ _=>true
 | .tgt _ _=>true
 | .pin _ _ _=>true
 | .fn _ a c=>alL a||alL c
 | .agg l=>alL l
 | .tup l=>alL l
 |_=>false
def alL :List VV→Bool
 |[]=>false
 |v::r=>alV v||alL r
end
def alB :Blk→Bool
 | .dead=>false
 | .cells _ _ l=>alL l
 | .arr s _ _=>s.al
def ah4 (vs:List VV)(fs bs:List Blk):Bool:=alL vs||fs.any alB||bs.any alB
def Blk.may :Blk→Bool
 | .dead=>true
 | .cells _ z _=> !z
 | .arr _ z _=> !z
def aW6 (S:bq)(fx:List Nat):Bool:=fx.all fun j=>Nat.blt j S.length&&(bl S j).may
structure FSum where
 f:Nat
 vals:List Sk
 objs:List OSk
 outs:List Alt
 run:Tup (wY.shs ⟨vals,[],objs⟩)→Option (ug outs)
def FSum.ins (F:FSum):wY:=⟨F.vals,[],F.objs⟩
def sC :List OSk→Nat→List Nat
 |[],_=>[]
 |o::r,i=>cond o.ro (sC r (i+1)) (i::sC r (i+1))
def uN (m:List (Option Src))(n size j:Nat):Nat:=cond (Nat.blt j n) (match nth m j with
 |some (some x)=>x.k
 |_=>size) (size+(j-n))
def uA :List Nat→List Blk→bq→Option bq
 |[],[],S=>some S
 |j::js,b::bs,S=>uA js bs (lE S j b)
 |_,_,_=>none
def cw6 :Sk→VV→bq→bq
 | .leaf (.list (.list _)),v,S=>cX5 S v
 |_,_,S=>S
def aq2 :List Sk→List VV→bq→bq
 |k::r,v::vs,S=>aq2 r vs (cw6 k v S)
 |_,_,S=>S
def ah6 :List Nat→bq→bq
 |[],S=>S
 |k::r,S=>ah6 r (lE S k (bl S k).freeze)
def cS4 {β:Type}(F:FSum)(t:Tup F.ins.shs)(st:DSt)(S:bq)(k:VV→bq→Option β):Option β:=
 (F.run t).bind fun o=>cu4 F.outs o fun a u=>match pf (uN st.m F.objs.length S.length) a.sk (toL a.sk.shs u)with
  |some ([v],fs,bs)=>(match uA (kK F.objs st.m) fs (cond (ah4 [v] fs bs) (ah6 st.lent S) S)with
   |some S'=>k v (S'++bs)
   |none=>none)
  |_=>none
def bt9 :List (Option Src)→Bool
 |[]=>true
 |some ⟨_,none⟩::r=>bt9 r
 |_=>false
def bd6 {β:Type}:List FSum→Nat→List VV→bq→(VV→bq→Option β)→Option β
 |[],_,_,_,_=>none
 |F::r,f,args,S,k=>cond (aB F.f f) (match ob (aq2 F.vals args S) 0 [] F.ins args with
  |some st=>(match ofL F.ins.shs st.ls with
   |some t=>gd (bt9 st.m&&aW6 (aq2 F.vals args S) (kK F.objs st.m)) (cS4 F t st (aq2 F.vals args S) k)
   |none=>bd6 r f args S k)
  |none=>bd6 r f args S k) (bd6 r f args S k)
structure Inl where
 f:Nat
 run:(β:Type)→List VV→bq→(VV→bq→Option β)→Option β
structure Tab where
 fs:List FSum
 is:List Inl
def cI8 :List Inl→Nat→Bool
 |[],_=>false
 |I::r,f=>cond (aB I.f f) true (cI8 r f)
def cg4 {β:Type}:List Inl→Nat→List VV→bq→(VV→bq→Option β)→Option β
 |[],_,_,_,_=>none
 |I::r,f,args,S,k=>cond (aB I.f f) (I.run β args S k) (cg4 r f args S k)
def cg5 {β:Type}(tab:Tab)(f:Nat)(args:List VV)(S:bq)(k:VV→bq→Option β):Option β:=
 cond (cI8 tab.is f) (cg4 tab.is f args S k) (bd6 tab.fs f args S k)
def bc6 :Nat→List Nat
 |0=>[]
 |n+1=>n::bc6 n
def cq3 {β:Type}(S:bq)(x:Option VV)(k:VV→bq→Option β):Option β:=match x with
 |some v=>k v S
 |none=>none
def be2 {β:Type}(tab:Tab)(op:AOp)(e:et)(S:bq)(k:VV→bq→Option β):Option β:=match op with
 | .move x=>k (ev e x) S
 | .pick c a b=>(match ev e c with
  | .bool p=>cA8 p (ev e a) (ev e b) S k
  |_=>none)
 | .alloc es z=>gd (aD 1 es) (k (.ptr S.length 0) (S++[ao8 es z]))
 | .box es x=>gd (aD 1 es&&oC (mY (ev e x))) (k (.ptr S.length 0) (S++[.cells es false (mY (ev e x))]))
 | .build z ps=>(match aS2 (z.map aW5) (yN e ps)with
  |some cs=>k (.agg cs) S
  |none=>none)
 | .buildSlice es ln z ps=>(match aS2 ((bB ln (z.map aW5)).flatten) (yN e ps)with
  |some cs=>gd (oC cs&&aB (ln*es) cs.length&&aD 1 es) (k (.full S.length) (S++[.cells es false cs]))
  |none=>none)
 | .load x=>bu6 S 1 false (ev e x) k
 | .loadN n x=>bu6 S n true (ev e x) k
 | .store n a x=>gd (aB (mY (ev e x)).length n&&oC (mY (ev e x))) (ce6 S (ev e a) (mY (ev e x)) fun S'=>k .undef S')
 | .nilCheck x=>(match ev e x with
  | .fn f a c=>k (.fn f a c) S
  |v=>gd (bf2 S v) (k v S))
 | .bin op x y=>cU9 op (ev e x) (ev e y) fun v=>k v S
 | .eqv kd neg x y=>(match cX2 S kd (ev e x) (ev e y)with
  |some b=>k (.bool (cy6 neg b)) S
  |none=>none)
 | .eqCells neg ks x y=>(match ev e x,ev e y with
  | .agg a, .agg b=>(match bp9 ks a b with
   |some p=>k (.bool (cy6 neg p)) S
   |none=>none)
  |_,_=>none)
 | .un op x=>unK op (ev e x) fun v=>k v S
 | .conv kd x=>(match aH2 (ev e x)with
  |some n=>k (.int kd (kd.wrap n)) S
  |none=>none)
 | .mkFunc f a c=>k (.fn f (a.map (ev e)) (c.map (ev e))) S
 | .makeSlice es bytes z l c=>cy4 S es bytes z (ev e l) (ev e c) k
 | .slice es x lo hi=>ce3 S es (ev e x) (lo.map (ev e)) (hi.map (ev e)) k
 | .sliceStr x lo hi=>aO9 S (ev e x) (lo.map (ev e)) (hi.map (ev e)) k
 | .sliceArr es n x lo hi=>aO8 S es n (ev e x) (lo.map (ev e)) (hi.map (ev e)) k
 | .off n x=>cq3 S (cL0 S n (ev e x)) k
 | .idx es x i=>cJ1 S es (ev e x) (ev e i) k
 | .idxA ln es x i=>ch3 S ln es (ev e x) (ev e i) k
 | .fieldV o n agg x=>(match ev e x with
  | .agg cs=>cond agg (k (.agg (zr cs o n)) S) (cq3 S (nth cs o) k)
  |_=>none)
 | .indexV ln es agg x i=>(match ev e x,ev e i with
  | .agg cs, .int _ i=>(ix i ln).bind fun j=>cond agg (k (.agg (zr cs (j*es) es)) S) (gd (aB es 1&&aB cs.length ln) (bN7 cs j S k))
  |_,_=>none)
 | .indexS x i=>(match ev e x,ev e i with
  | .str l, .int _ i=>(rd l i).bind fun b=>k (.int .u8 b) S
  |_,_=>none)
 | .extract x i=>(match ev e x with
  | .tup vs=>cq3 S (nth vs i) k
  |_=>none)
 | .call f xs=>cg5 tab f (xs.map (ev e)) S k
 | .callv x xs=>(match ev e x with
  | .fn f a c=>cg5 tab f (a++xs.map (ev e)++c) S k
  |_=>none)
 | .append es bytes s x=>bb9 S es bytes (ev e s) (ev e x) k
 | .stuck=>none
 | .range x=>(match ev e x with
  | .str l=>k (.it S.length l) (S++[.cells 1 false [.int .i64 0]])
  |_=>none)
 | .next x=>cz4 S (ev e x) k
 | .newB=>k (.bld S.length) (S++[.cells 1 false [.str []]])
 | .encR x=>(match aH2 (ev e x)with
  |some n=>k (.str (bk9 n)) S
  |none=>none)
 | .strOf x=>ce8 S (ev e x) k
 | .strOfR x=>cD6 S (ev e x) k
 | .runesOf x=>cd8 S (ev e x) k
 | .capN x=>(match ev e x with
  | .nils=>k (.int .i64 0) S
  |_=>none)
 | .sliceX x hi mx=>bJ1 S (ev e x) (ev e hi) (ev e mx) k
 | .appendZ es bytes z s x=>bc0 S es bytes z (ev e s) (ev e x) k
 | .copy es d s=>cv8 S es (ev e d) (ev e s) k
 | .len x=>(match ev e x with
  | .str _=>none
  |v=>(match lenOf S v with
   |some n=>k (.int .i64 n) S
   |none=>none))
 | .lenS x=>(match ev e x with
  | .str l=>k (.int .i64 l.length) S
  |_=>none)
 | .lenC n=>k (.int .i64 n) S
 | .most x y=>(match ev e x,ev e y with
  | .int kd a, .int _ b=>k (.int kd (max a b)) S
  |_,_=>none)
 | .least x y=>(match ev e x,ev e y with
  | .int kd a, .int _ b=>k (.int kd (min a b)) S
  |_,_=>none)
section
variable (tab:Tab)
def ap8 {β:Type}:List AOper→et→bq→(et→bq→Option β)→Option β
 |[],e,S,k=>k e S
 |o::r,e,S,k=>match o.guard with
  |none=>be2 tab o.op e S fun v S'=>ap8 r (putO e o.dst v) S' k
  |some (t,w)=>match mD e t with
   | .bool p=>cond p
    (cond w (be2 tab o.op (pK e t (.bool true)) S fun v S'=>ap8 r (putO (pK e t (.bool true)) o.dst v) S' k) (ap8 r (putO (pK e t (.bool true)) o.dst (.tup [])) S k))
    (cond w (ap8 r (putO (pK e t (.bool false)) o.dst (.tup [])) S k) (be2 tab o.op (pK e t (.bool false)) S fun v S'=>ap8 r (putO (pK e t (.bool false)) o.dst v) S' k))
   | .tup []=>ap8 r (putO e o.dst (.tup [])) S k
   |_=>none
def ul :VV→Option Nat
 | .ptr b _=>some b
 | .it b _=>some b
 | .bld b=>some b
 | .pix b _ _ _=>some b
 | .pel b _ _=>some b
 | .full b=>some b
 | .part b _ _=>some b
 |_=>none
def cu7 (S:bq)(v:VV):Option (Option Nat):=match v with
 | .pin _ _ _| .lst _ _| .nils=>some none
 |v=>(match ul v with
  |some b=>cond (bl S b).live (some (some b)) none
  |none=>none)
def cF0 (S:bq)(op:AOp)(e:et):Option (Option Nat):=match op with
 | .load x| .loadN _ x| .sliceArr _ _ x _ _| .slice _ x _ _=>cu7 S (ev e x)
 |_=>none
def cq2 :Option Nat→List Nat
 |some b=>[b]
 |none=>[]
def td :List FSum→Nat→List VV→bq→List Nat
 |[],_,_,_=>[]
 |F::r,f,args,S=>cond (aB F.f f) (match ob (aq2 F.vals args S) 0 [] F.ins args with
  |some st=>(match ofL F.ins.shs st.ls with
   |some _=>kK F.objs st.m
   |none=>td r f args S)
  |none=>td r f args S) (td r f args S)
def bF3 (f:Nat)(args:List VV)(S:bq):List Nat:=cond (cI8 tab.is f) (bc6 S.length) (td tab.fs f args S)
def aG4 (op:AOp)(e:et)(S:bq):List Nat:=match op with
 | .store _ a _=>cq2 (ul (ev e a))
 | .append _ _ s _=>cq2 (ul (ev e s))
 | .appendZ _ _ _ s _=>cq2 (ul (ev e s))
 | .copy _ d _=>cq2 (ul (ev e d))
 | .next x=>cq2 (ul (ev e x))
 | .call f xs=>bF3 tab f (xs.map (ev e)) S
 | .callv x xs=>(match ev e x with
  | .fn f a c=>bF3 tab f (a++xs.map (ev e)++c) S
  |_=>[])
 |_=>[]
abbrev Chk :=List (Nat×Option (Option Nat))
def aX2 (d:List Nat):Chk→Chk
 |[]=>[]
 |(i,some (some b))::r=>(i,cond (mK b d) none (some (some b)))::aX2 d r
 |x::r=>x::aX2 d r
def mn (is:List Nat):Chk→Bool
 |[]=>true
 |(i,b)::r=>cond (mK i is) (match b with
  |some _=>mn is r
  |none=>false) (mn is r)
def aM5 {β:Type}(it:SItem)(chk:Chk)(e:et)(S:bq)(k:Chk→et→bq→Option β):Option β:=
 cond it.mover (gd (mn it.chks (aX2 (aG4 tab it.o.op e S) chk)) (be2 tab it.o.op e S fun v S'=>k (aX2 (aG4 tab it.o.op e S) chk) (putO e it.o.dst v) S'))
  (gd (it.o.op.still&&(!it.keep||it.o.op.isLoad)) (be2 tab it.o.op e S fun v S'=>k (cond it.keep ((it.idx,cF0 S it.o.op e)::chk) chk) (putO e it.o.dst v) S'))
def sB {β:Type}:List SItem→Chk→et→bq→(et→bq→Option β)→Option β
 |[],_,e,S,k=>k e S
 |it::r,chk,e,S,k=>match it.o.guard with
  |none=>aM5 tab it chk e S fun chk' e' S'=>sB r chk' e' S' k
  |some (t,w)=>match mD e t with
   | .bool p=>cond p
    (cond w (aM5 tab it chk (pK e t (.bool true)) S fun chk' e' S'=>sB r chk' e' S' k) (sB r chk (putO (pK e t (.bool true)) it.o.dst (.tup [])) S k))
    (cond w (sB r chk (putO (pK e t (.bool false)) it.o.dst (.tup [])) S k) (aM5 tab it chk (pK e t (.bool false)) S fun chk' e' S'=>sB r chk' e' S' k))
   | .tup []=>sB r chk (putO e it.o.dst (.tup [])) S k
   |_=>none
end
structure LItem where
 i:Nat
 kind:Nat
 chks:List Nat
 need:List Nat
def dv (ops:List (AOper×List Nat))(i:Nat):AOper:=match ops[i]? with
 |some (o,_)=>o
 |none=>⟨none, .lenC 0,none⟩
def cj8 :VV→Bool
 | .int _ _| .bool _| .str _=>true
 |_=>false
def cj7 :Value→Bool
 | .int _ _| .bool _| .string _=>true
 |_=>false
def ae8 {β:Type}(op:AOp)(e:et)(k:Blk→Bool→Option β):Option β:=match op with
 | .alloc es z=>gd (aD 1 es) (k (ao8 es z) false)
 | .makeSlice es bytes z l c=>(match ev e l,ev e c,aT5 z with
  | .int _ l, .int _ c,some s=>gd (aB es s.w&&decide (0≤l)&&decide (l≤c)&&decide (bytes*c≤140737488355328)&&aD 1 bytes) (k (.arr s false (bB l.toNat (sG s))) true)
  |_,_,_=>none)
 | .buildSlice es ln z ps=>(match aS2 ((bB ln (z.map aW5)).flatten) (yN e ps)with
  |some cs=>gd (oC cs&&aB (ln*es) cs.length&&aD 1 es&&cs.all cj8&&z.all cj7) (k (.cells es false cs) true)
  |none=>none)
 |_=>none
def vvF (w:Bool)(k:Nat):VV:=cond w (.full k) (.ptr k 0)
section
variable (tab:Tab)
def evL {β:Type}(ops:List (AOper×List Nat)):List LItem→Chk→et→bq→(et→bq→Option β)→Option β
 |[],_,e,S,k=>k e S
 |it::r,chk,e,S,k=>
  cond (aB it.kind 3) (ae8 (dv ops it.i).op e fun _ _=>evL ops r chk e S k)<|
  cond (aB it.kind 2) (ae8 (dv ops it.i).op e fun blk w=>evL ops r chk (putO e (dv ops it.i).dst (vvF w S.length)) (S++[blk]) k)
  (cond (aB it.kind 1)
   (be2 tab (dv ops it.i).op e S fun v S'=>gd (mn it.chks (aX2 (aG4 tab (dv ops it.i).op e S) chk)&&mn it.need (aX2 (aG4 tab (dv ops it.i).op e S) chk)) (evL ops r (aX2 (aG4 tab (dv ops it.i).op e S) chk) (putO e (dv ops it.i).dst v) S' k))
   (gd (dv ops it.i).op.still (be2 tab (dv ops it.i).op e S fun v S'=>gd (mn it.need (cond (dv ops it.i).op.isLoad ((it.i,cF0 S (dv ops it.i).op e)::chk) chk)) (evL ops r (cond (dv ops it.i).op.isLoad ((it.i,cF0 S (dv ops it.i).op e)::chk) chk) (putO e (dv ops it.i).dst v) S' k))))
end
def bS0 :Operand→List Nat
 | .tmp t=>[t]
 |_=>[]
def yl :AOp→List Nat
 | .makeSlice _ _ _ l c=>bS0 l++bS0 c
 | .buildSlice _ _ _ ps=>ps.flatMap fun p=>bS0 p.2.2
 |_=>[]
def bQ3 :AOp→Bool
 | .alloc es _=>aD 1 es
 |_=>false
def xi :AOp→Bool
 | .alloc _ _| .makeSlice _ _ _ _ _=>true
 | .buildSlice _ _ z _=>z.all cj7
 |_=>false
def aH7 (d:Option Nat)(l:List Nat):Bool:=match d with
 |some t=> !mK t l
 |none=>true
def neO (d d':Option Nat):Bool:=match d,d' with
 |some t,some t'=> !Nat.beq t t'
 |_,_=>true
def ay7 (i:Nat):List Nat→List Nat
 |[]=>[]
 |a::r=>cond (aB a i) r (a::ay7 i r)
def ag5 :List LItem→List Nat→Nat→Option (List Nat×LItem×List LItem)
 |[],_,_=>none
 |it::r,P,i=>cond (aB it.kind 3) (ag5 r P i)<|cond (aB it.kind 2) (cond (mK it.i P) (ag5 r (ay7 it.i P) i) none) (cond (aB it.i i) (some (P,it,r)) none)
def ca3 :List LItem→List Nat→Bool
 |[],P=>P.isEmpty
 |it::r,P=>cond (aB it.kind 3) (ca3 r P) (aB it.kind 2&&mK it.i P&&ca3 r (ay7 it.i P))
def cY3 :AOp→Bool
 | .move _=>true
 |_=>false
def bf0 (ops:List (AOper×List Nat)):List LItem→Nat→Bool
 |[],_=>false
 |it::r,m=>cond (aB it.kind 3) (aB it.i m||bf0 ops r m)<|(aB it.kind 2&&(aB it.i m||(aH7 (dv ops it.i).dst (yl (dv ops m).op)&&bf0 ops r m)))||(aB it.kind 0&&cY3 (dv ops it.i).op&&aH7 (dv ops it.i).dst (yl (dv ops m).op)&&bf0 ops r m)
def ay8 (ops:List (AOper×List Nat))(self:Nat)(ex:Bool)(P:List Nat)(r:List LItem):Bool:=
 P.all (fun q=>neO (dv ops self).dst (dv ops q).dst&&aH7 (dv ops self).dst (yl (dv ops q).op))&&
 r.all fun it=> !Nat.beq it.kind 2||(ex&&aB it.i self)||neO (dv ops self).dst (dv ops it.i).dst
def bE9 (ops:List (AOper×List Nat)):Nat→List Nat→List Nat→List Nat→List Nat→List LItem→Bool
 |0,_,P,_,_,r=>ca3 r P
 |f+1,D,P,ls,nd,r=>match jY ops D with
  |some i=>(dv ops i).guard.isNone&&(match ag5 r P i with
   |some (P',it,r')=>aB it.kind 0&&ay8 ops i false P' r'&&bE9 ops f (i::D) P' (cond (dv ops i).op.isLoad (i::ls) ls) it.need r'
   |none=>false)
  |none=>match er ops D with
   |[]=>ca3 r P
   |ms=>ms.all fun m=>(dv ops m).guard.isNone&&cond (xi (dv ops m).op)
    (!mK m P&&r.any (fun it=>aB it.kind 2&&aB it.i m)&&(bQ3 (dv ops m).op||bf0 ops r m)&&ay8 ops m true P r&&aH7 (dv ops m).dst (yl (dv ops m).op)&&ls.all (fun i=>uO ops i m||mK i nd)&&bE9 ops f (m::D) (m::P) ls nd r)
    (match ag5 r P m with
    |some (P',it,r')=>aB it.kind 1&&ay8 ops m false P' r'&&ls.all (fun i=>uO ops i m||mK i it.chks)&&bE9 ops f (m::D) P' ls it.need r'
    |none=>false)
def af0 (ops:List (AOper×List Nat))(all:List Nat):List Nat→List Nat→List LItem
 |[],_=>[]
 |i::r,ls=>
  cond (aD 1000 i) (⟨i-1000,3,[],[]⟩::af0 ops all r ls)<|
  let o:=(dv ops i).op
  let ls':=cond o.isLoad (i::ls) ls
  let fr:=r.filter fun m=>xi (dv ops m).op
  ⟨i,cond (xi o) 2 (cond o.still 0 1),ls.filter fun j=> !uO ops j i,ls'.filter fun j=>fr.any fun m=> !uO ops j m⟩::af0 ops all r ls'
def bs4 (ops:List (AOper×List Nat)):List LItem→Bool
 |[]=>true
 |it::r=>r.all (fun j=> !Nat.beq it.kind 2|| !Nat.beq j.kind 2||neO (dv ops it.i).dst (dv ops j.i).dst)&&bs4 ops r
def au1 (ops:List (AOper×List Nat)):List LItem→List Nat
 |[]=>[]
 |it::r=>cond (aB it.kind 2) ((match(dv ops it.i).dst with
  |some d=>[d]
  |none=>[])++au1 ops r) (au1 ops r)
inductive AT where
 |no
 |n (l r:AT)
 |lp (fx:List Nat) (head:Alt) (exits:List Alt) (b:AT)
 |jn (fx mov:List Nat) (exits:List Alt) (l r:AT)
 |sz (n:Nat) (l r:AT)
 |dr (L:List Nat)
def cZ0 :List VV→Nat
 |[]=>0
 | .nilp::r=>cZ0 r+1
 |_::r=>cZ0 r
def cY5 :Nat→bq→Nat
 |_,[]=>0
 |k, .cells _ _ l::r=>k*cZ0 l+cY5 (k+1) r
 |k,_::r=>cY5 (k+1) r
def cx3 (S:bq):Nat:=S.length+1000*cY5 1 S
def AT.at (n:Nat):AT→AT
 | .sz m l r=>cond (aB m n) l (r.at n)
 |t=>t
def bS8 (e:et):List Nat→List VV→et
 |t::ts,v::vs=>pK (bS8 e ts vs) t v
 |_,_=>e
def ap5 (e:et):List Nat→et
 |[]=>e
 |t::ts=>pK (ap5 e ts) t .undef
def bF4 :Option Nat→List Nat
 |some d=>[d]
 |none=>[]
def ly :AC→List Nat
 | .region ops=>ops.flatMap fun o=>bF4 o.dst
 | .draw ops=>ops.flatMap fun o=>bF4 o.1.dst
 | .sched its=>its.flatMap fun i=>bF4 i.o.dst
 | .seq a b| .cond _ a b=>ly a++ly b
 | .block _ b| .loop b=>ly b
 |_=>[]
def XK.is :XK→AExit→Bool
 | .normal, .normal=>true
 | .exit i, .exit j=>aB i j
 | .ret, .ret=>true
 |_,_=>false
def XK.out :XK→AExit
 | .normal=> .normal
 | .exit i=> .exit i
 | .ret=> .ret
def kD (fx mov:List Nat)(fz:Bool):Nat→bq→bq
 |_,[]=>[]
 |i,b::r=>cond (mK i mov) (cond b.frozen b .dead) (cond (mK i fx) b (cond fz b.freeze b))::kD fx mov fz (i+1) r
def aq8 :AC→Bool
 | .seq a b| .cond _ a b=>aq8 a&&aq8 b
 | .block _ b| .loop b=>aq8 b
 |_=>true
def bt {α γ:Type}(f:α→Option (α⊕γ))(n:Nat):α→Option γ:=
 Nat.rec (fun _=>none) (fun _ ih a=>(f a).bind fun s=>cj s ih some) n
def dy :Nat:=18446744073709551616
def ar8 (e0:et)(S:bq)(fx mov asg:List Nat)(fz:Bool)(ts:List Nat)(sk:wY)(t:Tup sk.shs):Option (et×bq):=
 match pf id sk (toL sk.shs t)with
 |some (vals,fs,bs)=>(match uA fx fs (kD fx mov (fz||ah4 vals fs bs) 0 S)with
  |some S'=>some (bS8 (ap5 e0 asg) ts vals,S'++bs)
  |none=>none)
 |none=>none
def cI6 {β:Type}(e0:et)(S:bq)(fx mov asg:List Nat)(exits:List Alt)(s:ug exits)(k:AExit→et→bq→Option β):Option β:=
 cu4 exits s fun a t=>match ar8 e0 S fx mov asg false a.ts a.sk t with
  |some (e,S')=>k a.x.out e S'
  |none=>none
def bg0 (F:AT→(β:Type)→et→bq→(AExit→et→bq→Option β)→Option β):AT→(β:Type)→et→bq→(AExit→et→bq→Option β)→Option β
 | .n l r,β,e,S,k=>F l β e S fun x e' S'=>match x with
  | .normal=>bg0 F r β e' S' k
  |x=>k x e' S'
 | .sz m l r,β,e,S,k=>cond (aB m S.length) (bg0 F l β e S k) (bg0 F r β e S k)
 |_,_,_,_,_=>none
def AT.rounds :AT→Nat
 | .n _ r=>r.rounds+1
 | .sz _ l r=>l.rounds+r.rounds
 |_=>0
def eval (tab:Tab):AC→AT→(β:Type)→et→bq→(AExit→et→bq→Option β)→Option β
 | .skip,_,_,e,S,k=>k .normal e S
 | .exit i,_,_,e,S,k=>k (.exit i) e S
 | .ret,_,_,e,S,k=>k .ret e S
 | .region ops,_,_,e,S,k=>ap8 tab ops e S fun e' S'=>k .normal e' S'
 | .sched its,_,_,e,S,k=>sB tab its [] e S fun e' S'=>k .normal e' S'
 | .draw ops,at',_,e,S,k=>(match at'.at (cx3 S)with
  | .dr L=>gd (bE9 ops ops.length [] [] [] [] (af0 ops L L [])&&bs4 ops (af0 ops L L [])) (evL tab ops (af0 ops L L []) [] (ap5 e (au1 ops (af0 ops L L []))) S fun e' S'=>k .normal e' S')
  |_=>none)
 | .seq a b,at',β,e,S,k=>
  (match at'.at (cx3 S)with
  | .jn fx mov exits l r=>gd (aW6 S fx&&aq8 a) ((eval tab a l (ug exits) e (kD (fx++mov) [] true 0 S) fun x e' S'=>uQ S' S.length fx (fun ts=>ts.map (mD e')) (fun y=>y.is x) exits).bind fun s=>
    cI6 e S fx mov (ly a) exits s fun x e' S'=>match x with
     | .normal=>eval tab b r β e' S' k
     |x=>k x e' S')
  | .n l r=>eval tab a l β e S fun x e' S'=>match x with
   | .normal=>eval tab b r β e' S' k
   |x=>k x e' S'
  |_=>eval tab a .no β e S fun x e' S'=>match x with
   | .normal=>eval tab b .no β e' S' k
   |x=>k x e' S')
 | .cond c a b,at',β,e,S,k=>
  (match ev e c with
  | .bool p=>(match c,at'.at (cx3 S)with
   | .tmp t, .n l r=>cond p (eval tab a l β (pK e t (.bool true)) S k) (eval tab b r β (pK e t (.bool false)) S k)
   | .tmp t,_=>cond p (eval tab a .no β (pK e t (.bool true)) S k) (eval tab b .no β (pK e t (.bool false)) S k)
   |_, .n l r=>cond p (eval tab a l β e S k) (eval tab b r β e S k)
   |_,_=>cond p (eval tab a .no β e S k) (eval tab b .no β e S k))
  |_=>none)
 | .block id b,at',β,e,S,k=>
  eval tab b (match at'.at (cx3 S)with
   | .n l _=>l
   |_=> .no) β e S fun x e' S'=>match x with
   | .exit i=>cond (aB i id) (k .normal e' S') (k (.exit i) e' S')
   |x=>k x e' S'
 | .loop b,at',_,e,S,k=>
  (match at'.at (cx3 S)with
  | .lp fx head exits l=>gd (head.sk.noRo&&aW6 S fx&&aq8 b) (match ob S S.length fx head.sk (head.ts.map (mD e))with
   |some st=>(ofL head.sk.shs st.ls).bind fun t0=>
    (bt (fun t=>match ar8 e S fx (oc st.m) (ly b) true head.ts head.sk t with
     |some (e1,S1)=>eval tab b l (Tup head.sk.shs⊕ug exits) e1 S1 fun x e' S'=>(match x with
      | .normal=>(aA7 S' S.length fx head.sk (head.ts.map (mD e'))).bind fun t=>some (.inl t)
      |x=>(uQ S' S.length fx (fun ts=>ts.map (mD e')) (fun y=>y.is x) exits).bind fun s=>some (.inr s))
     |none=>none) dy t0).bind fun s=>cI6 e S fx (oc st.m) (ly b) exits s k
   |none=>none)
  |_=>bg0 (eval tab b) at' _ e S k)
def cN1 (e:et)(S:bq):ARes→Option VV
 | .tmp t=>some (mD e t)
 | .cell t=>(match mD e t with
  | .ptr b o=>(match bl S b with
   | .cells _ _ l=>nth l o
   |_=>none)
  |_=>none)
 | .cellN t n=>(match mD e t with
  | .ptr b o=>(match bl S b with
   | .cells _ _ l=>cond (aD (o+n) l.length) (some (.agg ((l.drop o).take n))) none
   |_=>none)
  |_=>none)
def aJ0 (e:et)(S:bq):List ARes→Option (List VV)
 |[]=>some []
 |r::rs=>(cN1 e S r).bind fun v=>(aJ0 e S rs).bind fun vs=>some (v::vs)
def bW3 :List VV→VV
 |[v]=>v
 |vs=> .tup vs
def gt (P:Program)(f:FuncId)(tab:Tab)(at':AT):(β:Type)→List VV→bq→(VV→bq→Option β)→Option β:=fun β args S k=>
 match bW1 P f with
 |some a=>gd (aD args.length a.ntmps) (eval tab a.body at' β args S fun x e S'=>match x with
  | .exit _=>none
  |_=>(match aJ0 e S' a.results with
   |some rs=>k (bW3 rs) S'
   |none=>none))
 |none=>none
def be4 (P:Program)(f:FuncId)(tab:Tab)(vals:List Sk)(objs:List OSk)(outs:List Alt)(at':AT)(t:Tup (wY.shs ⟨vals,[],objs⟩)):Option (ug outs):=
 match bW1 P f,pf id ⟨vals,[],objs⟩ (toL _ t)with
 |some a,some (vs,_,S)=>gd (aD vs.length a.ntmps) (eval tab a.body at' (ug outs) vs S fun x e S'=>match x with
  | .exit _=>none
  |_=>(match aJ0 e S' a.results with
   |some rs=>uQ S' S.length (sC objs 0) (fun _=>[bW3 rs]) (fun _=>true) outs
   |none=>none))
 |_,_=>none
end
section
open Nat renaming lt_of_lt_of_le → aB
structure Ctx where
 μ:Nat→Option Nat
 S:bq
 σ:Hp
 fb:Nat→Prop
def Blk.dim :Blk→Option (Nat×Nat)
 | .dead=>none
 | .cells es _ l=>some (es,l.length)
 | .arr s _ l=>some (s.w,l.length*s.w)
def Blk.vals :Blk→List VV
 | .dead=>[]
 | .cells _ _ l=>l
 | .arr s _ l=>gp s l
def Ctx.own (c:Ctx)(b:Nat):Prop:= ∃k,(bl c.S k).frozen=false∧c.μ k=some b
def Ctx.mut (c:Ctx)(b:Nat):Prop:=c.own b∨c.fb b
def SlR (c:Ctx)(k lo n:Nat)(d:Nat×Nat)(a:Value):Prop:=
 (a= .slice none 0 0∧lo=0∧n=0∧c.μ k=none∧d.2=0)∨
 ∃b cp y,a= .slice (some ⟨b,lo*d.1,none⟩) n cp∧c.μ k=some b∧(lo+n)*d.1≤d.2∧n≤cp∧c.σ.m b=some y∧(lo+cp)*d.1≤y.cells.length
inductive VRel (c:Ctx):VV→Value→Prop where
 |undef (a:Value):VRel c .undef a
 |bool (b:Bool):VRel c (.bool b) (.bool b)
 |int (k:IntKind) (n:Int):VRel c (.int k n) (.int k n)
 |str {l:List Int} {s:ByteArray}:dx s=l→VRel c (.str l) (.string s)
 |nilp:VRel c .nilp (.pointer none)
 |nils:VRel c .nils (.slice none 0 0)
 |nilf:VRel c .nilf .nilFunc
 |ptr {k o:Nat} {a:Value}:k<c.S.length→one a=true→(∀d,(bl c.S k).dim=some d→∃b,c.μ k=some b∧a= .pointer (some ⟨b,o,none⟩))→VRel c (.ptr k o) a
 |it {k:Nat} {l:List Int} {s:ByteArray} {a:Value}:k<c.S.length→one a=true→dx s=l→(∀d,(bl c.S k).dim=some d→∃b,c.μ k=some b∧a= .iface b (.string s))→VRel c (.it k l) a
 |bld {k:Nat} {a:Value}:k<c.S.length→one a=true→(∀d,(bl c.S k).dim=some d→∃b,c.μ k=some b∧a= .iface b .nilFunc)→VRel c (.bld k) a
 |pix {k o n i:Nat} {a:Value}:k<c.S.length→one a=true→i<n→(∀d,(bl c.S k).dim=some d→∃b,c.μ k=some b∧a= .pointer (some ⟨b,o+i,none⟩))→VRel c (.pix k o n i) a
 |pel {k i o:Nat} {a:Value}:k<c.S.length→one a=true→(∀d,(bl c.S k).dim=some d→∃b,c.μ k=some b∧a= .pointer (some ⟨b,i*d.1+o,none⟩))→VRel c (.pel k i o) a
 |pin {s:Sh} {x:El s} {o b p:Nat} {y:Ab.Blk}: ¬c.mut b→c.σ.m b=some y→p+s.w≤y.cells.length→F2 (VRel c) (fa s x) ((y.cells.drop p).take s.w)→VRel c (.pin s x o) (.pointer (some ⟨b,p+o,none⟩))
 |lstn {s:Sh} {q:Option Addr}:(∀z,q=some z→z.spot=none)→VRel c (.lst s []) (.slice q 0 0)
 |lst {s:Sh} {l:List (El s)} {b p n cp:Nat} {y:Ab.Blk}: ¬c.mut b→c.σ.m b=some y→y.es=s.w→n=l.length→n≤cp→p+n*s.w≤y.cells.length→
   F2 (VRel c) (gp s l) ((y.cells.drop p).take (n*s.w))→VRel c (.lst s l) (.slice (some ⟨b,p,none⟩) n cp)
 |tgtn {s:Sh} {a:Value}:(a= .slice none 0 0∨∃b o,a= .slice (some ⟨b,o,some 0⟩) 0 0)→VRel c (.tgt s []) a
 |tgt {s:Sh} {l:List (El s)} {b p:Nat} {y:Ab.Blk}: ¬c.mut b→c.σ.m b=some y→y.es=s.w→p+l.length*s.w≤y.cells.length→
   F2 (VRel c) (gp s l) ((y.cells.drop p).take (l.length*s.w))→VRel c (.tgt s l) (.slice (some ⟨b,p,some 0⟩) l.length l.length)
 |full {k:Nat} {a:Value}:k<c.S.length→one a=true→(∀d,(bl c.S k).dim=some d→∃n,n*d.1=d.2∧SlR c k 0 n d a)→VRel c (.full k) a
 |part {k lo n:Nat} {a:Value}:k<c.S.length→one a=true→(∀d,(bl c.S k).dim=some d→SlR c k lo n d a)→VRel c (.part k lo n) a
 |fn {f:Nat} {a b:List VV} {a' b':Array Value}:F2 (VRel c) a a'.toList→F2 (VRel c) b b'.toList→VRel c (.fn f a b) (.func (.func f) a' b')
 |agg {l:List VV} {l':Array Value}:F2 (VRel c) l l'.toList→VRel c (.agg l) (.agg l')
 |tup {l:List VV} {l':Array Value}:F2 (VRel c) l l'.toList→VRel c (.tup l) (.tuple l')
def aY5 (c:Ctx)(k:Nat):Prop:= ∀d,(bl c.S k).dim=some d→1≤d.1∧
 ((d.2=0∧c.μ k=none)∨∃b y cs rest,c.μ k=some b∧c.σ.m b=some y∧y.es=d.1∧((bl c.S k).frozen=false→y.own=true)∧y.cells=cs++rest∧F2 (VRel c) (bl c.S k).vals cs)
structure fq (c:Ctx):Prop where
 ok:c.σ.Ok
 inj: ∀k k' b,(bl c.S k).frozen=false→(bl c.S k').dim≠none→c.μ k=some b→c.μ k'=some b→k=k'
 blk: ∀k,aY5 c k
 fbk: ∀k b,(bl c.S k).dim≠none→c.μ k=some b→¬c.fb b
 fbl: ∀b,c.fb b→b<c.σ.n
structure Le (c c':Ctx):Prop where
 len:c.S.length≤c'.S.length
 al: ∀k d,k<c.S.length→(bl c'.S k).dim=some d→(bl c.S k).dim=some d∧c'.μ k=c.μ k
 fz: ∀k,(bl c.S k).frozen=true→(bl c.S k).dim≠none→bl c'.S k=bl c.S k
 ln: ∀k d b y,k<c.S.length→(bl c'.S k).dim=some d→c.μ k=some b→c.σ.m b=some y→∃y',c'.σ.m b=some y'∧y'.cells.length=y.cells.length
 un: ∀b y,c.σ.m b=some y→¬c.own b→c'.σ.m b=some y
 ow: ∀b y,c.σ.m b=some y→¬c.own b→¬c'.own b
 n:c.σ.n≤c'.σ.n
 fb:c'.fb=c.fb
theorem Le.rd {c c':Ctx}(h:Le c c')(b:Nat)(y:Ab.Blk)(hy:c.σ.m b=some y)(hn: ¬c.mut b):c'.σ.m b=some y∧¬c'.mut b:=by
 have h1: ¬c.own b:=fun e=>hn (.inl e)
 refine⟨h.un b y hy h1,fun e=> ?_⟩;rcases e with e|e
 ·exact h.ow b y hy h1 e
 ·rw[h.fb]at e;exact hn (.inr e)
def tL (d:List Nat)(c c':Ctx):Prop:= ∀k,k<c.S.length→k∉d→(bl c.S k).dim≠none→(bl c'.S k).dim≠none∧∀b,c.μ k=some b→c'.σ.m b=c.σ.m b
theorem mO {S:bq}{k:Nat}(h:(bl S k).dim≠none):k<S.length:=by
 induction S generalizing k with
 |nil=>exact(h rfl).elim
 |cons b r ih=>
  cases k with
  |zero=>exact Nat.zero_lt_succ _
  |succ k=>exact Nat.succ_lt_succ (ih h)
theorem ux {S:bq}{k:Nat}(h:S.length≤k):bl S k= .dead:=by
 induction S generalizing k with
 |nil=>rfl
 |cons b r ih=>
  cases k with
  |zero=>simp at h
  |succ k=>exact ih (by simpa using h)
theorem as0 {S:bq}{k:Nat}{b:Blk}:(lE S k b).length=S.length:=by
 induction S generalizing k with
 |nil=>rfl
 |cons a r ih=>cases k<;>simp[lE,ih]
theorem wy {S:bq}{k i:Nat}{b:Blk}:bl (lE S k b) i=if i=k∧k<S.length then b else bl S i:=by
 induction S generalizing k i with
 |nil=>simp[lE]
 |cons a r ih=>
  cases k with
  |zero=>cases i<;>simp[lE,bl]
  |succ k=>
   cases i with
   |zero=>simp[lE,bl]
   |succ i=>simp[lE,bl,ih]
theorem cj9 {S:bq}{k:Nat}{b:Blk}(h:k<S.length):bl (lE S k b) k=b:=by rw[wy,zE ⟨rfl,h⟩]
theorem cN8 {S:bq}{k i:Nat}{b:Blk}(h:i≠k):bl (lE S k b) i=bl S i:=by rw[wy,zF (fun e=>h e.1)]
theorem ng {S:bq}{l:List Blk}{k:Nat}(h:k<S.length):bl (S++l) k=bl S k:=by
 induction S generalizing k with
 |nil=>simp at h
 |cons a r ih=>
  cases k with
  |zero=>rfl
  |succ k=>exact ih (by simpa using h)
theorem rA {S:bq}{l:List Blk}{k:Nat}:bl (S++l) (S.length+k)=bl l k:=by
 induction S with
 |nil=>simp
 |cons a r ih=>
  have:(a::r).length+k=(r.length+k)+1:=by simp;omega
  rw[this];exact ih
theorem bU9 {S:bq}{b:Blk}:bl (S++[b]) S.length=b:=by
 exact @rA S [b] 0
theorem mC {b:Blk}(h:b.frozen=false):b.dim≠none:=by cases b<;>simp[Blk.frozen,Blk.dim]at*
theorem gv {b:Blk}:b.freeze.dim=b.dim:=by cases b<;>rfl
theorem aU0 {b:Blk}:b.freeze.vals=b.vals:=by cases b<;>rfl
theorem na {b:Blk}:b.freeze.frozen=true:=by cases b<;>rfl
theorem zu {b:Blk}(h:b.frozen=true):b.freeze=b:=by cases b<;>simp[Blk.frozen,Blk.freeze]at* <;>simp[h]
theorem Le.refl (c:Ctx):Le c c:=⟨Nat.le_refl _,fun _ _ _ h=>⟨h,rfl⟩,fun _ _ _=>rfl,fun _ _ _ y _ _ _ hy=>⟨y,hy,rfl⟩,fun _ _ h _=>h,fun _ _ _ h=>h,Nat.le_refl _,rfl⟩
theorem Le.trans {a b c:Ctx}(h:Le a b)(k:Le b c):Le a c:=by
 refine⟨Nat.le_trans h.len k.len,fun i d hi hd=> ?_,fun i hf hd=> ?_,fun i d x y hi hd hm hy=> ?_,fun x y hy hn=>k.un x y (h.un x y hy hn) (h.ow x y hy hn),fun x y hy hn=>k.ow x y (h.un x y hy hn) (h.ow x y hy hn),Nat.le_trans h.n k.n,k.fb.trans h.fb⟩
 ·obtain⟨h1,h2⟩:=k.al i d (aB hi h.len) hd;obtain⟨h3,h4⟩:=h.al i d hi h1;exact⟨h3,h2.trans h4⟩
 ·have h1:=h.fz i hf hd;rw[k.fz i (by rw[h1];exact hf) (by rw[h1];exact hd),h1]
 ·obtain⟨h1,h2⟩:=k.al i d (aB hi h.len) hd;obtain⟨y1,h3,h4⟩:=h.ln i d x y hi h1 hm hy;obtain⟨_,h6⟩:=h.al i d hi h1;obtain⟨y2,h5,h7⟩:=k.ln i d x y1 (aB hi h.len) hd (h6.trans hm) h3;exact⟨y2,h5,h7.trans h4⟩
theorem tL.refl (d:List Nat)(c:Ctx):tL d c c:=fun _ _ _ h=>⟨h,fun _ _=>rfl⟩
theorem SlR.frame {c c':Ctx}(h:Le c c'){k lo n:Nat}{d:Nat×Nat}{a:Value}(hk:k<c.S.length)(hd:(bl c'.S k).dim=some d)(hs:SlR c k lo n d a):SlR c' k lo n d a:=by
 obtain⟨h1,h2⟩:=h.al k d hk hd;rcases hs with⟨rfl,rfl,rfl,hm,hz⟩|⟨b,cp,y,rfl,hm,h3,h4,hy,h5⟩
 ·exact .inl ⟨rfl,rfl,rfl,h2.trans hm,hz⟩
 ·obtain⟨y',hy',hl⟩:=h.ln k d b y hk hd hm hy;exact .inr ⟨b,cp,y',rfl,h2.trans hm,h3,h4,hy',by rw[hl];exact h5⟩
theorem VRel.frame {c c':Ctx}(h:Le c c'): ∀{v:VV} {a:Value},VRel c v a→VRel c' v a
 |_,_, .undef a=> .undef a
 |_,_, .bool b=> .bool b
 |_,_, .int k n=> .int k n
 |_,_, .str hs=> .str hs
 |_,_, .nilp=> .nilp
 |_,_, .nils=> .nils
 |_,_, .nilf=> .nilf
 |_,_, .ptr hk h1 hd=> .ptr (aB hk h.len) h1 fun d hd'=>by
  obtain⟨h1,h2⟩:=h.al _ d hk hd';obtain⟨b,h3,h4⟩:=hd d h1;exact⟨b,h2.trans h3,h4⟩
 |_,_, .it hk h1 hs hd=> .it (aB hk h.len) h1 hs fun d hd'=>by
  obtain⟨h1,h2⟩:=h.al _ d hk hd';obtain⟨b,h3,h4⟩:=hd d h1;exact⟨b,h2.trans h3,h4⟩
 |_,_, .bld hk h1 hd=> .bld (aB hk h.len) h1 fun d hd'=>by
  obtain⟨h1,h2⟩:=h.al _ d hk hd';obtain⟨b,h3,h4⟩:=hd d h1;exact⟨b,h2.trans h3,h4⟩
 |_,_, .pix hk h1 hi hd=> .pix (aB hk h.len) h1 hi fun d hd'=>by
  obtain⟨h1,h2⟩:=h.al _ d hk hd';obtain⟨b,h3,h4⟩:=hd d h1;exact⟨b,h2.trans h3,h4⟩
 |_,_, .pel hk h1 hd=> .pel (aB hk h.len) h1 fun d hd'=>by
  obtain⟨h1,h2⟩:=h.al _ d hk hd';obtain⟨b,h3,h4⟩:=hd d h1;exact⟨b,h2.trans h3,h4⟩
 |_,_, .pin hn hy hl hf=> .pin (h.rd _ _ hy hn).2 (h.rd _ _ hy hn).1 hl (go hf)
 |_,_, .lstn hq=> .lstn hq
 |_,_, .lst hn hy he h1 h2 h3 hf=> .lst (h.rd _ _ hy hn).2 (h.rd _ _ hy hn).1 he h1 h2 h3 (go hf)
 |_,_, .tgtn hq=> .tgtn hq
 |_,_, .tgt hn hy he h3 hf=> .tgt (h.rd _ _ hy hn).2 (h.rd _ _ hy hn).1 he h3 (go hf)
 |_,_, .full hk h1 hd=> .full (aB hk h.len) h1 fun d hd'=>by
  obtain⟨h1,h2⟩:=h.al _ d hk hd';obtain⟨n,h3,h4⟩:=hd d h1;exact⟨n,h3,h4.frame h hk hd'⟩
 |_,_, .part hk h1 hd=> .part (aB hk h.len) h1 fun d hd'=>by
  obtain⟨h1,h2⟩:=h.al _ d hk hd';exact(hd d h1).frame h hk hd'
 |_,_, .fn h1 h2=> .fn (go h1) (go h2)
 |_,_, .agg h1=> .agg (go h1)
 |_,_, .tup h1=> .tup (go h1)
where
 go: ∀{l:List VV} {m:List Value},F2 (VRel c) l m→F2 (VRel c') l m
  |_,_, .nil=> .nil
  |_,_, .cons h1 h2=> .cons (VRel.frame h h1) (go h2)
theorem VRel.frames {c c':Ctx}(h:Le c c'){l:List VV}{m:List Value}(hf:F2 (VRel c) l m):F2 (VRel c') l m:=hf.imp fun _ _ hv=>hv.frame h
def jp {β:Type}(c:Ctx)(d:List Nat)(k:VV→bq→Option β)(y:β)(v:Value)(σ':Hp):Prop:=
 ∃vv c',c'.σ=σ'∧Le c c'∧fq c'∧tL d c c'∧VRel c' vv v∧k vv c'.S=some y
theorem jp.same {β:Type}{c:Ctx}{d:List Nat}{k:VV→bq→Option β}{y:β}{v:Value}{vv:VV}(hR:fq c)(hv:VRel c vv v)(hk:k vv c.S=some y):jp c d k y v c.σ:=
 ⟨vv,c,rfl,Le.refl c,hR,tL.refl d c,hv,hk⟩
end
section
open List renaming length_append → bB, take_of_length_le → bD, length_cons → cD, length_drop → dB, take_append → dD
open Nat renaming succ_mul → aB, le_refl → aD, mul_le_mul_right → cB
theorem ni : ∀s:Sh,1≤s.w
 | .int _=>aD _
 | .bool=>aD _
 | .str=>aD _
 | .list _=>aD _
 | .pair a _=>Nat.le_trans (ni a) (Nat.le_add_right _ _)
theorem fg : ∀(s:Sh) (x:El s),(fa s x).length=s.w
 | .int _,_=>rfl
 | .bool,_=>rfl
 | .str,_=>rfl
 | .list _,_=>rfl
 | .pair a b,x=>by
  simp only[fa,bB,Sh.w];rw[fg a,fg b]
theorem at9 {s:Sh}:gp s []=[]:=rfl
theorem i3 {s:Sh}{x:El s}{l:List (El s)}:gp s (x::l)=fa s x++gp s l:=rfl
theorem jb {s:Sh}{l:List (El s)}:(gp s l).length=l.length*s.w:=by
 induction l with
 |nil=>simp[at9]
 |cons x l ih=>rw[i3,bB,fg,ih,cD,aB,Nat.add_comm]
theorem wl {s:Sh}{l m:List (El s)}:gp s (l++m)=gp s l++gp s m:=List.flatMap_append
theorem lz {s:Sh}{l:List (El s)}{n:Nat}:gp s (l.take n)=(gp s l).take (n*s.w):=by
 induction l generalizing n with
 |nil=>simp[at9]
 |cons x l ih=>
  cases n with
  |zero=>simp[at9]
  |succ n=>
   rw[List.take_succ_cons,i3,i3,ih,dD,fg];have h1:(n+1)*s.w-s.w=n*s.w:=by rw[aB];omega
   rw[h1,bD (l:=fa s x) (by rw[fg,aB];omega)]
theorem xh {s:Sh}{l:List (El s)}{n:Nat}:gp s (l.drop n)=(gp s l).drop (n*s.w):=by
 induction l generalizing n with
 |nil=>simp[at9]
 |cons x l ih=>
  cases n with
  |zero=>simp
  |succ n=>
   rw[List.drop_succ_cons,i3,ih,List.drop_append,fg];have h1:(n+1)*s.w-s.w=n*s.w:=by rw[aB];omega
   rw[h1,List.drop_of_length_le (l:=fa s x) (by rw[fg,aB];omega),List.nil_append]
theorem aM7 {s:Sh}{l:List (El s)}{i:Nat}{x:El s}(h:l[i]?=some x):((gp s l).drop (i*s.w)).take s.w=fa s x:=by
 rw[←xh]
 have hi:i<l.length:=by
  rcases Nat.lt_or_ge i l.length with h1|h1
  ·exact h1
  ·rw[List.getElem?_eq_none h1]at h;cases h
 have h2:l.drop i=x::l.drop (i+1):=by
  rw[List.drop_eq_getElem_cons hi];rw[List.getElem?_eq_getElem hi]at h;injection h with h
  rw[h]
 rw[h2,i3,dD,fg,Nat.sub_self,List.take_zero,List.append_nil,bD (by rw[fg];exact aD _)]
theorem mh {s' s:Sh}{x:El s'}{y:El s}(h:lK s' s x=some y): ∃e:s'=s,y=e▸x:=by
 unfold lK at h;split at h
 ·rename_i e;injection h with h
  exact⟨e,h.symm⟩
 ·cases h
theorem kV {s:Sh}{x:El s}:lK s s x=some x:=by
 unfold lK;rw[dif_pos rfl]
theorem F2.app_left {α β:Type}{r:α→β→Prop}{l l':List α}{m:List β}(h:F2 r (l++l') m): ∃m1 m2,m=m1++m2∧F2 r l m1∧F2 r l' m2:=by
 induction l generalizing m with
 |nil=>exact⟨[],m,rfl, .nil,h⟩
 |cons a l ih=>
  cases h with
  |cons h1 h2=>
   obtain⟨m1,m2,rfl,h3,h4⟩:=ih h2;exact⟨_::m1,m2,rfl, .cons h1 h3,h4⟩
def wK (c:Ctx)(s:Sh)(l:List (El s))(a:Value):Prop:=
 (∃q:Option Addr,a= .slice q 0 0∧l=[]∧∀z,q=some z→z.spot=none)∨∃b p cp y,a= .slice (some ⟨b,p,none⟩) l.length cp∧c.σ.m b=some y∧y.es=s.w∧l.length≤cp∧p+l.length*s.w≤y.cells.length∧F2 (VRel c) (gp s l) ((y.cells.drop p).take (l.length*s.w))
theorem wK.rel {c:Ctx}{s:Sh}{l:List (El s)}{a:Value}(h:wK c s l a)(hn: ∀b p n cp,a= .slice (some ⟨b,p,none⟩) n cp→cp≠0→¬c.mut b):VRel c (.lst s l) a:=by
 rcases h with⟨q,rfl,rfl,hq⟩|⟨b,p,cp,y,rfl,h1,h2,h3,h4,h5⟩
 ·exact .lstn hq
 ·by_cases hc:cp=0
  ·subst hc;have:l=[]:=List.length_eq_zero_iff.1 (by omega);subst this;exact .lstn fun z hz=>by injection hz with hz;rw[←hz]
  ·exact .lst (hn _ _ _ _ rfl hc) h1 h2 rfl h3 h4 h5
theorem VRel.listAt {c:Ctx}{s:Sh}{l:List (El s)}{a:Value}(h:VRel c (.lst s l) a):wK c s l a:=by
 cases h with
 |lstn hq=>exact .inl ⟨_,rfl,rfl,hq⟩
 |lst hn hy he h1 h2 h3 h4=>subst h1;exact .inr ⟨_,_,_,_,rfl,hy,he,h2,h3,h4⟩
theorem VRel.lst_mut {c:Ctx}{s:Sh}{l:List (El s)}{b p n cp:Nat}(h:VRel c (.lst s l) (.slice (some ⟨b,p,none⟩) n cp))(hc:cp≠0): ¬c.mut b:=by
 cases h with
 |lstn=>exact(hc rfl).elim
 |lst hn=>exact hn
theorem fq.fz_mut {c:Ctx}(hR:fq c){k b:Nat}(hk:(bl c.S k).frozen=true)(hd:(bl c.S k).dim≠none)(hm:c.μ k=some b): ¬c.mut b:=by
 rintro(⟨k',h1,h2⟩|h)
 ·have:=hR.inj k' k b h1 hd h2 hm;subst this;rw[h1]at hk;cases hk
 ·exact hR.fbk k b hd hm h
def aR1 (c:Ctx)(s:Sh)(f:List VV→Option (El s×List VV)):Prop:= ∀cells x rest,f cells=some (x,rest)→
 ∃pre,cells=pre++rest∧pre.length=s.w∧∀as,F2 (VRel c) pre as→F2 (VRel c) (fa s x) as
theorem aL9 {c:Ctx}{s:Sh}{f:List VV→Option (El s×List VV)}(hf:aR1 c s f): ∀(n:Nat) (cells:List VV) (l:List (El s)),aR6 f n cells=some l→
  cells.length=l.length*s.w∧∀as,F2 (VRel c) cells as→F2 (VRel c) (gp s l) as
 |n,[],l,h=>by
  have:l=[]:=by cases n<;>simpa[aR6]using h.symm
  subst this;exact⟨by simp,fun as ha=>ha⟩
 |0,_::_,_,h=>by simp[aR6]at h
 |n+1,v::r,l,h=>by
  simp only[aR6]at h;cases h1:f (v::r)with
  |none=>rw[h1]at h;cases h
  |some p=>
   obtain⟨x,rest⟩:=p;rw[h1]at h;simp only[zG]at h;cases h2:aR6 f n rest with
   |none=>rw[h2]at h;cases h
   |some l'=>
    rw[h2]at h;injection h with h
    subst h;obtain⟨pre,h3,h4,h5⟩:=hf _ _ _ h1;obtain⟨h6,h7⟩:=aL9 hf n rest l' h2;refine⟨by rw[h3,bB,h4,h6,cD,aB,Nat.add_comm],fun as ha=> ?_⟩;rw[h3]at ha;obtain⟨m1,m2,rfl,h8,h9⟩:=F2.app_left ha;exact(h5 _ h8).append (h7 _ h9)
theorem rm {c:Ctx}{s:Sh}{f:List VV→Option (El s×List VV)}(hf:aR1 c s f){k:Nat}{l:List (El s)}(h:vQ s f (bl c.S k)=some l):
  ∃d,(bl c.S k).dim=some d∧d.1=s.w∧d.2=l.length*s.w∧∀as,F2 (VRel c) (bl c.S k).vals as→F2 (VRel c) (gp s l) as:=by
 generalize bl c.S k=b at h;cases b with
 |dead=>cases h
 |arr s' z m=>
  obtain⟨e,h1⟩:=mh h;cases e;subst h1;exact⟨_,rfl,rfl,rfl,fun _ h=>h⟩
 |cells es z m=>
  simp only[vQ]at h;cases he:Nat.beq es s.w with
  |false=>rw[he]at h;cases h
  |true=>
   rw[he,zC]at h;obtain⟨h1,h2⟩:=aL9 hf _ _ _ h;exact⟨_,rfl,Nat.eq_of_beq_eq_true he,h1,h2⟩
theorem bc8 {c:Ctx}(hR:fq c){s:Sh}{f:List VV→Option (El s×List VV)}(hf:aR1 c s f){k lo n:Nat}{l:List (El s)}{d:Nat×Nat}{a:Value}(h:vQ s f (bl c.S k)=some l)
  (hd:(bl c.S k).dim=some d) (hs:SlR c k lo n d a):wK c s ((l.drop lo).take n) a∧((l.drop lo).take n).length=n:=by
 obtain⟨d',h1,h2,h3,h4⟩:=rm hf h;rw[hd]at h1;injection h1 with h1
 subst h1;obtain⟨h0,hb⟩:=hR.blk k d hd;have hw:=ni s;rcases hs with⟨rfl,rfl,rfl,hm,hz⟩|⟨b,cp,y,rfl,hm,h5,h6,hy,h7⟩
 ·have:l.length=0:=by
   rw[hz]at h3;rcases Nat.eq_zero_or_pos l.length with h|h
   ·exact h
   ·have:=Nat.mul_pos h hw;omega
  rw[List.length_eq_zero_iff]at this;subst this;exact⟨.inl ⟨none,rfl,by simp,fun z hz=>by cases hz⟩,by simp⟩
 ·have hln:lo+n≤l.length:=by
   rw[h2,h3]at h5;exact Nat.le_of_mul_le_mul_right h5 hw
  have hlen:((l.drop lo).take n).length=n:=by rw[List.length_take,dB];omega
  refine⟨.inr ⟨b,lo*d.1,cp,y,by rw[hlen],hy, ?_,by rw[hlen];exact h6, ?_, ?_⟩,hlen⟩
  ·rcases hb with⟨h8,h9⟩|⟨b',y',cs,rest,h8,h9,h10,_⟩
   ·rw[h9]at hm;cases hm
   ·rw[hm]at h8;injection h8 with h8
    subst h8;rw[hy]at h9;injection h9 with h9
    subst h9;rw[h10,h2]
  ·rw[hlen];have:=cB d.1 h6;rw[Nat.add_mul]at h7;rw[←h2];omega
  ·rcases hb with⟨h8,h9⟩|⟨b',y',cs,rest,h8,h9,h10,_,h12,h13⟩
   ·rw[h9]at hm;cases hm
   ·rw[hm]at h8;injection h8 with h8
    subst h8;rw[hy]at h9;injection h9 with h9
    subst h9;have h14:=h4 _ h13;have h15:cs.length=l.length*s.w:=by rw[←h14.length,jb]
    rw[hlen,lz,xh,h2,h12,List.drop_append_of_le_length (by rw[h15];exact cB _ (by omega)),List.take_append_of_le_length]
    ·exact(h14.drop _).take _
    ·rw[dB,h15,←Nat.sub_mul];exact cB _ (by omega)
theorem bP7 {c:Ctx}(hR:fq c){s:Sh}{f:List VV→Option (El s×List VV)}(hf:aR1 c s f){k:Nat}{l:List (El s)}{a:Value}(h:vQ s f (bl c.S k)=some l)(hv:VRel c (.full k) a):wK c s l a:=by
 obtain⟨d,h1,h2,h3,h4⟩:=rm hf h;cases hv with
 |full hk _ hd=>
  obtain⟨n,h5,h6⟩:=hd d h1
  have hn:n=l.length:=by
   rw[h2,h3]at h5;exact Nat.eq_of_mul_eq_mul_right (ni s) h5
  have:=(bc8 hR hf h h1 h6).1
  rwa [List.drop_zero,bD (by omega)]at this
theorem bS2 {c:Ctx}(hR:fq c){s:Sh}{f:List VV→Option (El s×List VV)}(hf:aR1 c s f){k lo n:Nat}{l:List (El s)}{a:Value}(h:vQ s f (bl c.S k)=some l)(hv:VRel c (.part k lo n) a):
  wK c s ((l.drop lo).take n) a∧((l.drop lo).take n).length=n:=by
 obtain⟨d,h1,h2,h3,h4⟩:=rm hf h;cases hv with
 |part hk _ hd=>exact bc8 hR hf h h1 (hd d h1)
def aM8 :VV→Option Nat
 | .full k=>some k
 | .part k _ _=>some k
 |_=>none
theorem SlR.addr {c:Ctx}{k lo n:Nat}{d:Nat×Nat}{b p m cp:Nat}(h:SlR c k lo n d (.slice (some ⟨b,p,none⟩) m cp)):c.μ k=some b:=by
 rcases h with⟨h,_⟩|⟨b',cp',y,h,hm,_⟩
 ·cases h
 ·injection h with h1 h2 h3
  injection h1 with h1
  injection h1 with h1
  subst h1;exact hm
theorem bt6 {c:Ctx}(hR:fq c){s:Sh}{f:List VV→Option (El s×List VV)}(hf:aR1 c s f){v:VV}{l:List (El s)}{a:Value}(h:aq6 c.S s f v=some l)(hv:VRel c v a):
  wK c s l a∧∀b p n cp,a= .slice (some ⟨b,p,none⟩) n cp→cp≠0→¬c.mut b∨∃k,aM8 v=some k∧(bl c.S k).dim≠none∧c.μ k=some b:=by
 cases v<;>simp only[aq6]at h<;>try(cases h;done)
 case nils=>
  injection h with h
  subst h;cases hv;exact⟨.inl ⟨none,rfl,rfl,fun z hz=>by cases hz⟩,fun b p n cp e=>by cases e⟩
 case lst s' l'=>
  obtain⟨e,h1⟩:=mh h;cases e;subst h1;refine⟨hv.listAt,fun b p n cp e hc=> .inl ?_⟩;subst e;exact hv.lst_mut hc
 case full k=>
  refine⟨bP7 hR hf h hv,fun b p n cp e _=> .inr ⟨k,rfl, ?_⟩⟩;obtain⟨d,h1,_⟩:=rm hf h;subst e;cases hv with
  |full hk _ hd=>
   obtain⟨_,_,h6⟩:=hd d h1;exact⟨by rw[h1];simp,h6.addr⟩
 case part k lo m=>
  cases h0:vQ s f (bl c.S k)with
  |none=>rw[h0]at h;cases h
  |some l0=>
   rw[h0]at h;injection h with h
   subst h;refine⟨(bS2 hR hf h0 hv).1,fun b p n cp e _=> .inr ⟨k,rfl, ?_⟩⟩;obtain⟨d,h1,_⟩:=rm hf h0;subst e;cases hv with
   |part hk _ hd=>exact⟨by rw[h1];simp,(hd d h1).addr⟩
theorem bf7 {c:Ctx}(hR:fq c){s:Sh}{f:List VV→Option (El s×List VV)}(hf:aR1 c s f){v:VV}{l:List (El s)}{a:Value}(h:bG8 c.S s f v=some l)(hv:VRel c v a):VRel c (.lst s l) a:=by
 have key:aq6 c.S s f v=some l∧∀k,aM8 v=some k→(bl c.S k).frozen=true:=by
  unfold bG8 at h;split at h
  ·rename_i k;cases hz:(bl c.S k).frozen with
   |false=>rw[hz]at h;cases h
   |true=>
    rw[hz]at h;exact⟨h,fun k' e=>by cases e;exact hz⟩
  ·rename_i k lo n;cases hz:(bl c.S k).frozen with
   |false=>rw[hz]at h;cases h
   |true=>
    rw[hz]at h;exact⟨h,fun k' e=>by cases e;exact hz⟩
  ·rename_i h1 h2;refine⟨h,fun k e=> ?_⟩;cases v<;>simp only[aM8]at e<;>try(cases e;done)
   ·exact(h1 _ rfl).elim
   ·exact(h2 _ _ _ rfl).elim
 obtain⟨h1,h2⟩:=bt6 hR hf key.1 hv;refine h1.rel fun b p n cp e hc=> ?_
 rcases h2 b p n cp e hc with h3|⟨k,h3,h4,h5⟩
 ·exact h3
 ·exact hR.fz_mut (key.2 k h3) h4 h5
theorem kW {c:Ctx}(hR:fq c): ∀s:Sh,aR1 c s (kR c.S s)
 | .int k,cells,x,rest,h=>by
  cases cells with
  |nil=>simp[kR]at h
  |cons v r=>
   cases v<;>simp only[kR]at h<;>try(cases h;done)
   rename_i k' n;cases hk:decide (k'=k)with
   |false=>rw[hk]at h;cases h
   |true=>
    rw[hk]at h;injection h with h
    injection h with h1 h2
    subst h1;subst h2;have:=of_decide_eq_true hk;subst this;exact⟨[_],rfl,rfl,fun _ h=>h⟩
 | .bool,cells,x,rest,h=>by
  cases cells with
  |nil=>simp[kR]at h
  |cons v r=>
   cases v<;>simp only[kR]at h<;>try(cases h;done)
   injection h with h
   injection h with h1 h2
   subst h1;subst h2;exact⟨[_],rfl,rfl,fun _ h=>h⟩
 | .str,cells,x,rest,h=>by
  cases cells with
  |nil=>simp[kR]at h
  |cons v r=>
   cases v<;>simp only[kR]at h<;>try(cases h;done)
   injection h with h
   injection h with h1 h2
   subst h1;subst h2;exact⟨[_],rfl,rfl,fun _ h=>h⟩
 | .list s,cells,x,rest,h=>by
  cases cells with
  |nil=>simp[kR]at h
  |cons v r=>
   simp only[kR]at h;cases h1:bG8 c.S s (kR c.S s) v with
   |none=>rw[h1]at h;cases h
   |some l=>
    rw[h1]at h;injection h with h
    injection h with h2 h3
    subst h2;subst h3;refine⟨[v],rfl,rfl,fun as ha=> ?_⟩;cases ha with
    |cons ha hn=>
     cases hn;exact .cons (bf7 hR (kW hR s) h1 ha) .nil
 | .pair a b,cells,x,rest,h=>by
  simp only[kR]at h;cases h1:kR c.S a cells with
  |none=>rw[h1]at h;cases h
  |some p=>
   obtain⟨y,r1⟩:=p;rw[h1]at h;simp only[zG]at h;cases h2:kR c.S b r1 with
   |none=>rw[h2]at h;cases h
   |some q=>
    obtain⟨z,r2⟩:=q;rw[h2]at h;injection h with h
    injection h with h3 h4
    subst h3;subst h4;obtain⟨p1,rfl,hl1,hf1⟩:=kW hR a _ _ _ h1;obtain⟨p2,rfl,hl2,hf2⟩:=kW hR b _ _ _ h2;refine⟨p1++p2,by rw[List.append_assoc],by rw[bB,hl1,hl2];rfl,fun as ha=> ?_⟩;obtain⟨m1,m2,rfl,h5,h6⟩:=F2.app_left ha;exact(hf1 _ h5).append (hf2 _ h6)
theorem cx9 {c:Ctx}(hR:fq c){s:Sh}{v:VV}{l:List (El s)}{a:Value}(h:ci1 c.S s v=some l)(hv:VRel c v a):
  wK c s l a∧∀b p n cp,a= .slice (some ⟨b,p,none⟩) n cp→cp≠0→¬c.mut b∨∃k,aM8 v=some k∧(bl c.S k).dim≠none∧c.μ k=some b:=
 bt6 hR (kW hR s) h hv
end
section
open Bool renaming and_eq_true → aD
open List renaming getElem?_eq_getElem → aB, getD_eq_getElem?_getD → bB, getElem?_map → bD, all_append → cD, getElem?_eq_none → dB, length_drop → dD, length_take → eD
open Nat renaming zero_add → cB, le_of_ble_eq_true → fB
def bw (c:Ctx)(e:et)(ea:dh):Prop:= ∀t,VRel c (mD e t) (ea t)
theorem bw.frame {c c':Ctx}{e:et}{ea:dh}(h:bw c e ea)(hl:Le c c'):bw c' e ea:=fun t=>(h t).frame hl
theorem ur {e:et}{d t:Nat}{v:VV}:mD (pK e d v) t=if t=d then v else mD e t:=by
 induction d generalizing e t with
 |zero=>cases e<;>cases t<;>simp[pK,mD]
 |succ d ih=>
  cases e with
  |nil=>
   cases t with
   |zero=>simp[pK,mD]
   |succ t=>simp[pK,mD,ih]
  |cons a r=>
   cases t with
   |zero=>simp[pK,mD]
   |succ t=>simp[pK,mD,ih]
theorem bw.put {c:Ctx}{e:et}{ea:dh}(h:bw c e ea){d:Nat}{v:VV}{a:Value}(hv:VRel c v a):bw c (pK e d v) (ea.put d a):=by
 intro t;rw[ur];unfold dh.put;by_cases ht:t=d
 ·rw[zE ht,zE ht];exact hv
 ·rw[zF ht,zF ht];exact h t
theorem bw.putO {c:Ctx}{e:et}{ea:dh}(h:bw c e ea){d:Option Nat}{v:VV}{a:Value}(hv:VRel c v a):bw c (putO e d v) (ea.putO d a):=by
 cases d with
 |none=>exact h
 |some d=>exact h.put hv
theorem bR4 (c:Ctx)(v:Value):VRel c (aW5 v) v:=by
 unfold aW5;split
 ·exact .bool _
 ·exact .int _ _
 ·exact .str rfl
 ·exact .nilp
 ·exact .nils
 ·exact .nilf
 ·exact .undef _
theorem au7 (c:Ctx)(l:List Value):F2 (VRel c) (l.map aW5) l:=by
 induction l with
 |nil=>exact .nil
 |cons v l ih=>exact .cons (bR4 c v) ih
theorem cK9 (c:Ctx)(v:Value):VRel c (ofC v) v:=by
 unfold ofC;split
 ·rename_i cs;exact .agg (by simpa using au7 c cs.toList)
 ·exact bR4 c _
theorem cm {c:Ctx}{e:et}{ea:dh}(h:bw c e ea)(x:Operand):VRel c (ev e x) (ea.ev x):=by
 cases x with
 |tmp t=>exact h t
 |const v=>exact cK9 c v
 |global _=>exact .undef _
 |func f=>exact .fn .nil .nil
theorem aX5 {c:Ctx}{e:et}{ea:dh}(h:bw c e ea)(xs:List Operand):F2 (VRel c) (xs.map (ev e)) (xs.map ea.ev):=by
 induction xs with
 |nil=>exact .nil
 |cons x xs ih=>exact .cons (cm h x) ih
theorem bx {β:Type}{b:Bool}{x:Option β}{y:β}(h:gd b x=some y):b=true∧x=some y:=by
 cases b with
 |false=>cases h
 |true=>exact⟨rfl,h⟩
theorem bR9 {c:Ctx}{v:VV}{a:Value}(h:VRel c v a)(h1:cM3 v=true):one a=true:=by
 cases h<;>first|rfl|assumption|(cases h1;done)|(rename_i h;rcases h with rfl|⟨_,_,rfl⟩<;>rfl)
theorem lx {c:Ctx}: ∀{l:List VV} {m:List Value},F2 (VRel c) l m→oC l=true→m.all one=true
 |_,_, .nil,_=>rfl
 |_,_, .cons h1 h2,h=>by
  simp only[oC,List.all_cons,aD]at h⊢;exact⟨bR9 h1 h.1,lx h2 h.2⟩
theorem as3 : ∀(s:Sh) (x:El s),oC (fa s x)=true
 | .int _,_=>rfl
 | .bool,_=>rfl
 | .str,_=>rfl
 | .list _,_=>rfl
 | .pair a b,x=>by
  have h1:=as3 a x.1;have h2:=as3 b x.2;simp only[oC,fa,cD,aD]at*;exact⟨h1,h2⟩
theorem rr (s:Sh)(l:List (El s)):oC (gp s l)=true:=by
 induction l with
 |nil=>rfl
 |cons x l ih=>
  have h1:=as3 s x;rw[i3];simp only[oC,cD,aD]at*;exact⟨h1,ih⟩
theorem aL8 {c:Ctx}{v:VV}{a:Value}(h:VRel c v a)(hv:oC (mY v)=true):F2 (VRel c) (mY v) (cellsOf a):=by
 have hone:one a=true→cellsOf a=[a]:=fun h=>by cases a<;>first|rfl|(cases h;done)
 cases v with
 |agg l=>
  cases h with
  |agg h=>exact h
 |undef=>cases hv
 |tup l=>cases hv
 |_=>
  rw[hone (bR9 h rfl)];exact .cons h .nil
theorem cv {T:ig}{op:AOp}{e:dh}{σ σ':Hp}{v:Value}{K:Value→Hp→Prop}(h:op.run e σ=some (v,σ'))(hk:K v σ'):ck T op e σ K:=by
 unfold ck;split
 ·cases h
 ·cases h
 ·rw[h];exact hk
theorem uT {α:Type}: ∀(l:List α) (i:Nat),nth l i=l[i]?
 |[],_=>rfl
 |_::_,0=>rfl
 |_::l,i+1=>by
  rw[show nth (_::l) (i+1)=nth l i from rfl,uT l i];rfl
theorem F2.nth {c:Ctx}{l:List VV}{m:List Value}(h:F2 (VRel c) l m){i:Nat}{v:VV}(hv:nth l i=some v): ∃a,m[i]?=some a∧VRel c v a:=by
 rw[uT]at hv;exact h.get i v hv
theorem aN0 {k:IntKind}: ∀{cs:List VV} {l:List Int},ut k cs=some l→cs=l.map (.int k)
 |[],l,h=>by cases h;rfl
 |v::r,l,h=>by
  cases v<;>simp only[ut]at h<;>try(cases h;done)
  rename_i k' n;cases hk:decide (k'=k)with
  |false=>rw[hk]at h;cases h
  |true=>
   rw[hk,zC]at h;cases h1:ut k r with
   |none=>rw[h1]at h;cases h
   |some m=>
    rw[h1]at h;injection h with h
    subst h;rw[aN0 h1,of_decide_eq_true hk];rfl
theorem bd0 : ∀{cs:List VV} {l:List Bool},bc9 cs=some l→cs=l.map .bool
 |[],l,h=>by cases h;rfl
 |v::r,l,h=>by
  cases v<;>simp only[bc9]at h<;>try(cases h;done)
  cases h1:bc9 r with
  |none=>rw[h1]at h;cases h
  |some m=>
   rw[h1]at h;injection h with h
   subst h;rw[bd0 h1];rfl
theorem bv2 : ∀{cs:List VV} {l:List (List Int)},bV6 cs=some l→cs=l.map .str
 |[],l,h=>by cases h;rfl
 |v::r,l,h=>by
  cases v<;>simp only[bV6]at h<;>try(cases h;done)
  cases h1:bV6 r with
  |none=>rw[h1]at h;cases h
  |some m=>
   rw[h1]at h;injection h with h
   subst h;rw[bv2 h1];rfl
theorem bS3 {β:Type}{S:bq}{k:VV→bq→Option β}{y:β}: ∀{cs:List VV} {i:Nat},cj0 S k cs i=some y→∃v,cs[i]?=some v∧k v S=some y
 |[],_,h=>by cases h
 |v::r,i,h=>by
  simp only[cj0]at h;cases hi:Nat.beq i 0 with
  |true=>
   rw[hi]at h;have:=Nat.eq_of_beq_eq_true hi;subst this;exact⟨v,rfl,h⟩
  |false=>
   rw[hi]at h;obtain⟨w,h1,h2⟩:=bS3 h;have:i≠0:=fun e=>by subst e;cases hi
   obtain⟨j,rfl⟩:=Nat.exists_eq_succ_of_ne_zero this;exact⟨w,h1,h2⟩
theorem bN8 {β:Type}{S:bq}{k:VV→bq→Option β}{y:β}{cs:List VV}{i:Nat}(hi:i<cs.length)(h:bN7 cs i S k=some y): ∃v,cs[i]?=some v∧k v S=some y:=by
 unfold bN7 at h;split at h
 ·rename_i kd n r;split at h
  ·rename_i l hl;have:=aN0 hl;subst this;refine⟨_, ?_,h⟩;rw[show(VV.int kd n::l.map (VV.int kd))=(n::l).map (VV.int kd)from rfl,bD];have hi':i<(n::l).length:=by simpa using hi
   rw[aB hi',bB,aB hi'];rfl
  ·cases h
 ·rename_i b r;split at h
  ·rename_i l hl;have:=bd0 hl;subst this;refine⟨_, ?_,h⟩;rw[show(VV.bool b::l.map VV.bool)=(b::l).map VV.bool from rfl,bD];have hi':i<(b::l).length:=by simpa using hi
   rw[aB hi',bB,aB hi'];rfl
  ·cases h
 ·rename_i b r;split at h
  ·rename_i l hl;have:=bv2 hl;subst this;refine⟨_, ?_,h⟩;rw[show(VV.str b::l.map VV.str)=(b::l).map VV.str from rfl,bD];have hi':i<(b::l).length:=by simpa using hi
   rw[aB hi',bB,aB hi'];rfl
  ·cases h
 ·exact bS3 h
theorem fq.block {c:Ctx}(hR:fq c){k b:Nat}{d:Nat×Nat}(hd:(bl c.S k).dim=some d)(hm:c.μ k=some b):
  ∃y cs rest,c.σ.m b=some y∧y.es=d.1∧((bl c.S k).frozen=false→y.own=true)∧y.cells=cs++rest∧F2 (VRel c) (bl c.S k).vals cs:=by
 obtain⟨_,h⟩:=hR.blk k d hd;rcases h with⟨_,h⟩|⟨b',y,cs,rest,h,h'⟩
 ·rw[h]at hm;cases hm
 ·rw[hm]at h;injection h with h
  subst h;exact⟨y,cs,rest,h'⟩
def tc (c:Ctx)(cs:List VV)(b p:Nat):Prop:= ∃y,c.σ.m b=some y∧p+cs.length≤y.cells.length∧F2 (VRel c) cs ((y.cells.drop p).take cs.length)
theorem tc.get {c:Ctx}{cs:List VV}{b p:Nat}(h:tc c cs b p){o:Nat}{v:VV}(hv:nth cs o=some v): ∃y a,c.σ.m b=some y∧y.cells[p+o]?=some a∧VRel c v a:=by
 obtain⟨y,h1,h2,h3⟩:=h;obtain⟨a,h4,h5⟩:=F2.nth h3 hv;refine⟨y,a,h1, ?_,h5⟩;rw[uT]at hv
 have ho:o<cs.length:=by
  rcases Nat.lt_or_ge o cs.length with h|h
  ·exact h
  ·rw[dB h]at hv;cases hv
 rwa [List.getElem?_take,zE ho,List.getElem?_drop]at h4
theorem tc.read {c:Ctx}{cs:List VV}{b p:Nat}(h:tc c cs b p){o n:Nat}(hn:o+n≤cs.length): ∃y as,c.σ.m b=some y∧pi y (p+o) n=some as∧F2 (VRel c) ((cs.drop o).take n) as:=by
 obtain⟨y,h1,h2,h3⟩:=h;refine⟨y,(y.cells.drop (p+o)).take n,h1,zE (by omega), ?_⟩;have h4:=(h3.drop o).take n;rw[List.drop_take,List.drop_drop,List.take_take,Nat.min_eq_left (by omega)]at h4;exact h4
theorem fq.stands {c:Ctx}(hR:fq c){k b:Nat}{d:Nat×Nat}(hd:(bl c.S k).dim=some d)(hm:c.μ k=some b):tc c (bl c.S k).vals b 0:=by
 obtain⟨y,cs,rest,h1,_,_,h2,h3⟩:=hR.block hd hm;have hl:=h3.length;refine⟨y,h1,by rw[h2,List.length_append];omega, ?_⟩;rw[List.drop_zero,h2,List.take_append_of_le_length (by omega),List.take_of_length_le (by omega)];exact h3
theorem tc.part {c:Ctx}{cs:List VV}{b p:Nat}(h:tc c cs b p){o n:Nat}(hn:o+n≤cs.length):tc c ((cs.drop o).take n) b (p+o):=by
 obtain⟨y,h1,h2,h3⟩:=h;have hl:((cs.drop o).take n).length=n:=by rw[eD,dD];omega
 refine⟨y,h1,by rw[hl];omega, ?_⟩;have h4:=(h3.drop o).take n;rw[List.drop_take,List.drop_drop,List.take_take,Nat.min_eq_left (by omega)]at h4
 rwa [hl]
theorem bS9 {β:Type}{c:Ctx}(hR:fq c){n:Nat}{agg:Bool}{v:VV}{a:Value}{k:VV→bq→Option β}{y:β}(h:bu6 c.S n agg v k=some y)(hv:VRel c v a):
  ∃b o x,a= .pointer (some ⟨b,o,none⟩)∧c.σ.m b=some x∧
   (agg=false→∃u w,x.cells[o]?=some u∧VRel c w u∧k w c.S=some y)∧
   (agg=true→∃us ws,pi x o n=some us∧F2 (VRel c) ws us∧k (.agg ws) c.S=some y):=by
 have out: ∀(cs:List VV) (b p o:Nat),tc c cs b p→a= .pointer (some ⟨b,p+o,none⟩)→
   cond agg (gd (Nat.ble (o+n) cs.length) (k (.agg ((cs.drop o).take n)) c.S)) (match nth cs o with
    |some v=>k v c.S
    |none=>none)=some y→
   ∃b o x,a= .pointer (some ⟨b,o,none⟩)∧c.σ.m b=some x∧
   (agg=false→∃u w,x.cells[o]?=some u∧VRel c w u∧k w c.S=some y)∧
   (agg=true→∃us ws,pi x o n=some us∧F2 (VRel c) ws us∧k (.agg ws) c.S=some y):=by
  intro cs b p o hs ha h;cases agg with
  |true=>
   obtain⟨h1,h2⟩:=bx h;obtain⟨x,as,h3,h4,h5⟩:=hs.read (fB h1);exact⟨b,p+o,x,ha,h3,(by intro h;cases h),fun _=>⟨as,_,h4,h5,h2⟩⟩
  |false=>
   rw[zD]at h;split at h
   ·rename_i w hw;obtain⟨x,u,h3,h4,h5⟩:=hs.get hw;exact⟨b,p+o,x,ha,h3,(fun _=>⟨u,w,h4,h5,h⟩),(by intro h;cases h)⟩
   ·cases h
 unfold bu6 at h;cases v with
 |ptr q o=>
  simp only at h;cases hb:bl c.S q with
  |dead=>rw[hb]at h;cases h
  |arr s z l=>rw[hb]at h;cases h
  |cells es z l=>
   rw[hb]at h;cases hv with
   |ptr hk _ hd=>
    obtain⟨b,hm,ha⟩:=hd (es,l.length) (by rw[hb];rfl);have hs:=hR.stands (k:=q) (d:=(es,l.length)) (by rw[hb];rfl) hm;rw[hb]at hs;exact out l b 0 o hs (by rw[ha,cB]) h
 |pix q o m i=>
  simp only at h;cases hb:bl c.S q with
  |dead=>rw[hb]at h;cases h
  |arr s z l=>rw[hb]at h;cases h
  |cells es z l=>
   rw[hb]at h;obtain⟨h1,h2⟩:=bx h;rw[aD]at h1;have h3:=fB h1.2;have hagg:agg=false:=by simpa using h1.1
   subst hagg;cases hv with
   |pix hk _ hi hd=>
    obtain⟨b,hm,ha⟩:=hd (es,l.length) (by rw[hb];rfl);have hs:=hR.stands (k:=q) (d:=(es,l.length)) (by rw[hb];rfl) hm;rw[hb]at hs;have hlen:((l.drop o).take m).length=m:=by rw[eD,dD];omega
    obtain⟨w,h4,h5⟩:=bN8 (by omega) h2;have hs':tc c ((l.drop o).take m) b (0+o):=tc.part (cs:=l) hs h3;rw[←uT]at h4;obtain⟨x,u,h6,h7,h8⟩:=hs'.get h4;exact⟨b,o+i,x,ha,h6,(fun _=>⟨u,w,by rwa [cB]at h7,h8,h5⟩),(by intro h;cases h)⟩
 |pel q i o=>
  simp only at h;cases hb:bl c.S q with
  |dead=>rw[hb]at h;cases h
  |cells es z l=>rw[hb]at h;cases h
  |arr s z l=>
   rw[hb]at h;simp only at h;cases hx:l[i]? with
   |none=>rw[hx]at h;cases h
   |some x=>
    rw[hx]at h;cases hv with
    |pel hk _ hd=>
     obtain⟨b,hm,ha⟩:=hd (s.w,l.length*s.w) (by rw[hb];rfl);have hs:=hR.stands (k:=q) (d:=(s.w,l.length*s.w)) (by rw[hb];rfl) hm;rw[hb]at hs
     have hi:i<l.length:=by
      rcases Nat.lt_or_ge i l.length with h|h
      ·exact h
      ·rw[dB h]at hx;cases hx
     have hle:i*s.w+s.w≤(gp s l).length:=by
      rw[jb,←Nat.succ_mul];exact Nat.mul_le_mul_right _ hi
     have hs':tc c (((gp s l).drop (i*s.w)).take s.w) b (0+i*s.w):=tc.part (cs:=gp s l) hs hle;rw[aM7 hx,cB]at hs';exact out (fa s x) b (i*s.w) o hs' ha h
 |pin s x o=>
  simp only at h;cases hv with
  |pin hn hy hl hf=>
   exact out (fa s x) _ _ o ⟨_,hy,by rw[fg];exact hl,by rw[fg];exact hf⟩ rfl h
 |_=>cases h
end
section
open Nat renaming lt_of_lt_of_le → aB
theorem aY5.frame {c c':Ctx}(hl:Le c c'){k:Nat}(h:aY5 c k)(hS:bl c'.S k=bl c.S k)(hμ:(bl c.S k).dim≠none→c'.μ k=c.μ k)(hσ: ∀b y,(bl c.S k).dim≠none→c.μ k=some b→c.σ.m b=some y→c'.σ.m b=some y):aY5 c' k:=by
 intro d hd;rw[hS]at hd;obtain⟨h1,h2⟩:=h d hd;have hm:=hμ (by rw[hd];simp);refine⟨h1, ?_⟩;rcases h2 with⟨h3,h4⟩|⟨b,y,cs,rest,h3,h4,h5,h6,h7,h8⟩
 ·exact .inl ⟨h3,hm.trans h4⟩
 ·exact .inr ⟨b,y,cs,rest,hm.trans h3,hσ b y (by rw[hd];simp) h3 h4,h5,by rw[hS];exact h6,h7,by rw[hS];exact VRel.frames hl h8⟩
def sI (S S':bq):Prop:=S'.length=S.length∧∀k,bl S' k=bl S k∨bl S' k=(bl S k).freeze
theorem sI.refl (S:bq):sI S S:=⟨rfl,fun _=> .inl rfl⟩
theorem bq0 {b:Blk}:b.freeze.freeze=b.freeze:=by cases b<;>rfl
theorem sI.trans {a b c:bq}(h:sI a b)(k:sI b c):sI a c:=by
 refine⟨k.1.trans h.1,fun i=> ?_⟩;rcases h.2 i with h1|h1<;>rcases k.2 i with h2|h2
 ·exact .inl (h2.trans h1)
 ·exact .inr (by rw[h2,h1])
 ·exact .inr (h2.trans h1)
 ·exact .inr (by rw[h2,h1,bq0])
theorem sI.put {S:bq}{k:Nat}:sI S (lE S k (bl S k).freeze):=by
 refine⟨as0,fun i=> ?_⟩;rw[wy];split
 ·rename_i h;rw[h.1];exact .inr rfl
 ·exact .inl rfl
theorem sI.fold {f:bq→VV→bq}(hf: ∀S v,sI S (f S v)): ∀(l:List VV) (S:bq),sI S (l.foldl f S)
 |[],S=>sI.refl S
 |v::l,S=>(hf S v).trans (sI.fold hf l _)
theorem ch0 : ∀(n:Nat) (S:bq) (v:VV),sI S (fzv n S v)
 |0,S,_=>sI.refl S
 |n+1,S,v=>by
  have key: ∀k,sI S (match bl S k with
    | .cells es _ l=>l.foldl (fzv n) (lE S k (.cells es true l))
    |b=>lE S k b.freeze):=by
   intro k;have hp:=sI.put (S:=S) (k:=k);split
   ·rename_i es z l h;rw[h]at hp;exact sI.trans hp (sI.fold (ch0 n) l _)
   ·exact hp
  unfold fzv;split
  ·exact key _
  ·exact key _
  ·exact sI.refl S
theorem au2 (S:bq)(l:List VV):sI S (fzL S l):=sI.fold (ch0 3) l S
theorem cw7 (S:bq)(v:VV):sI S (cX5 S v):=by
 unfold cX5;split
 ·split
  ·exact au2 S _
  ·exact sI.refl S
 ·split
  ·exact au2 S _
  ·exact sI.refl S
 ·exact sI.refl S
theorem co2 (k:Sk)(v:VV)(S:bq):sI S (cw6 k v S):=by
 unfold cw6;split
 ·exact cw7 S v
 ·exact sI.refl S
theorem be9 : ∀(l:List Sk) (vs:List VV) (S:bq),sI S (aq2 l vs S)
 |[],_,S=>sI.refl S
 |_::_,[],S=>sI.refl S
 |k::r,v::vs,S=>(co2 k v S).trans (be9 r vs _)
theorem tf : ∀(l:List Nat) (S:bq),sI S (ah6 l S)
 |[],S=>sI.refl S
 |_::l,S=>sI.put.trans (tf l _)
theorem sI.dim {S S':bq}(h:sI S S')(k:Nat):(bl S' k).dim=(bl S k).dim:=by
 rcases h.2 k with h|h<;>rw[h]
 exact gv
theorem sI.vals {S S':bq}(h:sI S S')(k:Nat):(bl S' k).vals=(bl S k).vals:=by
 rcases h.2 k with h|h<;>rw[h]
 exact aU0
theorem sI.fz {S S':bq}(h:sI S S'){k:Nat}(hz:(bl S' k).frozen=false):bl S' k=bl S k:=by
 rcases h.2 k with h|h
 ·exact h
 ·rw[h,na]at hz;cases hz
theorem sI.le {c:Ctx}{S':bq}(h:sI c.S S'):Le c ⟨c.μ,S',c.σ,c.fb⟩:=by
 refine⟨Nat.le_of_eq h.1.symm,fun k d _ hd=>⟨(h.dim k)▸hd,rfl⟩,fun k hk _=> ?_,fun _ _ _ y _ _ _ hy=>⟨y,hy,rfl⟩,fun b y hy _=>hy,fun b y hy hn=> ?_,Nat.le_refl _,rfl⟩
 ·rcases h.2 k with h|h
  ·exact h
  ·exact h.trans (zu hk)
 ·rintro⟨k,h1,h2⟩;exact hn ⟨k,by rw[←h.fz h1];exact h1,h2⟩
theorem sI.rel {c:Ctx}(hR:fq c){S':bq}(h:sI c.S S'):fq ⟨c.μ,S',c.σ,c.fb⟩:=by
 refine⟨hR.ok,fun k k' b hk hk' hm hm'=>hR.inj k k' b (by rw[←h.fz hk];exact hk) (by rw[←h.dim];exact hk') hm hm',fun k d hd=> ?_,fun k b hk hm=>hR.fbk k b (by rw[←h.dim];exact hk) hm,hR.fbl⟩;have hd':(bl c.S k).dim=some d:=(h.dim k)▸hd;obtain⟨h1,h2⟩:=hR.blk k d hd';refine⟨h1, ?_⟩;rcases h2 with h2|⟨b,y,cs,rest,h3,h4,h5,h6,h7,h8⟩
 ·exact .inl h2
 ·exact .inr ⟨b,y,cs,rest,h3,h4,h5,fun hz=>h6 (by rw[←h.fz hz];exact hz),h7,by rw[h.vals k];exact VRel.frames h.le h8⟩
theorem sI.calm {c:Ctx}{S':bq}(d:List Nat)(h:sI c.S S'):tL d c ⟨c.μ,S',c.σ,c.fb⟩:=fun k _ _ hk=>⟨by rw[h.dim];exact hk,fun _ _=>rfl⟩
theorem tL.trans {a b c:Ctx}{d:List Nat}(h:tL d a b)(k:tL d b c)(hl:Le a b):tL d a c:=by
 intro i hi hd hn;obtain⟨h1,h2⟩:=h i hi hd hn;obtain⟨h3,h4⟩:=k i (aB hi hl.len) hd h1;refine⟨h3,fun x hx=> ?_⟩
 have hx':b.μ i=some x:=by
  cases hb:(bl b.S i).dim with
  |none=>exact(h1 hb).elim
  |some z=>exact(hl.al i z hi hb).2.trans hx
 exact(h4 x hx').trans (h2 x hx)
def cf6 (c:Ctx)(kill:Option Nat)(b:Nat):Prop:= ∃k,kill=some k∧c.μ k=some b
def ta (c:Ctx)(b1:Option Nat):Nat→Option Nat:=fun i=>if i=c.S.length then b1 else c.μ i
theorem wm {S:bq}{kill:Option Nat}:(ph S kill).length=S.length:=by cases kill<;>simp[ph,as0]
theorem co8 {S:bq}{kill:Option Nat}{i:Nat}:bl (ph S kill) i=if kill=some i then .dead else bl S i:=by
 cases kill with
 |none=>simp[ph]
 |some k=>
  simp only[ph,wy,Option.some.injEq];by_cases h:i=k
  ·subst h;by_cases h1:i<S.length
   ·simp[h1]
   ·simp[h1,ux (Nat.le_of_not_lt h1)]
  ·simp[h,Ne.symm h]
structure Moves (c:Ctx)(kill:Option Nat)(b1:Option Nat)(blk:Blk)(σ':Hp):Prop where
 fr: ∀b,b1=some b→(∀z,c.σ.m b≠some z)→¬c.fb b
 kz: ∀k,kill=some k→(bl c.S k).frozen=false
 ok:σ'.Ok
 n:c.σ.n≤σ'.n
 old: ∀i y,c.σ.m i=some y→¬cf6 c kill i→σ'.m i=some y
 one: ∃d,blk.dim=some d∧1≤d.1∧((b1=none∧d.2=0)∨∃b y cs rest,b1=some b∧σ'.m b=some y∧y.es=d.1∧(blk.frozen=false→y.own=true)∧y.cells=cs++rest∧F2 (VRel c) blk.vals cs∧((∀z,c.σ.m b≠some z)∨cf6 c kill b))
section
variable {c:Ctx} {kill b1:Option Nat} {blk:Blk} {σ':Hp}
theorem kY (i:Nat):bl (ph c.S kill++[blk]) i=if i=c.S.length then blk else if kill=some i then .dead else bl c.S i:=by
 by_cases h:i=c.S.length
 ·subst h;rw[zE rfl,←wm (S:=c.S) (kill:=kill),bU9]
 ·rw[zF h];by_cases h1:i<c.S.length
  ·rw[ng (by rw[wm];exact h1),co8]
  ·have h2:c.S.length<i:=by omega
   rw[ux (by rw[List.length_append,wm];simp;omega),ux (k:=i) (S:=c.S) (by omega)];split<;>rfl
theorem Moves.low (hR:fq c)(h:Moves c kill b1 blk σ'){i b:Nat}(_:i≠c.S.length)(hk:kill≠some i)(hd:(bl c.S i).dim≠none)(hm:c.μ i=some b): ¬cf6 c kill b:=by
 rintro⟨k,rfl,h1⟩;exact hk (congrArg some (hR.inj k i b (h.kz k rfl) hd h1 hm))
theorem Moves.le (hR:fq c)(h:Moves c kill b1 blk σ'):Le c ⟨ta c b1,ph c.S kill++[blk],σ',c.fb⟩:=by
 have hlt: ∀k,k<c.S.length→k≠c.S.length:=fun k hk=>by omega
 refine⟨by simp[wm],fun k d hk hd=> ?_,fun k hz hd=> ?_,fun k d b y hk hd hm hy=> ?_,fun b y hy hn=>h.old b y hy fun⟨k,e,hm⟩=>hn ⟨k,h.kz k e,hm⟩,fun b y hy hn=> ?_,h.n,rfl⟩
 ·simp only[kY,zF (hlt k hk)]at hd;split at hd
  ·cases hd
  ·exact⟨hd,zF (hlt k hk)⟩
 ·have hk:=mO hd;simp only[kY,zF (hlt k hk)];rw[zF];intro e;have:=h.kz k e;rw[hz]at this;cases this
 ·simp only[kY,zF (hlt k hk)]at hd;split at hd
  ·cases hd
  ·rename_i hne;exact⟨y,h.old b y hy (h.low hR (hlt k hk) hne (by rw[hd];simp) hm),rfl⟩
 ·have hnk: ¬cf6 c kill b:=fun⟨k,e,hm⟩=>hn ⟨k,h.kz k e,hm⟩
  rintro⟨k,h1,h2⟩;simp only[kY]at h1;simp only[ta]at h2;by_cases hk:k=c.S.length
  ·rw[zE hk]at h1 h2;obtain⟨d,_,_,h3⟩:=h.one;rcases h3 with⟨h3,_⟩|⟨b',y',cs,rest,h3,_,_,_,_,_,h4⟩
   ·rw[h3]at h2;cases h2
   ·rw[h3]at h2;injection h2 with h2
    subst h2;rcases h4 with h4|h4
    ·exact h4 y hy
    ·exact hnk h4
  ·rw[zF hk]at h1 h2;split at h1
   ·cases h1
   ·exact hn ⟨k,h1,h2⟩
theorem Moves.rel (hR:fq c)(h:Moves c kill b1 blk σ'):fq ⟨ta c b1,ph c.S kill++[blk],σ',c.fb⟩:=by
 have hle:=h.le hR
 have hnew: ∀i b,i≠c.S.length→kill≠some i→(bl c.S i).dim≠none→c.μ i=some b→b1≠some b:=by
  intro i b hi hk hd hm e;obtain⟨d,_,_,h3⟩:=h.one;rcases h3 with⟨h3,_⟩|⟨b',y',cs,rest,h3,_,_,_,_,_,h4⟩
  ·rw[h3]at e;cases e
  ·rw[h3]at e;injection e with e
   subst e;rcases h4 with h4|h4
   ·cases hdd:(bl c.S i).dim with
    |none=>exact hd hdd
    |some dd=>
     obtain⟨y,_,_,hy,_⟩:=hR.block hdd hm;exact h4 y hy
   ·exact h.low hR hi hk hd hm h4
 have hfb: ∀b,c.fb b→b1≠some b:=by
  intro b hb e;obtain⟨d,_,_,h3⟩:=h.one;rcases h3 with⟨h3,_⟩|⟨b',y',cs,rest,h3,_,_,_,_,_,h4⟩
  ·rw[h3]at e;cases e
  ·rw[h3]at e;injection e with e
   subst e;rcases h4 with h4|⟨k,h4,h5⟩
   ·exact h.fr _ h3 h4 hb
   ·exact hR.fbk k _ (mC (h.kz k h4)) h5 hb
 refine⟨h.ok,fun k k' b hk hk' hm hm'=> ?_,fun k=> ?_,fun k b hk hm hb=> ?_,fun b hb=>aB (hR.fbl b hb) h.n⟩
 rotate_left 2
 ·simp only[kY]at hk;simp only[ta]at hm;by_cases h1:k=c.S.length
  ·rw[zE h1]at hm;exact hfb b hb hm
  ·rw[zF h1]at hm hk;split at hk
   ·exact hk rfl
   ·exact hR.fbk k b hk hm hb
 ·simp only[kY]at hk hk';simp only[ta]at hm hm';by_cases h1:k=c.S.length<;>by_cases h2:k'=c.S.length
  ·omega
  ·rw[zE h1]at hm;rw[zF h2]at hm' hk';split at hk'
   ·exact(hk' rfl).elim
   ·rename_i hne;exact(hnew k' b h2 hne hk' hm' hm).elim
  ·rw[zF h1]at hm hk;rw[zE h2]at hm';split at hk
   ·cases hk
   ·rename_i hne;exact(hnew k b h1 hne (mC hk) hm hm').elim
  ·rw[zF h1]at hm hk;rw[zF h2]at hm' hk';split at hk
   ·cases hk
   ·split at hk'
    ·exact(hk' rfl).elim
    ·exact hR.inj k k' b hk hk' hm hm'
 ·by_cases hk:k=c.S.length
  ·subst hk;intro d hd;simp only[kY,if_true]at hd⊢;obtain⟨d',h1,h2,h3⟩:=h.one;rw[hd]at h1;injection h1 with h1
   subst h1;refine⟨h2, ?_⟩;simp only[ta,if_true];rcases h3 with⟨h3,h4⟩|⟨b',y',cs,rest,h3,h4,h5,h6,h7,h8,_⟩
   ·exact .inl ⟨h4,h3⟩
   ·exact .inr ⟨b',y',cs,rest,h3,h4,h5,h6,h7,VRel.frames hle h8⟩
  ·by_cases hne:kill=some k
   ·intro d hd;simp only[kY,zF hk,zE hne]at hd;cases hd
   ·refine(hR.blk k).frame hle ?_ (fun _=>zF hk) fun b y hd hm hy=> ?_
    ·simp only[kY,zF hk,zF hne]
    ·exact h.old b y hy (h.low hR hk hne hd hm)
theorem Moves.calm (hR:fq c)(h:Moves c kill b1 blk σ'){d:List Nat}(hd: ∀k,kill=some k→k∈d):tL d c ⟨ta c b1,ph c.S kill++[blk],σ',c.fb⟩:=by
 intro k hk hn hdim;have h1:k≠c.S.length:=by omega
 have h2:kill≠some k:=fun e=>hn (hd k e)
 simp only[kY,zF h1,zF h2];refine⟨hdim,fun b hm=> ?_⟩;cases hdd:(bl c.S k).dim with
 |none=>exact(hdim hdd).elim
 |some dd=>
  obtain⟨y,_,_,hy,_⟩:=hR.block hdd hm;rw[hy];exact h.old b y hy (h.low hR h1 h2 hdim hm)
end
theorem bN1 {c:Ctx}(hR:fq c){blk:Blk}{x:Ab.Blk}{d:Nat×Nat}(hd:blk.dim=some d)(h1:1≤d.1)(he:x.es=d.1)(ho:x.own=true)(hf:F2 (VRel c) blk.vals x.cells):
  Moves c none (some c.σ.n) blk (c.σ.add x):=by
 refine⟨(fun b h _ hb=>by injection h with h;subst h;exact Nat.lt_irrefl _ (hR.fbl _ hb)),(fun _ h=>by cases h),fun b y hy=> ?_,Nat.le_succ _,fun i y hy _=> ?_,d,hd,h1, .inr ⟨c.σ.n,x,x.cells,[],rfl,zE rfl,he,fun _=>ho,by simp,hf, .inl fun z hz=> ?_⟩⟩
 ·simp only[Hp.add]at hy⊢;split at hy
  ·omega
  ·have:=hR.ok b y hy;omega
 ·have:=hR.ok i y hy;simp only[Hp.add];rw[zF (by omega)];exact hy
 ·have:=hR.ok _ _ hz;omega
structure Writes (c:Ctx)(k b:Nat)(blk:Blk)(y':Ab.Blk):Prop where
 kz:(bl c.S k).frozen=false
 mu:c.μ k=some b
 dim:blk.dim=(bl c.S k).dim
 fz:blk.frozen=false
 one: ∃y cs rest d,c.σ.m b=some y∧(bl c.S k).dim=some d∧y'.es=d.1∧y'.own=true∧y'.cells.length=y.cells.length∧y'.cells=cs++rest∧F2 (VRel c) blk.vals cs
section
variable {c:Ctx} {k b:Nat} {blk:Blk} {y':Ab.Blk}
theorem Writes.get (h:Writes c k b blk y')(i:Nat):bl (lE c.S k blk) i=if i=k then blk else bl c.S i:=by
 rw[wy];have:=mO (mC h.kz);by_cases hi:i=k
 ·rw[zE ⟨hi,this⟩,zE hi]
 ·rw[zF (fun e=>hi e.1),zF hi]
theorem Writes.low (hR:fq c)(h:Writes c k b blk y'){i b':Nat}(hi:i≠k)(hd:(bl c.S i).dim≠none)(hm:c.μ i=some b'):b'≠b:=by
 rintro rfl;exact hi (hR.inj k i b' h.kz hd h.mu hm).symm
theorem Writes.le (hR:fq c)(h:Writes c k b blk y'):Le c ⟨c.μ,lE c.S k blk,c.σ.set b (some y'),c.fb⟩:=by
 refine⟨by simp[as0],fun i d _ hd=> ?_,fun i hz hd=> ?_,fun i d x y _ hd hm hy=> ?_,fun x y hy hn=> ?_,fun x y hy hn=> ?_,Nat.le_refl _,rfl⟩
 ·simp only[h.get]at hd;split at hd
  ·rename_i e;subst e;exact⟨h.dim▸hd,rfl⟩
  ·exact⟨hd,rfl⟩
 ·simp only[h.get];rw[zF];rintro rfl;rw[h.kz]at hz;cases hz
 ·by_cases e:x=b
  ·subst e;obtain⟨y0,_,_,_,h1,_,_,_,h2,_⟩:=h.one;rw[hy]at h1;injection h1 with h1
   subst h1;exact⟨y',by simp[Hp.set],h2⟩
  ·exact⟨y,by simp[Hp.set,e,hy],rfl⟩
 ·have hne:x≠b:=by rintro rfl;exact hn ⟨k,h.kz,h.mu⟩
  simp[Hp.set,hne,hy]
 ·rintro⟨i,h1,h2⟩;simp only[h.get]at h1;split at h1
  ·rename_i e;subst e;exact hn ⟨i,h.kz,h2⟩
  ·exact hn ⟨i,h1,h2⟩
theorem Writes.rel (hR:fq c)(h:Writes c k b blk y'):fq ⟨c.μ,lE c.S k blk,c.σ.set b (some y'),c.fb⟩:=by
 have hle:=h.le hR
 have hfz: ∀i,(bl (lE c.S k blk) i).frozen=false→(bl c.S i).frozen=false:=by
  intro i hi;rw[h.get]at hi;split at hi
  ·rename_i e;subst e;exact h.kz
  ·exact hi
 have hdm: ∀i,(bl (lE c.S k blk) i).dim=(bl c.S i).dim:=by
  intro i;rw[h.get];split
  ·rename_i e;subst e;exact h.dim
  ·rfl
 refine⟨fun x z hz=> ?_,fun i j x hi hj hm hm'=>hR.inj i j x (hfz i hi) (by rw[←hdm];exact hj) hm hm',fun i=> ?_,fun i x hi hm=>hR.fbk i x (by rw[←hdm];exact hi) hm,hR.fbl⟩
 ·simp only[Hp.set]at hz;split at hz
  ·rename_i e;subst e;obtain⟨y,_,_,_,h1,_⟩:=h.one;exact hR.ok _ _ h1
  ·exact hR.ok _ _ hz
 ·by_cases e:i=k
  ·subst e;intro d hd;obtain⟨y,cs,rest,d',h1,h2,h3,h4,h5,h6,h7⟩:=h.one;have hd':(bl c.S i).dim=some d:=by rw[←hdm];exact hd
   rw[hd']at h2;injection h2 with h2
   subst h2;refine⟨(hR.blk i d hd').1, .inr ⟨b,y',cs,rest,h.mu,by simp[Hp.set],h3,fun _=>h4,h6, ?_⟩⟩;simp only[h.get,if_true];exact VRel.frames hle h7
  ·refine(hR.blk i).frame hle (by simp only[h.get,zF e]) (fun _=>rfl) fun x z hd hm hz=> ?_
   have:=h.low hR e hd hm;simp[Hp.set,this,hz]
theorem Writes.calm (hR:fq c)(h:Writes c k b blk y'){d:List Nat}(hd:k∈d):tL d c ⟨c.μ,lE c.S k blk,c.σ.set b (some y'),c.fb⟩:=by
 intro i _ hn hdim;have hne:i≠k:=by rintro rfl;exact hn hd
 simp only[h.get,zF hne];refine⟨hdim,fun x hm=> ?_⟩;have:=h.low hR hne hdim hm;simp[Hp.set,this]
end
end
end Go.V
