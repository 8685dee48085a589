/- A part of the proofs of this claim: what functions of the program answer on an abstract machine, and plain laws. No condition. -/
import Derived.Test.YtbocegmeciaanaaGreatA2
import Derived.IntWalk
import Derived.Below
set_option linter.unusedVariables false
set_option linter.unusedSimpArgs false
set_option linter.unusedSectionVars false
namespace Go.Ab
section
open List renaming mapM_cons → bD, getElem?_eq_getElem → cB
open Result renaming andThen_ok → aB
open Sem renaming run_bind → aD, run_pure → bB
open Go.RowKit
def bh8 (P:Program):List ResultVar→Option (List ARes)
 |[]=>some []
 | .tmp t::r=>(bh8 P r).map (.tmp t:: ·)
 | .cell a t::r=>match xG P t,mf P t,bh8 P r with
  |some true,some n,some r=>some (.cellN a n::r)
  |some false,some _,some r=>some (.cell a::r)
  |_,_,_=>none
def bT0 (P:Program)(f:FuncId):Option AFn:=match P.funcs[f]? with
 |some fn=>match fn.body,bX0 P f with
  |some c,true=>match mV P fn.ntmps c,bh8 P fn.results.toList with
   |some ac,some rs=>some ⟨fn.ntmps,rs,ac⟩
   |_,_=>none
  |_,_=>none
 |none=>none
section
variable {P:Program} {T:ia} {B:Base P} {N:Nat} {μ:Mu} {σ:Hp} {w:World} {e:dh}
def aG8 (tmps:Array Value):ResultVar→Sem Value
 | .tmp t=>pure (tmps.getD t undef)
 | .cell a t=>do loadVar t (←asAddr (tmps.getD a undef))
theorem ca7 (fn:Func)(tmps:Array Value):results fn tmps=(do
  let vs←fn.results.mapM (aG8 tmps)
  pure (if h:vs.size=1 then vs[0]else .tuple vs)):=rfl
theorem bF6 {tmps:Array Value}(he:fp μ N e tmps)(hR:R B μ σ w): ∀(l:List ResultVar) (rs:List ARes) (vs:List Value),bh8 P l=some rs→aM4 e σ rs=some vs→
  ∃vs',(l.mapM (aG8 tmps)).run P w= .ok vs' w∧F2 (VR μ) vs vs'
 |[],rs,vs,h,hr=>by
  simp[bh8]at h;subst h;simp[aM4]at hr;subst hr;exact⟨[],by simp, .nil⟩
 | .tmp t::l,rs,vs,h,hr=>by
  simp only[bh8]at h;obtain⟨rs',h1,h⟩:=Option.map_eq_some_iff.1 h;subst h;simp only[aM4]at hr;split at hr
  ·rename_i v vs1 h2 h3;injection hr with hr
   subst hr;simp[bf7]at h2;subst h2;obtain⟨vs',h4,h5⟩:=bF6 he hR l rs' vs1 h1 h3;refine⟨tmps.getD t undef::vs', ?_, .cons (he.2 t) h5⟩;have hF:(aG8 tmps (.tmp t)).run P w= .ok (tmps.getD t undef) w:=rfl;simp only[bD,aD,bB,aB,hF,h4]
  ·cases hr
 | .cell a t::l,rs,vs,h,hr=>by
  simp only[bh8]at h;have hv:=he.2 a;split at h
  ·rename_i n rs' h1 h2 h3;injection h with h
   subst h;simp only[aM4]at hr;split at hr
   ·rename_i v vs1 h4 h5;injection hr with hr
    subst hr;obtain⟨vs',h6,h7⟩:=bF6 he hR l rs' vs1 h3 h5;simp only[bf7]at h4;split at h4
    ·rename_i b o hb;rw[hb]at hv;obtain⟨g,hg,hq⟩:=hv.ptr_inv;obtain⟨x,hx,h4⟩:=Option.bind_eq_some_iff.1 h4;obtain⟨cs,hcs,rfl⟩:=Option.map_eq_some_iff.1 h4;obtain⟨cs',k1,k2⟩:=hR.reads hx hg hcs;refine⟨.agg cs'.toArray::vs', ?_, .cons (.agg k2) h7⟩
     have hF:(aG8 tmps (.cell a t)).run P w= .ok (.agg cs'.toArray) w:=by
      simp only[aG8,aD,hq,asAddr,bB,aB,loadVar,as5 h1,if_true,mU h2,k1 P w rfl]
     simp only[bD,aD,bB,aB,hF,h6]
    ·cases h4
   ·cases hr
  ·rename_i n rs' h1 h2 h3;injection h with h
   subst h;simp only[aM4]at hr;split at hr
   ·rename_i v vs1 h4 h5;injection hr with hr
    subst hr;obtain⟨vs',h6,h7⟩:=bF6 he hR l rs' vs1 h3 h5;simp only[bf7]at h4;split at h4
    ·rename_i b o hb;rw[hb]at hv;obtain⟨g,hg,hq⟩:=hv.ptr_inv;obtain⟨x,hx,h4⟩:=Option.bind_eq_some_iff.1 h4;obtain⟨v',k1,k2⟩:=(hR.get hx hg.1).cell hg.2 o v h4;refine⟨v'::vs', ?_, .cons k2 h7⟩
     have hF:(aG8 tmps (.cell a t)).run P w= .ok v' w:=by
      simp only[aG8,aD,hq,asAddr,bB,aB,loadVar,as5 h1,Bool.false_eq_true,if_false,run_load,k1]
     simp only[bD,aD,bB,aB,hF,h6]
    ·cases h4
   ·cases hr
  ·cases h
theorem cd6 {f:FuncId}{af:AFn}(h:bT0 P f=some af)(hM:qZ T)(hT: ∀g,Sim P g (T g)):Sim P f (wpF T af):=by
 unfold bT0 at h;split at h
 ·rename_i fn hfn;split at h
  ·rename_i c hb hen;split at h
   ·rename_i ac rs h1 h2;injection h with h
    subst h;intro B μ σ w args cargs K hw hR ha;obtain⟨hlen,hw⟩:=hw
    have hcall:bt7 P f:=by
     unfold bX0 at hen;rw[hfn]at hen;simp only[Bool.and_eq_true,Bool.not_eq_true']at hen;exact⟨fn,hfn,hen.1,hen.2⟩
    refine⟨hcall,calls_of_wp hfn hb ?_⟩;have hsz:cargs.size=args.length:=by simpa using ha.length.symm
    have henv:fp μ fn.ntmps (dh.of args) (cargs++Array.replicate (fn.ntmps-cargs.size) undef):=by
     refine⟨by simp only[Array.size_append,Array.size_replicate];simp only at hlen;omega,fun t=> ?_⟩;unfold dh.of;by_cases ht:t<args.length
     ·obtain⟨v',h3,h4⟩:=ha.get t args[t] (cB ht)
      have:(cargs++Array.replicate (fn.ntmps-cargs.size) undef).getD t undef=v':=by
       simp only[Array.getD_eq_getD_getElem?];rw[Array.getElem?_append_left (by omega)];have:cargs[t]?=some v':=by simpa using h3
       simp[this]
      rw[this,cB ht];exact h4
     ·have:(cargs++Array.replicate (fn.ntmps-cargs.size) undef).getD t undef=undef:=by
       simp only[Array.getD_eq_getD_getElem?];rw[Array.getElem?_append_right (by omega),Array.getElem?_replicate];split<;>rfl
      rw[this,List.getElem?_eq_none (by omega)];exact VR.undef μ
    refine wp_mono (cB2 hM hT c ac h1 _ _ σ μ ⟨_,[]⟩ w hw hR henv rfl) fun x a' w' hx=> ?_
    obtain⟨ax,e',σ',μ',hxr,hq,g1,g2,g3,g4,g5⟩:=hx
    have fin:(match aM4 e' σ' rs with
      |some vs=>K (xN vs) σ'
      |none=>False)→a'.defers=[]∧∃v,(results fn a'.tmps).run P w'= .ok v w'∧cU5 P B μ w K (.returned v) w':=by
     intro hq;refine⟨g4, ?_⟩;split at hq
     ·rename_i vs hvs;obtain⟨vs',k1,k2⟩:=bF6 (P:=P) g3 g2 fn.results.toList rs vs h2 hvs;have hl:=k2.length;refine⟨xN vs', ?_,_,σ',_,μ',rfl,hq,g1,g2, ?_,g5,rfl⟩
      ·rw[ca7,Array.mapM_eq_mapM_toList];simp only[aD,Sem.run_map,k1,aB,bB]
       congr 1
       match vs',hl with
       |[],_=>rfl
       |[v],_=>rfl
       |v::u::r,_=>simp[xN]
      ·match vs,vs',k2 with
       |[],_, .nil=>exact .tuple .nil
       |[v],_, .cons h .nil=>exact h
       |v::u::r,_, .cons h (.cons h' t)=>exact .tuple (.cons h (.cons h' t))
     ·exact hq.elim
    cases ax with
    |normal=>
     cases x<;>simp[vE]at hxr;exact fin hq
    |exit id=>exact hq.elim
    |ret=>
     cases x<;>simp[vE]at hxr;exact fin hq
   ·cases h
  ·cases h
 ·cases h
theorem Sim.none (P:Program)(f:FuncId):Sim P f fun _ _ _=>False:=fun _ _ _ _ _ _ _ h=>h.elim
theorem Sim.of {f:FuncId}{S S':aJ2}(h:Sim P f S)(hS: ∀args σ K,S' args σ K→S args σ K):Sim P f S':=
 fun B μ σ w args cargs K hk=>h B μ σ w args cargs K (hS args σ K hk)
end
inductive Rn (ν:Nat→Nat)(n:Nat):Value→Value→Prop where
 |bool (b:Bool):Rn ν n (.bool b) (.bool b)
 |int (k:IntKind) (m:Int):Rn ν n (.int k m) (.int k m)
 |string (s:ByteArray):Rn ν n (.string s) (.string s)
 |nilp:Rn ν n (.pointer none) (.pointer none)
 |ptr {b o:Nat}:b<n→Rn ν n (.pointer (some ⟨b,o,none⟩)) (.pointer (some ⟨ν b,o,none⟩))
 |nils:Rn ν n (.slice none 0 0) (.slice none 0 0)
 |slice {b o l c:Nat}:b<n→Rn ν n (.slice (some ⟨b,o,none⟩) l c) (.slice (some ⟨ν b,o,none⟩) l c)
 |nilf:Rn ν n .nilFunc .nilFunc
 |func {f:Fn} {a a' c c':Array Value}:F2 (Rn ν n) a.toList a'.toList→F2 (Rn ν n) c.toList c'.toList→Rn ν n (.func f a c) (.func f a' c')
 |nili:Rn ν n .nilIface .nilIface
 |agg {a a':Array Value}:F2 (Rn ν n) a.toList a'.toList→Rn ν n (.agg a) (.agg a')
 |tuple {a a':Array Value}:F2 (Rn ν n) a.toList a'.toList→Rn ν n (.tuple a) (.tuple a')
theorem Rn.vr {ν:Nat→Nat}{n:Nat}{μ1 μ':Mu}(hμ: ∀b,b<n→μ' b=μ1 (ν b)): ∀{v u:Value},Rn ν n v u→∀{u':Value},VR μ1 u u'→VR μ' v u'
 |_,_, .bool b,_,h=>by cases h;exact .bool b
 |_,_, .int k m,_,h=>by cases h;exact .int k m
 |_,_, .string s,_,h=>by cases h;exact .string s
 |_,_, .nilp,_,h=>by cases h;exact .nilp
 |_,_, .ptr hb,_,h=>by cases h with|ptr h1=>exact .ptr ⟨(hμ _ hb).trans h1.1,h1.2⟩
 |_,_, .nils,_,h=>by cases h;exact .nils
 |_,_, .slice hb,_,h=>by cases h with
  |slice h1 h2 h3 h4=>exact .slice ⟨(hμ _ hb).trans h1.1,h1.2⟩ h2 h3 h4
  |slice0 A' h1=>exact .slice0 _ ⟨(hμ _ hb).trans h1.1,h1.2⟩
 |_,_, .nilf,_,h=>by cases h;exact .nilf
 |_,_, .func h1 h2,_,h=>by cases h with|func k1 k2=>exact .func (go h1 k1) (go h2 k2)
 |_,_, .nili,_,h=>by cases h;exact .nili
 |_,_, .agg h1,_,h=>by cases h with|agg k1=>exact .agg (go h1 k1)
 |_,_, .tuple h1,_,h=>by cases h with|tuple k1=>exact .tuple (go h1 k1)
where
 go {l m:List Value}:F2 (Rn ν n) l m→∀{m':List Value},F2 (VR μ1) m m'→F2 (VR μ') l m'
 | .nil,_,h=>by cases h;exact .nil
 | .cons h1 t1,_,h=>by cases h with|cons k1 k2=>exact .cons (Rn.vr hμ h1 k1) (go t1 k2)
theorem VR.narrow {μ μ1 μ':Mu}(hμ: ∀b g g1,μ b=some g→μ1 b=some g1→μ' b=some g1): ∀{v u:Value},VR μ v u→∀{u':Value},VR μ1 v u'→VR μ' v u'
 |_,_, .bool b,_,h=>by cases h;exact .bool b
 |_,_, .int k m,_,h=>by cases h;exact .int k m
 |_,_, .string s,_,h=>by cases h;exact .string s
 |_,_, .nilp,_,h=>by cases h;exact .nilp
 |_,_, .ptr hb,_,h=>by cases h with|ptr h1=>exact .ptr ⟨hμ _ _ _ hb.1 h1.1,h1.2⟩
 |_,_, .nils,_,h=>by cases h;exact .nils
 |_,_, .slice hb _ _ _,_,h=>by cases h with
  |slice h1 h2 h3 h4=>exact .slice ⟨hμ _ _ _ hb.1 h1.1,h1.2⟩ h2 h3 h4
  |slice0 A' h1=>exact .slice0 _ ⟨hμ _ _ _ hb.1 h1.1,h1.2⟩
 |_,_, .slice0 A' hb,_,h=>by cases h with
  |slice h1 h2 h3 h4=>exact .slice ⟨hμ _ _ _ hb.1 h1.1,h1.2⟩ h2 h3 h4
  |slice0 A' h1=>exact .slice0 _ ⟨hμ _ _ _ hb.1 h1.1,h1.2⟩
 |_,_, .sliceX hb _,_,h=>by cases h with
  |sliceX h1 h2=>exact .sliceX ⟨hμ _ _ _ hb.1 h1.1,h1.2⟩ h2
  |sliceX0 A' h1=>exact .sliceX0 _ ⟨hμ _ _ _ hb.1 h1.1,h1.2⟩
 |_,_, .sliceX0 A' hb,_,h=>by cases h with
  |sliceX h1 h2=>exact .sliceX ⟨hμ _ _ _ hb.1 h1.1,h1.2⟩ h2
  |sliceX0 A' h1=>exact .sliceX0 _ ⟨hμ _ _ _ hb.1 h1.1,h1.2⟩
 |_,_, .nilf,_,h=>by cases h;exact .nilf
 |_,_, .func h1 h2,_,h=>by cases h with|func k1 k2=>exact .func (go h1 k1) (go h2 k2)
 |_,_, .iter hb _,_,h=>by cases h with|iter k1 k2=>exact .iter (hμ _ _ _ hb k1) k2
 |_,_, .nili,_,h=>by cases h;exact .nili
 |_,_, .agg h1,_,h=>by cases h with|agg k1=>exact .agg (go h1 k1)
 |_,_, .tuple h1,_,h=>by cases h with|tuple k1=>exact .tuple (go h1 k1)
where
 go {l m:List Value}:F2 (VR μ) l m→∀{m':List Value},F2 (VR μ1) l m'→F2 (VR μ') l m'
 | .nil,_,h=>by cases h;exact .nil
 | .cons h1 t1,_,h=>by cases h with|cons k1 k2=>exact .cons (VR.narrow hμ h1 k1) (go t1 k2)
end
section
open Nat renaming lt_or_ge → aB, lt_of_lt_of_le → aD
open Go.RowKit
structure Weak (σ0 σ1:Hp)(r:Value)(σ':Hp)(r':Value)(ν:Nat→Nat):Prop where
 n:σ0.n≤σ'.n
 old: ∀b,b<σ0.n→ν b=b
 inj: ∀b b' x x',σ'.m b=some x→σ'.m b'=some x'→b≠b'→ν b≠ν b'
 blk: ∀b x',σ'.m b=some x'→(σ0.m b=some x'∧σ1.m b=some x')∨
  (b<σ'.n∧∃x,σ1.m (ν b)=some x∧x'.es=x.es∧(x'.own=true→x.own=true)∧F2 (Rn ν σ'.n) x'.cells (x.cells.take x'.cells.length))
 res:Rn ν σ'.n r' r
section
variable {P:Program} {f:FuncId} {S S':aJ2}
theorem R.weak {P:Program}{B:Base P}{μ μ1:Mu}{σ σ1 σ':Hp}{w w':World}{r r':Value}{ν:Nat→Nat}(hR:R B μ σ w)(hR1:R B μ1 σ1 w')(hμ:μ.le μ1)(h:Weak σ σ1 r σ' r' ν):
  ∃μ',μ.le μ'∧R B μ' σ' w'∧∀rc,VR μ1 r rc→VR μ' r' rc:=by
 have hdom: ∀b g,μ b=some g→b<σ.n:=fun b g hb=>by
  rcases aB b σ.n with h1|h1
  ·exact h1
  ·rw[hR.fresh b h1]at hb;cases hb
 have hin: ∀b,b<σ'.n→(fun b=>if b<σ'.n then μ1 (ν b)else none) b=μ1 (ν b):=fun b hb=>zE hb
 have hlt0: ∀b x,σ.m b=some x→b<σ.n:=fun b x hx=>by
  obtain⟨g,hg,_⟩:=hR.live b x hx;exact hdom b g hg
 have hnar: ∀b g g1,μ b=some g→μ1 b=some g1→(fun b=>if b<σ'.n then μ1 (ν b)else none) b=some g1:=by
  intro b g g1 hb hb1;have h1:=hdom b g hb;rw[hin b (aD h1 h.n),h.old b h1];exact hb1
 refine⟨fun b=>if b<σ'.n then μ1 (ν b)else none,fun b g hb=> ?_,⟨hR1.base,hR1.old,fun b hb=>zF (by omega),fun b x' hx'=> ?_,fun b b' x x' g g' hx hx' hne ho hg hg'=> ?_, ?_⟩,fun rc hrc=>h.res.vr hin hrc⟩
 ·exact hnar b g g hb (hμ b g hb)
 ·rcases h.blk b x' hx' with⟨h1,h2⟩|⟨h1,x,h2,h3,h4,h5⟩
  ·obtain⟨g,hg,hl⟩:=hR1.live b x' h2;obtain⟨g0,hg0,hl0⟩:=hR.live b x' h1;have hgg:g=g0:=by have:=hμ b g0 hg0;rw[hg]at this;exact Option.some.inj this
   refine⟨g,hnar b g0 g hg0 hg,hl.lt,hl.es,fun h0 i v hv=> ?_,hl.own,hl.iter,hl.bld⟩;obtain⟨u,hu,hvu⟩:=hl.cell h0 i v hv;obtain⟨u0,_,hvu0⟩:=hl0.cell (hgg▸h0) i v hv;exact⟨u,hu,hvu0.narrow hnar hvu⟩
  ·obtain⟨g,hg,hl⟩:=hR1.live (ν b) x h2
   have hlen:x'.cells.length≤x.cells.length:=by
    have:=h5.length;rw[List.length_take]at this;omega
   refine⟨g,by simp only[zE h1];exact hg,hl.lt,hl.es.trans h3.symm,fun h0 i v hv=> ?_,fun h0 ho=> ?_,fun s hs=> ?_,fun hs=> ?_⟩
   ·obtain⟨u,hu,hvu⟩:=h5.get i v hv
    have hi:i<x'.cells.length:=by
     rcases aB i x'.cells.length with h6|h6
     ·exact h6
     ·rw[List.getElem?_eq_none h6]at hv;cases hv
    rw[List.getElem?_take,zE hi]at hu;obtain⟨u',hu',huu⟩:=hl.cell h0 i u hu;exact⟨u',hu',hvu.vr hin huu⟩
   ·obtain⟨k1,k2,k3⟩:=hl.own h0 (h4 ho);exact⟨k1,by omega,k3⟩
   ·obtain⟨k1,p,k2,k3⟩:=hl.iter s hs;refine⟨k1,p, ?_,k3⟩;rw[k2]at h5;have hl5:=h5.length;cases hx':x'.cells with
    |nil=>rfl
    |cons v r=>
     rw[hx']at h5 hl5;cases hc:x.cells.length with
     |zero=>rw[hc]at h5;simp at h5;cases h5
     |succ n=>
      rw[hc]at h5;simp at h5;cases h5 with
      |cons h6 h7=>
       cases h7;cases h6;simp
   ·obtain⟨k1,p,s,k0,k2,k3⟩:=hl.bld hs;refine⟨k1,p,s,k0, ?_,k3⟩;rw[k2]at h5;have hl5:=h5.length;cases hx':x'.cells with
    |nil=>rfl
    |cons v r=>
     rw[hx']at h5 hl5;cases hc:x.cells.length with
     |zero=>rw[hc]at h5;simp at h5;cases h5
     |succ n=>
      rw[hc]at h5;simp at h5;cases h5 with
      |cons h6 h7=>
       cases h7;cases h6;simp
 ·have key: ∀b x,σ'.m b=some x→∃y,σ1.m (ν b)=some y∧(x.own=true→y.own=true)∧b<σ'.n:=by
   intro b x hx;rcases h.blk b x hx with⟨h1,h2⟩|⟨h1,y,h2,_,h4,_⟩
   ·have hb:=hlt0 b x h1;exact⟨x,by rw[h.old b hb];exact h2,id,aD hb h.n⟩
   ·exact⟨y,h2,h4,h1⟩
  obtain⟨y,hy,hyo,hb⟩:=key b x hx;obtain⟨y',hy',_,hb'⟩:=key b' x' hx';simp only[zE hb]at hg;simp only[zE hb']at hg';exact hR1.inj (ν b) (ν b') y y' g g' hy hy' (h.inj b b' x x' hx hx' hne) (hyo ho) hg hg'
 ·have key: ∀b x g,σ'.m b=some x→(fun b=>if b<σ'.n then μ1 (ν b)else none) b=some g→∃y,σ1.m (ν b)=some y∧μ1 (ν b)=some g:=by
   intro b x g hx hg
   have hb:b<σ'.n:=by
    rcases aB b σ'.n with h|h
    ·exact h
    ·simp only[zF (show¬b<σ'.n by omega)]at hg;cases hg
   simp only[zE hb]at hg;rcases h.blk b x hx with⟨h1,h2⟩|⟨_,y,h2,_⟩
   ·exact⟨x,by rw[h.old b (hlt0 b x h1)];exact h2,hg⟩
   ·exact⟨y,h2,hg⟩
  intro b x g hx hg hi k hk b' x' g' hx' hg';obtain⟨y,h1,h2⟩:=key b x g hx hg;obtain⟨y',h3,h4⟩:=key b' x' g' hx' hg';obtain⟨m1,m2⟩:=hR1.sep (ν b) y g h1 h2 hi k hk (ν b') y' g' h3 h4;exact⟨m1,fun hne=>m2 (h.inj b' b x' x hx' hx hne)⟩
theorem Sim.weak (h:Sim P f S)(hS: ∀args σ K,S' args σ K→S args σ fun r1 σ1=> ∃ν σ' r',Weak σ σ1 r1 σ' r' ν∧K r' σ'):Sim P f S':=by
 intro B μ σ w args cargs K hk hR ha;obtain⟨hc,hcalls⟩:=h B μ σ w args cargs _ (hS args σ K hk) hR ha;refine⟨hc,hcalls.mono fun x w' hx=> ?_⟩;obtain⟨r1,σ1,rc,μ1,rfl,⟨ν,σ',r',hw,hK⟩,h1,h2,h3,h4,_⟩:=hx;obtain⟨μ',k1,k2,k3⟩:=hR.weak h2 h1 hw;exact⟨r',σ',rc,μ',rfl,hK,k1,k2,k3 rc h3,h4,rfl⟩
end
def Ext (σ σ1:Hp):Prop:=σ.n≤σ1.n∧∀b,b<σ.n→σ1.m b=σ.m b
theorem Ext.refl (σ:Hp):Ext σ σ:=⟨Nat.le_refl _,fun _ _=>rfl⟩
theorem Ext.trans {a b c:Hp}(h:Ext a b)(k:Ext b c):Ext a c:=⟨Nat.le_trans h.1 k.1,fun x hx=>(k.2 x (aD hx h.1)).trans (h.2 x hx)⟩
theorem Ext.add {σ σ1:Hp}(h:Ext σ σ1)(x:Blk):Ext σ (σ1.add x):=by
 refine⟨Nat.le_succ_of_le h.1,fun b hb=> ?_⟩;have:b≠σ1.n:=by have:=h.1;omega
 simp only[Hp.add,zF this];exact h.2 b hb
theorem Ext.set {σ σ1:Hp}(h:Ext σ σ1){b:Nat}(hb:σ.n≤b)(x:Option Blk):Ext σ (σ1.set b x):=by
 refine⟨h.1,fun b' hb'=> ?_⟩;have:b'≠b:=by omega
 simp only[Hp.set,zF this];exact h.2 b' hb'
def Hp.Ok (σ:Hp):Prop:= ∀b x,σ.m b=some x→b<σ.n
def Fin (σ:Hp)(K:Value→Hp→Prop)(r1:Value)(σ1:Hp):Prop:= ∃ν σ' r',Weak σ σ1 r1 σ' r' ν∧K r' σ'
section
variable {P:Program} {f:FuncId} {S S':aJ2} {σ σ1:Hp} {K:Value→Hp→Prop}
theorem Sim.lt (h:Sim P f fun args σ K=>σ.Ok∧S args σ K):Sim P f S:=by
 intro B μ σ w args cargs K hk hR ha;refine h B μ σ w args cargs K ⟨fun b x hx=> ?_,hk⟩ hR ha;obtain⟨g,hg,_⟩:=hR.live b x hx;rcases aB b σ.n with h1|h1
 ·exact h1
 ·rw[hR.fresh b h1]at hg;cases hg
theorem Sim.fin (h:Sim P f S)(hS: ∀args σ K,σ.Ok→S' args σ K→S args σ (Fin σ K)):Sim P f S':=
 Sim.lt (Sim.weak h fun args σ K ⟨hlt,hk⟩=>hS args σ K hlt hk)
theorem Fin.plain {r:Value}(h:Ext σ σ1)(hlt:σ.Ok)(hr:Rn id σ.n r r)(hK:K r σ):Fin σ K r σ1:=
 ⟨id,σ,r,⟨Nat.le_refl _,fun _ _=>rfl,fun _ _ _ _ _ _ hne=>hne,fun b x' hx'=> .inl ⟨hx',(h.2 b (hlt b x' hx')).trans hx'⟩,hr⟩,hK⟩
theorem Fin.all {r:Value}(hn:σ.n≤σ1.n)(h1:σ1.Ok)(hr:Rn id σ1.n r r)(hc: ∀b x,σ1.m b=some x→F2 (Rn id σ1.n) x.cells x.cells)(hK:K r σ1):Fin σ K r σ1:=
 ⟨id,σ1,r,⟨hn,fun _ _=>rfl,fun _ _ _ _ _ _ hne=>hne,fun b x' hx'=> .inr ⟨h1 b x' hx',x',hx',rfl,id,by rw[List.take_length];exact hc b x' hx'⟩,hr⟩,hK⟩
theorem Fin.new1 {r r':Value}{b:Nat}{x x':Blk}(h:Ext σ σ1)(hlt:σ.Ok)(hb:σ.n≤b)(hx:σ1.m b=some x)(he:x'.es=x.es)(ho:x'.own=true→x.own=true)(hc:F2 (Rn (fun i=>if i=σ.n then b else i) (σ.n+1)) x'.cells (x.cells.take x'.cells.length))
  (hr:Rn (fun i=>if i=σ.n then b else i) (σ.n+1) r' r) (hK:K r' (σ.add x')):Fin σ K r σ1:=by
 refine⟨fun i=>if i=σ.n then b else i,σ.add x',r',⟨Nat.le_succ _,fun i hi=>zF (by omega),fun i i' y y' hy hy' hne=> ?_,fun i y hy=> ?_,hr⟩,hK⟩
 ·have hold: ∀i y,(σ.add x').m i=some y→i≠σ.n→i<σ.n:=by
   intro i y hy hi;simp only[Hp.add,zF hi]at hy;exact hlt i y hy
  by_cases h1:i=σ.n
  ·have h2:i'≠σ.n:=fun e=>hne (h1.trans e.symm)
   have:=hold i' y' hy' h2;simp only[zE h1,zF h2];omega
  ·have:=hold i y hy h1;by_cases h2:i'=σ.n
   ·simp only[zF h1,zE h2];omega
   ·simp only[zF h1,zF h2];exact hne
 ·by_cases h1:i=σ.n
  ·subst h1;simp only[Hp.add,zE trivial]at hy;injection hy with hy
   subst hy;exact .inr ⟨Nat.lt_succ_self _,x,by simp only[zE trivial];exact hx,he,ho,hc⟩
  ·simp only[Hp.add,zF h1]at hy;exact .inl ⟨hy,(h.2 i (hlt i y hy)).trans hy⟩
end
section
variable {T:ia}
end
abbrev fe :=List Value→Hp→Value→Hp→Prop
def sp (S:fe):aJ2:=fun args σ K=> ∃r σ',S args σ r σ'∧K r σ'
abbrev bV3 :=FuncId→fe
def sps (U:bV3):ia:=fun f=>sp (U f)
def bJ7 (P:Program)(U:bV3):Prop:= ∀f,Sim P f (sps U f)
def bV3.put (U:bV3)(f:FuncId)(S:fe):bV3:=fun g=>if g=f then S else U g
def cR5 :bV3:=fun _ _ _ _ _=>False
theorem bJ7.none (P:Program):bJ7 P cR5:=fun f B μ σ w args cargs K h=>by
 obtain⟨_,_,h,_⟩:=h;exact h.elim
theorem bJ7.put {P:Program}{U:bV3}(h:bJ7 P U){f:FuncId}{S:fe}(hS:Sim P f (sp S)):bJ7 P (U.put f S):=by
 intro g;show Sim P g (sp (if g=f then S else U g));by_cases e:g=f
 ·subst e;rw[zE rfl];exact hS
 ·rw[zF e];exact h g
end
section
section
variable {T:ia} {Q:AExit→dh→Hp→Prop} {q:dh→Hp→Prop} {e:dh} {σ σ':Hp} {a b:AC} {k:Value→Hp→Prop} {v:Value} {K:Value→Hp→Prop}
theorem bE9 {d t:Nat}(h:t≠d):(e.put d v) t=e t:=zF h
def Hp.load (σ:Hp):Value→Option Value
 | .pointer (some ⟨b,o,none⟩)=>match σ.m b with
  |some x=>x.cells[o]?
  |none=>none
 |_=>none
def Hp.loadN (σ:Hp)(n:Nat):Value→Option Value
 | .pointer (some ⟨b,o,none⟩)=>match σ.m b with
  |some x=>(pv x o n).map fun cs=> .agg cs.toArray
  |none=>none
 |_=>none
theorem run_load {x:Operand}:(AOp.load x).run e σ=(σ.load (e.ev x)).map fun v=>(v,σ):=by
 simp only[AOp.run];generalize e.ev x=v;cases v<;>try rfl
 rename_i p;rcases p with _|⟨b,o,sp⟩
 ·rfl
 ·cases sp with
  |some s=>rfl
  |none=>
   simp only[Hp.load];cases σ.m b<;>rfl
def Hp.store (σ:Hp)(n:Nat)(a x:Value):Option Hp:=match a with
 | .pointer (some ⟨b,o,none⟩)=>if(cellsOf x).length=n then(match σ.m b with
  |some blk=>(uL blk o (cellsOf x)).map fun y=>σ.set b (some y)
  |none=>none)else none
 |_=>none
theorem run_store {n:Nat}{x y:Operand}:(AOp.store n x y).run e σ=(σ.store n (e.ev x) (e.ev y)).map fun σ'=>(undef,σ'):=by
 simp only[AOp.run];generalize e.ev x=v;cases v<;>try rfl
 rename_i p;rcases p with _|⟨b,o,sp⟩
 ·rfl
 ·cases sp with
  |some s=>rfl
  |none=>
   simp only[Hp.store];by_cases h:(cellsOf (e.ev y)).length=n
   ·simp only[h,if_true];cases σ.m b with
    |none=>rfl
    |some blk=>
     simp only;cases uL blk o (cellsOf (e.ev y))<;>rfl
   ·simp only[h,if_false];rfl
def lenS :Value→Option Value
 | .slice _ n _=>some (.int .i64 n)
 |_=>none
end
end
section
def cF1 :ia:=fun _ _ _ _=>False
def ia.put (T:ia)(f:FuncId)(s:aJ2):ia:=fun g=>if g=f then s else T g
def aO0 (s:aJ2):Prop:= ∀args σ (K K':Value→Hp→Prop),(∀r σ',K r σ'→K' r σ')→s args σ K→s args σ K'
structure Known (P:Program)(T:ia):Prop where
 mono:qZ T
 sim: ∀f,Sim P f (T f)
theorem Known.none (P:Program):Known P cF1:=⟨fun _ _ _ _ _ _ h=>h,fun f=>Sim.none P f⟩
theorem Known.put {P:Program}{T:ia}(h:Known P T){f:FuncId}{s:aJ2}(hm:aO0 s)(hs:Sim P f s):Known P (T.put f s):=by
 constructor
 ·intro g args σ K K' hk hg;simp only[ia.put]at hg⊢;split
  ·rename_i he;rw[zE he]at hg;exact hm _ _ _ _ hk hg
  ·rename_i he;rw[zF he]at hg;exact h.mono _ _ _ _ _ hk hg
 ·intro g;show Sim P g (if g=f then s else T g);by_cases e:g=f
  ·subst e;rw[zE rfl];exact hs
  ·rw[zF e];exact h.sim g
theorem aO0.sp (S:fe):aO0 (sp S):=fun _ _ _ _ hk ⟨r,σ',h1,h2⟩=>⟨r,σ',h1,hk r σ' h2⟩
theorem aO0.wpF {T:ia}(hT:qZ T)(a:AFn):aO0 (wpF T a):=by
 intro args σ K K' hk h;refine⟨h.1,ic hT _ _ _ (fun x e s hx=> ?_) _ _ h.2⟩;cases x with
 |exit id=>exact hx
 |normal=>
  simp only at hx⊢;split at hx
  ·exact hk _ _ hx
  ·exact hx
 |ret=>
  simp only at hx⊢;split at hx
  ·exact hk _ _ hx
  ·exact hx
theorem Known.fn {P:Program}{T:ia}(h:Known P T){f:FuncId}{af:AFn}(ht:bT0 P f=some af):Sim P f (wpF T af):=cd6 ht h.mono h.sim
theorem Known.rel {P:Program}{T:ia}(hU:Known P T){f:FuncId}{af:AFn}{S:fe}(h:bT0 P f=some af)
  (hS: ∀args σ r σ',σ.Ok→S args σ r σ'→wpF T af args σ (Fin σ fun r1 σ1=>r1=r∧σ1=σ')):Sim P f (sp S):=by
 refine Sim.fin (hU.fn h) fun args σ K hlt hk=> ?_
 obtain⟨r,σ',h1,h2⟩:=hk;refine aO0.wpF hU.mono af _ _ _ _ ?_ (hS args σ r σ' hlt h1);rintro r1 σ1 ⟨ν,s',r',hw,rfl,rfl⟩;exact⟨ν,s',r',hw,h2⟩
section
variable {T:ia} {Q:AExit→dh→Hp→Prop} {e:dh} {σ:Hp} {b:AC} {I:dh→Hp→Prop} {m:dh→Hp→Nat} {e0:dh} {σ0:Hp}
end
section
variable {k:IntKind} {a b:Int}
end
section
variable {a b c d:Value} {l:List Value}
end
section
variable {σ:Hp} {x y:Blk} {i b o:Nat} {z:Option Blk}
theorem set_set {z':Option Blk}:(σ.set b z).set b z'=σ.set b z':=by
 simp only[Hp.set,Hp.mk.injEq,and_true]
 funext i
 split<;>rfl
end
section
variable {e:dh} {σ:Hp} {rs:List ARes} {t n b o:Nat}
def two (v:Option Value)(vs:Option (List Value)):Option (List Value):=match v,vs with
 |some v,some vs=>some (v::vs)
 |_,_=>none
end
section
variable {T:ia} {e:dh} {σ:Hp} {k:Value→Hp→Prop} {q:dh→Hp→Prop}
def cF3 (n:Nat):Value→Option Value
 | .pointer (some ⟨b,o,none⟩)=>some (.pointer (some ⟨b,o+n,none⟩))
 |_=>none
def cD4 (es:Nat)(k:Value→Hp→Prop)(σ:Hp):Value→Value→Prop
 | .slice (some ⟨b,o,none⟩) n _, .int _ j=>(0≤j∧j<n)∧k (.pointer (some ⟨b,o+j.toNat*es,none⟩)) σ
 |_,_=>False
def ce0 (ln es:Nat)(k:Value→Hp→Prop)(σ:Hp):Value→Value→Prop
 | .pointer (some ⟨b,o,none⟩), .int _ j=>(0≤j∧j<ln)∧k (.pointer (some ⟨b,o+j.toNat*es,none⟩)) σ
 |_,_=>False
def fieldV (fo n:Nat)(agg:Bool):Value→Option Value
 | .agg cs=>if agg=true then some (.agg (cs.extract fo (fo+n)))else cs[fo]?
 |_=>none
end
section
variable {T:ia} {q:dh→Hp→Prop} {r:List SItem} {e:dh} {σ:Hp} {i:Nat} {d:Option Nat} {kp:Bool} {is:List Nat} {chk:List (Nat×(Hp→Prop))}
end
end
section
def e0 :dh:=fun _=>undef
section
variable {T:ia} {e:dh} {σ:Hp} {k:Value→Hp→Prop}
end
section
variable {σ:Hp} {x:Blk} {i b:Nat} {z:Option Blk}
end
end
section
open IntKind renaming bits → bB, max → bD, min → cB, signed → cD
open List renaming getElem?_eq_none → aB, getElem?_eq_getElem → dB
open Nat renaming lt_or_ge → aD
open Option renaming map_some → dD
open Go.RowKit (Below)
structure Row where
 c:Nat
 o:Nat
 ext:Nat
 es:Nat
 cells:List Value
def ch7 (P:Program)(w:World):Prop:=P.globalNamed "internal/strconv.uint64pow10" ≠none→Lib.TabIs P w "internal/strconv.uint64pow10" .u64 Lib.pow10Tab
def Base.of {P:Program}(w:World)(hT:ch7 P w):Base P:=⟨w.heap.size,fun b=>w.heap[b]?,fun w' _ hh hne=>by
 have h:=hT hne;unfold Lib.TabIs World.var? at h⊢;cases hg:P.globalNamed "internal/strconv.uint64pow10" with
 |none=>exact(hne hg).elim
 |some g=>
  simp only[hg,zG]at h⊢
  have hlt:g<w.heap.size:=by
   rcases aD g w.heap.size with h'|h'
   ·exact h'
   ·rw[Array.getElem?_eq_none h']at h;cases h
  rw[hh g hlt]
  exact h⟩
def nC (rows:List Row):Mu:=fun i=>(rows[i]?).map fun r=>⟨r.c,r.o,r.ext,r.es,0,none⟩
def mT (size:Nat)(rows:List Row):Hp:={m:=fun i=>(rows[i]?).bind fun r=>if r.c<size then some ⟨r.cells,false,r.es⟩else none,n:=rows.length}
theorem cS1 {P:Program}{w:World}(hT:ch7 P w){rows:List Row}(h: ∀r∈rows,∀(i:Nat) (v:Value),r.cells[i]?=some v→∃v',w.cell? ⟨r.c,r.o+i,none⟩=some v'∧VR (nC rows) v v'):
  R (Base.of w hT) (nC rows) (mT w.heap.size rows) w:=by
 refine⟨Nat.le_refl _,fun _ _=>rfl,fun b hb=> ?_,fun b x hx=> ?_,fun b b' x x' g g' hx _ _ ho=> ?_,fun b x g _ hg hi _ _=>(by
  simp only[nC]at hg;cases hr:rows[b]? with
  |none=>rw[hr]at hg;cases hg
  |some r=>rw[hr]at hg;injection hg with hg;subst hg;cases hi)⟩
 ·simp only[nC,aB hb,Option.map_none]
 ·simp only[mT]at hx;cases hr:rows[b]? with
  |none=>rw[hr]at hx;cases hx
  |some r=>
   rw[hr,zG]at hx;split at hx
   ·rename_i hlt;injection hx with hx
    subst hx;refine⟨⟨r.c,r.o,r.ext,r.es,0,none⟩,by simp only[nC,hr,dD],hlt,rfl,fun _ i v hv=>h r (List.mem_of_getElem? hr) i v hv,fun _ ho=>(by cases ho),fun _ hs=>(by cases hs),fun hs=>by cases hs⟩
   ·cases hx
 ·simp only[mT]at hx;cases hr:rows[b]? with
  |none=>rw[hr]at hx;cases hx
  |some r=>
   rw[hr,zG]at hx;split at hx
   ·injection hx with hx
    subst hx;cases ho
   ·cases hx
theorem cH7 {size:Nat}{rows:List Row}:(mT size rows).Ok:=by
 intro b x hx;rcases aD b rows.length with h|h
 ·exact h
 ·simp only[mT,aB h,Option.bind_none]at hx;cases hx
theorem cR0 {P:Program}{f:FuncId}{S:aJ2}(hs:Sim P f S){w:World}(hT:ch7 P w){rows:List Row}{args:List Value}{cargs:Array Value}
  (hrows: ∀r∈rows,∀(i:Nat) (v:Value),r.cells[i]?=some v→∃v',w.cell? ⟨r.c,r.o+i,none⟩=some v'∧VR (nC rows) v v')
  (hargs:F2 (VR (nC rows)) args cargs.toList) (h:S args (mT w.heap.size rows) fun r _=>r= .bool true):
  Calls P f cargs w fun e w'=>e= .returned (.bool true)∧Below w.heap.size w w':=by
 refine(hs _ _ _ w args cargs _ h (cS1 hT hrows) hargs).2.mono fun x w' hx=> ?_
 obtain⟨r,σ',r',μ',rfl,rfl,_,_,hr,hb,_⟩:=hx;cases hr;exact⟨rfl,hb⟩
def Sl (k:IntKind)(σ:Hp)(v:Value)(l:List Int):Prop:=
 (v= .slice none 0 0∧l=[])∨∃b c rest,v= .slice (some ⟨b,0,none⟩) l.length c∧l.length≤c∧c≤maxLen∧b<σ.n∧(l≠[]→σ.m b=some ⟨(l++rest).map (.int k),false,1⟩)
def aN9 (k:IntKind)(w:World)(a:Option Addr)(len cap:Nat)(zs:List Int):Prop:=
 (a=none∧len=0∧cap=0∧zs=[])∨
 ∃x,a=some x∧len≤cap∧cap≤maxLen∧zs.length=cap∧(∀i,i<zs.length→w.cell? (x.add i)=some (.int k (zs.getD i 0)))∧∀n∈zs,(Lit.int k n).wf=true
def aH0 (k:IntKind)(a:Option Addr)(cap:Nat)(zs:List Int):Row:=match a with
 |some x=>⟨x.block,x.off,cap,1,zs.map (.int k)⟩
 |none=>⟨0,0,0,1,[]⟩
def cx9 (k:Nat)(a:Option Addr)(len cap:Nat):Value:=match a with
 |some _=> .slice (some ⟨k,0,none⟩) len cap
 |none=> .slice none 0 0
section
variable {k:IntKind} {w:World} {a:Option Addr} {len cap:Nat} {zs:List Int} {rows:List Row} {j:Nat}
theorem bB9 {x:Addr}{v:Value}(h:w.cell? x=some v):x.block<w.heap.size:=by
 unfold World.cell? at h;split at h
 ·rename_i hb;exact(Array.getElem?_eq_some_iff.1 hb).1
 ·cases h
theorem as8 {x:Addr}{v:Value}(h:w.cell? (x.add 0)=some v):x.spot=none:=by
 have:=World.cell?_spot h;simpa[Addr.add]using this
theorem wJ {x:Addr}{i:Nat}{v:Value}(hs:x.spot=none)(h:w.cell? (x.add i)=some v):w.cell? ⟨x.block,x.off+i,none⟩=some v:=by
 obtain⟨b,o,s⟩:=x;simp only at hs;subst hs
 have:(⟨b,o,none⟩:Addr).add i=⟨b,o+i,none⟩:=by
  simp only[Addr.add];split
  ·rename_i h0;subst h0;rfl
  ·rfl
 rwa [this]at h
theorem aN9.cells (h:aN9 k w a len cap zs){i:Nat}{v:Value}(hv:(aH0 k a cap zs).cells[i]?=some v):
  ∃v',w.cell? ⟨(aH0 k a cap zs).c,(aH0 k a cap zs).o+i,none⟩=some v'∧VR (nC rows) v v':=by
 rcases h with⟨rfl,rfl,rfl,rfl⟩|⟨x,rfl,hl,hm,hz,hc,hw⟩
 ·simp[aH0]at hv
 ·simp only[aH0]at hv⊢;simp only[List.getElem?_map]at hv
  have hi:i<zs.length:=by
   rcases aD i zs.length with h|h
   ·exact h
   ·rw[aB h]at hv;cases hv
  rw[dB hi,dD]at hv;injection hv with hv
  subst hv;refine⟨_,wJ (as8 (hc 0 (by omega))) (hc i hi), ?_⟩;have:zs.getD i 0=zs[i]:=by simp[List.getD,dB hi]
  rw[this];exact .int _ _
theorem aN9.sl (h:aN9 k w a len cap zs)(hr:rows[j]?=some (aH0 k a cap zs)):Sl k (mT w.heap.size rows) (cx9 j a len cap) (zs.take len):=by
 rcases h with⟨rfl,rfl,rfl,rfl⟩|⟨x,rfl,hl,hm,hz,hc,hw⟩
 ·exact .inl ⟨rfl,by simp⟩
 ·have hlen:(zs.take len).length=len:=by rw[List.length_take];omega
  refine .inr ⟨j,cap,zs.drop len,by rw[hlen];rfl,by omega,hm, ?_,fun hne=> ?_⟩
  ·rcases aD j rows.length with h|h
   ·exact h
   ·rw[aB h]at hr;cases hr
  ·have hz0:0<zs.length:=by
    rcases Nat.eq_zero_or_pos zs.length with h|h
    ·rw[List.length_eq_zero_iff]at h;subst h;simp at hne
    ·exact h
   have hlt:x.block<w.heap.size:=bB9 (x:=⟨x.block,x.off+0,none⟩) (wJ (as8 (hc 0 hz0)) (hc 0 hz0));simp only[mT,hr,zG,aH0,zE hlt,List.take_append_drop]
theorem aN9.wf (h:aN9 k w a len cap zs): ∀n∈zs.take len,(Lit.int k n).wf=true:=by
 rcases h with⟨rfl,rfl,rfl,rfl⟩|⟨x,rfl,hl,hm,hz,hc,hw⟩
 ·simp
 ·exact fun n hn=>hw n (List.mem_of_mem_take hn)
end
theorem cT6 {n:Int}(h:(Lit.int .i64 n).wf=true): -9223372036854775808≤n∧n≤9223372036854775807:=by
 simpa[Lit.wf,cB,bD,cD,bB]using h
theorem cT7 {n:Int}(h:(Lit.int .u64 n).wf=true):0≤n∧n≤18446744073709551615:=by
 simpa[Lit.wf,cB,bD,cD,bB]using h
theorem db6 {n:Int}(h:(Lit.int .u8 n).wf=true):0≤n∧n≤255:=by
 simpa[Lit.wf,cB,bD,cD,bB]using h
end
end Go.Ab
namespace Go.V
open Go.Ab
section
open List renaming replicate → bD
open Nat renaming beq → aB, ble → aD
open Option renaming none → bB
inductive Sh where
 |int (k:IntKind)
 |bool
 |str
 |list (s:Sh)
 |pair (a b:Sh)
 deriving DecidableEq
@[reducible] def El :Sh→Type
 | .int _=>Int
 | .bool=>Bool
 | .str=>List Int
 | .list s=>List (El s)
 | .pair a b=>El a×El b
def Sh.w :Sh→Nat
 | .pair a b=>a.w+b.w
 |_=>1
inductive VV where
 |undef
 |bool (b:Bool)
 |int (k:IntKind) (n:Int)
 |str (l:List Int)
 |nilp
 |nils
 |nilf
 |ptr (k o:Nat)
 |pix (k o n i:Nat)
 |pel (k i o:Nat)
 |pin (s:Sh) (x:El s) (o:Nat)
 |lst (s:Sh) (l:List (El s))
 |tgt (s:Sh) (l:List (El s))
 |full (k:Nat)
 |part (k lo n:Nat)
 |it (k:Nat) (l:List Int)
 |bld (k:Nat)
 |fn (f:Nat) (a c:List VV)
 |agg (l:List VV)
 |tup (l:List VV)
inductive Blk where
 |dead
 |cells (es:Nat) (fz:Bool) (l:List VV)
 |arr (s:Sh) (fz:Bool) (l:List (El s))
abbrev bu :=List Blk
abbrev ej :=List VV
def mS :ej→Nat→VV
 |[],_=> .undef
 |v::_,0=>v
 |_::r,n+1=>mS r n
def pR :ej→Nat→VV→ej
 |[],0,v=>[v]
 |[],n+1,v=> .undef::pR [] n v
 |_::r,0,v=>v::r
 |a::r,n+1,v=>a::pR r n v
def putO (e:ej)(d:Option Nat)(v:VV):ej:=match d with
 |some d=>pR e d v
 |none=>e
def bn :bu→Nat→Blk
 |[],_=> .dead
 |b::_,0=>b
 |_::r,n+1=>bn r n
def lN :bu→Nat→Blk→bu
 |[],_,_=>[]
 |_::r,0,b=>b::r
 |a::r,n+1,b=>a::lN r n b
def nth {α:Type}:List α→Nat→Option α
 |[],_=>none
 |v::_,0=>some v
 |_::r,n+1=>nth r n
def dw (s:ByteArray):List Int:=s.data.toList.map fun b=>(b.toNat:Int)
def aT4 :Value→VV
 | .bool b=> .bool b
 | .int k n=> .int k n
 | .string s=> .str (dw s)
 | .pointer none=> .nilp
 | .slice none 0 0=> .nils
 | .nilFunc=> .nilf
 |_=> .undef
def ofC :Value→VV
 | .agg cs=> .agg (cs.toList.map aT4)
 |v=>aT4 v
def ev (e:ej):Operand→VV
 | .tmp t=>mS e t
 | .const v=>ofC v
 | .func f=> .fn f [] []
 | .global _=> .undef
def cG6 :VV→Bool
 | .undef| .agg _| .tup _=>false
 |_=>true
def nz :VV→List VV
 | .agg l=>l
 |v=>[v]
def er :(s:Sh)→El s→List VV
 | .int k,n=>[.int k n]
 | .bool,b=>[.bool b]
 | .str,l=>[.str l]
 | .list s,l=>[.lst s l]
 | .pair a b,x=>er a x.1++er b x.2
def gb (s:Sh)(l:List (El s)):List VV:=l.flatMap (er s)
def md (s' s:Sh)(x:El s'):Option (El s):=if h:s'=s then some (h▸x)else none
def aP3 {α:Type}(f:List VV→Option (α×List VV)):Nat→List VV→Option (List α)
 |_,[]=>some []
 |0,_::_=>none
 |n+1,v::l=>(f (v::l)).bind fun p=>(aP3 f n p.2).bind fun r=>some (p.1::r)
def Blk.frozen :Blk→Bool
 | .dead=>true
 | .cells _ z _=>z
 | .arr _ z _=>z
def vD (s:Sh)(f:List VV→Option (El s×List VV)):Blk→Option (List (El s))
 | .dead=>none
 | .arr s' _ l=>md (.list s') (.list s) l
 | .cells es _ l=>bif aB es s.w then aP3 f l.length l else none
def ao0 (S:bu)(s:Sh)(f:List VV→Option (El s×List VV)):VV→Option (List (El s))
 | .nils=>some []
 | .lst s' l=>md (.list s') (.list s) l
 | .full k=>vD s f (bn S k)
 | .part k lo n=>(vD s f (bn S k)).bind fun l=>some ((l.drop lo).take n)
 |_=>none
def bD8 (S:bu)(s:Sh)(f:List VV→Option (El s×List VV)):VV→Option (List (El s))
 | .full k=>bif (bn S k).frozen then ao0 S s f (.full k)else none
 | .part k lo n=>bif (bn S k).frozen then ao0 S s f (.part k lo n)else none
 |v=>ao0 S s f v
def ld (S:bu):(s:Sh)→List VV→Option (El s×List VV)
 | .int k, .int k' n::r=>bif decide (k'=k)then some (n,r)else none
 | .bool, .bool b::r=>some (b,r)
 | .str, .str l::r=>some (l,r)
 | .list s,v::r=>(bD8 S s (ld S s) v).bind fun l=>some (l,r)
 | .pair a b,l=>(ld S a l).bind fun p=>(ld S b p.2).bind fun q=>some ((p.1,q.1),q.2)
 |_,_=>none
def ce7 (S:bu)(s:Sh)(v:VV):Option (List (El s)):=ao0 S s (ld S s) v
def Blk.freeze :Blk→Blk
 | .dead=> .dead
 | .cells es _ l=> .cells es true l
 | .arr s _ l=> .arr s true l
def fzv :Nat→bu→VV→bu
 |0,S,_=>S
 |n+1,S,v=>match v with
  | .full k=>(match bn S k with
   | .cells es _ l=>l.foldl (fzv n) (lN S k (.cells es true l))
   |b=>lN S k b.freeze)
  | .part k _ _=>(match bn S k with
   | .cells es _ l=>l.foldl (fzv n) (lN S k (.cells es true l))
   |b=>lN S k b.freeze)
  |_=>S
def fzL (S:bu)(l:List VV):bu:=l.foldl (fzv 3) S
def cQ1 (S:bu):VV→bu
 | .full k=>(match bn S k with
  | .cells _ _ l=>fzL S l
  |_=>S)
 | .part k _ _=>(match bn S k with
  | .cells _ _ l=>fzL S l
  |_=>S)
 |_=>S
section
variable {β:Type}
def gd (b:Bool)(x:Option β):Option β:=cond b x none
def ix (i:Int)(n:Nat):Option Nat:=cond (decide (0≤i)&&decide (i<n)) (some i.toNat) none
def rd {α:Type}(l:List α)(i:Int):Option α:=cond (decide (0≤i)) l[i.toNat]? none
def cy6 (p:Bool):VV→VV→Option VV
 | .int k x, .int k' y=>cond (decide (k=k')) (some (.int k (cond p x y))) none
 | .bool x, .bool y=>some (.bool (cond p x y))
 | .str x, .str y=>some (.str (cond p x y))
 |_,_=>none
def cw8 (p:Bool)(x y:VV)(S:bu)(k:VV→bu→Option β):Option β:=match cy6 p x y with
 |some v=>k v S
 |none=>cond p (k x S) (k y S)
def ue :IntKind→List VV→Option (List Int)
 |_,[]=>some []
 |k, .int k' n::r=>cond (decide (k'=k)) ((ue k r).bind fun l=>some (n::l)) none
 |_,_=>none
def ba1 :List VV→Option (List Bool)
 |[]=>some []
 | .bool b::r=>(ba1 r).bind fun l=>some (b::l)
 |_=>none
def bS4 :List VV→Option (List (List Int))
 |[]=>some []
 | .str b::r=>(bS4 r).bind fun l=>some (b::l)
 |_=>none
def cf8 (S:bu)(k:VV→bu→Option β):List VV→Nat→Option β
 |[],_=>none
 |v::r,i=>cond (aB i 0) (k v S) (cf8 S k r (i-1))
def bK3 (cs:List VV)(i:Nat)(S:bu)(k:VV→bu→Option β):Option β:=match cs with
 | .int kd n::r=>(match ue kd r with
  |some l=>k (.int kd ((n::l).getD i 0)) S
  |none=>none)
 | .bool b::r=>(match ba1 r with
  |some l=>k (.bool ((b::l).getD i false)) S
  |none=>none)
 | .str b::r=>(match bS4 r with
  |some l=>k (.str ((b::l).getD i [])) S
  |none=>none)
 |cs=>cf8 S k cs i
def bg6 (v:VV):List VV→Nat→Nat→Option (List VV)
 |[],_,_=>some []
 |c::r,i,j=>(cy6 (aB i j) v c).bind fun x=>(bg6 v r i (j+1)).bind fun l=>some (x::l)
def cI1 (cells:List VV)(o:Nat):List VV→List VV
 |[]=>cells
 |v::vs=>cI1 (cells.set o v) (o+1) vs
def aP8 (cells:List VV):List (Nat×Nat×VV)→Option (List VV)
 |[]=>some cells
 |(off,size,v)::rest=>
  cond (aB (nz v).length size&&aD (off+size) cells.length&&(nz v).all cG6) (aP8 (cells.take off++nz v++cells.drop (off+size)) rest) none
def yr (e:ej)(l:List (Nat×Nat×Operand)):List (Nat×Nat×VV):=l.map fun(o,s,x)=>(o,s,ev e x)
def oL (l:List VV):Bool:=l.all cG6
def br6 (S:bu)(n:Nat)(agg:Bool)(a:VV)(k:VV→bu→Option β):Option β:=
 let out (cs:List VV) (o:Nat):Option β:=cond agg (gd (aD (o+n) cs.length) (k (.agg ((cs.drop o).take n)) S)) (match nth cs o with
  |some v=>k v S
  |none=>none)
 match a with
 | .ptr b o=>(match bn S b with
  | .cells _ _ l=>out l o
  |_=>none)
 | .pix b o m i=>(match bn S b with
  | .cells _ _ l=>gd (!agg&&aD (o+m) l.length) (bK3 ((l.drop o).take m) i S k)
  |_=>none)
 | .pel b i o=>(match bn S b with
  | .arr s _ l=>(l[i]?).bind fun x=>out (er s x) o
  |_=>none)
 | .pin s x o=>out (er s x) o
 |_=>none
def cb6 (S:bu)(a:VV)(cs:List VV)(k:bu→Option β):Option β:=match a with
 | .ptr b o=>(match bn S b with
  | .cells es false l=>gd (aD (o+cs.length) l.length) (k (lN S b (.cells es false (cI1 l o cs))))
  |_=>none)
 | .pix b o m i=>(match bn S b,cs with
  | .cells es false l,[v]=>gd (aD (o+m) l.length) (match bg6 v ((l.drop o).take m) i 0 with
   |some l'=>k (lN S b (.cells es false (l.take o++l'++l.drop (o+m))))
   |none=>none)
  |_,_=>none)
 | .pel b i o=>(match bn (fzL S cs) b with
  | .arr s false l=>(l[i]?).bind fun x=>(match ld (fzL S cs) s (cI1 (er s x) o cs)with
   |some (y,[])=>gd (aD (o+cs.length) s.w) (k (lN (fzL S cs) b (.arr s false (l.set i y))))
   |_=>none)
  |_=>none)
 |_=>none
def cA9 (k:IntKind)(f:BitVec k.bits→BitVec k.bits→BitVec k.bits)(x y:Int):Int:=k.wrap (f (BitVec.ofInt k.bits x) (BitVec.ofInt k.bits y)).toNat
def bV7 (op:BinOp)(kd:IntKind)(x y:Int)(k:VV→Option β):Option β:=match op with
 | .add=>k (.int kd (kd.wrap (x+y)))
 | .sub=>k (.int kd (kd.wrap (x-y)))
 | .mul=>k (.int kd (kd.wrap (x*y)))
 | .quo=>gd (decide (y≠0)) (k (.int kd (kd.wrap (x.tdiv y))))
 | .rem=>gd (decide (y≠0)) (k (.int kd (x.tmod y)))
 | .and=>k (.int kd (cA9 kd (· &&& ·) x y))
 | .or=>k (.int kd (cA9 kd (· ||| ·) x y))
 | .xor=>k (.int kd (cA9 kd (· ^^^ ·) x y))
 | .andNot=>k (.int kd (cA9 kd (fun a b=>a&&& ~~~b) x y))
 | .eql=>k (.bool (decide (x=y)))
 | .neq=>k (.bool (decide (x≠y)))
 | .lss=>k (.bool (decide (x<y)))
 | .leq=>k (.bool (decide (x≤y)))
 | .gtr=>k (.bool (decide (y<x)))
 | .geq=>k (.bool (decide (y≤x)))
 |_=>none
def cy9 (op:BinOp)(kd:IntKind)(x y:Int)(k:VV→Option β):Option β:=match op with
 | .shl=>gd (decide (0≤y)) (k (.int kd (kd.wrap (x*2 ^ (min y.toNat kd.bits)))))
 | .shr=>gd (decide (0≤y)) (k (.int kd (x.fdiv (2 ^ (min y.toNat kd.bits)))))
 |_=>none
def da8 (a b:Nat):Bool:=aD (a+b) 9223372036854775807
def da9 (op:BinOp)(x y:List Int)(k:VV→Option β):Option β:=match op with
 | .add=>gd (da8 x.length y.length) (k (.str (x++y)))
 | .eql=>k (.bool (decide (x=y)))
 | .neq=>k (.bool (decide (x≠y)))
 |_=>none
def cP5 (op:BinOp)(x y:VV)(k:VV→Option β):Option β:=match x,y with
 | .int kx a, .int ky b=>cond (tC op) (cy9 op kx a b k) (cond (decide (kx=ky)) (bV7 op kx a b k) none)
 | .str a, .str b=>cond (tC op) none (da9 op a b k)
 |_,_=>none
def cu5 (neg p:Bool):Bool:=cond neg (!p) p
def Blk.live :Blk→Bool
 | .dead=>false
 |_=>true
def bc7 (S:bu):VV→Bool
 | .ptr k _=>(bn S k).live
 | .pix k _ _ _=>(bn S k).live
 | .pel k _ _=>(bn S k).live
 | .pin _ _ _=>true
 |_=>false
def cP8 (S:bu):Nat→VV→VV→Option Bool
 |0, .bool a, .bool b=>some (a==b)
 |1, .nilp, .nilp=>some true
 |1, .nilp,v=>cond (bc7 S v) (some false) none
 |1,v, .nilp=>cond (bc7 S v) (some false) none
 |2, .nils, .nils=>some true
 |3, .nilf, .nilf=>some true
 |3, .nilf, .fn _ _ _=>some false
 |3, .fn _ _ _, .nilf=>some false
 |_,_,_=>none
def cj6 :Nat→VV→VV→Option Bool
 |0, .bool a, .bool b=>some (a==b)
 |1, .int k a, .int k' b=>cond (decide (k=k')) (some (decide (a=b))) none
 |2, .str a, .str b=>some (decide (a=b))
 |_,_,_=>none
def bm9 :List Nat→List VV→List VV→Option Bool
 |[],[],[]=>some true
 |[k],[a],[b]=>cj6 k a b
 |k::ks,a::r,b::s=>(cj6 k a b).bind fun p=>(bm9 ks r s).bind fun q=>some (p&&q)
 |_,_,_=>none
def unK (op:UnOp)(x:VV)(k:VV→Option β):Option β:=match op,x with
 | .neg, .int kd n=>k (.int kd (kd.wrap (0-n)))
 | .xor, .int kd n=>k (.int kd (kd.wrap (BitVec.ofInt kd.bits (if kd.signed then-1 else kd.max) ^^^ BitVec.ofInt kd.bits n).toNat))
 | .not, .bool b=>k (.bool !b)
 |_,_=>none
def aE9 :VV→Option Int
 | .int _ n=>some n
 |_=>none
def lenOf (S:bu):VV→Option Nat
 | .nils=>some 0
 | .lst _ l=>some l.length
 | .full b=>(match bn S b with
  | .arr _ _ l=>some l.length
  | .cells es _ l=>some (l.length / es)
  | .dead=>none)
 | .part b _ n=>cond (bn S b).live (some n) none
 | .str l=>some l.length
 |_=>none
def au6 {α:Type}(l:List α)(lo hi:Int):List α:=(l.take hi.toNat).drop lo.toNat
def ag4 :Option VV→Option Int
 |none=>some 0
 |some v=>aE9 v
def uJ (n:Nat):Option VV→Option Int
 |none=>some n
 |some v=>aE9 v
def jK (lo hi:Int)(n:Nat):Bool:=decide (0≤lo)&&decide (lo≤hi)&&decide (hi≤n)
def cb3 (S:bu)(es:Nat)(x:VV)(lo hi:Option VV)(k:VV→bu→Option β):Option β:=
 match lenOf S x with
 |none=>none
 |some n=>match ag4 lo,uJ n hi with
  |some a,some b=>(match x with
   | .nils=>gd (jK a b n) (k .nils S)
   | .lst s l=>gd (aB es s.w) (match lo,hi with
    |none,none=>k (.lst s l) S
    |_,_=>gd (jK a b n) (k (.lst s (au6 l a b)) S))
   | .full q=>(match bn S q with
    | .arr s _ _=>gd (aB es s.w) (gd (jK a b n) (k (.part q a.toNat (b.toNat-a.toNat)) S))
    | .cells es' _ _=>gd (aB es es'&&aD 1 es) (gd (jK a b n) (k (.part q a.toNat (b.toNat-a.toNat)) S))
    | .dead=>none)
   | .part q o _=>(match bn S q with
    | .arr s _ _=>gd (aB es s.w) (gd (jK a b n) (k (.part q (o+a.toNat) (b.toNat-a.toNat)) S))
    | .cells es' _ _=>gd (aB es es'&&aD 1 es) (gd (jK a b n) (k (.part q (o+a.toNat) (b.toNat-a.toNat)) S))
    | .dead=>none)
   |_=>none)
  |_,_=>none
def aM9 (S:bu)(x:VV)(lo hi:Option VV)(k:VV→bu→Option β):Option β:=match x with
 | .str l=>(match ag4 lo,uJ l.length hi with
  |some a,some b=>gd (jK a b l.length) (k (.str (au6 l a b)) S)
  |_,_=>none)
 |_=>none
def aM8 (S:bu)(es n:Nat)(x:VV)(lo hi:Option VV)(k:VV→bu→Option β):Option β:=match x with
 | .ptr b o=>(match bn S b with
  | .cells es' false l=>(match ag4 lo,uJ n hi with
   |some a,some c=>gd (aB es es'&&aD 1 es&&aB (o % es) 0&&aD (o+n*es) l.length&&jK a c n&&decide (a<n)) (k (.part b (o / es+a.toNat) (c.toNat-a.toNat)) S)
   |_,_=>none)
  | .arr s false l=>(match ag4 lo,uJ n hi with
   |some a,some c=>gd (aB es s.w&&aB o 0&&aD n l.length&&jK a c n&&decide (a<n)) (k (.part b a.toNat (c.toNat-a.toNat)) S)
   |_,_=>none)
  |_=>none)
 |_=>none
def cQ8 :Value→Bool
 | .int .u8 n=>decide (n=0)
 |_=>false
def bW2 (es:Nat)(z:List Value):Bool:=aB es 1&&aD 20 z.length&&z.all cQ8
def am5 (es:Nat)(z:List Value):Blk:=cond (bW2 es z) (.arr (.int .u8) false (bD z.length (0:Int))) (.cells es false (z.map aT4))
def cF3 (S:bu)(n:Nat):VV→Option VV
 | .ptr b o=>cond (bn S b).live (some (.ptr b (o+n))) none
 | .pel b i o=>cond (bn S b).live (some (.pel b i (o+n))) none
 | .pin s x o=>some (.pin s x (o+n))
 | .pix b o m i=>cond (bn S b).live (cond (aB n 0) (some (.pix b o m i)) none) none
 |_=>none
def cD4 (S:bu)(es:Nat)(x i:VV)(k:VV→bu→Option β):Option β:=match i with
 | .int _ i=>(match x with
  | .lst s l=>gd (aB es s.w) ((rd l i).bind fun y=>k (.pin s y 0) S)
  | .full b=>(match bn S b with
   | .arr s _ l=>gd (aB es s.w) ((ix i l.length).bind fun j=>k (.pel b j 0) S)
   | .cells es' _ l=>gd (aB es es'&&aD 1 es) ((ix i (l.length / es)).bind fun j=>cond (aB es 1) (k (.pix b 0 l.length j) S) (k (.ptr b (j*es)) S))
   | .dead=>none)
  | .part b o n=>(match bn S b with
   | .arr s _ _=>gd (aB es s.w) ((ix i n).bind fun j=>k (.pel b (o+j) 0) S)
   | .cells es' _ _=>gd (aB es es'&&aD 1 es) ((ix i n).bind fun j=>cond (aB es 1) (k (.pix b o n j) S) (k (.ptr b ((o+j)*es)) S))
   | .dead=>none)
  |_=>none)
 |_=>none
def ce0 (S:bu)(ln es:Nat)(x i:VV)(k:VV→bu→Option β):Option β:=match x,i with
 | .ptr b o, .int _ i=>gd (bn S b).live ((ix i ln).bind fun j=>cond (aB es 1) (k (.pix b o ln j) S) (k (.ptr b (o+j*es)) S))
 |_,_=>none
def yQ (l:List VV)(a n:Nat):List VV:=(l.drop a).take n
def iq (n bytes:Nat):Bool:=decide (n*bytes≤140737488355328)&&aD 1 bytes
inductive Base where
 |none
 |cells (es:Nat) (l:List VV)
 |arr (s:Sh) (l:List (El s))
def ym (S:bu)(es:Nat):VV→Option (Base×Option Nat)
 | .nils=>some (.none,none)
 | .full b=>(match bn S b with
  | .arr s false l=>cond (aB es s.w) (some (.arr s l,some b)) bB
  | .cells es' false l=>cond (aB es es'&&aD 1 es) (some (.cells es l,some b)) bB
  |_=>bB)
 | .part b 0 n=>(match bn S b with
  | .arr s false l=>cond (aB es s.w) (some (.arr s (l.take n),some b)) bB
  | .cells es' false l=>cond (aB es es'&&aD 1 es) (some (.cells es (l.take (n*es)),some b)) bB
  |_=>bB)
 |_=>bB
inductive More where
 |cells (l:List VV)
 |lst (s:Sh) (l:List (El s))
def jl (S:bu)(es:Nat):VV→Option More
 | .nils=>some (.cells [])
 | .lst s l=>cond (aB es s.w) (some (.lst s l)) none
 | .str l=>cond (aB es 1) (some (.lst (.int .u8) l)) none
 | .full b=>(match bn S b with
  | .arr s _ l=>cond (aB es s.w) (some (.lst s l)) none
  | .cells es' _ l=>cond (aB es es'&&aD 1 es) (some (.cells l)) none
  |_=>none)
 | .part b o n=>(match bn S b with
  | .arr s _ l=>cond (aB es s.w) (some (.lst s ((l.drop o).take n))) none
  | .cells es' _ l=>cond (aB es es'&&aD 1 es) (some (.cells ((l.drop (o*es)).take (n*es)))) none
  |_=>none)
 |_=>none
def pt (S:bu):Option Nat→bu
 |none=>S
 |some b=>lN S b .dead
def ch2 (S:bu)(s:Sh)(l:List VV):Option (List (El s)):=aP3 (ld S s) l.length l
def bM4 (S:bu)(bytes:Nat)(s:Sh)(kill:Option Nat)(a b:List (El s))(k:VV→bu→Option β):Option β:=
 gd (iq (a.length+b.length) bytes) (k (.full S.length) (pt S kill++[.arr s false (a++b)]))
def aU2 (S:bu)(es bytes:Nat)(bo:Option (Base×Option Nat))(mo:Option More)(k:VV→bu→Option β):Option β:=
 match bo,mo with
 |some (.arr s l,kill),some (.lst s' l')=>(md (.list s') (.list s) l').bind fun l2=>bM4 S bytes s kill l l2 k
 |some (.arr s l,kill),some (.cells cs)=>(match bn (fzL S cs) (kill.getD 0)with
  | .arr _ false _=>(ch2 (fzL S cs) s cs).bind fun l2=>bM4 (fzL S cs) bytes s kill l l2 k
  |_=>none)
 |some (.cells _ l,kill),some (.lst s l')=>(match bn (fzL S l) (kill.getD 0)with
  | .cells _ false _=>(ch2 (fzL S l) s l).bind fun l1=>bM4 (fzL S l) bytes s kill l1 l' k
  |_=>none)
 |some (.none,kill),some (.lst s l')=>bM4 S bytes s kill [] l' k
 |some (.cells es l,kill),some (.cells cs)=>gd (iq ((l.length+cs.length) / es) bytes&&oL cs) (k (.full S.length) (pt S kill++[.cells es false (l++cs)]))
 |some (.none,kill),some (.cells cs)=>gd (iq (cs.length / es) bytes&&aD 1 es&&oL cs) (k (.full S.length) (pt S kill++[.cells es false cs]))
 |_,_=>none
def bB5 (S:bu)(es bytes:Nat)(x y:VV)(k:VV→bu→Option β):Option β:=aU2 S es bytes (ym S es x) (jl S es y) k
def bh4 (S:bu):VV→Option (bu×Base)
 | .lst s l=>some (S, .arr s l)
 | .full q=>(match bn S q with
  | .arr s _ l=>some (lN S q (bn S q).freeze, .arr s l)
  |_=>none)
 |_=>none
def bG3 (S:bu)(x hi mx:VV)(k:VV→bu→Option β):Option β:=match hi,mx with
 | .int _ h, .int _ m=>gd (decide (h=m)) (match x with
  | .nils=>gd (decide (h=0)) (k .nils S)
  |v=>(match bh4 S v with
   |some (S1, .arr s l)=>gd (jK 0 h l.length) (k (.tgt s (l.take h.toNat)) S1)
   |_=>none))
 |_,_=>none
def cc2 (S:bu)(es bytes:Nat)(s:Sh)(l:List (El s))(mo:Option More)(k:VV→bu→Option β):Option β:=match mo with
 |some (.lst s' l')=>(md (.list s') (.list s) l').bind fun l2=>gd (aB es s.w&&aD 1 l2.length) (bM4 S bytes s none l l2 k)
 |some (.cells cs)=>(ch2 (fzL S cs) s cs).bind fun l2=>gd (aB es s.w&&aD 1 l2.length) (bM4 (fzL S cs) bytes s none l l2 k)
 |none=>none
def aZ2 (S:bu)(es bytes:Nat)(x y:VV)(k:VV→bu→Option β):Option β:=match x with
 | .tgt s l=>cc2 S es bytes s l (jl S es y) k
 |x=>bB5 S es bytes x y k
def bs2 (l:List Int)(i:Nat):Nat×Nat:=
 let at' (k:Nat):Nat:=(l.getD (i+k) 0).toNat
 let cont (k:Nat):Bool:=i+k<l.length&&at' k / 64==2
 let b0:=at' 0
 if b0<0x80 then(b0,1)
 else if b0 / 32==6&&cont 1 then
  let c:=(b0 % 32)*64+at' 1 % 64
  if c≥0x80 then(c,2)else(Utf8.runeError,1)
 else if b0 / 16==14&&cont 1&&cont 2 then
  let c:=(b0 % 16)*4096+(at' 1 % 64)*64+at' 2 % 64
  if c≥0x800&&Utf8.valid c then(c,3)else(Utf8.runeError,1)
 else if b0 / 8==30&&cont 1&&cont 2&&cont 3 then
  let c:=(b0 % 8)*262144+(at' 1 % 64)*4096+(at' 2 % 64)*64+at' 3 % 64
  if c≥0x10000&&Utf8.valid c then(c,4)else(Utf8.runeError,1)
 else(Utf8.runeError,1)
def cy0 (l:List Int)(p:Int):Int:=((bs2 l p.toNat).1:Nat)
def bR4 (l:List Int)(p:Int):Int:=((p.toNat+(bs2 l p.toNat).2:Nat):Int)
def bi0 (n:Int):List Int:=dw (Utf8.encode n)
def ba5 (n:Int):Int:=((UInt8.ofNat n.toNat).toNat:Nat)
def cv3 (S:bu)(v:VV)(k:VV→bu→Option β):Option β:=match v with
 | .it q l=>(match bn S q with
  | .cells es false (.int .i64 p::r)=>gd (decide (0≤p)&&aD 1 es) (cond (decide (p<l.length)) (k (.tup [.bool true, .int .i64 p, .int .i32 (cy0 l p)]) (lN S q (.cells es false (.int .i64 (bR4 l p)::r)))) (k (.tup [.bool false]) S))
  |_=>none)
 |_=>none
def cb8 (S:bu)(v:VV)(k:VV→bu→Option β):Option β:=match v with
 | .str _=>none
 |v=>(match jl S 1 v with
  |some (.lst s l)=>(md (.list s) (.list (.int .u8)) l).bind fun l2=>k (.str (l2.map ba5)) S
  |some (.cells cs)=>(ue .u8 cs).bind fun l=>k (.str (l.map ba5)) S
  |none=>none)
def cz4 (S:bu)(v:VV)(k:VV→bu→Option β):Option β:=match v with
 | .str _=>none
 |v=>(match jl S 1 v with
  |some (.lst s l)=>(md (.list s) (.list (.int .i32)) l).bind fun l2=>k (.str (l2.flatMap bi0)) S
  |some (.cells cs)=>(ue .i32 cs).bind fun l=>k (.str (l.flatMap bi0)) S
  |none=>none)
def bg4 :Nat→List Int→Nat→List Int
 |0,_,_=>[]
 |b+1,l,i=>if i<l.length then(((bs2 l i).1:Nat):Int)::bg4 b l (i+(bs2 l i).2)else []
def az8 (l:List Int):List Int:=bg4 l.length l 0
def ca8 (S:bu)(v:VV)(k:VV→bu→Option β):Option β:=match v with
 | .str l=>gd (aD l.length 70368744177664) (k (.full S.length) (S++[.arr (.int .i32) false (az8 l)]))
 |_=>none
def aD6 {α:Type}(l:List α)(o n:Nat)(m:List α):List α:=l.take o++(m.take n++l.drop (o+min n m.length))
def aG0 (kd:IntKind)(m:List Int):Nat→List VV→Option (List VV)
 |_,[]=>some []
 |j, .int k n::r=>cond (decide (k=kd)) ((aG0 kd m (j+1) r).bind fun l=>some (.int k (m.getD j n)::l)) none
 |_,_=>none
def cr4 (S:bu)(es:Nat)(d y:VV)(k:VV→bu→Option β):Option β:=
 let go (b o n:Nat):Option β:=match bn S b,jl S es y with
  | .arr s false l,some (.lst s' l')=>(md (.list s') (.list s) l').bind fun l2=>gd (aB es s.w) (k (.int .i64 (min l2.length n:Nat)) (lN S b (.arr s false (aD6 l o n l2))))
  | .arr s false l,some (.cells cs)=>(ue .u64 cs).bind fun m=>(md (.list (.int .u64)) (.list s) m).bind fun l2=>gd (aB es s.w) (k (.int .i64 (min l2.length n:Nat)) (lN S b (.arr s false (aD6 l o n l2))))
  | .cells 1 false l,some (.lst (.int kd) m)=>gd (aB es 1&&aD (o+n) l.length) (match aG0 kd m 0 ((l.drop o).take n)with
   |some c=>k (.int .i64 (min m.length n:Nat)) (lN S b (.cells 1 false (l.take o++c++l.drop (o+n))))
   |none=>none)
  |_,_=>none
 match d with
 | .full b=>(match lenOf S d with
  |some n=>go b 0 n
  |none=>none)
 | .part b o n=>go b o n
 |_=>none
def aQ9 :List Value→Option Sh
 |[.int k 0]=>some (.int k)
 |[.bool false]=>some .bool
 | .int k 0::r=>(aQ9 r).bind fun s=>some (.pair (.int k) s)
 | .bool false::r=>(aQ9 r).bind fun s=>some (.pair .bool s)
 |_=>none
def sK :(s:Sh)→El s
 | .int _=>(0:Int)
 | .bool=>false
 | .str=>[]
 | .list _=>[]
 | .pair a b=>(sK a,sK b)
def cu3 (S:bu)(es bytes:Nat)(z:List Value)(l c:VV)(k:VV→bu→Option β):Option β:=match l,c,aQ9 z with
 | .int _ l, .int _ c,some s=>gd (aB es s.w&&decide (0≤l)&&decide (l≤c)&&decide (bytes*c≤140737488355328)&&aD 1 bytes) (k (.full S.length) (S++[.arr s false (bD l.toNat (sK s))]))
 |_,_,_=>none
def bT6 (es:Nat)(z:List Value)(l:Int):Option More:=match aQ9 z with
 |some s=>cond (aB es s.w) (some (.lst s (bD l.toNat (sK s)))) none
 |none=>none
def mJ (bytes:Nat)(l:Int):Bool:=decide (0≤l)&&(decide (l≤9223372036854775807)&&decide (l*(bytes:Int)≤281474976710656))
def aZ3 (S:bu)(es bytes:Nat)(z:List Value)(x l:VV)(k:VV→bu→Option β):Option β:=match l with
 | .int _ l=>gd (mJ bytes l) (aU2 S es bytes (ym S es x) (bT6 es z l) k)
 |_=>none
end
end
section
open List renaming replicate → bB
open Nat renaming beq → aB, ble → aD
inductive Sk where
 |undef
 |leaf (s:Sh)
 |cint (k:IntKind) (n:Int)
 |nilp
 |nils
 |nilf
 |ptr (j o:Nat)
 |full (j:Nat)
 |pin (s:Sh) (o:Nat)
 |fn (f:Nat) (a c:List Sk)
 |agg (l:List Sk)
 |tup (l:List Sk)
inductive OSk where
 |dead
 |cells (es:Nat) (ro:Bool) (l:List Sk)
 |arr (ro:Bool) (s:Sh)
structure Leaf where
 s:Sh
 v:El s
structure Src where
 k:Nat
 cut:Option Nat
structure DSt where
 m:List (Option Src)
 ls:List Leaf
 lent:List Nat
def DSt.push (st:DSt)(s:Sh)(v:El s):DSt:={st with ls:=st.ls++[⟨s,v⟩]}
def DSt.lend (st:DSt):VV→DSt
 | .full k=>{st with lent:=k::st.lent}
 | .part k _ _=>{st with lent:=k::st.lent}
 |_=>st
def DSt.link (N:Nat)(st:DSt)(j:Nat)(x:Option Src):Option DSt:=
 cond (Nat.blt j N) (match x with
  |some ⟨k,none⟩=>cond (aB k j) (some st) none
  |_=>none)
 (match nth st.m (j-N)with
 |some (some ⟨k,none⟩)=>(match x with
  |some ⟨k',none⟩=>cond (aB k k') (some st) none
  |_=>none)
 |some _=>none
 |none=>cond (aB (j-N) st.m.length) (some {st with m:=st.m++[x]}) none)
mutual
def dec (S:bu)(N:Nat):Sk→VV→DSt→Option DSt
 | .undef,_,st=>some st
 | .leaf s,v,st=>(match s,v with
  | .int k, .int k' n=>cond (decide (k'=k)) (some (st.push (.int k) n)) none
  | .bool, .bool b=>some (st.push .bool b)
  | .str, .str l=>some (st.push .str l)
  | .list s,v=>(ce7 S s v).bind fun l=>some ((st.lend v).push (.list s) l)
  |_,_=>none)
 | .cint k n, .int k' n',st=>cond (decide (k'=k)&&decide (n'=n)) (some st) none
 | .nilp, .nilp,st=>some st
 | .nils, .nils,st=>some st
 | .nilf, .nilf,st=>some st
 | .ptr j o, .ptr k o',st=>cond (aB o o') (st.link N j (some ⟨k,none⟩)) none
 | .full j,v,st=>(match v with
  | .full k=>st.link N j (some ⟨k,none⟩)
  | .part k 0 n=>st.link N j (some ⟨k,some n⟩)
  | .nils=>st.link N j none
  |_=>none)
 | .pin s o, .pin s' x o',st=>cond (aB o o') ((md s' s x).bind fun y=>some (st.push s y)) none
 | .fn f a c, .fn f' a' c',st=>cond (aB f f') ((ay0 S N a a' st).bind fun st1=>ay0 S N c c' st1) none
 | .agg l, .agg l',st=>ay0 S N l l' st
 | .tup l, .tup l',st=>ay0 S N l l' st
 |_,_,_=>none
def ay0 (S:bu)(N:Nat):List Sk→List VV→DSt→Option DSt
 |[],[],st=>some st
 |k::r,v::r',st=>(dec S N k v st).bind fun st1=>ay0 S N r r' st1
 |_,_,_=>none
end
def ba9 {α:Type}:Option Nat→List α→List α
 |none,l=>l
 |some n,l=>l.take n
def bW6 (S:bu)(N:Nat):OSk→Option Src→DSt→Option DSt
 | .dead,_,st=>some st
 | .cells es ro l,some ⟨k,none⟩,st=>(match bn S k with
  | .cells es' fz cs=>cond (aB es es'&&(ro|| !fz)) (ay0 S N l cs (cond ro {st with lent:=k::st.lent} st)) none
  |_=>none)
 | .arr ro s,none,st=>cond ro none (some (st.push (.list s) []))
 | .arr ro s,some ⟨k,cut⟩,st=>cond (ro|| !(bn S k).frozen) ((ce7 S s (.full k)).bind fun l=>some ((cond ro {st with lent:=k::st.lent} st).push (.list s) (ba9 cut l))) none
 |_,_,_=>none
def aK1 (S:bu)(N:Nat):List OSk→List Nat→DSt→Option DSt
 |[],[],st=>some st
 |o::r,j::js,st=>(bW6 S N o (some ⟨j,none⟩) st).bind fun st1=>aK1 S N r js st1
 |_,_,_=>none
def sB (S:bu)(N:Nat):List OSk→Nat→DSt→Option DSt
 |[],i,st=>cond (aB i st.m.length) (some st) none
 |o::r,i,st=>(match nth st.m i with
  |some x=>(bW6 S N o x st).bind fun st1=>sB S N r (i+1) st1
  |none=>none)
def OSk.ro :OSk→Bool
 | .cells _ ro _=>ro
 | .arr ro _=>ro
 | .dead=>false
def mW (k:Nat):List Nat→Bool
 |[]=>false
 |a::r=>cond (aB a k) true (mW k r)
def av5 :List Nat→Bool
 |[]=>true
 |a::r=>cond (mW a r) false (av5 r)
def oB :List (Option Src)→List Nat
 |[]=>[]
 |none::r=>oB r
 |some x::r=>x.k::oB r
def kU :List OSk→List (Option Src)→List Nat
 |o::r,some x::s=>cond o.ro (kU r s) (x.k::kU r s)
 |_::r,none::s=>kU r s
 |_,_=>[]
def ac5 (w:List Nat)(l:List Nat):Bool:=w.all fun k=> !mW k l
structure wH where
 vals:List Sk
 fix:List OSk
 free:List OSk
def oA (S:bu)(N:Nat)(fx:List Nat)(sk:wH)(vals:List VV):Option DSt:=
 (ay0 S N sk.vals vals ⟨[],[],[]⟩).bind fun st=>(aK1 S N sk.fix fx st).bind fun st1=>(sB S N sk.free 0 st1).bind fun st2=>
  cond (av5 (fx++oB st2.m)&&ac5 (fx++kU sk.free st2.m) st2.lent) (some st2) none
mutual
def enc (f:Nat→Nat):Sk→List Leaf→Option (VV×List Leaf)
 | .undef,ls=>some (.undef,ls)
 | .leaf s,x::ls=>(md x.s s x.v).bind fun(y:El s)=>some ((match s,y with
  | .int k,n=> .int k n
  | .bool,b=> .bool b
  | .str,l=> .str l
  | .list s,l=> .lst s l
  | .pair _ _,_=> .undef),ls)
 | .cint k n,ls=>some (.int k n,ls)
 | .nilp,ls=>some (.nilp,ls)
 | .nils,ls=>some (.nils,ls)
 | .nilf,ls=>some (.nilf,ls)
 | .ptr j o,ls=>some (.ptr (f j) o,ls)
 | .full j,ls=>some (.full (f j),ls)
 | .pin s o,x::ls=>(md x.s s x.v).bind fun(y:El s)=>some (.pin s y o,ls)
 | .fn g a c,ls=>(bm7 f a ls).bind fun p=>(bm7 f c p.2).bind fun q=>some (.fn g p.1 q.1,q.2)
 | .agg l,ls=>(bm7 f l ls).bind fun p=>some (.agg p.1,p.2)
 | .tup l,ls=>(bm7 f l ls).bind fun p=>some (.tup p.1,p.2)
 |_,_=>none
def bm7 (f:Nat→Nat):List Sk→List Leaf→Option (List VV×List Leaf)
 |[],ls=>some ([],ls)
 |k::r,ls=>(enc f k ls).bind fun p=>(bm7 f r p.2).bind fun q=>some (p.1::q.1,q.2)
end
def bm8 (f:Nat→Nat):OSk→List Leaf→Option (Blk×List Leaf)
 | .dead,ls=>some (.dead,ls)
 | .cells es ro l,ls=>(bm7 f l ls).bind fun p=>some (.cells es ro p.1,p.2)
 | .arr ro s,x::ls=>(md x.s (.list s) x.v).bind fun l=>some (.arr s ro l,ls)
 | .arr _ _,[]=>none
def ag0 (f:Nat→Nat):List OSk→List Leaf→Option (List Blk×List Leaf)
 |[],ls=>some ([],ls)
 |o::r,ls=>(bm8 f o ls).bind fun p=>(ag0 f r p.2).bind fun q=>some (p.1::q.1,q.2)
def pq (f:Nat→Nat)(sk:wH)(ls:List Leaf):Option (List VV×List Blk×List Blk):=
 (bm7 f sk.vals ls).bind fun p=>(ag0 f sk.fix p.2).bind fun q=>(ag0 f sk.free q.2).bind fun r=>match r.2 with
  |[]=>some (p.1,q.1,r.1)
  |_::_=>none
mutual
def Sk.shs :Sk→List Sh
 | .leaf s=>[s]
 | .pin s _=>[s]
 | .fn _ a c=>cb2 a++cb2 c
 | .agg l=>cb2 l
 | .tup l=>cb2 l
 |_=>[]
def cb2 :List Sk→List Sh
 |[]=>[]
 |k::r=>k.shs++cb2 r
end
def OSk.shs :OSk→List Sh
 | .dead=>[]
 | .cells _ _ l=>cb2 l
 | .arr _ s=>[.list s]
def cS7 :List OSk→List Sh
 |[]=>[]
 |o::r=>o.shs++cS7 r
def wH.shs (sk:wH):List Sh:=cb2 sk.vals++(cS7 sk.fix++cS7 sk.free)
@[reducible] def Tup :List Sh→Type
 |[]=>Unit
 |[s]=>El s
 |s::s'::r=>El s×Tup (s'::r)
def toL :(ss:List Sh)→Tup ss→List Leaf
 |[],_=>[]
 |[s],x=>[⟨s,x⟩]
 |s::s'::r,x=>⟨s,x.1⟩::toL (s'::r) x.2
def ofL :(ss:List Sh)→List Leaf→Option (Tup ss)
 |[],[]=>some ()
 |[s],[x]=>md x.s s x.v
 |s::s'::r,x::ls=>(md x.s s x.v).bind fun a=>(ofL (s'::r) ls).bind fun b=>some (a,b)
 |_,_=>none
inductive XK where
 |normal
 |exit (id:Nat)
 |ret
structure Alt where
 x:XK
 ts:List Nat
 sk:wH
@[reducible] def Alt.Ty (a:Alt):Type:=Tup a.sk.shs
@[reducible] def tX :List Alt→Type
 |[]=>Empty
 |[a]=>a.Ty
 |a::b::r=>a.Ty⊕tX (b::r)
def di {α γ β:Type}(s:α⊕γ)(f:α→Option β)(g:γ→Option β):Option β:=match s with
 | .inl a=>f a
 | .inr b=>g b
def cq0 {β:Type}:(l:List Alt)→tX l→((a:Alt)→a.Ty→Option β)→Option β
 |[],_,_=>none
 |[a],t,k=>k a t
 |a::b::r,s,k=>di s (fun t=>k a t) fun s'=>cq0 (b::r) s' k
def wH.noRo (sk:wH):Bool:=sk.fix.all (fun o=> !o.ro)&&sk.free.all fun o=> !o.ro
def ay1 (S:bu)(N:Nat)(fx:List Nat)(sk:wH)(vals:List VV):Option (Tup sk.shs):=
 gd sk.noRo ((oA S N fx sk vals).bind fun st=>ofL sk.shs st.ls)
def uH (S:bu)(N:Nat)(fx:List Nat)(vals:List Nat→List VV)(hit:XK→Bool):(l:List Alt)→Option (tX l)
 |[]=>none
 |[a]=>cond (hit a.x) (ay1 S N fx a.sk (vals a.ts)) none
 |a::b::r=>match cond (hit a.x) (ay1 S N fx a.sk (vals a.ts)) none with
  |some t=>some (.inl t)
  |none=>(uH S N fx vals hit (b::r)).bind fun s=>some (.inr s)
def Sh.al :Sh→Bool
 | .list _=>true
 | .pair a b=>a.al||b.al
 |_=>false
mutual
def alV :VV→Bool
 | .lst _ _=>true
 | .tgt _ _=>true
 | .pin _ _ _=>true
 | .fn _ a c=>alL a||alL c
 | .agg l=>alL l
 | .tup l=>alL l
 |_=>false
def alL :List VV→Bool
 |[]=>false
 |v::r=>alV v||alL r
end
def alB :Blk→Bool
 | .dead=>false
 | .cells _ _ l=>alL l
 | .arr s _ _=>s.al
def af9 (vs:List VV)(fs bs:List Blk):Bool:=alL vs||fs.any alB||bs.any alB
def Blk.may :Blk→Bool
 | .dead=>true
 | .cells _ z _=> !z
 | .arr _ z _=> !z
def aT5 (S:bu)(fx:List Nat):Bool:=fx.all fun j=>Nat.blt j S.length&&(bn S j).may
structure FSum where
 f:Nat
 vals:List Sk
 objs:List OSk
 outs:List Alt
 run:Tup (wH.shs ⟨vals,[],objs⟩)→Option (tX outs)
def FSum.ins (F:FSum):wH:=⟨F.vals,[],F.objs⟩
def sE :List OSk→Nat→List Nat
 |[],_=>[]
 |o::r,i=>cond o.ro (sE r (i+1)) (i::sE r (i+1))
def uE (m:List (Option Src))(n size j:Nat):Nat:=cond (Nat.blt j n) (match nth m j with
 |some (some x)=>x.k
 |_=>size) (size+(j-n))
def up :List Nat→List Blk→bu→Option bu
 |[],[],S=>some S
 |j::js,b::bs,S=>up js bs (lN S j b)
 |_,_,_=>none
def cs3 :Sk→VV→bu→bu
 | .leaf (.list (.list _)),v,S=>cQ1 S v
 |_,_,S=>S
def an6 :List Sk→List VV→bu→bu
 |k::r,v::vs,S=>an6 r vs (cs3 k v S)
 |_,_,S=>S
def ag1 :List Nat→bu→bu
 |[],S=>S
 |k::r,S=>ag1 r (lN S k (bn S k).freeze)
def cN0 {β:Type}(F:FSum)(t:Tup F.ins.shs)(st:DSt)(S:bu)(k:VV→bu→Option β):Option β:=
 (F.run t).bind fun o=>cq0 F.outs o fun a u=>match pq (uE st.m F.objs.length S.length) a.sk (toL a.sk.shs u)with
  |some ([v],fs,bs)=>(match up (kU F.objs st.m) fs (cond (af9 [v] fs bs) (ag1 st.lent S) S)with
   |some S'=>k v (S'++bs)
   |none=>none)
  |_=>none
def bq9 :List (Option Src)→Bool
 |[]=>true
 |some ⟨_,none⟩::r=>bq9 r
 |_=>false
def ba8 {β:Type}:List FSum→Nat→List VV→bu→(VV→bu→Option β)→Option β
 |[],_,_,_,_=>none
 |F::r,f,args,S,k=>cond (aB F.f f) (match oA (an6 F.vals args S) 0 [] F.ins args with
  |some st=>(match ofL F.ins.shs st.ls with
   |some t=>gd (bq9 st.m&&aT5 (an6 F.vals args S) (kU F.objs st.m)) (cN0 F t st (an6 F.vals args S) k)
   |none=>ba8 r f args S k)
  |none=>ba8 r f args S k) (ba8 r f args S k)
structure Inl where
 f:Nat
 run:(β:Type)→List VV→bu→(VV→bu→Option β)→Option β
structure Tab where
 fs:List FSum
 is:List Inl
def cD2 :List Inl→Nat→Bool
 |[],_=>false
 |I::r,f=>cond (aB I.f f) true (cD2 r f)
def cd2 {β:Type}:List Inl→Nat→List VV→bu→(VV→bu→Option β)→Option β
 |[],_,_,_,_=>none
 |I::r,f,args,S,k=>cond (aB I.f f) (I.run β args S k) (cd2 r f args S k)
def cd3 {β:Type}(tab:Tab)(f:Nat)(args:List VV)(S:bu)(k:VV→bu→Option β):Option β:=
 cond (cD2 tab.is f) (cd2 tab.is f args S k) (ba8 tab.fs f args S k)
def aZ8 :Nat→List Nat
 |0=>[]
 |n+1=>n::aZ8 n
def cm2 {β:Type}(S:bu)(x:Option VV)(k:VV→bu→Option β):Option β:=match x with
 |some v=>k v S
 |none=>none
def bb5 {β:Type}(tab:Tab)(op:AOp)(e:ej)(S:bu)(k:VV→bu→Option β):Option β:=match op with
 | .move x=>k (ev e x) S
 | .pick c a b=>(match ev e c with
  | .bool p=>cw8 p (ev e a) (ev e b) S k
  |_=>none)
 | .alloc es z=>gd (aD 1 es) (k (.ptr S.length 0) (S++[am5 es z]))
 | .box es x=>gd (aD 1 es&&oL (nz (ev e x))) (k (.ptr S.length 0) (S++[.cells es false (nz (ev e x))]))
 | .build z ps=>(match aP8 (z.map aT4) (yr e ps)with
  |some cs=>k (.agg cs) S
  |none=>none)
 | .buildSlice es ln z ps=>(match aP8 ((bB ln (z.map aT4)).flatten) (yr e ps)with
  |some cs=>gd (oL cs&&aB (ln*es) cs.length&&aD 1 es) (k (.full S.length) (S++[.cells es false cs]))
  |none=>none)
 | .load x=>br6 S 1 false (ev e x) k
 | .loadN n x=>br6 S n true (ev e x) k
 | .store n a x=>gd (aB (nz (ev e x)).length n&&oL (nz (ev e x))) (cb6 S (ev e a) (nz (ev e x)) fun S'=>k .undef S')
 | .nilCheck x=>(match ev e x with
  | .fn f a c=>k (.fn f a c) S
  |v=>gd (bc7 S v) (k v S))
 | .bin op x y=>cP5 op (ev e x) (ev e y) fun v=>k v S
 | .eqv kd neg x y=>(match cP8 S kd (ev e x) (ev e y)with
  |some b=>k (.bool (cu5 neg b)) S
  |none=>none)
 | .eqCells neg ks x y=>(match ev e x,ev e y with
  | .agg a, .agg b=>(match bm9 ks a b with
   |some p=>k (.bool (cu5 neg p)) S
   |none=>none)
  |_,_=>none)
 | .un op x=>unK op (ev e x) fun v=>k v S
 | .conv kd x=>(match aE9 (ev e x)with
  |some n=>k (.int kd (kd.wrap n)) S
  |none=>none)
 | .mkFunc f a c=>k (.fn f (a.map (ev e)) (c.map (ev e))) S
 | .makeSlice es bytes z l c=>cu3 S es bytes z (ev e l) (ev e c) k
 | .slice es x lo hi=>cb3 S es (ev e x) (lo.map (ev e)) (hi.map (ev e)) k
 | .sliceStr x lo hi=>aM9 S (ev e x) (lo.map (ev e)) (hi.map (ev e)) k
 | .sliceArr es n x lo hi=>aM8 S es n (ev e x) (lo.map (ev e)) (hi.map (ev e)) k
 | .off n x=>cm2 S (cF3 S n (ev e x)) k
 | .idx es x i=>cD4 S es (ev e x) (ev e i) k
 | .idxA ln es x i=>ce0 S ln es (ev e x) (ev e i) k
 | .fieldV o n agg x=>(match ev e x with
  | .agg cs=>cond agg (k (.agg (yQ cs o n)) S) (cm2 S (nth cs o) k)
  |_=>none)
 | .indexV ln es agg x i=>(match ev e x,ev e i with
  | .agg cs, .int _ i=>(ix i ln).bind fun j=>cond agg (k (.agg (yQ cs (j*es) es)) S) (gd (aB es 1&&aB cs.length ln) (bK3 cs j S k))
  |_,_=>none)
 | .indexS x i=>(match ev e x,ev e i with
  | .str l, .int _ i=>(rd l i).bind fun b=>k (.int .u8 b) S
  |_,_=>none)
 | .extract x i=>(match ev e x with
  | .tup vs=>cm2 S (nth vs i) k
  |_=>none)
 | .call f xs=>cd3 tab f (xs.map (ev e)) S k
 | .callv x xs=>(match ev e x with
  | .fn f a c=>cd3 tab f (a++xs.map (ev e)++c) S k
  |_=>none)
 | .append es bytes s x=>aZ2 S es bytes (ev e s) (ev e x) k
 | .stuck=>none
 | .range x=>(match ev e x with
  | .str l=>k (.it S.length l) (S++[.cells 1 false [.int .i64 0]])
  |_=>none)
 | .next x=>cv3 S (ev e x) k
 | .newB=>k (.bld S.length) (S++[.cells 1 false [.str []]])
 | .encR x=>(match aE9 (ev e x)with
  |some n=>k (.str (bi0 n)) S
  |none=>none)
 | .strOf x=>cb8 S (ev e x) k
 | .strOfR x=>cz4 S (ev e x) k
 | .runesOf x=>ca8 S (ev e x) k
 | .capN x=>(match ev e x with
  | .nils=>k (.int .i64 0) S
  |_=>none)
 | .sliceX x hi mx=>bG3 S (ev e x) (ev e hi) (ev e mx) k
 | .appendZ es bytes z s x=>aZ3 S es bytes z (ev e s) (ev e x) k
 | .copy es d s=>cr4 S es (ev e d) (ev e s) k
 | .len x=>(match ev e x with
  | .str _=>none
  |v=>(match lenOf S v with
   |some n=>k (.int .i64 n) S
   |none=>none))
 | .lenS x=>(match ev e x with
  | .str l=>k (.int .i64 l.length) S
  |_=>none)
 | .lenC n=>k (.int .i64 n) S
 | .most x y=>(match ev e x,ev e y with
  | .int kd a, .int _ b=>k (.int kd (max a b)) S
  |_,_=>none)
 | .least x y=>(match ev e x,ev e y with
  | .int kd a, .int _ b=>k (.int kd (min a b)) S
  |_,_=>none)
section
variable (tab:Tab)
def an2 {β:Type}:List AOper→ej→bu→(ej→bu→Option β)→Option β
 |[],e,S,k=>k e S
 |o::r,e,S,k=>match o.guard with
  |none=>bb5 tab o.op e S fun v S'=>an2 r (putO e o.dst v) S' k
  |some (t,w)=>match mS e t with
   | .bool p=>cond p
    (cond w (bb5 tab o.op (pR e t (.bool true)) S fun v S'=>an2 r (putO (pR e t (.bool true)) o.dst v) S' k) (an2 r (putO (pR e t (.bool true)) o.dst (.tup [])) S k))
    (cond w (an2 r (putO (pR e t (.bool false)) o.dst (.tup [])) S k) (bb5 tab o.op (pR e t (.bool false)) S fun v S'=>an2 r (putO (pR e t (.bool false)) o.dst v) S' k))
   | .tup []=>an2 r (putO e o.dst (.tup [])) S k
   |_=>none
def ua :VV→Option Nat
 | .ptr b _=>some b
 | .it b _=>some b
 | .bld b=>some b
 | .pix b _ _ _=>some b
 | .pel b _ _=>some b
 | .full b=>some b
 | .part b _ _=>some b
 |_=>none
def cq3 (S:bu)(v:VV):Option (Option Nat):=match v with
 | .pin _ _ _| .lst _ _| .nils=>some none
 |v=>(match ua v with
  |some b=>cond (bn S b).live (some (some b)) none
  |none=>none)
def cA6 (S:bu)(op:AOp)(e:ej):Option (Option Nat):=match op with
 | .load x| .loadN _ x| .sliceArr _ _ x _ _| .slice _ x _ _=>cq3 S (ev e x)
 |_=>none
def cm1 :Option Nat→List Nat
 |some b=>[b]
 |none=>[]
def sY :List FSum→Nat→List VV→bu→List Nat
 |[],_,_,_=>[]
 |F::r,f,args,S=>cond (aB F.f f) (match oA (an6 F.vals args S) 0 [] F.ins args with
  |some st=>(match ofL F.ins.shs st.ls with
   |some _=>kU F.objs st.m
   |none=>sY r f args S)
  |none=>sY r f args S) (sY r f args S)
def bC3 (f:Nat)(args:List VV)(S:bu):List Nat:=cond (cD2 tab.is f) (aZ8 S.length) (sY tab.fs f args S)
def aE2 (op:AOp)(e:ej)(S:bu):List Nat:=match op with
 | .store _ a _=>cm1 (ua (ev e a))
 | .append _ _ s _=>cm1 (ua (ev e s))
 | .appendZ _ _ _ s _=>cm1 (ua (ev e s))
 | .copy _ d _=>cm1 (ua (ev e d))
 | .next x=>cm1 (ua (ev e x))
 | .call f xs=>bC3 tab f (xs.map (ev e)) S
 | .callv x xs=>(match ev e x with
  | .fn f a c=>bC3 tab f (a++xs.map (ev e)++c) S
  |_=>[])
 |_=>[]
abbrev Chk :=List (Nat×Option (Option Nat))
def aU0 (d:List Nat):Chk→Chk
 |[]=>[]
 |(i,some (some b))::r=>(i,cond (mW b d) none (some (some b)))::aU0 d r
 |x::r=>x::aU0 d r
def mH (is:List Nat):Chk→Bool
 |[]=>true
 |(i,b)::r=>cond (mW i is) (match b with
  |some _=>mH is r
  |none=>false) (mH is r)
def aK4 {β:Type}(it:SItem)(chk:Chk)(e:ej)(S:bu)(k:Chk→ej→bu→Option β):Option β:=
 cond it.mover (gd (mH it.chks (aU0 (aE2 tab it.o.op e S) chk)) (bb5 tab it.o.op e S fun v S'=>k (aU0 (aE2 tab it.o.op e S) chk) (putO e it.o.dst v) S'))
  (gd (it.o.op.still&&(!it.keep||it.o.op.isLoad)) (bb5 tab it.o.op e S fun v S'=>k (cond it.keep ((it.idx,cA6 S it.o.op e)::chk) chk) (putO e it.o.dst v) S'))
def sD {β:Type}:List SItem→Chk→ej→bu→(ej→bu→Option β)→Option β
 |[],_,e,S,k=>k e S
 |it::r,chk,e,S,k=>match it.o.guard with
  |none=>aK4 tab it chk e S fun chk' e' S'=>sD r chk' e' S' k
  |some (t,w)=>match mS e t with
   | .bool p=>cond p
    (cond w (aK4 tab it chk (pR e t (.bool true)) S fun chk' e' S'=>sD r chk' e' S' k) (sD r chk (putO (pR e t (.bool true)) it.o.dst (.tup [])) S k))
    (cond w (sD r chk (putO (pR e t (.bool false)) it.o.dst (.tup [])) S k) (aK4 tab it chk (pR e t (.bool false)) S fun chk' e' S'=>sD r chk' e' S' k))
   | .tup []=>sD r chk (putO e it.o.dst (.tup [])) S k
   |_=>none
end
structure LItem where
 i:Nat
 kind:Nat
 chks:List Nat
 need:List Nat
def dv (ops:List (AOper×List Nat))(i:Nat):AOper:=match ops[i]? with
 |some (o,_)=>o
 |none=>⟨none, .lenC 0,none⟩
def cg6 :VV→Bool
 | .int _ _| .bool _| .str _=>true
 |_=>false
def cg5 :Value→Bool
 | .int _ _| .bool _| .string _=>true
 |_=>false
def ac6 {β:Type}(op:AOp)(e:ej)(k:Blk→Bool→Option β):Option β:=match op with
 | .alloc es z=>gd (aD 1 es) (k (am5 es z) false)
 | .makeSlice es bytes z l c=>(match ev e l,ev e c,aQ9 z with
  | .int _ l, .int _ c,some s=>gd (aB es s.w&&decide (0≤l)&&decide (l≤c)&&decide (bytes*c≤140737488355328)&&aD 1 bytes) (k (.arr s false (bB l.toNat (sK s))) true)
  |_,_,_=>none)
 | .buildSlice es ln z ps=>(match aP8 ((bB ln (z.map aT4)).flatten) (yr e ps)with
  |some cs=>gd (oL cs&&aB (ln*es) cs.length&&aD 1 es&&cs.all cg6&&z.all cg5) (k (.cells es false cs) true)
  |none=>none)
 |_=>none
def vvF (w:Bool)(k:Nat):VV:=cond w (.full k) (.ptr k 0)
section
variable (tab:Tab)
def evL {β:Type}(ops:List (AOper×List Nat)):List LItem→Chk→ej→bu→(ej→bu→Option β)→Option β
 |[],_,e,S,k=>k e S
 |it::r,chk,e,S,k=>
  cond (aB it.kind 3) (ac6 (dv ops it.i).op e fun _ _=>evL ops r chk e S k)<|
  cond (aB it.kind 2) (ac6 (dv ops it.i).op e fun blk w=>evL ops r chk (putO e (dv ops it.i).dst (vvF w S.length)) (S++[blk]) k)
  (cond (aB it.kind 1)
   (bb5 tab (dv ops it.i).op e S fun v S'=>gd (mH it.chks (aU0 (aE2 tab (dv ops it.i).op e S) chk)&&mH it.need (aU0 (aE2 tab (dv ops it.i).op e S) chk)) (evL ops r (aU0 (aE2 tab (dv ops it.i).op e S) chk) (putO e (dv ops it.i).dst v) S' k))
   (gd (dv ops it.i).op.still (bb5 tab (dv ops it.i).op e S fun v S'=>gd (mH it.need (cond (dv ops it.i).op.isLoad ((it.i,cA6 S (dv ops it.i).op e)::chk) chk)) (evL ops r (cond (dv ops it.i).op.isLoad ((it.i,cA6 S (dv ops it.i).op e)::chk) chk) (putO e (dv ops it.i).dst v) S' k))))
end
def bO6 :Operand→List Nat
 | .tmp t=>[t]
 |_=>[]
def xO :AOp→List Nat
 | .makeSlice _ _ _ l c=>bO6 l++bO6 c
 | .buildSlice _ _ _ ps=>ps.flatMap fun p=>bO6 p.2.2
 |_=>[]
def bM7 :AOp→Bool
 | .alloc es _=>aD 1 es
 |_=>false
def wQ :AOp→Bool
 | .alloc _ _| .makeSlice _ _ _ _ _=>true
 | .buildSlice _ _ z _=>z.all cg5
 |_=>false
def aF6 (d:Option Nat)(l:List Nat):Bool:=match d with
 |some t=> !mW t l
 |none=>true
def neO (d d':Option Nat):Bool:=match d,d' with
 |some t,some t'=> !Nat.beq t t'
 |_,_=>true
def av7 (i:Nat):List Nat→List Nat
 |[]=>[]
 |a::r=>cond (aB a i) r (a::av7 i r)
def ae6 :List LItem→List Nat→Nat→Option (List Nat×LItem×List LItem)
 |[],_,_=>none
 |it::r,P,i=>cond (aB it.kind 3) (ae6 r P i)<|cond (aB it.kind 2) (cond (mW it.i P) (ae6 r (av7 it.i P) i) none) (cond (aB it.i i) (some (P,it,r)) none)
def bX4 :List LItem→List Nat→Bool
 |[],P=>P.isEmpty
 |it::r,P=>cond (aB it.kind 3) (bX4 r P) (aB it.kind 2&&mW it.i P&&bX4 r (av7 it.i P))
def cQ7 :AOp→Bool
 | .move _=>true
 |_=>false
def bc5 (ops:List (AOper×List Nat)):List LItem→Nat→Bool
 |[],_=>false
 |it::r,m=>cond (aB it.kind 3) (aB it.i m||bc5 ops r m)<|(aB it.kind 2&&(aB it.i m||(aF6 (dv ops it.i).dst (xO (dv ops m).op)&&bc5 ops r m)))||(aB it.kind 0&&cQ7 (dv ops it.i).op&&aF6 (dv ops it.i).dst (xO (dv ops m).op)&&bc5 ops r m)
def av8 (ops:List (AOper×List Nat))(self:Nat)(ex:Bool)(P:List Nat)(r:List LItem):Bool:=
 P.all (fun q=>neO (dv ops self).dst (dv ops q).dst&&aF6 (dv ops self).dst (xO (dv ops q).op))&&
 r.all fun it=> !Nat.beq it.kind 2||(ex&&aB it.i self)||neO (dv ops self).dst (dv ops it.i).dst
def bC0 (ops:List (AOper×List Nat)):Nat→List Nat→List Nat→List Nat→List Nat→List LItem→Bool
 |0,_,P,_,_,r=>bX4 r P
 |f+1,D,P,ls,nd,r=>match jV ops D with
  |some i=>(dv ops i).guard.isNone&&(match ae6 r P i with
   |some (P',it,r')=>aB it.kind 0&&av8 ops i false P' r'&&bC0 ops f (i::D) P' (cond (dv ops i).op.isLoad (i::ls) ls) it.need r'
   |none=>false)
  |none=>match ei ops D with
   |[]=>bX4 r P
   |ms=>ms.all fun m=>(dv ops m).guard.isNone&&cond (wQ (dv ops m).op)
    (!mW m P&&r.any (fun it=>aB it.kind 2&&aB it.i m)&&(bM7 (dv ops m).op||bc5 ops r m)&&av8 ops m true P r&&aF6 (dv ops m).dst (xO (dv ops m).op)&&ls.all (fun i=>uF ops i m||mW i nd)&&bC0 ops f (m::D) (m::P) ls nd r)
    (match ae6 r P m with
    |some (P',it,r')=>aB it.kind 1&&av8 ops m false P' r'&&ls.all (fun i=>uF ops i m||mW i it.chks)&&bC0 ops f (m::D) P' ls it.need r'
    |none=>false)
def ac8 (ops:List (AOper×List Nat))(all:List Nat):List Nat→List Nat→List LItem
 |[],_=>[]
 |i::r,ls=>
  cond (aD 1000 i) (⟨i-1000,3,[],[]⟩::ac8 ops all r ls)<|
  let o:=(dv ops i).op
  let ls':=cond o.isLoad (i::ls) ls
  let fr:=r.filter fun m=>wQ (dv ops m).op
  ⟨i,cond (wQ o) 2 (cond o.still 0 1),ls.filter fun j=> !uF ops j i,ls'.filter fun j=>fr.any fun m=> !uF ops j m⟩::ac8 ops all r ls'
def bp1 (ops:List (AOper×List Nat)):List LItem→Bool
 |[]=>true
 |it::r=>r.all (fun j=> !Nat.beq it.kind 2|| !Nat.beq j.kind 2||neO (dv ops it.i).dst (dv ops j.i).dst)&&bp1 ops r
def ar6 (ops:List (AOper×List Nat)):List LItem→List Nat
 |[]=>[]
 |it::r=>cond (aB it.kind 2) ((match(dv ops it.i).dst with
  |some d=>[d]
  |none=>[])++ar6 ops r) (ar6 ops r)
inductive AT where
 |no
 |n (l r:AT)
 |lp (fx:List Nat) (head:Alt) (exits:List Alt) (b:AT)
 |jn (fx mov:List Nat) (exits:List Alt) (l r:AT)
 |sz (n:Nat) (l r:AT)
 |dr (L:List Nat)
def cR4 :List VV→Nat
 |[]=>0
 | .nilp::r=>cR4 r+1
 |_::r=>cR4 r
def cQ9 :Nat→bu→Nat
 |_,[]=>0
 |k, .cells _ _ l::r=>k*cR4 l+cQ9 (k+1) r
 |k,_::r=>cQ9 (k+1) r
def ct3 (S:bu):Nat:=S.length+1000*cQ9 1 S
def AT.at (n:Nat):AT→AT
 | .sz m l r=>cond (aB m n) l (r.at n)
 |t=>t
def bP8 (e:ej):List Nat→List VV→ej
 |t::ts,v::vs=>pR (bP8 e ts vs) t v
 |_,_=>e
def am9 (e:ej):List Nat→ej
 |[]=>e
 |t::ts=>pR (am9 e ts) t .undef
def bC4 :Option Nat→List Nat
 |some d=>[d]
 |none=>[]
def lH :AC→List Nat
 | .region ops=>ops.flatMap fun o=>bC4 o.dst
 | .draw ops=>ops.flatMap fun o=>bC4 o.1.dst
 | .sched its=>its.flatMap fun i=>bC4 i.o.dst
 | .seq a b| .cond _ a b=>lH a++lH b
 | .block _ b| .loop b=>lH b
 |_=>[]
def XK.is :XK→AExit→Bool
 | .normal, .normal=>true
 | .exit i, .exit j=>aB i j
 | .ret, .ret=>true
 |_,_=>false
def XK.out :XK→AExit
 | .normal=> .normal
 | .exit i=> .exit i
 | .ret=> .ret
def kL (fx mov:List Nat)(fz:Bool):Nat→bu→bu
 |_,[]=>[]
 |i,b::r=>cond (mW i mov) (cond b.frozen b .dead) (cond (mW i fx) b (cond fz b.freeze b))::kL fx mov fz (i+1) r
def ao1 :AC→Bool
 | .seq a b| .cond _ a b=>ao1 a&&ao1 b
 | .block _ b| .loop b=>ao1 b
 |_=>true
def bw {α γ:Type}(f:α→Option (α⊕γ))(n:Nat):α→Option γ:=
 Nat.rec (fun _=>none) (fun _ ih a=>(f a).bind fun s=>di s ih some) n
def fa :Nat:=18446744073709551616
def ap3 (e0:ej)(S:bu)(fx mov asg:List Nat)(fz:Bool)(ts:List Nat)(sk:wH)(t:Tup sk.shs):Option (ej×bu):=
 match pq id sk (toL sk.shs t)with
 |some (vals,fs,bs)=>(match up fx fs (kL fx mov (fz||af9 vals fs bs) 0 S)with
  |some S'=>some (bP8 (am9 e0 asg) ts vals,S'++bs)
  |none=>none)
 |none=>none
def cD0 {β:Type}(e0:ej)(S:bu)(fx mov asg:List Nat)(exits:List Alt)(s:tX exits)(k:AExit→ej→bu→Option β):Option β:=
 cq0 exits s fun a t=>match ap3 e0 S fx mov asg false a.ts a.sk t with
  |some (e,S')=>k a.x.out e S'
  |none=>none
def bd5 (F:AT→(β:Type)→ej→bu→(AExit→ej→bu→Option β)→Option β):AT→(β:Type)→ej→bu→(AExit→ej→bu→Option β)→Option β
 | .n l r,β,e,S,k=>F l β e S fun x e' S'=>match x with
  | .normal=>bd5 F r β e' S' k
  |x=>k x e' S'
 | .sz m l r,β,e,S,k=>cond (aB m S.length) (bd5 F l β e S k) (bd5 F r β e S k)
 |_,_,_,_,_=>none
def AT.rounds :AT→Nat
 | .n _ r=>r.rounds+1
 | .sz _ l r=>l.rounds+r.rounds
 |_=>0
def eval (tab:Tab):AC→AT→(β:Type)→ej→bu→(AExit→ej→bu→Option β)→Option β
 | .skip,_,_,e,S,k=>k .normal e S
 | .exit i,_,_,e,S,k=>k (.exit i) e S
 | .ret,_,_,e,S,k=>k .ret e S
 | .region ops,_,_,e,S,k=>an2 tab ops e S fun e' S'=>k .normal e' S'
 | .sched its,_,_,e,S,k=>sD tab its [] e S fun e' S'=>k .normal e' S'
 | .draw ops,at',_,e,S,k=>(match at'.at (ct3 S)with
  | .dr L=>gd (bC0 ops ops.length [] [] [] [] (ac8 ops L L [])&&bp1 ops (ac8 ops L L [])) (evL tab ops (ac8 ops L L []) [] (am9 e (ar6 ops (ac8 ops L L []))) S fun e' S'=>k .normal e' S')
  |_=>none)
 | .seq a b,at',β,e,S,k=>
  (match at'.at (ct3 S)with
  | .jn fx mov exits l r=>gd (aT5 S fx&&ao1 a) ((eval tab a l (tX exits) e (kL (fx++mov) [] true 0 S) fun x e' S'=>uH S' S.length fx (fun ts=>ts.map (mS e')) (fun y=>y.is x) exits).bind fun s=>
    cD0 e S fx mov (lH a) exits s fun x e' S'=>match x with
     | .normal=>eval tab b r β e' S' k
     |x=>k x e' S')
  | .n l r=>eval tab a l β e S fun x e' S'=>match x with
   | .normal=>eval tab b r β e' S' k
   |x=>k x e' S'
  |_=>eval tab a .no β e S fun x e' S'=>match x with
   | .normal=>eval tab b .no β e' S' k
   |x=>k x e' S')
 | .cond c a b,at',β,e,S,k=>
  (match ev e c with
  | .bool p=>(match c,at'.at (ct3 S)with
   | .tmp t, .n l r=>cond p (eval tab a l β (pR e t (.bool true)) S k) (eval tab b r β (pR e t (.bool false)) S k)
   | .tmp t,_=>cond p (eval tab a .no β (pR e t (.bool true)) S k) (eval tab b .no β (pR e t (.bool false)) S k)
   |_, .n l r=>cond p (eval tab a l β e S k) (eval tab b r β e S k)
   |_,_=>cond p (eval tab a .no β e S k) (eval tab b .no β e S k))
  |_=>none)
 | .block id b,at',β,e,S,k=>
  eval tab b (match at'.at (ct3 S)with
   | .n l _=>l
   |_=> .no) β e S fun x e' S'=>match x with
   | .exit i=>cond (aB i id) (k .normal e' S') (k (.exit i) e' S')
   |x=>k x e' S'
 | .loop b,at',_,e,S,k=>
  (match at'.at (ct3 S)with
  | .lp fx head exits l=>gd (head.sk.noRo&&aT5 S fx&&ao1 b) (match oA S S.length fx head.sk (head.ts.map (mS e))with
   |some st=>(ofL head.sk.shs st.ls).bind fun t0=>
    (bw (fun t=>match ap3 e S fx (oB st.m) (lH b) true head.ts head.sk t with
     |some (e1,S1)=>eval tab b l (Tup head.sk.shs⊕tX exits) e1 S1 fun x e' S'=>(match x with
      | .normal=>(ay1 S' S.length fx head.sk (head.ts.map (mS e'))).bind fun t=>some (.inl t)
      |x=>(uH S' S.length fx (fun ts=>ts.map (mS e')) (fun y=>y.is x) exits).bind fun s=>some (.inr s))
     |none=>none) fa t0).bind fun s=>cD0 e S fx (oB st.m) (lH b) exits s k
   |none=>none)
  |_=>bd5 (eval tab b) at' _ e S k)
def cH4 (e:ej)(S:bu):ARes→Option VV
 | .tmp t=>some (mS e t)
 | .cell t=>(match mS e t with
  | .ptr b o=>(match bn S b with
   | .cells _ _ l=>nth l o
   |_=>none)
  |_=>none)
 | .cellN t n=>(match mS e t with
  | .ptr b o=>(match bn S b with
   | .cells _ _ l=>cond (aD (o+n) l.length) (some (.agg ((l.drop o).take n))) none
   |_=>none)
  |_=>none)
def aG9 (e:ej)(S:bu):List ARes→Option (List VV)
 |[]=>some []
 |r::rs=>(cH4 e S r).bind fun v=>(aG9 e S rs).bind fun vs=>some (v::vs)
def bT2 :List VV→VV
 |[v]=>v
 |vs=> .tup vs
def gi (P:Program)(f:FuncId)(tab:Tab)(at':AT):(β:Type)→List VV→bu→(VV→bu→Option β)→Option β:=fun β args S k=>
 match bT0 P f with
 |some a=>gd (aD args.length a.ntmps) (eval tab a.body at' β args S fun x e S'=>match x with
  | .exit _=>none
  |_=>(match aG9 e S' a.results with
   |some rs=>k (bT2 rs) S'
   |none=>none))
 |none=>none
def bb7 (P:Program)(f:FuncId)(tab:Tab)(vals:List Sk)(objs:List OSk)(outs:List Alt)(at':AT)(t:Tup (wH.shs ⟨vals,[],objs⟩)):Option (tX outs):=
 match bT0 P f,pq id ⟨vals,[],objs⟩ (toL _ t)with
 |some a,some (vs,_,S)=>gd (aD vs.length a.ntmps) (eval tab a.body at' (tX outs) vs S fun x e S'=>match x with
  | .exit _=>none
  |_=>(match aG9 e S' a.results with
   |some rs=>uH S' S.length (sE objs 0) (fun _=>[bT2 rs]) (fun _=>true) outs
   |none=>none))
 |_,_=>none
end
section
open Nat renaming lt_of_lt_of_le → aB
structure Ctx where
 μ:Nat→Option Nat
 S:bu
 σ:Hp
 fb:Nat→Prop
def Blk.dim :Blk→Option (Nat×Nat)
 | .dead=>none
 | .cells es _ l=>some (es,l.length)
 | .arr s _ l=>some (s.w,l.length*s.w)
def Blk.vals :Blk→List VV
 | .dead=>[]
 | .cells _ _ l=>l
 | .arr s _ l=>gb s l
def Ctx.own (c:Ctx)(b:Nat):Prop:= ∃k,(bn c.S k).frozen=false∧c.μ k=some b
def Ctx.mut (c:Ctx)(b:Nat):Prop:=c.own b∨c.fb b
def SlR (c:Ctx)(k lo n:Nat)(d:Nat×Nat)(a:Value):Prop:=
 (a= .slice none 0 0∧lo=0∧n=0∧c.μ k=none∧d.2=0)∨
 ∃b cp y,a= .slice (some ⟨b,lo*d.1,none⟩) n cp∧c.μ k=some b∧(lo+n)*d.1≤d.2∧n≤cp∧c.σ.m b=some y∧(lo+cp)*d.1≤y.cells.length
inductive VRel (c:Ctx):VV→Value→Prop where
 |undef (a:Value):VRel c .undef a
 |bool (b:Bool):VRel c (.bool b) (.bool b)
 |int (k:IntKind) (n:Int):VRel c (.int k n) (.int k n)
 |str {l:List Int} {s:ByteArray}:dw s=l→VRel c (.str l) (.string s)
 |nilp:VRel c .nilp (.pointer none)
 |nils:VRel c .nils (.slice none 0 0)
 |nilf:VRel c .nilf .nilFunc
 |ptr {k o:Nat} {a:Value}:k<c.S.length→one a=true→(∀d,(bn c.S k).dim=some d→∃b,c.μ k=some b∧a= .pointer (some ⟨b,o,none⟩))→VRel c (.ptr k o) a
 |it {k:Nat} {l:List Int} {s:ByteArray} {a:Value}:k<c.S.length→one a=true→dw s=l→(∀d,(bn c.S k).dim=some d→∃b,c.μ k=some b∧a= .iface b (.string s))→VRel c (.it k l) a
 |bld {k:Nat} {a:Value}:k<c.S.length→one a=true→(∀d,(bn c.S k).dim=some d→∃b,c.μ k=some b∧a= .iface b .nilFunc)→VRel c (.bld k) a
 |pix {k o n i:Nat} {a:Value}:k<c.S.length→one a=true→i<n→(∀d,(bn c.S k).dim=some d→∃b,c.μ k=some b∧a= .pointer (some ⟨b,o+i,none⟩))→VRel c (.pix k o n i) a
 |pel {k i o:Nat} {a:Value}:k<c.S.length→one a=true→(∀d,(bn c.S k).dim=some d→∃b,c.μ k=some b∧a= .pointer (some ⟨b,i*d.1+o,none⟩))→VRel c (.pel k i o) a
 |pin {s:Sh} {x:El s} {o b p:Nat} {y:Ab.Blk}: ¬c.mut b→c.σ.m b=some y→p+s.w≤y.cells.length→F2 (VRel c) (er s x) ((y.cells.drop p).take s.w)→VRel c (.pin s x o) (.pointer (some ⟨b,p+o,none⟩))
 |lstn {s:Sh} {q:Option Addr}:(∀z,q=some z→z.spot=none)→VRel c (.lst s []) (.slice q 0 0)
 |lst {s:Sh} {l:List (El s)} {b p n cp:Nat} {y:Ab.Blk}: ¬c.mut b→c.σ.m b=some y→y.es=s.w→n=l.length→n≤cp→p+n*s.w≤y.cells.length→
   F2 (VRel c) (gb s l) ((y.cells.drop p).take (n*s.w))→VRel c (.lst s l) (.slice (some ⟨b,p,none⟩) n cp)
 |tgtn {s:Sh} {a:Value}:(a= .slice none 0 0∨∃b o,a= .slice (some ⟨b,o,some 0⟩) 0 0)→VRel c (.tgt s []) a
 |tgt {s:Sh} {l:List (El s)} {b p:Nat} {y:Ab.Blk}: ¬c.mut b→c.σ.m b=some y→y.es=s.w→p+l.length*s.w≤y.cells.length→
   F2 (VRel c) (gb s l) ((y.cells.drop p).take (l.length*s.w))→VRel c (.tgt s l) (.slice (some ⟨b,p,some 0⟩) l.length l.length)
 |full {k:Nat} {a:Value}:k<c.S.length→one a=true→(∀d,(bn c.S k).dim=some d→∃n,n*d.1=d.2∧SlR c k 0 n d a)→VRel c (.full k) a
 |part {k lo n:Nat} {a:Value}:k<c.S.length→one a=true→(∀d,(bn c.S k).dim=some d→SlR c k lo n d a)→VRel c (.part k lo n) a
 |fn {f:Nat} {a b:List VV} {a' b':Array Value}:F2 (VRel c) a a'.toList→F2 (VRel c) b b'.toList→VRel c (.fn f a b) (.func (.func f) a' b')
 |agg {l:List VV} {l':Array Value}:F2 (VRel c) l l'.toList→VRel c (.agg l) (.agg l')
 |tup {l:List VV} {l':Array Value}:F2 (VRel c) l l'.toList→VRel c (.tup l) (.tuple l')
def aV4 (c:Ctx)(k:Nat):Prop:= ∀d,(bn c.S k).dim=some d→1≤d.1∧
 ((d.2=0∧c.μ k=none)∨∃b y cs rest,c.μ k=some b∧c.σ.m b=some y∧y.es=d.1∧((bn c.S k).frozen=false→y.own=true)∧y.cells=cs++rest∧F2 (VRel c) (bn c.S k).vals cs)
structure fe (c:Ctx):Prop where
 ok:c.σ.Ok
 inj: ∀k k' b,(bn c.S k).frozen=false→(bn c.S k').dim≠none→c.μ k=some b→c.μ k'=some b→k=k'
 blk: ∀k,aV4 c k
 fbk: ∀k b,(bn c.S k).dim≠none→c.μ k=some b→¬c.fb b
 fbl: ∀b,c.fb b→b<c.σ.n
structure Le (c c':Ctx):Prop where
 len:c.S.length≤c'.S.length
 al: ∀k d,k<c.S.length→(bn c'.S k).dim=some d→(bn c.S k).dim=some d∧c'.μ k=c.μ k
 fz: ∀k,(bn c.S k).frozen=true→(bn c.S k).dim≠none→bn c'.S k=bn c.S k
 ln: ∀k d b y,k<c.S.length→(bn c'.S k).dim=some d→c.μ k=some b→c.σ.m b=some y→∃y',c'.σ.m b=some y'∧y'.cells.length=y.cells.length
 un: ∀b y,c.σ.m b=some y→¬c.own b→c'.σ.m b=some y
 ow: ∀b y,c.σ.m b=some y→¬c.own b→¬c'.own b
 n:c.σ.n≤c'.σ.n
 fb:c'.fb=c.fb
theorem Le.rd {c c':Ctx}(h:Le c c')(b:Nat)(y:Ab.Blk)(hy:c.σ.m b=some y)(hn: ¬c.mut b):c'.σ.m b=some y∧¬c'.mut b:=by
 have h1: ¬c.own b:=fun e=>hn (.inl e)
 refine⟨h.un b y hy h1,fun e=> ?_⟩;rcases e with e|e
 ·exact h.ow b y hy h1 e
 ·rw[h.fb]at e;exact hn (.inr e)
def tE (d:List Nat)(c c':Ctx):Prop:= ∀k,k<c.S.length→k∉d→(bn c.S k).dim≠none→(bn c'.S k).dim≠none∧∀b,c.μ k=some b→c'.σ.m b=c.σ.m b
theorem ng {S:bu}{k:Nat}(h:(bn S k).dim≠none):k<S.length:=by
 induction S generalizing k with
 |nil=>exact(h rfl).elim
 |cons b r ih=>
  cases k with
  |zero=>exact Nat.zero_lt_succ _
  |succ k=>exact Nat.succ_lt_succ (ih h)
theorem uk {S:bu}{k:Nat}(h:S.length≤k):bn S k= .dead:=by
 induction S generalizing k with
 |nil=>rfl
 |cons b r ih=>
  cases k with
  |zero=>simp at h
  |succ k=>exact ih (by simpa using h)
theorem ap5 {S:bu}{k:Nat}{b:Blk}:(lN S k b).length=S.length:=by
 induction S generalizing k with
 |nil=>rfl
 |cons a r ih=>cases k<;>simp[lN,ih]
theorem vX {S:bu}{k i:Nat}{b:Blk}:bn (lN S k b) i=if i=k∧k<S.length then b else bn S i:=by
 induction S generalizing k i with
 |nil=>simp[lN]
 |cons a r ih=>
  cases k with
  |zero=>cases i<;>simp[lN,bn]
  |succ k=>
   cases i with
   |zero=>simp[lN,bn]
   |succ i=>simp[lN,bn,ih]
theorem cg7 {S:bu}{k:Nat}{b:Blk}(h:k<S.length):bn (lN S k b) k=b:=by rw[vX,zE ⟨rfl,h⟩]
theorem cI2 {S:bu}{k i:Nat}{b:Blk}(h:i≠k):bn (lN S k b) i=bn S i:=by rw[vX,zF (fun e=>h e.1)]
theorem nD {S:bu}{l:List Blk}{k:Nat}(h:k<S.length):bn (S++l) k=bn S k:=by
 induction S generalizing k with
 |nil=>simp at h
 |cons a r ih=>
  cases k with
  |zero=>rfl
  |succ k=>exact ih (by simpa using h)
theorem rr {S:bu}{l:List Blk}{k:Nat}:bn (S++l) (S.length+k)=bn l k:=by
 induction S with
 |nil=>simp
 |cons a r ih=>
  have:(a::r).length+k=(r.length+k)+1:=by simp;omega
  rw[this];exact ih
theorem bR9 {S:bu}{b:Blk}:bn (S++[b]) S.length=b:=by
 exact @rr S [b] 0
theorem mR {b:Blk}(h:b.frozen=false):b.dim≠none:=by cases b<;>simp[Blk.frozen,Blk.dim]at*
theorem gh {b:Blk}:b.freeze.dim=b.dim:=by cases b<;>rfl
theorem aR3 {b:Blk}:b.freeze.vals=b.vals:=by cases b<;>rfl
theorem nB {b:Blk}:b.freeze.frozen=true:=by cases b<;>rfl
theorem yS {b:Blk}(h:b.frozen=true):b.freeze=b:=by cases b<;>simp[Blk.frozen,Blk.freeze]at* <;>simp[h]
theorem Le.refl (c:Ctx):Le c c:=⟨Nat.le_refl _,fun _ _ _ h=>⟨h,rfl⟩,fun _ _ _=>rfl,fun _ _ _ y _ _ _ hy=>⟨y,hy,rfl⟩,fun _ _ h _=>h,fun _ _ _ h=>h,Nat.le_refl _,rfl⟩
theorem Le.trans {a b c:Ctx}(h:Le a b)(k:Le b c):Le a c:=by
 refine⟨Nat.le_trans h.len k.len,fun i d hi hd=> ?_,fun i hf hd=> ?_,fun i d x y hi hd hm hy=> ?_,fun x y hy hn=>k.un x y (h.un x y hy hn) (h.ow x y hy hn),fun x y hy hn=>k.ow x y (h.un x y hy hn) (h.ow x y hy hn),Nat.le_trans h.n k.n,k.fb.trans h.fb⟩
 ·obtain⟨h1,h2⟩:=k.al i d (aB hi h.len) hd;obtain⟨h3,h4⟩:=h.al i d hi h1;exact⟨h3,h2.trans h4⟩
 ·have h1:=h.fz i hf hd;rw[k.fz i (by rw[h1];exact hf) (by rw[h1];exact hd),h1]
 ·obtain⟨h1,h2⟩:=k.al i d (aB hi h.len) hd;obtain⟨y1,h3,h4⟩:=h.ln i d x y hi h1 hm hy;obtain⟨_,h6⟩:=h.al i d hi h1;obtain⟨y2,h5,h7⟩:=k.ln i d x y1 (aB hi h.len) hd (h6.trans hm) h3;exact⟨y2,h5,h7.trans h4⟩
theorem tE.refl (d:List Nat)(c:Ctx):tE d c c:=fun _ _ _ h=>⟨h,fun _ _=>rfl⟩
theorem SlR.frame {c c':Ctx}(h:Le c c'){k lo n:Nat}{d:Nat×Nat}{a:Value}(hk:k<c.S.length)(hd:(bn c'.S k).dim=some d)(hs:SlR c k lo n d a):SlR c' k lo n d a:=by
 obtain⟨h1,h2⟩:=h.al k d hk hd;rcases hs with⟨rfl,rfl,rfl,hm,hz⟩|⟨b,cp,y,rfl,hm,h3,h4,hy,h5⟩
 ·exact .inl ⟨rfl,rfl,rfl,h2.trans hm,hz⟩
 ·obtain⟨y',hy',hl⟩:=h.ln k d b y hk hd hm hy;exact .inr ⟨b,cp,y',rfl,h2.trans hm,h3,h4,hy',by rw[hl];exact h5⟩
theorem VRel.frame {c c':Ctx}(h:Le c c'): ∀{v:VV} {a:Value},VRel c v a→VRel c' v a
 |_,_, .undef a=> .undef a
 |_,_, .bool b=> .bool b
 |_,_, .int k n=> .int k n
 |_,_, .str hs=> .str hs
 |_,_, .nilp=> .nilp
 |_,_, .nils=> .nils
 |_,_, .nilf=> .nilf
 |_,_, .ptr hk h1 hd=> .ptr (aB hk h.len) h1 fun d hd'=>by
  obtain⟨h1,h2⟩:=h.al _ d hk hd';obtain⟨b,h3,h4⟩:=hd d h1;exact⟨b,h2.trans h3,h4⟩
 |_,_, .it hk h1 hs hd=> .it (aB hk h.len) h1 hs fun d hd'=>by
  obtain⟨h1,h2⟩:=h.al _ d hk hd';obtain⟨b,h3,h4⟩:=hd d h1;exact⟨b,h2.trans h3,h4⟩
 |_,_, .bld hk h1 hd=> .bld (aB hk h.len) h1 fun d hd'=>by
  obtain⟨h1,h2⟩:=h.al _ d hk hd';obtain⟨b,h3,h4⟩:=hd d h1;exact⟨b,h2.trans h3,h4⟩
 |_,_, .pix hk h1 hi hd=> .pix (aB hk h.len) h1 hi fun d hd'=>by
  obtain⟨h1,h2⟩:=h.al _ d hk hd';obtain⟨b,h3,h4⟩:=hd d h1;exact⟨b,h2.trans h3,h4⟩
 |_,_, .pel hk h1 hd=> .pel (aB hk h.len) h1 fun d hd'=>by
  obtain⟨h1,h2⟩:=h.al _ d hk hd';obtain⟨b,h3,h4⟩:=hd d h1;exact⟨b,h2.trans h3,h4⟩
 |_,_, .pin hn hy hl hf=> .pin (h.rd _ _ hy hn).2 (h.rd _ _ hy hn).1 hl (go hf)
 |_,_, .lstn hq=> .lstn hq
 |_,_, .lst hn hy he h1 h2 h3 hf=> .lst (h.rd _ _ hy hn).2 (h.rd _ _ hy hn).1 he h1 h2 h3 (go hf)
 |_,_, .tgtn hq=> .tgtn hq
 |_,_, .tgt hn hy he h3 hf=> .tgt (h.rd _ _ hy hn).2 (h.rd _ _ hy hn).1 he h3 (go hf)
 |_,_, .full hk h1 hd=> .full (aB hk h.len) h1 fun d hd'=>by
  obtain⟨h1,h2⟩:=h.al _ d hk hd';obtain⟨n,h3,h4⟩:=hd d h1;exact⟨n,h3,h4.frame h hk hd'⟩
 |_,_, .part hk h1 hd=> .part (aB hk h.len) h1 fun d hd'=>by
  obtain⟨h1,h2⟩:=h.al _ d hk hd';exact(hd d h1).frame h hk hd'
 |_,_, .fn h1 h2=> .fn (go h1) (go h2)
 |_,_, .agg h1=> .agg (go h1)
 |_,_, .tup h1=> .tup (go h1)
where
 go: ∀{l:List VV} {m:List Value},F2 (VRel c) l m→F2 (VRel c') l m
  |_,_, .nil=> .nil
  |_,_, .cons h1 h2=> .cons (VRel.frame h h1) (go h2)
theorem VRel.frames {c c':Ctx}(h:Le c c'){l:List VV}{m:List Value}(hf:F2 (VRel c) l m):F2 (VRel c') l m:=hf.imp fun _ _ hv=>hv.frame h
def jd {β:Type}(c:Ctx)(d:List Nat)(k:VV→bu→Option β)(y:β)(v:Value)(σ':Hp):Prop:=
 ∃vv c',c'.σ=σ'∧Le c c'∧fe c'∧tE d c c'∧VRel c' vv v∧k vv c'.S=some y
theorem jd.same {β:Type}{c:Ctx}{d:List Nat}{k:VV→bu→Option β}{y:β}{v:Value}{vv:VV}(hR:fe c)(hv:VRel c vv v)(hk:k vv c.S=some y):jd c d k y v c.σ:=
 ⟨vv,c,rfl,Le.refl c,hR,tE.refl d c,hv,hk⟩
end
section
open List renaming length_append → bB, take_of_length_le → bD, length_cons → cD, length_drop → dB, take_append → dD
open Nat renaming succ_mul → aB, le_refl → aD, mul_le_mul_right → cB
theorem nF : ∀s:Sh,1≤s.w
 | .int _=>aD _
 | .bool=>aD _
 | .str=>aD _
 | .list _=>aD _
 | .pair a _=>Nat.le_trans (nF a) (Nat.le_add_right _ _)
theorem et : ∀(s:Sh) (x:El s),(er s x).length=s.w
 | .int _,_=>rfl
 | .bool,_=>rfl
 | .str,_=>rfl
 | .list _,_=>rfl
 | .pair a b,x=>by
  simp only[er,bB,Sh.w];rw[et a,et b]
theorem ar4 {s:Sh}:gb s []=[]:=rfl
theorem ir {s:Sh}{x:El s}{l:List (El s)}:gb s (x::l)=er s x++gb s l:=rfl
theorem i3 {s:Sh}{l:List (El s)}:(gb s l).length=l.length*s.w:=by
 induction l with
 |nil=>simp[ar4]
 |cons x l ih=>rw[ir,bB,et,ih,cD,aB,Nat.add_comm]
theorem vS {s:Sh}{l m:List (El s)}:gb s (l++m)=gb s l++gb s m:=List.flatMap_append
theorem lI {s:Sh}{l:List (El s)}{n:Nat}:gb s (l.take n)=(gb s l).take (n*s.w):=by
 induction l generalizing n with
 |nil=>simp[ar4]
 |cons x l ih=>
  cases n with
  |zero=>simp[ar4]
  |succ n=>
   rw[List.take_succ_cons,ir,ir,ih,dD,et];have h1:(n+1)*s.w-s.w=n*s.w:=by rw[aB];omega
   rw[h1,bD (l:=er s x) (by rw[et,aB];omega)]
theorem wP {s:Sh}{l:List (El s)}{n:Nat}:gb s (l.drop n)=(gb s l).drop (n*s.w):=by
 induction l generalizing n with
 |nil=>simp[ar4]
 |cons x l ih=>
  cases n with
  |zero=>simp
  |succ n=>
   rw[List.drop_succ_cons,ir,ih,List.drop_append,et];have h1:(n+1)*s.w-s.w=n*s.w:=by rw[aB];omega
   rw[h1,List.drop_of_length_le (l:=er s x) (by rw[et,aB];omega),List.nil_append]
theorem aK6 {s:Sh}{l:List (El s)}{i:Nat}{x:El s}(h:l[i]?=some x):((gb s l).drop (i*s.w)).take s.w=er s x:=by
 rw[←wP]
 have hi:i<l.length:=by
  rcases Nat.lt_or_ge i l.length with h1|h1
  ·exact h1
  ·rw[List.getElem?_eq_none h1]at h;cases h
 have h2:l.drop i=x::l.drop (i+1):=by
  rw[List.drop_eq_getElem_cons hi];rw[List.getElem?_eq_getElem hi]at h;injection h with h
  rw[h]
 rw[h2,ir,dD,et,Nat.sub_self,List.take_zero,List.append_nil,bD (by rw[et];exact aD _)]
theorem mE {s' s:Sh}{x:El s'}{y:El s}(h:md s' s x=some y): ∃e:s'=s,y=e▸x:=by
 unfold md at h;split at h
 ·rename_i e;injection h with h
  exact⟨e,h.symm⟩
 ·cases h
theorem lj {s:Sh}{x:El s}:md s s x=some x:=by
 unfold md;rw[dif_pos rfl]
theorem F2.app_left {α β:Type}{r:α→β→Prop}{l l':List α}{m:List β}(h:F2 r (l++l') m): ∃m1 m2,m=m1++m2∧F2 r l m1∧F2 r l' m2:=by
 induction l generalizing m with
 |nil=>exact⟨[],m,rfl, .nil,h⟩
 |cons a l ih=>
  cases h with
  |cons h1 h2=>
   obtain⟨m1,m2,rfl,h3,h4⟩:=ih h2;exact⟨_::m1,m2,rfl, .cons h1 h3,h4⟩
def wv (c:Ctx)(s:Sh)(l:List (El s))(a:Value):Prop:=
 (∃q:Option Addr,a= .slice q 0 0∧l=[]∧∀z,q=some z→z.spot=none)∨∃b p cp y,a= .slice (some ⟨b,p,none⟩) l.length cp∧c.σ.m b=some y∧y.es=s.w∧l.length≤cp∧p+l.length*s.w≤y.cells.length∧F2 (VRel c) (gb s l) ((y.cells.drop p).take (l.length*s.w))
theorem wv.rel {c:Ctx}{s:Sh}{l:List (El s)}{a:Value}(h:wv c s l a)(hn: ∀b p n cp,a= .slice (some ⟨b,p,none⟩) n cp→cp≠0→¬c.mut b):VRel c (.lst s l) a:=by
 rcases h with⟨q,rfl,rfl,hq⟩|⟨b,p,cp,y,rfl,h1,h2,h3,h4,h5⟩
 ·exact .lstn hq
 ·by_cases hc:cp=0
  ·subst hc;have:l=[]:=List.length_eq_zero_iff.1 (by omega);subst this;exact .lstn fun z hz=>by injection hz with hz;rw[←hz]
  ·exact .lst (hn _ _ _ _ rfl hc) h1 h2 rfl h3 h4 h5
theorem VRel.listAt {c:Ctx}{s:Sh}{l:List (El s)}{a:Value}(h:VRel c (.lst s l) a):wv c s l a:=by
 cases h with
 |lstn hq=>exact .inl ⟨_,rfl,rfl,hq⟩
 |lst hn hy he h1 h2 h3 h4=>subst h1;exact .inr ⟨_,_,_,_,rfl,hy,he,h2,h3,h4⟩
theorem VRel.lst_mut {c:Ctx}{s:Sh}{l:List (El s)}{b p n cp:Nat}(h:VRel c (.lst s l) (.slice (some ⟨b,p,none⟩) n cp))(hc:cp≠0): ¬c.mut b:=by
 cases h with
 |lstn=>exact(hc rfl).elim
 |lst hn=>exact hn
theorem fe.fz_mut {c:Ctx}(hR:fe c){k b:Nat}(hk:(bn c.S k).frozen=true)(hd:(bn c.S k).dim≠none)(hm:c.μ k=some b): ¬c.mut b:=by
 rintro(⟨k',h1,h2⟩|h)
 ·have:=hR.inj k' k b h1 hd h2 hm;subst this;rw[h1]at hk;cases hk
 ·exact hR.fbk k b hd hm h
def aO9 (c:Ctx)(s:Sh)(f:List VV→Option (El s×List VV)):Prop:= ∀cells x rest,f cells=some (x,rest)→
 ∃pre,cells=pre++rest∧pre.length=s.w∧∀as,F2 (VRel c) pre as→F2 (VRel c) (er s x) as
theorem aJ8 {c:Ctx}{s:Sh}{f:List VV→Option (El s×List VV)}(hf:aO9 c s f): ∀(n:Nat) (cells:List VV) (l:List (El s)),aP3 f n cells=some l→
  cells.length=l.length*s.w∧∀as,F2 (VRel c) cells as→F2 (VRel c) (gb s l) as
 |n,[],l,h=>by
  have:l=[]:=by cases n<;>simpa[aP3]using h.symm
  subst this;exact⟨by simp,fun as ha=>ha⟩
 |0,_::_,_,h=>by simp[aP3]at h
 |n+1,v::r,l,h=>by
  simp only[aP3]at h;cases h1:f (v::r)with
  |none=>rw[h1]at h;cases h
  |some p=>
   obtain⟨x,rest⟩:=p;rw[h1]at h;simp only[zG]at h;cases h2:aP3 f n rest with
   |none=>rw[h2]at h;cases h
   |some l'=>
    rw[h2]at h;injection h with h
    subst h;obtain⟨pre,h3,h4,h5⟩:=hf _ _ _ h1;obtain⟨h6,h7⟩:=aJ8 hf n rest l' h2;refine⟨by rw[h3,bB,h4,h6,cD,aB,Nat.add_comm],fun as ha=> ?_⟩;rw[h3]at ha;obtain⟨m1,m2,rfl,h8,h9⟩:=F2.app_left ha;exact(h5 _ h8).append (h7 _ h9)
theorem rk {c:Ctx}{s:Sh}{f:List VV→Option (El s×List VV)}(hf:aO9 c s f){k:Nat}{l:List (El s)}(h:vD s f (bn c.S k)=some l):
  ∃d,(bn c.S k).dim=some d∧d.1=s.w∧d.2=l.length*s.w∧∀as,F2 (VRel c) (bn c.S k).vals as→F2 (VRel c) (gb s l) as:=by
 generalize bn c.S k=b at h;cases b with
 |dead=>cases h
 |arr s' z m=>
  obtain⟨e,h1⟩:=mE h;cases e;subst h1;exact⟨_,rfl,rfl,rfl,fun _ h=>h⟩
 |cells es z m=>
  simp only[vD]at h;cases he:Nat.beq es s.w with
  |false=>rw[he]at h;cases h
  |true=>
   rw[he,zC]at h;obtain⟨h1,h2⟩:=aJ8 hf _ _ _ h;exact⟨_,rfl,Nat.eq_of_beq_eq_true he,h1,h2⟩
theorem ba0 {c:Ctx}(hR:fe c){s:Sh}{f:List VV→Option (El s×List VV)}(hf:aO9 c s f){k lo n:Nat}{l:List (El s)}{d:Nat×Nat}{a:Value}(h:vD s f (bn c.S k)=some l)
  (hd:(bn c.S k).dim=some d) (hs:SlR c k lo n d a):wv c s ((l.drop lo).take n) a∧((l.drop lo).take n).length=n:=by
 obtain⟨d',h1,h2,h3,h4⟩:=rk hf h;rw[hd]at h1;injection h1 with h1
 subst h1;obtain⟨h0,hb⟩:=hR.blk k d hd;have hw:=nF s;rcases hs with⟨rfl,rfl,rfl,hm,hz⟩|⟨b,cp,y,rfl,hm,h5,h6,hy,h7⟩
 ·have:l.length=0:=by
   rw[hz]at h3;rcases Nat.eq_zero_or_pos l.length with h|h
   ·exact h
   ·have:=Nat.mul_pos h hw;omega
  rw[List.length_eq_zero_iff]at this;subst this;exact⟨.inl ⟨none,rfl,by simp,fun z hz=>by cases hz⟩,by simp⟩
 ·have hln:lo+n≤l.length:=by
   rw[h2,h3]at h5;exact Nat.le_of_mul_le_mul_right h5 hw
  have hlen:((l.drop lo).take n).length=n:=by rw[List.length_take,dB];omega
  refine⟨.inr ⟨b,lo*d.1,cp,y,by rw[hlen],hy, ?_,by rw[hlen];exact h6, ?_, ?_⟩,hlen⟩
  ·rcases hb with⟨h8,h9⟩|⟨b',y',cs,rest,h8,h9,h10,_⟩
   ·rw[h9]at hm;cases hm
   ·rw[hm]at h8;injection h8 with h8
    subst h8;rw[hy]at h9;injection h9 with h9
    subst h9;rw[h10,h2]
  ·rw[hlen];have:=cB d.1 h6;rw[Nat.add_mul]at h7;rw[←h2];omega
  ·rcases hb with⟨h8,h9⟩|⟨b',y',cs,rest,h8,h9,h10,_,h12,h13⟩
   ·rw[h9]at hm;cases hm
   ·rw[hm]at h8;injection h8 with h8
    subst h8;rw[hy]at h9;injection h9 with h9
    subst h9;have h14:=h4 _ h13;have h15:cs.length=l.length*s.w:=by rw[←h14.length,i3]
    rw[hlen,lI,wP,h2,h12,List.drop_append_of_le_length (by rw[h15];exact cB _ (by omega)),List.take_append_of_le_length]
    ·exact(h14.drop _).take _
    ·rw[dB,h15,←Nat.sub_mul];exact cB _ (by omega)
theorem bM2 {c:Ctx}(hR:fe c){s:Sh}{f:List VV→Option (El s×List VV)}(hf:aO9 c s f){k:Nat}{l:List (El s)}{a:Value}(h:vD s f (bn c.S k)=some l)(hv:VRel c (.full k) a):wv c s l a:=by
 obtain⟨d,h1,h2,h3,h4⟩:=rk hf h;cases hv with
 |full hk _ hd=>
  obtain⟨n,h5,h6⟩:=hd d h1
  have hn:n=l.length:=by
   rw[h2,h3]at h5;exact Nat.eq_of_mul_eq_mul_right (nF s) h5
  have:=(ba0 hR hf h h1 h6).1
  rwa [List.drop_zero,bD (by omega)]at this
theorem bO9 {c:Ctx}(hR:fe c){s:Sh}{f:List VV→Option (El s×List VV)}(hf:aO9 c s f){k lo n:Nat}{l:List (El s)}{a:Value}(h:vD s f (bn c.S k)=some l)(hv:VRel c (.part k lo n) a):
  wv c s ((l.drop lo).take n) a∧((l.drop lo).take n).length=n:=by
 obtain⟨d,h1,h2,h3,h4⟩:=rk hf h;cases hv with
 |part hk _ hd=>exact ba0 hR hf h h1 (hd d h1)
def aK7 :VV→Option Nat
 | .full k=>some k
 | .part k _ _=>some k
 |_=>none
theorem SlR.addr {c:Ctx}{k lo n:Nat}{d:Nat×Nat}{b p m cp:Nat}(h:SlR c k lo n d (.slice (some ⟨b,p,none⟩) m cp)):c.μ k=some b:=by
 rcases h with⟨h,_⟩|⟨b',cp',y,h,hm,_⟩
 ·cases h
 ·injection h with h1 h2 h3
  injection h1 with h1
  injection h1 with h1
  subst h1;exact hm
theorem bq4 {c:Ctx}(hR:fe c){s:Sh}{f:List VV→Option (El s×List VV)}(hf:aO9 c s f){v:VV}{l:List (El s)}{a:Value}(h:ao0 c.S s f v=some l)(hv:VRel c v a):
  wv c s l a∧∀b p n cp,a= .slice (some ⟨b,p,none⟩) n cp→cp≠0→¬c.mut b∨∃k,aK7 v=some k∧(bn c.S k).dim≠none∧c.μ k=some b:=by
 cases v<;>simp only[ao0]at h<;>try(cases h;done)
 case nils=>
  injection h with h
  subst h;cases hv;exact⟨.inl ⟨none,rfl,rfl,fun z hz=>by cases hz⟩,fun b p n cp e=>by cases e⟩
 case lst s' l'=>
  obtain⟨e,h1⟩:=mE h;cases e;subst h1;refine⟨hv.listAt,fun b p n cp e hc=> .inl ?_⟩;subst e;exact hv.lst_mut hc
 case full k=>
  refine⟨bM2 hR hf h hv,fun b p n cp e _=> .inr ⟨k,rfl, ?_⟩⟩;obtain⟨d,h1,_⟩:=rk hf h;subst e;cases hv with
  |full hk _ hd=>
   obtain⟨_,_,h6⟩:=hd d h1;exact⟨by rw[h1];simp,h6.addr⟩
 case part k lo m=>
  cases h0:vD s f (bn c.S k)with
  |none=>rw[h0]at h;cases h
  |some l0=>
   rw[h0]at h;injection h with h
   subst h;refine⟨(bO9 hR hf h0 hv).1,fun b p n cp e _=> .inr ⟨k,rfl, ?_⟩⟩;obtain⟨d,h1,_⟩:=rk hf h0;subst e;cases hv with
   |part hk _ hd=>exact⟨by rw[h1];simp,(hd d h1).addr⟩
theorem bd2 {c:Ctx}(hR:fe c){s:Sh}{f:List VV→Option (El s×List VV)}(hf:aO9 c s f){v:VV}{l:List (El s)}{a:Value}(h:bD8 c.S s f v=some l)(hv:VRel c v a):VRel c (.lst s l) a:=by
 have key:ao0 c.S s f v=some l∧∀k,aK7 v=some k→(bn c.S k).frozen=true:=by
  unfold bD8 at h;split at h
  ·rename_i k;cases hz:(bn c.S k).frozen with
   |false=>rw[hz]at h;cases h
   |true=>
    rw[hz]at h;exact⟨h,fun k' e=>by cases e;exact hz⟩
  ·rename_i k lo n;cases hz:(bn c.S k).frozen with
   |false=>rw[hz]at h;cases h
   |true=>
    rw[hz]at h;exact⟨h,fun k' e=>by cases e;exact hz⟩
  ·rename_i h1 h2;refine⟨h,fun k e=> ?_⟩;cases v<;>simp only[aK7]at e<;>try(cases e;done)
   ·exact(h1 _ rfl).elim
   ·exact(h2 _ _ _ rfl).elim
 obtain⟨h1,h2⟩:=bq4 hR hf key.1 hv;refine h1.rel fun b p n cp e hc=> ?_
 rcases h2 b p n cp e hc with h3|⟨k,h3,h4,h5⟩
 ·exact h3
 ·exact hR.fz_mut (key.2 k h3) h4 h5
theorem ll {c:Ctx}(hR:fe c): ∀s:Sh,aO9 c s (ld c.S s)
 | .int k,cells,x,rest,h=>by
  cases cells with
  |nil=>simp[ld]at h
  |cons v r=>
   cases v<;>simp only[ld]at h<;>try(cases h;done)
   rename_i k' n;cases hk:decide (k'=k)with
   |false=>rw[hk]at h;cases h
   |true=>
    rw[hk]at h;injection h with h
    injection h with h1 h2
    subst h1;subst h2;have:=of_decide_eq_true hk;subst this;exact⟨[_],rfl,rfl,fun _ h=>h⟩
 | .bool,cells,x,rest,h=>by
  cases cells with
  |nil=>simp[ld]at h
  |cons v r=>
   cases v<;>simp only[ld]at h<;>try(cases h;done)
   injection h with h
   injection h with h1 h2
   subst h1;subst h2;exact⟨[_],rfl,rfl,fun _ h=>h⟩
 | .str,cells,x,rest,h=>by
  cases cells with
  |nil=>simp[ld]at h
  |cons v r=>
   cases v<;>simp only[ld]at h<;>try(cases h;done)
   injection h with h
   injection h with h1 h2
   subst h1;subst h2;exact⟨[_],rfl,rfl,fun _ h=>h⟩
 | .list s,cells,x,rest,h=>by
  cases cells with
  |nil=>simp[ld]at h
  |cons v r=>
   simp only[ld]at h;cases h1:bD8 c.S s (ld c.S s) v with
   |none=>rw[h1]at h;cases h
   |some l=>
    rw[h1]at h;injection h with h
    injection h with h2 h3
    subst h2;subst h3;refine⟨[v],rfl,rfl,fun as ha=> ?_⟩;cases ha with
    |cons ha hn=>
     cases hn;exact .cons (bd2 hR (ll hR s) h1 ha) .nil
 | .pair a b,cells,x,rest,h=>by
  simp only[ld]at h;cases h1:ld c.S a cells with
  |none=>rw[h1]at h;cases h
  |some p=>
   obtain⟨y,r1⟩:=p;rw[h1]at h;simp only[zG]at h;cases h2:ld c.S b r1 with
   |none=>rw[h2]at h;cases h
   |some q=>
    obtain⟨z,r2⟩:=q;rw[h2]at h;injection h with h
    injection h with h3 h4
    subst h3;subst h4;obtain⟨p1,rfl,hl1,hf1⟩:=ll hR a _ _ _ h1;obtain⟨p2,rfl,hl2,hf2⟩:=ll hR b _ _ _ h2;refine⟨p1++p2,by rw[List.append_assoc],by rw[bB,hl1,hl2];rfl,fun as ha=> ?_⟩;obtain⟨m1,m2,rfl,h5,h6⟩:=F2.app_left ha;exact(hf1 _ h5).append (hf2 _ h6)
theorem ct9 {c:Ctx}(hR:fe c){s:Sh}{v:VV}{l:List (El s)}{a:Value}(h:ce7 c.S s v=some l)(hv:VRel c v a):
  wv c s l a∧∀b p n cp,a= .slice (some ⟨b,p,none⟩) n cp→cp≠0→¬c.mut b∨∃k,aK7 v=some k∧(bn c.S k).dim≠none∧c.μ k=some b:=
 bq4 hR (ll hR s) h hv
end
section
open Bool renaming and_eq_true → aD
open List renaming getElem?_eq_getElem → aB, getD_eq_getElem?_getD → bB, getElem?_map → bD, all_append → cD, getElem?_eq_none → dB, length_drop → dD, length_take → eD
open Nat renaming zero_add → cB, le_of_ble_eq_true → fB
def bz (c:Ctx)(e:ej)(ea:dh):Prop:= ∀t,VRel c (mS e t) (ea t)
theorem bz.frame {c c':Ctx}{e:ej}{ea:dh}(h:bz c e ea)(hl:Le c c'):bz c' e ea:=fun t=>(h t).frame hl
theorem ud {e:ej}{d t:Nat}{v:VV}:mS (pR e d v) t=if t=d then v else mS e t:=by
 induction d generalizing e t with
 |zero=>cases e<;>cases t<;>simp[pR,mS]
 |succ d ih=>
  cases e with
  |nil=>
   cases t with
   |zero=>simp[pR,mS]
   |succ t=>simp[pR,mS,ih]
  |cons a r=>
   cases t with
   |zero=>simp[pR,mS]
   |succ t=>simp[pR,mS,ih]
theorem bz.put {c:Ctx}{e:ej}{ea:dh}(h:bz c e ea){d:Nat}{v:VV}{a:Value}(hv:VRel c v a):bz c (pR e d v) (ea.put d a):=by
 intro t;rw[ud];unfold dh.put;by_cases ht:t=d
 ·rw[zE ht,zE ht];exact hv
 ·rw[zF ht,zF ht];exact h t
theorem bz.putO {c:Ctx}{e:ej}{ea:dh}(h:bz c e ea){d:Option Nat}{v:VV}{a:Value}(hv:VRel c v a):bz c (putO e d v) (ea.putO d a):=by
 cases d with
 |none=>exact h
 |some d=>exact h.put hv
theorem bN9 (c:Ctx)(v:Value):VRel c (aT4 v) v:=by
 unfold aT4;split
 ·exact .bool _
 ·exact .int _ _
 ·exact .str rfl
 ·exact .nilp
 ·exact .nils
 ·exact .nilf
 ·exact .undef _
theorem as3 (c:Ctx)(l:List Value):F2 (VRel c) (l.map aT4) l:=by
 induction l with
 |nil=>exact .nil
 |cons v l ih=>exact .cons (bN9 c v) ih
theorem cF2 (c:Ctx)(v:Value):VRel c (ofC v) v:=by
 unfold ofC;split
 ·rename_i cs;exact .agg (by simpa using as3 c cs.toList)
 ·exact bN9 c _
theorem cm {c:Ctx}{e:ej}{ea:dh}(h:bz c e ea)(x:Operand):VRel c (ev e x) (ea.ev x):=by
 cases x with
 |tmp t=>exact h t
 |const v=>exact cF2 c v
 |global _=>exact .undef _
 |func f=>exact .fn .nil .nil
theorem aU4 {c:Ctx}{e:ej}{ea:dh}(h:bz c e ea)(xs:List Operand):F2 (VRel c) (xs.map (ev e)) (xs.map ea.ev):=by
 induction xs with
 |nil=>exact .nil
 |cons x xs ih=>exact .cons (cm h x) ih
theorem ca {β:Type}{b:Bool}{x:Option β}{y:β}(h:gd b x=some y):b=true∧x=some y:=by
 cases b with
 |false=>cases h
 |true=>exact⟨rfl,h⟩
theorem bO5 {c:Ctx}{v:VV}{a:Value}(h:VRel c v a)(h1:cG6 v=true):one a=true:=by
 cases h<;>first|rfl|assumption|(cases h1;done)|(rename_i h;rcases h with rfl|⟨_,_,rfl⟩<;>rfl)
theorem lG {c:Ctx}: ∀{l:List VV} {m:List Value},F2 (VRel c) l m→oL l=true→m.all one=true
 |_,_, .nil,_=>rfl
 |_,_, .cons h1 h2,h=>by
  simp only[oL,List.all_cons,aD]at h⊢;exact⟨bO5 h1 h.1,lG h2 h.2⟩
theorem ap9 : ∀(s:Sh) (x:El s),oL (er s x)=true
 | .int _,_=>rfl
 | .bool,_=>rfl
 | .str,_=>rfl
 | .list _,_=>rfl
 | .pair a b,x=>by
  have h1:=ap9 a x.1;have h2:=ap9 b x.2;simp only[oL,er,cD,aD]at*;exact⟨h1,h2⟩
theorem rn (s:Sh)(l:List (El s)):oL (gb s l)=true:=by
 induction l with
 |nil=>rfl
 |cons x l ih=>
  have h1:=ap9 s x;rw[ir];simp only[oL,cD,aD]at*;exact⟨h1,ih⟩
theorem aJ7 {c:Ctx}{v:VV}{a:Value}(h:VRel c v a)(hv:oL (nz v)=true):F2 (VRel c) (nz v) (cellsOf a):=by
 have hone:one a=true→cellsOf a=[a]:=fun h=>by cases a<;>first|rfl|(cases h;done)
 cases v with
 |agg l=>
  cases h with
  |agg h=>exact h
 |undef=>cases hv
 |tup l=>cases hv
 |_=>
  rw[hone (bO5 h rfl)];exact .cons h .nil
theorem cw {T:ia}{op:AOp}{e:dh}{σ σ':Hp}{v:Value}{K:Value→Hp→Prop}(h:op.run e σ=some (v,σ'))(hk:K v σ'):ck T op e σ K:=by
 unfold ck;split
 ·cases h
 ·cases h
 ·rw[h];exact hk
theorem uK {α:Type}: ∀(l:List α) (i:Nat),nth l i=l[i]?
 |[],_=>rfl
 |_::_,0=>rfl
 |_::l,i+1=>by
  rw[show nth (_::l) (i+1)=nth l i from rfl,uK l i];rfl
theorem F2.nth {c:Ctx}{l:List VV}{m:List Value}(h:F2 (VRel c) l m){i:Nat}{v:VV}(hv:nth l i=some v): ∃a,m[i]?=some a∧VRel c v a:=by
 rw[uK]at hv;exact h.get i v hv
theorem aK9 {k:IntKind}: ∀{cs:List VV} {l:List Int},ue k cs=some l→cs=l.map (.int k)
 |[],l,h=>by cases h;rfl
 |v::r,l,h=>by
  cases v<;>simp only[ue]at h<;>try(cases h;done)
  rename_i k' n;cases hk:decide (k'=k)with
  |false=>rw[hk]at h;cases h
  |true=>
   rw[hk,zC]at h;cases h1:ue k r with
   |none=>rw[h1]at h;cases h
   |some m=>
    rw[h1]at h;injection h with h
    subst h;rw[aK9 h1,of_decide_eq_true hk];rfl
theorem ba2 : ∀{cs:List VV} {l:List Bool},ba1 cs=some l→cs=l.map .bool
 |[],l,h=>by cases h;rfl
 |v::r,l,h=>by
  cases v<;>simp only[ba1]at h<;>try(cases h;done)
  cases h1:ba1 r with
  |none=>rw[h1]at h;cases h
  |some m=>
   rw[h1]at h;injection h with h
   subst h;rw[ba2 h1];rfl
theorem bs5 : ∀{cs:List VV} {l:List (List Int)},bS4 cs=some l→cs=l.map .str
 |[],l,h=>by cases h;rfl
 |v::r,l,h=>by
  cases v<;>simp only[bS4]at h<;>try(cases h;done)
  cases h1:bS4 r with
  |none=>rw[h1]at h;cases h
  |some m=>
   rw[h1]at h;injection h with h
   subst h;rw[bs5 h1];rfl
theorem bP0 {β:Type}{S:bu}{k:VV→bu→Option β}{y:β}: ∀{cs:List VV} {i:Nat},cf8 S k cs i=some y→∃v,cs[i]?=some v∧k v S=some y
 |[],_,h=>by cases h
 |v::r,i,h=>by
  simp only[cf8]at h;cases hi:Nat.beq i 0 with
  |true=>
   rw[hi]at h;have:=Nat.eq_of_beq_eq_true hi;subst this;exact⟨v,rfl,h⟩
  |false=>
   rw[hi]at h;obtain⟨w,h1,h2⟩:=bP0 h;have:i≠0:=fun e=>by subst e;cases hi
   obtain⟨j,rfl⟩:=Nat.exists_eq_succ_of_ne_zero this;exact⟨w,h1,h2⟩
theorem bK4 {β:Type}{S:bu}{k:VV→bu→Option β}{y:β}{cs:List VV}{i:Nat}(hi:i<cs.length)(h:bK3 cs i S k=some y): ∃v,cs[i]?=some v∧k v S=some y:=by
 unfold bK3 at h;split at h
 ·rename_i kd n r;split at h
  ·rename_i l hl;have:=aK9 hl;subst this;refine⟨_, ?_,h⟩;rw[show(VV.int kd n::l.map (VV.int kd))=(n::l).map (VV.int kd)from rfl,bD];have hi':i<(n::l).length:=by simpa using hi
   rw[aB hi',bB,aB hi'];rfl
  ·cases h
 ·rename_i b r;split at h
  ·rename_i l hl;have:=ba2 hl;subst this;refine⟨_, ?_,h⟩;rw[show(VV.bool b::l.map VV.bool)=(b::l).map VV.bool from rfl,bD];have hi':i<(b::l).length:=by simpa using hi
   rw[aB hi',bB,aB hi'];rfl
  ·cases h
 ·rename_i b r;split at h
  ·rename_i l hl;have:=bs5 hl;subst this;refine⟨_, ?_,h⟩;rw[show(VV.str b::l.map VV.str)=(b::l).map VV.str from rfl,bD];have hi':i<(b::l).length:=by simpa using hi
   rw[aB hi',bB,aB hi'];rfl
  ·cases h
 ·exact bP0 h
theorem fe.block {c:Ctx}(hR:fe c){k b:Nat}{d:Nat×Nat}(hd:(bn c.S k).dim=some d)(hm:c.μ k=some b):
  ∃y cs rest,c.σ.m b=some y∧y.es=d.1∧((bn c.S k).frozen=false→y.own=true)∧y.cells=cs++rest∧F2 (VRel c) (bn c.S k).vals cs:=by
 obtain⟨_,h⟩:=hR.blk k d hd;rcases h with⟨_,h⟩|⟨b',y,cs,rest,h,h'⟩
 ·rw[h]at hm;cases hm
 ·rw[hm]at h;injection h with h
  subst h;exact⟨y,cs,rest,h'⟩
def sW (c:Ctx)(cs:List VV)(b p:Nat):Prop:= ∃y,c.σ.m b=some y∧p+cs.length≤y.cells.length∧F2 (VRel c) cs ((y.cells.drop p).take cs.length)
theorem sW.get {c:Ctx}{cs:List VV}{b p:Nat}(h:sW c cs b p){o:Nat}{v:VV}(hv:nth cs o=some v): ∃y a,c.σ.m b=some y∧y.cells[p+o]?=some a∧VRel c v a:=by
 obtain⟨y,h1,h2,h3⟩:=h;obtain⟨a,h4,h5⟩:=F2.nth h3 hv;refine⟨y,a,h1, ?_,h5⟩;rw[uK]at hv
 have ho:o<cs.length:=by
  rcases Nat.lt_or_ge o cs.length with h|h
  ·exact h
  ·rw[dB h]at hv;cases hv
 rwa [List.getElem?_take,zE ho,List.getElem?_drop]at h4
theorem sW.read {c:Ctx}{cs:List VV}{b p:Nat}(h:sW c cs b p){o n:Nat}(hn:o+n≤cs.length): ∃y as,c.σ.m b=some y∧pv y (p+o) n=some as∧F2 (VRel c) ((cs.drop o).take n) as:=by
 obtain⟨y,h1,h2,h3⟩:=h;refine⟨y,(y.cells.drop (p+o)).take n,h1,zE (by omega), ?_⟩;have h4:=(h3.drop o).take n;rw[List.drop_take,List.drop_drop,List.take_take,Nat.min_eq_left (by omega)]at h4;exact h4
theorem fe.stands {c:Ctx}(hR:fe c){k b:Nat}{d:Nat×Nat}(hd:(bn c.S k).dim=some d)(hm:c.μ k=some b):sW c (bn c.S k).vals b 0:=by
 obtain⟨y,cs,rest,h1,_,_,h2,h3⟩:=hR.block hd hm;have hl:=h3.length;refine⟨y,h1,by rw[h2,List.length_append];omega, ?_⟩;rw[List.drop_zero,h2,List.take_append_of_le_length (by omega),List.take_of_length_le (by omega)];exact h3
theorem sW.part {c:Ctx}{cs:List VV}{b p:Nat}(h:sW c cs b p){o n:Nat}(hn:o+n≤cs.length):sW c ((cs.drop o).take n) b (p+o):=by
 obtain⟨y,h1,h2,h3⟩:=h;have hl:((cs.drop o).take n).length=n:=by rw[eD,dD];omega
 refine⟨y,h1,by rw[hl];omega, ?_⟩;have h4:=(h3.drop o).take n;rw[List.drop_take,List.drop_drop,List.take_take,Nat.min_eq_left (by omega)]at h4
 rwa [hl]
theorem bP9 {β:Type}{c:Ctx}(hR:fe c){n:Nat}{agg:Bool}{v:VV}{a:Value}{k:VV→bu→Option β}{y:β}(h:br6 c.S n agg v k=some y)(hv:VRel c v a):
  ∃b o x,a= .pointer (some ⟨b,o,none⟩)∧c.σ.m b=some x∧
   (agg=false→∃u w,x.cells[o]?=some u∧VRel c w u∧k w c.S=some y)∧
   (agg=true→∃us ws,pv x o n=some us∧F2 (VRel c) ws us∧k (.agg ws) c.S=some y):=by
 have out: ∀(cs:List VV) (b p o:Nat),sW c cs b p→a= .pointer (some ⟨b,p+o,none⟩)→
   cond agg (gd (Nat.ble (o+n) cs.length) (k (.agg ((cs.drop o).take n)) c.S)) (match nth cs o with
    |some v=>k v c.S
    |none=>none)=some y→
   ∃b o x,a= .pointer (some ⟨b,o,none⟩)∧c.σ.m b=some x∧
   (agg=false→∃u w,x.cells[o]?=some u∧VRel c w u∧k w c.S=some y)∧
   (agg=true→∃us ws,pv x o n=some us∧F2 (VRel c) ws us∧k (.agg ws) c.S=some y):=by
  intro cs b p o hs ha h;cases agg with
  |true=>
   obtain⟨h1,h2⟩:=ca h;obtain⟨x,as,h3,h4,h5⟩:=hs.read (fB h1);exact⟨b,p+o,x,ha,h3,(by intro h;cases h),fun _=>⟨as,_,h4,h5,h2⟩⟩
  |false=>
   rw[zD]at h;split at h
   ·rename_i w hw;obtain⟨x,u,h3,h4,h5⟩:=hs.get hw;exact⟨b,p+o,x,ha,h3,(fun _=>⟨u,w,h4,h5,h⟩),(by intro h;cases h)⟩
   ·cases h
 unfold br6 at h;cases v with
 |ptr q o=>
  simp only at h;cases hb:bn c.S q with
  |dead=>rw[hb]at h;cases h
  |arr s z l=>rw[hb]at h;cases h
  |cells es z l=>
   rw[hb]at h;cases hv with
   |ptr hk _ hd=>
    obtain⟨b,hm,ha⟩:=hd (es,l.length) (by rw[hb];rfl);have hs:=hR.stands (k:=q) (d:=(es,l.length)) (by rw[hb];rfl) hm;rw[hb]at hs;exact out l b 0 o hs (by rw[ha,cB]) h
 |pix q o m i=>
  simp only at h;cases hb:bn c.S q with
  |dead=>rw[hb]at h;cases h
  |arr s z l=>rw[hb]at h;cases h
  |cells es z l=>
   rw[hb]at h;obtain⟨h1,h2⟩:=ca h;rw[aD]at h1;have h3:=fB h1.2;have hagg:agg=false:=by simpa using h1.1
   subst hagg;cases hv with
   |pix hk _ hi hd=>
    obtain⟨b,hm,ha⟩:=hd (es,l.length) (by rw[hb];rfl);have hs:=hR.stands (k:=q) (d:=(es,l.length)) (by rw[hb];rfl) hm;rw[hb]at hs;have hlen:((l.drop o).take m).length=m:=by rw[eD,dD];omega
    obtain⟨w,h4,h5⟩:=bK4 (by omega) h2;have hs':sW c ((l.drop o).take m) b (0+o):=sW.part (cs:=l) hs h3;rw[←uK]at h4;obtain⟨x,u,h6,h7,h8⟩:=hs'.get h4;exact⟨b,o+i,x,ha,h6,(fun _=>⟨u,w,by rwa [cB]at h7,h8,h5⟩),(by intro h;cases h)⟩
 |pel q i o=>
  simp only at h;cases hb:bn c.S q with
  |dead=>rw[hb]at h;cases h
  |cells es z l=>rw[hb]at h;cases h
  |arr s z l=>
   rw[hb]at h;simp only at h;cases hx:l[i]? with
   |none=>rw[hx]at h;cases h
   |some x=>
    rw[hx]at h;cases hv with
    |pel hk _ hd=>
     obtain⟨b,hm,ha⟩:=hd (s.w,l.length*s.w) (by rw[hb];rfl);have hs:=hR.stands (k:=q) (d:=(s.w,l.length*s.w)) (by rw[hb];rfl) hm;rw[hb]at hs
     have hi:i<l.length:=by
      rcases Nat.lt_or_ge i l.length with h|h
      ·exact h
      ·rw[dB h]at hx;cases hx
     have hle:i*s.w+s.w≤(gb s l).length:=by
      rw[i3,←Nat.succ_mul];exact Nat.mul_le_mul_right _ hi
     have hs':sW c (((gb s l).drop (i*s.w)).take s.w) b (0+i*s.w):=sW.part (cs:=gb s l) hs hle;rw[aK6 hx,cB]at hs';exact out (er s x) b (i*s.w) o hs' ha h
 |pin s x o=>
  simp only at h;cases hv with
  |pin hn hy hl hf=>
   exact out (er s x) _ _ o ⟨_,hy,by rw[et];exact hl,by rw[et];exact hf⟩ rfl h
 |_=>cases h
end
section
open Nat renaming lt_of_lt_of_le → aB
theorem aV4.frame {c c':Ctx}(hl:Le c c'){k:Nat}(h:aV4 c k)(hS:bn c'.S k=bn c.S k)(hμ:(bn c.S k).dim≠none→c'.μ k=c.μ k)(hσ: ∀b y,(bn c.S k).dim≠none→c.μ k=some b→c.σ.m b=some y→c'.σ.m b=some y):aV4 c' k:=by
 intro d hd;rw[hS]at hd;obtain⟨h1,h2⟩:=h d hd;have hm:=hμ (by rw[hd];simp);refine⟨h1, ?_⟩;rcases h2 with⟨h3,h4⟩|⟨b,y,cs,rest,h3,h4,h5,h6,h7,h8⟩
 ·exact .inl ⟨h3,hm.trans h4⟩
 ·exact .inr ⟨b,y,cs,rest,hm.trans h3,hσ b y (by rw[hd];simp) h3 h4,h5,by rw[hS];exact h6,h7,by rw[hS];exact VRel.frames hl h8⟩
def sM (S S':bu):Prop:=S'.length=S.length∧∀k,bn S' k=bn S k∨bn S' k=(bn S k).freeze
theorem sM.refl (S:bu):sM S S:=⟨rfl,fun _=> .inl rfl⟩
theorem bn0 {b:Blk}:b.freeze.freeze=b.freeze:=by cases b<;>rfl
theorem sM.trans {a b c:bu}(h:sM a b)(k:sM b c):sM a c:=by
 refine⟨k.1.trans h.1,fun i=> ?_⟩;rcases h.2 i with h1|h1<;>rcases k.2 i with h2|h2
 ·exact .inl (h2.trans h1)
 ·exact .inr (by rw[h2,h1])
 ·exact .inr (h2.trans h1)
 ·exact .inr (by rw[h2,h1,bn0])
theorem sM.put {S:bu}{k:Nat}:sM S (lN S k (bn S k).freeze):=by
 refine⟨ap5,fun i=> ?_⟩;rw[vX];split
 ·rename_i h;rw[h.1];exact .inr rfl
 ·exact .inl rfl
theorem sM.fold {f:bu→VV→bu}(hf: ∀S v,sM S (f S v)): ∀(l:List VV) (S:bu),sM S (l.foldl f S)
 |[],S=>sM.refl S
 |v::l,S=>(hf S v).trans (sM.fold hf l _)
theorem cd7 : ∀(n:Nat) (S:bu) (v:VV),sM S (fzv n S v)
 |0,S,_=>sM.refl S
 |n+1,S,v=>by
  have key: ∀k,sM S (match bn S k with
    | .cells es _ l=>l.foldl (fzv n) (lN S k (.cells es true l))
    |b=>lN S k b.freeze):=by
   intro k;have hp:=sM.put (S:=S) (k:=k);split
   ·rename_i es z l h;rw[h]at hp;exact sM.trans hp (sM.fold (cd7 n) l _)
   ·exact hp
  unfold fzv;split
  ·exact key _
  ·exact key _
  ·exact sM.refl S
theorem ar7 (S:bu)(l:List VV):sM S (fzL S l):=sM.fold (cd7 3) l S
theorem cs4 (S:bu)(v:VV):sM S (cQ1 S v):=by
 unfold cQ1;split
 ·split
  ·exact ar7 S _
  ·exact sM.refl S
 ·split
  ·exact ar7 S _
  ·exact sM.refl S
 ·exact sM.refl S
theorem ck3 (k:Sk)(v:VV)(S:bu):sM S (cs3 k v S):=by
 unfold cs3;split
 ·exact cs4 S v
 ·exact sM.refl S
theorem bc2 : ∀(l:List Sk) (vs:List VV) (S:bu),sM S (an6 l vs S)
 |[],_,S=>sM.refl S
 |_::_,[],S=>sM.refl S
 |k::r,v::vs,S=>(ck3 k v S).trans (bc2 r vs _)
theorem sZ : ∀(l:List Nat) (S:bu),sM S (ag1 l S)
 |[],S=>sM.refl S
 |_::l,S=>sM.put.trans (sZ l _)
theorem sM.dim {S S':bu}(h:sM S S')(k:Nat):(bn S' k).dim=(bn S k).dim:=by
 rcases h.2 k with h|h<;>rw[h]
 exact gh
theorem sM.vals {S S':bu}(h:sM S S')(k:Nat):(bn S' k).vals=(bn S k).vals:=by
 rcases h.2 k with h|h<;>rw[h]
 exact aR3
theorem sM.fz {S S':bu}(h:sM S S'){k:Nat}(hz:(bn S' k).frozen=false):bn S' k=bn S k:=by
 rcases h.2 k with h|h
 ·exact h
 ·rw[h,nB]at hz;cases hz
theorem sM.le {c:Ctx}{S':bu}(h:sM c.S S'):Le c ⟨c.μ,S',c.σ,c.fb⟩:=by
 refine⟨Nat.le_of_eq h.1.symm,fun k d _ hd=>⟨(h.dim k)▸hd,rfl⟩,fun k hk _=> ?_,fun _ _ _ y _ _ _ hy=>⟨y,hy,rfl⟩,fun b y hy _=>hy,fun b y hy hn=> ?_,Nat.le_refl _,rfl⟩
 ·rcases h.2 k with h|h
  ·exact h
  ·exact h.trans (yS hk)
 ·rintro⟨k,h1,h2⟩;exact hn ⟨k,by rw[←h.fz h1];exact h1,h2⟩
theorem sM.rel {c:Ctx}(hR:fe c){S':bu}(h:sM c.S S'):fe ⟨c.μ,S',c.σ,c.fb⟩:=by
 refine⟨hR.ok,fun k k' b hk hk' hm hm'=>hR.inj k k' b (by rw[←h.fz hk];exact hk) (by rw[←h.dim];exact hk') hm hm',fun k d hd=> ?_,fun k b hk hm=>hR.fbk k b (by rw[←h.dim];exact hk) hm,hR.fbl⟩;have hd':(bn c.S k).dim=some d:=(h.dim k)▸hd;obtain⟨h1,h2⟩:=hR.blk k d hd';refine⟨h1, ?_⟩;rcases h2 with h2|⟨b,y,cs,rest,h3,h4,h5,h6,h7,h8⟩
 ·exact .inl h2
 ·exact .inr ⟨b,y,cs,rest,h3,h4,h5,fun hz=>h6 (by rw[←h.fz hz];exact hz),h7,by rw[h.vals k];exact VRel.frames h.le h8⟩
theorem sM.calm {c:Ctx}{S':bu}(d:List Nat)(h:sM c.S S'):tE d c ⟨c.μ,S',c.σ,c.fb⟩:=fun k _ _ hk=>⟨by rw[h.dim];exact hk,fun _ _=>rfl⟩
theorem tE.trans {a b c:Ctx}{d:List Nat}(h:tE d a b)(k:tE d b c)(hl:Le a b):tE d a c:=by
 intro i hi hd hn;obtain⟨h1,h2⟩:=h i hi hd hn;obtain⟨h3,h4⟩:=k i (aB hi hl.len) hd h1;refine⟨h3,fun x hx=> ?_⟩
 have hx':b.μ i=some x:=by
  cases hb:(bn b.S i).dim with
  |none=>exact(h1 hb).elim
  |some z=>exact(hl.al i z hi hb).2.trans hx
 exact(h4 x hx').trans (h2 x hx)
def cc6 (c:Ctx)(kill:Option Nat)(b:Nat):Prop:= ∃k,kill=some k∧c.μ k=some b
def sU (c:Ctx)(b1:Option Nat):Nat→Option Nat:=fun i=>if i=c.S.length then b1 else c.μ i
theorem vT {S:bu}{kill:Option Nat}:(pt S kill).length=S.length:=by cases kill<;>simp[pt,ap5]
theorem ck8 {S:bu}{kill:Option Nat}{i:Nat}:bn (pt S kill) i=if kill=some i then .dead else bn S i:=by
 cases kill with
 |none=>simp[pt]
 |some k=>
  simp only[pt,vX,Option.some.injEq];by_cases h:i=k
  ·subst h;by_cases h1:i<S.length
   ·simp[h1]
   ·simp[h1,uk (Nat.le_of_not_lt h1)]
  ·simp[h,Ne.symm h]
structure Moves (c:Ctx)(kill:Option Nat)(b1:Option Nat)(blk:Blk)(σ':Hp):Prop where
 fr: ∀b,b1=some b→(∀z,c.σ.m b≠some z)→¬c.fb b
 kz: ∀k,kill=some k→(bn c.S k).frozen=false
 ok:σ'.Ok
 n:c.σ.n≤σ'.n
 old: ∀i y,c.σ.m i=some y→¬cc6 c kill i→σ'.m i=some y
 one: ∃d,blk.dim=some d∧1≤d.1∧((b1=none∧d.2=0)∨∃b y cs rest,b1=some b∧σ'.m b=some y∧y.es=d.1∧(blk.frozen=false→y.own=true)∧y.cells=cs++rest∧F2 (VRel c) blk.vals cs∧((∀z,c.σ.m b≠some z)∨cc6 c kill b))
section
variable {c:Ctx} {kill b1:Option Nat} {blk:Blk} {σ':Hp}
theorem lq (i:Nat):bn (pt c.S kill++[blk]) i=if i=c.S.length then blk else if kill=some i then .dead else bn c.S i:=by
 by_cases h:i=c.S.length
 ·subst h;rw[zE rfl,←vT (S:=c.S) (kill:=kill),bR9]
 ·rw[zF h];by_cases h1:i<c.S.length
  ·rw[nD (by rw[vT];exact h1),ck8]
  ·have h2:c.S.length<i:=by omega
   rw[uk (by rw[List.length_append,vT];simp;omega),uk (k:=i) (S:=c.S) (by omega)];split<;>rfl
theorem Moves.low (hR:fe c)(h:Moves c kill b1 blk σ'){i b:Nat}(_:i≠c.S.length)(hk:kill≠some i)(hd:(bn c.S i).dim≠none)(hm:c.μ i=some b): ¬cc6 c kill b:=by
 rintro⟨k,rfl,h1⟩;exact hk (congrArg some (hR.inj k i b (h.kz k rfl) hd h1 hm))
theorem Moves.le (hR:fe c)(h:Moves c kill b1 blk σ'):Le c ⟨sU c b1,pt c.S kill++[blk],σ',c.fb⟩:=by
 have hlt: ∀k,k<c.S.length→k≠c.S.length:=fun k hk=>by omega
 refine⟨by simp[vT],fun k d hk hd=> ?_,fun k hz hd=> ?_,fun k d b y hk hd hm hy=> ?_,fun b y hy hn=>h.old b y hy fun⟨k,e,hm⟩=>hn ⟨k,h.kz k e,hm⟩,fun b y hy hn=> ?_,h.n,rfl⟩
 ·simp only[lq,zF (hlt k hk)]at hd;split at hd
  ·cases hd
  ·exact⟨hd,zF (hlt k hk)⟩
 ·have hk:=ng hd;simp only[lq,zF (hlt k hk)];rw[zF];intro e;have:=h.kz k e;rw[hz]at this;cases this
 ·simp only[lq,zF (hlt k hk)]at hd;split at hd
  ·cases hd
  ·rename_i hne;exact⟨y,h.old b y hy (h.low hR (hlt k hk) hne (by rw[hd];simp) hm),rfl⟩
 ·have hnk: ¬cc6 c kill b:=fun⟨k,e,hm⟩=>hn ⟨k,h.kz k e,hm⟩
  rintro⟨k,h1,h2⟩;simp only[lq]at h1;simp only[sU]at h2;by_cases hk:k=c.S.length
  ·rw[zE hk]at h1 h2;obtain⟨d,_,_,h3⟩:=h.one;rcases h3 with⟨h3,_⟩|⟨b',y',cs,rest,h3,_,_,_,_,_,h4⟩
   ·rw[h3]at h2;cases h2
   ·rw[h3]at h2;injection h2 with h2
    subst h2;rcases h4 with h4|h4
    ·exact h4 y hy
    ·exact hnk h4
  ·rw[zF hk]at h1 h2;split at h1
   ·cases h1
   ·exact hn ⟨k,h1,h2⟩
theorem Moves.rel (hR:fe c)(h:Moves c kill b1 blk σ'):fe ⟨sU c b1,pt c.S kill++[blk],σ',c.fb⟩:=by
 have hle:=h.le hR
 have hnew: ∀i b,i≠c.S.length→kill≠some i→(bn c.S i).dim≠none→c.μ i=some b→b1≠some b:=by
  intro i b hi hk hd hm e;obtain⟨d,_,_,h3⟩:=h.one;rcases h3 with⟨h3,_⟩|⟨b',y',cs,rest,h3,_,_,_,_,_,h4⟩
  ·rw[h3]at e;cases e
  ·rw[h3]at e;injection e with e
   subst e;rcases h4 with h4|h4
   ·cases hdd:(bn c.S i).dim with
    |none=>exact hd hdd
    |some dd=>
     obtain⟨y,_,_,hy,_⟩:=hR.block hdd hm;exact h4 y hy
   ·exact h.low hR hi hk hd hm h4
 have hfb: ∀b,c.fb b→b1≠some b:=by
  intro b hb e;obtain⟨d,_,_,h3⟩:=h.one;rcases h3 with⟨h3,_⟩|⟨b',y',cs,rest,h3,_,_,_,_,_,h4⟩
  ·rw[h3]at e;cases e
  ·rw[h3]at e;injection e with e
   subst e;rcases h4 with h4|⟨k,h4,h5⟩
   ·exact h.fr _ h3 h4 hb
   ·exact hR.fbk k _ (mR (h.kz k h4)) h5 hb
 refine⟨h.ok,fun k k' b hk hk' hm hm'=> ?_,fun k=> ?_,fun k b hk hm hb=> ?_,fun b hb=>aB (hR.fbl b hb) h.n⟩
 rotate_left 2
 ·simp only[lq]at hk;simp only[sU]at hm;by_cases h1:k=c.S.length
  ·rw[zE h1]at hm;exact hfb b hb hm
  ·rw[zF h1]at hm hk;split at hk
   ·exact hk rfl
   ·exact hR.fbk k b hk hm hb
 ·simp only[lq]at hk hk';simp only[sU]at hm hm';by_cases h1:k=c.S.length<;>by_cases h2:k'=c.S.length
  ·omega
  ·rw[zE h1]at hm;rw[zF h2]at hm' hk';split at hk'
   ·exact(hk' rfl).elim
   ·rename_i hne;exact(hnew k' b h2 hne hk' hm' hm).elim
  ·rw[zF h1]at hm hk;rw[zE h2]at hm';split at hk
   ·cases hk
   ·rename_i hne;exact(hnew k b h1 hne (mR hk) hm hm').elim
  ·rw[zF h1]at hm hk;rw[zF h2]at hm' hk';split at hk
   ·cases hk
   ·split at hk'
    ·exact(hk' rfl).elim
    ·exact hR.inj k k' b hk hk' hm hm'
 ·by_cases hk:k=c.S.length
  ·subst hk;intro d hd;simp only[lq,if_true]at hd⊢;obtain⟨d',h1,h2,h3⟩:=h.one;rw[hd]at h1;injection h1 with h1
   subst h1;refine⟨h2, ?_⟩;simp only[sU,if_true];rcases h3 with⟨h3,h4⟩|⟨b',y',cs,rest,h3,h4,h5,h6,h7,h8,_⟩
   ·exact .inl ⟨h4,h3⟩
   ·exact .inr ⟨b',y',cs,rest,h3,h4,h5,h6,h7,VRel.frames hle h8⟩
  ·by_cases hne:kill=some k
   ·intro d hd;simp only[lq,zF hk,zE hne]at hd;cases hd
   ·refine(hR.blk k).frame hle ?_ (fun _=>zF hk) fun b y hd hm hy=> ?_
    ·simp only[lq,zF hk,zF hne]
    ·exact h.old b y hy (h.low hR hk hne hd hm)
theorem Moves.calm (hR:fe c)(h:Moves c kill b1 blk σ'){d:List Nat}(hd: ∀k,kill=some k→k∈d):tE d c ⟨sU c b1,pt c.S kill++[blk],σ',c.fb⟩:=by
 intro k hk hn hdim;have h1:k≠c.S.length:=by omega
 have h2:kill≠some k:=fun e=>hn (hd k e)
 simp only[lq,zF h1,zF h2];refine⟨hdim,fun b hm=> ?_⟩;cases hdd:(bn c.S k).dim with
 |none=>exact(hdim hdd).elim
 |some dd=>
  obtain⟨y,_,_,hy,_⟩:=hR.block hdd hm;rw[hy];exact h.old b y hy (h.low hR h1 h2 hdim hm)
end
theorem bJ9 {c:Ctx}(hR:fe c){blk:Blk}{x:Ab.Blk}{d:Nat×Nat}(hd:blk.dim=some d)(h1:1≤d.1)(he:x.es=d.1)(ho:x.own=true)(hf:F2 (VRel c) blk.vals x.cells):
  Moves c none (some c.σ.n) blk (c.σ.add x):=by
 refine⟨(fun b h _ hb=>by injection h with h;subst h;exact Nat.lt_irrefl _ (hR.fbl _ hb)),(fun _ h=>by cases h),fun b y hy=> ?_,Nat.le_succ _,fun i y hy _=> ?_,d,hd,h1, .inr ⟨c.σ.n,x,x.cells,[],rfl,zE rfl,he,fun _=>ho,by simp,hf, .inl fun z hz=> ?_⟩⟩
 ·simp only[Hp.add]at hy⊢;split at hy
  ·omega
  ·have:=hR.ok b y hy;omega
 ·have:=hR.ok i y hy;simp only[Hp.add];rw[zF (by omega)];exact hy
 ·have:=hR.ok _ _ hz;omega
structure Writes (c:Ctx)(k b:Nat)(blk:Blk)(y':Ab.Blk):Prop where
 kz:(bn c.S k).frozen=false
 mu:c.μ k=some b
 dim:blk.dim=(bn c.S k).dim
 fz:blk.frozen=false
 one: ∃y cs rest d,c.σ.m b=some y∧(bn c.S k).dim=some d∧y'.es=d.1∧y'.own=true∧y'.cells.length=y.cells.length∧y'.cells=cs++rest∧F2 (VRel c) blk.vals cs
section
variable {c:Ctx} {k b:Nat} {blk:Blk} {y':Ab.Blk}
theorem Writes.get (h:Writes c k b blk y')(i:Nat):bn (lN c.S k blk) i=if i=k then blk else bn c.S i:=by
 rw[vX];have:=ng (mR h.kz);by_cases hi:i=k
 ·rw[zE ⟨hi,this⟩,zE hi]
 ·rw[zF (fun e=>hi e.1),zF hi]
theorem Writes.low (hR:fe c)(h:Writes c k b blk y'){i b':Nat}(hi:i≠k)(hd:(bn c.S i).dim≠none)(hm:c.μ i=some b'):b'≠b:=by
 rintro rfl;exact hi (hR.inj k i b' h.kz hd h.mu hm).symm
theorem Writes.le (hR:fe c)(h:Writes c k b blk y'):Le c ⟨c.μ,lN c.S k blk,c.σ.set b (some y'),c.fb⟩:=by
 refine⟨by simp[ap5],fun i d _ hd=> ?_,fun i hz hd=> ?_,fun i d x y _ hd hm hy=> ?_,fun x y hy hn=> ?_,fun x y hy hn=> ?_,Nat.le_refl _,rfl⟩
 ·simp only[h.get]at hd;split at hd
  ·rename_i e;subst e;exact⟨h.dim▸hd,rfl⟩
  ·exact⟨hd,rfl⟩
 ·simp only[h.get];rw[zF];rintro rfl;rw[h.kz]at hz;cases hz
 ·by_cases e:x=b
  ·subst e;obtain⟨y0,_,_,_,h1,_,_,_,h2,_⟩:=h.one;rw[hy]at h1;injection h1 with h1
   subst h1;exact⟨y',by simp[Hp.set],h2⟩
  ·exact⟨y,by simp[Hp.set,e,hy],rfl⟩
 ·have hne:x≠b:=by rintro rfl;exact hn ⟨k,h.kz,h.mu⟩
  simp[Hp.set,hne,hy]
 ·rintro⟨i,h1,h2⟩;simp only[h.get]at h1;split at h1
  ·rename_i e;subst e;exact hn ⟨i,h.kz,h2⟩
  ·exact hn ⟨i,h1,h2⟩
theorem Writes.rel (hR:fe c)(h:Writes c k b blk y'):fe ⟨c.μ,lN c.S k blk,c.σ.set b (some y'),c.fb⟩:=by
 have hle:=h.le hR
 have hfz: ∀i,(bn (lN c.S k blk) i).frozen=false→(bn c.S i).frozen=false:=by
  intro i hi;rw[h.get]at hi;split at hi
  ·rename_i e;subst e;exact h.kz
  ·exact hi
 have hdm: ∀i,(bn (lN c.S k blk) i).dim=(bn c.S i).dim:=by
  intro i;rw[h.get];split
  ·rename_i e;subst e;exact h.dim
  ·rfl
 refine⟨fun x z hz=> ?_,fun i j x hi hj hm hm'=>hR.inj i j x (hfz i hi) (by rw[←hdm];exact hj) hm hm',fun i=> ?_,fun i x hi hm=>hR.fbk i x (by rw[←hdm];exact hi) hm,hR.fbl⟩
 ·simp only[Hp.set]at hz;split at hz
  ·rename_i e;subst e;obtain⟨y,_,_,_,h1,_⟩:=h.one;exact hR.ok _ _ h1
  ·exact hR.ok _ _ hz
 ·by_cases e:i=k
  ·subst e;intro d hd;obtain⟨y,cs,rest,d',h1,h2,h3,h4,h5,h6,h7⟩:=h.one;have hd':(bn c.S i).dim=some d:=by rw[←hdm];exact hd
   rw[hd']at h2;injection h2 with h2
   subst h2;refine⟨(hR.blk i d hd').1, .inr ⟨b,y',cs,rest,h.mu,by simp[Hp.set],h3,fun _=>h4,h6, ?_⟩⟩;simp only[h.get,if_true];exact VRel.frames hle h7
  ·refine(hR.blk i).frame hle (by simp only[h.get,zF e]) (fun _=>rfl) fun x z hd hm hz=> ?_
   have:=h.low hR e hd hm;simp[Hp.set,this,hz]
theorem Writes.calm (hR:fe c)(h:Writes c k b blk y'){d:List Nat}(hd:k∈d):tE d c ⟨c.μ,lN c.S k blk,c.σ.set b (some y'),c.fb⟩:=by
 intro i _ hn hdim;have hne:i≠k:=by rintro rfl;exact hn hd
 simp only[h.get,zF hne];refine⟨hdim,fun x hm=> ?_⟩;have:=h.low hR hne hdim hm;simp[Hp.set,this]
end
end
end Go.V
