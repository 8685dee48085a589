/- A part of the proofs of this claim: what functions of the program answer on an abstract machine, and plain laws. No condition. -/
import Derived.Test.YtbocegmeciaanaaGreatA2
import Derived.IntWalk
import Derived.Below
set_option linter.unusedVariables false
set_option linter.unusedSimpArgs false
set_option linter.unusedSectionVars false
namespace Go.Ab
section
open List renaming mapM_cons → bD, getElem?_eq_getElem → cB
open Result renaming andThen_ok → aB
open Sem renaming run_bind → aD, run_pure → bB
open Go.RowKit
def ca0 (P:Program):List ResultVar→Option (List ARes)
 |[]=>some []
 | .tmp t::r=>(ca0 P r).map (.tmp t:: ·)
 | .cell a t::r=>match aG0 P t,rm P t,ca0 P r with
  |some true,some n,some r=>some (.cellN a n::r)
  |some false,some _,some r=>some (.cell a::r)
  |_,_,_=>none
def cL6 (P:Program)(f:FuncId):Option AFn:=match P.funcs[f]? with
 |some fn=>match fn.body,cP5 P f with
  |some c,true=>match tv P fn.ntmps c,ca0 P fn.results.toList with
   |some ac,some rs=>some ⟨fn.ntmps,rs,ac⟩
   |_,_=>none
  |_,_=>none
 |none=>none
section
variable {P:Program} {T:ja} {B:Base P} {N:Nat} {μ:Mu} {σ:Hp} {w:World} {e:ey}
def cJ2 (tmps:Array Value):ResultVar→Sem Value
 | .tmp t=>pure (tmps.getD t undef)
 | .cell a t=>do loadVar t (←asAddr (tmps.getD a undef))
theorem cT1 (fn:Func)(tmps:Array Value):results fn tmps=(do
  let vs←fn.results.mapM (cJ2 tmps)
  pure (if h:vs.size=1 then vs[0]else .tuple vs)):=rfl
theorem cy6 {tmps:Array Value}(he:ig μ N e tmps)(hR:R B μ σ w): ∀(l:List ResultVar) (rs:List ARes) (vs:List Value),ca0 P l=some rs→bE3 e σ rs=some vs→
  ∃vs',(l.mapM (cJ2 tmps)).run P w= .ok vs' w∧F2 (VR μ) vs vs'
 |[],rs,vs,h,hr=>by
  simp[ca0]at h;subst h;simp[bE3]at hr;subst hr;exact⟨[],by simp, .nil⟩
 | .tmp t::l,rs,vs,h,hr=>by
  simp only[ca0]at h;obtain⟨rs',h1,h⟩:=Option.map_eq_some_iff.1 h;subst h;simp only[bE3]at hr;split at hr
  ·rename_i v vs1 h2 h3;injection hr with hr
   subst hr;simp[bX9]at h2;subst h2;obtain⟨vs',h4,h5⟩:=cy6 he hR l rs' vs1 h1 h3;refine⟨tmps.getD t undef::vs', ?_, .cons (he.2 t) h5⟩;have hF:(cJ2 tmps (.tmp t)).run P w= .ok (tmps.getD t undef) w:=rfl;simp only[bD,aD,bB,aB,hF,h4]
  ·cases hr
 | .cell a t::l,rs,vs,h,hr=>by
  simp only[ca0]at h;have hv:=he.2 a;split at h
  ·rename_i n rs' h1 h2 h3;injection h with h
   subst h;simp only[bE3]at hr;split at hr
   ·rename_i v vs1 h4 h5;injection hr with hr
    subst hr;obtain⟨vs',h6,h7⟩:=cy6 he hR l rs' vs1 h3 h5;simp only[bX9]at h4;split at h4
    ·rename_i b o hb;rw[hb]at hv;obtain⟨g,hg,hq⟩:=hv.ptr_inv;obtain⟨x,hx,h4⟩:=Option.bind_eq_some_iff.1 h4;obtain⟨cs,hcs,rfl⟩:=Option.map_eq_some_iff.1 h4;obtain⟨cs',k1,k2⟩:=hR.reads hx hg hcs;refine⟨.agg cs'.toArray::vs', ?_, .cons (.agg k2) h7⟩
     have hF:(cJ2 tmps (.cell a t)).run P w= .ok (.agg cs'.toArray) w:=by
      simp only[cJ2,aD,hq,asAddr,bB,aB,loadVar,bi4 h1,if_true,tu h2,k1 P w rfl]
     simp only[bD,aD,bB,aB,hF,h6]
    ·cases h4
   ·cases hr
  ·rename_i n rs' h1 h2 h3;injection h with h
   subst h;simp only[bE3]at hr;split at hr
   ·rename_i v vs1 h4 h5;injection hr with hr
    subst hr;obtain⟨vs',h6,h7⟩:=cy6 he hR l rs' vs1 h3 h5;simp only[bX9]at h4;split at h4
    ·rename_i b o hb;rw[hb]at hv;obtain⟨g,hg,hq⟩:=hv.ptr_inv;obtain⟨x,hx,h4⟩:=Option.bind_eq_some_iff.1 h4;obtain⟨v',k1,k2⟩:=(hR.get hx hg.1).cell hg.2 o v h4;refine⟨v'::vs', ?_, .cons k2 h7⟩
     have hF:(cJ2 tmps (.cell a t)).run P w= .ok v' w:=by
      simp only[cJ2,aD,hq,asAddr,bB,aB,loadVar,bi4 h1,Bool.false_eq_true,if_false,run_load,k1]
     simp only[bD,aD,bB,aB,hF,h6]
    ·cases h4
   ·cases hr
  ·cases h
theorem cW7 {f:FuncId}{af:AFn}(h:cL6 P f=some af)(hM:ac0 T)(hT: ∀g,Sim P g (T g)):Sim P f (wpF T af):=by
 unfold cL6 at h;split at h
 ·rename_i fn hfn;split at h
  ·rename_i c hb hen;split at h
   ·rename_i ac rs h1 h2;injection h with h
    subst h;intro B μ σ w args cargs K hw hR ha;obtain⟨hlen,hw⟩:=hw
    have hcall:cm4 P f:=by
     unfold cP5 at hen;rw[hfn]at hen;simp only[Bool.and_eq_true,Bool.not_eq_true']at hen;exact⟨fn,hfn,hen.1,hen.2⟩
    refine⟨hcall,calls_of_wp hfn hb ?_⟩;have hsz:cargs.size=args.length:=by simpa using ha.length.symm
    have henv:ig μ fn.ntmps (ey.of args) (cargs++Array.replicate (fn.ntmps-cargs.size) undef):=by
     refine⟨by simp only[Array.size_append,Array.size_replicate];simp only at hlen;omega,fun t=> ?_⟩;unfold ey.of;by_cases ht:t<args.length
     ·obtain⟨v',h3,h4⟩:=ha.get t args[t] (cB ht)
      have:(cargs++Array.replicate (fn.ntmps-cargs.size) undef).getD t undef=v':=by
       simp only[Array.getD_eq_getD_getElem?];rw[Array.getElem?_append_left (by omega)];have:cargs[t]?=some v':=by simpa using h3
       simp[this]
      rw[this,cB ht];exact h4
     ·have:(cargs++Array.replicate (fn.ntmps-cargs.size) undef).getD t undef=undef:=by
       simp only[Array.getD_eq_getD_getElem?];rw[Array.getElem?_append_right (by omega),Array.getElem?_replicate];split<;>rfl
      rw[this,List.getElem?_eq_none (by omega)];exact VR.undef μ
    refine wp_mono (dv2 hM hT c ac h1 _ _ σ μ ⟨_,[]⟩ w hw hR henv rfl) fun x a' w' hx=> ?_
    obtain⟨ax,e',σ',μ',hxr,hq,g1,g2,g3,g4,g5⟩:=hx
    have fin:(match bE3 e' σ' rs with
      |some vs=>K (aH0 vs) σ'
      |none=>False)→a'.defers=[]∧∃v,(results fn a'.tmps).run P w'= .ok v w'∧dP5 P B μ w K (.returned v) w':=by
     intro hq;refine⟨g4, ?_⟩;split at hq
     ·rename_i vs hvs;obtain⟨vs',k1,k2⟩:=cy6 (P:=P) g3 g2 fn.results.toList rs vs h2 hvs;have hl:=k2.length;refine⟨aH0 vs', ?_,_,σ',_,μ',rfl,hq,g1,g2, ?_,g5,rfl⟩
      ·rw[cT1,Array.mapM_eq_mapM_toList];simp only[aD,Sem.run_map,k1,aB,bB]
       congr 1
       match vs',hl with
       |[],_=>rfl
       |[v],_=>rfl
       |v::u::r,_=>simp[aH0]
      ·match vs,vs',k2 with
       |[],_, .nil=>exact .tuple .nil
       |[v],_, .cons h .nil=>exact h
       |v::u::r,_, .cons h (.cons h' t)=>exact .tuple (.cons h (.cons h' t))
     ·exact hq.elim
    cases ax with
    |normal=>
     cases x<;>simp[aw0]at hxr;exact fin hq
    |exit id=>exact hq.elim
    |ret=>
     cases x<;>simp[aw0]at hxr;exact fin hq
   ·cases h
  ·cases h
 ·cases h
theorem Sim.none (P:Program)(f:FuncId):Sim P f fun _ _ _=>False:=fun _ _ _ _ _ _ _ h=>h.elim
theorem Sim.of {f:FuncId}{S S':bA9}(h:Sim P f S)(hS: ∀args σ K,S' args σ K→S args σ K):Sim P f S':=
 fun B μ σ w args cargs K hk=>h B μ σ w args cargs K (hS args σ K hk)
end
inductive Rn (ν:Nat→Nat)(n:Nat):Value→Value→Prop where
 |bool (b:Bool):Rn ν n (.bool b) (.bool b)
 |int (k:IntKind) (m:Int):Rn ν n (.int k m) (.int k m)
 |string (s:ByteArray):Rn ν n (.string s) (.string s)
 |nilp:Rn ν n (.pointer none) (.pointer none)
 |ptr {b o:Nat}:b<n→Rn ν n (.pointer (some ⟨b,o,none⟩)) (.pointer (some ⟨ν b,o,none⟩))
 |nils:Rn ν n (.slice none 0 0) (.slice none 0 0)
 |slice {b o l c:Nat}:b<n→Rn ν n (.slice (some ⟨b,o,none⟩) l c) (.slice (some ⟨ν b,o,none⟩) l c)
 |nilf:Rn ν n .nilFunc .nilFunc
 |func {f:Fn} {a a' c c':Array Value}:F2 (Rn ν n) a.toList a'.toList→F2 (Rn ν n) c.toList c'.toList→Rn ν n (.func f a c) (.func f a' c')
 |nili:Rn ν n .nilIface .nilIface
 |agg {a a':Array Value}:F2 (Rn ν n) a.toList a'.toList→Rn ν n (.agg a) (.agg a')
 |tuple {a a':Array Value}:F2 (Rn ν n) a.toList a'.toList→Rn ν n (.tuple a) (.tuple a')
theorem Rn.vr {ν:Nat→Nat}{n:Nat}{μ1 μ':Mu}(hμ: ∀b,b<n→μ' b=μ1 (ν b)): ∀{v u:Value},Rn ν n v u→∀{u':Value},VR μ1 u u'→VR μ' v u'
 |_,_, .bool b,_,h=>by cases h;exact .bool b
 |_,_, .int k m,_,h=>by cases h;exact .int k m
 |_,_, .string s,_,h=>by cases h;exact .string s
 |_,_, .nilp,_,h=>by cases h;exact .nilp
 |_,_, .ptr hb,_,h=>by cases h with|ptr h1=>exact .ptr ⟨(hμ _ hb).trans h1.1,h1.2⟩
 |_,_, .nils,_,h=>by cases h;exact .nils
 |_,_, .slice hb,_,h=>by cases h with
  |slice h1 h2 h3 h4=>exact .slice ⟨(hμ _ hb).trans h1.1,h1.2⟩ h2 h3 h4
  |slice0 A' h1=>exact .slice0 _ ⟨(hμ _ hb).trans h1.1,h1.2⟩
 |_,_, .nilf,_,h=>by cases h;exact .nilf
 |_,_, .func h1 h2,_,h=>by cases h with|func k1 k2=>exact .func (go h1 k1) (go h2 k2)
 |_,_, .nili,_,h=>by cases h;exact .nili
 |_,_, .agg h1,_,h=>by cases h with|agg k1=>exact .agg (go h1 k1)
 |_,_, .tuple h1,_,h=>by cases h with|tuple k1=>exact .tuple (go h1 k1)
where
 go {l m:List Value}:F2 (Rn ν n) l m→∀{m':List Value},F2 (VR μ1) m m'→F2 (VR μ') l m'
 | .nil,_,h=>by cases h;exact .nil
 | .cons h1 t1,_,h=>by cases h with|cons k1 k2=>exact .cons (Rn.vr hμ h1 k1) (go t1 k2)
theorem VR.narrow {μ μ1 μ':Mu}(hμ: ∀b g g1,μ b=some g→μ1 b=some g1→μ' b=some g1): ∀{v u:Value},VR μ v u→∀{u':Value},VR μ1 v u'→VR μ' v u'
 |_,_, .bool b,_,h=>by cases h;exact .bool b
 |_,_, .int k m,_,h=>by cases h;exact .int k m
 |_,_, .string s,_,h=>by cases h;exact .string s
 |_,_, .nilp,_,h=>by cases h;exact .nilp
 |_,_, .ptr hb,_,h=>by cases h with|ptr h1=>exact .ptr ⟨hμ _ _ _ hb.1 h1.1,h1.2⟩
 |_,_, .nils,_,h=>by cases h;exact .nils
 |_,_, .slice hb _ _ _,_,h=>by cases h with
  |slice h1 h2 h3 h4=>exact .slice ⟨hμ _ _ _ hb.1 h1.1,h1.2⟩ h2 h3 h4
  |slice0 A' h1=>exact .slice0 _ ⟨hμ _ _ _ hb.1 h1.1,h1.2⟩
 |_,_, .slice0 A' hb,_,h=>by cases h with
  |slice h1 h2 h3 h4=>exact .slice ⟨hμ _ _ _ hb.1 h1.1,h1.2⟩ h2 h3 h4
  |slice0 A' h1=>exact .slice0 _ ⟨hμ _ _ _ hb.1 h1.1,h1.2⟩
 |_,_, .sliceX hb _,_,h=>by cases h with
  |sliceX h1 h2=>exact .sliceX ⟨hμ _ _ _ hb.1 h1.1,h1.2⟩ h2
  |sliceX0 A' h1=>exact .sliceX0 _ ⟨hμ _ _ _ hb.1 h1.1,h1.2⟩
 |_,_, .sliceX0 A' hb,_,h=>by cases h with
  |sliceX h1 h2=>exact .sliceX ⟨hμ _ _ _ hb.1 h1.1,h1.2⟩ h2
  |sliceX0 A' h1=>exact .sliceX0 _ ⟨hμ _ _ _ hb.1 h1.1,h1.2⟩
 |_,_, .nilf,_,h=>by cases h;exact .nilf
 |_,_, .func h1 h2,_,h=>by cases h with|func k1 k2=>exact .func (go h1 k1) (go h2 k2)
 |_,_, .iter hb _,_,h=>by cases h with|iter k1 k2=>exact .iter (hμ _ _ _ hb k1) k2
 |_,_, .nili,_,h=>by cases h;exact .nili
 |_,_, .agg h1,_,h=>by cases h with|agg k1=>exact .agg (go h1 k1)
 |_,_, .tuple h1,_,h=>by cases h with|tuple k1=>exact .tuple (go h1 k1)
where
 go {l m:List Value}:F2 (VR μ) l m→∀{m':List Value},F2 (VR μ1) l m'→F2 (VR μ') l m'
 | .nil,_,h=>by cases h;exact .nil
 | .cons h1 t1,_,h=>by cases h with|cons k1 k2=>exact .cons (VR.narrow hμ h1 k1) (go t1 k2)
end
section
open Nat renaming lt_or_ge → aB, lt_of_lt_of_le → aD
open Go.RowKit
structure Weak (σ0 σ1:Hp)(r:Value)(σ':Hp)(r':Value)(ν:Nat→Nat):Prop where
 n:σ0.n≤σ'.n
 old: ∀b,b<σ0.n→ν b=b
 inj: ∀b b' x x',σ'.m b=some x→σ'.m b'=some x'→b≠b'→ν b≠ν b'
 blk: ∀b x',σ'.m b=some x'→(σ0.m b=some x'∧σ1.m b=some x')∨
  (b<σ'.n∧∃x,σ1.m (ν b)=some x∧x'.es=x.es∧(x'.own=true→x.own=true)∧F2 (Rn ν σ'.n) x'.cells (x.cells.take x'.cells.length))
 res:Rn ν σ'.n r' r
section
variable {P:Program} {f:FuncId} {S S':bA9}
theorem R.weak {P:Program}{B:Base P}{μ μ1:Mu}{σ σ1 σ':Hp}{w w':World}{r r':Value}{ν:Nat→Nat}(hR:R B μ σ w)(hR1:R B μ1 σ1 w')(hμ:μ.le μ1)(h:Weak σ σ1 r σ' r' ν):
  ∃μ',μ.le μ'∧R B μ' σ' w'∧∀rc,VR μ1 r rc→VR μ' r' rc:=by
 have hdom: ∀b g,μ b=some g→b<σ.n:=fun b g hb=>by
  rcases aB b σ.n with h1|h1
  ·exact h1
  ·rw[hR.fresh b h1]at hb;cases hb
 have hin: ∀b,b<σ'.n→(fun b=>if b<σ'.n then μ1 (ν b)else none) b=μ1 (ν b):=fun b hb=>xB hb
 have hlt0: ∀b x,σ.m b=some x→b<σ.n:=fun b x hx=>by
  obtain⟨g,hg,_⟩:=hR.live b x hx;exact hdom b g hg
 have hnar: ∀b g g1,μ b=some g→μ1 b=some g1→(fun b=>if b<σ'.n then μ1 (ν b)else none) b=some g1:=by
  intro b g g1 hb hb1;have h1:=hdom b g hb;rw[hin b (aD h1 h.n),h.old b h1];exact hb1
 refine⟨fun b=>if b<σ'.n then μ1 (ν b)else none,fun b g hb=> ?_,⟨hR1.base,hR1.old,fun b hb=>xD (by omega),fun b x' hx'=> ?_,fun b b' x x' g g' hx hx' hne ho hg hg'=> ?_, ?_⟩,fun rc hrc=>h.res.vr hin hrc⟩
 ·exact hnar b g g hb (hμ b g hb)
 ·rcases h.blk b x' hx' with⟨h1,h2⟩|⟨h1,x,h2,h3,h4,h5⟩
  ·obtain⟨g,hg,hl⟩:=hR1.live b x' h2;obtain⟨g0,hg0,hl0⟩:=hR.live b x' h1;have hgg:g=g0:=by have:=hμ b g0 hg0;rw[hg]at this;exact Option.some.inj this
   refine⟨g,hnar b g0 g hg0 hg,hl.lt,hl.es,fun h0 i v hv=> ?_,hl.own,hl.iter,hl.bld⟩;obtain⟨u,hu,hvu⟩:=hl.cell h0 i v hv;obtain⟨u0,_,hvu0⟩:=hl0.cell (hgg▸h0) i v hv;exact⟨u,hu,hvu0.narrow hnar hvu⟩
  ·obtain⟨g,hg,hl⟩:=hR1.live (ν b) x h2
   have hlen:x'.cells.length≤x.cells.length:=by
    have:=h5.length;rw[List.length_take]at this;omega
   refine⟨g,by simp only[xB h1];exact hg,hl.lt,hl.es.trans h3.symm,fun h0 i v hv=> ?_,fun h0 ho=> ?_,fun s hs=> ?_,fun hs=> ?_⟩
   ·obtain⟨u,hu,hvu⟩:=h5.get i v hv
    have hi:i<x'.cells.length:=by
     rcases aB i x'.cells.length with h6|h6
     ·exact h6
     ·rw[List.getElem?_eq_none h6]at hv;cases hv
    rw[List.getElem?_take,xB hi]at hu;obtain⟨u',hu',huu⟩:=hl.cell h0 i u hu;exact⟨u',hu',hvu.vr hin huu⟩
   ·obtain⟨k1,k2,k3⟩:=hl.own h0 (h4 ho);exact⟨k1,by omega,k3⟩
   ·obtain⟨k1,p,k2,k3⟩:=hl.iter s hs;refine⟨k1,p, ?_,k3⟩;rw[k2]at h5;have hl5:=h5.length;cases hx':x'.cells with
    |nil=>rfl
    |cons v r=>
     rw[hx']at h5 hl5;cases hc:x.cells.length with
     |zero=>rw[hc]at h5;simp at h5;cases h5
     |succ n=>
      rw[hc]at h5;simp at h5;cases h5 with
      |cons h6 h7=>
       cases h7;cases h6;simp
   ·obtain⟨k1,p,s,k0,k2,k3⟩:=hl.bld hs;refine⟨k1,p,s,k0, ?_,k3⟩;rw[k2]at h5;have hl5:=h5.length;cases hx':x'.cells with
    |nil=>rfl
    |cons v r=>
     rw[hx']at h5 hl5;cases hc:x.cells.length with
     |zero=>rw[hc]at h5;simp at h5;cases h5
     |succ n=>
      rw[hc]at h5;simp at h5;cases h5 with
      |cons h6 h7=>
       cases h7;cases h6;simp
 ·have key: ∀b x,σ'.m b=some x→∃y,σ1.m (ν b)=some y∧(x.own=true→y.own=true)∧b<σ'.n:=by
   intro b x hx;rcases h.blk b x hx with⟨h1,h2⟩|⟨h1,y,h2,_,h4,_⟩
   ·have hb:=hlt0 b x h1;exact⟨x,by rw[h.old b hb];exact h2,id,aD hb h.n⟩
   ·exact⟨y,h2,h4,h1⟩
  obtain⟨y,hy,hyo,hb⟩:=key b x hx;obtain⟨y',hy',_,hb'⟩:=key b' x' hx';simp only[xB hb]at hg;simp only[xB hb']at hg';exact hR1.inj (ν b) (ν b') y y' g g' hy hy' (h.inj b b' x x' hx hx' hne) (hyo ho) hg hg'
 ·have key: ∀b x g,σ'.m b=some x→(fun b=>if b<σ'.n then μ1 (ν b)else none) b=some g→∃y,σ1.m (ν b)=some y∧μ1 (ν b)=some g:=by
   intro b x g hx hg
   have hb:b<σ'.n:=by
    rcases aB b σ'.n with h|h
    ·exact h
    ·simp only[xD (show¬b<σ'.n by omega)]at hg;cases hg
   simp only[xB hb]at hg;rcases h.blk b x hx with⟨h1,h2⟩|⟨_,y,h2,_⟩
   ·exact⟨x,by rw[h.old b (hlt0 b x h1)];exact h2,hg⟩
   ·exact⟨y,h2,hg⟩
  intro b x g hx hg hi k hk b' x' g' hx' hg';obtain⟨y,h1,h2⟩:=key b x g hx hg;obtain⟨y',h3,h4⟩:=key b' x' g' hx' hg';obtain⟨m1,m2⟩:=hR1.sep (ν b) y g h1 h2 hi k hk (ν b') y' g' h3 h4;exact⟨m1,fun hne=>m2 (h.inj b' b x' x hx' hx hne)⟩
theorem Sim.weak (h:Sim P f S)(hS: ∀args σ K,S' args σ K→S args σ fun r1 σ1=> ∃ν σ' r',Weak σ σ1 r1 σ' r' ν∧K r' σ'):Sim P f S':=by
 intro B μ σ w args cargs K hk hR ha;obtain⟨hc,hcalls⟩:=h B μ σ w args cargs _ (hS args σ K hk) hR ha;refine⟨hc,hcalls.mono fun x w' hx=> ?_⟩;obtain⟨r1,σ1,rc,μ1,rfl,⟨ν,σ',r',hw,hK⟩,h1,h2,h3,h4,_⟩:=hx;obtain⟨μ',k1,k2,k3⟩:=hR.weak h2 h1 hw;exact⟨r',σ',rc,μ',rfl,hK,k1,k2,k3 rc h3,h4,rfl⟩
end
def Ext (σ σ1:Hp):Prop:=σ.n≤σ1.n∧∀b,b<σ.n→σ1.m b=σ.m b
theorem Ext.refl (σ:Hp):Ext σ σ:=⟨Nat.le_refl _,fun _ _=>rfl⟩
theorem Ext.trans {a b c:Hp}(h:Ext a b)(k:Ext b c):Ext a c:=⟨Nat.le_trans h.1 k.1,fun x hx=>(k.2 x (aD hx h.1)).trans (h.2 x hx)⟩
theorem Ext.add {σ σ1:Hp}(h:Ext σ σ1)(x:Blk):Ext σ (σ1.add x):=by
 refine⟨Nat.le_succ_of_le h.1,fun b hb=> ?_⟩;have:b≠σ1.n:=by have:=h.1;omega
 simp only[Hp.add,xD this];exact h.2 b hb
theorem Ext.set {σ σ1:Hp}(h:Ext σ σ1){b:Nat}(hb:σ.n≤b)(x:Option Blk):Ext σ (σ1.set b x):=by
 refine⟨h.1,fun b' hb'=> ?_⟩;have:b'≠b:=by omega
 simp only[Hp.set,xD this];exact h.2 b' hb'
def Hp.Ok (σ:Hp):Prop:= ∀b x,σ.m b=some x→b<σ.n
def Fin (σ:Hp)(K:Value→Hp→Prop)(r1:Value)(σ1:Hp):Prop:= ∃ν σ' r',Weak σ σ1 r1 σ' r' ν∧K r' σ'
section
variable {P:Program} {f:FuncId} {S S':bA9} {σ σ1:Hp} {K:Value→Hp→Prop}
theorem Sim.lt (h:Sim P f fun args σ K=>σ.Ok∧S args σ K):Sim P f S:=by
 intro B μ σ w args cargs K hk hR ha;refine h B μ σ w args cargs K ⟨fun b x hx=> ?_,hk⟩ hR ha;obtain⟨g,hg,_⟩:=hR.live b x hx;rcases aB b σ.n with h1|h1
 ·exact h1
 ·rw[hR.fresh b h1]at hg;cases hg
theorem Sim.fin (h:Sim P f S)(hS: ∀args σ K,σ.Ok→S' args σ K→S args σ (Fin σ K)):Sim P f S':=
 Sim.lt (Sim.weak h fun args σ K ⟨hlt,hk⟩=>hS args σ K hlt hk)
theorem Fin.plain {r:Value}(h:Ext σ σ1)(hlt:σ.Ok)(hr:Rn id σ.n r r)(hK:K r σ):Fin σ K r σ1:=
 ⟨id,σ,r,⟨Nat.le_refl _,fun _ _=>rfl,fun _ _ _ _ _ _ hne=>hne,fun b x' hx'=> .inl ⟨hx',(h.2 b (hlt b x' hx')).trans hx'⟩,hr⟩,hK⟩
theorem Fin.all {r:Value}(hn:σ.n≤σ1.n)(h1:σ1.Ok)(hr:Rn id σ1.n r r)(hc: ∀b x,σ1.m b=some x→F2 (Rn id σ1.n) x.cells x.cells)(hK:K r σ1):Fin σ K r σ1:=
 ⟨id,σ1,r,⟨hn,fun _ _=>rfl,fun _ _ _ _ _ _ hne=>hne,fun b x' hx'=> .inr ⟨h1 b x' hx',x',hx',rfl,id,by rw[List.take_length];exact hc b x' hx'⟩,hr⟩,hK⟩
theorem Fin.new1 {r r':Value}{b:Nat}{x x':Blk}(h:Ext σ σ1)(hlt:σ.Ok)(hb:σ.n≤b)(hx:σ1.m b=some x)(he:x'.es=x.es)(ho:x'.own=true→x.own=true)(hc:F2 (Rn (fun i=>if i=σ.n then b else i) (σ.n+1)) x'.cells (x.cells.take x'.cells.length))
  (hr:Rn (fun i=>if i=σ.n then b else i) (σ.n+1) r' r) (hK:K r' (σ.add x')):Fin σ K r σ1:=by
 refine⟨fun i=>if i=σ.n then b else i,σ.add x',r',⟨Nat.le_succ _,fun i hi=>xD (by omega),fun i i' y y' hy hy' hne=> ?_,fun i y hy=> ?_,hr⟩,hK⟩
 ·have hold: ∀i y,(σ.add x').m i=some y→i≠σ.n→i<σ.n:=by
   intro i y hy hi;simp only[Hp.add,xD hi]at hy;exact hlt i y hy
  by_cases h1:i=σ.n
  ·have h2:i'≠σ.n:=fun e=>hne (h1.trans e.symm)
   have:=hold i' y' hy' h2;simp only[xB h1,xD h2];omega
  ·have:=hold i y hy h1;by_cases h2:i'=σ.n
   ·simp only[xD h1,xB h2];omega
   ·simp only[xD h1,xD h2];exact hne
 ·by_cases h1:i=σ.n
  ·subst h1;simp only[Hp.add,xB trivial]at hy;injection hy with hy
   subst hy;exact .inr ⟨Nat.lt_succ_self _,x,by simp only[xB trivial];exact hx,he,ho,hc⟩
  ·simp only[Hp.add,xD h1]at hy;exact .inl ⟨hy,(h.2 i (hlt i y hy)).trans hy⟩
end
section
variable {T:ja}
end
abbrev gw :=List Value→Hp→Value→Hp→Prop
def sp (S:gw):bA9:=fun args σ K=> ∃r σ',S args σ r σ'∧K r σ'
abbrev cN9 :=FuncId→gw
def sps (U:cN9):ja:=fun f=>sp (U f)
def cC6 (P:Program)(U:cN9):Prop:= ∀f,Sim P f (sps U f)
def cN9.put (U:cN9)(f:FuncId)(S:gw):cN9:=fun g=>if g=f then S else U g
def dM4 :cN9:=fun _ _ _ _ _=>False
theorem cC6.none (P:Program):cC6 P dM4:=fun f B μ σ w args cargs K h=>by
 obtain⟨_,_,h,_⟩:=h;exact h.elim
theorem cC6.put {P:Program}{U:cN9}(h:cC6 P U){f:FuncId}{S:gw}(hS:Sim P f (sp S)):cC6 P (U.put f S):=by
 intro g;show Sim P g (sp (if g=f then S else U g));by_cases e:g=f
 ·subst e;rw[xB rfl];exact hS
 ·rw[xD e];exact h g
end
section
section
variable {T:ja} {Q:AExit→ey→Hp→Prop} {q:ey→Hp→Prop} {e:ey} {σ σ':Hp} {a b:AC} {k:Value→Hp→Prop} {v:Value} {K:Value→Hp→Prop}
theorem cx8 {d t:Nat}(h:t≠d):(e.put d v) t=e t:=xD h
def Hp.load (σ:Hp):Value→Option Value
 | .pointer (some ⟨b,o,none⟩)=>match σ.m b with
  |some x=>x.cells[o]?
  |none=>none
 |_=>none
def Hp.loadN (σ:Hp)(n:Nat):Value→Option Value
 | .pointer (some ⟨b,o,none⟩)=>match σ.m b with
  |some x=>(w8 x o n).map fun cs=> .agg cs.toArray
  |none=>none
 |_=>none
theorem run_load {x:Operand}:(AOp.load x).run e σ=(σ.load (e.ev x)).map fun v=>(v,σ):=by
 simp only[AOp.run];generalize e.ev x=v;cases v<;>try rfl
 rename_i p;rcases p with _|⟨b,o,sp⟩
 ·rfl
 ·cases sp with
  |some s=>rfl
  |none=>
   simp only[Hp.load];cases σ.m b<;>rfl
def Hp.store (σ:Hp)(n:Nat)(a x:Value):Option Hp:=match a with
 | .pointer (some ⟨b,o,none⟩)=>if(cellsOf x).length=n then(match σ.m b with
  |some blk=>(ar9 blk o (cellsOf x)).map fun y=>σ.set b (some y)
  |none=>none)else none
 |_=>none
theorem run_store {n:Nat}{x y:Operand}:(AOp.store n x y).run e σ=(σ.store n (e.ev x) (e.ev y)).map fun σ'=>(undef,σ'):=by
 simp only[AOp.run];generalize e.ev x=v;cases v<;>try rfl
 rename_i p;rcases p with _|⟨b,o,sp⟩
 ·rfl
 ·cases sp with
  |some s=>rfl
  |none=>
   simp only[Hp.store];by_cases h:(cellsOf (e.ev y)).length=n
   ·simp only[h,if_true];cases σ.m b with
    |none=>rfl
    |some blk=>
     simp only;cases ar9 blk o (cellsOf (e.ev y))<;>rfl
   ·simp only[h,if_false];rfl
def lenS :Value→Option Value
 | .slice _ n _=>some (.int .i64 n)
 |_=>none
end
end
section
def dz6 :ja:=fun _ _ _ _=>False
def ja.put (T:ja)(f:FuncId)(s:bA9):ja:=fun g=>if g=f then s else T g
def bF9 (s:bA9):Prop:= ∀args σ (K K':Value→Hp→Prop),(∀r σ',K r σ'→K' r σ')→s args σ K→s args σ K'
structure Known (P:Program)(T:ja):Prop where
 mono:ac0 T
 sim: ∀f,Sim P f (T f)
theorem Known.none (P:Program):Known P dz6:=⟨fun _ _ _ _ _ _ h=>h,fun f=>Sim.none P f⟩
theorem Known.put {P:Program}{T:ja}(h:Known P T){f:FuncId}{s:bA9}(hm:bF9 s)(hs:Sim P f s):Known P (T.put f s):=by
 constructor
 ·intro g args σ K K' hk hg;simp only[ja.put]at hg⊢;split
  ·rename_i he;rw[xB he]at hg;exact hm _ _ _ _ hk hg
  ·rename_i he;rw[xD he]at hg;exact h.mono _ _ _ _ _ hk hg
 ·intro g;show Sim P g (if g=f then s else T g);by_cases e:g=f
  ·subst e;rw[xB rfl];exact hs
  ·rw[xD e];exact h.sim g
theorem bF9.sp (S:gw):bF9 (sp S):=fun _ _ _ _ hk ⟨r,σ',h1,h2⟩=>⟨r,σ',h1,hk r σ' h2⟩
theorem bF9.wpF {T:ja}(hT:ac0 T)(a:AFn):bF9 (wpF T a):=by
 intro args σ K K' hk h;refine⟨h.1,jc hT _ _ _ (fun x e s hx=> ?_) _ _ h.2⟩;cases x with
 |exit id=>exact hx
 |normal=>
  simp only at hx⊢;split at hx
  ·exact hk _ _ hx
  ·exact hx
 |ret=>
  simp only at hx⊢;split at hx
  ·exact hk _ _ hx
  ·exact hx
theorem Known.fn {P:Program}{T:ja}(h:Known P T){f:FuncId}{af:AFn}(ht:cL6 P f=some af):Sim P f (wpF T af):=cW7 ht h.mono h.sim
theorem Known.rel {P:Program}{T:ja}(hU:Known P T){f:FuncId}{af:AFn}{S:gw}(h:cL6 P f=some af)
  (hS: ∀args σ r σ',σ.Ok→S args σ r σ'→wpF T af args σ (Fin σ fun r1 σ1=>r1=r∧σ1=σ')):Sim P f (sp S):=by
 refine Sim.fin (hU.fn h) fun args σ K hlt hk=> ?_
 obtain⟨r,σ',h1,h2⟩:=hk;refine bF9.wpF hU.mono af _ _ _ _ ?_ (hS args σ r σ' hlt h1);rintro r1 σ1 ⟨ν,s',r',hw,rfl,rfl⟩;exact⟨ν,s',r',hw,h2⟩
section
variable {T:ja} {Q:AExit→ey→Hp→Prop} {e:ey} {σ:Hp} {b:AC} {I:ey→Hp→Prop} {m:ey→Hp→Nat} {e0:ey} {σ0:Hp}
end
section
variable {k:IntKind} {a b:Int}
end
section
variable {a b c d:Value} {l:List Value}
end
section
variable {σ:Hp} {x y:Blk} {i b o:Nat} {z:Option Blk}
theorem set_set {z':Option Blk}:(σ.set b z).set b z'=σ.set b z':=by
 simp only[Hp.set,Hp.mk.injEq,and_true]
 funext i
 split<;>rfl
end
section
variable {e:ey} {σ:Hp} {rs:List ARes} {t n b o:Nat}
def two (v:Option Value)(vs:Option (List Value)):Option (List Value):=match v,vs with
 |some v,some vs=>some (v::vs)
 |_,_=>none
end
section
variable {T:ja} {e:ey} {σ:Hp} {k:Value→Hp→Prop} {q:ey→Hp→Prop}
def dz8 (n:Nat):Value→Option Value
 | .pointer (some ⟨b,o,none⟩)=>some (.pointer (some ⟨b,o+n,none⟩))
 |_=>none
def dx7 (es:Nat)(k:Value→Hp→Prop)(σ:Hp):Value→Value→Prop
 | .slice (some ⟨b,o,none⟩) n _, .int _ j=>(0≤j∧j<n)∧k (.pointer (some ⟨b,o+j.toNat*es,none⟩)) σ
 |_,_=>False
def cX1 (ln es:Nat)(k:Value→Hp→Prop)(σ:Hp):Value→Value→Prop
 | .pointer (some ⟨b,o,none⟩), .int _ j=>(0≤j∧j<ln)∧k (.pointer (some ⟨b,o+j.toNat*es,none⟩)) σ
 |_,_=>False
def fieldV (fo n:Nat)(agg:Bool):Value→Option Value
 | .agg cs=>if agg=true then some (.agg (cs.extract fo (fo+n)))else cs[fo]?
 |_=>none
end
section
variable {T:ja} {q:ey→Hp→Prop} {r:List SItem} {e:ey} {σ:Hp} {i:Nat} {d:Option Nat} {kp:Bool} {is:List Nat} {chk:List (Nat×(Hp→Prop))}
end
end
section
def e0 :ey:=fun _=>undef
section
variable {T:ja} {e:ey} {σ:Hp} {k:Value→Hp→Prop}
end
section
variable {σ:Hp} {x:Blk} {i b:Nat} {z:Option Blk}
end
end
section
open IntKind renaming bits → bB, max → bD, min → cB, signed → cD
open List renaming getElem?_eq_none → aB, getElem?_eq_getElem → dB
open Nat renaming lt_or_ge → aD
open Option renaming map_some → dD
open Go.RowKit (Below)
structure Row where
 c:Nat
 o:Nat
 ext:Nat
 es:Nat
 cells:List Value
def db0 (P:Program)(w:World):Prop:=P.globalNamed "internal/strconv.uint64pow10" ≠none→Lib.TabIs P w "internal/strconv.uint64pow10" .u64 Lib.pow10Tab
def Base.of {P:Program}(w:World)(hT:db0 P w):Base P:=⟨w.heap.size,fun b=>w.heap[b]?,fun w' _ hh hne=>by
 have h:=hT hne;unfold Lib.TabIs World.var? at h⊢;cases hg:P.globalNamed "internal/strconv.uint64pow10" with
 |none=>exact(hne hg).elim
 |some g=>
  simp only[hg,wA]at h⊢
  have hlt:g<w.heap.size:=by
   rcases aD g w.heap.size with h'|h'
   ·exact h'
   ·rw[Array.getElem?_eq_none h']at h;cases h
  rw[hh g hlt]
  exact h⟩
def uu (rows:List Row):Mu:=fun i=>(rows[i]?).map fun r=>⟨r.c,r.o,r.ext,r.es,0,none⟩
def tt (size:Nat)(rows:List Row):Hp:={m:=fun i=>(rows[i]?).bind fun r=>if r.c<size then some ⟨r.cells,false,r.es⟩else none,n:=rows.length}
theorem dN2 {P:Program}{w:World}(hT:db0 P w){rows:List Row}(h: ∀r∈rows,∀(i:Nat) (v:Value),r.cells[i]?=some v→∃v',w.cell? ⟨r.c,r.o+i,none⟩=some v'∧VR (uu rows) v v'):
  R (Base.of w hT) (uu rows) (tt w.heap.size rows) w:=by
 refine⟨Nat.le_refl _,fun _ _=>rfl,fun b hb=> ?_,fun b x hx=> ?_,fun b b' x x' g g' hx _ _ ho=> ?_,fun b x g _ hg hi _ _=>(by
  simp only[uu]at hg;cases hr:rows[b]? with
  |none=>rw[hr]at hg;cases hg
  |some r=>rw[hr]at hg;injection hg with hg;subst hg;cases hi)⟩
 ·simp only[uu,aB hb,Option.map_none]
 ·simp only[tt]at hx;cases hr:rows[b]? with
  |none=>rw[hr]at hx;cases hx
  |some r=>
   rw[hr,wA]at hx;split at hx
   ·rename_i hlt;injection hx with hx
    subst hx;refine⟨⟨r.c,r.o,r.ext,r.es,0,none⟩,by simp only[uu,hr,dD],hlt,rfl,fun _ i v hv=>h r (List.mem_of_getElem? hr) i v hv,fun _ ho=>(by cases ho),fun _ hs=>(by cases hs),fun hs=>by cases hs⟩
   ·cases hx
 ·simp only[tt]at hx;cases hr:rows[b]? with
  |none=>rw[hr]at hx;cases hx
  |some r=>
   rw[hr,wA]at hx;split at hx
   ·injection hx with hx
    subst hx;cases ho
   ·cases hx
theorem dC0 {size:Nat}{rows:List Row}:(tt size rows).Ok:=by
 intro b x hx;rcases aD b rows.length with h|h
 ·exact h
 ·simp only[tt,aB h,Option.bind_none]at hx;cases hx
theorem dL8 {P:Program}{f:FuncId}{S:bA9}(hs:Sim P f S){w:World}(hT:db0 P w){rows:List Row}{args:List Value}{cargs:Array Value}
  (hrows: ∀r∈rows,∀(i:Nat) (v:Value),r.cells[i]?=some v→∃v',w.cell? ⟨r.c,r.o+i,none⟩=some v'∧VR (uu rows) v v')
  (hargs:F2 (VR (uu rows)) args cargs.toList) (h:S args (tt w.heap.size rows) fun r _=>r= .bool true):
  Calls P f cargs w fun e w'=>e= .returned (.bool true)∧Below w.heap.size w w':=by
 refine(hs _ _ _ w args cargs _ h (dN2 hT hrows) hargs).2.mono fun x w' hx=> ?_
 obtain⟨r,σ',r',μ',rfl,rfl,_,_,hr,hb,_⟩:=hx;cases hr;exact⟨rfl,hb⟩
def Sl (k:IntKind)(σ:Hp)(v:Value)(l:List Int):Prop:=
 (v= .slice none 0 0∧l=[])∨∃b c rest,v= .slice (some ⟨b,0,none⟩) l.length c∧l.length≤c∧c≤maxLen∧b<σ.n∧(l≠[]→σ.m b=some ⟨(l++rest).map (.int k),false,1⟩)
def bF8 (k:IntKind)(w:World)(a:Option Addr)(len cap:Nat)(zs:List Int):Prop:=
 (a=none∧len=0∧cap=0∧zs=[])∨
 ∃x,a=some x∧len≤cap∧cap≤maxLen∧zs.length=cap∧(∀i,i<zs.length→w.cell? (x.add i)=some (.int k (zs.getD i 0)))∧∀n∈zs,(Lit.int k n).wf=true
def by3 (k:IntKind)(a:Option Addr)(cap:Nat)(zs:List Int):Row:=match a with
 |some x=>⟨x.block,x.off,cap,1,zs.map (.int k)⟩
 |none=>⟨0,0,0,1,[]⟩
def dr4 (k:Nat)(a:Option Addr)(len cap:Nat):Value:=match a with
 |some _=> .slice (some ⟨k,0,none⟩) len cap
 |none=> .slice none 0 0
section
variable {k:IntKind} {w:World} {a:Option Addr} {len cap:Nat} {zs:List Int} {rows:List Row} {j:Nat}
theorem cu8 {x:Addr}{v:Value}(h:w.cell? x=some v):x.block<w.heap.size:=by
 unfold World.cell? at h;split at h
 ·rename_i hb;exact(Array.getElem?_eq_some_iff.1 hb).1
 ·cases h
theorem bi6 {x:Addr}{v:Value}(h:w.cell? (x.add 0)=some v):x.spot=none:=by
 have:=World.cell?_spot h;simpa[Addr.add]using this
theorem aA9 {x:Addr}{i:Nat}{v:Value}(hs:x.spot=none)(h:w.cell? (x.add i)=some v):w.cell? ⟨x.block,x.off+i,none⟩=some v:=by
 obtain⟨b,o,s⟩:=x;simp only at hs;subst hs
 have:(⟨b,o,none⟩:Addr).add i=⟨b,o+i,none⟩:=by
  simp only[Addr.add];split
  ·rename_i h0;subst h0;rfl
  ·rfl
 rwa [this]at h
theorem bF8.cells (h:bF8 k w a len cap zs){i:Nat}{v:Value}(hv:(by3 k a cap zs).cells[i]?=some v):
  ∃v',w.cell? ⟨(by3 k a cap zs).c,(by3 k a cap zs).o+i,none⟩=some v'∧VR (uu rows) v v':=by
 rcases h with⟨rfl,rfl,rfl,rfl⟩|⟨x,rfl,hl,hm,hz,hc,hw⟩
 ·simp[by3]at hv
 ·simp only[by3]at hv⊢;simp only[List.getElem?_map]at hv
  have hi:i<zs.length:=by
   rcases aD i zs.length with h|h
   ·exact h
   ·rw[aB h]at hv;cases hv
  rw[dB hi,dD]at hv;injection hv with hv
  subst hv;refine⟨_,aA9 (bi6 (hc 0 (by omega))) (hc i hi), ?_⟩;have:zs.getD i 0=zs[i]:=by simp[List.getD,dB hi]
  rw[this];exact .int _ _
theorem bF8.sl (h:bF8 k w a len cap zs)(hr:rows[j]?=some (by3 k a cap zs)):Sl k (tt w.heap.size rows) (dr4 j a len cap) (zs.take len):=by
 rcases h with⟨rfl,rfl,rfl,rfl⟩|⟨x,rfl,hl,hm,hz,hc,hw⟩
 ·exact .inl ⟨rfl,by simp⟩
 ·have hlen:(zs.take len).length=len:=by rw[List.length_take];omega
  refine .inr ⟨j,cap,zs.drop len,by rw[hlen];rfl,by omega,hm, ?_,fun hne=> ?_⟩
  ·rcases aD j rows.length with h|h
   ·exact h
   ·rw[aB h]at hr;cases hr
  ·have hz0:0<zs.length:=by
    rcases Nat.eq_zero_or_pos zs.length with h|h
    ·rw[List.length_eq_zero_iff]at h;subst h;simp at hne
    ·exact h
   have hlt:x.block<w.heap.size:=cu8 (x:=⟨x.block,x.off+0,none⟩) (aA9 (bi6 (hc 0 hz0)) (hc 0 hz0));simp only[tt,hr,wA,by3,xB hlt,List.take_append_drop]
theorem bF8.wf (h:bF8 k w a len cap zs): ∀n∈zs.take len,(Lit.int k n).wf=true:=by
 rcases h with⟨rfl,rfl,rfl,rfl⟩|⟨x,rfl,hl,hm,hz,hc,hw⟩
 ·simp
 ·exact fun n hn=>hw n (List.mem_of_mem_take hn)
end
theorem dO3 {n:Int}(h:(Lit.int .i64 n).wf=true): -9223372036854775808≤n∧n≤9223372036854775807:=by
 simpa[Lit.wf,cB,bD,cD,bB]using h
theorem dO4 {n:Int}(h:(Lit.int .u64 n).wf=true):0≤n∧n≤18446744073709551615:=by
 simpa[Lit.wf,cB,bD,cD,bB]using h
theorem dW6 {n:Int}(h:(Lit.int .u8 n).wf=true):0≤n∧n≤255:=by
 simpa[Lit.wf,cB,bD,cD,bB]using h
end
end Go.Ab
namespace Go.V
open Go.Ab
open Option renaming some->C,none->O
open Bool renaming true->Za,false->Zb
open Decidable renaming decide->Zc
section
open List renaming replicate -> bD
open Nat renaming beq -> aB, ble -> aD
open Option renaming none -> bB
inductive Sh where
 |int (k:IntKind)
 |bool
 |str
 |list (s:Sh)
 |pair (a b:Sh)
 deriving DecidableEq
@[reducible] def El :Sh->Type
 | .int _=>Int
 | .bool=>Bool
 | .str=>Zd
 | .list s=>List (El s)
 | .pair a b=>El a×El b
def Sh.w :Sh->Nat
 | .pair a b=>a.w+b.w
 |_=>1
inductive VV where
 |undef
 |bool (b:Bool)
 |int (k:IntKind) (n:Int)
 |str (l:Zd)
 |nilp
 |nils
 |nilf
 |ptr (k o:Nat)
 |pix (k o n i:Nat)
 |pel (k i o:Nat)
 |pin (s:Sh) (x:El s) (o:Nat)
 |lst (s:Sh) (l:List (El s))
 |tgt (s:Sh) (l:List (El s))
 |full (k:Nat)
 |part (k lo n:Nat)
 |it (k:Nat) (l:Zd)
 |bld (k:Nat)
 |fn (f:Nat) (a c:List VV)
 |agg (l:List VV)
 |tup (l:List VV)
inductive Blk where
 |dead
 |cells (es:Nat) (fz:Bool) (l:List VV)
 |arr (s:Sh) (fz:Bool) (l:List (El s))
abbrev ci :=List Blk
abbrev gf :=List VV
def tq :gf->Nat->VV
 |[],_=> .undef
 |v::_,0=>v
 |_::r,n+1=>tq r n
def ya :gf->Nat->VV->gf
 |[],0,v=>[v]
 |[],n+1,v=> .undef::ya [] n v
 |_::r,0,v=>v::r
 |a::r,n+1,v=>a::ya r n v
def putO (e:gf)(d:Option Nat)(v:VV):gf:=match d with
 |some d=>ya e d v
 |none=>e
def cc :ci->Nat->Blk
 |[],_=> .dead
 |b::_,0=>b
 |_::r,n+1=>cc r n
def ql :ci->Nat->Blk->ci
 |[],_,_=>[]
 |_::r,0,b=>b::r
 |a::r,n+1,b=>a::ql r n b
def nth {α:Type}:List α->Nat->Option α
 |[],_=>O
 |v::_,0=>C v
 |_::r,n+1=>nth r n
def fp (s:ByteArray):Zd:=s.data.toList.map λb=>(b.toNat:Int)
def bL5 :Value->VV
 | .bool b=> .bool b
 | .int k n=> .int k n
 | .string s=> .str (fp s)
 | .pointer O=> .nilp
 | .slice O 0 0=> .nils
 | .nilFunc=> .nilf
 |_=> .undef
def ofC :Value->VV
 | .agg cs=> .agg (cs.toList.map bL5)
 |v=>bL5 v
def ev (e:gf):Operand->VV
 | .tmp t=>tq e t
 | .const v=>ofC v
 | .func f=> .fn f [] []
 | .global _=> .undef
def dB1 :VV->Bool
 | .undef| .agg _| .tup _=>Zb
 |_=>Za
def uq :VV->List VV
 | .agg l=>l
 |v=>[v]
def gk :(s:Sh)->El s->List VV
 | .int k,n=>[.int k n]
 | .bool,b=>[.bool b]
 | .str,l=>[.str l]
 | .list s,l=>[.lst s l]
 | .pair a b,x=>gk a x.1++gk b x.2
def io (s:Sh)(l:List (El s)):List VV:=l.flatMap (gk s)
def rk (s' s:Sh)(x:El s'):Option (El s):=if h:s'=s then C (h▸x)else O
def bH1 {α:Type}(f:List VV->Option (α×List VV)):Nat->List VV->Option (List α)
 |_,[]=>C []
 |0,_::_=>O
 |n+1,v::l=>(f (v::l)).bind λp=>(bH1 f n p.2).bind λr=>C (p.1::r)
def Blk.frozen :Blk->Bool
 | .dead=>Za
 | .cells _ z _=>z
 | .arr _ z _=>z
def av9 (s:Sh)(f:List VV->Option (El s×List VV)):Blk->Option (List (El s))
 | .dead=>O
 | .arr s' _ l=>rk (.list s') (.list s) l
 | .cells es _ l=>bif aB es s.w then bH1 f l.length l else O
def be0 (S:ci)(s:Sh)(f:List VV->Option (El s×List VV)):VV->Option (List (El s))
 | .nils=>C []
 | .lst s' l=>rk (.list s') (.list s) l
 | .full k=>av9 s f (cc S k)
 | .part k lo n=>(av9 s f (cc S k)).bind λl=>C ((l.drop lo).take n)
 |_=>O
def cw8 (S:ci)(s:Sh)(f:List VV->Option (El s×List VV)):VV->Option (List (El s))
 | .full k=>bif (cc S k).frozen then be0 S s f (.full k)else O
 | .part k lo n=>bif (cc S k).frozen then be0 S s f (.part k lo n)else O
 |v=>be0 S s f v
def pg (S:ci):(s:Sh)->List VV->Option (El s×List VV)
 | .int k, .int k' n::r=>bif Zc (k'=k)then C (n,r)else O
 | .bool, .bool b::r=>C (b,r)
 | .str, .str l::r=>C (l,r)
 | .list s,v::r=>(cw8 S s (pg S s) v).bind λl=>C (l,r)
 | .pair a b,l=>(pg S a l).bind λp=>(pg S b p.2).bind λq=>C ((p.1,q.1),q.2)
 |_,_=>O
def cX8 (S:ci)(s:Sh)(v:VV):Option (List (El s)):=be0 S s (pg S s) v
def Blk.freeze :Blk->Blk
 | .dead=> .dead
 | .cells es _ l=> .cells es Za l
 | .arr s _ l=> .arr s Za l
def fzv :Nat->ci->VV->ci
 |0,S,_=>S
 |n+1,S,v=>match v with
  | .full k=>(match cc S k with
   | .cells es _ l=>l.foldl (fzv n) (ql S k (.cells es Za l))
   |b=>ql S k b.freeze)
  | .part k _ _=>(match cc S k with
   | .cells es _ l=>l.foldl (fzv n) (ql S k (.cells es Za l))
   |b=>ql S k b.freeze)
  |_=>S
def fzL (S:ci)(l:List VV):ci:=l.foldl (fzv 3) S
def dK9 (S:ci):VV->ci
 | .full k=>(match cc S k with
  | .cells _ _ l=>fzL S l
  |_=>S)
 | .part k _ _=>(match cc S k with
  | .cells _ _ l=>fzL S l
  |_=>S)
 |_=>S
section
variable {β:Type}
def gd (b:Bool)(x:Option β):Option β:=cond b x O
def ix (i:Int)(n:Nat):Option Nat:=cond (Zc (0<=i)&&Zc (i<n)) (C i.toNat) O
def rd {α:Type}(l:List α)(i:Int):Option α:=cond (Zc (0<=i)) l[i.toNat]? O
def ds3 (p:Bool):VV->VV->Option VV
 | .int k x, .int k' y=>cond (Zc (k=k')) (C (.int k (cond p x y))) O
 | .bool x, .bool y=>C (.bool (cond p x y))
 | .str x, .str y=>C (.str (cond p x y))
 |_,_=>O
def dq3 (p:Bool)(x y:VV)(S:ci)(k:VV->ci->Option β):Option β:=match ds3 p x y with
 |some v=>k v S
 |none=>cond p (k x S) (k y S)
def ap3 :IntKind->List VV->Option (Zd)
 |_,[]=>C []
 |k, .int k' n::r=>cond (Zc (k'=k)) ((ap3 k r).bind λl=>C (n::l)) O
 |_,_=>O
def bS2 :List VV->Option (List Bool)
 |[]=>C []
 | .bool b::r=>(bS2 r).bind λl=>C (b::l)
 |_=>O
def cL1 :List VV->Option (List (Zd))
 |[]=>C []
 | .str b::r=>(cL1 r).bind λl=>C (b::l)
 |_=>O
def cY9 (S:ci)(k:VV->ci->Option β):List VV->Nat->Option β
 |[],_=>O
 |v::r,i=>cond (aB i 0) (k v S) (cY9 S k r (i-1))
def cD2 (cs:List VV)(i:Nat)(S:ci)(k:VV->ci->Option β):Option β:=match cs with
 | .int kd n::r=>(match ap3 kd r with
  |some l=>k (.int kd ((n::l).getD i 0)) S
  |none=>O)
 | .bool b::r=>(match bS2 r with
  |some l=>k (.bool ((b::l).getD i Zb)) S
  |none=>O)
 | .str b::r=>(match cL1 r with
  |some l=>k (.str ((b::l).getD i [])) S
  |none=>O)
 |cs=>cY9 S k cs i
def bY8 (v:VV):List VV->Nat->Nat->Option (List VV)
 |[],_,_=>C []
 |c::r,i,j=>(ds3 (aB i j) v c).bind λx=>(bY8 v r i (j+1)).bind λl=>C (x::l)
def dC6 (cells:List VV)(o:Nat):List VV->List VV
 |[]=>cells
 |v::vs=>dC6 (cells.set o v) (o+1) vs
def bH6 (cells:List VV):List (Nat×Nat×VV)->Option (List VV)
 |[]=>C cells
 |(off,size,v)::rest=>
  cond (aB (uq v).length size&&aD (off+size) cells.length&&(uq v).all dB1) (bH6 (cells.take off++uq v++cells.drop (off+size)) rest) O
def aJ8 (e:gf)(l:List (Nat×Nat×Operand)):List (Nat×Nat×VV):=l.map λ(o,s,x)=>(o,s,ev e x)
def wh (l:List VV):Bool:=l.all dB1
def ck3 (S:ci)(n:Nat)(agg:Bool)(a:VV)(k:VV->ci->Option β):Option β:=
 let out (cs:List VV) (o:Nat):Option β:=cond agg (gd (aD (o+n) cs.length) (k (.agg ((cs.drop o).take n)) S)) (match nth cs o with
  |some v=>k v S
  |none=>O)
 match a with
 | .ptr b o=>(match cc S b with
  | .cells _ _ l=>out l o
  |_=>O)
 | .pix b o m i=>(match cc S b with
  | .cells _ _ l=>gd (!agg&&aD (o+m) l.length) (cD2 ((l.drop o).take m) i S k)
  |_=>O)
 | .pel b i o=>(match cc S b with
  | .arr s _ l=>(l[i]?).bind λx=>out (gk s x) o
  |_=>O)
 | .pin s x o=>out (gk s x) o
 |_=>O
def cU0 (S:ci)(a:VV)(cs:List VV)(k:ci->Option β):Option β:=match a with
 | .ptr b o=>(match cc S b with
  | .cells es Zb l=>gd (aD (o+cs.length) l.length) (k (ql S b (.cells es Zb (dC6 l o cs))))
  |_=>O)
 | .pix b o m i=>(match cc S b,cs with
  | .cells es Zb l,[v]=>gd (aD (o+m) l.length) (match bY8 v ((l.drop o).take m) i 0 with
   |some l'=>k (ql S b (.cells es Zb (l.take o++l'++l.drop (o+m))))
   |none=>O)
  |_,_=>O)
 | .pel b i o=>(match cc (fzL S cs) b with
  | .arr s Zb l=>(l[i]?).bind λx=>(match pg (fzL S cs) s (dC6 (gk s x) o cs)with
   |some (y,[])=>gd (aD (o+cs.length) s.w) (k (ql (fzL S cs) b (.arr s Zb (l.set i y))))
   |_=>O)
  |_=>O)
 |_=>O
def du9 (k:IntKind)(f:BitVec k.bits->BitVec k.bits->BitVec k.bits)(x y:Int):Int:=k.wrap (f (BitVec.ofInt k.bits x) (BitVec.ofInt k.bits y)).toNat
def cO3 (op:BinOp)(kd:IntKind)(x y:Int)(k:VV->Option β):Option β:=match op with
 | .add=>k (.int kd (kd.wrap (x+y)))
 | .sub=>k (.int kd (kd.wrap (x-y)))
 | .mul=>k (.int kd (kd.wrap (x*y)))
 | .quo=>gd (Zc (y≠0)) (k (.int kd (kd.wrap (x.tdiv y))))
 | .rem=>gd (Zc (y≠0)) (k (.int kd (x.tmod y)))
 | .and=>k (.int kd (du9 kd (· &&& ·) x y))
 | .or=>k (.int kd (du9 kd (· ||| ·) x y))
 | .xor=>k (.int kd (du9 kd (· ^^^ ·) x y))
 | .andNot=>k (.int kd (du9 kd (λa b=>a&&& ~~~b) x y))
 | .eql=>k (.bool (Zc (x=y)))
 | .neq=>k (.bool (Zc (x≠y)))
 | .lss=>k (.bool (Zc (x<y)))
 | .leq=>k (.bool (Zc (x<=y)))
 | .gtr=>k (.bool (Zc (y<x)))
 | .geq=>k (.bool (Zc (y<=x)))
 |_=>O
def ds6 (op:BinOp)(kd:IntKind)(x y:Int)(k:VV->Option β):Option β:=match op with
 | .shl=>gd (Zc (0<=y)) (k (.int kd (kd.wrap (x*2 ^ (min y.toNat kd.bits)))))
 | .shr=>gd (Zc (0<=y)) (k (.int kd (x.fdiv (2 ^ (min y.toNat kd.bits)))))
 |_=>O
def dV7 (a b:Nat):Bool:=aD (a+b) 9223372036854775807
def dV8 (op:BinOp)(x y:Zd)(k:VV->Option β):Option β:=match op with
 | .add=>gd (dV7 x.length y.length) (k (.str (x++y)))
 | .eql=>k (.bool (Zc (x=y)))
 | .neq=>k (.bool (Zc (x≠y)))
 |_=>O
def dK3 (op:BinOp)(x y:VV)(k:VV->Option β):Option β:=match x,y with
 | .int kx a, .int ky b=>cond (am1 op) (ds6 op kx a b k) (cond (Zc (kx=ky)) (cO3 op kx a b k) O)
 | .str a, .str b=>cond (am1 op) O (dV8 op a b k)
 |_,_=>O
def dn9 (neg p:Bool):Bool:=cond neg (!p) p
def Blk.live :Blk->Bool
 | .dead=>Zb
 |_=>Za
def bU7 (S:ci):VV->Bool
 | .ptr k _=>(cc S k).live
 | .pix k _ _ _=>(cc S k).live
 | .pel k _ _=>(cc S k).live
 | .pin _ _ _=>Za
 |_=>Zb
def dK6 (S:ci):Nat->VV->VV->Option Bool
 |0, .bool a, .bool b=>C (a==b)
 |1, .nilp, .nilp=>C Za
 |1, .nilp,v=>cond (bU7 S v) (C Zb) O
 |1,v, .nilp=>cond (bU7 S v) (C Zb) O
 |2, .nils, .nils=>C Za
 |3, .nilf, .nilf=>C Za
 |3, .nilf, .fn _ _ _=>C Zb
 |3, .fn _ _ _, .nilf=>C Zb
 |_,_,_=>O
def dc9 :Nat->VV->VV->Option Bool
 |0, .bool a, .bool b=>C (a==b)
 |1, .int k a, .int k' b=>cond (Zc (k=k')) (C (Zc (a=b))) O
 |2, .str a, .str b=>C (Zc (a=b))
 |_,_,_=>O
def cf0 :List Nat->List VV->List VV->Option Bool
 |[],[],[]=>C Za
 |[k],[a],[b]=>dc9 k a b
 |k::ks,a::r,b::s=>(dc9 k a b).bind λp=>(cf0 ks r s).bind λq=>C (p&&q)
 |_,_,_=>O
def unK (op:UnOp)(x:VV)(k:VV->Option β):Option β:=match op,x with
 | .neg, .int kd n=>k (.int kd (kd.wrap (0-n)))
 | .xor, .int kd n=>k (.int kd (kd.wrap (BitVec.ofInt kd.bits (if kd.signed then-1 else kd.max) ^^^ BitVec.ofInt kd.bits n).toNat))
 | .not, .bool b=>k (.bool !b)
 |_,_=>O
def bw3 :VV->Option Int
 | .int _ n=>C n
 |_=>O
def lenOf (S:ci):VV->Option Nat
 | .nils=>C 0
 | .lst _ l=>C l.length
 | .full b=>(match cc S b with
  | .arr _ _ l=>C l.length
  | .cells es _ l=>C (l.length / es)
  | .dead=>O)
 | .part b _ n=>cond (cc S b).live (C n) O
 | .str l=>C l.length
 |_=>O
def bo6 {α:Type}(l:List α)(lo hi:Int):List α:=(l.take hi.toNat).drop lo.toNat
def aW0 :Option VV->Option Int
 |none=>C 0
 |some v=>bw3 v
def ar7 (n:Nat):Option VV->Option Int
 |none=>C n
 |some v=>bw3 v
def md (lo hi:Int)(n:Nat):Bool:=Zc (0<=lo)&&Zc (lo<=hi)&&Zc (hi<=n)
def cT7 (S:ci)(es:Nat)(x:VV)(lo hi:Option VV)(k:VV->ci->Option β):Option β:=
 match lenOf S x with
 |none=>O
 |some n=>match aW0 lo,ar7 n hi with
  |some a,C b=>(match x with
   | .nils=>gd (md a b n) (k .nils S)
   | .lst s l=>gd (aB es s.w) (match lo,hi with
    |none,O=>k (.lst s l) S
    |_,_=>gd (md a b n) (k (.lst s (bo6 l a b)) S))
   | .full q=>(match cc S q with
    | .arr s _ _=>gd (aB es s.w) (gd (md a b n) (k (.part q a.toNat (b.toNat-a.toNat)) S))
    | .cells es' _ _=>gd (aB es es'&&aD 1 es) (gd (md a b n) (k (.part q a.toNat (b.toNat-a.toNat)) S))
    | .dead=>O)
   | .part q o _=>(match cc S q with
    | .arr s _ _=>gd (aB es s.w) (gd (md a b n) (k (.part q (o+a.toNat) (b.toNat-a.toNat)) S))
    | .cells es' _ _=>gd (aB es es'&&aD 1 es) (gd (md a b n) (k (.part q (o+a.toNat) (b.toNat-a.toNat)) S))
    | .dead=>O)
   |_=>O)
  |_,_=>O
def bE8 (S:ci)(x:VV)(lo hi:Option VV)(k:VV->ci->Option β):Option β:=match x with
 | .str l=>(match aW0 lo,ar7 l.length hi with
  |some a,C b=>gd (md a b l.length) (k (.str (bo6 l a b)) S)
  |_,_=>O)
 |_=>O
def bE7 (S:ci)(es n:Nat)(x:VV)(lo hi:Option VV)(k:VV->ci->Option β):Option β:=match x with
 | .ptr b o=>(match cc S b with
  | .cells es' Zb l=>(match aW0 lo,ar7 n hi with
   |some a,C c=>gd (aB es es'&&aD 1 es&&aB (o % es) 0&&aD (o+n*es) l.length&&md a c n&&Zc (a<n)) (k (.part b (o / es+a.toNat) (c.toNat-a.toNat)) S)
   |_,_=>O)
  | .arr s Zb l=>(match aW0 lo,ar7 n hi with
   |some a,C c=>gd (aB es s.w&&aB o 0&&aD n l.length&&md a c n&&Zc (a<n)) (k (.part b a.toNat (c.toNat-a.toNat)) S)
   |_,_=>O)
  |_=>O)
 |_=>O
def dL6 :Value->Bool
 | .int .u8 n=>Zc (n=0)
 |_=>Zb
def cO8 (es:Nat)(z:List Value):Bool:=aB es 1&&aD 20 z.length&&z.all dL6
def bc6 (es:Nat)(z:List Value):Blk:=cond (cO8 es z) (.arr (.int .u8) Zb (bD z.length (0:Int))) (.cells es Zb (z.map bL5))
def dz8 (S:ci)(n:Nat):VV->Option VV
 | .ptr b o=>cond (cc S b).live (C (.ptr b (o+n))) O
 | .pel b i o=>cond (cc S b).live (C (.pel b i (o+n))) O
 | .pin s x o=>C (.pin s x (o+n))
 | .pix b o m i=>cond (cc S b).live (cond (aB n 0) (C (.pix b o m i)) O) O
 |_=>O
def dx7 (S:ci)(es:Nat)(x i:VV)(k:VV->ci->Option β):Option β:=match i with
 | .int _ i=>(match x with
  | .lst s l=>gd (aB es s.w) ((rd l i).bind λy=>k (.pin s y 0) S)
  | .full b=>(match cc S b with
   | .arr s _ l=>gd (aB es s.w) ((ix i l.length).bind λj=>k (.pel b j 0) S)
   | .cells es' _ l=>gd (aB es es'&&aD 1 es) ((ix i (l.length / es)).bind λj=>cond (aB es 1) (k (.pix b 0 l.length j) S) (k (.ptr b (j*es)) S))
   | .dead=>O)
  | .part b o n=>(match cc S b with
   | .arr s _ _=>gd (aB es s.w) ((ix i n).bind λj=>k (.pel b (o+j) 0) S)
   | .cells es' _ _=>gd (aB es es'&&aD 1 es) ((ix i n).bind λj=>cond (aB es 1) (k (.pix b o n j) S) (k (.ptr b ((o+j)*es)) S))
   | .dead=>O)
  |_=>O)
 |_=>O
def cX1 (S:ci)(ln es:Nat)(x i:VV)(k:VV->ci->Option β):Option β:=match x,i with
 | .ptr b o, .int _ i=>gd (cc S b).live ((ix i ln).bind λj=>cond (aB es 1) (k (.pix b o ln j) S) (k (.ptr b (o+j*es)) S))
 |_,_=>O
def aM3 (l:List VV)(a n:Nat):List VV:=(l.drop a).take n
def jq (n bytes:Nat):Bool:=Zc (n*bytes<=140737488355328)&&aD 1 bytes
inductive Base where
 |none
 |cells (es:Nat) (l:List VV)
 |arr (s:Sh) (l:List (El s))
def aJ2 (S:ci)(es:Nat):VV->Option (Base×Option Nat)
 | .nils=>C (.none,O)
 | .full b=>(match cc S b with
  | .arr s Zb l=>cond (aB es s.w) (C (.arr s l,C b)) bB
  | .cells es' Zb l=>cond (aB es es'&&aD 1 es) (C (.cells es l,C b)) bB
  |_=>bB)
 | .part b 0 n=>(match cc S b with
  | .arr s Zb l=>cond (aB es s.w) (C (.arr s (l.take n),C b)) bB
  | .cells es' Zb l=>cond (aB es es'&&aD 1 es) (C (.cells es (l.take (n*es)),C b)) bB
  |_=>bB)
 |_=>bB
inductive More where
 |cells (l:List VV)
 |lst (s:Sh) (l:List (El s))
def lg (S:ci)(es:Nat):VV->Option More
 | .nils=>C (.cells [])
 | .lst s l=>cond (aB es s.w) (C (.lst s l)) O
 | .str l=>cond (aB es 1) (C (.lst (.int .u8) l)) O
 | .full b=>(match cc S b with
  | .arr s _ l=>cond (aB es s.w) (C (.lst s l)) O
  | .cells es' _ l=>cond (aB es es'&&aD 1 es) (C (.cells l)) O
  |_=>O)
 | .part b o n=>(match cc S b with
  | .arr s _ l=>cond (aB es s.w) (C (.lst s ((l.drop o).take n))) O
  | .cells es' _ l=>cond (aB es es'&&aD 1 es) (C (.cells ((l.drop (o*es)).take (n*es)))) O
  |_=>O)
 |_=>O
def w6 (S:ci):Option Nat->ci
 |none=>S
 |some b=>ql S b .dead
def da5 (S:ci)(s:Sh)(l:List VV):Option (List (El s)):=bH1 (pg S s) l.length l
def cF7 (S:ci)(bytes:Nat)(s:Sh)(kill:Option Nat)(a b:List (El s))(k:VV->ci->Option β):Option β:=
 gd (jq (a.length+b.length) bytes) (k (.full S.length) (w6 S kill++[.arr s Zb (a++b)]))
def bM4 (S:ci)(es bytes:Nat)(bo:Option (Base×Option Nat))(mo:Option More)(k:VV->ci->Option β):Option β:=
 match bo,mo with
 |some (.arr s l,kill),C (.lst s' l')=>(rk (.list s') (.list s) l').bind λl2=>cF7 S bytes s kill l l2 k
 |some (.arr s l,kill),C (.cells cs)=>(match cc (fzL S cs) (kill.getD 0)with
  | .arr _ Zb _=>(da5 (fzL S cs) s cs).bind λl2=>cF7 (fzL S cs) bytes s kill l l2 k
  |_=>O)
 |some (.cells _ l,kill),C (.lst s l')=>(match cc (fzL S l) (kill.getD 0)with
  | .cells _ Zb _=>(da5 (fzL S l) s l).bind λl1=>cF7 (fzL S l) bytes s kill l1 l' k
  |_=>O)
 |some (.none,kill),C (.lst s l')=>cF7 S bytes s kill [] l' k
 |some (.cells es l,kill),C (.cells cs)=>gd (jq ((l.length+cs.length) / es) bytes&&wh cs) (k (.full S.length) (w6 S kill++[.cells es Zb (l++cs)]))
 |some (.none,kill),C (.cells cs)=>gd (jq (cs.length / es) bytes&&aD 1 es&&wh cs) (k (.full S.length) (w6 S kill++[.cells es Zb cs]))
 |_,_=>O
def cu4 (S:ci)(es bytes:Nat)(x y:VV)(k:VV->ci->Option β):Option β:=bM4 S es bytes (aJ2 S es x) (lg S es y) k
def bZ6 (S:ci):VV->Option (ci×Base)
 | .lst s l=>C (S, .arr s l)
 | .full q=>(match cc S q with
  | .arr s _ l=>C (ql S q (cc S q).freeze, .arr s l)
  |_=>O)
 |_=>O
def cz2 (S:ci)(x hi mx:VV)(k:VV->ci->Option β):Option β:=match hi,mx with
 | .int _ h, .int _ m=>gd (Zc (h=m)) (match x with
  | .nils=>gd (Zc (h=0)) (k .nils S)
  |v=>(match bZ6 S v with
   |some (S1, .arr s l)=>gd (md 0 h l.length) (k (.tgt s (l.take h.toNat)) S1)
   |_=>O))
 |_,_=>O
def cU8 (S:ci)(es bytes:Nat)(s:Sh)(l:List (El s))(mo:Option More)(k:VV->ci->Option β):Option β:=match mo with
 |some (.lst s' l')=>(rk (.list s') (.list s) l').bind λl2=>gd (aB es s.w&&aD 1 l2.length) (cF7 S bytes s O l l2 k)
 |some (.cells cs)=>(da5 (fzL S cs) s cs).bind λl2=>gd (aB es s.w&&aD 1 l2.length) (cF7 (fzL S cs) bytes s O l l2 k)
 |none=>O
def bR3 (S:ci)(es bytes:Nat)(x y:VV)(k:VV->ci->Option β):Option β:=match x with
 | .tgt s l=>cU8 S es bytes s l (lg S es y) k
 |x=>cu4 S es bytes x y k
def ck7 (l:Zd)(i:Nat):Nat×Nat:=
 let at' (k:Nat):Nat:=(l.getD (i+k) 0).toNat
 let cont (k:Nat):Bool:=i+k<l.length&&at' k / 64==2
 let b0:=at' 0
 if b0<0x80 then(b0,1)
 else if b0 / 32==6&&cont 1 then
  let c:=(b0 % 32)*64+at' 1 % 64
  if c≥0x80 then(c,2)else(Utf8.runeError,1)
 else if b0 / 16==14&&cont 1&&cont 2 then
  let c:=(b0 % 16)*4096+(at' 1 % 64)*64+at' 2 % 64
  if c≥0x800&&Utf8.valid c then(c,3)else(Utf8.runeError,1)
 else if b0 / 8==30&&cont 1&&cont 2&&cont 3 then
  let c:=(b0 % 8)*262144+(at' 1 % 64)*4096+(at' 2 % 64)*64+at' 3 % 64
  if c≥0x10000&&Utf8.valid c then(c,4)else(Utf8.runeError,1)
 else(Utf8.runeError,1)
def dr5 (l:Zd)(p:Int):Int:=((ck7 l p.toNat).1:Nat)
def cK1 (l:Zd)(p:Int):Int:=((p.toNat+(ck7 l p.toNat).2:Nat):Int)
def ca2 (n:Int):Zd:=fp (Utf8.encode n)
def bS6 (n:Int):Int:=((UInt8.ofNat n.toNat).toNat:Nat)
def do9 (S:ci)(v:VV)(k:VV->ci->Option β):Option β:=match v with
 | .it q l=>(match cc S q with
  | .cells es Zb (.int .i64 p::r)=>gd (Zc (0<=p)&&aD 1 es) (cond (Zc (p<l.length)) (k (.tup [.bool Za, .int .i64 p, .int .i32 (dr5 l p)]) (ql S q (.cells es Zb (.int .i64 (cK1 l p)::r)))) (k (.tup [.bool Zb]) S))
  |_=>O)
 |_=>O
def cU2 (S:ci)(v:VV)(k:VV->ci->Option β):Option β:=match v with
 | .str _=>O
 |v=>(match lg S 1 v with
  |some (.lst s l)=>(rk (.list s) (.list (.int .u8)) l).bind λl2=>k (.str (l2.map bS6)) S
  |some (.cells cs)=>(ap3 .u8 cs).bind λl=>k (.str (l.map bS6)) S
  |none=>O)
def dt1 (S:ci)(v:VV)(k:VV->ci->Option β):Option β:=match v with
 | .str _=>O
 |v=>(match lg S 1 v with
  |some (.lst s l)=>(rk (.list s) (.list (.int .i32)) l).bind λl2=>k (.str (l2.flatMap ca2)) S
  |some (.cells cs)=>(ap3 .i32 cs).bind λl=>k (.str (l.flatMap ca2)) S
  |none=>O)
def bY6 :Nat->Zd->Nat->Zd
 |0,_,_=>[]
 |b+1,l,i=>if i<l.length then(((ck7 l i).1:Nat):Int)::bY6 b l (i+(ck7 l i).2)else []
def bq9 (l:Zd):Zd:=bY6 l.length l 0
def cT2 (S:ci)(v:VV)(k:VV->ci->Option β):Option β:=match v with
 | .str l=>gd (aD l.length 70368744177664) (k (.full S.length) (S++[.arr (.int .i32) Zb (bq9 l)]))
 |_=>O
def aL9 {α:Type}(l:List α)(o n:Nat)(m:List α):List α:=l.take o++(m.take n++l.drop (o+min n m.length))
def bx4 (kd:IntKind)(m:Zd):Nat->List VV->Option (List VV)
 |_,[]=>C []
 |j, .int k n::r=>cond (Zc (k=kd)) ((bx4 kd m (j+1) r).bind λl=>C (.int k (m.getD j n)::l)) O
 |_,_=>O
def dk7 (S:ci)(es:Nat)(d y:VV)(k:VV->ci->Option β):Option β:=
 let go (b o n:Nat):Option β:=match cc S b,lg S es y with
  | .arr s Zb l,C (.lst s' l')=>(rk (.list s') (.list s) l').bind λl2=>gd (aB es s.w) (k (.int .i64 (min l2.length n:Nat)) (ql S b (.arr s Zb (aL9 l o n l2))))
  | .arr s Zb l,C (.cells cs)=>(ap3 .u64 cs).bind λm=>(rk (.list (.int .u64)) (.list s) m).bind λl2=>gd (aB es s.w) (k (.int .i64 (min l2.length n:Nat)) (ql S b (.arr s Zb (aL9 l o n l2))))
  | .cells 1 Zb l,C (.lst (.int kd) m)=>gd (aB es 1&&aD (o+n) l.length) (match bx4 kd m 0 ((l.drop o).take n)with
   |some c=>k (.int .i64 (min m.length n:Nat)) (ql S b (.cells 1 Zb (l.take o++c++l.drop (o+n))))
   |none=>O)
  |_,_=>O
 match d with
 | .full b=>(match lenOf S d with
  |some n=>go b 0 n
  |none=>O)
 | .part b o n=>go b o n
 |_=>O
def bI8 :List Value->Option Sh
 |[.int k 0]=>C (.int k)
 |[.bool Zb]=>C .bool
 | .int k 0::r=>(bI8 r).bind λs=>C (.pair (.int k) s)
 | .bool Zb::r=>(bI8 r).bind λs=>C (.pair .bool s)
 |_=>O
def ai2 :(s:Sh)->El s
 | .int _=>(0:Int)
 | .bool=>Zb
 | .str=>[]
 | .list _=>[]
 | .pair a b=>(ai2 a,ai2 b)
def dn7 (S:ci)(es bytes:Nat)(z:List Value)(l c:VV)(k:VV->ci->Option β):Option β:=match l,c,bI8 z with
 | .int _ l, .int _ c,C s=>gd (aB es s.w&&Zc (0<=l)&&Zc (l<=c)&&Zc (bytes*c<=140737488355328)&&aD 1 bytes) (k (.full S.length) (S++[.arr s Zb (bD l.toNat (ai2 s))]))
 |_,_,_=>O
def cM2 (es:Nat)(z:List Value)(l:Int):Option More:=match bI8 z with
 |some s=>cond (aB es s.w) (C (.lst s (bD l.toNat (ai2 s)))) O
 |none=>O
def tb (bytes:Nat)(l:Int):Bool:=Zc (0<=l)&&(Zc (l<=9223372036854775807)&&Zc (l*(bytes:Int)<=281474976710656))
def bR4 (S:ci)(es bytes:Nat)(z:List Value)(x l:VV)(k:VV->ci->Option β):Option β:=match l with
 | .int _ l=>gd (tb bytes l) (bM4 S es bytes (aJ2 S es x) (cM2 es z l) k)
 |_=>O
end
end
section
open List renaming replicate -> bB
open Nat renaming beq -> aB, ble -> aD
inductive Sk where
 |undef
 |leaf (s:Sh)
 |cint (k:IntKind) (n:Int)
 |nilp
 |nils
 |nilf
 |ptr (j o:Nat)
 |full (j:Nat)
 |pin (s:Sh) (o:Nat)
 |fn (f:Nat) (a c:List Sk)
 |agg (l:List Sk)
 |tup (l:List Sk)
inductive OSk where
 |dead
 |cells (es:Nat) (ro:Bool) (l:List Sk)
 |arr (ro:Bool) (s:Sh)
structure Leaf where
 s:Sh
 v:El s
structure Src where
 k:Nat
 cut:Option Nat
structure DSt where
 m:List (Option Src)
 ls:List Leaf
 lent:List Nat
def DSt.push (st:DSt)(s:Sh)(v:El s):DSt:={st with ls:=st.ls++[⟨s,v⟩]}
def DSt.lend (st:DSt):VV->DSt
 | .full k=>{st with lent:=k::st.lent}
 | .part k _ _=>{st with lent:=k::st.lent}
 |_=>st
def DSt.link (N:Nat)(st:DSt)(j:Nat)(x:Option Src):Option DSt:=
 cond (Nat.blt j N) (match x with
  |some ⟨k,O⟩=>cond (aB k j) (C st) O
  |_=>O)
 (match nth st.m (j-N)with
 |some (C ⟨k,O⟩)=>(match x with
  |some ⟨k',O⟩=>cond (aB k k') (C st) O
  |_=>O)
 |some _=>O
 |none=>cond (aB (j-N) st.m.length) (C {st with m:=st.m++[x]}) O)
mutual
def dec (S:ci)(N:Nat):Sk->VV->DSt->Option DSt
 | .undef,_,st=>C st
 | .leaf s,v,st=>(match s,v with
  | .int k, .int k' n=>cond (Zc (k'=k)) (C (st.push (.int k) n)) O
  | .bool, .bool b=>C (st.push .bool b)
  | .str, .str l=>C (st.push .str l)
  | .list s,v=>(cX8 S s v).bind λl=>C ((st.lend v).push (.list s) l)
  |_,_=>O)
 | .cint k n, .int k' n',st=>cond (Zc (k'=k)&&Zc (n'=n)) (C st) O
 | .nilp, .nilp,st=>C st
 | .nils, .nils,st=>C st
 | .nilf, .nilf,st=>C st
 | .ptr j o, .ptr k o',st=>cond (aB o o') (st.link N j (C ⟨k,O⟩)) O
 | .full j,v,st=>(match v with
  | .full k=>st.link N j (C ⟨k,O⟩)
  | .part k 0 n=>st.link N j (C ⟨k,C n⟩)
  | .nils=>st.link N j O
  |_=>O)
 | .pin s o, .pin s' x o',st=>cond (aB o o') ((rk s' s x).bind λy=>C (st.push s y)) O
 | .fn f a c, .fn f' a' c',st=>cond (aB f f') ((bo8 S N a a' st).bind λst1=>bo8 S N c c' st1) O
 | .agg l, .agg l',st=>bo8 S N l l' st
 | .tup l, .tup l',st=>bo8 S N l l' st
 |_,_,_=>O
def bo8 (S:ci)(N:Nat):List Sk->List VV->DSt->Option DSt
 |[],[],st=>C st
 |k::r,v::r',st=>(dec S N k v st).bind λst1=>bo8 S N r r' st1
 |_,_,_=>O
end
def bT0 {α:Type}:Option Nat->List α->List α
 |none,l=>l
 |some n,l=>l.take n
def cP2 (S:ci)(N:Nat):OSk->Option Src->DSt->Option DSt
 | .dead,_,st=>C st
 | .cells es ro l,C ⟨k,O⟩,st=>(match cc S k with
  | .cells es' fz cs=>cond (aB es es'&&(ro|| !fz)) (bo8 S N l cs (cond ro {st with lent:=k::st.lent} st)) O
  |_=>O)
 | .arr ro s,O,st=>cond ro O (C (st.push (.list s) []))
 | .arr ro s,C ⟨k,cut⟩,st=>cond (ro|| !(cc S k).frozen) ((cX8 S s (.full k)).bind λl=>C ((cond ro {st with lent:=k::st.lent} st).push (.list s) (bT0 cut l))) O
 |_,_,_=>O
def bB8 (S:ci)(N:Nat):List OSk->List Nat->DSt->Option DSt
 |[],[],st=>C st
 |o::r,j::js,st=>(cP2 S N o (C ⟨j,O⟩) st).bind λst1=>bB8 S N r js st1
 |_,_,_=>O
def ah3 (S:ci)(N:Nat):List OSk->Nat->DSt->Option DSt
 |[],i,st=>cond (aB i st.m.length) (C st) O
 |o::r,i,st=>(match nth st.m i with
  |some x=>(cP2 S N o x st).bind λst1=>ah3 S N r (i+1) st1
  |none=>O)
def OSk.ro :OSk->Bool
 | .cells _ ro _=>ro
 | .arr ro _=>ro
 | .dead=>Zb
def tx (k:Nat):List Nat->Bool
 |[]=>Zb
 |a::r=>cond (aB a k) Za (tx k r)
def bm5 :List Nat->Bool
 |[]=>Za
 |a::r=>cond (tx a r) Zb (bm5 r)
def vo :List (Option Src)->List Nat
 |[]=>[]
 |none::r=>vo r
 |some x::r=>x.k::vo r
def pa :List OSk->List (Option Src)->List Nat
 |o::r,C x::s=>cond o.ro (pa r s) (x.k::pa r s)
 |_::r,O::s=>pa r s
 |_,_=>[]
def aT0 (w:List Nat)(l:List Nat):Bool:=w.all λk=> !tx k l
structure SSk where
 vals:List Sk
 fix:List OSk
 free:List OSk
def vn (S:ci)(N:Nat)(fx:List Nat)(sk:SSk)(vals:List VV):Option DSt:=
 (bo8 S N sk.vals vals ⟨[],[],[]⟩).bind λst=>(bB8 S N sk.fix fx st).bind λst1=>(ah3 S N sk.free 0 st1).bind λst2=>
  cond (bm5 (fx++vo st2.m)&&aT0 (fx++pa sk.free st2.m) st2.lent) (C st2) O
mutual
def enc (f:Nat->Nat):Sk->List Leaf->Option (VV×List Leaf)
 | .undef,ls=>C (.undef,ls)
 | .leaf s,x::ls=>(rk x.s s x.v).bind λ(y:El s)=>C ((match s,y with
  | .int k,n=> .int k n
  | .bool,b=> .bool b
  | .str,l=> .str l
  | .list s,l=> .lst s l
  | .pair _ _,_=> .undef),ls)
 | .cint k n,ls=>C (.int k n,ls)
 | .nilp,ls=>C (.nilp,ls)
 | .nils,ls=>C (.nils,ls)
 | .nilf,ls=>C (.nilf,ls)
 | .ptr j o,ls=>C (.ptr (f j) o,ls)
 | .full j,ls=>C (.full (f j),ls)
 | .pin s o,x::ls=>(rk x.s s x.v).bind λ(y:El s)=>C (.pin s y o,ls)
 | .fn g a c,ls=>(ce8 f a ls).bind λp=>(ce8 f c p.2).bind λq=>C (.fn g p.1 q.1,q.2)
 | .agg l,ls=>(ce8 f l ls).bind λp=>C (.agg p.1,p.2)
 | .tup l,ls=>(ce8 f l ls).bind λp=>C (.tup p.1,p.2)
 |_,_=>O
def ce8 (f:Nat->Nat):List Sk->List Leaf->Option (List VV×List Leaf)
 |[],ls=>C ([],ls)
 |k::r,ls=>(enc f k ls).bind λp=>(ce8 f r p.2).bind λq=>C (p.1::q.1,q.2)
end
def ce9 (f:Nat->Nat):OSk->List Leaf->Option (Blk×List Leaf)
 | .dead,ls=>C (.dead,ls)
 | .cells es ro l,ls=>(ce8 f l ls).bind λp=>C (.cells es ro p.1,p.2)
 | .arr ro s,x::ls=>(rk x.s (.list s) x.v).bind λl=>C (.arr s ro l,ls)
 | .arr _ _,[]=>O
def aV6 (f:Nat->Nat):List OSk->List Leaf->Option (List Blk×List Leaf)
 |[],ls=>C ([],ls)
 |o::r,ls=>(ce9 f o ls).bind λp=>(aV6 f r p.2).bind λq=>C (p.1::q.1,q.2)
def wY (f:Nat->Nat)(sk:SSk)(ls:List Leaf):Option (List VV×List Blk×List Blk):=
 (ce8 f sk.vals ls).bind λp=>(aV6 f sk.fix p.2).bind λq=>(aV6 f sk.free q.2).bind λr=>match r.2 with
  |[]=>C (p.1,q.1,r.1)
  |_::_=>O
mutual
def Sk.shs :Sk->List Sh
 | .leaf s=>[s]
 | .pin s _=>[s]
 | .fn _ a c=>cT6 a++cT6 c
 | .agg l=>cT6 l
 | .tup l=>cT6 l
 |_=>[]
def cT6 :List Sk->List Sh
 |[]=>[]
 |k::r=>k.shs++cT6 r
end
def OSk.shs :OSk->List Sh
 | .dead=>[]
 | .cells _ _ l=>cT6 l
 | .arr _ s=>[.list s]
def dN6 :List OSk->List Sh
 |[]=>[]
 |o::r=>o.shs++dN6 r
def SSk.shs (sk:SSk):List Sh:=cT6 sk.vals++(dN6 sk.fix++dN6 sk.free)
@[reducible] def Tup :List Sh->Type
 |[]=>Unit
 |[s]=>El s
 |s::s'::r=>El s×Tup (s'::r)
def toL :(ss:List Sh)->Tup ss->List Leaf
 |[],_=>[]
 |[s],x=>[⟨s,x⟩]
 |s::s'::r,x=>⟨s,x.1⟩::toL (s'::r) x.2
def ofL :(ss:List Sh)->List Leaf->Option (Tup ss)
 |[],[]=>C ()
 |[s],[x]=>rk x.s s x.v
 |s::s'::r,x::ls=>(rk x.s s x.v).bind λa=>(ofL (s'::r) ls).bind λb=>C (a,b)
 |_,_=>O
inductive XK where
 |normal
 |exit (id:Nat)
 |ret
structure Alt where
 x:XK
 ts:List Nat
 sk:SSk
@[reducible] def Alt.Ty (a:Alt):Type:=Tup a.sk.shs
@[reducible] def ao4 :List Alt->Type
 |[]=>Empty
 |[a]=>a.Ty
 |a::b::r=>a.Ty⊕ao4 (b::r)
def da {α γ β:Type}(s:α⊕γ)(f:α->Option β)(g:γ->Option β):Option β:=match s with
 | .inl a=>f a
 | .inr b=>g b
def dj3 {β:Type}:(l:List Alt)->ao4 l->((a:Alt)->a.Ty->Option β)->Option β
 |[],_,_=>O
 |[a],t,k=>k a t
 |a::b::r,s,k=>da s (λt=>k a t) λs'=>dj3 (b::r) s' k
def SSk.noRo (sk:SSk):Bool:=sk.fix.all (λo=> !o.ro)&&sk.free.all λo=> !o.ro
def bo9 (S:ci)(N:Nat)(fx:List Nat)(sk:SSk)(vals:List VV):Option (Tup sk.shs):=
 gd sk.noRo ((vn S N fx sk vals).bind λst=>ofL sk.shs st.ls)
def ar5 (S:ci)(N:Nat)(fx:List Nat)(vals:List Nat->List VV)(hit:XK->Bool):(l:List Alt)->Option (ao4 l)
 |[]=>O
 |[a]=>cond (hit a.x) (bo9 S N fx a.sk (vals a.ts)) O
 |a::b::r=>match cond (hit a.x) (bo9 S N fx a.sk (vals a.ts)) O with
  |some t=>C (.inl t)
  |none=>(ar5 S N fx vals hit (b::r)).bind λs=>C (.inr s)
def Sh.al :Sh->Bool
 | .list _=>Za
 | .pair a b=>a.al||b.al
 |_=>Zb
mutual
def alV :VV->Bool
 | .lst _ _=>Za
 | .tgt _ _=>Za
 | .pin _ _ _=>Za
 | .fn _ a c=>alL a||alL c
 | .agg l=>alL l
 | .tup l=>alL l
 |_=>Zb
def alL :List VV->Bool
 |[]=>Zb
 |v::r=>alV v||alL r
end
def alB :Blk->Bool
 | .dead=>Zb
 | .cells _ _ l=>alL l
 | .arr s _ _=>s.al
def aV5 (vs:List VV)(fs bs:List Blk):Bool:=alL vs||fs.any alB||bs.any alB
def Blk.may :Blk->Bool
 | .dead=>Za
 | .cells _ z _=> !z
 | .arr _ z _=> !z
def bL6 (S:ci)(fx:List Nat):Bool:=fx.all λj=>Nat.blt j S.length&&(cc S j).may
structure FSum where
 f:Nat
 vals:List Sk
 objs:List OSk
 outs:List Alt
 run:Tup (SSk.shs ⟨vals,[],objs⟩)->Option (ao4 outs)
def FSum.ins (F:FSum):SSk:=⟨F.vals,[],F.objs⟩
def ah6 :List OSk->Nat->List Nat
 |[],_=>[]
 |o::r,i=>cond o.ro (ah6 r (i+1)) (i::ah6 r (i+1))
def ar2 (m:List (Option Src))(n size j:Nat):Nat:=cond (Nat.blt j n) (match nth m j with
 |some (C x)=>x.k
 |_=>size) (size+(j-n))
def ap9 :List Nat->List Blk->ci->Option ci
 |[],[],S=>C S
 |j::js,b::bs,S=>ap9 js bs (ql S j b)
 |_,_,_=>O
def dl7 :Sk->VV->ci->ci
 | .leaf (.list (.list _)),v,S=>dK9 S v
 |_,_,S=>S
def bd6 :List Sk->List VV->ci->ci
 |k::r,v::vs,S=>bd6 r vs (dl7 k v S)
 |_,_,S=>S
def aV7 :List Nat->ci->ci
 |[],S=>S
 |k::r,S=>aV7 r (ql S k (cc S k).freeze)
def dH2 {β:Type}(F:FSum)(t:Tup F.ins.shs)(st:DSt)(S:ci)(k:VV->ci->Option β):Option β:=
 (F.run t).bind λo=>dj3 F.outs o λa u=>match wY (ar2 st.m F.objs.length S.length) a.sk (toL a.sk.shs u)with
  |some ([v],fs,bs)=>(match ap9 (pa F.objs st.m) fs (cond (aV5 [v] fs bs) (aV7 st.lent S) S)with
   |some S'=>k v (S'++bs)
   |none=>O)
  |_=>O
def cj5 :List (Option Src)->Bool
 |[]=>Za
 |some ⟨_,O⟩::r=>cj5 r
 |_=>Zb
def bS9 {β:Type}:List FSum->Nat->List VV->ci->(VV->ci->Option β)->Option β
 |[],_,_,_,_=>O
 |F::r,f,args,S,k=>cond (aB F.f f) (match vn (bd6 F.vals args S) 0 [] F.ins args with
  |some st=>(match ofL F.ins.shs st.ls with
   |some t=>gd (cj5 st.m&&bL6 (bd6 F.vals args S) (pa F.objs st.m)) (dH2 F t st (bd6 F.vals args S) k)
   |none=>bS9 r f args S k)
  |none=>bS9 r f args S k) (bS9 r f args S k)
structure Inl where
 f:Nat
 run:(β:Type)->List VV->ci->(VV->ci->Option β)->Option β
structure Tab where
 fs:List FSum
 is:List Inl
def dx4 :List Inl->Nat->Bool
 |[],_=>Zb
 |I::r,f=>cond (aB I.f f) Za (dx4 r f)
def cW2 {β:Type}:List Inl->Nat->List VV->ci->(VV->ci->Option β)->Option β
 |[],_,_,_,_=>O
 |I::r,f,args,S,k=>cond (aB I.f f) (I.run β args S k) (cW2 r f args S k)
def cW3 {β:Type}(tab:Tab)(f:Nat)(args:List VV)(S:ci)(k:VV->ci->Option β):Option β:=
 cond (dx4 tab.is f) (cW2 tab.is f args S k) (bS9 tab.fs f args S k)
def bR9 :Nat->List Nat
 |0=>[]
 |n+1=>n::bR9 n
def df6 {β:Type}(S:ci)(x:Option VV)(k:VV->ci->Option β):Option β:=match x with
 |some v=>k v S
 |none=>O
def bT6 {β:Type}(tab:Tab)(op:AOp)(e:gf)(S:ci)(k:VV->ci->Option β):Option β:=match op with
 | .move x=>k (ev e x) S
 | .pick c a b=>(match ev e c with
  | .bool p=>dq3 p (ev e a) (ev e b) S k
  |_=>O)
 | .alloc es z=>gd (aD 1 es) (k (.ptr S.length 0) (S++[bc6 es z]))
 | .box es x=>gd (aD 1 es&&wh (uq (ev e x))) (k (.ptr S.length 0) (S++[.cells es Zb (uq (ev e x))]))
 | .build z ps=>(match bH6 (z.map bL5) (aJ8 e ps)with
  |some cs=>k (.agg cs) S
  |none=>O)
 | .buildSlice es ln z ps=>(match bH6 ((bB ln (z.map bL5)).flatten) (aJ8 e ps)with
  |some cs=>gd (wh cs&&aB (ln*es) cs.length&&aD 1 es) (k (.full S.length) (S++[.cells es Zb cs]))
  |none=>O)
 | .load x=>ck3 S 1 Zb (ev e x) k
 | .loadN n x=>ck3 S n Za (ev e x) k
 | .store n a x=>gd (aB (uq (ev e x)).length n&&wh (uq (ev e x))) (cU0 S (ev e a) (uq (ev e x)) λS'=>k .undef S')
 | .nilCheck x=>(match ev e x with
  | .fn f a c=>k (.fn f a c) S
  |v=>gd (bU7 S v) (k v S))
 | .bin op x y=>dK3 op (ev e x) (ev e y) λv=>k v S
 | .eqv kd neg x y=>(match dK6 S kd (ev e x) (ev e y)with
  |some b=>k (.bool (dn9 neg b)) S
  |none=>O)
 | .eqCells neg ks x y=>(match ev e x,ev e y with
  | .agg a, .agg b=>(match cf0 ks a b with
   |some p=>k (.bool (dn9 neg p)) S
   |none=>O)
  |_,_=>O)
 | .un op x=>unK op (ev e x) λv=>k v S
 | .conv kd x=>(match bw3 (ev e x)with
  |some n=>k (.int kd (kd.wrap n)) S
  |none=>O)
 | .mkFunc f a c=>k (.fn f (a.map (ev e)) (c.map (ev e))) S
 | .makeSlice es bytes z l c=>dn7 S es bytes z (ev e l) (ev e c) k
 | .slice es x lo hi=>cT7 S es (ev e x) (lo.map (ev e)) (hi.map (ev e)) k
 | .sliceStr x lo hi=>bE8 S (ev e x) (lo.map (ev e)) (hi.map (ev e)) k
 | .sliceArr es n x lo hi=>bE7 S es n (ev e x) (lo.map (ev e)) (hi.map (ev e)) k
 | .off n x=>df6 S (dz8 S n (ev e x)) k
 | .idx es x i=>dx7 S es (ev e x) (ev e i) k
 | .idxA ln es x i=>cX1 S ln es (ev e x) (ev e i) k
 | .fieldV o n agg x=>(match ev e x with
  | .agg cs=>cond agg (k (.agg (aM3 cs o n)) S) (df6 S (nth cs o) k)
  |_=>O)
 | .indexV ln es agg x i=>(match ev e x,ev e i with
  | .agg cs, .int _ i=>(ix i ln).bind λj=>cond agg (k (.agg (aM3 cs (j*es) es)) S) (gd (aB es 1&&aB cs.length ln) (cD2 cs j S k))
  |_,_=>O)
 | .indexS x i=>(match ev e x,ev e i with
  | .str l, .int _ i=>(rd l i).bind λb=>k (.int .u8 b) S
  |_,_=>O)
 | .extract x i=>(match ev e x with
  | .tup vs=>df6 S (nth vs i) k
  |_=>O)
 | .call f xs=>cW3 tab f (xs.map (ev e)) S k
 | .callv x xs=>(match ev e x with
  | .fn f a c=>cW3 tab f (a++xs.map (ev e)++c) S k
  |_=>O)
 | .append es bytes s x=>bR3 S es bytes (ev e s) (ev e x) k
 | .stuck=>O
 | .range x=>(match ev e x with
  | .str l=>k (.it S.length l) (S++[.cells 1 Zb [.int .i64 0]])
  |_=>O)
 | .next x=>do9 S (ev e x) k
 | .newB=>k (.bld S.length) (S++[.cells 1 Zb [.str []]])
 | .encR x=>(match bw3 (ev e x)with
  |some n=>k (.str (ca2 n)) S
  |none=>O)
 | .strOf x=>cU2 S (ev e x) k
 | .strOfR x=>dt1 S (ev e x) k
 | .runesOf x=>cT2 S (ev e x) k
 | .capN x=>(match ev e x with
  | .nils=>k (.int .i64 0) S
  |_=>O)
 | .sliceX x hi mx=>cz2 S (ev e x) (ev e hi) (ev e mx) k
 | .appendZ es bytes z s x=>bR4 S es bytes z (ev e s) (ev e x) k
 | .copy es d s=>dk7 S es (ev e d) (ev e s) k
 | .len x=>(match ev e x with
  | .str _=>O
  |v=>(match lenOf S v with
   |some n=>k (.int .i64 n) S
   |none=>O))
 | .lenS x=>(match ev e x with
  | .str l=>k (.int .i64 l.length) S
  |_=>O)
 | .lenC n=>k (.int .i64 n) S
 | .most x y=>(match ev e x,ev e y with
  | .int kd a, .int _ b=>k (.int kd (max a b)) S
  |_,_=>O)
 | .least x y=>(match ev e x,ev e y with
  | .int kd a, .int _ b=>k (.int kd (min a b)) S
  |_,_=>O)
section
variable (tab:Tab)
def bd2 {β:Type}:List AOper->gf->ci->(gf->ci->Option β)->Option β
 |[],e,S,k=>k e S
 |o::r,e,S,k=>match o.guard with
  |none=>bT6 tab o.op e S λv S'=>bd2 r (putO e o.dst v) S' k
  |some (t,w)=>match tq e t with
   | .bool p=>cond p
    (cond w (bT6 tab o.op (ya e t (.bool Za)) S λv S'=>bd2 r (putO (ya e t (.bool Za)) o.dst v) S' k) (bd2 r (putO (ya e t (.bool Za)) o.dst (.tup [])) S k))
    (cond w (bd2 r (putO (ya e t (.bool Zb)) o.dst (.tup [])) S k) (bT6 tab o.op (ya e t (.bool Zb)) S λv S'=>bd2 r (putO (ya e t (.bool Zb)) o.dst v) S' k))
   | .tup []=>bd2 r (putO e o.dst (.tup [])) S k
   |_=>O
def ao6 :VV->Option Nat
 | .ptr b _=>C b
 | .it b _=>C b
 | .bld b=>C b
 | .pix b _ _ _=>C b
 | .pel b _ _=>C b
 | .full b=>C b
 | .part b _ _=>C b
 |_=>O
def dj6 (S:ci)(v:VV):Option (Option Nat):=match v with
 | .pin _ _ _| .lst _ _| .nils=>C O
 |v=>(match ao6 v with
  |some b=>cond (cc S b).live (C (C b)) O
  |none=>O)
def du6 (S:ci)(op:AOp)(e:gf):Option (Option Nat):=match op with
 | .load x| .loadN _ x| .sliceArr _ _ x _ _| .slice _ x _ _=>dj6 S (ev e x)
 |_=>O
def df5 :Option Nat->List Nat
 |some b=>[b]
 |none=>[]
def aj9 :List FSum->Nat->List VV->ci->List Nat
 |[],_,_,_=>[]
 |F::r,f,args,S=>cond (aB F.f f) (match vn (bd6 F.vals args S) 0 [] F.ins args with
  |some st=>(match ofL F.ins.shs st.ls with
   |some _=>pa F.objs st.m
   |none=>aj9 r f args S)
  |none=>aj9 r f args S) (aj9 r f args S)
def cv3 (f:Nat)(args:List VV)(S:ci):List Nat:=cond (dx4 tab.is f) (bR9 S.length) (aj9 tab.fs f args S)
def bv6 (op:AOp)(e:gf)(S:ci):List Nat:=match op with
 | .store _ a _=>df5 (ao6 (ev e a))
 | .append _ _ s _=>df5 (ao6 (ev e s))
 | .appendZ _ _ _ s _=>df5 (ao6 (ev e s))
 | .copy _ d _=>df5 (ao6 (ev e d))
 | .next x=>df5 (ao6 (ev e x))
 | .call f xs=>cv3 tab f (xs.map (ev e)) S
 | .callv x xs=>(match ev e x with
  | .fn f a c=>cv3 tab f (a++xs.map (ev e)++c) S
  |_=>[])
 |_=>[]
abbrev Chk :=List (Nat×Option (Option Nat))
def bM2 (d:List Nat):Chk->Chk
 |[]=>[]
 |(i,C (C b))::r=>(i,cond (tx b d) O (C (C b)))::bM2 d r
 |x::r=>x::bM2 d r
def ta (is:List Nat):Chk->Bool
 |[]=>Za
 |(i,b)::r=>cond (tx i is) (match b with
  |some _=>ta is r
  |none=>Zb) (ta is r)
def bC1 {β:Type}(it:SItem)(chk:Chk)(e:gf)(S:ci)(k:Chk->gf->ci->Option β):Option β:=
 cond it.mover (gd (ta it.chks (bM2 (bv6 tab it.o.op e S) chk)) (bT6 tab it.o.op e S λv S'=>k (bM2 (bv6 tab it.o.op e S) chk) (putO e it.o.dst v) S'))
  (gd (it.o.op.still&&(!it.keep||it.o.op.isLoad)) (bT6 tab it.o.op e S λv S'=>k (cond it.keep ((it.idx,du6 S it.o.op e)::chk) chk) (putO e it.o.dst v) S'))
def ah5 {β:Type}:List SItem->Chk->gf->ci->(gf->ci->Option β)->Option β
 |[],_,e,S,k=>k e S
 |it::r,chk,e,S,k=>match it.o.guard with
  |none=>bC1 tab it chk e S λchk' e' S'=>ah5 r chk' e' S' k
  |some (t,w)=>match tq e t with
   | .bool p=>cond p
    (cond w (bC1 tab it chk (ya e t (.bool Za)) S λchk' e' S'=>ah5 r chk' e' S' k) (ah5 r chk (putO (ya e t (.bool Za)) it.o.dst (.tup [])) S k))
    (cond w (ah5 r chk (putO (ya e t (.bool Zb)) it.o.dst (.tup [])) S k) (bC1 tab it chk (ya e t (.bool Zb)) S λchk' e' S'=>ah5 r chk' e' S' k))
   | .tup []=>ah5 r chk (putO e it.o.dst (.tup [])) S k
   |_=>O
end
structure LItem where
 i:Nat
 kind:Nat
 chks:List Nat
 need:List Nat
def fj (ops:List (AOper×List Nat))(i:Nat):AOper:=match ops[i]? with
 |some (o,_)=>o
 |none=>⟨O, .lenC 0,O⟩
def cZ8 :VV->Bool
 | .int _ _| .bool _| .str _=>Za
 |_=>Zb
def cZ7 :Value->Bool
 | .int _ _| .bool _| .string _=>Za
 |_=>Zb
def aT1 {β:Type}(op:AOp)(e:gf)(k:Blk->Bool->Option β):Option β:=match op with
 | .alloc es z=>gd (aD 1 es) (k (bc6 es z) Zb)
 | .makeSlice es bytes z l c=>(match ev e l,ev e c,bI8 z with
  | .int _ l, .int _ c,C s=>gd (aB es s.w&&Zc (0<=l)&&Zc (l<=c)&&Zc (bytes*c<=140737488355328)&&aD 1 bytes) (k (.arr s Zb (bB l.toNat (ai2 s))) Za)
  |_,_,_=>O)
 | .buildSlice es ln z ps=>(match bH6 ((bB ln (z.map bL5)).flatten) (aJ8 e ps)with
  |some cs=>gd (wh cs&&aB (ln*es) cs.length&&aD 1 es&&cs.all cZ8&&z.all cZ7) (k (.cells es Zb cs) Za)
  |none=>O)
 |_=>O
def vvF (w:Bool)(k:Nat):VV:=cond w (.full k) (.ptr k 0)
section
variable (tab:Tab)
def evL {β:Type}(ops:List (AOper×List Nat)):List LItem->Chk->gf->ci->(gf->ci->Option β)->Option β
 |[],_,e,S,k=>k e S
 |it::r,chk,e,S,k=>
  cond (aB it.kind 3) (aT1 (fj ops it.i).op e λ_ _=>evL ops r chk e S k)<|
  cond (aB it.kind 2) (aT1 (fj ops it.i).op e λblk w=>evL ops r chk (putO e (fj ops it.i).dst (vvF w S.length)) (S++[blk]) k)
  (cond (aB it.kind 1)
   (bT6 tab (fj ops it.i).op e S λv S'=>gd (ta it.chks (bM2 (bv6 tab (fj ops it.i).op e S) chk)&&ta it.need (bM2 (bv6 tab (fj ops it.i).op e S) chk)) (evL ops r (bM2 (bv6 tab (fj ops it.i).op e S) chk) (putO e (fj ops it.i).dst v) S' k))
   (gd (fj ops it.i).op.still (bT6 tab (fj ops it.i).op e S λv S'=>gd (ta it.need (cond (fj ops it.i).op.isLoad ((it.i,du6 S (fj ops it.i).op e)::chk) chk)) (evL ops r (cond (fj ops it.i).op.isLoad ((it.i,du6 S (fj ops it.i).op e)::chk) chk) (putO e (fj ops it.i).dst v) S' k))))
end
def cH6 :Operand->List Nat
 | .tmp t=>[t]
 |_=>[]
def aH1 :AOp->List Nat
 | .makeSlice _ _ _ l c=>cH6 l++cH6 c
 | .buildSlice _ _ _ ps=>ps.flatMap λp=>cH6 p.2.2
 |_=>[]
def cF9 :AOp->Bool
 | .alloc es _=>aD 1 es
 |_=>Zb
def aB5 :AOp->Bool
 | .alloc _ _| .makeSlice _ _ _ _ _=>Za
 | .buildSlice _ _ z _=>z.all cZ7
 |_=>Zb
def bw9 (d:Option Nat)(l:List Nat):Bool:=match d with
 |some t=> !tx t l
 |none=>Za
def neO (d d':Option Nat):Bool:=match d,d' with
 |some t,C t'=> !Nat.beq t t'
 |_,_=>Za
def bm7 (i:Nat):List Nat->List Nat
 |[]=>[]
 |a::r=>cond (aB a i) r (a::bm7 i r)
def aU6 :List LItem->List Nat->Nat->Option (List Nat×LItem×List LItem)
 |[],_,_=>O
 |it::r,P,i=>cond (aB it.kind 3) (aU6 r P i)<|cond (aB it.kind 2) (cond (tx it.i P) (aU6 r (bm7 it.i P) i) O) (cond (aB it.i i) (C (P,it,r)) O)
def cP9 :List LItem->List Nat->Bool
 |[],P=>P.isEmpty
 |it::r,P=>cond (aB it.kind 3) (cP9 r P) (aB it.kind 2&&tx it.i P&&cP9 r (bm7 it.i P))
def dL5 :AOp->Bool
 | .move _=>Za
 |_=>Zb
def bU5 (ops:List (AOper×List Nat)):List LItem->Nat->Bool
 |[],_=>Zb
 |it::r,m=>cond (aB it.kind 3) (aB it.i m||bU5 ops r m)<|(aB it.kind 2&&(aB it.i m||(bw9 (fj ops it.i).dst (aH1 (fj ops m).op)&&bU5 ops r m)))||(aB it.kind 0&&dL5 (fj ops it.i).op&&bw9 (fj ops it.i).dst (aH1 (fj ops m).op)&&bU5 ops r m)
def bm8 (ops:List (AOper×List Nat))(self:Nat)(ex:Bool)(P:List Nat)(r:List LItem):Bool:=
 P.all (λq=>neO (fj ops self).dst (fj ops q).dst&&bw9 (fj ops self).dst (aH1 (fj ops q).op))&&
 r.all λit=> !Nat.beq it.kind 2||(ex&&aB it.i self)||neO (fj ops self).dst (fj ops it.i).dst
def cu9 (ops:List (AOper×List Nat)):Nat->List Nat->List Nat->List Nat->List Nat->List LItem->Bool
 |0,_,P,_,_,r=>cP9 r P
 |f+1,D,P,ls,nd,r=>match mw ops D with
  |some i=>(fj ops i).guard.isNone&&(match aU6 r P i with
   |some (P',it,r')=>aB it.kind 0&&bm8 ops i Zb P' r'&&cu9 ops f (i::D) P' (cond (fj ops i).op.isLoad (i::ls) ls) it.need r'
   |none=>Zb)
  |none=>match ge ops D with
   |[]=>cP9 r P
   |ms=>ms.all λm=>(fj ops m).guard.isNone&&cond (aB5 (fj ops m).op)
    (!tx m P&&r.any (λit=>aB it.kind 2&&aB it.i m)&&(cF9 (fj ops m).op||bU5 ops r m)&&bm8 ops m Za P r&&bw9 (fj ops m).dst (aH1 (fj ops m).op)&&ls.all (λi=>ar3 ops i m||tx i nd)&&cu9 ops f (m::D) (m::P) ls nd r)
    (match aU6 r P m with
    |some (P',it,r')=>aB it.kind 1&&bm8 ops m Zb P' r'&&ls.all (λi=>ar3 ops i m||tx i it.chks)&&cu9 ops f (m::D) P' ls it.need r'
    |none=>Zb)
def aT3 (ops:List (AOper×List Nat))(all:List Nat):List Nat->List Nat->List LItem
 |[],_=>[]
 |i::r,ls=>
  cond (aD 1000 i) (⟨i-1000,3,[],[]⟩::aT3 ops all r ls)<|
  let o:=(fj ops i).op
  let ls':=cond o.isLoad (i::ls) ls
  let fr:=r.filter λm=>aB5 (fj ops m).op
  ⟨i,cond (aB5 o) 2 (cond o.still 0 1),ls.filter λj=> !ar3 ops j i,ls'.filter λj=>fr.any λm=> !ar3 ops j m⟩::aT3 ops all r ls'
def ch7 (ops:List (AOper×List Nat)):List LItem->Bool
 |[]=>Za
 |it::r=>r.all (λj=> !Nat.beq it.kind 2|| !Nat.beq j.kind 2||neO (fj ops it.i).dst (fj ops j.i).dst)&&ch7 ops r
def bh5 (ops:List (AOper×List Nat)):List LItem->List Nat
 |[]=>[]
 |it::r=>cond (aB it.kind 2) ((match(fj ops it.i).dst with
  |some d=>[d]
  |none=>[])++bh5 ops r) (bh5 ops r)
inductive AT where
 |no
 |n (l r:AT)
 |lp (fx:List Nat) (head:Alt) (exits:List Alt) (b:AT)
 |jn (fx mov:List Nat) (exits:List Alt) (l r:AT)
 |sz (n:Nat) (l r:AT)
 |dr (L:List Nat)
def dM3 :List VV->Nat
 |[]=>0
 | .nilp::r=>dM3 r+1
 |_::r=>dM3 r
def dL7 :Nat->ci->Nat
 |_,[]=>0
 |k, .cells _ _ l::r=>k*dM3 l+dL7 (k+1) r
 |k,_::r=>dL7 (k+1) r
def dm7 (S:ci):Nat:=S.length+1000*dL7 1 S
def AT.at (n:Nat):AT->AT
 | .sz m l r=>cond (aB m n) l (r.at n)
 |t=>t
def cI4 (e:gf):List Nat->List VV->gf
 |t::ts,v::vs=>ya (cI4 e ts vs) t v
 |_,_=>e
def bc9 (e:gf):List Nat->gf
 |[]=>e
 |t::ts=>ya (bc9 e ts) t .undef
def cv4 :Option Nat->List Nat
 |some d=>[d]
 |none=>[]
def qf :AC->List Nat
 | .region ops=>ops.flatMap λo=>cv4 o.dst
 | .draw ops=>ops.flatMap λo=>cv4 o.1.dst
 | .sched its=>its.flatMap λi=>cv4 i.o.dst
 | .seq a b| .cond _ a b=>qf a++qf b
 | .block _ b| .loop b=>qf b
 |_=>[]
def XK.is :XK->AExit->Bool
 | .normal, .normal=>Za
 | .exit i, .exit j=>aB i j
 | .ret, .ret=>Za
 |_,_=>Zb
def XK.out :XK->AExit
 | .normal=> .normal
 | .exit i=> .exit i
 | .ret=> .ret
def om (fx mov:List Nat)(fz:Bool):Nat->ci->ci
 |_,[]=>[]
 |i,b::r=>cond (tx i mov) (cond b.frozen b .dead) (cond (tx i fx) b (cond fz b.freeze b))::om fx mov fz (i+1) r
def be1 :AC->Bool
 | .seq a b| .cond _ a b=>be1 a&&be1 b
 | .block _ b| .loop b=>be1 b
 |_=>Za
def cj {α γ:Type}(f:α->Option (α⊕γ))(n:Nat):α->Option γ:=
 Nat.rec (λ_=>O) (λ_ ih a=>(f a).bind λs=>da s ih C) n
def gi :Nat:=18446744073709551616
def bf0 (e0:gf)(S:ci)(fx mov asg:List Nat)(fz:Bool)(ts:List Nat)(sk:SSk)(t:Tup sk.shs):Option (gf×ci):=
 match wY id sk (toL sk.shs t)with
 |some (vals,fs,bs)=>(match ap9 fx fs (om fx mov (fz||aV5 vals fs bs) 0 S)with
  |some S'=>C (cI4 (bc9 e0 asg) ts vals,S'++bs)
  |none=>O)
 |none=>O
def dx2 {β:Type}(e0:gf)(S:ci)(fx mov asg:List Nat)(exits:List Alt)(s:ao4 exits)(k:AExit->gf->ci->Option β):Option β:=
 dj3 exits s λa t=>match bf0 e0 S fx mov asg Zb a.ts a.sk t with
  |some (e,S')=>k a.x.out e S'
  |none=>O
def bV5 (F:AT->(β:Type)->gf->ci->(AExit->gf->ci->Option β)->Option β):AT->(β:Type)->gf->ci->(AExit->gf->ci->Option β)->Option β
 | .n l r,β,e,S,k=>F l β e S λx e' S'=>match x with
  | .normal=>bV5 F r β e' S' k
  |x=>k x e' S'
 | .sz m l r,β,e,S,k=>cond (aB m S.length) (bV5 F l β e S k) (bV5 F r β e S k)
 |_,_,_,_,_=>O
def AT.rounds :AT->Nat
 | .n _ r=>r.rounds+1
 | .sz _ l r=>l.rounds+r.rounds
 |_=>0
def eval (tab:Tab):AC->AT->(β:Type)->gf->ci->(AExit->gf->ci->Option β)->Option β
 | .skip,_,_,e,S,k=>k .normal e S
 | .exit i,_,_,e,S,k=>k (.exit i) e S
 | .ret,_,_,e,S,k=>k .ret e S
 | .region ops,_,_,e,S,k=>bd2 tab ops e S λe' S'=>k .normal e' S'
 | .sched its,_,_,e,S,k=>ah5 tab its [] e S λe' S'=>k .normal e' S'
 | .draw ops,at',_,e,S,k=>(match at'.at (dm7 S)with
  | .dr L=>gd (cu9 ops ops.length [] [] [] [] (aT3 ops L L [])&&ch7 ops (aT3 ops L L [])) (evL tab ops (aT3 ops L L []) [] (bc9 e (bh5 ops (aT3 ops L L []))) S λe' S'=>k .normal e' S')
  |_=>O)
 | .seq a b,at',β,e,S,k=>
  (match at'.at (dm7 S)with
  | .jn fx mov exits l r=>gd (bL6 S fx&&be1 a) ((eval tab a l (ao4 exits) e (om (fx++mov) [] Za 0 S) λx e' S'=>ar5 S' S.length fx (λts=>ts.map (tq e')) (λy=>y.is x) exits).bind λs=>
    dx2 e S fx mov (qf a) exits s λx e' S'=>match x with
     | .normal=>eval tab b r β e' S' k
     |x=>k x e' S')
  | .n l r=>eval tab a l β e S λx e' S'=>match x with
   | .normal=>eval tab b r β e' S' k
   |x=>k x e' S'
  |_=>eval tab a .no β e S λx e' S'=>match x with
   | .normal=>eval tab b .no β e' S' k
   |x=>k x e' S')
 | .cond c a b,at',β,e,S,k=>
  (match ev e c with
  | .bool p=>(match c,at'.at (dm7 S)with
   | .tmp t, .n l r=>cond p (eval tab a l β (ya e t (.bool Za)) S k) (eval tab b r β (ya e t (.bool Zb)) S k)
   | .tmp t,_=>cond p (eval tab a .no β (ya e t (.bool Za)) S k) (eval tab b .no β (ya e t (.bool Zb)) S k)
   |_, .n l r=>cond p (eval tab a l β e S k) (eval tab b r β e S k)
   |_,_=>cond p (eval tab a .no β e S k) (eval tab b .no β e S k))
  |_=>O)
 | .block id b,at',β,e,S,k=>
  eval tab b (match at'.at (dm7 S)with
   | .n l _=>l
   |_=> .no) β e S λx e' S'=>match x with
   | .exit i=>cond (aB i id) (k .normal e' S') (k (.exit i) e' S')
   |x=>k x e' S'
 | .loop b,at',_,e,S,k=>
  (match at'.at (dm7 S)with
  | .lp fx head exits l=>gd (head.sk.noRo&&bL6 S fx&&be1 b) (match vn S S.length fx head.sk (head.ts.map (tq e))with
   |some st=>(ofL head.sk.shs st.ls).bind λt0=>
    (cj (λt=>match bf0 e S fx (vo st.m) (qf b) Za head.ts head.sk t with
     |some (e1,S1)=>eval tab b l (Tup head.sk.shs⊕ao4 exits) e1 S1 λx e' S'=>(match x with
      | .normal=>(bo9 S' S.length fx head.sk (head.ts.map (tq e'))).bind λt=>C (.inl t)
      |x=>(ar5 S' S.length fx (λts=>ts.map (tq e')) (λy=>y.is x) exits).bind λs=>C (.inr s))
     |none=>O) gi t0).bind λs=>dx2 e S fx (vo st.m) (qf b) exits s k
   |none=>O)
  |_=>bV5 (eval tab b) at' _ e S k)
def dB9 (e:gf)(S:ci):ARes->Option VV
 | .tmp t=>C (tq e t)
 | .cell t=>(match tq e t with
  | .ptr b o=>(match cc S b with
   | .cells _ _ l=>nth l o
   |_=>O)
  |_=>O)
 | .cellN t n=>(match tq e t with
  | .ptr b o=>(match cc S b with
   | .cells _ _ l=>cond (aD (o+n) l.length) (C (.agg ((l.drop o).take n))) O
   |_=>O)
  |_=>O)
def by2 (e:gf)(S:ci):List ARes->Option (List VV)
 |[]=>C []
 |r::rs=>(dB9 e S r).bind λv=>(by2 e S rs).bind λvs=>C (v::vs)
def cL8 :List VV->VV
 |[v]=>v
 |vs=> .tup vs
def ir (P:Program)(f:FuncId)(tab:Tab)(at':AT):(β:Type)->List VV->ci->(VV->ci->Option β)->Option β:=λβ args S k=>
 match cL6 P f with
 |some a=>gd (aD args.length a.ntmps) (eval tab a.body at' β args S λx e S'=>match x with
  | .exit _=>O
  |_=>(match by2 e S' a.results with
   |some rs=>k (cL8 rs) S'
   |none=>O))
 |none=>O
def bT8 (P:Program)(f:FuncId)(tab:Tab)(vals:List Sk)(objs:List OSk)(outs:List Alt)(at':AT)(t:Tup (SSk.shs ⟨vals,[],objs⟩)):Option (ao4 outs):=
 match cL6 P f,wY id ⟨vals,[],objs⟩ (toL _ t)with
 |some a,C (vs,_,S)=>gd (aD vs.length a.ntmps) (eval tab a.body at' (ao4 outs) vs S λx e S'=>match x with
  | .exit _=>O
  |_=>(match by2 e S' a.results with
   |some rs=>ar5 S' S.length (ah6 objs 0) (λ_=>[cL8 rs]) (λ_=>Za) outs
   |none=>O))
 |_,_=>O
end
section
open Nat renaming lt_of_lt_of_le -> aB
structure Ctx where
 Z:Nat->Option Nat
 S:ci
 Y:Hp
 fb:Nat->Prop
def Blk.dim :Blk->Option (Nat×Nat)
 | .dead=>O
 | .cells es _ l=>C (es,l.length)
 | .arr s _ l=>C (s.w,l.length*s.w)
def Blk.vals :Blk->List VV
 | .dead=>[]
 | .cells _ _ l=>l
 | .arr s _ l=>io s l
def Ctx.own (c:Ctx)(b:Nat):Prop:= ∃k,(cc c.S k).frozen=Zb/\c.Z k=C b
def Ctx.mut (c:Ctx)(b:Nat):Prop:=c.own b∨c.fb b
def SlR (c:Ctx)(k lo n:Nat)(d:Nat×Nat)(a:Value):Prop:=
 (a= .slice O 0 0/\lo=0/\n=0/\c.Z k=O/\d.2=0)∨
 ∃b cp y,a= .slice (C ⟨b,lo*d.1,O⟩) n cp/\c.Z k=C b/\(lo+n)*d.1<=d.2/\n<=cp/\c.Y.m b=C y/\(lo+cp)*d.1<=y.cells.length
inductive VRel (c:Ctx):VV->Value->Prop where
 |undef (a:Value):VRel c .undef a
 |bool (b:Bool):VRel c (.bool b) (.bool b)
 |int (k:IntKind) (n:Int):VRel c (.int k n) (.int k n)
 |str {l:Zd} {s:ByteArray}:fp s=l->VRel c (.str l) (.string s)
 |nilp:VRel c .nilp (.pointer O)
 |nils:VRel c .nils (.slice O 0 0)
 |nilf:VRel c .nilf .nilFunc
 |ptr {k o:Nat} {a:Value}:k<c.S.length->one a=Za->(∀d,(cc c.S k).dim=C d->∃b,c.Z k=C b/\a= .pointer (C ⟨b,o,O⟩))->VRel c (.ptr k o) a
 |it {k:Nat} {l:Zd} {s:ByteArray} {a:Value}:k<c.S.length->one a=Za->fp s=l->(∀d,(cc c.S k).dim=C d->∃b,c.Z k=C b/\a= .iface b (.string s))->VRel c (.it k l) a
 |bld {k:Nat} {a:Value}:k<c.S.length->one a=Za->(∀d,(cc c.S k).dim=C d->∃b,c.Z k=C b/\a= .iface b .nilFunc)->VRel c (.bld k) a
 |pix {k o n i:Nat} {a:Value}:k<c.S.length->one a=Za->i<n->(∀d,(cc c.S k).dim=C d->∃b,c.Z k=C b/\a= .pointer (C ⟨b,o+i,O⟩))->VRel c (.pix k o n i) a
 |pel {k i o:Nat} {a:Value}:k<c.S.length->one a=Za->(∀d,(cc c.S k).dim=C d->∃b,c.Z k=C b/\a= .pointer (C ⟨b,i*d.1+o,O⟩))->VRel c (.pel k i o) a
 |pin {s:Sh} {x:El s} {o b p:Nat} {y:Ab.Blk}: ¬c.mut b->c.Y.m b=C y->p+s.w<=y.cells.length->F2 (VRel c) (gk s x) ((y.cells.drop p).take s.w)->VRel c (.pin s x o) (.pointer (C ⟨b,p+o,O⟩))
 |lstn {s:Sh} {q:Option Addr}:(∀z,q=C z->z.spot=O)->VRel c (.lst s []) (.slice q 0 0)
 |lst {s:Sh} {l:List (El s)} {b p n cp:Nat} {y:Ab.Blk}: ¬c.mut b->c.Y.m b=C y->y.es=s.w->n=l.length->n<=cp->p+n*s.w<=y.cells.length->
   F2 (VRel c) (io s l) ((y.cells.drop p).take (n*s.w))->VRel c (.lst s l) (.slice (C ⟨b,p,O⟩) n cp)
 |tgtn {s:Sh} {a:Value}:(a= .slice O 0 0∨∃b o,a= .slice (C ⟨b,o,C 0⟩) 0 0)->VRel c (.tgt s []) a
 |tgt {s:Sh} {l:List (El s)} {b p:Nat} {y:Ab.Blk}: ¬c.mut b->c.Y.m b=C y->y.es=s.w->p+l.length*s.w<=y.cells.length->
   F2 (VRel c) (io s l) ((y.cells.drop p).take (l.length*s.w))->VRel c (.tgt s l) (.slice (C ⟨b,p,C 0⟩) l.length l.length)
 |full {k:Nat} {a:Value}:k<c.S.length->one a=Za->(∀d,(cc c.S k).dim=C d->∃n,n*d.1=d.2/\SlR c k 0 n d a)->VRel c (.full k) a
 |part {k lo n:Nat} {a:Value}:k<c.S.length->one a=Za->(∀d,(cc c.S k).dim=C d->SlR c k lo n d a)->VRel c (.part k lo n) a
 |fn {f:Nat} {a b:List VV} {a' b':Array Value}:F2 (VRel c) a a'.toList->F2 (VRel c) b b'.toList->VRel c (.fn f a b) (.func (.func f) a' b')
 |agg {l:List VV} {l':Array Value}:F2 (VRel c) l l'.toList->VRel c (.agg l) (.agg l')
 |tup {l:List VV} {l':Array Value}:F2 (VRel c) l l'.toList->VRel c (.tup l) (.tuple l')
def bN4 (c:Ctx)(k:Nat):Prop:= ∀d,(cc c.S k).dim=C d->1<=d.1/\
 ((d.2=0/\c.Z k=O)∨∃b y cs rest,c.Z k=C b/\c.Y.m b=C y/\y.es=d.1/\((cc c.S k).frozen=Zb->y.own=Za)/\y.cells=cs++rest/\F2 (VRel c) (cc c.S k).vals cs)
structure gw (c:Ctx):Prop where
 ok:c.Y.Ok
 inj: ∀k k' b,(cc c.S k).frozen=Zb->(cc c.S k').dim≠O->c.Z k=C b->c.Z k'=C b->k=k'
 blk: ∀k,bN4 c k
 fbk: ∀k b,(cc c.S k).dim≠O->c.Z k=C b->¬c.fb b
 fbl: ∀b,c.fb b->b<c.Y.n
structure Le (c c':Ctx):Prop where
 len:c.S.length<=c'.S.length
 al: ∀k d,k<c.S.length->(cc c'.S k).dim=C d->(cc c.S k).dim=C d/\c'.Z k=c.Z k
 fz: ∀k,(cc c.S k).frozen=Za->(cc c.S k).dim≠O->cc c'.S k=cc c.S k
 ln: ∀k d b y,k<c.S.length->(cc c'.S k).dim=C d->c.Z k=C b->c.Y.m b=C y->∃y',c'.Y.m b=C y'/\y'.cells.length=y.cells.length
 un: ∀b y,c.Y.m b=C y->¬c.own b->c'.Y.m b=C y
 ow: ∀b y,c.Y.m b=C y->¬c.own b->¬c'.own b
 n:c.Y.n<=c'.Y.n
 fb:c'.fb=c.fb
theorem Le.rd {c c':Ctx}(h:Le c c')(b:Nat)(y:Ab.Blk)(hy:c.Y.m b=C y)(hn: ¬c.mut b):c'.Y.m b=C y/\¬c'.mut b:=by
 have h1: ¬c.own b:=λe=>hn (.inl e)
 refine⟨h.un b y hy h1,λe=> ?_⟩;rcases e with e|e
 .exact h.ow b y hy h1 e
 .rw[h.fb]at e;exact hn (.inr e)
def am3 (d:List Nat)(c c':Ctx):Prop:= ∀k,k<c.S.length->k∉d->(cc c.S k).dim≠O->(cc c'.S k).dim≠O/\∀b,c.Z k=C b->c'.Y.m b=c.Y.m b
theorem ud {S:ci}{k:Nat}(h:(cc S k).dim≠O):k<S.length:=by
 induction S generalizing k with
 |nil=>exact(h rfl).elim
 |cons b r ih=>
  cases k with
  |zero=>exact Nat.zero_lt_succ _
  |succ k=>exact Nat.succ_lt_succ (ih h)
theorem ap7 {S:ci}{k:Nat}(h:S.length<=k):cc S k= .dead:=by
 induction S generalizing k with
 |nil=>rfl
 |cons b r ih=>
  cases k with
  |zero=>simp at h
  |succ k=>exact ih (by simpa using h)
theorem bf3 {S:ci}{k:Nat}{b:Blk}:(ql S k b).length=S.length:=by
 induction S generalizing k with
 |nil=>rfl
 |cons a r ih=>cases k<;>simp[ql,ih]
theorem ax9 {S:ci}{k i:Nat}{b:Blk}:cc (ql S k b) i=if i=k/\k<S.length then b else cc S i:=by
 induction S generalizing k i with
 |nil=>simp[ql]
 |cons a r ih=>
  cases k with
  |zero=>cases i<;>simp[ql,cc]
  |succ k=>
   cases i with
   |zero=>simp[ql,cc]
   |succ i=>simp[ql,cc,ih]
theorem cZ9 {S:ci}{k:Nat}{b:Blk}(h:k<S.length):cc (ql S k b) k=b:=by rw[ax9,xB ⟨rfl,h⟩]
theorem dC7 {S:ci}{k i:Nat}{b:Blk}(h:i≠k):cc (ql S k b) i=cc S i:=by rw[ax9,xD (λe=>h e.1)]
theorem uv {S:ci}{l:List Blk}{k:Nat}(h:k<S.length):cc (S++l) k=cc S k:=by
 induction S generalizing k with
 |nil=>simp at h
 |cons a r ih=>
  cases k with
  |zero=>rfl
  |succ k=>exact ih (by simpa using h)
theorem ad3 {S:ci}{l:List Blk}{k:Nat}:cc (S++l) (S.length+k)=cc l k:=by
 induction S with
 |nil=>simp
 |cons a r ih=>
  have:(a::r).length+k=(r.length+k)+1:=by simp;omega
  rw[this];exact ih
theorem cK6 {S:ci}{b:Blk}:cc (S++[b]) S.length=b:=by
 exact @ad3 S [b] 0
theorem tn {b:Blk}(h:b.frozen=Zb):b.dim≠O:=by cases b<;>simp[Blk.frozen,Blk.dim]at*
theorem iw {b:Blk}:b.freeze.dim=b.dim:=by cases b<;>rfl
theorem bJ2 {b:Blk}:b.freeze.vals=b.vals:=by cases b<;>rfl
theorem ut {b:Blk}:b.freeze.frozen=Za:=by cases b<;>rfl
theorem aM5 {b:Blk}(h:b.frozen=Za):b.freeze=b:=by cases b<;>simp[Blk.frozen,Blk.freeze]at* <;>simp[h]
theorem Le.refl (c:Ctx):Le c c:=⟨Nat.le_refl _,λ_ _ _ h=>⟨h,rfl⟩,λ_ _ _=>rfl,λ_ _ _ y _ _ _ hy=>⟨y,hy,rfl⟩,λ_ _ h _=>h,λ_ _ _ h=>h,Nat.le_refl _,rfl⟩
theorem Le.trans {a b c:Ctx}(h:Le a b)(k:Le b c):Le a c:=by
 refine⟨Nat.le_trans h.len k.len,λi d hi hd=> ?_,λi hf hd=> ?_,λi d x y hi hd hm hy=> ?_,λx y hy hn=>k.un x y (h.un x y hy hn) (h.ow x y hy hn),λx y hy hn=>k.ow x y (h.un x y hy hn) (h.ow x y hy hn),Nat.le_trans h.n k.n,k.fb.trans h.fb⟩
 .obtain⟨h1,h2⟩:=k.al i d (aB hi h.len) hd;obtain⟨h3,h4⟩:=h.al i d hi h1;exact⟨h3,h2.trans h4⟩
 .have h1:=h.fz i hf hd;rw[k.fz i (by rw[h1];exact hf) (by rw[h1];exact hd),h1]
 .obtain⟨h1,h2⟩:=k.al i d (aB hi h.len) hd;obtain⟨y1,h3,h4⟩:=h.ln i d x y hi h1 hm hy;obtain⟨_,h6⟩:=h.al i d hi h1;obtain⟨y2,h5,h7⟩:=k.ln i d x y1 (aB hi h.len) hd (h6.trans hm) h3;exact⟨y2,h5,h7.trans h4⟩
theorem am3.refl (d:List Nat)(c:Ctx):am3 d c c:=λ_ _ _ h=>⟨h,λ_ _=>rfl⟩
theorem SlR.frame {c c':Ctx}(h:Le c c'){k lo n:Nat}{d:Nat×Nat}{a:Value}(hk:k<c.S.length)(hd:(cc c'.S k).dim=C d)(hs:SlR c k lo n d a):SlR c' k lo n d a:=by
 obtain⟨h1,h2⟩:=h.al k d hk hd;rcases hs with⟨rfl,rfl,rfl,hm,hz⟩|⟨b,cp,y,rfl,hm,h3,h4,hy,h5⟩
 .exact .inl ⟨rfl,rfl,rfl,h2.trans hm,hz⟩
 .obtain⟨y',hy',hl⟩:=h.ln k d b y hk hd hm hy;exact .inr ⟨b,cp,y',rfl,h2.trans hm,h3,h4,hy',by rw[hl];exact h5⟩
theorem VRel.frame {c c':Ctx}(h:Le c c'): ∀{v:VV} {a:Value},VRel c v a->VRel c' v a
 |_,_, .undef a=> .undef a
 |_,_, .bool b=> .bool b
 |_,_, .int k n=> .int k n
 |_,_, .str hs=> .str hs
 |_,_, .nilp=> .nilp
 |_,_, .nils=> .nils
 |_,_, .nilf=> .nilf
 |_,_, .ptr hk h1 hd=> .ptr (aB hk h.len) h1 λd hd'=>by
  obtain⟨h1,h2⟩:=h.al _ d hk hd';obtain⟨b,h3,h4⟩:=hd d h1;exact⟨b,h2.trans h3,h4⟩
 |_,_, .it hk h1 hs hd=> .it (aB hk h.len) h1 hs λd hd'=>by
  obtain⟨h1,h2⟩:=h.al _ d hk hd';obtain⟨b,h3,h4⟩:=hd d h1;exact⟨b,h2.trans h3,h4⟩
 |_,_, .bld hk h1 hd=> .bld (aB hk h.len) h1 λd hd'=>by
  obtain⟨h1,h2⟩:=h.al _ d hk hd';obtain⟨b,h3,h4⟩:=hd d h1;exact⟨b,h2.trans h3,h4⟩
 |_,_, .pix hk h1 hi hd=> .pix (aB hk h.len) h1 hi λd hd'=>by
  obtain⟨h1,h2⟩:=h.al _ d hk hd';obtain⟨b,h3,h4⟩:=hd d h1;exact⟨b,h2.trans h3,h4⟩
 |_,_, .pel hk h1 hd=> .pel (aB hk h.len) h1 λd hd'=>by
  obtain⟨h1,h2⟩:=h.al _ d hk hd';obtain⟨b,h3,h4⟩:=hd d h1;exact⟨b,h2.trans h3,h4⟩
 |_,_, .pin hn hy hl hf=> .pin (h.rd _ _ hy hn).2 (h.rd _ _ hy hn).1 hl (go hf)
 |_,_, .lstn hq=> .lstn hq
 |_,_, .lst hn hy he h1 h2 h3 hf=> .lst (h.rd _ _ hy hn).2 (h.rd _ _ hy hn).1 he h1 h2 h3 (go hf)
 |_,_, .tgtn hq=> .tgtn hq
 |_,_, .tgt hn hy he h3 hf=> .tgt (h.rd _ _ hy hn).2 (h.rd _ _ hy hn).1 he h3 (go hf)
 |_,_, .full hk h1 hd=> .full (aB hk h.len) h1 λd hd'=>by
  obtain⟨h1,h2⟩:=h.al _ d hk hd';obtain⟨n,h3,h4⟩:=hd d h1;exact⟨n,h3,h4.frame h hk hd'⟩
 |_,_, .part hk h1 hd=> .part (aB hk h.len) h1 λd hd'=>by
  obtain⟨h1,h2⟩:=h.al _ d hk hd';exact(hd d h1).frame h hk hd'
 |_,_, .fn h1 h2=> .fn (go h1) (go h2)
 |_,_, .agg h1=> .agg (go h1)
 |_,_, .tup h1=> .tup (go h1)
where
 go: ∀{l:List VV} {m:List Value},F2 (VRel c) l m->F2 (VRel c') l m
  |_,_, .nil=> .nil
  |_,_, .cons h1 h2=> .cons (VRel.frame h h1) (go h2)
theorem VRel.frames {c c':Ctx}(h:Le c c'){l:List VV}{m:List Value}(hf:F2 (VRel c) l m):F2 (VRel c') l m:=hf.imp λ_ _ hv=>hv.frame h
def kq {β:Type}(c:Ctx)(d:List Nat)(k:VV->ci->Option β)(y:β)(v:Value)(Y':Hp):Prop:=
 ∃vv c',c'.Y=Y'/\Le c c'/\gw c'/\am3 d c c'/\VRel c' vv v/\k vv c'.S=C y
theorem kq.same {β:Type}{c:Ctx}{d:List Nat}{k:VV->ci->Option β}{y:β}{v:Value}{vv:VV}(hR:gw c)(hv:VRel c vv v)(hk:k vv c.S=C y):kq c d k y v c.Y:=
 ⟨vv,c,rfl,Le.refl c,hR,am3.refl d c,hv,hk⟩
end
section
open List renaming length_append -> bB, take_of_length_le -> bD, length_cons -> cD, length_drop -> dB, take_append -> dD
open Nat renaming succ_mul -> aB, le_refl -> aD, mul_le_mul_right -> cB
theorem uy : ∀s:Sh,1<=s.w
 | .int _=>aD _
 | .bool=>aD _
 | .str=>aD _
 | .list _=>aD _
 | .pair a _=>Nat.le_trans (uy a) (Nat.le_add_right _ _)
theorem gp : ∀(s:Sh) (x:El s),(gk s x).length=s.w
 | .int _,_=>rfl
 | .bool,_=>rfl
 | .str,_=>rfl
 | .list _,_=>rfl
 | .pair a b,x=>by
  simp only[gk,bB,Sh.w];rw[gp a,gp b]
theorem bh3 {s:Sh}:io s []=[]:=rfl
theorem jr {s:Sh}{x:El s}{l:List (El s)}:io s (x::l)=gk s x++io s l:=rfl
theorem jx {s:Sh}{l:List (El s)}:(io s l).length=l.length*s.w:=by
 induction l with
 |nil=>simp[bh3]
 |cons x l ih=>rw[jr,bB,gp,ih,cD,aB,Nat.add_comm]
theorem ax4 {s:Sh}{l m:List (El s)}:io s (l++m)=io s l++io s m:=List.flatMap_append
theorem qg {s:Sh}{l:List (El s)}{n:Nat}:io s (l.take n)=(io s l).take (n*s.w):=by
 induction l generalizing n with
 |nil=>simp[bh3]
 |cons x l ih=>
  cases n with
  |zero=>simp[bh3]
  |succ n=>
   rw[List.take_succ_cons,jr,jr,ih,dD,gp];have h1:(n+1)*s.w-s.w=n*s.w:=by rw[aB];omega
   rw[h1,bD (l:=gk s x) (by rw[gp,aB];omega)]
theorem aB4 {s:Sh}{l:List (El s)}{n:Nat}:io s (l.drop n)=(io s l).drop (n*s.w):=by
 induction l generalizing n with
 |nil=>simp[bh3]
 |cons x l ih=>
  cases n with
  |zero=>simp
  |succ n=>
   rw[List.drop_succ_cons,jr,ih,List.drop_append,gp];have h1:(n+1)*s.w-s.w=n*s.w:=by rw[aB];omega
   rw[h1,List.drop_of_length_le (l:=gk s x) (by rw[gp,aB];omega),List.nil_append]
theorem bC3 {s:Sh}{l:List (El s)}{i:Nat}{x:El s}(h:l[i]?=C x):((io s l).drop (i*s.w)).take s.w=gk s x:=by
 rw[<-aB4]
 have hi:i<l.length:=by
  rcases Nat.lt_or_ge i l.length with h1|h1
  .exact h1
  .rw[List.getElem?_eq_none h1]at h;cases h
 have h2:l.drop i=x::l.drop (i+1):=by
  rw[List.drop_eq_getElem_cons hi];rw[List.getElem?_eq_getElem hi]at h;injection h with h
  rw[h]
 rw[h2,jr,dD,gp,Nat.sub_self,List.take_zero,List.append_nil,bD (by rw[gp];exact aD _)]
theorem sv {s' s:Sh}{x:El s'}{y:El s}(h:rk s' s x=C y): ∃e:s'=s,y=e▸x:=by
 unfold rk at h;split at h
 .rename_i e;injection h with h
  exact⟨e,h.symm⟩
 .cases h
theorem pj {s:Sh}{x:El s}:rk s s x=C x:=by
 unfold rk;rw[dif_pos rfl]
theorem F2.app_left {α β:Type}{r:α->β->Prop}{l l':List α}{m:List β}(h:F2 r (l++l') m): ∃m1 m2,m=m1++m2/\F2 r l m1/\F2 r l' m2:=by
 induction l generalizing m with
 |nil=>exact⟨[],m,rfl, .nil,h⟩
 |cons a l ih=>
  cases h with
  |cons h1 h2=>
   obtain⟨m1,m2,rfl,h3,h4⟩:=ih h2;exact⟨_::m1,m2,rfl, .cons h1 h3,h4⟩
def az4 (c:Ctx)(s:Sh)(l:List (El s))(a:Value):Prop:=
 (∃q:Option Addr,a= .slice q 0 0/\l=[]/\∀z,q=C z->z.spot=O)∨∃b p cp y,a= .slice (C ⟨b,p,O⟩) l.length cp/\c.Y.m b=C y/\y.es=s.w/\l.length<=cp/\p+l.length*s.w<=y.cells.length/\F2 (VRel c) (io s l) ((y.cells.drop p).take (l.length*s.w))
theorem az4.rel {c:Ctx}{s:Sh}{l:List (El s)}{a:Value}(h:az4 c s l a)(hn: ∀b p n cp,a= .slice (C ⟨b,p,O⟩) n cp->cp≠0->¬c.mut b):VRel c (.lst s l) a:=by
 rcases h with⟨q,rfl,rfl,hq⟩|⟨b,p,cp,y,rfl,h1,h2,h3,h4,h5⟩
 .exact .lstn hq
 .by_cases hc:cp=0
  .subst hc;have:l=[]:=List.length_eq_zero_iff.1 (by omega);subst this;exact .lstn λz hz=>by injection hz with hz;rw[<-hz]
  .exact .lst (hn _ _ _ _ rfl hc) h1 h2 rfl h3 h4 h5
theorem VRel.listAt {c:Ctx}{s:Sh}{l:List (El s)}{a:Value}(h:VRel c (.lst s l) a):az4 c s l a:=by
 cases h with
 |lstn hq=>exact .inl ⟨_,rfl,rfl,hq⟩
 |lst hn hy he h1 h2 h3 h4=>subst h1;exact .inr ⟨_,_,_,_,rfl,hy,he,h2,h3,h4⟩
theorem VRel.lst_mut {c:Ctx}{s:Sh}{l:List (El s)}{b p n cp:Nat}(h:VRel c (.lst s l) (.slice (C ⟨b,p,O⟩) n cp))(hc:cp≠0): ¬c.mut b:=by
 cases h with
 |lstn=>exact(hc rfl).elim
 |lst hn=>exact hn
theorem gw.fz_mut {c:Ctx}(hR:gw c){k b:Nat}(hk:(cc c.S k).frozen=Za)(hd:(cc c.S k).dim≠O)(hm:c.Z k=C b): ¬c.mut b:=by
 rintro(⟨k',h1,h2⟩|h)
 .have:=hR.inj k' k b h1 hd h2 hm;subst this;rw[h1]at hk;cases hk
 .exact hR.fbk k b hd hm h
def bG7 (c:Ctx)(s:Sh)(f:List VV->Option (El s×List VV)):Prop:= ∀cells x rest,f cells=C (x,rest)->
 ∃pre,cells=pre++rest/\pre.length=s.w/\∀as,F2 (VRel c) pre as->F2 (VRel c) (gk s x) as
theorem bB5 {c:Ctx}{s:Sh}{f:List VV->Option (El s×List VV)}(hf:bG7 c s f): ∀(n:Nat) (cells:List VV) (l:List (El s)),bH1 f n cells=C l->
  cells.length=l.length*s.w/\∀as,F2 (VRel c) cells as->F2 (VRel c) (io s l) as
 |n,[],l,h=>by
  have:l=[]:=by cases n<;>simpa[bH1]using h.symm
  subst this;exact⟨by simp,λas ha=>ha⟩
 |0,_::_,_,h=>by simp[bH1]at h
 |n+1,v::r,l,h=>by
  simp only[bH1]at h;cases h1:f (v::r)with
  |none=>rw[h1]at h;cases h
  |some p=>
   obtain⟨x,rest⟩:=p;rw[h1]at h;simp only[wA]at h;cases h2:bH1 f n rest with
   |none=>rw[h2]at h;cases h
   |some l'=>
    rw[h2]at h;injection h with h
    subst h;obtain⟨pre,h3,h4,h5⟩:=hf _ _ _ h1;obtain⟨h6,h7⟩:=bB5 hf n rest l' h2;refine⟨by rw[h3,bB,h4,h6,cD,aB,Nat.add_comm],λas ha=> ?_⟩;rw[h3]at ha;obtain⟨m1,m2,rfl,h8,h9⟩:=F2.app_left ha;exact(h5 _ h8).append (h7 _ h9)
theorem ac6 {c:Ctx}{s:Sh}{f:List VV->Option (El s×List VV)}(hf:bG7 c s f){k:Nat}{l:List (El s)}(h:av9 s f (cc c.S k)=C l):
  ∃d,(cc c.S k).dim=C d/\d.1=s.w/\d.2=l.length*s.w/\∀as,F2 (VRel c) (cc c.S k).vals as->F2 (VRel c) (io s l) as:=by
 generalize cc c.S k=b at h;cases b with
 |dead=>cases h
 |arr s' z m=>
  obtain⟨e,h1⟩:=sv h;cases e;subst h1;exact⟨_,rfl,rfl,rfl,λ_ h=>h⟩
 |cells es z m=>
  simp only[av9]at h;cases he:Nat.beq es s.w with
  |false=>rw[he]at h;cases h
  |true=>
   rw[he,yB]at h;obtain⟨h1,h2⟩:=bB5 hf _ _ _ h;exact⟨_,rfl,Nat.eq_of_beq_eq_true he,h1,h2⟩
theorem bS1 {c:Ctx}(hR:gw c){s:Sh}{f:List VV->Option (El s×List VV)}(hf:bG7 c s f){k lo n:Nat}{l:List (El s)}{d:Nat×Nat}{a:Value}(h:av9 s f (cc c.S k)=C l)
  (hd:(cc c.S k).dim=C d) (hs:SlR c k lo n d a):az4 c s ((l.drop lo).take n) a/\((l.drop lo).take n).length=n:=by
 obtain⟨d',h1,h2,h3,h4⟩:=ac6 hf h;rw[hd]at h1;injection h1 with h1
 subst h1;obtain⟨h0,hb⟩:=hR.blk k d hd;have hw:=uy s;rcases hs with⟨rfl,rfl,rfl,hm,hz⟩|⟨b,cp,y,rfl,hm,h5,h6,hy,h7⟩
 .have:l.length=0:=by
   rw[hz]at h3;rcases Nat.eq_zero_or_pos l.length with h|h
   .exact h
   .have:=Nat.mul_pos h hw;omega
  rw[List.length_eq_zero_iff]at this;subst this;exact⟨.inl ⟨O,rfl,by simp,λz hz=>by cases hz⟩,by simp⟩
 .have hln:lo+n<=l.length:=by
   rw[h2,h3]at h5;exact Nat.le_of_mul_le_mul_right h5 hw
  have hlen:((l.drop lo).take n).length=n:=by rw[List.length_take,dB];omega
  refine⟨.inr ⟨b,lo*d.1,cp,y,by rw[hlen],hy, ?_,by rw[hlen];exact h6, ?_, ?_⟩,hlen⟩
  .rcases hb with⟨h8,h9⟩|⟨b',y',cs,rest,h8,h9,h10,_⟩
   .rw[h9]at hm;cases hm
   .rw[hm]at h8;injection h8 with h8
    subst h8;rw[hy]at h9;injection h9 with h9
    subst h9;rw[h10,h2]
  .rw[hlen];have:=cB d.1 h6;rw[Nat.add_mul]at h7;rw[<-h2];omega
  .rcases hb with⟨h8,h9⟩|⟨b',y',cs,rest,h8,h9,h10,_,h12,h13⟩
   .rw[h9]at hm;cases hm
   .rw[hm]at h8;injection h8 with h8
    subst h8;rw[hy]at h9;injection h9 with h9
    subst h9;have h14:=h4 _ h13;have h15:cs.length=l.length*s.w:=by rw[<-h14.length,jx]
    rw[hlen,qg,aB4,h2,h12,List.drop_append_of_le_length (by rw[h15];exact cB _ (by omega)),List.take_append_of_le_length]
    .exact(h14.drop _).take _
    .rw[dB,h15,<-Nat.sub_mul];exact cB _ (by omega)
theorem cF4 {c:Ctx}(hR:gw c){s:Sh}{f:List VV->Option (El s×List VV)}(hf:bG7 c s f){k:Nat}{l:List (El s)}{a:Value}(h:av9 s f (cc c.S k)=C l)(hv:VRel c (.full k) a):az4 c s l a:=by
 obtain⟨d,h1,h2,h3,h4⟩:=ac6 hf h;cases hv with
 |full hk _ hd=>
  obtain⟨n,h5,h6⟩:=hd d h1
  have hn:n=l.length:=by
   rw[h2,h3]at h5;exact Nat.eq_of_mul_eq_mul_right (uy s) h5
  have:=(bS1 hR hf h h1 h6).1
  rwa [List.drop_zero,bD (by omega)]at this
theorem cH8 {c:Ctx}(hR:gw c){s:Sh}{f:List VV->Option (El s×List VV)}(hf:bG7 c s f){k lo n:Nat}{l:List (El s)}{a:Value}(h:av9 s f (cc c.S k)=C l)(hv:VRel c (.part k lo n) a):
  az4 c s ((l.drop lo).take n) a/\((l.drop lo).take n).length=n:=by
 obtain⟨d,h1,h2,h3,h4⟩:=ac6 hf h;cases hv with
 |part hk _ hd=>exact bS1 hR hf h h1 (hd d h1)
def bC4 :VV->Option Nat
 | .full k=>C k
 | .part k _ _=>C k
 |_=>O
theorem SlR.addr {c:Ctx}{k lo n:Nat}{d:Nat×Nat}{b p m cp:Nat}(h:SlR c k lo n d (.slice (C ⟨b,p,O⟩) m cp)):c.Z k=C b:=by
 rcases h with⟨h,_⟩|⟨b',cp',y,h,hm,_⟩
 .cases h
 .injection h with h1 h2 h3
  injection h1 with h1
  injection h1 with h1
  subst h1;exact hm
theorem cj0 {c:Ctx}(hR:gw c){s:Sh}{f:List VV->Option (El s×List VV)}(hf:bG7 c s f){v:VV}{l:List (El s)}{a:Value}(h:be0 c.S s f v=C l)(hv:VRel c v a):
  az4 c s l a/\∀b p n cp,a= .slice (C ⟨b,p,O⟩) n cp->cp≠0->¬c.mut b∨∃k,bC4 v=C k/\(cc c.S k).dim≠O/\c.Z k=C b:=by
 cases v<;>simp only[be0]at h<;>try(cases h;done)
 case nils=>
  injection h with h
  subst h;cases hv;exact⟨.inl ⟨O,rfl,rfl,λz hz=>by cases hz⟩,λb p n cp e=>by cases e⟩
 case lst s' l'=>
  obtain⟨e,h1⟩:=sv h;cases e;subst h1;refine⟨hv.listAt,λb p n cp e hc=> .inl ?_⟩;subst e;exact hv.lst_mut hc
 case full k=>
  refine⟨cF4 hR hf h hv,λb p n cp e _=> .inr ⟨k,rfl, ?_⟩⟩;obtain⟨d,h1,_⟩:=ac6 hf h;subst e;cases hv with
  |full hk _ hd=>
   obtain⟨_,_,h6⟩:=hd d h1;exact⟨by rw[h1];simp,h6.addr⟩
 case part k lo m=>
  cases h0:av9 s f (cc c.S k)with
  |none=>rw[h0]at h;cases h
  |some l0=>
   rw[h0]at h;injection h with h
   subst h;refine⟨(cH8 hR hf h0 hv).1,λb p n cp e _=> .inr ⟨k,rfl, ?_⟩⟩;obtain⟨d,h1,_⟩:=ac6 hf h0;subst e;cases hv with
   |part hk _ hd=>exact⟨by rw[h1];simp,(hd d h1).addr⟩
theorem bV2 {c:Ctx}(hR:gw c){s:Sh}{f:List VV->Option (El s×List VV)}(hf:bG7 c s f){v:VV}{l:List (El s)}{a:Value}(h:cw8 c.S s f v=C l)(hv:VRel c v a):VRel c (.lst s l) a:=by
 have key:be0 c.S s f v=C l/\∀k,bC4 v=C k->(cc c.S k).frozen=Za:=by
  unfold cw8 at h;split at h
  .rename_i k;cases hz:(cc c.S k).frozen with
   |false=>rw[hz]at h;cases h
   |true=>
    rw[hz]at h;exact⟨h,λk' e=>by cases e;exact hz⟩
  .rename_i k lo n;cases hz:(cc c.S k).frozen with
   |false=>rw[hz]at h;cases h
   |true=>
    rw[hz]at h;exact⟨h,λk' e=>by cases e;exact hz⟩
  .rename_i h1 h2;refine⟨h,λk e=> ?_⟩;cases v<;>simp only[bC4]at e<;>try(cases e;done)
   .exact(h1 _ rfl).elim
   .exact(h2 _ _ _ rfl).elim
 obtain⟨h1,h2⟩:=cj0 hR hf key.1 hv;refine h1.rel λb p n cp e hc=> ?_
 rcases h2 b p n cp e hc with h3|⟨k,h3,h4,h5⟩
 .exact h3
 .exact hR.fz_mut (key.2 k h3) h4 h5
theorem pm {c:Ctx}(hR:gw c): ∀s:Sh,bG7 c s (pg c.S s)
 | .int k,cells,x,rest,h=>by
  cases cells with
  |nil=>simp[pg]at h
  |cons v r=>
   cases v<;>simp only[pg]at h<;>try(cases h;done)
   rename_i k' n;cases hk:Zc (k'=k)with
   |false=>rw[hk]at h;cases h
   |true=>
    rw[hk]at h;injection h with h
    injection h with h1 h2
    subst h1;subst h2;have:=of_decide_eq_true hk;subst this;exact⟨[_],rfl,rfl,λ_ h=>h⟩
 | .bool,cells,x,rest,h=>by
  cases cells with
  |nil=>simp[pg]at h
  |cons v r=>
   cases v<;>simp only[pg]at h<;>try(cases h;done)
   injection h with h
   injection h with h1 h2
   subst h1;subst h2;exact⟨[_],rfl,rfl,λ_ h=>h⟩
 | .str,cells,x,rest,h=>by
  cases cells with
  |nil=>simp[pg]at h
  |cons v r=>
   cases v<;>simp only[pg]at h<;>try(cases h;done)
   injection h with h
   injection h with h1 h2
   subst h1;subst h2;exact⟨[_],rfl,rfl,λ_ h=>h⟩
 | .list s,cells,x,rest,h=>by
  cases cells with
  |nil=>simp[pg]at h
  |cons v r=>
   simp only[pg]at h;cases h1:cw8 c.S s (pg c.S s) v with
   |none=>rw[h1]at h;cases h
   |some l=>
    rw[h1]at h;injection h with h
    injection h with h2 h3
    subst h2;subst h3;refine⟨[v],rfl,rfl,λas ha=> ?_⟩;cases ha with
    |cons ha hn=>
     cases hn;exact .cons (bV2 hR (pm hR s) h1 ha) .nil
 | .pair a b,cells,x,rest,h=>by
  simp only[pg]at h;cases h1:pg c.S a cells with
  |none=>rw[h1]at h;cases h
  |some p=>
   obtain⟨y,r1⟩:=p;rw[h1]at h;simp only[wA]at h;cases h2:pg c.S b r1 with
   |none=>rw[h2]at h;cases h
   |some q=>
    obtain⟨z,r2⟩:=q;rw[h2]at h;injection h with h
    injection h with h3 h4
    subst h3;subst h4;obtain⟨p1,rfl,hl1,hf1⟩:=pm hR a _ _ _ h1;obtain⟨p2,rfl,hl2,hf2⟩:=pm hR b _ _ _ h2;refine⟨p1++p2,by rw[List.append_assoc],by rw[bB,hl1,hl2];rfl,λas ha=> ?_⟩;obtain⟨m1,m2,rfl,h5,h6⟩:=F2.app_left ha;exact(hf1 _ h5).append (hf2 _ h6)
theorem dn3 {c:Ctx}(hR:gw c){s:Sh}{v:VV}{l:List (El s)}{a:Value}(h:cX8 c.S s v=C l)(hv:VRel c v a):
  az4 c s l a/\∀b p n cp,a= .slice (C ⟨b,p,O⟩) n cp->cp≠0->¬c.mut b∨∃k,bC4 v=C k/\(cc c.S k).dim≠O/\c.Z k=C b:=
 cj0 hR (pm hR s) h hv
end
section
open Bool renaming and_eq_true -> aD
open List renaming getElem?_eq_getElem -> aB, getD_eq_getElem?_getD -> bB, getElem?_map -> bD, all_append -> cD, getElem?_eq_none -> dB, length_drop -> dD, length_take -> eD
open Nat renaming zero_add -> cB, le_of_ble_eq_true -> fB
def cn (c:Ctx)(e:gf)(ea:ey):Prop:= ∀t,VRel c (tq e t) (ea t)
theorem cn.frame {c c':Ctx}{e:gf}{ea:ey}(h:cn c e ea)(hl:Le c c'):cn c' e ea:=λt=>(h t).frame hl
theorem ap0 {e:gf}{d t:Nat}{v:VV}:tq (ya e d v) t=if t=d then v else tq e t:=by
 induction d generalizing e t with
 |zero=>cases e<;>cases t<;>simp[ya,tq]
 |succ d ih=>
  cases e with
  |nil=>
   cases t with
   |zero=>simp[ya,tq]
   |succ t=>simp[ya,tq,ih]
  |cons a r=>
   cases t with
   |zero=>simp[ya,tq]
   |succ t=>simp[ya,tq,ih]
theorem cn.put {c:Ctx}{e:gf}{ea:ey}(h:cn c e ea){d:Nat}{v:VV}{a:Value}(hv:VRel c v a):cn c (ya e d v) (ea.put d a):=by
 intro t;rw[ap0];unfold ey.put;by_cases ht:t=d
 .rw[xB ht,xB ht];exact hv
 .rw[xD ht,xD ht];exact h t
theorem cn.putO {c:Ctx}{e:gf}{ea:ey}(h:cn c e ea){d:Option Nat}{v:VV}{a:Value}(hv:VRel c v a):cn c (putO e d v) (ea.putO d a):=by
 cases d with
 |none=>exact h
 |some d=>exact h.put hv
theorem cH0 (c:Ctx)(v:Value):VRel c (bL5 v) v:=by
 unfold bL5;split
 .exact .bool _
 .exact .int _ _
 .exact .str rfl
 .exact .nilp
 .exact .nils
 .exact .nilf
 .exact .undef _
theorem bi2 (c:Ctx)(l:List Value):F2 (VRel c) (l.map bL5) l:=by
 induction l with
 |nil=>exact .nil
 |cons v l ih=>exact .cons (cH0 c v) ih
theorem dz7 (c:Ctx)(v:Value):VRel c (ofC v) v:=by
 unfold ofC;split
 .rename_i cs;exact .agg (by simpa using bi2 c cs.toList)
 .exact cH0 c _
theorem dk {c:Ctx}{e:gf}{ea:ey}(h:cn c e ea)(x:Operand):VRel c (ev e x) (ea.ev x):=by
 cases x with
 |tmp t=>exact h t
 |const v=>exact dz7 c v
 |global _=>exact .undef _
 |func f=>exact .fn .nil .nil
theorem bM6 {c:Ctx}{e:gf}{ea:ey}(h:cn c e ea)(xs:List Operand):F2 (VRel c) (xs.map (ev e)) (xs.map ea.ev):=by
 induction xs with
 |nil=>exact .nil
 |cons x xs ih=>exact .cons (dk h x) ih
theorem co {β:Type}{b:Bool}{x:Option β}{y:β}(h:gd b x=C y):b=Za/\x=C y:=by
 cases b with
 |false=>cases h
 |true=>exact⟨rfl,h⟩
theorem cH5 {c:Ctx}{v:VV}{a:Value}(h:VRel c v a)(h1:dB1 v=Za):one a=Za:=by
 cases h<;>first|rfl|assumption|(cases h1;done)|(rename_i h;rcases h with rfl|⟨_,_,rfl⟩<;>rfl)
theorem qe {c:Ctx}: ∀{l:List VV} {m:List Value},F2 (VRel c) l m->wh l=Za->m.all one=Za
 |_,_, .nil,_=>rfl
 |_,_, .cons h1 h2,h=>by
  simp only[wh,List.all_cons,aD]at h⊢;exact⟨cH5 h1 h.1,qe h2 h.2⟩
theorem bf8 : ∀(s:Sh) (x:El s),wh (gk s x)=Za
 | .int _,_=>rfl
 | .bool,_=>rfl
 | .str,_=>rfl
 | .list _,_=>rfl
 | .pair a b,x=>by
  have h1:=bf8 a x.1;have h2:=bf8 b x.2;simp only[wh,gk,cD,aD]at*;exact⟨h1,h2⟩
theorem ac9 (s:Sh)(l:List (El s)):wh (io s l)=Za:=by
 induction l with
 |nil=>rfl
 |cons x l ih=>
  have h1:=bf8 s x;rw[jr];simp only[wh,cD,aD]at*;exact⟨h1,ih⟩
theorem bB4 {c:Ctx}{v:VV}{a:Value}(h:VRel c v a)(hv:wh (uq v)=Za):F2 (VRel c) (uq v) (cellsOf a):=by
 have hone:one a=Za->cellsOf a=[a]:=λh=>by cases a<;>first|rfl|(cases h;done)
 cases v with
 |agg l=>
  cases h with
  |agg h=>exact h
 |undef=>cases hv
 |tup l=>cases hv
 |_=>
  rw[hone (cH5 h rfl)];exact .cons h .nil
theorem dq {T:ja}{op:AOp}{e:ey}{Y Y':Hp}{v:Value}{K:Value->Hp->Prop}(h:op.run e Y=C (v,Y'))(hk:K v Y'):di T op e Y K:=by
 unfold di;split
 .cases h
 .cases h
 .rw[h];exact hk
theorem ar8 {α:Type}: ∀(l:List α) (i:Nat),nth l i=l[i]?
 |[],_=>rfl
 |_::_,0=>rfl
 |_::l,i+1=>by
  rw[show nth (_::l) (i+1)=nth l i from rfl,ar8 l i];rfl
theorem F2.nth {c:Ctx}{l:List VV}{m:List Value}(h:F2 (VRel c) l m){i:Nat}{v:VV}(hv:nth l i=C v): ∃a,m[i]?=C a/\VRel c v a:=by
 rw[ar8]at hv;exact h.get i v hv
theorem bC6 {k:IntKind}: ∀{cs:List VV} {l:Zd},ap3 k cs=C l->cs=l.map (.int k)
 |[],l,h=>by cases h;rfl
 |v::r,l,h=>by
  cases v<;>simp only[ap3]at h<;>try(cases h;done)
  rename_i k' n;cases hk:Zc (k'=k)with
  |false=>rw[hk]at h;cases h
  |true=>
   rw[hk,yB]at h;cases h1:ap3 k r with
   |none=>rw[h1]at h;cases h
   |some m=>
    rw[h1]at h;injection h with h
    subst h;rw[bC6 h1,of_decide_eq_true hk];rfl
theorem bS3 : ∀{cs:List VV} {l:List Bool},bS2 cs=C l->cs=l.map .bool
 |[],l,h=>by cases h;rfl
 |v::r,l,h=>by
  cases v<;>simp only[bS2]at h<;>try(cases h;done)
  cases h1:bS2 r with
  |none=>rw[h1]at h;cases h
  |some m=>
   rw[h1]at h;injection h with h
   subst h;rw[bS3 h1];rfl
theorem ck9 : ∀{cs:List VV} {l:List (Zd)},cL1 cs=C l->cs=l.map .str
 |[],l,h=>by cases h;rfl
 |v::r,l,h=>by
  cases v<;>simp only[cL1]at h<;>try(cases h;done)
  cases h1:cL1 r with
  |none=>rw[h1]at h;cases h
  |some m=>
   rw[h1]at h;injection h with h
   subst h;rw[ck9 h1];rfl
theorem cH9 {β:Type}{S:ci}{k:VV->ci->Option β}{y:β}: ∀{cs:List VV} {i:Nat},cY9 S k cs i=C y->∃v,cs[i]?=C v/\k v S=C y
 |[],_,h=>by cases h
 |v::r,i,h=>by
  simp only[cY9]at h;cases hi:Nat.beq i 0 with
  |true=>
   rw[hi]at h;have:=Nat.eq_of_beq_eq_true hi;subst this;exact⟨v,rfl,h⟩
  |false=>
   rw[hi]at h;obtain⟨w,h1,h2⟩:=cH9 h;have:i≠0:=λe=>by subst e;cases hi
   obtain⟨j,rfl⟩:=Nat.exists_eq_succ_of_ne_zero this;exact⟨w,h1,h2⟩
theorem cD3 {β:Type}{S:ci}{k:VV->ci->Option β}{y:β}{cs:List VV}{i:Nat}(hi:i<cs.length)(h:cD2 cs i S k=C y): ∃v,cs[i]?=C v/\k v S=C y:=by
 unfold cD2 at h;split at h
 .rename_i kd n r;split at h
  .rename_i l hl;have:=bC6 hl;subst this;refine⟨_, ?_,h⟩;rw[show(VV.int kd n::l.map (VV.int kd))=(n::l).map (VV.int kd)from rfl,bD];have hi':i<(n::l).length:=by simpa using hi
   rw[aB hi',bB,aB hi'];rfl
  .cases h
 .rename_i b r;split at h
  .rename_i l hl;have:=bS3 hl;subst this;refine⟨_, ?_,h⟩;rw[show(VV.bool b::l.map VV.bool)=(b::l).map VV.bool from rfl,bD];have hi':i<(b::l).length:=by simpa using hi
   rw[aB hi',bB,aB hi'];rfl
  .cases h
 .rename_i b r;split at h
  .rename_i l hl;have:=ck9 hl;subst this;refine⟨_, ?_,h⟩;rw[show(VV.str b::l.map VV.str)=(b::l).map VV.str from rfl,bD];have hi':i<(b::l).length:=by simpa using hi
   rw[aB hi',bB,aB hi'];rfl
  .cases h
 .exact cH9 h
theorem gw.block {c:Ctx}(hR:gw c){k b:Nat}{d:Nat×Nat}(hd:(cc c.S k).dim=C d)(hm:c.Z k=C b):
  ∃y cs rest,c.Y.m b=C y/\y.es=d.1/\((cc c.S k).frozen=Zb->y.own=Za)/\y.cells=cs++rest/\F2 (VRel c) (cc c.S k).vals cs:=by
 obtain⟨_,h⟩:=hR.blk k d hd;rcases h with⟨_,h⟩|⟨b',y,cs,rest,h,h'⟩
 .rw[h]at hm;cases hm
 .rw[hm]at h;injection h with h
  subst h;exact⟨y,cs,rest,h'⟩
def aj7 (c:Ctx)(cs:List VV)(b p:Nat):Prop:= ∃y,c.Y.m b=C y/\p+cs.length<=y.cells.length/\F2 (VRel c) cs ((y.cells.drop p).take cs.length)
theorem aj7.get {c:Ctx}{cs:List VV}{b p:Nat}(h:aj7 c cs b p){o:Nat}{v:VV}(hv:nth cs o=C v): ∃y a,c.Y.m b=C y/\y.cells[p+o]?=C a/\VRel c v a:=by
 obtain⟨y,h1,h2,h3⟩:=h;obtain⟨a,h4,h5⟩:=F2.nth h3 hv;refine⟨y,a,h1, ?_,h5⟩;rw[ar8]at hv
 have ho:o<cs.length:=by
  rcases Nat.lt_or_ge o cs.length with h|h
  .exact h
  .rw[dB h]at hv;cases hv
 rwa [List.getElem?_take,xB ho,List.getElem?_drop]at h4
theorem aj7.read {c:Ctx}{cs:List VV}{b p:Nat}(h:aj7 c cs b p){o n:Nat}(hn:o+n<=cs.length): ∃y as,c.Y.m b=C y/\w8 y (p+o) n=C as/\F2 (VRel c) ((cs.drop o).take n) as:=by
 obtain⟨y,h1,h2,h3⟩:=h;refine⟨y,(y.cells.drop (p+o)).take n,h1,xB (by omega), ?_⟩;have h4:=(h3.drop o).take n;rw[List.drop_take,List.drop_drop,List.take_take,Nat.min_eq_left (by omega)]at h4;exact h4
theorem gw.stands {c:Ctx}(hR:gw c){k b:Nat}{d:Nat×Nat}(hd:(cc c.S k).dim=C d)(hm:c.Z k=C b):aj7 c (cc c.S k).vals b 0:=by
 obtain⟨y,cs,rest,h1,_,_,h2,h3⟩:=hR.block hd hm;have hl:=h3.length;refine⟨y,h1,by rw[h2,List.length_append];omega, ?_⟩;rw[List.drop_zero,h2,List.take_append_of_le_length (by omega),List.take_of_length_le (by omega)];exact h3
theorem aj7.part {c:Ctx}{cs:List VV}{b p:Nat}(h:aj7 c cs b p){o n:Nat}(hn:o+n<=cs.length):aj7 c ((cs.drop o).take n) b (p+o):=by
 obtain⟨y,h1,h2,h3⟩:=h;have hl:((cs.drop o).take n).length=n:=by rw[eD,dD];omega
 refine⟨y,h1,by rw[hl];omega, ?_⟩;have h4:=(h3.drop o).take n;rw[List.drop_take,List.drop_drop,List.take_take,Nat.min_eq_left (by omega)]at h4
 rwa [hl]
theorem cI5 {β:Type}{c:Ctx}(hR:gw c){n:Nat}{agg:Bool}{v:VV}{a:Value}{k:VV->ci->Option β}{y:β}(h:ck3 c.S n agg v k=C y)(hv:VRel c v a):
  ∃b o x,a= .pointer (C ⟨b,o,O⟩)/\c.Y.m b=C x/\
   (agg=Zb->∃u w,x.cells[o]?=C u/\VRel c w u/\k w c.S=C y)/\
   (agg=Za->∃us ws,w8 x o n=C us/\F2 (VRel c) ws us/\k (.agg ws) c.S=C y):=by
 have out: ∀(cs:List VV) (b p o:Nat),aj7 c cs b p->a= .pointer (C ⟨b,p+o,O⟩)->
   cond agg (gd (Nat.ble (o+n) cs.length) (k (.agg ((cs.drop o).take n)) c.S)) (match nth cs o with
    |some v=>k v c.S
    |none=>O)=C y->
   ∃b o x,a= .pointer (C ⟨b,o,O⟩)/\c.Y.m b=C x/\
   (agg=Zb->∃u w,x.cells[o]?=C u/\VRel c w u/\k w c.S=C y)/\
   (agg=Za->∃us ws,w8 x o n=C us/\F2 (VRel c) ws us/\k (.agg ws) c.S=C y):=by
  intro cs b p o hs ha h;cases agg with
  |true=>
   obtain⟨h1,h2⟩:=co h;obtain⟨x,as,h3,h4,h5⟩:=hs.read (fB h1);exact⟨b,p+o,x,ha,h3,(by intro h;cases h),λ_=>⟨as,_,h4,h5,h2⟩⟩
  |false=>
   rw[yD]at h;split at h
   .rename_i w hw;obtain⟨x,u,h3,h4,h5⟩:=hs.get hw;exact⟨b,p+o,x,ha,h3,(λ_=>⟨u,w,h4,h5,h⟩),(by intro h;cases h)⟩
   .cases h
 unfold ck3 at h;cases v with
 |ptr q o=>
  simp only at h;cases hb:cc c.S q with
  |dead=>rw[hb]at h;cases h
  |arr s z l=>rw[hb]at h;cases h
  |cells es z l=>
   rw[hb]at h;cases hv with
   |ptr hk _ hd=>
    obtain⟨b,hm,ha⟩:=hd (es,l.length) (by rw[hb];rfl);have hs:=hR.stands (k:=q) (d:=(es,l.length)) (by rw[hb];rfl) hm;rw[hb]at hs;exact out l b 0 o hs (by rw[ha,cB]) h
 |pix q o m i=>
  simp only at h;cases hb:cc c.S q with
  |dead=>rw[hb]at h;cases h
  |arr s z l=>rw[hb]at h;cases h
  |cells es z l=>
   rw[hb]at h;obtain⟨h1,h2⟩:=co h;rw[aD]at h1;have h3:=fB h1.2;have hagg:agg=Zb:=by simpa using h1.1
   subst hagg;cases hv with
   |pix hk _ hi hd=>
    obtain⟨b,hm,ha⟩:=hd (es,l.length) (by rw[hb];rfl);have hs:=hR.stands (k:=q) (d:=(es,l.length)) (by rw[hb];rfl) hm;rw[hb]at hs;have hlen:((l.drop o).take m).length=m:=by rw[eD,dD];omega
    obtain⟨w,h4,h5⟩:=cD3 (by omega) h2;have hs':aj7 c ((l.drop o).take m) b (0+o):=aj7.part (cs:=l) hs h3;rw[<-ar8]at h4;obtain⟨x,u,h6,h7,h8⟩:=hs'.get h4;exact⟨b,o+i,x,ha,h6,(λ_=>⟨u,w,by rwa [cB]at h7,h8,h5⟩),(by intro h;cases h)⟩
 |pel q i o=>
  simp only at h;cases hb:cc c.S q with
  |dead=>rw[hb]at h;cases h
  |cells es z l=>rw[hb]at h;cases h
  |arr s z l=>
   rw[hb]at h;simp only at h;cases hx:l[i]? with
   |none=>rw[hx]at h;cases h
   |some x=>
    rw[hx]at h;cases hv with
    |pel hk _ hd=>
     obtain⟨b,hm,ha⟩:=hd (s.w,l.length*s.w) (by rw[hb];rfl);have hs:=hR.stands (k:=q) (d:=(s.w,l.length*s.w)) (by rw[hb];rfl) hm;rw[hb]at hs
     have hi:i<l.length:=by
      rcases Nat.lt_or_ge i l.length with h|h
      .exact h
      .rw[dB h]at hx;cases hx
     have hle:i*s.w+s.w<=(io s l).length:=by
      rw[jx,<-Nat.succ_mul];exact Nat.mul_le_mul_right _ hi
     have hs':aj7 c (((io s l).drop (i*s.w)).take s.w) b (0+i*s.w):=aj7.part (cs:=io s l) hs hle;rw[bC3 hx,cB]at hs';exact out (gk s x) b (i*s.w) o hs' ha h
 |pin s x o=>
  simp only at h;cases hv with
  |pin hn hy hl hf=>
   exact out (gk s x) _ _ o ⟨_,hy,by rw[gp];exact hl,by rw[gp];exact hf⟩ rfl h
 |_=>cases h
end
section
open Nat renaming lt_of_lt_of_le -> aB
theorem bN4.frame {c c':Ctx}(hl:Le c c'){k:Nat}(h:bN4 c k)(hS:cc c'.S k=cc c.S k)(hZ:(cc c.S k).dim≠O->c'.Z k=c.Z k)(hY: ∀b y,(cc c.S k).dim≠O->c.Z k=C b->c.Y.m b=C y->c'.Y.m b=C y):bN4 c' k:=by
 intro d hd;rw[hS]at hd;obtain⟨h1,h2⟩:=h d hd;have hm:=hZ (by rw[hd];simp);refine⟨h1, ?_⟩;rcases h2 with⟨h3,h4⟩|⟨b,y,cs,rest,h3,h4,h5,h6,h7,h8⟩
 .exact .inl ⟨h3,hm.trans h4⟩
 .exact .inr ⟨b,y,cs,rest,hm.trans h3,hY b y (by rw[hd];simp) h3 h4,h5,by rw[hS];exact h6,h7,by rw[hS];exact VRel.frames hl h8⟩
def Frz (S S':ci):Prop:=S'.length=S.length/\∀k,cc S' k=cc S k∨cc S' k=(cc S k).freeze
theorem Frz.refl (S:ci):Frz S S:=⟨rfl,λ_=> .inl rfl⟩
theorem cf1 {b:Blk}:b.freeze.freeze=b.freeze:=by cases b<;>rfl
theorem Frz.trans {a b c:ci}(h:Frz a b)(k:Frz b c):Frz a c:=by
 refine⟨k.1.trans h.1,λi=> ?_⟩;rcases h.2 i with h1|h1<;>rcases k.2 i with h2|h2
 .exact .inl (h2.trans h1)
 .exact .inr (by rw[h2,h1])
 .exact .inr (h2.trans h1)
 .exact .inr (by rw[h2,h1,cf1])
theorem Frz.put {S:ci}{k:Nat}:Frz S (ql S k (cc S k).freeze):=by
 refine⟨bf3,λi=> ?_⟩;rw[ax9];split
 .rename_i h;rw[h.1];exact .inr rfl
 .exact .inl rfl
theorem Frz.fold {f:ci->VV->ci}(hf: ∀S v,Frz S (f S v)): ∀(l:List VV) (S:ci),Frz S (l.foldl f S)
 |[],S=>Frz.refl S
 |v::l,S=>(hf S v).trans (Frz.fold hf l _)
theorem cW8 : ∀(n:Nat) (S:ci) (v:VV),Frz S (fzv n S v)
 |0,S,_=>Frz.refl S
 |n+1,S,v=>by
  have key: ∀k,Frz S (match cc S k with
    | .cells es _ l=>l.foldl (fzv n) (ql S k (.cells es Za l))
    |b=>ql S k b.freeze):=by
   intro k;have hp:=Frz.put (S:=S) (k:=k);split
   .rename_i es z l h;rw[h]at hp;exact Frz.trans hp (Frz.fold (cW8 n) l _)
   .exact hp
  unfold fzv;split
  .exact key _
  .exact key _
  .exact Frz.refl S
theorem bh6 (S:ci)(l:List VV):Frz S (fzL S l):=Frz.fold (cW8 3) l S
theorem dl8 (S:ci)(v:VV):Frz S (dK9 S v):=by
 unfold dK9;split
 .split
  .exact bh6 S _
  .exact Frz.refl S
 .split
  .exact bh6 S _
  .exact Frz.refl S
 .exact Frz.refl S
theorem dd6 (k:Sk)(v:VV)(S:ci):Frz S (dl7 k v S):=by
 unfold dl7;split
 .exact dl8 S v
 .exact Frz.refl S
theorem bU4 : ∀(l:List Sk) (vs:List VV) (S:ci),Frz S (bd6 l vs S)
 |[],_,S=>Frz.refl S
 |_::_,[],S=>Frz.refl S
 |k::r,v::vs,S=>(dd6 k v S).trans (bU4 r vs _)
theorem ak1 : ∀(l:List Nat) (S:ci),Frz S (aV7 l S)
 |[],S=>Frz.refl S
 |_::l,S=>Frz.put.trans (ak1 l _)
theorem Frz.dim {S S':ci}(h:Frz S S')(k:Nat):(cc S' k).dim=(cc S k).dim:=by
 rcases h.2 k with h|h<;>rw[h]
 exact iw
theorem Frz.vals {S S':ci}(h:Frz S S')(k:Nat):(cc S' k).vals=(cc S k).vals:=by
 rcases h.2 k with h|h<;>rw[h]
 exact bJ2
theorem Frz.fz {S S':ci}(h:Frz S S'){k:Nat}(hz:(cc S' k).frozen=Zb):cc S' k=cc S k:=by
 rcases h.2 k with h|h
 .exact h
 .rw[h,ut]at hz;cases hz
theorem Frz.le {c:Ctx}{S':ci}(h:Frz c.S S'):Le c ⟨c.Z,S',c.Y,c.fb⟩:=by
 refine⟨Nat.le_of_eq h.1.symm,λk d _ hd=>⟨(h.dim k)▸hd,rfl⟩,λk hk _=> ?_,λ_ _ _ y _ _ _ hy=>⟨y,hy,rfl⟩,λb y hy _=>hy,λb y hy hn=> ?_,Nat.le_refl _,rfl⟩
 .rcases h.2 k with h|h
  .exact h
  .exact h.trans (aM5 hk)
 .rintro⟨k,h1,h2⟩;exact hn ⟨k,by rw[<-h.fz h1];exact h1,h2⟩
theorem Frz.rel {c:Ctx}(hR:gw c){S':ci}(h:Frz c.S S'):gw ⟨c.Z,S',c.Y,c.fb⟩:=by
 refine⟨hR.ok,λk k' b hk hk' hm hm'=>hR.inj k k' b (by rw[<-h.fz hk];exact hk) (by rw[<-h.dim];exact hk') hm hm',λk d hd=> ?_,λk b hk hm=>hR.fbk k b (by rw[<-h.dim];exact hk) hm,hR.fbl⟩;have hd':(cc c.S k).dim=C d:=(h.dim k)▸hd;obtain⟨h1,h2⟩:=hR.blk k d hd';refine⟨h1, ?_⟩;rcases h2 with h2|⟨b,y,cs,rest,h3,h4,h5,h6,h7,h8⟩
 .exact .inl h2
 .exact .inr ⟨b,y,cs,rest,h3,h4,h5,λhz=>h6 (by rw[<-h.fz hz];exact hz),h7,by rw[h.vals k];exact VRel.frames h.le h8⟩
theorem Frz.calm {c:Ctx}{S':ci}(d:List Nat)(h:Frz c.S S'):am3 d c ⟨c.Z,S',c.Y,c.fb⟩:=λk _ _ hk=>⟨by rw[h.dim];exact hk,λ_ _=>rfl⟩
theorem am3.trans {a b c:Ctx}{d:List Nat}(h:am3 d a b)(k:am3 d b c)(hl:Le a b):am3 d a c:=by
 intro i hi hd hn;obtain⟨h1,h2⟩:=h i hi hd hn;obtain⟨h3,h4⟩:=k i (aB hi hl.len) hd h1;refine⟨h3,λx hx=> ?_⟩
 have hx':b.Z i=C x:=by
  cases hb:(cc b.S i).dim with
  |none=>exact(h1 hb).elim
  |some z=>exact(hl.al i z hi hb).2.trans hx
 exact(h4 x hx').trans (h2 x hx)
def cV2 (c:Ctx)(kill:Option Nat)(b:Nat):Prop:= ∃k,kill=C k/\c.Z k=C b
def aj5 (c:Ctx)(b1:Option Nat):Nat->Option Nat:=λi=>if i=c.S.length then b1 else c.Z i
theorem ax5 {S:ci}{kill:Option Nat}:(w6 S kill).length=S.length:=by cases kill<;>simp[w6,bf3]
theorem de2 {S:ci}{kill:Option Nat}{i:Nat}:cc (w6 S kill) i=if kill=C i then .dead else cc S i:=by
 cases kill with
 |none=>simp[w6]
 |some k=>
  simp only[w6,ax9,Option.some.injEq];by_cases h:i=k
  .subst h;by_cases h1:i<S.length
   .simp[h1]
   .simp[h1,ap7 (Nat.le_of_not_lt h1)]
  .simp[h,Ne.symm h]
structure Moves (c:Ctx)(kill:Option Nat)(b1:Option Nat)(blk:Blk)(Y':Hp):Prop where
 fr: ∀b,b1=C b->(∀z,c.Y.m b≠C z)->¬c.fb b
 kz: ∀k,kill=C k->(cc c.S k).frozen=Zb
 ok:Y'.Ok
 n:c.Y.n<=Y'.n
 old: ∀i y,c.Y.m i=C y->¬cV2 c kill i->Y'.m i=C y
 one: ∃d,blk.dim=C d/\1<=d.1/\((b1=O/\d.2=0)∨∃b y cs rest,b1=C b/\Y'.m b=C y/\y.es=d.1/\(blk.frozen=Zb->y.own=Za)/\y.cells=cs++rest/\F2 (VRel c) blk.vals cs/\((∀z,c.Y.m b≠C z)∨cV2 c kill b))
section
variable {c:Ctx} {kill b1:Option Nat} {blk:Blk} {Y':Hp}
theorem po (i:Nat):cc (w6 c.S kill++[blk]) i=if i=c.S.length then blk else if kill=C i then .dead else cc c.S i:=by
 by_cases h:i=c.S.length
 .subst h;rw[xB rfl,<-ax5 (S:=c.S) (kill:=kill),cK6]
 .rw[xD h];by_cases h1:i<c.S.length
  .rw[uv (by rw[ax5];exact h1),de2]
  .have h2:c.S.length<i:=by omega
   rw[ap7 (by rw[List.length_append,ax5];simp;omega),ap7 (k:=i) (S:=c.S) (by omega)];split<;>rfl
theorem Moves.low (hR:gw c)(h:Moves c kill b1 blk Y'){i b:Nat}(_:i≠c.S.length)(hk:kill≠C i)(hd:(cc c.S i).dim≠O)(hm:c.Z i=C b): ¬cV2 c kill b:=by
 rintro⟨k,rfl,h1⟩;exact hk (congrArg C (hR.inj k i b (h.kz k rfl) hd h1 hm))
theorem Moves.le (hR:gw c)(h:Moves c kill b1 blk Y'):Le c ⟨aj5 c b1,w6 c.S kill++[blk],Y',c.fb⟩:=by
 have hlt: ∀k,k<c.S.length->k≠c.S.length:=λk hk=>by omega
 refine⟨by simp[ax5],λk d hk hd=> ?_,λk hz hd=> ?_,λk d b y hk hd hm hy=> ?_,λb y hy hn=>h.old b y hy λ⟨k,e,hm⟩=>hn ⟨k,h.kz k e,hm⟩,λb y hy hn=> ?_,h.n,rfl⟩
 .simp only[po,xD (hlt k hk)]at hd;split at hd
  .cases hd
  .exact⟨hd,xD (hlt k hk)⟩
 .have hk:=ud hd;simp only[po,xD (hlt k hk)];rw[xD];intro e;have:=h.kz k e;rw[hz]at this;cases this
 .simp only[po,xD (hlt k hk)]at hd;split at hd
  .cases hd
  .rename_i hne;exact⟨y,h.old b y hy (h.low hR (hlt k hk) hne (by rw[hd];simp) hm),rfl⟩
 .have hnk: ¬cV2 c kill b:=λ⟨k,e,hm⟩=>hn ⟨k,h.kz k e,hm⟩
  rintro⟨k,h1,h2⟩;simp only[po]at h1;simp only[aj5]at h2;by_cases hk:k=c.S.length
  .rw[xB hk]at h1 h2;obtain⟨d,_,_,h3⟩:=h.one;rcases h3 with⟨h3,_⟩|⟨b',y',cs,rest,h3,_,_,_,_,_,h4⟩
   .rw[h3]at h2;cases h2
   .rw[h3]at h2;injection h2 with h2
    subst h2;rcases h4 with h4|h4
    .exact h4 y hy
    .exact hnk h4
  .rw[xD hk]at h1 h2;split at h1
   .cases h1
   .exact hn ⟨k,h1,h2⟩
theorem Moves.rel (hR:gw c)(h:Moves c kill b1 blk Y'):gw ⟨aj5 c b1,w6 c.S kill++[blk],Y',c.fb⟩:=by
 have hle:=h.le hR
 have hnew: ∀i b,i≠c.S.length->kill≠C i->(cc c.S i).dim≠O->c.Z i=C b->b1≠C b:=by
  intro i b hi hk hd hm e;obtain⟨d,_,_,h3⟩:=h.one;rcases h3 with⟨h3,_⟩|⟨b',y',cs,rest,h3,_,_,_,_,_,h4⟩
  .rw[h3]at e;cases e
  .rw[h3]at e;injection e with e
   subst e;rcases h4 with h4|h4
   .cases hdd:(cc c.S i).dim with
    |none=>exact hd hdd
    |some dd=>
     obtain⟨y,_,_,hy,_⟩:=hR.block hdd hm;exact h4 y hy
   .exact h.low hR hi hk hd hm h4
 have hfb: ∀b,c.fb b->b1≠C b:=by
  intro b hb e;obtain⟨d,_,_,h3⟩:=h.one;rcases h3 with⟨h3,_⟩|⟨b',y',cs,rest,h3,_,_,_,_,_,h4⟩
  .rw[h3]at e;cases e
  .rw[h3]at e;injection e with e
   subst e;rcases h4 with h4|⟨k,h4,h5⟩
   .exact h.fr _ h3 h4 hb
   .exact hR.fbk k _ (tn (h.kz k h4)) h5 hb
 refine⟨h.ok,λk k' b hk hk' hm hm'=> ?_,λk=> ?_,λk b hk hm hb=> ?_,λb hb=>aB (hR.fbl b hb) h.n⟩
 rotate_left 2
 .simp only[po]at hk;simp only[aj5]at hm;by_cases h1:k=c.S.length
  .rw[xB h1]at hm;exact hfb b hb hm
  .rw[xD h1]at hm hk;split at hk
   .exact hk rfl
   .exact hR.fbk k b hk hm hb
 .simp only[po]at hk hk';simp only[aj5]at hm hm';by_cases h1:k=c.S.length<;>by_cases h2:k'=c.S.length
  .omega
  .rw[xB h1]at hm;rw[xD h2]at hm' hk';split at hk'
   .exact(hk' rfl).elim
   .rename_i hne;exact(hnew k' b h2 hne hk' hm' hm).elim
  .rw[xD h1]at hm hk;rw[xB h2]at hm';split at hk
   .cases hk
   .rename_i hne;exact(hnew k b h1 hne (tn hk) hm hm').elim
  .rw[xD h1]at hm hk;rw[xD h2]at hm' hk';split at hk
   .cases hk
   .split at hk'
    .exact(hk' rfl).elim
    .exact hR.inj k k' b hk hk' hm hm'
 .by_cases hk:k=c.S.length
  .subst hk;intro d hd;simp only[po,if_true]at hd⊢;obtain⟨d',h1,h2,h3⟩:=h.one;rw[hd]at h1;injection h1 with h1
   subst h1;refine⟨h2, ?_⟩;simp only[aj5,if_true];rcases h3 with⟨h3,h4⟩|⟨b',y',cs,rest,h3,h4,h5,h6,h7,h8,_⟩
   .exact .inl ⟨h4,h3⟩
   .exact .inr ⟨b',y',cs,rest,h3,h4,h5,h6,h7,VRel.frames hle h8⟩
  .by_cases hne:kill=C k
   .intro d hd;simp only[po,xD hk,xB hne]at hd;cases hd
   .refine(hR.blk k).frame hle ?_ (λ_=>xD hk) λb y hd hm hy=> ?_
    .simp only[po,xD hk,xD hne]
    .exact h.old b y hy (h.low hR hk hne hd hm)
theorem Moves.calm (hR:gw c)(h:Moves c kill b1 blk Y'){d:List Nat}(hd: ∀k,kill=C k->k∈d):am3 d c ⟨aj5 c b1,w6 c.S kill++[blk],Y',c.fb⟩:=by
 intro k hk hn hdim;have h1:k≠c.S.length:=by omega
 have h2:kill≠C k:=λe=>hn (hd k e)
 simp only[po,xD h1,xD h2];refine⟨hdim,λb hm=> ?_⟩;cases hdd:(cc c.S k).dim with
 |none=>exact(hdim hdd).elim
 |some dd=>
  obtain⟨y,_,_,hy,_⟩:=hR.block hdd hm;rw[hy];exact h.old b y hy (h.low hR h1 h2 hdim hm)
end
theorem cC8 {c:Ctx}(hR:gw c){blk:Blk}{x:Ab.Blk}{d:Nat×Nat}(hd:blk.dim=C d)(h1:1<=d.1)(he:x.es=d.1)(ho:x.own=Za)(hf:F2 (VRel c) blk.vals x.cells):
  Moves c O (C c.Y.n) blk (c.Y.add x):=by
 refine⟨(λb h _ hb=>by injection h with h;subst h;exact Nat.lt_irrefl _ (hR.fbl _ hb)),(λ_ h=>by cases h),λb y hy=> ?_,Nat.le_succ _,λi y hy _=> ?_,d,hd,h1, .inr ⟨c.Y.n,x,x.cells,[],rfl,xB rfl,he,λ_=>ho,by simp,hf, .inl λz hz=> ?_⟩⟩
 .simp only[Hp.add]at hy⊢;split at hy
  .omega
  .have:=hR.ok b y hy;omega
 .have:=hR.ok i y hy;simp only[Hp.add];rw[xD (by omega)];exact hy
 .have:=hR.ok _ _ hz;omega
structure Writes (c:Ctx)(k b:Nat)(blk:Blk)(y':Ab.Blk):Prop where
 kz:(cc c.S k).frozen=Zb
 mu:c.Z k=C b
 dim:blk.dim=(cc c.S k).dim
 fz:blk.frozen=Zb
 one: ∃y cs rest d,c.Y.m b=C y/\(cc c.S k).dim=C d/\y'.es=d.1/\y'.own=Za/\y'.cells.length=y.cells.length/\y'.cells=cs++rest/\F2 (VRel c) blk.vals cs
section
variable {c:Ctx} {k b:Nat} {blk:Blk} {y':Ab.Blk}
theorem Writes.get (h:Writes c k b blk y')(i:Nat):cc (ql c.S k blk) i=if i=k then blk else cc c.S i:=by
 rw[ax9];have:=ud (tn h.kz);by_cases hi:i=k
 .rw[xB ⟨hi,this⟩,xB hi]
 .rw[xD (λe=>hi e.1),xD hi]
theorem Writes.low (hR:gw c)(h:Writes c k b blk y'){i b':Nat}(hi:i≠k)(hd:(cc c.S i).dim≠O)(hm:c.Z i=C b'):b'≠b:=by
 rintro rfl;exact hi (hR.inj k i b' h.kz hd h.mu hm).symm
theorem Writes.le (hR:gw c)(h:Writes c k b blk y'):Le c ⟨c.Z,ql c.S k blk,c.Y.set b (C y'),c.fb⟩:=by
 refine⟨by simp[bf3],λi d _ hd=> ?_,λi hz hd=> ?_,λi d x y _ hd hm hy=> ?_,λx y hy hn=> ?_,λx y hy hn=> ?_,Nat.le_refl _,rfl⟩
 .simp only[h.get]at hd;split at hd
  .rename_i e;subst e;exact⟨h.dim▸hd,rfl⟩
  .exact⟨hd,rfl⟩
 .simp only[h.get];rw[xD];rintro rfl;rw[h.kz]at hz;cases hz
 .by_cases e:x=b
  .subst e;obtain⟨y0,_,_,_,h1,_,_,_,h2,_⟩:=h.one;rw[hy]at h1;injection h1 with h1
   subst h1;exact⟨y',by simp[Hp.set],h2⟩
  .exact⟨y,by simp[Hp.set,e,hy],rfl⟩
 .have hne:x≠b:=by rintro rfl;exact hn ⟨k,h.kz,h.mu⟩
  simp[Hp.set,hne,hy]
 .rintro⟨i,h1,h2⟩;simp only[h.get]at h1;split at h1
  .rename_i e;subst e;exact hn ⟨i,h.kz,h2⟩
  .exact hn ⟨i,h1,h2⟩
theorem Writes.rel (hR:gw c)(h:Writes c k b blk y'):gw ⟨c.Z,ql c.S k blk,c.Y.set b (C y'),c.fb⟩:=by
 have hle:=h.le hR
 have hfz: ∀i,(cc (ql c.S k blk) i).frozen=Zb->(cc c.S i).frozen=Zb:=by
  intro i hi;rw[h.get]at hi;split at hi
  .rename_i e;subst e;exact h.kz
  .exact hi
 have hdm: ∀i,(cc (ql c.S k blk) i).dim=(cc c.S i).dim:=by
  intro i;rw[h.get];split
  .rename_i e;subst e;exact h.dim
  .rfl
 refine⟨λx z hz=> ?_,λi j x hi hj hm hm'=>hR.inj i j x (hfz i hi) (by rw[<-hdm];exact hj) hm hm',λi=> ?_,λi x hi hm=>hR.fbk i x (by rw[<-hdm];exact hi) hm,hR.fbl⟩
 .simp only[Hp.set]at hz;split at hz
  .rename_i e;subst e;obtain⟨y,_,_,_,h1,_⟩:=h.one;exact hR.ok _ _ h1
  .exact hR.ok _ _ hz
 .by_cases e:i=k
  .subst e;intro d hd;obtain⟨y,cs,rest,d',h1,h2,h3,h4,h5,h6,h7⟩:=h.one;have hd':(cc c.S i).dim=C d:=by rw[<-hdm];exact hd
   rw[hd']at h2;injection h2 with h2
   subst h2;refine⟨(hR.blk i d hd').1, .inr ⟨b,y',cs,rest,h.mu,by simp[Hp.set],h3,λ_=>h4,h6, ?_⟩⟩;simp only[h.get,if_true];exact VRel.frames hle h7
  .refine(hR.blk i).frame hle (by simp only[h.get,xD e]) (λ_=>rfl) λx z hd hm hz=> ?_
   have:=h.low hR e hd hm;simp[Hp.set,this,hz]
theorem Writes.calm (hR:gw c)(h:Writes c k b blk y'){d:List Nat}(hd:k∈d):am3 d c ⟨c.Z,ql c.S k blk,c.Y.set b (C y'),c.fb⟩:=by
 intro i _ hn hdim;have hne:i≠k:=by rintro rfl;exact hn hd
 simp only[h.get,xD hne];refine⟨hdim,λx hm=> ?_⟩;have:=h.low hR hne hdim hm;simp[Hp.set,this]
end
end
end Go.V
