/- A part of the proof. No condition. -/
import Derived.Test.YtlmlogmcgeijcaaGreatDoorA3
import Derived.IntWalk
import Derived.Below
set_option linter.unusedVariables false
set_option linter.unusedSimpArgs false
set_option linter.unusedSectionVars false
namespace Go.Ab
variable {f:FuncId}{T:fM}{v:Value}{af:AFn}{w:World}
section
open List renaming mapM_cons → bD, getElem?_eq_getElem → cB
open Result renaming andThen_ok → aB
open Sem renaming run_bind → aD, run_pure → bB
open Go.RowKit
def L5 (P:Program):List ResultVar→Option (List ARes)
 |[]=>some []
 | .tmp t::r=>(L5 P r).map (.tmp t:: ·)
 | .cell a t::r=>match zn P t,lg P t,L5 P r with
  |some true,some n,some r=>some (.cellN a n::r)
  |some false,some _,some r=>some (.cell a::r)
  |_,_,_=>none
def RJ (P:Program)(f:FuncId):Option AFn:=match P.funcs[f]? with
 |some g=>match g.body,SF P f with
  |some c,true=>match lX P g.ntmps c,L5 P g.results.toList with
   |some h,some rs=>some ⟨g.ntmps,rs,h⟩
   |_,_=>none
  |_,_=>none
 |none=>none
section
variable {P:Program} {T:fM} {B:Base P} {N:Nat} {μ:Mu} {σ:Hp} {w:World} {e:cf}
def Db (g:Array Value):ResultVar→Sem Value
 | .tmp t=>pure (g.getD t undef)
 | .cell a t=>do loadVar t (←asAddr (g.getD a undef))
theorem Ti (p:Func)(g:Array Value):results p g=(do
  let vs←p.results.mapM (Db g)
  pure (if h:vs.size=1 then vs[0]else .tuple vs)):=rfl
theorem Pk {p:Array Value}(V:eU μ N e p)(U:R B μ σ w): ∀(l:List ResultVar) (rs:List ARes) (vs:List Value),L5 P l=some rs→Im e σ rs=some vs→
  ∃u,(l.mapM (Db p)).run P w= .ok u w∧F2 (VR μ) vs u
 |[],rs,vs,h,s=>by
  simp[L5]at h;subst h;simp[Im]at s;subst s;exact⟨[],by simp, .nil⟩
 | .tmp t::l,rs,vs,h,s=>by
  simp only[L5]at h;obtain⟨C,F,h⟩:=Option.map_eq_some_iff.1 h;subst h;simp only[Im]at s;split at s
  ·rename_i v D H J;injection s with s
   subst s;simp[LC]at H;subst H;obtain⟨u,A,L⟩:=Pk V U l C D F J;refine⟨p.getD t undef::u, ?_, .cons (V.2 t) L⟩;have M:(Db p (.tmp t)).run P w= .ok (p.getD t undef) w:=rfl;simp only[bD,aD,bB,aB,M,A]
  ·cases s
 | .cell a t::l,rs,vs,h,s=>by
  simp only[L5]at h;have X:=V.2 a;split at h
  ·rename_i n C F H J;injection h with h
   subst h;simp only[Im]at s;split at s
   ·rename_i v D A L;injection s with s
    subst s;obtain⟨u,Z,h7⟩:=Pk V U l C D J L;simp only[LC]at A;split at A
    ·rename_i b o hb;rw[hb]at X;obtain⟨g,W,hq⟩:=X.ptr_inv;obtain⟨x,hx,A⟩:=Option.bind_eq_some_iff.1 A;obtain⟨cs,hcs,rfl⟩:=Option.map_eq_some_iff.1 A;obtain⟨E,k1,k2⟩:=U.reads hx W hcs;refine⟨.agg E.toArray::u, ?_, .cons (.agg k2) h7⟩
     have M:(Db p (.cell a t)).run P w= .ok (.agg E.toArray) w:=by
      simp only[Db,aD,hq,asAddr,bB,aB,loadVar,EV F,if_true,lW H,k1 P w rfl]
     simp only[bD,aD,bB,aB,M,Z]
    ·cases A
   ·cases s
  ·rename_i n C F H J;injection h with h
   subst h;simp only[Im]at s;split at s
   ·rename_i v D A L;injection s with s
    subst s;obtain⟨u,Z,h7⟩:=Pk V U l C D J L;simp only[LC]at A;split at A
    ·rename_i b o hb;rw[hb]at X;obtain⟨g,W,hq⟩:=X.ptr_inv;obtain⟨x,hx,A⟩:=Option.bind_eq_some_iff.1 A;obtain⟨v',k1,k2⟩:=(U.get hx W.1).cell W.2 o v A;refine⟨v'::u, ?_, .cons k2 h7⟩
     have M:(Db p (.cell a t)).run P w= .ok v' w:=by
      simp only[Db,aD,hq,asAddr,bB,aB,loadVar,EV F,Bool.false_eq_true,if_false,run_load,k1]
     simp only[bD,aD,bB,aB,M,Z]
    ·cases A
   ·cases s
  ·cases h
theorem Ug (h:RJ P f=some af)(hM:rk T)(hT: ∀g,CA P g (T g)):CA P f (wpF T af):=by
 unfold RJ at h;split at h
 ·rename_i C E;split at h
  ·rename_i c hb A;split at h
   ·rename_i ac rs h1 h2;injection h with h
    subst h;intro B μ σ w s p K X hR ha;obtain⟨M,X⟩:=X
    have D:N2 P f:=by
     unfold SF at A;rw[E]at A;simp only[Bool.and_eq_true,Bool.not_eq_true']at A;exact⟨C,E,A.1,A.2⟩
    refine⟨D,calls_of_wp E hb ?_⟩;have hsz:p.size=s.length:=by simpa using ha.length.symm
    have L:eU μ C.ntmps (cf.of s) (p++Array.replicate (C.ntmps-p.size) undef):=by
     refine⟨by simp only[Array.size_append,Array.size_replicate];simp only at M;omega,fun t=> ?_⟩;unfold cf.of;by_cases ht:t<s.length
     ·obtain⟨v',h3,h4⟩:=ha.get t s[t] (cB ht)
      have:(p++Array.replicate (C.ntmps-p.size) undef).getD t undef=v':=by
       simp only[Array.getD_eq_getD_getElem?];rw[Array.getElem?_append_left (by omega)];have:p[t]?=some v':=by simpa using h3
       simp[this]
      rw[this,cB ht];exact h4
     ·have:(p++Array.replicate (C.ntmps-p.size) undef).getD t undef=undef:=by
       simp only[Array.getD_eq_getD_getElem?];rw[Array.getElem?_append_right (by omega),Array.getElem?_replicate];split<;>rfl
      rw[this,List.getElem?_eq_none (by omega)];exact VR.undef μ
    refine wp_mono (ag0 hM hT c ac h1 _ _ σ μ ⟨_,[]⟩ w X hR L rfl) fun x a' Z hx=> ?_
    obtain⟨ax,e',σ',μ',U,F,g1,g2,g3,g4,g5⟩:=hx
    have J:(match Im e' σ' rs with
      |some V=>K (zM V) σ'
      |none=>False)→a'.defers=[]∧∃v,(results C a'.tmps).run P Z= .ok v Z∧aI5 P B μ w K (.returned v) Z:=by
     intro F;refine⟨g4, ?_⟩;split at F
     ·rename_i V W;obtain⟨H,k1,k2⟩:=Pk (P:=P) g3 g2 C.results.toList rs V h2 W;have hl:=k2.length;refine⟨zM H, ?_,_,σ',_,μ',rfl,F,g1,g2, ?_,g5,rfl⟩
      ·rw[Ti,Array.mapM_eq_mapM_toList];simp only[aD,Sem.run_map,k1,aB,bB]
       congr 1
       match H,hl with
       |[],_=>rfl
       |[v],_=>rfl
       |v::u::r,_=>simp[zM]
      ·match V,H,k2 with
       |[],_, .nil=>exact .tuple .nil
       |[v],_, .cons h .nil=>exact h
       |v::u::r,_, .cons h (.cons h' t)=>exact .tuple (.cons h (.cons h' t))
     ·exact F.elim
    cases ax with
    |normal=>
     cases x<;>simp[xd]at U;exact J F
    |exit id=>exact F.elim
    |ret=>
     cases x<;>simp[xd]at U;exact J F
   ·cases h
  ·cases h
 ·cases h
theorem CA.none (P:Program)(f:FuncId):CA P f fun _ _ _=>False:=fun _ _ _ _ _ _ _ h=>h.elim
theorem CA.of {S S':HE}(h:CA P f S)(s: ∀g σ K,S' g σ K→S g σ K):CA P f S':=
 fun B μ σ w g p K u=>h B μ σ w g p K (s g σ K u)
end
inductive Rn (ν:Nat→Nat)(n:Nat):Value→Value→Prop where
 |bool (b:Bool):Rn ν n (.bool b) (.bool b)
 |int (k:IntKind) (m:Int):Rn ν n (.int k m) (.int k m)
 |string (s:ByteArray):Rn ν n (.string s) (.string s)
 |nilp:Rn ν n (.pointer none) (.pointer none)
 |ptr {b o:Nat}:b<n→Rn ν n (.pointer (some ⟨b,o,none⟩)) (.pointer (some ⟨ν b,o,none⟩))
 |nils:Rn ν n (.slice none 0 0) (.slice none 0 0)
 |slice {b o l c:Nat}:b<n→Rn ν n (.slice (some ⟨b,o,none⟩) l c) (.slice (some ⟨ν b,o,none⟩) l c)
 |nilf:Rn ν n .nilFunc .nilFunc
 |func {f:Fn} {a a' c c':Array Value}:F2 (Rn ν n) a.toList a'.toList→F2 (Rn ν n) c.toList c'.toList→Rn ν n (.func f a c) (.func f a' c')
 |nili:Rn ν n .nilIface .nilIface
 |agg {a a':Array Value}:F2 (Rn ν n) a.toList a'.toList→Rn ν n (.agg a) (.agg a')
 |tuple {a a':Array Value}:F2 (Rn ν n) a.toList a'.toList→Rn ν n (.tuple a) (.tuple a')
theorem Rn.vr {ν:Nat→Nat}{n:Nat}{J H:Mu}(D: ∀b,b<n→H b=J (ν b)): ∀{v u:Value},Rn ν n v u→∀{M:Value},VR J u M→VR H v M
 |_,_, .bool b,_,h=>by cases h;exact .bool b
 |_,_, .int k m,_,h=>by cases h;exact .int k m
 |_,_, .string s,_,h=>by cases h;exact .string s
 |_,_, .nilp,_,h=>by cases h;exact .nilp
 |_,_, .ptr C,_,h=>by cases h with|ptr g=>exact .ptr ⟨(D _ C).trans g.1,g.2⟩
 |_,_, .nils,_,h=>by cases h;exact .nils
 |_,_, .slice C,_,h=>by cases h with
  |slice g E U V=>exact .slice ⟨(D _ C).trans g.1,g.2⟩ E U V
  |slice0 A' g=>exact .slice0 _ ⟨(D _ C).trans g.1,g.2⟩
 |_,_, .nilf,_,h=>by cases h;exact .nilf
 |_,_, .func g E,_,h=>by cases h with|func p F=>exact .func (A g p) (A E F)
 |_,_, .nili,_,h=>by cases h;exact .nili
 |_,_, .agg g,_,h=>by cases h with|agg p=>exact .agg (A g p)
 |_,_, .tuple g,_,h=>by cases h with|tuple p=>exact .tuple (A g p)
where
 A {l m:List Value}:F2 (Rn ν n) l m→∀{L:List Value},F2 (VR J) m L→F2 (VR H) l L
 | .nil,_,h=>by cases h;exact .nil
 | .cons g W,_,h=>by cases h with|cons p F=>exact .cons (Rn.vr D g p) (A W F)
theorem VR.narrow {μ U M:Mu}(C: ∀b g V,μ b=some g→U b=some V→M b=some V): ∀{v u:Value},VR μ v u→∀{X:Value},VR U v X→VR M v X
 |_,_, .bool b,_,h=>by cases h;exact .bool b
 |_,_, .int k m,_,h=>by cases h;exact .int k m
 |_,_, .string s,_,h=>by cases h;exact .string s
 |_,_, .nilp,_,h=>by cases h;exact .nilp
 |_,_, .ptr A,_,h=>by cases h with|ptr p=>exact .ptr ⟨C _ _ _ A.1 p.1,p.2⟩
 |_,_, .nils,_,h=>by cases h;exact .nils
 |_,_, .slice A _ _ _,_,h=>by cases h with
  |slice p D J L=>exact .slice ⟨C _ _ _ A.1 p.1,p.2⟩ D J L
  |slice0 A' p=>exact .slice0 _ ⟨C _ _ _ A.1 p.1,p.2⟩
 |_,_, .slice0 A' A,_,h=>by cases h with
  |slice p D J L=>exact .slice ⟨C _ _ _ A.1 p.1,p.2⟩ D J L
  |slice0 A' p=>exact .slice0 _ ⟨C _ _ _ A.1 p.1,p.2⟩
 |_,_, .sliceX A _,_,h=>by cases h with
  |sliceX p D=>exact .sliceX ⟨C _ _ _ A.1 p.1,p.2⟩ D
  |sliceX0 A' p=>exact .sliceX0 _ ⟨C _ _ _ A.1 p.1,p.2⟩
 |_,_, .sliceX0 A' A,_,h=>by cases h with
  |sliceX p D=>exact .sliceX ⟨C _ _ _ A.1 p.1,p.2⟩ D
  |sliceX0 A' p=>exact .sliceX0 _ ⟨C _ _ _ A.1 p.1,p.2⟩
 |_,_, .nilf,_,h=>by cases h;exact .nilf
 |_,_, .func p D,_,h=>by cases h with|func E H=>exact .func (F p E) (F D H)
 |_,_, .iter A _,_,h=>by cases h with|iter E H=>exact .iter (C _ _ _ A E) H
 |_,_, .nili,_,h=>by cases h;exact .nili
 |_,_, .agg p,_,h=>by cases h with|agg E=>exact .agg (F p E)
 |_,_, .tuple p,_,h=>by cases h with|tuple E=>exact .tuple (F p E)
where
 F {l m:List Value}:F2 (VR μ) l m→∀{W:List Value},F2 (VR U) l W→F2 (VR M) l W
 | .nil,_,h=>by cases h;exact .nil
 | .cons p Z,_,h=>by cases h with|cons E H=>exact .cons (VR.narrow C p E) (F Z H)
end
section
open Nat renaming lt_or_ge → aB, lt_of_lt_of_le → aD
open Go.RowKit
structure Weak (σ0 σ1:Hp)(r:Value)(σ':Hp)(r':Value)(ν:Nat→Nat):Prop where
 n:σ0.n≤σ'.n
 old: ∀b,b<σ0.n→ν b=b
 inj: ∀b b' x x',σ'.m b=some x→σ'.m b'=some x'→b≠b'→ν b≠ν b'
 blk: ∀b x',σ'.m b=some x'→(σ0.m b=some x'∧σ1.m b=some x')∨
  (b<σ'.n∧∃x,σ1.m (ν b)=some x∧x'.es=x.es∧(x'.own=true→x.own=true)∧F2 (Rn ν σ'.n) x'.cells (x.cells.take x'.cells.length))
 res:Rn ν σ'.n r' r
section
variable {P:Program} {f:FuncId} {S S':HE}
theorem R.weak {P:Program}{B:Base P}{μ W:Mu}{σ σ1 σ':Hp}{w':World}{r r':Value}{ν:Nat→Nat}(hR:R B μ σ w)(J:R B W σ1 w')(hμ:μ.le W)(h:Weak σ σ1 r σ' r' ν):
  ∃μ',μ.le μ'∧R B μ' σ' w'∧∀rc,VR W r rc→VR μ' r' rc:=by
 have Z: ∀b g,μ b=some g→b<σ.n:=fun b g D=>by
  rcases aB b σ.n with h1|h1
  ·exact h1
  ·rw[hR.fresh b h1]at D;cases D
 have hin: ∀b,b<σ'.n→(fun b=>if b<σ'.n then W (ν b)else none) b=W (ν b):=fun b D=>zE D
 have hlt0: ∀b x,σ.m b=some x→b<σ.n:=fun b x U=>by
  obtain⟨g,E,_⟩:=hR.live b x U;exact Z b g E
 have M: ∀b g g1,μ b=some g→W b=some g1→(fun b=>if b<σ'.n then W (ν b)else none) b=some g1:=by
  intro b g g1 D hb1;have h1:=Z b g D;rw[hin b (aD h1 h.n),h.old b h1];exact hb1
 refine⟨fun b=>if b<σ'.n then W (ν b)else none,fun b g D=> ?_,⟨J.base,J.old,fun b D=>zF (by omega),fun b F A=> ?_,fun b b' x F g g' U A hne ho E X=> ?_, ?_⟩,fun rc hrc=>h.res.vr hin hrc⟩
 ·exact M b g g D (hμ b g D)
 ·rcases h.blk b F A with⟨h1,H⟩|⟨h1,x,H,h3,h4,C⟩
  ·obtain⟨g,E,L⟩:=J.live b F H;obtain⟨g0,hg0,hl0⟩:=hR.live b F h1;have hgg:g=g0:=by have:=hμ b g0 hg0;rw[E]at this;exact Option.some.inj this
   refine⟨g,M b g0 g hg0 E,L.lt,L.es,fun h0 i v hv=> ?_,L.own,L.iter,L.bld⟩;obtain⟨u,hu,hvu⟩:=L.cell h0 i v hv;obtain⟨u0,_,hvu0⟩:=hl0.cell (hgg▸h0) i v hv;exact⟨u,hu,hvu0.narrow M hvu⟩
  ·obtain⟨g,E,L⟩:=J.live (ν b) x H
   have hlen:F.cells.length≤x.cells.length:=by
    have:=C.length;rw[List.length_take]at this;omega
   refine⟨g,by simp only[zE h1];exact E,L.lt,L.es.trans h3.symm,fun h0 i v hv=> ?_,fun h0 ho=> ?_,fun s hs=> ?_,fun hs=> ?_⟩
   ·obtain⟨u,hu,hvu⟩:=C.get i v hv
    have hi:i<F.cells.length:=by
     rcases aB i F.cells.length with h6|h6
     ·exact h6
     ·rw[List.getElem?_eq_none h6]at hv;cases hv
    rw[List.getElem?_take,zE hi]at hu;obtain⟨u',hu',huu⟩:=L.cell h0 i u hu;exact⟨u',hu',hvu.vr hin huu⟩
   ·obtain⟨k1,k2,k3⟩:=L.own h0 (h4 ho);exact⟨k1,by omega,k3⟩
   ·obtain⟨k1,p,k2,k3⟩:=L.iter s hs;refine⟨k1,p, ?_,k3⟩;rw[k2]at C;have hl5:=C.length;cases A:F.cells with
    |nil=>rfl
    |cons v r=>
     rw[A]at C hl5;cases hc:x.cells.length with
     |zero=>rw[hc]at C;simp at C;cases C
     |succ n=>
      rw[hc]at C;simp at C;cases C with
      |cons h6 h7=>
       cases h7;cases h6;simp
   ·obtain⟨k1,p,s,k0,k2,k3⟩:=L.bld hs;refine⟨k1,p,s,k0, ?_,k3⟩;rw[k2]at C;have hl5:=C.length;cases A:F.cells with
    |nil=>rfl
    |cons v r=>
     rw[A]at C hl5;cases hc:x.cells.length with
     |zero=>rw[hc]at C;simp at C;cases C
     |succ n=>
      rw[hc]at C;simp at C;cases C with
      |cons h6 h7=>
       cases h7;cases h6;simp
 ·have V: ∀b x,σ'.m b=some x→∃y,σ1.m (ν b)=some y∧(x.own=true→y.own=true)∧b<σ'.n:=by
   intro b x U;rcases h.blk b x U with⟨h1,H⟩|⟨h1,y,H,_,h4,_⟩
   ·have D:=hlt0 b x h1;exact⟨x,by rw[h.old b D];exact H,id,aD D h.n⟩
   ·exact⟨y,H,h4,h1⟩
  obtain⟨y,hy,hyo,D⟩:=V b x U;obtain⟨y',hy',_,hb'⟩:=V b' F A;simp only[zE D]at E;simp only[zE hb']at X;exact J.inj (ν b) (ν b') y y' g g' hy hy' (h.inj b b' x F U A hne) (hyo ho) E X
 ·have V: ∀b x g,σ'.m b=some x→(fun b=>if b<σ'.n then W (ν b)else none) b=some g→∃y,σ1.m (ν b)=some y∧W (ν b)=some g:=by
   intro b x g U E
   have D:b<σ'.n:=by
    rcases aB b σ'.n with h|h
    ·exact h
    ·simp only[zF (show¬b<σ'.n by omega)]at E;cases E
   simp only[zE D]at E;rcases h.blk b x U with⟨h1,H⟩|⟨_,y,H,_⟩
   ·exact⟨x,by rw[h.old b (hlt0 b x h1)];exact H,E⟩
   ·exact⟨y,H,E⟩
  intro b x g U E hi k hk b' F g' A X;obtain⟨y,h1,H⟩:=V b x g U E;obtain⟨y',h3,h4⟩:=V b' F g' A X;obtain⟨m1,m2⟩:=J.sep (ν b) y g h1 H hi k hk (ν b') y' g' h3 h4;exact⟨m1,fun hne=>m2 (h.inj b' b F x A U hne)⟩
theorem CA.weak (h:CA P f S)(M: ∀g σ K,S' g σ K→S g σ fun C σ1=> ∃ν σ' u,Weak σ σ1 C σ' u ν∧K u σ'):CA P f S':=by
 intro B μ σ w g s K W A U;obtain⟨V,p⟩:=h B μ σ w g s _ (M g σ K W) A U;refine⟨V,p.mono fun x w' Z=> ?_⟩;obtain⟨C,σ1,D,μ1,rfl,⟨ν,σ',u,X,L⟩,E,F,H,J,_⟩:=Z;obtain⟨μ',k1,k2,k3⟩:=A.weak F E X;exact⟨u,σ',D,μ',rfl,L,k1,k2,k3 D H,J,rfl⟩
end
def TG (σ σ1:Hp):Prop:=σ.n≤σ1.n∧∀b,b<σ.n→σ1.m b=σ.m b
theorem TG.refl (σ:Hp):TG σ σ:=⟨Nat.le_refl _,fun _ _=>rfl⟩
theorem TG.trans {a b c:Hp}(h:TG a b)(k:TG b c):TG a c:=⟨Nat.le_trans h.1 k.1,fun x g=>(k.2 x (aD g h.1)).trans (h.2 x g)⟩
theorem TG.add {σ σ1:Hp}(h:TG σ σ1)(x:Blk):TG σ (σ1.add x):=by
 refine⟨Nat.le_succ_of_le h.1,fun b g=> ?_⟩;have:b≠σ1.n:=by have:=h.1;omega
 simp only[Hp.add,zF this];exact h.2 b g
theorem TG.set {σ σ1:Hp}(h:TG σ σ1){b:Nat}(s:σ.n≤b)(x:Option Blk):TG σ (σ1.set b x):=by
 refine⟨h.1,fun p g=> ?_⟩;have:p≠b:=by omega
 simp only[Hp.set,zF this];exact h.2 p g
def Hp.Ok (σ:Hp):Prop:= ∀b x,σ.m b=some x→b<σ.n
def Fin (σ:Hp)(K:Value→Hp→Prop)(h:Value)(σ1:Hp):Prop:= ∃ν σ' g,Weak σ σ1 h σ' g ν∧K g σ'
section
variable {P:Program} {f:FuncId} {S S':HE} {σ σ1:Hp} {K:Value→Hp→Prop}
theorem CA.lt (h:CA P f fun p σ K=>σ.Ok∧S p σ K):CA P f S:=by
 intro B μ σ w p s K D u C;refine h B μ σ w p s K ⟨fun b x E=> ?_,D⟩ u C;obtain⟨g,A,_⟩:=u.live b x E;rcases aB b σ.n with h1|h1
 ·exact h1
 ·rw[u.fresh b h1]at A;cases A
theorem CA.fin (h:CA P f S)(s: ∀g σ K,σ.Ok→S' g σ K→S g σ (Fin σ K)):CA P f S':=
 CA.lt (CA.weak h fun g σ K ⟨p,u⟩=>s g σ K p u)
theorem Fin.plain {r:Value}(h:TG σ σ1)(p:σ.Ok)(A:Rn id σ.n r r)(u:K r σ):Fin σ K r σ1:=
 ⟨id,σ,r,⟨Nat.le_refl _,fun _ _=>rfl,fun _ _ _ _ _ _ s=>s,fun b C g=> .inl ⟨g,(h.2 b (p b C g)).trans g⟩,A⟩,u⟩
theorem Fin.all {r:Value}(C:σ.n≤σ1.n)(s:σ1.Ok)(D:Rn id σ1.n r r)(A: ∀b x,σ1.m b=some x→F2 (Rn id σ1.n) x.cells x.cells)(u:K r σ1):Fin σ K r σ1:=
 ⟨id,σ1,r,⟨C,fun _ _=>rfl,fun _ _ _ _ _ _ h=>h,fun b p g=> .inr ⟨s b p g,p,g,rfl,id,by rw[List.take_length];exact A b p g⟩,D⟩,u⟩
theorem Fin.new1 {r H:Value}{b:Nat}{x u:Blk}(h:TG σ σ1)(C:σ.Ok)(hb:σ.n≤b)(X:σ1.m b=some x)(U:u.es=x.es)(V:u.own=true→x.own=true)(M:F2 (Rn (fun i=>if i=σ.n then b else i) (σ.n+1)) u.cells (x.cells.take u.cells.length))
  (W:Rn (fun i=>if i=σ.n then b else i) (σ.n+1) H r) (L:K H (σ.add u)):Fin σ K r σ1:=by
 refine⟨fun i=>if i=σ.n then b else i,σ.add u,H,⟨Nat.le_succ _,fun i J=>zF (by omega),fun i F y Z g E D=> ?_,fun i y g=> ?_,W⟩,L⟩
 ·have s: ∀i y,(σ.add u).m i=some y→i≠σ.n→i<σ.n:=by
   intro i y g J;simp only[Hp.add,zF J]at g;exact C i y g
  by_cases p:i=σ.n
  ·have A:F≠σ.n:=fun e=>D (p.trans e.symm)
   have:=s F Z E A;simp only[zE p,zF A];omega
  ·have:=s i y g p;by_cases A:F=σ.n
   ·simp only[zF p,zE A];omega
   ·simp only[zF p,zF A];exact D
 ·by_cases p:i=σ.n
  ·subst p;simp only[Hp.add,zE trivial]at g;injection g with g
   subst g;exact .inr ⟨Nat.lt_succ_self _,x,by simp only[zE trivial];exact X,U,V,M⟩
  ·simp only[Hp.add,zF p]at g;exact .inl ⟨g,(h.2 i (C i y g)).trans g⟩
end
section
variable {T:fM}
end
abbrev dv :=List Value→Hp→Value→Hp→Prop
def sp (S:dv):HE:=fun g σ K=> ∃r σ',S g σ r σ'∧K r σ'
abbrev Sc :=FuncId→dv
def sps (U:Sc):fM:=fun f=>sp (U f)
def PT (P:Program)(U:Sc):Prop:= ∀f,CA P f (sps U f)
def Sc.put (U:Sc)(f:FuncId)(S:dv):Sc:=fun g=>if g=f then S else U g
def aD0 :Sc:=fun _ _ _ _ _=>False
theorem PT.none (P:Program):PT P aD0:=fun f B μ σ w p g K h=>by
 obtain⟨_,_,h,_⟩:=h;exact h.elim
theorem PT.put {P:Program}{U:Sc}(h:PT P U){S:dv}(p:CA P f (sp S)):PT P (U.put f S):=by
 intro g;show CA P g (sp (if g=f then S else U g));by_cases e:g=f
 ·subst e;rw[zE rfl];exact p
 ·rw[zF e];exact h g
end
section
section
variable {T:fM} {Q:AExit→cf→Hp→Prop} {q:cf→Hp→Prop} {e:cf} {σ σ':Hp} {a b:AC} {k:Value→Hp→Prop} {v:Value} {K:Value→Hp→Prop}
theorem Tc {d t:Nat}(h:t≠d):(e.put d v) t=e t:=zF h
def Hp.load (σ:Hp):Value→Option Value
 | .pointer (some ⟨b,o,none⟩)=>match σ.m b with
  |some x=>x.cells[o]?
  |none=>none
 |_=>none
def Hp.loadN (σ:Hp)(n:Nat):Value→Option Value
 | .pointer (some ⟨b,o,none⟩)=>match σ.m b with
  |some x=>(pz x o n).map fun g=> .agg g.toArray
  |none=>none
 |_=>none
theorem run_load {x:Operand}:(AOp.load x).run e σ=(σ.load (e.ev x)).map fun v=>(v,σ):=by
 simp only[AOp.run];generalize e.ev x=v;cases v<;>try rfl
 rename_i p;rcases p with _|⟨b,o,sp⟩
 ·rfl
 ·cases sp with
  |some s=>rfl
  |none=>
   simp only[Hp.load];cases σ.m b<;>rfl
def Hp.store (σ:Hp)(n:Nat)(a x:Value):Option Hp:=match a with
 | .pointer (some ⟨b,o,none⟩)=>if(cellsOf x).length=n then(match σ.m b with
  |some g=>(wh g o (cellsOf x)).map fun y=>σ.set b (some y)
  |none=>none)else none
 |_=>none
theorem run_store {n:Nat}{x y:Operand}:(AOp.store n x y).run e σ=(σ.store n (e.ev x) (e.ev y)).map fun σ'=>(undef,σ'):=by
 simp only[AOp.run];generalize e.ev x=v;cases v<;>try rfl
 rename_i p;rcases p with _|⟨b,o,sp⟩
 ·rfl
 ·cases sp with
  |some s=>rfl
  |none=>
   simp only[Hp.store];by_cases h:(cellsOf (e.ev y)).length=n
   ·simp only[h,if_true];cases σ.m b with
    |none=>rfl
    |some g=>
     simp only;cases wh g o (cellsOf (e.ev y))<;>rfl
   ·simp only[h,if_false];rfl
def lenS :Value→Option Value
 | .slice _ n _=>some (.int .i64 n)
 |_=>none
end
end
section
def am8 :fM:=fun _ _ _ _=>False
def fM.put (T:fM)(f:FuncId)(s:HE):fM:=fun g=>if g=f then s else T g
def IH (s:HE):Prop:= ∀g σ (K K':Value→Hp→Prop),(∀r σ',K r σ'→K' r σ')→s g σ K→s g σ K'
structure Known (P:Program)(T:fM):Prop where
 mono:rk T
 sim: ∀f,CA P f (T f)
theorem Known.none (P:Program):Known P am8:=⟨fun _ _ _ _ _ _ h=>h,fun f=>CA.none P f⟩
theorem Known.put {P:Program}(h:Known P T){s:HE}(D:IH s)(E:CA P f s):Known P (T.put f s):=by
 constructor
 ·intro g A σ K K' C p;simp only[fM.put]at p⊢;split
  ·rename_i u;rw[zE u]at p;exact D _ _ _ _ C p
  ·rename_i u;rw[zF u]at p;exact h.mono _ _ _ _ _ C p
 ·intro g;show CA P g (if g=f then s else T g);by_cases e:g=f
  ·subst e;rw[zE rfl];exact E
  ·rw[zF e];exact h.sim g
theorem IH.sp (S:dv):IH (sp S):=fun _ _ _ _ p ⟨r,σ',g,h⟩=>⟨r,σ',g,p r σ' h⟩
theorem IH.wpF (A:rk T)(a:AFn):IH (wpF T a):=by
 intro p σ K K' u h;refine⟨h.1,fp A _ _ _ (fun x e s g=> ?_) _ _ h.2⟩;cases x with
 |exit id=>exact g
 |normal=>
  simp only at g⊢;split at g
  ·exact u _ _ g
  ·exact g
 |ret=>
  simp only at g⊢;split at g
  ·exact u _ _ g
  ·exact g
theorem Known.fn {P:Program}(h:Known P T)(g:RJ P f=some af):CA P f (wpF T af):=Ug g h.mono h.sim
theorem Known.rel {P:Program}(s:Known P T){S:dv}(h:RJ P f=some af)
  (D: ∀g σ r σ',σ.Ok→S g σ r σ'→wpF T af g σ (Fin σ fun u σ1=>u=r∧σ1=σ')):CA P f (sp S):=by
 refine CA.fin (s.fn h) fun g σ K p E=> ?_
 obtain⟨r,σ',A,C⟩:=E;refine IH.wpF s.mono af _ _ _ _ ?_ (D g σ r σ' p A);rintro u σ1 ⟨ν,J,H,F,rfl,rfl⟩;exact⟨ν,J,H,F,C⟩
section
variable {T:fM} {Q:AExit→cf→Hp→Prop} {e:cf} {σ:Hp} {b:AC} {I:cf→Hp→Prop} {m:cf→Hp→Nat} {e0:cf} {σ0:Hp}
end
section
variable {k:IntKind} {a b:Int}
end
section
variable {a b c d:Value} {l:List Value}
end
section
variable {σ:Hp} {x y:Blk} {i b o:Nat} {z:Option Blk}
theorem set_set {g:Option Blk}:(σ.set b z).set b g=σ.set b g:=by
 simp only[Hp.set,Hp.mk.injEq,and_true]
 funext i
 split<;>rfl
end
section
variable {e:cf} {σ:Hp} {rs:List ARes} {t n b o:Nat}
def RM (v:Option Value)(vs:Option (List Value)):Option (List Value):=match v,vs with
 |some v,some vs=>some (v::vs)
 |_,_=>none
end
section
variable {T:fM} {e:cf} {σ:Hp} {k:Value→Hp→Prop} {q:cf→Hp→Prop}
def an0 (n:Nat):Value→Option Value
 | .pointer (some ⟨b,o,none⟩)=>some (.pointer (some ⟨b,o+n,none⟩))
 |_=>none
def aj9 (es:Nat)(k:Value→Hp→Prop)(σ:Hp):Value→Value→Prop
 | .slice (some ⟨b,o,none⟩) n _, .int _ j=>(0≤j∧j<n)∧k (.pointer (some ⟨b,o+j.toNat*es,none⟩)) σ
 |_,_=>False
def Uo (ln es:Nat)(k:Value→Hp→Prop)(σ:Hp):Value→Value→Prop
 | .pointer (some ⟨b,o,none⟩), .int _ j=>(0≤j∧j<ln)∧k (.pointer (some ⟨b,o+j.toNat*es,none⟩)) σ
 |_,_=>False
def fieldV (g n:Nat)(agg:Bool):Value→Option Value
 | .agg h=>if agg=true then some (.agg (h.extract g (g+n)))else h[g]?
 |_=>none
end
section
variable {T:fM} {q:cf→Hp→Prop} {r:List SItem} {e:cf} {σ:Hp} {i:Nat} {d:Option Nat} {kp:Bool} {is:List Nat} {chk:List (Nat×(Hp→Prop))}
end
end
section
def e0 :cf:=fun _=>undef
section
variable {T:fM} {e:cf} {σ:Hp} {k:Value→Hp→Prop}
end
section
variable {σ:Hp} {x:Blk} {i b:Nat} {z:Option Blk}
end
end
section
open IntKind renaming bits → bB, max → bD, min → cB, signed → cD
open List renaming getElem?_eq_none → aB, getElem?_eq_getElem → cK
open Nat renaming lt_or_ge → aD
open Option renaming map_some → cL
open Go.RowKit (Below)
structure Row where
 c:Nat
 o:Nat
 ext:Nat
 es:Nat
 cells:List Value
def PU (P:Program)(w:World):Prop:=P.globalNamed "internal/strconv.uint64pow10" ≠none→Lib.TabIs P w "internal/strconv.uint64pow10" .u64 Lib.pow10Tab
def Base.of {P:Program}(w:World)(A:PU P w):Base P:=⟨w.heap.size,fun b=>w.heap[b]?,fun D _ C p=>by
 have h:=A p;unfold Lib.TabIs World.var? at h⊢;cases u:P.globalNamed "internal/strconv.uint64pow10" with
 |none=>exact(p u).elim
 |some g=>
  simp only[u,zG]at h⊢
  have s:g<w.heap.size:=by
   rcases aD g w.heap.size with h'|h'
   ·exact h'
   ·rw[Array.getElem?_eq_none h']at h;cases h
  rw[C g s]
  exact h⟩
def mI (rows:List Row):Mu:=fun i=>(rows[i]?).map fun r=>⟨r.c,r.o,r.ext,r.es,0,none⟩
def lV (g:Nat)(rows:List Row):Hp:={m:=fun i=>(rows[i]?).bind fun r=>if r.c<g then some ⟨r.cells,false,r.es⟩else none,n:=rows.length}
theorem aE3 {P:Program}(E:PU P w){rows:List Row}(h: ∀r∈rows,∀(i:Nat) (v:Value),r.cells[i]?=some v→∃v',w.cell? ⟨r.c,r.o+i,none⟩=some v'∧VR (mI rows) v v'):
  R (Base.of w E) (mI rows) (lV w.heap.size rows) w:=by
 refine⟨Nat.le_refl _,fun _ _=>rfl,fun b F=> ?_,fun b x p=> ?_,fun b L x U g M p _ _ C=> ?_,fun b x g _ u H _ _=>(by
  simp only[mI]at u;cases s:rows[b]? with
  |none=>rw[s]at u;cases u
  |some r=>rw[s]at u;injection u with u;subst u;cases H)⟩
 ·simp only[mI,aB F,Option.map_none]
 ·simp only[lV]at p;cases s:rows[b]? with
  |none=>rw[s]at p;cases p
  |some r=>
   rw[s,zG]at p;split at p
   ·rename_i A;injection p with p
    subst p;refine⟨⟨r.c,r.o,r.ext,r.es,0,none⟩,by simp only[mI,s,cL],A,rfl,fun _ i v J=>h r (List.mem_of_getElem? s) i v J,fun _ C=>(by cases C),fun _ D=>(by cases D),fun D=>by cases D⟩
   ·cases p
 ·simp only[lV]at p;cases s:rows[b]? with
  |none=>rw[s]at p;cases p
  |some r=>
   rw[s,zG]at p;split at p
   ·injection p with p
    subst p;cases C
   ·cases p
theorem aq0 {g:Nat}{rows:List Row}:(lV g rows).Ok:=by
 intro b x p;rcases aD b rows.length with h|h
 ·exact h
 ·simp only[lV,aB h,Option.bind_none]at p;cases p
theorem aC3 {P:Program}{S:HE}(D:CA P f S)(u:PU P w){rows:List Row}{g:List Value}{cargs:Array Value}
  (s: ∀r∈rows,∀(i:Nat) (v:Value),r.cells[i]?=some v→∃v',w.cell? ⟨r.c,r.o+i,none⟩=some v'∧VR (mI rows) v v')
  (p:F2 (VR (mI rows)) g cargs.toList) (h:S g (lV w.heap.size rows) fun r _=>r= .bool true):
  Calls P f cargs w fun e w'=>e= .returned (.bool true)∧Below w.heap.size w w':=by
 refine(D _ _ _ w g cargs _ h (aE3 u s) p).2.mono fun x w' E=> ?_
 obtain⟨r,σ',F,H,rfl,rfl,_,_,C,A,_⟩:=E;cases C;exact⟨rfl,A⟩
def Sl (k:IntKind)(σ:Hp)(v:Value)(l:List Int):Prop:=
 (v= .slice none 0 0∧l=[])∨∃b c g,v= .slice (some ⟨b,0,none⟩) l.length c∧l.length≤c∧c≤maxLen∧b<σ.n∧(l≠[]→σ.m b=some ⟨(l++g).map (.int k),false,1⟩)
def IG (k:IntKind)(w:World)(a:Option Addr)(len cap:Nat)(zs:List Int):Prop:=
 (a=none∧len=0∧cap=0∧zs=[])∨
 ∃x,a=some x∧len≤cap∧cap≤maxLen∧zs.length=cap∧(∀i,i<zs.length→w.cell? (x.add i)=some (.int k (zs.getD i 0)))∧∀n∈zs,(Lit.int k n).wf=true
def Hf (k:IntKind)(a:Option Addr)(cap:Nat)(zs:List Int):Row:=match a with
 |some x=>⟨x.block,x.off,cap,1,zs.map (.int k)⟩
 |none=>⟨0,0,0,1,[]⟩
def YX (k:Nat)(a:Option Addr)(len cap:Nat):Value:=match a with
 |some _=> .slice (some ⟨k,0,none⟩) len cap
 |none=> .slice none 0 0
section
variable {k:IntKind} {w:World} {a:Option Addr} {len cap:Nat} {zs:List Int} {rows:List Row} {j:Nat}
theorem OF {x:Addr}(h:w.cell? x=some v):x.block<w.heap.size:=by
 unfold World.cell? at h;split at h
 ·rename_i g;exact(Array.getElem?_eq_some_iff.1 g).1
 ·cases h
theorem EX {x:Addr}(h:w.cell? (x.add 0)=some v):x.spot=none:=by
 have:=World.cell?_spot h;simpa[Addr.add]using this
theorem yl {x:Addr}{i:Nat}(g:x.spot=none)(h:w.cell? (x.add i)=some v):w.cell? ⟨x.block,x.off+i,none⟩=some v:=by
 obtain⟨b,o,s⟩:=x;simp only at g;subst g
 have:(⟨b,o,none⟩:Addr).add i=⟨b,o+i,none⟩:=by
  simp only[Addr.add];split
  ·rename_i p;subst p;rfl
  ·rfl
 rwa [this]at h
theorem IG.cells (h:IG k w a len cap zs){i:Nat}(g:(Hf k a cap zs).cells[i]?=some v):
  ∃v',w.cell? ⟨(Hf k a cap zs).c,(Hf k a cap zs).o+i,none⟩=some v'∧VR (mI rows) v v':=by
 rcases h with⟨rfl,rfl,rfl,rfl⟩|⟨x,rfl,u,A,D,s,C⟩
 ·simp[Hf]at g
 ·simp only[Hf]at g⊢;simp only[List.getElem?_map]at g
  have p:i<zs.length:=by
   rcases aD i zs.length with h|h
   ·exact h
   ·rw[aB h]at g;cases g
  rw[cK p,cL]at g;injection g with g
  subst g;refine⟨_,yl (EX (s 0 (by omega))) (s i p), ?_⟩;have:zs.getD i 0=zs[i]:=by simp[List.getD,cK p]
  rw[this];exact .int _ _
theorem IG.sl (h:IG k w a len cap zs)(A:rows[j]?=some (Hf k a cap zs)):Sl k (lV w.heap.size rows) (YX j a len cap) (zs.take len):=by
 rcases h with⟨rfl,rfl,rfl,rfl⟩|⟨x,rfl,E,D,H,C,F⟩
 ·exact .inl ⟨rfl,by simp⟩
 ·have g:(zs.take len).length=len:=by rw[List.length_take];omega
  refine .inr ⟨j,cap,zs.drop len,by rw[g];rfl,by omega,D, ?_,fun u=> ?_⟩
  ·rcases aD j rows.length with h|h
   ·exact h
   ·rw[aB h]at A;cases A
  ·have p:0<zs.length:=by
    rcases Nat.eq_zero_or_pos zs.length with h|h
    ·rw[List.length_eq_zero_iff]at h;subst h;simp at u
    ·exact h
   have s:x.block<w.heap.size:=OF (x:=⟨x.block,x.off+0,none⟩) (yl (EX (C 0 p)) (C 0 p));simp only[lV,A,zG,Hf,zE s,List.take_append_drop]
theorem IG.wf (h:IG k w a len cap zs): ∀n∈zs.take len,(Lit.int k n).wf=true:=by
 rcases h with⟨rfl,rfl,rfl,rfl⟩|⟨x,rfl,u,A,C,s,p⟩
 ·simp
 ·exact fun n g=>p n (List.mem_of_mem_take g)
end
theorem aG0 {n:Int}(h:(Lit.int .i64 n).wf=true): -9223372036854775808≤n∧n≤9223372036854775807:=by
 simpa[Lit.wf,cB,bD,cD,bB]using h
theorem aG1 {n:Int}(h:(Lit.int .u64 n).wf=true):0≤n∧n≤18446744073709551615:=by
 simpa[Lit.wf,cB,bD,cD,bB]using h
theorem aN2 {n:Int}(h:(Lit.int .u8 n).wf=true):0≤n∧n≤255:=by
 simpa[Lit.wf,cB,bD,cD,bB]using h
end
end Go.Ab
namespace Go.V
open Go.Ab
open Option renaming some->O,none->Y
open Bool renaming true->Za,false->Zb
open Decidable renaming decide->Zc
section
open List renaming replicate -> bD
open Nat renaming beq -> aB, ble -> aD
open Option renaming none -> bB
inductive Sh where
 |int (k:IntKind)
 |bool
 |str
 |list (s:Sh)
 |pair (a b:Sh)
 deriving DecidableEq
@[reducible] def El :Sh->Type
 | .int _=>Int
 | .bool=>Bool
 | .str=>Zd
 | .list s=>List (El s)
 | .pair a b=>El a×El b
def Sh.w :Sh->Nat
 | .pair a b=>a.w+b.w
 |_=>1
inductive VV where
 |undef
 |bool (b:Bool)
 |int (k:IntKind) (n:Int)
 |str (l:Zd)
 |nilp
 |nils
 |nilf
 |ptr (k o:Nat)
 |pix (k o n i:Nat)
 |pel (k i o:Nat)
 |pin (s:Sh) (x:El s) (o:Nat)
 |lst (s:Sh) (l:List (El s))
 |tgt (s:Sh) (l:List (El s))
 |full (k:Nat)
 |part (k lo n:Nat)
 |it (k:Nat) (l:Zd)
 |bld (k:Nat)
 |fn (f:Nat) (a c:List VV)
 |agg (l:List VV)
 |tup (l:List VV)
inductive Blk where
 |dead
 |cells (es:Nat) (fz:Bool) (l:List VV)
 |arr (s:Sh) (fz:Bool) (l:List (El s))
abbrev ai :=List Blk
abbrev cm :=List VV
def ld :cm->Nat->VV
 |[],_=> .undef
 |v::_,0=>v
 |_::r,n+1=>ld r n
def pP :cm->Nat->VV->cm
 |[],0,v=>[v]
 |[],n+1,v=> .undef::pP [] n v
 |_::r,0,v=>v::r
 |a::r,n+1,v=>a::pP r n v
def putO (e:cm)(d:Option Nat)(v:VV):cm:=match d with
 |some d=>pP e d v
 |none=>e
def ae :ai->Nat->Blk
 |[],_=> .dead
 |b::_,0=>b
 |_::r,n+1=>ae r n
def kE :ai->Nat->Blk->ai
 |[],_,_=>[]
 |_::r,0,b=>b::r
 |a::r,n+1,b=>a::kE r n b
def nth {α:Type}:List α->Nat->Option α
 |[],_=>Y
 |v::_,0=>O v
 |_::r,n+1=>nth r n
def cw (s:ByteArray):Zd:=s.data.toList.map λb=>(b.toNat:Int)
def JF :Value->VV
 | .bool b=> .bool b
 | .int k n=> .int k n
 | .string s=> .str (cw s)
 | .pointer Y=> .nilp
 | .slice Y 0 0=> .nils
 | .nilFunc=> .nilf
 |_=> .undef
def ofC :Value->VV
 | .agg g=> .agg (g.toList.map JF)
 |v=>JF v
def ev (e:cm):Operand->VV
 | .tmp t=>ld e t
 | .const v=>ofC v
 | .func f=> .fn f [] []
 | .global _=> .undef
def ao5 :VV->Bool
 | .undef| .agg _| .tup _=>Zb
 |_=>Za
def mF :VV->List VV
 | .agg l=>l
 |v=>[v]
def dq :(s:Sh)->El s->List VV
 | .int k,n=>[.int k n]
 | .bool,b=>[.bool b]
 | .str,l=>[.str l]
 | .list s,l=>[.lst s l]
 | .pair a b,x=>dq a x.1++dq b x.2
def ff (s:Sh)(l:List (El s)):List VV:=l.flatMap (dq s)
def kZ (g s:Sh)(x:El g):Option (El s):=if h:g=s then O (h▸x)else Y
def IP {α:Type}(f:List VV->Option (α×List VV)):Nat->List VV->Option (List α)
 |_,[]=>O []
 |0,_::_=>Y
 |n+1,v::l=>(f (v::l)).bind λp=>(IP f n p.2).bind λr=>O (p.1::r)
def Blk.frozen :Blk->Bool
 | .dead=>Za
 | .cells _ z _=>z
 | .arr _ z _=>z
def xc (s:Sh)(f:List VV->Option (El s×List VV)):Blk->Option (List (El s))
 | .dead=>Y
 | .arr h _ l=>kZ (.list h) (.list s) l
 | .cells g _ l=>bif aB g s.w then IP f l.length l else Y
def D4 (S:ai)(s:Sh)(f:List VV->Option (El s×List VV)):VV->Option (List (El s))
 | .nils=>O []
 | .lst h l=>kZ (.list h) (.list s) l
 | .full k=>xc s f (ae S k)
 | .part k g n=>(xc s f (ae S k)).bind λl=>O ((l.drop g).take n)
 |_=>Y
def O0 (S:ai)(s:Sh)(f:List VV->Option (El s×List VV)):VV->Option (List (El s))
 | .full k=>bif (ae S k).frozen then D4 S s f (.full k)else Y
 | .part k g n=>bif (ae S k).frozen then D4 S s f (.part k g n)else Y
 |v=>D4 S s f v
def jS (S:ai):(s:Sh)->List VV->Option (El s×List VV)
 | .int k, .int g n::r=>bif Zc (g=k)then O (n,r)else Y
 | .bool, .bool b::r=>O (b,r)
 | .str, .str l::r=>O (l,r)
 | .list s,v::r=>(O0 S s (jS S s) v).bind λl=>O (l,r)
 | .pair a b,l=>(jS S a l).bind λp=>(jS S b p.2).bind λq=>O ((p.1,q.1),q.2)
 |_,_=>Y
def Uw (S:ai)(s:Sh)(v:VV):Option (List (El s)):=D4 S s (jS S s) v
def Blk.freeze :Blk->Blk
 | .dead=> .dead
 | .cells g _ l=> .cells g Za l
 | .arr s _ l=> .arr s Za l
def fzv :Nat->ai->VV->ai
 |0,S,_=>S
 |n+1,S,v=>match v with
  | .full k=>(match ae S k with
   | .cells g _ l=>l.foldl (fzv n) (kE S k (.cells g Za l))
   |b=>kE S k b.freeze)
  | .part k _ _=>(match ae S k with
   | .cells g _ l=>l.foldl (fzv n) (kE S k (.cells g Za l))
   |b=>kE S k b.freeze)
  |_=>S
def Gf (S:ai)(l:List VV):ai:=l.foldl (fzv 3) S
def aB2 (S:ai):VV->ai
 | .full k=>(match ae S k with
  | .cells _ _ l=>Gf S l
  |_=>S)
 | .part k _ _=>(match ae S k with
  | .cells _ _ l=>Gf S l
  |_=>S)
 |_=>S
section
variable {β:Type}
def gd (b:Bool)(x:Option β):Option β:=cond b x Y
def ix (i:Int)(n:Nat):Option Nat:=cond (Zc (0<=i)&&Zc (i<n)) (O i.toNat) Y
def rd {α:Type}(l:List α)(i:Int):Option α:=cond (Zc (0<=i)) l[i.toNat]? Y
def Y4 (p:Bool):VV->VV->Option VV
 | .int k x, .int g y=>cond (Zc (k=g)) (O (.int k (cond p x y))) Y
 | .bool x, .bool y=>O (.bool (cond p x y))
 | .str x, .str y=>O (.str (cond p x y))
 |_,_=>Y
def YL (p:Bool)(x y:VV)(S:ai)(k:VV->ai->Option β):Option β:=match Y4 p x y with
 |some v=>k v S
 |none=>cond p (k x S) (k y S)
def vz :IntKind->List VV->Option (Zd)
 |_,[]=>O []
 |k, .int g n::r=>cond (Zc (g=k)) ((vz k r).bind λl=>O (n::l)) Y
 |_,_=>Y
def KJ :List VV->Option (List Bool)
 |[]=>O []
 | .bool b::r=>(KJ r).bind λl=>O (b::l)
 |_=>Y
def RD :List VV->Option (List (Zd))
 |[]=>O []
 | .str b::r=>(RD r).bind λl=>O (b::l)
 |_=>Y
def UK (S:ai)(k:VV->ai->Option β):List VV->Nat->Option β
 |[],_=>Y
 |v::r,i=>cond (aB i 0) (k v S) (UK S k r (i-1))
def P0 (cs:List VV)(i:Nat)(S:ai)(k:VV->ai->Option β):Option β:=match cs with
 | .int g n::r=>(match vz g r with
  |some l=>k (.int g ((n::l).getD i 0)) S
  |none=>Y)
 | .bool b::r=>(match KJ r with
  |some l=>k (.bool ((b::l).getD i Zb)) S
  |none=>Y)
 | .str b::r=>(match RD r with
  |some l=>k (.str ((b::l).getD i [])) S
  |none=>Y)
 |cs=>UK S k cs i
def LQ (v:VV):List VV->Nat->Nat->Option (List VV)
 |[],_,_=>O []
 |c::r,i,j=>(Y4 (aB i j) v c).bind λx=>(LQ v r i (j+1)).bind λl=>O (x::l)
def aq6 (cells:List VV)(o:Nat):List VV->List VV
 |[]=>cells
 |v::g=>aq6 (cells.set o v) (o+1) g
def IV (cells:List VV):List (Nat×Nat×VV)->Option (List VV)
 |[]=>O cells
 |(h,g,v)::p=>
  cond (aB (mF v).length g&&aD (h+g) cells.length&&(mF v).all ao5) (IV (cells.take h++mF v++cells.drop (h+g)) p) Y
def Av (e:cm)(l:List (Nat×Nat×Operand)):List (Nat×Nat×VV):=l.map λ(o,s,x)=>(o,s,ev e x)
def oC (l:List VV):Bool:=l.all ao5
def NB (S:ai)(n:Nat)(agg:Bool)(a:VV)(k:VV->ai->Option β):Option β:=
 let g (h:List VV) (o:Nat):Option β:=cond agg (gd (aD (o+n) h.length) (k (.agg ((h.drop o).take n)) S)) (match nth h o with
  |some v=>k v S
  |none=>Y)
 match a with
 | .ptr b o=>(match ae S b with
  | .cells _ _ l=>g l o
  |_=>Y)
 | .pix b o m i=>(match ae S b with
  | .cells _ _ l=>gd (!agg&&aD (o+m) l.length) (P0 ((l.drop o).take m) i S k)
  |_=>Y)
 | .pel b i o=>(match ae S b with
  | .arr s _ l=>(l[i]?).bind λx=>g (dq s x) o
  |_=>Y)
 | .pin s x o=>g (dq s x) o
 |_=>Y
def Tq (S:ai)(a:VV)(cs:List VV)(k:ai->Option β):Option β:=match a with
 | .ptr b o=>(match ae S b with
  | .cells g Zb l=>gd (aD (o+cs.length) l.length) (k (kE S b (.cells g Zb (aq6 l o cs))))
  |_=>Y)
 | .pix b o m i=>(match ae S b,cs with
  | .cells g Zb l,[v]=>gd (aD (o+m) l.length) (match LQ v ((l.drop o).take m) i 0 with
   |some h=>k (kE S b (.cells g Zb (l.take o++h++l.drop (o+m))))
   |none=>Y)
  |_,_=>Y)
 | .pel b i o=>(match ae (Gf S cs) b with
  | .arr s Zb l=>(l[i]?).bind λx=>(match jS (Gf S cs) s (aq6 (dq s x) o cs)with
   |some (y,[])=>gd (aD (o+cs.length) s.w) (k (kE (Gf S cs) b (.arr s Zb (l.set i y))))
   |_=>Y)
  |_=>Y)
 |_=>Y
def ta (k:IntKind)(f:BitVec k.bits->BitVec k.bits->BitVec k.bits)(x y:Int):Int:=k.wrap (f (BitVec.ofInt k.bits x) (BitVec.ofInt k.bits y)).toNat
def Sn (op:BinOp)(g:IntKind)(x y:Int)(k:VV->Option β):Option β:=match op with
 | .add=>k (.int g (g.wrap (x+y)))
 | .sub=>k (.int g (g.wrap (x-y)))
 | .mul=>k (.int g (g.wrap (x*y)))
 | .quo=>gd (Zc (y≠0)) (k (.int g (g.wrap (x.tdiv y))))
 | .rem=>gd (Zc (y≠0)) (k (.int g (x.tmod y)))
 | .and=>k (.int g (ta g (· &&& ·) x y))
 | .or=>k (.int g (ta g (· ||| ·) x y))
 | .xor=>k (.int g (ta g (· ^^^ ·) x y))
 | .andNot=>k (.int g (ta g (λa b=>a&&& ~~~b) x y))
 | .eql=>k (.bool (Zc (x=y)))
 | .neq=>k (.bool (Zc (x≠y)))
 | .lss=>k (.bool (Zc (x<y)))
 | .leq=>k (.bool (Zc (x<=y)))
 | .gtr=>k (.bool (Zc (y<x)))
 | .geq=>k (.bool (Zc (y<=x)))
 |_=>Y
def Y7 (op:BinOp)(g:IntKind)(x y:Int)(k:VV->Option β):Option β:=match op with
 | .shl=>gd (Zc (0<=y)) (k (.int g (g.wrap (x*2 ^ (min y.toNat g.bits)))))
 | .shr=>gd (Zc (0<=y)) (k (.int g (x.fdiv (2 ^ (min y.toNat g.bits)))))
 |_=>Y
def Rw (a b:Nat):Bool:=aD (a+b) 9223372036854775807
def aM8 (op:BinOp)(x y:Zd)(k:VV->Option β):Option β:=match op with
 | .add=>gd (Rw x.length y.length) (k (.str (x++y)))
 | .eql=>k (.bool (Zc (x=y)))
 | .neq=>k (.bool (Zc (x≠y)))
 |_=>Y
def az0 (op:BinOp)(x y:VV)(k:VV->Option β):Option β:=match x,y with
 | .int g a, .int h b=>cond (uO op) (Y7 op g a b k) (cond (Zc (g=h)) (Sn op g a b k) Y)
 | .str a, .str b=>cond (uO op) Y (aM8 op a b k)
 |_,_=>Y
def Yn (g p:Bool):Bool:=cond g (!p) p
def Blk.live :Blk->Bool
 | .dead=>Zb
 |_=>Za
def Lc (S:ai):VV->Bool
 | .ptr k _=>(ae S k).live
 | .pix k _ _ _=>(ae S k).live
 | .pel k _ _=>(ae S k).live
 | .pin _ _ _=>Za
 |_=>Zb
def aA6 (S:ai):Nat->VV->VV->Option Bool
 |0, .bool a, .bool b=>O (a==b)
 |1, .nilp, .nilp=>O Za
 |1, .nilp,v=>cond (Lc S v) (O Zb) Y
 |1,v, .nilp=>cond (Lc S v) (O Zb) Y
 |2, .nils, .nils=>O Za
 |3, .nilf, .nilf=>O Za
 |3, .nilf, .fn _ _ _=>O Zb
 |3, .fn _ _ _, .nilf=>O Zb
 |_,_,_=>Y
def VG :Nat->VV->VV->Option Bool
 |0, .bool a, .bool b=>O (a==b)
 |1, .int k a, .int g b=>cond (Zc (k=g)) (O (Zc (a=b))) Y
 |2, .str a, .str b=>O (Zc (a=b))
 |_,_,_=>Y
def MJ :List Nat->List VV->List VV->Option Bool
 |[],[],[]=>O Za
 |[k],[a],[b]=>VG k a b
 |k::g,a::r,b::s=>(VG k a b).bind λp=>(MJ g r s).bind λq=>O (p&&q)
 |_,_,_=>Y
def unK (op:UnOp)(x:VV)(k:VV->Option β):Option β:=match op,x with
 | .neg, .int g n=>k (.int g (g.wrap (0-n)))
 | .xor, .int g n=>k (.int g (g.wrap (BitVec.ofInt g.bits (if g.signed then-1 else g.max) ^^^ BitVec.ofInt g.bits n).toNat))
 | .not, .bool b=>k (.bool !b)
 |_,_=>Y
def GO :VV->Option Int
 | .int _ n=>O n
 |_=>Y
def lenOf (S:ai):VV->Option Nat
 | .nils=>O 0
 | .lst _ l=>O l.length
 | .full b=>(match ae S b with
  | .arr _ _ l=>O l.length
  | .cells g _ l=>O (l.length / g)
  | .dead=>Y)
 | .part b _ n=>cond (ae S b).live (O n) Y
 | .str l=>O l.length
 |_=>Y
def pm {α:Type}(l:List α)(h g:Int):List α:=(l.take g.toNat).drop h.toNat
def CI :Option VV->Option Int
 |none=>O 0
 |some v=>GO v
def wc (n:Nat):Option VV->Option Int
 |none=>O n
 |some v=>GO v
def eY (h g:Int)(n:Nat):Bool:=Zc (0<=h)&&Zc (h<=g)&&Zc (g<=n)
def Tn (S:ai)(es:Nat)(x:VV)(p h:Option VV)(k:VV->ai->Option β):Option β:=
 match lenOf S x with
 |none=>Y
 |some n=>match CI p,wc n h with
  |some a,O b=>(match x with
   | .nils=>gd (eY a b n) (k .nils S)
   | .lst s l=>gd (aB es s.w) (match p,h with
    |none,Y=>k (.lst s l) S
    |_,_=>gd (eY a b n) (k (.lst s (pm l a b)) S))
   | .full q=>(match ae S q with
    | .arr s _ _=>gd (aB es s.w) (gd (eY a b n) (k (.part q a.toNat (b.toNat-a.toNat)) S))
    | .cells g _ _=>gd (aB es g&&aD 1 es) (gd (eY a b n) (k (.part q a.toNat (b.toNat-a.toNat)) S))
    | .dead=>Y)
   | .part q o _=>(match ae S q with
    | .arr s _ _=>gd (aB es s.w) (gd (eY a b n) (k (.part q (o+a.toNat) (b.toNat-a.toNat)) S))
    | .cells g _ _=>gd (aB es g&&aD 1 es) (gd (eY a b n) (k (.part q (o+a.toNat) (b.toNat-a.toNat)) S))
    | .dead=>Y)
   |_=>Y)
  |_,_=>Y
def Ip (S:ai)(x:VV)(h g:Option VV)(k:VV->ai->Option β):Option β:=match x with
 | .str l=>(match CI h,wc l.length g with
  |some a,O b=>gd (eY a b l.length) (k (.str (pm l a b)) S)
  |_,_=>Y)
 |_=>Y
def Io (S:ai)(es n:Nat)(x:VV)(p h:Option VV)(k:VV->ai->Option β):Option β:=match x with
 | .ptr b o=>(match ae S b with
  | .cells g Zb l=>(match CI p,wc n h with
   |some a,O c=>gd (aB es g&&aD 1 es&&aB (o % es) 0&&aD (o+n*es) l.length&&eY a c n&&Zc (a<n)) (k (.part b (o / es+a.toNat) (c.toNat-a.toNat)) S)
   |_,_=>Y)
  | .arr s Zb l=>(match CI p,wc n h with
   |some a,O c=>gd (aB es s.w&&aB o 0&&aD n l.length&&eY a c n&&Zc (a<n)) (k (.part b a.toNat (c.toNat-a.toNat)) S)
   |_,_=>Y)
  |_=>Y)
 |_=>Y
def aB9 :Value->Bool
 | .int .u8 n=>Zc (n=0)
 |_=>Zb
def Sw (es:Nat)(z:List Value):Bool:=aB es 1&&aD 20 z.length&&z.all aB9
def DN (es:Nat)(z:List Value):Blk:=cond (Sw es z) (.arr (.int .u8) Zb (bD z.length (0:Int))) (.cells es Zb (z.map JF))
def an0 (S:ai)(n:Nat):VV->Option VV
 | .ptr b o=>cond (ae S b).live (O (.ptr b (o+n))) Y
 | .pel b i o=>cond (ae S b).live (O (.pel b i (o+n))) Y
 | .pin s x o=>O (.pin s x (o+n))
 | .pix b o m i=>cond (ae S b).live (cond (aB n 0) (O (.pix b o m i)) Y) Y
 |_=>Y
def aj9 (S:ai)(es:Nat)(x i:VV)(k:VV->ai->Option β):Option β:=match i with
 | .int _ i=>(match x with
  | .lst s l=>gd (aB es s.w) ((rd l i).bind λy=>k (.pin s y 0) S)
  | .full b=>(match ae S b with
   | .arr s _ l=>gd (aB es s.w) ((ix i l.length).bind λj=>k (.pel b j 0) S)
   | .cells g _ l=>gd (aB es g&&aD 1 es) ((ix i (l.length / es)).bind λj=>cond (aB es 1) (k (.pix b 0 l.length j) S) (k (.ptr b (j*es)) S))
   | .dead=>Y)
  | .part b o n=>(match ae S b with
   | .arr s _ _=>gd (aB es s.w) ((ix i n).bind λj=>k (.pel b (o+j) 0) S)
   | .cells g _ _=>gd (aB es g&&aD 1 es) ((ix i n).bind λj=>cond (aB es 1) (k (.pix b o n j) S) (k (.ptr b ((o+j)*es)) S))
   | .dead=>Y)
  |_=>Y)
 |_=>Y
def Uo (S:ai)(ln es:Nat)(x i:VV)(k:VV->ai->Option β):Option β:=match x,i with
 | .ptr b o, .int _ i=>gd (ae S b).live ((ix i ln).bind λj=>cond (aB es 1) (k (.pix b o ln j) S) (k (.ptr b (o+j*es)) S))
 |_,_=>Y
def AY (l:List VV)(a n:Nat):List VV:=(l.drop a).take n
def fB (n bytes:Nat):Bool:=Zc (n*bytes<=140737488355328)&&aD 1 bytes
inductive Base where
 |none
 |cells (es:Nat) (l:List VV)
 |arr (s:Sh) (l:List (El s))
def Ap (S:ai)(es:Nat):VV->Option (Base×Option Nat)
 | .nils=>O (.none,Y)
 | .full b=>(match ae S b with
  | .arr s Zb l=>cond (aB es s.w) (O (.arr s l,O b)) bB
  | .cells g Zb l=>cond (aB es g&&aD 1 es) (O (.cells es l,O b)) bB
  |_=>bB)
 | .part b 0 n=>(match ae S b with
  | .arr s Zb l=>cond (aB es s.w) (O (.arr s (l.take n),O b)) bB
  | .cells g Zb l=>cond (aB es g&&aD 1 es) (O (.cells es (l.take (n*es)),O b)) bB
  |_=>bB)
 |_=>bB
inductive More where
 |cells (l:List VV)
 |lst (s:Sh) (l:List (El s))
def gW (S:ai)(es:Nat):VV->Option More
 | .nils=>O (.cells [])
 | .lst s l=>cond (aB es s.w) (O (.lst s l)) Y
 | .str l=>cond (aB es 1) (O (.lst (.int .u8) l)) Y
 | .full b=>(match ae S b with
  | .arr s _ l=>cond (aB es s.w) (O (.lst s l)) Y
  | .cells g _ l=>cond (aB es g&&aD 1 es) (O (.cells l)) Y
  |_=>Y)
 | .part b o n=>(match ae S b with
  | .arr s _ l=>cond (aB es s.w) (O (.lst s ((l.drop o).take n))) Y
  | .cells g _ l=>cond (aB es g&&aD 1 es) (O (.cells ((l.drop (o*es)).take (n*es)))) Y
  |_=>Y)
 |_=>Y
def px (S:ai):Option Nat->ai
 |none=>S
 |some b=>kE S b .dead
def U3 (S:ai)(s:Sh)(l:List VV):Option (List (El s)):=IP (jS S s) l.length l
def Qt (S:ai)(bytes:Nat)(s:Sh)(kill:Option Nat)(a b:List (El s))(k:VV->ai->Option β):Option β:=
 gd (fB (a.length+b.length) bytes) (k (.full S.length) (px S kill++[.arr s Zb (a++b)]))
def JR (S:ai)(es bytes:Nat)(A:Option (Base×Option Nat))(D:Option More)(k:VV->ai->Option β):Option β:=
 match A,D with
 |some (.arr s l,g),O (.lst E p)=>(kZ (.list E) (.list s) p).bind λu=>Qt S bytes s g l u k
 |some (.arr s l,g),O (.cells h)=>(match ae (Gf S h) (g.getD 0)with
  | .arr _ Zb _=>(U3 (Gf S h) s h).bind λu=>Qt (Gf S h) bytes s g l u k
  |_=>Y)
 |some (.cells _ l,g),O (.lst s p)=>(match ae (Gf S l) (g.getD 0)with
  | .cells _ Zb _=>(U3 (Gf S l) s l).bind λC=>Qt (Gf S l) bytes s g C p k
  |_=>Y)
 |some (.none,g),O (.lst s p)=>Qt S bytes s g [] p k
 |some (.cells es l,g),O (.cells h)=>gd (fB ((l.length+h.length) / es) bytes&&oC h) (k (.full S.length) (px S g++[.cells es Zb (l++h)]))
 |some (.none,g),O (.cells h)=>gd (fB (h.length / es) bytes&&aD 1 es&&oC h) (k (.full S.length) (px S g++[.cells es Zb h]))
 |_,_=>Y
def OA (S:ai)(es bytes:Nat)(x y:VV)(k:VV->ai->Option β):Option β:=JR S es bytes (Ap S es x) (gW S es y) k
def LZ (S:ai):VV->Option (ai×Base)
 | .lst s l=>O (S, .arr s l)
 | .full q=>(match ae S q with
  | .arr s _ l=>O (kE S q (ae S q).freeze, .arr s l)
  |_=>Y)
 |_=>Y
def Ps (S:ai)(x g p:VV)(k:VV->ai->Option β):Option β:=match g,p with
 | .int _ h, .int _ m=>gd (Zc (h=m)) (match x with
  | .nils=>gd (Zc (h=0)) (k .nils S)
  |v=>(match LZ S v with
   |some (S1, .arr s l)=>gd (eY 0 h l.length) (k (.tgt s (l.take h.toNat)) S1)
   |_=>Y))
 |_,_=>Y
def Tx (S:ai)(es bytes:Nat)(s:Sh)(l:List (El s))(u:Option More)(k:VV->ai->Option β):Option β:=match u with
 |some (.lst A p)=>(kZ (.list A) (.list s) p).bind λg=>gd (aB es s.w&&aD 1 g.length) (Qt S bytes s Y l g k)
 |some (.cells h)=>(U3 (Gf S h) s h).bind λg=>gd (aB es s.w&&aD 1 g.length) (Qt (Gf S h) bytes s Y l g k)
 |none=>Y
def Ky (S:ai)(es bytes:Nat)(x y:VV)(k:VV->ai->Option β):Option β:=match x with
 | .tgt s l=>Tx S es bytes s l (gW S es y) k
 |x=>OA S es bytes x y k
def NE (l:Zd)(i:Nat):Nat×Nat:=
 let h (k:Nat):Nat:=(l.getD (i+k) 0).toNat
 let g (k:Nat):Bool:=i+k<l.length&&h k / 64==2
 let p:=h 0
 if p<0x80 then(p,1)
 else if p / 32==6&&g 1 then
  let c:=(p % 32)*64+h 1 % 64
  if c≥0x80 then(c,2)else(Utf8.runeError,1)
 else if p / 16==14&&g 1&&g 2 then
  let c:=(p % 16)*4096+(h 1 % 64)*64+h 2 % 64
  if c≥0x800&&Utf8.valid c then(c,3)else(Utf8.runeError,1)
 else if p / 8==30&&g 1&&g 2&&g 3 then
  let c:=(p % 8)*262144+(h 1 % 64)*4096+(h 2 % 64)*64+h 3 % 64
  if c≥0x10000&&Utf8.valid c then(c,4)else(Utf8.runeError,1)
 else(Utf8.runeError,1)
def Y0 (l:Zd)(p:Int):Int:=((NE l p.toNat).1:Nat)
def Ro (l:Zd)(p:Int):Int:=((p.toNat+(NE l p.toNat).2:Nat):Int)
def L7 (n:Int):Zd:=cw (Utf8.encode n)
def KO (n:Int):Int:=((UInt8.ofNat n.toNat).toNat:Nat)
def Ys (S:ai)(v:VV)(k:VV->ai->Option β):Option β:=match v with
 | .it q l=>(match ae S q with
  | .cells g Zb (.int .i64 p::r)=>gd (Zc (0<=p)&&aD 1 g) (cond (Zc (p<l.length)) (k (.tup [.bool Za, .int .i64 p, .int .i32 (Y0 l p)]) (kE S q (.cells g Zb (.int .i64 (Ro l p)::r)))) (k (.tup [.bool Zb]) S))
  |_=>Y)
 |_=>Y
def Yj (S:ai)(v:VV)(k:VV->ai->Option β):Option β:=match v with
 | .full q=>(match ae S q with
  | .cells _ Zb (_::_)=>k (.full q) S
  |_=>Y)
 |_=>Y
def Ts (S:ai)(v:VV)(k:VV->ai->Option β):Option β:=match v with
 | .str _=>Y
 |v=>(match gW S 1 v with
  |some (.lst s l)=>(kZ (.list s) (.list (.int .u8)) l).bind λh=>k (.str (h.map KO)) S
  |some (.cells g)=>(vz .u8 g).bind λl=>k (.str (l.map KO)) S
  |none=>Y)
def aa5 (S:ai)(v:VV)(k:VV->ai->Option β):Option β:=match v with
 | .str _=>Y
 |v=>(match gW S 1 v with
  |some (.lst s l)=>(kZ (.list s) (.list (.int .i32)) l).bind λh=>k (.str (h.flatMap L7)) S
  |some (.cells g)=>(vz .i32 g).bind λl=>k (.str (l.flatMap L7)) S
  |none=>Y)
def LN :Nat->Zd->Nat->Zd
 |0,_,_=>[]
 |b+1,l,i=>if i<l.length then(((NE l i).1:Nat):Int)::LN b l (i+(NE l i).2)else []
def F3 (l:Zd):Zd:=LN l.length l 0
def Tj (S:ai)(v:VV)(k:VV->ai->Option β):Option β:=match v with
 | .str l=>gd (aD l.length 70368744177664) (k (.full S.length) (S++[.arr (.int .i32) Zb (F3 l)]))
 |_=>Y
def AU {α:Type}(l:List α)(o n:Nat)(m:List α):List α:=l.take o++(m.take n++l.drop (o+min n m.length))
def G4 (g:IntKind)(m:Zd):Nat->List VV->Option (List VV)
 |_,[]=>O []
 |j, .int k n::r=>cond (Zc (k=g)) ((G4 g m (j+1) r).bind λl=>O (.int k (m.getD j n)::l)) Y
 |_,_=>Y
def XD (S:ai)(es:Nat)(d y:VV)(k:VV->ai->Option β):Option β:=
 let h (b o n:Nat):Option β:=match ae S b,gW S es y with
  | .arr s Zb l,O (.lst C A)=>(kZ (.list C) (.list s) A).bind λg=>gd (aB es s.w) (k (.int .i64 (min g.length n:Nat)) (kE S b (.arr s Zb (AU l o n g))))
  | .arr s Zb l,O (.cells p)=>(vz .u64 p).bind λm=>(kZ (.list (.int .u64)) (.list s) m).bind λg=>gd (aB es s.w) (k (.int .i64 (min g.length n:Nat)) (kE S b (.arr s Zb (AU l o n g))))
  | .cells 1 Zb l,O (.lst (.int u) m)=>gd (aB es 1&&aD (o+n) l.length) (match G4 u m 0 ((l.drop o).take n)with
   |some c=>k (.int .i64 (min m.length n:Nat)) (kE S b (.cells 1 Zb (l.take o++c++l.drop (o+n))))
   |none=>Y)
  |_,_=>Y
 match d with
 | .full b=>(match lenOf S d with
  |some n=>h b 0 n
  |none=>Y)
 | .part b o n=>h b o n
 |_=>Y
def I6 :List Value->Option Sh
 |[.int k 0]=>O (.int k)
 |[.bool Zb]=>O .bool
 | .int k 0::r=>(I6 r).bind λs=>O (.pair (.int k) s)
 | .bool Zb::r=>(I6 r).bind λs=>O (.pair .bool s)
 |_=>Y
def tx :(s:Sh)->El s
 | .int _=>(0:Int)
 | .bool=>Zb
 | .str=>[]
 | .list _=>[]
 | .pair a b=>(tx a,tx b)
def Yi (S:ai)(es bytes:Nat)(z:List Value)(l c:VV)(k:VV->ai->Option β):Option β:=match l,c,I6 z with
 | .int _ l, .int _ c,O s=>gd (aB es s.w&&Zc (0<=l)&&Zc (l<=c)&&Zc (bytes*c<=140737488355328)&&aD 1 bytes) (k (.full S.length) (S++[.arr s Zb (bD l.toNat (tx s))]))
 |_,_,_=>Y
def RU (es:Nat)(z:List Value)(l:Int):Option More:=match I6 z with
 |some s=>cond (aB es s.w) (O (.lst s (bD l.toNat (tx s)))) Y
 |none=>Y
def lJ (bytes:Nat)(l:Int):Bool:=Zc (0<=l)&&(Zc (l<=9223372036854775807)&&Zc (l*(bytes:Int)<=281474976710656))
def Kz (S:ai)(es bytes:Nat)(z:List Value)(x l:VV)(k:VV->ai->Option β):Option β:=match l with
 | .int _ l=>gd (lJ bytes l) (JR S es bytes (Ap S es x) (RU es z l) k)
 |_=>Y
end
end
section
open List renaming replicate -> bB
open Nat renaming beq -> aB, ble -> aD
inductive Sk where
 |undef
 |leaf (s:Sh)
 |cint (k:IntKind) (n:Int)
 |nilp
 |nils
 |nilf
 |ptr (j o:Nat)
 |full (j:Nat)
 |pin (s:Sh) (o:Nat)
 |fn (f:Nat) (a c:List Sk)
 |agg (l:List Sk)
 |tup (l:List Sk)
inductive OSk where
 |dead
 |cells (es:Nat) (ro:Bool) (l:List Sk)
 |arr (ro:Bool) (s:Sh)
structure Leaf where
 s:Sh
 v:El s
structure Src where
 k:Nat
 cut:Option Nat
structure DSt where
 m:List (Option Src)
 ls:List Leaf
 lent:List Nat
def DSt.push (st:DSt)(s:Sh)(v:El s):DSt:={st with ls:=st.ls++[⟨s,v⟩]}
def DSt.lend (st:DSt):VV->DSt
 | .full k=>{st with lent:=k::st.lent}
 | .part k _ _=>{st with lent:=k::st.lent}
 |_=>st
def DSt.link (N:Nat)(st:DSt)(j:Nat)(x:Option Src):Option DSt:=
 cond (Nat.blt j N) (match x with
  |some ⟨k,Y⟩=>cond (aB k j) (O st) Y
  |_=>Y)
 (match nth st.m (j-N)with
 |some (O ⟨k,Y⟩)=>(match x with
  |some ⟨g,Y⟩=>cond (aB k g) (O st) Y
  |_=>Y)
 |some _=>Y
 |none=>cond (aB (j-N) st.m.length) (O {st with m:=st.m++[x]}) Y)
mutual
def HO (S:ai)(N:Nat):Sk->VV->DSt->Option DSt
 | .undef,_,st=>O st
 | .leaf s,v,st=>(match s,v with
  | .int k, .int k' n=>cond (Zc (k'=k)) (O (st.push (.int k) n)) Y
  | .bool, .bool b=>O (st.push .bool b)
  | .str, .str l=>O (st.push .str l)
  | .list s,v=>(Uw S s v).bind λl=>O ((st.lend v).push (.list s) l)
  |_,_=>Y)
 | .cint k n, .int k' n',st=>cond (Zc (k'=k)&&Zc (n'=n)) (O st) Y
 | .nilp, .nilp,st=>O st
 | .nils, .nils,st=>O st
 | .nilf, .nilf,st=>O st
 | .ptr j o, .ptr k o',st=>cond (aB o o') (st.link N j (O ⟨k,Y⟩)) Y
 | .full j,v,st=>(match v with
  | .full k=>st.link N j (O ⟨k,Y⟩)
  | .part k 0 n=>st.link N j (O ⟨k,O n⟩)
  | .nils=>st.link N j Y
  |_=>Y)
 | .pin s o, .pin s' x o',st=>cond (aB o o') ((kZ s' s x).bind λy=>O (st.push s y)) Y
 | .fn f a c, .fn f' a' c',st=>cond (aB f f') ((FP S N a a' st).bind λst1=>FP S N c c' st1) Y
 | .agg l, .agg l',st=>FP S N l l' st
 | .tup l, .tup l',st=>FP S N l l' st
 |_,_,_=>Y
def FP (S:ai)(N:Nat):List Sk->List VV->DSt->Option DSt
 |[],[],st=>O st
 |k::r,v::r',st=>(HO S N k v st).bind λst1=>FP S N r r' st1
 |_,_,_=>Y
end
def KS {α:Type}:Option Nat->List α->List α
 |none,l=>l
 |some n,l=>l.take n
def SC (S:ai)(N:Nat):OSk->Option Src->DSt->Option DSt
 | .dead,_,g=>O g
 | .cells C h l,O ⟨k,Y⟩,g=>(match ae S k with
  | .cells u D A=>cond (aB C u&&(h|| !D)) (FP S N l A (cond h {g with lent:=k::g.lent} g)) Y
  |_=>Y)
 | .arr h s,Y,g=>cond h Y (O (g.push (.list s) []))
 | .arr h s,O ⟨k,p⟩,g=>cond (h|| !(ae S k).frozen) ((Uw S s (.full k)).bind λl=>O ((cond h {g with lent:=k::g.lent} g).push (.list s) (KS p l))) Y
 |_,_,_=>Y
def HP (S:ai)(N:Nat):List OSk->List Nat->DSt->Option DSt
 |[],[],g=>O g
 |o::r,j::p,g=>(SC S N o (O ⟨j,Y⟩) g).bind λh=>HP S N r p h
 |_,_,_=>Y
def tb (S:ai)(N:Nat):List OSk->Nat->DSt->Option DSt
 |[],i,g=>cond (aB i g.m.length) (O g) Y
 |o::r,i,g=>(match nth g.m i with
  |some x=>(SC S N o x g).bind λh=>tb S N r (i+1) h
  |none=>Y)
def OSk.ro :OSk->Bool
 | .cells _ ro _=>ro
 | .arr ro _=>ro
 | .dead=>Zb
def kB (k:Nat):List Nat->Bool
 |[]=>Zb
 |a::r=>cond (aB a k) Za (kB k r)
def Fz :List Nat->Bool
 |[]=>Za
 |a::r=>cond (kB a r) Zb (Fz r)
def nT :List (Option Src)->List Nat
 |[]=>[]
 |none::r=>nT r
 |some x::r=>x.k::nT r
def jJ :List OSk->List (Option Src)->List Nat
 |o::r,O x::s=>cond o.ro (jJ r s) (x.k::jJ r s)
 |_::r,Y::s=>jJ r s
 |_,_=>[]
def B4 (w:List Nat)(l:List Nat):Bool:=w.all λk=> !kB k l
structure ui where
 vals:List Sk
 fix:List OSk
 free:List OSk
def mG (S:ai)(N:Nat)(fx:List Nat)(h:ui)(vals:List VV):Option DSt:=
 (FP S N h.vals vals ⟨[],[],[]⟩).bind λs=>(HP S N h.fix fx s).bind λp=>(tb S N h.free 0 p).bind λg=>
  cond (Fz (fx++nT g.m)&&B4 (fx++jJ h.free g.m) g.lent) (O g) Y
mutual
def enc (f:Nat->Nat):Sk->List Leaf->Option (VV×List Leaf)
 | .undef,ls=>O (.undef,ls)
 | .leaf s,x::ls=>(kZ x.s s x.v).bind λ(y:El s)=>O ((match s,y with
  | .int k,n=> .int k n
  | .bool,b=> .bool b
  | .str,l=> .str l
  | .list s,l=> .lst s l
  | .pair _ _,_=> .undef),ls)
 | .cint k n,ls=>O (.int k n,ls)
 | .nilp,ls=>O (.nilp,ls)
 | .nils,ls=>O (.nils,ls)
 | .nilf,ls=>O (.nilf,ls)
 | .ptr j o,ls=>O (.ptr (f j) o,ls)
 | .full j,ls=>O (.full (f j),ls)
 | .pin s o,x::ls=>(kZ x.s s x.v).bind λ(y:El s)=>O (.pin s y o,ls)
 | .fn g a c,ls=>(MH f a ls).bind λp=>(MH f c p.2).bind λq=>O (.fn g p.1 q.1,q.2)
 | .agg l,ls=>(MH f l ls).bind λp=>O (.agg p.1,p.2)
 | .tup l,ls=>(MH f l ls).bind λp=>O (.tup p.1,p.2)
 |_,_=>Y
def MH (f:Nat->Nat):List Sk->List Leaf->Option (List VV×List Leaf)
 |[],ls=>O ([],ls)
 |k::r,ls=>(enc f k ls).bind λp=>(MH f r p.2).bind λq=>O (p.1::q.1,q.2)
end
def MI (f:Nat->Nat):OSk->List Leaf->Option (Blk×List Leaf)
 | .dead,g=>O (.dead,g)
 | .cells u h l,g=>(MH f l g).bind λp=>O (.cells u h p.1,p.2)
 | .arr h s,x::g=>(kZ x.s (.list s) x.v).bind λl=>O (.arr s h l,g)
 | .arr _ _,[]=>Y
def CD (f:Nat->Nat):List OSk->List Leaf->Option (List Blk×List Leaf)
 |[],g=>O ([],g)
 |o::r,g=>(MI f o g).bind λp=>(CD f r p.2).bind λq=>O (p.1::q.1,q.2)
def pp (f:Nat->Nat)(g:ui)(ls:List Leaf):Option (List VV×List Blk×List Blk):=
 (MH f g.vals ls).bind λp=>(CD f g.fix p.2).bind λq=>(CD f g.free q.2).bind λr=>match r.2 with
  |[]=>O (p.1,q.1,r.1)
  |_::_=>Y
mutual
def Sk.shs :Sk->List Sh
 | .leaf s=>[s]
 | .pin s _=>[s]
 | .fn _ a c=>Tm a++Tm c
 | .agg l=>Tm l
 | .tup l=>Tm l
 |_=>[]
def Tm :List Sk->List Sh
 |[]=>[]
 |k::r=>k.shs++Tm r
end
def OSk.shs :OSk->List Sh
 | .dead=>[]
 | .cells _ _ l=>Tm l
 | .arr _ s=>[.list s]
def aE8 :List OSk->List Sh
 |[]=>[]
 |o::r=>o.shs++aE8 r
def ui.shs (g:ui):List Sh:=Tm g.vals++(aE8 g.fix++aE8 g.free)
@[reducible] def Df :List Sh->Type
 |[]=>Unit
 |[s]=>El s
 |s::g::r=>El s×Df (g::r)
def RG :(h:List Sh)->Df h->List Leaf
 |[],_=>[]
 |[s],x=>[⟨s,x⟩]
 |s::g::r,x=>⟨s,x.1⟩::RG (g::r) x.2
def PI :(p:List Sh)->List Leaf->Option (Df p)
 |[],[]=>O ()
 |[s],[x]=>kZ x.s s x.v
 |s::h::r,x::g=>(kZ x.s s x.v).bind λa=>(PI (h::r) g).bind λb=>O (a,b)
 |_,_=>Y
inductive XK where
 |normal
 |exit (id:Nat)
 |ret
structure Alt where
 x:XK
 ts:List Nat
 sk:ui
@[reducible] def Alt.Ty (a:Alt):Type:=Df a.sk.shs
@[reducible] def uk :List Alt->Type
 |[]=>Empty
 |[a]=>a.Ty
 |a::b::r=>a.Ty⊕uk (b::r)
def bk {α γ β:Type}(s:α⊕γ)(f:α->Option β)(g:γ->Option β):Option β:=match s with
 | .inl a=>f a
 | .inr b=>g b
def Xh {β:Type}:(l:List Alt)->uk l->((a:Alt)->a.Ty->Option β)->Option β
 |[],_,_=>Y
 |[a],t,k=>k a t
 |a::b::r,s,k=>bk s (λt=>k a t) λg=>Xh (b::r) g k
def ui.noRo (g:ui):Bool:=g.fix.all (λo=> !o.ro)&&g.free.all λo=> !o.ro
def KV (S:ai)(N:Nat)(fx:List Nat)(h:ui)(g:List VV):Option (Df h.shs):=
 gd h.noRo ((mG S N fx h g).bind λp=>PI h.shs p.ls)
def ui.fxRo (g:ui):Bool:=g.fix.all λo=> !o.ro
def Ud (S:ai)(N:Nat)(fx:List Nat)(h:ui)(g:List VV):Option (Df h.shs):=
 gd h.fxRo ((mG S N fx h g).bind λp=>PI h.shs p.ls)
def vZ (S:ai)(N:Nat)(fx:List Nat)(g:List Nat->List VV)(h:XK->Bool):(l:List Alt)->Option (uk l)
 |[]=>Y
 |[a]=>cond (h a.x) (KV S N fx a.sk (g a.ts)) Y
 |a::b::r=>match cond (h a.x) (KV S N fx a.sk (g a.ts)) Y with
  |some t=>O (.inl t)
  |none=>(vZ S N fx g h (b::r)).bind λs=>O (.inr s)
def Sh.al :Sh->Bool
 | .list _=>Za
 | .pair a b=>a.al||b.al
 |_=>Zb
mutual
def alV :VV->Bool
 | .lst _ _=>Za
 | .tgt _ _=>Za
 | .pin _ _ _=>Za
 | .fn _ a c=>Ox a||Ox c
 | .agg l=>Ox l
 | .tup l=>Ox l
 |_=>Zb
def Ox :List VV->Bool
 |[]=>Zb
 |v::r=>alV v||Ox r
end
def alB :Blk->Bool
 | .dead=>Zb
 | .cells _ _ l=>Ox l
 | .arr s _ _=>s.al
def CB (vs:List VV)(fs bs:List Blk):Bool:=Ox vs||fs.any alB||bs.any alB
def Blk.may :Blk->Bool
 | .dead=>Za
 | .cells _ z _=> !z
 | .arr _ z _=> !z
def JG (S:ai)(fx:List Nat):Bool:=fx.all λj=>Nat.blt j S.length&&(ae S j).may
structure FSum where
 f:Nat
 vals:List Sk
 objs:List OSk
 outs:List Alt
 run:Df (ui.shs ⟨vals,[],objs⟩)->Option (uk outs)
def FSum.ins (F:FSum):ui:=⟨F.vals,[],F.objs⟩
def tf :List OSk->Nat->List Nat
 |[],_=>[]
 |o::r,i=>cond o.ro (tf r (i+1)) (i::tf r (i+1))
def vX (m:List (Option Src))(n g j:Nat):Nat:=cond (Nat.blt j n) (match nth m j with
 |some (O x)=>x.k
 |_=>g) (g+(j-n))
def vE :List Nat->List Blk->ai->Option ai
 |[],[],S=>O S
 |j::h,b::g,S=>vE h g (kE S j b)
 |_,_,_=>Y
def XW :Sk->VV->ai->ai
 | .leaf (.list (.list _)),v,S=>aB2 S v
 |_,_,S=>S
def DX :List Sk->List VV->ai->ai
 |k::r,v::g,S=>DX r g (XW k v S)
 |_,_,S=>S
def CG :List Nat->ai->ai
 |[],S=>S
 |k::r,S=>CG r (kE S k (ae S k).freeze)
def au5 {β:Type}(F:FSum)(t:Df F.ins.shs)(st:DSt)(S:ai)(k:VV->ai->Option β):Option β:=
 (F.run t).bind λo=>Xh F.outs o λa u=>match pp (vX st.m F.objs.length S.length) a.sk (RG a.sk.shs u)with
  |some ([v],h,g)=>(match vE (jJ F.objs st.m) h (cond (CB [v] h g) (CG st.lent S) S)with
   |some S'=>k v (S'++g)
   |none=>Y)
  |_=>Y
def Nv :List (Option Src)->Bool
 |[]=>Za
 |some ⟨_,Y⟩::r=>Nv r
 |_=>Zb
def KR {β:Type}:List FSum->Nat->List VV->ai->(VV->ai->Option β)->Option β
 |[],_,_,_,_=>Y
 |F::r,f,g,S,k=>cond (aB F.f f) (match mG (DX F.vals g S) 0 [] F.ins g with
  |some h=>(match PI F.ins.shs h.ls with
   |some t=>gd (Nv h.m&&JG (DX F.vals g S) (jJ F.objs h.m)) (au5 F t h (DX F.vals g S) k)
   |none=>KR r f g S k)
  |none=>KR r f g S k) (KR r f g S k)
structure Inl where
 f:Nat
 run:(β:Type)->List VV->ai->(VV->ai->Option β)->Option β
structure Tab where
 fs:List FSum
 is:List Inl
def aj2 :List Inl->Nat->Bool
 |[],_=>Zb
 |I::r,f=>cond (aB I.f f) Za (aj2 r f)
def TU {β:Type}:List Inl->Nat->List VV->ai->(VV->ai->Option β)->Option β
 |[],_,_,_,_=>Y
 |I::r,f,g,S,k=>cond (aB I.f f) (I.run β g S k) (TU r f g S k)
def TV {β:Type}(tab:Tab)(f:Nat)(g:List VV)(S:ai)(k:VV->ai->Option β):Option β:=
 cond (aj2 tab.is f) (TU tab.is f g S k) (KR tab.fs f g S k)
def KG :Nat->List Nat
 |0=>[]
 |n+1=>n::KG n
def Ws {β:Type}(S:ai)(x:Option VV)(k:VV->ai->Option β):Option β:=match x with
 |some v=>k v S
 |none=>Y
def HV {β:Type}(tab:Tab)(op:AOp)(e:cm)(S:ai)(k:VV->ai->Option β):Option β:=match op with
 | .move x=>k (ev e x) S
 | .pick c a b=>(match ev e c with
  | .bool p=>YL p (ev e a) (ev e b) S k
  |_=>Y)
 | .alloc g z=>gd (aD 1 g) (k (.ptr S.length 0) (S++[DN g z]))
 | .box g x=>gd (aD 1 g&&oC (mF (ev e x))) (k (.ptr S.length 0) (S++[.cells g Zb (mF (ev e x))]))
 | .build z H=>(match IV (z.map JF) (Av e H)with
  |some u=>k (.agg u) S
  |none=>Y)
 | .buildSlice g D z H=>(match IV ((bB D (z.map JF)).flatten) (Av e H)with
  |some u=>gd (oC u&&aB (D*g) u.length&&aD 1 g) (k (.full S.length) (S++[.cells g Zb u]))
  |none=>Y)
 | .load x=>NB S 1 Zb (ev e x) k
 | .loadN n x=>NB S n Za (ev e x) k
 | .store n a x=>gd (aB (mF (ev e x)).length n&&oC (mF (ev e x))) (Tq S (ev e a) (mF (ev e x)) λS'=>k .undef S')
 | .nilCheck x=>(match ev e x with
  | .fn f a c=>k (.fn f a c) S
  |v=>gd (Lc S v) (k v S))
 | .bin op x y=>az0 op (ev e x) (ev e y) λv=>k v S
 | .eqv A E x y=>(match aA6 S A (ev e x) (ev e y)with
  |some b=>k (.bool (Yn E b)) S
  |none=>Y)
 | .eqCells E L x y=>(match ev e x,ev e y with
  | .agg a, .agg b=>(match MJ L a b with
   |some p=>k (.bool (Yn E p)) S
   |none=>Y)
  |_,_=>Y)
 | .un op x=>unK op (ev e x) λv=>k v S
 | .conv A x=>(match GO (ev e x)with
  |some n=>k (.int A (A.wrap n)) S
  |none=>Y)
 | .mkFunc f a c=>k (.fn f (a.map (ev e)) (c.map (ev e))) S
 | .makeSlice g h z l c=>Yi S g h z (ev e l) (ev e c) k
 | .slice g x F C=>Tn S g (ev e x) (F.map (ev e)) (C.map (ev e)) k
 | .sliceStr x F C=>Ip S (ev e x) (F.map (ev e)) (C.map (ev e)) k
 | .sliceArr g n x F C=>Io S g n (ev e x) (F.map (ev e)) (C.map (ev e)) k
 | .off n x=>Ws S (an0 S n (ev e x)) k
 | .idx g x i=>aj9 S g (ev e x) (ev e i) k
 | .idxA D g x i=>Uo S D g (ev e x) (ev e i) k
 | .fieldV o n agg x=>(match ev e x with
  | .agg u=>cond agg (k (.agg (AY u o n)) S) (Ws S (nth u o) k)
  |_=>Y)
 | .indexV D g agg x i=>(match ev e x,ev e i with
  | .agg u, .int _ i=>(ix i D).bind λj=>cond agg (k (.agg (AY u (j*g) g)) S) (gd (aB g 1&&aB u.length D) (P0 u j S k))
  |_,_=>Y)
 | .indexS x i=>(match ev e x,ev e i with
  | .str l, .int _ i=>(rd l i).bind λb=>k (.int .u8 b) S
  |_,_=>Y)
 | .extract x i=>(match ev e x with
  | .tup U=>Ws S (nth U i) k
  |_=>Y)
 | .call f J=>TV tab f (J.map (ev e)) S k
 | .callv x J=>(match ev e x with
  | .fn f a c=>TV tab f (a++J.map (ev e)++c) S k
  |_=>Y)
 | .append g h s x=>Ky S g h (ev e s) (ev e x) k
 | .stuck=>Y
 | .range x=>(match ev e x with
  | .str l=>k (.it S.length l) (S++[.cells 1 Zb [.int .i64 0]])
  |_=>Y)
 | .next x=>Ys S (ev e x) k
 | .newB=>k (.bld S.length) (S++[.cells 1 Zb [.str []]])
 | .encR x=>(match GO (ev e x)with
  |some n=>k (.str (L7 n)) S
  |none=>Y)
 | .strOf x=>Ts S (ev e x) k
 | .strOfR x=>aa5 S (ev e x) k
 | .runesOf x=>Tj S (ev e x) k
 | .mark x=>Yj S (ev e x) k
 | .capN x=>(match ev e x with
  | .nils=>k (.int .i64 0) S
  |_=>Y)
 | .sliceX x C M=>Ps S (ev e x) (ev e C) (ev e M) k
 | .appendZ g h z s x=>Kz S g h z (ev e s) (ev e x) k
 | .copy g d s=>XD S g (ev e d) (ev e s) k
 | .len x=>(match ev e x with
  | .str _=>Y
  |v=>(match lenOf S v with
   |some n=>k (.int .i64 n) S
   |none=>Y))
 | .lenS x=>(match ev e x with
  | .str l=>k (.int .i64 l.length) S
  |_=>Y)
 | .lenC n=>k (.int .i64 n) S
 | .most x y=>(match ev e x,ev e y with
  | .int A a, .int _ b=>k (.int A (max a b)) S
  |_,_=>Y)
 | .least x y=>(match ev e x,ev e y with
  | .int A a, .int _ b=>k (.int A (min a b)) S
  |_,_=>Y)
section
variable (tab:Tab)
def DT {β:Type}:List AOper->cm->ai->(cm->ai->Option β)->Option β
 |[],e,S,k=>k e S
 |o::r,e,S,k=>match o.guard with
  |none=>HV tab o.op e S λv S'=>DT r (putO e o.dst v) S' k
  |some (t,w)=>match ld e t with
   | .bool p=>cond p
    (cond w (HV tab o.op (pP e t (.bool Za)) S λv S'=>DT r (putO (pP e t (.bool Za)) o.dst v) S' k) (DT r (putO (pP e t (.bool Za)) o.dst (.tup [])) S k))
    (cond w (DT r (putO (pP e t (.bool Zb)) o.dst (.tup [])) S k) (HV tab o.op (pP e t (.bool Zb)) S λv S'=>DT r (putO (pP e t (.bool Zb)) o.dst v) S' k))
   | .tup []=>DT r (putO e o.dst (.tup [])) S k
   |_=>Y
def vp :VV->Option Nat
 | .ptr b _=>O b
 | .it b _=>O b
 | .bld b=>O b
 | .pix b _ _ _=>O b
 | .pel b _ _=>O b
 | .full b=>O b
 | .part b _ _=>O b
 |_=>Y
def Xk (S:ai)(v:VV):Option (Option Nat):=match v with
 | .pin _ _ _| .lst _ _| .nils=>O Y
 |v=>(match vp v with
  |some b=>cond (ae S b).live (O (O b)) Y
  |none=>Y)
def Vp (S:ai)(op:AOp)(e:cm):Option (Option Nat):=match op with
 | .load x| .loadN _ x| .sliceArr _ _ x _ _| .slice _ x _ _=>Xk S (ev e x)
 |_=>Y
def Wq :Option Nat->List Nat
 |some b=>[b]
 |none=>[]
def um :List FSum->Nat->List VV->ai->List Nat
 |[],_,_,_=>[]
 |F::r,f,g,S=>cond (aB F.f f) (match mG (DX F.vals g S) 0 [] F.ins g with
  |some h=>(match PI F.ins.shs h.ls with
   |some _=>jJ F.objs h.m
   |none=>um r f g S)
  |none=>um r f g S) (um r f g S)
def ON (f:Nat)(g:List VV)(S:ai):List Nat:=cond (aj2 tab.is f) (KG S.length) (um tab.fs f g S)
def GI (op:AOp)(e:cm)(S:ai):List Nat:=match op with
 | .store _ a _=>Wq (vp (ev e a))
 | .append _ _ s _=>Wq (vp (ev e s))
 | .appendZ _ _ _ s _=>Wq (vp (ev e s))
 | .copy _ d _=>Wq (vp (ev e d))
 | .next x=>Wq (vp (ev e x))
 | .call f g=>ON tab f (g.map (ev e)) S
 | .callv x g=>(match ev e x with
  | .fn f a c=>ON tab f (a++g.map (ev e)++c) S
  |_=>[])
 |_=>[]
abbrev Fi :=List (Nat×Option (Option Nat)×(ai->Bool))
def JM (d:List Nat):Fi->Fi
 |[]=>[]
 |(i,O (O b),f)::r=>(i,cond (kB b d) Y (O (O b)),f)::JM d r
 |x::r=>x::JM d r
def pA (is:List Nat):Fi->Bool
 |[]=>Za
 |(i,b,_)::r=>cond (kB i is) (match b with
  |some _=>pA is r
  |none=>Zb) (pA is r)
def A8 (S:ai)(is:List Nat):Fi->Bool
 |[]=>Za
 |(i,b,f)::r=>cond (kB i is) (match b with
  |some _=>A8 S is r
  |none=>cond (f S) (A8 S is r) Zb) (A8 S is r)
def aA5 :VV->VV->Bool
 | .int k n, .int g h=>Zc (k=g)&&Zc (n=h)
 | .bool a, .bool b=>Zc (a=b)
 | .str a, .str b=>Zc (a=b)
 | .nilp, .nilp=>Za
 | .nils, .nils=>Za
 |_,_=>Zb
def Pd (tab:Tab)(op:AOp)(e:cm)(v:VV)(S:ai):Bool:=match HV tab op e S λg _=>O (aA5 v g)with
 |some b=>b
 |none=>Zb
def HU {β:Type}(it:SItem)(chk:Fi)(e:cm)(S:ai)(k:Fi->cm->ai->Option β):Option β:=
 cond it.mover (HV tab it.o.op e S λv S'=>gd (A8 S' it.chks (JM (GI tab it.o.op e S) chk)) (k (JM (GI tab it.o.op e S) chk) (putO e it.o.dst v) S'))
  (gd (it.o.op.still&&(!it.keep||it.o.op.isLoad)) (HV tab it.o.op e S λv S'=>k (cond it.keep ((it.idx,Vp S it.o.op e,Pd tab it.o.op e v)::chk) chk) (putO e it.o.dst v) S'))
def td {β:Type}:List SItem->Fi->cm->ai->(cm->ai->Option β)->Option β
 |[],_,e,S,k=>k e S
 |it::r,chk,e,S,k=>match it.o.guard with
  |none=>HU tab it chk e S λg h S'=>td r g h S' k
  |some (t,w)=>match ld e t with
   | .bool p=>cond p
    (cond w (HU tab it chk (pP e t (.bool Za)) S λg h S'=>td r g h S' k) (td r chk (putO (pP e t (.bool Za)) it.o.dst (.tup [])) S k))
    (cond w (td r chk (putO (pP e t (.bool Zb)) it.o.dst (.tup [])) S k) (HU tab it chk (pP e t (.bool Zb)) S λg h S'=>td r g h S' k))
   | .tup []=>td r chk (putO e it.o.dst (.tup [])) S k
   |_=>Y
end
structure LItem where
 i:Nat
 kind:Nat
 chks:List Nat
 need:List Nat
def ba (g:List (AOper×List Nat))(i:Nat):AOper:=match g[i]? with
 |some (o,_)=>o
 |none=>⟨Y, .lenC 0,Y⟩
def UU :VV->Bool
 | .int _ _| .bool _| .str _=>Za
 |_=>Zb
def UT :Value->Bool
 | .int _ _| .bool _| .string _=>Za
 |_=>Zb
def yu {β:Type}(op:AOp)(e:cm)(k:Blk->Bool->Option β):Option β:=match op with
 | .alloc h z=>gd (aD 1 h) (k (DN h z) Zb)
 | .makeSlice h g z l c=>(match ev e l,ev e c,I6 z with
  | .int _ l, .int _ c,O s=>gd (aB h s.w&&Zc (0<=l)&&Zc (l<=c)&&Zc (g*c<=140737488355328)&&aD 1 g) (k (.arr s Zb (bB l.toNat (tx s))) Za)
  |_,_,_=>Y)
 | .buildSlice h u z A=>(match IV ((bB u (z.map JF)).flatten) (Av e A)with
  |some p=>gd (oC p&&aB (u*h) p.length&&aD 1 h&&p.all UU&&z.all UT) (k (.cells h Zb p) Za)
  |none=>Y)
 |_=>Y
def vvF (w:Bool)(k:Nat):VV:=cond w (.full k) (.ptr k 0)
def qd (e:cm):List Nat->cm
 |[]=>e
 |t::g=>pP (qd e g) t .undef
def th (g:List (AOper×List Nat)):List Nat->List Nat
 |[]=>[]
 |i::r=>(match(ba g i).dst with
  |some d=>[d]
  |none=>[])++th g r
def au4 (n:Nat):Option (Option Nat)->Bool
 |some (O q)=>aB q n
 |_=>Zb
section
variable (tab:Tab)
def evG {β:Type}(h:List (AOper×List Nat))(n:Nat):List Nat->cm->ai->Option β->Option β
 |[],_,_,z=>z
 |i::g,e,S,z=>gd ((ba h i).op.still&&(!(ba h i).op.isLoad||au4 n (Vp S (ba h i).op e))) (HV tab (ba h i).op e S λv S'=>evG h n g (putO e (ba h i).dst v) S' z)
def CE {β:Type}(g:List (AOper×List Nat)):List LItem->Fi->cm->ai->(cm->ai->Option β)->Option β
 |[],_,e,S,k=>k e S
 |it::r,chk,e,S,k=>
  cond (aB it.kind 3) (yu (ba g it.i).op e λ_ _=>CE g r chk e S k)<|
  cond (aB it.kind 2) (yu (ba g it.i).op e λh w=>CE g r chk (putO e (ba g it.i).dst (vvF w S.length)) (S++[h]) k)
  (cond (aB it.kind 1)
   (HV tab (ba g it.i).op e S λv S'=>gd (pA it.chks (JM (GI tab (ba g it.i).op e S) chk)&&pA it.need (JM (GI tab (ba g it.i).op e S) chk)) (CE g r (JM (GI tab (ba g it.i).op e S) chk) (putO e (ba g it.i).dst v) S' k))
   (cond (aB it.kind 5) (yu (ba g it.i).op (qd e (th g it.chks)) λh w=>evG tab g S.length it.chks (putO (qd e (th g it.chks)) (ba g it.i).dst (vvF w S.length)) (S++[h]) (CE g r chk (qd e (th g it.chks)) S k))<|
   gd (ba g it.i).op.still (HV tab (ba g it.i).op e S λv S'=>gd (pA it.need (cond (ba g it.i).op.isLoad ((it.i,Vp S (ba g it.i).op e,λ_=>Zb)::chk) chk)) (CE g r (cond (ba g it.i).op.isLoad ((it.i,Vp S (ba g it.i).op e,λ_=>Zb)::chk) chk) (putO e (ba g it.i).dst v) S' k))))
end
def QV :Operand->List Nat
 | .tmp t=>[t]
 |_=>[]
def tw :AOp->List Nat
 | .makeSlice _ _ _ l c=>QV l++QV c
 | .buildSlice _ _ _ g=>g.flatMap λp=>QV p.2.2
 |_=>[]
def Lb :AOp->Bool
 | .alloc g _=>aD 1 g
 |_=>Zb
def pq :AOp->Bool
 | .alloc _ _| .makeSlice _ _ _ _ _=>Za
 | .buildSlice _ _ z _=>z.all UT
 |_=>Zb
def rF (d:Option Nat)(l:List Nat):Bool:=match d with
 |some t=> !kB t l
 |none=>Za
def UD (d g:Option Nat):Bool:=match d,g with
 |some t,O h=> !Nat.beq t h
 |_,_=>Za
def AW (i:Nat):List Nat->List Nat
 |[]=>[]
 |a::r=>cond (aB a i) r (a::AW i r)
def Cm :List LItem->List Nat->Nat->Option (List Nat×LItem×List LItem)
 |[],_,_=>Y
 |it::r,P,i=>cond (aB it.kind 3) (Cm r P i)<|cond (aB it.kind 2) (cond (kB it.i P) (Cm r (AW it.i P) i) Y) (cond (aB it.i i) (O (P,it,r)) Y)
def SJ :List LItem->List Nat->Bool
 |[],P=>P.isEmpty
 |it::r,P=>cond (aB it.kind 3) (SJ r P) (aB it.kind 2&&kB it.i P&&SJ r (AW it.i P))
def aB8 :AOp->Bool
 | .move _=>Za
 |_=>Zb
def K9 (g:List (AOper×List Nat)):List LItem->Nat->Bool
 |[],_=>Zb
 |it::r,m=>cond (aB it.kind 3) (aB it.i m||K9 g r m)<|(aB it.kind 2&&(aB it.i m||(rF (ba g it.i).dst (tw (ba g m).op)&&K9 g r m)))||(aB it.kind 0&&aB8 (ba g it.i).op&&rF (ba g it.i).dst (tw (ba g m).op)&&K9 g r m)
def tn (h:List (AOper×List Nat))(g:Nat)(s:Bool)(P:List Nat)(r:List LItem):Bool:=
 P.all (λq=>UD (ba h g).dst (ba h q).dst&&rF (ba h g).dst (tw (ba h q).op))&&
 r.all λp=> !Nat.beq p.kind 2||(s&&aB p.i g)||UD (ba h g).dst (ba h p.i).dst
def au7 :List LItem->Bool
 |it::_=>aB it.kind 5
 |[]=>Zb
def ah7 :Option Nat->Nat->Bool
 |some a,b=>aB a b
 |none,_=>Zb
def VA (h:List (AOper×List Nat)):List Nat->Nat->List Nat->Option (Nat×List Nat)
 |[],f,D=>O (f,D)
 |i::g,f+1,D=>cond (ah7 (dx h D) i&&(ba h i).guard.isNone) (VA h g f (i::D)) Y
 |_::_,0,_=>Y
def VB (g:List (AOper×List Nat)):List LItem->Nat->List Nat->Bool
 |[],0,_=>Za
 |[],_+1,D=>(dx g D).isNone&&(bn g D).isEmpty
 |it::r,f+1,D=>aB it.kind 0&&ah7 (dx g D) it.i&&(ba g it.i).guard.isNone&&VB g r f (it.i::D)
 |_::_,0,_=>Zb
def Qx :List Nat->List LItem->Option (List LItem)
 |[],r=>O r
 |i::g,h::r=>cond (aB h.kind 0&&aB h.i i) (Qx g r) Y
 |_::_,[]=>Y
def okG (h:List (AOper×List Nat))(m c:Nat):List Nat->List Nat->Bool
 |_,[]=>Za
 |pre,i::g=>(ba h i).dst.isSome&&rF (ba h i).dst (tw (ba h m).op)&&UD (ba h i).dst (ba h m).dst&&rF (ba h c).dst (ba h i).op.reads&&UD (ba h c).dst (ba h i).dst&&(i::pre).all (λj=>rF (ba h i).dst (ba h j).op.reads)&&pre.all (λj=>UD (ba h i).dst (ba h j).dst)&&okG h m c (i::pre) g
def XA (g:List (AOper×List Nat))(f:Nat)(D P ls u:List Nat):List LItem->Bool
 |it::h::p::r=>P.isEmpty&&aB h.kind 1&&aB p.kind 2&&aB p.i it.i&&pq (ba g it.i).op&& !pq (ba g h.i).op&&(ba g it.i).guard.isNone&&(ba g h.i).guard.isNone&&rF (ba g it.i).dst (tw (ba g it.i).op)&&
  !(bn g D).isEmpty&&(bn g D).all (λx=>aB x it.i||aB x h.i)&&ls.all (λi=>sZ g i it.i||kB i u)&&ls.all (λi=>sZ g i h.i||kB i h.chks)&&tn g h.i Zb [it.i] (p::r)&&okG g it.i h.i [] it.chks&&
  (match VA g it.chks f (it.i::D),Qx it.chks r with
  |some (s+1,D1),O A=>(dx g D1).isNone&&(match bn g D1 with
   |[x]=>aB x h.i
   |_=>Zb)&&VB g A s (h.i::D1)
  |_,_=>Zb)
 |_=>Zb
def aL0 (p:List (AOper×List Nat))(h:List Nat->List Nat->List LItem->Bool)(D:List Nat):List LItem->Bool
 |_::g::r=>h (g.i::D) g.need r
 |_=>Zb
def MF (g:List (AOper×List Nat)):Nat->List Nat->List Nat->List Nat->List Nat->List LItem->Bool
 |0,_,P,_,_,r=>SJ r P
 |f+1,D,P,p,u,r=>match dx g D with
  |some i=>(ba g i).guard.isNone&&(match Cm r P i with
   |some (P',h,s)=>aB h.kind 0&&tn g i Zb P' s&&MF g f (i::D) P' (cond (ba g i).op.isLoad (i::p) p) h.need s
   |none=>Zb)
  |none=>cond (au7 r) (XA g f D P p u r&&aL0 g (λD' A s=>MF g f D' [] p A s) D r)<|match bn g D with
   |[]=>SJ r P
   |ms=>ms.all λm=>(ba g m).guard.isNone&&cond (pq (ba g m).op)
    (!kB m P&&r.any (λh=>aB h.kind 2&&aB h.i m)&&(Lb (ba g m).op||K9 g r m)&&tn g m Za P r&&rF (ba g m).dst (tw (ba g m).op)&&p.all (λi=>sZ g i m||kB i u)&&MF g f (m::D) (m::P) p u r)
    (match Cm r P m with
    |some (P',h,s)=>aB h.kind 1&&tn g m Zb P' s&&p.all (λi=>sZ g i m||kB i h.chks)&&MF g f (m::D) P' p h.need s
    |none=>Zb)
def Xd (i:Nat):List Nat->List Nat
 |[]=>[]
 |a::r=>cond (aB a i) r (Xd i r)
def zp (g:List (AOper×List Nat))(h:List Nat):List Nat->List Nat->List LItem
 |[],_=>[]
 |i::r,p=>
  cond (aD 2000 i) (⟨i % 1000,5,(Xd (i % 1000) r).take (i / 10000),[]⟩::zp g h r p)<|
  cond (aD 1000 i) (⟨i-1000,3,[],[]⟩::zp g h r p)<|
  let o:=(ba g i).op
  let s:=cond o.isLoad (i::p) p
  let u:=r.filter λm=>pq (ba g m).op
  ⟨i,cond (pq o) 2 (cond o.still 0 1),p.filter λj=> !sZ g j i,s.filter λj=>u.any λm=> !sZ g j m⟩::zp g h r s
def FA (g:List (AOper×List Nat)):List LItem->Bool
 |[]=>Za
 |it::r=>r.all (λj=> !Nat.beq it.kind 2|| !Nat.beq j.kind 2||UD (ba g it.i).dst (ba g j.i).dst)&&FA g r
def EI (g:List (AOper×List Nat)):List LItem->List Nat
 |[]=>[]
 |it::r=>cond (aB it.kind 2) ((match(ba g it.i).dst with
  |some d=>[d]
  |none=>[])++EI g r) (EI g r)
inductive AT where
 |no
 |n (l r:AT)
 |lp (fx:List Nat) (head:Alt) (exits:List Alt) (b:AT)
 |jn (fx mov:List Nat) (exits:List Alt) (l r:AT)
 |sz (n:Nat) (l r:AT)
 |dr (L:List Nat)
 |all
def AT.sub :AT->AT
 | .all=> .all
 |_=> .no
def TP (g:List (AOper×List Nat)):Nat->List Nat->List Nat
 |0,_=>[]
 |f+1,D=>match dx g D with
  |some i=>i::TP g f (i::D)
  |none=>match(bn g D).filter (λm=> !pq (ba g m).op),bn g D with
   |m::_,h=>(h.filter λx=>pq (ba g x).op&& !Lb (ba g x).op).map (1000+ ·)++m::TP g f (m::D)
   |[],m::_=>m::TP g f (m::D)
   |[],[]=>[]
def drL (g:List (AOper×List Nat)):AT->Option (List Nat)
 | .dr L=>O L
 | .all=>O (TP g g.length [])
 |_=>Y
def am6 :List VV->Nat
 |[]=>0
 | .nilp::r=>am6 r+1
 | .fn f _ _::r=>am6 r+10*f
 |_::r=>am6 r
def aC2 :Nat->ai->Nat
 |_,[]=>0
 |k, .cells _ _ l::r=>k*am6 l+aC2 (k+1) r
 |k,_::r=>aC2 (k+1) r
def X6 (S:ai):Nat:=S.length+1000*aC2 1 S
def AT.at (n:Nat):AT->AT
 | .sz m l r=>cond (aB m n) l (r.at n)
 |t=>t
def Q6 (e:cm):List Nat->List VV->cm
 |t::g,v::h=>pP (Q6 e g h) t v
 |_,_=>e
def OO :Option Nat->List Nat
 |some d=>[d]
 |none=>[]
def kv :AC->List Nat
 | .region g=>g.flatMap λo=>OO o.dst
 | .draw g=>g.flatMap λo=>OO o.1.dst
 | .sched h=>h.flatMap λi=>OO i.o.dst
 | .seq a b| .cond _ a b=>kv a++kv b
 | .block _ b| .loop b=>kv b
 |_=>[]
def XK.is :XK->AExit->Bool
 | .normal, .normal=>Za
 | .exit i, .exit j=>aB i j
 | .ret, .ret=>Za
 |_,_=>Zb
def XK.out :XK->AExit
 | .normal=> .normal
 | .exit i=> .exit i
 | .ret=> .ret
def jA (fx mov:List Nat)(fz:Bool):Nat->ai->ai
 |_,[]=>[]
 |i,b::r=>cond (kB i mov) (cond b.frozen b .dead) (cond (kB i fx) b (cond fz b.freeze b))::jA fx mov fz (i+1) r
def D5 :AC->Bool
 | .seq a b| .cond _ a b=>D5 a&&D5 b
 | .block _ b| .loop b=>D5 b
 |_=>Za
def aq {α γ:Type}(f:α->Option (α⊕γ))(n:Nat):α->Option γ:=
 Nat.rec (λ_=>Y) (λ_ g a=>(f a).bind λs=>bk s g O) n
def di :Nat:=18446744073709551616
def Eb (e0:cm)(S:ai)(fx mov h:List Nat)(fz:Bool)(ts:List Nat)(p:ui)(t:Df p.shs):Option (cm×ai):=
 match pp id p (RG p.shs t)with
 |some (g,u,s)=>(match vE fx u (jA fx mov (fz||CB g u s) 0 S)with
  |some S'=>O (Q6 (qd e0 h) ts g,S'++s)
  |none=>Y)
 |none=>Y
def aj0 {β:Type}(e0:cm)(S:ai)(fx mov h:List Nat)(g:List Alt)(s:uk g)(k:AExit->cm->ai->Option β):Option β:=
 Xh g s λa t=>match Eb e0 S fx mov h Zb a.ts a.sk t with
  |some (e,S')=>k a.x.out e S'
  |none=>Y
def Ll (F:AT->(β:Type)->cm->ai->(AExit->cm->ai->Option β)->Option β):AT->(β:Type)->cm->ai->(AExit->cm->ai->Option β)->Option β
 | .n l r,β,e,S,k=>F l β e S λx g S'=>match x with
  | .normal=>Ll F r β g S' k
  |x=>k x g S'
 | .sz m l r,β,e,S,k=>cond (aB m S.length) (Ll F l β e S k) (Ll F r β e S k)
 |_,_,_,_,_=>Y
def Yf (F:(β:Type)->cm->ai->(AExit->cm->ai->Option β)->Option β)(n:Nat):(β:Type)->cm->ai->(AExit->cm->ai->Option β)->Option β:=
 Nat.rec (λ_ _ _ _=>Y) (λ_ h β e S k=>F β e S λx g S'=>match x with
  | .normal=>h β g S' k
  |x=>k x g S') n
def AT.rounds :AT->Nat
 | .n _ r=>r.rounds+1
 | .sz _ l r=>l.rounds+r.rounds
 |_=>0
def eval (tab:Tab):AC->AT->(β:Type)->cm->ai->(AExit->cm->ai->Option β)->Option β
 | .skip,_,_,e,S,k=>k .normal e S
 | .exit i,_,_,e,S,k=>k (.exit i) e S
 | .ret,_,_,e,S,k=>k .ret e S
 | .region h,_,_,e,S,k=>DT tab h e S λA S'=>k .normal A S'
 | .sched F,_,_,e,S,k=>td tab F [] e S λA S'=>k .normal A S'
 | .draw h,C,_,e,S,k=>(match drL h (C.at (X6 S))with
  |some L=>gd (MF h h.length [] [] [] [] (zp h L L [])&&FA h (zp h L L [])) (CE tab h (zp h L L []) [] (qd e (EI h (zp h L L []))) S λA S'=>k .normal A S')
  |none=>Y)
 | .seq a b,C,β,e,S,k=>
  (match C.at (X6 S)with
  | .jn D E g l r=>gd (JG S D&&D5 a) ((eval tab a l (uk g) e (jA (D++E) [] Za 0 S) λx A S'=>vZ S' S.length D (λts=>ts.map (ld A)) (λy=>y.is x) g).bind λs=>
    aj0 e S D E (kv a) g s λx A S'=>match x with
     | .normal=>eval tab b r β A S' k
     |x=>k x A S')
  | .n l r=>eval tab a l β e S λx A S'=>match x with
   | .normal=>eval tab b r β A S' k
   |x=>k x A S'
  |u=>eval tab a u.sub β e S λx A S'=>match x with
   | .normal=>eval tab b u.sub β A S' k
   |x=>k x A S')
 | .cond c a b,C,β,e,S,k=>
  (match ev e c with
  | .bool p=>(match c,C.at (X6 S)with
   | .tmp t, .n l r=>cond p (eval tab a l β (pP e t (.bool Za)) S k) (eval tab b r β (pP e t (.bool Zb)) S k)
   | .tmp t,u=>cond p (eval tab a u.sub β (pP e t (.bool Za)) S k) (eval tab b u.sub β (pP e t (.bool Zb)) S k)
   |_, .n l r=>cond p (eval tab a l β e S k) (eval tab b r β e S k)
   |_,u=>cond p (eval tab a u.sub β e S k) (eval tab b u.sub β e S k))
  |_=>Y)
 | .block id b,C,β,e,S,k=>
  eval tab b (match C.at (X6 S)with
   | .n l _=>l
   |u=>u.sub) β e S λx A S'=>match x with
   | .exit i=>cond (aB i id) (k .normal A S') (k (.exit i) A S')
   |x=>k x A S'
 | .loop b,C,_,e,S,k=>
  (match C.at (X6 S)with
  | .lp D head g l=>gd (head.sk.fxRo&&JG S D&&D5 b) (match mG S S.length D head.sk (head.ts.map (ld e))with
   |some H=>(PI head.sk.shs H.ls).bind λM=>
    (aq (λt=>match Eb e S D (nT H.m) (kv b) Za head.ts head.sk t with
     |some (J,S1)=>eval tab b l (Df head.sk.shs⊕uk g) J S1 λx A S'=>(match x with
      | .normal=>(Ud S' S.length D head.sk (head.ts.map (ld A))).bind λt=>O (.inl t)
      |x=>(vZ S' S.length D (λts=>ts.map (ld A)) (λy=>y.is x) g).bind λs=>O (.inr s))
     |none=>Y) di M).bind λs=>aj0 e S D (nT H.m) (kv b) g s k
   |none=>Y)
  | .all=>Yf (eval tab b .all) 1000000 _ e S k
  |_=>Ll (eval tab b) C _ e S k)
def ap7 (e:cm)(S:ai):ARes->Option VV
 | .tmp t=>O (ld e t)
 | .cell t=>(match ld e t with
  | .ptr b o=>(match ae S b with
   | .cells _ _ l=>nth l o
   |_=>Y)
  |_=>Y)
 | .cellN t n=>(match ld e t with
  | .ptr b o=>(match ae S b with
   | .cells _ _ l=>cond (aD (o+n) l.length) (O (.agg ((l.drop o).take n))) Y
   |_=>Y)
  |_=>Y)
def He (e:cm)(S:ai):List ARes->Option (List VV)
 |[]=>O []
 |r::rs=>(ap7 e S r).bind λv=>(He e S rs).bind λg=>O (v::g)
def RL :List VV->VV
 |[v]=>v
 |vs=> .tup vs
def bi (P:Program)(f:FuncId)(tab:Tab)(at':AT):(β:Type)->List VV->ai->(VV->ai->Option β)->Option β:=λβ g S k=>
 match RJ P f with
 |some a=>gd (aD g.length a.ntmps) (eval tab a.body at' β g S λx e S'=>match x with
  | .exit _=>Y
  |_=>(match He e S' a.results with
   |some rs=>k (RL rs) S'
   |none=>Y))
 |none=>Y
def HW (P:Program)(f:FuncId)(tab:Tab)(p:List Sk)(g:List OSk)(h:List Alt)(at':AT)(t:Df (ui.shs ⟨p,[],g⟩)):Option (uk h):=
 match RJ P f,pp id ⟨p,[],g⟩ (RG _ t)with
 |some a,O (s,_,S)=>gd (aD s.length a.ntmps) (eval tab a.body at' (uk h) s S λx e S'=>match x with
  | .exit _=>Y
  |_=>(match He e S' a.results with
   |some rs=>vZ S' S.length (tf g 0) (λ_=>[RL rs]) (λ_=>Za) h
   |none=>Y))
 |_,_=>Y
end
end Go.V
