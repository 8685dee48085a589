/- A part of the proof. No condition. -/
import Derived.Test.YtekbakifagogaaaGreatDoorA3
import Derived.IntWalk
import Derived.Below
set_option linter.unusedVariables false
set_option linter.unusedSimpArgs false
set_option linter.unusedSectionVars false
namespace Go.Ab
variable {f:FuncId}{T:fU}{v:Value}{af:AFn}{w:World}
section
open List renaming mapM_cons → bD, getElem?_eq_getElem → cB
open Result renaming andThen_ok → aB
open Sem renaming run_bind → aD, run_pure → bB
open Go.RowKit
def LR (P:Program):List ResultVar→Option (List ARes)
 |[]=>some []
 | .tmp t::r=>(LR P r).map (.tmp t:: ·)
 | .cell a t::r=>match zK P t,kZ P t,LR P r with
  |some true,some n,some r=>some (.cellN a n::r)
  |some false,some _,some r=>some (.cell a::r)
  |_,_,_=>none
def Rx (P:Program)(f:FuncId):Option AFn:=match P.funcs[f]? with
 |some g=>match g.body,Sq P f with
  |some c,true=>match lW P g.ntmps c,LR P g.results.toList with
   |some h,some rs=>some ⟨g.ntmps,rs,h⟩
   |_,_=>none
  |_,_=>none
 |none=>none
section
variable {P:Program} {T:fU} {B:Base P} {N:Nat} {μ:Mu} {σ:Hp} {w:World} {e:cf}
def F9 (g:Array Value):ResultVar→Sem Value
 | .tmp t=>pure (g.getD t undef)
 | .cell a t=>do loadVar t (←asAddr (g.getD a undef))
theorem S7 (p:Func)(g:Array Value):results p g=(do
  let vs←p.results.mapM (F9 g)
  pure (if h:vs.size=1 then vs[0]else .tuple vs)):=rfl
theorem Pe {p:Array Value}(V:ey μ N e p)(U:R B μ σ w): ∀(l:List ResultVar) (rs:List ARes) (vs:List Value),LR P l=some rs→If e σ rs=some vs→
  ∃u,(l.mapM (F9 p)).run P w= .ok u w∧F2 (VR μ) vs u
 |[],rs,vs,h,s=>by
  simp[LR]at h;subst h;simp[If]at s;subst s;exact⟨[],by simp, .nil⟩
 | .tmp t::l,rs,vs,h,s=>by
  simp only[LR]at h;obtain⟨C,F,h⟩:=Option.map_eq_some_iff.1 h;subst h;simp only[If]at s;split at s
  ·rename_i v D H J;injection s with s
   subst s;simp[Lq]at H;subst H;obtain⟨u,A,L⟩:=Pe V U l C D F J;refine⟨p.getD t undef::u, ?_, .cons (V.2 t) L⟩;have M:(F9 p (.tmp t)).run P w= .ok (p.getD t undef) w:=rfl;simp only[bD,aD,bB,aB,M,A]
  ·cases s
 | .cell a t::l,rs,vs,h,s=>by
  simp only[LR]at h;have X:=V.2 a;split at h
  ·rename_i n C F H J;injection h with h
   subst h;simp only[If]at s;split at s
   ·rename_i v D A L;injection s with s
    subst s;obtain⟨u,Z,h7⟩:=Pe V U l C D J L;simp only[Lq]at A;split at A
    ·rename_i b o hb;rw[hb]at X;obtain⟨g,W,hq⟩:=X.ptr_inv;obtain⟨x,hx,A⟩:=Option.bind_eq_some_iff.1 A;obtain⟨cs,hcs,rfl⟩:=Option.map_eq_some_iff.1 A;obtain⟨E,k1,k2⟩:=U.reads hx W hcs;refine⟨.agg E.toArray::u, ?_, .cons (.agg k2) h7⟩
     have M:(F9 p (.cell a t)).run P w= .ok (.agg E.toArray) w:=by
      simp only[F9,aD,hq,asAddr,bB,aB,loadVar,E7 F,if_true,lU H,k1 P w rfl]
     simp only[bD,aD,bB,aB,M,Z]
    ·cases A
   ·cases s
  ·rename_i n C F H J;injection h with h
   subst h;simp only[If]at s;split at s
   ·rename_i v D A L;injection s with s
    subst s;obtain⟨u,Z,h7⟩:=Pe V U l C D J L;simp only[Lq]at A;split at A
    ·rename_i b o hb;rw[hb]at X;obtain⟨g,W,hq⟩:=X.ptr_inv;obtain⟨x,hx,A⟩:=Option.bind_eq_some_iff.1 A;obtain⟨v',k1,k2⟩:=(U.get hx W.1).cell W.2 o v A;refine⟨v'::u, ?_, .cons k2 h7⟩
     have M:(F9 p (.cell a t)).run P w= .ok v' w:=by
      simp only[F9,aD,hq,asAddr,bB,aB,loadVar,E7 F,Bool.false_eq_true,if_false,run_load,k1]
     simp only[bD,aD,bB,aB,M,Z]
    ·cases A
   ·cases s
  ·cases h
theorem TL (h:Rx P f=some af)(hM:rV T)(hT: ∀g,CK P g (T g)):CK P f (wpF T af):=by
 unfold Rx at h;split at h
 ·rename_i C E;split at h
  ·rename_i c hb A;split at h
   ·rename_i ac rs h1 h2;injection h with h
    subst h;intro B μ σ w s p K X hR ha;obtain⟨M,X⟩:=X
    have D:NL P f:=by
     unfold Sq at A;rw[E]at A;simp only[Bool.and_eq_true,Bool.not_eq_true']at A;exact⟨C,E,A.1,A.2⟩
    refine⟨D,calls_of_wp E hb ?_⟩;have hsz:p.size=s.length:=by simpa using ha.length.symm
    have L:ey μ C.ntmps (cf.of s) (p++Array.replicate (C.ntmps-p.size) undef):=by
     refine⟨by simp only[Array.size_append,Array.size_replicate];simp only at M;omega,fun t=> ?_⟩;unfold cf.of;by_cases ht:t<s.length
     ·obtain⟨v',h3,h4⟩:=ha.get t s[t] (cB ht)
      have:(p++Array.replicate (C.ntmps-p.size) undef).getD t undef=v':=by
       simp only[Array.getD_eq_getD_getElem?];rw[Array.getElem?_append_left (by omega)];have:p[t]?=some v':=by simpa using h3
       simp[this]
      rw[this,cB ht];exact h4
     ·have:(p++Array.replicate (C.ntmps-p.size) undef).getD t undef=undef:=by
       simp only[Array.getD_eq_getD_getElem?];rw[Array.getElem?_append_right (by omega),Array.getElem?_replicate];split<;>rfl
      rw[this,List.getElem?_eq_none (by omega)];exact VR.undef μ
    refine wp_mono (ae6 hM hT c ac h1 _ _ σ μ ⟨_,[]⟩ w X hR L rfl) fun x a' Z hx=> ?_
    obtain⟨ax,e',σ',μ',U,F,g1,g2,g3,g4,g5⟩:=hx
    have J:(match If e' σ' rs with
      |some V=>K (zQ V) σ'
      |none=>False)→a'.defers=[]∧∃v,(results C a'.tmps).run P Z= .ok v Z∧aH1 P B μ w K (.returned v) Z:=by
     intro F;refine⟨g4, ?_⟩;split at F
     ·rename_i V W;obtain⟨H,k1,k2⟩:=Pe (P:=P) g3 g2 C.results.toList rs V h2 W;have hl:=k2.length;refine⟨zQ H, ?_,_,σ',_,μ',rfl,F,g1,g2, ?_,g5,rfl⟩
      ·rw[S7,Array.mapM_eq_mapM_toList];simp only[aD,Sem.run_map,k1,aB,bB]
       congr 1
       match H,hl with
       |[],_=>rfl
       |[v],_=>rfl
       |v::u::r,_=>simp[zQ]
      ·match V,H,k2 with
       |[],_, .nil=>exact .tuple .nil
       |[v],_, .cons h .nil=>exact h
       |v::u::r,_, .cons h (.cons h' t)=>exact .tuple (.cons h (.cons h' t))
     ·exact F.elim
    cases ax with
    |normal=>
     cases x<;>simp[xq]at U;exact J F
    |exit id=>exact F.elim
    |ret=>
     cases x<;>simp[xq]at U;exact J F
   ·cases h
  ·cases h
 ·cases h
theorem CK.none (P:Program)(f:FuncId):CK P f fun _ _ _=>False:=fun _ _ _ _ _ _ _ h=>h.elim
theorem CK.of {S S':HE}(h:CK P f S)(s: ∀g σ K,S' g σ K→S g σ K):CK P f S':=
 fun B μ σ w g p K u=>h B μ σ w g p K (s g σ K u)
end
inductive Rn (ν:Nat→Nat)(n:Nat):Value→Value→Prop where
 |bool (b:Bool):Rn ν n (.bool b) (.bool b)
 |int (k:IntKind) (m:Int):Rn ν n (.int k m) (.int k m)
 |string (s:ByteArray):Rn ν n (.string s) (.string s)
 |nilp:Rn ν n (.pointer none) (.pointer none)
 |ptr {b o:Nat}:b<n→Rn ν n (.pointer (some ⟨b,o,none⟩)) (.pointer (some ⟨ν b,o,none⟩))
 |nils:Rn ν n (.slice none 0 0) (.slice none 0 0)
 |slice {b o l c:Nat}:b<n→Rn ν n (.slice (some ⟨b,o,none⟩) l c) (.slice (some ⟨ν b,o,none⟩) l c)
 |nilf:Rn ν n .nilFunc .nilFunc
 |func {f:Fn} {a a' c c':Array Value}:F2 (Rn ν n) a.toList a'.toList→F2 (Rn ν n) c.toList c'.toList→Rn ν n (.func f a c) (.func f a' c')
 |nili:Rn ν n .nilIface .nilIface
 |agg {a a':Array Value}:F2 (Rn ν n) a.toList a'.toList→Rn ν n (.agg a) (.agg a')
 |tuple {a a':Array Value}:F2 (Rn ν n) a.toList a'.toList→Rn ν n (.tuple a) (.tuple a')
theorem Rn.vr {ν:Nat→Nat}{n:Nat}{J H:Mu}(D: ∀b,b<n→H b=J (ν b)): ∀{v u:Value},Rn ν n v u→∀{M:Value},VR J u M→VR H v M
 |_,_, .bool b,_,h=>by cases h;exact .bool b
 |_,_, .int k m,_,h=>by cases h;exact .int k m
 |_,_, .string s,_,h=>by cases h;exact .string s
 |_,_, .nilp,_,h=>by cases h;exact .nilp
 |_,_, .ptr C,_,h=>by cases h with|ptr g=>exact .ptr ⟨(D _ C).trans g.1,g.2⟩
 |_,_, .nils,_,h=>by cases h;exact .nils
 |_,_, .slice C,_,h=>by cases h with
  |slice g E U V=>exact .slice ⟨(D _ C).trans g.1,g.2⟩ E U V
  |slice0 A' g=>exact .slice0 _ ⟨(D _ C).trans g.1,g.2⟩
 |_,_, .nilf,_,h=>by cases h;exact .nilf
 |_,_, .func g E,_,h=>by cases h with|func p F=>exact .func (A g p) (A E F)
 |_,_, .nili,_,h=>by cases h;exact .nili
 |_,_, .agg g,_,h=>by cases h with|agg p=>exact .agg (A g p)
 |_,_, .tuple g,_,h=>by cases h with|tuple p=>exact .tuple (A g p)
where
 A {l m:List Value}:F2 (Rn ν n) l m→∀{L:List Value},F2 (VR J) m L→F2 (VR H) l L
 | .nil,_,h=>by cases h;exact .nil
 | .cons g W,_,h=>by cases h with|cons p F=>exact .cons (Rn.vr D g p) (A W F)
theorem VR.narrow {μ U M:Mu}(C: ∀b g V,μ b=some g→U b=some V→M b=some V): ∀{v u:Value},VR μ v u→∀{X:Value},VR U v X→VR M v X
 |_,_, .bool b,_,h=>by cases h;exact .bool b
 |_,_, .int k m,_,h=>by cases h;exact .int k m
 |_,_, .string s,_,h=>by cases h;exact .string s
 |_,_, .nilp,_,h=>by cases h;exact .nilp
 |_,_, .ptr A,_,h=>by cases h with|ptr p=>exact .ptr ⟨C _ _ _ A.1 p.1,p.2⟩
 |_,_, .nils,_,h=>by cases h;exact .nils
 |_,_, .slice A _ _ _,_,h=>by cases h with
  |slice p D J L=>exact .slice ⟨C _ _ _ A.1 p.1,p.2⟩ D J L
  |slice0 A' p=>exact .slice0 _ ⟨C _ _ _ A.1 p.1,p.2⟩
 |_,_, .slice0 A' A,_,h=>by cases h with
  |slice p D J L=>exact .slice ⟨C _ _ _ A.1 p.1,p.2⟩ D J L
  |slice0 A' p=>exact .slice0 _ ⟨C _ _ _ A.1 p.1,p.2⟩
 |_,_, .sliceX A _,_,h=>by cases h with
  |sliceX p D=>exact .sliceX ⟨C _ _ _ A.1 p.1,p.2⟩ D
  |sliceX0 A' p=>exact .sliceX0 _ ⟨C _ _ _ A.1 p.1,p.2⟩
 |_,_, .sliceX0 A' A,_,h=>by cases h with
  |sliceX p D=>exact .sliceX ⟨C _ _ _ A.1 p.1,p.2⟩ D
  |sliceX0 A' p=>exact .sliceX0 _ ⟨C _ _ _ A.1 p.1,p.2⟩
 |_,_, .nilf,_,h=>by cases h;exact .nilf
 |_,_, .func p D,_,h=>by cases h with|func E H=>exact .func (F p E) (F D H)
 |_,_, .iter A _,_,h=>by cases h with|iter E H=>exact .iter (C _ _ _ A E) H
 |_,_, .nili,_,h=>by cases h;exact .nili
 |_,_, .agg p,_,h=>by cases h with|agg E=>exact .agg (F p E)
 |_,_, .tuple p,_,h=>by cases h with|tuple E=>exact .tuple (F p E)
where
 F {l m:List Value}:F2 (VR μ) l m→∀{W:List Value},F2 (VR U) l W→F2 (VR M) l W
 | .nil,_,h=>by cases h;exact .nil
 | .cons p Z,_,h=>by cases h with|cons E H=>exact .cons (VR.narrow C p E) (F Z H)
end
section
open Nat renaming lt_or_ge → aB, lt_of_lt_of_le → aD
open Go.RowKit
structure Weak (σ0 σ1:Hp)(r:Value)(σ':Hp)(r':Value)(ν:Nat→Nat):Prop where
 n:σ0.n≤σ'.n
 old: ∀b,b<σ0.n→ν b=b
 inj: ∀b b' x x',σ'.m b=some x→σ'.m b'=some x'→b≠b'→ν b≠ν b'
 blk: ∀b x',σ'.m b=some x'→(σ0.m b=some x'∧σ1.m b=some x')∨
  (b<σ'.n∧∃x,σ1.m (ν b)=some x∧x'.es=x.es∧(x'.own=true→x.own=true)∧F2 (Rn ν σ'.n) x'.cells (x.cells.take x'.cells.length))
 res:Rn ν σ'.n r' r
section
variable {P:Program} {f:FuncId} {S S':HE}
theorem R.weak {P:Program}{B:Base P}{μ W:Mu}{σ σ1 σ':Hp}{w':World}{r r':Value}{ν:Nat→Nat}(hR:R B μ σ w)(J:R B W σ1 w')(hμ:μ.le W)(h:Weak σ σ1 r σ' r' ν):
  ∃μ',μ.le μ'∧R B μ' σ' w'∧∀rc,VR W r rc→VR μ' r' rc:=by
 have Z: ∀b g,μ b=some g→b<σ.n:=fun b g D=>by
  rcases aB b σ.n with h1|h1
  ·exact h1
  ·rw[hR.fresh b h1]at D;cases D
 have hin: ∀b,b<σ'.n→(fun b=>if b<σ'.n then W (ν b)else none) b=W (ν b):=fun b D=>zE D
 have hlt0: ∀b x,σ.m b=some x→b<σ.n:=fun b x U=>by
  obtain⟨g,E,_⟩:=hR.live b x U;exact Z b g E
 have M: ∀b g g1,μ b=some g→W b=some g1→(fun b=>if b<σ'.n then W (ν b)else none) b=some g1:=by
  intro b g g1 D hb1;have h1:=Z b g D;rw[hin b (aD h1 h.n),h.old b h1];exact hb1
 refine⟨fun b=>if b<σ'.n then W (ν b)else none,fun b g D=> ?_,⟨J.base,J.old,fun b D=>zF (by omega),fun b F A=> ?_,fun b b' x F g g' U A hne ho E X=> ?_, ?_⟩,fun rc hrc=>h.res.vr hin hrc⟩
 ·exact M b g g D (hμ b g D)
 ·rcases h.blk b F A with⟨h1,H⟩|⟨h1,x,H,h3,h4,C⟩
  ·obtain⟨g,E,L⟩:=J.live b F H;obtain⟨g0,hg0,hl0⟩:=hR.live b F h1;have hgg:g=g0:=by have:=hμ b g0 hg0;rw[E]at this;exact Option.some.inj this
   refine⟨g,M b g0 g hg0 E,L.lt,L.es,fun h0 i v hv=> ?_,L.own,L.iter,L.bld⟩;obtain⟨u,hu,hvu⟩:=L.cell h0 i v hv;obtain⟨u0,_,hvu0⟩:=hl0.cell (hgg▸h0) i v hv;exact⟨u,hu,hvu0.narrow M hvu⟩
  ·obtain⟨g,E,L⟩:=J.live (ν b) x H
   have hlen:F.cells.length≤x.cells.length:=by
    have:=C.length;rw[List.length_take]at this;omega
   refine⟨g,by simp only[zE h1];exact E,L.lt,L.es.trans h3.symm,fun h0 i v hv=> ?_,fun h0 ho=> ?_,fun s hs=> ?_,fun hs=> ?_⟩
   ·obtain⟨u,hu,hvu⟩:=C.get i v hv
    have hi:i<F.cells.length:=by
     rcases aB i F.cells.length with h6|h6
     ·exact h6
     ·rw[List.getElem?_eq_none h6]at hv;cases hv
    rw[List.getElem?_take,zE hi]at hu;obtain⟨u',hu',huu⟩:=L.cell h0 i u hu;exact⟨u',hu',hvu.vr hin huu⟩
   ·obtain⟨k1,k2,k3⟩:=L.own h0 (h4 ho);exact⟨k1,by omega,k3⟩
   ·obtain⟨k1,p,k2,k3⟩:=L.iter s hs;refine⟨k1,p, ?_,k3⟩;rw[k2]at C;have hl5:=C.length;cases A:F.cells with
    |nil=>rfl
    |cons v r=>
     rw[A]at C hl5;cases hc:x.cells.length with
     |zero=>rw[hc]at C;simp at C;cases C
     |succ n=>
      rw[hc]at C;simp at C;cases C with
      |cons h6 h7=>
       cases h7;cases h6;simp
   ·obtain⟨k1,p,s,k0,k2,k3⟩:=L.bld hs;refine⟨k1,p,s,k0, ?_,k3⟩;rw[k2]at C;have hl5:=C.length;cases A:F.cells with
    |nil=>rfl
    |cons v r=>
     rw[A]at C hl5;cases hc:x.cells.length with
     |zero=>rw[hc]at C;simp at C;cases C
     |succ n=>
      rw[hc]at C;simp at C;cases C with
      |cons h6 h7=>
       cases h7;cases h6;simp
 ·have V: ∀b x,σ'.m b=some x→∃y,σ1.m (ν b)=some y∧(x.own=true→y.own=true)∧b<σ'.n:=by
   intro b x U;rcases h.blk b x U with⟨h1,H⟩|⟨h1,y,H,_,h4,_⟩
   ·have D:=hlt0 b x h1;exact⟨x,by rw[h.old b D];exact H,id,aD D h.n⟩
   ·exact⟨y,H,h4,h1⟩
  obtain⟨y,hy,hyo,D⟩:=V b x U;obtain⟨y',hy',_,hb'⟩:=V b' F A;simp only[zE D]at E;simp only[zE hb']at X;exact J.inj (ν b) (ν b') y y' g g' hy hy' (h.inj b b' x F U A hne) (hyo ho) E X
 ·have V: ∀b x g,σ'.m b=some x→(fun b=>if b<σ'.n then W (ν b)else none) b=some g→∃y,σ1.m (ν b)=some y∧W (ν b)=some g:=by
   intro b x g U E
   have D:b<σ'.n:=by
    rcases aB b σ'.n with h|h
    ·exact h
    ·simp only[zF (show¬b<σ'.n by omega)]at E;cases E
   simp only[zE D]at E;rcases h.blk b x U with⟨h1,H⟩|⟨_,y,H,_⟩
   ·exact⟨x,by rw[h.old b (hlt0 b x h1)];exact H,E⟩
   ·exact⟨y,H,E⟩
  intro b x g U E hi k hk b' F g' A X;obtain⟨y,h1,H⟩:=V b x g U E;obtain⟨y',h3,h4⟩:=V b' F g' A X;obtain⟨m1,m2⟩:=J.sep (ν b) y g h1 H hi k hk (ν b') y' g' h3 h4;exact⟨m1,fun hne=>m2 (h.inj b' b F x A U hne)⟩
theorem CK.weak (h:CK P f S)(M: ∀g σ K,S' g σ K→S g σ fun C σ1=> ∃ν σ' u,Weak σ σ1 C σ' u ν∧K u σ'):CK P f S':=by
 intro B μ σ w g s K W A U;obtain⟨V,p⟩:=h B μ σ w g s _ (M g σ K W) A U;refine⟨V,p.mono fun x w' Z=> ?_⟩;obtain⟨C,σ1,D,μ1,rfl,⟨ν,σ',u,X,L⟩,E,F,H,J,_⟩:=Z;obtain⟨μ',k1,k2,k3⟩:=A.weak F E X;exact⟨u,σ',D,μ',rfl,L,k1,k2,k3 D H,J,rfl⟩
end
def Tq (σ σ1:Hp):Prop:=σ.n≤σ1.n∧∀b,b<σ.n→σ1.m b=σ.m b
theorem Tq.refl (σ:Hp):Tq σ σ:=⟨Nat.le_refl _,fun _ _=>rfl⟩
theorem Tq.trans {a b c:Hp}(h:Tq a b)(k:Tq b c):Tq a c:=⟨Nat.le_trans h.1 k.1,fun x g=>(k.2 x (aD g h.1)).trans (h.2 x g)⟩
theorem Tq.add {σ σ1:Hp}(h:Tq σ σ1)(x:Blk):Tq σ (σ1.add x):=by
 refine⟨Nat.le_succ_of_le h.1,fun b g=> ?_⟩;have:b≠σ1.n:=by have:=h.1;omega
 simp only[Hp.add,zF this];exact h.2 b g
theorem Tq.set {σ σ1:Hp}(h:Tq σ σ1){b:Nat}(s:σ.n≤b)(x:Option Blk):Tq σ (σ1.set b x):=by
 refine⟨h.1,fun p g=> ?_⟩;have:p≠b:=by omega
 simp only[Hp.set,zF this];exact h.2 p g
def Hp.Ok (σ:Hp):Prop:= ∀b x,σ.m b=some x→b<σ.n
def LZ (σ:Hp)(K:Value→Hp→Prop)(h:Value)(σ1:Hp):Prop:= ∃ν σ' g,Weak σ σ1 h σ' g ν∧K g σ'
section
variable {P:Program} {f:FuncId} {S S':HE} {σ σ1:Hp} {K:Value→Hp→Prop}
theorem CK.lt (h:CK P f fun p σ K=>σ.Ok∧S p σ K):CK P f S:=by
 intro B μ σ w p s K D u C;refine h B μ σ w p s K ⟨fun b x E=> ?_,D⟩ u C;obtain⟨g,A,_⟩:=u.live b x E;rcases aB b σ.n with h1|h1
 ·exact h1
 ·rw[u.fresh b h1]at A;cases A
theorem CK.fin (h:CK P f S)(s: ∀g σ K,σ.Ok→S' g σ K→S g σ (LZ σ K)):CK P f S':=
 CK.lt (CK.weak h fun g σ K ⟨p,u⟩=>s g σ K p u)
theorem LZ.plain {r:Value}(h:Tq σ σ1)(p:σ.Ok)(A:Rn id σ.n r r)(u:K r σ):LZ σ K r σ1:=
 ⟨id,σ,r,⟨Nat.le_refl _,fun _ _=>rfl,fun _ _ _ _ _ _ s=>s,fun b C g=> .inl ⟨g,(h.2 b (p b C g)).trans g⟩,A⟩,u⟩
theorem LZ.all {r:Value}(C:σ.n≤σ1.n)(s:σ1.Ok)(D:Rn id σ1.n r r)(A: ∀b x,σ1.m b=some x→F2 (Rn id σ1.n) x.cells x.cells)(u:K r σ1):LZ σ K r σ1:=
 ⟨id,σ1,r,⟨C,fun _ _=>rfl,fun _ _ _ _ _ _ h=>h,fun b p g=> .inr ⟨s b p g,p,g,rfl,id,by rw[List.take_length];exact A b p g⟩,D⟩,u⟩
theorem LZ.new1 {r H:Value}{b:Nat}{x u:Blk}(h:Tq σ σ1)(C:σ.Ok)(hb:σ.n≤b)(X:σ1.m b=some x)(U:u.es=x.es)(V:u.own=true→x.own=true)(M:F2 (Rn (fun i=>if i=σ.n then b else i) (σ.n+1)) u.cells (x.cells.take u.cells.length))
  (W:Rn (fun i=>if i=σ.n then b else i) (σ.n+1) H r) (L:K H (σ.add u)):LZ σ K r σ1:=by
 refine⟨fun i=>if i=σ.n then b else i,σ.add u,H,⟨Nat.le_succ _,fun i J=>zF (by omega),fun i F y Z g E D=> ?_,fun i y g=> ?_,W⟩,L⟩
 ·have s: ∀i y,(σ.add u).m i=some y→i≠σ.n→i<σ.n:=by
   intro i y g J;simp only[Hp.add,zF J]at g;exact C i y g
  by_cases p:i=σ.n
  ·have A:F≠σ.n:=fun e=>D (p.trans e.symm)
   have:=s F Z E A;simp only[zE p,zF A];omega
  ·have:=s i y g p;by_cases A:F=σ.n
   ·simp only[zF p,zE A];omega
   ·simp only[zF p,zF A];exact D
 ·by_cases p:i=σ.n
  ·subst p;simp only[Hp.add,zE trivial]at g;injection g with g
   subst g;exact .inr ⟨Nat.lt_succ_self _,x,by simp only[zE trivial];exact X,U,V,M⟩
  ·simp only[Hp.add,zF p]at g;exact .inl ⟨g,(h.2 i (C i y g)).trans g⟩
end
section
variable {T:fU}
end
abbrev dn :=List Value→Hp→Value→Hp→Prop
def sp (S:dn):HE:=fun g σ K=> ∃r σ',S g σ r σ'∧K r σ'
abbrev RV :=FuncId→dn
def sps (U:RV):fU:=fun f=>sp (U f)
def PO (P:Program)(U:RV):Prop:= ∀f,CK P f (sps U f)
def RV.put (U:RV)(f:FuncId)(S:dn):RV:=fun g=>if g=f then S else U g
def aC2 :RV:=fun _ _ _ _ _=>False
theorem PO.none (P:Program):PO P aC2:=fun f B μ σ w p g K h=>by
 obtain⟨_,_,h,_⟩:=h;exact h.elim
theorem PO.put {P:Program}{U:RV}(h:PO P U){S:dn}(p:CK P f (sp S)):PO P (U.put f S):=by
 intro g;show CK P g (sp (if g=f then S else U g));by_cases e:g=f
 ·subst e;rw[zE rfl];exact p
 ·rw[zF e];exact h g
end
section
section
variable {T:fU} {Q:AExit→cf→Hp→Prop} {q:cf→Hp→Prop} {e:cf} {σ σ':Hp} {a b:AC} {k:Value→Hp→Prop} {v:Value} {K:Value→Hp→Prop}
theorem SQ {d t:Nat}(h:t≠d):(e.put d v) t=e t:=zF h
def Hp.load (σ:Hp):Value→Option Value
 | .pointer (some ⟨b,o,none⟩)=>match σ.m b with
  |some x=>x.cells[o]?
  |none=>none
 |_=>none
def Hp.loadN (σ:Hp)(n:Nat):Value→Option Value
 | .pointer (some ⟨b,o,none⟩)=>match σ.m b with
  |some x=>(pU x o n).map fun g=> .agg g.toArray
  |none=>none
 |_=>none
theorem run_load {x:Operand}:(AOp.load x).run e σ=(σ.load (e.ev x)).map fun v=>(v,σ):=by
 simp only[AOp.run];generalize e.ev x=v;cases v<;>try rfl
 rename_i p;rcases p with _|⟨b,o,sp⟩
 ·rfl
 ·cases sp with
  |some s=>rfl
  |none=>
   simp only[Hp.load];cases σ.m b<;>rfl
def Hp.store (σ:Hp)(n:Nat)(a x:Value):Option Hp:=match a with
 | .pointer (some ⟨b,o,none⟩)=>if(cellsOf x).length=n then(match σ.m b with
  |some g=>(wB g o (cellsOf x)).map fun y=>σ.set b (some y)
  |none=>none)else none
 |_=>none
theorem run_store {n:Nat}{x y:Operand}:(AOp.store n x y).run e σ=(σ.store n (e.ev x) (e.ev y)).map fun σ'=>(undef,σ'):=by
 simp only[AOp.run];generalize e.ev x=v;cases v<;>try rfl
 rename_i p;rcases p with _|⟨b,o,sp⟩
 ·rfl
 ·cases sp with
  |some s=>rfl
  |none=>
   simp only[Hp.store];by_cases h:(cellsOf (e.ev y)).length=n
   ·simp only[h,if_true];cases σ.m b with
    |none=>rfl
    |some g=>
     simp only;cases wB g o (cellsOf (e.ev y))<;>rfl
   ·simp only[h,if_false];rfl
def lenS :Value→Option Value
 | .slice _ n _=>some (.int .i64 n)
 |_=>none
end
end
section
def ak0 :fU:=fun _ _ _ _=>False
def fU.put (T:fU)(f:FuncId)(s:HE):fU:=fun g=>if g=f then s else T g
def Iz (s:HE):Prop:= ∀g σ (K K':Value→Hp→Prop),(∀r σ',K r σ'→K' r σ')→s g σ K→s g σ K'
structure Known (P:Program)(T:fU):Prop where
 mono:rV T
 sim: ∀f,CK P f (T f)
theorem Known.none (P:Program):Known P ak0:=⟨fun _ _ _ _ _ _ h=>h,fun f=>CK.none P f⟩
theorem Known.put {P:Program}(h:Known P T){s:HE}(D:Iz s)(E:CK P f s):Known P (T.put f s):=by
 constructor
 ·intro g A σ K K' C p;simp only[fU.put]at p⊢;split
  ·rename_i u;rw[zE u]at p;exact D _ _ _ _ C p
  ·rename_i u;rw[zF u]at p;exact h.mono _ _ _ _ _ C p
 ·intro g;show CK P g (if g=f then s else T g);by_cases e:g=f
  ·subst e;rw[zE rfl];exact E
  ·rw[zF e];exact h.sim g
theorem Iz.sp (S:dn):Iz (sp S):=fun _ _ _ _ p ⟨r,σ',g,h⟩=>⟨r,σ',g,p r σ' h⟩
theorem Iz.wpF (A:rV T)(a:AFn):Iz (wpF T a):=by
 intro p σ K K' u h;refine⟨h.1,fB A _ _ _ (fun x e s g=> ?_) _ _ h.2⟩;cases x with
 |exit id=>exact g
 |normal=>
  simp only at g⊢;split at g
  ·exact u _ _ g
  ·exact g
 |ret=>
  simp only at g⊢;split at g
  ·exact u _ _ g
  ·exact g
theorem Known.fn {P:Program}(h:Known P T)(g:Rx P f=some af):CK P f (wpF T af):=TL g h.mono h.sim
theorem Known.rel {P:Program}(s:Known P T){S:dn}(h:Rx P f=some af)
  (D: ∀g σ r σ',σ.Ok→S g σ r σ'→wpF T af g σ (LZ σ fun u σ1=>u=r∧σ1=σ')):CK P f (sp S):=by
 refine CK.fin (s.fn h) fun g σ K p E=> ?_
 obtain⟨r,σ',A,C⟩:=E;refine Iz.wpF s.mono af _ _ _ _ ?_ (D g σ r σ' p A);rintro u σ1 ⟨ν,J,H,F,rfl,rfl⟩;exact⟨ν,J,H,F,C⟩
section
variable {T:fU} {Q:AExit→cf→Hp→Prop} {e:cf} {σ:Hp} {b:AC} {I:cf→Hp→Prop} {m:cf→Hp→Nat} {e0:cf} {σ0:Hp}
end
section
variable {k:IntKind} {a b:Int}
end
section
variable {a b c d:Value} {l:List Value}
end
section
variable {σ:Hp} {x y:Blk} {i b o:Nat} {z:Option Blk}
theorem set_set {g:Option Blk}:(σ.set b z).set b g=σ.set b g:=by
 simp only[Hp.set,Hp.mk.injEq,and_true]
 funext i
 split<;>rfl
end
section
variable {e:cf} {σ:Hp} {rs:List ARes} {t n b o:Nat}
def RB (v:Option Value)(vs:Option (List Value)):Option (List Value):=match v,vs with
 |some v,some vs=>some (v::vs)
 |_,_=>none
end
section
variable {T:fU} {e:cf} {σ:Hp} {k:Value→Hp→Prop} {q:cf→Hp→Prop}
def al3 (n:Nat):Value→Option Value
 | .pointer (some ⟨b,o,none⟩)=>some (.pointer (some ⟨b,o+n,none⟩))
 |_=>none
def ai2 (es:Nat)(k:Value→Hp→Prop)(σ:Hp):Value→Value→Prop
 | .slice (some ⟨b,o,none⟩) n _, .int _ j=>(0≤j∧j<n)∧k (.pointer (some ⟨b,o+j.toNat*es,none⟩)) σ
 |_,_=>False
def TW (ln es:Nat)(k:Value→Hp→Prop)(σ:Hp):Value→Value→Prop
 | .pointer (some ⟨b,o,none⟩), .int _ j=>(0≤j∧j<ln)∧k (.pointer (some ⟨b,o+j.toNat*es,none⟩)) σ
 |_,_=>False
def fieldV (g n:Nat)(agg:Bool):Value→Option Value
 | .agg h=>if agg=true then some (.agg (h.extract g (g+n)))else h[g]?
 |_=>none
end
section
variable {T:fU} {q:cf→Hp→Prop} {r:List SItem} {e:cf} {σ:Hp} {i:Nat} {d:Option Nat} {kp:Bool} {is:List Nat} {chk:List (Nat×(Hp→Prop))}
end
end
section
def e0 :cf:=fun _=>undef
section
variable {T:fU} {e:cf} {σ:Hp} {k:Value→Hp→Prop}
end
section
variable {σ:Hp} {x:Blk} {i b:Nat} {z:Option Blk}
end
end
section
open IntKind renaming bits → bB, max → bD, min → cB, signed → cD
open List renaming getElem?_eq_none → aB, getElem?_eq_getElem → cK
open Nat renaming lt_or_ge → aD
open Option renaming map_some → cL
open Go.RowKit (Below)
structure Row where
 c:Nat
 o:Nat
 ext:Nat
 es:Nat
 cells:List Value
def PP (P:Program)(w:World):Prop:=P.globalNamed "internal/strconv.uint64pow10" ≠none→Lib.TabIs P w "internal/strconv.uint64pow10" .u64 Lib.pow10Tab
def Base.of {P:Program}(w:World)(A:PP P w):Base P:=⟨w.heap.size,fun b=>w.heap[b]?,fun D _ C p=>by
 have h:=A p;unfold Lib.TabIs World.var? at h⊢;cases u:P.globalNamed "internal/strconv.uint64pow10" with
 |none=>exact(p u).elim
 |some g=>
  simp only[u,zG]at h⊢
  have s:g<w.heap.size:=by
   rcases aD g w.heap.size with h'|h'
   ·exact h'
   ·rw[Array.getElem?_eq_none h']at h;cases h
  rw[C g s]
  exact h⟩
def mJ (rows:List Row):Mu:=fun i=>(rows[i]?).map fun r=>⟨r.c,r.o,r.ext,r.es,0,none⟩
def lT (g:Nat)(rows:List Row):Hp:={m:=fun i=>(rows[i]?).bind fun r=>if r.c<g then some ⟨r.cells,false,r.es⟩else none,n:=rows.length}
theorem aD3 {P:Program}(E:PP P w){rows:List Row}(h: ∀r∈rows,∀(i:Nat) (v:Value),r.cells[i]?=some v→∃v',w.cell? ⟨r.c,r.o+i,none⟩=some v'∧VR (mJ rows) v v'):
  R (Base.of w E) (mJ rows) (lT w.heap.size rows) w:=by
 refine⟨Nat.le_refl _,fun _ _=>rfl,fun b F=> ?_,fun b x p=> ?_,fun b L x U g M p _ _ C=> ?_,fun b x g _ u H _ _=>(by
  simp only[mJ]at u;cases s:rows[b]? with
  |none=>rw[s]at u;cases u
  |some r=>rw[s]at u;injection u with u;subst u;cases H)⟩
 ·simp only[mJ,aB F,Option.map_none]
 ·simp only[lT]at p;cases s:rows[b]? with
  |none=>rw[s]at p;cases p
  |some r=>
   rw[s,zG]at p;split at p
   ·rename_i A;injection p with p
    subst p;refine⟨⟨r.c,r.o,r.ext,r.es,0,none⟩,by simp only[mJ,s,cL],A,rfl,fun _ i v J=>h r (List.mem_of_getElem? s) i v J,fun _ C=>(by cases C),fun _ D=>(by cases D),fun D=>by cases D⟩
   ·cases p
 ·simp only[lT]at p;cases s:rows[b]? with
  |none=>rw[s]at p;cases p
  |some r=>
   rw[s,zG]at p;split at p
   ·injection p with p
    subst p;cases C
   ·cases p
theorem ao0 {g:Nat}{rows:List Row}:(lT g rows).Ok:=by
 intro b x p;rcases aD b rows.length with h|h
 ·exact h
 ·simp only[lT,aB h,Option.bind_none]at p;cases p
theorem aB6 {P:Program}{S:HE}(D:CK P f S)(u:PP P w){rows:List Row}{g:List Value}{cargs:Array Value}
  (s: ∀r∈rows,∀(i:Nat) (v:Value),r.cells[i]?=some v→∃v',w.cell? ⟨r.c,r.o+i,none⟩=some v'∧VR (mJ rows) v v')
  (p:F2 (VR (mJ rows)) g cargs.toList) (h:S g (lT w.heap.size rows) fun r _=>r= .bool true):
  Calls P f cargs w fun e w'=>e= .returned (.bool true)∧Below w.heap.size w w':=by
 refine(D _ _ _ w g cargs _ h (aD3 u s) p).2.mono fun x w' E=> ?_
 obtain⟨r,σ',F,H,rfl,rfl,_,_,C,A,_⟩:=E;cases C;exact⟨rfl,A⟩
def Sl (k:IntKind)(σ:Hp)(v:Value)(l:List Int):Prop:=
 (v= .slice none 0 0∧l=[])∨∃b c g,v= .slice (some ⟨b,0,none⟩) l.length c∧l.length≤c∧c≤maxLen∧b<σ.n∧(l≠[]→σ.m b=some ⟨(l++g).map (.int k),false,1⟩)
def Iy (k:IntKind)(w:World)(a:Option Addr)(len cap:Nat)(zs:List Int):Prop:=
 (a=none∧len=0∧cap=0∧zs=[])∨
 ∃x,a=some x∧len≤cap∧cap≤maxLen∧zs.length=cap∧(∀i,i<zs.length→w.cell? (x.add i)=some (.int k (zs.getD i 0)))∧∀n∈zs,(Lit.int k n).wf=true
def Hf (k:IntKind)(a:Option Addr)(cap:Nat)(zs:List Int):Row:=match a with
 |some x=>⟨x.block,x.off,cap,1,zs.map (.int k)⟩
 |none=>⟨0,0,0,1,[]⟩
def YH (k:Nat)(a:Option Addr)(len cap:Nat):Value:=match a with
 |some _=> .slice (some ⟨k,0,none⟩) len cap
 |none=> .slice none 0 0
section
variable {k:IntKind} {w:World} {a:Option Addr} {len cap:Nat} {zs:List Int} {rows:List Row} {j:Nat}
theorem Ov {x:Addr}(h:w.cell? x=some v):x.block<w.heap.size:=by
 unfold World.cell? at h;split at h
 ·rename_i g;exact(Array.getElem?_eq_some_iff.1 g).1
 ·cases h
theorem E9 {x:Addr}(h:w.cell? (x.add 0)=some v):x.spot=none:=by
 have:=World.cell?_spot h;simpa[Addr.add]using this
theorem yx {x:Addr}{i:Nat}(g:x.spot=none)(h:w.cell? (x.add i)=some v):w.cell? ⟨x.block,x.off+i,none⟩=some v:=by
 obtain⟨b,o,s⟩:=x;simp only at g;subst g
 have:(⟨b,o,none⟩:Addr).add i=⟨b,o+i,none⟩:=by
  simp only[Addr.add];split
  ·rename_i p;subst p;rfl
  ·rfl
 rwa [this]at h
theorem Iy.cells (h:Iy k w a len cap zs){i:Nat}(g:(Hf k a cap zs).cells[i]?=some v):
  ∃v',w.cell? ⟨(Hf k a cap zs).c,(Hf k a cap zs).o+i,none⟩=some v'∧VR (mJ rows) v v':=by
 rcases h with⟨rfl,rfl,rfl,rfl⟩|⟨x,rfl,u,A,D,s,C⟩
 ·simp[Hf]at g
 ·simp only[Hf]at g⊢;simp only[List.getElem?_map]at g
  have p:i<zs.length:=by
   rcases aD i zs.length with h|h
   ·exact h
   ·rw[aB h]at g;cases g
  rw[cK p,cL]at g;injection g with g
  subst g;refine⟨_,yx (E9 (s 0 (by omega))) (s i p), ?_⟩;have:zs.getD i 0=zs[i]:=by simp[List.getD,cK p]
  rw[this];exact .int _ _
theorem Iy.sl (h:Iy k w a len cap zs)(A:rows[j]?=some (Hf k a cap zs)):Sl k (lT w.heap.size rows) (YH j a len cap) (zs.take len):=by
 rcases h with⟨rfl,rfl,rfl,rfl⟩|⟨x,rfl,E,D,H,C,F⟩
 ·exact .inl ⟨rfl,by simp⟩
 ·have g:(zs.take len).length=len:=by rw[List.length_take];omega
  refine .inr ⟨j,cap,zs.drop len,by rw[g];rfl,by omega,D, ?_,fun u=> ?_⟩
  ·rcases aD j rows.length with h|h
   ·exact h
   ·rw[aB h]at A;cases A
  ·have p:0<zs.length:=by
    rcases Nat.eq_zero_or_pos zs.length with h|h
    ·rw[List.length_eq_zero_iff]at h;subst h;simp at u
    ·exact h
   have s:x.block<w.heap.size:=Ov (x:=⟨x.block,x.off+0,none⟩) (yx (E9 (C 0 p)) (C 0 p));simp only[lT,A,zG,Hf,zE s,List.take_append_drop]
theorem Iy.wf (h:Iy k w a len cap zs): ∀n∈zs.take len,(Lit.int k n).wf=true:=by
 rcases h with⟨rfl,rfl,rfl,rfl⟩|⟨x,rfl,u,A,C,s,p⟩
 ·simp
 ·exact fun n g=>p n (List.mem_of_mem_take g)
end
theorem aE8 {n:Int}(h:(Lit.int .i64 n).wf=true): -9223372036854775808≤n∧n≤9223372036854775807:=by
 simpa[Lit.wf,cB,bD,cD,bB]using h
theorem aE9 {n:Int}(h:(Lit.int .u64 n).wf=true):0≤n∧n≤18446744073709551615:=by
 simpa[Lit.wf,cB,bD,cD,bB]using h
theorem aL3 {n:Int}(h:(Lit.int .u8 n).wf=true):0≤n∧n≤255:=by
 simpa[Lit.wf,cB,bD,cD,bB]using h
end
end Go.Ab
namespace Go.V
open Go.Ab
open Option renaming some->O,none->Y
open Bool renaming true->Za,false->Zb
open Decidable renaming decide->Zc
section
open List renaming replicate -> bD
open Nat renaming beq -> aB, ble -> aD
open Option renaming none -> bB
inductive Sh where
 |int (k:IntKind)
 |bool
 |str
 |list (s:Sh)
 |pair (a b:Sh)
 deriving DecidableEq
@[reducible] def El :Sh->Type
 | .int _=>Int
 | .bool=>Bool
 | .str=>Zd
 | .list s=>List (El s)
 | .pair a b=>El a×El b
def Sh.w :Sh->Nat
 | .pair a b=>a.w+b.w
 |_=>1
inductive VV where
 |undef
 |bool (b:Bool)
 |int (k:IntKind) (n:Int)
 |str (l:Zd)
 |nilp
 |nils
 |nilf
 |ptr (k o:Nat)
 |pix (k o n i:Nat)
 |pel (k i o:Nat)
 |pin (s:Sh) (x:El s) (o:Nat)
 |lst (s:Sh) (l:List (El s))
 |tgt (s:Sh) (l:List (El s))
 |full (k:Nat)
 |part (k lo n:Nat)
 |it (k:Nat) (l:Zd)
 |bld (k:Nat)
 |fn (f:Nat) (a c:List VV)
 |agg (l:List VV)
 |tup (l:List VV)
inductive Blk where
 |dead
 |cells (es:Nat) (fz:Bool) (l:List VV)
 |arr (s:Sh) (fz:Bool) (l:List (El s))
abbrev ai :=List Blk
abbrev cj :=List VV
def kX :cj->Nat->VV
 |[],_=> .undef
 |v::_,0=>v
 |_::r,n+1=>kX r n
def qj :cj->Nat->VV->cj
 |[],0,v=>[v]
 |[],n+1,v=> .undef::qj [] n v
 |_::r,0,v=>v::r
 |a::r,n+1,v=>a::qj r n v
def putO (e:cj)(d:Option Nat)(v:VV):cj:=match d with
 |some d=>qj e d v
 |none=>e
def ae :ai->Nat->Blk
 |[],_=> .dead
 |b::_,0=>b
 |_::r,n+1=>ae r n
def kC :ai->Nat->Blk->ai
 |[],_,_=>[]
 |_::r,0,b=>b::r
 |a::r,n+1,b=>a::kC r n b
def nth {α:Type}:List α->Nat->Option α
 |[],_=>Y
 |v::_,0=>O v
 |_::r,n+1=>nth r n
def cu (s:ByteArray):Zd:=s.data.toList.map λb=>(b.toNat:Int)
def Jt :Value->VV
 | .bool b=> .bool b
 | .int k n=> .int k n
 | .string s=> .str (cu s)
 | .pointer Y=> .nilp
 | .slice Y 0 0=> .nils
 | .nilFunc=> .nilf
 |_=> .undef
def ofC :Value->VV
 | .agg g=> .agg (g.toList.map Jt)
 |v=>Jt v
def ev (e:cj):Operand->VV
 | .tmp t=>kX e t
 | .const v=>ofC v
 | .func f=> .fn f [] []
 | .global _=> .undef
def am8 :VV->Bool
 | .undef| .agg _| .tup _=>Zb
 |_=>Za
def mG :VV->List VV
 | .agg l=>l
 |v=>[v]
def dk :(s:Sh)->El s->List VV
 | .int k,n=>[.int k n]
 | .bool,b=>[.bool b]
 | .str,l=>[.str l]
 | .list s,l=>[.lst s l]
 | .pair a b,x=>dk a x.1++dk b x.2
def fh (s:Sh)(l:List (El s)):List VV:=l.flatMap (dk s)
def kW (g s:Sh)(x:El g):Option (El s):=if h:g=s then O (h▸x)else Y
def IG {α:Type}(f:List VV->Option (α×List VV)):Nat->List VV->Option (List α)
 |_,[]=>O []
 |0,_::_=>Y
 |n+1,v::l=>(f (v::l)).bind λp=>(IG f n p.2).bind λr=>O (p.1::r)
def Blk.frozen :Blk->Bool
 | .dead=>Za
 | .cells _ z _=>z
 | .arr _ z _=>z
def xp (s:Sh)(f:List VV->Option (El s×List VV)):Blk->Option (List (El s))
 | .dead=>Y
 | .arr h _ l=>kW (.list h) (.list s) l
 | .cells g _ l=>bif aB g s.w then IG f l.length l else Y
def Ed (S:ai)(s:Sh)(f:List VV->Option (El s×List VV)):VV->Option (List (El s))
 | .nils=>O []
 | .lst h l=>kW (.list h) (.list s) l
 | .full k=>xp s f (ae S k)
 | .part k g n=>(xp s f (ae S k)).bind λl=>O ((l.drop g).take n)
 |_=>Y
def OV (S:ai)(s:Sh)(f:List VV->Option (El s×List VV)):VV->Option (List (El s))
 | .full k=>bif (ae S k).frozen then Ed S s f (.full k)else Y
 | .part k g n=>bif (ae S k).frozen then Ed S s f (.part k g n)else Y
 |v=>Ed S s f v
def jP (S:ai):(s:Sh)->List VV->Option (El s×List VV)
 | .int k, .int g n::r=>bif Zc (g=k)then O (n,r)else Y
 | .bool, .bool b::r=>O (b,r)
 | .str, .str l::r=>O (l,r)
 | .list s,v::r=>(OV S s (jP S s) v).bind λl=>O (l,r)
 | .pair a b,l=>(jP S a l).bind λp=>(jP S b p.2).bind λq=>O ((p.1,q.1),q.2)
 |_,_=>Y
def Ud (S:ai)(s:Sh)(v:VV):Option (List (El s)):=Ed S s (jP S s) v
def Blk.freeze :Blk->Blk
 | .dead=> .dead
 | .cells g _ l=> .cells g Za l
 | .arr s _ l=> .arr s Za l
def fzv :Nat->ai->VV->ai
 |0,S,_=>S
 |n+1,S,v=>match v with
  | .full k=>(match ae S k with
   | .cells g _ l=>l.foldl (fzv n) (kC S k (.cells g Za l))
   |b=>kC S k b.freeze)
  | .part k _ _=>(match ae S k with
   | .cells g _ l=>l.foldl (fzv n) (kC S k (.cells g Za l))
   |b=>kC S k b.freeze)
  |_=>S
def Gm (S:ai)(l:List VV):ai:=l.foldl (fzv 3) S
def aA6 (S:ai):VV->ai
 | .full k=>(match ae S k with
  | .cells _ _ l=>Gm S l
  |_=>S)
 | .part k _ _=>(match ae S k with
  | .cells _ _ l=>Gm S l
  |_=>S)
 |_=>S
section
variable {β:Type}
def gd (b:Bool)(x:Option β):Option β:=cond b x Y
def ix (i:Int)(n:Nat):Option Nat:=cond (Zc (0<=i)&&Zc (i<n)) (O i.toNat) Y
def rd {α:Type}(l:List α)(i:Int):Option α:=cond (Zc (0<=i)) l[i.toNat]? Y
def YO (p:Bool):VV->VV->Option VV
 | .int k x, .int g y=>cond (Zc (k=g)) (O (.int k (cond p x y))) Y
 | .bool x, .bool y=>O (.bool (cond p x y))
 | .str x, .str y=>O (.str (cond p x y))
 |_,_=>Y
def Yu (p:Bool)(x y:VV)(S:ai)(k:VV->ai->Option β):Option β:=match YO p x y with
 |some v=>k v S
 |none=>cond p (k x S) (k y S)
def vU :IntKind->List VV->Option (Zd)
 |_,[]=>O []
 |k, .int g n::r=>cond (Zc (g=k)) ((vU k r).bind λl=>O (n::l)) Y
 |_,_=>Y
def Kx :List VV->Option (List Bool)
 |[]=>O []
 | .bool b::r=>(Kx r).bind λl=>O (b::l)
 |_=>Y
def Rp :List VV->Option (List (Zd))
 |[]=>O []
 | .str b::r=>(Rp r).bind λl=>O (b::l)
 |_=>Y
def Uq (S:ai)(k:VV->ai->Option β):List VV->Nat->Option β
 |[],_=>Y
 |v::r,i=>cond (aB i 0) (k v S) (Uq S k r (i-1))
def PV (cs:List VV)(i:Nat)(S:ai)(k:VV->ai->Option β):Option β:=match cs with
 | .int g n::r=>(match vU g r with
  |some l=>k (.int g ((n::l).getD i 0)) S
  |none=>Y)
 | .bool b::r=>(match Kx r with
  |some l=>k (.bool ((b::l).getD i Zb)) S
  |none=>Y)
 | .str b::r=>(match Rp r with
  |some l=>k (.str ((b::l).getD i [])) S
  |none=>Y)
 |cs=>Uq S k cs i
def LD (v:VV):List VV->Nat->Nat->Option (List VV)
 |[],_,_=>O []
 |c::r,i,j=>(YO (aB i j) v c).bind λx=>(LD v r i (j+1)).bind λl=>O (x::l)
def ao6 (cells:List VV)(o:Nat):List VV->List VV
 |[]=>cells
 |v::g=>ao6 (cells.set o v) (o+1) g
def IL (cells:List VV):List (Nat×Nat×VV)->Option (List VV)
 |[]=>O cells
 |(h,g,v)::p=>
  cond (aB (mG v).length g&&aD (h+g) cells.length&&(mG v).all am8) (IL (cells.take h++mG v++cells.drop (h+g)) p) Y
def AE (e:cj)(l:List (Nat×Nat×Operand)):List (Nat×Nat×VV):=l.map λ(o,s,x)=>(o,s,ev e x)
def oS (l:List VV):Bool:=l.all am8
def Np (S:ai)(n:Nat)(agg:Bool)(a:VV)(k:VV->ai->Option β):Option β:=
 let g (h:List VV) (o:Nat):Option β:=cond agg (gd (aD (o+n) h.length) (k (.agg ((h.drop o).take n)) S)) (match nth h o with
  |some v=>k v S
  |none=>Y)
 match a with
 | .ptr b o=>(match ae S b with
  | .cells _ _ l=>g l o
  |_=>Y)
 | .pix b o m i=>(match ae S b with
  | .cells _ _ l=>gd (!agg&&aD (o+m) l.length) (PV ((l.drop o).take m) i S k)
  |_=>Y)
 | .pel b i o=>(match ae S b with
  | .arr s _ l=>(l[i]?).bind λx=>g (dk s x) o
  |_=>Y)
 | .pin s x o=>g (dk s x) o
 |_=>Y
def Tf (S:ai)(a:VV)(cs:List VV)(k:ai->Option β):Option β:=match a with
 | .ptr b o=>(match ae S b with
  | .cells g Zb l=>gd (aD (o+cs.length) l.length) (k (kC S b (.cells g Zb (ao6 l o cs))))
  |_=>Y)
 | .pix b o m i=>(match ae S b,cs with
  | .cells g Zb l,[v]=>gd (aD (o+m) l.length) (match LD v ((l.drop o).take m) i 0 with
   |some h=>k (kC S b (.cells g Zb (l.take o++h++l.drop (o+m))))
   |none=>Y)
  |_,_=>Y)
 | .pel b i o=>(match ae (Gm S cs) b with
  | .arr s Zb l=>(l[i]?).bind λx=>(match jP (Gm S cs) s (ao6 (dk s x) o cs)with
   |some (y,[])=>gd (aD (o+cs.length) s.w) (k (kC (Gm S cs) b (.arr s Zb (l.set i y))))
   |_=>Y)
  |_=>Y)
 |_=>Y
def tH (k:IntKind)(f:BitVec k.bits->BitVec k.bits->BitVec k.bits)(x y:Int):Int:=k.wrap (f (BitVec.ofInt k.bits x) (BitVec.ofInt k.bits y)).toNat
def R3 (op:BinOp)(g:IntKind)(x y:Int)(k:VV->Option β):Option β:=match op with
 | .add=>k (.int g (g.wrap (x+y)))
 | .sub=>k (.int g (g.wrap (x-y)))
 | .mul=>k (.int g (g.wrap (x*y)))
 | .quo=>gd (Zc (y≠0)) (k (.int g (g.wrap (x.tdiv y))))
 | .rem=>gd (Zc (y≠0)) (k (.int g (x.tmod y)))
 | .and=>k (.int g (tH g (· &&& ·) x y))
 | .or=>k (.int g (tH g (· ||| ·) x y))
 | .xor=>k (.int g (tH g (· ^^^ ·) x y))
 | .andNot=>k (.int g (tH g (λa b=>a&&& ~~~b) x y))
 | .eql=>k (.bool (Zc (x=y)))
 | .neq=>k (.bool (Zc (x≠y)))
 | .lss=>k (.bool (Zc (x<y)))
 | .leq=>k (.bool (Zc (x<=y)))
 | .gtr=>k (.bool (Zc (y<x)))
 | .geq=>k (.bool (Zc (y<=x)))
 |_=>Y
def YR (op:BinOp)(g:IntKind)(x y:Int)(k:VV->Option β):Option β:=match op with
 | .shl=>gd (Zc (0<=y)) (k (.int g (g.wrap (x*2 ^ (min y.toNat g.bits)))))
 | .shr=>gd (Zc (0<=y)) (k (.int g (x.fdiv (2 ^ (min y.toNat g.bits)))))
 |_=>Y
def Bj (a b:Nat):Bool:=aD (a+b) 9223372036854775807
def aL0 (op:BinOp)(x y:Zd)(k:VV->Option β):Option β:=match op with
 | .add=>gd (Bj x.length y.length) (k (.str (x++y)))
 | .eql=>k (.bool (Zc (x=y)))
 | .neq=>k (.bool (Zc (x≠y)))
 |_=>Y
def ay7 (op:BinOp)(x y:VV)(k:VV->Option β):Option β:=match x,y with
 | .int g a, .int h b=>cond (vi op) (YR op g a b k) (cond (Zc (g=h)) (R3 op g a b k) Y)
 | .str a, .str b=>cond (vi op) Y (aL0 op a b k)
 |_,_=>Y
def X5 (g p:Bool):Bool:=cond g (!p) p
def Blk.live :Blk->Bool
 | .dead=>Zb
 |_=>Za
def K0 (S:ai):VV->Bool
 | .ptr k _=>(ae S k).live
 | .pix k _ _ _=>(ae S k).live
 | .pel k _ _=>(ae S k).live
 | .pin _ _ _=>Za
 |_=>Zb
def aA3 (S:ai):Nat->VV->VV->Option Bool
 |0, .bool a, .bool b=>O (a==b)
 |1, .nilp, .nilp=>O Za
 |1, .nilp,v=>cond (K0 S v) (O Zb) Y
 |1,v, .nilp=>cond (K0 S v) (O Zb) Y
 |2, .nils, .nils=>O Za
 |3, .nilf, .nilf=>O Za
 |3, .nilf, .fn _ _ _=>O Zb
 |3, .fn _ _ _, .nilf=>O Zb
 |_,_,_=>Y
def Vw :Nat->VV->VV->Option Bool
 |0, .bool a, .bool b=>O (a==b)
 |1, .int k a, .int g b=>cond (Zc (k=g)) (O (Zc (a=b))) Y
 |2, .str a, .str b=>O (Zc (a=b))
 |_,_,_=>Y
def My :List Nat->List VV->List VV->Option Bool
 |[],[],[]=>O Za
 |[k],[a],[b]=>Vw k a b
 |k::g,a::r,b::s=>(Vw k a b).bind λp=>(My g r s).bind λq=>O (p&&q)
 |_,_,_=>Y
def unK (op:UnOp)(x:VV)(k:VV->Option β):Option β:=match op,x with
 | .neg, .int g n=>k (.int g (g.wrap (0-n)))
 | .xor, .int g n=>k (.int g (g.wrap (BitVec.ofInt g.bits (if g.signed then-1 else g.max) ^^^ BitVec.ofInt g.bits n).toNat))
 | .not, .bool b=>k (.bool !b)
 |_,_=>Y
def GS :VV->Option Int
 | .int _ n=>O n
 |_=>Y
def lenOf (S:ai):VV->Option Nat
 | .nils=>O 0
 | .lst _ l=>O l.length
 | .full b=>(match ae S b with
  | .arr _ _ l=>O l.length
  | .cells g _ l=>O (l.length / g)
  | .dead=>Y)
 | .part b _ n=>cond (ae S b).live (O n) Y
 | .str l=>O l.length
 |_=>Y
def lC {α:Type}(l:List α)(h g:Int):List α:=(l.take g.toNat).drop h.toNat
def CR :Option VV->Option Int
 |none=>O 0
 |some v=>GS v
def wy (n:Nat):Option VV->Option Int
 |none=>O n
 |some v=>GS v
def ej (h g:Int)(n:Nat):Bool:=Zc (0<=h)&&Zc (h<=g)&&Zc (g<=n)
def Tc (S:ai)(es:Nat)(x:VV)(p h:Option VV)(k:VV->ai->Option β):Option β:=
 match lenOf S x with
 |none=>Y
 |some n=>match CR p,wy n h with
  |some a,O b=>(match x with
   | .nils=>gd (ej a b n) (k .nils S)
   | .lst s l=>gd (aB es s.w) (match p,h with
    |none,Y=>k (.lst s l) S
    |_,_=>gd (ej a b n) (k (.lst s (lC l a b)) S))
   | .full q=>(match ae S q with
    | .arr s _ _=>gd (aB es s.w) (gd (ej a b n) (k (.part q a.toNat (b.toNat-a.toNat)) S))
    | .cells g _ _=>gd (aB es g&&aD 1 es) (gd (ej a b n) (k (.part q a.toNat (b.toNat-a.toNat)) S))
    | .dead=>Y)
   | .part q o _=>(match ae S q with
    | .arr s _ _=>gd (aB es s.w) (gd (ej a b n) (k (.part q (o+a.toNat) (b.toNat-a.toNat)) S))
    | .cells g _ _=>gd (aB es g&&aD 1 es) (gd (ej a b n) (k (.part q (o+a.toNat) (b.toNat-a.toNat)) S))
    | .dead=>Y)
   |_=>Y)
  |_,_=>Y
def Ii (S:ai)(x:VV)(h g:Option VV)(k:VV->ai->Option β):Option β:=match x with
 | .str l=>(match CR h,wy l.length g with
  |some a,O b=>gd (ej a b l.length) (k (.str (lC l a b)) S)
  |_,_=>Y)
 |_=>Y
def Ih (S:ai)(es n:Nat)(x:VV)(p h:Option VV)(k:VV->ai->Option β):Option β:=match x with
 | .ptr b o=>(match ae S b with
  | .cells g Zb l=>(match CR p,wy n h with
   |some a,O c=>gd (aB es g&&aD 1 es&&aB (o % es) 0&&aD (o+n*es) l.length&&ej a c n&&Zc (a<n)) (k (.part b (o / es+a.toNat) (c.toNat-a.toNat)) S)
   |_,_=>Y)
  | .arr s Zb l=>(match CR p,wy n h with
   |some a,O c=>gd (aB es s.w&&aB o 0&&aD n l.length&&ej a c n&&Zc (a<n)) (k (.part b a.toNat (c.toNat-a.toNat)) S)
   |_,_=>Y)
  |_=>Y)
 |_=>Y
def aB4 :Value->Bool
 | .int .u8 n=>Zc (n=0)
 |_=>Zb
def Sd (es:Nat)(z:List Value):Bool:=aB es 1&&aD 20 z.length&&z.all aB4
def DW (es:Nat)(z:List Value):Blk:=cond (Sd es z) (.arr (.int .u8) Zb (bD z.length (0:Int))) (.cells es Zb (z.map Jt))
def al3 (S:ai)(n:Nat):VV->Option VV
 | .ptr b o=>cond (ae S b).live (O (.ptr b (o+n))) Y
 | .pel b i o=>cond (ae S b).live (O (.pel b i (o+n))) Y
 | .pin s x o=>O (.pin s x (o+n))
 | .pix b o m i=>cond (ae S b).live (cond (aB n 0) (O (.pix b o m i)) Y) Y
 |_=>Y
def ai2 (S:ai)(es:Nat)(x i:VV)(k:VV->ai->Option β):Option β:=match i with
 | .int _ i=>(match x with
  | .lst s l=>gd (aB es s.w) ((rd l i).bind λy=>k (.pin s y 0) S)
  | .full b=>(match ae S b with
   | .arr s _ l=>gd (aB es s.w) ((ix i l.length).bind λj=>k (.pel b j 0) S)
   | .cells g _ l=>gd (aB es g&&aD 1 es) ((ix i (l.length / es)).bind λj=>cond (aB es 1) (k (.pix b 0 l.length j) S) (k (.ptr b (j*es)) S))
   | .dead=>Y)
  | .part b o n=>(match ae S b with
   | .arr s _ _=>gd (aB es s.w) ((ix i n).bind λj=>k (.pel b (o+j) 0) S)
   | .cells g _ _=>gd (aB es g&&aD 1 es) ((ix i n).bind λj=>cond (aB es 1) (k (.pix b o n j) S) (k (.ptr b ((o+j)*es)) S))
   | .dead=>Y)
  |_=>Y)
 |_=>Y
def TW (S:ai)(ln es:Nat)(x i:VV)(k:VV->ai->Option β):Option β:=match x,i with
 | .ptr b o, .int _ i=>gd (ae S b).live ((ix i ln).bind λj=>cond (aB es 1) (k (.pix b o ln j) S) (k (.ptr b (o+j*es)) S))
 |_,_=>Y
def A7 (l:List VV)(a n:Nat):List VV:=(l.drop a).take n
def fV (n bytes:Nat):Bool:=Zc (n*bytes<=140737488355328)&&aD 1 bytes
inductive Base where
 |none
 |cells (es:Nat) (l:List VV)
 |arr (s:Sh) (l:List (El s))
def Ax (S:ai)(es:Nat):VV->Option (Base×Option Nat)
 | .nils=>O (.none,Y)
 | .full b=>(match ae S b with
  | .arr s Zb l=>cond (aB es s.w) (O (.arr s l,O b)) bB
  | .cells g Zb l=>cond (aB es g&&aD 1 es) (O (.cells es l,O b)) bB
  |_=>bB)
 | .part b 0 n=>(match ae S b with
  | .arr s Zb l=>cond (aB es s.w) (O (.arr s (l.take n),O b)) bB
  | .cells g Zb l=>cond (aB es g&&aD 1 es) (O (.cells es (l.take (n*es)),O b)) bB
  |_=>bB)
 |_=>bB
inductive More where
 |cells (l:List VV)
 |lst (s:Sh) (l:List (El s))
def ib (S:ai)(es:Nat):VV->Option More
 | .nils=>O (.cells [])
 | .lst s l=>cond (aB es s.w) (O (.lst s l)) Y
 | .str l=>cond (aB es 1) (O (.lst (.int .u8) l)) Y
 | .full b=>(match ae S b with
  | .arr s _ l=>cond (aB es s.w) (O (.lst s l)) Y
  | .cells g _ l=>cond (aB es g&&aD 1 es) (O (.cells l)) Y
  |_=>Y)
 | .part b o n=>(match ae S b with
  | .arr s _ l=>cond (aB es s.w) (O (.lst s ((l.drop o).take n))) Y
  | .cells g _ l=>cond (aB es g&&aD 1 es) (O (.cells ((l.drop (o*es)).take (n*es)))) Y
  |_=>Y)
 |_=>Y
def pS (S:ai):Option Nat->ai
 |none=>S
 |some b=>kC S b .dead
def UG (S:ai)(s:Sh)(l:List VV):Option (List (El s)):=IG (jP S s) l.length l
def Ql (S:ai)(bytes:Nat)(s:Sh)(kill:Option Nat)(a b:List (El s))(k:VV->ai->Option β):Option β:=
 gd (fV (a.length+b.length) bytes) (k (.full S.length) (pS S kill++[.arr s Zb (a++b)]))
def JE (S:ai)(es bytes:Nat)(A:Option (Base×Option Nat))(D:Option More)(k:VV->ai->Option β):Option β:=
 match A,D with
 |some (.arr s l,g),O (.lst E p)=>(kW (.list E) (.list s) p).bind λu=>Ql S bytes s g l u k
 |some (.arr s l,g),O (.cells h)=>(match ae (Gm S h) (g.getD 0)with
  | .arr _ Zb _=>(UG (Gm S h) s h).bind λu=>Ql (Gm S h) bytes s g l u k
  |_=>Y)
 |some (.cells _ l,g),O (.lst s p)=>(match ae (Gm S l) (g.getD 0)with
  | .cells _ Zb _=>(UG (Gm S l) s l).bind λC=>Ql (Gm S l) bytes s g C p k
  |_=>Y)
 |some (.none,g),O (.lst s p)=>Ql S bytes s g [] p k
 |some (.cells es l,g),O (.cells h)=>gd (fV ((l.length+h.length) / es) bytes&&oS h) (k (.full S.length) (pS S g++[.cells es Zb (l++h)]))
 |some (.none,g),O (.cells h)=>gd (fV (h.length / es) bytes&&aD 1 es&&oS h) (k (.full S.length) (pS S g++[.cells es Zb h]))
 |_,_=>Y
def Oq (S:ai)(es bytes:Nat)(x y:VV)(k:VV->ai->Option β):Option β:=JE S es bytes (Ax S es x) (ib S es y) k
def LM (S:ai):VV->Option (ai×Base)
 | .lst s l=>O (S, .arr s l)
 | .full q=>(match ae S q with
  | .arr s _ l=>O (kC S q (ae S q).freeze, .arr s l)
  |_=>Y)
 |_=>Y
def Pm (S:ai)(x g p:VV)(k:VV->ai->Option β):Option β:=match g,p with
 | .int _ h, .int _ m=>gd (Zc (h=m)) (match x with
  | .nils=>gd (Zc (h=0)) (k .nils S)
  |v=>(match LM S v with
   |some (S1, .arr s l)=>gd (ej 0 h l.length) (k (.tgt s (l.take h.toNat)) S1)
   |_=>Y))
 |_,_=>Y
def Tm (S:ai)(es bytes:Nat)(s:Sh)(l:List (El s))(u:Option More)(k:VV->ai->Option β):Option β:=match u with
 |some (.lst A p)=>(kW (.list A) (.list s) p).bind λg=>gd (aB es s.w&&aD 1 g.length) (Ql S bytes s Y l g k)
 |some (.cells h)=>(UG (Gm S h) s h).bind λg=>gd (aB es s.w&&aD 1 g.length) (Ql (Gm S h) bytes s Y l g k)
 |none=>Y
def Kk (S:ai)(es bytes:Nat)(x y:VV)(k:VV->ai->Option β):Option β:=match x with
 | .tgt s l=>Tm S es bytes s l (ib S es y) k
 |x=>Oq S es bytes x y k
def Nr (l:Zd)(i:Nat):Nat×Nat:=
 let h (k:Nat):Nat:=(l.getD (i+k) 0).toNat
 let g (k:Nat):Bool:=i+k<l.length&&h k / 64==2
 let p:=h 0
 if p<0x80 then(p,1)
 else if p / 32==6&&g 1 then
  let c:=(p % 32)*64+h 1 % 64
  if c≥0x80 then(c,2)else(Utf8.runeError,1)
 else if p / 16==14&&g 1&&g 2 then
  let c:=(p % 16)*4096+(h 1 % 64)*64+h 2 % 64
  if c≥0x800&&Utf8.valid c then(c,3)else(Utf8.runeError,1)
 else if p / 8==30&&g 1&&g 2&&g 3 then
  let c:=(p % 8)*262144+(h 1 % 64)*4096+(h 2 % 64)*64+h 3 % 64
  if c≥0x10000&&Utf8.valid c then(c,4)else(Utf8.runeError,1)
 else(Utf8.runeError,1)
def YK (l:Zd)(p:Int):Int:=((Nr l p.toNat).1:Nat)
def Rc (l:Zd)(p:Int):Int:=((p.toNat+(Nr l p.toNat).2:Nat):Int)
def LS (n:Int):Zd:=cu (Utf8.encode n)
def KC (n:Int):Int:=((UInt8.ofNat n.toNat).toNat:Nat)
def Yb (S:ai)(v:VV)(k:VV->ai->Option β):Option β:=match v with
 | .it q l=>(match ae S q with
  | .cells g Zb (.int .i64 p::r)=>gd (Zc (0<=p)&&aD 1 g) (cond (Zc (p<l.length)) (k (.tup [.bool Za, .int .i64 p, .int .i32 (YK l p)]) (kC S q (.cells g Zb (.int .i64 (Rc l p)::r)))) (k (.tup [.bool Zb]) S))
  |_=>Y)
 |_=>Y
def X3 (S:ai)(v:VV)(k:VV->ai->Option β):Option β:=match v with
 | .full q=>(match ae S q with
  | .cells _ Zb (_::_)=>k (.full q) S
  |_=>Y)
 |_=>Y
def Ti (S:ai)(v:VV)(k:VV->ai->Option β):Option β:=match v with
 | .str _=>Y
 |v=>(match ib S 1 v with
  |some (.lst s l)=>(kW (.list s) (.list (.int .u8)) l).bind λh=>k (.str (h.map KC)) S
  |some (.cells g)=>(vU .u8 g).bind λl=>k (.str (l.map KC)) S
  |none=>Y)
def YY (S:ai)(v:VV)(k:VV->ai->Option β):Option β:=match v with
 | .str _=>Y
 |v=>(match ib S 1 v with
  |some (.lst s l)=>(kW (.list s) (.list (.int .i32)) l).bind λh=>k (.str (h.flatMap LS)) S
  |some (.cells g)=>(vU .i32 g).bind λl=>k (.str (l.flatMap LS)) S
  |none=>Y)
def LB :Nat->Zd->Nat->Zd
 |0,_,_=>[]
 |b+1,l,i=>if i<l.length then(((Nr l i).1:Nat):Int)::LB b l (i+(Nr l i).2)else []
def Ga (l:Zd):Zd:=LB l.length l 0
def S8 (S:ai)(v:VV)(k:VV->ai->Option β):Option β:=match v with
 | .str l=>gd (aD l.length 70368744177664) (k (.full S.length) (S++[.arr (.int .i32) Zb (Ga l)]))
 |_=>Y
def A1 {α:Type}(l:List α)(o n:Nat)(m:List α):List α:=l.take o++(m.take n++l.drop (o+min n m.length))
def G4 (g:IntKind)(m:Zd):Nat->List VV->Option (List VV)
 |_,[]=>O []
 |j, .int k n::r=>cond (Zc (k=g)) ((G4 g m (j+1) r).bind λl=>O (.int k (m.getD j n)::l)) Y
 |_,_=>Y
def Xo (S:ai)(es:Nat)(d y:VV)(k:VV->ai->Option β):Option β:=
 let h (b o n:Nat):Option β:=match ae S b,ib S es y with
  | .arr s Zb l,O (.lst C A)=>(kW (.list C) (.list s) A).bind λg=>gd (aB es s.w) (k (.int .i64 (min g.length n:Nat)) (kC S b (.arr s Zb (A1 l o n g))))
  | .arr s Zb l,O (.cells p)=>(vU .u64 p).bind λm=>(kW (.list (.int .u64)) (.list s) m).bind λg=>gd (aB es s.w) (k (.int .i64 (min g.length n:Nat)) (kC S b (.arr s Zb (A1 l o n g))))
  | .cells 1 Zb l,O (.lst (.int u) m)=>gd (aB es 1&&aD (o+n) l.length) (match G4 u m 0 ((l.drop o).take n)with
   |some c=>k (.int .i64 (min m.length n:Nat)) (kC S b (.cells 1 Zb (l.take o++c++l.drop (o+n))))
   |none=>Y)
  |_,_=>Y
 match d with
 | .full b=>(match lenOf S d with
  |some n=>h b 0 n
  |none=>Y)
 | .part b o n=>h b o n
 |_=>Y
def IW :List Value->Option Sh
 |[.int k 0]=>O (.int k)
 |[.bool Zb]=>O .bool
 | .int k 0::r=>(IW r).bind λs=>O (.pair (.int k) s)
 | .bool Zb::r=>(IW r).bind λs=>O (.pair .bool s)
 |_=>Y
def tU :(s:Sh)->El s
 | .int _=>(0:Int)
 | .bool=>Zb
 | .str=>[]
 | .list _=>[]
 | .pair a b=>(tU a,tU b)
def X2 (S:ai)(es bytes:Nat)(z:List Value)(l c:VV)(k:VV->ai->Option β):Option β:=match l,c,IW z with
 | .int _ l, .int _ c,O s=>gd (aB es s.w&&Zc (0<=l)&&Zc (l<=c)&&Zc (bytes*c<=140737488355328)&&aD 1 bytes) (k (.full S.length) (S++[.arr s Zb (bD l.toNat (tU s))]))
 |_,_,_=>Y
def RK (es:Nat)(z:List Value)(l:Int):Option More:=match IW z with
 |some s=>cond (aB es s.w) (O (.lst s (bD l.toNat (tU s)))) Y
 |none=>Y
def lG (bytes:Nat)(l:Int):Bool:=Zc (0<=l)&&(Zc (l<=9223372036854775807)&&Zc (l*(bytes:Int)<=281474976710656))
def Kl (S:ai)(es bytes:Nat)(z:List Value)(x l:VV)(k:VV->ai->Option β):Option β:=match l with
 | .int _ l=>gd (lG bytes l) (JE S es bytes (Ax S es x) (RK es z l) k)
 |_=>Y
end
end
section
open List renaming replicate -> bB
open Nat renaming beq -> aB, ble -> aD
inductive Sk where
 |undef
 |leaf (s:Sh)
 |cint (k:IntKind) (n:Int)
 |nilp
 |nils
 |nilf
 |ptr (j o:Nat)
 |full (j:Nat)
 |pin (s:Sh) (o:Nat)
 |fn (f:Nat) (a c:List Sk)
 |agg (l:List Sk)
 |tup (l:List Sk)
inductive OSk where
 |dead
 |cells (es:Nat) (ro:Bool) (l:List Sk)
 |arr (ro:Bool) (s:Sh)
structure Leaf where
 s:Sh
 v:El s
structure Src where
 k:Nat
 cut:Option Nat
structure DSt where
 m:List (Option Src)
 ls:List Leaf
 lent:List Nat
def DSt.push (st:DSt)(s:Sh)(v:El s):DSt:={st with ls:=st.ls++[⟨s,v⟩]}
def DSt.lend (st:DSt):VV->DSt
 | .full k=>{st with lent:=k::st.lent}
 | .part k _ _=>{st with lent:=k::st.lent}
 |_=>st
def DSt.link (N:Nat)(st:DSt)(j:Nat)(x:Option Src):Option DSt:=
 cond (Nat.blt j N) (match x with
  |some ⟨k,Y⟩=>cond (aB k j) (O st) Y
  |_=>Y)
 (match nth st.m (j-N)with
 |some (O ⟨k,Y⟩)=>(match x with
  |some ⟨g,Y⟩=>cond (aB k g) (O st) Y
  |_=>Y)
 |some _=>Y
 |none=>cond (aB (j-N) st.m.length) (O {st with m:=st.m++[x]}) Y)
mutual
def HN (S:ai)(N:Nat):Sk->VV->DSt->Option DSt
 | .undef,_,st=>O st
 | .leaf s,v,st=>(match s,v with
  | .int k, .int k' n=>cond (Zc (k'=k)) (O (st.push (.int k) n)) Y
  | .bool, .bool b=>O (st.push .bool b)
  | .str, .str l=>O (st.push .str l)
  | .list s,v=>(Ud S s v).bind λl=>O ((st.lend v).push (.list s) l)
  |_,_=>Y)
 | .cint k n, .int k' n',st=>cond (Zc (k'=k)&&Zc (n'=n)) (O st) Y
 | .nilp, .nilp,st=>O st
 | .nils, .nils,st=>O st
 | .nilf, .nilf,st=>O st
 | .ptr j o, .ptr k o',st=>cond (aB o o') (st.link N j (O ⟨k,Y⟩)) Y
 | .full j,v,st=>(match v with
  | .full k=>st.link N j (O ⟨k,Y⟩)
  | .part k 0 n=>st.link N j (O ⟨k,O n⟩)
  | .nils=>st.link N j Y
  |_=>Y)
 | .pin s o, .pin s' x o',st=>cond (aB o o') ((kW s' s x).bind λy=>O (st.push s y)) Y
 | .fn f a c, .fn f' a' c',st=>cond (aB f f') ((FW S N a a' st).bind λst1=>FW S N c c' st1) Y
 | .agg l, .agg l',st=>FW S N l l' st
 | .tup l, .tup l',st=>FW S N l l' st
 |_,_,_=>Y
def FW (S:ai)(N:Nat):List Sk->List VV->DSt->Option DSt
 |[],[],st=>O st
 |k::r,v::r',st=>(HN S N k v st).bind λst1=>FW S N r r' st1
 |_,_,_=>Y
end
def KG {α:Type}:Option Nat->List α->List α
 |none,l=>l
 |some n,l=>l.take n
def Sn (S:ai)(N:Nat):OSk->Option Src->DSt->Option DSt
 | .dead,_,g=>O g
 | .cells C h l,O ⟨k,Y⟩,g=>(match ae S k with
  | .cells u D A=>cond (aB C u&&(h|| !D)) (FW S N l A (cond h {g with lent:=k::g.lent} g)) Y
  |_=>Y)
 | .arr h s,Y,g=>cond h Y (O (g.push (.list s) []))
 | .arr h s,O ⟨k,p⟩,g=>cond (h|| !(ae S k).frozen) ((Ud S s (.full k)).bind λl=>O ((cond h {g with lent:=k::g.lent} g).push (.list s) (KG p l))) Y
 |_,_,_=>Y
def HO (S:ai)(N:Nat):List OSk->List Nat->DSt->Option DSt
 |[],[],g=>O g
 |o::r,j::p,g=>(Sn S N o (O ⟨j,Y⟩) g).bind λh=>HO S N r p h
 |_,_,_=>Y
def tJ (S:ai)(N:Nat):List OSk->Nat->DSt->Option DSt
 |[],i,g=>cond (aB i g.m.length) (O g) Y
 |o::r,i,g=>(match nth g.m i with
  |some x=>(Sn S N o x g).bind λh=>tJ S N r (i+1) h
  |none=>Y)
def OSk.ro :OSk->Bool
 | .cells _ ro _=>ro
 | .arr ro _=>ro
 | .dead=>Zb
def kw (k:Nat):List Nat->Bool
 |[]=>Zb
 |a::r=>cond (aB a k) Za (kw k r)
def FE :List Nat->Bool
 |[]=>Za
 |a::r=>cond (kw a r) Zb (FE r)
def oj :List (Option Src)->List Nat
 |[]=>[]
 |none::r=>oj r
 |some x::r=>x.k::oj r
def jI :List OSk->List (Option Src)->List Nat
 |o::r,O x::s=>cond o.ro (jI r s) (x.k::jI r s)
 |_::r,Y::s=>jI r s
 |_,_=>[]
def Ca (w:List Nat)(l:List Nat):Bool:=w.all λk=> !kw k l
structure uE where
 vals:List Sk
 fix:List OSk
 free:List OSk
def mH (S:ai)(N:Nat)(fx:List Nat)(h:uE)(vals:List VV):Option DSt:=
 (FW S N h.vals vals ⟨[],[],[]⟩).bind λs=>(HO S N h.fix fx s).bind λp=>(tJ S N h.free 0 p).bind λg=>
  cond (FE (fx++oj g.m)&&Ca (fx++jI h.free g.m) g.lent) (O g) Y
mutual
def enc (f:Nat->Nat):Sk->List Leaf->Option (VV×List Leaf)
 | .undef,ls=>O (.undef,ls)
 | .leaf s,x::ls=>(kW x.s s x.v).bind λ(y:El s)=>O ((match s,y with
  | .int k,n=> .int k n
  | .bool,b=> .bool b
  | .str,l=> .str l
  | .list s,l=> .lst s l
  | .pair _ _,_=> .undef),ls)
 | .cint k n,ls=>O (.int k n,ls)
 | .nilp,ls=>O (.nilp,ls)
 | .nils,ls=>O (.nils,ls)
 | .nilf,ls=>O (.nilf,ls)
 | .ptr j o,ls=>O (.ptr (f j) o,ls)
 | .full j,ls=>O (.full (f j),ls)
 | .pin s o,x::ls=>(kW x.s s x.v).bind λ(y:El s)=>O (.pin s y o,ls)
 | .fn g a c,ls=>(Mw f a ls).bind λp=>(Mw f c p.2).bind λq=>O (.fn g p.1 q.1,q.2)
 | .agg l,ls=>(Mw f l ls).bind λp=>O (.agg p.1,p.2)
 | .tup l,ls=>(Mw f l ls).bind λp=>O (.tup p.1,p.2)
 |_,_=>Y
def Mw (f:Nat->Nat):List Sk->List Leaf->Option (List VV×List Leaf)
 |[],ls=>O ([],ls)
 |k::r,ls=>(enc f k ls).bind λp=>(Mw f r p.2).bind λq=>O (p.1::q.1,q.2)
end
def Mx (f:Nat->Nat):OSk->List Leaf->Option (Blk×List Leaf)
 | .dead,g=>O (.dead,g)
 | .cells u h l,g=>(Mw f l g).bind λp=>O (.cells u h p.1,p.2)
 | .arr h s,x::g=>(kW x.s (.list s) x.v).bind λl=>O (.arr s h l,g)
 | .arr _ _,[]=>Y
def CM (f:Nat->Nat):List OSk->List Leaf->Option (List Blk×List Leaf)
 |[],g=>O ([],g)
 |o::r,g=>(Mx f o g).bind λp=>(CM f r p.2).bind λq=>O (p.1::q.1,q.2)
def pP (f:Nat->Nat)(g:uE)(ls:List Leaf):Option (List VV×List Blk×List Blk):=
 (Mw f g.vals ls).bind λp=>(CM f g.fix p.2).bind λq=>(CM f g.free q.2).bind λr=>match r.2 with
  |[]=>O (p.1,q.1,r.1)
  |_::_=>Y
mutual
def Sk.shs :Sk->List Sh
 | .leaf s=>[s]
 | .pin s _=>[s]
 | .fn _ a c=>Tb a++Tb c
 | .agg l=>Tb l
 | .tup l=>Tb l
 |_=>[]
def Tb :List Sk->List Sh
 |[]=>[]
 |k::r=>k.shs++Tb r
end
def OSk.shs :OSk->List Sh
 | .dead=>[]
 | .cells _ _ l=>Tb l
 | .arr _ s=>[.list s]
def aD7 :List OSk->List Sh
 |[]=>[]
 |o::r=>o.shs++aD7 r
def uE.shs (g:uE):List Sh:=Tb g.vals++(aD7 g.fix++aD7 g.free)
@[reducible] def Dq :List Sh->Type
 |[]=>Unit
 |[s]=>El s
 |s::g::r=>El s×Dq (g::r)
def Ru :(h:List Sh)->Dq h->List Leaf
 |[],_=>[]
 |[s],x=>[⟨s,x⟩]
 |s::g::r,x=>⟨s,x.1⟩::Ru (g::r) x.2
def PB :(p:List Sh)->List Leaf->Option (Dq p)
 |[],[]=>O ()
 |[s],[x]=>kW x.s s x.v
 |s::h::r,x::g=>(kW x.s s x.v).bind λa=>(PB (h::r) g).bind λb=>O (a,b)
 |_,_=>Y
inductive XK where
 |normal
 |exit (id:Nat)
 |ret
structure Alt where
 x:XK
 ts:List Nat
 sk:uE
@[reducible] def Alt.Ty (a:Alt):Type:=Dq a.sk.shs
@[reducible] def uG :List Alt->Type
 |[]=>Empty
 |[a]=>a.Ty
 |a::b::r=>a.Ty⊕uG (b::r)
def bc {α γ β:Type}(s:α⊕γ)(f:α->Option β)(g:γ->Option β):Option β:=match s with
 | .inl a=>f a
 | .inr b=>g b
def W2 {β:Type}:(l:List Alt)->uG l->((a:Alt)->a.Ty->Option β)->Option β
 |[],_,_=>Y
 |[a],t,k=>k a t
 |a::b::r,s,k=>bc s (λt=>k a t) λg=>W2 (b::r) g k
def uE.noRo (g:uE):Bool:=g.fix.all (λo=> !o.ro)&&g.free.all λo=> !o.ro
def KJ (S:ai)(N:Nat)(fx:List Nat)(g:uE)(vals:List VV):Option (Dq g.shs):=
 gd g.noRo ((mH S N fx g vals).bind λh=>PB g.shs h.ls)
def uE.fxRo (g:uE):Bool:=g.fix.all λo=> !o.ro
def TJ (S:ai)(N:Nat)(fx:List Nat)(g:uE)(vals:List VV):Option (Dq g.shs):=
 gd g.fxRo ((mH S N fx g vals).bind λh=>PB g.shs h.ls)
def wx (S:ai)(N:Nat)(fx:List Nat)(vals:List Nat->List VV)(g:XK->Bool):(l:List Alt)->Option (uG l)
 |[]=>Y
 |[a]=>cond (g a.x) (KJ S N fx a.sk (vals a.ts)) Y
 |a::b::r=>match cond (g a.x) (KJ S N fx a.sk (vals a.ts)) Y with
  |some t=>O (.inl t)
  |none=>(wx S N fx vals g (b::r)).bind λs=>O (.inr s)
def Sh.al :Sh->Bool
 | .list _=>Za
 | .pair a b=>a.al||b.al
 |_=>Zb
mutual
def alV :VV->Bool
 | .lst _ _=>Za
 | .tgt _ _=>Za
 | .pin _ _ _=>Za
 | .fn _ a c=>Om a||Om c
 | .agg l=>Om l
 | .tup l=>Om l
 |_=>Zb
def Om :List VV->Bool
 |[]=>Zb
 |v::r=>alV v||Om r
end
def alB :Blk->Bool
 | .dead=>Zb
 | .cells _ _ l=>Om l
 | .arr s _ _=>s.al
def CL (vs:List VV)(fs bs:List Blk):Bool:=Om vs||fs.any alB||bs.any alB
def Blk.may :Blk->Bool
 | .dead=>Za
 | .cells _ z _=> !z
 | .arr _ z _=> !z
def Ju (S:ai)(fx:List Nat):Bool:=fx.all λj=>Nat.blt j S.length&&(ae S j).may
structure FSum where
 f:Nat
 vals:List Sk
 objs:List OSk
 outs:List Alt
 run:Dq (uE.shs ⟨vals,[],objs⟩)->Option (uG outs)
def FSum.ins (F:FSum):uE:=⟨F.vals,[],F.objs⟩
def tO :List OSk->Nat->List Nat
 |[],_=>[]
 |o::r,i=>cond o.ro (tO r (i+1)) (i::tO r (i+1))
def wu (m:List (Option Src))(n g j:Nat):Nat:=cond (Nat.blt j n) (match nth m j with
 |some (O x)=>x.k
 |_=>g) (g+(j-n))
def vZ :List Nat->List Blk->ai->Option ai
 |[],[],S=>O S
 |j::h,b::g,S=>vZ h g (kC S j b)
 |_,_,_=>Y
def XC :Sk->VV->ai->ai
 | .leaf (.list (.list _)),v,S=>aA6 S v
 |_,_,S=>S
def D9 :List Sk->List VV->ai->ai
 |k::r,v::g,S=>D9 r g (XC k v S)
 |_,_,S=>S
def CP :List Nat->ai->ai
 |[],S=>S
 |k::r,S=>CP r (kC S k (ae S k).freeze)
def as6 {β:Type}(F:FSum)(t:Dq F.ins.shs)(st:DSt)(S:ai)(k:VV->ai->Option β):Option β:=
 (F.run t).bind λo=>W2 F.outs o λa u=>match pP (wu st.m F.objs.length S.length) a.sk (Ru a.sk.shs u)with
  |some ([v],h,g)=>(match vZ (jI F.objs st.m) h (cond (CL [v] h g) (CP st.lent S) S)with
   |some S'=>k v (S'++g)
   |none=>Y)
  |_=>Y
def Ni :List (Option Src)->Bool
 |[]=>Za
 |some ⟨_,Y⟩::r=>Ni r
 |_=>Zb
def KF {β:Type}:List FSum->Nat->List VV->ai->(VV->ai->Option β)->Option β
 |[],_,_,_,_=>Y
 |F::r,f,g,S,k=>cond (aB F.f f) (match mH (D9 F.vals g S) 0 [] F.ins g with
  |some h=>(match PB F.ins.shs h.ls with
   |some t=>gd (Ni h.m&&Ju (D9 F.vals g S) (jI F.objs h.m)) (as6 F t h (D9 F.vals g S) k)
   |none=>KF r f g S k)
  |none=>KF r f g S k) (KF r f g S k)
structure Inl where
 f:Nat
 run:(β:Type)->List VV->ai->(VV->ai->Option β)->Option β
structure Tab where
 fs:List FSum
 is:List Inl
def ah6 :List Inl->Nat->Bool
 |[],_=>Zb
 |I::r,f=>cond (aB I.f f) Za (ah6 r f)
def TD {β:Type}:List Inl->Nat->List VV->ai->(VV->ai->Option β)->Option β
 |[],_,_,_,_=>Y
 |I::r,f,g,S,k=>cond (aB I.f f) (I.run β g S k) (TD r f g S k)
def TE {β:Type}(tab:Tab)(f:Nat)(g:List VV)(S:ai)(k:VV->ai->Option β):Option β:=
 cond (ah6 tab.is f) (TD tab.is f g S k) (KF tab.fs f g S k)
def Kt :Nat->List Nat
 |0=>[]
 |n+1=>n::Kt n
def Wi {β:Type}(S:ai)(x:Option VV)(k:VV->ai->Option β):Option β:=match x with
 |some v=>k v S
 |none=>Y
def HU {β:Type}(tab:Tab)(op:AOp)(e:cj)(S:ai)(k:VV->ai->Option β):Option β:=match op with
 | .move x=>k (ev e x) S
 | .pick c a b=>(match ev e c with
  | .bool p=>Yu p (ev e a) (ev e b) S k
  |_=>Y)
 | .alloc g z=>gd (aD 1 g) (k (.ptr S.length 0) (S++[DW g z]))
 | .box g x=>gd (aD 1 g&&oS (mG (ev e x))) (k (.ptr S.length 0) (S++[.cells g Zb (mG (ev e x))]))
 | .build z H=>(match IL (z.map Jt) (AE e H)with
  |some u=>k (.agg u) S
  |none=>Y)
 | .buildSlice g D z H=>(match IL ((bB D (z.map Jt)).flatten) (AE e H)with
  |some u=>gd (oS u&&aB (D*g) u.length&&aD 1 g) (k (.full S.length) (S++[.cells g Zb u]))
  |none=>Y)
 | .load x=>Np S 1 Zb (ev e x) k
 | .loadN n x=>Np S n Za (ev e x) k
 | .store n a x=>gd (aB (mG (ev e x)).length n&&oS (mG (ev e x))) (Tf S (ev e a) (mG (ev e x)) λS'=>k .undef S')
 | .nilCheck x=>(match ev e x with
  | .fn f a c=>k (.fn f a c) S
  |v=>gd (K0 S v) (k v S))
 | .bin op x y=>ay7 op (ev e x) (ev e y) λv=>k v S
 | .eqv A E x y=>(match aA3 S A (ev e x) (ev e y)with
  |some b=>k (.bool (X5 E b)) S
  |none=>Y)
 | .eqCells E L x y=>(match ev e x,ev e y with
  | .agg a, .agg b=>(match My L a b with
   |some p=>k (.bool (X5 E p)) S
   |none=>Y)
  |_,_=>Y)
 | .un op x=>unK op (ev e x) λv=>k v S
 | .conv A x=>(match GS (ev e x)with
  |some n=>k (.int A (A.wrap n)) S
  |none=>Y)
 | .mkFunc f a c=>k (.fn f (a.map (ev e)) (c.map (ev e))) S
 | .makeSlice g h z l c=>X2 S g h z (ev e l) (ev e c) k
 | .slice g x F C=>Tc S g (ev e x) (F.map (ev e)) (C.map (ev e)) k
 | .sliceStr x F C=>Ii S (ev e x) (F.map (ev e)) (C.map (ev e)) k
 | .sliceArr g n x F C=>Ih S g n (ev e x) (F.map (ev e)) (C.map (ev e)) k
 | .off n x=>Wi S (al3 S n (ev e x)) k
 | .idx g x i=>ai2 S g (ev e x) (ev e i) k
 | .idxA D g x i=>TW S D g (ev e x) (ev e i) k
 | .fieldV o n agg x=>(match ev e x with
  | .agg u=>cond agg (k (.agg (A7 u o n)) S) (Wi S (nth u o) k)
  |_=>Y)
 | .indexV D g agg x i=>(match ev e x,ev e i with
  | .agg u, .int _ i=>(ix i D).bind λj=>cond agg (k (.agg (A7 u (j*g) g)) S) (gd (aB g 1&&aB u.length D) (PV u j S k))
  |_,_=>Y)
 | .indexS x i=>(match ev e x,ev e i with
  | .str l, .int _ i=>(rd l i).bind λb=>k (.int .u8 b) S
  |_,_=>Y)
 | .extract x i=>(match ev e x with
  | .tup U=>Wi S (nth U i) k
  |_=>Y)
 | .call f J=>TE tab f (J.map (ev e)) S k
 | .callv x J=>(match ev e x with
  | .fn f a c=>TE tab f (a++J.map (ev e)++c) S k
  |_=>Y)
 | .append g h s x=>Kk S g h (ev e s) (ev e x) k
 | .stuck=>Y
 | .range x=>(match ev e x with
  | .str l=>k (.it S.length l) (S++[.cells 1 Zb [.int .i64 0]])
  |_=>Y)
 | .next x=>Yb S (ev e x) k
 | .newB=>k (.bld S.length) (S++[.cells 1 Zb [.str []]])
 | .encR x=>(match GS (ev e x)with
  |some n=>k (.str (LS n)) S
  |none=>Y)
 | .strOf x=>Ti S (ev e x) k
 | .strOfR x=>YY S (ev e x) k
 | .runesOf x=>S8 S (ev e x) k
 | .mark x=>X3 S (ev e x) k
 | .capN x=>(match ev e x with
  | .nils=>k (.int .i64 0) S
  |_=>Y)
 | .sliceX x C M=>Pm S (ev e x) (ev e C) (ev e M) k
 | .appendZ g h z s x=>Kl S g h z (ev e s) (ev e x) k
 | .copy g d s=>Xo S g (ev e d) (ev e s) k
 | .len x=>(match ev e x with
  | .str _=>Y
  |v=>(match lenOf S v with
   |some n=>k (.int .i64 n) S
   |none=>Y))
 | .lenS x=>(match ev e x with
  | .str l=>k (.int .i64 l.length) S
  |_=>Y)
 | .lenC n=>k (.int .i64 n) S
 | .most x y=>(match ev e x,ev e y with
  | .int A a, .int _ b=>k (.int A (max a b)) S
  |_,_=>Y)
 | .least x y=>(match ev e x,ev e y with
  | .int A a, .int _ b=>k (.int A (min a b)) S
  |_,_=>Y)
section
variable (tab:Tab)
def D5 {β:Type}:List AOper->cj->ai->(cj->ai->Option β)->Option β
 |[],e,S,k=>k e S
 |o::r,e,S,k=>match o.guard with
  |none=>HU tab o.op e S λv S'=>D5 r (putO e o.dst v) S' k
  |some (t,w)=>match kX e t with
   | .bool p=>cond p
    (cond w (HU tab o.op (qj e t (.bool Za)) S λv S'=>D5 r (putO (qj e t (.bool Za)) o.dst v) S' k) (D5 r (putO (qj e t (.bool Za)) o.dst (.tup [])) S k))
    (cond w (D5 r (putO (qj e t (.bool Zb)) o.dst (.tup [])) S k) (HU tab o.op (qj e t (.bool Zb)) S λv S'=>D5 r (putO (qj e t (.bool Zb)) o.dst v) S' k))
   | .tup []=>D5 r (putO e o.dst (.tup [])) S k
   |_=>Y
def vL :VV->Option Nat
 | .ptr b _=>O b
 | .it b _=>O b
 | .bld b=>O b
 | .pix b _ _ _=>O b
 | .pel b _ _=>O b
 | .full b=>O b
 | .part b _ _=>O b
 |_=>Y
def W5 (S:ai)(v:VV):Option (Option Nat):=match v with
 | .pin _ _ _| .lst _ _| .nils=>O Y
 |v=>(match vL v with
  |some b=>cond (ae S b).live (O (O b)) Y
  |none=>Y)
def Vb (S:ai)(op:AOp)(e:cj):Option (Option Nat):=match op with
 | .load x| .loadN _ x| .sliceArr _ _ x _ _| .slice _ x _ _=>W5 S (ev e x)
 |_=>Y
def Wh :Option Nat->List Nat
 |some b=>[b]
 |none=>[]
def uH :List FSum->Nat->List VV->ai->List Nat
 |[],_,_,_=>[]
 |F::r,f,g,S=>cond (aB F.f f) (match mH (D9 F.vals g S) 0 [] F.ins g with
  |some h=>(match PB F.ins.shs h.ls with
   |some _=>jI F.objs h.m
   |none=>uH r f g S)
  |none=>uH r f g S) (uH r f g S)
def OG (f:Nat)(g:List VV)(S:ai):List Nat:=cond (ah6 tab.is f) (Kt S.length) (uH tab.fs f g S)
def GM (op:AOp)(e:cj)(S:ai):List Nat:=match op with
 | .store _ a _=>Wh (vL (ev e a))
 | .append _ _ s _=>Wh (vL (ev e s))
 | .appendZ _ _ _ s _=>Wh (vL (ev e s))
 | .copy _ d _=>Wh (vL (ev e d))
 | .next x=>Wh (vL (ev e x))
 | .call f g=>OG tab f (g.map (ev e)) S
 | .callv x g=>(match ev e x with
  | .fn f a c=>OG tab f (a++g.map (ev e)++c) S
  |_=>[])
 |_=>[]
abbrev Fs :=List (Nat×Option (Option Nat)×(ai->Bool))
def JA (d:List Nat):Fs->Fs
 |[]=>[]
 |(i,O (O b),f)::r=>(i,cond (kw b d) Y (O (O b)),f)::JA d r
 |x::r=>x::JA d r
def pV (is:List Nat):Fs->Bool
 |[]=>Za
 |(i,b,_)::r=>cond (kw i is) (match b with
  |some _=>pV is r
  |none=>Zb) (pV is r)
def Bf (S:ai)(is:List Nat):Fs->Bool
 |[]=>Za
 |(i,b,f)::r=>cond (kw i is) (match b with
  |some _=>Bf S is r
  |none=>cond (f S) (Bf S is r) Zb) (Bf S is r)
def aA2 :VV->VV->Bool
 | .int k n, .int g h=>Zc (k=g)&&Zc (n=h)
 | .bool a, .bool b=>Zc (a=b)
 | .str a, .str b=>Zc (a=b)
 | .nilp, .nilp=>Za
 | .nils, .nils=>Za
 |_,_=>Zb
def O8 (tab:Tab)(op:AOp)(e:cj)(v:VV)(S:ai):Bool:=match HU tab op e S λg _=>O (aA2 v g)with
 |some b=>b
 |none=>Zb
def HT {β:Type}(it:SItem)(chk:Fs)(e:cj)(S:ai)(k:Fs->cj->ai->Option β):Option β:=
 cond it.mover (HU tab it.o.op e S λv S'=>gd (Bf S' it.chks (JA (GM tab it.o.op e S) chk)) (k (JA (GM tab it.o.op e S) chk) (putO e it.o.dst v) S'))
  (gd (it.o.op.still&&(!it.keep||it.o.op.isLoad)) (HU tab it.o.op e S λv S'=>k (cond it.keep ((it.idx,Vb S it.o.op e,O8 tab it.o.op e v)::chk) chk) (putO e it.o.dst v) S'))
def tL {β:Type}:List SItem->Fs->cj->ai->(cj->ai->Option β)->Option β
 |[],_,e,S,k=>k e S
 |it::r,chk,e,S,k=>match it.o.guard with
  |none=>HT tab it chk e S λg h S'=>tL r g h S' k
  |some (t,w)=>match kX e t with
   | .bool p=>cond p
    (cond w (HT tab it chk (qj e t (.bool Za)) S λg h S'=>tL r g h S' k) (tL r chk (putO (qj e t (.bool Za)) it.o.dst (.tup [])) S k))
    (cond w (tL r chk (putO (qj e t (.bool Zb)) it.o.dst (.tup [])) S k) (HT tab it chk (qj e t (.bool Zb)) S λg h S'=>tL r g h S' k))
   | .tup []=>tL r chk (putO e it.o.dst (.tup [])) S k
   |_=>Y
end
structure LItem where
 i:Nat
 kind:Nat
 chks:List Nat
 need:List Nat
def az (g:List (AOper×List Nat))(i:Nat):AOper:=match g[i]? with
 |some (o,_)=>o
 |none=>⟨Y, .lenC 0,Y⟩
def Uz :VV->Bool
 | .int _ _| .bool _| .str _=>Za
 |_=>Zb
def Uy :Value->Bool
 | .int _ _| .bool _| .string _=>Za
 |_=>Zb
def yD {β:Type}(op:AOp)(e:cj)(k:Blk->Bool->Option β):Option β:=match op with
 | .alloc h z=>gd (aD 1 h) (k (DW h z) Zb)
 | .makeSlice h g z l c=>(match ev e l,ev e c,IW z with
  | .int _ l, .int _ c,O s=>gd (aB h s.w&&Zc (0<=l)&&Zc (l<=c)&&Zc (g*c<=140737488355328)&&aD 1 g) (k (.arr s Zb (bB l.toNat (tU s))) Za)
  |_,_,_=>Y)
 | .buildSlice h u z A=>(match IL ((bB u (z.map Jt)).flatten) (AE e A)with
  |some p=>gd (oS p&&aB (u*h) p.length&&aD 1 h&&p.all Uz&&z.all Uy) (k (.cells h Zb p) Za)
  |none=>Y)
 |_=>Y
def vvF (w:Bool)(k:Nat):VV:=cond w (.full k) (.ptr k 0)
def qE (e:cj):List Nat->cj
 |[]=>e
 |t::g=>qj (qE e g) t .undef
def tP (g:List (AOper×List Nat)):List Nat->List Nat
 |[]=>[]
 |i::r=>(match(az g i).dst with
  |some d=>[d]
  |none=>[])++tP g r
def as5 (n:Nat):Option (Option Nat)->Bool
 |some (O q)=>aB q n
 |_=>Zb
section
variable (tab:Tab)
def evG {β:Type}(h:List (AOper×List Nat))(n:Nat):List Nat->cj->ai->Option β->Option β
 |[],_,_,z=>z
 |i::g,e,S,z=>gd ((az h i).op.still&&(!(az h i).op.isLoad||as5 n (Vb S (az h i).op e))) (HU tab (az h i).op e S λv S'=>evG h n g (putO e (az h i).dst v) S' z)
def CN {β:Type}(g:List (AOper×List Nat)):List LItem->Fs->cj->ai->(cj->ai->Option β)->Option β
 |[],_,e,S,k=>k e S
 |it::r,chk,e,S,k=>
  cond (aB it.kind 3) (yD (az g it.i).op e λ_ _=>CN g r chk e S k)<|
  cond (aB it.kind 2) (yD (az g it.i).op e λh w=>CN g r chk (putO e (az g it.i).dst (vvF w S.length)) (S++[h]) k)
  (cond (aB it.kind 1)
   (HU tab (az g it.i).op e S λv S'=>gd (pV it.chks (JA (GM tab (az g it.i).op e S) chk)&&pV it.need (JA (GM tab (az g it.i).op e S) chk)) (CN g r (JA (GM tab (az g it.i).op e S) chk) (putO e (az g it.i).dst v) S' k))
   (cond (aB it.kind 5) (yD (az g it.i).op (qE e (tP g it.chks)) λh w=>evG tab g S.length it.chks (putO (qE e (tP g it.chks)) (az g it.i).dst (vvF w S.length)) (S++[h]) (CN g r chk (qE e (tP g it.chks)) S k))<|
   gd (az g it.i).op.still (HU tab (az g it.i).op e S λv S'=>gd (pV it.need (cond (az g it.i).op.isLoad ((it.i,Vb S (az g it.i).op e,λ_=>Zb)::chk) chk)) (CN g r (cond (az g it.i).op.isLoad ((it.i,Vb S (az g it.i).op e,λ_=>Zb)::chk) chk) (putO e (az g it.i).dst v) S' k))))
end
def QL :Operand->List Nat
 | .tmp t=>[t]
 |_=>[]
def tT :AOp->List Nat
 | .makeSlice _ _ _ l c=>QL l++QL c
 | .buildSlice _ _ _ g=>g.flatMap λp=>QL p.2.2
 |_=>[]
def KZ :AOp->Bool
 | .alloc g _=>aD 1 g
 |_=>Zb
def pQ :AOp->Bool
 | .alloc _ _| .makeSlice _ _ _ _ _=>Za
 | .buildSlice _ _ z _=>z.all Uy
 |_=>Zb
def sr (d:Option Nat)(l:List Nat):Bool:=match d with
 |some t=> !kw t l
 |none=>Za
def Uj (d g:Option Nat):Bool:=match d,g with
 |some t,O h=> !Nat.beq t h
 |_,_=>Za
def A4 (i:Nat):List Nat->List Nat
 |[]=>[]
 |a::r=>cond (aB a i) r (a::A4 i r)
def Cv :List LItem->List Nat->Nat->Option (List Nat×LItem×List LItem)
 |[],_,_=>Y
 |it::r,P,i=>cond (aB it.kind 3) (Cv r P i)<|cond (aB it.kind 2) (cond (kw it.i P) (Cv r (A4 it.i P) i) Y) (cond (aB it.i i) (O (P,it,r)) Y)
def Su :List LItem->List Nat->Bool
 |[],P=>P.isEmpty
 |it::r,P=>cond (aB it.kind 3) (Su r P) (aB it.kind 2&&kw it.i P&&Su r (A4 it.i P))
def aB3 :AOp->Bool
 | .move _=>Za
 |_=>Zb
def KX (g:List (AOper×List Nat)):List LItem->Nat->Bool
 |[],_=>Zb
 |it::r,m=>cond (aB it.kind 3) (aB it.i m||KX g r m)<|(aB it.kind 2&&(aB it.i m||(sr (az g it.i).dst (tT (az g m).op)&&KX g r m)))||(aB it.kind 0&&aB3 (az g it.i).op&&sr (az g it.i).dst (tT (az g m).op)&&KX g r m)
def tR (h:List (AOper×List Nat))(g:Nat)(s:Bool)(P:List Nat)(r:List LItem):Bool:=
 P.all (λq=>Uj (az h g).dst (az h q).dst&&sr (az h g).dst (tT (az h q).op))&&
 r.all λp=> !Nat.beq p.kind 2||(s&&aB p.i g)||Uj (az h g).dst (az h p.i).dst
def at1 :List LItem->Bool
 |it::_=>aB it.kind 5
 |[]=>Zb
def ag0 :Option Nat->Nat->Bool
 |some a,b=>aB a b
 |none,_=>Zb
def Vo (h:List (AOper×List Nat)):List Nat->Nat->List Nat->Option (Nat×List Nat)
 |[],f,D=>O (f,D)
 |i::g,f+1,D=>cond (ag0 (dq h D) i&&(az h i).guard.isNone) (Vo h g f (i::D)) Y
 |_::_,0,_=>Y
def Vp (g:List (AOper×List Nat)):List LItem->Nat->List Nat->Bool
 |[],0,_=>Za
 |[],_+1,D=>(dq g D).isNone&&(bn g D).isEmpty
 |it::r,f+1,D=>aB it.kind 0&&ag0 (dq g D) it.i&&(az g it.i).guard.isNone&&Vp g r f (it.i::D)
 |_::_,0,_=>Zb
def Qq :List Nat->List LItem->Option (List LItem)
 |[],r=>O r
 |i::g,h::r=>cond (aB h.kind 0&&aB h.i i) (Qq g r) Y
 |_::_,[]=>Y
def okG (h:List (AOper×List Nat))(m c:Nat):List Nat->List Nat->Bool
 |_,[]=>Za
 |pre,i::g=>(az h i).dst.isSome&&sr (az h i).dst (tT (az h m).op)&&Uj (az h i).dst (az h m).dst&&sr (az h c).dst (az h i).op.reads&&Uj (az h c).dst (az h i).dst&&(i::pre).all (λj=>sr (az h i).dst (az h j).op.reads)&&pre.all (λj=>Uj (az h i).dst (az h j).dst)&&okG h m c (i::pre) g
def Xl (g:List (AOper×List Nat))(f:Nat)(D P ls u:List Nat):List LItem->Bool
 |it::h::p::r=>P.isEmpty&&aB h.kind 1&&aB p.kind 2&&aB p.i it.i&&pQ (az g it.i).op&& !pQ (az g h.i).op&&(az g it.i).guard.isNone&&(az g h.i).guard.isNone&&sr (az g it.i).dst (tT (az g it.i).op)&&
  !(bn g D).isEmpty&&(bn g D).all (λx=>aB x it.i||aB x h.i)&&ls.all (λi=>tG g i it.i||kw i u)&&ls.all (λi=>tG g i h.i||kw i h.chks)&&tR g h.i Zb [it.i] (p::r)&&okG g it.i h.i [] it.chks&&
  (match Vo g it.chks f (it.i::D),Qq it.chks r with
  |some (s+1,D1),O A=>(dq g D1).isNone&&(match bn g D1 with
   |[x]=>aB x h.i
   |_=>Zb)&&Vp g A s (h.i::D1)
  |_,_=>Zb)
 |_=>Zb
def aJ2 (p:List (AOper×List Nat))(h:List Nat->List Nat->List LItem->Bool)(D:List Nat):List LItem->Bool
 |_::g::r=>h (g.i::D) g.need r
 |_=>Zb
def Mt (g:List (AOper×List Nat)):Nat->List Nat->List Nat->List Nat->List Nat->List LItem->Bool
 |0,_,P,_,_,r=>Su r P
 |f+1,D,P,p,u,r=>match dq g D with
  |some i=>(az g i).guard.isNone&&(match Cv r P i with
   |some (P',h,s)=>aB h.kind 0&&tR g i Zb P' s&&Mt g f (i::D) P' (cond (az g i).op.isLoad (i::p) p) h.need s
   |none=>Zb)
  |none=>cond (at1 r) (Xl g f D P p u r&&aJ2 g (λD' A s=>Mt g f D' [] p A s) D r)<|match bn g D with
   |[]=>Su r P
   |ms=>ms.all λm=>(az g m).guard.isNone&&cond (pQ (az g m).op)
    (!kw m P&&r.any (λh=>aB h.kind 2&&aB h.i m)&&(KZ (az g m).op||KX g r m)&&tR g m Za P r&&sr (az g m).dst (tT (az g m).op)&&p.all (λi=>tG g i m||kw i u)&&Mt g f (m::D) (m::P) p u r)
    (match Cv r P m with
    |some (P',h,s)=>aB h.kind 1&&tR g m Zb P' s&&p.all (λi=>tG g i m||kw i h.chks)&&Mt g f (m::D) P' p h.need s
    |none=>Zb)
def WX (i:Nat):List Nat->List Nat
 |[]=>[]
 |a::r=>cond (aB a i) r (WX i r)
def zL (g:List (AOper×List Nat))(h:List Nat):List Nat->List Nat->List LItem
 |[],_=>[]
 |i::r,p=>
  cond (aD 2000 i) (⟨i % 1000,5,(WX (i % 1000) r).take (i / 10000),[]⟩::zL g h r p)<|
  cond (aD 1000 i) (⟨i-1000,3,[],[]⟩::zL g h r p)<|
  let o:=(az g i).op
  let s:=cond o.isLoad (i::p) p
  let u:=r.filter λm=>pQ (az g m).op
  ⟨i,cond (pQ o) 2 (cond o.still 0 1),p.filter λj=> !tG g j i,s.filter λj=>u.any λm=> !tG g j m⟩::zL g h r s
def FF (g:List (AOper×List Nat)):List LItem->Bool
 |[]=>Za
 |it::r=>r.all (λj=> !Nat.beq it.kind 2|| !Nat.beq j.kind 2||Uj (az g it.i).dst (az g j.i).dst)&&FF g r
def EU (g:List (AOper×List Nat)):List LItem->List Nat
 |[]=>[]
 |it::r=>cond (aB it.kind 2) ((match(az g it.i).dst with
  |some d=>[d]
  |none=>[])++EU g r) (EU g r)
inductive AT where
 |no
 |n (l r:AT)
 |lp (fx:List Nat) (head:Alt) (exits:List Alt) (b:AT)
 |jn (fx mov:List Nat) (exits:List Alt) (l r:AT)
 |sz (n:Nat) (l r:AT)
 |dr (L:List Nat)
 |all
def AT.sub :AT->AT
 | .all=> .all
 |_=> .no
def Tw (g:List (AOper×List Nat)):Nat->List Nat->List Nat
 |0,_=>[]
 |f+1,D=>match dq g D with
  |some i=>i::Tw g f (i::D)
  |none=>match(bn g D).filter (λm=> !pQ (az g m).op),bn g D with
   |m::_,h=>(h.filter λx=>pQ (az g x).op&& !KZ (az g x).op).map (1000+ ·)++m::Tw g f (m::D)
   |[],m::_=>m::Tw g f (m::D)
   |[],[]=>[]
def drL (g:List (AOper×List Nat)):AT->Option (List Nat)
 | .dr L=>O L
 | .all=>O (Tw g g.length [])
 |_=>Y
def aj8 :List VV->Nat
 |[]=>0
 | .nilp::r=>aj8 r+1
 | .fn f _ _::r=>aj8 r+10*f
 |_::r=>aj8 r
def aB5 :Nat->ai->Nat
 |_,[]=>0
 |k, .cells _ _ l::r=>k*aj8 l+aB5 (k+1) r
 |k,_::r=>aB5 (k+1) r
def XM (S:ai):Nat:=S.length+1000*aB5 1 S
def AT.at (n:Nat):AT->AT
 | .sz m l r=>cond (aB m n) l (r.at n)
 |t=>t
def QU (e:cj):List Nat->List VV->cj
 |t::g,v::h=>qj (QU e g h) t v
 |_,_=>e
def OH :Option Nat->List Nat
 |some d=>[d]
 |none=>[]
def kt :AC->List Nat
 | .region g=>g.flatMap λo=>OH o.dst
 | .draw g=>g.flatMap λo=>OH o.1.dst
 | .sched h=>h.flatMap λi=>OH i.o.dst
 | .seq a b| .cond _ a b=>kt a++kt b
 | .block _ b| .loop b=>kt b
 |_=>[]
def XK.is :XK->AExit->Bool
 | .normal, .normal=>Za
 | .exit i, .exit j=>aB i j
 | .ret, .ret=>Za
 |_,_=>Zb
def XK.out :XK->AExit
 | .normal=> .normal
 | .exit i=> .exit i
 | .ret=> .ret
def jy (fx mov:List Nat)(fz:Bool):Nat->ai->ai
 |_,[]=>[]
 |i,b::r=>cond (kw i mov) (cond b.frozen b .dead) (cond (kw i fx) b (cond fz b.freeze b))::jy fx mov fz (i+1) r
def Ee :AC->Bool
 | .seq a b| .cond _ a b=>Ee a&&Ee b
 | .block _ b| .loop b=>Ee b
 |_=>Za
def aq {α γ:Type}(f:α->Option (α⊕γ))(n:Nat):α->Option γ:=
 Nat.rec (λ_=>Y) (λ_ g a=>(f a).bind λs=>bc s g O) n
def cx :Nat:=18446744073709551616
def En (e0:cj)(S:ai)(fx mov h:List Nat)(fz:Bool)(ts:List Nat)(p:uE)(t:Dq p.shs):Option (cj×ai):=
 match pP id p (Ru p.shs t)with
 |some (g,u,s)=>(match vZ fx u (jy fx mov (fz||CL g u s) 0 S)with
  |some S'=>O (QU (qE e0 h) ts g,S'++s)
  |none=>Y)
 |none=>Y
def ah3 {β:Type}(e0:cj)(S:ai)(fx mov h:List Nat)(g:List Alt)(s:uG g)(k:AExit->cj->ai->Option β):Option β:=
 W2 g s λa t=>match En e0 S fx mov h Zb a.ts a.sk t with
  |some (e,S')=>k a.x.out e S'
  |none=>Y
def K8 (F:AT->(β:Type)->cj->ai->(AExit->cj->ai->Option β)->Option β):AT->(β:Type)->cj->ai->(AExit->cj->ai->Option β)->Option β
 | .n l r,β,e,S,k=>F l β e S λx g S'=>match x with
  | .normal=>K8 F r β g S' k
  |x=>k x g S'
 | .sz m l r,β,e,S,k=>cond (aB m S.length) (K8 F l β e S k) (K8 F r β e S k)
 |_,_,_,_,_=>Y
def XZ (F:(β:Type)->cj->ai->(AExit->cj->ai->Option β)->Option β)(n:Nat):(β:Type)->cj->ai->(AExit->cj->ai->Option β)->Option β:=
 Nat.rec (λ_ _ _ _=>Y) (λ_ h β e S k=>F β e S λx g S'=>match x with
  | .normal=>h β g S' k
  |x=>k x g S') n
def AT.rounds :AT->Nat
 | .n _ r=>r.rounds+1
 | .sz _ l r=>l.rounds+r.rounds
 |_=>0
def eval (tab:Tab):AC->AT->(β:Type)->cj->ai->(AExit->cj->ai->Option β)->Option β
 | .skip,_,_,e,S,k=>k .normal e S
 | .exit i,_,_,e,S,k=>k (.exit i) e S
 | .ret,_,_,e,S,k=>k .ret e S
 | .region h,_,_,e,S,k=>D5 tab h e S λA S'=>k .normal A S'
 | .sched F,_,_,e,S,k=>tL tab F [] e S λA S'=>k .normal A S'
 | .draw h,C,_,e,S,k=>(match drL h (C.at (XM S))with
  |some L=>gd (Mt h h.length [] [] [] [] (zL h L L [])&&FF h (zL h L L [])) (CN tab h (zL h L L []) [] (qE e (EU h (zL h L L []))) S λA S'=>k .normal A S')
  |none=>Y)
 | .seq a b,C,β,e,S,k=>
  (match C.at (XM S)with
  | .jn D E g l r=>gd (Ju S D&&Ee a) ((eval tab a l (uG g) e (jy (D++E) [] Za 0 S) λx A S'=>wx S' S.length D (λts=>ts.map (kX A)) (λy=>y.is x) g).bind λs=>
    ah3 e S D E (kt a) g s λx A S'=>match x with
     | .normal=>eval tab b r β A S' k
     |x=>k x A S')
  | .n l r=>eval tab a l β e S λx A S'=>match x with
   | .normal=>eval tab b r β A S' k
   |x=>k x A S'
  |u=>eval tab a u.sub β e S λx A S'=>match x with
   | .normal=>eval tab b u.sub β A S' k
   |x=>k x A S')
 | .cond c a b,C,β,e,S,k=>
  (match ev e c with
  | .bool p=>(match c,C.at (XM S)with
   | .tmp t, .n l r=>cond p (eval tab a l β (qj e t (.bool Za)) S k) (eval tab b r β (qj e t (.bool Zb)) S k)
   | .tmp t,u=>cond p (eval tab a u.sub β (qj e t (.bool Za)) S k) (eval tab b u.sub β (qj e t (.bool Zb)) S k)
   |_, .n l r=>cond p (eval tab a l β e S k) (eval tab b r β e S k)
   |_,u=>cond p (eval tab a u.sub β e S k) (eval tab b u.sub β e S k))
  |_=>Y)
 | .block id b,C,β,e,S,k=>
  eval tab b (match C.at (XM S)with
   | .n l _=>l
   |u=>u.sub) β e S λx A S'=>match x with
   | .exit i=>cond (aB i id) (k .normal A S') (k (.exit i) A S')
   |x=>k x A S'
 | .loop b,C,_,e,S,k=>
  (match C.at (XM S)with
  | .lp D head g l=>gd (head.sk.fxRo&&Ju S D&&Ee b) (match mH S S.length D head.sk (head.ts.map (kX e))with
   |some H=>(PB head.sk.shs H.ls).bind λM=>
    (aq (λt=>match En e S D (oj H.m) (kt b) Za head.ts head.sk t with
     |some (J,S1)=>eval tab b l (Dq head.sk.shs⊕uG g) J S1 λx A S'=>(match x with
      | .normal=>(TJ S' S.length D head.sk (head.ts.map (kX A))).bind λt=>O (.inl t)
      |x=>(wx S' S.length D (λts=>ts.map (kX A)) (λy=>y.is x) g).bind λs=>O (.inr s))
     |none=>Y) cx M).bind λs=>ah3 e S D (oj H.m) (kt b) g s k
   |none=>Y)
  | .all=>XZ (eval tab b .all) 1000000 _ e S k
  |_=>K8 (eval tab b) C _ e S k)
def an6 (e:cj)(S:ai):ARes->Option VV
 | .tmp t=>O (kX e t)
 | .cell t=>(match kX e t with
  | .ptr b o=>(match ae S b with
   | .cells _ _ l=>nth l o
   |_=>Y)
  |_=>Y)
 | .cellN t n=>(match kX e t with
  | .ptr b o=>(match ae S b with
   | .cells _ _ l=>cond (aD (o+n) l.length) (O (.agg ((l.drop o).take n))) Y
   |_=>Y)
  |_=>Y)
def He (e:cj)(S:ai):List ARes->Option (List VV)
 |[]=>O []
 |r::rs=>(an6 e S r).bind λv=>(He e S rs).bind λg=>O (v::g)
def Rz :List VV->VV
 |[v]=>v
 |vs=> .tup vs
def bi (P:Program)(f:FuncId)(tab:Tab)(at':AT):(β:Type)->List VV->ai->(VV->ai->Option β)->Option β:=λβ g S k=>
 match Rx P f with
 |some a=>gd (aD g.length a.ntmps) (eval tab a.body at' β g S λx e S'=>match x with
  | .exit _=>Y
  |_=>(match He e S' a.results with
   |some rs=>k (Rz rs) S'
   |none=>Y))
 |none=>Y
def HV (P:Program)(f:FuncId)(tab:Tab)(vals:List Sk)(g:List OSk)(h:List Alt)(at':AT)(t:Dq (uE.shs ⟨vals,[],g⟩)):Option (uG h):=
 match Rx P f,pP id ⟨vals,[],g⟩ (Ru _ t)with
 |some a,O (p,_,S)=>gd (aD p.length a.ntmps) (eval tab a.body at' (uG h) p S λx e S'=>match x with
  | .exit _=>Y
  |_=>(match He e S' a.results with
   |some rs=>wx S' S.length (tO g 0) (λ_=>[Rz rs]) (λ_=>Za) h
   |none=>Y))
 |_,_=>Y
end
end Go.V
