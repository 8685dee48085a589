/- A part of the proofs of this claim: what functions of the program answer on an abstract machine, and plain laws. No condition. -/
import Derived.Test.YtobfihgmpgobhaaGreatDoorA2
import Derived.IntWalk
import Derived.Below
set_option linter.unusedVariables false
set_option linter.unusedSimpArgs false
set_option linter.unusedSectionVars false
namespace Go.Ab
section
open Bool renaming and_eq_true → aC, or_eq_true → aD, false_eq_true → aE
open List renaming mem_cons_of_mem → aA, mem_cons_self → aB
open Go.RowKit
def Ac (P:Program)(N:Nat)(ops:Array Oper):List Oper→Option DL
 |[]=>some []
 |o::r=>match Ad P N ops o,Ac P N ops r with
  |some x,some l=>some ((x,(o.after.toList.filter (Region.binds .any ·)).map (·.on))::l)
  |_,_=>none
def AC.outsL :AC→List Nat
 | .seq a b| .cond _ a b=>a.outsL++b.outsL
 | .block id b=>b.outsL.filter fun i=> !(i==id)
 | .loop b=>b.outsL
 | .exit j=>[j]
 |_=>[]
theorem M9 : ∀(c:AC) (i:Nat),c.outs i=true→i∈c.outsL:=by
 intro c;induction c with
 |seq a b iha ihb=>
  intro i h;simp only[AC.outs,aD]at h;exact List.mem_append.2 (h.elim (fun h=> .inl (iha i h)) fun h=> .inr (ihb i h))
 |cond c a b iha ihb=>
  intro i h;simp only[AC.outs,aD]at h;exact List.mem_append.2 (h.elim (fun h=> .inl (iha i h)) fun h=> .inr (ihb i h))
 |block id b ih=>
  intro i h;simp only[AC.outs,aC]at h;exact List.mem_filter.2 ⟨ih i h.1,h.2⟩
 |loop b ih=>intro i h;exact ih i h
 |exit j=>intro i h;simp[AC.outs]at h;simp[AC.outsL,h]
 |_=>intro i h;simp[AC.outs]at h
def AC.noJump (c:AC):Bool:=c.outsL.all fun i=>decide (i<tw)
theorem EP {c:AC}(h:c.noJump=true){i:Nat}(hi:c.outs i=true):i<tw:=by
 have:=List.all_eq_true.1 h i (M9 c i hi);exact of_decide_eq_true this
def jP :Code→List Nat
 | .seq a b=>jP a++jP b
 | .label l=>[l]
 |_=>[]
theorem uJ : ∀(c:Code) (l:Nat),l∉jP c→findLabel c l=none:=by
 intro c;induction c with
 |seq a b iha ihb=>
  intro l h;simp only[jP,List.mem_append,not_or]at h;simp only[findLabel,iha l h.1,ihb l h.2]
 |label l'=>
  intro l h;simp only[jP,List.mem_singleton]at h;simp only[findLabel];rw[zF (by simpa using fun e=>h e.symm)]
 |_=>intro l h;rfl
def yo (l:Nat):Code→Bool
 | .goto l'=>l'==l
 | .seq a b| .cond _ a b=>yo l a||yo l b
 | .block _ b| .loop b| .scope b=>yo l b
 |_=>false
def vF :Code→Option Nat
 | .label l=>some l
 |_=>none
theorem FP {c:Code}{l:Nat}(h:vF c=some l):c= .label l:=by
 cases c<;>simp[vF]at h;rw[h]
def dg :Code→Option Nat
 | .seq a b=>match vF a with
  |some l=>if yo l b then some l else dg b
  |none=>dg b
 |_=>none
def qI (l:Nat):Nat:=tw+2*l
def oF (l:Nat):Nat:=tw+2*l+1
def OL (l:Nat)(b:AC):AC:= .block (oF l) (.loop (.block (qI l) (.seq b (.exit (oF l)))))
def yv (a b:Code):Bool:=match dg b with
 |some l=> !(jP a).contains l
 |none=>true
def iO (x:Option AC):Option AC×Option AC:=(x,x)
def QS :Option AC→Option AC→Option AC
 |some a,some b=>some (.seq a b)
 |_,_=>none
def Jt (a b:Code)(xa xb sb:Option AC):Option AC:=match vF a with
 |some l=>if yo l b then xb.map (OL l)else if yv a b then sb.map (.seq .skip)else none
 |none=>match xa,sb with
  |some x,some y=>if yv a b&&((dg b).isNone||x.noJump)then some (.seq x y)else none
  |_,_=>none
def Dt (P:Program)(N:Nat):Code→Option AC×Option AC
 | .skip=>iO (some .skip)
 | .label _=>iO (some .skip)
 | .region _ ops draw=>iO (if draw then match Ac P N ops ops.toList with
   |some l=>if sK l&&P.follows .mixedOrders then(match vL l l.length [] []with
    |some its=>some (.sched its)
    |none=>some (.draw l))else none
   |none=>none
  else(yN P N ops ops.toList).map .region)
 | .seq a b=>(QS (Dt P N a).1 (Dt P N b).1,Jt a b (Dt P N a).1 (Dt P N b).1 (Dt P N b).2)
 | .cond c a b=>iO (match nj c,(Dt P N a).1,(Dt P N b).1 with
  |some c,some a,some b=>some (.cond c a b)
  |_,_,_=>none)
 | .block id b=>iO (if id<tw then((Dt P N b).1).map (.block id)else none)
 | .loop b=>iO (((Dt P N b).1).map .loop)
 | .scope b=>iO (match(Dt P N b).2 with
  |some ac=>if ac.noJump then some ac else none
  |none=>none)
 | .exit id=>iO (if id<tw then some (.exit id)else none)
 | .goto l=>iO (some (.exit (qI l)))
 | .ret=>iO (some .ret)
 |_=>iO none
def fH (P:Program)(N:Nat)(c:Code):Option AC:=(Dt P N c).1
def Gg (P:Program)(N:Nat)(c:Code):Option AC:=(Dt P N c).2
section
variable {P:Program} {T:dn} {ops:Array Oper} {B:Base P} {N:Nat}
theorem AR : ∀{l:List Oper} {al:DL},Ac P N ops l=some al→l.length=al.length∧∀(i:Nat) o,l[i]?=some o→∃x,al[i]?=some (x,(o.after.toList.filter (Region.binds .any ·)).map (·.on))∧Ad P N ops o=some x
 |[],al,h=>by
  simp[Ac]at h;subst h;exact⟨rfl,fun i o h=>by simp at h⟩
 |o::l,al,h=>by
  simp only[Ac]at h;split at h
  ·rename_i x r h1 h2;injection h with h
   subst h;obtain⟨h3,h4⟩:=AR h2;refine⟨by simp[h3],fun i o' ho=> ?_⟩;cases i with
   |zero=>simp at ho;subst ho;exact⟨x,rfl,h1⟩
   |succ i=>simp at ho;simpa using h4 i o' ho
  ·cases h
theorem Ot {al:DL}(h:Ac P N ops ops.toList=some al):Fits P N ops al:=by
 obtain⟨h1,h2⟩:=AR h;refine⟨by simpa using h1,fun i o ho=> ?_,fun i o ho q=> ?_⟩
 ·obtain⟨x,h3,h4⟩:=h2 i o (by simpa using ho);refine⟨x, ?_,h4⟩;have:cW al i=(o.after.toList.filter (Region.binds .any ·)).map (·.on):=by simp[cW,h3]
  rw[this];exact h3
 ·obtain⟨x,h3,h4⟩:=h2 i o (by simpa using ho);have:cW al i=(o.after.toList.filter (Region.binds .any ·)).map (·.on):=by simp[cW,h3]
  rw[this];simp[and_assoc]
theorem Gj {b:Code}{f:(AExit→br→Hp→Prop)→br→Hp→Prop}
  (hb: ∀(Q:AExit→br→Hp→Prop) (e:br) (σ:Hp) (μ:Mu) (a:Act) (w:World),f Q e σ→R B μ σ w→cq μ N e a.tmps→a.defers=[]→b.wp P (jf B N μ w Q) a w)
  {Q:AExit→br→Hp→Prop} {μ0:Mu} {w0:World} {n:Nat} {e:br} {σ:Hp} {μ:Mu} {a:Act} {w:World} (h:dE f Q n e σ) (hR:R B μ σ w) (he:cq μ N e a.tmps) (hd:a.defers=[]) (hμ:μ0.le μ) (hbel:Below B w0 w):
  (Code.loop b).wp P (jf B N μ0 w0 Q) a w:=by
 intro bf k cs
 have key: ∀n e σ μ a w,dE f Q n e σ→R B μ σ w→cq μ N e a.tmps→a.defers=[]→μ0.le μ→Below B w0 w→
   ∃x a' w',jf B N μ0 w0 Q x a' w'∧Arrives P (lone (bf.at a (.code b:: .inLoop b::k)) cs w) bf k cs x a' w':=by
  intro n;induction n with
  |zero=>intro e σ μ a w h;exact h.elim
  |succ n ih=>
   intro e σ μ a w h hR he hd hμ hbel;simp only[dE]at h;obtain⟨x,a₁,w₁,hq,harr⟩:=hb _ e σ μ a w h hR he hd bf (.inLoop b::k) cs;obtain⟨ax,e1,σ1,μ1,hx,hq,h1,h2,h3,h4,h5⟩:=hq;cases ax with
   |normal=>
    cases x<;>simp[oC]at hx;obtain⟨x₂,a₂,w₂,hq₂,harr₂⟩:=ih e1 σ1 μ1 a₁ w₁ hq h2 h3 h4 (Mu.le_trans hμ h1) (hbel.trans h5);exact⟨x₂,a₂,w₂,hq₂, .of_steps (Steps.trans harr (.one step_inLoop)) harr₂⟩
   |exit id=>
    cases x with
    |exit j=>
     obtain⟨rfl,hj⟩:=hx;exact⟨.exit id,a₁,w₁,⟨.exit id,e1,σ1,μ1,⟨rfl,hj⟩,hq,Mu.le_trans hμ h1,h2,h3,h4,hbel.trans h5⟩, .pass (x:= .inLoop b) rfl (fun _ _=> .inl (by simp)) harr⟩
    |goto l=>exact⟨.goto l,a₁,w₁,⟨.exit id,e1,σ1,μ1,hx,hq,Mu.le_trans hμ h1,h2,h3,h4,hbel.trans h5⟩,fun k' hk=>harr k' (by simp[gotoIn,hk])⟩
    |_=>exact hx.elim
   |ret=>
    cases x<;>simp[oC]at hx;exact⟨.ret,a₁,w₁,⟨.ret,e1,σ1,μ1,trivial,hq,Mu.le_trans hμ h1,h2,h3,h4,hbel.trans h5⟩, .pass (x:= .inLoop b) rfl (fun _ _=> .inl (by simp)) harr⟩
 obtain⟨x,a',w',hq,harr⟩:=key n e σ μ a w h hR he hd hμ hbel;exact⟨x,a',w',hq, .of_steps (.one step_loop) harr⟩
theorem uW {is:List Nat}{σ:Hp}: ∀{chk:List (Nat×(Hp→Prop))},oG is σ chk→∀i c,(i,c)∈chk→i∈is→c σ
 |[],_,i,c,h,_=>by cases h
 |(j,d)::r,hr,i,c,h,hi=>by
  simp only[oG]at hr;rcases List.mem_cons.1 h with h|h
  ·injection h with h1 h2
   subst h1 h2;rw[zE (by simpa using hi)]at hr;exact hr.1
  ·split at hr
   ·exact uW hr.2 i c h hi
   ·exact uW hr i c h hi
theorem iv {al:DL}{m:Nat}{σ:Hp}: ∀{chk:List (Nat×(Hp→Prop))},(∀i c,(i,c)∈chk→kU al i m=false→c σ)→rz al m σ chk
 |[],_=>trivial
 |(j,d)::r,h=>by
  simp only[rz];split
  ·exact iv fun i c hc=>h i c (aA _ hc)
  ·rename_i hb;exact⟨h j d (aB ..) (by simpa using hb),iv fun i c hc=>h i c (aA _ hc)⟩
theorem HV {op:AOp}{e:br}{σ:Hp}{k k':Value→Hp→Prop}(hT:lG T)(hk: ∀v σ',k v σ'→k' v σ')(h:bj T op e σ k):bj T op e σ k':=by
 unfold bj at*;cases op<;>simp only at h⊢
 case call f xs=>exact hT _ _ _ _ _ hk h
 case callv f xs=>
  split at h
  ·exact⟨h.1,hT _ _ _ _ _ hk h.2⟩
  ·exact h.elim
 all_goals
  split at h
  ·exact hk _ _ h
  ·exact h.elim
theorem uL (hT:lG T){Q:br→Hp→Prop}{al:DL}: ∀(f:Nat) (done loads:List Nat) (its:List SItem) (chk chk':List (Nat×(Hp→Prop))) (e:br) (σ:Hp),vL al f done loads=some its→Gi T Q its chk' e σ→
  (∀i c,(i,c)∈chk→i∈loads)→(∀i c,(i,c)∈chk→My al i=true→(i,c)∈chk')→sY T Q al f done chk e σ
 |0,done,loads,its,chk,chk',e,σ,h,hw,_,_=>by
  simp[vL]at h;subst h;exact hw
 |f+1,done,loads,its,chk,chk',e,σ,h,hw,h1,h2=>by
  simp only[vL]at h;simp only[sY];split at h
  ·rename_i i hn;split at h
   ·rename_i o p ho;obtain⟨r,hr,h⟩:=Option.map_eq_some_iff.1 h;subst h;simp only[Gi]at hw;split at hw
    ·rename_i hwant;rw[zE hwant];simp only[aE,if_false]at hw;split at hw
     ·rename_i v σ1 hrun;refine uL hT f _ _ _ _ _ _ _ hr hw (fun j c hc=> ?_) (fun j c hc hk=> ?_)
      ·by_cases hl:o.op.isLoad=true
       ·rw[zE hl]at hc⊢;rcases List.mem_cons.1 hc with hc|hc
        ·injection hc with hc _
         subst hc;exact aB ..
        ·exact aA _ (h1 j c hc)
       ·rw[zF hl]at hc⊢;exact h1 j c hc
      ·by_cases hl:o.op.isLoad=true
       ·rw[zE hl]at hc;rcases List.mem_cons.1 hc with hc|hc
        ·have hj:j=i:=by injection hc
         subst hj;rw[zE (by simp[hl,hk]),hc];exact aB ..
        ·split
         ·exact aA _ (h2 j c hc hk)
         ·exact h2 j c hc hk
       ·rw[zF hl]at hc;split
        ·exact aA _ (h2 j c hc hk)
        ·exact h2 j c hc hk
     ·exact hw.elim
    ·rename_i hwant;rw[zF hwant];refine uL hT f _ _ _ _ _ _ _ hr hw (fun j c hc=> ?_) h2;split
     ·exact aA _ (h1 j c hc)
     ·exact h1 j c hc
   ·cases h
  ·rename_i hn;split at h
   ·rename_i hm;rw[hm];injection h with h
    subst h;exact hw
   ·rename_i m hm;rw[hm];simp only[B5];split at h
    ·rename_i o p ho;obtain⟨r,hr,h⟩:=Option.map_eq_some_iff.1 h;subst h
     have hmv:I3 al m=true:=by
      have:=(pC.1 (show m∈bi al done by rw[hm];exact aB ..)).2.2.2;simpa[sU,I3,ho]using this
     have hml:m<al.length:=(pC.1 (show m∈bi al done by rw[hm];exact aB ..)).1;simp only[Gi]at hw⊢;split at hw
     ·rename_i hwant;rw[zE hwant];simp only[if_true]at hw;refine HV hT (fun v σ' hk=> ?_) hw;refine⟨iv fun i c hc hb=> ?_,uL hT f _ _ _ _ _ _ _ hr hk.2 h1 h2⟩;have hkp:My al i=true:=List.any_eq_true.2 ⟨m,List.mem_range.2 hml,by simp[hmv,hb]⟩;exact uW hk.1 i c (h2 i c hc hkp) (by simp[h1 i c hc,hb])
     ·rename_i hwant;rw[zF hwant];exact uL hT f _ _ _ _ _ _ _ hr hw h1 h2
    ·cases h
   ·cases h
def AF (l:Nat)(J:Act→World→Prop)(Q:Exit→Act→World→Prop):Exit→Act→World→Prop
 | .goto l',a,w=>(l'=l∧J a w)∨(l'≠l∧Q (.goto l') a w)
 |x,a,w=>Q x a w
theorem H1 {c rest:Code}{Q:Exit→Act→World→Prop}{a:Act}{w:World}(l:Nat)(J:Nat→Act→World→Prop)(hf:findLabel c l=some rest)(hQ: ∀l' a w,¬Q (.goto l') a w)
  (first:c.wp P (AF l (fun a w=> ∃n,J n a w) Q) a w) (pass: ∀n a w,J n a w→rest.wp P (AF l (fun a w=> ∃m,m<n∧J m a w) Q) a w):(Code.scope c).wp P Q a w:=by
 intro b k cs;have hg:gotoIn l (.inScope c::k)=some (.code rest:: .inScope c::k):=by simp[gotoIn,hf]
 have key: ∀n a w,J n a w→∃e a' w',Q e a' w'∧Arrives P (lone (b.at a (.code rest:: .inScope c::k)) cs w) b k cs e a' w':=by
  intro n;induction n using Nat.strongRecOn with
  |_ n ih=>
   intro a w hJ;obtain⟨e,a₁,w₁,hq,harr⟩:=pass n a w hJ b (.inScope c::k) cs;cases e with
   |normal=>exact⟨.normal,a₁,w₁,hq,Steps.trans harr (.one step_inScope)⟩
   |exit id=>exact⟨.exit id,a₁,w₁,hq,fun k' hk=>harr k' (by simp[exitTo,hk])⟩
   |goto l'=>
    rcases hq with⟨rfl,m,hlt,hJ'⟩|⟨_,hq⟩
    ·obtain⟨e₂,a₂,w₂,hq₂,harr₂⟩:=ih m hlt a₁ w₁ hJ';exact⟨e₂,a₂,w₂,hq₂, .of_steps (harr _ hg) harr₂⟩
    ·exact(hQ _ _ _ hq).elim
   |ret=>exact⟨_,a₁,w₁,hq,harr⟩
   |panic ch=>exact⟨_,a₁,w₁,hq,harr⟩
   |outgrown=>exact⟨_,a₁,w₁,hq,harr⟩
 obtain⟨e,a₁,w₁,hq,harr⟩:=first b (.inScope c::k) cs
 cases e with
 |normal=>exact⟨.normal,a₁,w₁,hq, .head step_scope (Steps.trans harr (.one step_inScope))⟩
 |exit id=>exact⟨.exit id,a₁,w₁,hq,fun k' hk=> .head step_scope (harr k' (by simp[exitTo,hk]))⟩
 |goto l'=>
  rcases hq with⟨rfl,n,hJ'⟩|⟨_,hq⟩
  ·obtain⟨e₂,a₂,w₂,hq₂,harr₂⟩:=key n a₁ w₁ hJ';exact⟨e₂,a₂,w₂,hq₂, .of_steps (.head step_scope (harr _ hg)) harr₂⟩
  ·exact(hQ _ _ _ hq).elim
 |ret=>exact⟨_,a₁,w₁,hq, .of_steps (.one step_scope) harr⟩
 |panic ch=>exact⟨_,a₁,w₁,hq, .of_steps (.one step_scope) harr⟩
 |outgrown=>exact⟨_,a₁,w₁,hq, .of_steps (.one step_scope) harr⟩
def Rr {P:Program}(B:Base P)(N:Nat)(μ0:Mu)(w0:World)(L:Nat→br→Hp→Prop)(n:Nat):Act→World→Prop:=fun a w=>
 ∃e σ μ,L n e σ∧μ0.le μ∧R B μ σ w∧cq μ N e a.tmps∧a.defers=[]∧Below B w0 w
def Tp (P:Program)(T:dn)(B:Base P)(N:Nat)(c:Code):Prop:= ∀(ac:AC),fH P N c=some ac→∀(Q:AExit→br→Hp→Prop) (e:br) (σ:Hp) (μ:Mu) (a:Act) (w:World),nw T ac Q e σ→
  R B μ σ w→cq μ N e a.tmps→a.defers=[]→c.wp P (jf B N μ w Q) a w
def JN (P:Program)(T:dn)(B:Base P)(N:Nat)(c:Code):Prop:= ∀(ac:AC),Gg P N c=some ac→∀(Q:AExit→br→Hp→Prop),
 (dg c=none→∀(e:br) (σ:Hp) (μ:Mu) (a:Act) (w:World),nw T ac Q e σ→R B μ σ w→cq μ N e a.tmps→a.defers=[]→c.wp P (jf B N μ w Q) a w)∧
 (∀l,dg c=some l→∃rest L,findLabel c l=some rest∧∀μ0 w0,
  (∀(e:br) (σ:Hp) (μ:Mu) (a:Act) (w:World),nw T ac Q e σ→R B μ σ w→cq μ N e a.tmps→a.defers=[]→μ0.le μ→Below B w0 w→c.wp P (AF l (fun a w=> ∃n,Rr B N μ0 w0 L n a w) (jf B N μ0 w0 Q)) a w)∧
  (∀n a w,Rr B N μ0 w0 L n a w→rest.wp P (AF l (fun a w=> ∃m,m<n∧Rr B N μ0 w0 L m a w) (jf B N μ0 w0 Q)) a w))
theorem JN.of {c:Code}(h1:Gg P N c=fH P N c)(h2:dg c=none)(h:Tp P T B N c):JN P T B N c:=fun ac hac Q=>
 ⟨fun _=>h ac (h1▸hac) Q,fun l hl=>by rw[h2]at hl;cases hl⟩
theorem zQ {μ:Mu}{w:World}{Q:AExit→br→Hp→Prop}{x:Exit}{a':Act}{w':World}(h:jf B N μ w Q x a' w')(hx:x≠ .normal): ∃ax e' σ' μ',ax≠ .normal∧oC ax x∧Q ax e' σ'∧μ.le μ'∧R B μ' σ' w'∧cq μ' N e' a'.tmps∧a'.defers=[]∧Below B w w':=by
 obtain⟨ax,e',σ',μ',h1,h2,h3⟩:=h;refine⟨ax,e',σ',μ', ?_,h1,h2,h3⟩;rintro rfl;cases x<;>first|exact h1.elim|exact hx rfl
theorem Pg {μ:Mu}{w:World}{Q Q':AExit→br→Hp→Prop}{x:Exit}{a':Act}{w':World}(h:jf B N μ w Q x a' w')(hq: ∀ax e σ,oC ax x→Q ax e σ→Q' ax e σ):jf B N μ w Q' x a' w':=by
 obtain⟨ax,e',σ',μ',h1,h2,h3⟩:=h;exact⟨ax,e',σ',μ',h1,hq _ _ _ h1 h2,h3⟩
theorem Jk {x y:Code}{a:Act}{w:World}{μ:Mu}{Q1:AExit→br→Hp→Prop}{F:Exit→Act→World→Prop}(h:x.wp P (jf B N μ w Q1) a w)
  (hn: ∀e σ μ' a' w',Q1 .normal e σ→μ.le μ'→R B μ' σ w'→cq μ' N e a'.tmps→a'.defers=[]→Below B w w'→y.wp P F a' w')
  (ho: ∀x a' w',x≠ .normal→jf B N μ w Q1 x a' w'→F x a' w'):(Code.seq x y).wp P F a w:=by
 refine wp_seq (wp_mono h fun x' a' w' hx=> ?_);cases x' with
 |normal=>
  obtain⟨ax,e',σ',μ',h1,h2,h3,h4,h5,h6,h7⟩:=hx;cases ax with
  |normal=>exact hn e' σ' μ' a' w' h2 h3 h4 h5 h6 h7
  |exit i=>exact h1.elim
  |ret=>exact h1.elim
 |exit i=>exact ho _ a' w' (by simp) hx
 |goto l=>exact ho _ a' w' (by simp) hx
 |ret=>exact ho _ a' w' (by simp) hx
 |panic ch=>exact ho _ a' w' (by simp) hx
 |outgrown=>exact ho _ a' w' (by simp) hx
theorem Hg {l:Nat}{J:Act→World→Prop}{F:Exit→Act→World→Prop}{x:Exit}{a:Act}{w:World}(hg:x= .goto l→J a w)(hF:x≠ .goto l→F x a w):AF l J F x a w:=by
 cases x with
 |goto l'=>
  by_cases hl:l'=l
  ·subst hl;exact .inl ⟨rfl,hg rfl⟩
  ·exact .inr ⟨hl,hF (by simpa using hl)⟩
 |_=>exact hF (by simp)
theorem CH {l:Nat}{J J':Act→World→Prop}{F F':Exit→Act→World→Prop}(hJ: ∀a w,J a w→J' a w)(hF: ∀x a w,F x a w→F' x a w){x:Exit}{a:Act}{w:World}(h:AF l J F x a w):AF l J' F' x a w:=by
 cases x with
 |goto l'=>
  rcases h with⟨h1,h2⟩|⟨h1,h2⟩
  ·exact .inl ⟨h1,hJ _ _ h2⟩
  ·exact .inr ⟨h1,hF _ _ _ h2⟩
 |_=>exact hF _ _ _ h
theorem Ma (hM:lG T)(hT: ∀f,LL P f (T f)): ∀(c:Code),Tp P T B N c∧JN P T B N c:=by
 intro c;induction c with
 |skip=>
  refine(fun A=>⟨A,JN.of rfl rfl A⟩) ?_;intro ac h Q e σ μ a w hw hR he hd;simp[fH,Dt,iO]at h;subst h;exact wp_skip ⟨.normal,e,σ,μ,trivial,hw,μ.le_refl,hR,he,hd,Below.refl _ _⟩
 |label l=>
  refine(fun A=>⟨A,JN.of rfl rfl A⟩) ?_;intro ac h Q e σ μ a w hw hR he hd;simp[fH,Dt,iO]at h;subst h;exact wp_label ⟨.normal,e,σ,μ,trivial,hw,μ.le_refl,hR,he,hd,Below.refl _ _⟩
 |goto l=>
  refine(fun A=>⟨A,JN.of rfl rfl A⟩) ?_;intro ac h Q e σ μ a w hw hR he hd;simp[fH,Dt,iO]at h;subst h;exact wp_goto ⟨.exit (qI l),e,σ,μ,rfl,hw,μ.le_refl,hR,he,hd,Below.refl _ _⟩
 |region id ops draw=>
  refine(fun A=>⟨A,JN.of rfl rfl A⟩) ?_;intro ac h Q e σ μ a w hw hR he hd;simp only[fH,Dt,iO]at h;cases draw with
  |false=>
   simp only[aE,if_false]at h;obtain⟨al,h1,h⟩:=Option.map_eq_some_iff.1 h;subst h;exact wp_region_list (Jd hT ops.toList al e σ μ a w h1 hw hR he hd μ.le_refl (Below.refl _ _))
  |true=>
   simp only[if_true]at h;split at h
   ·rename_i al h1;split at h
    ·rename_i h2
     have hw:sY T (Q .normal) al al.length [] [] e σ:=by
      split at h
      ·rename_i its hits;injection h with h
       subst h;exact uL hM al.length [] [] its [] [] e σ hits hw (fun i c hc=>(by cases hc)) (fun i c hc=>(by cases hc))
      ·injection h with h
       subst h;exact hw
     simp only[aC]at h2;have hF:=Ot h1;have hempty: ∀(val:Nat→Value),dj al e val []=e:=fun val=>funext fun t=>gJ fun i hi=>by cases hi
     refine wp_region_any h2.2 ?_;have hl:left al.length []≤al.length:=by unfold left;exact Nat.le_trans (List.length_filter_le _ _) (by simp)
     refine Oh hT hF h2.1 (e0:=e) ops.size al.length (fun _=>undef) [] [] [] _ σ μ a _ (by rw[hempty];exact hw) hl (by rw[hF.len];exact hl) ⟨fun i hi=>(by cases hi),fun i hi=>(by cases hi),fun i hi=>(by cases hi),fun i hi=>(by cases hi),fun i hi=>(by cases hi)⟩ (by simp) (fun i hi=>by simp[hi]) (hR.same rfl) (by rw[hempty];exact he) hd μ.le_refl (Below.refl _ _).drew
    ·cases h
   ·cases h
 |seq x y ihx ihy=>
  refine⟨?_, ?_⟩
  ·intro ac h Q e σ μ a w hw hR he hd;have h:QS (fH P N x) (fH P N y)=some ac:=h;unfold QS at h;split at h
   ·rename_i ax ay h1 h2;injection h with h
    subst h;simp only[nw]at hw;have h1:fH P N x=some ax:=h1;have h2:fH P N y=some ay:=h2;refine Jk (ihx.1 ax h1 _ e σ μ a w hw hR he hd) (fun e' σ' μ' a' w' hq g1 g2 g3 g4 g5=> ?_) fun x' a' w' hx hp=> ?_
    ·exact wp_mono (ihy.1 ay h2 Q e' σ' μ' a' w' hq g2 g3 g4) fun x'' a'' w'' h''=>h''.trans g1 g5
    ·obtain⟨axx,e',σ',μ',h0,h1',h2',h3'⟩:=zQ hp hx;refine⟨axx,e',σ',μ',h1', ?_,h3'⟩;cases axx with
     |normal=>exact(h0 rfl).elim
     |exit i=>exact h2'
     |ret=>exact h2'
   ·cases h
  ·intro ac h Q;have h:Jt x y (fH P N x) (fH P N y) (Gg P N y)=some ac:=h;unfold Jt at h;split at h
   ·rename_i l hl;obtain rfl:=FP hl;split at h
    ·
     rename_i hg;obtain⟨yc,h1,h⟩:=Option.map_eq_some_iff.1 h;subst h;have hll:dg (.seq (.label l) y)=some l:=by simp[dg,vF,hg]
     refine⟨fun hn=>(by rw[hll]at hn;cases hn),fun l' hl'=> ?_⟩;rw[hll]at hl';injection hl' with hl'
     subst hl'
     let Q1:AExit→br→Hp→Prop:=fun x e σ=>match x with
      | .exit i=>if i=oF l then Q .normal e σ else Q (.exit i) e σ
      |x=>Q x e σ
     let body:AC:= .block (qI l) (.seq yc (.exit (oF l)))
     have hne:oF l≠qI l:=by unfold oF qI;omega
     have round: ∀(n:Nat) (e:br) (σ:Hp) (μ:Mu) (a:Act) (w:World) (μ0:Mu) (w0:World),dE (nw T body) Q1 (n+1) e σ→R B μ σ w→cq μ N e a.tmps→a.defers=[]→μ0.le μ→Below B w0 w→
       y.wp P (AF l (fun a w=>Rr B N μ0 w0 (fun n=>dE (nw T body) Q1 n) n a w) (jf B N μ0 w0 Q)) a w:=by
      intro n e σ μ a w μ0 w0 hw hR he hd hμ hb;simp only[dE,body,nw]at hw;refine wp_mono (ihy.1 yc h1 _ e σ μ a w hw hR he hd) fun x' a' w' hp=> ?_
      obtain⟨ax,e',σ',μ',q1,q2,q3,q4,q5,q6,q7⟩:=hp;refine Hg (fun hx=> ?_) fun hx=> ?_
      ·subst hx;cases ax with
       |exit i=>
        have q1:i=qI l:=q1;subst q1;simp only[if_true]at q2;exact⟨e',σ',μ',q2,Mu.le_trans hμ q3,q4,q5,q6,hb.trans q7⟩
       |_=>exact q1.elim
      ·cases ax with
       |normal=>
        simp only[zF hne]at q2;simp only[Q1,if_true]at q2;exact⟨.normal,e',σ',μ',q1,q2,Mu.le_trans hμ q3,q4,q5,q6,hb.trans q7⟩
       |ret=>exact⟨.ret,e',σ',μ',q1,q2,Mu.le_trans hμ q3,q4,q5,q6,hb.trans q7⟩
       |exit i=>
        have hi:i≠qI l∧i≠oF l:=by
         cases x' with
         |exit j=>
          obtain⟨rfl,hj⟩:=q1;unfold qI oF;omega
         |goto l'=>
          have q1:i=tw+2*l':=q1;have:l'≠l:=fun e=>hx (by rw[e])
          unfold qI oF;omega
         |_=>exact q1.elim
        simp only[zF hi.1,Q1,zF hi.2]at q2;exact⟨.exit i,e',σ',μ',q1,q2,Mu.le_trans hμ q3,q4,q5,q6,hb.trans q7⟩
     refine⟨.seq .skip y,fun n=>dE (nw T body) Q1 n,by simp[findLabel],fun μ0 w0=>⟨fun e σ μ a w hw hR he hd hμ hb=> ?_,fun n a w hJ=> ?_⟩⟩
     ·have hw': ∃n,dE (nw T body) Q1 n e σ:=hw
      obtain⟨n,hn⟩:=hw';cases n with
      |zero=>exact hn.elim
      |succ n=>
       refine wp_seq (wp_label ?_);exact wp_mono (round n e σ μ a w μ0 w0 hn hR he hd hμ hb) fun x' a' w' h'=>CH (fun _ _ h=>⟨n,h⟩) (fun _ _ _ h=>h) h'
     ·obtain⟨e,σ,μ,hn,hμ,hR,he,hd,hb⟩:=hJ;cases n with
      |zero=>exact hn.elim
      |succ n=>
       refine wp_seq (wp_skip ?_);exact wp_mono (round n e σ μ a w μ0 w0 hn hR he hd hμ hb) fun x' a' w' h'=>CH (fun _ _ h=>⟨n,Nat.lt_succ_self n,h⟩) (fun _ _ _ h=>h) h'
    ·
     rename_i hg;split at h
     ·rename_i hlo;obtain⟨yc,h1,h⟩:=Option.map_eq_some_iff.1 h;subst h;have hll:dg (.seq (.label l) y)=dg y:=by simp[dg,vF,hg]
      obtain⟨s1,s2⟩:=ihy.2 yc h1 Q;refine⟨fun hn e σ μ a w hw hR he hd=>wp_seq (wp_label ?_),fun l' hl'=> ?_⟩
      ·exact s1 (hll▸hn) e σ μ a w hw hR he hd
      ·rw[hll]at hl';obtain⟨rest,L,hf,hJ⟩:=s2 l' hl'
       have hlab:findLabel (.seq (.label l) y) l'=some rest:=by
        have:findLabel (.label l) l'=none:=uJ _ _ (by
         unfold yv at hlo;rw[hl']at hlo
         simpa using hlo)
        simp[findLabel,hf]at this⊢;simp[this]
       refine⟨rest,L,hlab,fun μ0 w0=>⟨fun e σ μ a w hw hR he hd hμ hb=>wp_seq (wp_label ?_),(hJ μ0 w0).2⟩⟩;exact(hJ μ0 w0).1 e σ μ a w hw hR he hd hμ hb
     ·cases h
   ·rename_i hl;split at h
    ·rename_i ax ay h1 h2;split at h
     ·rename_i hlo;rw[aC,aD]at hlo;obtain⟨hlo,hnj⟩:=hlo;injection h with h
      subst h;have hll:dg (.seq x y)=dg y:=by simp[dg,hl]
      obtain⟨s1,s2⟩:=ihy.2 ay h2 Q;refine⟨fun hn e σ μ a w hw hR he hd=> ?_,fun l' hl'=> ?_⟩
      ·simp only[nw]at hw;refine Jk (ihx.1 ax h1 _ e σ μ a w hw hR he hd) (fun e' σ' μ' a' w' hq g1 g2 g3 g4 g5=> ?_) fun x' a' w' hx hp=> ?_
       ·exact wp_mono (s1 (hll▸hn) e' σ' μ' a' w' hq g2 g3 g4) fun x'' a'' w'' h''=>h''.trans g1 g5
       ·obtain⟨axx,e',σ',μ',h0,h1',h2',h3'⟩:=zQ hp hx;refine⟨axx,e',σ',μ',h1', ?_,h3'⟩;cases axx with
        |normal=>exact(h0 rfl).elim
        |exit i=>exact h2'
        |ret=>exact h2'
      ·rw[hll]at hl';obtain⟨rest,L,hf,hJ⟩:=s2 l' hl'
       have hlab:findLabel (.seq x y) l'=some rest:=by
        have:findLabel x l'=none:=uJ _ _ (by
         unfold yv at hlo;rw[hl']at hlo
         simpa using hlo)
        simp[findLabel,hf,this]
       have hnj:ax.noJump=true:=by
        rcases hnj with h|h
        ·rw[hl']at h;cases h
        ·exact h
       refine⟨rest,L,hlab,fun μ0 w0=>⟨fun e σ μ a w hw hR he hd hμ hb=> ?_,(hJ μ0 w0).2⟩⟩;simp only[nw]at hw;refine Jk (ihx.1 ax h1 _ e σ μ a w (Ir hM _ _ e σ hw) hR he hd) (fun e' σ' μ' a' w' hq g1 g2 g3 g4 g5=> ?_) fun x' a' w' hx hp=> ?_
       ·exact(hJ μ0 w0).1 e' σ' μ' a' w' hq.2 g2 g3 g4 (Mu.le_trans hμ g1) (hb.trans g5)
       ·obtain⟨axx,e',σ',μ',h0,h1',h2',h3',h4',h5',h6',h7'⟩:=zQ hp hx;refine Hg (fun hg=> ?_) fun _=> ?_
        ·subst hg;cases axx with
         |exit i=>
          have k1:i=tw+2*l':=h1';have:=EP hnj (h2'.1 i rfl);omega
         |_=>exact h1'.elim
        ·refine⟨axx,e',σ',μ',h1', ?_,Mu.le_trans hμ h3',h4',h5',h6',hb.trans h7'⟩;cases axx with
         |normal=>exact(h0 rfl).elim
         |exit i=>exact h2'.2
         |ret=>exact h2'.2
     ·cases h
    ·cases h
 |cond c x y ihx ihy=>
  refine(fun A=>⟨A,JN.of rfl rfl A⟩) ?_;intro ac h Q e σ μ a w hw hR he hd;simp only[fH,Dt,iO]at h;split at h
  ·rename_i c' ax ay h0 h1 h2;injection h with h
   subst h;obtain⟨rfl,k0⟩:=aj h0;have hv:=he.ev k0;simp only[nw]at hw;split at hw
   ·rename_i hb;rw[hb]at hv;exact wp_cond_true hv.bool_inv (ihx.1 ax h1 Q e σ μ a w hw hR he hd)
   ·rename_i hb;rw[hb]at hv;exact wp_cond_false hv.bool_inv (ihy.1 ay h2 Q e σ μ a w hw hR he hd)
   ·exact hw.elim
  ·cases h
 |block id b ih=>
  refine(fun A=>⟨A,JN.of rfl rfl A⟩) ?_;intro ac h Q e σ μ a w hw hR he hd;simp only[fH,Dt,iO]at h;split at h
  ·rename_i hlt;obtain⟨ab,h1,h⟩:=Option.map_eq_some_iff.1 h;subst h;simp only[nw]at hw;refine wp_block (wp_mono (ih.1 ab h1 _ e σ μ a w hw hR he hd) fun x a' w' hx=> ?_);obtain⟨axx,e',σ',μ',hxr,hq,g1,g2,g3,g4,g5⟩:=hx;cases axx with
   |normal=>
    cases x<;>simp[oC]at hxr;exact⟨.normal,e',σ',μ',trivial,hq,g1,g2,g3,g4,g5⟩
   |exit i=>
    simp only at hq;cases x with
    |exit j=>
     obtain⟨rfl,hj⟩:=hxr;simp only[Exit.inBlock];split
     ·rename_i hid;rw[zE hid]at hq;exact⟨.normal,e',σ',μ',trivial,hq,g1,g2,g3,g4,g5⟩
     ·rename_i hid;rw[zF hid]at hq;exact⟨.exit i,e',σ',μ',⟨rfl,hj⟩,hq,g1,g2,g3,g4,g5⟩
    |goto l=>
     have hxr':i=tw+2*l:=hxr;rw[zF (by omega)]at hq;exact⟨.exit i,e',σ',μ',hxr,hq,g1,g2,g3,g4,g5⟩
    |_=>exact hxr.elim
   |ret=>
    cases x<;>simp[oC]at hxr;exact⟨.ret,e',σ',μ',trivial,hq,g1,g2,g3,g4,g5⟩
  ·cases h
 |loop b ih=>
  refine(fun A=>⟨A,JN.of rfl rfl A⟩) ?_;intro ac h Q e σ μ a w hw hR he hd;simp only[fH,Dt,iO]at h;obtain⟨ab,h1,h⟩:=Option.map_eq_some_iff.1 h;subst h;simp only[nw]at hw;obtain⟨n,hn⟩:=hw;exact Gj (f:=nw T ab) (fun Q e σ μ a w hf=>ih.1 ab h1 Q e σ μ a w hf) hn hR he hd μ.le_refl (Below.refl _ _)
 |scope b ih=>
  refine(fun A=>⟨A,JN.of rfl rfl A⟩) ?_;intro ac h Q e σ μ a w hw hR he hd;simp only[fH,Dt,iO]at h;split at h
  ·rename_i ac' h1;split at h
   ·rename_i hno;injection h with h
    subst h;have hw':=Ir hM _ Q e σ hw
    have hng: ∀(l':Nat) (a:Act) (w':World),¬jf B N μ w (Iw ac' Q) (.goto l') a w':=by
     rintro l' a w' ⟨ax,e',σ',μ',k1,k2,_⟩;cases ax with
     |exit i=>
      have k1:i=tw+2*l':=k1;have:=EP hno (k2.1 i rfl);omega
     |_=>exact k1.elim
    have fin: ∀{x:Exit} {a':Act} {w':World},jf B N μ w (Iw ac' Q) x a' w'→jf B N μ w Q x a' w':=fun h=>Pg h fun _ _ _ _ h=>h.2
    obtain⟨s1,s2⟩:=ih.2 ac' h1 (Iw ac' Q);cases hl:dg b with
    |none=>
     refine wp_scope_straight (wp_mono (s1 hl e σ μ a w hw' hR he hd) fun x a' w' hx=> ?_);cases x with
     |goto l'=>exact(hng l' a' w' hx).elim
     |_=>exact fin hx
    |some l=>
     obtain⟨rest,L,hf,hJ⟩:=s2 l hl;obtain⟨j1,j2⟩:=hJ μ w;refine wp_mono (H1 l (Rr B N μ w L) hf hng (j1 e σ μ a w hw' hR he hd μ.le_refl (Below.refl _ _)) j2) fun x a' w' hx=>fin hx
   ·cases h
  ·cases h
 |exit id=>
  refine(fun A=>⟨A,JN.of rfl rfl A⟩) ?_;intro ac h Q e σ μ a w hw hR he hd;simp only[fH,Dt,iO]at h;split at h
  ·rename_i hlt;injection h with h
   subst h;exact wp_exit ⟨.exit id,e,σ,μ,⟨rfl,hlt⟩,hw,μ.le_refl,hR,he,hd,Below.refl _ _⟩
  ·cases h
 |ret=>
  refine(fun A=>⟨A,JN.of rfl rfl A⟩) ?_;intro ac h Q e σ μ a w hw hR he hd;simp[fH,Dt,iO]at h;subst h;exact wp_ret ⟨.ret,e,σ,μ,trivial,hw,μ.le_refl,hR,he,hd,Below.refl _ _⟩
 |_=>
  refine(fun A=>⟨A,JN.of rfl rfl A⟩) ?_;intro ac h;simp[fH,Dt,iO]at h
theorem Oa (hM:lG T)(hT: ∀f,LL P f (T f))(c:Code)(ac:AC)(h:fH P N c=some ac)(Q:AExit→br→Hp→Prop)(e:br)(σ:Hp)(μ:Mu)(a:Act)(w:World)(hw:nw T ac Q e σ)
  (hR:R B μ σ w) (he:cq μ N e a.tmps) (hd:a.defers=[]):c.wp P (jf B N μ w Q) a w:=(Ma hM hT c).1 ac h Q e σ μ a w hw hR he hd
end
end
section
open List renaming mapM_cons → aD, getElem?_eq_getElem → aE
open Result renaming andThen_ok → aA
open Sem renaming run_bind → aB, run_pure → aC
open Go.RowKit
def Du (P:Program):List ResultVar→Option (List ARes)
 |[]=>some []
 | .tmp t::r=>(Du P r).map (.tmp t:: ·)
 | .cell a t::r=>match qh P t,eX P t,Du P r with
  |some true,some n,some r=>some (.cellN a n::r)
  |some false,some _,some r=>some (.cell a::r)
  |_,_,_=>none
def LC (P:Program)(f:FuncId):Option AFn:=match P.funcs[f]? with
 |some fn=>match fn.body,IP P f with
  |some c,true=>match fH P fn.ntmps c,Du P fn.results.toList with
   |some ac,some rs=>some ⟨fn.ntmps,rs,ac⟩
   |_,_=>none
  |_,_=>none
 |none=>none
section
variable {P:Program} {T:dn} {B:Base P} {N:Nat} {μ:Mu} {σ:Hp} {w:World} {e:br}
def Jh (tmps:Array Value):ResultVar→Sem Value
 | .tmp t=>pure (tmps.getD t undef)
 | .cell a t=>do loadVar t (←asAddr (tmps.getD a undef))
theorem Ji (fn:Func)(tmps:Array Value):results fn tmps=(do
  let vs←fn.results.mapM (Jh tmps)
  pure (if h:vs.size=1 then vs[0]else .tuple vs)):=rfl
theorem F1 {tmps:Array Value}(he:cq μ N e tmps)(hR:R B μ σ w): ∀(l:List ResultVar) (rs:List ARes) (vs:List Value),Du P l=some rs→zT e σ rs=some vs→
  ∃vs',(l.mapM (Jh tmps)).run P w= .ok vs' w∧F2 (VR μ) vs vs'
 |[],rs,vs,h,hr=>by
  simp[Du]at h;subst h;simp[zT]at hr;subst hr;exact⟨[],by simp, .nil⟩
 | .tmp t::l,rs,vs,h,hr=>by
  simp only[Du]at h;obtain⟨rs',h1,h⟩:=Option.map_eq_some_iff.1 h;subst h;simp only[zT]at hr;split at hr
  ·rename_i v vs1 h2 h3;injection hr with hr
   subst hr;simp[C3]at h2;subst h2;obtain⟨vs',h4,h5⟩:=F1 he hR l rs' vs1 h1 h3;refine⟨tmps.getD t undef::vs', ?_, .cons (he.2 t) h5⟩;have hF:(Jh tmps (.tmp t)).run P w= .ok (tmps.getD t undef) w:=rfl;simp only[aD,aB,aC,aA,hF,h4]
  ·cases hr
 | .cell a t::l,rs,vs,h,hr=>by
  simp only[Du]at h;have hv:=he.2 a;split at h
  ·rename_i n rs' h1 h2 h3;injection h with h
   subst h;simp only[zT]at hr;split at hr
   ·rename_i v vs1 h4 h5;injection hr with hr
    subst hr;obtain⟨vs',h6,h7⟩:=F1 he hR l rs' vs1 h3 h5;simp only[C3]at h4;split at h4
    ·rename_i b o hb;rw[hb]at hv;obtain⟨g,hg,hq⟩:=hv.ptr_inv;obtain⟨x,hx,h4⟩:=Option.bind_eq_some_iff.1 h4;obtain⟨cs,hcs,rfl⟩:=Option.map_eq_some_iff.1 h4;obtain⟨cs',k1,k2⟩:=hR.reads hx hg hcs;refine⟨.agg cs'.toArray::vs', ?_, .cons (.agg k2) h7⟩
     have hF:(Jh tmps (.cell a t)).run P w= .ok (.agg cs'.toArray) w:=by
      simp only[Jh,aB,hq,asAddr,aC,aA,loadVar,vS h1,if_true,fF h2,k1 P w rfl]
     simp only[aD,aB,aC,aA,hF,h6]
    ·cases h4
   ·cases hr
  ·rename_i n rs' h1 h2 h3;injection h with h
   subst h;simp only[zT]at hr;split at hr
   ·rename_i v vs1 h4 h5;injection hr with hr
    subst hr;obtain⟨vs',h6,h7⟩:=F1 he hR l rs' vs1 h3 h5;simp only[C3]at h4;split at h4
    ·rename_i b o hb;rw[hb]at hv;obtain⟨g,hg,hq⟩:=hv.ptr_inv;obtain⟨x,hx,h4⟩:=Option.bind_eq_some_iff.1 h4;obtain⟨v',k1,k2⟩:=(hR.get hx hg.1).cell hg.2 o v h4;refine⟨v'::vs', ?_, .cons k2 h7⟩
     have hF:(Jh tmps (.cell a t)).run P w= .ok v' w:=by
      simp only[Jh,aB,hq,asAddr,aC,aA,loadVar,vS h1,Bool.false_eq_true,if_false,run_load,k1]
     simp only[aD,aB,aC,aA,hF,h6]
    ·cases h4
   ·cases hr
  ·cases h
theorem Ml {f:FuncId}{af:AFn}(h:LC P f=some af)(hM:lG T)(hT: ∀g,LL P g (T g)):LL P f (Ui T af):=by
 unfold LC at h;split at h
 ·rename_i fn hfn;split at h
  ·rename_i c hb hen;split at h
   ·rename_i ac rs h1 h2;injection h with h
    subst h;intro B μ σ w args cargs K hw hR ha;obtain⟨hlen,hw⟩:=hw
    have hcall:lM P f:=by
     unfold IP at hen;rw[hfn]at hen;simp only[Bool.and_eq_true,Bool.not_eq_true']at hen;exact⟨fn,hfn,hen.1,hen.2⟩
    refine⟨hcall,calls_of_wp hfn hb ?_⟩;have hsz:cargs.size=args.length:=by simpa using ha.length.symm
    have henv:cq μ fn.ntmps (br.of args) (cargs++Array.replicate (fn.ntmps-cargs.size) undef):=by
     refine⟨by simp only[Array.size_append,Array.size_replicate];simp only at hlen;omega,fun t=> ?_⟩;unfold br.of;by_cases ht:t<args.length
     ·obtain⟨v',h3,h4⟩:=ha.get t args[t] (aE ht)
      have:(cargs++Array.replicate (fn.ntmps-cargs.size) undef).getD t undef=v':=by
       simp only[Array.getD_eq_getD_getElem?];rw[Array.getElem?_append_left (by omega)];have:cargs[t]?=some v':=by simpa using h3
       simp[this]
      rw[this,aE ht];exact h4
     ·have:(cargs++Array.replicate (fn.ntmps-cargs.size) undef).getD t undef=undef:=by
       simp only[Array.getD_eq_getD_getElem?];rw[Array.getElem?_append_right (by omega),Array.getElem?_replicate];split<;>rfl
      rw[this,List.getElem?_eq_none (by omega)];exact VR.undef μ
    refine wp_mono (Oa hM hT c ac h1 _ _ σ μ ⟨_,[]⟩ w hw hR henv rfl) fun x a' w' hx=> ?_
    obtain⟨ax,e',σ',μ',hxr,hq,g1,g2,g3,g4,g5⟩:=hx
    have fin:(match zT e' σ' rs with
      |some vs=>K (qp vs) σ'
      |none=>False)→a'.defers=[]∧∃v,(results fn a'.tmps).run P w'= .ok v w'∧Rq P B μ w K (.returned v) w':=by
     intro hq;refine⟨g4, ?_⟩;split at hq
     ·rename_i vs hvs;obtain⟨vs',k1,k2⟩:=F1 (P:=P) g3 g2 fn.results.toList rs vs h2 hvs;have hl:=k2.length;refine⟨qp vs', ?_,_,σ',_,μ',rfl,hq,g1,g2, ?_,g5,rfl⟩
      ·rw[Ji,Array.mapM_eq_mapM_toList];simp only[aB,Sem.run_map,k1,aA,aC]
       congr 1
       match vs',hl with
       |[],_=>rfl
       |[v],_=>rfl
       |v::u::r,_=>simp[qp]
      ·match vs,vs',k2 with
       |[],_, .nil=>exact .tuple .nil
       |[v],_, .cons h .nil=>exact h
       |v::u::r,_, .cons h (.cons h' t)=>exact .tuple (.cons h (.cons h' t))
     ·exact hq.elim
    cases ax with
    |normal=>
     cases x<;>simp[oC]at hxr;exact fin hq
    |exit id=>exact hq.elim
    |ret=>
     cases x<;>simp[oC]at hxr;exact fin hq
   ·cases h
  ·cases h
 ·cases h
end
end
section
open Go.RowKit
section
variable {P:Program} {f:FuncId} {S S':Fu}
end
def Hp.Ok (σ:Hp):Prop:= ∀b x,σ.m b=some x→b<σ.n
section
variable {P:Program} {f:FuncId} {S S':Fu} {σ σ1:Hp} {K:Value→Hp→Prop}
end
section
variable {T:dn}
end
end
section
section
variable {T:dn} {Q:AExit→br→Hp→Prop} {q:br→Hp→Prop} {e:br} {σ σ':Hp} {a b:AC} {k:Value→Hp→Prop} {v:Value} {K:Value→Hp→Prop}
end
end
section
def PX (s:Fu):Prop:= ∀args σ (K K':Value→Hp→Prop),(∀r σ',K r σ'→K' r σ')→s args σ K→s args σ K'
section
variable {T:dn} {Q:AExit→br→Hp→Prop} {e:br} {σ:Hp} {b:AC} {I:br→Hp→Prop} {m:br→Hp→Nat} {e0:br} {σ0:Hp}
end
section
variable {k:IntKind} {a b:Int}
end
section
variable {a b c d:Value} {l:List Value}
end
section
variable {σ:Hp} {x y:Blk} {i b o:Nat} {z:Option Blk}
end
section
variable {e:br} {σ:Hp} {rs:List ARes} {t n b o:Nat}
end
section
variable {T:dn} {e:br} {σ:Hp} {k:Value→Hp→Prop} {q:br→Hp→Prop}
end
section
variable {T:dn} {q:br→Hp→Prop} {r:List SItem} {e:br} {σ:Hp} {i:Nat} {d:Option Nat} {kp:Bool} {is:List Nat} {chk:List (Nat×(Hp→Prop))}
end
end
section
section
variable {T:dn} {e:br} {σ:Hp} {k:Value→Hp→Prop}
end
section
variable {σ:Hp} {x:Blk} {i b:Nat} {z:Option Blk}
end
end
section
open IntKind renaming bits → aA, max → aB, min → aC, signed → aD
open List renaming getElem?_eq_none → aE
open Go.RowKit (Below)
structure Row where
 c:Nat
 o:Nat
 ext:Nat
 es:Nat
 cells:List Value
def GB (P:Program)(w:World):Prop:=P.globalNamed "internal/strconv.uint64pow10" ≠none→Lib.TabIs P w "internal/strconv.uint64pow10" .u64 Lib.pow10Tab
def Base.of {P:Program}(w:World)(hT:GB P w):Base P:=⟨w.heap.size,fun b=>w.heap[b]?,fun w' _ hh hne=>by
 have h:=hT hne;unfold Lib.TabIs World.var? at h⊢;cases hg:P.globalNamed "internal/strconv.uint64pow10" with
 |none=>exact(hne hg).elim
 |some g=>
  simp only[hg,zG]at h⊢
  have hlt:g<w.heap.size:=by
   rcases Nat.lt_or_ge g w.heap.size with h'|h'
   ·exact h'
   ·rw[Array.getElem?_eq_none h']at h;cases h
  rw[hh g hlt]
  exact h⟩
def gx (rows:List Row):Mu:=fun i=>(rows[i]?).map fun r=>⟨r.c,r.o,r.ext,r.es,0,none⟩
def iZ (size:Nat)(rows:List Row):Hp:={m:=fun i=>(rows[i]?).bind fun r=>if r.c<size then some ⟨r.cells,false,r.es⟩else none,n:=rows.length}
theorem QQ {P:Program}{w:World}(hT:GB P w){rows:List Row}(h: ∀r∈rows,∀(i:Nat) (v:Value),r.cells[i]?=some v→∃v',w.cell? ⟨r.c,r.o+i,none⟩=some v'∧VR (gx rows) v v'):
  R (Base.of w hT) (gx rows) (iZ w.heap.size rows) w:=by
 refine⟨Nat.le_refl _,fun _ _=>rfl,fun b hb=> ?_,fun b x hx=> ?_,fun b b' x x' g g' hx _ _ ho=> ?_,fun b x g _ hg hi _ _=>(by
  simp only[gx]at hg;cases hr:rows[b]? with
  |none=>rw[hr]at hg;cases hg
  |some r=>rw[hr]at hg;injection hg with hg;subst hg;cases hi)⟩
 ·simp only[gx,aE hb,Option.map_none]
 ·simp only[iZ]at hx;cases hr:rows[b]? with
  |none=>rw[hr]at hx;cases hx
  |some r=>
   rw[hr,zG]at hx;split at hx
   ·rename_i hlt;injection hx with hx
    subst hx;refine⟨⟨r.c,r.o,r.ext,r.es,0,none⟩,by simp only[gx,hr,Option.map_some],hlt,rfl,fun _ i v hv=>h r (List.mem_of_getElem? hr) i v hv,fun _ ho=>(by cases ho),fun _ hs=>(by cases hs),fun hs=>(by cases hs),fun _ hs=>by cases hs⟩
   ·cases hx
 ·simp only[iZ]at hx;cases hr:rows[b]? with
  |none=>rw[hr]at hx;cases hx
  |some r=>
   rw[hr,zG]at hx;split at hx
   ·injection hx with hx
    subst hx;cases ho
   ·cases hx
theorem Pq {size:Nat}{rows:List Row}:(iZ size rows).Ok:=by
 intro b x hx;rcases Nat.lt_or_ge b rows.length with h|h
 ·exact h
 ·simp only[iZ,aE h,Option.bind_none]at hx;cases hx
theorem QB {P:Program}{f:FuncId}{S:Fu}(hs:LL P f S){w:World}(hT:GB P w){rows:List Row}{args:List Value}{cargs:Array Value}
  (hrows: ∀r∈rows,∀(i:Nat) (v:Value),r.cells[i]?=some v→∃v',w.cell? ⟨r.c,r.o+i,none⟩=some v'∧VR (gx rows) v v')
  (hargs:F2 (VR (gx rows)) args cargs.toList) (h:S args (iZ w.heap.size rows) fun r _=>r= .bool true):
  Calls P f cargs w fun e w'=>e= .returned (.bool true)∧Below w.heap.size w w':=by
 refine(hs _ _ _ w args cargs _ h (QQ hT hrows) hargs).2.mono fun x w' hx=> ?_
 obtain⟨r,σ',r',μ',rfl,rfl,_,_,hr,hb,_⟩:=hx;cases hr;exact⟨rfl,hb⟩
section
variable {k:IntKind} {w:World} {a:Option Addr} {len cap:Nat} {zs:List Int} {rows:List Row} {j:Nat}
theorem N8 {x:Addr}{v:Value}(h:w.cell? x=some v):x.block<w.heap.size:=by
 unfold World.cell? at h;split at h
 ·rename_i hb;exact(Array.getElem?_eq_some_iff.1 hb).1
 ·cases h
theorem Lq {x:Addr}{v:Value}(h:w.cell? (x.add 0)=some v):x.spot=none:=by
 have:=World.cell?_spot h;simpa[Addr.add]using this
theorem Cl {x:Addr}{i:Nat}{v:Value}(hs:x.spot=none)(h:w.cell? (x.add i)=some v):w.cell? ⟨x.block,x.off+i,none⟩=some v:=by
 obtain⟨b,o,s⟩:=x;simp only at hs;subst hs
 have:(⟨b,o,none⟩:Addr).add i=⟨b,o+i,none⟩:=by
  simp only[Addr.add];split
  ·rename_i h0;subst h0;rfl
  ·rfl
 rwa [this]at h
end
theorem QZ {n:Int}(h:(Lit.int .i64 n).wf=true): -9223372036854775808≤n∧n≤9223372036854775807:=by
 simpa[Lit.wf,aC,aB,aD,aA]using h
theorem Q0 {n:Int}(h:(Lit.int .u64 n).wf=true):0≤n∧n≤18446744073709551615:=by
 simpa[Lit.wf,aC,aB,aD,aA]using h
theorem RT {n:Int}(h:(Lit.int .u8 n).wf=true):0≤n∧n≤255:=by
 simpa[Lit.wf,aC,aB,aD,aA]using h
end
end Go.Ab
namespace Go.V
open Go.Ab
section
open List renaming replicate → aD
open Nat renaming beq → aA, ble → aB
open Option renaming none → aC
inductive Sh where
 |int (k:IntKind)
 |bool
 |str
 |list (s:Sh)
 |pair (a b:Sh)
 deriving DecidableEq
@[reducible] def El :Sh→Type
 | .int _=>Int
 | .bool=>Bool
 | .str=>List Int
 | .list s=>List (El s)
 | .pair a b=>El a×El b
def Sh.w :Sh→Nat
 | .pair a b=>a.w+b.w
 |_=>1
inductive VV where
 |undef
 |bool (b:Bool)
 |int (k:IntKind) (n:Int)
 |str (l:List Int)
 |nilp
 |nils
 |nilf
 |ptr (k o:Nat)
 |pix (k o n i:Nat)
 |pel (k i o:Nat)
 |pin (s:Sh) (x:El s) (o:Nat)
 |lst (s:Sh) (l:List (El s))
 |tgt (s:Sh) (l:List (El s))
 |full (k:Nat)
 |part (k lo n:Nat)
 |it (k:Nat) (l:List Int)
 |bld (k:Nat)
 |fn (f:Nat) (a c:List VV)
 |agg (l:List VV)
 |tup (l:List VV)
inductive Blk where
 |dead
 |cells (es:Nat) (fz:Bool) (l:List VV)
 |arr (s:Sh) (fz:Bool) (l:List (El s))
abbrev ae :=List Blk
abbrev bu :=List VV
def ey :bu→Nat→VV
 |[],_=> .undef
 |v::_,0=>v
 |_::r,n+1=>ey r n
def iH :bu→Nat→VV→bu
 |[],0,v=>[v]
 |[],n+1,v=> .undef::iH [] n v
 |_::r,0,v=>v::r
 |a::r,n+1,v=>a::iH r n v
def putO (e:bu)(d:Option Nat)(v:VV):bu:=match d with
 |some d=>iH e d v
 |none=>e
def aa :ae→Nat→Blk
 |[],_=> .dead
 |b::_,0=>b
 |_::r,n+1=>aa r n
def dQ :ae→Nat→Blk→ae
 |[],_,_=>[]
 |_::r,0,b=>b::r
 |a::r,n+1,b=>a::dQ r n b
def nth {α:Type}:List α→Nat→Option α
 |[],_=>none
 |v::_,0=>some v
 |_::r,n+1=>nth r n
def Bh :Value→VV
 | .bool b=> .bool b
 | .int k n=> .int k n
 | .string s=> .str (ak s)
 | .pointer none=> .nilp
 | .slice none 0 0=> .nils
 | .nilFunc=> .nilf
 |_=> .undef
def Th :Value→VV
 | .agg cs=> .agg (cs.toList.map Bh)
 |v=>Bh v
def ev (e:bu):Operand→VV
 | .tmp t=>ey e t
 | .const v=>Th v
 | .func f=> .fn f [] []
 | .global _=> .undef
def Pc :VV→Bool
 | .undef| .agg _| .tup _=>false
 |_=>true
def fS :VV→List VV
 | .agg l=>l
 |v=>[v]
def ce :(s:Sh)→El s→List VV
 | .int k,n=>[.int k n]
 | .bool,b=>[.bool b]
 | .str,l=>[.str l]
 | .list s,l=>[.lst s l]
 | .pair a b,x=>ce a x.1++ce b x.2
def cv (s:Sh)(l:List (El s)):List VV:=l.flatMap (ce s)
def eU (s' s:Sh)(x:El s'):Option (El s):=if h:s'=s then some (h▸x)else none
def Au {α:Type}(f:List VV→Option (α×List VV)):Nat→List VV→Option (List α)
 |_,[]=>some []
 |0,_::_=>none
 |n+1,v::l=>(f (v::l)).bind fun p=>(Au f n p.2).bind fun r=>some (p.1::r)
def Blk.frozen :Blk→Bool
 | .dead=>true
 | .cells _ z _=>z
 | .arr _ z _=>z
def oB (s:Sh)(f:List VV→Option (El s×List VV)):Blk→Option (List (El s))
 | .dead=>none
 | .arr s' _ l=>eU (.list s') (.list s) l
 | .cells es _ l=>bif aA es s.w then Au f l.length l else none
def uN (S:ae)(s:Sh)(f:List VV→Option (El s×List VV)):VV→Option (List (El s))
 | .nils=>some []
 | .lst s' l=>eU (.list s') (.list s) l
 | .full k=>oB s f (aa S k)
 | .part k lo n=>(oB s f (aa S k)).bind fun l=>some ((l.drop lo).take n)
 |_=>none
def FR (S:ae)(s:Sh)(f:List VV→Option (El s×List VV)):VV→Option (List (El s))
 | .full k=>bif (aa S k).frozen then uN S s f (.full k)else none
 | .part k lo n=>bif (aa S k).frozen then uN S s f (.part k lo n)else none
 |v=>uN S s f v
def eb (S:ae):(s:Sh)→List VV→Option (El s×List VV)
 | .int k, .int k' n::r=>bif decide (k'=k)then some (n,r)else none
 | .bool, .bool b::r=>some (b,r)
 | .str, .str l::r=>some (l,r)
 | .list s,v::r=>(FR S s (eb S s) v).bind fun l=>some (l,r)
 | .pair a b,l=>(eb S a l).bind fun p=>(eb S b p.2).bind fun q=>some ((p.1,q.1),q.2)
 |_,_=>none
def J7 (S:ae)(s:Sh)(v:VV):Option (List (El s)):=uN S s (eb S s) v
def Blk.freeze :Blk→Blk
 | .dead=> .dead
 | .cells es _ l=> .cells es true l
 | .arr s _ l=> .arr s true l
def Rp :Nat→ae→VV→ae
 |0,S,_=>S
 |n+1,S,v=>match v with
  | .full k=>(match aa S k with
   | .cells es _ l=>l.foldl (Rp n) (dQ S k (.cells es true l))
   |b=>dQ S k b.freeze)
  | .part k _ _=>(match aa S k with
   | .cells es _ l=>l.foldl (Rp n) (dQ S k (.cells es true l))
   |b=>dQ S k b.freeze)
  |_=>S
def xz (S:ae)(l:List VV):ae:=l.foldl (Rp 3) S
def Ov (S:ae):VV→ae
 | .full k=>(match aa S k with
  | .cells _ _ l=>xz S l
  |_=>S)
 | .part k _ _=>(match aa S k with
  | .cells _ _ l=>xz S l
  |_=>S)
 |_=>S
section
variable {β:Type}
def gd (b:Bool)(x:Option β):Option β:=cond b x none
def ix (i:Int)(n:Nat):Option Nat:=cond (decide (0≤i)&&decide (i<n)) (some i.toNat) none
def rd {α:Type}(l:List α)(i:Int):Option α:=cond (decide (0≤i)) l[i.toNat]? none
def Nq (p:Bool):VV→VV→Option VV
 | .int k x, .int k' y=>cond (decide (k=k')) (some (.int k (cond p x y))) none
 | .bool x, .bool y=>some (.bool (cond p x y))
 | .str x, .str y=>some (.str (cond p x y))
 |_,_=>none
def Na (p:Bool)(x y:VV)(S:ae)(k:VV→ae→Option β):Option β:=match Nq p x y with
 |some v=>k v S
 |none=>cond p (k x S) (k y S)
def nf :IntKind→List VV→Option (List Int)
 |_,[]=>some []
 |k, .int k' n::r=>cond (decide (k'=k)) ((nf k r).bind fun l=>some (n::l)) none
 |_,_=>none
def Ce :List VV→Option (List Bool)
 |[]=>some []
 | .bool b::r=>(Ce r).bind fun l=>some (b::l)
 |_=>none
def Ih :List VV→Option (List (List Int))
 |[]=>some []
 | .str b::r=>(Ih r).bind fun l=>some (b::l)
 |_=>none
def Kh (S:ae)(k:VV→ae→Option β):List VV→Nat→Option β
 |[],_=>none
 |v::r,i=>cond (aA i 0) (k v S) (Kh S k r (i-1))
def GI (cs:List VV)(i:Nat)(S:ae)(k:VV→ae→Option β):Option β:=match cs with
 | .int kd n::r=>(match nf kd r with
  |some l=>k (.int kd ((n::l).getD i 0)) S
  |none=>none)
 | .bool b::r=>(match Ce r with
  |some l=>k (.bool ((b::l).getD i false)) S
  |none=>none)
 | .str b::r=>(match Ih r with
  |some l=>k (.str ((b::l).getD i [])) S
  |none=>none)
 |cs=>Kh S k cs i
def De (v:VV):List VV→Nat→Nat→Option (List VV)
 |[],_,_=>some []
 |c::r,i,j=>(Nq (aA i j) v c).bind fun x=>(De v r i (j+1)).bind fun l=>some (x::l)
def Pv (cells:List VV)(o:Nat):List VV→List VV
 |[]=>cells
 |v::vs=>Pv (cells.set o v) (o+1) vs
def Az (cells:List VV):List (Nat×Nat×VV)→Option (List VV)
 |[]=>some cells
 |(off,size,v)::rest=>
  cond (aA (fS v).length size&&aB (off+size) cells.length&&(fS v).all Pc) (Az (cells.take off++fS v++cells.drop (off+size)) rest) none
def qK (e:bu)(l:List (Nat×Nat×Operand)):List (Nat×Nat×VV):=l.map fun(o,s,x)=>(o,s,ev e x)
def gO (l:List VV):Bool:=l.all Pc
def EV (S:ae)(n:Nat)(agg:Bool)(a:VV)(k:VV→ae→Option β):Option β:=
 let out (cs:List VV) (o:Nat):Option β:=cond agg (gd (aB (o+n) cs.length) (k (.agg ((cs.drop o).take n)) S)) (match nth cs o with
  |some v=>k v S
  |none=>none)
 match a with
 | .ptr b o=>(match aa S b with
  | .cells _ _ l=>out l o
  |_=>none)
 | .pix b o m i=>(match aa S b with
  | .cells _ _ l=>gd (!agg&&aB (o+m) l.length) (GI ((l.drop o).take m) i S k)
  |_=>none)
 | .pel b i o=>(match aa S b with
  | .arr s _ l=>(l[i]?).bind fun x=>out (ce s x) o
  |_=>none)
 | .pin s x o=>out (ce s x) o
 |_=>none
def Jz (S:ae)(a:VV)(cs:List VV)(k:ae→Option β):Option β:=match a with
 | .ptr b o=>(match aa S b with
  | .cells es false l=>gd (aB (o+cs.length) l.length) (k (dQ S b (.cells es false (Pv l o cs))))
  |_=>none)
 | .pix b o m i=>(match aa S b,cs with
  | .cells es false l,[v]=>gd (aB (o+m) l.length) (match De v ((l.drop o).take m) i 0 with
   |some l'=>k (dQ S b (.cells es false (l.take o++l'++l.drop (o+m))))
   |none=>none)
  |_,_=>none)
 | .pel b i o=>(match aa (xz S cs) b with
  | .arr s false l=>(l[i]?).bind fun x=>(match eb (xz S cs) s (Pv (ce s x) o cs)with
   |some (y,[])=>gd (aB (o+cs.length) s.w) (k (dQ (xz S cs) b (.arr s false (l.set i y))))
   |_=>none)
  |_=>none)
 |_=>none
def oA (k:IntKind)(f:BitVec k.bits→BitVec k.bits→BitVec k.bits)(x y:Int):Int:=k.wrap (f (BitVec.ofInt k.bits x) (BitVec.ofInt k.bits y)).toNat
def IC (op:BinOp)(kd:IntKind)(x y:Int)(k:VV→Option β):Option β:=match op with
 | .add=>k (.int kd (kd.wrap (x+y)))
 | .sub=>k (.int kd (kd.wrap (x-y)))
 | .mul=>k (.int kd (kd.wrap (x*y)))
 | .quo=>gd (decide (y≠0)) (k (.int kd (kd.wrap (x.tdiv y))))
 | .rem=>gd (decide (y≠0)) (k (.int kd (x.tmod y)))
 | .and=>k (.int kd (oA kd (· &&& ·) x y))
 | .or=>k (.int kd (oA kd (· ||| ·) x y))
 | .xor=>k (.int kd (oA kd (· ^^^ ·) x y))
 | .andNot=>k (.int kd (oA kd (fun a b=>a&&& ~~~b) x y))
 | .eql=>k (.bool (decide (x=y)))
 | .neq=>k (.bool (decide (x≠y)))
 | .lss=>k (.bool (decide (x<y)))
 | .leq=>k (.bool (decide (x≤y)))
 | .gtr=>k (.bool (decide (y<x)))
 | .geq=>k (.bool (decide (y≤x)))
 |_=>none
def Nx (op:BinOp)(kd:IntKind)(x y:Int)(k:VV→Option β):Option β:=match op with
 | .shl=>gd (decide (0≤y)) (k (.int kd (kd.wrap (x*2 ^ (min y.toNat kd.bits)))))
 | .shr=>gd (decide (0≤y)) (k (.int kd (x.fdiv (2 ^ (min y.toNat kd.bits)))))
 |_=>none
def lK (a b:Nat):Bool:=aB (a+b) 9223372036854775807
def RP (op:BinOp)(x y:List Int)(k:VV→Option β):Option β:=match op with
 | .add=>gd (lK x.length y.length) (k (.str (x++y)))
 | .eql=>k (.bool (decide (x=y)))
 | .neq=>k (.bool (decide (x≠y)))
 |_=>none
def Ql (op:BinOp)(x y:VV)(k:VV→Option β):Option β:=match x,y with
 | .int kx a, .int ky b=>cond (mn op) (Nx op kx a b k) (cond (decide (kx=ky)) (IC op kx a b k) none)
 | .str a, .str b=>cond (mn op) none (RP op a b k)
 |_,_=>none
def MR (neg p:Bool):Bool:=cond neg (!p) p
def Blk.live :Blk→Bool
 | .dead=>false
 |_=>true
def CF (S:ae):VV→Bool
 | .ptr k _=>(aa S k).live
 | .pix k _ _ _=>(aa S k).live
 | .pel k _ _=>(aa S k).live
 | .pin _ _ _=>true
 |_=>false
def Qs (S:ae):Nat→VV→VV→Option Bool
 |0, .bool a, .bool b=>some (a==b)
 |1, .nilp, .nilp=>some true
 |1, .nilp,v=>cond (CF S v) (some false) none
 |1,v, .nilp=>cond (CF S v) (some false) none
 |2, .nils, .nils=>some true
 |3, .nilf, .nilf=>some true
 |3, .nilf, .fn f _ _=>gd (!wd f) (some false)
 |3, .fn f _ _, .nilf=>gd (!wd f) (some false)
 |_,_,_=>none
def KO :Nat→VV→VV→Option Bool
 |0, .bool a, .bool b=>some (a==b)
 |1, .int k a, .int k' b=>cond (decide (k=k')) (some (decide (a=b))) none
 |2, .str a, .str b=>some (decide (a=b))
 |_,_,_=>none
def Ea :List Nat→List VV→List VV→Option Bool
 |[],[],[]=>some true
 |[k],[a],[b]=>KO k a b
 |k::ks,a::r,b::s=>(KO k a b).bind fun p=>(Ea ks r s).bind fun q=>some (p&&q)
 |_,_,_=>none
def Tl (op:UnOp)(x:VV)(k:VV→Option β):Option β:=match op,x with
 | .neg, .int kd n=>k (.int kd (kd.wrap (0-n)))
 | .xor, .int kd n=>k (.int kd (kd.wrap (BitVec.ofInt kd.bits (if kd.signed then-1 else kd.max) ^^^ BitVec.ofInt kd.bits n).toNat))
 | .not, .bool b=>k (.bool !b)
 |_,_=>none
def yq :VV→Option Int
 | .int _ n=>some n
 |_=>none
def lenOf (S:ae):VV→Option Nat
 | .nils=>some 0
 | .lst _ l=>some l.length
 | .full b=>(match aa S b with
  | .arr _ _ l=>some l.length
  | .cells es _ l=>some (l.length / es)
  | .dead=>none)
 | .part b _ n=>cond (aa S b).live (some n) none
 | .str l=>some l.length
 |_=>none
def fZ {α:Type}(l:List α)(lo hi:Int):List α:=(l.take hi.toNat).drop lo.toNat
def tx :Option VV→Option Int
 |none=>some 0
 |some v=>yq v
def nH (n:Nat):Option VV→Option Int
 |none=>some n
 |some v=>yq v
def cb (lo hi:Int)(n:Nat):Bool:=decide (0≤lo)&&decide (lo≤hi)&&decide (hi≤n)
def Js (S:ae)(es:Nat)(x:VV)(lo hi:Option VV)(k:VV→ae→Option β):Option β:=
 match lenOf S x with
 |none=>none
 |some n=>match tx lo,nH n hi with
  |some a,some b=>(match x with
   | .nils=>gd (cb a b n) (k .nils S)
   | .lst s l=>gd (aA es s.w) (match lo,hi with
    |none,none=>k (.lst s l) S
    |_,_=>gd (cb a b n) (k (.lst s (fZ l a b)) S))
   | .full q=>(match aa S q with
    | .arr s _ _=>gd (aA es s.w) (gd (cb a b n) (k (.part q a.toNat (b.toNat-a.toNat)) S))
    | .cells es' _ _=>gd (aA es es'&&aB 1 es) (gd (cb a b n) (k (.part q a.toNat (b.toNat-a.toNat)) S))
    | .dead=>none)
   | .part q o _=>(match aa S q with
    | .arr s _ _=>gd (aA es s.w) (gd (cb a b n) (k (.part q (o+a.toNat) (b.toNat-a.toNat)) S))
    | .cells es' _ _=>gd (aA es es'&&aB 1 es) (gd (cb a b n) (k (.part q (o+a.toNat) (b.toNat-a.toNat)) S))
    | .dead=>none)
   |_=>none)
  |_,_=>none
def zY (S:ae)(x:VV)(lo hi:Option VV)(k:VV→ae→Option β):Option β:=match x with
 | .str l=>(match tx lo,nH l.length hi with
  |some a,some b=>gd (cb a b l.length) (k (.str (fZ l a b)) S)
  |_,_=>none)
 |_=>none
def zX (S:ae)(es n:Nat)(x:VV)(lo hi:Option VV)(k:VV→ae→Option β):Option β:=match x with
 | .ptr b o=>(match aa S b with
  | .cells es' false l=>(match tx lo,nH n hi with
   |some a,some c=>gd (aA es es'&&aB 1 es&&aA (o % es) 0&&aB (o+n*es) l.length&&cb a c n&&decide (a<n)) (k (.part b (o / es+a.toNat) (c.toNat-a.toNat)) S)
   |_,_=>none)
  | .arr s false l=>(match tx lo,nH n hi with
   |some a,some c=>gd (aA es s.w&&aA o 0&&aB n l.length&&cb a c n&&decide (a<n)) (k (.part b a.toNat (c.toNat-a.toNat)) S)
   |_,_=>none)
  |_=>none)
 |_=>none
def Qz :Value→Bool
 | .int .u8 n=>decide (n=0)
 |_=>false
def II (es:Nat)(z:List Value):Bool:=aA es 1&&aB 20 z.length&&z.all Qz
def uD (es:Nat)(z:List Value):Blk:=cond (II es z) (.arr (.int .u8) false (aD z.length (0:Int))) (.cells es false (z.map Bh))
def QG (S:ae)(n:Nat):VV→Option VV
 | .ptr b o=>cond (aa S b).live (some (.ptr b (o+n))) none
 | .pel b i o=>cond (aa S b).live (some (.pel b i (o+n))) none
 | .pin s x o=>some (.pin s x (o+n))
 | .pix b o m i=>cond (aa S b).live (cond (aA n 0) (some (.pix b o m i)) none) none
 |_=>none
def Qv (S:ae)(es:Nat)(x i:VV)(k:VV→ae→Option β):Option β:=match i with
 | .int _ i=>(match x with
  | .lst s l=>gd (aA es s.w) ((rd l i).bind fun y=>k (.pin s y 0) S)
  | .full b=>(match aa S b with
   | .arr s _ l=>gd (aA es s.w) ((ix i l.length).bind fun j=>k (.pel b j 0) S)
   | .cells es' _ l=>gd (aA es es'&&aB 1 es) ((ix i (l.length / es)).bind fun j=>cond (aA es 1) (k (.pix b 0 l.length j) S) (k (.ptr b (j*es)) S))
   | .dead=>none)
  | .part b o n=>(match aa S b with
   | .arr s _ _=>gd (aA es s.w) ((ix i n).bind fun j=>k (.pel b (o+j) 0) S)
   | .cells es' _ _=>gd (aA es es'&&aB 1 es) ((ix i n).bind fun j=>cond (aA es 1) (k (.pix b o n j) S) (k (.ptr b ((o+j)*es)) S))
   | .dead=>none)
  |_=>none)
 |_=>none
def Mq (S:ae)(ln es:Nat)(x i:VV)(k:VV→ae→Option β):Option β:=match x,i with
 | .ptr b o, .int _ i=>gd (aa S b).live ((ix i ln).bind fun j=>cond (aA es 1) (k (.pix b o ln j) S) (k (.ptr b (o+j*es)) S))
 |_,_=>none
def rn (l:List VV)(a n:Nat):List VV:=(l.drop a).take n
def cG (n bytes:Nat):Bool:=decide (n*bytes≤140737488355328)&&aB 1 bytes
inductive Base where
 |none
 |cells (es:Nat) (l:List VV)
 |arr (s:Sh) (l:List (El s))
def qF (S:ae)(es:Nat):VV→Option (Base×Option Nat)
 | .nils=>some (.none,none)
 | .full b=>(match aa S b with
  | .arr s false l=>cond (aA es s.w) (some (.arr s l,some b)) aC
  | .cells es' false l=>cond (aA es es'&&aB 1 es) (some (.cells es l,some b)) aC
  |_=>aC)
 | .part b 0 n=>(match aa S b with
  | .arr s false l=>cond (aA es s.w) (some (.arr s (l.take n),some b)) aC
  | .cells es' false l=>cond (aA es es'&&aB 1 es) (some (.cells es (l.take (n*es)),some b)) aC
  |_=>aC)
 |_=>aC
inductive More where
 |cells (l:List VV)
 |lst (s:Sh) (l:List (El s))
def cX (S:ae)(es:Nat):VV→Option More
 | .nils=>some (.cells [])
 | .lst s l=>cond (aA es s.w) (some (.lst s l)) none
 | .str l=>cond (aA es 1) (some (.lst (.int .u8) l)) none
 | .full b=>(match aa S b with
  | .arr s _ l=>cond (aA es s.w) (some (.lst s l)) none
  | .cells es' _ l=>cond (aA es es'&&aB 1 es) (some (.cells l)) none
  |_=>none)
 | .part b o n=>(match aa S b with
  | .arr s _ l=>cond (aA es s.w) (some (.lst s ((l.drop o).take n))) none
  | .cells es' _ l=>cond (aA es es'&&aB 1 es) (some (.cells ((l.drop (o*es)).take (n*es)))) none
  |_=>none)
 |_=>none
def gY (S:ae):Option Nat→ae
 |none=>S
 |some b=>dQ S b .dead
def Ks (S:ae)(s:Sh)(l:List VV):Option (List (El s)):=Au (eb S s) l.length l
def FO (S:ae)(bytes:Nat)(s:Sh)(kill:Option Nat)(a b:List (El s))(k:VV→ae→Option β):Option β:=
 gd (cG (a.length+b.length) bytes) (k (.full S.length) (gY S kill++[.arr s false (a++b)]))
def Bq (S:ae)(es bytes:Nat)(bo:Option (Base×Option Nat))(mo:Option More)(k:VV→ae→Option β):Option β:=
 match bo,mo with
 |some (.arr s l,kill),some (.lst s' l')=>(eU (.list s') (.list s) l').bind fun l2=>FO S bytes s kill l l2 k
 |some (.arr s l,kill),some (.cells cs)=>(match aa (xz S cs) (kill.getD 0)with
  | .arr _ false _=>(Ks (xz S cs) s cs).bind fun l2=>FO (xz S cs) bytes s kill l l2 k
  |_=>none)
 |some (.cells _ l,kill),some (.lst s l')=>(match aa (xz S l) (kill.getD 0)with
  | .cells _ false _=>(Ks (xz S l) s l).bind fun l1=>FO (xz S l) bytes s kill l1 l' k
  |_=>none)
 |some (.none,kill),some (.lst s l')=>FO S bytes s kill [] l' k
 |some (.cells es l,kill),some (.cells cs)=>gd (cG ((l.length+cs.length) / es) bytes&&gO cs) (k (.full S.length) (gY S kill++[.cells es false (l++cs)]))
 |some (.none,kill),some (.cells cs)=>gd (cG (cs.length / es) bytes&&aB 1 es&&gO cs) (k (.full S.length) (gY S kill++[.cells es false cs]))
 |_,_=>none
def FA (S:ae)(es bytes:Nat)(x y:VV)(k:VV→ae→Option β):Option β:=Bq S es bytes (qF S es x) (cX S es y) k
def Dp (S:ae):VV→Option (ae×Base)
 | .lst s l=>some (S, .arr s l)
 | .full q=>(match aa S q with
  | .arr s _ l=>some (dQ S q (aa S q).freeze, .arr s l)
  |_=>none)
 |_=>none
def F9 (S:ae)(x hi mx:VV)(k:VV→ae→Option β):Option β:=match hi,mx with
 | .int _ h, .int _ m=>gd (decide (h=m)) (match x with
  | .nils=>gd (decide (h=0)) (k .nils S)
  |v=>(match Dp S v with
   |some (S1, .arr s l)=>gd (cb 0 h l.length) (k (.tgt s (l.take h.toNat)) S1)
   |_=>none))
 |_,_=>none
def JD (S:ae)(es bytes:Nat)(s:Sh)(l:List (El s))(mo:Option More)(k:VV→ae→Option β):Option β:=match mo with
 |some (.lst s' l')=>(eU (.list s') (.list s) l').bind fun l2=>gd (aA es s.w&&aB 1 l2.length) (FO S bytes s none l l2 k)
 |some (.cells cs)=>(Ks (xz S cs) s cs).bind fun l2=>gd (aA es s.w&&aB 1 l2.length) (FO (xz S cs) bytes s none l l2 k)
 |none=>none
def B7 (S:ae)(es bytes:Nat)(x y:VV)(k:VV→ae→Option β):Option β:=match x with
 | .tgt s l=>JD S es bytes s l (cX S es y) k
 |x=>FA S es bytes x y k
def tA (l:List Int)(i:Nat):Nat×Nat:=
 let at' (k:Nat):Nat:=(l.getD (i+k) 0).toNat
 let cont (k:Nat):Bool:=i+k<l.length&&at' k / 64==2
 let b0:=at' 0
 if b0<0x80 then(b0,1)
 else if b0 / 32==6&&cont 1 then
  let c:=(b0 % 32)*64+at' 1 % 64
  if c≥0x80 then(c,2)else(Utf8.runeError,1)
 else if b0 / 16==14&&cont 1&&cont 2 then
  let c:=(b0 % 16)*4096+(at' 1 % 64)*64+at' 2 % 64
  if c≥0x800&&Utf8.valid c then(c,3)else(Utf8.runeError,1)
 else if b0 / 8==30&&cont 1&&cont 2&&cont 3 then
  let c:=(b0 % 8)*262144+(at' 1 % 64)*4096+(at' 2 % 64)*64+at' 3 % 64
  if c≥0x10000&&Utf8.valid c then(c,4)else(Utf8.runeError,1)
 else(Utf8.runeError,1)
def fL (l:List Int)(p:Int):Int:=((tA l p.toNat).1:Nat)
def gf (l:List Int)(p:Int):Int:=((p.toNat+(tA l p.toNat).2:Nat):Int)
def lL (n:Int):List Int:=ak (Utf8.encode n)
def ji (n:Int):Int:=((UInt8.ofNat n.toNat).toNat:Nat)
def Hm (S:ae)(kd:IntKind)(v:VV)(k:Nat→Nat→Bool→List Int→List VV→Option β):Option β:=match v with
 | .fn f [] [.ptr q 0]=>gd (aA f (MQ kd)) (match aa S q with
  | .cells es fz (.str l::r)=>k q es fz l r
  |_=>none)
 |_=>none
def Qa :VV→Option Nat
 | .fn _ [] [.ptr q 0]=>some q
 |_=>none
def MU (S:ae)(v:VV)(k:VV→ae→Option β):Option β:=match v with
 | .it q l=>(match aa S q with
  | .cells es false (.int .i64 p::r)=>gd (decide (0≤p)&&aB 1 es) (cond (decide (p<l.length)) (k (.tup [.bool true, .int .i64 p, .int .i32 (fL l p)]) (dQ S q (.cells es false (.int .i64 (gf l p)::r)))) (k (.tup [.bool false]) S))
  |_=>none)
 |_=>none
def MP (S:ae)(v:VV)(k:VV→ae→Option β):Option β:=match v with
 | .full q=>(match aa S q with
  | .cells _ false (_::_)=>k (.full q) S
  |_=>none)
 |_=>none
def JA (S:ae)(v:VV)(k:VV→ae→Option β):Option β:=match v with
 | .str _=>none
 |v=>(match cX S 1 v with
  |some (.lst s l)=>(eU (.list s) (.list (.int .u8)) l).bind fun l2=>k (.str (l2.map ji)) S
  |some (.cells cs)=>(nf .u8 cs).bind fun l=>k (.str (l.map ji)) S
  |none=>none)
def NC (S:ae)(v:VV)(k:VV→ae→Option β):Option β:=match v with
 | .str _=>none
 |v=>(match cX S 1 v with
  |some (.lst s l)=>(eU (.list s) (.list (.int .i32)) l).bind fun l2=>k (.str (l2.flatMap lL)) S
  |some (.cells cs)=>(nf .i32 cs).bind fun l=>k (.str (l.flatMap lL)) S
  |none=>none)
def Da :Nat→List Int→Nat→List Int
 |0,_,_=>[]
 |b+1,l,i=>if i<l.length then(((tA l i).1:Nat):Int)::Da b l (i+(tA l i).2)else []
def qM (l:List Int):List Int:=Da l.length l 0
def Jj (S:ae)(v:VV)(k:VV→ae→Option β):Option β:=match v with
 | .str l=>gd (aB l.length 70368744177664) (k (.full S.length) (S++[.arr (.int .i32) false (qM l)]))
 |_=>none
def D3 {α:Type}(l:List α)(o n:Nat)(m:List α):List α:=l.take o++(m.take n++l.drop (o+min n m.length))
def yB (kd:IntKind)(m:List Int):Nat→List VV→Option (List VV)
 |_,[]=>some []
 |j, .int k n::r=>cond (decide (k=kd)) ((yB kd m (j+1) r).bind fun l=>some (.int k (m.getD j n)::l)) none
 |_,_=>none
def Mc (S:ae)(es:Nat)(d y:VV)(k:VV→ae→Option β):Option β:=
 let go (b o n:Nat):Option β:=match aa S b,cX S es y with
  | .arr s false l,some (.lst s' l')=>(eU (.list s') (.list s) l').bind fun l2=>gd (aA es s.w) (k (.int .i64 (min l2.length n:Nat)) (dQ S b (.arr s false (D3 l o n l2))))
  | .arr s false l,some (.cells cs)=>(nf .u64 cs).bind fun m=>(eU (.list (.int .u64)) (.list s) m).bind fun l2=>gd (aA es s.w) (k (.int .i64 (min l2.length n:Nat)) (dQ S b (.arr s false (D3 l o n l2))))
  | .cells 1 false l,some (.lst (.int kd) m)=>gd (aA es 1&&aB (o+n) l.length) (match yB kd m 0 ((l.drop o).take n)with
   |some c=>k (.int .i64 (min m.length n:Nat)) (dQ S b (.cells 1 false (l.take o++c++l.drop (o+n))))
   |none=>none)
  |_,_=>none
 match d with
 | .full b=>(match lenOf S d with
  |some n=>go b 0 n
  |none=>none)
 | .part b o n=>go b o n
 |_=>none
def AO :List Value→Option Sh
 |[.int k 0]=>some (.int k)
 |[.bool false]=>some .bool
 | .int k 0::r=>(AO r).bind fun s=>some (.pair (.int k) s)
 | .bool false::r=>(AO r).bind fun s=>some (.pair .bool s)
 |_=>none
def lv :(s:Sh)→El s
 | .int _=>(0:Int)
 | .bool=>false
 | .str=>[]
 | .list _=>[]
 | .pair a b=>(lv a,lv b)
def MN (S:ae)(es bytes:Nat)(z:List Value)(l c:VV)(k:VV→ae→Option β):Option β:=match l,c,AO z with
 | .int _ l, .int _ c,some s=>gd (aA es s.w&&decide (0≤l)&&decide (l≤c)&&decide (bytes*c≤140737488355328)&&aB 1 bytes) (k (.full S.length) (S++[.arr s false (aD l.toNat (lv s))]))
 |_,_,_=>none
def Is (es:Nat)(z:List Value)(l:Int):Option More:=match AO z with
 |some s=>cond (aA es s.w) (some (.lst s (aD l.toNat (lv s)))) none
 |none=>none
def vu (bytes:Nat)(l:Int):Bool:=decide (0≤l)&&(decide (l≤9223372036854775807)&&decide (l*(bytes:Int)≤281474976710656))
def B8 (S:ae)(es bytes:Nat)(z:List Value)(x l:VV)(k:VV→ae→Option β):Option β:=match l with
 | .int _ l=>gd (vu bytes l) (Bq S es bytes (qF S es x) (Is es z l) k)
 |_=>none
end
end
section
open List renaming replicate → aC
open Nat renaming beq → aA, ble → aB
inductive Sk where
 |undef
 |leaf (s:Sh)
 |cint (k:IntKind) (n:Int)
 |nilp
 |nils
 |nilf
 |ptr (j o:Nat)
 |full (j:Nat)
 |pin (s:Sh) (o:Nat)
 |fn (f:Nat) (a c:List Sk)
 |agg (l:List Sk)
 |tup (l:List Sk)
inductive OSk where
 |dead
 |cells (es:Nat) (ro:Bool) (l:List Sk)
 |arr (ro:Bool) (s:Sh)
structure Leaf where
 s:Sh
 v:El s
structure Src where
 k:Nat
 cut:Option Nat
structure DSt where
 m:List (Option Src)
 ls:List Leaf
 lent:List Nat
def DSt.push (st:DSt)(s:Sh)(v:El s):DSt:={st with ls:=st.ls++[⟨s,v⟩]}
def DSt.lend (st:DSt):VV→DSt
 | .full k=>{st with lent:=k::st.lent}
 | .part k _ _=>{st with lent:=k::st.lent}
 |_=>st
def DSt.link (N:Nat)(st:DSt)(j:Nat)(x:Option Src):Option DSt:=
 cond (Nat.blt j N) (match x with
  |some ⟨k,none⟩=>cond (aA k j) (some st) none
  |_=>none)
 (match nth st.m (j-N)with
 |some (some ⟨k,none⟩)=>(match x with
  |some ⟨k',none⟩=>cond (aA k k') (some st) none
  |_=>none)
 |some _=>none
 |none=>cond (aA (j-N) st.m.length) (some {st with m:=st.m++[x]}) none)
mutual
def zg (S:ae)(N:Nat):Sk→VV→DSt→Option DSt
 | .undef,_,st=>some st
 | .leaf s,v,st=>(match s,v with
  | .int k, .int k' n=>cond (decide (k'=k)) (some (st.push (.int k) n)) none
  | .bool, .bool b=>some (st.push .bool b)
  | .str, .str l=>some (st.push .str l)
  | .list s,v=>(J7 S s v).bind fun l=>some ((st.lend v).push (.list s) l)
  |_,_=>none)
 | .cint k n, .int k' n',st=>cond (decide (k'=k)&&decide (n'=n)) (some st) none
 | .nilp, .nilp,st=>some st
 | .nils, .nils,st=>some st
 | .nilf, .nilf,st=>some st
 | .ptr j o, .ptr k o',st=>cond (aA o o') (st.link N j (some ⟨k,none⟩)) none
 | .full j,v,st=>(match v with
  | .full k=>st.link N j (some ⟨k,none⟩)
  | .part k 0 n=>st.link N j (some ⟨k,some n⟩)
  | .nils=>st.link N j none
  |_=>none)
 | .pin s o, .pin s' x o',st=>cond (aA o o') ((eU s' s x).bind fun y=>some (st.push s y)) none
 | .fn f a c, .fn f' a' c',st=>cond (aA f f') ((xf S N a a' st).bind fun st1=>xf S N c c' st1) none
 | .agg l, .agg l',st=>xf S N l l' st
 | .tup l, .tup l',st=>xf S N l l' st
 |_,_,_=>none
def xf (S:ae)(N:Nat):List Sk→List VV→DSt→Option DSt
 |[],[],st=>some st
 |k::r,v::r',st=>(zg S N k v st).bind fun st1=>xf S N r r' st1
 |_,_,_=>none
end
def Cm {α:Type}:Option Nat→List α→List α
 |none,l=>l
 |some n,l=>l.take n
def IL (S:ae)(N:Nat):OSk→Option Src→DSt→Option DSt
 | .dead,_,st=>some st
 | .cells es ro l,some ⟨k,none⟩,st=>(match aa S k with
  | .cells es' fz cs=>cond (aA es es'&&(ro|| !fz)) (xf S N l cs (cond ro {st with lent:=k::st.lent} st)) none
  |_=>none)
 | .arr ro s,none,st=>cond ro none (some (st.push (.list s) []))
 | .arr ro s,some ⟨k,cut⟩,st=>cond (ro|| !(aa S k).frozen) ((J7 S s (.full k)).bind fun l=>some ((cond ro {st with lent:=k::st.lent} st).push (.list s) (Cm cut l))) none
 |_,_,_=>none
def zi (S:ae)(N:Nat):List OSk→List Nat→DSt→Option DSt
 |[],[],st=>some st
 |o::r,j::js,st=>(IL S N o (some ⟨j,none⟩) st).bind fun st1=>zi S N r js st1
 |_,_,_=>none
def kW (S:ae)(N:Nat):List OSk→Nat→DSt→Option DSt
 |[],i,st=>cond (aA i st.m.length) (some st) none
 |o::r,i,st=>(match nth st.m i with
  |some x=>(IL S N o x st).bind fun st1=>kW S N r (i+1) st1
  |none=>none)
def OSk.ro :OSk→Bool
 | .cells _ ro _=>ro
 | .arr ro _=>ro
 | .dead=>false
def eJ (k:Nat):List Nat→Bool
 |[]=>false
 |a::r=>cond (aA a k) true (eJ k r)
def wJ :List Nat→Bool
 |[]=>true
 |a::r=>cond (eJ a r) false (wJ r)
def gE :List (Option Src)→List Nat
 |[]=>[]
 |none::r=>gE r
 |some x::r=>x.k::gE r
def dX :List OSk→List (Option Src)→List Nat
 |o::r,some x::s=>cond o.ro (dX r s) (x.k::dX r s)
 |_::r,none::s=>dX r s
 |_,_=>[]
def sL (w:List Nat)(l:List Nat):Bool:=w.all fun k=> !eJ k l
structure iX where
 vals:List Sk
 fix:List OSk
 free:List OSk
def fT (S:ae)(N:Nat)(fx:List Nat)(sk:iX)(vals:List VV):Option DSt:=
 (xf S N sk.vals vals ⟨[],[],[]⟩).bind fun st=>(zi S N sk.fix fx st).bind fun st1=>(kW S N sk.free 0 st1).bind fun st2=>
  cond (wJ (fx++gE st2.m)&&sL (fx++dX sk.free st2.m) st2.lent) (some st2) none
mutual
def enc (f:Nat→Nat):Sk→List Leaf→Option (VV×List Leaf)
 | .undef,ls=>some (.undef,ls)
 | .leaf s,x::ls=>(eU x.s s x.v).bind fun(y:El s)=>some ((match s,y with
  | .int k,n=> .int k n
  | .bool,b=> .bool b
  | .str,l=> .str l
  | .list s,l=> .lst s l
  | .pair _ _,_=> .undef),ls)
 | .cint k n,ls=>some (.int k n,ls)
 | .nilp,ls=>some (.nilp,ls)
 | .nils,ls=>some (.nils,ls)
 | .nilf,ls=>some (.nilf,ls)
 | .ptr j o,ls=>some (.ptr (f j) o,ls)
 | .full j,ls=>some (.full (f j),ls)
 | .pin s o,x::ls=>(eU x.s s x.v).bind fun(y:El s)=>some (.pin s y o,ls)
 | .fn g a c,ls=>(D8 f a ls).bind fun p=>(D8 f c p.2).bind fun q=>some (.fn g p.1 q.1,q.2)
 | .agg l,ls=>(D8 f l ls).bind fun p=>some (.agg p.1,p.2)
 | .tup l,ls=>(D8 f l ls).bind fun p=>some (.tup p.1,p.2)
 |_,_=>none
def D8 (f:Nat→Nat):List Sk→List Leaf→Option (List VV×List Leaf)
 |[],ls=>some ([],ls)
 |k::r,ls=>(enc f k ls).bind fun p=>(D8 f r p.2).bind fun q=>some (p.1::q.1,q.2)
end
def D9 (f:Nat→Nat):OSk→List Leaf→Option (Blk×List Leaf)
 | .dead,ls=>some (.dead,ls)
 | .cells es ro l,ls=>(D8 f l ls).bind fun p=>some (.cells es ro p.1,p.2)
 | .arr ro s,x::ls=>(eU x.s (.list s) x.v).bind fun l=>some (.arr s ro l,ls)
 | .arr _ _,[]=>none
def tq (f:Nat→Nat):List OSk→List Leaf→Option (List Blk×List Leaf)
 |[],ls=>some ([],ls)
 |o::r,ls=>(D9 f o ls).bind fun p=>(tq f r p.2).bind fun q=>some (p.1::q.1,q.2)
def fK (f:Nat→Nat)(sk:iX)(ls:List Leaf):Option (List VV×List Blk×List Blk):=
 (D8 f sk.vals ls).bind fun p=>(tq f sk.fix p.2).bind fun q=>(tq f sk.free q.2).bind fun r=>match r.2 with
  |[]=>some (p.1,q.1,r.1)
  |_::_=>none
mutual
def Sk.shs :Sk→List Sh
 | .leaf s=>[s]
 | .pin s _=>[s]
 | .fn _ a c=>Jo a++Jo c
 | .agg l=>Jo l
 | .tup l=>Jo l
 |_=>[]
def Jo :List Sk→List Sh
 |[]=>[]
 |k::r=>k.shs++Jo r
end
def OSk.shs :OSk→List Sh
 | .dead=>[]
 | .cells _ _ l=>Jo l
 | .arr _ s=>[.list s]
def QT :List OSk→List Sh
 |[]=>[]
 |o::r=>o.shs++QT r
def iX.shs (sk:iX):List Sh:=Jo sk.vals++(QT sk.fix++QT sk.free)
@[reducible] def pQ :List Sh→Type
 |[]=>Unit
 |[s]=>El s
 |s::s'::r=>El s×pQ (s'::r)
def BB :(ss:List Sh)→pQ ss→List Leaf
 |[],_=>[]
 |[s],x=>[⟨s,x⟩]
 |s::s'::r,x=>⟨s,x.1⟩::BB (s'::r) x.2
def Gn :(ss:List Sh)→List Leaf→Option (pQ ss)
 |[],[]=>some ()
 |[s],[x]=>eU x.s s x.v
 |s::s'::r,x::ls=>(eU x.s s x.v).bind fun a=>(Gn (s'::r) ls).bind fun b=>some (a,b)
 |_,_=>none
inductive XK where
 |normal
 |exit (id:Nat)
 |ret
structure Alt where
 x:XK
 ts:List Nat
 sk:iX
@[reducible] def Alt.Ty (a:Alt):Type:=pQ a.sk.shs
@[reducible] def mV :List Alt→Type
 |[]=>Empty
 |[a]=>a.Ty
 |a::b::r=>a.Ty⊕mV (b::r)
def bt {α γ β:Type}(s:α⊕γ)(f:α→Option β)(g:γ→Option β):Option β:=match s with
 | .inl a=>f a
 | .inr b=>g b
def LW {β:Type}:(l:List Alt)→mV l→((a:Alt)→a.Ty→Option β)→Option β
 |[],_,_=>none
 |[a],t,k=>k a t
 |a::b::r,s,k=>bt s (fun t=>k a t) fun s'=>LW (b::r) s' k
def iX.noRo (sk:iX):Bool:=sk.fix.all (fun o=> !o.ro)&&sk.free.all fun o=> !o.ro
def Co (S:ae)(N:Nat)(fx:List Nat)(sk:iX)(vals:List VV):Option (pQ sk.shs):=
 gd sk.noRo ((fT S N fx sk vals).bind fun st=>Gn sk.shs st.ls)
def iX.fxRo (sk:iX):Bool:=sk.fix.all fun o=> !o.ro
def JV (S:ae)(N:Nat)(fx:List Nat)(sk:iX)(vals:List VV):Option (pQ sk.shs):=
 gd sk.fxRo ((fT S N fx sk vals).bind fun st=>Gn sk.shs st.ls)
def nG (S:ae)(N:Nat)(fx:List Nat)(vals:List Nat→List VV)(hit:XK→Bool):(l:List Alt)→Option (mV l)
 |[]=>none
 |[a]=>cond (hit a.x) (Co S N fx a.sk (vals a.ts)) none
 |a::b::r=>match cond (hit a.x) (Co S N fx a.sk (vals a.ts)) none with
  |some t=>some (.inl t)
  |none=>(nG S N fx vals hit (b::r)).bind fun s=>some (.inr s)
def Sh.al :Sh→Bool
 | .list _=>true
 | .pair a b=>a.al||b.al
 |_=>false
mutual
def Qj :VV→Bool
 | .lst _ _=>true
 | .tgt _ _=>true
 | .pin _ _ _=>true
 | .fn _ a c=>Ej a||Ej c
 | .agg l=>Ej l
 | .tup l=>Ej l
 |_=>false
def Ej :List VV→Bool
 |[]=>false
 |v::r=>Qj v||Ej r
end
def Ro :Blk→Bool
 | .dead=>false
 | .cells _ _ l=>Ej l
 | .arr s _ _=>s.al
def qi (vs:List VV)(fs bs:List Blk):Bool:=Ej vs||fs.any Ro||bs.any Ro
def Blk.may :Blk→Bool
 | .dead=>true
 | .cells _ z _=> !z
 | .arr _ z _=> !z
def Bi (S:ae)(fx:List Nat):Bool:=fx.all fun j=>Nat.blt j S.length&&(aa S j).may
structure FSum where
 f:Nat
 vals:List Sk
 objs:List OSk
 outs:List Alt
 run:pQ (iX.shs ⟨vals,[],objs⟩)→Option (mV outs)
def FSum.ins (F:FSum):iX:=⟨F.vals,[],F.objs⟩
def lf :List OSk→Nat→List Nat
 |[],_=>[]
 |o::r,i=>cond o.ro (lf r (i+1)) (i::lf r (i+1))
def nF (m:List (Option Src))(n size j:Nat):Nat:=cond (Nat.blt j n) (match nth m j with
 |some (some x)=>x.k
 |_=>size) (size+(j-n))
def nq :List Nat→List Blk→ae→Option ae
 |[],[],S=>some S
 |j::js,b::bs,S=>nq js bs (dQ S j b)
 |_,_,_=>none
def Ou (N:Nat)(free:List OSk):List Sk→List VV→ae→ae
 |k::r,v::vs,S=>Ou N free r vs (match k with
  | .full j=>(match nth free (j-N)with
   |some (.arr _ s)=>cond (s.al&&aB N j) (Ov S v) S
   |_=>S)
  |_=>S)
 |_,_,S=>S
def Mn :Sk→VV→ae→ae
 | .leaf (.list (.list _)),v,S=>Ov S v
 |_,_,S=>S
def uK :List Sk→List VV→ae→ae
 |k::r,v::vs,S=>uK r vs (Mn k v S)
 |_,_,S=>S
def tu :List Nat→ae→ae
 |[],S=>S
 |k::r,S=>tu r (dQ S k (aa S k).freeze)
def P1 {β:Type}(F:FSum)(t:pQ F.ins.shs)(st:DSt)(S:ae)(k:VV→ae→Option β):Option β:=
 (F.run t).bind fun o=>LW F.outs o fun a u=>match fK (nF st.m F.objs.length S.length) a.sk (BB a.sk.shs u)with
  |some ([v],fs,bs)=>(match nq (dX F.objs st.m) fs (cond (qi [v] fs bs) (tu st.lent S) S)with
   |some S'=>k v (S'++bs)
   |none=>none)
  |_=>none
def EN :List (Option Src)→Bool
 |[]=>true
 |some ⟨_,none⟩::r=>EN r
 |_=>false
def Ck {β:Type}:List FSum→Nat→List VV→ae→(VV→ae→Option β)→Option β
 |[],_,_,_,_=>none
 |F::r,f,args,S,k=>cond (aA F.f f) (match fT (uK F.vals args S) 0 [] F.ins args with
  |some st=>(match Gn F.ins.shs st.ls with
   |some t=>gd (EN st.m&&Bi (uK F.vals args S) (dX F.objs st.m)) (P1 F t st (uK F.vals args S) k)
   |none=>Ck r f args S k)
  |none=>Ck r f args S k) (Ck r f args S k)
structure Inl where
 f:Nat
 run:(β:Type)→List VV→ae→(VV→ae→Option β)→Option β
structure Tab where
 fs:List FSum
 is:List Inl
def Oy :List Inl→Nat→Bool
 |[],_=>false
 |I::r,f=>cond (aA I.f f) true (Oy r f)
def JS {β:Type}:List Inl→Nat→List VV→ae→(VV→ae→Option β)→Option β
 |[],_,_,_,_=>none
 |I::r,f,args,S,k=>cond (aA I.f f) (I.run β args S k) (JS r f args S k)
def JT {β:Type}(tab:Tab)(f:Nat)(args:List VV)(S:ae)(k:VV→ae→Option β):Option β:=
 cond (Oy tab.is f) (JS tab.is f args S k) (Ck tab.fs f args S k)
def yZ :Nat→List Nat
 |0=>[]
 |n+1=>n::yZ n
def Lf {β:Type}(S:ae)(x:Option VV)(k:VV→ae→Option β):Option β:=match x with
 |some v=>k v S
 |none=>none
def zp {β:Type}(tab:Tab)(op:AOp)(e:bu)(S:ae)(k:VV→ae→Option β):Option β:=match op with
 | .move x=>k (ev e x) S
 | .pick c a b=>(match ev e c with
  | .bool p=>Na p (ev e a) (ev e b) S k
  |_=>none)
 | .alloc es z=>gd (aB 1 es) (k (.ptr S.length 0) (S++[uD es z]))
 | .box es x=>gd (aB 1 es&&gO (fS (ev e x))) (k (.ptr S.length 0) (S++[.cells es false (fS (ev e x))]))
 | .build z ps=>(match Az (z.map Bh) (qK e ps)with
  |some cs=>k (.agg cs) S
  |none=>none)
 | .buildSlice es ln z ps=>(match Az ((aC ln (z.map Bh)).flatten) (qK e ps)with
  |some cs=>gd (gO cs&&aA (ln*es) cs.length&&aB 1 es) (k (.full S.length) (S++[.cells es false cs]))
  |none=>none)
 | .load x=>EV S 1 false (ev e x) k
 | .loadN n x=>EV S n true (ev e x) k
 | .store n a x=>gd (aA (fS (ev e x)).length n&&gO (fS (ev e x))) (Jz S (ev e a) (fS (ev e x)) fun S'=>k .undef S')
 | .nilCheck x=>(match ev e x with
  | .fn f a c=>gd (!wd f) (k (.fn f a c) S)
  |v=>gd (CF S v) (k v S))
 | .bin op x y=>Ql op (ev e x) (ev e y) fun v=>k v S
 | .eqv kd neg x y=>(match Qs S kd (ev e x) (ev e y)with
  |some b=>k (.bool (MR neg b)) S
  |none=>none)
 | .eqCells neg ks x y=>(match ev e x,ev e y with
  | .agg a, .agg b=>(match Ea ks a b with
   |some p=>k (.bool (MR neg p)) S
   |none=>none)
  |_,_=>none)
 | .un op x=>Tl op (ev e x) fun v=>k v S
 | .conv kd x=>(match yq (ev e x)with
  |some n=>k (.int kd (kd.wrap n)) S
  |none=>none)
 | .mkFunc f a c=>gd (!wd f) (k (.fn f (a.map (ev e)) (c.map (ev e))) S)
 | .makeSlice es bytes z l c=>MN S es bytes z (ev e l) (ev e c) k
 | .slice es x lo hi=>Js S es (ev e x) (lo.map (ev e)) (hi.map (ev e)) k
 | .sliceStr x lo hi=>zY S (ev e x) (lo.map (ev e)) (hi.map (ev e)) k
 | .sliceArr es n x lo hi=>zX S es n (ev e x) (lo.map (ev e)) (hi.map (ev e)) k
 | .off n x=>Lf S (QG S n (ev e x)) k
 | .idx es x i=>Qv S es (ev e x) (ev e i) k
 | .idxA ln es x i=>Mq S ln es (ev e x) (ev e i) k
 | .fieldV o n agg x=>(match ev e x with
  | .agg cs=>cond agg (k (.agg (rn cs o n)) S) (Lf S (nth cs o) k)
  |_=>none)
 | .indexV ln es agg x i=>(match ev e x,ev e i with
  | .agg cs, .int _ i=>(ix i ln).bind fun j=>cond agg (k (.agg (rn cs (j*es) es)) S) (gd (aA es 1&&aA cs.length ln) (GI cs j S k))
  |_,_=>none)
 | .indexS x i=>(match ev e x,ev e i with
  | .str l, .int _ i=>(rd l i).bind fun b=>k (.int .u8 b) S
  |_,_=>none)
 | .extract x i=>(match ev e x with
  | .tup vs=>Lf S (nth vs i) k
  |_=>none)
 | .call f xs=>JT tab f (xs.map (ev e)) S k
 | .callv x xs=>(match ev e x with
  | .fn f a c=>gd (!wd f) (JT tab f (a++xs.map (ev e)++c) S k)
  |_=>none)
 | .append es bytes s x=>B7 S es bytes (ev e s) (ev e x) k
 | .stuck=>none
 | .range x=>(match ev e x with
  | .str l=>k (.it S.length l) (S++[.cells 1 false [.int .i64 0]])
  |_=>none)
 | .next x=>MU S (ev e x) k
 | .newB=>k (.bld S.length) (S++[.cells 1 false [.str []]])
 | .makeM kd=>k (.fn (MQ kd) [] [.ptr S.length 0]) (S++[.cells 1 false [.str []]])
 | .lookM kd ok x i=>(match ev e i with
  | .str key=>Hm S kd (ev e x) fun _ _ _ l _=>k (cond ok (.tup [.int kd ((fV l key).getD 0), .bool (fV l key).isSome]) (.int kd ((fV l key).getD 0))) S
  |_=>none)
 | .updM kd x i v=>(match ev e i,ev e v with
  | .str key, .int k' n=>Hm S kd (ev e x) fun q es fz l r=>gd (decide (k'=kd)&& !fz) (k .undef (dQ S q (.cells es false (.str (lJ l key n)::r))))
  |_,_=>none)
 | .lenM kd x=>Hm S kd (ev e x) fun _ _ _ l _=>k (.int .i64 (rB l)) S
 | .encR x=>(match yq (ev e x)with
  |some n=>k (.str (lL n)) S
  |none=>none)
 | .strOf x=>JA S (ev e x) k
 | .strOfR x=>NC S (ev e x) k
 | .runesOf x=>Jj S (ev e x) k
 | .mark x=>MP S (ev e x) k
 | .capN x=>(match ev e x with
  | .nils=>k (.int .i64 0) S
  |_=>none)
 | .sliceX x hi mx=>F9 S (ev e x) (ev e hi) (ev e mx) k
 | .appendZ es bytes z s x=>B8 S es bytes z (ev e s) (ev e x) k
 | .copy es d s=>Mc S es (ev e d) (ev e s) k
 | .len x=>(match ev e x with
  | .str _=>none
  |v=>(match lenOf S v with
   |some n=>k (.int .i64 n) S
   |none=>none))
 | .lenS x=>(match ev e x with
  | .str l=>k (.int .i64 l.length) S
  |_=>none)
 | .lenC n=>k (.int .i64 n) S
 | .most x y=>(match ev e x,ev e y with
  | .int kd a, .int _ b=>k (.int kd (max a b)) S
  |_,_=>none)
 | .least x y=>(match ev e x,ev e y with
  | .int kd a, .int _ b=>k (.int kd (min a b)) S
  |_,_=>none)
section
variable (tab:Tab)
def uG {β:Type}:List AOper→bu→ae→(bu→ae→Option β)→Option β
 |[],e,S,k=>k e S
 |o::r,e,S,k=>match o.guard with
  |none=>zp tab o.op e S fun v S'=>uG r (putO e o.dst v) S' k
  |some (t,w)=>match ey e t with
   | .bool p=>cond p
    (cond w (zp tab o.op (iH e t (.bool true)) S fun v S'=>uG r (putO (iH e t (.bool true)) o.dst v) S' k) (uG r (putO (iH e t (.bool true)) o.dst (.tup [])) S k))
    (cond w (uG r (putO (iH e t (.bool false)) o.dst (.tup [])) S k) (zp tab o.op (iH e t (.bool false)) S fun v S'=>uG r (putO (iH e t (.bool false)) o.dst v) S' k))
   | .tup []=>uG r (putO e o.dst (.tup [])) S k
   |_=>none
def mW :VV→Option Nat
 | .ptr b _=>some b
 | .it b _=>some b
 | .bld b=>some b
 | .pix b _ _ _=>some b
 | .pel b _ _=>some b
 | .full b=>some b
 | .part b _ _=>some b
 |_=>none
def L0 (S:ae)(v:VV):Option (Option Nat):=match v with
 | .pin _ _ _| .lst _ _| .nils=>some none
 |v=>(match mW v with
  |some b=>cond (aa S b).live (some (some b)) none
  |none=>none)
def Kz (S:ae)(op:AOp)(e:bu):Option (Option Nat):=match op with
 | .load x| .loadN _ x| .sliceArr _ _ x _ _| .slice _ x _ _=>L0 S (ev e x)
 |_=>none
def Hz :Option Nat→List Nat
 |some b=>[b]
 |none=>[]
def lS :List FSum→Nat→List VV→ae→List Nat
 |[],_,_,_=>[]
 |F::r,f,args,S=>cond (aA F.f f) (match fT (uK F.vals args S) 0 [] F.ins args with
  |some st=>(match Gn F.ins.shs st.ls with
   |some _=>dX F.objs st.m
   |none=>lS r f args S)
  |none=>lS r f args S) (lS r f args S)
def FD (f:Nat)(args:List VV)(S:ae):List Nat:=cond (Oy tab.is f) (yZ S.length) (lS tab.fs f args S)
def wK (op:AOp)(e:bu)(S:ae):List Nat:=match op with
 | .store _ a _=>Hz (mW (ev e a))
 | .append _ _ s _=>Hz (mW (ev e s))
 | .appendZ _ _ _ s _=>Hz (mW (ev e s))
 | .copy _ d _=>Hz (mW (ev e d))
 | .next x=>Hz (mW (ev e x))
 | .updM _ x _ _=>Hz (Qa (ev e x))
 | .call f xs=>FD tab f (xs.map (ev e)) S
 | .callv x xs=>(match ev e x with
  | .fn f a c=>FD tab f (a++xs.map (ev e)++c) S
  |_=>[])
 |_=>[]
abbrev wh :=List (Nat×Option (Option Nat)×(ae→Bool))
def Bl (d:List Nat):wh→wh
 |[]=>[]
 |(i,some (some b),f)::r=>(i,cond (eJ b d) none (some (some b)),f)::Bl d r
 |x::r=>x::Bl d r
def iw (is:List Nat):wh→Bool
 |[]=>true
 |(i,b,_)::r=>cond (eJ i is) (match b with
  |some _=>iw is r
  |none=>false) (iw is r)
def rD (S:ae)(is:List Nat):wh→Bool
 |[]=>true
 |(i,b,f)::r=>cond (eJ i is) (match b with
  |some _=>rD S is r
  |none=>cond (f S) (rD S is r) false) (rD S is r)
def Qr :VV→VV→Bool
 | .int k n, .int k' n'=>decide (k=k')&&decide (n=n')
 | .bool a, .bool b=>decide (a=b)
 | .str a, .str b=>decide (a=b)
 | .nilp, .nilp=>true
 | .nils, .nils=>true
 |_,_=>false
def FZ (tab:Tab)(op:AOp)(e:bu)(v:VV)(S:ae):Bool:=match zp tab op e S fun v' _=>some (Qr v v')with
 |some b=>b
 |none=>false
def zn {β:Type}(it:SItem)(chk:wh)(e:bu)(S:ae)(k:wh→bu→ae→Option β):Option β:=
 cond it.mover (zp tab it.o.op e S fun v S'=>gd (rD S' it.chks (Bl (wK tab it.o.op e S) chk)) (k (Bl (wK tab it.o.op e S) chk) (putO e it.o.dst v) S'))
  (gd (it.o.op.still&&(!it.keep||it.o.op.isLoad)) (zp tab it.o.op e S fun v S'=>k (cond it.keep ((it.idx,Kz S it.o.op e,FZ tab it.o.op e v)::chk) chk) (putO e it.o.dst v) S'))
def kZ {β:Type}:List SItem→wh→bu→ae→(bu→ae→Option β)→Option β
 |[],_,e,S,k=>k e S
 |it::r,chk,e,S,k=>match it.o.guard with
  |none=>zn tab it chk e S fun chk' e' S'=>kZ r chk' e' S' k
  |some (t,w)=>match ey e t with
   | .bool p=>cond p
    (cond w (zn tab it chk (iH e t (.bool true)) S fun chk' e' S'=>kZ r chk' e' S' k) (kZ r chk (putO (iH e t (.bool true)) it.o.dst (.tup [])) S k))
    (cond w (kZ r chk (putO (iH e t (.bool false)) it.o.dst (.tup [])) S k) (zn tab it chk (iH e t (.bool false)) S fun chk' e' S'=>kZ r chk' e' S' k))
   | .tup []=>kZ r chk (putO e it.o.dst (.tup [])) S k
   |_=>none
end
structure LItem where
 i:Nat
 kind:Nat
 chks:List Nat
 need:List Nat
def au (ops:List (AOper×List Nat))(i:Nat):AOper:=match ops[i]? with
 |some (o,_)=>o
 |none=>⟨none, .lenC 0,none⟩
def Km :VV→Bool
 | .int _ _| .bool _| .str _=>true
 |_=>false
def Kl :Value→Bool
 | .int _ _| .bool _| .string _=>true
 |_=>false
def px {β:Type}(op:AOp)(e:bu)(k:Blk→Bool→Option β):Option β:=match op with
 | .alloc es z=>gd (aB 1 es) (k (uD es z) false)
 | .makeSlice es bytes z l c=>(match ev e l,ev e c,AO z with
  | .int _ l, .int _ c,some s=>gd (aA es s.w&&decide (0≤l)&&decide (l≤c)&&decide (bytes*c≤140737488355328)&&aB 1 bytes) (k (.arr s false (aC l.toNat (lv s))) true)
  |_,_,_=>none)
 | .buildSlice es ln z ps=>(match Az ((aC ln (z.map Bh)).flatten) (qK e ps)with
  |some cs=>gd (gO cs&&aA (ln*es) cs.length&&aB 1 es&&cs.all Km&&z.all Kl) (k (.cells es false cs) true)
  |none=>none)
 |_=>none
def QY (w:Bool)(k:Nat):VV:=cond w (.full k) (.ptr k 0)
def iY (e:bu):List Nat→bu
 |[]=>e
 |t::ts=>iH (iY e ts) t .undef
def lg (ops:List (AOper×List Nat)):List Nat→List Nat
 |[]=>[]
 |i::r=>(match(au ops i).dst with
  |some d=>[d]
  |none=>[])++lg ops r
def P0 (n:Nat):Option (Option Nat)→Bool
 |some (some q)=>aA q n
 |_=>false
section
variable (tab:Tab)
def RD {β:Type}(ops:List (AOper×List Nat))(n:Nat):List Nat→bu→ae→Option β→Option β
 |[],_,_,z=>z
 |i::g,e,S,z=>gd ((au ops i).op.still&&(!(au ops i).op.isLoad||P0 n (Kz S (au ops i).op e))) (zp tab (au ops i).op e S fun v S'=>RD ops n g (putO e (au ops i).dst v) S' z)
def tt {β:Type}(ops:List (AOper×List Nat)):List LItem→wh→bu→ae→(bu→ae→Option β)→Option β
 |[],_,e,S,k=>k e S
 |it::r,chk,e,S,k=>
  cond (aA it.kind 3) (px (au ops it.i).op e fun _ _=>tt ops r chk e S k)<|
  cond (aA it.kind 2) (px (au ops it.i).op e fun blk w=>tt ops r chk (putO e (au ops it.i).dst (QY w S.length)) (S++[blk]) k)
  (cond (aA it.kind 1)
   (zp tab (au ops it.i).op e S fun v S'=>gd (iw it.chks (Bl (wK tab (au ops it.i).op e S) chk)&&iw it.need (Bl (wK tab (au ops it.i).op e S) chk)) (tt ops r (Bl (wK tab (au ops it.i).op e S) chk) (putO e (au ops it.i).dst v) S' k))
   (cond (aA it.kind 5) (px (au ops it.i).op (iY e (lg ops it.chks)) fun blk w=>RD tab ops S.length it.chks (putO (iY e (lg ops it.chks)) (au ops it.i).dst (QY w S.length)) (S++[blk]) (tt ops r chk (iY e (lg ops it.chks)) S k))<|
   gd (au ops it.i).op.still (zp tab (au ops it.i).op e S fun v S'=>gd (iw it.need (cond (au ops it.i).op.isLoad ((it.i,Kz S (au ops it.i).op e,fun _=>false)::chk) chk)) (tt ops r (cond (au ops it.i).op.isLoad ((it.i,Kz S (au ops it.i).op e,fun _=>false)::chk) chk) (putO e (au ops it.i).dst v) S' k))))
end
def HC :Operand→List Nat
 | .tmp t=>[t]
 |_=>[]
def lu :AOp→List Nat
 | .makeSlice _ _ _ l c=>HC l++HC c
 | .buildSlice _ _ _ ps=>ps.flatMap fun p=>HC p.2.2
 |_=>[]
def CE :AOp→Bool
 | .alloc es _=>aB 1 es
 |_=>false
def iu :AOp→Bool
 | .alloc _ _| .makeSlice _ _ _ _ _=>true
 | .buildSlice _ _ z _=>z.all Kl
 |_=>false
def jN (d:Option Nat)(l:List Nat):Bool:=match d with
 |some t=> !eJ t l
 |none=>true
def Ka (d d':Option Nat):Bool:=match d,d' with
 |some t,some t'=> !Nat.beq t t'
 |_,_=>true
def rl (i:Nat):List Nat→List Nat
 |[]=>[]
 |a::r=>cond (aA a i) r (a::rl i r)
def sV :List LItem→List Nat→Nat→Option (List Nat×LItem×List LItem)
 |[],_,_=>none
 |it::r,P,i=>cond (aA it.kind 3) (sV r P i)<|cond (aA it.kind 2) (cond (eJ it.i P) (sV r (rl it.i P) i) none) (cond (aA it.i i) (some (P,it,r)) none)
def IU :List LItem→List Nat→Bool
 |[],P=>P.isEmpty
 |it::r,P=>cond (aA it.kind 3) (IU r P) (aA it.kind 2&&eJ it.i P&&IU r (rl it.i P))
def Qy :AOp→Bool
 | .move _=>true
 |_=>false
def CA (ops:List (AOper×List Nat)):List LItem→Nat→Bool
 |[],_=>false
 |it::r,m=>cond (aA it.kind 3) (aA it.i m||CA ops r m)<|(aA it.kind 2&&(aA it.i m||(jN (au ops it.i).dst (lu (au ops m).op)&&CA ops r m)))||(aA it.kind 0&&Qy (au ops it.i).op&&jN (au ops it.i).dst (lu (au ops m).op)&&CA ops r m)
def ll (ops:List (AOper×List Nat))(self:Nat)(ex:Bool)(P:List Nat)(r:List LItem):Bool:=
 P.all (fun q=>Ka (au ops self).dst (au ops q).dst&&jN (au ops self).dst (lu (au ops q).op))&&
 r.all fun it=> !Nat.beq it.kind 2||(ex&&aA it.i self)||Ka (au ops self).dst (au ops it.i).dst
def P5 :List LItem→Bool
 |it::_=>aA it.kind 5
 |[]=>false
def Om :Option Nat→Nat→Bool
 |some a,b=>aA a b
 |none,_=>false
def KI (ops:List (AOper×List Nat)):List Nat→Nat→List Nat→Option (Nat×List Nat)
 |[],f,D=>some (f,D)
 |i::g,f+1,D=>cond (Om (ci ops D) i&&(au ops i).guard.isNone) (KI ops g f (i::D)) none
 |_::_,0,_=>none
def KJ (ops:List (AOper×List Nat)):List LItem→Nat→List Nat→Bool
 |[],0,_=>true
 |[],_+1,D=>(ci ops D).isNone&&(bi ops D).isEmpty
 |it::r,f+1,D=>aA it.kind 0&&Om (ci ops D) it.i&&(au ops it.i).guard.isNone&&KJ ops r f (it.i::D)
 |_::_,0,_=>false
def Hi :List Nat→List LItem→Option (List LItem)
 |[],r=>some r
 |i::g,it::r=>cond (aA it.kind 0&&aA it.i i) (Hi g r) none
 |_::_,[]=>none
def QI (ops:List (AOper×List Nat))(m c:Nat):List Nat→List Nat→Bool
 |_,[]=>true
 |pre,i::g=>(au ops i).dst.isSome&&jN (au ops i).dst (lu (au ops m).op)&&Ka (au ops i).dst (au ops m).dst&&jN (au ops c).dst (au ops i).op.reads&&Ka (au ops c).dst (au ops i).dst&&(i::pre).all (fun j=>jN (au ops i).dst (au ops j).op.reads)&&pre.all (fun j=>Ka (au ops i).dst (au ops j).dst)&&QI ops m c (i::pre) g
def L8 (ops:List (AOper×List Nat))(f:Nat)(D P ls nd:List Nat):List LItem→Bool
 |it::itc::itm::r=>P.isEmpty&&aA itc.kind 1&&aA itm.kind 2&&aA itm.i it.i&&iu (au ops it.i).op&& !iu (au ops itc.i).op&&(au ops it.i).guard.isNone&&(au ops itc.i).guard.isNone&&jN (au ops it.i).dst (lu (au ops it.i).op)&&
  !(bi ops D).isEmpty&&(bi ops D).all (fun x=>aA x it.i||aA x itc.i)&&ls.all (fun i=>kU ops i it.i||eJ i nd)&&ls.all (fun i=>kU ops i itc.i||eJ i itc.chks)&&ll ops itc.i false [it.i] (itm::r)&&QI ops it.i itc.i [] it.chks&&
  (match KI ops it.chks f (it.i::D),Hi it.chks r with
  |some (f1+1,D1),some r3=>(ci ops D1).isNone&&(match bi ops D1 with
   |[x]=>aA x itc.i
   |_=>false)&&KJ ops r3 f1 (itc.i::D1)
  |_,_=>false)
 |_=>false
def RF (ops:List (AOper×List Nat))(rec:List Nat→List Nat→List LItem→Bool)(D:List Nat):List LItem→Bool
 |_::itc::r=>rec (itc.i::D) itc.need r
 |_=>false
def D7 (ops:List (AOper×List Nat)):Nat→List Nat→List Nat→List Nat→List Nat→List LItem→Bool
 |0,_,P,_,_,r=>IU r P
 |f+1,D,P,ls,nd,r=>match ci ops D with
  |some i=>(au ops i).guard.isNone&&(match sV r P i with
   |some (P',it,r')=>aA it.kind 0&&ll ops i false P' r'&&D7 ops f (i::D) P' (cond (au ops i).op.isLoad (i::ls) ls) it.need r'
   |none=>false)
  |none=>cond (P5 r) (L8 ops f D P ls nd r&&RF ops (fun D' nd' r'=>D7 ops f D' [] ls nd' r') D r)<|match bi ops D with
   |[]=>IU r P
   |ms=>ms.all fun m=>(au ops m).guard.isNone&&cond (iu (au ops m).op)
    (!eJ m P&&r.any (fun it=>aA it.kind 2&&aA it.i m)&&(CE (au ops m).op||CA ops r m)&&ll ops m true P r&&jN (au ops m).dst (lu (au ops m).op)&&ls.all (fun i=>kU ops i m||eJ i nd)&&D7 ops f (m::D) (m::P) ls nd r)
    (match sV r P m with
    |some (P',it,r')=>aA it.kind 1&&ll ops m false P' r'&&ls.all (fun i=>kU ops i m||eJ i it.chks)&&D7 ops f (m::D) P' ls it.need r'
    |none=>false)
def LS (i:Nat):List Nat→List Nat
 |[]=>[]
 |a::r=>cond (aA a i) r (LS i r)
def qj (ops:List (AOper×List Nat))(all:List Nat):List Nat→List Nat→List LItem
 |[],_=>[]
 |i::r,ls=>
  cond (aB 2000 i) (⟨i % 1000,5,(LS (i % 1000) r).take (i / 10000),[]⟩::qj ops all r ls)<|
  cond (aB 1000 i) (⟨i-1000,3,[],[]⟩::qj ops all r ls)<|
  let o:=(au ops i).op
  let ls':=cond o.isLoad (i::ls) ls
  let fr:=r.filter fun m=>iu (au ops m).op
  ⟨i,cond (iu o) 2 (cond o.still 0 1),ls.filter fun j=> !kU ops j i,ls'.filter fun j=>fr.any fun m=> !kU ops j m⟩::qj ops all r ls'
def wL (ops:List (AOper×List Nat)):List LItem→Bool
 |[]=>true
 |it::r=>r.all (fun j=> !Nat.beq it.kind 2|| !Nat.beq j.kind 2||Ka (au ops it.i).dst (au ops j.i).dst)&&wL ops r
def vD (ops:List (AOper×List Nat)):List LItem→List Nat
 |[]=>[]
 |it::r=>cond (aA it.kind 2) ((match(au ops it.i).dst with
  |some d=>[d]
  |none=>[])++vD ops r) (vD ops r)
inductive AT where
 |no
 |n (l r:AT)
 |lp (fx:List Nat) (head:Alt) (exits:List Alt) (b:AT)
 |jn (fx mov:List Nat) (exits:List Alt) (l r:AT)
 |sz (n:Nat) (l r:AT)
 |dr (L:List Nat)
 |all
def AT.sub :AT→AT
 | .all=> .all
 |_=> .no
def JQ (ops:List (AOper×List Nat)):Nat→List Nat→List Nat
 |0,_=>[]
 |f+1,D=>match ci ops D with
  |some i=>i::JQ ops f (i::D)
  |none=>match(bi ops D).filter (fun m=> !iu (au ops m).op),bi ops D with
   |m::_,ms=>(ms.filter fun x=>iu (au ops x).op&& !CE (au ops x).op).map (1000+ ·)++m::JQ ops f (m::D)
   |[],m::_=>m::JQ ops f (m::D)
   |[],[]=>[]
def Ub (ops:List (AOper×List Nat)):AT→Option (List Nat)
 | .dr L=>some L
 | .all=>some (JQ ops ops.length [])
 |_=>none
def OV :List VV→Nat
 |[]=>0
 | .nilp::r=>OV r+1
 | .fn f _ _::r=>OV r+10*f
 |_::r=>OV r
def QA :Nat→ae→Nat
 |_,[]=>0
 |k, .cells _ _ l::r=>k*OV l+QA (k+1) r
 |k,_::r=>QA (k+1) r
def Mz (S:ae):Nat:=S.length+1000*QA 1 S
def AT.at (n:Nat):AT→AT
 | .sz m l r=>cond (aA m n) l (r.at n)
 |t=>t
def HL (e:bu):List Nat→List VV→bu
 |t::ts,v::vs=>iH (HL e ts vs) t v
 |_,_=>e
def FE :Option Nat→List Nat
 |some d=>[d]
 |none=>[]
def eG :AC→List Nat
 | .region ops=>ops.flatMap fun o=>FE o.dst
 | .draw ops=>ops.flatMap fun o=>FE o.1.dst
 | .sched its=>its.flatMap fun i=>FE i.o.dst
 | .seq a b| .cond _ a b=>eG a++eG b
 | .block _ b| .loop b=>eG b
 |_=>[]
def XK.is :XK→AExit→Bool
 | .normal, .normal=>true
 | .exit i, .exit j=>aA i j
 | .ret, .ret=>true
 |_,_=>false
def XK.out :XK→AExit
 | .normal=> .normal
 | .exit i=> .exit i
 | .ret=> .ret
def dL (fx mov:List Nat)(fz:Bool):Nat→ae→ae
 |_,[]=>[]
 |i,b::r=>cond (eJ i mov) (cond b.frozen b .dead) (cond (eJ i fx) b (cond fz b.freeze b))::dL fx mov fz (i+1) r
def uP :AC→Bool
 | .seq a b| .cond _ a b=>uP a&&uP b
 | .block _ b| .loop b=>uP b
 |_=>true
def aw {α γ:Type}(f:α→Option (α⊕γ))(n:Nat):α→Option γ:=
 Nat.rec (fun _=>none) (fun _ ih a=>(f a).bind fun s=>bt s ih some) n
def di :Nat:=18446744073709551616
def uZ (e0:bu)(S:ae)(fx mov asg:List Nat)(fz:Bool)(ts:List Nat)(sk:iX)(t:pQ sk.shs):Option (bu×ae):=
 match fK id sk (BB sk.shs t)with
 |some (vals,fs,bs)=>(match nq fx fs (dL fx mov (fz||qi vals fs bs) 0 S)with
  |some S'=>some (HL (iY e0 asg) ts vals,S'++bs)
  |none=>none)
 |none=>none
def Ox {β:Type}(e0:bu)(S:ae)(fx mov asg:List Nat)(exits:List Alt)(s:mV exits)(k:AExit→bu→ae→Option β):Option β:=
 LW exits s fun a t=>match uZ e0 S fx mov asg false a.ts a.sk t with
  |some (e,S')=>k a.x.out e S'
  |none=>none
def CO (F:AT→(β:Type)→bu→ae→(AExit→bu→ae→Option β)→Option β):AT→(β:Type)→bu→ae→(AExit→bu→ae→Option β)→Option β
 | .n l r,β,e,S,k=>F l β e S fun x e' S'=>match x with
  | .normal=>CO F r β e' S' k
  |x=>k x e' S'
 | .sz m l r,β,e,S,k=>cond (aA m S.length) (CO F l β e S k) (CO F r β e S k)
 |_,_,_,_,_=>none
def MK (F:(β:Type)→bu→ae→(AExit→bu→ae→Option β)→Option β)(n:Nat):(β:Type)→bu→ae→(AExit→bu→ae→Option β)→Option β:=
 Nat.rec (fun _ _ _ _=>none) (fun _ ih β e S k=>F β e S fun x e' S'=>match x with
  | .normal=>ih β e' S' k
  |x=>k x e' S') n
def AT.rounds :AT→Nat
 | .n _ r=>r.rounds+1
 | .sz _ l r=>l.rounds+r.rounds
 |_=>0
def eval (tab:Tab):AC→AT→(β:Type)→bu→ae→(AExit→bu→ae→Option β)→Option β
 | .skip,_,_,e,S,k=>k .normal e S
 | .exit i,_,_,e,S,k=>k (.exit i) e S
 | .ret,_,_,e,S,k=>k .ret e S
 | .region ops,_,_,e,S,k=>uG tab ops e S fun e' S'=>k .normal e' S'
 | .sched its,_,_,e,S,k=>kZ tab its [] e S fun e' S'=>k .normal e' S'
 | .draw ops,at',_,e,S,k=>(match Ub ops (at'.at (Mz S))with
  |some L=>gd (D7 ops ops.length [] [] [] [] (qj ops L L [])&&wL ops (qj ops L L [])) (tt tab ops (qj ops L L []) [] (iY e (vD ops (qj ops L L []))) S fun e' S'=>k .normal e' S')
  |none=>none)
 | .seq a b,at',β,e,S,k=>
  (match at'.at (Mz S)with
  | .jn fx mov exits l r=>gd (Bi S fx&&uP a) ((eval tab a l (mV exits) e (dL (fx++mov) [] true 0 S) fun x e' S'=>nG S' S.length fx (fun ts=>ts.map (ey e')) (fun y=>y.is x) exits).bind fun s=>
    Ox e S fx mov (eG a) exits s fun x e' S'=>match x with
     | .normal=>eval tab b r β e' S' k
     |x=>k x e' S')
  | .n l r=>eval tab a l β e S fun x e' S'=>match x with
   | .normal=>eval tab b r β e' S' k
   |x=>k x e' S'
  |u=>eval tab a u.sub β e S fun x e' S'=>match x with
   | .normal=>eval tab b u.sub β e' S' k
   |x=>k x e' S')
 | .cond c a b,at',β,e,S,k=>
  (match ev e c with
  | .bool p=>(match c,at'.at (Mz S)with
   | .tmp t, .n l r=>cond p (eval tab a l β (iH e t (.bool true)) S k) (eval tab b r β (iH e t (.bool false)) S k)
   | .tmp t,u=>cond p (eval tab a u.sub β (iH e t (.bool true)) S k) (eval tab b u.sub β (iH e t (.bool false)) S k)
   |_, .n l r=>cond p (eval tab a l β e S k) (eval tab b r β e S k)
   |_,u=>cond p (eval tab a u.sub β e S k) (eval tab b u.sub β e S k))
  |_=>none)
 | .block id b,at',β,e,S,k=>
  eval tab b (match at'.at (Mz S)with
   | .n l _=>l
   |u=>u.sub) β e S fun x e' S'=>match x with
   | .exit i=>cond (aA i id) (k .normal e' S') (k (.exit i) e' S')
   |x=>k x e' S'
 | .loop b,at',_,e,S,k=>
  (match at'.at (Mz S)with
  | .lp fx head exits l=>(fun S=>gd (head.sk.fxRo&&Bi S fx&&uP b) (match fT S S.length fx head.sk (head.ts.map (ey e))with
   |some st=>(Gn head.sk.shs st.ls).bind fun t0=>
    (aw (fun t=>match uZ e S fx (gE st.m) (eG b) true head.ts head.sk t with
     |some (e1,S1)=>eval tab b l (pQ head.sk.shs⊕mV exits) e1 S1 fun x e' S'=>(match x with
      | .normal=>(JV S' S.length fx head.sk (head.ts.map (ey e'))).bind fun t=>some (.inl t)
      |x=>(nG S' S.length fx (fun ts=>ts.map (ey e')) (fun y=>y.is x) exits).bind fun s=>some (.inr s))
     |none=>none) di t0).bind fun s=>Ox e S fx (gE st.m) (eG b) exits s k
   |none=>none)) (Ou S.length head.sk.free head.sk.vals (head.ts.map (ey e)) S)
  | .all=>MK (eval tab b .all) 1000000 _ e S k
  |_=>CO (eval tab b) at' _ e S k)
def Po (e:bu)(S:ae):ARes→Option VV
 | .tmp t=>some (ey e t)
 | .cell t=>(match ey e t with
  | .ptr b o=>(match aa S b with
   | .cells _ _ l=>nth l o
   |_=>none)
  |_=>none)
 | .cellN t n=>(match ey e t with
  | .ptr b o=>(match aa S b with
   | .cells _ _ l=>cond (aB (o+n) l.length) (some (.agg ((l.drop o).take n))) none
   |_=>none)
  |_=>none)
def yF (e:bu)(S:ae):List ARes→Option (List VV)
 |[]=>some []
 |r::rs=>(Po e S r).bind fun v=>(yF e S rs).bind fun vs=>some (v::vs)
def Iq :List VV→VV
 |[v]=>v
 |vs=> .tup vs
def bx (P:Program)(f:FuncId)(tab:Tab)(at':AT):(β:Type)→List VV→ae→(VV→ae→Option β)→Option β:=fun β args S k=>
 match LC P f with
 |some a=>gd (aB args.length a.ntmps) (eval tab a.body at' β args S fun x e S'=>match x with
  | .exit _=>none
  |_=>(match yF e S' a.results with
   |some rs=>k (Iq rs) S'
   |none=>none))
 |none=>none
def zq (P:Program)(f:FuncId)(tab:Tab)(vals:List Sk)(objs:List OSk)(outs:List Alt)(at':AT)(t:pQ (iX.shs ⟨vals,[],objs⟩)):Option (mV outs):=
 match LC P f,fK id ⟨vals,[],objs⟩ (BB _ t)with
 |some a,some (vs,_,S)=>gd (aB vs.length a.ntmps) (eval tab a.body at' (mV outs) vs S fun x e S'=>match x with
  | .exit _=>none
  |_=>(match yF e S' a.results with
   |some rs=>nG S' S.length (lf objs 0) (fun _=>[Iq rs]) (fun _=>true) outs
   |none=>none))
 |_,_=>none
end
section
open Nat renaming lt_of_lt_of_le → aA
structure Ctx where
 μ:Nat→Option Nat
 S:ae
 σ:Hp
 fb:Nat→Prop
def Blk.dim :Blk→Option (Nat×Nat)
 | .dead=>none
 | .cells es _ l=>some (es,l.length)
 | .arr s _ l=>some (s.w,l.length*s.w)
def Blk.vals :Blk→List VV
 | .dead=>[]
 | .cells _ _ l=>l
 | .arr s _ l=>cv s l
def Ctx.own (c:Ctx)(b:Nat):Prop:= ∃k,(aa c.S k).frozen=false∧c.μ k=some b
def Ctx.mut (c:Ctx)(b:Nat):Prop:=c.own b∨c.fb b
def xy (c:Ctx)(k lo n:Nat)(d:Nat×Nat)(a:Value):Prop:=
 (a= .slice none 0 0∧lo=0∧n=0∧c.μ k=none∧d.2=0)∨
 ∃b cp y,a= .slice (some ⟨b,lo*d.1,none⟩) n cp∧c.μ k=some b∧(lo+n)*d.1≤d.2∧n≤cp∧c.σ.m b=some y∧(lo+cp)*d.1≤y.cells.length
inductive VRel (c:Ctx):VV→Value→Prop where
 |undef (a:Value):VRel c .undef a
 |bool (b:Bool):VRel c (.bool b) (.bool b)
 |int (k:IntKind) (n:Int):VRel c (.int k n) (.int k n)
 |str {l:List Int} {s:ByteArray}:ak s=l→VRel c (.str l) (.string s)
 |nilp:VRel c .nilp (.pointer none)
 |nils:VRel c .nils (.slice none 0 0)
 |nilf:VRel c .nilf .nilFunc
 |ptr {k o:Nat} {a:Value}:k<c.S.length→one a=true→(∀d,(aa c.S k).dim=some d→∃b,c.μ k=some b∧a= .pointer (some ⟨b,o,none⟩))→VRel c (.ptr k o) a
 |it {k:Nat} {l:List Int} {s:ByteArray} {a:Value}:k<c.S.length→one a=true→ak s=l→(∀d,(aa c.S k).dim=some d→∃b,c.μ k=some b∧a= .iface b (.string s))→VRel c (.it k l) a
 |bld {k:Nat} {a:Value}:k<c.S.length→one a=true→(∀d,(aa c.S k).dim=some d→∃b,c.μ k=some b∧a= .iface b .nilFunc)→VRel c (.bld k) a
 |pix {k o n i:Nat} {a:Value}:k<c.S.length→one a=true→i<n→(∀d,(aa c.S k).dim=some d→∃b,c.μ k=some b∧a= .pointer (some ⟨b,o+i,none⟩))→VRel c (.pix k o n i) a
 |pel {k i o:Nat} {a:Value}:k<c.S.length→one a=true→(∀d,(aa c.S k).dim=some d→∃b,c.μ k=some b∧a= .pointer (some ⟨b,i*d.1+o,none⟩))→VRel c (.pel k i o) a
 |pin {s:Sh} {x:El s} {o b p:Nat} {y:Ab.Blk}: ¬c.mut b→c.σ.m b=some y→p+s.w≤y.cells.length→F2 (VRel c) (ce s x) ((y.cells.drop p).take s.w)→VRel c (.pin s x o) (.pointer (some ⟨b,p+o,none⟩))
 |lstn {s:Sh} {q:Option Addr}:(∀z,q=some z→z.spot=none)→VRel c (.lst s []) (.slice q 0 0)
 |lst {s:Sh} {l:List (El s)} {b p n cp:Nat} {y:Ab.Blk}: ¬c.mut b→c.σ.m b=some y→y.es=s.w→n=l.length→n≤cp→p+n*s.w≤y.cells.length→
   F2 (VRel c) (cv s l) ((y.cells.drop p).take (n*s.w))→VRel c (.lst s l) (.slice (some ⟨b,p,none⟩) n cp)
 |tgtn {s:Sh} {a:Value}:(a= .slice none 0 0∨∃b o,a= .slice (some ⟨b,o,some 0⟩) 0 0)→VRel c (.tgt s []) a
 |tgt {s:Sh} {l:List (El s)} {b p:Nat} {y:Ab.Blk}: ¬c.mut b→c.σ.m b=some y→y.es=s.w→p+l.length*s.w≤y.cells.length→
   F2 (VRel c) (cv s l) ((y.cells.drop p).take (l.length*s.w))→VRel c (.tgt s l) (.slice (some ⟨b,p,some 0⟩) l.length l.length)
 |full {k:Nat} {a:Value}:k<c.S.length→one a=true→(∀d,(aa c.S k).dim=some d→∃n,n*d.1=d.2∧xy c k 0 n d a)→VRel c (.full k) a
 |part {k lo n:Nat} {a:Value}:k<c.S.length→one a=true→(∀d,(aa c.S k).dim=some d→xy c k lo n d a)→VRel c (.part k lo n) a
 |fn {f:Nat} {a b:List VV} {a' b':Array Value}:F2 (VRel c) a a'.toList→F2 (VRel c) b b'.toList→VRel c (.fn f a b) (.func (.func f) a' b')
 |agg {l:List VV} {l':Array Value}:F2 (VRel c) l l'.toList→VRel c (.agg l) (.agg l')
 |tup {l:List VV} {l':Array Value}:F2 (VRel c) l l'.toList→VRel c (.tup l) (.tuple l')
def BD (c:Ctx)(k:Nat):Prop:= ∀d,(aa c.S k).dim=some d→1≤d.1∧
 ((d.2=0∧c.μ k=none)∨∃b y cs rest,c.μ k=some b∧c.σ.m b=some y∧y.es=d.1∧((aa c.S k).frozen=false→y.own=true)∧y.cells=cs++rest∧F2 (VRel c) (aa c.S k).vals cs)
structure Rel (c:Ctx):Prop where
 ok:c.σ.Ok
 inj: ∀k k' b,(aa c.S k).frozen=false→(aa c.S k').dim≠none→c.μ k=some b→c.μ k'=some b→k=k'
 blk: ∀k,BD c k
 fbk: ∀k b,(aa c.S k).dim≠none→c.μ k=some b→¬c.fb b
 fbl: ∀b,c.fb b→b<c.σ.n
structure Le (c c':Ctx):Prop where
 len:c.S.length≤c'.S.length
 al: ∀k d,k<c.S.length→(aa c'.S k).dim=some d→(aa c.S k).dim=some d∧c'.μ k=c.μ k
 fz: ∀k,(aa c.S k).frozen=true→(aa c.S k).dim≠none→aa c'.S k=aa c.S k
 ln: ∀k d b y,k<c.S.length→(aa c'.S k).dim=some d→c.μ k=some b→c.σ.m b=some y→∃y',c'.σ.m b=some y'∧y'.cells.length=y.cells.length
 un: ∀b y,c.σ.m b=some y→¬c.own b→c'.σ.m b=some y
 ow: ∀b y,c.σ.m b=some y→¬c.own b→¬c'.own b
 n:c.σ.n≤c'.σ.n
 fb:c'.fb=c.fb
theorem Le.rd {c c':Ctx}(h:Le c c')(b:Nat)(y:Ab.Blk)(hy:c.σ.m b=some y)(hn: ¬c.mut b):c'.σ.m b=some y∧¬c'.mut b:=by
 have h1: ¬c.own b:=fun e=>hn (.inl e)
 refine⟨h.un b y hy h1,fun e=> ?_⟩;rcases e with e|e
 ·exact h.ow b y hy h1 e
 ·rw[h.fb]at e;exact hn (.inr e)
def lx (d:List Nat)(c c':Ctx):Prop:= ∀k,k<c.S.length→k∉d→(aa c.S k).dim≠none→(aa c'.S k).dim≠none∧∀b,c.μ k=some b→c'.σ.m b=c.σ.m b
theorem eS {S:ae}{k:Nat}(h:(aa S k).dim≠none):k<S.length:=by
 induction S generalizing k with
 |nil=>exact(h rfl).elim
 |cons b r ih=>
  cases k with
  |zero=>exact Nat.zero_lt_succ _
  |succ k=>exact Nat.succ_lt_succ (ih h)
theorem nn {S:ae}{k:Nat}(h:S.length≤k):aa S k= .dead:=by
 induction S generalizing k with
 |nil=>rfl
 |cons b r ih=>
  cases k with
  |zero=>simp at h
  |succ k=>exact ih (by simpa using h)
theorem vh {S:ae}{k:Nat}{b:Blk}:(dQ S k b).length=S.length:=by
 induction S generalizing k with
 |nil=>rfl
 |cons a r ih=>cases k<;>simp[dQ,ih]
theorem oT {S:ae}{k i:Nat}{b:Blk}:aa (dQ S k b) i=if i=k∧k<S.length then b else aa S i:=by
 induction S generalizing k i with
 |nil=>simp[dQ]
 |cons a r ih=>
  cases k with
  |zero=>cases i<;>simp[dQ,aa]
  |succ k=>
   cases i with
   |zero=>simp[dQ,aa]
   |succ i=>simp[dQ,aa,ih]
theorem Kn {S:ae}{k:Nat}{b:Blk}(h:k<S.length):aa (dQ S k b) k=b:=by rw[oT,zE ⟨rfl,h⟩]
theorem Pw {S:ae}{k i:Nat}{b:Blk}(h:i≠k):aa (dQ S k b) i=aa S i:=by rw[oT,zF (fun e=>h e.1)]
theorem fX {S:ae}{l:List Blk}{k:Nat}(h:k<S.length):aa (S++l) k=aa S k:=by
 induction S generalizing k with
 |nil=>simp at h
 |cons a r ih=>
  cases k with
  |zero=>rfl
  |succ k=>exact ih (by simpa using h)
theorem jO {S:ae}{l:List Blk}{k:Nat}:aa (S++l) (S.length+k)=aa l k:=by
 induction S with
 |nil=>simp
 |cons a r ih=>
  have:(a::r).length+k=(r.length+k)+1:=by simp;omega
  rw[this];exact ih
theorem H6 {S:ae}{b:Blk}:aa (S++[b]) S.length=b:=by
 exact @jO S [b] 0
theorem fE {b:Blk}(h:b.frozen=false):b.dim≠none:=by cases b<;>simp[Blk.frozen,Blk.dim]at*
theorem cD {b:Blk}:b.freeze.dim=b.dim:=by cases b<;>rfl
theorem AS {b:Blk}:b.freeze.vals=b.vals:=by cases b<;>rfl
theorem ew {b:Blk}:b.freeze.frozen=true:=by cases b<;>rfl
theorem rr {b:Blk}(h:b.frozen=true):b.freeze=b:=by cases b<;>simp[Blk.frozen,Blk.freeze]at* <;>simp[h]
theorem Le.refl (c:Ctx):Le c c:=⟨Nat.le_refl _,fun _ _ _ h=>⟨h,rfl⟩,fun _ _ _=>rfl,fun _ _ _ y _ _ _ hy=>⟨y,hy,rfl⟩,fun _ _ h _=>h,fun _ _ _ h=>h,Nat.le_refl _,rfl⟩
theorem Le.trans {a b c:Ctx}(h:Le a b)(k:Le b c):Le a c:=by
 refine⟨Nat.le_trans h.len k.len,fun i d hi hd=> ?_,fun i hf hd=> ?_,fun i d x y hi hd hm hy=> ?_,fun x y hy hn=>k.un x y (h.un x y hy hn) (h.ow x y hy hn),fun x y hy hn=>k.ow x y (h.un x y hy hn) (h.ow x y hy hn),Nat.le_trans h.n k.n,k.fb.trans h.fb⟩
 ·obtain⟨h1,h2⟩:=k.al i d (aA hi h.len) hd;obtain⟨h3,h4⟩:=h.al i d hi h1;exact⟨h3,h2.trans h4⟩
 ·have h1:=h.fz i hf hd;rw[k.fz i (by rw[h1];exact hf) (by rw[h1];exact hd),h1]
 ·obtain⟨h1,h2⟩:=k.al i d (aA hi h.len) hd;obtain⟨y1,h3,h4⟩:=h.ln i d x y hi h1 hm hy;obtain⟨_,h6⟩:=h.al i d hi h1;obtain⟨y2,h5,h7⟩:=k.ln i d x y1 (aA hi h.len) hd (h6.trans hm) h3;exact⟨y2,h5,h7.trans h4⟩
theorem lx.refl (d:List Nat)(c:Ctx):lx d c c:=fun _ _ _ h=>⟨h,fun _ _=>rfl⟩
theorem xy.frame {c c':Ctx}(h:Le c c'){k lo n:Nat}{d:Nat×Nat}{a:Value}(hk:k<c.S.length)(hd:(aa c'.S k).dim=some d)(hs:xy c k lo n d a):xy c' k lo n d a:=by
 obtain⟨h1,h2⟩:=h.al k d hk hd;rcases hs with⟨rfl,rfl,rfl,hm,hz⟩|⟨b,cp,y,rfl,hm,h3,h4,hy,h5⟩
 ·exact .inl ⟨rfl,rfl,rfl,h2.trans hm,hz⟩
 ·obtain⟨y',hy',hl⟩:=h.ln k d b y hk hd hm hy;exact .inr ⟨b,cp,y',rfl,h2.trans hm,h3,h4,hy',by rw[hl];exact h5⟩
theorem VRel.frame {c c':Ctx}(h:Le c c'): ∀{v:VV} {a:Value},VRel c v a→VRel c' v a
 |_,_, .undef a=> .undef a
 |_,_, .bool b=> .bool b
 |_,_, .int k n=> .int k n
 |_,_, .str hs=> .str hs
 |_,_, .nilp=> .nilp
 |_,_, .nils=> .nils
 |_,_, .nilf=> .nilf
 |_,_, .ptr hk h1 hd=> .ptr (aA hk h.len) h1 fun d hd'=>by
  obtain⟨h1,h2⟩:=h.al _ d hk hd';obtain⟨b,h3,h4⟩:=hd d h1;exact⟨b,h2.trans h3,h4⟩
 |_,_, .it hk h1 hs hd=> .it (aA hk h.len) h1 hs fun d hd'=>by
  obtain⟨h1,h2⟩:=h.al _ d hk hd';obtain⟨b,h3,h4⟩:=hd d h1;exact⟨b,h2.trans h3,h4⟩
 |_,_, .bld hk h1 hd=> .bld (aA hk h.len) h1 fun d hd'=>by
  obtain⟨h1,h2⟩:=h.al _ d hk hd';obtain⟨b,h3,h4⟩:=hd d h1;exact⟨b,h2.trans h3,h4⟩
 |_,_, .pix hk h1 hi hd=> .pix (aA hk h.len) h1 hi fun d hd'=>by
  obtain⟨h1,h2⟩:=h.al _ d hk hd';obtain⟨b,h3,h4⟩:=hd d h1;exact⟨b,h2.trans h3,h4⟩
 |_,_, .pel hk h1 hd=> .pel (aA hk h.len) h1 fun d hd'=>by
  obtain⟨h1,h2⟩:=h.al _ d hk hd';obtain⟨b,h3,h4⟩:=hd d h1;exact⟨b,h2.trans h3,h4⟩
 |_,_, .pin hn hy hl hf=> .pin (h.rd _ _ hy hn).2 (h.rd _ _ hy hn).1 hl (go hf)
 |_,_, .lstn hq=> .lstn hq
 |_,_, .lst hn hy he h1 h2 h3 hf=> .lst (h.rd _ _ hy hn).2 (h.rd _ _ hy hn).1 he h1 h2 h3 (go hf)
 |_,_, .tgtn hq=> .tgtn hq
 |_,_, .tgt hn hy he h3 hf=> .tgt (h.rd _ _ hy hn).2 (h.rd _ _ hy hn).1 he h3 (go hf)
 |_,_, .full hk h1 hd=> .full (aA hk h.len) h1 fun d hd'=>by
  obtain⟨h1,h2⟩:=h.al _ d hk hd';obtain⟨n,h3,h4⟩:=hd d h1;exact⟨n,h3,h4.frame h hk hd'⟩
 |_,_, .part hk h1 hd=> .part (aA hk h.len) h1 fun d hd'=>by
  obtain⟨h1,h2⟩:=h.al _ d hk hd';exact(hd d h1).frame h hk hd'
 |_,_, .fn h1 h2=> .fn (go h1) (go h2)
 |_,_, .agg h1=> .agg (go h1)
 |_,_, .tup h1=> .tup (go h1)
where
 go: ∀{l:List VV} {m:List Value},F2 (VRel c) l m→F2 (VRel c') l m
  |_,_, .nil=> .nil
  |_,_, .cons h1 h2=> .cons (VRel.frame h h1) (go h2)
theorem VRel.frames {c c':Ctx}(h:Le c c'){l:List VV}{m:List Value}(hf:F2 (VRel c) l m):F2 (VRel c') l m:=hf.imp fun _ _ hv=>hv.frame h
def cK {β:Type}(c:Ctx)(d:List Nat)(k:VV→ae→Option β)(y:β)(v:Value)(σ':Hp):Prop:=
 ∃vv c',c'.σ=σ'∧Le c c'∧Rel c'∧lx d c c'∧VRel c' vv v∧k vv c'.S=some y
theorem cK.same {β:Type}{c:Ctx}{d:List Nat}{k:VV→ae→Option β}{y:β}{v:Value}{vv:VV}(hR:Rel c)(hv:VRel c vv v)(hk:k vv c.S=some y):cK c d k y v c.σ:=
 ⟨vv,c,rfl,Le.refl c,hR,lx.refl d c,hv,hk⟩
end
section
open List renaming length_append → aC, take_of_length_le → aD, length_cons → aF, length_drop → aG, take_append → aH
open Nat renaming succ_mul → aA, le_refl → aB, mul_le_mul_right → aE
theorem fY : ∀s:Sh,1≤s.w
 | .int _=>aB _
 | .bool=>aB _
 | .str=>aB _
 | .list _=>aB _
 | .pair a _=>Nat.le_trans (fY a) (Nat.le_add_right _ _)
theorem cm : ∀(s:Sh) (x:El s),(ce s x).length=s.w
 | .int _,_=>rfl
 | .bool,_=>rfl
 | .str,_=>rfl
 | .list _,_=>rfl
 | .pair a b,x=>by
  simp only[ce,aC,Sh.w];rw[cm a,cm b]
theorem vC {s:Sh}:cv s []=[]:=rfl
theorem cL {s:Sh}{x:El s}{l:List (El s)}:cv s (x::l)=ce s x++cv s l:=rfl
theorem cM {s:Sh}{l:List (El s)}:(cv s l).length=l.length*s.w:=by
 induction l with
 |nil=>simp[vC]
 |cons x l ih=>rw[cL,aC,cm,ih,aF,aA,Nat.add_comm]
theorem oP {s:Sh}{l m:List (El s)}:cv s (l++m)=cv s l++cv s m:=List.flatMap_append
theorem eI {s:Sh}{l:List (El s)}{n:Nat}:cv s (l.take n)=(cv s l).take (n*s.w):=by
 induction l generalizing n with
 |nil=>simp[vC]
 |cons x l ih=>
  cases n with
  |zero=>simp[vC]
  |succ n=>
   rw[List.take_succ_cons,cL,cL,ih,aH,cm];have h1:(n+1)*s.w-s.w=n*s.w:=by rw[aA];omega
   rw[h1,aD (l:=ce s x) (by rw[cm,aA];omega)]
theorem pv {s:Sh}{l:List (El s)}{n:Nat}:cv s (l.drop n)=(cv s l).drop (n*s.w):=by
 induction l generalizing n with
 |nil=>simp[vC]
 |cons x l ih=>
  cases n with
  |zero=>simp
  |succ n=>
   rw[List.drop_succ_cons,cL,ih,List.drop_append,cm];have h1:(n+1)*s.w-s.w=n*s.w:=by rw[aA];omega
   rw[h1,List.drop_of_length_le (l:=ce s x) (by rw[cm,aA];omega),List.nil_append]
theorem zu {s:Sh}{l:List (El s)}{i:Nat}{x:El s}(h:l[i]?=some x):((cv s l).drop (i*s.w)).take s.w=ce s x:=by
 rw[←pv]
 have hi:i<l.length:=by
  rcases Nat.lt_or_ge i l.length with h1|h1
  ·exact h1
  ·rw[List.getElem?_eq_none h1]at h;cases h
 have h2:l.drop i=x::l.drop (i+1):=by
  rw[List.drop_eq_getElem_cons hi];rw[List.getElem?_eq_getElem hi]at h;injection h with h
  rw[h]
 rw[h2,cL,aH,cm,Nat.sub_self,List.take_zero,List.append_nil,aD (by rw[cm];exact aB _)]
theorem fm {s' s:Sh}{x:El s'}{y:El s}(h:eU s' s x=some y): ∃e:s'=s,y=e▸x:=by
 unfold eU at h;split at h
 ·rename_i e;injection h with h
  exact⟨e,h.symm⟩
 ·cases h
theorem ek {s:Sh}{x:El s}:eU s s x=some x:=by
 unfold eU;rw[dif_pos rfl]
theorem F2.app_left {α β:Type}{r:α→β→Prop}{l l':List α}{m:List β}(h:F2 r (l++l') m): ∃m1 m2,m=m1++m2∧F2 r l m1∧F2 r l' m2:=by
 induction l generalizing m with
 |nil=>exact⟨[],m,rfl, .nil,h⟩
 |cons a l ih=>
  cases h with
  |cons h1 h2=>
   obtain⟨m1,m2,rfl,h3,h4⟩:=ih h2;exact⟨_::m1,m2,rfl, .cons h1 h3,h4⟩
def ph (c:Ctx)(s:Sh)(l:List (El s))(a:Value):Prop:=
 (∃q:Option Addr,a= .slice q 0 0∧l=[]∧∀z,q=some z→z.spot=none)∨∃b p cp y,a= .slice (some ⟨b,p,none⟩) l.length cp∧c.σ.m b=some y∧y.es=s.w∧l.length≤cp∧p+l.length*s.w≤y.cells.length∧F2 (VRel c) (cv s l) ((y.cells.drop p).take (l.length*s.w))
theorem ph.rel {c:Ctx}{s:Sh}{l:List (El s)}{a:Value}(h:ph c s l a)(hn: ∀b p n cp,a= .slice (some ⟨b,p,none⟩) n cp→cp≠0→¬c.mut b):VRel c (.lst s l) a:=by
 rcases h with⟨q,rfl,rfl,hq⟩|⟨b,p,cp,y,rfl,h1,h2,h3,h4,h5⟩
 ·exact .lstn hq
 ·by_cases hc:cp=0
  ·subst hc;have:l=[]:=List.length_eq_zero_iff.1 (by omega);subst this;exact .lstn fun z hz=>by injection hz with hz;rw[←hz]
  ·exact .lst (hn _ _ _ _ rfl hc) h1 h2 rfl h3 h4 h5
theorem VRel.listAt {c:Ctx}{s:Sh}{l:List (El s)}{a:Value}(h:VRel c (.lst s l) a):ph c s l a:=by
 cases h with
 |lstn hq=>exact .inl ⟨_,rfl,rfl,hq⟩
 |lst hn hy he h1 h2 h3 h4=>subst h1;exact .inr ⟨_,_,_,_,rfl,hy,he,h2,h3,h4⟩
theorem VRel.lst_mut {c:Ctx}{s:Sh}{l:List (El s)}{b p n cp:Nat}(h:VRel c (.lst s l) (.slice (some ⟨b,p,none⟩) n cp))(hc:cp≠0): ¬c.mut b:=by
 cases h with
 |lstn=>exact(hc rfl).elim
 |lst hn=>exact hn
theorem Rel.fz_mut {c:Ctx}(hR:Rel c){k b:Nat}(hk:(aa c.S k).frozen=true)(hd:(aa c.S k).dim≠none)(hm:c.μ k=some b): ¬c.mut b:=by
 rintro(⟨k',h1,h2⟩|h)
 ·have:=hR.inj k' k b h1 hd h2 hm;subst this;rw[h1]at hk;cases hk
 ·exact hR.fbk k b hd hm h
def Aq (c:Ctx)(s:Sh)(f:List VV→Option (El s×List VV)):Prop:= ∀cells x rest,f cells=some (x,rest)→
 ∃pre,cells=pre++rest∧pre.length=s.w∧∀as,F2 (VRel c) pre as→F2 (VRel c) (ce s x) as
theorem zd {c:Ctx}{s:Sh}{f:List VV→Option (El s×List VV)}(hf:Aq c s f): ∀(n:Nat) (cells:List VV) (l:List (El s)),Au f n cells=some l→
  cells.length=l.length*s.w∧∀as,F2 (VRel c) cells as→F2 (VRel c) (cv s l) as
 |n,[],l,h=>by
  have:l=[]:=by cases n<;>simpa[Au]using h.symm
  subst this;exact⟨by simp,fun as ha=>ha⟩
 |0,_::_,_,h=>by simp[Au]at h
 |n+1,v::r,l,h=>by
  simp only[Au]at h;cases h1:f (v::r)with
  |none=>rw[h1]at h;cases h
  |some p=>
   obtain⟨x,rest⟩:=p;rw[h1]at h;simp only[zG]at h;cases h2:Au f n rest with
   |none=>rw[h2]at h;cases h
   |some l'=>
    rw[h2]at h;injection h with h
    subst h;obtain⟨pre,h3,h4,h5⟩:=hf _ _ _ h1;obtain⟨h6,h7⟩:=zd hf n rest l' h2;refine⟨by rw[h3,aC,h4,h6,aF,aA,Nat.add_comm],fun as ha=> ?_⟩;rw[h3]at ha;obtain⟨m1,m2,rfl,h8,h9⟩:=F2.app_left ha;exact(h5 _ h8).append (h7 _ h9)
theorem jJ {c:Ctx}{s:Sh}{f:List VV→Option (El s×List VV)}(hf:Aq c s f){k:Nat}{l:List (El s)}(h:oB s f (aa c.S k)=some l):
  ∃d,(aa c.S k).dim=some d∧d.1=s.w∧d.2=l.length*s.w∧∀as,F2 (VRel c) (aa c.S k).vals as→F2 (VRel c) (cv s l) as:=by
 generalize aa c.S k=b at h;cases b with
 |dead=>cases h
 |arr s' z m=>
  obtain⟨e,h1⟩:=fm h;cases e;subst h1;exact⟨_,rfl,rfl,rfl,fun _ h=>h⟩
 |cells es z m=>
  simp only[oB]at h;cases he:Nat.beq es s.w with
  |false=>rw[he]at h;cases h
  |true=>
   rw[he,zC]at h;obtain⟨h1,h2⟩:=zd hf _ _ _ h;exact⟨_,rfl,Nat.eq_of_beq_eq_true he,h1,h2⟩
theorem Cd {c:Ctx}(hR:Rel c){s:Sh}{f:List VV→Option (El s×List VV)}(hf:Aq c s f){k lo n:Nat}{l:List (El s)}{d:Nat×Nat}{a:Value}(h:oB s f (aa c.S k)=some l)
  (hd:(aa c.S k).dim=some d) (hs:xy c k lo n d a):ph c s ((l.drop lo).take n) a∧((l.drop lo).take n).length=n:=by
 obtain⟨d',h1,h2,h3,h4⟩:=jJ hf h;rw[hd]at h1;injection h1 with h1
 subst h1;obtain⟨h0,hb⟩:=hR.blk k d hd;have hw:=fY s;rcases hs with⟨rfl,rfl,rfl,hm,hz⟩|⟨b,cp,y,rfl,hm,h5,h6,hy,h7⟩
 ·have:l.length=0:=by
   rw[hz]at h3;rcases Nat.eq_zero_or_pos l.length with h|h
   ·exact h
   ·have:=Nat.mul_pos h hw;omega
  rw[List.length_eq_zero_iff]at this;subst this;exact⟨.inl ⟨none,rfl,by simp,fun z hz=>by cases hz⟩,by simp⟩
 ·have hln:lo+n≤l.length:=by
   rw[h2,h3]at h5;exact Nat.le_of_mul_le_mul_right h5 hw
  have hlen:((l.drop lo).take n).length=n:=by rw[List.length_take,aG];omega
  refine⟨.inr ⟨b,lo*d.1,cp,y,by rw[hlen],hy, ?_,by rw[hlen];exact h6, ?_, ?_⟩,hlen⟩
  ·rcases hb with⟨h8,h9⟩|⟨b',y',cs,rest,h8,h9,h10,_⟩
   ·rw[h9]at hm;cases hm
   ·rw[hm]at h8;injection h8 with h8
    subst h8;rw[hy]at h9;injection h9 with h9
    subst h9;rw[h10,h2]
  ·rw[hlen];have:=aE d.1 h6;rw[Nat.add_mul]at h7;rw[←h2];omega
  ·rcases hb with⟨h8,h9⟩|⟨b',y',cs,rest,h8,h9,h10,_,h12,h13⟩
   ·rw[h9]at hm;cases hm
   ·rw[hm]at h8;injection h8 with h8
    subst h8;rw[hy]at h9;injection h9 with h9
    subst h9;have h14:=h4 _ h13;have h15:cs.length=l.length*s.w:=by rw[←h14.length,cM]
    rw[hlen,eI,pv,h2,h12,List.drop_append_of_le_length (by rw[h15];exact aE _ (by omega)),List.take_append_of_le_length]
    ·exact(h14.drop _).take _
    ·rw[aG,h15,←Nat.sub_mul];exact aE _ (by omega)
theorem Ha {c:Ctx}(hR:Rel c){s:Sh}{f:List VV→Option (El s×List VV)}(hf:Aq c s f){k:Nat}{l:List (El s)}{a:Value}(h:oB s f (aa c.S k)=some l)(hv:VRel c (.full k) a):ph c s l a:=by
 obtain⟨d,h1,h2,h3,h4⟩:=jJ hf h;cases hv with
 |full hk _ hd=>
  obtain⟨n,h5,h6⟩:=hd d h1
  have hn:n=l.length:=by
   rw[h2,h3]at h5;exact Nat.eq_of_mul_eq_mul_right (fY s) h5
  have:=(Cd hR hf h h1 h6).1
  rwa [List.drop_zero,aD (by omega)]at this
theorem HF {c:Ctx}(hR:Rel c){s:Sh}{f:List VV→Option (El s×List VV)}(hf:Aq c s f){k lo n:Nat}{l:List (El s)}{a:Value}(h:oB s f (aa c.S k)=some l)(hv:VRel c (.part k lo n) a):
  ph c s ((l.drop lo).take n) a∧((l.drop lo).take n).length=n:=by
 obtain⟨d,h1,h2,h3,h4⟩:=jJ hf h;cases hv with
 |part hk _ hd=>exact Cd hR hf h h1 (hd d h1)
def zy :VV→Option Nat
 | .full k=>some k
 | .part k _ _=>some k
 |_=>none
theorem xy.addr {c:Ctx}{k lo n:Nat}{d:Nat×Nat}{b p m cp:Nat}(h:xy c k lo n d (.slice (some ⟨b,p,none⟩) m cp)):c.μ k=some b:=by
 rcases h with⟨h,_⟩|⟨b',cp',y,h,hm,_⟩
 ·cases h
 ·injection h with h1 h2 h3
  injection h1 with h1
  injection h1 with h1
  subst h1;exact hm
theorem EF {c:Ctx}(hR:Rel c){s:Sh}{f:List VV→Option (El s×List VV)}(hf:Aq c s f){v:VV}{l:List (El s)}{a:Value}(h:uN c.S s f v=some l)(hv:VRel c v a):
  ph c s l a∧∀b p n cp,a= .slice (some ⟨b,p,none⟩) n cp→cp≠0→¬c.mut b∨∃k,zy v=some k∧(aa c.S k).dim≠none∧c.μ k=some b:=by
 cases v<;>simp only[uN]at h<;>try(cases h;done)
 case nils=>
  injection h with h
  subst h;cases hv;exact⟨.inl ⟨none,rfl,rfl,fun z hz=>by cases hz⟩,fun b p n cp e=>by cases e⟩
 case lst s' l'=>
  obtain⟨e,h1⟩:=fm h;cases e;subst h1;refine⟨hv.listAt,fun b p n cp e hc=> .inl ?_⟩;subst e;exact hv.lst_mut hc
 case full k=>
  refine⟨Ha hR hf h hv,fun b p n cp e _=> .inr ⟨k,rfl, ?_⟩⟩;obtain⟨d,h1,_⟩:=jJ hf h;subst e;cases hv with
  |full hk _ hd=>
   obtain⟨_,_,h6⟩:=hd d h1;exact⟨by rw[h1];simp,h6.addr⟩
 case part k lo m=>
  cases h0:oB s f (aa c.S k)with
  |none=>rw[h0]at h;cases h
  |some l0=>
   rw[h0]at h;injection h with h
   subst h;refine⟨(HF hR hf h0 hv).1,fun b p n cp e _=> .inr ⟨k,rfl, ?_⟩⟩;obtain⟨d,h1,_⟩:=jJ hf h0;subst e;cases hv with
   |part hk _ hd=>exact⟨by rw[h1];simp,(hd d h1).addr⟩
theorem CL {c:Ctx}(hR:Rel c){s:Sh}{f:List VV→Option (El s×List VV)}(hf:Aq c s f){v:VV}{l:List (El s)}{a:Value}(h:FR c.S s f v=some l)(hv:VRel c v a):VRel c (.lst s l) a:=by
 have key:uN c.S s f v=some l∧∀k,zy v=some k→(aa c.S k).frozen=true:=by
  unfold FR at h;split at h
  ·rename_i k;cases hz:(aa c.S k).frozen with
   |false=>rw[hz]at h;cases h
   |true=>
    rw[hz]at h;exact⟨h,fun k' e=>by cases e;exact hz⟩
  ·rename_i k lo n;cases hz:(aa c.S k).frozen with
   |false=>rw[hz]at h;cases h
   |true=>
    rw[hz]at h;exact⟨h,fun k' e=>by cases e;exact hz⟩
  ·rename_i h1 h2;refine⟨h,fun k e=> ?_⟩;cases v<;>simp only[zy]at e<;>try(cases e;done)
   ·exact(h1 _ rfl).elim
   ·exact(h2 _ _ _ rfl).elim
 obtain⟨h1,h2⟩:=EF hR hf key.1 hv;refine h1.rel fun b p n cp e hc=> ?_
 rcases h2 b p n cp e hc with h3|⟨k,h3,h4,h5⟩
 ·exact h3
 ·exact hR.fz_mut (key.2 k h3) h4 h5
theorem eo {c:Ctx}(hR:Rel c): ∀s:Sh,Aq c s (eb c.S s)
 | .int k,cells,x,rest,h=>by
  cases cells with
  |nil=>simp[eb]at h
  |cons v r=>
   cases v<;>simp only[eb]at h<;>try(cases h;done)
   rename_i k' n;cases hk:decide (k'=k)with
   |false=>rw[hk]at h;cases h
   |true=>
    rw[hk]at h;injection h with h
    injection h with h1 h2
    subst h1;subst h2;have:=of_decide_eq_true hk;subst this;exact⟨[_],rfl,rfl,fun _ h=>h⟩
 | .bool,cells,x,rest,h=>by
  cases cells with
  |nil=>simp[eb]at h
  |cons v r=>
   cases v<;>simp only[eb]at h<;>try(cases h;done)
   injection h with h
   injection h with h1 h2
   subst h1;subst h2;exact⟨[_],rfl,rfl,fun _ h=>h⟩
 | .str,cells,x,rest,h=>by
  cases cells with
  |nil=>simp[eb]at h
  |cons v r=>
   cases v<;>simp only[eb]at h<;>try(cases h;done)
   injection h with h
   injection h with h1 h2
   subst h1;subst h2;exact⟨[_],rfl,rfl,fun _ h=>h⟩
 | .list s,cells,x,rest,h=>by
  cases cells with
  |nil=>simp[eb]at h
  |cons v r=>
   simp only[eb]at h;cases h1:FR c.S s (eb c.S s) v with
   |none=>rw[h1]at h;cases h
   |some l=>
    rw[h1]at h;injection h with h
    injection h with h2 h3
    subst h2;subst h3;refine⟨[v],rfl,rfl,fun as ha=> ?_⟩;cases ha with
    |cons ha hn=>
     cases hn;exact .cons (CL hR (eo hR s) h1 ha) .nil
 | .pair a b,cells,x,rest,h=>by
  simp only[eb]at h;cases h1:eb c.S a cells with
  |none=>rw[h1]at h;cases h
  |some p=>
   obtain⟨y,r1⟩:=p;rw[h1]at h;simp only[zG]at h;cases h2:eb c.S b r1 with
   |none=>rw[h2]at h;cases h
   |some q=>
    obtain⟨z,r2⟩:=q;rw[h2]at h;injection h with h
    injection h with h3 h4
    subst h3;subst h4;obtain⟨p1,rfl,hl1,hf1⟩:=eo hR a _ _ _ h1;obtain⟨p2,rfl,hl2,hf2⟩:=eo hR b _ _ _ h2;refine⟨p1++p2,by rw[List.append_assoc],by rw[aC,hl1,hl2];rfl,fun as ha=> ?_⟩;obtain⟨m1,m2,rfl,h5,h6⟩:=F2.app_left ha;exact(hf1 _ h5).append (hf2 _ h6)
theorem MH {c:Ctx}(hR:Rel c){s:Sh}{v:VV}{l:List (El s)}{a:Value}(h:J7 c.S s v=some l)(hv:VRel c v a):
  ph c s l a∧∀b p n cp,a= .slice (some ⟨b,p,none⟩) n cp→cp≠0→¬c.mut b∨∃k,zy v=some k∧(aa c.S k).dim≠none∧c.μ k=some b:=
 EF hR (eo hR s) h hv
end
section
open Bool renaming and_eq_true → aB
open List renaming getElem?_eq_getElem → aA, getD_eq_getElem?_getD → aC, getElem?_map → aD, all_append → aF, getElem?_eq_none → aG, length_drop → aH, length_take → aI
open Nat renaming zero_add → aE, le_of_ble_eq_true → aJ
def an (c:Ctx)(e:bu)(ea:br):Prop:= ∀t,VRel c (ey e t) (ea t)
theorem an.frame {c c':Ctx}{e:bu}{ea:br}(h:an c e ea)(hl:Le c c'):an c' e ea:=fun t=>(h t).frame hl
theorem nb {e:bu}{d t:Nat}{v:VV}:ey (iH e d v) t=if t=d then v else ey e t:=by
 induction d generalizing e t with
 |zero=>cases e<;>cases t<;>simp[iH,ey]
 |succ d ih=>
  cases e with
  |nil=>
   cases t with
   |zero=>simp[iH,ey]
   |succ t=>simp[iH,ey,ih]
  |cons a r=>
   cases t with
   |zero=>simp[iH,ey]
   |succ t=>simp[iH,ey,ih]
theorem an.put {c:Ctx}{e:bu}{ea:br}(h:an c e ea){d:Nat}{v:VV}{a:Value}(hv:VRel c v a):an c (iH e d v) (ea.put d a):=by
 intro t;rw[nb];unfold br.put;by_cases ht:t=d
 ·rw[zE ht,zE ht];exact hv
 ·rw[zF ht,zF ht];exact h t
theorem an.putO {c:Ctx}{e:bu}{ea:br}(h:an c e ea){d:Option Nat}{v:VV}{a:Value}(hv:VRel c v a):an c (putO e d v) (ea.putO d a):=by
 cases d with
 |none=>exact h
 |some d=>exact h.put hv
theorem Hv (c:Ctx)(v:Value):VRel c (Bh v) v:=by
 unfold Bh;split
 ·exact .bool _
 ·exact .int _ _
 ·exact .str rfl
 ·exact .nilp
 ·exact .nils
 ·exact .nilf
 ·exact .undef _
theorem vP (c:Ctx)(l:List Value):F2 (VRel c) (l.map Bh) l:=by
 induction l with
 |nil=>exact .nil
 |cons v l ih=>exact .cons (Hv c v) ih
theorem OW (c:Ctx)(v:Value):VRel c (Th v) v:=by
 unfold Th;split
 ·rename_i cs;exact .agg (by simpa using vP c cs.toList)
 ·exact Hv c _
theorem bg {c:Ctx}{e:bu}{ea:br}(h:an c e ea)(x:Operand):VRel c (ev e x) (ea.ev x):=by
 cases x with
 |tmp t=>exact h t
 |const v=>exact OW c v
 |global _=>exact .undef _
 |func f=>exact .fn .nil .nil
theorem Bs {c:Ctx}{e:bu}{ea:br}(h:an c e ea)(xs:List Operand):F2 (VRel c) (xs.map (ev e)) (xs.map ea.ev):=by
 induction xs with
 |nil=>exact .nil
 |cons x xs ih=>exact .cons (bg h x) ih
theorem ai {β:Type}{b:Bool}{x:Option β}{y:β}(h:gd b x=some y):b=true∧x=some y:=by
 cases b with
 |false=>cases h
 |true=>exact⟨rfl,h⟩
theorem HA {c:Ctx}{v:VV}{a:Value}(h:VRel c v a)(h1:Pc v=true):one a=true:=by
 cases h<;>first|rfl|assumption|(cases h1;done)|(rename_i h;rcases h with rfl|⟨_,_,rfl⟩<;>rfl)
theorem eF {c:Ctx}: ∀{l:List VV} {m:List Value},F2 (VRel c) l m→gO l=true→m.all one=true
 |_,_, .nil,_=>rfl
 |_,_, .cons h1 h2,h=>by
  simp only[gO,List.all_cons,aB]at h⊢;exact⟨HA h1 h.1,eF h2 h.2⟩
theorem vm : ∀(s:Sh) (x:El s),gO (ce s x)=true
 | .int _,_=>rfl
 | .bool,_=>rfl
 | .str,_=>rfl
 | .list _,_=>rfl
 | .pair a b,x=>by
  have h1:=vm a x.1;have h2:=vm b x.2;simp only[gO,ce,aF,aB]at*;exact⟨h1,h2⟩
theorem jM (s:Sh)(l:List (El s)):gO (cv s l)=true:=by
 induction l with
 |nil=>rfl
 |cons x l ih=>
  have h1:=vm s x;rw[cL];simp only[gO,aF,aB]at*;exact⟨h1,ih⟩
theorem zc {c:Ctx}{v:VV}{a:Value}(h:VRel c v a)(hv:gO (fS v)=true):F2 (VRel c) (fS v) (cellsOf a):=by
 have hone:one a=true→cellsOf a=[a]:=fun h=>by cases a<;>first|rfl|(cases h;done)
 cases v with
 |agg l=>
  cases h with
  |agg h=>exact h
 |undef=>cases hv
 |tup l=>cases hv
 |_=>
  rw[hone (HA h rfl)];exact .cons h .nil
theorem bl {T:dn}{op:AOp}{e:br}{σ σ':Hp}{v:Value}{K:Value→Hp→Prop}(h:op.run e σ=some (v,σ'))(hk:K v σ'):bj T op e σ K:=by
 unfold bj;split
 ·cases h
 ·cases h
 ·rw[h];exact hk
theorem nJ {α:Type}: ∀(l:List α) (i:Nat),nth l i=l[i]?
 |[],_=>rfl
 |_::_,0=>rfl
 |_::l,i+1=>by
  rw[show nth (_::l) (i+1)=nth l i from rfl,nJ l i];rfl
theorem F2.nth {c:Ctx}{l:List VV}{m:List Value}(h:F2 (VRel c) l m){i:Nat}{v:VV}(hv:nth l i=some v): ∃a,m[i]?=some a∧VRel c v a:=by
 rw[nJ]at hv;exact h.get i v hv
theorem zK {k:IntKind}: ∀{cs:List VV} {l:List Int},nf k cs=some l→cs=l.map (.int k)
 |[],l,h=>by cases h;rfl
 |v::r,l,h=>by
  cases v<;>simp only[nf]at h<;>try(cases h;done)
  rename_i k' n;cases hk:decide (k'=k)with
  |false=>rw[hk]at h;cases h
  |true=>
   rw[hk,zC]at h;cases h1:nf k r with
   |none=>rw[h1]at h;cases h
   |some m=>
    rw[h1]at h;injection h with h
    subst h;rw[zK h1,of_decide_eq_true hk];rfl
theorem Cf : ∀{cs:List VV} {l:List Bool},Ce cs=some l→cs=l.map .bool
 |[],l,h=>by cases h;rfl
 |v::r,l,h=>by
  cases v<;>simp only[Ce]at h<;>try(cases h;done)
  cases h1:Ce r with
  |none=>rw[h1]at h;cases h
  |some m=>
   rw[h1]at h;injection h with h
   subst h;rw[Cf h1];rfl
theorem E2 : ∀{cs:List VV} {l:List (List Int)},Ih cs=some l→cs=l.map .str
 |[],l,h=>by cases h;rfl
 |v::r,l,h=>by
  cases v<;>simp only[Ih]at h<;>try(cases h;done)
  cases h1:Ih r with
  |none=>rw[h1]at h;cases h
  |some m=>
   rw[h1]at h;injection h with h
   subst h;rw[E2 h1];rfl
theorem HG {β:Type}{S:ae}{k:VV→ae→Option β}{y:β}: ∀{cs:List VV} {i:Nat},Kh S k cs i=some y→∃v,cs[i]?=some v∧k v S=some y
 |[],_,h=>by cases h
 |v::r,i,h=>by
  simp only[Kh]at h;cases hi:Nat.beq i 0 with
  |true=>
   rw[hi]at h;have:=Nat.eq_of_beq_eq_true hi;subst this;exact⟨v,rfl,h⟩
  |false=>
   rw[hi]at h;obtain⟨w,h1,h2⟩:=HG h;have:i≠0:=fun e=>by subst e;cases hi
   obtain⟨j,rfl⟩:=Nat.exists_eq_succ_of_ne_zero this;exact⟨w,h1,h2⟩
theorem GJ {β:Type}{S:ae}{k:VV→ae→Option β}{y:β}{cs:List VV}{i:Nat}(hi:i<cs.length)(h:GI cs i S k=some y): ∃v,cs[i]?=some v∧k v S=some y:=by
 unfold GI at h;split at h
 ·rename_i kd n r;split at h
  ·rename_i l hl;have:=zK hl;subst this;refine⟨_, ?_,h⟩;rw[show(VV.int kd n::l.map (VV.int kd))=(n::l).map (VV.int kd)from rfl,aD];have hi':i<(n::l).length:=by simpa using hi
   rw[aA hi',aC,aA hi'];rfl
  ·cases h
 ·rename_i b r;split at h
  ·rename_i l hl;have:=Cf hl;subst this;refine⟨_, ?_,h⟩;rw[show(VV.bool b::l.map VV.bool)=(b::l).map VV.bool from rfl,aD];have hi':i<(b::l).length:=by simpa using hi
   rw[aA hi',aC,aA hi'];rfl
  ·cases h
 ·rename_i b r;split at h
  ·rename_i l hl;have:=E2 hl;subst this;refine⟨_, ?_,h⟩;rw[show(VV.str b::l.map VV.str)=(b::l).map VV.str from rfl,aD];have hi':i<(b::l).length:=by simpa using hi
   rw[aA hi',aC,aA hi'];rfl
  ·cases h
 ·exact HG h
theorem Rel.block {c:Ctx}(hR:Rel c){k b:Nat}{d:Nat×Nat}(hd:(aa c.S k).dim=some d)(hm:c.μ k=some b):
  ∃y cs rest,c.σ.m b=some y∧y.es=d.1∧((aa c.S k).frozen=false→y.own=true)∧y.cells=cs++rest∧F2 (VRel c) (aa c.S k).vals cs:=by
 obtain⟨_,h⟩:=hR.blk k d hd;rcases h with⟨_,h⟩|⟨b',y,cs,rest,h,h'⟩
 ·rw[h]at hm;cases hm
 ·rw[hm]at h;injection h with h
  subst h;exact⟨y,cs,rest,h'⟩
def lR (c:Ctx)(cs:List VV)(b p:Nat):Prop:= ∃y,c.σ.m b=some y∧p+cs.length≤y.cells.length∧F2 (VRel c) cs ((y.cells.drop p).take cs.length)
theorem lR.get {c:Ctx}{cs:List VV}{b p:Nat}(h:lR c cs b p){o:Nat}{v:VV}(hv:nth cs o=some v): ∃y a,c.σ.m b=some y∧y.cells[p+o]?=some a∧VRel c v a:=by
 obtain⟨y,h1,h2,h3⟩:=h;obtain⟨a,h4,h5⟩:=F2.nth h3 hv;refine⟨y,a,h1, ?_,h5⟩;rw[nJ]at hv
 have ho:o<cs.length:=by
  rcases Nat.lt_or_ge o cs.length with h|h
  ·exact h
  ·rw[aG h]at hv;cases hv
 rwa [List.getElem?_take,zE ho,List.getElem?_drop]at h4
theorem lR.read {c:Ctx}{cs:List VV}{b p:Nat}(h:lR c cs b p){o n:Nat}(hn:o+n≤cs.length): ∃y as,c.σ.m b=some y∧iN y (p+o) n=some as∧F2 (VRel c) ((cs.drop o).take n) as:=by
 obtain⟨y,h1,h2,h3⟩:=h;refine⟨y,(y.cells.drop (p+o)).take n,h1,zE (by omega), ?_⟩;have h4:=(h3.drop o).take n;rw[List.drop_take,List.drop_drop,List.take_take,Nat.min_eq_left (by omega)]at h4;exact h4
theorem Rel.stands {c:Ctx}(hR:Rel c){k b:Nat}{d:Nat×Nat}(hd:(aa c.S k).dim=some d)(hm:c.μ k=some b):lR c (aa c.S k).vals b 0:=by
 obtain⟨y,cs,rest,h1,_,_,h2,h3⟩:=hR.block hd hm;have hl:=h3.length;refine⟨y,h1,by rw[h2,List.length_append];omega, ?_⟩;rw[List.drop_zero,h2,List.take_append_of_le_length (by omega),List.take_of_length_le (by omega)];exact h3
theorem lR.part {c:Ctx}{cs:List VV}{b p:Nat}(h:lR c cs b p){o n:Nat}(hn:o+n≤cs.length):lR c ((cs.drop o).take n) b (p+o):=by
 obtain⟨y,h1,h2,h3⟩:=h;have hl:((cs.drop o).take n).length=n:=by rw[aI,aH];omega
 refine⟨y,h1,by rw[hl];omega, ?_⟩;have h4:=(h3.drop o).take n;rw[List.drop_take,List.drop_drop,List.take_take,Nat.min_eq_left (by omega)]at h4
 rwa [hl]
theorem HN {β:Type}{c:Ctx}(hR:Rel c){n:Nat}{agg:Bool}{v:VV}{a:Value}{k:VV→ae→Option β}{y:β}(h:EV c.S n agg v k=some y)(hv:VRel c v a):
  ∃b o x,a= .pointer (some ⟨b,o,none⟩)∧c.σ.m b=some x∧
   (agg=false→∃u w,x.cells[o]?=some u∧VRel c w u∧k w c.S=some y)∧
   (agg=true→∃us ws,iN x o n=some us∧F2 (VRel c) ws us∧k (.agg ws) c.S=some y):=by
 have out: ∀(cs:List VV) (b p o:Nat),lR c cs b p→a= .pointer (some ⟨b,p+o,none⟩)→
   cond agg (gd (Nat.ble (o+n) cs.length) (k (.agg ((cs.drop o).take n)) c.S)) (match nth cs o with
    |some v=>k v c.S
    |none=>none)=some y→
   ∃b o x,a= .pointer (some ⟨b,o,none⟩)∧c.σ.m b=some x∧
   (agg=false→∃u w,x.cells[o]?=some u∧VRel c w u∧k w c.S=some y)∧
   (agg=true→∃us ws,iN x o n=some us∧F2 (VRel c) ws us∧k (.agg ws) c.S=some y):=by
  intro cs b p o hs ha h;cases agg with
  |true=>
   obtain⟨h1,h2⟩:=ai h;obtain⟨x,as,h3,h4,h5⟩:=hs.read (aJ h1);exact⟨b,p+o,x,ha,h3,(by intro h;cases h),fun _=>⟨as,_,h4,h5,h2⟩⟩
  |false=>
   rw[zD]at h;split at h
   ·rename_i w hw;obtain⟨x,u,h3,h4,h5⟩:=hs.get hw;exact⟨b,p+o,x,ha,h3,(fun _=>⟨u,w,h4,h5,h⟩),(by intro h;cases h)⟩
   ·cases h
 unfold EV at h;cases v with
 |ptr q o=>
  simp only at h;cases hb:aa c.S q with
  |dead=>rw[hb]at h;cases h
  |arr s z l=>rw[hb]at h;cases h
  |cells es z l=>
   rw[hb]at h;cases hv with
   |ptr hk _ hd=>
    obtain⟨b,hm,ha⟩:=hd (es,l.length) (by rw[hb];rfl);have hs:=hR.stands (k:=q) (d:=(es,l.length)) (by rw[hb];rfl) hm;rw[hb]at hs;exact out l b 0 o hs (by rw[ha,aE]) h
 |pix q o m i=>
  simp only at h;cases hb:aa c.S q with
  |dead=>rw[hb]at h;cases h
  |arr s z l=>rw[hb]at h;cases h
  |cells es z l=>
   rw[hb]at h;obtain⟨h1,h2⟩:=ai h;rw[aB]at h1;have h3:=aJ h1.2;have hagg:agg=false:=by simpa using h1.1
   subst hagg;cases hv with
   |pix hk _ hi hd=>
    obtain⟨b,hm,ha⟩:=hd (es,l.length) (by rw[hb];rfl);have hs:=hR.stands (k:=q) (d:=(es,l.length)) (by rw[hb];rfl) hm;rw[hb]at hs;have hlen:((l.drop o).take m).length=m:=by rw[aI,aH];omega
    obtain⟨w,h4,h5⟩:=GJ (by omega) h2;have hs':lR c ((l.drop o).take m) b (0+o):=lR.part (cs:=l) hs h3;rw[←nJ]at h4;obtain⟨x,u,h6,h7,h8⟩:=hs'.get h4;exact⟨b,o+i,x,ha,h6,(fun _=>⟨u,w,by rwa [aE]at h7,h8,h5⟩),(by intro h;cases h)⟩
 |pel q i o=>
  simp only at h;cases hb:aa c.S q with
  |dead=>rw[hb]at h;cases h
  |cells es z l=>rw[hb]at h;cases h
  |arr s z l=>
   rw[hb]at h;simp only at h;cases hx:l[i]? with
   |none=>rw[hx]at h;cases h
   |some x=>
    rw[hx]at h;cases hv with
    |pel hk _ hd=>
     obtain⟨b,hm,ha⟩:=hd (s.w,l.length*s.w) (by rw[hb];rfl);have hs:=hR.stands (k:=q) (d:=(s.w,l.length*s.w)) (by rw[hb];rfl) hm;rw[hb]at hs
     have hi:i<l.length:=by
      rcases Nat.lt_or_ge i l.length with h|h
      ·exact h
      ·rw[aG h]at hx;cases hx
     have hle:i*s.w+s.w≤(cv s l).length:=by
      rw[cM,←Nat.succ_mul];exact Nat.mul_le_mul_right _ hi
     have hs':lR c (((cv s l).drop (i*s.w)).take s.w) b (0+i*s.w):=lR.part (cs:=cv s l) hs hle;rw[zu hx,aE]at hs';exact out (ce s x) b (i*s.w) o hs' ha h
 |pin s x o=>
  simp only at h;cases hv with
  |pin hn hy hl hf=>
   exact out (ce s x) _ _ o ⟨_,hy,by rw[cm];exact hl,by rw[cm];exact hf⟩ rfl h
 |_=>cases h
end
end Go.V
