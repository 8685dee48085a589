/- A part of the proofs of this claim: what functions of the program answer on an abstract machine, and plain laws. No condition. -/
import Derived.Test.YtbocegmeciaanaaGreatA2
import Derived.IntWalk
import Derived.Below
set_option linter.unusedVariables false
set_option linter.unusedSimpArgs false
set_option linter.unusedSectionVars false
namespace Go.Ab
open Go.RowKit
def aJ6 (P:Program)(N:Nat)(ops:Array Oper):List Oper→Option DL
 |[]=>some []
 |o::r=>match aJ7 P N ops o,aJ6 P N ops r with
  |some x,some l=>some ((x,(o.after.toList.filter (Region.binds .any ·)).map (·.on))::l)
  |_,_=>none
def AC.outsL :AC→List Nat
 | .seq a b| .cond _ a b=>a.outsL++b.outsL
 | .block id b=>b.outsL.filter fun i=> !(i==id)
 | .loop b=>b.outsL
 | .exit j=>[j]
 |_=>[]
theorem cd4 : ∀(c:AC) (i:Nat),c.outs i=true→i∈c.outsL:=by
 intro c;induction c with
 |seq a b iha ihb=>
  intro i h;simp only[AC.outs,Bool.or_eq_true]at h;exact List.mem_append.2 (h.elim (fun h=> .inl (iha i h)) fun h=> .inr (ihb i h))
 |cond c a b iha ihb=>
  intro i h;simp only[AC.outs,Bool.or_eq_true]at h;exact List.mem_append.2 (h.elim (fun h=> .inl (iha i h)) fun h=> .inr (ihb i h))
 |block id b ih=>
  intro i h;simp only[AC.outs,Bool.and_eq_true]at h;exact List.mem_filter.2 ⟨ih i h.1,h.2⟩
 |loop b ih=>intro i h;exact ih i h
 |exit j=>intro i h;simp[AC.outs]at h;simp[AC.outsL,h]
 |_=>intro i h;simp[AC.outs]at h
def AC.noJump (c:AC):Bool:=c.outsL.all fun i=>decide (i<ae9)
theorem bi0 {c:AC}(h:c.noJump=true){i:Nat}(hi:c.outs i=true):i<ae9:=by
 have:=List.all_eq_true.1 h i (cd4 c i hi);exact of_decide_eq_true this
def td :Code→List Nat
 | .seq a b=>td a++td b
 | .label l=>[l]
 |_=>[]
theorem an3 : ∀(c:Code) (l:Nat),l∉td c→findLabel c l=none:=by
 intro c;induction c with
 |seq a b iha ihb=>
  intro l h;simp only[td,List.mem_append,not_or]at h;simp only[findLabel,iha l h.1,ihb l h.2]
 |label l'=>
  intro l h;simp only[td,List.mem_singleton]at h;simp only[findLabel];rw[if_neg (by simpa using fun e=>h e.symm)]
 |_=>intro l h;rfl
def aD0 (l:Nat):Code→Bool
 | .goto l'=>l'==l
 | .seq a b| .cond _ a b=>aD0 l a||aD0 l b
 | .block _ b| .loop b| .scope b=>aD0 l b
 |_=>false
def ar8 :Code→Option Nat
 | .label l=>some l
 |_=>none
theorem bq1 {c:Code}{l:Nat}(h:ar8 c=some l):c= .label l:=by
 cases c<;>simp[ar8]at h;rw[h]
def jb :Code→Option Nat
 | .seq a b=>match ar8 a with
  |some l=>if aD0 l b then some l else jb b
  |none=>jb b
 |_=>none
def yH (l:Nat):Nat:=ae9+2*l
def wA (l:Nat):Nat:=ae9+2*l+1
def ck7 (l:Nat)(b:AC):AC:= .block (wA l) (.loop (.block (yH l) (.seq b (.exit (wA l)))))
def aD4 (a b:Code):Bool:=match jb b with
 |some l=> !(td a).contains l
 |none=>true
def rP (x:Option AC):Option AC×Option AC:=(x,x)
def cw1 :Option AC→Option AC→Option AC
 |some a,some b=>some (.seq a b)
 |_,_=>none
def bJ7 (a b:Code)(xa xb sb:Option AC):Option AC:=match ar8 a with
 |some l=>if aD0 l b then xb.map (ck7 l)else if aD4 a b then sb.map (.seq .skip)else none
 |none=>match xa,sb with
  |some x,some y=>if aD4 a b&&((jb b).isNone||x.noJump)then some (.seq x y)else none
  |_,_=>none
def tr2 (P:Program)(N:Nat):Code→Option AC×Option AC
 | .skip=>rP (some .skip)
 | .label _=>rP (some .skip)
 | .region _ ops draw=>rP (if draw then match aJ6 P N ops ops.toList with
   |some l=>if ab9 l&&P.follows .mixedOrders then(match as1 l l.length [] []with
    |some its=>some (.sched its)
    |none=>some (.draw l))else none
   |none=>none
  else(aF8 P N ops ops.toList).map .region)
 | .seq a b=>(cw1 (tr2 P N a).1 (tr2 P N b).1,bJ7 a b (tr2 P N a).1 (tr2 P N b).1 (tr2 P N b).2)
 | .cond c a b=>rP (match wJ c,(tr2 P N a).1,(tr2 P N b).1 with
  |some c,some a,some b=>some (.cond c a b)
  |_,_,_=>none)
 | .block id b=>rP (if id<ae9 then((tr2 P N b).1).map (.block id)else none)
 | .loop b=>rP (((tr2 P N b).1).map .loop)
 | .scope b=>rP (match(tr2 P N b).2 with
  |some ac=>if ac.noJump then some ac else none
  |none=>none)
 | .exit id=>rP (if id<ae9 then some (.exit id)else none)
 | .goto l=>rP (some (.exit (yH l)))
 | .ret=>rP (some .ret)
 |_=>rP none
def oB (P:Program)(N:Nat)(c:Code):Option AC:=(tr2 P N c).1
def bs7 (P:Program)(N:Nat)(c:Code):Option AC:=(tr2 P N c).2
section
variable {P:Program} {T:ig} {ops:Array Oper} {B:Base P} {N:Nat}
theorem aM6 : ∀{l:List Oper} {al:DL},aJ6 P N ops l=some al→l.length=al.length∧∀(i:Nat) o,l[i]?=some o→∃x,al[i]?=some (x,(o.after.toList.filter (Region.binds .any ·)).map (·.on))∧aJ7 P N ops o=some x
 |[],al,h=>by
  simp[aJ6]at h;subst h;exact⟨rfl,fun i o h=>by simp at h⟩
 |o::l,al,h=>by
  simp only[aJ6]at h;split at h
  ·rename_i x r h1 h2;injection h with h
   subst h;obtain⟨h3,h4⟩:=aM6 h2;refine⟨by simp[h3],fun i o' ho=> ?_⟩;cases i with
   |zero=>simp at ho;subst ho;exact⟨x,rfl,h1⟩
   |succ i=>simp at ho;simpa using h4 i o' ho
  ·cases h
theorem cj6 {al:DL}(h:aJ6 P N ops ops.toList=some al):Fits P N ops al:=by
 obtain⟨h1,h2⟩:=aM6 h;refine⟨by simpa using h1,fun i o ho=> ?_,fun i o ho q=> ?_⟩
 ·obtain⟨x,h3,h4⟩:=h2 i o (by simpa using ho);refine⟨x, ?_,h4⟩;have:iY al i=(o.after.toList.filter (Region.binds .any ·)).map (·.on):=by simp[iY,h3]
  rw[this];exact h3
 ·obtain⟨x,h3,h4⟩:=h2 i o (by simpa using ho);have:iY al i=(o.after.toList.filter (Region.binds .any ·)).map (·.on):=by simp[iY,h3]
  rw[this];simp[and_assoc]
theorem bt0 {b:Code}{f:(AExit→dy→Hp→Prop)→dy→Hp→Prop}
  (hb: ∀(Q:AExit→dy→Hp→Prop) (e:dy) (σ:Hp) (μ:Mu) (a:Act) (w:World),f Q e σ→R B μ σ w→gi μ N e a.tmps→a.defers=[]→b.wp P (tf B N μ w Q) a w)
  {Q:AExit→dy→Hp→Prop} {μ0:Mu} {w0:World} {n:Nat} {e:dy} {σ:Hp} {μ:Mu} {a:Act} {w:World} (h:li f Q n e σ) (hR:R B μ σ w) (he:gi μ N e a.tmps) (hd:a.defers=[]) (hμ:μ0.le μ) (hbel:Below B w0 w):
  (Code.loop b).wp P (tf B N μ0 w0 Q) a w:=by
 intro bf k cs
 have key: ∀n e σ μ a w,li f Q n e σ→R B μ σ w→gi μ N e a.tmps→a.defers=[]→μ0.le μ→Below B w0 w→
   ∃x a' w',tf B N μ0 w0 Q x a' w'∧Arrives P (lone (bf.at a (.code b:: .inLoop b::k)) cs w) bf k cs x a' w':=by
  intro n;induction n with
  |zero=>intro e σ μ a w h;exact h.elim
  |succ n ih=>
   intro e σ μ a w h hR he hd hμ hbel;simp only[li]at h;obtain⟨x,a₁,w₁,hq,harr⟩:=hb _ e σ μ a w h hR he hd bf (.inLoop b::k) cs;obtain⟨ax,e1,σ1,μ1,hx,hq,h1,h2,h3,h4,h5⟩:=hq;cases ax with
   |normal=>
    cases x<;>simp[wy]at hx;obtain⟨x₂,a₂,w₂,hq₂,harr₂⟩:=ih e1 σ1 μ1 a₁ w₁ hq h2 h3 h4 (Mu.le_trans hμ h1) (hbel.trans h5);exact⟨x₂,a₂,w₂,hq₂, .of_steps (Steps.trans harr (.one step_inLoop)) harr₂⟩
   |exit id=>
    cases x with
    |exit j=>
     obtain⟨rfl,hj⟩:=hx;exact⟨.exit id,a₁,w₁,⟨.exit id,e1,σ1,μ1,⟨rfl,hj⟩,hq,Mu.le_trans hμ h1,h2,h3,h4,hbel.trans h5⟩, .pass (x:= .inLoop b) rfl (fun _ _=> .inl (by simp)) harr⟩
    |goto l=>exact⟨.goto l,a₁,w₁,⟨.exit id,e1,σ1,μ1,hx,hq,Mu.le_trans hμ h1,h2,h3,h4,hbel.trans h5⟩,fun k' hk=>harr k' (by simp[gotoIn,hk])⟩
    |_=>exact hx.elim
   |ret=>
    cases x<;>simp[wy]at hx;exact⟨.ret,a₁,w₁,⟨.ret,e1,σ1,μ1,trivial,hq,Mu.le_trans hμ h1,h2,h3,h4,hbel.trans h5⟩, .pass (x:= .inLoop b) rfl (fun _ _=> .inl (by simp)) harr⟩
 obtain⟨x,a',w',hq,harr⟩:=key n e σ μ a w h hR he hd hμ hbel;exact⟨x,a',w',hq, .of_steps (.one step_loop) harr⟩
theorem ao4 {is:List Nat}{σ:Hp}: ∀{chk:List (Nat×(Hp→Prop))},wB is σ chk→∀i c,(i,c)∈chk→i∈is→c σ
 |[],_,i,c,h,_=>by cases h
 |(j,d)::r,hr,i,c,h,hi=>by
  simp only[wB]at hr;rcases List.mem_cons.1 h with h|h
  ·injection h with h1 h2
   subst h1 h2;rw[if_pos (by simpa using hi)]at hr;exact hr.1
  ·split at hr
   ·exact ao4 hr.2 i c h hi
   ·exact ao4 hr i c h hi
theorem xn {al:DL}{m:Nat}{σ:Hp}: ∀{chk:List (Nat×(Hp→Prop))},(∀i c,(i,c)∈chk→vK al i m=false→c σ)→af0 al m σ chk
 |[],_=>trivial
 |(j,d)::r,h=>by
  simp only[af0];split
  ·exact xn fun i c hc=>h i c (List.mem_cons_of_mem _ hc)
  ·rename_i hb;exact⟨h j d (List.mem_cons_self ..) (by simpa using hb),xn fun i c hc=>h i c (List.mem_cons_of_mem _ hc)⟩
theorem bB1 {op:AOp}{e:dy}{σ:Hp}{k k':Value→Hp→Prop}(hT:sO T)(hk: ∀v σ',k v σ'→k' v σ')(h:db T op e σ k):db T op e σ k':=by
 unfold db at*;cases op<;>simp only at h⊢
 case call f xs=>exact hT _ _ _ _ _ hk h
 case callv f xs=>
  split at h
  ·exact hT _ _ _ _ _ hk h
  ·exact h.elim
 all_goals
  split at h
  ·exact hk _ _ h
  ·exact h.elim
theorem an7 (hT:sO T){Q:dy→Hp→Prop}{al:DL}: ∀(f:Nat) (done loads:List Nat) (its:List SItem) (chk chk':List (Nat×(Hp→Prop))) (e:dy) (σ:Hp),as1 al f done loads=some its→wpI T Q its chk' e σ→
  (∀i c,(i,c)∈chk→i∈loads)→(∀i c,(i,c)∈chk→bZ9 al i=true→(i,c)∈chk')→wpD T Q al f done chk e σ
 |0,done,loads,its,chk,chk',e,σ,h,hw,_,_=>by
  simp[as1]at h;subst h;exact hw
 |f+1,done,loads,its,chk,chk',e,σ,h,hw,h1,h2=>by
  simp only[as1]at h;simp only[wpD];split at h
  ·rename_i i hn;split at h
   ·rename_i o p ho;obtain⟨r,hr,h⟩:=Option.map_eq_some_iff.1 h;subst h;simp only[wpI]at hw;split at hw
    ·rename_i hwant;rw[if_pos hwant];simp only[Bool.false_eq_true,if_false]at hw;split at hw
     ·rename_i v σ1 hrun;refine an7 hT f _ _ _ _ _ _ _ hr hw (fun j c hc=> ?_) (fun j c hc hk=> ?_)
      ·by_cases hl:o.op.isLoad=true
       ·rw[if_pos hl]at hc⊢;rcases List.mem_cons.1 hc with hc|hc
        ·injection hc with hc _
         subst hc;exact List.mem_cons_self ..
        ·exact List.mem_cons_of_mem _ (h1 j c hc)
       ·rw[if_neg hl]at hc⊢;exact h1 j c hc
      ·by_cases hl:o.op.isLoad=true
       ·rw[if_pos hl]at hc;rcases List.mem_cons.1 hc with hc|hc
        ·have hj:j=i:=by injection hc
         subst hj;rw[if_pos (by simp[hl,hk]),hc];exact List.mem_cons_self ..
        ·split
         ·exact List.mem_cons_of_mem _ (h2 j c hc hk)
         ·exact h2 j c hc hk
       ·rw[if_neg hl]at hc;split
        ·exact List.mem_cons_of_mem _ (h2 j c hc hk)
        ·exact h2 j c hc hk
     ·exact hw.elim
    ·rename_i hwant;rw[if_neg hwant];refine an7 hT f _ _ _ _ _ _ _ hr hw (fun j c hc=> ?_) h2;split
     ·exact List.mem_cons_of_mem _ (h1 j c hc)
     ·exact h1 j c hc
   ·cases h
  ·rename_i hn;split at h
   ·rename_i hm;rw[hm];injection h with h
    subst h;exact hw
   ·rename_i m hm;rw[hm];simp only[bd4];split at h
    ·rename_i o p ho;obtain⟨r,hr,h⟩:=Option.map_eq_some_iff.1 h;subst h
     have hmv:bH8 al m=true:=by
      have:=(xp.1 (show m∈eD al done by rw[hm];exact List.mem_cons_self ..)).2.2.2;simpa[ad4,bH8,ho]using this
     have hml:m<al.length:=(xp.1 (show m∈eD al done by rw[hm];exact List.mem_cons_self ..)).1;simp only[wpI]at hw⊢;split at hw
     ·rename_i hwant;rw[if_pos hwant];simp only[if_true]at hw;refine bB1 hT (fun v σ' hk=> ?_) hw;refine⟨xn fun i c hc hb=> ?_,an7 hT f _ _ _ _ _ _ _ hr hk.2 h1 h2⟩;have hkp:bZ9 al i=true:=List.any_eq_true.2 ⟨m,List.mem_range.2 hml,by simp[hmv,hb]⟩;exact ao4 hk.1 i c (h2 i c hc hkp) (by simp[h1 i c hc,hb])
     ·rename_i hwant;rw[if_neg hwant];exact an7 hT f _ _ _ _ _ _ _ hr hw h1 h2
    ·cases h
   ·cases h
def aM1 (l:Nat)(J:Act→World→Prop)(Q:Exit→Act→World→Prop):Exit→Act→World→Prop
 | .goto l',a,w=>(l'=l∧J a w)∨(l'≠l∧Q (.goto l') a w)
 |x,a,w=>Q x a w
theorem bB7 {c rest:Code}{Q:Exit→Act→World→Prop}{a:Act}{w:World}(l:Nat)(J:Nat→Act→World→Prop)(hf:findLabel c l=some rest)(hQ: ∀l' a w,¬Q (.goto l') a w)
  (first:c.wp P (aM1 l (fun a w=> ∃n,J n a w) Q) a w) (pass: ∀n a w,J n a w→rest.wp P (aM1 l (fun a w=> ∃m,m<n∧J m a w) Q) a w):(Code.scope c).wp P Q a w:=by
 intro b k cs;have hg:gotoIn l (.inScope c::k)=some (.code rest:: .inScope c::k):=by simp[gotoIn,hf]
 have key: ∀n a w,J n a w→∃e a' w',Q e a' w'∧Arrives P (lone (b.at a (.code rest:: .inScope c::k)) cs w) b k cs e a' w':=by
  intro n;induction n using Nat.strongRecOn with
  |_ n ih=>
   intro a w hJ;obtain⟨e,a₁,w₁,hq,harr⟩:=pass n a w hJ b (.inScope c::k) cs;cases e with
   |normal=>exact⟨.normal,a₁,w₁,hq,Steps.trans harr (.one step_inScope)⟩
   |exit id=>exact⟨.exit id,a₁,w₁,hq,fun k' hk=>harr k' (by simp[exitTo,hk])⟩
   |goto l'=>
    rcases hq with⟨rfl,m,hlt,hJ'⟩|⟨_,hq⟩
    ·obtain⟨e₂,a₂,w₂,hq₂,harr₂⟩:=ih m hlt a₁ w₁ hJ';exact⟨e₂,a₂,w₂,hq₂, .of_steps (harr _ hg) harr₂⟩
    ·exact(hQ _ _ _ hq).elim
   |ret=>exact⟨_,a₁,w₁,hq,harr⟩
   |panic ch=>exact⟨_,a₁,w₁,hq,harr⟩
   |outgrown=>exact⟨_,a₁,w₁,hq,harr⟩
 obtain⟨e,a₁,w₁,hq,harr⟩:=first b (.inScope c::k) cs
 cases e with
 |normal=>exact⟨.normal,a₁,w₁,hq, .head step_scope (Steps.trans harr (.one step_inScope))⟩
 |exit id=>exact⟨.exit id,a₁,w₁,hq,fun k' hk=> .head step_scope (harr k' (by simp[exitTo,hk]))⟩
 |goto l'=>
  rcases hq with⟨rfl,n,hJ'⟩|⟨_,hq⟩
  ·obtain⟨e₂,a₂,w₂,hq₂,harr₂⟩:=key n a₁ w₁ hJ';exact⟨e₂,a₂,w₂,hq₂, .of_steps (.head step_scope (harr _ hg)) harr₂⟩
  ·exact(hQ _ _ _ hq).elim
 |ret=>exact⟨_,a₁,w₁,hq, .of_steps (.one step_scope) harr⟩
 |panic ch=>exact⟨_,a₁,w₁,hq, .of_steps (.one step_scope) harr⟩
 |outgrown=>exact⟨_,a₁,w₁,hq, .of_steps (.one step_scope) harr⟩
def Jst {P:Program}(B:Base P)(N:Nat)(μ0:Mu)(w0:World)(L:Nat→dy→Hp→Prop)(n:Nat):Act→World→Prop:=fun a w=>
 ∃e σ μ,L n e σ∧μ0.le μ∧R B μ σ w∧gi μ N e a.tmps∧a.defers=[]∧Below B w0 w
def Aok (P:Program)(T:ig)(B:Base P)(N:Nat)(c:Code):Prop:= ∀(ac:AC),oB P N c=some ac→∀(Q:AExit→dy→Hp→Prop) (e:dy) (σ:Hp) (μ:Mu) (a:Act) (w:World),wg T ac Q e σ→
  R B μ σ w→gi μ N e a.tmps→a.defers=[]→c.wp P (tf B N μ w Q) a w
def Sok (P:Program)(T:ig)(B:Base P)(N:Nat)(c:Code):Prop:= ∀(ac:AC),bs7 P N c=some ac→∀(Q:AExit→dy→Hp→Prop),
 (jb c=none→∀(e:dy) (σ:Hp) (μ:Mu) (a:Act) (w:World),wg T ac Q e σ→R B μ σ w→gi μ N e a.tmps→a.defers=[]→c.wp P (tf B N μ w Q) a w)∧
 (∀l,jb c=some l→∃rest L,findLabel c l=some rest∧∀μ0 w0,
  (∀(e:dy) (σ:Hp) (μ:Mu) (a:Act) (w:World),wg T ac Q e σ→R B μ σ w→gi μ N e a.tmps→a.defers=[]→μ0.le μ→Below B w0 w→c.wp P (aM1 l (fun a w=> ∃n,Jst B N μ0 w0 L n a w) (tf B N μ0 w0 Q)) a w)∧
  (∀n a w,Jst B N μ0 w0 L n a w→rest.wp P (aM1 l (fun a w=> ∃m,m<n∧Jst B N μ0 w0 L m a w) (tf B N μ0 w0 Q)) a w))
theorem Sok.of {c:Code}(h1:bs7 P N c=oB P N c)(h2:jb c=none)(h:Aok P T B N c):Sok P T B N c:=fun ac hac Q=>
 ⟨fun _=>h ac (h1▸hac) Q,fun l hl=>by rw[h2]at hl;cases hl⟩
theorem aI6 {μ:Mu}{w:World}{Q:AExit→dy→Hp→Prop}{x:Exit}{a':Act}{w':World}(h:tf B N μ w Q x a' w')(hx:x≠ .normal): ∃ax e' σ' μ',ax≠ .normal∧wy ax x∧Q ax e' σ'∧μ.le μ'∧R B μ' σ' w'∧gi μ' N e' a'.tmps∧a'.defers=[]∧Below B w w':=by
 obtain⟨ax,e',σ',μ',h1,h2,h3⟩:=h;refine⟨ax,e',σ',μ', ?_,h1,h2,h3⟩;rintro rfl;cases x<;>first|exact h1.elim|exact hx rfl
theorem cn6 {μ:Mu}{w:World}{Q Q':AExit→dy→Hp→Prop}{x:Exit}{a':Act}{w':World}(h:tf B N μ w Q x a' w')(hq: ∀ax e σ,wy ax x→Q ax e σ→Q' ax e σ):tf B N μ w Q' x a' w':=by
 obtain⟨ax,e',σ',μ',h1,h2,h3⟩:=h;exact⟨ax,e',σ',μ',h1,hq _ _ _ h1 h2,h3⟩
theorem bJ4 {x y:Code}{a:Act}{w:World}{μ:Mu}{Q1:AExit→dy→Hp→Prop}{F:Exit→Act→World→Prop}(h:x.wp P (tf B N μ w Q1) a w)
  (hn: ∀e σ μ' a' w',Q1 .normal e σ→μ.le μ'→R B μ' σ w'→gi μ' N e a'.tmps→a'.defers=[]→Below B w w'→y.wp P F a' w')
  (ho: ∀x a' w',x≠ .normal→tf B N μ w Q1 x a' w'→F x a' w'):(Code.seq x y).wp P F a w:=by
 refine wp_seq (wp_mono h fun x' a' w' hx=> ?_);cases x' with
 |normal=>
  obtain⟨ax,e',σ',μ',h1,h2,h3,h4,h5,h6,h7⟩:=hx;cases ax with
  |normal=>exact hn e' σ' μ' a' w' h2 h3 h4 h5 h6 h7
  |exit i=>exact h1.elim
  |ret=>exact h1.elim
 |exit i=>exact ho _ a' w' (by simp) hx
 |goto l=>exact ho _ a' w' (by simp) hx
 |ret=>exact ho _ a' w' (by simp) hx
 |panic ch=>exact ho _ a' w' (by simp) hx
 |outgrown=>exact ho _ a' w' (by simp) hx
theorem bx6 {l:Nat}{J:Act→World→Prop}{F:Exit→Act→World→Prop}{x:Exit}{a:Act}{w:World}(hg:x= .goto l→J a w)(hF:x≠ .goto l→F x a w):aM1 l J F x a w:=by
 cases x with
 |goto l'=>
  by_cases hl:l'=l
  ·subst hl;exact .inl ⟨rfl,hg rfl⟩
  ·exact .inr ⟨hl,hF (by simpa using hl)⟩
 |_=>exact hF (by simp)
theorem aX0 {l:Nat}{J J':Act→World→Prop}{F F':Exit→Act→World→Prop}(hJ: ∀a w,J a w→J' a w)(hF: ∀x a w,F x a w→F' x a w){x:Exit}{a:Act}{w:World}(h:aM1 l J F x a w):aM1 l J' F' x a w:=by
 cases x with
 |goto l'=>
  rcases h with⟨h1,h2⟩|⟨h1,h2⟩
  ·exact .inl ⟨h1,hJ _ _ h2⟩
  ·exact .inr ⟨h1,hF _ _ _ h2⟩
 |_=>exact hF _ _ _ h
theorem bY7 (hM:sO T)(hT: ∀f,Sim P f (T f)): ∀(c:Code),Aok P T B N c∧Sok P T B N c:=by
 intro c;induction c with
 |skip=>
  refine(fun A=>⟨A,Sok.of rfl rfl A⟩) ?_;intro ac h Q e σ μ a w hw hR he hd;simp[oB,tr2,rP]at h;subst h;exact wp_skip ⟨.normal,e,σ,μ,trivial,hw,μ.le_refl,hR,he,hd,Below.refl _ _⟩
 |label l=>
  refine(fun A=>⟨A,Sok.of rfl rfl A⟩) ?_;intro ac h Q e σ μ a w hw hR he hd;simp[oB,tr2,rP]at h;subst h;exact wp_label ⟨.normal,e,σ,μ,trivial,hw,μ.le_refl,hR,he,hd,Below.refl _ _⟩
 |goto l=>
  refine(fun A=>⟨A,Sok.of rfl rfl A⟩) ?_;intro ac h Q e σ μ a w hw hR he hd;simp[oB,tr2,rP]at h;subst h;exact wp_goto ⟨.exit (yH l),e,σ,μ,rfl,hw,μ.le_refl,hR,he,hd,Below.refl _ _⟩
 |region id ops draw=>
  refine(fun A=>⟨A,Sok.of rfl rfl A⟩) ?_;intro ac h Q e σ μ a w hw hR he hd;simp only[oB,tr2,rP]at h;cases draw with
  |false=>
   simp only[Bool.false_eq_true,if_false]at h;obtain⟨al,h1,h⟩:=Option.map_eq_some_iff.1 h;subst h;exact wp_region_list (bq9 hT ops.toList al e σ μ a w h1 hw hR he hd μ.le_refl (Below.refl _ _))
  |true=>
   simp only[if_true]at h;split at h
   ·rename_i al h1;split at h
    ·rename_i h2
     have hw:wpD T (Q .normal) al al.length [] [] e σ:=by
      split at h
      ·rename_i its hits;injection h with h
       subst h;exact an7 hM al.length [] [] its [] [] e σ hits hw (fun i c hc=>(by cases hc)) (fun i c hc=>(by cases hc))
      ·injection h with h
       subst h;exact hw
     simp only[Bool.and_eq_true]at h2;have hF:=cj6 h1;have hempty: ∀(val:Nat→Value),jc al e val []=e:=fun val=>funext fun t=>qI fun i hi=>by cases hi
     refine wp_region_any h2.2 ?_;have hl:left al.length []≤al.length:=by unfold left;exact Nat.le_trans (List.length_filter_le _ _) (by simp)
     refine ci8 hT hF h2.1 (e0:=e) ops.size al.length (fun _=>undef) [] [] [] _ σ μ a _ (by rw[hempty];exact hw) hl (by rw[hF.len];exact hl) ⟨fun i hi=>(by cases hi),fun i hi=>(by cases hi),fun i hi=>(by cases hi),fun i hi=>(by cases hi),fun i hi=>(by cases hi)⟩ (by simp) (fun i hi=>by simp[hi]) (hR.same rfl) (by rw[hempty];exact he) hd μ.le_refl (Below.refl _ _).drew
    ·cases h
   ·cases h
 |seq x y ihx ihy=>
  refine⟨?_, ?_⟩
  ·intro ac h Q e σ μ a w hw hR he hd;have h:cw1 (oB P N x) (oB P N y)=some ac:=h;unfold cw1 at h;split at h
   ·rename_i ax ay h1 h2;injection h with h
    subst h;simp only[wg]at hw;have h1:oB P N x=some ax:=h1;have h2:oB P N y=some ay:=h2;refine bJ4 (ihx.1 ax h1 _ e σ μ a w hw hR he hd) (fun e' σ' μ' a' w' hq g1 g2 g3 g4 g5=> ?_) fun x' a' w' hx hp=> ?_
    ·exact wp_mono (ihy.1 ay h2 Q e' σ' μ' a' w' hq g2 g3 g4) fun x'' a'' w'' h''=>h''.trans g1 g5
    ·obtain⟨axx,e',σ',μ',h0,h1',h2',h3'⟩:=aI6 hp hx;refine⟨axx,e',σ',μ',h1', ?_,h3'⟩;cases axx with
     |normal=>exact(h0 rfl).elim
     |exit i=>exact h2'
     |ret=>exact h2'
   ·cases h
  ·intro ac h Q;have h:bJ7 x y (oB P N x) (oB P N y) (bs7 P N y)=some ac:=h;unfold bJ7 at h;split at h
   ·rename_i l hl;obtain rfl:=bq1 hl;split at h
    ·
     rename_i hg;obtain⟨yc,h1,h⟩:=Option.map_eq_some_iff.1 h;subst h;have hll:jb (.seq (.label l) y)=some l:=by simp[jb,ar8,hg]
     refine⟨fun hn=>(by rw[hll]at hn;cases hn),fun l' hl'=> ?_⟩;rw[hll]at hl';injection hl' with hl'
     subst hl'
     let Q1:AExit→dy→Hp→Prop:=fun x e σ=>match x with
      | .exit i=>if i=wA l then Q .normal e σ else Q (.exit i) e σ
      |x=>Q x e σ
     let body:AC:= .block (yH l) (.seq yc (.exit (wA l)))
     have hne:wA l≠yH l:=by unfold wA yH;omega
     have round: ∀(n:Nat) (e:dy) (σ:Hp) (μ:Mu) (a:Act) (w:World) (μ0:Mu) (w0:World),li (wg T body) Q1 (n+1) e σ→R B μ σ w→gi μ N e a.tmps→a.defers=[]→μ0.le μ→Below B w0 w→
       y.wp P (aM1 l (fun a w=>Jst B N μ0 w0 (fun n=>li (wg T body) Q1 n) n a w) (tf B N μ0 w0 Q)) a w:=by
      intro n e σ μ a w μ0 w0 hw hR he hd hμ hb;simp only[li,body,wg]at hw;refine wp_mono (ihy.1 yc h1 _ e σ μ a w hw hR he hd) fun x' a' w' hp=> ?_
      obtain⟨ax,e',σ',μ',q1,q2,q3,q4,q5,q6,q7⟩:=hp;refine bx6 (fun hx=> ?_) fun hx=> ?_
      ·subst hx;cases ax with
       |exit i=>
        have q1:i=yH l:=q1;subst q1;simp only[if_true]at q2;exact⟨e',σ',μ',q2,Mu.le_trans hμ q3,q4,q5,q6,hb.trans q7⟩
       |_=>exact q1.elim
      ·cases ax with
       |normal=>
        simp only[if_neg hne]at q2;simp only[Q1,if_true]at q2;exact⟨.normal,e',σ',μ',q1,q2,Mu.le_trans hμ q3,q4,q5,q6,hb.trans q7⟩
       |ret=>exact⟨.ret,e',σ',μ',q1,q2,Mu.le_trans hμ q3,q4,q5,q6,hb.trans q7⟩
       |exit i=>
        have hi:i≠yH l∧i≠wA l:=by
         cases x' with
         |exit j=>
          obtain⟨rfl,hj⟩:=q1;unfold yH wA;omega
         |goto l'=>
          have q1:i=ae9+2*l':=q1;have:l'≠l:=fun e=>hx (by rw[e])
          unfold yH wA;omega
         |_=>exact q1.elim
        simp only[if_neg hi.1,Q1,if_neg hi.2]at q2;exact⟨.exit i,e',σ',μ',q1,q2,Mu.le_trans hμ q3,q4,q5,q6,hb.trans q7⟩
     refine⟨.seq .skip y,fun n=>li (wg T body) Q1 n,by simp[findLabel],fun μ0 w0=>⟨fun e σ μ a w hw hR he hd hμ hb=> ?_,fun n a w hJ=> ?_⟩⟩
     ·have hw': ∃n,li (wg T body) Q1 n e σ:=hw
      obtain⟨n,hn⟩:=hw';cases n with
      |zero=>exact hn.elim
      |succ n=>
       refine wp_seq (wp_label ?_);exact wp_mono (round n e σ μ a w μ0 w0 hn hR he hd hμ hb) fun x' a' w' h'=>aX0 (fun _ _ h=>⟨n,h⟩) (fun _ _ _ h=>h) h'
     ·obtain⟨e,σ,μ,hn,hμ,hR,he,hd,hb⟩:=hJ;cases n with
      |zero=>exact hn.elim
      |succ n=>
       refine wp_seq (wp_skip ?_);exact wp_mono (round n e σ μ a w μ0 w0 hn hR he hd hμ hb) fun x' a' w' h'=>aX0 (fun _ _ h=>⟨n,Nat.lt_succ_self n,h⟩) (fun _ _ _ h=>h) h'
    ·
     rename_i hg;split at h
     ·rename_i hlo;obtain⟨yc,h1,h⟩:=Option.map_eq_some_iff.1 h;subst h;have hll:jb (.seq (.label l) y)=jb y:=by simp[jb,ar8,hg]
      obtain⟨s1,s2⟩:=ihy.2 yc h1 Q;refine⟨fun hn e σ μ a w hw hR he hd=>wp_seq (wp_label ?_),fun l' hl'=> ?_⟩
      ·exact s1 (hll▸hn) e σ μ a w hw hR he hd
      ·rw[hll]at hl';obtain⟨rest,L,hf,hJ⟩:=s2 l' hl'
       have hlab:findLabel (.seq (.label l) y) l'=some rest:=by
        have:findLabel (.label l) l'=none:=an3 _ _ (by
         unfold aD4 at hlo;rw[hl']at hlo
         simpa using hlo)
        simp[findLabel,hf]at this⊢;simp[this]
       refine⟨rest,L,hlab,fun μ0 w0=>⟨fun e σ μ a w hw hR he hd hμ hb=>wp_seq (wp_label ?_),(hJ μ0 w0).2⟩⟩;exact(hJ μ0 w0).1 e σ μ a w hw hR he hd hμ hb
     ·cases h
   ·rename_i hl;split at h
    ·rename_i ax ay h1 h2;split at h
     ·rename_i hlo;rw[Bool.and_eq_true,Bool.or_eq_true]at hlo;obtain⟨hlo,hnj⟩:=hlo;injection h with h
      subst h;have hll:jb (.seq x y)=jb y:=by simp[jb,hl]
      obtain⟨s1,s2⟩:=ihy.2 ay h2 Q;refine⟨fun hn e σ μ a w hw hR he hd=> ?_,fun l' hl'=> ?_⟩
      ·simp only[wg]at hw;refine bJ4 (ihx.1 ax h1 _ e σ μ a w hw hR he hd) (fun e' σ' μ' a' w' hq g1 g2 g3 g4 g5=> ?_) fun x' a' w' hx hp=> ?_
       ·exact wp_mono (s1 (hll▸hn) e' σ' μ' a' w' hq g2 g3 g4) fun x'' a'' w'' h''=>h''.trans g1 g5
       ·obtain⟨axx,e',σ',μ',h0,h1',h2',h3'⟩:=aI6 hp hx;refine⟨axx,e',σ',μ',h1', ?_,h3'⟩;cases axx with
        |normal=>exact(h0 rfl).elim
        |exit i=>exact h2'
        |ret=>exact h2'
      ·rw[hll]at hl';obtain⟨rest,L,hf,hJ⟩:=s2 l' hl'
       have hlab:findLabel (.seq x y) l'=some rest:=by
        have:findLabel x l'=none:=an3 _ _ (by
         unfold aD4 at hlo;rw[hl']at hlo
         simpa using hlo)
        simp[findLabel,hf,this]
       have hnj:ax.noJump=true:=by
        rcases hnj with h|h
        ·rw[hl']at h;cases h
        ·exact h
       refine⟨rest,L,hlab,fun μ0 w0=>⟨fun e σ μ a w hw hR he hd hμ hb=> ?_,(hJ μ0 w0).2⟩⟩;simp only[wg]at hw;refine bJ4 (ihx.1 ax h1 _ e σ μ a w (bD5 hM _ _ e σ hw) hR he hd) (fun e' σ' μ' a' w' hq g1 g2 g3 g4 g5=> ?_) fun x' a' w' hx hp=> ?_
       ·exact(hJ μ0 w0).1 e' σ' μ' a' w' hq.2 g2 g3 g4 (Mu.le_trans hμ g1) (hb.trans g5)
       ·obtain⟨axx,e',σ',μ',h0,h1',h2',h3',h4',h5',h6',h7'⟩:=aI6 hp hx;refine bx6 (fun hg=> ?_) fun _=> ?_
        ·subst hg;cases axx with
         |exit i=>
          have k1:i=ae9+2*l':=h1';have:=bi0 hnj (h2'.1 i rfl);omega
         |_=>exact h1'.elim
        ·refine⟨axx,e',σ',μ',h1', ?_,Mu.le_trans hμ h3',h4',h5',h6',hb.trans h7'⟩;cases axx with
         |normal=>exact(h0 rfl).elim
         |exit i=>exact h2'.2
         |ret=>exact h2'.2
     ·cases h
    ·cases h
 |cond c x y ihx ihy=>
  refine(fun A=>⟨A,Sok.of rfl rfl A⟩) ?_;intro ac h Q e σ μ a w hw hR he hd;simp only[oB,tr2,rP]at h;split at h
  ·rename_i c' ax ay h0 h1 h2;injection h with h
   subst h;obtain⟨rfl,k0⟩:=cl h0;have hv:=he.ev k0;simp only[wg]at hw;split at hw
   ·rename_i hb;rw[hb]at hv;exact wp_cond_true hv.bool_inv (ihx.1 ax h1 Q e σ μ a w hw hR he hd)
   ·rename_i hb;rw[hb]at hv;exact wp_cond_false hv.bool_inv (ihy.1 ay h2 Q e σ μ a w hw hR he hd)
   ·exact hw.elim
  ·cases h
 |block id b ih=>
  refine(fun A=>⟨A,Sok.of rfl rfl A⟩) ?_;intro ac h Q e σ μ a w hw hR he hd;simp only[oB,tr2,rP]at h;split at h
  ·rename_i hlt;obtain⟨ab,h1,h⟩:=Option.map_eq_some_iff.1 h;subst h;simp only[wg]at hw;refine wp_block (wp_mono (ih.1 ab h1 _ e σ μ a w hw hR he hd) fun x a' w' hx=> ?_);obtain⟨axx,e',σ',μ',hxr,hq,g1,g2,g3,g4,g5⟩:=hx;cases axx with
   |normal=>
    cases x<;>simp[wy]at hxr;exact⟨.normal,e',σ',μ',trivial,hq,g1,g2,g3,g4,g5⟩
   |exit i=>
    simp only at hq;cases x with
    |exit j=>
     obtain⟨rfl,hj⟩:=hxr;simp only[Exit.inBlock];split
     ·rename_i hid;rw[if_pos hid]at hq;exact⟨.normal,e',σ',μ',trivial,hq,g1,g2,g3,g4,g5⟩
     ·rename_i hid;rw[if_neg hid]at hq;exact⟨.exit i,e',σ',μ',⟨rfl,hj⟩,hq,g1,g2,g3,g4,g5⟩
    |goto l=>
     have hxr':i=ae9+2*l:=hxr;rw[if_neg (by omega)]at hq;exact⟨.exit i,e',σ',μ',hxr,hq,g1,g2,g3,g4,g5⟩
    |_=>exact hxr.elim
   |ret=>
    cases x<;>simp[wy]at hxr;exact⟨.ret,e',σ',μ',trivial,hq,g1,g2,g3,g4,g5⟩
  ·cases h
 |loop b ih=>
  refine(fun A=>⟨A,Sok.of rfl rfl A⟩) ?_;intro ac h Q e σ μ a w hw hR he hd;simp only[oB,tr2,rP]at h;obtain⟨ab,h1,h⟩:=Option.map_eq_some_iff.1 h;subst h;simp only[wg]at hw;obtain⟨n,hn⟩:=hw;exact bt0 (f:=wg T ab) (fun Q e σ μ a w hf=>ih.1 ab h1 Q e σ μ a w hf) hn hR he hd μ.le_refl (Below.refl _ _)
 |scope b ih=>
  refine(fun A=>⟨A,Sok.of rfl rfl A⟩) ?_;intro ac h Q e σ μ a w hw hR he hd;simp only[oB,tr2,rP]at h;split at h
  ·rename_i ac' h1;split at h
   ·rename_i hno;injection h with h
    subst h;have hw':=bD5 hM _ Q e σ hw
    have hng: ∀(l':Nat) (a:Act) (w':World),¬tf B N μ w (bE2 ac' Q) (.goto l') a w':=by
     rintro l' a w' ⟨ax,e',σ',μ',k1,k2,_⟩;cases ax with
     |exit i=>
      have k1:i=ae9+2*l':=k1;have:=bi0 hno (k2.1 i rfl);omega
     |_=>exact k1.elim
    have fin: ∀{x:Exit} {a':Act} {w':World},tf B N μ w (bE2 ac' Q) x a' w'→tf B N μ w Q x a' w':=fun h=>cn6 h fun _ _ _ _ h=>h.2
    obtain⟨s1,s2⟩:=ih.2 ac' h1 (bE2 ac' Q);cases hl:jb b with
    |none=>
     refine wp_scope_straight (wp_mono (s1 hl e σ μ a w hw' hR he hd) fun x a' w' hx=> ?_);cases x with
     |goto l'=>exact(hng l' a' w' hx).elim
     |_=>exact fin hx
    |some l=>
     obtain⟨rest,L,hf,hJ⟩:=s2 l hl;obtain⟨j1,j2⟩:=hJ μ w;refine wp_mono (bB7 l (Jst B N μ w L) hf hng (j1 e σ μ a w hw' hR he hd μ.le_refl (Below.refl _ _)) j2) fun x a' w' hx=>fin hx
   ·cases h
  ·cases h
 |exit id=>
  refine(fun A=>⟨A,Sok.of rfl rfl A⟩) ?_;intro ac h Q e σ μ a w hw hR he hd;simp only[oB,tr2,rP]at h;split at h
  ·rename_i hlt;injection h with h
   subst h;exact wp_exit ⟨.exit id,e,σ,μ,⟨rfl,hlt⟩,hw,μ.le_refl,hR,he,hd,Below.refl _ _⟩
  ·cases h
 |ret=>
  refine(fun A=>⟨A,Sok.of rfl rfl A⟩) ?_;intro ac h Q e σ μ a w hw hR he hd;simp[oB,tr2,rP]at h;subst h;exact wp_ret ⟨.ret,e,σ,μ,trivial,hw,μ.le_refl,hR,he,hd,Below.refl _ _⟩
 |_=>
  refine(fun A=>⟨A,Sok.of rfl rfl A⟩) ?_;intro ac h;simp[oB,tr2,rP]at h
theorem ch9 (hM:sO T)(hT: ∀f,Sim P f (T f))(c:Code)(ac:AC)(h:oB P N c=some ac)(Q:AExit→dy→Hp→Prop)(e:dy)(σ:Hp)(μ:Mu)(a:Act)(w:World)(hw:wg T ac Q e σ)
  (hR:R B μ σ w) (he:gi μ N e a.tmps) (hd:a.defers=[]):c.wp P (tf B N μ w Q) a w:=(bY7 hM hT c).1 ac h Q e σ μ a w hw hR he hd
end
open Go.RowKit
def ba6 (P:Program):List ResultVar→Option (List ARes)
 |[]=>some []
 | .tmp t::r=>(ba6 P r).map (.tmp t:: ·)
 | .cell a t::r=>match ye P t,nc P t,ba6 P r with
  |some true,some n,some r=>some (.cellN a n::r)
  |some false,some _,some r=>some (.cell a::r)
  |_,_,_=>none
def bD0 (P:Program)(f:FuncId):Option AFn:=match P.funcs[f]? with
 |some fn=>match fn.body,bG4 P f with
  |some c,true=>match oB P fn.ntmps c,ba6 P fn.results.toList with
   |some ac,some rs=>some ⟨fn.ntmps,rs,ac⟩
   |_,_=>none
  |_,_=>none
 |none=>none
section
variable {P:Program} {T:ig} {B:Base P} {N:Nat} {μ:Mu} {σ:Hp} {w:World} {e:dy}
def tY (tmps:Array Value):ResultVar→Sem Value
 | .tmp t=>pure (tmps.getD t undef)
 | .cell a t=>do loadVar t (←asAddr (tmps.getD a undef))
theorem bJ1 (fn:Func)(tmps:Array Value):results fn tmps=(do
  let vs←fn.results.mapM (tY tmps)
  pure (if h:vs.size=1 then vs[0]else .tuple vs)):=rfl
theorem br3 {tmps:Array Value}(he:gi μ N e tmps)(hR:R B μ σ w): ∀(l:List ResultVar) (rs:List ARes) (vs:List Value),ba6 P l=some rs→aI9 e σ rs=some vs→
  ∃vs',(l.mapM (tY tmps)).run P w= .ok vs' w∧F2 (VR μ) vs vs'
 |[],rs,vs,h,hr=>by
  simp[ba6]at h;subst h;simp[aI9]at hr;subst hr;exact⟨[],by simp, .nil⟩
 | .tmp t::l,rs,vs,h,hr=>by
  simp only[ba6]at h;obtain⟨rs',h1,h⟩:=Option.map_eq_some_iff.1 h;subst h;simp only[aI9]at hr;split at hr
  ·rename_i v vs1 h2 h3;injection hr with hr
   subst hr;simp[aY5]at h2;subst h2;obtain⟨vs',h4,h5⟩:=br3 he hR l rs' vs1 h1 h3;refine⟨tmps.getD t undef::vs', ?_, .cons (he.2 t) h5⟩;have hF:(tY tmps (.tmp t)).run P w= .ok (tmps.getD t undef) w:=rfl;simp only[List.mapM_cons,Sem.run_bind,Sem.run_pure,Result.andThen_ok,hF,h4]
  ·cases hr
 | .cell a t::l,rs,vs,h,hr=>by
  simp only[ba6]at h;have hv:=he.2 a;split at h
  ·rename_i n rs' h1 h2 h3;injection h with h
   subst h;simp only[aI9]at hr;split at hr
   ·rename_i v vs1 h4 h5;injection hr with hr
    subst hr;obtain⟨vs',h6,h7⟩:=br3 he hR l rs' vs1 h3 h5;simp only[aY5]at h4;split at h4
    ·rename_i b o hb;rw[hb]at hv;obtain⟨g,hg,hq⟩:=hv.ptr_inv;obtain⟨x,hx,h4⟩:=Option.bind_eq_some_iff.1 h4;obtain⟨cs,hcs,rfl⟩:=Option.map_eq_some_iff.1 h4;obtain⟨cs',k1,k2⟩:=hR.reads hx hg hcs;refine⟨.agg cs'.toArray::vs', ?_, .cons (.agg k2) h7⟩
     have hF:(tY tmps (.cell a t)).run P w= .ok (.agg cs'.toArray) w:=by
      simp only[tY,Sem.run_bind,hq,asAddr,Sem.run_pure,Result.andThen_ok,loadVar,as5 h1,if_true,oz h2,k1 P w rfl]
     simp only[List.mapM_cons,Sem.run_bind,Sem.run_pure,Result.andThen_ok,hF,h6]
    ·cases h4
   ·cases hr
  ·rename_i n rs' h1 h2 h3;injection h with h
   subst h;simp only[aI9]at hr;split at hr
   ·rename_i v vs1 h4 h5;injection hr with hr
    subst hr;obtain⟨vs',h6,h7⟩:=br3 he hR l rs' vs1 h3 h5;simp only[aY5]at h4;split at h4
    ·rename_i b o hb;rw[hb]at hv;obtain⟨g,hg,hq⟩:=hv.ptr_inv;obtain⟨x,hx,h4⟩:=Option.bind_eq_some_iff.1 h4;obtain⟨v',k1,k2⟩:=(hR.get hx hg.1).cell hg.2 o v h4;refine⟨v'::vs', ?_, .cons k2 h7⟩
     have hF:(tY tmps (.cell a t)).run P w= .ok v' w:=by
      simp only[tY,Sem.run_bind,hq,asAddr,Sem.run_pure,Result.andThen_ok,loadVar,as5 h1,Bool.false_eq_true,if_false,run_load,k1]
     simp only[List.mapM_cons,Sem.run_bind,Sem.run_pure,Result.andThen_ok,hF,h6]
    ·cases h4
   ·cases hr
  ·cases h
theorem bL9 {f:FuncId}{af:AFn}(h:bD0 P f=some af)(hM:sO T)(hT: ∀g,Sim P g (T g)):Sim P f (wpF T af):=by
 unfold bD0 at h;split at h
 ·rename_i fn hfn;split at h
  ·rename_i c hb hen;split at h
   ·rename_i ac rs h1 h2;injection h with h
    subst h;intro B μ σ w args cargs K hw hR ha;obtain⟨hlen,hw⟩:=hw
    have hcall:bj8 P f:=by
     unfold bG4 at hen;rw[hfn]at hen;simp only[Bool.and_eq_true,Bool.not_eq_true']at hen;exact⟨fn,hfn,hen.1,hen.2⟩
    refine⟨hcall,calls_of_wp hfn hb ?_⟩;have hsz:cargs.size=args.length:=by simpa using ha.length.symm
    have henv:gi μ fn.ntmps (dy.of args) (cargs++Array.replicate (fn.ntmps-cargs.size) undef):=by
     refine⟨by simp only[Array.size_append,Array.size_replicate];simp only at hlen;omega,fun t=> ?_⟩;unfold dy.of;by_cases ht:t<args.length
     ·obtain⟨v',h3,h4⟩:=ha.get t args[t] (List.getElem?_eq_getElem ht)
      have:(cargs++Array.replicate (fn.ntmps-cargs.size) undef).getD t undef=v':=by
       simp only[Array.getD_eq_getD_getElem?];rw[Array.getElem?_append_left (by omega)];have:cargs[t]?=some v':=by simpa using h3
       simp[this]
      rw[this,List.getElem?_eq_getElem ht];exact h4
     ·have:(cargs++Array.replicate (fn.ntmps-cargs.size) undef).getD t undef=undef:=by
       simp only[Array.getD_eq_getD_getElem?];rw[Array.getElem?_append_right (by omega),Array.getElem?_replicate];split<;>rfl
      rw[this,List.getElem?_eq_none (by omega)];exact VR.undef μ
    refine wp_mono (ch9 hM hT c ac h1 _ _ σ μ ⟨_,[]⟩ w hw hR henv rfl) fun x a' w' hx=> ?_
    obtain⟨ax,e',σ',μ',hxr,hq,g1,g2,g3,g4,g5⟩:=hx
    have fin:(match aI9 e' σ' rs with
      |some vs=>K (yi vs) σ'
      |none=>False)→a'.defers=[]∧∃v,(results fn a'.tmps).run P w'= .ok v w'∧cy2 P B μ w K (.returned v) w':=by
     intro hq;refine⟨g4, ?_⟩;split at hq
     ·rename_i vs hvs;obtain⟨vs',k1,k2⟩:=br3 (P:=P) g3 g2 fn.results.toList rs vs h2 hvs;have hl:=k2.length;refine⟨yi vs', ?_,_,σ',_,μ',rfl,hq,g1,g2, ?_,g5,rfl⟩
      ·rw[bJ1,Array.mapM_eq_mapM_toList];simp only[Sem.run_bind,Sem.run_map,k1,Result.andThen_ok,Sem.run_pure]
       congr 1
       match vs',hl with
       |[],_=>rfl
       |[v],_=>rfl
       |v::u::r,_=>simp[yi]
      ·match vs,vs',k2 with
       |[],_, .nil=>exact .tuple .nil
       |[v],_, .cons h .nil=>exact h
       |v::u::r,_, .cons h (.cons h' t)=>exact .tuple (.cons h (.cons h' t))
     ·exact hq.elim
    cases ax with
    |normal=>
     cases x<;>simp[wy]at hxr;exact fin hq
    |exit id=>exact hq.elim
    |ret=>
     cases x<;>simp[wy]at hxr;exact fin hq
   ·cases h
  ·cases h
 ·cases h
theorem Sim.none (P:Program)(f:FuncId):Sim P f fun _ _ _=>False:=fun _ _ _ _ _ _ _ h=>h.elim
theorem Sim.of {f:FuncId}{S S':aG5}(h:Sim P f S)(hS: ∀args σ K,S' args σ K→S args σ K):Sim P f S':=
 fun B μ σ w args cargs K hk=>h B μ σ w args cargs K (hS args σ K hk)
end
inductive Rn (ν:Nat→Nat)(n:Nat):Value→Value→Prop where
 |bool (b:Bool):Rn ν n (.bool b) (.bool b)
 |int (k:IntKind) (m:Int):Rn ν n (.int k m) (.int k m)
 |string (s:ByteArray):Rn ν n (.string s) (.string s)
 |nilp:Rn ν n (.pointer none) (.pointer none)
 |ptr {b o:Nat}:b<n→Rn ν n (.pointer (some ⟨b,o,none⟩)) (.pointer (some ⟨ν b,o,none⟩))
 |nils:Rn ν n (.slice none 0 0) (.slice none 0 0)
 |slice {b o l c:Nat}:b<n→Rn ν n (.slice (some ⟨b,o,none⟩) l c) (.slice (some ⟨ν b,o,none⟩) l c)
 |nilf:Rn ν n .nilFunc .nilFunc
 |func {f:Fn} {a a' c c':Array Value}:F2 (Rn ν n) a.toList a'.toList→F2 (Rn ν n) c.toList c'.toList→Rn ν n (.func f a c) (.func f a' c')
 |nili:Rn ν n .nilIface .nilIface
 |agg {a a':Array Value}:F2 (Rn ν n) a.toList a'.toList→Rn ν n (.agg a) (.agg a')
 |tuple {a a':Array Value}:F2 (Rn ν n) a.toList a'.toList→Rn ν n (.tuple a) (.tuple a')
theorem Rn.vr {ν:Nat→Nat}{n:Nat}{μ1 μ':Mu}(hμ: ∀b,b<n→μ' b=μ1 (ν b)): ∀{v u:Value},Rn ν n v u→∀{u':Value},VR μ1 u u'→VR μ' v u'
 |_,_, .bool b,_,h=>by cases h;exact .bool b
 |_,_, .int k m,_,h=>by cases h;exact .int k m
 |_,_, .string s,_,h=>by cases h;exact .string s
 |_,_, .nilp,_,h=>by cases h;exact .nilp
 |_,_, .ptr hb,_,h=>by cases h with|ptr h1=>exact .ptr ⟨(hμ _ hb).trans h1.1,h1.2⟩
 |_,_, .nils,_,h=>by cases h;exact .nils
 |_,_, .slice hb,_,h=>by cases h with
  |slice h1 h2 h3 h4=>exact .slice ⟨(hμ _ hb).trans h1.1,h1.2⟩ h2 h3 h4
  |slice0 A' h1=>exact .slice0 _ ⟨(hμ _ hb).trans h1.1,h1.2⟩
 |_,_, .nilf,_,h=>by cases h;exact .nilf
 |_,_, .func h1 h2,_,h=>by cases h with|func k1 k2=>exact .func (go h1 k1) (go h2 k2)
 |_,_, .nili,_,h=>by cases h;exact .nili
 |_,_, .agg h1,_,h=>by cases h with|agg k1=>exact .agg (go h1 k1)
 |_,_, .tuple h1,_,h=>by cases h with|tuple k1=>exact .tuple (go h1 k1)
where
 go {l m:List Value}:F2 (Rn ν n) l m→∀{m':List Value},F2 (VR μ1) m m'→F2 (VR μ') l m'
 | .nil,_,h=>by cases h;exact .nil
 | .cons h1 t1,_,h=>by cases h with|cons k1 k2=>exact .cons (Rn.vr hμ h1 k1) (go t1 k2)
theorem VR.narrow {μ μ1 μ':Mu}(hμ: ∀b g g1,μ b=some g→μ1 b=some g1→μ' b=some g1): ∀{v u:Value},VR μ v u→∀{u':Value},VR μ1 v u'→VR μ' v u'
 |_,_, .bool b,_,h=>by cases h;exact .bool b
 |_,_, .int k m,_,h=>by cases h;exact .int k m
 |_,_, .string s,_,h=>by cases h;exact .string s
 |_,_, .nilp,_,h=>by cases h;exact .nilp
 |_,_, .ptr hb,_,h=>by cases h with|ptr h1=>exact .ptr ⟨hμ _ _ _ hb.1 h1.1,h1.2⟩
 |_,_, .nils,_,h=>by cases h;exact .nils
 |_,_, .slice hb _ _ _,_,h=>by cases h with
  |slice h1 h2 h3 h4=>exact .slice ⟨hμ _ _ _ hb.1 h1.1,h1.2⟩ h2 h3 h4
  |slice0 A' h1=>exact .slice0 _ ⟨hμ _ _ _ hb.1 h1.1,h1.2⟩
 |_,_, .slice0 A' hb,_,h=>by cases h with
  |slice h1 h2 h3 h4=>exact .slice ⟨hμ _ _ _ hb.1 h1.1,h1.2⟩ h2 h3 h4
  |slice0 A' h1=>exact .slice0 _ ⟨hμ _ _ _ hb.1 h1.1,h1.2⟩
 |_,_, .sliceX hb _,_,h=>by cases h with
  |sliceX h1 h2=>exact .sliceX ⟨hμ _ _ _ hb.1 h1.1,h1.2⟩ h2
  |sliceX0 A' h1=>exact .sliceX0 _ ⟨hμ _ _ _ hb.1 h1.1,h1.2⟩
 |_,_, .sliceX0 A' hb,_,h=>by cases h with
  |sliceX h1 h2=>exact .sliceX ⟨hμ _ _ _ hb.1 h1.1,h1.2⟩ h2
  |sliceX0 A' h1=>exact .sliceX0 _ ⟨hμ _ _ _ hb.1 h1.1,h1.2⟩
 |_,_, .nilf,_,h=>by cases h;exact .nilf
 |_,_, .func h1 h2,_,h=>by cases h with|func k1 k2=>exact .func (go h1 k1) (go h2 k2)
 |_,_, .iter hb _,_,h=>by cases h with|iter k1 k2=>exact .iter (hμ _ _ _ hb k1) k2
 |_,_, .nili,_,h=>by cases h;exact .nili
 |_,_, .agg h1,_,h=>by cases h with|agg k1=>exact .agg (go h1 k1)
 |_,_, .tuple h1,_,h=>by cases h with|tuple k1=>exact .tuple (go h1 k1)
where
 go {l m:List Value}:F2 (VR μ) l m→∀{m':List Value},F2 (VR μ1) l m'→F2 (VR μ') l m'
 | .nil,_,h=>by cases h;exact .nil
 | .cons h1 t1,_,h=>by cases h with|cons k1 k2=>exact .cons (VR.narrow hμ h1 k1) (go t1 k2)
open Go.RowKit
structure Weak (σ0 σ1:Hp)(r:Value)(σ':Hp)(r':Value)(ν:Nat→Nat):Prop where
 n:σ0.n≤σ'.n
 old: ∀b,b<σ0.n→ν b=b
 inj: ∀b b' x x',σ'.m b=some x→σ'.m b'=some x'→b≠b'→ν b≠ν b'
 blk: ∀b x',σ'.m b=some x'→(σ0.m b=some x'∧σ1.m b=some x')∨
  (b<σ'.n∧∃x,σ1.m (ν b)=some x∧x'.es=x.es∧(x'.own=true→x.own=true)∧F2 (Rn ν σ'.n) x'.cells (x.cells.take x'.cells.length))
 res:Rn ν σ'.n r' r
section
variable {P:Program} {f:FuncId} {S S':aG5}
theorem R.weak {P:Program}{B:Base P}{μ μ1:Mu}{σ σ1 σ':Hp}{w w':World}{r r':Value}{ν:Nat→Nat}(hR:R B μ σ w)(hR1:R B μ1 σ1 w')(hμ:μ.le μ1)(h:Weak σ σ1 r σ' r' ν):
  ∃μ',μ.le μ'∧R B μ' σ' w'∧∀rc,VR μ1 r rc→VR μ' r' rc:=by
 have hdom: ∀b g,μ b=some g→b<σ.n:=fun b g hb=>by
  rcases Nat.lt_or_ge b σ.n with h1|h1
  ·exact h1
  ·rw[hR.fresh b h1]at hb;cases hb
 have hin: ∀b,b<σ'.n→(fun b=>if b<σ'.n then μ1 (ν b)else none) b=μ1 (ν b):=fun b hb=>if_pos hb
 have hlt0: ∀b x,σ.m b=some x→b<σ.n:=fun b x hx=>by
  obtain⟨g,hg,_⟩:=hR.live b x hx;exact hdom b g hg
 have hnar: ∀b g g1,μ b=some g→μ1 b=some g1→(fun b=>if b<σ'.n then μ1 (ν b)else none) b=some g1:=by
  intro b g g1 hb hb1;have h1:=hdom b g hb;rw[hin b (Nat.lt_of_lt_of_le h1 h.n),h.old b h1];exact hb1
 refine⟨fun b=>if b<σ'.n then μ1 (ν b)else none,fun b g hb=> ?_,⟨hR1.base,hR1.old,fun b hb=>if_neg (by omega),fun b x' hx'=> ?_,fun b b' x x' g g' hx hx' hne ho hg hg'=> ?_, ?_⟩,fun rc hrc=>h.res.vr hin hrc⟩
 ·exact hnar b g g hb (hμ b g hb)
 ·rcases h.blk b x' hx' with⟨h1,h2⟩|⟨h1,x,h2,h3,h4,h5⟩
  ·obtain⟨g,hg,hl⟩:=hR1.live b x' h2;obtain⟨g0,hg0,hl0⟩:=hR.live b x' h1;have hgg:g=g0:=by have:=hμ b g0 hg0;rw[hg]at this;exact Option.some.inj this
   refine⟨g,hnar b g0 g hg0 hg,hl.lt,hl.es,fun h0 i v hv=> ?_,hl.own,hl.iter,hl.bld⟩;obtain⟨u,hu,hvu⟩:=hl.cell h0 i v hv;obtain⟨u0,_,hvu0⟩:=hl0.cell (hgg▸h0) i v hv;exact⟨u,hu,hvu0.narrow hnar hvu⟩
  ·obtain⟨g,hg,hl⟩:=hR1.live (ν b) x h2
   have hlen:x'.cells.length≤x.cells.length:=by
    have:=h5.length;rw[List.length_take]at this;omega
   refine⟨g,by simp only[if_pos h1];exact hg,hl.lt,hl.es.trans h3.symm,fun h0 i v hv=> ?_,fun h0 ho=> ?_,fun s hs=> ?_,fun hs=> ?_⟩
   ·obtain⟨u,hu,hvu⟩:=h5.get i v hv
    have hi:i<x'.cells.length:=by
     rcases Nat.lt_or_ge i x'.cells.length with h6|h6
     ·exact h6
     ·rw[List.getElem?_eq_none h6]at hv;cases hv
    rw[List.getElem?_take,if_pos hi]at hu;obtain⟨u',hu',huu⟩:=hl.cell h0 i u hu;exact⟨u',hu',hvu.vr hin huu⟩
   ·obtain⟨k1,k2,k3⟩:=hl.own h0 (h4 ho);exact⟨k1,by omega,k3⟩
   ·obtain⟨k1,p,k2,k3⟩:=hl.iter s hs;refine⟨k1,p, ?_,k3⟩;rw[k2]at h5;have hl5:=h5.length;cases hx':x'.cells with
    |nil=>rfl
    |cons v r=>
     rw[hx']at h5 hl5;cases hc:x.cells.length with
     |zero=>rw[hc]at h5;simp at h5;cases h5
     |succ n=>
      rw[hc]at h5;simp at h5;cases h5 with
      |cons h6 h7=>
       cases h7;cases h6;simp
   ·obtain⟨k1,p,s,k0,k2,k3⟩:=hl.bld hs;refine⟨k1,p,s,k0, ?_,k3⟩;rw[k2]at h5;have hl5:=h5.length;cases hx':x'.cells with
    |nil=>rfl
    |cons v r=>
     rw[hx']at h5 hl5;cases hc:x.cells.length with
     |zero=>rw[hc]at h5;simp at h5;cases h5
     |succ n=>
      rw[hc]at h5;simp at h5;cases h5 with
      |cons h6 h7=>
       cases h7;cases h6;simp
 ·have key: ∀b x,σ'.m b=some x→∃y,σ1.m (ν b)=some y∧(x.own=true→y.own=true)∧b<σ'.n:=by
   intro b x hx;rcases h.blk b x hx with⟨h1,h2⟩|⟨h1,y,h2,_,h4,_⟩
   ·have hb:=hlt0 b x h1;exact⟨x,by rw[h.old b hb];exact h2,id,Nat.lt_of_lt_of_le hb h.n⟩
   ·exact⟨y,h2,h4,h1⟩
  obtain⟨y,hy,hyo,hb⟩:=key b x hx;obtain⟨y',hy',_,hb'⟩:=key b' x' hx';simp only[if_pos hb]at hg;simp only[if_pos hb']at hg';exact hR1.inj (ν b) (ν b') y y' g g' hy hy' (h.inj b b' x x' hx hx' hne) (hyo ho) hg hg'
 ·have key: ∀b x g,σ'.m b=some x→(fun b=>if b<σ'.n then μ1 (ν b)else none) b=some g→∃y,σ1.m (ν b)=some y∧μ1 (ν b)=some g:=by
   intro b x g hx hg
   have hb:b<σ'.n:=by
    rcases Nat.lt_or_ge b σ'.n with h|h
    ·exact h
    ·simp only[if_neg (show¬b<σ'.n by omega)]at hg;cases hg
   simp only[if_pos hb]at hg;rcases h.blk b x hx with⟨h1,h2⟩|⟨_,y,h2,_⟩
   ·exact⟨x,by rw[h.old b (hlt0 b x h1)];exact h2,hg⟩
   ·exact⟨y,h2,hg⟩
  intro b x g hx hg hi k hk b' x' g' hx' hg';obtain⟨y,h1,h2⟩:=key b x g hx hg;obtain⟨y',h3,h4⟩:=key b' x' g' hx' hg';obtain⟨m1,m2⟩:=hR1.sep (ν b) y g h1 h2 hi k hk (ν b') y' g' h3 h4;exact⟨m1,fun hne=>m2 (h.inj b' b x' x hx' hx hne)⟩
theorem Sim.weak (h:Sim P f S)(hS: ∀args σ K,S' args σ K→S args σ fun r1 σ1=> ∃ν σ' r',Weak σ σ1 r1 σ' r' ν∧K r' σ'):Sim P f S':=by
 intro B μ σ w args cargs K hk hR ha;obtain⟨hc,hcalls⟩:=h B μ σ w args cargs _ (hS args σ K hk) hR ha;refine⟨hc,hcalls.mono fun x w' hx=> ?_⟩;obtain⟨r1,σ1,rc,μ1,rfl,⟨ν,σ',r',hw,hK⟩,h1,h2,h3,h4,_⟩:=hx;obtain⟨μ',k1,k2,k3⟩:=hR.weak h2 h1 hw;exact⟨r',σ',rc,μ',rfl,hK,k1,k2,k3 rc h3,h4,rfl⟩
end
def Ext (σ σ1:Hp):Prop:=σ.n≤σ1.n∧∀b,b<σ.n→σ1.m b=σ.m b
theorem Ext.refl (σ:Hp):Ext σ σ:=⟨Nat.le_refl _,fun _ _=>rfl⟩
theorem Ext.trans {a b c:Hp}(h:Ext a b)(k:Ext b c):Ext a c:=⟨Nat.le_trans h.1 k.1,fun x hx=>(k.2 x (Nat.lt_of_lt_of_le hx h.1)).trans (h.2 x hx)⟩
theorem Ext.add {σ σ1:Hp}(h:Ext σ σ1)(x:Blk):Ext σ (σ1.add x):=by
 refine⟨Nat.le_succ_of_le h.1,fun b hb=> ?_⟩;have:b≠σ1.n:=by have:=h.1;omega
 simp only[Hp.add,if_neg this];exact h.2 b hb
theorem Ext.set {σ σ1:Hp}(h:Ext σ σ1){b:Nat}(hb:σ.n≤b)(x:Option Blk):Ext σ (σ1.set b x):=by
 refine⟨h.1,fun b' hb'=> ?_⟩;have:b'≠b:=by omega
 simp only[Hp.set,if_neg this];exact h.2 b' hb'
def Hp.Ok (σ:Hp):Prop:= ∀b x,σ.m b=some x→b<σ.n
def Fin (σ:Hp)(K:Value→Hp→Prop)(r1:Value)(σ1:Hp):Prop:= ∃ν σ' r',Weak σ σ1 r1 σ' r' ν∧K r' σ'
section
variable {P:Program} {f:FuncId} {S S':aG5} {σ σ1:Hp} {K:Value→Hp→Prop}
theorem Sim.lt (h:Sim P f fun args σ K=>σ.Ok∧S args σ K):Sim P f S:=by
 intro B μ σ w args cargs K hk hR ha;refine h B μ σ w args cargs K ⟨fun b x hx=> ?_,hk⟩ hR ha;obtain⟨g,hg,_⟩:=hR.live b x hx;rcases Nat.lt_or_ge b σ.n with h1|h1
 ·exact h1
 ·rw[hR.fresh b h1]at hg;cases hg
theorem Sim.fin (h:Sim P f S)(hS: ∀args σ K,σ.Ok→S' args σ K→S args σ (Fin σ K)):Sim P f S':=
 Sim.lt (Sim.weak h fun args σ K ⟨hlt,hk⟩=>hS args σ K hlt hk)
theorem Fin.plain {r:Value}(h:Ext σ σ1)(hlt:σ.Ok)(hr:Rn id σ.n r r)(hK:K r σ):Fin σ K r σ1:=
 ⟨id,σ,r,⟨Nat.le_refl _,fun _ _=>rfl,fun _ _ _ _ _ _ hne=>hne,fun b x' hx'=> .inl ⟨hx',(h.2 b (hlt b x' hx')).trans hx'⟩,hr⟩,hK⟩
theorem Fin.all {r:Value}(hn:σ.n≤σ1.n)(h1:σ1.Ok)(hr:Rn id σ1.n r r)(hc: ∀b x,σ1.m b=some x→F2 (Rn id σ1.n) x.cells x.cells)(hK:K r σ1):Fin σ K r σ1:=
 ⟨id,σ1,r,⟨hn,fun _ _=>rfl,fun _ _ _ _ _ _ hne=>hne,fun b x' hx'=> .inr ⟨h1 b x' hx',x',hx',rfl,id,by rw[List.take_length];exact hc b x' hx'⟩,hr⟩,hK⟩
theorem Fin.new1 {r r':Value}{b:Nat}{x x':Blk}(h:Ext σ σ1)(hlt:σ.Ok)(hb:σ.n≤b)(hx:σ1.m b=some x)(he:x'.es=x.es)(ho:x'.own=true→x.own=true)(hc:F2 (Rn (fun i=>if i=σ.n then b else i) (σ.n+1)) x'.cells (x.cells.take x'.cells.length))
  (hr:Rn (fun i=>if i=σ.n then b else i) (σ.n+1) r' r) (hK:K r' (σ.add x')):Fin σ K r σ1:=by
 refine⟨fun i=>if i=σ.n then b else i,σ.add x',r',⟨Nat.le_succ _,fun i hi=>if_neg (by omega),fun i i' y y' hy hy' hne=> ?_,fun i y hy=> ?_,hr⟩,hK⟩
 ·have hold: ∀i y,(σ.add x').m i=some y→i≠σ.n→i<σ.n:=by
   intro i y hy hi;simp only[Hp.add,if_neg hi]at hy;exact hlt i y hy
  by_cases h1:i=σ.n
  ·have h2:i'≠σ.n:=fun e=>hne (h1.trans e.symm)
   have:=hold i' y' hy' h2;simp only[if_pos h1,if_neg h2];omega
  ·have:=hold i y hy h1;by_cases h2:i'=σ.n
   ·simp only[if_neg h1,if_pos h2];omega
   ·simp only[if_neg h1,if_neg h2];exact hne
 ·by_cases h1:i=σ.n
  ·subst h1;simp only[Hp.add,if_pos trivial]at hy;injection hy with hy
   subst hy;exact .inr ⟨Nat.lt_succ_self _,x,by simp only[if_pos trivial];exact hx,he,ho,hc⟩
  ·simp only[Hp.add,if_neg h1]at hy;exact .inl ⟨hy,(h.2 i (hlt i y hy)).trans hy⟩
end
section
variable {T:ig}
end
abbrev gb :=List Value→Hp→Value→Hp→Prop
def sp (S:gb):aG5:=fun args σ K=> ∃r σ',S args σ r σ'∧K r σ'
abbrev bE5 :=FuncId→gb
def sps (U:bE5):ig:=fun f=>sp (U f)
def bu8 (P:Program)(U:bE5):Prop:= ∀f,Sim P f (sps U f)
def bE5.put (U:bE5)(f:FuncId)(S:gb):bE5:=fun g=>if g=f then S else U g
def cv2 :bE5:=fun _ _ _ _ _=>False
theorem bu8.none (P:Program):bu8 P cv2:=fun f B μ σ w args cargs K h=>by
 obtain⟨_,_,h,_⟩:=h;exact h.elim
theorem bu8.put {P:Program}{U:bE5}(h:bu8 P U){f:FuncId}{S:gb}(hS:Sim P f (sp S)):bu8 P (U.put f S):=by
 intro g;show Sim P g (sp (if g=f then S else U g));by_cases e:g=f
 ·subst e;rw[if_pos rfl];exact hS
 ·rw[if_neg e];exact h g
section
variable {T:ig} {Q:AExit→dy→Hp→Prop} {q:dy→Hp→Prop} {e:dy} {σ σ':Hp} {a b:AC} {k:Value→Hp→Prop} {v:Value} {K:Value→Hp→Prop}
theorem bI5 {d t:Nat}(h:t≠d):(e.put d v) t=e t:=if_neg h
def Hp.load (σ:Hp):Value→Option Value
 | .pointer (some ⟨b,o,none⟩)=>match σ.m b with
  |some x=>x.cells[o]?
  |none=>none
 |_=>none
def Hp.loadN (σ:Hp)(n:Nat):Value→Option Value
 | .pointer (some ⟨b,o,none⟩)=>match σ.m b with
  |some x=>(rB x o n).map fun cs=> .agg cs.toArray
  |none=>none
 |_=>none
theorem run_load {x:Operand}:(AOp.load x).run e σ=(σ.load (e.ev x)).map fun v=>(v,σ):=by
 simp only[AOp.run];generalize e.ev x=v;cases v<;>try rfl
 rename_i p;rcases p with _|⟨b,o,sp⟩
 ·rfl
 ·cases sp with
  |some s=>rfl
  |none=>
   simp only[Hp.load];cases σ.m b<;>rfl
def Hp.store (σ:Hp)(n:Nat)(a x:Value):Option Hp:=match a with
 | .pointer (some ⟨b,o,none⟩)=>if(cellsOf x).length=n then(match σ.m b with
  |some blk=>(vQ blk o (cellsOf x)).map fun y=>σ.set b (some y)
  |none=>none)else none
 |_=>none
theorem run_store {n:Nat}{x y:Operand}:(AOp.store n x y).run e σ=(σ.store n (e.ev x) (e.ev y)).map fun σ'=>(undef,σ'):=by
 simp only[AOp.run];generalize e.ev x=v;cases v<;>try rfl
 rename_i p;rcases p with _|⟨b,o,sp⟩
 ·rfl
 ·cases sp with
  |some s=>rfl
  |none=>
   simp only[Hp.store];by_cases h:(cellsOf (e.ev y)).length=n
   ·simp only[h,if_true];cases σ.m b with
    |none=>rfl
    |some blk=>
     simp only;cases vQ blk o (cellsOf (e.ev y))<;>rfl
   ·simp only[h,if_false];rfl
def lenS :Value→Option Value
 | .slice _ n _=>some (.int .i64 n)
 |_=>none
end
def cl6 :ig:=fun _ _ _ _=>False
def ig.put (T:ig)(f:FuncId)(s:aG5):ig:=fun g=>if g=f then s else T g
def aK3 (s:aG5):Prop:= ∀args σ (K K':Value→Hp→Prop),(∀r σ',K r σ'→K' r σ')→s args σ K→s args σ K'
structure Known (P:Program)(T:ig):Prop where
 mono:sO T
 sim: ∀f,Sim P f (T f)
theorem Known.none (P:Program):Known P cl6:=⟨fun _ _ _ _ _ _ h=>h,fun f=>Sim.none P f⟩
theorem Known.put {P:Program}{T:ig}(h:Known P T){f:FuncId}{s:aG5}(hm:aK3 s)(hs:Sim P f s):Known P (T.put f s):=by
 constructor
 ·intro g args σ K K' hk hg;simp only[ig.put]at hg⊢;split
  ·rename_i he;rw[if_pos he]at hg;exact hm _ _ _ _ hk hg
  ·rename_i he;rw[if_neg he]at hg;exact h.mono _ _ _ _ _ hk hg
 ·intro g;show Sim P g (if g=f then s else T g);by_cases e:g=f
  ·subst e;rw[if_pos rfl];exact hs
  ·rw[if_neg e];exact h.sim g
theorem aK3.sp (S:gb):aK3 (sp S):=fun _ _ _ _ hk ⟨r,σ',h1,h2⟩=>⟨r,σ',h1,hk r σ' h2⟩
theorem aK3.wpF {T:ig}(hT:sO T)(a:AFn):aK3 (wpF T a):=by
 intro args σ K K' hk h;refine⟨h.1,ij hT _ _ _ (fun x e s hx=> ?_) _ _ h.2⟩;cases x with
 |exit id=>exact hx
 |normal=>
  simp only at hx⊢;split at hx
  ·exact hk _ _ hx
  ·exact hx
 |ret=>
  simp only at hx⊢;split at hx
  ·exact hk _ _ hx
  ·exact hx
theorem Known.fn {P:Program}{T:ig}(h:Known P T){f:FuncId}{af:AFn}(ht:bD0 P f=some af):Sim P f (wpF T af):=bL9 ht h.mono h.sim
theorem Known.rel {P:Program}{T:ig}(hU:Known P T){f:FuncId}{af:AFn}{S:gb}(h:bD0 P f=some af)
  (hS: ∀args σ r σ',σ.Ok→S args σ r σ'→wpF T af args σ (Fin σ fun r1 σ1=>r1=r∧σ1=σ')):Sim P f (sp S):=by
 refine Sim.fin (hU.fn h) fun args σ K hlt hk=> ?_
 obtain⟨r,σ',h1,h2⟩:=hk;refine aK3.wpF hU.mono af _ _ _ _ ?_ (hS args σ r σ' hlt h1);rintro r1 σ1 ⟨ν,s',r',hw,rfl,rfl⟩;exact⟨ν,s',r',hw,h2⟩
section
variable {T:ig} {Q:AExit→dy→Hp→Prop} {e:dy} {σ:Hp} {b:AC} {I:dy→Hp→Prop} {m:dy→Hp→Nat} {e0:dy} {σ0:Hp}
end
section
variable {k:IntKind} {a b:Int}
end
section
variable {a b c d:Value} {l:List Value}
end
section
variable {σ:Hp} {x y:Blk} {i b o:Nat} {z:Option Blk}
end
section
variable {e:dy} {σ:Hp} {rs:List ARes} {t n b o:Nat}
def two (v:Option Value)(vs:Option (List Value)):Option (List Value):=match v,vs with
 |some v,some vs=>some (v::vs)
 |_,_=>none
end
section
variable {T:ig} {e:dy} {σ:Hp} {k:Value→Hp→Prop} {q:dy→Hp→Prop}
def cl8 (n:Nat):Value→Option Value
 | .pointer (some ⟨b,o,none⟩)=>some (.pointer (some ⟨b,o+n,none⟩))
 |_=>none
def ck2 (es:Nat)(k:Value→Hp→Prop)(σ:Hp):Value→Value→Prop
 | .slice (some ⟨b,o,none⟩) n _, .int _ j=>(0≤j∧j<n)∧k (.pointer (some ⟨b,o+j.toNat*es,none⟩)) σ
 |_,_=>False
def bM3 (ln es:Nat)(k:Value→Hp→Prop)(σ:Hp):Value→Value→Prop
 | .pointer (some ⟨b,o,none⟩), .int _ j=>(0≤j∧j<ln)∧k (.pointer (some ⟨b,o+j.toNat*es,none⟩)) σ
 |_,_=>False
def fieldV (fo n:Nat)(agg:Bool):Value→Option Value
 | .agg cs=>if agg=true then some (.agg (cs.extract fo (fo+n)))else cs[fo]?
 |_=>none
end
section
variable {T:ig} {q:dy→Hp→Prop} {r:List SItem} {e:dy} {σ:Hp} {i:Nat} {d:Option Nat} {kp:Bool} {is:List Nat} {chk:List (Nat×(Hp→Prop))}
end
def e0 :dy:=fun _=>undef
section
variable {T:ig} {e:dy} {σ:Hp} {k:Value→Hp→Prop}
end
section
variable {σ:Hp} {x:Blk} {i b:Nat} {z:Option Blk}
end
open Go.RowKit (Below)
structure Row where
 c:Nat
 o:Nat
 ext:Nat
 es:Nat
 cells:List Value
def bQ0 (P:Program)(w:World):Prop:=P.globalNamed "internal/strconv.uint64pow10" ≠none→Lib.TabIs P w "internal/strconv.uint64pow10" .u64 Lib.pow10Tab
def Base.of {P:Program}(w:World)(hT:bQ0 P w):Base P:=⟨w.heap.size,fun b=>w.heap[b]?,fun w' _ hh hne=>by
 have h:=hT hne;unfold Lib.TabIs World.var? at h⊢;cases hg:P.globalNamed "internal/strconv.uint64pow10" with
 |none=>exact(hne hg).elim
 |some g=>
  simp only[hg,Option.bind_some]at h⊢
  have hlt:g<w.heap.size:=by
   rcases Nat.lt_or_ge g w.heap.size with h'|h'
   ·exact h'
   ·rw[Array.getElem?_eq_none h']at h;cases h
  rw[hh g hlt]
  exact h⟩
def pw (rows:List Row):Mu:=fun i=>(rows[i]?).map fun r=>⟨r.c,r.o,r.ext,r.es,0,none⟩
def ov (size:Nat)(rows:List Row):Hp:={m:=fun i=>(rows[i]?).bind fun r=>if r.c<size then some ⟨r.cells,false,r.es⟩else none,n:=rows.length}
theorem cv9 {P:Program}{w:World}(hT:bQ0 P w){rows:List Row}(h: ∀r∈rows,∀(i:Nat) (v:Value),r.cells[i]?=some v→∃v',w.cell? ⟨r.c,r.o+i,none⟩=some v'∧VR (pw rows) v v'):
  R (Base.of w hT) (pw rows) (ov w.heap.size rows) w:=by
 refine⟨Nat.le_refl _,fun _ _=>rfl,fun b hb=> ?_,fun b x hx=> ?_,fun b b' x x' g g' hx _ _ ho=> ?_,fun b x g _ hg hi _ _=>(by
  simp only[pw]at hg;cases hr:rows[b]? with
  |none=>rw[hr]at hg;cases hg
  |some r=>rw[hr]at hg;injection hg with hg;subst hg;cases hi)⟩
 ·simp only[pw,List.getElem?_eq_none hb,Option.map_none]
 ·simp only[ov]at hx;cases hr:rows[b]? with
  |none=>rw[hr]at hx;cases hx
  |some r=>
   rw[hr,Option.bind_some]at hx;split at hx
   ·rename_i hlt;injection hx with hx
    subst hx;refine⟨⟨r.c,r.o,r.ext,r.es,0,none⟩,by simp only[pw,hr,Option.map_some],hlt,rfl,fun _ i v hv=>h r (List.mem_of_getElem? hr) i v hv,fun _ ho=>(by cases ho),fun _ hs=>(by cases hs),fun hs=>by cases hs⟩
   ·cases hx
 ·simp only[ov]at hx;cases hr:rows[b]? with
  |none=>rw[hr]at hx;cases hx
  |some r=>
   rw[hr,Option.bind_some]at hx;split at hx
   ·injection hx with hx
    subst hx;cases ho
   ·cases hx
theorem co4 {size:Nat}{rows:List Row}:(ov size rows).Ok:=by
 intro b x hx;rcases Nat.lt_or_ge b rows.length with h|h
 ·exact h
 ·simp only[ov,List.getElem?_eq_none h,Option.bind_none]at hx;cases hx
theorem cu6 {P:Program}{f:FuncId}{S:aG5}(hs:Sim P f S){w:World}(hT:bQ0 P w){rows:List Row}{args:List Value}{cargs:Array Value}
  (hrows: ∀r∈rows,∀(i:Nat) (v:Value),r.cells[i]?=some v→∃v',w.cell? ⟨r.c,r.o+i,none⟩=some v'∧VR (pw rows) v v')
  (hargs:F2 (VR (pw rows)) args cargs.toList) (h:S args (ov w.heap.size rows) fun r _=>r= .bool true):
  Calls P f cargs w fun e w'=>e= .returned (.bool true)∧Below w.heap.size w w':=by
 refine(hs _ _ _ w args cargs _ h (cv9 hT hrows) hargs).2.mono fun x w' hx=> ?_
 obtain⟨r,σ',r',μ',rfl,rfl,_,_,hr,hb,_⟩:=hx;cases hr;exact⟨rfl,hb⟩
def Sl (k:IntKind)(σ:Hp)(v:Value)(l:List Int):Prop:=
 (v= .slice none 0 0∧l=[])∨∃b c rest,v= .slice (some ⟨b,0,none⟩) l.length c∧l.length≤c∧c≤maxLen∧b<σ.n∧(l≠[]→σ.m b=some ⟨(l++rest).map (.int k),false,1⟩)
def aK2 (k:IntKind)(w:World)(a:Option Addr)(len cap:Nat)(zs:List Int):Prop:=
 (a=none∧len=0∧cap=0∧zs=[])∨
 ∃x,a=some x∧len≤cap∧cap≤maxLen∧zs.length=cap∧(∀i,i<zs.length→w.cell? (x.add i)=some (.int k (zs.getD i 0)))∧∀n∈zs,(Lit.int k n).wf=true
def aF0 (k:IntKind)(a:Option Addr)(cap:Nat)(zs:List Int):Row:=match a with
 |some x=>⟨x.block,x.off,cap,1,zs.map (.int k)⟩
 |none=>⟨0,0,0,1,[]⟩
def ce3 (k:Nat)(a:Option Addr)(len cap:Nat):Value:=match a with
 |some _=> .slice (some ⟨k,0,none⟩) len cap
 |none=> .slice none 0 0
section
variable {k:IntKind} {w:World} {a:Option Addr} {len cap:Nat} {zs:List Int} {rows:List Row} {j:Nat}
theorem bo4 {x:Addr}{v:Value}(h:w.cell? x=some v):x.block<w.heap.size:=by
 unfold World.cell? at h;split at h
 ·rename_i hb;exact(Array.getElem?_eq_some_iff.1 hb).1
 ·cases h
theorem as8 {x:Addr}{v:Value}(h:w.cell? (x.add 0)=some v):x.spot=none:=by
 have:=World.cell?_spot h;simpa[Addr.add]using this
theorem xg {x:Addr}{i:Nat}{v:Value}(hs:x.spot=none)(h:w.cell? (x.add i)=some v):w.cell? ⟨x.block,x.off+i,none⟩=some v:=by
 obtain⟨b,o,s⟩:=x;simp only at hs;subst hs
 have:(⟨b,o,none⟩:Addr).add i=⟨b,o+i,none⟩:=by
  simp only[Addr.add];split
  ·rename_i h0;subst h0;rfl
  ·rfl
 rwa [this]at h
theorem aK2.cells (h:aK2 k w a len cap zs){i:Nat}{v:Value}(hv:(aF0 k a cap zs).cells[i]?=some v):
  ∃v',w.cell? ⟨(aF0 k a cap zs).c,(aF0 k a cap zs).o+i,none⟩=some v'∧VR (pw rows) v v':=by
 rcases h with⟨rfl,rfl,rfl,rfl⟩|⟨x,rfl,hl,hm,hz,hc,hw⟩
 ·simp[aF0]at hv
 ·simp only[aF0]at hv⊢;simp only[List.getElem?_map]at hv
  have hi:i<zs.length:=by
   rcases Nat.lt_or_ge i zs.length with h|h
   ·exact h
   ·rw[List.getElem?_eq_none h]at hv;cases hv
  rw[List.getElem?_eq_getElem hi,Option.map_some]at hv;injection hv with hv
  subst hv;refine⟨_,xg (as8 (hc 0 (by omega))) (hc i hi), ?_⟩;have:zs.getD i 0=zs[i]:=by simp[List.getD,List.getElem?_eq_getElem hi]
  rw[this];exact .int _ _
theorem aK2.sl (h:aK2 k w a len cap zs)(hr:rows[j]?=some (aF0 k a cap zs)):Sl k (ov w.heap.size rows) (ce3 j a len cap) (zs.take len):=by
 rcases h with⟨rfl,rfl,rfl,rfl⟩|⟨x,rfl,hl,hm,hz,hc,hw⟩
 ·exact .inl ⟨rfl,by simp⟩
 ·have hlen:(zs.take len).length=len:=by rw[List.length_take];omega
  refine .inr ⟨j,cap,zs.drop len,by rw[hlen];rfl,by omega,hm, ?_,fun hne=> ?_⟩
  ·rcases Nat.lt_or_ge j rows.length with h|h
   ·exact h
   ·rw[List.getElem?_eq_none h]at hr;cases hr
  ·have hz0:0<zs.length:=by
    rcases Nat.eq_zero_or_pos zs.length with h|h
    ·rw[List.length_eq_zero_iff]at h;subst h;simp at hne
    ·exact h
   have hlt:x.block<w.heap.size:=bo4 (x:=⟨x.block,x.off+0,none⟩) (xg (as8 (hc 0 hz0)) (hc 0 hz0));simp only[ov,hr,Option.bind_some,aF0,if_pos hlt,List.take_append_drop]
theorem aK2.wf (h:aK2 k w a len cap zs): ∀n∈zs.take len,(Lit.int k n).wf=true:=by
 rcases h with⟨rfl,rfl,rfl,rfl⟩|⟨x,rfl,hl,hm,hz,hc,hw⟩
 ·simp
 ·exact fun n hn=>hw n (List.mem_of_mem_take hn)
end
theorem cx3 {n:Int}(h:(Lit.int .i64 n).wf=true): -9223372036854775808≤n∧n≤9223372036854775807:=by
 simpa[Lit.wf,IntKind.min,IntKind.max,IntKind.signed,IntKind.bits]using h
theorem cx4 {n:Int}(h:(Lit.int .u64 n).wf=true):0≤n∧n≤18446744073709551615:=by
 simpa[Lit.wf,IntKind.min,IntKind.max,IntKind.signed,IntKind.bits]using h
theorem cA9 {n:Int}(h:(Lit.int .u8 n).wf=true):0≤n∧n≤255:=by
 simpa[Lit.wf,IntKind.min,IntKind.max,IntKind.signed,IntKind.bits]using h
end Go.Ab
namespace Go.V
open Go.Ab
inductive Sh where
 |int (k:IntKind)
 |bool
 |str
 |list (s:Sh)
 |pair (a b:Sh)
 deriving DecidableEq
@[reducible] def El :Sh→Type
 | .int _=>Int
 | .bool=>Bool
 | .str=>List Int
 | .list s=>List (El s)
 | .pair a b=>El a×El b
def Sh.w :Sh→Nat
 | .pair a b=>a.w+b.w
 |_=>1
inductive VV where
 |undef
 |bool (b:Bool)
 |int (k:IntKind) (n:Int)
 |str (l:List Int)
 |nilp
 |nils
 |nilf
 |ptr (k o:Nat)
 |pix (k o n i:Nat)
 |pel (k i o:Nat)
 |pin (s:Sh) (x:El s) (o:Nat)
 |lst (s:Sh) (l:List (El s))
 |tgt (s:Sh) (l:List (El s))
 |full (k:Nat)
 |part (k lo n:Nat)
 |it (k:Nat) (l:List Int)
 |bld (k:Nat)
 |fn (f:Nat) (a c:List VV)
 |agg (l:List VV)
 |tup (l:List VV)
inductive Blk where
 |dead
 |cells (es:Nat) (fz:Bool) (l:List VV)
 |arr (s:Sh) (fz:Bool) (l:List (El s))
abbrev cf :=List Blk
abbrev fa :=List VV
def ou :fa→Nat→VV
 |[],_=> .undef
 |v::_,0=>v
 |_::r,n+1=>ou r n
def rK :fa→Nat→VV→fa
 |[],0,v=>[v]
 |[],n+1,v=> .undef::rK [] n v
 |_::r,0,v=>v::r
 |a::r,n+1,v=>a::rK r n v
def putO (e:fa)(d:Option Nat)(v:VV):fa:=match d with
 |some d=>rK e d v
 |none=>e
def aD :cf→Nat→Blk
 |[],_=> .dead
 |b::_,0=>b
 |_::r,n+1=>aD r n
def mh :cf→Nat→Blk→cf
 |[],_,_=>[]
 |_::r,0,b=>b::r
 |a::r,n+1,b=>a::mh r n b
def nth {α:Type}:List α→Nat→Option α
 |[],_=>none
 |v::_,0=>some v
 |_::r,n+1=>nth r n
def ei (s:ByteArray):List Int:=s.data.toList.map fun b=>(b.toNat:Int)
def aO4 :Value→VV
 | .bool b=> .bool b
 | .int k n=> .int k n
 | .string s=> .str (ei s)
 | .pointer none=> .nilp
 | .slice none 0 0=> .nils
 | .nilFunc=> .nilf
 |_=> .undef
def ofC :Value→VV
 | .agg cs=> .agg (cs.toList.map aO4)
 |v=>aO4 v
def ev (e:fa):Operand→VV
 | .tmp t=>ou e t
 | .const v=>ofC v
 | .func f=> .fn f [] []
 | .global _=> .undef
def cn1 :VV→Bool
 | .undef| .agg _| .tup _=>false
 |_=>true
def pt :VV→List VV
 | .agg l=>l
 |v=>[v]
def fe :(s:Sh)→El s→List VV
 | .int k,n=>[.int k n]
 | .bool,b=>[.bool b]
 | .str,l=>[.str l]
 | .list s,l=>[.lst s l]
 | .pair a b,x=>fe a x.1++fe b x.2
def gr (s:Sh)(l:List (El s)):List VV:=l.flatMap (fe s)
def na (s' s:Sh)(x:El s'):Option (El s):=if h:s'=s then some (h▸x)else none
def aL2 {α:Type}(f:List VV→Option (α×List VV)):Nat→List VV→Option (List α)
 |_,[]=>some []
 |0,_::_=>none
 |n+1,v::l=>(f (v::l)).bind fun p=>(aL2 f n p.2).bind fun r=>some (p.1::r)
def Blk.frozen :Blk→Bool
 | .dead=>true
 | .cells _ z _=>z
 | .arr _ z _=>z
def wx (s:Sh)(f:List VV→Option (El s×List VV)):Blk→Option (List (El s))
 | .dead=>none
 | .arr s' _ l=>na (.list s') (.list s) l
 | .cells es _ l=>bif Nat.beq es s.w then aL2 f l.length l else none
def an8 (S:cf)(s:Sh)(f:List VV→Option (El s×List VV)):VV→Option (List (El s))
 | .nils=>some []
 | .lst s' l=>na (.list s') (.list s) l
 | .full k=>wx s f (aD S k)
 | .part k lo n=>(wx s f (aD S k)).bind fun l=>some ((l.drop lo).take n)
 |_=>none
def bq2 (S:cf)(s:Sh)(f:List VV→Option (El s×List VV)):VV→Option (List (El s))
 | .full k=>bif (aD S k).frozen then an8 S s f (.full k)else none
 | .part k lo n=>bif (aD S k).frozen then an8 S s f (.part k lo n)else none
 |v=>an8 S s f v
def lh (S:cf):(s:Sh)→List VV→Option (El s×List VV)
 | .int k, .int k' n::r=>bif decide (k'=k)then some (n,r)else none
 | .bool, .bool b::r=>some (b,r)
 | .str, .str l::r=>some (l,r)
 | .list s,v::r=>(bq2 S s (lh S s) v).bind fun l=>some (l,r)
 | .pair a b,l=>(lh S a l).bind fun p=>(lh S b p.2).bind fun q=>some ((p.1,q.1),q.2)
 |_,_=>none
def bN3 (S:cf)(s:Sh)(v:VV):Option (List (El s)):=an8 S s (lh S s) v
def Blk.freeze :Blk→Blk
 | .dead=> .dead
 | .cells es _ l=> .cells es true l
 | .arr s _ l=> .arr s true l
def fzv :Nat→cf→VV→cf
 |0,S,_=>S
 |n+1,S,v=>match v with
  | .full k=>(match aD S k with
   | .cells es _ l=>l.foldl (fzv n) (mh S k (.cells es true l))
   |b=>mh S k b.freeze)
  | .part k _ _=>(match aD S k with
   | .cells es _ l=>l.foldl (fzv n) (mh S k (.cells es true l))
   |b=>mh S k b.freeze)
  |_=>S
def fzL (S:cf)(l:List VV):cf:=l.foldl (fzv 3) S
def ct5 (S:cf):VV→cf
 | .full k=>(match aD S k with
  | .cells _ _ l=>fzL S l
  |_=>S)
 | .part k _ _=>(match aD S k with
  | .cells _ _ l=>fzL S l
  |_=>S)
 |_=>S
section
variable {β:Type}
def gd (b:Bool)(x:Option β):Option β:=cond b x none
def ix (i:Int)(n:Nat):Option Nat:=cond (decide (0≤i)&&decide (i<n)) (some i.toNat) none
def rd {α:Type}(l:List α)(i:Int):Option α:=cond (decide (0≤i)) l[i.toNat]? none
def cf1 (p:Bool):VV→VV→Option VV
 | .int k x, .int k' y=>cond (decide (k=k')) (some (.int k (cond p x y))) none
 | .bool x, .bool y=>some (.bool (cond p x y))
 | .str x, .str y=>some (.str (cond p x y))
 |_,_=>none
def cd5 (p:Bool)(x y:VV)(S:cf)(k:VV→cf→Option β):Option β:=match cf1 p x y with
 |some v=>k v S
 |none=>cond p (k x S) (k y S)
def vn :IntKind→List VV→Option (List Int)
 |_,[]=>some []
 |k, .int k' n::r=>cond (decide (k'=k)) ((vn k r).bind fun l=>some (n::l)) none
 |_,_=>none
def aU4 :List VV→Option (List Bool)
 |[]=>some []
 | .bool b::r=>(aU4 r).bind fun l=>some (b::l)
 |_=>none
def bC5 :List VV→Option (List (List Int))
 |[]=>some []
 | .str b::r=>(bC5 r).bind fun l=>some (b::l)
 |_=>none
def bO4 (S:cf)(k:VV→cf→Option β):List VV→Nat→Option β
 |[],_=>none
 |v::r,i=>cond (Nat.beq i 0) (k v S) (bO4 S k r (i-1))
def bv4 (cs:List VV)(i:Nat)(S:cf)(k:VV→cf→Option β):Option β:=match cs with
 | .int kd n::r=>(match vn kd r with
  |some l=>k (.int kd ((n::l).getD i 0)) S
  |none=>none)
 | .bool b::r=>(match aU4 r with
  |some l=>k (.bool ((b::l).getD i false)) S
  |none=>none)
 | .str b::r=>(match bC5 r with
  |some l=>k (.str ((b::l).getD i [])) S
  |none=>none)
 |cs=>bO4 S k cs i
def aZ5 (v:VV):List VV→Nat→Nat→Option (List VV)
 |[],_,_=>some []
 |c::r,i,j=>(cf1 (Nat.beq i j) v c).bind fun x=>(aZ5 v r i (j+1)).bind fun l=>some (x::l)
def co8 (cells:List VV)(o:Nat):List VV→List VV
 |[]=>cells
 |v::vs=>co8 (cells.set o v) (o+1) vs
def aL7 (cells:List VV):List (Nat×Nat×VV)→Option (List VV)
 |[]=>some cells
 |(off,size,v)::rest=>
  cond (Nat.beq (pt v).length size&&Nat.ble (off+size) cells.length&&(pt v).all cn1) (aL7 (cells.take off++pt v++cells.drop (off+size)) rest) none
def yK (e:fa)(l:List (Nat×Nat×Operand)):List (Nat×Nat×VV):=l.map fun(o,s,x)=>(o,s,ev e x)
def qR (l:List VV):Bool:=l.all cn1
def bi6 (S:cf)(n:Nat)(agg:Bool)(a:VV)(k:VV→cf→Option β):Option β:=
 let out (cs:List VV) (o:Nat):Option β:=cond agg (gd (Nat.ble (o+n) cs.length) (k (.agg ((cs.drop o).take n)) S)) (match nth cs o with
  |some v=>k v S
  |none=>none)
 match a with
 | .ptr b o=>(match aD S b with
  | .cells _ _ l=>out l o
  |_=>none)
 | .pix b o m i=>(match aD S b with
  | .cells _ _ l=>gd (!agg&&Nat.ble (o+m) l.length) (bv4 ((l.drop o).take m) i S k)
  |_=>none)
 | .pel b i o=>(match aD S b with
  | .arr s _ l=>(l[i]?).bind fun x=>out (fe s x) o
  |_=>none)
 | .pin s x o=>out (fe s x) o
 |_=>none
def bJ9 (S:cf)(a:VV)(cs:List VV)(k:cf→Option β):Option β:=match a with
 | .ptr b o=>(match aD S b with
  | .cells es false l=>gd (Nat.ble (o+cs.length) l.length) (k (mh S b (.cells es false (co8 l o cs))))
  |_=>none)
 | .pix b o m i=>(match aD S b,cs with
  | .cells es false l,[v]=>gd (Nat.ble (o+m) l.length) (match aZ5 v ((l.drop o).take m) i 0 with
   |some l'=>k (mh S b (.cells es false (l.take o++l'++l.drop (o+m))))
   |none=>none)
  |_,_=>none)
 | .pel b i o=>(match aD (fzL S cs) b with
  | .arr s false l=>(l[i]?).bind fun x=>(match lh (fzL S cs) s (co8 (fe s x) o cs)with
   |some (y,[])=>gd (Nat.ble (o+cs.length) s.w) (k (mh (fzL S cs) b (.arr s false (l.set i y))))
   |_=>none)
  |_=>none)
 |_=>none
def ch6 (k:IntKind)(f:BitVec k.bits→BitVec k.bits→BitVec k.bits)(x y:Int):Int:=k.wrap (f (BitVec.ofInt k.bits x) (BitVec.ofInt k.bits y)).toNat
def bF0 (op:BinOp)(kd:IntKind)(x y:Int)(k:VV→Option β):Option β:=match op with
 | .add=>k (.int kd (kd.wrap (x+y)))
 | .sub=>k (.int kd (kd.wrap (x-y)))
 | .mul=>k (.int kd (kd.wrap (x*y)))
 | .quo=>gd (decide (y≠0)) (k (.int kd (kd.wrap (x.tdiv y))))
 | .rem=>gd (decide (y≠0)) (k (.int kd (x.tmod y)))
 | .and=>k (.int kd (ch6 kd (· &&& ·) x y))
 | .or=>k (.int kd (ch6 kd (· ||| ·) x y))
 | .xor=>k (.int kd (ch6 kd (· ^^^ ·) x y))
 | .andNot=>k (.int kd (ch6 kd (fun a b=>a&&& ~~~b) x y))
 | .eql=>k (.bool (decide (x=y)))
 | .neq=>k (.bool (decide (x≠y)))
 | .lss=>k (.bool (decide (x<y)))
 | .leq=>k (.bool (decide (x≤y)))
 | .gtr=>k (.bool (decide (y<x)))
 | .geq=>k (.bool (decide (y≤x)))
 |_=>none
def cf4 (op:BinOp)(kd:IntKind)(x y:Int)(k:VV→Option β):Option β:=match op with
 | .shl=>gd (decide (0≤y)) (k (.int kd (kd.wrap (x*2 ^ (min y.toNat kd.bits)))))
 | .shr=>gd (decide (0≤y)) (k (.int kd (x.fdiv (2 ^ (min y.toNat kd.bits)))))
 |_=>none
def cA2 (a b:Nat):Bool:=Nat.ble (a+b) 9223372036854775807
def cA3 (op:BinOp)(x y:List Int)(k:VV→Option β):Option β:=match op with
 | .add=>gd (cA2 x.length y.length) (k (.str (x++y)))
 | .eql=>k (.bool (decide (x=y)))
 | .neq=>k (.bool (decide (x≠y)))
 |_=>none
def cs7 (op:BinOp)(x y:VV)(k:VV→Option β):Option β:=match x,y with
 | .int kx a, .int ky b=>cond (uK op) (cf4 op kx a b k) (cond (decide (kx=ky)) (bF0 op kx a b k) none)
 | .str a, .str b=>cond (uK op) none (cA3 op a b k)
 |_,_=>none
def cb6 (neg p:Bool):Bool:=cond neg (!p) p
def Blk.live :Blk→Bool
 | .dead=>false
 |_=>true
def aW9 (S:cf):VV→Bool
 | .ptr k _=>(aD S k).live
 | .pix k _ _ _=>(aD S k).live
 | .pel k _ _=>(aD S k).live
 | .pin _ _ _=>true
 |_=>false
def ct1 (S:cf):Nat→VV→VV→Option Bool
 |0, .bool a, .bool b=>some (a==b)
 |1, .nilp, .nilp=>some true
 |1, .nilp,v=>cond (aW9 S v) (some false) none
 |1,v, .nilp=>cond (aW9 S v) (some false) none
 |2, .nils, .nils=>some true
 |3, .nilf, .nilf=>some true
 |3, .nilf, .fn _ _ _=>some false
 |3, .fn _ _ _, .nilf=>some false
 |_,_,_=>none
def bR9 :Nat→VV→VV→Option Bool
 |0, .bool a, .bool b=>some (a==b)
 |1, .int k a, .int k' b=>cond (decide (k=k')) (some (decide (a=b))) none
 |2, .str a, .str b=>some (decide (a=b))
 |_,_,_=>none
def be1 :List Nat→List VV→List VV→Option Bool
 |[],[],[]=>some true
 |[k],[a],[b]=>bR9 k a b
 |k::ks,a::r,b::s=>(bR9 k a b).bind fun p=>(be1 ks r s).bind fun q=>some (p&&q)
 |_,_,_=>none
def unK (op:UnOp)(x:VV)(k:VV→Option β):Option β:=match op,x with
 | .neg, .int kd n=>k (.int kd (kd.wrap (0-n)))
 | .xor, .int kd n=>k (.int kd (kd.wrap (BitVec.ofInt kd.bits (if kd.signed then-1 else kd.max) ^^^ BitVec.ofInt kd.bits n).toNat))
 | .not, .bool b=>k (.bool !b)
 |_,_=>none
def aD2 :VV→Option Int
 | .int _ n=>some n
 |_=>none
def lenOf (S:cf):VV→Option Nat
 | .nils=>some 0
 | .lst _ l=>some l.length
 | .full b=>(match aD S b with
  | .arr _ _ l=>some l.length
  | .cells es _ l=>some (l.length / es)
  | .dead=>none)
 | .part b _ n=>cond (aD S b).live (some n) none
 | .str l=>some l.length
 |_=>none
def bF9 {α:Type}(l:List α)(lo hi:Int):List α:=(l.take hi.toNat).drop lo.toNat
def af1 :Option VV→Option Int
 |none=>some 0
 |some v=>aD2 v
def vO (n:Nat):Option VV→Option Int
 |none=>some n
 |some v=>aD2 v
def iN (lo hi:Int)(n:Nat):Bool:=decide (0≤lo)&&decide (lo≤hi)&&decide (hi≤n)
def bJ6 (S:cf)(es:Nat)(x:VV)(lo hi:Option VV)(k:VV→cf→Option β):Option β:=
 match lenOf S x with
 |none=>none
 |some n=>match af1 lo,vO n hi with
  |some a,some b=>(match x with
   | .nils=>gd (iN a b n) (k .nils S)
   | .lst s l=>gd (Nat.beq es s.w) (match lo,hi with
    |none,none=>k (.lst s l) S
    |_,_=>gd (iN a b n) (k (.lst s (bF9 l a b)) S))
   | .full q=>(match aD S q with
    | .arr s _ _=>gd (Nat.beq es s.w) (gd (iN a b n) (k (.part q a.toNat (b.toNat-a.toNat)) S))
    | .cells es' _ _=>gd (Nat.beq es es'&&Nat.ble 1 es) (gd (iN a b n) (k (.part q a.toNat (b.toNat-a.toNat)) S))
    | .dead=>none)
   | .part q o _=>(match aD S q with
    | .arr s _ _=>gd (Nat.beq es s.w) (gd (iN a b n) (k (.part q (o+a.toNat) (b.toNat-a.toNat)) S))
    | .cells es' _ _=>gd (Nat.beq es es'&&Nat.ble 1 es) (gd (iN a b n) (k (.part q (o+a.toNat) (b.toNat-a.toNat)) S))
    | .dead=>none)
   |_=>none)
  |_,_=>none
def aJ3 (S:cf)(x:VV)(lo hi:Option VV)(k:VV→cf→Option β):Option β:=match x with
 | .str l=>(match af1 lo,vO l.length hi with
  |some a,some b=>gd (iN a b l.length) (k (.str (bF9 l a b)) S)
  |_,_=>none)
 |_=>none
def aJ2 (S:cf)(es n:Nat)(x:VV)(lo hi:Option VV)(k:VV→cf→Option β):Option β:=match x with
 | .ptr b o=>(match aD S b with
  | .cells es' false l=>(match af1 lo,vO n hi with
   |some a,some c=>gd (Nat.beq es es'&&Nat.ble 1 es&&Nat.beq (o % es) 0&&Nat.ble (o+n*es) l.length&&iN a c n&&decide (a<n)) (k (.part b (o / es+a.toNat) (c.toNat-a.toNat)) S)
   |_,_=>none)
  | .arr s false l=>(match af1 lo,vO n hi with
   |some a,some c=>gd (Nat.beq es s.w&&Nat.beq o 0&&Nat.ble n l.length&&iN a c n&&decide (a<n)) (k (.part b a.toNat (c.toNat-a.toNat)) S)
   |_,_=>none)
  |_=>none)
 |_=>none
def cu4 :Value→Bool
 | .int .u8 n=>decide (n=0)
 |_=>false
def bF5 (es:Nat)(z:List Value):Bool:=Nat.beq es 1&&Nat.ble 20 z.length&&z.all cu4
def am3 (es:Nat)(z:List Value):Blk:=cond (bF5 es z) (.arr (.int .u8) false (List.replicate z.length (0:Int))) (.cells es false (z.map aO4))
def cl8 (S:cf)(n:Nat):VV→Option VV
 | .ptr b o=>cond (aD S b).live (some (.ptr b (o+n))) none
 | .pel b i o=>cond (aD S b).live (some (.pel b i (o+n))) none
 | .pin s x o=>some (.pin s x (o+n))
 | .pix b o m i=>cond (aD S b).live (cond (Nat.beq n 0) (some (.pix b o m i)) none) none
 |_=>none
def ck2 (S:cf)(es:Nat)(x i:VV)(k:VV→cf→Option β):Option β:=match i with
 | .int _ i=>(match x with
  | .lst s l=>gd (Nat.beq es s.w) ((rd l i).bind fun y=>k (.pin s y 0) S)
  | .full b=>(match aD S b with
   | .arr s _ l=>gd (Nat.beq es s.w) ((ix i l.length).bind fun j=>k (.pel b j 0) S)
   | .cells es' _ l=>gd (Nat.beq es es'&&Nat.ble 1 es) ((ix i (l.length / es)).bind fun j=>cond (Nat.beq es 1) (k (.pix b 0 l.length j) S) (k (.ptr b (j*es)) S))
   | .dead=>none)
  | .part b o n=>(match aD S b with
   | .arr s _ _=>gd (Nat.beq es s.w) ((ix i n).bind fun j=>k (.pel b (o+j) 0) S)
   | .cells es' _ _=>gd (Nat.beq es es'&&Nat.ble 1 es) ((ix i n).bind fun j=>cond (Nat.beq es 1) (k (.pix b o n j) S) (k (.ptr b ((o+j)*es)) S))
   | .dead=>none)
  |_=>none)
 |_=>none
def bM3 (S:cf)(ln es:Nat)(x i:VV)(k:VV→cf→Option β):Option β:=match x,i with
 | .ptr b o, .int _ i=>gd (aD S b).live ((ix i ln).bind fun j=>cond (Nat.beq es 1) (k (.pix b o ln j) S) (k (.ptr b (o+j*es)) S))
 |_,_=>none
def zf (l:List VV)(a n:Nat):List VV:=(l.drop a).take n
def od (n bytes:Nat):Bool:=decide (n*bytes≤140737488355328)&&Nat.ble 1 bytes
inductive Base where
 |none
 |cells (es:Nat) (l:List VV)
 |arr (s:Sh) (l:List (El s))
def yE (S:cf)(es:Nat):VV→Option (Base×Option Nat)
 | .nils=>some (.none,none)
 | .full b=>(match aD S b with
  | .arr s false l=>cond (Nat.beq es s.w) (some (.arr s l,some b)) Option.none
  | .cells es' false l=>cond (Nat.beq es es'&&Nat.ble 1 es) (some (.cells es l,some b)) Option.none
  |_=>Option.none)
 | .part b 0 n=>(match aD S b with
  | .arr s false l=>cond (Nat.beq es s.w) (some (.arr s (l.take n),some b)) Option.none
  | .cells es' false l=>cond (Nat.beq es es'&&Nat.ble 1 es) (some (.cells es (l.take (n*es)),some b)) Option.none
  |_=>Option.none)
 |_=>Option.none
inductive More where
 |cells (l:List VV)
 |lst (s:Sh) (l:List (El s))
def iZ (S:cf)(es:Nat):VV→Option More
 | .nils=>some (.cells [])
 | .lst s l=>cond (Nat.beq es s.w) (some (.lst s l)) none
 | .str l=>cond (Nat.beq es 1) (some (.lst (.int .u8) l)) none
 | .full b=>(match aD S b with
  | .arr s _ l=>cond (Nat.beq es s.w) (some (.lst s l)) none
  | .cells es' _ l=>cond (Nat.beq es es'&&Nat.ble 1 es) (some (.cells l)) none
  |_=>none)
 | .part b o n=>(match aD S b with
  | .arr s _ l=>cond (Nat.beq es s.w) (some (.lst s ((l.drop o).take n))) none
  | .cells es' _ l=>cond (Nat.beq es es'&&Nat.ble 1 es) (some (.cells ((l.drop (o*es)).take (n*es)))) none
  |_=>none)
 |_=>none
def rz (S:cf):Option Nat→cf
 |none=>S
 |some b=>mh S b .dead
def bP5 (S:cf)(s:Sh)(l:List VV):Option (List (El s)):=aL2 (lh S s) l.length l
def bx3 (S:cf)(bytes:Nat)(s:Sh)(kill:Option Nat)(a b:List (El s))(k:VV→cf→Option β):Option β:=
 gd (od (a.length+b.length) bytes) (k (.full S.length) (rz S kill++[.arr s false (a++b)]))
def aP3 (S:cf)(es bytes:Nat)(bo:Option (Base×Option Nat))(mo:Option More)(k:VV→cf→Option β):Option β:=
 match bo,mo with
 |some (.arr s l,kill),some (.lst s' l')=>(na (.list s') (.list s) l').bind fun l2=>bx3 S bytes s kill l l2 k
 |some (.arr s l,kill),some (.cells cs)=>(match aD (fzL S cs) (kill.getD 0)with
  | .arr _ false _=>(bP5 (fzL S cs) s cs).bind fun l2=>bx3 (fzL S cs) bytes s kill l l2 k
  |_=>none)
 |some (.cells _ l,kill),some (.lst s l')=>(match aD (fzL S l) (kill.getD 0)with
  | .cells _ false _=>(bP5 (fzL S l) s l).bind fun l1=>bx3 (fzL S l) bytes s kill l1 l' k
  |_=>none)
 |some (.none,kill),some (.lst s l')=>bx3 S bytes s kill [] l' k
 |some (.cells es l,kill),some (.cells cs)=>gd (od ((l.length+cs.length) / es) bytes&&qR cs) (k (.full S.length) (rz S kill++[.cells es false (l++cs)]))
 |some (.none,kill),some (.cells cs)=>gd (od (cs.length / es) bytes&&Nat.ble 1 es&&qR cs) (k (.full S.length) (rz S kill++[.cells es false cs]))
 |_,_=>none
def bo1 (S:cf)(es bytes:Nat)(x y:VV)(k:VV→cf→Option β):Option β:=aP3 S es bytes (yE S es x) (iZ S es y) k
def ba2 (S:cf):VV→Option (cf×Base)
 | .lst s l=>some (S, .arr s l)
 | .full q=>(match aD S q with
  | .arr s _ l=>some (mh S q (aD S q).freeze, .arr s l)
  |_=>none)
 |_=>none
def bs2 (S:cf)(x hi mx:VV)(k:VV→cf→Option β):Option β:=match hi,mx with
 | .int _ h, .int _ m=>gd (decide (h=m)) (match x with
  | .nils=>gd (decide (h=0)) (k .nils S)
  |v=>(match ba2 S v with
   |some (S1, .arr s l)=>gd (iN 0 h l.length) (k (.tgt s (l.take h.toNat)) S1)
   |_=>none))
 |_,_=>none
def bK6 (S:cf)(es bytes:Nat)(s:Sh)(l:List (El s))(mo:Option More)(k:VV→cf→Option β):Option β:=match mo with
 |some (.lst s' l')=>(na (.list s') (.list s) l').bind fun l2=>gd (Nat.beq es s.w&&Nat.ble 1 l2.length) (bx3 S bytes s none l l2 k)
 |some (.cells cs)=>(bP5 (fzL S cs) s cs).bind fun l2=>gd (Nat.beq es s.w&&Nat.ble 1 l2.length) (bx3 (fzL S cs) bytes s none l l2 k)
 |none=>none
def aT3 (S:cf)(es bytes:Nat)(x y:VV)(k:VV→cf→Option β):Option β:=match x with
 | .tgt s l=>bK6 S es bytes s l (iZ S es y) k
 |x=>bo1 S es bytes x y k
def bi7 (l:List Int)(i:Nat):Nat×Nat:=
 let at' (k:Nat):Nat:=(l.getD (i+k) 0).toNat
 let cont (k:Nat):Bool:=i+k<l.length&&at' k / 64==2
 let b0:=at' 0
 if b0<0x80 then(b0,1)
 else if b0 / 32==6&&cont 1 then
  let c:=(b0 % 32)*64+at' 1 % 64
  if c≥0x80 then(c,2)else(Utf8.runeError,1)
 else if b0 / 16==14&&cont 1&&cont 2 then
  let c:=(b0 % 16)*4096+(at' 1 % 64)*64+at' 2 % 64
  if c≥0x800&&Utf8.valid c then(c,3)else(Utf8.runeError,1)
 else if b0 / 8==30&&cont 1&&cont 2&&cont 3 then
  let c:=(b0 % 8)*262144+(at' 1 % 64)*4096+(at' 2 % 64)*64+at' 3 % 64
  if c≥0x10000&&Utf8.valid c then(c,4)else(Utf8.runeError,1)
 else(Utf8.runeError,1)
def ce4 (l:List Int)(p:Int):Int:=((bi7 l p.toNat).1:Nat)
def bB4 (l:List Int)(p:Int):Int:=((p.toNat+(bi7 l p.toNat).2:Nat):Int)
def ba7 (n:Int):List Int:=ei (Utf8.encode n)
def aU9 (n:Int):Int:=((UInt8.ofNat n.toNat).toNat:Nat)
def cc2 (S:cf)(v:VV)(k:VV→cf→Option β):Option β:=match v with
 | .it q l=>(match aD S q with
  | .cells es false (.int .i64 p::r)=>gd (decide (0≤p)&&Nat.ble 1 es) (cond (decide (p<l.length)) (k (.tup [.bool true, .int .i64 p, .int .i32 (ce4 l p)]) (mh S q (.cells es false (.int .i64 (bB4 l p)::r)))) (k (.tup [.bool false]) S))
  |_=>none)
 |_=>none
def bK2 (S:cf)(v:VV)(k:VV→cf→Option β):Option β:=match v with
 | .str _=>none
 |v=>(match iZ S 1 v with
  |some (.lst s l)=>(na (.list s) (.list (.int .u8)) l).bind fun l2=>k (.str (l2.map aU9)) S
  |some (.cells cs)=>(vn .u8 cs).bind fun l=>k (.str (l.map aU9)) S
  |none=>none)
def cf8 (S:cf)(v:VV)(k:VV→cf→Option β):Option β:=match v with
 | .str _=>none
 |v=>(match iZ S 1 v with
  |some (.lst s l)=>(na (.list s) (.list (.int .i32)) l).bind fun l2=>k (.str (l2.flatMap ba7)) S
  |some (.cells cs)=>(vn .i32 cs).bind fun l=>k (.str (l.flatMap ba7)) S
  |none=>none)
def aZ3 :Nat→List Int→Nat→List Int
 |0,_,_=>[]
 |b+1,l,i=>if i<l.length then(((bi7 l i).1:Nat):Int)::aZ3 b l (i+(bi7 l i).2)else []
def az9 (l:List Int):List Int:=aZ3 l.length l 0
def bJ2 (S:cf)(v:VV)(k:VV→cf→Option β):Option β:=match v with
 | .str l=>gd (Nat.ble l.length 70368744177664) (k (.full S.length) (S++[.arr (.int .i32) false (az9 l)]))
 |_=>none
def aC1 {α:Type}(l:List α)(o n:Nat)(m:List α):List α:=l.take o++(m.take n++l.drop (o+min n m.length))
def aE2 (kd:IntKind)(m:List Int):Nat→List VV→Option (List VV)
 |_,[]=>some []
 |j, .int k n::r=>cond (decide (k=kd)) ((aE2 kd m (j+1) r).bind fun l=>some (.int k (m.getD j n)::l)) none
 |_,_=>none
def bY8 (S:cf)(es:Nat)(d y:VV)(k:VV→cf→Option β):Option β:=
 let go (b o n:Nat):Option β:=match aD S b,iZ S es y with
  | .arr s false l,some (.lst s' l')=>(na (.list s') (.list s) l').bind fun l2=>gd (Nat.beq es s.w) (k (.int .i64 (min l2.length n:Nat)) (mh S b (.arr s false (aC1 l o n l2))))
  | .arr s false l,some (.cells cs)=>(vn .u64 cs).bind fun m=>(na (.list (.int .u64)) (.list s) m).bind fun l2=>gd (Nat.beq es s.w) (k (.int .i64 (min l2.length n:Nat)) (mh S b (.arr s false (aC1 l o n l2))))
  | .cells 1 false l,some (.lst (.int kd) m)=>gd (Nat.beq es 1&&Nat.ble (o+n) l.length) (match aE2 kd m 0 ((l.drop o).take n)with
   |some c=>k (.int .i64 (min m.length n:Nat)) (mh S b (.cells 1 false (l.take o++c++l.drop (o+n))))
   |none=>none)
  |_,_=>none
 match d with
 | .full b=>(match lenOf S d with
  |some n=>go b 0 n
  |none=>none)
 | .part b o n=>go b o n
 |_=>none
def aM4 :List Value→Option Sh
 |[.int k 0]=>some (.int k)
 |[.bool false]=>some .bool
 | .int k 0::r=>(aM4 r).bind fun s=>some (.pair (.int k) s)
 | .bool false::r=>(aM4 r).bind fun s=>some (.pair .bool s)
 |_=>none
def tU :(s:Sh)→El s
 | .int _=>(0:Int)
 | .bool=>false
 | .str=>[]
 | .list _=>[]
 | .pair a b=>(tU a,tU b)
def cb3 (S:cf)(es bytes:Nat)(z:List Value)(l c:VV)(k:VV→cf→Option β):Option β:=match l,c,aM4 z with
 | .int _ l, .int _ c,some s=>gd (Nat.beq es s.w&&decide (0≤l)&&decide (l≤c)&&decide (bytes*c≤140737488355328)&&Nat.ble 1 bytes) (k (.full S.length) (S++[.arr s false (List.replicate l.toNat (tU s))]))
 |_,_,_=>none
def bD6 (es:Nat)(z:List Value)(l:Int):Option More:=match aM4 z with
 |some s=>cond (Nat.beq es s.w) (some (.lst s (List.replicate l.toNat (tU s)))) none
 |none=>none
def oh (bytes:Nat)(l:Int):Bool:=decide (0≤l)&&(decide (l≤9223372036854775807)&&decide (l*(bytes:Int)≤281474976710656))
def aT4 (S:cf)(es bytes:Nat)(z:List Value)(x l:VV)(k:VV→cf→Option β):Option β:=match l with
 | .int _ l=>gd (oh bytes l) (aP3 S es bytes (yE S es x) (bD6 es z l) k)
 |_=>none
end
inductive Sk where
 |undef
 |leaf (s:Sh)
 |cint (k:IntKind) (n:Int)
 |nilp
 |nils
 |nilf
 |ptr (j o:Nat)
 |full (j:Nat)
 |pin (s:Sh) (o:Nat)
 |fn (f:Nat) (a c:List Sk)
 |agg (l:List Sk)
 |tup (l:List Sk)
inductive OSk where
 |dead
 |cells (es:Nat) (ro:Bool) (l:List Sk)
 |arr (ro:Bool) (s:Sh)
structure Leaf where
 s:Sh
 v:El s
structure Src where
 k:Nat
 cut:Option Nat
structure DSt where
 m:List (Option Src)
 ls:List Leaf
 lent:List Nat
def DSt.push (st:DSt)(s:Sh)(v:El s):DSt:={st with ls:=st.ls++[⟨s,v⟩]}
def DSt.lend (st:DSt):VV→DSt
 | .full k=>{st with lent:=k::st.lent}
 | .part k _ _=>{st with lent:=k::st.lent}
 |_=>st
def DSt.link (N:Nat)(st:DSt)(j:Nat)(x:Option Src):Option DSt:=
 cond (Nat.blt j N) (match x with
  |some ⟨k,none⟩=>cond (Nat.beq k j) (some st) none
  |_=>none)
 (match nth st.m (j-N)with
 |some (some ⟨k,none⟩)=>(match x with
  |some ⟨k',none⟩=>cond (Nat.beq k k') (some st) none
  |_=>none)
 |some _=>none
 |none=>cond (Nat.beq (j-N) st.m.length) (some {st with m:=st.m++[x]}) none)
mutual
def dec (S:cf)(N:Nat):Sk→VV→DSt→Option DSt
 | .undef,_,st=>some st
 | .leaf s,v,st=>(match s,v with
  | .int k, .int k' n=>cond (decide (k'=k)) (some (st.push (.int k) n)) none
  | .bool, .bool b=>some (st.push .bool b)
  | .str, .str l=>some (st.push .str l)
  | .list s,v=>(bN3 S s v).bind fun l=>some ((st.lend v).push (.list s) l)
  |_,_=>none)
 | .cint k n, .int k' n',st=>cond (decide (k'=k)&&decide (n'=n)) (some st) none
 | .nilp, .nilp,st=>some st
 | .nils, .nils,st=>some st
 | .nilf, .nilf,st=>some st
 | .ptr j o, .ptr k o',st=>cond (Nat.beq o o') (st.link N j (some ⟨k,none⟩)) none
 | .full j,v,st=>(match v with
  | .full k=>st.link N j (some ⟨k,none⟩)
  | .part k 0 n=>st.link N j (some ⟨k,some n⟩)
  | .nils=>st.link N j none
  |_=>none)
 | .pin s o, .pin s' x o',st=>cond (Nat.beq o o') ((na s' s x).bind fun y=>some (st.push s y)) none
 | .fn f a c, .fn f' a' c',st=>cond (Nat.beq f f') ((ay5 S N a a' st).bind fun st1=>ay5 S N c c' st1) none
 | .agg l, .agg l',st=>ay5 S N l l' st
 | .tup l, .tup l',st=>ay5 S N l l' st
 |_,_,_=>none
def ay5 (S:cf)(N:Nat):List Sk→List VV→DSt→Option DSt
 |[],[],st=>some st
 |k::r,v::r',st=>(dec S N k v st).bind fun st1=>ay5 S N r r' st1
 |_,_,_=>none
end
def aV3 {α:Type}:Option Nat→List α→List α
 |none,l=>l
 |some n,l=>l.take n
def bG0 (S:cf)(N:Nat):OSk→Option Src→DSt→Option DSt
 | .dead,_,st=>some st
 | .cells es ro l,some ⟨k,none⟩,st=>(match aD S k with
  | .cells es' fz cs=>cond (Nat.beq es es'&&(ro|| !fz)) (ay5 S N l cs (cond ro {st with lent:=k::st.lent} st)) none
  |_=>none)
 | .arr ro s,none,st=>cond ro none (some (st.push (.list s) []))
 | .arr ro s,some ⟨k,cut⟩,st=>cond (ro|| !(aD S k).frozen) ((bN3 S s (.full k)).bind fun l=>some ((cond ro {st with lent:=k::st.lent} st).push (.list s) (aV3 cut l))) none
 |_,_,_=>none
def aH4 (S:cf)(N:Nat):List OSk→List Nat→DSt→Option DSt
 |[],[],st=>some st
 |o::r,j::js,st=>(bG0 S N o (some ⟨j,none⟩) st).bind fun st1=>aH4 S N r js st1
 |_,_,_=>none
def tN (S:cf)(N:Nat):List OSk→Nat→DSt→Option DSt
 |[],i,st=>cond (Nat.beq i st.m.length) (some st) none
 |o::r,i,st=>(match nth st.m i with
  |some x=>(bG0 S N o x st).bind fun st1=>tN S N r (i+1) st1
  |none=>none)
def OSk.ro :OSk→Bool
 | .cells _ ro _=>ro
 | .arr ro _=>ro
 | .dead=>false
def oD (k:Nat):List Nat→Bool
 |[]=>false
 |a::r=>cond (Nat.beq a k) true (oD k r)
def aw0 :List Nat→Bool
 |[]=>true
 |a::r=>cond (oD a r) false (aw0 r)
def qC :List (Option Src)→List Nat
 |[]=>[]
 |none::r=>qC r
 |some x::r=>x.k::qC r
def kD :List OSk→List (Option Src)→List Nat
 |o::r,some x::s=>cond o.ro (kD r s) (x.k::kD r s)
 |_::r,none::s=>kD r s
 |_,_=>[]
def ac1 (w:List Nat)(l:List Nat):Bool:=w.all fun k=> !oD k l
structure xA where
 vals:List Sk
 fix:List OSk
 free:List OSk
def qB (S:cf)(N:Nat)(fx:List Nat)(sk:xA)(vals:List VV):Option DSt:=
 (ay5 S N sk.vals vals ⟨[],[],[]⟩).bind fun st=>(aH4 S N sk.fix fx st).bind fun st1=>(tN S N sk.free 0 st1).bind fun st2=>
  cond (aw0 (fx++qC st2.m)&&ac1 (fx++kD sk.free st2.m) st2.lent) (some st2) none
mutual
def enc (f:Nat→Nat):Sk→List Leaf→Option (VV×List Leaf)
 | .undef,ls=>some (.undef,ls)
 | .leaf s,x::ls=>(na x.s s x.v).bind fun(y:El s)=>some ((match s,y with
  | .int k,n=> .int k n
  | .bool,b=> .bool b
  | .str,l=> .str l
  | .list s,l=> .lst s l
  | .pair _ _,_=> .undef),ls)
 | .cint k n,ls=>some (.int k n,ls)
 | .nilp,ls=>some (.nilp,ls)
 | .nils,ls=>some (.nils,ls)
 | .nilf,ls=>some (.nilf,ls)
 | .ptr j o,ls=>some (.ptr (f j) o,ls)
 | .full j,ls=>some (.full (f j),ls)
 | .pin s o,x::ls=>(na x.s s x.v).bind fun(y:El s)=>some (.pin s y o,ls)
 | .fn g a c,ls=>(bd9 f a ls).bind fun p=>(bd9 f c p.2).bind fun q=>some (.fn g p.1 q.1,q.2)
 | .agg l,ls=>(bd9 f l ls).bind fun p=>some (.agg p.1,p.2)
 | .tup l,ls=>(bd9 f l ls).bind fun p=>some (.tup p.1,p.2)
 |_,_=>none
def bd9 (f:Nat→Nat):List Sk→List Leaf→Option (List VV×List Leaf)
 |[],ls=>some ([],ls)
 |k::r,ls=>(enc f k ls).bind fun p=>(bd9 f r p.2).bind fun q=>some (p.1::q.1,q.2)
end
def be0 (f:Nat→Nat):OSk→List Leaf→Option (Blk×List Leaf)
 | .dead,ls=>some (.dead,ls)
 | .cells es ro l,ls=>(bd9 f l ls).bind fun p=>some (.cells es ro p.1,p.2)
 | .arr ro s,x::ls=>(na x.s (.list s) x.v).bind fun l=>some (.arr s ro l,ls)
 | .arr _ _,[]=>none
def ae7 (f:Nat→Nat):List OSk→List Leaf→Option (List Blk×List Leaf)
 |[],ls=>some ([],ls)
 |o::r,ls=>(be0 f o ls).bind fun p=>(ae7 f r p.2).bind fun q=>some (p.1::q.1,q.2)
def ru (f:Nat→Nat)(sk:xA)(ls:List Leaf):Option (List VV×List Blk×List Blk):=
 (bd9 f sk.vals ls).bind fun p=>(ae7 f sk.fix p.2).bind fun q=>(ae7 f sk.free q.2).bind fun r=>match r.2 with
  |[]=>some (p.1,q.1,r.1)
  |_::_=>none
mutual
def Sk.shs :Sk→List Sh
 | .leaf s=>[s]
 | .pin s _=>[s]
 | .fn _ a c=>bJ5 a++bJ5 c
 | .agg l=>bJ5 l
 | .tup l=>bJ5 l
 |_=>[]
def bJ5 :List Sk→List Sh
 |[]=>[]
 |k::r=>k.shs++bJ5 r
end
def OSk.shs :OSk→List Sh
 | .dead=>[]
 | .cells _ _ l=>bJ5 l
 | .arr _ s=>[.list s]
def cw2 :List OSk→List Sh
 |[]=>[]
 |o::r=>o.shs++cw2 r
def xA.shs (sk:xA):List Sh:=bJ5 sk.vals++(cw2 sk.fix++cw2 sk.free)
@[reducible] def Tup :List Sh→Type
 |[]=>Unit
 |[s]=>El s
 |s::s'::r=>El s×Tup (s'::r)
def toL :(ss:List Sh)→Tup ss→List Leaf
 |[],_=>[]
 |[s],x=>[⟨s,x⟩]
 |s::s'::r,x=>⟨s,x.1⟩::toL (s'::r) x.2
def ofL :(ss:List Sh)→List Leaf→Option (Tup ss)
 |[],[]=>some ()
 |[s],[x]=>na x.s s x.v
 |s::s'::r,x::ls=>(na x.s s x.v).bind fun a=>(ofL (s'::r) ls).bind fun b=>some (a,b)
 |_,_=>none
inductive XK where
 |normal
 |exit (id:Nat)
 |ret
structure Alt where
 x:XK
 ts:List Nat
 sk:xA
@[reducible] def Alt.Ty (a:Alt):Type:=Tup a.sk.shs
@[reducible] def vI :List Alt→Type
 |[]=>Empty
 |[a]=>a.Ty
 |a::b::r=>a.Ty⊕vI (b::r)
def di {α γ β:Type}(s:α⊕γ)(f:α→Option β)(g:γ→Option β):Option β:=match s with
 | .inl a=>f a
 | .inr b=>g b
def bX5 {β:Type}:(l:List Alt)→vI l→((a:Alt)→a.Ty→Option β)→Option β
 |[],_,_=>none
 |[a],t,k=>k a t
 |a::b::r,s,k=>di s (fun t=>k a t) fun s'=>bX5 (b::r) s' k
def xA.noRo (sk:xA):Bool:=sk.fix.all (fun o=> !o.ro)&&sk.free.all fun o=> !o.ro
def ay6 (S:cf)(N:Nat)(fx:List Nat)(sk:xA)(vals:List VV):Option (Tup sk.shs):=
 gd sk.noRo ((qB S N fx sk vals).bind fun st=>ofL sk.shs st.ls)
def vM (S:cf)(N:Nat)(fx:List Nat)(vals:List Nat→List VV)(hit:XK→Bool):(l:List Alt)→Option (vI l)
 |[]=>none
 |[a]=>cond (hit a.x) (ay6 S N fx a.sk (vals a.ts)) none
 |a::b::r=>match cond (hit a.x) (ay6 S N fx a.sk (vals a.ts)) none with
  |some t=>some (.inl t)
  |none=>(vM S N fx vals hit (b::r)).bind fun s=>some (.inr s)
def Sh.al :Sh→Bool
 | .list _=>true
 | .pair a b=>a.al||b.al
 |_=>false
mutual
def alV :VV→Bool
 | .lst _ _=>true
 | .tgt _ _=>true
 | .pin _ _ _=>true
 | .fn _ a c=>alL a||alL c
 | .agg l=>alL l
 | .tup l=>alL l
 |_=>false
def alL :List VV→Bool
 |[]=>false
 |v::r=>alV v||alL r
end
def alB :Blk→Bool
 | .dead=>false
 | .cells _ _ l=>alL l
 | .arr s _ _=>s.al
def ae6 (vs:List VV)(fs bs:List Blk):Bool:=alL vs||fs.any alB||bs.any alB
def Blk.may :Blk→Bool
 | .dead=>true
 | .cells _ z _=> !z
 | .arr _ z _=> !z
def aO5 (S:cf)(fx:List Nat):Bool:=fx.all fun j=>Nat.blt j S.length&&(aD S j).may
structure FSum where
 f:Nat
 vals:List Sk
 objs:List OSk
 outs:List Alt
 run:Tup (xA.shs ⟨vals,[],objs⟩)→Option (vI outs)
def FSum.ins (F:FSum):xA:=⟨F.vals,[],F.objs⟩
def tR :List OSk→Nat→List Nat
 |[],_=>[]
 |o::r,i=>cond o.ro (tR r (i+1)) (i::tR r (i+1))
def vJ (m:List (Option Src))(n size j:Nat):Nat:=cond (Nat.blt j n) (match nth m j with
 |some (some x)=>x.k
 |_=>size) (size+(j-n))
def vw :List Nat→List Blk→cf→Option cf
 |[],[],S=>some S
 |j::js,b::bs,S=>vw js bs (mh S j b)
 |_,_,_=>none
def bZ4 :Sk→VV→cf→cf
 | .leaf (.list (.list _)),v,S=>ct5 S v
 |_,_,S=>S
def an4 :List Sk→List VV→cf→cf
 |k::r,v::vs,S=>an4 r vs (bZ4 k v S)
 |_,_,S=>S
def ae8 :List Nat→cf→cf
 |[],S=>S
 |k::r,S=>ae8 r (mh S k (aD S k).freeze)
def cp9 {β:Type}(F:FSum)(t:Tup F.ins.shs)(st:DSt)(S:cf)(k:VV→cf→Option β):Option β:=
 (F.run t).bind fun o=>bX5 F.outs o fun a u=>match ru (vJ st.m F.objs.length S.length) a.sk (toL a.sk.shs u)with
  |some ([v],fs,bs)=>(match vw (kD F.objs st.m) fs (cond (ae6 [v] fs bs) (ae8 st.lent S) S)with
   |some S'=>k v (S'++bs)
   |none=>none)
  |_=>none
def bh8 :List (Option Src)→Bool
 |[]=>true
 |some ⟨_,none⟩::r=>bh8 r
 |_=>false
def aV2 {β:Type}:List FSum→Nat→List VV→cf→(VV→cf→Option β)→Option β
 |[],_,_,_,_=>none
 |F::r,f,args,S,k=>cond (Nat.beq F.f f) (match qB (an4 F.vals args S) 0 [] F.ins args with
  |some st=>(match ofL F.ins.shs st.ls with
   |some t=>gd (bh8 st.m&&aO5 (an4 F.vals args S) (kD F.objs st.m)) (cp9 F t st (an4 F.vals args S) k)
   |none=>aV2 r f args S k)
  |none=>aV2 r f args S k) (aV2 r f args S k)
structure Inl where
 f:Nat
 run:(β:Type)→List VV→cf→(VV→cf→Option β)→Option β
structure Tab where
 fs:List FSum
 is:List Inl
def ck0 :List Inl→Nat→Bool
 |[],_=>false
 |I::r,f=>cond (Nat.beq I.f f) true (ck0 r f)
def bL6 {β:Type}:List Inl→Nat→List VV→cf→(VV→cf→Option β)→Option β
 |[],_,_,_,_=>none
 |I::r,f,args,S,k=>cond (Nat.beq I.f f) (I.run β args S k) (bL6 r f args S k)
def bL7 {β:Type}(tab:Tab)(f:Nat)(args:List VV)(S:cf)(k:VV→cf→Option β):Option β:=
 cond (ck0 tab.is f) (bL6 tab.is f args S k) (aV2 tab.fs f args S k)
def aU1 :Nat→List Nat
 |0=>[]
 |n+1=>n::aU1 n
def bU6 {β:Type}(S:cf)(x:Option VV)(k:VV→cf→Option β):Option β:=match x with
 |some v=>k v S
 |none=>none
def aV8 {β:Type}(tab:Tab)(op:AOp)(e:fa)(S:cf)(k:VV→cf→Option β):Option β:=match op with
 | .move x=>k (ev e x) S
 | .pick c a b=>(match ev e c with
  | .bool p=>cd5 p (ev e a) (ev e b) S k
  |_=>none)
 | .alloc es z=>gd (Nat.ble 1 es) (k (.ptr S.length 0) (S++[am3 es z]))
 | .box es x=>gd (Nat.ble 1 es&&qR (pt (ev e x))) (k (.ptr S.length 0) (S++[.cells es false (pt (ev e x))]))
 | .build z ps=>(match aL7 (z.map aO4) (yK e ps)with
  |some cs=>k (.agg cs) S
  |none=>none)
 | .buildSlice es ln z ps=>(match aL7 ((List.replicate ln (z.map aO4)).flatten) (yK e ps)with
  |some cs=>gd (qR cs&&Nat.beq (ln*es) cs.length&&Nat.ble 1 es) (k (.full S.length) (S++[.cells es false cs]))
  |none=>none)
 | .load x=>bi6 S 1 false (ev e x) k
 | .loadN n x=>bi6 S n true (ev e x) k
 | .store n a x=>gd (Nat.beq (pt (ev e x)).length n&&qR (pt (ev e x))) (bJ9 S (ev e a) (pt (ev e x)) fun S'=>k .undef S')
 | .nilCheck x=>(match ev e x with
  | .fn f a c=>k (.fn f a c) S
  |v=>gd (aW9 S v) (k v S))
 | .bin op x y=>cs7 op (ev e x) (ev e y) fun v=>k v S
 | .eqv kd neg x y=>(match ct1 S kd (ev e x) (ev e y)with
  |some b=>k (.bool (cb6 neg b)) S
  |none=>none)
 | .eqCells neg ks x y=>(match ev e x,ev e y with
  | .agg a, .agg b=>(match be1 ks a b with
   |some p=>k (.bool (cb6 neg p)) S
   |none=>none)
  |_,_=>none)
 | .un op x=>unK op (ev e x) fun v=>k v S
 | .conv kd x=>(match aD2 (ev e x)with
  |some n=>k (.int kd (kd.wrap n)) S
  |none=>none)
 | .mkFunc f a c=>k (.fn f (a.map (ev e)) (c.map (ev e))) S
 | .makeSlice es bytes z l c=>cb3 S es bytes z (ev e l) (ev e c) k
 | .slice es x lo hi=>bJ6 S es (ev e x) (lo.map (ev e)) (hi.map (ev e)) k
 | .sliceStr x lo hi=>aJ3 S (ev e x) (lo.map (ev e)) (hi.map (ev e)) k
 | .sliceArr es n x lo hi=>aJ2 S es n (ev e x) (lo.map (ev e)) (hi.map (ev e)) k
 | .off n x=>bU6 S (cl8 S n (ev e x)) k
 | .idx es x i=>ck2 S es (ev e x) (ev e i) k
 | .idxA ln es x i=>bM3 S ln es (ev e x) (ev e i) k
 | .fieldV o n agg x=>(match ev e x with
  | .agg cs=>cond agg (k (.agg (zf cs o n)) S) (bU6 S (nth cs o) k)
  |_=>none)
 | .indexV ln es agg x i=>(match ev e x,ev e i with
  | .agg cs, .int _ i=>(ix i ln).bind fun j=>cond agg (k (.agg (zf cs (j*es) es)) S) (gd (Nat.beq es 1&&Nat.beq cs.length ln) (bv4 cs j S k))
  |_,_=>none)
 | .indexS x i=>(match ev e x,ev e i with
  | .str l, .int _ i=>(rd l i).bind fun b=>k (.int .u8 b) S
  |_,_=>none)
 | .extract x i=>(match ev e x with
  | .tup vs=>bU6 S (nth vs i) k
  |_=>none)
 | .call f xs=>bL7 tab f (xs.map (ev e)) S k
 | .callv x xs=>(match ev e x with
  | .fn f a c=>bL7 tab f (a++xs.map (ev e)++c) S k
  |_=>none)
 | .append es bytes s x=>aT3 S es bytes (ev e s) (ev e x) k
 | .stuck=>none
 | .range x=>(match ev e x with
  | .str l=>k (.it S.length l) (S++[.cells 1 false [.int .i64 0]])
  |_=>none)
 | .next x=>cc2 S (ev e x) k
 | .newB=>k (.bld S.length) (S++[.cells 1 false [.str []]])
 | .encR x=>(match aD2 (ev e x)with
  |some n=>k (.str (ba7 n)) S
  |none=>none)
 | .strOf x=>bK2 S (ev e x) k
 | .strOfR x=>cf8 S (ev e x) k
 | .runesOf x=>bJ2 S (ev e x) k
 | .capN x=>(match ev e x with
  | .nils=>k (.int .i64 0) S
  |_=>none)
 | .sliceX x hi mx=>bs2 S (ev e x) (ev e hi) (ev e mx) k
 | .appendZ es bytes z s x=>aT4 S es bytes z (ev e s) (ev e x) k
 | .copy es d s=>bY8 S es (ev e d) (ev e s) k
 | .len x=>(match ev e x with
  | .str _=>none
  |v=>(match lenOf S v with
   |some n=>k (.int .i64 n) S
   |none=>none))
 | .lenS x=>(match ev e x with
  | .str l=>k (.int .i64 l.length) S
  |_=>none)
 | .lenC n=>k (.int .i64 n) S
 | .most x y=>(match ev e x,ev e y with
  | .int kd a, .int _ b=>k (.int kd (max a b)) S
  |_,_=>none)
 | .least x y=>(match ev e x,ev e y with
  | .int kd a, .int _ b=>k (.int kd (min a b)) S
  |_,_=>none)
section
variable (tab:Tab)
def an0 {β:Type}:List AOper→fa→cf→(fa→cf→Option β)→Option β
 |[],e,S,k=>k e S
 |o::r,e,S,k=>match o.guard with
  |none=>aV8 tab o.op e S fun v S'=>an0 r (putO e o.dst v) S' k
  |some (t,w)=>match ou e t with
   | .bool p=>cond p
    (cond w (aV8 tab o.op (rK e t (.bool true)) S fun v S'=>an0 r (putO (rK e t (.bool true)) o.dst v) S' k) (an0 r (putO (rK e t (.bool true)) o.dst (.tup [])) S k))
    (cond w (an0 r (putO (rK e t (.bool false)) o.dst (.tup [])) S k) (aV8 tab o.op (rK e t (.bool false)) S fun v S'=>an0 r (putO (rK e t (.bool false)) o.dst v) S' k))
   | .tup []=>an0 r (putO e o.dst (.tup [])) S k
   |_=>none
def vh :VV→Option Nat
 | .ptr b _=>some b
 | .it b _=>some b
 | .bld b=>some b
 | .pix b _ _ _=>some b
 | .pel b _ _=>some b
 | .full b=>some b
 | .part b _ _=>some b
 |_=>none
def bX8 (S:cf)(v:VV):Option (Option Nat):=match v with
 | .pin _ _ _| .lst _ _| .nils=>some none
 |v=>(match vh v with
  |some b=>cond (aD S b).live (some (some b)) none
  |none=>none)
def ch3 (S:cf)(op:AOp)(e:fa):Option (Option Nat):=match op with
 | .load x| .loadN _ x| .sliceArr _ _ x _ _| .slice _ x _ _=>bX8 S (ev e x)
 |_=>none
def bU5 :Option Nat→List Nat
 |some b=>[b]
 |none=>[]
def ur :List FSum→Nat→List VV→cf→List Nat
 |[],_,_,_=>[]
 |F::r,f,args,S=>cond (Nat.beq F.f f) (match qB (an4 F.vals args S) 0 [] F.ins args with
  |some st=>(match ofL F.ins.shs st.ls with
   |some _=>kD F.objs st.m
   |none=>ur r f args S)
  |none=>ur r f args S) (ur r f args S)
def bo8 (f:Nat)(args:List VV)(S:cf):List Nat:=cond (ck0 tab.is f) (aU1 S.length) (ur tab.fs f args S)
def aC6 (op:AOp)(e:fa)(S:cf):List Nat:=match op with
 | .store _ a _=>bU5 (vh (ev e a))
 | .append _ _ s _=>bU5 (vh (ev e s))
 | .appendZ _ _ _ s _=>bU5 (vh (ev e s))
 | .copy _ d _=>bU5 (vh (ev e d))
 | .next x=>bU5 (vh (ev e x))
 | .call f xs=>bo8 tab f (xs.map (ev e)) S
 | .callv x xs=>(match ev e x with
  | .fn f a c=>bo8 tab f (a++xs.map (ev e)++c) S
  |_=>[])
 |_=>[]
abbrev Chk :=List (Nat×Option (Option Nat))
def aP1 (d:List Nat):Chk→Chk
 |[]=>[]
 |(i,some (some b))::r=>(i,cond (oD b d) none (some (some b)))::aP1 d r
 |x::r=>x::aP1 d r
def og (is:List Nat):Chk→Bool
 |[]=>true
 |(i,b)::r=>cond (oD i is) (match b with
  |some _=>og is r
  |none=>false) (og is r)
def aH7 {β:Type}(it:SItem)(chk:Chk)(e:fa)(S:cf)(k:Chk→fa→cf→Option β):Option β:=
 cond it.mover (gd (og it.chks (aP1 (aC6 tab it.o.op e S) chk)) (aV8 tab it.o.op e S fun v S'=>k (aP1 (aC6 tab it.o.op e S) chk) (putO e it.o.dst v) S'))
  (gd (it.o.op.still&&(!it.keep||it.o.op.isLoad)) (aV8 tab it.o.op e S fun v S'=>k (cond it.keep ((it.idx,ch3 S it.o.op e)::chk) chk) (putO e it.o.dst v) S'))
def tP {β:Type}:List SItem→Chk→fa→cf→(fa→cf→Option β)→Option β
 |[],_,e,S,k=>k e S
 |it::r,chk,e,S,k=>match it.o.guard with
  |none=>aH7 tab it chk e S fun chk' e' S'=>tP r chk' e' S' k
  |some (t,w)=>match ou e t with
   | .bool p=>cond p
    (cond w (aH7 tab it chk (rK e t (.bool true)) S fun chk' e' S'=>tP r chk' e' S' k) (tP r chk (putO (rK e t (.bool true)) it.o.dst (.tup [])) S k))
    (cond w (tP r chk (putO (rK e t (.bool false)) it.o.dst (.tup [])) S k) (aH7 tab it chk (rK e t (.bool false)) S fun chk' e' S'=>tP r chk' e' S' k))
   | .tup []=>tP r chk (putO e it.o.dst (.tup [])) S k
   |_=>none
end
structure LItem where
 i:Nat
 kind:Nat
 chks:List Nat
 need:List Nat
def eg (ops:List (AOper×List Nat))(i:Nat):AOper:=match ops[i]? with
 |some (o,_)=>o
 |none=>⟨none, .lenC 0,none⟩
def bP0 :VV→Bool
 | .int _ _| .bool _| .str _=>true
 |_=>false
def bO9 :Value→Bool
 | .int _ _| .bool _| .string _=>true
 |_=>false
def ac2 {β:Type}(op:AOp)(e:fa)(k:Blk→Bool→Option β):Option β:=match op with
 | .alloc es z=>gd (Nat.ble 1 es) (k (am3 es z) false)
 | .makeSlice es bytes z l c=>(match ev e l,ev e c,aM4 z with
  | .int _ l, .int _ c,some s=>gd (Nat.beq es s.w&&decide (0≤l)&&decide (l≤c)&&decide (bytes*c≤140737488355328)&&Nat.ble 1 bytes) (k (.arr s false (List.replicate l.toNat (tU s))) true)
  |_,_,_=>none)
 | .buildSlice es ln z ps=>(match aL7 ((List.replicate ln (z.map aO4)).flatten) (yK e ps)with
  |some cs=>gd (qR cs&&Nat.beq (ln*es) cs.length&&Nat.ble 1 es&&cs.all bP0&&z.all bO9) (k (.cells es false cs) true)
  |none=>none)
 |_=>none
def vvF (w:Bool)(k:Nat):VV:=cond w (.full k) (.ptr k 0)
section
variable (tab:Tab)
def evL {β:Type}(ops:List (AOper×List Nat)):List LItem→Chk→fa→cf→(fa→cf→Option β)→Option β
 |[],_,e,S,k=>k e S
 |it::r,chk,e,S,k=>
  cond (Nat.beq it.kind 3) (ac2 (eg ops it.i).op e fun _ _=>evL ops r chk e S k)<|
  cond (Nat.beq it.kind 2) (ac2 (eg ops it.i).op e fun blk w=>evL ops r chk (putO e (eg ops it.i).dst (vvF w S.length)) (S++[blk]) k)
  (cond (Nat.beq it.kind 1)
   (aV8 tab (eg ops it.i).op e S fun v S'=>gd (og it.chks (aP1 (aC6 tab (eg ops it.i).op e S) chk)&&og it.need (aP1 (aC6 tab (eg ops it.i).op e S) chk)) (evL ops r (aP1 (aC6 tab (eg ops it.i).op e S) chk) (putO e (eg ops it.i).dst v) S' k))
   (gd (eg ops it.i).op.still (aV8 tab (eg ops it.i).op e S fun v S'=>gd (og it.need (cond (eg ops it.i).op.isLoad ((it.i,ch3 S (eg ops it.i).op e)::chk) chk)) (evL ops r (cond (eg ops it.i).op.isLoad ((it.i,ch3 S (eg ops it.i).op e)::chk) chk) (putO e (eg ops it.i).dst v) S' k))))
end
def bz4 :Operand→List Nat
 | .tmp t=>[t]
 |_=>[]
def yj :AOp→List Nat
 | .makeSlice _ _ _ l c=>bz4 l++bz4 c
 | .buildSlice _ _ _ ps=>ps.flatMap fun p=>bz4 p.2.2
 |_=>[]
def bx5 :AOp→Bool
 | .alloc es _=>Nat.ble 1 es
 |_=>false
def xm :AOp→Bool
 | .alloc _ _| .makeSlice _ _ _ _ _=>true
 | .buildSlice _ _ z _=>z.all bO9
 |_=>false
def aD8 (d:Option Nat)(l:List Nat):Bool:=match d with
 |some t=> !oD t l
 |none=>true
def neO (d d':Option Nat):Bool:=match d,d' with
 |some t,some t'=> !Nat.beq t t'
 |_,_=>true
def aw1 (i:Nat):List Nat→List Nat
 |[]=>[]
 |a::r=>cond (Nat.beq a i) r (a::aw1 i r)
def ad5 :List LItem→List Nat→Nat→Option (List Nat×LItem×List LItem)
 |[],_,_=>none
 |it::r,P,i=>cond (Nat.beq it.kind 3) (ad5 r P i)<|cond (Nat.beq it.kind 2) (cond (oD it.i P) (ad5 r (aw1 it.i P) i) none) (cond (Nat.beq it.i i) (some (P,it,r)) none)
def bG8 :List LItem→List Nat→Bool
 |[],P=>P.isEmpty
 |it::r,P=>cond (Nat.beq it.kind 3) (bG8 r P) (Nat.beq it.kind 2&&oD it.i P&&bG8 r (aw1 it.i P))
def cu3 :AOp→Bool
 | .move _=>true
 |_=>false
def aW6 (ops:List (AOper×List Nat)):List LItem→Nat→Bool
 |[],_=>false
 |it::r,m=>cond (Nat.beq it.kind 3) (Nat.beq it.i m||aW6 ops r m)<|(Nat.beq it.kind 2&&(Nat.beq it.i m||(aD8 (eg ops it.i).dst (yj (eg ops m).op)&&aW6 ops r m)))||(Nat.beq it.kind 0&&cu3 (eg ops it.i).op&&aD8 (eg ops it.i).dst (yj (eg ops m).op)&&aW6 ops r m)
def aw2 (ops:List (AOper×List Nat))(self:Nat)(ex:Bool)(P:List Nat)(r:List LItem):Bool:=
 P.all (fun q=>neO (eg ops self).dst (eg ops q).dst&&aD8 (eg ops self).dst (yj (eg ops q).op))&&
 r.all fun it=> !Nat.beq it.kind 2||(ex&&Nat.beq it.i self)||neO (eg ops self).dst (eg ops it.i).dst
def bo5 (ops:List (AOper×List Nat)):Nat→List Nat→List Nat→List Nat→List Nat→List LItem→Bool
 |0,_,P,_,_,r=>bG8 r P
 |f+1,D,P,ls,nd,r=>match jl ops D with
  |some i=>(eg ops i).guard.isNone&&(match ad5 r P i with
   |some (P',it,r')=>Nat.beq it.kind 0&&aw2 ops i false P' r'&&bo5 ops f (i::D) P' (cond (eg ops i).op.isLoad (i::ls) ls) it.need r'
   |none=>false)
  |none=>match eD ops D with
   |[]=>bG8 r P
   |ms=>ms.all fun m=>(eg ops m).guard.isNone&&cond (xm (eg ops m).op)
    (!oD m P&&r.any (fun it=>Nat.beq it.kind 2&&Nat.beq it.i m)&&(bx5 (eg ops m).op||aW6 ops r m)&&aw2 ops m true P r&&aD8 (eg ops m).dst (yj (eg ops m).op)&&ls.all (fun i=>vK ops i m||oD i nd)&&bo5 ops f (m::D) (m::P) ls nd r)
    (match ad5 r P m with
    |some (P',it,r')=>Nat.beq it.kind 1&&aw2 ops m false P' r'&&ls.all (fun i=>vK ops i m||oD i it.chks)&&bo5 ops f (m::D) P' ls it.need r'
    |none=>false)
def ac4 (ops:List (AOper×List Nat))(all:List Nat):List Nat→List Nat→List LItem
 |[],_=>[]
 |i::r,ls=>
  cond (Nat.ble 1000 i) (⟨i-1000,3,[],[]⟩::ac4 ops all r ls)<|
  let o:=(eg ops i).op
  let ls':=cond o.isLoad (i::ls) ls
  let fr:=r.filter fun m=>xm (eg ops m).op
  ⟨i,cond (xm o) 2 (cond o.still 0 1),ls.filter fun j=> !vK ops j i,ls'.filter fun j=>fr.any fun m=> !vK ops j m⟩::ac4 ops all r ls'
def bf9 (ops:List (AOper×List Nat)):List LItem→Bool
 |[]=>true
 |it::r=>r.all (fun j=> !Nat.beq it.kind 2|| !Nat.beq j.kind 2||neO (eg ops it.i).dst (eg ops j.i).dst)&&bf9 ops r
def ar6 (ops:List (AOper×List Nat)):List LItem→List Nat
 |[]=>[]
 |it::r=>cond (Nat.beq it.kind 2) ((match(eg ops it.i).dst with
  |some d=>[d]
  |none=>[])++ar6 ops r) (ar6 ops r)
inductive AT where
 |no
 |n (l r:AT)
 |lp (fx:List Nat) (head:Alt) (exits:List Alt) (b:AT)
 |jn (fx mov:List Nat) (exits:List Alt) (l r:AT)
 |sz (n:Nat) (l r:AT)
 |dr (L:List Nat)
def cv1 :List VV→Nat
 |[]=>0
 | .nilp::r=>cv1 r+1
 |_::r=>cv1 r
def cu5 :Nat→cf→Nat
 |_,[]=>0
 |k, .cells _ _ l::r=>k*cv1 l+cu5 (k+1) r
 |k,_::r=>cu5 (k+1) r
def ca1 (S:cf):Nat:=S.length+1000*cu5 1 S
def AT.at (n:Nat):AT→AT
 | .sz m l r=>cond (Nat.beq m n) l (r.at n)
 |t=>t
def bA3 (e:fa):List Nat→List VV→fa
 |t::ts,v::vs=>rK (bA3 e ts vs) t v
 |_,_=>e
def am7 (e:fa):List Nat→fa
 |[]=>e
 |t::ts=>rK (am7 e ts) t .undef
def bo9 :Option Nat→List Nat
 |some d=>[d]
 |none=>[]
def mb :AC→List Nat
 | .region ops=>ops.flatMap fun o=>bo9 o.dst
 | .draw ops=>ops.flatMap fun o=>bo9 o.1.dst
 | .sched its=>its.flatMap fun i=>bo9 i.o.dst
 | .seq a b| .cond _ a b=>mb a++mb b
 | .block _ b| .loop b=>mb b
 |_=>[]
def XK.is :XK→AExit→Bool
 | .normal, .normal=>true
 | .exit i, .exit j=>Nat.beq i j
 | .ret, .ret=>true
 |_,_=>false
def XK.out :XK→AExit
 | .normal=> .normal
 | .exit i=> .exit i
 | .ret=> .ret
def ko (fx mov:List Nat)(fz:Bool):Nat→cf→cf
 |_,[]=>[]
 |i,b::r=>cond (oD i mov) (cond b.frozen b .dead) (cond (oD i fx) b (cond fz b.freeze b))::ko fx mov fz (i+1) r
def ao0 :AC→Bool
 | .seq a b| .cond _ a b=>ao0 a&&ao0 b
 | .block _ b| .loop b=>ao0 b
 |_=>true
def cw {α γ:Type}(f:α→Option (α⊕γ))(n:Nat):α→Option γ:=
 Nat.rec (fun _=>none) (fun _ ih a=>(f a).bind fun s=>di s ih some) n
def iJ :Nat:=18446744073709551616
def ao8 (e0:fa)(S:cf)(fx mov asg:List Nat)(fz:Bool)(ts:List Nat)(sk:xA)(t:Tup sk.shs):Option (fa×cf):=
 match ru id sk (toL sk.shs t)with
 |some (vals,fs,bs)=>(match vw fx fs (ko fx mov (fz||ae6 vals fs bs) 0 S)with
  |some S'=>some (bA3 (am7 e0 asg) ts vals,S'++bs)
  |none=>none)
 |none=>none
def cj8 {β:Type}(e0:fa)(S:cf)(fx mov asg:List Nat)(exits:List Alt)(s:vI exits)(k:AExit→fa→cf→Option β):Option β:=
 bX5 exits s fun a t=>match ao8 e0 S fx mov asg false a.ts a.sk t with
  |some (e,S')=>k a.x.out e S'
  |none=>none
def aX4 (F:AT→(β:Type)→fa→cf→(AExit→fa→cf→Option β)→Option β):AT→(β:Type)→fa→cf→(AExit→fa→cf→Option β)→Option β
 | .n l r,β,e,S,k=>F l β e S fun x e' S'=>match x with
  | .normal=>aX4 F r β e' S' k
  |x=>k x e' S'
 | .sz m l r,β,e,S,k=>cond (Nat.beq m S.length) (aX4 F l β e S k) (aX4 F r β e S k)
 |_,_,_,_,_=>none
def AT.rounds :AT→Nat
 | .n _ r=>r.rounds+1
 | .sz _ l r=>l.rounds+r.rounds
 |_=>0
def eval (tab:Tab):AC→AT→(β:Type)→fa→cf→(AExit→fa→cf→Option β)→Option β
 | .skip,_,_,e,S,k=>k .normal e S
 | .exit i,_,_,e,S,k=>k (.exit i) e S
 | .ret,_,_,e,S,k=>k .ret e S
 | .region ops,_,_,e,S,k=>an0 tab ops e S fun e' S'=>k .normal e' S'
 | .sched its,_,_,e,S,k=>tP tab its [] e S fun e' S'=>k .normal e' S'
 | .draw ops,at',_,e,S,k=>(match at'.at (ca1 S)with
  | .dr L=>gd (bo5 ops ops.length [] [] [] [] (ac4 ops L L [])&&bf9 ops (ac4 ops L L [])) (evL tab ops (ac4 ops L L []) [] (am7 e (ar6 ops (ac4 ops L L []))) S fun e' S'=>k .normal e' S')
  |_=>none)
 | .seq a b,at',β,e,S,k=>
  (match at'.at (ca1 S)with
  | .jn fx mov exits l r=>gd (aO5 S fx&&ao0 a) ((eval tab a l (vI exits) e (ko (fx++mov) [] true 0 S) fun x e' S'=>vM S' S.length fx (fun ts=>ts.map (ou e')) (fun y=>y.is x) exits).bind fun s=>
    cj8 e S fx mov (mb a) exits s fun x e' S'=>match x with
     | .normal=>eval tab b r β e' S' k
     |x=>k x e' S')
  | .n l r=>eval tab a l β e S fun x e' S'=>match x with
   | .normal=>eval tab b r β e' S' k
   |x=>k x e' S'
  |_=>eval tab a .no β e S fun x e' S'=>match x with
   | .normal=>eval tab b .no β e' S' k
   |x=>k x e' S')
 | .cond c a b,at',β,e,S,k=>
  (match ev e c with
  | .bool p=>(match c,at'.at (ca1 S)with
   | .tmp t, .n l r=>cond p (eval tab a l β (rK e t (.bool true)) S k) (eval tab b r β (rK e t (.bool false)) S k)
   | .tmp t,_=>cond p (eval tab a .no β (rK e t (.bool true)) S k) (eval tab b .no β (rK e t (.bool false)) S k)
   |_, .n l r=>cond p (eval tab a l β e S k) (eval tab b r β e S k)
   |_,_=>cond p (eval tab a .no β e S k) (eval tab b .no β e S k))
  |_=>none)
 | .block id b,at',β,e,S,k=>
  eval tab b (match at'.at (ca1 S)with
   | .n l _=>l
   |_=> .no) β e S fun x e' S'=>match x with
   | .exit i=>cond (Nat.beq i id) (k .normal e' S') (k (.exit i) e' S')
   |x=>k x e' S'
 | .loop b,at',_,e,S,k=>
  (match at'.at (ca1 S)with
  | .lp fx head exits l=>gd (head.sk.noRo&&aO5 S fx&&ao0 b) (match qB S S.length fx head.sk (head.ts.map (ou e))with
   |some st=>(ofL head.sk.shs st.ls).bind fun t0=>
    (cw (fun t=>match ao8 e S fx (qC st.m) (mb b) true head.ts head.sk t with
     |some (e1,S1)=>eval tab b l (Tup head.sk.shs⊕vI exits) e1 S1 fun x e' S'=>(match x with
      | .normal=>(ay6 S' S.length fx head.sk (head.ts.map (ou e'))).bind fun t=>some (.inl t)
      |x=>(vM S' S.length fx (fun ts=>ts.map (ou e')) (fun y=>y.is x) exits).bind fun s=>some (.inr s))
     |none=>none) iJ t0).bind fun s=>cj8 e S fx (qC st.m) (mb b) exits s k
   |none=>none)
  |_=>aX4 (eval tab b) at' _ e S k)
def cn9 (e:fa)(S:cf):ARes→Option VV
 | .tmp t=>some (ou e t)
 | .cell t=>(match ou e t with
  | .ptr b o=>(match aD S b with
   | .cells _ _ l=>nth l o
   |_=>none)
  |_=>none)
 | .cellN t n=>(match ou e t with
  | .ptr b o=>(match aD S b with
   | .cells _ _ l=>cond (Nat.ble (o+n) l.length) (some (.agg ((l.drop o).take n))) none
   |_=>none)
  |_=>none)
def aE9 (e:fa)(S:cf):List ARes→Option (List VV)
 |[]=>some []
 |r::rs=>(cn9 e S r).bind fun v=>(aE9 e S rs).bind fun vs=>some (v::vs)
def bD2 :List VV→VV
 |[v]=>v
 |vs=> .tup vs
def ed (P:Program)(f:FuncId)(tab:Tab)(at':AT):(β:Type)→List VV→cf→(VV→cf→Option β)→Option β:=fun β args S k=>
 match bD0 P f with
 |some a=>gd (Nat.ble args.length a.ntmps) (eval tab a.body at' β args S fun x e S'=>match x with
  | .exit _=>none
  |_=>(match aE9 e S' a.results with
   |some rs=>k (bD2 rs) S'
   |none=>none))
 |none=>none
def bp3 (P:Program)(f:FuncId)(tab:Tab)(vals:List Sk)(objs:List OSk)(outs:List Alt)(at':AT)(t:Tup (xA.shs ⟨vals,[],objs⟩)):Option (vI outs):=
 match bD0 P f,ru id ⟨vals,[],objs⟩ (toL _ t)with
 |some a,some (vs,_,S)=>gd (Nat.ble vs.length a.ntmps) (eval tab a.body at' (vI outs) vs S fun x e S'=>match x with
  | .exit _=>none
  |_=>(match aE9 e S' a.results with
   |some rs=>vM S' S.length (tR objs 0) (fun _=>[bD2 rs]) (fun _=>true) outs
   |none=>none))
 |_,_=>none
structure Ctx where
 μ:Nat→Option Nat
 S:cf
 σ:Hp
 fb:Nat→Prop
def Blk.dim :Blk→Option (Nat×Nat)
 | .dead=>none
 | .cells es _ l=>some (es,l.length)
 | .arr s _ l=>some (s.w,l.length*s.w)
def Blk.vals :Blk→List VV
 | .dead=>[]
 | .cells _ _ l=>l
 | .arr s _ l=>gr s l
def Ctx.own (c:Ctx)(b:Nat):Prop:= ∃k,(aD c.S k).frozen=false∧c.μ k=some b
def Ctx.mut (c:Ctx)(b:Nat):Prop:=c.own b∨c.fb b
def SlR (c:Ctx)(k lo n:Nat)(d:Nat×Nat)(a:Value):Prop:=
 (a= .slice none 0 0∧lo=0∧n=0∧c.μ k=none∧d.2=0)∨
 ∃b cp y,a= .slice (some ⟨b,lo*d.1,none⟩) n cp∧c.μ k=some b∧(lo+n)*d.1≤d.2∧n≤cp∧c.σ.m b=some y∧(lo+cp)*d.1≤y.cells.length
inductive VRel (c:Ctx):VV→Value→Prop where
 |undef (a:Value):VRel c .undef a
 |bool (b:Bool):VRel c (.bool b) (.bool b)
 |int (k:IntKind) (n:Int):VRel c (.int k n) (.int k n)
 |str {l:List Int} {s:ByteArray}:ei s=l→VRel c (.str l) (.string s)
 |nilp:VRel c .nilp (.pointer none)
 |nils:VRel c .nils (.slice none 0 0)
 |nilf:VRel c .nilf .nilFunc
 |ptr {k o:Nat} {a:Value}:k<c.S.length→one a=true→(∀d,(aD c.S k).dim=some d→∃b,c.μ k=some b∧a= .pointer (some ⟨b,o,none⟩))→VRel c (.ptr k o) a
 |it {k:Nat} {l:List Int} {s:ByteArray} {a:Value}:k<c.S.length→one a=true→ei s=l→(∀d,(aD c.S k).dim=some d→∃b,c.μ k=some b∧a= .iface b (.string s))→VRel c (.it k l) a
 |bld {k:Nat} {a:Value}:k<c.S.length→one a=true→(∀d,(aD c.S k).dim=some d→∃b,c.μ k=some b∧a= .iface b .nilFunc)→VRel c (.bld k) a
 |pix {k o n i:Nat} {a:Value}:k<c.S.length→one a=true→i<n→(∀d,(aD c.S k).dim=some d→∃b,c.μ k=some b∧a= .pointer (some ⟨b,o+i,none⟩))→VRel c (.pix k o n i) a
 |pel {k i o:Nat} {a:Value}:k<c.S.length→one a=true→(∀d,(aD c.S k).dim=some d→∃b,c.μ k=some b∧a= .pointer (some ⟨b,i*d.1+o,none⟩))→VRel c (.pel k i o) a
 |pin {s:Sh} {x:El s} {o b p:Nat} {y:Ab.Blk}: ¬c.mut b→c.σ.m b=some y→p+s.w≤y.cells.length→F2 (VRel c) (fe s x) ((y.cells.drop p).take s.w)→VRel c (.pin s x o) (.pointer (some ⟨b,p+o,none⟩))
 |lstn {s:Sh} {q:Option Addr}:(∀z,q=some z→z.spot=none)→VRel c (.lst s []) (.slice q 0 0)
 |lst {s:Sh} {l:List (El s)} {b p n cp:Nat} {y:Ab.Blk}: ¬c.mut b→c.σ.m b=some y→y.es=s.w→n=l.length→n≤cp→p+n*s.w≤y.cells.length→
   F2 (VRel c) (gr s l) ((y.cells.drop p).take (n*s.w))→VRel c (.lst s l) (.slice (some ⟨b,p,none⟩) n cp)
 |tgtn {s:Sh} {a:Value}:(a= .slice none 0 0∨∃b o,a= .slice (some ⟨b,o,some 0⟩) 0 0)→VRel c (.tgt s []) a
 |tgt {s:Sh} {l:List (El s)} {b p:Nat} {y:Ab.Blk}: ¬c.mut b→c.σ.m b=some y→y.es=s.w→p+l.length*s.w≤y.cells.length→
   F2 (VRel c) (gr s l) ((y.cells.drop p).take (l.length*s.w))→VRel c (.tgt s l) (.slice (some ⟨b,p,some 0⟩) l.length l.length)
 |full {k:Nat} {a:Value}:k<c.S.length→one a=true→(∀d,(aD c.S k).dim=some d→∃n,n*d.1=d.2∧SlR c k 0 n d a)→VRel c (.full k) a
 |part {k lo n:Nat} {a:Value}:k<c.S.length→one a=true→(∀d,(aD c.S k).dim=some d→SlR c k lo n d a)→VRel c (.part k lo n) a
 |fn {f:Nat} {a b:List VV} {a' b':Array Value}:F2 (VRel c) a a'.toList→F2 (VRel c) b b'.toList→VRel c (.fn f a b) (.func (.func f) a' b')
 |agg {l:List VV} {l':Array Value}:F2 (VRel c) l l'.toList→VRel c (.agg l) (.agg l')
 |tup {l:List VV} {l':Array Value}:F2 (VRel c) l l'.toList→VRel c (.tup l) (.tuple l')
def aQ7 (c:Ctx)(k:Nat):Prop:= ∀d,(aD c.S k).dim=some d→1≤d.1∧
 ((d.2=0∧c.μ k=none)∨∃b y cs rest,c.μ k=some b∧c.σ.m b=some y∧y.es=d.1∧((aD c.S k).frozen=false→y.own=true)∧y.cells=cs++rest∧F2 (VRel c) (aD c.S k).vals cs)
structure gb (c:Ctx):Prop where
 ok:c.σ.Ok
 inj: ∀k k' b,(aD c.S k).frozen=false→(aD c.S k').dim≠none→c.μ k=some b→c.μ k'=some b→k=k'
 blk: ∀k,aQ7 c k
 fbk: ∀k b,(aD c.S k).dim≠none→c.μ k=some b→¬c.fb b
 fbl: ∀b,c.fb b→b<c.σ.n
structure Le (c c':Ctx):Prop where
 len:c.S.length≤c'.S.length
 al: ∀k d,k<c.S.length→(aD c'.S k).dim=some d→(aD c.S k).dim=some d∧c'.μ k=c.μ k
 fz: ∀k,(aD c.S k).frozen=true→(aD c.S k).dim≠none→aD c'.S k=aD c.S k
 ln: ∀k d b y,k<c.S.length→(aD c'.S k).dim=some d→c.μ k=some b→c.σ.m b=some y→∃y',c'.σ.m b=some y'∧y'.cells.length=y.cells.length
 un: ∀b y,c.σ.m b=some y→¬c.own b→c'.σ.m b=some y
 ow: ∀b y,c.σ.m b=some y→¬c.own b→¬c'.own b
 n:c.σ.n≤c'.σ.n
 fb:c'.fb=c.fb
theorem Le.rd {c c':Ctx}(h:Le c c')(b:Nat)(y:Ab.Blk)(hy:c.σ.m b=some y)(hn: ¬c.mut b):c'.σ.m b=some y∧¬c'.mut b:=by
 have h1: ¬c.own b:=fun e=>hn (.inl e)
 refine⟨h.un b y hy h1,fun e=> ?_⟩;rcases e with e|e
 ·exact h.ow b y hy h1 e
 ·rw[h.fb]at e;exact hn (.inr e)
def uM (d:List Nat)(c c':Ctx):Prop:= ∀k,k<c.S.length→k∉d→(aD c.S k).dim≠none→(aD c'.S k).dim≠none∧∀b,c.μ k=some b→c'.σ.m b=c.σ.m b
theorem pc {S:cf}{k:Nat}(h:(aD S k).dim≠none):k<S.length:=by
 induction S generalizing k with
 |nil=>exact(h rfl).elim
 |cons b r ih=>
  cases k with
  |zero=>exact Nat.zero_lt_succ _
  |succ k=>exact Nat.succ_lt_succ (ih h)
theorem vq {S:cf}{k:Nat}(h:S.length≤k):aD S k= .dead:=by
 induction S generalizing k with
 |nil=>rfl
 |cons b r ih=>
  cases k with
  |zero=>simp at h
  |succ k=>exact ih (by simpa using h)
theorem ap4 {S:cf}{k:Nat}{b:Blk}:(mh S k b).length=S.length:=by
 induction S generalizing k with
 |nil=>rfl
 |cons a r ih=>cases k<;>simp[mh,ih]
theorem wM {S:cf}{k i:Nat}{b:Blk}:aD (mh S k b) i=if i=k∧k<S.length then b else aD S i:=by
 induction S generalizing k i with
 |nil=>simp[mh]
 |cons a r ih=>
  cases k with
  |zero=>cases i<;>simp[mh,aD]
  |succ k=>
   cases i with
   |zero=>simp[mh,aD]
   |succ i=>simp[mh,aD,ih]
theorem bP1 {S:cf}{k:Nat}{b:Blk}(h:k<S.length):aD (mh S k b) k=b:=by rw[wM,if_pos ⟨rfl,h⟩]
theorem co9 {S:cf}{k i:Nat}{b:Blk}(h:i≠k):aD (mh S k b) i=aD S i:=by rw[wM,if_neg (fun e=>h e.1)]
theorem px {S:cf}{l:List Blk}{k:Nat}(h:k<S.length):aD (S++l) k=aD S k:=by
 induction S generalizing k with
 |nil=>simp at h
 |cons a r ih=>
  cases k with
  |zero=>rfl
  |succ k=>exact ih (by simpa using h)
theorem tc {S:cf}{l:List Blk}{k:Nat}:aD (S++l) (S.length+k)=aD l k:=by
 induction S with
 |nil=>simp
 |cons a r ih=>
  have:(a::r).length+k=(r.length+k)+1:=by simp;omega
  rw[this];exact ih
theorem bC0 {S:cf}{b:Blk}:aD (S++[b]) S.length=b:=by
 exact @tc S [b] 0
theorem ot {b:Blk}(h:b.frozen=false):b.dim≠none:=by cases b<;>simp[Blk.frozen,Blk.dim]at*
theorem gz {b:Blk}:b.freeze.dim=b.dim:=by cases b<;>rfl
theorem aM7 {b:Blk}:b.freeze.vals=b.vals:=by cases b<;>rfl
theorem pv {b:Blk}:b.freeze.frozen=true:=by cases b<;>rfl
theorem zi {b:Blk}(h:b.frozen=true):b.freeze=b:=by cases b<;>simp[Blk.frozen,Blk.freeze]at* <;>simp[h]
theorem Le.refl (c:Ctx):Le c c:=⟨Nat.le_refl _,fun _ _ _ h=>⟨h,rfl⟩,fun _ _ _=>rfl,fun _ _ _ y _ _ _ hy=>⟨y,hy,rfl⟩,fun _ _ h _=>h,fun _ _ _ h=>h,Nat.le_refl _,rfl⟩
theorem Le.trans {a b c:Ctx}(h:Le a b)(k:Le b c):Le a c:=by
 refine⟨Nat.le_trans h.len k.len,fun i d hi hd=> ?_,fun i hf hd=> ?_,fun i d x y hi hd hm hy=> ?_,fun x y hy hn=>k.un x y (h.un x y hy hn) (h.ow x y hy hn),fun x y hy hn=>k.ow x y (h.un x y hy hn) (h.ow x y hy hn),Nat.le_trans h.n k.n,k.fb.trans h.fb⟩
 ·obtain⟨h1,h2⟩:=k.al i d (Nat.lt_of_lt_of_le hi h.len) hd;obtain⟨h3,h4⟩:=h.al i d hi h1;exact⟨h3,h2.trans h4⟩
 ·have h1:=h.fz i hf hd;rw[k.fz i (by rw[h1];exact hf) (by rw[h1];exact hd),h1]
 ·obtain⟨h1,h2⟩:=k.al i d (Nat.lt_of_lt_of_le hi h.len) hd;obtain⟨y1,h3,h4⟩:=h.ln i d x y hi h1 hm hy;obtain⟨_,h6⟩:=h.al i d hi h1;obtain⟨y2,h5,h7⟩:=k.ln i d x y1 (Nat.lt_of_lt_of_le hi h.len) hd (h6.trans hm) h3;exact⟨y2,h5,h7.trans h4⟩
theorem uM.refl (d:List Nat)(c:Ctx):uM d c c:=fun _ _ _ h=>⟨h,fun _ _=>rfl⟩
theorem SlR.frame {c c':Ctx}(h:Le c c'){k lo n:Nat}{d:Nat×Nat}{a:Value}(hk:k<c.S.length)(hd:(aD c'.S k).dim=some d)(hs:SlR c k lo n d a):SlR c' k lo n d a:=by
 obtain⟨h1,h2⟩:=h.al k d hk hd;rcases hs with⟨rfl,rfl,rfl,hm,hz⟩|⟨b,cp,y,rfl,hm,h3,h4,hy,h5⟩
 ·exact .inl ⟨rfl,rfl,rfl,h2.trans hm,hz⟩
 ·obtain⟨y',hy',hl⟩:=h.ln k d b y hk hd hm hy;exact .inr ⟨b,cp,y',rfl,h2.trans hm,h3,h4,hy',by rw[hl];exact h5⟩
theorem VRel.frame {c c':Ctx}(h:Le c c'): ∀{v:VV} {a:Value},VRel c v a→VRel c' v a
 |_,_, .undef a=> .undef a
 |_,_, .bool b=> .bool b
 |_,_, .int k n=> .int k n
 |_,_, .str hs=> .str hs
 |_,_, .nilp=> .nilp
 |_,_, .nils=> .nils
 |_,_, .nilf=> .nilf
 |_,_, .ptr hk h1 hd=> .ptr (Nat.lt_of_lt_of_le hk h.len) h1 fun d hd'=>by
  obtain⟨h1,h2⟩:=h.al _ d hk hd';obtain⟨b,h3,h4⟩:=hd d h1;exact⟨b,h2.trans h3,h4⟩
 |_,_, .it hk h1 hs hd=> .it (Nat.lt_of_lt_of_le hk h.len) h1 hs fun d hd'=>by
  obtain⟨h1,h2⟩:=h.al _ d hk hd';obtain⟨b,h3,h4⟩:=hd d h1;exact⟨b,h2.trans h3,h4⟩
 |_,_, .bld hk h1 hd=> .bld (Nat.lt_of_lt_of_le hk h.len) h1 fun d hd'=>by
  obtain⟨h1,h2⟩:=h.al _ d hk hd';obtain⟨b,h3,h4⟩:=hd d h1;exact⟨b,h2.trans h3,h4⟩
 |_,_, .pix hk h1 hi hd=> .pix (Nat.lt_of_lt_of_le hk h.len) h1 hi fun d hd'=>by
  obtain⟨h1,h2⟩:=h.al _ d hk hd';obtain⟨b,h3,h4⟩:=hd d h1;exact⟨b,h2.trans h3,h4⟩
 |_,_, .pel hk h1 hd=> .pel (Nat.lt_of_lt_of_le hk h.len) h1 fun d hd'=>by
  obtain⟨h1,h2⟩:=h.al _ d hk hd';obtain⟨b,h3,h4⟩:=hd d h1;exact⟨b,h2.trans h3,h4⟩
 |_,_, .pin hn hy hl hf=> .pin (h.rd _ _ hy hn).2 (h.rd _ _ hy hn).1 hl (go hf)
 |_,_, .lstn hq=> .lstn hq
 |_,_, .lst hn hy he h1 h2 h3 hf=> .lst (h.rd _ _ hy hn).2 (h.rd _ _ hy hn).1 he h1 h2 h3 (go hf)
 |_,_, .tgtn hq=> .tgtn hq
 |_,_, .tgt hn hy he h3 hf=> .tgt (h.rd _ _ hy hn).2 (h.rd _ _ hy hn).1 he h3 (go hf)
 |_,_, .full hk h1 hd=> .full (Nat.lt_of_lt_of_le hk h.len) h1 fun d hd'=>by
  obtain⟨h1,h2⟩:=h.al _ d hk hd';obtain⟨n,h3,h4⟩:=hd d h1;exact⟨n,h3,h4.frame h hk hd'⟩
 |_,_, .part hk h1 hd=> .part (Nat.lt_of_lt_of_le hk h.len) h1 fun d hd'=>by
  obtain⟨h1,h2⟩:=h.al _ d hk hd';exact(hd d h1).frame h hk hd'
 |_,_, .fn h1 h2=> .fn (go h1) (go h2)
 |_,_, .agg h1=> .agg (go h1)
 |_,_, .tup h1=> .tup (go h1)
where
 go: ∀{l:List VV} {m:List Value},F2 (VRel c) l m→F2 (VRel c') l m
  |_,_, .nil=> .nil
  |_,_, .cons h1 h2=> .cons (VRel.frame h h1) (go h2)
theorem VRel.frames {c c':Ctx}(h:Le c c'){l:List VV}{m:List Value}(hf:F2 (VRel c) l m):F2 (VRel c') l m:=hf.imp fun _ _ hv=>hv.frame h
def iO {β:Type}(c:Ctx)(d:List Nat)(k:VV→cf→Option β)(y:β)(v:Value)(σ':Hp):Prop:=
 ∃vv c',c'.σ=σ'∧Le c c'∧gb c'∧uM d c c'∧VRel c' vv v∧k vv c'.S=some y
theorem iO.same {β:Type}{c:Ctx}{d:List Nat}{k:VV→cf→Option β}{y:β}{v:Value}{vv:VV}(hR:gb c)(hv:VRel c vv v)(hk:k vv c.S=some y):iO c d k y v c.σ:=
 ⟨vv,c,rfl,Le.refl c,hR,uM.refl d c,hv,hk⟩
theorem pz : ∀s:Sh,1≤s.w
 | .int _=>Nat.le_refl _
 | .bool=>Nat.le_refl _
 | .str=>Nat.le_refl _
 | .list _=>Nat.le_refl _
 | .pair a _=>Nat.le_trans (pz a) (Nat.le_add_right _ _)
theorem fp : ∀(s:Sh) (x:El s),(fe s x).length=s.w
 | .int _,_=>rfl
 | .bool,_=>rfl
 | .str,_=>rfl
 | .list _,_=>rfl
 | .pair a b,x=>by
  simp only[fe,List.length_append,Sh.w];rw[fp a,fp b]
theorem ar4 {s:Sh}:gr s []=[]:=rfl
theorem iy {s:Sh}{x:El s}{l:List (El s)}:gr s (x::l)=fe s x++gr s l:=rfl
theorem iF {s:Sh}{l:List (El s)}:(gr s l).length=l.length*s.w:=by
 induction l with
 |nil=>simp[ar4]
 |cons x l ih=>rw[iy,List.length_append,fp,ih,List.length_cons,Nat.succ_mul,Nat.add_comm]
theorem wH {s:Sh}{l m:List (El s)}:gr s (l++m)=gr s l++gr s m:=List.flatMap_append
theorem me {s:Sh}{l:List (El s)}{n:Nat}:gr s (l.take n)=(gr s l).take (n*s.w):=by
 induction l generalizing n with
 |nil=>simp[ar4]
 |cons x l ih=>
  cases n with
  |zero=>simp[ar4]
  |succ n=>
   rw[List.take_succ_cons,iy,iy,ih,List.take_append,fp];have h1:(n+1)*s.w-s.w=n*s.w:=by rw[Nat.succ_mul];omega
   rw[h1,List.take_of_length_le (l:=fe s x) (by rw[fp,Nat.succ_mul];omega)]
theorem xl {s:Sh}{l:List (El s)}{n:Nat}:gr s (l.drop n)=(gr s l).drop (n*s.w):=by
 induction l generalizing n with
 |nil=>simp[ar4]
 |cons x l ih=>
  cases n with
  |zero=>simp
  |succ n=>
   rw[List.drop_succ_cons,iy,ih,List.drop_append,fp];have h1:(n+1)*s.w-s.w=n*s.w:=by rw[Nat.succ_mul];omega
   rw[h1,List.drop_of_length_le (l:=fe s x) (by rw[fp,Nat.succ_mul];omega),List.nil_append]
theorem aH9 {s:Sh}{l:List (El s)}{i:Nat}{x:El s}(h:l[i]?=some x):((gr s l).drop (i*s.w)).take s.w=fe s x:=by
 rw[←xl]
 have hi:i<l.length:=by
  rcases Nat.lt_or_ge i l.length with h1|h1
  ·exact h1
  ·rw[List.getElem?_eq_none h1]at h;cases h
 have h2:l.drop i=x::l.drop (i+1):=by
  rw[List.drop_eq_getElem_cons hi];rw[List.getElem?_eq_getElem hi]at h;injection h with h
  rw[h]
 rw[h2,iy,List.take_append,fp,Nat.sub_self,List.take_zero,List.append_nil,List.take_of_length_le (by rw[fp];exact Nat.le_refl _)]
theorem ob {s' s:Sh}{x:El s'}{y:El s}(h:na s' s x=some y): ∃e:s'=s,y=e▸x:=by
 unfold na at h;split at h
 ·rename_i e;injection h with h
  exact⟨e,h.symm⟩
 ·cases h
theorem ll {s:Sh}{x:El s}:na s s x=some x:=by
 unfold na;rw[dif_pos rfl]
theorem F2.app_left {α β:Type}{r:α→β→Prop}{l l':List α}{m:List β}(h:F2 r (l++l') m): ∃m1 m2,m=m1++m2∧F2 r l m1∧F2 r l' m2:=by
 induction l generalizing m with
 |nil=>exact⟨[],m,rfl, .nil,h⟩
 |cons a l ih=>
  cases h with
  |cons h1 h2=>
   obtain⟨m1,m2,rfl,h3,h4⟩:=ih h2;exact⟨_::m1,m2,rfl, .cons h1 h3,h4⟩
def w5 (c:Ctx)(s:Sh)(l:List (El s))(a:Value):Prop:=
 (∃q:Option Addr,a= .slice q 0 0∧l=[]∧∀z,q=some z→z.spot=none)∨∃b p cp y,a= .slice (some ⟨b,p,none⟩) l.length cp∧c.σ.m b=some y∧y.es=s.w∧l.length≤cp∧p+l.length*s.w≤y.cells.length∧F2 (VRel c) (gr s l) ((y.cells.drop p).take (l.length*s.w))
theorem w5.rel {c:Ctx}{s:Sh}{l:List (El s)}{a:Value}(h:w5 c s l a)(hn: ∀b p n cp,a= .slice (some ⟨b,p,none⟩) n cp→cp≠0→¬c.mut b):VRel c (.lst s l) a:=by
 rcases h with⟨q,rfl,rfl,hq⟩|⟨b,p,cp,y,rfl,h1,h2,h3,h4,h5⟩
 ·exact .lstn hq
 ·by_cases hc:cp=0
  ·subst hc;have:l=[]:=List.length_eq_zero_iff.1 (by omega);subst this;exact .lstn fun z hz=>by injection hz with hz;rw[←hz]
  ·exact .lst (hn _ _ _ _ rfl hc) h1 h2 rfl h3 h4 h5
theorem VRel.listAt {c:Ctx}{s:Sh}{l:List (El s)}{a:Value}(h:VRel c (.lst s l) a):w5 c s l a:=by
 cases h with
 |lstn hq=>exact .inl ⟨_,rfl,rfl,hq⟩
 |lst hn hy he h1 h2 h3 h4=>subst h1;exact .inr ⟨_,_,_,_,rfl,hy,he,h2,h3,h4⟩
theorem VRel.lst_mut {c:Ctx}{s:Sh}{l:List (El s)}{b p n cp:Nat}(h:VRel c (.lst s l) (.slice (some ⟨b,p,none⟩) n cp))(hc:cp≠0): ¬c.mut b:=by
 cases h with
 |lstn=>exact(hc rfl).elim
 |lst hn=>exact hn
theorem gb.fz_mut {c:Ctx}(hR:gb c){k b:Nat}(hk:(aD c.S k).frozen=true)(hd:(aD c.S k).dim≠none)(hm:c.μ k=some b): ¬c.mut b:=by
 rintro(⟨k',h1,h2⟩|h)
 ·have:=hR.inj k' k b h1 hd h2 hm;subst this;rw[h1]at hk;cases hk
 ·exact hR.fbk k b hd hm h
def aK8 (c:Ctx)(s:Sh)(f:List VV→Option (El s×List VV)):Prop:= ∀cells x rest,f cells=some (x,rest)→
 ∃pre,cells=pre++rest∧pre.length=s.w∧∀as,F2 (VRel c) pre as→F2 (VRel c) (fe s x) as
theorem aH1 {c:Ctx}{s:Sh}{f:List VV→Option (El s×List VV)}(hf:aK8 c s f): ∀(n:Nat) (cells:List VV) (l:List (El s)),aL2 f n cells=some l→
  cells.length=l.length*s.w∧∀as,F2 (VRel c) cells as→F2 (VRel c) (gr s l) as
 |n,[],l,h=>by
  have:l=[]:=by cases n<;>simpa[aL2]using h.symm
  subst this;exact⟨by simp,fun as ha=>ha⟩
 |0,_::_,_,h=>by simp[aL2]at h
 |n+1,v::r,l,h=>by
  simp only[aL2]at h;cases h1:f (v::r)with
  |none=>rw[h1]at h;cases h
  |some p=>
   obtain⟨x,rest⟩:=p;rw[h1]at h;simp only[Option.bind_some]at h;cases h2:aL2 f n rest with
   |none=>rw[h2]at h;cases h
   |some l'=>
    rw[h2]at h;injection h with h
    subst h;obtain⟨pre,h3,h4,h5⟩:=hf _ _ _ h1;obtain⟨h6,h7⟩:=aH1 hf n rest l' h2;refine⟨by rw[h3,List.length_append,h4,h6,List.length_cons,Nat.succ_mul,Nat.add_comm],fun as ha=> ?_⟩;rw[h3]at ha;obtain⟨m1,m2,rfl,h8,h9⟩:=F2.app_left ha;exact(h5 _ h8).append (h7 _ h9)
theorem sV {c:Ctx}{s:Sh}{f:List VV→Option (El s×List VV)}(hf:aK8 c s f){k:Nat}{l:List (El s)}(h:wx s f (aD c.S k)=some l):
  ∃d,(aD c.S k).dim=some d∧d.1=s.w∧d.2=l.length*s.w∧∀as,F2 (VRel c) (aD c.S k).vals as→F2 (VRel c) (gr s l) as:=by
 generalize aD c.S k=b at h;cases b with
 |dead=>cases h
 |arr s' z m=>
  obtain⟨e,h1⟩:=ob h;cases e;subst h1;exact⟨_,rfl,rfl,rfl,fun _ h=>h⟩
 |cells es z m=>
  simp only[wx]at h;cases he:Nat.beq es s.w with
  |false=>rw[he]at h;cases h
  |true=>
   rw[he,cond_true]at h;obtain⟨h1,h2⟩:=aH1 hf _ _ _ h;exact⟨_,rfl,Nat.eq_of_beq_eq_true he,h1,h2⟩
theorem aU3 {c:Ctx}(hR:gb c){s:Sh}{f:List VV→Option (El s×List VV)}(hf:aK8 c s f){k lo n:Nat}{l:List (El s)}{d:Nat×Nat}{a:Value}(h:wx s f (aD c.S k)=some l)
  (hd:(aD c.S k).dim=some d) (hs:SlR c k lo n d a):w5 c s ((l.drop lo).take n) a∧((l.drop lo).take n).length=n:=by
 obtain⟨d',h1,h2,h3,h4⟩:=sV hf h;rw[hd]at h1;injection h1 with h1
 subst h1;obtain⟨h0,hb⟩:=hR.blk k d hd;have hw:=pz s;rcases hs with⟨rfl,rfl,rfl,hm,hz⟩|⟨b,cp,y,rfl,hm,h5,h6,hy,h7⟩
 ·have:l.length=0:=by
   rw[hz]at h3;rcases Nat.eq_zero_or_pos l.length with h|h
   ·exact h
   ·have:=Nat.mul_pos h hw;omega
  rw[List.length_eq_zero_iff]at this;subst this;exact⟨.inl ⟨none,rfl,by simp,fun z hz=>by cases hz⟩,by simp⟩
 ·have hln:lo+n≤l.length:=by
   rw[h2,h3]at h5;exact Nat.le_of_mul_le_mul_right h5 hw
  have hlen:((l.drop lo).take n).length=n:=by rw[List.length_take,List.length_drop];omega
  refine⟨.inr ⟨b,lo*d.1,cp,y,by rw[hlen],hy, ?_,by rw[hlen];exact h6, ?_, ?_⟩,hlen⟩
  ·rcases hb with⟨h8,h9⟩|⟨b',y',cs,rest,h8,h9,h10,_⟩
   ·rw[h9]at hm;cases hm
   ·rw[hm]at h8;injection h8 with h8
    subst h8;rw[hy]at h9;injection h9 with h9
    subst h9;rw[h10,h2]
  ·rw[hlen];have:=Nat.mul_le_mul_right d.1 h6;rw[Nat.add_mul]at h7;rw[←h2];omega
  ·rcases hb with⟨h8,h9⟩|⟨b',y',cs,rest,h8,h9,h10,_,h12,h13⟩
   ·rw[h9]at hm;cases hm
   ·rw[hm]at h8;injection h8 with h8
    subst h8;rw[hy]at h9;injection h9 with h9
    subst h9;have h14:=h4 _ h13;have h15:cs.length=l.length*s.w:=by rw[←h14.length,iF]
    rw[hlen,me,xl,h2,h12,List.drop_append_of_le_length (by rw[h15];exact Nat.mul_le_mul_right _ (by omega)),List.take_append_of_le_length]
    ·exact(h14.drop _).take _
    ·rw[List.length_drop,h15,←Nat.sub_mul];exact Nat.mul_le_mul_right _ (by omega)
theorem bx2 {c:Ctx}(hR:gb c){s:Sh}{f:List VV→Option (El s×List VV)}(hf:aK8 c s f){k:Nat}{l:List (El s)}{a:Value}(h:wx s f (aD c.S k)=some l)(hv:VRel c (.full k) a):w5 c s l a:=by
 obtain⟨d,h1,h2,h3,h4⟩:=sV hf h;cases hv with
 |full hk _ hd=>
  obtain⟨n,h5,h6⟩:=hd d h1
  have hn:n=l.length:=by
   rw[h2,h3]at h5;exact Nat.eq_of_mul_eq_mul_right (pz s) h5
  have:=(aU3 hR hf h h1 h6).1
  rwa [List.drop_zero,List.take_of_length_le (by omega)]at this
theorem bz6 {c:Ctx}(hR:gb c){s:Sh}{f:List VV→Option (El s×List VV)}(hf:aK8 c s f){k lo n:Nat}{l:List (El s)}{a:Value}(h:wx s f (aD c.S k)=some l)(hv:VRel c (.part k lo n) a):
  w5 c s ((l.drop lo).take n) a∧((l.drop lo).take n).length=n:=by
 obtain⟨d,h1,h2,h3,h4⟩:=sV hf h;cases hv with
 |part hk _ hd=>exact aU3 hR hf h h1 (hd d h1)
def aI0 :VV→Option Nat
 | .full k=>some k
 | .part k _ _=>some k
 |_=>none
theorem SlR.addr {c:Ctx}{k lo n:Nat}{d:Nat×Nat}{b p m cp:Nat}(h:SlR c k lo n d (.slice (some ⟨b,p,none⟩) m cp)):c.μ k=some b:=by
 rcases h with⟨h,_⟩|⟨b',cp',y,h,hm,_⟩
 ·cases h
 ·injection h with h1 h2 h3
  injection h1 with h1
  injection h1 with h1
  subst h1;exact hm
theorem bh4 {c:Ctx}(hR:gb c){s:Sh}{f:List VV→Option (El s×List VV)}(hf:aK8 c s f){v:VV}{l:List (El s)}{a:Value}(h:an8 c.S s f v=some l)(hv:VRel c v a):
  w5 c s l a∧∀b p n cp,a= .slice (some ⟨b,p,none⟩) n cp→cp≠0→¬c.mut b∨∃k,aI0 v=some k∧(aD c.S k).dim≠none∧c.μ k=some b:=by
 cases v<;>simp only[an8]at h<;>try(cases h;done)
 case nils=>
  injection h with h
  subst h;cases hv;exact⟨.inl ⟨none,rfl,rfl,fun z hz=>by cases hz⟩,fun b p n cp e=>by cases e⟩
 case lst s' l'=>
  obtain⟨e,h1⟩:=ob h;cases e;subst h1;refine⟨hv.listAt,fun b p n cp e hc=> .inl ?_⟩;subst e;exact hv.lst_mut hc
 case full k=>
  refine⟨bx2 hR hf h hv,fun b p n cp e _=> .inr ⟨k,rfl, ?_⟩⟩;obtain⟨d,h1,_⟩:=sV hf h;subst e;cases hv with
  |full hk _ hd=>
   obtain⟨_,_,h6⟩:=hd d h1;exact⟨by rw[h1];simp,h6.addr⟩
 case part k lo m=>
  cases h0:wx s f (aD c.S k)with
  |none=>rw[h0]at h;cases h
  |some l0=>
   rw[h0]at h;injection h with h
   subst h;refine⟨(bz6 hR hf h0 hv).1,fun b p n cp e _=> .inr ⟨k,rfl, ?_⟩⟩;obtain⟨d,h1,_⟩:=sV hf h0;subst e;cases hv with
   |part hk _ hd=>exact⟨by rw[h1];simp,(hd d h1).addr⟩
theorem aX2 {c:Ctx}(hR:gb c){s:Sh}{f:List VV→Option (El s×List VV)}(hf:aK8 c s f){v:VV}{l:List (El s)}{a:Value}(h:bq2 c.S s f v=some l)(hv:VRel c v a):VRel c (.lst s l) a:=by
 have key:an8 c.S s f v=some l∧∀k,aI0 v=some k→(aD c.S k).frozen=true:=by
  unfold bq2 at h;split at h
  ·rename_i k;cases hz:(aD c.S k).frozen with
   |false=>rw[hz]at h;cases h
   |true=>
    rw[hz]at h;exact⟨h,fun k' e=>by cases e;exact hz⟩
  ·rename_i k lo n;cases hz:(aD c.S k).frozen with
   |false=>rw[hz]at h;cases h
   |true=>
    rw[hz]at h;exact⟨h,fun k' e=>by cases e;exact hz⟩
  ·rename_i h1 h2;refine⟨h,fun k e=> ?_⟩;cases v<;>simp only[aI0]at e<;>try(cases e;done)
   ·exact(h1 _ rfl).elim
   ·exact(h2 _ _ _ rfl).elim
 obtain⟨h1,h2⟩:=bh4 hR hf key.1 hv;refine h1.rel fun b p n cp e hc=> ?_
 rcases h2 b p n cp e hc with h3|⟨k,h3,h4,h5⟩
 ·exact h3
 ·exact hR.fz_mut (key.2 k h3) h4 h5
theorem lm {c:Ctx}(hR:gb c): ∀s:Sh,aK8 c s (lh c.S s)
 | .int k,cells,x,rest,h=>by
  cases cells with
  |nil=>simp[lh]at h
  |cons v r=>
   cases v<;>simp only[lh]at h<;>try(cases h;done)
   rename_i k' n;cases hk:decide (k'=k)with
   |false=>rw[hk]at h;cases h
   |true=>
    rw[hk]at h;injection h with h
    injection h with h1 h2
    subst h1;subst h2;have:=of_decide_eq_true hk;subst this;exact⟨[_],rfl,rfl,fun _ h=>h⟩
 | .bool,cells,x,rest,h=>by
  cases cells with
  |nil=>simp[lh]at h
  |cons v r=>
   cases v<;>simp only[lh]at h<;>try(cases h;done)
   injection h with h
   injection h with h1 h2
   subst h1;subst h2;exact⟨[_],rfl,rfl,fun _ h=>h⟩
 | .str,cells,x,rest,h=>by
  cases cells with
  |nil=>simp[lh]at h
  |cons v r=>
   cases v<;>simp only[lh]at h<;>try(cases h;done)
   injection h with h
   injection h with h1 h2
   subst h1;subst h2;exact⟨[_],rfl,rfl,fun _ h=>h⟩
 | .list s,cells,x,rest,h=>by
  cases cells with
  |nil=>simp[lh]at h
  |cons v r=>
   simp only[lh]at h;cases h1:bq2 c.S s (lh c.S s) v with
   |none=>rw[h1]at h;cases h
   |some l=>
    rw[h1]at h;injection h with h
    injection h with h2 h3
    subst h2;subst h3;refine⟨[v],rfl,rfl,fun as ha=> ?_⟩;cases ha with
    |cons ha hn=>
     cases hn;exact .cons (aX2 hR (lm hR s) h1 ha) .nil
 | .pair a b,cells,x,rest,h=>by
  simp only[lh]at h;cases h1:lh c.S a cells with
  |none=>rw[h1]at h;cases h
  |some p=>
   obtain⟨y,r1⟩:=p;rw[h1]at h;simp only[Option.bind_some]at h;cases h2:lh c.S b r1 with
   |none=>rw[h2]at h;cases h
   |some q=>
    obtain⟨z,r2⟩:=q;rw[h2]at h;injection h with h
    injection h with h3 h4
    subst h3;subst h4;obtain⟨p1,rfl,hl1,hf1⟩:=lm hR a _ _ _ h1;obtain⟨p2,rfl,hl2,hf2⟩:=lm hR b _ _ _ h2;refine⟨p1++p2,by rw[List.append_assoc],by rw[List.length_append,hl1,hl2];rfl,fun as ha=> ?_⟩;obtain⟨m1,m2,rfl,h5,h6⟩:=F2.app_left ha;exact(hf1 _ h5).append (hf2 _ h6)
theorem ca8 {c:Ctx}(hR:gb c){s:Sh}{v:VV}{l:List (El s)}{a:Value}(h:bN3 c.S s v=some l)(hv:VRel c v a):
  w5 c s l a∧∀b p n cp,a= .slice (some ⟨b,p,none⟩) n cp→cp≠0→¬c.mut b∨∃k,aI0 v=some k∧(aD c.S k).dim≠none∧c.μ k=some b:=
 bh4 hR (lm hR s) h hv
end Go.V
