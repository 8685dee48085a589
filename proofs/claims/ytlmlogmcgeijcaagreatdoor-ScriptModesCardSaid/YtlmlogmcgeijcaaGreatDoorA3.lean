/- A part of the proof. No condition. -/
import Derived.Test.YtlmlogmcgeijcaaGreatDoorA2
set_option linter.unusedVariables false
set_option linter.unusedSimpArgs false
set_option linter.unusedSectionVars false
namespace Go.Ab
open Option renaming some->O,none->Y
open Bool renaming true->Za,false->Zb
open Decidable renaming decide->Zc
variable {e e':cf}{i j t:Nat}{D:List Nat}{Z:Hp}{ao op:AOp}{w:World}{x:Exit}{a:Act}{f:FuncId}{args:List Operand}{c:Call}{v:Value}
section
open Go.RowKit
section
variable {P:Program} {o:Oper} {a:Act} {w:World} {B:Base P} {N:Nat} {μ:Mu} {e:cf} {Z Z':Hp} {v:Value}
theorem xw {x y:Option Operand}(h:ao7 x=O y):x=y/\∀u,y=O u->co u=Za:=by
 unfold ao7 at h;split at h
 .rename_i x;obtain⟨z,g,h⟩:=Option.map_eq_some_iff.1 h;obtain⟨rfl,d⟩:=ar g;subst h;exact⟨rfl,λu b=>by injection b with b;exact b▸d⟩
 .injection h with h
  subst h;exact⟨rfl,λu b=>by cases b⟩
def AOp.isCall :AOp->Bool
 | .call _ _| .callv _ _=>Za
 |_=>Zb
theorem ab5 {op:BinOp}{t u:TypeId}{x y:Operand}(n:o.op= .binOp op t x y u)(h:RH P op t x y=O ao)(p:ao.run e Z=O (v,Z'))(m:eU μ N e a.tmps)(l:R B μ Z w):iH P o a w B μ v Z':=by
 unfold RH at h;split at h
 .split at h
  .rename_i b d;obtain⟨rfl,g⟩:=ar b;obtain⟨rfl,k⟩:=ar d;injection h with h
   subst h;exact Yz n g k p m l
  .cases h
 .split at h
  .rename_i b d;obtain⟨rfl,g⟩:=ar b;obtain⟨rfl,k⟩:=ar d;injection h with h
   subst h;exact Yz n g k p m l
  .cases h
 .split at h
  .rename_i q b d;obtain⟨rfl,g⟩:=ar b;obtain⟨rfl,k⟩:=ar d;injection h with h
   subst h;exact Ca n rfl q g k p m l
  .rename_i q b d;obtain⟨rfl,g⟩:=ar b;obtain⟨rfl,k⟩:=ar d;injection h with h
   subst h;exact Ca n rfl q g k p m l
  .cases h
 .split at h
  .rename_i q b d;obtain⟨rfl,g⟩:=ar b;obtain⟨rfl,k⟩:=ar d;injection h with h
   subst h;exact Ca n rfl q g k p m l
  .rename_i q b d;obtain⟨rfl,g⟩:=ar b;obtain⟨rfl,k⟩:=ar d;injection h with h
   subst h;exact Ca n rfl q g k p m l
  .cases h
 .rename_i s;split at h
  .rename_i r b d;obtain⟨rfl,g⟩:=ar b;obtain⟨rfl,k⟩:=ar d;injection h with h
   subst h;exact YA n rfl s r g k p m l
  .rename_i r b d;obtain⟨rfl,g⟩:=ar b;obtain⟨rfl,k⟩:=ar d;injection h with h
   subst h;exact YA n rfl s r g k p m l
  .cases h
 .cases h
theorem WR (q:o.op= .call c)(h:Cn P c=O ao)(H:ao.isCall=Zb)(r:ao.run e Z=O (v,Z'))(A:eU μ N e a.tmps)(p:R B μ Z w):iH P o a w B μ v Z':=by
 unfold Cn at h;split at h
 .split at h
  .obtain⟨x,_,h⟩:=Option.map_eq_some_iff.1 h;subst h;simp[AOp.isCall]at H
  .cases h
 .obtain⟨x,_,h⟩:=Option.map_eq_some_iff.1 h;subst h;simp[AOp.isCall]at H
 .rename_i b;split at h
  .rename_i k m;split at h
   .rename_i u y d n;obtain⟨rfl,g⟩:=ar d;obtain⟨rfl,z⟩:=ar n;split at h
    .rename_i C E F;split at h
     .rename_i l;injection h with h
      subst h;exact Ny q b k m u (.inl ⟨_,y⟩) C E F l g z r A p
     .cases h
    .cases h
   .rename_i u y d n;obtain⟨rfl,g⟩:=ar d;obtain⟨rfl,z⟩:=ar n;split at h
    .rename_i C E F;split at h
     .rename_i l;injection h with h
      subst h;exact Ny q b k m u (.inr y) C E F l g z r A p
     .cases h
    .cases h
   .rename_i u y d n;obtain⟨rfl,g⟩:=ar d;obtain⟨rfl,z⟩:=ar n;split at h
    .rename_i C E F;split at h
     .rename_i l;injection h with h
      subst h;exact S6 q b k m u ⟨_,y⟩ C E F l.1 l.2 g z r A p
     .cases h
    .cases h
   .cases h
  .cases h
 .rename_i b;split at h
  .rename_i k m;split at h
   .rename_i s d n;obtain⟨rfl,g⟩:=ar d;obtain⟨rfl,z⟩:=ar n;split at h
    .rename_i C;injection h with h
     subst h;exact an5 q b k m s C g z r A p
    .cases h
   .cases h
  .cases h
 .rename_i b;split at h
  .rename_i k m;split at h
   .rename_i s d;obtain⟨rfl,g⟩:=ar d;injection h with h
    subst h;exact an8 q b k m s g r A p
   .rename_i s d;obtain⟨rfl,g⟩:=ar d;injection h with h
    subst h;exact aD8 q b k m s g r A p
   .rename_i s;injection h with h
    subst h;exact UI q b k m (.inl ⟨_,s⟩) r p
   .rename_i s;split at h
    .rename_i I;injection h with h
     subst h;exact UI q b k m (.inr ⟨_,_,s,I⟩) r p
    .cases h
   .cases h
  .cases h
 .rename_i b;split at h
  .rename_i k m;split at h
   .rename_i s d;obtain⟨rfl,g⟩:=ar d;injection h with h
    subst h;exact an3 q b k m s g r A p
   .cases h
  .cases h
 .rename_i b;split at h
  .rename_i k;split at h
   .rename_i d n;obtain⟨rfl,g⟩:=ar d;obtain⟨rfl,z⟩:=ar n;injection h with h
    subst h;exact ao1 q b k g z r A p
   .cases h
  .cases h
 .rename_i b;split at h
  .rename_i k;split at h
   .rename_i d n;obtain⟨rfl,g⟩:=ar d;obtain⟨rfl,z⟩:=ar n;injection h with h
    subst h;exact YB q b k g z r A p
   .cases h
  .cases h
 .cases h
theorem ar8 (h:RK P o=O ao)(S:ao.isCall=Zb)(k:ao.run e Z=O (v,Z'))(m:eU μ N e a.tmps)(l:R B μ Z w):iH P o a w B μ v Z':=by
 unfold RK at h;split at h
 .rename_i b;obtain⟨x,d,h⟩:=Option.map_eq_some_iff.1 h;obtain⟨rfl,g⟩:=ar d;subst h;exact UJ (.inl b) g k m l
 .rename_i b;obtain⟨x,d,h⟩:=Option.map_eq_some_iff.1 h;obtain⟨rfl,g⟩:=ar d;subst h;exact UJ (.inr b) g k m l
 .rename_i b;split at h
  .rename_i d s C;obtain⟨rfl,g⟩:=ar d;obtain⟨rfl,u⟩:=ar s;obtain⟨rfl,F⟩:=ar C;injection h with h
   subst h;exact ao4 b g u F k m l
  .cases h
 .rename_i b;split at h
  .rename_i H;split at h
   .rename_i z;injection h with h
    subst h;exact ao2 b H z k l
   .cases h
  .split at h
   .rename_i z;injection h with h
    subst h;exact Yy b z k l
   .cases h
 .rename_i b;split at h
  .rename_i d;obtain⟨rfl,g⟩:=ar d;injection h with h
   subst h;exact aD6 b g k m l
  .cases h
 .rename_i b;split at h
  .rename_i p z;split at h
   .rename_i I;obtain⟨Q,J,h⟩:=Option.map_eq_some_iff.1 h;subst h;exact JH b p z I J k m l
   .cases h
  .rename_i p z;split at h
   .rename_i r;obtain⟨Q,J,h⟩:=Option.map_eq_some_iff.1 h;subst h;exact Lt b p r z J k m l
   .cases h
  .cases h
 .rename_i b;split at h
  .rename_i p;split at h
   .rename_i r z;split at h
    .rename_i q;obtain⟨Q,J,h⟩:=Option.map_eq_some_iff.1 h;subst h;exact MN b p r z q.1 q.2.1 q.2.2 J k m l
    .cases h
   .cases h
  .cases h
 .injection h with h
  subst h;cases k
 .rename_i b;split at h
  .rename_i y d;obtain⟨rfl,g⟩:=ar d;obtain⟨n,r,h⟩:=Option.map_eq_some_iff.1 h;subst h;exact YC b y r g k m l
  .rename_i y d;obtain⟨rfl,g⟩:=ar d;injection h with h
   subst h;exact an9 b y g k m l
  .cases h
 .rename_i b;split at h
  .rename_i r d s;obtain⟨rfl,g⟩:=ar d;obtain⟨rfl,u⟩:=ar s;injection h with h
   subst h;exact YF b r g u k m l
  .cases h
 .rename_i b;obtain⟨x,d,h⟩:=Option.map_eq_some_iff.1 h;obtain⟨rfl,g⟩:=ar d;subst h;exact QQ b g k m l
 .rename_i b;exact ab5 b h k m l
 .rename_i b;obtain⟨x,d,h⟩:=Option.map_eq_some_iff.1 h;obtain⟨rfl,g⟩:=ar d;subst h;exact aM3 b g k m l
 .rename_i b;split at h
  .rename_i E A d;obtain⟨rfl,g⟩:=ar d;injection h with h
   subst h;exact an4 b E A g k m l
  .rename_i E A d;obtain⟨rfl,g⟩:=ar d;injection h with h
   subst h;exact an6 b E A g k m l
  .rename_i E A d;obtain⟨rfl,g⟩:=ar d;split at h
   .rename_i y;injection h with h
    subst h;exact YG b E y A g k m l
   .rename_i y;injection h with h
    subst h;exact Wp b E y A g k m l
   .cases h
  .rename_i E A d;obtain⟨rfl,g⟩:=ar d;split at h
   .rename_i y;injection h with h
    subst h;exact S8 b E A y g k m l
   .cases h
  .rename_i E A d;obtain⟨rfl,g⟩:=ar d;split at h
   .rename_i y;split at h
    .rename_i M;subst M;injection h with h
     subst h;exact ao0 b A y g k m l
    .cases h
   .cases h
  .cases h
 .rename_i b;split at h
  .rename_i p d;obtain⟨rfl,g⟩:=ar d;injection h with h
   subst h;exact YD b p g k m l
  .cases h
 .rename_i b;obtain⟨x,d,h⟩:=Option.map_eq_some_iff.1 h;obtain⟨rfl,g⟩:=ar d;subst h;exact ao3 b g k m l
 .rename_i b;split at h
  .rename_i K d;injection h with h
   subst h;exact Wn b K d k m l
  .cases h
 .rename_i b;split at h
  .rename_i p;split at h
   .rename_i r H z d s;obtain⟨rfl,g⟩:=ar d;obtain⟨rfl,u⟩:=ar s;split at h
    .rename_i q;injection h with h
     subst h;exact O7 b p r H z g u q.1 q.2 k m l
    .cases h
   .cases h
  .cases h
 .rename_i b;split at h
  .rename_i p d s C;obtain⟨rfl,g⟩:=ar d;obtain⟨rfl,u⟩:=xw s;obtain⟨rfl,F⟩:=xw C;obtain⟨n,r,h⟩:=Option.map_eq_some_iff.1 h;subst h;exact YE b p r g u F k m l
  .rename_i p d s C;obtain⟨rfl,g⟩:=ar d;obtain⟨rfl,u⟩:=xw s;obtain⟨rfl,F⟩:=xw C;injection h with h
   subst h;exact QS b p g u F k m l
  .rename_i p d s C;obtain⟨rfl,g⟩:=ar d;obtain⟨rfl,u⟩:=xw s;obtain⟨rfl,F⟩:=xw C;obtain⟨n,r,h⟩:=Option.map_eq_some_iff.1 h;subst h;exact QR b p r g u F k m l
  .cases h
 .rename_i b;split at h
  .rename_i p d;obtain⟨rfl,g⟩:=ar d;split at h
   .rename_i L;split at h
    .rename_i r;split at h
     .cases h
     .rename_i K;injection h with h
      subst h;exact aD9 b p L r K g k m l
    .cases h
   .cases h
  .cases h
 .rename_i b;split at h
  .rename_i p d;obtain⟨rfl,g⟩:=ar d;split at h
   .rename_i L;split at h
    .rename_i r H;injection h with h
     subst h;exact Wk b p L r H g k m l
    .cases h
   .cases h
  .cases h
 .rename_i b;split at h
  .rename_i p d s;obtain⟨rfl,g⟩:=ar d;obtain⟨rfl,u⟩:=ar s;obtain⟨n,r,h⟩:=Option.map_eq_some_iff.1 h;subst h;exact aD7 b p r g u k m l
  .rename_i p d s;obtain⟨rfl,g⟩:=ar d;obtain⟨rfl,u⟩:=ar s;obtain⟨n,r,h⟩:=Option.map_eq_some_iff.1 h;subst h;exact an7 b p r g u k m l
  .cases h
 .rename_i b;split at h
  .rename_i p d s;obtain⟨rfl,g⟩:=ar d;obtain⟨rfl,u⟩:=ar s;split at h
   .rename_i r H;injection h with h
    subst h;exact Wm b p r H g u k m l
   .cases h
  .rename_i p d s;obtain⟨rfl,g⟩:=ar d;obtain⟨rfl,u⟩:=ar s;injection h with h
   subst h;exact Wl b p g u k m l
  .cases h
 .rename_i b;split at h
  .rename_i p d s C;obtain⟨rfl,g⟩:=ar d;obtain⟨rfl,u⟩:=ar s;obtain⟨rfl,F⟩:=ar C;split at h
   .rename_i r;injection h with h
    subst h;obtain⟨n,r⟩:=Option.isSome_iff_exists.1 r;exact Wo b p r g u F k m l
   .cases h
  .cases h
 .rename_i b;obtain⟨x,d,h⟩:=Option.map_eq_some_iff.1 h;obtain⟨rfl,g⟩:=ar d;subst h;exact S7 b g k m l
 .rename_i b;exact WR b h S k m l
 .injection h with h
  subst h;cases k
 .injection h with h
  subst h;cases k
 .cases h
end
end
section
open Result renaming andThen_ok -> aB
open Sem renaming run_bind -> aD, run_pure -> bB
open Go.RowKit
def Py (ops:Array Oper):Option (Nat×Bool)->Option (Option (Nat×Bool))
 |none=>O Y
 |some (j,b)=>match(ops[j]?).bind (·.dst)with
  |some t=>O (O (t,b))
  |none=>Y
def XO (N:Nat):Option Nat->Bool
 |none=>Za
 |some d=>d<N
def Iv (P:Program)(N:Nat)(ops:Array Oper)(o:Oper):Option AOper:=match RK P o,Py ops o.guard with
 |some op,O g=>if XO N o.dst then O ⟨o.dst,op,g⟩else Y
 |_,_=>Y
def Ho (P:Program)(N:Nat)(ops:Array Oper):List Oper->Option (List AOper)
 |[]=>O []
 |o::r=>match Iv P N ops o,Ho P N ops r with
  |some x,O l=>O (x::l)
  |_,_=>Y
def N2 (P:Program)(f:FuncId):Prop:= ∃b,P.funcs[f]?=O b/\b.body.isSome=Za/\(b.name== "runtime.NumGoroutine")=Zb
def aI5 (P:Program)(B:Base P)(μ:Mu)(w:World)(K:Value->Hp->Prop):Ending->World->Prop:=λx g=>
 ∃r Z' d b,x= .returned d/\K r Z'/\μ.le b/\R B b Z' g/\VR b r d/\Below B w g/\P=P
def CA (P:Program)(f:FuncId)(S:HE):Prop:=
 ∀(B:Base P) μ Z w args (b:Array Value) K,S args Z K->R B μ Z w->F2 (VR μ) args b.toList->N2 P f/\Calls P f b w (aI5 P B μ w K)
def CH :Nat:=1000000
def xd :AExit->Exit->Prop
 | .normal, .normal=>True
 | .exit i, .exit j=>i=j/\j<CH
 | .exit i, .goto l=>i=CH+2*l
 | .ret, .ret=>True
 |_,_=>False
def qv {P:Program}(B:Base P)(N:Nat)(μ:Mu)(w:World)(Q:AExit->cf->Hp->Prop):Exit->Act->World->Prop:=λx d h=>
 ∃g e' Z' b,xd g x/\Q g e' Z'/\μ.le b/\R B b Z' h/\eU b N e' d.tmps/\d.defers=[]/\Below B w h
section
variable {P:Program} {T:fM} {o:Oper} {a:Act} {w:World} {B:Base P} {N:Nat} {μ:Mu} {e:cf} {Z Z':Hp} {v:Value}
theorem qv.trans {k:Mu}{w':World}{Q:AExit->cf->Hp->Prop}(z:μ.le k)(y:Below B w w'){g:Act}{b:World}(h:qv B N k w' Q x g b):qv B N μ w Q x g b:=by
 obtain⟨l,e',Z',d,m,n,p,q,r,s,u⟩:=h;exact⟨l,e',Z',d,m,n,Mu.le_trans z p,q,r,s,y.trans u⟩
theorem NP {ops:Array Oper}{g:Option (Nat×Bool)}(d:Py ops o.guard=O g)(q:eU μ N e a.tmps):Region.wanted o (yielded ops a.tmps)=wanted ⟨o.dst,op,g⟩ e:=by
 unfold Py at d;unfold Region.wanted wanted;split at d
 .rename_i h;injection d with d
  subst d;simp[h]
 .rename_i j l h;split at d
  .rename_i t r;injection d with d
   subst d;simp only[h];have n:=q.2 t;unfold yielded;rw[r];simp only[zG];by_cases k:t<a.tmps.size
   .have m:a.tmps[t]?=O (a.tmps.getD t undef):=by simp[k]
    rw[m];generalize a.tmps.getD t undef=u at*;generalize e t=s at*;cases n<;>simp
    try(rename_i b;cases b<;>cases l<;>rfl)
   .have m:a.tmps[t]?=Y:=Array.getElem?_eq_none (Nat.le_of_not_lt k);have p:a.tmps.getD t undef=undef:=by simp[m]
    rw[p]at n;rw[m];generalize e t=u at*;cases n;simp
  .cases d
theorem eU.putO (h:eU μ N e a.tmps){d:Option Nat}(b:XO N d=Za){v':Value}(g:VR μ v v'):eU μ N (e.putO d v) (a.put d v').tmps:=by
 cases d with
 |none=>exact h
 |some d=>exact h.put d (by simpa[XO]using b) g
theorem uv (d:Option Nat)(v':Value):(a.put d v').defers=a.defers:=by cases d<;>rfl
theorem M9 (h:N2 P f)(args:Array Value)(w:World):(callFunc f args).run P w= .ok (.enter f args) w:=by
 obtain⟨b,d,g,k⟩:=h;have l:b.body.isNone=Zb:=by cases m:b.body<;>simp[m]at g⊢
 simp only[callFunc,aD,run_program,aB,d,k,l,Bool.false_eq_true,if_false,bB]
theorem VR.func_inv {f:Fn}{x y:Array Value}{v':Value}(h:VR μ (.func f x y) v'): ∃b d,v'= .func f b d/\F2 (VR μ) x.toList b.toList/\F2 (VR μ) y.toList d.toList:=by
 cases h with
 |func g k=>exact⟨_,_,rfl,g,k⟩
theorem WS (h:RK P o=O (.call f args)): ∃c,o.op= .call c/\Cn P c=O (.call f args):=by
 unfold RK at h;split at h
 all_goals first
  |exact⟨_,‹_›,h⟩
  |(exfalso;revert h;unfold RH;(repeat' split)<;>simp)
  |(exfalso;revert h;(repeat' split)<;>simp)
theorem TA {f:Operand}(h:RK P o=O (.callv f args)): ∃c,o.op= .call c/\Cn P c=O (.callv f args):=by
 unfold RK at h;split at h
 all_goals first
  |exact⟨_,‹_›,h⟩
  |(exfalso;revert h;unfold RH;(repeat' split)<;>simp)
  |(exfalso;revert h;(repeat' split)<;>simp)
theorem RI (h:Cn P c=O (.call f args)):c.callee= .value (.func f)/\JJ c.args.toList=O args:=by
 unfold Cn at h;split at h
 .rename_i d;split at h
  .simp at h;obtain⟨b,rfl⟩:=h;exact⟨d,b⟩
  .cases h
 all_goals (exfalso;revert h;(repeat' split)<;>simp)
theorem Px {f:Operand}(h:Cn P c=O (.callv f args)):c.callee= .value f/\co f=Za/\JJ c.args.toList=O args:=by
 unfold Cn at h;split at h
 .exfalso;revert h;split<;>simp
 .rename_i d;simp at h;obtain⟨b,rfl⟩:=h;exact⟨d,rfl,b⟩
 all_goals (exfalso;revert h;(repeat' split)<;>simp)
theorem TW (m: ∀f,CA P f (T f)){args:List Value}{cargs:Array Value}{k:Value->Hp->Prop}(q:T f args Z k)(l:R B μ Z w)(n:F2 (VR μ) args cargs.toList)
  (b:N2 P f->(execOp a.eval o).run P w= .ok (.enter f cargs) w) {next:Act->World->Prop} {Q:Exit->Act->World->Prop}
  (p: ∀v Z' v' d w',k v Z'->μ.le d->R B d Z' w'->VR d v v'->Below B w w'->next (a.put o.dst v') w'):o.wp P a w next Q:=by
 obtain⟨g,h⟩:=m f B μ Z w args cargs k q l n;unfold Oper.wp;rw[b g];simp only[Oper.upon];refine h.mono λx w' s=> ?_
 obtain⟨r,Z',E,d,rfl,u,y,z,A,C,_⟩:=s;exact p r Z' E d w' u y z A C
theorem LI (K: ∀f,CA P f (T f))(h:RK P o=O op){k:Value->Hp->Prop}(d:bu T op e Z k)(u:eU μ N e a.tmps)(z:R B μ Z w)
  {next:Act->World->Prop} {Q:Exit->Act->World->Prop}
  (y: ∀v Z' v' n w',k v Z'->μ.le n->R B n Z' w'->VR n v v'->Below B w w'->next (a.put o.dst v') w'):o.wp P a w next Q:=by
 by_cases C:op.isCall=Za
 .cases op<;>simp[AOp.isCall]at C
  case call f args=>
   obtain⟨c,E,p⟩:=WS h;obtain⟨q,m⟩:=RI p;have A:=GJ u m;simp only[bu]at d;refine TW (cargs:=c.args.map a.eval) K d z (by simpa using A) (λb=> ?_) y;simp only[execOp,E,resolve,q,aD,Act.eval,Deferred.ofValue,bB,aB,invoke];simp[M9 b]
  case callv f args=>
   obtain⟨c,E,p⟩:=TA h;obtain⟨q,s,m⟩:=Px p;have A:=GJ u m;have L:=u.ev s;simp only[bu]at d;split at d
   .rename_i g first l V
    rw[V]at L;obtain⟨W,X,M,S,U⟩:=L.func_inv;refine TW (cargs:=W++c.args.map a.eval++X) K d z (by simpa using(S.append A).append U) (λb=> ?_) y;simp only[execOp,E,resolve,q,M,aD,Deferred.ofValue,bB,aB,invoke];simp[M9 b]
   .exact d.elim
 .have F: ∃v Z',op.run e Z=O (v,Z')/\k v Z':=by
   unfold bu at d;cases op<;>simp[AOp.isCall]at C<;>simp only at d
   all_goals
    split at d
    .rename_i v Z' H;exact⟨v,Z',H,d⟩
    .exact d.elim
  obtain⟨v,Z',H,r⟩:=F;obtain⟨nx,w',n,v',p,q,m,s,I,J⟩:=ar8 h (by simpa using C) H u z;unfold Oper.wp;rw[p];rcases q with rfl|⟨rfl,rfl⟩
  .exact y v Z' v' n w' r m s I J
  .exact y v Z' undef n w' r m s I J
theorem Pb (z: ∀f,CA P f (T f)){ops:Array Oper}{Q:AExit->cf->Hp->Prop}{I:Mu}{H:World}: ∀(l:List Oper) (al:List AOper) (e:cf) (Z:Hp) (μ:Mu) (a:Act) (w:World),Ho P N ops l=O al->yF T (Q .normal) al e Z->
  R B μ Z w->eU μ N e a.tmps->a.defers=[]->I.le μ->Below B H w->wpList P ops (qv B N I H Q) l a w
 |[],al,e,Z,μ,a,w,h,m,s,p,u,d,b=>by
  simp[Ho]at h;subst h;exact⟨.normal,e,Z,μ,trivial,m,d,s,p,u,b⟩
 |o::l,al,e,Z,μ,a,w,h,m,s,p,u,d,b=>by
  simp only[Ho]at h;split at h
  .rename_i x r k C;injection h with h
   subst h;unfold Iv at k;split at k
   .rename_i op g J K;split at k
    .rename_i E;injection k with k
     subst k;have n:=NP (op:=op) K p;unfold wpList;simp only[yF]at m;rw[n];split
     .rename_i A;rw[zE A]at m;left;refine LI z J m p s λv Z' S V U L F y M q=> ?_
      exact Pb z l r _ Z' V (a.put o.dst S) U C L y ((p.mono F).putO E M) (by rw[uv];exact u) (Mu.le_trans d F) (b.trans q)
     .rename_i A;rw[zF A]at m;exact Pb z l r _ Z μ (a.put o.dst undef) w C m s (p.putO E (VR.undef μ)) (by rw[uv];exact u) d b
    .cases k
   .cases k
  .cases h
end
end
section
open List renaming map_congr_left -> aB, mem_append -> aD
open Go.RowKit
def mL :Operand->List Nat
 | .tmp t=>[t]
 |_=>[]
def ab3 :Option Operand->List Nat
 |some x=>mL x
 |none=>[]
def AOp.reads :AOp->List Nat
 | .move x| .box _ x| .load x| .loadN _ x| .nilCheck x| .un _ x| .conv _ x| .off _ x| .fieldV _ _ _ x| .extract x _| .len x| .lenS x| .capN x| .range x| .next x| .encR x| .mark x| .strOf x| .strOfR x| .runesOf x=>mL x
 | .pick c a b| .sliceX c a b=>mL c++mL a++mL b
 | .alloc _ _| .lenC _| .stuck| .newB=>[]
 | .build _ k| .buildSlice _ _ _ k=>k.flatMap λp=>mL p.2.2
 | .store _ a x=>mL a++mL x
 | .bin _ x y| .eqv _ _ x y| .eqCells _ _ x y| .idx _ x y| .idxA _ _ x y| .indexV _ _ _ x y| .indexS x y| .append _ _ x y| .appendZ _ _ _ x y| .copy _ x y| .most x y| .least x y| .makeSlice _ _ _ x y=>mL x++mL y
 | .mkFunc _ d l=>d.flatMap mL++l.flatMap mL
 | .slice _ x h g| .sliceStr x h g| .sliceArr _ _ x h g=>mL x++ab3 h++ab3 g
 | .call _ d=>d.flatMap mL
 | .callv f d=>mL f++d.flatMap mL
theorem bc {x:Operand}(h: ∀t∈mL x,e t=e' t):e.ev x=e'.ev x:=by
 cases x<;>first|rfl|exact h _ (by simp[mL])
theorem xo {x:Option Operand}(h: ∀t∈ab3 x,e t=e' t):x.map e.ev=x.map e'.ev:=by
 cases x with
 |none=>rfl
 |some x=>simp only[Option.map_some];rw[bc h]
theorem EE {b:List Operand}(h: ∀t∈b.flatMap mL,e t=e' t):b.map e.ev=b.map e'.ev:=by
 apply aB;intro x g;exact bc λt d=>h t (List.mem_flatMap.2 ⟨x,g,d⟩)
theorem Nb {b:List (Nat×Nat×Operand)}(h: ∀t∈b.flatMap (λp=>mL p.2.2),e t=e' t):(b.map λ(o,s,x)=>(o,s,e.ev x))=b.map λ(o,s,x)=>(o,s,e'.ev x):=by
 apply aB;rintro⟨o,s,x⟩ g;simp only;rw[bc λt d=>h t (List.mem_flatMap.2 ⟨_,g,d⟩)]
theorem Bd (h: ∀t∈op.reads,e t=e' t):op.run e Z=op.run e' Z:=by
 cases op<;>simp only[AOp.reads,aD]at h<;>simp only[AOp.run]
 case move x=>rw[bc h]
 case pick c a b=>rw[bc λt g=>h t (.inl (.inl g)),bc λt g=>h t (.inl (.inr g)),bc λt g=>h t (.inr g)]
 case box es x=>rw[bc h]
 case build z ps=>rw[Nb h]
 case buildSlice es ln z ps=>rw[Nb h]
 case load x=>rw[bc h]
 case loadN n x=>rw[bc h]
 case store n a x=>rw[bc λt g=>h t (.inl g),bc λt g=>h t (.inr g)]
 case nilCheck x=>rw[bc h]
 case bin op x y=>rw[bc λt g=>h t (.inl g),bc λt g=>h t (.inr g)]
 case eqv kd neg x y=>rw[bc λt g=>h t (.inl g),bc λt g=>h t (.inr g)]
 case eqCells neg ks x y=>rw[bc λt g=>h t (.inl g),bc λt g=>h t (.inr g)]
 case un op x=>rw[bc h]
 case conv k x=>rw[bc h]
 case mkFunc f xs cs=>rw[EE λt g=>h t (.inl g),EE λt g=>h t (.inr g)]
 case makeSlice es by_ z l c=>rw[bc λt g=>h t (.inl g),bc λt g=>h t (.inr g)]
 case slice es x lo hi=>rw[bc λt g=>h t (.inl (.inl g)),xo λt g=>h t (.inl (.inr g)),xo λt g=>h t (.inr g)]
 case sliceStr x lo hi=>rw[bc λt g=>h t (.inl (.inl g)),xo λt g=>h t (.inl (.inr g)),xo λt g=>h t (.inr g)]
 case sliceArr es n x lo hi=>rw[bc λt g=>h t (.inl (.inl g)),xo λt g=>h t (.inl (.inr g)),xo λt g=>h t (.inr g)]
 case off n x=>rw[bc h]
 case idx es x i=>rw[bc λt g=>h t (.inl g),bc λt g=>h t (.inr g)]
 case idxA ln es x i=>rw[bc λt g=>h t (.inl g),bc λt g=>h t (.inr g)]
 case fieldV fo n agg x=>rw[bc h]
 case indexV ln es agg x i=>rw[bc λt g=>h t (.inl g),bc λt g=>h t (.inr g)]
 case indexS x i=>rw[bc λt g=>h t (.inl g),bc λt g=>h t (.inr g)]
 case extract x i=>rw[bc h]
 case append es by_ s x=>rw[bc λt g=>h t (.inl g),bc λt g=>h t (.inr g)]
 case appendZ es by_ z s x=>rw[bc λt g=>h t (.inl g),bc λt g=>h t (.inr g)]
 case copy es d s=>rw[bc λt g=>h t (.inl g),bc λt g=>h t (.inr g)]
 case len x=>rw[bc h]
 case lenS x=>rw[bc h]
 case capN x=>rw[bc h]
 case range x=>rw[bc h]
 case next x=>rw[bc h]
 case encR x=>rw[bc h]
 case strOf x=>rw[bc h]
 case strOfR x=>rw[bc h]
 case runesOf x=>rw[bc h]
 case mark x=>rw[bc h]
 case sliceX c a b=>rw[bc λt g=>h t (.inl (.inl g)),bc λt g=>h t (.inl (.inr g)),bc λt g=>h t (.inr g)]
 case most x y=>rw[bc λt g=>h t (.inl g),bc λt g=>h t (.inr g)]
 case least x y=>rw[bc λt g=>h t (.inl g),bc λt g=>h t (.inr g)]
theorem Rj {T:fM}{k:Value->Hp->Prop}(h: ∀t∈op.reads,e t=e' t)(b:bu T op e Z k):bu T op e' Z k:=by
 by_cases g:op.isCall=Za
 .cases op<;>simp[AOp.isCall]at g
  case call f xs=>
   simp only[bu,AOp.reads]at*;rw[<-EE h];exact b
  case callv f xs=>
   simp only[bu,AOp.reads,aD]at*;rw[<-EE λt d=>h t (.inr d),<-bc λt d=>h t (.inl d)];exact b
 .unfold bu at*;cases op<;>simp[AOp.isCall]at g<;>simp only at b⊢ <;>rw[<-Bd h]<;>exact b
def AOper.looks (o:AOper):List Nat:=o.op.reads++(match o.guard with|some (t,_)=>[t]|none=>[])
theorem Co {o:AOper}(h: ∀t∈o.looks,e t=e' t):wanted o e=wanted o e':=by
 unfold wanted;unfold AOper.looks at h;cases b:o.guard with
 |none=>rfl
 |some g=>
  rw[b]at h;have:=h g.1 (by simp);simp only[this]
theorem uy {Z':Hp}(b:op.still=Za)(h:op.run e Z=O (v,Z')):Z'=Z:=by
 cases op<;>simp[AOp.still]at b<;>simp only[AOp.run]at h
 all_goals
  revert h
  repeat' split
  all_goals first
   |(intro h;cases h;done)
   |(intro h;simp only[Option.some.injEq,Prod.mk.injEq]at h;exact h.2.symm)
   |(intro h;obtain⟨_,_,h⟩:=Option.map_eq_some_iff.1 h;simp only[Prod.mk.injEq]at h;exact h.2.symm)
theorem NI (d:op.still=Za)(b:op.isLoad=Zb)(h:op.run e Z=O (v,Z))(Z':Hp):op.run e Z'=O (v,Z'):=by
 cases op<;>simp[AOp.still]at d
 case slice es x lo hi=>
  cases lo with
  |some _=>simp[AOp.isLoad]at b
  |none=>
   simp only[AOp.run,Au,Bool.or_true,if_true]at h⊢;revert h
   repeat' split
   all_goals first
    |(intro h;cases h;done)
    |(intro h;simp only[Option.some.injEq,Prod.mk.injEq]at h⊢;exact⟨h.1,trivial⟩)
    |simp_all
 all_goals first
  |(simp[AOp.isLoad]at b;done)
  |(simp only[AOp.run]at h⊢
    revert h
    repeat' split
    all_goals first
     |(intro h;cases h;done)
     |(intro h;simp only[Option.some.injEq,Prod.mk.injEq]at h⊢;exact⟨h.1,trivial⟩)
     |(intro h;obtain⟨u,g,h⟩:=Option.map_eq_some_iff.1 h;simp only[Prod.mk.injEq]at h;rw[g];simp[h.1]))
end
section
open Bool renaming and_eq_true -> bB, not_eq_true' -> cM
open List renaming mem_cons_of_mem -> aB, mem_cons_self -> aD, range -> bD, find?_some -> cB, getD_eq_getElem?_getD -> cD, getElem?_eq_none -> cK, all_eq_true -> cN, mem_of_find?_eq_some -> cO
open Nat renaming lt_or_ge -> cL
open Go.RowKit
theorem VU {b:Array Bool}(h:b.getD i Za=Zb):b.getD i Zb=Zb:=by
 rcases cL i b.size with h'|h'
 .simp[h']at h⊢;exact h
 .simp[Array.getElem?_eq_none h']at h
theorem ai9 {b:Array Bool}(d:i<b.size)(h:b.getD i Zb=Zb):b.getD i Za=Zb:=by
 simp[d]at h⊢;exact h
abbrev DL :=List (AOper×List Nat)
def mH (al:DL)(i:Nat):Option Nat:=(al[i]?).bind (·.1.dst)
def EN (al:DL)(i:Nat):List Nat:=match al[i]? with
 |some (o,_)=>o.looks
 |none=>[]
def B2 (al:DL):Bool:=
 (bD al.length).all λi=>
  (gV al i).all (λq=>Zc (q<i))&&
  (match mH al i with
   |none=>Za
   |some t=>(bD al.length).all λj=>i==j||((mH al j !=O t)&&(!(EN al j).contains t||sZ al i j||sZ al j i)))
section
variable {al:DL}
theorem Qe (h:B2 al=Za){q:Nat}(b:i<al.length)(d:q∈gV al i):q<i:=by
 have:=List.all_eq_true.1 h i (List.mem_range.2 b);simp only[bB,cN,decide_eq_true_eq]at this;exact this.1 q d
theorem AX (h:mH al i=O t):i<al.length:=by
 unfold mH at h;rcases cL i al.length with h1|h1
 .exact h1
 .simp[cK h1]at h
theorem SE (h:B2 al=Za)(b:mH al i=O t)(d:mH al j=O t):i=j:=by
 have:=List.all_eq_true.1 h i (List.mem_range.2 (AX b));simp only[bB,b]at this;have:=List.all_eq_true.1 this.2 j (List.mem_range.2 (AX d));by_cases e:i=j
 .exact e
 .simp[d,e]at this
theorem SD (h:B2 al=Za)(g:mH al i=O t)(b:j<al.length)(k:t∈EN al j)(d:i≠j):sZ al i j=Za∨sZ al j i=Za:=by
 have:=List.all_eq_true.1 h i (List.mem_range.2 (AX g));simp only[bB,g]at this;have:=List.all_eq_true.1 this.2 j (List.mem_range.2 b);simp[d,k]at this;exact this.2
def zQ (al:DL)(D:List Nat):Prop:= ∀i∈D,∀q∈gV al i,q∈D
theorem SS {acc b:List Nat}{p:Nat}(h:(FX acc b).testBit p=Za): ∃q∈b,q=p∨(acc.getD q 0).testBit p=Za:=by
 have d: ∀(b:List Nat) (m:Nat),(b.foldl (λm q=>m|||2 ^ q|||acc.getD q 0) m).testBit p=Za->m.testBit p=Za∨∃q∈b,q=p∨(acc.getD q 0).testBit p=Za:=by
  intro b;induction b with
  |nil=>intro m h;exact .inl h
  |cons q b k=>
   intro m h;rcases k _ h with h1|⟨l,h1,g⟩
   .simp only[Nat.testBit_or,Nat.testBit_two_pow,Bool.or_eq_true,decide_eq_true_eq]at h1;rcases h1 with(h1|h1)|h1
    .exact .inl h1
    .exact .inr ⟨q,aD .., .inl h1⟩
    .exact .inr ⟨q,aD .., .inr h1⟩
   .exact .inr ⟨l,aB _ h1,g⟩
 rcases d b 0 h with h1|h1
 .simp at h1
 .exact h1
theorem Lm {d:DL}: ∀(r pre:DL) (acc:List Nat),pre++r=d->acc.length=pre.length->
  (∀j p,(acc.getD j 0).testBit p=Za->∃q∈gV d j,q=p∨(q<j/\(acc.getD q 0).testBit p=Za))->
  ∀j p,((QH acc r).getD j 0).testBit p=Za->∃q∈gV d j,q=p∨(q<j/\((QH acc r).getD q 0).testBit p=Za)
 |[],pre,acc,_,_,h=>h
 |(o,g)::r,pre,acc,z,A,h=>by
  simp only[QH];refine Lm r (pre++[(o,g)]) (acc++[FX acc g]) (by rw[List.append_assoc];exact z) (by simp[A]) λj p k=> ?_
  have y:gV d acc.length=g:=by
   unfold gV;rw[<-z,A,List.getElem?_append_right (Nat.le_refl _)];simp
  have b: ∀q,q<acc.length->(acc++[FX acc g]).getD q 0=acc.getD q 0:=by
   intro q m;simp only[cD];rw[List.getElem?_append_left m]
  by_cases C:j<acc.length
  .rw[b j C]at k;obtain⟨q,n,s⟩:=h j p k;refine⟨q,n,s.imp id λ⟨u,l⟩=>⟨u, ?_⟩⟩;rw[b q (by omega)];exact l
  .by_cases n:j=acc.length
   .subst n;have:(acc++[FX acc g]).getD acc.length 0=FX acc g:=by simp
    rw[this]at k;obtain⟨q,s,u⟩:=SS k;refine⟨q,by rw[y];exact s,u.imp id λl=> ?_⟩
    have m:q<acc.length:=by
     rcases cL q acc.length with h6|h6
     .exact h6
     .simp[cD,cK h6]at l
    exact⟨m,by rw[b q m];exact l⟩
   .have:(acc++[FX acc g]).getD j 0=0:=by
     simp only[cD];rw[cK (by simp;omega)];rfl
    rw[this]at k;simp at k
theorem Vr {p:Nat}(h:sZ al p j=Za): ∃q∈gV al j,q=p∨(q<j/\sZ al p q=Za):=
 Lm al [] [] rfl rfl (λj p h=>by simp at h) j p h
theorem zQ.bef (h:zQ al D): ∀(p j:Nat),sZ al p j=Za->(∀q∈gV al j,q∈D)->p∈D:=by
 intro p j;induction j using Nat.strongRecOn with
 |_ j l=>
  intro b g;obtain⟨q,k,rfl|⟨d,b⟩⟩:=Vr b
  .exact g q k
  .exact l q d b (h q (g q k))
def ip (al:DL)(e0:cf)(b:Nat->Value)(D:List Nat):cf:=λt=>match D.find? (λi=>mH al i==O t)with
 |some i=>b i
 |none=>e0 t
theorem qy {e0:cf}{b:Nat->Value}(h:B2 al=Za)(k:i∈D)(d:mH al i=O t):ip al e0 b D t=b i:=by
 unfold ip;cases g:D.find? (λi=>mH al i==O t)with
 |none=>
  have:=List.find?_eq_none.1 g i k;simp[d]at this
 |some j=>
  have:=cB g;simp only[beq_iff_eq]at this;rw[SE h this d]
theorem od {e0:cf}{b:Nat->Value}(h: ∀i∈D,mH al i≠O t):ip al e0 b D t=e0 t:=by
 unfold ip;have:D.find? (λi=>mH al i==O t)=Y:=List.find?_eq_none.2 λi d=>by simpa using h i d
 rw[this]
theorem yo {e0:cf}{k:Nat->Value}(h:B2 al=Za)(i:Nat)(n:i∉D):ip al e0 k (i::D)=(ip al e0 k D).putO (mH al i) (k i):=by
 funext t
 cases l:mH al i with
 |none=>
  simp only[cf.putO];by_cases g: ∃j∈D,mH al j=O t
  .obtain⟨j,hj,b⟩:=g;rw[qy h (aB _ hj) b,qy h hj b]
  .rw[od (λj hj b=>g ⟨j,hj,b⟩)];refine od λj hj b=> ?_
   rcases List.mem_cons.1 hj with rfl|hj
   .rw[l]at b;cases b
   .exact g ⟨j,hj,b⟩
 |some d=>
  simp only[cf.putO,cf.put];split
  .rename_i m;subst m;exact qy h (aD ..) l
  .rename_i m;by_cases g: ∃j∈D,mH al j=O t
   .obtain⟨j,hj,b⟩:=g;rw[qy h (aB _ hj) b,qy h hj b]
   .rw[od (λj hj b=>g ⟨j,hj,b⟩)];refine od λj hj b=> ?_
    rcases List.mem_cons.1 hj with rfl|hj
    .rw[l]at b;exact m (Option.some.inj b).symm
    .exact g ⟨j,hj,b⟩
def D9 (al:DL)(e0:cf)(b:Nat->Value)(j:Nat):cf:=λt=>match(bD al.length).find? (λi=>mH al i==O t&&sZ al i j)with
 |some i=>b i
 |none=>e0 t
theorem Pn {e0:cf}{d:Nat->Value}(h:B2 al=Za)(g:zQ al D)(k:j<al.length)(r:j∉D)(s: ∀q∈gV al j,q∈D)(u:t∈EN al j):
  ip al e0 d D t=D9 al e0 d j t:=by
 unfold D9;cases n:(bD al.length).find? (λi=>mH al i==O t&&sZ al i j)with
 |some i=>
  have:=cB n;simp only[bB,beq_iff_eq]at this;exact qy h (g.bef _ _ this.2 s) this.1
 |none=>
  refine od λi p b=> ?_
  have m:=List.find?_eq_none.1 n i (List.mem_range.2 (AX b));simp only[b,beq_self_eq_true,Bool.true_and]at m;have l:i≠j:=λe=>r (e▸p)
  rcases SD h b k u l with hb|hb
  .exact m hb
  .exact r (g.bef _ _ hb (g i p))
theorem Y3 {e0:cf}{d b:Nat->Value}(g:zQ al D)(k:j∈D)(l: ∀i∈D,b i=d i):D9 al e0 b j=D9 al e0 d j:=by
 funext t
 unfold D9;cases h:(bD al.length).find? (λi=>mH al i==O t&&sZ al i j)with
 |none=>rfl
 |some i=>
  have:=cB h;simp only[bB,beq_iff_eq]at this;exact l i (g.bef _ _ this.2 (g j k))
theorem ED {e0:cf}{d b:Nat->Value}(h: ∀i∈D,b i=d i):ip al e0 b D=ip al e0 d D:=by
 funext t
 unfold ip;cases g:D.find? (λi=>mH al i==O t)with
 |none=>rfl
 |some i=>exact h i (cO g)
def left (n:Nat)(D:List Nat):Nat:=((bD n).filter λi=> !D.contains i).length
theorem Ia {n:Nat}(d:i<n)(b:i∉D):left n (i::D)<left n D:=by
 unfold left
 have:(bD n).filter (λj=> !(i::D).contains j)=((bD n).filter λj=> !D.contains j).filter λj=>j !=i:=by
  rw[List.filter_filter];apply List.filter_congr;intro j _;simp only[List.contains_cons,Bool.not_or];rfl
 rw[this];refine List.length_filter_lt_length_iff_exists.2 ⟨i, ?_,by simp⟩;simp[d,b]
theorem Ib {n:Nat}(h:left n D=0)(b:i<n):i∈D:=by
 unfold left at h;have:=List.eq_nil_of_length_eq_zero h;rw[List.filter_eq_nil_iff]at this;have:=this i (List.mem_range.2 b);simpa using this
theorem Ya {n:Nat}(d:i<n)(b:i∉D):0<left n D:=by
 rcases Nat.eq_zero_or_pos (left n D)with h|h
 .exact absurd (Ib h d) b
 .exact h
end
section
variable {P:Program} {T:fM} {al:DL} {ops:Array Oper} {B:Base P} {N:Nat}
structure Fits (P:Program)(N:Nat)(ops:Array Oper)(al:DL):Prop where
 len:ops.size=al.length
 op: ∀(i:Nat) o,ops[i]?=O o->∃x,al[i]?=O (x,gV al i)/\Iv P N ops o=O x
 pred: ∀(i:Nat) o,ops[i]?=O o->∀q,q∈gV al i↔∃e∈o.after,Region.binds .any e=Za/\e.on=q
def IL (al:DL)(e0:cf)(b:Nat->Value)(Z:Hp)(d:List (Nat×(Hp->Prop)))(j:Nat):Prop:=
 ∃x p,al[j]?=O (x,p)/\x.op.still=Za/\
  ((wanted x (D9 al e0 b j)=Za/\x.op.run (D9 al e0 b j) Z=O (b j,Z)/\
   (x.op.isLoad=Za->∃c,(j,c)∈d/\∀Z',c Z'->x.op.run (D9 al e0 b j) Z'=O (b j,Z')))∨
   (wanted x (D9 al e0 b j)=Zb/\b j=undef))
structure Inv (al:DL)(e0:cf)(val:Nat->Value)(Z:Hp)(chk:List (Nat×(Hp->Prop)))(D L:List Nat):Prop where
 dc:zQ al D
 lc:zQ al L
 sub: ∀i∈L,i∈D
 lt: ∀i∈D,i<al.length
 tells: ∀j∈D,j∉L->IL al e0 val Z chk j
theorem FZ {D:List Nat}{i:Nat}:Pg al D i=Za↔i∉D/\∀q∈gV al i,q∈D:=by
 unfold Pg;simp only[bB,cM,cN,List.contains_iff_mem];constructor
 .rintro⟨b,d⟩;exact⟨λh=>by simp[h]at b,d⟩
 .rintro⟨b,d⟩;exact⟨by simpa using b,d⟩
theorem yy {D:List Nat}{i:Nat}(h:dx al D=O i):i<al.length/\i∉D/\(∀q∈gV al i,q∈D)/\Cl al i=Za:=by
 unfold dx at h;have b:=cB h;have d:=cO h;simp only[bB]at b;obtain⟨g,k⟩:=FZ.1 b.1;exact⟨List.mem_range.1 d,g,k,b.2⟩
theorem Lp {D:List Nat}(h:dx al D=Y){i:Nat}(g:i<al.length)(b:i∉D)(d: ∀q∈gV al i,q∈D):Cl al i=Zb:=by
 unfold dx at h;have:=List.find?_eq_none.1 h i (List.mem_range.2 g);simp only[FZ.2 ⟨b,d⟩,Bool.true_and]at this;simpa using this
theorem yw {D:List Nat}{i:Nat}:i∈bn al D↔i<al.length/\i∉D/\(∀q∈gV al i,q∈D)/\Cl al i=Zb:=by
 unfold bn;simp only[List.mem_filter,List.mem_range,bB,cM,FZ,and_assoc]
theorem PZ {f:Nat->Prop}: ∀{l:List Nat},Kw f l->∀m∈l,f m
 |[],_,m,hm=>by cases hm
 |[x],h,m,hm=>by simp at hm;subst hm;exact h
 |x::y::r,h,m,hm=>by
  rcases List.mem_cons.1 hm with rfl|hm
  .exact h.1
  .exact PZ h.2 m hm
def upd (b:Nat->Value)(i:Nat)(v:Value):Nat->Value:=λk=>if k=i then v else b k
theorem IL.upd {e0:cf}{b:Nat->Value}{d:List (Nat×(Hp->Prop))}{D:List Nat}{i j:Nat}(r:zQ al D)(g:j∈D)(s:i∉D)(h:IL al e0 b Z d j):IL al e0 (upd b i v) Z d j:=by
 obtain⟨x,p,m,n,q⟩:=h;have l: ∀k∈D,Ab.upd b i v k=b k:=λk u=>zF λ(e:k=i)=>s (e▸u)
 have y:=Y3 (e0:=e0) r g l;refine⟨x,p,m,n, ?_⟩;rw[y,l j g];exact q
theorem IL.more {e0:cf}{g:Nat->Value}{d b:List (Nat×(Hp->Prop))}{j:Nat}(h:IL al e0 g Z d j)(n: ∀c∈d,c∈b):IL al e0 g Z b j:=by
 obtain⟨x,p,k,l,m⟩:=h;refine⟨x,p,k,l,m.imp (λ⟨r,s,u⟩=>⟨r,s,λq=> ?_⟩) id⟩;obtain⟨c,y,z⟩:=u q;exact⟨c,n _ y,z⟩
theorem Ow {Q:cf->Hp->Prop}(F:B2 al=Za){e0:cf}{Z:Hp}{L:List Nat}: ∀(f:Nat) (d:Nat->Value) (D:List Nat) (m:List (Nat×(Hp->Prop))) (e:cf),Cq T Q al f D m e Z->left al.length D<=f->e=ip al e0 d D->
  Inv al e0 d Z m D L->∃C g D' b,Cq T Q al C D' b (ip al e0 g D') Z/\left al.length D'<=C/\Inv al e0 g Z b D' L/\dx al D'=Y/\(∀i∈D,g i=d i)/\∀i∈D,i∈D'
 |0,d,D,m,e,h,hf,U,s=>by
  have K: ∀i,i<al.length->i∈D:=λi W=>Ib (by omega) W
  refine⟨0,d,D,m,by rw[<-U];exact h,hf,s, ?_,λ_ _=>rfl,λ_ W=>W⟩;cases J:dx al D with
  |none=>rfl
  |some i=>exact absurd (K i (yy J).1) (yy J).2.1
 |f+1,d,D,m,e,h,hf,U,s=>by
  cases J:dx al D with
  |none=>exact⟨f+1,d,D,m,by rw[<-U];exact h,hf,s,J,λ_ _=>rfl,λ_ W=>W⟩
  |some i=>
   obtain⟨h1,I,h3,h4⟩:=yy J;simp only[Cq,J]at h;split at h
   .rename_i x p hx;have H:x.op.still=Za:=by simpa[Cl,hx]using h4
    have r: ∀t∈x.looks,e t=D9 al e0 d i t:=by
     intro t ht;rw[U];exact Pn F s.dc h1 I h3 (by simpa[EN,hx]using ht)
    have S:mH al i=x.dst:=by simp[mH,hx]
    have E:left al.length (i::D)<=f:=by have:=Ia h1 I;omega
    have hDc:zQ al (i::D):=by
     intro k hk q hq;rcases List.mem_cons.1 hk with rfl|hk
     .exact aB _ (h3 q hq)
     .exact aB _ (s.dc k hk q hq)
    have z: ∀(v:Value) (b:List (Nat×(Hp->Prop))),Cq T Q al f (i::D) b (e.putO x.dst v) Z->(∀c∈m,c∈b)->IL al e0 (upd d i v) Z b i->
      ∃C g D' b,Cq T Q al C D' b (ip al e0 g D') Z/\left al.length D'<=C/\Inv al e0 g Z b D' L/\dx al D'=Y/\(∀i∈D,g i=d i)/\∀i∈D,i∈D':=by
     intro v b hw M ht;have y: ∀k∈D,upd d i v k=d k:=λk hk=>zF λ(e:k=i)=>I (e▸hk)
     have V:e.putO x.dst v=ip al e0 (upd d i v) (i::D):=by
      rw[yo F i I,ED y,S,<-U]
      congr 1
      exact(zE rfl).symm
     obtain⟨C,g,D',A,g1,g2,g3,g4,g5,g6⟩:=Ow F f (upd d i v) (i::D) b _ hw E V ⟨hDc,s.lc,λk hk=>aB _ (s.sub k hk),λk hk=>(List.mem_cons.1 hk).elim (λe=>e▸h1) (s.lt k),λj hj hjL=>by
      rcases List.mem_cons.1 hj with rfl|hj
      .exact ht
      .exact((s.tells j hj hjL).upd s.dc hj I).more M⟩
     exact⟨C,g,D',A,g1,g2,g3,g4,λk hk=>(g5 k (aB _ hk)).trans (y k hk),λk hk=>g6 k (aB _ hk)⟩
    have l: ∀v,D9 al e0 (upd d i v) i=D9 al e0 d i:=by
     intro v
     funext t
     unfold D9;cases hf':(bD al.length).find? (λk=>mH al k==O t&&sZ al k i)with
     |none=>rfl
     |some k=>
      have:=cB hf';simp only[bB,beq_iff_eq]at this;exact zF λ(e:k=i)=>I (e▸s.dc.bef _ _ this.2 h3)
    have hw0:=Co r;have X: ∀Z',x.op.run e Z'=x.op.run (D9 al e0 d i) Z':=λZ'=>Bd λt ht=>r t (by simp[AOper.looks,ht])
    split at h
    .rename_i n;split at h
     .rename_i v Z1 u;obtain rfl:=uy H u;refine z v _ h (λc M=>by split<;>simp[M]) ⟨x,p,hx,H, .inl ⟨by rw[l,<-hw0];exact n,by rw[l,<-X];rw[u];congr 2;exact(zE rfl).symm,λhl=> ?_⟩⟩;refine⟨_,by rw[zE hl];exact aD ..,λZ' hZ'=> ?_⟩;rw[l,<-X,hZ']
      congr 2
      exact(zE rfl).symm
     .exact h.elim
    .rename_i n;exact z undef m h (λc M=>M) ⟨x,p,hx,H, .inr ⟨by rw[l,<-hw0];simpa using n,zE rfl⟩⟩
   .exact h.elim
theorem EM {m:Nat}{Z:Hp}: ∀{g:List (Nat×(Hp->Prop))},A3 al m Z g->∀j c,(j,c)∈g->sZ al j m=Zb->c Z
 |[],_,j,c,h,_=>by cases h
 |(i,d)::r,b,j,c,h,k=>by
  simp only[A3]at b;rcases List.mem_cons.1 h with h|h
  .injection h with l n
   subst l n;rw[zF (by simp[k])]at b;exact b.1
  .split at b
   .exact EM b j c h k
   .exact EM b.2 j c h k
theorem Fits.ready (l:Fits P N ops al){b:Array Bool}{L:List Nat}(H:b.size=ops.size)(z: ∀i,i<ops.size->(b.getD i Zb=Za↔i∈L))(s: ∀i∈L,i<ops.size){i:Nat}:
  i∈Region.ready .any ops b↔i<al.length/\i∉L/\∀q∈gV al i,q∈L:=by
 have m: ∀k,b.getD k Zb=Za↔k∈L:=by
  intro k;by_cases u:k<ops.size
  .exact z k u
  .constructor
   .intro h;have:b.getD k Zb=Zb:=by simp[Array.getElem?_eq_none (show b.size<=k by omega)]
    rw[this]at h;cases h
   .intro h;exact absurd (s k h) u
 rw[mem_ready];constructor
 .rintro⟨p,o,d,r⟩;have n:i<ops.size:=(Array.getElem?_eq_some_iff.1 d).1;refine⟨l.len▸n,λh=> ?_,λq F=> ?_⟩
  .have g:=(m i).2 h;rw[VU p]at g;cases g
  .obtain⟨e,g,y,rfl⟩:=(l.pred i o d q).1 F;exact(m _).1 (r e g y)
 .rintro⟨p,d,r⟩;have n:i<ops.size:=l.len▸p;refine⟨ai9 (by omega) ?_,ops[i],Array.getElem?_eq_getElem n,λe C A=>(m _).2 (r _ ((l.pred i _ (Array.getElem?_eq_getElem n) _).2 ⟨e,C,A,rfl⟩))⟩;cases E:b.getD i Zb with
  |true=>exact absurd ((m i).1 E) d
  |false=>rfl
theorem ah1 (hT: ∀f,CA P f (T f))(hF:Fits P N ops al)(s:B2 al=Za){Q:AExit->cf->Hp->Prop}{e0:cf}{μ0:Mu}{w0:World}: ∀(E:Nat) (f:Nat) (H:Nat->Value) (D L:List Nat) (chk:List (Nat×(Hp->Prop))) (d:Array Bool) (Z:Hp) (μ:Mu) (a:Act) (w:World),
  Cq T (Q .normal) al f D chk (ip al e0 H D) Z->left al.length D<=f->left al.length L<=E->Inv al e0 H Z chk D L->d.size=ops.size->(∀i,i<ops.size->(d.getD i Zb=Za↔i∈L))->
  R B μ Z w->eU μ N (ip al e0 H L) a.tmps->a.defers=[]->μ0.le μ->Below B w0 w->wpAny P .any ops (qv B N μ0 w0 Q) E d a w:=by
 intro E;induction E with
 |zero=>
  intro f H D L chk d Z μ a w h hf hfu hI hs hL hR he hd hμ hb;have J: ∀i,i<al.length->i∈L:=λi hi=>Ib (by omega) hi
  have hlt: ∀i∈L,i<ops.size:=λi hi=>by rw[hF.len];exact hI.lt i (hI.sub i hi)
  have hnil:Region.ready .any ops d=[]:=by
   cases hr:Region.ready .any ops d with
   |nil=>rfl
   |cons i r=>
    have:=(hF.ready hs hL hlt (i:=i)).1 (by rw[hr];exact aD ..);exact absurd (J i this.1) this.2.1
  refine⟨hnil, ?_⟩;obtain⟨f',b,D',n,g1,g2,u,g4,g5,g6⟩:=Ow (Q:=Q .normal) s f H D chk _ h hf rfl hI
  have I:Q .normal (ip al e0 b D') Z:=by
   have hmv:bn al D'=[]:=by
    cases hm:bn al D' with
    |nil=>rfl
    |cons i r=>
     have:=yw.1 (show i∈bn al D' by rw[hm];exact aD ..);exact absurd (g6 i (hI.sub i (J i this.1))) this.2.1
   cases f' with
   |zero=>exact g1
   |succ f'=>simp only[Cq,g4,hmv]at g1;exact g1
  have henv:ip al e0 b D'=ip al e0 H L:=by
   funext t
   by_cases hx: ∃j,j<al.length/\mH al j=O t
   .obtain⟨j,C,l⟩:=hx;rw[qy s (g6 j (hI.sub j (J j C))) l,qy s (J j C) l,g5 j (hI.sub j (J j C))]
   .rw[od (λj _ l=>hx ⟨j,AX l,l⟩),od (λj _ l=>hx ⟨j,AX l,l⟩)]
  rw[henv]at I;exact⟨.normal,_,Z,μ,trivial,I,hμ,hR,he,hd,hb⟩
 |succ E ih=>
  intro f H D L chk d Z μ a w h hf hfu hI hs hL hR he hd hμ hb;have hlt: ∀i∈L,i<ops.size:=λi hi=>by rw[hF.len];exact hI.lt i (hI.sub i hi)
  obtain⟨f',b,D',n,g1,g2,u,g4,g5,g6⟩:=Ow (Q:=Q .normal) s f H D chk _ h hf rfl hI;have hvL: ∀i∈L,b i=H i:=λi hi=>g5 i (hI.sub i hi)
  have K:eU μ N (ip al e0 b L) a.tmps:=by rw[ED hvL];exact he
  have hL': ∀i,i<ops.size->∀(hi:i∉L),(∀k,k<ops.size->((d.setIfInBounds i Za).getD k Zb=Za↔k∈i::L)):=by
   intro i hi hiL k hk;by_cases e:k=i
   .subst e;simp[hs,hk]
   .rw[getD_set_ne Zb (λe'=>e e'.symm)];rw[hL k hk];simp[e]
  have hLc: ∀i,(∀q∈gV al i,q∈L)->zQ al (i::L):=by
   intro i hp k hk q I;rcases List.mem_cons.1 hk with rfl|hk
   .exact aB _ (hp q I)
   .exact aB _ (hI.lc k hk q I)
  refine⟨λhnil=> ?_,λi hi=> ?_⟩
  .
   have hDL: ∀j∈D',j∈L:=by
    intro j;induction j using Nat.strongRecOn with
    |_ j ihj=>
     intro C;by_cases A:j∈L
     .exact A
     .exfalso;have hr:=(hF.ready hs hL hlt (i:=j)).2 ⟨u.lt j C,A,λq I=>ihj q (Qe s (u.lt j C) I) (u.dc j C q I)⟩;rw[hnil]at hr;cases hr
   have I:Q .normal (ip al e0 b D') Z:=by
    have hmv:bn al D'=[]:=by
     cases hm:bn al D' with
     |nil=>rfl
     |cons i r=>
      exfalso;have:=yw.1 (show i∈bn al D' by rw[hm];exact aD ..);have hr:=(hF.ready hs hL hlt (i:=i)).2 ⟨this.1,λh=>this.2.1 (u.sub i h),λq I=>hDL q (this.2.2.1 q I)⟩;rw[hnil]at hr;cases hr
    cases f' with
    |zero=>exact g1
    |succ f'=>simp only[Cq,g4,hmv]at g1;exact g1
   have henv:ip al e0 b D'=ip al e0 b L:=by
    funext t
    by_cases hx: ∃j∈L,mH al j=O t
    .obtain⟨j,C,l⟩:=hx;rw[qy s (u.sub j C) l,qy s C l]
    .rw[od (λj C l=>hx ⟨j,hDL j C,l⟩),od (λj C l=>hx ⟨j,C,l⟩)]
   rw[henv]at I;exact⟨.normal,_,Z,μ,trivial,I,hμ,hR,K,hd,hb⟩
  .
   obtain⟨k1,k2,k3⟩:=(hF.ready hs hL hlt).1 hi;have hio:i<ops.size:=hF.len▸k1;have hoi:ops[i]?=O ops[i]:=Array.getElem?_eq_getElem hio;obtain⟨x,hx,S⟩:=hF.op i _ hoi;have W:left al.length (i::L)<=E:=by have:=Ia k1 k2;omega
   have hs':(d.setIfInBounds i Za).size=ops.size:=by simpa using hs
   have V:mH al i=x.dst:=by simp[mH,hx]
   unfold Iv at S;split at S
   case h_2=>cases S
   rename_i op g t1 t2;split at S
   case isFalse=>cases S
   rename_i t3;injection S with S
   subst S
   have F: ∀t∈(⟨ops[i].dst,op,g⟩:AOper).looks,ip al e0 b L t=D9 al e0 b i t:=by
    intro t ht;exact Pn s u.lc k1 k2 k3 (by simpa[EN,hx]using ht)
   have hwant:=NP (op:=op) t2 K;rw[Co F]at hwant;unfold wpOp;rw[hoi];simp only;rw[hwant];by_cases z:i∈D'
   .
    obtain⟨x',p,y1,y2,y3⟩:=u.tells i z k2;rw[hx]at y1;injection y1 with y1
    injection y1 with y1 _
    subst y1
    have hInv': ∀(μ':Mu) (w':World),Inv al e0 b Z n D' (i::L):=λμ' w'=>
     ⟨u.dc,hLc i k3,λk hk=>(List.mem_cons.1 hk).elim (λe=>e▸z) (u.sub k),u.lt,λj C A=>u.tells j C λh=>A (aB _ h)⟩
    rcases y3 with⟨y4,y5,_⟩|⟨y4,y5⟩
    .rw[y4];rw[zE rfl];left
     have hrun:bu T op (ip al e0 b L) Z λv Z'=>v=b i/\Z'=Z:=by
      have:op.run (ip al e0 b L) Z=O (b i,Z):=by
       rw[Bd (e':=D9 al e0 b i) λt ht=>F t (by simp[AOper.looks,ht])];exact y5
      unfold bu;cases op<;>simp[AOp.still]at y2<;>simp only[this]<;>exact⟨trivial,trivial⟩
     refine LI hT t1 hrun K hR λv Z' v' μ' w' hk hμ' hR' hv hbel=> ?_
     obtain⟨rfl,rfl⟩:=hk;refine ih f' b D' (i::L) n _ Z' μ' _ w' g1 g2 W (hInv' μ' w') hs' (hL' i hio k2) hR' ?_ (by rw[uv];exact hd) (Mu.le_trans hμ hμ') (hb.trans hbel);rw[yo s i k2,V];exact(K.mono hμ').putO t3 hv
    .rw[y4];simp only[Bool.false_eq_true,if_false];refine ih f' b D' (i::L) n _ Z μ _ w g1 g2 W (hInv' μ w) hs' (hL' i hio k2) hR ?_ (by rw[uv];exact hd) hμ hb;rw[yo s i k2,V,y5];exact K.putO t3 (VR.undef μ)
   .
    have hpD: ∀q∈gV al i,q∈D':=λq I=>u.sub q (k3 q I)
    have hst:=Lp g4 k1 z hpD;have hmem:i∈bn al D':=yw.2 ⟨k1,z,hpD,hst⟩
    have M: ∀t∈(⟨ops[i].dst,op,g⟩:AOper).looks,ip al e0 b D' t=D9 al e0 b i t:=by
     intro t ht;exact Pn s u.dc k1 z hpD (by simpa[EN,hx]using ht)
    have hsame: ∀t∈(⟨ops[i].dst,op,g⟩:AOper).looks,ip al e0 b D' t=ip al e0 b L t:=λt ht=>(M t ht).trans (F t ht).symm
    obtain⟨U,rfl⟩: ∃U,f'=U+1:=⟨f'-1,by have:=Ya k1 z;omega⟩
    have hleft:left al.length (i::D')<=U:=by have:=Ia k1 z;omega
    simp only[Cq,g4]at g1
    have y:(if wanted ⟨ops[i].dst,op,g⟩ (ip al e0 b D')then bu T op (ip al e0 b D') Z λv Z'=>A3 al i Z' n/\Cq T (Q .normal) al U (i::D') n ((ip al e0 b D').putO ops[i].dst v) Z'
      else Cq T (Q .normal) al U (i::D') n ((ip al e0 b D').putO ops[i].dst undef) Z):=by
     cases hm:bn al D' with
     |nil=>rw[hm]at hmem;cases hmem
     |cons m r=>
      rw[hm]at g1 hmem;simp only at g1;have:=PZ g1 i hmem;simp only[hx]at this;exact this
    rw[Co M]at y
    have hDc:zQ al (i::D'):=by
     intro k hk q I;rcases List.mem_cons.1 hk with rfl|hk
     .exact aB _ (hpD q I)
     .exact aB _ (u.dc k hk q I)
    have hlag: ∀j∈i::D',j∉i::L->j∈D'/\j∉L:=λj C A=>
     ⟨(List.mem_cons.1 C).elim (λe=>absurd (e▸aD ..) A) id,λh=>A (aB _ h)⟩
    have hval: ∀v,∀k∈D',upd b i v k=b k:=λv k hk=>zF λ(e:k=i)=>z (e▸hk)
    have henvD: ∀v,(ip al e0 b D').putO ops[i].dst v=ip al e0 (upd b i v) (i::D'):=by
     intro v;rw[yo s i z,ED (hval v),V]
     congr 1
     exact(zE rfl).symm
    have henvL: ∀v,(ip al e0 b L).putO ops[i].dst v=ip al e0 (upd b i v) (i::L):=by
     intro v;rw[yo s i k2,ED (λk hk=>hval v k (u.sub k hk)),V]
     congr 1
     exact(zE rfl).symm
    split at y
    .rename_i hw1;rw[hw1,zE rfl];left;refine LI hT t1 (Rj (λt ht=>hsame t (by simp[AOper.looks,ht])) y) K hR λv Z' v' μ' w' hk hμ' hR' hv hbel=> ?_
     obtain⟨hk1,hk2⟩:=hk;rw[henvD v]at hk2;refine ih U (upd b i v) (i::D') (i::L) n _ Z' μ' _ w' hk2 hleft W ⟨hDc,hLc i k3,λk hk=>(List.mem_cons.1 hk).elim (λe=>e▸aD ..) λh=>aB _ (u.sub k h),λk hk=>(List.mem_cons.1 hk).elim (λe=>e▸k1) (u.lt k),λj C A=> ?_⟩ hs' (hL' i hio k2) hR' ?_ (by rw[uv];exact hd) (Mu.le_trans hμ hμ') (hb.trans hbel)
     .obtain⟨hjD,X⟩:=hlag j C A;have ht:=(u.tells j hjD X).upd (i:=i) (v:=v) u.dc hjD z;obtain⟨x',p,z1,z2,z3⟩:=ht;refine⟨x',p,z1,z2,z3.imp (λ⟨z4,z5,z6⟩=>⟨z4, ?_,z6⟩) id⟩;cases hl:x'.op.isLoad with
      |false=>exact NI z2 hl z5 Z'
      |true=>
       obtain⟨c,z7,z8⟩:=z6 hl;refine z8 Z' (EM hk1 j c z7 ?_);cases hbf:sZ al j i with
       |false=>rfl
       |true=>exact absurd (u.lc.bef _ _ hbf k3) X
     .rw[<-henvL v];exact(K.mono hμ').putO t3 hv
    .rename_i hw1;rw[zF hw1];rw[henvD undef]at y;refine ih U (upd b i undef) (i::D') (i::L) n _ Z μ _ w y hleft W ⟨hDc,hLc i k3,λk hk=>(List.mem_cons.1 hk).elim (λe=>e▸aD ..) λh=>aB _ (u.sub k h),λk hk=>(List.mem_cons.1 hk).elim (λe=>e▸k1) (u.lt k),λj C A=> ?_⟩ hs' (hL' i hio k2) hR ?_ (by rw[uv];exact hd) hμ hb
     .obtain⟨hjD,X⟩:=hlag j C A;exact(u.tells j hjD X).upd u.dc hjD z
     .rw[<-henvL undef];exact K.putO t3 (VR.undef μ)
end
end
section
open Go.RowKit
def rk (T:fM):Prop:= ∀f args Z (K K':Value->Hp->Prop),(∀r Z',K r Z'->K' r Z')->T f args Z K->T f args Z K'
theorem kC {T:fM}(d:rk T){k g:Value->Hp->Prop}(b: ∀v Z',k v Z'->g v Z')(h:bu T op e Z k):bu T op e Z g:=by
 unfold bu at*;cases op<;>simp only at h⊢
 case call f xs=>exact d _ _ _ _ _ b h
 case callv f xs=>
  split at h
  .exact d _ _ _ _ _ b h
  .exact h.elim
 all_goals
  split at h
  .exact b _ _ h
  .exact h.elim
section
variable {T:fM}
theorem Cr (b:rk T){Q Q':cf->Hp->Prop}(d: ∀e Z,Q e Z->Q' e Z): ∀(l:List AOper) (e:cf) (Z:Hp),yF T Q l e Z->yF T Q' l e Z
 |[],e,Z,h=>d e Z h
 |o::l,e,Z,h=>by
  simp only[yF]at h⊢;split at h
  .rename_i g;rw[zE g];exact kC b (λv Z' k=>Cr b d l _ Z' k) h
  .rename_i g;rw[zF g];exact Cr b d l _ Z h
theorem MS {f g:Nat->Prop}(h: ∀m,f m->g m): ∀{l:List Nat},Kw f l->Kw g l
 |[],_=>trivial
 |[_],b=>h _ b
 |_::_::_,b=>⟨h _ b.1,MS h b.2⟩
theorem Es (k:rk T){Q Q':cf->Hp->Prop}(g: ∀e Z,Q e Z->Q' e Z){ops:List (AOper×List Nat)}: ∀(f:Nat) (done:List Nat) (b:List (Nat×(Hp->Prop))) (e:cf) (Z:Hp),Cq T Q ops f done b e Z->Cq T Q' ops f done b e Z
 |0,done,b,e,Z,h=>g e Z h
 |f+1,done,b,e,Z,h=>by
  simp only[Cq]at h⊢;split at h
  .split at h
   .split at h
    .rename_i d;rw[zE d];split at h
     .exact Es k g f _ _ _ _ h
     .exact h.elim
    .rename_i d;rw[zF d];exact Es k g f _ _ _ _ h
   .exact h.elim
  .split at h
   .exact g e Z h
   .refine MS (λm l=> ?_) h;split at l
    .split at l
     .rename_i d;rw[zE d];exact kC k (λv Z' n=>⟨n.1,Es k g f _ _ _ _ n.2⟩) l
     .rename_i d;rw[zF d];exact Es k g f _ _ _ _ l
    .exact l.elim
theorem Et (d:rk T){Q Q':cf->Hp->Prop}(g: ∀e Z,Q e Z->Q' e Z): ∀(l:List SItem) (b:List (Nat×(Hp->Prop))) (e:cf) (Z:Hp),PC T Q l b e Z->PC T Q' l b e Z
 |[],_,e,Z,h=>g e Z h
 |it::l,b,e,Z,h=>by
  simp only[PC]at h⊢;split at h
  .rename_i m;rw[zE m];split at h
   .rename_i k;rw[zE k];exact kC d (λv Z' n=>⟨n.1,Et d g l _ _ Z' n.2⟩) h
   .rename_i k;rw[zF k];split at h
    .exact Et d g l _ _ Z h
    .exact h.elim
  .rename_i m;rw[zF m];exact Et d g l _ _ Z h
theorem zN {f:(AExit->cf->Hp->Prop)->cf->Hp->Prop}(g: ∀(Q Q':AExit->cf->Hp->Prop),(∀x e Z,Q x e Z->Q' x e Z)->∀e Z,f Q e Z->f Q' e Z){Q Q':AExit->cf->Hp->Prop}(b: ∀x e Z,Q x e Z->Q' x e Z):
  ∀(n:Nat) (e:cf) (Z:Hp),jc f Q n e Z->jc f Q' n e Z
 |0,_,_,h=>h.elim
 |n+1,e,Z,h=>by
  simp only[jc]at h⊢;refine g _ _ (λx e' Z' d=> ?_) e Z h;cases x with
  |normal=>exact zN g b n e' Z' d
  |exit id=>exact b _ _ _ d
  |ret=>exact b _ _ _ d
theorem fp (m:rk T): ∀(c:AC) (Q Q':AExit->cf->Hp->Prop),(∀x e Z,Q x e Z->Q' x e Z)->∀(e:cf) (Z:Hp),vL T c Q e Z->vL T c Q' e Z:=by
 intro c;induction c with
 |skip=>intro Q Q' d e Z h;exact d _ _ _ h
 |region ops=>intro Q Q' d e Z h;exact Cr m (d .normal) ops e Z h
 |draw ops=>intro Q Q' d e Z h;exact Es m (d .normal) _ _ _ e Z h
 |sched r=>intro Q Q' d e Z h;exact Et m (d .normal) r [] e Z h
 |seq a b k l=>
  intro Q Q' d e Z h;refine k _ _ (λx e' Z' g=> ?_) e Z h;cases x with
  |normal=>exact l Q Q' d e' Z' g
  |exit id=>exact d _ _ _ g
  |ret=>exact d _ _ _ g
 |cond c a b k l=>
  intro Q Q' d e Z h;simp only[vL]at h⊢;split at h
  .exact k Q Q' d e Z h
  .exact l Q Q' d e Z h
  .exact h.elim
 |block id b q=>
  intro Q Q' d e Z h;refine q _ _ (λx e' Z' g=> ?_) e Z h;cases x with
  |normal=>exact d _ _ _ g
  |exit i=>
   simp only at g⊢;split at g
   .rename_i p;rw[zE p];exact d _ _ _ g
   .rename_i p;rw[zF p];exact d _ _ _ g
  |ret=>exact d _ _ _ g
 |loop b q=>
  intro Q Q' d e Z h;obtain⟨n,s⟩:=h;exact⟨n,zN (f:=vL T b) q d n e Z s⟩
 |exit id=>intro Q Q' d e Z h;exact d _ _ _ h
 |ret=>intro Q Q' d e Z h;exact d _ _ _ h
def AC.outs :AC->Nat->Bool
 | .seq a b,i| .cond _ a b,i=>a.outs i||b.outs i
 | .block id b,i=>b.outs i&& !(i==id)
 | .loop b,i=>b.outs i
 | .exit j,i=>i==j
 |_,_=>Zb
def R6 (c:AC)(Q:AExit->cf->Hp->Prop):AExit->cf->Hp->Prop:=λx e Z=>(∀i,x= .exit i->c.outs i=Za)/\Q x e Z
theorem D7 {c:AC}{Q:AExit->cf->Hp->Prop}:R6 c Q .normal=Q .normal:=by
 funext e Z
 exact propext ⟨λh=>h.2,λh=>⟨λi b=>(by cases b),h⟩⟩
theorem Jb {f:(AExit->cf->Hp->Prop)->cf->Hp->Prop}{b:AC}(k: ∀(Q Q':AExit->cf->Hp->Prop),(∀x e Z,Q x e Z->Q' x e Z)->∀e Z,f Q e Z->f Q' e Z)
  (l: ∀Q e Z,f Q e Z->f (R6 b Q) e Z) {Q:AExit->cf->Hp->Prop}: ∀(n:Nat) (e:cf) (Z:Hp),jc f Q n e Z->jc f (R6 b Q) n e Z
 |0,_,_,h=>h.elim
 |n+1,e,Z,h=>by
  simp only[jc]at h⊢;refine k _ _ (λx e' Z' m=> ?_) e Z (l _ e Z h);obtain⟨g,d⟩:=m;cases x with
  |normal=>exact Jb k l n e' Z' d
  |exit id=>exact⟨g,d⟩
  |ret=>exact⟨g,d⟩
theorem RT (p:rk T): ∀(c:AC) (Q:AExit->cf->Hp->Prop) (e:cf) (Z:Hp),vL T c Q e Z->vL T c (R6 c Q) e Z:=by
 intro c;induction c with
 |skip=>intro Q e Z h;exact⟨λi d=>(by cases d),h⟩
 |region ops=>intro Q e Z h;simp only[vL]at h⊢;rw[D7];exact h
 |draw ops=>intro Q e Z h;simp only[vL]at h⊢;rw[D7];exact h
 |sched y=>intro Q e Z h;simp only[vL]at h⊢;rw[D7];exact h
 |seq a b l m=>
  intro Q e Z h;simp only[vL]at h⊢;refine fp p a _ _ (λx e' Z' g=> ?_) e Z (l _ e Z h);obtain⟨q,k⟩:=g;cases x with
  |normal=>exact fp p b _ _ (λx e Z g=>⟨λi d=>by rw[AC.outs,g.1 i d,Bool.or_true],g.2⟩) e' Z' (m Q e' Z' k)
  |exit id=>exact⟨λi d=>by rw[AC.outs,q i d,Bool.true_or],k⟩
  |ret=>exact⟨λi d=>(by cases d),k⟩
 |cond c a b l m=>
  intro Q e Z h;simp only[vL]at h⊢;split at h
  .exact fp p a _ _ (λx e Z g=>⟨λi d=>by rw[AC.outs,g.1 i d,Bool.true_or],g.2⟩) e Z (l Q e Z h)
  .exact fp p b _ _ (λx e Z g=>⟨λi d=>by rw[AC.outs,g.1 i d,Bool.or_true],g.2⟩) e Z (m Q e Z h)
  .exact h.elim
 |block id b s=>
  intro Q e Z h;simp only[vL]at h⊢;refine fp p b _ _ (λx e' Z' g=> ?_) e Z (s _ e Z h);obtain⟨q,k⟩:=g;cases x with
  |normal=>exact⟨λi d=>(by cases d),k⟩
  |exit i=>
   simp only at k⊢;split at k
   .rename_i d;rw[zE d];exact⟨λi d=>(by cases d),k⟩
   .rename_i d;rw[zF d];refine⟨λj r=> ?_,k⟩;injection r with r
    subst r;rw[AC.outs,q i rfl];simp[d]
  |ret=>exact⟨λi d=>(by cases d),k⟩
 |loop b s=>
  intro Q e Z h;obtain⟨n,u⟩:=h;exact⟨n,Jb (f:=vL T b) (fp p b) s n e Z u⟩
 |exit id=>
  intro Q e Z h;refine⟨λi d=> ?_,h⟩;injection d with d
  subst d;simp[AC.outs]
 |ret=>intro Q e Z h;exact⟨λi d=>(by cases d),h⟩
end
end
section
open Bool renaming and_eq_true -> bB, or_eq_true -> bD, false_eq_true -> cB
open List renaming mem_cons_of_mem -> aB, mem_cons_self -> aD
open Go.RowKit
def Iu (P:Program)(N:Nat)(ops:Array Oper):List Oper->Option DL
 |[]=>O []
 |o::r=>match Iv P N ops o,Iu P N ops r with
  |some x,O l=>O ((x,(o.after.toList.filter (Region.binds .any ·)).map (·.on))::l)
  |_,_=>Y
def AC.outsL :AC->List Nat
 | .seq a b| .cond _ a b=>a.outsL++b.outsL
 | .block id b=>b.outsL.filter λi=> !(i==id)
 | .loop b=>b.outsL
 | .exit j=>[j]
 |_=>[]
theorem YK : ∀(c:AC) (i:Nat),c.outs i=Za->i∈c.outsL:=by
 intro c;induction c with
 |seq a b d g=>
  intro i h;simp only[AC.outs,bD]at h;exact List.mem_append.2 (h.elim (λh=> .inl (d i h)) λh=> .inr (g i h))
 |cond c a b d g=>
  intro i h;simp only[AC.outs,bD]at h;exact List.mem_append.2 (h.elim (λh=> .inl (d i h)) λh=> .inr (g i h))
 |block id b k=>
  intro i h;simp only[AC.outs,bB]at h;exact List.mem_filter.2 ⟨k i h.1,h.2⟩
 |loop b k=>intro i h;exact k i h
 |exit j=>intro i h;simp[AC.outs]at h;simp[AC.outsL,h]
 |_=>intro i h;simp[AC.outs]at h
def AC.noJump (c:AC):Bool:=c.outsL.all λi=>Zc (i<CH)
theorem Nx {c:AC}(h:c.noJump=Za)(b:c.outs i=Za):i<CH:=by
 have:=List.all_eq_true.1 h i (YK c i b);exact of_decide_eq_true this
def rI :Code->List Nat
 | .seq a b=>rI a++rI b
 | .label l=>[l]
 |_=>[]
theorem DW : ∀(c:Code) (l:Nat),l∉rI c->findLabel c l=Y:=by
 intro c;induction c with
 |seq a b d g=>
  intro l h;simp only[rI,List.mem_append,not_or]at h;simp only[findLabel,d l h.1,g l h.2]
 |label k=>
  intro l h;simp only[rI,List.mem_singleton]at h;simp only[findLabel];rw[zF (by simpa using λe=>h e.symm)]
 |_=>intro l h;rfl
def GM (l:Nat):Code->Bool
 | .goto d=>d==l
 | .seq a b| .cond _ a b=>GM l a||GM l b
 | .block _ b| .loop b| .scope b=>GM l b
 |_=>Zb
def EK :Code->Option Nat
 | .label l=>O l
 |_=>Y
theorem OY {c:Code}{l:Nat}(h:EK c=O l):c= .label l:=by
 cases c<;>simp[EK]at h;rw[h]
def il :Code->Option Nat
 | .seq a b=>match EK a with
  |some l=>if GM l b then O l else il b
  |none=>il b
 |_=>Y
def At (l:Nat):Nat:=CH+2*l
def xg (l:Nat):Nat:=CH+2*l+1
def al7 (l:Nat)(b:AC):AC:= .block (xg l) (.loop (.block (At l) (.seq b (.exit (xg l)))))
def GS (a b:Code):Bool:=match il b with
 |some l=> !(rI a).contains l
 |none=>Za
def pU (x:Option AC):Option AC×Option AC:=(x,x)
def aE6 :Option AC->Option AC->Option AC
 |some a,O b=>O (.seq a b)
 |_,_=>Y
def To (a b:Code)(d g sb:Option AC):Option AC:=match EK a with
 |some l=>if GM l b then g.map (al7 l)else if GS a b then sb.map (.seq .skip)else Y
 |none=>match d,sb with
  |some x,O y=>if GS a b&&((il b).isNone||x.noJump)then O (.seq x y)else Y
  |_,_=>Y
def L4 (P:Program)(N:Nat):Code->Option AC×Option AC
 | .skip=>pU (O .skip)
 | .label _=>pU (O .skip)
 | .region _ ops draw=>pU (if draw then match Iu P N ops ops.toList with
   |some l=>if B2 l&&P.follows .mixedOrders then(match EO l l.length [] []with
    |some d=>O (.sched d)
    |none=>O (.draw l))else Y
   |none=>Y
  else(Ho P N ops ops.toList).map .region)
 | .seq a b=>(aE6 (L4 P N a).1 (L4 P N b).1,To a b (L4 P N a).1 (L4 P N b).1 (L4 P N b).2)
 | .cond c a b=>pU (match xu c,(L4 P N a).1,(L4 P N b).1 with
  |some c,O a,O b=>O (.cond c a b)
  |_,_,_=>Y)
 | .block id b=>pU (if id<CH then((L4 P N b).1).map (.block id)else Y)
 | .loop b=>pU (((L4 P N b).1).map .loop)
 | .scope b=>pU (match(L4 P N b).2 with
  |some g=>if g.noJump then O g else Y
  |none=>Y)
 | .exit id=>pU (if id<CH then O (.exit id)else Y)
 | .goto l=>pU (O (.exit (At l)))
 | .ret=>pU (O .ret)
 |_=>pU Y
def lX (P:Program)(N:Nat)(c:Code):Option AC:=(L4 P N c).1
def Pz (P:Program)(N:Nat)(c:Code):Option AC:=(L4 P N c).2
section
variable {P:Program} {T:fM} {ops:Array Oper} {B:Base P} {N:Nat}
theorem I9 : ∀{l:List Oper} {al:DL},Iu P N ops l=O al->l.length=al.length/\∀(i:Nat) o,l[i]?=O o->∃x,al[i]?=O (x,(o.after.toList.filter (Region.binds .any ·)).map (·.on))/\Iv P N ops o=O x
 |[],al,h=>by
  simp[Iu]at h;subst h;exact⟨rfl,λi o h=>by simp at h⟩
 |o::l,al,h=>by
  simp only[Iu]at h;split at h
  .rename_i x r d g;injection h with h
   subst h;obtain⟨k,m⟩:=I9 g;refine⟨by simp[k],λi n b=> ?_⟩;cases i with
   |zero=>simp at b;subst b;exact⟨x,rfl,d⟩
   |succ i=>simp at b;simpa using m i n b
  .cases h
theorem ai6 {al:DL}(h:Iu P N ops ops.toList=O al):Fits P N ops al:=by
 obtain⟨l,g⟩:=I9 h;refine⟨by simpa using l,λi o d=> ?_,λi o d q=> ?_⟩
 .obtain⟨x,b,k⟩:=g i o (by simpa using d);refine⟨x, ?_,k⟩;have:gV al i=(o.after.toList.filter (Region.binds .any ·)).map (·.on):=by simp[gV,b]
  rw[this];exact b
 .obtain⟨x,b,k⟩:=g i o (by simpa using d);have:gV al i=(o.after.toList.filter (Region.binds .any ·)).map (·.on):=by simp[gV,b]
  rw[this];simp[and_assoc]
theorem PD {b:Code}{f:(AExit->cf->Hp->Prop)->cf->Hp->Prop}
  (hb: ∀(Q:AExit->cf->Hp->Prop) (e:cf) (Z:Hp) (μ:Mu) (a:Act) (w:World),f Q e Z->R B μ Z w->eU μ N e a.tmps->a.defers=[]->b.wp P (qv B N μ w Q) a w)
  {Q:AExit->cf->Hp->Prop} {K:Mu} {I:World} {n:Nat}   {μ:Mu}   (h:jc f Q n e Z) (U:R B μ Z w) (W:eU μ N e a.tmps) (V:a.defers=[]) (q:K.le μ) (g:Below B I w):
  (Code.loop b).wp P (qv B N K I Q) a w:=by
 intro M k S
 have key: ∀n e Z μ a w,jc f Q n e Z->R B μ Z w->eU μ N e a.tmps->a.defers=[]->K.le μ->Below B I w->
   ∃x s H,qv B N K I Q x s H/\Arrives P (lone (M.at a (.code b:: .inLoop b::k)) S w) M k S x s H:=by
  intro n;induction n with
  |zero=>intro e Z μ a w h;exact h.elim
  |succ n ih=>
   intro e Z μ a w h U W V q g;simp only[jc]at h;obtain⟨x,u,J,m,d⟩:=hb _ e Z μ a w h U W V M (.inLoop b::k) S;obtain⟨ax,y,Z1,L,r,m,z,A,C,E,F⟩:=m;cases ax with
   |normal=>
    cases x<;>simp[xd]at r;obtain⟨x₂,a₂,w₂,X,p⟩:=ih y Z1 L u J m A C E (Mu.le_trans q z) (g.trans F);exact⟨x₂,a₂,w₂,X, .of_steps (Steps.trans d (.one step_inLoop)) p⟩
   |exit id=>
    cases x with
    |exit j=>
     obtain⟨rfl,hj⟩:=r;exact⟨.exit id,u,J,⟨.exit id,y,Z1,L,⟨rfl,hj⟩,m,Mu.le_trans q z,A,C,E,g.trans F⟩, .pass (x:= .inLoop b) rfl (λ_ _=> .inl (by simp)) d⟩
    |goto l=>exact⟨.goto l,u,J,⟨.exit id,y,Z1,L,r,m,Mu.le_trans q z,A,C,E,g.trans F⟩,λk' hk=>d k' (by simp[gotoIn,hk])⟩
    |_=>exact r.elim
   |ret=>
    cases x<;>simp[xd]at r;exact⟨.ret,u,J,⟨.ret,y,Z1,L,trivial,m,Mu.le_trans q z,A,C,E,g.trans F⟩, .pass (x:= .inLoop b) rfl (λ_ _=> .inl (by simp)) d⟩
 obtain⟨x,s,H,m,d⟩:=key n e Z μ a w h U W V q g;exact⟨x,s,H,m, .of_steps (.one step_loop) d⟩
theorem D8 {l:List Nat}{Z:Hp}: ∀{g:List (Nat×(Hp->Prop))},xh l Z g->∀i c,(i,c)∈g->i∈l->c Z
 |[],_,i,c,h,_=>by cases h
 |(j,d)::r,b,i,c,h,k=>by
  simp only[xh]at b;rcases List.mem_cons.1 h with h|h
  .injection h with m n
   subst m n;rw[zE (by simpa using k)]at b;exact b.1
  .split at b
   .exact D8 b.2 i c h k
   .exact D8 b i c h k
theorem pv {al:DL}{m:Nat}{Z:Hp}: ∀{b:List (Nat×(Hp->Prop))},(∀i c,(i,c)∈b->sZ al i m=Zb->c Z)->A3 al m Z b
 |[],_=>trivial
 |(j,d)::r,h=>by
  simp only[A3];split
  .exact pv λi c g=>h i c (aB _ g)
  .rename_i k;exact⟨h j d (aD ..) (by simpa using k),pv λi c g=>h i c (aB _ g)⟩
theorem Rk {k g:Value->Hp->Prop}(d:rk T)(b: ∀v Z',k v Z'->g v Z')(h:bu T op e Z k):bu T op e Z g:=by
 unfold bu at*;cases op<;>simp only at h⊢
 case call f xs=>exact d _ _ _ _ _ b h
 case callv f xs=>
  split at h
  .exact d _ _ _ _ _ b h
  .exact h.elim
 all_goals
  split at h
  .exact b _ _ h
  .exact h.elim
theorem D3 (z:rk T){Q:cf->Hp->Prop}{al:DL}: ∀(f:Nat) (done d:List Nat) (n:List SItem) (l k:List (Nat×(Hp->Prop))) (e:cf) (Z:Hp),EO al f done d=O n->PC T Q n k e Z->
  (∀i c,(i,c)∈l->i∈d)->(∀i c,(i,c)∈l->X4 al i=Za->(i,c)∈k)->Cq T Q al f done l e Z
 |0,done,d,n,l,k,e,Z,h,g,_,_=>by
  simp[EO]at h;subst h;exact g
 |f+1,done,d,n,l,k,e,Z,h,g,u,q=>by
  simp only[EO]at h;simp only[Cq];split at h
  .rename_i i M;split at h
   .rename_i o p J;obtain⟨r,C,h⟩:=Option.map_eq_some_iff.1 h;subst h;simp only[PC]at g;split at g
    .rename_i b;rw[zE b];simp only[cB,if_false]at g;split at g
     .rename_i v Z1 K;refine D3 z f _ _ _ _ _ _ _ C g (λj c hc=> ?_) (λj c hc s=> ?_)
      .by_cases y:o.op.isLoad=Za
       .rw[zE y]at hc⊢;rcases List.mem_cons.1 hc with hc|hc
        .injection hc with hc _
         subst hc;exact aD ..
        .exact aB _ (u j c hc)
       .rw[zF y]at hc⊢;exact u j c hc
      .by_cases y:o.op.isLoad=Za
       .rw[zE y]at hc;rcases List.mem_cons.1 hc with hc|hc
        .have L:j=i:=by injection hc
         subst L;rw[zE (by simp[y,s]),hc];exact aD ..
        .split
         .exact aB _ (q j c hc s)
         .exact q j c hc s
       .rw[zF y]at hc;split
        .exact aB _ (q j c hc s)
        .exact q j c hc s
     .exact g.elim
    .rename_i b;rw[zF b];refine D3 z f _ _ _ _ _ _ _ C g (λj c hc=> ?_) q;split
     .exact aB _ (u j c hc)
     .exact u j c hc
   .cases h
  .rename_i M;split at h
   .rename_i A;rw[A];injection h with h
    subst h;exact g
   .rename_i m A;rw[A];simp only[Kw];split at h
    .rename_i o p J;obtain⟨r,C,h⟩:=Option.map_eq_some_iff.1 h;subst h
     have H:SY al m=Za:=by
      have:=(yw.1 (show m∈bn al done by rw[A];exact aD ..)).2.2.2;simpa[Cl,SY,J]using this
     have F:m<al.length:=(yw.1 (show m∈bn al done by rw[A];exact aD ..)).1;simp only[PC]at g⊢;split at g
     .rename_i b;rw[zE b];simp only[if_true]at g;refine Rk z (λv Z' s=> ?_) g;refine⟨pv λi c hc I=> ?_,D3 z f _ _ _ _ _ _ _ C s.2 u q⟩;have E:X4 al i=Za:=List.any_eq_true.2 ⟨m,List.mem_range.2 F,by simp[H,I]⟩;exact D8 s.1 i c (q i c hc E) (by simp[u i c hc,I])
     .rename_i b;rw[zF b];exact D3 z f _ _ _ _ _ _ _ C g u q
    .cases h
   .cases h
def IZ (l:Nat)(J:Act->World->Prop)(Q:Exit->Act->World->Prop):Exit->Act->World->Prop
 | .goto b,a,w=>(b=l/\J a w)∨(b≠l/\Q (.goto b) a w)
 |x,a,w=>Q x a w
theorem Rr {c rest:Code}{Q:Exit->Act->World->Prop}(l:Nat)(J:Nat->Act->World->Prop)(W:findLabel c l=O rest)(L: ∀l' a w,¬Q (.goto l') a w)
  (first:c.wp P (IZ l (λa w=> ∃n,J n a w) Q) a w) (u: ∀n a w,J n a w->rest.wp P (IZ l (λa w=> ∃m,m<n/\J m a w) Q) a w):(Code.scope c).wp P Q a w:=by
 intro b k y;have M:gotoIn l (.inScope c::k)=O (.code rest:: .inScope c::k):=by simp[gotoIn,W]
 have H: ∀n a w,J n a w->∃e K S,Q e K S/\Arrives P (lone (b.at a (.code rest:: .inScope c::k)) y w) b k y e K S:=by
  intro n;induction n using Nat.strongRecOn with
  |_ n X=>
   intro a w V;obtain⟨e,p,q,g,d⟩:=u n a w V b (.inScope c::k) y;cases e with
   |normal=>exact⟨.normal,p,q,g,Steps.trans d (.one step_inScope)⟩
   |exit id=>exact⟨.exit id,p,q,g,λF C=>d F (by simp[exitTo,C])⟩
   |goto l'=>
    rcases g with⟨rfl,m,E,r⟩|⟨_,g⟩
    .obtain⟨A,z,I,s,h⟩:=X m E p q r;exact⟨A,z,I,s, .of_steps (d _ M) h⟩
    .exact(L _ _ _ g).elim
   |ret=>exact⟨_,p,q,g,d⟩
   |panic U=>exact⟨_,p,q,g,d⟩
   |outgrown=>exact⟨_,p,q,g,d⟩
 obtain⟨e,p,q,g,d⟩:=first b (.inScope c::k) y
 cases e with
 |normal=>exact⟨.normal,p,q,g, .head step_scope (Steps.trans d (.one step_inScope))⟩
 |exit id=>exact⟨.exit id,p,q,g,λF C=> .head step_scope (d F (by simp[exitTo,C]))⟩
 |goto l'=>
  rcases g with⟨rfl,n,r⟩|⟨_,g⟩
  .obtain⟨A,z,I,s,h⟩:=H n p q r;exact⟨A,z,I,s, .of_steps (.head step_scope (d _ M)) h⟩
  .exact(L _ _ _ g).elim
 |ret=>exact⟨_,p,q,g, .of_steps (.one step_scope) d⟩
 |panic U=>exact⟨_,p,q,g, .of_steps (.one step_scope) d⟩
 |outgrown=>exact⟨_,p,q,g, .of_steps (.one step_scope) d⟩
def Jst {P:Program}(B:Base P)(N:Nat)(d:Mu)(b:World)(L:Nat->cf->Hp->Prop)(n:Nat):Act->World->Prop:=λa w=>
 ∃e Z μ,L n e Z/\d.le μ/\R B μ Z w/\eU μ N e a.tmps/\a.defers=[]/\Below B b w
def Aok (P:Program)(T:fM)(B:Base P)(N:Nat)(c:Code):Prop:= ∀(b:AC),lX P N c=O b->∀(Q:AExit->cf->Hp->Prop) (e:cf) (Z:Hp) (μ:Mu) (a:Act) (w:World),vL T b Q e Z->
  R B μ Z w->eU μ N e a.tmps->a.defers=[]->c.wp P (qv B N μ w Q) a w
def TK (P:Program)(T:fM)(B:Base P)(N:Nat)(c:Code):Prop:= ∀(h:AC),Pz P N c=O h->∀(Q:AExit->cf->Hp->Prop),
 (il c=Y->∀(e:cf) (Z:Hp) (μ:Mu) (a:Act) (w:World),vL T h Q e Z->R B μ Z w->eU μ N e a.tmps->a.defers=[]->c.wp P (qv B N μ w Q) a w)/\
 (∀l,il c=O l->∃b L,findLabel c l=O b/\∀g d,
  (∀(e:cf) (Z:Hp) (μ:Mu) (a:Act) (w:World),vL T h Q e Z->R B μ Z w->eU μ N e a.tmps->a.defers=[]->g.le μ->Below B d w->c.wp P (IZ l (λa w=> ∃n,Jst B N g d L n a w) (qv B N g d Q)) a w)/\
  (∀n a w,Jst B N g d L n a w->b.wp P (IZ l (λa w=> ∃m,m<n/\Jst B N g d L m a w) (qv B N g d Q)) a w))
theorem TK.of {c:Code}(k:Pz P N c=lX P N c)(m:il c=Y)(h:Aok P T B N c):TK P T B N c:=λg b Q=>
 ⟨λ_=>h g (k▸b) Q,λl d=>by rw[m]at d;cases d⟩
theorem Ih {μ:Mu}{Q:AExit->cf->Hp->Prop}{g:Act}{w':World}(h:qv B N μ w Q x g w')(n:x≠ .normal): ∃b e' Z' d,b≠ .normal/\xd b x/\Q b e' Z'/\μ.le d/\R B d Z' w'/\eU d N e' g.tmps/\g.defers=[]/\Below B w w':=by
 obtain⟨b,e',Z',d,k,l,m⟩:=h;refine⟨b,e',Z',d, ?_,k,l,m⟩;rintro rfl;cases x<;>first|exact k.elim|exact n rfl
theorem ap3 {μ:Mu}{Q Q':AExit->cf->Hp->Prop}{d:Act}{w':World}(h:qv B N μ w Q x d w')(m: ∀b e Z,xd b x->Q b e Z->Q' b e Z):qv B N μ w Q' x d w':=by
 obtain⟨b,e',Z',n,g,k,l⟩:=h;exact⟨b,e',Z',n,g,m _ _ _ g k,l⟩
theorem Tl {x y:Code}{μ:Mu}{Q1:AExit->cf->Hp->Prop}{F:Exit->Act->World->Prop}(h:x.wp P (qv B N μ w Q1) a w)
  (A: ∀e Z k b w',Q1 .normal e Z->μ.le k->R B k Z w'->eU k N e b.tmps->b.defers=[]->Below B w w'->y.wp P F b w')
  (g: ∀x b w',x≠ .normal->qv B N μ w Q1 x b w'->F x b w'):(Code.seq x y).wp P F a w:=by
 refine wp_seq (wp_mono h λC b w' d=> ?_);cases C with
 |normal=>
  obtain⟨n,e',Z',k,m,p,q,r,s,u,z⟩:=d;cases n with
  |normal=>exact A e' Z' k b w' p q r s u z
  |exit i=>exact m.elim
  |ret=>exact m.elim
 |exit i=>exact g _ b w' (by simp) d
 |goto l=>exact g _ b w' (by simp) d
 |ret=>exact g _ b w' (by simp) d
 |panic E=>exact g _ b w' (by simp) d
 |outgrown=>exact g _ b w' (by simp) d
theorem Qv {l:Nat}{J:Act->World->Prop}{F:Exit->Act->World->Prop}(g:x= .goto l->J a w)(d:x≠ .goto l->F x a w):IZ l J F x a w:=by
 cases x with
 |goto h=>
  by_cases b:h=l
  .subst b;exact .inl ⟨rfl,g rfl⟩
  .exact .inr ⟨b,d (by simpa using b)⟩
 |_=>exact d (by simp)
theorem Ld {l:Nat}{J J':Act->World->Prop}{F F':Exit->Act->World->Prop}(k: ∀a w,J a w->J' a w)(g: ∀x a w,F x a w->F' x a w)(h:IZ l J F x a w):IZ l J' F' x a w:=by
 cases x with
 |goto m=>
  rcases h with⟨b,d⟩|⟨b,d⟩
  .exact .inl ⟨b,k _ _ d⟩
  .exact .inr ⟨b,g _ _ _ d⟩
 |_=>exact g _ _ _ h
theorem XC (hM:rk T)(hT: ∀f,CA P f (T f)): ∀(c:Code),Aok P T B N c/\TK P T B N c:=by
 intro c;induction c with
 |skip=>
  refine(λA=>⟨A,TK.of rfl rfl A⟩) ?_;intro W h Q e Z μ a w d k g m;simp[lX,L4,pU]at h;subst h;exact wp_skip ⟨.normal,e,Z,μ,trivial,d,μ.le_refl,k,g,m,Below.refl _ _⟩
 |label l=>
  refine(λA=>⟨A,TK.of rfl rfl A⟩) ?_;intro W h Q e Z μ a w d k g m;simp[lX,L4,pU]at h;subst h;exact wp_label ⟨.normal,e,Z,μ,trivial,d,μ.le_refl,k,g,m,Below.refl _ _⟩
 |goto l=>
  refine(λA=>⟨A,TK.of rfl rfl A⟩) ?_;intro W h Q e Z μ a w d k g m;simp[lX,L4,pU]at h;subst h;exact wp_goto ⟨.exit (At l),e,Z,μ,rfl,d,μ.le_refl,k,g,m,Below.refl _ _⟩
 |region id ops draw=>
  refine(λA=>⟨A,TK.of rfl rfl A⟩) ?_;intro W h Q e Z μ a w d k g m;simp only[lX,L4,pU]at h;cases draw with
  |false=>
   simp only[cB,if_false]at h;obtain⟨al,s,h⟩:=Option.map_eq_some_iff.1 h;subst h;exact wp_region_list (Pb hT ops.toList al e Z μ a w s d k g m μ.le_refl (Below.refl _ _))
  |true=>
   simp only[if_true]at h;split at h
   .rename_i al s;split at h
    .rename_i h2
     have d:Cq T (Q .normal) al al.length [] [] e Z:=by
      split at h
      .rename_i its hits;injection h with h
       subst h;exact D3 hM al.length [] [] its [] [] e Z hits d (λi c hc=>(by cases hc)) (λi c hc=>(by cases hc))
      .injection h with h
       subst h;exact d
     simp only[bB]at h2;have hF:=ai6 s;have X: ∀(val:Nat->Value),ip al e val []=e:=λval=>funext λt=>od λi M=>by cases M
     refine wp_region_any h2.2 ?_;have hl:left al.length []<=al.length:=by unfold left;exact Nat.le_trans (List.length_filter_le _ _) (by simp)
     refine ah1 hT hF h2.1 (e0:=e) ops.size al.length (λ_=>undef) [] [] [] _ Z μ a _ (by rw[X];exact d) hl (by rw[hF.len];exact hl) ⟨λi M=>(by cases M),λi M=>(by cases M),λi M=>(by cases M),λi M=>(by cases M),λi M=>(by cases M)⟩ (by simp) (λi M=>by simp[M]) (k.same rfl) (by rw[X];exact g) m μ.le_refl (Below.refl _ _).drew
    .cases h
   .cases h
 |seq x y ihx ihy=>
  refine⟨?_, ?_⟩
  .intro W h Q e Z μ a w d k g m;have h:aE6 (lX P N x) (lX P N y)=O W:=h;unfold aE6 at h;split at h
   .rename_i ax ay s h2;injection h with h
    subst h;simp only[vL]at d;have s:lX P N x=O ax:=s;have h2:lX P N y=O ay:=h2;refine Tl (ihx.1 ax s _ e Z μ a w d k g m) (λe' Z' r F z V g1 g2 g3 g4 g5=> ?_) λx' F z S hp=> ?_
    .exact wp_mono (ihy.1 ay h2 Q e' Z' r F z V g2 g3 g4) λx'' a'' w'' h''=>h''.trans g1 g5
    .obtain⟨q,e',Z',r,h0,U,E,h3'⟩:=Ih hp S;refine⟨q,e',Z',r,U, ?_,h3'⟩;cases q with
     |normal=>exact(h0 rfl).elim
     |exit i=>exact E
     |ret=>exact E
   .cases h
  .intro W h Q;have h:To x y (lX P N x) (lX P N y) (Pz P N y)=O W:=h;unfold To at h;split at h
   .rename_i l hl;obtain rfl:=OY hl;split at h
    .
     rename_i hg;obtain⟨yc,s,h⟩:=Option.map_eq_some_iff.1 h;subst h;have K:il (.seq (.label l) y)=O l:=by simp[il,EK,hg]
     refine⟨λhn=>(by rw[K]at hn;cases hn),λH p=> ?_⟩;rw[K]at p;injection p with p
     subst p
     let Q1:AExit->cf->Hp->Prop:=λx e Z=>match x with
      | .exit i=>if i=xg l then Q .normal e Z else Q (.exit i) e Z
      |x=>Q x e Z
     let I:AC:= .block (At l) (.seq yc (.exit (xg l)))
     have hne:xg l≠At l:=by unfold xg At;omega
     have round: ∀(n:Nat) (e:cf) (Z:Hp) (μ:Mu) (a:Act) (w:World) (μ0:Mu) (w0:World),jc (vL T I) Q1 (n+1) e Z->R B μ Z w->eU μ N e a.tmps->a.defers=[]->μ0.le μ->Below B w0 w->
       y.wp P (IZ l (λa w=>Jst B N μ0 w0 (λn=>jc (vL T I) Q1 n) n a w) (qv B N μ0 w0 Q)) a w:=by
      intro n e Z μ a w μ0 w0 d k g m hμ J;simp only[jc,I,vL]at d;refine wp_mono (ihy.1 yc s _ e Z μ a w d k g m) λx' F z hp=> ?_
      obtain⟨ax,e',Z',r,q1,q2,q3,q4,q5,q6,q7⟩:=hp;refine Qv (λS=> ?_) λS=> ?_
      .subst S;cases ax with
       |exit i=>
        have q1:i=At l:=q1;subst q1;simp only[if_true]at q2;exact⟨e',Z',r,q2,Mu.le_trans hμ q3,q4,q5,q6,J.trans q7⟩
       |_=>exact q1.elim
      .cases ax with
       |normal=>
        simp only[zF hne]at q2;simp only[Q1,if_true]at q2;exact⟨.normal,e',Z',r,q1,q2,Mu.le_trans hμ q3,q4,q5,q6,J.trans q7⟩
       |ret=>exact⟨.ret,e',Z',r,q1,q2,Mu.le_trans hμ q3,q4,q5,q6,J.trans q7⟩
       |exit i=>
        have M:i≠At l/\i≠xg l:=by
         cases x' with
         |exit j=>
          obtain⟨rfl,hj⟩:=q1;unfold At xg;omega
         |goto H=>
          have q1:i=CH+2*H:=q1;have:H≠l:=λe=>S (by rw[e])
          unfold At xg;omega
         |_=>exact q1.elim
        simp only[zF M.1,Q1,zF M.2]at q2;exact⟨.exit i,e',Z',r,q1,q2,Mu.le_trans hμ q3,q4,q5,q6,J.trans q7⟩
     refine⟨.seq .skip y,λn=>jc (vL T I) Q1 n,by simp[findLabel],λμ0 w0=>⟨λe Z μ a w d k g m hμ J=> ?_,λn a w hJ=> ?_⟩⟩
     .have hw': ∃n,jc (vL T I) Q1 n e Z:=d
      obtain⟨n,hn⟩:=hw';cases n with
      |zero=>exact hn.elim
      |succ n=>
       refine wp_seq (wp_label ?_);exact wp_mono (round n e Z μ a w μ0 w0 hn k g m hμ J) λx' F z h'=>Ld (λ_ _ h=>⟨n,h⟩) (λ_ _ _ h=>h) h'
     .obtain⟨e,Z,μ,hn,hμ,k,g,m,J⟩:=hJ;cases n with
      |zero=>exact hn.elim
      |succ n=>
       refine wp_seq (wp_skip ?_);exact wp_mono (round n e Z μ a w μ0 w0 hn k g m hμ J) λx' F z h'=>Ld (λ_ _ h=>⟨n,Nat.lt_succ_self n,h⟩) (λ_ _ _ h=>h) h'
    .
     rename_i hg;split at h
     .rename_i u;obtain⟨yc,s,h⟩:=Option.map_eq_some_iff.1 h;subst h;have K:il (.seq (.label l) y)=il y:=by simp[il,EK,hg]
      obtain⟨s1,s2⟩:=ihy.2 yc s Q;refine⟨λhn e Z μ a w d k g m=>wp_seq (wp_label ?_),λH p=> ?_⟩
      .exact s1 (K▸hn) e Z μ a w d k g m
      .rw[K]at p;obtain⟨C,L,hf,hJ⟩:=s2 H p
       have hlab:findLabel (.seq (.label l) y) H=O C:=by
        have:findLabel (.label l) H=Y:=DW _ _ (by
         unfold GS at u;rw[p]at u
         simpa using u)
        simp[findLabel,hf]at this⊢;simp[this]
       refine⟨C,L,hlab,λμ0 w0=>⟨λe Z μ a w d k g m hμ J=>wp_seq (wp_label ?_),(hJ μ0 w0).2⟩⟩;exact(hJ μ0 w0).1 e Z μ a w d k g m hμ J
     .cases h
   .rename_i hl;split at h
    .rename_i ax ay s h2;split at h
     .rename_i u;rw[bB,bD]at u;obtain⟨u,hnj⟩:=u;injection h with h
      subst h;have K:il (.seq x y)=il y:=by simp[il,hl]
      obtain⟨s1,s2⟩:=ihy.2 ay h2 Q;refine⟨λhn e Z μ a w d k g m=> ?_,λH p=> ?_⟩
      .simp only[vL]at d;refine Tl (ihx.1 ax s _ e Z μ a w d k g m) (λe' Z' r F z V g1 g2 g3 g4 g5=> ?_) λx' F z S hp=> ?_
       .exact wp_mono (s1 (K▸hn) e' Z' r F z V g2 g3 g4) λx'' a'' w'' h''=>h''.trans g1 g5
       .obtain⟨q,e',Z',r,h0,U,E,h3'⟩:=Ih hp S;refine⟨q,e',Z',r,U, ?_,h3'⟩;cases q with
        |normal=>exact(h0 rfl).elim
        |exit i=>exact E
        |ret=>exact E
      .rw[K]at p;obtain⟨C,L,hf,hJ⟩:=s2 H p
       have hlab:findLabel (.seq x y) H=O C:=by
        have:findLabel x H=Y:=DW _ _ (by
         unfold GS at u;rw[p]at u
         simpa using u)
        simp[findLabel,hf,this]
       have hnj:ax.noJump=Za:=by
        rcases hnj with h|h
        .rw[p]at h;cases h
        .exact h
       refine⟨C,L,hlab,λμ0 w0=>⟨λe Z μ a w d k g m hμ J=> ?_,(hJ μ0 w0).2⟩⟩;simp only[vL]at d;refine Tl (ihx.1 ax s _ e Z μ a w (RT hM _ _ e Z d) k g m) (λe' Z' r F z V g1 g2 g3 g4 g5=> ?_) λx' F z S hp=> ?_
       .exact(hJ μ0 w0).1 e' Z' r F z V.2 g2 g3 g4 (Mu.le_trans hμ g1) (J.trans g5)
       .obtain⟨q,e',Z',r,h0,U,E,h3',h4',h5',h6',h7'⟩:=Ih hp S;refine Qv (λhg=> ?_) λ_=> ?_
        .subst hg;cases q with
         |exit i=>
          have k1:i=CH+2*H:=U;have:=Nx hnj (E.1 i rfl);omega
         |_=>exact U.elim
        .refine⟨q,e',Z',r,U, ?_,Mu.le_trans hμ h3',h4',h5',h6',J.trans h7'⟩;cases q with
         |normal=>exact(h0 rfl).elim
         |exit i=>exact E.2
         |ret=>exact E.2
     .cases h
    .cases h
 |cond c x y ihx ihy=>
  refine(λA=>⟨A,TK.of rfl rfl A⟩) ?_;intro W h Q e Z μ a w d k g m;simp only[lX,L4,pU]at h;split at h
  .rename_i c' ax ay h0 s h2;injection h with h
   subst h;obtain⟨rfl,k0⟩:=ar h0;have hv:=g.ev k0;simp only[vL]at d;split at d
   .rename_i J;rw[J]at hv;exact wp_cond_true hv.bool_inv (ihx.1 ax s Q e Z μ a w d k g m)
   .rename_i J;rw[J]at hv;exact wp_cond_false hv.bool_inv (ihy.1 ay h2 Q e Z μ a w d k g m)
   .exact d.elim
  .cases h
 |block id b ih=>
  refine(λA=>⟨A,TK.of rfl rfl A⟩) ?_;intro W h Q e Z μ a w d k g m;simp only[lX,L4,pU]at h;split at h
  .rename_i hlt;obtain⟨ab,s,h⟩:=Option.map_eq_some_iff.1 h;subst h;simp only[vL]at d;refine wp_block (wp_mono (ih.1 ab s _ e Z μ a w d k g m) λx F z S=> ?_);obtain⟨q,e',Z',r,hxr,V,g1,g2,g3,g4,g5⟩:=S;cases q with
   |normal=>
    cases x<;>simp[xd]at hxr;exact⟨.normal,e',Z',r,trivial,V,g1,g2,g3,g4,g5⟩
   |exit i=>
    simp only at V;cases x with
    |exit j=>
     obtain⟨rfl,hj⟩:=hxr;simp only[Exit.inBlock];split
     .rename_i hid;rw[zE hid]at V;exact⟨.normal,e',Z',r,trivial,V,g1,g2,g3,g4,g5⟩
     .rename_i hid;rw[zF hid]at V;exact⟨.exit i,e',Z',r,⟨rfl,hj⟩,V,g1,g2,g3,g4,g5⟩
    |goto l=>
     have hxr':i=CH+2*l:=hxr;rw[Zh]at V;exact⟨.exit i,e',Z',r,hxr,V,g1,g2,g3,g4,g5⟩
    |_=>exact hxr.elim
   |ret=>
    cases x<;>simp[xd]at hxr;exact⟨.ret,e',Z',r,trivial,V,g1,g2,g3,g4,g5⟩
  .cases h
 |loop b ih=>
  refine(λA=>⟨A,TK.of rfl rfl A⟩) ?_;intro W h Q e Z μ a w d k g m;simp only[lX,L4,pU]at h;obtain⟨ab,s,h⟩:=Option.map_eq_some_iff.1 h;subst h;simp only[vL]at d;obtain⟨n,hn⟩:=d;exact PD (f:=vL T ab) (λQ e Z μ a w hf=>ih.1 ab s Q e Z μ a w hf) hn k g m μ.le_refl (Below.refl _ _)
 |scope b ih=>
  refine(λA=>⟨A,TK.of rfl rfl A⟩) ?_;intro W h Q e Z μ a w d k g m;simp only[lX,L4,pU]at h;split at h
  .rename_i ac' s;split at h
   .rename_i hno;injection h with h
    subst h;have hw':=RT hM _ Q e Z d
    have hng: ∀(H:Nat) (a:Act) (z:World),¬qv B N μ w (R6 ac' Q) (.goto H) a z:=by
     rintro H a z ⟨ax,e',Z',r,k1,k2,_⟩;cases ax with
     |exit i=>
      have k1:i=CH+2*H:=k1;have:=Nx hno (k2.1 i rfl);omega
     |_=>exact k1.elim
    have fin: ∀{x:Exit} {F:Act} {z:World},qv B N μ w (R6 ac' Q) x F z->qv B N μ w Q x F z:=λh=>ap3 h λ_ _ _ _ h=>h.2
    obtain⟨s1,s2⟩:=ih.2 ac' s (R6 ac' Q);cases hl:il b with
    |none=>
     refine wp_scope_straight (wp_mono (s1 hl e Z μ a w hw' k g m) λx F z S=> ?_);cases x with
     |goto H=>exact(hng H F z S).elim
     |_=>exact fin S
    |some l=>
     obtain⟨C,L,hf,hJ⟩:=s2 l hl;obtain⟨j1,j2⟩:=hJ μ w;refine wp_mono (Rr l (Jst B N μ w L) hf hng (j1 e Z μ a w hw' k g m μ.le_refl (Below.refl _ _)) j2) λx F z S=>fin S
   .cases h
  .cases h
 |exit id=>
  refine(λA=>⟨A,TK.of rfl rfl A⟩) ?_;intro W h Q e Z μ a w d k g m;simp only[lX,L4,pU]at h;split at h
  .rename_i hlt;injection h with h
   subst h;exact wp_exit ⟨.exit id,e,Z,μ,⟨rfl,hlt⟩,d,μ.le_refl,k,g,m,Below.refl _ _⟩
  .cases h
 |ret=>
  refine(λA=>⟨A,TK.of rfl rfl A⟩) ?_;intro W h Q e Z μ a w d k g m;simp[lX,L4,pU]at h;subst h;exact wp_ret ⟨.ret,e,Z,μ,trivial,d,μ.le_refl,k,g,m,Below.refl _ _⟩
 |_=>
  refine(λA=>⟨A,TK.of rfl rfl A⟩) ?_;intro W h;simp[lX,L4,pU]at h
theorem ag0 (d:rk T)(k: ∀f,CA P f (T f))(c:Code)(b:AC)(h:lX P N c=O b)(Q:AExit->cf->Hp->Prop)(e:cf)(Z:Hp)(μ:Mu)(a:Act)(w:World)(n:vL T b Q e Z)
  (g:R B μ Z w) (m:eU μ N e a.tmps) (l:a.defers=[]):c.wp P (qv B N μ w Q) a w:=(XC d k c).1 b h Q e Z μ a w n g m l
end
end
end Go.Ab
