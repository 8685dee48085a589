/- A part of the proof. No condition. -/
import Derived.Test.YtlkdfancfgakdaaGreatA2
import Derived.RangeFuncFrom
import Derived.RangeFuncLeaves
import Derived.IntWalk
import Derived.Below
set_option linter.unusedVariables false
set_option linter.unusedSimpArgs false
set_option linter.unusedSectionVars false
namespace Go.Ab
open Option renaming some->O,none->Y
open Bool renaming true->Za,false->Zb
open Decidable renaming decide->Zc
variable {w:World}{a:Act}{c:Code}{x:Exit}{g:G}{Z:Hp}{e:cj}{f:FuncId}{v:Value}
section
open List renaming mem_append_right -> bB, mem_cons_of_mem -> bD, mem_cons_self -> cB
open Nat renaming le_refl -> aB, lt_of_lt_of_le -> aD
open Go.RowKit
section
variable {P:Program} {o:Oper} {a:Act} {w w':World} {B:Base P} {N:Nat} {μ:Mu} {e:cj} {Z Z':Hp} {v:Value}
theorem F2.ofIdx {α β:Type}{r:α->β->Prop}: ∀(l:List α) (m:List β),l.length=m.length->(∀(i:Nat) (a:α) (b:β),l[i]?=O a->m[i]?=O b->r a b)->F2 r l m
 |[],[],_,_=> .nil
 |a::l,b::m,h,k=> .cons (k 0 a b rfl rfl) (F2.ofIdx l m (by simpa using h) λi x y p s=>k (i+1) x y (by simpa using p) (by simpa using s))
theorem di.list {tmps:Array Value}(h:di μ N e tmps):F2 (VR μ) ((List.range N).map e) tmps.toList:=by
 refine F2.ofIdx _ _ (by simp[h.1]) λi x y p s=> ?_
 have A:i<N:=by
  rcases Nat.lt_or_ge i N with q|q
  .exact q
  .rw[List.getElem?_eq_none (by simpa using q)]at p;cases p
 simp[A]at p;subst p;have:=h.2 i
 have u:tmps.getD i Go.undef=y:=by
  rw[Array.getElem?_toList]at s;simp[Array.getD_eq_getD_getElem?,s]
 rw[u]at this;exact this
theorem R.addLoop (h:R B μ Z w)(f:FuncId)(r:Loop)(vals:List Value)(H:Di P f=O (r.tmps.size,r.params,r.assign,r.body))(hp:r.pending=Y)(hst:r.state= .ready)(hv:F2 (VR μ) vals r.tmps.toList):
  R B (μ.add Z.n ⟨w.heap.size,0,r.tmps.size,1,f,O (.bool Za)⟩) (Z.add ⟨Kv Za::vals,Za,1⟩) (w.alloc (.loop r))/\μ.le (μ.add Z.n ⟨w.heap.size,0,r.tmps.size,1,f,O (.bool Za)⟩):=by
 have hf:μ Z.n=Y:=h.fresh _ (aB _);have A:μ.le (μ.add Z.n ⟨w.heap.size,0,r.tmps.size,1,f,O (.bool Za)⟩):=Mu.le_add hf
 have old: ∀b x,b≠Z.n->(Z.add ⟨Kv Za::vals,Za,1⟩).m b=O x->Z.m b=O x:=by
  intro b x u p;simpa[Hp.add,u]using p
 have new: ∀x,(Z.add ⟨Kv Za::vals,Za,1⟩).m Z.n=O x->x=⟨Kv Za::vals,Za,1⟩:=by
  intro x p;simp[Hp.add]at p;exact p.symm
 have s: ∀b x g,Z.m b=O x->μ b=O g->g.c<w.heap.size:=λb x g p D=>(h.get p D).lt
 have U:(w.alloc (.loop r)).heap.size=w.heap.size+1:=by simp
 refine⟨⟨by rw[U];exact Nat.le_succ_of_le h.base,λk W=>(Below.heap_alloc w _ _ (aD W h.base)).trans (h.old k W),λb u=> ?_,λb x p=> ?_,λb V x x' g g' p E hne ho D F=> ?_, ?_,h.dfr_alloc _⟩,A⟩
 .have:Z.n+1<=b:=u;unfold Mu.add;rw[Zh];exact h.fresh b (by omega)
 .by_cases u:b=Z.n
  .subst u;obtain rfl:=new x p
   exact⟨⟨w.heap.size,0,r.tmps.size,1,f,O (.bool Za)⟩,by simp[Mu.add],⟨by rw[U];exact Nat.lt_succ_self _,rfl,λL=>(by cases L),λL=>(by cases L),λs' H=>(by injection H with H;cases H),λH=>(by injection H with H;cases H),λk' W=>(by injection W with W;cases W),λ_=>
    ⟨h.base,r,heap_alloc_new w _,H,hp,rfl,λfl vs e=>(by
     injection e with X e2
     have X:=WA X;subst X e2
     exact⟨hst,λ_=>(by
      have e3:List.take r.tmps.size vals=vals:=by
       rw[<-Array.length_toList,<-hv.length,List.take_length]
      show F2 _ (List.take r.tmps.size vals) _;rw[e3]
      exact hv.imp λ_ _ k=>k.mono A)⟩)⟩⟩⟩
  .have E:=old b x u p;obtain⟨g,M,J⟩:=h.live b x E;exact⟨g,A _ _ M,(J.mono A).kept (by rw[U];exact Nat.le_succ _) (Below.heap_alloc w _ _ J.lt) (λhi q hq=>Below.heap_alloc w _ _ (h.buf E M hi hq).2.1)⟩
 .by_cases u:b=Z.n
  .subst u;have C:V≠Z.n:=λe=>hne e.symm
   have:g.c=w.heap.size:=by simp[Mu.add]at D;rw[<-D]
   have J:μ V=O g':=by simpa[Mu.add,C]using F
   have:=s V x' g' (old _ _ C E) J;omega
  .have M:μ b=O g:=by simpa[Mu.add,u]using D
   have hx1:=old b x u p;by_cases C:V=Z.n
   .subst C;have:g'.c=w.heap.size:=by simp[Mu.add]at F;rw[<-F]
    have:=s b x g hx1 M;omega
   .have J:μ V=O g':=by simpa[Mu.add,C]using F
    exact h.inj b V x x' g g' hx1 (old _ _ C E) hne ho M J
 .refine h.sep.of (λb x g p D=> ?_) (λb x g p D hi _=> ?_)
  .by_cases u:b=Z.n
   .subst u;have X:g=⟨w.heap.size,0,r.tmps.size,1,f,O (.bool Za)⟩:=by simp[Mu.add]at D;exact D.symm
    subst X;exact .inr ⟨λL=>(by injection L with L;cases L),λb1 x1 g1 q M J h3 h4 e=>by have:=(h.buf M J h3 h4).2.1;simp only at e;omega⟩
   .exact .inl ⟨x,old b x u p,by simpa[Mu.add,u]using D⟩
  .unfold nz;rw[show(w.alloc (.loop r)).heap[g.c]?=w.heap[g.c]? from Below.heap_alloc w _ _ (s b x g p D)]
theorem R.allocO (h:R B μ Z w)(o:Obj):R B μ Z (w.alloc o):=by
 have u: ∀b x g,Z.m b=O x->μ b=O g->g.c<w.heap.size:=λb x g C M=>(h.get C M).lt
 refine⟨Nat.le_trans h.base (by simp),λk L=>(Below.heap_alloc w _ _ (aD L h.base)).trans (h.old k L),h.fresh,λb x C=> ?_,h.inj, ?_,h.dfr_alloc _⟩
 .obtain⟨g,F,H⟩:=h.live b x C;exact⟨g,F,H.kept (by simp) (Below.heap_alloc w _ _ H.lt) (λJ q U=>Below.heap_alloc w _ _ (h.buf C F J U).2.1)⟩
 .refine h.sep.of (λE D A s p=> .inl ⟨D,s,p⟩) (λE D A s p J _=> ?_);unfold nz;rw[show(w.alloc o).heap[A.c]?=w.heap[A.c]? from Below.heap_alloc w _ _ (u E D A s p)]
theorem R.moreD {ds:List Nat}{D:Nat}(h:R (more B ds) μ Z w)(A:w.heap[D]?=O (.deferred (O [])))(C:D∉(more B ds).ds)(s:B.n<=D):R (more B (D::ds)) μ Z w:=
 ⟨h.base,h.old,h.fresh,λb x E=>let⟨g,u,p⟩:=h.live b x E;⟨g,u,⟨p.lt,p.es,p.cell,p.own,p.iter,p.bld,p.mp,p.lp⟩⟩,h.inj,h.sep,⟨List.nodup_cons.2 ⟨C,h.dfr.1.1⟩,λk hk=>(by
  rcases List.mem_cons.1 (show k∈D::(ds++B.ds)from hk)with rfl|hk
  .exact s
  .exact h.dfr.1.2 k hk)⟩,λk hk=>by
  rcases List.mem_cons.1 (show k∈D::(ds++B.ds)from hk)with rfl|hk
  .exact A
  .exact h.dfr.2 k hk⟩
theorem R.leave (h:R B μ Z w)(c:Nat)(V:B.n<=c)(u: ∀b x g,Z.m b=O x->μ b=O g->g.c≠c/\(g.it=O .nilFunc->nz w g.c≠O c))(H:c∉B.ds)(D:w'.heap.size=w.heap.size)(p: ∀k,k≠c->w'.heap[k]?=w.heap[k]?):R B μ Z w':=by
 refine⟨by rw[D];exact h.base,λk C=>(p k (by omega)).trans (h.old k C),h.fresh,λb x F=> ?_,h.inj, ?_,h.dfr.1,λk C=>(p k (λe=>H (e▸C))).trans (h.dfr.2 k C)⟩
 .obtain⟨g,E,U⟩:=h.live b x F;exact⟨g,E,h.stays F E (by rw[D];exact aB _) c (λk C _=>p k C) (u b x g F E).1 (u b x g F E).2⟩
 .refine h.sep.of (λL J M A s=> .inl ⟨J,A,s⟩) (λL J M A s W _=> ?_);unfold nz;rw[p _ (u L J M A s).1]
theorem R.less {ds:List Nat}(h:R (more B ds) μ Z w):R B μ Z w:=
 ⟨h.base,h.old,h.fresh,λb x A=>let⟨g,u,p⟩:=h.live b x A;⟨g,u,⟨p.lt,p.es,p.cell,p.own,p.iter,p.bld,p.mp,p.lp⟩⟩,h.inj,h.sep,⟨(List.nodup_append.1 h.dfr.1.1).2.1,λk s=>h.dfr.1.2 k (bB _ s)⟩,λk s=>h.dfr.2 k (bB _ s)⟩
theorem R.shut {ds:List Nat}{D:Nat}(h:R (more B (D::ds)) μ Z w):R (more B ds) μ Z (w.putObj D (.deferred Y)):=by
 have hD:=h.dfr.2 D (cB ..);have u: ∀k,k≠D->(w.putObj D (.deferred Y)).heap[k]?=w.heap[k]?:=λk A=>World.putObj_heap_other A
 have hn:=List.nodup_cons.1 (show(D::(ds++B.ds)).Nodup from h.dfr.1.1);have hnD:B.n<=D:=h.dfr.1.2 D (cB ..)
 have cells: ∀{c:Nat} {cs:Array Value} {e:TypeId} {fr:Nat×Nat},w.heap[c]?=O (.cells cs e fr)->c≠D:=λL e=>by
  subst e;rw[hD]at L;cases L
 have bld: ∀{b:Nat} {x:Blk} {g:G},Z.m b=O x->μ b=O g->g.it=O .nilFunc->g.c≠D/\∀k,nz w g.c=O k->k≠D:=λhx hg U=>by
  obtain⟨_,p,s,_,_,hB,v,F,W,hne⟩:=(h.get hx hg).bld U;refine⟨cells F,λk A=> ?_⟩;rcases W.2 with hn|⟨q,cap,cur,fz,hv,hg,hgg,rest⟩
  .rw[hn.1]at F;simp[nz,F,Value.ownBlock]at A
  .subst hv;simp[nz,F,Value.ownBlock]at A;subst A;exact cells hgg
 refine⟨by rw[World.putObj_size];exact h.base,λk A=>(u k (Nat.ne_of_lt (aD A hnD))).trans (h.old k A),h.fresh,λb x hx=> ?_,h.inj, ?_,⟨hn.2,λk A=>h.dfr.1.2 k (bD _ A)⟩,λk A=>(u k λe=>hn.1 (e▸A)).trans (h.dfr.2 k (bD _ A))⟩
 .obtain⟨g,h1,H⟩:=h.live b x hx;refine⟨g,h1, ?_⟩;by_cases L:g.c=D
  .have E:w.heap[g.c]?=O (.deferred (O [])):=by rw[L];exact hD
   refine⟨by simpa using H.lt,H.es,λh0 i v hv=> ?_,λh0 ho=> ?_,λs X=> ?_,λU=>((bld hx h1 U).1 L).elim,λk X=> ?_,λX=> ?_⟩
   .obtain⟨v',C,_⟩:=H.cell h0 i v hv;simp[World.cell?,E]at C
   .obtain⟨_,_,cur,e,fr,C,_⟩:=H.own h0 ho;exact(cells C L).elim
   .obtain⟨_,p,_,C⟩:=H.iter s X;rw[E]at C;cases C
   .obtain⟨_,es,cl,s,_,C,_⟩:=H.mp k X;rw[E]at C;cases C
   .obtain⟨_,r,C,_⟩:=H.lp X;rw[E]at C;cases C
  .have J:Lives (more B (D::ds)) μ (w.putObj D (.deferred Y)) x g:=H.kept (by simp) (u _ L) λU k A=>u k ((bld hx h1 U).2 k A)
   exact⟨J.lt,J.es,J.cell,J.own,J.iter,J.bld,J.mp,J.lp⟩
 .refine h.sep.of (λb' x' g' V M=> .inl ⟨x',V,M⟩) (λb' x' g' V M U _=> ?_);unfold nz;rw[u _ (bld V M U).1]
theorem R.swap (h:R B μ Z w){b:Nat}{x J:Blk}(hx:Z.m b=O x)(ho:x.own=Za)(ho':J.own=Za)(U:μ b=O g)(W:g.it=O (.bool Za))(hsz:w'.heap.size=w.heap.size)(p: ∀k,k≠g.c->w'.heap[k]?=w.heap[k]?)(hL:Lives B μ w' J g):
  R B μ (Z.set b (O J)) w':=by
 have hl:=h.get hx U;obtain⟨o1,r,o4,_⟩:=hl.lp W
 have old: ∀s y,s≠b->(Z.set b (O J)).m s=O y->Z.m s=O y:=by
  intro s y E C;simpa[Hp.set,E]using C
 have new: ∀y,(Z.set b (O J)).m b=O y->y=J:=by
  intro y C;simp[Hp.set]at C;exact C.symm
 have u: ∀s y,(Z.set b (O J)).m s=O y->∃z,Z.m s=O z/\z.own=y.own:=by
  intro s y C;by_cases E:s=b
  .subst E;obtain rfl:=new y C;exact⟨x,hx,ho.trans ho'.symm⟩
  .exact⟨y,old s y E C,rfl⟩
 refine⟨by rw[hsz];exact h.base,λk F=>(p k (by omega)).trans (h.old k F),h.fresh,λs y C=> ?_,λb1 b2 x1 x2 g1 g2 M h2 H X hg1 hg2=> ?_, ?_,h.dfr_but (c:=g.c) (λd=>by rw[o4];simp) λk F _=>p k F⟩
 .by_cases E:s=b
  .subst E;obtain rfl:=new y C;exact⟨g,U,hL⟩
  .have D:=old s y E C;obtain⟨L,M,h2⟩:=h.live s y D;exact⟨L,M,h.stays D M (by rw[hsz];exact aB _) g.c (λk F _=>p k F) (λe=>h.inj b s x y g L hx D (λe=>E e.symm) ho U M e.symm) (λV F=>((h.sep s y L D M V _ F b x g hx U).1 rfl))⟩
 .obtain⟨y1,hy1,e1⟩:=u _ _ M;obtain⟨y2,hy2,_⟩:=u _ _ h2;exact h.inj b1 b2 y1 y2 g1 g2 hy1 hy2 H (e1.trans X) hg1 hg2
 .refine h.sep.of (λs y L C A=> .inl (let⟨z,hz,_⟩:=u s y C;⟨z,hz,A⟩)) (λs y L C A V _=> ?_);have H:s≠b:=λe=>by subst e;rw[U]at A;injection A with A;subst A;rw[W]at V;injection V with V;cases V
  unfold nz;rw[p _ (λe=>h.inj b s x y g L hx C (λe=>H e.symm) ho U A e.symm)]
theorem R.turn (h:R B μ Z w){b:Nat}{x:Blk}{vals:List Value}{fl fl':Bool}(H:Z.m b=O x)(V:x.own=Za)(M:x.cells=Kv fl::vals)(F:μ b=O g)(p:g.it=O (.bool Za)){r:Loop}(W:w.heap[g.c]?=O (.loop r)):
  R B μ (Z.set b (O ⟨Kv fl'::vals,Za,x.es⟩)) (w.putObj g.c (.loop {r with state:=if fl' then LoopState.ready else LoopState.busy,pending:=Y})):=by
 have D:=h.get H F;obtain⟨X,r1,A,o5,o6,o7,o8⟩:=D.lp p;rw[W]at A;injection A with A
 injection A with A
 subst A;refine h.swap H V rfl F p (by simp) (λk U=>World.putObj_heap_other U) ?_;refine⟨by simpa using D.lt,D.es,λC=>(by rw[p]at C;cases C),λC=>(by rw[p]at C;cases C),λs u=>(by rw[p]at u;injection u with u;cases u),λu=>(by rw[p]at u;injection u with u;cases u),λk u=>(by rw[p]at u;injection u with u;cases u),λ_=>⟨X,_,World.putObj_heap_same D.lt,o5,rfl,o7,λL vs e=> ?_⟩⟩;injection e with E J
 have E:=WA E;subst E J;exact⟨rfl,(o8 fl vals M).2⟩
theorem R.endLoop (h:R B μ Z w){b:Nat}{x:Blk}(H:Z.m b=O x)(W:x.own=Za)(D:μ b=O g)(E:g.it=O (.bool Za))(F:w'.heap.size=w.heap.size)(p: ∀k,k≠g.c->w'.heap[k]?=w.heap[k]?):
  R B μ (Z.set b Y) w':=by
 obtain⟨X,r,o4,_⟩:=(h.get H D).lp E
 have V: ∀u y,(Z.set b Y).m u=O y->Z.m u=O y/\u≠b:=by
  intro u y s;simp only[Hp.set]at s;split at s
  .cases s
  .rename_i A;exact⟨s,A⟩
 refine(h.kill b).leave g.c X (λu y J s C=> ?_) (λL=> ?_) F p
 .obtain⟨s,A⟩:=V u y s;exact⟨λe=>h.inj b u x y g J H s (λe=>A e.symm) W D C e.symm,λM U=>(h.sep u y J s C M _ U b x g H D).1 rfl⟩
 .have:=h.dfr.2 _ L;rw[o4]at this;cases this
end
end
section
open Bool renaming and_eq_true -> bB, or_eq_true -> bD, false_eq_true -> cB
open List renaming mem_cons_of_mem -> aB, mem_cons_self -> aD, mem_append_left -> cD, mem_append_right -> dB
open Nat renaming le_succ_of_le -> dD
open Go.RowKit
def KZ (P:Program)(N:Nat)(ops:Array Oper):List Oper->Option DL
 |[]=>O []
 |o::r=>match K0 P N ops o,KZ P N ops r with
  |some x,O l=>O ((x,(o.after.toList.filter (Region.binds .any ·)).map (·.on))::l)
  |_,_=>Y
def AC.outsL :AC->List Nat
 | .seq a b| .cond _ a b=>a.outsL++b.outsL
 | .block id b=>b.outsL.filter λi=> !(i==id)
 | .loop b=>b.outsL
 | .exit j=>[j]
 |_=>[]
theorem al3 : ∀(c:AC) (i:Nat),c.outs i=Za->i∈c.outsL:=by
 intro c;induction c with
 |seq a b p s=>
  intro i h;simp only[AC.outs,bD]at h;exact List.mem_append.2 (h.elim (λh=> .inl (p i h)) λh=> .inr (s i h))
 |cond c a b p s=>
  intro i h;simp only[AC.outs,bD]at h;exact List.mem_append.2 (h.elim (λh=> .inl (p i h)) λh=> .inr (s i h))
 |block id b u=>
  intro i h;simp only[AC.outs,bB]at h;exact List.mem_filter.2 ⟨u i h.1,h.2⟩
 |loop b u=>intro i h;exact u i h
 |exit j=>intro i h;simp[AC.outs]at h;simp[AC.outsL,h]
 |_=>intro i h;simp[AC.outs]at h
def AC.noJump (c:AC):Bool:=c.outsL.all λi=>Zc (i<Fu)
theorem PX {c:AC}(h:c.noJump=Za){i:Nat}(p:c.outs i=Za):i<Fu:=by
 have:=List.all_eq_true.1 h i (al3 c i p);exact of_decide_eq_true this
def wg :Code->List Nat
 | .seq a b=>wg a++wg b
 | .label l=>[l]
 |_=>[]
theorem Gu : ∀(c:Code) (l:Nat),l∉wg c->findLabel c l=Y:=by
 intro c;induction c with
 |seq a b p s=>
  intro l h;simp only[wg,List.mem_append,not_or]at h;simp only[findLabel,p l h.1,s l h.2]
 |label u=>
  intro l h;simp only[wg,List.mem_singleton]at h;simp only[findLabel];rw[zF (by simpa using λe=>h e.symm)]
 |_=>intro l h;rfl
def Jl (l:Nat):Code->Bool
 | .goto h=>h==l
 | .seq a b| .cond _ a b=>Jl l a||Jl l b
 | .block _ b| .loop b| .scope b=>Jl l b
 |_=>Zb
def Hq :Code->Option Nat
 | .label l=>O l
 |_=>Y
theorem Rk {l:Nat}(h:Hq c=O l):c= .label l:=by
 cases c<;>simp[Hq]at h;rw[h]
def lu :Code->Option Nat
 | .seq a b=>match Hq a with
  |some l=>if Jl l b then O l else lu b
  |none=>lu b
 |_=>Y
def De (l:Nat):Nat:=Fu+2*l
def A0 (l:Nat):Nat:=Fu+2*l+1
def az3 (l:Nat)(b:AC):AC:= .block (A0 l) (.loop (.block (De l) (.seq b (.exit (A0 l)))))
def Js (a b:Code):Bool:=match lu b with
 |some l=> !(wg a).contains l
 |none=>Za
def um (x:Option AC):Option AC×Option AC:=(x,x)
def aQ4 :Option AC->Option AC->Option AC
 |some a,O b=>O (.seq a b)
 |_,_=>Y
def VW (a b:Code)(h p sb:Option AC):Option AC:=match Hq a with
 |some l=>if Jl l b then p.map (az3 l)else if Js a b then sb.map (.seq .skip)else Y
 |none=>match h,sb with
  |some x,O y=>if Js a b&&((lu b).isNone||x.noJump)then O (.seq x y)else Y
  |_,_=>Y
def Ot (P:Program)(fi:FuncId)(N:Nat):Code->Option AC×Option AC
 | .skip=>um (O .skip)
 | .label _=>um (O .skip)
 | .region _ ops draw=>um (if draw then match KZ P N ops ops.toList with
   |some l=>if EL l&&P.follows .mixedOrders then(match Hu l l.length [] []with
    |some h=>O (.sched h)
    |none=>O (.draw l))else Y
   |none=>Y
  else(JS P N ops ops.toList).map .region)
 | .seq a b=>(aQ4 (Ot P fi N a).1 (Ot P fi N b).1,VW a b (Ot P fi N a).1 (Ot P fi N b).1 (Ot P fi N b).2)
 | .cond c a b=>um (match xZ c,(Ot P fi N a).1,(Ot P fi N b).1 with
  |some c,O a,O b=>O (.cond c a b)
  |_,_,_=>Y)
 | .block id b=>um (if id<Fu then((Ot P fi N b).1).map (.block id)else Y)
 | .loop b=>um (((Ot P fi N b).1).map .loop)
 | .scope b=>um (match(Ot P fi N b).2 with
  |some p=>if p.noJump then O p else Y
  |none=>Y)
 | .exit id=>um (if id<Fu then O (.exit id)else Y)
 | .goto l=>um (O (.exit (De l)))
 | .ret=>um (O .ret)
 | .rangeFunc g _ _ _=>um ((xZ g).map λx=> .region [⟨Y, .rangeF fi N x,Y⟩])
 |_=>um Y
def pz (P:Program)(fi:FuncId)(N:Nat)(c:Code):Option AC:=(Ot P fi N c).1
def RU (P:Program)(fi:FuncId)(N:Nat)(c:Code):Option AC:=(Ot P fi N c).2
section
variable {P:Program} {T:lj} {ops:Array Oper} {B:Base P} {N:Nat} {fi:FuncId} {ro:Option Nat}
theorem LC : ∀{l:List Oper} {p:DL},KZ P N ops l=O p->l.length=p.length/\∀(i:Nat) o,l[i]?=O o->∃x,p[i]?=O (x,(o.after.toList.filter (Region.binds .any ·)).map (·.on))/\K0 P N ops o=O x
 |[],p,h=>by
  simp[KZ]at h;subst h;exact⟨rfl,λi o h=>by simp at h⟩
 |o::l,p,h=>by
  simp only[KZ]at h;split at h
  .rename_i x r u A;injection h with h
   subst h;obtain⟨C,D⟩:=LC A;refine⟨by simp[C],λi E s=> ?_⟩;cases i with
   |zero=>simp at s;subst s;exact⟨x,rfl,u⟩
   |succ i=>simp at s;simpa using D i E s
  .cases h
theorem aw6 {p:DL}(h:KZ P N ops ops.toList=O p):Fits P N ops p:=by
 obtain⟨D,A⟩:=LC h;refine⟨by simpa using D,λi o u=> ?_,λi o u q=> ?_⟩
 .obtain⟨x,s,C⟩:=A i o (by simpa using u);refine⟨x, ?_,C⟩;have:ko p i=(o.after.toList.filter (Region.binds .any ·)).map (·.on):=by simp[ko,s]
  rw[this];exact s
 .obtain⟨x,s,C⟩:=A i o (by simpa using u);have:ko p i=(o.after.toList.filter (Region.binds .any ·)).map (·.on):=by simp[ko,s]
  rw[this];simp[and_assoc]
theorem R3 {ro:Option Nat}{b:Code}{f:(AExit->cj->Hp->Prop)->cj->Hp->Prop}
  (hb: ∀(Q:AExit->cj->Hp->Prop) (e:cj) (Z:Hp) (μ:Mu) (a:Act) (w:World),f Q e Z->RD B μ Z w a->di μ N e a.tmps->True->b.wpIn (Rd ro) 0 P (uN B N μ w Q) a w)
  {Q:AExit->cj->Hp->Prop} {μ0:Mu} {X:World} {n:Nat}   {μ:Mu}   (h:od f Q n e Z) (hR:RD B μ Z w a) (he:di μ N e a.tmps) (hd:True) (D:μ0.le μ) (s:Below B X w):
  (Code.loop b).wpIn (Rd ro) 0 P (uN B N μ0 X Q) a w:=by
 intro bf k cs hro C hr
 have key: ∀n e Z μ a w,od f Q n e Z->RD B μ Z w a->di μ N e a.tmps->True->μ0.le μ->Below B X w->
   ∃x F w',uN B N μ0 X Q x F w'/\ArrivesIn (Machine.fenced P (Rd ro)) P (lone (bf.atR a (.code b:: .inLoop b::k)) cs w) bf k cs x F w':=by
  intro n;induction n with
  |zero=>intro e Z μ a w h;exact h.elim
  |succ n ih=>
   intro e Z μ a w h hR he hd D s;simp only[od]at h;obtain⟨x,H,w₁,u,p⟩:=hb _ e Z μ a w h hR he hd bf (.inLoop b::k) cs hro C hr;obtain⟨ax,J,Z1,μ1,E,u,L,M,U,V,W⟩:=u;cases ax with
   |normal=>
    cases x<;>simp[AX]at E;obtain⟨x₂,a₂,w₂,hq₂,A⟩:=ih J Z1 μ1 H w₁ u M U V (Mu.le_trans D L) (s.trans W);exact⟨x₂,a₂,w₂,hq₂, .of_steps (StepsIn.trans p (.one (fenced_calm C hr rfl) stepR_inLoop)) A⟩
   |exit id=>
    cases x with
    |exit j=>
     obtain⟨rfl,hj⟩:=E;exact⟨.exit id,H,w₁,⟨.exit id,J,Z1,μ1,⟨rfl,hj⟩,u,Mu.le_trans D L,M,U,V,s.trans W⟩, .pass (x:= .inLoop b) rfl (λ_ _=> .inl (by simp)) p⟩
    |goto l=>exact⟨.goto l,H,w₁,⟨.exit id,J,Z1,μ1,E,u,Mu.le_trans D L,M,U,V,s.trans W⟩, .pass (x:= .inLoop b) rfl (λ_ _=> .inl (by simp)) p⟩
    |_=>exact E.elim
   |ret=>
    cases x<;>simp[AX]at E;exact⟨.ret,H,w₁,⟨.ret,J,Z1,μ1,trivial,u,Mu.le_trans D L,M,U,V,s.trans W⟩, .pass (x:= .inLoop b) rfl (λ_ _=> .inl (by simp)) p⟩
 obtain⟨x,F,w',u,p⟩:=key n e Z μ a w h hR he hd D s;exact⟨x,F,w',u, .of_steps (.one (fenced_calm C hr rfl) stepR_loop) p⟩
theorem GL {is:List Nat}{Z:Hp}: ∀{chk:List (Nat×(Hp->Prop))},A3 is Z chk->∀i c,(i,c)∈chk->i∈is->c Z
 |[],_,i,c,h,_=>by cases h
 |(j,d)::r,p,i,c,h,s=>by
  simp only[A3]at p;rcases List.mem_cons.1 h with h|h
  .injection h with u A
   subst u A;rw[zE (by simpa using s)]at p;exact p.1
  .split at p
   .exact GL p.2 i c h s
   .exact GL p i c h s
theorem uf {s:DL}{m:Nat}{Z:Hp}: ∀{chk:List (Nat×(Hp->Prop))},(∀i c,(i,c)∈chk->xr s i m=Zb->c Z)->DK s m Z chk
 |[],_=>trivial
 |(j,d)::r,h=>by
  simp only[DK];split
  .exact uf λi c p=>h i c (aB _ p)
  .rename_i u;exact⟨h j d (aD ..) (by simpa using u),uf λi c p=>h i c (aB _ p)⟩
theorem TY {op:AOp}{k u:Value->Hp->Prop}(s:w8 T)(p: ∀v Z',k v Z'->u v Z')(h:bn T op e Z k):bn T op e Z u:=by
 unfold bn at*;cases op<;>simp only at h⊢
 case call f xs=>exact s _ _ _ _ _ p h
 case callv f xs=>
  split at h
  .exact⟨h.1,s _ _ _ _ _ p h.2⟩
  .exact h.elim
 case rangeF f n x=>
  split at h
  .exact⟨h.1,h.2.1,s _ _ _ _ _ (λ_ Z' q=>⟨q.1,p _ _ q.2⟩) h.2.2⟩
  .exact h.elim
 all_goals
  split at h
  .exact p _ _ h
  .exact h.elim
theorem GA (M:w8 T){Q:cj->Hp->Prop}{E:DL}: ∀(f:Nat) (done u:List Nat) (D:List SItem) (chk C:List (Nat×(Hp->Prop))) (e:cj) (Z:Hp),Hu E f done u=O D->R0 T Q D C e Z->
  (∀i c,(i,c)∈chk->i∈u)->(∀i c,(i,c)∈chk->af6 E i=Za->(i,c)∈C)->Fb T Q E f done chk e Z
 |0,done,u,D,chk,C,e,Z,h,A,_,_=>by
  simp[Hu]at h;subst h;exact A
 |f+1,done,u,D,chk,C,e,Z,h,A,J,F=>by
  simp only[Hu]at h;simp only[Fb];split at h
  .rename_i i hn;split at h
   .rename_i o p ho;obtain⟨r,V,h⟩:=Option.map_eq_some_iff.1 h;subst h;simp only[R0]at A;split at A
    .rename_i s;rw[zE s];simp only[cB,if_false]at A;split at A
     .rename_i v Z1 hrun;refine GA M f _ _ _ _ _ _ _ V A (λj c hc=> ?_) (λj c hc H=> ?_)
      .by_cases L:o.op.isLoad=Za
       .rw[zE L]at hc⊢;rcases List.mem_cons.1 hc with hc|hc
        .injection hc with hc _
         subst hc;exact aD ..
        .exact aB _ (J j c hc)
       .rw[zF L]at hc⊢;exact J j c hc
      .by_cases L:o.op.isLoad=Za
       .rw[zE L]at hc;rcases List.mem_cons.1 hc with hc|hc
        .have hj:j=i:=by injection hc
         subst hj;rw[zE (by simp[L,H]),hc];exact aD ..
        .split
         .exact aB _ (F j c hc H)
         .exact F j c hc H
       .rw[zF L]at hc;split
        .exact aB _ (F j c hc H)
        .exact F j c hc H
     .exact A.elim
    .rename_i s;rw[zF s];refine GA M f _ _ _ _ _ _ _ V A (λj c hc=> ?_) F;split
     .exact aB _ (J j c hc)
     .exact J j c hc
   .cases h
  .rename_i hn;split at h
   .rename_i U;rw[U];injection h with h
    subst h;exact A
   .rename_i m U;rw[U];simp only[MU];split at h
    .rename_i o p ho;obtain⟨r,V,h⟩:=Option.map_eq_some_iff.1 h;subst h
     have hmv:Vt E m=Za:=by
      have:=(BW.1 (show m∈bp E done by rw[U];exact aD ..)).2.2.2;simpa[E6,Vt,ho]using this
     have X:m<E.length:=(BW.1 (show m∈bp E done by rw[U];exact aD ..)).1;simp only[R0]at A⊢;split at A
     .rename_i s;rw[zE s];simp only[if_true]at A;refine TY M (λv Z' H=> ?_) A;refine⟨uf λi c hc hb=> ?_,GA M f _ _ _ _ _ _ _ V H.2 J F⟩;have W:af6 E i=Za:=List.any_eq_true.2 ⟨m,List.mem_range.2 X,by simp[hmv,hb]⟩;exact GL H.1 i c (F i c hc W) (by simp[J i c hc,hb])
     .rename_i s;rw[zF s];exact GA M f _ _ _ _ _ _ _ V A J F
    .cases h
   .cases h
def Lr (l:Nat)(J:Act->World->Prop)(Q:Exit->Act->World->Prop):Exit->Act->World->Prop
 | .goto h,a,w=>(h=l/\J a w)∨(h≠l/\Q (.goto h) a w)
 |x,a,w=>Q x a w
theorem ki {b:Frame}{k:List Item}{cs:List Frame}:step P (lone (b.atR a (.code (.scope c)::k)) cs w)= .next (lone (b.atR a (.code c:: .inScope c::k)) cs w):=
 step_lone_go (by simp[stepG,stepG.exec,Frame.atR])
theorem Dj {b:Frame}{k:List Item}{cs:List Frame}:step P (lone (b.atR a (.inScope c::k)) cs w)= .next (lone (b.atR a k) cs w):=
 step_lone_go (by simp[stepG,stepG.exec,Frame.atR])
theorem uC (id:Nat)(c:Code)(k:List Item):exitTo id (.inScope c::k)=exitTo id k:=by simp[exitTo]
theorem Uf {ro:Option Nat}{rest:Code}{Q:Exit->Act->World->Prop}(l:Nat)(J:Nat->Act->World->Prop)(hf:findLabel c l=O rest)(hQ: ∀l' a w,¬Q (.goto l') a w)
  (first:c.wpIn (Rd ro) 0 P (Lr l (λa w=> ∃n,J n a w) Q) a w) (M: ∀n a w,J n a w->rest.wpIn (Rd ro) 0 P (Lr l (λa w=> ∃m,m<n/\J m a w) Q) a w):(Code.scope c).wpIn (Rd ro) 0 P Q a w:=by
 intro b k H L C U;have fc: ∀{a:Act} {w:World},(lone (b.atR a (.inScope c::k)) H w).fenced P (Rd ro):=λ{a w}=>fenced_calm C U rfl
 have D:(lone (b.atR a (.code (.scope c)::k)) H w).fenced P (Rd ro):=fenced_calm C U rfl;have hg:gotoIn l (.inScope c::k)=O (.code rest:: .inScope c::k):=by simp[gotoIn,hf]
 have key: ∀n a w,J n a w->∃e a' w',Q e a' w'/\ArrivesIn (Machine.fenced P (Rd ro)) P (lone (b.atR a (.code rest:: .inScope c::k)) H w) b k H e a' w':=by
  intro n;induction n using Nat.strongRecOn with
  |_ n ih=>
   intro a w hJ;obtain⟨e,u,A,p,h⟩:=M n a w hJ b (.inScope c::k) H L C U;cases e with
   |normal=>exact⟨.normal,u,A,p,StepsIn.trans h (.one fc Dj)⟩
   |exit id=>exact⟨.exit id,u,A,p,λk' hk=>h.1 k' (by rw[uC];exact hk),λX h2=>h.2 X (by rw[uC];exact h2)⟩
   |goto l'=>
    rcases p with⟨rfl,m,hlt,E⟩|⟨_,p⟩
    .obtain⟨W,V,w₂,F,s⟩:=ih m hlt u A E;exact⟨W,V,w₂,F, .of_steps (h.1 _ hg) s⟩
    .exact(hQ _ _ _ p).elim
   |ret=>exact⟨_,u,A,p,h⟩
   |panic ch=>exact⟨_,u,A,p,h⟩
   |outgrown=>exact⟨_,u,A,p,h⟩
 obtain⟨e,u,A,p,h⟩:=first b (.inScope c::k) H L C U
 cases e with
 |normal=>exact⟨.normal,u,A,p, .head D ki (StepsIn.trans h (.one fc Dj))⟩
 |exit id=>exact⟨.exit id,u,A,p,λk' hk=> .head D ki (h.1 k' (by rw[uC];exact hk)),λX h2=>let⟨k₁,h3,h4⟩:=h.2 X (by rw[uC];exact h2);⟨k₁,h3, .head D ki h4⟩⟩
 |goto l'=>
  rcases p with⟨rfl,n,E⟩|⟨_,p⟩
  .obtain⟨W,V,w₂,F,s⟩:=key n u A E;exact⟨W,V,w₂,F, .of_steps (.head D ki (h.1 _ hg)) s⟩
  .exact(hQ _ _ _ p).elim
 |ret=>exact⟨_,u,A,p, .of_steps (.one D ki) h⟩
 |panic ch=>exact⟨_,u,A,p, .of_steps (.one D ki) h⟩
 |outgrown=>exact⟨_,u,A,p, .of_steps (.one D ki) h⟩
theorem HR {ro:Option Nat}{Q:Exit->Act->World->Prop}(h:c.wpIn (Rd ro) 0 P (Exit.noGoto Q) a w):(Code.scope c).wpIn (Rd ro) 0 P Q a w:=by
 intro b k E H s F;have J: ∀{a:Act} {w:World},(lone (b.atR a (.inScope c::k)) E w).fenced P (Rd ro):=λ{a w}=>fenced_calm s F rfl
 have u:(lone (b.atR a (.code (.scope c)::k)) E w).fenced P (Rd ro):=fenced_calm s F rfl;obtain⟨e,C,D,A,p⟩:=h b (.inScope c::k) E H s F;cases e with
 |normal=>exact⟨.normal,C,D,A, .head u ki (StepsIn.trans p (.one J Dj))⟩
 |exit id=>exact⟨.exit id,C,D,A,λX W=> .head u ki (p.1 X (by rw[uC];exact W)),λL M=>let⟨k₁,U,V⟩:=p.2 L (by rw[uC];exact M);⟨k₁,U, .head u ki V⟩⟩
 |goto l=>exact A.elim
 |ret=>exact⟨_,C,D,A, .of_steps (.one u ki) p⟩
 |panic ch=>exact⟨_,C,D,A, .of_steps (.one u ki) p⟩
 |outgrown=>exact⟨_,C,D,A, .of_steps (.one u ki) p⟩
def Jst {P:Program}(B:Base P)(N:Nat)(p:Mu)(h:World)(L:Nat->cj->Hp->Prop)(n:Nat):Act->World->Prop:=λa w=>
 ∃e Z μ,L n e Z/\p.le μ/\RD B μ Z w a/\di μ N e a.tmps/\True/\Below B h w
def Aok (P:Program)(T:lj)(B:Base P)(fi:FuncId)(ro:Option Nat)(N:Nat)(c:Code):Prop:= ∀(h:AC),pz P fi N c=O h->∀(Q:AExit->cj->Hp->Prop) (e:cj) (Z:Hp) (μ:Mu) (a:Act) (w:World),yd T h Q e Z->
  RD B μ Z w a->di μ N e a.tmps->True->c.wpIn (Rd ro) 0 P (uN B N μ w Q) a w
def UQ (P:Program)(T:lj)(B:Base P)(fi:FuncId)(ro:Option Nat)(N:Nat)(c:Code):Prop:= ∀(u:AC),RU P fi N c=O u->∀(Q:AExit->cj->Hp->Prop),
 (lu c=Y->∀(e:cj) (Z:Hp) (μ:Mu) (a:Act) (w:World),yd T u Q e Z->RD B μ Z w a->di μ N e a.tmps->True->c.wpIn (Rd ro) 0 P (uN B N μ w Q) a w)/\
 (∀l,lu c=O l->∃h L,findLabel c l=O h/\∀s p,
  (∀(e:cj) (Z:Hp) (μ:Mu) (a:Act) (w:World),yd T u Q e Z->RD B μ Z w a->di μ N e a.tmps->True->s.le μ->Below B p w->c.wpIn (Rd ro) 0 P (Lr l (λa w=> ∃n,Jst B N s p L n a w) (uN B N s p Q)) a w)/\
  (∀n a w,Jst B N s p L n a w->h.wpIn (Rd ro) 0 P (Lr l (λa w=> ∃m,m<n/\Jst B N s p L m a w) (uN B N s p Q)) a w))
theorem UQ.of (A:RU P fi N c=pz P fi N c)(C:lu c=Y)(h:Aok P T B fi ro N c):UQ P T B fi ro N c:=λu p Q=>
 ⟨λ_=>h u (A▸p) Q,λl s=>by rw[C]at s;cases s⟩
theorem KJ {μ:Mu}{Q:AExit->cj->Hp->Prop}{u:Act}{w':World}(h:uN B N μ w Q x u w')(E:x≠ .normal): ∃p e' Z' s,p≠ .normal/\AX p x/\Q p e' Z'/\μ.le s/\RD B s Z' w' u/\di s N e' u.tmps/\True/\Below B w w':=by
 obtain⟨p,e',Z',s,A,C,D⟩:=h;refine⟨p,e',Z',s, ?_,A,C,D⟩;rintro rfl;cases x<;>first|exact A.elim|exact E rfl
theorem aD1 {μ:Mu}{Q Q':AExit->cj->Hp->Prop}{s:Act}{w':World}(h:uN B N μ w Q x s w')(E: ∀p e Z,AX p x->Q p e Z->Q' p e Z):uN B N μ w Q' x s w':=by
 obtain⟨p,A,Z',F,u,C,D⟩:=h;exact⟨p,A,Z',F,u,E _ _ _ u C,D⟩
theorem VS {x y:Code}{μ:Mu}{Q1:AExit->cj->Hp->Prop}{F:Exit->Act->World->Prop}(h:x.wpIn (Rd ro) 0 P (uN B N μ w Q1) a w)
  (W: ∀e Z A p w',Q1 .normal e Z->μ.le A->RD B A Z w' p->di A N e p.tmps->True->Below B w w'->y.wpIn (Rd ro) 0 P F p w')
  (u: ∀x p w',x≠ .normal->uN B N μ w Q1 x p w'->F x p w'):(Code.seq x y).wpIn (Rd ro) 0 P F a w:=by
 refine wpIn_seq (wpIn_mono h λX p w' s=> ?_);cases X with
 |normal=>
  obtain⟨D,E,Z',A,C,H,J,L,M,U,V⟩:=s;cases D with
  |normal=>exact W E Z' A p w' H J L M U V
  |exit i=>exact C.elim
  |ret=>exact C.elim
 |exit i=>exact u _ p w' (by simp) s
 |goto l=>exact u _ p w' (by simp) s
 |ret=>exact u _ p w' (by simp) s
 |panic ch=>exact u _ p w' (by simp) s
 |outgrown=>exact u _ p w' (by simp) s
theorem Tc {l:Nat}{J:Act->World->Prop}{F:Exit->Act->World->Prop}(s:x= .goto l->J a w)(p:x≠ .goto l->F x a w):Lr l J F x a w:=by
 cases x with
 |goto u=>
  by_cases h:u=l
  .subst h;exact .inl ⟨rfl,s rfl⟩
  .exact .inr ⟨h,p (by simpa using h)⟩
 |_=>exact p (by simp)
theorem NA {l:Nat}{J J':Act->World->Prop}{F F':Exit->Act->World->Prop}(A: ∀a w,J a w->J' a w)(u: ∀x a w,F x a w->F' x a w)(h:Lr l J F x a w):Lr l J' F' x a w:=by
 cases x with
 |goto C=>
  rcases h with⟨p,s⟩|⟨p,s⟩
  .exact .inl ⟨p,A _ _ s⟩
  .exact .inr ⟨p,u _ _ _ s⟩
 |_=>exact u _ _ _ h
theorem NY (hT: ∀f,QJ P f (T f)){g:Operand}{ps:Array Tmp}{x y:Code}(hs:Di P fi=O (N,ps,x,y)){g':Operand}(hg:xZ g=O g'){Q:AExit->cj->Hp->Prop}{μ:Mu}(L:yd T (.region [⟨Y, .rangeF fi N g',Y⟩]) Q e Z)
  (D:RD B μ Z w a) (he:di μ N e a.tmps):(Code.rangeFunc g ps x y).wpIn (Rd Y) 0 P (uN B N μ w Q) a w:=by
 obtain⟨ds,D,hd⟩:=D;obtain⟨rfl,hok⟩:=aq hg;have hv:=he.ev hok;simp only[yd,AH,wanted,if_true,bn]at L;split at L
 .rename_i J first M hev
  rw[hev]at hv;obtain⟨C,u,L⟩:=L;obtain⟨x',y',e1,e2,e3⟩:=hv.func_inv C
  have e4:x'= #[]:=by
   have:=e2.length;rw[u]at this;exact Array.toList_inj.1 (List.length_eq_zero_iff.1 this.symm)
  subst e4
  have hy:EQ J=Zb:=by
   unfold Cg at C;unfold EQ;cases q:Nat.ble 2000000 J with
   |false=>rfl
   |true=>
    rw[Nat.ble_eq]at q;have:Nat.ble 1000000 J=Za:=by rw[Nat.ble_eq];omega
    rw[this]at C;cases C
  refine wpIn_rangeFunc λfn _=> ?_
  let X:Loop:={state:= .ready,pending:=Y,fn,tmps:=a.tmps,params:=ps,assign:=x,body:=y,defers:=w.heap.size}
  have hR1:R (more B ds) μ Z (w.alloc (.deferred (O []))):=D.allocO _;have hD:(w.alloc (.deferred (O []))).heap[w.heap.size]?=O (.deferred (O [])):=World.alloc_heap_new w _;have hR2:=hR1.moreD hD (λhm=>Nat.lt_irrefl _ (Array.getElem?_eq_some_iff.1 (D.dfr.2 _ hm)).1) D.base;have H:F2 (VR μ) ((List.range N).map e) a.tmps.toList:=he.list;obtain⟨U,A⟩:=hR2.addLoop fi X _ (by rw[hs,<-he.1]) rfl rfl H;have hl:(w.alloc (.deferred (O []))).heap.size=w.heap.size+1:=by simp
  rw[hl]at U A
  have hyl:VR (μ.add Z.n ⟨w.heap.size+1,0,a.tmps.size,1,fi,O (.bool Za)⟩) (ylV fi Z.n) (.func (.yield (w.heap.size+1)) #[] #[]):=
   VR.yl (g:=⟨w.heap.size+1,0,a.tmps.size,1,fi,O (.bool Za)⟩) (by simp[Mu.add]) rfl
  have E:F2 (VR (μ.add Z.n ⟨w.heap.size+1,0,a.tmps.size,1,fi,O (.bool Za)⟩)) (ylV fi Z.n::M.toList) (#[Value.func (.yield (w.heap.size+1)) #[] #[]]++y').toList:=by
   simpa using F2.cons hyl (e3.imp λ_ _ k=>k.mono A)
  obtain⟨F,s⟩:=(hT J _ _ _ _ _ _ _ L U).1 hy E
  refine⟨w.heap.size+1,[{target:= .collected w.heap.size,args:= #[]}],(w.alloc (.deferred (O []))).alloc (.loop X),{target:= .fn (.func J) y',args:= #[.func (.yield (w.heap.size+1)) #[] #[]]},(w.alloc (.deferred (O []))).alloc (.loop X),J,
   #[.func (.yield (w.heap.size+1)) #[] #[]]++y',(w.alloc (.deferred (O []))).alloc (.loop X),run_enterLoop_outer _ _ _ _ _, ?_,λ_ _=>trivial, ?_,λh=>(by cases h), ?_⟩
  .have ec:a.eval (.const (.func (.yield (w.heap.size+1)) #[] #[]))= .func (.yield (w.heap.size+1)) #[] #[]:=rfl;simp[resolve,rangeCall,e1,Deferred.ofValue,ec]
  .simp[invoke,Kq F]
  .refine TN (s.mono λex w' hx=> ?_);obtain⟨r,Z',r',μ',rfl,⟨⟨bx,V,hbo,p⟩,hq⟩,q2,q3,q4,q5,_⟩:=hx;have W:=q2 _ _ (show(μ.add Z.n ⟨w.heap.size+1,0,a.tmps.size,1,fi,O (.bool Za)⟩) Z.n=O ⟨w.heap.size+1,0,a.tmps.size,1,fi,O (.bool Za)⟩by simp[Mu.add]);obtain⟨_,rr,k1,k2,k3,_,k5⟩:=(q3.get V W).lp rfl
   obtain⟨vs,hc⟩: ∃vs,bx.cells=Kv Za::vs:=by
    cases hc:bx.cells with
    |nil=>rw[hc]at p;cases p
    |cons c cs=>
     rw[hc]at p;simp at p;exact⟨cs,by rw[p]⟩
   have k4:=(k5 Za vs hc).1;have k1:w'.heap[w.heap.size+1]?=O (.loop rr):=k1;refine⟨Y,w'.putObj (w.heap.size+1) (.loop {rr with state:= .exhausted}), ?_, .normal,e,Z'.set Z.n Y,μ',trivial,hq,Mu.le_trans A q2,⟨w.heap.size::ds, ?_, ?_⟩,he.mono (Mu.le_trans A q2),trivial, ?_⟩
   .have:=run_endLoop (P:=P) k1 (by rw[k4];simp);exact this.trans (by rw[k3])
   .exact q3.endLoop V hbo W rfl (by simp) λk hk=>World.putObj_heap_other hk
   .show _++a.defers=_;rw[hd];rfl
   .have hb1:Below B w ((w.alloc (.deferred (O []))).alloc (.loop X)):=((Below.refl _ w).alloc D.base _).alloc (by rw[hl];exact dD D.base) _;refine(hb1.trans q5).trans ?_;exact(Below.refl _ w').grown (grownBy_putObj' w' _ _) (by have:=q3.base;exact this) (λk e=>by cases e;exact dD D.base)
 .exact L.elim
theorem ad2 (hM:w8 T)(hT: ∀f,QJ P f (T f)): ∀(c:Code),(∀s∈tw c,ro=Y/\Di P fi=O (N,s))->Aok P T B fi ro N c/\UQ P T B fi ro N c:=by
 intro c;induction c with
 |skip=>
  intro X;refine(λA=>⟨A,UQ.of rfl rfl A⟩) ?_;intro ac h Q e Z μ a w p u D C;simp[pz,Ot,um]at h;subst h;exact wpIn_skip ⟨.normal,e,Z,μ,trivial,p,μ.le_refl,u,D,C,Below.refl _ _⟩
 |label l=>
  intro X;refine(λA=>⟨A,UQ.of rfl rfl A⟩) ?_;intro ac h Q e Z μ a w p u D C;simp[pz,Ot,um]at h;subst h;exact wpIn_label ⟨.normal,e,Z,μ,trivial,p,μ.le_refl,u,D,C,Below.refl _ _⟩
 |goto l=>
  intro X;refine(λA=>⟨A,UQ.of rfl rfl A⟩) ?_;intro ac h Q e Z μ a w p u D C;simp[pz,Ot,um]at h;subst h;exact wpIn_goto ⟨.exit (De l),e,Z,μ,rfl,p,μ.le_refl,u,D,C,Below.refl _ _⟩
 |region id ops draw=>
  intro X;refine(λA=>⟨A,UQ.of rfl rfl A⟩) ?_;intro ac h Q e Z μ a w p u D C;simp only[pz,Ot,um]at h;cases draw with
  |false=>
   simp only[cB,if_false]at h;obtain⟨al,F,h⟩:=Option.map_eq_some_iff.1 h;subst h;obtain⟨ds,u,C⟩:=u;exact wpIn_region_list (VE hT ops.toList al e Z μ a w F p u D C μ.le_refl (Below.refl _ _))
  |true=>
   simp only[if_true]at h;split at h
   .rename_i al F;split at h
    .rename_i h2
     have p:Fb T (Q .normal) al al.length [] [] e Z:=by
      split at h
      .rename_i its hits;injection h with h
       subst h;exact GA hM al.length [] [] its [] [] e Z hits p (λi c hc=>(by cases hc)) (λi c hc=>(by cases hc))
      .injection h with h
       subst h;exact p
     simp only[bB]at h2;have hF:=aw6 F;have hempty: ∀(val:Nat->Value),lx al e val []=e:=λval=>funext λt=>te λi hi=>by cases hi
     obtain⟨ds,u,C⟩:=u;refine wpIn_region_any h2.2 ?_;have hl:left al.length []<=al.length:=by unfold left;exact Nat.le_trans (List.length_filter_le _ _) (by simp)
     refine av5 hT hF h2.1 (e0:=e) ops.size al.length (λ_=>undef) [] [] [] _ Z μ a _ (by rw[hempty];exact p) hl (by rw[hF.len];exact hl) ⟨λi hi=>(by cases hi),λi hi=>(by cases hi),λi hi=>(by cases hi),λi hi=>(by cases hi),λi hi=>(by cases hi)⟩ (by simp) (λi hi=>by simp[hi]) (u.same rfl) (by rw[hempty];exact D) C μ.le_refl (Below.refl _ _).drew
    .cases h
   .cases h
 |seq x y W M=>
  intro X;have W:=W λs h=>X s (cD _ h)
  have M:=M λs h=>X s (dB _ h)
  refine⟨?_, ?_⟩
  .intro ac h Q e Z μ a w p u D C;have h:aQ4 (pz P fi N x) (pz P fi N y)=O ac:=h;unfold aQ4 at h;split at h
   .rename_i ax ay F h2;injection h with h
    subst h;simp only[yd]at p;have F:pz P fi N x=O ax:=F;have h2:pz P fi N y=O ay:=h2;refine VS (W.1 ax F _ e Z μ a w p u D C) (λJ Z' U a' w' hq g1 g2 g3 g4 g5=> ?_) λx' a' w' hx hp=> ?_
    .exact wpIn_mono (M.1 ay h2 Q J Z' U a' w' hq g2 g3 g4) λx'' a'' w'' h''=>h''.trans g1 g5
    .obtain⟨H,J,Z',U,h0,h1',h2',h3'⟩:=KJ hp hx;refine⟨H,J,Z',U,h1', ?_,h3'⟩;cases H with
     |normal=>exact(h0 rfl).elim
     |exit i=>exact h2'
     |ret=>exact h2'
   .cases h
  .intro ac h Q;have h:VW x y (pz P fi N x) (pz P fi N y) (RU P fi N y)=O ac:=h;unfold VW at h;split at h
   .rename_i l hl;obtain rfl:=Rk hl;split at h
    .
     rename_i hg;obtain⟨yc,F,h⟩:=Option.map_eq_some_iff.1 h;subst h;have hll:lu (.seq (.label l) y)=O l:=by simp[lu,Hq,hg]
     refine⟨λhn=>(by rw[hll]at hn;cases hn),λl' E=> ?_⟩;rw[hll]at E;injection E with E
     subst E
     let Q1:AExit->cj->Hp->Prop:=λx e Z=>match x with
      | .exit i=>if i=A0 l then Q .normal e Z else Q (.exit i) e Z
      |x=>Q x e Z
     let body:AC:= .block (De l) (.seq yc (.exit (A0 l)))
     have hne:A0 l≠De l:=by unfold A0 De;omega
     have round: ∀(n:Nat) (e:cj) (Z:Hp) (μ:Mu) (a:Act) (w:World) (μ0:Mu) (w0:World),od (yd T body) Q1 (n+1) e Z->RD B μ Z w a->di μ N e a.tmps->True->μ0.le μ->Below B w0 w->
       y.wpIn (Rd ro) 0 P (Lr l (λa w=>Jst B N μ0 w0 (λn=>od (yd T body) Q1 n) n a w) (uN B N μ0 w0 Q)) a w:=by
      intro n e Z μ a w μ0 w0 p u D C hμ hb;simp only[od,body,yd]at p;refine wpIn_mono (M.1 yc F _ e Z μ a w p u D C) λx' a' w' hp=> ?_
      obtain⟨ax,J,Z',U,q1,q2,q3,q4,q5,q6,q7⟩:=hp;refine Tc (λhx=> ?_) λhx=> ?_
      .subst hx;cases ax with
       |exit i=>
        have q1:i=De l:=q1;subst q1;simp only[if_true]at q2;exact⟨J,Z',U,q2,Mu.le_trans hμ q3,q4,q5,q6,hb.trans q7⟩
       |_=>exact q1.elim
      .cases ax with
       |normal=>
        simp only[zF hne]at q2;simp only[Q1,if_true]at q2;exact⟨.normal,J,Z',U,q1,q2,Mu.le_trans hμ q3,q4,q5,q6,hb.trans q7⟩
       |ret=>exact⟨.ret,J,Z',U,q1,q2,Mu.le_trans hμ q3,q4,q5,q6,hb.trans q7⟩
       |exit i=>
        have hi:i≠De l/\i≠A0 l:=by
         cases x' with
         |exit j=>
          obtain⟨rfl,hj⟩:=q1;unfold De A0;omega
         |goto l'=>
          have q1:i=Fu+2*l':=q1;have:l'≠l:=λe=>hx (by rw[e])
          unfold De A0;omega
         |_=>exact q1.elim
        simp only[zF hi.1,Q1,zF hi.2]at q2;exact⟨.exit i,J,Z',U,q1,q2,Mu.le_trans hμ q3,q4,q5,q6,hb.trans q7⟩
     refine⟨.seq .skip y,λn=>od (yd T body) Q1 n,by simp[findLabel],λμ0 w0=>⟨λe Z μ a w p u D C hμ hb=> ?_,λn a w hJ=> ?_⟩⟩
     .have hw': ∃n,od (yd T body) Q1 n e Z:=p
      obtain⟨n,hn⟩:=hw';cases n with
      |zero=>exact hn.elim
      |succ n=>
       refine wpIn_seq (wpIn_label ?_);exact wpIn_mono (round n e Z μ a w μ0 w0 hn u D C hμ hb) λx' a' w' h'=>NA (λ_ _ h=>⟨n,h⟩) (λ_ _ _ h=>h) h'
     .obtain⟨e,Z,μ,hn,hμ,u,D,C,hb⟩:=hJ;cases n with
      |zero=>exact hn.elim
      |succ n=>
       refine wpIn_seq (wpIn_skip ?_);exact wpIn_mono (round n e Z μ a w μ0 w0 hn u D C hμ hb) λx' a' w' h'=>NA (λ_ _ h=>⟨n,Nat.lt_succ_self n,h⟩) (λ_ _ _ h=>h) h'
    .
     rename_i hg;split at h
     .rename_i V;obtain⟨yc,F,h⟩:=Option.map_eq_some_iff.1 h;subst h;have hll:lu (.seq (.label l) y)=lu y:=by simp[lu,Hq,hg]
      obtain⟨s1,s2⟩:=M.2 yc F Q;refine⟨λhn e Z μ a w p u D C=>wpIn_seq (wpIn_label ?_),λl' E=> ?_⟩
      .exact s1 (hll▸hn) e Z μ a w p u D C
      .rw[hll]at E;obtain⟨rest,L,hf,hJ⟩:=s2 l' E
       have hlab:findLabel (.seq (.label l) y) l'=O rest:=by
        have:findLabel (.label l) l'=Y:=Gu _ _ (by
         unfold Js at V;rw[E]at V
         simpa using V)
        simp[findLabel,hf]at this⊢;simp[this]
       refine⟨rest,L,hlab,λμ0 w0=>⟨λe Z μ a w p u D C hμ hb=>wpIn_seq (wpIn_label ?_),(hJ μ0 w0).2⟩⟩;exact(hJ μ0 w0).1 e Z μ a w p u D C hμ hb
     .cases h
   .rename_i hl;split at h
    .rename_i ax ay F h2;split at h
     .rename_i V;rw[bB,bD]at V;obtain⟨V,hnj⟩:=V;injection h with h
      subst h;have hll:lu (.seq x y)=lu y:=by simp[lu,hl]
      obtain⟨s1,s2⟩:=M.2 ay h2 Q;refine⟨λhn e Z μ a w p u D C=> ?_,λl' E=> ?_⟩
      .simp only[yd]at p;refine VS (W.1 ax F _ e Z μ a w p u D C) (λJ Z' U a' w' hq g1 g2 g3 g4 g5=> ?_) λx' a' w' hx hp=> ?_
       .exact wpIn_mono (s1 (hll▸hn) J Z' U a' w' hq g2 g3 g4) λx'' a'' w'' h''=>h''.trans g1 g5
       .obtain⟨H,J,Z',U,h0,h1',h2',h3'⟩:=KJ hp hx;refine⟨H,J,Z',U,h1', ?_,h3'⟩;cases H with
        |normal=>exact(h0 rfl).elim
        |exit i=>exact h2'
        |ret=>exact h2'
      .rw[hll]at E;obtain⟨rest,L,hf,hJ⟩:=s2 l' E
       have hlab:findLabel (.seq x y) l'=O rest:=by
        have:findLabel x l'=Y:=Gu _ _ (by
         unfold Js at V;rw[E]at V
         simpa using V)
        simp[findLabel,hf,this]
       have hnj:ax.noJump=Za:=by
        rcases hnj with h|h
        .rw[E]at h;cases h
        .exact h
       refine⟨rest,L,hlab,λμ0 w0=>⟨λe Z μ a w p u D C hμ hb=> ?_,(hJ μ0 w0).2⟩⟩;simp only[yd]at p;refine VS (W.1 ax F _ e Z μ a w (UD hM _ _ e Z p) u D C) (λJ Z' U a' w' hq g1 g2 g3 g4 g5=> ?_) λx' a' w' hx hp=> ?_
       .exact(hJ μ0 w0).1 J Z' U a' w' hq.2 g2 g3 g4 (Mu.le_trans hμ g1) (hb.trans g5)
       .obtain⟨H,J,Z',U,h0,h1',h2',h3',h4',h5',h6',h7'⟩:=KJ hp hx;refine Tc (λhg=> ?_) λ_=> ?_
        .subst hg;cases H with
         |exit i=>
          have k1:i=Fu+2*l':=h1';have:=PX hnj (h2'.1 i rfl);omega
         |_=>exact h1'.elim
        .refine⟨H,J,Z',U,h1', ?_,Mu.le_trans hμ h3',h4',h5',h6',hb.trans h7'⟩;cases H with
         |normal=>exact(h0 rfl).elim
         |exit i=>exact h2'.2
         |ret=>exact h2'.2
     .cases h
    .cases h
 |cond c x y W M=>
  intro X;have W:=W λs h=>X s (cD _ h)
  have M:=M λs h=>X s (dB _ h)
  refine(λA=>⟨A,UQ.of rfl rfl A⟩) ?_;intro ac h Q e Z μ a w p u D C;simp only[pz,Ot,um]at h;split at h
  .rename_i c' ax ay h0 F h2;injection h with h
   subst h;obtain⟨rfl,k0⟩:=aq h0;have hv:=D.ev k0;simp only[yd]at p;split at p
   .rename_i hb;rw[hb]at hv;exact wpIn_cond_true hv.bool_inv (W.1 ax F Q e Z μ a w p u D C)
   .rename_i hb;rw[hb]at hv;exact wpIn_cond_false hv.bool_inv (M.1 ay h2 Q e Z μ a w p u D C)
   .exact p.elim
  .cases h
 |block id b ih=>
  intro X;have ih:=ih X;refine(λA=>⟨A,UQ.of rfl rfl A⟩) ?_;intro ac h Q e Z μ a w p u D C;simp only[pz,Ot,um]at h;split at h
  .rename_i hlt;obtain⟨ab,F,h⟩:=Option.map_eq_some_iff.1 h;subst h;simp only[yd]at p;refine wpIn_block (wpIn_mono (ih.1 ab F _ e Z μ a w p u D C) λx a' w' hx=> ?_);obtain⟨H,J,Z',U,hxr,hq,g1,g2,g3,g4,g5⟩:=hx;cases H with
   |normal=>
    cases x<;>simp[AX]at hxr;exact⟨.normal,J,Z',U,trivial,hq,g1,g2,g3,g4,g5⟩
   |exit i=>
    simp only at hq;cases x with
    |exit j=>
     obtain⟨rfl,hj⟩:=hxr;simp only[Exit.inBlock];split
     .rename_i hid;rw[zE hid]at hq;exact⟨.normal,J,Z',U,trivial,hq,g1,g2,g3,g4,g5⟩
     .rename_i hid;rw[zF hid]at hq;exact⟨.exit i,J,Z',U,⟨rfl,hj⟩,hq,g1,g2,g3,g4,g5⟩
    |goto l=>
     have hxr':i=Fu+2*l:=hxr;rw[Zh]at hq;exact⟨.exit i,J,Z',U,hxr,hq,g1,g2,g3,g4,g5⟩
    |_=>exact hxr.elim
   |ret=>
    cases x<;>simp[AX]at hxr;exact⟨.ret,J,Z',U,trivial,hq,g1,g2,g3,g4,g5⟩
  .cases h
 |loop b ih=>
  intro X;have ih:=ih X;refine(λA=>⟨A,UQ.of rfl rfl A⟩) ?_;intro ac h Q e Z μ a w p u D C;simp only[pz,Ot,um]at h;obtain⟨ab,F,h⟩:=Option.map_eq_some_iff.1 h;subst h;simp only[yd]at p;obtain⟨n,hn⟩:=p;exact R3 (f:=yd T ab) (λQ e Z μ a w hf=>ih.1 ab F Q e Z μ a w hf) hn u D C μ.le_refl (Below.refl _ _)
 |scope b ih=>
  intro X;have ih:=ih X;refine(λA=>⟨A,UQ.of rfl rfl A⟩) ?_;intro ac h Q e Z μ a w p u D C;simp only[pz,Ot,um]at h;split at h
  .rename_i ac' F;split at h
   .rename_i hno;injection h with h
    subst h;have hw':=UD hM _ Q e Z p
    have hng: ∀(l':Nat) (a:Act) (w':World),¬uN B N μ w (UM ac' Q) (.goto l') a w':=by
     rintro l' a w' ⟨ax,J,Z',U,k1,k2,_⟩;cases ax with
     |exit i=>
      have k1:i=Fu+2*l':=k1;have:=PX hno (k2.1 i rfl);omega
     |_=>exact k1.elim
    have fin: ∀{x:Exit} {a':Act} {w':World},uN B N μ w (UM ac' Q) x a' w'->uN B N μ w Q x a' w':=λh=>aD1 h λ_ _ _ _ h=>h.2
    obtain⟨s1,s2⟩:=ih.2 ac' F (UM ac' Q);cases hl:lu b with
    |none=>
     refine HR (wpIn_mono (s1 hl e Z μ a w hw' u D C) λx a' w' hx=> ?_);cases x with
     |goto l'=>exact(hng l' a' w' hx).elim
     |_=>exact fin hx
    |some l=>
     obtain⟨rest,L,hf,hJ⟩:=s2 l hl;obtain⟨j1,j2⟩:=hJ μ w;refine wpIn_mono (Uf l (Jst B N μ w L) hf hng (j1 e Z μ a w hw' u D C μ.le_refl (Below.refl _ _)) j2) λx a' w' hx=>fin hx
   .cases h
  .cases h
 |exit id=>
  intro X;refine(λA=>⟨A,UQ.of rfl rfl A⟩) ?_;intro ac h Q e Z μ a w p u D C;simp only[pz,Ot,um]at h;split at h
  .rename_i hlt;injection h with h
   subst h;exact wpIn_exit ⟨.exit id,e,Z,μ,⟨rfl,hlt⟩,p,μ.le_refl,u,D,C,Below.refl _ _⟩
  .cases h
 |ret=>
  intro X;refine(λA=>⟨A,UQ.of rfl rfl A⟩) ?_;intro ac h Q e Z μ a w p u D C;simp[pz,Ot,um]at h;subst h;exact wpIn_ret ⟨.ret,e,Z,μ,trivial,p,μ.le_refl,u,D,C,Below.refl _ _⟩
 |rangeFunc g ps x y W M=>
  intro X;refine(λA=>⟨A,UQ.of rfl rfl A⟩) ?_;intro ac h Q e Z μ a w p u D C;obtain⟨rfl,hsite⟩:=X _ (aD ..);have h:(xZ g).map (λx=>AC.region [⟨Y, .rangeF fi N x,Y⟩])=O ac:=h;obtain⟨x',F,rfl⟩:=Option.map_eq_some_iff.1 h;exact NY hT hsite F p u D
 |refuse why=>
  intro X;refine(λA=>⟨A,UQ.of rfl rfl A⟩) ?_;intro ac h;simp[pz,Ot,um]at h
theorem Q2 (u:w8 T)(C: ∀f,QJ P f (T f))(c:Code)(p:AC)(h:pz P fi N c=O p)(Q:AExit->cj->Hp->Prop)(e:cj)(Z:Hp)(μ:Mu)(a:Act)(w:World)(H:yd T p Q e Z)
  (A:RD B μ Z w a) (E:di μ N e a.tmps) (D:True) (F: ∀s∈tw c,ro=Y/\Di P fi=O (N,s)):c.wpIn (Rd ro) 0 P (uN B N μ w Q) a w:=(ad2 u C c F).1 p h Q e Z μ a w H A E D
end
end
section
open List renaming mapM_cons -> bD, getElem?_eq_getElem -> cB, mem_cons_self -> cD
open Result renaming andThen_ok -> aB
open Sem renaming run_bind -> aD, run_pure -> bB
open Go.RowKit
def JT (P:Program):List ResultVar->Option (List ARes)
 |[]=>O []
 | .tmp t::r=>(JT P r).map (.tmp t:: ·)
 | .cell a t::r=>match Cy P t,qF P t,JT P r with
  |some Za,O n,O r=>O (.cellN a n::r)
  |some Zb,O _,O r=>O (.cell a::r)
  |_,_,_=>Y
def Y5 (P:Program)(f:FuncId):Option AFn:=match P.funcs[f]? with
 |some h=>match h.body,Q7 P f with
  |some c,true=>match pz P f h.ntmps c,JT P h.results.toList,tw c with
   |some p,O rs,[]|some p,O rs,[_]=>O ⟨h.ntmps,rs,p⟩
   |_,_,_=>Y
  |_,_=>Y
 |none=>Y
section
variable {P:Program} {T:lj} {B:Base P} {N:Nat} {μ:Mu} {Z:Hp} {w:World} {e:cj}
def ID (tmps:Array Value):ResultVar->Sem Value
 | .tmp t=>pure (tmps.getD t undef)
 | .cell a t=>do loadVar t (<-asAddr (tmps.getD a undef))
theorem VO (p:Func)(tmps:Array Value):results p tmps=(do
  let vs<-p.results.mapM (ID tmps)
  pure (if h:vs.size=1 then vs[0]else .tuple vs)):=rfl
theorem RF {tmps:Array Value}(U:di μ N e tmps)(M:R B μ Z w): ∀(l:List ResultVar) (rs:List ARes) (vs:List Value),JT P l=O rs->JK e Z rs=O vs->
  ∃s,(l.mapM (ID tmps)).run P w= .ok s w/\F2 (VR μ) vs s
 |[],rs,vs,h,p=>by
  simp[JT]at h;subst h;simp[JK]at p;subst p;exact⟨[],by simp, .nil⟩
 | .tmp t::l,rs,vs,h,p=>by
  simp only[JT]at h;obtain⟨A,E,h⟩:=Option.map_eq_some_iff.1 h;subst h;simp only[JK]at p;split at p
  .rename_i v C F H;injection p with p
   subst p;simp[N5]at F;subst F;obtain⟨s,u,J⟩:=RF U M l A C E H;refine⟨tmps.getD t undef::s, ?_, .cons (U.2 t) J⟩;have L:(ID tmps (.tmp t)).run P w= .ok (tmps.getD t undef) w:=rfl;simp only[bD,aD,bB,aB,L,u]
  .cases p
 | .cell a t::l,rs,vs,h,p=>by
  simp only[JT]at h;have W:=U.2 a;split at h
  .rename_i n A E F H;injection h with h
   subst h;simp only[JK]at p;split at p
   .rename_i v C u J;injection p with p
    subst p;obtain⟨s,X,h7⟩:=RF U M l A C H J;simp only[N5]at u;split at u
    .rename_i b o hb;rw[hb]at W;obtain⟨g,V,hq⟩:=W.ptr_inv;obtain⟨x,hx,u⟩:=Option.bind_eq_some_iff.1 u;obtain⟨cs,hcs,rfl⟩:=Option.map_eq_some_iff.1 u;obtain⟨D,k1,k2⟩:=M.reads hx V hcs;refine⟨.agg D.toArray::s, ?_, .cons (.agg k2) h7⟩
     have L:(ID tmps (.cell a t)).run P w= .ok (.agg D.toArray) w:=by
      simp only[ID,aD,hq,asAddr,bB,aB,loadVar,HF E,if_true,rl F,k1 P w rfl]
     simp only[bD,aD,bB,aB,L,X]
    .cases u
   .cases p
  .rename_i n A E F H;injection h with h
   subst h;simp only[JK]at p;split at p
   .rename_i v C u J;injection p with p
    subst p;obtain⟨s,X,h7⟩:=RF U M l A C H J;simp only[N5]at u;split at u
    .rename_i b o hb;rw[hb]at W;obtain⟨g,V,hq⟩:=W.ptr_inv;obtain⟨x,hx,u⟩:=Option.bind_eq_some_iff.1 u;obtain⟨v',k1,k2⟩:=(M.get hx V.1).cell V.2 o v u;refine⟨v'::s, ?_, .cons k2 h7⟩
     have L:(ID tmps (.cell a t)).run P w= .ok v' w:=by
      simp only[ID,aD,hq,asAddr,bB,aB,loadVar,HF E,Bool.false_eq_true,if_false,run_load,k1]
     simp only[bD,aD,bB,aB,L,X]
    .cases u
   .cases p
  .cases h
theorem PG {E:Func}{rs:List ARes}(J:JT P E.results.toList=O rs){K:Value->Hp->Prop}{tmps:Array Value}{e':cj}{Z':Hp}{A:Mu}(L:di A N e' tmps)(M:μ.le A)(C:match JK e' Z' rs with
  |some vs=>K (A7 vs) Z'
  |none=>False): ∀(ds:List Nat) (w':World),R (more B ds) A Z' w'->Below B w w'->LeavesInM (Rd Y) 0 P E tmps (aa2 P B μ w K) (dfs ds) .returning w'
 |[],w',p,F=>by
  have p:R B A Z' w':=p;show LeavesIn _ _ _ _ _ _ _ _ _;split at C
  .rename_i vs H;obtain⟨s,X,U⟩:=RF (P:=P) L p E.results.toList rs vs J H;have W:=U.length;refine⟨A7 s, ?_,_,Z',_,A,rfl,C,M,p, ?_,F,rfl⟩
   .rw[VO,Array.mapM_eq_mapM_toList];simp only[aD,Sem.run_map,X,aB,bB]
    congr 1
    match s,W with
    |[],_=>rfl
    |[v],_=>rfl
    |v::u::r,_=>simp[A7]
   .match vs,s,U with
    |[],_, .nil=>exact .tuple .nil
    |[v],_, .cons h .nil=>exact h
    |v::u::r,_, .cons h (.cons V t)=>exact .tuple (.cons h (.cons V t))
  .exact C.elim
 |D::ds,w',p,F=>by
  refine⟨by simp, .inl ⟨D,_,rfl,run_takeDeferred (p.dfr.2 D (cD ..)),PG J L M C ds _ p.shut ?_⟩⟩;exact F.trans ((Below.refl _ w').grown (grownBy_putObj' w' _ _) (by have:=p.base;exact this) (λk e=>by cases e;exact p.dfr.1.2 D (cD ..)))
theorem ae4 {af:AFn}(h:Y5 P f=O af)(hM:w8 T)(hT: ∀g,QJ P g (T g)):QJ P f (wpF T af):=by
 unfold Y5 at h;split at h
 .rename_i C D;split at h
  .rename_i c hb A
   obtain⟨E,rs,M,U,H,rfl⟩: ∃E rs,pz P f C.ntmps c=O E/\JT P C.results.toList=O rs/\(∀s∈tw c,(Y:Option Nat)=Y/\Di P f=O (C.ntmps,s))/\af=⟨C.ntmps,rs,E⟩:=by
    split at h
    .rename_i E rs M U H;injection h with h
     exact⟨E,rs,M,U,λs hs=>(by rw[H]at hs;cases hs),h.symm⟩
    .rename_i E rs s0 M U H;injection h with h
     refine⟨E,rs,M,U,λs hs=>⟨rfl, ?_⟩,h.symm⟩;rw[H,List.mem_singleton]at hs;subst hs;unfold Di;rw[D];simp only[hb,Option.map_some,H]
    .cases h
   have J:MB P f:=by
    unfold Q7 at A;rw[D]at A;simp only[Bool.and_eq_true,Bool.not_eq_true']at A;exact⟨C,D,A.1,A.2⟩
   refine QJ.mk' J λB μ Z w u p K hw hR ha=> ?_
   obtain⟨W,hw⟩:=hw;refine callsIn_wide.1 (callsIn_of_wp_marks (F:=Rd Y) (n:=0) D hb trivial ?_);have hsz:p.size=u.length:=by simpa using ha.length.symm
   have V:di μ C.ntmps (cj.of u) (p++Array.replicate (C.ntmps-p.size) undef):=by
    refine⟨by simp only[Array.size_append,Array.size_replicate];simp only at W;omega,λt=> ?_⟩;unfold cj.of;by_cases ht:t<u.length
    .obtain⟨v',H,h4⟩:=ha.get t u[t] (cB ht)
     have:(p++Array.replicate (C.ntmps-p.size) undef).getD t undef=v':=by
      simp only[Array.getD_eq_getD_getElem?];rw[Array.getElem?_append_left (by omega)];have:p[t]?=O v':=by simpa using H
      simp[this]
     rw[this,cB ht];exact h4
    .have:(p++Array.replicate (C.ntmps-p.size) undef).getD t undef=undef:=by
      simp only[Array.getD_eq_getD_getElem?];rw[Array.getElem?_append_right (by omega),Array.getElem?_replicate];split<;>rfl
     rw[this,List.getElem?_eq_none (by omega)];exact VR.undef μ
   refine wpIn_mono (Q2 hM hT c E M _ _ Z μ ⟨_,[]⟩ w hw ⟨[],hR,rfl⟩ V trivial H) λx a' w' hx=> ?_
   obtain⟨ax,e',Z',μ',hxr,X,g1,⟨ds,g2,g4⟩,g3,_,g5⟩:=hx
   have L:(match JK e' Z' rs with
     |some vs=>K (A7 vs) Z'
     |none=>False)->LeavesInM (Rd Y) 0 P C a'.tmps (aa2 P B μ w K) a'.defers .returning w':=λX=>by
    rw[g4];exact PG U g3 g1 X ds w' g2 g5
   cases ax with
   |normal=>
    cases x<;>simp[AX]at hxr;exact L X
   |exit id=>exact X.elim
   |ret=>
    cases x<;>simp[AX]at hxr;exact L X
  .cases h
 .cases h
end
end
section
open List renaming getElem?_eq_getElem -> aB
open Go.RowKit
structure YFn where
 ntmps:Nat
 params:List Nat
 assign:AC
 body:AC
def putAll (e:cj):List Nat->List Value->cj
 |d::h,v::p=>putAll (e.put d v) h p
 |_,_=>e
def wpY (T:lj)(s:YFn):MQ:=λp Z K=> ∃(C:List Value) (b:Nat) (x:Blk) (h:List Value),p=C++[.pointer (O ⟨b,0,Y⟩)]/\Z.m b=O x/\x.own=Za/\x.cells=Kv Za::h/\s.ntmps<=h.length/\C.length=s.params.length/\
 yd T s.assign (λF J Z1=>F= .normal/\∃(u:Blk) (D:List Value),Z1.m b=O u/\u.own=Za/\u.cells=Kv Za::D/\
  yd T s.body (λH L Z2=>H= .normal/\∃(A:Blk) (E:List Value),Z2.m b=O A/\A.own=Za/\A.cells=Kv Zb::E/\K (.bool Za) (Z2.set b (O ⟨Kv Za::E,Za,A.es⟩)))
   J (Z1.set b (O ⟨Kv Zb::D,Za,u.es⟩))) (putAll (cj.of (h.take s.ntmps)) s.params C) Z
def aR9 (P:Program)(f:FuncId):Option YFn:=match Di P f with
 |some (n,h,a,b)=>(match pz P f n a,pz P f n b,tw a++tw b with
  |some x,O y,[]=>if h.toList.all (λd=>Nat.blt d n)then O ⟨n,h.toList,x,y⟩else Y
  |_,_,_=>Y)
 |none=>Y
section
variable {P:Program} {T:lj} {B:Base P} {N:Nat} {μ:Mu} {Z:Hp} {w:World} {e:cj}
theorem di.of {vals:List Value}{tmps:Array Value}(h:F2 (VR μ) vals tmps.toList)(A:tmps.size=N):di μ N (cj.of vals) tmps:=by
 refine⟨A,λt=> ?_⟩;have C:vals.length=tmps.size:=by simpa using h.length
 unfold cj.of;by_cases s:t<vals.length
 .obtain⟨D,p,u⟩:=h.get t vals[t] (aB s);rw[Array.getElem?_toList]at p;rw[aB s];simp only[Option.getD_some,Array.getD_eq_getD_getElem?,p];exact u
 .rw[List.getElem?_eq_none (by omega)];simp only[Option.getD_none,Array.getD_eq_getD_getElem?];rw[Array.getElem?_eq_none (by omega)];exact VR.undef μ
theorem di.putAll : ∀{s:List Nat} {A C:List Value} {e:cj} {tmps:Array Value},di μ N e tmps->(∀d∈s,d<N)->F2 (VR μ) A C->di μ N (putAll e s A) ((s.zip C).foldl (λt p=>t.setIfInBounds p.1 p.2) tmps)
 |[],_,_,_,_,h,_,_=>by simpa[Ab.putAll]using h
 |d::s,_,_,_,_,h,u, .nil=>by simpa[Ab.putAll]using h
 |d::s,_,_,_,_,h,u, .cons a t=>by
  simp only[Ab.putAll,List.zip_cons_cons,List.foldl_cons];exact di.putAll (h.put d (u d (List.mem_cons_self ..)) a) (λc D=>u c (List.mem_cons_of_mem _ D)) t
theorem ar6 (h:Array Nat)(s:Array Value)(tmps:Array Value):(h.zip s).foldl (λt (p,v)=>t.setIfInBounds p v) tmps=(h.toList.zip s.toList).foldl (λt p=>t.setIfInBounds p.1 p.2) tmps:=by
 rw[<-Array.foldl_toList,Array.toList_zip]
theorem ba3 {s:YFn}(h:aR9 P f=O s)(hM:w8 T)(hT: ∀g,QJ P g (T g)):QJ P (UE f) (wpY T s):=by
 unfold aR9 at h;split at h
 case h_2=>cases h
 rename_i n ps W X hs;split at h
 case h_2=>cases h
 rename_i ax ay h1 h2 h3;split at h
 case isFalse=>cases h
 rename_i h4;injection h with h
 subst h
 have hp: ∀d∈ps.toList,d<n:=λd hd=>by
  have:=List.all_eq_true.1 h4 d hd;exact Nat.blt_eq.mp this
 have sa: ∀{l:Nat},∀s∈tw W,O l=Y/\Di P f=O (n,s):=λs E=>by
  have:s∈tw W++tw X:=List.mem_append_left _ E;rw[h3]at this;cases this
 have sb: ∀{l:Nat},∀s∈tw X,O l=Y/\Di P f=O (n,s):=λs E=>by
  have:s∈tw W++tw X:=List.mem_append_right _ E;rw[h3]at this;cases this
 intro B μ Z w args p K hk hR;refine⟨λhy=>(by rw[aN3]at hy;cases hy),λ_ xs b g ea ef hg A ha=> ?_⟩;obtain⟨H,b',x,C,e1,hx,ho,hc,M,hxl,hw⟩:=hk
 have e2:H=xs/\b'=b:=by
  rw[e1]at ea;have:=List.append_inj' ea rfl;exact⟨this.1,by simpa using this.2⟩
 obtain⟨rfl,rfl⟩:=e2
 have ety:g.ty=f:=by
  unfold UE at ef;exact(Nat.add_left_cancel ef).symm
 obtain⟨o1,r,o2,F,o4,o5,o6⟩:=(hR.get hx hg).lp A;rw[ety,hs]at F;injection F with F
 injection F with F o7
 injection o7 with o7 o8
 injection o8 with o8 o9
 subst o7 o8 o9;obtain⟨o10,o11⟩:=o6 Za C hc;have hn:n=g.ext:=F.trans o5;have hv:=o11 (by rw[<-hn];exact M);rw[<-hn]at hv;have J:di μ n (cj.of (C.take n)) r.tmps:=di.of hv F.symm
 have hsz:p.size=r.params.size:=by
  have k1:H.length=p.size:=by simpa using ha.length
  have k2:H.length=r.params.size:=by simpa using hxl
  omega
 refine⟨r.fn,_,r.assign,r.body,run_yield o2 hsz, ?_⟩;have u:=J.putAll hp ha;rw[<-ar6]at u;refine roundIn_of_wpIn trivial ?_;refine wpIn_mono (Q2 (ro:=O g.c) hM hT r.assign ax h1 _ _ Z μ ⟨_,[]⟩ w hw ⟨[],hR,rfl⟩ u trivial sa) λex a1 U hp1=> ?_
 obtain⟨ax1,e1',Z1,μ1,q1,⟨rfl,x1,v1,q2,q3,q4,q5⟩,q6,⟨ds1,q7,q7'⟩,q8,_,q9⟩:=hp1;cases ex with
 |normal=>
  have D:=q6 _ _ hg;obtain⟨_,r1,p2,p3,p4,p5,p6⟩:=(q7.get q2 D).lp A;have t1:=q7.turn (fl':=Zb) q2 q3 q4 D A p2;refine⟨_,run_beginRound p2 (p6 Za v1 q4).1, ?_⟩
  have ew:({r1 with state:=LoopState.busy}:Loop)={r1 with state:=if Zb=Za then LoopState.ready else LoopState.busy,pending:=Y}:=by
   rw[<-p4];simp
  rw[ew];refine wpIn_mono (Q2 (ro:=O g.c) hM hT r.body ay h2 _ _ _ μ1 a1 _ q5 ⟨ds1,t1,q7'⟩ q8 trivial sb) λey a2 V hp2=> ?_
  obtain⟨ay1,e2',Z2,μ2,u1,⟨rfl,x2,v2,u2,u3,u4,u5⟩,u6,⟨ds2,u7,u7'⟩,u8,_,u9⟩:=hp2;cases ey with
  |normal=>
   have L:=u6 _ _ D;obtain⟨_,r2,s2,s3,s4,s5,s6⟩:=(u7.get u2 L).lp A;have t2:=u7.turn (fl':=Za) u2 u3 u4 L A s2;refine⟨_,_,run_endRound Y s2,_,_,_,μ2,rfl,u5,Mu.le_trans q6 u6, ?_, .bool Za, ?_,rfl⟩
   .exact t2.less
   .have b1:Below B U (U.putObj g.c (.loop {r1 with state:=if Zb=Za then LoopState.ready else LoopState.busy,pending:=Y})):=
     (Below.refl _ U).grown (grownBy_putObj' U _ _) (by have:=q7.base;exact this) (λk e=>by cases e;exact o1)
    have b2:Below B V (V.putObj g.c (.loop {r2 with state:=if(Y:Option Code).isNone=Za then LoopState.ready else LoopState.done,pending:=Y})):=
     (Below.refl _ V).grown (grownBy_putObj' V _ _) (by have:=u7.base;exact this) (λk e=>by cases e;exact o1)
    exact((q9.trans b1).trans u9).trans b2
  |_=>exact u1.elim
 |_=>exact q1.elim
end
end
section
open Go.RowKit
section
variable {P:Program} {f:FuncId} {S S':MQ}
end
def Hp.Ok (Z:Hp):Prop:= ∀b x,Z.m b=O x->b<Z.n
section
variable {P:Program} {f:FuncId} {S S':MQ} {Z Z1:Hp} {K:Value->Hp->Prop}
end
section
variable {T:lj}
end
end
section
section
variable {T:lj} {Q:AExit->cj->Hp->Prop} {q:cj->Hp->Prop} {e:cj} {Z Z':Hp} {a b:AC} {k:Value->Hp->Prop} {v:Value} {K:Value->Hp->Prop}
end
end
section
def aH0 (s:MQ):Prop:= ∀h Z (K K':Value->Hp->Prop),(∀r Z',K r Z'->K' r Z')->s h Z K->s h Z K'
section
variable {T:lj} {Q:AExit->cj->Hp->Prop} {e:cj} {Z:Hp} {b:AC} {I:cj->Hp->Prop} {m:cj->Hp->Nat} {e0:cj} {Z0:Hp}
end
section
variable {k:IntKind} {a b:Int}
end
section
variable {a b c d:Value} {l:List Value}
end
section
variable {Z:Hp} {x y:Blk} {i b o:Nat} {z:Option Blk}
end
section
variable {e:cj} {Z:Hp} {rs:List ARes} {t n b o:Nat}
end
section
variable {T:lj} {e:cj} {Z:Hp} {k:Value->Hp->Prop} {q:cj->Hp->Prop}
end
section
variable {T:lj} {q:cj->Hp->Prop} {r:List SItem} {e:cj} {Z:Hp} {i:Nat} {d:Option Nat} {kp:Bool} {is:List Nat} {chk:List (Nat×(Hp->Prop))}
end
end
section
section
variable {T:lj} {e:cj} {Z:Hp} {k:Value->Hp->Prop}
end
section
variable {Z:Hp} {x:Blk} {i b:Nat} {z:Option Blk}
end
end
section
open IntKind renaming bits -> aB, max -> aD, min -> bB, signed -> bD
open List renaming getElem?_eq_none -> cB
open Go.RowKit (Below)
structure Row where
 c:Nat
 o:Nat
 ext:Nat
 es:Nat
 cells:List Value
def XD (P:Program)(w:World):Prop:=(P.globalNamed "internal/strconv.uint64pow10" ≠Y->Lib.TabIs P w "internal/strconv.uint64pow10" .u64 Lib.pow10Tab)/\P.funcs.size<=2000000
def Base.of {P:Program}(w:World)(u:XD P w):Base P:=⟨w.heap.size,λb=>w.heap[b]?,[],u.2,λw' _ C p=>by
 have h:=u.1 p;unfold Lib.TabIs World.var? at h⊢;cases A:P.globalNamed "internal/strconv.uint64pow10" with
 |none=>exact(p A).elim
 |some g=>
  simp only[A,zG]at h⊢
  have s:g<w.heap.size:=by
   rcases Nat.lt_or_ge g w.heap.size with h'|h'
   .exact h'
   .rw[Array.getElem?_eq_none h']at h;cases h
  rw[C g s]
  exact h⟩
def sQ (rows:List Row):Mu:=λi=>(rows[i]?).map λr=>⟨r.c,r.o,r.ext,r.es,0,Y⟩
def uQ (h:Nat)(rows:List Row):Hp:={m:=λi=>(rows[i]?).bind λr=>if r.c<h then O ⟨r.cells,Zb,r.es⟩else Y,n:=rows.length}
theorem aQ0 {P:Program}(F:XD P w){rows:List Row}(h: ∀r∈rows,∀(i:Nat) (v:Value),r.cells[i]?=O v->∃v',w.cell? ⟨r.c,r.o+i,Y⟩=O v'/\VR (sQ rows) v v'):
  R (Base.of w F) (sQ rows) (uQ w.heap.size rows) w:=by
 refine⟨Nat.le_refl _,λ_ _=>rfl,λb H=> ?_,λb x p=> ?_,λb M x V g U p _ _ E=> ?_,λb x g _ u J _ _=>(by
  simp only[sQ]at u;cases s:rows[b]? with
  |none=>rw[s]at u;cases u
  |some r=>rw[s]at u;injection u with u;subst u;cases J),⟨List.nodup_nil,λk C=>(by cases C)⟩,λk C=>(by cases C)⟩
 .simp only[sQ,cB H,Option.map_none]
 .simp only[uQ]at p;cases s:rows[b]? with
  |none=>rw[s]at p;cases p
  |some r=>
   rw[s,zG]at p;split at p
   .rename_i D;injection p with p
    subst p;refine⟨⟨r.c,r.o,r.ext,r.es,0,Y⟩,by simp only[sQ,s,Option.map_some],D,rfl,λ_ i v L=>h r (List.mem_of_getElem? s) i v L,λ_ E=>(by cases E),λ_ A=>(by cases A),λA=>(by cases A),λ_ A=>(by cases A),λA=>by cases A⟩
   .cases p
 .simp only[uQ]at p;cases s:rows[b]? with
  |none=>rw[s]at p;cases p
  |some r=>
   rw[s,zG]at p;split at p
   .injection p with p
    subst p;cases E
   .cases p
theorem aD8 {p:Nat}{rows:List Row}:(uQ p rows).Ok:=by
 intro b x s;rcases Nat.lt_or_ge b rows.length with h|h
 .exact h
 .simp only[uQ,cB h,Option.bind_none]at s;cases s
theorem aN8 {P:Program}{S:MQ}(D:QJ P f S)(u:XD P w){rows:List Row}{args:List Value}{cargs:Array Value}
  (s: ∀r∈rows,∀(i:Nat) (v:Value),r.cells[i]?=O v->∃v',w.cell? ⟨r.c,r.o+i,Y⟩=O v'/\VR (sQ rows) v v')
  (p:F2 (VR (sQ rows)) args cargs.toList) (h:S args (uQ w.heap.size rows) λr _=>r= .bool Za) (F:EQ f=Zb:=by rfl):
  Calls P f cargs w λe w'=>e= .returned (.bool Za)/\Below w.heap.size w w':=by
 refine((D _ _ _ w args cargs _ h (aQ0 u s)).1 F p).2.mono λx w' E=> ?_
 obtain⟨r,Z',H,J,rfl,rfl,_,_,C,A,_⟩:=E;cases C;exact⟨rfl,A⟩
section
variable {k:IntKind} {w:World} {a:Option Addr} {len cap:Nat} {zs:Zd} {rows:List Row} {j:Nat}
theorem au3 {x:Addr}(h:w.cell? x=O v):x.block<w.heap.size:=by
 unfold World.cell? at h;split at h
 .rename_i p;exact(Array.getElem?_eq_some_iff.1 p).1
 .cases h
theorem YQ {x:Addr}(h:w.cell? (x.add 0)=O v):x.spot=Y:=by
 have:=World.cell?_spot h;simpa[Addr.add]using this
theorem Nd {x:Addr}{i:Nat}(p:x.spot=Y)(h:w.cell? (x.add i)=O v):w.cell? ⟨x.block,x.off+i,Y⟩=O v:=by
 obtain⟨b,o,s⟩:=x;simp only at p;subst p
 have:(⟨b,o,Y⟩:Addr).add i=⟨b,o+i,Y⟩:=by
  simp only[Addr.add];split
  .rename_i u;subst u;rfl
  .rfl
 rwa [this]at h
end
theorem aR7 {n:Int}(h:(Lit.int .i64 n).wf=Za): -9223372036854775808<=n/\n<=9223372036854775807:=by
 simpa[Lit.wf,bB,aD,bD,aB]using h
theorem aR8 {n:Int}(h:(Lit.int .u64 n).wf=Za):0<=n/\n<=18446744073709551615:=by
 simpa[Lit.wf,bB,aD,bD,aB]using h
theorem ba1 {n:Int}(h:(Lit.int .u8 n).wf=Za):0<=n/\n<=255:=by
 simpa[Lit.wf,bB,aD,bD,aB]using h
end
end Go.Ab
namespace Go.V
open Go.Ab
open Option renaming some->O,none->Y
open Bool renaming true->Za,false->Zb
open Decidable renaming decide->Zc
variable {k:Nat}
section
open List renaming replicate -> bD
open Nat renaming beq -> aB, ble -> aD
open Option renaming none -> bB
inductive Sh where
 |int (k:IntKind)
 |bool
 |str
 |list (s:Sh)
 |pair (a b:Sh)
 deriving DecidableEq
@[reducible] def El :Sh->Type
 | .int _=>Int
 | .bool=>Bool
 | .str=>Zd
 | .list s=>List (El s)
 | .pair a b=>El a×El b
def Sh.w :Sh->Nat
 | .pair a b=>a.w+b.w
 |_=>1
inductive VV where
 |undef
 |bool (b:Bool)
 |int (k:IntKind) (n:Int)
 |str (l:Zd)
 |nilp
 |nils
 |nilf
 |ptr (k o:Nat)
 |pix (k o n i:Nat)
 |pel (k i o:Nat)
 |pin (s:Sh) (x:El s) (o:Nat)
 |lst (s:Sh) (l:List (El s))
 |tgt (s:Sh) (l:List (El s))
 |full (k:Nat)
 |part (k lo n:Nat)
 |it (k:Nat) (l:Zd)
 |bld (k:Nat)
 |fn (f:Nat) (a c:List VV)
 |agg (l:List VV)
 |tup (l:List VV)
inductive Blk where
 |dead
 |cells (es:Nat) (fz:Bool) (l:List VV)
 |arr (s:Sh) (fz:Bool) (l:List (El s))
abbrev ah :=List Blk
abbrev cu :=List VV
def mv :cu->Nat->VV
 |[],_=> .undef
 |v::_,0=>v
 |_::r,n+1=>mv r n
def ui :cu->Nat->VV->cu
 |[],0,v=>[v]
 |[],n+1,v=> .undef::ui [] n v
 |_::r,0,v=>v::r
 |a::r,n+1,v=>a::ui r n v
def putO (e:cu)(d:Option Nat)(v:VV):cu:=match d with
 |some d=>ui e d v
 |none=>e
def ad :ah->Nat->Blk
 |[],_=> .dead
 |b::_,0=>b
 |_::r,n+1=>ad r n
def i9 :ah->Nat->Blk->ah
 |[],_,_=>[]
 |_::r,0,b=>b::r
 |a::r,n+1,b=>a::i9 r n b
def nth {α:Type}:List α->Nat->Option α
 |[],_=>Y
 |v::_,0=>O v
 |_::r,n+1=>nth r n
def LZ :Value->VV
 | .bool b=> .bool b
 | .int k n=> .int k n
 | .string s=> .str (au s)
 | .pointer Y=> .nilp
 | .slice Y 0 0=> .nils
 | .nilFunc=> .nilf
 |_=> .undef
def ofC :Value->VV
 | .agg h=> .agg (h.toList.map LZ)
 |v=>LZ v
def ev (e:cu):Operand->VV
 | .tmp t=>mv e t
 | .const v=>ofC v
 | .func f=> .fn f [] []
 | .global _=> .undef
def aC3 :VV->Bool
 | .undef| .agg _| .tup _=>Zb
 |_=>Za
def rK :VV->List VV
 | .agg l=>l
 |v=>[v]
def dx :(s:Sh)->El s->List VV
 | .int k,n=>[.int k n]
 | .bool,b=>[.bool b]
 | .str,l=>[.str l]
 | .list s,l=>[.lst s l]
 | .pair a b,x=>dx a x.1++dx b x.2
def gm (s:Sh)(l:List (El s)):List VV:=l.flatMap (dx s)
def qD (p s:Sh)(x:El p):Option (El s):=if h:p=s then O (h▸x)else Y
def Lg {α:Type}(f:List VV->Option (α×List VV)):Nat->List VV->Option (List α)
 |_,[]=>O []
 |0,_::_=>Y
 |n+1,v::l=>(f (v::l)).bind λp=>(Lg f n p.2).bind λr=>O (p.1::r)
def Blk.frozen :Blk->Bool
 | .dead=>Za
 | .cells _ z _=>z
 | .arr _ z _=>z
def AW (s:Sh)(f:List VV->Option (El s×List VV)):Blk->Option (List (El s))
 | .dead=>Y
 | .arr p _ l=>qD (.list p) (.list s) l
 | .cells h _ l=>bif aB h s.w then Lg f l.length l else Y
def GB (S:ah)(s:Sh)(f:List VV->Option (El s×List VV)):VV->Option (List (El s))
 | .nils=>O []
 | .lst p l=>qD (.list p) (.list s) l
 | .full k=>AW s f (ad S k)
 | .part k h n=>(AW s f (ad S k)).bind λl=>O ((l.drop h).take n)
 |_=>Y
def Rl (S:ah)(s:Sh)(f:List VV->Option (El s×List VV)):VV->Option (List (El s))
 | .full k=>bif (ad S k).frozen then GB S s f (.full k)else Y
 | .part k h n=>bif (ad S k).frozen then GB S s f (.part k h n)else Y
 |v=>GB S s f v
def pv (S:ah):(s:Sh)->List VV->Option (El s×List VV)
 | .int k, .int h n::r=>bif Zc (h=k)then O (n,r)else Y
 | .bool, .bool b::r=>O (b,r)
 | .str, .str l::r=>O (l,r)
 | .list s,v::r=>(Rl S s (pv S s) v).bind λl=>O (l,r)
 | .pair a b,l=>(pv S a l).bind λp=>(pv S b p.2).bind λq=>O ((p.1,q.1),q.2)
 |_,_=>Y
def WQ (S:ah)(s:Sh)(v:VV):Option (List (El s)):=GB S s (pv S s) v
def Blk.freeze :Blk->Blk
 | .dead=> .dead
 | .cells h _ l=> .cells h Za l
 | .arr s _ l=> .arr s Za l
def fzv :Nat->ah->VV->ah
 |0,S,_=>S
 |n+1,S,v=>match v with
  | .full k=>(match ad S k with
   | .cells h _ l=>l.foldl (fzv n) (i9 S k (.cells h Za l))
   |b=>i9 S k b.freeze)
  | .part k _ _=>(match ad S k with
   | .cells h _ l=>l.foldl (fzv n) (i9 S k (.cells h Za l))
   |b=>i9 S k b.freeze)
  |_=>S
def IQ (S:ah)(l:List VV):ah:=l.foldl (fzv 3) S
def ax2 (S:ah):VV->ah
 | .full k=>(match ad S k with
  | .cells _ _ l=>IQ S l
  |_=>S)
 | .part k _ _=>(match ad S k with
  | .cells _ _ l=>IQ S l
  |_=>S)
 |_=>S
section
variable {β:Type}
def gd (b:Bool)(x:Option β):Option β:=cond b x Y
def ix (i:Int)(n:Nat):Option Nat:=cond (Zc (0<=i)&&Zc (i<n)) (O i.toNat) Y
def rd {α:Type}(l:List α)(i:Int):Option α:=cond (Zc (0<=i)) l[i.toNat]? Y
def ao1 (p:Bool):VV->VV->Option VV
 | .int k x, .int h y=>cond (Zc (k=h)) (O (.int k (cond p x y))) Y
 | .bool x, .bool y=>O (.bool (cond p x y))
 | .str x, .str y=>O (.str (cond p x y))
 |_,_=>Y
def al5 (p:Bool)(x y:VV)(S:ah)(k:VV->ah->Option β):Option β:=match ao1 p x y with
 |some v=>k v S
 |none=>cond p (k x S) (k y S)
def zM :IntKind->List VV->Option (Zd)
 |_,[]=>O []
 |k, .int h n::r=>cond (Zc (h=k)) ((zM k r).bind λl=>O (n::l)) Y
 |_,_=>Y
def M2 :List VV->Option (List Bool)
 |[]=>O []
 | .bool b::r=>(M2 r).bind λl=>O (b::l)
 |_=>Y
def Uq :List VV->Option (List (Zd))
 |[]=>O []
 | .str b::r=>(Uq r).bind λl=>O (b::l)
 |_=>Y
def W9 (S:ah)(k:VV->ah->Option β):List VV->Nat->Option β
 |[],_=>Y
 |v::r,i=>cond (aB i 0) (k v S) (W9 S k r (i-1))
def SB (cs:List VV)(i:Nat)(S:ah)(k:VV->ah->Option β):Option β:=match cs with
 | .int h n::r=>(match zM h r with
  |some l=>k (.int h ((n::l).getD i 0)) S
  |none=>Y)
 | .bool b::r=>(match M2 r with
  |some l=>k (.bool ((b::l).getD i Zb)) S
  |none=>Y)
 | .str b::r=>(match Uq r with
  |some l=>k (.str ((b::l).getD i [])) S
  |none=>Y)
 |cs=>W9 S k cs i
def Oe (v:VV):List VV->Nat->Nat->Option (List VV)
 |[],_,_=>O []
 |c::r,i,j=>(ao1 (aB i j) v c).bind λx=>(Oe v r i (j+1)).bind λl=>O (x::l)
def aE2 (cells:List VV)(o:Nat):List VV->List VV
 |[]=>cells
 |v::h=>aE2 (cells.set o v) (o+1) h
def Ln (cells:List VV):List (Nat×Nat×VV)->Option (List VV)
 |[]=>O cells
 |(p,h,v)::s=>
  cond (aB (rK v).length h&&aD (p+h) cells.length&&(rK v).all aC3) (Ln (cells.take p++rK v++cells.drop (p+h)) s) Y
def Dg (e:cu)(l:List (Nat×Nat×Operand)):List (Nat×Nat×VV):=l.map λ(o,s,x)=>(o,s,ev e x)
def tv (l:List VV):Bool:=l.all aC3
def P6 (S:ah)(n:Nat)(agg:Bool)(a:VV)(k:VV->ah->Option β):Option β:=
 let h (p:List VV) (o:Nat):Option β:=cond agg (gd (aD (o+n) p.length) (k (.agg ((p.drop o).take n)) S)) (match nth p o with
  |some v=>k v S
  |none=>Y)
 match a with
 | .ptr b o=>(match ad S b with
  | .cells _ _ l=>h l o
  |_=>Y)
 | .pix b o m i=>(match ad S b with
  | .cells _ _ l=>gd (!agg&&aD (o+m) l.length) (SB ((l.drop o).take m) i S k)
  |_=>Y)
 | .pel b i o=>(match ad S b with
  | .arr s _ l=>(l[i]?).bind λx=>h (dx s x) o
  |_=>Y)
 | .pin s x o=>h (dx s x) o
 |_=>Y
def VY (S:ah)(a:VV)(cs:List VV)(k:ah->Option β):Option β:=match a with
 | .ptr b o=>(match ad S b with
  | .cells h Zb l=>gd (aD (o+cs.length) l.length) (k (i9 S b (.cells h Zb (aE2 l o cs))))
  |_=>Y)
 | .pix b o m i=>(match ad S b,cs with
  | .cells h Zb l,[v]=>gd (aD (o+m) l.length) (match Oe v ((l.drop o).take m) i 0 with
   |some p=>k (i9 S b (.cells h Zb (l.take o++p++l.drop (o+m))))
   |none=>Y)
  |_,_=>Y)
 | .pel b i o=>(match ad (IQ S cs) b with
  | .arr s Zb l=>(l[i]?).bind λx=>(match pv (IQ S cs) s (aE2 (dx s x) o cs)with
   |some (y,[])=>gd (aD (o+cs.length) s.w) (k (i9 (IQ S cs) b (.arr s Zb (l.set i y))))
   |_=>Y)
  |_=>Y)
 |_=>Y
def Aj (k:IntKind)(f:BitVec k.bits->BitVec k.bits->BitVec k.bits)(x y:Int):Int:=k.wrap (f (BitVec.ofInt k.bits x) (BitVec.ofInt k.bits y)).toNat
def UT (op:BinOp)(kd:IntKind)(x y:Int)(k:VV->Option β):Option β:=match op with
 | .add=>k (.int kd (kd.wrap (x+y)))
 | .sub=>k (.int kd (kd.wrap (x-y)))
 | .mul=>k (.int kd (kd.wrap (x*y)))
 | .quo=>gd (Zc (y≠0)) (k (.int kd (kd.wrap (x.tdiv y))))
 | .rem=>gd (Zc (y≠0)) (k (.int kd (x.tmod y)))
 | .and=>k (.int kd (Aj kd (· &&& ·) x y))
 | .or=>k (.int kd (Aj kd (· ||| ·) x y))
 | .xor=>k (.int kd (Aj kd (· ^^^ ·) x y))
 | .andNot=>k (.int kd (Aj kd (λa b=>a&&& ~~~b) x y))
 | .eql=>k (.bool (Zc (x=y)))
 | .neq=>k (.bool (Zc (x≠y)))
 | .lss=>k (.bool (Zc (x<y)))
 | .leq=>k (.bool (Zc (x<=y)))
 | .gtr=>k (.bool (Zc (y<x)))
 | .geq=>k (.bool (Zc (y<=x)))
 |_=>Y
def ao4 (op:BinOp)(kd:IntKind)(x y:Int)(k:VV->Option β):Option β:=match op with
 | .shl=>gd (Zc (0<=y)) (k (.int kd (kd.wrap (x*2 ^ (min y.toNat kd.bits)))))
 | .shr=>gd (Zc (0<=y)) (k (.int kd (x.fdiv (2 ^ (min y.toNat kd.bits)))))
 |_=>Y
def aZ2 (a b:Nat):Bool:=aD (a+b) 9223372036854775807
def aZ6 (op:BinOp)(x y:Zd)(k:VV->Option β):Option β:=match op with
 | .add=>gd (aZ2 x.length y.length) (k (.str (x++y)))
 | .eql=>k (.bool (Zc (x=y)))
 | .neq=>k (.bool (Zc (x≠y)))
 |_=>Y
def aL0 (op:BinOp)(x y:VV)(k:VV->Option β):Option β:=match x,y with
 | .int h a, .int p b=>cond (yS op) (ao4 op h a b k) (cond (Zc (h=p)) (UT op h a b k) Y)
 | .str a, .str b=>cond (yS op) Y (aZ6 op a b k)
 |_,_=>Y
def ai0 (h p:Bool):Bool:=cond h (!p) p
def Blk.live :Blk->Bool
 | .dead=>Zb
 |_=>Za
def Nz (S:ah):VV->Bool
 | .ptr k _=>(ad S k).live
 | .pix k _ _ _=>(ad S k).live
 | .pel k _ _=>(ad S k).live
 | .pin _ _ _=>Za
 |_=>Zb
def aM0 (S:ah):Nat->VV->VV->Option Bool
 |0, .bool a, .bool b=>O (a==b)
 |1, .nilp, .nilp=>O Za
 |1, .nilp,v=>cond (Nz S v) (O Zb) Y
 |1,v, .nilp=>cond (Nz S v) (O Zb) Y
 |2, .nils, .nils=>O Za
 |3, .nilf, .nilf=>O Za
 |3, .nilf, .fn f _ _=>gd (!Cg f) (O Zb)
 |3, .fn f _ _, .nilf=>gd (!Cg f) (O Zb)
 |_,_,_=>Y
def X3 :Nat->VV->VV->Option Bool
 |0, .bool a, .bool b=>O (a==b)
 |1, .int k a, .int h b=>cond (Zc (k=h)) (O (Zc (a=b))) Y
 |2, .str a, .str b=>O (Zc (a=b))
 |_,_,_=>Y
def O6 :List Nat->List VV->List VV->Option Bool
 |[],[],[]=>O Za
 |[k],[a],[b]=>X3 k a b
 |k::h,a::r,b::s=>(X3 k a b).bind λp=>(O6 h r s).bind λq=>O (p&&q)
 |_,_,_=>Y
def unK (op:UnOp)(x:VV)(k:VV->Option β):Option β:=match op,x with
 | .neg, .int h n=>k (.int h (h.wrap (0-n)))
 | .xor, .int h n=>k (.int h (h.wrap (BitVec.ofInt h.bits (if h.signed then-1 else h.max) ^^^ BitVec.ofInt h.bits n).toNat))
 | .not, .bool b=>k (.bool !b)
 |_,_=>Y
def Jo :VV->Option Int
 | .int _ n=>O n
 |_=>Y
def lenOf (S:ah):VV->Option Nat
 | .nils=>O 0
 | .lst _ l=>O l.length
 | .full b=>(match ad S b with
  | .arr _ _ l=>O l.length
  | .cells h _ l=>O (l.length / h)
  | .dead=>Y)
 | .part b _ n=>cond (ad S b).live (O n) Y
 | .str l=>O l.length
 |_=>Y
def U7 {α:Type}(l:List α)(p h:Int):List α:=(l.take h.toNat).drop p.toNat
def Fv :Option VV->Option Int
 |none=>O 0
 |some v=>Jo v
def Am (n:Nat):Option VV->Option Int
 |none=>O n
 |some v=>Jo v
def jk (p h:Int)(n:Nat):Bool:=Zc (0<=p)&&Zc (p<=h)&&Zc (h<=n)
def VU (S:ah)(es:Nat)(x:VV)(u p:Option VV)(k:VV->ah->Option β):Option β:=
 match lenOf S x with
 |none=>Y
 |some n=>match Fv u,Am n p with
  |some a,O b=>(match x with
   | .nils=>gd (jk a b n) (k .nils S)
   | .lst s l=>gd (aB es s.w) (match u,p with
    |none,Y=>k (.lst s l) S
    |_,_=>gd (jk a b n) (k (.lst s (U7 l a b)) S))
   | .full q=>(match ad S q with
    | .arr s _ _=>gd (aB es s.w) (gd (jk a b n) (k (.part q a.toNat (b.toNat-a.toNat)) S))
    | .cells h _ _=>gd (aB es h&&aD 1 es) (gd (jk a b n) (k (.part q a.toNat (b.toNat-a.toNat)) S))
    | .dead=>Y)
   | .part q o _=>(match ad S q with
    | .arr s _ _=>gd (aB es s.w) (gd (jk a b n) (k (.part q (o+a.toNat) (b.toNat-a.toNat)) S))
    | .cells h _ _=>gd (aB es h&&aD 1 es) (gd (jk a b n) (k (.part q (o+a.toNat) (b.toNat-a.toNat)) S))
    | .dead=>Y)
   |_=>Y)
  |_,_=>Y
def KU (S:ah)(x:VV)(p h:Option VV)(k:VV->ah->Option β):Option β:=match x with
 | .str l=>(match Fv p,Am l.length h with
  |some a,O b=>gd (jk a b l.length) (k (.str (U7 l a b)) S)
  |_,_=>Y)
 |_=>Y
def KT (S:ah)(es n:Nat)(x:VV)(u p:Option VV)(k:VV->ah->Option β):Option β:=match x with
 | .ptr b o=>(match ad S b with
  | .cells h Zb l=>(match Fv u,Am n p with
   |some a,O c=>gd (aB es h&&aD 1 es&&aB (o % es) 0&&aD (o+n*es) l.length&&jk a c n&&Zc (a<n)) (k (.part b (o / es+a.toNat) (c.toNat-a.toNat)) S)
   |_,_=>Y)
  | .arr s Zb l=>(match Fv u,Am n p with
   |some a,O c=>gd (aB es s.w&&aB o 0&&aD n l.length&&jk a c n&&Zc (a<n)) (k (.part b a.toNat (c.toNat-a.toNat)) S)
   |_,_=>Y)
  |_=>Y)
 |_=>Y
def aN4 :Value->Bool
 | .int .u8 n=>Zc (n=0)
 |_=>Zb
def U1 (es:Nat)(z:List Value):Bool:=aB es 1&&aD 20 z.length&&z.all aN4
def Gl (es:Nat)(z:List Value):Blk:=cond (U1 es z) (.arr (.int .u8) Zb (bD z.length (0:Int))) (.cells es Zb (z.map LZ))
def aO9 (S:ah)(n:Nat):VV->Option VV
 | .ptr b o=>cond (ad S b).live (O (.ptr b (o+n))) Y
 | .pel b i o=>cond (ad S b).live (O (.pel b i (o+n))) Y
 | .pin s x o=>O (.pin s x (o+n))
 | .pix b o m i=>cond (ad S b).live (cond (aB n 0) (O (.pix b o m i)) Y) Y
 |_=>Y
def aM9 (S:ah)(es:Nat)(x i:VV)(k:VV->ah->Option β):Option β:=match i with
 | .int _ i=>(match x with
  | .lst s l=>gd (aB es s.w) ((rd l i).bind λy=>k (.pin s y 0) S)
  | .full b=>(match ad S b with
   | .arr s _ l=>gd (aB es s.w) ((ix i l.length).bind λj=>k (.pel b j 0) S)
   | .cells h _ l=>gd (aB es h&&aD 1 es) ((ix i (l.length / es)).bind λj=>cond (aB es 1) (k (.pix b 0 l.length j) S) (k (.ptr b (j*es)) S))
   | .dead=>Y)
  | .part b o n=>(match ad S b with
   | .arr s _ _=>gd (aB es s.w) ((ix i n).bind λj=>k (.pel b (o+j) 0) S)
   | .cells h _ _=>gd (aB es h&&aD 1 es) ((ix i n).bind λj=>cond (aB es 1) (k (.pix b o n j) S) (k (.ptr b ((o+j)*es)) S))
   | .dead=>Y)
  |_=>Y)
 |_=>Y
def af2 (S:ah)(ln es:Nat)(x i:VV)(k:VV->ah->Option β):Option β:=match x,i with
 | .ptr b o, .int _ i=>gd (ad S b).live ((ix i ln).bind λj=>cond (aB es 1) (k (.pix b o ln j) S) (k (.ptr b (o+j*es)) S))
 |_,_=>Y
def DE (l:List VV)(a n:Nat):List VV:=(l.drop a).take n
def lz (n bytes:Nat):Bool:=Zc (n*bytes<=140737488355328)&&aD 1 bytes
inductive Base where
 |none
 |cells (es:Nat) (l:List VV)
 |arr (s:Sh) (l:List (El s))
def C9 (S:ah)(es:Nat):VV->Option (Base×Option Nat)
 | .nils=>O (.none,Y)
 | .full b=>(match ad S b with
  | .arr s Zb l=>cond (aB es s.w) (O (.arr s l,O b)) bB
  | .cells h Zb l=>cond (aB es h&&aD 1 es) (O (.cells es l,O b)) bB
  |_=>bB)
 | .part b 0 n=>(match ad S b with
  | .arr s Zb l=>cond (aB es s.w) (O (.arr s (l.take n),O b)) bB
  | .cells h Zb l=>cond (aB es h&&aD 1 es) (O (.cells es (l.take (n*es)),O b)) bB
  |_=>bB)
 |_=>bB
inductive More where
 |cells (l:List VV)
 |lst (s:Sh) (l:List (El s))
def kq (S:ah)(es:Nat):VV->Option More
 | .nils=>O (.cells [])
 | .lst s l=>cond (aB es s.w) (O (.lst s l)) Y
 | .str l=>cond (aB es 1) (O (.lst (.int .u8) l)) Y
 | .full b=>(match ad S b with
  | .arr s _ l=>cond (aB es s.w) (O (.lst s l)) Y
  | .cells h _ l=>cond (aB es h&&aD 1 es) (O (.cells l)) Y
  |_=>Y)
 | .part b o n=>(match ad S b with
  | .arr s _ l=>cond (aB es s.w) (O (.lst s ((l.drop o).take n))) Y
  | .cells h _ l=>cond (aB es h&&aD 1 es) (O (.cells ((l.drop (o*es)).take (n*es)))) Y
  |_=>Y)
 |_=>Y
def rN (S:ah):Option Nat->ah
 |none=>S
 |some b=>i9 S b .dead
def Xt (S:ah)(s:Sh)(l:List VV):Option (List (El s)):=Lg (pv S s) l.length l
def grow (S:ah)(bytes:Nat)(s:Sh)(kill:Option Nat)(a b:List (El s))(k:VV->ah->Option β):Option β:=
 gd (lz (a.length+b.length) bytes) (k (.full S.length) (rN S kill++[.arr s Zb (a++b)]))
def Me (S:ah)(es bytes:Nat)(C:Option (Base×Option Nat))(E:Option More)(k:VV->ah->Option β):Option β:=
 match C,E with
 |some (.arr s l,h),O (.lst F u)=>(qD (.list F) (.list s) u).bind λA=>grow S bytes s h l A k
 |some (.arr s l,h),O (.cells p)=>(match ad (IQ S p) (h.getD 0)with
  | .arr _ Zb _=>(Xt (IQ S p) s p).bind λA=>grow (IQ S p) bytes s h l A k
  |_=>Y)
 |some (.cells _ l,h),O (.lst s u)=>(match ad (IQ S l) (h.getD 0)with
  | .cells _ Zb _=>(Xt (IQ S l) s l).bind λD=>grow (IQ S l) bytes s h D u k
  |_=>Y)
 |some (.none,h),O (.lst s u)=>grow S bytes s h [] u k
 |some (.cells es l,h),O (.cells p)=>gd (lz ((l.length+p.length) / es) bytes&&tv p) (k (.full S.length) (rN S h++[.cells es Zb (l++p)]))
 |some (.none,h),O (.cells p)=>gd (lz (p.length / es) bytes&&aD 1 es&&tv p) (k (.full S.length) (rN S h++[.cells es Zb p]))
 |_,_=>Y
def QR (S:ah)(es bytes:Nat)(x y:VV)(k:VV->ah->Option β):Option β:=Me S es bytes (C9 S es x) (kq S es y) k
def On (S:ah):VV->Option (ah×Base)
 | .lst s l=>O (S, .arr s l)
 | .full q=>(match ad S q with
  | .arr s _ l=>O (i9 S q (ad S q).freeze, .arr s l)
  |_=>Y)
 |_=>Y
def RM (S:ah)(x p u:VV)(k:VV->ah->Option β):Option β:=match p,u with
 | .int _ h, .int _ m=>gd (Zc (h=m)) (match x with
  | .nils=>gd (Zc (h=0)) (k .nils S)
  |v=>(match On S v with
   |some (S1, .arr s l)=>gd (jk 0 h l.length) (k (.tgt s (l.take h.toNat)) S1)
   |_=>Y))
 |_,_=>Y
def Wc (S:ah)(es bytes:Nat)(s:Sh)(l:List (El s))(A:Option More)(k:VV->ah->Option β):Option β:=match A with
 |some (.lst C u)=>(qD (.list C) (.list s) u).bind λh=>gd (aB es s.w&&aD 1 h.length) (grow S bytes s Y l h k)
 |some (.cells p)=>(Xt (IQ S p) s p).bind λh=>gd (aB es s.w&&aD 1 h.length) (grow (IQ S p) bytes s Y l h k)
 |none=>Y
def MW (S:ah)(es bytes:Nat)(x y:VV)(k:VV->ah->Option β):Option β:=match x with
 | .tgt s l=>Wc S es bytes s l (kq S es y) k
 |x=>QR S es bytes x y k
def P9 (l:Zd)(i:Nat):Nat×Nat:=
 let p (k:Nat):Nat:=(l.getD (i+k) 0).toNat
 let h (k:Nat):Bool:=i+k<l.length&&p k / 64==2
 let s:=p 0
 if s<0x80 then(s,1)
 else if s / 32==6&&h 1 then
  let c:=(s % 32)*64+p 1 % 64
  if c≥0x80 then(c,2)else(Utf8.runeError,1)
 else if s / 16==14&&h 1&&h 2 then
  let c:=(s % 16)*4096+(p 1 % 64)*64+p 2 % 64
  if c≥0x800&&Utf8.valid c then(c,3)else(Utf8.runeError,1)
 else if s / 8==30&&h 1&&h 2&&h 3 then
  let c:=(s % 8)*262144+(p 1 % 64)*4096+(p 2 % 64)*64+p 3 % 64
  if c≥0x10000&&Utf8.valid c then(c,4)else(Utf8.runeError,1)
 else(Utf8.runeError,1)
def an7 (l:Zd)(p:Int):Int:=((P9 l p.toNat).1:Nat)
def Uc (l:Zd)(p:Int):Int:=((p.toNat+(P9 l p.toNat).2:Nat):Int)
def Ov (n:Int):Zd:=au (Utf8.encode n)
def M7 (n:Int):Int:=((UInt8.ofNat n.toNat).toNat:Nat)
def Tn (S:ah)(kd:IntKind)(v:VV)(k:Nat->Nat->Bool->Zd->List VV->Option β):Option β:=match v with
 | .fn f [] [.ptr q 0]=>gd (aB f (WW kd)) (match ad S q with
  | .cells h p (.str l::r)=>k q h p l r
  |_=>Y)
 |_=>Y
def aI3 :VV->Option Nat
 | .fn _ [] [.ptr q 0]=>O q
 |_=>Y
def ai5 (S:ah)(v:VV)(k:VV->ah->Option β):Option β:=match v with
 | .it q l=>(match ad S q with
  | .cells h Zb (.int .i64 p::r)=>gd (Zc (0<=p)&&aD 1 h) (cond (Zc (p<l.length)) (k (.tup [.bool Za, .int .i64 p, .int .i32 (an7 l p)]) (i9 S q (.cells h Zb (.int .i64 (Uc l p)::r)))) (k (.tup [.bool Zb]) S))
  |_=>Y)
 |_=>Y
def ah6 (S:ah)(v:VV)(k:VV->ah->Option β):Option β:=match v with
 | .full q=>(match ad S q with
  | .cells _ Zb (_::_)=>k (.full q) S
  |_=>Y)
 |_=>Y
def VZ (S:ah)(v:VV)(k:VV->ah->Option β):Option β:=match v with
 | .str _=>Y
 |v=>(match kq S 1 v with
  |some (.lst s l)=>(qD (.list s) (.list (.int .u8)) l).bind λp=>k (.str (p.map M7)) S
  |some (.cells h)=>(zM .u8 h).bind λl=>k (.str (l.map M7)) S
  |none=>Y)
def ap3 (S:ah)(v:VV)(k:VV->ah->Option β):Option β:=match v with
 | .str _=>Y
 |v=>(match kq S 1 v with
  |some (.lst s l)=>(qD (.list s) (.list (.int .i32)) l).bind λp=>k (.str (p.flatMap Ov)) S
  |some (.cells h)=>(zM .i32 h).bind λl=>k (.str (l.flatMap Ov)) S
  |none=>Y)
def Oc :Nat->Zd->Nat->Zd
 |0,_,_=>[]
 |b+1,l,i=>if i<l.length then(((P9 l i).1:Nat):Int)::Oc b l (i+(P9 l i).2)else []
def IH (l:Zd):Zd:=Oc l.length l 0
def VP (S:ah)(v:VV)(k:VV->ah->Option β):Option β:=match v with
 | .str l=>gd (aD l.length 70368744177664) (k (.full S.length) (S++[.arr (.int .i32) Zb (IH l)]))
 |_=>Y
def Jc {α:Type}(l:List α)(o n:Nat)(m:List α):List α:=l.take o++(m.take n++l.drop (o+min n m.length))
def JC (kd:IntKind)(m:Zd):Nat->List VV->Option (List VV)
 |_,[]=>O []
 |j, .int k n::r=>cond (Zc (k=kd)) ((JC kd m (j+1) r).bind λl=>O (.int k (m.getD j n)::l)) Y
 |_,_=>Y
def ad3 (S:ah)(es:Nat)(d y:VV)(k:VV->ah->Option β):Option β:=
 let p (b o n:Nat):Option β:=match ad S b,kq S es y with
  | .arr s Zb l,O (.lst D C)=>(qD (.list D) (.list s) C).bind λh=>gd (aB es s.w) (k (.int .i64 (min h.length n:Nat)) (i9 S b (.arr s Zb (Jc l o n h))))
  | .arr s Zb l,O (.cells u)=>(zM .u64 u).bind λm=>(qD (.list (.int .u64)) (.list s) m).bind λh=>gd (aB es s.w) (k (.int .i64 (min h.length n:Nat)) (i9 S b (.arr s Zb (Jc l o n h))))
  | .cells 1 Zb l,O (.lst (.int A) m)=>gd (aB es 1&&aD (o+n) l.length) (match JC A m 0 ((l.drop o).take n)with
   |some c=>k (.int .i64 (min m.length n:Nat)) (i9 S b (.cells 1 Zb (l.take o++c++l.drop (o+n))))
   |none=>Y)
  |_,_=>Y
 match d with
 | .full b=>(match lenOf S d with
  |some n=>p b 0 n
  |none=>Y)
 | .part b o n=>p b o n
 |_=>Y
def Lz :List Value->Option Sh
 |[.int k 0]=>O (.int k)
 |[.bool Zb]=>O .bool
 | .int k 0::r=>(Lz r).bind λs=>O (.pair (.int k) s)
 | .bool Zb::r=>(Lz r).bind λs=>O (.pair .bool s)
 |_=>Y
def xH :(s:Sh)->El s
 | .int _=>(0:Int)
 | .bool=>Zb
 | .str=>[]
 | .list _=>[]
 | .pair a b=>(xH a,xH b)
def ah3 (S:ah)(es bytes:Nat)(z:List Value)(l c:VV)(k:VV->ah->Option β):Option β:=match l,c,Lz z with
 | .int _ l, .int _ c,O s=>gd (aB es s.w&&Zc (0<=l)&&Zc (l<=c)&&Zc (bytes*c<=140737488355328)&&aD 1 bytes) (k (.full S.length) (S++[.arr s Zb (bD l.toNat (xH s))]))
 |_,_,_=>Y
def UG (es:Nat)(z:List Value)(l:Int):Option More:=match Lz z with
 |some s=>cond (aB es s.w) (O (.lst s (bD l.toNat (xH s)))) Y
 |none=>Y
def qZ (bytes:Nat)(l:Int):Bool:=Zc (0<=l)&&(Zc (l<=9223372036854775807)&&Zc (l*(bytes:Int)<=281474976710656))
def MX (S:ah)(es bytes:Nat)(z:List Value)(x l:VV)(k:VV->ah->Option β):Option β:=match l with
 | .int _ l=>gd (qZ bytes l) (Me S es bytes (C9 S es x) (UG es z l) k)
 |_=>Y
end
end
variable {b:Blk}{S:ah}
section
open List renaming replicate -> bB
open Nat renaming beq -> aB, ble -> aD
inductive Sk where
 |undef
 |leaf (s:Sh)
 |cint (k:IntKind) (n:Int)
 |nilp
 |nils
 |nilf
 |ptr (j o:Nat)
 |full (j:Nat)
 |pin (s:Sh) (o:Nat)
 |fn (f:Nat) (a c:List Sk)
 |agg (l:List Sk)
 |tup (l:List Sk)
inductive OSk where
 |dead
 |cells (es:Nat) (ro:Bool) (l:List Sk)
 |arr (ro:Bool) (s:Sh)
structure Leaf where
 s:Sh
 v:El s
structure Src where
 k:Nat
 cut:Option Nat
structure DSt where
 m:List (Option Src)
 ls:List Leaf
 lent:List Nat
def DSt.push (st:DSt)(s:Sh)(v:El s):DSt:={st with ls:=st.ls++[⟨s,v⟩]}
def DSt.lend (st:DSt):VV->DSt
 | .full k=>{st with lent:=k::st.lent}
 | .part k _ _=>{st with lent:=k::st.lent}
 |_=>st
def DSt.link (N:Nat)(st:DSt)(j:Nat)(x:Option Src):Option DSt:=
 cond (Nat.blt j N) (match x with
  |some ⟨k,Y⟩=>cond (aB k j) (O st) Y
  |_=>Y)
 (match nth st.m (j-N)with
 |some (O ⟨k,Y⟩)=>(match x with
  |some ⟨h,Y⟩=>cond (aB k h) (O st) Y
  |_=>Y)
 |some _=>Y
 |none=>cond (aB (j-N) st.m.length) (O {st with m:=st.m++[x]}) Y)
mutual
def Kk (S:ah)(N:Nat):Sk->VV->DSt->Option DSt
 | .undef,_,st=>O st
 | .leaf s,v,st=>(match s,v with
  | .int k, .int k' n=>cond (Zc (k'=k)) (O (st.push (.int k) n)) Y
  | .bool, .bool b=>O (st.push .bool b)
  | .str, .str l=>O (st.push .str l)
  | .list s,v=>(WQ S s v).bind λl=>O ((st.lend v).push (.list s) l)
  |_,_=>Y)
 | .cint k n, .int k' n',st=>cond (Zc (k'=k)&&Zc (n'=n)) (O st) Y
 | .nilp, .nilp,st=>O st
 | .nils, .nils,st=>O st
 | .nilf, .nilf,st=>O st
 | .ptr j o, .ptr k o',st=>cond (aB o o') (st.link N j (O ⟨k,Y⟩)) Y
 | .full j,v,st=>(match v with
  | .full k=>st.link N j (O ⟨k,Y⟩)
  | .part k 0 n=>st.link N j (O ⟨k,O n⟩)
  | .nils=>st.link N j Y
  |_=>Y)
 | .pin s o, .pin s' x o',st=>cond (aB o o') ((qD s' s x).bind λy=>O (st.push s y)) Y
 | .fn f a c, .fn f' a' c',st=>cond (aB f f') ((Ip S N a a' st).bind λst1=>Ip S N c c' st1) Y
 | .agg l, .agg l',st=>Ip S N l l' st
 | .tup l, .tup l',st=>Ip S N l l' st
 |_,_,_=>Y
def Ip (S:ah)(N:Nat):List Sk->List VV->DSt->Option DSt
 |[],[],st=>O st
 |k::r,v::r',st=>(Kk S N k v st).bind λst1=>Ip S N r r' st1
 |_,_,_=>Y
end
def Ng {α:Type}:Option Nat->List α->List α
 |none,l=>l
 |some n,l=>l.take n
def U8 (S:ah)(N:Nat):OSk->Option Src->DSt->Option DSt
 | .dead,_,h=>O h
 | .cells C ro l,O ⟨k,Y⟩,h=>(match ad S k with
  | .cells u D A=>cond (aB C u&&(ro|| !D)) (Ip S N l A (cond ro {h with lent:=k::h.lent} h)) Y
  |_=>Y)
 | .arr ro s,Y,h=>cond ro Y (O (h.push (.list s) []))
 | .arr ro s,O ⟨k,p⟩,h=>cond (ro|| !(ad S k).frozen) ((WQ S s (.full k)).bind λl=>O ((cond ro {h with lent:=k::h.lent} h).push (.list s) (Ng p l))) Y
 |_,_,_=>Y
def Kl (S:ah)(N:Nat):List OSk->List Nat->DSt->Option DSt
 |[],[],h=>O h
 |o::r,j::s,h=>(U8 S N o (O ⟨j,Y⟩) h).bind λp=>Kl S N r s p
 |_,_,_=>Y
def xu (S:ah)(N:Nat):List OSk->Nat->DSt->Option DSt
 |[],i,h=>cond (aB i h.m.length) (O h) Y
 |o::r,i,h=>(match nth h.m i with
  |some x=>(U8 S N o x h).bind λp=>xu S N r (i+1) p
  |none=>Y)
def OSk.ro :OSk->Bool
 | .cells _ ro _=>ro
 | .arr ro _=>ro
 | .dead=>Zb
def qm (k:Nat):List Nat->Bool
 |[]=>Zb
 |a::r=>cond (aB a k) Za (qm k r)
def HZ :List Nat->Bool
 |[]=>Za
 |a::r=>cond (qm a r) Zb (HZ r)
def sY :List (Option Src)->List Nat
 |[]=>[]
 |none::r=>sY r
 |some x::r=>x.k::sY r
def po :List OSk->List (Option Src)->List Nat
 |o::r,O x::s=>cond o.ro (po r s) (x.k::po r s)
 |_::r,Y::s=>po r s
 |_,_=>[]
def EN (w:List Nat)(l:List Nat):Bool:=w.all λk=> !qm k l
structure yk where
 vals:List Sk
 fix:List OSk
 free:List OSk
def rL (S:ah)(N:Nat)(fx:List Nat)(p:yk)(vals:List VV):Option DSt:=
 (Ip S N p.vals vals ⟨[],[],[]⟩).bind λu=>(Kl S N p.fix fx u).bind λs=>(xu S N p.free 0 s).bind λh=>
  cond (HZ (fx++sY h.m)&&EN (fx++po p.free h.m) h.lent) (O h) Y
mutual
def enc (f:Nat->Nat):Sk->List Leaf->Option (VV×List Leaf)
 | .undef,ls=>O (.undef,ls)
 | .leaf s,x::ls=>(qD x.s s x.v).bind λ(y:El s)=>O ((match s,y with
  | .int k,n=> .int k n
  | .bool,b=> .bool b
  | .str,l=> .str l
  | .list s,l=> .lst s l
  | .pair _ _,_=> .undef),ls)
 | .cint k n,ls=>O (.int k n,ls)
 | .nilp,ls=>O (.nilp,ls)
 | .nils,ls=>O (.nils,ls)
 | .nilf,ls=>O (.nilf,ls)
 | .ptr j o,ls=>O (.ptr (f j) o,ls)
 | .full j,ls=>O (.full (f j),ls)
 | .pin s o,x::ls=>(qD x.s s x.v).bind λ(y:El s)=>O (.pin s y o,ls)
 | .fn g a c,ls=>(O4 f a ls).bind λp=>(O4 f c p.2).bind λq=>O (.fn g p.1 q.1,q.2)
 | .agg l,ls=>(O4 f l ls).bind λp=>O (.agg p.1,p.2)
 | .tup l,ls=>(O4 f l ls).bind λp=>O (.tup p.1,p.2)
 |_,_=>Y
def O4 (f:Nat->Nat):List Sk->List Leaf->Option (List VV×List Leaf)
 |[],ls=>O ([],ls)
 |k::r,ls=>(enc f k ls).bind λp=>(O4 f r p.2).bind λq=>O (p.1::q.1,q.2)
end
def O5 (f:Nat->Nat):OSk->List Leaf->Option (Blk×List Leaf)
 | .dead,h=>O (.dead,h)
 | .cells u ro l,h=>(O4 f l h).bind λp=>O (.cells u ro p.1,p.2)
 | .arr ro s,x::h=>(qD x.s (.list s) x.v).bind λl=>O (.arr s ro l,h)
 | .arr _ _,[]=>Y
def Fq (f:Nat->Nat):List OSk->List Leaf->Option (List Blk×List Leaf)
 |[],h=>O ([],h)
 |o::r,h=>(O5 f o h).bind λp=>(Fq f r p.2).bind λq=>O (p.1::q.1,q.2)
def ud (f:Nat->Nat)(h:yk)(ls:List Leaf):Option (List VV×List Blk×List Blk):=
 (O4 f h.vals ls).bind λp=>(Fq f h.fix p.2).bind λq=>(Fq f h.free q.2).bind λr=>match r.2 with
  |[]=>O (p.1,q.1,r.1)
  |_::_=>Y
mutual
def Sk.shs :Sk->List Sh
 | .leaf s=>[s]
 | .pin s _=>[s]
 | .fn _ a c=>VT a++VT c
 | .agg l=>VT l
 | .tup l=>VT l
 |_=>[]
def VT :List Sk->List Sh
 |[]=>[]
 |k::r=>k.shs++VT r
end
def OSk.shs :OSk->List Sh
 | .dead=>[]
 | .cells _ _ l=>VT l
 | .arr _ s=>[.list s]
def aQ5 :List OSk->List Sh
 |[]=>[]
 |o::r=>o.shs++aQ5 r
def yk.shs (h:yk):List Sh:=VT h.vals++(aQ5 h.fix++aQ5 h.free)
@[reducible] def FN :List Sh->Type
 |[]=>Unit
 |[s]=>El s
 |s::h::r=>El s×FN (h::r)
def Uu :(p:List Sh)->FN p->List Leaf
 |[],_=>[]
 |[s],x=>[⟨s,x⟩]
 |s::h::r,x=>⟨s,x.1⟩::Uu (h::r) x.2
def R9 :(u:List Sh)->List Leaf->Option (FN u)
 |[],[]=>O ()
 |[s],[x]=>qD x.s s x.v
 |s::p::r,x::h=>(qD x.s s x.v).bind λa=>(R9 (p::r) h).bind λb=>O (a,b)
 |_,_=>Y
inductive XK where
 |normal
 |exit (id:Nat)
 |ret
structure Alt where
 x:XK
 ts:List Nat
 sk:yk
@[reducible] def Alt.Ty (a:Alt):Type:=FN a.sk.shs
@[reducible] def yn :List Alt->Type
 |[]=>Empty
 |[a]=>a.Ty
 |a::b::r=>a.Ty⊕yn (b::r)
def bz {α γ β:Type}(s:α⊕γ)(f:α->Option β)(g:γ->Option β):Option β:=match s with
 | .inl a=>f a
 | .inr b=>g b
def ab2 {β:Type}:(l:List Alt)->yn l->((a:Alt)->a.Ty->Option β)->Option β
 |[],_,_=>Y
 |[a],t,k=>k a t
 |a::b::r,s,k=>bz s (λt=>k a t) λh=>ab2 (b::r) h k
def yk.noRo (h:yk):Bool:=h.fix.all (λo=> !o.ro)&&h.free.all λo=> !o.ro
def Ni (S:ah)(N:Nat)(fx:List Nat)(h:yk)(vals:List VV):Option (FN h.shs):=
 gd h.noRo ((rL S N fx h vals).bind λp=>R9 h.shs p.ls)
def yk.fxRo (h:yk):Bool:=h.fix.all λo=> !o.ro
def Wz (S:ah)(N:Nat)(fx:List Nat)(h:yk)(vals:List VV):Option (FN h.shs):=
 gd h.fxRo ((rL S N fx h vals).bind λp=>R9 h.shs p.ls)
def Al (S:ah)(N:Nat)(fx:List Nat)(vals:List Nat->List VV)(h:XK->Bool):(l:List Alt)->Option (yn l)
 |[]=>Y
 |[a]=>cond (h a.x) (Ni S N fx a.sk (vals a.ts)) Y
 |a::b::r=>match cond (h a.x) (Ni S N fx a.sk (vals a.ts)) Y with
  |some t=>O (.inl t)
  |none=>(Al S N fx vals h (b::r)).bind λs=>O (.inr s)
def Sh.al :Sh->Bool
 | .list _=>Za
 | .pair a b=>a.al||b.al
 |_=>Zb
mutual
def alV :VV->Bool
 | .lst _ _=>Za
 | .tgt _ _=>Za
 | .pin _ _ _=>Za
 | .fn _ a c=>QO a||QO c
 | .agg l=>QO l
 | .tup l=>QO l
 |_=>Zb
def QO :List VV->Bool
 |[]=>Zb
 |v::r=>alV v||QO r
end
def alB :Blk->Bool
 | .dead=>Zb
 | .cells _ _ l=>QO l
 | .arr s _ _=>s.al
def Fm (vs:List VV)(fs bs:List Blk):Bool:=QO vs||fs.any alB||bs.any alB
def Blk.may :Blk->Bool
 | .dead=>Za
 | .cells _ z _=> !z
 | .arr _ z _=> !z
def L0 (S:ah)(fx:List Nat):Bool:=fx.all λj=>Nat.blt j S.length&&(ad S j).may
structure FSum where
 f:Nat
 vals:List Sk
 objs:List OSk
 outs:List Alt
 run:FN (yk.shs ⟨vals,[],objs⟩)->Option (yn outs)
def FSum.ins (F:FSum):yk:=⟨F.vals,[],F.objs⟩
def xz :List OSk->Nat->List Nat
 |[],_=>[]
 |o::r,i=>cond o.ro (xz r (i+1)) (i::xz r (i+1))
def Ai (m:List (Option Src))(n h j:Nat):Nat:=cond (Nat.blt j n) (match nth m j with
 |some (O x)=>x.k
 |_=>h) (h+(j-n))
def zS :List Nat->List Blk->ah->Option ah
 |[],[],S=>O S
 |j::p,b::h,S=>zS p h (i9 S j b)
 |_,_,_=>Y
def ax0 (N:Nat)(h:List OSk):List Sk->List VV->ah->ah
 |k::r,v::p,S=>ax0 N h r p (match k with
  | .full j=>(match nth h (j-N)with
   |some (.arr _ s)=>cond (s.al&&aD N j) (ax2 S v) S
   |_=>S)
  |_=>S)
 |_,_,S=>S
def ae8 :Sk->VV->ah->ah
 | .leaf (.list (.list _)),v,S=>ax2 S v
 |_,_,S=>S
def Gw :List Sk->List VV->ah->ah
 |k::r,v::h,S=>Gw r h (ae8 k v S)
 |_,_,S=>S
def Ft :List Nat->ah->ah
 |[],S=>S
 |k::r,S=>Ft r (i9 S k (ad S k).freeze)
def aH7 {β:Type}(F:FSum)(t:FN F.ins.shs)(st:DSt)(S:ah)(k:VV->ah->Option β):Option β:=
 (F.run t).bind λo=>ab2 F.outs o λa u=>match ud (Ai st.m F.objs.length S.length) a.sk (Uu a.sk.shs u)with
  |some ([v],p,h)=>(match zS (po F.objs st.m) p (cond (Fm [v] p h) (Ft st.lent S) S)with
   |some S'=>k v (S'++h)
   |none=>Y)
  |_=>Y
def PV :List (Option Src)->Bool
 |[]=>Za
 |some ⟨_,Y⟩::r=>PV r
 |_=>Zb
def Nb {β:Type}:List FSum->Nat->List VV->ah->(VV->ah->Option β)->Option β
 |[],_,_,_,_=>Y
 |F::r,f,h,S,k=>cond (aB F.f f) (match rL (Gw F.vals h S) 0 [] F.ins h with
  |some p=>(match R9 F.ins.shs p.ls with
   |some t=>gd (PV p.m&&L0 (Gw F.vals h S) (po F.objs p.m)) (aH7 F t p (Gw F.vals h S) k)
   |none=>Nb r f h S k)
  |none=>Nb r f h S k) (Nb r f h S k)
structure Inl where
 f:Nat
 run:(β:Type)->List VV->ah->(VV->ah->Option β)->Option β
structure Tab where
 fs:List FSum
 is:List Inl
def ax6 :List Inl->Nat->Bool
 |[],_=>Zb
 |I::r,f=>cond (aB I.f f) Za (ax6 r f)
def Wu {β:Type}:List Inl->Nat->List VV->ah->(VV->ah->Option β)->Option β
 |[],_,_,_,_=>Y
 |I::r,f,h,S,k=>cond (aB I.f f) (I.run β h S k) (Wu r f h S k)
def SK {β:Type}(tab:Tab)(f:Nat)(args:List VV)(S:ah)(k:VV->ah->Option β):Option β:=
 cond (ax6 tab.is f) (Wu tab.is f args S k) (Nb tab.fs f args S k)
def Kd :Nat->List Nat
 |0=>[]
 |n+1=>n::Kd n
def Yz {β:Type}(S:ah)(x:Option VV)(k:VV->ah->Option β):Option β:=match x with
 |some v=>k v S
 |none=>Y
def Ks {β:Type}(tab:Tab)(op:AOp)(e:cu)(S:ah)(k:VV->ah->Option β):Option β:=match op with
 | .move x=>k (ev e x) S
 | .pick c a b=>(match ev e c with
  | .bool p=>al5 p (ev e a) (ev e b) S k
  |_=>Y)
 | .alloc h z=>gd (aD 1 h) (k (.ptr S.length 0) (S++[Gl h z]))
 | .box h x=>gd (aD 1 h&&tv (rK (ev e x))) (k (.ptr S.length 0) (S++[.cells h Zb (rK (ev e x))]))
 | .build z L=>(match Ln (z.map LZ) (Dg e L)with
  |some C=>k (.agg C) S
  |none=>Y)
 | .buildSlice h F z L=>(match Ln ((bB F (z.map LZ)).flatten) (Dg e L)with
  |some C=>gd (tv C&&aB (F*h) C.length&&aD 1 h) (k (.full S.length) (S++[.cells h Zb C]))
  |none=>Y)
 | .load x=>P6 S 1 Zb (ev e x) k
 | .loadN n x=>P6 S n Za (ev e x) k
 | .store n a x=>gd (aB (rK (ev e x)).length n&&tv (rK (ev e x))) (VY S (ev e a) (rK (ev e x)) λS'=>k .undef S')
 | .nilCheck x=>(match ev e x with
  | .fn f a c=>gd (!Cg f) (k (.fn f a c) S)
  |v=>gd (Nz S v) (k v S))
 | .bin op x y=>aL0 op (ev e x) (ev e y) λv=>k v S
 | .eqv A H x y=>(match aM0 S A (ev e x) (ev e y)with
  |some b=>k (.bool (ai0 H b)) S
  |none=>Y)
 | .eqCells H W x y=>(match ev e x,ev e y with
  | .agg a, .agg b=>(match O6 W a b with
   |some p=>k (.bool (ai0 H p)) S
   |none=>Y)
  |_,_=>Y)
 | .un op x=>unK op (ev e x) λv=>k v S
 | .conv A x=>(match Jo (ev e x)with
  |some n=>k (.int A (A.wrap n)) S
  |none=>Y)
 | .mkFunc f a c=>gd (!Cg f) (k (.fn f (a.map (ev e)) (c.map (ev e))) S)
 | .makeSlice h u z l c=>ah3 S h u z (ev e l) (ev e c) k
 | .slice h x J E=>VU S h (ev e x) (J.map (ev e)) (E.map (ev e)) k
 | .sliceStr x J E=>KU S (ev e x) (J.map (ev e)) (E.map (ev e)) k
 | .sliceArr h n x J E=>KT S h n (ev e x) (J.map (ev e)) (E.map (ev e)) k
 | .off n x=>Yz S (aO9 S n (ev e x)) k
 | .idx h x i=>aM9 S h (ev e x) (ev e i) k
 | .idxA F h x i=>af2 S F h (ev e x) (ev e i) k
 | .fieldV o n agg x=>(match ev e x with
  | .agg C=>cond agg (k (.agg (DE C o n)) S) (Yz S (nth C o) k)
  |_=>Y)
 | .indexV F h agg x i=>(match ev e x,ev e i with
  | .agg C, .int _ i=>(ix i F).bind λj=>cond agg (k (.agg (DE C (j*h) h)) S) (gd (aB h 1&&aB C.length F) (SB C j S k))
  |_,_=>Y)
 | .indexS x i=>(match ev e x,ev e i with
  | .str l, .int _ i=>(rd l i).bind λb=>k (.int .u8 b) S
  |_,_=>Y)
 | .extract x i=>(match ev e x with
  | .tup vs=>Yz S (nth vs i) k
  |_=>Y)
 | .call f M=>SK tab f (M.map (ev e)) S k
 | .callv x M=>(match ev e x with
  | .fn f a c=>gd (aO4 f) (SK tab f (a++M.map (ev e)++c) S k)
  |_=>Y)
 | .rangeF f n x=>(match ev e x with
  | .fn g [] c=>gd (!Cg g) (SK tab g (.fn (UE f) [] [.ptr S.length 0]::c) (S++[.cells 1 Zb (.nilf::(List.range n).map (mv e))]) λ_ S'=>match ad S' S.length with
   | .cells _ Zb (.nilf::_)=>k .undef (i9 S' S.length .dead)
   |_=>Y)
  |_=>Y)
 | .append h u s x=>MW S h u (ev e s) (ev e x) k
 | .stuck=>Y
 | .range x=>(match ev e x with
  | .str l=>k (.it S.length l) (S++[.cells 1 Zb [.int .i64 0]])
  |_=>Y)
 | .next x=>ai5 S (ev e x) k
 | .newB=>k (.bld S.length) (S++[.cells 1 Zb [.str []]])
 | .makeM A=>k (.fn (WW A) [] [.ptr S.length 0]) (S++[.cells 1 Zb [.str []]])
 | .lookM A ok x i=>(match ev e i with
  | .str D=>Tn S A (ev e x) λ_ _ _ l _=>k (cond ok (.tup [.int A ((H7 l D).getD 0), .bool (H7 l D).isSome]) (.int A ((H7 l D).getD 0))) S
  |_=>Y)
 | .updM A x i v=>(match ev e i,ev e v with
  | .str D, .int V n=>Tn S A (ev e x) λq h U l r=>gd (Zc (V=A)&& !U) (k .undef (i9 S q (.cells h Zb (.str (DN l D n)::r))))
  |_,_=>Y)
 | .lenM A x=>Tn S A (ev e x) λ_ _ _ l _=>k (.int .i64 (PS l)) S
 | .encR x=>(match Jo (ev e x)with
  |some n=>k (.str (Ov n)) S
  |none=>Y)
 | .strOf x=>VZ S (ev e x) k
 | .strOfR x=>ap3 S (ev e x) k
 | .runesOf x=>VP S (ev e x) k
 | .mark x=>ah6 S (ev e x) k
 | .capN x=>(match ev e x with
  | .nils=>k (.int .i64 0) S
  |_=>Y)
 | .sliceX x E X=>RM S (ev e x) (ev e E) (ev e X) k
 | .appendZ h u z s x=>MX S h u z (ev e s) (ev e x) k
 | .copy h d s=>ad3 S h (ev e d) (ev e s) k
 | .len x=>(match ev e x with
  | .str _=>Y
  |v=>(match lenOf S v with
   |some n=>k (.int .i64 n) S
   |none=>Y))
 | .lenS x=>(match ev e x with
  | .str l=>k (.int .i64 l.length) S
  |_=>Y)
 | .lenC n=>k (.int .i64 n) S
 | .most x y=>(match ev e x,ev e y with
  | .int A a, .int _ b=>k (.int A (max a b)) S
  |_,_=>Y)
 | .least x y=>(match ev e x,ev e y with
  | .int A a, .int _ b=>k (.int A (min a b)) S
  |_,_=>Y)
section
variable (tab:Tab)
def Gr {β:Type}:List AOper->cu->ah->(cu->ah->Option β)->Option β
 |[],e,S,k=>k e S
 |o::r,e,S,k=>match o.guard with
  |none=>Ks tab o.op e S λv S'=>Gr r (putO e o.dst v) S' k
  |some (t,w)=>match mv e t with
   | .bool p=>cond p
    (cond w (Ks tab o.op (ui e t (.bool Za)) S λv S'=>Gr r (putO (ui e t (.bool Za)) o.dst v) S' k) (Gr r (putO (ui e t (.bool Za)) o.dst (.tup [])) S k))
    (cond w (Gr r (putO (ui e t (.bool Zb)) o.dst (.tup [])) S k) (Ks tab o.op (ui e t (.bool Zb)) S λv S'=>Gr r (putO (ui e t (.bool Zb)) o.dst v) S' k))
   | .tup []=>Gr r (putO e o.dst (.tup [])) S k
   |_=>Y
def zx :VV->Option Nat
 | .ptr b _=>O b
 | .it b _=>O b
 | .bld b=>O b
 | .pix b _ _ _=>O b
 | .pel b _ _=>O b
 | .full b=>O b
 | .part b _ _=>O b
 |_=>Y
def ab5 (S:ah)(v:VV):Option (Option Nat):=match v with
 | .pin _ _ _| .lst _ _| .nils=>O Y
 |v=>(match zx v with
  |some b=>cond (ad S b).live (O (O b)) Y
  |none=>Y)
def XL (S:ah)(op:AOp)(e:cu):Option (Option Nat):=match op with
 | .load x| .loadN _ x| .sliceArr _ _ x _ _| .slice _ x _ _=>ab5 S (ev e x)
 |_=>Y
def TA :Option Nat->List Nat
 |some b=>[b]
 |none=>[]
def yo :List FSum->Nat->List VV->ah->List Nat
 |[],_,_,_=>[]
 |F::r,f,h,S=>cond (aB F.f f) (match rL (Gw F.vals h S) 0 [] F.ins h with
  |some p=>(match R9 F.ins.shs p.ls with
   |some _=>po F.objs p.m
   |none=>yo r f h S)
  |none=>yo r f h S) (yo r f h S)
def Q5 (f:Nat)(args:List VV)(S:ah):List Nat:=cond (ax6 tab.is f) (Kd S.length) (yo tab.fs f args S)
def Gq (op:AOp)(e:cu)(S:ah):List Nat:=match op with
 | .store _ a _=>TA (zx (ev e a))
 | .append _ _ s _=>TA (zx (ev e s))
 | .appendZ _ _ _ s _=>TA (zx (ev e s))
 | .copy _ d _=>TA (zx (ev e d))
 | .next x=>TA (zx (ev e x))
 | .updM _ x _ _=>TA (aI3 (ev e x))
 | .call f h=>Q5 tab f (h.map (ev e)) S
 | .callv x h=>(match ev e x with
  | .fn f a c=>Q5 tab f (a++h.map (ev e)++c) S
  |_=>[])
 | .rangeF _ _ _=>Kd S.length
 |_=>[]
abbrev HV :=List (Nat×Option (Option Nat)×(ah->Bool))
def L9 (d:List Nat):HV->HV
 |[]=>[]
 |(i,O (O b),f)::r=>(i,cond (qm b d) Y (O (O b)),f)::L9 d r
 |x::r=>x::L9 d r
def uj (is:List Nat):HV->Bool
 |[]=>Za
 |(i,b,_)::r=>cond (qm i is) (match b with
  |some _=>uj is r
  |none=>Zb) (uj is r)
def DQ (S:ah)(is:List Nat):HV->Bool
 |[]=>Za
 |(i,b,f)::r=>cond (qm i is) (match b with
  |some _=>DQ S is r
  |none=>cond (f S) (DQ S is r) Zb) (DQ S is r)
def aL9 :VV->VV->Bool
 | .int k n, .int h p=>Zc (k=h)&&Zc (n=p)
 | .bool a, .bool b=>Zc (a=b)
 | .str a, .str b=>Zc (a=b)
 | .nilp, .nilp=>Za
 | .nils, .nils=>Za
 |_,_=>Zb
def RA (tab:Tab)(op:AOp)(e:cu)(v:VV)(S:ah):Bool:=match Ks tab op e S λh _=>O (aL9 v h)with
 |some b=>b
 |none=>Zb
def Kr {β:Type}(it:SItem)(chk:HV)(e:cu)(S:ah)(k:HV->cu->ah->Option β):Option β:=
 cond it.mover (Ks tab it.o.op e S λv S'=>gd (DQ S' it.chks (L9 (Gq tab it.o.op e S) chk)) (k (L9 (Gq tab it.o.op e S) chk) (putO e it.o.dst v) S'))
  (gd (it.o.op.still&&(!it.keep||it.o.op.isLoad)) (Ks tab it.o.op e S λv S'=>k (cond it.keep ((it.idx,XL S it.o.op e,RA tab it.o.op e v)::chk) chk) (putO e it.o.dst v) S'))
def xx {β:Type}:List SItem->HV->cu->ah->(cu->ah->Option β)->Option β
 |[],_,e,S,k=>k e S
 |it::r,chk,e,S,k=>match it.o.guard with
  |none=>Kr tab it chk e S λh s S'=>xx r h s S' k
  |some (t,w)=>match mv e t with
   | .bool p=>cond p
    (cond w (Kr tab it chk (ui e t (.bool Za)) S λh s S'=>xx r h s S' k) (xx r chk (putO (ui e t (.bool Za)) it.o.dst (.tup [])) S k))
    (cond w (xx r chk (putO (ui e t (.bool Zb)) it.o.dst (.tup [])) S k) (Kr tab it chk (ui e t (.bool Zb)) S λh s S'=>xx r h s S' k))
   | .tup []=>xx r chk (putO e it.o.dst (.tup [])) S k
   |_=>Y
end
structure LItem where
 i:Nat
 kind:Nat
 chks:List Nat
 need:List Nat
def ba (ops:List (AOper×List Nat))(i:Nat):AOper:=match ops[i]? with
 |some (o,_)=>o
 |none=>⟨Y, .lenC 0,Y⟩
def Xj :VV->Bool
 | .int _ _| .bool _| .str _=>Za
 |_=>Zb
def Xi :Value->Bool
 | .int _ _| .bool _| .string _=>Za
 |_=>Zb
def BU {β:Type}(op:AOp)(e:cu)(k:Blk->Bool->Option β):Option β:=match op with
 | .alloc p z=>gd (aD 1 p) (k (Gl p z) Zb)
 | .makeSlice p h z l c=>(match ev e l,ev e c,Lz z with
  | .int _ l, .int _ c,O s=>gd (aB p s.w&&Zc (0<=l)&&Zc (l<=c)&&Zc (h*c<=140737488355328)&&aD 1 h) (k (.arr s Zb (bB l.toNat (xH s))) Za)
  |_,_,_=>Y)
 | .buildSlice p A z C=>(match Ln ((bB A (z.map LZ)).flatten) (Dg e C)with
  |some u=>gd (tv u&&aB (A*p) u.length&&aD 1 p&&u.all Xj&&z.all Xi) (k (.cells p Zb u) Za)
  |none=>Y)
 |_=>Y
def vvF (w:Bool)(k:Nat):VV:=cond w (.full k) (.ptr k 0)
def uO (e:cu):List Nat->cu
 |[]=>e
 |t::h=>ui (uO e h) t .undef
def xB (ops:List (AOper×List Nat)):List Nat->List Nat
 |[]=>[]
 |i::r=>(match(ba ops i).dst with
  |some d=>[d]
  |none=>[])++xB ops r
def aH5 (n:Nat):Option (Option Nat)->Bool
 |some (O q)=>aB q n
 |_=>Zb
section
variable (tab:Tab)
def evG {β:Type}(ops:List (AOper×List Nat))(n:Nat):List Nat->cu->ah->Option β->Option β
 |[],_,_,z=>z
 |i::g,e,S,z=>gd ((ba ops i).op.still&&(!(ba ops i).op.isLoad||aH5 n (XL S (ba ops i).op e))) (Ks tab (ba ops i).op e S λv S'=>evG ops n g (putO e (ba ops i).dst v) S' z)
def Fr {β:Type}(ops:List (AOper×List Nat)):List LItem->HV->cu->ah->(cu->ah->Option β)->Option β
 |[],_,e,S,k=>k e S
 |it::r,chk,e,S,k=>
  cond (aB it.kind 3) (BU (ba ops it.i).op e λ_ _=>Fr ops r chk e S k)<|
  cond (aB it.kind 2) (BU (ba ops it.i).op e λh w=>Fr ops r chk (putO e (ba ops it.i).dst (vvF w S.length)) (S++[h]) k)
  (cond (aB it.kind 1)
   (Ks tab (ba ops it.i).op e S λv S'=>gd (uj it.chks (L9 (Gq tab (ba ops it.i).op e S) chk)&&uj it.need (L9 (Gq tab (ba ops it.i).op e S) chk)) (Fr ops r (L9 (Gq tab (ba ops it.i).op e S) chk) (putO e (ba ops it.i).dst v) S' k))
   (cond (aB it.kind 5) (BU (ba ops it.i).op (uO e (xB ops it.chks)) λh w=>evG tab ops S.length it.chks (putO (uO e (xB ops it.chks)) (ba ops it.i).dst (vvF w S.length)) (S++[h]) (Fr ops r chk (uO e (xB ops it.chks)) S k))<|
   gd (ba ops it.i).op.still (Ks tab (ba ops it.i).op e S λv S'=>gd (uj it.need (cond (ba ops it.i).op.isLoad ((it.i,XL S (ba ops it.i).op e,λ_=>Zb)::chk) chk)) (Fr ops r (cond (ba ops it.i).op.isLoad ((it.i,XL S (ba ops it.i).op e,λ_=>Zb)::chk) chk) (putO e (ba ops it.i).dst v) S' k))))
end
def TC :Operand->List Nat
 | .tmp t=>[t]
 |_=>[]
def xG :AOp->List Nat
 | .makeSlice _ _ _ l c=>TC l++TC c
 | .buildSlice _ _ _ h=>h.flatMap λp=>TC p.2.2
 |_=>[]
def Ny :AOp->Bool
 | .alloc h _=>aD 1 h
 |_=>Zb
def ue :AOp->Bool
 | .alloc _ _| .makeSlice _ _ _ _ _=>Za
 | .buildSlice _ _ z _=>z.all Xi
 |_=>Zb
def vY (d:Option Nat)(l:List Nat):Bool:=match d with
 |some t=> !qm t l
 |none=>Za
def W3 (d h:Option Nat):Bool:=match d,h with
 |some t,O p=> !Nat.beq t p
 |_,_=>Za
def DC (i:Nat):List Nat->List Nat
 |[]=>[]
 |a::r=>cond (aB a i) r (a::DC i r)
def E7 :List LItem->List Nat->Nat->Option (List Nat×LItem×List LItem)
 |[],_,_=>Y
 |it::r,P,i=>cond (aB it.kind 3) (E7 r P i)<|cond (aB it.kind 2) (cond (qm it.i P) (E7 r (DC it.i P) i) Y) (cond (aB it.i i) (O (P,it,r)) Y)
def Vf :List LItem->List Nat->Bool
 |[],P=>P.isEmpty
 |it::r,P=>cond (aB it.kind 3) (Vf r P) (aB it.kind 2&&qm it.i P&&Vf r (DC it.i P))
def aN2 :AOp->Bool
 | .move _=>Za
 |_=>Zb
def Nv (ops:List (AOper×List Nat)):List LItem->Nat->Bool
 |[],_=>Zb
 |it::r,m=>cond (aB it.kind 3) (aB it.i m||Nv ops r m)<|(aB it.kind 2&&(aB it.i m||(vY (ba ops it.i).dst (xG (ba ops m).op)&&Nv ops r m)))||(aB it.kind 0&&aN2 (ba ops it.i).op&&vY (ba ops it.i).dst (xG (ba ops m).op)&&Nv ops r m)
def xE (ops:List (AOper×List Nat))(h:Nat)(s:Bool)(P:List Nat)(r:List LItem):Bool:=
 P.all (λq=>W3 (ba ops h).dst (ba ops q).dst&&vY (ba ops h).dst (xG (ba ops q).op))&&
 r.all λp=> !Nat.beq p.kind 2||(s&&aB p.i h)||W3 (ba ops h).dst (ba ops p.i).dst
def aI0 :List LItem->Bool
 |it::_=>aB it.kind 5
 |[]=>Zb
def aw0 :Option Nat->Nat->Bool
 |some a,b=>aB a b
 |none,_=>Zb
def XX (ops:List (AOper×List Nat)):List Nat->Nat->List Nat->Option (Nat×List Nat)
 |[],f,D=>O (f,D)
 |i::g,f+1,D=>cond (aw0 (dy ops D) i&&(ba ops i).guard.isNone) (XX ops g f (i::D)) Y
 |_::_,0,_=>Y
def XY (ops:List (AOper×List Nat)):List LItem->Nat->List Nat->Bool
 |[],0,_=>Za
 |[],_+1,D=>(dy ops D).isNone&&(bp ops D).isEmpty
 |it::r,f+1,D=>aB it.kind 0&&aw0 (dy ops D) it.i&&(ba ops it.i).guard.isNone&&XY ops r f (it.i::D)
 |_::_,0,_=>Zb
def Te :List Nat->List LItem->Option (List LItem)
 |[],r=>O r
 |i::g,h::r=>cond (aB h.kind 0&&aB h.i i) (Te g r) Y
 |_::_,[]=>Y
def okG (ops:List (AOper×List Nat))(m c:Nat):List Nat->List Nat->Bool
 |_,[]=>Za
 |pre,i::g=>(ba ops i).dst.isSome&&vY (ba ops i).dst (xG (ba ops m).op)&&W3 (ba ops i).dst (ba ops m).dst&&vY (ba ops c).dst (ba ops i).op.reads&&W3 (ba ops c).dst (ba ops i).dst&&(i::pre).all (λj=>vY (ba ops i).dst (ba ops j).op.reads)&&pre.all (λj=>W3 (ba ops i).dst (ba ops j).dst)&&okG ops m c (i::pre) g
def ad0 (ops:List (AOper×List Nat))(f:Nat)(D P ls u:List Nat):List LItem->Bool
 |it::h::p::r=>P.isEmpty&&aB h.kind 1&&aB p.kind 2&&aB p.i it.i&&ue (ba ops it.i).op&& !ue (ba ops h.i).op&&(ba ops it.i).guard.isNone&&(ba ops h.i).guard.isNone&&vY (ba ops it.i).dst (xG (ba ops it.i).op)&&
  !(bp ops D).isEmpty&&(bp ops D).all (λx=>aB x it.i||aB x h.i)&&ls.all (λi=>xr ops i it.i||qm i u)&&ls.all (λi=>xr ops i h.i||qm i h.chks)&&xE ops h.i Zb [it.i] (p::r)&&okG ops it.i h.i [] it.chks&&
  (match XX ops it.chks f (it.i::D),Te it.chks r with
  |some (s+1,D1),O A=>(dy ops D1).isNone&&(match bp ops D1 with
   |[x]=>aB x h.i
   |_=>Zb)&&XY ops A s (h.i::D1)
  |_,_=>Zb)
 |_=>Zb
def aX5 (ops:List (AOper×List Nat))(p:List Nat->List Nat->List LItem->Bool)(D:List Nat):List LItem->Bool
 |_::h::r=>p (h.i::D) h.need r
 |_=>Zb
def O2 (ops:List (AOper×List Nat)):Nat->List Nat->List Nat->List Nat->List Nat->List LItem->Bool
 |0,_,P,_,_,r=>Vf r P
 |f+1,D,P,p,u,r=>match dy ops D with
  |some i=>(ba ops i).guard.isNone&&(match E7 r P i with
   |some (P',h,s)=>aB h.kind 0&&xE ops i Zb P' s&&O2 ops f (i::D) P' (cond (ba ops i).op.isLoad (i::p) p) h.need s
   |none=>Zb)
  |none=>cond (aI0 r) (ad0 ops f D P p u r&&aX5 ops (λD' A s=>O2 ops f D' [] p A s) D r)<|match bp ops D with
   |[]=>Vf r P
   |ms=>ms.all λm=>(ba ops m).guard.isNone&&cond (ue (ba ops m).op)
    (!qm m P&&r.any (λh=>aB h.kind 2&&aB h.i m)&&(Ny (ba ops m).op||Nv ops r m)&&xE ops m Za P r&&vY (ba ops m).dst (xG (ba ops m).op)&&p.all (λi=>xr ops i m||qm i u)&&O2 ops f (m::D) (m::P) p u r)
    (match E7 r P m with
    |some (P',h,s)=>aB h.kind 1&&xE ops m Zb P' s&&p.all (λi=>xr ops i m||qm i h.chks)&&O2 ops f (m::D) P' p h.need s
    |none=>Zb)
def aa8 (i:Nat):List Nat->List Nat
 |[]=>[]
 |a::r=>cond (aB a i) r (aa8 i r)
def CA (ops:List (AOper×List Nat))(h:List Nat):List Nat->List Nat->List LItem
 |[],_=>[]
 |i::r,p=>
  cond (aD 2000 i) (⟨i % 1000,5,(aa8 (i % 1000) r).take (i / 10000),[]⟩::CA ops h r p)<|
  cond (aD 1000 i) (⟨i-1000,3,[],[]⟩::CA ops h r p)<|
  let o:=(ba ops i).op
  let s:=cond o.isLoad (i::p) p
  let u:=r.filter λm=>ue (ba ops m).op
  ⟨i,cond (ue o) 2 (cond o.still 0 1),p.filter λj=> !xr ops j i,s.filter λj=>u.any λm=> !xr ops j m⟩::CA ops h r s
def H6 (ops:List (AOper×List Nat)):List LItem->Bool
 |[]=>Za
 |it::r=>r.all (λj=> !Nat.beq it.kind 2|| !Nat.beq j.kind 2||W3 (ba ops it.i).dst (ba ops j.i).dst)&&H6 ops r
def Hm (ops:List (AOper×List Nat)):List LItem->List Nat
 |[]=>[]
 |it::r=>cond (aB it.kind 2) ((match(ba ops it.i).dst with
  |some d=>[d]
  |none=>[])++Hm ops r) (Hm ops r)
inductive AT where
 |no
 |n (l r:AT)
 |lp (fx:List Nat) (head:Alt) (exits:List Alt) (b:AT)
 |jn (fx mov:List Nat) (exits:List Alt) (l r:AT)
 |sz (n:Nat) (l r:AT)
 |dr (L:List Nat)
 |all
def AT.sub :AT->AT
 | .all=> .all
 |_=> .no
def Wq (ops:List (AOper×List Nat)):Nat->List Nat->List Nat
 |0,_=>[]
 |f+1,D=>match dy ops D with
  |some i=>i::Wq ops f (i::D)
  |none=>match(bp ops D).filter (λm=> !ue (ba ops m).op),bp ops D with
   |m::_,h=>(h.filter λx=>ue (ba ops x).op&& !Ny (ba ops x).op).map (1000+ ·)++m::Wq ops f (m::D)
   |[],m::_=>m::Wq ops f (m::D)
   |[],[]=>[]
def drL (ops:List (AOper×List Nat)):AT->Option (List Nat)
 | .dr L=>O L
 | .all=>O (Wq ops ops.length [])
 |_=>Y
def aA3 :List VV->Nat
 |[]=>0
 | .nilp::r=>aA3 r+1
 | .fn f _ _::r=>aA3 r+10*f
 |_::r=>aA3 r
def aN7 :Nat->ah->Nat
 |_,[]=>0
 |k, .cells _ _ l::r=>k*aA3 l+aN7 (k+1) r
 |k,_::r=>aN7 (k+1) r
def af8 (S:ah):Nat:=S.length+1000*aN7 1 S
def AT.at (n:Nat):AT->AT
 | .sz m l r=>cond (aB m n) l (r.at n)
 |t=>t
def TM (e:cu):List Nat->List VV->cu
 |t::h,v::p=>ui (TM e h p) t v
 |_,_=>e
def Q6 :Option Nat->List Nat
 |some d=>[d]
 |none=>[]
def qk :AC->List Nat
 | .region ops=>ops.flatMap λo=>Q6 o.dst
 | .draw ops=>ops.flatMap λo=>Q6 o.1.dst
 | .sched h=>h.flatMap λi=>Q6 i.o.dst
 | .seq a b| .cond _ a b=>qk a++qk b
 | .block _ b| .loop b=>qk b
 |_=>[]
def XK.is :XK->AExit->Bool
 | .normal, .normal=>Za
 | .exit i, .exit j=>aB i j
 | .ret, .ret=>Za
 |_,_=>Zb
def XK.out :XK->AExit
 | .normal=> .normal
 | .exit i=> .exit i
 | .ret=> .ret
def ov (fx mov:List Nat)(fz:Bool):Nat->ah->ah
 |_,[]=>[]
 |i,b::r=>cond (qm i mov) (cond b.frozen b .dead) (cond (qm i fx) b (cond fz b.freeze b))::ov fx mov fz (i+1) r
def GD :AC->Bool
 | .seq a b| .cond _ a b=>GD a&&GD b
 | .block _ b| .loop b=>GD b
 |_=>Za
def aw {α γ:Type}(f:α->Option (α⊕γ))(n:Nat):α->Option γ:=
 Nat.rec (λ_=>Y) (λ_ h a=>(f a).bind λs=>bz s h O) n
def gv :Nat:=18446744073709551616
def GR (e0:cu)(S:ah)(fx mov p:List Nat)(fz:Bool)(ts:List Nat)(s:yk)(t:FN s.shs):Option (cu×ah):=
 match ud id s (Uu s.shs t)with
 |some (h,A,u)=>(match zS fx A (ov fx mov (fz||Fm h A u) 0 S)with
  |some S'=>O (TM (uO e0 p) ts h,S'++u)
  |none=>Y)
 |none=>Y
def ax4 {β:Type}(e0:cu)(S:ah)(fx mov p:List Nat)(h:List Alt)(s:yn h)(k:AExit->cu->ah->Option β):Option β:=
 ab2 h s λa t=>match GR e0 S fx mov p Zb a.ts a.sk t with
  |some (e,S')=>k a.x.out e S'
  |none=>Y
def NH (F:AT->(β:Type)->cu->ah->(AExit->cu->ah->Option β)->Option β):AT->(β:Type)->cu->ah->(AExit->cu->ah->Option β)->Option β
 | .n l r,β,e,S,k=>F l β e S λx h S'=>match x with
  | .normal=>NH F r β h S' k
  |x=>k x h S'
 | .sz m l r,β,e,S,k=>cond (aB m S.length) (NH F l β e S k) (NH F r β e S k)
 |_,_,_,_,_=>Y
def ah0 (F:(β:Type)->cu->ah->(AExit->cu->ah->Option β)->Option β)(n:Nat):(β:Type)->cu->ah->(AExit->cu->ah->Option β)->Option β:=
 Nat.rec (λ_ _ _ _=>Y) (λ_ p β e S k=>F β e S λx h S'=>match x with
  | .normal=>p β h S' k
  |x=>k x h S') n
def AT.rounds :AT->Nat
 | .n _ r=>r.rounds+1
 | .sz _ l r=>l.rounds+r.rounds
 |_=>0
def eval (tab:Tab):AC->AT->(β:Type)->cu->ah->(AExit->cu->ah->Option β)->Option β
 | .skip,_,_,e,S,k=>k .normal e S
 | .exit i,_,_,e,S,k=>k (.exit i) e S
 | .ret,_,_,e,S,k=>k .ret e S
 | .region ops,_,_,e,S,k=>Gr tab ops e S λA S'=>k .normal A S'
 | .sched F,_,_,e,S,k=>xx tab F [] e S λA S'=>k .normal A S'
 | .draw ops,C,_,e,S,k=>(match drL ops (C.at (af8 S))with
  |some L=>gd (O2 ops ops.length [] [] [] [] (CA ops L L [])&&H6 ops (CA ops L L [])) (Fr tab ops (CA ops L L []) [] (uO e (Hm ops (CA ops L L []))) S λA S'=>k .normal A S')
  |none=>Y)
 | .seq a b,C,β,e,S,k=>
  (match C.at (af8 S)with
  | .jn D E h l r=>gd (L0 S D&&GD a) ((eval tab a l (yn h) e (ov (D++E) [] Za 0 S) λx A S'=>Al S' S.length D (λts=>ts.map (mv A)) (λy=>y.is x) h).bind λs=>
    ax4 e S D E (qk a) h s λx A S'=>match x with
     | .normal=>eval tab b r β A S' k
     |x=>k x A S')
  | .n l r=>eval tab a l β e S λx A S'=>match x with
   | .normal=>eval tab b r β A S' k
   |x=>k x A S'
  |u=>eval tab a u.sub β e S λx A S'=>match x with
   | .normal=>eval tab b u.sub β A S' k
   |x=>k x A S')
 | .cond c a b,C,β,e,S,k=>
  (match ev e c with
  | .bool p=>(match c,C.at (af8 S)with
   | .tmp t, .n l r=>cond p (eval tab a l β (ui e t (.bool Za)) S k) (eval tab b r β (ui e t (.bool Zb)) S k)
   | .tmp t,u=>cond p (eval tab a u.sub β (ui e t (.bool Za)) S k) (eval tab b u.sub β (ui e t (.bool Zb)) S k)
   |_, .n l r=>cond p (eval tab a l β e S k) (eval tab b r β e S k)
   |_,u=>cond p (eval tab a u.sub β e S k) (eval tab b u.sub β e S k))
  |_=>Y)
 | .block id b,C,β,e,S,k=>
  eval tab b (match C.at (af8 S)with
   | .n l _=>l
   |u=>u.sub) β e S λx A S'=>match x with
   | .exit i=>cond (aB i id) (k .normal A S') (k (.exit i) A S')
   |x=>k x A S'
 | .loop b,C,_,e,S,k=>
  (match C.at (af8 S)with
  | .lp D head h l=>(λS=>gd (head.sk.fxRo&&L0 S D&&GD b) (match rL S S.length D head.sk (head.ts.map (mv e))with
   |some H=>(R9 head.sk.shs H.ls).bind λM=>
    (aw (λt=>match GR e S D (sY H.m) (qk b) Za head.ts head.sk t with
     |some (J,S1)=>eval tab b l (FN head.sk.shs⊕yn h) J S1 λx A S'=>(match x with
      | .normal=>(Wz S' S.length D head.sk (head.ts.map (mv A))).bind λt=>O (.inl t)
      |x=>(Al S' S.length D (λts=>ts.map (mv A)) (λy=>y.is x) h).bind λs=>O (.inr s))
     |none=>Y) gv M).bind λs=>ax4 e S D (sY H.m) (qk b) h s k
   |none=>Y)) (ax0 S.length head.sk.free head.sk.vals (head.ts.map (mv e)) S)
  | .all=>ah0 (eval tab b .all) 1000000 _ e S k
  |_=>NH (eval tab b) C _ e S k)
def aD4 (e:cu)(S:ah):ARes->Option VV
 | .tmp t=>O (mv e t)
 | .cell t=>(match mv e t with
  | .ptr b o=>(match ad S b with
   | .cells _ _ l=>nth l o
   |_=>Y)
  |_=>Y)
 | .cellN t n=>(match mv e t with
  | .ptr b o=>(match ad S b with
   | .cells _ _ l=>cond (aD (o+n) l.length) (O (.agg ((l.drop o).take n))) Y
   |_=>Y)
  |_=>Y)
def JL (e:cu)(S:ah):List ARes->Option (List VV)
 |[]=>O []
 |r::rs=>(aD4 e S r).bind λv=>(JL e S rs).bind λh=>O (v::h)
def Ux :List VV->VV
 |[v]=>v
 |vs=> .tup vs
def bq (P:Program)(f:FuncId)(tab:Tab)(at':AT):(β:Type)->List VV->ah->(VV->ah->Option β)->Option β:=λβ h S k=>
 match Y5 P f with
 |some a=>gd (aD h.length a.ntmps) (eval tab a.body at' β h S λx e S'=>match x with
  | .exit _=>Y
  |_=>(match JL e S' a.results with
   |some rs=>k (Ux rs) S'
   |none=>Y))
 |none=>Y
def Kt (P:Program)(f:FuncId)(tab:Tab)(vals:List Sk)(h:List OSk)(p:List Alt)(at':AT)(t:FN (yk.shs ⟨vals,[],h⟩)):Option (yn p):=
 match Y5 P f,ud id ⟨vals,[],h⟩ (Uu _ t)with
 |some a,O (s,_,S)=>gd (aD s.length a.ntmps) (eval tab a.body at' (yn p) s S λx e S'=>match x with
  | .exit _=>Y
  |_=>(match JL e S' a.results with
   |some rs=>Al S' S.length (xz h 0) (λ_=>[Ux rs]) (λ_=>Za) p
   |none=>Y))
 |_,_=>Y
end
section
open Nat renaming lt_of_lt_of_le -> aB
structure Ctx where
 μ:Nat->Option Nat
 S:ah
 Z:Hp
 fb:Nat->Prop
def Blk.dim :Blk->Option (Nat×Nat)
 | .dead=>Y
 | .cells h _ l=>O (h,l.length)
 | .arr s _ l=>O (s.w,l.length*s.w)
def Blk.vals :Blk->List VV
 | .dead=>[]
 | .cells _ _ l=>l
 | .arr s _ l=>gm s l
def Ctx.own (c:Ctx)(b:Nat):Prop:= ∃k,(ad c.S k).frozen=Zb/\c.μ k=O b
def Ctx.mut (c:Ctx)(b:Nat):Prop:=c.own b∨c.fb b
def IN (c:Ctx)(k h n:Nat)(d:Nat×Nat)(a:Value):Prop:=
 (a= .slice Y 0 0/\h=0/\n=0/\c.μ k=Y/\d.2=0)∨
 ∃b p y,a= .slice (O ⟨b,h*d.1,Y⟩) n p/\c.μ k=O b/\(h+n)*d.1<=d.2/\n<=p/\c.Z.m b=O y/\(h+p)*d.1<=y.cells.length
inductive VRel (c:Ctx):VV->Value->Prop where
 |undef (a:Value):VRel c .undef a
 |bool (b:Bool):VRel c (.bool b) (.bool b)
 |int (k:IntKind) (n:Int):VRel c (.int k n) (.int k n)
 |str {l:Zd} {s:ByteArray}:au s=l->VRel c (.str l) (.string s)
 |nilp:VRel c .nilp (.pointer Y)
 |nils:VRel c .nils (.slice Y 0 0)
 |nilf:VRel c .nilf .nilFunc
 |ptr {k o:Nat} {a:Value}:k<c.S.length->one a=Za->(∀d,(ad c.S k).dim=O d->∃b,c.μ k=O b/\a= .pointer (O ⟨b,o,Y⟩))->VRel c (.ptr k o) a
 |it {k:Nat} {l:Zd} {s:ByteArray} {a:Value}:k<c.S.length->one a=Za->au s=l->(∀d,(ad c.S k).dim=O d->∃b,c.μ k=O b/\a= .iface b (.string s))->VRel c (.it k l) a
 |bld {k:Nat} {a:Value}:k<c.S.length->one a=Za->(∀d,(ad c.S k).dim=O d->∃b,c.μ k=O b/\a= .iface b .nilFunc)->VRel c (.bld k) a
 |pix {k o n i:Nat} {a:Value}:k<c.S.length->one a=Za->i<n->(∀d,(ad c.S k).dim=O d->∃b,c.μ k=O b/\a= .pointer (O ⟨b,o+i,Y⟩))->VRel c (.pix k o n i) a
 |pel {k i o:Nat} {a:Value}:k<c.S.length->one a=Za->(∀d,(ad c.S k).dim=O d->∃b,c.μ k=O b/\a= .pointer (O ⟨b,i*d.1+o,Y⟩))->VRel c (.pel k i o) a
 |pin {s:Sh} {x:El s} {o b p:Nat} {y:Ab.Blk}: ¬c.mut b->c.Z.m b=O y->p+s.w<=y.cells.length->F2 (VRel c) (dx s x) ((y.cells.drop p).take s.w)->VRel c (.pin s x o) (.pointer (O ⟨b,p+o,Y⟩))
 |lstn {s:Sh} {q:Option Addr}:(∀z,q=O z->z.spot=Y)->VRel c (.lst s []) (.slice q 0 0)
 |lst {s:Sh} {l:List (El s)} {b p n cp:Nat} {y:Ab.Blk}: ¬c.mut b->c.Z.m b=O y->y.es=s.w->n=l.length->n<=cp->p+n*s.w<=y.cells.length->
   F2 (VRel c) (gm s l) ((y.cells.drop p).take (n*s.w))->VRel c (.lst s l) (.slice (O ⟨b,p,Y⟩) n cp)
 |tgtn {s:Sh} {a:Value}:(a= .slice Y 0 0∨∃b o,a= .slice (O ⟨b,o,O 0⟩) 0 0)->VRel c (.tgt s []) a
 |tgt {s:Sh} {l:List (El s)} {b p:Nat} {y:Ab.Blk}: ¬c.mut b->c.Z.m b=O y->y.es=s.w->p+l.length*s.w<=y.cells.length->
   F2 (VRel c) (gm s l) ((y.cells.drop p).take (l.length*s.w))->VRel c (.tgt s l) (.slice (O ⟨b,p,O 0⟩) l.length l.length)
 |full {k:Nat} {a:Value}:k<c.S.length->one a=Za->(∀d,(ad c.S k).dim=O d->∃n,n*d.1=d.2/\IN c k 0 n d a)->VRel c (.full k) a
 |part {k lo n:Nat} {a:Value}:k<c.S.length->one a=Za->(∀d,(ad c.S k).dim=O d->IN c k lo n d a)->VRel c (.part k lo n) a
 |fn {f:Nat} {a b:List VV} {a' b':Array Value}:F2 (VRel c) a a'.toList->F2 (VRel c) b b'.toList->VRel c (.fn f a b) (.func (.func f) a' b')
 |agg {l:List VV} {l':Array Value}:F2 (VRel c) l l'.toList->VRel c (.agg l) (.agg l')
 |tup {l:List VV} {l':Array Value}:F2 (VRel c) l l'.toList->VRel c (.tup l) (.tuple l')
def MA (c:Ctx)(k:Nat):Prop:= ∀d,(ad c.S k).dim=O d->1<=d.1/\
 ((d.2=0/\c.μ k=Y)∨∃b y p h,c.μ k=O b/\c.Z.m b=O y/\y.es=d.1/\((ad c.S k).frozen=Zb->y.own=Za)/\y.cells=p++h/\F2 (VRel c) (ad c.S k).vals p)
structure Rel (c:Ctx):Prop where
 ok:c.Z.Ok
 inj: ∀k k' b,(ad c.S k).frozen=Zb->(ad c.S k').dim≠Y->c.μ k=O b->c.μ k'=O b->k=k'
 blk: ∀k,MA c k
 fbk: ∀k b,(ad c.S k).dim≠Y->c.μ k=O b->¬c.fb b
 fbl: ∀b,c.fb b->b<c.Z.n
structure Le (c c':Ctx):Prop where
 len:c.S.length<=c'.S.length
 al: ∀k d,k<c.S.length->(ad c'.S k).dim=O d->(ad c.S k).dim=O d/\c'.μ k=c.μ k
 fz: ∀k,(ad c.S k).frozen=Za->(ad c.S k).dim≠Y->ad c'.S k=ad c.S k
 ln: ∀k d b y,k<c.S.length->(ad c'.S k).dim=O d->c.μ k=O b->c.Z.m b=O y->∃y',c'.Z.m b=O y'/\y'.cells.length=y.cells.length
 un: ∀b y,c.Z.m b=O y->¬c.own b->c'.Z.m b=O y
 ow: ∀b y,c.Z.m b=O y->¬c.own b->¬c'.own b
 n:c.Z.n<=c'.Z.n
 fb:c'.fb=c.fb
theorem Le.rd {c p:Ctx}(h:Le c p)(b:Nat)(y:Ab.Blk)(A:c.Z.m b=O y)(u: ¬c.mut b):p.Z.m b=O y/\¬p.mut b:=by
 have s: ¬c.own b:=λe=>u (.inl e)
 refine⟨h.un b y A s,λe=> ?_⟩;rcases e with e|e
 .exact h.ow b y A s e
 .rw[h.fb]at e;exact u (.inr e)
def yV (d:List Nat)(c h:Ctx):Prop:= ∀k,k<c.S.length->k∉d->(ad c.S k).dim≠Y->(ad h.S k).dim≠Y/\∀b,c.μ k=O b->h.Z.m b=c.Z.m b
theorem py (h:(ad S k).dim≠Y):k<S.length:=by
 induction S generalizing k with
 |nil=>exact(h rfl).elim
 |cons b r p=>
  cases k with
  |zero=>exact Nat.zero_lt_succ _
  |succ k=>exact Nat.succ_lt_succ (p h)
theorem zQ (h:S.length<=k):ad S k= .dead:=by
 induction S generalizing k with
 |nil=>rfl
 |cons b r p=>
  cases k with
  |zero=>simp at h
  |succ k=>exact p (by simpa using h)
theorem B0 :(i9 S k b).length=S.length:=by
 induction S generalizing k with
 |nil=>rfl
 |cons a r h=>cases k<;>simp[i9,h]
theorem yB {i:Nat}:ad (i9 S k b) i=if i=k/\k<S.length then b else ad S i:=by
 induction S generalizing k i with
 |nil=>simp[i9]
 |cons a r h=>
  cases k with
  |zero=>cases i<;>simp[i9,ad]
  |succ k=>
   cases i with
   |zero=>simp[i9,ad]
   |succ i=>simp[i9,ad,h]
theorem Xl (h:k<S.length):ad (i9 S k b) k=b:=by rw[yB,zE ⟨rfl,h⟩]
theorem aE3 {i:Nat}(h:i≠k):ad (i9 S k b) i=ad S i:=by rw[yB,zF (λe=>h e.1)]
theorem rP {l:List Blk}(h:k<S.length):ad (S++l) k=ad S k:=by
 induction S generalizing k with
 |nil=>simp at h
 |cons a r p=>
  cases k with
  |zero=>rfl
  |succ k=>exact p (by simpa using h)
theorem wc {S:ah}{l:List Blk}{k:Nat}:ad (S++l) (S.length+k)=ad l k:=by
 induction S with
 |nil=>simp
 |cons a r h=>
  have:(a::r).length+k=(r.length+k)+1:=by simp;omega
  rw[this];exact h
theorem Ul :ad (S++[b]) S.length=b:=by
 exact @wc S [b] 0
theorem rk (h:b.frozen=Zb):b.dim≠Y:=by cases b<;>simp[Blk.frozen,Blk.dim]at*
theorem gy :b.freeze.dim=b.dim:=by cases b<;>rfl
theorem LD :b.freeze.vals=b.vals:=by cases b<;>rfl
theorem pY :b.freeze.frozen=Za:=by cases b<;>rfl
theorem DI (h:b.frozen=Za):b.freeze=b:=by cases b<;>simp[Blk.frozen,Blk.freeze]at* <;>simp[h]
theorem Le.refl (c:Ctx):Le c c:=⟨Nat.le_refl _,λ_ _ _ h=>⟨h,rfl⟩,λ_ _ _=>rfl,λ_ _ _ y _ _ _ p=>⟨y,p,rfl⟩,λ_ _ h _=>h,λ_ _ _ h=>h,Nat.le_refl _,rfl⟩
theorem Le.trans {a b c:Ctx}(h:Le a b)(k:Le b c):Le a c:=by
 refine⟨Nat.le_trans h.len k.len,λi d u s=> ?_,λi H s=> ?_,λi d x y u s J A=> ?_,λx y A C=>k.un x y (h.un x y A C) (h.ow x y A C),λx y A C=>k.ow x y (h.un x y A C) (h.ow x y A C),Nat.le_trans h.n k.n,k.fb.trans h.fb⟩
 .obtain⟨p,F⟩:=k.al i d (aB u h.len) s;obtain⟨D,E⟩:=h.al i d u p;exact⟨D,F.trans E⟩
 .have p:=h.fz i H s;rw[k.fz i (by rw[p];exact H) (by rw[p];exact s),p]
 .obtain⟨p,F⟩:=k.al i d (aB u h.len) s;obtain⟨V,D,E⟩:=h.ln i d x y u p J A;obtain⟨_,M⟩:=h.al i d u p;obtain⟨W,L,U⟩:=k.ln i d x V (aB u h.len) s (M.trans J) D;exact⟨W,L,U.trans E⟩
theorem yV.refl (d:List Nat)(c:Ctx):yV d c c:=λ_ _ _ h=>⟨h,λ_ _=>rfl⟩
theorem IN.frame {c s:Ctx}(h:Le c s){E n:Nat}{d:Nat×Nat}{a:Value}(D:k<c.S.length)(C:(ad s.S k).dim=O d)(U:IN c k E n d a):IN s k E n d a:=by
 obtain⟨h1,A⟩:=h.al k d D C;rcases U with⟨rfl,rfl,rfl,p,W⟩|⟨b,F,y,rfl,p,H,J,V,L⟩
 .exact .inl ⟨rfl,rfl,rfl,A.trans p,W⟩
 .obtain⟨X,u,M⟩:=h.ln k d b y D C p V;exact .inr ⟨b,F,X,rfl,A.trans p,H,J,u,by rw[M];exact L⟩
theorem VRel.frame {c L:Ctx}(h:Le c L): ∀{v:VV} {a:Value},VRel c v a->VRel L v a
 |_,_, .undef a=> .undef a
 |_,_, .bool b=> .bool b
 |_,_, .int k n=> .int k n
 |_,_, .str V=> .str V
 |_,_, .nilp=> .nilp
 |_,_, .nils=> .nils
 |_,_, .nilf=> .nilf
 |_,_, .ptr u p D=> .ptr (aB u h.len) p λd s=>by
  obtain⟨p,A⟩:=h.al _ d u s;obtain⟨b,C,E⟩:=D d p;exact⟨b,A.trans C,E⟩
 |_,_, .it u p V D=> .it (aB u h.len) p V λd s=>by
  obtain⟨p,A⟩:=h.al _ d u s;obtain⟨b,C,E⟩:=D d p;exact⟨b,A.trans C,E⟩
 |_,_, .bld u p D=> .bld (aB u h.len) p λd s=>by
  obtain⟨p,A⟩:=h.al _ d u s;obtain⟨b,C,E⟩:=D d p;exact⟨b,A.trans C,E⟩
 |_,_, .pix u p W D=> .pix (aB u h.len) p W λd s=>by
  obtain⟨p,A⟩:=h.al _ d u s;obtain⟨b,C,E⟩:=D d p;exact⟨b,A.trans C,E⟩
 |_,_, .pel u p D=> .pel (aB u h.len) p λd s=>by
  obtain⟨p,A⟩:=h.al _ d u s;obtain⟨b,C,E⟩:=D d p;exact⟨b,A.trans C,E⟩
 |_,_, .pin F H X J=> .pin (h.rd _ _ H F).2 (h.rd _ _ H F).1 X (go J)
 |_,_, .lstn U=> .lstn U
 |_,_, .lst F H M p A C J=> .lst (h.rd _ _ H F).2 (h.rd _ _ H F).1 M p A C (go J)
 |_,_, .tgtn U=> .tgtn U
 |_,_, .tgt F H M C J=> .tgt (h.rd _ _ H F).2 (h.rd _ _ H F).1 M C (go J)
 |_,_, .full u p D=> .full (aB u h.len) p λd s=>by
  obtain⟨p,A⟩:=h.al _ d u s;obtain⟨n,C,E⟩:=D d p;exact⟨n,C,E.frame h u s⟩
 |_,_, .part u p D=> .part (aB u h.len) p λd s=>by
  obtain⟨p,A⟩:=h.al _ d u s;exact(D d p).frame h u s
 |_,_, .fn p A=> .fn (go p) (go A)
 |_,_, .agg p=> .agg (go p)
 |_,_, .tup p=> .tup (go p)
where
 go: ∀{l:List VV} {m:List Value},F2 (VRel c) l m->F2 (VRel L) l m
  |_,_, .nil=> .nil
  |_,_, .cons p A=> .cons (VRel.frame h p) (go A)
theorem VRel.frames {c p:Ctx}(h:Le c p){l:List VV}{m:List Value}(s:F2 (VRel c) l m):F2 (VRel p) l m:=s.imp λ_ _ u=>u.frame h
def jb {β:Type}(c:Ctx)(d:List Nat)(k:VV->ah->Option β)(y:β)(v:Value)(Z':Hp):Prop:=
 ∃p h,h.Z=Z'/\Le c h/\Rel h/\yV d c h/\VRel h p v/\k p h.S=O y
theorem jb.same {β:Type}{c:Ctx}{d:List Nat}{k:VV->ah->Option β}{y:β}{v:Value}{h:VV}(p:Rel c)(u:VRel c h v)(s:k h c.S=O y):jb c d k y v c.Z:=
 ⟨h,c,rfl,Le.refl c,p,yV.refl d c,u,s⟩
end
end Go.V
