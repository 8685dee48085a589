/- A part of the proof. No condition. -/
import Derived.Test.YtknphpcjacoaeaaGreatA8
import Derived.KernelRfl
import Derived.WideKeyArr2
import Derived.RowKit
import Derived.ProofKit
import Derived.OpenShut
import Derived.ChangeArms
import Derived.Below
set_option linter.unusedVariables false
set_option linter.unusedSimpArgs false
set_option linter.unusedSectionVars false
namespace Go.V
open Go.Ab
open Option renaming some->O,none->Y
open Bool renaming true->Za,false->Zb
open Decidable renaming decide->Zc
variable {w:World}{f:FuncId}{rows:List Row}{vals:List Sk}
section
def In (a:AFn)(tab:Tab)(vals:List Sk)(b:List OSk)(c:List Alt)(at':AT)(t:HE (zd.shs ⟨vals,[],b⟩)):Option (zf c):=
 match tT id ⟨vals,[],b⟩ (WU _ t)with
 |some (d,_,S)=>gd (Nat.ble d.length a.ntmps) (eval tab a.body at' (zf c) d S λx e S'=>match x with
  | .exit _=>Y
  |_=>(match LI e S' a.results with
   |some g=>A3 S' S.length (yp b 0) (λ_=>[WY g]) (λ_=>Za) c
   |none=>Y))
 |_=>Y
theorem Rr {P:Program}{y:AFn}{tab:Tab}{a:List OSk}{e:List Alt}{at':AT}{E:HE (zd.shs ⟨vals,[],a⟩)->Option (zf e)}(ht:gr P tab.fs)(hi:aa P tab.is)(htr:am8 P f=O y)(I: ∀t:HE (zd.shs ⟨vals,[],a⟩),∃r,tT id ⟨vals,[],a⟩ (WU _ t)=O r)
  (he: ∀t o vs fs S,E t=O o->tT id ⟨vals,[],a⟩ (WU _ t)=O (vs,fs,S)->∀(c:Ctx) d,F2 (VRel c) vs d->
   ∃b,In ⟨y.ntmps,y.results,b⟩ tab vals a e at' t=O o/\∀T (_:yM T) Q Z,Bv T b Q (cm.of d) Z->Bv T y.body Q (cm.of d) Z):dq P ⟨f,vals,a,e,E⟩:=by
 intro B μ Z w d z K hs hR0 ha;obtain⟨c,vals',V,t,o,p,v,fs,bs,S',h1,hR,hf,g,hl,s,N,U,hp,h,hS,hK⟩:=hs;subst h1;have htl:WU (zd.shs ⟨vals,[],a⟩) t=V.ls:=Jn hl;cases l:tT id ⟨vals,[],a⟩ (WU (zd.shs ⟨vals,[],a⟩) t)with
 |none=>
  obtain⟨r,q⟩:=I t;rw[l]at q;cases q
 |some tr=>
 obtain⟨vs,fs0,S0⟩:=tr;refine as6 htr (cb tab) (IL ht hi) B μ c.Z w d z K ?_ hR0 ha;have u:=l;rw[htl]at l;obtain⟨hE,C⟩:=enter hR rfl g l hf;obtain⟨bd,j,J⟩:=he t o vs fs0 S0 U u _ _ C;unfold In at j;rw[u]at j;obtain⟨hg,j⟩:=aw j;have L:d.length<=y.ntmps:=by rw[<-C.length];exact Nat.le_of_ble_eq_true hg
 refine⟨L,J _ (cb tab) _ _ ?_⟩;obtain⟨l1,l2⟩:=hE.len;have A:=vU bd at' (c:=pN c V S0) hE.rel (O7 C) j;refine i8 (cb tab) bd _ _ (λx ea Z' hx=> ?_) _ _ A;obtain⟨e',W,h2,h3,h4,h5,h6⟩:=hx;subst h2
 have F:(match LI e' W.S y.results with
   |some rs=>A3 W.S S0.length (yp a 0) (λ_=>[WY rs]) (λ_=>Za) e
   |none=>Y)=O o->(match MP ea W.Z y.results with
   |some vs=>K (D2 vs) W.Z
   |none=>False):=by
  intro h7;split at h7
  .rename_i rs hrs;obtain⟨us,h8,h9⟩:=Ot h4 h5 hrs;rw[h8];simp only;obtain⟨p',X,_,q3⟩:=I6 h7;simp only at hp;rw[hp]at X;injection X with X
   subst X;obtain⟨hro,st',q4,q5⟩:=Mo q3;obtain⟨ap1,_⟩:=tS g;have M:=tQ ap1;rw[List.nil_append]at M;simp only at h hS s N;rw[q5]at h
   have D: ∀(i:Nat) (o:OSk) (x:Src),a[i]?=O o->o.ro=Za->V.m[i]?=O (O x)->x.k∈V.lent:=by
    intro i o x g1 g2 g3;unfold qO at g;obtain⟨st1,d1,g⟩:=ah g;obtain⟨st2,d2,g⟩:=ah g;obtain⟨n,d3,g⟩:=ah g
    have:n=V:=by
     cases hb:(JX ([]++sB n.m)&&Gm ([]++nN (FSum.ins ⟨f,vals,a,e,E⟩).free n.m) n.lent)with
     |false=>rw[hb]at g;cases g
     |true=>rw[hb]at g;injection g
    subst this;exact UE d3 i o x g1 g2 (by rw[Nat.zero_add];exact g3)
   obtain⟨ct,r1,r2,r3,r4,r5,r6⟩:=Qi hR rfl hE h3 h4 s N M D hro (by rw[<-l1];exact q4) h (.cons (UR h9) .nil) hS;cases r5 with
   |cons r5 _=>exact hK _ _ ⟨ct,r1,r2,r3,r4,r5,r6⟩
  .cases h7
 cases x with
 |exit i=>cases h6
 |normal=>exact F h6
 |ret=>exact F h6
def XC (es bytes:Nat)(z:List Value)(c:AOp)(n:AOp):AC:=
 .seq (.region [⟨O 2, .move (.const (.slice Y 0 0)),Y⟩]) (.seq (.seq (.region [⟨O 3, .move (.tmp 0),Y⟩,⟨O 4,c,Y⟩]) (.cond (.tmp 4) (.seq (.region [⟨O 2,n,Y⟩]) .ret) .skip))
  (.seq (.region [⟨O 5, .buildSlice es 0 z [],Y⟩,⟨O 6, .move (.tmp 0),Y⟩,⟨O 7, .append es bytes (.tmp 5) (.tmp 6),Y⟩,⟨O 2, .move (.tmp 7),Y⟩]) .ret))
def TM (es bytes:Nat)(z:List Value):AFn:=⟨8,[.tmp 2],XC es bytes z (.eqv 2 Zb (.tmp 3) (.const (.slice Y 0 0))) (.move (.const (.slice Y 0 0)))⟩
def aG6 (es bytes:Nat)(z:List Value):AFn:=⟨8,[.tmp 2],XC es bytes z (.move (.const (.bool Zb))) (.move (.const (.slice Y 0 0)))⟩
def ar0 (es bytes:Nat)(z:List Value):AFn:=⟨8,[.tmp 2],XC es bytes z (.move (.const (.bool Za))) (.append es bytes (.const (.slice Y 0 0)) (.tmp 0))⟩
def CS (s:Sh):List Alt:=[⟨.ret,[],⟨[.full 0],[],[.arr Zb s]⟩⟩]
theorem Ij {P:Program}{es bytes:Nat}{z:List Value}{s:Sh}(j:am8 P f=O (TM es bytes z))
  (m: ∀t:HE (zd.shs ⟨[.leaf (.list s)],[],[]⟩),tT id ⟨[.leaf (.list s)],[],[]⟩ (WU _ t)=O ([.lst s t],[],[]))
  (r: ∀l:List (El s),In (aG6 es bytes z) ⟨[],[]⟩ [.leaf (.list s)] [] (CS s) .no l=gd (ip (0+l.length) bytes) (O l))
  (u:In (ar0 es bytes z) ⟨[],[]⟩ [.leaf (.list s)] [] (CS s) .no ([]:List (El s))=gd (ip (0+0) bytes) (O ([]:List (El s)))):
  dq P ⟨f,[.leaf (.list s)],[],CS s,λl:List (El s)=>gd (ip (0+l.length) bytes) (O l)⟩:=by
 refine Rr (at':= .no) (tab:=⟨[],[]⟩) (gr.nil P) (aa.nil P) j (λt=>⟨_,m t⟩) λt o A B S e d c a i=> ?_
 have k:A=[.lst s t]:=by
  rw[m t]at d;injection d with d
  injection d with d
  exact d.symm
 subst k;cases i with
 |cons i x=>
 cases x
 have no: ∀q n g (a:List Value),a=[.slice (O q) n g]->∃b,In ⟨(TM es bytes z).ntmps,(TM es bytes z).results,b⟩ ⟨[],[]⟩ [.leaf (.list s)] [] (CS s) .no t=O o/\
   ∀T (_:yM T) Q Z,Bv T b Q (cm.of a) Z->Bv T (TM es bytes z).body Q (cm.of a) Z:=by
  rintro q n g a rfl;exact⟨_,(r t).trans e,λT _ Q Z h=>h⟩
 cases i with
 | @lst s l b p n g y v C D E F I J=>exact no _ _ _ _ rfl
 | @lstn s q v=>
  cases q with
  |some q=>exact no _ _ _ _ rfl
  |none=>exact⟨_,u.trans e,λT _ Q Z h=>h⟩
theorem Kz {P:Program}{b:List OSk}{d:List Alt}{e:HE (zd.shs ⟨vals,[],b⟩)->Option (zf d)}(h: ∀t,e t=Y):dq P ⟨f,vals,b,d,e⟩:=by
 intro B μ Z w j g K m;obtain⟨c,i,z,t,o,p,v,q,n,S',r,s,x,u,y,k,l,a,_⟩:=m;have a:e t=O o:=a;rw[h t]at a;cases a
end
open Go.Ab Go.ChangeShapes Go.WideShapes
section
theorem ah8 {P:Program}{g:HE (zd.shs ⟨vals,[],[]⟩)->Option (zf Kn)}(h:dq P ⟨f,vals,[],Kn,g⟩)(l:ae2 P w){a:List Value}{cargs:Array Value}{vs:List VV}(t:HE (zd.shs ⟨vals,[],[]⟩))
  (d: ∀r∈rows,∀(i:Nat) (v:Value),r.cells[i]?=O v->∃v',w.cell? ⟨r.c,r.o+i,Y⟩=O v'/\VR (sj rows) v v') (b:F2 (VR (sj rows)) a cargs.toList)
  (p:F2 (VRel (A6 (uX w.heap.size rows))) vs a) (m:((qO [] 0 [] ⟨vals,[],[]⟩ vs).bind λst=>UZ _ st.ls)=O t) (n:g t=O Za):
  Calls P f cargs w λe w'=>e= .returned (.bool Za)/\Go.RowKit.Below w.heap.size w w':=by
 obtain⟨st,j,k⟩:=ah m;exact au1 h l d b p j k n
end
section
theorem C4 {α δ:Type}{f:α->Option (α⊕δ)}{n:Nat}(F:Nat->α){c:δ}(l:n<9223372036854775808)(h: ∀i,i<n->f (F i)=O (.inl (F (i+1))))(g:f (F n)=O (.inr c)):am f cj (F 0)=O c:=by
 have a: ∀k i m,i+k=n->k<m->am f m (F i)=O c:=by
  intro k;induction k with
  |zero=>
   intro i m d e;obtain⟨m,rfl⟩: ∃b,m=b+1:=⟨m-1,by omega⟩
   have:i=n:=by omega
   subst this;show(f (F i)).bind _=_;rw[g];rfl
  |succ k j=>
   intro i m d e;obtain⟨m,rfl⟩: ∃b,m=b+1:=⟨m-1,by omega⟩
   show(f (F i)).bind _=_;rw[h i (by omega)];exact j (i+1) m (by omega) (by omega)
 exact a n 0 cj (by omega) (by unfold cj;omega)
theorem cx {γ δ:Type}{f:(Int×γ)->Option ((Int×γ)⊕δ)}{n:Nat}(F:Nat->γ){c:δ}(b:n<9223372036854775808)(d: ∀i,i<n->f ((i:Int),F i)=O (.inl (((i+1:Nat):Int),F (i+1))))(a:f ((n:Int),F n)=O (.inr c)):am f cj (0,F 0)=O c:=
 C4 (λi=>((i:Int),F i)) b d a
theorem oi {δ:Type}{f:Int->Option (Int⊕δ)}{n:Nat}{c:δ}(b:n<9223372036854775808)(d: ∀i:Nat,i<n->f (i:Int)=O (.inl ((i+1:Nat):Int)))(a:f (n:Int)=O (.inr c)):am f cj 0=O c:=
 C4 (λi=>(i:Int)) b d a
theorem Jj {α γ δ:Type}{f:(Int×γ)->Option ((Int×γ)⊕δ)}{l:List α}(g:γ->α->γ)(s:γ){c:γ->δ}(e:l.length<9223372036854775807)
  (d: ∀(i:Nat) (h:i<l.length) s,f ((i:Int),s)=O (.inl (((i+1:Nat):Int),g s l[i]))) (b: ∀s,f ((l.length:Int),s)=O (.inr (c s))):am f cj (0,s)=O (c (l.foldl g s)):=by
 have h:=cx (f:=f) (n:=l.length) (λi=>(l.take i).foldl g s) (c:=c (l.foldl g s)) (by omega) ?_ ?_
 .exact h
 .intro i a;rw[d i a,List.take_succ_eq_append_getElem a,List.foldl_append];rfl
 .rw[b,List.take_length]
theorem ad1 (n:Int):IntKind.u64.wrap n=n % 18446744073709551616:=by rfl
theorem SD {n:Nat}(h:n<9223372036854775808):IntKind.u64.wrap (n:Int)=n:=by
 rw[ad1];omega
theorem cn {n:Int}(h:0<=n/\n<18446744073709551616):IntKind.u64.wrap n=n:=by
 rw[ad1];omega
theorem Zj {n:Int}(h:0<=n/\n<18446744073709551616:=by omega):IntKind.u64.wrap n=n:=cn h
theorem ab6 {l:Zd}{i:Nat}(h:i<l.length):rd l (i:Int)=O (l.getD i 0):=by
 rw[bh h,List.getD_eq_getElem?_getD,List.getElem?_eq_getElem h];rfl
theorem bi {k n:Nat}(h:k<n):ix (k:Int) n=O k:=by
 unfold ix;rw[zB (show(0:Int)<=k by omega),zB (show(k:Int)<n by omega)];rfl
theorem gz {a b:Int}{n:Nat}(h:0<=a/\a<=b/\b<=n):gy a b n=Za:=by
 unfold gy;rw[zB h.1,zB h.2.1,zB h.2.2];rfl
theorem Zk {a b:Int}{n:Nat}(h:0<=a/\a<=b/\b<=n:=by omega):gy a b n=Za:=gz h
theorem ac8 {a b:Int}(h:0<=a):Int.tdiv a b=a / b:=Int.tdiv_eq_ediv_of_nonneg h
end
section
open List renaming append_nil -> aD, append_assoc -> bB, getElem?_eq_getElem -> bD, getElem?_append_left -> cD, length_append -> dB, drop_zero -> dD, getElem?_append_right -> eD, length_cons -> iA, take_of_length_le -> iB
open Nat renaming beq -> aB, eq_of_beq_eq_true -> cB, le_refl -> fB, not_lt_zero -> fD, zero_add -> gB, zero_mul -> gD, eq_zero_or_pos -> iC
open Option renaming map_some -> iD
def pn (w:World):(s:Sh)->List Value->El s->Prop
 | .int k,c,n=>c=[.int k n]/\(Lit.int k n).wf=Za
 | .bool,c,b=>c=[.bool b]
 | .str,c,l=> ∃s:ByteArray,c=[.string s]/\nF s=l/\s.size<=maxLen
 | .list s,c,l=>(c=[.slice Y 0 0]/\l=[])∨∃(a:Addr) (e d:Nat) (g:List (El s)),c=[.slice (O a) e d]/\e<=d/\d<=maxLen/\g.length=d/\l=g.take e/\
   ∀i y,g[i]?=O y->∃o,(∀j z,o[j]?=O z->w.cell? (a.add (i*s.w+j))=O z)/\pn w s o y
 | .pair a b,c,x=> ∃h m,c=h++m/\pn w a h x.1/\pn w b m x.2
theorem pn.len : ∀{s:Sh} {cs:List Value} {x:El s},pn w s cs x->cs.length=s.w
 | .int k,_,_,⟨h,_⟩=>by subst h;rfl
 | .bool,_,_,h=>by
  have h:_=[Value.bool _]:=h;subst h;rfl
 | .str,_,_,⟨s,h,_⟩=>by subst h;rfl
 | .list s,_,_,h=>by
  rcases h with⟨h,_⟩|⟨a,len,c,j,h,_⟩<;>subst h<;>rfl
 | .pair a b,_,_,⟨g,i,h,d,e⟩=>by
  subst h;rw[dB,d.len,e.len];rfl
def CP (w:World)(rows:List Row):Prop:= ∀r∈rows,∀(i:Nat) (v:Value),r.cells[i]?=O v->∃a,w.cell? ⟨r.c,r.o+i,Y⟩=O a/\VR (sj rows) v a
theorem UF (rows a:List Row):(sj rows).le (sj (rows++a)):=by
 intro b g h;simp only[sj]at h⊢;cases c:rows[b]? with
 |none=>rw[c]at h;cases h
 |some r=>
  rw[c]at h;obtain⟨d,e⟩:=List.getElem?_eq_some_iff.1 c;rw[cD d,c];exact h
theorem ac1 (c:Nat)(rows a:List Row):Le (A6 (uX c rows)) (A6 (uX c (rows++a))):=by
 have j: ∀k,ae ([]:ak) k= .dead:=λk=>by cases k<;>rfl
 refine⟨fB _,λk d h=>(fD _ h).elim,λk _ h=> ?_,λk d b y h=>(fD _ h).elim,λb y h _=> ?_,λb y _ _ h=>(PN b (.inl h)).elim, ?_,rfl⟩
 .rfl
 .simp only[A6,uX]at h⊢;cases e:rows[b]? with
  |none=>rw[e]at h;cases h
  |some r=>
   rw[e]at h;obtain⟨g,i⟩:=List.getElem?_eq_some_iff.1 e;rw[cD g,e];exact h
 .show rows.length<=(rows++a).length;rw[dB];omega
theorem an9 {μ a:Mu}(h:μ.le a){l m:List Value}(b:F2 (VR μ) l m):F2 (VR a) l m:=b.imp λ_ _ c=>c.mono h
theorem CP.app {a:List Row}(h:CP w rows)(g: ∀r∈a,∀(i:Nat) (v:Value),r.cells[i]?=O v->∃v',w.cell? ⟨r.c,r.o+i,Y⟩=O v'/\VR (sj (rows++a)) v v'):CP w (rows++a):=by
 intro r hr i v b;rcases List.mem_append.1 hr with hr|hr
 .obtain⟨v',d,e⟩:=h r hr i v b;exact⟨v',d,e.mono (UF _ _)⟩
 .exact g r hr i v b
theorem aF9 (a:Addr)(i j:Nat):(a.add i).add j=a.add (i+j):=by
 unfold Addr.add;by_cases c:j=0
 .subst c;simp
 .by_cases b:i=0
  .subst b;simp
  .simp[b,c,Nat.add_assoc]
structure Built (w:World)(rows more:List Row)(acs cs:List Value)(vs:List VV):Prop where
 ok:CP w (rows++more)
 vr:F2 (VR (sj (rows++more))) acs cs
 vv:F2 (VRel (A6 (uX w.heap.size (rows++more)))) vs acs
theorem Built.app {b d:List Row}{a1 a2 c1 c2:List Value}{e g:List VV}(c:Built w rows b a1 c1 e)(a:Built w (rows++b) d a2 c2 g):Built w rows (b++d) (a1++a2) (c1++c2) (e++g):=by
 refine⟨?_, ?_, ?_⟩
 .rw[<-bB];exact a.ok
 .rw[<-bB];exact(an9 (UF _ _) c.vr).append a.vr
 .rw[<-bB];exact(VRel.frames (ac1 _ _ _) c.vv).append a.vv
theorem Built.nil (h:CP w rows):Built w rows [] [] [] []:=⟨by rw[aD];exact h, .nil, .nil⟩
theorem aq4 {w:World}{s:Sh}(r: ∀{cs:List Value} {x:El s},pn w s cs x->∀{rows:List Row},CP w rows->∃b d,Built w rows b d cs (du s x))(a:Addr): ∀(l:List (El s)) (k:Nat),
  (∀i y,l[i]?=O y->∃g,(∀j z,g[j]?=O z->w.cell? (a.add ((k+i)*s.w+j))=O z)/\pn w s g y)->∀{rows:List Row},CP w rows->
  ∃b d e,Built w rows b d e (ib s l)/\e.length=l.length*s.w/\∀i z,e[i]?=O z->w.cell? (a.add (k*s.w+i))=O z
 |[],k,_,rows,h=>⟨[],[],[], .nil h,by simp,λi z c=>by simp at c⟩
 |y::l,k,q,rows,h=>by
  obtain⟨g,A,m⟩:=q 0 y rfl;obtain⟨J,t,p⟩:=r m h
  obtain⟨K,u,v,B,C,D⟩:=aq4 r a l (k+1) (λi L n=>by
   obtain⟨o,E,F⟩:=q (i+1) L (by simpa using n)
   exact⟨o,λj z c=>by rw[show k+1+i=k+(i+1)by omega];exact E j z c,F⟩) p.ok
  refine⟨J++K,t++u,g++v, ?_, ?_,λi z c=> ?_⟩
  .have:=p.app B;rw[jc];exact this
  .rw[dB,C,m.len,iA,Nat.succ_mul];omega
  .have M:=m.len;by_cases I:i<g.length
   .rw[cD I]at c;have:=A i z c
    rwa [Nat.add_zero]at this
   .rw[eD (by omega)]at c;have:=D _ z c;rw[show(k+1)*s.w+(i-g.length)=k*s.w+i by rw[Nat.succ_mul];omega]at this;exact this
theorem build {w:World}: ∀(s:Sh) {cs:List Value} {x:El s},pn w s cs x->∀{rows:List Row},CP w rows->∃Q U,Built w rows Q U cs (du s x)
 | .int k,_,n,⟨h,_⟩,rows,u=>by
  subst h;exact⟨[],_,by rw[aD];exact u, .cons (.int _ _) .nil, .cons (.int _ _) .nil⟩
 | .bool,_,b,h,rows,u=>by
  have h:_=[Value.bool _]:=h;subst h;exact⟨[],_,by rw[aD];exact u, .cons (.bool _) .nil, .cons (.bool _) .nil⟩
 | .str,_,l,⟨s,h,B,_⟩,rows,u=>by
  subst h;exact⟨[],_,by rw[aD];exact u, .cons (.string _) .nil, .cons (.str B) .nil⟩
 | .pair a b,_,x,⟨c1,c2,h,F,B⟩,rows,u=>by
  subst h;obtain⟨p,A,I⟩:=build a F u;obtain⟨m2,a2,h4⟩:=build b B I.ok;exact⟨p++m2,A++a2,I.app h4⟩
 | .list s,_,l,h,rows,u=>by
  rcases h with⟨h,B⟩|⟨a,g,c,T,h,D,hcm,hyl,V,hy⟩
  .subst h;subst B;exact⟨[],_,by rw[aD];exact u, .cons .nils .nil, .cons (.lstn λz N=>by cases N) .nil⟩
  .subst h;obtain⟨p,A,c1,F,B,I⟩:=aq4 (λt=>build s t) a T 0 (λi y h=>by rw[gB];exact hy i y h) u;have hw:=qU s;rw[hyl]at B;have J:A.length=c*s.w:=by rw[F.vr.length,B]
   let d:Row:=⟨a.block,a.off,c*s.w,s.w,A⟩
   have j:0<c->a.spot=Y/\a.block<w.heap.size:=by
    intro t;have E:0<c1.length:=by rw[B];exact Nat.mul_pos t hw
    have:=I 0 _ (bD E);rw[gD,Nat.add_zero]at this;have q:=al6 this;exact⟨q,aG5 (x:=⟨a.block,a.off+0,Y⟩) (Pn q this)⟩
   have C: ∀(rs:List Row),(rows++(p++[d])++rs)[(rows++p).length]?=O d:=by
    intro rs;rw[<-bB,bB _ [d],eD (fB _),Nat.sub_self];rfl
   have M:(sj (rows++(p++[d]))).at (rows++p).length ⟨a.block,a.off,c*s.w,s.w,0,Y⟩:=by
    have:=C [];rw[aD]at this;refine⟨?_,rfl⟩;simp only[sj,this];rfl
   have W:CP w (rows++(p++[d])):=by
    rw[<-bB];refine F.ok.app λr X i v S=> ?_
    have:r=d:=by simpa using X
    subst this;obtain⟨v',q1,q2⟩:=F.vr.get i v S;have t:=I i v' q1;rw[gD,gB]at t
    have K:0<c:=by
     rcases iC c with e|e
     .have S:A[i]?=O v:=S;obtain⟨hi,_⟩:=List.getElem?_eq_some_iff.1 S;rw[J,e,gD]at hi;exact(fD _ hi).elim
     .exact e
    exact⟨v',Pn (j K).1 t,q2.mono (UF _ _)⟩
   refine⟨p++[d],[.slice (O ⟨(rows++p).length,0,Y⟩) g c],W, ?_, ?_⟩
   .refine .cons ?_ .nil;by_cases t:c=0
    .have:g=0:=by omega
     subst t;subst this;exact .slice0 _ M
    .have q:=(j (by omega)).1;obtain⟨b,o,sp⟩:=a;simp only at q;subst q;exact .slice (o:=0) M D (fB _) (by simp)
   .refine .cons ?_ .nil;by_cases t:c=0
    .have e:g=0:=by omega
     subst t;subst e;rw[V,List.take_zero];exact .lstn λz N=>by injection N with N;rw[<-N]
    .have E:=(j (by omega)).2
     have hm:(A6 (uX w.heap.size (rows++(p++[d])))).Z.m (rows++p).length=O ⟨A,Zb,s.w⟩:=by
      have:=C [];rw[aD]at this;simp only[A6,uX,this,zG];exact zE E
     have L:l.length=g:=by rw[V,List.length_take];omega
     refine .lst (PN _) hm rfl L.symm D ?_ ?_
     .show 0+g*s.w<=A.length;rw[J,gB];exact Nat.mul_le_mul_right _ D
     .show F2 _ _ ((A.drop 0).take (g*s.w));rw[dD,V]
      have h5:F2 (VRel (A6 (uX w.heap.size (rows++(p++[d]))))) (ib s T) A:=by
       rw[<-bB];exact VRel.frames (ac1 _ _ _) F.vv
      have h6:ib s (T.take g)=(ib s T).take (g*s.w):=oG;rw[h6];exact h5.take _
def Fb :List Sh->Sh
 |[]=> .bool
 |[a]=>a
 |a::b::r=> .pair a (Fb (b::r))
theorem VZ {w:World}: ∀{l1 c:List Sh} {c1 c2:List Value},l1≠[]->c≠[]->(∃x,pn w (Fb l1) c1 x)->(∃x,pn w (Fb c) c2 x)->∃x,pn w (Fb (l1++c)) (c1++c2) x
 |[a],b::r,c1,c2,_,_,⟨x,d⟩,⟨y,e⟩=>⟨(x,y),c1,c2,rfl,d,e⟩
 |a::b::r,c,c1,c2,_,l,⟨x,g,h,i,d,e⟩,j=>by
  subst i;obtain⟨z,k⟩:=VZ (l1:=b::r) (by simp) l ⟨x.2,e⟩ j;exact⟨(x.1,z),g,h++c2,by rw[bB],d,k⟩
def Lj {α:Type}(P:Program)(r:TypeId->Option (List Sh))(c:α->TypeId)(a:α->Nat):List α->Nat->Option (List Sh)
 |[],_=>O []
 |f::l,o=>cond (aB (a f) o) (match r (c f)with
  |some (s::b)=>cond (aB (s::b).length (P.cellsOf (c f))) ((Lj P r c a l (o+(s::b).length)).map ((s::b)++ ·)) Y
  |_=>Y) Y
def yq (P:Program):Nat->TypeId->Option (List Sh)
 |0,_=>Y
 |n+1,t=>match P.underlying t with
  |some (.int k)=>O [.int k]
  |some .bool=>O [.bool]
  |some .string=>O [.str]
  |some (.slice e)=>(match yq P n e with
   |some (s::a)=>cond (aB (s::a).length (P.cellsOf e)) (O [.list (Fb (s::a))]) Y
   |_=>Y)
  |some (.struct b)=>(match Lj P (yq P n) Field.type Field.offset b.toList 0 with
   |some L=>cond (aB L.length (P.cellsOf t)) (O L) Y
   |none=>Y)
  |some (.array m e)=>(match Lj P (yq P n) (λ_=>e) (λi=>i*P.cellsOf e) (List.range m) 0 with
   |some L=>cond (aB L.length (P.cellsOf t)) (O L) Y
   |none=>Y)
  |_=>Y
section
variable {H:Type} {enc:TypeId×Value->H} {P:Program} {w:World} {base:Nat} {held:Bool}
theorem Ix {α:Type}{n m:Nat}{b:α->TypeId}{a:α->Nat}(v: ∀{t:TypeId} {l:List Sh} {cs:List Value} {x:DataW H×List MemPlace},yq P n t=O l->l≠[]->DataW.trod enc P w base (λ_=>Za) held m t cs=O x->∃y,pn w (Fb l) cs y){cs:List Value}:
  ∀(c:List α) (o:Nat) (L:List Sh),Lj P (yq P n) b a c o=O L->L≠[]->(∀(i:Nat) (f:α),c[i]?=O f->∃x,DataW.trod enc P w base (λ_=>Za) held m (b f) ((cs.drop (a f)).take (P.cellsOf (b f)))=O x)->
   ∃y,pn w (Fb L) ((cs.drop o).take L.length) y
 |[],o,L,h,e,_=>by
  injection h with h
  exact(e h.symm).elim
 |f::c,o,L,h,e,r=>by
  obtain⟨y,u⟩:=r 0 f rfl;simp only[Lj]at h;cases j:aB (a f) o with
  |false=>rw[j]at h;cases h
  |true=>
   have j:=cB j;subst j;rw[Nat.beq_refl,zC]at h;cases p:yq P n (b f)with
   |none=>rw[p]at h;cases h
   |some l=>
    rw[p]at h;cases l with
    |nil=>cases h
    |cons s z=>
     simp only at h;cases d:aB (s::z).length (P.cellsOf (b f))with
     |false=>rw[d]at h;cases h
     |true=>
      rw[d,zC]at h;have d:=cB d;rw[<-d]at u;have q:=v p (by simp) u;cases k:Lj P (yq P n) b a c (a f+(s::z).length)with
      |none=>rw[k]at h;cases h
      |some L2=>
       rw[k,iD]at h;injection h with h
       subst h;rw[dB,List.take_add,List.drop_drop];cases L2 with
       |nil=>
        rw[List.length_nil,List.take_zero,aD,aD];exact q
       |cons C B=>exact VZ (by simp) (by simp) q (Ix v c _ _ k (by simp) λi g A=>r (i+1) g (by simpa using A))
theorem Sc {β:Type}{p:Nat->β->Prop}: ∀(n:Nat),(∀i,i<n->∃y,p i y)->∃b:List β,b.length=n/\∀i y,b[i]?=O y->p i y
 |0,_=>⟨[],rfl,λi y h=>by simp at h⟩
 |n+1,h=>by
  obtain⟨b,d,g⟩:=Sc n λi c=>h i (by omega)
  obtain⟨y,j⟩:=h n (by omega);refine⟨b++[y],by simp[d],λi z a=> ?_⟩;by_cases c:i<b.length
  .rw[cD c]at a;exact g i z a
  .rw[eD (by omega)]at a
   have:i-b.length=0:=by
    rcases iC (i-b.length)with e|e
    .exact e
    .rw[List.getElem?_eq_none (by simp;omega)]at a;cases a
   rw[this]at a;injection a with a
   subst a;have:i=n:=by omega
   subst this;exact j
theorem af7 {a:Addr}{c:Nat}{b:List Value}(h:w.cells? base a c=O b):b.length=c/\∀j z,b[j]?=O z->w.cell? (a.add j)=O z:=by
 unfold World.cells? at h;split at h
 .have e:=mapM_some_length h;rw[List.length_range]at e;refine⟨e,λj z g=> ?_⟩
  have d:j<c:=by
   obtain⟨d,_⟩:=List.getElem?_eq_some_iff.1 g;omega
  have:=mapM_some_get h j j (by simp[d]);rw[this,g]
 .cases h
theorem av6 : ∀(l:List Sh),l≠[]->(∀s∈l,s.w=1)->(Fb l).w=l.length
 |[a],_,h=>h a (by simp)
 |a::b::r,_,h=>by
  show a.w+(Fb (b::r)).w=_;rw[h a (by simp),av6 (b::r) (by simp) λs c=>h s (List.mem_cons_of_mem _ c),iA (as:=b::r)];omega
theorem TW {α:Type}{n:Nat}{c:α->TypeId}{a:α->Nat}(j: ∀{t:TypeId} {l:List Sh},yq P n t=O l->∀s∈l,s.w=1): ∀(b:List α) (o:Nat) (L:List Sh),Lj P (yq P n) c a b o=O L->∀s∈L,s.w=1
 |[],o,L,h=>by
  injection h with h
  subst h;intro s m;cases m
 |f::b,o,L,h=>by
  simp only[Lj]at h;cases g:aB (a f) o with
  |false=>rw[g]at h;cases h
  |true=>
   rw[g,zC]at h;cases e:yq P n (c f)with
   |none=>rw[e]at h;cases h
   |some l=>
    rw[e]at h;cases l with
    |nil=>cases h
    |cons s k=>
     simp only at h;cases i:aB (s::k).length (P.cellsOf (c f))with
     |false=>rw[i]at h;cases h
     |true=>
      rw[i,zC]at h;cases d:Lj P (yq P n) c a b (o+(s::k).length)with
      |none=>rw[d]at h;cases h
      |some L2=>
       rw[d,iD]at h;injection h with h
       subst h;intro q hq;rcases List.mem_append.1 hq with hq|hq
       .exact j e q hq
       .exact TW j b _ _ d q hq
theorem TY : ∀(n:Nat) {t:TypeId} {l:List Sh},yq P n t=O l->∀s∈l,s.w=1
 |0,t,l,h=>by cases h
 |n+1,t,l,h=>by
  have one: ∀{a:Sh},a.w=1->O [a]=O l->∀s∈l,s.w=1:=by
   intro a g e;injection e with e
   subst e;intro s d;rw[List.mem_singleton]at d;subst d;exact g
  simp only[yq]at h;split at h
  .exact one rfl h
  .exact one rfl h
  .exact one rfl h
  .split at h
   .rename_i e k x s i j;cases b:aB (s::i).length (P.cellsOf e)with
    |false=>rw[b]at h;cases h
    |true=>rw[b,zC]at h;exact one rfl h
   .cases h
  .split at h
   .rename_i L c;cases b:aB L.length (P.cellsOf t)with
    |false=>rw[b]at h;cases h
    |true=>
     rw[b,zC]at h;injection h with h
     subst h;exact TW (λh=>TY n h) _ _ _ c
   .cases h
  .split at h
   .rename_i L c;cases b:aB L.length (P.cellsOf t)with
    |false=>rw[b]at h;cases h
    |true=>
     rw[b,zC]at h;injection h with h
     subst h;exact TW (λh=>TY n h) _ _ _ c
   .cases h
  .cases h
theorem Gv : ∀(n:Nat) {m:Nat} {t:TypeId} {l:List Sh} {cs:List Value} {x:DataW H×List MemPlace},yq P n t=O l->l≠[]->DataW.trod enc P w base (λ_=>Za) held m t cs=O x->∃y,pn w (Fb l) cs y
 |0,m,t,l,cs,x,h,_,_=>by cases h
 |n+1,m,t,l,cs,x,h,J,v=>by
  simp only[yq]at h;split at h
  .rename_i k d;injection h with h
   subst h;obtain⟨a,g,_,Q⟩:=DataW.trod_int d v;exact⟨a,g,Q⟩
  .rename_i d;injection h with h
   subst h;obtain⟨a,g,_⟩:=DataW.trod_bool d v;exact⟨a,g⟩
  .rename_i d;injection h with h
   subst h;obtain⟨a,g,_,Q⟩:=DataW.trod_string d v;exact⟨_,a,g,rfl,Q⟩
  .rename_i e d;split at h
   .rename_i s A hr;cases b:aB (s::A).length (P.cellsOf e)with
    |false=>rw[b]at h;cases h
    |true=>
     rw[b,zC]at h;injection h with h
     subst h;have b:=cB b;have hw:(Fb (s::A)).w=P.cellsOf e:=by rw[av6 _ (by simp) (TY n hr),b]
     rcases DataW.trod_slice d v with⟨g,_⟩|⟨a,c,o,S,rest,M,_,g,_,hb,X,T,hel,he,r⟩
     .exact⟨([]:List (El (Fb (s::A)))), .inl ⟨g,rfl⟩⟩
     .have F: ∀i,i<o->∃y:El (Fb (s::A)),∃N,(∀j z,N[j]?=O z->w.cell? (a.add (i*(Fb (s::A)).w+j))=O z)/\pn w (Fb (s::A)) N y:=by
       intro i I
       have u: ∃q,(w.cells? base (a.add (i*P.cellsOf e)) (P.cellsOf e)).bind (DataW.trod enc P w base (λ_=>Za) held M e)=O q:=by
        by_cases W:i<c
        .rw[he i W];exact⟨_,bD (by omega)⟩
        .obtain⟨h8,p⟩:=r.1 rfl;have:=p (i-c) (by omega);rw[show c+(i-c)=i by omega]at this;rw[this];exact⟨_,bD (by omega)⟩
       obtain⟨q,hq⟩:=u;obtain⟨N,B,D⟩:=ah hq;obtain⟨y,E⟩:=Gv n hr (by simp) D;obtain⟨h4,h5⟩:=af7 B;exact⟨y,N,λj z hz=>by rw[hw,<-aF9];exact h5 j z hz,E⟩
      obtain⟨ys,h6,h7⟩:=Sc o F;exact⟨ys.take c, .inr ⟨a,c,o,ys,g,X,T,h6,rfl,h7⟩⟩
   .cases h
  .rename_i fs d;split at h
   .rename_i L U;cases b:aB L.length (P.cellsOf t)with
    |false=>rw[b]at h;cases h
    |true=>
     rw[b,zC]at h;injection h with h
     subst h;have b:=cB b;obtain⟨xs,M,_,_,hl,K,Z⟩:=DataW.trod_struct d v
     have:=Ix (cs:=cs) (λB D E=>Gv n (m:=M) B D E) fs.toList 0 _ U J λi f I=>by
      have V:fs[i]?=O f:=by rw[<-Array.getElem?_toList];exact I
      have:=Z i f V;rw[this]
      have:i<xs.length:=by
       obtain⟨p,_⟩:=List.getElem?_eq_some_iff.1 I;rw[K];simpa using p
      exact⟨_,bD this⟩
     rw[dD,iB (by omega)]at this;exact this
   .cases h
  .rename_i k e d;split at h
   .rename_i L U;cases b:aB L.length (P.cellsOf t)with
    |false=>rw[b]at h;cases h
    |true=>
     rw[b,zC]at h;injection h with h
     subst h;have b:=cB b;obtain⟨xs,M,_,_,hl,K,Z⟩:=DataW.trod_array d v
     have:=Ix (cs:=cs) (λB D E=>Gv n (m:=M) B D E) (List.range k) 0 _ U J λi f I=>by
      obtain⟨p,C⟩:=List.getElem?_eq_some_iff.1 I;rw[List.getElem_range]at C;subst C;have p:i<k:=by simpa using p
      have:=Z i p;rw[this];exact⟨_,bD (by omega)⟩
     rw[dD,iB (by omega)]at this;exact this
   .cases h
  .cases h
end
def isAgg (P:Program)(t:TypeId):Bool:=match P.underlying t with
 |some (.struct _)|some (.array _ _)=>Za
 |_=>Zb
def Ox (w:World):(b:Bool)->(s:Sh)->Value->El s->Prop
 |true,s,v,x=> ∃a,v= .agg a/\pn w s a.toList x
 |false,s,v,x=>pn w s [v] x
theorem Wg {H:Type}{enc:TypeId×Value->H}{P:Program}{base:Nat}{held:Bool}{n:Nat}{t:TypeId}{l:List Sh}{r:Reach}{b0:Nat}{v:Value}{d:DataW H}{u:List MemPlace}(h:yq P n t=O l)(j:l≠[])
  (a:Value.okWide P w r b0 t v) (q:DataW.Trod enc P w base (λ_=>Za) held t v d u): ∃x:El (Fb l),Ox w (isAgg P t) (Fb l) v x:=by
 obtain⟨m,s⟩:=q;obtain⟨x,i⟩:=Gv n h j s;refine⟨x, ?_⟩
 have c:isAgg P t=Zb->(∀g,v≠ .agg g)->Ox w (isAgg P t) (Fb l) v x:=by
  intro o p;rw[o]
  have:v.cells.toList=[v]:=by
   unfold Value.cells;split
   .rename_i g;exact(p g rfl).elim
   .rfl
  rw[this]at i;exact i
 cases n with
 |zero=>cases h
 |succ n=>
  simp only[yq]at h;split at h
  .rename_i k b;refine c (by simp[isAgg,b]) λg e=> ?_
   subst e;simp[Value.okWide,b,Cell.okWide,Cell.ok]at a
  .rename_i b;refine c (by simp[isAgg,b]) λg e=> ?_
   subst e;simp[Value.okWide,b,Cell.okWide,Cell.ok]at a
  .rename_i b;refine c (by simp[isAgg,b]) λg e=> ?_
   subst e;simp[Value.okWide,b,Cell.okWide,Cell.ok]at a
  .rename_i e b;refine c (by simp[isAgg,b]) λg e=> ?_
   subst e;simp[Value.okWide,b,Cell.okWide,Cell.ok]at a
  .rename_i y b;simp only[Value.okWide,b]at a;obtain⟨g,rfl,_,_⟩:=a;rw[show isAgg P t=Za by simp[isAgg,b]];exact⟨g,rfl,i⟩
  .rename_i k e b;simp only[Value.okWide,b]at a;obtain⟨g,rfl,_,_⟩:=a;rw[show isAgg P t=Za by simp[isAgg,b]];exact⟨g,rfl,i⟩
  .cases h
@[reducible] def All :List (Bool×Sh)->Type
 |[]=>Unit
 |[k]=>El k.2
 |k::a::r=>El k.2×All (a::r)
def SM (w:World):(d:List (Bool×Sh))->List Value->All d->Prop
 |[],a,_=>a=[]
 |[k],a,x=> ∃v,a=[v]/\Ox w k.1 k.2 v x
 |k::c::r,a,x=> ∃v b,a=v::b/\Ox w k.1 k.2 v x.1/\SM w (c::r) b x.2
def aZ0 (k:Bool×Sh)(x:El k.2):VV:=cond k.1 (.agg (du k.2 x)) ((du k.2 x).headD .undef)
def ap4 :(b:List (Bool×Sh))->All b->List VV
 |[],_=>[]
 |[k],x=>[aZ0 k x]
 |k::a::r,x=>aZ0 k x.1::ap4 (a::r) x.2
theorem RC {k:Bool×Sh}{v:Value}{x:El k.2}(h:Ox w k.1 k.2 v x)(g:CP w rows): ∃c i,Built w rows c [i] [v] [aZ0 k x]:=by
 obtain⟨b,s⟩:=k;cases b with
 |true=>
  obtain⟨u,rfl,j⟩:=h;obtain⟨c,e,d⟩:=build s j g;exact⟨c, .agg e.toArray,d.ok, .cons (.agg (by simpa using d.vr)) .nil, .cons (.agg (by simpa using d.vv)) .nil⟩
 |false=>
  obtain⟨c,e,d⟩:=build s h g;have m:=d.vr;have n:=d.vv;cases m with
  | @cons a _ t _ o p=>
   cases p;refine⟨c,a,d.ok, .cons o .nil, ?_⟩;show F2 _ [(du s x).headD .undef] _;generalize du s x=l at*;cases n with
   |cons q r=>
    cases r;exact .cons q .nil
theorem Pk {w:World}: ∀(i:List (Bool×Sh)) {vs:List Value} {x:All i},SM w i vs x->∀{rows:List Row},CP w rows->∃a b,Built w rows a b vs (ap4 i x)
 |[],vs,x,h,rows,c=>by
  have h:vs=[]:=h;subst h;exact⟨[],[], .nil c⟩
 |[k],vs,x,⟨v,h,e⟩,rows,c=>by
  subst h;obtain⟨a,d,g⟩:=RC e c;exact⟨a,[d],g⟩
 |k::m::r,vs,x,⟨v,p,h,e,g⟩,rows,c=>by
  subst h;obtain⟨n,d,j⟩:=RC e c;obtain⟨o,b,l⟩:=Pk (m::r) g j.ok;exact⟨n++o,d::b,j.app l⟩
theorem au0 {P:Program}{a:HE (zd.shs ⟨vals,[],[]⟩)->Option (zf Kn)}(h:dq P ⟨f,vals,[],Kn,a⟩)(j:ae2 P w){cargs:Array Value}(b:List (Bool×Sh))(x:All b)(t:HE (zd.shs ⟨vals,[],[]⟩))
  (i:SM w b cargs.toList x) (k:((qO [] 0 [] ⟨vals,[],[]⟩ (ap4 b x)).bind λst=>UZ _ st.ls)=O t) (d:a t=O Za):
  Calls P f cargs w λe w'=>e= .returned (.bool Za)/\Go.RowKit.Below w.heap.size w w':=by
 obtain⟨rows,g,c⟩:=Pk b i (rows:=[]) (λr d=>by cases d);exact ah8 h j t c.ok c.vr c.vv k d
end
end Go.V
