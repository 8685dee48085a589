/- A part of the proof. No condition. -/
import Derived.Test.YtlkdfancfgakdaaGreatA6
import Derived.Test.YtlkdfancfgakdaaGreatA3
import Derived.IntWalk
import Derived.KernelRfl
import Derived.WideKeyArr2
import Derived.RowKit
import Derived.ProofKit
import Derived.OpenShut
import Derived.ChangeArms
import Derived.Below
set_option linter.unusedVariables false
set_option linter.unusedSimpArgs false
set_option linter.unusedSectionVars false
namespace Go.V
open Go.Ab
open Option renaming some->O,none->Y
open Bool renaming true->Za,false->Zb
open Decidable renaming decide->Zc
variable {f:FuncId}{w:World}{vals:List Sk}{rows:List Row}{c:Ctx}{objs:List OSk}{outs:List Alt}{at':AT}{vs:List VV}{tab:List FSum}{ins:List Inl}{cargs:Array Value}{es:Nat}{v:Value}
section
open Nat renaming le_of_ble_eq_true -> aB, zero_add -> aD
theorem Mp {c:Ctx}{e:cu}{A:cj}(B:Rel c)(s:ar c e A): ∀{K:List ARes} {vs:List VV},JL e c.S K=O vs->∃x,JK A c.Z K=O x/\F2 (VRel c) vs x
 |[],vs,h=>by injection h with h;subst h;exact⟨[],rfl, .nil⟩
 |r::K,vs,h=>by
  simp only[JL]at h;obtain⟨v,d,h⟩:=ag h;obtain⟨V,N,h⟩:=ag h;injection h with h
  subst h;obtain⟨x,Q,T⟩:=Mp B s N
  have J: ∃u,N5 A c.Z r=O u/\VRel c v u:=by
   cases r with
   |tmp t=>
    simp only[aD4]at d;injection d with d
    subst d;exact⟨_,rfl,s t⟩
   |cell t=>
    simp only[aD4]at d;split at d
    .rename_i b o I;split at d
     .rename_i es z l k;have p:=s t;rw[I]at p;cases p with
      |ptr U _ E=>
       have g:(ad c.S b).dim=O (es,l.length):=by rw[k];rfl
       obtain⟨M,F,C⟩:=E _ g;have m:=B.stands g F;rw[k]at m;obtain⟨y,a,j,i,q⟩:=m.get d;refine⟨a, ?_,q⟩;rw[aD]at i;simp only[N5,C,j,zG,i]
     .cases d
    .cases d
   |cellN t n=>
    simp only[aD4]at d;split at d
    .rename_i b o I;split at d
     .rename_i es z l k;cases D:Nat.ble (o+n) l.length with
      |false=>rw[D]at d;cases d
      |true=>
       rw[D]at d;injection d with d
       subst d;have p:=s t;rw[I]at p;cases p with
       |ptr U _ E=>
        have g:(ad c.S b).dim=O (es,l.length):=by rw[k];rfl
        obtain⟨M,F,C⟩:=E _ g;have m:=B.stands g F;rw[k]at m;obtain⟨y,L,j,i,q⟩:=m.read (aB D);rw[aD]at i;refine⟨.agg L.toArray, ?_, .agg (by simp only[Blk.vals]at q;simpa using q)⟩;simp only[N5,C,j,zG,i,Option.map_some]
     .cases d
    .cases d
  obtain⟨u,j,i⟩:=J;exact⟨u::x,by simp only[JK,j,Q], .cons i T⟩
theorem RV {d:List Value}(h:F2 (VRel c) vs d):VRel c (Ux vs) (A7 d):=by
 cases h with
 |nil=>exact .tup .nil
 |cons b a=>
  cases a with
  |nil=>exact b
  |cons a e=>exact .tup (by simpa using F2.cons b (F2.cons a e))
theorem Ja {as:List Value}(h:F2 (VRel c) vs as):ar c vs (cj.of as):=by
 intro t
 have e: ∀(l:List VV) (i:Nat),mv l i=(l[i]?).getD .undef:=by
  intro l;induction l with
  |nil=>intro i;simp[mv]
  |cons a l j=>intro i;cases i with
   |zero=>simp[mv]
   |succ i=>simp[mv,j]
 rw[e];unfold cj.of;cases g:vs[t]? with
 |none=>exact .undef _
 |some v=>
  obtain⟨a,b,d⟩:=h.get t v g;rw[b];exact d
theorem an4 {P:Program}{tab:Tab}{run:FN (yk.shs ⟨vals,[],objs⟩)->Option (yn outs)}(ht:gp P tab.fs)(hi:aa P tab.is)
  (he: ∀t o,run t=O o->Kt P f tab vals objs outs at' t=O o):dv P ⟨f,vals,objs,outs,run⟩:=by
 intro B μ Z w g cargs K hs M;obtain⟨c,W,C,t,o,p,v,fs,bs,S',h1,hR,hf,a,hl,h,z,A,hp,d,hS,hK⟩:=hs;subst h1;have b:=he t o A;unfold Kt at b;split at b
 .rename_i n vs fs0 S0 U r;obtain⟨hg,b⟩:=ap b;refine ae4 U (bi tab) (CL ht hi) B μ c.Z w g cargs K ?_ M;have T:Uu (yk.shs ⟨vals,[],objs⟩) t=C.ls:=Hx hl;rw[T]at r;obtain⟨L,s⟩:=enter hR rfl a r hf;have u:g.length<=n.ntmps:=by rw[<-s.length];exact aB hg
  refine⟨u, ?_⟩;obtain⟨l1,l2⟩:=L.len;have j:=sO n.body at' (c:=qV c C S0) L.rel (Ja s) b;refine fg (bi tab) n.body _ _ (λx ea Z' hx=> ?_) _ _ j;obtain⟨e',D,h2,h3,X,h5,I⟩:=hx;subst h2
  have q:(match JL e' D.S n.results with
    |some rs=>Al D.S S0.length (xz objs 0) (λ_=>[Ux rs]) (λ_=>Za) outs
    |none=>Y)=O o->(match JK ea D.Z n.results with
    |some vs=>K (A7 vs) D.Z
    |none=>False):=by
   intro J;split at J
   .rename_i rs Q;obtain⟨us,h8,h9⟩:=Mp X h5 Q;rw[h8];simp only;obtain⟨p',E,_,q3⟩:=Hi J;simp only at hp;rw[hp]at E;injection E with E
    subst E;obtain⟨N,st',q4,q5⟩:=Km q3;obtain⟨F,_⟩:=uc a;have y:=ua F;rw[List.nil_append]at y;simp only at d hS h z;rw[q5]at d
    have l: ∀(i:Nat) (o:OSk) (x:Src),objs[i]?=O o->o.ro=Za->C.m[i]?=O (O x)->x.k∈C.lent:=by
     intro i o x g1 g2 g3;unfold rL at a;obtain⟨st1,d1,a⟩:=ag a;obtain⟨st2,d2,a⟩:=ag a;obtain⟨e,d3,a⟩:=ag a
     have:e=C:=by
      cases hb:(HZ ([]++sY e.m)&&EN ([]++po (FSum.ins ⟨f,vals,objs,outs,run⟩).free e.m) e.lent)with
      |false=>rw[hb]at a;cases a
      |true=>rw[hb]at a;injection a
     subst this;exact RG d3 i o x g1 g2 (by rw[aD];exact g3)
    obtain⟨ct,r1,r2,r3,r4,V,r6⟩:=N6 hR rfl L h3 X h z y l N (by rw[<-l1];exact q4) d (.cons (RV h9) .nil) hS;cases V with
    |cons V _=>exact hK _ _ ⟨ct,r1,r2,r3,r4,V,r6⟩
   .cases J
  cases x with
  |exit i=>cases I
  |normal=>exact q I
  |ret=>exact q I
 .cases b
theorem P8 {P:Program}{run:FN (yk.shs ⟨vals,[],objs⟩)->Option (yn outs)}(d:gp P tab)(b:aa P ins)
  (a: ∀t,Kt P f ⟨tab,ins⟩ vals objs outs at' t=run t):dv P ⟨f,vals,objs,outs,run⟩:=an4 (tab:=⟨tab,ins⟩) d b λt o h=>(a t).trans h
theorem an3 {P:Program}{run:FN (yk.shs ⟨vals,[],objs⟩)->Option (yn outs)}(b:gp P tab)
  (a: ∀t,Kt P f ⟨tab,[]⟩ vals objs outs at' t=run t):dv P ⟨f,vals,objs,outs,run⟩:=P8 b (aa.nil P) a
theorem am {P:Program}(V:gp P tab)(N:aa P ins):QI P ⟨f,bq P f ⟨tab,ins⟩ at'⟩:=by
 intro B μ Z w b cargs K U n;obtain⟨β,y,c,vals,k,A,L,t,a,J⟩:=U;subst A;simp only[bq]at a;split at a
 .rename_i e p;obtain⟨M,a⟩:=ap a;refine ae4 p (bi ⟨tab,ins⟩) (CL (tab:=⟨tab,ins⟩) V N) B μ c.Z w b cargs K ?_ n;have j:b.length<=e.ntmps:=by rw[<-t.length];exact aB M
  refine⟨j, ?_⟩;have d:=sO e.body at' (c:=c) L (Ja t) a;refine fg (bi ⟨tab,ins⟩) e.body _ _ (λx z Z' W=> ?_) _ _ d;obtain⟨u,g,C,D,s,E,l⟩:=W;subst C
  have h:(match JL u g.S e.results with
    |some r=>k (Ux r) g.S
    |none=>Y)=O y->(match JK z g.Z e.results with
    |some vs=>K (A7 vs) g.Z
    |none=>False):=by
   intro m;split at m
   .rename_i r o;obtain⟨X,F,I⟩:=Mp s E o;rw[F];exact J _ _ ⟨Ux r,g,rfl,D,s,λq T Q=>(Q (EF T)).elim,RV I,m⟩
   .cases m
  cases x with
  |exit i=>cases l
  |normal=>exact h l
  |ret=>exact h l
 .cases a
def Is :List Alt:=[⟨.ret,[],⟨[.leaf .bool],[],[]⟩⟩]
def An (Z:Hp):Ctx:=⟨λ_=>Y,[],Z,λ_=>False⟩
theorem Vk {Z:Hp}(h:Z.Ok):Rel (An Z):=
 ⟨h,λk i b g _ _ _=>(by cases g),λk d a=>(by cases a),λk b a=>(a rfl).elim,λb e=>e.elim⟩
theorem NE {Z:Hp}(b:Nat): ¬(An Z).mut b:=by
 rintro(⟨k,h,_⟩|h)
 .cases h
 .exact h
theorem ag1 {P:Program}{run:FN (yk.shs ⟨vals,[],[]⟩)->Option (yn Is)}(h:dv P ⟨f,vals,[],Is,run⟩)(q:XD P w){args:List Value}{st:DSt}{t:FN (yk.shs ⟨vals,[],[]⟩)}
  (j: ∀r∈rows,∀(i:Nat) (v:Value),r.cells[i]?=O v->∃v',w.cell? ⟨r.c,r.o+i,Y⟩=O v'/\VR (sQ rows) v v') (g:F2 (VR (sQ rows)) args cargs.toList)
  (x:F2 (VRel (An (uQ w.heap.size rows))) vs args) (a:rL [] 0 [] ⟨vals,[],[]⟩ vs=O st) (s:R9 _ st.ls=O t) (u:run t=O Za) (y:EQ f=Zb:=by rfl):
  Calls P f cargs w λe w'=>e= .returned (.bool Za)/\Go.RowKit.Below w.heap.size w w':=by
 have n:st.m=[]:=by
  unfold rL at a;obtain⟨z,B,a⟩:=ag a;obtain⟨p,C,a⟩:=ag a;obtain⟨b,d,a⟩:=ag a
  have:b=st:=by
   cases k:(HZ ([]++sY b.m)&&EN ([]++po ([]:List OSk) b.m) b.lent)with
   |false=>rw[k]at a;cases a
   |true=>rw[k]at a;injection a
  subst this;simp only[xu]at d;cases k:Nat.beq 0 p.m.length with
  |false=>rw[k]at d;cases d
  |true=>
   rw[k]at d;injection d with d
   subst d;exact List.length_eq_zero_iff.1 (Nat.eq_of_beq_eq_true k).symm
 refine aN8 (S:=(FSum.mk f vals [] Is run).spec) h q j g ?_ y;refine⟨An (uQ w.heap.size rows),vs,st,t,Za,⟨⟨.ret,[],⟨[.leaf .bool],[],[]⟩⟩,Za⟩, .bool Za,[],[],cond (Fm [.bool Za] [] []) (Ft st.lent []) [],rfl,Vk aD8,x,a,s,by rw[n];rfl,by rw[n];rfl,u,rfl,rfl,by rw[n];rfl, ?_⟩;rintro r Z' ⟨A,_,_,_,_,l,_⟩;exact l.bool_inv
end
section
def NX :cu->List Nat->List VV->cu
 |e,d::a,v::vs=>NX (ui e d v) a vs
 |e,_,_=>e
def Xw (P:Program)(f:FuncId)(tab:Tab)(a1 a2:AT):(β:Type)->List VV->ah->(VV->ah->Option β)->Option β:=λβ a S k=>
 match aR9 P f,a.reverse with
 |some s, .ptr q 0::e=>(match ad S q with
  | .cells _ Zb (.nilf::vals)=>gd (Nat.ble s.ntmps vals.length&&Nat.beq e.length s.params.length) (eval tab s.assign a1 β (NX (vals.take s.ntmps) s.params e.reverse) S λx g S1=>match x with
   | .normal=>(match ad S1 q with
    | .cells b Zb (.nilf::h)=>eval tab s.body a2 β g (i9 S1 q (.cells b Zb (.nilp::h))) λj _ S2=>match j with
     | .normal=>(match ad S2 q with
      | .cells d Zb (.nilp::i)=>k (.bool Za) (i9 S2 q (.cells d Zb (.nilf::i)))
      |_=>Y)
     |_=>Y
    |_=>Y)
   |_=>Y)
  |_=>Y)
 |_,_=>Y
theorem F2.cut {α β:Type}{r:α->β->Prop}: ∀{l l':List α} {m:List β},F2 r (l++l') m->∃a b,m=a++b/\F2 r l a/\F2 r l' b
 |[],l',m,h=>⟨[],m,rfl, .nil,h⟩
 |x::l,l',_, .cons h t=>by
  obtain⟨a,b,e,d,g⟩:=F2.cut t;subst e;exact⟨_::a,b,rfl, .cons h d,g⟩
theorem P5 {c:Ctx}: ∀{b:List Nat} {g:List VV} {as:List Value} {e:cu} {i:cj},ar c e i->F2 (VRel c) g as->ar c (NX e b g) (putAll i b as)
 |[],g,as,_,_,h,_=>by
  cases g<;>cases as<;>simpa[NX,putAll]using h
 |d::b,_,_,_,_,h, .nil=>by simpa[NX,putAll]using h
 |d::b,_,_,_,_,h, .cons a t=>by
  simp only[NX,putAll];exact P5 (h.put a) t
def flW (b:Bool):VV:=cond b .nilf .nilp
theorem aw7 (b:Bool):VRel c (flW b) (Kv b):=by cases b<;>first|exact .nilf|exact .nilp
theorem Nw (o:Rel c){q:Nat}{fl:Bool}{v:List VV}(i:ad c.S q= .cells es Zb (flW fl::v)):
  ∃(b:Nat) (y:Ab.Blk) (cs rest:List Value),c.μ q=O b/\c.Z.m b=O y/\y.es=es/\y.own=Za/\y.cells=Kv fl::(cs++rest)/\F2 (VRel c) v cs:=by
 obtain⟨_,h⟩:=o.blk q (es,(flW fl::v).length) (by rw[i];rfl);rcases h with⟨h,_⟩|⟨b,y,cs,rest,j,k,l,e,n,g⟩
 .cases h
 .rw[i]at e g;cases g with
  | @cons _ a _ d p r=>
   have:a=Kv fl:=by cases fl<;>cases p<;>rfl
   subst this;exact⟨b,y,d,rest,j,k,l,e rfl,n,r⟩
theorem Lq {q b:Nat}{fl fl':Bool}{v:List VV}{y:Ab.Blk}{cs rest:List Value}(a:ad c.S q= .cells es Zb (flW fl::v))(h:c.μ q=O b)(i:c.Z.m b=O y)(e:y.es=es)(d:y.cells=Kv fl::(cs++rest))(g:F2 (VRel c) v cs):
  Writes c q b (.cells es Zb (flW fl'::v)) ⟨Kv fl'::(cs++rest),Za,y.es⟩:=
 ⟨by rw[a];rfl,h,by rw[a];rfl,rfl,y,Kv fl'::cs,rest,(es,(flW fl::v).length),i,by rw[a];rfl,e,rfl,by rw[d];rfl,rfl, .cons (aw7 _) g⟩
theorem UF {P:Program}{a1 a2:AT}(ht:gp P tab)(W:aa P ins):QI P ⟨UE f,Xw P f ⟨tab,ins⟩ a1 a2⟩:=by
 intro B μ Z w args cargs K hs N;obtain⟨β,y,c,vals,k,h1,hR,hf,a,hK⟩:=hs;subst h1;simp only[Xw]at a;split at a
 case h_2=>cases a
 rename_i s q xs hyl D;have m:vals=xs.reverse++[.ptr q 0]:=by rw[<-List.reverse_reverse vals,D];simp
 subst m;split at a
 case h_2=>cases a
 rename_i es v0 hq;obtain⟨V,a⟩:=ap a;rw[Bool.and_eq_true]at V;have g1:=Nat.le_of_ble_eq_true V.1;have g2:=Nat.eq_of_beq_eq_true V.2;obtain⟨b,y0,t,j,m1,m2,m3,m4,m5,m6⟩:=Nw (fl:=Za) hR hq;obtain⟨as,al,rfl,A,U⟩:=F2.cut hf
 have Q:al=[.pointer (O ⟨b,0,Y⟩)]:=by
  cases U with
  |cons r1 r2=>
   cases r2;cases r1 with
   |ptr _ _ hd=>
    obtain⟨b',F,rfl⟩:=hd (es,(VV.nilf::v0).length) (by rw[hq];rfl);rw[m1]at F;injection F with F
    subst F;rfl
 subst Q;have T:v0.length=t.length:=m6.length;refine ba3 hyl (bi ⟨tab,ins⟩) (CL (tab:=⟨tab,ins⟩) ht W) B μ c.Z w _ cargs K ?_ N;refine⟨as,b,y0,t++j,rfl,m2,m4,m5,by rw[List.length_append,<-T];omega,by rw[<-A.length];simpa using g2, ?_⟩;have M:(t++j).take s.ntmps=t.take s.ntmps:=List.take_append_of_le_length (by omega);rw[M];have he:ar c (NX (v0.take s.ntmps) s.params xs.reverse) (putAll (cj.of (t.take s.ntmps)) s.params as):=P5 (Ja (m6.take s.ntmps)) A;refine fg (bi ⟨tab,ins⟩) s.assign _ _ (λx ea Z' hx=> ?_) _ _ (sO s.assign a1 (c:=c) hR he a);obtain⟨e1,o,rfl,l1,R1,E1,p⟩:=hx;cases x with
 |exit i=>cases p
 |ret=>cases p
 |normal=>
  dsimp only at p;split at p
  case h_2=>cases p
  rename_i z v1 g;have X:q<c.S.length:=py (by rw[hq];simp[Blk.dim]);have d:o.μ q=O b:=((l1.al q _ X (by rw[g];rfl)).2).trans m1;obtain⟨b1,y1,u,e,I,p2,p3,p4,p5,p6⟩:=Nw (fl:=Za) R1 g;rw[d]at I;injection I with I
  subst I;have hw:=Lq (fl:=Za) (fl':=Zb) g d p2 p3 p5 p6;refine⟨rfl,y1,u++e,p2,p4,p5, ?_⟩;refine fg (bi ⟨tab,ins⟩) s.body _ _ (λx ea Z' hx=> ?_) _ _ (sO s.body a2 (c:=⟨o.μ,i9 o.S q (.cells z Zb (.nilp::v1)),o.Z.set b (O ⟨Kv Zb::(u++e),Za,y1.es⟩),o.fb⟩) (hw.rel R1) (E1.frame (hw.le R1)) p);obtain⟨e2,c2,rfl,l2,R2,E2,r⟩:=hx;cases x with
  |exit i=>cases r
  |ret=>cases r
  |normal=>
   dsimp only at r;split at r
   case h_2=>cases r
   rename_i es2 v2 l;have C:q<(i9 o.S q (.cells z Zb (.nilp::v1))).length:=by rw[B0];exact py (by rw[g];simp[Blk.dim])
   have h:c2.μ q=O b:=((l2.al q _ C (by rw[l];rfl)).2).trans d;obtain⟨b2,y2,L,n,J,q2,q3,q4,q5,q6⟩:=Nw (fl:=Zb) R2 l;rw[h]at J;injection J with J
   subst J;have E:=Lq (fl:=Zb) (fl':=Za) l h q2 q3 q5 q6;refine⟨rfl,y2,L++n,q2,q4,q5, ?_⟩;exact hK _ _ ⟨.bool Za,_,rfl,((l1.trans (hw.le R1)).trans l2).trans (E.le R2),E.rel R2,λi W hn=>(hn (EF W)).elim, .bool Za,r⟩
end
section
theorem Yk {α γ:Type}{f:α->Option (α⊕γ)}(I:α->Prop)(m:α->Nat)(Q:γ->Prop)(h: ∀a,I a->(∃b,f a=O (.inl b)/\I b/\m b<m a)∨∃c,f a=O (.inr c)/\Q c): ∀(n:Nat) (a:α),I a->m a<n->∃c,aw f n a=O c/\Q c:=by
 intro n;induction n with
 |zero=>intro a _ d;omega
 |succ n k=>
  intro a j o;rcases h a j with⟨b,d,e,l⟩|⟨c,d,e⟩
  .obtain⟨c,g,i⟩:=k b e (by omega);exact⟨c,by rw[da,d];exact g,i⟩
  .exact⟨c,by rw[da,d];rfl,e⟩
theorem xD {α γ:Type}{f:α->Option (α⊕γ)}{a:α}(I:α->Prop)(m:α->Nat)(Q:γ->Prop)(d:I a)(e:m a<18446744073709551616)(h: ∀a,I a->(∃b,f a=O (.inl b)/\I b/\m b<m a)∨∃c,f a=O (.inr c)/\Q c): ∃c,aw f gv a=O c/\Q c:=
 Yk I m Q h gv a d e
theorem WT {α γ:Type}{f:α->Option (α⊕γ)}{a:α}{c:γ}(I:α->Prop)(m:α->Nat)(d:I a)(j:m a<18446744073709551616)(h: ∀a,I a->(∃b,f a=O (.inl b)/\I b/\m b<m a)∨f a=O (.inr c)):aw f gv a=O c:=by
 obtain⟨k,e,g⟩:=xD I m (· =c) d j λa i=>by
  rcases h a i with h|h
  .exact .inl h
  .exact .inr ⟨c,h,rfl⟩
 rw[e,g]
theorem ak {α:Type}{p:Prop}[Decidable p]{x y:α}:cond (decide p) x y=if p then x else y:=by by_cases h:p<;>simp[h]
theorem dh {β:Type}{x:Option β}:gd Za x=x:=rfl
theorem aM7 {β:Type}{p:Prop}[Decidable p]{x:Option β}(h:p):gd (decide p) x=x:=by rw[zB h];rfl
theorem de {β:Type}{n b:Nat}{x:Option β}(h:n*b<=140737488355328)(a:1<=b):gd (lz n b) x=x:=by
 have:lz n b=Za:=by
  unfold lz;rw[zB h,Bool.true_and];exact Nat.ble_eq_true_of_le a
 rw[this];rfl
theorem dn {α:Type}{l:List α}{i:Nat}(h:i<l.length):rd l (i:Int)=O l[i]:=by
 unfold rd;rw[Zf,zC,Int.toNat_natCast,List.getElem?_eq_getElem h]
theorem ae {n:Int}(h: -9223372036854775808<=n/\n<=9223372036854775807):IntKind.i64.wrap n=n:=IntWalk.i64_in _ h
theorem Zi {n:Int}(h: -9223372036854775808<=n/\n<=9223372036854775807:=by omega):IntKind.i64.wrap n=n:=ae h
theorem qx {α γ β:Type}{a:α}{f:α->Option β}{g:γ->Option β}:bz (.inl a) f g=f a:=rfl
theorem cv {α γ β:Type}{a:γ}{f:α->Option β}{g:γ->Option β}:bz (.inr a) f g=g a:=rfl
end
section
def Gs (a:AFn)(tab:Tab)(vals:List Sk)(objs:List OSk)(outs:List Alt)(at':AT)(t:FN (yk.shs ⟨vals,[],objs⟩)):Option (yn outs):=
 match ud id ⟨vals,[],objs⟩ (Uu _ t)with
 |some (vs,_,S)=>gd (Nat.ble vs.length a.ntmps) (eval tab a.body at' (yn outs) vs S λx e S'=>match x with
  | .exit _=>Y
  |_=>(match JL e S' a.results with
   |some b=>Al S' S.length (xz objs 0) (λ_=>[Ux b]) (λ_=>Za) outs
   |none=>Y))
 |_=>Y
theorem Pb {P:Program}{n:AFn}{tab:Tab}{run:FN (yk.shs ⟨vals,[],objs⟩)->Option (yn outs)}(ht:gp P tab.fs)(hi:aa P tab.is)(htr:Y5 P f=O n)(A: ∀t:FN (yk.shs ⟨vals,[],objs⟩),∃r,ud id ⟨vals,[],objs⟩ (Uu _ t)=O r)
  (he: ∀t o vs fs S,run t=O o->ud id ⟨vals,[],objs⟩ (Uu _ t)=O (vs,fs,S)->∀(c:Ctx) args,F2 (VRel c) vs args->
   ∃b,Gs ⟨n.ntmps,n.results,b⟩ tab vals objs outs at' t=O o/\∀T (_:w8 T) Q Z,yd T b Q (cj.of args) Z->yd T n.body Q (cj.of args) Z):dv P ⟨f,vals,objs,outs,run⟩:=by
 intro B μ Z w args cargs K hs hR0;obtain⟨c,vals',J,t,o,p,v,fs,bs,S',h1,hR,hf,a,hl,j,F,I,hp,d,hS,hK⟩:=hs;subst h1;have htl:Uu (yk.shs ⟨vals,[],objs⟩) t=J.ls:=Hx hl;cases g:ud id ⟨vals,[],objs⟩ (Uu (yk.shs ⟨vals,[],objs⟩) t)with
 |none=>
  obtain⟨r,q⟩:=A t;rw[g]at q;cases q
 |some tr=>
 obtain⟨vs,U,S0⟩:=tr;refine ae4 htr (bi tab) (CL ht hi) B μ c.Z w args cargs K ?_ hR0;have l:=g;rw[htl]at g;obtain⟨X,u⟩:=enter hR rfl a g hf;obtain⟨bd,e,C⟩:=he t o vs U S0 I l _ _ u;unfold Gs at e;rw[l]at e;obtain⟨hg,e⟩:=ap e;have D:args.length<=n.ntmps:=by rw[<-u.length];exact Nat.le_of_ble_eq_true hg
 refine⟨D,C _ (bi tab) _ _ ?_⟩;obtain⟨l1,l2⟩:=X.len;have s:=sO bd at' (c:=qV c J S0) X.rel (Ja u) e;refine fg (bi tab) bd _ _ (λx ea Z' hx=> ?_) _ _ s;obtain⟨e',L,h2,h3,h4,h5,V⟩:=hx;subst h2
 have z:(match JL e' L.S n.results with
   |some rs=>Al L.S S0.length (xz objs 0) (λ_=>[Ux rs]) (λ_=>Za) outs
   |none=>Y)=O o->(match JK ea L.Z n.results with
   |some vs=>K (A7 vs) L.Z
   |none=>False):=by
  intro W;split at W
  .rename_i rs hrs;obtain⟨us,h8,h9⟩:=Mp h4 h5 hrs;rw[h8];simp only;obtain⟨p',M,_,q3⟩:=Hi W;simp only at hp;rw[hp]at M;injection M with M
   subst M;obtain⟨hro,st',q4,q5⟩:=Km q3;obtain⟨N,_⟩:=uc a;have E:=ua N;rw[List.nil_append]at E;simp only at d hS j F;rw[q5]at d
   have y: ∀(i:Nat) (o:OSk) (x:Src),objs[i]?=O o->o.ro=Za->J.m[i]?=O (O x)->x.k∈J.lent:=by
    intro i o x g1 g2 g3;unfold rL at a;obtain⟨st1,d1,a⟩:=ag a;obtain⟨st2,d2,a⟩:=ag a;obtain⟨h,d3,a⟩:=ag a
    have:h=J:=by
     cases hb:(HZ ([]++sY h.m)&&EN ([]++po (FSum.ins ⟨f,vals,objs,outs,run⟩).free h.m) h.lent)with
     |false=>rw[hb]at a;cases a
     |true=>rw[hb]at a;injection a
    subst this;exact RG d3 i o x g1 g2 (by rw[Nat.zero_add];exact g3)
   obtain⟨ct,r1,r2,r3,r4,r5,r6⟩:=N6 hR rfl X h3 h4 j F E y hro (by rw[<-l1];exact q4) d (.cons (RV h9) .nil) hS;cases r5 with
   |cons r5 _=>exact hK _ _ ⟨ct,r1,r2,r3,r4,r5,r6⟩
  .cases W
 cases x with
 |exit i=>cases V
 |normal=>exact z V
 |ret=>exact z V
def U6 (es bytes:Nat)(z:List Value)(c:AOp)(n:AOp):AC:=
 .seq (.region [⟨O 2, .move (.const (.slice Y 0 0)),Y⟩]) (.seq (.seq (.region [⟨O 3, .move (.tmp 0),Y⟩,⟨O 4,c,Y⟩]) (.cond (.tmp 4) (.seq (.region [⟨O 2,n,Y⟩]) .ret) .skip))
  (.seq (.region [⟨O 5, .buildSlice es 0 z [],Y⟩,⟨O 6, .move (.tmp 0),Y⟩,⟨O 7, .append es bytes (.tmp 5) (.tmp 6),Y⟩,⟨O 2, .move (.tmp 7),Y⟩]) .ret))
def Q0 (es bytes:Nat)(z:List Value):AFn:=⟨8,[.tmp 2],U6 es bytes z (.eqv 2 Zb (.tmp 3) (.const (.slice Y 0 0))) (.move (.const (.slice Y 0 0)))⟩
def au6 (es bytes:Nat)(z:List Value):AFn:=⟨8,[.tmp 2],U6 es bytes z (.move (.const (.bool Zb))) (.move (.const (.slice Y 0 0)))⟩
def ad1 (es bytes:Nat)(z:List Value):AFn:=⟨8,[.tmp 2],U6 es bytes z (.move (.const (.bool Za))) (.append es bytes (.const (.slice Y 0 0)) (.tmp 0))⟩
def BO (s:Sh):List Alt:=[⟨.ret,[],⟨[.full 0],[],[.arr Zb s]⟩⟩]
theorem Gn {P:Program}{bytes:Nat}{z:List Value}{s:Sh}(j:Y5 P f=O (Q0 es bytes z))
  (m: ∀t:FN (yk.shs ⟨[.leaf (.list s)],[],[]⟩),ud id ⟨[.leaf (.list s)],[],[]⟩ (Uu _ t)=O ([.lst s t],[],[]))
  (r: ∀l:List (El s),Gs (au6 es bytes z) ⟨[],[]⟩ [.leaf (.list s)] [] (BO s) .no l=gd (lz (0+l.length) bytes) (O l))
  (u:Gs (ad1 es bytes z) ⟨[],[]⟩ [.leaf (.list s)] [] (BO s) .no ([]:List (El s))=gd (lz (0+0) bytes) (O ([]:List (El s)))):
  dv P ⟨f,[.leaf (.list s)],[],BO s,λl:List (El s)=>gd (lz (0+l.length) bytes) (O l)⟩:=by
 refine Pb (at':= .no) (tab:=⟨[],[]⟩) (gp.nil P) (aa.nil P) j (λt=>⟨_,m t⟩) λt o vs B S e d c a i=> ?_
 have k:vs=[.lst s t]:=by
  rw[m t]at d;injection d with d
  injection d with d
  exact d.symm
 subst k;cases i with
 |cons i A=>
 cases A
 have no: ∀q n g (a:List Value),a=[.slice (O q) n g]->∃b,Gs ⟨(Q0 es bytes z).ntmps,(Q0 es bytes z).results,b⟩ ⟨[],[]⟩ [.leaf (.list s)] [] (BO s) .no t=O o/\
   ∀T (_:w8 T) Q Z,yd T b Q (cj.of a) Z->yd T (Q0 es bytes z).body Q (cj.of a) Z:=by
  rintro q n g a rfl;exact⟨_,(r t).trans e,λT _ Q Z h=>h⟩
 cases i with
 | @lst s l b p n g y x C D E F I J=>exact no _ _ _ _ rfl
 | @lstn s q x=>
  cases q with
  |some q=>exact no _ _ _ _ rfl
  |none=>exact⟨_,u.trans e,λT _ Q Z h=>h⟩
end
section
theorem IG {P:Program}{run:FN (yk.shs ⟨vals,[],objs⟩)->Option (yn outs)}(h: ∀t,run t=Y):dv P ⟨f,vals,objs,outs,run⟩:=by
 intro B μ Z w d cargs K i;obtain⟨c,b,s,t,o,p,v,k,j,S',l,m,q,n,r,e,g,a,_⟩:=i;have a:run t=O o:=a;rw[h t]at a;cases a
end
open Go.Ab Go.ChangeShapes Go.WideShapes
section
theorem Yi {P:Program}{run:FN (yk.shs ⟨vals,[],[]⟩)->Option (yn Is)}(h:dv P ⟨f,vals,[],Is,run⟩)(j:XD P w){args:List Value}(t:FN (yk.shs ⟨vals,[],[]⟩))
  (b: ∀r∈rows,∀(i:Nat) (v:Value),r.cells[i]?=O v->∃v',w.cell? ⟨r.c,r.o+i,Y⟩=O v'/\VR (sQ rows) v v') (a:F2 (VR (sQ rows)) args cargs.toList)
  (m:F2 (VRel (An (uQ w.heap.size rows))) vs args) (k:((rL [] 0 [] ⟨vals,[],[]⟩ vs).bind λst=>R9 _ st.ls)=O t) (l:run t=O Za) (n:EQ f=Zb:=by rfl):
  Calls P f cargs w λe w'=>e= .returned (.bool Za)/\Go.RowKit.Below w.heap.size w w':=by
 obtain⟨st,d,g⟩:=ag k;exact ag1 h j b a m d g l n
end
section
theorem It {α δ:Type}{f:α->Option (α⊕δ)}{n:Nat}(F:Nat->α){c:δ}(l:n<9223372036854775808)(h: ∀i,i<n->f (F i)=O (.inl (F (i+1))))(g:f (F n)=O (.inr c)):aw f gv (F 0)=O c:=by
 have a: ∀k i m,i+k=n->k<m->aw f m (F i)=O c:=by
  intro k;induction k with
  |zero=>
   intro i m d e;obtain⟨m,rfl⟩: ∃b,m=b+1:=⟨m-1,by omega⟩
   have:i=n:=by omega
   subst this;show(f (F i)).bind _=_;rw[g];rfl
  |succ k j=>
   intro i m d e;obtain⟨m,rfl⟩: ∃b,m=b+1:=⟨m-1,by omega⟩
   show(f (F i)).bind _=_;rw[h i (by omega)];exact j (i+1) m (by omega) (by omega)
 exact a n 0 gv (by omega) (by unfold gv;omega)
theorem pi {γ δ:Type}{f:(Int×γ)->Option ((Int×γ)⊕δ)}{n:Nat}(F:Nat->γ){c:δ}(b:n<9223372036854775808)(d: ∀i,i<n->f ((i:Int),F i)=O (.inl (((i+1:Nat):Int),F (i+1))))(a:f ((n:Int),F n)=O (.inr c)):aw f gv (0,F 0)=O c:=
 It (λi=>((i:Int),F i)) b d a
theorem yr {δ:Type}{f:Int->Option (Int⊕δ)}{n:Nat}{c:δ}(b:n<9223372036854775808)(d: ∀i:Nat,i<n->f (i:Int)=O (.inl ((i+1:Nat):Int)))(a:f (n:Int)=O (.inr c)):aw f gv 0=O c:=
 It (λi=>(i:Int)) b d a
theorem ba2 (n:Int):IntKind.u64.wrap n=n % 18446744073709551616:=by rfl
theorem io {n:Int}(h:0<=n/\n<18446744073709551616):IntKind.u64.wrap n=n:=by
 rw[ba2];omega
theorem Zj {n:Int}(h:0<=n/\n<18446744073709551616:=by omega):IntKind.u64.wrap n=n:=io h
theorem bm {k n:Nat}(h:k<n):ix (k:Int) n=O k:=by
 unfold ix;rw[zB (show(0:Int)<=k by omega),zB (show(k:Int)<n by omega)];rfl
theorem ng {a b:Int}{n:Nat}(h:0<=a/\a<=b/\b<=n):jk a b n=Za:=by
 unfold jk;rw[zB h.1,zB h.2.1,zB h.2.2];rfl
theorem Zk {a b:Int}{n:Nat}(h:0<=a/\a<=b/\b<=n:=by omega):jk a b n=Za:=ng h
theorem Xs {a b:Int}(h:0<=a):Int.tdiv a b=a / b:=Int.tdiv_eq_ediv_of_nonneg h
end
section
open List renaming append_nil -> aD, append_assoc -> bB, getElem?_eq_getElem -> bD, getElem?_append_left -> cD, length_append -> dB, drop_zero -> dD, getElem?_append_right -> eD, length_cons -> iB, length_take -> iC, take_of_length_le -> iD
open Nat renaming beq -> aB, eq_of_beq_eq_true -> cB, le_refl -> fB, not_lt_zero -> fD, zero_add -> gD, zero_mul -> iA, eq_zero_or_pos -> iE
open Option renaming map_some -> iF
def fh (w:World):(s:Sh)->List Value->El s->Prop
 | .int k,d,n=>d=[.int k n]/\(Lit.int k n).wf=Za
 | .bool,d,b=>d=[.bool b]
 | .str,d,l=> ∃s:ByteArray,d=[.string s]/\au s=l/\s.size<=maxLen
 | .list s,d,l=>(d=[.slice Y 0 0]/\l=[])∨∃(a:Addr) (g e:Nat) (h:List (El s)),d=[.slice (O a) g e]/\g<=e/\e<=maxLen/\h.length=e/\l=h.take g/\
   ∀i y,h[i]?=O y->∃p,(∀j z,p[j]?=O z->w.cell? (a.add (i*s.w+j))=O z)/\fh w s p y
 | .pair a b,d,x=> ∃m o,d=m++o/\fh w a m x.1/\fh w b o x.2
theorem fh.len : ∀{s:Sh} {cs:List Value} {x:El s},fh w s cs x->cs.length=s.w
 | .int k,_,_,⟨h,_⟩=>by subst h;rfl
 | .bool,_,_,h=>by
  have h:_=[Value.bool _]:=h;subst h;rfl
 | .str,_,_,⟨s,h,_⟩=>by subst h;rfl
 | .list s,_,_,h=>by
  rcases h with⟨h,_⟩|⟨a,len,d,l,h,_⟩<;>subst h<;>rfl
 | .pair a b,_,_,⟨i,j,h,e,g⟩=>by
  subst h;rw[dB,e.len,g.len];rfl
def BH (w:World)(rows:List Row):Prop:= ∀r∈rows,∀(i:Nat) (v:Value),r.cells[i]?=O v->∃a,w.cell? ⟨r.c,r.o+i,Y⟩=O a/\VR (sQ rows) v a
theorem RH (rows more:List Row):(sQ rows).le (sQ (rows++more)):=by
 intro b g h;simp only[sQ]at h⊢;cases a:rows[b]? with
 |none=>rw[a]at h;cases h
 |some r=>
  rw[a]at h;obtain⟨d,e⟩:=List.getElem?_eq_some_iff.1 a;rw[cD d,a];exact h
theorem Xh (a:Nat)(rows more:List Row):Le (An (uQ a rows)) (An (uQ a (rows++more))):=by
 have j: ∀k,ad ([]:ah) k= .dead:=λk=>by cases k<;>rfl
 refine⟨fB _,λk d h=>(fD _ h).elim,λk _ h=> ?_,λk d b y h=>(fD _ h).elim,λb y h _=> ?_,λb y _ _ h=>(NE b (.inl h)).elim, ?_,rfl⟩
 .rfl
 .simp only[An,uQ]at h⊢;cases e:rows[b]? with
  |none=>rw[e]at h;cases h
  |some r=>
   rw[e]at h;obtain⟨g,i⟩:=List.getElem?_eq_some_iff.1 e;rw[cD g,e];exact h
 .show rows.length<=(rows++more).length;rw[dB];omega
theorem aa4 {μ a:Mu}(h:μ.le a){l m:List Value}(b:F2 (VR μ) l m):F2 (VR a) l m:=b.imp λ_ _ d=>d.mono h
theorem BH.app {more:List Row}(h:BH w rows)(e: ∀r∈more,∀(i:Nat) (v:Value),r.cells[i]?=O v->∃v',w.cell? ⟨r.c,r.o+i,Y⟩=O v'/\VR (sQ (rows++more)) v v'):BH w (rows++more):=by
 intro r hr i v a;rcases List.mem_append.1 hr with hr|hr
 .obtain⟨v',b,d⟩:=h r hr i v a;exact⟨v',b,d.mono (RH _ _)⟩
 .exact e r hr i v a
theorem at6 (a:Addr)(i j:Nat):(a.add i).add j=a.add (i+j):=by
 unfold Addr.add;by_cases d:j=0
 .subst d;simp
 .by_cases b:i=0
  .subst b;simp
  .simp[b,d,Nat.add_assoc]
structure Built (w:World)(rows more:List Row)(acs cs:List Value)(vs:List VV):Prop where
 ok:BH w (rows++more)
 vr:F2 (VR (sQ (rows++more))) acs cs
 vv:F2 (VRel (An (uQ w.heap.size (rows++more)))) vs acs
theorem Built.app {b e:List Row}{a1 a2 c1 c2:List Value}{g h:List VV}(d:Built w rows b a1 c1 g)(a:Built w (rows++b) e a2 c2 h):Built w rows (b++e) (a1++a2) (c1++c2) (g++h):=by
 refine⟨?_, ?_, ?_⟩
 .rw[<-bB];exact a.ok
 .rw[<-bB];exact(aa4 (RH _ _) d.vr).append a.vr
 .rw[<-bB];exact(VRel.frames (Xh _ _ _) d.vv).append a.vv
theorem Built.nil (h:BH w rows):Built w rows [] [] [] []:=⟨by rw[aD];exact h, .nil, .nil⟩
theorem ac4 {w:World}{s:Sh}(r: ∀{cs:List Value} {x:El s},fh w s cs x->∀{rows:List Row},BH w rows->∃more d,Built w rows more d cs (dx s x))(a:Addr): ∀(l:List (El s)) (k:Nat),
  (∀i y,l[i]?=O y->∃g,(∀j z,g[j]?=O z->w.cell? (a.add ((k+i)*s.w+j))=O z)/\fh w s g y)->∀{rows:List Row},BH w rows->
  ∃more d e,Built w rows more d e (gm s l)/\e.length=l.length*s.w/\∀i z,e[i]?=O z->w.cell? (a.add (k*s.w+i))=O z
 |[],k,_,rows,h=>⟨[],[],[], .nil h,by simp,λi z b=>by simp at b⟩
 |y::l,k,q,rows,h=>by
  obtain⟨g,B,m⟩:=q 0 y rfl;obtain⟨K,t,p⟩:=r m h
  obtain⟨L,u,A,C,D,E⟩:=ac4 r a l (k+1) (λi M n=>by
   obtain⟨o,F,I⟩:=q (i+1) M (by simpa using n)
   exact⟨o,λj z b=>by rw[show k+1+i=k+(i+1)by omega];exact F j z b,I⟩) p.ok
  refine⟨K++L,t++u,g++A, ?_, ?_,λi z b=> ?_⟩
  .have:=p.app C;rw[jd];exact this
  .rw[dB,D,m.len,iB,Nat.succ_mul];omega
  .have N:=m.len;by_cases J:i<g.length
   .rw[cD J]at b;have:=B i z b
    rwa [Nat.add_zero]at this
   .rw[eD (by omega)]at b;have:=E _ z b;rw[show(k+1)*s.w+(i-g.length)=k*s.w+i by rw[Nat.succ_mul];omega]at this;exact this
theorem build {w:World}: ∀(s:Sh) {cs:List Value} {x:El s},fh w s cs x->∀{rows:List Row},BH w rows->∃more U,Built w rows more U cs (dx s x)
 | .int k,_,n,⟨h,_⟩,rows,A=>by
  subst h;exact⟨[],_,by rw[aD];exact A, .cons (.int _ _) .nil, .cons (.int _ _) .nil⟩
 | .bool,_,b,h,rows,A=>by
  have h:_=[Value.bool _]:=h;subst h;exact⟨[],_,by rw[aD];exact A, .cons (.bool _) .nil, .cons (.bool _) .nil⟩
 | .str,_,l,⟨s,h,C,_⟩,rows,A=>by
  subst h;exact⟨[],_,by rw[aD];exact A, .cons (.string _) .nil, .cons (.str C) .nil⟩
 | .pair a b,_,x,⟨c1,c2,h,I,C⟩,rows,A=>by
  subst h;obtain⟨q,B,J⟩:=build a I A;obtain⟨m2,a2,h4⟩:=build b C J.ok;exact⟨q++m2,B++a2,J.app h4⟩
 | .list s,_,l,h,rows,A=>by
  rcases h with⟨h,C⟩|⟨a,j,d,T,h,E,hcm,hyl,V,hy⟩
  .subst h;subst C;exact⟨[],_,by rw[aD];exact A, .cons .nils .nil, .cons (.lstn λz Q=>by cases Q) .nil⟩
  .subst h;obtain⟨q,B,c1,I,C,J⟩:=ac4 (λu=>build s u) a T 0 (λi y h=>by rw[gD];exact hy i y h) A;have hw:=rR s;rw[hyl]at C;have K:B.length=d*s.w:=by rw[I.vr.length,C]
   let g:Row:=⟨a.block,a.off,d*s.w,s.w,B⟩
   have p:0<d->a.spot=Y/\a.block<w.heap.size:=by
    intro u;have F:0<c1.length:=by rw[C];exact Nat.mul_pos u hw
    have:=J 0 _ (bD F);rw[iA,Nat.add_zero]at this;have t:=YQ this;exact⟨t,au3 (x:=⟨a.block,a.off+0,Y⟩) (Nd t this)⟩
   have D: ∀(rs:List Row),(rows++(q++[g])++rs)[(rows++q).length]?=O g:=by
    intro rs;rw[<-bB,bB _ [g],eD (fB _),Nat.sub_self];rfl
   have N:(sQ (rows++(q++[g]))).at (rows++q).length ⟨a.block,a.off,d*s.w,s.w,0,Y⟩:=by
    have:=D [];rw[aD]at this;refine⟨?_,rfl⟩;simp only[sQ,this];rfl
   have W:BH w (rows++(q++[g])):=by
    rw[<-bB];refine I.ok.app λr X i v S=> ?_
    have:r=g:=by simpa using X
    subst this;obtain⟨v',q1,q2⟩:=I.vr.get i v S;have u:=J i v' q1;rw[iA,gD]at u
    have L:0<d:=by
     rcases iE d with e|e
     .have S:B[i]?=O v:=S;obtain⟨hi,_⟩:=List.getElem?_eq_some_iff.1 S;rw[K,e,iA]at hi;exact(fD _ hi).elim
     .exact e
    exact⟨v',Nd (p L).1 u,q2.mono (RH _ _)⟩
   refine⟨q++[g],[.slice (O ⟨(rows++q).length,0,Y⟩) j d],W, ?_, ?_⟩
   .refine .cons ?_ .nil;by_cases u:d=0
    .have:j=0:=by omega
     subst u;subst this;exact .slice0 _ N
    .have t:=(p (by omega)).1;obtain⟨b,o,sp⟩:=a;simp only at t;subst t;exact .slice (o:=0) N E (fB _) (by simp)
   .refine .cons ?_ .nil;by_cases u:d=0
    .have e:j=0:=by omega
     subst u;subst e;rw[V,List.take_zero];exact .lstn λz Q=>by injection Q with Q;rw[<-Q]
    .have F:=(p (by omega)).2
     have hm:(An (uQ w.heap.size (rows++(q++[g])))).Z.m (rows++q).length=O ⟨B,Zb,s.w⟩:=by
      have:=D [];rw[aD]at this;simp only[An,uQ,this,zG];exact zE F
     have M:l.length=j:=by rw[V,iC];omega
     refine .lst (NE _) hm rfl M.symm E ?_ ?_
     .show 0+j*s.w<=B.length;rw[K,gD];exact Nat.mul_le_mul_right _ E
     .show F2 _ _ ((B.drop 0).take (j*s.w));rw[dD,V]
      have h5:F2 (VRel (An (uQ w.heap.size (rows++(q++[g]))))) (gm s T) B:=by
       rw[<-bB];exact VRel.frames (Xh _ _ _) I.vv
      have h6:gm s (T.take j)=(gm s T).take (j*s.w):=ql;rw[h6];exact h5.take _
def Ch :List Sh->Sh
 |[]=> .bool
 |[a]=>a
 |a::b::r=> .pair a (Ch (b::r))
theorem Tq {w:World}: ∀{l1 d:List Sh} {c1 c2:List Value},l1≠[]->d≠[]->(∃x,fh w (Ch l1) c1 x)->(∃x,fh w (Ch d) c2 x)->∃x,fh w (Ch (l1++d)) (c1++c2) x
 |[a],b::r,c1,c2,_,_,⟨x,e⟩,⟨y,g⟩=>⟨(x,y),c1,c2,rfl,e,g⟩
 |a::b::r,d,c1,c2,_,m,⟨x,h,i,j,e,g⟩,k=>by
  subst j;obtain⟨z,l⟩:=Tq (l1:=b::r) (by simp) m ⟨x.2,g⟩ k;exact⟨(x.1,z),h,i++c2,by rw[bB],e,l⟩
def Jj {α:Type}(P:Program)(r:TypeId->Option (List Sh))(d:α->TypeId)(a:α->Nat):List α->Nat->Option (List Sh)
 |[],_=>O []
 |f::l,o=>cond (aB (a f) o) (match r (d f)with
  |some (s::b)=>cond (aB (s::b).length (P.cellsOf (d f))) ((Jj P r d a l (o+(s::b).length)).map ((s::b)++ ·)) Y
  |_=>Y) Y
def xA (P:Program):Nat->TypeId->Option (List Sh)
 |0,_=>Y
 |n+1,t=>match P.underlying t with
  |some (.int k)=>O [.int k]
  |some .bool=>O [.bool]
  |some .string=>O [.str]
  |some (.slice e)=>(match xA P n e with
   |some (s::a)=>cond (aB (s::a).length (P.cellsOf e)) (O [.list (Ch (s::a))]) Y
   |_=>Y)
  |some (.struct b)=>(match Jj P (xA P n) Field.type Field.offset b.toList 0 with
   |some L=>cond (aB L.length (P.cellsOf t)) (O L) Y
   |none=>Y)
  |some (.array m e)=>(match Jj P (xA P n) (λ_=>e) (λi=>i*P.cellsOf e) (List.range m) 0 with
   |some L=>cond (aB L.length (P.cellsOf t)) (O L) Y
   |none=>Y)
  |_=>Y
section
variable {H:Type} {enc:TypeId×Value->H} {P:Program} {w:World} {base:Nat} {held:Bool}
theorem GG {α:Type}{n m:Nat}{b:α->TypeId}{a:α->Nat}(A: ∀{t:TypeId} {l:List Sh} {cs:List Value} {x:DataW H×List MemPlace},xA P n t=O l->l≠[]->DataW.trod enc P w base (λ_=>Za) held m t cs=O x->∃y,fh w (Ch l) cs y){cs:List Value}:
  ∀(d:List α) (o:Nat) (L:List Sh),Jj P (xA P n) b a d o=O L->L≠[]->(∀(i:Nat) (f:α),d[i]?=O f->∃x,DataW.trod enc P w base (λ_=>Za) held m (b f) ((cs.drop (a f)).take (P.cellsOf (b f)))=O x)->
   ∃y,fh w (Ch L) ((cs.drop o).take L.length) y
 |[],o,L,h,j,_=>by
  injection h with h
  exact(j h.symm).elim
 |f::d,o,L,h,j,u=>by
  obtain⟨y,z⟩:=u 0 f rfl;simp only[Jj]at h;cases k:aB (a f) o with
  |false=>rw[k]at h;cases h
  |true=>
   have k:=cB k;subst k;rw[Nat.beq_refl,zC]at h;cases q:xA P n (b f)with
   |none=>rw[q]at h;cases h
   |some l=>
    rw[q]at h;cases l with
    |nil=>cases h
    |cons s B=>
     simp only at h;cases e:aB (s::B).length (P.cellsOf (b f))with
     |false=>rw[e]at h;cases h
     |true=>
      rw[e,zC]at h;have e:=cB e;rw[<-e]at z;have r:=A q (by simp) z;cases p:Jj P (xA P n) b a d (a f+(s::B).length)with
      |none=>rw[p]at h;cases h
      |some L2=>
       rw[p,iF]at h;injection h with h
       subst h;rw[dB,List.take_add,List.drop_drop];cases L2 with
       |nil=>
        rw[List.length_nil,List.take_zero,aD,aD];exact r
       |cons E D=>exact Tq (by simp) (by simp) r (GG A d _ _ p (by simp) λi g C=>u (i+1) g (by simpa using C))
theorem P2 {β:Type}{p:Nat->β->Prop}: ∀(n:Nat),(∀i,i<n->∃y,p i y)->∃b:List β,b.length=n/\∀i y,b[i]?=O y->p i y
 |0,_=>⟨[],rfl,λi y h=>by simp at h⟩
 |n+1,h=>by
  obtain⟨b,g,j⟩:=P2 n λi d=>h i (by omega)
  obtain⟨y,k⟩:=h n (by omega);refine⟨b++[y],by simp[g],λi z a=> ?_⟩;by_cases d:i<b.length
  .rw[cD d]at a;exact j i z a
  .rw[eD (by omega)]at a
   have:i-b.length=0:=by
    rcases iE (i-b.length)with e|e
    .exact e
    .rw[List.getElem?_eq_none (by simp;omega)]at a;cases a
   rw[this]at a;injection a with a
   subst a;have:i=n:=by omega
   subst this;exact k
theorem XU {a:Addr}{c:Nat}{b:List Value}(h:w.cells? base a c=O b):b.length=c/\∀j z,b[j]?=O z->w.cell? (a.add j)=O z:=by
 unfold World.cells? at h;split at h
 .have e:=mapM_some_length h;rw[List.length_range]at e;refine⟨e,λj z g=> ?_⟩
  have d:j<c:=by
   obtain⟨d,_⟩:=List.getElem?_eq_some_iff.1 g;omega
  have:=mapM_some_get h j j (by simp[d]);rw[this,g]
 .cases h
theorem ai2 : ∀(l:List Sh),l≠[]->(∀s∈l,s.w=1)->(Ch l).w=l.length
 |[a],_,h=>h a (by simp)
 |a::b::r,_,h=>by
  show a.w+(Ch (b::r)).w=_;rw[h a (by simp),ai2 (b::r) (by simp) λs d=>h s (List.mem_cons_of_mem _ d)];simp only[iB];omega
theorem Rc {α:Type}{n:Nat}{d:α->TypeId}{a:α->Nat}(k: ∀{t:TypeId} {l:List Sh},xA P n t=O l->∀s∈l,s.w=1): ∀(b:List α) (o:Nat) (L:List Sh),Jj P (xA P n) d a b o=O L->∀s∈L,s.w=1
 |[],o,L,h=>by
  injection h with h
  subst h;intro s p;cases p
 |f::b,o,L,h=>by
  simp only[Jj]at h;cases i:aB (a f) o with
  |false=>rw[i]at h;cases h
  |true=>
   rw[i,zC]at h;cases g:xA P n (d f)with
   |none=>rw[g]at h;cases h
   |some l=>
    rw[g]at h;cases l with
    |nil=>cases h
    |cons s m=>
     simp only at h;cases j:aB (s::m).length (P.cellsOf (d f))with
     |false=>rw[j]at h;cases h
     |true=>
      rw[j,zC]at h;cases e:Jj P (xA P n) d a b (o+(s::m).length)with
      |none=>rw[e]at h;cases h
      |some L2=>
       rw[e,iF]at h;injection h with h
       subst h;intro q hq;rcases List.mem_append.1 hq with hq|hq
       .exact k g q hq
       .exact Rc k b _ _ e q hq
theorem Rf : ∀(n:Nat) {t:TypeId} {l:List Sh},xA P n t=O l->∀s∈l,s.w=1
 |0,t,l,h=>by cases h
 |n+1,t,l,h=>by
  have one: ∀{a:Sh},a.w=1->O [a]=O l->∀s∈l,s.w=1:=by
   intro a i e;injection e with e
   subst e;intro s g;rw[List.mem_singleton]at g;subst g;exact i
  simp only[xA]at h;split at h
  .exact one rfl h
  .exact one rfl h
  .exact one rfl h
  .split at h
   .rename_i e m x s j k;cases b:aB (s::j).length (P.cellsOf e)with
    |false=>rw[b]at h;cases h
    |true=>rw[b,zC]at h;exact one rfl h
   .cases h
  .split at h
   .rename_i L d;cases b:aB L.length (P.cellsOf t)with
    |false=>rw[b]at h;cases h
    |true=>
     rw[b,zC]at h;injection h with h
     subst h;exact Rc (λh=>Rf n h) _ _ _ d
   .cases h
  .split at h
   .rename_i L d;cases b:aB L.length (P.cellsOf t)with
    |false=>rw[b]at h;cases h
    |true=>
     rw[b,zC]at h;injection h with h
     subst h;exact Rc (λh=>Rf n h) _ _ _ d
   .cases h
  .cases h
theorem EU : ∀(n:Nat) {m:Nat} {t:TypeId} {l:List Sh} {cs:List Value} {x:DataW H×List MemPlace},xA P n t=O l->l≠[]->DataW.trod enc P w base (λ_=>Za) held m t cs=O x->∃y,fh w (Ch l) cs y
 |0,m,t,l,cs,x,h,_,_=>by cases h
 |n+1,m,t,l,cs,x,h,M,B=>by
  simp only[xA]at h;split at h
  .rename_i k g;injection h with h
   subst h;obtain⟨a,o,_,T⟩:=DataW.trod_int g B;exact⟨a,o,T⟩
  .rename_i g;injection h with h
   subst h;obtain⟨a,o,_⟩:=DataW.trod_bool g B;exact⟨a,o⟩
  .rename_i g;injection h with h
   subst h;obtain⟨a,o,_,T⟩:=DataW.trod_string g B;exact⟨_,a,o,rfl,T⟩
  .rename_i e g;split at h
   .rename_i s C hr;cases b:aB (s::C).length (P.cellsOf e)with
    |false=>rw[b]at h;cases h
    |true=>
     rw[b,zC]at h;injection h with h
     subst h;have b:=cB b;have hw:(Ch (s::C)).w=P.cellsOf e:=by rw[ai2 _ (by simp) (Rf n hr),b]
     rcases DataW.trod_slice g B with⟨o,_⟩|⟨a,d,p,U,rest,Q,_,o,_,hb,hlc,V,hel,he,u⟩
     .exact⟨([]:List (El (Ch (s::C)))), .inl ⟨o,rfl⟩⟩
     .have J: ∀i,i<p->∃y:El (Ch (s::C)),∃S,(∀j z,S[j]?=O z->w.cell? (a.add (i*(Ch (s::C)).w+j))=O z)/\fh w (Ch (s::C)) S y:=by
       intro i K
       have A: ∃q,(w.cells? base (a.add (i*P.cellsOf e)) (P.cellsOf e)).bind (DataW.trod enc P w base (λ_=>Za) held Q e)=O q:=by
        by_cases Z:i<d
        .rw[he i Z];exact⟨_,bD (by omega)⟩
        .obtain⟨h8,r⟩:=u.1 rfl;have:=r (i-d) (by omega);rw[show d+(i-d)=i by omega]at this;rw[this];exact⟨_,bD (by omega)⟩
       obtain⟨q,hq⟩:=A;obtain⟨S,D,F⟩:=ag hq;obtain⟨y,I⟩:=EU n hr (by simp) F;obtain⟨h4,h5⟩:=XU D;exact⟨y,S,λj z hz=>by rw[hw,<-at6];exact h5 j z hz,I⟩
      obtain⟨ys,h6,h7⟩:=P2 p J;exact⟨ys.take d, .inr ⟨a,d,p,ys,o,hlc,V,h6,rfl,h7⟩⟩
   .cases h
  .rename_i fs g;split at h
   .rename_i L W;cases b:aB L.length (P.cellsOf t)with
    |false=>rw[b]at h;cases h
    |true=>
     rw[b,zC]at h;injection h with h
     subst h;have b:=cB b;obtain⟨xs,Q,_,_,hl,N,hx⟩:=DataW.trod_struct g B
     have:=GG (cs:=cs) (λD F I=>EU n (m:=Q) D F I) fs.toList 0 _ W M λi f K=>by
      have X:fs[i]?=O f:=by rw[<-Array.getElem?_toList];exact K
      have:=hx i f X;rw[this]
      have:i<xs.length:=by
       obtain⟨r,_⟩:=List.getElem?_eq_some_iff.1 K;rw[N];simpa using r
      exact⟨_,bD this⟩
     rw[dD,iD (by omega)]at this;exact this
   .cases h
  .rename_i k e g;split at h
   .rename_i L W;cases b:aB L.length (P.cellsOf t)with
    |false=>rw[b]at h;cases h
    |true=>
     rw[b,zC]at h;injection h with h
     subst h;have b:=cB b;obtain⟨xs,Q,_,_,hl,N,hx⟩:=DataW.trod_array g B
     have:=GG (cs:=cs) (λD F I=>EU n (m:=Q) D F I) (List.range k) 0 _ W M λi f K=>by
      obtain⟨r,E⟩:=List.getElem?_eq_some_iff.1 K;rw[List.getElem_range]at E;subst E;have r:i<k:=by simpa using r
      have:=hx i r;rw[this];exact⟨_,bD (by omega)⟩
     rw[dD,iD (by omega)]at this;exact this
   .cases h
  .cases h
end
def isAgg (P:Program)(t:TypeId):Bool:=match P.underlying t with
 |some (.struct _)|some (.array _ _)=>Za
 |_=>Zb
def HU (w:World):(b:Bool)->(s:Sh)->Value->El s->Prop
 |true,s,v,x=> ∃a,v= .agg a/\fh w s a.toList x
 |false,s,v,x=>fh w s [v] x
theorem TD {H:Type}{enc:TypeId×Value->H}{P:Program}{base:Nat}{held:Bool}{n:Nat}{t:TypeId}{l:List Sh}{r:Reach}{b0:Nat}{d:DataW H}{y:List MemPlace}(i:xA P n t=O l)(m:l≠[])
  (a:Value.okWide P w r b0 t v) (s:DataW.Trod enc P w base (λ_=>Za) held t v d y): ∃x:El (Ch l),HU w (isAgg P t) (Ch l) v x:=by
 obtain⟨o,u⟩:=s;obtain⟨x,j⟩:=EU n i m u;refine⟨x, ?_⟩
 have g:isAgg P t=Zb->(∀h,v≠ .agg h)->HU w (isAgg P t) (Ch l) v x:=by
  intro p q;rw[p]
  have:v.cells.toList=[v]:=by
   unfold Value.cells;split
   .rename_i h;exact(q h rfl).elim
   .rfl
  rw[this]at j;exact j
 cases n with
 |zero=>cases i
 |succ n=>
  simp only[xA]at i;split at i
  .rename_i k b;refine g (by simp[isAgg,b]) λh e=> ?_
   subst e;simp[Value.okWide,b,Cell.okWide,Cell.ok]at a
  .rename_i b;refine g (by simp[isAgg,b]) λh e=> ?_
   subst e;simp[Value.okWide,b,Cell.okWide,Cell.ok]at a
  .rename_i b;refine g (by simp[isAgg,b]) λh e=> ?_
   subst e;simp[Value.okWide,b,Cell.okWide,Cell.ok]at a
  .rename_i e b;refine g (by simp[isAgg,b]) λh e=> ?_
   subst e;simp[Value.okWide,b,Cell.okWide,Cell.ok]at a
  .rename_i z b;simp only[Value.okWide,b]at a;obtain⟨h,rfl,_,_⟩:=a;rw[show isAgg P t=Za by simp[isAgg,b]];exact⟨h,rfl,j⟩
  .rename_i k e b;simp only[Value.okWide,b]at a;obtain⟨h,rfl,_,_⟩:=a;rw[show isAgg P t=Za by simp[isAgg,b]];exact⟨h,rfl,j⟩
  .cases i
@[reducible] def All :List (Bool×Sh)->Type
 |[]=>Unit
 |[k]=>El k.2
 |k::a::r=>El k.2×All (a::r)
def Qt (w:World):(ks:List (Bool×Sh))->List Value->All ks->Prop
 |[],vs,_=>vs=[]
 |[k],vs,x=> ∃v,vs=[v]/\HU w k.1 k.2 v x
 |k::b::r,vs,x=> ∃v a,vs=v::a/\HU w k.1 k.2 v x.1/\Qt w (b::r) a x.2
def aK5 (k:Bool×Sh)(x:El k.2):VV:=cond k.1 (.agg (dx k.2 x)) ((dx k.2 x).headD .undef)
def ab4 :(ks:List (Bool×Sh))->All ks->List VV
 |[],_=>[]
 |[k],x=>[aK5 k x]
 |k::a::r,x=>aK5 k x.1::ab4 (a::r) x.2
theorem Pl {k:Bool×Sh}{x:El k.2}(h:HU w k.1 k.2 v x)(g:BH w rows): ∃more j,Built w rows more [j] [v] [aK5 k x]:=by
 obtain⟨b,s⟩:=k;cases b with
 |true=>
  obtain⟨u,rfl,m⟩:=h;obtain⟨more,e,d⟩:=build s m g;exact⟨more, .agg e.toArray,d.ok, .cons (.agg (by simpa using d.vr)) .nil, .cons (.agg (by simpa using d.vv)) .nil⟩
 |false=>
  obtain⟨more,e,d⟩:=build s h g;have n:=d.vr;have o:=d.vv;cases n with
  | @cons a _ i _ p q=>
   cases q;refine⟨more,a,d.ok, .cons p .nil, ?_⟩;show F2 _ [(dx s x).headD .undef] _;generalize dx s x=l at*;cases o with
   |cons r t=>
    cases t;exact .cons r .nil
theorem M5 {w:World}: ∀(ks:List (Bool×Sh)) {vs:List Value} {x:All ks},Qt w ks vs x->∀{rows:List Row},BH w rows->∃more a,Built w rows more a vs (ab4 ks x)
 |[],vs,x,h,rows,b=>by
  have h:vs=[]:=h;subst h;exact⟨[],[], .nil b⟩
 |[k],vs,x,⟨v,h,e⟩,rows,b=>by
  subst h;obtain⟨more,d,g⟩:=Pl e b;exact⟨more,[d],g⟩
 |k::l::r,vs,x,⟨v,o,h,e,g⟩,rows,b=>by
  subst h;obtain⟨m,d,i⟩:=Pl e b;obtain⟨n,a,j⟩:=M5 (l::r) g i.ok;exact⟨m++n,d::a,i.app j⟩
def inK (k:IntKind)(n:Int):Prop:=match k with
 | .i64=> -9223372036854775808<=n/\n<=9223372036854775807
 | .u64=>0<=n/\n<=18446744073709551615
 | .u8=>0<=n/\n<=255
 |_=>True
theorem aN1 {k:IntKind}{n:Int}(h:(Lit.int k n).wf=Za):inK k n:=by
 cases k<;>first|trivial|exact aR7 h|exact aR8 h|exact ba1 h
def aa3 :(s:Sh)->El s->Prop
 | .int k,n=>inK k n
 | .bool,_=>True
 | .str,l=>l.length<=9223372036854775807/\∀n∈l,0<=n/\n<=255
 | .list s,l=>l.length<=9223372036854775807/\∀x∈l,aa3 s x
 | .pair a b,x=>aa3 a x.1/\aa3 b x.2
theorem fh.fine : ∀{s:Sh} {cs:List Value} {x:El s},fh w s cs x->aa3 s x
 | .int k,_,_,⟨_,h⟩=>aN1 h
 | .bool,_,_,_=>trivial
 | .str,_,_,⟨s,_,h,g⟩=>by
  subst h;refine⟨?_,λn j=> ?_⟩
  .unfold au;rw[List.length_map];unfold maxLen at g;simpa using g
  .unfold au at j;obtain⟨b,_,rfl⟩:=List.mem_map.1 j;have:=b.toNat_lt;omega
 | .list s,_,l,h=>by
  rcases h with⟨_,h⟩|⟨a,z,m,C,_,t,d,y,r,u⟩
  .subst h;exact⟨Nat.zero_le _,λx e=>by cases e⟩
  .subst r;refine⟨by rw[iC];unfold maxLen at d;omega,λx e=> ?_⟩;obtain⟨i,q,rfl⟩:=List.getElem_of_mem (List.mem_of_mem_take e);obtain⟨D,_,h⟩:=u i _ (bD q);exact h.fine
 | .pair a b,_,_,⟨A,B,_,o,p⟩=>⟨o.fine,p.fine⟩
theorem HU.fine {b:Bool}{s:Sh}{x:El s}(h:HU w b s v x):aa3 s x:=by
 cases b with
 |true=>obtain⟨a,_,h⟩:=h;exact h.fine
 |false=>exact fh.fine h
theorem ag0 {P:Program}{run:FN (yk.shs ⟨vals,[],[]⟩)->Option (yn Is)}(h:dv P ⟨f,vals,[],Is,run⟩)(i:XD P w)(ks:List (Bool×Sh))(x:All ks)(t:FN (yk.shs ⟨vals,[],[]⟩))
  (g:Qt w ks cargs.toList x) (j:((rL [] 0 [] ⟨vals,[],[]⟩ (ab4 ks x)).bind λst=>R9 _ st.ls)=O t) (b:run t=O Za) (k:EQ f=Zb:=by rfl):
  Calls P f cargs w λe w'=>e= .returned (.bool Za)/\Go.RowKit.Below w.heap.size w w':=by
 obtain⟨rows,d,a⟩:=M5 ks g (rows:=[]) (λr b=>by cases b);exact Yi h i t a.ok a.vr a.vv j b k
end
end Go.V
