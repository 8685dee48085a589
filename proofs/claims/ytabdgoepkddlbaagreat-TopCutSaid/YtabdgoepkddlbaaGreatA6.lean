/- A part of the proofs of this claim: what functions of the program answer on an abstract machine, and plain laws. No condition. -/
import Derived.Test.YtabdgoepkddlbaaGreatA5
import Derived.ProofKit
import Derived.OpenShut
import Derived.ChangeArms
import Derived.Below
set_option linter.unusedVariables false
set_option linter.unusedSimpArgs false
set_option linter.unusedSectionVars false
namespace Go.V
open Go.Ab
open Option renaming some->Y,none->Z
open Bool renaming true->Za,false->Zb
open Decidable renaming decide->Zc
section
open List renaming append_nil -> aD, append_assoc -> bB, getElem?_eq_getElem -> bD, getElem?_append_left -> cD, length_append -> dB, drop_zero -> dD, getElem?_append_right -> eD, length_cons -> iA, length_take -> iB, take_of_length_le -> iC
open Nat renaming beq -> aB, eq_of_beq_eq_true -> cB, le_refl -> fB, not_lt_zero -> fD, zero_add -> gB, zero_mul -> gD, eq_zero_or_pos -> iD
open Option renaming map_some -> iE
def dx (w:World):(s:Sh)->List Value->El s->Prop
 | .int k,cs,n=>cs=[.int k n]/\(Lit.int k n).wf=Za
 | .bool,cs,b=>cs=[.bool b]
 | .str,cs,l=> ∃s:ByteArray,cs=[.string s]/\lh s=l/\s.size<=maxLen
 | .list s,cs,l=>(cs=[.slice Z 0 0]/\l=[])∨∃(a:Addr) (len cap:Nat) (ys:List (El s)),cs=[.slice (Y a) len cap]/\len<=cap/\cap<=maxLen/\ys.length=cap/\l=ys.take len/\
   ∀i y,ys[i]?=Y y->∃zs,(∀j z,zs[j]?=Y z->w.cell? (a.add (i*s.w+j))=Y z)/\dx w s zs y
 | .pair a b,cs,x=> ∃c1 c2,cs=c1++c2/\dx w a c1 x.1/\dx w b c2 x.2
theorem dx.len {w:World}: ∀{s:Sh} {cs:List Value} {x:El s},dx w s cs x->cs.length=s.w
 | .int k,_,_,⟨h,_⟩=>by subst h;rfl
 | .bool,_,_,h=>by
  have h:_=[Value.bool _]:=h;subst h;rfl
 | .str,_,_,⟨s,h,_⟩=>by subst h;rfl
 | .list s,_,_,h=>by
  rcases h with⟨h,_⟩|⟨a,len,cap,ys,h,_⟩<;>subst h<;>rfl
 | .pair a b,_,_,⟨c1,c2,h,h1,h2⟩=>by
  subst h;rw[dB,h1.len,h2.len];rfl
def an7 (w:World)(rows:List Row):Prop:= ∀r∈rows,∀(i:Nat) (v:Value),r.cells[i]?=Y v->∃v',w.cell? ⟨r.c,r.o+i,Z⟩=Y v'/\VR (sW rows) v v'
theorem ct7 (rows more:List Row):(sW rows).le (sW (rows++more)):=by
 intro b g h;simp only[sW]at h⊢;cases hr:rows[b]? with
 |none=>rw[hr]at h;cases h
 |some r=>
  rw[hr]at h;obtain⟨hb,hr'⟩:=List.getElem?_eq_some_iff.1 hr;rw[cD hb,hr];exact h
theorem cX1 (size:Nat)(rows more:List Row):Le (zw (su size rows)) (zw (su size (rows++more))):=by
 have hs: ∀k,ae ([]:ai) k= .dead:=λk=>by cases k<;>rfl
 refine⟨fB _,λk d h=>(fD _ h).elim,λk _ h=> ?_,λk d b y h=>(fD _ h).elim,λb y h _=> ?_,λb y _ _ h=>(bn1 b (.inl h)).elim, ?_,rfl⟩
 .rfl
 .simp only[zw,su]at h⊢;cases hr:rows[b]? with
  |none=>rw[hr]at h;cases h
  |some r=>
   rw[hr]at h;obtain⟨hb,hr'⟩:=List.getElem?_eq_some_iff.1 hr;rw[cD hb,hr];exact h
 .show rows.length<=(rows++more).length;rw[dB];omega
theorem dh6 {μ μ':Mu}(h:μ.le μ'){l m:List Value}(hf:F2 (VR μ) l m):F2 (VR μ') l m:=hf.imp λ_ _ hv=>hv.mono h
theorem an7.app {w:World}{rows more:List Row}(h:an7 w rows)(hm: ∀r∈more,∀(i:Nat) (v:Value),r.cells[i]?=Y v->∃v',w.cell? ⟨r.c,r.o+i,Z⟩=Y v'/\VR (sW (rows++more)) v v'):an7 w (rows++more):=by
 intro r hr i v hv;rcases List.mem_append.1 hr with hr|hr
 .obtain⟨v',h1,h2⟩:=h r hr i v hv;exact⟨v',h1,h2.mono (ct7 _ _)⟩
 .exact hm r hr i v hv
theorem dz5 (a:Addr)(i j:Nat):(a.add i).add j=a.add (i+j):=by
 unfold Addr.add;by_cases hj:j=0
 .subst hj;simp
 .by_cases hi:i=0
  .subst hi;simp
  .simp[hi,hj,Nat.add_assoc]
structure Built (w:World)(rows more:List Row)(acs cs:List Value)(vs:List VV):Prop where
 ok:an7 w (rows++more)
 vr:F2 (VR (sW (rows++more))) acs cs
 vv:F2 (VRel (zw (su w.heap.size (rows++more)))) vs acs
theorem Built.app {w:World}{rows m1 m2:List Row}{a1 a2 c1 c2:List Value}{v1 v2:List VV}(h1:Built w rows m1 a1 c1 v1)(h2:Built w (rows++m1) m2 a2 c2 v2):Built w rows (m1++m2) (a1++a2) (c1++c2) (v1++v2):=by
 refine⟨?_, ?_, ?_⟩
 .rw[<-bB];exact h2.ok
 .rw[<-bB];exact(dh6 (ct7 _ _) h1.vr).append h2.vr
 .rw[<-bB];exact(VRel.frames (cX1 _ _ _) h1.vv).append h2.vv
theorem Built.nil {w:World}{rows:List Row}(h:an7 w rows):Built w rows [] [] [] []:=⟨by rw[aD];exact h, .nil, .nil⟩
theorem dj9 {w:World}{s:Sh}(ih: ∀{cs:List Value} {x:El s},dx w s cs x->∀{rows:List Row},an7 w rows->∃more acs,Built w rows more acs cs (db s x))(a:Addr): ∀(ys:List (El s)) (k:Nat),
  (∀i y,ys[i]?=Y y->∃zs,(∀j z,zs[j]?=Y z->w.cell? (a.add ((k+i)*s.w+j))=Y z)/\dx w s zs y)->∀{rows:List Row},an7 w rows->
  ∃more acs ccs,Built w rows more acs ccs (gh s ys)/\ccs.length=ys.length*s.w/\∀i z,ccs[i]?=Y z->w.cell? (a.add (k*s.w+i))=Y z
 |[],k,_,rows,h=>⟨[],[],[], .nil h,by simp,λi z hz=>by simp at hz⟩
 |y::ys,k,hy,rows,h=>by
  obtain⟨zs,h1,h2⟩:=hy 0 y rfl;obtain⟨m1,a1,h3⟩:=ih h2 h
  obtain⟨m2,a2,c2,h4,h5,h6⟩:=dj9 ih a ys (k+1) (λi y' hy'=>by
   obtain⟨zs',h7,h8⟩:=hy (i+1) y' (by simpa using hy')
   exact⟨zs',λj z hz=>by rw[show k+1+i=k+(i+1)by omega];exact h7 j z hz,h8⟩) h3.ok
  refine⟨m1++m2,a1++a2,zs++c2, ?_, ?_,λi z hz=> ?_⟩
  .have:=h3.app h4;rw[il];exact this
  .rw[dB,h5,h2.len,iA,Nat.succ_mul];omega
  .have hl:=h2.len;by_cases hi:i<zs.length
   .rw[cD hi]at hz;have:=h1 i z hz
    rwa [Nat.add_zero]at this
   .rw[eD (by omega)]at hz;have:=h6 _ z hz;rw[show(k+1)*s.w+(i-zs.length)=k*s.w+i by rw[Nat.succ_mul];omega]at this;exact this
theorem build {w:World}: ∀(s:Sh) {cs:List Value} {x:El s},dx w s cs x->∀{rows:List Row},an7 w rows->∃more acs,Built w rows more acs cs (db s x)
 | .int k,_,n,⟨h,_⟩,rows,hr=>by
  subst h;exact⟨[],_,by rw[aD];exact hr, .cons (.int _ _) .nil, .cons (.int _ _) .nil⟩
 | .bool,_,b,h,rows,hr=>by
  have h:_=[Value.bool _]:=h;subst h;exact⟨[],_,by rw[aD];exact hr, .cons (.bool _) .nil, .cons (.bool _) .nil⟩
 | .str,_,l,⟨s,h,h2,_⟩,rows,hr=>by
  subst h;exact⟨[],_,by rw[aD];exact hr, .cons (.string _) .nil, .cons (.str h2) .nil⟩
 | .pair a b,_,x,⟨c1,c2,h,h1,h2⟩,rows,hr=>by
  subst h;obtain⟨m1,a1,h3⟩:=build a h1 hr;obtain⟨m2,a2,h4⟩:=build b h2 h3.ok;exact⟨m1++m2,a1++a2,h3.app h4⟩
 | .list s,_,l,h,rows,hr=>by
  rcases h with⟨h,h2⟩|⟨a,len,cap,ys,h,hlc,hcm,hyl,hl,hy⟩
  .subst h;subst h2;exact⟨[],_,by rw[aD];exact hr, .cons .nils .nil, .cons (.lstn λz hz=>by cases hz) .nil⟩
  .subst h;obtain⟨m1,a1,c1,h1,h2,h3⟩:=dj9 (λhc=>build s hc) a ys 0 (λi y h=>by rw[gB];exact hy i y h) hr;have hw:=sZ s;rw[hyl]at h2;have hal:a1.length=cap*s.w:=by rw[h1.vr.length,h2]
   let row:Row:=⟨a.block,a.off,cap*s.w,s.w,a1⟩
   have hspot:0<cap->a.spot=Z/\a.block<w.heap.size:=by
    intro hc;have hlt:0<c1.length:=by rw[h2];exact Nat.mul_pos hc hw
    have:=h3 0 _ (bD hlt);rw[gD,Nat.add_zero]at this;have hsp:=bf8 this;exact⟨hsp,cp6 (x:=⟨a.block,a.off+0,Z⟩) (ao1 hsp this)⟩
   have hget: ∀(rs:List Row),(rows++(m1++[row])++rs)[(rows++m1).length]?=Y row:=by
    intro rs;rw[<-bB,bB _ [row],eD (fB _),Nat.sub_self];rfl
   have hmu:(sW (rows++(m1++[row]))).at (rows++m1).length ⟨a.block,a.off,cap*s.w,s.w,0,Z⟩:=by
    have:=hget [];rw[aD]at this;refine⟨?_,rfl⟩;simp only[sW,this];rfl
   have hok:an7 w (rows++(m1++[row])):=by
    rw[<-bB];refine h1.ok.app λr hr' i v hv=> ?_
    have:r=row:=by simpa using hr'
    subst this;obtain⟨v',q1,q2⟩:=h1.vr.get i v hv;have hc:=h3 i v' q1;rw[gD,gB]at hc
    have hcap:0<cap:=by
     rcases iD cap with e|e
     .have hv:a1[i]?=Y v:=hv;obtain⟨hi,_⟩:=List.getElem?_eq_some_iff.1 hv;rw[hal,e,gD]at hi;exact(fD _ hi).elim
     .exact e
    exact⟨v',ao1 (hspot hcap).1 hc,q2.mono (ct7 _ _)⟩
   refine⟨m1++[row],[.slice (Y ⟨(rows++m1).length,0,Z⟩) len cap],hok, ?_, ?_⟩
   .refine .cons ?_ .nil;by_cases hc:cap=0
    .have:len=0:=by omega
     subst hc;subst this;exact .slice0 _ hmu
    .have hsp:=(hspot (by omega)).1;obtain⟨b,o,sp⟩:=a;simp only at hsp;subst hsp;exact .slice (o:=0) hmu hlc (fB _) (by simp)
   .refine .cons ?_ .nil;by_cases hc:cap=0
    .have e:len=0:=by omega
     subst hc;subst e;rw[hl,List.take_zero];exact .lstn λz hz=>by injection hz with hz;rw[<-hz]
    .have hlt:=(hspot (by omega)).2
     have hm:(zw (su w.heap.size (rows++(m1++[row])))).σ.m (rows++m1).length=Y ⟨a1,Zb,s.w⟩:=by
      have:=hget [];rw[aD]at this;simp only[zw,su,this,zG];exact zE hlt
     have hlen:l.length=len:=by rw[hl,iB];omega
     refine .lst (bn1 _) hm rfl hlen.symm hlc ?_ ?_
     .show 0+len*s.w<=a1.length;rw[hal,gB];exact Nat.mul_le_mul_right _ hlc
     .show F2 _ _ ((a1.drop 0).take (len*s.w));rw[dD,hl]
      have h5:F2 (VRel (zw (su w.heap.size (rows++(m1++[row]))))) (gh s ys) a1:=by
       rw[<-bB];exact VRel.frames (cX1 _ _ _) h1.vv
      have h6:gh s (ys.take len)=(gh s ys).take (len*s.w):=pq;rw[h6];exact h5.take _
def ap5 :List Sh->Sh
 |[]=> .bool
 |[a]=>a
 |a::b::r=> .pair a (ap5 (b::r))
theorem cC7 {w:World}: ∀{l1 l2:List Sh} {c1 c2:List Value},l1≠[]->l2≠[]->(∃x,dx w (ap5 l1) c1 x)->(∃x,dx w (ap5 l2) c2 x)->∃x,dx w (ap5 (l1++l2)) (c1++c2) x
 |[a],b::r,c1,c2,_,_,⟨x,h1⟩,⟨y,h2⟩=>⟨(x,y),c1,c2,rfl,h1,h2⟩
 |a::b::r,l2,c1,c2,_,hl,⟨x,d1,d2,h0,h1,h2⟩,h3=>by
  subst h0;obtain⟨z,h4⟩:=cC7 (l1:=b::r) (by simp) hl ⟨x.2,h2⟩ h3;exact⟨(x.1,z),d1,d2++c2,by rw[bB],h1,h4⟩
def bs5 {α:Type}(P:Program)(r:TypeId->Option (List Sh))(ty:α->TypeId)(off:α->Nat):List α->Nat->Option (List Sh)
 |[],_=>Y []
 |f::l,o=>cond (aB (off f) o) (match r (ty f)with
  |some (s::ss)=>cond (aB (s::ss).length (P.cellsOf (ty f))) ((bs5 P r ty off l (o+(s::ss).length)).map ((s::ss)++ ·)) Z
  |_=>Z) Z
def xr (P:Program):Nat->TypeId->Option (List Sh)
 |0,_=>Z
 |n+1,t=>match P.underlying t with
  |some (.int k)=>Y [.int k]
  |some .bool=>Y [.bool]
  |some .string=>Y [.str]
  |some (.slice e)=>(match xr P n e with
   |some (s::ss)=>cond (aB (s::ss).length (P.cellsOf e)) (Y [.list (ap5 (s::ss))]) Z
   |_=>Z)
  |some (.struct fs)=>(match bs5 P (xr P n) Field.type Field.offset fs.toList 0 with
   |some L=>cond (aB L.length (P.cellsOf t)) (Y L) Z
   |none=>Z)
  |some (.array m e)=>(match bs5 P (xr P n) (λ_=>e) (λi=>i*P.cellsOf e) (List.range m) 0 with
   |some L=>cond (aB L.length (P.cellsOf t)) (Y L) Z
   |none=>Z)
  |_=>Z
section
variable {H:Type} {enc:TypeId×Value->H} {P:Program} {w:World} {base:Nat} {held:Bool}
theorem ba4 {α:Type}{n m:Nat}{ty:α->TypeId}{off:α->Nat}(ih: ∀{t:TypeId} {l:List Sh} {cs:List Value} {x:DataW H×List MemPlace},xr P n t=Y l->l≠[]->DataW.trod enc P w base (λ_=>Za) held m t cs=Y x->∃y,dx w (ap5 l) cs y){cs:List Value}:
  ∀(fs:List α) (o:Nat) (L:List Sh),bs5 P (xr P n) ty off fs o=Y L->L≠[]->(∀(i:Nat) (f:α),fs[i]?=Y f->∃x,DataW.trod enc P w base (λ_=>Za) held m (ty f) ((cs.drop (off f)).take (P.cellsOf (ty f)))=Y x)->
   ∃y,dx w (ap5 L) ((cs.drop o).take L.length) y
 |[],o,L,h,hne,_=>by
  injection h with h
  exact(hne h.symm).elim
 |f::fs,o,L,h,hne,hm=>by
  obtain⟨y,hy⟩:=hm 0 f rfl;simp only[bs5]at h;cases hb:aB (off f) o with
  |false=>rw[hb]at h;cases h
  |true=>
   have hb:=cB hb;subst hb;rw[Nat.beq_refl,zC]at h;cases hr:xr P n (ty f)with
   |none=>rw[hr]at h;cases h
   |some l=>
    rw[hr]at h;cases l with
    |nil=>cases h
    |cons s ss=>
     simp only at h;cases hc:aB (s::ss).length (P.cellsOf (ty f))with
     |false=>rw[hc]at h;cases h
     |true=>
      rw[hc,zC]at h;have hc:=cB hc;rw[<-hc]at hy;have h1:=ih hr (by simp) hy;cases hf:bs5 P (xr P n) ty off fs (off f+(s::ss).length)with
      |none=>rw[hf]at h;cases h
      |some L2=>
       rw[hf,iE]at h;injection h with h
       subst h;rw[dB,List.take_add,List.drop_drop];cases L2 with
       |nil=>
        rw[List.length_nil,List.take_zero,aD,aD];exact h1
       |cons s2 r2=>exact cC7 (by simp) (by simp) h1 (ba4 ih fs _ _ hf (by simp) λi g hg=>hm (i+1) g (by simpa using hg))
theorem ch8 {β:Type}{p:Nat->β->Prop}: ∀(n:Nat),(∀i,i<n->∃y,p i y)->∃ys:List β,ys.length=n/\∀i y,ys[i]?=Y y->p i y
 |0,_=>⟨[],rfl,λi y h=>by simp at h⟩
 |n+1,h=>by
  obtain⟨ys,h1,h2⟩:=ch8 n λi hi=>h i (by omega)
  obtain⟨y,h3⟩:=h n (by omega);refine⟨ys++[y],by simp[h1],λi z hz=> ?_⟩;by_cases hi:i<ys.length
  .rw[cD hi]at hz;exact h2 i z hz
  .rw[eD (by omega)]at hz
   have:i-ys.length=0:=by
    rcases iD (i-ys.length)with e|e
    .exact e
    .rw[List.getElem?_eq_none (by simp;omega)]at hz;cases hz
   rw[this]at hz;injection hz with hz
   subst hz;have:i=n:=by omega
   subst this;exact h3
theorem db3 {a:Addr}{c:Nat}{zs:List Value}(h:w.cells? base a c=Y zs):zs.length=c/\∀j z,zs[j]?=Y z->w.cell? (a.add j)=Y z:=by
 unfold World.cells? at h;split at h
 .have hl:=mapM_some_length h;rw[List.length_range]at hl;refine⟨hl,λj z hz=> ?_⟩
  have hj:j<c:=by
   obtain⟨hj,_⟩:=List.getElem?_eq_some_iff.1 hz;omega
  have:=mapM_some_get h j j (by simp[hj]);rw[this,hz]
 .cases h
theorem dp6 : ∀(l:List Sh),l≠[]->(∀s∈l,s.w=1)->(ap5 l).w=l.length
 |[a],_,h=>h a (by simp)
 |a::b::r,_,h=>by
  show a.w+(ap5 (b::r)).w=_;rw[h a (by simp),dp6 (b::r) (by simp) λs hs=>h s (List.mem_cons_of_mem _ hs),iA (as:=b::r)];omega
theorem cr2 {α:Type}{n:Nat}{ty:α->TypeId}{off:α->Nat}(ih: ∀{t:TypeId} {l:List Sh},xr P n t=Y l->∀s∈l,s.w=1): ∀(fs:List α) (o:Nat) (L:List Sh),bs5 P (xr P n) ty off fs o=Y L->∀s∈L,s.w=1
 |[],o,L,h=>by
  injection h with h
  subst h;intro s hs;cases hs
 |f::fs,o,L,h=>by
  simp only[bs5]at h;cases hb:aB (off f) o with
  |false=>rw[hb]at h;cases h
  |true=>
   rw[hb,zC]at h;cases hr:xr P n (ty f)with
   |none=>rw[hr]at h;cases h
   |some l=>
    rw[hr]at h;cases l with
    |nil=>cases h
    |cons s ss=>
     simp only at h;cases hc:aB (s::ss).length (P.cellsOf (ty f))with
     |false=>rw[hc]at h;cases h
     |true=>
      rw[hc,zC]at h;cases hf:bs5 P (xr P n) ty off fs (o+(s::ss).length)with
      |none=>rw[hf]at h;cases h
      |some L2=>
       rw[hf,iE]at h;injection h with h
       subst h;intro q hq;rcases List.mem_append.1 hq with hq|hq
       .exact ih hr q hq
       .exact cr2 ih fs _ _ hf q hq
theorem cr4 : ∀(n:Nat) {t:TypeId} {l:List Sh},xr P n t=Y l->∀s∈l,s.w=1
 |0,t,l,h=>by cases h
 |n+1,t,l,h=>by
  have one: ∀{a:Sh},a.w=1->Y [a]=Y l->∀s∈l,s.w=1:=by
   intro a ha e;injection e with e
   subst e;intro s hs;rw[List.mem_singleton]at hs;subst hs;exact ha
  simp only[xr]at h;split at h
  .exact one rfl h
  .exact one rfl h
  .exact one rfl h
  .split at h
   .rename_i e hu x s ss hr;cases hc:aB (s::ss).length (P.cellsOf e)with
    |false=>rw[hc]at h;cases h
    |true=>rw[hc,zC]at h;exact one rfl h
   .cases h
  .split at h
   .rename_i L hf;cases hc:aB L.length (P.cellsOf t)with
    |false=>rw[hc]at h;cases h
    |true=>
     rw[hc,zC]at h;injection h with h
     subst h;exact cr2 (λh=>cr4 n h) _ _ _ hf
   .cases h
  .split at h
   .rename_i L hf;cases hc:aB L.length (P.cellsOf t)with
    |false=>rw[hc]at h;cases h
    |true=>
     rw[hc,zC]at h;injection h with h
     subst h;exact cr2 (λh=>cr4 n h) _ _ _ hf
   .cases h
  .cases h
theorem aM0 : ∀(n:Nat) {m:Nat} {t:TypeId} {l:List Sh} {cs:List Value} {x:DataW H×List MemPlace},xr P n t=Y l->l≠[]->DataW.trod enc P w base (λ_=>Za) held m t cs=Y x->∃y,dx w (ap5 l) cs y
 |0,m,t,l,cs,x,h,_,_=>by cases h
 |n+1,m,t,l,cs,x,h,hne,hd=>by
  simp only[xr]at h;split at h
  .rename_i k hu;injection h with h
   subst h;obtain⟨a,e1,_,e2⟩:=DataW.trod_int hu hd;exact⟨a,e1,e2⟩
  .rename_i hu;injection h with h
   subst h;obtain⟨a,e1,_⟩:=DataW.trod_bool hu hd;exact⟨a,e1⟩
  .rename_i hu;injection h with h
   subst h;obtain⟨a,e1,_,e2⟩:=DataW.trod_string hu hd;exact⟨_,a,e1,rfl,e2⟩
  .rename_i e hu;split at h
   .rename_i s ss hr;cases hc:aB (s::ss).length (P.cellsOf e)with
    |false=>rw[hc]at h;cases h
    |true=>
     rw[hc,zC]at h;injection h with h
     subst h;have hc:=cB hc;have hw:(ap5 (s::ss)).w=P.cellsOf e:=by rw[dp6 _ (by simp) (cr4 n hr),hc]
     rcases DataW.trod_slice hu hd with⟨e1,_⟩|⟨a,len,cap,elems,rest,m',_,e1,_,hb,hlc,hcm,hel,he,hrest⟩
     .exact⟨([]:List (El (ap5 (s::ss)))), .inl ⟨e1,rfl⟩⟩
     .have hall: ∀i,i<cap->∃y:El (ap5 (s::ss)),∃zs,(∀j z,zs[j]?=Y z->w.cell? (a.add (i*(ap5 (s::ss)).w+j))=Y z)/\dx w (ap5 (s::ss)) zs y:=by
       intro i hi
       have hsome: ∃q,(w.cells? base (a.add (i*P.cellsOf e)) (P.cellsOf e)).bind (DataW.trod enc P w base (λ_=>Za) held m' e)=Y q:=by
        by_cases hi2:i<len
        .rw[he i hi2];exact⟨_,bD (by omega)⟩
        .obtain⟨h8,h9⟩:=hrest.1 rfl;have:=h9 (i-len) (by omega);rw[show len+(i-len)=i by omega]at this;rw[this];exact⟨_,bD (by omega)⟩
       obtain⟨q,hq⟩:=hsome;obtain⟨zs,h1,h2⟩:=ag hq;obtain⟨y,h3⟩:=aM0 n hr (by simp) h2;obtain⟨h4,h5⟩:=db3 h1;exact⟨y,zs,λj z hz=>by rw[hw,<-dz5];exact h5 j z hz,h3⟩
      obtain⟨ys,h6,h7⟩:=ch8 cap hall;exact⟨ys.take len, .inr ⟨a,len,cap,ys,e1,hlc,hcm,h6,rfl,h7⟩⟩
   .cases h
  .rename_i fs hu;split at h
   .rename_i L hf;cases hc:aB L.length (P.cellsOf t)with
    |false=>rw[hc]at h;cases h
    |true=>
     rw[hc,zC]at h;injection h with h
     subst h;have hc:=cB hc;obtain⟨xs,m',_,_,hl,hxl,hx⟩:=DataW.trod_struct hu hd
     have:=ba4 (cs:=cs) (λh1 h2 h3=>aM0 n (m:=m') h1 h2 h3) fs.toList 0 _ hf hne λi f hi=>by
      have hi':fs[i]?=Y f:=by rw[<-Array.getElem?_toList];exact hi
      have:=hx i f hi';rw[this]
      have:i<xs.length:=by
       obtain⟨h9,_⟩:=List.getElem?_eq_some_iff.1 hi;rw[hxl];simpa using h9
      exact⟨_,bD this⟩
     rw[dD,iC (by omega)]at this;exact this
   .cases h
  .rename_i k e hu;split at h
   .rename_i L hf;cases hc:aB L.length (P.cellsOf t)with
    |false=>rw[hc]at h;cases h
    |true=>
     rw[hc,zC]at h;injection h with h
     subst h;have hc:=cB hc;obtain⟨xs,m',_,_,hl,hxl,hx⟩:=DataW.trod_array hu hd
     have:=ba4 (cs:=cs) (λh1 h2 h3=>aM0 n (m:=m') h1 h2 h3) (List.range k) 0 _ hf hne λi f hi=>by
      obtain⟨h9,h10⟩:=List.getElem?_eq_some_iff.1 hi;rw[List.getElem_range]at h10;subst h10;have h9:i<k:=by simpa using h9
      have:=hx i h9;rw[this];exact⟨_,bD (by omega)⟩
     rw[dD,iC (by omega)]at this;exact this
   .cases h
  .cases h
end
def isAgg (P:Program)(t:TypeId):Bool:=match P.underlying t with
 |some (.struct _)|some (.array _ _)=>Za
 |_=>Zb
def aU3 (w:World):(b:Bool)->(s:Sh)->Value->El s->Prop
 |true,s,v,x=> ∃cs,v= .agg cs/\dx w s cs.toList x
 |false,s,v,x=>dx w s [v] x
theorem bU3 {H:Type}{enc:TypeId×Value->H}{P:Program}{w:World}{base:Nat}{held:Bool}{n:Nat}{t:TypeId}{l:List Sh}{r:Reach}{b0:Nat}{v:Value}{d:DataW H}{ps:List MemPlace}(hl:xr P n t=Y l)(hne:l≠[])
  (hval:Value.okWide P w r b0 t v) (hd:DataW.Trod enc P w base (λ_=>Za) held t v d ps): ∃x:El (ap5 l),aU3 w (isAgg P t) (ap5 l) v x:=by
 obtain⟨fuel,hf⟩:=hd;obtain⟨x,hx⟩:=aM0 n hl hne hf;refine⟨x, ?_⟩
 have cell:isAgg P t=Zb->(∀cs,v≠ .agg cs)->aU3 w (isAgg P t) (ap5 l) v x:=by
  intro h1 h2;rw[h1]
  have:v.cells.toList=[v]:=by
   unfold Value.cells;split
   .rename_i cs;exact(h2 cs rfl).elim
   .rfl
  rw[this]at hx;exact hx
 cases n with
 |zero=>cases hl
 |succ n=>
  simp only[xr]at hl;split at hl
  .rename_i k hu;refine cell (by simp[isAgg,hu]) λcs e=> ?_
   subst e;simp[Value.okWide,hu,Cell.okWide,Cell.ok]at hval
  .rename_i hu;refine cell (by simp[isAgg,hu]) λcs e=> ?_
   subst e;simp[Value.okWide,hu,Cell.okWide,Cell.ok]at hval
  .rename_i hu;refine cell (by simp[isAgg,hu]) λcs e=> ?_
   subst e;simp[Value.okWide,hu,Cell.okWide,Cell.ok]at hval
  .rename_i e hu;refine cell (by simp[isAgg,hu]) λcs e=> ?_
   subst e;simp[Value.okWide,hu,Cell.okWide,Cell.ok]at hval
  .rename_i fs hu;simp only[Value.okWide,hu]at hval;obtain⟨cs,rfl,_,_⟩:=hval;rw[show isAgg P t=Za by simp[isAgg,hu]];exact⟨cs,rfl,hx⟩
  .rename_i k e hu;simp only[Value.okWide,hu]at hval;obtain⟨cs,rfl,_,_⟩:=hval;rw[show isAgg P t=Za by simp[isAgg,hu]];exact⟨cs,rfl,hx⟩
  .cases hl
@[reducible] def All :List (Bool×Sh)->Type
 |[]=>Unit
 |[k]=>El k.2
 |k::k'::r=>El k.2×All (k'::r)
def cj9 (w:World):(ks:List (Bool×Sh))->List Value->All ks->Prop
 |[],vs,_=>vs=[]
 |[k],vs,x=> ∃v,vs=[v]/\aU3 w k.1 k.2 v x
 |k::k'::r,vs,x=> ∃v us,vs=v::us/\aU3 w k.1 k.2 v x.1/\cj9 w (k'::r) us x.2
def dO3 (k:Bool×Sh)(x:El k.2):VV:=cond k.1 (.agg (db k.2 x)) ((db k.2 x).headD .undef)
def di7 :(ks:List (Bool×Sh))->All ks->List VV
 |[],_=>[]
 |[k],x=>[dO3 k x]
 |k::k'::r,x=>dO3 k x.1::di7 (k'::r) x.2
theorem ce8 {w:World}{k:Bool×Sh}{v:Value}{x:El k.2}(h:aU3 w k.1 k.2 v x){rows:List Row}(hr:an7 w rows): ∃more av,Built w rows more [av] [v] [dO3 k x]:=by
 obtain⟨b,s⟩:=k;cases b with
 |true=>
  obtain⟨cs,rfl,h1⟩:=h;obtain⟨more,acs,h2⟩:=build s h1 hr;exact⟨more, .agg acs.toArray,h2.ok, .cons (.agg (by simpa using h2.vr)) .nil, .cons (.agg (by simpa using h2.vv)) .nil⟩
 |false=>
  obtain⟨more,acs,h2⟩:=build s h hr;have h3:=h2.vr;have h4:=h2.vv;cases h3 with
  | @cons a _ as _ h5 h6=>
   cases h6;refine⟨more,a,h2.ok, .cons h5 .nil, ?_⟩;show F2 _ [(db s x).headD .undef] _;generalize db s x=l at*;cases h4 with
   |cons h7 h8=>
    cases h8;exact .cons h7 .nil
theorem bQ7 {w:World}: ∀(ks:List (Bool×Sh)) {vs:List Value} {x:All ks},cj9 w ks vs x->∀{rows:List Row},an7 w rows->∃more avs,Built w rows more avs vs (di7 ks x)
 |[],vs,x,h,rows,hr=>by
  have h:vs=[]:=h;subst h;exact⟨[],[], .nil hr⟩
 |[k],vs,x,⟨v,h,h1⟩,rows,hr=>by
  subst h;obtain⟨more,av,h2⟩:=ce8 h1 hr;exact⟨more,[av],h2⟩
 |k::k'::r,vs,x,⟨v,us,h,h1,h2⟩,rows,hr=>by
  subst h;obtain⟨m1,av,h3⟩:=ce8 h1 hr;obtain⟨m2,avs,h4⟩:=bQ7 (k'::r) h2 h3.ok;exact⟨m1++m2,av::avs,h3.app h4⟩
def inK (k:IntKind)(n:Int):Prop:=match k with
 | .i64=> -9223372036854775808<=n/\n<=9223372036854775807
 | .u64=>0<=n/\n<=18446744073709551615
 | .u8=>0<=n/\n<=255
 |_=>True
theorem dQ6 {k:IntKind}{n:Int}(h:(Lit.int k n).wf=Za):inK k n:=by
 cases k<;>first|trivial|exact dT9 h|exact dU0 h|exact ec1 h
def cZ6 :(s:Sh)->El s->Prop
 | .int k,n=>inK k n
 | .bool,_=>True
 | .str,l=>l.length<=9223372036854775807/\∀n∈l,0<=n/\n<=255
 | .list s,l=>l.length<=9223372036854775807/\∀x∈l,cZ6 s x
 | .pair a b,x=>cZ6 a x.1/\cZ6 b x.2
theorem dx.fine {w:World}: ∀{s:Sh} {cs:List Value} {x:El s},dx w s cs x->cZ6 s x
 | .int k,_,_,⟨_,h⟩=>dQ6 h
 | .bool,_,_,_=>trivial
 | .str,_,_,⟨s,_,h,hm⟩=>by
  subst h;refine⟨?_,λn hn=> ?_⟩
  .unfold lh;rw[List.length_map];unfold maxLen at hm;simpa using hm
  .unfold lh at hn;obtain⟨b,_,rfl⟩:=List.mem_map.1 hn;have:=b.toNat_lt;omega
 | .list s,_,l,h=>by
  rcases h with⟨_,h⟩|⟨a,len,cap,ys,_,hlc,hcm,hyl,hl,hy⟩
  .subst h;exact⟨Nat.zero_le _,λx hx=>by cases hx⟩
  .subst hl;refine⟨by rw[iB];unfold maxLen at hcm;omega,λx hx=> ?_⟩;obtain⟨i,hi,rfl⟩:=List.getElem_of_mem (List.mem_of_mem_take hx);obtain⟨zs,_,h⟩:=hy i _ (bD hi);exact h.fine
 | .pair a b,_,_,⟨c1,c2,_,h1,h2⟩=>⟨h1.fine,h2.fine⟩
theorem aU3.fine {w:World}{b:Bool}{s:Sh}{v:Value}{x:El s}(h:aU3 w b s v x):cZ6 s x:=by
 cases b with
 |true=>obtain⟨cs,_,h⟩:=h;exact h.fine
 |false=>exact dx.fine h
theorem dn7 {P:Program}{f:FuncId}{vals:List Sk}{run:Tup (SSk.shs ⟨vals,[],[]⟩)->Option (ac1 bn2)}(h:an6 P ⟨f,vals,[],bn2,run⟩){w:World}(hT:cZ8 P w){cargs:Array Value}(ks:List (Bool×Sh))(x:All ks)(t:Tup (SSk.shs ⟨vals,[],[]⟩))
  (hA:cj9 w ks cargs.toList x) (hd:((uc [] 0 [] ⟨vals,[],[]⟩ (di7 ks x)).bind λst=>ofL _ st.ls)=Y t) (hr:run t=Y Za):
  Calls P f cargs w λe w'=>e= .returned (.bool Za)/\Go.RowKit.Below w.heap.size w w':=by
 obtain⟨rows,avs,h1⟩:=bQ7 ks hA (rows:=[]) (λr hr=>by cases hr);exact dd4 h hT t h1.ok h1.vr h1.vv hd hr
end
end Go.V
