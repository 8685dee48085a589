/- A part of the proofs of this claim: what functions of the program answer on an abstract machine, and plain laws. No condition. -/
import Derived.Test.YtgigjokffalgkaaGreatA5
import Derived.ProofKit
import Derived.OpenShut
import Derived.ChangeArms
import Derived.Below
set_option linter.unusedVariables false
set_option linter.unusedSimpArgs false
set_option linter.unusedSectionVars false
namespace Go.V
open Go.Ab
open Option renaming some->C,none->O
open Bool renaming true->Za,false->Zb
open Decidable renaming decide->Zc
section
open List renaming append_nil -> aD, append_assoc -> bB, getElem?_eq_getElem -> bD, getElem?_append_left -> cD, length_append -> dB, drop_zero -> dD, getElem?_append_right -> eB, length_cons -> gD, length_take -> gO, take_of_length_le -> gP
open Nat renaming beq -> aB, eq_of_beq_eq_true -> cB, le_refl -> eD, not_lt_zero -> fB, zero_add -> fD, zero_mul -> gB, eq_zero_or_pos -> gQ
open Option renaming map_some -> gR
def ki (w:World):(s:Sh)->List Value->El s->Prop
 | .int k,cs,n=>cs=[.int k n]/\(Lit.int k n).wf=Za
 | .bool,cs,b=>cs=[.bool b]
 | .str,cs,l=> ∃s:ByteArray,cs=[.string s]/\jN s=l/\s.size<=maxLen
 | .list s,cs,l=>(cs=[.slice O 0 0]/\l=[])∨∃(a:Addr) (len cap:Nat) (ys:List (El s)),cs=[.slice (C a) len cap]/\len<=cap/\cap<=maxLen/\ys.length=cap/\l=ys.take len/\
   ∀i y,ys[i]?=C y->∃zs,(∀j z,zs[j]?=C z->w.cell? (a.add (i*s.w+j))=C z)/\ki w s zs y
 | .pair a b,cs,x=> ∃c1 c2,cs=c1++c2/\ki w a c1 x.1/\ki w b c2 x.2
theorem ki.len {w:World}: ∀{s:Sh} {cs:List Value} {x:El s},ki w s cs x->cs.length=s.w
 | .int k,_,_,⟨h,_⟩=>by subst h;rfl
 | .bool,_,_,h=>by
  have h:_=[Value.bool _]:=h;subst h;rfl
 | .str,_,_,⟨s,h,_⟩=>by subst h;rfl
 | .list s,_,_,h=>by
  rcases h with⟨h,_⟩|⟨a,len,cap,ys,h,_⟩<;>subst h<;>rfl
 | .pair a b,_,_,⟨c1,c2,h,h1,h2⟩=>by
  subst h;rw[dB,h1.len,h2.len];rfl
def yi (w:World)(rows:List Row):Prop:= ∀r∈rows,∀(i:Nat) (v:Value),r.cells[i]?=C v->∃v',w.cell? ⟨r.c,r.o+i,O⟩=C v'/\VR (mZ rows) v v'
theorem cd3 (rows more:List Row):(mZ rows).le (mZ (rows++more)):=by
 intro b g h;simp only[mZ]at h⊢;cases hr:rows[b]? with
 |none=>rw[hr]at h;cases h
 |some r=>
  rw[hr]at h;obtain⟨hb,hr'⟩:=List.getElem?_eq_some_iff.1 hr;rw[cD hb,hr];exact h
theorem cF4 (size:Nat)(rows more:List Row):Le (uf (mD size rows)) (uf (mD size (rows++more))):=by
 have hs: ∀k,bu ([]:bz) k= .dead:=λk=>by cases k<;>rfl
 refine⟨eD _,λk d h=>(fB _ h).elim,λk _ h=> ?_,λk d b y h=>(fB _ h).elim,λb y h _=> ?_,λb y _ _ h=>(aL8 b (.inl h)).elim, ?_,rfl⟩
 .rfl
 .simp only[uf,mD]at h⊢;cases hr:rows[b]? with
  |none=>rw[hr]at h;cases h
  |some r=>
   rw[hr]at h;obtain⟨hb,hr'⟩:=List.getElem?_eq_some_iff.1 hr;rw[cD hb,hr];exact h
 .show rows.length<=(rows++more).length;rw[dB];omega
theorem cP2 {Z Z':Mu}(h:Z.le Z'){l m:List Value}(hf:F2 (VR Z) l m):F2 (VR Z') l m:=hf.imp λ_ _ hv=>hv.mono h
theorem yi.app {w:World}{rows more:List Row}(h:yi w rows)(hm: ∀r∈more,∀(i:Nat) (v:Value),r.cells[i]?=C v->∃v',w.cell? ⟨r.c,r.o+i,O⟩=C v'/\VR (mZ (rows++more)) v v'):yi w (rows++more):=by
 intro r hr i v hv;rcases List.mem_append.1 hr with hr|hr
 .obtain⟨v',h1,h2⟩:=h r hr i v hv;exact⟨v',h1,h2.mono (cd3 _ _)⟩
 .exact hm r hr i v hv
theorem db2 (a:Addr)(i j:Nat):(a.add i).add j=a.add (i+j):=by
 unfold Addr.add;by_cases hj:j=0
 .subst hj;simp
 .by_cases hi:i=0
  .subst hi;simp
  .simp[hi,hj,Nat.add_assoc]
structure Built (w:World)(rows more:List Row)(acs cs:List Value)(vs:List VV):Prop where
 ok:yi w (rows++more)
 vr:F2 (VR (mZ (rows++more))) acs cs
 vv:F2 (VRel (uf (mD w.heap.size (rows++more)))) vs acs
theorem Built.app {w:World}{rows m1 m2:List Row}{a1 a2 c1 c2:List Value}{v1 v2:List VV}(h1:Built w rows m1 a1 c1 v1)(h2:Built w (rows++m1) m2 a2 c2 v2):Built w rows (m1++m2) (a1++a2) (c1++c2) (v1++v2):=by
 refine⟨?_, ?_, ?_⟩
 .rw[<-bB];exact h2.ok
 .rw[<-bB];exact(cP2 (cd3 _ _) h1.vr).append h2.vr
 .rw[<-bB];exact(VRel.frames (cF4 _ _ _) h1.vv).append h2.vv
theorem Built.nil {w:World}{rows:List Row}(h:yi w rows):Built w rows [] [] [] []:=⟨by rw[aD];exact h, .nil, .nil⟩
theorem cR0 {w:World}{s:Sh}(ih: ∀{cs:List Value} {x:El s},ki w s cs x->∀{rows:List Row},yi w rows->∃more acs,Built w rows more acs cs (et s x))(a:Addr): ∀(ys:List (El s)) (k:Nat),
  (∀i y,ys[i]?=C y->∃zs,(∀j z,zs[j]?=C z->w.cell? (a.add ((k+i)*s.w+j))=C z)/\ki w s zs y)->∀{rows:List Row},yi w rows->
  ∃more acs ccs,Built w rows more acs ccs (gu s ys)/\ccs.length=ys.length*s.w/\∀i z,ccs[i]?=C z->w.cell? (a.add (k*s.w+i))=C z
 |[],k,_,rows,h=>⟨[],[],[], .nil h,by simp,λi z hz=>by simp at hz⟩
 |y::ys,k,hy,rows,h=>by
  obtain⟨zs,h1,h2⟩:=hy 0 y rfl;obtain⟨m1,a1,h3⟩:=ih h2 h
  obtain⟨m2,a2,c2,h4,h5,h6⟩:=cR0 ih a ys (k+1) (λi y' hy'=>by
   obtain⟨zs',h7,h8⟩:=hy (i+1) y' (by simpa using hy')
   exact⟨zs',λj z hz=>by rw[show k+1+i=k+(i+1)by omega];exact h7 j z hz,h8⟩) h3.ok
  refine⟨m1++m2,a1++a2,zs++c2, ?_, ?_,λi z hz=> ?_⟩
  .have:=h3.app h4;rw[iq];exact this
  .rw[dB,h5,h2.len,gD,Nat.succ_mul];omega
  .have hl:=h2.len;by_cases hi:i<zs.length
   .rw[cD hi]at hz;have:=h1 i z hz
    rwa [Nat.add_zero]at this
   .rw[eB (by omega)]at hz;have:=h6 _ z hz;rw[show(k+1)*s.w+(i-zs.length)=k*s.w+i by rw[Nat.succ_mul];omega]at this;exact this
theorem build {w:World}: ∀(s:Sh) {cs:List Value} {x:El s},ki w s cs x->∀{rows:List Row},yi w rows->∃more acs,Built w rows more acs cs (et s x)
 | .int k,_,n,⟨h,_⟩,rows,hr=>by
  subst h;exact⟨[],_,by rw[aD];exact hr, .cons (.int _ _) .nil, .cons (.int _ _) .nil⟩
 | .bool,_,b,h,rows,hr=>by
  have h:_=[Value.bool _]:=h;subst h;exact⟨[],_,by rw[aD];exact hr, .cons (.bool _) .nil, .cons (.bool _) .nil⟩
 | .str,_,l,⟨s,h,h2,_⟩,rows,hr=>by
  subst h;exact⟨[],_,by rw[aD];exact hr, .cons (.string _) .nil, .cons (.str h2) .nil⟩
 | .pair a b,_,x,⟨c1,c2,h,h1,h2⟩,rows,hr=>by
  subst h;obtain⟨m1,a1,h3⟩:=build a h1 hr;obtain⟨m2,a2,h4⟩:=build b h2 h3.ok;exact⟨m1++m2,a1++a2,h3.app h4⟩
 | .list s,_,l,h,rows,hr=>by
  rcases h with⟨h,h2⟩|⟨a,len,cap,ys,h,hlc,hcm,hyl,hl,hy⟩
  .subst h;subst h2;exact⟨[],_,by rw[aD];exact hr, .cons .nils .nil, .cons (.lstn λz hz=>by cases hz) .nil⟩
  .subst h;obtain⟨m1,a1,c1,h1,h2,h3⟩:=cR0 (λhc=>build s hc) a ys 0 (λi y h=>by rw[fD];exact hy i y h) hr;have hw:=ng s;rw[hyl]at h2;have hal:a1.length=cap*s.w:=by rw[h1.vr.length,h2]
   let row:Row:=⟨a.block,a.off,cap*s.w,s.w,a1⟩
   have hspot:0<cap->a.spot=O/\a.block<w.heap.size:=by
    intro hc;have hlt:0<c1.length:=by rw[h2];exact Nat.mul_pos hc hw
    have:=h3 0 _ (bD hlt);rw[gB,Nat.add_zero]at this;have hsp:=aE4 this;exact⟨hsp,bZ2 (x:=⟨a.block,a.off+0,O⟩) (ym hsp this)⟩
   have hget: ∀(rs:List Row),(rows++(m1++[row])++rs)[(rows++m1).length]?=C row:=by
    intro rs;rw[<-bB,bB _ [row],eB (eD _),Nat.sub_self];rfl
   have hmu:(mZ (rows++(m1++[row]))).at (rows++m1).length ⟨a.block,a.off,cap*s.w,s.w,0,O⟩:=by
    have:=hget [];rw[aD]at this;refine⟨?_,rfl⟩;simp only[mZ,this];rfl
   have hok:yi w (rows++(m1++[row])):=by
    rw[<-bB];refine h1.ok.app λr hr' i v hv=> ?_
    have:r=row:=by simpa using hr'
    subst this;obtain⟨v',q1,q2⟩:=h1.vr.get i v hv;have hc:=h3 i v' q1;rw[gB,fD]at hc
    have hcap:0<cap:=by
     rcases gQ cap with e|e
     .have hv:a1[i]?=C v:=hv;obtain⟨hi,_⟩:=List.getElem?_eq_some_iff.1 hv;rw[hal,e,gB]at hi;exact(fB _ hi).elim
     .exact e
    exact⟨v',ym (hspot hcap).1 hc,q2.mono (cd3 _ _)⟩
   refine⟨m1++[row],[.slice (C ⟨(rows++m1).length,0,O⟩) len cap],hok, ?_, ?_⟩
   .refine .cons ?_ .nil;by_cases hc:cap=0
    .have:len=0:=by omega
     subst hc;subst this;exact .slice0 _ hmu
    .have hsp:=(hspot (by omega)).1;obtain⟨b,o,sp⟩:=a;simp only at hsp;subst hsp;exact .slice (o:=0) hmu hlc (eD _) (by simp)
   .refine .cons ?_ .nil;by_cases hc:cap=0
    .have e:len=0:=by omega
     subst hc;subst e;rw[hl,List.take_zero];exact .lstn λz hz=>by injection hz with hz;rw[<-hz]
    .have hlt:=(hspot (by omega)).2
     have hm:(uf (mD w.heap.size (rows++(m1++[row])))).Y.m (rows++m1).length=C ⟨a1,Zb,s.w⟩:=by
      have:=hget [];rw[aD]at this;simp only[uf,mD,this,zG];exact zE hlt
     have hlen:l.length=len:=by rw[hl,gO];omega
     refine .lst (aL8 _) hm rfl hlen.symm hlc ?_ ?_
     .show 0+len*s.w<=a1.length;rw[hal,fD];exact Nat.mul_le_mul_right _ hlc
     .show F2 _ _ ((a1.drop 0).take (len*s.w));rw[dD,hl]
      have h5:F2 (VRel (uf (mD w.heap.size (rows++(m1++[row]))))) (gu s ys) a1:=by
       rw[<-bB];exact VRel.frames (cF4 _ _ _) h1.vv
      have h6:gu s (ys.take len)=(gu s ys).take (len*s.w):=lr;rw[h6];exact h5.take _
def zd :List Sh->Sh
 |[]=> .bool
 |[a]=>a
 |a::b::r=> .pair a (zd (b::r))
theorem cm9 {w:World}: ∀{l1 l2:List Sh} {c1 c2:List Value},l1≠[]->l2≠[]->(∃x,ki w (zd l1) c1 x)->(∃x,ki w (zd l2) c2 x)->∃x,ki w (zd (l1++l2)) (c1++c2) x
 |[a],b::r,c1,c2,_,_,⟨x,h1⟩,⟨y,h2⟩=>⟨(x,y),c1,c2,rfl,h1,h2⟩
 |a::b::r,l2,c1,c2,_,hl,⟨x,d1,d2,h0,h1,h2⟩,h3=>by
  subst h0;obtain⟨z,h4⟩:=cm9 (l1:=b::r) (by simp) hl ⟨x.2,h2⟩ h3;exact⟨(x.1,z),d1,d2++c2,by rw[bB],h1,h4⟩
def aS8 {α:Type}(P:Program)(r:TypeId->Option (List Sh))(ty:α->TypeId)(off:α->Nat):List α->Nat->Option (List Sh)
 |[],_=>C []
 |f::l,o=>cond (aB (off f) o) (match r (ty f)with
  |some (s::ss)=>cond (aB (s::ss).length (P.cellsOf (ty f))) ((aS8 P r ty off l (o+(s::ss).length)).map ((s::ss)++ ·)) O
  |_=>O) O
def qH (P:Program):Nat->TypeId->Option (List Sh)
 |0,_=>O
 |n+1,t=>match P.underlying t with
  |some (.int k)=>C [.int k]
  |some .bool=>C [.bool]
  |some .string=>C [.str]
  |some (.slice e)=>(match qH P n e with
   |some (s::ss)=>cond (aB (s::ss).length (P.cellsOf e)) (C [.list (zd (s::ss))]) O
   |_=>O)
  |some (.struct fs)=>(match aS8 P (qH P n) Field.type Field.offset fs.toList 0 with
   |some L=>cond (aB L.length (P.cellsOf t)) (C L) O
   |none=>O)
  |some (.array m e)=>(match aS8 P (qH P n) (λ_=>e) (λi=>i*P.cellsOf e) (List.range m) 0 with
   |some L=>cond (aB L.length (P.cellsOf t)) (C L) O
   |none=>O)
  |_=>O
section
variable {H:Type} {enc:TypeId×Value->H} {P:Program} {w:World} {base:Nat} {held:Bool}
theorem az5 {α:Type}{n m:Nat}{ty:α->TypeId}{off:α->Nat}(ih: ∀{t:TypeId} {l:List Sh} {cs:List Value} {x:DataW H×List MemPlace},qH P n t=C l->l≠[]->DataW.trod enc P w base (λ_=>Za) held m t cs=C x->∃y,ki w (zd l) cs y){cs:List Value}:
  ∀(fs:List α) (o:Nat) (L:List Sh),aS8 P (qH P n) ty off fs o=C L->L≠[]->(∀(i:Nat) (f:α),fs[i]?=C f->∃x,DataW.trod enc P w base (λ_=>Za) held m (ty f) ((cs.drop (off f)).take (P.cellsOf (ty f)))=C x)->
   ∃y,ki w (zd L) ((cs.drop o).take L.length) y
 |[],o,L,h,hne,_=>by
  injection h with h
  exact(hne h.symm).elim
 |f::fs,o,L,h,hne,hm=>by
  obtain⟨y,hy⟩:=hm 0 f rfl;simp only[aS8]at h;cases hb:aB (off f) o with
  |false=>rw[hb]at h;cases h
  |true=>
   have hb:=cB hb;subst hb;rw[Nat.beq_refl,zC]at h;cases hr:qH P n (ty f)with
   |none=>rw[hr]at h;cases h
   |some l=>
    rw[hr]at h;cases l with
    |nil=>cases h
    |cons s ss=>
     simp only at h;cases hc:aB (s::ss).length (P.cellsOf (ty f))with
     |false=>rw[hc]at h;cases h
     |true=>
      rw[hc,zC]at h;have hc:=cB hc;rw[<-hc]at hy;have h1:=ih hr (by simp) hy;cases hf:aS8 P (qH P n) ty off fs (off f+(s::ss).length)with
      |none=>rw[hf]at h;cases h
      |some L2=>
       rw[hf,gR]at h;injection h with h
       subst h;rw[dB,List.take_add,List.drop_drop];cases L2 with
       |nil=>
        rw[List.length_nil,List.take_zero,aD,aD];exact h1
       |cons s2 r2=>exact cm9 (by simp) (by simp) h1 (az5 ih fs _ _ hf (by simp) λi g hg=>hm (i+1) g (by simpa using hg))
theorem bL9 {β:Type}{p:Nat->β->Prop}: ∀(n:Nat),(∀i,i<n->∃y,p i y)->∃ys:List β,ys.length=n/\∀i y,ys[i]?=C y->p i y
 |0,_=>⟨[],rfl,λi y h=>by simp at h⟩
 |n+1,h=>by
  obtain⟨ys,h1,h2⟩:=bL9 n λi hi=>h i (by omega)
  obtain⟨y,h3⟩:=h n (by omega);refine⟨ys++[y],by simp[h1],λi z hz=> ?_⟩;by_cases hi:i<ys.length
  .rw[cD hi]at hz;exact h2 i z hz
  .rw[eB (by omega)]at hz
   have:i-ys.length=0:=by
    rcases gQ (i-ys.length)with e|e
    .exact e
    .rw[List.getElem?_eq_none (by simp;omega)]at hz;cases hz
   rw[this]at hz;injection hz with hz
   subst hz;have:i=n:=by omega
   subst this;exact h3
theorem cI5 {a:Addr}{c:Nat}{zs:List Value}(h:w.cells? base a c=C zs):zs.length=c/\∀j z,zs[j]?=C z->w.cell? (a.add j)=C z:=by
 unfold World.cells? at h;split at h
 .have hl:=mapM_some_length h;rw[List.length_range]at hl;refine⟨hl,λj z hz=> ?_⟩
  have hj:j<c:=by
   obtain⟨hj,_⟩:=List.getElem?_eq_some_iff.1 hz;omega
  have:=mapM_some_get h j j (by simp[hj]);rw[this,hz]
 .cases h
theorem cV0 : ∀(l:List Sh),l≠[]->(∀s∈l,s.w=1)->(zd l).w=l.length
 |[a],_,h=>h a (by simp)
 |a::b::r,_,h=>by
  show a.w+(zd (b::r)).w=_;rw[h a (by simp),cV0 (b::r) (by simp) λs hs=>h s (List.mem_cons_of_mem _ hs),gD (as:=b::r)];omega
theorem ca2 {α:Type}{n:Nat}{ty:α->TypeId}{off:α->Nat}(ih: ∀{t:TypeId} {l:List Sh},qH P n t=C l->∀s∈l,s.w=1): ∀(fs:List α) (o:Nat) (L:List Sh),aS8 P (qH P n) ty off fs o=C L->∀s∈L,s.w=1
 |[],o,L,h=>by
  injection h with h
  subst h;intro s hs;cases hs
 |f::fs,o,L,h=>by
  simp only[aS8]at h;cases hb:aB (off f) o with
  |false=>rw[hb]at h;cases h
  |true=>
   rw[hb,zC]at h;cases hr:qH P n (ty f)with
   |none=>rw[hr]at h;cases h
   |some l=>
    rw[hr]at h;cases l with
    |nil=>cases h
    |cons s ss=>
     simp only at h;cases hc:aB (s::ss).length (P.cellsOf (ty f))with
     |false=>rw[hc]at h;cases h
     |true=>
      rw[hc,zC]at h;cases hf:aS8 P (qH P n) ty off fs (o+(s::ss).length)with
      |none=>rw[hf]at h;cases h
      |some L2=>
       rw[hf,gR]at h;injection h with h
       subst h;intro q hq;rcases List.mem_append.1 hq with hq|hq
       .exact ih hr q hq
       .exact ca2 ih fs _ _ hf q hq
theorem ca4 : ∀(n:Nat) {t:TypeId} {l:List Sh},qH P n t=C l->∀s∈l,s.w=1
 |0,t,l,h=>by cases h
 |n+1,t,l,h=>by
  have one: ∀{a:Sh},a.w=1->C [a]=C l->∀s∈l,s.w=1:=by
   intro a ha e;injection e with e
   subst e;intro s hs;rw[List.mem_singleton]at hs;subst hs;exact ha
  simp only[qH]at h;split at h
  .exact one rfl h
  .exact one rfl h
  .exact one rfl h
  .split at h
   .rename_i e hu x s ss hr;cases hc:aB (s::ss).length (P.cellsOf e)with
    |false=>rw[hc]at h;cases h
    |true=>rw[hc,zC]at h;exact one rfl h
   .cases h
  .split at h
   .rename_i L hf;cases hc:aB L.length (P.cellsOf t)with
    |false=>rw[hc]at h;cases h
    |true=>
     rw[hc,zC]at h;injection h with h
     subst h;exact ca2 (λh=>ca4 n h) _ _ _ hf
   .cases h
  .split at h
   .rename_i L hf;cases hc:aB L.length (P.cellsOf t)with
    |false=>rw[hc]at h;cases h
    |true=>
     rw[hc,zC]at h;injection h with h
     subst h;exact ca2 (λh=>ca4 n h) _ _ _ hf
   .cases h
  .cases h
theorem am5 : ∀(n:Nat) {m:Nat} {t:TypeId} {l:List Sh} {cs:List Value} {x:DataW H×List MemPlace},qH P n t=C l->l≠[]->DataW.trod enc P w base (λ_=>Za) held m t cs=C x->∃y,ki w (zd l) cs y
 |0,m,t,l,cs,x,h,_,_=>by cases h
 |n+1,m,t,l,cs,x,h,hne,hd=>by
  simp only[qH]at h;split at h
  .rename_i k hu;injection h with h
   subst h;obtain⟨a,e1,_,e2⟩:=DataW.trod_int hu hd;exact⟨a,e1,e2⟩
  .rename_i hu;injection h with h
   subst h;obtain⟨a,e1,_⟩:=DataW.trod_bool hu hd;exact⟨a,e1⟩
  .rename_i hu;injection h with h
   subst h;obtain⟨a,e1,_,e2⟩:=DataW.trod_string hu hd;exact⟨_,a,e1,rfl,e2⟩
  .rename_i e hu;split at h
   .rename_i s ss hr;cases hc:aB (s::ss).length (P.cellsOf e)with
    |false=>rw[hc]at h;cases h
    |true=>
     rw[hc,zC]at h;injection h with h
     subst h;have hc:=cB hc;have hw:(zd (s::ss)).w=P.cellsOf e:=by rw[cV0 _ (by simp) (ca4 n hr),hc]
     rcases DataW.trod_slice hu hd with⟨e1,_⟩|⟨a,len,cap,elems,rest,m',_,e1,_,hb,hlc,hcm,hel,he,hrest⟩
     .exact⟨([]:List (El (zd (s::ss)))), .inl ⟨e1,rfl⟩⟩
     .have hall: ∀i,i<cap->∃y:El (zd (s::ss)),∃zs,(∀j z,zs[j]?=C z->w.cell? (a.add (i*(zd (s::ss)).w+j))=C z)/\ki w (zd (s::ss)) zs y:=by
       intro i hi
       have hsome: ∃q,(w.cells? base (a.add (i*P.cellsOf e)) (P.cellsOf e)).bind (DataW.trod enc P w base (λ_=>Za) held m' e)=C q:=by
        by_cases hi2:i<len
        .rw[he i hi2];exact⟨_,bD (by omega)⟩
        .obtain⟨h8,h9⟩:=hrest.1 rfl;have:=h9 (i-len) (by omega);rw[show len+(i-len)=i by omega]at this;rw[this];exact⟨_,bD (by omega)⟩
       obtain⟨q,hq⟩:=hsome;obtain⟨zs,h1,h2⟩:=bx hq;obtain⟨y,h3⟩:=am5 n hr (by simp) h2;obtain⟨h4,h5⟩:=cI5 h1;exact⟨y,zs,λj z hz=>by rw[hw,<-db2];exact h5 j z hz,h3⟩
      obtain⟨ys,h6,h7⟩:=bL9 cap hall;exact⟨ys.take len, .inr ⟨a,len,cap,ys,e1,hlc,hcm,h6,rfl,h7⟩⟩
   .cases h
  .rename_i fs hu;split at h
   .rename_i L hf;cases hc:aB L.length (P.cellsOf t)with
    |false=>rw[hc]at h;cases h
    |true=>
     rw[hc,zC]at h;injection h with h
     subst h;have hc:=cB hc;obtain⟨xs,m',_,_,hl,hxl,hx⟩:=DataW.trod_struct hu hd
     have:=az5 (cs:=cs) (λh1 h2 h3=>am5 n (m:=m') h1 h2 h3) fs.toList 0 _ hf hne λi f hi=>by
      have hi':fs[i]?=C f:=by rw[<-Array.getElem?_toList];exact hi
      have:=hx i f hi';rw[this]
      have:i<xs.length:=by
       obtain⟨h9,_⟩:=List.getElem?_eq_some_iff.1 hi;rw[hxl];simpa using h9
      exact⟨_,bD this⟩
     rw[dD,gP (by omega)]at this;exact this
   .cases h
  .rename_i k e hu;split at h
   .rename_i L hf;cases hc:aB L.length (P.cellsOf t)with
    |false=>rw[hc]at h;cases h
    |true=>
     rw[hc,zC]at h;injection h with h
     subst h;have hc:=cB hc;obtain⟨xs,m',_,_,hl,hxl,hx⟩:=DataW.trod_array hu hd
     have:=az5 (cs:=cs) (λh1 h2 h3=>am5 n (m:=m') h1 h2 h3) (List.range k) 0 _ hf hne λi f hi=>by
      obtain⟨h9,h10⟩:=List.getElem?_eq_some_iff.1 hi;rw[List.getElem_range]at h10;subst h10;have h9:i<k:=by simpa using h9
      have:=hx i h9;rw[this];exact⟨_,bD (by omega)⟩
     rw[dD,gP (by omega)]at this;exact this
   .cases h
  .cases h
end
def isAgg (P:Program)(t:TypeId):Bool:=match P.underlying t with
 |some (.struct _)|some (.array _ _)=>Za
 |_=>Zb
def as9 (w:World):(b:Bool)->(s:Sh)->Value->El s->Prop
 |true,s,v,x=> ∃cs,v= .agg cs/\ki w s cs.toList x
 |false,s,v,x=>ki w s [v] x
theorem aU1 {H:Type}{enc:TypeId×Value->H}{P:Program}{w:World}{base:Nat}{held:Bool}{n:Nat}{t:TypeId}{l:List Sh}{r:Reach}{b0:Nat}{v:Value}{d:DataW H}{ps:List MemPlace}(hl:qH P n t=C l)(hne:l≠[])
  (hval:Value.okWide P w r b0 t v) (hd:DataW.Trod enc P w base (λ_=>Za) held t v d ps): ∃x:El (zd l),as9 w (isAgg P t) (zd l) v x:=by
 obtain⟨fuel,hf⟩:=hd;obtain⟨x,hx⟩:=am5 n hl hne hf;refine⟨x, ?_⟩
 have cell:isAgg P t=Zb->(∀cs,v≠ .agg cs)->as9 w (isAgg P t) (zd l) v x:=by
  intro h1 h2;rw[h1]
  have:v.cells.toList=[v]:=by
   unfold Value.cells;split
   .rename_i cs;exact(h2 cs rfl).elim
   .rfl
  rw[this]at hx;exact hx
 cases n with
 |zero=>cases hl
 |succ n=>
  simp only[qH]at hl;split at hl
  .rename_i k hu;refine cell (by simp[isAgg,hu]) λcs e=> ?_
   subst e;simp[Value.okWide,hu,Cell.okWide,Cell.ok]at hval
  .rename_i hu;refine cell (by simp[isAgg,hu]) λcs e=> ?_
   subst e;simp[Value.okWide,hu,Cell.okWide,Cell.ok]at hval
  .rename_i hu;refine cell (by simp[isAgg,hu]) λcs e=> ?_
   subst e;simp[Value.okWide,hu,Cell.okWide,Cell.ok]at hval
  .rename_i e hu;refine cell (by simp[isAgg,hu]) λcs e=> ?_
   subst e;simp[Value.okWide,hu,Cell.okWide,Cell.ok]at hval
  .rename_i fs hu;simp only[Value.okWide,hu]at hval;obtain⟨cs,rfl,_,_⟩:=hval;rw[show isAgg P t=Za by simp[isAgg,hu]];exact⟨cs,rfl,hx⟩
  .rename_i k e hu;simp only[Value.okWide,hu]at hval;obtain⟨cs,rfl,_,_⟩:=hval;rw[show isAgg P t=Za by simp[isAgg,hu]];exact⟨cs,rfl,hx⟩
  .cases hl
@[reducible] def All :List (Bool×Sh)->Type
 |[]=>Unit
 |[k]=>El k.2
 |k::k'::r=>El k.2×All (k'::r)
def bN9 (w:World):(ks:List (Bool×Sh))->List Value->All ks->Prop
 |[],vs,_=>vs=[]
 |[k],vs,x=> ∃v,vs=[v]/\as9 w k.1 k.2 v x
 |k::k'::r,vs,x=> ∃v us,vs=v::us/\as9 w k.1 k.2 v x.1/\bN9 w (k'::r) us x.2
def dq3 (k:Bool×Sh)(x:El k.2):VV:=cond k.1 (.agg (et k.2 x)) ((et k.2 x).headD .undef)
def cQ4 :(ks:List (Bool×Sh))->All ks->List VV
 |[],_=>[]
 |[k],x=>[dq3 k x]
 |k::k'::r,x=>dq3 k x.1::cQ4 (k'::r) x.2
theorem bJ2 {w:World}{k:Bool×Sh}{v:Value}{x:El k.2}(h:as9 w k.1 k.2 v x){rows:List Row}(hr:yi w rows): ∃more av,Built w rows more [av] [v] [dq3 k x]:=by
 obtain⟨b,s⟩:=k;cases b with
 |true=>
  obtain⟨cs,rfl,h1⟩:=h;obtain⟨more,acs,h2⟩:=build s h1 hr;exact⟨more, .agg acs.toArray,h2.ok, .cons (.agg (by simpa using h2.vr)) .nil, .cons (.agg (by simpa using h2.vv)) .nil⟩
 |false=>
  obtain⟨more,acs,h2⟩:=build s h hr;have h3:=h2.vr;have h4:=h2.vv;cases h3 with
  | @cons a _ as _ h5 h6=>
   cases h6;refine⟨more,a,h2.ok, .cons h5 .nil, ?_⟩;show F2 _ [(et s x).headD .undef] _;generalize et s x=l at*;cases h4 with
   |cons h7 h8=>
    cases h8;exact .cons h7 .nil
theorem bs7 {w:World}: ∀(ks:List (Bool×Sh)) {vs:List Value} {x:All ks},bN9 w ks vs x->∀{rows:List Row},yi w rows->∃more avs,Built w rows more avs vs (cQ4 ks x)
 |[],vs,x,h,rows,hr=>by
  have h:vs=[]:=h;subst h;exact⟨[],[], .nil hr⟩
 |[k],vs,x,⟨v,h,h1⟩,rows,hr=>by
  subst h;obtain⟨more,av,h2⟩:=bJ2 h1 hr;exact⟨more,[av],h2⟩
 |k::k'::r,vs,x,⟨v,us,h,h1,h2⟩,rows,hr=>by
  subst h;obtain⟨m1,av,h3⟩:=bJ2 h1 hr;obtain⟨m2,avs,h4⟩:=bs7 (k'::r) h2 h3.ok;exact⟨m1++m2,av::avs,h3.app h4⟩
def inK (k:IntKind)(n:Int):Prop:=match k with
 | .i64=> -9223372036854775808<=n/\n<=9223372036854775807
 | .u64=>0<=n/\n<=18446744073709551615
 | .u8=>0<=n/\n<=255
 |_=>True
theorem dr8 {k:IntKind}{n:Int}(h:(Lit.int k n).wf=Za):inK k n:=by
 cases k<;>first|trivial|exact du8 h|exact du9 h|exact dC8 h
def cG9 :(s:Sh)->El s->Prop
 | .int k,n=>inK k n
 | .bool,_=>True
 | .str,l=>l.length<=9223372036854775807/\∀n∈l,0<=n/\n<=255
 | .list s,l=>l.length<=9223372036854775807/\∀x∈l,cG9 s x
 | .pair a b,x=>cG9 a x.1/\cG9 b x.2
theorem ki.fine {w:World}: ∀{s:Sh} {cs:List Value} {x:El s},ki w s cs x->cG9 s x
 | .int k,_,_,⟨_,h⟩=>dr8 h
 | .bool,_,_,_=>trivial
 | .str,_,_,⟨s,_,h,hm⟩=>by
  subst h;refine⟨?_,λn hn=> ?_⟩
  .unfold jN;rw[List.length_map];unfold maxLen at hm;simpa using hm
  .unfold jN at hn;obtain⟨b,_,rfl⟩:=List.mem_map.1 hn;have:=b.toNat_lt;omega
 | .list s,_,l,h=>by
  rcases h with⟨_,h⟩|⟨a,len,cap,ys,_,hlc,hcm,hyl,hl,hy⟩
  .subst h;exact⟨Nat.zero_le _,λx hx=>by cases hx⟩
  .subst hl;refine⟨by rw[gO];unfold maxLen at hcm;omega,λx hx=> ?_⟩;obtain⟨i,hi,rfl⟩:=List.getElem_of_mem (List.mem_of_mem_take hx);obtain⟨zs,_,h⟩:=hy i _ (bD hi);exact h.fine
 | .pair a b,_,_,⟨c1,c2,_,h1,h2⟩=>⟨h1.fine,h2.fine⟩
theorem as9.fine {w:World}{b:Bool}{s:Sh}{v:Value}{x:El s}(h:as9 w b s v x):cG9 s x:=by
 cases b with
 |true=>obtain⟨cs,_,h⟩:=h;exact h.fine
 |false=>exact ki.fine h
theorem cT5 {P:Program}{f:FuncId}{vals:List Sk}{run:Tup (yj.shs ⟨vals,[],[]⟩)->Option (vk aL9)}(h:wv P ⟨f,vals,[],aL9,run⟩){w:World}(hT:cH1 P w){cargs:Array Value}(ks:List (Bool×Sh))(x:All ks)(t:Tup (yj.shs ⟨vals,[],[]⟩))
  (hA:bN9 w ks cargs.toList x) (hd:((nW [] 0 [] ⟨vals,[],[]⟩ (cQ4 ks x)).bind λst=>ofL _ st.ls)=C t) (hr:run t=C Za):
  Calls P f cargs w λe w'=>e= .returned (.bool Za)/\Go.RowKit.Below w.heap.size w w':=by
 obtain⟨rows,avs,h1⟩:=bs7 ks hA (rows:=[]) (λr hr=>by cases hr);exact cK3 h hT t h1.ok h1.vr h1.vv hd hr
end
end Go.V
