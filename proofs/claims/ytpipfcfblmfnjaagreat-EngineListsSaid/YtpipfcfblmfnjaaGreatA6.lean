/- A part of the proofs of this claim: what functions of the program answer on an abstract machine, and plain laws. No condition. -/
import Derived.Test.YtpipfcfblmfnjaaGreatA5
import Derived.ProofKit
import Derived.OpenShut
import Derived.ChangeArms
import Derived.Below
set_option linter.unusedVariables false
set_option linter.unusedSimpArgs false
set_option linter.unusedSectionVars false
namespace Go.V
open Go.Ab
section
open List renaming append_nil → aD, append_assoc → aW, getElem?_eq_getElem → aX, getElem?_append_left → aZ, length_append → bA, drop_zero → bB, getElem?_append_right → bC, length_cons → bH, length_take → bI, take_of_length_le → bJ
open Nat renaming beq → aB, eq_of_beq_eq_true → aY, le_refl → bD, not_lt_zero → bE, zero_add → bF, zero_mul → bG, eq_zero_or_pos → bK
open Option renaming map_some → bL
def eF (w:World):(s:Sh)→List Value→El s→Prop
 | .int k,cs,n=>cs=[.int k n]∧(Lit.int k n).wf=true
 | .bool,cs,b=>cs=[.bool b]
 | .str,cs,l=> ∃s:ByteArray,cs=[.string s]∧gM s=l∧s.size≤maxLen
 | .list s,cs,l=>(cs=[.slice none 0 0]∧l=[])∨∃(a:Addr) (len cap:Nat) (ys:List (El s)),cs=[.slice (some a) len cap]∧len≤cap∧cap≤maxLen∧ys.length=cap∧l=ys.take len∧
   ∀i y,ys[i]?=some y→∃zs,(∀j z,zs[j]?=some z→w.cell? (a.add (i*s.w+j))=some z)∧eF w s zs y
 | .pair a b,cs,x=> ∃c1 c2,cs=c1++c2∧eF w a c1 x.1∧eF w b c2 x.2
theorem eF.len {w:World}: ∀{s:Sh} {cs:List Value} {x:El s},eF w s cs x→cs.length=s.w
 | .int k,_,_,⟨h,_⟩=>by subst h;rfl
 | .bool,_,_,h=>by
  have h:_=[Value.bool _]:=h;subst h;rfl
 | .str,_,_,⟨s,h,_⟩=>by subst h;rfl
 | .list s,_,_,h=>by
  rcases h with⟨h,_⟩|⟨a,len,cap,ys,h,_⟩<;>subst h<;>rfl
 | .pair a b,_,_,⟨c1,c2,h,h1,h2⟩=>by
  subst h;rw[bA,h1.len,h2.len];rfl
def tY (w:World)(rows:List Row):Prop:= ∀r∈rows,∀(i:Nat) (v:Value),r.cells[i]?=some v→∃v',w.cell? ⟨r.c,r.o+i,none⟩=some v'∧VR (kq rows) v v'
theorem bu9 (rows more:List Row):(kq rows).le (kq (rows++more)):=by
 intro b g h;simp only[kq]at h⊢;cases hr:rows[b]? with
 |none=>rw[hr]at h;cases h
 |some r=>
  rw[hr]at h;obtain⟨hb,hr'⟩:=List.getElem?_eq_some_iff.1 hr;rw[aZ hb,hr];exact h
theorem bV4 (size:Nat)(rows more:List Row):Le (qD (jK size rows)) (qD (jK size (rows++more))):=by
 have hs: ∀k,cl ([]:co) k= .dead:=fun k=>by cases k<;>rfl
 refine⟨bD _,fun k d h=>(bE _ h).elim,fun k _ h=> ?_,fun k d b y h=>(bE _ h).elim,fun b y h _=> ?_,fun b y _ _ h=>(aq3 b (.inl h)).elim, ?_,rfl⟩
 ·rfl
 ·simp only[qD,jK]at h⊢;cases hr:rows[b]? with
  |none=>rw[hr]at h;cases h
  |some r=>
   rw[hr]at h;obtain⟨hb,hr'⟩:=List.getElem?_eq_some_iff.1 hr;rw[aZ hb,hr];exact h
 ·show rows.length≤(rows++more).length;rw[bA];omega
theorem ce2 {μ μ':Mu}(h:μ.le μ'){l m:List Value}(hf:F2 (VR μ) l m):F2 (VR μ') l m:=hf.imp fun _ _ hv=>hv.mono h
theorem tY.app {w:World}{rows more:List Row}(h:tY w rows)(hm: ∀r∈more,∀(i:Nat) (v:Value),r.cells[i]?=some v→∃v',w.cell? ⟨r.c,r.o+i,none⟩=some v'∧VR (kq (rows++more)) v v'):tY w (rows++more):=by
 intro r hr i v hv;rcases List.mem_append.1 hr with hr|hr
 ·obtain⟨v',h1,h2⟩:=h r hr i v hv;exact⟨v',h1,h2.mono (bu9 _ _)⟩
 ·exact hm r hr i v hv
theorem cp7 (a:Addr)(i j:Nat):(a.add i).add j=a.add (i+j):=by
 unfold Addr.add;by_cases hj:j=0
 ·subst hj;simp
 ·by_cases hi:i=0
  ·subst hi;simp
  ·simp[hi,hj,Nat.add_assoc]
structure Built (w:World)(rows more:List Row)(acs cs:List Value)(vs:List VV):Prop where
 ok:tY w (rows++more)
 vr:F2 (VR (kq (rows++more))) acs cs
 vv:F2 (VRel (qD (jK w.heap.size (rows++more)))) vs acs
theorem Built.app {w:World}{rows m1 m2:List Row}{a1 a2 c1 c2:List Value}{v1 v2:List VV}(h1:Built w rows m1 a1 c1 v1)(h2:Built w (rows++m1) m2 a2 c2 v2):Built w rows (m1++m2) (a1++a2) (c1++c2) (v1++v2):=by
 refine⟨?_, ?_, ?_⟩
 ·rw[←aW];exact h2.ok
 ·rw[←aW];exact(ce2 (bu9 _ _) h1.vr).append h2.vr
 ·rw[←aW];exact(VRel.frames (bV4 _ _ _) h1.vv).append h2.vv
theorem Built.nil {w:World}{rows:List Row}(h:tY w rows):Built w rows [] [] [] []:=⟨by rw[aD];exact h, .nil, .nil⟩
theorem cg1 {w:World}{s:Sh}(ih: ∀{cs:List Value} {x:El s},eF w s cs x→∀{rows:List Row},tY w rows→∃more acs,Built w rows more acs cs (ei s x))(a:Addr): ∀(ys:List (El s)) (k:Nat),
  (∀i y,ys[i]?=some y→∃zs,(∀j z,zs[j]?=some z→w.cell? (a.add ((k+i)*s.w+j))=some z)∧eF w s zs y)→∀{rows:List Row},tY w rows→
  ∃more acs ccs,Built w rows more acs ccs (fg s ys)∧ccs.length=ys.length*s.w∧∀i z,ccs[i]?=some z→w.cell? (a.add (k*s.w+i))=some z
 |[],k,_,rows,h=>⟨[],[],[], .nil h,by simp,fun i z hz=>by simp at hz⟩
 |y::ys,k,hy,rows,h=>by
  obtain⟨zs,h1,h2⟩:=hy 0 y rfl;obtain⟨m1,a1,h3⟩:=ih h2 h
  obtain⟨m2,a2,c2,h4,h5,h6⟩:=cg1 ih a ys (k+1) (fun i y' hy'=>by
   obtain⟨zs',h7,h8⟩:=hy (i+1) y' (by simpa using hy')
   exact⟨zs',fun j z hz=>by rw[show k+1+i=k+(i+1)by omega];exact h7 j z hz,h8⟩) h3.ok
  refine⟨m1++m2,a1++a2,zs++c2, ?_, ?_,fun i z hz=> ?_⟩
  ·have:=h3.app h4;rw[fK];exact this
  ·rw[bA,h5,h2.len,bH,Nat.succ_mul];omega
  ·have hl:=h2.len;by_cases hi:i<zs.length
   ·rw[aZ hi]at hz;have:=h1 i z hz
    rwa [Nat.add_zero]at this
   ·rw[bC (by omega)]at hz;have:=h6 _ z hz;rw[show(k+1)*s.w+(i-zs.length)=k*s.w+i by rw[Nat.succ_mul];omega]at this;exact this
theorem build {w:World}: ∀(s:Sh) {cs:List Value} {x:El s},eF w s cs x→∀{rows:List Row},tY w rows→∃more acs,Built w rows more acs cs (ei s x)
 | .int k,_,n,⟨h,_⟩,rows,hr=>by
  subst h;exact⟨[],_,by rw[aD];exact hr, .cons (.int _ _) .nil, .cons (.int _ _) .nil⟩
 | .bool,_,b,h,rows,hr=>by
  have h:_=[Value.bool _]:=h;subst h;exact⟨[],_,by rw[aD];exact hr, .cons (.bool _) .nil, .cons (.bool _) .nil⟩
 | .str,_,l,⟨s,h,h2,_⟩,rows,hr=>by
  subst h;exact⟨[],_,by rw[aD];exact hr, .cons (.string _) .nil, .cons (.str h2) .nil⟩
 | .pair a b,_,x,⟨c1,c2,h,h1,h2⟩,rows,hr=>by
  subst h;obtain⟨m1,a1,h3⟩:=build a h1 hr;obtain⟨m2,a2,h4⟩:=build b h2 h3.ok;exact⟨m1++m2,a1++a2,h3.app h4⟩
 | .list s,_,l,h,rows,hr=>by
  rcases h with⟨h,h2⟩|⟨a,len,cap,ys,h,hlc,hcm,hyl,hl,hy⟩
  ·subst h;subst h2;exact⟨[],_,by rw[aD];exact hr, .cons .nils .nil, .cons (.lstn fun z hz=>by cases hz) .nil⟩
  ·subst h;obtain⟨m1,a1,c1,h1,h2,h3⟩:=cg1 (fun hc=>build s hc) a ys 0 (fun i y h=>by rw[bF];exact hy i y h) hr;have hw:=kv s;rw[hyl]at h2;have hal:a1.length=cap*s.w:=by rw[h1.vr.length,h2]
   let row:Row:=⟨a.block,a.off,cap*s.w,s.w,a1⟩
   have hspot:0<cap→a.spot=none∧a.block<w.heap.size:=by
    intro hc;have hlt:0<c1.length:=by rw[h2];exact Nat.mul_pos hc hw
    have:=h3 0 _ (aX hlt);rw[bG,Nat.add_zero]at this;have hsp:=ak0 this;exact⟨hsp,bq9 (x:=⟨a.block,a.off+0,none⟩) (ub hsp this)⟩
   have hget: ∀(rs:List Row),(rows++(m1++[row])++rs)[(rows++m1).length]?=some row:=by
    intro rs;rw[←aW,aW _ [row],bC (bD _),Nat.sub_self];rfl
   have hmu:(kq (rows++(m1++[row]))).at (rows++m1).length ⟨a.block,a.off,cap*s.w,s.w,0,none⟩:=by
    have:=hget [];rw[aD]at this;refine⟨?_,rfl⟩;simp only[kq,this];rfl
   have hok:tY w (rows++(m1++[row])):=by
    rw[←aW];refine h1.ok.app fun r hr' i v hv=> ?_
    have:r=row:=by simpa using hr'
    subst this;obtain⟨v',q1,q2⟩:=h1.vr.get i v hv;have hc:=h3 i v' q1;rw[bG,bF]at hc
    have hcap:0<cap:=by
     rcases bK cap with e|e
     ·have hv:a1[i]?=some v:=hv;obtain⟨hi,_⟩:=List.getElem?_eq_some_iff.1 hv;rw[hal,e,bG]at hi;exact(bE _ hi).elim
     ·exact e
    exact⟨v',ub (hspot hcap).1 hc,q2.mono (bu9 _ _)⟩
   refine⟨m1++[row],[.slice (some ⟨(rows++m1).length,0,none⟩) len cap],hok, ?_, ?_⟩
   ·refine .cons ?_ .nil;by_cases hc:cap=0
    ·have:len=0:=by omega
     subst hc;subst this;exact .slice0 _ hmu
    ·have hsp:=(hspot (by omega)).1;obtain⟨b,o,sp⟩:=a;simp only at hsp;subst hsp;exact .slice (o:=0) hmu hlc (bD _) (by simp)
   ·refine .cons ?_ .nil;by_cases hc:cap=0
    ·have e:len=0:=by omega
     subst hc;subst e;rw[hl,List.take_zero];exact .lstn fun z hz=>by injection hz with hz;rw[←hz]
    ·have hlt:=(hspot (by omega)).2
     have hm:(qD (jK w.heap.size (rows++(m1++[row])))).σ.m (rows++m1).length=some ⟨a1,false,s.w⟩:=by
      have:=hget [];rw[aD]at this;simp only[qD,jK,this,zG];exact zE hlt
     have hlen:l.length=len:=by rw[hl,bI];omega
     refine .lst (aq3 _) hm rfl hlen.symm hlc ?_ ?_
     ·show 0+len*s.w≤a1.length;rw[hal,bF];exact Nat.mul_le_mul_right _ hlc
     ·show F2 _ _ ((a1.drop 0).take (len*s.w));rw[bB,hl]
      have h5:F2 (VRel (qD (jK w.heap.size (rows++(m1++[row]))))) (fg s ys) a1:=by
       rw[←aW];exact VRel.frames (bV4 _ _ _) h1.vv
      have h6:fg s (ys.take len)=(fg s ys).take (len*s.w):=iY;rw[h6];exact h5.take _
def uT :List Sh→Sh
 |[]=> .bool
 |[a]=>a
 |a::b::r=> .pair a (uT (b::r))
theorem bC7 {w:World}: ∀{l1 l2:List Sh} {c1 c2:List Value},l1≠[]→l2≠[]→(∃x,eF w (uT l1) c1 x)→(∃x,eF w (uT l2) c2 x)→∃x,eF w (uT (l1++l2)) (c1++c2) x
 |[a],b::r,c1,c2,_,_,⟨x,h1⟩,⟨y,h2⟩=>⟨(x,y),c1,c2,rfl,h1,h2⟩
 |a::b::r,l2,c1,c2,_,hl,⟨x,d1,d2,h0,h1,h2⟩,h3=>by
  subst h0;obtain⟨z,h4⟩:=bC7 (l1:=b::r) (by simp) hl ⟨x.2,h2⟩ h3;exact⟨(x.1,z),d1,d2++c2,by rw[aW],h1,h4⟩
def av8 {α:Type}(P:Program)(r:TypeId→Option (List Sh))(ty:α→TypeId)(off:α→Nat):List α→Nat→Option (List Sh)
 |[],_=>some []
 |f::l,o=>cond (aB (off f) o) (match r (ty f)with
  |some (s::ss)=>cond (aB (s::ss).length (P.cellsOf (ty f))) ((av8 P r ty off l (o+(s::ss).length)).map ((s::ss)++ ·)) none
  |_=>none) none
def pU (P:Program):Nat→TypeId→Option (List Sh)
 |0,_=>none
 |n+1,t=>match P.underlying t with
  |some (.int k)=>some [.int k]
  |some .bool=>some [.bool]
  |some .string=>some [.str]
  |some (.slice e)=>(match pU P n e with
   |some (s::ss)=>cond (aB (s::ss).length (P.cellsOf e)) (some [.list (uT (s::ss))]) none
   |_=>none)
  |some (.struct fs)=>(match av8 P (pU P n) Field.type Field.offset fs.toList 0 with
   |some L=>cond (aB L.length (P.cellsOf t)) (some L) none
   |none=>none)
  |some (.array m e)=>(match av8 P (pU P n) (fun _=>e) (fun i=>i*P.cellsOf e) (List.range m) 0 with
   |some L=>cond (aB L.length (P.cellsOf t)) (some L) none
   |none=>none)
  |_=>none
section
variable {H:Type} {enc:TypeId×Value→H} {P:Program} {w:World} {base:Nat} {held:Bool}
theorem af3 {α:Type}{n m:Nat}{ty:α→TypeId}{off:α→Nat}(ih: ∀{t:TypeId} {l:List Sh} {cs:List Value} {x:DataW H×List MemPlace},pU P n t=some l→l≠[]→DataW.trod enc P w base (fun _=>true) held m t cs=some x→∃y,eF w (uT l) cs y){cs:List Value}:
  ∀(fs:List α) (o:Nat) (L:List Sh),av8 P (pU P n) ty off fs o=some L→L≠[]→(∀(i:Nat) (f:α),fs[i]?=some f→∃x,DataW.trod enc P w base (fun _=>true) held m (ty f) ((cs.drop (off f)).take (P.cellsOf (ty f)))=some x)→
   ∃y,eF w (uT L) ((cs.drop o).take L.length) y
 |[],o,L,h,hne,_=>by
  injection h with h
  exact(hne h.symm).elim
 |f::fs,o,L,h,hne,hm=>by
  obtain⟨y,hy⟩:=hm 0 f rfl;simp only[av8]at h;cases hb:aB (off f) o with
  |false=>rw[hb]at h;cases h
  |true=>
   have hb:=aY hb;subst hb;rw[Nat.beq_refl,zC]at h;cases hr:pU P n (ty f)with
   |none=>rw[hr]at h;cases h
   |some l=>
    rw[hr]at h;cases l with
    |nil=>cases h
    |cons s ss=>
     simp only at h;cases hc:aB (s::ss).length (P.cellsOf (ty f))with
     |false=>rw[hc]at h;cases h
     |true=>
      rw[hc,zC]at h;have hc:=aY hc;rw[←hc]at hy;have h1:=ih hr (by simp) hy;cases hf:av8 P (pU P n) ty off fs (off f+(s::ss).length)with
      |none=>rw[hf]at h;cases h
      |some L2=>
       rw[hf,bL]at h;injection h with h
       subst h;rw[bA,List.take_add,List.drop_drop];cases L2 with
       |nil=>
        rw[List.length_nil,List.take_zero,aD,aD];exact h1
       |cons s2 r2=>exact bC7 (by simp) (by simp) h1 (af3 ih fs _ _ hf (by simp) fun i g hg=>hm (i+1) g (by simpa using hg))
theorem bi4 {β:Type}{p:Nat→β→Prop}: ∀(n:Nat),(∀i,i<n→∃y,p i y)→∃ys:List β,ys.length=n∧∀i y,ys[i]?=some y→p i y
 |0,_=>⟨[],rfl,fun i y h=>by simp at h⟩
 |n+1,h=>by
  obtain⟨ys,h1,h2⟩:=bi4 n fun i hi=>h i (by omega)
  obtain⟨y,h3⟩:=h n (by omega);refine⟨ys++[y],by simp[h1],fun i z hz=> ?_⟩;by_cases hi:i<ys.length
  ·rw[aZ hi]at hz;exact h2 i z hz
  ·rw[bC (by omega)]at hz
   have:i-ys.length=0:=by
    rcases bK (i-ys.length)with e|e
    ·exact e
    ·rw[List.getElem?_eq_none (by simp;omega)]at hz;cases hz
   rw[this]at hz;injection hz with hz
   subst hz;have:i=n:=by omega
   subst this;exact h3
theorem bY1 {a:Addr}{c:Nat}{zs:List Value}(h:w.cells? base a c=some zs):zs.length=c∧∀j z,zs[j]?=some z→w.cell? (a.add j)=some z:=by
 unfold World.cells? at h;split at h
 ·have hl:=mapM_some_length h;rw[List.length_range]at hl;refine⟨hl,fun j z hz=> ?_⟩
  have hj:j<c:=by
   obtain⟨hj,_⟩:=List.getElem?_eq_some_iff.1 hz;omega
  have:=mapM_some_get h j j (by simp[hj]);rw[this,hz]
 ·cases h
theorem ck3 : ∀(l:List Sh),l≠[]→(∀s∈l,s.w=1)→(uT l).w=l.length
 |[a],_,h=>h a (by simp)
 |a::b::r,_,h=>by
  show a.w+(uT (b::r)).w=_;rw[h a (by simp),ck3 (b::r) (by simp) fun s hs=>h s (List.mem_cons_of_mem _ hs),bH (as:=b::r)];omega
theorem bs6 {α:Type}{n:Nat}{ty:α→TypeId}{off:α→Nat}(ih: ∀{t:TypeId} {l:List Sh},pU P n t=some l→∀s∈l,s.w=1): ∀(fs:List α) (o:Nat) (L:List Sh),av8 P (pU P n) ty off fs o=some L→∀s∈L,s.w=1
 |[],o,L,h=>by
  injection h with h
  subst h;intro s hs;cases hs
 |f::fs,o,L,h=>by
  simp only[av8]at h;cases hb:aB (off f) o with
  |false=>rw[hb]at h;cases h
  |true=>
   rw[hb,zC]at h;cases hr:pU P n (ty f)with
   |none=>rw[hr]at h;cases h
   |some l=>
    rw[hr]at h;cases l with
    |nil=>cases h
    |cons s ss=>
     simp only at h;cases hc:aB (s::ss).length (P.cellsOf (ty f))with
     |false=>rw[hc]at h;cases h
     |true=>
      rw[hc,zC]at h;cases hf:av8 P (pU P n) ty off fs (o+(s::ss).length)with
      |none=>rw[hf]at h;cases h
      |some L2=>
       rw[hf,bL]at h;injection h with h
       subst h;intro q hq;rcases List.mem_append.1 hq with hq|hq
       ·exact ih hr q hq
       ·exact bs6 ih fs _ _ hf q hq
theorem bs8 : ∀(n:Nat) {t:TypeId} {l:List Sh},pU P n t=some l→∀s∈l,s.w=1
 |0,t,l,h=>by cases h
 |n+1,t,l,h=>by
  have one: ∀{a:Sh},a.w=1→some [a]=some l→∀s∈l,s.w=1:=by
   intro a ha e;injection e with e
   subst e;intro s hs;rw[List.mem_singleton]at hs;subst hs;exact ha
  simp only[pU]at h;split at h
  ·exact one rfl h
  ·exact one rfl h
  ·exact one rfl h
  ·split at h
   ·rename_i e hu x s ss hr;cases hc:aB (s::ss).length (P.cellsOf e)with
    |false=>rw[hc]at h;cases h
    |true=>rw[hc,zC]at h;exact one rfl h
   ·cases h
  ·split at h
   ·rename_i L hf;cases hc:aB L.length (P.cellsOf t)with
    |false=>rw[hc]at h;cases h
    |true=>
     rw[hc,zC]at h;injection h with h
     subst h;exact bs6 (fun h=>bs8 n h) _ _ _ hf
   ·cases h
  ·split at h
   ·rename_i L hf;cases hc:aB L.length (P.cellsOf t)with
    |false=>rw[hc]at h;cases h
    |true=>
     rw[hc,zC]at h;injection h with h
     subst h;exact bs6 (fun h=>bs8 n h) _ _ _ hf
   ·cases h
  ·cases h
theorem yv : ∀(n:Nat) {m:Nat} {t:TypeId} {l:List Sh} {cs:List Value} {x:DataW H×List MemPlace},pU P n t=some l→l≠[]→DataW.trod enc P w base (fun _=>true) held m t cs=some x→∃y,eF w (uT l) cs y
 |0,m,t,l,cs,x,h,_,_=>by cases h
 |n+1,m,t,l,cs,x,h,hne,hd=>by
  simp only[pU]at h;split at h
  ·rename_i k hu;injection h with h
   subst h;obtain⟨a,e1,_,e2⟩:=DataW.trod_int hu hd;exact⟨a,e1,e2⟩
  ·rename_i hu;injection h with h
   subst h;obtain⟨a,e1,_⟩:=DataW.trod_bool hu hd;exact⟨a,e1⟩
  ·rename_i hu;injection h with h
   subst h;obtain⟨a,e1,_,e2⟩:=DataW.trod_string hu hd;exact⟨_,a,e1,rfl,e2⟩
  ·rename_i e hu;split at h
   ·rename_i s ss hr;cases hc:aB (s::ss).length (P.cellsOf e)with
    |false=>rw[hc]at h;cases h
    |true=>
     rw[hc,zC]at h;injection h with h
     subst h;have hc:=aY hc;have hw:(uT (s::ss)).w=P.cellsOf e:=by rw[ck3 _ (by simp) (bs8 n hr),hc]
     rcases DataW.trod_slice hu hd with⟨e1,_⟩|⟨a,len,cap,elems,rest,m',_,e1,_,hb,hlc,hcm,hel,he,hrest⟩
     ·exact⟨([]:List (El (uT (s::ss)))), .inl ⟨e1,rfl⟩⟩
     ·have hall: ∀i,i<cap→∃y:El (uT (s::ss)),∃zs,(∀j z,zs[j]?=some z→w.cell? (a.add (i*(uT (s::ss)).w+j))=some z)∧eF w (uT (s::ss)) zs y:=by
       intro i hi
       have hsome: ∃q,(w.cells? base (a.add (i*P.cellsOf e)) (P.cellsOf e)).bind (DataW.trod enc P w base (fun _=>true) held m' e)=some q:=by
        by_cases hi2:i<len
        ·rw[he i hi2];exact⟨_,aX (by omega)⟩
        ·obtain⟨h8,h9⟩:=hrest.1 rfl;have:=h9 (i-len) (by omega);rw[show len+(i-len)=i by omega]at this;rw[this];exact⟨_,aX (by omega)⟩
       obtain⟨q,hq⟩:=hsome;obtain⟨zs,h1,h2⟩:=cm hq;obtain⟨y,h3⟩:=yv n hr (by simp) h2;obtain⟨h4,h5⟩:=bY1 h1;exact⟨y,zs,fun j z hz=>by rw[hw,←cp7];exact h5 j z hz,h3⟩
      obtain⟨ys,h6,h7⟩:=bi4 cap hall;exact⟨ys.take len, .inr ⟨a,len,cap,ys,e1,hlc,hcm,h6,rfl,h7⟩⟩
   ·cases h
  ·rename_i fs hu;split at h
   ·rename_i L hf;cases hc:aB L.length (P.cellsOf t)with
    |false=>rw[hc]at h;cases h
    |true=>
     rw[hc,zC]at h;injection h with h
     subst h;have hc:=aY hc;obtain⟨xs,m',_,_,hl,hxl,hx⟩:=DataW.trod_struct hu hd
     have:=af3 (cs:=cs) (fun h1 h2 h3=>yv n (m:=m') h1 h2 h3) fs.toList 0 _ hf hne fun i f hi=>by
      have hi':fs[i]?=some f:=by rw[←Array.getElem?_toList];exact hi
      have:=hx i f hi';rw[this]
      have:i<xs.length:=by
       obtain⟨h9,_⟩:=List.getElem?_eq_some_iff.1 hi;rw[hxl];simpa using h9
      exact⟨_,aX this⟩
     rw[bB,bJ (by omega)]at this;exact this
   ·cases h
  ·rename_i k e hu;split at h
   ·rename_i L hf;cases hc:aB L.length (P.cellsOf t)with
    |false=>rw[hc]at h;cases h
    |true=>
     rw[hc,zC]at h;injection h with h
     subst h;have hc:=aY hc;obtain⟨xs,m',_,_,hl,hxl,hx⟩:=DataW.trod_array hu hd
     have:=af3 (cs:=cs) (fun h1 h2 h3=>yv n (m:=m') h1 h2 h3) (List.range k) 0 _ hf hne fun i f hi=>by
      obtain⟨h9,h10⟩:=List.getElem?_eq_some_iff.1 hi;rw[List.getElem_range]at h10;subst h10;have h9:i<k:=by simpa using h9
      have:=hx i h9;rw[this];exact⟨_,aX (by omega)⟩
     rw[bB,bJ (by omega)]at this;exact this
   ·cases h
  ·cases h
end
def isAgg (P:Program)(t:TypeId):Bool:=match P.underlying t with
 |some (.struct _)|some (.array _ _)=>true
 |_=>false
def am5 (w:World):(b:Bool)→(s:Sh)→Value→El s→Prop
 |true,s,v,x=> ∃cs,v= .agg cs∧eF w s cs.toList x
 |false,s,v,x=>eF w s [v] x
theorem bD8 {H:Type}{enc:TypeId×Value→H}{P:Program}{w:World}{base:Nat}{held:Bool}{n:Nat}{t:TypeId}{l:List Sh}{r:Reach}{b0:Nat}{v:Value}{d:DataW H}{ps:List MemPlace}(hl:pU P n t=some l)(hne:l≠[])
  (hval:Value.okWide P w r b0 t v) (hd:DataW.Trod enc P w base (fun _=>true) held t v d ps): ∃x:El (uT l),am5 w (isAgg P t) (uT l) v x:=by
 obtain⟨fuel,hf⟩:=hd;obtain⟨x,hx⟩:=yv n hl hne hf;refine⟨x, ?_⟩
 have cell:isAgg P t=false→(∀cs,v≠ .agg cs)→am5 w (isAgg P t) (uT l) v x:=by
  intro h1 h2;rw[h1]
  have:v.cells.toList=[v]:=by
   unfold Value.cells;split
   ·rename_i cs;exact(h2 cs rfl).elim
   ·rfl
  rw[this]at hx;exact hx
 cases n with
 |zero=>cases hl
 |succ n=>
  simp only[pU]at hl;split at hl
  ·rename_i k hu;refine cell (by simp[isAgg,hu]) fun cs e=> ?_
   subst e;simp[Value.okWide,hu,Cell.okWide,Cell.ok]at hval
  ·rename_i hu;refine cell (by simp[isAgg,hu]) fun cs e=> ?_
   subst e;simp[Value.okWide,hu,Cell.okWide,Cell.ok]at hval
  ·rename_i hu;refine cell (by simp[isAgg,hu]) fun cs e=> ?_
   subst e;simp[Value.okWide,hu,Cell.okWide,Cell.ok]at hval
  ·rename_i e hu;refine cell (by simp[isAgg,hu]) fun cs e=> ?_
   subst e;simp[Value.okWide,hu,Cell.okWide,Cell.ok]at hval
  ·rename_i fs hu;simp only[Value.okWide,hu]at hval;obtain⟨cs,rfl,_,_⟩:=hval;rw[show isAgg P t=true by simp[isAgg,hu]];exact⟨cs,rfl,hx⟩
  ·rename_i k e hu;simp only[Value.okWide,hu]at hval;obtain⟨cs,rfl,_,_⟩:=hval;rw[show isAgg P t=true by simp[isAgg,hu]];exact⟨cs,rfl,hx⟩
  ·cases hl
@[reducible] def All :List (Bool×Sh)→Type
 |[]=>Unit
 |[k]=>El k.2
 |k::k'::r=>El k.2×All (k'::r)
def bj8 (w:World):(ks:List (Bool×Sh))→List Value→All ks→Prop
 |[],vs,_=>vs=[]
 |[k],vs,x=> ∃v,vs=[v]∧am5 w k.1 k.2 v x
 |k::k'::r,vs,x=> ∃v us,vs=v::us∧am5 w k.1 k.2 v x.1∧bj8 w (k'::r) us x.2
def cB8 (k:Bool×Sh)(x:El k.2):VV:=cond k.1 (.agg (ei k.2 x)) ((ei k.2 x).headD .undef)
def cf0 :(ks:List (Bool×Sh))→All ks→List VV
 |[],_=>[]
 |[k],x=>[cB8 k x]
 |k::k'::r,x=>cB8 k x.1::cf0 (k'::r) x.2
theorem bf6 {w:World}{k:Bool×Sh}{v:Value}{x:El k.2}(h:am5 w k.1 k.2 v x){rows:List Row}(hr:tY w rows): ∃more av,Built w rows more [av] [v] [cB8 k x]:=by
 obtain⟨b,s⟩:=k;cases b with
 |true=>
  obtain⟨cs,rfl,h1⟩:=h;obtain⟨more,acs,h2⟩:=build s h1 hr;exact⟨more, .agg acs.toArray,h2.ok, .cons (.agg (by simpa using h2.vr)) .nil, .cons (.agg (by simpa using h2.vv)) .nil⟩
 |false=>
  obtain⟨more,acs,h2⟩:=build s h hr;have h3:=h2.vr;have h4:=h2.vv;cases h3 with
  | @cons a _ as _ h5 h6=>
   cases h6;refine⟨more,a,h2.ok, .cons h5 .nil, ?_⟩;show F2 _ [(ei s x).headD .undef] _;generalize ei s x=l at*;cases h4 with
   |cons h7 h8=>
    cases h8;exact .cons h7 .nil
theorem aS5 {w:World}: ∀(ks:List (Bool×Sh)) {vs:List Value} {x:All ks},bj8 w ks vs x→∀{rows:List Row},tY w rows→∃more avs,Built w rows more avs vs (cf0 ks x)
 |[],vs,x,h,rows,hr=>by
  have h:vs=[]:=h;subst h;exact⟨[],[], .nil hr⟩
 |[k],vs,x,⟨v,h,h1⟩,rows,hr=>by
  subst h;obtain⟨more,av,h2⟩:=bf6 h1 hr;exact⟨more,[av],h2⟩
 |k::k'::r,vs,x,⟨v,us,h,h1,h2⟩,rows,hr=>by
  subst h;obtain⟨m1,av,h3⟩:=bf6 h1 hr;obtain⟨m2,avs,h4⟩:=aS5 (k'::r) h2 h3.ok;exact⟨m1++m2,av::avs,h3.app h4⟩
def inK (k:IntKind)(n:Int):Prop:=match k with
 | .i64=> -9223372036854775808≤n∧n≤9223372036854775807
 | .u64=>0≤n∧n≤18446744073709551615
 | .u8=>0≤n∧n≤255
 |_=>True
theorem cD6 {k:IntKind}{n:Int}(h:(Lit.int k n).wf=true):inK k n:=by
 cases k<;>first|trivial|exact cG6 h|exact cG7 h|exact cM4 h
def bW5 :(s:Sh)→El s→Prop
 | .int k,n=>inK k n
 | .bool,_=>True
 | .str,l=>l.length≤9223372036854775807∧∀n∈l,0≤n∧n≤255
 | .list s,l=>l.length≤9223372036854775807∧∀x∈l,bW5 s x
 | .pair a b,x=>bW5 a x.1∧bW5 b x.2
theorem eF.fine {w:World}: ∀{s:Sh} {cs:List Value} {x:El s},eF w s cs x→bW5 s x
 | .int k,_,_,⟨_,h⟩=>cD6 h
 | .bool,_,_,_=>trivial
 | .str,_,_,⟨s,_,h,hm⟩=>by
  subst h;refine⟨?_,fun n hn=> ?_⟩
  ·unfold gM;rw[List.length_map];unfold maxLen at hm;simpa using hm
  ·unfold gM at hn;obtain⟨b,_,rfl⟩:=List.mem_map.1 hn;have:=b.toNat_lt;omega
 | .list s,_,l,h=>by
  rcases h with⟨_,h⟩|⟨a,len,cap,ys,_,hlc,hcm,hyl,hl,hy⟩
  ·subst h;exact⟨Nat.zero_le _,fun x hx=>by cases hx⟩
  ·subst hl;refine⟨by rw[bI];unfold maxLen at hcm;omega,fun x hx=> ?_⟩;obtain⟨i,hi,rfl⟩:=List.getElem_of_mem (List.mem_of_mem_take hx);obtain⟨zs,_,h⟩:=hy i _ (aX hi);exact h.fine
 | .pair a b,_,_,⟨c1,c2,_,h1,h2⟩=>⟨h1.fine,h2.fine⟩
theorem am5.fine {w:World}{b:Bool}{s:Sh}{v:Value}{x:El s}(h:am5 w b s v x):bW5 s x:=by
 cases b with
 |true=>obtain⟨cs,_,h⟩:=h;exact h.fine
 |false=>exact eF.fine h
theorem ci6 {P:Program}{f:FuncId}{vals:List Sk}{run:Tup (tZ.shs ⟨vals,[],[]⟩)→Option (rG aq4)}(h:sH P ⟨f,vals,[],aq4,run⟩){w:World}(hT:bW6 P w){cargs:Array Value}(ks:List (Bool×Sh))(x:All ks)(t:Tup (tZ.shs ⟨vals,[],[]⟩))
  (hA:bj8 w ks cargs.toList x) (hd:((lB [] 0 [] ⟨vals,[],[]⟩ (cf0 ks x)).bind fun st=>ofL _ st.ls)=some t) (hr:run t=some true):
  Calls P f cargs w fun e w'=>e= .returned (.bool true)∧Go.RowKit.Below w.heap.size w w':=by
 obtain⟨rows,avs,h1⟩:=aS5 ks hA (rows:=[]) (fun r hr=>by cases hr);exact ca6 h hT t h1.ok h1.vr h1.vv hd hr
end
end Go.V
