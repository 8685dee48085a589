/- A part of the proof. No condition. -/
import Derived.Test.YtlaofmfngnkldaaGreatA1
import Derived.Laws.BytesString
import Derived.Laws.RangeAny
import Derived.Laws.IdiomStrings
import Derived.Laws.Cover4
import Derived.Lib.OthersKept
set_option linter.all false
namespace Go.Ab
open Option renaming some->O,none->Z
open Bool renaming true->Za,false->Zb
open Decidable renaming decide->Zc
open List renaming all_eq_true->aG
open Option renaming isSome_iff_exists->aN
open Option renaming map_eq_some_iff->aC
open List renaming length->b8
open Option.some renaming injEq->aZ
open Prod.mk renaming injEq->b7
variable {i x y:Operand}{c:Call}{b:Bool}{op:BinOp}{lo:Option Operand}{fs:Array Field}
section
open List renaming getElem?_drop->aB
open Go.RowKit
section
variable {P:Program} {o:Oper} {a:Act} {w:World} {B:Base P} {N:Nat} {μ:Mu} {e:bj} {σ σ':Hp} {v:Value}
def at8 (op:BinOp)(t:TypeId)(x y z:Value)(h:yf op x y=O z)(w:World)(j l:Operand):
  (eqGuard op t j l x y).run P w= .ok () w/\(binOp op t x y).run P w= .ok z w:=by
 cases x with
 |int k m=>cases y with
  |int p n=>
   simp only[yf]at h;by_cases d:ri op=Za
   .rw[zE d]at h;unfold Mz at h;split at h
    .cases h
    .rename_i hn;cases op<;>simp[ri]at d<;>simp at h<;>subst h<;>simp[eqGuard,binOp,Op.shift,hn]
   .rw[zF d]at h;split at h
    .rename_i hk;subst hk;cases op<;>simp[ri]at d<;>simp[N7]at h
     all_goals first
      |(have⟨g,f⟩:=h;subst f;simp[eqGuard,binOp,Op.intDiv,g])
      |(subst h;simp[eqGuard,binOp,Op.intArith,Op.intBits,Op.intCmp])
    .cases h
  |_=>simp[yf]at h
 |string s=>cases y with
  |string q=>
   simp only[yf]at h;split at h
   .cases h
   .rename_i d;cases op<;>simp[ri]at d<;>simp[WP]at h
    all_goals first
     |(have⟨g,f⟩:=h;subst f;simp[eqGuard,binOp,Op.stringOp];omega)
     |(subst h;simp[eqGuard,binOp,Op.stringOp])
  |_=>simp[yf]at h
 |_=>simp[yf]at h
def at9 {x y g j z:Value}(h:yf op x y=O z)(d:VR μ x g)(f:VR μ y j):g=x/\j=y:=by
 cases x with
 |int k m=>cases y with
  |int l n=>exact⟨d.int_inv,f.int_inv⟩
  |_=>simp[yf]at h
 |string s=>cases y with
  |string p=>exact⟨d.string_inv,f.string_inv⟩
  |_=>simp[yf]at h
 |_=>simp[yf]at h
def Ua {x y z:Value}(h:yf op x y=O z):VR μ z z:=by
 cases x with
 |int k m=>cases y with
  |int f n=>
   simp only[yf]at h;split at h
   .unfold Mz at h;split at h
    .cases h
    cases op<;>simp at h<;>subst h<;>exact .int _ _
   split at h
   .cases op<;>simp[N7]at h
    all_goals first
     |(have⟨_,d⟩:=h;subst d;exact .int _ _)
     |(subst h;first|exact .int _ _|exact .bool _)
   cases h
  |_=>simp[yf]at h
 |string s=>cases y with
  |string g=>
   simp only[yf]at h;split at h
   .cases h
   cases op<;>simp[WP]at h
   all_goals first
    |(have⟨_,d⟩:=h;subst d;exact .string _)
    |(subst h;first|exact .string _|exact .bool _)
  |_=>simp[yf]at h
 |_=>simp[yf]at h
def ah5 {t r:TypeId}(l:o.op= .binOp op t x y r)(m:db x=Za)(n:db y=Za)(d:(AOp.bin op x y).run e σ=O (v,σ'))(g:dk μ N e a.tmps)(k:R B μ σ w):jK P o a w B μ v σ':=by
 simp only[AOp.run]at d;obtain⟨z,f,d⟩:=aC.1 d;simp only[b7]at d;obtain⟨rfl,rfl⟩:=d;have⟨h,j⟩:=at9 f (g.ev m)<|g.ev n;refine .same k ?_ (Ua f);have⟨p,q⟩:=at8 (P:=P) op t _ _ _ f w x y;simp[execOp,l,h,j,p,q]
theorem Un (op:BinOp)(t:TypeId)(d f:Operand)(x y:Value)(g: ¬(x= .nilIface/\y= .nilIface))(h: ∀a b,¬(x= .agg a/\y= .agg b))(w:World):(eqGuard op t d f x y).run P w= .ok () w:=by
 unfold eqGuard
 simp_all
set_option maxHeartbeats 1000000 in
theorem aw6 {t:TypeId}{d:TypeDesc}{kd:Nat}(k:P.underlying t=O d)(f:ay9 d=O kd){x y g j:Value}(h:RH kd x y=O b)(l:VR μ x g)(m:VR μ y j)(w:World):
  (Op.equal t g j).run P w= .ok b w:=by
 unfold Op.equal Op.maxDepth;rw[show(10000:Nat)=9999+1 from rfl,Op.equalIn];simp only[Sem.run_bind,dz k,Result.andThen_ok];cases d<;>simp[ay9]at f<;>subst f
 all_goals (cases l<;>cases m<;>simp[RH,TB,TA,YB,VU,ad3,RZ, *]at h<;>simp[<-h])
theorem aw7 {kd:Nat}{x y f g:Value}(h:RH kd x y=O b)(k:VR μ x f)(r:VR μ y g)(t:TypeId)(d:Bool)(w:World)(n:(Op.equal t f g).run P w= .ok b w):
  (binOp (if d then .neq else .eql) t f g).run P w= .ok (.bool<|b !=d) w/\(∀l m op,(eqGuard op t l m f g).run P w= .ok () w):=by
 refine⟨?_,λl m op=>Un op t l m f g ?_ ?_ w⟩
 .have:binOp (if d then .neq else .eql) t f g=(Op.equal t f g >>=λq=>pure<|.bool (if d then !q else q)):=by
   cases k<;>cases r<;>first
    |(cases d<;>rfl)
    |(unfold RH at h;split at h<;>simp_all)
  rw[this];cases d<;>simp[n]
 .rintro⟨rfl,rfl⟩;cases k with
  |junk j=>cases j
  |_=>
   unfold RH at h;split at h<;>simp_all
 .rintro p q ⟨rfl,rfl⟩;cases k with
  |junk j=>cases j
  |_=>
   unfold RH at h;split at h<;>simp_all
def ah6 {t A:TypeId}{d:TypeDesc}{kd:Nat}{f:Bool}(r:o.op= .binOp op t x y A)(j:op=if f then .neq else .eql)(p:P.underlying t=O d)(q:ay9 d=O kd)(k:db x=Za)(l:db y=Za)(g:(AOp.eqv kd f x y).run e σ=O (v,σ'))(h:dk μ N e a.tmps)(n:R B μ σ w):jK P o a w B μ v σ':=by
 simp only[AOp.run]at g;obtain⟨b,m,g⟩:=aC.1 g;simp only[b7]at g;obtain⟨rfl,rfl⟩:=g;have s:=aw6 p q m (h.ev k) (h.ev l) w;have⟨u,z⟩:=aw7 m (h.ev k) (h.ev l) t f w s;refine .same n ?_ (.bool _);simp[execOp,r,j,u,z]
def Jd {t:TypeId}{kd:Nat}(g:yo P t=O kd){x y j k:Value}(h:vL kd x y=O b)(m:VR μ x j)(n:VR μ y k)(d:Nat)(w:World):
  (Op.equalIn (d+1) t j k).run P w= .ok b w:=by
 unfold yo at g;cases f:P.underlying t with
 |none=>simp[f]at g
 |some l=>
  cases l<;>simp[f]at g<;>subst g
  all_goals
   cases m<;>cases n<;>simp[vL,TB,TA,YB]at h
  .simp[run_equalIn_bool _ _ _ _ _ f,<-h]
  .obtain⟨rfl,rfl⟩:=h;simp[run_equalIn_int _ _ _ _ _ _ _ f]
  .simp[run_equalIn_string _ _ _ _ _ f,<-h]
theorem AX {t:TypeId}{kd:Nat}(d:yo P t=O kd):zn P t=O Zb:=by
 unfold yo at d;unfold zn;split at d<;>simp_all
def uF {t:TypeId}(h:zn P t=O Zb){cs:Array Value}{i:Nat}{v:Value}(d:cs[i]?=O v)(w:World):(part t cs i).run P w= .ok v w:=by
 simp[part,E5 h,d]
theorem Je (w:World)(d:Nat)(xs p:Array Value): ∀(fs:List Field) (i:Nat) (ks:List Nat) (l m:List Value) (b:Bool),yp P i fs=O ks->kw ks l m=O b->
  F2 (VR μ) l (xs.toList.drop i)->F2 (VR μ) m (p.toList.drop i)->(Op.eqFields (d+1) xs p fs).run P w= .ok b w
 |[],i,ks,l,m,b,g,h,_,_=>by
  simp[yp]at g;subst g;cases l<;>cases m<;>simp[kw]at h;subst h;simp[Op.eqFields]
 |f::fs,i,ks,l,m,b,g,h,s,t=>by
  simp only[yp]at g;split at g
  .rename_i hc;split at g
   .rename_i k ks' h1 h2;cases g;cases l with
    |nil=>simp[kw]at h
    |cons x l=>cases m with
     |nil=>simp[kw]at h
     |cons y m=>
      simp only[kw]at h;have⟨H,u,C⟩:=s.get 0 x rfl;have⟨I,z,D⟩:=t.get 0 y rfl;rw[aB]at u z;have j:xs[i]?=O H:=by simpa using u
      have n:p[i]?=O I:=by simpa using z
      have E:F2 (VR μ) l<|xs.toList.drop<|i+1:=by
       have:=s.drop 1
       simp_all
      have F:F2 (VR μ) m<|p.toList.drop<|i+1:=by
       have:=t.drop 1
       simp_all
      have A:=Je w d xs p fs (i+1) ks' l m;cases r:vL k x y with
      |none=>simp[r]at h
      |some q=>
       have:=Jd (P:=P) h1 r C D d w;cases q with
       |true=>
        simp only[r]at h;simp[Op.eqFields,hc.2,uF<|AX h1,hc.1,j,n,this,A b h2 h E F]
       |false=>
        simp[r]at h;simp[Op.eqFields,hc.2,uF<|AX h1,hc.1,j,n,this,<-h]
   .cases g
  .cases g
theorem RG (w:World)(d:Nat)(e:TypeId)(k:Nat)(f:yo P e=O k)(xs r:Array Value): ∀(n i:Nat) (l m:List Value) (b:Bool),kw (List.replicate n k) l m=O b->
  F2 (VR μ) l (xs.toList.drop i)->F2 (VR μ) m (r.toList.drop i)->
  (forIn (List.range' i n) ((Z,()):Option Bool×Unit) λj (_:Option Bool×Unit)=>(do
    let a<-part e xs (j*1)
    let c<-part e r (j*1)
    let q<-Op.equalIn (d+1) e a c
    if(!q)=Za then pure (ForInStep.done (O Zb,()))else pure (ForInStep.yield (Z,())):Sem<|ForInStep<|Option Bool×Unit)).run P w= .ok (if b then Z else O Zb,()) w
 |0,i,l,m,b,h,_,_=>by
  cases l<;>cases m<;>simp[kw]at h;subst h;simp
 |n+1,i,l,m,b,h,z,A=>by
  rw[List.replicate_succ]at h;cases l with
  |nil=>simp[kw]at h
  |cons x l=>cases m with
   |nil=>simp[kw]at h
   |cons y m=>
    simp only[kw]at h;have⟨K,C,F⟩:=z.get 0 x rfl;have⟨L,D,H⟩:=A.get 0 y rfl;rw[aB]at C D;have g:xs[i]?=O K:=by simpa using C
    have p:r[i]?=O L:=by simpa using D
    have I:F2 (VR μ) l<|xs.toList.drop<|i+1:=by
     have:=z.drop 1
     simp_all
    have J:F2 (VR μ) m<|r.toList.drop<|i+1:=by
     have:=A.drop 1
     simp_all
    have E:=RG w d e k f xs r n (i+1) l m;cases s:vL k x y with
    |none=>simp[s]at h
    |some q=>
     have t:=Jd (P:=P) f s F H d w;rw[List.range'_succ,List.forIn_cons];cases q with
     |true=>
      simp only[s]at h;have u:=E b h I J;simp only[Nat.mul_one]at u⊢;simp[uF (AX f) g,uF (AX f) p,t,Result.andThen];simpa using u
     |false=>
      simp[s]at h;simp[uF (AX f) g,uF (AX f) p,t,<-h]
end
end
section
open Nat renaming add_assoc->aB
open Result renaming andThen_ok->aD
open Go.RowKit
section
variable {P:Program} {o:Oper} {a:Act} {w:World} {B:Base P} {N:Nat} {μ:Mu} {e:bj} {σ σ':Hp} {v:Value}
def VR.agg_inv {p:Array Value}{v':Value}(h:VR μ (.agg p) v'): ∃q,v'= .agg q/\F2 (VR μ) p.toList q.toList:=by
 cases h with
 |agg h=>exact⟨_,rfl,h⟩
def Mq {t:TypeId}{ks:List Nat}(d:PT P t=O ks){p q j l:Array Value}(h:kw ks p.toList q.toList=O b)(u:F2 (VR μ) p.toList j.toList)(z:F2 (VR μ) q.toList l.toList)(w:World):
  (Op.equal t (.agg j)<|.agg l).run P w= .ok b w/\P.eqGuardType P.depth t=Zb:=by
 unfold PT at d;unfold Op.equal Op.maxDepth;rw[show(10000:Nat)=9998+1+1 from rfl];cases g:P.underlying t with
 |none=>simp[g]at d
 |some A=>
  cases A<;>simp[g]at d
  case struct fs=>
   have⟨⟨m,r⟩,s⟩:=d;have f:P.fieldsOf t=fs:=by simp[Program.fieldsOf,g]
   rw[run_equalIn_struct w _ t j l (by rw[f,g]) r,f];exact⟨Je w 9998 j l fs.toList 0 ks _ _ b s h Zz (by simpa using z),m⟩
  case array n e=>
   have⟨⟨m,r⟩,k,s,C⟩:=d;subst C;refine⟨?_,r⟩;have:=RG (P:=P) w 9998 e k s j l n 0 _ _ b h Zz (by simpa using z);rw[Op.equalIn];simp only[Sem.run_bind,dz g,aD,my m];cases b<;>simp at this⊢ <;>rw[this]<;>rfl
def Cs {t M:TypeId}{ks:List Nat}{f:Bool}(s:o.op= .binOp op t x y M)(g:op=if f then .neq else .eql)(r:PT P t=O ks)(u:db x=Za)(z:db y=Za)(d:(AOp.eqCells f ks x y).run e σ=O (v,σ'))(k:dk μ N e a.tmps)(n:R B μ σ w):jK P o a w B μ v σ':=by
 simp only[AOp.run]at d;split at d
 .rename_i p q hp hq;obtain⟨b,A,d⟩:=aC.1 d;simp only[b7]at d;obtain⟨rfl,rfl⟩:=d;have h:=k.ev u;have j:=k.ev z;rw[hp]at h;rw[hq]at j;have⟨I,l,K⟩:=h.agg_inv;have⟨J,m,L⟩:=j.agg_inv;have⟨C,D⟩:=Mq r A K L w;refine .same n ?_ (.bool _);have E:=λF H=>run_eqGuard_agg (P:=P) w op t F H I J D
  simp only[execOp,s,l,m,Sem.run_bind,E,aD];cases f<;>simp[g,binOp,C]
 cases d
def bb5 {t:TypeId}{op:UnOp}(j:o.op= .unOp op t x)(l:db x=Za)(d:(AOp.un op x).run e σ=O (v,σ'))(k:dk μ N e a.tmps)(g:R B μ σ w):jK P o a w B μ v σ':=by
 simp only[AOp.run]at d;obtain⟨z,f,d⟩:=aC.1 d;simp only[b7]at d;obtain⟨rfl,rfl⟩:=d;have h:=k.ev l;generalize e.ev x=u at*;cases u<;>cases op<;>simp[un1]at f
 .subst f;have:=h.bool_inv;exact .same g (by simp[execOp,j,this,Op.unary]) (.bool _)
 .subst f;have:=h.int_inv;exact .same g (by simp[execOp,j,this,Op.unary,Op.intArith]) (.int _ _)
 subst f;have:=h.int_inv;exact .same g (by simp[execOp,j,this,Op.unary,Op.intBits])<|.int _ _
def aB5 {s d:TypeId}{k t:IntKind}(p:o.op= .convert s d x)(q:P.underlying s=O (.int t))(l:P.underlying d=O (.int k))(r:db x=Za)(f:(AOp.conv k x).run e σ=O (v,σ'))(m:dk μ N e a.tmps)(j:R B μ σ w):jK P o a w B μ v σ':=by
 simp only[AOp.run]at f;obtain⟨n,g,f⟩:=aC.1 f;simp only[b7]at f;obtain⟨rfl,rfl⟩:=f;have h:=m.ev r;generalize e.ev x=u at*;cases u<;>simp[ba4]at g;subst g;have:=h.int_inv;exact .same j (by simp[execOp,p,this,convert,dz q,dz l,Conv.intToInt])<|.int _ _
def GZ (f:dk μ N e a.tmps): ∀{xs d:List Operand},F9 xs=O d->F2 (VR μ) (d.map e.ev) (xs.map a.eval)
 |[],d,h=>by simp[F9]at h;subst h;exact .nil
 |x::xs,d,h=>by
  simp only[F9]at h;split at h
  .rename_i x' r h1 h2;cases h;obtain⟨rfl,g⟩:=az h1;exact .cons (f.ev g) (GZ f h2)
  .cases h
def X1 {f:FuncId}{first d:Array Operand}{xs cs:List Operand}(n:o.op= .makeFunc (.func f) first d)(k:F9 first.toList=O xs)(m:F9 d.toList=O cs)(g:(AOp.mkFunc f xs cs).run e σ=O (v,σ'))(j:dk μ N e a.tmps)(l:R B μ σ w):jK P o a w B μ v σ':=by
 simp only[AOp.run]at g;split at g
 .cases g
 rename_i h;cases g;refine .same l (v':= .func (.func f) (first.map a.eval)<|d.map a.eval) (by simp[execOp,n,Instr.makeFunc]) (.func (by simpa[C3]using h) ?_ ?_)
 .simpa using GZ j k
 simpa using GZ j m
def aR8 {t:TypeId}{i n:Nat}{f:Field}(r:o.op= .fieldAddr t x i)(s:P.underlying t=O (.struct fs))(p:fs[i]?=O f)(q:lE P f.type=O n)(j:n≠0)(z:db x=Za)(d:(AOp.off f.offset x).run e σ=O (v,σ'))(l:dk μ N e a.tmps)(k:R B μ σ w):jK P o a w B μ v σ':=by
 have h:=l.ev z;simp only[AOp.run]at d;split at d
 .rename_i b off hb;cases d;rw[hb]at h;have⟨g,m,u⟩:=h.ptr_inv;refine .same k (v':= .pointer<|O ⟨g.c,g.o+(off+f.offset),Z⟩) ?_ (.ptr m);simp[execOp,r,Instr.fieldAt,dz s,p,u,Instr.sureAddr,fieldPlace,my q,j,pK,aB]
 cases d
def VR.slice_inv {b n l c:Nat}{v':Value}(h:VR μ (.slice (O ⟨b,n,Z⟩) l c) v'):
  (∃g d,μ.at b g/\l<=c/\c<=d/\n+d*g.es<=g.ext/\v'= .slice (O ⟨g.c,g.o+n,Z⟩) l d)∨(l=0/\c=0/\∃A',v'= .slice (O A') 0 0/\∃g,μ.at b g):=by
 cases h with
 |slice f j k m=>exact .inl ⟨_,_,f,j,k,m,rfl⟩
 |slice0 A' h=>exact .inr ⟨rfl,rfl,A',rfl,_,h⟩
def aR6 {t d:TypeId}{n:Nat}(A:o.op= .indexAddr t x i)(C:P.underlying t=O (.slice d))(z:lE P d=O n)(E:db x=Za)(u:db i=Za)(f:(AOp.idx n x i).run e σ=O (v,σ'))(q:dk μ N e a.tmps)(r:R B μ σ w):jK P o a w B μ v σ':=by
 have h:=q.ev E;have p:=q.ev u;simp only[AOp.run]at f;split at f
 .rename_i b off l c k j hb hj;split at f
  .rename_i hlt;cases f;rw[hb]at h;rw[hj]at p;have m:=p.int_inv;rcases h.slice_inv with⟨g,F,s,_,_,_,D⟩|⟨rfl,_⟩
   .refine .same r (v':= .pointer<|O ⟨g.c,g.o+(off+j.toNat*n),Z⟩) ?_ (.ptr s);simp[execOp,A,Instr.indexAt,dz C,D,m,asIntOf,hlt,my z,pK,aB]
   omega
  cases f
 cases f
def aB7 {t d:TypeId}{m n:Nat}(A:o.op= .indexAddr t x i)(C:P.underlying t=O (.array m d))(z:lE P d=O n)(E:db x=Za)(u:db i=Za)(f:(AOp.idxA m n x i).run e σ=O (v,σ'))(q:dk μ N e a.tmps)(r:R B μ σ w):jK P o a w B μ v σ':=by
 have h:=q.ev E;have p:=q.ev u;simp only[AOp.run]at f;split at f
 .rename_i b off k j hb hj;split at f
  .rename_i hlt;cases f;rw[hb]at h;rw[hj]at p;have l:=p.int_inv;have⟨g,s,D⟩:=h.ptr_inv;refine .same r (v':= .pointer<|O ⟨g.c,g.o+(off+j.toNat*n),Z⟩) ?_ (.ptr s);simp[execOp,A,Instr.indexAt,Instr.sureAddr,dz C,D,l,asIntOf,hlt,my z,pK,aB]
  cases f
 cases f
def Ta {t:TypeId}{n i:Nat}(h:zn P t=O b)(l:lE P t=O n){p q:Array Value}(d:F2 (VR μ) p.toList q.toList){u:Value}
  (f:(if b then O (.agg<|p.extract i<|i+n)else p[i]?)=O u) (w:World): ∃g,(part t q i).run P w= .ok g w/\VR μ u g:=by
 cases b with
 |true=>
  simp at f;subst f;refine⟨.agg<|q.extract i<|i+n,by simp[part,E5 h,my l], .agg ?_⟩;simpa[Array.toList_extract,List.extract_eq_take_drop]using(d.drop i).take n
 |false=>
  simp at f;have⟨g,j,k⟩:=d.get i u (by simpa using f);exact⟨g,uF h (by simpa using j) w,k⟩
theorem XY {t:TypeId}{i n:Nat}{f:Field}(u:o.op= .field t x i)(A:P.underlying t=O (.struct fs))(m:fs[i]?=O f)(s:lE P f.type=O n)(k:zn P f.type=O b)(C:db x=Za)(d:(AOp.fieldV f.offset n b x).run e σ=O (v,σ'))(l:dk μ N e a.tmps)(j:R B μ σ w):jK P o a w B μ v σ':=by
 have h:=l.ev C;simp only[AOp.run]at d;split at d
 .rename_i p hp;rw[hp]at h;have⟨q,z,r⟩:=h.agg_inv
  have:σ'=σ/\(if b then O (.agg<|p.extract f.offset<|f.offset+n)else p[f.offset]?)=O v:=by
   grind
  obtain⟨rfl,g⟩:=this;have⟨F,D,E⟩:=Ta k s r g w;exact .same j (by simp[execOp,u,Instr.field,dz A,m,z,asAgg,D]) E
 cases d
theorem X0 {t d:TypeId}{m n:Nat}(E:o.op= .index t x i)(H:P.underlying t=O (.array m d))(u:lE P d=O n)(C:zn P d=O b)(I:db x=Za)(D:db i=Za)(f:(AOp.indexV m n b x i).run e σ=O (v,σ'))(s:dk μ N e a.tmps)(A:R B μ σ w):jK P o a w B μ v σ':=by
 have h:=s.ev I;have l:=s.ev D;simp only[AOp.run]at f;split at f
 .rename_i p k j hp hj;rw[hp]at h;rw[hj]at l;have g:=l.int_inv;have⟨q,F,r⟩:=h.agg_inv;split at f
  .rename_i hlt
   have:σ'=σ/\(if b then O (.agg<|p.extract (j.toNat*n)<|j.toNat*n+n)else p[j.toNat*n]?)=O v:=by
    grind
   obtain⟨rfl,z⟩:=this;have⟨L,J,K⟩:=Ta C u r z w;exact .same A (by simp[execOp,E,Instr.index,dz H,F,g,asIntOf,hlt,my u,J]) K
  cases f
 cases f
def XZ {t:TypeId}(r:o.op= .index t x i)(u:P.underlying t=O .string)(z:db x=Za)(q:db i=Za)(d:(AOp.indexS x i).run e σ=O (v,σ'))(m:dk μ N e a.tmps)(n:R B μ σ w):jK P o a w B μ v σ':=by
 have h:=m.ev z;have l:=m.ev q;simp only[AOp.run]at d;split at d
 .rename_i s k j hs hj;rw[hs]at h;rw[hj]at l;have f:=l.int_inv;have g:=h.string_inv;split at d
  .rename_i h0;obtain⟨c,p,d⟩:=aC.1 d;simp only[b7]at d;obtain⟨rfl,rfl⟩:=d;exact .same n (by simp[execOp,r,Instr.index,dz u,g,f,asIntOf,h0,p]) (.int _ _)
  cases d
 cases d
def UJ {i:Nat}(n:o.op= .extract x i)(s:db x=Za)(d:(AOp.extract x i).run e σ=O (v,σ'))(m:dk μ N e a.tmps)(k:R B μ σ w):jK P o a w B μ v σ':=by
 have h:=m.ev s;simp only[AOp.run]at d;split at d
 .rename_i p hp;rw[hp]at h;generalize q:a.eval x=u at h;cases h with
  |tuple r=>
   obtain⟨c,l,d⟩:=aC.1 d;simp only[b7]at d;obtain⟨rfl,rfl⟩:=d;have⟨t,g,j⟩:=r.get i c (by simpa using l);have f:_:=g;rw[Array.getElem?_toList]at f;exact .same k (by simp[execOp,n,Instr.extract,q,f]) j
 cases d
end
end
section
open List renaming length_cons->bB
open Result renaming andThen_ok->aB
open Sem renaming run_bind->aD
open Go.RowKit
section
variable {P:Program} {o:Oper} {a:Act} {w:World} {B:Base P} {N:Nat} {μ:Mu} {e:bj} {σ σ':Hp} {v:Value}
def HC (off:Nat): ∀(vs:List Value) (k:Nat) (cells:Array Value),off+k+b8 vs<=cells.size->
  ((vs.zipIdx k).foldl (λcs (p:Value×Nat)=>cs.setIfInBounds (off+p.2) p.1) cells).toList=cells.toList.take (off+k)++vs++cells.toList.drop (off+k+b8 vs)
 |[],k,cells,_=>by simp
 |v::vs,k,cells,h=>by
  simp only[bB]at h;rw[List.zipIdx_cons,List.foldl_cons,HC off vs (k+1) _ V4];have d:off+k<b8 cells.toList:=by simp;omega
  simp only[Array.toList_setIfInBounds,bB];rw[List.take_set,List.drop_set_of_lt V1,show off+(k+1)=off+k+1 from by omega,List.take_add_one,show off+k+1+b8 vs=off+k+(b8 vs+1)from by omega]
  have f:(cells.toList.take (off+k)++(cells.toList[off+k]?).toList).set (off+k) v=cells.toList.take (off+k)++[v]:=by
   rw[List.getElem?_eq_getElem d,List.set_append_right _ _ V4];have:off+k-b8 (List.take (off+k) cells.toList)=0:=by rw[List.length_take];omega
   rw[this];simp
  rw[f];simp
def U2 (off:Nat)(vs:Array Value)(cells:Array Value)(h:off+vs.size<=cells.size):
  (vs.zipIdx.foldl (λcs (c,j)=>cs.setIfInBounds (off+j) c) cells).toList=cells.toList.take off++vs.toList++cells.toList.drop (off+vs.size):=by
 have:=HC off vs.toList 0 cells V6;rw[<-Array.foldl_toList,Array.toList_zipIdx];simpa using this
def xh {g:Nat->Option (Nat×Nat)}(t:dk μ N e a.tmps): ∀(f:List<|Nat×Operand) (d:List<|Nat×Nat×Operand) (z:List Value) (p:Array Value) (cs:List Value),vi g f=O d->
  CY z (d.map λ(o,s,x)=>(o,s,e.ev x))=O cs->F2 (VR μ) z p.toList->∃h,Instr.fill g p (f.map λ(i,x)=>(i,a.eval x))=O h/\F2 (VR μ) cs h.toList
 |[],d,z,p,cs,k,m,q=>by
  simp[vi]at k;subst k;simp[CY]at m;subst m;exact⟨p,rfl,q⟩
 |(i,x)::r,d,z,p,cs,k,m,q=>by
  simp only[vi]at k;split at k
  .rename_i off n x' r' h1 h2 h3;injection k with k
   subst k;obtain⟨rfl,D⟩:=az h2;simp only[List.map_cons,CY]at m;split at m
   .rename_i hc;have u:=(t.ev D).cells;have l:(a.eval x).cells.size=n:=by rw[<-hc.1,u.length];simp
    have E:z.length=p.size:=by simpa using q.length
    obtain⟨h,A,C⟩:=xh t r r' _ ((a.eval x).cells.zipIdx.foldl (λcs (c,j)=>cs.setIfInBounds (off+j) c) p) cs h3 m (by
     rw[U2 _ _ _ V1,l]
     exact((q.take _).append u).append<|q.drop _)
    refine⟨h, ?_,C⟩;simp only[List.map_cons,Instr.fill,h1,l];rw[zF V4];exact A
   .cases m
  .cases k
theorem S8 {α β:Type}(P:Program)(w:World)(f:α->Sem β)(g:α->β): ∀(l:List α),(∀x∈l,(f x).run P w= .ok (g x) w)->(l.mapM f).run P w= .ok (l.map g) w
 |[],_=>by simp
 |x::l,h=>by
  have:=S8 P w f g l (λy d=>h y aQ)
  simp_all
theorem JP {t:TypeId}{d:Array<|Nat×Operand}{z:List Value}{q:List<|Nat×Nat×Operand}(J:o.op= .build t d)(L:P.underlying t=O (.struct fs))(M:pY P t=O z)
  (g:(fs.toList.all λf=>(lE P f.type).isSome)=Za) (K:vi (Hm P fs) d.toList=O q) (j:(AOp.build z q).run e σ=O (v,σ')) (F:dk μ N e a.tmps) (E:R B μ σ w):jK P o a w B μ v σ':=by
 have⟨Q,u,r,A⟩:=nh M;simp only[AOp.run]at j;obtain⟨s,H,j⟩:=aC.1 j;simp only[b7]at j;obtain⟨rfl,rfl⟩:=j;have⟨l,C,D⟩:=xh F d.toList q z Q.cells s K H (r▸VR.plainCells (r▸A))
 have I:(fs.mapM λf=>(do pure (f.offset,<-sizeOf f.type):Sem<|Nat×Nat)).run P w= .ok (fs.map λf=>(f.offset,(lE P f.type).getD 0)) w:=by
  rw[Array.mapM_eq_mapM_toList]
  have:=S8 P w (λf:Field=>(do pure (f.offset,<-sizeOf f.type):Sem<|Nat×Nat)) (λf=>(f.offset,(lE P f.type).getD 0)) fs.toList (λf m=>by
   have:=aG.1 g f m;have⟨n,k⟩:=aN.1 this
   simp[my k,k])
  simp only[Sem.run_map,this,aB];rw[<-Array.toList_map]
 have p:(λi=>(fs.map λf=>(f.offset,(lE P f.type).getD 0))[i]?)=Hm P fs:=by
  funext i
  unfold Hm;rw[Array.getElem?_map];cases S:fs[i]? with
  |none=>rfl
  |some f=>
   have h:f∈fs.toList:=by
    grind
   have⟨n,k⟩:=aN.1<|aG.1 g f h;simp[k]
 refine .same E (v':= .agg l) ?_ (.agg (by simpa using D));simp only[execOp,J,Instr.build,aD,u,aB,dz L,I,p];rw[Array.toList_map];simp only[C];rfl
def L7 {t d:TypeId}{m n:Nat}{f:Array<|Nat×Operand}{z:List Value}{j:List<|Nat×Nat×Operand}(E:o.op= .build t f)(H:P.underlying t=O (.array m d))(D:lE P d=O n)(I:pY P t=O z)
  (F:vi (λi=>O (i*n,n)) f.toList=O j) (g:(AOp.build z j).run e σ=O (v,σ')) (A:dk μ N e a.tmps) (u:R B μ σ w):jK P o a w B μ v σ':=by
 have⟨J,p,k,q⟩:=nh I;simp only[AOp.run]at g;obtain⟨l,C,g⟩:=aC.1 g;simp only[b7]at g;obtain⟨rfl,rfl⟩:=g;have⟨h,r,s⟩:=xh A f.toList j z J.cells l F C<|k▸VR.plainCells (k▸q);refine .same u (v':= .agg h) ?_ (.agg (by simpa using s));simp only[execOp,E,Instr.build,aD,p,aB,dz H,my D];rw[Array.toList_map];simp only[r];rfl
theorem MG (z:Array Value)(n:Nat)(j:0<z.size):((Array.range<|n*z.size).map<|λi=>z[i % z.size]!).toList=fp z.toList n:=by
 unfold fp;apply List.ext_getElem?;intro i;have h:b8 (List.replicate n z.toList).flatten=n*z.size:=by simp
 by_cases f:i<n*z.size
 .have g:((Array.range<|n*z.size).map<|λi=>z[i % z.size]!).toList[i]?=O (z[i % z.size]'(Nat.mod_lt _ j)):=by
   simp[f,Nat.mod_lt _ j]
  rw[g];clear g;induction n generalizing i with
  |zero=>simp at f
  |succ n m=>
   rw[List.replicate_succ,List.flatten_cons];by_cases d:i<z.size
   .rw[List.getElem?_append_left V7];simp[Nat.mod_eq_of_lt d,d]
   rw[List.getElem?_append_right V7];have k:=m (i-z.size) V2 (by rw[Nat.succ_mul]at f;omega);rw[Array.length_toList,<-k];have l:i % z.size=(i-z.size) % z.size:=by rw[Nat.mod_eq_sub_mod V1]
   simp only[l]
 grind
def xq (z:List Value)(n:Nat):b8 (fp z n)=n*b8 z:=by simp[fp]
theorem En {z:List Value}(h:z.all rX=Za)(n:Nat):(fp z n).all rX=Za:=by
 unfold fp
 grind
theorem Nq {t d:TypeId}{f n:Nat}{g:Array<|Nat×Operand}{z:List Value}{k:List<|Nat×Nat×Operand}(X:o.op= .buildSlice t f g)(hu:P.underlying t=O (.slice d))(W:lE P d=O n)(hz:pY P d=O z)
  (L:f*n<=16777216) (A:z.length=n) (h0:0<n)
  (Y:vi (λi=>O (i*n,n)) g.toList=O k) (q:(AOp.buildSlice n f z k).run e σ=O (v,σ')) (V:dk μ N e a.tmps) (U:R B μ σ w):jK P o a w B μ v σ':=by
 obtain⟨r,S,I,T⟩:=nh hz;simp only[AOp.run]at q;split at q
 .rename_i cs hf;split at q
  .cases q;have F:r.cells.size=n:=by rw[<-A,<-I];simp[cellsOf]
   have E:r.cells.toList=z:=I
   have j: ∀C:Array Value,(f*n=0->C= #[])->(f*n≠0->C=r.cells)->((Array.range<|f*n).map<|λi=>C[i % C.size]!).toList=fp z f:=by
    intro C M Q;by_cases m:f*n=0
    .have:f=0:=by
      rcases Nat.mul_eq_zero.1 m with h|h
      .exact h
      .omega
     subst this;simp[fp]
    .rw[Q m,<-F,MG _ _ V1,E]
   have H:F2 (VR μ) (fp z f)<|fp z f:=VR.plainCells<|En T f;obtain⟨s,J,K⟩:=xh V g.toList k (fp z f) (fp z f).toArray cs Y hf (by simpa using H)
   have u:s.size=f*n:=by
    have M:cs.length=f*n:=by
     have: ∀(k:List<|Nat×Nat×Value) (x y:List Value),CY x k=O y->y.length=x.length:=by
      intro k;induction k with
      |nil=>intro x y h;simp[CY]at h;rw[h]
      |cons p k ih=>
       obtain⟨p1,p2,p3⟩:=p;intro x y h;simp only[CY]at h
       grind
     rw[this _ _ _ hf,xq,A]
    have:=K.length;simp at this;omega
   refine .new U s d cs n (.slice (O ⟨w.heap.size,0,Z⟩) f f) K ?_ (λh=>VR.slice (o:=0) h (Nat.le_refl _) (Nat.le_refl _) (by simp[u]));simp only[execOp,X,Instr.buildSlice,aD,dz hu,aB,my W];rw[Zh];by_cases m:f*n=0
   .have D:=j #[] (λ_=>rfl) (λh=>absurd m h);have l:(Array.range<|f*n).map (λi=>(#[]:Array Value)[i % (#[]:Array Value).size]!)=(fp z f).toArray:=by rw[<-D]
    rw[zE m];simp only[aD,Sem.run_pure,aB,l];rw[Array.toList_map];simp[J,newRow]
   .have D:=j r.cells (λh=>absurd h m)<|λ_=>rfl;have l:(Array.range<|f*n).map (λi=>r.cells[i % r.cells.size]!)=(fp z f).toArray:=by rw[<-D]
    rw[zF m];simp only[S,aD,Sem.run_pure,aB,l];rw[Array.toList_map];simp[J,newRow]
  .cases q
 .cases q
end
end
section
open Bool renaming or_eq_true->cX
open Builtin renaming len_->cY
open Nat renaming le_refl->aB,add_assoc->cD,add_mul->cV
open Option renaming map_some->bD,map_none->cW
open Result renaming andThen_ok->aD
open Sem renaming run_bind->bB,run_pure->cB
open Go.RowKit
section
variable {P:Program} {o:Oper} {a:Act} {w:World} {B:Base P} {N:Nat} {μ:Mu} {e:bj} {σ σ':Hp} {v:Value}
def VR.nils_inv {n c:Nat}{v':Value}(h:VR μ (.slice Z n c) v'):v'= .slice Z 0 0/\n=0/\c=0:=by cases h;exact⟨rfl,rfl,rfl⟩
theorem V0 {x d:Value}{n:Nat}(h:Cn x=O n)(f:VR μ x d):Cn d=O n:=by
 cases f<;>simp_all [Cn,TB,TA,YB]
def iC {b:Builtin}(f:o.op= .call c)(d:c.callee= .builtin b)(w:World):
  ∃cs,(execOp a.eval o).run P w=(builtin b c.argTypes o.type cs<|c.args.map a.eval).run P w:=by
 refine⟨c.args.map λ| .const _=>Za|_=>Zb, ?_⟩;simp only[execOp,f,resolve,d,invoke,bB,cB,aD];rfl
def at7 {α:Type}{c:Array α}{x:α}(h:c.toList=[x]):c= #[x]:=by rw[<-Array.toList_inj];simpa using h
def KZ {α:Type}{c:Array α}{x y:α}(h:c.toList=[x,y]):c= #[x,y]:=by rw[<-Array.toList_inj];simpa using h
def K0 {α:Type}{c:Array α}{x:α}{r:List α}(h:c.toList=x::r):c[0]?=O x:=by rw[<-Array.getElem?_toList,h];rfl
def aR7 {t u:TypeId}{ts:List TypeId}(r:o.op= .call c)(m:c.callee= .builtin .len)(l:c.args.toList=[x])(s:c.argTypes.toList=t::ts)(z:P.underlying t=O (.slice u))
  (A:db x=Za) (f:(AOp.len x).run e σ=O (v,σ')) (q:dk μ N e a.tmps) (k:R B μ σ w):jK P o a w B μ v σ':=by
 have h:=q.ev A;simp only[AOp.run]at f;split at f
 .rename_i p n c' hp;cases f;rw[hp]at h
  have: ∃j d,a.eval x= .slice j n d:=by
   generalize a.eval x=y at h;cases h<;>exact⟨_,_,rfl⟩
  have⟨j,d,C⟩:=this;have⟨D,g⟩:=iC (P:=P) (a:=a) r m w;refine .same k ?_ (.int .i64 n);simp[g,builtin,cY,at7 l,K0 s,C,dz z,goInt]
 .cases f
def aB4 {t u:TypeId}(m:o.op= .call c)(k:c.callee= .builtin .cap)(j:c.args.toList=[x])(p:c.argTypes.toList=[t])(q:P.underlying t=O (.slice u))
  (r:db x=Za) (d:(AOp.capN x).run e σ=O (v,σ')) (l:dk μ N e a.tmps) (g:R B μ σ w):jK P o a w B μ v σ':=by
 have h:=l.ev r;simp only[AOp.run]at d;split at d
 .rename_i hp;cases d;rw[hp]at h;have⟨n,_,_⟩:=h.nils_inv;have⟨s,f⟩:=iC (P:=P) (a:=a) m k w;refine .same g ?_ (.int .i64 0);simp[f,builtin,Builtin.cap_,at7 j,at7 p,n,dz q,goInt]
 .cases d
def aB8 {t:TypeId}{ts:List TypeId}(m:o.op= .call c)(k:c.callee= .builtin .len)(j:c.args.toList=[x])(n:c.argTypes.toList=t::ts)(p:P.underlying t=O .string)
  (q:db x=Za) (d:(AOp.lenS x).run e σ=O (v,σ')) (l:dk μ N e a.tmps) (g:R B μ σ w):jK P o a w B μ v σ':=by
 have h:=l.ev q;simp only[AOp.run]at d;split at d
 .rename_i s hp;cases d;rw[hp]at h;have⟨r,f⟩:=iC (P:=P) (a:=a) m k w;refine .same g ?_ (.int .i64 s.size);simp[f,builtin,cY,at7 j,K0 n,h.string_inv,dz p,goInt]
 .cases d
def aC0 (t:o.op= .call c)(s:c.callee= .builtin .max)(r:c.args.toList=[x,y])(u:db x=Za)(A:db y=Za)(d:(AOp.most x y).run e σ=O (v,σ'))(g:dk μ N e a.tmps)(n:R B μ σ w):jK P o a w B μ v σ':=by
 simp only[AOp.run]at d;obtain⟨z,j,d⟩:=aC.1 d;simp only[b7]at d;obtain⟨rfl,rfl⟩:=d;have h:=g.ev u;have m:=g.ev A;generalize e.ev x=p at*;generalize e.ev y=q at*;cases p<;>cases q<;>simp[Va]at j;subst j;have k:=h.int_inv;have l:=m.int_inv;have⟨C,f⟩:=iC (P:=P) (a:=a) t s w;exact .same n (by simp[f,builtin,Builtin.max_,KZ r,k,l,Builtin.max2])<|.int _ _
def ah7 (t:o.op= .call c)(s:c.callee= .builtin .min)(r:c.args.toList=[x,y])(u:db x=Za)(A:db y=Za)(d:(AOp.least x y).run e σ=O (v,σ'))(g:dk μ N e a.tmps)(n:R B μ σ w):jK P o a w B μ v σ':=by
 simp only[AOp.run]at d;obtain⟨z,j,d⟩:=aC.1 d;simp only[b7]at d;obtain⟨rfl,rfl⟩:=d;have h:=g.ev u;have m:=g.ev A;generalize e.ev x=p at*;generalize e.ev y=q at*;cases p<;>cases q<;>simp[Qw]at j;subst j;have k:=h.int_inv;have l:=m.int_inv;have⟨C,f⟩:=iC (P:=P) (a:=a) t s w;exact .same n (by simp[f,builtin,Builtin.min_,KZ r,k,l,Builtin.min2])<|.int _ _
def Rp {y d:Nat}{x:Option Operand}{n:Nat}(j: ∀u,x=O u->db u=Za)(h:pj y d (x.map e.ev)=O n)(g:dk μ N e a.tmps):
  match x with
  |none=>n=d
  |some u=> ∃k i,a.eval u= .int k i/\0<=i/\i<=y/\n=i.toNat:=by
 cases x with
 |none=>simp[pj]at h;exact h.symm
 |some u=>
  have f:=g.ev<|j u rfl;simp only[bD]at h;unfold pj at h;split at h
  .rename_i k i hk;simp only[aZ]at hk;split at h
   .rename_i hc;rw[hk]at f;exact⟨k,i,f.int_inv,hc.1,hc.2,by simpa using h.symm⟩
   .cases h
  .cases h
  .rename_i hn;cases hn
theorem NJ {s:Bool}{ln g d:Nat}{j:Option Operand}{h l:Nat}(q: ∀u,lo=O u->db u=Za)(p: ∀u,j=O u->db u=Za)
  (F:pj g ln (j.map e.ev)=O h) (H:pj h 0 (lo.map e.ev)=O l) (A:g<=d) (C:dk μ N e a.tmps) (w:World):
  (Instr.sliceBounds s ln d (lo.map a.eval) (j.map a.eval) Z).run P w= .ok (l,h,d) w:=by
 have m:=Rp p F C;have f:=Rp q H C;unfold Instr.sliceBounds;cases j with
 |none=>
  simp only at m;subst m;cases lo with
  |none=>simp only at f;subst f;simp
  |some u=>
   obtain⟨k,i,n,r,t,rfl⟩:=f;simp[n,Instr.sliceBound,asIntOf,r,t]
 |some L=>
  obtain⟨K,I,z,D,J,rfl⟩:=m;have E:I<=(d:Int):=by omega
  cases lo with
  |none=>simp only at f;subst f;simp[z,Instr.sliceBound,asIntOf,D,E]
  |some u=>
   obtain⟨k,i,n,r,t,rfl⟩:=f;simp only[bD,n,z,Instr.sliceBound,asIntOf,bB,cB,aD]
   simp_all
theorem K7 {y d n:Nat}{x:Option Value}(h:pj y d x=O n):n<=y∨(x=Z/\n=d):=by
 unfold pj at h
 grind
def xw {ln d:Nat}{m:Option Operand}{h l:Nat}(n:ln<=d)(k:pj d ln (m.map e.ev)=O h)(g:pj h 0 (lo.map e.ev)=O l):l<=h/\h<=d:=by
 rcases K7 k with j|⟨_,j⟩
 .rcases K7 g with f|⟨_,f⟩<;>omega
 rcases K7 g with f|⟨_,f⟩<;>omega
theorem ai3 {t d:TypeId}{n:Nat}{K:Option Operand}(ho:o.op= .slice t x lo K Z)(hu:P.underlying t=O (.slice d))(Y:lE P d=O n)(hx:db x=Za)(M: ∀u,lo=O u->db u=Za)(J: ∀u,K=O u->db u=Za)
  (k:(AOp.slice n x lo K).run e σ=O (v,σ')) (U:dk μ N e a.tmps) (C:R B μ σ w):jK P o a w B μ v σ':=by
 have H:=U.ev hx;simp only[AOp.run]at k;split at k
 .rename_i p ln cap hp;split at k
  .rename_i hcut;split at k
   .rename_i h hh;split at k
    .rename_i l hl;cases k;rw[hp]at H
     have m: ∀(I:Option Addr) (f:Nat),a.eval x= .slice I ln f->cap<=f->
       (execOp a.eval o).run P w= .ok (.value (.slice (if f=l then I else I.map (·.add (l*n))) (h-l)<|f-l)) w:=by
      intro I f hy L;have X:=NJ (P:=P) (s:=Za) M J hh hl L U w;simp only[execOp,ho,Instr.sliceAt,bB,dz hu,aD,Instr.slice,hy,cW,X,my Y,cB]
     cases p with
     |none=>
      obtain⟨E,rfl,rfl⟩:=H.nils_inv;have:=xw (aB _) hh hl;refine .same C (m _ _ E<|aB _) ?_
      grind
     |some A=>
      generalize E:a.eval x=q at H;cases H with
      |slice j V W F=>
       rename_i b T f g;have⟨Q,S⟩:=xw V hh hl;refine .same C (m _ _ E W) ?_;by_cases D:f=l
       .rw[zE D,D,show l-l=0 from by omega,show cap-l=0 from by omega,show h-l=0 from by omega];exact .slice0 _ j
       .rw[zF D];simp only[bD,Nz,pK];rw[cD];refine .slice j V1 V1 ?_;cases lo with
        |none=>
         have:l=0:=by simpa[pj]using hl.symm
         subst this;simpa using F
        |some u=>
         rw[cX]at hcut;rcases hcut with hcut|hcut
         .have:cap=0:=by simpa using hcut
          grind
         unfold Cq at hcut;simp only at hcut;split at hcut
         .rename_i blk hblk;have r:=(C.get hblk j.1).es;have z:blk.es=n:=by simpa using hcut
          rw[r,z]at F⊢;have:l*n+(f-l)*n=f*n:=by rw[<-cV];congr 1;omega
          omega
         .cases hcut
      |slice0 A' j=>
       have⟨Q,S⟩:=xw (aB _) hh hl;refine .same C (m _ _ E<|aB _) ?_;have r:l=0:=by omega
       have z:h=0:=by omega
       subst r z;simp only[bD,if_true];exact .slice0 _ j
      |sliceX j F=>
       rename_i b T g;have⟨Q,S⟩:=xw (aB _) hh hl;refine .same C (m _ _ E<|aB _) ?_;by_cases D:ln=l
       .rw[zE D,D,show l-l=0 from by omega,show h-l=0 from by omega];exact .slice0 _ j
       .rw[zF D];simp only[bD,Nz,pK];rw[cD];refine .slice j V1 V1 ?_;cases lo with
        |none=>
         have:l=0:=by simpa[pj]using hl.symm
         subst this;simpa using F
        |some u=>
         rw[cX]at hcut;rcases hcut with hcut|hcut
         .have:ln=0:=by simpa using hcut
          omega
         unfold Cq at hcut;simp only at hcut;split at hcut
         .rename_i blk hblk;have r:=(C.get hblk j.1).es;have z:blk.es=n:=by simpa using hcut
          rw[r,z]at F⊢;have:l*n+(ln-l)*n=ln*n:=by rw[<-cV];congr 1;omega
          omega
         .cases hcut
      |sliceX0 A' j=>
       have⟨Q,S⟩:=xw (aB _) hh hl;refine .same C (m _ _ E<|aB _) ?_;have r:l=0:=by omega
       have z:h=0:=by omega
       subst r z;simp only[bD,if_true];exact .slice0 _ j
    .cases k
   .cases k
  .cases k
 .cases k
theorem X2 {t d:TypeId}{V:Bool}{z H:Operand}(ho:o.op= .slice t x Z (O z) (O H))(hu:P.underlying t=O (.slice d)){n:Nat}(hn:lE P d=O n)(hx:db x=Za)(S:db z=Za)(U:db H=Za)
  (j:(AOp.sliceX V x z H).run e σ=O (v,σ')) (M:dk μ N e a.tmps) (I:R B μ σ w):jK P o a w B μ v σ':=by
 have J:=M.ev hx;have E:=M.ev S;have F:=M.ev U;simp only[AOp.run]at j;split at j
 .rename_i p ln cap hp;split at j
  .rename_i m hm;split at j
   .rename_i h hh;split at j
    .rename_i heq;subst heq
     have T: ∃Y r,e.ev H= .int Y r/\0<=r/\r<=cap/\h=r.toNat:=by
      unfold pj at hm
      grind
     have⟨Y,r,q1,q2,q3,q4⟩:=T
     have Q: ∃X l,e.ev z= .int X l/\0<=l/\l<=h/\h=l.toNat:=by
      unfold pj at hh
      grind
     have⟨X,l,r1,r2,r3,r4⟩:=Q;rw[q1]at F;rw[r1]at E;have v1:=F.int_inv;have v2:=E.int_inv;rw[hp]at J
     have k: ∀(K:Option Addr) (f:Nat),a.eval x= .slice K ln f->cap<=f->
       (execOp a.eval o).run P w= .ok (.value<|.slice K h h) w:=by
      intro K f hy hle;have e1:l=(h:Int):=by omega
      have e2:r=(h:Int):=by omega
      subst e1 e2;have C:h<=f:=by omega
      have hb:(Instr.sliceBounds Za ln f Z (O<|a.eval z)<|O<|a.eval H).run P w= .ok (0,h,h) w:=by
       simp[Instr.sliceBounds,Instr.sliceBound,asIntOf,v1,v2,C]
      simp only[execOp,ho,Instr.sliceAt,bB,dz hu,aD,Instr.slice,hy,cW,bD,hb,my hn,cB,Nat.zero_mul,Nat.sub_zero]
      congr 3
      split
      .rfl
      .cases K with
       |none=>rfl
       |some A=>simp[Addr.add]
     cases p with
     |none=>
      obtain⟨D,rfl,rfl⟩:=J.nils_inv;cases j;have L:h=0:=by omega
      refine .same I (k _ _ D<|aB _) ?_;rw[L];exact .nils
     |some A=>
      have⟨b,off,s⟩:=A;cases s with
      |some _=>cases j
      |none=>
       cases j;generalize D:a.eval x=q at J;cases J with
       |slice u h2 W h4=>
        rename_i f g;have:h*g.es<=f*g.es:=Nat.mul_le_mul_right _ V1;cases V with
        |true=>exact .same I (k _ _ D W) (.sliceX u V1)
        |false=>exact .same I (k _ _ D W) (.slice u (aB _) (aB _) V1)
       |slice0 A' u=>
        have L:h=0:=by omega
        refine .same I (k _ _ D<|aB _) ?_;rw[L];cases V with
        |true=>exact .sliceX0 _ u
        |false=>exact .slice0 _ u
    .cases j
   .cases j
  .cases j
 .cases j
def Sv {t d:TypeId}{m n:Nat}{q:Option Operand}(F:o.op= .slice t x lo q Z)(H:P.underlying t=O (.array m d))(E:lE P d=O n)(I:db x=Za)(r: ∀u,lo=O u->db u=Za)(p: ∀u,q=O u->db u=Za)
  (f:(AOp.sliceArr n m x lo q).run e σ=O (v,σ')) (A:dk μ N e a.tmps) (z:R B μ σ w):jK P o a w B μ v σ':=by
 have C:=A.ev I;simp only[AOp.run]at f;split at f
 .rename_i b off hp;split at f
  .rename_i blk hblk;split at f
   .rename_i hc;split at f
    .rename_i h hh;split at f
     .rename_i l hl;split at f
      .rename_i hlm;cases f;rw[hp]at C;have⟨g,k,J⟩:=C.ptr_inv;have⟨K,L⟩:=xw (aB _) hh hl;have D:=NJ (P:=P) (s:=Zb) r p hh hl (aB _) A w;have j:=z.get hblk k.1;have⟨_,M,_⟩:=j.own k.2 hc.1;refine .same z (v':= .slice (O ⟨g.c,g.o+(off+l*n),Z⟩) (h-l)<|m-l) ?_ (.slice k V1 (aB _) ?_)
       .simp only[execOp,F,Instr.sliceAt,bB,dz H,aD,J,Instr.sureAddr,cW,D,my E,cB];rw[Zh,pK,cD]
       .rw[j.es,hc.2.1];have:l*n+(m-l)*n=m*n:=by rw[<-cV];congr 1;omega
        omega
      .cases f
     .cases f
    .cases f
   .cases f
  .cases f
 .cases f
def Qa {t d:TypeId}{n f:Nat}{z:List Value}(T:o.op= .makeSlice t x y)(U:P.underlying t=O (.slice d))(S:lE P d=O n)(M:Rq P d=O f)(X:pY P d=O z)(V:db x=Za)(W:db y=Za)
  (q:b8 z=n) (h0:0<n) (m:(AOp.makeSlice n f z x y).run e σ=O (v,σ')) (I:dk μ N e a.tmps) (L:R B μ σ w):jK P o a w B μ v σ':=by
 have F:=I.ev V;have H:=I.ev W;have⟨r,J,E,K⟩:=nh X;simp only[AOp.run]at m;split at m
 .rename_i k l k' c hl hc;split at m
  .rename_i hcond;have⟨c1,c2,c3,c4⟩:=hcond;cases m;rw[hl]at F;rw[hc]at H;have v1:=F.int_inv;have v2:=H.int_inv;have⟨i,Q,A⟩:=aC.1 M;have w1:IntKind.i64.wrap l=l:=IntWalk.i64_in _ V1;have w2:IntKind.i64.wrap c=c:=IntWalk.i64_in _ V1;have D:r.cells.size=n:=by rw[<-q,<-E];simp[cellsOf]
   have C:r.cells.toList=z:=E;have p:(fp z c.toNat).toArray.size=c.toNat*n:=by simp[xq,q]
   refine .new L (fp z c.toNat).toArray d (fp z c.toNat) n (.slice (O ⟨w.heap.size,0,Z⟩) l.toNat c.toNat) ?_ ?_ (λh=>VR.slice (o:=0) h V1 (aB _) Zx)
   .simpa using VR.plainCells (En K _)
   .have ht: ¬((f:Int)*c > 281474976710656):=by omega
    have j: ∀w:World,(typeInfo d).run P w= .ok i w:=λw=>by simp[typeInfo,Q]
    simp only[execOp,T,Instr.makeSlice,bB,dz U,aD,v1,v2,asInt,asIntOf,cB,j,A,w1,w2]
    have Y:(Zc (c<0)||Zc ((f:Int)*c > 2 ^ 48))=Zb:=by
     simp;omega
    have t2:(Zc<|l<0)=Zb:=by simp;omega
    have t3:(Zc<|l > c)=Zb:=by simp;omega
    simp only[Y,t2,t3,Bool.or_false,Bool.false_eq_true,if_false,bB,run_askRoom,aD,my S];by_cases g:c.toNat*n=0
    .have s:c.toNat=0:=by
      rcases Nat.mul_eq_zero.1 g with h|h
      .exact h
      .omega
     have:(fp z c.toNat)=[]:=by rw[s];rfl
     rw[zE g,this,g];simp[newRow,show Array.range 0= #[]from rfl]
    .rw[zF g]
     have u:(Array.range<|c.toNat*n).map (λi=>r.cells[i % r.cells.size]!)=(fp z c.toNat).toArray:=by
      rw[<-C,<-MG _ _ V1,D]
     simp only[bB,J,cB,aD,u];simp[newRow]
  .cases m
 .cases m
end
end
section
open Bool renaming false_eq_true->cV
open Builtin renaming firstCells->bB,zeroCells->bD,append_->cZ,lenOf->dA
open List renaming map_cons->cW,map_nil->cX,map_toArray->cY,length_append->dC,getElem?_eq_getElem->dD
open Nat renaming le_refl->cD,add_mul->dB,mul_le_mul_right->dE
open Result renaming andThen_ok->aB
open Sem renaming run_bind->aD,run_pure->cB
open Go.RowKit
section
variable {P:Program} {o:Oper} {a:Act} {w w':World} {B:Base P} {N:Nat} {μ:Mu} {e:bj} {σ σ':Hp} {v:Value}
theorem UP {x:Blk}{o:Nat}{cs:List Value}(h:oB x o 0=O cs):cs=[]:=by
 unfold oB at h
 grind
def Aw {es n ln:Nat}{x q:Value}{cs:List Value}(m:Cn x=O ln)(C:n<=ln)(h:σ.slice es x n=O cs)(A:R B μ σ w)(d:VR μ x q):
  ∃arr:Array Value,(∀w':World,w'.heap=w.heap->(bB es n q).run P w'= .ok arr w')/\F2 (VR μ) cs arr.toList:=by
 unfold Hp.slice at h;split at h
 .rename_i b off l c;simp[Cn]at m;subst m;split at h
  .rename_i hn0;cases h;subst hn0;rcases d.slice_inv with⟨g,r,k,_,_,_,rfl⟩|⟨rfl,rfl,A',rfl,_⟩
   .exact⟨#[],λ_ _=>by simp[bB,loadCells,loadCellsFrom], .nil⟩
   .exact⟨#[],λ_ _=>by simp[bB,loadCells,loadCellsFrom], .nil⟩
  split at h
  .rename_i blk hblk;rcases d.slice_inv with⟨g,r,k,_,_,_,rfl⟩|⟨rfl,rfl,A',rfl,_⟩
   .obtain⟨f,t,z⟩:=A.reads hblk k h;exact⟨f.toArray,λw' j=>by simp[bB,t P w' j],z⟩
   omega
  .cases h
 .obtain⟨rfl,_,_⟩:=d.nils_inv;split at h
  .injection h with h
   subst h;exact⟨#[],λ_ _=>by simp[bB], .nil⟩
  .cases h
 .rename_i s;split at h
  case isFalse=>cases h
  cases h;obtain rfl:=d.string_inv;refine⟨_,λ_ _=>by simp only[bB];rfl, ?_⟩;simp only[Array.toList_map]
  exact F2.same _ λu p=>by
   simp only[List.mem_map]at p;obtain⟨c,_,rfl⟩:=p;exact .int _ _
 .cases h
theorem Ju {x y:Blk}{off:Nat}{vs:List Value}(h:AF x off vs=O y):x.own=Za/\off+b8 vs<=b8 x.cells/\(∀v∈vs,one v=Za)/\y=⟨lm x.cells off vs,x.own,x.es⟩:=by
 unfold AF at h
 grind
theorem aB6 {t d:TypeId}{ts:List TypeId}{n:Nat}(ho:o.op= .call c)(hc:c.callee= .builtin .copy)(Y:c.args.toList=[x,y])(ht:c.argTypes.toList=t::ts)(hu:P.underlying t=O (.slice d))(hn:lE P d=O n)
  (hx:db x=Za) (hy:db y=Za) (f:(AOp.copy n x y).run e σ=O (v,σ')) (L:dk μ N e a.tmps) (H:R B μ σ w):jK P o a w B μ v σ':=by
 have k:=L.ev hx;have A:=L.ev hy;have⟨Q,z⟩:=iC (P:=P) (a:=a) ho hc w;simp only[AOp.run]at f;split at f
 .rename_i p m dc hp;rw[hp]at k
  have J: ∃s j,a.eval x= .slice s m j:=by
   generalize a.eval x=q at k;cases k<;>exact⟨_,_,rfl⟩
  have⟨s,j,M⟩:=J;split at f
  .rename_i C hln;have r:=V0 hln A
   have I:(dA<|a.eval y).run P w= .ok C w:=by
    generalize a.eval y=q at*;cases q<;>simp[Cn]at r<;>simp[dA,r]
   split at f
   .rename_i new hnew;have⟨l,U,F⟩:=Aw (P:=P) hln (Nat.min_le_left _ _) hnew H A
    have head:(execOp a.eval o).run P w=((do
      if let O a:=s then storeCells a l.toList
      pure (goInt<|Nat.min C m):Sem Value).run P w).andThen λv w=> .ok (.value v) w:=by
     simp only[z,builtin,Builtin.copy_,KZ Y,cY,cW,cX,K0 ht,M,aD];have S:(#[Value.slice s m j,a.eval y]:Array Value)[0]?=O (.slice s m j):=rfl;have T:(#[Value.slice s m j,a.eval y]:Array Value)[1]?=O (a.eval y):=rfl;simp only[S,T,aD,dz hu,aB,I,my hn];have E:(bB n (C.min m)<|a.eval y).run P w= .ok l w:=U w rfl;simp only[E,aB];rfl
    have D:new=[]->jK P o a w B μ (.int .i64 (min C m:Nat)) σ:=by
     intro h;subst h
     have:l= #[]:=by
      cases u:l.toList with
      |nil=>simpa using u
      |cons _ _=>rw[u]at F;cases F
     subst this;refine .same H ?_ (.int _ _);rw[head];cases s<;>simp[storeCells,goInt]<;>rfl
    split at f
    .rename_i b off;split at f
     .rename_i h
      grind
     .rename_i h;split at f
      .rename_i blk hblk;split at f
       .rename_i blk' hw;cases f;obtain⟨k1,k2,k3,rfl⟩:=Ju hw;rw[M]at k;rcases k.slice_inv with⟨g,c',hg,_,_,_,hv⟩|⟨rfl,_⟩
        .injection hv with K hv2 hv3
         subst K;have⟨w',V,W,X⟩:=R.writes _ _ F k3 σ w b off 0 blk g H hblk k1 hg V1;refine⟨_,w',μ, .int .i64 (min C m:Nat), ?_, .inl rfl,μ.le_refl,W, .int _ _,X⟩;rw[head];simp[V,goInt]
        .exfalso;rw[Nat.min_zero]at hnew;unfold Hp.slice at hnew;split at hnew
         .simp at hnew;exact h hnew
         .simp at hnew;exact h hnew
         .simp at hnew;exact h hnew.2
         .cases hnew
       .cases f
      .cases f
    .split at f
     .rename_i h
      grind
     .cases f
    .cases f
   .cases f
  .cases f
 .cases f
def GM {arr:Array Value}(h:F2 (VR μ) [] arr.toList):arr= #[]:=by
 cases d:arr.toList with
 |nil=>simpa using d
 |cons _ _=>rw[d]at h;cases h
def Rl {st s d:TypeId}{n l:Nat}{z:List Value}(ho:o.op= .call c)(hc:c.callee= .builtin .append)(T:c.args.toList=[x,y])(X:c.argTypes.toList=[st,s])(Y:P.underlying st=O (.slice d))
  (H:(∃q,P.underlying s=O (.slice q))∨P.underlying s=O .string) (V:lE P d=O n) (hb:Rq P d=O l) (hz:pY P d=O z)
  {r:Option Addr} {f j ln:Nat} (W:a.eval x= .slice r f j) (C:Cn (a.eval y)=O ln) {arr:Array Value} (t:(bB n ln<|a.eval y).run P w= .ok arr w):
  (f+ln<=j->(execOp a.eval o).run P w=((do
    if let O a:=r then storeCells (a.add<|f*n) arr.toList
    pure (.slice r (f+ln) j):Sem Value).run P w).andThen λv w=> .ok (.value v) w)/\
  (j<f+ln->(f+ln)*l<=140737488355328->f+ln<=9223372036854775807->∀old:Array Value,(bB n f<|.slice r f j).run P w.drew= .ok old w.drew->(bB n ln<|a.eval y).run P w.drew= .ok arr w.drew->
   ∃m,f+ln<=m/\∃I:Value,cellsOf I=z/\(execOp a.eval o).run P w= .ok (.value<|.slice (O ⟨w.heap.size,0,Z⟩) (f+ln) m) (w.drew.alloc<|.cells (old++arr++bD I.cells (m-(f+ln))) d)):=by
 have⟨cst,k⟩:=iC (P:=P) (a:=a) ho hc w
 have D:(dA<|a.eval y).run P w= .ok ln w:=by
  generalize a.eval y=q at*;cases q<;>simp[Cn]at C<;>simp[dA,C]
 have⟨i,hi,A⟩:=aC.1 hb;have g: ∀w:World,(typeInfo d).run P w= .ok i w:=λw=>by simp[typeInfo,hi]
 have L:(#[Value.slice r f j,a.eval y]:Array Value)[0]?=O (.slice r f j):=rfl;have M:(#[Value.slice r f j,a.eval y]:Array Value)[1]?=O (a.eval y):=rfl;have Q:(#[st,s]:Array TypeId)[0]?=O st:=rfl;have S:(#[st,s]:Array TypeId)[1]?=O s:=rfl;refine⟨λu=> ?_,λp h U old F E=> ?_⟩
 .rw[k];rcases H with⟨q,hdd⟩|hdd
  all_goals
   simp only[builtin,cZ,KZ T,KZ X,cY,cW,cX,W,L,M,Q,S,aD,dz Y,dz hdd,aB,my V,cB,cV,if_false,D,Bool.not_false,if_true];rw[zE u];simp only[aD,t,aB];rfl
 .obtain⟨I,z1,z2,z3⟩:=nh hz;refine⟨grownCap w (f+ln) j d,grownCap_ge _ _ _ _,I,z2, ?_⟩;have K:=growslice_fits p h;rw[k];rcases H with⟨q,hdd⟩|hdd
  all_goals
   simp only[builtin,cZ,KZ T,KZ X,cY,cW,cX,W,L,M,Q,S,aD,dz Y,dz hdd,aB,my V,cB,cV,if_false,D,Bool.not_false,if_true];rw[Zh];simp only[aD,g,aB,A,false_or]
   have J: ¬(((f+ln:Nat):Int) > IntKind.i64.max/\l=0):=by
    have:IntKind.i64.max=9223372036854775807:=by decide
    omega
   rw[zF J];simp only[aD,g,aB,A];rw[Zh];simp only[aD,run_choose,Question.forced,cV,if_false,World.drew_eq,aB,g,run_askRoom,F,E,z1,newRow,run_newObj,cB,World.alloc_eq];rfl
def MK (z:Array Value)(n:Nat):(bD z n).size=n*z.size:=by simp[bD]
def CD (σ:Hp)(d:R B μ σ w):R B μ σ w.drew:=d.same rfl
theorem II {x:Blk}{o n:Nat}{cs:List Value}(h:oB x o n=O cs):b8 cs=n:=by
 unfold oB at h
 grind
theorem Yj {es n:Nat}{x:Value}{cs:List Value}(h:σ.slice es x n=O cs)(f: ∀s,x= .string s->n<=s.size):b8 cs=n*es:=by
 unfold Hp.slice at h;split at h
 .split at h
  .rename_i hn;injection h with h;subst h hn;simp
  split at h
  .exact II h
  cases h
 .split at h
  .rename_i hn;injection h with h;subst h hn;simp
  cases h
 .rename_i s;split at h
  case isFalse=>cases h
  rename_i d;injection h with h
  subst h
  simp_all
 cases h
def Ek (g o:Nat)(t:TypeId)(f:Nat×Nat): ∀(vs:List Value) (i:Nat) (d:Array Value) (w:World),w.heap[g]?=O (.cells d t f)->(d.size<=f.1∨f.1=f.2)->o+i+b8 vs<=d.size->(∀v∈vs,v.oneCell'=Za)->
  (storeCells ⟨g,o,Z⟩ vs i).run P w= .ok () (w.setRow g (d.toList.take (o+i)++vs++d.toList.drop (o+i+b8 vs)).toArray)
 |[],i,d,w,k,_,_,_=>by
  simp only[storeCells,List.append_nil,List.length_nil,Nat.add_zero,List.take_append_drop,Array.toArray_toList];rw[setRow_self w g d t f k];rfl
 |v::h,i,d,w,k,p,l,n=>by
  have q:o+i<d.size:=by simp at l;omega
  have j:w.cell? ⟨g,o+i,Z⟩=O d[o+i]:=by simp[World.cell?,k,q]
  have m:(store ((⟨g,o,Z⟩:Addr).add i) v).run P w= .ok () (w.setRow g<|d.setIfInBounds (o+i) v):=by
   rw[pK,run_store P w _ v _<|n v V2,j];simp[F1 w g (o+i) d t f k q p,setCell_eq_setRow w g (o+i) d t f v k]
  have s:=Ek g o t f h (i+1) (d.setIfInBounds (o+i) v) (w.setRow g<|d.setIfInBounds (o+i) v) (setRow_heap w g d _ t _ k) (by simpa using p) (by simp at l⊢;omega)<|λx r=>n x (by simp[r]);simp only[storeCells,aD,m,aB,s,setRow_setRow]
  congr 3
  have e:=list_seg_step d.toList (o+i) v h (by simp at l⊢;omega);simpa[Array.toList_setIfInBounds,Nat.add_assoc]using e
theorem R.moved (l:R B μ σ w){b:Nat}{blk:Blk}{g:G}(f:σ.m b=O blk)(q:blk.own=Za)(E:μ.at b g){off n:Nat}{cells:List Value}{A:Array Value}{t:TypeId}{X:Nat×Nat}(hfr:A.size<=X.1∨X.1=X.2)
  (W:w.heap.size=w'.heap.size) (Q:w'.heap[g.c]?=O (.cells A t X)) (p: ∀k,k≠g.c->w'.heap[k]?=w.heap[k]?) (hsz:g.o+g.ext<=A.size) (hfit:off+b8 cells<=g.ext)
  (hc:F2 (VR μ) cells<|(A.toList.drop<|g.o+off).take<|b8 cells):
  R B (μ.add σ.n ⟨g.c,g.o+off,g.ext-off,n,t,Z⟩) ((σ.set b Z).add ⟨cells,Za,n⟩) w'/\μ.le (μ.add σ.n ⟨g.c,g.o+off,g.ext-off,n,t,Z⟩):=by
 have hf:μ σ.n=Z:=l.fresh _<|cD _;have u:μ.le<|μ.add σ.n ⟨g.c,g.o+off,g.ext-off,n,t,Z⟩:=Mu.le_add hf;have hl:=l.get f E.1;have⟨o1,o2,cur0,e0,fr0,o40,_⟩:=hl.own E.2 q;have hbn:b≠σ.n:=λe=>by have:=E.1;rw[e,hf]at this;cases this
 have old: ∀h x,h≠σ.n->((σ.set b Z).add ⟨cells,Za,n⟩).m h=O x->σ.m h=O x/\h≠b:=by
  intro h x s z;have D:h≠(σ.set b Z).n:=s;simp only[Hp.add,zF D]at z;simp only[Hp.set]at z
  grind
 have new: ∀x,((σ.set b Z).add ⟨cells,Za,n⟩).m σ.n=O x->x=⟨cells,Za,n⟩:=by
  intro x z;have D:σ.n=(σ.set b Z).n:=rfl;simp only[Hp.add,zE D]at z;exact(Option.some.inj z).symm
 refine⟨⟨by rw[<-W];exact l.base,λk I=>(p k V1).trans<|l.old k I,λh s=> ?_,λh x z=> ?_,λS T x x' Y g2 z r J ho V H=> ?_, ?_,l.dfr_but (c:=g.c) (λd=>by rw[o40];simp) (λk I _=>p k I),l.mit_but (c:=g.c) (λo ho e=>by rw[o40]at e;cases e;cases ho) λk I _=>p k I⟩,u⟩
 .have:σ.n+1<=h:=s;unfold Mu.add;rw[Zh];exact l.fresh h V1
 .by_cases s:h=σ.n
  .subst s;obtain rfl:=new x z;refine⟨⟨g.c,g.o+off,g.ext-off,n,t,Z⟩,Z0,⟨by rw[<-W];exact hl.lt,rfl,λ_ i v hv=> ?_,λ_ _=>⟨o1,by simp;omega,A,t,X,Q,by simp;omega,hfr⟩,λ_ K=>(by cases K),λK=>(by cases K),λ_ K=>(by cases K),λ_ _ K=>(by cases K),λK=>by cases K⟩⟩;have⟨v',F,M⟩:=hc.get i v hv
   have hi:i<b8 cells:=by
    grind
   refine⟨v', ?_,M.mono u⟩;rw[cell_of_row _ _ _ A t X Q]
   grind
  .obtain⟨r,U⟩:=old h x s z;have⟨L,F,M⟩:=l.live h x r;have J:L.c≠g.c:=λe=>l.inj b h blk x g L f r (λe=>U e.symm) q E.1 F e.symm
   exact⟨L,u _ _ F,(l.stays r F (by rw[W];exact cD _) g.c (λk I _=>p k I) J<|λhi I=>(l.sep h x L r F hi _ I b blk g f E.1).1 rfl).mono u⟩
 .by_cases s:S=σ.n
  .subst s;have C:T≠σ.n:=λe=>J e.symm
   have e1:Y.c=g.c:=by simp[Mu.add]at V;rw[<-V]
   have M:μ T=O g2:=by simpa[Mu.add,C]using H
   have⟨hx2,D⟩:=old T x' C r;rw[e1];exact l.inj b T blk x' g g2 f hx2 (λe=>D e.symm) q E.1 M
  .have F:μ S=O Y:=by simpa[Mu.add,s]using V
   have⟨hx1,hb1⟩:=old S x s z;by_cases C:T=σ.n
   .subst C;have e1:g2.c=g.c:=by simp[Mu.add]at H;rw[<-H]
    rw[e1];exact λe=>l.inj b S blk x g Y f hx1 (λe=>hb1 e.symm) q E.1 F e.symm
   .have M:μ T=O g2:=by simpa[Mu.add,C]using H
    exact l.inj S T x x' Y g2 hx1 (old _ _ C r).1 J ho F M
 .refine l.sep.of (λh x L z j=> ?_) (λh x L z j hi hl'=> ?_)
  .by_cases s:h=σ.n
   .subst s;have e1:L=⟨g.c,g.o+off,g.ext-off,n,t,Z⟩:=by simp[Mu.add]at j;exact j.symm
    subst e1;exact .inr ⟨λh0=>(by cases h0),λS x1 Y k F M h3 h4=>(l.sep S x1 Y F M h3 k h4 b blk g f E.1).1⟩
   .exact .inl ⟨x,(old h x s z).1,by simpa[Mu.add,s]using j⟩
  .have U:h≠b:=λe=>by subst e;rw[E.1]at j;cases j;rw[E.2]at hi;cases hi
   unfold jW;rw[p _<|λe=>l.inj b h blk x g L f z (λe=>U e.symm) q E.1 j e.symm]
theorem Jk {d:TypeId}{n by_:Nat}{z:List Value}{p:Option Addr}{f sc ln:Nat}{C:List Value}{arr:Array Value}(hzn:z.length=n)(f2:F2 (VR μ) C arr.toList)(H:C.length=ln*n)
  (hp:e.ev x= .slice p f sc) (hx:db x=Za) (s:mP n by_ σ p f sc ln C=O (v,σ')) (he:dk μ N e a.tmps) (Y:R B μ σ w)
  (I: ∀{D:Option Addr} {l:Nat},a.eval x= .slice D f l->(f+ln<=l->(execOp a.eval o).run P w=((do
    if let O a:=D then storeCells (a.add<|f*n) arr.toList
    pure (.slice D (f+ln) l):Sem Value).run P w).andThen λv w=> .ok (.value v) w)/\
   (l<f+ln->(f+ln)*by_<=140737488355328->f+ln<=9223372036854775807->∀old:Array Value,(bB n f<|.slice D f l).run P w.drew= .ok old w.drew->
    ∃J,f+ln<=J/\∃zz:Value,cellsOf zz=z/\(execOp a.eval o).run P w= .ok (.value<|.slice (O ⟨w.heap.size,0,Z⟩) (f+ln) J) (w.drew.alloc<|.cells (old++arr++bD zz.cells (J-(f+ln))) d))):jK P o a w B μ v σ':=by
 have T: ∀{D:Option Addr} {l:Nat} {τ:Hp} {old:List Value} {oa:Array Value},a.eval x= .slice D f l->l<f+ln->(f+ln)*by_<=140737488355328->f+ln<=9223372036854775807->R B μ τ w.drew->old.length=f*n->(bB n f<|.slice D f l).run P w.drew= .ok oa w.drew->F2 (VR μ) old oa.toList->
   jK P o a w B μ (.slice (O ⟨τ.n,0,Z⟩) (f+ln)<|f+ln) (τ.add ⟨old++C,Za,n⟩):=by
  intro D l τ old oa V hlt W X F m q1 q2;obtain⟨_,head⟩:=I V;obtain⟨J,hcap,zz,hzz,hrun⟩:=head hlt W X oa q1;have hzs:zz.cells.size=n:=by rw[<-hzn,<-hzz];simp[cellsOf]
  have hoal:oa.toList.length=f*n:=by rw[<-q2.length,m]
  have harl:arr.toList.length=ln*n:=by rw[<-f2.length,H]
  have hcs:(oa++arr++bD zz.cells (J-(f+ln))).size=J*n:=by
   have hoas:oa.size=f*n:=by simpa using hoal
   have hars:arr.size=ln*n:=by simpa using harl
   rw[Array.size_append,Array.size_append,MK,hzs,hoas,hars,<-dB,<-dB]
   congr 1
   omega
  obtain⟨m1,m2⟩:=F.add (oa++arr++bD zz.cells (J-(f+ln))) d (old++C) n (by rw[dC,m,H,hcs,<-dB];exact dE _ hcap) (by
   have:((oa++arr++bD zz.cells (J-(f+ln))).toList).take (old++C).length=oa.toList++arr.toList:=by
    grind
   rw[this]
   exact q2.append f2)
  refine⟨_,_,_,_,hrun, .inl rfl,m2,m1, .slice (o:=0) (g:=⟨w.drew.heap.size,0,_,n,_,Z⟩) ⟨by unfold Mu.add;exact zE rfl,rfl⟩ (cD _) hcap (by simp only[Nat.zero_add];rw[hcs];exact cD _), ?_⟩;exact((Below.refl _ _).drew).alloc Y.base _
 have Q:=he.ev hx;rw[hp]at Q;unfold mP at s;split at s
 .rename_i hfit;split at s
  .rename_i b j
   have E: ∃D l,a.eval x= .slice D f l/\sc<=l/\VR μ (.slice (O ⟨b,j,Z⟩) (f+ln) sc) (.slice D (f+ln) l)/\(C≠[]->∃g,μ.at b g/\D=O ⟨g.c,g.o+j,Z⟩):=by
    rcases Q.slice_inv with⟨g,c',L,K,S,h3,hv⟩|⟨K,S,A',hv,g0,hg0⟩
    .exact⟨_,c',hv,S, .slice L hfit S h3,λ_=>⟨g,L,rfl⟩⟩
    .subst K S;have:ln=0:=by omega
     subst this
     grind
   obtain⟨D,l,V,hle,hvr,hwhere⟩:=E;obtain⟨head,_⟩:=I V;have head:=head V1;split at s
   .rename_i M;cases s;subst M;have:=GM f2;subst this;refine .same Y ?_ hvr;rw[head];cases D<;>simp[storeCells]
   .rename_i M;split at s
    .rename_i blk hblk;split at s
     .rename_i blk' hw;cases s;obtain⟨k1,k2,k3,rfl⟩:=Ju hw;obtain⟨g,L,rfl⟩:=hwhere M;obtain⟨w',g1,g2,g3⟩:=R.writes _ _ f2 k3 σ w b (j+f*n) 0 blk g Y hblk k1 L V1;refine⟨_,w',μ,_, ?_, .inl rfl,μ.le_refl,g2,hvr,g3⟩;rw[head];simp[pK,Nat.add_assoc];simp[g1]
     .cases s
    .cases s
  .split at s
   .rename_i M;obtain⟨M,K,S,h3⟩:=M;cases s;subst K S h3 M;obtain⟨V,_,_⟩:=Q.nils_inv;have:=GM f2;subst this;obtain⟨head,_⟩:=I V;refine .same Y ?_ .nils;rw[head V1];simp
   .cases s
  .cases s
 .rename_i hfit;split at s
  .rename_i hbig;obtain⟨W,X,hall⟩:=hbig;have hone: ∀u∈C,one u=Za:=λu hu=>aG.1 hall u hu
   split at s
   .rename_i b j;split at s
    .rename_i blk hblk;split at s
     .rename_i hown;split at s
      .rename_i old r;cases s;have m:=II r
       have E: ∃D l,a.eval x= .slice D f l/\sc<=l/\(∃oa:Array Value,(bB n f<|.slice D f l).run P w.drew= .ok oa w.drew/\F2 (VR μ) old oa.toList)/\
         (f+ln<=l->∃g,μ.at b g/\D=O ⟨g.c,g.o+j,Z⟩/\j+l*g.es<=g.ext):=by
        rcases Q.slice_inv with⟨g,c',L,K,S,h3,hv⟩|⟨K,S,A',hv,g0,hg0⟩
        .obtain⟨cs',r1,r2⟩:=(CD σ Y).reads hblk L r;exact⟨_,c',hv,S,⟨cs'.toArray,by simp[bB,r1 P w.drew rfl],r2⟩,λ_=>⟨g,L,rfl,h3⟩⟩
        .subst K S;rw[Nat.zero_mul]at r;have:=UP r;subst this;exact⟨_,0,hv,cD _,⟨#[],by simp[bB,loadCells,loadCellsFrom], .nil⟩,λh=>absurd h V1⟩
       obtain⟨D,l,V,hle,⟨oa,q1,q2⟩,hin⟩:=E;by_cases U:f+ln<=l
       .
        obtain⟨head,_⟩:=I V;have head:=head U;obtain⟨g,L,rfl,hext⟩:=hin U;have hlv:=Y.get hblk L.1;obtain⟨o1,o2,A,t,fr,o3,o4,o5⟩:=hlv.own L.2 hown.1;have hes:g.es=n:=hlv.es.trans hown.2;rw[hes]at hext;have hsum:(f+ln)*n<=l*n:=dE _ U;rw[dB]at hsum;have harl:arr.toList.length=ln*n:=by rw[<-f2.length,H]
        have hone': ∀u∈arr.toList,u.oneCell'=Za:=by
         intro u hu;obtain⟨i,hi,he'⟩:=List.getElem_of_mem hu;obtain⟨u',K,S⟩:=f2.get i (C[i]'(by rw[H,<-harl];exact hi))<|dD _;rw[dD hi]at K;injection K with K
         rw[<-he',K,<-S.one_iff];exact hone _ (List.getElem_mem _)
        have hst:=Ek (P:=P) g.c (g.o+j+f*n) t fr arr.toList 0 A w o3 o5 V1 hone';rw[Nat.add_zero]at hst;have hrow:=setRow_heap w g.c A (A.toList.take (g.o+j+f*n)++arr.toList++A.toList.drop (g.o+j+f*n+arr.toList.length)).toArray t fr o3
        have hold':F2 (VR μ) old<|(A.toList.drop<|g.o+j).take<|f*n:=by
         obtain⟨cs',r1,r2⟩:=Y.reads hblk L r;refine F2.of_get _ _ (by rw[m];simp;omega) λi u u' hu hu'=> ?_
         have hi:i<f*n:=by
          grind
         unfold oB at r;split at r
         .injection r with r
          rw[<-r,List.getElem?_take,zE hi,List.getElem?_drop]at hu;obtain⟨u'',K,S⟩:=hlv.cell L.2 (j+i) u hu;rw[cell_of_row _ _ _ A t fr o3]at K
          grind
         .cases r
        have hcells:F2 (VR μ) (old++C)<|((A.toList.take (g.o+j+f*n)++arr.toList++A.toList.drop (g.o+j+f*n+arr.toList.length)).toArray.toList.drop<|g.o+j).take (old++C).length:=by
         have:((A.toList.take (g.o+j+f*n)++arr.toList++A.toList.drop (g.o+j+f*n+arr.toList.length)).toArray.toList.drop<|g.o+j).take (old++C).length=((A.toList.drop<|g.o+j).take<|f*n)++arr.toList:=by
          rw[dC,m,H,List.append_assoc];rw[List.drop_append_of_le_length V4];rw[List.drop_take,show g.o+j+f*n-(g.o+j)=f*n from by omega];have e1:((A.toList.drop<|g.o+j).take<|f*n).length=f*n:=by simp;omega
          grind
         rw[this];exact hold'.append f2
        obtain⟨m1,m2⟩:=R.moved (w':=w.setRow g.c (A.toList.take (g.o+j+f*n)++arr.toList++A.toList.drop (g.o+j+f*n+arr.toList.length)).toArray) (n:=n) Y hblk hown.1 L (o5.imp (λo5=>by have h9:g.o+j+f*n+arr.toList.length<=A.size:=V1;rw[Array.length_toList]at h9;simp;omega) id) V2 hrow (λk hk=>setRow_other _ _ _ _ hk) V4 (by rw[dC,m,H];omega) hcells;refine⟨_,_,_,_, ?_, .inl rfl,m2,m1, .slice (o:=0) (g:=⟨g.c,g.o+j,g.ext-j,n,t,Z⟩) ⟨Z0,rfl⟩ (cD _) U V4, ?_⟩
        .rw[head];simp only[pK];simp only[aD,hst,aB,cB];rfl
        .refine⟨rfl,rfl,rfl,V2,λk hk=>setRow_other _ _ _ _ V1⟩
       .exact T V V1 W X ((CD σ Y).kill b) m q1 q2
      .cases s
     .cases s
    .cases s
   .split at s
    .rename_i hsl;subst hsl;cases s;obtain⟨V,_,hsc⟩:=Q.nils_inv;subst hsc;have:=T (old:=[]) (oa:= #[]) V V1 W X (CD σ Y) V2 (by simp[bB]) .nil;rw[Nat.zero_add]at this;exact this
    .cases s
   .
    rename_i b j q
    have E: ∃D,a.eval x= .slice D f sc/\f=sc/\(f≠0->∃g,μ.at b g/\D=O ⟨g.c,g.o+j,Z⟩):=by
     generalize V:a.eval x=q' at Q;cases Q with
     |sliceX K S=>exact⟨_,rfl,rfl,λ_=>⟨_,K,rfl⟩⟩
     |sliceX0 A' K=>exact⟨_,rfl,rfl,λh=>(h rfl).elim⟩
    obtain⟨D,V,hsc,hgo⟩:=E;have F:=CD σ Y;split at s
    .rename_i hsl;cases s;have:=T (old:=[]) (oa:= #[]) V V1 W X F (by rw[hsl];simp) (by rw[hsl];cases D<;>simp[bB,loadCells,loadCellsFrom]) .nil
     grind
    .rename_i hsl;split at s
     .rename_i blk hblk;split at s
      .split at s
       .rename_i old r;cases s;obtain⟨g,L,rfl⟩:=hgo hsl;obtain⟨cs',r1,r2⟩:=F.reads hblk L r;exact T (oa:=cs'.toArray) V V1 W X F (II r) (by simp[bB,r1 P w.drew rfl]) r2
       .cases s
      .cases s
     .cases s
  .cases s
def OA {st A d:TypeId}{n g:Nat}{z:List Value}(T:o.op= .call c)(Q:c.callee= .builtin .append)(L:c.args.toList=[x,y])(W:c.argTypes.toList=[st,A])(X:P.underlying st=O (.slice d))
  (r:(∃q,P.underlying A=O (.slice q))∨P.underlying A=O .string) (S:lE P d=O n) (M:Rq P d=O g) (hz:pY P d=O z) (t:b8 z=n)
  (Y:db x=Za) (hy:db y=Za) (f:(AOp.append n g x y).run e σ=O (v,σ')) (E:dk μ N e a.tmps) (D:R B μ σ w):jK P o a w B μ v σ':=by
 have k:=E.ev hy;simp only[AOp.run]at f;split at f
 .rename_i p sl sc hp;split at f
  .rename_i ln hln;have j:=V0 hln k;split at f
   .rename_i new hnew;have⟨F,C,I⟩:=Aw (P:=P) hln (cD _) hnew D k;have H:=C w rfl;have m:=C w.drew rfl;have l:=r
    have h:b8 new=ln*n:=Yj hnew λs V=>by
     rw[V]at hln;simp[Cn]at hln;omega
    exact Jk t I h hp Y f E D λU=>by
     have⟨J,K⟩:=Rl T Q L W X l S M hz U j H;exact⟨J,λq1 q2 q3 u q4=>K q1 q2 q3 u q4 m⟩
   .cases f
  .cases f
 .cases f
theorem Pz {st J d:TypeId}{n s:Nat}{z:List Value}(ho:o.op= .call c)(hc:c.callee= .builtin .append)(ha:c.args.toList=[x,y])(ht:c.argTypes.toList=[st,J])(hu:P.underlying st=O (.slice d))
  (Q: ∃q,P.underlying J=O (.int q)) (hn:lE P d=O n) (hb:Rq P d=O s) (hz:pY P d=O z) (T:b8 z=n) (h0:0<n)
  {D:Option Addr} {g m:Nat} {k:IntKind} {l:Int} (hq:a.eval x= .slice D g m) (hl:a.eval y= .int k l) (l0:0<=l) (l1:l<=9223372036854775807) (l2:l*s<=281474976710656):
  (g+l.toNat<=m->(execOp a.eval o).run P w=((do
    if let O a:=D then storeCells (a.add<|g*n) (fp z l.toNat).toArray.toList
    pure (.slice D (g+l.toNat) m):Sem Value).run P w).andThen λv w=> .ok (.value v) w)/\
  (m<g+l.toNat->(g+l.toNat)*s<=140737488355328->g+l.toNat<=9223372036854775807->∀old:Array Value,(bB n g<|.slice D g m).run P w.drew= .ok old w.drew->
   ∃t,g+l.toNat<=t/\∃E:Value,cellsOf E=z/\(execOp a.eval o).run P w= .ok (.value<|.slice (O ⟨w.heap.size,0,Z⟩) (g+l.toNat) t) (w.drew.alloc<|.cells (old++(fp z l.toNat).toArray++bD E.cells (t-(g+l.toNat))) d)):=by
 have⟨cst,r⟩:=iC (P:=P) (a:=a) ho hc w;have⟨i,hi,C⟩:=aC.1 hb;have f: ∀w:World,(typeInfo d).run P w= .ok i w:=λw=>by simp[typeInfo,hi]
 have V:(#[Value.slice D g m,Value.int k l]:Array Value)[0]?=O (.slice D g m):=rfl;have W:(#[Value.slice D g m,Value.int k l]:Array Value)[1]?=O (.int k l):=rfl;have X:(#[st,J]:Array TypeId)[0]?=O st:=rfl;have Y:(#[st,J]:Array TypeId)[1]?=O J:=rfl;have⟨E,z1,U,z3⟩:=nh hz;have⟨q,F⟩:=Q;have w1:IntKind.i64.wrap l=l:=IntWalk.i64_in _ V1;have hzs:E.cells.size=n:=by rw[<-T,<-U];simp[cellsOf]
 have S:E.cells.toList=z:=U
 have p: ∀w:World,((if l.toNat*n=0 then pure #[]else do pure (bD (<-zeroValue d).cells l.toNat)):Sem<|Array Value).run P w= .ok (fp z l.toNat).toArray w:=by
  intro w;by_cases u:l.toNat*n=0
  .have L:l.toNat=0:=by
    rcases Nat.mul_eq_zero.1 u with h|h
    .exact h
    .omega
   have:(fp z l.toNat)=[]:=by rw[L];rfl
   rw[zE u,this];simp
  .rw[zF u]
   have hcc:bD E.cells l.toNat=(fp z l.toNat).toArray:=by
    unfold bD;rw[<-S,<-MG _ _ V1]
   simp_all
 refine⟨λH=> ?_,λA j hmax old I=> ?_⟩
 .rw[r];simp only[builtin,cZ,KZ ha,KZ ht,cY,cW,cX,hq,hl,V,W,X,Y,aD,dz hu,dz F,aB,my hn,cB,cV,if_false,asInt,asIntOf,w1,Bool.not_true,if_true];rw[Zh];simp only[aD,f,aB,C];rw[Zh];simp only[aD,cB,aB];rw[zE H];simp only[aD,p,aB];rfl
 .refine⟨grownCap w (g+l.toNat) m d,grownCap_ge _ _ _ _,E,U, ?_⟩;have M:=growslice_fits A j;rw[r];simp only[builtin,cZ,KZ ha,KZ ht,cY,cW,cX,hq,hl,V,W,X,Y,aD,dz hu,dz F,aB,my hn,cB,cV,if_false,asInt,asIntOf,w1,Bool.not_true,if_true];rw[Zh];simp only[aD,f,aB,C];rw[Zh];simp only[aD,cB,aB];rw[Zh];simp only[aD,f,aB,true_or,and_true]
  have K: ¬((g+l.toNat:Nat):Int) > IntKind.i64.max:=by
   have:IntKind.i64.max=9223372036854775807:=by decide
   omega
  rw[zF K];simp only[aD,f,aB,C];rw[Zh];simp only[aD,run_choose,Question.forced,cV,if_false,World.drew_eq,aB,f,run_askRoom,I,p,z1,newRow,run_newObj,cB,World.alloc_eq];rfl
def UI {st u d:TypeId}{n h:Nat}{z:List Value}(I:o.op= .call c)(F:c.callee= .builtin .append)(D:c.args.toList=[x,y])(J:c.argTypes.toList=[st,u])(K:P.underlying st=O (.slice d))
  (r: ∃q,P.underlying u=O (.int q)) (H:lE P d=O n) (E:Rq P d=O h) (t:pY P d=O z) (f:b8 z=n) (A:0<n)
  (L:db x=Za) (M:db y=Za) (g:(AOp.appendZ n h z x y).run e σ=O (v,σ')) (s:dk μ N e a.tmps) (C:R B μ σ w):jK P o a w B μ v σ':=by
 have j:=s.ev M;have⟨V,T,U,S⟩:=nh t;simp only[AOp.run]at g;split at g
 .rename_i p sl sc k l hp hq;split at g
  .rename_i hcond;rw[hq]at j;have Q:=j.int_inv;refine Jk (d:=d) (arr:=(fp z l.toNat).toArray) f (by simpa using VR.plainCells (En S _)) (by simp[xq,f]) hp L g s C λm=> ?_
   exact Pz I F D J K r H E t f A m Q hcond.1 hcond.2.1 hcond.2.2
  .cases g
 .cases g
end
end
section
open Builtin renaming firstCells->aD
open Nat renaming le_refl->aB
open Go.RowKit
section
variable {P:Program} {o:Oper} {a:Act} {w w':World} {B:Base P} {N:Nat} {μ:Mu} {e:bj} {σ σ':Hp} {v:Value}
theorem R.iter (h:R B μ σ w)(s:ByteArray):R B (μ.add σ.n ⟨w.heap.size,0,0,1,0,O<|.string s⟩) (σ.add ⟨[.int .i64 0],Za,1⟩) (w.iter s 0)/\μ.le (μ.add σ.n ⟨w.heap.size,0,0,1,0,O<|.string s⟩):=by
 have T:μ σ.n=Z:=h.fresh _<|aB _;have q:μ.le<|μ.add σ.n ⟨w.heap.size,0,0,1,0,O<|.string s⟩:=Mu.le_add T
 have old: ∀b x,b≠σ.n->(σ.add ⟨[.int .i64 0],Za,1⟩).m b=O x->σ.m b=O x:=by
  intro b x j f;simpa[Hp.add,j]using f
 have K: ∀x,(σ.add ⟨[.int .i64 0],Za,1⟩).m σ.n=O x->x=⟨[.int .i64 0],Za,1⟩:=by
  intro x f;simp[Hp.add]at f;exact f.symm
 have r: ∀b x g,σ.m b=O x->μ b=O g->g.c<w.heap.size:=λb x g f p=>(h.get f p).lt
 have D:(w.iter s 0).heap.size=w.heap.size+1:=by simp[World.iter]
 refine⟨⟨by rw[D];exact Nat.le_succ_of_le h.base,λk J=>(Below.heap_alloc w _ _<|Nat.lt_of_lt_of_le J h.base).trans<|h.old k J,λb j=> ?_,λb x f=> ?_,λb E x V g I f u F U p t=> ?_, ?_,h.dfr_alloc _,h.mit_alloc _⟩,q⟩
 .have:σ.n+1<=b:=j;unfold Mu.add;rw[Zh];exact h.fresh b V1
 .by_cases j:b=σ.n
  .subst j;obtain rfl:=K x f
   exact⟨⟨w.heap.size,0,0,1,0,O<|.string s⟩,Z0,⟨by rw[D];exact Nat.lt_succ_self _,rfl,λz=>(by cases z),λz=>(by cases z),λY d=>by
    injection d with d
    cases d
    exact⟨h.base,0,rfl,World.iter_heap w s 0⟩,λd=>Z2,λ_ d=>Z2,λ_ _ d=>Z2,λd=>by injection d with d;cases d⟩⟩
  have u:=old b x j f;have⟨g,A,C⟩:=h.live b x u;exact⟨g,q _ _ A,(C.mono q).kept (by rw[D];exact Nat.le_succ _) (Below.heap_alloc w _ _ C.lt)<|λL k J=>Below.heap_alloc w _ _ (h.buf u A L J).2.1⟩
 .by_cases j:b=σ.n
  .subst j;have l:E≠σ.n:=λe=>F e.symm
   have:g.c=w.heap.size:=by simp[Mu.add]at p;rw[<-p]
   have C:μ E=O I:=by simpa[Mu.add,l]using t
   grind
  have A:μ b=O g:=by simpa[Mu.add,j]using p
  have H:=old b x j f;by_cases l:E=σ.n
  .subst l;have:I.c=w.heap.size:=by simp[Mu.add]at t;rw[<-t]
   have:=r b x g H A;omega
  have C:μ E=O I:=by simpa[Mu.add,l]using t
  exact h.inj b E x V g I H (old _ _ l u) F U A C
 refine h.sep.of (λb x g f p=> ?_) (λb x g f p L _=> ?_)
 .by_cases j:b=σ.n
  .subst j;have M:g=⟨w.heap.size,0,0,1,0,O<|.string s⟩:=by simp[Mu.add]at p;exact p.symm
   subst M;exact .inr ⟨λz=>(by injection z with z;cases z),λW x1 X k A C Q S e=>by have:=(h.buf A C Q S).2.1;simp only at e;omega⟩
  exact .inl ⟨x,old b x j f,by simpa[Mu.add,j]using p⟩
 unfold jW;rw[show(w.iter s 0).heap[g.c]?=w.heap[g.c]? from Below.heap_alloc w _ _<|r b x g f p]
theorem R.step (h:R B μ σ w){b:Nat}{x:Blk}{g:G}{s:ByteArray}(T:σ.m b=O x)(S:x.own=Za)(I:μ b=O g)(t:g.it=O (.string s))(q:Nat):
  R B μ (σ.set b<|O ⟨[.int .i64 (q:Int)],Za,x.es⟩) (w.iterAt g.c s q):=by
 have W:=h.get T I;have⟨o1,p,o3,o4⟩:=W.iter s t;have f: ∀k,k≠g.c->(w.iterAt g.c s q).heap[k]?=w.heap[k]?:=λk A=>Lib.iterAt_other w _ k s q A
 have E:(w.iterAt g.c s q).heap.size=w.heap.size:=Lib.iterAt_size w _ s q
 have old: ∀r n,r≠b->(σ.set b<|O ⟨[.int .i64 (q:Int)],Za,x.es⟩).m r=O n->σ.m r=O n:=by
  intro r n L l;simpa[Hp.set,L]using l
 have new: ∀n,(σ.set b<|O ⟨[.int .i64 (q:Int)],Za,x.es⟩).m b=O n->n=⟨[.int .i64 (q:Int)],Za,x.es⟩:=by
  intro n l;simp[Hp.set]at l;exact l.symm
 refine⟨by rw[E];exact h.base,λk A=>(f k V1).trans<|h.old k A,h.fresh,λr n l=> ?_,λb1 b2 x1 x2 g1 g2 H h2 D M U V=> ?_, ?_,h.dfr_but (c:=g.c) (λd=>by rw[o4];simp) (λk A _=>f k A),h.mit_but (c:=g.c) (λo S e=>by rw[o4]at e;cases e;cases S) λk A _=>f k A⟩
 .by_cases L:r=b
  .subst L;obtain rfl:=new n l
   exact⟨g,I,⟨by rw[E];exact W.lt,W.es,λK=>(by rw[t]at K;cases K),λK=>(by rw[t]at K;cases K),λs' j=>by
    rw[t]at j;injection j with j
    cases j
    exact⟨o1,q,rfl,Lib.iterAt_heap w _ s p q o4⟩,λj=>ZC,λ_ j=>ZC,λ_ _ j=>ZC,λj=>by rw[t]at j;injection j with j;cases j⟩⟩
  .have C:=old r n L l;have⟨F,H,h2⟩:=h.live r n C;exact⟨F,H,h.stays C H (by rw[E];exact aB _) g.c (λk A _=>f k A) (λe=>h.inj b r x n g F T C (λe=>L e.symm) S I H e.symm)<|λJ A=>((h.sep r n F C H J _ A b x g T I).1 rfl)⟩
 .have z: ∀r n,(σ.set b<|O ⟨[.int .i64 (q:Int)],Za,x.es⟩).m r=O n->∃y,σ.m r=O y/\y.own=n.own:=by
   grind
  have⟨y1,X,e1⟩:=z _ _ H;have⟨y2,Y,_⟩:=z _ _ h2;exact h.inj b1 b2 y1 y2 g1 g2 X Y D (e1.trans M) U V
 .have Q: ∀r n,(σ.set b<|O ⟨[.int .i64 (q:Int)],Za,x.es⟩).m r=O n->∃y,σ.m r=O y:=by
   grind
  refine h.sep.of (λr n F l u=> .inl (let⟨y,hy⟩:=Q r n l;⟨y,hy,u⟩))<|λr n F l u J _=> ?_;have D:r≠b:=λe=>by subst e;rw[I]at u;cases u;rw[t]at J;injection J with J;cases J
  unfold jW;rw[f _<|λe=>h.inj b r x n g F T l (λe=>D e.symm) S I u e.symm]
def I8 {μ:Mu}: ∀{cs d:List Value} {l:Zd},F2 (VR μ) cs d->Au cs=O l->d=l.map (Value.int .u8)
 |[],_,l,h,f=>by
  cases h;simp[Au]at f;subst f;rfl
 |c::cs,_,l,h,f=>by
  cases h with
  |cons k m=>
   rename_i s d;unfold Au at f;split at f
   .rename_i he;cases he
   .rename_i n r he;injection he with g j
    subst g;subst j;have⟨t,p,q⟩:=aC.1 f;subst q;rw[I8 m p,k.int_inv];rfl
   .cases f
def ai5 {s d t:TypeId}(I:o.op= .convert s d x)(J:P.underlying s=O (.slice t))(K:P.underlying t=O (.int .u8))(H:P.underlying d=O .string)(U:db x=Za)(k:(AOp.strOf x).run e σ=O (v,σ'))(S:dk μ N e a.tmps)(r:R B μ σ w):jK P o a w B μ v σ':=by
 have h:=S.ev U;simp only[AOp.run]at k;split at k
 .rename_i p n c hp;rw[hp]at h;split at k
  .rename_i cs hcs;obtain⟨l,T,k⟩:=aC.1 k;simp only[b7]at k;obtain⟨rfl,rfl⟩:=k;have⟨L,M,Q⟩:=Aw (P:=P) (es:=1) (n:=n) (ln:=n) rfl (aB _) hcs r h;have F:=I8 Q T;have f:=M w rfl
   have g: ∀(q:Option Addr) (A:Nat),a.eval x= .slice q n A->(n=0∨∃z,q=O z)->(execOp a.eval o).run P w= .ok (.value<|.string<|xo l) w:=by
    intro q A j C;rw[j]at f;cases q with
    |none=>
     rcases C with C|⟨z,C⟩
     .subst C;simp[aD]at f;subst f;have D:l=[]:=by simpa using F.symm
      subst D;simp[execOp,I,j,run_convert_bytes_string w s d t Z 0 A J K H,Conv.bytesToString,xo]
     cases C
    |some z=>
     have m:(loadCells z n).run P w= .ok (l.map<|Value.int .u8).toArray w:=by
      simp only[aD,Nat.mul_one]at f;rw[f,<-F]
     simp[execOp,I,j,run_convert_bytes_string w s d t (O z) n A J K H,run_bytesToString w z n A l m,xo]
   generalize j:a.eval x=u at h;cases h with
   |nils=>exact .same r (g Z 0 j<|.inl rfl) (.string _)
   |slice E V W X=>exact .same r (g _ _ j<|.inr ⟨_,rfl⟩) (.string _)
   |slice0 A' E=>exact .same r (g _ _ j<|.inl rfl) (.string _)
   |sliceX E V=>exact .same r (g _ _ j<|.inr ⟨_,rfl⟩) (.string _)
   |sliceX0 A' E=>exact .same r (g _ _ j<|.inl rfl) (.string _)
  cases k
 cases k
end
end
end Go.Ab
