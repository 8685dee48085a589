/- A part of the proofs of this claim: what functions of the program answer on an abstract machine, and plain laws. No condition. -/
import Derived.Test.YtbocegmeciaanaaGreatA3
set_option linter.unusedVariables false
set_option linter.unusedSimpArgs false
set_option linter.unusedSectionVars false
namespace Go.V
open Go.Ab
def cm (c:Ctx)(e:fa)(ea:dy):Prop:= ∀t,VRel c (ou e t) (ea t)
theorem cm.frame {c c':Ctx}{e:fa}{ea:dy}(h:cm c e ea)(hl:Le c c'):cm c' e ea:=fun t=>(h t).frame hl
theorem vm {e:fa}{d t:Nat}{v:VV}:ou (rK e d v) t=if t=d then v else ou e t:=by
 induction d generalizing e t with
 |zero=>cases e<;>cases t<;>simp[rK,ou]
 |succ d ih=>
  cases e with
  |nil=>
   cases t with
   |zero=>simp[rK,ou]
   |succ t=>simp[rK,ou,ih]
  |cons a r=>
   cases t with
   |zero=>simp[rK,ou]
   |succ t=>simp[rK,ou,ih]
theorem cm.put {c:Ctx}{e:fa}{ea:dy}(h:cm c e ea){d:Nat}{v:VV}{a:Value}(hv:VRel c v a):cm c (rK e d v) (ea.put d a):=by
 intro t;rw[vm];unfold dy.put;by_cases ht:t=d
 ·rw[if_pos ht,if_pos ht];exact hv
 ·rw[if_neg ht,if_neg ht];exact h t
theorem cm.putO {c:Ctx}{e:fa}{ea:dy}(h:cm c e ea){d:Option Nat}{v:VV}{a:Value}(hv:VRel c v a):cm c (putO e d v) (ea.putO d a):=by
 cases d with
 |none=>exact h
 |some d=>exact h.put hv
theorem by8 (c:Ctx)(v:Value):VRel c (aO4 v) v:=by
 unfold aO4;split
 ·exact .bool _
 ·exact .int _ _
 ·exact .str rfl
 ·exact .nilp
 ·exact .nils
 ·exact .nilf
 ·exact .undef _
theorem as2 (c:Ctx)(l:List Value):F2 (VRel c) (l.map aO4) l:=by
 induction l with
 |nil=>exact .nil
 |cons v l ih=>exact .cons (by8 c v) ih
theorem cl7 (c:Ctx)(v:Value):VRel c (ofC v) v:=by
 unfold ofC;split
 ·rename_i cs;exact .agg (by simpa using as2 c cs.toList)
 ·exact by8 c _
theorem de {c:Ctx}{e:fa}{ea:dy}(h:cm c e ea)(x:Operand):VRel c (ev e x) (ea.ev x):=by
 cases x with
 |tmp t=>exact h t
 |const v=>exact cl7 c v
 |global _=>exact .undef _
 |func f=>exact .fn .nil .nil
theorem aP5 {c:Ctx}{e:fa}{ea:dy}(h:cm c e ea)(xs:List Operand):F2 (VRel c) (xs.map (ev e)) (xs.map ea.ev):=by
 induction xs with
 |nil=>exact .nil
 |cons x xs ih=>exact .cons (de h x) ih
theorem cn {β:Type}{b:Bool}{x:Option β}{y:β}(h:gd b x=some y):b=true∧x=some y:=by
 cases b with
 |false=>cases h
 |true=>exact⟨rfl,h⟩
theorem bz3 {c:Ctx}{v:VV}{a:Value}(h:VRel c v a)(h1:cn1 v=true):one a=true:=by
 cases h<;>first|rfl|assumption|(cases h1;done)|(rename_i h;rcases h with rfl|⟨_,_,rfl⟩<;>rfl)
theorem lD {c:Ctx}: ∀{l:List VV} {m:List Value},F2 (VRel c) l m→qR l=true→m.all one=true
 |_,_, .nil,_=>rfl
 |_,_, .cons h1 h2,h=>by
  simp only[qR,List.all_cons,Bool.and_eq_true]at h⊢;exact⟨bz3 h1 h.1,lD h2 h.2⟩
theorem aq0 : ∀(s:Sh) (x:El s),qR (fe s x)=true
 | .int _,_=>rfl
 | .bool,_=>rfl
 | .str,_=>rfl
 | .list _,_=>rfl
 | .pair a b,x=>by
  have h1:=aq0 a x.1;have h2:=aq0 b x.2;simp only[qR,fe,List.all_append,Bool.and_eq_true]at*;exact⟨h1,h2⟩
theorem sY (s:Sh)(l:List (El s)):qR (gr s l)=true:=by
 induction l with
 |nil=>rfl
 |cons x l ih=>
  have h1:=aq0 s x;rw[iy];simp only[qR,List.all_append,Bool.and_eq_true]at*;exact⟨h1,ih⟩
theorem aH0 {c:Ctx}{v:VV}{a:Value}(h:VRel c v a)(hv:qR (pt v)=true):F2 (VRel c) (pt v) (cellsOf a):=by
 have hone:one a=true→cellsOf a=[a]:=fun h=>by cases a<;>first|rfl|(cases h;done)
 cases v with
 |agg l=>
  cases h with
  |agg h=>exact h
 |undef=>cases hv
 |tup l=>cases hv
 |_=>
  rw[hone (bz3 h rfl)];exact .cons h .nil
theorem dh {T:ig}{op:AOp}{e:dy}{σ σ':Hp}{v:Value}{K:Value→Hp→Prop}(h:op.run e σ=some (v,σ'))(hk:K v σ'):db T op e σ K:=by
 unfold db;split
 ·cases h
 ·cases h
 ·rw[h];exact hk
theorem vP {α:Type}: ∀(l:List α) (i:Nat),nth l i=l[i]?
 |[],_=>rfl
 |_::_,0=>rfl
 |_::l,i+1=>by
  rw[show nth (_::l) (i+1)=nth l i from rfl,vP l i];rfl
theorem F2.nth {c:Ctx}{l:List VV}{m:List Value}(h:F2 (VRel c) l m){i:Nat}{v:VV}(hv:nth l i=some v): ∃a,m[i]?=some a∧VRel c v a:=by
 rw[vP]at hv;exact h.get i v hv
theorem aI1 {k:IntKind}: ∀{cs:List VV} {l:List Int},vn k cs=some l→cs=l.map (.int k)
 |[],l,h=>by cases h;rfl
 |v::r,l,h=>by
  cases v<;>simp only[vn]at h<;>try(cases h;done)
  rename_i k' n;cases hk:decide (k'=k)with
  |false=>rw[hk]at h;cases h
  |true=>
   rw[hk,cond_true]at h;cases h1:vn k r with
   |none=>rw[h1]at h;cases h
   |some m=>
    rw[h1]at h;injection h with h
    subst h;rw[aI1 h1,of_decide_eq_true hk];rfl
theorem aU5 : ∀{cs:List VV} {l:List Bool},aU4 cs=some l→cs=l.map .bool
 |[],l,h=>by cases h;rfl
 |v::r,l,h=>by
  cases v<;>simp only[aU4]at h<;>try(cases h;done)
  cases h1:aU4 r with
  |none=>rw[h1]at h;cases h
  |some m=>
   rw[h1]at h;injection h with h
   subst h;rw[aU5 h1];rfl
theorem bj0 : ∀{cs:List VV} {l:List (List Int)},bC5 cs=some l→cs=l.map .str
 |[],l,h=>by cases h;rfl
 |v::r,l,h=>by
  cases v<;>simp only[bC5]at h<;>try(cases h;done)
  cases h1:bC5 r with
  |none=>rw[h1]at h;cases h
  |some m=>
   rw[h1]at h;injection h with h
   subst h;rw[bj0 h1];rfl
theorem bz7 {β:Type}{S:cf}{k:VV→cf→Option β}{y:β}: ∀{cs:List VV} {i:Nat},bO4 S k cs i=some y→∃v,cs[i]?=some v∧k v S=some y
 |[],_,h=>by cases h
 |v::r,i,h=>by
  simp only[bO4]at h;cases hi:Nat.beq i 0 with
  |true=>
   rw[hi]at h;have:=Nat.eq_of_beq_eq_true hi;subst this;exact⟨v,rfl,h⟩
  |false=>
   rw[hi]at h;obtain⟨w,h1,h2⟩:=bz7 h;have:i≠0:=fun e=>by subst e;cases hi
   obtain⟨j,rfl⟩:=Nat.exists_eq_succ_of_ne_zero this;exact⟨w,h1,h2⟩
theorem bv5 {β:Type}{S:cf}{k:VV→cf→Option β}{y:β}{cs:List VV}{i:Nat}(hi:i<cs.length)(h:bv4 cs i S k=some y): ∃v,cs[i]?=some v∧k v S=some y:=by
 unfold bv4 at h;split at h
 ·rename_i kd n r;split at h
  ·rename_i l hl;have:=aI1 hl;subst this;refine⟨_, ?_,h⟩;rw[show(VV.int kd n::l.map (VV.int kd))=(n::l).map (VV.int kd)from rfl,List.getElem?_map];have hi':i<(n::l).length:=by simpa using hi
   rw[List.getElem?_eq_getElem hi',List.getD_eq_getElem?_getD,List.getElem?_eq_getElem hi'];rfl
  ·cases h
 ·rename_i b r;split at h
  ·rename_i l hl;have:=aU5 hl;subst this;refine⟨_, ?_,h⟩;rw[show(VV.bool b::l.map VV.bool)=(b::l).map VV.bool from rfl,List.getElem?_map];have hi':i<(b::l).length:=by simpa using hi
   rw[List.getElem?_eq_getElem hi',List.getD_eq_getElem?_getD,List.getElem?_eq_getElem hi'];rfl
  ·cases h
 ·rename_i b r;split at h
  ·rename_i l hl;have:=bj0 hl;subst this;refine⟨_, ?_,h⟩;rw[show(VV.str b::l.map VV.str)=(b::l).map VV.str from rfl,List.getElem?_map];have hi':i<(b::l).length:=by simpa using hi
   rw[List.getElem?_eq_getElem hi',List.getD_eq_getElem?_getD,List.getElem?_eq_getElem hi'];rfl
  ·cases h
 ·exact bz7 h
theorem gb.block {c:Ctx}(hR:gb c){k b:Nat}{d:Nat×Nat}(hd:(aD c.S k).dim=some d)(hm:c.μ k=some b):
  ∃y cs rest,c.σ.m b=some y∧y.es=d.1∧((aD c.S k).frozen=false→y.own=true)∧y.cells=cs++rest∧F2 (VRel c) (aD c.S k).vals cs:=by
 obtain⟨_,h⟩:=hR.blk k d hd;rcases h with⟨_,h⟩|⟨b',y,cs,rest,h,h'⟩
 ·rw[h]at hm;cases hm
 ·rw[hm]at h;injection h with h
  subst h;exact⟨y,cs,rest,h'⟩
def uq (c:Ctx)(cs:List VV)(b p:Nat):Prop:= ∃y,c.σ.m b=some y∧p+cs.length≤y.cells.length∧F2 (VRel c) cs ((y.cells.drop p).take cs.length)
theorem uq.get {c:Ctx}{cs:List VV}{b p:Nat}(h:uq c cs b p){o:Nat}{v:VV}(hv:nth cs o=some v): ∃y a,c.σ.m b=some y∧y.cells[p+o]?=some a∧VRel c v a:=by
 obtain⟨y,h1,h2,h3⟩:=h;obtain⟨a,h4,h5⟩:=F2.nth h3 hv;refine⟨y,a,h1, ?_,h5⟩;rw[vP]at hv
 have ho:o<cs.length:=by
  rcases Nat.lt_or_ge o cs.length with h|h
  ·exact h
  ·rw[List.getElem?_eq_none h]at hv;cases hv
 rwa [List.getElem?_take,if_pos ho,List.getElem?_drop]at h4
theorem uq.read {c:Ctx}{cs:List VV}{b p:Nat}(h:uq c cs b p){o n:Nat}(hn:o+n≤cs.length): ∃y as,c.σ.m b=some y∧rB y (p+o) n=some as∧F2 (VRel c) ((cs.drop o).take n) as:=by
 obtain⟨y,h1,h2,h3⟩:=h;refine⟨y,(y.cells.drop (p+o)).take n,h1,if_pos (by omega), ?_⟩;have h4:=(h3.drop o).take n;rw[List.drop_take,List.drop_drop,List.take_take,Nat.min_eq_left (by omega)]at h4;exact h4
theorem gb.stands {c:Ctx}(hR:gb c){k b:Nat}{d:Nat×Nat}(hd:(aD c.S k).dim=some d)(hm:c.μ k=some b):uq c (aD c.S k).vals b 0:=by
 obtain⟨y,cs,rest,h1,_,_,h2,h3⟩:=hR.block hd hm;have hl:=h3.length;refine⟨y,h1,by rw[h2,List.length_append];omega, ?_⟩;rw[List.drop_zero,h2,List.take_append_of_le_length (by omega),List.take_of_length_le (by omega)];exact h3
theorem uq.part {c:Ctx}{cs:List VV}{b p:Nat}(h:uq c cs b p){o n:Nat}(hn:o+n≤cs.length):uq c ((cs.drop o).take n) b (p+o):=by
 obtain⟨y,h1,h2,h3⟩:=h;have hl:((cs.drop o).take n).length=n:=by rw[List.length_take,List.length_drop];omega
 refine⟨y,h1,by rw[hl];omega, ?_⟩;have h4:=(h3.drop o).take n;rw[List.drop_take,List.drop_drop,List.take_take,Nat.min_eq_left (by omega)]at h4
 rwa [hl]
theorem bA4 {β:Type}{c:Ctx}(hR:gb c){n:Nat}{agg:Bool}{v:VV}{a:Value}{k:VV→cf→Option β}{y:β}(h:bi6 c.S n agg v k=some y)(hv:VRel c v a):
  ∃b o x,a= .pointer (some ⟨b,o,none⟩)∧c.σ.m b=some x∧
   (agg=false→∃u w,x.cells[o]?=some u∧VRel c w u∧k w c.S=some y)∧
   (agg=true→∃us ws,rB x o n=some us∧F2 (VRel c) ws us∧k (.agg ws) c.S=some y):=by
 have out: ∀(cs:List VV) (b p o:Nat),uq c cs b p→a= .pointer (some ⟨b,p+o,none⟩)→
   cond agg (gd (Nat.ble (o+n) cs.length) (k (.agg ((cs.drop o).take n)) c.S)) (match nth cs o with
    |some v=>k v c.S
    |none=>none)=some y→
   ∃b o x,a= .pointer (some ⟨b,o,none⟩)∧c.σ.m b=some x∧
   (agg=false→∃u w,x.cells[o]?=some u∧VRel c w u∧k w c.S=some y)∧
   (agg=true→∃us ws,rB x o n=some us∧F2 (VRel c) ws us∧k (.agg ws) c.S=some y):=by
  intro cs b p o hs ha h;cases agg with
  |true=>
   obtain⟨h1,h2⟩:=cn h;obtain⟨x,as,h3,h4,h5⟩:=hs.read (Nat.le_of_ble_eq_true h1);exact⟨b,p+o,x,ha,h3,(by intro h;cases h),fun _=>⟨as,_,h4,h5,h2⟩⟩
  |false=>
   rw[cond_false]at h;split at h
   ·rename_i w hw;obtain⟨x,u,h3,h4,h5⟩:=hs.get hw;exact⟨b,p+o,x,ha,h3,(fun _=>⟨u,w,h4,h5,h⟩),(by intro h;cases h)⟩
   ·cases h
 unfold bi6 at h;cases v with
 |ptr q o=>
  simp only at h;cases hb:aD c.S q with
  |dead=>rw[hb]at h;cases h
  |arr s z l=>rw[hb]at h;cases h
  |cells es z l=>
   rw[hb]at h;cases hv with
   |ptr hk _ hd=>
    obtain⟨b,hm,ha⟩:=hd (es,l.length) (by rw[hb];rfl);have hs:=hR.stands (k:=q) (d:=(es,l.length)) (by rw[hb];rfl) hm;rw[hb]at hs;exact out l b 0 o hs (by rw[ha,Nat.zero_add]) h
 |pix q o m i=>
  simp only at h;cases hb:aD c.S q with
  |dead=>rw[hb]at h;cases h
  |arr s z l=>rw[hb]at h;cases h
  |cells es z l=>
   rw[hb]at h;obtain⟨h1,h2⟩:=cn h;rw[Bool.and_eq_true]at h1;have h3:=Nat.le_of_ble_eq_true h1.2;have hagg:agg=false:=by simpa using h1.1
   subst hagg;cases hv with
   |pix hk _ hi hd=>
    obtain⟨b,hm,ha⟩:=hd (es,l.length) (by rw[hb];rfl);have hs:=hR.stands (k:=q) (d:=(es,l.length)) (by rw[hb];rfl) hm;rw[hb]at hs;have hlen:((l.drop o).take m).length=m:=by rw[List.length_take,List.length_drop];omega
    obtain⟨w,h4,h5⟩:=bv5 (by omega) h2;have hs':uq c ((l.drop o).take m) b (0+o):=uq.part (cs:=l) hs h3;rw[←vP]at h4;obtain⟨x,u,h6,h7,h8⟩:=hs'.get h4;exact⟨b,o+i,x,ha,h6,(fun _=>⟨u,w,by rwa [Nat.zero_add]at h7,h8,h5⟩),(by intro h;cases h)⟩
 |pel q i o=>
  simp only at h;cases hb:aD c.S q with
  |dead=>rw[hb]at h;cases h
  |cells es z l=>rw[hb]at h;cases h
  |arr s z l=>
   rw[hb]at h;simp only at h;cases hx:l[i]? with
   |none=>rw[hx]at h;cases h
   |some x=>
    rw[hx]at h;cases hv with
    |pel hk _ hd=>
     obtain⟨b,hm,ha⟩:=hd (s.w,l.length*s.w) (by rw[hb];rfl);have hs:=hR.stands (k:=q) (d:=(s.w,l.length*s.w)) (by rw[hb];rfl) hm;rw[hb]at hs
     have hi:i<l.length:=by
      rcases Nat.lt_or_ge i l.length with h|h
      ·exact h
      ·rw[List.getElem?_eq_none h]at hx;cases hx
     have hle:i*s.w+s.w≤(gr s l).length:=by
      rw[iF,←Nat.succ_mul];exact Nat.mul_le_mul_right _ hi
     have hs':uq c (((gr s l).drop (i*s.w)).take s.w) b (0+i*s.w):=uq.part (cs:=gr s l) hs hle;rw[aH9 hx,Nat.zero_add]at hs';exact out (fe s x) b (i*s.w) o hs' ha h
 |pin s x o=>
  simp only at h;cases hv with
  |pin hn hy hl hf=>
   exact out (fe s x) _ _ o ⟨_,hy,by rw[fp];exact hl,by rw[fp];exact hf⟩ rfl h
 |_=>cases h
theorem aQ7.frame {c c':Ctx}(hl:Le c c'){k:Nat}(h:aQ7 c k)(hS:aD c'.S k=aD c.S k)(hμ:(aD c.S k).dim≠none→c'.μ k=c.μ k)(hσ: ∀b y,(aD c.S k).dim≠none→c.μ k=some b→c.σ.m b=some y→c'.σ.m b=some y):aQ7 c' k:=by
 intro d hd;rw[hS]at hd;obtain⟨h1,h2⟩:=h d hd;have hm:=hμ (by rw[hd];simp);refine⟨h1, ?_⟩;rcases h2 with⟨h3,h4⟩|⟨b,y,cs,rest,h3,h4,h5,h6,h7,h8⟩
 ·exact .inl ⟨h3,hm.trans h4⟩
 ·exact .inr ⟨b,y,cs,rest,hm.trans h3,hσ b y (by rw[hd];simp) h3 h4,h5,by rw[hS];exact h6,h7,by rw[hS];exact VRel.frames hl h8⟩
def tW (S S':cf):Prop:=S'.length=S.length∧∀k,aD S' k=aD S k∨aD S' k=(aD S k).freeze
theorem tW.refl (S:cf):tW S S:=⟨rfl,fun _=> .inl rfl⟩
theorem be2 {b:Blk}:b.freeze.freeze=b.freeze:=by cases b<;>rfl
theorem tW.trans {a b c:cf}(h:tW a b)(k:tW b c):tW a c:=by
 refine⟨k.1.trans h.1,fun i=> ?_⟩;rcases h.2 i with h1|h1<;>rcases k.2 i with h2|h2
 ·exact .inl (h2.trans h1)
 ·exact .inr (by rw[h2,h1])
 ·exact .inr (h2.trans h1)
 ·exact .inr (by rw[h2,h1,be2])
theorem tW.put {S:cf}{k:Nat}:tW S (mh S k (aD S k).freeze):=by
 refine⟨ap4,fun i=> ?_⟩;rw[wM];split
 ·rename_i h;rw[h.1];exact .inr rfl
 ·exact .inl rfl
theorem tW.fold {f:cf→VV→cf}(hf: ∀S v,tW S (f S v)): ∀(l:List VV) (S:cf),tW S (l.foldl f S)
 |[],S=>tW.refl S
 |v::l,S=>(hf S v).trans (tW.fold hf l _)
theorem bM1 : ∀(n:Nat) (S:cf) (v:VV),tW S (fzv n S v)
 |0,S,_=>tW.refl S
 |n+1,S,v=>by
  have key: ∀k,tW S (match aD S k with
    | .cells es _ l=>l.foldl (fzv n) (mh S k (.cells es true l))
    |b=>mh S k b.freeze):=by
   intro k;have hp:=tW.put (S:=S) (k:=k);split
   ·rename_i es z l h;rw[h]at hp;exact tW.trans hp (tW.fold (bM1 n) l _)
   ·exact hp
  unfold fzv;split
  ·exact key _
  ·exact key _
  ·exact tW.refl S
theorem ar7 (S:cf)(l:List VV):tW S (fzL S l):=tW.fold (bM1 3) l S
theorem bZ5 (S:cf)(v:VV):tW S (ct5 S v):=by
 unfold ct5;split
 ·split
  ·exact ar7 S _
  ·exact tW.refl S
 ·split
  ·exact ar7 S _
  ·exact tW.refl S
 ·exact tW.refl S
theorem bS6 (k:Sk)(v:VV)(S:cf):tW S (bZ4 k v S):=by
 unfold bZ4;split
 ·exact bZ5 S v
 ·exact tW.refl S
theorem aW4 : ∀(l:List Sk) (vs:List VV) (S:cf),tW S (an4 l vs S)
 |[],_,S=>tW.refl S
 |_::_,[],S=>tW.refl S
 |k::r,v::vs,S=>(bS6 k v S).trans (aW4 r vs _)
theorem ut : ∀(l:List Nat) (S:cf),tW S (ae8 l S)
 |[],S=>tW.refl S
 |_::l,S=>tW.put.trans (ut l _)
theorem tW.dim {S S':cf}(h:tW S S')(k:Nat):(aD S' k).dim=(aD S k).dim:=by
 rcases h.2 k with h|h<;>rw[h]
 exact gz
theorem tW.vals {S S':cf}(h:tW S S')(k:Nat):(aD S' k).vals=(aD S k).vals:=by
 rcases h.2 k with h|h<;>rw[h]
 exact aM7
theorem tW.fz {S S':cf}(h:tW S S'){k:Nat}(hz:(aD S' k).frozen=false):aD S' k=aD S k:=by
 rcases h.2 k with h|h
 ·exact h
 ·rw[h,pv]at hz;cases hz
theorem tW.le {c:Ctx}{S':cf}(h:tW c.S S'):Le c ⟨c.μ,S',c.σ,c.fb⟩:=by
 refine⟨Nat.le_of_eq h.1.symm,fun k d _ hd=>⟨(h.dim k)▸hd,rfl⟩,fun k hk _=> ?_,fun _ _ _ y _ _ _ hy=>⟨y,hy,rfl⟩,fun b y hy _=>hy,fun b y hy hn=> ?_,Nat.le_refl _,rfl⟩
 ·rcases h.2 k with h|h
  ·exact h
  ·exact h.trans (zi hk)
 ·rintro⟨k,h1,h2⟩;exact hn ⟨k,by rw[←h.fz h1];exact h1,h2⟩
theorem tW.rel {c:Ctx}(hR:gb c){S':cf}(h:tW c.S S'):gb ⟨c.μ,S',c.σ,c.fb⟩:=by
 refine⟨hR.ok,fun k k' b hk hk' hm hm'=>hR.inj k k' b (by rw[←h.fz hk];exact hk) (by rw[←h.dim];exact hk') hm hm',fun k d hd=> ?_,fun k b hk hm=>hR.fbk k b (by rw[←h.dim];exact hk) hm,hR.fbl⟩;have hd':(aD c.S k).dim=some d:=(h.dim k)▸hd;obtain⟨h1,h2⟩:=hR.blk k d hd';refine⟨h1, ?_⟩;rcases h2 with h2|⟨b,y,cs,rest,h3,h4,h5,h6,h7,h8⟩
 ·exact .inl h2
 ·exact .inr ⟨b,y,cs,rest,h3,h4,h5,fun hz=>h6 (by rw[←h.fz hz];exact hz),h7,by rw[h.vals k];exact VRel.frames h.le h8⟩
theorem tW.calm {c:Ctx}{S':cf}(d:List Nat)(h:tW c.S S'):uM d c ⟨c.μ,S',c.σ,c.fb⟩:=fun k _ _ hk=>⟨by rw[h.dim];exact hk,fun _ _=>rfl⟩
theorem uM.trans {a b c:Ctx}{d:List Nat}(h:uM d a b)(k:uM d b c)(hl:Le a b):uM d a c:=by
 intro i hi hd hn;obtain⟨h1,h2⟩:=h i hi hd hn;obtain⟨h3,h4⟩:=k i (Nat.lt_of_lt_of_le hi hl.len) hd h1;refine⟨h3,fun x hx=> ?_⟩
 have hx':b.μ i=some x:=by
  cases hb:(aD b.S i).dim with
  |none=>exact(h1 hb).elim
  |some z=>exact(hl.al i z hi hb).2.trans hx
 exact(h4 x hx').trans (h2 x hx)
def bL0 (c:Ctx)(kill:Option Nat)(b:Nat):Prop:= ∃k,kill=some k∧c.μ k=some b
def um (c:Ctx)(b1:Option Nat):Nat→Option Nat:=fun i=>if i=c.S.length then b1 else c.μ i
theorem wI {S:cf}{kill:Option Nat}:(rz S kill).length=S.length:=by cases kill<;>simp[rz,ap4]
theorem bT2 {S:cf}{kill:Option Nat}{i:Nat}:aD (rz S kill) i=if kill=some i then .dead else aD S i:=by
 cases kill with
 |none=>simp[rz]
 |some k=>
  simp only[rz,wM,Option.some.injEq];by_cases h:i=k
  ·subst h;by_cases h1:i<S.length
   ·simp[h1]
   ·simp[h1,vq (Nat.le_of_not_lt h1)]
  ·simp[h,Ne.symm h]
structure Moves (c:Ctx)(kill:Option Nat)(b1:Option Nat)(blk:Blk)(σ':Hp):Prop where
 fr: ∀b,b1=some b→(∀z,c.σ.m b≠some z)→¬c.fb b
 kz: ∀k,kill=some k→(aD c.S k).frozen=false
 ok:σ'.Ok
 n:c.σ.n≤σ'.n
 old: ∀i y,c.σ.m i=some y→¬bL0 c kill i→σ'.m i=some y
 one: ∃d,blk.dim=some d∧1≤d.1∧((b1=none∧d.2=0)∨∃b y cs rest,b1=some b∧σ'.m b=some y∧y.es=d.1∧(blk.frozen=false→y.own=true)∧y.cells=cs++rest∧F2 (VRel c) blk.vals cs∧((∀z,c.σ.m b≠some z)∨bL0 c kill b))
section
variable {c:Ctx} {kill b1:Option Nat} {blk:Blk} {σ':Hp}
theorem lq (i:Nat):aD (rz c.S kill++[blk]) i=if i=c.S.length then blk else if kill=some i then .dead else aD c.S i:=by
 by_cases h:i=c.S.length
 ·subst h;rw[if_pos rfl,←wI (S:=c.S) (kill:=kill),bC0]
 ·rw[if_neg h];by_cases h1:i<c.S.length
  ·rw[px (by rw[wI];exact h1),bT2]
  ·have h2:c.S.length<i:=by omega
   rw[vq (by rw[List.length_append,wI];simp;omega),vq (k:=i) (S:=c.S) (by omega)];split<;>rfl
theorem Moves.low (hR:gb c)(h:Moves c kill b1 blk σ'){i b:Nat}(_:i≠c.S.length)(hk:kill≠some i)(hd:(aD c.S i).dim≠none)(hm:c.μ i=some b): ¬bL0 c kill b:=by
 rintro⟨k,rfl,h1⟩;exact hk (congrArg some (hR.inj k i b (h.kz k rfl) hd h1 hm))
theorem Moves.le (hR:gb c)(h:Moves c kill b1 blk σ'):Le c ⟨um c b1,rz c.S kill++[blk],σ',c.fb⟩:=by
 have hlt: ∀k,k<c.S.length→k≠c.S.length:=fun k hk=>by omega
 refine⟨by simp[wI],fun k d hk hd=> ?_,fun k hz hd=> ?_,fun k d b y hk hd hm hy=> ?_,fun b y hy hn=>h.old b y hy fun⟨k,e,hm⟩=>hn ⟨k,h.kz k e,hm⟩,fun b y hy hn=> ?_,h.n,rfl⟩
 ·simp only[lq,if_neg (hlt k hk)]at hd;split at hd
  ·cases hd
  ·exact⟨hd,if_neg (hlt k hk)⟩
 ·have hk:=pc hd;simp only[lq,if_neg (hlt k hk)];rw[if_neg];intro e;have:=h.kz k e;rw[hz]at this;cases this
 ·simp only[lq,if_neg (hlt k hk)]at hd;split at hd
  ·cases hd
  ·rename_i hne;exact⟨y,h.old b y hy (h.low hR (hlt k hk) hne (by rw[hd];simp) hm),rfl⟩
 ·have hnk: ¬bL0 c kill b:=fun⟨k,e,hm⟩=>hn ⟨k,h.kz k e,hm⟩
  rintro⟨k,h1,h2⟩;simp only[lq]at h1;simp only[um]at h2;by_cases hk:k=c.S.length
  ·rw[if_pos hk]at h1 h2;obtain⟨d,_,_,h3⟩:=h.one;rcases h3 with⟨h3,_⟩|⟨b',y',cs,rest,h3,_,_,_,_,_,h4⟩
   ·rw[h3]at h2;cases h2
   ·rw[h3]at h2;injection h2 with h2
    subst h2;rcases h4 with h4|h4
    ·exact h4 y hy
    ·exact hnk h4
  ·rw[if_neg hk]at h1 h2;split at h1
   ·cases h1
   ·exact hn ⟨k,h1,h2⟩
theorem Moves.rel (hR:gb c)(h:Moves c kill b1 blk σ'):gb ⟨um c b1,rz c.S kill++[blk],σ',c.fb⟩:=by
 have hle:=h.le hR
 have hnew: ∀i b,i≠c.S.length→kill≠some i→(aD c.S i).dim≠none→c.μ i=some b→b1≠some b:=by
  intro i b hi hk hd hm e;obtain⟨d,_,_,h3⟩:=h.one;rcases h3 with⟨h3,_⟩|⟨b',y',cs,rest,h3,_,_,_,_,_,h4⟩
  ·rw[h3]at e;cases e
  ·rw[h3]at e;injection e with e
   subst e;rcases h4 with h4|h4
   ·cases hdd:(aD c.S i).dim with
    |none=>exact hd hdd
    |some dd=>
     obtain⟨y,_,_,hy,_⟩:=hR.block hdd hm;exact h4 y hy
   ·exact h.low hR hi hk hd hm h4
 have hfb: ∀b,c.fb b→b1≠some b:=by
  intro b hb e;obtain⟨d,_,_,h3⟩:=h.one;rcases h3 with⟨h3,_⟩|⟨b',y',cs,rest,h3,_,_,_,_,_,h4⟩
  ·rw[h3]at e;cases e
  ·rw[h3]at e;injection e with e
   subst e;rcases h4 with h4|⟨k,h4,h5⟩
   ·exact h.fr _ h3 h4 hb
   ·exact hR.fbk k _ (ot (h.kz k h4)) h5 hb
 refine⟨h.ok,fun k k' b hk hk' hm hm'=> ?_,fun k=> ?_,fun k b hk hm hb=> ?_,fun b hb=>Nat.lt_of_lt_of_le (hR.fbl b hb) h.n⟩
 rotate_left 2
 ·simp only[lq]at hk;simp only[um]at hm;by_cases h1:k=c.S.length
  ·rw[if_pos h1]at hm;exact hfb b hb hm
  ·rw[if_neg h1]at hm hk;split at hk
   ·exact hk rfl
   ·exact hR.fbk k b hk hm hb
 ·simp only[lq]at hk hk';simp only[um]at hm hm';by_cases h1:k=c.S.length<;>by_cases h2:k'=c.S.length
  ·omega
  ·rw[if_pos h1]at hm;rw[if_neg h2]at hm' hk';split at hk'
   ·exact(hk' rfl).elim
   ·rename_i hne;exact(hnew k' b h2 hne hk' hm' hm).elim
  ·rw[if_neg h1]at hm hk;rw[if_pos h2]at hm';split at hk
   ·cases hk
   ·rename_i hne;exact(hnew k b h1 hne (ot hk) hm hm').elim
  ·rw[if_neg h1]at hm hk;rw[if_neg h2]at hm' hk';split at hk
   ·cases hk
   ·split at hk'
    ·exact(hk' rfl).elim
    ·exact hR.inj k k' b hk hk' hm hm'
 ·by_cases hk:k=c.S.length
  ·subst hk;intro d hd;simp only[lq,if_true]at hd⊢;obtain⟨d',h1,h2,h3⟩:=h.one;rw[hd]at h1;injection h1 with h1
   subst h1;refine⟨h2, ?_⟩;simp only[um,if_true];rcases h3 with⟨h3,h4⟩|⟨b',y',cs,rest,h3,h4,h5,h6,h7,h8,_⟩
   ·exact .inl ⟨h4,h3⟩
   ·exact .inr ⟨b',y',cs,rest,h3,h4,h5,h6,h7,VRel.frames hle h8⟩
  ·by_cases hne:kill=some k
   ·intro d hd;simp only[lq,if_neg hk,if_pos hne]at hd;cases hd
   ·refine(hR.blk k).frame hle ?_ (fun _=>if_neg hk) fun b y hd hm hy=> ?_
    ·simp only[lq,if_neg hk,if_neg hne]
    ·exact h.old b y hy (h.low hR hk hne hd hm)
theorem Moves.calm (hR:gb c)(h:Moves c kill b1 blk σ'){d:List Nat}(hd: ∀k,kill=some k→k∈d):uM d c ⟨um c b1,rz c.S kill++[blk],σ',c.fb⟩:=by
 intro k hk hn hdim;have h1:k≠c.S.length:=by omega
 have h2:kill≠some k:=fun e=>hn (hd k e)
 simp only[lq,if_neg h1,if_neg h2];refine⟨hdim,fun b hm=> ?_⟩;cases hdd:(aD c.S k).dim with
 |none=>exact(hdim hdd).elim
 |some dd=>
  obtain⟨y,_,_,hy,_⟩:=hR.block hdd hm;rw[hy];exact h.old b y hy (h.low hR h1 h2 hdim hm)
end
theorem bv0 {c:Ctx}(hR:gb c){blk:Blk}{x:Ab.Blk}{d:Nat×Nat}(hd:blk.dim=some d)(h1:1≤d.1)(he:x.es=d.1)(ho:x.own=true)(hf:F2 (VRel c) blk.vals x.cells):
  Moves c none (some c.σ.n) blk (c.σ.add x):=by
 refine⟨(fun b h _ hb=>by injection h with h;subst h;exact Nat.lt_irrefl _ (hR.fbl _ hb)),(fun _ h=>by cases h),fun b y hy=> ?_,Nat.le_succ _,fun i y hy _=> ?_,d,hd,h1, .inr ⟨c.σ.n,x,x.cells,[],rfl,if_pos rfl,he,fun _=>ho,by simp,hf, .inl fun z hz=> ?_⟩⟩
 ·simp only[Hp.add]at hy⊢;split at hy
  ·omega
  ·have:=hR.ok b y hy;omega
 ·have:=hR.ok i y hy;simp only[Hp.add];rw[if_neg (by omega)];exact hy
 ·have:=hR.ok _ _ hz;omega
structure Writes (c:Ctx)(k b:Nat)(blk:Blk)(y':Ab.Blk):Prop where
 kz:(aD c.S k).frozen=false
 mu:c.μ k=some b
 dim:blk.dim=(aD c.S k).dim
 fz:blk.frozen=false
 one: ∃y cs rest d,c.σ.m b=some y∧(aD c.S k).dim=some d∧y'.es=d.1∧y'.own=true∧y'.cells.length=y.cells.length∧y'.cells=cs++rest∧F2 (VRel c) blk.vals cs
section
variable {c:Ctx} {k b:Nat} {blk:Blk} {y':Ab.Blk}
theorem Writes.get (h:Writes c k b blk y')(i:Nat):aD (mh c.S k blk) i=if i=k then blk else aD c.S i:=by
 rw[wM];have:=pc (ot h.kz);by_cases hi:i=k
 ·rw[if_pos ⟨hi,this⟩,if_pos hi]
 ·rw[if_neg (fun e=>hi e.1),if_neg hi]
theorem Writes.low (hR:gb c)(h:Writes c k b blk y'){i b':Nat}(hi:i≠k)(hd:(aD c.S i).dim≠none)(hm:c.μ i=some b'):b'≠b:=by
 rintro rfl;exact hi (hR.inj k i b' h.kz hd h.mu hm).symm
theorem Writes.le (hR:gb c)(h:Writes c k b blk y'):Le c ⟨c.μ,mh c.S k blk,c.σ.set b (some y'),c.fb⟩:=by
 refine⟨by simp[ap4],fun i d _ hd=> ?_,fun i hz hd=> ?_,fun i d x y _ hd hm hy=> ?_,fun x y hy hn=> ?_,fun x y hy hn=> ?_,Nat.le_refl _,rfl⟩
 ·simp only[h.get]at hd;split at hd
  ·rename_i e;subst e;exact⟨h.dim▸hd,rfl⟩
  ·exact⟨hd,rfl⟩
 ·simp only[h.get];rw[if_neg];rintro rfl;rw[h.kz]at hz;cases hz
 ·by_cases e:x=b
  ·subst e;obtain⟨y0,_,_,_,h1,_,_,_,h2,_⟩:=h.one;rw[hy]at h1;injection h1 with h1
   subst h1;exact⟨y',by simp[Hp.set],h2⟩
  ·exact⟨y,by simp[Hp.set,e,hy],rfl⟩
 ·have hne:x≠b:=by rintro rfl;exact hn ⟨k,h.kz,h.mu⟩
  simp[Hp.set,hne,hy]
 ·rintro⟨i,h1,h2⟩;simp only[h.get]at h1;split at h1
  ·rename_i e;subst e;exact hn ⟨i,h.kz,h2⟩
  ·exact hn ⟨i,h1,h2⟩
theorem Writes.rel (hR:gb c)(h:Writes c k b blk y'):gb ⟨c.μ,mh c.S k blk,c.σ.set b (some y'),c.fb⟩:=by
 have hle:=h.le hR
 have hfz: ∀i,(aD (mh c.S k blk) i).frozen=false→(aD c.S i).frozen=false:=by
  intro i hi;rw[h.get]at hi;split at hi
  ·rename_i e;subst e;exact h.kz
  ·exact hi
 have hdm: ∀i,(aD (mh c.S k blk) i).dim=(aD c.S i).dim:=by
  intro i;rw[h.get];split
  ·rename_i e;subst e;exact h.dim
  ·rfl
 refine⟨fun x z hz=> ?_,fun i j x hi hj hm hm'=>hR.inj i j x (hfz i hi) (by rw[←hdm];exact hj) hm hm',fun i=> ?_,fun i x hi hm=>hR.fbk i x (by rw[←hdm];exact hi) hm,hR.fbl⟩
 ·simp only[Hp.set]at hz;split at hz
  ·rename_i e;subst e;obtain⟨y,_,_,_,h1,_⟩:=h.one;exact hR.ok _ _ h1
  ·exact hR.ok _ _ hz
 ·by_cases e:i=k
  ·subst e;intro d hd;obtain⟨y,cs,rest,d',h1,h2,h3,h4,h5,h6,h7⟩:=h.one;have hd':(aD c.S i).dim=some d:=by rw[←hdm];exact hd
   rw[hd']at h2;injection h2 with h2
   subst h2;refine⟨(hR.blk i d hd').1, .inr ⟨b,y',cs,rest,h.mu,by simp[Hp.set],h3,fun _=>h4,h6, ?_⟩⟩;simp only[h.get,if_true];exact VRel.frames hle h7
  ·refine(hR.blk i).frame hle (by simp only[h.get,if_neg e]) (fun _=>rfl) fun x z hd hm hz=> ?_
   have:=h.low hR e hd hm;simp[Hp.set,this,hz]
theorem Writes.calm (hR:gb c)(h:Writes c k b blk y'){d:List Nat}(hd:k∈d):uM d c ⟨c.μ,mh c.S k blk,c.σ.set b (some y'),c.fb⟩:=by
 intro i _ hn hdim;have hne:i≠k:=by rintro rfl;exact hn hd
 simp only[h.get,if_neg hne];refine⟨hdim,fun x hm=> ?_⟩;have:=h.low hR hne hdim hm;simp[Hp.set,this]
end
section
variable {β:Type} {T:ig} {c:Ctx} {e:fa} {ea:dy} {k:VV→cf→Option β} {y:β} {d:List Nat}
theorem VRel.bool_inv {b:Bool}{a:Value}(h:VRel c (.bool b) a):a= .bool b:=by cases h;rfl
theorem VRel.int_inv {kd:IntKind}{n:Int}{a:Value}(h:VRel c (.int kd n) a):a= .int kd n:=by cases h;rfl
theorem VRel.str_inv {l:List Int}{a:Value}(h:VRel c (.str l) a): ∃s,a= .string s∧ei s=l:=by cases h;exact⟨_,rfl,by assumption⟩
theorem VRel.agg_inv {l:List VV}{a:Value}(h:VRel c (.agg l) a): ∃as:Array Value,a= .agg as∧F2 (VRel c) l as.toList:=by cases h;exact⟨_,rfl,by assumption⟩
theorem VRel.tup_inv {l:List VV}{a:Value}(h:VRel c (.tup l) a): ∃as:Array Value,a= .tuple as∧F2 (VRel c) l as.toList:=by cases h;exact⟨_,rfl,by assumption⟩
theorem bB8 {p:Bool}{x z v:VV}{xa za:Value}(h:cf1 p x z=some v)(hx:VRel c x xa)(hz:VRel c z za):VRel c v (cond p xa za):=by
 unfold cf1 at h;split at h
 ·rename_i k1 n1 k2 n2;cases hk:decide (k1=k2)with
  |false=>rw[hk]at h;cases h
  |true=>
   rw[hk]at h;injection h with h
   subst h;have:=of_decide_eq_true hk;subst this;rw[hx.int_inv,hz.int_inv];cases p<;>exact .int _ _
 ·injection h with h
  subst h;rw[hx.bool_inv,hz.bool_inv];cases p<;>exact .bool _
 ·injection h with h
  subst h;cases p<;>assumption
 ·cases h
theorem cl1 (hR:gb c)(he:cm c e ea){x:Operand}(h:k (ev e x) c.S=some y):db T (.move x) ea c.σ (iO c d k y):=
 dh rfl (iO.same hR (de he x) h)
theorem cn3 (hR:gb c)(he:cm c e ea){t a b:Operand}{p:Bool}(hp:ev e t= .bool p)(h:cd5 p (ev e a) (ev e b) c.S k=some y):db T (.pick t a b) ea c.σ (iO c d k y):=by
 have ht:=de he t;rw[hp]at ht;have ht:=ht.bool_inv
 have key: ∀v,VRel c v (cond p (ea.ev a) (ea.ev b))→k v c.S=some y→db T (.pick t a b) ea c.σ (iO c d k y):=by
  intro v hv hk;refine dh (v:=cond p (ea.ev a) (ea.ev b)) (σ':=c.σ) ?_ (iO.same hR hv hk);simp only[AOp.run,ht];cases p<;>rfl
 unfold cd5 at h;split at h
 ·rename_i v hs;exact key v (bB8 hs (de he a) (de he b)) h
 ·cases p with
  |true=>exact key _ (de he a) h
  |false=>exact key _ (de he b) h
theorem iO.new {v:Value}{vv:VV}{b1:Option Nat}{blk:Blk}{σ':Hp}{kill:Option Nat}(hR:gb c)(h:Moves c kill b1 blk σ')(hd: ∀q,kill=some q→q∈d)(hv:VRel ⟨um c b1,rz c.S kill++[blk],σ',c.fb⟩ vv v)(hk:k vv (rz c.S kill++[blk])=some y):iO c d k y v σ':=
 ⟨vv,_,rfl,h.le hR,h.rel hR,h.calm hR hd,hv,hk⟩
theorem bO0 {blk:Blk}{x:Ab.Blk}{dm:Nat×Nat}(_:blk.dim=some dm):VRel ⟨um c (some c.σ.n),rz c.S none++[blk],c.σ.add x,c.fb⟩ (.ptr c.S.length 0) (.pointer (some ⟨c.σ.n,0,none⟩)):=by
 refine .ptr (by simp[rz]) rfl fun d' _=>⟨c.σ.n, ?_,rfl⟩
 simp[um]
theorem cg7 : ∀{z:List Value},z.all cu4=true→z=List.replicate z.length (.int .u8 0)
 |[],_=>rfl
 |v::z,h=>by
  rw[List.all_cons,Bool.and_eq_true]at h
  have h1:v= .int .u8 0:=by
   have h0:=h.1;unfold cu4 at h0;split at h0
   ·rw[of_decide_eq_true h0]
   ·cases h0
  rw[List.length_cons,List.replicate_succ,←cg7 h.2,h1]
theorem wv (es:Nat)(z:List Value):(am3 es z).dim=some (es,z.length)∧(am3 es z).frozen=false∧∀c:Ctx,F2 (VRel c) (am3 es z).vals z:=by
 unfold am3;cases hb:bF5 es z with
 |false=>
  rw[cond_false];exact⟨by simp[Blk.dim],rfl,fun c=>as2 c z⟩
 |true=>
  rw[cond_true];unfold bF5 at hb;rw[Bool.and_eq_true,Bool.and_eq_true]at hb;have he:=Nat.eq_of_beq_eq_true hb.1.1;subst he;refine⟨by simp[Blk.dim,Sh.w],rfl,fun c=> ?_⟩;have hz:=cg7 hb.2
  have key: ∀n,F2 (VRel c) (gr (.int .u8) (List.replicate n (0:Int))) (List.replicate n (.int .u8 0)):=by
   intro n;induction n with
   |zero=>exact .nil
   |succ n ih=>exact .cons (.int _ _) ih
  have h1:=key z.length;rw[←hz]at h1;exact h1
theorem bX4 (hR:gb c){es:Nat}{z:List Value}(h:gd (Nat.ble 1 es) (k (.ptr c.S.length 0) (c.S++[am3 es z]))=some y):db T (.alloc es z) ea c.σ (iO c d k y):=by
 obtain⟨h1,h2⟩:=cn h;obtain⟨h3,h4,h5⟩:=wv es z;exact dh rfl (iO.new (kill:=none) hR (bv0 hR (blk:=am3 es z) (x:=⟨z,true,es⟩) (d:=(es,z.length)) h3 (Nat.le_of_ble_eq_true h1) rfl rfl (h5 c)) (fun _ h=>by cases h) (bO0 (dm:=(es,z.length)) h3) h2)
theorem cs9 (hR:gb c)(he:cm c e ea){es:Nat}{x:Operand}(h:gd (Nat.ble 1 es&&qR (pt (ev e x))) (k (.ptr c.S.length 0) (c.S++[.cells es false (pt (ev e x))]))=some y):db T (.box es x) ea c.σ (iO c d k y):=by
 obtain⟨h1,h2⟩:=cn h;rw[Bool.and_eq_true]at h1;have hf:=aH0 (de he x) h1.2;refine dh (by simp only[AOp.run];rw[if_pos (lD hf h1.2)]) (iO.new (kill:=none) hR (bv0 hR (blk:= .cells es false (pt (ev e x))) (x:=⟨cellsOf (ea.ev x),true,es⟩) (d:=(es,(pt (ev e x)).length)) rfl (Nat.le_of_ble_eq_true h1.1) rfl rfl hf) (fun _ h=>by cases h) (bO0 (dm:=(es,_)) rfl) h2)
theorem wz (he:cm c e ea): ∀(ps:List (Nat×Nat×Operand)) {cs r:List VV} {as:List Value},aL7 cs (yK e ps)=some r→F2 (VRel c) cs as→∃ra,an2 as (ps.map fun(o,s,x)=>(o,s,ea.ev x))=some ra∧F2 (VRel c) r ra
 |[],cs,r,as,h,hf=>by
  injection h with h
  subst h;exact⟨as,rfl,hf⟩
 |(o,s,x)::ps,cs,r,as,h,hf=>by
  simp only[yK,List.map_cons,aL7]at h;cases hb:(Nat.beq (pt (ev e x)).length s&&Nat.ble (o+s) cs.length&&(pt (ev e x)).all cn1)with
  |false=>rw[hb]at h;cases h
  |true=>
   rw[hb,cond_true]at h;rw[Bool.and_eq_true,Bool.and_eq_true]at hb;have h1:=Nat.eq_of_beq_eq_true hb.1.1;have h2:=Nat.le_of_ble_eq_true hb.1.2;have hx:=aH0 (de he x) hb.2;have h3:(cellsOf (ea.ev x)).length=s:=by rw[←hx.length];exact h1
   have h4:as.length=cs.length:=hf.length.symm;obtain⟨ra,h5,h6⟩:=wz he ps h (((hf.take o).append hx).append (hf.drop (o+s)));refine⟨ra, ?_,h6⟩;simp only[List.map_cons,an2];rw[if_pos ⟨h3,by omega⟩];exact h5
theorem bY3 (hR:gb c)(he:cm c e ea){z:List Value}{ps:List (Nat×Nat×Operand)}{cs:List VV}(hf:aL7 (z.map aO4) (yK e ps)=some cs)(h:k (.agg cs) c.S=some y):db T (.build z ps) ea c.σ (iO c d k y):=by
 obtain⟨ra,h1,h2⟩:=wz he ps hf (as2 c z);exact dh (by simp only[AOp.run,h1];rfl) (iO.same hR (.agg (by simpa using h2)) h)
theorem vo {blk:Blk}{dm:Nat×Nat}{n m:Nat}{b:Nat}{yb:Ab.Blk}{σ':Hp}{kill:Option Nat}(hd:blk.dim=some dm)(hn:n*dm.1=dm.2)(hm:n≤m)(hy:σ'.m b=some yb)(hl:m*dm.1≤yb.cells.length):
  VRel ⟨um c (some b),rz c.S kill++[blk],σ',c.fb⟩ (.full c.S.length) (.slice (some ⟨b,0,none⟩) n m):=by
 refine .full (by simp[wI]) rfl fun d' hd'=> ?_
 simp only[lq,if_true]at hd';rw[hd]at hd';injection hd' with hd'
 subst hd';exact⟨n,hn, .inr ⟨b,m,yb,by simp,by simp[um],by rw[Nat.zero_add,hn];exact Nat.le_refl _,hm,hy,by rw[Nat.zero_add];exact hl⟩⟩
theorem aJ5 : ∀(n:Nat) (z:List Value),F2 (VRel c) ((List.replicate n (z.map aO4)).flatten) (fD z n)
 |0,_=> .nil
 |n+1,z=>by
  simp only[fD,List.replicate_succ,List.flatten_cons];exact(as2 c z).append (aJ5 n z)
theorem bd6 (hR:gb c)(he:cm c e ea){es ln:Nat}{z:List Value}{ps:List (Nat×Nat×Operand)}{cs:List VV}(hf:aL7 ((List.replicate ln (z.map aO4)).flatten) (yK e ps)=some cs)
  (h:gd (qR cs&&Nat.beq (ln*es) cs.length&&Nat.ble 1 es) (k (.full c.S.length) (c.S++[.cells es false cs]))=some y):db T (.buildSlice es ln z ps) ea c.σ (iO c d k y):=by
 obtain⟨h1,h2⟩:=cn h;rw[Bool.and_eq_true,Bool.and_eq_true]at h1;obtain⟨ra,h3,h4⟩:=wz he ps hf (aJ5 ln z);have h5:=Nat.eq_of_beq_eq_true h1.1.2;refine dh (by simp only[AOp.run,h3];rw[if_pos (lD h4 h1.1.1)]) (iO.new (kill:=none) hR (bv0 hR (blk:= .cells es false cs) (x:=⟨ra,true,es⟩) (d:=(es,cs.length)) rfl (Nat.le_of_ble_eq_true h1.2) rfl rfl h4) (fun _ h=>by cases h) ?_ h2);exact vo (dm:=(es,cs.length)) (yb:=⟨ra,true,es⟩) rfl h5 (Nat.le_refl _) (if_pos rfl) (by rw[←h4.length];exact Nat.le_of_eq h5)
theorem ck6 (hR:gb c)(he:cm c e ea){x:Operand}(h:bi6 c.S 1 false (ev e x) k=some y):db T (.load x) ea c.σ (iO c d k y):=by
 obtain⟨b,o,blk,h1,h2,h3,_⟩:=bA4 hR h (de he x);obtain⟨u,w,h4,h5,h6⟩:=h3 rfl;exact dh (by simp only[AOp.run,h1,h2,h4];rfl) (iO.same hR h5 h6)
theorem cb0 (hR:gb c)(he:cm c e ea){n:Nat}{x:Operand}(h:bi6 c.S n true (ev e x) k=some y):db T (.loadN n x) ea c.σ (iO c d k y):=by
 obtain⟨b,o,blk,h1,h2,_,h3⟩:=bA4 hR h (de he x);obtain⟨us,ws,h4,h5,h6⟩:=h3 rfl;exact dh (by simp only[AOp.run,h1,h2,h4];rfl) (iO.same hR (.agg (by simpa using h5)) h6)
theorem zl : ∀(vs cells:List Value) (o:Nat),(mg cells o vs).length=cells.length
 |[],_,_=>rfl
 |v::vs,cells,o=>by simp only[mg];rw[zl vs];simp
theorem F2.set {l:List VV}{m:List Value}(h:F2 (VRel c) l m){v:VV}{a:Value}(hv:VRel c v a): ∀i,F2 (VRel c) (l.set i v) (m.set i a):=by
 induction h with
 |nil=>intro i;simp;exact .nil
 |cons h1 h2 ih=>
  intro i;cases i with
  |zero=>exact .cons hv h2
  |succ i=>exact .cons h1 (ih i)
theorem aZ7 : ∀{vs:List VV} {as:List Value},F2 (VRel c) vs as→∀{l:List VV} {m:List Value} (o:Nat),F2 (VRel c) l m→F2 (VRel c) (co8 l o vs) (mg m o as)
 |_,_, .nil,_,_,_,h=>h
 |_,_, .cons h1 h2,_,_,o,h=>aZ7 h2 (o+1) (F2.set h h1 o)
theorem ao7 : ∀(vs:List Value) (cs rest:List Value) (o:Nat),o+vs.length≤cs.length→mg (cs++rest) o vs=mg cs o vs++rest
 |[],_,_,_,_=>rfl
 |v::vs,cs,rest,o,h=>by
  simp only[List.length_cons]at h;simp only[mg];rw[List.set_append_left _ _ (by omega),ao7 vs _ _ _ (by simp;omega)]
theorem xu : ∀(vs:List Value) (pre cs:List Value) (o:Nat),mg (pre++cs) (pre.length+o) vs=pre++mg cs o vs
 |[],_,_,_=>rfl
 |v::vs,pre,cs,o=>by
  simp only[mg];rw[List.set_append_right _ _ (by omega),Nat.add_sub_cancel_left,Nat.add_assoc,xu vs]
theorem at3 {blk:Ab.Blk}{o:Nat}{vs:List Value}(h1:blk.own=true)(h2:o+vs.length≤blk.cells.length)(h3:vs.all one=true):vQ blk o vs=some ⟨mg blk.cells o vs,true,blk.es⟩:=by
 unfold vQ;rw[if_pos ⟨h1,h2,h3⟩,h1]
theorem aG2 (hR:gb c){q es o b:Nat}{l l' vs:List VV}{as:List Value}(hb:aD c.S q= .cells es false l)(hm:c.μ q=some b)(hf:F2 (VRel c) vs as)(h1:qR vs=true)(ho:o+vs.length≤l.length)
  (hl': ∀cs,F2 (VRel c) l cs→F2 (VRel c) l' (mg cs o as)): ∃blk,c.σ.m b=some blk∧∃blk',vQ blk o as=some blk'∧Writes c q b (.cells es false l') blk':=by
 obtain⟨y0,cs,rest,h2,h3,h4,h5,h6⟩:=hR.block (k:=q) (d:=(es,l.length)) (by rw[hb];rfl) hm;rw[hb]at h4 h6;have hl:=F2.length h6;simp only[Blk.vals]at hl;have ha:=F2.length hf;refine⟨y0,h2,_,at3 (h4 rfl) (by rw[h5,List.length_append];omega) (lD hf h1),⟨by rw[hb];rfl,hm, ?_,rfl,y0,mg cs o as,rest,(es,l.length),h2,by rw[hb];rfl,h3,rfl,zl _ _ _, ?_,hl' cs h6⟩⟩
 ·have:=F2.length (hl' cs h6);rw[zl]at this;simp only[hb,Blk.dim];rw[this,←hl]
 ·show mg y0.cells o as=_;rw[h5,ao7 _ _ _ _ (by omega)]
theorem aZ6 {v:VV}{va:Value}(hv:VRel c v va): ∀{cs:List VV} {as:List Value} {i j:Nat} {r:List VV},aZ5 v cs i j=some r→F2 (VRel c) cs as→F2 (VRel c) r (if j≤i then as.set (i-j) va else as)
 |[],_,i,j,r,h,hf=>by
  cases hf;injection h with h
  subst h;simp;exact .nil
 |w::cs,_,i,j,r,h,hf=>by
  cases hf with
  |cons h1 h2=>
   rename_i a as;simp only[aZ5]at h;cases hs:cf1 (Nat.beq i j) v w with
   |none=>rw[hs]at h;cases h
   |some x=>
    rw[hs]at h;simp only[Option.bind_some]at h;cases hr:aZ5 v cs i (j+1)with
    |none=>rw[hr]at h;cases h
    |some r'=>
     rw[hr]at h;injection h with h
     subst h;have h3:=aZ6 hv hr h2;have h4:=bB8 hs hv h1;by_cases hij:i=j
     ·subst hij;rw[if_neg (by omega)]at h3;rw[if_pos (Nat.le_refl _),Nat.sub_self];have:Nat.beq i i=true:=Nat.beq_refl i;rw[this]at h4;exact .cons h4 h3
     ·have hb:Nat.beq i j=false:=by
       cases hh:Nat.beq i j with
       |false=>rfl
       |true=>exact(hij (Nat.eq_of_beq_eq_true hh)).elim
      rw[hb]at h4;by_cases hlt:j+1≤i
      ·rw[if_pos hlt]at h3;rw[if_pos (by omega),show i-j=(i-(j+1))+1 by omega];exact .cons h4 h3
      ·rw[if_neg hlt]at h3;rw[if_neg (by omega)];exact .cons h4 h3
theorem bg4 {s:Sh}{x:El s}: ∀{l:List (El s)} {i:Nat},i<l.length→gr s (l.set i x)=(gr s l).take (i*s.w)++(fe s x++(gr s l).drop (i*s.w+s.w))
 |[],_,h=>by simp at h
 |a::l,0,_=>by
  rw[List.set_cons_zero,iy,iy,Nat.zero_mul,List.take_zero,List.nil_append,Nat.zero_add,List.drop_append,fp,Nat.sub_self,List.drop_zero,List.drop_of_length_le (by rw[fp];exact Nat.le_refl _),List.nil_append]
 |a::l,i+1,h=>by
  have h1:(i+1)*s.w=s.w+i*s.w:=by rw[Nat.succ_mul];omega
  rw[List.set_cons_succ,iy,iy,bg4 (by simpa using h),h1,List.take_append,List.drop_append,fp,List.take_of_length_le (l:=fe s a) (by rw[fp];omega),List.drop_of_length_le (l:=fe s a) (by rw[fp];omega),List.nil_append,List.append_assoc];rw[show s.w+i*s.w-s.w=i*s.w by omega,show s.w+i*s.w+s.w-s.w=i*s.w+s.w by omega]
theorem aH6 (v:VV){q:Nat}(h:vh v=some q):q∈bU5 (vh v):=by rw[h];exact List.mem_singleton.2 rfl
theorem aZ8 {vs cs:List Value}{p o w:Nat}(h1:o+vs.length≤w)(h2:p+w≤cs.length):mg cs (p+o) vs=cs.take p++(mg ((cs.drop p).take w) o vs++cs.drop (p+w)):=by
 have e1:cs=cs.take p++((cs.drop p).take w++cs.drop (p+w)):=by
  rw[←List.drop_drop,List.take_append_drop,List.take_append_drop]
 have hp:(cs.take p).length=p:=by rw[List.length_take];omega
 have hw:((cs.drop p).take w).length=w:=by rw[List.length_take,List.length_drop];omega
 conv=>lhs;rw[e1]
 have:=xu vs (cs.take p) ((cs.drop p).take w++cs.drop (p+w)) o;rw[hp]at this;rw[this,ao7 _ _ _ _ (by rw[hw];exact h1)]
theorem cf6 (hR:gb c)(he:cm c e ea){n:Nat}{a x:Operand}(hd: ∀q,vh (ev e a)=some q→q∈d)
  (h:gd (Nat.beq (pt (ev e x)).length n&&qR (pt (ev e x))) (bJ9 c.S (ev e a) (pt (ev e x)) fun S'=>k .undef S')=some y):db T (.store n a x) ea c.σ (iO c d k y):=by
 obtain⟨h1,h2⟩:=cn h;rw[Bool.and_eq_true]at h1;have hn:=Nat.eq_of_beq_eq_true h1.1;have hx:=aH0 (de he x) h1.2;have hlen:(cellsOf (ea.ev x)).length=n:=by rw[←hx.length];exact hn
 have ha:=de he a
 have key: ∀(c1:Ctx) (q b o:Nat) (blk0:Ab.Blk) (blk:Blk) (blk':Ab.Blk),c1.σ=c.σ→Le c c1→uM d c c1→gb c1→q∈d→ea.ev a= .pointer (some ⟨b,o,none⟩)→c.σ.m b=some blk0→vQ blk0 o (cellsOf (ea.ev x))=some blk'→Writes c1 q b blk blk'→
   k .undef (mh c1.S q blk)=some y→db T (.store n a x) ea c.σ (iO c d k y):=by
  intro c1 q b o blk0 blk blk' hσ hle hcalm hR1 hq h3 h4 h5 h6 h7;refine dh (v:=undef) (σ':=c.σ.set b (some blk')) ?_ ?_
  ·simp only[AOp.run,h3,hlen,if_true,h4,h5]
  ·rw[←hσ];exact⟨.undef,_,rfl,hle.trans (h6.le hR1),h6.rel hR1,hcalm.trans (h6.calm hR1 hq) hle, .undef _,h7⟩
 generalize cellsOf (ea.ev x)=as at*;generalize ev e a=av at*;generalize pt (ev e x)=vs at*;unfold bJ9 at h2;cases av with
 |ptr q o=>
  simp only at h2;cases hb:aD c.S q with
  |dead=>rw[hb]at h2;cases h2
  |arr s z l=>rw[hb]at h2;cases h2
  |cells es z l=>
   rw[hb]at h2;cases z with
   |true=>cases h2
   |false=>
    obtain⟨h3,h4⟩:=cn h2;cases ha with
    |ptr hk _ hd'=>
     obtain⟨b,hm,hav⟩:=hd' (es,l.length) (by rw[hb];rfl);obtain⟨blk0,h5,blk',h6,h7⟩:=aG2 hR hb hm hx h1.2 (Nat.le_of_ble_eq_true h3) fun cs hcs=>aZ7 hx o hcs
     exact key c q b o blk0 _ blk' rfl (Le.refl c) (uM.refl d c) hR (hd q rfl) hav h5 h6 h7 h4
 |pix q o m i=>
  simp only at h2;split at h2
  ·rename_i es l v hb;obtain⟨h3,h4⟩:=cn h2;have h3:=Nat.le_of_ble_eq_true h3;split at h4
   ·rename_i l' hs;cases hx with
    |cons hv hnil=>
     rename_i va as';cases hnil;cases ha with
     |pix hk _ hi hd'=>
      obtain⟨b,hm,hav⟩:=hd' (es,l.length) (by rw[hb];rfl)
      obtain⟨blk0,h5,blk',h6,h7⟩:=aG2 (l':=l.take o++l'++l.drop (o+m)) (o:=o+i) hR hb hm (.cons hv .nil) h1.2 (by simp;omega) fun cs hcs=>by
       have hl:=hcs.length;rw[aZ8 (w:=m) (by simp;omega) (by omega),List.append_assoc];have h8:=aZ6 hv hs ((hcs.drop o).take m);rw[if_pos (Nat.zero_le _),Nat.sub_zero]at h8;exact(hcs.take o).append (h8.append (hcs.drop _))
      exact key c q b (o+i) blk0 _ blk' rfl (Le.refl c) (uM.refl d c) hR (hd q rfl) hav h5 h6 h7 h4
   ·cases h4
  ·cases h2
 |pel q i o=>
  simp only at h2;cases hb:aD (fzL c.S vs) q with
  |dead=>rw[hb]at h2;cases h2
  |cells es z l=>rw[hb]at h2;cases h2
  |arr s z l=>
   rw[hb]at h2;cases z with
   |true=>cases h2
   |false=>
    simp only at h2;cases hx':l[i]? with
    |none=>rw[hx']at h2;cases h2
    |some x'=>
     rw[hx']at h2;simp only[Option.bind_some]at h2;split at h2
     ·rename_i z hof;obtain⟨h3,h4⟩:=cn h2;have h3:=Nat.le_of_ble_eq_true h3;have hfz:=ar7 c.S vs;have hR1:gb ⟨c.μ,fzL c.S vs,c.σ,c.fb⟩:=hfz.rel hR
      have hi:i<l.length:=by
       rcases Nat.lt_or_ge i l.length with h|h
       ·exact h
       ·rw[List.getElem?_eq_none h]at hx';cases hx'
      have hx1:F2 (VRel ⟨c.μ,fzL c.S vs,c.σ,c.fb⟩) vs as:=VRel.frames hfz.le hx;cases ha with
      |pel hk _ hd'=>
       have hdim:(aD (fzL c.S vs) q).dim=some (s.w,l.length*s.w):=by rw[hb];rfl
       obtain⟨b,hm,hav⟩:=hd' (s.w,l.length*s.w) (by rw[←hfz.dim];exact hdim);obtain⟨y0,cs,rest,h5,h6,h7,h8,h9⟩:=hR1.block (k:=q) hdim hm;rw[hb]at h7 h9;have hl:=h9.length;simp only[Blk.vals,iF]at hl;have hle:i*s.w+s.w≤l.length*s.w:=by rw[←Nat.succ_mul];exact Nat.mul_le_mul_right _ hi
       have hlen':vs.length=as.length:=hx.length;refine key ⟨c.μ,fzL c.S vs,c.σ,c.fb⟩ q b (i*s.w+o) y0 (.arr s false (l.set i z)) _ rfl hfz.le (hfz.calm d) hR1 (hd q rfl) hav h5 (at3 (h7 rfl) (by rw[h8,List.length_append];omega) (lD hx h1.2)) ⟨by rw[hb];rfl,hm,by rw[hdim];simp[Blk.dim],rfl,y0,mg cs (i*s.w+o) as,rest,_,h5,hdim,h6,rfl,zl _ _ _,by rw[h8,ao7 _ _ _ _ (by omega)], ?_⟩ h4;obtain⟨pre,h10,h11,h12⟩:=lm hR1 s _ _ _ hof;rw[List.append_nil]at h10;subst h10;simp only[Blk.vals];rw[bg4 hi,aZ8 (w:=s.w) (by omega) (by omega)];refine(h9.take _).append (F2.append (h12 _ (aZ7 hx1 o ?_)) (h9.drop _));have h13:=(h9.drop (i*s.w)).take s.w;simp only[Blk.vals]at h13
       rwa [aH9 hx']at h13
     ·cases h2
 |_=>cases h2
end
section
variable {β:Type} {T:ig} {c:Ctx} {e:fa} {ea:dy} {k:VV→cf→Option β} {y:β} {d:List Nat}
theorem sW (s:ByteArray):(ei s).length=s.size:=by simp[ei]
theorem aV0 (s t:ByteArray):ei (s++t)=ei s++ei t:=by
 simp[ei,ByteArray.data_append]
theorem aq1 : ∀{l m:List UInt8},(l.map fun b=>(b.toNat:Int))=m.map (fun b=>(b.toNat:Int))→l=m
 |[],[],_=>rfl
 |[],_::_,h=>by simp at h
 |_::_,[],h=>by simp at h
 |a::l,b::m,h=>by
  simp only[List.map_cons,List.cons.injEq]at h;rw[aq1 h.2,UInt8.toNat_inj.1 (Int.ofNat.inj h.1)]
theorem aM5 (s:ByteArray):s.toList=s.data.toList:=by
 rw[ByteArray.toList_eq]
theorem aG9 (s t:ByteArray):(s.toList==t.toList)=decide (ei s=ei t):=by
 rw[aM5,aM5];by_cases h:s.data.toList=t.data.toList
 ·simp[ei,h]
 ·have:ei s≠ei t:=fun e=>h (aq1 e)
  have h': ¬s.data=t.data:=fun e=>h (by rw[e])
  simp[this,h']
theorem bQ5 {op:BinOp}{kd:IntKind}{a b:Int}{kk:VV→Option β}(h:bF0 op kd a b kk=some y): ∃v va,bM5 op kd a b=some va∧VRel c v va∧kk v=some y:=by
 cases op<;>simp only[bF0]at h<;>try(cases h;done)
 case add=>exact⟨_,_,rfl, .int _ _,h⟩
 case sub=>exact⟨_,_,rfl, .int _ _,h⟩
 case mul=>exact⟨_,_,rfl, .int _ _,h⟩
 case quo=>
  obtain⟨h1,h2⟩:=cn h;exact⟨_,_,if_neg (of_decide_eq_true h1), .int _ _,h2⟩
 case rem=>
  obtain⟨h1,h2⟩:=cn h;exact⟨_,_,if_neg (of_decide_eq_true h1), .int _ _,h2⟩
 case and=>exact⟨_,_,rfl, .int _ _,h⟩
 case or=>exact⟨_,_,rfl, .int _ _,h⟩
 case xor=>exact⟨_,_,rfl, .int _ _,h⟩
 case andNot=>exact⟨_,_,rfl, .int _ _,h⟩
 case eql=>
  refine⟨_,_,rfl, ?_,h⟩;have:(a==b)=decide (a=b):=by by_cases h:a=b<;>simp[h]
  rw[this];exact .bool _
 case neq=>
  refine⟨_,_,rfl, ?_,h⟩;have:(a !=b)=decide (a≠b):=by by_cases h:a=b<;>simp[h]
  rw[this];exact .bool _
 case lss=>exact⟨_,_,rfl, .bool _,h⟩
 case leq=>exact⟨_,_,rfl, .bool _,h⟩
 case gtr=>exact⟨_,_,rfl, .bool _,h⟩
 case geq=>exact⟨_,_,rfl, .bool _,h⟩
theorem cs8 (hR:gb c)(he:cm c e ea){op:BinOp}{x z:Operand}(h:cs7 op (ev e x) (ev e z) (fun v=>k v c.S)=some y):db T (.bin op x z) ea c.σ (iO c d k y):=by
 have hx:=de he x;have hz:=de he z
 have key: ∀v va,yF op (ea.ev x) (ea.ev z)=some va→VRel c v va→k v c.S=some y→db T (.bin op x z) ea c.σ (iO c d k y):=fun v va h1 h2 h3=>
  dh (by simp only[AOp.run,h1];rfl) (iO.same hR h2 h3)
 generalize ev e x=xv at*;generalize ev e z=zv at*;unfold cs7 at h;split at h
 ·rename_i kx a kz b;rw[hx.int_inv,hz.int_inv]at key;cases hs:uK op with
  |true=>
   rw[hs,cond_true]at h;simp only[yF,hs,if_true]at key;cases op<;>simp only[cf4]at h<;>try(cases h;done)
   ·obtain⟨h1,h2⟩:=cn h;have h1:=of_decide_eq_true h1;refine key _ _ ?_ (.int _ _) h2;simp only[ba0];rw[if_neg (by omega)]
   ·obtain⟨h1,h2⟩:=cn h;have h1:=of_decide_eq_true h1;refine key _ _ ?_ (.int _ _) h2;simp only[ba0];rw[if_neg (by omega)]
  |false=>
   rw[hs,cond_false]at h;cases hk:decide (kx=kz)with
   |false=>rw[hk]at h;cases h
   |true=>
    rw[hk,cond_true]at h;have hk:=of_decide_eq_true hk;subst hk;obtain⟨v,va,h1,h2,h3⟩:=bQ5 (c:=c) h;refine key v va ?_ h2 h3;simp only[yF,hs,Bool.false_eq_true,if_false,if_true,h1]
 ·rename_i a b;obtain⟨s,e1,rfl⟩:=hx.str_inv;obtain⟨t,e2,rfl⟩:=hz.str_inv;rw[e1,e2]at key;cases hs:uK op with
  |true=>rw[hs]at h;cases h
  |false=>
   rw[hs,cond_false]at h;simp only[yF,hs,Bool.false_eq_true,if_false]at key;cases op<;>simp only[cA3]at h<;>try(cases h;done)
   ·obtain⟨h1,h2⟩:=cn h;have h1:(ei s).length+(ei t).length≤9223372036854775807:=Nat.le_of_ble_eq_true h1;rw[sW,sW]at h1;refine key _ _ ?_ (.str (aV0 s t)) h2;simp only[bP2];rw[if_neg];show¬(((s.size+t.size:Nat):Int) > 9223372036854775807);omega
   ·refine key _ _ rfl ?_ h;rw[aG9];exact .bool _
   ·refine key _ _ rfl ?_ h;rw[aG9];have:(!decide (ei s=ei t))=decide (ei s≠ei t):=by simp
    rw[this];exact .bool _
 ·cases h
theorem tS {b:Blk}(h:b.live=true): ∃dm,b.dim=some dm:=by cases b<;>first|(cases h;done)|exact⟨_,rfl⟩
theorem az0 {v:VV}{a:Value}(h:VRel c v a)(hp:aW9 c.S v=true): ∃x,a= .pointer (some x):=by
 cases v<;>try(cases hp;done)
 case ptr q o=>
  obtain⟨dd,hh⟩:=tS hp;cases h with
  |ptr hk _ hd=>obtain⟨b,_,h⟩:=hd dd hh;exact⟨_,h⟩
 case pix q o n i=>
  obtain⟨dd,hh⟩:=tS hp;cases h with
  |pix hk _ _ hd=>obtain⟨b,_,h⟩:=hd dd hh;exact⟨_,h⟩
 case pel q i o=>
  obtain⟨dd,hh⟩:=tS hp;cases h with
  |pel hk _ hd=>obtain⟨b,_,h⟩:=hd dd hh;exact⟨_,h⟩
 case pin s x o=>cases h;exact⟨_,rfl⟩
theorem by7 (hR:gb c)(he:cm c e ea){x:Operand}(h:(match ev e x with
  | .fn f a b=>k (.fn f a b) c.S
  |v=>gd (aW9 c.S v) (k v c.S))=some y):db T (.nilCheck x) ea c.σ (iO c d k y):=by
 have hx:=de he x;split at h
 ·rename_i f a b hv;rw[hv]at hx
  have: ∃a' b',ea.ev x= .func (.func f) a' b':=by
   generalize ea.ev x=xa at hx;cases hx;exact⟨_,_,rfl⟩
  obtain⟨a',b',h1⟩:=this;rw[h1]at hx;exact dh (by simp only[AOp.run,h1]) (iO.same hR hx h)
 ·obtain⟨h1,h2⟩:=cn h;obtain⟨p,h3⟩:=az0 hx h1;rw[h3]at hx;exact dh (by simp only[AOp.run,h3]) (iO.same hR hx h2)
theorem cb7 {neg b:Bool}:(b !=neg)=cb6 neg b:=by cases neg<;>cases b<;>rfl
theorem ct2 (hR:gb c)(he:cm c e ea){kd:Nat}{neg:Bool}{x z:Operand}{p:Bool}(hp:ct1 c.S kd (ev e x) (ev e z)=some p)(h:k (.bool (cb6 neg p)) c.S=some y):db T (.eqv kd neg x z) ea c.σ (iO c d k y):=by
 have hx:=de he x;have hz:=de he z
 have key:bx0 kd (ea.ev x) (ea.ev z)=some p→db T (.eqv kd neg x z) ea c.σ (iO c d k y):=fun h1=>
  dh (v:= .bool (p !=neg)) (by simp only[AOp.run,h1];rfl) (iO.same hR (by rw[cb7];exact .bool _) h)
 generalize ev e x=xv at*;generalize ev e z=zv at*;unfold ct1 at hp;split at hp
 ·injection hp with hp;subst hp
  rw[hx.bool_inv,hz.bool_inv]at key;exact key rfl
 ·injection hp with hp;subst hp
  refine key ?_;generalize ea.ev x=xa at*;generalize ea.ev z=za at*;cases hx;cases hz;rfl
 ·cases hi:aW9 c.S zv with
  |false=>rw[hi]at hp;cases hp
  |true=>
   rw[hi]at hp;injection hp with hp;subst hp
   refine key ?_;obtain⟨q,h1⟩:=az0 hz hi;rw[h1];generalize ea.ev x=xa at*;cases hx;rfl
 ·cases hi:aW9 c.S xv with
  |false=>rw[hi]at hp;cases hp
  |true=>
   rw[hi]at hp;injection hp with hp;subst hp
   refine key ?_;obtain⟨q,h1⟩:=az0 hx hi;rw[h1];generalize ea.ev z=za at*;cases hz;rfl
 ·injection hp with hp;subst hp
  refine key ?_;generalize ea.ev x=xa at*;generalize ea.ev z=za at*;cases hx;cases hz;rfl
 ·injection hp with hp;subst hp
  refine key ?_;generalize ea.ev x=xa at*;generalize ea.ev z=za at*;cases hx;cases hz;rfl
 ·injection hp with hp;subst hp
  refine key ?_;generalize ea.ev x=xa at*;generalize ea.ev z=za at*;cases hx;cases hz;rfl
 ·injection hp with hp;subst hp
  refine key ?_;generalize ea.ev x=xa at*;generalize ea.ev z=za at*;cases hx;cases hz;rfl
 ·cases hp
theorem cj0 {kd:Nat}{v w:VV}{va wa:Value}{p:Bool}(h:bR9 kd v w=some p)(hv:VRel c v va)(hw:VRel c w wa):vk kd va wa=some p:=by
 unfold bR9 at h;split at h
 ·injection h with h;subst h
  rw[hv.bool_inv,hw.bool_inv];rfl
 ·rename_i k1 a k2 b;cases hk:decide (k1=k2)with
  |false=>rw[hk]at h;cases h
  |true=>
   rw[hk]at h;injection h with h;subst h
   rw[hv.int_inv,hw.int_inv];simp only[vk,of_decide_eq_true hk,if_true];by_cases e:a=b<;>simp[e]
 ·injection h with h;subst h
  obtain⟨s,e1,rfl⟩:=hv.str_inv;obtain⟨t,e2,rfl⟩:=hw.str_inv;rw[e1,e2];simp only[vk];rw[aG9]
 ·cases h
theorem cj1 : ∀{ks:List Nat} {l m:List VV} {la ma:List Value} {p:Bool},be1 ks l m=some p→F2 (VRel c) l la→F2 (VRel c) m ma→kw ks la ma=some p:=by
 intro ks;induction ks with
 |nil=>
  intro l m la ma p h hl hm;cases hl<;>cases hm<;>simp only[be1]at h<;>try(cases h;done)
  exact h
 |cons kd ks ih=>
  intro l m la ma p h hl hm;cases hl with
  |nil=>cases m<;>simp[be1]at h
  |cons h1 h2=>
   cases hm with
   |nil=>cases ks<;>simp[be1]at h
   |cons h3 h4=>
    rename_i v va l' la' w wa m' ma'
    have key: ∀q r,bR9 kd v w=some q→be1 ks l' m'=some r→p=(q&&r)→kw (kd::ks) (va::la') (wa::ma')=some p:=by
     intro q r e1 e2 e3;simp only[kw,cj0 e1 h1 h3];cases q with
     |false=>simp[e3]
     |true=>rw[ih e2 h2 h4,e3];simp
    unfold be1 at h;split at h
    ·rename_i e1 e2 e3;cases e1
    ·rename_i e1 e2 e3;cases e1;cases e2;cases e3;cases h2;cases h4;exact key p true h rfl (by simp)
    ·rename_i e1 e2 e3;cases e1;cases e2;cases e3;cases hq:bR9 kd v w with
     |none=>rw[hq]at h;cases h
     |some q=>
      rw[hq]at h;simp only[Option.bind_some]at h;cases hr:be1 ks l' m' with
      |none=>rw[hr]at h;cases h
      |some r=>
       rw[hr]at h;injection h with h
       exact key q r hq hr h.symm
    ·cases h
theorem bG5 (hR:gb c)(he:cm c e ea){ks:List Nat}{neg:Bool}{x z:Operand}{a b:List VV}{p:Bool}(h1:ev e x= .agg a)(h2:ev e z= .agg b)(hp:be1 ks a b=some p)(h:k (.bool (cb6 neg p)) c.S=some y):
  db T (.eqCells neg ks x z) ea c.σ (iO c d k y):=by
 have hx:=de he x;have hz:=de he z;rw[h1]at hx;rw[h2]at hz;obtain⟨as,e1,f1⟩:=hx.agg_inv;obtain⟨bs,e2,f2⟩:=hz.agg_inv;exact dh (v:= .bool (p !=neg)) (by simp only[AOp.run,e1,e2,cj1 hp f1 f2];rfl) (iO.same hR (by rw[cb7];exact .bool _) h)
theorem cA7 (hR:gb c)(he:cm c e ea){op:UnOp}{x:Operand}(h:unK op (ev e x) (fun v=>k v c.S)=some y):db T (.un op x) ea c.σ (iO c d k y):=by
 have hx:=de he x;unfold unK at h;split at h
 ·rename_i kd n hv;rw[hv]at hx;exact dh (by simp only[AOp.run,hx.int_inv];rfl) (iO.same hR (.int _ _) h)
 ·rename_i kd n hv;rw[hv]at hx;exact dh (by simp only[AOp.run,hx.int_inv];rfl) (iO.same hR (.int _ _) h)
 ·rename_i b hv;rw[hv]at hx;exact dh (by simp only[AOp.run,hx.bool_inv];rfl) (iO.same hR (.bool _) h)
 ·cases h
theorem aW8 {v:VV}{n:Int}{a:Value}(h:aD2 v=some n)(hv:VRel c v a): ∃kd,a= .int kd n:=by
 cases v<;>simp only[aD2]at h<;>try(cases h;done)
 injection h with h;subst h
 exact⟨_,hv.int_inv⟩
theorem ci0 (hR:gb c)(he:cm c e ea){kd:IntKind}{x:Operand}{n:Int}(hn:aD2 (ev e x)=some n)(h:k (.int kd (kd.wrap n)) c.S=some y):db T (.conv kd x) ea c.σ (iO c d k y):=by
 obtain⟨kd',hx⟩:=aW8 hn (de he x);exact dh (by simp only[AOp.run,hx];rfl) (iO.same hR (.int _ _) h)
theorem bT6 (hR:gb c)(he:cm c e ea){f:Nat}{a b:List Operand}(h:k (.fn f (a.map (ev e)) (b.map (ev e))) c.S=some y):db T (.mkFunc f a b) ea c.σ (iO c d k y):=
 dh rfl (iO.same hR (.fn (by simpa using aP5 he a) (by simpa using aP5 he b)) h)
theorem bS1 (hR:gb c)(he:cm c e ea){o n:Nat}{agg:Bool}{x:Operand}{cs:List VV}(hx:ev e x= .agg cs)(h:cond agg (k (.agg (zf cs o n)) c.S) (bU6 c.S (nth cs o) k)=some y):db T (.fieldV o n agg x) ea c.σ (iO c d k y):=by
 have hv:=de he x;rw[hx]at hv;obtain⟨as,e1,f1⟩:=hv.agg_inv;cases agg with
 |true=>
  refine dh (v:= .agg (as.extract o (o+n))) (by simp only[AOp.run,e1];rfl) (iO.same hR (.agg ?_) h);have:=(f1.drop o).take n;simpa[zf,Array.toList_extract,List.extract_eq_take_drop]using this
 |false=>
  rw[cond_false]at h;cases hn:nth cs o with
  |none=>rw[hn]at h;cases h
  |some w=>
   rw[hn]at h;obtain⟨u,h1,h2⟩:=F2.nth f1 hn;have h1':as[o]?=some u:=by simpa using h1
   exact dh (by simp only[AOp.run,e1,h1'];rfl) (iO.same hR h2 h)
theorem bG7 (hR:gb c)(he:cm c e ea){i:Nat}{x:Operand}{cs:List VV}(hx:ev e x= .tup cs)(h:bU6 c.S (nth cs i) k=some y):db T (.extract x i) ea c.σ (iO c d k y):=by
 have hv:=de he x;rw[hx]at hv;obtain⟨as,e1,f1⟩:=hv.tup_inv;cases hn:nth cs i with
 |none=>rw[hn]at h;cases h
 |some w=>
  rw[hn]at h;obtain⟨u,h1,h2⟩:=F2.nth f1 hn;have h1':as[i]?=some u:=by simpa using h1
  exact dh (by simp only[AOp.run,e1,h1'];rfl) (iO.same hR h2 h)
theorem ar9 {i:Int}{n j:Nat}(h:ix i n=some j):0≤i∧i<n∧j=i.toNat∧j<n:=by
 unfold ix at h;cases hb:(decide (0≤i)&&decide (i<n))with
 |false=>rw[hb]at h;cases h
 |true=>
  rw[hb]at h;injection h with h
  rw[Bool.and_eq_true]at hb;have h1:=of_decide_eq_true hb.1;have h2:=of_decide_eq_true hb.2;exact⟨h1,h2,h.symm,by omega⟩
theorem bO6 {α:Type}{l:List α}{i:Int}{x:α}(h:rd l i=some x):0≤i∧i<l.length∧l[i.toNat]?=some x:=by
 unfold rd at h;cases hb:decide (0≤i)with
 |false=>rw[hb]at h;cases h
 |true=>
  rw[hb]at h;have h1:=of_decide_eq_true hb
  have h2:i.toNat<l.length:=by
   rcases Nat.lt_or_ge i.toNat l.length with h3|h3
   ·exact h3
   ·rw[cond_true,List.getElem?_eq_none h3]at h;cases h
  exact⟨h1,by omega,h⟩
theorem ce {α γ:Type}{x:Option α}{f:α→Option γ}{z:γ}(h:x.bind f=some z): ∃a,x=some a∧f a=some z:=by
 cases x with
 |none=>cases h
 |some a=>exact⟨a,rfl,h⟩
theorem bT1 (hR:gb c)(he:cm c e ea){ln es:Nat}{agg:Bool}{x z:Operand}{cs:List VV}{kd:IntKind}{i:Int}(hx:ev e x= .agg cs)(hz:ev e z= .int kd i)
  (h:((ix i ln).bind fun j=>cond agg (k (.agg (zf cs (j*es) es)) c.S) (gd (Nat.beq es 1&&Nat.beq cs.length ln) (bv4 cs j c.S k)))=some y):db T (.indexV ln es agg x z) ea c.σ (iO c d k y):=by
 have hv:=de he x;have hw:=de he z;rw[hx]at hv;rw[hz]at hw;obtain⟨as,e1,f1⟩:=hv.agg_inv;have e2:=hw.int_inv;obtain⟨j,h1,h2⟩:=ce h;obtain⟨h3,h4,rfl,h5⟩:=ar9 h1;cases agg with
 |true=>
  refine dh (v:= .agg (as.extract (i.toNat*es) (i.toNat*es+es))) (by simp only[AOp.run,e1,e2];rw[if_pos ⟨h3,h4⟩];rfl) (iO.same hR (.agg ?_) h2);have:=(f1.drop (i.toNat*es)).take es;simpa[zf,Array.toList_extract,List.extract_eq_take_drop]using this
 |false=>
  rw[cond_false]at h2;obtain⟨h6,h7⟩:=cn h2;rw[Bool.and_eq_true]at h6;have h8:=Nat.eq_of_beq_eq_true h6.1;have h9:=Nat.eq_of_beq_eq_true h6.2;subst h8;obtain⟨w,h10,h11⟩:=bv5 (by omega) h7;obtain⟨u,h12,h13⟩:=f1.get _ _ h10;have h14:as[i.toNat*1]?=some u:=by rw[Nat.mul_one];simpa using h12
  exact dh (by simp only[AOp.run,e1,e2,h14];rw[if_pos ⟨h3,h4⟩];rfl) (iO.same hR h13 h11)
theorem bT0 (hR:gb c)(he:cm c e ea){x z:Operand}{l:List Int}{kd:IntKind}{i:Int}(hx:ev e x= .str l)(hz:ev e z= .int kd i)(h:((rd l i).bind fun b=>k (.int .u8 b) c.S)=some y):db T (.indexS x z) ea c.σ (iO c d k y):=by
 have hv:=de he x;have hw:=de he z;rw[hx]at hv;rw[hz]at hw;obtain⟨s,e1,rfl⟩:=hv.str_inv;have e2:=hw.int_inv;obtain⟨b,h1,h2⟩:=ce h;obtain⟨h3,h4,h5⟩:=bO6 h1;simp only[ei,List.getElem?_map]at h5;cases hb:s.data.toList[i.toNat]? with
 |none=>rw[hb]at h5;cases h5
 |some u=>
  rw[hb,Option.map_some]at h5;injection h5 with h5
  subst h5
  have h6:s[i.toNat]?=some u:=by
   have:i.toNat<s.size:=by rw[sW]at h4;omega
   rw[getElem?_pos s i.toNat this];rw[←hb,Array.getElem?_toList,getElem?_pos s.data i.toNat this];rfl
  exact dh (v:= .int .u8 u.toNat) (by simp only[AOp.run,e1,e2,h6];rw[if_pos h3];rfl) (iO.same hR (.int _ _) h2)
theorem cl0 (hR:gb c)(he:cm c e ea){x z:Operand}{kd kd':IntKind}{a b:Int}(hx:ev e x= .int kd a)(hz:ev e z= .int kd' b)(h:k (.int kd (max a b)) c.S=some y):db T (.most x z) ea c.σ (iO c d k y):=by
 have hv:=de he x;have hw:=de he z;rw[hx]at hv;rw[hz]at hw;refine dh (v:= .int kd (max a b)) ?_ (iO.same hR (.int _ _) h);simp only[AOp.run,hv.int_inv,hw.int_inv,bK7,Option.map_some]
 congr 3
 split<;>omega
theorem ca5 (hR:gb c)(he:cm c e ea){x z:Operand}{kd kd':IntKind}{a b:Int}(hx:ev e x= .int kd a)(hz:ev e z= .int kd' b)(h:k (.int kd (min a b)) c.S=some y):db T (.least x z) ea c.σ (iO c d k y):=by
 have hv:=de he x;have hw:=de he z;rw[hx]at hv;rw[hz]at hw;refine dh (v:= .int kd (min a b)) ?_ (iO.same hR (.int _ _) h);simp only[AOp.run,hv.int_inv,hw.int_inv,bs4,Option.map_some]
 congr 3
 split<;>omega
end
section
variable {β:Type} {T:ig} {c:Ctx} {e:fa} {ea:dy} {k:VV→cf→Option β} {y:β} {d:List Nat}
theorem SlR.len {q lo n:Nat}{dm:Nat×Nat}{a:Value}(h:SlR c q lo n dm a): ∃p cp,a= .slice p n cp∧n≤cp:=by
 rcases h with⟨rfl,_,rfl,_,_⟩|⟨b,cp,x,rfl,_,_,h,_⟩
 ·exact⟨none,0,rfl,Nat.le_refl _⟩
 ·exact⟨_,cp,rfl,h⟩
theorem ca7 (hR:gb c){v:VV}{a:Value}{n:Nat}(h:lenOf c.S v=some n)(hv:VRel c v a)(hs: ∀l,v≠ .str l): ∃p cp,a= .slice p n cp∧n≤cp:=by
 cases v<;>simp only[lenOf]at h<;>try(cases h;done)
 case nils=>injection h with h;subst h;cases hv;exact⟨none,0,rfl,Nat.le_refl _⟩
 case str l=>exact(hs l rfl).elim
 case lst s l=>
  injection h with h;subst h
  cases hv with
  |lstn=>exact⟨_,0,rfl,Nat.le_refl _⟩
  |lst _ _ _ h1 h2 _ _=>subst h1;exact⟨_,_,rfl,h2⟩
 case part q lo m=>
  cases hl:(aD c.S q).live with
  |false=>rw[hl]at h;cases h
  |true=>
   rw[hl]at h;injection h with h;subst h
   obtain⟨dd,hh⟩:=tS hl;cases hv with
   |part hk _ hd=>exact(hd dd hh).len
 case full q=>
  cases hv with
  |full hk _ hd=>
   cases hb:aD c.S q with
   |dead=>rw[hb]at h;cases h
   |arr s z l=>
    rw[hb]at h;injection h with h;subst h
    obtain⟨n,h1,h2⟩:=hd (s.w,l.length*s.w) (by rw[hb];rfl);have:n=l.length:=Nat.eq_of_mul_eq_mul_right (pz s) h1;subst this;exact h2.len
   |cells es z l=>
    rw[hb]at h;injection h with h;subst h
    obtain⟨n,h1,h2⟩:=hd (es,l.length) (by rw[hb];rfl);have h3:=(hR.blk q (es,l.length) (by rw[hb];rfl)).1
    have:n=l.length / es:=by
     simp only at h1 h3;rw[←h1,Nat.mul_div_cancel _ h3]
    subst this;exact h2.len
theorem cu7 (hR:gb c)(he:cm c e ea){x:Operand}{n:Nat}(hs: ∀l,ev e x≠ .str l)(hn:lenOf c.S (ev e x)=some n)(h:k (.int .i64 n) c.S=some y):db T (.len x) ea c.σ (iO c d k y):=by
 obtain⟨p,cp,h1,_⟩:=ca7 hR hn (de he x) hs;exact dh (by simp only[AOp.run,h1]) (iO.same hR (.int _ _) h)
theorem ck5 (hR:gb c)(he:cm c e ea){x:Operand}{l:List Int}(hx:ev e x= .str l)(h:k (.int .i64 l.length) c.S=some y):db T (.lenS x) ea c.σ (iO c d k y):=by
 have hv:=de he x;rw[hx]at hv;obtain⟨s,h1,h2⟩:=hv.str_inv;refine dh (v:= .int .i64 s.size) (by simp only[AOp.run,h1]) (iO.same hR ?_ h);rw[←h2,sW];exact .int _ _
theorem aC4 (he:cm c e ea){lo:Option Operand}{a:Int}{m:Nat}(h:af1 (lo.map (ev e))=some a)(h0:0≤a)(hm:a≤m):pT m 0 (lo.map ea.ev)=some a.toNat:=by
 cases lo with
 |none=>
  simp only[Option.map_none,af1]at h;injection h with h;subst h
  rfl
 |some x=>
  simp only[Option.map_some,af1]at h⊢;obtain⟨kd,h1⟩:=aW8 h (de he x);rw[h1];exact if_pos ⟨h0,hm⟩
theorem aC3 (he:cm c e ea){hi:Option Operand}{b:Int}{n cp:Nat}(h:vO n (hi.map (ev e))=some b)(h0:0≤b)(hm:b≤n)(hc:n≤cp):pT cp n (hi.map ea.ev)=some b.toNat:=by
 cases hi with
 |none=>
  simp only[Option.map_none,vO]at h;injection h with h;subst h
  simp[pT]
 |some x=>
  simp only[Option.map_some,vO]at h⊢;obtain⟨kd,h1⟩:=aW8 h (de he x);rw[h1];exact if_pos ⟨h0,by omega⟩
theorem sX {a b:Int}{n:Nat}(h:iN a b n=true):0≤a∧a≤b∧b≤n:=by
 unfold iN at h;rw[Bool.and_eq_true,Bool.and_eq_true]at h;exact⟨of_decide_eq_true h.1.1,of_decide_eq_true h.1.2,of_decide_eq_true h.2⟩
theorem as7 (he:cm c e ea){es:Nat}{x:Operand}{lo hi:Option Operand}{p:Option Addr}{n cp:Nat}{a b:Int}(hx:ea.ev x= .slice p n cp)(hn:n≤cp)(hp:cp≠0→∀q,p=some q→∃z,c.σ.m q.block=some z∧z.es=es)
  (hlo:af1 (lo.map (ev e))=some a) (hhi:vO n (hi.map (ev e))=some b) (hg:iN a b n=true):(AOp.slice es x lo hi).run ea c.σ=some (.slice (p.map (be9 · (a.toNat*es))) (b.toNat-a.toNat) (cp-a.toNat),c.σ):=by
 obtain⟨h1,h2,h3⟩:=sX hg
 have hm:(cp==0||yI c.σ es p lo)=true:=by
  by_cases hc:cp=0
  ·simp[hc]
  ·unfold yI;split
   ·simp
   ·simp
   ·rename_i q;obtain⟨z,h4,h5⟩:=hp hc q rfl;rw[h4];simp[h5]
 simp only[AOp.run,hx,hm,if_true,aC3 he hhi (by omega) h3 hn,aC4 he hlo h1 (m:=b.toNat) (by omega)]
theorem SlR.cut {q lo n:Nat}{dm:Nat×Nat}{p:Option Addr}{cp A B:Nat}(h:SlR c q lo n dm (.slice p n cp))(hA:A≤B)(hB:B≤n):SlR c q (lo+A) (B-A) dm (.slice (p.map (be9 · (A*dm.1))) (B-A) (cp-A)):=by
 rcases h with⟨h1,h2,h3,h4,h5⟩|⟨b,cp',z,h1,h2,h3,h4,h5,h6⟩
 ·injection h1 with e1 e2 e3
  subst e1;subst e3;have:A=0:=by omega
  have:B=0:=by omega
  subst A;subst B;exact .inl ⟨rfl,by omega,rfl,h4,h5⟩
 ·injection h1 with e1 e2 e3
  subst e1;subst e3;refine .inr ⟨b,cp-A,z, ?_,h2,Nat.le_trans (Nat.mul_le_mul_right _ (by omega)) h3,by omega,h5,Nat.le_trans (Nat.mul_le_mul_right _ (by omega)) h6⟩;simp only[Option.map_some,be9,Nat.add_mul]
theorem SlR.es (hR:gb c){q lo n cp:Nat}{dm:Nat×Nat}{p:Option Addr}(hd:(aD c.S q).dim=some dm)(h:SlR c q lo n dm (.slice p n cp)): ∀z,p=some z→∃blk,c.σ.m z.block=some blk∧blk.es=dm.1:=by
 intro z hz;subst hz;rcases h with⟨h1,_⟩|⟨b,cp',x,h1,h2,_,_,h5,_⟩
 ·cases h1
 ·injection h1 with e1 e2 e3
  injection e1 with e1
  subst e1;obtain⟨blk,_,_,h6,h7,_⟩:=hR.block hd h2;exact⟨blk,h6,h7⟩
theorem aE3 (hR:gb c)(he:cm c e ea){es q o n:Nat}{dm:Nat×Nat}{x:Operand}{lo hi:Option Operand}{a b:Int}(hd:(aD c.S q).dim=some dm)(hes:es=dm.1)(hs:SlR c q o n dm (ea.ev x))
  (hlo:af1 (lo.map (ev e))=some a) (hhi:vO n (hi.map (ev e))=some b) (hg:iN a b n=true) (h:k (.part q (o+a.toNat) (b.toNat-a.toNat)) c.S=some y):db T (.slice es x lo hi) ea c.σ (iO c d k y):=by
 obtain⟨p,cp,hx,hn⟩:=hs.len;rw[hx]at hs;obtain⟨h1,h2,h3⟩:=sX hg;subst hes;refine dh (as7 he hx hn (fun _=>hs.es hR hd) hlo hhi hg) (iO.same hR ?_ h);refine .part (pc (by rw[hd];simp)) rfl fun d' hd'=> ?_
 rw[hd]at hd';injection hd' with hd'
 subst hd';exact hs.cut (by omega) (by omega)
theorem tdt {α:Type}(L:List α){A B N p:Nat}(h:B≤N):((((L.drop p).take N).take B).drop A)=(L.drop (p+A)).take (B-A):=by
 rw[List.take_take,Nat.min_eq_left h,List.drop_take,List.drop_drop]
theorem cf5 (hR:gb c)(he:cm c e ea){es:Nat}{x:Operand}{lo hi:Option Operand}(h:bJ6 c.S es (ev e x) (lo.map (ev e)) (hi.map (ev e)) k=some y):db T (.slice es x lo hi) ea c.σ (iO c d k y):=by
 have hx:=de he x;unfold bJ6 at h;cases hln:lenOf c.S (ev e x)with
 |none=>rw[hln]at h;cases h
 |some n=>
  rw[hln]at h;simp only at h;cases hlo:af1 (lo.map (ev e))with
  |none=>rw[hlo]at h;cases h
  |some a=>
   cases hhi:vO n (hi.map (ev e))with
   |none=>rw[hlo,hhi]at h;cases h
   |some b=>
    rw[hlo,hhi]at h;simp only at h;split at h
    ·rename_i hv;rw[hv]at hx hln;obtain⟨h1,h2⟩:=cn h
     have hn0:n=0:=by
      simp only[lenOf]at hln;injection hln with hln
      exact hln.symm
     subst hn0;obtain⟨h3,h4,h5⟩:=sX h1;have ha0:a=0:=by omega
     have hb0:b=0:=by omega
     subst a;subst b;have hxe:ea.ev x= .slice none 0 0:=by generalize ea.ev x=xa at hx;cases hx;rfl
     exact dh (as7 he hxe (Nat.le_refl _) (fun _ q h=>by cases h) hlo hhi h1) (iO.same hR .nils h2)
    ·rename_i s l hv;rw[hv]at hx hln;simp only[lenOf]at hln;injection hln with hln
     subst hln;obtain⟨h1,h2⟩:=cn h;have hes:=Nat.eq_of_beq_eq_true h1
     have key:iN a b l.length=true→k (.lst s (bF9 l a b)) c.S=some y→db T (.slice es x lo hi) ea c.σ (iO c d k y):=by
      intro hg hk;obtain⟨h3,h4,h5⟩:=sX hg;generalize hxa:ea.ev x=xa at hx;cases hx with
      |lstn hq=>
       have hb0:b=0:=by simp at h5;omega
       have ha0:a=0:=by omega
       subst a;subst b;refine dh (as7 he hxa (Nat.le_refl _) (fun h=>(h rfl).elim) hlo hhi hg) (iO.same hR ?_ hk);refine .lstn fun z hz=> ?_
       obtain⟨z',_,h'⟩:=Option.map_eq_some_iff.1 hz;rw[←h'];rfl
      |lst hn hy he' h6 h7 h8 h9=>
       rename_i bb p cp z;refine dh (as7 he hxa h7 (fun _ q h=>by injection h with h;subst h;exact⟨z,hy,he'.trans hes.symm⟩) hlo (by rw[h6];exact hhi) (by rw[h6];exact hg)) (iO.same hR ?_ hk);subst hes;have hlen:(bF9 l a b).length=b.toNat-a.toNat:=by simp only[bF9,List.length_drop,List.length_take];omega
       refine .lst hn hy he' hlen.symm (by omega) ?_ ?_
       ·have:a.toNat*s.w+(b.toNat-a.toNat)*s.w≤l.length*s.w:=by rw[←Nat.add_mul];exact Nat.mul_le_mul_right _ (by omega)
        simp only;rw[h6]at h8;omega
       ·simp only[bF9];rw[xl,me];have h10:=(h9.take (b.toNat*s.w)).drop (a.toNat*s.w);rw[tdt _ (by rw[h6];exact Nat.mul_le_mul_right _ (by omega)),←Nat.sub_mul]at h10;exact h10
     split at h2
     ·rename_i e1 e2
      have hg:iN a b l.length=true:=by
       rw[e1]at hlo;rw[e2]at hhi;simp only[af1]at hlo;simp only[vO]at hhi;injection hlo with hlo
       injection hhi with hhi
       subst hlo;subst hhi;simp[iN]
      refine key hg ?_;rw[e1]at hlo;rw[e2]at hhi;simp only[af1]at hlo;simp only[vO]at hhi;injection hlo with hlo
      injection hhi with hhi
      subst hlo;subst hhi;simp only[bF9,Int.toNat_natCast,Int.toNat_zero,List.drop_zero,List.take_length];exact h2
     ·obtain⟨h3,h4⟩:=cn h2;exact key h3 h4
    ·rename_i q hv;rw[hv]at hx hln;cases hx with
     |full hk _ hd=>
      cases hb:aD c.S q with
      |dead=>rw[hb]at h;cases h
      |arr s z l=>
       rw[hb]at h;obtain⟨h1,h2⟩:=cn h;obtain⟨h3,h4⟩:=cn h2;simp only[lenOf,hb]at hln;injection hln with hln
       obtain⟨n',h5,h6⟩:=hd (s.w,l.length*s.w) (by rw[hb];rfl);have:n'=n:=by rw[←hln];exact Nat.eq_of_mul_eq_mul_right (pz s) h5
       subst this;exact aE3 hR he (by rw[hb];rfl) (Nat.eq_of_beq_eq_true h1) h6 hlo hhi h3 (by rw[Nat.zero_add];exact h4)
      |cells es' z l=>
       rw[hb]at h;obtain⟨h1,h2⟩:=cn h;obtain⟨h3,h4⟩:=cn h2;rw[Bool.and_eq_true]at h1;simp only[lenOf,hb]at hln;injection hln with hln
       obtain⟨n',h5,h6⟩:=hd (es',l.length) (by rw[hb];rfl);have he1:=Nat.eq_of_beq_eq_true h1.1;have he2:=Nat.le_of_ble_eq_true h1.2
       have:n'=n:=by
        simp only at h5;rw[←hln,←h5,Nat.mul_div_cancel _ (by omega)]
       subst this;exact aE3 hR he (by rw[hb];rfl) he1 h6 hlo hhi h3 (by rw[Nat.zero_add];exact h4)
    ·rename_i q o m hv;rw[hv]at hx hln;cases hx with
     |part hk _ hd=>
      simp only[lenOf]at hln;cases hb:aD c.S q with
      |dead=>rw[hb]at h;cases h
      |arr s z l=>
       rw[hb]at h hln;injection hln with hln
       subst hln;obtain⟨h1,h2⟩:=cn h;obtain⟨h3,h4⟩:=cn h2;exact aE3 hR he (dm:=(s.w,l.length*s.w)) (by rw[hb];rfl) (Nat.eq_of_beq_eq_true h1) (hd _ (by rw[hb];rfl)) hlo hhi h3 h4
      |cells es' z l=>
       rw[hb]at h hln;injection hln with hln
       subst hln;obtain⟨h1,h2⟩:=cn h;obtain⟨h3,h4⟩:=cn h2;rw[Bool.and_eq_true]at h1;exact aE3 hR he (dm:=(es',l.length)) (by rw[hb];rfl) (Nat.eq_of_beq_eq_true h1.1) (hd _ (by rw[hb];rfl)) hlo hhi h3 h4
    ·cases h
theorem aV1 (s:ByteArray)(a b:Nat):ei (s.extract a b)=((ei s).take b).drop a:=by
 simp[ei,ByteArray.data_extract,Array.toList_extract,List.extract_eq_take_drop,List.map_drop,List.map_take,List.drop_take]
theorem bC4 (hR:gb c)(he:cm c e ea){x:Operand}{lo hi:Option Operand}(h:aJ3 c.S (ev e x) (lo.map (ev e)) (hi.map (ev e)) k=some y):db T (.sliceStr x lo hi) ea c.σ (iO c d k y):=by
 have hx:=de he x;unfold aJ3 at h;split at h
 ·rename_i l hv;rw[hv]at hx;obtain⟨s,h1,rfl⟩:=hx.str_inv;split at h
  ·rename_i a b hlo hhi;obtain⟨h2,h3⟩:=cn h;obtain⟨h4,h5,h6⟩:=sX h2;rw[sW]at h6 hhi;refine dh (v:= .string (s.extract a.toNat b.toNat)) ?_ (iO.same hR (.str (aV1 s _ _)) h3);simp only[AOp.run,h1,aC3 he hhi (by omega) h6 (Nat.le_refl _),aC4 he hlo h4 (m:=b.toNat) (by omega)]
  ·cases h
 ·cases h
theorem bd5 {blk:Blk}{dm:Nat×Nat}(h:blk.dim=some dm):blk.vals.length=dm.2:=by
 cases blk with
 |dead=>cases h
 |cells es z l=>injection h with h;subst h;rfl
 |arr s z l=>injection h with h;subst h;exact iF
theorem bC3 (hR:gb c)(he:cm c e ea){es n:Nat}{x:Operand}{lo hi:Option Operand}(h:aJ2 c.S es n (ev e x) (lo.map (ev e)) (hi.map (ev e)) k=some y):db T (.sliceArr es n x lo hi) ea c.σ (iO c d k y):=by
 have hx:=de he x;unfold aJ2 at h;split at h
 ·rename_i q o hv;rw[hv]at hx;split at h
  ·rename_i es' l hb;split at h
   ·rename_i a b hlo hhi;obtain⟨h1,h2⟩:=cn h;simp only[Bool.and_eq_true]at h1;obtain⟨⟨⟨⟨⟨h3,h4⟩,h5⟩,h6⟩,h7⟩,h8⟩:=h1;have h3:=Nat.eq_of_beq_eq_true h3;have h4:=Nat.le_of_ble_eq_true h4;have h5:=Nat.eq_of_beq_eq_true h5;have h6:=Nat.le_of_ble_eq_true h6;have h8:=of_decide_eq_true h8;obtain⟨h9,h10,h11⟩:=sX h7;subst h3;cases hx with
    |ptr hk _ hd=>
     have hdim:(aD c.S q).dim=some (es,l.length):=by rw[hb];rfl
     obtain⟨bb,hm,hp⟩:=hd _ hdim;obtain⟨z,cs,rest,h12,h13,h14,h15,h16⟩:=hR.block hdim hm;rw[hb]at h14 h16;have hl:=h16.length;simp only[Blk.vals]at hl;have hzl:l.length≤z.cells.length:=by rw[h15,List.length_append,hl];omega
     have hdiv:o / es*es=o:=Nat.div_mul_cancel (Nat.dvd_of_mod_eq_zero h5);have hae:(o / es+a.toNat)*es=o+a.toNat*es:=by rw[Nat.add_mul,hdiv]
     refine dh (v:= .slice (some ⟨bb,o+a.toNat*es,none⟩) (b.toNat-a.toNat) (n-a.toNat)) (σ':=c.σ) ?_ (iO.same hR ?_ h2)
     ·simp only[AOp.run,hp,h12];rw[if_pos ⟨h14 rfl,h13,by omega⟩,aC3 he hhi (by omega) h11 (Nat.le_refl _)];simp only;rw[aC4 he hlo h9 (m:=b.toNat) (by omega)];simp only;rw[if_pos (by omega)]
     ·refine .part hk rfl fun d' hd'=> ?_
      rw[hdim]at hd';injection hd' with hd'
      subst hd';refine .inr ⟨bb,n-a.toNat,z,by simp only[hae],hm, ?_,by omega,h12, ?_⟩
      ·have h17:o / es+a.toNat+(b.toNat-a.toNat)=o / es+b.toNat:=by omega
       simp only;rw[h17,Nat.add_mul,hdiv];have:b.toNat*es≤n*es:=Nat.mul_le_mul_right _ (by omega);omega
      ·have h17:o / es+a.toNat+(n-a.toNat)=o / es+n:=by omega
       simp only;rw[h17,Nat.add_mul,hdiv];omega
   ·cases h
  ·rename_i s l hb;split at h
   ·rename_i a b hlo hhi;obtain⟨h1,h2⟩:=cn h;simp only[Bool.and_eq_true]at h1;obtain⟨⟨⟨⟨h3,h5⟩,h6⟩,h7⟩,h8⟩:=h1;have h3:=Nat.eq_of_beq_eq_true h3;have h5:=Nat.eq_of_beq_eq_true h5;have h6:=Nat.le_of_ble_eq_true h6;have h8:=of_decide_eq_true h8;obtain⟨h9,h10,h11⟩:=sX h7;subst h3;subst h5;cases hx with
    |ptr hk _ hd=>
     have hdim:(aD c.S q).dim=some (s.w,l.length*s.w):=by rw[hb];rfl
     obtain⟨bb,hm,hp⟩:=hd _ hdim;obtain⟨z,cs,rest,h12,h13,h14,h15,h16⟩:=hR.block hdim hm;have hl:=h16.length;rw[bd5 hdim]at hl;rw[hb]at h14;have hle:n*s.w≤l.length*s.w:=Nat.mul_le_mul_right _ h6;have hzl:l.length*s.w≤z.cells.length:=by rw[h15,List.length_append];simp only at hl;omega
     have h17:(a.toNat+(b.toNat-a.toNat))*s.w≤l.length*s.w:=Nat.mul_le_mul_right _ (by omega);have h18:(a.toNat+(n-a.toNat))*s.w≤l.length*s.w:=Nat.mul_le_mul_right _ (by omega);refine dh (v:= .slice (some ⟨bb,0+a.toNat*s.w,none⟩) (b.toNat-a.toNat) (n-a.toNat)) (σ':=c.σ) ?_ (iO.same hR ?_ h2)
     ·simp only[AOp.run,hp,h12];rw[if_pos ⟨h14 rfl,h13,by omega⟩,aC3 he hhi (by omega) h11 (Nat.le_refl _)];simp only;rw[aC4 he hlo h9 (m:=b.toNat) (by omega)];simp only;rw[if_pos (by omega)]
     ·refine .part hk rfl fun d' hd'=> ?_
      rw[hdim]at hd';injection hd' with hd'
      subst hd';exact .inr ⟨bb,n-a.toNat,z,by simp only[Nat.zero_add],hm,h17,by omega,h12,by simp only;omega⟩
   ·cases h
  ·cases h
 ·cases h
theorem cv4 (hR:gb c)(he:cm c e ea){n:Nat}{x:Operand}(h:bU6 c.S (cl8 c.S n (ev e x)) k=some y):db T (.off n x) ea c.σ (iO c d k y):=by
 have hx:=de he x
 have key: ∀w b o,ea.ev x= .pointer (some ⟨b,o,none⟩)→VRel c w (.pointer (some ⟨b,o+n,none⟩))→k w c.S=some y→db T (.off n x) ea c.σ (iO c d k y):=by
  intro w b o h1 hw hk;exact dh (by simp only[AOp.run,h1]) (iO.same hR hw hk)
 generalize ev e x=xv at*;cases xv<;>simp only[cl8]at h<;>try(cases h;done)
 case ptr q o=>
  cases hl:(aD c.S q).live with
  |false=>rw[hl]at h;cases h
  |true=>
   rw[hl]at h;obtain⟨dd,hdd⟩:=tS hl;cases hx with
   |ptr hk _ hd=>
    obtain⟨b,hm,hp⟩:=hd dd hdd;exact key _ b o hp (.ptr hk rfl fun d' _=>⟨b,hm,rfl⟩) h
 case pix q o m i=>
  cases hl:(aD c.S q).live with
  |false=>rw[hl]at h;cases h
  |true=>
   rw[hl]at h;obtain⟨dd,hdd⟩:=tS hl;cases hx with
   |pix hk h1 hi hd=>
    obtain⟨b,hm,hp⟩:=hd dd hdd;cases hn:Nat.beq n 0 with
    |false=>rw[hn]at h;cases h
    |true=>
     rw[hn]at h;have:=Nat.eq_of_beq_eq_true hn;subst this;exact key _ b (o+i) hp (.pix hk rfl hi fun d' _=>⟨b,hm,rfl⟩) h
 case pel q i o=>
  cases hl:(aD c.S q).live with
  |false=>rw[hl]at h;cases h
  |true=>
   rw[hl]at h;obtain⟨dd,hdd⟩:=tS hl;cases hx with
   |pel hk _ hd=>
    obtain⟨b,hm,hp⟩:=hd dd hdd;refine key _ b _ hp (.pel hk rfl fun d' hd'=>⟨b,hm, ?_⟩) h;rw[hdd]at hd';injection hd' with hd'
    subst hd';rw[Nat.add_assoc]
 case pin s z o=>
  generalize hxa:ea.ev x=xa at hx;cases hx with
  |pin hn hy hl hf=>
   refine key _ _ _ hxa ?_ h;rw[Nat.add_assoc];exact .pin hn hy hl hf
theorem bM4 {es:Nat}{x i:Operand}{b o n cp:Nat}{kd:IntKind}{z:Int}(hx:ea.ev x= .slice (some ⟨b,o,none⟩) n cp)(hi:ea.ev i= .int kd z)(h0:0≤z)(hn:z<n):
  (AOp.idx es x i).run ea c.σ=some (.pointer (some ⟨b,o+z.toNat*es,none⟩),c.σ):=by
 simp only[AOp.run,hx,hi];rw[if_pos ⟨h0,hn⟩]
theorem zj (hR:gb c)(he:cm c e ea){es q o n:Nat}{dm:Nat×Nat}{x i:Operand}{z:Int}{w:VV}{kd:IntKind}(hs:SlR c q o n dm (ea.ev x))(hi:ea.ev i= .int kd z)(h0:0≤z)(hn:z<n)
  (hw: ∀b,c.μ q=some b→VRel c w (.pointer (some ⟨b,o*dm.1+z.toNat*es,none⟩))) (hk:k w c.S=some y):db T (.idx es x i) ea c.σ (iO c d k y):=by
 rcases hs with⟨_,_,h3,_,_⟩|⟨b,cp,x',h1,h2,_⟩
 ·omega
 ·exact dh (bM4 h1 hi h0 hn) (iO.same hR (hw b h2) hk)
theorem ct9 (hR:gb c)(he:cm c e ea){es:Nat}{x i:Operand}(h:ck2 c.S es (ev e x) (ev e i) k=some y):db T (.idx es x i) ea c.σ (iO c d k y):=by
 have hx:=de he x;have hi:=de he i;unfold ck2 at h;split at h
 ·rename_i kd z hz;rw[hz]at hi;have hi:=hi.int_inv;split at h
  ·rename_i s l hv;rw[hv]at hx;obtain⟨h1,h2⟩:=cn h;have h1:=Nat.eq_of_beq_eq_true h1;obtain⟨el,h3,h4⟩:=ce h2;obtain⟨h5,h6,h7⟩:=bO6 h3;generalize hxa:ea.ev x=xa at hx;cases hx with
   |lstn=>simp at h6;omega
   |lst hn hy he' h8 h9 h10 h11=>
    rename_i b p cp blk;subst h1;refine dh (bM4 hxa hi h5 (by rw[h8];exact h6)) (iO.same hR ?_ h4);have h12:z.toNat*s.w+s.w≤l.length*s.w:=by rw[←Nat.succ_mul];exact Nat.mul_le_mul_right _ (by omega)
    have h13:=(h11.drop (z.toNat*s.w)).take s.w;rw[aH9 h7,List.drop_take,List.drop_drop,List.take_take,Nat.min_eq_left (by rw[h8];omega)]at h13;exact VRel.pin (o:=0) hn hy (by rw[h8]at h10;exact Nat.le_trans (Nat.le_of_eq (Nat.add_assoc _ _ _)) (Nat.le_trans (Nat.add_le_add_left h12 _) h10)) h13
  ·rename_i q hv;rw[hv]at hx;cases hx with
   |full hk _ hd=>
    cases hb:aD c.S q with
    |dead=>rw[hb]at h;cases h
    |arr s z' l=>
     rw[hb]at h;obtain⟨h1,h2⟩:=cn h;obtain⟨j,h3,h4⟩:=ce h2;obtain⟨h5,h6,rfl,h7⟩:=ar9 h3;have hdim:(aD c.S q).dim=some (s.w,l.length*s.w):=by rw[hb];rfl
     obtain⟨n,h8,h9⟩:=hd _ hdim;have:n=l.length:=Nat.eq_of_mul_eq_mul_right (pz s) h8;subst this;refine zj hR he h9 hi h5 h6 (fun b hm=> .pel hk rfl fun d' hd'=>⟨b,hm, ?_⟩) h4;rw[hdim]at hd';injection hd' with hd'
     subst hd';rw[Nat.eq_of_beq_eq_true h1];simp
    |cells es' z' l=>
     rw[hb]at h;obtain⟨h1,h2⟩:=cn h;rw[Bool.and_eq_true]at h1;have h11:=Nat.eq_of_beq_eq_true h1.1;have h12:=Nat.le_of_ble_eq_true h1.2;subst h11;obtain⟨j,h3,h4⟩:=ce h2;obtain⟨h5,h6,rfl,h7⟩:=ar9 h3;have hdim:(aD c.S q).dim=some (es,l.length):=by rw[hb];rfl
     obtain⟨n,h8,h9⟩:=hd _ hdim
     have hn:n=l.length / es:=by
      simp only at h8;rw[←h8,Nat.mul_div_cancel _ (by omega)]
     cases he1:Nat.beq es 1 with
     |true=>
      rw[he1]at h4;have he1:=Nat.eq_of_beq_eq_true he1;subst he1;refine zj hR he h9 hi h5 (by rw[hn];exact h6) (fun b hm=> .pix hk rfl (by rw[Nat.div_one]at h7;exact h7) fun d' hd'=>⟨b,hm,by simp⟩) h4
     |false=>
      rw[he1]at h4;refine zj hR he h9 hi h5 (by rw[hn];exact h6) (fun b hm=> .ptr hk rfl fun d' hd'=>⟨b,hm,by simp⟩) h4
  ·rename_i q o n hv;rw[hv]at hx;cases hx with
   |part hk _ hd=>
    cases hb:aD c.S q with
    |dead=>rw[hb]at h;cases h
    |arr s z' l=>
     rw[hb]at h;obtain⟨h1,h2⟩:=cn h;obtain⟨j,h3,h4⟩:=ce h2;obtain⟨h5,h6,rfl,h7⟩:=ar9 h3;have hdim:(aD c.S q).dim=some (s.w,l.length*s.w):=by rw[hb];rfl
     refine zj hR he (hd _ hdim) hi h5 h6 (fun b hm=> .pel hk rfl fun d' hd'=>⟨b,hm, ?_⟩) h4;rw[hdim]at hd';injection hd' with hd'
     subst hd';rw[Nat.eq_of_beq_eq_true h1,Nat.add_mul];simp
    |cells es' z' l=>
     rw[hb]at h;obtain⟨h1,h2⟩:=cn h;rw[Bool.and_eq_true]at h1;have h11:=Nat.eq_of_beq_eq_true h1.1;subst h11;obtain⟨j,h3,h4⟩:=ce h2;obtain⟨h5,h6,rfl,h7⟩:=ar9 h3;have hdim:(aD c.S q).dim=some (es,l.length):=by rw[hb];rfl
     cases he1:Nat.beq es 1 with
     |true=>
      rw[he1]at h4;have he1:=Nat.eq_of_beq_eq_true he1;subst he1;refine zj hR he (hd _ hdim) hi h5 h6 (fun b hm=> .pix hk rfl h7 fun d' hd'=>⟨b,hm,by simp⟩) h4
     |false=>
      rw[he1]at h4;refine zj hR he (hd _ hdim) hi h5 h6 (fun b hm=> .ptr hk rfl fun d' hd'=>⟨b,hm,by simp[Nat.add_mul]⟩) h4
  ·cases h
 ·cases h
theorem ck1 (hR:gb c)(he:cm c e ea){ln es:Nat}{x i:Operand}(h:bM3 c.S ln es (ev e x) (ev e i) k=some y):db T (.idxA ln es x i) ea c.σ (iO c d k y):=by
 have hx:=de he x;have hi:=de he i;unfold bM3 at h;split at h
 ·rename_i q o kd z hv hz;rw[hv]at hx;rw[hz]at hi;have hi:=hi.int_inv;obtain⟨hl,h⟩:=cn h;obtain⟨j,h3,h4⟩:=ce h;obtain⟨h5,h6,rfl,h7⟩:=ar9 h3;cases hx with
  |ptr hk _ hd=>
    obtain⟨dd,hdd⟩:=tS hl;obtain⟨b,hm,hp⟩:=hd dd hdd
    have hrun:(AOp.idxA ln es x i).run ea c.σ=some (.pointer (some ⟨b,o+z.toNat*es,none⟩),c.σ):=by
     simp only[AOp.run,hp,hi];rw[if_pos ⟨h5,h6⟩]
    refine dh hrun ?_;cases he1:Nat.beq es 1 with
    |true=>
     rw[he1]at h4;have he1:=Nat.eq_of_beq_eq_true he1;subst he1;exact iO.same hR (.pix hk rfl h7 fun d' hd'=>⟨b,hm,by simp⟩) h4
    |false=>
     rw[he1]at h4;exact iO.same hR (.ptr hk rfl fun d' hd'=>⟨b,hm,rfl⟩) h4
 ·cases h
end
section
variable {β:Type} {T:ig} {c:Ctx} {e:fa} {ea:dy} {k:VV→cf→Option β} {y:β} {d:List Nat}
theorem zn : ∀{z:List Value} {s:Sh},aM4 z=some s→F2 (VRel c) (fe s (tU s)) z
 |[],s,h=>by simp[aM4]at h
 |v::r,s,h=>by
  unfold aM4 at h;split at h
  ·rename_i h0;injection h0 with h1 h2
   subst h1;subst h2;injection h with h;subst h
   exact .cons (.int _ _) .nil
  ·rename_i h0;injection h0 with h1 h2
   subst h1;subst h2;injection h with h;subst h
   exact .cons (.bool _) .nil
  ·rename_i h0;injection h0 with h1 h2
   subst h1;subst h2;obtain⟨s',h3,h4⟩:=ce h;injection h4 with h4;subst h4
   exact .cons (.int _ _) (zn h3)
  ·rename_i h0;injection h0 with h1 h2
   subst h1;subst h2;obtain⟨s',h3,h4⟩:=ce h;injection h4 with h4;subst h4
   exact .cons (.bool _) (zn h3)
  ·cases h
theorem sy {s:Sh}{x:El s}: ∀n,gr s (List.replicate n x)=(List.replicate n (fe s x)).flatten
 |0=>rfl
 |n+1=>by rw[List.replicate_succ,iy,sy n,List.replicate_succ,List.flatten_cons]
theorem bj3 (z:List Value)(m n:Nat):fD z (m+n)=fD z m++fD z n:=by
 simp only[fD];rw[←List.replicate_append_replicate,List.flatten_append]
theorem bj4 (z:List Value)(n:Nat):(fD z n).length=n*z.length:=by
 simp[fD,List.length_flatten,List.map_replicate]
theorem ck9 (hR:gb c)(he:cm c e ea){es bytes:Nat}{z:List Value}{l m:Operand}(h:cb3 c.S es bytes z (ev e l) (ev e m) k=some y):db T (.makeSlice es bytes z l m) ea c.σ (iO c d k y):=by
 have hl:=de he l;have hm:=de he m;unfold cb3 at h;split at h
 ·rename_i k1 a k2 b s h1 h2 hs;rw[h1]at hl;rw[h2]at hm;obtain⟨hg,hk⟩:=cn h;simp only[Bool.and_eq_true]at hg;obtain⟨⟨⟨⟨g1,g2⟩,g3⟩,g4⟩,g5⟩:=hg;have g1:=Nat.eq_of_beq_eq_true g1;have g2:=of_decide_eq_true g2;have g3:=of_decide_eq_true g3;have g4:=of_decide_eq_true g4;have g5:=Nat.le_of_ble_eq_true g5;have hz:=zn (c:=c) hs;have hzl:z.length=s.w:=by rw[←hz.length,fp]
  have hb:b≤bytes*b:=by
   have:(1:Int)*b≤bytes*b:=Int.mul_le_mul_of_nonneg_right (by omega) (by omega);omega
  refine dh (v:= .slice (some ⟨c.σ.n,0,none⟩) a.toNat b.toNat) (σ':=c.σ.add ⟨fD z b.toNat,true,es⟩) ?_ ?_
  ·simp only[AOp.run,hl.int_inv,hm.int_inv];rw[if_pos ⟨g2,g3,by omega,by omega⟩]
  ·have hab:fD z b.toNat=fD z a.toNat++fD z (b.toNat-a.toNat):=by rw[←bj3];congr 1;omega
   have hrel:F2 (VRel c) (gr s (List.replicate a.toNat (tU s))) (fD z a.toNat):=by
    rw[sy];clear hab;generalize a.toNat=n;induction n with
    |zero=>exact .nil
    |succ n ih=>
     simp only[fD,List.replicate_succ,List.flatten_cons]at ih⊢;exact hz.append ih
   have hmv:Moves c none (some c.σ.n) (.arr s false (List.replicate a.toNat (tU s))) (c.σ.add ⟨fD z b.toNat,true,es⟩):=by
    refine⟨(fun b h _ hb=>by injection h with h;subst h;exact Nat.lt_irrefl _ (hR.fbl _ hb)),(fun _ h=>by cases h),fun q x hx=> ?_,Nat.le_succ _,fun i x hx _=> ?_,(s.w,(List.replicate a.toNat (tU s)).length*s.w),rfl,pz s, .inr ⟨c.σ.n,⟨fD z b.toNat,true,es⟩,fD z a.toNat,fD z (b.toNat-a.toNat),rfl,if_pos rfl,g1,fun _=>rfl,hab,hrel, .inl fun w hw=> ?_⟩⟩
    ·simp only[Hp.add]at hx⊢;split at hx
     ·omega
     ·have:=hR.ok q x hx;omega
    ·have:=hR.ok i x hx;simp only[Hp.add];rw[if_neg (by omega)];exact hx
    ·have:=hR.ok _ _ hw;omega
   refine iO.new (kill:=none) hR hmv (fun _ h=>by cases h) (vo (dm:=(s.w,(List.replicate a.toNat (tU s)).length*s.w)) (n:=a.toNat) (m:=b.toNat) (yb:=⟨fD z b.toNat,true,es⟩) rfl (by simp) (by omega) (if_pos rfl) ?_) hk;rw[bj4,hzl];exact Nat.le_refl _
 ·cases h
def More.cellsOf :More→List VV
 | .cells l=>l
 | .lst s l=>gr s l
theorem aY1 {x:Ab.Blk}{o n m:Nat}(h:o+n≤x.cells.length)(hm:m≤n):rB x o m=some (((x.cells.drop o).take n).take m):=by
 unfold rB;rw[if_pos (by omega),List.take_take,Nat.min_eq_left hm]
theorem as3 (hR:gb c){q o n es:Nat}{dm:Nat×Nat}{a:Value}(hd:(aD c.S q).dim=some dm)(he:dm.1=es)(hs:SlR c q o n dm a):
  ∃all,ai5 a=some n∧(∀m,m≤n→c.σ.slice es a m=some (all.take (m*es)))∧all.length=n*es∧F2 (VRel c) (((aD c.S q).vals.drop (o*es)).take (n*es)) all:=by
 subst he;rcases hs with⟨rfl,rfl,rfl,hm,hz⟩|⟨b,cp,x,rfl,hm,h3,h4,hx,h5⟩
 ·refine⟨[],rfl,fun m hm'=> ?_,by simp,by simp;exact .nil⟩;have:m=0:=by omega
  subst this;simp[Hp.slice]
 ·obtain⟨y0,cs,rest,h6,_,_,h7,h8⟩:=hR.block hd hm;rw[hx]at h6;injection h6 with h6
  subst h6;have hl:=h8.length
  have hvl:(aD c.S q).vals.length=dm.2:=by
   generalize aD c.S q=blk at hd;cases blk with
   |dead=>cases hd
   |cells es z l=>injection hd with hd;subst hd;rfl
   |arr s z l=>injection hd with hd;subst hd;exact iF
  rw[Nat.add_mul]at h3;have h9:((cs.drop (o*dm.1)).take (n*dm.1)).length=n*dm.1:=by rw[List.length_take,List.length_drop];omega
  refine⟨(cs.drop (o*dm.1)).take (n*dm.1),rfl,fun m hm'=> ?_,h9,(h8.drop _).take _⟩;have h10:m*dm.1≤n*dm.1:=Nat.mul_le_mul_right _ hm';by_cases hm0:m=0
  ·subst hm0;simp[Hp.slice]
  simp only[Hp.slice,hx,if_neg hm0];rw[aY1 (n:=n*dm.1) (by rw[h7,List.length_append];omega) h10,h7,List.drop_append_of_le_length (by omega),List.take_append_of_le_length (l₁:=cs.drop (o*dm.1)) (by rw[List.length_drop];omega)]
theorem uy (hR:gb c){es:Nat}{v:VV}{a:Value}{m:More}(h:iZ c.S es v=some m)(hv:VRel c v a):
  ∃n all,ai5 a=some n∧(∀i,i≤n→c.σ.slice es a i=some (all.take (i*es)))∧all.length=n*es∧F2 (VRel c) m.cellsOf all∧(∀s l,m= .lst s l→es=s.w∧n=l.length):=by
 cases v<;>simp only[iZ]at h<;>try(cases h;done)
 case nils=>
  injection h with h;subst h
  cases hv;refine⟨0,[],rfl,fun i hi=> ?_,by simp, .nil,fun s l h=>by cases h⟩;have:i=0:=by omega
  subst this;simp[Hp.slice]
 case str l=>
  cases he:Nat.beq es 1 with
  |false=>rw[he]at h;cases h
  |true=>
   rw[he]at h;have he:=Nat.eq_of_beq_eq_true he;subst he;injection h with h;subst h
   obtain⟨s,rfl,rfl⟩:=hv.str_inv;refine⟨s.size,s.data.toList.map fun b=> .int .u8 b.toNat,rfl,fun i hi=> ?_,by simp, ?_,fun s' l h=> ?_⟩
   ·simp only[Hp.slice,if_true,Nat.mul_one];simp[ByteArray.data_extract,Array.toList_extract,List.extract_eq_take_drop,List.map_take]
   ·simp only[More.cellsOf,ei,gr];generalize s.data.toList=l;induction l with
    |nil=>exact .nil
    |cons b l ih=>exact .cons (.int _ _) ih
   ·injection h with h1 h2
    subst h1;cases h2;exact⟨rfl,(sW s).symm⟩
 case lst s l=>
  cases he:Nat.beq es s.w with
  |false=>rw[he]at h;cases h
  |true=>
   rw[he]at h;have he:=Nat.eq_of_beq_eq_true he;subst he;injection h with h;subst h
   refine⟨l.length, ?_⟩;rcases hv.listAt with⟨qq,rfl,rfl,hqq⟩|⟨b,p,cp,x,rfl,h1,h2,h3,h4,h5⟩
   ·refine⟨[],rfl,fun i hi=> ?_,by simp, .nil,fun s' l h=>by injection h with h1 h2;subst h1;cases h2;exact⟨rfl,rfl⟩⟩;have:i=0:=by simp at hi;exact hi
    subst this;cases qq with
    |none=>simp[Hp.slice]
    |some z=>
     have:=hqq z rfl;obtain⟨zb,zo,zs⟩:=z;simp only at this;subst this;simp[Hp.slice]
   ·refine⟨(x.cells.drop p).take (l.length*s.w),rfl,fun i hi=> ?_,by rw[←h5.length,iF],h5,fun s' l' h=>by injection h with h1 h2;subst h1;cases h2;exact⟨rfl,rfl⟩⟩;by_cases hi0:i=0
    ·subst hi0;simp[Hp.slice]
    simp only[Hp.slice,h1,if_neg hi0];exact aY1 h4 (Nat.mul_le_mul_right _ hi)
 case full q=>
  cases hv with
  |full hk _ hd=>
   cases hb:aD c.S q with
   |dead=>rw[hb]at h;cases h
   |arr s z l=>
    rw[hb]at h;cases he:Nat.beq es s.w with
    |false=>simp only[he]at h;cases h
    |true=>
     simp only[he]at h;have he:=Nat.eq_of_beq_eq_true he;subst he;injection h with h;subst h
     have hdim:(aD c.S q).dim=some (s.w,l.length*s.w):=by rw[hb];rfl
     obtain⟨n,h1,h2⟩:=hd _ hdim;have:n=l.length:=Nat.eq_of_mul_eq_mul_right (pz s) h1;subst this;obtain⟨all,h3,h4,h5,h6⟩:=as3 hR hdim rfl h2;rw[hb,Nat.zero_mul,List.drop_zero,List.take_of_length_le (by simp[Blk.vals,iF])]at h6;exact⟨_,all,h3,h4,h5,h6,fun s' l' h=>by injection h with h1 h2;subst h1;cases h2;exact⟨rfl,rfl⟩⟩
   |cells es' z l=>
    rw[hb]at h;cases he:(Nat.beq es es'&&Nat.ble 1 es)with
    |false=>simp only[he]at h;cases h
    |true=>
     simp only[he]at h;rw[Bool.and_eq_true]at he;have he1:=Nat.eq_of_beq_eq_true he.1;subst he1;injection h with h;subst h
     have hdim:(aD c.S q).dim=some (es,l.length):=by rw[hb];rfl
     obtain⟨n,h1,h2⟩:=hd _ hdim;obtain⟨all,h3,h4,h5,h6⟩:=as3 hR hdim rfl h2;simp only at h1;rw[hb,Nat.zero_mul,List.drop_zero,h1,List.take_of_length_le (by exact Nat.le_refl _)]at h6;exact⟨_,all,h3,h4,h5,h6,fun s' l' h=>by cases h⟩
 case part q o n=>
  cases hv with
  |part hk _ hd=>
   cases hb:aD c.S q with
   |dead=>rw[hb]at h;cases h
   |arr s z l=>
    rw[hb]at h;cases he:Nat.beq es s.w with
    |false=>simp only[he]at h;cases h
    |true=>
     simp only[he]at h;have he:=Nat.eq_of_beq_eq_true he;subst he;injection h with h;subst h
     have hdim:(aD c.S q).dim=some (s.w,l.length*s.w):=by rw[hb];rfl
     have h2:=hd _ hdim;obtain⟨all,h3,h4,h5,h6⟩:=as3 hR hdim rfl h2;rw[hb]at h6;simp only[Blk.vals]at h6;rw[←xl,←me]at h6
     have h7:n=((l.drop o).take n).length:=by
      have:=h6.length;rw[iF,h5]at this;exact(Nat.eq_of_mul_eq_mul_right (pz s) this).symm
     exact⟨_,all,h3,h4,h5,h6,fun s' l' h=>by injection h with h1 h2;subst h1;cases h2;exact⟨rfl,h7⟩⟩
   |cells es' z l=>
    rw[hb]at h;cases he:(Nat.beq es es'&&Nat.ble 1 es)with
    |false=>simp only[he]at h;cases h
    |true=>
     simp only[he]at h;rw[Bool.and_eq_true]at he;have he1:=Nat.eq_of_beq_eq_true he.1;subst he1;injection h with h;subst h
     have hdim:(aD c.S q).dim=some (es,l.length):=by rw[hb];rfl
     have h2:=hd _ hdim;obtain⟨all,h3,h4,h5,h6⟩:=as3 hR hdim rfl h2;rw[hb]at h6;exact⟨_,all,h3,h4,h5,h6,fun s' l' h=>by cases h⟩
def Base.cellsOf :Base→List VV
 | .none=>[]
 | .cells _ l=>l
 | .arr s l=>gr s l
structure BaseAt (c:Ctx)(es sl:Nat)(base:Base)(kill:Option Nat)(a:Value):Prop where
 no:kill=none→a= .slice none 0 0∧sl=0∧base= .none
 yes: ∀q,kill=some q→∃dm,(aD c.S q).dim=some dm∧dm.1=es∧(aD c.S q).frozen=false∧SlR c q 0 sl dm a∧base.cellsOf=(aD c.S q).vals.take (sl*es)
 es: ∀e l,base= .cells e l→e=es∧1≤es
theorem ab6 {blk:Blk}{dm:Nat×Nat}(h:blk.dim=some dm):blk.vals.length=dm.2:=by
 cases blk with
 |dead=>cases h
 |cells es z l=>injection h with h;subst h;rfl
 |arr s z l=>injection h with h;subst h;exact iF
theorem bQ7 {es:Nat}{v:VV}{a:Value}{base:Base}{kill:Option Nat}(hR:gb c)(h:yE c.S es v=some (base,kill))(hv:VRel c v a): ∃sl,BaseAt c es sl base kill a∧base.cellsOf.length=sl*es∧(∀s l,base= .arr s l→es=s.w∧sl=l.length):=by
 cases v<;>try(cases h;done)
 case nils=>
  simp only[yE]at h;injection h with h
  injection h with h1 h2
  subst h1;subst h2;cases hv;exact⟨0,⟨fun _=>⟨rfl,rfl,rfl⟩,(fun q h=>by cases h),(fun e l h=>by cases h)⟩,by simp[Base.cellsOf],fun s l h=>by cases h⟩
 case full q=>
  simp only[yE]at h;cases hv with
  |full hk _ hd=>
   cases hb:aD c.S q with
   |dead=>rw[hb]at h;cases h
   |arr s z l=>
    rw[hb]at h;cases z with
    |true=>cases h
    |false=>
     simp only at h;cases he:Nat.beq es s.w with
     |false=>rw[he]at h;cases h
     |true=>
      rw[he]at h;have he:=Nat.eq_of_beq_eq_true he;subst he;injection h with h
      injection h with h1 h2
      subst h1;subst h2;have hdim:(aD c.S q).dim=some (s.w,l.length*s.w):=by rw[hb];rfl
      obtain⟨n,h1,h2⟩:=hd _ hdim;have:n=l.length:=Nat.eq_of_mul_eq_mul_right (pz s) h1;subst this;refine⟨l.length,⟨(fun h=>by cases h),fun q' h=> ?_,(fun e l h=>by cases h)⟩,iF,fun s' l' h=>by injection h with h1 h2;subst h1;cases h2;exact⟨rfl,rfl⟩⟩;injection h with h
      subst h;refine⟨_,hdim,rfl,by rw[hb];rfl,h2, ?_⟩;rw[hb];exact(List.take_of_length_le (by rw[show(Base.arr s l).cellsOf=gr s l from rfl,iF];exact Nat.le_refl _)).symm
   |cells es' z l=>
    rw[hb]at h;cases z with
    |true=>cases h
    |false=>
     simp only at h;cases he:(Nat.beq es es'&&Nat.ble 1 es)with
     |false=>rw[he]at h;cases h
     |true=>
      rw[he]at h;rw[Bool.and_eq_true]at he;have he1:=Nat.eq_of_beq_eq_true he.1;subst he1;injection h with h
      injection h with h1 h2
      subst h1;subst h2;have hdim:(aD c.S q).dim=some (es,l.length):=by rw[hb];rfl
      obtain⟨n,h1,h2⟩:=hd _ hdim;simp only at h1;refine⟨n,⟨(fun h=>by cases h),fun q' h=> ?_,fun e l h=>by injection h with h1 h2;exact⟨h1.symm,Nat.le_of_ble_eq_true he.2⟩⟩,h1.symm,fun s' l' h=>by cases h⟩;injection h with h
      subst h;refine⟨_,hdim,rfl,by rw[hb];rfl,h2, ?_⟩;rw[hb,h1];exact(List.take_of_length_le (Nat.le_refl _)).symm
 case part q lo n=>
  cases lo with
  |succ lo=>cases h
  |zero=>
   simp only[yE]at h;cases hv with
   |part hk _ hd=>
    cases hb:aD c.S q with
    |dead=>rw[hb]at h;cases h
    |arr s z l=>
     rw[hb]at h;cases z with
     |true=>cases h
     |false=>
      simp only at h;cases he:Nat.beq es s.w with
      |false=>rw[he]at h;cases h
      |true=>
       rw[he]at h;have he:=Nat.eq_of_beq_eq_true he;subst he;injection h with h
       injection h with h1 h2
       subst h1;subst h2;have hdim:(aD c.S q).dim=some (s.w,l.length*s.w):=by rw[hb];rfl
       have h2:=hd _ hdim
       have hn:n≤l.length:=by
        rcases h2 with⟨_,_,h3,_,_⟩|⟨b,cp,x,_,_,h3,_⟩
        ·omega
        ·rw[Nat.zero_add]at h3;exact Nat.le_of_mul_le_mul_right h3 (pz s)
       have hlen:(l.take n).length=n:=by rw[List.length_take];omega
       refine⟨n,⟨(fun h=>by cases h),fun q' h=> ?_,(fun e l h=>by cases h)⟩,by simp only[Base.cellsOf];rw[iF,hlen],fun s' l' h=>by injection h with h1 h2;subst h1;cases h2;exact⟨rfl,hlen.symm⟩⟩;injection h with h
       subst h;refine⟨_,hdim,rfl,by rw[hb];rfl,h2, ?_⟩;rw[hb];exact me
    |cells es' z l=>
     rw[hb]at h;cases z with
     |true=>cases h
     |false=>
      simp only at h;cases he:(Nat.beq es es'&&Nat.ble 1 es)with
      |false=>rw[he]at h;cases h
      |true=>
       rw[he]at h;rw[Bool.and_eq_true]at he;have he1:=Nat.eq_of_beq_eq_true he.1;subst he1;injection h with h
       injection h with h1 h2
       subst h1;subst h2;have hdim:(aD c.S q).dim=some (es,l.length):=by rw[hb];rfl
       have h2:=hd _ hdim
       have hn:n*es≤l.length:=by
        rcases h2 with⟨_,_,h3,_,_⟩|⟨b,cp,x,_,_,h3,_⟩
        ·subst h3;simp
        ·rwa [Nat.zero_add]at h3
       refine⟨n,⟨(fun h=>by cases h),fun q' h=> ?_,fun e l h=>by injection h with h1 h2;exact⟨h1.symm,Nat.le_of_ble_eq_true he.2⟩⟩,by simp only[Base.cellsOf];rw[List.length_take];omega,fun s' l' h=>by cases h⟩;injection h with h
       subst h;exact⟨_,hdim,rfl,by rw[hb];rfl,h2,by rw[hb];rfl⟩
theorem cf2 {vs cs:List Value}(h:cs.length=vs.length):mg cs 0 vs=vs:=by
 induction vs generalizing cs with
 |nil=>simp only[mg];exact List.length_eq_zero_iff.1 h
 |cons v vs ih=>
  cases cs with
  |nil=>simp at h
  |cons a cs=>
   have h1:cs.length=vs.length:=by simpa using h
   show mg ((a::cs).set 0 v) (0+1) vs=_;have h2:=xu vs [v] cs 0;simp only[List.length_cons,List.length_nil,List.singleton_append,Nat.zero_add]at h2;rw[List.set_cons_zero,h2,ih h1]
theorem br7 {vs cs:List Value}{p:Nat}(h:p+vs.length≤cs.length):mg cs p vs=cs.take p++(vs++cs.drop (p+vs.length)):=by
 have:=aZ8 (vs:=vs) (cs:=cs) (p:=p) (o:=0) (w:=vs.length) (by omega) h;rw[Nat.add_zero,cf2 (by rw[List.length_take,List.length_drop];omega)]at this;exact this
theorem bn6 {σ:Hp}{x z:Ab.Blk}{b i:Nat}(h:((σ.set b none).add x).m i=some z):i=σ.n∨(i≠b∧σ.m i=some z):=by
 by_cases h1:i=σ.n
 ·exact .inl h1
 ·refine .inr ?_;have h2:((σ.set b none).add x).m i=(σ.set b none).m i:=if_neg h1;rw[h2]at h;by_cases h3:i=b
  ·have h4:(σ.set b none).m i=none:=if_pos h3;rw[h4]at h;cases h
  ·have h4:(σ.set b none).m i=σ.m i:=if_neg h3;exact⟨h3,h4▸h⟩
theorem bu9 {σ:Hp}{x:Ab.Blk}{b i:Nat}(h1:i≠σ.n)(h3:i≠b):((σ.set b none).add x).m i=σ.m i:=by
 have h2:((σ.set b none).add x).m i=(σ.set b none).m i:=if_neg h1;have h4:(σ.set b none).m i=σ.m i:=if_neg h3;exact h2.trans h4
structure Grown (c:Ctx)(base more:List VV)(es n:Nat)(blk:Blk):Prop where
 dim:blk.dim=some (es,n*es)
 fz:blk.frozen=false
 rel: ∀bs ms,F2 (VRel c) base bs→F2 (VRel c) more ms→F2 (VRel c) blk.vals (bs++ms)
theorem sT {c1:Ctx}{es bytes sl n:Nat}{base:Base}{kill:Option Nat}{more:List VV}{blk:Blk}{s:Operand}{op:AOp}{all:List Value}(hR:gb c1)(hS:tW c.S c1.S)(hμ:c1.μ=c.μ)(hσ:c1.σ=c.σ)(hle:Le c c1)(hcalm:uM d c c1)
  (he1:1≤es) (hb:BaseAt c es sl base kill (ea.ev s)) (hkz: ∀q,kill=some q→(aD c1.S q).frozen=false)
  (hop: ∀a sl' sc,ea.ev s= .slice a sl' sc→op.run ea c.σ=pq es bytes c.σ a sl' sc n all) (h3:all.length=n*es) (h4:F2 (VRel c1) more all) (h5:all.all one=true) (hg:Grown c1 base.cellsOf more es (sl+n) blk)
  (hf:od (sl+n) bytes=true) (hd: ∀q,kill=some q→q∈d) (hk:k (.full c1.S.length) (rz c1.S kill++[blk])=some y):db T op ea c.σ (iO c d k y):=by
 have hfit:(sl+n)*bytes≤140737488355328∧sl+n≤9223372036854775807:=by
  unfold od at hf;rw[Bool.and_eq_true]at hf;have g1:=of_decide_eq_true hf.1;have g2:=Nat.le_of_ble_eq_true hf.2;refine⟨g1, ?_⟩;have:(sl+n)*1≤(sl+n)*bytes:=Nat.mul_le_mul_left _ g2;omega
 have hnew:all=[]→n=0:=by
  intro h;subst h;simp only[List.length_nil]at h3;rcases Nat.eq_zero_or_pos n with h|h
  ·exact h
  ·have:=Nat.mul_pos h he1;omega
 have fin: ∀{v:Value} {σ':Hp} {b1:Option Nat},Moves c1 kill b1 blk σ'→VRel ⟨um c1 b1,rz c1.S kill++[blk],σ',c1.fb⟩ (.full c1.S.length) v→iO c d k y v σ':=by
  intro v σ' b1 hm hv;exact⟨_,_,rfl,hle.trans (hm.le hR),hm.rel hR,hcalm.trans (hm.calm hR hd) hle,hv,hk⟩
 cases kill with
 |none=>
  obtain⟨e1,e2,e3⟩:=hb.no rfl;subst e2;subst e3;by_cases hn:n=0
  ·subst hn;have:all=[]:=by simpa using h3
   subst this;have hmv:Moves c1 none none blk c1.σ:=⟨(fun _ h=>by cases h),(fun _ h=>by cases h),hR.ok,Nat.le_refl _,fun _ _ h _=>h,_,hg.dim,he1, .inl ⟨rfl,by simp⟩⟩;refine dh (v:= .slice none 0 0) (σ':=c.σ) ?_ ?_
   ·rw[hop _ _ _ e1];unfold pq;rw[if_pos (by simp)];simp
   ·rw[←hσ];refine fin hmv (.full (by simp[rz]) rfl fun d' hd'=> ?_);simp only[lq,if_true]at hd';rw[hg.dim]at hd';injection hd' with hd'
    subst hd';exact⟨0,by simp, .inl ⟨rfl,rfl,rfl,by simp[um],by simp⟩⟩
  ·have hmv:=bv0 hR (blk:=blk) (x:=⟨all,true,es⟩) hg.dim he1 rfl rfl (by have:=hg.rel [] all .nil h4;simpa using this);refine dh (v:= .slice (some ⟨c.σ.n,0,none⟩) n n) (σ':=c.σ.add ⟨all,true,es⟩) ?_ ?_
   ·rw[hop _ _ _ e1];unfold pq;rw[if_neg (by omega),if_pos ⟨hfit.1,hfit.2,h5⟩];simp
   ·rw[←hσ];refine fin hmv (vo (yb:=⟨all,true,es⟩) hg.dim (by simp) (Nat.le_refl _) (if_pos rfl) ?_);show n*es≤all.length;omega
 |some q=>
  obtain⟨dm,g1,g2,g3,g4,g5⟩:=hb.yes q rfl;subst g2;have hdim1:(aD c1.S q).dim=some dm:=by rw[hS.dim];exact g1
  have hvals1:(aD c1.S q).vals=(aD c.S q).vals:=hS.vals q;rcases g4 with⟨e1,_,e2,e3,e4⟩|⟨b,cp,yb,e1,e3,e4,e5,e6,e7⟩
  ·subst e2;have hbase:base.cellsOf=[]:=by rw[g5];simp
   by_cases hn:n=0
   ·subst hn;have:all=[]:=by simpa using h3
    subst this;have hmv:Moves c1 (some q) none blk c1.σ:=⟨(fun _ h=>by cases h),(fun _ h=>by injection h with h;subst h;exact hkz q rfl),hR.ok,Nat.le_refl _,fun _ _ h _=>h,_,hg.dim,he1, .inl ⟨rfl,by simp⟩⟩;refine dh (v:= .slice none 0 0) (σ':=c.σ) ?_ ?_
    ·rw[hop _ _ _ e1];unfold pq;rw[if_pos (by simp)];simp
    ·rw[←hσ];refine fin hmv (.full (by simp[wI]) rfl fun d' hd'=> ?_);simp only[lq,if_true]at hd';rw[hg.dim]at hd';injection hd' with hd'
     subst hd';exact⟨0,by simp, .inl ⟨rfl,rfl,rfl,by simp[um],by simp⟩⟩
   ·have hmv:Moves c1 (some q) (some c1.σ.n) blk (c1.σ.add ⟨all,true,dm.1⟩):=by
     have h0:=bv0 hR (blk:=blk) (x:=⟨all,true,dm.1⟩) hg.dim he1 rfl rfl (by have:=hg.rel [] all (by rw[hbase];exact .nil) h4;simpa using this);refine⟨h0.fr,(fun _ h=>by injection h with h;subst h;exact hkz q rfl),h0.ok,h0.n,fun i z hz _=>h0.old i z hz (fun⟨_,h,_⟩=>by cases h), ?_⟩;obtain⟨dd,k1,k2,k3⟩:=h0.one;refine⟨dd,k1,k2, ?_⟩;rcases k3 with k3|⟨b',y',cs,rest,k3,k4,k5,k6,k7,k8,k9⟩
     ·exact .inl k3
     ·refine .inr ⟨b',y',cs,rest,k3,k4,k5,k6,k7,k8, .inl ?_⟩;rcases k9 with k9|⟨_,k9,_⟩
      ·exact k9
      ·cases k9
    refine dh (v:= .slice (some ⟨c.σ.n,0,none⟩) n n) (σ':=c.σ.add ⟨all,true,dm.1⟩) ?_ ?_
    ·rw[hop _ _ _ e1];unfold pq;rw[if_neg (by omega),if_pos ⟨hfit.1,hfit.2,h5⟩];simp
    ·rw[←hσ];refine fin hmv (vo (yb:=⟨all,true,dm.1⟩) hg.dim (by simp) (Nat.le_refl _) (if_pos rfl) ?_);show n*dm.1≤all.length;omega
  ·rw[Nat.zero_mul]at e1;rw[Nat.zero_add]at e4 e7;have e3':c1.μ q=some b:=by rw[hμ];exact e3
   obtain⟨yb',cs,rest,f1,f2,f3,f4,f5⟩:=hR.block hdim1 e3';rw[hσ]at f1;rw[e6]at f1;injection f1 with f1
   subst f1;have hown:=f3 (hkz q rfl);have hcl:cs.length=dm.2:=by rw[←f5.length];exact ab6 hdim1
   have hbs:F2 (VRel c1) base.cellsOf (cs.take (sl*dm.1)):=by rw[g5,←hvals1];exact f5.take _
   have hrel:=hg.rel _ _ hbs h4;have hytake:yb.cells.take (sl*dm.1)=cs.take (sl*dm.1):=by rw[f4,List.take_append_of_le_length (by omega)]
   have hcp:sl*dm.1≤cp*dm.1:=Nat.mul_le_mul_right _ e5;by_cases hroom:sl+n≤cp
   ·have hroom':sl*dm.1+n*dm.1≤cp*dm.1:=by rw[←Nat.add_mul];exact Nat.mul_le_mul_right _ hroom
    have hset:mg yb.cells (sl*dm.1) all=cs.take (sl*dm.1)++(all++yb.cells.drop (sl*dm.1+all.length)):=by rw[br7 (by omega),hytake]
    have mk: ∀σ':Hp,σ'.Ok→σ'.n=c1.σ.n→(∀i,i≠b→σ'.m i=c1.σ.m i)→σ'.m b=some ⟨mg yb.cells (sl*dm.1) all,true,yb.es⟩→Moves c1 (some q) (some b) blk σ':=by
     intro σ' ho hn hm hb';refine⟨(fun b' h hz _=>by injection h with h;subst h;exact hz _ (by rw[hσ];exact e6)),(fun _ h=>by injection h with h;subst h;exact hkz q rfl),ho,by omega,fun i z hz hK=> ?_,(dm.1,(sl+n)*dm.1),hg.dim,he1, .inr ⟨b,_,cs.take (sl*dm.1)++all,yb.cells.drop (sl*dm.1+all.length),rfl,hb',f2,fun _=>rfl,by show mg _ _ _=_;rw[hset,List.append_assoc],hrel, .inr ⟨q,rfl,e3'⟩⟩⟩;have:i≠b:=by rintro rfl;exact hK ⟨q,rfl,e3'⟩
     rw[hm i this];exact hz
    have hfull: ∀σ':Hp,σ'.m b=some ⟨mg yb.cells (sl*dm.1) all,true,yb.es⟩→VRel ⟨um c1 (some b),rz c1.S (some q)++[blk],σ',c1.fb⟩ (.full c1.S.length) (.slice (some ⟨b,0,none⟩) (sl+n) cp):=by
     intro σ' hb';refine vo hg.dim rfl hroom hb' ?_;show cp*dm.1≤(mg yb.cells (sl*dm.1) all).length;rw[zl];exact e7
    by_cases hn:all=[]
    ·have hself:yb=⟨mg yb.cells (sl*dm.1) all,true,yb.es⟩:=by
      subst hn;cases yb;simp only[mg]at*;simp[hown]
     refine dh (v:= .slice (some ⟨b,0,none⟩) (sl+n) cp) (σ':=c.σ) ?_ ?_
     ·rw[hop _ _ _ e1];unfold pq;rw[if_pos hroom];simp[hn]
     ·rw[←hσ];have e6':c1.σ.m b=some ⟨mg yb.cells (sl*dm.1) all,true,yb.es⟩:=by rw[←hself,hσ];exact e6
      exact fin (mk c1.σ hR.ok rfl (fun _ _=>rfl) e6') (hfull _ e6')
    ·refine dh (v:= .slice (some ⟨b,0,none⟩) (sl+n) cp) (σ':=c.σ.set b (some ⟨mg yb.cells (sl*dm.1) all,true,yb.es⟩)) ?_ ?_
     ·rw[hop _ _ _ e1];unfold pq;rw[if_pos hroom];simp only[hn,if_false,e6,Nat.zero_add];rw[at3 hown (by omega) h5]
     ·rw[←hσ];refine fin (mk _ (fun i z hz=> ?_) rfl (fun i hi=>by simp[Hp.set,hi]) (by simp[Hp.set])) (hfull _ (by simp[Hp.set]));simp only[Hp.set]at hz;split at hz
      ·rename_i e;subst e;exact hR.ok _ _ (by rw[hσ];exact e6)
      ·exact hR.ok _ _ hz
   ·have hmv:Moves c1 (some q) (some c1.σ.n) blk ((c1.σ.set b none).add ⟨cs.take (sl*dm.1)++all,true,dm.1⟩):=by
     refine⟨(fun b h _ hb=>by injection h with h;subst h;exact Nat.lt_irrefl _ (hR.fbl _ hb)),(fun _ h=>by injection h with h;subst h;exact hkz q rfl),fun i z hz=> ?_,Nat.le_succ _,fun i z hz hK=> ?_,(dm.1,(sl+n)*dm.1),hg.dim,he1, .inr ⟨c1.σ.n,_,cs.take (sl*dm.1)++all,[],rfl,if_pos rfl,rfl,fun _=>rfl,by simp,hrel, .inl fun z hz=> ?_⟩⟩
     ·show i<c1.σ.n+1;rcases bn6 hz with h0|⟨_,h0⟩
      ·omega
      ·have:=hR.ok i z h0;omega
     ·have h0:i≠b:=by rintro rfl;exact hK ⟨q,rfl,e3'⟩
      have h9:=hR.ok i z hz;rw[bu9 (by omega) h0];exact hz
     ·have:=hR.ok _ _ hz;omega
    refine dh (v:= .slice (some ⟨c.σ.n,0,none⟩) (sl+n) (sl+n)) (σ':=(c.σ.set b none).add ⟨cs.take (sl*dm.1)++all,true,dm.1⟩) ?_ ?_
    ·rw[hop _ _ _ e1];unfold pq;rw[if_neg hroom,if_pos ⟨hfit.1,hfit.2,h5⟩];simp only[e6];rw[if_pos ⟨hown,f2⟩]
     have:rB yb 0 (sl*dm.1)=some (cs.take (sl*dm.1)):=by
      unfold rB;rw[if_pos (by omega),List.drop_zero,hytake]
     rw[this]
    ·rw[←hσ];refine fin hmv (vo (yb:=⟨cs.take (sl*dm.1)++all,true,dm.1⟩) hg.dim rfl (Nat.le_refl _) (if_pos rfl) ?_);show(sl+n)*dm.1≤(cs.take (sl*dm.1)++all).length;rw[List.length_append,List.length_take,Nat.add_mul];omega
theorem aJ8 {S:cf}{s:Sh}{cs:List VV}{l:List (El s)}{c1:Ctx}(hR:gb c1)(hS:c1.S=S)(h:bP5 S s cs=some l):cs.length=l.length*s.w∧∀as,F2 (VRel c1) cs as→F2 (VRel c1) (gr s l) as:=by
 subst hS;exact aH1 (lm hR s) _ _ _ h
theorem aT2 (hR:gb c)(he:cm c e ea){es bytes:Nat}{s:Operand}{op:AOp}{mo:Option More}(hd: ∀q,vh (ev e s)=some q→q∈d)(h:aP3 c.S es bytes (yE c.S es (ev e s)) mo k=some y)
  (hm: ∀m,mo=some m→∃n all,(∀a sl' sc,ea.ev s= .slice a sl' sc→op.run ea c.σ=pq es bytes c.σ a sl' sc n all)∧all.length=n*es∧F2 (VRel c) m.cellsOf all∧(∀s l,m= .lst s l→es=s.w∧n=l.length)):db T op ea c.σ (iO c d k y):=by
 have hs:=de he s;unfold aP3 at h;cases hbo:yE c.S es (ev e s)with
 |none=>rw[hbo]at h;cases h
 |some p=>
  obtain⟨base,kill⟩:=p;cases mo with
  |none=>rw[hbo]at h;cases base<;>cases h
  |some m=>
   obtain⟨sl,hb,hbl,hba⟩:=bQ7 hR hbo hs;obtain⟨n,all,hop,h3,h4,h5⟩:=hm m rfl
   have hkd: ∀q,kill=some q→q∈d:=by
    intro q hq;refine hd q ?_;subst hq;cases hv:ev e s<;>rw[hv]at hbo<;>try(cases hbo;done)
    case full b=>
     simp only[yE]at hbo;split at hbo
     ·rename_i s' l hbb;cases hh:Nat.beq es s'.w with
      |false=>rw[hh]at hbo;cases hbo
      |true=>rw[hh]at hbo;simp only[cond_true,Option.some.injEq,Prod.mk.injEq]at hbo;rw[←hbo.2];rfl
     ·rename_i es' l hbb;cases hh:(Nat.beq es es'&&Nat.ble 1 es)with
      |false=>rw[hh]at hbo;cases hbo
      |true=>rw[hh]at hbo;simp only[cond_true,Option.some.injEq,Prod.mk.injEq]at hbo;rw[←hbo.2];rfl
     ·cases hbo
    case part b lo m=>
     cases lo with
     |succ lo=>cases hbo
     |zero=>
      simp only[yE]at hbo;split at hbo
      ·rename_i s' l hbb;cases hh:Nat.beq es s'.w with
       |false=>rw[hh]at hbo;cases hbo
       |true=>rw[hh]at hbo;simp only[cond_true,Option.some.injEq,Prod.mk.injEq]at hbo;rw[←hbo.2];rfl
      ·rename_i es' l hbb;cases hh:(Nat.beq es es'&&Nat.ble 1 es)with
       |false=>rw[hh]at hbo;cases hbo
       |true=>rw[hh]at hbo;simp only[cond_true,Option.some.injEq,Prod.mk.injEq]at hbo;rw[←hbo.2];rfl
      ·cases hbo
   have hkz: ∀q,kill=some q→(aD c.S q).frozen=false:=by
    intro q hq;obtain⟨_,_,_,h,_⟩:=hb.yes q hq;exact h
   rw[hbo]at h;have one4: ∀(c1:Ctx) (l:List VV),F2 (VRel c1) l all→qR l=true→all.all one=true:=fun c1 l h1 h2=>lD h1 h2
   cases base with
   |arr s' l=>
    obtain⟨g1,g2⟩:=hba s' l rfl;subst g1;cases m with
    |lst s2 l'=>
     simp only at h;obtain⟨l2,k1,k2⟩:=ce h;obtain⟨ee,k3⟩:=ob k1;cases ee;subst k3;obtain⟨k4,k5⟩:=cn k2;obtain⟨_,k6⟩:=h5 _ _ rfl;refine sT hR (tW.refl _) rfl rfl (Le.refl c) (uM.refl d c) (pz _) hb hkz hop h3 h4 (one4 c _ h4 (sY _ _)) ⟨?_,rfl,fun bs ms f1 f2=> ?_⟩ (by rw[g2,k6];exact k4) hkd k5
     ·simp only[Blk.dim,List.length_append,g2,k6]
     ·simp only[Blk.vals];rw[wH];exact f1.append f2
    |cells cs=>
     simp only at h;split at h
     ·rename_i s3 l3 hkk;obtain⟨l2,k1,k2⟩:=ce h;obtain⟨k4,k5⟩:=cn k2;have hfz:=ar7 c.S cs;have hR1:gb ⟨c.μ,fzL c.S cs,c.σ,c.fb⟩:=hfz.rel hR;obtain⟨k6,k7⟩:=aJ8 hR1 rfl k1;have h4':F2 (VRel ⟨c.μ,fzL c.S cs,c.σ,c.fb⟩) cs all:=VRel.frames hfz.le h4
      have k8:n=l2.length:=by
       have:=h4.length;simp only[More.cellsOf]at this;rw[k6,h3]at this;exact(Nat.eq_of_mul_eq_mul_right (pz _) this).symm
      have hkz': ∀q,kill=some q→(aD (fzL c.S cs) q).frozen=false:=by
       intro q hq;subst hq;simp only[Option.getD_some]at hkk;rw[hkk];rfl
      refine sT (c1:=⟨c.μ,fzL c.S cs,c.σ,c.fb⟩) hR1 hfz rfl rfl hfz.le (hfz.calm d) (pz _) hb hkz' hop h3 h4' (one4 _ _ (k7 _ h4') (sY _ _)) ⟨?_,rfl,fun bs ms f1 f2=> ?_⟩ (by rw[g2,k8];exact k4) hkd k5
      ·simp only[Blk.dim,List.length_append,g2,k8]
      ·simp only[Blk.vals];rw[wH];exact f1.append (k7 _ f2)
     ·cases h
   |cells es0 l=>
    obtain⟨g1,g2⟩:=hb.es _ _ rfl;subst g1;cases m with
    |lst s2 l'=>
     simp only at h;obtain⟨w1,w2⟩:=h5 _ _ rfl;subst w1;split at h
     ·rename_i s3 l3 hkk;obtain⟨l1,k1,k2⟩:=ce h;obtain⟨k4,k5⟩:=cn k2;have hfz:=ar7 c.S l;have hR1:gb ⟨c.μ,fzL c.S l,c.σ,c.fb⟩:=hfz.rel hR;obtain⟨k6,k7⟩:=aJ8 hR1 rfl k1;have h4':F2 (VRel ⟨c.μ,fzL c.S l,c.σ,c.fb⟩) (gr s2 l') all:=VRel.frames hfz.le h4
      have k8:sl=l1.length:=by
       simp only[Base.cellsOf]at hbl;rw[k6]at hbl;exact(Nat.eq_of_mul_eq_mul_right (pz _) hbl).symm
      have hkz': ∀q,kill=some q→(aD (fzL c.S l) q).frozen=false:=by
       intro q hq;subst hq;simp only[Option.getD_some]at hkk;rw[hkk];rfl
      refine sT (c1:=⟨c.μ,fzL c.S l,c.σ,c.fb⟩) hR1 hfz rfl rfl hfz.le (hfz.calm d) (pz _) hb hkz' hop h3 h4' (one4 _ _ h4' (sY _ _)) ⟨?_,rfl,fun bs ms f1 f2=> ?_⟩ (by rw[w2,k8];exact k4) hkd k5
      ·simp only[Blk.dim,List.length_append,w2,k8]
      ·simp only[Blk.vals];rw[wH];exact(k7 _ f1).append f2
     ·cases h
    |cells cs=>
     simp only at h;obtain⟨k4,k5⟩:=cn h;rw[Bool.and_eq_true]at k4;simp only[Base.cellsOf]at hbl;simp only[More.cellsOf]at h4;have k6:cs.length=n*es0:=by rw[h4.length];exact h3
     refine sT (blk:= .cells es0 false (l++cs)) hR (tW.refl _) rfl rfl (Le.refl c) (uM.refl d c) g2 hb hkz hop h3 h4 (one4 c _ h4 k4.2) ⟨?_,rfl,fun bs ms f1 f2=>F2.append (l:=l) f1 f2⟩ ?_ hkd k5
     ·simp only[Blk.dim,List.length_append,hbl,k6,Nat.add_mul]
     ·have:(l.length+cs.length) / es0=sl+n:=by rw[hbl,k6,←Nat.add_mul,Nat.mul_div_cancel _ g2]
      rw[←this];exact k4.1
   |none=>
    have hsl:kill=none→sl=0:=fun hh=>(hb.no hh).2.1
    have hsl0: ∀(q:Nat),1≤es→sl=0:=by
     intro _ hh;simp only[Base.cellsOf,List.length_nil]at hbl;rcases Nat.eq_zero_or_pos sl with h|h
     ·exact h
     ·have:=Nat.mul_pos h hh;omega
    cases m with
    |lst s2 l'=>
     simp only at h;obtain⟨w1,w2⟩:=h5 _ _ rfl;subst w1;have hz:=hsl0 0 (pz _);subst hz;obtain⟨k4,k5⟩:=cn h;refine sT hR (tW.refl _) rfl rfl (Le.refl c) (uM.refl d c) (pz _) hb hkz hop h3 h4 (one4 c _ h4 (sY _ _)) ⟨?_,rfl,fun bs ms f1 f2=> ?_⟩ (by rw[w2];exact k4) hkd k5
     ·simp only[Blk.dim,List.length_append,w2,List.length_nil]
     ·cases f1;exact f2
    |cells cs=>
     simp only at h;obtain⟨k4,k5⟩:=cn h;rw[Bool.and_eq_true,Bool.and_eq_true]at k4;have g2:=Nat.le_of_ble_eq_true k4.1.2;have hz:=hsl0 0 g2;subst hz;simp only[More.cellsOf]at h4;have k6:cs.length=n*es:=by rw[h4.length];exact h3
     refine sT (blk:= .cells es false cs) hR (tW.refl _) rfl rfl (Le.refl c) (uM.refl d c) g2 hb hkz hop h3 h4 (one4 c _ h4 k4.2) ⟨?_,rfl,fun bs ms f1 f2=>by cases f1;exact f2⟩ ?_ hkd k5
     ·simp only[Blk.dim,k6,Nat.zero_add]
     ·have:cs.length / es=0+n:=by rw[k6,Nat.mul_div_cancel _ g2,Nat.zero_add]
      rw[←this];exact k4.1.1
theorem bW2 {s:Sh}{l:List (El s)}{a:Value}{bytes n:Nat}{all:List Value}(hv:VRel c (.tgt s l) a)(h3:all.length=n*s.w)(h1:1≤n)(h5:all.all one=true)(hf:od (l.length+n) bytes=true):
  ∃p sc old,a= .slice p l.length sc∧F2 (VRel c) (gr s l) old∧pq s.w bytes c.σ p l.length sc n all=some (.slice (some ⟨c.σ.n,0,none⟩) (l.length+n) (l.length+n),c.σ.add ⟨old++all,true,s.w⟩):=by
 have hfit:(l.length+n)*bytes≤140737488355328∧l.length+n≤9223372036854775807:=by
  unfold od at hf;rw[Bool.and_eq_true]at hf;have g1:=of_decide_eq_true hf.1;have g2:=Nat.le_of_ble_eq_true hf.2;refine⟨g1, ?_⟩;have:(l.length+n)*1≤(l.length+n)*bytes:=Nat.mul_le_mul_left _ g2;omega
 cases hv with
 |tgtn hq=>
  simp only[List.length_nil,Nat.zero_add]at hfit⊢;rcases hq with rfl|⟨b,o,rfl⟩
  ·refine⟨none,0,[],rfl, .nil, ?_⟩;unfold pq;rw[if_neg (by omega),if_pos (by rw[Nat.zero_add];exact⟨hfit.1,hfit.2,h5⟩)];simp
  ·refine⟨_,0,[],rfl, .nil, ?_⟩;unfold pq;rw[if_neg (by omega),if_pos (by rw[Nat.zero_add];exact⟨hfit.1,hfit.2,h5⟩)];simp
 |tgt hn hy he h4 hf'=>
  rename_i b p yb;by_cases h0:l=[]
  ·subst h0;simp only[List.length_nil,Nat.zero_add]at hfit⊢;refine⟨_,0,[],rfl, .nil, ?_⟩;unfold pq;rw[if_neg (by omega),if_pos (by rw[Nat.zero_add];exact⟨hfit.1,hfit.2,h5⟩)];simp
  ·have hl:l.length≠0:=fun h=>h0 (List.eq_nil_of_length_eq_zero h)
   refine⟨_,_,_,rfl,hf', ?_⟩;unfold pq;rw[if_neg (by omega),if_pos ⟨hfit.1,hfit.2,h5⟩];simp only[hl,if_false,hy,he,if_true]
   have:rB yb p (l.length*s.w)=some ((yb.cells.drop p).take (l.length*s.w)):=by
    unfold rB;rw[if_pos h4]
   rw[this]
theorem ba3 {c1:Ctx}{bytes n:Nat}{s:Sh}{l l2:List (El s)}{so:Operand}{op:AOp}{all:List Value}(hR:gb c1)(hσ:c1.σ=c.σ)(hle:Le c c1)(hcalm:uM d c c1)
  (hv:VRel c1 (.tgt s l) (ea.ev so)) (hop: ∀a sl' sc,ea.ev so= .slice a sl' sc→op.run ea c.σ=pq s.w bytes c.σ a sl' sc n all) (h3:all.length=n*s.w) (h4:F2 (VRel c1) (gr s l2) all) (h5:all.all one=true) (hn:n=l2.length) (h1:1≤n)
  (h:bx3 c1.S bytes s none l l2 k=some y):db T op ea c.σ (iO c d k y):=by
 unfold bx3 at h;obtain⟨g1,g2⟩:=cn h;rw[←hn]at g1;obtain⟨p,sc,old,e1,f1,f2⟩:=bW2 hv h3 h1 h5 g1;have hrel:F2 (VRel c1) (gr s (l++l2)) (old++all):=by rw[wH];exact f1.append h4
 have hmv:=bv0 hR (blk:= .arr s false (l++l2)) (x:=⟨old++all,true,s.w⟩) (d:=(s.w,(l++l2).length*s.w)) rfl (pz s) rfl rfl hrel;refine dh (v:= .slice (some ⟨c.σ.n,0,none⟩) (l.length+n) (l.length+n)) (σ':=c.σ.add ⟨old++all,true,s.w⟩) ?_ ?_
 ·rw[hop _ _ _ e1,←hσ,f2]
 ·rw[←hσ];refine⟨_,_,rfl,hle.trans (hmv.le hR),hmv.rel hR,hcalm.trans (hmv.calm hR (fun q h=>by cases h)) hle, ?_,g2⟩;refine vo (yb:=⟨old++all,true,s.w⟩) (dm:=(s.w,(l++l2).length*s.w)) rfl (by simp[hn]) (Nat.le_refl _) (if_pos rfl) ?_;show(l.length+n)*s.w≤(old++all).length;rw[List.length_append,←f1.length,iF,h3,Nat.add_mul];exact Nat.le_refl _
theorem cg2 (hR:gb c)(he:cm c e ea){es bytes:Nat}{s:Sh}{l:List (El s)}{so:Operand}{op:AOp}{mo:Option More}(hs:ev e so= .tgt s l)(h:bK6 c.S es bytes s l mo k=some y)
  (hm: ∀m,mo=some m→∃n all,(∀a sl' sc,ea.ev so= .slice a sl' sc→op.run ea c.σ=pq es bytes c.σ a sl' sc n all)∧all.length=n*es∧F2 (VRel c) m.cellsOf all∧(∀s l,m= .lst s l→es=s.w∧n=l.length)):db T op ea c.σ (iO c d k y):=by
 have hv:=de he so;rw[hs]at hv;unfold bK6 at h;cases mo with
 |none=>cases h
 |some m=>
  obtain⟨n,all,hop,h3,h4,h5⟩:=hm m rfl;cases m with
  |lst s' l'=>
   simp only at h;obtain⟨l2,k1,k2⟩:=ce h;obtain⟨ee,k3⟩:=ob k1;cases ee;subst k3;obtain⟨k4,k5⟩:=cn k2;rw[Bool.and_eq_true]at k4;have w1:=Nat.eq_of_beq_eq_true k4.1;have w2:=Nat.le_of_ble_eq_true k4.2;subst w1;obtain⟨_,k6⟩:=h5 _ _ rfl;exact ba3 hR rfl (Le.refl c) (uM.refl d c) hv hop h3 h4 (lD h4 (sY _ _)) k6 (by rw[k6];exact w2) k5
  |cells cs=>
   simp only at h;obtain⟨l2,k1,k2⟩:=ce h;obtain⟨k4,k5⟩:=cn k2;rw[Bool.and_eq_true]at k4;have w1:=Nat.eq_of_beq_eq_true k4.1;have w2:=Nat.le_of_ble_eq_true k4.2;subst w1;have hfz:=ar7 c.S cs;have hR1:gb ⟨c.μ,fzL c.S cs,c.σ,c.fb⟩:=hfz.rel hR;obtain⟨k6,k7⟩:=aJ8 hR1 rfl k1;have h4':F2 (VRel ⟨c.μ,fzL c.S cs,c.σ,c.fb⟩) cs all:=VRel.frames hfz.le h4
   have k8:n=l2.length:=by
    have:=h4.length;simp only[More.cellsOf]at this;rw[k6,h3]at this;exact(Nat.eq_of_mul_eq_mul_right (pz _) this).symm
   exact ba3 (c1:=⟨c.μ,fzL c.S cs,c.σ,c.fb⟩) hR1 rfl hfz.le (hfz.calm d) (hv.frame hfz.le) hop h3 (k7 _ h4') (lD (k7 _ h4') (sY _ _)) k8 (by rw[k8];exact w2) k5
theorem bC7 (hR:gb c){v:VV}{a:Value}{S1:cf}{s:Sh}{l:List (El s)}(h:ba2 c.S v=some (S1, .arr s l))(hv:VRel c v a):tW c.S S1∧VRel ⟨c.μ,S1,c.σ,c.fb⟩ (.lst s l) a:=by
 unfold ba2 at h;split at h
 ·simp only[Option.some.injEq,Prod.mk.injEq,Base.arr.injEq]at h;obtain⟨h1,rfl,h2⟩:=h;have h2:=eq_of_heq h2;subst h1;subst h2;exact⟨tW.refl _,hv⟩
 ·rename_i q;split at h
  ·rename_i s' z l' hb;simp only[Option.some.injEq,Prod.mk.injEq,Base.arr.injEq]at h;obtain⟨h1,rfl,h2⟩:=h;have h2:=eq_of_heq h2;subst h1;subst h2;have hfz:tW c.S (mh c.S q (aD c.S q).freeze):=tW.put;refine⟨hfz, ?_⟩;have hR1:=hfz.rel hR;have hq:q<c.S.length:=pc (by rw[hb];simp[Blk.dim]);have hg:aD (mh c.S q (aD c.S q).freeze) q= .arr s' true l':=by rw[bP1 hq,hb];rfl
   refine aX2 hR1 (lm hR1 s') (v:= .full q) ?_ (hv.frame hfz.le);show cond (aD (mh c.S q (aD c.S q).freeze) q).frozen _ _=_;rw[hg];simp only[Blk.frozen,cond_true,an8,hg,wx,ll]
  ·cases h
 ·cases h
theorem ch7 (hR:gb c)(he:cm c e ea){x:Operand}(hx:ev e x= .nils)(h:k (.int .i64 0) c.S=some y):db T (.capN x) ea c.σ (iO c d k y):=by
 have hv:=de he x;rw[hx]at hv;have e1:ea.ev x= .slice none 0 0:=by generalize ea.ev x=q at hv;cases hv;rfl
 refine dh (v:= .int .i64 0) (σ':=c.σ) ?_ (iO.same hR (.int _ _) h);simp only[AOp.run,e1]
theorem bV5 (hR:gb c)(he:cm c e ea){x hi mx:Operand}(h:bs2 c.S (ev e x) (ev e hi) (ev e mx) k=some y):db T (.sliceX x hi mx) ea c.σ (iO c d k y):=by
 have hv:=de he x;have hvh:=de he hi;have hvm:=de he mx;unfold bs2 at h;split at h
 ·rename_i kh zh km zm eh em;rw[eh]at hvh;rw[em]at hvm;have q1:ea.ev hi= .int kh zh:=hvh.int_inv;have q2:ea.ev mx= .int km zm:=hvm.int_inv;obtain⟨g1,h1⟩:=cn h;clear h;have g1:=of_decide_eq_true g1;subst g1;have h:=h1;clear h1
  have run: ∀(p:Option Addr) (n cp:Nat) (r:Value),ea.ev x= .slice p n cp→0≤zh→zh≤cp→(match p with
    |none=>some (Value.slice none 0 0,c.σ)
    |some ⟨b,o,none⟩=>some (.slice (some ⟨b,o,some 0⟩) zh.toNat zh.toNat,c.σ)
    |_=>none)=some (r,c.σ)→(AOp.sliceX x hi mx).run ea c.σ=some (r,c.σ):=by
   intro p n cp r hp h0 h1 hr;have b1:pT cp 0 (some (.int km zh))=some zh.toNat:=if_pos ⟨h0,h1⟩;have b2:pT zh.toNat 0 (some (.int kh zh))=some zh.toNat:=if_pos ⟨h0,by omega⟩;simp only[AOp.run,hp,q1,q2,b1,b2,if_true];exact hr
  split at h
  ·rename_i hx;rw[hx]at hv;obtain⟨g2,h1⟩:=cn h;clear h;have h:=h1;clear h1;have g2:=of_decide_eq_true g2;subst g2;have e1:ea.ev x= .slice none 0 0:=by generalize ea.ev x=q at hv;cases hv;rfl
   exact dh (run _ _ _ (.slice none 0 0) e1 (by simp) (by simp) rfl) (iO.same hR .nils h)
  ·split at h
   ·rename_i S1 s l hsrc;obtain⟨g2,h1⟩:=cn h;clear h;have h:=h1;clear h1;obtain⟨c1,c2,c3⟩:=sX g2;obtain⟨hfz,hl⟩:=bC7 hR hsrc hv;have hR1:=hfz.rel hR;have out: ∀v:Value,VRel ⟨c.μ,S1,c.σ,c.fb⟩ (.tgt s (l.take zh.toNat)) v→iO c d k y v c.σ:=fun v hv=>⟨_,⟨c.μ,S1,c.σ,c.fb⟩,rfl,hfz.le,hR1,hfz.calm d,hv,h⟩
    cases hl':ea.ev x with
    |slice p n cp=>
     rw[hl']at hl;cases hl with
     |lstn hq=>
      have z0:zh=0:=by simp at c3;omega
      subst z0;cases p with
      |none=>exact dh (run _ _ _ (.slice none 0 0) hl' (by simp) (by simp) rfl) (out _ (.tgtn (.inl rfl)))
      |some A=>
       obtain⟨b,o,sp⟩:=A;have:sp=none:=hq _ rfl;subst this;exact dh (run _ _ _ (.slice (some ⟨b,o,some 0⟩) 0 0) hl' (by simp) (by simp) rfl) (out _ (.tgtn (.inr ⟨_,_,rfl⟩)))
     |lst hn hy he' h1 h2 h3 hf=>
      rename_i b o yb;refine dh (run _ _ _ (.slice (some ⟨b,o,some 0⟩) zh.toNat zh.toNat) hl' c2 (by omega) rfl) (out _ ?_);have hlen:(l.take zh.toNat).length=zh.toNat:=by rw[List.length_take];omega
      have hmul:zh.toNat*s.w≤n*s.w:=Nat.mul_le_mul_right _ (by omega)
      have:=VRel.tgt (c:=⟨c.μ,S1,c.σ,c.fb⟩) (l:=l.take zh.toNat) hn hy he' (p:=o) (by rw[hlen];omega) (by
       rw[hlen,me];have h9:=hf.take (zh.toNat*s.w);rw[List.take_take,Nat.min_eq_left hmul]at h9
       exact h9)
      rw[hlen]at this;exact this
    |_=>rw[hl']at hl;cases hl
   ·cases h
 ·cases h
theorem bE8 (hR:gb c)(he:cm c e ea){es bytes:Nat}{s x:Operand}(hd: ∀q,vh (ev e s)=some q→q∈d)(h:aT3 c.S es bytes (ev e s) (ev e x) k=some y)(hap:bo1 c.S es bytes (ev e s) (ev e x) k=some y→db T (.append es bytes s x) ea c.σ (iO c d k y)):db T (.append es bytes s x) ea c.σ (iO c d k y):=by
 unfold aT3 at h;split at h
 ·rename_i s' l hs;refine cg2 hR he hs h fun m hmo=> ?_
  obtain⟨n,all,h1,h2,h3,h4,h5⟩:=uy hR hmo (de he x);have h2n:=h2 n (Nat.le_refl _);rw[List.take_of_length_le (by omega)]at h2n;refine⟨n,all,fun a sl' sc hs=> ?_,h3,h4,h5⟩;simp only[AOp.run,hs,h1,h2n]
 ·exact hap h
theorem bQ3 (hR:gb c)(he:cm c e ea){es bytes:Nat}{s x:Operand}(hd: ∀q,vh (ev e s)=some q→q∈d)(h:bo1 c.S es bytes (ev e s) (ev e x) k=some y):db T (.append es bytes s x) ea c.σ (iO c d k y):=by
 refine aT2 hR he hd h fun m hmo=> ?_
 obtain⟨n,all,h1,h2,h3,h4,h5⟩:=uy hR hmo (de he x);have h2n:=h2 n (Nat.le_refl _);rw[List.take_of_length_le (by omega)]at h2n;refine⟨n,all,fun a sl' sc hs=> ?_,h3,h4,h5⟩;simp only[AOp.run,hs,h1,h2n]
theorem bE9 (hR:gb c)(he:cm c e ea){es bytes:Nat}{z:List Value}{s x:Operand}(hd: ∀q,vh (ev e s)=some q→q∈d)(h:aT4 c.S es bytes z (ev e s) (ev e x) k=some y):db T (.appendZ es bytes z s x) ea c.σ (iO c d k y):=by
 have hx:=de he x;unfold aT4 at h;split at h
 ·rename_i kd l hl;rw[hl]at hx;obtain⟨hg,h⟩:=cn h;unfold oh at hg;rw[Bool.and_eq_true,Bool.and_eq_true]at hg;have g1:=of_decide_eq_true hg.1;have g2:=of_decide_eq_true hg.2.1;have g3:=of_decide_eq_true hg.2.2;refine aT2 hR he hd h fun m hmo=> ?_
  unfold bD6 at hmo;split at hmo
  ·rename_i sh hs;cases hb:Nat.beq es sh.w with
   |false=>rw[hb]at hmo;cases hmo
   |true=>
    rw[hb]at hmo;simp only[cond_true,Option.some.injEq]at hmo;subst hmo;have he:=Nat.eq_of_beq_eq_true hb;subst he;have hz:=zn (c:=c) hs;have hzl:z.length=sh.w:=by rw[←hz.length,fp]
    refine⟨l.toNat,fD z l.toNat,fun a sl' sc hs'=> ?_,by rw[wD,hzl], ?_,fun s' l' h'=> ?_⟩
    ·simp only[AOp.run,hs',hx.int_inv];rw[if_pos ⟨g1,g2,g3⟩]
    ·show F2 (VRel c) (gr sh (List.replicate l.toNat (tU sh))) (fD z l.toNat);rw[sy];generalize l.toNat=n;induction n with
     |zero=>exact .nil
     |succ n ih=>
      simp only[fD,List.replicate_succ,List.flatten_cons]at ih⊢;exact hz.append ih
    ·injection h' with h1 h2
     subst h1;have h2:=eq_of_heq h2;rw[←h2,List.length_replicate];exact⟨rfl,rfl⟩
  ·cases hmo
 ·cases h
theorem bV7 {S:cf}{q:Nat}:mh S q (aD S q)=S:=by
 induction S generalizing q with
 |nil=>rfl
 |cons a r ih=>
  cases q with
  |zero=>rfl
  |succ q=>simp only[mh,aD,ih]
theorem cf3 {σ:Hp}{b:Nat}{x:Ab.Blk}(h:σ.m b=some x):σ.set b (some x)=σ:=by
 have:(fun i=>if i=b then some x else σ.m i)=σ.m:=by
  funext i
  by_cases hi:i=b
  ·rw[if_pos hi,hi,h]
  ·rw[if_neg hi]
 show Hp.mk _ _=_;rw[this]
theorem bY9 {es n m b o cp:Nat}{x z:Operand}{all:List Value}{x0:Ab.Blk}(hx:ea.ev x= .slice (some ⟨b,o,none⟩) n cp)(h1:ai5 (ea.ev z)=some m)(h2:c.σ.slice es (ea.ev z) (min m n)=some all)(hy:c.σ.m b=some x0)
  (hown:x0.own=true) (hlen:o+all.length≤x0.cells.length) (hone:all.all one=true):(AOp.copy es x z).run ea c.σ=some (.int .i64 (min m n:Nat),c.σ.set b (some ⟨mg x0.cells o all,true,x0.es⟩)):=by
 simp only[AOp.run,hx,h1,h2];by_cases hn:all=[]
 ·rw[if_pos hn];subst hn;have:(⟨mg x0.cells o [],true,x0.es⟩:Ab.Blk)=x0:=by cases x0;simp only[mg]at*;simp[hown]
  rw[this,cf3 hy]
 ·rw[if_neg hn,hy];simp only[at3 hown hlen hone]
theorem bf6 (hR:gb c){es q o n m:Nat}{dm:Nat×Nat}{x z:Operand}{blk:Blk}{all:List Value}(hdim:(aD c.S q).dim=some dm)(hes:dm.1=es)(hz:(aD c.S q).frozen=false)(hs:SlR c q o n dm (ea.ev x))
  (h1:ai5 (ea.ev z)=some m) (h2:c.σ.slice es (ea.ev z) (min m n)=some all) (h3:all.length=min m n*es) (h5:all.all one=true) (hd:q∈d) (hbd:blk.dim=some dm) (hbz:blk.frozen=false) (hnil:dm.2=0→blk=aD c.S q)
  (hrel: ∀cs,F2 (VRel c) (aD c.S q).vals cs→F2 (VRel c) blk.vals (mg cs (o*es) all)) (hk:k (.int .i64 (min m n:Nat)) (mh c.S q blk)=some y):db T (.copy es x z) ea c.σ (iO c d k y):=by
 subst hes;rcases hs with⟨e1,e2,e3,e4,e5⟩|⟨b,cp,yb,e1,e2,e3,e4,e5,e6⟩
 ·subst e2;subst e3;have:all=[]:=by simpa using h3
  subst this;refine dh (v:= .int .i64 (min m 0:Nat)) (σ':=c.σ) ?_ (iO.same hR (.int _ _) ?_)
  ·simp only[AOp.run,e1,h1,h2];simp
  ·rw[hnil e5,bV7]at hk;exact hk
 ·obtain⟨y0,cs,rest,f1,f2,f3,f4,f5⟩:=hR.block hdim e2;rw[e5]at f1;injection f1 with f1
  subst f1;have hl:=f5.length;rw[ab6 hdim]at hl
  have hle:o*dm.1+min m n*dm.1≤dm.2:=by
   have:(o+min m n)*dm.1≤(o+n)*dm.1:=Nat.mul_le_mul_right _ (by omega);rw[Nat.add_mul]at this;omega
  have hlen:o*dm.1+all.length≤yb.cells.length:=by rw[f4,List.length_append,h3];omega
  have hw:Writes c q b blk ⟨mg yb.cells (o*dm.1) all,true,yb.es⟩:=⟨hz,e2,hbd.trans hdim.symm,hbz,yb,mg cs (o*dm.1) all,rest,dm,e5,hdim,f2,rfl,zl _ _ _,by show mg _ _ _=_;rw[f4,ao7 _ _ _ _ (by omega)],hrel cs f5⟩;exact dh (bY9 e1 h1 h2 e5 (f3 hz) hlen h5) ⟨_,_,rfl,hw.le hR,hw.rel hR,hw.calm hR hd, .int _ _,hk⟩
theorem aI5 {kd:IntKind}: ∀{cs r:List VV} {m ml:List Int} {j:Nat} {as ms:List Value},aE2 kd m j cs=some r→F2 (VRel c) cs as→F2 (VRel c) (ml.map (VV.int kd)) ms→ml=(m.drop j).take cs.length→
  F2 (VRel c) r (ms++as.drop ms.length)
 |[],r,m,ml,j,as,ms,h,hf,hm,hl=>by
  simp only[aE2]at h;injection h with h;subst h
  cases hf;simp at hl;subst hl;cases hm;exact .nil
 |v::cs,r,m,ml,j,as,ms,h,hf,hm,hl=>by
  cases v<;>simp only[aE2]at h<;>try(cases h;done)
  rename_i k' n;cases hk:decide (k'=kd)with
  |false=>rw[hk]at h;cases h
  |true=>
   rw[hk,cond_true]at h;have hk:=of_decide_eq_true hk;subst hk;obtain⟨r',h1,h2⟩:=ce h;injection h2 with h2
   subst h2;cases hf with
   |cons hf1 hf2=>
    rename_i a as;have ha:=hf1.int_inv;subst ha;by_cases hj:j<m.length
    ·have hd:m.drop j=m[j]::m.drop (j+1):=List.drop_eq_getElem_cons hj;rw[hd]at hl;simp only[List.length_cons,List.take_succ_cons]at hl;subst hl;cases hm with
     |cons hm1 hm2=>
      rename_i b ms;have hb:=hm1.int_inv;subst hb;have:=aI5 h1 hf2 hm2 rfl;rw[List.getD_eq_getElem?_getD,List.getElem?_eq_getElem hj];exact .cons (.int _ _) this
    ·have hd:m.drop j=[]:=List.drop_eq_nil_of_le (by omega);rw[hd]at hl;simp only[List.take_nil]at hl;subst hl;cases hm;have:=aI5 (ml:=[]) h1 hf2 .nil (by rw[List.drop_eq_nil_of_le (by omega)];simp);rw[List.getD_eq_getElem?_getD,List.getElem?_eq_none (by omega)];exact .cons (.int _ _) this
theorem bi3 {kd:IntKind}{m:List Int}: ∀{cs r:List VV} {j:Nat},aE2 kd m j cs=some r→r.length=cs.length
 |[],r,j,h=>by injection h with h;subst h;rfl
 |v::cs,r,j,h=>by
  cases v<;>simp only[aE2]at h<;>try(cases h;done)
  rename_i k' n;cases hk:decide (k'=kd)with
  |false=>rw[hk]at h;cases h
  |true=>
   rw[hk,cond_true]at h;obtain⟨r',h1,h2⟩:=ce h;injection h2 with h2
   subst h2;simp[bi3 h1]
theorem by2 {kd:IntKind}{m:List Int}:gr (.int kd) m=m.map (VV.int kd):=by
 induction m with
 |nil=>rfl
 |cons a m ih=>rw[iy,ih];rfl
theorem aG7 {α:Type}{l m:List α}{o n:Nat}(h:o+n≤l.length):aC1 l o n m=l.take o++(m.take (min m.length n)++l.drop (o+min m.length n)):=by
 unfold aC1;rw[Nat.min_comm n m.length]
 congr 2
 by_cases hh:n≤m.length
 ·rw[Nat.min_eq_right hh]
 ·rw[Nat.min_eq_left (by omega),List.take_of_length_le (by omega),List.take_of_length_le (by omega)]
theorem bY0 {α:Type}{l m:List α}{o n:Nat}(h:o+n≤l.length):(aC1 l o n m).length=l.length:=by
 rw[aG7 h];simp only[List.length_append,List.length_take,List.length_drop];omega
theorem bw4 (hR:gb c){es q o n:Nat}{x z:Operand}{s:Sh}{l l2:List (El s)}{mc:List VV}{m:Nat}{all:List Value}(hb:aD c.S q= .arr s false l)(hs:SlR c q o n (s.w,l.length*s.w) (ea.ev x))(he:es=s.w)
  (h1:ai5 (ea.ev z)=some m) (h2: ∀i,i≤m→c.σ.slice es (ea.ev z) i=some (all.take (i*es))) (h3:all.length=m*es) (h4:F2 (VRel c) (gr s l2) all) (hm:m=l2.length) (hd:q∈d)
  (hk:k (.int .i64 (min l2.length n:Nat)) (mh c.S q (.arr s false (aC1 l o n l2)))=some y):db T (.copy es x z) ea c.σ (iO c d k y):=by
 subst he;have hdim:(aD c.S q).dim=some (s.w,l.length*s.w):=by rw[hb];rfl
 have hle:o+n≤l.length:=by
  rcases hs with⟨_,e2,e3,_,_⟩|⟨b,cp,yb,_,_,e3,_⟩
  ·omega
  ·exact Nat.le_of_mul_le_mul_right e3 (pz s)
 have h2':=h2 (min m n) (Nat.min_le_left _ _)
 have hal:(all.take (min m n*s.w)).length=min m n*s.w:=by
  rw[List.length_take,h3,Nat.min_eq_left];exact Nat.mul_le_mul_right _ (Nat.min_le_left _ _)
 have h4':=h4.take (min m n*s.w);rw[←me]at h4';rw[←hm]at hk;refine bf6 hR hdim rfl (by rw[hb];rfl) hs h1 h2' hal (lD h4' (sY _ _)) hd ?_ rfl (fun h0=> ?_) (fun cs hcs=> ?_) hk
 ·simp only[Blk.dim,bY0 hle]
 ·have:l.length=0:=by
   rcases Nat.eq_zero_or_pos l.length with h|h
   ·exact h
   ·have:=Nat.mul_pos h (pz s);simp only at h0;omega
  rw[hb,aG7 hle];rw[List.length_eq_zero_iff]at this;subst this;have hn:n=0:=by simp at hle;omega
  subst hn;simp
 ·rw[hb]at hcs;simp only[Blk.vals]at hcs⊢;have hcl:=hcs.length;rw[iF]at hcl;have hle2:o*s.w+min m n*s.w≤l.length*s.w:=by rw[←Nat.add_mul];exact Nat.mul_le_mul_right _ (by omega)
  rw[br7 (by rw[hal];omega),aG7 hle,wH,wH,me,xl,hal,←hm,Nat.add_mul];exact(hcs.take _).append (h4'.append (hcs.drop _))
theorem ci1 (hR:gb c)(he:cm c e ea){es:Nat}{x z:Operand}(hd: ∀q,vh (ev e x)=some q→q∈d)(h:bY8 c.S es (ev e x) (ev e z) k=some y):db T (.copy es x z) ea c.σ (iO c d k y):=by
 have hx:=de he x;have hz:=de he z;unfold bY8 at h
 have go: ∀(q o n:Nat) (dm:Nat×Nat),(aD c.S q).dim=some dm→q∈d→SlR c q o n dm (ea.ev x)→
   (match aD c.S q,iZ c.S es (ev e z)with
   | .arr s false l,some (.lst s' l')=>(na (.list s') (.list s) l').bind fun l2=>gd (Nat.beq es s.w) (k (.int .i64 (min l2.length n:Nat)) (mh c.S q (.arr s false (aC1 l o n l2))))
   | .arr s false l,some (.cells cs)=>(vn .u64 cs).bind fun m=>(na (.list (.int .u64)) (.list s) m).bind fun l2=>gd (Nat.beq es s.w) (k (.int .i64 (min l2.length n:Nat)) (mh c.S q (.arr s false (aC1 l o n l2))))
   | .cells 1 false l,some (.lst (.int kd) m)=>gd (Nat.beq es 1&&Nat.ble (o+n) l.length) (match aE2 kd m 0 ((l.drop o).take n)with
    |some c'=>k (.int .i64 (min m.length n:Nat)) (mh c.S q (.cells 1 false (l.take o++c'++l.drop (o+n))))
    |none=>none)
   |_,_=>none)=some y→db T (.copy es x z) ea c.σ (iO c d k y):=by
  intro q o n dm hdim hqd hs h;split at h
  ·rename_i s l s' l' hb hm;obtain⟨m,all,h1,h2,h3,h4,h5⟩:=uy hR hm hz;obtain⟨l2,k1,k2⟩:=ce h;obtain⟨ee,k3⟩:=ob k1;cases ee;subst k3;obtain⟨k4,k5⟩:=cn k2;rw[hb]at hdim;injection hdim with hdim
   subst hdim;exact bw4 (mc:=[]) hR hb hs (Nat.eq_of_beq_eq_true k4) h1 h2 h3 h4 (h5 _ _ rfl).2 hqd k5
  ·rename_i s l cs hb hm;obtain⟨m,all,h1,h2,h3,h4,h5⟩:=uy hR hm hz;obtain⟨ml,k0,k1⟩:=ce h;obtain⟨l2,k1,k2⟩:=ce k1;obtain⟨ee,k3⟩:=ob k1;cases ee;subst k3;obtain⟨k4,k5⟩:=cn k2;rw[hb]at hdim;injection hdim with hdim
   subst hdim;have hcs:=aI1 k0;simp only[More.cellsOf]at h4;rw[hcs,←by2]at h4;have he1:=Nat.eq_of_beq_eq_true k4
   have hml:m=l2.length:=by
    have:=h4.length;rw[iF,h3,he1]at this;exact(Nat.eq_of_mul_eq_mul_right (pz _) this).symm
   exact bw4 (mc:=[]) hR hb hs he1 h1 h2 h3 h4 hml hqd k5
  ·rename_i l kd ml hb hm;obtain⟨m,all,h1,h2,h3,h4,h5⟩:=uy hR hm hz;obtain⟨k1,k2⟩:=cn h;rw[Bool.and_eq_true]at k1;have he1:=Nat.eq_of_beq_eq_true k1.1;have hle:=Nat.le_of_ble_eq_true k1.2;subst he1;split at k2
   ·rename_i c' hov;have hml:=(h5 _ _ rfl).2;rw[hb]at hdim;injection hdim with hdim
    subst hdim;have h2':=h2 (min m n) (Nat.min_le_left _ _);have hal:(all.take (min m n*1)).length=min m n*1:=by rw[List.length_take,h3,Nat.min_eq_left];omega
    simp only[More.cellsOf]at h4;have h4':F2 (VRel c) (gr (.int kd) (ml.take (min m n))) (all.take (min m n*1)):=by rw[me];exact h4.take (min m n*1)
    have hc':=bi3 hov;have hlen:((l.drop o).take n).length=n:=by rw[List.length_take,List.length_drop];omega
    rw[←hml]at k2;refine bf6 hR (by rw[hb];rfl) rfl (by rw[hb];rfl) hs h1 h2' hal (lD h4' (sY _ _)) hqd ?_ rfl (fun h0=> ?_) (fun cs hcs=> ?_) k2
    ·simp only[Blk.dim,List.length_append,List.length_take,List.length_drop,hc']
     congr 2
     omega
    ·simp only at h0;have:l=[]:=List.length_eq_zero_iff.1 h0;subst this;rw[hb];simp at hle;have hn:n=0:=by omega
     subst hn;simp[aE2]at hov;subst hov;simp
    ·rw[hb]at hcs;simp only[Blk.vals]at hcs⊢;have hcl:=hcs.length;rw[br7 (by rw[hal];omega),List.append_assoc,Nat.mul_one];refine(hcs.take _).append ?_;have h6:=aI5 (ml:=ml.take (min m n)) hov ((hcs.drop o).take n) (by rw[←by2];exact h4') (by rw[hlen,List.drop_zero,hml,Nat.min_comm,←List.take_take,List.take_of_length_le (l:=ml) (Nat.le_refl _)])
     have h7:cs.drop (o+(all.take (min m n*1)).length)=((cs.drop o).take n).drop (all.take (min m n*1)).length++cs.drop (o+n):=by
      rw[hal,Nat.mul_one,List.drop_take,List.drop_drop]
      conv=>lhs;rw[←List.take_append_drop (n-min m n) (cs.drop (o+min m n))]
      rw[List.drop_drop]
      congr 2
      omega
     rw[h7,←List.append_assoc];exact h6.append (hcs.drop _)
   ·cases k2
  ·cases h
 generalize ev e x=xv at*;cases xv<;>try(cases h;done)
 case full q=>
  simp only at h;cases hx with
  |full hk _ hdd=>
   split at h
   ·rename_i n hn;cases hb:aD c.S q with
    |dead=>simp only[lenOf,hb]at hn;cases hn
    |arr s z' l=>
     simp only[lenOf,hb]at hn;injection hn with hn
     have hdim:(aD c.S q).dim=some (s.w,l.length*s.w):=by rw[hb];rfl
     obtain⟨n',h1,h2⟩:=hdd _ hdim;have:n'=n:=by rw[←hn];exact Nat.eq_of_mul_eq_mul_right (pz s) h1
     subst this;exact go q 0 n' _ hdim (hd q rfl) h2 h
    |cells es' z' l=>
     simp only[lenOf,hb]at hn;injection hn with hn
     have hdim:(aD c.S q).dim=some (es',l.length):=by rw[hb];rfl
     obtain⟨n',h1,h2⟩:=hdd _ hdim;have h3:=(hR.blk q _ hdim).1
     have:n'=n:=by
      simp only at h1 h3;rw[←hn,←h1,Nat.mul_div_cancel _ h3]
     subst this;exact go q 0 n' _ hdim (hd q rfl) h2 h
   ·cases h
 case part q o n=>
  simp only at h;cases hx with
  |part hk _ hdd=>
   cases hdm:(aD c.S q).dim with
   |none=>
    have:aD c.S q= .dead:=by
     generalize aD c.S q=blk at hdm;cases blk<;>first|rfl|(cases hdm;done)
    rw[this]at h;cases h
   |some dm=>exact go q o n dm hdm (hd q rfl) (hdd dm hdm) h
end
end Go.V
