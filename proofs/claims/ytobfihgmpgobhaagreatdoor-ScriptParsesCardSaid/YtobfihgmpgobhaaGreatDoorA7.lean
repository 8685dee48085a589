/- A part of the proofs of this claim: what functions of the program answer on an abstract machine, and plain laws. No condition. -/
import Derived.Test.YtobfihgmpgobhaaGreatDoorA6
import Derived.Lib.Join
import Derived.Lib.Repeat
import Derived.Lib.ItoaNum
import Derived.Shelf.Strings.Builder1
import Derived.Lib.FrozenHead
set_option linter.unusedVariables false
set_option linter.unusedSimpArgs false
set_option linter.unusedSectionVars false
namespace Go.V
open Go.Ab
section
open Builtin renaming unsafeSliceData_ → aC
open List renaming map_cons → aB, append_assoc → aD, length_append → aH, size_toArray → aI
open Nat renaming le_refl → aA, le_trans → aE, lt_or_ge → aF, zero_le → aG, lt_of_lt_of_le → aJ
theorem Nc {P:Program}{f:FuncId}{ka kr:IntKind}{g:Int→Option Int}(hc:lM P f)
  (e1: ∀t:pQ (iX.shs ⟨[.leaf (.int ka)],[],[]⟩),fK id ⟨[.leaf (.int ka)],[],[]⟩ (BB _ t)=some ([.int ka t],[],[]))
  (e2: ∀(f:Nat→Nat) (o:pQ (iX.shs ⟨[.leaf (.int kr)],[],[]⟩)),fK f ⟨[.leaf (.int kr)],[],[]⟩ (BB _ o)=some ([.int kr o],[],[]))
  (h: ∀(B:Ab.Base P) (w:World) (x y:Int),g x=some y→B.n≤w.heap.size→(∀b,b<B.n→w.heap[b]?=B.h b)→Calls P f #[.int ka x] w fun e w'=>e= .returned (.int kr y)∧w'=w):
  cd P ⟨f,[.leaf (.int ka)],[],[⟨.ret,[],⟨[.leaf (.int kr)],[],[]⟩⟩],g⟩:=by
 intro B μ σ w args cargs K hs hR0 ha;obtain⟨c,vals',st,t,o,p,v,fs,bs,S',h1,hR,hf,hd,hl,hcut,hok,hrun,hp,henc,hS,hK⟩:=hs;subst h1;have htl:BB (iX.shs ⟨[.leaf (.int ka)],[],[]⟩) t=st.ls:=qm hl;have hen:fK id ⟨[.leaf (.int ka)],[],[]⟩ (BB (iX.shs ⟨[.leaf (.int ka)],[],[]⟩) t)=some ([.int ka t],[],[]):=e1 t;rw[htl]at hen;obtain⟨_,hfv⟩:=enter hR rfl hd hen hf;cases hfv with
 |cons a1 a2=>
  cases a2;cases a1
  have hcar:cargs= #[.int ka t]:=by
   generalize hl':cargs.toList=l at ha;cases ha with
   |cons b1 b2=>
    cases b2;cases b1;exact Array.toList_inj.1 hl'
  subst hcar;refine⟨hc,(h B w t o hrun hR0.base hR0.old).mono ?_⟩;rintro x w' ⟨rfl,rfl⟩;injection hp with hp
  subst hp;rw[e2]at henc;injection henc with henc
  injection henc with e3 e4
  injection e4 with e4 e5
  subst e4;subst e5;injection e3 with e3
  subst e3;injection hS with hS
  subst hS;exact⟨.int kr o,c.σ, .int kr o,μ,rfl,hK _ _ ⟨c,rfl,by simp[qi,Ej,Qj],Le.refl c,hR, .int _ _,lx.refl _ c⟩,μ.le_refl,hR0, .int _ _,Go.RowKit.Below.refl _ _,rfl⟩
theorem N2 {P:Program}{B:Ab.Base P}{μ:Mu}{σ:Hp}{w w':World}(h:R B μ σ w)(hb:Go.RowKit.Below w.heap.size w w'):R B μ σ w':=
 ⟨aE h.base hb.size,fun b hlt=>(hb.block b (aJ hlt h.base)).trans (h.old b hlt),h.fresh,fun b x hx=>let⟨g,h1,h2⟩:=h.live b x hx;⟨g,h1,h2.kept hb.size (hb.block _ h2.lt) (fun hi k hk=>hb.block _ (h.buf hx h1 hi hk).2.1)⟩,h.inj,
  h.sep.of (fun b x g hx hg=> .inl ⟨x,hx,hg⟩) (fun b x g hx hg _ _=>by unfold cV;rw[hb.block _ (h.get hx hg).lt])⟩
theorem CZ {P:Program}{f:FuncId}{vals:List Sk}{s:Sh}{g:pQ (iX.shs ⟨vals,[],[]⟩)→Option (pQ (iX.shs ⟨[.leaf s],[],[]⟩))}(vsOf:pQ (iX.shs ⟨vals,[],[]⟩)→List VV)(toV:pQ (iX.shs ⟨[.leaf s],[],[]⟩)→VV)(hc:lM P f)
  (e1: ∀t:pQ (iX.shs ⟨vals,[],[]⟩),fK id ⟨vals,[],[]⟩ (BB _ t)=some (vsOf t,[],[]))
  (e2: ∀(f:Nat→Nat) (o:pQ (iX.shs ⟨[.leaf s],[],[]⟩)),fK f ⟨[.leaf s],[],[]⟩ (BB _ o)=some ([toV o],[],[]))
  (hal: ∀o,qi [toV o] [] []=false)
  (h: ∀(B:Ab.Base P) (μ:Mu) (w:World) (c:Ctx) (t:pQ (iX.shs ⟨vals,[],[]⟩)) (y:pQ (iX.shs ⟨[.leaf s],[],[]⟩)) (args:List Value) (cargs:Array Value),g t=some y→R B μ c.σ w→F2 (VRel c) (vsOf t) args→F2 (VR μ) args cargs.toList→
   Calls P f cargs w fun e w'=> ∃r,e= .returned r∧(∀c,VRel c (toV y) r)∧(∀μ,VR μ r r)∧Go.RowKit.Below w.heap.size w w'):
  cd P ⟨f,vals,[],[⟨.ret,[],⟨[.leaf s],[],[]⟩⟩],g⟩:=by
 intro B μ σ w args cargs K hs hR0 ha;obtain⟨c,vals',st,t,o,p,v,fs,bs,S',h1,hR,hf,hd,hl,hcut,hok,hrun,hp,henc,hS,hK⟩:=hs;subst h1;have htl:BB (iX.shs ⟨vals,[],[]⟩) t=st.ls:=qm hl;have hen:=e1 t;rw[htl]at hen;obtain⟨_,hfv⟩:=enter hR rfl hd hen hf;refine⟨hc,(h B μ w (eH c st []) t o args cargs hrun hR0 hfv ha).mono ?_⟩;rintro x w' ⟨r,rfl,hv,hvr,hb⟩;injection hp with hp
 subst hp;rw[e2]at henc;injection henc with henc
 injection henc with e3 e4
 injection e4 with e4 e5
 subst e4;subst e5;injection e3 with e3
 subst e3;have hcal:=hal o;rw[hcal]at hS;injection hS with hS
 subst hS;exact⟨r,c.σ,r,μ,rfl,hK _ _ ⟨c,rfl,by simp,Le.refl c,hR,hv _,lx.refl _ c⟩,μ.le_refl,N2 hR0 hb,hvr _,hb.mono hR0.base,rfl⟩
def J9 (u:Int):Option Int:=if 1≤u∧u≤18446744073709551615 then some ((Lib.nDigits u.toNat:Nat):Int)else none
def pz :List (List Int)→List Int→List Int
 |[],_=>[]
 |[x],_=>x
 |x::y::r,s=>x++(s++pz (y::r) s)
def J2 (l:List (List Int))(s:List Int):Option (List Int):=gd (decide (((pz l s).length:Int)≤140737488355328)&&decide ((l.length:Int)≤140737488355328)) (some (pz l s))
theorem AE (x y:List Int)(r:List (List Int))(s:List Int):pz (x::y::r) s=x++(s++pz (y::r) s):=rfl
def QW (l:List UInt8):List Int:=l.map fun b=>(b.toNat:Int)
theorem BC (a b:List UInt8):QW (a++b)=QW a++QW b:=List.map_append
theorem vx (l:List UInt8):ak ⟨l.toArray⟩=QW l:=by unfold ak QW;simp
theorem CG (sep:ByteArray): ∀xs:List ByteArray,ak ⟨(Lib.join (xs.map (·.data.toList)) sep.data.toList).toArray⟩=pz (xs.map ak) (ak sep)
 |[]=>rfl
 |[x]=>by rw[vx,aB,List.map_nil,Lib.join_one];rfl
 |x::y::r=>by
  have ih:=CG sep (y::r);rw[vx]at ih⊢;have e:pz ((x::y::r).map ak) (ak sep)=ak x++(ak sep++pz ((y::r).map ak) (ak sep)):=rfl;rw[e,←ih];simp only[aB];rw[Lib.join_cons,Lib.join_cons];unfold Lib.joinTail;rw[aB,List.flatten_cons,BC,BC,BC,BC,aD];rfl
theorem LY {P:Program}{B:Ab.Base P}{μ:Mu}{c:Ctx}{w:World}{l:List (List Int)}{a a':Value}(hR:R B μ c.σ w)(h:VRel c (.lst .str l) a)(k:VR μ a a'):
  ∃(q:Option Addr) (cp:Nat) (xs:List ByteArray),a'= .slice q xs.length cp∧xs.length≤cp∧xs.map ak=l∧(l≠[]→∃bk o,q=some ⟨bk,o,none⟩∧bk<w.heap.size∧∀(j:Nat) (x:ByteArray),xs[j]?=some x→w.cell? ⟨bk,o+j,none⟩=some (.string x)):=by
 cases h with
 |lstn hq=>
  cases k with
  |nils=>exact⟨none,0,[],rfl,aA _,rfl,fun h=>absurd rfl h⟩
  |slice h1 h2 h3 h4=>exact⟨_,_,[],rfl,aG _,rfl,fun h=>absurd rfl h⟩
  |slice0 A' h1=>exact⟨_,_,[],rfl,aA _,rfl,fun h=>absurd rfl h⟩
  |sliceX h1 h2=>exact⟨_,_,[],rfl,aG _,rfl,fun h=>absurd rfl h⟩
  |sliceX0 A' h1=>exact⟨_,_,[],rfl,aA _,rfl,fun h=>absurd rfl h⟩
 | @lst s l b p n cp y hm hy hes hn hcp hlen hv=>
  have hw:Sh.w .str=1:=rfl;rw[hw,Nat.mul_one]at hlen hv
  have key: ∀(l:List (List Int)) (vs:List Value),F2 (VRel c) (cv .str l) vs→∃xs:List ByteArray,vs=xs.map Value.string∧xs.map ak=l:=by
   intro l;induction l with
   |nil=>intro vs h;cases h;exact⟨[],rfl,rfl⟩
   |cons x l ih=>
    intro vs h;have h:F2 (VRel c) (.str x::cv .str l) vs:=h;cases h with
    |cons h1 h2=>
     cases h1 with
     |str e=>
      obtain⟨xs,e1,e2⟩:=ih _ h2;exact⟨_::xs,by rw[e1];rfl,by rw[aB,e2,e]⟩
  obtain⟨xs,e1,e2⟩:=key l _ hv
  have hxl:xs.length=n:=by
   have:=congrArg List.length e2;rw[List.length_map]at this;omega
  cases k with
  | @slice b o l' cc c' g hg h2 h3 h4=>
   refine⟨_,c',xs,by rw[hxl],by omega,e2,fun _=>⟨g.c,g.o+p,rfl,(hR.get hy hg.1).lt,fun j x hx=> ?_⟩⟩
   have hj:j<xs.length:=by
    rcases aF j xs.length with h|h
    ·exact h
    ·rw[List.getElem?_eq_none h]at hx;cases hx
   have hcell:y.cells[p+j]?=some (.string x):=by
    have this:((y.cells.drop p).take n)[j]?=(xs.map Value.string)[j]?:=by rw[e1]
    rw[List.getElem?_take,zE (by omega),List.getElem?_drop,List.getElem?_map,hx]at this;exact this
   obtain⟨v',h5,h6⟩:=(hR.get hy hg.1).cell hg.2 (p+j) _ hcell;cases h6;rw[Nat.add_assoc];exact h5
  |slice0 A' h1=>
   have:xs=[]:=List.length_eq_zero_iff.1 hxl;subst this;exact⟨_,_,[],rfl,aA _,e2,fun h=>absurd e2.symm h⟩
end
end Go.V
namespace Go.Ab
section
open Builtin renaming unsafeSliceData_ → aC
open List renaming map_cons → aB, append_assoc → aD, length_append → aH, size_toArray → aI
open Nat renaming le_refl → aA, le_trans → aE, lt_or_ge → aF, zero_le → aG, lt_of_lt_of_le → aJ
open Go.Shelf Go.RowKit Go.Proofs Go
structure Only (b:Nat)(w w':World):Prop where
 size:w.heap.size≤w'.heap.size
 oth: ∀k,k<w.heap.size→k≠b→cV w b≠some k→w'.heap[k]?=w.heap[k]?
 buf: ∀k,cV w' b=some k→cV w b=some k∨w.heap.size≤k
section
variable {P:Program} (w:World)
theorem F5 (base:Nat)(t u ty e:TypeId)(i:TypeInfo)(ht:P.underlying t=some (.slice e))(hu:P.underlying u=some .string)(hi:P.info? e=some i)(hz:i.zero=some (.int .u8 0))
  (hsize:i.size=1) (hby:i.bytes=1)
  (v:Value) (n:Nat) (xs:List Value) (hown:w.ownsRowF base e 1 v n xs) (s:ByteArray)
  (h63:n+s.size≤maxLen) (hbytes:n+s.size≤140737488355328) (hbase:base≤w.heap.size):
  ∃v' w',(Builtin.append_ #[t,u] ty #[v, .string s]).run P w= .ok v' w'∧w'.ownsRowF base e 1 v' (n+s.size) (xs++Lib.strCells s)∧w.grownBy w' v.ownBlock∧
   (∀k,v'.ownBlock=some k→v.ownBlock=some k∨w.heap.size≤k):=by
 rcases hown.2 with⟨rfl,rfl⟩|⟨g,cap,cur,fz,rfl,hbg,hg,hfz,hnc,hcm,hcs,htake⟩
 ·obtain⟨v',w',h1,h2,h3,h4⟩:=Lib.run_append_own_string (P:=P) w w.heap.size t u ty e i ht hu hi hz hsize hby (.slice none 0 0) 0 xs ⟨hown.1, .inl ⟨rfl,rfl⟩⟩ s h63 hbytes (aA _);have h5:=World.ownsRowF_of h2;refine⟨v',w',h1,⟨h5.1, ?_⟩,h3,fun k hk=> .inr (h5.lt k hk).1⟩;rcases h5.2 with hn|⟨g,cap,cur,fz,hv,hb,rest⟩
  ·exact .inl hn
  ·exact .inr ⟨g,cap,cur,fz,hv,aE hbase hb,rest⟩
 ·have hsmall:n+s.size≤9223372036854775807:=by simp only[maxLen]at h63;omega
  have hxl:xs.length=n:=by simpa using hown.1
  have hlen:(xs++Lib.strCells s).length=(n+s.size)*1:=by rw[aH,hxl,Lib.strCells_length,Nat.mul_one]
  by_cases hroom:n+s.size≤cap
  ·have hcs':cur.size=cap:=by simpa using hcs
   have hr:=Lib.run_append_room_stringF (P:=P) w t u ty e i ht hu hi hsize g n cap cur fz hg (by simpa using hfz) s hroom (by omega);refine⟨_,_,hr,⟨hlen, .inr ⟨g,cap,_,fz,rfl,hbg,setRow_heap w g cur _ e _ hg,by omega,hroom,hcm, ?_, ?_⟩⟩,⟨rfl,rfl,rfl,by simp,fun k _ hk=>setRow_other w g k _ (fun e=>hk (by simp[Value.ownBlock,e]))⟩,fun k hk=> .inl hk⟩
   ·simp only[aI,aH,List.length_take,List.length_drop,Array.length_toList,Lib.strCells_length];omega
   ·have ht':cur.toList.take n=xs:=by simpa using htake
    rw[ht',←hlen];exact List.take_left
  ·have holds: ∀j u,xs[j]?=some u→w.cell? ((⟨g,0,none⟩:Addr).add j)=some u:=hown.cells (g:=g) rfl
   have hr:=Lib.run_append_grow_string (P:=P) w t u ty e i (.int .u8 0) ht hu hi hz ⟨g,0,none⟩ n cap xs (by rw[hsize];simpa using hxl) holds s (by omega) (by omega) (by rw[hby];exact growslice_fits (by omega) (by omega));have hge:=grownCap_ge w (n+s.size) cap e;have hcm2:grownCap w (n+s.size) cap e≤maxLen:=grownCap_le_maxLen w (n+s.size) cap e h63;refine⟨_,_,hr,⟨hlen, .inr ⟨w.heap.size,_,_,(0,0),rfl,hbase,heap_alloc_new w.drew _,aG _,hge,hcm2, ?_, ?_⟩⟩,⟨rfl,rfl,rfl,by simp,fun k hk _=>Below.heap_alloc w.drew _ _ hk⟩,fun k hk=> .inr (by simp[Value.ownBlock]at hk;omega)⟩
   ·have hz1:(Value.int IntKind.u8 0).cells.size=1:=rfl;simp only[Array.size_append,aI,size_zeroCells,hz1,hxl,Lib.strCells_length];omega
   ·simp only[Array.toList_append,aD];rw[←aD,←hlen];exact List.take_left
theorem Bm {ops:Array Oper}{rest:List Oper}{o:Oper}{a:Act}{Q:Exit→Act→World→Prop}(hgd:o.guard=none)(sl x:Operand)(t u:TypeId)
  (ho:o.op= .call {callee:= .builtin .append,args:= #[sl,x],argTypes:= #[t,u]})
  (base:Nat) (e:TypeId) (i:TypeInfo) (ht:P.underlying t=some (.slice e)) (hu:P.underlying u=some .string) (hi:P.info? e=some i) (hz:i.zero=some (.int .u8 0))
  (hsize:i.size=1) (hby:i.bytes=1)
  (v:Value) (n:Nat) (xs:List Value) (hs:a.eval sl=v) (hown:w.ownsRowF base e 1 v n xs) (s:ByteArray) (hx:a.eval x= .string s)
  (h63:n+s.size≤maxLen) (hbytes:n+s.size≤140737488355328) (hbase:base≤w.heap.size)
  (h: ∀v' w',w'.ownsRowF base e 1 v' (n+s.size) (xs++Lib.strCells s)→w.grownBy w' v.ownBlock→(∀k,v'.ownBlock=some k→v.ownBlock=some k∨w.heap.size≤k)→wpList P ops Q rest (a.put o.dst v') w'):wpList P ops Q (o::rest) a w:=by
 refine wpList_plain hgd fun K hK=> ?_
 obtain⟨v',w',hr,h2,h3,h4⟩:=F5 (P:=P) w base t u o.type e i ht hu hi hz hsize hby v n xs hown s h63 hbytes hbase;unfold Oper.wp execOp;simp only[ho,resolve,invoke,builtin,Sem.run_bind,Sem.run_pure,Result.andThen_ok,List.map_toArray,aB,List.map_nil,hs,hx,hr];exact hK _ _ (h v' w' h2 h3 h4)
end
variable {P:Program} {ρ:Ren}
theorem uE {w:World}{b:Nat}{p v:Value}{T:TypeId}{z:Nat×Nat}(h:w.heap[b]?=some (.cells #[p,v] T z)):cV w b=v.ownBlock:=by
 unfold cV;rw[h];rfl
theorem GZ (L:Lays.n240 P ρ)(X:Builder.X72 P ρ)(B b:Nat)(p:Value)(hp:p= .pointer none∨p= .pointer (some ⟨b,0,none⟩))(bs:List Value)(w:World)(h:Lib.BuilderAtF (ρ.t 72) (ρ.t 5) B b p bs w):
  Calls P (ρ.f 240) #[.pointer (some ⟨b,0,none⟩)] w fun e w'=>e= .returned (.tuple #[])∧(Lib.BuilderAtF (ρ.t 72) (ρ.t 5) B b (.pointer (some ⟨b,0,none⟩)) bs w'∧Below B w w'∧w'.heap.size=w.heap.size∧(∀k,k≠b→w'.heap[k]?=w.heap[k]?)∧cV w' b=cV w b):=by
 rcases hp with rfl|rfl
 ·refine(Any.Builder_copyCheck_fresh L X b w h.cell0 h.shape h.frozen0).mono ?_;rintro e w' ⟨rfl,rfl⟩;refine⟨rfl,h.used _,(Below.refl B w).setCell (p:=⟨b,0,none⟩) h.1 _,by simp[World.setCell],fun k hk=>Below.heap_setCell _ _ _ _ (fun e=>hk (by simp[e])), ?_⟩;obtain⟨_,v,hb,_⟩:=h;rw[uE hb]
  have hb2:(w.setCell ⟨b,0,none⟩ (.pointer (some ⟨b,0,none⟩))).heap[b]?=some (.cells #[.pointer (some ⟨b,0,none⟩),v] (ρ.t 72) (0,0)):=by
   simp[World.setCell,Array.getElem?_modify,hb]
  exact uE hb2
 ·refine(Any.Builder_copyCheck_used L X b w h.cell0).mono ?_;rintro e w' ⟨rfl,rfl⟩;exact⟨rfl,h,Below.refl B _,rfl,fun _ _=>rfl,rfl⟩
set_option maxHeartbeats 2000000 in
set_option maxRecDepth 100000 in
theorem PG (L:Lays.n166 P ρ)(X:Builder.Extra P ρ)(B b:Nat)(p:Value)(hp:p= .pointer none∨p= .pointer (some ⟨b,0,none⟩))(bs:List Value)(s:ByteArray)(w:World)(h:Lib.BuilderAtF (ρ.t 72) (ρ.t 5) B b p bs w)(hlen:bs.length+s.size≤140737488355328)(hBw:B≤w.heap.size):
  Calls P (ρ.f 166) #[.pointer (some ⟨b,0,none⟩), .string s] w fun e w'=>e= .returned (.tuple #[.int .i64 s.size, .nilIface])∧(Lib.BuilderAtF (ρ.t 72) (ρ.t 5) B b (.pointer (some ⟨b,0,none⟩)) (bs++Lib.strCells s) w'∧Below B w w'∧Only b w w'):=by
 obtain⟨i0,hi,hz0,hz1,hz2⟩:=info_parts X.infoByte;have mixed:=L.mixed;have t72:=L.t72;have a72:=L.a72;have z72:=L.z72;have v72:=L.v72;have u72:=run_underlying L.t72;have t70:=L.t70;have a70:=L.a70;have z70:=L.z70;have v70:=L.v70;have u70:=run_underlying L.t70;have t37:=L.t37;have a37:=L.a37;have z37:=L.z37;have v37:=L.v37;have u37:=run_underlying L.t37;have t3:=L.t3;have a3:=L.a3;have z3:=L.z3;have v3:=L.v3;have u3:=run_underlying L.t3;have t9:=L.t9;have a9:=L.a9;have z9:=L.z9;have v9:=L.v9;have u9:=run_underlying L.t9;have t4:=L.t4;have a4:=L.a4;have z4:=L.z4;have v4:=L.v4;have u4:=run_underlying L.t4;have t164:=L.t164;have a164:=L.a164;have z164:=L.z164;have v164:=L.v164;have u164:=run_underlying L.t164;have t5:=X.t5;have a5:=X.a5;have z5:=X.z5;have v5:=X.v5;have u5:=run_underlying X.t5;have e240: ∀args w,(callFunc (ρ.f 240) args).run P w= .ok (.enter (ρ.f 240) args) w:=enters_of L.f240 (by kernel_rfl) rfl
 go_enter L.f166,Body.n166_ntmps ρ
 go_wp2_with (go_at_fn (ρ.f 240);refine(GZ {L with} X.toX72 B b p hp bs _ h).mono ?_)
 rintro e w1 ⟨rfl,h1,hb1,hsz1,hoth1,hbuf1⟩;obtain⟨hB,v,hbk,hown,hne⟩:=h1;have c0:w1.cell? ⟨b,0,none⟩=some (.pointer (some ⟨b,0,none⟩)):=by rw[Lib.cell_of_heap hbk];rfl
 have c1:w1.cell? ⟨b,1,none⟩=some v:=by rw[Lib.cell_of_heap hbk];rfl
 go_wp2_with (at_builtin;refine Bm _ rfl _ _ (ρ.t 37) (ρ.t 9) rfl B (ρ.t 5) i0 L.t37 L.t9 hi hz0 hz1 hz2 _ _ _ rfl hown s rfl ?c3 ?c4 ?c5 ?_)
 case c3=>unfold maxLen;omega
 case c4=>omega
 case c5=>have:=hb1.size;omega
 intro v' w2 hown' hgrow hrow
 have hlt:b<w1.heap.size:=by
  rcases aF b w1.heap.size with h'|h'
  ·exact h'
  ·simp[Array.getElem?_eq_none h']at hbk
 have hb2:w2.heap[b]?=some (.cells #[.pointer (some ⟨b,0,none⟩),v] (ρ.t 72) (0,0)):=by
  rw[hgrow.block b hlt (fun e=>hne e.symm)];exact hbk
 have d0:w2.cell? ⟨b,0,none⟩=some (.pointer (some ⟨b,0,none⟩)):=by rw[Lib.cell_of_heap hb2];rfl
 have d1:w2.cell? ⟨b,1,none⟩=some v:=by rw[Lib.cell_of_heap hb2];rfl
 have f1:w2.frozen? ⟨b,1,none⟩=false:=Lib.frozen_of_heap hb2 1
 obtain⟨ao,n',cap,rfl⟩: ∃ao n' cap,v'= .slice ao n' cap:=by
  rcases hown'.2 with⟨hv,_⟩|⟨g,cap,cur,fz,hv,_⟩
  ·exact⟨_,_,_,hv⟩
  ·exact⟨_,_,_,hv⟩
 have hbv:=uE hbk;rw[hbuf1]at hbv
 go_wp2
 go_ret2
 refine⟨rfl, ?_, ?_, ?_, ?_, ?_⟩
 ·exact Lib.BuilderAtF.put (T:=(ρ.t 72)) (e:=(ρ.t 5)) hB hb2 (bs':=bs++Lib.strCells s) (by simpa[Lib.strCells_length]using hown') X.neB5
 ·exact(hb1.grown hgrow (by have:=hb1.size;omega) (fun k hk=>(hown.lt k hk).1)).setCell (p:=⟨b,1,none⟩) hB _
 ·have:=hgrow.size;simp[World.setCell];omega
 ·intro k hk hkb hkbuf;rw[Below.heap_setCell _ _ _ _ (fun e=>hkb (by simp[e])),hgrow.block k (by omega) (fun e=>hkbuf (by rw[hbv,e])),hoth1 k hkb]
 ·intro k hk
  have hb3:(w2.setCell ⟨b,1,none⟩ (.slice ao n' cap)).heap[b]?=some (.cells #[.pointer (some ⟨b,0,none⟩), .slice ao n' cap] (ρ.t 72) (0,0)):=by
   simp[World.setCell,Array.getElem?_modify,hb2]
  rw[uE hb3]at hk;rcases hrow k hk with h|h
  ·exact .inl (hbv.trans h)
  ·exact .inr (by omega)
theorem Cx (w:World)(a:Addr)(n:Nat){k:Nat}(hk:k≠a.block):(w.freeze a n).heap[k]?=w.heap[k]?:=by
 unfold World.freeze;split
 ·rfl
 ·simp only[Array.getElem?_modify];rw[zF (fun e=>hk e.symm)]
theorem G9 (w:World)(a:Addr)(n:Nat):(w.freeze a n).heap.size=w.heap.size:=by
 unfold World.freeze;split
 ·rfl
 ·simp
theorem HB {b g:Nat}{w:World}(hg:cV w b=some g)(hne:g≠b)(n:Nat):Only b w (w.drew.freeze ⟨g,0,none⟩ n):=by
 have hb:(w.drew.freeze ⟨g,0,none⟩ n).heap[b]?=w.heap[b]?:=Cx w.drew ⟨g,0,none⟩ n (fun e=>hne e.symm);refine⟨by rw[G9];exact aA _,fun k _ hk hkb=>Cx w.drew ⟨g,0,none⟩ n (fun e=>hkb (by rw[hg,e])),fun k hk=> .inl ?_⟩;unfold cV at hk⊢;rw[hb]at hk;exact hk
theorem ES {b:Nat}{w w':World}(h:w'.heap=w.heap):Only b w w':=
 ⟨by rw[h];exact aA _,fun k _ _ _=>by rw[h],fun k hk=> .inl (by unfold cV at hk⊢;rw[h]at hk;exact hk)⟩
theorem Jb {b:Nat}{w:World}(hb:b<w.heap.size)(o:Obj):Only b w (w.drew.alloc o):=by
 have h1: ∀k,k<w.heap.size→(w.drew.alloc o).heap[k]?=w.heap[k]?:=fun k hk=>Lib.alloc_old w.drew o k hk
 refine⟨by show w.heap.size≤(w.heap.push _).size;rw[Array.size_push];omega,fun k hk _ _=>h1 k hk,fun k hk=> .inl ?_⟩;unfold cV at hk⊢;rw[h1 b hb]at hk;exact hk
set_option maxHeartbeats 1000000 in
set_option maxRecDepth 100000 in
theorem Lw (L:Lays.n169 P ρ)(X:Builder.Extra P ρ)(B b:Nat)(p:Value)(l:List UInt8)(w:World)(hAt:Lib.BuilderAtF (ρ.t 72) (ρ.t 5) B b p (Lib.byteCells l) w)(h0:l≠[]):
  Calls P (ρ.f 169) #[.pointer (some ⟨b,0,none⟩)] w fun e w'=>e= .returned (.string ⟨l.toArray⟩)∧(Lib.BuilderAtF (ρ.t 72) (ρ.t 5) B b p (Lib.byteCells l) w'∧Below B w w'∧Only b w w'):=by
 obtain⟨hB,v,hbk,hown,hne⟩:=hAt;have hl0:l.length≠0:=by simpa using h0
 rw[Lib.byteCells_length]at hown
 obtain⟨g,cap,cur,fz,rfl,hbg,hg,hfz,hnc,hcm,hcs,htake⟩: ∃g cap cur fz,v= .slice (some ⟨g,0,none⟩) l.length cap∧B≤g∧w.heap[g]?=some (.cells cur (ρ.t 5) fz)∧fz.2≤l.length*1∧l.length≤cap∧cap≤maxLen∧cur.size=cap*1∧cur.toList.take (l.length*1)=Lib.byteCells l:=by
  rcases hown.2 with⟨_,hz⟩|⟨g,cap,cur,fz,hv,r⟩
  ·exact absurd hz hl0
  ·exact⟨g,cap,cur,fz,hv,r⟩
 have c1:w.drew.cell? ⟨b,1,none⟩=some (.slice (some ⟨g,0,none⟩) l.length cap):=by
  have:w.drew.heap[b]?=some (.cells #[p, .slice (some ⟨g,0,none⟩) l.length cap] (ρ.t 72) (0,0)):=hbk;rw[Lib.cell_of_heap this];rfl
 have hSD:(aC #[(ρ.t 37)] (ρ.t 127) #[.slice (some ⟨g,0,none⟩) l.length cap]).run P w.drew= .ok (.pointer (some ⟨g,0,none⟩)) w.drew:=
  Lib.run_unsafeSliceData_row _ _ _ _ _ _ (by omega)
 have hUS:(Builtin.unsafeString_ #[(ρ.t 127),(ρ.t 3)] (ρ.t 9) #[.pointer (some ⟨g,0,none⟩), .int .i64 l.length]).run P w.drew= .ok (.string ⟨l.toArray⟩) (w.drew.freeze ⟨g,0,none⟩ l.length):=by
  refine Lib.run_unsafeString_row w.drew (ρ.t 127) (ρ.t 3) (ρ.t 9) (ρ.t 5) L.t127 X.cellsByte g cur.size (by have hg':w.drew.heap[g]?=some (.cells cur (ρ.t 5) fz):=hg;simp[World.shape?,hg']) l h0 (by omega) (by unfold maxLen at hcm;omega) ?_;intro j x hx;have:=hown.cells (g:=g) rfl j (.int .u8 x.toNat) (by simp[Lib.byteCells,hx]);exact this
 have hkeep:Lib.BuilderAtF (ρ.t 72) (ρ.t 5) B b p (Lib.byteCells l) (w.drew.freeze ⟨g,0,none⟩ l.length):=by
  have hA:Lib.BuilderAtF (ρ.t 72) (ρ.t 5) B b p (Lib.byteCells l) w.drew:=⟨hB,_,hbk,by rw[Lib.byteCells_length];exact hown,hne⟩;have hF:=hA.froze (g:=g) (cap:=cap) (by rw[Lib.byteCells_length];exact c1);rw[Lib.byteCells_length]at hF;exact hF
 have honly:Only b w (w.drew.freeze ⟨g,0,none⟩ l.length):=HB (uE hbk) (fun e=>hne (congrArg some e)) _;have mixed:=L.mixed;have t72:=L.t72;have a72:=L.a72;have z72:=L.z72;have v72:=L.v72;have u72:=run_underlying L.t72;have t70:=L.t70;have a70:=L.a70;have z70:=L.z70;have v70:=L.v70;have u70:=run_underlying L.t70;have t37:=L.t37;have a37:=L.a37;have z37:=L.z37;have v37:=L.v37;have u37:=run_underlying L.t37;have t127:=L.t127;have a127:=L.a127;have z127:=L.z127;have v127:=L.v127;have u127:=run_underlying L.t127;have t3:=L.t3;have a3:=L.a3;have z3:=L.z3;have v3:=L.v3;have u3:=run_underlying L.t3;have t9:=L.t9;have a9:=L.a9;have z9:=L.z9;have v9:=L.v9;have u9:=run_underlying L.t9;have t5:=X.t5;have a5:=X.a5;have z5:=X.z5;have v5:=X.v5;have u5:=run_underlying X.t5
 go_enter L.f169,Body.n169_ntmps ρ
 go_wp2
 go_region_o
 all_goals (go_wp2;go_ret;exact⟨rfl,hkeep,Lib.below_freeze (Below.drew (Below.refl B w)) (p:=⟨g,0,none⟩) hbg _,honly⟩)
set_option maxHeartbeats 2000000 in
set_option maxRecDepth 100000 in
theorem JC (L:Lays.n169 P ρ)(X:Builder.Extra P ρ)(B b:Nat)(p:Value)(w:World)(hbk:w.heap[b]?=some (.cells #[p, .slice none 0 0] (ρ.t 72) (0,0)))(hA:Lib.BuilderAtF (ρ.t 72) (ρ.t 5) B b p [] w):
  Calls P (ρ.f 169) #[.pointer (some ⟨b,0,none⟩)] w fun e w'=>e= .returned (.string ⟨#[]⟩)∧(Lib.BuilderAtF (ρ.t 72) (ρ.t 5) B b p [] w'∧Below B w w'∧Only b w w'):=by
 have hUS:=Any.unsafeString_none L X
 have c1:w.drew.cell? ⟨b,1,none⟩=some (.slice none 0 0):=by
  have:w.drew.heap[b]?=some (.cells #[p, .slice none 0 0] (ρ.t 72) (0,0)):=hbk;rw[Lib.cell_of_heap this];rfl
 have hSD:(aC #[(ρ.t 37)] (ρ.t 127) #[.slice none 0 0]).run P w.drew= .ok (.pointer none) w.drew:=rfl;have mixed:=L.mixed;have t72:=L.t72;have a72:=L.a72;have z72:=L.z72;have v72:=L.v72;have u72:=run_underlying L.t72;have t70:=L.t70;have a70:=L.a70;have z70:=L.z70;have v70:=L.v70;have u70:=run_underlying L.t70;have t37:=L.t37;have a37:=L.a37;have z37:=L.z37;have v37:=L.v37;have u37:=run_underlying L.t37;have t127:=L.t127;have a127:=L.a127;have z127:=L.z127;have v127:=L.v127;have u127:=run_underlying L.t127;have t3:=L.t3;have a3:=L.a3;have z3:=L.z3;have v3:=L.v3;have u3:=run_underlying L.t3;have t9:=L.t9;have a9:=L.a9;have z9:=L.z9;have v9:=L.v9;have u9:=run_underlying L.t9;have t5:=X.t5;have a5:=X.a5;have z5:=X.z5;have v5:=X.v5;have u5:=run_underlying X.t5
 go_enter L.f169,Body.n169_ntmps ρ
 go_wp2
 go_region_o
 all_goals (go_wp2;go_ret;exact⟨rfl,hA.drew,Below.drew (Below.refl B w),ES rfl⟩)
set_option maxHeartbeats 2000000 in
set_option maxRecDepth 100000 in
theorem Ef (L:Lays.n169 P ρ)(X:Builder.Extra P ρ)(B b g:Nat)(p:Value)(cur:Array Value)(w:World)(hBw:B≤w.heap.size)(hbk:w.heap[b]?=some (.cells #[p, .slice (some ⟨g,0,none⟩) 0 0] (ρ.t 72) (0,0)))(fz:Nat×Nat)(hg:w.heap[g]?=some (.cells cur (ρ.t 5) fz))(hA:Lib.BuilderAtF (ρ.t 72) (ρ.t 5) B b p [] w):
  Calls P (ρ.f 169) #[.pointer (some ⟨b,0,none⟩)] w fun e w'=>e= .returned (.string ⟨#[]⟩)∧(Lib.BuilderAtF (ρ.t 72) (ρ.t 5) B b p [] w'∧Below B w w'∧Only b w w'):=by
 have hUS:=Any.unsafeString_none L X
 have hlt:b<w.heap.size:=by
  rcases aF b w.heap.size with h'|h'
  ·exact h'
  ·simp[Array.getElem?_eq_none h']at hbk
 have c1:w.drew.cell? ⟨b,1,none⟩=some (.slice (some ⟨g,0,none⟩) 0 0):=by
  have:w.drew.heap[b]?=some (.cells #[p, .slice (some ⟨g,0,none⟩) 0 0] (ρ.t 72) (0,0)):=hbk;rw[Lib.cell_of_heap this];rfl
 have hSD:(aC #[(ρ.t 37)] (ρ.t 127) #[.slice (some ⟨g,0,none⟩) 0 0]).run P w.drew= .ok (.pointer (some ⟨w.drew.heap.size,0,none⟩)) (w.drew.alloc (.view ⟨g,0,none⟩ (ρ.t 5))):=
  Lib.run_unsafeSliceData_zero w.drew _ _ (ρ.t 5) L.t127 ⟨g,0,none⟩ 0 ((ρ.t 5),cur.size) (by have hg':w.drew.heap[g]?=some (.cells cur (ρ.t 5) fz):=hg;simp[World.shape?,hg'])
 have c2:(w.drew.alloc (.view ⟨g,0,none⟩ (ρ.t 5))).cell? ⟨b,1,none⟩=some (.slice (some ⟨g,0,none⟩) 0 0):=by
  have:(w.drew.alloc (.view ⟨g,0,none⟩ (ρ.t 5))).heap[b]?=_:=(Lib.alloc_old w.drew _ b hlt).trans hbk;rw[Lib.cell_of_heap this];rfl
 have c3:(w.alloc (.view ⟨g,0,none⟩ (ρ.t 5))).drew.cell? ⟨b,1,none⟩=some (.slice (some ⟨g,0,none⟩) 0 0):=c2;have c0:w.cell? ⟨b,1,none⟩=some (.slice (some ⟨g,0,none⟩) 0 0):=c1;have mixed:=L.mixed;have t72:=L.t72;have a72:=L.a72;have z72:=L.z72;have v72:=L.v72;have u72:=run_underlying L.t72;have t70:=L.t70;have a70:=L.a70;have z70:=L.z70;have v70:=L.v70;have u70:=run_underlying L.t70;have t37:=L.t37;have a37:=L.a37;have z37:=L.z37;have v37:=L.v37;have u37:=run_underlying L.t37;have t127:=L.t127;have a127:=L.a127;have z127:=L.z127;have v127:=L.v127;have u127:=run_underlying L.t127;have t3:=L.t3;have a3:=L.a3;have z3:=L.z3;have v3:=L.v3;have u3:=run_underlying L.t3;have t9:=L.t9;have a9:=L.a9;have z9:=L.z9;have v9:=L.v9;have u9:=run_underlying L.t9;have t5:=X.t5;have a5:=X.a5;have z5:=X.z5;have v5:=X.v5;have u5:=run_underlying X.t5
 go_enter L.f169,Body.n169_ntmps ρ
 go_wp2
 go_region_o
 all_goals (go_wp2;go_ret;exact⟨rfl,hA.drew.alloc _,(Below.drew (Below.refl B w)).alloc hBw _,Jb hlt _⟩)
set_option maxHeartbeats 2000000 in
set_option maxRecDepth 100000 in
theorem Ig (L:Lays.n169 P ρ)(X:Builder.Extra P ρ)(B b g cap:Nat)(p:Value)(w:World)(hc0:cap≠0)(hbk:w.heap[b]?=some (.cells #[p, .slice (some ⟨g,0,none⟩) 0 cap] (ρ.t 72) (0,0)))(hA:Lib.BuilderAtF (ρ.t 72) (ρ.t 5) B b p [] w):
  Calls P (ρ.f 169) #[.pointer (some ⟨b,0,none⟩)] w fun e w'=>e= .returned (.string ⟨#[]⟩)∧(Lib.BuilderAtF (ρ.t 72) (ρ.t 5) B b p [] w'∧Below B w w'∧Only b w w'):=by
 have hUS:=Any.unsafeString_none L X
 have c1:w.drew.cell? ⟨b,1,none⟩=some (.slice (some ⟨g,0,none⟩) 0 cap):=by
  have:w.drew.heap[b]?=some (.cells #[p, .slice (some ⟨g,0,none⟩) 0 cap] (ρ.t 72) (0,0)):=hbk;rw[Lib.cell_of_heap this];rfl
 have hSD:(aC #[(ρ.t 37)] (ρ.t 127) #[.slice (some ⟨g,0,none⟩) 0 cap]).run P w.drew= .ok (.pointer (some ⟨g,0,none⟩)) w.drew:=
  Lib.run_unsafeSliceData_row _ _ _ _ _ _ hc0
 clear hc0;have mixed:=L.mixed;have t72:=L.t72;have a72:=L.a72;have z72:=L.z72;have v72:=L.v72;have u72:=run_underlying L.t72;have t70:=L.t70;have a70:=L.a70;have z70:=L.z70;have v70:=L.v70;have u70:=run_underlying L.t70;have t37:=L.t37;have a37:=L.a37;have z37:=L.z37;have v37:=L.v37;have u37:=run_underlying L.t37;have t127:=L.t127;have a127:=L.a127;have z127:=L.z127;have v127:=L.v127;have u127:=run_underlying L.t127;have t3:=L.t3;have a3:=L.a3;have z3:=L.z3;have v3:=L.v3;have u3:=run_underlying L.t3;have t9:=L.t9;have a9:=L.a9;have z9:=L.z9;have v9:=L.v9;have u9:=run_underlying L.t9;have t5:=X.t5;have a5:=X.a5;have z5:=X.z5;have v5:=X.v5;have u5:=run_underlying X.t5
 go_enter L.f169,Body.n169_ntmps ρ
 go_wp2
 go_region_o
 all_goals (go_wp2;go_ret;exact⟨rfl,hA.drew,Below.drew (Below.refl B w),ES rfl⟩)
theorem ND (L:Lays.n169 P ρ)(X:Builder.Extra P ρ)(B b:Nat)(p:Value)(l:List UInt8)(w:World)(hA:Lib.BuilderAtF (ρ.t 72) (ρ.t 5) B b p (Lib.byteCells l) w)(hBw:B≤w.heap.size):
  Calls P (ρ.f 169) #[.pointer (some ⟨b,0,none⟩)] w fun e w'=>e= .returned (.string ⟨l.toArray⟩)∧(Lib.BuilderAtF (ρ.t 72) (ρ.t 5) B b p (Lib.byteCells l) w'∧Below B w w'∧Only b w w'):=by
 by_cases h0:l=[]
 ·subst h0;have hA':Lib.BuilderAtF (ρ.t 72) (ρ.t 5) B b p [] w:=hA;obtain⟨hB,v,hbk,hown,hne⟩:=hA;rcases hown.2 with⟨rfl,_⟩|⟨g,cap,cur,fz,rfl,hbg,hg,_,_,_,_,_⟩
  ·exact JC L X B b p w hbk hA'
  ·by_cases hc0:cap=0
   ·subst hc0;exact Ef L X B b g p cur w hBw hbk fz hg hA'
   ·exact Ig L X B b g cap p w hc0 hbk hA'
 ·exact Lw L X B b p l w hA h0
end
section
open Builtin renaming unsafeSliceData_ → aC
open List renaming map_cons → aB, append_assoc → aD, length_append → aH, size_toArray → aI
open Nat renaming le_refl → aA, le_trans → aE, lt_or_ge → aF, zero_le → aG, lt_of_lt_of_le → aJ
open Go.RowKit
theorem R.setB {P:Program}{B:Base P}{μ:Mu}{σ:Hp}{w w':World}(h:R B μ σ w){b:Nat}{x:Blk}{g:G}(hx:σ.m b=some x)(ho:x.own=true)(hg:μ b=some g)(hit:g.it=some .nilFunc){p':Value}(hp:p'= .pointer none∨p'= .pointer (some ⟨g.c,0,none⟩)){s:ByteArray}
  (hA:Lib.BuilderAtF g.ty P.rt.byte B.n g.c p' (Lib.strCells s) w') (hB:Below B.n w w') (hO:Only g.c w w') (rest:List Value) (hr:rest=[]):R B μ (σ.set b (some ⟨.string s::rest,true,x.es⟩)) w':=by
 subst hr;have hl:=h.get hx hg;obtain⟨hty,p0,s0,hp0,hcells,hA0⟩:=hl.bld hit
 have old: ∀b' x',b'≠b→(σ.set b (some ⟨[.string s],true,x.es⟩)).m b'=some x'→σ.m b'=some x':=by
  intro b' x' hb hx';simpa[Hp.set,hb]using hx'
 have new: ∀x',(σ.set b (some ⟨[.string s],true,x.es⟩)).m b=some x'→x'=⟨[.string s],true,x.es⟩:=by
  intro x' hx';simp[Hp.set]at hx';exact hx'.symm
 have oldl: ∀b' x',(σ.set b (some ⟨[.string s],true,x.es⟩)).m b'=some x'→∃y,σ.m b'=some y∧y.own=x'.own:=by
  intro b' x' hx';by_cases hb:b'=b
  ·subst hb;obtain rfl:=new x' hx';exact⟨x,hx,ho⟩
  ·exact⟨x',old b' x' hb hx',rfl⟩
 have cne: ∀b' x' g',b'≠b→σ.m b'=some x'→μ b'=some g'→g'.c≠g.c:=fun b' x' g' hb hx' hg' e=>h.inj b b' x x' g g' hx hx' (fun e=>hb e.symm) ho hg hg' e.symm
 have same: ∀b' x' g',b'≠b→σ.m b'=some x'→μ b'=some g'→w'.heap[g'.c]?=w.heap[g'.c]?:=fun b' x' g' hb hx' hg'=>
  hO.oth _ (h.get hx' hg').lt (cne b' x' g' hb hx' hg') (fun hk=>(h.sep b x g hx hg hit _ hk b' x' g' hx' hg').1 rfl)
 have bsame: ∀b' x' g',b'≠b→σ.m b'=some x'→μ b'=some g'→cV w' g'.c=cV w g'.c:=fun b' x' g' hb hx' hg'=>by
  unfold cV;rw[same b' x' g' hb hx' hg']
 refine⟨aE h.base hB.size,fun k hk=>(hB.block k hk).trans (h.old k hk),h.fresh,fun b' x' hx'=> ?_,fun b1 b2 x1 x2 g1 g2 h1 h2 hne hown hg1 hg2=> ?_,fun b1 x1 g1 h1 hg1 hi k hk b2 x2 g2 h2 hg2=> ?_⟩
 ·by_cases hb:b'=b
  ·subst hb;obtain rfl:=new x' hx';exact⟨g,hg,⟨aJ hl.lt hO.size,hl.es,fun h0=>(by rw[hit]at h0;cases h0),fun h0=>(by rw[hit]at h0;cases h0),fun s' hs=>(by rw[hit]at hs;injection hs with hs;cases hs),fun _=>⟨hty,p',s,hp,rfl,hA⟩,fun _ hs=>by rw[hit]at hs;injection hs with hs;cases hs⟩⟩
  ·have hx1:=old b' x' hb hx';obtain⟨g',k1,k2⟩:=h.live b' x' hx1;refine⟨g',k1,k2.kept hO.size (same b' x' g' hb hx1 k1) (fun hi k hk=>hO.oth k (h.buf hx1 k1 hi hk).2.1 (fun e=> ?_) (fun e=> ?_))⟩
   ·exact(h.sep b' x' g' hx1 k1 hi k hk b x g hx hg).1 e.symm
   ·exact(h.sep b' x' g' hx1 k1 hi k hk b x g hx hg).2 (fun e=>hb e.symm) hit e
 ·obtain⟨y1,hy1,e1⟩:=oldl _ _ h1;obtain⟨y2,hy2,_⟩:=oldl _ _ h2;exact h.inj b1 b2 y1 y2 g1 g2 hy1 hy2 hne (e1.trans hown) hg1 hg2
 ·obtain⟨y1,hy1,_⟩:=oldl _ _ h1;obtain⟨y2,hy2,_⟩:=oldl _ _ h2;by_cases e1:b1=b
  ·subst e1;rw[hg]at hg1;injection hg1 with hg1
   subst hg1;rcases hO.buf k hk with hk0|hk0
   ·obtain⟨m1,m2⟩:=h.sep b1 x g hx hg hit k hk0 b2 y2 g2 hy2 hg2;exact⟨m1,fun hne hi2=>by rw[bsame b2 y2 g2 hne hy2 hg2];exact m2 hne hi2⟩
   ·refine⟨fun e=>by have:=(h.get hy2 hg2).lt;omega,fun hne hi2 hk2=> ?_⟩;rw[bsame b2 y2 g2 hne hy2 hg2]at hk2;have:=(h.buf hy2 hg2 hi2 hk2).2.1;omega
  ·rw[bsame b1 y1 g1 e1 hy1 hg1]at hk;obtain⟨m1,m2⟩:=h.sep b1 y1 g1 hy1 hg1 hi k hk b2 y2 g2 hy2 hg2;refine⟨m1,fun hne hi2 hk2=> ?_⟩;by_cases e2:b2=b
   ·subst e2;rw[hg]at hg2;injection hg2 with hg2
    subst hg2;rcases hO.buf k hk2 with hk0|hk0
    ·exact m2 hne hi2 hk0
    ·have:=(h.buf hy1 hg1 hi hk).2.1;omega
   ·rw[bsame b2 y2 g2 e2 hy2 hg2]at hk2;exact m2 hne hi2 hk2
theorem Gb (s:ByteArray):(Lib.strCells s).length=s.size:=Lib.strCells_length s
theorem Ga (a b:ByteArray):Lib.strCells a++Lib.strCells b=Lib.strCells (a++b):=by
 rw[Lib.strCells_eq,Lib.strCells_eq,Lib.strCells_eq,←Lib.byteCells_append]
 congr 1
structure Blds (P:Program)(fw fs:FuncId):Prop where
 cw:lM P fw
 cs:lM P fs
 write: ∀(T:TypeId),yr P T=true→∀(B b:Nat) (p:Value),(p= .pointer none∨p= .pointer (some ⟨b,0,none⟩))→∀(bs:List Value) (s:ByteArray) (w:World),Lib.BuilderAtF T P.rt.byte B b p bs w→bs.length+s.size≤140737488355328→B≤w.heap.size→
  Calls P fw #[.pointer (some ⟨b,0,none⟩), .string s] w fun e w'=>e= .returned (.tuple #[.int .i64 s.size, .nilIface])∧(Lib.BuilderAtF T P.rt.byte B b (.pointer (some ⟨b,0,none⟩)) (bs++Lib.strCells s) w'∧Below B w w'∧Only b w w')
 str: ∀(T:TypeId),yr P T=true→∀(B b:Nat) (p:Value) (l:List UInt8) (w:World),Lib.BuilderAtF T P.rt.byte B b p (Lib.byteCells l) w→B≤w.heap.size→
  Calls P fs #[.pointer (some ⟨b,0,none⟩)] w fun e w'=>e= .returned (.string ⟨l.toArray⟩)∧(Lib.BuilderAtF T P.rt.byte B b p (Lib.byteCells l) w'∧Below B w w'∧Only b w w')
end
end Go.Ab
namespace Go.V
open Go.Ab Go.RowKit
section
open Builtin renaming unsafeSliceData_ → aC
open List renaming map_cons → aB, append_assoc → aD, length_append → aH, size_toArray → aI
open Nat renaming le_refl → aA, le_trans → aE, lt_or_ge → aF, zero_le → aG, lt_of_lt_of_le → aJ
def Em (a b:Nat):Bool:=Nat.ble (a+b) 140737488355328
def L3 {β:Type}(args:List VV)(S:ae)(k:VV→ae→Option β):Option β:=match args with
 |[.bld q, .str s]=>(match aa S q with
  | .cells 1 false [.str l]=>gd (Em l.length s.length) (k (.tup [.int .i64 s.length, .undef]) (dQ S q (.cells 1 false [.str (l++s)])))
  |_=>none)
 |_=>none
def L1 {β:Type}(args:List VV)(S:ae)(k:VV→ae→Option β):Option β:=match args with
 |[.bld q]=>(match aa S q with
  | .cells 1 false [.str l]=>k (.str l) S
  |_=>none)
 |_=>none
def Qo (f:FuncId):Inl:=⟨f,fun _ args S k=>L3 args S k⟩
def Qn (f:FuncId):Inl:=⟨f,fun _ args S k=>L1 args S k⟩
theorem VRel.bld_inv {c:Ctx}{q:Nat}{a:Value}(h:VRel c (.bld q) a): ∀d,(aa c.S q).dim=some d→∃b,c.μ q=some b∧a= .iface b .nilFunc:=by
 cases h with
 |bld _ _ hd=>exact hd
theorem NM {μ:Mu}{b:Nat}{a:Value}(h:VR μ (.iface b .nilFunc) a): ∃g,μ b=some g∧g.it=some .nilFunc∧a= .pointer (some ⟨g.c,0,none⟩):=by
 cases h with
 |iter h1 h2=>exact⟨_,h1,h2,rfl⟩
theorem Cc {P:Program}{fw fs:FuncId}(hP:Blds P fw fs):B3 P (Qo fw):=by
 intro B μ σ w args cargs K hs hR0 ha;obtain⟨β,y,c,vals,k,h1,hR,hf,hev,hK⟩:=hs;subst h1;replace hev:L3 vals c.S k=some y:=hev;unfold L3 at hev;split at hev
 ·rename_i q s;split at hev
  ·rename_i l hb;obtain⟨hgd,hev⟩:=ai hev;have hlen:=Nat.le_of_ble_eq_true hgd;cases hf with
   |cons f1 f2=>
   cases f2 with
   |cons f2 f3=>
   cases f3;have hdim:(aa c.S q).dim=some (1,1):=by rw[hb];rfl
   obtain⟨b,hm,rfl⟩:=f1.bld_inv _ hdim;obtain⟨sb,rfl,hsb⟩:=f2.str_inv;obtain⟨y0,cs,rest,q2,q3,q4,q5,q6⟩:=hR.block (k:=q) (d:=(1,1)) hdim hm;rw[hb]at q4 q6;simp only[Blk.vals]at q6;cases q6 with
   |cons r1 r2=>
   cases r2;obtain⟨lb,rfl,hlb⟩:=r1.str_inv;generalize hl':cargs.toList=cl at ha;cases ha with
   |cons k1 k2=>
   cases k2 with
   |cons k2 k3=>
   cases k3;cases k2;obtain⟨g,hg,hit,rfl⟩:=NM k1;have hc:cargs= #[.pointer (some ⟨g.c,0,none⟩), .string sb]:=Array.toList_inj.1 hl';subst hc;have hlv:=hR0.get q2 hg;obtain⟨hty,p,s0,hp,hcells,hA⟩:=hlv.bld hit;rw[q5]at hcells
   have hrest:rest=[]∧lb=s0:=by
    cases rest with
    |nil=>simp at hcells;exact⟨rfl,hcells⟩
    |cons z r=>simp at hcells
   obtain⟨rfl,rfl⟩:=hrest
   have hll:(Lib.strCells lb).length+sb.size≤140737488355328:=by
    rw[Gb,←ip,←ip,hlb,hsb];omega
   have ho:=q4 rfl;refine⟨hP.cw,(hP.write g.ty hty B.n g.c p hp _ sb w hA hll hR0.base).mono ?_⟩;rintro e w' ⟨rfl,hA',hB',hO'⟩;rw[Ga]at hA';have hR':=hR0.setB q2 ho hg hit (.inr rfl) hA' hB' hO' [] rfl
   have hw:Writes c q b (.cells 1 false [.str (l++s)]) ⟨[.string (lb++sb)],true,y0.es⟩:=
    ⟨by rw[hb];rfl,hm,by rw[hb];rfl,rfl,y0,[.string (lb++sb)],[],(1,1),q2,hdim,q3,rfl,by rw[q5];rfl,rfl, .cons (.str (by rw[←hlb,←hsb];exact xc lb sb)) .nil⟩
   refine⟨.tuple #[.int .i64 sb.size, .nilIface],_, .tuple #[.int .i64 sb.size, .nilIface],μ,rfl,hK _ _ ⟨.tup [.int .i64 s.length, .undef],_,rfl,hw.le hR,hw.rel hR,hw.calm hR (sG (eS (by rw[hdim];simp))), .tup (.cons ?_ (.cons (.undef _) .nil)),hev⟩,μ.le_refl,hR', .tuple (.cons (.int _ _) (.cons .nili .nil)),hB',rfl⟩;rw[←hsb,ip];exact .int _ _
  ·cases hev
 ·cases hev
theorem Cb {P:Program}{fw fs:FuncId}(hP:Blds P fw fs):B3 P (Qn fs):=by
 intro B μ σ w args cargs K hs hR0 ha;obtain⟨β,y,c,vals,k,h1,hR,hf,hev,hK⟩:=hs;subst h1;replace hev:L1 vals c.S k=some y:=hev;unfold L1 at hev;split at hev
 ·rename_i q;split at hev
  ·rename_i l hb;cases hf with
   |cons f1 f3=>
   cases f3;have hdim:(aa c.S q).dim=some (1,1):=by rw[hb];rfl
   obtain⟨b,hm,rfl⟩:=f1.bld_inv _ hdim;obtain⟨y0,cs,rest,q2,q3,q4,q5,q6⟩:=hR.block (k:=q) (d:=(1,1)) hdim hm;rw[hb]at q4 q6;simp only[Blk.vals]at q6;cases q6 with
   |cons r1 r2=>
   cases r2;obtain⟨lb,rfl,hlb⟩:=r1.str_inv;generalize hl':cargs.toList=cl at ha;cases ha with
   |cons k1 k3=>
   cases k3;obtain⟨g,hg,hit,rfl⟩:=NM k1;have hc:cargs= #[.pointer (some ⟨g.c,0,none⟩)]:=Array.toList_inj.1 hl';subst hc;have hlv:=hR0.get q2 hg;obtain⟨hty,p,s0,hp,hcells,hA⟩:=hlv.bld hit;rw[q5]at hcells
   have hrest:rest=[]∧lb=s0:=by
    cases rest with
    |nil=>simp at hcells;exact⟨rfl,hcells⟩
    |cons z r=>simp at hcells
   obtain⟨rfl,rfl⟩:=hrest;have ho:=q4 rfl;have hA2:Lib.BuilderAtF g.ty P.rt.byte B.n g.c p (Lib.byteCells lb.data.toList) w:=hA;refine⟨hP.cs,(hP.str g.ty hty B.n g.c p _ w hA2 hR0.base).mono ?_⟩;rintro e w' ⟨rfl,hA',hB',hO'⟩;have hR':=hR0.setB (s:=lb) q2 ho hg hit hp hA' hB' hO' [] rfl
   have hw:Writes c q b (.cells 1 false [.str l]) ⟨[.string lb],true,y0.es⟩:=
    ⟨by rw[hb];rfl,hm,by rw[hb],rfl,y0,[.string lb],[],(1,1),q2,hdim,q3,rfl,by rw[q5];rfl,rfl, .cons (.str hlb) .nil⟩
   have hsame:dQ c.S q (.cells 1 false [.str l])=c.S:=by
    rw[←hb];exact E0
   have hle:=hw.le hR;have hrl:=hw.rel hR;have hcm:=hw.calm hR (d:=yZ c.S.length) (sG (eS (by rw[hdim];simp)));rw[hsame]at hle hrl hcm;refine⟨.string lb,_, .string lb,μ, ?_,hK _ _ ⟨.str l,_,rfl,hle,hrl,hcm, .str hlb,hev⟩,μ.le_refl,hR', .string _,hB',rfl⟩;simp
  ·cases hev
 ·cases hev
def P6 (n:Int):List Int:=QW (Lib.itoa n)
def J1 (n:Int):Option (List Int):=gd (decide (-9223372036854775808≤n)&&decide (n≤9223372036854775807)) (some (P6 n))
end
end Go.V
