/- A part of the proofs of this claim: what functions of the program answer on an abstract machine, and plain laws. No condition. -/
import Derived.Test.YtbocegmeciaanaaGreatA4
set_option linter.unusedVariables false
set_option linter.unusedSimpArgs false
set_option linter.unusedSectionVars false
namespace Go.V
open Go.Ab
section
variable {β:Type} {T:Ab.ig} {c:Ctx} {e:fa} {ea:dy} {d:List Nat} {k:VV→cf→Option β} {y:β}
theorem bR2 (s:ByteArray)(j:Nat):((ei s).getD j 0).toNat=(s.get! j).toNat:=by
 have e1:s.get! j=s.data[j]!:=rfl;rw[e1];unfold ei;rcases Nat.lt_or_ge j s.data.size with h'|h'
 ·rw[getElem!_pos s.data j h',List.getD_eq_getElem?_getD,List.getElem?_map,Array.getElem?_toList,Array.getElem?_eq_getElem h'];rfl
 ·rw[getElem!_neg s.data j (by omega),List.getD_eq_getElem?_getD,List.getElem?_map,Array.getElem?_toList,Array.getElem?_eq_none h'];rfl
theorem xf (s:ByteArray):(ei s).length=s.size:=by
 simp[ei]
theorem bf8 (s:ByteArray)(i:Nat):Utf8.decode s i=bi7 (ei s) i:=by
 unfold Utf8.decode bi7;simp only[bR2,xf]
theorem cd9 (hR:gb c)(he:cm c e ea){x:Operand}{l:List Int}(hx:ev e x= .str l)(h:k (.it c.S.length l) (c.S++[.cells 1 false [.int .i64 0]])=some y):db T (.range x) ea c.σ (iO c d k y):=by
 have hv:=de he x;rw[hx]at hv;obtain⟨s,hs,hl⟩:=hv.str_inv;refine dh (v:= .iface c.σ.n (.string s)) (σ':=c.σ.add ⟨[.int .i64 0],true,1⟩) (by simp only[AOp.run,hs]) ?_;refine iO.new (kill:=none) hR (bv0 hR (blk:= .cells 1 false [.int .i64 0]) (x:=⟨[.int .i64 0],true,1⟩) (d:=(1,1)) rfl (Nat.le_refl _) rfl rfl (.cons (.int _ _) .nil)) (fun _ h=>by cases h) ?_ h;refine .it (by simp[rz]) rfl hl fun d' _=>⟨c.σ.n, ?_,rfl⟩
 simp[um]
theorem cl2 (hR:gb c)(h:k (.bld c.S.length) (c.S++[.cells 1 false [.str []]])=some y):db T .newB ea c.σ (iO c d k y):=by
 refine dh (v:= .iface c.σ.n .nilFunc) (σ':=c.σ.add ⟨[.string ByteArray.empty],true,1⟩) (by simp only[AOp.run]) ?_;refine iO.new (kill:=none) hR (bv0 hR (blk:= .cells 1 false [.str []]) (x:=⟨[.string ByteArray.empty],true,1⟩) (d:=(1,1)) rfl (Nat.le_refl _) rfl rfl (.cons (.str rfl) .nil)) (fun _ h=>by cases h) ?_ h;refine .bld (by simp[rz]) rfl fun d' _=>⟨c.σ.n, ?_,rfl⟩
 simp[um]
theorem VRel.it_inv {q:Nat}{l:List Int}{a:Value}(h:VRel c (.it q l) a): ∃s,ei s=l∧∀d,(aD c.S q).dim=some d→∃b,c.μ q=some b∧a= .iface b (.string s):=by
 cases h with
 |it _ _ hs hd=>exact⟨_,hs,hd⟩
theorem cl4 (hR:gb c)(he:cm c e ea){x:Operand}(hd: ∀q,vh (ev e x)=some q→q∈d)(h:cc2 c.S (ev e x) k=some y):db T (.next x) ea c.σ (iO c d k y):=by
 have hv:=de he x;generalize ev e x=v at*;unfold cc2 at h;split at h
 ·rename_i q l;split at h
  ·rename_i es p r hb;obtain⟨h1,h2⟩:=cn h;rw[Bool.and_eq_true]at h1;have hp:=of_decide_eq_true h1.1;have hes:=Nat.le_of_ble_eq_true h1.2;generalize hax:ea.ev x=a at hv;obtain⟨s,hs,hdim⟩:=hv.it_inv
   ·skip
    obtain⟨b,hm,rfl⟩:=hdim (es,(VV.int .i64 p::r).length) (by rw[hb];rfl);obtain⟨y0,cs,rest,q2,q3,q4,q5,q6⟩:=hR.block (k:=q) (d:=(es,(VV.int .i64 p::r).length)) (by rw[hb];rfl) hm;rw[hb]at q4 q6;simp only[Blk.vals]at q6;cases q6 with
    |cons r1 r2=>
     rename_i c0 cr;cases r1;have hcells:y0.cells= .int .i64 p::(cr++rest):=q5;have hsz:s.size=l.length:=by rw[←hs,xf]
     by_cases hlt:p<l.length
     ·rw[decide_eq_true hlt,cond_true]at h2
      have hw:Writes c q b (.cells es false (.int .i64 (bB4 l p)::r)) ⟨.int .i64 (bB4 l p)::(cr++rest),true,y0.es⟩:=by
       refine⟨by rw[hb];rfl,hm,by rw[hb];rfl,rfl,y0, .int .i64 (bB4 l p)::cr,rest,(es,_),q2,by rw[hb];rfl,q3,rfl,by rw[hcells];rfl,rfl, .cons (.int _ _) r2⟩
      refine dh (v:= .tuple #[.bool true, .int .i64 p, .int .i32 (ce4 l p)]) (σ':=c.σ.set b (some ⟨.int .i64 (bB4 l p)::(cr++rest),true,y0.es⟩)) ?_ ⟨.tup [.bool true, .int .i64 p, .int .i32 (ce4 l p)],_,rfl,hw.le hR,hw.rel hR,hw.calm hR (hd q rfl), .tup (.cons (.bool _) (.cons (.int _ _) (.cons (.int _ _) .nil))),h2⟩;simp only[AOp.run,hax,q2];rw[if_pos (q4 rfl),hcells];simp only[];rw[if_pos hp,if_pos (by omega),bf8,hs];rfl
     ·rw[decide_eq_false hlt,cond_false]at h2;refine dh (v:= .tuple #[.bool false]) (σ':=c.σ) ?_ (iO.same hR (.tup (.cons (.bool _) .nil)) h2);simp only[AOp.run,hax,q2];rw[if_pos (q4 rfl),hcells];simp only[];rw[if_pos hp,if_neg (by omega)]
  ·cases h
 ·cases h
theorem ci9 (hR:gb c)(he:cm c e ea){x:Operand}{n:Int}(hx:aD2 (ev e x)=some n)(h:k (.str (ba7 n)) c.S=some y):db T (.encR x) ea c.σ (iO c d k y):=by
 have hv:=de he x
 have key:bZ8 (ea.ev x)=some n:=by
  generalize ea.ev x=a at hv;generalize ev e x=v at*;cases hv<;>simp only[aD2]at hx<;>first|(cases hx;done)|exact hx
 refine dh (v:= .string (Utf8.encode n)) (σ':=c.σ) ?_ (iO.same hR (.str rfl) h);simp only[AOp.run,key,Option.map_some]
theorem bx4 : ∀{cs:List VV} {as:List Value} {l:List Int},vn .u8 cs=some l→F2 (VRel c) cs as→yG as=some l
 |[],_,l,h,hf=>by
  cases hf;injection h with h
  subst h;rfl
 |v::cs,_,l,h,hf=>by
  cases hf with
  |cons h1 h2=>
   cases v with
   |int k' n=>
    unfold vn at h;by_cases hk:k'= .u8
    ·subst hk;rw[decide_eq_true rfl,cond_true]at h;cases hr:vn .u8 cs with
     |none=>rw[hr]at h;cases h
     |some r=>
      rw[hr]at h;injection h with h
      subst h;cases h1;unfold yG;rw[bx4 hr h2];rfl
    ·rw[decide_eq_false hk]at h;cases h
   |_=>cases h
theorem aW1 : ∀{l:List Int} {as:List Value},F2 (VRel c) (gr (.int .u8) l) as→yG as=some l
 |[],_,hf=>by cases hf;rfl
 |n::l,_,hf=>by
  cases hf with
  |cons h1 h2=>
   cases h1;unfold yG;rw[aW1 (l:=l) h2];rfl
theorem cx0 (l:List Int):ei (bK1 l)=l.map aU9:=by
 have key: ∀(l:List Int) (s:ByteArray),ei (l.foldl (fun r n=>r.push (UInt8.ofNat n.toNat)) s)=ei s++l.map aU9:=by
  intro l;induction l with
  |nil=>intro s;simp
  |cons n l ih=>
   intro s;rw[List.foldl_cons,ih,List.map_cons]
   have:ei (s.push (UInt8.ofNat n.toNat))=ei s++[aU9 n]:=by
    simp[ei,aU9,ByteArray.push]
   rw[this,List.append_assoc];rfl
 have:=key l ByteArray.empty;simpa[bK1,ei]using this
theorem cf7 (hR:gb c)(he:cm c e ea){x:Operand}(h:bK2 c.S (ev e x) k=some y):db T (.strOf x) ea c.σ (iO c d k y):=by
 have hv:=de he x
 have key: ∀(m:More) (l:List Int),(∀t,ev e x≠ .str t)→iZ c.S 1 (ev e x)=some m→(∀as,F2 (VRel c) m.cellsOf as→yG as=some l)→k (.str (l.map aU9)) c.S=some y→db T (.strOf x) ea c.σ (iO c d k y):=by
  intro m l hns hm hb hk;obtain⟨n,all,h1,h2,h3,h4,_⟩:=uy hR hm hv;have h5:=h2 n (Nat.le_refl _);rw[Nat.mul_one,List.take_of_length_le (by omega)]at h5;have h6:=hb all h4
  obtain⟨p,cp,hp⟩: ∃p cp,ea.ev x= .slice p n cp:=by
   generalize ea.ev x=a at*;cases a<;>simp[ai5]at h1
   ·generalize ev e x=v at*
    have hdm: ∀q,(iZ c.S 1 (.full q)=some m∨∃o n,iZ c.S 1 (.part q o n)=some m)→∃d,(aD c.S q).dim=some d:=by
     intro q hq;cases hg:aD c.S q with
     |dead=>rcases hq with hq|⟨_,_,hq⟩<;>simp[iZ,hg]at hq
     |cells es z l=>exact⟨_,rfl⟩
     |arr s z l=>exact⟨_,rfl⟩
    cases hv with
    |str _=>exact(hns _ rfl).elim
    |undef=>simp[iZ]at hm
    |ptr _ _ _=>simp[iZ]at hm
    |it _ _ _ _=>simp[iZ]at hm
    |bld _ _ _=>simp[iZ]at hm
    |pix _ _ _ _=>simp[iZ]at hm
    |pel _ _ _=>simp[iZ]at hm
    |tgtn _=>simp[iZ]at hm
    |full _ _ hd=>
     obtain⟨d,hd'⟩:=hdm _ (.inl hm);obtain⟨_,_,hs⟩:=hd d hd';rcases hs with⟨e,_⟩|⟨_,_,_,e,_⟩<;>cases e
    |part _ _ hd=>
     obtain⟨d,hd'⟩:=hdm _ (.inr ⟨_,_,hm⟩);rcases hd d hd' with⟨e,_⟩|⟨_,_,_,e,_⟩<;>cases e
   ·subst h1;exact⟨_,_,rfl⟩
  refine dh (v:= .string (bK1 l)) (σ':=c.σ) ?_ (iO.same hR (.str (cx0 l)) hk);rw[hp]at h5;simp only[AOp.run,hp,h5,h6,Option.map_some]
 unfold bK2 at h;split at h
 ·cases h
 ·rename_i hns;split at h
  ·rename_i s l hm;by_cases hs:s= .int .u8
   ·subst hs;rw[ll]at h;exact key _ l (fun t ht=>hns t ht) hm (fun as ha=>aW1 ha) h
   ·unfold na at h;rw[dif_neg (fun e=>hs (by injection e))]at h;cases h
  ·rename_i cs hm;cases hi:vn .u8 cs with
   |none=>rw[hi]at h;cases h
   |some l=>
    rw[hi]at h;exact key _ l (fun t ht=>hns t ht) hm (fun as ha=>bx4 hi ha) h
  ·cases h
theorem bh0 : ∀{cs:List VV} {as:List Value} {l:List Int},vn .i32 cs=some l→F2 (VRel c) cs as→yL as=some l
 |[],_,l,h,hf=>by
  cases hf;injection h with h
  subst h;rfl
 |v::cs,_,l,h,hf=>by
  cases hf with
  |cons h1 h2=>
   cases v with
   |int k' n=>
    unfold vn at h;by_cases hk:k'= .i32
    ·subst hk;rw[decide_eq_true rfl,cond_true]at h;cases hr:vn .i32 cs with
     |none=>rw[hr]at h;cases h
     |some r=>
      rw[hr]at h;injection h with h
      subst h;cases h1;unfold yL;rw[bh0 hr h2];rfl
    ·rw[decide_eq_false hk]at h;cases h
   |_=>cases h
theorem aW2 : ∀{l:List Int} {as:List Value},F2 (VRel c) (gr (.int .i32) l) as→yL as=some l
 |[],_,hf=>by cases hf;rfl
 |n::l,_,hf=>by
  cases hf with
  |cons h1 h2=>
   cases h1;unfold yL;rw[aW2 (l:=l) h2];rfl
theorem cx1 (l:List Int):ei (bK3 l)=l.flatMap ba7:=by
 have key: ∀(l:List Int) (s:ByteArray),ei (l.foldl (fun r n=>r++Utf8.encode n) s)=ei s++l.flatMap ba7:=by
  intro l;induction l with
  |nil=>intro s;simp
  |cons n l ih=>
   intro s;rw[List.foldl_cons,ih,List.flatMap_cons,aV0,List.append_assoc];rfl
 have:=key l ByteArray.empty;simpa[bK3,ei]using this
theorem cp5 (hR:gb c)(he:cm c e ea){x:Operand}(h:cf8 c.S (ev e x) k=some y):db T (.strOfR x) ea c.σ (iO c d k y):=by
 have hv:=de he x
 have key: ∀(m:More) (l:List Int),(∀t,ev e x≠ .str t)→iZ c.S 1 (ev e x)=some m→(∀as,F2 (VRel c) m.cellsOf as→yL as=some l)→k (.str (l.flatMap ba7)) c.S=some y→db T (.strOfR x) ea c.σ (iO c d k y):=by
  intro m l hns hm hb hk;obtain⟨n,all,h1,h2,h3,h4,_⟩:=uy hR hm hv;have h5:=h2 n (Nat.le_refl _);rw[Nat.mul_one,List.take_of_length_le (by omega)]at h5;have h6:=hb all h4
  obtain⟨p,cp,hp⟩: ∃p cp,ea.ev x= .slice p n cp:=by
   generalize ea.ev x=a at*;cases a<;>simp[ai5]at h1
   ·generalize ev e x=v at*
    have hdm: ∀q,(iZ c.S 1 (.full q)=some m∨∃o n,iZ c.S 1 (.part q o n)=some m)→∃d,(aD c.S q).dim=some d:=by
     intro q hq;cases hg:aD c.S q with
     |dead=>rcases hq with hq|⟨_,_,hq⟩<;>simp[iZ,hg]at hq
     |cells es z l=>exact⟨_,rfl⟩
     |arr s z l=>exact⟨_,rfl⟩
    cases hv with
    |str _=>exact(hns _ rfl).elim
    |undef=>simp[iZ]at hm
    |ptr _ _ _=>simp[iZ]at hm
    |it _ _ _ _=>simp[iZ]at hm
    |bld _ _ _=>simp[iZ]at hm
    |pix _ _ _ _=>simp[iZ]at hm
    |pel _ _ _=>simp[iZ]at hm
    |tgtn _=>simp[iZ]at hm
    |full _ _ hd=>
     obtain⟨d,hd'⟩:=hdm _ (.inl hm);obtain⟨_,_,hs⟩:=hd d hd';rcases hs with⟨e,_⟩|⟨_,_,_,e,_⟩<;>cases e
    |part _ _ hd=>
     obtain⟨d,hd'⟩:=hdm _ (.inr ⟨_,_,hm⟩);rcases hd d hd' with⟨e,_⟩|⟨_,_,_,e,_⟩<;>cases e
   ·subst h1;exact⟨_,_,rfl⟩
  refine dh (v:= .string (bK3 l)) (σ':=c.σ) ?_ (iO.same hR (.str (cx1 l)) hk);rw[hp]at h5;simp only[AOp.run,hp,h5,h6,Option.map_some]
 unfold cf8 at h;split at h
 ·cases h
 ·rename_i hns;split at h
  ·rename_i s l hm;by_cases hs:s= .int .i32
   ·subst hs;rw[ll]at h;exact key _ l (fun t ht=>hns t ht) hm (fun as ha=>aW2 ha) h
   ·unfold na at h;rw[dif_neg (fun e=>hs (by injection e))]at h;cases h
  ·rename_i cs hm;cases hi:vn .i32 cs with
   |none=>rw[hi]at h;cases h
   |some l=>
    rw[hi]at h;exact key _ l (fun t ht=>hns t ht) hm (fun as ha=>bh0 hi ha) h
  ·cases h
theorem bB5 (s:ByteArray): ∀(b i:Nat) (acc:Array Value),(Conv.runesFrom s b i acc).toList=acc.toList++(aZ3 b (ei s) i).map (Value.int .i32)
 |0,i,acc=>by simp[Conv.runesFrom,aZ3]
 |b+1,i,acc=>by
  unfold Conv.runesFrom aZ3;rw[xf];by_cases h:i<s.size
  ·rw[if_pos h,if_pos h,bB5 s b];simp only[Array.toList_push,List.append_assoc,List.map_cons,bf8];rfl
  ·rw[if_neg h,if_neg h];simp
theorem bV3 (s:ByteArray):nb s=(az9 (ei s)).map (Value.int .i32):=by
 unfold nb az9;rw[bB5,xf];rfl
theorem bg5 (k:IntKind): ∀l:List Int,F2 (VRel c) (gr (.int k) l) (l.map (Value.int k))
 |[]=> .nil
 |n::l=> .cons (.int k n) (bg5 k l)
theorem ce5 (hR:gb c)(he:cm c e ea){x:Operand}(h:bJ2 c.S (ev e x) k=some y):db T (.runesOf x) ea c.σ (iO c d k y):=by
 have hv:=de he x;unfold bJ2 at h;split at h
 ·rename_i l hx;obtain⟨hg,hk⟩:=cn h;have hg:=Nat.le_of_ble_eq_true hg;rw[hx]at hv;obtain⟨s,hs,hl⟩:=hv.str_inv;have hsz:s.size=l.length:=by rw[←hl,xf]
  have hra:=bV3 s;rw[hl]at hra;refine dh (v:= .slice (some ⟨c.σ.n,0,none⟩) (nb s).length (nb s).length) (σ':=c.σ.add ⟨nb s,true,1⟩) ?_ ?_
  ·simp only[AOp.run,hs];rw[if_pos (by omega)]
  ·have hlen:(nb s).length=(az9 l).length:=by rw[hra,List.length_map]
   have hmv:Moves c none (some c.σ.n) (.arr (.int .i32) false (az9 l)) (c.σ.add ⟨nb s,true,1⟩):=by
    refine⟨(fun b h _ hb=>by injection h with h;subst h;exact Nat.lt_irrefl _ (hR.fbl _ hb)),(fun _ h=>by cases h),fun q x hx=> ?_,Nat.le_succ _,fun i x hx _=> ?_,(1,(az9 l).length*1),rfl,Nat.le_refl _, .inr ⟨c.σ.n,⟨nb s,true,1⟩,nb s,[],rfl,if_pos rfl,rfl,fun _=>rfl,(List.append_nil _).symm,by rw[hra];exact bg5 _ _, .inl fun w hw=> ?_⟩⟩
    ·simp only[Hp.add]at hx⊢;split at hx
     ·omega
     ·have:=hR.ok q x hx;omega
    ·have:=hR.ok i x hx;simp only[Hp.add];rw[if_neg (by omega)];exact hx
    ·have:=hR.ok _ _ hw;omega
   refine iO.new (kill:=none) hR hmv (fun _ h=>by cases h) (vo (dm:=(1,(az9 l).length*1)) (n:=(nb s).length) (m:=(nb s).length) (yb:=⟨nb s,true,1⟩) rfl (by simp only;omega) (Nat.le_refl _) (if_pos rfl) ?_) hk;simp
 ·cases h
end
structure Still (c ct:Ctx):Prop where
 σ:ct.σ=c.σ
 nm: ∀b y,c.σ.m b=some y→¬c.mut b→¬ct.mut b
section
variable {c ct:Ctx}
theorem sm (h:Still c ct): ∀(s:Sh) (x:El s) (as:List Value),F2 (VRel c) (fe s x) as→F2 (VRel ct) (fe s x) as
 | .int k,n,as,hf=>by
  cases hf with
  |cons h1 h2=>cases h2;cases h1;exact .cons (.int _ _) .nil
 | .bool,b,as,hf=>by
  cases hf with
  |cons h1 h2=>cases h2;cases h1;exact .cons (.bool _) .nil
 | .str,l,as,hf=>by
  cases hf with
  |cons h1 h2=>cases h2;cases h1;exact .cons (.str (by assumption)) .nil
 | .list s,l,as,hf=>by
  cases hf with
  |cons h1 h2=>
   cases h2;refine .cons ?_ .nil;cases h1 with
   |lstn hq=>exact .lstn hq
   |lst hn hy he h3 h4 h5 h6=>
    refine .lst (h.nm _ _ hy hn) (by rw[h.σ];exact hy) he h3 h4 h5 ?_;clear hy he h4 h5 hn;subst h3;revert h6;rename_i b p cp y;generalize (y.cells.drop _).take _=as;clear y cp p b;intro h6;induction l generalizing as with
    |nil=>cases h6;exact .nil
    |cons x l ih=>
     rw[iy]at h6⊢;obtain⟨m1,m2,rfl,h7,h8⟩:=F2.app_left h6;exact(sm h s x m1 h7).append (ih _ h8)
 | .pair a b,x,as,hf=>by
  simp only[fe]at hf⊢;obtain⟨m1,m2,rfl,h7,h8⟩:=F2.app_left hf;exact(sm h a x.1 m1 h7).append (sm h b x.2 m2 h8)
theorem aL8 (h:Still c ct){s:Sh}{l:List (El s)}: ∀{as:List Value},F2 (VRel c) (gr s l) as→F2 (VRel ct) (gr s l) as:=by
 induction l with
 |nil=>intro as h6;cases h6;exact .nil
 |cons x l ih=>
  intro as h6;rw[iy]at h6⊢;obtain⟨m1,m2,rfl,h7,h8⟩:=F2.app_left h6;exact(sm h s x m1 h7).append (ih h8)
theorem w5.still (h:Still c ct){s:Sh}{l:List (El s)}{a:Value}(hl:w5 c s l a):w5 ct s l a:=by
 rcases hl with h1|⟨b,p,cp,y,h1,h2,h3,h4,h5,h6⟩
 ·exact .inl h1
 ·exact .inr ⟨b,p,cp,y,h1,by rw[h.σ];exact h2,h3,h4,h5,aL8 h h6⟩
structure Sub (st st':DSt):Prop where
 m: ∃t,st'.m=st.m++t
 lent: ∀k∈st.lent,k∈st'.lent
theorem Sub.refl (st:DSt):Sub st st:=⟨⟨[],by simp⟩,fun _ h=>h⟩
theorem Sub.trans {a b d:DSt}(h:Sub a b)(k:Sub b d):Sub a d:=by
 obtain⟨t,h1⟩:=h.m;obtain⟨u,h2⟩:=k.m;exact⟨⟨t++u,by rw[h2,h1,List.append_assoc]⟩,fun i hi=>k.lent i (h.lent i hi)⟩
def ak4 (N:Nat)(m:List (Option Src))(j:Nat)(x:Option Src):Prop:=(j<N∧x=some ⟨j,none⟩)∨(N≤j∧nth m (j-N)=some x)
theorem aD9 {α:Type}{l t:List α}{i:Nat}{x:α}(h:nth l i=some x):nth (l++t) i=some x:=by
 rw[vP]at h⊢
 have hi:i<l.length:=by
  rcases Nat.lt_or_ge i l.length with h1|h1
  ·exact h1
  ·rw[List.getElem?_eq_none h1]at h;cases h
 rw[List.getElem?_append_left hi];exact h
theorem ak4.sub {N:Nat}{st st':DSt}(hs:Sub st st'){j:Nat}{x:Option Src}(h:ak4 N st.m j x):ak4 N st'.m j x:=by
 rcases h with h|⟨h1,h2⟩
 ·exact .inl h
 ·obtain⟨t,h3⟩:=hs.m;exact .inr ⟨h1,by rw[h3];exact aD9 h2⟩
theorem yg {N:Nat}{st st':DSt}{j:Nat}{x:Option Src}(h:st.link N j x=some st'):ak4 N st'.m j x∧st'.ls=st.ls∧st'.lent=st.lent∧Sub st st':=by
 unfold DSt.link at h;cases hb:Nat.blt j N with
 |true=>
  rw[hb,cond_true]at h;split at h
  ·rename_i k;cases hk:Nat.beq k j with
   |false=>rw[hk]at h;cases h
   |true=>
    rw[hk]at h;injection h with h
    subst h;have:=Nat.eq_of_beq_eq_true hk;subst this;exact⟨.inl ⟨Nat.le_of_ble_eq_true hb,rfl⟩,rfl,rfl,Sub.refl _⟩
  ·cases h
 |false=>
  rw[hb,cond_false]at h
  have hN:N≤j:=by
   rcases Nat.lt_or_ge j N with h1|h1
   ·rw[show Nat.blt j N=true from Nat.ble_eq_true_of_le h1]at hb;cases hb
   ·exact h1
  split at h
  ·rename_i k hn;split at h
   ·rename_i k';cases hk:Nat.beq k k' with
    |false=>rw[hk]at h;cases h
    |true=>
     rw[hk]at h;injection h with h
     subst h;have:=Nat.eq_of_beq_eq_true hk;subst this;exact⟨.inr ⟨hN,hn⟩,rfl,rfl,Sub.refl _⟩
   ·cases h
  ·cases h
  ·rename_i hn;cases hk:Nat.beq (j-N) st.m.length with
   |false=>rw[hk]at h;cases h
   |true=>
    rw[hk]at h;injection h with h
    subst h;have:=Nat.eq_of_beq_eq_true hk;refine⟨.inr ⟨hN, ?_⟩,rfl,rfl,⟨⟨[x],rfl⟩,fun _ h=>h⟩⟩;rw[vP,this];simp
def Lk (c ct:Ctx)(x:Option Src)(k':Nat):Prop:=k'<ct.S.length∧∀d',(aD ct.S k').dim=some d'→match x with
 |none=>d'.2=0∧ct.μ k'=none
 |some ⟨k,cut⟩=> ∃d,(aD c.S k).dim=some d∧d'.1=d.1∧ct.μ k'=c.μ k∧(match cut with
  |none=>d'.2=d.2
  |some n=>d'.2=min (n*d.1) d.2)
structure Tell (c ct:Ctx)(N:Nat)(f:Nat→Nat)(stf:DSt):Prop extends Still c ct where
 lk: ∀j x,ak4 N stf.m j x→Lk c ct x (f j)
 lent: ∀k,k∈stf.lent→(aD c.S k).dim≠none→∀b,c.μ k=some b→¬ct.mut b
theorem SlR.tell {k k' n:Nat}{d:Nat×Nat}{d2':Nat}{a:Value}(hσ:ct.σ=c.σ)(hμ:ct.μ k'=c.μ k)(h2:d2'=n*d.1)(h:SlR c k 0 n d a):SlR ct k' 0 n (d.1,d2') a:=by
 rcases h with⟨h1,_,h3,h4,h5⟩|⟨b,cp,y,h1,h3,h4,h5,h6,h7⟩
 ·exact .inl ⟨h1,rfl,h3,hμ.trans h4,by rw[h2,h3];simp⟩
 ·exact .inr ⟨b,cp,y,h1,hμ.trans h3,by rw[h2,Nat.zero_add];exact Nat.le_refl _,h5,by rw[hσ];exact h6,h7⟩
theorem bR5 {N:Nat}{f:Nat→Nat}{stf:DSt}(hR:gb c)(hT:Tell c ct N f stf){s:Sh}{v:VV}{l:List (El s)}{a:Value}(h:bN3 c.S s v=some l)(hv:VRel c v a)(hl: ∀k,aI0 v=some k→k∈stf.lent):VRel ct (.lst s l) a:=by
 obtain⟨h1,h2⟩:=ca8 hR h hv;refine(h1.still hT.toStill).rel fun b p n cp e hc=> ?_
 rcases h2 b p n cp e hc with h3|⟨k,h3,h4,h5⟩
 ·rcases h1 with⟨q,e1,_⟩|⟨b',p',cp',y,e1,e2,_⟩
  ·rw[e1]at e;injection e with _ _ e
   exact(hc e.symm).elim
  ·rw[e1]at e;injection e with e _ _
   injection e with e
   injection e with e
   subst e;exact hT.nm _ _ e2 h3
 ·exact hT.lent k (hl k h3) h4 b h5
theorem bh2 {st:DSt}{v:VV}:(∀k,aI0 v=some k→k∈(st.lend v).lent)∧(st.lend v).m=st.m∧(st.lend v).ls=st.ls∧(∀k∈st.lent,k∈(st.lend v).lent):=by
 cases v<;>refine⟨fun k h=> ?_,rfl,rfl,fun k h=> ?_⟩<;>first|(cases h;done)|(injection h with h;subst h;exact List.mem_cons_self)|exact List.mem_cons_of_mem _ h|exact h
mutual
theorem ci2 {S:cf}{N:Nat}: ∀(sk:Sk) (v:VV) (st st1:DSt),dec S N sk v st=some st1→Sub st st1
 | .undef,v,st,st1,h=>by
  simp only[dec]at h;injection h with h;subst h;exact Sub.refl _
 | .leaf s,v,st,st1,h=>by
  simp only[dec]at h;split at h
  ·rename_i k k' n;cases hk:decide (k'=k)with
   |false=>rw[hk]at h;cases h
   |true=>rw[hk]at h;injection h with h;subst h;exact⟨⟨[],by simp[DSt.push]⟩,fun _ h=>h⟩
  ·injection h with h;subst h;exact⟨⟨[],by simp[DSt.push]⟩,fun _ h=>h⟩
  ·injection h with h;subst h;exact⟨⟨[],by simp[DSt.push]⟩,fun _ h=>h⟩
  ·rename_i s;obtain⟨l,h1,h2⟩:=ce h;injection h2 with h2;subst h2
   obtain⟨_,h4,_,h6⟩:= @bh2 st v;exact⟨⟨[],by simp[DSt.push,h4]⟩,h6⟩
  ·cases h
 | .cint k n,v,st,st1,h=>by
  cases v<;>simp only[dec]at h<;>try(cases h;done)
  rename_i k' n';cases hk:(decide (k'=k)&&decide (n'=n))with
  |false=>rw[hk]at h;cases h
  |true=>rw[hk]at h;injection h with h;subst h;exact Sub.refl _
 | .nilp,v,st,st1,h=>by
  cases v<;>simp only[dec]at h<;>try(cases h;done)
  injection h with h;subst h;exact Sub.refl _
 | .nils,v,st,st1,h=>by
  cases v<;>simp only[dec]at h<;>try(cases h;done)
  injection h with h;subst h;exact Sub.refl _
 | .nilf,v,st,st1,h=>by
  cases v<;>simp only[dec]at h<;>try(cases h;done)
  injection h with h;subst h;exact Sub.refl _
 | .ptr j o,v,st,st1,h=>by
  cases v<;>simp only[dec]at h<;>try(cases h;done)
  rename_i k o';cases hk:Nat.beq o o' with
  |false=>rw[hk]at h;cases h
  |true=>rw[hk,cond_true]at h;exact(yg h).2.2.2
 | .full j,v,st,st1,h=>by
  simp only[dec]at h;split at h
  ·exact(yg h).2.2.2
  ·exact(yg h).2.2.2
  ·exact(yg h).2.2.2
  ·cases h
 | .pin s o,v,st,st1,h=>by
  cases v<;>simp only[dec]at h<;>try(cases h;done)
  rename_i s' x o';cases hk:Nat.beq o o' with
  |false=>rw[hk]at h;cases h
  |true=>
   rw[hk]at h;obtain⟨y,h1,h2⟩:=ce h;injection h2 with h2;subst h2;exact⟨⟨[],by simp[DSt.push]⟩,fun _ h=>h⟩
 | .fn g a b,v,st,st1,h=>by
  cases v<;>simp only[dec]at h<;>try(cases h;done)
  rename_i g' a' b';cases hk:Nat.beq g g' with
  |false=>rw[hk]at h;cases h
  |true=>
   rw[hk]at h;obtain⟨st2,h1,h2⟩:=ce h;exact(tO a a' st st2 h1).trans (tO b b' st2 st1 h2)
 | .agg l,v,st,st1,h=>by
  cases v<;>simp only[dec]at h<;>try(cases h;done)
  exact tO l _ st st1 h
 | .tup l,v,st,st1,h=>by
  cases v<;>simp only[dec]at h<;>try(cases h;done)
  exact tO l _ st st1 h
theorem tO {S:cf}{N:Nat}: ∀(l:List Sk) (vs:List VV) (st st1:DSt),ay5 S N l vs st=some st1→Sub st st1
 |[],vs,st,st1,h=>by
  cases vs<;>simp only[ay5]at h<;>try(cases h;done)
  injection h with h;subst h;exact Sub.refl _
 |k::r,vs,st,st1,h=>by
  cases vs with
  |nil=>simp only[ay5]at h;cases h
  |cons v vs=>
   simp only[ay5]at h;obtain⟨st2,h1,h2⟩:=ce h;exact(ci2 k v st st2 h1).trans (tO r vs st2 st1 h2)
end
theorem bS5 {N:Nat}{f:Nat→Nat}{stf:DSt}(hT:Tell c ct N f stf){j k:Nat}{a:Value}(hl:ak4 N stf.m j (some ⟨k,none⟩))(hv:VRel c (.full k) a):VRel ct (.full (f j)) a:=by
 obtain⟨h1,h2⟩:=hT.lk _ _ hl;cases hv with
 |full hk ho hd=>
  refine .full h1 ho fun d' hd'=> ?_
  obtain⟨d,h3,h4,h5,h6⟩:=h2 d' hd';obtain⟨n,h7,h8⟩:=hd d h3;simp only at h6;refine⟨n,by rw[h4,h6];exact h7, ?_⟩;have:=h8.tell hT.σ h5 (d2':=d'.2) (by rw[h6,h7]);rw[←h4]at this;exact this
theorem bZ0 {N:Nat}{f:Nat→Nat}{stf:DSt}(hT:Tell c ct N f stf){j k n:Nat}{a:Value}(hl:ak4 N stf.m j (some ⟨k,some n⟩))(hv:VRel c (.part k 0 n) a):VRel ct (.full (f j)) a:=by
 obtain⟨h1,h2⟩:=hT.lk _ _ hl;cases hv with
 |part hk ho hd=>
  refine .full h1 ho fun d' hd'=> ?_
  obtain⟨d,h3,h4,h5,h6⟩:=h2 d' hd';simp only at h6
  have h7:n*d.1≤d.2:=by
   rcases hd d h3 with⟨_,_,e,_,_⟩|⟨_,_,_,_,_,e,_⟩
   ·rw[e];simp
   ·rwa [Nat.zero_add]at e
  rw[Nat.min_eq_left h7]at h6;refine⟨n,by rw[h4,h6], ?_⟩;have:=(hd d h3).tell hT.σ h5 (d2':=d'.2) h6;rw[←h4]at this;exact this
theorem cc3 {N:Nat}{f:Nat→Nat}{stf:DSt}(hT:Tell c ct N f stf){j:Nat}(hl:ak4 N stf.m j none):VRel ct (.full (f j)) (.slice none 0 0):=by
 obtain⟨h1,h2⟩:=hT.lk _ _ hl;refine .full h1 rfl fun d' hd'=> ?_
 obtain⟨h3,h4⟩:=h2 d' hd';exact⟨0,by rw[h3];simp, .inl ⟨rfl,rfl,rfl,h4,h3⟩⟩
mutual
theorem ci3 {N:Nat}{f:Nat→Nat}{stf:DSt}(hR:gb c)(hT:Tell c ct N f stf): ∀(sk:Sk) (v:VV) (st st1:DSt) (a:Value),dec c.S N sk v st=some st1→Sub st1 stf→VRel c v a→
  ∃new,st1.ls=st.ls++new∧∀rest,∃v',enc f sk (new++rest)=some (v',rest)∧VRel ct v' a
 | .undef,v,st,st1,a,h,hs,hv=>by
  simp only[dec]at h;injection h with h;subst h
  exact⟨[],by simp,fun rest=>⟨.undef,by simp[enc], .undef _⟩⟩
 | .leaf s,v,st,st1,a,h,hs,hv=>by
  simp only[dec]at h;split at h
  ·rename_i k k' n;cases hk:decide (k'=k)with
   |false=>rw[hk]at h;cases h
   |true=>
    rw[hk]at h;injection h with h;subst h
    have:=of_decide_eq_true hk;subst this;refine⟨[⟨.int k',n⟩],rfl,fun rest=>⟨.int k' n, ?_, ?_⟩⟩
    ·simp only[List.singleton_append,enc,ll,Option.bind_some]
    ·rw[hv.int_inv];exact .int _ _
  ·rename_i b;injection h with h;subst h
   refine⟨[⟨.bool,b⟩],rfl,fun rest=>⟨.bool b, ?_, ?_⟩⟩
   ·simp only[List.singleton_append,enc,ll,Option.bind_some]
   ·rw[hv.bool_inv];exact .bool _
  ·rename_i l;injection h with h;subst h
   refine⟨[⟨.str,l⟩],rfl,fun rest=>⟨.str l, ?_, ?_⟩⟩
   ·simp only[List.singleton_append,enc,ll,Option.bind_some]
   ·obtain⟨s,h1,h2⟩:=hv.str_inv;rw[h1];exact .str h2
  ·rename_i s;obtain⟨l,h1,h2⟩:=ce h;injection h2 with h2;subst h2
   obtain⟨h3,h4,h5,h6⟩:= @bh2 st v;refine⟨[⟨.list s,l⟩],by simp[DSt.push,h5],fun rest=>⟨.lst s l, ?_, ?_⟩⟩
   ·simp only[List.singleton_append,enc,ll,Option.bind_some]
   ·exact bR5 hR hT h1 hv fun k hk=>hs.lent k (h3 k hk)
  ·cases h
 | .cint k n,v,st,st1,a,h,hs,hv=>by
  cases v<;>simp only[dec]at h<;>try(cases h;done)
  rename_i k' n';cases hk:(decide (k'=k)&&decide (n'=n))with
  |false=>rw[hk]at h;cases h
  |true=>
   rw[hk]at h;injection h with h;subst h
   rw[Bool.and_eq_true]at hk;have e1:=of_decide_eq_true hk.1;have e2:=of_decide_eq_true hk.2;subst e1;subst e2;refine⟨[],by simp,fun rest=>⟨.int k' n',by simp[enc], ?_⟩⟩;rw[hv.int_inv];exact .int _ _
 | .nilp,v,st,st1,a,h,hs,hv=>by
  cases v<;>simp only[dec]at h<;>try(cases h;done)
  injection h with h;subst h
  cases hv;exact⟨[],by simp,fun rest=>⟨.nilp,by simp[enc], .nilp⟩⟩
 | .nils,v,st,st1,a,h,hs,hv=>by
  cases v<;>simp only[dec]at h<;>try(cases h;done)
  injection h with h;subst h
  cases hv;exact⟨[],by simp,fun rest=>⟨.nils,by simp[enc], .nils⟩⟩
 | .nilf,v,st,st1,a,h,hs,hv=>by
  cases v<;>simp only[dec]at h<;>try(cases h;done)
  injection h with h;subst h
  cases hv;exact⟨[],by simp,fun rest=>⟨.nilf,by simp[enc], .nilf⟩⟩
 | .ptr j o,v,st,st1,a,h,hs,hv=>by
  cases v<;>simp only[dec]at h<;>try(cases h;done)
  rename_i k o';cases hk:Nat.beq o o' with
  |false=>rw[hk]at h;cases h
  |true=>
   rw[hk,cond_true]at h;have:=Nat.eq_of_beq_eq_true hk;subst this;obtain⟨h1,h2,h3,h4⟩:=yg h;obtain⟨h5,h6⟩:=hT.lk _ _ (h1.sub hs);refine⟨[],by simp[h2],fun rest=>⟨.ptr (f j) o,by simp[enc], ?_⟩⟩;cases hv with
   |ptr hk ho hd=>
    refine .ptr h5 ho fun d' hd'=> ?_
    obtain⟨d,h7,_,h8,_⟩:=h6 d' hd';obtain⟨b,h9,h10⟩:=hd d h7;exact⟨b,h8.trans h9,h10⟩
 | .full j,v,st,st1,a,h,hs,hv=>by
  simp only[dec]at h;split at h
  ·obtain⟨h1,h2,h3,h4⟩:=yg h;exact⟨[],by simp[h2],fun rest=>⟨.full (f j),by simp[enc],bS5 hT (h1.sub hs) hv⟩⟩
  ·obtain⟨h1,h2,h3,h4⟩:=yg h;exact⟨[],by simp[h2],fun rest=>⟨.full (f j),by simp[enc],bZ0 hT (h1.sub hs) hv⟩⟩
  ·obtain⟨h1,h2,h3,h4⟩:=yg h;cases hv;exact⟨[],by simp[h2],fun rest=>⟨.full (f j),by simp[enc],cc3 hT (h1.sub hs)⟩⟩
  ·cases h
 | .pin s o,v,st,st1,a,h,hs,hv=>by
  cases v<;>simp only[dec]at h<;>try(cases h;done)
  rename_i s' x o';cases hk:Nat.beq o o' with
  |false=>rw[hk]at h;cases h
  |true=>
   rw[hk,cond_true]at h;have:=Nat.eq_of_beq_eq_true hk;subst this;obtain⟨y,h1,h2⟩:=ce h;obtain⟨ee,h3⟩:=ob h1;cases ee;subst h3;injection h2 with h2;subst h2
   refine⟨[⟨s,y⟩],rfl,fun rest=>⟨.pin s y o, ?_, ?_⟩⟩
   ·simp only[List.singleton_append,enc,ll,Option.bind_some]
   ·cases hv with
    |pin hn hy hl hf=>exact .pin (hT.nm _ _ hy hn) (by rw[hT.σ];exact hy) hl (sm hT.toStill _ _ _ hf)
 | .fn g p q,v,st,st1,a,h,hs,hv=>by
  cases v<;>simp only[dec]at h<;>try(cases h;done)
  rename_i g' p' q';cases hk:Nat.beq g g' with
  |false=>rw[hk]at h;cases h
  |true=>
   rw[hk,cond_true]at h;have:=Nat.eq_of_beq_eq_true hk;subst this;obtain⟨st2,h1,h2⟩:=ce h;cases hv with
   |fn f1 f2=>
    obtain⟨new1,e1,e2⟩:=vj hR hT p p' st st2 _ h1 ((tO q q' st2 st1 h2).trans hs) f1;obtain⟨new2,e3,e4⟩:=vj hR hT q q' st2 st1 _ h2 hs f2;refine⟨new1++new2,by rw[e3,e1,List.append_assoc],fun rest=> ?_⟩;obtain⟨v1,e5,e6⟩:=e2 (new2++rest);obtain⟨v2,e7,e8⟩:=e4 rest;exact⟨.fn g v1 v2,by simp only[enc,List.append_assoc,e5,Option.bind_some,e7], .fn e6 e8⟩
 | .agg l,v,st,st1,a,h,hs,hv=>by
  cases v<;>simp only[dec]at h<;>try(cases h;done)
  cases hv with
  |agg f1=>
   obtain⟨new1,e1,e2⟩:=vj hR hT l _ st st1 _ h hs f1;refine⟨new1,e1,fun rest=> ?_⟩;obtain⟨v1,e5,e6⟩:=e2 rest;exact⟨.agg v1,by simp only[enc,e5,Option.bind_some], .agg e6⟩
 | .tup l,v,st,st1,a,h,hs,hv=>by
  cases v<;>simp only[dec]at h<;>try(cases h;done)
  cases hv with
  |tup f1=>
   obtain⟨new1,e1,e2⟩:=vj hR hT l _ st st1 _ h hs f1;refine⟨new1,e1,fun rest=> ?_⟩;obtain⟨v1,e5,e6⟩:=e2 rest;exact⟨.tup v1,by simp only[enc,e5,Option.bind_some], .tup e6⟩
theorem vj {N:Nat}{f:Nat→Nat}{stf:DSt}(hR:gb c)(hT:Tell c ct N f stf): ∀(l:List Sk) (vs:List VV) (st st1:DSt) (as:List Value),ay5 c.S N l vs st=some st1→Sub st1 stf→F2 (VRel c) vs as→
  ∃new,st1.ls=st.ls++new∧∀rest,∃vs',bd9 f l (new++rest)=some (vs',rest)∧F2 (VRel ct) vs' as
 |[],vs,st,st1,as,h,hs,hf=>by
  cases vs<;>simp only[ay5]at h<;>try(cases h;done)
  injection h with h;subst h
  cases hf;exact⟨[],by simp,fun rest=>⟨[],by simp[bd9], .nil⟩⟩
 |k::r,vs,st,st1,as,h,hs,hf=>by
  cases hf with
  |nil=>simp only[ay5]at h;cases h
  |cons f1 f2=>
   simp only[ay5]at h;obtain⟨st2,h1,h2⟩:=ce h;obtain⟨new1,e1,e2⟩:=ci3 hR hT k _ st st2 _ h1 ((tO r _ st2 st1 h2).trans hs) f1;obtain⟨new2,e3,e4⟩:=vj hR hT r _ st2 st1 _ h2 hs f2;refine⟨new1++new2,by rw[e3,e1,List.append_assoc],fun rest=> ?_⟩;obtain⟨v1,e5,e6⟩:=e2 (new2++rest);obtain⟨v2,e7,e8⟩:=e4 rest;exact⟨v1::v2,by simp only[bd9,List.append_assoc,e5,Option.bind_some,e7], .cons e6 e8⟩
end
def uD (c ct:Ctx)(o:OSk)(x:Option Src)(blk:Blk):Prop:=
 (o= .dead∧blk= .dead)∨(blk.frozen=o.ro∧match x with
  |none=>o.ro=false∧∃s,blk= .arr s false []
  |some ⟨k,cut⟩=>(o.ro=false→(aD c.S k).frozen=false)∧∃d,(aD c.S k).dim=some d∧(match cut with
   |none=>blk.dim=some d
   |some n=>blk.dim=some (d.1,min (n*d.1) d.2))∧∀cs,F2 (VRel c) (aD c.S k).vals cs→F2 (VRel ct) blk.vals (cs.take blk.vals.length))
theorem aC5 {S:cf}{N:Nat}{o:OSk}{x:Option Src}{st st1:DSt}(h:bG0 S N o x st=some st1):Sub st st1:=by
 unfold bG0 at h;split at h
 ·injection h with h;subst h;exact Sub.refl _
 ·split at h
  ·rename_i es ro l k _ es' fz cs hb;cases hk:(Nat.beq es es'&&(ro|| !fz))with
   |false=>rw[hk]at h;cases h
   |true=>
    rw[hk,cond_true]at h;have h1:=tO _ _ _ _ h;cases ro with
    |false=>exact h1
    |true=>exact Sub.trans ⟨⟨[],by simp⟩,fun _ h=>List.mem_cons_of_mem _ h⟩ h1
  ·cases h
 ·rename_i ro s;cases ro with
  |true=>cases h
  |false=>injection h with h;subst h;exact⟨⟨[],by simp[DSt.push]⟩,fun _ h=>h⟩
 ·rename_i ro s k cut;cases hk:(ro|| !(aD S k).frozen)with
  |false=>rw[hk]at h;cases h
  |true=>
   rw[hk,cond_true]at h;obtain⟨l,h1,h2⟩:=ce h;injection h2 with h2;subst h2
   cases ro with
   |false=>exact⟨⟨[],by simp[DSt.push]⟩,fun _ h=>h⟩
   |true=>exact⟨⟨[],by simp[DSt.push]⟩,fun _ h=>List.mem_cons_of_mem _ h⟩
 ·cases h
theorem bw5 {N:Nat}{f:Nat→Nat}{stf:DSt}(hR:gb c)(hT:Tell c ct N f stf){o:OSk}{x:Option Src}{st st1:DSt}(h:bG0 c.S N o x st=some st1)(hs:Sub st1 stf):
  ∃new,st1.ls=st.ls++new∧∀rest,∃blk,be0 f o (new++rest)=some (blk,rest)∧uD c ct o x blk:=by
 unfold bG0 at h;split at h
 ·injection h with h;subst h
  exact⟨[],by simp,fun rest=>⟨.dead,by simp[be0], .inl ⟨rfl,rfl⟩⟩⟩
 ·split at h
  ·rename_i es ro l k _ es' fz cs hb;cases hk:(Nat.beq es es'&&(ro|| !fz))with
   |false=>rw[hk]at h;cases h
   |true=>
    rw[hk,cond_true]at h;rw[Bool.and_eq_true]at hk;have he:=Nat.eq_of_beq_eq_true hk.1;subst he;have hdim:(aD c.S k).dim=some (es,cs.length):=by rw[hb];rfl
    obtain⟨h0,hblk⟩:=hR.blk k _ hdim
    have hf: ∃as,F2 (VRel c) cs as:=by
     rcases hblk with⟨e1,e2⟩|⟨b,y,as,rest,_,_,_,_,_,e3⟩
     ·have:cs=[]:=List.length_eq_zero_iff.1 e1;subst this;exact⟨[], .nil⟩
     ·rw[hb]at e3;exact⟨as,e3⟩
    obtain⟨as,hf⟩:=hf;obtain⟨new,e1,e2⟩:=vj hR hT l cs _ st1 as h hs hf;refine⟨new, ?_,fun rest=> ?_⟩
    ·rw[e1];cases ro<;>rfl
    ·obtain⟨vs,e3,e4⟩:=e2 rest;refine⟨.cells es ro vs,by simp only[be0,e3,Option.bind_some], .inr ⟨rfl,fun hro=> ?_,(es,cs.length),hdim, ?_,fun cs' hcs'=> ?_⟩⟩
     ·simp only[OSk.ro]at hro;subst hro;rw[hb];have:=hk.2;simp only[Bool.false_or,Bool.not_eq_true']at this;exact this
     ·simp only[Blk.dim];rw[e4.length,hf.length]
     ·rw[hb]at hcs';obtain⟨new',e1',e2'⟩:=vj hR hT l cs _ st1 cs' h hs hcs'
      have:new'=new:=by
       rw[e1]at e1';exact(List.append_cancel_left e1').symm
      subst this;obtain⟨vs',e3',e4'⟩:=e2' rest;rw[e3]at e3';injection e3' with e3'
      injection e3' with e3' _
      subst e3';rw[List.take_of_length_le (by rw[←e4'.length];exact Nat.le_refl _)];exact e4'
  ·cases h
 ·rename_i ro s;cases ro with
  |true=>cases h
  |false=>
   injection h with h;subst h
   refine⟨[⟨.list s,[]⟩],rfl,fun rest=>⟨.arr s false [], ?_, .inr ⟨rfl,rfl,s,rfl⟩⟩⟩;simp only[List.singleton_append,be0,ll,Option.bind_some]
 ·rename_i ro s k cut;cases hk:(ro|| !(aD c.S k).frozen)with
  |false=>rw[hk]at h;cases h
  |true=>
   rw[hk,cond_true]at h;obtain⟨l,h1,h2⟩:=ce h;injection h2 with h2;subst h2
   obtain⟨d,h3,h4,h5,h6⟩:=sV (lm hR s) h1;refine⟨[⟨.list s,aV3 cut l⟩],by cases ro<;>rfl,fun rest=>⟨.arr s ro (aV3 cut l), ?_, .inr ⟨rfl,fun hro=> ?_,d,h3, ?_,fun cs hcs=> ?_⟩⟩⟩
   ·simp only[List.singleton_append,be0,ll,Option.bind_some]
   ·simp only[OSk.ro]at hro;subst hro;simpa using hk
   ·cases cut with
    |none=>
     simp only[Blk.dim,aV3];rw[←h5,←h4]
    |some n=>
     simp only[Blk.dim,aV3,List.length_take];rw[h5,h4,←Nat.mul_min_mul_right]
   ·have h7:=aL8 hT.toStill (h6 cs hcs);have h8:cs.length=l.length*s.w:=by rw[←h7.length,iF]
    cases cut with
    |none=>
     simp only[Blk.vals,aV3];rw[List.take_of_length_le (by rw[iF];omega)];exact h7
    |some n=>
     simp only[Blk.vals,aV3];have h9:((gr s (l.take n)).length)=min (n*s.w) cs.length:=by rw[me,List.length_take,iF,h8]
     rw[h9,me,←List.take_take,List.take_length];exact h7.take (n*s.w)
 ·cases h
theorem ay4 {S:cf}{N:Nat}: ∀{os:List OSk} {js:List Nat} {st st1:DSt},aH4 S N os js st=some st1→Sub st st1
 |[],[],st,st1,h=>by injection h with h;subst h;exact Sub.refl _
 |[],_::_,st,st1,h=>by cases h
 |_::_,[],st,st1,h=>by cases h
 |o::os,j::js,st,st1,h=>by
  simp only[aH4]at h;obtain⟨st2,h1,h2⟩:=ce h;exact(aC5 h1).trans (ay4 h2)
theorem rq {S:cf}{N:Nat}: ∀{os:List OSk} {i:Nat} {st st1:DSt},tN S N os i st=some st1→Sub st st1
 |[],i,st,st1,h=>by
  simp only[tN]at h;cases hb:Nat.beq i st.m.length with
  |false=>rw[hb]at h;cases h
  |true=>rw[hb]at h;injection h with h;subst h;exact Sub.refl _
 |o::os,i,st,st1,h=>by
  simp only[tN]at h;split at h
  ·obtain⟨st2,h1,h2⟩:=ce h;exact(aC5 h1).trans (rq h2)
  ·cases h
inductive xZ (c ct:Ctx):List OSk→List Nat→List Blk→Prop where
 |nil:xZ c ct [] [] []
 |cons {o:OSk} {j:Nat} {b:Blk} {os:List OSk} {js:List Nat} {bs:List Blk}:uD c ct o (some ⟨j,none⟩) b→xZ c ct os js bs→xZ c ct (o::os) (j::js) (b::bs)
inductive uY (c ct:Ctx):List OSk→List (Option Src)→List Blk→Prop where
 |nil:uY c ct [] [] []
 |cons {o:OSk} {x:Option Src} {b:Blk} {os:List OSk} {xs:List (Option Src)} {bs:List Blk}:uD c ct o x b→uY c ct os xs bs→uY c ct (o::os) (x::xs) (b::bs)
theorem aV4 {N:Nat}{f:Nat→Nat}{stf:DSt}(hR:gb c)(hT:Tell c ct N f stf): ∀{os:List OSk} {js:List Nat} {st st1:DSt},aH4 c.S N os js st=some st1→Sub st1 stf→
  ∃new,st1.ls=st.ls++new∧∀rest,∃bs,ae7 f os (new++rest)=some (bs,rest)∧xZ c ct os js bs
 |[],[],st,st1,h,hs=>by injection h with h;subst h;exact⟨[],by simp,fun rest=>⟨[],by simp[ae7], .nil⟩⟩
 |[],_::_,st,st1,h,hs=>by cases h
 |_::_,[],st,st1,h,hs=>by cases h
 |o::os,j::js,st,st1,h,hs=>by
  simp only[aH4]at h;obtain⟨st2,h1,h2⟩:=ce h;obtain⟨new1,e1,e2⟩:=bw5 hR hT h1 ((ay4 h2).trans hs);obtain⟨new2,e3,e4⟩:=aV4 hR hT h2 hs;refine⟨new1++new2,by rw[e3,e1,List.append_assoc],fun rest=> ?_⟩;obtain⟨v1,e5,e6⟩:=e2 (new2++rest);obtain⟨v2,e7,e8⟩:=e4 rest;exact⟨v1::v2,by simp only[ae7,List.append_assoc,e5,Option.bind_some,e7], .cons e6 e8⟩
theorem aL3 {N:Nat}{f:Nat→Nat}{stf:DSt}(hR:gb c)(hT:Tell c ct N f stf): ∀{os:List OSk} {i:Nat} {st st1:DSt},tN c.S N os i st=some st1→Sub st1 stf→
  ∃new,st1.ls=st.ls++new∧i+os.length=st1.m.length∧∀rest,∃bs,ae7 f os (new++rest)=some (bs,rest)∧uY c ct os (st1.m.drop i) bs
 |[],i,st,st1,h,hs=>by
  simp only[tN]at h;cases hb:Nat.beq i st.m.length with
  |false=>rw[hb]at h;cases h
  |true=>
   rw[hb]at h;injection h with h;subst h
   have:=Nat.eq_of_beq_eq_true hb;subst this;exact⟨[],by simp,by simp,fun rest=>⟨[],by simp[ae7],by rw[List.drop_length];exact .nil⟩⟩
 |o::os,i,st,st1,h,hs=>by
  simp only[tN]at h;split at h
  ·rename_i x hx;obtain⟨st2,h1,h2⟩:=ce h;obtain⟨new1,e1,e2⟩:=bw5 hR hT h1 ((rq h2).trans hs);obtain⟨new2,e3,e3',e4⟩:=aL3 hR hT h2 hs;refine⟨new1++new2,by rw[e3,e1,List.append_assoc],by rw[←e3'];simp;omega,fun rest=> ?_⟩;obtain⟨v1,e5,e6⟩:=e2 (new2++rest);obtain⟨v2,e7,e8⟩:=e4 rest;refine⟨v1::v2,by simp only[ae7,List.append_assoc,e5,Option.bind_some,e7], ?_⟩;obtain⟨t1,t2⟩:=(aC5 h1).m;obtain⟨t3,t4⟩:=(rq h2).m
   have hx':st1.m[i]?=some x:=by
    rw[←vP,t4,t2];exact aD9 (aD9 hx)
   have hi:i<st1.m.length:=by
    rcases Nat.lt_or_ge i st1.m.length with h|h
    ·exact h
    ·rw[List.getElem?_eq_none h]at hx';cases hx'
   rw[List.drop_eq_getElem_cons hi];rw[List.getElem?_eq_getElem hi]at hx';injection hx' with hx'
   rw[hx'];exact .cons e6 e8
  ·cases h
theorem aH5 {N:Nat}{f:Nat→Nat}{fx:List Nat}{sk:xA}{vals:List VV}{as:List Value}{st:DSt}(hR:gb c)(hT:Tell c ct N f st)(h:qB c.S N fx sk vals=some st)(hf:F2 (VRel c) vals as):
  ∃vs fs bs,ru f sk st.ls=some (vs,fs,bs)∧F2 (VRel ct) vs as∧xZ c ct sk.fix fx fs∧uY c ct sk.free st.m bs:=by
 unfold qB at h;obtain⟨st1,h1,h⟩:=ce h;obtain⟨st2,h2,h⟩:=ce h;obtain⟨st3,h3,h⟩:=ce h
 have:st3=st:=by
  cases hb:(aw0 (fx++qC st3.m)&&ac1 (fx++kD sk.free st3.m) st3.lent)with
  |false=>rw[hb]at h;cases h
  |true=>rw[hb]at h;injection h
 subst this;obtain⟨n1,e1,f1⟩:=vj hR hT _ _ _ _ _ h1 ((ay4 h2).trans (rq h3)) hf;obtain⟨n2,e2,f2⟩:=aV4 hR hT h2 (rq h3);obtain⟨n3,e3,e4,f3⟩:=aL3 hR hT h3 (Sub.refl _);obtain⟨vs,g1,g2⟩:=f1 (n2++n3);obtain⟨fs,g3,g4⟩:=f2 n3;obtain⟨bs,g5,g6⟩:=f3 [];refine⟨vs,fs,bs, ?_,g2,g4,by rw[List.drop_zero]at g6;exact g6⟩;have hls:st3.ls=n1++(n2++n3):=by rw[e3,e2,e1];simp
 rw[List.append_nil]at g5;simp only[ru,hls,g1,Option.bind_some,g3,g5]
theorem rr {S:cf}{N:Nat}{fx:List Nat}{sk:xA}{vals:List VV}{st:DSt}(h:qB S N fx sk vals=some st):aw0 (fx++qC st.m)=true∧ac1 (fx++kD sk.free st.m) st.lent=true:=by
 unfold qB at h;obtain⟨st1,h1,h⟩:=ce h;obtain⟨st2,h2,h⟩:=ce h;obtain⟨st3,h3,h⟩:=ce h;cases hb:(aw0 (fx++qC st3.m)&&ac1 (fx++kD sk.free st3.m) st3.lent)with
 |false=>rw[hb]at h;cases h
 |true=>
  rw[hb]at h;injection h with h
  subst h
  rwa [Bool.and_eq_true]at hb
theorem aE0 : ∀{ss:List Sh} {ls:List Leaf} {t:Tup ss},ofL ss ls=some t→toL ss t=ls
 |[],ls,t,h=>by
  cases ls with
  |nil=>rfl
  |cons=>simp[ofL]at h
 |[s],ls,t,h=>by
  cases ls with
  |nil=>simp[ofL]at h
  |cons x ls=>
   cases ls with
   |nil=>
    simp only[ofL]at h;obtain⟨ee,h1⟩:=ob h;obtain⟨s',v⟩:=x;simp only at ee;subst ee;subst h1;rfl
   |cons=>simp[ofL]at h
 |s::s'::r,ls,t,h=>by
  cases ls with
  |nil=>simp[ofL]at h
  |cons x ls=>
   simp only[ofL]at h;obtain⟨a,h1,h⟩:=ce h;obtain⟨b,h2,h⟩:=ce h;injection h with h
   subst h;obtain⟨ee,h3⟩:=ob h1;obtain⟨s0,v⟩:=x;simp only at ee;subst ee;subst h3;simp only[toL];rw[aE0 h2]
end
def zq (c:Ctx):Option Src→Option Nat
 |none=>none
 |some x=>c.μ x.k
theorem xZ.get {c ct:Ctx}: ∀{os:List OSk} {js:List Nat} {bs:List Blk},xZ c ct os js bs→js.length=bs.length∧os.length=bs.length∧∀(i j:Nat) (b:Blk),js[i]?=some j→bs[i]?=some b→∃o,os[i]?=some o∧uD c ct o (some ⟨j,none⟩) b
 |_,_,_, .nil=>⟨rfl,rfl,fun i j b h=>by simp at h⟩
 |_,_,_, .cons h1 h2=>by
  obtain⟨e1,e2,e3⟩:=h2.get;refine⟨by simp[e1],by simp[e2],fun i j b hj hb=> ?_⟩;cases i with
  |zero=>
   simp at hj hb;subst hj;subst hb;exact⟨_,rfl,h1⟩
  |succ i=>
   simp at hj hb;obtain⟨o,h3,h4⟩:=e3 i j b hj hb;exact⟨o,by simpa using h3,h4⟩
theorem uY.get {c ct:Ctx}: ∀{os:List OSk} {xs:List (Option Src)} {bs:List Blk},uY c ct os xs bs→xs.length=bs.length∧os.length=bs.length∧∀(i:Nat) (x:Option Src) (b:Blk),xs[i]?=some x→bs[i]?=some b→∃o,os[i]?=some o∧uD c ct o x b
 |_,_,_, .nil=>⟨rfl,rfl,fun i j b h=>by simp at h⟩
 |_,_,_, .cons h1 h2=>by
  obtain⟨e1,e2,e3⟩:=h2.get;refine⟨by simp[e1],by simp[e2],fun i j b hj hb=> ?_⟩;cases i with
  |zero=>
   simp at hj hb;subst hj;subst hb;exact⟨_,rfl,h1⟩
  |succ i=>
   simp at hj hb;obtain⟨o,h3,h4⟩:=e3 i j b hj hb;exact⟨o,by simpa using h3,h4⟩
theorem uD.blkRel {c ct:Ctx}(hR:gb c)(hσ:ct.σ=c.σ){o:OSk}{x:Option Src}{b:Blk}{p:Nat}(h:uD c ct o x b)(hp:aD ct.S p=b)(hμ:b.dim≠none→ct.μ p=zq c x):aQ7 ct p:=by
 intro d' hd';rw[hp]at hd';have hμ2:ct.μ p=zq c x:=hμ (by rw[hd'];simp);clear hμ;rcases h with⟨_,h⟩|⟨h1,h2⟩
 ·subst h;cases hd'
 ·cases x with
  |none=>
   obtain⟨_,s,h3⟩:=h2;subst h3;injection hd' with hd'
   subst hd';exact⟨pz s, .inl ⟨by simp,by simpa[zq]using hμ2⟩⟩
  |some x=>
   obtain⟨k,cut⟩:=x;obtain⟨h3,d,h4,h5,h6⟩:=h2;simp only[zq]at hμ2;obtain⟨h7,h8⟩:=hR.blk k d h4
   have hd1:d'.1=d.1∧d'.2≤d.2:=by
    cases cut with
    |none=>
     simp only at h5;rw[h5]at hd';injection hd' with hd'
     subst hd';exact⟨rfl,Nat.le_refl _⟩
    |some n=>
     simp only at h5;rw[h5]at hd';injection hd' with hd'
     subst hd';exact⟨rfl,Nat.min_le_right _ _⟩
   refine⟨by rw[hd1.1];exact h7, ?_⟩;rcases h8 with⟨h9,h10⟩|⟨bb,y,cs,rest,h9,h10,h11,h12,h13,h14⟩
   ·exact .inl ⟨by omega,hμ2.trans h10⟩
   ·have hlen:b.vals.length=d'.2:=ab6 hd';refine .inr ⟨bb,y,cs.take b.vals.length,cs.drop b.vals.length++rest,hμ2.trans h9,by rw[hσ];exact h10,by rw[hd1.1];exact h11,fun hz=> ?_,by rw[←List.append_assoc,List.take_append_drop];exact h13, ?_⟩
    ·rw[hp,h1]at hz;exact h12 (h3 hz)
    ·rw[hp];exact h6 cs h14
theorem bL4 (f:Nat→Nat): ∀n,∃K,∀j,j<n→f j<K
 |0=>⟨0,fun j h=>by omega⟩
 |n+1=>by
  obtain⟨K,h⟩:=bL4 f n;refine⟨max K (f n+1),fun j hj=> ?_⟩;rcases Nat.lt_or_ge j n with h1|h1
  ·have:=h j h1;omega
  ·have:j=n:=by omega
   subst this;omega
theorem ao9 {n k:Nat}:aD (List.replicate n Blk.dead) k= .dead:=by
 induction n generalizing k with
 |zero=>rfl
 |succ n ih=>
  cases k with
  |zero=>rfl
  |succ k=>exact ih
theorem bf7 {c:Ctx}{N:Nat}{f:Nat→Nat}{fx:List Nat}{sk:xA}{vals:List VV}{as:List Value}{st:DSt}(hR:gb c)(h:qB c.S N fx sk vals=some st)(hf:F2 (VRel c) vals as):
  ∃ct0 vs fs bs,ru f sk st.ls=some (vs,fs,bs)∧xZ c ct0 sk.fix fx fs∧uY c ct0 sk.free st.m bs:=by
 obtain⟨K,hK⟩:=bL4 f (N+st.m.length)
 have hT:Tell c ⟨fun _=>none,List.replicate K .dead,c.σ,fun _=>False⟩ N f st:=by
  have hno: ∀b,¬(⟨fun _=>none,List.replicate K .dead,c.σ,fun _=>False⟩:Ctx).mut b:=by
   rintro b (⟨k,h1,_⟩|h)
   ·simp only[ao9]at h1;cases h1
   ·exact h
  refine⟨⟨rfl,fun b _ _ _=>hno b⟩,fun j x hl=>⟨?_,fun d' hd'=> ?_⟩,fun k _ _ b _=>hno b⟩
  ·simp only[List.length_replicate];refine hK j ?_;rcases hl with⟨h1,_⟩|⟨h1,h2⟩
   ·omega
   ·rw[vP]at h2;rcases Nat.lt_or_ge (j-N) st.m.length with h3|h3
    ·omega
    ·rw[List.getElem?_eq_none h3]at h2;cases h2
  ·simp only[ao9]at hd';cases hd'
 obtain⟨vs,fs,bs,h1,_,h2,h3⟩:=aH5 hR hT h hf;exact⟨_,vs,fs,bs,h1,h2,h3⟩
theorem mf {k:Nat}{l:List Nat}:oD k l=true↔k∈l:=by
 induction l with
 |nil=>simp[oD]
 |cons a l ih=>
  simp only[oD,List.mem_cons];cases h:Nat.beq a k with
  |true=>
   have:=Nat.eq_of_beq_eq_true h;simp[this]
  |false=>
   have:a≠k:=by rintro rfl;rw[Nat.beq_refl]at h;cases h
   rw[cond_false,ih];simp[Ne.symm this]
theorem rn {l:List Nat}:aw0 l=true→l.Nodup:=by
 induction l with
 |nil=>intro _;exact List.nodup_nil
 |cons a l ih=>
  intro h;simp only[aw0]at h;cases hm:oD a l with
  |true=>rw[hm]at h;cases h
  |false=>
   rw[hm]at h;refine List.nodup_cons.2 ⟨fun h1=> ?_,ih h⟩;rw[mf.2 h1]at hm;cases hm
theorem aW3 {w l:List Nat}(h:ac1 w l=true){k:Nat}(hk:k∈w):k∉l:=by
 intro h1;simp only[ac1,List.all_eq_true]at h;have:=h k hk;rw[mf.2 h1]at this;cases this
theorem xo {m:List (Option Src)}{i:Nat}{x:Src}(h:m[i]?=some (some x)):x.k∈qC m:=by
 induction m generalizing i with
 |nil=>simp at h
 |cons a m ih=>
  cases i with
  |zero=>
   simp at h;subst h;exact List.mem_cons_self
  |succ i=>
   simp at h;have:=ih h;cases a with
   |none=>exact this
   |some a=>exact List.mem_cons_of_mem _ this
theorem aD3 {m:List (Option Src)}(hn:(qC m).Nodup){i j:Nat}{x y:Src}(h:m[i]?=some (some x))(h':m[j]?=some (some y))(e:x.k=y.k):i=j:=by
 induction m generalizing i j with
 |nil=>simp at h
 |cons a m ih=>
  cases i with
  |zero=>
   simp at h;subst h;cases j with
   |zero=>rfl
   |succ j=>
    simp at h';have h1:=xo h';simp only[qC,List.nodup_cons]at hn;rw[e]at hn;exact(hn.1 h1).elim
  |succ i=>
   simp at h;cases j with
   |zero=>
    simp at h';subst h';have h1:=xo h;simp only[qC,List.nodup_cons]at hn;rw[←e]at hn;exact(hn.1 h1).elim
   |succ j=>
    simp at h'
    have hn':(qC m).Nodup:=by
     cases a with
     |none=>exact hn
     |some a=>exact(List.nodup_cons.1 hn).2
    rw[ih hn' h h']
theorem aG1 {os:List OSk}{m:List (Option Src)}{i:Nat}{x:Src}{o:OSk}(h:m[i]?=some (some x))(ho:os[i]?=some o)(hr:o.ro=false):x.k∈kD os m:=by
 induction m generalizing os i with
 |nil=>simp at h
 |cons a m ih=>
  cases os with
  |nil=>simp at ho
  |cons o' os=>
   cases i with
   |zero=>
    simp at h ho;subst h;subst ho;simp only[kD,hr,cond_false];exact List.mem_cons_self
   |succ i=>
    simp at h ho;have:=ih h ho;cases a with
    |none=>exact this
    |some a=>
     simp only[kD];cases o'.ro with
     |true=>exact this
     |false=>exact List.mem_cons_of_mem _ this
theorem cv0 {b:Blk}(h:b.may=true)(hd:b.dim≠none)(hz:b.frozen=true):False:=by
 cases b with
 |dead=>exact hd rfl
 |cells es z l=>simp only[Blk.may,Blk.frozen]at h hz;rw[hz]at h;cases h
 |arr s z l=>simp only[Blk.may,Blk.frozen]at h hz;rw[hz]at h;cases h
structure GT (c c' ct:Ctx)(N:Nat)(f:Nat→Nat)(fx:List Nat)(sk:xA)(st:DSt)(fs bs:List Blk):Prop where
 σ:ct.σ=c'.σ
 fb:ct.fb=c.fb
 len:ct.S.length=c.S.length+bs.length
 oth: ∀k,k<c.S.length→(∀j,j∈fx→f j≠k)→aD ct.S k=aD c.S k∨aD ct.S k=(aD c.S k).freeze∨(aD ct.S k= .dead∧(aD c.S k).frozen=false)
 fix: ∀(i j:Nat) (b:Blk),fx[i]?=some j→fs[i]?=some b→aD ct.S (f j)=b
 fixlt: ∀j,j∈fx→f j<c.S.length
 free: ∀(i:Nat) (b:Blk),bs[i]?=some b→aD ct.S (c.S.length+i)=b
 fN: ∀i,f (N+i)=c.S.length+i
 μo: ∀k,k<c.S.length→ct.μ k=c.μ k
 μn: ∀(i:Nat) (x:Option Src),st.m[i]?=some x→ct.μ (c.S.length+i)=zq c' x
 un: ∀b y,c.σ.m b=some y→¬c.own b→c'.σ.m b=some y
 ow: ∀b y,c.σ.m b=some y→¬c.own b→¬c'.own b
 n:c.σ.n≤c'.σ.n
 oun: ∀k,k<c.S.length→(∀j,j∈fx→f j≠k)→(aD ct.S k).dim≠none→∀b y,c.μ k=some b→c.σ.m b=some y→c'.σ.m b=some y
 odis: ∀k,k<c.S.length→(∀j,j∈fx→f j≠k)→(aD ct.S k).dim≠none→∀s,(s∈fx∨s∈qC st.m)→(aD c'.S s).frozen=false→∀b,c'.μ s=some b→c.μ k≠some b
 wr: ∀j,j∈fx→(aD c'.S j).dim≠none→(aD c.S (f j)).dim=(aD c'.S j).dim∧c'.μ j=c.μ (f j)∧∀b y,c.μ (f j)=some b→c.σ.m b=some y→∃y',c'.σ.m b=some y'∧y'.cells.length=y.cells.length
 wrz: ∀j,j∈fx→(aD c.S (f j)).may=true
 finj: ∀j j',j∈fx→j'∈fx→f j=f j'→j=j'
 fbk: ∀k b,(aD c'.S k).dim≠none→c'.μ k=some b→¬c.fb b
 lk: ∀j,j<N→j∉fx→Lk c' ct (some ⟨j,none⟩) (f j)
 onm: ∀k,k<c.S.length→(∀j,j∈fx→f j≠k)→(aD ct.S k).frozen=false→∀b y,c.μ k=some b→c'.σ.m b=some y→c'.mut b
 olent: ∀k,k<c.S.length→(∀j,j∈fx→f j≠k)→(aD ct.S k).frozen=false→∀s,s∈st.lent→(aD c'.S s).dim≠none→∀b,c'.μ s=some b→c.μ k≠some b
 fbm: ∀b,c.fb b→c'.mut b
 fxN: ∀j,j∈fx→j<N
 noro:sk.noRo=true
theorem GT.all {c c' ct:Ctx}{N:Nat}{f:Nat→Nat}{fx:List Nat}{sk:xA}{st:DSt}{fs bs:List Blk}{vals vs:List VV}{as:List Value}(g:GT c c' ct N f fx sk st fs bs)(hR:gb c)(hR':gb c')(hd:qB c'.S N fx sk vals=some st)
  (he:ru f sk st.ls=some (vs,fs,bs)) (hf:F2 (VRel c') vals as):Le c ct∧gb ct∧F2 (VRel ct) vs as:=by
 obtain⟨ct0,vs0,fs0,bs0,p1,p2,p3⟩:=bf7 (f:=f) hR' hd hf;rw[he]at p1;injection p1 with p1
 injection p1 with q1 p1
 injection p1 with q2 q3
 subst q1;subst q2;subst q3;obtain⟨ap1,ap2⟩:=rr hd;have hnd:=rn ap1;rw[List.nodup_append]at hnd;obtain⟨nd1,nd2,nd3⟩:=hnd;obtain⟨x1,x2,x3⟩:=p2.get;obtain⟨y1,y2,y3⟩:=p3.get;have hro:=g.noro;unfold xA.noRo at hro;rw[Bool.and_eq_true,List.all_eq_true,List.all_eq_true]at hro
 have nro: ∀(i:Nat) (o:OSk),(sk.fix[i]?=some o∨sk.free[i]?=some o)→o.ro=false:=by
  intro i o h;rcases h with h|h
  ·simpa using hro.1 o (List.mem_of_getElem? h)
  ·simpa using hro.2 o (List.mem_of_getElem? h)
 have fxget: ∀j,j∈fx→∃(i:Nat) (b:Blk) (o:OSk),fx[i]?=some j∧fs[i]?=some b∧sk.fix[i]?=some o∧aD ct.S (f j)=b∧uD c' ct0 o (some ⟨j,none⟩) b:=by
  intro j hj;obtain⟨i,hi,e⟩:=List.mem_iff_getElem.1 hj;have h1:fx[i]?=some j:=by rw[List.getElem?_eq_getElem hi,e]
  have h2:i<fs.length:=by rw[←x1];exact hi
  obtain⟨o,h3,h4⟩:=x3 i j _ h1 (List.getElem?_eq_getElem h2);exact⟨i,fs[i],o,h1,List.getElem?_eq_getElem h2,h3,g.fix i j _ h1 (List.getElem?_eq_getElem h2),h4⟩
 have frget: ∀i,i<bs.length→∃(b:Blk) (x:Option Src) (o:OSk),st.m[i]?=some x∧bs[i]?=some b∧sk.free[i]?=some o∧aD ct.S (c.S.length+i)=b∧ct.μ (c.S.length+i)=zq c' x∧uD c' ct0 o x b:=by
  intro i hi;have h2:i<st.m.length:=by rw[y1];exact hi
  obtain⟨o,h3,h4⟩:=y3 i _ _ (List.getElem?_eq_getElem h2) (List.getElem?_eq_getElem hi);exact⟨bs[i],st.m[i],o,List.getElem?_eq_getElem h2,List.getElem?_eq_getElem hi,h3,g.free i _ (List.getElem?_eq_getElem hi),g.μn i _ (List.getElem?_eq_getElem h2),h4⟩
 have three: ∀k,(aD ct.S k).dim≠none→(∃j,j∈fx∧f j=k)∨(k<c.S.length∧(∀j,j∈fx→f j≠k))∨(∃i,i<bs.length∧k=c.S.length+i):=by
  intro k hk;have hl:=pc hk;rw[g.len]at hl;by_cases h1:k<c.S.length
  ·by_cases h2: ∃j,j∈fx∧f j=k
   ·exact .inl h2
   ·exact .inr (.inl ⟨h1,fun j hj e=>h2 ⟨j,hj,e⟩⟩)
  ·exact .inr (.inr ⟨k-c.S.length,by omega,by omega⟩)
 have stay: ∀j,j∈fx→∀d,(aD ct.S (f j)).dim=some d→(aD c'.S j).dim=some d∧(aD c'.S j).frozen=false∧(aD c.S (f j)).dim=some d∧c'.μ j=c.μ (f j):=by
  intro j hj d hd';obtain⟨i,b,o,h1,h2,h3,h4,h5⟩:=fxget j hj;rw[h4]at hd';rcases h5 with⟨_,h5⟩|⟨h5,h6,d0,h7,h8,h9⟩
  ·subst h5;cases hd'
  ·simp only at h8;rw[h8]at hd';injection hd' with hd'
   subst hd';obtain⟨w1,w2,_⟩:=g.wr j hj (by rw[h7];simp);exact⟨h7,h6 (nro i o (.inl h3)),by rw[w1,h7],w2⟩
 have found: ∀i,i<bs.length→∀d,(aD ct.S (c.S.length+i)).dim=some d→(∃x,st.m[i]?=some (some x)∧(aD c'.S x.k).frozen=false∧ct.μ (c.S.length+i)=c'.μ x.k)∨ct.μ (c.S.length+i)=none:=by
  intro i hi d hd';obtain⟨b,x,o,h1,h2,h3,h4,h5,h6⟩:=frget i hi;rw[h4]at hd';rcases h6 with⟨_,h6⟩|⟨h6,h7⟩
  ·subst h6;cases hd'
  ·cases x with
   |none=>exact .inr h5
   |some x=>
    obtain⟨k,cut⟩:=x;exact .inl ⟨_,h1,h7.1 (nro i o (.inr h3)),h5⟩
 have orig: ∀k b,(aD ct.S k).dim≠none→ct.μ k=some b→(k<c.S.length∧(∀j,j∈fx→f j≠k)∧c.μ k=some b)∨
   ∃s,(s∈fx∨s∈qC st.m)∧(aD c'.S s).frozen=false∧c'.μ s=some b∧((s∈fx∧k=f s)∨∃i x,st.m[i]?=some (some x)∧x.k=s∧k=c.S.length+i):=by
  intro k b hk hm;cases hdd:(aD ct.S k).dim with
  |none=>exact(hk hdd).elim
  |some d=>
   rcases three k hk with⟨j,hj,rfl⟩|⟨h1,h2⟩|⟨i,hi,rfl⟩
   ·obtain⟨h1,h2,h3,h4⟩:=stay j hj d hdd;exact .inr ⟨j, .inl hj,h2,by rw[h4,←g.μo _ (g.fixlt j hj)];exact hm, .inl ⟨hj,rfl⟩⟩
   ·exact .inl ⟨h1,h2,by rw[←g.μo k h1];exact hm⟩
   ·rcases found i hi d hdd with⟨x,h1,h2,h3⟩|h1
    ·exact .inr ⟨x.k, .inr (xo h1),h2,by rw[←h3];exact hm, .inr ⟨i,x,h1,rfl,rfl⟩⟩
    ·rw[h1]at hm;cases hm
 have othdim: ∀k,k<c.S.length→(∀j,j∈fx→f j≠k)→(aD ct.S k).dim≠none→(aD ct.S k=aD c.S k∨aD ct.S k=(aD c.S k).freeze):=by
  intro k h1 h2 h3;rcases g.oth k h1 h2 with h|h|⟨h,_⟩
  ·exact .inl h
  ·exact .inr h
  ·rw[h]at h3;exact(h3 rfl).elim
 have othfz: ∀k,k<c.S.length→(∀j,j∈fx→f j≠k)→(aD ct.S k).frozen=false→aD ct.S k=aD c.S k:=by
  intro k h1 h2 h3;rcases othdim k h1 h2 (ot h3)with h|h
  ·exact h
  ·rw[h,pv]at h3;cases h3
 have hle:Le c ct:=by
  refine⟨by rw[g.len];exact Nat.le_add_right _ _,fun k d hk hd'=>⟨?_,g.μo k hk⟩,fun k hz hdm=> ?_,fun k d b y hk hd' hm hy=> ?_,fun b y hy hn=>by rw[g.σ];exact g.un b y hy hn,fun b y hy hn=> ?_,by rw[g.σ];exact g.n,g.fb⟩
  ·rcases three k (by rw[hd'];simp)with⟨j,hj,rfl⟩|⟨h1,h2⟩|⟨i,hi,rfl⟩
   ·exact(stay j hj d hd').2.2.1
   ·rcases othdim k h1 h2 (by rw[hd'];simp)with h|h
    ·rw[←h];exact hd'
    ·rw[h,gz]at hd';exact hd'
   ·omega
  ·have hk:=pc hdm;by_cases h2: ∃j,j∈fx∧f j=k
   ·obtain⟨j,hj,rfl⟩:=h2;exact(cv0 (g.wrz j hj) hdm hz).elim
   ·rcases g.oth k hk (fun j hj e=>h2 ⟨j,hj,e⟩)with h|h|⟨_,h⟩
    ·exact h
    ·rw[h,zi hz]
    ·rw[h]at hz;cases hz
  ·rw[g.σ];rcases three k (by rw[hd'];simp)with⟨j,hj,rfl⟩|⟨h1,h2⟩|⟨i,hi,rfl⟩
   ·obtain⟨h1,h2,h3,h4⟩:=stay j hj d hd';exact(g.wr j hj (by rw[h1];simp)).2.2 b y hm hy
   ·exact⟨y,g.oun k h1 h2 (by rw[hd'];simp) b y hm hy,rfl⟩
   ·omega
  ·rintro⟨k,h1,h2⟩;rcases orig k b (ot h1) h2 with⟨h3,h4,h5⟩|⟨s,h3,h4,h5,_⟩
   ·exact hn ⟨k,by rw[←othfz k h3 h4 h1];exact h1,h5⟩
   ·exact g.ow b y hy hn ⟨s,h4,h5⟩
 have hT:Tell c' ct N f st:=by
  have hsp: ∀k b,(aD ct.S k).frozen=false→ct.μ k=some b→(k<c.S.length∧(∀j,j∈fx→f j≠k)∧c.μ k=some b)∨∃s,(s∈fx∨s∈kD sk.free st.m)∧(aD c'.S s).frozen=false∧c'.μ s=some b:=by
   intro k b h1 h2;rcases orig k b (ot h1) h2 with h|⟨s,h3,h4,h5,h6⟩
   ·exact .inl h
   ·refine .inr ⟨s, ?_,h4,h5⟩;rcases h6 with⟨h6,_⟩|⟨i,x,h6,h7,_⟩
    ·exact .inl h6
    ·refine .inr ?_
     have hi:i<bs.length:=by
      rw[←y1];rcases Nat.lt_or_ge i st.m.length with h|h
      ·exact h
      ·rw[List.getElem?_eq_none h]at h6;cases h6
     obtain⟨b',x',o,q1,q2,q3,_⟩:=frget i hi;rw[←h7];exact aG1 h6 q3 (nro i o (.inr q3))
  refine⟨⟨g.σ,fun b y hy hn=> ?_⟩,fun j x hl=> ?_,fun s hs hsd b hm=> ?_⟩
  ·rintro(⟨k,h1,h2⟩|h)
   ·rcases hsp k b h1 h2 with⟨h3,h4,h5⟩|⟨s,h3,h4,h5⟩
    ·exact hn (g.onm k h3 h4 h1 b y h5 hy)
    ·exact hn (.inl ⟨s,h4,h5⟩)
   ·rw[g.fb]at h;exact hn (g.fbm b h)
  ·rcases hl with⟨h1,rfl⟩|⟨h1,h2⟩
   ·by_cases hj:j∈fx
    ·refine⟨by rw[g.len];exact Nat.lt_of_lt_of_le (g.fixlt j hj) (Nat.le_add_right _ _),fun d' hd'=> ?_⟩;obtain⟨q1,q2,q3,q4⟩:=stay j hj d' hd';exact⟨d',q1,rfl,by rw[g.μo _ (g.fixlt j hj),q4],rfl⟩
    ·exact g.lk j h1 hj
   ·rw[vP]at h2
    have hi:j-N<bs.length:=by
     rw[←y1];rcases Nat.lt_or_ge (j-N) st.m.length with h|h
     ·exact h
     ·rw[List.getElem?_eq_none h]at h2;cases h2
    have hfj:f j=c.S.length+(j-N):=by rw[←g.fN];congr 1;omega
    rw[hfj];refine⟨by rw[g.len];omega,fun d' hd'=> ?_⟩;obtain⟨b,x',o,q1,q2,q3,q4,q5,q6⟩:=frget (j-N) hi;rw[h2]at q1;injection q1 with q1
    subst q1;rw[q4]at hd';rcases q6 with⟨_,q6⟩|⟨q6,q7⟩
    ·subst q6;cases hd'
    ·cases x with
     |none=>
      obtain⟨_,s,q8⟩:=q7;subst q8;injection hd' with hd'
      subst hd';exact⟨by simp,q5⟩
     |some x=>
      obtain⟨k,cut⟩:=x;obtain⟨q8,d,q9,q10,q11⟩:=q7;refine⟨d,q9, ?_⟩;cases cut with
      |none=>
       simp only at q10;rw[q10]at hd';injection hd' with hd'
       subst hd';exact⟨rfl,q5,rfl⟩
      |some n=>
       simp only at q10;rw[q10]at hd';injection hd' with hd'
       subst hd';exact⟨rfl,q5,rfl⟩
  ·rintro(⟨k,h1,h2⟩|h)
   ·rcases hsp k b h1 h2 with⟨h3,h4,h5⟩|⟨s',h3,h4,h5⟩
    ·exact g.olent k h3 h4 h1 s hs hsd b hm h5
    ·have:=hR'.inj s' s b h4 hsd h5 hm;subst this;exact aW3 ap2 (List.mem_append.2 h3) hs
   ·rw[g.fb]at h;exact g.fbk s b hsd hm h
 obtain⟨vs1,fs1,bs1,r1,r2,r3,r4⟩:=aH5 hR' hT hd hf;rw[he]at r1;injection r1 with r1
 injection r1 with e1 r1
 injection r1 with e2 e3
 subst e1;subst e2;subst e3;obtain⟨_,_,x4⟩:=r3.get;obtain⟨_,_,y4⟩:=r4.get;refine⟨hle,⟨by rw[g.σ];exact hR'.ok,fun k k' b hk hk' hm hm'=> ?_,fun k=> ?_,fun k b hk hm hb=> ?_,fun b hb=> ?_⟩,r2⟩
 ·rcases orig k b (ot hk) hm with⟨h1,h2,h3⟩|⟨s,h1,h2,h3,h4⟩
  ·rcases orig k' b hk' hm' with⟨g1,g2,g3⟩|⟨s',g1,g2,g3,g4⟩
   ·refine hR.inj k k' b (by rw[←othfz k h1 h2 hk];exact hk) ?_ h3 g3;rcases othdim k' g1 g2 hk' with h|h
    ·rw[←h];exact hk'
    ·rw[h,gz]at hk';exact hk'
   ·exact(g.odis k h1 h2 (ot hk) s' g1 g2 b g3 h3).elim
  ·rcases orig k' b hk' hm' with⟨g1,g2,g3⟩|⟨s',g1,g2,g3,g4⟩
   ·exact(g.odis k' g1 g2 hk' s h1 h2 b h3 g3).elim
   ·have:=hR'.inj s s' b h2 (ot g2) h3 g3;subst this;rcases h4 with⟨h4,h5⟩|⟨i,x,h4,h5,h6⟩
    ·rcases g4 with⟨g4,g5⟩|⟨i',x',g4,g5,g6⟩
     ·rw[h5,g5]
     ·subst g5;exact(nd3 _ h4 _ (xo g4) rfl).elim
    ·rcases g4 with⟨g4,g5⟩|⟨i',x',g4,g5,g6⟩
     ·subst h5;exact(nd3 _ g4 _ (xo h4) rfl).elim
     ·rw[h6,g6,aD3 nd2 h4 g4 (h5.trans g5.symm)]
 ·by_cases hdm:(aD ct.S k).dim=none
  ·intro d hd';rw[hdm]at hd';cases hd'
  ·rcases three k hdm with⟨j,hj,rfl⟩|⟨h1,h2⟩|⟨i,hi,rfl⟩
   ·obtain⟨i,b,o,q1,q2,q3,q4,q5⟩:=fxget j hj;obtain⟨o',q6,q7⟩:=x4 i j b q1 q2;refine q7.blkRel hR' g.σ q4 fun hb=> ?_
    cases hdd:(aD ct.S (f j)).dim with
    |none=>exact(hdm hdd).elim
    |some d=>
     obtain⟨_,_,_,q8⟩:=stay j hj d hdd;rw[g.μo _ (g.fixlt j hj),←q8];rfl
   ·intro d hd';have h3:=othdim k h1 h2 hdm
    have hdc:(aD c.S k).dim=some d:=by
     rcases h3 with h|h
     ·rw[←h];exact hd'
     ·rw[h,gz]at hd';exact hd'
    have hvc:(aD ct.S k).vals=(aD c.S k).vals:=by
     rcases h3 with h|h
     ·rw[h]
     ·rw[h,aM7]
    obtain⟨q1,q2⟩:=hR.blk k d hdc;refine⟨q1, ?_⟩;rcases q2 with⟨q2,q3⟩|⟨b,y,cs,rest,q2,q3,q4,q5,q6,q7⟩
    ·exact .inl ⟨q2,(g.μo k h1).trans q3⟩
    ·refine .inr ⟨b,y,cs,rest,(g.μo k h1).trans q2,by rw[g.σ];exact g.oun k h1 h2 hdm b y q2 q3,q4,fun hz=> ?_,q6,by rw[hvc];exact VRel.frames hle q7⟩;rw[othfz k h1 h2 hz]at hz;exact q5 hz
   ·obtain⟨b,x,o,q1,q2,q3,q4,q5,q6⟩:=frget i hi;obtain⟨o',q7,q8⟩:=y4 i x b q1 q2;exact q8.blkRel hR' g.σ q4 fun _=>q5
 ·rw[g.fb]at hb;rcases orig k b hk hm with⟨h1,h2,h3⟩|⟨s,h1,h2,h3,_⟩
  ·refine hR.fbk k b ?_ h3 hb;rcases othdim k h1 h2 hk with h|h
   ·rw[←h];exact hk
   ·rw[h,gz]at hk;exact hk
  ·exact g.fbk s b (ot h2) h3 hb
 ·rw[g.fb]at hb;rw[g.σ];exact Nat.lt_of_lt_of_le (hR.fbl b hb) g.n
theorem oq {fx mov:List Nat}{fz:Bool}: ∀{S:cf} {i:Nat},(ko fx mov fz i S).length=S.length
 |[],_=>rfl
 |_::r,i=>by simp[ko,oq (S:=r)]
theorem oo {fx mov:List Nat}{fz:Bool}: ∀{S:cf} {i k:Nat},k<S.length→aD (ko fx mov fz i S) k=cond (oD (i+k) mov) (cond (aD S k).frozen (aD S k) .dead) (cond (oD (i+k) fx) (aD S k) (cond fz (aD S k).freeze (aD S k)))
 |[],_,_,h=>by simp at h
 |b::r,i,0,_=>rfl
 |b::r,i,k+1,h=>by
  have:=oo (fx:=fx) (mov:=mov) (fz:=fz) (S:=r) (i:=i+1) (k:=k) (by simpa using h);rw[show i+1+k=i+(k+1)by omega]at this;exact this
theorem kB : ∀{js:List Nat} {bs:List Blk} {S S':cf},vw js bs S=some S'→js.length=bs.length∧S'.length=S.length∧(∀k,k∉js→aD S' k=aD S k)∧
  (js.Nodup→∀(i j:Nat) (b:Blk),js[i]?=some j→bs[i]?=some b→j<S.length→aD S' j=b)
 |[],[],S,S',h=>by
  injection h with h;subst h
  exact⟨rfl,rfl,fun _ _=>rfl,fun _ i j b h=>by simp at h⟩
 |[],_::_,S,S',h=>by cases h
 |_::_,[],S,S',h=>by cases h
 |j::js,b::bs,S,S',h=>by
  simp only[vw]at h;obtain⟨h1,h2,h3,h4⟩:=kB h;refine⟨by simp[h1],by rw[h2,ap4],fun k hk=> ?_,fun hn i j' b' hi hb hl=> ?_⟩
  ·rw[h3 k (fun e=>hk (List.mem_cons_of_mem _ e))];exact co9 (fun e=>hk (by rw[e];exact List.mem_cons_self))
  ·rw[List.nodup_cons]at hn;cases i with
   |zero=>
    simp at hi hb;subst hi;subst hb;rw[h3 j hn.1];exact bP1 hl
   |succ i=>
    simp at hi hb;exact h4 hn.2 i j' b' hi hb (by rw[ap4];exact hl)
theorem vp : ∀{l:List Blk} {i:Nat} {b:Blk},l[i]?=some b→aD l i=b
 |[],i,b,h=>by simp at h
 |a::l,0,b,h=>by simpa[aD]using h
 |a::l,i+1,b,h=>vp (l:=l) (by simpa using h)
structure Within (c c1:Ctx)(fx mov:List Nat):Prop where
 le:Le c c1
 fr: ∀k,k<c.S.length→k∉fx→(k∉mov∨(aD c.S k).frozen=true)→aD c1.S k=(aD c.S k).freeze
 un: ∀k,k<c.S.length→k∉fx→(k∉mov∨(aD c.S k).frozen=true)→(aD c.S k).dim≠none→∀b y,c.μ k=some b→c.σ.m b=some y→c1.σ.m b=some y
theorem oe {S:cf}{fx:List Nat}(h:aO5 S fx=true){j:Nat}(hj:j∈fx):j<S.length∧(aD S j).may=true:=by
 simp only[aO5,List.all_eq_true,Bool.and_eq_true]at h;obtain⟨h1,h2⟩:=h j hj;exact⟨Nat.le_of_ble_eq_true h1,h2⟩
theorem kq {k:Nat}{l:List Nat}(h:k∉l):oD k l=false:=by
 cases hb:oD k l with
 |false=>rfl
 |true=>exact(h (mf.1 hb)).elim
theorem ww {fx mov:List Nat}{fz:Bool}{S:cf}{k:Nat}(hk:k<S.length)(h1:k∉fx)(h2:(aD (ko fx mov fz 0 S) k).dim≠none):(k∉mov∨(aD S k).frozen=true)∧aD (ko fx mov fz 0 S) k=cond fz (aD S k).freeze (aD S k):=by
 rw[oo hk,Nat.zero_add,kq h1]at h2⊢;by_cases hm:k∈mov
 ·rw[mf.2 hm]at h2⊢;cases hz:(aD S k).frozen with
  |false=>rw[hz]at h2;exact(h2 rfl).elim
  |true=>exact⟨.inr rfl,by cases fz<;>simp[zi hz]⟩
 ·rw[kq hm];exact⟨.inl hm,rfl⟩
theorem cq4 {c c1 c':Ctx}{fx mov:List Nat}{sk:xA}{vals vs:List VV}{as:List Value}{st:DSt}{fs bs:List Blk}{S':cf}(hR:gb c)(hR':gb c')(hw:Within c c1 fx mov)(hR1:gb c1)(hle:Le c1 c')
  (hok:aO5 c.S fx=true) (hro:sk.noRo=true) (hd:qB c'.S c.S.length fx sk vals=some st) (he:ru id sk st.ls=some (vs,fs,bs)) (hf:F2 (VRel c') vals as) (hS:vw fx fs (ko fx mov true 0 c.S)=some S'):
  ∃ct:Ctx,ct.σ=c'.σ∧ct.S=S'++bs∧ct.fb=c.fb∧(∀k,k<c.S.length→ct.μ k=c.μ k)∧Le c ct∧gb ct∧F2 (VRel ct) vs as∧
   (∀k,k<c.S.length→k∉fx→(aD ct.S k).dim≠none→(k∉mov∨(aD c.S k).frozen=true)∧∀b y,c.μ k=some b→c.σ.m b=some y→ct.σ.m b=some y):=by
 obtain⟨s1,s2,s3,s4⟩:=kB hS;rw[oq]at s2 s4;obtain⟨ap1,_⟩:=rr hd;have hnd:=rn ap1;rw[List.nodup_append]at hnd;obtain⟨nd1,_,_⟩:=hnd;have hcc:=hw.le.trans hle;have hfb:c'.fb=c.fb:=hcc.fb
 let ct:Ctx:=⟨fun i=>if i<c.S.length then c.μ i else match st.m[i-c.S.length]? with
  |some x=>zq c' x
  |none=>none,S'++bs,c'.σ,c.fb⟩
 have hget: ∀k,k<c.S.length→aD ct.S k=aD S' k:=fun k hk=>px (by rw[s2];exact hk)
 have hoth: ∀k,k<c.S.length→k∉fx→aD ct.S k=aD (ko fx mov true 0 c.S) k:=fun k hk hn=>by rw[hget k hk,s3 k hn]
 have hoth2: ∀k,k<c.S.length→k∉fx→(aD ct.S k).dim≠none→(k∉mov∨(aD c.S k).frozen=true)∧aD ct.S k=(aD c.S k).freeze∧aD c'.S k=(aD c.S k).freeze∧c'.μ k=c.μ k∧(aD c.S k).dim≠none:=by
  intro k hk hn hdm;rw[hoth k hk hn]at hdm⊢;obtain⟨h1,h2⟩:=ww hk hn hdm;have h3:=hw.fr k hk hn h1;rw[h2]at hdm;simp only[cond_true]at hdm h2;rw[gz]at hdm
  have h4:aD c'.S k=(aD c.S k).freeze:=by
   rw[hle.fz k (by rw[h3,pv]) (by rw[h3,gz];exact hdm),h3]
  refine⟨h1,h2,h4, ?_,hdm⟩;cases hdd:(aD c.S k).dim with
  |none=>exact(hdm hdd).elim
  |some d=>exact(hcc.al k d hk (by rw[h4,gz];exact hdd)).2
 have hun2: ∀k,k<c.S.length→k∉fx→(aD ct.S k).dim≠none→∀b y,c.μ k=some b→c.σ.m b=some y→c'.σ.m b=some y:=by
  intro k hk hn hdm b y hm hy;obtain⟨h1,h2,h3,h4,h5⟩:=hoth2 k hk hn hdm;have h6:=hw.un k hk hn h1 h5 b y hm hy;have h7:=hw.fr k hk hn h1
  have hmu1:c1.μ k=some b:=by
   cases hdd:(aD c.S k).dim with
   |none=>exact(h5 hdd).elim
   |some d=>rw[(hw.le.al k d hk (by rw[h7,gz];exact hdd)).2];exact hm
  have h8: ¬c1.mut b:=hR1.fz_mut (by rw[h7,pv]) (by rw[h7,gz];exact h5) hmu1;exact hle.un b y h6 fun e=>h8 (.inl e)
 have g:GT c c' ct c.S.length id fx sk st fs bs:=by
  refine⟨rfl,rfl,by simp[ct,s2],fun k hk hn=> ?_,fun i j b hi hb=> ?_,fun j hj=>(oe hok hj).1,fun i b hb=> ?_,fun _=>rfl,fun k hk=>if_pos hk,fun i x hx=> ?_,hcc.un,hcc.ow,hcc.n,fun k hk hn hdm b y hm hy=> ?_,fun k hk hn hdm s hs hz b hm e=> ?_,fun j hj hdm=> ?_,fun j hj=>(oe hok hj).2,
   fun _ _ _ _ e=>e,fun k b hdm hm=> ?_,fun j hj hn=> ?_,fun k hk hn hz b y hm hy=> ?_,fun k hk hn hz s hs hsd b hm e=> ?_,fun b hb=> ?_,fun j hj=>(oe hok hj).1,hro⟩
  ·have hn':k∉fx:=fun e=>hn k e rfl
   rw[hoth k hk hn'];by_cases hdm:(aD (ko fx mov true 0 c.S) k).dim=none
   ·rw[oo hk,Nat.zero_add,kq hn']at hdm⊢;by_cases hm:k∈mov
    ·rw[mf.2 hm]at hdm⊢;cases hz:(aD c.S k).frozen with
     |false=>exact .inr (.inr ⟨rfl,rfl⟩)
     |true=>exact .inl rfl
    ·rw[kq hm];exact .inr (.inl rfl)
   ·exact .inr (.inl (ww hk hn' hdm).2)
  ·have hj:=List.mem_of_getElem? hi;have hlt:=(oe hok hj).1;show aD ct.S j=b;rw[hget j hlt];exact s4 nd1 i j b hi hb hlt
  ·show aD (S'++bs) (c.S.length+i)=b;rw[←s2,tc];exact vp hb
  ·show(if c.S.length+i<c.S.length then _ else _)=_;rw[if_neg (by omega),Nat.add_sub_cancel_left,hx]
  ·exact hun2 k hk (fun e=>hn k e rfl) hdm b y hm hy
  ·obtain⟨h1,h2,h3,h4,h5⟩:=hoth2 k hk (fun e=>hn k e rfl) hdm;have:=hR'.inj s k b hz (by rw[h3,gz];exact h5) hm (h4.trans e);subst this;rw[h3,pv]at hz;cases hz
  ·have hlt:=(oe hok hj).1;cases hdd:(aD c'.S j).dim with
   |none=>exact(hdm hdd).elim
   |some d=>
    obtain⟨h1,h2⟩:=hcc.al j d hlt hdd;exact⟨h1,h2,fun b y hm hy=>hcc.ln j d b y hlt hdd hm hy⟩
  ·rw[←hfb];exact hR'.fbk k b hdm hm
  ·refine⟨by simp only[id,ct,List.length_append,s2];omega,fun d' hd'=> ?_⟩;obtain⟨h1,h2,h3,h4,h5⟩:=hoth2 j hj hn (by rw[show id j=j from rfl]at hd';rw[hd'];simp);rw[show id j=j from rfl,h2]at hd';refine⟨d',by rw[h3];exact hd',rfl, ?_,rfl⟩;show(if j<c.S.length then c.μ j else _)=_;rw[if_pos hj,h4]
  ·obtain⟨h1,h2,h3,h4,h5⟩:=hoth2 k hk (fun e=>hn k e rfl) (ot hz);rw[h2,pv]at hz;cases hz
  ·obtain⟨h1,h2,h3,h4,h5⟩:=hoth2 k hk (fun e=>hn k e rfl) (ot hz);rw[h2,pv]at hz;cases hz
  ·exact .inr (by rw[hfb];exact hb)
 obtain⟨r1,r2,r3⟩:=g.all hR hR' hd he hf;exact⟨ct,rfl,rfl,rfl,fun k hk=>if_pos hk,r1,r2,r3,fun k hk hn hdm=>⟨(hoth2 k hk hn hdm).1,hun2 k hk hn hdm⟩⟩
theorem bR8 {c:Ctx}{fx:List Nat}{sk:xA}{vals vs:List VV}{as:List Value}{st:DSt}{fs bs:List Blk}{S':cf}(hR:gb c)
  (hok:aO5 c.S fx=true) (hro:sk.noRo=true) (hd:qB c.S c.S.length fx sk vals=some st) (he:ru id sk st.ls=some (vs,fs,bs)) (hf:F2 (VRel c) vals as) (hS:vw fx fs (ko fx (qC st.m) true 0 c.S)=some S'):
  ∃ct:Ctx,ct.σ=c.σ∧ct.S=S'++bs∧ct.fb=c.fb∧(∀k,k<c.S.length→ct.μ k=c.μ k)∧Le c ct∧gb ct∧F2 (VRel ct) vs as:=by
 obtain⟨s1,s2,s3,s4⟩:=kB hS;rw[oq]at s2 s4;obtain⟨ap1,_⟩:=rr hd;have hnd:=rn ap1;rw[List.nodup_append]at hnd;obtain⟨nd1,_,_⟩:=hnd
 let ct:Ctx:=⟨fun i=>if i<c.S.length then c.μ i else match st.m[i-c.S.length]? with
  |some x=>zq c x
  |none=>none,S'++bs,c.σ,c.fb⟩
 have hget: ∀k,k<c.S.length→aD ct.S k=aD S' k:=fun k hk=>px (by rw[s2];exact hk)
 have hoth: ∀k,k<c.S.length→k∉fx→aD ct.S k=aD (ko fx (qC st.m) true 0 c.S) k:=fun k hk hn=>by rw[hget k hk,s3 k hn]
 have hoth2: ∀k,k<c.S.length→k∉fx→(aD ct.S k).dim≠none→(k∉qC st.m∨(aD c.S k).frozen=true)∧aD ct.S k=(aD c.S k).freeze∧(aD c.S k).dim≠none:=by
  intro k hk hn hdm;rw[hoth k hk hn]at hdm⊢;obtain⟨h1,h2⟩:=ww hk hn hdm;rw[h2]at hdm;simp only[cond_true]at hdm h2;rw[gz]at hdm;exact⟨h1,h2,hdm⟩
 have g:GT c c ct c.S.length id fx sk st fs bs:=by
  refine⟨rfl,rfl,by simp[ct,s2],fun k hk hn=> ?_,fun i j b hi hb=> ?_,fun j hj=>(oe hok hj).1,fun i b hb=> ?_,fun _=>rfl,fun k hk=>if_pos hk,fun i x hx=> ?_,fun _ _ h _=>h,fun _ _ _ h=>h,Nat.le_refl _,fun k hk hn hdm b y hm hy=>hy,fun k hk hn hdm s hs hz b hm e=> ?_,fun j hj hdm=>⟨rfl,rfl,fun b y _ hy=>⟨y,hy,rfl⟩⟩,fun j hj=>(oe hok hj).2,
   fun _ _ _ _ e=>e,fun k b hdm hm=>hR.fbk k b hdm hm,fun j hj hn=> ?_,fun k hk hn hz b y hm hy=> ?_,fun k hk hn hz s hs hsd b hm e=> ?_,fun b hb=> .inr hb,fun j hj=>(oe hok hj).1,hro⟩
  ·have hn':k∉fx:=fun e=>hn k e rfl
   rw[hoth k hk hn'];by_cases hdm:(aD (ko fx (qC st.m) true 0 c.S) k).dim=none
   ·rw[oo hk,Nat.zero_add,kq hn']at hdm⊢;by_cases hm:k∈qC st.m
    ·rw[mf.2 hm]at hdm⊢;cases hz:(aD c.S k).frozen with
     |false=>exact .inr (.inr ⟨rfl,rfl⟩)
     |true=>exact .inl rfl
    ·rw[kq hm];exact .inr (.inl rfl)
   ·exact .inr (.inl (ww hk hn' hdm).2)
  ·have hj:=List.mem_of_getElem? hi;have hlt:=(oe hok hj).1;show aD ct.S j=b;rw[hget j hlt];exact s4 nd1 i j b hi hb hlt
  ·show aD (S'++bs) (c.S.length+i)=b;rw[←s2,tc];exact vp hb
  ·show(if c.S.length+i<c.S.length then _ else _)=_;rw[if_neg (by omega),Nat.add_sub_cancel_left,hx]
  ·obtain⟨h1,h2,h5⟩:=hoth2 k hk (fun e=>hn k e rfl) hdm;have:=hR.inj s k b hz h5 hm e;subst this;rcases hs with hs|hs
   ·exact hn s hs rfl
   ·rcases h1 with h1|h1
    ·exact h1 hs
    ·rw[h1]at hz;cases hz
  ·refine⟨by simp only[id,ct,List.length_append,s2];omega,fun d' hd'=> ?_⟩;obtain⟨h1,h2,h5⟩:=hoth2 j hj hn (by rw[show id j=j from rfl]at hd';rw[hd'];simp);rw[show id j=j from rfl,h2,gz]at hd';refine⟨d',hd',rfl, ?_,rfl⟩;show(if j<c.S.length then c.μ j else _)=_;rw[if_pos hj]
  ·obtain⟨h1,h2,h5⟩:=hoth2 k hk (fun e=>hn k e rfl) (ot hz);rw[h2,pv]at hz;cases hz
  ·obtain⟨h1,h2,h5⟩:=hoth2 k hk (fun e=>hn k e rfl) (ot hz);rw[h2,pv]at hz;cases hz
 obtain⟨r1,r2,r3⟩:=g.all hR hR hd he hf;exact⟨ct,rfl,rfl,rfl,fun k hk=>if_pos hk,r1,r2,r3⟩
theorem bj6 {c c1:Ctx}{fx mov:List Nat}{fs bs:List Blk}{S':cf}(hle:Le c c1)(hS:vw fx fs (ko fx mov true 0 c.S)=some S')(h1:c1.S=S'++bs)
  (hun: ∀k,k<c.S.length→k∉fx→(k∉mov∨(aD c.S k).frozen=true)→(aD c.S k).dim≠none→∀b y,c.μ k=some b→c.σ.m b=some y→c1.σ.m b=some y):Within c c1 fx mov:=by
 obtain⟨s1,s2,s3,s4⟩:=kB hS;rw[oq]at s2;refine⟨hle,fun k hk hn hm=> ?_,hun⟩;rw[h1,px (by rw[s2];exact hk),s3 k hn,oo hk,Nat.zero_add,kq hn];rcases hm with hm|hz
 ·rw[kq hm];rfl
 ·cases oD k mov with
  |false=>rfl
  |true=>rw[hz];simp[zi hz]
section
variable {ctf ct:Ctx}
theorem VRel.thaw (hμ:ct.μ=ctf.μ)(hσ:ct.σ=ctf.σ)(hl:ct.S.length=ctf.S.length)(hd: ∀k,(aD ct.S k).dim=(aD ctf.S k).dim): ∀{v:VV} {a:Value},VRel ctf v a→alV v=false→VRel ct v a
 |_,_, .undef a,_=> .undef a
 |_,_, .bool b,_=> .bool b
 |_,_, .int k n,_=> .int k n
 |_,_, .str hs,_=> .str hs
 |_,_, .nilp,_=> .nilp
 |_,_, .nils,_=> .nils
 |_,_, .nilf,_=> .nilf
 |_,_, .ptr hk h1 h2,_=> .ptr (by rw[hl];exact hk) h1 fun d h=>by rw[hd]at h;rw[hμ];exact h2 d h
 |_,_, .it hk h1 hs h2,_=> .it (by rw[hl];exact hk) h1 hs fun d h=>by rw[hd]at h;rw[hμ];exact h2 d h
 |_,_, .bld hk h1 h2,_=> .bld (by rw[hl];exact hk) h1 fun d h=>by rw[hd]at h;rw[hμ];exact h2 d h
 |_,_, .pix hk h1 hi h2,_=> .pix (by rw[hl];exact hk) h1 hi fun d h=>by rw[hd]at h;rw[hμ];exact h2 d h
 |_,_, .pel hk h1 h2,_=> .pel (by rw[hl];exact hk) h1 fun d h=>by rw[hd]at h;rw[hμ];exact h2 d h
 |_,_, .pin _ _ _ _,h=>by cases h
 |_,_, .lstn _,h=>by cases h
 |_,_, .tgtn _,h=>by cases h
 |_,_, .tgt _ _ _ _ _,h=>by cases h
 |_,_, .lst _ _ _ _ _ _ _,h=>by cases h
 |_,_, .full hk h1 h2,_=> .full (by rw[hl];exact hk) h1 fun d h=>by
  rw[hd]at h;obtain⟨n,h3,h4⟩:=h2 d h;refine⟨n,h3, ?_⟩;unfold SlR at h4⊢;rw[hμ,hσ];exact h4
 |_,_, .part hk h1 h2,_=> .part (by rw[hl];exact hk) h1 fun d h=>by
  rw[hd]at h;have h4:=h2 d h;unfold SlR at h4⊢;rw[hμ,hσ];exact h4
 |_,_, .fn h1 h2,h=>by
  simp only[alV,Bool.or_eq_false_iff]at h;exact .fn (go h1 h.1) (go h2 h.2)
 |_,_, .agg h1,h=>by
  simp only[alV]at h;exact .agg (go h1 h)
 |_,_, .tup h1,h=>by
  simp only[alV]at h;exact .tup (go h1 h)
where
 go: ∀{l:List VV} {m:List Value},F2 (VRel ctf) l m→alL l=false→F2 (VRel ct) l m
  |_,_, .nil,_=> .nil
  |_,_, .cons h1 h2,h=>by
   simp only[alL,Bool.or_eq_false_iff]at h;exact .cons (VRel.thaw hμ hσ hl hd h1 h.1) (go h2 h.2)
theorem aA1 : ∀{s:Sh} (x:El s),s.al=false→alL (fe s x)=false
 | .int _,_,_=>rfl
 | .bool,_,_=>rfl
 | .str,_,_=>rfl
 | .list _,_,h=>by cases h
 | .pair a b,x,h=>by
  simp only[Sh.al,Bool.or_eq_false_iff]at h;have h1:=aA1 x.1 h.1;have h2:=aA1 x.2 h.2;simp only[fe];revert h1;generalize fe a x.1=l;intro h1;induction l with
  |nil=>exact h2
  |cons v l ih=>
   simp only[alL,Bool.or_eq_false_iff,List.cons_append]at h1⊢;exact⟨h1.1,ih h1.2⟩
theorem ch2 {l m:List VV}(h1:alL l=false)(h2:alL m=false):alL (l++m)=false:=by
 induction l with
 |nil=>exact h2
 |cons v l ih=>
  simp only[alL,Bool.or_eq_false_iff,List.cons_append]at h1⊢;exact⟨h1.1,ih h1.2⟩
theorem bX3 {b:Blk}(h:alB b=false):alL b.vals=false:=by
 cases b with
 |dead=>rfl
 |cells es z l=>exact h
 |arr s z l=>
  simp only[Blk.vals];induction l with
  |nil=>rfl
  |cons x l ih=>rw[iy];exact ch2 (aA1 x h) (ih h)
theorem thaw {c:Ctx}{S2:cf}{vs:List VV}{as:List Value}(hR:gb c)(hle:Le c ctf)(hRf:gb ctf)(hf:F2 (VRel ctf) vs as)(hal:alL vs=false)(hlen:S2.length=ctf.S.length)(hμ: ∀k,k<c.S.length→ctf.μ k=c.μ k)
  (hk: ∀k,(aD S2 k=aD ctf.S k∧((aD ctf.S k).dim≠none→((aD ctf.S k).frozen=false∧alB (aD ctf.S k)=false)∨(k<c.S.length∧aD ctf.S k=aD c.S k∧∀b y,c.μ k=some b→c.σ.m b=some y→ctf.σ.m b=some y)))∨
   (k<c.S.length∧aD S2 k=aD c.S k∧aD ctf.S k=(aD c.S k).freeze∧((aD c.S k).dim≠none→∀b y,c.μ k=some b→c.σ.m b=some y→ctf.σ.m b=some y))):
  Le c ⟨ctf.μ,S2,ctf.σ,ctf.fb⟩∧gb ⟨ctf.μ,S2,ctf.σ,ctf.fb⟩∧F2 (VRel ⟨ctf.μ,S2,ctf.σ,ctf.fb⟩) vs as:=by
 have hd: ∀k,(aD S2 k).dim=(aD ctf.S k).dim:=by
  intro k;rcases hk k with⟨h,_⟩|⟨_,h1,h2,_⟩
  ·rw[h]
  ·rw[h1,h2,gz]
 have hle2:Le c ⟨ctf.μ,S2,ctf.σ,ctf.fb⟩:=by
  refine⟨by rw[hlen];exact hle.len,fun k d hkl h=>hle.al k d hkl (by rw[←hd];exact h),fun k hz hdm=> ?_,fun k d b y hkl h=>hle.ln k d b y hkl (by rw[←hd];exact h),hle.un,fun b y hy hn=> ?_,hle.n,hle.fb⟩
  ·rcases hk k with⟨h,_⟩|⟨_,h1,h2,_⟩
   ·rw[h];exact hle.fz k hz hdm
   ·exact h1
  ·rintro⟨k,h1,h2⟩;rcases hk k with⟨h,_⟩|⟨h3,h4,h5,_⟩
   ·exact hle.ow b y hy hn ⟨k,by rw[←h];exact h1,h2⟩
   ·exact hn ⟨k,by rw[←h4];exact h1,by rw[←hμ k h3];exact h2⟩
 have hth: ∀{v:VV} {a:Value},VRel ctf v a→alV v=false→VRel ⟨ctf.μ,S2,ctf.σ,ctf.fb⟩ v a:=fun h1 h2=>VRel.thaw (ctf:=ctf) (ct:=⟨ctf.μ,S2,ctf.σ,ctf.fb⟩) rfl rfl hlen hd h1 h2
 have hths: ∀{l:List VV} {m:List Value},F2 (VRel ctf) l m→alL l=false→F2 (VRel ⟨ctf.μ,S2,ctf.σ,ctf.fb⟩) l m:=fun h1 h2=>VRel.thaw.go (ctf:=ctf) (ct:=⟨ctf.μ,S2,ctf.σ,ctf.fb⟩) rfl rfl hlen hd h1 h2
 refine⟨hle2,⟨hRf.ok,fun k k' b hz hdm hm hm'=> ?_,fun k=> ?_,fun k b hdm hm=>hRf.fbk k b (by rw[←hd];exact hdm) hm,hRf.fbl⟩,hths hf hal⟩
 ·have hdm':(aD ctf.S k').dim≠none:=by rw[←hd];exact hdm
  rcases hk k with⟨h,_⟩|⟨h3,h4,h5,_⟩
  ·exact hRf.inj k k' b (by rw[←h];exact hz) hdm' hm hm'
  ·rw[h4]at hz;rw[hμ k h3]at hm
   have hcase:(k'<c.S.length∧(aD c.S k').dim≠none)∨(aD ctf.S k').frozen=false:=by
    rcases hk k' with⟨g1,g2⟩|⟨g1,g2,g3,_⟩
    ·rcases g2 hdm' with⟨g2,_⟩|⟨g2,g3,_⟩
     ·exact .inr g2
     ·exact .inl ⟨g2,by rw[←g3];exact hdm'⟩
    ·exact .inl ⟨g1,by rw[←g2];exact hdm⟩
   rcases hcase with⟨g1,g2⟩|g1
   ·rw[hμ k' g1]at hm';exact hR.inj k k' b hz g2 hm hm'
   ·exact(hRf.inj k' k b g1 (by rw[h5,gz];exact ot hz) hm' (by rw[hμ k h3];exact hm)).symm
 ·intro d hdd
  have old:k<c.S.length→aD S2 k=aD c.S k→(∀b y,c.μ k=some b→c.σ.m b=some y→ctf.σ.m b=some y)→1≤d.1∧
   ((d.2=0∧ctf.μ k=none)∨∃b y cs rest,ctf.μ k=some b∧ctf.σ.m b=some y∧y.es=d.1∧((aD S2 k).frozen=false→y.own=true)∧y.cells=cs++rest∧F2 (VRel ⟨ctf.μ,S2,ctf.σ,ctf.fb⟩) (aD S2 k).vals cs):=by
   intro h1 h2 h3;obtain⟨q1,q2⟩:=hR.blk k d (by rw[←h2];exact hdd);refine⟨q1, ?_⟩;rcases q2 with⟨q2,q3⟩|⟨b,y,cs,rest,q2,q3,q4,q5,q6,q7⟩
   ·exact .inl ⟨q2,(hμ k h1).trans q3⟩
   ·exact .inr ⟨b,y,cs,rest,(hμ k h1).trans q2,h3 b y q2 q3,q4,by rw[h2];exact q5,q6,by rw[h2];exact VRel.frames hle2 q7⟩
  rcases hk k with⟨h,h'⟩|⟨h3,h4,h5,h6⟩
  ·have hdf:(aD ctf.S k).dim=some d:=by rw[←hd];exact hdd
   rcases h' (by rw[hdf];simp)with⟨h1,h2⟩|⟨h1,h2,h3⟩
   ·obtain⟨q1,q2⟩:=hRf.blk k d hdf;refine⟨q1, ?_⟩;rcases q2 with q2|⟨b,y,cs,rest,q2,q3,q4,q5,q6,q7⟩
    ·exact .inl q2
    ·exact .inr ⟨b,y,cs,rest,q2,q3,q4,by rw[h];exact q5,q6,by rw[h];exact hths q7 (bX3 h2)⟩
   ·exact old h1 (h.trans h2) h3
  ·exact old h3 h4 (h6 (by rw[←h4,hdd];simp))
end
theorem bh9 : ∀{m:List (Option Src)},bh8 m=true→∀(i:Nat) (x:Option Src),m[i]?=some x→∃k,x=some ⟨k,none⟩
 |[],_,i,x,h=>by simp at h
 |none::_,h,_,_,_=>by cases h
 |some ⟨k,some n⟩::_,h,_,_,_=>by cases h
 |some ⟨k,none⟩::r,h,0,x,hx=>by simp at hx;exact⟨k,hx.symm⟩
 |some ⟨k,none⟩::r,h,i+1,x,hx=>bh9 (m:=r) h i x (by simpa using hx)
theorem aH8 : ∀{os:List OSk} {i j:Nat},j∈tR os i↔∃p o,os[p]?=some o∧o.ro=false∧j=i+p
 |[],i,j=>by simp[tR]
 |o::os,i,j=>by
  simp only[tR];have ih:= @aH8 os (i+1) j;constructor
  ·intro h;cases hr:o.ro with
   |true=>
    rw[hr,cond_true]at h;obtain⟨p,o',h1,h2,h3⟩:=ih.1 h;exact⟨p+1,o',by simpa using h1,h2,by omega⟩
   |false=>
    rw[hr,cond_false]at h;rcases List.mem_cons.1 h with h|h
    ·exact⟨0,o,rfl,hr,by omega⟩
    ·obtain⟨p,o',h1,h2,h3⟩:=ih.1 h;exact⟨p+1,o',by simpa using h1,h2,by omega⟩
  ·rintro⟨p,o',h1,h2,h3⟩;cases p with
   |zero=>
    simp at h1;subst h1;rw[h2,cond_false];exact List.mem_cons.2 (.inl (by omega))
   |succ p=>
    have:=ih.2 ⟨p,o',by simpa using h1,h2,by omega⟩;cases o.ro with
    |true=>exact this
    |false=>exact List.mem_cons_of_mem _ this
theorem bg3 : ∀{os:List OSk} {m:List (Option Src)} {i:Nat} {f:Nat→Nat},os.length=m.length→(∀(p:Nat) (x:Option Src),m[p]?=some x→∃k,x=some ⟨k,none⟩∧f (i+p)=k)→(tR os i).map f=kD os m
 |[],[],i,f,_,_=>rfl
 |[],_::_,_,_,h,_=>by simp at h
 |_::_,[],_,_,h,_=>by simp at h
 |o::os,x::m,i,f,h,hf=>by
  obtain⟨k,h1,h2⟩:=hf 0 x rfl;subst h1
  have ih:= @bg3 os m (i+1) f (by simpa using h) fun p y hy=>by
   obtain⟨k',h3,h4⟩:=hf (p+1) y (by simpa using hy);exact⟨k',h3,by rw[←h4];congr 1;omega⟩
  simp only[tR,kD];cases o.ro with
  |true=>exact ih
  |false=>
   simp only[cond_false,List.map_cons,ih];rw[Nat.add_zero]at h2;rw[h2]
theorem aq7 : ∀{os:List OSk} {m:List (Option Src)} {k:Nat},k∈kD os m→∃(i:Nat) (o:OSk) (x:Src),m[i]?=some (some x)∧os[i]?=some o∧o.ro=false∧x.k=k
 |[],[],k,h=>by simp[kD]at h
 |[],_::_,k,h=>by simp[kD]at h
 |_::_,[],k,h=>by simp[kD]at h
 |o::os,none::m,k,h=>by
  obtain⟨i,o',x,h1,h2,h3,h4⟩:=aq7 (os:=os) (m:=m) h;exact⟨i+1,o',x,by simpa using h1,by simpa using h2,h3,h4⟩
 |o::os,some x::m,k,h=>by
  simp only[kD]at h;cases hr:o.ro with
  |true=>
   rw[hr,cond_true]at h;obtain⟨i,o',x',h1,h2,h3,h4⟩:=aq7 (os:=os) (m:=m) h;exact⟨i+1,o',x',by simpa using h1,by simpa using h2,h3,h4⟩
  |false=>
   rw[hr,cond_false]at h;rcases List.mem_cons.1 h with h|h
   ·exact⟨0,o,x,rfl,rfl,hr,h.symm⟩
   ·obtain⟨i,o',x',h1,h2,h3,h4⟩:=aq7 (os:=os) (m:=m) h;exact⟨i+1,o',x',by simpa using h1,by simpa using h2,h3,h4⟩
theorem aX1 : ∀{m:List (Option Src)} {k:Nat},k∈qC m→∃(i:Nat) (x:Src),m[i]?=some (some x)∧x.k=k
 |[],k,h=>by simp[qC]at h
 |none::m,k,h=>by
  obtain⟨i,x,h1,h2⟩:=aX1 (m:=m) h;exact⟨i+1,x,by simpa using h1,h2⟩
 |some x::m,k,h=>by
  rcases List.mem_cons.1 h with h|h
  ·exact⟨0,x,rfl,h.symm⟩
  ·obtain⟨i,x',h1,h2⟩:=aX1 (m:=m) h;exact⟨i+1,x',by simpa using h1,h2⟩
theorem uC : ∀{os:List OSk} {m:List (Option Src)},(qC m).Nodup→(kD os m).Nodup
 |[],[],_=>List.nodup_nil
 |[],_::_,_=>List.nodup_nil
 |_::_,[],_=>List.nodup_nil
 |o::os,none::m,h=>uC (os:=os) (m:=m) h
 |o::os,some x::m,h=>by
  have h1:=List.nodup_cons.1 h;have ih:=uC (os:=os) h1.2;simp only[kD];cases o.ro with
  |true=>exact ih
  |false=>
   refine List.nodup_cons.2 ⟨fun h2=>h1.1 ?_,ih⟩;obtain⟨i,o',x',h3,_,_,h4⟩:=aq7 h2;rw[←h4];exact xo h3
theorem br4 {S:cf}{N:Nat}: ∀{os:List OSk} {i:Nat} {st st1:DSt},tN S N os i st=some st1→∀(p:Nat) (o:OSk) (x:Src),os[p]?=some o→o.ro=true→st1.m[i+p]?=some (some x)→x.k∈st1.lent
 |[],i,st,st1,h,p,o,x,ho,_,_=>by simp at ho
 |o'::os,i,st,st1,h,p,o,x,ho,hr,hx=>by
  simp only[tN]at h;split at h
  ·rename_i y hy;obtain⟨st2,h1,h2⟩:=ce h;cases p with
   |succ p=>exact br4 h2 p o x (by simpa using ho) hr (by rw[←hx];congr 1;omega)
   |zero=>
    simp at ho;subst ho;obtain⟨t1,t2⟩:=(aC5 h1).m;obtain⟨t3,t4⟩:=(rq h2).m
    have hx':st1.m[i]?=some y:=by
     rw[←vP,t4,t2];exact aD9 (aD9 hy)
    rw[Nat.add_zero,hx']at hx;injection hx with hx
    subst hx;refine(rq h2).lent _ ?_;unfold bG0 at h1;split at h1
    ·cases hr
    ·rename_i hxx;injection hxx with hxx
     subst hxx;split at h1
     ·rename_i es ro l k _ es' fz cs hb;simp only[OSk.ro]at hr;subst hr;cases hk:(Nat.beq es es'&&(true|| !fz))with
      |false=>rw[hk]at h1;cases h1
      |true=>
       rw[hk,cond_true]at h1;exact(tO _ _ _ _ h1).lent _ List.mem_cons_self
     ·cases h1
    ·rename_i hxx;cases hxx
    ·rename_i hxx;injection hxx with hxx
     subst hxx;rename_i ro s cut _ _;simp only[OSk.ro]at hr;subst hr;cases hk:(true|| !(aD S _).frozen)with
     |false=>rw[hk]at h1;cases h1
     |true=>
      rw[hk,cond_true]at h1;obtain⟨l,h3,h4⟩:=ce h1;injection h4 with h4
      subst h4;exact List.mem_cons_self
    ·cases h1
  ·cases h
def oc (c:Ctx)(st:DSt)(bs:List Blk):Ctx:=⟨fun i=>match st.m[i]? with
 |some x=>zq c x
 |none=>none,bs,c.σ,fun b=>c.mut b∧¬∃k,(k∈qC st.m∨k∈st.lent)∧(aD c.S k).dim≠none∧c.μ k=some b⟩
structure Entered (c c0:Ctx)(objs:List OSk)(st:DSt)(bs:List Blk):Prop where
 rel:gb c0
 sub: ∀i,(aD c0.S i).dim≠none→∃x,st.m[i]?=some x∧c0.μ i=zq c x∧∀y,x=some y→(aD c.S y.k).dim≠none∧(y.cut=none→(aD c0.S i).dim=(aD c.S y.k).dim)∧((aD c0.S i).frozen=false→(aD c.S y.k).frozen=false)
 own: ∀b,c0.own b→c.own b
 fz: ∀(i:Nat) (o:OSk),objs[i]?=some o→o.ro=true→(aD c0.S i).frozen=true∧(aD c0.S i).dim≠none
 len:bs.length=objs.length∧st.m.length=objs.length
theorem enter {c:Ctx}{sk:xA}{vals vs:List VV}{as:List Value}{st:DSt}{fs bs:List Blk}(hR:gb c)(h0:sk.fix=[])(hd:qB c.S 0 [] sk vals=some st)(he:ru id sk st.ls=some (vs,fs,bs))(hf:F2 (VRel c) vals as):
  Entered c (oc c st bs) sk.free st bs∧F2 (VRel (oc c st bs)) vs as:=by
 obtain⟨ct0,vs0,fs0,bs0,p1,p2,p3⟩:=bf7 (f:=id) hR hd hf;rw[he]at p1;injection p1 with p1
 injection p1 with q1 p1
 injection p1 with q2 q3
 subst q1;subst q2;subst q3;obtain⟨ap1,ap2⟩:=rr hd;have hnd:=rn ap1;rw[List.nil_append]at hnd ap2;obtain⟨y1,y2,y3⟩:=p3.get
 have sub: ∀i,(aD bs i).dim≠none→∃(x:Option Src) (o:OSk),st.m[i]?=some x∧sk.free[i]?=some o∧uD c ct0 o x (aD bs i):=by
  intro i hi;have hlt:=pc hi;have hb:=List.getElem?_eq_getElem hlt;have hm:i<st.m.length:=by rw[y1];exact hlt
  obtain⟨o,h1,h2⟩:=y3 i _ _ (List.getElem?_eq_getElem hm) hb;rw[vp hb];exact⟨_,o,List.getElem?_eq_getElem hm,h1,h2⟩
 have hmu: ∀i x,st.m[i]?=some x→(oc c st bs).μ i=zq c x:=by
  intro i x hx
  show(match st.m[i]? with
   |some x=>zq c x
   |none=>none)=_
  rw[hx]
 have src: ∀i,(aD bs i).frozen=false→∀b,(oc c st bs).μ i=some b→∃x,st.m[i]?=some (some x)∧(aD c.S x.k).frozen=false∧c.μ x.k=some b∧x.k∈kD sk.free st.m:=by
  intro i hz b hm;obtain⟨x,o,h1,h2,h3⟩:=sub i (ot hz);rw[hmu i x h1]at hm;rcases h3 with⟨_,h3⟩|⟨h3,h4⟩
  ·rw[h3]at hz;cases hz
  ·cases x with
   |none=>cases hm
   |some x=>
    obtain⟨k,cut⟩:=x;rw[h3]at hz;exact⟨_,h1,h4.1 hz,hm,aG1 h1 h2 hz⟩
 have src2: ∀i,(aD bs i).dim≠none→∀b,(oc c st bs).μ i=some b→∃x,st.m[i]?=some (some x)∧(aD c.S x.k).dim≠none∧c.μ x.k=some b:=by
  intro i hz b hm;obtain⟨x,o,h1,h2,h3⟩:=sub i hz;rw[hmu i x h1]at hm;rcases h3 with⟨_,h3⟩|⟨h3,h4⟩
  ·rw[h3]at hz;exact(hz rfl).elim
  ·cases x with
   |none=>cases hm
   |some x=>
    obtain⟨k,cut⟩:=x;obtain⟨_,d,h5,_⟩:=h4;exact⟨_,h1,by rw[h5];simp,hm⟩
 have hT:Tell c (oc c st bs) 0 id st:=by
  refine⟨⟨rfl,fun b y hy hn=> ?_⟩,fun j x hl=> ?_,fun s hs hsd b hm=> ?_⟩
  ·rintro(⟨i,h1,h2⟩|h)
   ·obtain⟨x,_,h3,h4,_⟩:=src i h1 b h2;exact hn (.inl ⟨x.k,h3,h4⟩)
   ·exact hn h.1
  ·rcases hl with⟨h1,_⟩|⟨_,h2⟩
   ·omega
   ·rw[Nat.sub_zero,vP]at h2
    have hlt:j<bs.length:=by
     rw[←y1];rcases Nat.lt_or_ge j st.m.length with h|h
     ·exact h
     ·rw[List.getElem?_eq_none h]at h2;cases h2
    refine⟨hlt,fun d' hd'=> ?_⟩;obtain⟨x',o,h1,h3,h4⟩:=sub j (by rw[show(aD bs j).dim=some d' from hd'];simp);rw[h2]at h1;injection h1 with h1
    subst h1;have hd'':(aD bs j).dim=some d':=hd';rcases h4 with⟨_,h4⟩|⟨h4,h5⟩
    ·rw[h4]at hd'';cases hd''
    ·cases x with
     |none=>
      obtain⟨_,s,h6⟩:=h5;rw[h6]at hd'';injection hd'' with hd''
      subst hd'';exact⟨by simp,hmu j _ h2⟩
     |some x=>
      obtain⟨k,cut⟩:=x;obtain⟨_,d,h6,h7,_⟩:=h5;refine⟨d,h6, ?_⟩;cases cut with
      |none=>
       simp only at h7;rw[h7]at hd'';injection hd'' with hd''
       subst hd'';exact⟨rfl,hmu j _ h2,rfl⟩
      |some n=>
       simp only at h7;rw[h7]at hd'';injection hd'' with hd''
       subst hd'';exact⟨rfl,hmu j _ h2,rfl⟩
  ·rintro(⟨i,h1,h2⟩|h)
   ·obtain⟨x,_,h3,h4,h5⟩:=src i h1 b h2;have:=hR.inj x.k s b h3 hsd h4 hm;rw[this]at h5;exact aW3 ap2 h5 hs
   ·exact h.2 ⟨s, .inr hs,hsd,hm⟩
 obtain⟨vs1,fs1,bs1,r1,r2,r3,r4⟩:=aH5 hR hT hd hf;rw[he]at r1;injection r1 with r1
 injection r1 with e1 r1
 injection r1 with e2 e3
 subst e1;subst e2;subst e3;obtain⟨_,_,y4⟩:=r4.get;refine⟨⟨⟨hR.ok,fun i i' b hz hdm hm hm'=> ?_,fun i=> ?_,fun i b hdm hm hb=> ?_,fun b hb=> ?_⟩,fun i hi=> ?_,fun b hb=> ?_,fun i o ho hr=> ?_,⟨y2.symm,by rw[y1,y2]⟩⟩,r2⟩
 ·obtain⟨x,h1,h2,h3,_⟩:=src i hz b hm;obtain⟨x',h4,h5,h6⟩:=src2 i' hdm b hm';exact aD3 hnd h1 h4 (hR.inj _ _ b h2 h5 h3 h6)
 ·by_cases hdm:(aD bs i).dim=none
  ·intro d hd';rw[show(aD (oc c st bs).S i).dim=none from hdm]at hd';cases hd'
  ·have hlt:=pc hdm;have hb:=List.getElem?_eq_getElem hlt;have hm:i<st.m.length:=by rw[y1];exact hlt
   obtain⟨o,h1,h2⟩:=y4 i _ _ (List.getElem?_eq_getElem hm) hb;exact h2.blkRel (ct:=oc c st bs) hR rfl (vp hb) fun _=>hmu i _ (List.getElem?_eq_getElem hm)
 ·obtain⟨x',h4,h5,h6⟩:=src2 i hdm b hm;exact hb.2 ⟨x'.k, .inl (xo h4),h5,h6⟩
 ·rcases hb.1 with⟨k,h1,h2⟩|h
  ·cases hdd:(aD c.S k).dim with
   |none=>exact(ot h1 hdd).elim
   |some d=>
    obtain⟨y,_,_,hy,_⟩:=hR.block hdd h2;exact hR.ok b y hy
  ·exact hR.fbl b h
 ·obtain⟨x,o,h1,h2,h3⟩:=sub i hi;refine⟨x,h1,hmu i x h1,fun y hy=> ?_⟩;subst hy;rcases h3 with⟨_,h3⟩|⟨h3,h4,d,h5,h6,_⟩
  ·rw[show aD (oc c st bs).S i=aD bs i from rfl,h3]at hi;exact(hi rfl).elim
  ·refine⟨by rw[h5];simp,fun hc=> ?_,fun hz=>h4 (by rw[←h3];exact hz)⟩;rw[hc]at h6;rw[h5];exact h6
 ·obtain⟨i,h1,h2⟩:=hb;obtain⟨x,_,h3,h4,_⟩:=src i h1 b h2;exact⟨x.k,h3,h4⟩
 ·have hi:i<bs.length:=by
   rw[←y2];rcases Nat.lt_or_ge i sk.free.length with h|h
   ·exact h
   ·rw[List.getElem?_eq_none h]at ho;cases ho
  have hm:i<st.m.length:=by rw[y1];exact hi
  obtain⟨o',h1,h2⟩:=y3 i _ _ (List.getElem?_eq_getElem hm) (List.getElem?_eq_getElem hi);rw[ho]at h1;injection h1 with h1
  subst h1;rw[show aD (oc c st bs).S i=aD bs i from rfl,vp (List.getElem?_eq_getElem hi)];rcases h2 with⟨h2,_⟩|⟨h2,h3⟩
  ·subst h2;cases hr
  ·refine⟨h2.trans hr, ?_⟩;cases hx:st.m[i]with
   |none=>rw[hx]at h3;obtain⟨h3,_⟩:=h3;rw[h3]at hr;cases hr
   |some x=>
    obtain⟨k,cut⟩:=x;rw[hx]at h3;obtain⟨_,d,_,h4,_⟩:=h3;cases cut with
    |none=>simp only at h4;rw[h4];simp
    |some n=>simp only at h4;rw[h4];simp
theorem bg7 : ∀{l:List Nat} {S:cf} {k:Nat},k∈l→(aD (ae8 l S) k).frozen=true
 |[],S,k,h=>by simp at h
 |a::l,S,k,h=>by
  simp only[ae8];by_cases hk:k∈l
  ·exact bg7 hk
  ·have:k=a:=by
    rcases List.mem_cons.1 h with h|h
    ·exact h
    ·exact(hk h).elim
   subst this;rcases(ut l (mh S k (aD S k).freeze)).2 k with h1|h1
   ·rw[h1,wM];split
    ·exact pv
    ·rename_i hn;have: ¬k<S.length:=fun e=>hn ⟨rfl,e⟩
     rw[vq (by omega)];rfl
   ·rw[h1];exact pv
theorem bT4 {c c0 c':Ctx}{objs:List OSk}{sk:xA}{vals vs:List VV}{as:List Value}{st st':DSt}{fs bs bs0:List Blk}{Sf:cf}(hR:gb c)(h0:c0=oc c st bs0)(hE:Entered c c0 objs st bs0)(hle:Le c0 c')(hR':gb c')
  (hcut:bh8 st.m=true) (hok:aO5 c.S (kD objs st.m)=true) (hnd:(qC st.m).Nodup) (hlent: ∀(i:Nat) (o:OSk) (x:Src),objs[i]?=some o→o.ro=true→st.m[i]?=some (some x)→x.k∈st.lent)
  (hro:sk.noRo=true) (hd:qB c'.S objs.length (tR objs 0) sk vals=some st') (he:ru (vJ st.m objs.length c.S.length) sk st'.ls=some (vs,fs,bs)) (hf:F2 (VRel c') vals as) (hS:vw (kD objs st.m) fs (ae8 st.lent c.S)=some Sf):
  ∃ct:Ctx,ct.σ=c'.σ∧ct.S=Sf++bs∧ct.fb=c.fb∧(∀k,k<c.S.length→ct.μ k=c.μ k)∧Le c ct∧gb ct∧F2 (VRel ct) vs as∧
   (∀k,k<c.S.length→k∉kD objs st.m→(aD c.S k).dim≠none→∀b y,c.μ k=some b→c.σ.m b=some y→ct.σ.m b=some y):=by
 have hσ0:c0.σ=c.σ:=by rw[h0];rfl
 have hfb0: ∀b,c0.fb b↔(c.mut b∧¬∃k,(k∈qC st.m∨k∈st.lent)∧(aD c.S k).dim≠none∧c.μ k=some b):=by rw[h0];exact fun b=>Iff.rfl
 have hS0:c0.S=bs0:=by rw[h0];rfl
 have hfb':c'.fb=c0.fb:=hle.fb;obtain⟨l1,l2⟩:=hE.len;obtain⟨s1,s2,s3,s4⟩:=kB hS;rw[(ut st.lent c.S).1]at s2 s4;have hfz:=ut st.lent c.S
 have pos: ∀i,i<objs.length→∃k,st.m[i]?=some (some ⟨k,none⟩)∧vJ st.m objs.length c.S.length i=k:=by
  intro i hi;have hm:i<st.m.length:=by omega
  obtain⟨k,hk⟩:=bh9 hcut i _ (List.getElem?_eq_getElem hm);have h1:st.m[i]?=some (some ⟨k,none⟩):=by rw[List.getElem?_eq_getElem hm,hk]
  refine⟨k,h1, ?_⟩;unfold vJ;rw[show Nat.blt i objs.length=true from Nat.ble_eq_true_of_le hi,cond_true,vP,h1]
 have fmap:(tR objs 0).map (vJ st.m objs.length c.S.length)=kD objs st.m:=by
  refine bg3 l2.symm fun p x hx=> ?_
  have hp:p<objs.length:=by
   rw[←l2];rcases Nat.lt_or_ge p st.m.length with h|h
   ·exact h
   ·rw[List.getElem?_eq_none h]at hx;cases hx
  obtain⟨k,h1,h2⟩:=pos p hp;rw[hx]at h1;injection h1 with h1
  exact⟨k,h1,by rw[Nat.zero_add];exact h2⟩
 have fxlt: ∀j,j∈tR objs 0→j<objs.length∧∃o,objs[j]?=some o∧o.ro=false:=by
  intro j hj;obtain⟨p,o,h1,h2,h3⟩:=aH8.1 hj;rw[Nat.zero_add]at h3;subst h3;refine⟨?_,o,h1,h2⟩;rcases Nat.lt_or_ge j objs.length with h|h
  ·exact h
  ·rw[List.getElem?_eq_none h]at h1;cases h1
 have fxw: ∀j,j∈tR objs 0→vJ st.m objs.length c.S.length j∈kD objs st.m:=fun j hj=>by rw[←fmap];exact List.mem_map_of_mem hj
 have wfx: ∀k,k∈kD objs st.m→∃j,j∈tR objs 0∧vJ st.m objs.length c.S.length j=k:=fun k hk=>by rw[←fmap]at hk;obtain⟨j,h1,h2⟩:=List.mem_map.1 hk;exact⟨j,h1,h2⟩
 have oth: ∀k,(∀j,j∈tR objs 0→vJ st.m objs.length c.S.length j≠k)→k∉kD objs st.m:=fun k hk h=>by obtain⟨j,h1,h2⟩:=wfx k h;exact hk j h1 h2
 let ct:Ctx:=⟨fun i=>if i<c.S.length then c.μ i else match st'.m[i-c.S.length]? with
  |some x=>zq c' x
  |none=>none,Sf++bs,c'.σ,c.fb⟩
 have hget: ∀k,k<c.S.length→aD ct.S k=aD Sf k:=fun k hk=>px (by rw[s2];exact hk)
 have hoth: ∀k,k<c.S.length→k∉kD objs st.m→aD ct.S k=aD (ae8 st.lent c.S) k:=fun k hk hn=>by rw[hget k hk,s3 k hn]
 have own0: ∀b,c0.own b→∃k,k∈kD objs st.m∧(aD c.S k).frozen=false∧c.μ k=some b:=by
  rintro b ⟨i,h1,h2⟩;obtain⟨x,h3,h4,h5⟩:=hE.sub i (ot h1);rw[h4]at h2;cases x with
  |none=>cases h2
  |some x=>
   obtain⟨h6,_,h8⟩:=h5 x rfl
   have hi:i<objs.length:=by
    rw[←l2];rcases Nat.lt_or_ge i st.m.length with h|h
    ·exact h
    ·rw[List.getElem?_eq_none h]at h3;cases h3
   have ho:objs[i]?=some objs[i]:=List.getElem?_eq_getElem hi;refine⟨x.k,aG1 h3 ho ?_,h8 h1,h2⟩;cases hr:(objs[i]).ro with
   |false=>rfl
   |true=>rw[(hE.fz i _ ho hr).1]at h1;cases h1
 have nown: ∀k,k∉kD objs st.m→(aD c.S k).dim≠none→∀b,c.μ k=some b→¬c0.own b:=by
  intro k hk hdm b hm h;obtain⟨k',h1,h2,h3⟩:=own0 b h;have:=hR.inj k' k b h2 hdm h3 hm;subst this;exact hk h1
 have hun: ∀k,k<c.S.length→k∉kD objs st.m→(aD c.S k).dim≠none→∀b y,c.μ k=some b→c.σ.m b=some y→c'.σ.m b=some y:=fun k _ hk hdm b y hm hy=>hle.un b y (by rw[hσ0];exact hy) (nown k hk hdm b hm)
 have exists_blk: ∀k b,(aD c.S k).dim≠none→c.μ k=some b→∃y,c.σ.m b=some y:=by
  intro k b hdm hm;cases hdd:(aD c.S k).dim with
  |none=>exact(hdm hdd).elim
  |some d=>
   obtain⟨y,_,_,hy,_⟩:=hR.block hdd hm;exact⟨y,hy⟩
 have dimo: ∀k,k<c.S.length→k∉kD objs st.m→(aD ct.S k).dim=(aD c.S k).dim:=fun k hk hn=>by rw[hoth k hk hn];exact hfz.dim k
 have notin: ∀k,k<c.S.length→k∉kD objs st.m→(aD ct.S k).frozen=false→∀b,c.μ k=some b→(aD c.S k).frozen=false∧¬∃k',(k'∈qC st.m∨k'∈st.lent)∧(aD c.S k').dim≠none∧c.μ k'=some b:=by
  intro k hk hn hz b hm;rw[hoth k hk hn]at hz;have hz':(aD c.S k).frozen=false:=by rw[←hfz.fz hz];exact hz
  refine⟨hz', ?_⟩;rintro⟨k',h1,h2,h3⟩;have:=hR.inj k k' b hz' h2 hm h3;subst this;have hnl:k∉st.lent:=fun e=>by rw[bg7 e]at hz;cases hz
  rcases h1 with h1|h1
  ·obtain⟨i,x,h4,h5⟩:=aX1 h1
   have hi:i<objs.length:=by
    rw[←l2];rcases Nat.lt_or_ge i st.m.length with h|h
    ·exact h
    ·rw[List.getElem?_eq_none h]at h4;cases h4
   have ho:objs[i]?=some objs[i]:=List.getElem?_eq_getElem hi;cases hr:(objs[i]).ro with
   |true=>exact hnl (by rw[←h5];exact hlent i _ x ho hr h4)
   |false=>exact hn (by rw[←h5];exact aG1 h4 ho hr)
  ·exact hnl h1
 have g:GT c c' ct objs.length (vJ st.m objs.length c.S.length) (tR objs 0) sk st' fs bs:=by
  refine⟨rfl,rfl,by simp[ct,s2],fun k hk hn=> ?_,fun i j b hi hb=> ?_,fun j hj=>(oe hok (fxw j hj)).1,fun i b hb=> ?_,fun i=> ?_,fun k hk=>if_pos hk,fun i x hx=> ?_,fun b y hy hn=>hle.un b y (by rw[hσ0];exact hy) fun e=>hn (hE.own b e),fun b y hy hn=>hle.ow b y (by rw[hσ0];exact hy) fun e=>hn (hE.own b e),by rw[←hσ0];exact hle.n,fun k hk hn hdm b y hm hy=> ?_,fun k hk hn hdm s hs hz b hm e=> ?_,fun j hj hdm=> ?_,fun j hj=>(oe hok (fxw j hj)).2,
   fun j j' hj hj' e=> ?_,fun k b hdm hm hb=> ?_,fun j hj hn=> ?_,fun k hk hn hz b y hm hy=> ?_,fun k hk hn hz s hs hsd b hm e=> ?_,fun b hb=> ?_,fun j hj=>(fxlt j hj).1,hro⟩
  ·rw[hoth k hk (oth k hn)];rcases hfz.2 k with h|h
   ·exact .inl h
   ·exact .inr (.inl h)
  ·have hj:=List.mem_of_getElem? hi;have hw:=fxw j hj;have hlt:=(oe hok hw).1;show aD ct.S _=b;rw[hget _ hlt];refine s4 (uC hnd) i _ b ?_ hb hlt;rw[←fmap,List.getElem?_map,hi];rfl
  ·show aD (Sf++bs) (c.S.length+i)=b;rw[←s2,tc];exact vp hb
  ·unfold vJ
   have:Nat.blt (objs.length+i) objs.length=false:=by
    cases hb:Nat.blt (objs.length+i) objs.length with
    |false=>rfl
    |true=>have:=Nat.le_of_ble_eq_true hb;omega
   rw[this,cond_false,Nat.add_sub_cancel_left]
  ·show(if c.S.length+i<c.S.length then _ else _)=_;rw[if_neg (by omega),Nat.add_sub_cancel_left,hx]
  ·exact hun k hk (oth k hn) (by rw[←dimo k hk (oth k hn)];exact hdm) b y hm hy
  ·have hdm':(aD c.S k).dim≠none:=by rw[←dimo k hk (oth k hn)];exact hdm
   obtain⟨y,hy⟩:=exists_blk k b hdm' e;exact hle.ow b y (by rw[hσ0];exact hy) (nown k (oth k hn) hdm' b e) ⟨s,hz,hm⟩
  ·obtain⟨k,h1,h2⟩:=pos j (fxlt j hj).1;have hj0:j<c0.S.length:=by rw[hS0,l1];exact(fxlt j hj).1
   cases hdd:(aD c'.S j).dim with
   |none=>exact(hdm hdd).elim
   |some d=>
    obtain⟨h3,h4⟩:=hle.al j d hj0 hdd;obtain⟨x,h5,h6,h7⟩:=hE.sub j (by rw[h3];simp);rw[h1]at h5;injection h5 with h5
    subst h5;obtain⟨h8,h9,_⟩:=h7 _ rfl;rw[h2];refine⟨by rw[←h9 rfl,h3],h4.trans h6,fun b y hm hy=>hle.ln j d b y hj0 hdd (h6.trans hm) (by rw[hσ0];exact hy)⟩
  ·obtain⟨k,h1,h2⟩:=pos j (fxlt j hj).1;obtain⟨k',h3,h4⟩:=pos j' (fxlt j' hj').1;rw[h2,h4]at e;subst e;exact aD3 hnd h1 h3 rfl
  ·have h1:=hR'.fbk k b hdm hm;rw[hfb',hfb0]at h1;refine h1 ⟨.inr hb, ?_⟩;rintro⟨k',_,h3,h4⟩;exact hR.fbk k' b h3 h4 hb
  ·obtain⟨k,h1,h2⟩:=pos j hj;have ho:objs[j]?=some objs[j]:=List.getElem?_eq_getElem hj
   have hr:(objs[j]).ro=true:=by
    cases hr:(objs[j]).ro with
    |true=>rfl
    |false=>exact(hn (aH8.2 ⟨j,_,ho,hr,by omega⟩)).elim
   obtain⟨h3,h4⟩:=hE.fz j _ ho hr;obtain⟨x,h5,h6,h7⟩:=hE.sub j h4;rw[h1]at h5;injection h5 with h5
   subst h5;obtain⟨h8,h9,_⟩:=h7 _ rfl;simp only at h8 h9;have hkl:k<c.S.length:=pc h8
   have hkw:k∉kD objs st.m:=by
    intro hk;obtain⟨i,o,x,g1,g2,g3,g4⟩:=aq7 hk;have:=aD3 hnd g1 h1 g4;subst this;rw[ho]at g2;injection g2 with g2
    rw[g2,g3]at hr;cases hr
   have hj0:j<c0.S.length:=by rw[hS0,l1];exact hj
   have hsame:=hle.fz j h3 h4;rw[h2];refine⟨by simp only[ct,List.length_append,s2];omega,fun d' hd'=> ?_⟩;rw[dimo k hkl hkw]at hd';refine⟨d',by rw[hsame,h9 trivial];exact hd',rfl, ?_,rfl⟩;show(if k<c.S.length then c.μ k else _)=_;rw[if_pos hkl,(hle.al j d' hj0 (by rw[hsame,h9 trivial];exact hd')).2,h6];rfl
  ·obtain⟨h1,h2⟩:=notin k hk (oth k hn) hz b hm;exact .inr (by rw[hfb',hfb0];exact⟨.inl ⟨k,h1,hm⟩,h2⟩)
  ·obtain⟨h1,h2⟩:=notin k hk (oth k hn) hz b e;have h3:=hR'.fbk s b hsd hm;rw[hfb',hfb0]at h3;exact h3 ⟨.inl ⟨k,h1,e⟩,h2⟩
  ·refine .inr ?_;rw[hfb',hfb0];refine⟨.inr hb, ?_⟩;rintro⟨k',_,h3,h4⟩;exact hR.fbk k' b h3 h4 hb
 obtain⟨r1,r2,r3⟩:=g.all hR hR' hd he hf;exact⟨ct,rfl,rfl,rfl,fun k hk=>if_pos hk,r1,r2,r3,hun⟩
theorem aJ4 : ∀{js:List Nat} {bs:List Blk} {S S1:cf},js.length=bs.length→∃S2,vw js bs S1=some S2
 |[],[],_,S1,_=>⟨S1,rfl⟩
 |[],_::_,_,_,h=>by simp at h
 |_::_,[],_,_,h=>by simp at h
 |j::js,b::bs,S,S1,h=>by
  obtain⟨S2,h1⟩:=aJ4 (js:=js) (bs:=bs) (S:=S) (S1:=mh S1 j b) (by simpa using h);exact⟨S2,h1⟩
theorem aV7 {f:Nat→Nat}: ∀{os:List OSk} {ls rest:List Leaf} {bs:List Blk},ae7 f os ls=some (bs,rest)→(∀o,o∈os→o.ro=false)→∀b,b∈bs→b.dim≠none→b.frozen=false
 |[],ls,rest,bs,h,_,b,hb,_=>by
  simp only[ae7]at h;injection h with h
  injection h with h1 h2
  subst h1;simp at hb
 |o::os,ls,rest,bs,h,hr,b,hb,hd=>by
  simp only[ae7]at h;obtain⟨p,h1,h⟩:=ce h;obtain⟨q,h2,h⟩:=ce h;injection h with h
  injection h with h3 h4
  subst h3;rcases List.mem_cons.1 hb with hb|hb
  ·subst hb;have ho:=hr o List.mem_cons_self;cases o with
   |dead=>
    simp only[be0]at h1;injection h1 with h1
    rw[←h1]at hd;exact(hd rfl).elim
   |cells es ro l=>
    simp only[be0]at h1;obtain⟨v,h5,h6⟩:=ce h1;injection h6 with h6
    rw[←h6];exact ho
   |arr ro s=>
    cases ls with
    |nil=>simp[be0]at h1
    |cons x ls=>
     simp only[be0]at h1;obtain⟨v,h5,h6⟩:=ce h1;injection h6 with h6
     rw[←h6];exact ho
  ·exact aV7 h2 (fun o ho=>hr o (List.mem_cons_of_mem _ ho)) b hb hd
theorem bw8 {f:Nat→Nat}{sk:xA}{ls:List Leaf}{vs:List VV}{fs bs:List Blk}(h:ru f sk ls=some (vs,fs,bs))(hr:sk.noRo=true):(∀b,b∈fs→b.dim≠none→b.frozen=false)∧∀b,b∈bs→b.dim≠none→b.frozen=false:=by
 unfold xA.noRo at hr;rw[Bool.and_eq_true,List.all_eq_true,List.all_eq_true]at hr;unfold ru at h;obtain⟨p,h1,h⟩:=ce h;obtain⟨q,h2,h⟩:=ce h;obtain⟨r,h3,h⟩:=ce h;split at h
 ·injection h with h
  injection h with e1 h
  injection h with e2 e3
  subst e2;subst e3;exact⟨aV7 (rest:=q.2) h2 fun o ho=>by simpa using hr.1 o ho,aV7 (rest:=r.2) h3 fun o ho=>by simpa using hr.2 o ho⟩
 ·cases h
theorem bv1 {vs:List VV}{fs bs:List Blk}(h:ae6 vs fs bs=false):alL vs=false∧(∀b,b∈fs→alB b=false)∧∀b,b∈bs→alB b=false:=by
 unfold ae6 at h;rw[Bool.or_eq_false_iff,Bool.or_eq_false_iff,List.any_eq_false,List.any_eq_false]at h;exact⟨h.1.1,fun b hb=>by simpa using h.1.2 b hb,fun b hb=>by simpa using h.2 b hb⟩
theorem bB9 {l:List Blk}{i:Nat}(h:(aD l i).dim≠none):aD l i∈l:=by
 have hi:=pc h;rw[vp (List.getElem?_eq_getElem hi)];exact List.getElem_mem hi
theorem bj2 {c ctf:Ctx}{js:List Nat}{vs:List VV}{as:List Value}{fs bs:List Blk}{Sa Sb S1 S2:cf}(hR:gb c)(hle:Le c ctf)(hRf:gb ctf)(hf:F2 (VRel ctf) vs as)(hal:ae6 vs fs bs=false)
  (hz1: ∀b,b∈fs→b.dim≠none→b.frozen=false) (hz2: ∀b,b∈bs→b.dim≠none→b.frozen=false) (hla:Sa.length=c.S.length) (hlb:Sb.length=c.S.length) (hS1:vw js fs Sa=some S1) (hS2:vw js fs Sb=some S2) (hjs:js.Nodup) (hjl: ∀j,j∈js→j<c.S.length)
  (hS:ctf.S=S1++bs) (hμ: ∀k,k<c.S.length→ctf.μ k=c.μ k)
  (hoth: ∀k,k<c.S.length→k∉js→(aD Sa k=aD Sb k∧((aD Sa k).dim≠none→aD Sa k=aD c.S k))∨(aD Sb k=aD c.S k∧aD Sa k=(aD c.S k).freeze))
  (hun: ∀k,k<c.S.length→k∉js→(aD Sa k).dim≠none→∀b y,c.μ k=some b→c.σ.m b=some y→ctf.σ.m b=some y):
  Le c ⟨ctf.μ,S2++bs,ctf.σ,ctf.fb⟩∧gb ⟨ctf.μ,S2++bs,ctf.σ,ctf.fb⟩∧F2 (VRel ⟨ctf.μ,S2++bs,ctf.σ,ctf.fb⟩) vs as:=by
 obtain⟨a1,a2,a3⟩:=bv1 hal;obtain⟨p1,p2,p3,p4⟩:=kB hS1;obtain⟨q1,q2,q3,q4⟩:=kB hS2;refine thaw hR hle hRf hf a1 (by rw[hS,List.length_append,List.length_append,p2,q2,hla,hlb]) hμ fun k=> ?_
 by_cases hk:k<c.S.length
 ·have g1:aD (S2++bs) k=aD S2 k:=px (by rw[q2,hlb];exact hk);have g2:aD ctf.S k=aD S1 k:=by rw[hS];exact px (by rw[p2,hla];exact hk)
  by_cases hj:k∈js
  ·obtain⟨i,hi,e⟩:=List.mem_iff_getElem.1 hj;have hi':i<fs.length:=by rw[←p1];exact hi
   have e1:=p4 hjs i k _ (by rw[List.getElem?_eq_getElem hi,e]) (List.getElem?_eq_getElem hi') (by rw[hla];exact hk);have e2:=q4 hjs i k _ (by rw[List.getElem?_eq_getElem hi,e]) (List.getElem?_eq_getElem hi') (by rw[hlb];exact hk);refine .inl ⟨by rw[g1,g2,e1,e2],fun hdm=> .inl ?_⟩;rw[g2,e1]at hdm⊢;exact⟨hz1 _ (List.getElem_mem hi') hdm,a2 _ (List.getElem_mem hi')⟩
  ·rw[g1,g2,q3 k hj,p3 k hj];rcases hoth k hk hj with⟨h1,h2⟩|⟨h1,h2⟩
   ·exact .inl ⟨h1.symm,fun hdm=> .inr ⟨hk,h2 hdm,hun k hk hj hdm⟩⟩
   ·exact .inr ⟨hk,h1,h2,fun hdm=>hun k hk hj (by rw[h2,gz];exact hdm)⟩
 ·have h1:k=c.S.length+(k-c.S.length):=by omega
  have g1:aD (S2++bs) k=aD bs (k-c.S.length):=by
   rw[h1,←hlb,←q2,tc]
   congr 1
   omega
  have g2:aD ctf.S k=aD bs (k-c.S.length):=by
   rw[hS,h1,←hla,←p2,tc]
   congr 1
   omega
  refine .inl ⟨by rw[g1,g2],fun hdm=> .inl ?_⟩;rw[g2]at hdm⊢;exact⟨hz2 _ (bB9 hdm) hdm,a3 _ (bB9 hdm)⟩
theorem aY6 {c c0 c':Ctx}{objs:List OSk}{sk:xA}{vals vs:List VV}{as:List Value}{st st':DSt}{fs bs bs0:List Blk}{S2:cf}(hR:gb c)(h0:c0=oc c st bs0)(hE:Entered c c0 objs st bs0)(hle:Le c0 c')(hR':gb c')
  (hcut:bh8 st.m=true) (hok:aO5 c.S (kD objs st.m)=true) (hnd:(qC st.m).Nodup) (hlent: ∀(i:Nat) (o:OSk) (x:Src),objs[i]?=some o→o.ro=true→st.m[i]?=some (some x)→x.k∈st.lent)
  (hro:sk.noRo=true) (hd:qB c'.S objs.length (tR objs 0) sk vals=some st') (he:ru (vJ st.m objs.length c.S.length) sk st'.ls=some (vs,fs,bs)) (hf:F2 (VRel c') vals as)
  (hS:vw (kD objs st.m) fs (cond (ae6 vs fs bs) (ae8 st.lent c.S) c.S)=some S2):
  ∃ct:Ctx,ct.σ=c'.σ∧ct.S=S2++bs∧Le c ct∧gb ct∧F2 (VRel ct) vs as∧uM (kD objs st.m) c ct:=by
 obtain⟨q1,q2,q3,q4⟩:=kB hS;obtain⟨Sf,hSf⟩:=aJ4 (S:=c.S) (S1:=ae8 st.lent c.S) q1;obtain⟨ct,e1,e2,e3,e4,e5,e6,e7,e8⟩:=bT4 hR h0 hE hle hR' hcut hok hnd hlent hro hd he hf hSf
 have calm: ∀ct':Ctx,ct'.σ=ct.σ→(∀k,(aD ct'.S k).dim=(aD ct.S k).dim)→uM (kD objs st.m) c ct':=by
  intro ct' h1 h2 k hk hn hdm;obtain⟨_,p2,p3,_⟩:=kB hSf;have hl:(ae8 st.lent c.S).length=c.S.length:=(ut st.lent c.S).1;refine⟨?_,fun b hm=> ?_⟩
  ·rw[h2,e2,px (by rw[p2,hl];exact hk),p3 k hn,(ut st.lent c.S).dim];exact hdm
  ·cases hdd:(aD c.S k).dim with
   |none=>exact(hdm hdd).elim
   |some d=>
    obtain⟨y,_,_,hy,_⟩:=hR.block hdd hm;rw[hy,h1];exact e8 k hk hn hdm b y hm hy
 cases hal:ae6 vs fs bs with
 |true=>
  rw[hal,cond_true,hSf]at hS;injection hS with hS
  subst hS;exact⟨ct,e1,e2,e5,e6,e7,calm ct rfl fun _=>rfl⟩
 |false=>
  rw[hal,cond_false]at hS;obtain⟨z1,z2⟩:=bw8 he hro;have hfz:=ut st.lent c.S
  obtain⟨r1,r2,r3⟩:=bj2 hR e5 e6 e7 hal z1 z2 hfz.1 rfl hSf hS (uC hnd) (fun j hj=>(oe hok hj).1) e2 e4 (fun k hk hn=>by
   rcases hfz.2 k with h|h
   ·exact .inl ⟨h,fun _=>h⟩
   ·exact .inr ⟨rfl,h⟩) (fun k hk hn hdm=>e8 k hk hn (by rw[←hfz.dim];exact hdm))
  refine⟨⟨ct.μ,S2++bs,ct.σ,ct.fb⟩,e1,rfl,r1,r2,r3,calm _ rfl fun k=> ?_⟩;obtain⟨_,p2,p3,p4⟩:=kB hSf;rw[e2];show(aD (S2++bs) k).dim=(aD (Sf++bs) k).dim;by_cases hk:k<c.S.length
  ·rw[px (S:=S2) (by rw[q2,hal];exact hk),px (S:=Sf) (by rw[p2,hfz.1];exact hk)];by_cases hw:k∈kD objs st.m
   ·obtain⟨i,hi,e⟩:=List.mem_iff_getElem.1 hw;have hi':i<fs.length:=by rw[←q1];exact hi
    obtain⟨_,_,_,t4⟩:=kB hS
    rw[t4 (uC hnd) i k _ (by rw[List.getElem?_eq_getElem hi,e]) (List.getElem?_eq_getElem hi') hk,
     p4 (uC hnd) i k _ (by rw[List.getElem?_eq_getElem hi,e]) (List.getElem?_eq_getElem hi') (by rw[hfz.1];exact hk)]
   ·obtain⟨_,_,t3,_⟩:=kB hS;rw[t3 k hw,p3 k hw,hfz.dim]
  ·have h1:k=c.S.length+(k-c.S.length):=by omega
   have g1:aD (S2++bs) k=aD bs (k-c.S.length):=by
    obtain⟨_,t2,_,_⟩:=kB hS;rw[h1,←t2,tc]
    congr 1
    omega
   have g2:aD (Sf++bs) k=aD bs (k-c.S.length):=by
    rw[h1,←hfz.1,←p2,tc]
    congr 1
    omega
   rw[g1,g2]
theorem ck4 {c c1 c':Ctx}{fx mov:List Nat}{sk:xA}{vals vs:List VV}{as:List Value}{st:DSt}{fs bs:List Blk}{S2:cf}(hR:gb c)(hR':gb c')(hw:Within c c1 fx mov)(hR1:gb c1)(hle:Le c1 c')
  (hok:aO5 c.S fx=true) (hro:sk.noRo=true) (hd:qB c'.S c.S.length fx sk vals=some st) (he:ru id sk st.ls=some (vs,fs,bs)) (hf:F2 (VRel c') vals as) (hS:vw fx fs (ko fx mov (ae6 vs fs bs) 0 c.S)=some S2):
  ∃ct:Ctx,ct.σ=c'.σ∧ct.S=S2++bs∧Le c ct∧gb ct∧F2 (VRel ct) vs as:=by
 obtain⟨q1,q2,q3,q4⟩:=kB hS;obtain⟨Sf,hSf⟩:=aJ4 (S:=c.S) (S1:=ko fx mov true 0 c.S) q1;obtain⟨ct,e1,e2,e3,e4,e5,e6,e7,e8⟩:=cq4 hR hR' hw hR1 hle hok hro hd he hf hSf;cases hal:ae6 vs fs bs with
 |true=>
  rw[hal,hSf]at hS;injection hS with hS
  subst hS;exact⟨ct,e1,e2,e5,e6,e7⟩
 |false=>
  rw[hal]at hS;obtain⟨z1,z2⟩:=bw8 he hro;obtain⟨ap1,_⟩:=rr hd;have hnd:=rn ap1;rw[List.nodup_append]at hnd;obtain⟨_,p2,p3,_⟩:=kB hSf;rw[oq]at p2
  obtain⟨r1,r2,r3⟩:=bj2 hR e5 e6 e7 hal z1 z2 oq oq hSf hS hnd.1 (fun j hj=>(oe hok hj).1) e2 e4 (fun k hk hn=>by
   rw[oo hk,oo hk,Nat.zero_add,kq hn];cases oD k mov with
   |true=>
    refine .inl ⟨rfl,fun h=> ?_⟩;cases hz:(aD c.S k).frozen with
    |true=>rfl
    |false=>rw[hz]at h;exact(h rfl).elim
   |false=>exact .inr ⟨rfl,rfl⟩) (fun k hk hn hdm=>(e8 k hk hn (by rw[e2,px (by rw[p2];exact hk),p3 k hn];exact hdm)).2)
  exact⟨⟨ct.μ,S2++bs,ct.σ,ct.fb⟩,e1,rfl,r1,r2,r3⟩
def bX6 (l:List Alt)(s:vI l):Option (Σ a:Alt,a.Ty):=bX5 l s fun a u=>some ⟨a,u⟩
theorem bo0 {β:Type}: ∀(l:List Alt) (s:vI l) (k:(a:Alt)→a.Ty→Option β),bX5 l s k=(bX6 l s).bind fun p=>k p.1 p.2
 |[],_,_=>rfl
 |[a],t,k=>rfl
 |a::b::r, .inl t,k=>rfl
 |a::b::r, .inr s,k=>bo0 (b::r) s k
def FSum.spec (F:FSum):Ab.aG5:=fun args σ K=> ∃(c:Ctx) (vals:List VV) (st:DSt) (t:Tup F.ins.shs) (o:vI F.outs) (p:Σ a:Alt,a.Ty) (v:VV) (fs bs:List Blk) (S':cf),
 c.σ=σ∧gb c∧F2 (VRel c) vals args∧qB c.S 0 [] F.ins vals=some st∧ofL F.ins.shs st.ls=some t∧bh8 st.m=true∧aO5 c.S (kD F.objs st.m)=true∧F.run t=some o∧bX6 F.outs o=some p∧
 ru (vJ st.m F.objs.length c.S.length) p.1.sk (toL p.1.sk.shs p.2)=some ([v],fs,bs)∧vw (kD F.objs st.m) fs (cond (ae6 [v] fs bs) (ae8 st.lent c.S) c.S)=some S'∧
 ∀r σ',(∃ct:Ctx,ct.σ=σ'∧ct.S=S'++bs∧Le c ct∧gb ct∧VRel ct v r∧uM (kD F.objs st.m) c ct)→K r σ'
theorem FSum.mono (F:FSum):aK3 F.spec:=by
 rintro args σ K K' hk ⟨c,vals,st,t,o,p,v,fs,bs,S',h1,h2,h3,h4,h5,h6,h7,h8,h9,h10,h11,h12⟩;exact⟨c,vals,st,t,o,p,v,fs,bs,S',h1,h2,h3,h4,h5,h6,h7,h8,h9,h10,h11,fun r σ' h=>hk r σ' (h12 r σ' h)⟩
def Inl.spec (I:Inl):Ab.aG5:=fun args σ K=> ∃(β:Type) (y:β) (c:Ctx) (vals:List VV) (k:VV→cf→Option β),c.σ=σ∧gb c∧F2 (VRel c) vals args∧I.run β vals c.S k=some y∧∀r σ',iO c (aU1 c.S.length) k y r σ'→K r σ'
theorem Inl.mono (I:Inl):aK3 I.spec:=by
 rintro args σ K K' hk ⟨β,y,c,vals,k,h1,h2,h3,h4,h5⟩;exact⟨β,y,c,vals,k,h1,h2,h3,h4,fun r σ' h=>hk r σ' (h5 r σ' h)⟩
def iC (tab:Tab):Ab.ig:=fun f args σ K=>(∃F,F∈tab.fs∧F.f=f∧F.spec args σ K)∨∃I,I∈tab.is∧I.f=f∧I.spec args σ K
theorem dn (tab:Tab):sO (iC tab):=by
 rintro f args σ K K' hk (⟨F,h1,h2,h3⟩|⟨F,h1,h2,h3⟩)
 ·exact .inl ⟨F,h1,h2,F.mono args σ K K' hk h3⟩
 ·exact .inr ⟨F,h1,h2,F.mono args σ K K' hk h3⟩
def ci (P:Program)(F:FSum):Prop:=Sim P F.f F.spec
def bE6 (P:Program)(I:Inl):Prop:=Sim P I.f I.spec
def kr (P:Program)(tab:List FSum):Prop:= ∀F,F∈tab→ci P F
def bB (P:Program)(is:List Inl):Prop:= ∀I,I∈is→bE6 P I
theorem bB.nil (P:Program):bB P []:=fun F h=>by cases h
theorem bB.cons {P:Program}{F:Inl}{tab:List Inl}(h:bE6 P F)(ht:bB P tab):bB P (F::tab):=fun G hG=>by
 rcases List.mem_cons.1 hG with rfl|hG
 ·exact h
 ·exact ht G hG
theorem kr.nil (P:Program):kr P []:=fun F h=>by cases h
theorem kr.cons {P:Program}{F:FSum}{tab:List FSum}(h:ci P F)(ht:kr P tab):kr P (F::tab):=fun G hG=>by
 rcases List.mem_cons.1 hG with rfl|hG
 ·exact h
 ·exact ht G hG
theorem kr.app {P:Program}{a b:List FSum}(h:kr P a)(k:kr P b):kr P (a++b):=fun G hG=>by
 rcases List.mem_append.1 hG with hG|hG
 ·exact h G hG
 ·exact k G hG
theorem ap6 {P:Program}{tab:Tab}(h:kr P tab.fs)(h':bB P tab.is)(f:FuncId):Sim P f (iC tab f):=by
 rintro B μ σ w args cargs K (⟨F,h1,h2,h3⟩|⟨F,h1,h2,h3⟩) hR ha
 ·subst h2;exact h F h1 B μ σ w args cargs K h3 hR ha
 ·subst h2;exact h' F h1 B μ σ w args cargs K h3 hR ha
theorem bw1 {β:Type}{c:Ctx}{k:VV→cf→Option β}{y:β}{f:Nat}{args:List VV}{as:List Value}(hR:gb c)(hf:F2 (VRel c) args as): ∀{tab:List FSum},aV2 tab f args c.S k=some y→(fun f args σ K=> ∃F,F∈tab∧F.f=f∧F.spec args σ K:Ab.ig) f as c.σ (iO c (ur tab f args c.S) k y)
 |[],h=>by cases h
 |F::r,h=>by
  have next:aV2 r f args c.S k=some y→ur (F::r) f args c.S=ur r f args c.S→(fun f args σ K=> ∃G,G∈F::r∧G.f=f∧G.spec args σ K:Ab.ig) f as c.σ (iO c (ur (F::r) f args c.S) k y):=by
   intro h1 h2;obtain⟨G,h3,h4,h5⟩:=bw1 hR hf h1;rw[h2];exact⟨G,List.mem_cons_of_mem _ h3,h4,h5⟩
  simp only[aV2]at h;cases hb:Nat.beq F.f f with
  |false=>
   rw[hb,cond_false]at h;exact next h (by simp only[ur,hb,cond_false])
  |true=>
   rw[hb,cond_true]at h;cases hd:qB (an4 F.vals args c.S) 0 [] F.ins args with
   |none=>
    rw[hd]at h;exact next h (by simp only[ur,hb,cond_true,hd])
   |some st=>
    rw[hd]at h;simp only at h;cases ht:ofL F.ins.shs st.ls with
    |none=>
     rw[ht]at h;exact next h (by simp only[ur,hb,cond_true,hd,ht])
    |some t=>
     rw[ht]at h;simp only at h;obtain⟨h1,h2⟩:=cn h;rw[Bool.and_eq_true]at h1;have hdirty:ur (F::r) f args c.S=kD F.objs st.m:=by simp only[ur,hb,cond_true,hd,ht]
     rw[hdirty];unfold cp9 at h2;obtain⟨o,h3,h4⟩:=ce h2;rw[bo0]at h4;obtain⟨p,h5,h6⟩:=ce h4;have hfz:=aW4 F.vals args c.S;split at h6
     ·rename_i v fs bs he;split at h6
      ·rename_i S' hS;refine⟨F,List.mem_cons_self,Nat.eq_of_beq_eq_true hb,⟨c.μ,an4 F.vals args c.S,c.σ,c.fb⟩,args,st,t,o,p,v,fs,bs,S',rfl,hfz.rel hR,VRel.frames hfz.le hf,hd,ht,h1.1,h1.2,h3,h5,he,hS, ?_⟩;rintro rv σ' ⟨ct,e1,e2,e3,e4,e5,e6⟩;exact⟨v,ct,e1,hfz.le.trans e3,e4,(hfz.calm _).trans e6 hfz.le,e5,by rw[e2];exact h6⟩
      ·cases h6
     ·cases h6
theorem bw2 {β:Type}{c:Ctx}{k:VV→cf→Option β}{y:β}{f:Nat}{args:List VV}{as:List Value}(hR:gb c)(hf:F2 (VRel c) args as): ∀{is:List Inl},bL6 is f args c.S k=some y→∃I,I∈is∧I.f=f∧I.spec as c.σ (iO c (aU1 c.S.length) k y)
 |[],h=>by cases h
 |I::r,h=>by
  simp only[bL6]at h;cases hb:Nat.beq I.f f with
  |false=>
   rw[hb,cond_false]at h;obtain⟨J,h1,h2,h3⟩:=bw2 hR hf h;exact⟨J,List.mem_cons_of_mem _ h1,h2,h3⟩
  |true=>
   rw[hb,cond_true]at h;exact⟨I,List.mem_cons_self,Nat.eq_of_beq_eq_true hb,β,y,c,args,k,rfl,hR,hf,h,fun r σ' h=>h⟩
theorem bw3 {β:Type}{c:Ctx}{k:VV→cf→Option β}{y:β}{f:Nat}{args:List VV}{as:List Value}(hR:gb c)(hf:F2 (VRel c) args as){tab:Tab}(h:bL7 tab f args c.S k=some y):iC tab f as c.σ (iO c (bo8 tab f args c.S) k y):=by
 unfold bL7 at h;unfold bo8;cases hb:ck0 tab.is f with
 |false=>
  rw[hb,cond_false]at h;rw[cond_false];exact .inl (bw1 hR hf h)
 |true=>
  rw[hb,cond_true]at h;rw[cond_true];exact .inr (bw2 hR hf h)
theorem aC7 {β:Type}{tab:Tab}{c:Ctx}{e:fa}{ea:dy}{k:VV→cf→Option β}{y:β}(hR:gb c)(he:cm c e ea){op:AOp}(h:aV8 tab op e c.S k=some y):db (iC tab) op ea c.σ (iO c (aC6 tab op e c.S) k y):=by
 cases op<;>simp only[aV8]at h
 case move x=>exact cl1 hR he h
 case pick t a b=>
  split at h
  ·rename_i p hp;exact cn3 hR he hp h
  ·cases h
 case alloc es z=>exact bX4 hR h
 case box es x=>exact cs9 hR he h
 case build z ps=>
  split at h
  ·rename_i cs hc;exact bY3 hR he hc h
  ·cases h
 case buildSlice es ln z ps=>
  split at h
  ·rename_i cs hc;exact bd6 hR he hc h
  ·cases h
 case load x=>exact ck6 hR he h
 case loadN n x=>exact cb0 hR he h
 case store n a x=>exact cf6 hR he (fun q hq=>aH6 _ hq) h
 case nilCheck x=>exact by7 hR he h
 case bin op x z=>exact cs8 hR he h
 case eqv kd neg x z=>
  split at h
  ·rename_i p hp;exact ct2 hR he hp h
  ·cases h
 case eqCells neg ks x z=>
  split at h
  ·rename_i a b h1 h2;split at h
   ·rename_i p hp;exact bG5 hR he h1 h2 hp h
   ·cases h
  ·cases h
 case un op x=>exact cA7 hR he h
 case conv kd x=>
  split at h
  ·rename_i n hn;exact ci0 hR he hn h
  ·cases h
 case mkFunc f a b=>exact bT6 hR he h
 case makeSlice es bytes z l m=>exact ck9 hR he h
 case slice es x lo hi=>exact cf5 hR he h
 case sliceStr x lo hi=>exact bC4 hR he h
 case sliceArr es n x lo hi=>exact bC3 hR he h
 case off n x=>exact cv4 hR he h
 case idx es x i=>exact ct9 hR he h
 case idxA ln es x i=>exact ck1 hR he h
 case fieldV o n agg x=>
  split at h
  ·rename_i cs hc;exact bS1 hR he hc h
  ·cases h
 case indexV ln es agg x i=>
  split at h
  ·rename_i cs kd i h1 h2;exact bT1 hR he h1 h2 h
  ·cases h
 case indexS x i=>
  split at h
  ·rename_i l kd i h1 h2;exact bT0 hR he h1 h2 h
  ·cases h
 case extract x i=>
  split at h
  ·rename_i vs hc;exact bG7 hR he hc h
  ·cases h
 case call f xs=>exact bw3 hR (aP5 he xs) h
 case callv x xs=>
  have hx:=de he x;split at h
  ·rename_i f a b hv;rw[hv]at hx
   have: ∃a' b',ea.ev x= .func (.func f) a' b'∧F2 (VRel c) a a'.toList∧F2 (VRel c) b b'.toList:=by
    generalize ea.ev x=xa at hx;cases hx;exact⟨_,_,rfl,by assumption,by assumption⟩
   obtain⟨a',b',h1,h2,h3⟩:=this;have:=bw3 hR ((h2.append (aP5 he xs)).append h3) h;simp only[db,h1,aC6,hv];exact this
  ·cases h
 case append es bytes s x=>exact bE8 hR he (fun q hq=>aH6 _ hq) h fun h=>bQ3 hR he (fun q hq=>aH6 _ hq) h
 case stuck=>cases h
 case capN x=>
  split at h
  ·rename_i hx;exact ch7 hR he hx h
  ·cases h
 case sliceX x hi mx=>exact bV5 hR he h
 case range x=>
  split at h
  ·rename_i l hx;exact cd9 hR he hx h
  ·cases h
 case next x=>exact cl4 hR he (fun q hq=>aH6 _ hq) h
 case newB=>exact cl2 hR h
 case encR x=>
  split at h
  ·rename_i n hx;exact ci9 hR he hx h
  ·cases h
 case strOf x=>exact cf7 hR he h
 case strOfR x=>exact cp5 hR he h
 case runesOf x=>exact ce5 hR he h
 case appendZ es bytes z s x=>exact bE9 hR he (fun q hq=>aH6 _ hq) h
 case copy es s x=>exact ci1 hR he (fun q hq=>aH6 _ hq) h
 case len x=>
  split at h
  ·cases h
  ·rename_i hns;split at h
   ·rename_i n hn;exact cu7 hR he hns hn h
   ·cases h
 case lenS x=>
  split at h
  ·rename_i l hl;exact ck5 hR he hl h
  ·cases h
 case lenC n=>exact dh rfl (iO.same hR (.int _ _) h)
 case most x z=>
  split at h
  ·rename_i kd a kd' b h1 h2;exact cl0 hR he h1 h2 h
  ·cases h
 case least x z=>
  split at h
  ·rename_i kd a kd' b h1 h2;exact ca5 hR he h1 h2 h
  ·cases h
end Go.V
