/- A part of the proofs of this claim: what functions of the program answer on an abstract machine, and plain laws. No condition. -/
import Derived.Test.YtobfihgmpgobhaaGreatDoorA6
import Derived.SizedLaws
import Derived.Test.YtobfihgmpgobhaaGreatDoorD2
set_option linter.unusedVariables false
set_option linter.unusedSimpArgs false
set_option linter.unusedSectionVars false
namespace Go.V
open Go.Ab
section
section
variable {H:Type} {enc:TypeId×Value→H} {P:Program} {w:World} {base:Nat} {held:Bool}
end
end
section
open Go.IntKind renaming wrap → zH, i64 → zI, u64 → zJ
open Bool renaming and_eq_true → aS, eq_iff_iff → aZ, or_eq_true → bT
open Eq renaming symm → aF
open Int renaming toNat → aB, toNat_natCast → aC, tmod → aH, tdiv → aM
open List renaming set → aA, length_drop → aD, length → aI, length_cons → aJ, append_assoc → aK, getD_eq_getElem?_getD → aN, length_append → aP, mem_singleton → aQ, drop → aT, map → aU, take → aV, drop_length → aW, drop_take → aX, getElem?_eq_getElem → aY, drop_eq_getElem_cons → bA, length_nil → bB, cons_append → bF, drop_drop → bG, getD_cons_zero → bH, length_set → bI, length_singleton → bJ, length_take → bK, mem_cons_of_mem → bL, mem_cons_self → bM, nil_append → bN, replicate → bO, take_succ_cons → bP, drop_eq_nil_of_le → bU, getD_cons_succ → bV, getElem?_drop → bW, take_length → bX
open Nat renaming le_refl → aE, beq → aG, sub_zero → aL, ble → aR, mul_comm → bC, pow_succ → bD, add_zero → bQ, lt_of_lt_of_le → bR, zero_le → bS, div_lt_of_lt_mul → bY, mod_eq_of_lt → bZ, pow_le_pow_right → cA
open Option renaming toList → aO
set_option maxRecDepth 100000
def kY (n:Nat):List Int:=if h:n<10 then [48+(n:Int)]else kY (n / 10)++[48+((n % 10:Nat):Int)]
termination_by n
decreasing_by omega
theorem pp {n:Nat}(h:n<10):kY n=[48+(n:Int)]:=by rw[kY,dif_pos h]
theorem yl {n:Nat}(h: ¬n<10):kY n=kY (n / 10)++[48+((n % 10:Nat):Int)]:=by rw[kY,dif_neg h]
theorem Mg (n:Nat):(kY n).length=Lib.nDigits n:=by
 induction n using Nat.strongRecOn with
 |ind n ih=>
  by_cases h:n<10
  ·rw[pp h,Lib.nDigits_small h];rfl
  ·rw[yl h,Lib.nDigits_big h,aP,ih _ (by omega)];rfl
def tO :Nat→Nat→List Int
 |0,_=>[]
 |k+1,v=>tO k (v / 10)++[48+((v % 10:Nat):Int)]
theorem Mh (n:Nat):kY n=tO (Lib.nDigits n) n:=by
 induction n using Nat.strongRecOn with
 |ind n ih=>
  by_cases h:n<10
  ·rw[pp h,Lib.nDigits_small h,tO,tO,bZ h];rfl
  ·rw[yl h,Lib.nDigits_big h,tO,ih _ (by omega)]
theorem FX (a:Nat): ∀b v,tO (a+b) v=tO a (v / 10 ^ b)++tO b v
 |0,v=>by simp[tO]
 |b+1,v=>by
  rw[←Nat.add_assoc,tO,FX a b (v / 10),tO,aK,Nat.div_div_eq_div_mul,bD,bC 10]
theorem FY : ∀b v,tO b (v % 10 ^ b)=tO b v
 |0,v=>rfl
 |b+1,v=>by
  have h1:v % 10 ^ (b+1) / 10=v / 10 % 10 ^ b:=by rw[bD,bC,Nat.mod_mul_right_div_self]
  have h2:v % 10 ^ (b+1) % 10=v % 10:=Nat.mod_mod_of_dvd _ (by rw[bD];exact Nat.dvd_mul_left _ _);rw[tO,tO,h1,h2,FY b]
theorem Ti (v:Nat):tO 2 v=[48+((v / 10 % 10:Nat):Int),48+((v % 10:Nat):Int)]:=rfl
theorem Qb : ∀k n,1≤k→n<10 ^ k→Lib.nDigits n≤k
 |0,_,h,_=>by omega
 |k+1,n,_,h=>by
  by_cases h1:n<10
  ·rw[Lib.nDigits_small h1];omega
  ·rw[Lib.nDigits_big h1]
   have:1≤k:=by
    rcases Nat.eq_zero_or_pos k with h2|h2
    ·subst h2;simp at h;omega
    ·exact h2
   have:=Qb k (n / 10) this (by rw[bD]at h;omega);omega
theorem OR (n:Nat)(h:n<18446744073709551616):Lib.nDigits n≤20:=Qb 20 n (by omega) (bR h (by decide))
theorem P3 {d:Nat}(h:d<10):fZ ([48,49,50,51,52,53,54,55,56,57]:List Int) (d:Int) (zH zJ ((d:Int)+1))=[48+(d:Int)]:=by
 have: ∀d:Fin 10,fZ ([48,49,50,51,52,53,54,55,56,57]:List Int) ((d:Nat):Int) (zH zJ (((d:Nat):Int)+1))=[48+((d:Nat):Int)]:=by decide
 exact this ⟨d,h⟩
theorem P2 {d:Nat}(h:d<10):cb (d:Int) (zH zJ ((d:Int)+1)) 10=true:=by
 refine kV ?_;rw[jo (by omega)];omega
theorem Nt {a b:Nat}(h:a+b≤9223372036854775807):lK a b=true:=Nat.ble_eq_true_of_le h
theorem py {β:Type}{a b:Nat}{x:Option β}(h:a+b≤9223372036854775807):gd (lK a b) x=x:=by rw[Nt h];rfl
theorem Ph (n:Nat)(hn:n<18446744073709551616):oh (n:Int)=some (kY n):=by
 unfold oh
 obtain⟨c,h1,h2⟩:=rA (f:=nA) (a:=((n:Int),([]:List Int)))
  (fun s=> ∃m:Nat,s.1=(m:Int)∧m≤n∧kY n=kY m++s.2∧s.2.length+Lib.nDigits m≤20) (fun s=>s.1.toNat)
  (fun r=> ∃m:Nat,r.1=(m:Int)∧m<10∧kY n=kY m++r.2∧r.2.length≤20)
  ⟨n,rfl,aE _,by simp,by simpa using OR n hn⟩ (by simp;omega) (fun s ⟨m,e,hle,hd,hl⟩=>by
   obtain⟨s1,s2⟩:=s;simp only at e hd hl;subst e;unfold nA;simp only[dB];by_cases h:m<10
   ·right;rw[zF (by omega)];exact⟨_,rfl,m,rfl,h,hd,by omega⟩
   ·left;rw[zE (by omega),Pz (by omega),Kr (by omega)];have e1:((m:Int) % 10)=((m % 10:Nat):Int):=by omega
    have e2:((m:Int) / 10)=((m / 10:Nat):Int):=by omega
    rw[e1,e2,P2 (by omega),fp,P3 (by omega),py (by simp;have:=hl;omega),jo (by omega)];refine⟨_,rfl,⟨m / 10,rfl,by omega, ?_, ?_⟩,by simp;omega⟩
    ·rw[hd,yl h,aK]
    ·rw[Lib.nDigits_big h]at hl;simp
     omega)
 obtain⟨c1,c2⟩:=c;obtain⟨m,e,hm,hd,hl⟩:=h2;simp only at e hd hl;subst e;rw[h1];simp only[zG];rw[P2 hm,fp,P3 hm,py (by simp;omega),hd,pp hm]
theorem Lp {n:Nat}(h:n<100):cN (n:Int)=some (kY n):=by
 have h1: ∀k:Fin 10,cN ((k:Nat):Int)=some ([48+((k:Nat):Int)]:List Int):=by decide+kernel
 have h2: ∀k:Fin 90,cN (((k:Nat)+10:Nat):Int)=some ([48+((((k:Nat)+10) / 10:Nat):Int),48+((((k:Nat)+10) % 10:Nat):Int)]:List Int):=by decide+kernel
 by_cases h10:n<10
 ·rw[pp h10];exact h1 ⟨n,h10⟩
 ·have:=h2 ⟨n-10,by omega⟩;simp only at this;rw[show n-10+10=n by omega]at this;rw[this,yl h10,pp (by omega)];rfl
theorem JH {n:Int}(h:0≤n∧n<4294967296):IntKind.u32.wrap n=n:=by
 show n % 4294967296=n;omega
theorem qo {v:Nat}(h:v<100):rd gF (IntKind.u32.wrap ((IntKind.u32.wrap ((v:Int)*2))+1))=some (48+((v % 10:Nat):Int)):=by
 have h1: ∀k:Fin 100,rd gF (IntKind.u32.wrap ((IntKind.u32.wrap (((k:Nat):Int)*2))+1))=some (48+(((k:Nat) % 10:Nat):Int)):=by decide+kernel
 exact h1 ⟨v,h⟩
theorem ns {v:Nat}(h:v<100):rd gF (IntKind.u32.wrap ((v:Int)*2))=some (48+((v / 10 % 10:Nat):Int)):=by
 have h1: ∀k:Fin 100,rd gF (IntKind.u32.wrap (((k:Nat):Int)*2))=some (48+(((k:Nat) / 10 % 10:Nat):Int)):=by decide+kernel
 exact h1 ⟨v,h⟩
def AN (l:List Int)(i r:Nat):List Int:=(l.take r).drop i
theorem Pu {l:List Int}{j r:Nat}{x:Int}(h:j<r)(hr:r≤l.length):AN (l.set j x) j r=x::AN l (j+1) r:=by
 unfold AN;rw[bA (by simp;omega)]
 congr 1
 ·simp
 ·rw[aX,aX]
  congr 1
  rw[List.drop_set_of_lt (by omega)]
theorem OE {i k:Nat}{r:Nat}(h:k<i)(hi:i≤r)(hr:r≤20):ix (zH zI ((i:Int)-((k+1:Nat):Int))) ((aB (r:Int))-0)=some (i-(k+1)):=by
 rw[cR (by omega)];have:((i:Int)-((k+1:Nat):Int))=((i-(k+1):Nat):Int):=by omega
 rw[this,aC,aL];exact dC (by omega)
theorem IW {l:List Int}{j:Nat}(h:j<l.length):l[(0+j)]?=some (l[j]'h):=by rw[Nat.zero_add];exact aY h
theorem Ug (a:Nat):aH (a:Int) 100000000=((a % 100000000:Nat):Int):=rfl
theorem TM (a:Nat):aH (a:Int) 10000=((a % 10000:Nat):Int):=rfl
theorem RR (a:Nat):aH (a:Int) 100=((a % 100:Nat):Int):=rfl
theorem Ue (a:Nat):aM (a:Int) 100000000=((a / 100000000:Nat):Int):=rfl
theorem TL (a:Nat):aM (a:Int) 10000=((a / 10000:Nat):Int):=rfl
theorem SZ (a:Nat):aM (a:Int) 100=((a / 100:Nat):Int):=rfl
theorem PE {a:Nat}(h:a<4294967296):IntKind.u32.wrap (a:Int)=(a:Int):=JH (by omega)
theorem Uc {i k:Nat}{r:Nat}(h:k<i)(hi:i≤r)(hr:r≤20){q:Int}(hq:q=((k+1:Nat):Int)):ix (zH zI ((i:Int)-q)) ((aB (r:Int))-0)=some (i-(k+1)):=by
 rw[hq];exact OE h hi hr
theorem mX {α:Type}{a b:α}{l m:List α}(h:a=b)(k:l=m):a::l=b::m:=by rw[h,k]
theorem we {β:Type}{i k r:Nat}{l:List Int}(hl:l.length=24){q:Int}(hq:q=((k+1:Nat):Int))(h:k<i)(hi:i≤r)(hr:r≤20)(K:Nat→Option β):
  ((ix (zH zI ((i:Int)-q)) ((aB (r:Int))-0)).bind fun j=>(l[(0+j)]?).bind fun _=>K j)=K (i-(k+1)):=by
 rw[Uc h hi hr hq];simp only[zG];rw[IW (by omega)];rfl
theorem am {l:List Int}{j:Nat}{x:Int}(h:l.length=24):(aA l j x).length=24:=by rw[bI];exact h
theorem eQ {l:List Int}{i k r:Nat}{x:Int}{t:List Int}(hl:l.length=24)(h:k<i)(hi:i≤r)(hr:r≤20)(ht:AN l (i-k) r=t):AN (aA l (0+(i-(k+1))) x) (i-(k+1)) r=x::t:=by
 rw[Nat.zero_add,Pu (by omega) (by omega)];rw[show i-(k+1)+1=i-k by omega,ht]
theorem Lz {r i v:Nat}{buf:List Int}(h8:8≤i)(hi:i≤r)(hr:r≤20)(hb:buf.length=24)(hv:v<18446744073709551616):
  ∃buf',fc (r:Int) ((i:Int),(v:Int),buf)=some (.inl (((i-8:Nat):Int),((v / 100000000:Nat):Int),buf'))∧buf'.length=24∧AN buf' (i-8) r=tO 8 v++AN buf i r:=by
 unfold fc;simp only[dB];rw[zE (by omega)];simp only[Ug,Ue];rw[PE (show v % 100000000<4294967296 by omega)];simp only[TM,TL,RR,SZ];generalize hw:v % 100000000=w;rw[PE (show w / 10000<4294967296 by omega),PE (show w % 10000 / 100<4294967296 by omega)];simp only[RR,SZ];rw[PE (show w / 10000 / 100<4294967296 by omega)]
 rw[qo (show w % 10000 % 100<100 by omega),ns (show w % 10000 % 100<100 by omega),qo (show w % 10000 / 100<100 by omega),ns (show w % 10000 / 100<100 by omega),
  qo (show w / 10000 % 100<100 by omega),ns (show w / 10000 % 100<100 by omega),qo (show w / 10000 / 100<100 by omega),ns (show w / 10000 / 100<100 by omega)]
 simp only[zG];rw[we (q:=1) (k:=0) hb rfl (by omega) hi hr];rw[we (q:=2) (k:=1) (am hb) rfl (by omega) hi hr];rw[we (q:=3) (k:=2) (am (am hb)) rfl (by omega) hi hr];rw[we (q:=4) (k:=3) (am (am (am hb))) rfl (by omega) hi hr];rw[we (q:=5) (k:=4) (am (am (am (am hb)))) rfl (by omega) hi hr];rw[we (q:=6) (k:=5) (am (am (am (am (am hb))))) rfl (by omega) hi hr];rw[we (q:=7) (k:=6) (am (am (am (am (am (am hb)))))) rfl (by omega) hi hr];rw[we (q:=8) (k:=7) (am (am (am (am (am (am (am hb))))))) rfl (by omega) hi hr];rw[cR (show-9223372036854775808≤(i:Int)-8∧(i:Int)-8≤9223372036854775807 by omega),LF (show v / 100000000<9223372036854775808 by omega),show((i:Int)-8)=((i-8:Nat):Int)by omega];refine⟨_,rfl, ?_, ?_⟩
 ·exact am (am (am (am (am (am (am (am hb)))))))
 ·refine(eQ (k:=7) (am (am (am (am (am (am (am hb))))))) (by omega) hi hr
   (eQ (k:=6) (am (am (am (am (am (am hb)))))) (by omega) hi hr
   (eQ (k:=5) (am (am (am (am (am hb))))) (by omega) hi hr
   (eQ (k:=4) (am (am (am (am hb)))) (by omega) hi hr
   (eQ (k:=3) (am (am (am hb))) (by omega) hi hr
   (eQ (k:=2) (am (am hb)) (by omega) hi hr
   (eQ (k:=1) (am hb) (by omega) hi hr
   (eQ (k:=0) hb (by omega) hi hr rfl)))))))).trans ?_
  subst hw;rw[←FY 8 v];simp only[tO,bN,bF,aK,aL,Nat.reducePow];refine mX ?_ (mX ?_ (mX ?_ (mX ?_ (mX ?_ (mX ?_ (mX ?_ (mX ?_ rfl)))))))
  all_goals omega
theorem ri : ∀l:List Int,(∀n∈l,0≤n∧n≤255)→l.map ji=l
 |[],_=>rfl
 |n::l,h=>by
  have h1:=h n bM;rw[List.map_cons,ri l fun x hx=>h x (bL _ hx)]
  congr 1
  show(((UInt8.ofNat n.toNat).toNat:Nat):Int)=n;rw[UInt8.toNat_ofNat'];have:n.toNat<2 ^ 8:=by omega
  rw[bZ this];omega
theorem HE : ∀k v,∀n∈tO k v,48≤n∧n≤57
 |0,_,n,h=>by cases h
 |k+1,v,n,h=>by
  rw[tO,List.mem_append]at h;rcases h with h|h
  ·exact HE k _ n h
  ·rw[aQ]at h;omega
theorem Ly {n r:Nat}(hr:r=Lib.nDigits n)(hn:n<18446744073709551616): ∃(i v:Nat) (buf:List Int),aw (fc (r:Int)) di ((r:Int),(n:Int),bO 24 (0:Int))=some ((v:Int),(i:Int),buf)∧i<8∧i≤r∧buf.length=24∧tO r n=tO i v++AN buf i r∧v≤n∧v<10 ^ i:=by
 have hr20:r≤20:=by rw[hr];exact OR n hn
 obtain⟨c,h1,i,v,buf,h2⟩:=rA (f:=fc (r:Int)) (a:=((r:Int),(n:Int),bO 24 (0:Int)))
  (fun s=> ∃(i v:Nat),s.1=(i:Int)∧s.2.1=(v:Int)∧i≤r∧s.2.2.length=24∧tO r n=tO i v++AN s.2.2 i r∧v≤n∧v<10 ^ i) (fun s=>s.1.toNat)
  (fun c=> ∃(i v:Nat) (buf:List Int),c=((v:Int),(i:Int),buf)∧i<8∧i≤r∧buf.length=24∧tO r n=tO i v++AN buf i r∧v≤n∧v<10 ^ i)
  ⟨r,n,rfl,rfl,aE _,rfl,by unfold AN;simp,aE _,by rw[hr];exact Lib.lt_pow_nDigits n⟩ (by simp;omega) (fun s ⟨i,v,e1,e2,hi,hb,hp,hv,hlt⟩=>by
   obtain⟨s1,s2,buf⟩:=s;simp only at e1 e2 hb hp;subst e1;subst e2;by_cases h8:8≤i
   ·left;obtain⟨buf',g1,g2,g3⟩:=Lz h8 hi hr20 hb (by omega:v<18446744073709551616);refine⟨_,g1,⟨i-8,v / 100000000,rfl,rfl,by omega,g2, ?_,by omega, ?_⟩,by simp;omega⟩
    ·rw[g3,←aK,hp]
     congr 1
     have:=FX (i-8) 8 v;rw[show i-8+8=i by omega]at this;exact this
    ·have:i=i-8+8:=by omega
     rw[this,Nat.pow_add]at hlt;exact bY (by rw[bC];exact hlt)
   ·right;refine⟨_, ?_,i,v,buf,rfl,by omega,hi,hb,hp,hv,hlt⟩;unfold fc;simp only[dB]
    rw[zF (by omega)])
 exact⟨i,v,buf,by rw[h1,h2.1],h2.2⟩
theorem Lx {β:Type}{r i v:Nat}{buf:List Int}(h4:4≤i)(hi:i≤r)(hr:r≤20)(hb:buf.length=24)(hv:v<100000000)(K:Int×Int×List Int→Option β):
  ∃buf',buf'.length=24∧AN buf' (i-4) r=tO 4 v++AN buf i r∧
  (((cond (decide (4≤(i:Int)))
   ((rd (gF) (IntKind.u32.wrap ((IntKind.u32.wrap ((aH (aH (IntKind.u32.wrap (v:Int)) 10000) 100)*2))+1))).bind fun x34=>
   (rd (gF) (IntKind.u32.wrap ((aH (aH (IntKind.u32.wrap (v:Int)) 10000) 100)*2))).bind fun x35=>
   (ix (zH zI ((i:Int)-1)) (((aB (r:Int))-0))).bind fun j36=>
   (buf[(0+j36)]?).bind fun x37=>
   (ix (zH zI ((i:Int)-2)) (((aB (r:Int))-0))).bind fun j38=>
   (((aA buf (0+j36) x34))[(0+j38)]?).bind fun x39=>
   (rd (gF) (IntKind.u32.wrap ((IntKind.u32.wrap ((IntKind.u32.wrap (aM (aH (IntKind.u32.wrap (v:Int)) 10000) 100))*2))+1))).bind fun x40=>
   (rd (gF) (IntKind.u32.wrap ((IntKind.u32.wrap (aM (aH (IntKind.u32.wrap (v:Int)) 10000) 100))*2))).bind fun x41=>
   (ix (zH zI ((i:Int)-3)) (((aB (r:Int))-0))).bind fun j42=>
   (((aA ((aA buf (0+j36) x34)) (0+j38) x35))[(0+j42)]?).bind fun x43=>
   (ix (zH zI ((i:Int)-4)) (((aB (r:Int))-0))).bind fun j44=>
   (((aA ((aA ((aA buf (0+j36) x34)) (0+j38) x35)) (0+j42) x40))[(0+j44)]?).bind fun x45=>
   some ((zH zI ((i:Int)-4),IntKind.u32.wrap (aM (IntKind.u32.wrap (v:Int)) 10000),(aA ((aA ((aA ((aA buf (0+j36) x34)) (0+j38) x35)) (0+j42) x40)) (0+j44) x41))))
   (some (((i:Int),IntKind.u32.wrap (v:Int),buf)))):Option (Int×Int×List Int))).bind K=K (((i-4:Nat):Int),((v / 10000:Nat):Int),buf'):=by
 refine⟨_,am (j:=0+(i-(3+1))) (x:=48+((v % 10000 / 100 / 10 % 10:Nat):Int)) (am (j:=0+(i-(2+1))) (x:=48+((v % 10000 / 100 % 10:Nat):Int)) (am (j:=0+(i-(1+1))) (x:=48+((v % 10000 % 100 / 10 % 10:Nat):Int)) (am (j:=0+(i-(0+1))) (x:=48+((v % 10000 % 100 % 10:Nat):Int)) hb))), ?_, ?_⟩
 ·refine(eQ (k:=3) (am (am (am hb))) (by omega) hi hr
   (eQ (k:=2) (am (am hb)) (by omega) hi hr
   (eQ (k:=1) (am hb) (by omega) hi hr
   (eQ (k:=0) hb (by omega) hi hr rfl)))).trans ?_
  rw[←FY 4 v];simp only[tO,bN,bF,aK,aL,Nat.reducePow];refine mX ?_ (mX ?_ (mX ?_ (mX ?_ rfl)))
  all_goals omega
 ·simp only[dB];rw[zE (by omega),PE (show v<4294967296 by omega)];simp only[TM,TL,RR,SZ];rw[PE (show v % 10000 / 100<4294967296 by omega),PE (show v / 10000<4294967296 by omega)];rw[qo (show v % 10000 % 100<100 by omega),ns (show v % 10000 % 100<100 by omega),qo (show v % 10000 / 100<100 by omega),ns (show v % 10000 / 100<100 by omega)];simp only[zG];rw[we (q:=1) (k:=0) hb rfl (by omega) hi hr];rw[we (q:=2) (k:=1) (am hb) rfl (by omega) hi hr];rw[we (q:=3) (k:=2) (am (am hb)) rfl (by omega) hi hr];rw[we (q:=4) (k:=3) (am (am (am hb))) rfl (by omega) hi hr];simp only[zG];rw[cR (show-9223372036854775808≤(i:Int)-4∧(i:Int)-4≤9223372036854775807 by omega),show((i:Int)-4)=((i-4:Nat):Int)by omega]
theorem yK {r:Nat}(hr:r≤20){buf:List Int}(hb:buf.length=24)(hx: ∀n∈AN buf 0 r,0≤n∧n≤255):gd (aG 1 1&&aG 0 0&&aR 24 (aI buf)&&cb 0 (r:Int) 24&&decide (0<24)) (some (aU ji (aV ((aB (r:Int))-0) (aT 0 buf))))=some (AN buf 0 r):=by
 rw[hb,kV (by omega)];show some _=_;rw[aC,aL,List.drop_zero]
 congr 1
 exact ri _ hx
theorem Jp (n:Nat)(hn:n<18446744073709551616):gk (n:Int)=some (kY n):=by
 unfold gk;by_cases h:n<100
 ·rw[show decide ((n:Int)<100)=true from zB (by omega),zC,cR (by omega),Lp h];rfl
 rw[show decide ((n:Int)<100)=false from zA (by omega),zD];unfold cO J9;rw[zE (by omega),aC];simp only[zG];generalize hr:Lib.nDigits n=r;have hr20:r≤20:=by rw[←hr];exact OR n hn
 rw[show gd (aG 1 1&&aG 0 0&&aR 24 (aI (bO 24 (0:Int)))&&cb 0 (r:Int) 24&&decide (0<24))=gd (β:=List Int) true by
  rw[kV (by omega)];rfl,fp]
 rw[aC,aL];obtain⟨i,v,buf,h1,h8,hi,hb,hp,hv,hlt⟩:=Ly hr.symm hn;rw[h1];simp only[zG];rw[Mh,hr,hp];have hby: ∀x∈tO r n,0≤x∧x≤255:=fun x hx=>by have:=HE r n x hx;omega
 rw[hp]at hby
 have key: ∀(i v:Nat) (buf:List Int),i<4→i≤r→buf.length=24→v<10 ^ i→(∀x∈tO i v++AN buf i r,0≤x∧x≤255)→
   (cond (decide (2≤(i:Int)))
   ((rd (gF) (IntKind.u32.wrap ((IntKind.u32.wrap ((aH (v:Int) 100)*2))+1))).bind fun x47=>
   (rd (gF) (IntKind.u32.wrap ((aH (v:Int) 100)*2))).bind fun x48=>
   (ix (zH zI ((i:Int)-1)) (((aB (r:Int))-0))).bind fun j49=>
   (buf[(0+j49)]?).bind fun x50=>
   (ix (zH zI ((i:Int)-2)) (((aB (r:Int))-0))).bind fun j51=>
   (((aA buf (0+j49) x47))[(0+j51)]?).bind fun x52=>
   cond (decide (0<(zH zI ((i:Int)-2))))
    ((ix 0 (((aB (r:Int))-0))).bind fun j53=>
    (((aA ((aA buf (0+j49) x47)) (0+j51) x48))[(0+j53)]?).bind fun x54=>
    gd (aG 1 1&&aG 0 0&&aR 24 (aI ((aA ((aA ((aA buf (0+j49) x47)) (0+j51) x48)) (0+j53) (IntKind.u8.wrap (IntKind.u32.wrap (48+(IntKind.u32.wrap (aM (v:Int) 100))))))))&&cb 0 (r:Int) 24&&decide (0<24)) (some ((aU ji ((aV (((aB (r:Int))-0)) (aT 0 ((aA ((aA ((aA buf (0+j49) x47)) (0+j51) x48)) (0+j53) (IntKind.u8.wrap (IntKind.u32.wrap (48+(IntKind.u32.wrap (aM (v:Int) 100))))))))))))))
    (gd (aG 1 1&&aG 0 0&&aR 24 (aI ((aA ((aA buf (0+j49) x47)) (0+j51) x48)))&&cb 0 (r:Int) 24&&decide (0<24)) (some ((aU ji ((aV (((aB (r:Int))-0)) (aT 0 ((aA ((aA buf (0+j49) x47)) (0+j51) x48))))))))))
   (cond (decide (0<(i:Int)))
    ((ix 0 (((aB (r:Int))-0))).bind fun j55=>
    (buf[(0+j55)]?).bind fun x56=>
    gd (aG 1 1&&aG 0 0&&aR 24 (aI ((aA buf (0+j55) (IntKind.u8.wrap (IntKind.u32.wrap (48+(v:Int)))))))&&cb 0 (r:Int) 24&&decide (0<24)) (some ((aU ji ((aV (((aB (r:Int))-0)) (aT 0 ((aA buf (0+j55) (IntKind.u8.wrap (IntKind.u32.wrap (48+(v:Int)))))))))))))
    (gd (aG 1 1&&aG 0 0&&aR 24 (aI buf)&&cb 0 (r:Int) 24&&decide (0<24)) (some ((aU ji ((aV (((aB (r:Int))-0)) (aT 0 buf)))))))))
    =some (tO i v++AN buf i r):=by
  intro i v buf h4 hi hb hlt hx;simp only[dB];have cases:i=0∨i=1∨i=2∨i=3:=by omega
  rcases cases with rfl|rfl|rfl|rfl
  ·rw[zF (by decide),zF (by decide),yK hr20 hb hx];rfl
  ·rw[zF (by decide),zE (by decide),aC,aL,show(0:Int)=((0:Nat):Int)from rfl,dC (by omega)];simp only[zG];rw[IW (by omega)];simp only[zG];have hv10:v<10:=by simpa using hlt
   have e:IntKind.u8.wrap (IntKind.u32.wrap (48+(v:Int)))=48+((v % 10:Nat):Int):=by
    rw[JH (by omega)];show(48+(v:Int)) % 256=_;omega
   rw[e];have hs:AN (aA buf (0+0) (48+((v % 10:Nat):Int))) 0 r=(48+((v % 10:Nat):Int))::AN buf 1 r:=eQ (i:=1) (k:=0) hb (by omega) hi hr20 rfl;have:=yK hr20 (am (j:=0+0) (x:=48+((v % 10:Nat):Int)) hb) (by rw[hs];exact hx);rw[aC,aL]at this;refine this.trans ?_;rw[hs];rfl
  ·rw[zE (by decide)];simp only[RR];have hv100:v<100:=by simpa using hlt
   rw[qo (show v % 100<100 by omega),ns (show v % 100<100 by omega)];simp only[zG];rw[we (q:=1) (k:=0) hb rfl (by omega) hi hr20];rw[we (q:=2) (k:=1) (am hb) rfl (by omega) hi hr20];rw[zF (by decide)];have hs:=eQ (x:=48+((v % 100 / 10 % 10:Nat):Int)) (k:=1) (am (j:=0+(2-(0+1))) (x:=48+((v % 100 % 10:Nat):Int)) hb) (by omega) hi hr20 (eQ (k:=0) hb (by omega) hi hr20 rfl)
   have he:tO 2 v++AN buf 2 r=(48+((v % 100 / 10 % 10:Nat):Int))::(48+((v % 100 % 10:Nat):Int))::AN buf (2-0) r:=by
    rw[Ti];refine mX ?_ (mX ?_ rfl)
    all_goals omega
   rw[he]at hx⊢;refine(yK hr20 (am (am hb)) (by rw[show(0:Nat)=2-(1+1)from rfl,hs];exact hx)).trans ?_;exact congrArg some hs
  ·rw[zE (by decide)];simp only[RR,SZ];have hv1000:v<1000:=by simpa using hlt
   rw[qo (show v % 100<100 by omega),ns (show v % 100<100 by omega)];simp only[zG];rw[we (q:=1) (k:=0) hb rfl (by omega) hi hr20];rw[we (q:=2) (k:=1) (am hb) rfl (by omega) hi hr20];rw[zE (by decide),aC,aL,show(0:Int)=((0:Nat):Int)from rfl,dC (by omega)];simp only[zG];rw[IW (by rw[bI,bI];omega)];simp only[zG]
   have e:IntKind.u8.wrap (IntKind.u32.wrap (48+(IntKind.u32.wrap ((v / 100:Nat):Int))))=48+((v / 100 % 10:Nat):Int):=by
    rw[PE (by omega),JH (by omega)];show(48+((v / 100:Nat):Int)) % 256=_;omega
   rw[e]
   have hs:=eQ (x:=48+((v / 100 % 10:Nat):Int)) (k:=2) (am (j:=0+(3-(1+1))) (x:=48+((v % 100 / 10 % 10:Nat):Int)) (am (j:=0+(3-(0+1))) (x:=48+((v % 100 % 10:Nat):Int)) hb)) (by omega) hi hr20
    (eQ (k:=1) (am hb) (by omega) hi hr20 (eQ (k:=0) hb (by omega) hi hr20 rfl))
   have he:tO 3 v++AN buf 3 r=(48+((v / 100 % 10:Nat):Int))::(48+((v % 100 / 10 % 10:Nat):Int))::(48+((v % 100 % 10:Nat):Int))::AN buf (3-0) r:=by
    simp only[tO,bN,bF,aK,aL];refine mX ?_ (mX ?_ (mX ?_ rfl))
    all_goals omega
   rw[he]at hx⊢
   have:=yK hr20 (am (j:=0+(3-(2+1))) (x:=48+((v / 100 % 10:Nat):Int)) (am (j:=0+(3-(1+1))) (x:=48+((v % 100 / 10 % 10:Nat):Int)) (am (j:=0+(3-(0+1))) (x:=48+((v % 100 % 10:Nat):Int)) hb))) (by
    rw[show AN _ 0 r=_ from hs];exact hx)
   rw[aC,aL]at this;exact this.trans (congrArg some hs)
 by_cases h4:4≤i
 ·obtain⟨buf',g1,g2,g3⟩:=Lx h4 hi hr20 hb (bR hlt (cA (by omega) (by omega:i≤8))) (fun s46=>_);refine g3.trans ?_
  have hpd:tO i v++AN buf i r=tO (i-4) (v / 10000)++AN buf' (i-4) r:=by
   rw[g2,←aK]
   congr 1
   have:=FX (i-4) 4 v;rw[show i-4+4=i by omega]at this;exact this
  rw[hpd]at hby⊢;refine key _ _ _ (by omega) (by omega) g1 ?_ hby
  have:i=i-4+4:=by omega
  rw[this,Nat.pow_add]at hlt;exact bY (by rw[bC];exact hlt)
 ·simp only[dB];rw[zF (by omega),PE (bR hlt (Nat.le_trans (cA (by omega) (by omega:i≤4)) (by decide)))];simp only[zG];have:=key i v buf (by omega) hi hb hlt hby
  simp only[dB]at this;exact this
theorem cz {α:Type}{p:Prop}[Decidable p]{x y z:α}(h: ¬p)(k:y=z):(if p then x else y)=z:=by rw[zF h,k]
theorem qP {α:Type}{p:Prop}[Decidable p]{x y z:α}(h:p)(k:x=z):(if p then x else y)=z:=by rw[zE h,k]
def lm (n b0 b1 b2 b3:Nat):Nat×Nat:=
 if b0<128 then(b0,1)
 else if b0 / 32=6∧1<n∧b1 / 64=2 then
  if 128≤(b0 % 32)*64+b1 % 64 then((b0 % 32)*64+b1 % 64,2)else(65533,1)
 else if b0 / 16=14∧(1<n∧b1 / 64=2)∧(2<n∧b2 / 64=2)then
  if 2048≤(b0 % 16)*4096+(b1 % 64)*64+b2 % 64∧((b0 % 16)*4096+(b1 % 64)*64+b2 % 64<55296∨57344≤(b0 % 16)*4096+(b1 % 64)*64+b2 % 64)then((b0 % 16)*4096+(b1 % 64)*64+b2 % 64,3)else(65533,1)
 else if b0 / 8=30∧(1<n∧b1 / 64=2)∧(2<n∧b2 / 64=2)∧(3<n∧b3 / 64=2)then
  if 65536≤(b0 % 8)*262144+(b1 % 64)*4096+(b2 % 64)*64+b3 % 64∧(b0 % 8)*262144+(b1 % 64)*4096+(b2 % 64)*64+b3 % 64≤1114111 then((b0 % 8)*262144+(b1 % 64)*4096+(b2 % 64)*64+b3 % 64,4)else(65533,1)
 else(65533,1)
theorem QX {c:Nat}(h:c<65536):Utf8.valid (c:Int)=decide (c<55296∨57344≤c):=by
 unfold Utf8.valid;rw[aZ];simp only[bT,aS,decide_eq_true_eq];omega
theorem NL {c:Nat}(h:65536≤c):Utf8.valid (c:Int)=decide (c≤1114111):=by
 unfold Utf8.valid;rw[aZ];simp only[bT,aS,decide_eq_true_eq];omega
theorem Hf {α:Type}{b:Bool}{p:Prop}[Decidable p](h:b=true↔p){x y x' y':α}(hx:p→x=x')(hy: ¬p→y=y'):(if b=true then x else y)=if p then x' else y':=by
 by_cases hp:p
 ·rw[zE (h.2 hp),zE hp,hx hp]
 ·rw[zF (fun e=>hp (h.1 e)),zF hp,hy hp]
theorem HZ (l:List Int)(i:Nat):tA l i=lm (l.length-i) (l.getD i 0).toNat (l.getD (i+1) 0).toNat (l.getD (i+2) 0).toNat (l.getD (i+3) 0).toNat:=by
 unfold tA lm;simp only[bQ];by_cases h0:(l.getD i 0).toNat<128
 ·exact(qP h0 rfl:_=_).trans (qP h0 rfl:_=_).symm
 refine(cz h0 ?_:_=_);refine aF (cz h0 (aF ?_));refine Hf (by simp only[aS,beq_iff_eq,decide_eq_true_eq];omega) (fun _=>rfl) fun _=> ?_
 refine Hf (by simp only[aS,beq_iff_eq,decide_eq_true_eq];omega) (fun hp=> ?_) fun _=> ?_
 ·refine Hf ?_ (fun _=>rfl) fun _=>rfl
  rw[aS,QX (by omega),decide_eq_true_eq,decide_eq_true_eq]
 refine Hf (by simp only[aS,beq_iff_eq,decide_eq_true_eq];omega) (fun hp=> ?_) fun _=>rfl
 ·refine Hf ?_ (fun _=>rfl) fun _=>rfl
  rw[aS,decide_eq_true_eq];constructor
  ·rintro⟨h1,h2⟩;rw[NL h1,decide_eq_true_eq]at h2;exact⟨h1,h2⟩
  ·rintro⟨h1,h2⟩;exact⟨h1,by rw[NL h1,decide_eq_true_eq];exact h2⟩
def Pl (x:Int):Prop:=(97≤x∧x≤122)∨(48≤x∧x≤57)∨x=61∨x=43∨x=45∨x=42∨x=123∨x=125∨x=35
instance (x :Int):Decidable (Pl x):=by unfold Pl;infer_instance
def rH (n:Nat)(a b c:Int):Nat×Int:=
 if a=9∨a=13∨a=32 then(1,32)else if Pl a then(1,a)else
 if 1<n∧a=194∧b=160 then(2,32)else if 1<n∧a=195∧b=151 then(2,42)else if 1<n∧a=194∧b=183 then(2,42)else
 if 2<n∧a=226∧b=128∧c=131 then(3,32)else if 2<n∧a=227∧b=128∧c=128 then(3,32)else
 if 2<n∧a=226∧b=134∧c=144 then(3,61)else if 2<n∧a=226∧b=136∧c=146 then(3,45)else
 if 2<n∧a=239∧b=188∧144≤c∧c≤153 then(3,c-96)else(1,63)
def eW (l:List Int):Nat×Int:=rH l.length (l.getD 0 0) (l.getD 1 0) (l.getD 2 0)
def cu (r:Int):Int:=
 if r=9∨r=13∨r=32∨r=160∨r=8195∨r=12288 then 32 else if Pl r then r else
 if 65296≤r∧r≤65305 then r-65248 else if r=8592 then 61 else if r=8722 then 45 else if r=215∨r=183 then 42 else 63
theorem Ua {n a b c d:Nat}(ha:a≤255)(hb:b≤255)(hc:c≤255)(hd:d≤255):
  (rH n (a:Int) (b:Int) (c:Int)).2=cu ((lm n a b c d).1:Nat)∧((rH n (a:Int) (b:Int) (c:Int)).2≠63→(rH n (a:Int) (b:Int) (c:Int)).1=(lm n a b c d).2):=by
 have bad: ∀p:Nat×Nat,rH n (a:Int) (b:Int) (c:Int)=(1,63)→cu (p.1:Nat)=63→(rH n (a:Int) (b:Int) (c:Int)).2=cu (p.1:Nat)∧((rH n (a:Int) (b:Int) (c:Int)).2≠63→(rH n (a:Int) (b:Int) (c:Int)).1=p.2):=fun p h1 h2=>by
  rw[h1,h2];exact⟨rfl,fun h=>absurd rfl h⟩
 have hi: ∀r:Nat,128≤r→cu (r:Int)=if r=160∨r=8195∨r=12288 then 32 else if 65296≤r∧r≤65305 then(r:Int)-65248 else if r=8592 then 61 else if r=8722 then 45 else if r=215∨r=183 then 42 else 63:=by
  intro r hr;unfold cu;by_cases h1:r=160∨r=8195∨r=12288
  ·rw[zE h1];exact qP (by omega) rfl
  rw[zF h1];by_cases h2:65296≤r∧r≤65305
  ·rw[zE h2];exact cz (by omega) (cz (by unfold Pl;omega) (qP (by omega) rfl))
  rw[zF h2];by_cases h3:r=8592
  ·rw[zE h3];exact cz (by omega) (cz (by unfold Pl;omega) (cz (by omega) (qP (by omega) rfl)))
  rw[zF h3];by_cases h4:r=8722
  ·rw[zE h4];exact cz (by omega) (cz (by unfold Pl;omega) (cz (by omega) (cz (by omega) (qP (by omega) rfl))))
  rw[zF h4];by_cases h5:r=215∨r=183
  ·rw[zE h5];exact cz (by omega) (cz (by unfold Pl;omega) (cz (by omega) (cz (by omega) (cz (by omega) (qP (by omega) rfl)))))
  rw[zF h5];exact cz (by omega) (cz (by unfold Pl;omega) (cz (by omega) (cz (by omega) (cz (by omega) (cz (by omega) rfl)))))
 have e53:cu ((65533:Nat):Int)=63:=by decide
 by_cases h0:a<128
 ·have hr:lm n a b c d=(a,1):=by unfold lm;rw[zE h0]
  rw[hr];simp only;by_cases h1:(a:Int)=9∨(a:Int)=13∨(a:Int)=32
  ·have e:rH n (a:Int) (b:Int) (c:Int)=(1,32):=qP h1 rfl;rw[e];exact⟨(qP (by omega) rfl:cu (a:Int)=32).symm,fun _=>rfl⟩
  by_cases h2:Pl (a:Int)
  ·have e:rH n (a:Int) (b:Int) (c:Int)=(1,(a:Int)):=cz h1 (qP h2 rfl);rw[e];exact⟨(cz (by omega) (qP h2 rfl):cu (a:Int)=a).symm,fun _=>rfl⟩
  have e:rH n (a:Int) (b:Int) (c:Int)=(1,63):=cz h1 (cz h2 (cz (by omega) (cz (by omega) (cz (by omega) (cz (by omega) (cz (by omega) (cz (by omega) (cz (by omega) (cz (by omega) rfl)))))))));rw[e];exact⟨(cz (by omega) (cz h2 (cz (by omega) (cz (by omega) (cz (by omega) (cz (by omega) rfl))))):cu (a:Int)=63).symm,fun h=>absurd rfl h⟩
 have hs:rH n (a:Int) (b:Int) (c:Int)=if 1<n∧a=194∧b=160 then(2,32)else if 1<n∧a=195∧b=151 then(2,42)else if 1<n∧a=194∧b=183 then(2,42)else
   if 2<n∧a=226∧b=128∧c=131 then(3,32)else if 2<n∧a=227∧b=128∧c=128 then(3,32)else
   if 2<n∧a=226∧b=134∧c=144 then(3,61)else if 2<n∧a=226∧b=136∧c=146 then(3,45)else
   if 2<n∧a=239∧b=188∧144≤c∧c≤153 then(3,(c:Int)-96)else(1,63):=by
  refine cz (by omega) (cz (by unfold Pl;omega) ?_)
  have cong: ∀{p q:Prop} [Decidable p] [Decidable q] {x y y':Nat×Int},(p↔q)→y=y'→(if p then x else y)=if q then x else y':=by
   intro p q _ _ x y y' h e;by_cases hp:p
   ·rw[zE hp,zE (h.1 hp)]
   ·rw[zF hp,zF (fun hq=>hp (h.2 hq)),e]
  refine cong (by omega) (cong (by omega) (cong (by omega) (cong (by omega) (cong (by omega) (cong (by omega) (cong (by omega) (cong (by omega) rfl)))))))
 unfold lm;rw[zF h0];by_cases h2:a / 32=6∧1<n∧b / 64=2
 ·rw[zE h2];have h3: ¬(2<n∧a=226∧b=128∧c=131)∧¬(2<n∧a=227∧b=128∧c=128)∧¬(2<n∧a=226∧b=134∧c=144)∧¬(2<n∧a=226∧b=136∧c=146)∧¬(2<n∧a=239∧b=188∧144≤c∧c≤153):=by omega
  rw[zF h3.1,zF h3.2.1,zF h3.2.2.1,zF h3.2.2.2.1,zF h3.2.2.2.2]at hs;by_cases h4:128≤(a % 32)*64+b % 64
  ·rw[zE h4];simp only;rw[hi _ h4];generalize hr:(a % 32)*64+b % 64=r at h4;by_cases k1:r=160
   ·have hs:=hs.trans (qP (by omega) rfl);rw[hs];refine⟨aF (qP (by omega) rfl), ?_⟩;exact fun _=>rfl
   by_cases k2:r=215
   ·have hs:=hs.trans (cz (by omega) (qP (by omega) rfl));rw[hs];refine⟨aF (cz (by omega) (cz (by omega) (cz (by omega) (cz (by omega) (qP (by omega) rfl))))), ?_⟩;exact fun _=>rfl
   by_cases k3:r=183
   ·have hs:=hs.trans (cz (by omega) (cz (by omega) (qP (by omega) rfl)));rw[hs];refine⟨aF (cz (by omega) (cz (by omega) (cz (by omega) (cz (by omega) (qP (by omega) rfl))))), ?_⟩;exact fun _=>rfl
   have hs:=hs.trans (cz (by omega) (cz (by omega) (cz (by omega) rfl)));rw[hs];refine⟨aF (cz (by omega) (cz (by omega) (cz (by omega) (cz (by omega) (cz (by omega) rfl))))), ?_⟩;exact fun h=>absurd rfl h
  ·rw[zF h4];refine bad (65533,1) ?_ e53;have hs:=hs.trans (cz (by omega) (cz (by omega) (cz (by omega) rfl)));exact hs
 rw[zF h2];have g2: ¬(1<n∧a=194∧b=160)∧¬(1<n∧a=195∧b=151)∧¬(1<n∧a=194∧b=183):=by omega
 rw[zF g2.1,zF g2.2.1,zF g2.2.2]at hs;by_cases h3:a / 16=14∧(1<n∧b / 64=2)∧(2<n∧c / 64=2)
 ·rw[zE h3];by_cases h4:2048≤(a % 16)*4096+(b % 64)*64+c % 64∧((a % 16)*4096+(b % 64)*64+c % 64<55296∨57344≤(a % 16)*4096+(b % 64)*64+c % 64)
  ·rw[zE h4];simp only;rw[hi _ (by omega)];generalize hr:(a % 16)*4096+(b % 64)*64+c % 64=r at h4;by_cases k1:r=8195
   ·have hs:=hs.trans (qP (by omega) rfl);rw[hs];refine⟨aF (qP (by omega) rfl), ?_⟩;exact fun _=>rfl
   by_cases k2:r=12288
   ·have hs:=hs.trans (cz (by omega) (qP (by omega) rfl));rw[hs];refine⟨aF (qP (by omega) rfl), ?_⟩;exact fun _=>rfl
   by_cases k3:r=8592
   ·have hs:=hs.trans (cz (by omega) (cz (by omega) (qP (by omega) rfl)));rw[hs];refine⟨aF (cz (by omega) (cz (by omega) (qP (by omega) rfl))), ?_⟩;exact fun _=>rfl
   by_cases k4:r=8722
   ·have hs:=hs.trans (cz (by omega) (cz (by omega) (cz (by omega) (qP (by omega) rfl))));rw[hs];refine⟨aF (cz (by omega) (cz (by omega) (cz (by omega) (qP (by omega) rfl)))), ?_⟩;exact fun _=>rfl
   by_cases k5:65296≤r∧r≤65305
   ·have hs:=hs.trans (cz (by omega) (cz (by omega) (cz (by omega) (cz (by omega) (qP (by omega) rfl)))));rw[hs];refine⟨aF (cz (by omega) (qP k5 (by simp only;omega))), ?_⟩;exact fun _=>rfl
   have hs:=hs.trans (cz (by omega) (cz (by omega) (cz (by omega) (cz (by omega) (cz (by omega) rfl)))));rw[hs];refine⟨aF (cz (by omega) (cz k5 (cz (by omega) (cz (by omega) (cz (by omega) rfl))))), ?_⟩;exact fun h=>absurd rfl h
  ·rw[zF h4];refine bad (65533,1) ?_ e53;have hs:=hs.trans (cz (by omega) (cz (by omega) (cz (by omega) (cz (by omega) (cz (by omega) rfl)))));exact hs
 rw[zF h3];have hs:=hs.trans (cz (by omega) (cz (by omega) (cz (by omega) (cz (by omega) (cz (by omega) rfl)))));by_cases h4:a / 8=30∧(1<n∧b / 64=2)∧(2<n∧c / 64=2)∧(3<n∧d / 64=2)
 ·rw[zE h4];by_cases h5:65536≤(a % 8)*262144+(b % 64)*4096+(c % 64)*64+d % 64∧(a % 8)*262144+(b % 64)*4096+(c % 64)*64+d % 64≤1114111
  ·rw[zE h5];refine bad _ hs ?_;simp only;rw[hi _ (by omega)];exact cz (by omega) (cz (by omega) (cz (by omega) (cz (by omega) (cz (by omega) rfl))))
  ·rw[zF h5];exact bad (65533,1) hs e53
 ·rw[zF h4];exact bad (65533,1) hs e53
abbrev Sg :=Int×Int×List Int×Int
def cI (l:List Int):Prop:= ∀n∈l,0≤n∧n≤255
theorem cI.getD {l:List Int}(h:cI l)(i:Nat):0≤l.getD i 0∧l.getD i 0≤255:=by
 rw[aN];cases e:l[i]? with
 |none=>simp
 |some x=>exact h x (List.mem_of_getElem? e)
theorem cI.drop {l:List Int}(h:cI l)(i:Nat):cI (l.drop i):=fun n hn=>h n (List.mem_of_mem_drop hn)
theorem H7 (n:Nat)(a b c:Int):1≤(rH n a b c).1∧(rH n a b c).1≤max n 1:=by
 unfold rH
 repeat' (first|split)
 all_goals (first|(simp only;omega))
theorem vT (l:List Int):1≤(eW l).1:=(H7 _ _ _ _).1
theorem Jl {l:List Int}(h:l≠[]):(eW l).1≤l.length:=by
 have:=(H7 l.length (l.getD 0 0) (l.getD 1 0) (l.getD 2 0)).2;have h1:0<l.length:=List.length_pos_iff.2 h;unfold eW;omega
def Im :Nat→List Int→Nat→List (Nat×Int)
 |0,_,_=>[]
 |_+1,[],_=>[]
 |f+1,x::l,p=>(p,(eW (x::l)).2)::Im f ((x::l).drop (eW (x::l)).1) (p+(eW (x::l)).1)
theorem yL (f p:Nat):Im f [] p=[]:=by cases f<;>rfl
theorem E7 : ∀(f g:Nat) (l:List Int) (p:Nat),l.length≤f→l.length≤g→Im f l p=Im g l p
 |0,g,l,p,h,_=>by
  have:l=[]:=List.length_eq_zero_iff.1 (by omega);subst this;rw[yL,yL]
 |f+1,0,l,p,_,h=>by
  have:l=[]:=List.length_eq_zero_iff.1 (by omega);subst this;rw[yL,yL]
 |f+1,g+1,[],p,_,_=>rfl
 |f+1,g+1,x::l,p,h1,h2=>by
  rw[Im,Im];have h3:=vT (x::l);rw[E7 f g _ _ (by rw[aD];simp at h1⊢;omega) (by rw[aD];simp at h2⊢;omega)]
def tk (l:List Int)(p:Nat):List (Nat×Int):=Im l.length l p
theorem Ds (p:Nat):tk [] p=[]:=rfl
theorem Bz {l:List Int}(h:l≠[])(p:Nat):tk l p=(p,(eW l).2)::tk (l.drop (eW l).1) (p+(eW l).1):=by
 cases l with
 |nil=>exact absurd rfl h
 |cons x l=>
  unfold tk;rw[aJ,Im];have h3:=vT (x::l);rw[E7 l.length _ ((x::l).drop (eW (x::l)).1) _ (by rw[aD];simp;omega) (aE _)]
theorem JE : ∀(n:Nat) (l:List Int) (p:Nat),l.length≤n→(tk l p).length≤l.length
 |0,l,p,h=>by
  have:l=[]:=List.length_eq_zero_iff.1 (by omega);subst this;simp[Ds]
 |n+1,l,p,h=>by
  by_cases hl:l=[]
  ·subst hl;simp[Ds]
  ·rw[Bz hl,aJ];have h3:=vT l;have h4:=Jl hl;have:=JE n (l.drop (eW l).1) (p+(eW l).1) (by rw[aD];omega);rw[aD]at this;omega
def cur (k:Int)(p:Nat)(d:List Sg):Option Sg→List Sg×Sg
 |none=>(d,(k,(p:Int),[],0))
 |some y=>if y.1=k then(d,y)else(d++[y],(k,(p:Int),[],0))
def cP (x:Int):Nat:=if x=35 then 0 else if x=32 then 1 else if 97≤x∧x≤122 then 2 else if 48≤x∧x≤57 then 3 else if x=63 then 4 else 5
def spec :List (Nat×Int)→List Sg→Option Sg→Int×Int×List Sg
 |[],d,c=>(0,0,d++c.toList)
 |(p,x)::r,d,c=>match cP x with
  |0=>(0,0,d++c.toList)
  |1=>spec r (d++c.toList) none
  |2=>spec r (cur 1 p d c).1 (some (1,(cur 1 p d c).2.2.1,(cur 1 p d c).2.2.2.1++[x],(cur 1 p d c).2.2.2.2))
  |3=>if(18446744073709551615-(x-48)) / 10<(cur 2 p d c).2.2.2.2 then((cur 2 p d c).2.2.1,2,[])
   else spec r (cur 2 p d c).1 (some (2,(cur 2 p d c).2.2.1,kY (10*(cur 2 p d c).2.2.2.2+(x-48)).toNat,10*(cur 2 p d c).2.2.2.2+(x-48)))
  |4=>((p:Int),3,[])
  |_=>spec r (d++c.toList++[(3,(p:Int),[x],0)]) none
theorem PF (r:Int):dx r=some (decide (r=9∨r=13∨r=32∨r=160∨r=8195∨r=12288)):=by
 unfold dx;simp only[dB];by_cases h1:r=9
 ·rw[zE h1,zB (by omega)]
 rw[zF h1];by_cases h2:r=13
 ·rw[zE h2,zB (by omega)]
 rw[zF h2];by_cases h3:r=32
 ·rw[zE h3,zB (by omega)]
 rw[zF h3];by_cases h4:r=160
 ·rw[zE h4,zB (by omega)]
 rw[zF h4];by_cases h5:r=8195
 ·rw[zE h5,zB (by omega)]
 rw[zF h5];by_cases h6:r=12288
 ·rw[zE h6,zB (by omega)]
 rw[zF h6,zA (by omega)]
theorem MG (r:Int):dA r=some (decide (97≤r∧r≤122)):=by
 unfold dA;simp only[dB];by_cases h1:97≤r
 ·rw[zE h1]
  congr 1
  rw[aZ,decide_eq_true_eq,decide_eq_true_eq];omega
 ·rw[zF h1,zA (by omega)]
theorem Og {r:Int}(h0:0≤r):ei r=some (if 48≤r∧r≤57 then r-48 else if 65296≤r∧r≤65305 then r-65296 else-1):=by
 unfold ei;simp only[dB]
 have w: ∀n:Int,0≤n→n≤9→IntKind.i64.wrap (IntKind.i32.wrap n)=n:=by
  intro n h1 h2;have:n=0∨n=1∨n=2∨n=3∨n=4∨n=5∨n=6∨n=7∨n=8∨n=9:=by omega
  rcases this with e|e|e|e|e|e|e|e|e|e<;>(rw[e];rfl)
 by_cases h1:48≤r
 ·rw[zE h1];simp only[zG,dB];by_cases h2:r≤57
  ·rw[zE h2,zE ⟨h1,h2⟩,w _ (by omega) (by omega)]
  ·rw[zF h2,zF (show¬(48≤r∧r≤57)by omega)];by_cases h3:65296≤r
   ·rw[zE h3];by_cases h4:r≤65305
    ·rw[zE h4,zE ⟨h3,h4⟩,w _ (by omega) (by omega)]
    ·rw[zF h4,zF (show¬(65296≤r∧r≤65305)by omega)]
   ·rw[zF h3,zF (show¬(65296≤r∧r≤65305)by omega)]
 ·rw[zF h1,zF (show¬(48≤r∧r≤57)by omega)];simp only[zG,zD];rw[zF (show¬65296≤r by omega),zF (show¬(65296≤r∧r≤65305)by omega)]
theorem QE (r:Int):gm r=some (if r=61∨r=43∨r=45∨r=42∨r=123∨r=125 then r else if r=8592 then 61 else if r=8722 then 45 else if r=215∨r=183 then 42 else 0):=by
 unfold gm;simp only[dB]
 have e:(if r=61 then some true else if r=43 then some true else if r=45 then some true else if r=42 then some true else if r=123 then some true else some (decide (r=125)))=some (decide (r=61∨r=43∨r=45∨r=42∨r=123∨r=125)):=by
  by_cases h1:r=61
  ·rw[zE h1,zB (by omega)]
  rw[zF h1];by_cases h2:r=43
  ·rw[zE h2,zB (by omega)]
  rw[zF h2];by_cases h3:r=45
  ·rw[zE h3,zB (by omega)]
  rw[zF h3];by_cases h4:r=42
  ·rw[zE h4,zB (by omega)]
  rw[zF h4];by_cases h5:r=123
  ·rw[zE h5,zB (by omega)]
  rw[zF h5]
  congr 1
  rw[aZ,decide_eq_true_eq,decide_eq_true_eq];omega
 rw[e];simp only[zG,dB];by_cases h1:r=61∨r=43∨r=45∨r=42∨r=123∨r=125
 ·rw[zE h1,zE h1]
 rw[zF h1,zF h1];by_cases h2:r=8592
 ·rw[zE h2,zE h2]
 rw[zF h2,zF h2];by_cases h3:r=8722
 ·rw[zE h3,zE h3]
 rw[zF h3,zF h3];by_cases h4:r=215
 ·rw[zE h4,zE (Or.inl h4)]
 rw[zF h4];by_cases h5:r=183
 ·rw[zE h5,zE (Or.inr h5)]
 rw[zF h5,zF (by omega)]
theorem me {x:Int}(h:0≤x∧x<128):lL x=[x]:=by
 have: ∀k:Fin 128,lL ((k:Nat):Int)=[((k:Nat):Int)]:=by decide+kernel
 have h1:=this ⟨x.toNat,by omega⟩;simp only at h1;rw[show((x.toNat:Nat):Int)=x by omega]at h1;exact h1
theorem HM {r:Int}(h0:0≤r):
  (cP (cu r)=0∧r=35∧cu r≠63)∨
  (cP (cu r)=1∧r≠35∧dx r=some true∧cu r≠63)∨
  (cP (cu r)=2∧r≠35∧dx r=some false∧dA r=some true∧lL r=[cu r]∧cu r≠63)∨
  (cP (cu r)=3∧r≠35∧dx r=some false∧dA r=some false∧ei r=some (cu r-48)∧48≤cu r∧cu r≤57∧cu r≠63)∨
  (cP (cu r)=4∧r≠35∧dx r=some false∧dA r=some false∧ei r=some (-1)∧gm r=some 0)∨
  (cP (cu r)=5∧r≠35∧dx r=some false∧dA r=some false∧ei r=some (-1)∧gm r=some (cu r)∧cu r≠0∧lL (cu r)=[cu r]∧cu r≠63):=by
 rw[PF,MG,Og h0,QE];by_cases h1:r=9∨r=13∨r=32∨r=160∨r=8195∨r=12288
 ·have e:cu r=32:=qP h1 rfl;rw[e];right;left;exact⟨rfl,by omega,by rw[zB h1],by decide⟩
 have w0:decide (r=9∨r=13∨r=32∨r=160∨r=8195∨r=12288)=false:=zA h1;rw[w0];by_cases h2:r=35
 ·have e:cu r=35:=cz h1 (qP (by unfold Pl;omega) h2);rw[e];exact .inl ⟨rfl,h2,by decide⟩
 by_cases h3:97≤r∧r≤122
 ·have e:cu r=r:=cz h1 (qP (by unfold Pl;omega) rfl);rw[e];refine .inr (.inr (.inl ⟨?_,h2,rfl,by rw[zB h3],me (by omega),by omega⟩));exact cz (by omega) (cz (by omega) (qP h3 rfl))
 have l0:decide (97≤r∧r≤122)=false:=zA h3;rw[l0];by_cases h4:48≤r∧r≤57
 ·have e:cu r=r:=cz h1 (qP (by unfold Pl;omega) rfl);rw[e];refine .inr (.inr (.inr (.inl ⟨cz (by omega) (cz (by omega) (cz h3 (qP h4 rfl))),h2,rfl,rfl,by rw[zE h4],by omega,by omega,by omega⟩)))
 rw[zF h4];by_cases h5:65296≤r∧r≤65305
 ·have e:cu r=r-65248:=cz h1 (cz (by unfold Pl;omega) (qP h5 rfl));rw[e];refine .inr (.inr (.inr (.inl ⟨cz (by omega) (cz (by omega) (cz (by omega) (qP (by omega) rfl))),h2,rfl,rfl,by rw[zE h5];congr 1;omega,by omega,by omega,by omega⟩)))
 rw[zF h5];have mk: ∀x:Int,cu r=x→(x=61∨x=43∨x=45∨x=42∨x=123∨x=125)→cP x=5:=fun x _ h=>cz (by omega) (cz (by omega) (cz (by omega) (cz (by omega) (cz (by omega) rfl))))
 by_cases h6:r=61∨r=43∨r=45∨r=42∨r=123∨r=125
 ·have e:cu r=r:=cz h1 (qP (by unfold Pl;omega) rfl);rw[e,zE h6];exact .inr (.inr (.inr (.inr (.inr ⟨mk r e h6,h2,rfl,rfl,rfl,rfl,by omega,me (by omega),by omega⟩))))
 rw[zF h6];have npl: ¬Pl r:=by unfold Pl;omega
 by_cases h7:r=8592
 ·have e:cu r=61:=cz h1 (cz npl (cz h5 (qP h7 rfl)));rw[e,zE h7];exact .inr (.inr (.inr (.inr (.inr ⟨rfl,h2,rfl,rfl,rfl,rfl,by omega,me (by omega),by omega⟩))))
 rw[zF h7];by_cases h8:r=8722
 ·have e:cu r=45:=cz h1 (cz npl (cz h5 (cz h7 (qP h8 rfl))));rw[e,zE h8];exact .inr (.inr (.inr (.inr (.inr ⟨rfl,h2,rfl,rfl,rfl,rfl,by omega,me (by omega),by omega⟩))))
 rw[zF h8];by_cases h9:r=215∨r=183
 ·have e:cu r=42:=cz h1 (cz npl (cz h5 (cz h7 (cz h8 (qP h9 rfl)))));rw[e,zE h9];exact .inr (.inr (.inr (.inr (.inr ⟨rfl,h2,rfl,rfl,rfl,rfl,by omega,me (by omega),by omega⟩))))
 rw[zF h9];have e:cu r=63:=cz h1 (cz npl (cz h5 (cz h7 (cz h8 (cz h9 rfl)))));rw[e];exact .inr (.inr (.inr (.inr (.inl ⟨rfl,h2,rfl,rfl,rfl,rfl⟩))))
theorem Ps {l:List Int}(hb:cI l){p:Nat}:cu (fL l (p:Int))=(eW (l.drop p)).2∧0≤fL l (p:Int)∧((eW (l.drop p)).2≠63→gf l (p:Int)=((p+(eW (l.drop p)).1:Nat):Int)):=by
 have g: ∀k,(l.drop p).getD k 0=l.getD (p+k) 0:=fun k=>by
  rw[aN,aN,bW]
 have n:=fun k=>hb.getD (p+k)
 have c: ∀k,(((l.getD (p+k) 0).toNat:Nat):Int)=l.getD (p+k) 0:=fun k=>by have:=n k;omega
 have h:=Ua (n:=l.length-p) (a:=(l.getD (p+0) 0).toNat) (b:=(l.getD (p+1) 0).toNat) (c:=(l.getD (p+2) 0).toNat) (d:=(l.getD (p+3) 0).toNat) (by have:=n 0;omega) (by have:=n 1;omega) (by have:=n 2;omega) (by have:=n 3;omega);rw[c 0,c 1,c 2]at h;unfold eW;rw[g,g,g,aD];unfold fL gf;rw[aC,HZ];refine⟨h.1.symm,by omega,fun h1=> ?_⟩;rw[h.2 h1];rfl
abbrev TW :=Int×Int×List Sg
abbrev Tr :=(Int×Int×Int×Int×List Sg)⊕((Int×Int×List Sg)⊕(Int×Int×List Sg))
def Nb (r:Tr):Option (Int×Int×List Sg):=bt r (fun u=>some (u.1,u.2.1,[])) fun w=>bt w (fun u=>some (0,0,u.2.2)) fun w=>some (0,0,w.2.2)
theorem Jq (l:List Int):gI l=(aw (cU l) di (0,0,[])).bind Nb:=rfl
def lX :Option Sg→Int
 |none=>0
 |some y=>y.1
def JJ (p:Nat)(c:Option Sg):Prop:= ∀y,c=some y→(y.1=1∨y.1=2)∧0≤y.2.2.2∧y.2.2.2≤18446744073709551615∧y.2.2.1.length≤p+20∧0≤y.2.1∧y.2.1<p
theorem yw {s:List Sg}{x:Sg}(h:s.length≤1000000):ix (zH zI ((((s++[x]).length:Nat):Int)-1)) (s++[x]).length=some s.length:=by
 rw[aP,bJ,cR (by omega)];have:((s.length+1:Nat):Int)-1=(s.length:Int):=by omega
 rw[this];exact dC (by omega)
theorem pB (s:List Sg)(x:Sg):(s++[x])[s.length]?=some x:=by simp
theorem uM (s:List Sg)(x y:Sg):aA (s++[x]) s.length y=s++[y]:=by
 rw[List.set_append_right _ _ (aE _),Nat.sub_self];rfl
theorem Kt {d:Int}(h:0≤d∧d≤9):zH zJ (aM (zH zJ (18446744073709551615-(zH zJ d))) 10)=(18446744073709551615-d) / 10:=by
 rw[jo (n:=d) (by omega),jo (n:=18446744073709551615-d) (by omega),Kr (show 0≤18446744073709551615-d by omega),jo (n:=(18446744073709551615-d) / 10) (by omega)]
theorem Ht {n d:Int}(h:0≤d∧d≤9)(hn:0≤n)(hm: ¬(18446744073709551615-d) / 10<n):zH zJ ((zH zJ (10*n))+(zH zJ d))=10*n+d:=by
 rw[jo (n:=10*n) (by omega),jo (n:=d) (by omega),jo (n:=10*n+d) (by omega)]
theorem Ik {n:Int}(h:0≤n∧n≤18446744073709551615):gk n=some (kY n.toNat):=by
 have:=Jp n.toNat (by omega)
 rwa [show((n.toNat:Nat):Int)=n by omega]at this
theorem sJ {n:Int}(h:n≤18446744073709551615):(kY n.toNat).length≤20:=by rw[Mg];exact OR _ (by omega)
theorem rL (d:List Sg)(c:Option Sg):spec [] d c=(0,0,d++c.toList):=rfl
theorem dh (p:Nat)(x:Int)(r:List (Nat×Int))(d:List Sg)(c:Option Sg):spec ((p,x)::r) d c=match cP x with
  |0=>(0,0,d++c.toList)
  |1=>spec r (d++c.toList) none
  |2=>spec r (cur 1 p d c).1 (some (1,(cur 1 p d c).2.2.1,(cur 1 p d c).2.2.2.1++[x],(cur 1 p d c).2.2.2.2))
  |3=>if(18446744073709551615-(x-48)) / 10<(cur 2 p d c).2.2.2.2 then((cur 2 p d c).2.2.1,2,[])
   else spec r (cur 2 p d c).1 (some (2,(cur 2 p d c).2.2.1,kY (10*(cur 2 p d c).2.2.2.2+(x-48)).toNat,10*(cur 2 p d c).2.2.2.2+(x-48)))
  |4=>((p:Int),3,[])
  |_=>spec r (d++c.toList++[(3,(p:Int),[x],0)]) none:=by rw[spec]<;>split<;>simp_all
theorem rj (k:Int)(p:Nat)(d:List Sg)(c:Option Sg):(∃y,c=some y∧y.1=k∧cur k p d c=(d,y))∨(lX c≠k∨c=none)∧cur k p d c=(d++c.toList,(k,(p:Int),[],0)):=by
 cases c with
 |none=>exact .inr ⟨.inr rfl,by simp[cur]⟩
 |some y=>
  by_cases h:y.1=k
  ·exact .inl ⟨y,rfl,h,by simp[cur,h]⟩
  ·exact .inr ⟨.inl h,by simp[cur,h]⟩
theorem Jr {l:List Int}(hb:cI l)(hl:l.length≤100000){p:Nat}{d:List Sg}{c:Option Sg}(hp:p<l.length)(hc:JJ p c)(hd:(d++c.toList).length≤p):
  (∃e,cU l (lX c,(p:Int),d++c.toList)=some (.inr e)∧Nb e=some (spec (tk (l.drop p) p) d c))∨
  (∃(p':Nat) (d':List Sg) (c':Option Sg),cU l (lX c,(p:Int),d++c.toList)=some (.inl (lX c',(p':Int),d'++c'.toList))∧p<p'∧p'≤l.length∧JJ p' c'∧(d'++c'.toList).length≤p'∧spec (tk (l.drop p') p') d' c'=spec (tk (l.drop p) p) d c):=by
 have hne:l.drop p≠[]:=fun e=>by
  have:=congrArg aI e;rw[aD]at this;simp at this;omega
 obtain⟨r1,r2,r3⟩:=Ps hb (p:=p);have hn1:=vT (l.drop p);have hn2:=Jl hne;rw[aD]at hn2;rw[Bz hne,dh,←r1];rw[←r1]at r3;generalize hr:fL l (p:Int)=r at r1 r2 r3
 have hgd:gd (decide ((0:Int)≤(p:Int))&&aR 1 1)=gd (β:=TW⊕Tr) true:=by
  rw[zB (by omega)];rfl
 have adv: ∀q,q=p+(eW (l.drop p)).1→(l.drop p).drop (eW (l.drop p)).1=l.drop q:=fun q h=>by rw[bG,h]
 generalize hq:p+(eW (l.drop p)).1=q at r3;rw[adv q hq.symm];have hpq:p<q:=by omega
 have hql:q≤l.length:=by omega
 unfold cU;simp only;rw[hgd,fp,zB (by omega),zC,hr];have len3: ∀(s:List Sg) (x:Sg),s.length≤p→(s++[x]).length≤q:=fun s x h=>by rw[aP];simp;omega
 have cnone:JJ q none:=fun y h=>by cases h
 rcases HM r2 with⟨k,h35,n63⟩|⟨k,h35,hw,n63⟩|⟨k,h35,hw,hlt,hu,n63⟩|⟨k,h35,hw,hlt,hdg,g1,g2,n63⟩|⟨k,h35,hw,hlt,hdg,hm⟩|⟨k,h35,hw,hlt,hdg,hm,hm0,hu,n63⟩
 ·left;rw[zB h35,zC,k];exact⟨_,rfl,rfl⟩
 ·right;rw[zA h35,zD,hw];simp only[zG,zC,k];rw[r3 n63];exact⟨q,d++c.toList,none,by simp[lX],hpq,hql,cnone,by simp;simp at hd;omega,rfl⟩
 ·right;rw[zA h35,zD,hw];simp only[zG,zD,hlt,zC,k,r3 n63];rcases rj 1 p d c with⟨y,rfl,hy1,hcur⟩|⟨hno,hcur⟩
  ·rw[hcur];simp only;obtain⟨c1,c2,c3,c4,c5,c6⟩:=hc y rfl;rw[show decide (lX (some y)≠1)=false from zA (fun h=>h hy1),zD];simp only[aO];have hd':d.length≤1000000:=by rw[aP]at hd;omega
   rw[yw hd'];simp only[zG];rw[pB];simp only[zG];rw[hu,py (by simp;omega),uM];refine⟨q,d,some (1,y.2.1,y.2.2.1++[cu r],y.2.2.2), ?_,hpq,hql, ?_, ?_,rfl⟩
   ·rw[←hy1];rfl
   ·intro z hz;injection hz with hz
    subst hz;exact⟨.inl rfl,c2,c3,by simp;omega,c5,by simp only;omega⟩
   ·simp only[aO]at hd⊢;rw[aP]at hd⊢;simp at hd⊢;omega
  ·rw[hcur];simp only
   have hopen:decide (lX c≠1)=true:=zB (by
    rcases hno with h|h
    ·exact h
    ·rw[h];decide)
   rw[hopen,zC,fO (by omega) (by omega),yw (by omega)];simp only[zG];rw[pB];simp only[zG];rw[hu,py (by simp),uM];refine⟨q,d++c.toList,some (1,(p:Int),[]++[cu r],0),rfl,hpq,hql, ?_, ?_,rfl⟩
   ·intro z hz;injection hz with hz
    subst hz;exact⟨.inl rfl,by simp only;omega,by simp only;omega,by simp,by simp only;omega,by simp only;omega⟩
   ·exact len3 _ _ hd
 ·rw[zA h35,zD,hw];simp only[zG,zD,hlt,hdg,k];rw[show decide (0≤cu r-48)=true from zB (by omega),zC];have d9:0≤cu r-48∧cu r-48≤9:=by omega
  rcases rj 2 p d c with⟨y,rfl,hy1,hcur⟩|⟨hno,hcur⟩
  ·rw[hcur];simp only;obtain⟨c1,c2,c3,c4,c5,c6⟩:=hc y rfl;rw[show decide (lX (some y)≠2)=false from zA (fun h=>h hy1),zD];simp only[aO];have hd':d.length≤1000000:=by rw[aP]at hd;omega
   rw[yw hd'];simp only[zG];rw[pB];simp only[zG];rw[Kt d9];by_cases hbig:(18446744073709551615-(cu r-48)) / 10<y.2.2.2
   ·left;rw[zB hbig,zC,zE hbig];exact⟨_,rfl,rfl⟩
   ·right;rw[zA hbig,zD,zF hbig,Ht d9 c2 hbig];simp only[uM,pB,zG];rw[Ik (by omega)];simp only[zG];refine⟨q,d,some (2,y.2.1,kY (10*y.2.2.2+(cu r-48)).toNat,10*y.2.2.2+(cu r-48)), ?_,hpq,hql, ?_, ?_,rfl⟩
    ·rw[r3 n63,←hy1];rfl
    ·intro z hz;injection hz with hz
     subst hz;have:=sJ (n:=10*y.2.2.2+(cu r-48)) (by omega);exact⟨.inr rfl,by simp only;omega,by simp only;omega,by simp only;omega,c5,by simp only;omega⟩
    ·simp only[aO]at hd⊢;rw[aP]at hd⊢;simp at hd⊢;omega
  ·rw[hcur];simp only
   have hopen:decide (lX c≠2)=true:=zB (by
    rcases hno with h|h
    ·exact h
    ·rw[h];decide)
   rw[hopen,zC,fO (by omega) (by omega),yw (by omega)];simp only[zG];rw[pB];simp only[zG];rw[Kt d9];have hbig: ¬(18446744073709551615-(cu r-48)) / 10<0:=by omega
   right;rw[zA hbig,zD,zF hbig,Ht d9 (by omega) hbig];simp only[uM,pB,zG];rw[Ik (by omega)];simp only[zG];refine⟨q,d++c.toList,some (2,(p:Int),kY (10*0+(cu r-48)).toNat,10*0+(cu r-48)), ?_,hpq,hql, ?_, ?_,rfl⟩
   ·rw[r3 n63];rfl
   ·intro z hz;injection hz with hz
    subst hz;have:=sJ (n:=10*0+(cu r-48)) (by omega);exact⟨.inr rfl,by simp only;omega,by simp only;omega,by simp only;omega,by simp only;omega,by simp only;omega⟩
   ·exact len3 _ _ hd
 ·left;rw[zA h35,zD,hw];simp only[zG,zD,hlt,hdg,hm,k];rw[show decide ((0:Int)≤ -1)=false from rfl,zD,show decide ((0:Int)≠0)=false from rfl,zD];exact⟨_,rfl,rfl⟩
 ·right;rw[zA h35,zD,hw];simp only[zG,zD,hlt,hdg,hm,k];rw[show decide ((0:Int)≤ -1)=false from rfl,zD,zB hm0,zC,fO (by omega) (by omega),yw (by omega)];simp only[zG];rw[pB];simp only[zG];rw[hu,uM,r3 n63];refine⟨q,d++c.toList++[(3,(p:Int),[cu r],0)],none,by simp[lX],hpq,hql,cnone, ?_,rfl⟩;have:=len3 _ (3,(p:Int),[cu r],0) hd;simpa using this
theorem Dl {l:List Int}(hb:cI l)(hl:l.length≤100000): ∀(n:Nat) (m p:Nat) (d:List Sg) (c:Option Sg),l.length-p<n→n≤m→p≤l.length→JJ p c→(d++c.toList).length≤p→
  (aw (cU l) m (lX c,(p:Int),d++c.toList)).bind Nb=some (spec (tk (l.drop p) p) d c)
 |0,_,_,_,_,h,_,_,_,_=>by omega
 |n+1,m,p,d,c,h,hm,hp,hc,hd=>by
  obtain⟨m,rfl⟩: ∃m',m=m'+1:=⟨m-1,by omega⟩
  rw[cf];by_cases hlt:p<l.length
  ·rcases Jr hb hl hlt hc hd with⟨e,h1,h2⟩|⟨p',d',c',h1,h2,h3,h4,h5,h6⟩
   ·rw[h1];exact h2
   ·rw[h1,←h6];exact Dl hb hl n m p' d' c' (by omega) (by omega) h3 h4 h5
  ·have hp:p=l.length:=by omega
   subst hp
   have:cU l (lX c,((l.length:Nat):Int),d++c.toList)=some (.inr (.inr (.inr (lX c,((l.length:Nat):Int),d++c.toList)))):=by
    unfold cU;simp only;rw[show decide ((0:Int)≤((l.length:Nat):Int))=true from zB (by omega),show decide (((l.length:Nat):Int)<((l.length:Nat):Int))=false from zA (by omega)];rfl
   rw[this,aW,Ds];rfl
def be (l:List Int):Int×Int×List Sg:=spec (tk l 0) [] none
theorem AP {l:List Int}(hb:cI l)(hl:l.length≤100000):gI l=some (be l):=by
 rw[Jq];exact Dl hb hl (l.length+1) di 0 [] none (by omega) (by unfold di;omega) (by omega) (fun y h=>by cases h) (by simp)
theorem Jf (x:Int):((cond (decide (97≤x))
   (cond (decide (x≤122))
   (some ((.inl x)))
   (cond (decide (48≤x))
    (cond (decide (x≤57))
    (some ((.inl x)))
    (cond (decide (x=61))
     (some ((.inl x)))
     (cond (decide (x=43))
     (some ((.inl x)))
     (cond (decide (x=45))
      (some ((.inl x)))
      (cond (decide (x=42))
      (some ((.inl x)))
      (cond (decide (x=123))
       (some ((.inl x)))
       (cond (decide (x=125))
       (some ((.inl x)))
       (cond (decide (x=35))
        (some ((.inl x)))
        (some ((.inr ())))))))))))
    (cond (decide (x=61))
    (some ((.inl x)))
    (cond (decide (x=43))
     (some ((.inl x)))
     (cond (decide (x=45))
     (some ((.inl x)))
     (cond (decide (x=42))
      (some ((.inl x)))
      (cond (decide (x=123))
      (some ((.inl x)))
      (cond (decide (x=125))
       (some ((.inl x)))
       (cond (decide (x=35))
       (some ((.inl x)))
       (some ((.inr ()))))))))))))
   (cond (decide (48≤x))
   (cond (decide (x≤57))
    (some ((.inl x)))
    (cond (decide (x=61))
    (some ((.inl x)))
    (cond (decide (x=43))
     (some ((.inl x)))
     (cond (decide (x=45))
     (some ((.inl x)))
     (cond (decide (x=42))
      (some ((.inl x)))
      (cond (decide (x=123))
      (some ((.inl x)))
      (cond (decide (x=125))
       (some ((.inl x)))
       (cond (decide (x=35))
       (some ((.inl x)))
       (some ((.inr ())))))))))))
   (cond (decide (x=61))
    (some ((.inl x)))
    (cond (decide (x=43))
    (some ((.inl x)))
    (cond (decide (x=45))
     (some ((.inl x)))
     (cond (decide (x=42))
     (some ((.inl x)))
     (cond (decide (x=123))
      (some ((.inl x)))
      (cond (decide (x=125))
      (some ((.inl x)))
      (cond (decide (x=35))
       (some ((.inl x)))
       (some ((.inr ())))))))))))):Option (Int⊕Unit))=some (if Pl x then .inl x else .inr ()):=by
 by_cases hP:Pl x
 ·rw[zE hP];rcases hP with h|h|rfl|rfl|rfl|rfl|rfl|rfl|rfl
  ·rw[zB h.1,zB h.2];rfl
  ·rw[show decide (97≤x)=false from zA (by omega),zB h.1,zB h.2];rfl
  all_goals rfl
 ·rw[zF hP];unfold Pl at hP
  rw[show decide (x=61)=false from zA (by omega),show decide (x=43)=false from zA (by omega),show decide (x=45)=false from zA (by omega),show decide (x=42)=false from zA (by omega),
   show decide (x=123)=false from zA (by omega),show decide (x=125)=false from zA (by omega),show decide (x=35)=false from zA (by omega)]
  simp only[zD];by_cases h1:97≤x
  ·rw[zB h1,show decide (x≤122)=false from zA (by omega),show decide (48≤x)=true from zB (by omega),show decide (x≤57)=false from zA (by omega)];rfl
  rw[zA h1];by_cases h2:48≤x
  ·rw[zB h2,show decide (x≤57)=false from zA (by omega)];rfl
  rw[zA h2];rfl
def QP (s:Nat×Int):Int×Int:=((s.1:Int),s.2)
theorem N0 {b:Bool}{p:Prop}[Decidable p](h:b=true↔p){x y:Option (Int×Int)}{x' y':Nat×Int}(hx:p→x=some (QP x'))(hy: ¬p→y=some (QP y')):cond b x y=some (QP (if p then x' else y')):=by
 by_cases hp:p
 ·rw[zE hp,h.2 hp,zC,hx hp]
 ·have:b=false:=by
   cases b with
   |false=>rfl
   |true=>exact absurd (h.1 rfl) hp
  rw[zF hp,this,zD,hy hp]
theorem ze (l:List Int)(i k:Nat)(h:i+k≤9223372036854775807):fZ l (i:Int) (zH zI ((i:Int)+(k:Int)))=(l.drop i).take k:=by
 unfold fZ;rw[cR (by omega),aC,show((i:Int)+(k:Int)).toNat=i+k by omega,aX]
 congr 1
 omega
theorem HR {l:List Int}(hb:cI l)(hl:l.length≤100000){i:Nat}(hi:i<l.length):iz l (i:Int)=some (QP (eW (l.drop i))):=by
 unfold iz;rw[Bw hi];simp only[zG]
 have hX: ∃x X,l.drop i=x::X∧l.getD i 0=x:=by
  refine⟨l[i],l.drop (i+1),bA hi, ?_⟩;rw[aN,aY hi];rfl
 obtain⟨x,X,e1,e2⟩:=hX;rw[e2]
 have hlen:l.length=i+(X.length+1):=by
  have:=congrArg aI e1;rw[aD,aJ]at this;omega
 have hbX:cI (x::X):=by rw[←e1];exact hb.drop i
 rw[e1];unfold eW rH;simp only[bH,bV,aJ]
 have h3: ∀{β:Type} (A:β) (B:β),cond (decide (x=9)) A (cond (decide (x=13)) A (cond (decide (x=32)) A B))=if x=9∨x=13∨x=32 then A else B:=by
  intro β A B;by_cases h1:x=9
  ·rw[zB h1,zC,zE (Or.inl h1)]
  by_cases h2:x=13
  ·rw[zA h1,zD,zB h2,zC,zE (Or.inr (Or.inl h2))]
  by_cases h4:x=32
  ·rw[zA h1,zD,zA h2,zD,zB h4,zC,zE (Or.inr (Or.inr h4))]
  rw[zA h1,zD,zA h2,zD,zA h4,zD,zF (by omega)]
 rw[h3];by_cases hw:x=9∨x=13∨x=32
 ·rw[zE hw,zE hw];rfl
 rw[zF hw,zF hw,Jf];simp only[zG];by_cases hP:Pl x
 ·rw[zE hP,zE hP];rfl
 rw[zF hP,zF hP];simp only[db];have c2:=ze l i 2 (by omega);have c3:=ze l i 3 (by omega);rw[e1]at c2 c3;have w2:zH zI ((i:Int)+2)=((i+2:Nat):Int):=by rw[cR (by omega)];omega
 have w3:zH zI ((i:Int)+3)=((i+3:Nat):Int):=by rw[cR (by omega)];omega
 have c2:fZ l (i:Int) ((i+2:Nat):Int)=(x::X).take 2:=by rw[←w2];exact c2
 have c3:fZ l (i:Int) ((i+3:Nat):Int)=(x::X).take 3:=by rw[←w3];exact c3
 rw[w2,w3,c2,c3];have nl: ∀{u v:Int} {b:Bool},decide (([]:List Int)=[u,v])=false:=rfl
 match X,hlen,hbX with
 |[],hlen,hbX=>
  rw[show decide (((i+2:Nat):Int)≤((l.length:Nat):Int))=false from zA (by simp at hlen;omega),show decide (((i+3:Nat):Int)≤((l.length:Nat):Int))=false from zA (by simp at hlen;omega)];simp only[zD,zG,bB];rw[zF (by omega),zF (by omega),zF (by omega),zF (by omega),zF (by omega),zF (by omega),zF (by omega),zF (by omega)];rfl
 |[y],hlen,hbX=>
  rw[show decide (((i+2:Nat):Int)≤((l.length:Nat):Int))=true from zB (by simp at hlen;omega),show decide (((i+3:Nat):Int)≤((l.length:Nat):Int))=false from zA (by simp at hlen;omega)];rw[kV (show(0:Int)≤(i:Int)∧(i:Int)≤((i+2:Nat):Int)∧((i+2:Nat):Int)≤(l.length:Int)by simp at hlen;omega)];simp only[zD,zC,fp,zG,aJ,bB,bP,List.take_nil,bH];refine N0 (x':=(2,32)) (by rw[decide_eq_true_eq];simp) (fun _=>rfl) fun _=>N0 (x':=(2,42)) (by rw[decide_eq_true_eq];simp) (fun _=>rfl) fun _=>N0 (x':=(2,42)) (by rw[decide_eq_true_eq];simp) (fun _=>rfl) fun _=> ?_
  refine(rfl:_=some (QP (1,63))).trans (congrArg (fun z=>some (QP z)) (aF ?_));exact cz (by omega) (cz (by omega) (cz (by omega) (cz (by omega) (cz (by omega) rfl))))
 |y::z::t,hlen,hbX=>
  rw[show decide (((i+2:Nat):Int)≤((l.length:Nat):Int))=true from zB (by simp at hlen;omega),show decide (((i+3:Nat):Int)≤((l.length:Nat):Int))=true from zB (by simp at hlen;omega)];rw[kV (show(0:Int)≤(i:Int)∧(i:Int)≤((i+2:Nat):Int)∧((i+2:Nat):Int)≤(l.length:Int)by simp at hlen;omega)];rw[kV (show(0:Int)≤(i:Int)∧(i:Int)≤((i+3:Nat):Int)∧((i+3:Nat):Int)≤(l.length:Int)by simp at hlen;omega)];simp only[zD,zC,fp,zG,aJ,bB,bP,List.take_zero,bH,bV]
  refine N0 (x':=(2,32)) (by rw[decide_eq_true_eq];simp) (fun _=>rfl) fun _=>N0 (x':=(2,42)) (by rw[decide_eq_true_eq];simp) (fun _=>rfl) fun _=>N0 (x':=(2,42)) (by rw[decide_eq_true_eq];simp) (fun _=>rfl) fun _=>
   N0 (x':=(3,32)) (by rw[decide_eq_true_eq];simp) (fun _=>rfl) fun _=>N0 (x':=(3,32)) (by rw[decide_eq_true_eq];simp) (fun _=>rfl) fun _=>N0 (x':=(3,61)) (by rw[decide_eq_true_eq];simp) (fun _=>rfl) fun _=>
   N0 (x':=(3,45)) (by rw[decide_eq_true_eq];simp) (fun _=>rfl) fun _=> ?_
  have hz:0≤z∧z≤255:=hbX z (by simp);rw[show decide ((((0+1+1+1:Nat):Int))=3)=true from rfl,zC,show cb 0 2 (0+1+1+1)=true from rfl,fp,show fZ [x,y,z] 0 2=[x,y]from rfl,show rd [x,y,z] 2=some z from rfl];simp only[zG];by_cases h1:x=239∧y=188
  ·rw[show decide ([x,y]=[239,188])=true from zB (by rw[h1.1,h1.2]),zC];by_cases h2:144≤z
   ·rw[zB h2,zC];by_cases h5:z≤153
    ·rw[zB h5,zC,zE (by omega)]
     have:IntKind.u8.wrap ((IntKind.u8.wrap (48+z))-144)=z-96:=by
      show((48+z) % 256-144) % 256=z-96;omega
     rw[this];rfl
    ·rw[zA h5,zD,zF (by omega)];rfl
   ·rw[zA h2,zD,zF (by omega)];rfl
  ·rw[show decide ([x,y]=[239,188])=false from zA (by simpa using h1),zD,zF (by omega)];rfl
def vw (k:Nat)(T:List (Nat×Int)):Prop:= ∀p x r,T=(p,x)::r→cP x≠k
theorem xh (l:List Int)(i:Nat):(l.drop i).getD 0 0=l.getD i 0:=by
 rw[aN,aN,bW,bQ]
theorem Jm {l:List Int}{x:Int}(h:l.getD 0 0=x)(hx:97≤x∧x≤122):eW l=(1,x):=by
 unfold eW rH;rw[h];exact cz (by omega) (qP (by unfold Pl;omega) rfl)
theorem vc {l:List Int}(h: ¬(97≤l.getD 0 0∧l.getD 0 0≤122)):cP (eW l).2≠2:=by
 have key: ¬(97≤(eW l).2∧(eW l).2≤122):=by
  unfold eW rH;generalize l.getD 0 0=a at h;generalize l.getD 1 0=b;generalize l.getD 2 0=c
  repeat' split
  all_goals first|(simp only;omega)
 intro h2;apply key;unfold cP at h2;by_cases h3:97≤(eW l).2∧(eW l).2≤122
 ·exact h3
 ·exfalso;revert h2
  repeat' split
  all_goals first|omega|(intro h;exact absurd h (by decide))
theorem Hh {x:Int}:cP x=3↔48≤x∧x≤57:=by
 unfold cP;constructor
 ·intro h;revert h
  repeat' split
  all_goals first|(intro _;assumption)|(intro h;exact absurd h (by decide))
 ·intro h;exact cz (by omega) (cz (by omega) (cz (by omega) (qP h rfl)))
theorem Ib {p:Nat}{x:Int}{r:List (Nat×Int)}{d:List Sg}{at' N:Int}{t:List Int}(hx:97≤x∧x≤122):spec ((p,x)::r) d (some (1,at',t,N))=spec r d (some (1,at',t++[x],N)):=by
 rw[dh,show cP x=2 from cz (by omega) (cz (by omega) (qP hx rfl))];rfl
theorem Dn {p:Nat}{x:Int}{r:List (Nat×Int)}{d:List Sg}{at' N:Int}{t:List Int}(hx:48≤x∧x≤57):spec ((p,x)::r) d (some (2,at',t,N))=if(18446744073709551615-(x-48)) / 10<N then(at',2,[])else spec r d (some (2,at',kY (10*N+(x-48)).toNat,10*N+(x-48))):=by
 rw[dh,Hh.2 hx];rfl
theorem Dm {T:List (Nat×Int)}{d:List Sg}{y:Sg}(h:(y.1=1∧vw 2 T)∨(y.1=2∧vw 3 T)):spec T d (some y)=spec T (d++[y]) none:=by
 cases T with
 |nil=>rw[rL,rL];simp
 |cons q r=>
  obtain⟨p,x⟩:=q;rw[dh,dh];have hk: ∀k:Int,y.1≠k→cur k p d (some y)=cur k p (d++[y]) none:=fun k hk=>by simp[cur,hk]
  have e:d++(some y).toList=d++[y]++(none:Option Sg).toList:=by simp
  rw[e];split
  ·rfl
  ·rfl
  ·rename_i h2;rcases h with⟨h1,h3⟩|⟨h1,h3⟩
   ·exact absurd h2 (h3 p x r rfl)
   ·rw[hk 1 (by omega)]
  ·rename_i h2;rcases h with⟨h1,h3⟩|⟨h1,h3⟩
   ·rw[hk 2 (by omega)]
   ·exact absurd h2 (h3 p x r rfl)
  ·rfl
  ·rfl
theorem BA {l:List Int}{i:Nat}(hi:i<l.length):tk (l.drop i) i=(i,(eW (l.drop i)).2)::tk (l.drop (i+(eW (l.drop i)).1)) (i+(eW (l.drop i)).1):=by
 have hne:l.drop i≠[]:=fun e=>by
  have:=congrArg aI e;rw[aD]at this;simp at this;omega
 rw[Bz hne,bG]
theorem Nv {l:List Int}{i:Nat}(hi:i<l.length):1≤(eW (l.drop i)).1∧i+(eW (l.drop i)).1≤l.length:=by
 have hne:l.drop i≠[]:=fun e=>by
  have:=congrArg aI e;rw[aD]at this;simp at this;omega
 have:=Jl hne;rw[aD]at this;exact⟨vT _,by omega⟩
theorem AI {l:List Int}{k:Nat}:vw k (tk (l.drop l.length) l.length):=fun p x r h=>by
 rw[aW,Ds]at h;cases h
theorem CW {l:List Int}{k i:Nat}(hi:i<l.length)(h:cP (eW (l.drop i)).2≠k):vw k (tk (l.drop i) i):=fun p x r e=>by
 rw[BA hi]at e;injection e with e _
 injection e with _ e
 rw[←e];exact h
theorem J6 {l:List Int}(hl:l.length≤100000)(at':Int): ∀(n m i:Nat) (txt:List Int),l.length-i<n→n≤m→i≤l.length→txt.length≤i→
  ∃(e:Int×Int×List Int) (j:Nat) (txt':List Int),aw (du l) m ((i:Int),at',txt)=some e∧e=((j:Int),at',txt')∧i≤j∧j≤l.length∧txt'.length≤j∧vw 2 (tk (l.drop j) j)∧
   (97≤l.getD i 0∧l.getD i 0≤122∧i<l.length→i<j)∧
   ∀d N,spec (tk (l.drop i) i) d (some (1,at',txt,N))=spec (tk (l.drop j) j) d (some (1,at',txt',N))
 |0,_,_,_,h,_,_,_=>by omega
 |n+1,m,i,txt,h,hm,hi,ht=>by
  obtain⟨m,rfl⟩: ∃m',m=m'+1:=⟨m-1,by omega⟩
  rw[cf];by_cases hlt:i<l.length
  ·have hx:l.getD i 0=l.getD i 0:=rfl;by_cases hlet:97≤l.getD i 0∧l.getD i 0≤122
   ·have hs:=Jm (xh l i) hlet
    have e1:du l ((i:Int),at',txt)=some (.inl (((i+1:Nat):Int),at',txt++[l.getD i 0])):=by
     unfold du;simp only;rw[zB (show(i:Int)<(l.length:Int)by omega),zC,Bw hlt];simp only[zG];rw[zB hlet.1,zC,zB hlet.2,zC];have c1:=ze l i 1 (by omega);have w1:zH zI ((i:Int)+1)=((i+1:Nat):Int):=by rw[cR (by omega)];omega
     have c1:fZ l (i:Int) ((i+1:Nat):Int)=(l.drop i).take 1:=by rw[←w1];exact c1
     rw[w1,c1,kV (by omega),fp]
     have:(l.drop i).take 1=[l.getD i 0]:=by
      rw[bA hlt,bP,List.take_zero,aN,aY hlt];rfl
     rw[this,py (by simp;omega)]
    obtain⟨e,j,txt',g1,g2,g3,g4,g5,g6,_,g8⟩:=J6 hl at' n m (i+1) (txt++[l.getD i 0]) (by omega) (by omega) (by omega) (by simp;omega);refine⟨e,j,txt', ?_,g2,by omega,g4,g5,g6,fun _=>by omega,fun d N=> ?_⟩
    ·rw[e1];exact g1
    ·rw[BA hlt,hs];simp only;rw[Ib hlet];exact g8 d N
   ·have hs:=vc (l:=l.drop i) (by rw[xh];exact hlet)
    have e1: ∃e,du l ((i:Int),at',txt)=some (.inr e)∧e=((i:Int),at',txt):=by
     unfold du;simp only;rw[zB (show(i:Int)<(l.length:Int)by omega),zC,Bw hlt];simp only[zG];by_cases h1:97≤l.getD i 0
     ·rw[zB h1,zC,show decide (l.getD i 0≤122)=false from zA (by omega),zD];exact⟨_,rfl,rfl⟩
     ·rw[zA h1,zD];exact⟨_,rfl,rfl⟩
    obtain⟨e,h1,h2⟩:=e1;refine⟨e,i,txt, ?_,h2,aE _,hi,ht,CW hlt hs,fun h=>absurd ⟨h.1,h.2.1⟩ hlet,fun d N=>rfl⟩;rw[h1];rfl
  ·have:i=l.length:=by omega
   subst this;refine⟨(((l.length:Nat):Int),at',txt),l.length,txt, ?_,rfl,aE _,hi,ht,AI,fun h=>absurd h.2.2 (Nat.lt_irrefl _),fun d N=>rfl⟩;unfold du;simp only;rw[zA (show¬((l.length:Nat):Int)<(l.length:Int)by omega),zD];rfl
abbrev Tq :=(Int×Int×(List Int)×Int)⊕(Int×Int×(List Int)×Int)
def pD (u:Int×Int×(List Int)×Int):Int×Int×Int:=(u.1,u.2.1,u.2.2.2)
theorem Uh {c:Int}(h:48≤c∧c≤57):zH zJ (IntKind.u8.wrap (c-48))=c-48:=by
 show((c-48) % 256) % 18446744073709551616=c-48;omega
theorem RL {l:List Int}(hb:cI l)(hl:l.length≤100000)(at':Int): ∀(n m i:Nat) (N:Int) (t:List Int),l.length-i<n→n+1≤m→i<l.length→48≤(eW (l.drop i)).2∧(eW (l.drop i)).2≤57→0≤N∧N≤18446744073709551615→
  (∃e,aw (cH l) m ((eW (l.drop i)).2,(i:Int),((eW (l.drop i)).1:Int),at',[],N)=some (.inl e)∧e.1=at'∧∀d,spec (tk (l.drop i) i) d (some (2,at',t,N))=(at',2,[]))∨
  (∃(e:Int×Int×(List Int)×Int) (j:Nat) (N':Int),aw (cH l) m ((eW (l.drop i)).2,(i:Int),((eW (l.drop i)).1:Int),at',[],N)=some (.inr e)∧pD e=((j:Int),at',N')∧i<j∧j≤l.length∧(0≤N'∧N'≤18446744073709551615)∧vw 3 (tk (l.drop j) j)∧
   ∀d,spec (tk (l.drop i) i) d (some (2,at',t,N))=spec (tk (l.drop j) j) d (some (2,at',kY N'.toNat,N')))
 |0,_,_,_,_,h,_,_,_,_=>by omega
 |n+1,m,i,N,t,h,hm,hi,hc,hN=>by
  obtain⟨m,rfl⟩: ∃m',m=m'+1:=⟨m-1,by omega⟩
  rw[cf];obtain⟨s1,s2⟩:=Nv hi;have hT:=BA hi;generalize hsg:eW (l.drop i)=s at hc s1 s2 hT;obtain⟨w,c⟩:=s;simp only at hc s1 s2 hT⊢;rw[hT]
  have hstep:(if(18446744073709551615-(c-48)) / 10<N then∃e,cH l (c,(i:Int),(w:Int),at',[],N)=some (.inr (.inl e))∧e.1=at'
   else∃w',cH l (c,(i:Int),(w:Int),at',[],N)=some (.inl ((if i+w<l.length then(eW (l.drop (i+w))).2 else 0),((i+w:Nat):Int),w',at',[],10*N+(c-48)))∧(i+w<l.length→w'=((eW (l.drop (i+w))).1:Int))):=by
   unfold cH;simp only;rw[zB hc.1,zC,zB hc.2,zC,Uh hc];have wi:zH zI ((i:Int)+(w:Int))=((i+w:Nat):Int):=by rw[cR (by omega)];omega
   rw[wi]
   have go: ∀{β:Type} (F:Int×Int×Int×Int×List Int×Int→Option β),¬(18446744073709551615-(c-48)) / 10<N→∃w',(cond (decide (((i+w:Nat):Int)<((l.length:Nat):Int))) ((iz l ((i+w:Nat):Int)).bind fun r=>F (r.2,((i+w:Nat):Int),r.1,at',[],zH zJ ((zH zJ (10*N))+(c-48)))) (F (0,((i+w:Nat):Int),(w:Int),at',[],zH zJ ((zH zJ (10*N))+(c-48)))))=F ((if i+w<l.length then(eW (l.drop (i+w))).2 else 0),((i+w:Nat):Int),w',at',[],10*N+(c-48))∧(i+w<l.length→w'=((eW (l.drop (i+w))).1:Int)):=by
    intro β F hbig
    have hn:zH zJ ((zH zJ (10*N))+(c-48))=10*N+(c-48):=by
     rw[jo (n:=10*N) (by omega),jo (n:=10*N+(c-48)) (by omega)]
    rw[hn];by_cases hj:i+w<l.length
    ·rw[zB (show((i+w:Nat):Int)<((l.length:Nat):Int)by omega),zC,HR hb hl hj,zE hj];exact⟨_,rfl,fun _=>rfl⟩
    ·rw[zA (show¬((i+w:Nat):Int)<((l.length:Nat):Int)by omega),zD,zF hj];exact⟨_,rfl,fun h=>absurd h hj⟩
   by_cases h1:1844674407370955161<N
   ·rw[zB h1,zC,zE (by omega)];exact⟨_,rfl,rfl⟩
   ·rw[zA h1,zD];by_cases h2:N=1844674407370955161
    ·rw[zB h2,zC];by_cases h3:5<c-48
     ·rw[zB h3,zC,zE (by omega)];exact⟨_,rfl,rfl⟩
     ·rw[zA h3,zD,zF (by omega)];simp only[zG,db];obtain⟨w',g1,g2⟩:=go (fun z=>(some (.inl z):Option ((Int×Int×Int×Int×(List Int)×Int)⊕Tq))) (by omega);exact⟨w',g1,g2⟩
    ·rw[zA h2,zD,zF (by omega)];simp only[zG,db];obtain⟨w',g1,g2⟩:=go (fun z=>(some (.inl z):Option ((Int×Int×Int×Int×(List Int)×Int)⊕Tq))) (by omega);exact⟨w',g1,g2⟩
  by_cases hbig:(18446744073709551615-(c-48)) / 10<N
  ·rw[zE hbig]at hstep;obtain⟨e,g1,g2⟩:=hstep;left;refine⟨e,by rw[g1];rfl,g2,fun d=> ?_⟩;rw[Dn hc,zE hbig]
  ·rw[zF hbig]at hstep;obtain⟨w',g1,g2⟩:=hstep;rw[g1];simp only[zG,mj];have hN':0≤10*N+(c-48)∧10*N+(c-48)≤18446744073709551615:=by omega
   have hsp: ∀d,spec ((i,c)::tk (l.drop (i+w)) (i+w)) d (some (2,at',t,N))=spec (tk (l.drop (i+w)) (i+w)) d (some (2,at',kY (10*N+(c-48)).toNat,10*N+(c-48))):=fun d=>by rw[Dn hc,zF hbig]
   by_cases hj:i+w<l.length
   ·rw[zE hj,g2 hj];by_cases hc2:48≤(eW (l.drop (i+w))).2∧(eW (l.drop (i+w))).2≤57
    ·rcases RL hb hl at' n m (i+w) (10*N+(c-48)) (kY (10*N+(c-48)).toNat) (by omega) (by omega) hj hc2 hN' with⟨e,k1,k2,k3⟩|⟨e,j,N',k1,k2,k3,k4,k5,k6,k7⟩
     ·exact .inl ⟨e,k1,k2,fun d=>by rw[hsp,k3]⟩
     ·exact .inr ⟨e,j,N',k1,k2,by omega,k4,k5,k6,fun d=>by rw[hsp,k7]⟩
    ·right;obtain⟨m,rfl⟩: ∃m',m=m'+1:=⟨m-1,by omega⟩
     rw[cf]
     have: ∃e,cH l ((eW (l.drop (i+w))).2,((i+w:Nat):Int),((eW (l.drop (i+w))).1:Int),at',[],10*N+(c-48))=some (.inr (.inr e))∧pD e=(((i+w:Nat):Int),at',10*N+(c-48)):=by
      unfold cH;simp only;by_cases h4:48≤(eW (l.drop (i+w))).2
      ·rw[zB h4,zC,show decide ((eW (l.drop (i+w))).2≤57)=false from zA (by omega),zD];exact⟨_,rfl,rfl⟩
      ·rw[zA h4,zD];exact⟨_,rfl,rfl⟩
     obtain⟨e,k1,k2⟩:=this;exact⟨e,i+w,_,by rw[k1];rfl,k2,by omega,by omega,hN',CW hj fun h=>hc2 (Hh.1 h),hsp⟩
   ·rw[zF hj];have he:i+w=l.length:=by omega
    right;obtain⟨m,rfl⟩: ∃m',m=m'+1:=⟨m-1,by omega⟩
    rw[cf];refine⟨(((i+w:Nat):Int),at',[],10*N+(c-48)),i+w,_, ?_,rfl,by omega,by omega,hN',by rw[he];exact AI,hsp⟩;unfold cH;rfl
abbrev TV :=(Int×Int×List Sg)⊕(List Sg)
def HI (r:TV):Option (Int×Int×List Sg):=bt r (fun u=>some (u.1,u.2.1,u.2.2)) fun w=>some (0,0,w)
theorem Nh (l:List Int):ed l=(aw (cS l) di (0,[])).bind HI:=rfl
theorem RH {x:Int}(h:cP x=0):x=35:=by
 unfold cP at h;revert h
 repeat' split
 all_goals first|(intro _;assumption)|(intro h;exact absurd h (by decide))
theorem RI {x:Int}(h:cP x=1):x=32:=by
 unfold cP at h;revert h
 repeat' split
 all_goals first|(intro _;assumption)|(intro h;exact absurd h (by decide))
theorem P7 {x:Int}(h:cP x=2):97≤x∧x≤122:=by
 unfold cP at h;revert h
 repeat' split
 all_goals first|(intro _;assumption)|(intro h;exact absurd h (by decide))
theorem RJ {x:Int}(h:cP x=4):x=63:=by
 unfold cP at h;revert h
 repeat' split
 all_goals first|(intro _;assumption)|(intro h;exact absurd h (by decide))
theorem MA (x:Int):cP x<6:=by
 unfold cP
 repeat' split
 all_goals decide
theorem P8 {x:Int}(h:cP x=5):x≠35∧x≠32∧¬(97≤x∧x≤122)∧¬(48≤x∧x≤57)∧x≠63:=by
 unfold cP at h;revert h
 repeat' split
 all_goals first|(intro h;exact absurd h (by decide))|(intro _;refine⟨?_, ?_, ?_, ?_, ?_⟩<;>assumption)
theorem Nu {l:List Int}(hb:cI l):0≤(eW l).2∧(eW l).2≤255:=by
 have h0:=hb.getD 0;have h2:=hb.getD 2;unfold eW rH;generalize l.getD 0 0=a at h0;generalize l.getD 1 0=b;generalize l.getD 2 0=c at h2
 repeat' split
 all_goals first|(simp only;omega)
theorem KE {x:Int}(h:0≤x∧x≤255):aU ji [x]=[x]:=ri [x] fun n hn=>by rw[aQ]at hn;rw[hn];exact h
theorem Rz (a b:Bool):(cond a (some b) (some false))=some (a&&b):=by cases a<;>rfl
theorem Ni {l:List Int}(hb:cI l)(hl:l.length≤100000){i:Nat}{out:List Sg}(hi:i<l.length)(ho:out.length≤i):
  (∃e,cS l ((i:Int),out)=some (.inr e)∧HI e=some (spec (tk (l.drop i) i) out none))∨
  (∃(j:Nat) (out':List Sg),cS l ((i:Int),out)=some (.inl ((j:Int),out'))∧i<j∧j≤l.length∧out'.length≤j∧spec (tk (l.drop j) j) out' none=spec (tk (l.drop i) i) out none):=by
 obtain⟨s1,s2⟩:=Nv hi;have hT:=BA hi;have hby:=Nu (hb.drop i);have wi:zH zI ((i:Int)+((eW (l.drop i)).1:Int))=((i+(eW (l.drop i)).1:Nat):Int):=by rw[cR (by omega)];omega
 have kc:cP (eW (l.drop i)).2=0∨cP (eW (l.drop i)).2=1∨cP (eW (l.drop i)).2=2∨cP (eW (l.drop i)).2=3∨cP (eW (l.drop i)).2=4∨cP (eW (l.drop i)).2=5:=by have:=MA (eW (l.drop i)).2;omega
 have hfit: ∀{β:Type} (x:Option β),gd (cG (out.length+1) 40) x=x:=fun x=>fO (by omega) (by omega)
 unfold cS;simp only;rw[zB (show(i:Int)<(l.length:Int)by omega),zC,HR hb hl hi];simp only[zG,QP];rcases kc with k|k|k|k|k|k
 ·left;rw[zB (RH k),zC,hT,dh,k];exact⟨_,rfl,by simp[HI,bt]⟩
 ·right;have hc:=RI k;rw[show decide ((eW (l.drop i)).2=35)=false from zA (by omega),zD,show decide ((eW (l.drop i)).2=63)=false from zA (by omega),zD,zB hc,zC];simp only[zG,mj];rw[wi];refine⟨_,out,rfl,by omega,s2,by omega, ?_⟩;rw[hT,dh,k];simp
 ·right;have hc:=P7 k;rw[show decide ((eW (l.drop i)).2=35)=false from zA (by omega),zD,show decide ((eW (l.drop i)).2=63)=false from zA (by omega),zD,show decide ((eW (l.drop i)).2=32)=false from zA (by omega),zD];rw[zB hc.1,zC];simp only[zG];rw[zB hc.2,zC]
  have hlet:97≤l.getD i 0∧l.getD i 0≤122:=by
   by_cases h:97≤(l.drop i).getD 0 0∧(l.drop i).getD 0 0≤122
   ·rwa [xh]at h
   ·exact absurd k (vc h)
  obtain⟨e,j,txt',g1,g2,g3,g4,g5,g6,g7,g8⟩:=J6 hl (i:Int) (l.length+1) di i [] (by omega) (by unfold di;omega) (by omega) (by simp);rw[g1];simp only[zG];have hij:i<j:=g7 ⟨hlet.1,hlet.2,hi⟩;refine⟨j,out++[(1,(i:Int),txt',0)], ?_,hij,g4,by simp;omega, ?_⟩
  ·subst g2;simp only[mj,db];exact hfit _
  ·rw[←Dm (.inl ⟨rfl,g6⟩),←g8 out 0];rw[hT]
   have: ∀r,spec ((i,(eW (l.drop i)).2)::r) out (some (1,(i:Int),[],0))=spec ((i,(eW (l.drop i)).2)::r) out none:=fun r=>by
    rw[dh,dh,k];rfl
   rw[this]
 ·have hc:=Hh.1 k;rw[show decide ((eW (l.drop i)).2=35)=false from zA (by omega),zD,show decide ((eW (l.drop i)).2=63)=false from zA (by omega),zD,show decide ((eW (l.drop i)).2=32)=false from zA (by omega),zD];rw[show decide (97≤(eW (l.drop i)).2)=false from zA (by omega),zD];simp only[zG,zD];rw[zB hc.1,zC];simp only[zG];rw[zB hc.2,zC]
  have first: ∀r,spec ((i,(eW (l.drop i)).2)::r) out (some (2,(i:Int),[],0))=spec ((i,(eW (l.drop i)).2)::r) out none:=fun r=>by
   rw[dh,dh,k];rfl
  rcases RL hb hl (i:Int) (l.length+1) di i 0 [] (by omega) (by unfold di;omega) hi hc (by omega)with⟨e,k1,k2,k3⟩|⟨e,j,N',k1,k2,k3,k4,k5,k6,k7⟩
  ·left;rw[k1];simp only[zG,mj,db];refine⟨_,rfl, ?_⟩;have:=k3 out;rw[hT,first]at this;rw[hT,this];show some (e.1,2,[])=_;rw[k2]
  ·right;rw[k1];simp only[zG,db];refine⟨j,out++[(2,(i:Int),kY N'.toNat,N')], ?_,k3,k4,by simp;omega, ?_⟩
   ·have hx:=Ph N'.toNat (by omega);rw[show((N'.toNat:Nat):Int)=N' by omega]at hx;simp only[pD,Prod.mk.injEq]at k2;obtain⟨q1,q2,q3⟩:=k2;simp only[mj,db,zG,q1,q2,q3,hx];exact hfit _
   ·rw[←Dm (.inr ⟨rfl,k6⟩)];have:=k7 out;rw[hT,first]at this;rw[hT,this]
 ·left;have hc:=RJ k;rw[show decide ((eW (l.drop i)).2=35)=false from zA (by omega),zD,zB hc,zC,hT,dh,k];exact⟨_,rfl,rfl⟩
 ·right;obtain⟨h1,h2,h3,h4,h5⟩:=P8 k;rw[zA h1,zD,zA h5,zD,zA h2,zD];refine⟨i+(eW (l.drop i)).1,out++[(3,(i:Int),[(eW (l.drop i)).2],0)], ?_,by omega,s2,by simp;omega, ?_⟩
  ·have e1:(cond (decide (97≤(eW (l.drop i)).2)) (some (decide ((eW (l.drop i)).2≤122))) (some false))=some false:=by
    rw[Rz,show(decide (97≤(eW (l.drop i)).2)&&decide ((eW (l.drop i)).2≤122))=false by simp;omega]
   have e2:(cond (decide (48≤(eW (l.drop i)).2)) (some (decide ((eW (l.drop i)).2≤57))) (some false))=some false:=by
    rw[Rz,show(decide (48≤(eW (l.drop i)).2)&&decide ((eW (l.drop i)).2≤57))=false by simp;omega]
   rw[e1,zG,zD,e2,zG,zD];simp only[zG,mj,db];rw[wi,KE hby];exact hfit _
  ·rw[hT,dh,k];simp
theorem HO {l:List Int}(hb:cI l)(hl:l.length≤100000): ∀(n m i:Nat) (out:List Sg),l.length-i<n→n≤m→i≤l.length→out.length≤i→
  (aw (cS l) m ((i:Int),out)).bind HI=some (spec (tk (l.drop i) i) out none)
 |0,_,_,_,h,_,_,_=>by omega
 |n+1,m,i,out,h,hm,hi,ho=>by
  obtain⟨m,rfl⟩: ∃m',m=m'+1:=⟨m-1,by omega⟩
  rw[cf];by_cases hlt:i<l.length
  ·rcases Ni hb hl hlt ho with⟨e,h1,h2⟩|⟨j,out',h1,h2,h3,h4,h5⟩
   ·rw[h1];exact h2
   ·rw[h1,←h5];exact HO hb hl n m j out' (by omega) (by omega) h3 h4
  ·have:i=l.length:=by omega
   subst this
   have e:cS l (((l.length:Nat):Int),out)=some (.inr (.inr out)):=by
    unfold cS;simp only;rw[zA (show¬((l.length:Nat):Int)<(l.length:Int)by omega),zD]
   rw[e,aW,Ds,rL];simp[HI,bt]
theorem EX {l:List Int}(hb:cI l)(hl:l.length≤100000):ed l=some (be l):=by
 rw[Nh];exact HO hb hl (l.length+1) di 0 [] (by omega) (by unfold di;omega) (by omega) (by simp)
theorem rK : ∀(T:List (Nat×Int)) (d:List Sg) (c:Option Sg),(spec T d c).2.2.length≤d.length+c.toList.length+T.length
 |[],d,c=>by rw[rL];simp
 |(p,x)::r,d,c=>by
  rw[dh]
  have hcur: ∀k,(cur k p d c).1.length≤d.length+c.toList.length∧((cur k p d c).1.length+1≤d.length+c.toList.length+1):=by
   intro k;rcases rj k p d c with⟨y,rfl,_,h⟩|⟨_,h⟩<;>rw[h]<;>simp
  have h1:=hcur 1;have h2:=hcur 2;split
  ·simp
  ·have:=rK r (d++c.toList) none;simp at this⊢;omega
  ·have:=rK r (cur 1 p d c).1 (some (1,(cur 1 p d c).2.2.1,(cur 1 p d c).2.2.2.1++[x],(cur 1 p d c).2.2.2.2));simp at this⊢;omega
  ·split
   ·simp
   ·have:=rK r (cur 2 p d c).1 (some (2,(cur 2 p d c).2.2.1,kY (10*(cur 2 p d c).2.2.2.2+(x-48)).toNat,10*(cur 2 p d c).2.2.2.2+(x-48)));simp at this⊢;omega
  ·simp
  ·have:=rK r (d++c.toList++[(3,(p:Int),[x],0)]) none;simp at this⊢;omega
theorem vd (l:List Int):(be l).2.2.length≤l.length:=by
 have:=rK (tk l 0) [] none;have h2:=JE l.length l 0 (aE _);simp at this;exact Nat.le_trans this h2
theorem cI.of {l:List Int}(h:Iv .str l):cI l:=h.2
def Mk (x:Int):Prop:=x=61∨x=43∨x=45∨x=42∨x=123∨x=125
theorem Nw (l:List Int)(h:cP (eW l).2=5):Mk (eW l).2:=by
 obtain⟨h1,h2,h3,h4,h5⟩:=P8 h;revert h1 h2 h3 h4 h5;unfold eW rH;generalize l.getD 0 0=a;generalize l.getD 1 0=b;generalize l.getD 2 0=c;unfold Mk;by_cases k1:a=9∨a=13∨a=32
 ·rw[zE k1];intro h1 h2;exact absurd rfl h2
 rw[zF k1];by_cases k2:Pl a
 ·rw[zE k2];unfold Pl at k2;intro h1 h2 h3 h4 h5;simp only at*;omega
 rw[zF k2]
 repeat' split
 all_goals first|(intro _ _ _ _ _;decide)|(intro h1 h2 h3 h4 h5;dsimp only at*;omega)
def tN (x:Sg):Prop:=
 (x.1=1∧x.2.2.1≠[]∧(∀b∈x.2.2.1,97≤b∧b≤122)∧x.2.2.2=0)∨
 (x.1=2∧(0≤x.2.2.2∧x.2.2.2≤18446744073709551615)∧x.2.2.1=kY x.2.2.2.toNat)∨
 (x.1=3∧(∃c,x.2.2.1=[c]∧Mk c)∧x.2.2.2=0)
def Qh (T:List (Nat×Int)):Prop:= ∀p x,(p,x)∈T→cP x=5→Mk x
theorem Qf : ∀(n:Nat) (l:List Int) (p:Nat),l.length≤n→Qh (tk l p)
 |0,l,p,h=>by
  have:l=[]:=List.length_eq_zero_iff.1 (by omega);subst this;intro q x hx;cases hx
 |n+1,l,p,h=>by
  by_cases hl:l=[]
  ·subst hl;intro q x hx;cases hx
  ·rw[Bz hl];have h3:=vT l;intro q x hx hk;rcases List.mem_cons.1 hx with e|hx
   ·injection e with e1 e2
    subst e2;exact Nw l hk
   ·exact Qf n _ _ (by rw[aD];omega) q x hx hk
theorem rJ : ∀(T:List (Nat×Int)) (d:List Sg) (c:Option Sg),Qh T→(∀x∈d,tN x)→(∀y,c=some y→tN y∧y.1≠3)→∀x∈(spec T d c).2.2,tN x
 |[],d,c,hT,hd,hc=>by
  rw[rL];intro x hx;rcases List.mem_append.1 hx with h|h
  ·exact hd x h
  ·cases c with
   |none=>cases h
   |some y=>rw[aO,aQ]at h;rw[h];exact(hc y rfl).1
 |(p,x)::r,d,c,hT,hd,hc=>by
  have hr:Qh r:=fun q z h=>hT q z (bL _ h)
  have hdc: ∀x∈d++c.toList,tN x:=by
   intro x hx;rcases List.mem_append.1 hx with h|h
   ·exact hd x h
   ·cases c with
    |none=>cases h
    |some y=>rw[aO,aQ]at h;rw[h];exact(hc y rfl).1
  have hcur: ∀k,(∀x∈(cur k p d c).1,tN x)∧((∃y,c=some y∧y.1=k∧(cur k p d c).2=y)∨(cur k p d c).2=(k,(p:Int),[],0)):=by
   intro k;rcases rj k p d c with⟨y,e,h1,h⟩|⟨_,h⟩
   ·rw[h];exact⟨hd, .inl ⟨y,e,h1,rfl⟩⟩
   ·rw[h];exact⟨hdc, .inr rfl⟩
  rw[dh];split
  ·exact hdc
  ·exact rJ r _ none hr hdc (fun y h=>by cases h)
  ·rename_i k2;have hx:=P7 k2;obtain⟨g1,g2⟩:=hcur 1;refine rJ r _ _ hr g1 (fun y h=> ?_);injection h with h
   subst h;refine⟨.inl ⟨rfl,by simp, ?_, ?_⟩,by simp⟩
   ·intro b hb;rcases List.mem_append.1 hb with hb|hb
    ·rcases g2 with⟨y,e,e1,e2⟩|e
     ·rw[e2]at hb;rcases(hc y e).1 with q|q|q
      ·exact q.2.2.1 b hb
      ·omega
      ·omega
     ·rw[e]at hb;cases hb
    ·rw[aQ]at hb;rw[hb];exact hx
   ·rcases g2 with⟨y,e,e1,e2⟩|e
    ·simp only[e2];rcases(hc y e).1 with q|q|q
     ·exact q.2.2.2
     ·omega
     ·omega
    ·simp only[e]
  ·rename_i k3;have hx:=Hh.1 k3;obtain⟨g1,g2⟩:=hcur 2;split
   ·intro x hx;cases hx
   ·rename_i hbig;refine rJ r _ _ hr g1 (fun y h=> ?_);injection h with h
    subst h
    have hN:0≤(cur 2 p d c).2.2.2.2∧(cur 2 p d c).2.2.2.2≤18446744073709551615:=by
     rcases g2 with⟨y,e,e1,e2⟩|e
     ·rw[e2];rcases(hc y e).1 with q|q|q
      ·omega
      ·exact q.2.1
      ·omega
     ·rw[e];simp
    exact⟨.inr (.inl ⟨rfl,by simp only;omega,rfl⟩),by simp⟩
  ·intro x hx;cases hx
  ·rename_i k0 k1 k2 k3 k4;refine rJ r _ none hr ?_ (fun y h=>by cases h);intro z hz;rcases List.mem_append.1 hz with h|h
   ·exact hdc z h
   ·rw[aQ]at h;subst h
    have hk:cP x=5:=by
     have:=MA x;have a0:cP x≠0:=fun e=>k0 e
     have a1:cP x≠1:=fun e=>k1 e
     have a2:cP x≠2:=fun e=>k2 e
     have a3:cP x≠3:=fun e=>k3 e
     have a4:cP x≠4:=fun e=>k4 e
     omega
    exact .inr (.inr ⟨rfl,⟨x,rfl,hT p x bM hk⟩,rfl⟩)
theorem oH (l:List Int): ∀x∈(be l).2.2,tN x:=rJ _ [] none (Qf _ l 0 (aE _)) (fun x h=>by cases h) (fun y h=>by cases h)
def nt (l:List Sg):Nat:=(l.map (·.2.2.1.length)).sum
theorem rO (a b:List Sg):nt (a++b)=nt a+nt b:=by unfold nt;rw[List.map_append,List.sum_append]
theorem yM (x:Sg):nt [x]=x.2.2.1.length:=by unfold nt;simp
theorem vg : ∀(T:List (Nat×Int)) (d:List Sg) (c:Option Sg),(∀y,c=some y→0≤y.2.2.2∧y.2.2.2≤18446744073709551615)→nt (spec T d c).2.2≤nt d+nt c.toList+20*T.length
 |[],d,c,_=>by rw[rL];simp only[rO];omega
 |(p,x)::r,d,c,hc=>by
  rw[dh]
  have hcur: ∀k,nt (cur k p d c).1+(cur k p d c).2.2.2.1.length≤nt d+nt c.toList∧nt (cur k p d c).1≤nt d+nt c.toList∧0≤(cur k p d c).2.2.2.2∧(cur k p d c).2.2.2.2≤18446744073709551615:=by
   intro k;rcases rj k p d c with⟨y,rfl,_,h⟩|⟨_,h⟩
   ·rw[h];have:=hc y rfl;simp only[aO,yM];omega
   ·rw[h];simp only[rO,bB];omega
  have h1:=hcur 1;have h2:=hcur 2;split
  ·simp only[rO,aJ];omega
  ·have:=vg r (d++c.toList) none (fun y h=>by cases h);rw[rO]at this;simp only[aJ];have e:nt (none:Option Sg).toList=0:=rfl;omega
  ·have:=vg r (cur 1 p d c).1 (some (1,(cur 1 p d c).2.2.1,(cur 1 p d c).2.2.2.1++[x],(cur 1 p d c).2.2.2.2)) (fun y h=>by injection h with h;subst h;exact h1.2.2);simp only[aO,yM,aP,bJ]at this;simp only[aJ];omega
  ·rename_i k3;have hx:=Hh.1 k3;split
   ·show nt []≤_;have:nt []=0:=rfl;omega
   ·have:=vg r (cur 2 p d c).1 (some (2,(cur 2 p d c).2.2.1,kY (10*(cur 2 p d c).2.2.2.2+(x-48)).toNat,10*(cur 2 p d c).2.2.2.2+(x-48))) (fun y h=>by injection h with h;subst h;simp only;omega);have hd:=sJ (n:=10*(cur 2 p d c).2.2.2.2+(x-48)) (by omega);simp only[aO,yM]at this;simp only[aJ];omega
  ·show nt []≤_;have:nt []=0:=rfl;omega
  ·have:=vg r (d++c.toList++[(3,(p:Int),[x],0)]) none (fun y h=>by cases h);rw[rO,rO,yM]at this;simp only[bJ]at this;simp only[aJ];have e:nt (none:Option Sg).toList=0:=rfl;omega
theorem H8 (l:List Int):nt (be l).2.2≤20*l.length:=by
 have:=vg (tk l 0) [] none (fun y h=>by cases h);have h2:=JE l.length l 0 (aE _);have e:nt ([]:List Sg)=0:=rfl;have e2:nt (none:Option Sg).toList=0:=rfl;unfold be;omega
theorem cI.app {a b:List Int}(h:cI a)(k:cI b):cI (a++b):=fun n hn=>(List.mem_append.1 hn).elim (h n) (k n)
theorem od {i:Nat}(h:i<9223372036854775807):zH zI ((i:Int)+1)=((i+1:Nat):Int):=by rw[cR (by omega)];omega
theorem Lj {n a b c d:Nat}(hn:1≤n)(ha:a≤255):1≤(lm n a b c d).2∧(lm n a b c d).2≤n∧(lm n a b c d).2≤4∧((lm n a b c d).1=10→a=10∧(lm n a b c d).2=1)∧((lm n a b c d).1≠10→a≠10∧(1<(lm n a b c d).2→b≠10)∧(2<(lm n a b c d).2→c≠10)∧(3<(lm n a b c d).2→d≠10)):=by
 suffices h: ∀r,lm n a b c d=r→(1≤r.2∧r.2≤n∧r.2≤4∧(r.1=10→a=10∧r.2=1)∧(r.1≠10→a≠10∧(1<r.2→b≠10)∧(2<r.2→c≠10)∧(3<r.2→d≠10)))from h _ rfl
 intro r hr;unfold lm at hr
 repeat' split at hr
 all_goals (subst hr;refine⟨?_, ?_, ?_,fun h=>⟨?_, ?_⟩,fun h=>⟨?_,fun _=> ?_,fun _=> ?_,fun _=> ?_⟩⟩<;>simp only at* <;>omega)
theorem Pr {l:List Int}(hb:cI l)(p:Nat): ∃b:Nat→Nat,(∀k,b k≤255∧((b k:Nat):Int)=l.getD (p+k) 0)∧tA l p=lm (l.length-p) (b 0) (b 1) (b 2) (b 3):=
 ⟨fun k=>(l.getD (p+k) 0).toNat,fun k=>by have:=hb.getD (p+k);simp only;omega,HZ l p⟩
theorem Pt {l:List Int}(hb:cI l){p:Nat}(hp:p<l.length): ∃w:Nat,1≤w∧p+w≤l.length∧gf l (p:Int)=((p+w:Nat):Int)∧(tA l p).2=w∧
  (fL l (p:Int)=10→l.getD p 0=10∧w=1)∧(fL l (p:Int)≠10→∀x∈(l.drop p).take w,x≠10):=by
 obtain⟨b,h1,h2⟩:=Pr hb p;have h3:=Lj (n:=l.length-p) (a:=b 0) (b:=b 1) (c:=b 2) (d:=b 3) (by omega) (h1 0).1;rw[←h2]at h3;obtain⟨k1,k2,k3,k4,k5⟩:=h3;have c0:=(h1 0).2;rw[bQ]at c0;refine⟨(tA l p).2,k1,by omega, ?_,rfl,fun h=> ?_,fun h x hx=> ?_⟩
 ·unfold gf;rw[aC]
 ·unfold fL at h;rw[aC]at h;have:=k4 (by omega);exact⟨by omega,this.2⟩
 ·unfold fL at h;rw[aC]at h;obtain⟨m1,m2,m3,m4⟩:=k5 (by omega);obtain⟨i,hi,e⟩:=List.mem_iff_getElem.1 hx;rw[bK,aD]at hi;rw[List.getElem_take,List.getElem_drop]at e;have hg:l.getD (p+i) 0=x:=by rw[aN,aY (by omega)];exact e
  have hi4:i=0∨i=1∨i=2∨i=3:=by omega
  rcases hi4 with rfl|rfl|rfl|rfl
  ·have:=(h1 0).2;omega
  ·have:=(h1 1).2;have:=m2 (by omega);omega
  ·have:=(h1 2).2;have:=m3 (by omega);omega
  ·have:=(h1 3).2;have:=m4 (by omega);omega
def gK :List Int→List Int→List (List Int)
 |[],cur=>if cur=[]then []else [cur]
 |x::l,cur=>if x=10 then cur::gK l []else gK l (cur++[x])
theorem ng : ∀(u l cur:List Int),(∀x∈u,x≠10)→gK (u++l) cur=gK l (cur++u)
 |[],l,cur,_=>by rw[List.append_nil];rfl
 |x::u,l,cur,h=>by
  show(if x=10 then cur::gK (u++l) []else gK (u++l) (cur++[x]))=_;rw[zF (h x bM),ng u l _ fun y hy=>h y (bL _ hy),aK];rfl
theorem vI (l cur:List Int):gK (10::l) cur=cur::gK l []:=by
 show(if(10:Int)=10 then _ else _)=_;rw[zE rfl]
theorem P4 {l:List Int}{i:Nat}(h:i<l.length):l.drop i=l.getD i 0::l.drop (i+1):=by
 rw[bA h,aN,aY h];rfl
theorem EW {l:List Int}(hb:cI l)(hl:l.length≤100000):i7 l=some (gK l []):=by
 unfold i7
 obtain⟨r,h1,h2,h3,h4,h5⟩:=rA (f:=lP l) (a:=(0,false,[],[]))
  (fun s=> ∃i:Nat,s.1=(i:Int)∧i≤l.length∧s.2.1=decide (s.2.2.1≠[])∧s.2.2.2++gK (l.drop i) s.2.2.1=gK l []∧s.2.2.2.length≤i∧s.2.2.1.length≤i∧cI s.2.2.1) (fun s=>l.length-s.1.toNat)
  (fun r=>r.1=decide (r.2.2≠[])∧r.2.1++gK [] r.2.2=gK l []∧r.2.1.length≤l.length∧cI r.2.2)
  ⟨0,rfl,bS _,rfl,rfl,aE _,aE _,fun n hn=>by cases hn⟩ (by simp;omega) (fun s ⟨i,e,hi,ho,hs,hol,hll,hbb⟩=>by
   obtain⟨s1,op,line,out⟩:=s;simp only at e ho hs hol hll hbb;subst e;unfold lP;simp only;by_cases hlt:i<l.length
   ·left;rw[zB (show(i:Int)<((l.length:Nat):Int)by omega),zC,Bw hlt];simp only[zG];rw[od (by omega)];rw[P4 hlt]at hs;by_cases h10:l.getD i 0=10
    ·rw[zA (fun h=>h h10),zD,fO (by omega) (by omega)];rw[h10,vI]at hs;refine⟨_,rfl,⟨i+1,rfl,hlt,rfl, ?_, ?_,bS _,fun n hn=>by cases hn⟩,by simp;omega⟩
     ·simp only;rw[ri line hbb,aK];exact hs
     ·simp;omega
    ·rw[zB h10,zC,fO (by omega) (by omega)];refine⟨_,rfl,⟨i+1,rfl,hlt, ?_, ?_,by simp only;omega,by simp;omega, ?_⟩,by simp;omega⟩
     ·simp
     ·simp only;rw[←hs];have:=ng [l.getD i 0] (l.drop (i+1)) line (fun x hx=>by rw[aQ]at hx;rw[hx];exact h10);rw[List.singleton_append]at this;rw[this]
     ·refine cI.app hbb fun n hn=> ?_
      rw[aQ]at hn;have:=hb.getD i;omega
   ·right;have:i=l.length:=by omega
    subst this;rw[zA (show¬((l.length:Nat):Int)<((l.length:Nat):Int)by omega),zD];rw[aW]at hs
    exact⟨_,rfl,ho,hs,by simp only;omega,hbb⟩)
 rw[h1];obtain⟨r1,r2,r3⟩:=r;simp only at h2 h3 h4 h5;simp only[zG];rw[h2,←h3];by_cases h0:r3=[]
 ·subst h0;simp[gK]
 ·rw[zB h0,zC,fO (by omega) (by omega),ri r3 h5];simp[gK,h0]
theorem G1 (l:List Int)(a b:Nat):fZ l (a:Int) (b:Int)=(l.take b).drop a:=by
 unfold fZ;rw[aC,aC]
theorem ve {l:List Int}(hb:cI l)(hl:l.length≤100000):dw l=some (gK l []):=by
 unfold dw
 obtain⟨r,h1,f,h2,h3,h4,h5⟩:=rA (f:=lQ l) (a:=(0,0,[]))
  (fun s=> ∃f p:Nat,s.1=(f:Int)∧s.2.1=(p:Int)∧f≤p∧p≤l.length∧s.2.2++gK (l.drop p) ((l.take p).drop f)=gK l []∧s.2.2.length≤p) (fun s=>l.length-s.2.1.toNat)
  (fun r=> ∃f:Nat,r.1=(f:Int)∧f≤l.length∧r.2.2++gK [] (l.drop f)=gK l []∧r.2.2.length≤l.length)
  ⟨0,0,rfl,rfl,aE _,bS _,rfl,aE _⟩ (by simp;omega) (fun s ⟨f,p,e1,e2,hf,hp,hs,ho⟩=>by
   obtain⟨s1,s2,out⟩:=s;simp only at e1 e2 hs ho;subst e1;subst e2;unfold lQ;simp only
   have hgd: ∀{β:Type} (x:Option β),gd (decide ((0:Int)≤(p:Int))&&aR 1 1) x=x:=fun x=>by
    rw[zB (by omega)];rfl
   rw[hgd];by_cases hlt:p<l.length
   ·left;rw[zB (show(p:Int)<((l.length:Nat):Int)by omega),zC];obtain⟨w,w1,w2,w3,_,w4,w5⟩:=Pt hb hlt;rw[w3];by_cases h10:fL l (p:Int)=10
    ·obtain⟨g1,rfl⟩:=w4 h10;rw[zB h10,zC,kV (by omega),fp,fO (by omega) (by omega),od (by omega),G1];rw[P4 hlt,g1,vI]at hs;refine⟨_,rfl,⟨p+1,p+1,rfl,rfl,aE _,hlt, ?_,by simp;omega⟩,by simp;omega⟩;simp only;rw[aK,show aT (p+1) (aV (p+1) l)=[]from bU (by rw[bK];omega),aX];rw[aX]at hs;exact hs
    ·rw[zA h10,zD];refine⟨_,rfl,⟨f,p+w,rfl,rfl,by omega,w2, ?_,by simp only;omega⟩,by simp;omega⟩;simp only;rw[←hs];have:=ng ((l.drop p).take w) (l.drop (p+w)) ((l.take p).drop f) (w5 h10)
     have e:l.drop p=(l.drop p).take w++l.drop (p+w):=by
      rw[←bG,List.take_append_drop]
     rw[←e]at this;rw[this]
     congr 2
     have e2:l.take (p+w)=l.take p++(l.drop p).take w:=List.take_add;rw[e2,List.drop_append_of_le_length (by rw[bK];omega)]
   ·right;have:p=l.length:=by omega
    subst this;rw[zA (show¬((l.length:Nat):Int)<((l.length:Nat):Int)by omega),zD];rw[aW,bX]at hs
    exact⟨_,rfl,f,rfl,hf,hs,ho⟩)
 rw[h1];obtain⟨r1,r2,r3⟩:=r;simp only at h2 h4 h5;subst h2;simp only[zG];rw[←h4];by_cases h0:f<l.length
 ·rw[zB (show(f:Int)<((l.length:Nat):Int)by omega),zC,kV (by omega),fp,fO (by omega) (by omega),G1,bX]
  have:l.drop f≠[]:=fun e=>by
   have:=congrArg aI e;rw[aD]at this;simp at this;omega
  simp[gK,this]
 ·rw[zA (show¬(f:Int)<((l.length:Nat):Int)by omega),zD];have:l.drop f=[]:=bU (by omega);simp[gK,this]
theorem Bu : ∀(l cur:List Int),(gK l cur).length≤l.length+1
 |[],cur=>by unfold gK;split<;>simp
 |x::r,cur=>by
  by_cases h:x=10
  ·subst h;rw[vI];have:=Bu r [];simp;omega
  ·have:=ng [x] r cur (by simpa using h);rw[show x::r=[x]++r from rfl,this];have:=Bu r (cur++[x]);simp;omega
end
section
open List renaming drop_eq_getElem_cons → aA
def pR (x:Sg):Prop:=x.1=1∧x.2.2.1=[114]
instance (x :Sg):Decidable (pR x):=by unfold pR;infer_instance
def jl (x:Sg):Int:=if x.1=2 then 110 else if x.1=1 then 119 else x.2.2.1.headD 0
def bz :List Sg→List Int
 |[]=>[]
 |[x]=>[jl x]
 |x::y::t=>if pR x∧y.1=2 then 114::bz t else jl x::bz (y::t)
def dq (l:List Sg):List Int:=(l.filter fun x=>decide (x.1=2)).map (·.2.2.2)
theorem gy (x y:Sg)(t:List Sg):bz (x::y::t)=if pR x∧y.1=2 then 114::bz t else jl x::bz (y::t):=by
 rw[bz]
theorem Nm {c:Int}(h:Mk c):qM [c]=[c]:=by
 unfold Mk at h;rcases h with h|h|h|h|h|h<;>subst h<;>rfl
theorem vM {x:Sg}(h:tN x)(h1:x.1≠1)(h2:x.1≠2): ∃c,x.2.2.1=[c]∧Mk c∧x.1=3:=by
 rcases h with h|h|⟨h3,⟨c,h4,h5⟩,_⟩
 ·exact(h1 h.1).elim
 ·exact(h2 h.1).elim
 ·exact⟨c,h4,h5,h3⟩
theorem Kq {x:Sg}{c:Int}(h:x.1=3)(hc:x.2.2.1=[c]):jl x=c:=by
 unfold jl;rw[zF (by omega),zF (by omega),hc];rfl
theorem Jn {l:List Sg}(hl:l.length≤100000)(hg: ∀x∈l,tN x){i:Nat}(hi:i<l.length){s:List Int}(hs:s.length≤i):
  ∃(j:Nat) (c:Int),i<j∧j≤l.length∧eA l ((i:Int),s)=some (.inl ((j:Int),s++[c]))∧bz (l.drop i)=c::bz (l.drop j):=by
 have hd:l.drop i=l[i]::l.drop (i+1):=aA hi;have hx:=hg _ (List.getElem_mem hi);have w1:IntKind.i64.wrap ((i:Int)+1)=((i+1:Nat):Int):=od (by omega);have f1: ∀{β:Type} (z:Option β),gd (cG (s.length+1) 4) z=z:=fun z=>fO (by omega) (by omega)
 unfold eA;simp only;rw[zB (show(i:Int)<((l.length:Nat):Int)by omega),zC,nK hi];simp only[zG];rw[w1]
 have sym1:(¬(pR l[i]∧∃h:i+1<l.length,l[i+1].1=2))→bz (l.drop i)=jl l[i]::bz (l.drop (i+1)):=by
  intro hn;rw[hd];by_cases h:i+1<l.length
  ·rw[aA h,gy,zF (fun e=>hn ⟨e.1,h,e.2⟩)]
  ·rw[List.drop_eq_nil_of_le (by omega)];rfl
 by_cases h1:l[i].1=1
 ·rw[zB h1,zC];have d2:decide (l[i].1=2)=false:=zA (by omega);have sy:jl l[i]=119:=by unfold jl;rw[zF (by omega),zE h1]
  by_cases h2:l[i].2.2.1=[114]
  ·rw[zB h2,zC];by_cases h3:i+1<l.length
   ·rw[zB (show((i+1:Nat):Int)<((l.length:Nat):Int)by omega),zC,nK h3];simp only[zG,mj];by_cases h4:l[i+1].1=2
    ·rw[zB h4,zC,f1,od (by omega)];refine⟨i+2,114,by omega,by omega,rfl, ?_⟩;rw[hd,aA h3,gy,zE ⟨⟨h1,h2⟩,h4⟩]
    ·rw[zA h4,zD,d2,zD,zC,f1];refine⟨i+1,119,by omega,by omega,rfl, ?_⟩;rw[sym1 (fun e=>h4 e.2.2),sy]
   ·rw[zA (show¬((i+1:Nat):Int)<((l.length:Nat):Int)by omega),zD];simp only[zG,mj,db,zD,d2];rw[zC,f1];refine⟨i+1,119,by omega,by omega,rfl, ?_⟩;rw[sym1 (fun e=>h3 e.2.1),sy]
  ·rw[zA h2,zD];simp only[zG,mj,db,zD,d2];rw[zC,f1];refine⟨i+1,119,by omega,by omega,rfl, ?_⟩;rw[sym1 (fun e=>h2 e.1.2),sy]
 ·rw[zA h1,zD];simp only[zG,db,zD];by_cases h2:l[i].1=2
  ·rw[zB h2,zC,f1];refine⟨i+1,110,by omega,by omega,rfl, ?_⟩;rw[sym1 (fun e=>h1 e.1.1)];unfold jl;rw[zE h2]
  ·obtain⟨c,hc,hm,h3⟩:=vM hx h1 h2;rw[zA h2,zD,hc,Nm hm];refine⟨i+1,c,by omega,by omega, ?_, ?_⟩
   ·show gd true (gd (cG (s.length+1) 4) _)=_;rw[f1];rfl
   ·rw[sym1 (fun e=>h1 e.1.1),Kq h3 hc]
theorem Ii {x:Sg}(h:tN x):0≤jl x∧jl x<128:=by
 unfold jl;by_cases h2:x.1=2
 ·rw[zE h2];omega
 ·rw[zF h2];by_cases h1:x.1=1
  ·rw[zE h1];omega
  ·rw[zF h1];obtain⟨c,hc,hm,_⟩:=vM h h1 h2;rw[hc];unfold Mk at hm;show 0≤c∧c<128;omega
theorem zV : ∀(n:Nat) (l:List Sg),l.length≤n→(∀x∈l,tN x)→∀c∈bz l,0≤c∧c<128
 |_,[],_,_,c,hc=>by cases hc
 |_,[x],_,h,c,hc=>by
  have hc:c∈[jl x]:=hc;rw[List.mem_singleton]at hc;subst hc;exact Ii (h x (by simp))
 |0,_::_::_,hl,_,_,_=>by simp at hl
 |n+1,x::y::t,hl,h,c,hc=>by
  rw[gy]at hc;simp only[List.length_cons]at hl;split at hc
  ·rcases List.mem_cons.1 hc with rfl|hc
   ·omega
   ·exact zV n t (by omega) (fun z hz=>h z (by simp[hz])) c hc
  ·rcases List.mem_cons.1 hc with rfl|hc
   ·exact Ii (h x (by simp))
   ·exact zV n (y::t) (by simp;omega) (fun z hz=>h z (List.mem_cons_of_mem _ hz)) c hc
theorem G7 : ∀l:List Int,(∀c∈l,0≤c∧c<128)→l.flatMap lL=l
 |[],_=>rfl
 |c::l,h=>by
  rw[List.flatMap_cons,me (h c (by simp)),G7 l fun x hx=>h x (by simp[hx])];rfl
theorem Ko {l:List Sg}(hl:l.length≤100000)(hg: ∀x∈l,tN x):gA l=some (bz l):=by
 unfold gA
 obtain⟨r,h1,h2⟩:=rA (f:=eA l) (a:=(0,[])) (fun s=> ∃i:Nat,s.1=(i:Int)∧i≤l.length∧s.2.length≤i∧s.2++bz (l.drop i)=bz l) (fun s=>l.length-s.1.toNat)
  (fun r=>r=bz l) ⟨0,rfl,Nat.zero_le _,Nat.le_refl _,rfl⟩ (by simp;omega) (fun s ⟨i,e,hi,hs,he⟩=>by
   obtain⟨s1,s2⟩:=s;simp only at e hs he;subst e;by_cases hlt:i<l.length
   ·obtain⟨j,c,k1,k2,k3,k4⟩:=Jn hl hg hlt hs;left;refine⟨_,k3,⟨j,rfl,k2,by simp;omega, ?_⟩,by simp;omega⟩;rw[k4]at he;rw[←he,List.append_assoc];rfl
   ·right;have:i=l.length:=by omega
    subst this;unfold eA;simp only;rw[zA (show¬((l.length:Nat):Int)<((l.length:Nat):Int)by omega),zD];rw[List.drop_length]at he
    exact⟨_,rfl,by rw[←he];simp[bz]⟩)
 rw[h1,h2];simp only[zG];rw[G7 _ (zV _ l (Nat.le_refl _) hg)]
end
section
open List renaming take_length → aA, take_succ_eq_append_getElem → aB
theorem K6 (a b:List Sg):dq (a++b)=dq a++dq b:=by unfold dq;rw[List.filter_append,List.map_append]
theorem EQ {l:List Sg}(hl:l.length≤100000):fh l=some (dq l):=by
 unfold fh
 have h:=ML (f:=dy l) (n:=l.length) (fun i=>dq (l.take i)) (c:=dq l) (by omega) (fun i hi=>by
  unfold dy;have e:dq (l.take (i+1))=dq (l.take i)++dq [l[i]]:=by rw[aB hi,K6]
  have hlen:(dq (l.take i)).length≤i:=by
   unfold dq;rw[List.length_map];refine Nat.le_trans (List.length_filter_le _ _) ?_;rw[List.length_take];omega
  simp only;rw[zB (show(i:Int)<((l.length:Nat):Int)by omega),zC,nK hi,e];simp only[zG];by_cases h2:l[i].1=2
  ·rw[zB h2,zC,fO (by omega) (by omega),od (by omega)];have:dq [l[i]]=[l[i].2.2.2]:=by unfold dq;simp[h2]
   rw[this]
  ·rw[zA h2,zD,od (by omega)];have:dq [l[i]]=[]:=by unfold dq;simp[h2]
   rw[this,List.append_nil]) (by
  unfold dy;simp only
  rw[zA (show¬((l.length:Nat):Int)<((l.length:Nat):Int)by omega),zD,aA])
 rw[show aw (dy l) di (0,[])=_ from h];rfl
def fG (l:List Int):Bool:=l.all fun n=>decide (n≤2147483647)
theorem yH {l:List Int}(hl:l.length≤100000):bp l=some (fG l):=by
 unfold bp
 obtain⟨r,h1,h2⟩:=rA (f:=jx l) (a:=0) (fun p=> ∃i:Nat,p=(i:Int)∧i≤l.length∧fG (l.take i)=true) (fun p=>l.length-p.toNat)
  (fun r=>(r= .inl false∧fG l=false)∨(r= .inr ()∧fG l=true)) ⟨0,rfl,Nat.zero_le _,rfl⟩ (by simp;omega) (fun p ⟨i,e,hi,he⟩=>by
   subst e;unfold jx;by_cases hlt:i<l.length
   ·rw[zB (show(i:Int)<((l.length:Nat):Int)by omega),zC,nK hlt];simp only[zG];by_cases hn:2147483647<l[i]
    ·rw[zB hn,zC];refine .inr ⟨_,rfl, .inl ⟨rfl, ?_⟩⟩;rw[Bool.eq_false_iff];intro h;have:=List.all_eq_true.1 h _ (List.getElem_mem hlt);simp only[decide_eq_true_eq]at this;omega
    ·rw[zA hn,zD,od (by omega)];refine .inl ⟨_,rfl,⟨i+1,rfl,hlt, ?_⟩,by simp;omega⟩;unfold fG at he⊢;rw[aB hlt,List.all_append,he];simp only[List.all_cons,List.all_nil,Bool.and_true,Bool.true_and,decide_eq_true_eq];omega
   ·have:i=l.length:=by omega
    subst this;rw[zA (show¬((l.length:Nat):Int)<((l.length:Nat):Int)by omega),zD];rw[aA]at he
    exact .inr ⟨_,rfl, .inr ⟨rfl,he⟩⟩)
 rcases h2 with⟨rfl,h⟩|⟨rfl,h⟩
 ·rw[h1,h];rfl
 ·rw[h1,h];rfl
def lh (x:Sg)(c:Int):Prop:=x.1=3∧x.2.2.1=[c]
instance (x :Sg) (c:Int):Decidable (lh x c):=by unfold lh;infer_instance
def na (e:Int):Int×Int×Int×Int×Int×Int:=(0,0,0,0,0,e)
def ED (x:Sg):Int:=if x.2.2.1=[42]then 3 else if x.2.2.1=[45]then 2 else 1
def nc (a b c:Sg):Prop:=pR a∧b.1=2∧lh c 61
instance (a b c:Sg):Decidable (nc a b c):=by unfold nc;infer_instance
def ft :List Sg→Int×Int×Int×Int×Int×Int
 |[a]=>if lh a 125 then na 0 else na 3
 |[a,b,c]=>if(a.1=1∧a.2.2.1=[114,101,112,101,97,116])∧b.1=2∧lh c 123 then(7,0,0,0,b.2.2.2,0)else na 3
 |[a,b,c,d]=>if nc a b c∧d.1=2 then(if b.2.2.2≤2147483647 then(5,b.2.2.2,0,0,d.2.2.2,0)else na 7)else na 3
 |[a,b,c,d,e]=>if nc a b c∧pR d∧e.1=2 then(if b.2.2.2≤2147483647∧e.2.2.2≤2147483647 then(6,b.2.2.2,e.2.2.2,0,0,0)else na 7)else na 3
 |[a,b,c,d,e,f]=>if nc a b c∧lh d 45∧pR e∧f.1=2 then(if b.2.2.2≤2147483647∧f.2.2.2≤2147483647 then(4,b.2.2.2,f.2.2.2,0,0,0)else na 7)else na 3
 |[a,b,c,d,e,f,g,h]=>if nc a b c∧(pR d∧e.1=2)∧(lh f 43∨lh f 45∨lh f 42)∧pR g∧h.1=2 then
   (if b.2.2.2≤2147483647∧e.2.2.2≤2147483647∧h.2.2.2≤2147483647 then(ED f,b.2.2.2,e.2.2.2,h.2.2.2,0,0)else na 7)else na 3
 |_=>na 3
theorem EZ {l:List Sg}{c:Int}{s:List Int}(hg: ∀x∈l,tN x)(h:bz l=c::s):
  (c=114∧∃x y t,l=x::y::t∧pR x∧y.1=2∧bz t=s)∨(c≠114∧∃x t,l=x::t∧jl x=c∧bz t=s):=by
 have hs: ∀x,tN x→jl x≠114:=fun x hx=>by
  unfold jl;by_cases h2:x.1=2
  ·rw[zE h2];omega
  ·rw[zF h2];by_cases h1:x.1=1
   ·rw[zE h1];omega
   ·rw[zF h1];obtain⟨k,hk,hm,_⟩:=vM hx h1 h2;rw[hk];unfold Mk at hm;show k≠114;omega
 match l,hg,h with
 |[x],hg,h=>
  have h:[jl x]=c::s:=h;injection h with h1 h2
  subst h1;exact .inr ⟨hs x (hg x (by simp)),x,[],rfl,rfl,h2⟩
 |x::y::t,hg,h=>
  rw[gy]at h;split at h
  ·rename_i hr;injection h with h1 h2
   exact .inl ⟨h1.symm,x,y,t,rfl,hr.1,hr.2,h2⟩
  ·injection h with h1 h2
   subst h1;exact .inr ⟨hs x (hg x (by simp)),x,y::t,rfl,rfl,h2⟩
theorem mb {l:List Sg}(h:bz l=[]):l=[]:=by
 match l,h with
 |[],_=>rfl
 |[x],h=>cases h
 |x::y::t,h=>rw[gy]at h;split at h<;>cases h
theorem Gc {x:Sg}(hx:tN x)(h:jl x=110):x.1=2:=by
 unfold jl at h;by_cases h2:x.1=2
 ·exact h2
 ·rw[zF h2]at h;by_cases h1:x.1=1
  ·rw[zE h1]at h;omega
  ·rw[zF h1]at h;obtain⟨k,hk,hm,_⟩:=vM hx h1 h2;rw[hk]at h;unfold Mk at hm;have h:k=110:=h;omega
theorem Ij {x:Sg}(hx:tN x)(h:jl x=119):x.1=1:=by
 unfold jl at h;by_cases h2:x.1=2
 ·rw[zE h2]at h;omega
 ·rw[zF h2]at h;by_cases h1:x.1=1
  ·exact h1
  ·rw[zF h1]at h;obtain⟨k,hk,hm,_⟩:=vM hx h1 h2;rw[hk]at h;unfold Mk at hm;have h:k=119:=h;omega
theorem nr {x:Sg}{c:Int}(hx:tN x)(hc:c≠110∧c≠119)(h:jl x=c):lh x c:=by
 unfold jl at h;by_cases h2:x.1=2
 ·rw[zE h2]at h;omega
 ·rw[zF h2]at h;by_cases h1:x.1=1
  ·rw[zE h1]at h;omega
  ·rw[zF h1]at h;obtain⟨k,hk,hm,h3⟩:=vM hx h1 h2;rw[hk]at h;have h:k=c:=h;exact⟨h3,by rw[hk,h]⟩
theorem Ho {x:Sg}{c:Int}(h:lh x c):jl x=c:=Kq h.1 h.2
theorem dH {x y:Sg}{t:List Sg}(h:pR x)(hy:y.1=2):bz (x::y::t)=114::bz t:=by rw[gy,zE ⟨h,hy⟩]
theorem dP {x:Sg}{c:Int}(h:lh x c): ∀t,bz (x::t)=c::bz t
 |[]=>by show [jl x]=_;rw[Ho h];rfl
 |y::t=>by rw[gy,zF (fun e=>by have:=e.1.1;have:=h.1;omega),Ho h]
theorem zW {x:Sg}(h:x.1=2): ∀t,bz (x::t)=110::bz t
 |[]=>by show [jl x]=_;unfold jl;rw[zE h];rfl
 |y::t=>by rw[gy,zF (fun e=>by have:=e.1.1;omega)];unfold jl;rw[zE h]
theorem Dj {x:Sg}(h:x.1=1)(hr:x.2.2.1≠[114]): ∀t,bz (x::t)=119::bz t
 |[]=>by show [jl x]=_;unfold jl;rw[zF (by omega),zE h];rfl
 |y::t=>by rw[gy,zF (fun e=>hr e.1.2)];unfold jl;rw[zF (by omega),zE h]
theorem sP (x:Sg)(t:List Sg):dq (x::t)=if x.1=2 then x.2.2.2::dq t else dq t:=by
 unfold dq;by_cases h:x.1=2
 ·rw[zE h,List.filter_cons_of_pos (by simpa using h),List.map_cons]
 ·rw[zF h,List.filter_cons_of_neg (by simpa using h)]
theorem pG {x:Sg}(h:x.1=2)(t:List Sg):dq (x::t)=x.2.2.2::dq t:=by rw[sP,zE h]
theorem uQ {x:Sg}(h:pR x)(t:List Sg):dq (x::t)=dq t:=by rw[sP,zF (by have:=h.1;omega)]
theorem xn {x:Sg}{c:Int}(h:lh x c)(t:List Sg):dq (x::t)=dq t:=by rw[sP,zF (by have:=h.1;omega)]
theorem MW {x:Sg}(h:x.1=1)(t:List Sg):dq (x::t)=dq t:=by rw[sP,zF (by omega)]
theorem np {x:Sg}(hx:tN x):0≤x.2.2.2∧x.2.2.2≤18446744073709551615:=by unfold tN at hx;omega
theorem AV {n:Int}(h:0≤n)(h2:n≤2147483647):IntKind.i64.wrap n=n:=cR (by omega)
end
section
open Bool renaming eq_false_iff → aD, not_true → aE
open List renaming length → aA, take → aB, drop → aC
theorem zf (n:Nat)(l:List Int):aB n (aC 0 l)=l.take n:=by rw[List.drop_zero]
theorem AD {l:List Sg}{s:List Int}(hg: ∀x∈l,tN x)(h:bz l=114::s): ∃x y t,l=x::y::t∧pR x∧y.1=2∧bz t=s:=by
 rcases EZ hg h with⟨_,h⟩|⟨h1,_⟩
 ·exact h
 ·exact(h1 rfl).elim
theorem ru {l:List Sg}{c:Int}{s:List Int}(hg: ∀x∈l,tN x)(hc:c≠114)(h:bz l=c::s): ∃x t,l=x::t∧jl x=c∧bz t=s:=by
 rcases EZ hg h with⟨h1,_⟩|⟨_,h⟩
 ·exact(hc h1).elim
 ·exact h
theorem Tg {l:List Sg}{o:Int}(hg: ∀x∈l,tN x)(ho:o≠110∧o≠119∧o≠114)(h:bz l=[114,61,114,o,114]):
  ∃a b c d e f g k,l=[a,b,c,d,e,f,g,k]∧nc a b c∧(pR d∧e.1=2)∧lh f o∧pR g∧k.1=2:=by
 obtain⟨a,b,t,rfl,h1,h2,h3⟩:=AD hg h;obtain⟨c,t,rfl,h5,h6⟩:=ru (fun x hx=>hg x (by simp[hx])) (by omega) h3;obtain⟨d,e,t,rfl,h7,h8,h9⟩:=AD (fun x hx=>hg x (by simp[hx])) h6;obtain⟨f,t,rfl,h11,h12⟩:=ru (fun x hx=>hg x (by simp[hx])) (by omega) h9;obtain⟨g,k,t,rfl,h13,h14,h15⟩:=AD (fun x hx=>hg x (by simp[hx])) h12;obtain rfl:=mb h15;exact⟨a,b,c,d,e,f,g,k,rfl,⟨h1,h2,nr (hg c (by simp)) (by omega) h5⟩,⟨h7,h8⟩,nr (hg f (by simp)) ⟨ho.1,ho.2.1⟩ h11,h13,h14⟩
theorem OB {l:List Sg}(hg: ∀x∈l,tN x)(h:bz l=[114,61,45,114]):
  ∃a b c d e f,l=[a,b,c,d,e,f]∧nc a b c∧lh d 45∧pR e∧f.1=2:=by
 obtain⟨a,b,t,rfl,h1,h2,h3⟩:=AD hg h;obtain⟨c,t,rfl,h5,h6⟩:=ru (fun x hx=>hg x (by simp[hx])) (by omega) h3;obtain⟨d,t,rfl,h8,h9⟩:=ru (fun x hx=>hg x (by simp[hx])) (by omega) h6;obtain⟨e,f,t,rfl,h10,h11,h12⟩:=AD (fun x hx=>hg x (by simp[hx])) h9;obtain rfl:=mb h12;exact⟨a,b,c,d,e,f,rfl,⟨h1,h2,nr (hg c (by simp)) (by omega) h5⟩,nr (hg d (by simp)) (by omega) h8,h10,h11⟩
theorem Mv {l:List Sg}(hg: ∀x∈l,tN x)(h:bz l=[114,61,114]): ∃a b c d e,l=[a,b,c,d,e]∧nc a b c∧pR d∧e.1=2:=by
 obtain⟨a,b,t,rfl,h1,h2,h3⟩:=AD hg h;obtain⟨c,t,rfl,h5,h6⟩:=ru (fun x hx=>hg x (by simp[hx])) (by omega) h3;obtain⟨d,e,t,rfl,h7,h8,h9⟩:=AD (fun x hx=>hg x (by simp[hx])) h6;obtain rfl:=mb h9;exact⟨a,b,c,d,e,rfl,⟨h1,h2,nr (hg c (by simp)) (by omega) h5⟩,h7,h8⟩
theorem KX {l:List Sg}(hg: ∀x∈l,tN x)(h:bz l=[114,61,110]): ∃a b c d,l=[a,b,c,d]∧nc a b c∧d.1=2:=by
 obtain⟨a,b,t,rfl,h1,h2,h3⟩:=AD hg h;obtain⟨c,t,rfl,h5,h6⟩:=ru (fun x hx=>hg x (by simp[hx])) (by omega) h3;obtain⟨d,t,rfl,h8,h9⟩:=ru (fun x hx=>hg x (by simp[hx])) (by omega) h6;obtain rfl:=mb h9;exact⟨a,b,c,d,rfl,⟨h1,h2,nr (hg c (by simp)) (by omega) h5⟩,Gc (hg d (by simp)) h8⟩
theorem OC {l:List Sg}(hg: ∀x∈l,tN x)(h:bz l=[119,110,123]): ∃a b c,l=[a,b,c]∧a.1=1∧b.1=2∧lh c 123:=by
 obtain⟨a,t,rfl,h2,h3⟩:=ru hg (by omega) h;obtain⟨b,t,rfl,h5,h6⟩:=ru (fun x hx=>hg x (by simp[hx])) (by omega) h3;obtain⟨c,t,rfl,h8,h9⟩:=ru (fun x hx=>hg x (by simp[hx])) (by omega) h6;obtain rfl:=mb h9;exact⟨a,b,c,rfl,Ij (hg a (by simp)) h2,Gc (hg b (by simp)) h5,nr (hg c (by simp)) (by omega) h8⟩
theorem OA {l:List Sg}(hg: ∀x∈l,tN x)(h:bz l=[125]): ∃a,l=[a]∧lh a 125:=by
 obtain⟨a,t,rfl,h2,h3⟩:=ru hg (by omega) h;obtain rfl:=mb h3;exact⟨a,rfl,nr (hg a (by simp)) (by omega) h2⟩
theorem Qc {a b:List Int}(h:b=a):decide (a≠b)=false:=zA (fun e=>e h.symm)
theorem OS {a b:List Int}(h: ¬b=a):decide (a≠b)=true:=zB (fun e=>h e.symm)
theorem NF {n:List Int}{k x y z:Int}(h:n=[x,y,z])(hx:0≤x)(hy:0≤y)(hz:0≤z):gd (cb 0 3 (aA n)) ((bp (aB 3 (aC 0 n))).bind fun r=>cond (!r) (some (0,0,0,0,0,7)) ((da n k).bind fun r=>some (r.1,r.2.1,r.2.2.1,r.2.2.2,0,0)))=
  some (if x≤2147483647∧y≤2147483647∧z≤2147483647 then(k,x,y,z,0,0)else na 7):=by
 subst h;rw[zf,show cb 0 3 (aA [x,y,z])=true from rfl,fp,show aB 3 [x,y,z]=[x,y,z]from rfl,yH (by simp)];simp only[zG];by_cases h:x≤2147483647∧y≤2147483647∧z≤2147483647
 ·have hs:fG [x,y,z]=true:=by unfold fG;simp;omega
  rw[hs,zE h];unfold da;rw[show rd [x,y,z] 0=some x from rfl,show rd [x,y,z] 1=some y from rfl,show rd [x,y,z] 2=some z from rfl];simp only[zG,aE,zD];rw[AV hx h.1,AV hy h.2.1,AV hz h.2.2]
 ·have hs:fG [x,y,z]=false:=by unfold fG;rw[aD];simp;omega
  rw[hs,zF h];rfl
theorem NK {n:List Int}{k x y:Int}(h:n=[x,y])(hx:0≤x)(hy:0≤y):gd (cb 0 2 (aA n)) ((bp (aB 2 (aC 0 n))).bind fun r=>cond (!r) (some (0,0,0,0,0,7)) ((gB n k).bind fun r=>some (r.1,r.2.1,r.2.2,0,0,0)))=
  some (if x≤2147483647∧y≤2147483647 then(k,x,y,0,0,0)else na 7):=by
 subst h;rw[zf,show cb 0 2 (aA [x,y])=true from rfl,fp,show aB 2 [x,y]=[x,y]from rfl,yH (by simp)];simp only[zG];by_cases h:x≤2147483647∧y≤2147483647
 ·have hs:fG [x,y]=true:=by unfold fG;simp;omega
  rw[hs,zE h];unfold gB;rw[show rd [x,y] 0=some x from rfl,show rd [x,y] 1=some y from rfl];simp only[zG,aE,zD];rw[AV hx h.1,AV hy h.2]
 ·have hs:fG [x,y]=false:=by unfold fG;rw[aD];simp;omega
  rw[hs,zF h];rfl
theorem QN {n:List Int}{x y:Int}(h:n=[x,y])(hx:0≤x):gd (cb 0 1 (aA n)) ((bp (aB 1 (aC 0 n))).bind fun r=>cond (!r) (some (0,0,0,0,0,7)) ((gQ n).bind fun r=>some (5,r.1,0,0,r.2,0)))=
  some (if x≤2147483647 then(5,x,0,0,y,0)else na 7):=by
 subst h;rw[zf,show cb 0 1 (aA [x,y])=true from rfl,fp,show aB 1 [x,y]=[x]from rfl,yH (by simp)];simp only[zG];by_cases h:x≤2147483647
 ·have hs:fG [x]=true:=by unfold fG;simp;omega
  rw[hs,zE h];unfold gQ;rw[show rd [x,y] 0=some x from rfl,show rd [x,y] 1=some y from rfl];simp only[zG,aE,zD];rw[AV hx h]
 ·have hs:fG [x]=false:=by unfold fG;rw[aD];simp;omega
  rw[hs,zF h];rfl
theorem Kv {α:Type}{n:List Int}{X Y:Option α}:gd (cb 0 0 (aA n)) ((bp (aB 0 (aC 0 n))).bind fun r=>cond (!r) X Y)=Y:=by
 have hc:cb 0 0 (aA n)=true:=kV (by omega);rw[hc,fp,List.take_zero,yH (by simp)];rfl
theorem RK :qu 7=some [114,101,112,101,97,116]:=rfl
theorem QO {l:List Sg}(hl:l.length≤100000)(hg: ∀x∈l,tN x):fM l=some (ft l):=by
 unfold fM;rw[Ko hl hg,EQ hl];simp only[zG]
 have three: ∀o:Int,(o≠110∧o≠119∧o≠114)→(o=43∨o=45∨o=42)→∀k:Int,(o=43→k=1)→(o=45→k=2)→(o=42→k=3)→bz l=[114,61,114,o,114]→
   gd (cb 0 3 (aA (dq l))) ((bp (aB 3 (aC 0 (dq l)))).bind fun r=>cond (!r) (some (0,0,0,0,0,7)) ((da (dq l) k).bind fun r=>some (r.1,r.2.1,r.2.2.1,r.2.2.2,0,0)))=some (ft l):=by
  intro o ho ho2 k k1 k2 k3 h;obtain⟨a,b,c,d,e,f,g,q,rfl,hh,hd,hf,hgr,hq⟩:=Tg hg ho h
  have en:dq [a,b,c,d,e,f,g,q]=[b.2.2.2,e.2.2.2,q.2.2.2]:=by
   rw[uQ hh.1,pG hh.2.1,xn hh.2.2,uQ hd.1,pG hd.2,xn hf,uQ hgr,pG hq];rfl
  rw[NF en (np (hg b (by simp))).1 (np (hg e (by simp))).1 (np (hg q (by simp))).1]
  have hk:ED f=k:=by
   unfold ED;rw[hf.2];rcases ho2 with h|h|h
   ·subst h;rw[k1 rfl];rfl
   ·subst h;rw[k2 rfl];rfl
   ·subst h;rw[k3 rfl];rfl
  have hm:lh f 43∨lh f 45∨lh f 42:=by
   rcases ho2 with h|h|h
   ·subst h;exact .inl hf
   ·subst h;exact .inr (.inl hf)
   ·subst h;exact .inr (.inr hf)
  have er:ft [a,b,c,d,e,f,g,q]=_:=zE ⟨hh,hd,hm,hgr,hq⟩;rw[er,hk]
 by_cases h1:bz l=[114,61,114,43,114]
 ·rw[Qc h1,zD];exact three 43 (by omega) (by omega) 1 (by omega) (by omega) (by omega) h1
 rw[OS h1,zC];by_cases h2:bz l=[114,61,114,45,114]
 ·rw[Qc h2,zD];exact three 45 (by omega) (by omega) 2 (by omega) (by omega) (by omega) h2
 rw[OS h2,zC];by_cases h3:bz l=[114,61,114,42,114]
 ·rw[Qc h3,zD];exact three 42 (by omega) (by omega) 3 (by omega) (by omega) (by omega) h3
 rw[OS h3,zC];by_cases h4:bz l=[114,61,45,114]
 ·rw[Qc h4,zD];obtain⟨a,b,c,d,e,f,rfl,hh,hd,he,hf⟩:=OB hg h4
  have en:dq [a,b,c,d,e,f]=[b.2.2.2,f.2.2.2]:=by
   rw[uQ hh.1,pG hh.2.1,xn hh.2.2,xn hd,uQ he,pG hf];rfl
  rw[NK en (np (hg b (by simp))).1 (np (hg f (by simp))).1];have er:ft [a,b,c,d,e,f]=_:=zE ⟨hh,hd,he,hf⟩;rw[er]
 rw[OS h4,zC];by_cases h5:bz l=[114,61,114]
 ·rw[Qc h5,zD];obtain⟨a,b,c,d,e,rfl,hh,hd,he⟩:=Mv hg h5
  have en:dq [a,b,c,d,e]=[b.2.2.2,e.2.2.2]:=by
   rw[uQ hh.1,pG hh.2.1,xn hh.2.2,uQ hd,pG he];rfl
  rw[NK en (np (hg b (by simp))).1 (np (hg e (by simp))).1];have er:ft [a,b,c,d,e]=_:=zE ⟨hh,hd,he⟩;rw[er]
 rw[OS h5,zC];by_cases h6:bz l=[114,61,110]
 ·rw[Qc h6,zD];obtain⟨a,b,c,d,rfl,hh,hd⟩:=KX hg h6
  have en:dq [a,b,c,d]=[b.2.2.2,d.2.2.2]:=by
   rw[uQ hh.1,pG hh.2.1,xn hh.2.2,pG hd];rfl
  rw[QN en (np (hg b (by simp))).1];have er:ft [a,b,c,d]=_:=zE ⟨hh,hd⟩;rw[er]
 rw[OS h6,zC];by_cases h7:bz l=[119,110,123]
 ·rw[Qc h7,zD];obtain⟨a,b,c,rfl,ha,hb,hc⟩:=OC hg h7;rw[show rd [a,b,c] 0=some a from rfl,RK];simp only[zG];by_cases hr:a.2.2.1=[114,101,112,101,97,116]
  ·have er:ft [a,b,c]=_:=zE ⟨⟨ha,hr⟩,hb,hc⟩;rw[zA (fun e=>e hr),zD,Kv,er]
   have en:dq [a,b,c]=[b.2.2.2]:=by
    rw[MW ha,pG hb,xn hc];rfl
   rw[en];rfl
  ·have er:ft [a,b,c]=_:=zF (fun e=>hr e.1.2);rw[zB hr,zC,er,h7,OS (by decide),zC];rfl
 rw[OS h7,zC];by_cases h8:bz l=[125]
 ·rw[Qc h8,zD,Kv];obtain⟨a,rfl,ha⟩:=OA hg h8;have er:ft [a]=_:=zE ha;rw[er];rfl
 rw[OS h8,zC]
 have key:ft l=na 3:=by
  match l,h1,h2,h3,h4,h5,h6,h7,h8 with
  |[],_,_,_,_,_,_,_,_=>rfl
  |[a],_,_,_,_,_,_,_,h8=>exact zF (fun h=>h8 (by rw[dP h];rfl))
  |[a,b],_,_,_,_,_,_,_,_=>rfl
  |[a,b,c],_,_,_,_,_,_,h7,_=>exact zF (fun h=>h7 (by rw[Dj h.1.1 (by rw[h.1.2];decide),zW h.2.1,dP h.2.2];rfl))
  |[a,b,c,d],_,_,_,_,_,h6,_,_=>exact zF (fun h=>h6 (by rw[dH h.1.1 h.1.2.1,dP h.1.2.2,zW h.2];rfl))
  |[a,b,c,d,e],_,_,_,_,h5,_,_,_=>exact zF (fun h=>h5 (by rw[dH h.1.1 h.1.2.1,dP h.1.2.2,dH h.2.1 h.2.2];rfl))
  |[a,b,c,d,e,f],_,_,_,h4,_,_,_,_=>exact zF (fun h=>h4 (by rw[dH h.1.1 h.1.2.1,dP h.1.2.2,dP h.2.1,dH h.2.2.1 h.2.2.2];rfl))
  |[a,b,c,d,e,f,g],_,_,_,_,_,_,_,_=>rfl
  |[a,b,c,d,e,f,g,k],h1,h2,h3,_,_,_,_,_=>
   refine zF (fun h=> ?_);obtain⟨hh,hd,hm,hgr,hk⟩:=h;rcases hm with hm|hm|hm
   ·exact h1 (by rw[dH hh.1 hh.2.1,dP hh.2.2,dH hd.1 hd.2,dP hm,dH hgr hk];rfl)
   ·exact h2 (by rw[dH hh.1 hh.2.1,dP hh.2.2,dH hd.1 hd.2,dP hm,dH hgr hk];rfl)
   ·exact h3 (by rw[dH hh.1 hh.2.1,dP hh.2.2,dH hd.1 hd.2,dP hm,dH hgr hk];rfl)
  |_::_::_::_::_::_::_::_::_::_,_,_,_,_,_,_,_,_=>rfl
 rw[key];rfl
end
section
open Int renaming toNat_natCast → aC
open List renaming length → aA, length_cons → aB
theorem IF (i:Int)(k:Int)(s:List Int)(h:0≤i):ba [] i k s=some false:=by
 unfold ba;rw[zA (by simp;omega),zD]
theorem fl (x:Sg)(t:List Sg)(k:Int)(s:List Int):ba (x::t) 0 k s=some (decide (x.1=k∧(s=[]∨x.2.2.1=s))):=by
 unfold ba;rw[zB (by simp only[aB];omega),zC,show rd (x::t) 0=some x from rfl];simp only[zG];by_cases h1:x.1=k
 ·rw[zB h1,zC];by_cases h2:s=[]
  ·rw[zB h2,zC,zB ⟨h1, .inl h2⟩]
  ·rw[zA h2,zD];by_cases h3:x.2.2.1=s
   ·rw[zB h3,zB ⟨h1, .inr h3⟩]
   ·rw[zA h3,zA (fun h=>h.2.elim h2 h3)]
 ·rw[zA h1,zD,zA (fun h=>h1 h.1)]
theorem sF (x:Sg)(t:List Sg)(i:Nat)(k:Int)(s:List Int):ba (x::t) ((i+1:Nat):Int) k s=ba t (i:Int) k s:=by
 unfold ba
 have e:rd (x::t) ((i+1:Nat):Int)=rd t (i:Int):=by
  unfold rd;rw[zB (by omega),zB (by omega),zC,zC,aC,aC,List.getElem?_cons_succ]
 rw[e];have d:decide (((i+1:Nat):Int)<(((x::t).length:Nat):Int))=decide ((i:Int)<((t.length:Nat):Int)):=decide_eq_decide.2 (by rw[aB];omega);rw[d]
theorem JP (x:Sg)(t:List Sg)(k:Int)(s:List Int):ba (x::t) 1 k s=ba t 0 k s:=sF x t 0 k s
theorem NZ (x:Sg)(t:List Sg)(k:Int)(s:List Int):ba (x::t) 2 k s=ba t 1 k s:=sF x t 1 k s
theorem Rx (x:Sg)(t:List Sg)(k:Int)(s:List Int):ba (x::t) 3 k s=ba t 2 k s:=sF x t 2 k s
theorem Tc (x:Sg)(t:List Sg)(k:Int)(s:List Int):ba (x::t) 4 k s=ba t 3 k s:=sF x t 3 k s
theorem Td (x:Sg)(t:List Sg)(k:Int)(s:List Int):ba (x::t) 5 k s=ba t 4 k s:=sF x t 4 k s
theorem C2 (l:List Sg)(i j:Int)(h:IntKind.i64.wrap (i+1)=j):aq l i=(ba l i 1 [114]).bind fun r=>cond r (ba l j 2 []) (some false):=by
 unfold aq;rw[h];cases ba l j 2 []<;>rfl
theorem HS (a b:Sg)(t:List Sg):aq (a::b::t) 0=some (decide (pR a∧b.1=2)):=by
 rw[C2 _ 0 1 rfl,fl,JP,fl];simp only[zG];unfold pR;by_cases h1:a.1=1∧a.2.2.1=[114]
 ·rw[zB ⟨h1.1, .inr h1.2⟩,zC];refine congrArg some (decide_eq_decide.2 ⟨fun h=>⟨h1,h.1⟩,fun h=>⟨h.2, .inl (by simp)⟩⟩)
 ·rw[zA (fun h=>h1 ⟨h.1,h.2.resolve_left (by decide)⟩),zD,zA (fun h=>h1 h.1)]
theorem rE (x:Sg)(t:List Sg)(i:Nat)(hi:i<1000000):aq (x::t) ((i+1:Nat):Int)=aq t (i:Int):=by
 rw[C2 _ ((i+1:Nat):Int) ((i+1+1:Nat):Int) (od (by omega)),C2 _ (i:Int) ((i+1:Nat):Int) (od (by omega)),sF,sF]
theorem Pj (x:Sg)(t:List Sg):aq (x::t) 1=aq t 0:=rE x t 0 (by omega)
theorem Pk (x:Sg)(t:List Sg):aq (x::t) 2=aq t 1:=rE x t 1 (by omega)
theorem Pm (x:Sg)(t:List Sg):aq (x::t) 3=aq t 2:=rE x t 2 (by omega)
theorem RO (x:Sg)(t:List Sg):aq (x::t) 4=aq t 3:=rE x t 3 (by omega)
theorem Tj (x:Sg)(t:List Sg):aq (x::t) 5=aq t 4:=rE x t 4 (by omega)
theorem Tk (x:Sg)(t:List Sg):aq (x::t) 6=aq t 5:=rE x t 5 (by omega)
theorem Pn (a:Sg):aq [a] 0=some false:=by
 rw[C2 _ 0 1 rfl,fl,JP,IF _ _ _ (by omega)];simp only[zG];cases decide (a.1=1∧(([114]:List Int)=[]∨a.2.2.1=[114]))<;>rfl
theorem I5 {a b:Int}{c:List Int}{n:Int}(h:0≤n):bv a b c n=some (if n≤2147483647 then(n,true)else(0,false)):=by
 unfold bv;by_cases h1:n≤2147483647
 ·rw[zA (by omega),zD,zE h1,AV h h1]
 ·rw[zB (by omega),zF h1];rfl
theorem dM (x:Sg)(c:Int):decide (x.1=3∧(([c]:List Int)=[]∨x.2.2.1=[c]))=decide (lh x c):=decide_eq_decide.2 ⟨fun h=>⟨h.1,h.2.resolve_left (by simp)⟩,fun h=>⟨h.1, .inr h.2⟩⟩
theorem dN (x:Sg):decide (x.1=2∧(([]:List Int)=[]∨x.2.2.1=[]))=decide (x.1=2):=decide_eq_decide.2 ⟨fun h=>h.1,fun h=>⟨h, .inl rfl⟩⟩
theorem dW (x:Sg)(s:List Int)(hs:s≠[]):decide (x.1=1∧(s=[]∨x.2.2.1=s))=decide (x.1=1∧x.2.2.1=s):=decide_eq_decide.2 ⟨fun h=>⟨h.1,h.2.resolve_left hs⟩,fun h=>⟨h.1, .inr h.2⟩⟩
def tz (l:List Sg):Option (Int×Int×Int×Int×Int×Int):=
  (aq l 0).bind fun r12=>
  cond (!r12)
  (some ((0,0,0,0,0,3)))
  ((ba l 2 3 (([61]:List Int))).bind fun r13=>
  cond (!r13)
   (some ((0,0,0,0,0,3)))
   ((rd l 1).bind fun x14=>
   (bv x14.1 x14.2.1 x14.2.2.1 x14.2.2.2).bind fun r15=>
   (((cond (decide (((((aA l):Nat):Int))=4))
   ((ba l 3 2 (([]:List Int))).bind fun r16=>
   some r16)
   (some false)):Option (Bool))).bind fun s17=>
   cond (s17)
   ((rd l 3).bind fun x18=>
   cond (!r15.2)
    (some ((0,0,0,0,0,7)))
    (some ((5,r15.1,0,0,x18.2.2.2,0))))
   ((((cond (decide (((((aA l):Nat):Int))=6))
    ((ba l 3 3 (([45]:List Int))).bind fun r19=>
    cond (r19)
    ((aq l 4).bind fun r20=>
    some r20)
    (some false))
    (some false)):Option (Bool))).bind fun s21=>
   cond (s21)
    ((rd l 5).bind fun x22=>
    (bv x22.1 x22.2.1 x22.2.2.1 x22.2.2.2).bind fun r23=>
    cond (r15.2)
    (cond (!r23.2)
     (some ((0,0,0,0,0,7)))
     (some ((4,r15.1,r23.1,0,0,0))))
    (some ((0,0,0,0,0,7))))
    ((((cond (decide (((((aA l):Nat):Int))=5))
    ((aq l 3).bind fun r24=>
    some r24)
    (some false)):Option (Bool))).bind fun s25=>
    cond (s25)
    ((rd l 4).bind fun x26=>
    (bv x26.1 x26.2.1 x26.2.2.1 x26.2.2.2).bind fun r27=>
    cond (r15.2)
     (cond (!r27.2)
     (some ((0,0,0,0,0,7)))
     (some ((6,r15.1,r27.1,0,0,0))))
     (some ((0,0,0,0,0,7))))
    ((((cond (decide (((((aA l):Nat):Int))=8))
     ((aq l 3).bind fun r28=>
     cond (r28)
     ((aq l 6).bind fun r29=>
     cond (r29)
      ((ba l 5 3 (([43]:List Int))).bind fun r30=>
      cond (r30)
      (some true)
      ((ba l 5 3 (([45]:List Int))).bind fun r31=>
      cond (r31)
       (some true)
       ((ba l 5 3 (([42]:List Int))).bind fun r32=>
       some r32)))
      (some false))
     (some false))
     (some false)):Option (Bool))).bind fun s33=>
    cond (s33)
     ((rd l 4).bind fun x34=>
     (bv x34.1 x34.2.1 x34.2.2.1 x34.2.2.2).bind fun r35=>
     (rd l 7).bind fun x36=>
     (bv x36.1 x36.2.1 x36.2.2.1 x36.2.2.2).bind fun r37=>
     ((((rd l 5).bind fun x38=>
     cond (decide (x38.2.2.1=([45]:List Int)))
     (some ((2,r15.1)))
     (some ((1,r15.1)))):Option (Int×Int))).bind fun s39=>
     ((((rd l 5).bind fun x40=>
     cond (decide (x40.2.2.1=([42]:List Int)))
     (some ((3,s39.2)))
     (some ((s39.1,s39.2)))):Option (Int×Int))).bind fun s41=>
     cond (r15.2)
     (cond (r35.2)
      (cond (!r37.2)
      (some ((0,0,0,0,0,7)))
      (some ((s41.1,s41.2,r35.1,r37.1,0,0))))
      (some ((0,0,0,0,0,7))))
     (some ((0,0,0,0,0,7))))
     (some ((0,0,0,0,0,3))))))))
theorem OH (l:List Sg)(n:Nat):decide ((((aA l):Nat):Int)=((n:Nat):Int))=decide (l.length=n):=decide_eq_decide.2 (by omega)
theorem pH {l:List Sg}(h: ∀a b c t,l=a::b::c::t→¬nc a b c):tz l=some (na 3):=by
 unfold tz
 match l,h with
 |[],_=>
  have:aq [] 0=some false:=by rw[C2 _ 0 1 rfl,IF _ _ _ (by omega)];rfl
  rw[this];rfl
 |[a],_=>rw[Pn];rfl
 |[a,b],_=>
  rw[HS,NZ,JP,IF _ _ _ (by omega)];simp only[zG];cases decide (pR a∧b.1=2)<;>rfl
 |a::b::c::t,h=>
  have hh:=h a b c t rfl;rw[HS,NZ,JP,fl,dM];simp only[zG];unfold nc at hh;by_cases h1:pR a∧b.1=2
  ·rw[zB h1,zA (fun h2=>hh ⟨h1.1,h1.2,h2⟩)];rfl
  ·rw[zA h1];rfl
theorem Pp {a b c:Sg}{t:List Sg}(hg: ∀x∈a::b::c::t,tN x)(hh:nc a b c)(ht:t≠[]):tz (a::b::c::t)=some (ft (a::b::c::t)):=by
 unfold tz;rw[HS,NZ,JP,fl,dM,zB ⟨hh.1,hh.2.1⟩,zB hh.2.2];simp only[zG,Bool.not_true,zD];rw[show rd (a::b::c::t) 1=some b from rfl];simp only[zG];rw[I5 (np (hg b (by simp))).1];simp only[zG];have l4:=OH (a::b::c::t) 4;have l5:=OH (a::b::c::t) 5;have l6:=OH (a::b::c::t) 6;have l8:=OH (a::b::c::t) 8;simp only[aB]at l4 l5 l6 l8
 match t,ht,hg with
 |[d],_,hg=>
  have er:ft [a,b,c,d]=if d.1=2 then(if b.2.2.2≤2147483647 then(5,b.2.2.2,0,0,d.2.2.2,0)else na 7)else na 3:=by
   by_cases hd:d.1=2
   ·rw[zE hd];exact zE ⟨hh,hd⟩
   ·rw[zF hd];exact zF (fun h=>hd h.2)
  rw[er,Rx,NZ,JP,fl,dN,show rd [a,b,c,d] 3=some d from rfl];by_cases hd:d.1=2
  ·rw[zB hd,zE hd];by_cases hb:b.2.2.2≤2147483647
   ·rw[zE hb,zE hb];rfl
   ·rw[zF hb,zF hb];rfl
  ·rw[zA hd,zF hd];rfl
 |[d,e],_,hg=>
  have er:ft [a,b,c,d,e]=if pR d∧e.1=2 then(if b.2.2.2≤2147483647∧e.2.2.2≤2147483647 then(6,b.2.2.2,e.2.2.2,0,0,0)else na 7)else na 3:=by
   by_cases hd:pR d∧e.1=2
   ·rw[zE hd];exact zE ⟨hh,hd⟩
   ·rw[zF hd];exact zF (fun h=>hd h.2)
  rw[er,Pm,Pk,Pj,HS,show rd [a,b,c,d,e] 4=some e from rfl];by_cases hd:pR d∧e.1=2
  ·rw[zB hd,zE hd];have hn:=I5 (a:=e.1) (b:=e.2.1) (c:=e.2.2.1) (np (hg e (by simp))).1;show((bv e.1 e.2.1 e.2.2.1 e.2.2.2).bind _)=_;rw[hn];simp only[zG];by_cases hb:b.2.2.2≤2147483647
   ·by_cases he:e.2.2.2≤2147483647
    ·rw[zE hb,zE he,zE ⟨hb,he⟩];rfl
    ·rw[zE hb,zF he,zF (fun h=>he h.2)];rfl
   ·rw[zF hb,zF (show¬(b.2.2.2≤2147483647∧e.2.2.2≤2147483647)from fun h=>hb h.1)];rfl
  ·rw[zA hd,zF hd];rfl
 |[d,e,f],_,hg=>
  have er:ft [a,b,c,d,e,f]=if lh d 45∧pR e∧f.1=2 then(if b.2.2.2≤2147483647∧f.2.2.2≤2147483647 then(4,b.2.2.2,f.2.2.2,0,0,0)else na 7)else na 3:=by
   by_cases hd:lh d 45∧pR e∧f.1=2
   ·rw[zE hd];exact zE ⟨hh,hd⟩
   ·rw[zF hd];exact zF (fun h=>hd h.2)
  rw[er,Rx a _ 3 [45],NZ b _ 3 [45],JP c _ 3 [45],fl d _ 3 [45],dM,RO,Pm,Pk,Pj,HS,show rd [a,b,c,d,e,f] 5=some f from rfl];by_cases hd:lh d 45
  ·rw[zB hd];by_cases he:pR e∧f.1=2
   ·rw[zB he,zE (show lh d 45∧pR e∧f.1=2 from⟨hd,he⟩)];have hn:=I5 (a:=f.1) (b:=f.2.1) (c:=f.2.2.1) (np (hg f (by simp))).1;show((bv f.1 f.2.1 f.2.2.1 f.2.2.2).bind _)=_;rw[hn];simp only[zG];by_cases hb:b.2.2.2≤2147483647
    ·by_cases hf:f.2.2.2≤2147483647
     ·rw[zE hb,zE hf,zE ⟨hb,hf⟩];rfl
     ·rw[zE hb,zF hf,zF (fun h=>hf h.2)];rfl
    ·rw[zF hb,zF (show¬(b.2.2.2≤2147483647∧f.2.2.2≤2147483647)from fun h=>hb h.1)];rfl
   ·rw[zA he,zF (show¬(lh d 45∧pR e∧f.1=2)from fun h=>he h.2)];rfl
  ·rw[zA hd,zF (show¬(lh d 45∧pR e∧f.1=2)from fun h=>hd h.1)];rfl
 |[d,e,f,g],_,hg=>rfl
 |[d,e,f,g,k],_,hg=>
  have er:ft [a,b,c,d,e,f,g,k]=if(pR d∧e.1=2)∧(lh f 43∨lh f 45∨lh f 42)∧pR g∧k.1=2 then
    (if b.2.2.2≤2147483647∧e.2.2.2≤2147483647∧k.2.2.2≤2147483647 then(ED f,b.2.2.2,e.2.2.2,k.2.2.2,0,0)else na 7)else na 3:=by
   by_cases hd:(pR d∧e.1=2)∧(lh f 43∨lh f 45∨lh f 42)∧pR g∧k.1=2
   ·rw[zE hd];exact zE ⟨hh,hd⟩
   ·rw[zF hd];exact zF (fun h=>hd h.2)
  rw[er,Pm a,Pk b,Pj c,HS d,Tk a,Tj b,RO c,Pm d,Pk e,Pj f,HS g,Td a,Tc b,Rx c,NZ d,JP e,fl f,dM,Td a,Tc b,Rx c,NZ d,JP e,fl f,dM,Td a,Tc b,Rx c,NZ d,JP e,fl f,dM,
   show rd [a,b,c,d,e,f,g,k] 4=some e from rfl,show rd [a,b,c,d,e,f,g,k] 7=some k from rfl,show rd [a,b,c,d,e,f,g,k] 5=some f from rfl]
  by_cases hd:pR d∧e.1=2
  ·rw[zB hd];by_cases hgk:pR g∧k.1=2
   ·rw[zB hgk];by_cases hm:lh f 43∨lh f 45∨lh f 42
    ·rw[zE (show(pR d∧e.1=2)∧(lh f 43∨lh f 45∨lh f 42)∧pR g∧k.1=2 from⟨hd,hm,hgk⟩)]
     have hs:(cond (decide (lh f 43)) (some true) ((some (decide (lh f 45))).bind fun r31=>cond r31 (some true) ((some (decide (lh f 42))).bind fun r32=>some r32)):Option Bool)=some true:=by
      rcases hm with h|h|h
      ·rw[zB h];rfl
      ·rw[zB h];cases decide (lh f 43)<;>rfl
      ·rw[zB h];cases decide (lh f 43)<;>cases decide (lh f 45)<;>rfl
     show((cond (decide (lh f 43)) (some true) ((some (decide (lh f 45))).bind fun r31=>cond r31 (some true) ((some (decide (lh f 42))).bind fun r32=>some r32)):Option Bool).bind _)=_;rw[hs];show((bv e.1 e.2.1 e.2.2.1 e.2.2.2).bind _)=_;rw[I5 (np (hg e (by simp))).1];simp only[zG];rw[I5 (np (hg k (by simp))).1];simp only[zG]
     have hk:((cond (decide (f.2.2.1=[45])) (some ((2:Int),(if b.2.2.2≤2147483647 then(b.2.2.2,true)else(0,false)).1)) (some (1,(if b.2.2.2≤2147483647 then(b.2.2.2,true)else(0,false)).1))).bind fun s39=>(cond (decide (f.2.2.1=[42])) (some (3,s39.2)) (some (s39.1,s39.2))))=some (ED f,(if b.2.2.2≤2147483647 then(b.2.2.2,true)else(0,false)).1):=by
      unfold ED;by_cases k42:f.2.2.1=[42]
      ·rw[zB k42,zE k42];cases decide (f.2.2.1=[45])<;>rfl
      ·rw[zA k42,zF k42];by_cases k45:f.2.2.1=[45]
       ·rw[zB k45,zE k45];rfl
       ·rw[zA k45,zF k45];rfl
     rw[←Option.bind_assoc,hk];simp only[zG];by_cases hb:b.2.2.2≤2147483647
     ·by_cases he:e.2.2.2≤2147483647
      ·by_cases hk:k.2.2.2≤2147483647
       ·rw[zE hb,zE he,zE hk,zE ⟨hb,he,hk⟩];rfl
       ·rw[zE hb,zE he,zF hk,zF (fun h=>hk h.2.2)];rfl
      ·rw[zE hb,zF he,zF (show¬(b.2.2.2≤2147483647∧e.2.2.2≤2147483647∧k.2.2.2≤2147483647)from fun h=>he h.2.1)];rfl
     ·rw[zF hb,zF (show¬(b.2.2.2≤2147483647∧e.2.2.2≤2147483647∧k.2.2.2≤2147483647)from fun h=>hb h.1)];rfl
    ·rw[zF (show¬((pR d∧e.1=2)∧(lh f 43∨lh f 45∨lh f 42)∧pR g∧k.1=2)from fun h=>hm h.2.1),zA (fun h=>hm (.inl h)),zA (fun h=>hm (.inr (.inl h))),zA (fun h=>hm (.inr (.inr h)))];rfl
   ·rw[zA hgk,zF (show¬((pR d∧e.1=2)∧(lh f 43∨lh f 45∨lh f 42)∧pR g∧k.1=2)from fun h=>hgk h.2.2)];rfl
  ·rw[zA hd,zF (show¬((pR d∧e.1=2)∧(lh f 43∨lh f 45∨lh f 42)∧pR g∧k.1=2)from fun h=>hd h.1)];rfl
 |d::e::f::g::k::m::t,_,hg=>
  simp only[aB]at l4 l5 l6 l8;rw[zA (by omega)]at l4 l5 l6 l8;simp only[aB];rw[show decide ((((t.length+1+1+1+1+1+1+1+1+1:Nat)):Int)=4)=false from l4,show decide ((((t.length+1+1+1+1+1+1+1+1+1:Nat)):Int)=5)=false from l5,show decide ((((t.length+1+1+1+1+1+1+1+1+1:Nat)):Int)=6)=false from l6,show decide ((((t.length+1+1+1+1+1+1+1+1+1:Nat)):Int)=8)=false from l8];rfl
theorem Lh {a b c:Sg}{t:List Sg}(h: ¬nc a b c):ft (a::b::c::t)=(match t with
  |[]=>ft [a,b,c]
  |_=>na 3):=by
 match t with
 |[]=>rfl
 |[d]=>exact zF (fun e=>h e.1)
 |[d,e]=>exact zF (fun e=>h e.1)
 |[d,e,f]=>exact zF (fun e=>h e.1)
 |[d,e,f,g]=>rfl
 |[d,e,f,g,k]=>exact zF (fun e=>h e.1)
 |_::_::_::_::_::_::_=>rfl
theorem Ng {l:List Sg}(hg: ∀x∈l,tN x):oi l=some (ft l):=by
 unfold oi;have hrest: ∀(s:Unit⊕Unit),s= .inr ()→True:=fun _ _=>trivial
 match l,hg with
 |[],hg=>
  show tz []=_;exact pH (fun a b c t h=>by cases h)
 |[a],hg=>
  rw[fl,dM];by_cases ha:lh a 125
  ·have er:ft [a]=_:=zE ha;rw[zB ha,er];rfl
  ·have er:ft [a]=_:=zF ha;rw[zA ha,er];show tz [a]=_;exact pH (fun a b c t h=>by cases h)
 |[a,b],hg=>
  show tz [a,b]=_;exact pH (fun a b c t h=>by cases h)
 |[a,b,c],hg=>
  rw[fl a _ 1 [114,101,112,101,97,116],dW _ _ (by decide),JP a _ 2 [],fl b _ 2 [],dN,NZ a _ 3 [123],JP b _ 3 [123],fl c _ 3 [123],dM c 123,show rd [a,b,c] 1=some b from rfl];by_cases h1:a.1=1∧a.2.2.1=[114,101,112,101,97,116]
  ·have nh: ∀a' b' c' t,[a,b,c]=a'::b'::c'::t→¬nc a' b' c':=fun a' b' c' t h e=>by
    injection h with h2 h3
    subst h2;have:=e.1.2;rw[h1.2]at this;cases this
   by_cases h2:b.1=2
   ·by_cases h3:lh c 123
    ·have er:ft [a,b,c]=_:=zE ⟨h1,h2,h3⟩;rw[zB h1,zB h2,zB h3,er];rfl
    ·have er:ft [a,b,c]=_:=zF (fun h=>h3 h.2.2);rw[zB h1,zB h2,zA h3,er];show tz [a,b,c]=_;exact pH nh
   ·have er:ft [a,b,c]=_:=zF (fun h=>h2 h.2.1);rw[zB h1,zA h2,er];show tz [a,b,c]=_;exact pH nh
  ·have er:ft [a,b,c]=_:=zF (fun h=>h1 h.1);rw[zA h1,er];show tz [a,b,c]=_;by_cases hh:nc a b c
   ·unfold tz;rw[HS,NZ,JP,fl,dM,zB ⟨hh.1,hh.2.1⟩,zB hh.2.2];simp only[zG,Bool.not_true,zD];rw[show rd [a,b,c] 1=some b from rfl];simp only[zG];rw[I5 (np (hg b (by simp))).1];rfl
   ·exact pH (fun a' b' c' t h e=>by injection h with h2 h3;injection h3 with h3 h4;injection h4 with h4 h5;subst h2;subst h3;subst h4;exact hh e)
 |a::b::c::d::t,hg=>
  have l1:decide (((aA (a::b::c::d::t):Nat):Int)=1)=false:=zA (by simp only[aB];omega);have l3:decide (((aA (a::b::c::d::t):Nat):Int)=3)=false:=zA (by simp only[aB];omega);rw[l1,l3];show tz (a::b::c::d::t)=_;by_cases hh:nc a b c
  ·exact Pp hg hh (List.cons_ne_nil _ _)
  ·rw[Lh hh];exact pH (fun a' b' c' t' h e=>by injection h with h2 h3;injection h3 with h3 h4;injection h4 with h4 h5;subst h2;subst h3;subst h4;exact hh e)
end
section
open Bool renaming not_true → aB
open Int renaming le_refl → aA
open List renaming getElem?_eq_getElem → aC, getElem_mem → aD, length_cons → aE, mem_singleton → aF
def Qd :List Int:=[114,101,103,115]
def tv :List Sg→Int×Int
 |[a,b]=>if(a.1=1∧a.2.2.1=Qd)∧b.1=2 then(if b.2.2.2≤2147483647 then(b.2.2.2,0)else(0,7))else(0,3)
 |_=>(0,3)
theorem Mw {l:List Sg}(hg: ∀x∈l,tN x)(h:bz l=[119,110]): ∃a b,l=[a,b]∧a.1=1∧b.1=2:=by
 obtain⟨a,t,rfl,h2,h3⟩:=ru hg (by omega) h;obtain⟨b,t,rfl,h5,h6⟩:=ru (fun x hx=>hg x (by simp[hx])) (by omega) h3;obtain rfl:=mb h6;exact⟨a,b,rfl,Ij (hg a (by simp)) h2,Gc (hg b (by simp)) h5⟩
theorem Qu {l:List Sg}(hl:l.length≤100000)(hg: ∀x∈l,tN x):jZ l=some (tv l):=by
 unfold jZ;rw[Ko hl hg,EQ hl];simp only[zG];by_cases h:bz l=[119,110]
 ·obtain⟨a,b,rfl,ha,hb⟩:=Mw hg h;rw[zA (fun e=>e h),zD,show rd [a,b] 0=some a from rfl];simp only[zG];by_cases hr:a.2.2.1=Qd
  ·have er:tv [a,b]=_:=zE ⟨⟨ha,hr⟩,hb⟩;have en:dq [a,b]=[b.2.2.2]:=by rw[MW ha,pG hb];rfl
   rw[zA (fun e=>e hr),zD,er,en,yH (by simp)];simp only[zG];have hn:=(np (hg b (by simp))).1;by_cases hs:b.2.2.2≤2147483647
   ·have:fG [b.2.2.2]=true:=by unfold fG;simp;omega
    rw[this,zE hs,show ix 0 [b.2.2.2].length=some 0 from rfl];simp only[aB,zD,zG];show some (IntKind.i64.wrap b.2.2.2,(0:Int))=_;rw[AV hn hs]
   ·have:fG [b.2.2.2]=false:=by unfold fG;rw[Bool.eq_false_iff];simp;omega
    rw[this,zF hs];rfl
  ·have er:tv [a,b]=_:=zF (fun e=>hr e.1.2);rw[zB (show a.2.2.1≠[114,101,103,115]from hr),zC,er]
 ·rw[zB h,zC];simp only[zG,zC]
  have er:tv l=(0,3):=by
   match l,h with
   |[],_=>rfl
   |[a],_=>rfl
   |[a,b],h=>exact zF (fun e=>h (by rw[Dj e.1.1 (by rw[e.1.2];decide),zW e.2];rfl))
   |_::_::_::_,_=>rfl
  rw[er]
abbrev BK :=Int×Int×Int×Int×Int
abbrev tJ :=Bool×Int×List BK
def Ud (t:Int×Int×Int×Int×Int×Int):BK:=(t.1,t.2.1,t.2.2.1,t.2.2.2.1,t.2.2.2.2.1)
def oc (x:List Int)(s:tJ):Int⊕tJ:=
 if(be x).2.1≠0 then .inl (be x).2.1 else
 if(be x).2.2=[]then .inr s else
 if s.1=false then(if(tv (be x).2.2).2≠0 then .inl (tv (be x).2.2).2 else .inr (true,(tv (be x).2.2).1,s.2.2))else
 if(ft (be x).2.2).2.2.2.2.2≠0 then .inl (ft (be x).2.2).2.2.2.2.2 else .inr (s.1,s.2.1,s.2.2++[Ud (ft (be x).2.2)])
def Eb (n:Nat)(s:tJ):Int×Int×Int×List BK:=if s.1=true then(s.2.1,0,0,s.2.2)else(0,(n:Int),3,[])
def qL (n:Nat):List (List Int)→Nat→tJ→Int×Int×Int×List BK
 |[],_,s=>Eb n s
 |x::R,i,s=>match oc x s with
  | .inl e=>(0,(i:Int),e,[])
  | .inr s'=>qL n R (i+1) s'
theorem Mp {l:List Sg}(hg: ∀x∈l,tN x):0≤(tv l).1:=by
 match l,hg with
 |[],_=>exact aA _
 |[a],_=>exact aA _
 |[a,b],hg=>
  have:=(np (hg b (by simp))).1;show 0≤(if _ then(if _ then _ else _)else _:Int×Int).1;split
  ·split
   ·exact this
   ·exact aA _
  ·exact aA _
 |_::_::_::_,_=>exact aA _
theorem Px {x:List Int}{s s':tJ}{i:Nat}(h:oc x s= .inr s')(h1:s.2.2.length≤i)(h2:0≤s.2.1):s'.2.2.length≤i+1∧0≤s'.2.1:=by
 unfold oc at h;split at h
 ·cases h
 ·split at h
  ·injection h with h;subst h;exact⟨by omega,h2⟩
  ·split at h
   ·split at h
    ·cases h
    ·injection h with h
     subst h;exact⟨by simp only;omega,Mp (oH x)⟩
   ·split at h
    ·cases h
    ·injection h with h
     subst h;exact⟨by simp;omega,h2⟩
theorem C9 {α δ:Type}{f:α→Option (α⊕δ)}{R0:List (List Int)}(E:Nat→tJ→α)(ex:Nat→Int→tJ→δ)(fi:tJ→δ)(g:δ→Option (Int×Int×Int×List BK))
  (hst: ∀(i:Nat) (s:tJ) (hi:i<R0.length),s.2.2.length≤i→0≤s.2.1→f (E i s)=some (match oc R0[i] s with
   | .inl e=> .inr (ex i e s)
   | .inr s'=> .inl (E (i+1) s'))) (hend: ∀s:tJ,0≤s.2.1→f (E R0.length s)=some (.inr (fi s)))
  (hex: ∀i e s,g (ex i e s)=some (0,(i:Int),e,[])) (hfi: ∀s:tJ,0≤s.2.1→g (fi s)=some (Eb R0.length s)):
  ∀(d i m:Nat) (s:tJ),i+d=R0.length→s.2.2.length≤i→0≤s.2.1→d<m→(aw f m (E i s)).bind g=some (qL R0.length (R0.drop i) i s)
 |0,i,m+1,s,h,h1,h2,hm=>by
  have:i=R0.length:=by omega
  subst this;rw[cf,hend s h2,List.drop_length];exact hfi s h2
 |d+1,i,m+1,s,h,h1,h2,hm=>by
  have hi:i<R0.length:=by omega
  rw[cf,hst i s hi h1 h2,List.drop_eq_getElem_cons hi];unfold qL;cases hz:oc R0[i] s with
  |inl e=>exact hex i e s
  |inr s'=>
   simp only[zG,mj];obtain⟨k1,k2⟩:=Px hz h1 h2;exact C9 E ex fi g hst hend hex hfi d (i+1) m s' (by omega) k1 k2 (by omega)
theorem yx : ∀(l cur:List Int) (L:List Int),L∈gK l cur→L.length≤l.length+cur.length∧(cI l→cI cur→cI L)
 |[],cur,L,h=>by
  unfold gK at h;split at h
  ·cases h
  ·rw[aF]at h;subst h;exact⟨by omega,fun _ h=>h⟩
 |x::r,cur,L,h=>by
  by_cases hx:x=10
  ·subst hx;rw[vI,List.mem_cons]at h;rcases h with rfl|h
   ·exact⟨by simp,fun _ h=>h⟩
   ·obtain⟨h1,h2⟩:=yx r [] L h;exact⟨by simp at h1⊢;omega,fun hb _=>h2 (fun n hn=>hb n (by simp[hn])) (fun n hn=>by cases hn)⟩
  ·have:=ng [x] r cur (by simpa using hx);rw[show x::r=[x]++r from rfl,this]at h;obtain⟨h1,h2⟩:=yx r (cur++[x]) L h;refine⟨by simp at h1⊢;omega,fun hb hc=>h2 (fun n hn=>hb n (by simp[hn])) (hc.app fun n hn=> ?_)⟩;rw[aF]at hn;subst hn;exact hb _ (by simp)
section
variable {l:List Int}
theorem Pe (hb:cI l)(hl:l.length≤65536):eZ l=some (qL (gK l []).length (gK l []) 0 (false,0,[])):=by
 have hlen:=Bu l []
 have hm: ∀(i:Nat) (hi:i<(gK l []).length),cI (gK l [])[i]∧(gK l [])[i].length≤100000:=fun i hi=>by
  obtain⟨h1,h2⟩:=yx l [] _ (aD hi);exact⟨h2 hb (fun n hn=>by cases hn),by simp at h1;omega⟩
 obtain⟨m,hB,hBm⟩: ∃m,di=m∧200000<m:=⟨di,rfl,by unfold di;omega⟩
 unfold eZ;rw[zA (show¬(65536:Int)<((l.length:Nat):Int)by omega),zD,ve hb (by omega)];simp only[zG]
 have:=C9 (f:=gj (gK l [])) (R0:=gK l []) (fun i s=>((i:Int),s)) (fun i e s=> .inl ((i:Int),e)) (fun s=> .inr s)
  (fun r13=>bt r13 (fun u'14=>some ((0,u'14.1,u'14.2,[]))) (fun w15=>cond (!w15.1) (some ((0,(((List.length (gK l [])):Nat):Int),3,[]))) (some ((w15.2.1,0,0,w15.2.2)))))
  (fun i s hi hs hn=> ?_) (fun s hn=> ?_) (fun i e s=>rfl) (fun s hn=> ?_) (gK l []).length 0 m (false,0,[]) (by omega) (by simp) (aA _) (by omega)
 ·rw[hB];exact this
 ·obtain⟨k1,k2⟩:=hm i hi;have hgood:=oH (gK l [])[i];have hgl:=vd (gK l [])[i];unfold gj oc;simp only;rw[zB (show(i:Int)<(((gK l []).length:Nat):Int)by omega),zC,dC hi];simp only[zG];rw[aC hi];simp only[zG];rw[AP k1 k2];simp only[zG];generalize be (gK l [])[i]=S at*;by_cases h1:S.2.1≠0
  ·rw[zB h1,zC,zE h1]
  ·rw[zA h1,zD,zF h1];by_cases h2:S.2.2=[]
   ·rw[zB (show(((S.2.2.length:Nat)):Int)=0 by rw[h2];rfl),zC,zE h2,od (by omega)]
   ·rw[zA (show¬((((S.2.2.length:Nat)):Int)=0)from fun e=>h2 (List.length_eq_zero_iff.1 (by omega))),zD,zF h2];obtain⟨sb,sr,so⟩:=s;cases sb with
    |false=>
     simp only[Bool.not_false,zC,if_true];rw[Qu (by omega) hgood];simp only[zG];by_cases h3:(tv S.2.2).2≠0
     ·rw[zB h3,zC,zE h3]
     ·rw[zA h3,zD,zF h3,od (by omega)]
    |true=>
     simp only[aB,zD];rw[zF (by decide),QO (by omega) hgood];simp only[zG];simp only at hs;rw[fO (by omega) (by omega)];by_cases h3:(ft S.2.2).2.2.2.2.2≠0
     ·rw[zB h3,zC,zE h3]
     ·rw[zA h3,zD,zF h3,od (by omega)];rfl
 ·unfold gj;simp only;rw[zA (show¬(((gK l []).length:Nat):Int)<(((gK l []).length:Nat):Int)by omega),zD]
 ·obtain⟨sb,sr,so⟩:=s;cases sb<;>rfl
theorem Li (hb:cI l)(hl:l.length≤65536):gG l=some (qL (gK l []).length (gK l []) 0 (false,0,[])):=by
 have hlen:=Bu l []
 have hm: ∀(i:Nat) (hi:i<(gK l []).length),cI (gK l [])[i]∧(gK l [])[i].length≤100000:=fun i hi=>by
  obtain⟨h1,h2⟩:=yx l [] _ (aD hi);exact⟨h2 hb (fun n hn=>by cases hn),by simp at h1;omega⟩
 obtain⟨m,hB,hBm⟩: ∃m,di=m∧200000<m:=⟨di,rfl,by unfold di;omega⟩
 unfold gG;rw[zA (show¬(65536:Int)<((l.length:Nat):Int)by omega),zD,EW hb (by omega)];simp only[zG]
 have:=C9 (f:=iB (gK l [])) (R0:=gK l []) (fun i s=>((i:Int),cond s.1 s.2.1 (-1),s.2.2)) (fun i e s=> .inl ((i:Int),e,cond s.1 s.2.1 (-1),s.2.2)) (fun s=> .inr (cond s.1 s.2.1 (-1),s.2.2))
  (fun r17=>bt r17 (fun u'18=>some ((0,u'18.1,u'18.2.1,[]))) (fun w19=>cond (decide (w19.1<0)) (some ((0,(((List.length (gK l [])):Nat):Int),3,[]))) (some ((w19.1,0,0,w19.2)))))
  (fun i s hi hs hn=> ?_) (fun s hn=> ?_) (fun i e s=>rfl) (fun s hn=> ?_) (gK l []).length 0 m (false,0,[]) (by omega) (by simp) (aA _) (by omega)
 ·rw[hB];exact this
 ·obtain⟨k1,k2⟩:=hm i hi;have hgood:=oH (gK l [])[i];have hgl:=vd (gK l [])[i];unfold iB oc;simp only;rw[zB (show(i:Int)<(((gK l []).length:Nat):Int)by omega),zC,dC hi];simp only[zG];rw[aC hi];simp only[zG];rw[EX k1 k2];simp only[zG];generalize be (gK l [])[i]=S at*;by_cases h1:S.2.1≠0
  ·rw[zB h1,zC,zE h1]
  ·rw[zA h1,zD,zF h1];by_cases h2:S.2.2=[]
   ·rw[zB (show(((S.2.2.length:Nat)):Int)=0 by rw[h2];rfl),zC,zE h2,od (by omega)]
   ·rw[zA (show¬((((S.2.2.length:Nat)):Int)=0)from fun e=>h2 (List.length_eq_zero_iff.1 (by omega))),zD,zF h2];obtain⟨sb,sr,so⟩:=s;cases sb with
    |false=>
     simp only[zD,if_true];rw[show decide ((-1:Int)<0)=true from rfl,zC];generalize S.2.2=L at*
     match L,h2,hgood with
     |[a],_,_=>rfl
     |[a,b],_,hgood=>
      have hn:=(np (hgood b (by simp))).1
      rw[show decide ((((([a,b]:List Sg).length:Nat)):Int)≠2)=false from rfl,zD,fl a _ 1 [114,101,103,115],dW _ _ (by decide),JP a _ 2 [],fl b _ 2 [],dN,
       show ix 1 ([a,b]:List Sg).length=some 1 from rfl]
      simp only[zG];by_cases ha:a.1=1∧a.2.2.1=[114,101,103,115]
      ·rw[zB ha];by_cases hb2:b.1=2
       ·have er:tv [a,b]=_:=zE ⟨ha,hb2⟩;rw[zB hb2,er];simp only[aB,zD];show((bv b.1 b.2.1 b.2.2.1 b.2.2.2).bind _)=_;rw[I5 hn];simp only[zG];by_cases hs2:b.2.2.2≤2147483647
        ·rw[zE hs2,zE hs2];simp only[aB,zD];rw[zF (by decide),od (by omega)];rfl
        ·rw[zF hs2,zF hs2];rfl
       ·have er:tv [a,b]=_:=zF (fun h=>hb2 h.2);rw[zA hb2,er];rfl
      ·have er:tv [a,b]=_:=zF (fun h=>ha h.1);rw[zA ha,er];rfl
     |a::b::c::t,_,_=>
      rw[zB (show((((a::b::c::t).length:Nat)):Int)≠2 by simp only[aE];omega)];rfl
    |true=>
     simp only[zC];simp only at hn;rw[zA (show¬sr<0 by omega),zD,zF (by decide),Ng hgood];simp only[zG];simp only at hs;rw[fO (by omega) (by omega)];by_cases h3:(ft S.2.2).2.2.2.2.2≠0
     ·rw[zB h3,zC,zE h3]
     ·rw[zA h3,zD,zF h3,od (by omega)];rfl
 ·unfold iB;simp only;rw[zA (show¬(((gK l []).length:Nat):Int)<(((gK l []).length:Nat):Int)by omega),zD]
 ·obtain⟨sb,sr,so⟩:=s;cases sb with
  |false=>rfl
  |true=>
   simp only at hn;show cond (decide (sr<0)) _ _=_;rw[zA (by omega)];rfl
end
theorem HD (l:List BK)(hl:l.length≤1000000):mF l l=some true:=by
 unfold mF
 have h:=vK (f:=kn l l) (n:=l.length) (c:= .inr ()) (by omega) (fun i hi=>by
  unfold kn;rw[zB (show(i:Int)<((l.length:Nat):Int)by omega),zC,nK hi];simp only[zG,decide_true,Bool.and_self,aB,zD]
  rw[od (by omega)]) (by
  unfold kn
  rw[zA (show¬((l.length:Nat):Int)<((l.length:Nat):Int)by omega),zD])
 rw[zA (fun h=>h rfl),zD,h];rfl
theorem HW (n:Nat): ∀(R:List (List Int)) (i:Nat) (s:tJ),(qL n R i s).2.2.2.length≤R.length+s.2.2.length
 |[],_,s=>by
  unfold qL Eb;split<;>simp
 |x::R,i,s=>by
  unfold qL;cases hz:oc x s with
  |inl e=>simp
  |inr s'=>
   have h1:=HW n R (i+1) s'
   have h2:s'.2.2.length≤s.2.2.length+1:=by
    unfold oc at hz;split at hz
    ·cases hz
    ·split at hz
     ·injection hz with hz;subst hz;omega
     ·split at hz
      ·split at hz
       ·cases hz
       ·injection hz with hz;subst hz;simp
      ·split at hz
       ·cases hz
       ·injection hz with hz;subst hz;simp
   simp only[aE];omega
end
end Go.V
