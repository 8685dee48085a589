/- A part of the proof. No condition. -/
import Derived.Test.YtlaofmfngnkldaaGreatA11
import Derived.SizedLaws
set_option linter.all false
namespace Go.V
open Go.Ab
open Option renaming some->O,none->Z
open Bool renaming true->Za,false->Zb
open Decidable renaming decide->Zc
open List renaming length->b8
section
open List renaming getElem?_map->aB
def fieldAt (P:Program)(t:TypeId)(i:Nat):Option<|TypeId×Nat:=match P.underlying t with
 |some (.struct a)=>(a[i]?).map λf=>(f.type,f.offset)
 |_=>Z
section
variable {H:Type} {enc:TypeId×Value->H} {P:Program} {w:World} {base:Nat} {held:Bool}
def HJ {m:Nat}{t e:TypeId}{i o:Nat}{cs:List Value}{x:DataW H×List MemPlace}{R:Nat}(a:fieldAt P t i=O (e,o))(h:DataW.trod enc P w base (λ_=>Za) held m t cs=O x)(r: ∀n∈x.1.weights P t,n<=R):
  ∃m' l,DataW.trod enc P w base (λ_=>Za) held m' e ((cs.drop o).take<|P.cellsOf e)=O l/\∀n∈l.1.weights P e,n<=R:=by
 unfold fieldAt at a;split at a
 .rename_i fs hu;cases b:fs[i]? with
  |none=>rw[b]at a;cases a
  |some f=>
   rw[b,Option.map_some]at a;injection a with a
   injection a with p q
   subst p q;obtain⟨g,n,_,rfl,_,v,u⟩:=DataW.trod_struct hu h;have⟨hi,_⟩:=Array.getElem?_eq_some_iff.1 b;have c:g[i]?=O (g[i]' V1):=List.getElem?_eq_getElem V1;refine⟨n,_,(u i f b).trans c,λk s=>r k ?_⟩;simp only[DataW.weights,hu];refine DataW.weights_mem_each (j:=i) (t:=f.type) (d:=(g[i]' V1).1) ?_ ?_ k s
   .rw[aB,Array.getElem?_toList,b];rfl
   .rw[aB,c];rfl
 .cases a
theorem aq4 {m:Nat}{t e:TypeId}{cs:List Value}{x:DataW H×List MemPlace}{R:Nat}{s:Sh}{l:List<|El s}(i:P.underlying t=O (.slice e))(h:DataW.trod enc P w base (λ_=>Za) held m t cs=O x)(o: ∀n∈x.1.weights P t,n<=R)(p:fU w (.list s) cs l):b8 l*P.bytesOf e<=R:=by
 rcases p with⟨_,rfl⟩|⟨r,j,f,v,g,_,_,_,rfl,_⟩
 .simp
 rcases DataW.trod_slice i h with⟨b,_⟩|⟨a,len,k,c,d,n,_,b,rfl,_,_,_,q,_⟩
 .rw[g]at b;cases b
 rw[g]at b;injection b with b _
 injection b with _ b _
 subst b;have u:=o ((b8 c+b8 d)*P.bytesOf e) (by simp only[DataW.weights,i,List.length_map];exact List.mem_cons_self ..)
 grind
theorem fU.fst {a b:Sh}{cs:List Value}{y:El<|.pair a b}(h:fU w (.pair a b) cs y)(f:a.w=1):fU w a (cs.take 1) y.1/\fU w b (cs.drop 1) y.2:=by
 obtain⟨c,g,rfl,d,i⟩:=h;have e:b8 c=1:=d.len.trans f
 grind
def PX {t tp tl e:TypeId}{A B:Sh}{v:Value}{d:DataW H}{q:List MemPlace}{R:Nat}{y:El<|yS [.int .i64, .list A, .list A, .int .i64, .list B, .int .i64, .list B, .int .i64, .int .i64]}
  (r:fieldAt P t 3=O (tp,3)) (s:fieldAt P t 4=O (tp,5)) (k:fieldAt P tp 1=O (tl,1)) (o:P.cellsOf tp=2) (m:P.cellsOf tl=1) (p:P.underlying tl=O (.slice e))
  (u:DataW.Trod enc P w base (λ_=>Za) held t v d q) (l: ∀n∈d.weights P t,n<=R)
  (a:Fv w Za (yS [.int .i64, .list A, .list A, .int .i64, .list B, .int .i64, .list B, .int .i64, .int .i64]) v y):
  (b8 y.2.2.2.2.1)*P.bytesOf e<=R/\b8 y.2.2.2.2.2.2.1*P.bytesOf e<=R:=by
 have⟨c,f⟩:=u;obtain⟨b,rfl,a⟩:=a;have f:DataW.trod enc P w base (λ_=>Za) held c t b.toList=O (d,q):=f;generalize b.toList=b at*;obtain⟨_,a⟩:=fU.fst a rfl;obtain⟨_,a⟩:=fU.fst a rfl;obtain⟨_,a⟩:=fU.fst a rfl;obtain⟨_,a⟩:=fU.fst a rfl;obtain⟨E,a⟩:=fU.fst a rfl;obtain⟨_,a⟩:=fU.fst a rfl;obtain⟨F,a⟩:=fU.fst a rfl;constructor
 .obtain⟨x,C,g,i⟩:=HJ r f l;have⟨z,D,h,j⟩:=HJ k g i;refine aq4 p h j ?_;rw[o,m]
  have:(((b.drop 3).take 2).drop 1).take 1=((((b.drop 1).drop 1).drop 1).drop 1).take 1:=by
   simp only[List.drop_take,List.drop_drop,List.take_take];rfl
  rw[this];exact E
 .obtain⟨x,C,g,i⟩:=HJ s f l;have⟨z,D,h,j⟩:=HJ k g i;refine aq4 p h j ?_;rw[o,m]
  have:(((b.drop 5).take 2).drop 1).take 1=((((((b.drop 1).drop 1).drop 1).drop 1).drop 1).drop 1).take 1:=by
   simp only[List.drop_take,List.drop_drop,List.take_take];rfl
  rw[this];exact F
end
end
end Go.V
