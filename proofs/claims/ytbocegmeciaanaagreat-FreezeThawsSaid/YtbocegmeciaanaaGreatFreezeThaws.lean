import Derived.Test.YtbocegmeciaanaaGreatL4
import Derived.Test.YtbocegmeciaanaaGreatP1
import Derived.Test.YtbocegmeciaanaaGreatA6
import Derived.ProofKit
import Derived.OpenShut
import Derived.ShutString
import Derived.ChangeOld
import Derived.Below
namespace Go.Proofs.YtbocegmeciaanaaGreat
open Go.ChangeShapes Go.WideShapes Go.ChangeAt Go.RowKit
set_option linter.unusedVariables false
theorem q_own:ownKnob Tryz.prog.godebug=none:=by kernel_rfl
theorem q_laid:laidOutB Tryz.prog=true:=by kernel_rfl
def q_ks:List (Bool×V.Sh):=[(true,V.aJ7 [(.int .i64),(.list (.int .u64)),(.list (.int .u64)),(.int .i64),(.list (.pair (.int .i64) (.pair (.int .i64) (.pair (.int .i64) (.pair (.int .i64) (.int .u64)))))),(.int .i64),(.list (.pair (.int .i64) (.pair (.int .i64) (.pair (.int .i64) (.pair (.int .i64) (.int .u64)))))),(.int .i64),(.int .i64)]),(true,V.aJ7 [(.int .i64),(.list (.int .u64)),(.list (.int .u64)),(.int .i64),(.list (.pair (.int .i64) (.pair (.int .i64) (.pair (.int .i64) (.pair (.int .i64) (.int .u64)))))),(.int .i64),(.list (.pair (.int .i64) (.pair (.int .i64) (.pair (.int .i64) (.pair (.int .i64) (.int .u64)))))),(.int .i64),(.int .i64)]),(false,V.aJ7 [(.list (.pair (.int .i64) (.int .i64)))])]
set_option maxRecDepth 1000000 in
theorem q_walk (w:World) (vs:Array Value) (x:V.All q_ks) (hA:V.cm3 w q_ks vs.toList x) :
  Calls Tryz.prog 6 vs w fun e w'=>e=.returned (.bool true)/\Below w.heap.size w w':=by
 obtain ⟨⟨c0,c1,c2,c3,c4,c5,c6,c7,c8⟩,⟨d0,d1,d2,d3,d4,d5,d6,d7,d8⟩,x2⟩:=x
 have hB:=hA
 obtain ⟨_,_,_,b0,hB⟩:=hB
 obtain ⟨_,_,_,b1,hB⟩:=hB
 obtain ⟨_,_,b2⟩:=hB
 have f0:=V.bl2.fine b0
 have f1:=V.bl2.fine b1
 have f2:=V.bl2.fine b2
 refine V.dm8 (vals:=V.ym.vals) (run:=V.ym.run) V.bl1 (fun h=>(h (by kernel_rfl)).elim) q_ks ((c0,c1,c2,c3,c4,c5,c6,c7,c8),(d0,d1,d2,d3,d4,d5,d6,d7,d8),x2) (c0,c1,c2,c3,c4,c5,c6,c7,c8,d0,d1,d2,d3,d4,d5,d6,d7,d8,x2) hA (by kernel_rfl) ?_
 exact V.cG3 (fun v hv=>⟨(f0.2.1.2 v hv).1,Int.lt_of_le_of_lt (f0.2.1.2 v hv).2 (by decide)⟩) (fun v hv=>⟨(f0.2.2.1.2 v hv).1,Int.lt_of_le_of_lt (f0.2.2.1.2 v hv).2 (by decide)⟩) (fun o ho=>(f0.2.2.2.2.1.2 o ho).2.2.2.2) (fun o ho=>(f0.2.2.2.2.2.2.1.2 o ho).2.2.2.2) (fun o ho=>(f1.2.2.2.2.1.2 o ho).2.2.2.2) (fun o ho=>(f1.2.2.2.2.2.2.1.2 o ho).2.2.2.2)
set_option maxRecDepth 1000000 in
theorem q_lifted (os:Os) (started:os.Started) (H:Type) (enc:TypeId × Value->H) :
  ReturnsInHanded {} Tryz.checked os 6 .any (Rows.freezeThawsSpec.pre6 enc Tryz.prog Tryz.f6 Rows.freezeThawsRow.domain false) (Rows.freezeThawsSpec.post enc Tryz.prog Tryz.f6 false true false false):=by
 refine returnsInHanded_of_change (C:=Tryz.checked) q_own started (by kernel_rfl) Tryz.func6
  (ChangeSpec.witness6 (enc:=enc) (C:=Tryz.checked) false ⟨#[],#[.agg #[.int .i64 0,.slice none 0 0,.slice none 0 0,.int .i64 0,.slice none 0 0,.int .i64 0,.slice none 0 0,.int .i64 0,.int .i64 0],.agg #[.int .i64 0,.slice none 0 0,.slice none 0 0,.int .i64 0,.slice none 0 0,.int .i64 0,.slice none 0 0,.int .i64 0,.int .i64 0],.slice none 0 0],[]⟩ 8 (by kernel_rfl) (by kernel_rfl) (by kernel_rfl) (by kernel_rfl)) ?_
 intro W base args ds gs before hval0 hW hcnd _
 have hval:∀ (j:Nat) t v,Tryz.f6.params[j]?=some t->args[j]?=some v->Value.okWide Tryz.prog W .any base t v:=hval0
 have hW':=hW
 obtain ⟨p,q,hA0,hV,rfl,hfz,hnd⟩:=hW
 have hA:DataW.TrodAll enc Tryz.prog W 0 (fun _=>true) true Tryz.f6.params.toList args.toList ds p:=hA0
 rw [Tryz.params6] at hA hval
 obtain ⟨v0,vs0,d0,ds0,p0,q0,hargs,rfl,rfl,h0,r0⟩:=trodAll_cons hA
 obtain ⟨v1,vs1,d1,ds1,p1,q1,rfl,rfl,rfl,h1,r1⟩:=trodAll_cons r0
 obtain ⟨v2,vs2,d2,ds2,p2,q2,rfl,rfl,rfl,h2,r2⟩:=trodAll_cons r1
 obtain ⟨rfl,rfl,rfl⟩:=trodAll_nil r2
 obtain rfl:args=#[v0,v1,v2]:=by cases args; simp_all
 obtain ⟨rfl,rfl⟩:=trodVars_none hV
 have k0:=h0
 have lt0:∀ x ∈ p0,x.block < W.heap.size:=by obtain ⟨m,hm⟩:=k0; exact DataW.trod_lt m _ _ _ hm
 obtain ⟨y0,w0⟩:=V.bW3 (n:=12) (l:=[(.int .i64),(.list (.int .u64)),(.list (.int .u64)),(.int .i64),(.list (.pair (.int .i64) (.pair (.int .i64) (.pair (.int .i64) (.pair (.int .i64) (.int .u64)))))),(.int .i64),(.list (.pair (.int .i64) (.pair (.int .i64) (.pair (.int .i64) (.pair (.int .i64) (.int .u64)))))),(.int .i64),(.int .i64)]) (show V.ad0 Tryz.prog 12 27=some [(.int .i64),(.list (.int .u64)),(.list (.int .u64)),(.int .i64),(.list (.pair (.int .i64) (.pair (.int .i64) (.pair (.int .i64) (.pair (.int .i64) (.int .u64)))))),(.int .i64),(.list (.pair (.int .i64) (.pair (.int .i64) (.pair (.int .i64) (.pair (.int .i64) (.int .u64)))))),(.int .i64),(.int .i64)] by kernel_rfl) (List.cons_ne_nil _ _) (hval 0 27 v0 rfl rfl) h0
 rw [show V.isAgg Tryz.prog 27=true by kernel_rfl] at w0
 have k1:=h1
 have lt1:∀ x ∈ p1,x.block < W.heap.size:=by obtain ⟨m,hm⟩:=k1; exact DataW.trod_lt m _ _ _ hm
 obtain ⟨y1,w1⟩:=V.bW3 (n:=12) (l:=[(.int .i64),(.list (.int .u64)),(.list (.int .u64)),(.int .i64),(.list (.pair (.int .i64) (.pair (.int .i64) (.pair (.int .i64) (.pair (.int .i64) (.int .u64)))))),(.int .i64),(.list (.pair (.int .i64) (.pair (.int .i64) (.pair (.int .i64) (.pair (.int .i64) (.int .u64)))))),(.int .i64),(.int .i64)]) (show V.ad0 Tryz.prog 12 27=some [(.int .i64),(.list (.int .u64)),(.list (.int .u64)),(.int .i64),(.list (.pair (.int .i64) (.pair (.int .i64) (.pair (.int .i64) (.pair (.int .i64) (.int .u64)))))),(.int .i64),(.list (.pair (.int .i64) (.pair (.int .i64) (.pair (.int .i64) (.pair (.int .i64) (.int .u64)))))),(.int .i64),(.int .i64)] by kernel_rfl) (List.cons_ne_nil _ _) (hval 1 27 v1 rfl rfl) h1
 rw [show V.isAgg Tryz.prog 27=true by kernel_rfl] at w1
 have k2:=h2
 have lt2:∀ x ∈ p2,x.block < W.heap.size:=by obtain ⟨m,hm⟩:=k2; exact DataW.trod_lt m _ _ _ hm
 obtain ⟨y2,w2⟩:=V.bW3 (n:=12) (l:=[(.list (.pair (.int .i64) (.int .i64)))]) (show V.ad0 Tryz.prog 12 28=some [(.list (.pair (.int .i64) (.int .i64)))] by kernel_rfl) (List.cons_ne_nil _ _) (hval 2 28 v2 rfl rfl) h2
 rw [show V.isAgg Tryz.prog 28=false by kernel_rfl] at w2
 clear hA0 hval0
 refine (q_walk W #[v0,v1,v2] (y0,y1,y2) ⟨v0,[v1,v2],rfl,w0,⟨v1,[v2],rfl,w1,⟨v2,rfl,w2⟩⟩⟩).mono fun e W' ⟨he,bel⟩=>?_
 subst he
 exact ⟨_,rfl,_,_,_,[],_,[],hW',trodAll_mk1 (shut_bool Tryz.underlying4 _),(trodAll_cons_mk (Below.trod q_laid (by kernel_rfl) (of_decide_eq_true (by kernel_rfl)) k0 bel lt0) (trodAll_cons_mk (Below.trod q_laid (by kernel_rfl) (of_decide_eq_true (by kernel_rfl)) k1 bel lt1) (trodAll_cons_mk (Below.trod q_laid (by kernel_rfl) (of_decide_eq_true (by kernel_rfl)) k2 bel lt2) trodAll_mk0))),rfl,bel.frame _,fun h=>by cases h⟩
theorem q_named:Tryz.pinned.checked.prog.funcNamed Rows.freezeThawsRow.func=some 6:=by kernel_rfl
theorem q_and {a b:Bool} (x:a=true) (y:b=true):(a && b)=true:=by rw [x,y]; rfl
set_option maxHeartbeats 40000000 in
theorem q_facts:joinedFacts Tryz.pinned.checked.prog 6 Tryz.f6 Rows.freezeThawsSpec Rows.freezeThawsRow=true:=by
 unfold joinedFacts
 repeat' with_reducible refine q_and ?_ ?_
 all_goals as_aux_lemma=>kernel_rfl
theorem q_inst:Tryz.f6.isInstance Tryz.pinned.checked.prog Rows.freezeThawsRow.origin Rows.freezeThawsRow.targs:=of_decide_eq_true (by kernel_rfl)
theorem q_wrap:Tryz.f6.isWrapper Tryz.pinned.checked.prog Rows.freezeThawsRow.wrapper Rows.freezeThawsRow.mainSum:=by unfold Func.isWrapper; first | (rw [if_pos (by decide +kernel)]; kernel_rfl) | (rw [if_neg (by decide +kernel)]; exact ⟨rfl,rfl⟩)
theorem q_over:Rows.freezeThawsRow.holds Tryz.pinned (OpenSpec.ofChange Rows.freezeThawsSpec):=
 OpenClaim.holds_of_wide 6 Tryz.f6 rfl rfl rfl rfl rfl rfl rfl ⟨rfl,rfl,rfl,rfl,rfl⟩ rfl rfl rfl rfl rfl q_named Tryz.func6 q_facts
  q_inst q_wrap
  (fun os started H enc _=>q_lifted os started H enc)
theorem freezeThawsProved:Rows.FreezeThawsSaid:=q_over
#print axioms freezeThawsProved
end Go.Proofs.YtbocegmeciaanaaGreat
