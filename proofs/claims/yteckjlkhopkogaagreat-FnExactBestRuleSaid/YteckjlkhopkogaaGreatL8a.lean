/- The statement FnExactBestRule: for every plan, list of formats and list of demands the law returns true. No condition. -/
import Derived.Test.YteckjlkhopkogaaGreatU2
import Derived.Test.YteckjlkhopkogaaGreatU4
import Derived.Test.YteckjlkhopkogaaGreatM19
import Derived.Test.YteckjlkhopkogaaGreatW8
namespace Go.Proofs.YteckjlkhopkogaaGreat.lExactBestRule
open Go.RowKit Go.ChangeShapes Go.WideShapes Go.ChangeAt Go.Joins
set_option maxRecDepth 100000 in
theorem lifted (os:Os) (started:os.Started) (H:Type) (enc:TypeId × Value→H) :
  ReturnsInHanded {} Tryz.checked os 8 .any (Rows.fnExactBestRuleSpec.pre6 enc Tryz.prog Tryz.f8 Rows.fnExactBestRuleRow.domain false) (Rows.fnExactBestRuleSpec.post enc Tryz.prog Tryz.f8 false true false false):=by
 refine returnsInHanded_of_change (C:=Tryz.checked) (show ownKnob Tryz.prog.godebug=none from by kernel_rfl) started (by kernel_rfl) Tryz.func8
  (ChangeSpec.witness6 (enc:=enc) (C:=Tryz.checked) false ⟨#[],#[.agg #[.slice none 0 0,.slice none 0 0,.slice none 0 0],.slice none 0 0,.slice none 0 0],[]⟩ 8 (by kernel_rfl) (by kernel_rfl) (by kernel_rfl) (by kernel_rfl)) ?_
 intro W base args ds gs before hval0 hW hcnd _
 have hval:∀ (j:Nat) t v,Tryz.f8.params[j]?=some t→args[j]?=some v→Value.okWide Tryz.prog W .any base t v:=hval0
 have hW':=hW
 obtain⟨p,q,hA0,hV,rfl,hfz,hnd⟩:=hW
 have hA:DataW.TrodAll enc Tryz.prog W 0 (fun _=>true) true Tryz.f8.params.toList args.toList ds p:=hA0
 rw[Tryz.params8] at hA hval
 obtain⟨v0,v1,v2,d0,d1,d2,p0,p1,p2,rfl,rfl,rfl,h0,h1,h2⟩:=trodAll_three hA
 obtain⟨x0,hr0⟩:=pl_of_trod (hval 0 28 v0 rfl rfl) h0
 obtain⟨x1,hr1⟩:=fm_of_trod (hval 1 49 v1 rfl rfl) h1
 obtain⟨x2,hr2⟩:=dm_of_trod (hval 2 69 v2 rfl rfl) h2
 refine(law_BestRule v0 x0 v1 x1 v2 x2 W hr0 hr1 hr2).mono fun e W' ⟨he,hg⟩=>?_
 subst he
 exact⟨_,rfl,post_fresh laidOut (by rw[Tryz.params8];decide +kernel) rfl Tryz.underlying4 rfl rfl hW' hg⟩
end Go.Proofs.YteckjlkhopkogaaGreat.lExactBestRule
