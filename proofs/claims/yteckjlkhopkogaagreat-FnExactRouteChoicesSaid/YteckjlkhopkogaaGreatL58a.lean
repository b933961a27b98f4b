/- The statement FnExactRouteChoices: for every plan, list of formats and demand the law returns true. No condition. -/
import Derived.Test.YteckjlkhopkogaaGreatU2
import Derived.Test.YteckjlkhopkogaaGreatU4
import Derived.Test.YteckjlkhopkogaaGreatKFm
import Derived.Test.YteckjlkhopkogaaGreatKDm
import Derived.Test.YteckjlkhopkogaaGreatKD1
import Derived.Test.YteckjlkhopkogaaGreatW58
namespace Go.Proofs.YteckjlkhopkogaaGreat.lExactRouteChoices
open Go.RowKit Go.ChangeShapes Go.WideShapes Go.ChangeAt Go.Joins
set_option maxRecDepth 100000 in
theorem lifted (os:Os) (started:os.Started) (H:Type) (enc:TypeId × Value→H) :
  ReturnsInHanded {} Tryz.checked os 4 .any (Rows.fnExactRouteChoicesSpec.pre6 enc Tryz.prog Tryz.f4 Rows.fnExactRouteChoicesRow.domain false) (Rows.fnExactRouteChoicesSpec.post enc Tryz.prog Tryz.f4 false true false false):=by
 refine returnsInHanded_of_change (C:=Tryz.checked) (show ownKnob Tryz.prog.godebug = none from by kernel_rfl) started (by kernel_rfl) Tryz.func4
  (ChangeSpec.witness6 (enc:=enc) (C:=Tryz.checked) false ⟨#[],#[.agg #[.slice none 0 0, .slice none 0 0, .slice none 0 0], .slice none 0 0, .agg #[.int .i64 0, .int .i64 0, .int .i64 0, .int .i64 0]],[]⟩ 8 (by kernel_rfl) (by kernel_rfl) (by kernel_rfl) (by kernel_rfl)) ?_
 intro W base args ds gs before hval0 hW hcnd _
 have hval:∀ (j:Nat) t v,Tryz.f4.params[j]? = some t→args[j]? = some v→Value.okWide Tryz.prog W .any base t v:=hval0
 have hW':=hW
 obtain ⟨p,q,hA0,hV,rfl,hfz,hnd⟩:=hW
 have hA:DataW.TrodAll enc Tryz.prog W 0 (fun _=>true) true Tryz.f4.params.toList args.toList ds p:=hA0
 rw [Tryz.params4] at hA hval
 obtain ⟨v0,v1,v2,d0,d1,d2,p0,p1,p2,rfl,rfl,rfl,h0,h1,h2⟩:=trodAll_three hA
 obtain ⟨x0,hr0⟩:=pl_of_trod (hval 0 28 v0 rfl rfl) h0
 obtain ⟨x1,hr1⟩:=fm_of_trod (hval 1 49 v1 rfl rfl) h1
 obtain ⟨⟨g2,hh2,l2,j2⟩,rfl⟩:=dem_of_trod (hval 2 51 v2 rfl rfl) h2
 refine (law_RouteChoices v0 x0 v1 x1 g2 hh2 l2 j2 W hr0 hr1).mono fun e W' ⟨he,hg⟩=>?_
 subst he
 exact ⟨_,rfl,post_fresh laidOut (by rw [Tryz.params4]; decide +kernel) rfl Tryz.underlying4 rfl rfl hW' hg⟩
end Go.Proofs.YteckjlkhopkogaaGreat.lExactRouteChoices
