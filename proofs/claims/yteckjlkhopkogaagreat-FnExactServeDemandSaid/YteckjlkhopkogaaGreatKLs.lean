/- Contracts: a result that is a list of lights: compared, marked, asked again. -/
import Derived.Test.YteckjlkhopkogaaGreatSq7
import Derived.Test.YteckjlkhopkogaaGreatPm3
import Derived.Test.YteckjlkhopkogaaGreatKFm
import Derived.Test.YteckjlkhopkogaaGreatKDm
namespace Go.Proofs.YteckjlkhopkogaaGreat
open Go.RowKit Go.PlainAid
def lvN (R:List LtV):Nat→Nat
 | 0=>0
 | k + 1=>match R[k]? with | some c=>lvN R k + (4 + c.2.1.2.length) | none=>lvN R k
theorem lvN_is (l:List LL):∀ k,ltN l k = lvN (l.map LL.val) k
 | 0=>rfl
 | k + 1=>by
  have ih:=lvN_is l k
  show (match l[k]? with | some x=>ltN l k + (4 + x.r.fibs.length) | none=>ltN l k) = (match (l.map LL.val)[k]? with | some c=>lvN (l.map LL.val) k + (4 + c.2.1.2.length) | none=>lvN (l.map LL.val) k)
  rw [List.getElem?_map,ih]
  cases l[k]? <;> rfl
def SmLs (R:List LtV):Prop:=LtSm R∧R.length ≤ 1024
def LsHeld (w:World) (lo hi:Nat) (v:Value) (R:List LtV):Prop:=∃ p c,∃ l:List LL,v = .slice p l.length c∧Held w lo hi 94 p (l.flatMap llC)∧(∀ x ∈ l,Held w lo hi 3 x.r.q (x.r.fibs.map iv))∧DistL l∧l.map LL.val = R
def LsOwn (w:World) (base:Nat) (v:Value) (R:List LtV):Prop:=∃ p c,∃ l:List LL,v = .slice p l.length c∧Own w base 94 p (l.flatMap llC)∧(∀ x ∈ l,Own w base 3 x.r.q (x.r.fibs.map iv))∧DistL l∧l.map LL.val = R
def LsMkd (w:World) (base:Nat) (k0:Int) (v:Value) (R:List LtV):Prop:=∃ p c,∃ l:List LL,v = .slice p l.length c∧LtMk w base k0 p l∧l.map LL.val = R
theorem LsOwn.held {w:World} {lo:Nat} {v:Value} {R:List LtV} (h:LsOwn w lo v R):LsHeld w lo w.heap.size v R:=by
 obtain ⟨p,c,l,h1,h2,h3,h4,h5⟩:=h
 exact ⟨p,c,l,h1,h2.held,fun x hx=>(h3 x hx).held,h4,h5⟩
theorem LsHeld.own {w:World} {lo hi:Nat} {v:Value} {R:List LtV} (h:LsHeld w lo hi v R):LsOwn w lo v R:=by
 obtain ⟨p,c,l,h1,h2,h3,h4,h5⟩:=h
 exact ⟨p,c,l,h1,h2.1,fun x hx=>(h3 x hx).1,h4,h5⟩
theorem LsHeld.keep {w w':World} {lo hi:Nat} {v:Value} {R:List LtV} (h:LsHeld w lo hi v R) (hb:Fresh w w'):LsHeld w' lo hi v R:=by
 obtain ⟨p,c,l,h1,h2,h3,h4,h5⟩:=h
 exact ⟨p,c,l,h1,h2.keep hb,fun x hx=>(h3 x hx).keep hb,h4,h5⟩
theorem LsHeld.wide {w:World} {lo hi lo' hi':Nat} {v:Value} {R:List LtV} (h:LsHeld w lo hi v R) (hl:lo' ≤ lo) (hh:hi ≤ hi'):LsHeld w lo' hi' v R:=by
 obtain ⟨p,c,l,h1,h2,h3,h4,h5⟩:=h
 exact ⟨p,c,l,h1,h2.wide hl hh,fun x hx=>(h3 x hx).wide hl hh,h4,h5⟩
theorem LsHeld.mk {T:TypeId→Prop} {lo hi lo' hi':Nat} {w w':World} {v:Value} {R:List LtV} (h:LsHeld w lo hi v R) (hb:Mk T lo' hi' w w') (hd:hi ≤ lo' ∨ hi' ≤ lo):LsHeld w' lo hi v R:=by
 obtain ⟨p,c,l,h1,h2,h3,h4,h5⟩:=h
 exact ⟨p,c,l,h1,h2.mk hb hd,fun x hx=>(h3 x hx).mk hb hd,h4,h5⟩
theorem LsHeld.below {lo hi base:Nat} {w w':World} {v:Value} {R:List LtV} (h:LsHeld w lo hi v R) (hb:Below base w w') (hd:hi ≤ base):LsHeld w' lo hi v R:=by
 obtain ⟨p,c,l,h1,h2,h3,h4,h5⟩:=h
 exact ⟨p,c,l,h1,h2.below hb hd,fun x hx=>(h3 x hx).below hb hd,h4,h5⟩
theorem LsMkd.keep {w w':World} {base:Nat} {k0:Int} {v:Value} {R:List LtV} (h:LsMkd w base k0 v R) (hb:Fresh w w'):LsMkd w' base k0 v R:=by
 obtain ⟨p,c,l,h1,h2,h3⟩:=h
 exact ⟨p,c,l,h1,h2.keep hb,h3⟩
theorem eqLs_r (v v':Value) (lo hi lo' hi':Nat) (R:List LtV) (w:World) (h:LsHeld w lo hi v R) (h':LsHeld w lo' hi' v' R) (hs:SmLs R) :
  Calls Tryz.prog 25 #[v,v'] w fun e w'=>e = .returned (.bool true)∧Fresh w w':=by
 obtain ⟨p,c,l,rfl,h2,h3,_,rfl⟩:=h
 obtain ⟨p',c',l',rfl,k2,k3,_,k5⟩:=h'
 exact eqLightS_same p p' c c' l l' w k5 ⟨h2.1.cells,fun x hx=>(h3 x hx).1.ints⟩ ⟨k2.1.cells,fun x hx=>(k3 x hx).1.ints⟩ (ltsm_to hs.1)
theorem markLs_r (v:Value) (base:Nat) (R:List LtV) (k0:Int) (w:World) (h:LsOwn w base v R) (hs:SmLs R) (h0:0 ≤ k0) (h1:k0 ≤ 1024) :
  Calls Tryz.prog 28 #[v, .int .i64 k0] w fun e w'=>e = .returned (.int .i64 (k0 + lvN R R.length))∧LsMkd w' base k0 v R∧Below base w w':=by
 obtain ⟨p,c,l,rfl,h2,h3,h4,rfl⟩:=h
 refine (markLightS_p p c base l k0 w h2 (fun x hx=>by have:=(h3 x hx).rowN; rwa [List.length_map] at this) h4 (ltsm_to hs.1) h0 (by omega)).mono ?_
 rintro e w' ⟨rfl,k1,k2,_⟩
 exact ⟨by rw [lvN_is,List.length_map],⟨p,c,l,rfl,k1,rfl⟩,k2⟩
theorem heldLs_o (v:Value) (base:Nat) (R:List LtV) (k0:Int) (w:World) (h:LsMkd w base k0 v R) (hs:SmLs R) (h0:0 ≤ k0) (h1:k0 ≤ 1024) :
  Calls Tryz.prog 29 #[v, .int .i64 k0] w fun e w'=>e = .returned (.int .i64 (k0 + lvN R R.length))∧Fresh w w':=by
 obtain ⟨p,c,l,rfl,h2,rfl⟩:=h
 have hl:l.length ≤ 1024:=by have:=hs.2; simpa using this
 refine (heldLightS_p p c base l k0 w h2 (ltsm_to hs.1) hl h0 (by omega)).mono ?_
 rintro e w' ⟨rfl,k2⟩
 exact ⟨by rw [lvN_is,List.length_map],k2⟩
theorem rcL_len (P:PlanV) (fm:List (Int × Int)) (d:Fib):(rcL P fm d).length ≤ 200:=by
 cases h:planB P
 ·rw [(rc_no h).1]; simp
 ·rw [(rc_yes h).1]
  have h2:=consTo_len P.lights 1 (ordV (usF P.net fm d).1)
  have h3:=ordV_len (usF P.net fm d).1
  have h4:=usF_len P.net fm d
  have h5:(consL P fm d 1).length = (consTo P.lights 1 (ordV (usF P.net fm d).1)).length:=rfl
  omega
theorem rcL_small (P:PlanV) (fm:List (Int × Int)) (d:Fib):SmLs (rcL P fm d):=by
 have hl:=rcL_len P fm d
 refine ⟨⟨by omega,fun x hx=>?_⟩,by omega⟩
 cases h:planB P
 ·rw [(rc_no h).1] at hx; cases hx
 ·rw [(rc_yes h).1] at hx
  exact (cons_mem h hx).2.2.2.1
theorem outRc_l {P:PlanV} {fm:List (Int × Int)} {d:Fib} {w w':World} {e:Ending} (h:OutRc P fm d w e w'):∃ v',e = .returned (.tuple #[v', .bool (rcB P fm d)])∧LsOwn w' w.heap.size v' (rcL P fm d)∧Fresh w w':=by
 obtain ⟨V,l,h1,h2,h3,h4⟩:=h
 obtain ⟨p,c,rfl,ho⟩:=own_of_row h2.row
 exact ⟨_,h1,⟨p,c,l,rfl,ho,h2.fib,h2.dist,h3⟩,h4⟩
theorem implRouteChoices_l (v:Value) (P:PlanV) (v2:Value) (fm:List (Int × Int)) (d:Fib) (w:World) (h:PlIn w v P) (h2:FmIn w v2 fm) :
  Calls Tryz.prog 24 #[v,v2, .agg #[.int .i64 d.a, .int .i64 d.b, .int .i64 d.len, .int .i64 d.risk]] w fun e w'=>∃ v',e = .returned (.tuple #[v', .bool (rcB P fm d)])∧LsOwn w' w.heap.size v' (rcL P fm d)∧Fresh w w':=by
 obtain ⟨pf,cf,rfl,hfm,hfl⟩:=h2
 exact (implRouteChoices_any v P pf cf fm d w h hfm hfl).mono fun _ _ h=>outRc_l h
theorem specRouteChoices_l (v:Value) (P:PlanV) (v2:Value) (fm:List (Int × Int)) (d:Fib) (w:World) (h:PlIn w v P) (h2:FmIn w v2 fm) :
  Calls Tryz.prog 20 #[v,v2, .agg #[.int .i64 d.a, .int .i64 d.b, .int .i64 d.len, .int .i64 d.risk]] w fun e w'=>∃ v',e = .returned (.tuple #[v', .bool (rcB P fm d)])∧LsOwn w' w.heap.size v' (rcL P fm d)∧Fresh w w':=by
 obtain ⟨pf,cf,rfl,hfm,hfl⟩:=h2
 exact (specRouteChoices_any v P pf cf fm d w h hfm hfl).mono fun _ _ h=>outRc_l h
theorem serveF_small {P:PlanV} (hp:planB P = true) (fm:List (Int × Int)) (d:Fib) (fit:Int) (hs:PlSmall P):SmPl (serveF P fm d fit).1:=by
 have h12':=(planB_at hp).2.1
 cases h:usOk P.net fm d
 ·rw [serveF_no h]; exact zeroP_small
 ·by_cases h12:P.lights.length = 12
  ·rw [serveF_full h h12]; exact ⟨hs,by show P.lights.length ≤ 1024; omega⟩
  ·cases e:(consL P fm d fit)[0]? with
   | none =>
    have e2:consL P fm d fit = []:=by
     cases e3:consL P fm d fit with
     | nil=>rfl
     | cons a b=>rw [e3] at e; cases e
    rw [serveF_nil h e2]; exact ⟨hs,by show P.lights.length ≤ 1024; omega⟩
   | some x =>
    rw [serveF_yes h h12 e]
    obtain ⟨_,_,_,c4,_⟩:=cons_mem hp (List.mem_of_getElem? e)
    refine ⟨⟨hs.1,⟨by show (insF P.lights _).length ≤ _; rw [ins_len]; omega,fun y hy=>?_⟩⟩,by show (insF P.lights _).length ≤ _; rw [ins_len]; omega⟩
    rcases mem_ins hy with h1 | h1
    ·rw [h1]; exact c4
    ·exact hs.2.2 y h1
theorem sdF_small (P:PlanV) (fm:List (Int × Int)) (d:Fib) (fit:Int) (hs:PlSmall P):SmPl (sdF P fm d fit).1:=by
 cases h:(planB P && inB fit 1 3)
 ·rw [sdF_no h]; exact zeroP_small
 ·simp only [Bool.and_eq_true] at h
  rw [sdF_yes h.1 h.2]
  exact serveF_small h.1 fm d fit hs
theorem implServeDemand_l (v:Value) (P:PlanV) (v2:Value) (fm:List (Int × Int)) (d:Fib) (fit:Int) (w:World) (h:PlIn w v P) (h2:FmIn w v2 fm) :
  Calls Tryz.prog 31 #[v,v2, .agg #[.int .i64 d.a, .int .i64 d.b, .int .i64 d.len, .int .i64 d.risk], .int .i64 fit] w fun e w'=>∃ v',e = .returned (.tuple #[v', .int .i64 (sdF P fm d fit).2.1, .bool (sdF P fm d fit).2.2])∧PlOwn w' w.heap.size v' (sdF P fm d fit).1∧Fresh w w':=by
 obtain ⟨pf,cf,rfl,hfm,hfl⟩:=h2
 exact implServeDemand_any v P pf cf fm d fit w h hfm hfl
theorem specServeDemand_l (v:Value) (P:PlanV) (v2:Value) (fm:List (Int × Int)) (d:Fib) (fit:Int) (w:World) (h:PlIn w v P) (h2:FmIn w v2 fm) :
  Calls Tryz.prog 30 #[v,v2, .agg #[.int .i64 d.a, .int .i64 d.b, .int .i64 d.len, .int .i64 d.risk], .int .i64 fit] w fun e w'=>∃ v',e = .returned (.tuple #[v', .int .i64 (sdF P fm d fit).2.1, .bool (sdF P fm d fit).2.2])∧PlOwn w' w.heap.size v' (sdF P fm d fit).1∧Fresh w w':=by
 obtain ⟨pf,cf,rfl,hfm,hfl⟩:=h2
 exact specServeDemand_any v P pf cf fm d fit w h hfm hfl
end Go.Proofs.YteckjlkhopkogaaGreat
