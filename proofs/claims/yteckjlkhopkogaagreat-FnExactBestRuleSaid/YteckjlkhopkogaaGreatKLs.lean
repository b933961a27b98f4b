/- Contracts: a result that is a list of lights: compared, marked, asked again. -/
import Derived.Test.YteckjlkhopkogaaGreatM13
import Derived.Test.YteckjlkhopkogaaGreatM2
import Derived.Test.YteckjlkhopkogaaGreatM19
namespace Go.Proofs.YteckjlkhopkogaaGreat
open Go.RowKit Go.PlainAid
theorem serveF_small {P:PlanV} (hp:planB P=true) (fm:List (Int × Int)) (d:Fib) (fit:Int) (hs:PlSmall P):SmPl (serveF P fm d fit).1:=by
 have h12':=(planB_at hp).2.1
 cases h:usOk P.net fm d
 ·rw[serveF_no h];exact zeroP_small
 ·by_cases h12:P.lights.length=12
  ·rw[serveF_full h h12];exact⟨hs,by show P.lights.length≤1024;omega⟩
  ·cases e:(consL P fm d fit)[0]? with
   | none =>
    have e2:consL P fm d fit=[]:=by
     cases e3:consL P fm d fit with
     | nil=>rfl
     | cons a b=>rw[e3] at e;cases e
    rw[serveF_nil h e2];exact⟨hs,by show P.lights.length≤1024;omega⟩
   | some x =>
    rw[serveF_yes h h12 e]
    obtain⟨_,_,_,c4,_⟩:=cons_mem hp (List.mem_of_getElem? e)
    refine⟨⟨hs.1,⟨by show(insF P.lights _).length≤_;rw[ins_len];omega,fun y hy=>?_⟩⟩,by show(insF P.lights _).length≤_;rw[ins_len];omega⟩
    rcases mem_ins hy with h1|h1
    ·rw[h1];exact c4
    ·exact hs.2.2 y h1
end Go.Proofs.YteckjlkhopkogaaGreat
