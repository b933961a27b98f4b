/- Contracts: valid routes, the program's side; a route's text. -/
import Derived.Test.YtjhaoonacjebpaaGreatDoorPy
namespace Go.Proofs.YtjhaoonacjebpaaGreatDoor
open Go.RowKit Go.PlainAid

set_option maxHeartbeats 2000000 in
theorem implRouteNodes_any (v : Value) (n : Net) (v2 : Value) (R : Int × List Int) (w : World) (h : NetIn w v n) (h2 : RtIn w v2 R) :
    Calls Tryz.prog 169 #[v, v2] w (OutWalk w (if netB n then visR n.nodes.length n.fibers R.1 R.2 else none)) := by
  have HN := Lib.hid h
  obtain ⟨q, m, c, p, k0, d, rfl⟩ := h.shape
  obtain ⟨s, qr, cr, fs, rfl, hI, hn, rfl⟩ := h2
  clear h
  obtain ⟨W2, hW2, hsz2, hf2, r1, r2⟩ := two_rows w [.slice q m c, .slice p k0 d] [.int .i64 s, .slice qr fs.length cr] 34 54
  have HW2 := Lib.hid hW2
  have HF2 := Lib.hid hf2
  have HR1 := Lib.hid r1
  have HR2 := Lib.hid r2
  have HI := Lib.hid (hI.keep hf2)
  clear hW2 hsz2 hf2 r1 r2 hI
  obtain ⟨o, ho⟩ : ∃ o, o = (if netB n then visR n.nodes.length n.fibers s fs else none) := ⟨_, rfl⟩
  rw [← ho]
  have HO := Lib.hid ho
  clear ho
  go_enter Tryz.func169, Tryz.ntmps169
  go_wp2_with fail
  rw [← HW2.out]
  clear HW2
  refine (implIsValidNetwork_any _ n _ (HN.out.keep HF2.out)).mono ?_
  rintro e w1 ⟨rfl, hb⟩
  have a0 := (HR1.out.keep hb).cell (i := 0) rfl
  have a1 := (HR1.out.keep hb).cell (i := 1) rfl
  have b0 := (HR2.out.keep hb).cell (i := 0) rfl
  have b1 := (HR2.out.keep hb).cell (i := 1) rfl
  have HF := Lib.hid (fstep HF2.out hb)
  have HI1 := Lib.hid (HI.out.keep hb)
  clear hb
  cases hnet : netB n
  · have HON : Hid (o = none) := by show o = none; rw [HO.out, if_neg (by simp [hnet])]
    clear hnet
    go_wp2
    go_ret2
    exact ⟨none, 0, [], by rw [HON.out]; rfl, HF.out, fun out h => by rw [HON.out] at h; cases h⟩
  · have HON : Hid (o = visR n.nodes.length n.fibers s fs) := by show o = _; rw [HO.out, if_pos hnet]
    clear hnet
    go_wp2_with fail
    refine (visited_any _ n s qr cr fs _ (HN.out.keep HF.out) HI1.out hn).mono ?_
    rintro e w2 ⟨p2, c2, xs, rfl, hb, ho⟩
    have HO2 := Lib.hid ho
    have HF2' := Lib.hid (fstep HF.out hb)
    have HSZ := Lib.hid HF.out.size
    clear hb ho a0 a1 b0 b1
    go_wp2
    go_ret2
    exact ⟨p2, c2, xs, by rw [HON.out]; rfl, HF2'.out, fun out h => by
      rw [HON.out] at h
      obtain ⟨e1, e2⟩ := HO2.out out h
      exact ⟨e1, e2.mono HSZ.out⟩⟩

set_option maxHeartbeats 2000000 in
theorem implIsValidRoute_any (v : Value) (n : Net) (v2 : Value) (R : Int × List Int) (w : World) (h : NetIn w v n) (h2 : RtIn w v2 R) :
    Calls Tryz.prog 147 #[v, v2] w fun e w' => e = .returned (.bool (netB n && isVis n R.1 R.2)) ∧ Fresh w w' := by
  have HN := Lib.hid h
  have HR := Lib.hid h2
  obtain ⟨q, m, c, p, k0, d, rfl⟩ := h.shape
  obtain ⟨s, qr, mr, cr, rfl⟩ := h2.shape
  clear h h2
  obtain ⟨W2, hW2, hsz2, hf2, r1, r2⟩ := two_rows w [.slice q m c, .slice p k0 d] [.int .i64 s, .slice qr mr cr] 34 54
  have HW2 := Lib.hid hW2
  have HF2 := Lib.hid hf2
  have HE : Hid ((if netB n then visR n.nodes.length n.fibers R.1 R.2 else none).isSome = (netB n && isVis n R.1 R.2)) := by
    show _ = _; unfold isVis; cases netB n <;> simp
  clear hW2 hsz2 hf2 r1 r2
  go_enter Tryz.func147, Tryz.ntmps147
  go_wp2_with fail
  rw [← HW2.out]
  clear HW2
  have hcc := implRouteNodes_any _ n _ R _ (HN.out.keep HF2.out) (HR.out.keep HF2.out)
  obtain ⟨o, ho⟩ : ∃ o, o = (if netB n then visR n.nodes.length n.fibers R.1 R.2 else none) := ⟨_, rfl⟩
  rw [← ho] at hcc HE
  clear ho
  refine hcc.mono ?_
  clear hcc
  rintro e w2 ⟨p2, c2, xs, rfl, hb, _⟩
  have HF := Lib.hid (fstep HF2.out hb)
  clear hb
  go_wp2
  go_ret
  exact ⟨ret_bool HE.out, HF.out⟩

/-- A valid route's text, and whether it is one. -/
def OutFr (n : Net) (R : Int × List Int) (w : World) (e : Ending) (w' : World) : Prop := e = .returned (.tuple #[.string (if isVis n R.1 R.2 = true then ba (routeX n R) else ⟨#[]⟩), .bool (isVis n R.1 R.2)]) ∧ Fresh w w'
theorem OutFr.yes {n : Net} {R : Int × List Int} {w w' : World} (h : isVis n R.1 R.2 = true) (hf : Fresh w w') : OutFr n R w (.returned (.tuple #[.string (ba (routeX n R)), .bool true])) w' := by unfold OutFr; rw [h]; exact ⟨rfl, hf⟩
theorem OutFr.no {n : Net} {R : Int × List Int} {w w' : World} (h : isVis n R.1 R.2 = false) (hf : Fresh w w') : OutFr n R w (.returned (.tuple #[.string ⟨#[]⟩, .bool false])) w' := by unfold OutFr; rw [h]; exact ⟨rfl, hf⟩
set_option maxHeartbeats 2000000 in
theorem formatRoute_any (v : Value) (n : Net) (s : Int) (q : Option Addr) (cap : Nat) (l : List Int) (w : World) (h : NetIn w v n) (hI : Ints w q l) (hl : l.length ≤ 1048576) (hT : TabE w) (hn : netB n = true) :
    Calls Tryz.prog 117 #[v, .agg #[.int .i64 s, .slice q l.length cap]] w (OutFr n (s, l) w) := by
  have HN := Lib.hid h
  obtain ⟨qn, m, c, p, k0, d, rfl⟩ := h.shape
  clear h
  obtain ⟨W2, hW2, hsz2, hf2, r1, r2⟩ := two_rows w [.slice qn m c, .slice p k0 d] [.int .i64 s, .slice q l.length cap] 34 54
  have HC := Lib.hid (implIsValidRoute_any _ n (.agg #[.int .i64 s, .slice q l.length cap]) (s, l) W2 (HN.out.keep hf2) ⟨s, q, cap, l, rfl, hI.keep hf2, hl, rfl⟩)
  have HW2 := Lib.hid hW2
  have HF2 := Lib.hid hf2
  have HR1 := Lib.hid r1
  have HR2 := Lib.hid r2
  have HI := Lib.hid (hI.keep hf2)
  have HT := Lib.hid (hT.keep hf2)
  have HNN := Lib.hid hn
  rw [hn, Bool.true_and] at HC
  simp only at HC
  clear hW2 hsz2 hf2 r1 r2 hI hT hn
  go_enter Tryz.func117, Tryz.ntmps117
  go_wp2_with fail
  rw [← HW2.out]
  refine (HC.out).mono ?_
  clear HC
  rintro e w1 ⟨rfl, hb⟩
  have HF := Lib.hid (fstep HF2.out hb)
  have HB := Lib.hid hb
  have a0 := (HR1.out.keep hb).cell (i := 0) rfl
  have a1 := (HR1.out.keep hb).cell (i := 1) rfl
  have b0 := (HR2.out.keep hb).cell (i := 0) rfl
  have b1 := (HR2.out.keep hb).cell (i := 1) rfl
  clear hb
  cases hv : isVis n s l with
  | false =>
    have HV := Lib.hid hv
    clear hv
    go_wp2
    go_ret2
    exact OutFr.no (R := (s, l)) HV.out HF.out
  | true =>
    have HV := Lib.hid hv
    clear hv
    go_wp2_with fail
    refine (routeText_any _ n s q cap l _ (HN.out.keep HF.out) (HI.out.keep HB.out) (HT.out.keep HB.out) HNN.out HV.out).mono ?_
    rintro e w2 ⟨rfl, hb2⟩
    have HF3 := Lib.hid (fstep HF.out hb2)
    clear hb2
    go_wp2
    go_ret2
    exact OutFr.yes (R := (s, l)) HV.out HF3.out
end Go.Proofs.YtjhaoonacjebpaaGreatDoor
