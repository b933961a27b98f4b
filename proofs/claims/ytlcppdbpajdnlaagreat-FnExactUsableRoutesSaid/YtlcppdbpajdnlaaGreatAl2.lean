/- Contracts: all routes between two nodes, the reference's side. -/
import Derived.Test.YtlcppdbpajdnlaaGreatAl
namespace Go.Proofs.YtlcppdbpajdnlaaGreat
open Go.RowKit Go.PlainAid

theorem keep_few {n : Net} {s t : Int} (h : s ≠ t) : ((keepTo (putL (ltC (cmpR n.fibers))) 200 [] ((dfsR n.fibers t n.nodes.length [s] []).map fun L => (s, L))).length ≤ 200 ↔ (allR n s t).length ≤ 200) ∧ ((allR n s t).length ≤ 200 → keepTo (putL (ltC (cmpR n.fibers))) 200 [] ((dfsR n.fibers t n.nodes.length [s] []).map fun L => (s, L)) = allR n s t) := by
  have hraw : rawR n s t = (dfsR n.fibers t n.nodes.length [s] []).map fun L => (s, L) := by unfold rawR; rw [if_neg h]
  rw [← hraw, allR_len, ← allR_put]
  refine ⟨?_, fun h1 => keepTo_all (putL_len _) _ _ (by rw [List.length_nil]; omega)⟩
  rw [keepTo_len (putL_len _) _ _ (Nat.zero_le _)]
  simp only [List.length_nil]
  omega
set_option maxHeartbeats 4000000 in
theorem l4All_any (v : Value) (n : Net) (s t : Int) (w : World) (h : NetIn w v n) (hp : pairB n s t = true) :
    Calls Tryz.prog 66 #[v, .int .i64 s, .int .i64 t] w (OutA n s t w) := by
  have HN := Lib.hid h
  have HPR := Lib.hid hp
  have HIN := Lib.hid (pairB_in hp)
  obtain ⟨qn, cn, pn, cp, rfl, _, hF, n1, _, _, _, _⟩ := h
  obtain ⟨h8, h14, _⟩ := net_at HIN.out.1
  obtain ⟨W3, hW3, hsz3, hf3, r1, r2, r3⟩ := three_rows w [.slice qn n.nodes.length cn, .slice pn n.fibers.length cp] [.slice qn n.nodes.length cn, .slice pn n.fibers.length cp, .int .i64 t, .slice none 0 0] [.int .i64 s] 37 120 3
  have HF3 := Lib.hid hf3
  have HW3 := Lib.hid hW3
  have hst : SeSt w W3 (w.heap.size + 1) qn pn cn cp n s t 0 [] := ⟨hf3, ⟨none, 0, [], r2, Rts.none _ _, rfl, fun x hx => by simp at hx⟩, fun R hR => by simp at hR⟩
  have HEX := Lib.hid (seExt_any w (w.heap.size + 1) qn pn cn cp n s t HN.out hF (net_len HIN.out.1) HIN.out.2.1 (net_fib HIN.out.1) h14 h8 (by omega) n.nodes.length [s] [] (some ⟨w.heap.size + 1 + 1, 0, none⟩) none 1 0 0 [] W3 hst (Or.inl ⟨rfl, rfl⟩) (Nat.le_refl _) (by omega) (by intro g o e; cases e) (Or.inr ⟨_, [], rfl, by omega, r3⟩) rfl (by simp; omega) (by simp))
  have HKF := Lib.hid (keep_few (n := n) HIN.out.2.2.2)
  clear hp hF hst r1 r2 r3 hf3 hW3 hsz3 h8 h14
  go_enter Tryz.func66, Tryz.ntmps66
  go_wp2_with fail
  rw [← HW3.out]
  refine (HEX.out).mono ?_
  rintro e w4 ⟨rfl, hst, -⟩
  obtain ⟨p, c, m, hro, hm⟩ := hst.row
  have HST := Lib.hid hst
  have e3 := hro.cell (i := 3) rfl
  have HM := Lib.hid hm
  have HRO := Lib.hid hro
  clear hro hm hst HEX
  by_cases h200 : m ≤ 200
  · have hgt : ¬ (200 : Int) < (m : Int) := by omega
    have hfew : (allR n s t).length ≤ 200 := HKF.out.1.1 (by rw [← HM.out]; exact h200)
    have HOK : Hid (okA n s t = true) := by show _ = _; unfold okA; rw [HPR.out]; simp [hfew]
    have HALL := Lib.hid (HKF.out.2 hfew)
    obtain ⟨fr4, ⟨p', c', l, hro', rts, hval, _⟩, _⟩ := HST.out
    have hinj := (hro'.inj HRO.out).2
    simp only [List.cons.injEq, Value.slice.injEq, and_true, true_and] at hinj
    obtain ⟨rfl, hlm, rfl⟩ := hinj
    obtain ⟨p2, c2, hpc, hown, _, _⟩ := owns_cap rts.row
    cases hpc
    subst hlm
    have HRTS := Lib.hid rts
    have HVAL := Lib.hid hval
    have HFR4 := Lib.hid fr4
    have HCL : Hid (∀ W, Fresh w4 W → Cells W p' (l.flatMap lrC)) := fun W hW => (hown.keep hW).cells
    have HLEN : Hid ((l.flatMap lrC).length = l.length * 2) := flat_len lrC 2 (fun _ => rfl) l
    have e3w := fun o : Obj => fkeep (fnew (frefl w4) o) e3
    clear hown rts hro' hval fr4 hfew
    go_wp2_with (at_builtin; refine wpList_app_many Tryz.underlying31 infoRt rfl (by decide) (by decide) w _ _ 0 [] p' l.length c' (l.flatMap lrC) HLEN.out (ones_rt l) rfl _ _ rfl rfl (World.ownsRow_made w4 #[] 0 HFR4.out.size (by simp [maxLen]) rfl) rfl (HCL.out _ (fnew (frefl _) _)) (by omega) (by omega) (fnew HFR4.out _) ?_; intro v' w' hown3 hf3 hk3)
    rw [Nat.zero_add, List.nil_append] at hown3
    have HO := Lib.hid hown3
    have HFX := Lib.hid hf3
    have HFB : Hid (∀ x ∈ l, Own w' w.heap.size 3 x.q (x.fibs.map iv)) := by
      intro x hx
      rcases (HRTS.out.fib x hx).keep (fnew (frefl _) _) with h1 | ⟨g, sp, a1, a2, a3⟩
      · exact Or.inl h1
      · exact Or.inr ⟨g, sp, a1, a2, hk3 _ _ _ a3 (by decide)⟩
    clear hown3 hf3 hk3
    go_wp2
    go_ret2
    exact ⟨v', l, by rw [HOK.out]; (first | done | rfl), ⟨HO.out, HFB.out, HRTS.out.dist, HRTS.out.cap⟩, by rw [HVAL.out, HALL.out]; unfold allA; rw [HOK.out]; rfl, HFX.out⟩
  · have hgt : (200 : Int) < (m : Int) := by omega
    have hmany : ¬ (allR n s t).length ≤ 200 := fun h => h200 (by rw [HM.out]; exact HKF.out.1.2 h)
    have HNO : Hid (okA n s t = false) := by show _ = _; unfold okA; rw [HPR.out]; simp; omega
    clear hmany
    have HFR4 := Lib.hid HST.out.fr
    go_wp2
    go_ret2
    refine ⟨_, [], by rw [HNO.out]; (first | done | rfl), Rts.nil _ _ (ownsRow_zero (RowAt.new w4 53 []) HFR4.out.size), by unfold allA; rw [HNO.out]; rfl, fnew HFR4.out _⟩
end Go.Proofs.YtlcppdbpajdnlaaGreat
