/- Contracts: the walk along a route, the reference's side. -/
import Derived.Test.YtjlhjkdmpngkbaaRoute2
namespace Go.Proofs.Ytjlhjkdmpngkbaa
open Go.RowKit Go.PlainAid

theorem last_cell {w : World} {p : Option Addr} {l : List Int} (h : Ints w p l) (h0 : 0 < l.length) : ∃ b off, p = some ⟨b, off, none⟩ ∧ w.cell? ⟨b, off + (l.length - 1), none⟩ = some (.int .i64 (lastI l)) := by
  obtain ⟨b, off, x, rfl, hx, hc⟩ := h.at (k := l.length - 1) (by omega)
  refine ⟨b, off, rfl, ?_⟩
  have : lastI l = x := by unfold lastI; rw [List.getLast?_eq_getElem?, hx]; rfl
  rw [this]; exact hc

set_option maxHeartbeats 4000000 in
set_option maxRecDepth 100000 in
theorem l4Walk_any (v : Value) (n : Net) (s : Int) (q : Option Addr) (cap : Nat) (l : List Int) (w : World) (h : NetIn w v n) (hl : Ints w q l) (hn : l.length ≤ 1048576) :
    Calls Try.prog 171 #[v, .agg #[.int .i64 s, .slice q l.length cap]] w (OutWalk w (visR n.nodes.length n.fibers s l)) := by
  obtain ⟨N, F⟩ := n
  obtain ⟨qn, c, p, d, rfl, hN, hF, n1, n2, n3, n4, hsz⟩ := h
  simp only at hN hF n1 n2 n3 hsz ⊢
  clear hsz hN
  cases h1 : inB s 0 ((N.length : Int) - 1)
  · have HE := Lib.hid (visR_start (F := F) (l := l) h1)
    go_enter Try.func171, Try.ntmps171
    go_wp2_with (go_at_call 143; refine (l1In_any _ _ _ _).mono ?_; rintro e w' ⟨rfl, rfl⟩)
    go_ret2
    exact ⟨_, _, [s], by rw [HE.out]; rfl, fnew (fnew (fnew (frefl _) _) _) _, fun out ho => by rw [HE.out] at ho; cases ho⟩
  · by_cases h2 : l.length = 0
    · have HE := Lib.hid (visR_empty (N := N.length) (F := F) (s := s) h2)
      have hd : ((l.length : Int) == 0) = true := by simp [h2]
      have h2z : (l.length : Int) = 0 := by omega
      clear h2
      go_enter Try.func171, Try.ntmps171
      go_wp2_with (go_at_call 143; refine (l1In_any _ _ _ _).mono ?_; rintro e w' ⟨rfl, rfl⟩)
      go_ret2
      exact ⟨_, _, [s], by rw [HE.out]; rfl, fnew (fnew (fnew (frefl _) _) _) _, fun out ho => by rw [HE.out] at ho; cases ho⟩
    · have HE := Lib.hid (visR_go (F := F) h1 h2)
      have hd : ((l.length : Int) == 0) = false := by simp [h2]
      have h2z : ¬ (l.length : Int) = 0 := by omega
      have HL := Lib.hid hl
      have HFi := Lib.hid hF
      clear h2 hl hF
      obtain ⟨W2, hW2⟩ : ∃ W2, W2 = (w.alloc (.cells #[.slice qn N.length c, .slice p F.length d] 32)).alloc (.cells #[.int .i64 s, .slice q l.length cap] 79) := ⟨_, rfl⟩
      have hf2 : Fresh w W2 := by rw [hW2]; exact fnew (fnew (frefl _) _) _
      have hbx := two_boxes (w := w) (w1 := W2) (a := .slice qn N.length c) (b := .slice p F.length d) (c := .int .i64 s) (d := .slice q l.length cap) (t1 := 32) (t2 := 79) (by rw [hW2]; exact frefl _)
      have hsz2 : W2.heap.size = w.heap.size + 1 + 1 := by rw [hW2]; simp
      have HSZ := Lib.hid hsz2
      have HF2 := Lib.hid hf2
      have HC := Lib.hid hbx
      have HW2 := Lib.hid hW2
      clear hW2 hf2 hsz2 hbx
      have HS2 : Hid (Fresh W2 (W2.alloc (.cells #[.int .i64 s] 3))) := fnew (frefl _) _
      have HO2 : Hid ((W2.alloc (.cells #[.int .i64 s] 3)).ownsRow W2.heap.size 3 1 (.slice (some ⟨W2.heap.size, 0, none⟩) 1 1) [s].length ([s].map iv)) := own1 W2 W2 s (Nat.le_refl _)
      go_enter Try.func171, Try.ntmps171
      go_wp2_with (go_at_call 143; refine (l1In_any _ _ _ _).mono ?_; rintro e w' ⟨rfl, rfl⟩)
      go_loopw [6, 7, 8] (fun o i _ wr => ∃ (k : Nat) (out : List Int), k ≤ l.length ∧ i = .int .i64 k ∧ walkR F s (l.take k) = some out ∧ wr.ownsRow W2.heap.size 3 1 o out.length (out.map iv) ∧ Fresh W2 wr) (fun _ i _ _ => l.length - (intOf i).toNat)
      case atStart => exact ⟨0, [s], Nat.zero_le _, rfl, rfl, by have := HO2.out; rw [HSZ.out] at this; rw [HW2.out] at this ⊢; simpa using this, by have := HS2.out; rw [HW2.out] at this ⊢; exact this⟩
      case round =>
        obtain ⟨k, out, hk, rfl, hwk, hown, hf⟩ := hrel
        have hol := walk_len hk hwk
        have hole : out.length ≤ 1048577 := by omega
        have hol0 : 0 < out.length := by omega
        clear hol
        obtain ⟨po, co, rfl, ho⟩ := own_of_row hown
        have hoi : Ints wr po out := (ints_of_own hown).2
        obtain ⟨bo, oo, rfl, hlast⟩ := last_cell hoi hol0
        have HOI := Lib.hid hoi
        have HOW := Lib.hid hown
        have HWK := Lib.hid hwk
        have HF := Lib.hid hf
        have HOO := Lib.hid ho
        obtain ⟨c00, c01, c10, c11⟩ := HC.out
        replace c00 := fkeep hf c00
        replace c01 := fkeep hf c01
        replace c10 := fkeep hf c10
        replace c11 := fkeep hf c11
        clear hown hwk hf ho hoi
        by_cases hlt : k < l.length
        · obtain ⟨b, off, i, rfl, hx, hc⟩ := (HL.out.keep (fstep HF2.out HF.out)).at hlt
          have hltz : (k : Int) < (l.length : Int) := by omega
          cases hi : inB i 0 ((F.length : Int) - 1)
          · have HN := Lib.hid (walk_dead (k := k + 1) (by rw [walk_step HWK.out hx, stepR_out hi]))
            clear hx
            go_wp2
            go_quiet ((go_at_call 143; exact Calls.quiet_of_same (l1In_q _ _ _ _ _)))
            go_wp2
            go_ret2
            exact ⟨_, _, out, by rw [HE.out, HN.out]; rfl, fdrewN (fstep HF2.out HF.out) _, fun out' ho => by rw [HE.out, HN.out] at ho; cases ho⟩
          · obtain ⟨g1, g2⟩ := inB_iff.1 hi
            obtain ⟨m, rfl⟩ := Int.eq_ofNat_of_zero_le g1
            have hm : m < F.length := by omega
            have hmz : (m : Int) < (F.length : Int) := by omega
            obtain ⟨b2, off2, x, y, z, u, hfp, hfx, _⟩ := (HFi.out.keep (fstep HF2.out HF.out)).at hm
            clear hfp
            have hst := walk_step HWK.out hx
            obtain ⟨X, hX⟩ : ∃ X, X = other ⟨x, y, z, u⟩ (lastI out) := ⟨_, rfl⟩
            have HX := Lib.hid hX
            have HST := Lib.hid hst
            have HFX := Lib.hid hfx
            have ho1 : (out.length : Int) - 1 < (out.length : Int) := by omega
            have ho2 : 0 ≤ (out.length : Int) - 1 := by omega
            have ho4 : IntKind.i64.wrap ((out.length : Int) - 1) = (out.length : Int) - 1 := by rw [IntKind.wrap_i64]; omega
            have ho5 : ((out.length : Int) - 1).toNat = out.length - 1 := by omega
            have ho6 : 1 ≤ (out.length : Int) := by omega
            have ho3 : (out.length : Int) - 1 ≤ (out.length : Int) := by omega
            clear hx hX hst hfx
            go_wp2
            go_quiet ((go_at_call 143; exact Calls.quiet_of_same (l1In_q _ _ _ _ _)))
            generalize hwd : wr.drewN _ = wd
            have hb : Fresh wr wd := by rw [← hwd]; exact fdrewN (frefl _) _
            replace c00 := fkeep hb c00
            replace c01 := fkeep hb c01
            replace c10 := fkeep hb c10
            replace c11 := fkeep hb c11
            replace hc := fkeep hb hc
            replace hlast := fkeep hb hlast
            replace HOI := Lib.hid (HOI.out.keep hb)
            replace HOW := Lib.hid (ownsRow_keep HOW.out hb)
            replace HF := Lib.hid (fstep HF.out hb)
            replace HOO := Lib.hid (HOO.out.keep hb)
            clear hb hwd
            go_wp2
            go_still_tail 12, (by kernel_rfl)
            change wpList _ _ _ _ _ wd.drew
            have hb : Fresh wd wd.drew := fdrew (frefl _)
            replace c00 := fkeep hb c00
            replace c01 := fkeep hb c01
            replace c10 := fkeep hb c10
            replace c11 := fkeep hb c11
            replace hc := fkeep hb hc
            replace hlast := fkeep hb hlast
            replace HOI := Lib.hid (HOI.out.keep hb)
            replace HOW := Lib.hid (ownsRow_keep HOW.out hb)
            replace HF := Lib.hid (fstep HF.out hb)
            replace HOO := Lib.hid (HOO.out.keep hb)
            clear hb
            generalize wd.drew = we at c00 c01 c10 c11 hc hlast HOI HOW HF HOO
            go_wp2_with fail
            refine (l2Other_any qn p N.length c d F m x y z u (lastI out) _ (HFi.out.keep (fstep HF2.out HF.out)) HFX.out n2).mono ?_
            rintro e w1 ⟨rfl, hb⟩
            rw [← HX.out]
            replace c00 := fkeep hb c00
            replace c01 := fkeep hb c01
            replace c10 := fkeep hb c10
            replace c11 := fkeep hb c11
            replace hc := fkeep hb hc
            replace hlast := fkeep hb hlast
            replace HOI := Lib.hid (HOI.out.keep hb)
            replace HOW := Lib.hid (ownsRow_keep HOW.out hb)
            replace HF := Lib.hid (fstep HF.out hb)
            replace HOO := Lib.hid (HOO.out.keep hb)
            clear hb
            by_cases hneg : X < 0
            · have hdn : decide (X < 0) = true := decide_eq_true hneg
              have HN := Lib.hid (walk_dead (k := k + 1) (by rw [HST.out, stepR_bad hi (by rw [Int.toNat_natCast]; exact HFX.out) (Or.inl (by rw [← HX.out]; exact hneg))]))
              go_wp2
              go_ret2
              exact ⟨_, _, out, by rw [HE.out, HN.out]; rfl, fstep HF2.out HF.out, fun out' ho => by rw [HE.out, HN.out] at ho; cases ho⟩
            · have hdn : decide (X < 0) = false := decide_eq_false hneg
              by_cases hmem : X ∈ out
              · have hdm : decide (X ∈ out) = true := decide_eq_true hmem
                have HN := Lib.hid (walk_dead (k := k + 1) (by rw [HST.out, stepR_bad hi (by rw [Int.toNat_natCast]; exact HFX.out) (Or.inr (by rw [← HX.out]; exact hmem))]))
                clear hmem
                go_wp2_with (go_at_call 95; refine (l1Has_any _ _ _ _ _ HOI.out (by omega)).mono ?_; rintro e w2 ⟨rfl, rfl⟩)
                go_ret2
                exact ⟨_, _, out, by rw [HE.out, HN.out]; rfl, fstep HF2.out HF.out, fun out' ho => by rw [HE.out, HN.out] at ho; cases ho⟩
              · have hdm : decide (X ∈ out) = false := decide_eq_false hmem
                have HN : Hid (walkR F s (l.take (k + 1)) = some (out ++ [X])) := by
                  show walkR F s (l.take (k + 1)) = some (out ++ [X])
                  rw [HST.out, stepR_good hi (by rw [Int.toNat_natCast]; exact HFX.out) (by rw [← HX.out]; exact fun h => h.elim hneg hmem), ← HX.out]
                have hown := HOW.out
                clear hmem
                go_wp2_with (first
                  | (go_at_call 95; refine (l1Has_any _ _ _ _ _ HOI.out (by omega)).mono ?_; rintro e w2 ⟨rfl, rfl⟩)
                  | (at_builtin; refine wpList_app_ints W2 _ _ out X rfl _ _ rfl rfl hown rfl (by omega) HF.out ?_; intro v' w2 hown2 hf2))
                have HO3 := Lib.hid hown2
                have HF3 := Lib.hid hf2
                clear hown hown2 hf2 c00 c01 c10 c11 hc hlast
                go_wp2
                go_roundw
                case rel => exact ⟨k + 1, out ++ [X], by omega, by go_num, HN.out, HO3.out, HF3.out⟩
                case measure => simp [intOf]; omega
        · have hkn : k = l.length := by omega
          have hltz : ¬ (k : Int) < (l.length : Int) := by omega
          have HN : Hid (walkR F s l = some out) := by
            show walkR F s l = some out
            have := HWK.out; rw [hkn, List.take_length] at this; exact this
          go_wp2
          go_ret2
          refine ⟨_, co, out, by rw [HE.out, HN.out]; rfl, fstep HF2.out HF.out, fun out' ho => ?_⟩
          rw [HE.out, HN.out] at ho
          cases ho
          exact ⟨rfl, HOO.out.mono HF2.out.size⟩

def isVis (n : Net) (s : Int) (l : List Int) : Bool := (visR n.nodes.length n.fibers s l).isSome
set_option maxHeartbeats 2000000 in
theorem l4Good_any (v : Value) (n : Net) (s : Int) (q : Option Addr) (cap : Nat) (l : List Int) (w : World) (h : NetIn w v n) (hl : Ints w q l) (hn : l.length ≤ 1048576) :
    Calls Try.prog 125 #[v, .agg #[.int .i64 s, .slice q l.length cap]] w fun e w' => e = .returned (.bool (netB n && isVis n s l)) ∧ Fresh w w' := by
  have HN := Lib.hid h
  have HL := Lib.hid hl
  clear hl
  obtain ⟨qn, c, p, d, hv, _⟩ := h
  subst hv
  obtain ⟨W2, hW2⟩ : ∃ W2, W2 = (w.alloc (.cells #[.slice qn n.nodes.length c, .slice p n.fibers.length d] 32)).alloc (.cells #[.int .i64 s, .slice q l.length cap] 79) := ⟨_, rfl⟩
  have hf2 : Fresh w W2 := by rw [hW2]; exact fnew (fnew (frefl _) _) _
  have hbx := two_boxes (w := w) (w1 := W2) (a := .slice qn n.nodes.length c) (b := .slice p n.fibers.length d) (c := .int .i64 s) (d := .slice q l.length cap) (t1 := 32) (t2 := 79) (by rw [hW2]; exact frefl _)
  have HF2 := Lib.hid hf2
  have HC := Lib.hid hbx
  have HW2 := Lib.hid hW2
  clear hW2 hf2 hbx
  go_enter Try.func125, Try.ntmps125
  go_wp2_with fail
  rw [← HW2.out]
  refine (l2Good_any _ n _ (HN.out.keep HF2.out)).mono ?_
  rintro e w1 ⟨rfl, hb⟩
  obtain ⟨c00, c01, c10, c11⟩ := HC.out
  replace c00 := fkeep hb c00
  replace c01 := fkeep hb c01
  replace c10 := fkeep hb c10
  replace c11 := fkeep hb c11
  have HF := Lib.hid (fstep HF2.out hb)
  clear hb
  cases hnet : netB n
  · go_wp2
    go_ret
    exact ⟨ret_bool (by rw [hnet]; rfl), HF.out⟩
  · go_wp2_with fail
    refine (l4Walk_any _ n s q cap l _ (HN.out.keep HF.out) (HL.out.keep HF.out) hn).mono ?_
    rintro e w2 ⟨p2, cap2, xs, rfl, hb, _⟩
    have HF3 := Lib.hid (fstep HF.out hb)
    clear hb c00 c01 c10 c11
    go_wp2
    go_ret
    exact ⟨ret_bool (by rw [hnet]; rfl), HF3.out⟩
end Go.Proofs.Ytjlhjkdmpngkbaa
