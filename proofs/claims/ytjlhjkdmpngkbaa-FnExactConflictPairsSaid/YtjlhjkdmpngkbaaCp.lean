/- Contracts: pairs of requests that conflict, the program's side. -/
import Derived.Test.YtjlhjkdmpngkbaaCpP
import Derived.Maps.AppendAt
namespace Go.Proofs.Ytjlhjkdmpngkbaa
open Go.RowKit Go.PlainAid

/-- One pair appended to a row of the call's own; a variable beside it stays. -/
theorem wpList_app_prsb {T E : TypeId} (hu : Try.prog.underlying T = some (.slice E)) (hinfo : (Try.prog.info? E).map (fun i => (i.zero, i.size, i.bytes)) = some (some (.agg #[.int .i64 0, .int .i64 0]), 2, 16))
    {b : Nat} {bt : TypeId} {bx : List Value} {w1 : World} (hb : RowAt w1 b bt bx)
    {ops : Array Oper} {rest : List Oper} {o : Oper} {a : Act} {Q : Exit → Act → World → Prop} (w0 : World) (v : Value) (l : List (Int × Int)) (x y : Int) (hgd : o.guard = none) (s t : Operand)
    (ho : o.op = .call { callee := .builtin .append, args := #[s, t], argTypes := #[T, T] }) (hs : a.eval s = v) (hown : w1.ownsRow w0.heap.size E 2 v l.length (pcs l))
    (hx : a.eval t = .slice (some ⟨w1.heap.size, 0, none⟩) 1 1) (hn : l.length ≤ 1099511627776) (hf : Fresh w0 w1) (hfar : ∀ k, v.ownBlock = some k → k ≠ b)
    (h : ∀ v' w', w'.ownsRow w0.heap.size E 2 v' (l ++ [(x, y)]).length (pcs (l ++ [(x, y)])) → Fresh w0 w' → RowAt w' b bt bx → (∀ k, v'.ownBlock = some k → k ≠ b) → wpList Try.prog ops Q rest (a.put o.dst v') w') :
    wpList Try.prog ops Q (o :: rest) a (w1.alloc (.cells #[.int .i64 x, .int .i64 y] E)) := by
  obtain ⟨i0, hi, hz0, hz1, hz2⟩ := info_parts hinfo
  have hba := hb.alloc (.cells #[.int .i64 x, .int .i64 y] E)
  refine wpList_append_own_at _ hgd s t T ho w0.heap.size E i0 (.agg #[.int .i64 0, .int .i64 0]) 2 16 hu hi hz0 hz1 hz2 rfl (by decide) v l.length (pcs l) hs (hown.alloc _) ⟨w1.heap.size, 0, none⟩ 1 1 [iv x, iv y] hx rfl (cell_two_new _ _ _ _)
    (by intro u hu; simp at hu; rcases hu with rfl | rfl <;> rfl) (by unfold maxLen; omega) (by omega) (Nat.le_trans hf.size (by simp)) ?_
  intro v' w' hown' hgrow _ hblk
  have hlt := hba.lt
  refine h v' w' ?_ (fgrown (fnew hf _) hgrow (own_block hown)) ?_ ?_
  · rw [pcs_app, List.length_append]
    exact hown'
  · unfold RowAt
    rw [hgrow.block b hlt (fun he => hfar b he.symm rfl)]
    exact hba
  · intro k hk
    rcases hblk with hblk | hblk
    · exact hfar k (by rw [← hblk]; exact hk)
    · rw [hblk] at hk
      cases hk
      exact Nat.ne_of_gt hlt

set_option maxHeartbeats 4000000 in
set_option maxRecDepth 100000 in
theorem implConflictPairs_any (v : Value) (n : Net) (u : Value) (L : List RqT) (w : World) (h : NetIn w v n) (hu : RqIn w u L) :
    Calls Try.prog 50 #[v, u] w (fun e w' => ∃ p c, e = .returned (.tuple #[.slice p (cpF n L).1.length c, .bool (cpF n L).2]) ∧ Own w' w.heap.size 153 p (pcs (cpF n L).1) ∧ Fresh w w') := by
  obtain ⟨p, cap, l, rfl, hl, hs, hL⟩ := hu
  have HN := Lib.hid h
  have HL := Lib.hid hl
  have HLL := Lib.hid hL
  have hn := hs.1
  have hlen : L.length = l.length := by rw [hL]; simp
  have HLEN := Lib.hid hlen
  have HSM := Lib.hid hs
  clear hs hl hL hlen
  obtain ⟨q, m, c, p', k', d', rfl⟩ := h.shape
  clear h
  obtain ⟨W1, hW1⟩ : ∃ W1, W1 = w.alloc (.cells #[.slice q m c, .slice p' k' d'] 32) := ⟨_, rfl⟩
  have HF1 : Hid (Fresh w W1) := by show Fresh w W1; rw [hW1]; exact fnew (frefl _) _
  have c0 : W1.cell? ⟨w.heap.size, 0, none⟩ = some (.slice q m c) := by rw [hW1]; exact (RowAt.new w 32 [.slice q m c, .slice p' k' d']).cell (i := 0) rfl
  have c1 : W1.cell? ⟨w.heap.size, 1, none⟩ = some (.slice p' k' d') := by rw [hW1]; exact (RowAt.new w 32 [.slice q m c, .slice p' k' d']).cell (i := 1) rfl
  have HW1 := Lib.hid hW1
  clear hW1
  go_enter Try.func50, Try.ntmps50
  go_wp2_with fail
  rw [← HW1.out]
  refine (implIsValidRequests_any _ n p cap l _ (HN.out.keep HF1.out) (HL.out.keep HF1.out) HSM.out).mono ?_
  rintro e w1 ⟨rfl, hb⟩
  rw [← HLL.out]
  have HF := Lib.hid (fstep HF1.out hb)
  clear hb c0 c1
  cases hg : reqsB n L
  · have HE : Hid (cpF n L = ([], false)) := by show _ = _; unfold cpF; rw [if_neg (by simp [hg])]
    go_wp2
    go_ret2
    rw [HE.out]
    exact ⟨_, _, rfl, Or.inl ⟨rfl, rfl⟩, HF.out⟩
  · obtain ⟨hcs, h7⟩ := reqs_cnt hg
    have HE : Hid (cpF n L = (cpTo L L.length L.length, true)) := by show _ = _; unfold cpF; rw [if_pos hg]
    rw [HLEN.out] at HE h7
    clear hcs hg
    have hsw := HF.out.size
    go_wp2
    go_loopw [6, 17] (fun o j wr => ∃ i : Nat, i ≤ l.length ∧ j = .int .i64 i ∧ wr.ownsRow w.heap.size 153 2 o (cpTo L i l.length).length (pcs (cpTo L i l.length)) ∧ Fresh w wr) (fun _ j _ => l.length - (intOf j).toNat)
    case atStart => exact ⟨0, Nat.zero_le _, rfl, World.ownsRow_made w1 #[] 0 hsw (by simp [maxLen]) rfl, fnew HF.out _⟩
    case round =>
      obtain ⟨wo, rfl⟩ : ∃ wo : World, wo = wr := ⟨_, rfl⟩
      obtain ⟨i, hi, rfl, hown, hf⟩ := hrel
      have HO := Lib.hid hown
      have HF := Lib.hid hf
      have HIL := Lib.hid (cpTo_len L i l.length)
      clear hown hf
      by_cases hlt : i < l.length
      · have hltz : (i : Int) < (l.length : Int) := by omega
        have HST := Lib.hid (cpTo_succ L i l.length)
        have HFI := Lib.hid (cpRow_first L i)
        obtain ⟨I, hI⟩ : ∃ I, I = cpTo L i l.length := ⟨_, rfl⟩
        rw [← hI] at HO HST HIL
        clear hI
        obtain ⟨b1, o1, x, rfl, hx, hxm, hxi, c10, c11, c12⟩ := (HL.out.keep HF.out).at hlt
        obtain ⟨W4, hW4⟩ : ∃ W4, W4 = wo.alloc (.cells #[.int .i64 x.r.start, .slice x.r.q x.r.fibs.length x.r.cap, .int .i64 x.count] 128) := ⟨_, rfl⟩
        have hf4 : Fresh wo W4 := by rw [hW4]; exact fnew (frefl _) _
        have HBX : Hid (RowAt W4 wo.heap.size 128 [.int .i64 x.r.start, .slice x.r.q x.r.fibs.length x.r.cap, .int .i64 x.count]) := by show RowAt _ _ _ _; rw [hW4]; exact RowAt.new _ _ _
        have HXV := Lib.hid (show L[i]? = some x.val by rw [HLL.out]; exact rq_at hx)
        have hsx := HSM.out.2 x hxm
        have HXI := Lib.hid (HL.out.2 x hxm)
        have HFAR0 : Hid (∀ o, wo.ownsRow w.heap.size 153 2 o I.length (pcs I) → ∀ k, o.ownBlock = some k → k ≠ wo.heap.size) := fun o ho k hk => Nat.ne_of_lt (ho.lt k hk).2
        have HO4 := Lib.hid (ownsRow_keep HO.out hf4)
        have HF5 := Lib.hid (fstep HF.out hf4)
        have HW4 := Lib.hid hW4
        clear hx hxm hxi hf4 hW4
        have hIn : I.length ≤ 49 := Nat.le_trans HIL.out (Nat.le_trans (Nat.mul_le_mul (show i ≤ 7 by omega) h7) (by decide))
        go_wp2
        rw [← HW4.out]
        go_loopw [6, 9] (fun o j wr => ∃ k : Nat, i < k ∧ k ≤ l.length ∧ j = .int .i64 k ∧ wr.ownsRow w.heap.size 153 2 o (I ++ cpRow L i k).length (pcs (I ++ cpRow L i k)) ∧ Fresh w wr ∧ RowAt wr wo.heap.size 128 [.int .i64 x.r.start, .slice x.r.q x.r.fibs.length x.r.cap, .int .i64 x.count] ∧ ∀ b, o.ownBlock = some b → b ≠ wo.heap.size) (fun _ j _ => l.length - (intOf j).toNat)
        case atStart => exact ⟨i + 1, by omega, by omega, by go_num, by rw [HFI.out, List.append_nil]; exact HO4.out, HF5.out, HBX.out, HFAR0.out _ HO.out⟩
        case round =>
          obtain ⟨k, hik, hk, rfl, hown, hf, hbx, hfar⟩ := hrel
          have HO2 := Lib.hid hown
          have HB2 := Lib.hid hbx
          have HFAR := Lib.hid hfar
          have HF2 := Lib.hid hf
          have hrl := cpRow_len L i k
          clear hown hf hbx hfar
          by_cases hlt2 : k < l.length
          · have hkz : (k : Int) < (l.length : Int) := by omega
            obtain ⟨b3, o3, y, hp3, hy, hym, hyi, e10, e11, e12⟩ := (HL.out.keep HF2.out).at hlt2
            cases hp3
            have hcf : confAt L i k = confB x.val y.val := confAt_of HXV.out (by rw [HLL.out]; exact rq_at hy)
            have d10 := HB2.out.cell (i := 0) rfl
            have d11 := HB2.out.cell (i := 1) rfl
            have d12 := HB2.out.cell (i := 2) rfl
            have hxi := HXI.out.keep HF2.out
            have hsy := HSM.out.2 y hym
            have HC2 : Hid (∀ xa : After wr, Calls Try.prog 116 #[lqV x, lqV y] xa.w' fun e w' => e = .returned (.bool (confB x.val y.val)) ∧ Fresh xa.w' w') :=
              fun xa => conflict_any x y xa.w' (hxi.keep xa.h) (hyi.keep xa.h) hsx hsy
            have HCF := Lib.hid hcf
            have i0 := fun xa : After wr => akeep d10 xa
            have i1 := fun xa : After wr => akeep d11 xa
            have i2 := fun xa : After wr => akeep d12 xa
            have j0 := fun xa : After wr => akeep e10 xa
            have j1 := fun xa : After wr => akeep e11 xa
            have j2 := fun xa : After wr => akeep e12 xa
            have HIK := Lib.hid hik
            obtain ⟨J, hJ⟩ : ∃ J, J = cpRow L i k := ⟨_, rfl⟩
            clear hxi hy hym hyi hcf
            cases hcc : confB x.val y.val
            · have HN1 : Hid (cpRow L i (k + 1) = J) := by show _ = _; rw [hJ]; exact cpRow_no (by rw [HCF.out, hcc])
              rw [hcc] at HC2
              rw [← hJ] at HO2 hrl
              clear hJ hcc
              go_wp2
              refine wp_region_after (by kernel_rfl) (by kernel_rfl) ?_
              repeat (go_big_quiet_step ((go_at_call 116; exact after_call (HC2.out _))))
              refine wpQuiet_nil ?_
              rintro _ ⟨xa, rfl⟩
              have HO3 := Lib.hid (ownsRow_keep HO2.out xa.h)
              go_wp2
              go_roundw
              case rel => exact ⟨k + 1, by omega, by omega, by go_num, by rw [HN1.out]; exact HO3.out, fstep HF2.out xa.h, HB2.out.keep xa.h, HFAR.out⟩
              case measure => simp [intOf]; omega
            · have HN1 : Hid (cpRow L i (k + 1) = J ++ [((i : Int), (k : Int))]) := by show _ = _; rw [hJ]; exact cpRow_yes HIK.out (by rw [HCF.out, hcc])
              rw [hcc] at HC2
              rw [← hJ] at HO2 hrl
              clear hJ hcc
              go_wp2
              refine wp_region_after (by kernel_rfl) (by kernel_rfl) ?_
              repeat (go_big_quiet_step ((go_at_call 116; exact after_call (HC2.out _))))
              refine wpQuiet_nil ?_
              rintro _ ⟨xa, rfl⟩
              have hown := ownsRow_keep HO2.out xa.h
              have HFX := Lib.hid (fstep HF2.out xa.h)
              have HBY := Lib.hid (HB2.out.keep xa.h)
              have hjl : (I ++ J).length ≤ 1099511627776 := by rw [List.length_append]; omega
              go_wp2_with (at_builtin; refine wpList_app_prsb Try.underlying86 infoA2 HBY.out w _ (I ++ J) (i : Int) (k : Int) rfl _ _ rfl rfl hown rfl hjl HFX.out HFAR.out ?_; intro v' w3 hown3 hf3 hbx3 hfar3)
              have HO6 := Lib.hid hown3
              have HF6 := Lib.hid (And.intro hf3 (And.intro hbx3 hfar3))
              clear hown hown3 hf3 hjl hbx3 hfar3
              go_wp2
              go_roundw
              case rel => exact ⟨k + 1, by omega, by omega, by go_num, by rw [HN1.out, ← List.append_assoc]; exact HO6.out, HF6.out⟩
              case measure => simp [intOf]; omega
          · have hkl : k = l.length := by omega
            subst hkl
            go_wp2
            go_roundw
            case rel => exact ⟨i + 1, by omega, by go_num, by rw [HST.out]; exact HO2.out, HF2.out⟩
            case measure => simp [intOf]; omega
      · have hkl : i = l.length := by omega
        subst hkl
        go_wp2
        go_ret2
        rw [HE.out]
        obtain ⟨pr, cr, hpr, ho⟩ := own_of_row HO.out
        subst hpr
        exact ⟨_, _, rfl, ho, HF.out⟩
end Go.Proofs.Ytjlhjkdmpngkbaa
