/- Plain laws and contracts: pairs of requests that conflict, both sides. -/
import Derived.Test.YtjlhjkdmpngkbaaU5
import Derived.Test.YtjlhjkdmpngkbaaRp
namespace Go.Proofs.Ytjlhjkdmpngkbaa
open Go.RowKit Go.PlainAid

def cpRow (L : List RqT) (i k : Nat) : List (Int × Int) := ((List.range k).filter fun j => decide (i < j) && confAt L i j).map fun (j : Nat) => ((i : Int), (j : Int))
def cpTo (L : List RqT) (n N : Nat) : List (Int × Int) := (List.range n).flatMap fun i => cpRow L i N
theorem cpRow_yes {L : List RqT} {i k : Nat} (h : i < k) (h2 : confAt L i k = true) : cpRow L i (k + 1) = cpRow L i k ++ [((i : Int), (k : Int))] := by
  unfold cpRow; rw [List.range_succ, List.filter_append, List.map_append]; simp [h, h2]
theorem cpRow_no {L : List RqT} {i k : Nat} (h2 : confAt L i k = false) : cpRow L i (k + 1) = cpRow L i k := by
  unfold cpRow; rw [List.range_succ, List.filter_append, List.map_append]; simp [h2]
theorem cpRow_first (L : List RqT) (i : Nat) : cpRow L i (i + 1) = [] := by
  unfold cpRow
  rw [List.map_eq_nil_iff, List.filter_eq_nil_iff]
  intro a ha
  have := List.mem_range.1 ha
  simp; intro h; omega
theorem cpTo_succ (L : List RqT) (n N : Nat) : cpTo L (n + 1) N = cpTo L n N ++ cpRow L n N := by unfold cpTo; rw [List.range_succ, List.flatMap_append]; simp
theorem cpRow_len (L : List RqT) (i k : Nat) : (cpRow L i k).length ≤ k := by
  unfold cpRow
  rw [List.length_map]
  exact Nat.le_trans (List.length_filter_le _ _) (by simp)
theorem cpTo_len (L : List RqT) (n N : Nat) : (cpTo L n N).length ≤ n * N := by
  induction n with
  | zero => simp [cpTo]
  | succ n ih =>
    have := cpRow_len L n N
    rw [cpTo_succ, List.length_append, Nat.add_mul]
    omega
def cpF (n : Net) (L : List RqT) : List (Int × Int) × Bool := if reqsB n L = true then (cpTo L L.length L.length, true) else ([], false)
theorem cpF_len (n : Net) (L : List RqT) : (cpF n L).1.length ≤ 1048576 := by
  unfold cpF
  split
  · next h =>
    have h7 := (reqs_cnt h).2
    have h1 := cpTo_len L L.length L.length
    have h2 : L.length * L.length ≤ 7 * 7 := Nat.mul_le_mul h7 h7
    simp only; omega
  · simp

set_option maxHeartbeats 4000000 in
set_option maxRecDepth 100000 in
theorem specConflictPairs_any (v : Value) (n : Net) (u : Value) (L : List RqT) (w : World) (h : NetIn w v n) (hu : RqIn w u L) :
    Calls Try.prog 49 #[v, u] w (fun e w' => ∃ p c, e = .returned (.tuple #[.slice p (cpF n L).1.length c, .bool (cpF n L).2]) ∧ Own w' w.heap.size 153 p (pcs (cpF n L).1) ∧ Fresh w w') := by
  obtain ⟨p, cap, l, rfl, hl, hs, hL⟩ := hu
  have HN := Lib.hid h
  have HL := Lib.hid hl
  have HLL := Lib.hid hL
  have hn := hs.1
  have hlen : L.length = l.length := by rw [hL]; simp
  have HLEN := Lib.hid hlen
  have HSM := Lib.hid hs
  clear hs hl hL hlen
  obtain ⟨q, m, c, p', k', d', rfl⟩ := h.shape
  clear h
  obtain ⟨W1, hW1⟩ : ∃ W1, W1 = w.alloc (.cells #[.slice q m c, .slice p' k' d'] 32) := ⟨_, rfl⟩
  have HF1 : Hid (Fresh w W1) := by show Fresh w W1; rw [hW1]; exact fnew (frefl _) _
  have c0 : W1.cell? ⟨w.heap.size, 0, none⟩ = some (.slice q m c) := by rw [hW1]; exact (RowAt.new w 32 [.slice q m c, .slice p' k' d']).cell (i := 0) rfl
  have c1 : W1.cell? ⟨w.heap.size, 1, none⟩ = some (.slice p' k' d') := by rw [hW1]; exact (RowAt.new w 32 [.slice q m c, .slice p' k' d']).cell (i := 1) rfl
  obtain ⟨W2, hW2⟩ : ∃ W2, W2 = W1.alloc (.cells #[] 153) := ⟨_, rfl⟩
  have hf2 : Fresh W1 W2 := by rw [hW2]; exact fnew (frefl _) _
  have hs12 : w.heap.size ≤ W1.heap.size := HF1.out.size
  have hz1 : W1.heap.size = w.heap.size + 1 := by rw [hW1]; simp
  have hown2 : W2.ownsRow w.heap.size 153 2 (.slice (some ⟨w.heap.size + 1, 0, none⟩) 0 0) 0 (pcs []) := by rw [← hz1, hW2]; exact World.ownsRow_made W1 #[] 0 hs12 (by simp [maxLen]) rfl
  have HW1 := Lib.hid hW1
  have HW2 := Lib.hid hW2
  have HO2 := Lib.hid hown2
  have HF2 := Lib.hid (fstep HF1.out hf2)
  have e0 := fkeep hf2 c0
  have e1 := fkeep hf2 c1
  clear hown2 hf2 hs12 hz1 hW1 hW2
  go_enter Try.func49, Try.ntmps49
  go_wp2_with fail
  rw [← HW1.out, ← HW2.out]
  refine (l12Good_any _ n p cap l _ (HN.out.keep HF2.out) (HL.out.keep HF2.out) HSM.out).mono ?_
  rintro e w1 ⟨rfl, hb⟩
  rw [← HLL.out]
  have HO := Lib.hid (ownsRow_keep HO2.out hb)
  have HF := Lib.hid (fstep HF2.out hb)
  clear hb c0 c1 e0 e1
  cases hg : reqsB n L
  · have HE : Hid (cpF n L = ([], false)) := by show _ = _; unfold cpF; rw [if_neg (by simp [hg])]
    go_wp2
    go_ret2
    rw [HE.out]
    obtain ⟨pr, cr, hpr, ho⟩ := own_of_row HO.out
    cases hpr
    exact ⟨_, _, rfl, ho, HF.out⟩
  · obtain ⟨hcs, h7⟩ := reqs_cnt hg
    have HE : Hid (cpF n L = (cpTo L L.length L.length, true)) := by show _ = _; unfold cpF; rw [if_pos hg]
    rw [HLEN.out] at HE h7
    clear hcs hg
    go_wp2
    go_loopw [6, 7] (fun o j wr => ∃ i : Nat, i ≤ l.length ∧ j = .int .i64 i ∧ wr.ownsRow w.heap.size 153 2 o (cpTo L i l.length).length (pcs (cpTo L i l.length)) ∧ Fresh w wr) (fun _ j _ => l.length - (intOf j).toNat)
    case atStart => exact ⟨0, Nat.zero_le _, rfl, HO.out, HF.out⟩
    case round =>
      obtain ⟨wo, rfl⟩ : ∃ wo : World, wo = wr := ⟨_, rfl⟩
      obtain ⟨i, hi, rfl, hown, hf⟩ := hrel
      have HO := Lib.hid hown
      have HF := Lib.hid hf
      have HIL := Lib.hid (cpTo_len L i l.length)
      clear hown hf
      by_cases hlt : i < l.length
      · have hltz : (i : Int) < (l.length : Int) := by omega
        have HST := Lib.hid (cpTo_succ L i l.length)
        have HFI := Lib.hid (cpRow_first L i)
        obtain ⟨I, hI⟩ : ∃ I, I = cpTo L i l.length := ⟨_, rfl⟩
        rw [← hI] at HO HST HIL
        clear hI
        have hIn : I.length ≤ 49 := Nat.le_trans HIL.out (Nat.le_trans (Nat.mul_le_mul (show i ≤ 7 by omega) h7) (by decide))
        go_wp2
        go_loopw [6, 8] (fun o j wr => ∃ k : Nat, i < k ∧ k ≤ l.length ∧ j = .int .i64 k ∧ wr.ownsRow w.heap.size 153 2 o (I ++ cpRow L i k).length (pcs (I ++ cpRow L i k)) ∧ Fresh w wr) (fun _ j _ => l.length - (intOf j).toNat)
        case atStart => exact ⟨i + 1, by omega, by omega, by go_num, by rw [HFI.out, List.append_nil]; exact HO.out, HF.out⟩
        case round =>
          obtain ⟨k, hik, hk, rfl, hown, hf⟩ := hrel
          have HO2 := Lib.hid hown
          have HF2 := Lib.hid hf
          have hrl := cpRow_len L i k
          clear hown hf
          by_cases hlt2 : k < l.length
          · have hkz : (k : Int) < (l.length : Int) := by omega
            obtain ⟨b2, o2, x, rfl, hx, hxm, hxi, d10, d11, d12⟩ := (HL.out.keep HF2.out).at hlt
            obtain ⟨b3, o3, y, hp3, hy, hym, hyi, e10, e11, e12⟩ := (HL.out.keep HF2.out).at hlt2
            cases hp3
            have hcf : confAt L i k = confB x.val y.val := confAt_of (by rw [HLL.out]; exact rq_at hx) (by rw [HLL.out]; exact rq_at hy)
            have hsx := HSM.out.2 x hxm
            have hsy := HSM.out.2 y hym
            have HC2 : Hid (∀ xa : After wr, Calls Try.prog 115 #[lqV x, lqV y] xa.w' fun e w' => e = .returned (.bool (confB x.val y.val)) ∧ Fresh xa.w' w') :=
              fun xa => l12Conflict_any x y xa.w' (hxi.keep xa.h) (hyi.keep xa.h) hsx hsy
            have HCF := Lib.hid hcf
            have i0 := fun xa : After wr => akeep d10 xa
            have i1 := fun xa : After wr => akeep d11 xa
            have i2 := fun xa : After wr => akeep d12 xa
            have j0 := fun xa : After wr => akeep e10 xa
            have j1 := fun xa : After wr => akeep e11 xa
            have j2 := fun xa : After wr => akeep e12 xa
            have HIK := Lib.hid hik
            obtain ⟨J, hJ⟩ : ∃ J, J = cpRow L i k := ⟨_, rfl⟩
            clear hx hxm hxi hy hym hyi hcf
            cases hcc : confB x.val y.val
            · have HN1 : Hid (cpRow L i (k + 1) = J) := by show _ = _; rw [hJ]; exact cpRow_no (by rw [HCF.out, hcc])
              rw [hcc] at HC2
              rw [← hJ] at HO2 hrl
              clear hJ hcc
              go_wp2
              refine wp_region_after (by kernel_rfl) (by kernel_rfl) ?_
              repeat (go_big_quiet_step ((go_at_call 115; exact after_call (HC2.out _))))
              refine wpQuiet_nil ?_
              rintro _ ⟨xa, rfl⟩
              have HO3 := Lib.hid (ownsRow_keep HO2.out xa.h)
              go_wp2
              go_roundw
              case rel => exact ⟨k + 1, by omega, by omega, by go_num, by rw [HN1.out]; exact HO3.out, fstep HF2.out xa.h⟩
              case measure => simp [intOf]; omega
            · have HN1 : Hid (cpRow L i (k + 1) = J ++ [((i : Int), (k : Int))]) := by show _ = _; rw [hJ]; exact cpRow_yes HIK.out (by rw [HCF.out, hcc])
              rw [hcc] at HC2
              rw [← hJ] at HO2 hrl
              clear hJ hcc
              go_wp2
              refine wp_region_after (by kernel_rfl) (by kernel_rfl) ?_
              repeat (go_big_quiet_step ((go_at_call 115; exact after_call (HC2.out _))))
              refine wpQuiet_nil ?_
              rintro _ ⟨xa, rfl⟩
              have hown := ownsRow_keep HO2.out xa.h
              have HFX := Lib.hid (fstep HF2.out xa.h)
              have hjl : (I ++ J).length ≤ 1099511627776 := by rw [List.length_append]; omega
              go_wp2_with (at_builtin; refine wpList_app_prs Try.underlying86 infoA2 w _ _ (I ++ J) (i : Int) (k : Int) rfl _ _ rfl rfl hown rfl hjl HFX.out ?_; intro v' w3 hown3 hf3)
              have HO4 := Lib.hid hown3
              have HF4 := Lib.hid hf3
              clear hown hown3 hf3 hjl
              go_wp2
              go_roundw
              case rel => exact ⟨k + 1, by omega, by omega, by go_num, by rw [HN1.out, ← List.append_assoc]; exact HO4.out, HF4.out⟩
              case measure => simp [intOf]; omega
          · have hkl : k = l.length := by omega
            subst hkl
            go_wp2
            go_roundw
            case rel => exact ⟨i + 1, by omega, by go_num, by rw [HST.out]; exact HO2.out, HF2.out⟩
            case measure => simp [intOf]; omega
      · have hkl : i = l.length := by omega
        subst hkl
        go_wp2
        go_ret2
        rw [HE.out]
        obtain ⟨pr, cr, hpr, ho⟩ := own_of_row HO.out
        subst hpr
        exact ⟨_, _, rfl, ho, HF.out⟩
end Go.Proofs.Ytjlhjkdmpngkbaa
