/- Contracts: all routes between two nodes, the program's search: the walk. -/
import Derived.Test.YteckjlkhopkogaaGreatRe
namespace Go.Proofs.YteckjlkhopkogaaGreat
open Go.RowKit Go.PlainAid

theorem Rts.snoc {w w2 w3 : World} {base c' : Nat} {V v3 : Value} {l : List LR} {s : Int} {q' : Option Addr} {fs : List Int} (h : Rts w base V l) (hf : Fresh w w2) (hbw : base ≤ w.heap.size) (ho : Own w2 w.heap.size 3 q' (fs.map iv)) (hc1 : fs.length ≤ c') (hc2 : c' ≤ 9223372036854775807)
    (hown : w3.ownsRow base 90 2 v3 (l.length + 1) (l.flatMap lrC ++ [iv s, .slice q' fs.length c'])) (hk : ∀ g t cs, RowAt w2 g t cs → (t ≠ 90 ∨ V.ownBlock ≠ some g) → RowAt w3 g t cs) : Rts w3 base v3 (l ++ [⟨s, q', c', fs⟩]) := by
  have hS : ∀ {b : Nat} {pp : Option Addr} {cs : List Value}, Own w2 b 3 pp cs → Own w3 b 3 pp cs := by
    intro b pp cs h
    rcases h with h1 | ⟨g, sp, a1, a2, a3⟩
    · exact Or.inl h1
    · exact Or.inr ⟨g, sp, a1, a2, hk _ _ _ a3 (Or.inl (by decide))⟩
  refine ⟨?_, ?_, h.dist.snoc ?_, ?_⟩
  · rw [List.length_append, List.flatMap_append]; simpa using hown
  · intro x hx
    rcases List.mem_append.1 hx with hx | hx
    · exact hS ((h.fib x hx).keep hf)
    · rw [List.mem_singleton.1 hx]; exact (hS ho).mono hbw
  · intro y hy g o h' o' e1 e2
    have h1 := h.blk y hy h' o' e2
    rcases ho with ⟨e0, _⟩ | ⟨b, sp, e0, e3, e4⟩
    · simp only at e1; rw [e0] at e1; cases e1
    · simp only at e1; rw [e0] at e1; cases e1; omega
  · intro x hx
    rcases List.mem_append.1 hx with hx | hx
    · exact h.cap x hx
    · rw [List.mem_singleton.1 hx]; exact ⟨hc1, hc2⟩
theorem Rts.setO {w : World} {base g : Nat} {V u : Value} {l : List LR} {T : TypeId} {cs : List Value} (h : Rts w base V l) (hr : RowAt w g T cs) (h1 : 90 ≠ T) (h2 : 3 ≠ T) (i : Nat) : Rts (w.setCell ⟨g, i, none⟩ u) base V l :=
  ⟨owns_setO h.row hr h1 i, fun x hx => (h.fib x hx).setO hr h2 _ _, h.dist, h.cap⟩
theorem Own.holds {w : World} {base : Nat} {t : TypeId} {q : Option Addr} {xs : List Value} (h : Own w base t q xs) : ∀ b, q = some b → ∀ j u, xs[j]? = some u → w.cell? (b.add j) = some u := by
  intro b e j u hu
  rcases h with ⟨h0, _⟩ | ⟨g, sp, h1, _, h3⟩
  · rw [h0] at e; cases e
  · rw [h1] at e; cases e
    have hc := h3.cell (i := j) (v := u) (by rw [List.getElem?_append_left (List.getElem?_eq_some_iff.1 hu).1]; exact hu)
    unfold Addr.add
    split
    · next e => subst e; exact hc
    · simpa only [Nat.zero_add] using hc
theorem Own.isNone {w : World} {base : Nat} {t : TypeId} {q : Option Addr} {xs : List Value} (h : Own w base t q xs) (e : q = none) : xs = [] := by
  rcases h with ⟨_, h0⟩ | ⟨g, sp, h1, _⟩
  · exact h0
  · rw [h1] at e; cases e
theorem fgrow0 {w w' : World} (h : w.grownBy w' none) : Fresh w w' := (frefl w).grown h (Nat.le_refl _) (fun k hk => by cases hk)
theorem KpR.int {bo : Nat} {a b : World} (h : KpR bo a b) {base : Nat} {q : Option Addr} {xs cs : List Value} (ho : Own a base 3 q xs) (hr : RowAt a bo 137 cs) : Own b base 3 q xs :=
  h.own ho fun g o e he => by
    subst he
    rcases ho with ⟨h0, _⟩ | ⟨g', sp, e1, _, e3⟩
    · rw [h0] at e; cases e
    · rw [e1] at e; cases e; exact absurd (e3.inj hr).1 (by decide)
def kidsR (F : List Fib) (t : Int) (k : Nat) (seen fs : List Int) (i : Nat) : List (List Int) := match kidR F seen fs i with | some c => dfsR F t k c.1 c.2 | none => []
def partR (F : List Fib) (t : Int) (k : Nat) (seen fs : List Int) (i : Nat) : List (List Int) := (List.range i).flatMap (kidsR F t k seen fs)
theorem partR_succ (F : List Fib) (t : Int) (k : Nat) (seen fs : List Int) (i : Nat) : partR F t k seen fs (i + 1) = partR F t k seen fs i ++ kidsR F t k seen fs i := by unfold partR; rw [List.range_succ, List.flatMap_append]; simp
theorem partR_all {F : List Fib} {t : Int} {k : Nat} {seen fs : List Int} (h : lastI seen ≠ t) : dfsR F t (k + 1) seen fs = partR F t k seen fs F.length := by rw [dfs_on h]; rfl
theorem partR_le (F : List Fib) (t : Int) (k : Nat) (seen fs : List Int) {i j : Nat} (h : i ≤ j) : (partR F t k seen fs i).length ≤ (partR F t k seen fs j).length := by
  induction j with
  | zero => have : i = 0 := by omega
            subst this; exact Nat.le_refl _
  | succ j ih =>
    rcases Nat.eq_or_lt_of_le h with h1 | h1
    · subst h1; exact Nat.le_refl _
    · rw [partR_succ, List.length_append]; have := ih (by omega); omega
set_option maxHeartbeats 8000000 in
set_option maxRecDepth 100000 in
theorem reClo_any (w0 : World) (bt bo bf bn be : Nat) (qn pn : Option Addr) (cn cp : Nat) (n : Net) (s t : Int) (hF : Fibs w0 pn n.fibers) (nF : n.fibers.length ≤ 14) (nN : n.nodes.length ≤ 8) (hb : ∀ f ∈ n.fibers, 0 ≤ f.a ∧ f.a < f.b ∧ f.b < (n.nodes.length : Int)) (g0 : w0.heap.size ≤ bo)
    (n1 : bt ≠ bo) (n2 : bf ≠ bo) (n3 : bn ≠ bo) (n4 : be ≠ bo) :
    ∀ (k : Nat) (seen fs : List Int) (m : Nat) (q : Option Addr) (cap : Nat) (acc : List (Int × List Int)) (w : World), ReSt w0 w bt bo bf bn be qn pn cn cp n s t acc → Own w w0.heap.size 3 q (fs.map iv) → fs.length ≤ cap → cap ≤ 9223372036854775807 → MaskOf m seen → seen.Nodup → (∀ x ∈ seen, 0 ≤ x ∧ x < (n.nodes.length : Int)) →
      seen.length + k = n.nodes.length + 1 → seen.length = fs.length + 1 → acc.length + (dfsR n.fibers t k seen fs).length ≤ 1099511627775 →
      Calls Tryz.prog 212 #[.int .i64 (lastI seen), .int .i64 (m : Int), .slice q fs.length cap, .pointer (some ⟨bt, 0, none⟩), .pointer (some ⟨bo, 0, none⟩), .pointer (some ⟨bf, 0, none⟩), .pointer (some ⟨bn, 0, none⟩), .pointer (some ⟨be, 0, none⟩)] w fun e w' =>
        e = .returned (.tuple #[]) ∧ ReSt w0 w' bt bo bf bn be qn pn cn cp n s t (acc ++ (dfsR n.fibers t k seen fs).map fun L => (s, L)) ∧ KpR bo w w' := by
  have HFI := Lib.hid hF
  have HBF := Lib.hid hb
  clear hF hb
  intro k
  induction k with
  | zero =>
    intro seen fs m q cap acc w _ _ _ _ _ hnd hin hlen _ _
    exfalso
    have := nodup_le hnd hin
    omega
  | succ k ih =>
    intro seen fs m q cap acc w st hq hc1 hc2 hm hnd hin hlen hsl hbd
    have hfs8 : fs.length ≤ 8 := by have := nodup_le hnd hin; omega
    have HST := Lib.hid st
    have HQ := Lib.hid hq
    have HM := Lib.hid hm
    have HND := Lib.hid hnd
    have HIN := Lib.hid hin
    have HIH := Lib.hid ih
    obtain ⟨a0, ha0⟩ : ∃ a, a = lastI seen := ⟨_, rfl⟩
    rw [← ha0]
    have HA0 := Lib.hid ha0
    obtain ⟨fr, ⟨V, l, ro, rts, hval⟩, rt, rf, rn, re⟩ := st
    have y1 := rt.cell (i := 0) rfl
    have y2 := ro.cell (i := 0) rfl
    have y3 := rf.cell (i := 0) rfl
    have y4 := rn.cell (i := 1) rfl
    have y5 := re.cell (i := 0) rfl
    have HRO := Lib.hid ro
    have HRTS := Lib.hid rts
    have HVAL := Lib.hid hval
    have HFR := Lib.hid fr
    have hll : l.length = acc.length := by rw [← hval]; simp
    by_cases hat : a0 = t
    · have hz : (a0 == t) = true := by simp [hat]
      have hdf : dfsR n.fibers t (k + 1) seen fs = [fs] := dfs_here (by rw [← ha0]; exact hat)
      rw [hdf] at hbd ⊢
      simp only [List.length_cons, List.length_nil] at hbd
      have hlw : l.length ≤ 1099511627775 := by omega
      have hsz : w0.heap.size ≤ w.heap.size := fr.size
      clear fr ro rts hval rt rf rn re y4 y5 hq hm hnd hin ih ha0 hat hdf hbd hll
      go_enter Tryz.func212, Tryz.ntmps212
      go_wp2
      refine hd_start (n := 6) (S := fun w' => w'.cell? ⟨bo, 0, none⟩ = some V ∧ w'.cell? ⟨bf, 0, none⟩ = some (.int .i64 s)) (by kernel_rfl) (by kernel_rfl) ⟨fkeep (fdrew (frefl _)) y2, fkeep (fdrew (frefl _)) y3⟩ (fun hHeld => ?_)
      refine hd_take (i := 0) (v := ?_) rfl (by kernel_rfl) (by kernel_rfl) (by kernel_rfl) (by kernel_rfl) (fun _ _ _ h => h) (by assumption) (Or.inl ⟨by rfl, ?_⟩) ?_
      rotate_left
      · (intro w hSw; (try dsimp only at hSw); go_simp; first | done | with_reducible rfl)
      try simp only [Act.put, List.getElem_toArray, List.getElem_cons_zero, List.setIfInBounds_toArray, List.set_cons_zero, List.set_cons_succ]
      refine hd_take (i := 1) (v := ?_) rfl (by kernel_rfl) (by kernel_rfl) (by kernel_rfl) (by kernel_rfl) (fun _ _ _ h => h) (by assumption) (Or.inl ⟨by rfl, ?_⟩) ?_
      rotate_left
      · (intro w hSw; (try dsimp only at hSw); go_simp; first | done | with_reducible rfl)
      try simp only [Act.put, List.getElem_toArray, List.getElem_cons_succ, List.getElem_cons_zero, List.setIfInBounds_toArray, List.set_cons_zero, List.set_cons_succ]
      refine hd_take (i := 2) (v := ?_) rfl (by kernel_rfl) (by kernel_rfl) (by kernel_rfl) (by kernel_rfl) (fun _ _ _ h => h) (by assumption) (Or.inl ⟨by rfl, ?_⟩) ?_
      rotate_left
      · (intro w hSw; (try dsimp only at hSw); go_simp; first | done | with_reducible rfl)
      try simp only [Act.put, List.getElem_toArray, List.getElem_cons_succ, List.getElem_cons_zero, List.setIfInBounds_toArray, List.set_cons_zero, List.set_cons_succ]
      refine hd_one (i := 3) rfl (by kernel_rfl) (by kernel_rfl) (fun K hK => ?_)
      (go_simp; go_at_call 213; refine (cloneI_o q cap fs _ (HQ.out.keep (fdrew (frefl _))).ints (by omega)).mono ?_; rintro e w2 ⟨q', c', rfl, hoq, hd1, hd2, hbw⟩; have hfr : Fresh w w2 := fstep (fdrew (frefl _)) hbw; have hv2 := fkeep hfr y2; have hv3 := fkeep hfr y3; go_wp2_with fail)
      refine hK.out _ _ ?_ (fun hHeld => ?_)
      · exact ⟨hv2, hv3⟩
      clear hK K
      try simp only [Act.put, List.getElem_toArray, List.getElem_cons_succ, List.getElem_cons_zero, List.setIfInBounds_toArray, List.set_cons_zero, List.set_cons_succ]
      refine hd_take (i := 4) (v := ?_) rfl (by kernel_rfl) (by kernel_rfl) (by kernel_rfl) (by kernel_rfl) (fun _ _ _ h => h) (by assumption) (Or.inl ⟨by rfl, ?_⟩) ?_
      rotate_left
      · (intro w hSw; (try dsimp only at hSw); go_simp; first | done | with_reducible rfl)
      try simp only [Act.put, List.getElem_toArray, List.getElem_cons_succ, List.getElem_cons_zero, List.setIfInBounds_toArray, List.set_cons_zero, List.set_cons_succ]
      refine hd_one (i := 5) rfl (by kernel_rfl) (by kernel_rfl) (fun K hK => ?_)
      go_simp
      refine hK.out _ _ ?_ (fun hHeld => ?_)
      · exact ⟨fkeep (fnew (frefl _) _) hv2, fkeep (fnew (frefl _) _) hv3⟩
      clear hK K
      try simp only [Act.put, List.getElem_toArray, List.getElem_cons_succ, List.getElem_cons_zero, List.setIfInBounds_toArray, List.set_cons_zero, List.set_cons_succ]
      refine hd_done (by kernel_rfl) ?_
      clear hHeld y1 y2 y3
      simp only [List.drop_succ_cons, List.drop_zero]
      refine wpList_app_w Tryz.underlying137 infoRt rfl (by decide) (by decide) w0 w2 V l.length (l.flatMap lrC) [iv s, .slice q' fs.length c'] _ rfl (one_rt ⟨s, q', c', fs⟩) rfl _ _ rfl rfl (ownsRow_keep HRTS.out.row hfr) rfl rfl hlw (fstep HFR.out hfr) ?_
      intro v3 w3 hown3 hf3 hk3
      obtain ⟨r3, e3, hv3, _⟩ := owns_cap hown3
      subst hv3
      have hro3 := hk3 _ _ _ (HRO.out.keep hfr) (Or.inl (by decide))
      have z2 := hro3.frozen 0
      have z3 := hro3.cell (i := 0) rfl
      have HK3 := Lib.hid hk3
      have HF3 := Lib.hid hf3
      have HRO3 := Lib.hid hro3
      have HFRR := Lib.hid hfr
      have HRT3 := Lib.hid (HRTS.out.snoc (s := s) hfr hsz hoq hd1 hd2 hown3 hk3)
      clear hk3 hf3 hro3 hfr hown3 hoq hbw hv2 hv3
      go_wp2
      refine bodyPost_ret (results_none rfl _ _ _) rfl ?_
      obtain ⟨fr, _, rt, rf, rn, re⟩ := HST.out
      have hK : ∀ g t cs, RowAt w g t cs → t ≠ 90 → g ≠ bo → RowAt (w3.setCell ⟨bo, 0, none⟩ (.slice r3 (l.length + 1) e3)) g t cs := fun g t cs h h1 h2 => (HK3.out _ _ _ (h.keep HFRR.out) (Or.inl h1)).setOther h2 _
      refine ⟨rfl, ⟨fset HF3.out g0 _, ⟨.slice r3 (l.length + 1) e3, l ++ [⟨s, q', c', fs⟩], HRO3.out.set 0 _, HRT3.out.setO HRO3.out (by decide) (by decide) 0, ?_⟩, hK _ _ _ rt (by decide) n1, hK _ _ _ rf (by decide) n2, hK _ _ _ rn (by decide) n3, hK _ _ _ re (by decide) n4⟩, hK⟩
      rw [List.map_append, HVAL.out]
      rfl
    · have hz : (a0 == t) = false := by rw [beq_eq_false_iff_ne]; exact hat
      have hdf := partR_all (F := n.fibers) (fs := fs) (k := k) (show lastI seen ≠ t by rw [← ha0]; exact hat)
      rw [hdf] at hbd ⊢
      have HBD := Lib.hid hbd
      have hseen0 : seen ≠ [] := by intro e; rw [e] at hsl; simp at hsl
      have ha0in : 0 ≤ a0 ∧ a0 < (n.nodes.length : Int) := by
        refine hin a0 ?_
        rw [ha0]; unfold lastI
        rw [List.getLast?_eq_some_getLast hseen0]
        exact List.getLast_mem hseen0
      clear fr ro rts hval rt rf rn re y2 y3 y5 hq hm hnd hin ih ha0 hat hdf hbd hll hseen0
      go_enter Tryz.func212, Tryz.ntmps212
      go_wp2
      clear y1 y4
      go_loopw [27] (fun i wr => ∃ j : Nat, j ≤ n.fibers.length ∧ i = .int .i64 j ∧ ReSt w0 wr bt bo bf bn be qn pn cn cp n s t (acc ++ (partR n.fibers t k seen fs j).map fun L => (s, L)) ∧ KpR bo w wr) (fun i _ => n.fibers.length - (intOf i).toNat)
      case atStart => exact ⟨0, Nat.zero_le _, rfl, by simpa [partR] using HST.out, KpR.refl _ _⟩
      case round =>
        obtain ⟨j, hj, rfl, st, hkp⟩ := hrel
        have HSR := Lib.hid st
        have HKP := Lib.hid hkp
        have hq2 : Own wr w0.heap.size 3 q (fs.map iv) := by
          obtain ⟨_, ⟨_, _, ro, _, _⟩, _⟩ := HST.out
          exact hkp.int HQ.out ro
        have HQ2 := Lib.hid hq2
        by_cases hlt : j < n.fibers.length
        · have hltz : (j : Int) < (n.fibers.length : Int) := by omega
          obtain ⟨b1, o1, fa, fb, fl, fr, hp, hf, d0, d1, d2, d3⟩ := (HFI.out.keep st.fr).at hlt
          subst hp
          have HF := Lib.hid hf
          have hfb := HBF.out _ (List.mem_of_getElem? hf)
          have HOE := Lib.hid (fun W => otherEnd_any fa fb fl fr a0 W)
          have HPS := Lib.hid (partR_succ n.fibers t k seen fs j)
          obtain ⟨nx, hnx⟩ : ∃ x, x = other ⟨fa, fb, fl, fr⟩ a0 := ⟨_, rfl⟩
          rw [← hnx] at HOE
          have HNX := Lib.hid hnx
          clear st hkp hq2 hf hnx
          go_wp2_with fail
          refine (HOE.out _).mono ?_
          rintro e w5 ⟨rfl, hb5⟩
          have hf5 : Fresh wr w5 := fstep (fnew (frefl _) _) hb5
          have HF5 := Lib.hid hf5
          clear hb5 d0 d1 d2 d3
          by_cases hneg : nx < 0
          · have HKD : Hid (kidsR n.fibers t k seen fs j = []) := by
              show _ = _; unfold kidsR; rw [kidR_no HF.out (Or.inl (by rw [← HA0.out, ← HNX.out]; exact hneg))]
            go_wp2
            go_roundw
            case rel => exact ⟨j + 1, by omega, by go_num, by rw [HPS.out, HKD.out, List.append_nil]; exact HSR.out.keep HF5.out, HKP.out.trans (KpR.fresh HF5.out)⟩
            case measure => simp [intOf]; omega
          · obtain ⟨x, hx⟩ : ∃ x : Nat, nx = (x : Int) := ⟨nx.toNat, by omega⟩
            have hx8 : x < 8 := by
              have h1 : nx = if a0 = fa then fb else if a0 = fb then fa else -1 := HNX.out
              have h2 : 0 ≤ fa ∧ fa < fb ∧ fb < (n.nodes.length : Int) := hfb
              split at h1
              · omega
              · split at h1 <;> omega
            have hm8 := HM.out.1
            have ht := and_one m x (by omega : m < 2 ^ 63)
            have hxn : (0 : Int) ≤ (x : Int) := by omega
            by_cases hxs : (x : Int) ∈ seen
            · have hbit : m / 2 ^ x % 2 = 1 := (HM.out.2 x hx8).2 hxs
              rw [hbit] at ht
              have HKD : Hid (kidsR n.fibers t k seen fs j = []) := by
                show _ = _; unfold kidsR; rw [kidR_no HF.out (Or.inr (by rw [← HA0.out, ← HNX.out, hx]; exact hxs))]
              subst hx
              clear hbit hxs hneg
              go_wp2
              go_roundw
              case rel => exact ⟨j + 1, by omega, by go_num, by rw [HPS.out, HKD.out, List.append_nil]; exact HSR.out.keep HF5.out, HKP.out.trans (KpR.fresh HF5.out)⟩
              case measure => simp [intOf]; omega
            · have hbit : m / 2 ^ x % 2 = 0 := by
                have h1 := HM.out.2 x hx8
                have h2 : m / 2 ^ x % 2 ≠ 1 := fun h => hxs (h1.1 h)
                have : m / 2 ^ x % 2 < 2 := Nat.mod_lt _ (by omega)
                omega
              rw [hbit] at ht
              have HKD : Hid (kidsR n.fibers t k seen fs j = dfsR n.fibers t k (seen ++ [(x : Int)]) (fs ++ [(j : Int)])) := by
                show _ = _; unfold kidsR; rw [kidR_at HF.out (by rw [← HA0.out, ← HNX.out, hx]; simp; exact hxs), ← HA0.out, ← HNX.out, hx]
              have HXS := Lib.hid hxs
              subst hx
              have y5 := (HSR.out.keep HF5.out).ex.cell (i := 0) rfl
              clear hbit hxs hneg
              go_wp2
              clear ht
              have hshl : wrap64 (2 ^ x) = ((2 ^ x : Nat) : Int) := by
                have h1 : (2 : Nat) ^ x ≤ 128 := Nat.pow_le_pow_right (by omega) (by omega : x ≤ 7)
                have h2 : ∀ p : Nat, p ≤ 128 → wrap64 (p : Int) = (p : Int) := by intro p hp; unfold wrap64; omega
                rw [show ((2 : Int) ^ x) = ((2 ^ x : Nat) : Int) by rw [Int.natCast_pow]; rfl]
                exact h2 _ h1
              have hor := or_i64 m (2 ^ x) (by omega) (Nat.lt_trans (Nat.pow_lt_pow_right (by omega) hx8 : 2 ^ x < 2 ^ 8) (by decide))
              refine hd_start (n := 15) (S := fun w' => w'.cell? ⟨be, 0, none⟩ = some (.func (.func 212) #[] #[.pointer (some ⟨bt, 0, none⟩), .pointer (some ⟨bo, 0, none⟩), .pointer (some ⟨bf, 0, none⟩), .pointer (some ⟨bn, 0, none⟩), .pointer (some ⟨be, 0, none⟩)])) (by kernel_rfl) (by kernel_rfl) (fkeep (fdrew (frefl _)) y5) (fun hHeld => ?_)
              refine hd_take (i := 0) (v := ?_) rfl (by kernel_rfl) (by kernel_rfl) (by kernel_rfl) (by kernel_rfl) (fun _ _ _ h => h) (by assumption) (Or.inl ⟨by rfl, ?_⟩) ?_
              rotate_left
              · (intro w hSw; (try dsimp only at hSw); go_simp; first | done | with_reducible rfl)
              try simp only [Act.put, List.getElem_toArray, List.getElem_cons_zero, List.setIfInBounds_toArray, List.set_cons_zero, List.set_cons_succ]
              refine hd_take (i := 1) (v := ?_) rfl (by kernel_rfl) (by kernel_rfl) (by kernel_rfl) (by kernel_rfl) (fun _ _ _ h => h) (by assumption) (Or.inl ⟨by rfl, ?_⟩) ?_
              rotate_left
              · (intro w hSw; (try dsimp only at hSw); go_simp; first | done | with_reducible rfl)
              try simp only [Act.put, List.getElem_toArray, List.getElem_cons_succ, List.getElem_cons_zero, List.setIfInBounds_toArray, List.set_cons_zero, List.set_cons_succ]
              refine hd_take (i := 2) (v := ?_) rfl (by kernel_rfl) (by kernel_rfl) (by kernel_rfl) (by kernel_rfl) (fun _ _ _ h => h) (by assumption) (Or.inl ⟨by rfl, ?_⟩) ?_
              rotate_left
              · (intro w hSw; (try dsimp only at hSw); go_simp; first | done | with_reducible rfl)
              try simp only [Act.put, List.getElem_toArray, List.getElem_cons_succ, List.getElem_cons_zero, List.setIfInBounds_toArray, List.set_cons_zero, List.set_cons_succ]
              refine hd_take (i := 3) (v := ?_) rfl (by kernel_rfl) (by kernel_rfl) (by kernel_rfl) (by kernel_rfl) (fun _ _ _ h => h) (by assumption) (Or.inl ⟨by rfl, ?_⟩) ?_
              rotate_left
              · (intro w hSw; (try dsimp only at hSw); go_simp; first | done | with_reducible rfl)
              try simp only [Act.put, List.getElem_toArray, List.getElem_cons_succ, List.getElem_cons_zero, List.setIfInBounds_toArray, List.set_cons_zero, List.set_cons_succ]
              refine hd_take (i := 4) (v := ?_) rfl (by kernel_rfl) (by kernel_rfl) (by kernel_rfl) (by kernel_rfl) (fun _ _ _ h => h) (by assumption) (Or.inl ⟨by rfl, ?_⟩) ?_
              rotate_left
              · (intro w hSw; (try dsimp only at hSw); go_simp; first | done | with_reducible rfl)
              try simp only [Act.put, List.getElem_toArray, List.getElem_cons_succ, List.getElem_cons_zero, List.setIfInBounds_toArray, List.set_cons_zero, List.set_cons_succ]
              refine hd_take (i := 5) (v := ?_) rfl (by kernel_rfl) (by kernel_rfl) (by kernel_rfl) (by kernel_rfl) (fun _ _ _ h => h) (by assumption) (Or.inl ⟨by rfl, ?_⟩) ?_
              rotate_left
              · (intro w hSw; (try dsimp only at hSw); go_simp; first | done | with_reducible rfl)
              try simp only [Act.put, List.getElem_toArray, List.getElem_cons_succ, List.getElem_cons_zero, List.setIfInBounds_toArray, List.set_cons_zero, List.set_cons_succ]
              refine hd_take (i := 6) (v := ?_) rfl (by kernel_rfl) (by kernel_rfl) (by kernel_rfl) (by kernel_rfl) (fun _ _ _ h => h) (by assumption) (Or.inl ⟨by rfl, ?_⟩) ?_
              rotate_left
              · (intro w hSw; (try dsimp only at hSw); go_simp; first | done | with_reducible rfl)
              try simp only [Act.put, List.getElem_toArray, List.getElem_cons_succ, List.getElem_cons_zero, List.setIfInBounds_toArray, List.set_cons_zero, List.set_cons_succ]
              refine hd_take (i := 7) (v := ?_) rfl (by kernel_rfl) (by kernel_rfl) (by kernel_rfl) (by kernel_rfl) (fun _ _ _ h => h) (by assumption) (Or.inl ⟨by rfl, ?_⟩) ?_
              rotate_left
              · (intro w hSw; (try dsimp only at hSw); go_simp; first | done | with_reducible rfl)
              try simp only [Act.put, List.getElem_toArray, List.getElem_cons_succ, List.getElem_cons_zero, List.setIfInBounds_toArray, List.set_cons_zero, List.set_cons_succ]
              refine hd_take (i := 8) (v := ?_) rfl (by kernel_rfl) (by kernel_rfl) (by kernel_rfl) (by kernel_rfl) (fun _ _ _ h => h) (by assumption) (Or.inl ⟨by rfl, ?_⟩) ?_
              rotate_left
              · (intro w hSw; (try dsimp only at hSw); go_simp; first | done | with_reducible rfl)
              try simp only [Act.put, List.getElem_toArray, List.getElem_cons_succ, List.getElem_cons_zero, List.setIfInBounds_toArray, List.set_cons_zero, List.set_cons_succ]
              refine hd_take (i := 9) (v := ?_) rfl (by kernel_rfl) (by kernel_rfl) (by kernel_rfl) (by kernel_rfl) (fun _ _ _ h => h) (by assumption) (Or.inl ⟨by rfl, ?_⟩) ?_
              rotate_left
              · (intro w hSw; (try dsimp only at hSw); go_simp; first | done | with_reducible rfl)
              try simp only [Act.put, List.getElem_toArray, List.getElem_cons_succ, List.getElem_cons_zero, List.setIfInBounds_toArray, List.set_cons_zero, List.set_cons_succ]
              refine hd_take (i := 10) (v := ?_) rfl (by kernel_rfl) (by kernel_rfl) (by kernel_rfl) (by kernel_rfl) (fun _ _ _ h => h) (by assumption) (Or.inl ⟨by rfl, ?_⟩) ?_
              rotate_left
              · (intro w hSw; (try dsimp only at hSw); go_simp; first | done | with_reducible rfl)
              try simp only [Act.put, List.getElem_toArray, List.getElem_cons_succ, List.getElem_cons_zero, List.setIfInBounds_toArray, List.set_cons_zero, List.set_cons_succ]
              refine hd_take (i := 11) (v := ?_) rfl (by kernel_rfl) (by kernel_rfl) (by kernel_rfl) (by kernel_rfl) (fun _ _ _ h => h) (by assumption) (Or.inl ⟨by rfl, ?_⟩) ?_
              rotate_left
              · (intro w hSw; (try dsimp only at hSw); go_simp; first | done | with_reducible rfl)
              try simp only [Act.put, List.getElem_toArray, List.getElem_cons_succ, List.getElem_cons_zero, List.setIfInBounds_toArray, List.set_cons_zero, List.set_cons_succ]
              refine hd_take (i := 12) (v := ?_) rfl (by kernel_rfl) (by kernel_rfl) (by kernel_rfl) (by kernel_rfl) (fun _ _ _ h => h) (by assumption) (Or.inl ⟨by rfl, ?_⟩) ?_
              rotate_left
              · (intro w hSw; (try dsimp only at hSw); go_simp; first | done | with_reducible rfl)
              try simp only [Act.put, List.getElem_toArray, List.getElem_cons_succ, List.getElem_cons_zero, List.setIfInBounds_toArray, List.set_cons_zero, List.set_cons_succ]
              refine hd_one (i := 13) rfl (by kernel_rfl) (by kernel_rfl) (fun K hK => ?_)
              go_simp
              refine hK.out _ _ ?_ (fun hHeld => ?_)
              · exact fkeep (fnew (fdrew (frefl _)) _) y5
              clear hK K
              try simp only [Act.put, List.getElem_toArray, List.getElem_cons_succ, List.getElem_cons_zero, List.setIfInBounds_toArray, List.set_cons_zero, List.set_cons_succ]
              have hWf : Fresh w5 (w5.alloc (.cells #[.int .i64 (j : Int)] 3)).drew := fdrew (fnew (frefl _) _)
              have hqW := (HQ2.out.keep HF5.out).keep hWf
              obtain ⟨i0, hi, hz0, hz1, hz2⟩ := info_parts infoInt
              have HQW := Lib.hid hqW
              have HI0 := Lib.hid hi
              have HI1 := Lib.hid hz0
              have HI2 := Lib.hid hz1
              have HI3 := Lib.hid hz2
              have HSHL := Lib.hid hshl
              have HOR := Lib.hid hor
              clear hqW hi hz0 hz1 hz2 hshl hor
              refine hd_one (i := 14) rfl (by kernel_rfl) (by kernel_rfl) (fun K hK => ?_)
              (refine step_append_grows rfl _ _ 29 rfl 3 i0 (.int .i64 0) 1 8 Tryz.underlying29 HI0.out HI1.out HI2.out HI3.out rfl (by decide) q fs.length fs.length (fs.map iv) rfl (fun e => by have := congrArg List.length (HQW.out.isNone e); simp at this; rw [this]; exact ⟨rfl, rfl⟩) (by simp) HQW.out.holds ⟨w5.heap.size, 0, none⟩ 1 1 [iv (j : Int)] rfl rfl (fun i u hu => one_new (w := w5) i u hu) (by intro u hu; simp at hu; subst hu; rfl) (by omega) (by unfold maxLen; omega) (by omega) ?_; intro v3 w3 hown3 hgrow3; obtain ⟨q3, c3, hv3, ho3, hl3, hc3⟩ := owns_cap hown3; subst hv3; have hf3 := fgrow0 hgrow3)
              refine hK.out _ _ ?_ (fun hHeld => ?_)
              · exact fkeep hf3 (fkeep hWf y5)
              clear hK K
              try simp only [Act.put, List.getElem_toArray, List.getElem_cons_succ, List.getElem_cons_zero, List.setIfInBounds_toArray, List.set_cons_zero, List.set_cons_succ]
              refine hd_done (by kernel_rfl) ?_
              clear hHeld y5
              simp only [List.drop_succ_cons, List.drop_zero]
              have hF3 : Fresh wr w3 := fstep HF5.out (fstep hWf hf3)
              have hsz3 : w0.heap.size ≤ (w5.alloc (.cells #[.int .i64 (j : Int)] 3)).drew.heap.size := by
                have h1 := HSR.out.fr.size
                have h2 := HF5.out.size
                have h3 := hWf.size
                omega
              have hxN : 0 ≤ (x : Int) ∧ (x : Int) < (n.nodes.length : Int) := by
                have h1 : (x : Int) = if a0 = fa then fb else if a0 = fb then fa else -1 := HNX.out
                have h2 : 0 ≤ fa ∧ fa < fb ∧ fb < (n.nodes.length : Int) := hfb
                split at h1
                · omega
                · split at h1 <;> omega
              have hle := partR_le n.fibers t k seen fs (show j + 1 ≤ n.fibers.length by omega)
              rw [HPS.out, HKD.out, List.length_append] at hle
              have hbd := HBD.out
              have HC := Lib.hid (HIH.out (seen ++ [(x : Int)]) (fs ++ [(j : Int)]) (m ||| 2 ^ x) q3 c3 _ w3 (HSR.out.keep hF3) (by rw [List.map_append]; exact ho3.mono hsz3) (by simpa using hl3) hc3 (HM.out.put hx8)
                (by rw [List.nodup_append]; exact ⟨HND.out, by simp, by intro a ha b hb; simp at hb; subst hb; intro e; subst e; exact HXS.out ha⟩)
                (by intro y hy; rcases List.mem_append.1 hy with hy | hy; exact HIN.out y hy; simp at hy; subst hy; exact hxN)
                (by simp; omega) (by simp; omega) (by rw [List.length_append, List.length_map]; omega))
              rw [lastI_app, show (fs ++ [(j : Int)]).length = fs.length + 1 by simp, ← HOR.out, ← HSHL.out] at HC
              have HF3 := Lib.hid hF3
              clear hF3 hf3 hgrow3 hown3 ho3 hl3 hc3 hWf hsz3 hle hbd hxN
              go_wp2_with fail
              refine (HC.out).mono ?_
              rintro e w6 ⟨rfl, hst6, hkp6⟩
              have HST6 := Lib.hid hst6
              have HKP6 := Lib.hid hkp6
              clear hst6 hkp6 HC
              go_wp2
              go_roundw
              case rel => exact ⟨j + 1, by omega, by go_num, by rw [HPS.out, HKD.out, List.map_append, ← List.append_assoc]; exact HST6.out, (HKP.out.trans (KpR.fresh HF3.out)).trans HKP6.out⟩
              case measure => simp [intOf]; omega
        · have hjn : j = n.fibers.length := by omega
          have hltz : ¬ (j : Int) < (n.fibers.length : Int) := by omega
          subst hjn
          clear st hkp hq2
          go_wp2
          refine bodyPost_end (results_none rfl _ _ _) rfl ?_
          exact ⟨rfl, HSR.out, HKP.out⟩
end Go.Proofs.YteckjlkhopkogaaGreat
