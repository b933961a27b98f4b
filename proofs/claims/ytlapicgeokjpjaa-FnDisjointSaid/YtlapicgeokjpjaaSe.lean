/- Contracts: all routes between two nodes, the reference's search: the walk. (Printed by gen_se.py.) -/
import Derived.Test.YtlapicgeokjpjaaSp
namespace Go.Proofs.Ytlapicgeokjpjaa
open Go.RowKit Go.PlainAid

theorem own_lo {w : World} {base : Nat} {t : TypeId} {v : Value} {n size g : Nat} {xs : List Value} (h : w.ownsRow base t size v n xs) (hg : g < base) : v.ownBlock ≠ some g := fun e => by have := own_block h g e; omega
theorem own_hi {w : World} {base : Nat} {t : TypeId} {v : Value} {n size g : Nat} {xs : List Value} (h : w.ownsRow base t size v n xs) (hg : w.heap.size ≤ g) : v.ownBlock ≠ some g := fun e => by have := (h.lt g e).2; omega
theorem own_apart {w w' : World} {base : Nat} {t t' : TypeId} {v u : Value} {n size n' size' : Nat} {xs ys : List Value} (h : w.ownsRow base t size v n xs) (h' : w'.ownsRow w.heap.size t' size' u n' ys) : ∀ g, v.ownBlock = some g → u.ownBlock ≠ some g := fun g e e' => by
  have h1 := (h.lt g e).2
  have h2 := own_block h' g e'
  omega
theorem owns_hk {w w' : World} {base : Nat} {E : TypeId} {v u : Value} {n size : Nat} {xs : List Value} (h : w.ownsRow base E size v n xs) (hk : ∀ g t cs, RowAt w g t cs → (t ≠ E ∨ u.ownBlock ≠ some g) → RowAt w' g t cs) (hne : ∀ g, v.ownBlock = some g → u.ownBlock ≠ some g) : w'.ownsRow base E size v n xs := by
  obtain ⟨hl, h | ⟨g, cap, cur, hv, hg, hh, r⟩⟩ := h
  · exact ⟨hl, Or.inl h⟩
  · refine ⟨hl, Or.inr ⟨g, cap, cur, hv, hg, ?_, r⟩⟩
    have := hk g E cur.toList (by unfold RowAt; rw [Array.toArray_toList]; exact hh) (Or.inr (hne g (by rw [hv]; rfl)))
    unfold RowAt at this
    rw [Array.toArray_toList] at this
    exact this
theorem KpS.own {bx : Nat} {a b : World} (h : KpS bx a b) {base : Nat} {q : Option Addr} {xs cs : List Value} (ho : Own a base 3 q xs) (hr : RowAt a bx 82 cs) : Own b base 3 q xs := by
  rcases ho with ho | ⟨g, sp, h1, h2, h3⟩
  · exact Or.inl ho
  · exact Or.inr ⟨g, sp, h1, h2, h g _ _ h3 (by intro e; subst e; exact absurd (h3.inj hr).1 (by decide))⟩
theorem SeSt.row {w0 w : World} {bx B : Nat} {qn pn : Option Addr} {cn cp : Nat} {n : Net} {s t : Int} {acc : List (Int × List Int)} (st : SeSt w0 w bx qn pn cn cp n s t B acc) : ∃ p c l, RowAt w bx 82 [.slice qn n.nodes.length cn, .slice pn n.fibers.length cp, .int .i64 t, .slice p l c] ∧ l = acc.length := by
  obtain ⟨_, ⟨p, c, l, ro, _, hv, _⟩, _⟩ := st
  exact ⟨p, c, l.length, ro, by rw [← hv]; simp⟩
theorem partR_more (F : List Fib) (t : Int) (k : Nat) (seen fs : List Int) {i j : Nat} (h : i ≤ j) : ∃ r, partR F t k seen fs j = partR F t k seen fs i ++ r := by
  induction j with
  | zero =>
    have : i = 0 := by omega
    subst this; exact ⟨[], by simp⟩
  | succ j ih =>
    rcases Nat.eq_or_lt_of_le h with h1 | h1
    · subst h1; exact ⟨[], by simp⟩
    · obtain ⟨r, hr⟩ := ih (by omega)
      exact ⟨r ++ kidsR F t k seen fs j, by rw [partR_succ, hr, List.append_assoc]⟩
theorem keepTo_le {α : Type} {put : List α → α → List α} (hp : ∀ a x, (put a x).length = a.length + 1) {m : Nat} {acc : List α} (L : List α) (h : acc.length ≤ m + 1) : (keepTo put m acc L).length ≤ m + 1 := by
  rw [keepTo_len hp L acc h]; omega
set_option maxHeartbeats 2000000 in
theorem l1OwnR_any (q : Option Addr) (cap : Nat) (l : List Int) (w : World) (hI : Ints w q l) (hn : l.length ≤ 1048576) :
    Calls Try.prog 69 #[.slice q l.length cap] w fun e w' => ∃ q' c', e = .returned (.slice q' l.length c') ∧ w'.ownsRow w.heap.size 3 1 (.slice q' l.length c') l.length (l.map iv) ∧ Fresh w w' := by
  have HI := Lib.hid hI
  clear hI
  go_enter Try.func69, Try.ntmps69
  go_wp2_with (at_builtin; refine wpList_app_many Try.underlying28 infoInt rfl (by decide) (by decide) w _ _ 0 [] q l.length cap (l.map iv) (by simp) (one_ints l) rfl _ _ rfl rfl (World.ownsRow_made w #[] 0 (Nat.le_refl _) (by simp [maxLen]) rfl) rfl (HI.out.keep (fnew (frefl _) _)) (by omega) hn (fnew (frefl _) _) ?_; intro v' w' hown3 hf3 _)
  have HO := Lib.hid hown3
  have HF := Lib.hid hf3
  clear hown3 hf3
  go_wp2
  go_ret
  have := HO.out
  rw [Nat.zero_add, List.nil_append] at this
  obtain ⟨q', c', hv, _, _, _⟩ := owns_cap this
  exact ⟨q', c', by rw [hv]; (first | done | rfl), by rw [← hv]; exact this, HF.out⟩
set_option maxHeartbeats 16000000 in
set_option maxRecDepth 100000 in
theorem seExt_any (w0 : World) (bx : Nat) (qn pn : Option Addr) (cn cp : Nat) (n : Net) (s t : Int) (hN : NetIn w0 (.agg #[.slice qn n.nodes.length cn, .slice pn n.fibers.length cp]) n) (hF : Fibs w0 pn n.fibers) (hb : LenOk n) (hs : 0 ≤ s ∧ s < (n.nodes.length : Int)) (hfb : ∀ f ∈ n.fibers, 0 ≤ f.a ∧ f.a < f.b ∧ f.b < (n.nodes.length : Int)) (nF : n.fibers.length ≤ 14) (nN : n.nodes.length ≤ 8) (g0 : w0.heap.size ≤ bx) :
    ∀ (k : Nat) (seen fs : List Int) (qs q : Option Addr) (cs cap B : Nat) (acc : List (Int × List Int)) (w : World), SeSt w0 w bx qn pn cn cp n s t B acc → Own w w0.heap.size 3 q (fs.map iv) → fs.length ≤ cap → cap ≤ 9223372036854775807 → (∀ g o, q = some ⟨g, o, none⟩ → B ≤ g) → Own w w0.heap.size 3 qs (seen.map iv) →
      walkR n.fibers s fs = some seen → seen.length + k = n.nodes.length + 1 → acc.length ≤ 200 →
      Calls Try.prog 58 #[.pointer (some ⟨bx, 0, none⟩), .agg #[.int .i64 s, .slice q fs.length cap], .slice qs seen.length cs] w fun e w' =>
        e = .returned (.tuple #[]) ∧ SeSt w0 w' bx qn pn cn cp n s t w'.heap.size (keepTo (putL (ltC (cmpR n.fibers))) 200 acc ((dfsR n.fibers t k seen fs).map fun L => (s, L))) ∧ KpS bx w w' := by
  have HN := Lib.hid hN
  have HFI := Lib.hid hF
  have HLEN := Lib.hid hb
  have HSI := Lib.hid hs
  have HFB := Lib.hid hfb
  clear hN hF hb hs hfb
  intro k
  induction k with
  | zero =>
    intro seen fs qs q cs cap B acc w _ _ _ _ _ _ hw hlen _
    exfalso
    obtain ⟨hnd, hin, _⟩ := wkIn HFB.out HSI.out hw
    have := nodup_le hnd hin
    omega
  | succ k ih =>
    intro seen fs qs q cs cap B acc w st hq hc1 hc2 hqB hqs hw hlen hacc
    obtain ⟨hnd, hin, hsl⟩ := wkIn HFB.out HSI.out hw
    have hfs8 : fs.length ≤ 8 := by have := nodup_le hnd hin; omega
    have hrt : RtOk n fs := ⟨walk_idx hw, by omega⟩
    have HST := Lib.hid st
    have HQ := Lib.hid hq
    have HQB := Lib.hid hqB
    have HW := Lib.hid hw
    have HIN := Lib.hid hin
    have HIH := Lib.hid ih
    have HRT := Lib.hid hrt
    have HC1 := Lib.hid (And.intro hc1 hc2)
    obtain ⟨p0, c0, l0, hrow, hl0⟩ := st.row
    have HROW := Lib.hid hrow
    have hbx : bx < w.heap.size := hrow.lt
    have hseen0 : seen ≠ [] := by intro e; rw [e] at hsl; simp at hsl
    have hgl : seen[seen.length - 1]? = some (lastI seen) := by
      unfold lastI; rw [← List.getLast?_eq_getElem?, List.getLast?_eq_some_getLast hseen0]; rfl
    have ha0in : 0 ≤ lastI seen ∧ lastI seen < (n.nodes.length : Int) := hin _ (List.mem_of_getElem? hgl)
    obtain ⟨a0, ha0⟩ : ∃ a, a = lastI seen := ⟨_, rfl⟩
    rw [← ha0] at hgl ha0in
    have HA0 := Lib.hid ha0
    have hqsc := hqs.cells
    rcases hqsc with hnil | ⟨b, off, rfl, hcl⟩
    · exact absurd (List.map_eq_nil_iff.1 hnil) hseen0
    have HQS := Lib.hid hqs
    have hsp : 0 < seen.length := List.length_pos_iff.2 hseen0
    have hs9 : seen.length ≤ 9 := by omega
    obtain ⟨W2, hW2⟩ : ∃ W, W = w.alloc (.cells #[.int .i64 s, .slice q fs.length cap] 30) := ⟨_, rfl⟩
    have hf2 : Fresh w W2 := by rw [hW2]; exact fnew (frefl _) _
    have hr2 : RowAt W2 w.heap.size 30 [iv s, .slice q fs.length cap] := by rw [hW2]; exact RowAt.new _ _ _
    have HF2 := Lib.hid hf2
    have HR2 := Lib.hid hr2
    have HW2 := Lib.hid hW2
    have x0 := hcl (seen.length - 1) (iv a0) (by rw [List.getElem?_map, hgl]; rfl)
    have y0 := fun o : Obj => fkeep (fnew (frefl w) o) x0
    have y1 := fun o : Obj => fkeep (fnew (frefl w) o) (hrow.cell (i := 2) rfl)
    have hw1 : IntKind.i64.wrap ((seen.length : Int) - 1) = (seen.length : Int) - 1 := by rw [IntKind.wrap_i64]; omega
    have ht1 : ((seen.length : Int) - 1).toNat = seen.length - 1 := by omega
    have hge : (1 : Int) ≤ (seen.length : Int) := by omega
    have hge0 : (0 : Int) ≤ (seen.length : Int) - 1 := by omega
    have hlt1 : (seen.length : Int) - 1 < (seen.length : Int) := by omega
    clear hsl st hq hqB hw hin ih hrt hqs hseen0 hgl hrow hW2 hr2 x0 hcl hl0 ha0 hf2 hc1 hc2
    by_cases hat : a0 = t
    · have hz : (a0 == t) = true := by simp [hat]
      have hdf : dfsR n.fibers t (k + 1) seen fs = [fs] := dfs_here (by rw [← HA0.out]; exact hat)
      rw [hdf, List.map_cons, List.map_nil, keepTo_cons, keepTo_nil, if_pos hacc]
      have HPUT := Lib.hid (sePut_any w0 bx qn pn cn cp n s t HN.out HLEN.out (by have := HSI.out; omega) g0 B acc q cap fs W2 (HST.out.keep HF2.out) (HQ.out.keep HF2.out) HC1.out.1 HC1.out.2 HRT.out HQB.out (by omega))
      clear hat hdf
      go_enter Try.func58, Try.ntmps58
      go_wp2_with fail
      rw [← HW2.out]
      refine (HPUT.out).mono ?_
      rintro e w3 ⟨rfl, hs3, hk3⟩
      have HS3 := Lib.hid hs3
      have HK3 := Lib.hid hk3
      clear hs3 hk3 y0 y1 HPUT
      go_wp2
      refine bodyPost_ret (results_none rfl _ _ _) rfl ?_
      exact ⟨rfl, HS3.out, (KpS.fresh HF2.out).trans HK3.out⟩
    · have hz : (a0 == t) = false := by rw [beq_eq_false_iff_ne]; exact hat
      have hdf := partR_all (F := n.fibers) (fs := fs) (k := k) (show lastI seen ≠ t by rw [← HA0.out]; exact hat)
      rw [hdf]
      clear hat hdf
      go_enter Try.func58, Try.ntmps58
      go_wp2_with fail
      rw [← HW2.out]
      clear y0 y1 hw1 ht1 hge hge0 hlt1 hz
      go_loopw [7] (fun i wr => ∃ j : Nat, j ≤ n.fibers.length ∧ i = .int .i64 j ∧ SeSt w0 wr bx qn pn cn cp n s t wr.heap.size (keepTo (putL (ltC (cmpR n.fibers))) 200 acc ((partR n.fibers t k seen fs j).map fun L => (s, L))) ∧ KpS bx W2 wr) (fun i _ => n.fibers.length - (intOf i).toNat)
      case atStart => exact ⟨0, Nat.zero_le _, rfl, (HST.out.keep HF2.out).low, KpS.refl _ _⟩
      case round =>
        obtain ⟨j, hj, rfl, st, hkp⟩ := hrel
        have HKP := Lib.hid hkp
        have HSR := Lib.hid st
        obtain ⟨p, c, m, hro, hm⟩ := st.row
        have hm201 : m ≤ 201 := by rw [hm]; exact keepTo_le (putL_len _) _ (by omega)
        have HRO := Lib.hid hro
        have e0 := hro.cell (i := 0) rfl
        have e1 := hro.cell (i := 1) rfl
        have e3 := hro.cell (i := 3) rfl
        have HM := Lib.hid hm
        clear st hro hm
        by_cases hlt : j < n.fibers.length
        · have hltz : (j : Int) < (n.fibers.length : Int) := by omega
          by_cases hmm : m ≤ 200
          · have hmz : (m : Int) ≤ 200 := by omega
            obtain ⟨b1, o1, fa, fb, fl, fr, hp, hf, -, -, -, -⟩ := (HFI.out.keep HSR.out.fr).at hlt
            have HF := Lib.hid hf
            have hfb := HFB.out _ (List.mem_of_getElem? hf)
            have HOE : Hid (Calls Try.prog 53 #[.agg #[.slice qn n.nodes.length cn, .slice pn n.fibers.length cp], .int .i64 (j : Int), .int .i64 a0] wr fun e w' => e = .returned (.int .i64 (other ⟨fa, fb, fl, fr⟩ a0)) ∧ Fresh wr w') :=
              l2Other_any qn pn n.nodes.length cn cp n.fibers j fa fb fl fr a0 wr (HFI.out.keep HSR.out.fr) hf (by omega)
            have HPS := Lib.hid (partR_succ n.fibers t k seen fs j)
            obtain ⟨nx, hnx⟩ : ∃ x, x = other ⟨fa, fb, fl, fr⟩ a0 := ⟨_, rfl⟩
            rw [← hnx] at HOE
            have HNX := Lib.hid hnx
            clear hkp hf hnx hp
            go_wp2_with fail
            refine (HOE.out).mono ?_
            rintro e w5 ⟨rfl, hf5⟩
            have HF5 := Lib.hid hf5
            clear hf5 e0 e1 e3 HOE
            by_cases hneg : nx < 0
            · have hnge : ¬ (0 : Int) ≤ nx := by omega
              have HKD : Hid (kidsR n.fibers t k seen fs j = []) := by
                show _ = _; unfold kidsR; rw [kidR_no HF.out (Or.inl (by rw [← HA0.out, ← HNX.out]; exact hneg))]
              go_wp2
              go_roundw
              case rel => exact ⟨j + 1, by omega, by go_num, by rw [HPS.out, HKD.out, List.append_nil]; exact (HSR.out.keep HF5.out).low, HKP.out.trans (KpS.fresh HF5.out)⟩
              case measure => simp [intOf]; omega
            · have hnge : (0 : Int) ≤ nx := by omega
              have hqs5 : Own w5 w0.heap.size 3 (some ⟨b, off, none⟩) (seen.map iv) := (HKP.out.own (HQS.out.keep HF2.out) (HROW.out.keep HF2.out)).keep HF5.out
              have HQS5 := Lib.hid hqs5
              have HHAS := Lib.hid (l1Has_any (some ⟨b, off, none⟩) cs seen nx w5 hqs5.ints (by omega))
              clear hqs5
              by_cases hxs : nx ∈ seen
              · have hd : decide (nx ∈ seen) = true := decide_eq_true hxs
                have HKD : Hid (kidsR n.fibers t k seen fs j = []) := by
                  show _ = _; unfold kidsR; rw [kidR_no HF.out (Or.inr (by rw [← HA0.out, ← HNX.out]; exact hxs))]
                clear hxs
                go_wp2_with (go_at_call 49; refine (HHAS.out).mono ?_; rintro e w6 ⟨rfl, rfl⟩)
                go_roundw
                case rel => exact ⟨j + 1, by omega, by go_num, by rw [HPS.out, HKD.out, List.append_nil]; exact (HSR.out.keep HF5.out).low, HKP.out.trans (KpS.fresh HF5.out)⟩
                case measure => simp [intOf]; omega
              · have hd : decide (nx ∈ seen) = false := decide_eq_false hxs
                have HKD : Hid (kidsR n.fibers t k seen fs j = dfsR n.fibers t k (seen ++ [nx]) (fs ++ [(j : Int)])) := by
                  show _ = _; unfold kidsR; rw [kidR_at HF.out (by rw [← HA0.out, ← HNX.out]; simp only [not_or]; exact ⟨hneg, hxs⟩), ← HA0.out, ← HNX.out]
                have hkw := kid_walk HW.out (kidR_at HF.out (by rw [← HA0.out, ← HNX.out]; simp only [not_or]; exact ⟨hneg, hxs⟩))
                rw [← HA0.out, ← HNX.out] at hkw
                have HKW := Lib.hid hkw
                clear hxs hkw
                go_wp2_with (go_at_call 49; refine (HHAS.out).mono ?_; rintro e w6 ⟨rfl, rfl⟩)
                obtain ⟨W5, hW5⟩ : ∃ W, W = w5 := ⟨_, rfl⟩
                rw [← hW5] at HF5 HQS5 ⊢
                clear hW5 HHAS hd
                have hq5 : Own W5 w0.heap.size 3 q (fs.map iv) := (HKP.out.own (HQ.out.keep HF2.out) (HROW.out.keep HF2.out)).keep HF5.out
                have hr5 := (HKP.out _ _ _ HR2.out (by omega)).keep HF5.out
                have hr0 := hr5.cell (i := 0) rfl
                have hr1 := hr5.cell (i := 1) rfl
                have HQ5 := Lib.hid hq5
                have n1 : fs.length ≤ 1048576 := by omega
                have n2 : seen.length ≤ 1048576 := by omega
                have HOF : Hid (∀ W, Fresh W5 W → Calls Try.prog 69 #[.slice q fs.length cap] W fun e w' => ∃ q' c', e = .returned (.slice q' fs.length c') ∧ w'.ownsRow W.heap.size 3 1 (.slice q' fs.length c') fs.length (fs.map iv) ∧ Fresh W w') := fun W hW => l1OwnR_any q cap fs W (HQ5.out.keep hW).ints n1
                have HOS : Hid (∀ W, Fresh W5 W → Calls Try.prog 69 #[.slice (some ⟨b, off, none⟩) seen.length cs] W fun e w' => ∃ q' c', e = .returned (.slice q' seen.length c') ∧ w'.ownsRow W.heap.size 3 1 (.slice q' seen.length c') seen.length (seen.map iv) ∧ Fresh W w') := fun W hW => l1OwnR_any _ cs seen W (HQS5.out.keep hW).ints n2
                have HNEXT : Hid (∀ (q2 : Option Addr) (c2 : Nat) (q4 : Option Addr) (c4 : Nat) (W4 : World), W4.ownsRow W5.heap.size 3 1 (.slice q2 (fs.length + 1) c2) (fs.length + 1) (fs.map iv ++ [.int .i64 (j : Int)]) → W4.ownsRow W5.heap.size 3 1 (.slice q4 (seen.length + 1) c4) (seen.length + 1) (seen.map iv ++ [.int .i64 nx]) → Fresh W5 W4 →
                    Calls Try.prog 58 #[.pointer (some ⟨bx, 0, none⟩), .agg #[.int .i64 s, .slice q2 (fs.length + 1) c2], .slice q4 (seen.length + 1) c4] W4 fun e w' =>
                      e = .returned (.tuple #[]) ∧ SeSt w0 w' bx qn pn cn cp n s t w'.heap.size (keepTo (putL (ltC (cmpR n.fibers))) 200 acc ((partR n.fibers t k seen fs (j + 1)).map fun L => (s, L))) ∧ KpS bx W4 w') := by
                  intro q2 c2 q4 c4 W4 o2 o4 f4
                  have hsz5 : w0.heap.size ≤ W5.heap.size := Nat.le_trans HSR.out.fr.size HF5.out.size
                  obtain ⟨q2', c2', e2, p2, r2a, r2b⟩ := owns_cap o2
                  cases e2
                  obtain ⟨q4', c4', e4, p4, _, _⟩ := owns_cap o4
                  cases e4
                  have hB : ∀ g o, q2 = some ⟨g, o, none⟩ → W5.heap.size ≤ g := by
                    intro g o e
                    rcases p2 with ⟨h0, _⟩ | ⟨g', sp, h1, h2, _⟩
                    · rw [h0] at e; cases e
                    · rw [h1] at e; cases e; exact h2
                  have hwr5 : wr.heap.size ≤ W5.heap.size := HF5.out.size
                  have := HIH.out (seen ++ [nx]) (fs ++ [(j : Int)]) q4 q2 c4 c2 wr.heap.size _ W4 (HSR.out.keep (fstep HF5.out f4)) (by rw [List.map_append]; exact p2.mono hsz5) (by simpa using r2a) r2b (fun g o e => Nat.le_trans hwr5 (hB g o e)) (by rw [List.map_append]; exact p4.mono hsz5) HKW.out (by simp; omega) (by rw [← HM.out]; exact hmm)
                  rw [show (fs ++ [(j : Int)]).length = fs.length + 1 by simp, show (seen ++ [nx]).length = seen.length + 1 by simp, ← keepTo_app, ← List.map_append, ← HKD.out, ← HPS.out] at this
                  exact this
                clear hq5 hr5
                refine hd_start (n := 15) (S := fun w' => w'.cell? ⟨w.heap.size, 0, none⟩ = some (iv s) ∧ w'.cell? ⟨w.heap.size, 1, none⟩ = some (.slice q fs.length cap)) (by kernel_rfl) (by kernel_rfl) ⟨fkeep (fdrew (frefl _)) hr0, fkeep (fdrew (frefl _)) hr1⟩ (fun hHeld => ?_)
                obtain ⟨c0, hc0⟩ : ∃ W, W = W5.drew := ⟨_, rfl⟩
                rw [← hc0] at hHeld ⊢
                have fc0 : Fresh W5 c0 := by rw [hc0]; exact fdrew (frefl _)
                clear hc0
                refine hd_tk (i := 0) (v := ?_) rfl ?_ ?_
                rotate_left
                · (intro w hSw; (try dsimp only at hSw); go_simp; first | done | with_reducible rfl)
                try simp only [PU]
                refine hd_tk (i := 1) (v := ?_) rfl ?_ ?_
                rotate_left
                · (intro w hSw; (try dsimp only at hSw); go_simp; first | done | with_reducible rfl)
                try simp only [PU]
                refine hd_tk (i := 2) (v := ?_) rfl ?_ ?_
                rotate_left
                · (intro w hSw; (try dsimp only at hSw); go_simp; first | done | with_reducible rfl)
                try simp only [PU]
                refine hd_tk (i := 3) (v := ?_) rfl ?_ ?_
                rotate_left
                · (intro w hSw; (try dsimp only at hSw); go_simp; first | done | with_reducible rfl)
                try simp only [PU]
                refine hd_tk (i := 4) (v := ?_) rfl ?_ ?_
                rotate_left
                · (intro w hSw; (try dsimp only at hSw); go_simp; first | done | with_reducible rfl)
                try simp only [PU]
                refine hd_tk (i := 6) (v := ?_) rfl ?_ ?_
                rotate_left
                · (intro w hSw; (try dsimp only at hSw); go_simp; first | done | with_reducible rfl)
                try simp only [PU]
                refine hd_tk (i := 10) (v := ?_) rfl ?_ ?_
                rotate_left
                · (intro w hSw; (try dsimp only at hSw); go_simp; first | done | with_reducible rfl)
                try simp only [PU]
                refine hd_tk (i := 12) (v := ?_) rfl ?_ ?_
                rotate_left
                · (intro w hSw; (try dsimp only at hSw); go_simp; first | done | with_reducible rfl)
                try simp only [PU]
                refine hd_ready (rs := [5, 7, 13]) (by kernel_rfl) (by simp) ?_
                refine hd_cons (i := 5) rfl (by kernel_rfl) (fun K hK => ?_) ?_
                · skip
                  go_simp
                  go_at_call 69
                  refine (HOF.out _ fc0).mono ?_
                  rintro e w1 ⟨q1, c1, rfl, own1, hb1⟩
                  have f1 : Fresh W5 w1 := fstep fc0 hb1
                  have own1W := owns_mono own1 fc0.size
                  clear hb1 own1
                  go_wp2_with fail
                  refine hK.out _ _ ?_ (fun hHeld => ?_)
                  · exact ⟨fkeep f1 hr0, fkeep f1 hr1⟩
                  clear hK K
                  try simp only [PU]
                  refine hd_ready (rs := [7, 13]) (by kernel_rfl) (by simp) ?_
                  refine hd_cons (i := 7) rfl (by kernel_rfl) (fun K hK => ?_) ?_
                  · skip
                    go_simp
                    obtain ⟨wa, hwa⟩ : ∃ W, W = w1.alloc (.cells #[.int .i64 (j : Int)] 3) := ⟨_, rfl⟩
                    rw [← hwa]
                    have hba : Fresh w1 wa := by rw [hwa]; exact fnew (frefl _) _
                    have fa : Fresh W5 wa := fstep f1 hba
                    have ra : RowAt wa w1.heap.size 3 [.int .i64 (j : Int)] := by rw [hwa]; exact RowAt.new _ _ _
                    have own1a := ownsRow_keep own1W hba
                    clear hwa hba
                    refine hK.out _ _ ?_ (fun hHeld => ?_)
                    · exact ⟨fkeep fa hr0, fkeep fa hr1⟩
                    clear hK K
                    try simp only [PU]
                    refine hd_ready (rs := [8, 13]) (by kernel_rfl) (by simp) ?_
                    refine hd_cons (i := 8) rfl (by kernel_rfl) (fun K hK => ?_) ?_
                    · skip
                      refine step_app_mm (some 65) rfl Try.underlying28 infoInt rfl (by decide) (by decide) W5 _ fs.length (fs.map iv) (some ⟨w1.heap.size, 0, none⟩) 1 1 [.int .i64 (j : Int)] rfl _ _ rfl rfl own1a rfl ra.cells rfl (by intro u hu; simp at hu; subst hu; rfl) n1 (by decide) fa ?_
                      intro q2 c2 w2 own2 f2 hk2
                      clear hk2
                      refine hK.out _ _ ?_ (fun hHeld => ?_)
                      · exact ⟨fkeep f2 hr0, fkeep f2 hr1⟩
                      clear hK K
                      try simp only [PU]
                      refine hd_tk (i := 9) (v := ?_) rfl ?_ ?_
                      rotate_left
                      · (intro w hSw; (try dsimp only at hSw); go_simp; first | done | with_reducible rfl)
                      try simp only [PU]
                      refine hd_ready (rs := [11, 13]) (by kernel_rfl) (by simp) ?_
                      refine hd_cons (i := 11) rfl (by kernel_rfl) (fun K hK => ?_) ?_
                      · skip
                        go_simp
                        go_at_call 69
                        refine (HOS.out _ f2).mono ?_
                        rintro e w3 ⟨q3, c3, rfl, own3, hb3⟩
                        have f3 : Fresh W5 w3 := fstep f2 hb3
                        have na := own_apart own2 own3
                        have own2_3 := ownsRow_keep own2 hb3
                        have own3W := owns_mono own3 f2.size
                        clear hb3 own3
                        go_wp2_with fail
                        refine hK.out _ _ ?_ (fun hHeld => ?_)
                        · exact ⟨fkeep f3 hr0, fkeep f3 hr1⟩
                        clear hK K
                        try simp only [PU]
                        refine hd_ready (rs := [13]) (by kernel_rfl) (by simp) ?_
                        refine hd_cons (i := 13) rfl (by kernel_rfl) (fun K hK => ?_) ?_
                        · skip
                          go_simp
                          obtain ⟨wb, hwb⟩ : ∃ W, W = w3.alloc (.cells #[.int .i64 nx] 3) := ⟨_, rfl⟩
                          rw [← hwb]
                          have hbb : Fresh w3 wb := by rw [hwb]; exact fnew (frefl _) _
                          have fb : Fresh W5 wb := fstep f3 hbb
                          have rb : RowAt wb w3.heap.size 3 [.int .i64 nx] := by rw [hwb]; exact RowAt.new _ _ _
                          have own2b := ownsRow_keep own2_3 hbb
                          have own3b := ownsRow_keep own3W hbb
                          clear hwb hbb
                          refine hK.out _ _ ?_ (fun hHeld => ?_)
                          · exact ⟨fkeep fb hr0, fkeep fb hr1⟩
                          clear hK K
                          try simp only [PU]
                          refine hd_ready (rs := [14]) (by kernel_rfl) (by simp) ?_
                          refine hd_cons (i := 14) rfl (by kernel_rfl) (fun K hK => ?_) ?_
                          · skip
                            refine step_app_mm (some 71) rfl Try.underlying28 infoInt rfl (by decide) (by decide) W5 _ seen.length (seen.map iv) (some ⟨w3.heap.size, 0, none⟩) 1 1 [.int .i64 nx] rfl _ _ rfl rfl own3b rfl rb.cells rfl (by intro u hu; simp at hu; subst hu; rfl) n2 (by decide) fb ?_
                            intro q4 c4 w4 own4 f4 hk4
                            have own2_4 := owns_hk own2b hk4 na
                            clear hk4
                            refine hK.out _ _ ?_ (fun hHeld => ?_)
                            · exact ⟨fkeep f4 hr0, fkeep f4 hr1⟩
                            clear hK K
                            try simp only [PU]
                            refine hd_done (by kernel_rfl) ?_
                            clear hHeld
                            simp only [List.drop_succ_cons, List.drop_zero]
                            have HC := Lib.hid (HNEXT.out q2 c2 q4 c4 w4 own2_4 own4 f4)
                            have HF4 := Lib.hid f4
                            clear own2_4 own4 f4
                            go_wp2_with fail
                            refine (HC.out).mono ?_
                            rintro e w6 ⟨rfl, hst6, hkp6⟩
                            have HST6 := Lib.hid hst6
                            have HKP6 := Lib.hid hkp6
                            clear hst6 hkp6 HC
                            go_wp2
                            go_roundw
                            case rel => exact ⟨j + 1, by omega, by go_num, HST6.out, (HKP.out.trans (KpS.fresh (fstep HF5.out HF4.out))).trans HKP6.out⟩
                            case measure => simp [intOf]; omega
                          exact hd_nil
                        exact hd_nil
                      refine hd_cons (i := 13) rfl (by kernel_rfl) (fun K hK => ?_) ?_
                      · skip
                        go_simp
                        obtain ⟨wb, hwb⟩ : ∃ W, W = w2.alloc (.cells #[.int .i64 nx] 3) := ⟨_, rfl⟩
                        rw [← hwb]
                        have hbb : Fresh w2 wb := by rw [hwb]; exact fnew (frefl _) _
                        have fb : Fresh W5 wb := fstep f2 hbb
                        have rb : RowAt wb w2.heap.size 3 [.int .i64 nx] := by rw [hwb]; exact RowAt.new _ _ _
                        have own2b := ownsRow_keep own2 hbb
                        clear hwb hbb
                        refine hK.out _ _ ?_ (fun hHeld => ?_)
                        · exact ⟨fkeep fb hr0, fkeep fb hr1⟩
                        clear hK K
                        try simp only [PU]
                        refine hd_ready (rs := [11]) (by kernel_rfl) (by simp) ?_
                        refine hd_cons (i := 11) rfl (by kernel_rfl) (fun K hK => ?_) ?_
                        · skip
                          go_simp
                          go_at_call 69
                          refine (HOS.out _ fb).mono ?_
                          rintro e w3 ⟨q3, c3, rfl, own3, hb3⟩
                          have f3 : Fresh W5 w3 := fstep fb hb3
                          have rb3 := rb.keep hb3
                          have na := own_apart own2b own3
                          have own2_3 := ownsRow_keep own2b hb3
                          have own3W := owns_mono own3 fb.size
                          clear hb3 own3
                          go_wp2_with fail
                          refine hK.out _ _ ?_ (fun hHeld => ?_)
                          · exact ⟨fkeep f3 hr0, fkeep f3 hr1⟩
                          clear hK K
                          try simp only [PU]
                          refine hd_ready (rs := [14]) (by kernel_rfl) (by simp) ?_
                          refine hd_cons (i := 14) rfl (by kernel_rfl) (fun K hK => ?_) ?_
                          · skip
                            refine step_app_mm (some 71) rfl Try.underlying28 infoInt rfl (by decide) (by decide) W5 _ seen.length (seen.map iv) (some ⟨w2.heap.size, 0, none⟩) 1 1 [.int .i64 nx] rfl _ _ rfl rfl own3W rfl rb3.cells rfl (by intro u hu; simp at hu; subst hu; rfl) n2 (by decide) f3 ?_
                            intro q4 c4 w4 own4 f4 hk4
                            have own2_4 := owns_hk own2_3 hk4 na
                            clear hk4
                            refine hK.out _ _ ?_ (fun hHeld => ?_)
                            · exact ⟨fkeep f4 hr0, fkeep f4 hr1⟩
                            clear hK K
                            try simp only [PU]
                            refine hd_done (by kernel_rfl) ?_
                            clear hHeld
                            simp only [List.drop_succ_cons, List.drop_zero]
                            have HC := Lib.hid (HNEXT.out q2 c2 q4 c4 w4 own2_4 own4 f4)
                            have HF4 := Lib.hid f4
                            clear own2_4 own4 f4
                            go_wp2_with fail
                            refine (HC.out).mono ?_
                            rintro e w6 ⟨rfl, hst6, hkp6⟩
                            have HST6 := Lib.hid hst6
                            have HKP6 := Lib.hid hkp6
                            clear hst6 hkp6 HC
                            go_wp2
                            go_roundw
                            case rel => exact ⟨j + 1, by omega, by go_num, HST6.out, (HKP.out.trans (KpS.fresh (fstep HF5.out HF4.out))).trans HKP6.out⟩
                            case measure => simp [intOf]; omega
                          exact hd_nil
                        exact hd_nil
                      exact hd_nil
                    refine hd_cons (i := 13) rfl (by kernel_rfl) (fun K hK => ?_) ?_
                    · skip
                      go_simp
                      obtain ⟨wb, hwb⟩ : ∃ W, W = wa.alloc (.cells #[.int .i64 nx] 3) := ⟨_, rfl⟩
                      rw [← hwb]
                      have hbb : Fresh wa wb := by rw [hwb]; exact fnew (frefl _) _
                      have fb : Fresh W5 wb := fstep fa hbb
                      have rb : RowAt wb wa.heap.size 3 [.int .i64 nx] := by rw [hwb]; exact RowAt.new _ _ _
                      have rab := ra.keep hbb
                      have nb := own_hi own1a (Nat.le_refl _)
                      have own1b := ownsRow_keep own1a hbb
                      clear hwb hbb
                      refine hK.out _ _ ?_ (fun hHeld => ?_)
                      · exact ⟨fkeep fb hr0, fkeep fb hr1⟩
                      clear hK K
                      try simp only [PU]
                      refine hd_ready (rs := [8]) (by kernel_rfl) (by simp) ?_
                      refine hd_cons (i := 8) rfl (by kernel_rfl) (fun K hK => ?_) ?_
                      · skip
                        refine step_app_mm (some 65) rfl Try.underlying28 infoInt rfl (by decide) (by decide) W5 _ fs.length (fs.map iv) (some ⟨w1.heap.size, 0, none⟩) 1 1 [.int .i64 (j : Int)] rfl _ _ rfl rfl own1b rfl rab.cells rfl (by intro u hu; simp at hu; subst hu; rfl) n1 (by decide) fb ?_
                        intro q2 c2 w2 own2 f2 hk2
                        have rb2 := hk2 _ _ _ rb (Or.inr nb)
                        clear hk2
                        refine hK.out _ _ ?_ (fun hHeld => ?_)
                        · exact ⟨fkeep f2 hr0, fkeep f2 hr1⟩
                        clear hK K
                        try simp only [PU]
                        refine hd_tk (i := 9) (v := ?_) rfl ?_ ?_
                        rotate_left
                        · (intro w hSw; (try dsimp only at hSw); go_simp; first | done | with_reducible rfl)
                        try simp only [PU]
                        refine hd_ready (rs := [11]) (by kernel_rfl) (by simp) ?_
                        refine hd_cons (i := 11) rfl (by kernel_rfl) (fun K hK => ?_) ?_
                        · skip
                          go_simp
                          go_at_call 69
                          refine (HOS.out _ f2).mono ?_
                          rintro e w3 ⟨q3, c3, rfl, own3, hb3⟩
                          have f3 : Fresh W5 w3 := fstep f2 hb3
                          have rb3 := rb2.keep hb3
                          have na := own_apart own2 own3
                          have own2_3 := ownsRow_keep own2 hb3
                          have own3W := owns_mono own3 f2.size
                          clear hb3 own3
                          go_wp2_with fail
                          refine hK.out _ _ ?_ (fun hHeld => ?_)
                          · exact ⟨fkeep f3 hr0, fkeep f3 hr1⟩
                          clear hK K
                          try simp only [PU]
                          refine hd_ready (rs := [14]) (by kernel_rfl) (by simp) ?_
                          refine hd_cons (i := 14) rfl (by kernel_rfl) (fun K hK => ?_) ?_
                          · skip
                            refine step_app_mm (some 71) rfl Try.underlying28 infoInt rfl (by decide) (by decide) W5 _ seen.length (seen.map iv) (some ⟨wa.heap.size, 0, none⟩) 1 1 [.int .i64 nx] rfl _ _ rfl rfl own3W rfl rb3.cells rfl (by intro u hu; simp at hu; subst hu; rfl) n2 (by decide) f3 ?_
                            intro q4 c4 w4 own4 f4 hk4
                            have own2_4 := owns_hk own2_3 hk4 na
                            clear hk4
                            refine hK.out _ _ ?_ (fun hHeld => ?_)
                            · exact ⟨fkeep f4 hr0, fkeep f4 hr1⟩
                            clear hK K
                            try simp only [PU]
                            refine hd_done (by kernel_rfl) ?_
                            clear hHeld
                            simp only [List.drop_succ_cons, List.drop_zero]
                            have HC := Lib.hid (HNEXT.out q2 c2 q4 c4 w4 own2_4 own4 f4)
                            have HF4 := Lib.hid f4
                            clear own2_4 own4 f4
                            go_wp2_with fail
                            refine (HC.out).mono ?_
                            rintro e w6 ⟨rfl, hst6, hkp6⟩
                            have HST6 := Lib.hid hst6
                            have HKP6 := Lib.hid hkp6
                            clear hst6 hkp6 HC
                            go_wp2
                            go_roundw
                            case rel => exact ⟨j + 1, by omega, by go_num, HST6.out, (HKP.out.trans (KpS.fresh (fstep HF5.out HF4.out))).trans HKP6.out⟩
                            case measure => simp [intOf]; omega
                          exact hd_nil
                        exact hd_nil
                      exact hd_nil
                    exact hd_nil
                  refine hd_cons (i := 13) rfl (by kernel_rfl) (fun K hK => ?_) ?_
                  · skip
                    go_simp
                    obtain ⟨wb, hwb⟩ : ∃ W, W = w1.alloc (.cells #[.int .i64 nx] 3) := ⟨_, rfl⟩
                    rw [← hwb]
                    have hbb : Fresh w1 wb := by rw [hwb]; exact fnew (frefl _) _
                    have fb : Fresh W5 wb := fstep f1 hbb
                    have rb : RowAt wb w1.heap.size 3 [.int .i64 nx] := by rw [hwb]; exact RowAt.new _ _ _
                    have nb := own_hi own1W (Nat.le_refl _)
                    have own1b := ownsRow_keep own1W hbb
                    clear hwb hbb
                    refine hK.out _ _ ?_ (fun hHeld => ?_)
                    · exact ⟨fkeep fb hr0, fkeep fb hr1⟩
                    clear hK K
                    try simp only [PU]
                    refine hd_ready (rs := [7]) (by kernel_rfl) (by simp) ?_
                    refine hd_cons (i := 7) rfl (by kernel_rfl) (fun K hK => ?_) ?_
                    · skip
                      go_simp
                      obtain ⟨wa, hwa⟩ : ∃ W, W = wb.alloc (.cells #[.int .i64 (j : Int)] 3) := ⟨_, rfl⟩
                      rw [← hwa]
                      have hba : Fresh wb wa := by rw [hwa]; exact fnew (frefl _) _
                      have fa : Fresh W5 wa := fstep fb hba
                      have ra : RowAt wa wb.heap.size 3 [.int .i64 (j : Int)] := by rw [hwa]; exact RowAt.new _ _ _
                      have rba := rb.keep hba
                      have own1a := ownsRow_keep own1b hba
                      clear hwa hba
                      refine hK.out _ _ ?_ (fun hHeld => ?_)
                      · exact ⟨fkeep fa hr0, fkeep fa hr1⟩
                      clear hK K
                      try simp only [PU]
                      refine hd_ready (rs := [8]) (by kernel_rfl) (by simp) ?_
                      refine hd_cons (i := 8) rfl (by kernel_rfl) (fun K hK => ?_) ?_
                      · skip
                        refine step_app_mm (some 65) rfl Try.underlying28 infoInt rfl (by decide) (by decide) W5 _ fs.length (fs.map iv) (some ⟨wb.heap.size, 0, none⟩) 1 1 [.int .i64 (j : Int)] rfl _ _ rfl rfl own1a rfl ra.cells rfl (by intro u hu; simp at hu; subst hu; rfl) n1 (by decide) fa ?_
                        intro q2 c2 w2 own2 f2 hk2
                        have rb2 := hk2 _ _ _ rba (Or.inr nb)
                        clear hk2
                        refine hK.out _ _ ?_ (fun hHeld => ?_)
                        · exact ⟨fkeep f2 hr0, fkeep f2 hr1⟩
                        clear hK K
                        try simp only [PU]
                        refine hd_tk (i := 9) (v := ?_) rfl ?_ ?_
                        rotate_left
                        · (intro w hSw; (try dsimp only at hSw); go_simp; first | done | with_reducible rfl)
                        try simp only [PU]
                        refine hd_ready (rs := [11]) (by kernel_rfl) (by simp) ?_
                        refine hd_cons (i := 11) rfl (by kernel_rfl) (fun K hK => ?_) ?_
                        · skip
                          go_simp
                          go_at_call 69
                          refine (HOS.out _ f2).mono ?_
                          rintro e w3 ⟨q3, c3, rfl, own3, hb3⟩
                          have f3 : Fresh W5 w3 := fstep f2 hb3
                          have rb3 := rb2.keep hb3
                          have na := own_apart own2 own3
                          have own2_3 := ownsRow_keep own2 hb3
                          have own3W := owns_mono own3 f2.size
                          clear hb3 own3
                          go_wp2_with fail
                          refine hK.out _ _ ?_ (fun hHeld => ?_)
                          · exact ⟨fkeep f3 hr0, fkeep f3 hr1⟩
                          clear hK K
                          try simp only [PU]
                          refine hd_ready (rs := [14]) (by kernel_rfl) (by simp) ?_
                          refine hd_cons (i := 14) rfl (by kernel_rfl) (fun K hK => ?_) ?_
                          · skip
                            refine step_app_mm (some 71) rfl Try.underlying28 infoInt rfl (by decide) (by decide) W5 _ seen.length (seen.map iv) (some ⟨w1.heap.size, 0, none⟩) 1 1 [.int .i64 nx] rfl _ _ rfl rfl own3W rfl rb3.cells rfl (by intro u hu; simp at hu; subst hu; rfl) n2 (by decide) f3 ?_
                            intro q4 c4 w4 own4 f4 hk4
                            have own2_4 := owns_hk own2_3 hk4 na
                            clear hk4
                            refine hK.out _ _ ?_ (fun hHeld => ?_)
                            · exact ⟨fkeep f4 hr0, fkeep f4 hr1⟩
                            clear hK K
                            try simp only [PU]
                            refine hd_done (by kernel_rfl) ?_
                            clear hHeld
                            simp only [List.drop_succ_cons, List.drop_zero]
                            have HC := Lib.hid (HNEXT.out q2 c2 q4 c4 w4 own2_4 own4 f4)
                            have HF4 := Lib.hid f4
                            clear own2_4 own4 f4
                            go_wp2_with fail
                            refine (HC.out).mono ?_
                            rintro e w6 ⟨rfl, hst6, hkp6⟩
                            have HST6 := Lib.hid hst6
                            have HKP6 := Lib.hid hkp6
                            clear hst6 hkp6 HC
                            go_wp2
                            go_roundw
                            case rel => exact ⟨j + 1, by omega, by go_num, HST6.out, (HKP.out.trans (KpS.fresh (fstep HF5.out HF4.out))).trans HKP6.out⟩
                            case measure => simp [intOf]; omega
                          exact hd_nil
                        exact hd_nil
                      exact hd_nil
                    exact hd_nil
                  exact hd_nil
                refine hd_cons (i := 7) rfl (by kernel_rfl) (fun K hK => ?_) ?_
                · skip
                  go_simp
                  obtain ⟨wa, hwa⟩ : ∃ W, W = c0.alloc (.cells #[.int .i64 (j : Int)] 3) := ⟨_, rfl⟩
                  rw [← hwa]
                  have hba : Fresh c0 wa := by rw [hwa]; exact fnew (frefl _) _
                  have fa : Fresh W5 wa := fstep fc0 hba
                  have ra : RowAt wa c0.heap.size 3 [.int .i64 (j : Int)] := by rw [hwa]; exact RowAt.new _ _ _
                  clear hwa hba
                  refine hK.out _ _ ?_ (fun hHeld => ?_)
                  · exact ⟨fkeep fa hr0, fkeep fa hr1⟩
                  clear hK K
                  try simp only [PU]
                  refine hd_ready (rs := [5, 13]) (by kernel_rfl) (by simp) ?_
                  refine hd_cons (i := 5) rfl (by kernel_rfl) (fun K hK => ?_) ?_
                  · skip
                    go_simp
                    go_at_call 69
                    refine (HOF.out _ fa).mono ?_
                    rintro e w1 ⟨q1, c1, rfl, own1, hb1⟩
                    have f1 : Fresh W5 w1 := fstep fa hb1
                    have ra1 := ra.keep hb1
                    have own1W := owns_mono own1 fa.size
                    clear hb1 own1
                    go_wp2_with fail
                    refine hK.out _ _ ?_ (fun hHeld => ?_)
                    · exact ⟨fkeep f1 hr0, fkeep f1 hr1⟩
                    clear hK K
                    try simp only [PU]
                    refine hd_ready (rs := [8, 13]) (by kernel_rfl) (by simp) ?_
                    refine hd_cons (i := 8) rfl (by kernel_rfl) (fun K hK => ?_) ?_
                    · skip
                      refine step_app_mm (some 65) rfl Try.underlying28 infoInt rfl (by decide) (by decide) W5 _ fs.length (fs.map iv) (some ⟨c0.heap.size, 0, none⟩) 1 1 [.int .i64 (j : Int)] rfl _ _ rfl rfl own1W rfl ra1.cells rfl (by intro u hu; simp at hu; subst hu; rfl) n1 (by decide) f1 ?_
                      intro q2 c2 w2 own2 f2 hk2
                      clear hk2
                      refine hK.out _ _ ?_ (fun hHeld => ?_)
                      · exact ⟨fkeep f2 hr0, fkeep f2 hr1⟩
                      clear hK K
                      try simp only [PU]
                      refine hd_tk (i := 9) (v := ?_) rfl ?_ ?_
                      rotate_left
                      · (intro w hSw; (try dsimp only at hSw); go_simp; first | done | with_reducible rfl)
                      try simp only [PU]
                      refine hd_ready (rs := [11, 13]) (by kernel_rfl) (by simp) ?_
                      refine hd_cons (i := 11) rfl (by kernel_rfl) (fun K hK => ?_) ?_
                      · skip
                        go_simp
                        go_at_call 69
                        refine (HOS.out _ f2).mono ?_
                        rintro e w3 ⟨q3, c3, rfl, own3, hb3⟩
                        have f3 : Fresh W5 w3 := fstep f2 hb3
                        have na := own_apart own2 own3
                        have own2_3 := ownsRow_keep own2 hb3
                        have own3W := owns_mono own3 f2.size
                        clear hb3 own3
                        go_wp2_with fail
                        refine hK.out _ _ ?_ (fun hHeld => ?_)
                        · exact ⟨fkeep f3 hr0, fkeep f3 hr1⟩
                        clear hK K
                        try simp only [PU]
                        refine hd_ready (rs := [13]) (by kernel_rfl) (by simp) ?_
                        refine hd_cons (i := 13) rfl (by kernel_rfl) (fun K hK => ?_) ?_
                        · skip
                          go_simp
                          obtain ⟨wb, hwb⟩ : ∃ W, W = w3.alloc (.cells #[.int .i64 nx] 3) := ⟨_, rfl⟩
                          rw [← hwb]
                          have hbb : Fresh w3 wb := by rw [hwb]; exact fnew (frefl _) _
                          have fb : Fresh W5 wb := fstep f3 hbb
                          have rb : RowAt wb w3.heap.size 3 [.int .i64 nx] := by rw [hwb]; exact RowAt.new _ _ _
                          have own2b := ownsRow_keep own2_3 hbb
                          have own3b := ownsRow_keep own3W hbb
                          clear hwb hbb
                          refine hK.out _ _ ?_ (fun hHeld => ?_)
                          · exact ⟨fkeep fb hr0, fkeep fb hr1⟩
                          clear hK K
                          try simp only [PU]
                          refine hd_ready (rs := [14]) (by kernel_rfl) (by simp) ?_
                          refine hd_cons (i := 14) rfl (by kernel_rfl) (fun K hK => ?_) ?_
                          · skip
                            refine step_app_mm (some 71) rfl Try.underlying28 infoInt rfl (by decide) (by decide) W5 _ seen.length (seen.map iv) (some ⟨w3.heap.size, 0, none⟩) 1 1 [.int .i64 nx] rfl _ _ rfl rfl own3b rfl rb.cells rfl (by intro u hu; simp at hu; subst hu; rfl) n2 (by decide) fb ?_
                            intro q4 c4 w4 own4 f4 hk4
                            have own2_4 := owns_hk own2b hk4 na
                            clear hk4
                            refine hK.out _ _ ?_ (fun hHeld => ?_)
                            · exact ⟨fkeep f4 hr0, fkeep f4 hr1⟩
                            clear hK K
                            try simp only [PU]
                            refine hd_done (by kernel_rfl) ?_
                            clear hHeld
                            simp only [List.drop_succ_cons, List.drop_zero]
                            have HC := Lib.hid (HNEXT.out q2 c2 q4 c4 w4 own2_4 own4 f4)
                            have HF4 := Lib.hid f4
                            clear own2_4 own4 f4
                            go_wp2_with fail
                            refine (HC.out).mono ?_
                            rintro e w6 ⟨rfl, hst6, hkp6⟩
                            have HST6 := Lib.hid hst6
                            have HKP6 := Lib.hid hkp6
                            clear hst6 hkp6 HC
                            go_wp2
                            go_roundw
                            case rel => exact ⟨j + 1, by omega, by go_num, HST6.out, (HKP.out.trans (KpS.fresh (fstep HF5.out HF4.out))).trans HKP6.out⟩
                            case measure => simp [intOf]; omega
                          exact hd_nil
                        exact hd_nil
                      refine hd_cons (i := 13) rfl (by kernel_rfl) (fun K hK => ?_) ?_
                      · skip
                        go_simp
                        obtain ⟨wb, hwb⟩ : ∃ W, W = w2.alloc (.cells #[.int .i64 nx] 3) := ⟨_, rfl⟩
                        rw [← hwb]
                        have hbb : Fresh w2 wb := by rw [hwb]; exact fnew (frefl _) _
                        have fb : Fresh W5 wb := fstep f2 hbb
                        have rb : RowAt wb w2.heap.size 3 [.int .i64 nx] := by rw [hwb]; exact RowAt.new _ _ _
                        have own2b := ownsRow_keep own2 hbb
                        clear hwb hbb
                        refine hK.out _ _ ?_ (fun hHeld => ?_)
                        · exact ⟨fkeep fb hr0, fkeep fb hr1⟩
                        clear hK K
                        try simp only [PU]
                        refine hd_ready (rs := [11]) (by kernel_rfl) (by simp) ?_
                        refine hd_cons (i := 11) rfl (by kernel_rfl) (fun K hK => ?_) ?_
                        · skip
                          go_simp
                          go_at_call 69
                          refine (HOS.out _ fb).mono ?_
                          rintro e w3 ⟨q3, c3, rfl, own3, hb3⟩
                          have f3 : Fresh W5 w3 := fstep fb hb3
                          have rb3 := rb.keep hb3
                          have na := own_apart own2b own3
                          have own2_3 := ownsRow_keep own2b hb3
                          have own3W := owns_mono own3 fb.size
                          clear hb3 own3
                          go_wp2_with fail
                          refine hK.out _ _ ?_ (fun hHeld => ?_)
                          · exact ⟨fkeep f3 hr0, fkeep f3 hr1⟩
                          clear hK K
                          try simp only [PU]
                          refine hd_ready (rs := [14]) (by kernel_rfl) (by simp) ?_
                          refine hd_cons (i := 14) rfl (by kernel_rfl) (fun K hK => ?_) ?_
                          · skip
                            refine step_app_mm (some 71) rfl Try.underlying28 infoInt rfl (by decide) (by decide) W5 _ seen.length (seen.map iv) (some ⟨w2.heap.size, 0, none⟩) 1 1 [.int .i64 nx] rfl _ _ rfl rfl own3W rfl rb3.cells rfl (by intro u hu; simp at hu; subst hu; rfl) n2 (by decide) f3 ?_
                            intro q4 c4 w4 own4 f4 hk4
                            have own2_4 := owns_hk own2_3 hk4 na
                            clear hk4
                            refine hK.out _ _ ?_ (fun hHeld => ?_)
                            · exact ⟨fkeep f4 hr0, fkeep f4 hr1⟩
                            clear hK K
                            try simp only [PU]
                            refine hd_done (by kernel_rfl) ?_
                            clear hHeld
                            simp only [List.drop_succ_cons, List.drop_zero]
                            have HC := Lib.hid (HNEXT.out q2 c2 q4 c4 w4 own2_4 own4 f4)
                            have HF4 := Lib.hid f4
                            clear own2_4 own4 f4
                            go_wp2_with fail
                            refine (HC.out).mono ?_
                            rintro e w6 ⟨rfl, hst6, hkp6⟩
                            have HST6 := Lib.hid hst6
                            have HKP6 := Lib.hid hkp6
                            clear hst6 hkp6 HC
                            go_wp2
                            go_roundw
                            case rel => exact ⟨j + 1, by omega, by go_num, HST6.out, (HKP.out.trans (KpS.fresh (fstep HF5.out HF4.out))).trans HKP6.out⟩
                            case measure => simp [intOf]; omega
                          exact hd_nil
                        exact hd_nil
                      exact hd_nil
                    refine hd_cons (i := 13) rfl (by kernel_rfl) (fun K hK => ?_) ?_
                    · skip
                      go_simp
                      obtain ⟨wb, hwb⟩ : ∃ W, W = w1.alloc (.cells #[.int .i64 nx] 3) := ⟨_, rfl⟩
                      rw [← hwb]
                      have hbb : Fresh w1 wb := by rw [hwb]; exact fnew (frefl _) _
                      have fb : Fresh W5 wb := fstep f1 hbb
                      have rb : RowAt wb w1.heap.size 3 [.int .i64 nx] := by rw [hwb]; exact RowAt.new _ _ _
                      have rab := ra1.keep hbb
                      have nb := own_hi own1W (Nat.le_refl _)
                      have own1b := ownsRow_keep own1W hbb
                      clear hwb hbb
                      refine hK.out _ _ ?_ (fun hHeld => ?_)
                      · exact ⟨fkeep fb hr0, fkeep fb hr1⟩
                      clear hK K
                      try simp only [PU]
                      refine hd_ready (rs := [8]) (by kernel_rfl) (by simp) ?_
                      refine hd_cons (i := 8) rfl (by kernel_rfl) (fun K hK => ?_) ?_
                      · skip
                        refine step_app_mm (some 65) rfl Try.underlying28 infoInt rfl (by decide) (by decide) W5 _ fs.length (fs.map iv) (some ⟨c0.heap.size, 0, none⟩) 1 1 [.int .i64 (j : Int)] rfl _ _ rfl rfl own1b rfl rab.cells rfl (by intro u hu; simp at hu; subst hu; rfl) n1 (by decide) fb ?_
                        intro q2 c2 w2 own2 f2 hk2
                        have rb2 := hk2 _ _ _ rb (Or.inr nb)
                        clear hk2
                        refine hK.out _ _ ?_ (fun hHeld => ?_)
                        · exact ⟨fkeep f2 hr0, fkeep f2 hr1⟩
                        clear hK K
                        try simp only [PU]
                        refine hd_tk (i := 9) (v := ?_) rfl ?_ ?_
                        rotate_left
                        · (intro w hSw; (try dsimp only at hSw); go_simp; first | done | with_reducible rfl)
                        try simp only [PU]
                        refine hd_ready (rs := [11]) (by kernel_rfl) (by simp) ?_
                        refine hd_cons (i := 11) rfl (by kernel_rfl) (fun K hK => ?_) ?_
                        · skip
                          go_simp
                          go_at_call 69
                          refine (HOS.out _ f2).mono ?_
                          rintro e w3 ⟨q3, c3, rfl, own3, hb3⟩
                          have f3 : Fresh W5 w3 := fstep f2 hb3
                          have rb3 := rb2.keep hb3
                          have na := own_apart own2 own3
                          have own2_3 := ownsRow_keep own2 hb3
                          have own3W := owns_mono own3 f2.size
                          clear hb3 own3
                          go_wp2_with fail
                          refine hK.out _ _ ?_ (fun hHeld => ?_)
                          · exact ⟨fkeep f3 hr0, fkeep f3 hr1⟩
                          clear hK K
                          try simp only [PU]
                          refine hd_ready (rs := [14]) (by kernel_rfl) (by simp) ?_
                          refine hd_cons (i := 14) rfl (by kernel_rfl) (fun K hK => ?_) ?_
                          · skip
                            refine step_app_mm (some 71) rfl Try.underlying28 infoInt rfl (by decide) (by decide) W5 _ seen.length (seen.map iv) (some ⟨w1.heap.size, 0, none⟩) 1 1 [.int .i64 nx] rfl _ _ rfl rfl own3W rfl rb3.cells rfl (by intro u hu; simp at hu; subst hu; rfl) n2 (by decide) f3 ?_
                            intro q4 c4 w4 own4 f4 hk4
                            have own2_4 := owns_hk own2_3 hk4 na
                            clear hk4
                            refine hK.out _ _ ?_ (fun hHeld => ?_)
                            · exact ⟨fkeep f4 hr0, fkeep f4 hr1⟩
                            clear hK K
                            try simp only [PU]
                            refine hd_done (by kernel_rfl) ?_
                            clear hHeld
                            simp only [List.drop_succ_cons, List.drop_zero]
                            have HC := Lib.hid (HNEXT.out q2 c2 q4 c4 w4 own2_4 own4 f4)
                            have HF4 := Lib.hid f4
                            clear own2_4 own4 f4
                            go_wp2_with fail
                            refine (HC.out).mono ?_
                            rintro e w6 ⟨rfl, hst6, hkp6⟩
                            have HST6 := Lib.hid hst6
                            have HKP6 := Lib.hid hkp6
                            clear hst6 hkp6 HC
                            go_wp2
                            go_roundw
                            case rel => exact ⟨j + 1, by omega, by go_num, HST6.out, (HKP.out.trans (KpS.fresh (fstep HF5.out HF4.out))).trans HKP6.out⟩
                            case measure => simp [intOf]; omega
                          exact hd_nil
                        exact hd_nil
                      exact hd_nil
                    exact hd_nil
                  refine hd_cons (i := 13) rfl (by kernel_rfl) (fun K hK => ?_) ?_
                  · skip
                    go_simp
                    obtain ⟨wb, hwb⟩ : ∃ W, W = wa.alloc (.cells #[.int .i64 nx] 3) := ⟨_, rfl⟩
                    rw [← hwb]
                    have hbb : Fresh wa wb := by rw [hwb]; exact fnew (frefl _) _
                    have fb : Fresh W5 wb := fstep fa hbb
                    have rb : RowAt wb wa.heap.size 3 [.int .i64 nx] := by rw [hwb]; exact RowAt.new _ _ _
                    have rab := ra.keep hbb
                    clear hwb hbb
                    refine hK.out _ _ ?_ (fun hHeld => ?_)
                    · exact ⟨fkeep fb hr0, fkeep fb hr1⟩
                    clear hK K
                    try simp only [PU]
                    refine hd_ready (rs := [5]) (by kernel_rfl) (by simp) ?_
                    refine hd_cons (i := 5) rfl (by kernel_rfl) (fun K hK => ?_) ?_
                    · skip
                      go_simp
                      go_at_call 69
                      refine (HOF.out _ fb).mono ?_
                      rintro e w1 ⟨q1, c1, rfl, own1, hb1⟩
                      have f1 : Fresh W5 w1 := fstep fb hb1
                      have ra1 := rab.keep hb1
                      have nb := own_lo own1 rb.lt
                      have rb1 := rb.keep hb1
                      have own1W := owns_mono own1 fb.size
                      clear hb1 own1
                      go_wp2_with fail
                      refine hK.out _ _ ?_ (fun hHeld => ?_)
                      · exact ⟨fkeep f1 hr0, fkeep f1 hr1⟩
                      clear hK K
                      try simp only [PU]
                      refine hd_ready (rs := [8]) (by kernel_rfl) (by simp) ?_
                      refine hd_cons (i := 8) rfl (by kernel_rfl) (fun K hK => ?_) ?_
                      · skip
                        refine step_app_mm (some 65) rfl Try.underlying28 infoInt rfl (by decide) (by decide) W5 _ fs.length (fs.map iv) (some ⟨c0.heap.size, 0, none⟩) 1 1 [.int .i64 (j : Int)] rfl _ _ rfl rfl own1W rfl ra1.cells rfl (by intro u hu; simp at hu; subst hu; rfl) n1 (by decide) f1 ?_
                        intro q2 c2 w2 own2 f2 hk2
                        have rb2 := hk2 _ _ _ rb1 (Or.inr nb)
                        clear hk2
                        refine hK.out _ _ ?_ (fun hHeld => ?_)
                        · exact ⟨fkeep f2 hr0, fkeep f2 hr1⟩
                        clear hK K
                        try simp only [PU]
                        refine hd_tk (i := 9) (v := ?_) rfl ?_ ?_
                        rotate_left
                        · (intro w hSw; (try dsimp only at hSw); go_simp; first | done | with_reducible rfl)
                        try simp only [PU]
                        refine hd_ready (rs := [11]) (by kernel_rfl) (by simp) ?_
                        refine hd_cons (i := 11) rfl (by kernel_rfl) (fun K hK => ?_) ?_
                        · skip
                          go_simp
                          go_at_call 69
                          refine (HOS.out _ f2).mono ?_
                          rintro e w3 ⟨q3, c3, rfl, own3, hb3⟩
                          have f3 : Fresh W5 w3 := fstep f2 hb3
                          have rb3 := rb2.keep hb3
                          have na := own_apart own2 own3
                          have own2_3 := ownsRow_keep own2 hb3
                          have own3W := owns_mono own3 f2.size
                          clear hb3 own3
                          go_wp2_with fail
                          refine hK.out _ _ ?_ (fun hHeld => ?_)
                          · exact ⟨fkeep f3 hr0, fkeep f3 hr1⟩
                          clear hK K
                          try simp only [PU]
                          refine hd_ready (rs := [14]) (by kernel_rfl) (by simp) ?_
                          refine hd_cons (i := 14) rfl (by kernel_rfl) (fun K hK => ?_) ?_
                          · skip
                            refine step_app_mm (some 71) rfl Try.underlying28 infoInt rfl (by decide) (by decide) W5 _ seen.length (seen.map iv) (some ⟨wa.heap.size, 0, none⟩) 1 1 [.int .i64 nx] rfl _ _ rfl rfl own3W rfl rb3.cells rfl (by intro u hu; simp at hu; subst hu; rfl) n2 (by decide) f3 ?_
                            intro q4 c4 w4 own4 f4 hk4
                            have own2_4 := owns_hk own2_3 hk4 na
                            clear hk4
                            refine hK.out _ _ ?_ (fun hHeld => ?_)
                            · exact ⟨fkeep f4 hr0, fkeep f4 hr1⟩
                            clear hK K
                            try simp only [PU]
                            refine hd_done (by kernel_rfl) ?_
                            clear hHeld
                            simp only [List.drop_succ_cons, List.drop_zero]
                            have HC := Lib.hid (HNEXT.out q2 c2 q4 c4 w4 own2_4 own4 f4)
                            have HF4 := Lib.hid f4
                            clear own2_4 own4 f4
                            go_wp2_with fail
                            refine (HC.out).mono ?_
                            rintro e w6 ⟨rfl, hst6, hkp6⟩
                            have HST6 := Lib.hid hst6
                            have HKP6 := Lib.hid hkp6
                            clear hst6 hkp6 HC
                            go_wp2
                            go_roundw
                            case rel => exact ⟨j + 1, by omega, by go_num, HST6.out, (HKP.out.trans (KpS.fresh (fstep HF5.out HF4.out))).trans HKP6.out⟩
                            case measure => simp [intOf]; omega
                          exact hd_nil
                        exact hd_nil
                      exact hd_nil
                    exact hd_nil
                  exact hd_nil
                refine hd_cons (i := 13) rfl (by kernel_rfl) (fun K hK => ?_) ?_
                · skip
                  go_simp
                  obtain ⟨wb, hwb⟩ : ∃ W, W = c0.alloc (.cells #[.int .i64 nx] 3) := ⟨_, rfl⟩
                  rw [← hwb]
                  have hbb : Fresh c0 wb := by rw [hwb]; exact fnew (frefl _) _
                  have fb : Fresh W5 wb := fstep fc0 hbb
                  have rb : RowAt wb c0.heap.size 3 [.int .i64 nx] := by rw [hwb]; exact RowAt.new _ _ _
                  clear hwb hbb
                  refine hK.out _ _ ?_ (fun hHeld => ?_)
                  · exact ⟨fkeep fb hr0, fkeep fb hr1⟩
                  clear hK K
                  try simp only [PU]
                  refine hd_ready (rs := [5, 7]) (by kernel_rfl) (by simp) ?_
                  refine hd_cons (i := 5) rfl (by kernel_rfl) (fun K hK => ?_) ?_
                  · skip
                    go_simp
                    go_at_call 69
                    refine (HOF.out _ fb).mono ?_
                    rintro e w1 ⟨q1, c1, rfl, own1, hb1⟩
                    have f1 : Fresh W5 w1 := fstep fb hb1
                    have nb := own_lo own1 rb.lt
                    have rb1 := rb.keep hb1
                    have own1W := owns_mono own1 fb.size
                    clear hb1 own1
                    go_wp2_with fail
                    refine hK.out _ _ ?_ (fun hHeld => ?_)
                    · exact ⟨fkeep f1 hr0, fkeep f1 hr1⟩
                    clear hK K
                    try simp only [PU]
                    refine hd_ready (rs := [7]) (by kernel_rfl) (by simp) ?_
                    refine hd_cons (i := 7) rfl (by kernel_rfl) (fun K hK => ?_) ?_
                    · skip
                      go_simp
                      obtain ⟨wa, hwa⟩ : ∃ W, W = w1.alloc (.cells #[.int .i64 (j : Int)] 3) := ⟨_, rfl⟩
                      rw [← hwa]
                      have hba : Fresh w1 wa := by rw [hwa]; exact fnew (frefl _) _
                      have fa : Fresh W5 wa := fstep f1 hba
                      have ra : RowAt wa w1.heap.size 3 [.int .i64 (j : Int)] := by rw [hwa]; exact RowAt.new _ _ _
                      have rba := rb1.keep hba
                      have own1a := ownsRow_keep own1W hba
                      clear hwa hba
                      refine hK.out _ _ ?_ (fun hHeld => ?_)
                      · exact ⟨fkeep fa hr0, fkeep fa hr1⟩
                      clear hK K
                      try simp only [PU]
                      refine hd_ready (rs := [8]) (by kernel_rfl) (by simp) ?_
                      refine hd_cons (i := 8) rfl (by kernel_rfl) (fun K hK => ?_) ?_
                      · skip
                        refine step_app_mm (some 65) rfl Try.underlying28 infoInt rfl (by decide) (by decide) W5 _ fs.length (fs.map iv) (some ⟨w1.heap.size, 0, none⟩) 1 1 [.int .i64 (j : Int)] rfl _ _ rfl rfl own1a rfl ra.cells rfl (by intro u hu; simp at hu; subst hu; rfl) n1 (by decide) fa ?_
                        intro q2 c2 w2 own2 f2 hk2
                        have rb2 := hk2 _ _ _ rba (Or.inr nb)
                        clear hk2
                        refine hK.out _ _ ?_ (fun hHeld => ?_)
                        · exact ⟨fkeep f2 hr0, fkeep f2 hr1⟩
                        clear hK K
                        try simp only [PU]
                        refine hd_tk (i := 9) (v := ?_) rfl ?_ ?_
                        rotate_left
                        · (intro w hSw; (try dsimp only at hSw); go_simp; first | done | with_reducible rfl)
                        try simp only [PU]
                        refine hd_ready (rs := [11]) (by kernel_rfl) (by simp) ?_
                        refine hd_cons (i := 11) rfl (by kernel_rfl) (fun K hK => ?_) ?_
                        · skip
                          go_simp
                          go_at_call 69
                          refine (HOS.out _ f2).mono ?_
                          rintro e w3 ⟨q3, c3, rfl, own3, hb3⟩
                          have f3 : Fresh W5 w3 := fstep f2 hb3
                          have rb3 := rb2.keep hb3
                          have na := own_apart own2 own3
                          have own2_3 := ownsRow_keep own2 hb3
                          have own3W := owns_mono own3 f2.size
                          clear hb3 own3
                          go_wp2_with fail
                          refine hK.out _ _ ?_ (fun hHeld => ?_)
                          · exact ⟨fkeep f3 hr0, fkeep f3 hr1⟩
                          clear hK K
                          try simp only [PU]
                          refine hd_ready (rs := [14]) (by kernel_rfl) (by simp) ?_
                          refine hd_cons (i := 14) rfl (by kernel_rfl) (fun K hK => ?_) ?_
                          · skip
                            refine step_app_mm (some 71) rfl Try.underlying28 infoInt rfl (by decide) (by decide) W5 _ seen.length (seen.map iv) (some ⟨c0.heap.size, 0, none⟩) 1 1 [.int .i64 nx] rfl _ _ rfl rfl own3W rfl rb3.cells rfl (by intro u hu; simp at hu; subst hu; rfl) n2 (by decide) f3 ?_
                            intro q4 c4 w4 own4 f4 hk4
                            have own2_4 := owns_hk own2_3 hk4 na
                            clear hk4
                            refine hK.out _ _ ?_ (fun hHeld => ?_)
                            · exact ⟨fkeep f4 hr0, fkeep f4 hr1⟩
                            clear hK K
                            try simp only [PU]
                            refine hd_done (by kernel_rfl) ?_
                            clear hHeld
                            simp only [List.drop_succ_cons, List.drop_zero]
                            have HC := Lib.hid (HNEXT.out q2 c2 q4 c4 w4 own2_4 own4 f4)
                            have HF4 := Lib.hid f4
                            clear own2_4 own4 f4
                            go_wp2_with fail
                            refine (HC.out).mono ?_
                            rintro e w6 ⟨rfl, hst6, hkp6⟩
                            have HST6 := Lib.hid hst6
                            have HKP6 := Lib.hid hkp6
                            clear hst6 hkp6 HC
                            go_wp2
                            go_roundw
                            case rel => exact ⟨j + 1, by omega, by go_num, HST6.out, (HKP.out.trans (KpS.fresh (fstep HF5.out HF4.out))).trans HKP6.out⟩
                            case measure => simp [intOf]; omega
                          exact hd_nil
                        exact hd_nil
                      exact hd_nil
                    exact hd_nil
                  refine hd_cons (i := 7) rfl (by kernel_rfl) (fun K hK => ?_) ?_
                  · skip
                    go_simp
                    obtain ⟨wa, hwa⟩ : ∃ W, W = wb.alloc (.cells #[.int .i64 (j : Int)] 3) := ⟨_, rfl⟩
                    rw [← hwa]
                    have hba : Fresh wb wa := by rw [hwa]; exact fnew (frefl _) _
                    have fa : Fresh W5 wa := fstep fb hba
                    have ra : RowAt wa wb.heap.size 3 [.int .i64 (j : Int)] := by rw [hwa]; exact RowAt.new _ _ _
                    have rba := rb.keep hba
                    clear hwa hba
                    refine hK.out _ _ ?_ (fun hHeld => ?_)
                    · exact ⟨fkeep fa hr0, fkeep fa hr1⟩
                    clear hK K
                    try simp only [PU]
                    refine hd_ready (rs := [5]) (by kernel_rfl) (by simp) ?_
                    refine hd_cons (i := 5) rfl (by kernel_rfl) (fun K hK => ?_) ?_
                    · skip
                      go_simp
                      go_at_call 69
                      refine (HOF.out _ fa).mono ?_
                      rintro e w1 ⟨q1, c1, rfl, own1, hb1⟩
                      have f1 : Fresh W5 w1 := fstep fa hb1
                      have ra1 := ra.keep hb1
                      have nb := own_lo own1 rba.lt
                      have rb1 := rba.keep hb1
                      have own1W := owns_mono own1 fa.size
                      clear hb1 own1
                      go_wp2_with fail
                      refine hK.out _ _ ?_ (fun hHeld => ?_)
                      · exact ⟨fkeep f1 hr0, fkeep f1 hr1⟩
                      clear hK K
                      try simp only [PU]
                      refine hd_ready (rs := [8]) (by kernel_rfl) (by simp) ?_
                      refine hd_cons (i := 8) rfl (by kernel_rfl) (fun K hK => ?_) ?_
                      · skip
                        refine step_app_mm (some 65) rfl Try.underlying28 infoInt rfl (by decide) (by decide) W5 _ fs.length (fs.map iv) (some ⟨wb.heap.size, 0, none⟩) 1 1 [.int .i64 (j : Int)] rfl _ _ rfl rfl own1W rfl ra1.cells rfl (by intro u hu; simp at hu; subst hu; rfl) n1 (by decide) f1 ?_
                        intro q2 c2 w2 own2 f2 hk2
                        have rb2 := hk2 _ _ _ rb1 (Or.inr nb)
                        clear hk2
                        refine hK.out _ _ ?_ (fun hHeld => ?_)
                        · exact ⟨fkeep f2 hr0, fkeep f2 hr1⟩
                        clear hK K
                        try simp only [PU]
                        refine hd_tk (i := 9) (v := ?_) rfl ?_ ?_
                        rotate_left
                        · (intro w hSw; (try dsimp only at hSw); go_simp; first | done | with_reducible rfl)
                        try simp only [PU]
                        refine hd_ready (rs := [11]) (by kernel_rfl) (by simp) ?_
                        refine hd_cons (i := 11) rfl (by kernel_rfl) (fun K hK => ?_) ?_
                        · skip
                          go_simp
                          go_at_call 69
                          refine (HOS.out _ f2).mono ?_
                          rintro e w3 ⟨q3, c3, rfl, own3, hb3⟩
                          have f3 : Fresh W5 w3 := fstep f2 hb3
                          have rb3 := rb2.keep hb3
                          have na := own_apart own2 own3
                          have own2_3 := ownsRow_keep own2 hb3
                          have own3W := owns_mono own3 f2.size
                          clear hb3 own3
                          go_wp2_with fail
                          refine hK.out _ _ ?_ (fun hHeld => ?_)
                          · exact ⟨fkeep f3 hr0, fkeep f3 hr1⟩
                          clear hK K
                          try simp only [PU]
                          refine hd_ready (rs := [14]) (by kernel_rfl) (by simp) ?_
                          refine hd_cons (i := 14) rfl (by kernel_rfl) (fun K hK => ?_) ?_
                          · skip
                            refine step_app_mm (some 71) rfl Try.underlying28 infoInt rfl (by decide) (by decide) W5 _ seen.length (seen.map iv) (some ⟨c0.heap.size, 0, none⟩) 1 1 [.int .i64 nx] rfl _ _ rfl rfl own3W rfl rb3.cells rfl (by intro u hu; simp at hu; subst hu; rfl) n2 (by decide) f3 ?_
                            intro q4 c4 w4 own4 f4 hk4
                            have own2_4 := owns_hk own2_3 hk4 na
                            clear hk4
                            refine hK.out _ _ ?_ (fun hHeld => ?_)
                            · exact ⟨fkeep f4 hr0, fkeep f4 hr1⟩
                            clear hK K
                            try simp only [PU]
                            refine hd_done (by kernel_rfl) ?_
                            clear hHeld
                            simp only [List.drop_succ_cons, List.drop_zero]
                            have HC := Lib.hid (HNEXT.out q2 c2 q4 c4 w4 own2_4 own4 f4)
                            have HF4 := Lib.hid f4
                            clear own2_4 own4 f4
                            go_wp2_with fail
                            refine (HC.out).mono ?_
                            rintro e w6 ⟨rfl, hst6, hkp6⟩
                            have HST6 := Lib.hid hst6
                            have HKP6 := Lib.hid hkp6
                            clear hst6 hkp6 HC
                            go_wp2
                            go_roundw
                            case rel => exact ⟨j + 1, by omega, by go_num, HST6.out, (HKP.out.trans (KpS.fresh (fstep HF5.out HF4.out))).trans HKP6.out⟩
                            case measure => simp [intOf]; omega
                          exact hd_nil
                        exact hd_nil
                      exact hd_nil
                    exact hd_nil
                  exact hd_nil
                exact hd_nil
          · have hmz : ¬ (m : Int) ≤ 200 := by omega
            have HEND : Hid (keepTo (putL (ltC (cmpR n.fibers))) 200 acc ((partR n.fibers t k seen fs n.fibers.length).map fun L => (s, L)) = keepTo (putL (ltC (cmpR n.fibers))) 200 acc ((partR n.fibers t k seen fs j).map fun L => (s, L))) := by
              show _ = _
              obtain ⟨r, hr⟩ := partR_more n.fibers t k seen fs hj
              rw [hr, List.map_append, keepTo_app, keepTo_full (by rw [← HM.out]; exact hmm)]
            clear hkp
            go_wp2
            refine bodyPost_end (results_none rfl _ _ _) rfl ?_
            exact ⟨rfl, by rw [HEND.out]; exact HSR.out, (KpS.fresh HF2.out).trans HKP.out⟩
        · have hjn : j = n.fibers.length := by omega
          have hltz : ¬ (j : Int) < (n.fibers.length : Int) := by omega
          subst hjn
          clear hkp
          go_wp2
          refine bodyPost_end (results_none rfl _ _ _) rfl ?_
          exact ⟨rfl, HSR.out, (KpS.fresh HF2.out).trans HKP.out⟩
end Go.Proofs.Ytlapicgeokjpjaa
