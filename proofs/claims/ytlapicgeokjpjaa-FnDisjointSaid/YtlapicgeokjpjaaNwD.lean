/- Contracts: a network is drawn, the reference's side. (Printed by gen_nw.py.) -/
import Derived.Test.YtlapicgeokjpjaaNwP
import Derived.Test.YtlapicgeokjpjaaCu
import Derived.Test.YtlapicgeokjpjaaY3
import Derived.Test.YtlapicgeokjpjaaU5
namespace Go.Proofs.Ytlapicgeokjpjaa
open Go.RowKit Go.PlainAid

abbrev letS (b : UInt8) : Value := .string ⟨#[b]⟩
def six : List Value := [letS 97, letS 98, letS 99, letS 100, letS 101, letS 102]
/-- A network is handed back whose rows are the call's own. -/
def OutNw (w : World) (r : Nat) (cv : Value) (n : Int) (e : Ending) (w' : World) : Prop := ∃ (g k : Nat) (fp : Option Addr) (L : List Fib) (fc : Nat) (n' : Int), e = .returned (.agg #[.slice (some ⟨g, 0, none⟩) k 6, .slice fp L.length fc]) ∧ (2 ≤ k ∧ k ≤ 6) ∧ w.heap.size ≤ g ∧ RowAt w' g 9 six ∧
  w'.ownsRow w.heap.size 59 4 (.slice fp L.length fc) L.length (L.flatMap fibC) ∧ L.length ≤ 9 ∧ (∀ f ∈ L, FbS f) ∧ n ≤ n' ∧ n' ≤ n + 200 ∧ Cur w' r cv n' ∧ w.grownBy w' (some r)
theorem owns_grown {a b : World} {base size n r : Nat} {E : TypeId} {v : Value} {xs : List Value} (h : a.ownsRow base E size v n xs) (k : a.grownBy b (some r)) (hr : r < base) : b.ownsRow base E size v n xs := by
  obtain ⟨h1, h2 | ⟨g, cap, cur, hv, hb, hh, r1⟩⟩ := h
  · exact ⟨h1, Or.inl h2⟩
  · refine ⟨h1, Or.inr ⟨g, cap, cur, hv, hb, ?_, r1⟩⟩
    rw [k.block g (Array.getElem?_eq_some_iff.1 hh).1 (fun e => by cases e; omega)]
    exact hh
/-- The network under way, in its box. -/
structure NwSt (W0 w wr : World) (r : Nat) (cv : Value) (g k bN : Nat) (m : Int) (fp : Option Addr) (fc : Nat) (L : List Fib) : Prop where
  fr : Fresh W0 wr
  gr : w.grownBy wr (some r)
  cu : Cur wr r cv m
  nm : RowAt wr g 9 six
  bx : RowAt wr bN 27 [.slice (some ⟨g, 0, none⟩) k 6, .slice fp L.length fc]
  zr : RowAt wr w.heap.size 27 [.slice none 0 0, .slice none 0 0]
  ow : wr.ownsRow w.heap.size 59 4 (.slice fp L.length fc) L.length (L.flatMap fibC)
  ok : ∀ f ∈ L, FbS f
theorem NwSt.s1 {W0 w wr : World} {r : Nat} {cv : Value} {g k bN : Nat} {m : Int} {fp : Option Addr} {fc : Nat} {L : List Fib} (h : NwSt W0 w wr r cv g k bN m fp fc L) : wr.cell? ⟨bN, 1, none⟩ = some (.slice fp L.length fc) := h.bx.cell rfl
theorem NwSt.fresh {W0 w wr w' : World} {r : Nat} {cv : Value} {g k bN : Nat} {m : Int} {fp : Option Addr} {fc : Nat} {L : List Fib} (h : NwSt W0 w wr r cv g k bN m fp fc L) (hb : Fresh wr w') : NwSt W0 w w' r cv g k bN m fp fc L :=
  ⟨fstep h.fr hb, grownTrans h.gr (grownFresh hb _), h.cu.keep hb, h.nm.keep hb, h.bx.keep hb, h.zr.keep hb, ownsRow_keep h.ow hb, h.ok⟩
theorem NwSt.grown {W0 w wr w' : World} {r : Nat} {cv : Value} {g k bN : Nat} {m m' : Int} {fp : Option Addr} {fc : Nat} {L : List Fib} (h : NwSt W0 w wr r cv g k bN m fp fc L) (hrw : r < w.heap.size) (hwg : w.heap.size < g) (hwb : w.heap.size < bN) (hg : wr.grownBy w' (some r)) (hc : Cur w' r cv m') (hf : Fresh W0 w') : NwSt W0 w w' r cv g k bN m' fp fc L :=
  ⟨hf, grownTrans h.gr hg, hc, h.nm.grown hg (by omega), h.bx.grown hg (by omega), h.zr.grown hg (by omega), owns_grown h.ow hg hrw, h.ok⟩
theorem NwSt.put {W0 w wr : World} {r : Nat} {cv : Value} {g k bN : Nat} {m : Int} {fp fp' : Option Addr} {fc fc' : Nat} {L L' : List Fib} (h : NwSt W0 w wr r cv g k bN m fp fc L) (hW : W0.heap.size ≤ bN) (hrw : r < w.heap.size) (hwb : w.heap.size < bN) (hgb : g ≠ bN) (ho : wr.ownsRow w.heap.size 59 4 (.slice fp' L'.length fc') L'.length (L'.flatMap fibC)) (hk : ∀ f ∈ L', FbS f) :
    NwSt W0 w (wr.setCell ⟨bN, 1, none⟩ (.slice fp' L'.length fc')) r cv g k bN m fp' fc' L' :=
  ⟨fset h.fr hW _, grownOwn h.gr (grownSet _ _ _ _) (by omega), Cur.grown h.cu (grownSet _ _ _ _) (by omega), h.nm.setOther hgb _, h.bx.set 1 _, h.zr.setOther (by omega) _, owns_setO ho h.bx (by decide) 1, hk⟩
theorem l1Least_k (a b : Int) (w : World) : Calls Try.prog 51 #[.int .i64 a, .int .i64 b] w fun e w' => e = .returned (.int .i64 (min a b)) ∧ w = w' := by
  by_cases h : a < b
  · go_enter Try.func51, Try.ntmps51
    go_wp2
    go_ret
    exact ⟨by rw [Int.min_eq_left (by omega)]; rfl, rfl⟩
  · go_enter Try.func51, Try.ntmps51
    go_wp2
    go_ret
    exact ⟨by rw [Int.min_eq_right (by omega)]; rfl, rfl⟩
set_option maxHeartbeats 8000000 in
set_option maxRecDepth 100000 in
theorem network_any {W0 w : World} {r : Nat} {p : Option Addr} {cap : Nat} {xs : List Int} {n : Int} (hC : CodeAt W0 p xs) (hf : Fresh W0 w) (hr : W0.heap.size ≤ r) (h0 : 0 ≤ n) (h1 : n ≤ 137438953472) (hcur : Cur w r (.slice p xs.length cap) n) :
    Calls Try.prog 28 #[.pointer (some ⟨r, 0, none⟩)] w (OutNw w r (.slice p xs.length cap) n) := by
  have HX := Lib.hid hC
  have hrw : r < w.heap.size := by obtain ⟨_, hh⟩ := hcur; exact hh.lt
  obtain ⟨W1, hW1⟩ : ∃ W, W = w.alloc (.cells #[.slice none 0 0, .slice none 0 0] 27) := ⟨_, rfl⟩
  have hf1 : Fresh w W1 := by rw [hW1]; exact fnew (frefl _) _
  have hz1 : RowAt W1 w.heap.size 27 [.slice none 0 0, .slice none 0 0] := by rw [hW1]; exact RowAt.new _ _ _
  have f1 := fstep hf hf1
  have HC1 := Lib.hid (hcur.keep hf1)
  have HG1 := Lib.hid (grownFresh hf1 (some r))
  have HZ1 := Lib.hid hz1
  have HW1 := Lib.hid hW1
  clear hC hcur hW1 hz1 hf
  go_enter Try.func28, Try.ntmps28
  go_wp2_with fail
  rw [← HW1.out]
  refine (pick_any HX.out 5 f1 hr (by omega) (by omega) (by omega) HC1.out).mono ?_; rintro e w2 ⟨x2, n2, ⟨p2, q2⟩, rfl, a2, b2, hc2, hg2⟩
  have f2 := freshGrown f1 hg2 hr
  have HC2 := Lib.hid hc2
  have HG2 := Lib.hid (grownTrans HG1.out hg2)
  have HZ2 := Lib.hid (HZ1.out.grown hg2 (by omega))
  clear hc2 hg2
  obtain ⟨k, hk, hk2, hk6⟩ : ∃ m : Nat, 2 + x2 = (m : Int) ∧ 2 ≤ m ∧ m ≤ 6 := ⟨(2 + x2).toNat, by omega, by omega, by omega⟩
  have e1 : IntKind.i64.wrap (2 + x2) = (k : Int) := by rw [hk, IntKind.wrap_i64]; omega
  have hk6z : (k : Int) ≤ 6 := by omega
  clear hk p2 q2
  obtain ⟨g, hg⟩ : ∃ g, g = w2.heap.size := ⟨_, rfl⟩
  obtain ⟨W3, hW3⟩ : ∃ W, W = (w2.alloc (.cells #[letS 97, letS 98, letS 99, letS 100, letS 101, letS 102] 9)).alloc (.cells #[.slice (some ⟨g, 0, none⟩) k 6, .slice none 0 0] 27) := ⟨_, rfl⟩
  have hf3 : Fresh w2 W3 := by rw [hW3]; exact fnew (fnew (frefl _) _) _
  have hr3 : RowAt W3 g 9 six := by rw [hW3, hg]; exact (RowAt.new _ _ six).alloc _
  have hb3 : RowAt W3 (g + 1) 27 [.slice (some ⟨g, 0, none⟩) k 6, .slice none 0 0] := by
    rw [hW3, hg]
    have := RowAt.new (w2.alloc (.cells #[letS 97, letS 98, letS 99, letS 100, letS 101, letS 102] 9)) 27 [.slice (some ⟨w2.heap.size, 0, none⟩) k 6, .slice none 0 0]
    simpa using this
  have hwg : w.heap.size < g := by rw [hg]; exact HZ2.out.lt
  have HST0 : Hid (NwSt W0 w W3 r (.slice p xs.length cap) g k (g + 1) n2 none 0 []) := ⟨fstep f2 hf3, grownTrans HG2.out (grownFresh hf3 _), HC2.out.keep hf3, hr3, hb3, HZ2.out.keep hf3, ⟨rfl, Or.inl ⟨rfl, rfl⟩⟩, by simp⟩
  have HZ3 := Lib.hid (HZ2.out.keep hf3)
  have HW3 := Lib.hid hW3
  have HGG := Lib.hid hg
  clear hf3 hr3 hb3 hW3 hg f1 f2
  go_upto_region 3 with fail
  rw [← HGG.out, ← HW3.out]
  obtain ⟨bN, hbN⟩ : ∃ b, b = g + 1 := ⟨_, rfl⟩
  rw [← hbN] at HST0 ⊢
  have hwb : w.heap.size < bN := by omega
  have hW0b : W0.heap.size ≤ bN := by omega
  have hgb : g ≠ bN := by omega
  clear hbN HZ3 HZ2 HC2 HG2 HZ1 HC1 HG1
  go_wp2
  go_loopw [5] (fun i wr => ∃ (j : Nat) (L : List Fib) (fp : Option Addr) (fc : Nat) (m : Int), j ≤ k ∧ i = .int .i64 j ∧ L.length ≤ j ∧ n ≤ m ∧ m ≤ n + 2 + 10 * (j : Int) ∧ NwSt W0 w wr r (.slice p xs.length cap) g k bN m fp fc L) (fun i _ => k - (intOf i).toNat)
  case atStart => exact ⟨0, [], none, 0, n2, Nat.zero_le _, rfl, Nat.le_refl _, a2, by omega, HST0.out⟩
  case round =>
    obtain ⟨j, L, fp, fc, m, hj, rfl, hL, m0, m1, st⟩ := hrel
    have HST := Lib.hid st
    clear st
    by_cases hlt : j < k
    · have hltz : (j : Int) < (k : Int) := by omega
      obtain ⟨v, hv⟩ : ∃ v : Nat, v = (j + 1) % k := ⟨_, rfl⟩
      have hvk : v < k := by rw [hv]; exact Nat.mod_lt _ (by omega)
      have hvj : v ≠ j := by
        rcases Nat.lt_or_ge (j + 1) k with h | h
        · rw [hv, Nat.mod_eq_of_lt h]; omega
        · rw [hv, show j + 1 = k by omega, Nat.mod_self]; omega
      have w1 : IntKind.i64.wrap ((j : Int) + 1) = (j : Int) + 1 := by rw [IntKind.wrap_i64]; omega
      have w2' : ((j : Int) + 1).tmod (k : Int) = (v : Int) := by rw [hv, show (j : Int) + 1 = ((j + 1 : Nat) : Int) by omega, Int.tmod_eq_emod_of_nonneg (by omega), ← Int.natCast_emod]
      have hkz : ¬ ((k : Int) = 0) := by omega
      have hjv : ((j : Int) == (v : Int)) = false := by rw [beq_eq_false_iff_ne]; omega
      clear hv
      go_wp2_with fail
      refine (one_any HX.out 10 HST.out.fr hr (by omega) (by omega) (by omega) HST.out.cu).mono ?_
      rintro e w5 ⟨bo, n5, rfl, a5, b5, hc5, hg5⟩
      have st5 := HST.out.grown hrw hwg hwb hg5 hc5 (freshGrown HST.out.fr hg5 hr)
      have HST5 := Lib.hid st5
      clear hc5 hg5 st5
      cases bo
      · skip
        go_upto_region 8 with fail
        have st5 := HST5.out
        refine hd_start (n := 18) (S := fun w' => w'.cell? ⟨bN, 1, none⟩ = some (.slice fp L.length fc)) (by kernel_rfl) (by kernel_rfl) (fkeep (fdrew (frefl _)) st5.s1) (fun hHeld => ?_)
        obtain ⟨c0, hc0⟩ : ∃ W, W = w5.drew := ⟨_, rfl⟩
        rw [← hc0] at hHeld ⊢
        have stc := st5.fresh (show Fresh w5 c0 by rw [hc0]; exact fdrew (frefl _))
        clear hc0
        refine hd_tk (i := 0) (v := ?_) rfl ?_ ?_
        rotate_left
        · (intro w hSw; (try dsimp only at hSw); go_simp; first | done | with_reducible rfl)
        try simp only [PU]
        refine hd_tk (i := 1) (v := ?_) rfl ?_ ?_
        rotate_left
        · (intro w hSw; (try dsimp only at hSw); go_simp; first | done | with_reducible rfl)
        try simp only [PU]
        refine hd_tk (i := 2) (v := ?_) rfl ?_ ?_
        rotate_left
        · (intro w hSw; (try dsimp only at hSw); go_simp; first | done | with_reducible rfl)
        try simp only [PU]
        refine hd_tk (i := 3) (v := ?_) rfl ?_ ?_
        rotate_left
        · (intro w hSw; (try dsimp only at hSw); go_simp; first | done | with_reducible rfl)
        try simp only [PU]
        refine hd_tk (i := 5) (v := ?_) rfl ?_ ?_
        rotate_left
        · (intro w hSw; (try dsimp only at hSw); go_simp; first | done | with_reducible rfl)
        try simp only [PU]
        refine hd_tk (i := 6) (v := ?_) rfl ?_ ?_
        rotate_left
        · (intro w hSw; (try dsimp only at hSw); go_simp; first | done | with_reducible rfl)
        try simp only [PU]
        refine hd_tk (i := 8) (v := ?_) rfl ?_ ?_
        rotate_left
        · (intro w hSw; (try dsimp only at hSw); go_simp; first | done | with_reducible rfl)
        try simp only [PU]
        refine hd_tk (i := 12) (v := ?_) rfl ?_ ?_
        rotate_left
        · (intro w hSw; (try dsimp only at hSw); go_simp; first | done | with_reducible rfl)
        try simp only [PU]
        refine hd_ready (rs := [4, 13]) (by kernel_rfl) (by simp) ?_
        refine hd_cons (i := 4) rfl (by kernel_rfl) (fun K hK => ?_) ?_
        · skip
          go_simp
          go_at_call 51
          refine (l1Least_k _ _ _).mono ?_
          rintro e _ ⟨rfl, rfl⟩
          go_wp2_with fail
          refine hK.out _ _ ?_ (fun hHeld => ?_)
          · exact stc.s1
          clear hK K
          try simp only [PU]
          refine hd_ready (rs := [7, 13]) (by kernel_rfl) (by simp) ?_
          refine hd_cons (i := 7) rfl (by kernel_rfl) (fun K hK => ?_) ?_
          · skip
            go_simp
            go_at_call 52
            refine (l1Most_k _ _ _).mono ?_
            rintro e _ ⟨rfl, rfl⟩
            go_wp2_with fail
            refine hK.out _ _ ?_ (fun hHeld => ?_)
            · exact stc.s1
            clear hK K
            try simp only [PU]
            refine hd_ready (rs := [9, 13]) (by kernel_rfl) (by simp) ?_
            refine hd_cons (i := 9) rfl (by kernel_rfl) (fun K hK => ?_) ?_
            · skip
              go_simp
              go_at_call 16
              refine (pick_any HX.out 8 stc.fr hr (by omega) (by omega) (by omega) stc.cu).mono ?_
              rintro e v1 ⟨x9, n9, ⟨p9, q9⟩, rfl, a9, b9, hc9, hg9⟩
              have st2 := stc.grown hrw hwg hwb hg9 hc9 (freshGrown stc.fr hg9 hr)
              have w9a : IntKind.i64.wrap (1 + x9) = 1 + x9 := by rw [IntKind.wrap_i64]; omega
              have w9b : IntKind.i64.wrap (100 * (1 + x9)) = 100 * (1 + x9) := by rw [IntKind.wrap_i64]; omega
              clear hc9 hg9
              go_wp2_with fail
              refine hK.out _ _ ?_ (fun hHeld => ?_)
              · exact st2.s1
              clear hK K
              try simp only [PU]
              refine hd_tk (i := 10) (v := ?_) rfl ?_ ?_
              rotate_left
              · (intro w hSw; (try dsimp only at hSw); go_simp; first | done | with_reducible rfl)
              try simp only [PU]
              refine hd_tk (i := 11) (v := ?_) rfl ?_ ?_
              rotate_left
              · (intro w hSw; (try dsimp only at hSw); go_simp; first | done | with_reducible rfl)
              try simp only [PU]
              refine hd_one (i := 13) rfl (by kernel_rfl) (by kernel_rfl) (fun K hK => ?_)
              go_simp
              obtain ⟨v3, hwa⟩ : ∃ W, W = v1.alloc (.cells #[.int .i64 0, .int .i64 0, .int .i64 0, .int .i64 1, .int .i64 2] 3) := ⟨_, rfl⟩
              rw [← hwa]
              obtain ⟨q13, hqe⟩ : ∃ q, q = v1.heap.size := ⟨_, rfl⟩
              have r13 : RowAt v3 q13 3 ([0, 0, 0, 1, 2].map iv) := by rw [hwa, hqe]; exact RowAt.new _ _ _
              have hq13 : q13 ≠ r := by have := st2.gr.size; omega
              have st4 := st2.fresh (show Fresh v1 v3 by rw [hwa]; exact fnew (frefl _) _)
              rw [← hqe]
              clear hwa hqe
              refine hK.out _ _ ?_ (fun hHeld => ?_)
              · exact st4.s1
              clear hK K
              try simp only [PU]
              refine hd_one (i := 14) rfl (by kernel_rfl) (by kernel_rfl) (fun K hK => ?_)
              go_simp
              go_at_call 30
              refine (among_any HX.out (some ⟨q13, 0, none⟩) 5 [0, 0, 0, 1, 2] r13.cells (by simp) (fun b o e => by cases e; exact hq13) st4.fr hr (by omega) (by omega) (by simp) st4.cu).mono ?_
              rintro e v5 ⟨z14, n14, hz14, rfl, a14, b14, hc14, hg14⟩
              have st6 := st4.grown hrw hwg hwb hg14 hc14 (freshGrown st4.fr hg14 hr)
              have z14b : 0 ≤ z14 ∧ z14 ≤ 2 := by simp at hz14; omega
              clear hc14 hg14 hz14
              go_wp2_with fail
              refine hK.out _ _ ?_ (fun hHeld => ?_)
              · exact st6.s1
              clear hK K
              try simp only [PU]
              refine hd_tk (i := 15) (v := ?_) rfl ?_ ?_
              rotate_left
              · (intro w hSw; (try dsimp only at hSw); go_simp; first | done | with_reducible rfl)
              try simp only [PU]
              refine hd_one (i := 16) rfl (by kernel_rfl) (by kernel_rfl) (fun K hK => ?_)
              go_simp
              go_at_call 50
              refine (l2Put_any w.heap.size fp fc L (min (j : Int) (v : Int)) (max (j : Int) (v : Int)) (100 * (1 + x9)) z14 _ st6.ow (by omega) st6.ok ⟨by unfold Ab; dsimp only; omega, by unfold Ab; dsimp only; omega, by unfold Ab; dsimp only; omega, by unfold Ab; dsimp only; omega⟩).mono ?_
              rintro e v7 ⟨q16, c16, L16, rfl, hl16, hk16, ho16, hf16⟩
              have hl17 : L16.length ≤ L.length + 1 := by omega
              clear hl16
              have stz := st6.fresh hf16
              have ho17 := owns_mono ho16 st6.gr.size
              go_wp2_with fail
              refine hK.out _ _ ?_ (fun hHeld => ?_)
              · exact stz.s1
              clear hK K
              try simp only [PU]
              refine hd_tk (i := 17) (v := ?_) rfl ?_ ?_
              rotate_left
              · (intro w hSw; (try dsimp only at hSw); go_simp; first | done | with_reducible rfl)
              try simp only [PU]
              refine hd_done (by kernel_rfl) ?_
              clear hHeld
              simp only [List.drop_succ_cons, List.drop_zero]
              have stp := stz.put hW0b hrw hwb hgb ho17 hk16
              have y1 := stz.s1
              have yf := stz.bx.frozen 1
              have HSP := Lib.hid stp
              clear stp ho16 ho17 hk16 stz
              go_wp2
              go_roundw
              case rel => exact ⟨j + 1, L16, q16, c16, n14, by omega, by go_num, by omega, by omega, by omega, HSP.out⟩
              case measure => simp [intOf]; omega
            refine hd_cons (i := 13) rfl (by kernel_rfl) (fun K hK => ?_) ?_
            · skip
              go_simp
              obtain ⟨v8, hwa⟩ : ∃ W, W = c0.alloc (.cells #[.int .i64 0, .int .i64 0, .int .i64 0, .int .i64 1, .int .i64 2] 3) := ⟨_, rfl⟩
              rw [← hwa]
              obtain ⟨q13, hqe⟩ : ∃ q, q = c0.heap.size := ⟨_, rfl⟩
              have r13 : RowAt v8 q13 3 ([0, 0, 0, 1, 2].map iv) := by rw [hwa, hqe]; exact RowAt.new _ _ _
              have hq13 : q13 ≠ r := by have := stc.gr.size; omega
              have st9 := stc.fresh (show Fresh c0 v8 by rw [hwa]; exact fnew (frefl _) _)
              rw [← hqe]
              clear hwa hqe
              refine hK.out _ _ ?_ (fun hHeld => ?_)
              · exact st9.s1
              clear hK K
              try simp only [PU]
              refine hd_one (i := 9) rfl (by kernel_rfl) (by kernel_rfl) (fun K hK => ?_)
              go_simp
              go_at_call 16
              refine (pick_any HX.out 8 st9.fr hr (by omega) (by omega) (by omega) st9.cu).mono ?_
              rintro e v10 ⟨x9, n9, ⟨p9, q9⟩, rfl, a9, b9, hc9, hg9⟩
              have st11 := st9.grown hrw hwg hwb hg9 hc9 (freshGrown st9.fr hg9 hr)
              have r13b := r13.grown hg9 hq13
              have w9a : IntKind.i64.wrap (1 + x9) = 1 + x9 := by rw [IntKind.wrap_i64]; omega
              have w9b : IntKind.i64.wrap (100 * (1 + x9)) = 100 * (1 + x9) := by rw [IntKind.wrap_i64]; omega
              clear hc9 hg9
              go_wp2_with fail
              refine hK.out _ _ ?_ (fun hHeld => ?_)
              · exact st11.s1
              clear hK K
              try simp only [PU]
              refine hd_tk (i := 10) (v := ?_) rfl ?_ ?_
              rotate_left
              · (intro w hSw; (try dsimp only at hSw); go_simp; first | done | with_reducible rfl)
              try simp only [PU]
              refine hd_tk (i := 11) (v := ?_) rfl ?_ ?_
              rotate_left
              · (intro w hSw; (try dsimp only at hSw); go_simp; first | done | with_reducible rfl)
              try simp only [PU]
              refine hd_one (i := 14) rfl (by kernel_rfl) (by kernel_rfl) (fun K hK => ?_)
              go_simp
              go_at_call 30
              refine (among_any HX.out (some ⟨q13, 0, none⟩) 5 [0, 0, 0, 1, 2] r13b.cells (by simp) (fun b o e => by cases e; exact hq13) st11.fr hr (by omega) (by omega) (by simp) st11.cu).mono ?_
              rintro e v12 ⟨z14, n14, hz14, rfl, a14, b14, hc14, hg14⟩
              have st13 := st11.grown hrw hwg hwb hg14 hc14 (freshGrown st11.fr hg14 hr)
              have z14b : 0 ≤ z14 ∧ z14 ≤ 2 := by simp at hz14; omega
              clear hc14 hg14 hz14
              go_wp2_with fail
              refine hK.out _ _ ?_ (fun hHeld => ?_)
              · exact st13.s1
              clear hK K
              try simp only [PU]
              refine hd_tk (i := 15) (v := ?_) rfl ?_ ?_
              rotate_left
              · (intro w hSw; (try dsimp only at hSw); go_simp; first | done | with_reducible rfl)
              try simp only [PU]
              refine hd_one (i := 16) rfl (by kernel_rfl) (by kernel_rfl) (fun K hK => ?_)
              go_simp
              go_at_call 50
              refine (l2Put_any w.heap.size fp fc L (min (j : Int) (v : Int)) (max (j : Int) (v : Int)) (100 * (1 + x9)) z14 _ st13.ow (by omega) st13.ok ⟨by unfold Ab; dsimp only; omega, by unfold Ab; dsimp only; omega, by unfold Ab; dsimp only; omega, by unfold Ab; dsimp only; omega⟩).mono ?_
              rintro e v14 ⟨q16, c16, L16, rfl, hl16, hk16, ho16, hf16⟩
              have hl17 : L16.length ≤ L.length + 1 := by omega
              clear hl16
              have stz := st13.fresh hf16
              have ho17 := owns_mono ho16 st13.gr.size
              go_wp2_with fail
              refine hK.out _ _ ?_ (fun hHeld => ?_)
              · exact stz.s1
              clear hK K
              try simp only [PU]
              refine hd_tk (i := 17) (v := ?_) rfl ?_ ?_
              rotate_left
              · (intro w hSw; (try dsimp only at hSw); go_simp; first | done | with_reducible rfl)
              try simp only [PU]
              refine hd_done (by kernel_rfl) ?_
              clear hHeld
              simp only [List.drop_succ_cons, List.drop_zero]
              have stp := stz.put hW0b hrw hwb hgb ho17 hk16
              have y1 := stz.s1
              have yf := stz.bx.frozen 1
              have HSP := Lib.hid stp
              clear stp ho16 ho17 hk16 stz
              go_wp2
              go_roundw
              case rel => exact ⟨j + 1, L16, q16, c16, n14, by omega, by go_num, by omega, by omega, by omega, HSP.out⟩
              case measure => simp [intOf]; omega
            exact hd_nil
          refine hd_cons (i := 13) rfl (by kernel_rfl) (fun K hK => ?_) ?_
          · skip
            go_simp
            obtain ⟨v15, hwa⟩ : ∃ W, W = c0.alloc (.cells #[.int .i64 0, .int .i64 0, .int .i64 0, .int .i64 1, .int .i64 2] 3) := ⟨_, rfl⟩
            rw [← hwa]
            obtain ⟨q13, hqe⟩ : ∃ q, q = c0.heap.size := ⟨_, rfl⟩
            have r13 : RowAt v15 q13 3 ([0, 0, 0, 1, 2].map iv) := by rw [hwa, hqe]; exact RowAt.new _ _ _
            have hq13 : q13 ≠ r := by have := stc.gr.size; omega
            have st16 := stc.fresh (show Fresh c0 v15 by rw [hwa]; exact fnew (frefl _) _)
            rw [← hqe]
            clear hwa hqe
            refine hK.out _ _ ?_ (fun hHeld => ?_)
            · exact st16.s1
            clear hK K
            try simp only [PU]
            refine hd_one (i := 7) rfl (by kernel_rfl) (by kernel_rfl) (fun K hK => ?_)
            go_simp
            go_at_call 52
            refine (l1Most_k _ _ _).mono ?_
            rintro e _ ⟨rfl, rfl⟩
            go_wp2_with fail
            refine hK.out _ _ ?_ (fun hHeld => ?_)
            · exact st16.s1
            clear hK K
            try simp only [PU]
            refine hd_one (i := 9) rfl (by kernel_rfl) (by kernel_rfl) (fun K hK => ?_)
            go_simp
            go_at_call 16
            refine (pick_any HX.out 8 st16.fr hr (by omega) (by omega) (by omega) st16.cu).mono ?_
            rintro e v17 ⟨x9, n9, ⟨p9, q9⟩, rfl, a9, b9, hc9, hg9⟩
            have st18 := st16.grown hrw hwg hwb hg9 hc9 (freshGrown st16.fr hg9 hr)
            have r13b := r13.grown hg9 hq13
            have w9a : IntKind.i64.wrap (1 + x9) = 1 + x9 := by rw [IntKind.wrap_i64]; omega
            have w9b : IntKind.i64.wrap (100 * (1 + x9)) = 100 * (1 + x9) := by rw [IntKind.wrap_i64]; omega
            clear hc9 hg9
            go_wp2_with fail
            refine hK.out _ _ ?_ (fun hHeld => ?_)
            · exact st18.s1
            clear hK K
            try simp only [PU]
            refine hd_tk (i := 10) (v := ?_) rfl ?_ ?_
            rotate_left
            · (intro w hSw; (try dsimp only at hSw); go_simp; first | done | with_reducible rfl)
            try simp only [PU]
            refine hd_tk (i := 11) (v := ?_) rfl ?_ ?_
            rotate_left
            · (intro w hSw; (try dsimp only at hSw); go_simp; first | done | with_reducible rfl)
            try simp only [PU]
            refine hd_one (i := 14) rfl (by kernel_rfl) (by kernel_rfl) (fun K hK => ?_)
            go_simp
            go_at_call 30
            refine (among_any HX.out (some ⟨q13, 0, none⟩) 5 [0, 0, 0, 1, 2] r13b.cells (by simp) (fun b o e => by cases e; exact hq13) st18.fr hr (by omega) (by omega) (by simp) st18.cu).mono ?_
            rintro e v19 ⟨z14, n14, hz14, rfl, a14, b14, hc14, hg14⟩
            have st20 := st18.grown hrw hwg hwb hg14 hc14 (freshGrown st18.fr hg14 hr)
            have z14b : 0 ≤ z14 ∧ z14 ≤ 2 := by simp at hz14; omega
            clear hc14 hg14 hz14
            go_wp2_with fail
            refine hK.out _ _ ?_ (fun hHeld => ?_)
            · exact st20.s1
            clear hK K
            try simp only [PU]
            refine hd_tk (i := 15) (v := ?_) rfl ?_ ?_
            rotate_left
            · (intro w hSw; (try dsimp only at hSw); go_simp; first | done | with_reducible rfl)
            try simp only [PU]
            refine hd_one (i := 16) rfl (by kernel_rfl) (by kernel_rfl) (fun K hK => ?_)
            go_simp
            go_at_call 50
            refine (l2Put_any w.heap.size fp fc L (min (j : Int) (v : Int)) (max (j : Int) (v : Int)) (100 * (1 + x9)) z14 _ st20.ow (by omega) st20.ok ⟨by unfold Ab; dsimp only; omega, by unfold Ab; dsimp only; omega, by unfold Ab; dsimp only; omega, by unfold Ab; dsimp only; omega⟩).mono ?_
            rintro e v21 ⟨q16, c16, L16, rfl, hl16, hk16, ho16, hf16⟩
            have hl17 : L16.length ≤ L.length + 1 := by omega
            clear hl16
            have stz := st20.fresh hf16
            have ho17 := owns_mono ho16 st20.gr.size
            go_wp2_with fail
            refine hK.out _ _ ?_ (fun hHeld => ?_)
            · exact stz.s1
            clear hK K
            try simp only [PU]
            refine hd_tk (i := 17) (v := ?_) rfl ?_ ?_
            rotate_left
            · (intro w hSw; (try dsimp only at hSw); go_simp; first | done | with_reducible rfl)
            try simp only [PU]
            refine hd_done (by kernel_rfl) ?_
            clear hHeld
            simp only [List.drop_succ_cons, List.drop_zero]
            have stp := stz.put hW0b hrw hwb hgb ho17 hk16
            have y1 := stz.s1
            have yf := stz.bx.frozen 1
            have HSP := Lib.hid stp
            clear stp ho16 ho17 hk16 stz
            go_wp2
            go_roundw
            case rel => exact ⟨j + 1, L16, q16, c16, n14, by omega, by go_num, by omega, by omega, by omega, HSP.out⟩
            case measure => simp [intOf]; omega
          exact hd_nil
        refine hd_cons (i := 13) rfl (by kernel_rfl) (fun K hK => ?_) ?_
        · skip
          go_simp
          obtain ⟨v22, hwa⟩ : ∃ W, W = c0.alloc (.cells #[.int .i64 0, .int .i64 0, .int .i64 0, .int .i64 1, .int .i64 2] 3) := ⟨_, rfl⟩
          rw [← hwa]
          obtain ⟨q13, hqe⟩ : ∃ q, q = c0.heap.size := ⟨_, rfl⟩
          have r13 : RowAt v22 q13 3 ([0, 0, 0, 1, 2].map iv) := by rw [hwa, hqe]; exact RowAt.new _ _ _
          have hq13 : q13 ≠ r := by have := stc.gr.size; omega
          have st23 := stc.fresh (show Fresh c0 v22 by rw [hwa]; exact fnew (frefl _) _)
          rw [← hqe]
          clear hwa hqe
          refine hK.out _ _ ?_ (fun hHeld => ?_)
          · exact st23.s1
          clear hK K
          try simp only [PU]
          refine hd_one (i := 4) rfl (by kernel_rfl) (by kernel_rfl) (fun K hK => ?_)
          go_simp
          go_at_call 51
          refine (l1Least_k _ _ _).mono ?_
          rintro e _ ⟨rfl, rfl⟩
          go_wp2_with fail
          refine hK.out _ _ ?_ (fun hHeld => ?_)
          · exact st23.s1
          clear hK K
          try simp only [PU]
          refine hd_one (i := 7) rfl (by kernel_rfl) (by kernel_rfl) (fun K hK => ?_)
          go_simp
          go_at_call 52
          refine (l1Most_k _ _ _).mono ?_
          rintro e _ ⟨rfl, rfl⟩
          go_wp2_with fail
          refine hK.out _ _ ?_ (fun hHeld => ?_)
          · exact st23.s1
          clear hK K
          try simp only [PU]
          refine hd_one (i := 9) rfl (by kernel_rfl) (by kernel_rfl) (fun K hK => ?_)
          go_simp
          go_at_call 16
          refine (pick_any HX.out 8 st23.fr hr (by omega) (by omega) (by omega) st23.cu).mono ?_
          rintro e v24 ⟨x9, n9, ⟨p9, q9⟩, rfl, a9, b9, hc9, hg9⟩
          have st25 := st23.grown hrw hwg hwb hg9 hc9 (freshGrown st23.fr hg9 hr)
          have r13b := r13.grown hg9 hq13
          have w9a : IntKind.i64.wrap (1 + x9) = 1 + x9 := by rw [IntKind.wrap_i64]; omega
          have w9b : IntKind.i64.wrap (100 * (1 + x9)) = 100 * (1 + x9) := by rw [IntKind.wrap_i64]; omega
          clear hc9 hg9
          go_wp2_with fail
          refine hK.out _ _ ?_ (fun hHeld => ?_)
          · exact st25.s1
          clear hK K
          try simp only [PU]
          refine hd_tk (i := 10) (v := ?_) rfl ?_ ?_
          rotate_left
          · (intro w hSw; (try dsimp only at hSw); go_simp; first | done | with_reducible rfl)
          try simp only [PU]
          refine hd_tk (i := 11) (v := ?_) rfl ?_ ?_
          rotate_left
          · (intro w hSw; (try dsimp only at hSw); go_simp; first | done | with_reducible rfl)
          try simp only [PU]
          refine hd_one (i := 14) rfl (by kernel_rfl) (by kernel_rfl) (fun K hK => ?_)
          go_simp
          go_at_call 30
          refine (among_any HX.out (some ⟨q13, 0, none⟩) 5 [0, 0, 0, 1, 2] r13b.cells (by simp) (fun b o e => by cases e; exact hq13) st25.fr hr (by omega) (by omega) (by simp) st25.cu).mono ?_
          rintro e v26 ⟨z14, n14, hz14, rfl, a14, b14, hc14, hg14⟩
          have st27 := st25.grown hrw hwg hwb hg14 hc14 (freshGrown st25.fr hg14 hr)
          have z14b : 0 ≤ z14 ∧ z14 ≤ 2 := by simp at hz14; omega
          clear hc14 hg14 hz14
          go_wp2_with fail
          refine hK.out _ _ ?_ (fun hHeld => ?_)
          · exact st27.s1
          clear hK K
          try simp only [PU]
          refine hd_tk (i := 15) (v := ?_) rfl ?_ ?_
          rotate_left
          · (intro w hSw; (try dsimp only at hSw); go_simp; first | done | with_reducible rfl)
          try simp only [PU]
          refine hd_one (i := 16) rfl (by kernel_rfl) (by kernel_rfl) (fun K hK => ?_)
          go_simp
          go_at_call 50
          refine (l2Put_any w.heap.size fp fc L (min (j : Int) (v : Int)) (max (j : Int) (v : Int)) (100 * (1 + x9)) z14 _ st27.ow (by omega) st27.ok ⟨by unfold Ab; dsimp only; omega, by unfold Ab; dsimp only; omega, by unfold Ab; dsimp only; omega, by unfold Ab; dsimp only; omega⟩).mono ?_
          rintro e v28 ⟨q16, c16, L16, rfl, hl16, hk16, ho16, hf16⟩
          have hl17 : L16.length ≤ L.length + 1 := by omega
          clear hl16
          have stz := st27.fresh hf16
          have ho17 := owns_mono ho16 st27.gr.size
          go_wp2_with fail
          refine hK.out _ _ ?_ (fun hHeld => ?_)
          · exact stz.s1
          clear hK K
          try simp only [PU]
          refine hd_tk (i := 17) (v := ?_) rfl ?_ ?_
          rotate_left
          · (intro w hSw; (try dsimp only at hSw); go_simp; first | done | with_reducible rfl)
          try simp only [PU]
          refine hd_done (by kernel_rfl) ?_
          clear hHeld
          simp only [List.drop_succ_cons, List.drop_zero]
          have stp := stz.put hW0b hrw hwb hgb ho17 hk16
          have y1 := stz.s1
          have yf := stz.bx.frozen 1
          have HSP := Lib.hid stp
          clear stp ho16 ho17 hk16 stz
          go_wp2
          go_roundw
          case rel => exact ⟨j + 1, L16, q16, c16, n14, by omega, by go_num, by omega, by omega, by omega, HSP.out⟩
          case measure => simp [intOf]; omega
        exact hd_nil
      · go_wp2
        go_roundw
        case rel => exact ⟨j + 1, L, fp, fc, n5, by omega, by go_num, by omega, by omega, by omega, HST5.out⟩
        case measure => simp [intOf]; omega
    · have hjk : j = k := by omega
      have hltz : ¬ (j : Int) < (k : Int) := by omega
      go_wp2_with fail
      refine (pick_any HX.out 4 HST.out.fr hr (by omega) (by omega) (by omega) HST.out.cu).mono ?_
      rintro e w6 ⟨x6, n6, ⟨p6, q6⟩, rfl, a6, b6, hc6, hg6⟩
      have HST6 := Lib.hid (HST.out.grown hrw hwg hwb hg6 hc6 (freshGrown HST.out.fr hg6 hr))
      obtain ⟨M, rfl⟩ : ∃ M : Nat, x6 = (M : Int) := ⟨x6.toNat, by omega⟩
      have hM : M ≤ 3 := by omega
      have hL6 : L.length ≤ 6 := by omega
      have n6b : n6 ≤ n + 64 := by omega
      have n6a : n ≤ n6 := by omega
      clear hc6 hg6 HST hjk hltz p6 q6 a6 b6 m0 m1 hL hj
      go_wp2
      go_loopw [7] (fun i wr => ∃ (t : Nat) (L : List Fib) (fp : Option Addr) (fc : Nat) (m : Int), t ≤ 3 ∧ i = .int .i64 t ∧ L.length + t ≤ 9 ∧ n ≤ m ∧ m ≤ n + 100 - 10 * (t : Int) ∧ NwSt W0 w wr r (.slice p xs.length cap) g k bN m fp fc L) (fun i _ => (intOf i).toNat)
      case atStart => exact ⟨M, L, fp, fc, n6, hM, rfl, by omega, n6a, by omega, HST6.out⟩
      case round =>
        obtain ⟨t, L, fp, fc, m, ht, rfl, hL, m0, m1, st⟩ := hrel
        have HST := Lib.hid st
        clear st HST6 hL6 n6a n6b
        by_cases ht0 : 0 < t
        · have htz : (0 : Int) < (t : Int) := by omega
          obtain ⟨s, rfl⟩ : ∃ s, t = s + 1 := ⟨t - 1, by omega⟩
          have hsw : IntKind.i64.wrap (((s + 1 : Nat) : Int) - 1) = (s : Int) := by rw [IntKind.wrap_i64]; omega
          obtain ⟨tz, htzz⟩ : ∃ z : Int, z = ((s + 1 : Nat) : Int) := ⟨_, rfl⟩
          rw [← htzz] at htz hsw m1 ⊢
          go_wp2_with fail
          refine (pick_any HX.out (k : Int) HST.out.fr hr (by omega) (by omega) (by omega) HST.out.cu).mono ?_
          rintro e w7 ⟨x7, n7, ⟨p7, q7⟩, rfl, a7, b7, hc7, hg7⟩
          have HST7 := Lib.hid (HST.out.grown hrw hwg hwb hg7 hc7 (freshGrown HST.out.fr hg7 hr))
          clear hc7 hg7
          go_wp2_with fail
          refine (pick_any HX.out (k : Int) HST7.out.fr hr (by omega) (by omega) (by omega) HST7.out.cu).mono ?_
          rintro e w8 ⟨x8, n8, ⟨p8, q8⟩, rfl, a8, b8, hc8, hg8⟩
          have HST8 := Lib.hid (HST7.out.grown hrw hwg hwb hg8 hc8 (freshGrown HST7.out.fr hg8 hr))
          clear hc8 hg8
          have x7b : 0 ≤ x7 ∧ x7 ≤ 6 := by omega
          have x8b : 0 ≤ x8 ∧ x8 ≤ 6 := by omega
          clear p7 q7 p8 q8
          by_cases hxx : x7 = x8
          · have hne : (!(x7 == x8)) = false := by simp [hxx]
            have hne2 : (x7 != x8) = false := by simp [hxx]
            go_wp2
            go_roundw
            case rel => exact ⟨s, L, fp, fc, n8, by omega, by go_num, by omega, by omega, by omega, HST8.out⟩
            case measure => simp [intOf]; omega
          · have hne : (!(x7 == x8)) = true := by simp [hxx]
            have hne2 : (x7 != x8) = true := by simp [hxx]
            go_upto_region 14 with fail
            have st8 := HST8.out
            refine hd_start (n := 18) (S := fun w' => w'.cell? ⟨bN, 1, none⟩ = some (.slice fp L.length fc)) (by kernel_rfl) (by kernel_rfl) (fkeep (fdrew (frefl _)) st8.s1) (fun hHeld => ?_)
            obtain ⟨c0, hc0⟩ : ∃ W, W = w8.drew := ⟨_, rfl⟩
            rw [← hc0] at hHeld ⊢
            have stc := st8.fresh (show Fresh w8 c0 by rw [hc0]; exact fdrew (frefl _))
            clear hc0
            refine hd_tk (i := 0) (v := ?_) rfl ?_ ?_
            rotate_left
            · (intro w hSw; (try dsimp only at hSw); go_simp; first | done | with_reducible rfl)
            try simp only [PU]
            refine hd_tk (i := 1) (v := ?_) rfl ?_ ?_
            rotate_left
            · (intro w hSw; (try dsimp only at hSw); go_simp; first | done | with_reducible rfl)
            try simp only [PU]
            refine hd_tk (i := 2) (v := ?_) rfl ?_ ?_
            rotate_left
            · (intro w hSw; (try dsimp only at hSw); go_simp; first | done | with_reducible rfl)
            try simp only [PU]
            refine hd_tk (i := 3) (v := ?_) rfl ?_ ?_
            rotate_left
            · (intro w hSw; (try dsimp only at hSw); go_simp; first | done | with_reducible rfl)
            try simp only [PU]
            refine hd_tk (i := 5) (v := ?_) rfl ?_ ?_
            rotate_left
            · (intro w hSw; (try dsimp only at hSw); go_simp; first | done | with_reducible rfl)
            try simp only [PU]
            refine hd_tk (i := 6) (v := ?_) rfl ?_ ?_
            rotate_left
            · (intro w hSw; (try dsimp only at hSw); go_simp; first | done | with_reducible rfl)
            try simp only [PU]
            refine hd_tk (i := 8) (v := ?_) rfl ?_ ?_
            rotate_left
            · (intro w hSw; (try dsimp only at hSw); go_simp; first | done | with_reducible rfl)
            try simp only [PU]
            refine hd_tk (i := 12) (v := ?_) rfl ?_ ?_
            rotate_left
            · (intro w hSw; (try dsimp only at hSw); go_simp; first | done | with_reducible rfl)
            try simp only [PU]
            refine hd_ready (rs := [4, 13]) (by kernel_rfl) (by simp) ?_
            refine hd_cons (i := 4) rfl (by kernel_rfl) (fun K hK => ?_) ?_
            · skip
              go_simp
              go_at_call 51
              refine (l1Least_k _ _ _).mono ?_
              rintro e _ ⟨rfl, rfl⟩
              go_wp2_with fail
              refine hK.out _ _ ?_ (fun hHeld => ?_)
              · exact stc.s1
              clear hK K
              try simp only [PU]
              refine hd_ready (rs := [7, 13]) (by kernel_rfl) (by simp) ?_
              refine hd_cons (i := 7) rfl (by kernel_rfl) (fun K hK => ?_) ?_
              · skip
                go_simp
                go_at_call 52
                refine (l1Most_k _ _ _).mono ?_
                rintro e _ ⟨rfl, rfl⟩
                go_wp2_with fail
                refine hK.out _ _ ?_ (fun hHeld => ?_)
                · exact stc.s1
                clear hK K
                try simp only [PU]
                refine hd_ready (rs := [9, 13]) (by kernel_rfl) (by simp) ?_
                refine hd_cons (i := 9) rfl (by kernel_rfl) (fun K hK => ?_) ?_
                · skip
                  go_simp
                  go_at_call 16
                  refine (pick_any HX.out 8 stc.fr hr (by omega) (by omega) (by omega) stc.cu).mono ?_
                  rintro e v1 ⟨x9, n9, ⟨p9, q9⟩, rfl, a9, b9, hc9, hg9⟩
                  have st2 := stc.grown hrw hwg hwb hg9 hc9 (freshGrown stc.fr hg9 hr)
                  have w9a : IntKind.i64.wrap (1 + x9) = 1 + x9 := by rw [IntKind.wrap_i64]; omega
                  have w9b : IntKind.i64.wrap (100 * (1 + x9)) = 100 * (1 + x9) := by rw [IntKind.wrap_i64]; omega
                  clear hc9 hg9
                  go_wp2_with fail
                  refine hK.out _ _ ?_ (fun hHeld => ?_)
                  · exact st2.s1
                  clear hK K
                  try simp only [PU]
                  refine hd_tk (i := 10) (v := ?_) rfl ?_ ?_
                  rotate_left
                  · (intro w hSw; (try dsimp only at hSw); go_simp; first | done | with_reducible rfl)
                  try simp only [PU]
                  refine hd_tk (i := 11) (v := ?_) rfl ?_ ?_
                  rotate_left
                  · (intro w hSw; (try dsimp only at hSw); go_simp; first | done | with_reducible rfl)
                  try simp only [PU]
                  refine hd_one (i := 13) rfl (by kernel_rfl) (by kernel_rfl) (fun K hK => ?_)
                  go_simp
                  obtain ⟨v3, hwa⟩ : ∃ W, W = v1.alloc (.cells #[.int .i64 0, .int .i64 0, .int .i64 0, .int .i64 1, .int .i64 2] 3) := ⟨_, rfl⟩
                  rw [← hwa]
                  obtain ⟨q13, hqe⟩ : ∃ q, q = v1.heap.size := ⟨_, rfl⟩
                  have r13 : RowAt v3 q13 3 ([0, 0, 0, 1, 2].map iv) := by rw [hwa, hqe]; exact RowAt.new _ _ _
                  have hq13 : q13 ≠ r := by have := st2.gr.size; omega
                  have st4 := st2.fresh (show Fresh v1 v3 by rw [hwa]; exact fnew (frefl _) _)
                  rw [← hqe]
                  clear hwa hqe
                  refine hK.out _ _ ?_ (fun hHeld => ?_)
                  · exact st4.s1
                  clear hK K
                  try simp only [PU]
                  refine hd_one (i := 14) rfl (by kernel_rfl) (by kernel_rfl) (fun K hK => ?_)
                  go_simp
                  go_at_call 30
                  refine (among_any HX.out (some ⟨q13, 0, none⟩) 5 [0, 0, 0, 1, 2] r13.cells (by simp) (fun b o e => by cases e; exact hq13) st4.fr hr (by omega) (by omega) (by simp) st4.cu).mono ?_
                  rintro e v5 ⟨z14, n14, hz14, rfl, a14, b14, hc14, hg14⟩
                  have st6 := st4.grown hrw hwg hwb hg14 hc14 (freshGrown st4.fr hg14 hr)
                  have z14b : 0 ≤ z14 ∧ z14 ≤ 2 := by simp at hz14; omega
                  clear hc14 hg14 hz14
                  go_wp2_with fail
                  refine hK.out _ _ ?_ (fun hHeld => ?_)
                  · exact st6.s1
                  clear hK K
                  try simp only [PU]
                  refine hd_tk (i := 15) (v := ?_) rfl ?_ ?_
                  rotate_left
                  · (intro w hSw; (try dsimp only at hSw); go_simp; first | done | with_reducible rfl)
                  try simp only [PU]
                  refine hd_one (i := 16) rfl (by kernel_rfl) (by kernel_rfl) (fun K hK => ?_)
                  go_simp
                  go_at_call 50
                  refine (l2Put_any w.heap.size fp fc L (min x7 x8) (max x7 x8) (100 * (1 + x9)) z14 _ st6.ow (by omega) st6.ok ⟨by unfold Ab; dsimp only; omega, by unfold Ab; dsimp only; omega, by unfold Ab; dsimp only; omega, by unfold Ab; dsimp only; omega⟩).mono ?_
                  rintro e v7 ⟨q16, c16, L16, rfl, hl16, hk16, ho16, hf16⟩
                  have hl17 : L16.length ≤ L.length + 1 := by omega
                  clear hl16
                  have stz := st6.fresh hf16
                  have ho17 := owns_mono ho16 st6.gr.size
                  go_wp2_with fail
                  refine hK.out _ _ ?_ (fun hHeld => ?_)
                  · exact stz.s1
                  clear hK K
                  try simp only [PU]
                  refine hd_tk (i := 17) (v := ?_) rfl ?_ ?_
                  rotate_left
                  · (intro w hSw; (try dsimp only at hSw); go_simp; first | done | with_reducible rfl)
                  try simp only [PU]
                  refine hd_done (by kernel_rfl) ?_
                  clear hHeld
                  simp only [List.drop_succ_cons, List.drop_zero]
                  have stp := stz.put hW0b hrw hwb hgb ho17 hk16
                  have y1 := stz.s1
                  have yf := stz.bx.frozen 1
                  have HSP := Lib.hid stp
                  clear stp ho16 ho17 hk16 stz
                  go_wp2
                  go_roundw
                  case rel => exact ⟨s, L16, q16, c16, n14, by omega, by go_num, by omega, by omega, by omega, HSP.out⟩
                  case measure => simp [intOf]; omega
                refine hd_cons (i := 13) rfl (by kernel_rfl) (fun K hK => ?_) ?_
                · skip
                  go_simp
                  obtain ⟨v8, hwa⟩ : ∃ W, W = c0.alloc (.cells #[.int .i64 0, .int .i64 0, .int .i64 0, .int .i64 1, .int .i64 2] 3) := ⟨_, rfl⟩
                  rw [← hwa]
                  obtain ⟨q13, hqe⟩ : ∃ q, q = c0.heap.size := ⟨_, rfl⟩
                  have r13 : RowAt v8 q13 3 ([0, 0, 0, 1, 2].map iv) := by rw [hwa, hqe]; exact RowAt.new _ _ _
                  have hq13 : q13 ≠ r := by have := stc.gr.size; omega
                  have st9 := stc.fresh (show Fresh c0 v8 by rw [hwa]; exact fnew (frefl _) _)
                  rw [← hqe]
                  clear hwa hqe
                  refine hK.out _ _ ?_ (fun hHeld => ?_)
                  · exact st9.s1
                  clear hK K
                  try simp only [PU]
                  refine hd_one (i := 9) rfl (by kernel_rfl) (by kernel_rfl) (fun K hK => ?_)
                  go_simp
                  go_at_call 16
                  refine (pick_any HX.out 8 st9.fr hr (by omega) (by omega) (by omega) st9.cu).mono ?_
                  rintro e v10 ⟨x9, n9, ⟨p9, q9⟩, rfl, a9, b9, hc9, hg9⟩
                  have st11 := st9.grown hrw hwg hwb hg9 hc9 (freshGrown st9.fr hg9 hr)
                  have r13b := r13.grown hg9 hq13
                  have w9a : IntKind.i64.wrap (1 + x9) = 1 + x9 := by rw [IntKind.wrap_i64]; omega
                  have w9b : IntKind.i64.wrap (100 * (1 + x9)) = 100 * (1 + x9) := by rw [IntKind.wrap_i64]; omega
                  clear hc9 hg9
                  go_wp2_with fail
                  refine hK.out _ _ ?_ (fun hHeld => ?_)
                  · exact st11.s1
                  clear hK K
                  try simp only [PU]
                  refine hd_tk (i := 10) (v := ?_) rfl ?_ ?_
                  rotate_left
                  · (intro w hSw; (try dsimp only at hSw); go_simp; first | done | with_reducible rfl)
                  try simp only [PU]
                  refine hd_tk (i := 11) (v := ?_) rfl ?_ ?_
                  rotate_left
                  · (intro w hSw; (try dsimp only at hSw); go_simp; first | done | with_reducible rfl)
                  try simp only [PU]
                  refine hd_one (i := 14) rfl (by kernel_rfl) (by kernel_rfl) (fun K hK => ?_)
                  go_simp
                  go_at_call 30
                  refine (among_any HX.out (some ⟨q13, 0, none⟩) 5 [0, 0, 0, 1, 2] r13b.cells (by simp) (fun b o e => by cases e; exact hq13) st11.fr hr (by omega) (by omega) (by simp) st11.cu).mono ?_
                  rintro e v12 ⟨z14, n14, hz14, rfl, a14, b14, hc14, hg14⟩
                  have st13 := st11.grown hrw hwg hwb hg14 hc14 (freshGrown st11.fr hg14 hr)
                  have z14b : 0 ≤ z14 ∧ z14 ≤ 2 := by simp at hz14; omega
                  clear hc14 hg14 hz14
                  go_wp2_with fail
                  refine hK.out _ _ ?_ (fun hHeld => ?_)
                  · exact st13.s1
                  clear hK K
                  try simp only [PU]
                  refine hd_tk (i := 15) (v := ?_) rfl ?_ ?_
                  rotate_left
                  · (intro w hSw; (try dsimp only at hSw); go_simp; first | done | with_reducible rfl)
                  try simp only [PU]
                  refine hd_one (i := 16) rfl (by kernel_rfl) (by kernel_rfl) (fun K hK => ?_)
                  go_simp
                  go_at_call 50
                  refine (l2Put_any w.heap.size fp fc L (min x7 x8) (max x7 x8) (100 * (1 + x9)) z14 _ st13.ow (by omega) st13.ok ⟨by unfold Ab; dsimp only; omega, by unfold Ab; dsimp only; omega, by unfold Ab; dsimp only; omega, by unfold Ab; dsimp only; omega⟩).mono ?_
                  rintro e v14 ⟨q16, c16, L16, rfl, hl16, hk16, ho16, hf16⟩
                  have hl17 : L16.length ≤ L.length + 1 := by omega
                  clear hl16
                  have stz := st13.fresh hf16
                  have ho17 := owns_mono ho16 st13.gr.size
                  go_wp2_with fail
                  refine hK.out _ _ ?_ (fun hHeld => ?_)
                  · exact stz.s1
                  clear hK K
                  try simp only [PU]
                  refine hd_tk (i := 17) (v := ?_) rfl ?_ ?_
                  rotate_left
                  · (intro w hSw; (try dsimp only at hSw); go_simp; first | done | with_reducible rfl)
                  try simp only [PU]
                  refine hd_done (by kernel_rfl) ?_
                  clear hHeld
                  simp only [List.drop_succ_cons, List.drop_zero]
                  have stp := stz.put hW0b hrw hwb hgb ho17 hk16
                  have y1 := stz.s1
                  have yf := stz.bx.frozen 1
                  have HSP := Lib.hid stp
                  clear stp ho16 ho17 hk16 stz
                  go_wp2
                  go_roundw
                  case rel => exact ⟨s, L16, q16, c16, n14, by omega, by go_num, by omega, by omega, by omega, HSP.out⟩
                  case measure => simp [intOf]; omega
                exact hd_nil
              refine hd_cons (i := 13) rfl (by kernel_rfl) (fun K hK => ?_) ?_
              · skip
                go_simp
                obtain ⟨v15, hwa⟩ : ∃ W, W = c0.alloc (.cells #[.int .i64 0, .int .i64 0, .int .i64 0, .int .i64 1, .int .i64 2] 3) := ⟨_, rfl⟩
                rw [← hwa]
                obtain ⟨q13, hqe⟩ : ∃ q, q = c0.heap.size := ⟨_, rfl⟩
                have r13 : RowAt v15 q13 3 ([0, 0, 0, 1, 2].map iv) := by rw [hwa, hqe]; exact RowAt.new _ _ _
                have hq13 : q13 ≠ r := by have := stc.gr.size; omega
                have st16 := stc.fresh (show Fresh c0 v15 by rw [hwa]; exact fnew (frefl _) _)
                rw [← hqe]
                clear hwa hqe
                refine hK.out _ _ ?_ (fun hHeld => ?_)
                · exact st16.s1
                clear hK K
                try simp only [PU]
                refine hd_one (i := 7) rfl (by kernel_rfl) (by kernel_rfl) (fun K hK => ?_)
                go_simp
                go_at_call 52
                refine (l1Most_k _ _ _).mono ?_
                rintro e _ ⟨rfl, rfl⟩
                go_wp2_with fail
                refine hK.out _ _ ?_ (fun hHeld => ?_)
                · exact st16.s1
                clear hK K
                try simp only [PU]
                refine hd_one (i := 9) rfl (by kernel_rfl) (by kernel_rfl) (fun K hK => ?_)
                go_simp
                go_at_call 16
                refine (pick_any HX.out 8 st16.fr hr (by omega) (by omega) (by omega) st16.cu).mono ?_
                rintro e v17 ⟨x9, n9, ⟨p9, q9⟩, rfl, a9, b9, hc9, hg9⟩
                have st18 := st16.grown hrw hwg hwb hg9 hc9 (freshGrown st16.fr hg9 hr)
                have r13b := r13.grown hg9 hq13
                have w9a : IntKind.i64.wrap (1 + x9) = 1 + x9 := by rw [IntKind.wrap_i64]; omega
                have w9b : IntKind.i64.wrap (100 * (1 + x9)) = 100 * (1 + x9) := by rw [IntKind.wrap_i64]; omega
                clear hc9 hg9
                go_wp2_with fail
                refine hK.out _ _ ?_ (fun hHeld => ?_)
                · exact st18.s1
                clear hK K
                try simp only [PU]
                refine hd_tk (i := 10) (v := ?_) rfl ?_ ?_
                rotate_left
                · (intro w hSw; (try dsimp only at hSw); go_simp; first | done | with_reducible rfl)
                try simp only [PU]
                refine hd_tk (i := 11) (v := ?_) rfl ?_ ?_
                rotate_left
                · (intro w hSw; (try dsimp only at hSw); go_simp; first | done | with_reducible rfl)
                try simp only [PU]
                refine hd_one (i := 14) rfl (by kernel_rfl) (by kernel_rfl) (fun K hK => ?_)
                go_simp
                go_at_call 30
                refine (among_any HX.out (some ⟨q13, 0, none⟩) 5 [0, 0, 0, 1, 2] r13b.cells (by simp) (fun b o e => by cases e; exact hq13) st18.fr hr (by omega) (by omega) (by simp) st18.cu).mono ?_
                rintro e v19 ⟨z14, n14, hz14, rfl, a14, b14, hc14, hg14⟩
                have st20 := st18.grown hrw hwg hwb hg14 hc14 (freshGrown st18.fr hg14 hr)
                have z14b : 0 ≤ z14 ∧ z14 ≤ 2 := by simp at hz14; omega
                clear hc14 hg14 hz14
                go_wp2_with fail
                refine hK.out _ _ ?_ (fun hHeld => ?_)
                · exact st20.s1
                clear hK K
                try simp only [PU]
                refine hd_tk (i := 15) (v := ?_) rfl ?_ ?_
                rotate_left
                · (intro w hSw; (try dsimp only at hSw); go_simp; first | done | with_reducible rfl)
                try simp only [PU]
                refine hd_one (i := 16) rfl (by kernel_rfl) (by kernel_rfl) (fun K hK => ?_)
                go_simp
                go_at_call 50
                refine (l2Put_any w.heap.size fp fc L (min x7 x8) (max x7 x8) (100 * (1 + x9)) z14 _ st20.ow (by omega) st20.ok ⟨by unfold Ab; dsimp only; omega, by unfold Ab; dsimp only; omega, by unfold Ab; dsimp only; omega, by unfold Ab; dsimp only; omega⟩).mono ?_
                rintro e v21 ⟨q16, c16, L16, rfl, hl16, hk16, ho16, hf16⟩
                have hl17 : L16.length ≤ L.length + 1 := by omega
                clear hl16
                have stz := st20.fresh hf16
                have ho17 := owns_mono ho16 st20.gr.size
                go_wp2_with fail
                refine hK.out _ _ ?_ (fun hHeld => ?_)
                · exact stz.s1
                clear hK K
                try simp only [PU]
                refine hd_tk (i := 17) (v := ?_) rfl ?_ ?_
                rotate_left
                · (intro w hSw; (try dsimp only at hSw); go_simp; first | done | with_reducible rfl)
                try simp only [PU]
                refine hd_done (by kernel_rfl) ?_
                clear hHeld
                simp only [List.drop_succ_cons, List.drop_zero]
                have stp := stz.put hW0b hrw hwb hgb ho17 hk16
                have y1 := stz.s1
                have yf := stz.bx.frozen 1
                have HSP := Lib.hid stp
                clear stp ho16 ho17 hk16 stz
                go_wp2
                go_roundw
                case rel => exact ⟨s, L16, q16, c16, n14, by omega, by go_num, by omega, by omega, by omega, HSP.out⟩
                case measure => simp [intOf]; omega
              exact hd_nil
            refine hd_cons (i := 13) rfl (by kernel_rfl) (fun K hK => ?_) ?_
            · skip
              go_simp
              obtain ⟨v22, hwa⟩ : ∃ W, W = c0.alloc (.cells #[.int .i64 0, .int .i64 0, .int .i64 0, .int .i64 1, .int .i64 2] 3) := ⟨_, rfl⟩
              rw [← hwa]
              obtain ⟨q13, hqe⟩ : ∃ q, q = c0.heap.size := ⟨_, rfl⟩
              have r13 : RowAt v22 q13 3 ([0, 0, 0, 1, 2].map iv) := by rw [hwa, hqe]; exact RowAt.new _ _ _
              have hq13 : q13 ≠ r := by have := stc.gr.size; omega
              have st23 := stc.fresh (show Fresh c0 v22 by rw [hwa]; exact fnew (frefl _) _)
              rw [← hqe]
              clear hwa hqe
              refine hK.out _ _ ?_ (fun hHeld => ?_)
              · exact st23.s1
              clear hK K
              try simp only [PU]
              refine hd_one (i := 4) rfl (by kernel_rfl) (by kernel_rfl) (fun K hK => ?_)
              go_simp
              go_at_call 51
              refine (l1Least_k _ _ _).mono ?_
              rintro e _ ⟨rfl, rfl⟩
              go_wp2_with fail
              refine hK.out _ _ ?_ (fun hHeld => ?_)
              · exact st23.s1
              clear hK K
              try simp only [PU]
              refine hd_one (i := 7) rfl (by kernel_rfl) (by kernel_rfl) (fun K hK => ?_)
              go_simp
              go_at_call 52
              refine (l1Most_k _ _ _).mono ?_
              rintro e _ ⟨rfl, rfl⟩
              go_wp2_with fail
              refine hK.out _ _ ?_ (fun hHeld => ?_)
              · exact st23.s1
              clear hK K
              try simp only [PU]
              refine hd_one (i := 9) rfl (by kernel_rfl) (by kernel_rfl) (fun K hK => ?_)
              go_simp
              go_at_call 16
              refine (pick_any HX.out 8 st23.fr hr (by omega) (by omega) (by omega) st23.cu).mono ?_
              rintro e v24 ⟨x9, n9, ⟨p9, q9⟩, rfl, a9, b9, hc9, hg9⟩
              have st25 := st23.grown hrw hwg hwb hg9 hc9 (freshGrown st23.fr hg9 hr)
              have r13b := r13.grown hg9 hq13
              have w9a : IntKind.i64.wrap (1 + x9) = 1 + x9 := by rw [IntKind.wrap_i64]; omega
              have w9b : IntKind.i64.wrap (100 * (1 + x9)) = 100 * (1 + x9) := by rw [IntKind.wrap_i64]; omega
              clear hc9 hg9
              go_wp2_with fail
              refine hK.out _ _ ?_ (fun hHeld => ?_)
              · exact st25.s1
              clear hK K
              try simp only [PU]
              refine hd_tk (i := 10) (v := ?_) rfl ?_ ?_
              rotate_left
              · (intro w hSw; (try dsimp only at hSw); go_simp; first | done | with_reducible rfl)
              try simp only [PU]
              refine hd_tk (i := 11) (v := ?_) rfl ?_ ?_
              rotate_left
              · (intro w hSw; (try dsimp only at hSw); go_simp; first | done | with_reducible rfl)
              try simp only [PU]
              refine hd_one (i := 14) rfl (by kernel_rfl) (by kernel_rfl) (fun K hK => ?_)
              go_simp
              go_at_call 30
              refine (among_any HX.out (some ⟨q13, 0, none⟩) 5 [0, 0, 0, 1, 2] r13b.cells (by simp) (fun b o e => by cases e; exact hq13) st25.fr hr (by omega) (by omega) (by simp) st25.cu).mono ?_
              rintro e v26 ⟨z14, n14, hz14, rfl, a14, b14, hc14, hg14⟩
              have st27 := st25.grown hrw hwg hwb hg14 hc14 (freshGrown st25.fr hg14 hr)
              have z14b : 0 ≤ z14 ∧ z14 ≤ 2 := by simp at hz14; omega
              clear hc14 hg14 hz14
              go_wp2_with fail
              refine hK.out _ _ ?_ (fun hHeld => ?_)
              · exact st27.s1
              clear hK K
              try simp only [PU]
              refine hd_tk (i := 15) (v := ?_) rfl ?_ ?_
              rotate_left
              · (intro w hSw; (try dsimp only at hSw); go_simp; first | done | with_reducible rfl)
              try simp only [PU]
              refine hd_one (i := 16) rfl (by kernel_rfl) (by kernel_rfl) (fun K hK => ?_)
              go_simp
              go_at_call 50
              refine (l2Put_any w.heap.size fp fc L (min x7 x8) (max x7 x8) (100 * (1 + x9)) z14 _ st27.ow (by omega) st27.ok ⟨by unfold Ab; dsimp only; omega, by unfold Ab; dsimp only; omega, by unfold Ab; dsimp only; omega, by unfold Ab; dsimp only; omega⟩).mono ?_
              rintro e v28 ⟨q16, c16, L16, rfl, hl16, hk16, ho16, hf16⟩
              have hl17 : L16.length ≤ L.length + 1 := by omega
              clear hl16
              have stz := st27.fresh hf16
              have ho17 := owns_mono ho16 st27.gr.size
              go_wp2_with fail
              refine hK.out _ _ ?_ (fun hHeld => ?_)
              · exact stz.s1
              clear hK K
              try simp only [PU]
              refine hd_tk (i := 17) (v := ?_) rfl ?_ ?_
              rotate_left
              · (intro w hSw; (try dsimp only at hSw); go_simp; first | done | with_reducible rfl)
              try simp only [PU]
              refine hd_done (by kernel_rfl) ?_
              clear hHeld
              simp only [List.drop_succ_cons, List.drop_zero]
              have stp := stz.put hW0b hrw hwb hgb ho17 hk16
              have y1 := stz.s1
              have yf := stz.bx.frozen 1
              have HSP := Lib.hid stp
              clear stp ho16 ho17 hk16 stz
              go_wp2
              go_roundw
              case rel => exact ⟨s, L16, q16, c16, n14, by omega, by go_num, by omega, by omega, by omega, HSP.out⟩
              case measure => simp [intOf]; omega
            exact hd_nil
        · have htz : ¬ (0 : Int) < (t : Int) := by omega
          have hz := HST.out.zr
          have hbx := HST.out.bx
          have b0 := hbx.cell (i := 0) rfl
          have b1 := hbx.cell (i := 1) rfl
          have y0 := hz.cell (i := 0) rfl
          have y1 := hz.cell (i := 1) rfl
          have u0 := hz.frozen 0
          have u1 := hz.frozen 1
          have hfin := (hz.set 0 (.slice (some ⟨g, 0, none⟩) k 6)).set 1 (.slice fp L.length fc)
          have k0 := hfin.cell (i := 0) rfl
          have k1 := hfin.cell (i := 1) rfl
          have hgz : g ≠ w.heap.size := by omega
          have hrz : r ≠ w.heap.size := by omega
          have HNM := Lib.hid ((HST.out.nm.setOther hgz (o := 0) (.slice (some ⟨g, 0, none⟩) k 6)).setOther hgz (o := 1) (.slice fp L.length fc))
          have HOW := Lib.hid (owns_setO (u := .slice fp L.length fc) (owns_setO (u := .slice (some ⟨g, 0, none⟩) k 6) HST.out.ow hz (by decide) 0) (hz.set 0 _) (by decide) 1)
          have HCU := Lib.hid (Cur.grown (Cur.grown HST.out.cu (grownSet _ w.heap.size 0 (.slice (some ⟨g, 0, none⟩) k 6)) hrz) (grownSet _ w.heap.size 1 (.slice fp L.length fc)) hrz)
          have HGR := Lib.hid (grownOwn (grownOwn HST.out.gr (grownSet _ w.heap.size 0 (.slice (some ⟨g, 0, none⟩) k 6)) (Nat.le_refl _)) (grownSet _ w.heap.size 1 (.slice fp L.length fc)) (Nat.le_refl _))
          have HOK := Lib.hid HST.out.ok
          clear hz hbx hfin
          go_wp2
          refine bodyPost_ret (v := .agg #[.slice (some ⟨g, 0, none⟩) k 6, .slice fp L.length fc]) (by simp [results, Try.results28, go_sem, k0, k1]) rfl ?_
          exact ⟨g, k, fp, L, fc, m, rfl, ⟨hk2, hk6⟩, by omega, HNM.out, HOW.out, by omega, HOK.out, m0, by omega, HCU.out, HGR.out⟩
end Go.Proofs.Ytlapicgeokjpjaa
