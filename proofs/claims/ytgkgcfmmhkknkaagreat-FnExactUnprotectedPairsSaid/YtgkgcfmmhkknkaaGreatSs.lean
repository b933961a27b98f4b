/- Contracts: a result that is a list of lists of ints, compared, marked, asked again. -/
import Derived.Test.YtgkgcfmmhkknkaaGreatGp
import Derived.Test.YtgkgcfmmhkknkaaGreatU1
namespace Go.Proofs.YtgkgcfmmhkknkaaGreat
open Go.RowKit Go.PlainAid

set_option maxHeartbeats 1000000 in
/-- A row of ints marked: exactly, and nothing but its block has changed. -/
theorem markIntS_x (g cap : Nat) (xs : List Int) (sp : List Value) (k0 : Int) (w : World) (hr : RowAt w g 3 (xs.map iv ++ sp)) (hn : xs.length ≤ 1099511627776) (h0 : 0 ≤ k0) (h1 : k0 ≤ 1099511627776) :
    Calls Tryz.prog 68 #[.slice (some ⟨g, 0, none⟩) xs.length cap, .int .i64 k0] w fun e w' => e = .returned (.int .i64 (k0 + xs.length)) ∧ RowAt w' g 3 ((marks k0 xs.length).map iv ++ sp) ∧ Mk (fun t => t = 3) g (g + 1) w w' := by
  have HR0 := Lib.hid hr
  clear hr
  go_enter Tryz.func68, Tryz.ntmps68
  go_wp2
  go_loopw [1, 5] (fun kk i wr => ∃ j : Nat, j ≤ xs.length ∧ i = .int .i64 j ∧ kk = .int .i64 (k0 + j) ∧ RowAt wr g 3 ((marks k0 j ++ xs.drop j).map iv ++ sp) ∧ Mk (fun t => t = 3) g (g + 1) w wr) (fun _ i _ => xs.length - (intOf i).toNat)
  case atStart => exact ⟨0, Nat.zero_le _, rfl, by simp, by simpa [marks] using HR0.out, Mk.refl _ _ _ _⟩
  case round =>
    obtain ⟨j, hj, rfl, rfl, hr, hb⟩ := hrel
    have HB := Lib.hid hb
    clear hb
    by_cases hlt : j < xs.length
    · have hc := hr.cell (get_marks k0 xs sp j hlt)
      have hf := hr.frozen j
      have HR := Lib.hid hr
      clear hr
      go_wp2
      go_roundw
      case rel =>
        refine ⟨j + 1, by omega, by go_num, by go_num, ?_, HB.out.set HR.out rfl (Nat.le_refl _) (by omega) _ _⟩
        have := HR.out.set j (iv (k0 + (j : Int)))
        rw [set_marks k0 xs sp j hlt] at this
        exact this
      case measure => simp [intOf]; omega
    · have hjn : j = xs.length := by omega
      subst hjn
      have HR := Lib.hid hr
      clear hr
      go_wp2
      go_ret
      refine ⟨rfl, ?_, HB.out⟩
      have := HR.out
      simpa using this
theorem markIntS_0 (q : Option Addr) (cap : Nat) (k0 : Int) (w : World) :
    Calls Tryz.prog 68 #[.slice q 0 cap, .int .i64 k0] w fun e w' => e = .returned (.int .i64 k0) ∧ w = w' := by
  go_enter Tryz.func68, Tryz.ntmps68
  go_wp2
  go_loop [1, 5] (fun kk i => i = .int .i64 0 ∧ kk = .int .i64 k0) (fun _ _ => 0)
  case atStart => exact ⟨rfl, rfl⟩
  case round =>
    obtain ⟨rfl, rfl⟩ := hrel
    go_wp2
    go_ret
    exact ⟨rfl, rfl⟩
theorem Own.other {w w' : World} {base g : Nat} {t : TypeId} {T : TypeId → Prop} {p : Option Addr} {cs : List Value} (h : Own w base t p cs) (hb : Mk T g (g + 1) w w') (hd : ∀ h o, p = some ⟨h, o, none⟩ → h ≠ g) : Own w' base t p cs := by
  rcases h with h | ⟨b, sp, hp, hg, hr⟩
  · exact Or.inl h
  · refine Or.inr ⟨b, sp, hp, hg, ?_⟩
    have hne := hd b 0 hp
    have : w'.heap[b]? = w.heap[b]? := by
      rcases Nat.lt_or_ge b g with h' | h'
      · exact hb.low.block b h'
      · exact hb.up b (by omega) hr.lt
    unfold RowAt; rw [this]; exact hr
theorem Own.typ {w w' : World} {base g hi : Nat} {t : TypeId} {T : TypeId → Prop} {p : Option Addr} {cs : List Value} (h : Own w base t p cs) (hb : Mk T g hi w w') (hd : ¬ T t) : Own w' base t p cs := by
  rcases h with h | ⟨b, sp, hp, hg, hr⟩
  · exact Or.inl h
  · exact Or.inr ⟨b, sp, hp, hg, hb.row _ _ _ hr hd⟩
def Dist (l : List LI) : Prop := ∀ (i j : Nat) x y, i ≠ j → l[i]? = some x → l[j]? = some y → ∀ g o h o', x.q = some ⟨g, o, none⟩ → y.q = some ⟨h, o', none⟩ → g ≠ h
theorem Dist.snoc {l : List LI} (h : Dist l) {x : LI} (hx : ∀ y ∈ l, ∀ g o h o', x.q = some ⟨g, o, none⟩ → y.q = some ⟨h, o', none⟩ → g ≠ h) : Dist (l ++ [x]) := by
  intro i j a b hij ha hb g o h' o' e1 e2
  rw [List.getElem?_append] at ha hb
  split at ha
  · split at hb
    · exact h i j a b hij ha hb g o h' o' e1 e2
    · have hb' : b = x := by
        rcases Nat.eq_zero_or_pos (j - l.length) with h0 | h0
        · rw [h0] at hb; simp at hb; exact hb.symm
        · rw [List.getElem?_eq_none (by simp; omega)] at hb; cases hb
      subst hb'
      exact (hx a (List.mem_of_getElem? ha) h' o' g o e2 e1).symm
  · split at hb
    · have ha' : a = x := by
        rcases Nat.eq_zero_or_pos (i - l.length) with h0 | h0
        · rw [h0] at ha; simp at ha; exact ha.symm
        · rw [List.getElem?_eq_none (by simp; omega)] at ha; cases ha
      subst ha'
      exact hx b (List.mem_of_getElem? hb) g o h' o' e1 e2
    · exfalso
      rcases Nat.eq_zero_or_pos (i - l.length) with h0 | h0
      · rcases Nat.eq_zero_or_pos (j - l.length) with h1 | h1
        · omega
        · rw [List.getElem?_eq_none (by simp; omega)] at hb; cases hb
      · rw [List.getElem?_eq_none (by simp; omega)] at ha; cases ha
def OwnSS (w : World) (base : Nat) (v : Value) (R : List (List Int)) : Prop := ∃ p c, ∃ l : List LI, v = .slice p l.length c ∧ l.map LI.xs = R ∧ Own w base 45 p (l.map liV) ∧ OwnS w base l ∧ Dist l
def HeldSS (w : World) (lo hi : Nat) (v : Value) (R : List (List Int)) : Prop := ∃ p c, ∃ l : List LI, v = .slice p l.length c ∧ l.map LI.xs = R ∧ Held w lo hi 45 p (l.map liV) ∧ (∀ x ∈ l, Held w lo hi 3 x.q (x.xs.map iv)) ∧ Dist l
theorem OwnSS.held {w : World} {lo : Nat} {v : Value} {R : List (List Int)} (h : OwnSS w lo v R) : HeldSS w lo w.heap.size v R := by
  obtain ⟨p, c, l, h1, h2, h3, h4, h5⟩ := h
  exact ⟨p, c, l, h1, h2, h3.held, fun x hx => (h4 x hx).held, h5⟩
theorem HeldSS.own {w : World} {lo hi : Nat} {v : Value} {R : List (List Int)} (h : HeldSS w lo hi v R) : OwnSS w lo v R := by
  obtain ⟨p, c, l, h1, h2, h3, h4, h5⟩ := h
  exact ⟨p, c, l, h1, h2, h3.1, fun x hx => (h4 x hx).1, h5⟩
theorem HeldSS.keep {w w' : World} {lo hi : Nat} {v : Value} {R : List (List Int)} (h : HeldSS w lo hi v R) (hb : Fresh w w') : HeldSS w' lo hi v R := by
  obtain ⟨p, c, l, h1, h2, h3, h4, h5⟩ := h
  exact ⟨p, c, l, h1, h2, h3.keep hb, fun x hx => (h4 x hx).keep hb, h5⟩
theorem HeldSS.wide {w : World} {lo hi lo' hi' : Nat} {v : Value} {R : List (List Int)} (h : HeldSS w lo hi v R) (hl : lo' ≤ lo) (hh : hi ≤ hi') : HeldSS w lo' hi' v R := by
  obtain ⟨p, c, l, h1, h2, h3, h4, h5⟩ := h
  exact ⟨p, c, l, h1, h2, h3.wide hl hh, fun x hx => (h4 x hx).wide hl hh, h5⟩
theorem HeldSS.mk {T : TypeId → Prop} {lo hi lo' hi' : Nat} {w w' : World} {v : Value} {R : List (List Int)} (h : HeldSS w lo hi v R) (hb : Mk T lo' hi' w w') (hd : hi ≤ lo' ∨ hi' ≤ lo) : HeldSS w' lo hi v R := by
  obtain ⟨p, c, l, h1, h2, h3, h4, h5⟩ := h
  exact ⟨p, c, l, h1, h2, h3.mk hb hd, fun x hx => (h4 x hx).mk hb hd, h5⟩
theorem HeldSS.below {lo hi base : Nat} {w w' : World} {v : Value} {R : List (List Int)} (h : HeldSS w lo hi v R) (hb : Below base w w') (hd : hi ≤ base) : HeldSS w' lo hi v R := by
  obtain ⟨p, c, l, h1, h2, h3, h4, h5⟩ := h
  exact ⟨p, c, l, h1, h2, h3.below hb hd, fun x hx => (h4 x hx).below hb hd, h5⟩
def SmSS (R : List (List Int)) : Prop := R.length ≤ 1024 ∧ ∀ r ∈ R, r.length ≤ 1024
/-- How many ints stand in the first lists. -/
def totN (R : List (List Int)) : Nat → Nat
  | 0 => 0
  | k + 1 => match R[k]? with | some r => totN R k + r.length | none => totN R k
theorem totN_step {R : List (List Int)} {k : Nat} {r : List Int} (h : R[k]? = some r) : totN R (k + 1) = totN R k + r.length := by
  show (match R[k]? with | some r => totN R k + r.length | none => totN R k) = _
  rw [h]
theorem totN_le {R : List (List Int)} (h : SmSS R) (k : Nat) : totN R k ≤ 1024 * k := by
  induction k with
  | zero => exact Nat.le_refl _
  | succ k ih =>
    cases hk : R[k]? with
    | none =>
      have e : totN R (k + 1) = totN R k := by
        show (match R[k]? with | some r => totN R k + r.length | none => totN R k) = _
        rw [hk]
      rw [e]; omega
    | some r =>
      have := h.2 r (List.mem_of_getElem? hk)
      rw [totN_step hk]; omega
def MkdSS (w : World) (base : Nat) (k0 : Int) (v : Value) (R : List (List Int)) : Prop := ∃ p c, ∃ l : List LI, v = .slice p l.length c ∧ l.map LI.xs = R ∧ Own w base 45 p (l.map liV) ∧ ∀ (i : Nat) x, l[i]? = some x → Own w base 3 x.q ((marks (k0 + totN R i) x.xs.length).map iv)
theorem MkdSS.keep {w w' : World} {base : Nat} {k0 : Int} {v : Value} {R : List (List Int)} (h : MkdSS w base k0 v R) (hb : Fresh w w') : MkdSS w' base k0 v R := by
  obtain ⟨p, c, l, h1, h2, h3, h4⟩ := h
  exact ⟨p, c, l, h1, h2, h3.keep hb, fun i x hx => (h4 i x hx).keep hb⟩
theorem li_at {l : List LI} {R : List (List Int)} (h : l.map LI.xs = R) {k : Nat} {x : LI} (hx : l[k]? = some x) : R[k]? = some x.xs := by rw [← h]; simp [hx]
theorem Own.row_at {w : World} {base : Nat} {p : Option Addr} {l : List LI} (h : Own w base 45 p (l.map liV)) {k : Nat} (hk : k < l.length) :
    ∃ b x, p = some ⟨b, 0, none⟩ ∧ l[k]? = some x ∧ x ∈ l ∧ w.cell? ⟨b, k, none⟩ = some (.slice x.q x.xs.length x.cap) := by
  have hx : l[k]? = some l[k] := List.getElem?_eq_getElem hk
  rcases h with ⟨_, h⟩ | ⟨g, sp, rfl, _, hr⟩
  · exfalso
    have := congrArg List.length h
    simp at this; rw [this] at hk; simp at hk
  · refine ⟨g, l[k], rfl, hx, List.getElem_mem hk, hr.cell ?_⟩
    rw [List.getElem?_append_left (by simpa using hk), List.getElem?_map, hx]; rfl
set_option maxHeartbeats 1000000 in
theorem eqSS_r (v v' : Value) (lo hi lo' hi' : Nat) (R : List (List Int)) (w : World) (h : HeldSS w lo hi v R) (h' : HeldSS w lo' hi' v' R) (hs : SmSS R) :
    Calls Tryz.prog 36 #[v, v'] w fun e w' => e = .returned (.bool true) ∧ Fresh w w' := by
  obtain ⟨p, c, l, rfl, h2, h3, h4, _⟩ := h
  obtain ⟨p', c', l', rfl, h2', h3', h4', _⟩ := h'
  have hlen : l.length = R.length := by rw [← h2]; simp
  have hlen' : l'.length = R.length := by rw [← h2']; simp
  have hn : l.length ≤ 1024 := by have := hs.1; omega
  have HSM := Lib.hid hs
  have H2 := Lib.hid h2
  have H2' := Lib.hid h2'
  have H3 := Lib.hid h3.1
  have H3' := Lib.hid h3'.1
  have H4 := Lib.hid h4
  have H4' := Lib.hid h4'
  have hll : l'.length = l.length := by omega
  have HLEN := Lib.hid hlen
  rw [hll]
  clear hs h2 h2' h3 h3' h4 h4' hlen hlen' hll
  go_enter Tryz.func36, Tryz.ntmps36
  go_wp2
  go_loopw [5] (fun i wr => ∃ k : Nat, k ≤ l.length ∧ i = .int .i64 k ∧ Fresh w wr) (fun i _ => l.length - (intOf i).toNat)
  case atStart => exact ⟨0, Nat.zero_le _, rfl, frefl _⟩
  case round =>
    obtain ⟨k, hk, rfl, hf⟩ := hrel
    have HF := Lib.hid hf
    by_cases hlt : k < l.length
    · have hltz : (k : Int) < (l.length : Int) := by omega
      obtain ⟨b, x, rfl, hx, hm, hc⟩ := (H3.out.keep hf).row_at hlt
      have hll : l'.length = l.length := by
        have e1 := congrArg List.length H2.out
        have e2 := congrArg List.length H2'.out
        simp at e1 e2; omega
      obtain ⟨b', y, rfl, hy, hm', hc'⟩ := (H3'.out.keep hf).row_at (k := k) (by omega)
      have hxy : x.xs = y.xs := by
        have e1 := li_at H2.out hx
        have e2 := li_at H2'.out hy
        rw [e1] at e2; exact Option.some.inj e2
      have hsm := HSM.out.2 x.xs (List.mem_of_getElem? (li_at H2.out hx))
      have hxq : Ints wr x.q x.xs := ((H4.out x hm).1.keep hf).cells
      have hyq : Ints wr y.q x.xs := by rw [hxy]; exact ((H4'.out y hm').1.keep hf).cells
      have HQ : Hid (∀ xa : After wr, Calls Tryz.prog 65 #[.slice x.q x.xs.length x.cap, .slice y.q x.xs.length y.cap] xa.w' fun e w' => e = .returned (.bool true) ∧ Fresh xa.w' w') :=
        fun xa => eqIntS_r x.q y.q x.cap y.cap x.xs xa.w' (hxq.keep xa.h) (hyq.keep xa.h) (by omega)
      rw [← hxy] at hc'
      have i0 := fun xa : After wr => akeep hc xa
      have i1 := fun xa : After wr => akeep hc' xa
      clear hx hy hm hm' hxy hf hll hxq hyq hc hc'
      go_wp2
      refine wp_region_after (by kernel_rfl) (by kernel_rfl) ?_
      repeat (go_big_quiet_step ((go_at_call 65; exact after_call (HQ.out _))))
      refine wpQuiet_nil ?_
      rintro _ ⟨xa, rfl⟩
      have HB := Lib.hid (fstep HF.out xa.h)
      go_wp2
      go_roundw
      case rel => exact ⟨k + 1, by omega, by go_num, HB.out⟩
      case measure => simp [intOf]; omega
    · have hkn : k = l.length := by omega
      have hltz : ¬ (k : Int) < (l.length : Int) := by omega
      clear hf
      go_wp2
      go_ret
      exact ⟨rfl, HF.out⟩
set_option maxHeartbeats 2000000 in
theorem markSS_r (v : Value) (base : Nat) (R : List (List Int)) (k0 : Int) (w : World) (h : OwnSS w base v R) (hs : SmSS R) (h0 : 0 ≤ k0) (h1 : k0 ≤ 1048576) :
    Calls Tryz.prog 37 #[v, .int .i64 k0] w fun e w' => e = .returned (.int .i64 (k0 + totN R R.length)) ∧ MkdSS w' base k0 v R ∧ Below base w w' := by
  obtain ⟨p, c, l, rfl, h2, h3, h4, h5⟩ := h
  have hlen : l.length = R.length := by rw [← h2]; simp
  have hn : l.length ≤ 1024 := by have := hs.1; omega
  have HSM := Lib.hid hs
  have H2 := Lib.hid h2
  have H3 := Lib.hid h3
  have H4 := Lib.hid h4
  have H5 := Lib.hid h5
  have HLEN := Lib.hid hlen
  clear hs h2 h3 h4 h5 hlen
  go_enter Tryz.func37, Tryz.ntmps37
  go_wp2
  go_loopw [1, 5] (fun kk i wr => ∃ j : Nat, j ≤ l.length ∧ i = .int .i64 j ∧ kk = .int .i64 (k0 + totN R j) ∧ Own wr base 45 p (l.map liV) ∧ (∀ (t : Nat) x, t < j → l[t]? = some x → Own wr base 3 x.q ((marks (k0 + totN R t) x.xs.length).map iv)) ∧ (∀ (t : Nat) x, j ≤ t → l[t]? = some x → Own wr base 3 x.q (x.xs.map iv)) ∧ Below base w wr) (fun _ i _ => l.length - (intOf i).toNat)
  case atStart => exact ⟨0, Nat.zero_le _, rfl, by simp [totN], H3.out, fun t x ht => by omega, fun t x _ hx => H4.out x (List.mem_of_getElem? hx), Below.refl _ _⟩
  case round =>
    obtain ⟨j, hj, rfl, rfl, ho, hd, hu, hb⟩ := hrel
    have HO := Lib.hid ho
    have HD := Lib.hid hd
    have HU := Lib.hid hu
    have HB := Lib.hid hb
    clear hd hu hb
    by_cases hlt : j < l.length
    · have hltz : (j : Int) < (l.length : Int) := by omega
      obtain ⟨b, x, hp, hx, hm, hc⟩ := ho.row_at hlt
      subst hp
      have hxr := li_at H2.out hx
      have hsm := HSM.out.2 x.xs (List.mem_of_getElem? hxr)
      have htl := totN_le HSM.out j
      have HT := Lib.hid (totN_step hxr)
      have HX := Lib.hid hx
      have hrow := HU.out j x (Nat.le_refl _) hx
      clear hxr hx hm ho
      rcases hrow with ⟨hq, hnil⟩ | ⟨g, sp, hq, hg, hr⟩
      · have hxn : x.xs = [] := by cases hxs : x.xs with | nil => rfl | cons a b => rw [hxs] at hnil; cases hnil
        have hx0 : x.xs.length = 0 := by rw [hxn]; rfl
        have HC := Lib.hid (markIntS_0 x.q x.cap (k0 + totN R j) wr)
        rw [hx0] at hc
        have HHX := Lib.hid hx0
        have HHQ := Lib.hid hq
        clear hq hnil hxn hx0 hsm
        go_wp2_with fail
        refine (HC.out).mono ?_
        rintro e w1 ⟨rfl, rfl⟩
        go_wp2
        go_roundw
        case rel =>
          refine ⟨j + 1, by omega, by go_num, by rw [HT.out, HHX.out]; rfl, HO.out, fun t y ht hy => ?_, fun t y ht hy => HU.out t y (by omega) hy, HB.out⟩
          rcases Nat.lt_or_ge t j with h' | h'
          · exact HD.out t y h' hy
          · have : t = j := by omega
            subst this
            rw [HX.out] at hy; cases hy
            exact Or.inl ⟨HHQ.out, by rw [HHX.out]; rfl⟩
        case measure => simp [intOf]; omega
      · have HC := Lib.hid (markIntS_x g x.cap x.xs sp (k0 + totN R j) wr hr (by omega) (by omega) (by omega))
        have HHQ := Lib.hid hq
        rw [hq] at hc
        have HG := Lib.hid hg
        clear hq hr hg
        go_wp2_with fail
        refine (HC.out).mono ?_
        rintro e w1 ⟨rfl, hr1, hm1⟩
        have HR1 := Lib.hid hr1
        have HM1 := Lib.hid hm1
        clear hr1 hm1 hc HC
        go_wp2
        go_roundw
        case rel =>
          refine ⟨j + 1, by omega, by go_num, by rw [HT.out]; first | rfl | (simp only [Int.natCast_add, Int.add_assoc]), HO.out.typ HM1.out (by decide), fun t y ht hy => ?_, fun t y ht hy => ?_, HB.out.trans (HM1.out.low.mono HG.out)⟩
          · rcases Nat.lt_or_ge t j with h' | h'
            · exact (HD.out t y h' hy).other HM1.out fun hh oo e => H5.out t j y x (by omega) hy HX.out hh oo g 0 e HHQ.out
            · have : t = j := by omega
              subst this
              rw [HX.out] at hy; cases hy
              exact Or.inr ⟨g, sp, HHQ.out, HG.out, HR1.out⟩
          · exact (HU.out t y (by omega) hy).other HM1.out fun hh oo e => H5.out t j y x (by omega) hy HX.out hh oo g 0 e HHQ.out
        case measure => simp [intOf]; omega
    · have hjn : j = l.length := by omega
      subst hjn
      clear ho
      go_wp2
      go_ret
      refine ⟨by rw [HLEN.out]; rfl, ⟨p, c, l, rfl, H2.out, HO.out, fun i x hx => HD.out i x ?_ hx⟩, HB.out⟩
      rcases Nat.lt_or_ge i l.length with h' | h'
      · exact h'
      · rw [List.getElem?_eq_none h'] at hx; cases hx
set_option maxHeartbeats 2000000 in
theorem heldSS_o (v : Value) (base : Nat) (R : List (List Int)) (k0 : Int) (w : World) (h : MkdSS w base k0 v R) (hs : SmSS R) (h0 : 0 ≤ k0) (h1 : k0 ≤ 1048576) :
    Calls Tryz.prog 38 #[v, .int .i64 k0] w fun e w' => e = .returned (.int .i64 (k0 + totN R R.length)) ∧ Fresh w w' := by
  obtain ⟨p, c, l, rfl, h2, h3, h4⟩ := h
  have hlen : l.length = R.length := by rw [← h2]; simp
  have hn : l.length ≤ 1024 := by have := hs.1; omega
  have HSM := Lib.hid hs
  have H2 := Lib.hid h2
  have H3 := Lib.hid h3
  have H4 := Lib.hid h4
  have HLEN := Lib.hid hlen
  clear hs h2 h3 h4 hlen
  go_enter Tryz.func38, Tryz.ntmps38
  go_wp2
  go_loopw [1, 5] (fun kk i wr => ∃ j : Nat, j ≤ l.length ∧ i = .int .i64 j ∧ kk = .int .i64 (k0 + totN R j) ∧ Fresh w wr) (fun _ i _ => l.length - (intOf i).toNat)
  case atStart => exact ⟨0, Nat.zero_le _, rfl, by simp [totN], frefl _⟩
  case round =>
    obtain ⟨j, hj, rfl, rfl, hf⟩ := hrel
    have HF := Lib.hid hf
    by_cases hlt : j < l.length
    · have hltz : (j : Int) < (l.length : Int) := by omega
      obtain ⟨b, x, hp, hx, hm, hc⟩ := (H3.out.keep hf).row_at hlt
      subst hp
      have hxr := li_at H2.out hx
      have hsm := HSM.out.2 x.xs (List.mem_of_getElem? hxr)
      have htl := totN_le HSM.out j
      have HT := Lib.hid (totN_step hxr)
      have HC := Lib.hid (heldIntS_o x.q x.cap base x.xs.length (k0 + totN R j) wr ((H4.out j x hx).keep hf) (by omega) (by omega) (by omega))
      have hneg : (k0 + (totN R j : Int) + (x.xs.length : Int) < 0) = False := eq_false (by omega)
      clear hxr hx hm hf
      go_wp2_with fail
      refine (HC.out).mono ?_
      rintro e w1 ⟨rfl, hb⟩
      have HB := Lib.hid (fstep HF.out hb)
      clear hb hc HC
      go_wp2
      go_roundw
      case rel => exact ⟨j + 1, by omega, by go_num, by rw [HT.out]; first | rfl | (simp only [Int.natCast_add, Int.add_assoc]), HB.out⟩
      case measure => simp [intOf]; omega
    · have hjn : j = l.length := by omega
      subst hjn
      clear hf
      go_wp2
      go_ret
      exact ⟨by rw [HLEN.out]; rfl, HF.out⟩
end Go.Proofs.YtgkgcfmmhkknkaaGreat
