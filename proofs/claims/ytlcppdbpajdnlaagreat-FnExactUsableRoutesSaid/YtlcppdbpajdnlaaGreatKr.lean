/- Contracts: routes that are a result, with numbers beside them: compared, marked, asked again. -/
import Derived.Test.YtlcppdbpajdnlaaGreatKm
import Derived.Test.YtlcppdbpajdnlaaGreatPm2
import Derived.Test.YtlcppdbpajdnlaaGreatRe
import Derived.Test.YtlcppdbpajdnlaaGreatU1
namespace Go.Proofs.YtlcppdbpajdnlaaGreat
open Go.RowKit Go.PlainAid

def RsSm (l : List LR) : Prop := l.length ≤ 1024 ∧ ∀ x ∈ l, x.fibs.length ≤ 1048576
def rsN (l : List LR) : Nat → Nat
  | 0 => 0
  | k + 1 => match l[k]? with | some x => rsN l k + (1 + x.fibs.length) | none => rsN l k
theorem rsN_step {l : List LR} {k : Nat} {x : LR} (h : l[k]? = some x) : rsN l (k + 1) = rsN l k + (1 + x.fibs.length) := by
  show (match l[k]? with | some x => rsN l k + (1 + x.fibs.length) | none => rsN l k) = _
  rw [h]
theorem rsN_le {l : List LR} (h : RsSm l) (k : Nat) : rsN l k ≤ 1048577 * k := by
  induction k with
  | zero => exact Nat.le_refl _
  | succ k ih =>
    cases hk : l[k]? with
    | none =>
      have e : rsN l (k + 1) = rsN l k := by
        show (match l[k]? with | some x => rsN l k + (1 + x.fibs.length) | none => rsN l k) = _
        rw [hk]
      rw [e]; omega
    | some x =>
      have := h.2 x (List.mem_of_getElem? hk)
      rw [rsN_step hk]; omega
def RsMk1 (w : World) (base : Nat) (k0 : Int) (cs : List Value) (i : Nat) (x : LR) (k : Nat) : Prop :=
  cs[i * 2]? = some (iv (k0 + k)) ∧ MkRow w base 3 x.q x.fibs.length fun t => iv (k0 + k + 1 + (t : Int))
def RsMk (w : World) (base : Nat) (k0 : Int) (r : Option Addr) (l : List LR) : Prop := l = [] ∨ ∃ g cs, r = some ⟨g, 0, none⟩ ∧ base ≤ g ∧ RowAt w g 53 cs ∧ l.length * 2 ≤ cs.length ∧ (∀ i x, l[i]? = some x → cs[i * 2 + 1]? = some (.slice x.q x.fibs.length x.cap)) ∧ ∀ i x, l[i]? = some x → RsMk1 w base k0 cs i x (rsN l i)
theorem RsMk.keep {w w' : World} {base : Nat} {k0 : Int} {r : Option Addr} {l : List LR} (h : RsMk w base k0 r l) (hb : Fresh w w') : RsMk w' base k0 r l := by
  rcases h with h | ⟨g, cs, h1, h2, h3, h4, h5, h6⟩
  · exact Or.inl h
  · exact Or.inr ⟨g, cs, h1, h2, h3.keep hb, h4, h5, fun i x hx => ⟨(h6 i x hx).1, (h6 i x hx).2.keep hb⟩⟩
theorem rs_get {l : List LR} {k : Nat} {x : LR} (hx : l[k]? = some x) (r : Nat) (hr : r < 2) : (l.flatMap lrC)[k * 2 + r]? = (lrC x)[r]? := flat_get lrC 2 (fun _ => rfl) l k r hr x hx
set_option maxHeartbeats 4000000 in
set_option maxRecDepth 20000 in
theorem markRouteS_p (r : Option Addr) (cap base : Nat) (l : List LR) (k0 : Int) (w : World) (ho : Own w base 53 r (l.flatMap lrC)) (hi : ∀ x ∈ l, RowN w base 3 x.q x.fibs.length) (hd : DistR l) (hs : RsSm l) (h0 : 0 ≤ k0) (h1 : k0 ≤ 1099511627776) :
    Calls Tryz.prog 20 #[.slice r l.length cap, .int .i64 k0] w fun e w' => e = .returned (.int .i64 (k0 + rsN l l.length)) ∧ RsMk w' base k0 r l ∧ Below base w w' ∧ (∀ g t cs, RowAt w g t cs → t ≠ 3 → t ≠ 53 → RowAt w' g t cs) ∧
      ∀ q n, RowN w base 3 q n → (∀ x ∈ l, ∀ g o h o', x.q = some ⟨g, o, none⟩ → q = some ⟨h, o', none⟩ → g ≠ h) → ∀ cs, Own w base 3 q cs → Own w' base 3 q cs := by
  have hn := hs.1
  have HSM := Lib.hid hs
  have HI := Lib.hid hi
  have HD := Lib.hid hd
  rcases ho with ⟨rfl, hnil⟩ | ⟨g, sp, rfl, hg, hr⟩
  · have hl0 : l = [] := by
      cases l with
      | nil => rfl
      | cons a l => simp [List.flatMap_cons] at hnil
    subst hl0
    clear hi hd hs
    go_enter Tryz.func20, Tryz.ntmps20
    go_wp2
    go_loop [1, 5] (fun kk i => i = .int .i64 0 ∧ kk = .int .i64 k0) (fun _ _ => 0)
    case atStart => exact ⟨rfl, rfl⟩
    case round =>
      obtain ⟨rfl, rfl⟩ := hrel
      go_wp2
      go_ret
      exact ⟨by simp [rsN], Or.inl rfl, Below.refl _ _, fun _ _ _ h _ _ => h, (by intros; assumption)⟩
  have HR0 := Lib.hid hr
  clear hr hi hd hs
  go_enter Tryz.func20, Tryz.ntmps20
  go_wp2
  go_loopw [1, 5] (fun kk i wr => ∃ (j : Nat) (cs : List Value), j ≤ l.length ∧ i = .int .i64 j ∧ kk = .int .i64 (k0 + rsN l j) ∧ RowAt wr g 53 cs ∧ l.length * 2 ≤ cs.length ∧ (∀ i x, l[i]? = some x → cs[i * 2 + 1]? = some (.slice x.q x.fibs.length x.cap)) ∧ (∀ i x, i < j → l[i]? = some x → RsMk1 wr base k0 cs i x (rsN l i)) ∧ (∀ i x, j ≤ i → l[i]? = some x → RowN wr base 3 x.q x.fibs.length) ∧ Below base w wr ∧ (∀ g t cs, RowAt w g t cs → t ≠ 3 → t ≠ 53 → RowAt wr g t cs) ∧ (∀ q n, RowN w base 3 q n → (∀ x ∈ l, ∀ g o h o', x.q = some ⟨g, o, none⟩ → q = some ⟨h, o', none⟩ → g ≠ h) → ∀ cs, Own w base 3 q cs → Own wr base 3 q cs)) (fun _ i _ => l.length - (intOf i).toNat)
  case atStart =>
    refine ⟨0, _, Nat.zero_le _, rfl, by simp [rsN], HR0.out, by rw [List.length_append, flat_len lrC 2 (fun _ => rfl)]; omega, fun i x hx => ?_, fun i x hi => by omega, fun i x _ hx => HI.out x (List.mem_of_getElem? hx), Below.refl _ _, fun _ _ _ h _ _ => h, fun _ _ _ _ _ h => h⟩
    have hil : i < l.length := by
      rcases Nat.lt_or_ge i l.length with h' | h'
      · exact h'
      · rw [List.getElem?_eq_none h'] at hx; cases hx
    rw [List.getElem?_append_left (by rw [flat_len lrC 2 (fun _ => rfl)]; omega), rs_get hx 1 (by omega)]; rfl
  case round =>
    obtain ⟨j, cs, hj, rfl, rfl, hr, hcs, hsl, hmk, hun, hb, hrw, hap⟩ := hrel
    by_cases hlt : j < l.length
    · have hltz : (j : Int) < (l.length : Int) := by omega
      obtain ⟨x, hx⟩ : ∃ x, l[j]? = some x := ⟨_, List.getElem?_eq_getElem hlt⟩
      have hsm := HSM.out.2 x (List.mem_of_getElem? hx)
      have hk := rsN_le HSM.out j
      have HT := Lib.hid (rsN_step hx)
      obtain ⟨kj, hkj⟩ : ∃ kj, kj = rsN l j := ⟨_, rfl⟩
      rw [← hkj] at hk HT ⊢
      have HKJ := Lib.hid hkj
      have hc0 : wr.cell? ⟨g, j * 2, none⟩ = some cs[j * 2] := hr.cell (List.getElem?_eq_getElem (by omega))
      have hc1 : wr.cell? ⟨g, j * 2 + 1, none⟩ = some (.slice x.q x.fibs.length x.cap) := hr.cell (hsl j x hx)
      have hf0 := hr.frozen (j * 2)
      obtain ⟨w2, hw2⟩ : ∃ w2, w2 = wr.setCell ⟨g, j * 2, none⟩ (.int .i64 (k0 + kj)) := ⟨_, rfl⟩
      obtain ⟨cs2, hcs2⟩ : ∃ cs2, cs2 = cs.set (j * 2) (iv (k0 + kj)) := ⟨_, rfl⟩
      have hr2 : RowAt w2 g 53 cs2 := by rw [hw2, hcs2]; exact hr.set (j * 2) (iv (k0 + kj))
      have hl2 : l.length * 2 ≤ cs2.length := by rw [hcs2]; simpa using hcs
      have hsl2 : ∀ i x, l[i]? = some x → cs2[i * 2 + 1]? = some (.slice x.q x.fibs.length x.cap) := by
        intro i y hy; rw [hcs2]; exact set_ne (hsl i y hy) (by omega)
      have hmk2 : ∀ i x, i < j → l[i]? = some x → RsMk1 w2 base k0 cs2 i x (rsN l i) := by
        intro i y hij hy
        obtain ⟨m0, mr⟩ := hmk i y hij hy
        rw [hcs2, hw2]
        exact ⟨set_ne m0 (by omega), mr.setO hr (by decide) _ _⟩
      have hun2 : ∀ i x, j ≤ i → l[i]? = some x → RowN w2 base 3 x.q x.fibs.length := by
        intro i y hij hy; rw [hw2]; exact (hun i y hij hy).setO hr (by decide) _ _
      have hb2 : Below base w w2 := by rw [hw2]; exact hb.setCell hg _
      have hrw2 : ∀ g t cs, RowAt w g t cs → t ≠ 3 → t ≠ 53 → RowAt w2 g t cs := by
        intro b t ds hds n1 n2
        rw [hw2]
        have h3 := hrw b t ds hds n1 n2
        have hne : b ≠ g := fun e => by subst e; exact n2 (h3.inj hr).1
        exact h3.setOther hne _
      have hap2 : ∀ q n, RowN w base 3 q n → (∀ x ∈ l, ∀ g o h o', x.q = some ⟨g, o, none⟩ → q = some ⟨h, o', none⟩ → g ≠ h) → ∀ cs, Own w base 3 q cs → Own w2 base 3 q cs := by
        intro q n a1 a2 ds a3
        rw [hw2]
        rcases hap q n a1 a2 ds a3 with h | ⟨b, sp', e1, e2, e3⟩
        · exact Or.inl h
        · exact Or.inr ⟨b, sp', e1, e2, e3.setOther (fun e => by subst e; exact absurd (e3.inj hr).1 (by decide)) _⟩
      have m0 : cs2[j * 2]? = some (iv (k0 + kj)) := by rw [hcs2, List.getElem?_set, if_pos rfl, if_pos (by omega)]
      have HW := Lib.hid hw2
      have HX := Lib.hid hx
      have HC := Lib.hid (markIntS_q x.q x.cap x.fibs.length base (k0 + kj + 1) w2 (hun2 j x (Nat.le_refl _) hx) (by omega) (by omega) (by omega))
      have HK := Lib.hid (And.intro hr2 (And.intro hl2 (And.intro hsl2 (And.intro hmk2 (And.intro hun2 (And.intro hb2 (And.intro hrw2 (And.intro hap2 m0))))))))
      clear hw2 hcs2 hr hr2 hl2 hsl hsl2 hmk hmk2 hun hun2 hb hb2 hrw hrw2 hx hkj m0 hap hap2
      go_wp2_with fail
      rw [← HW.out]
      refine (HC.out).mono ?_
      rintro e w3 ⟨rfl, hm3, hq3⟩
      have HM3 := Lib.hid hm3
      have HQ3 := Lib.hid hq3
      clear hm3 hq3 HC hc0 hc1 hf0
      go_wp2
      go_roundw
      case rel =>
        obtain ⟨hr2, hl2, hsl2, hmk2, hun2, hb2, hrw2, hap2, m0⟩ := HK.out
        refine ⟨j + 1, cs2, by omega, by go_num, by rw [HT.out]; first | rfl | (congr 1; omega), HQ3.out.row hr2 (by decide), hl2, hsl2, fun i y hij hy => ?_, fun i y hij hy => ?_, hb2.trans HQ3.out.below, fun b t ds hds n1 n2 => HQ3.out.row (hrw2 b t ds hds n1 n2) n1, fun q n a1 a2 ds a3 => HQ3.out.own (hap2 q n a1 a2 ds a3) (a2 x (List.mem_of_getElem? HX.out))⟩
        · rcases Nat.lt_or_ge i j with h' | h'
          · obtain ⟨n0, nr⟩ := hmk2 i y h' hy
            exact ⟨n0, HQ3.out.mkRow nr fun a o b o' e1 e2 => (HD.out i j y x (by omega) hy HX.out b o' a o e2 e1).symm⟩
          · have : i = j := by omega
            subst this
            rw [HX.out] at hy; cases hy
            rw [← HKJ.out]
            exact ⟨m0, HM3.out⟩
        · exact HQ3.out.rowN (hun2 i y (by omega) hy) fun a o b o' e1 e2 => (HD.out i j y x (by omega) hy HX.out b o' a o e2 e1).symm
      case measure => simp [intOf]; omega
    · have hjn : j = l.length := by omega
      subst hjn
      have HK := Lib.hid (And.intro hr (And.intro hcs (And.intro hsl (And.intro hmk (And.intro hb (And.intro hrw hap))))))
      clear hr hcs hsl hmk hun hb hrw hap
      go_wp2
      go_ret
      obtain ⟨hr, hcs, hsl, hmk, hb, hrw, hap⟩ := HK.out
      refine ⟨rfl, Or.inr ⟨g, cs, rfl, hg, hr, hcs, hsl, fun i x hx => hmk i x ?_ hx⟩, hb, hrw, hap⟩
      rcases Nat.lt_or_ge i l.length with h' | h'
      · exact h'
      · rw [List.getElem?_eq_none h'] at hx; cases hx
set_option maxHeartbeats 4000000 in
set_option maxRecDepth 20000 in
theorem heldRouteS_p (r : Option Addr) (cap base : Nat) (l : List LR) (k0 : Int) (w : World) (h : RsMk w base k0 r l) (hs : RsSm l) (h0 : 0 ≤ k0) (h1 : k0 ≤ 1073741824) :
    Calls Tryz.prog 22 #[.slice r l.length cap, .int .i64 k0] w fun e w' => e = .returned (.int .i64 (k0 + rsN l l.length)) ∧ Fresh w w' := by
  have hn := hs.1
  have HSM := Lib.hid hs
  have HM := Lib.hid h
  clear h hs
  go_enter Tryz.func22, Tryz.ntmps22
  go_wp2
  go_loopw [1, 5] (fun kk i wr => ∃ j : Nat, j ≤ l.length ∧ i = .int .i64 j ∧ kk = .int .i64 (k0 + rsN l j) ∧ Fresh w wr) (fun _ i _ => l.length - (intOf i).toNat)
  case atStart => exact ⟨0, Nat.zero_le _, rfl, by simp [rsN], frefl _⟩
  case round =>
    obtain ⟨j, hj, rfl, rfl, hf⟩ := hrel
    have HF := Lib.hid hf
    by_cases hlt : j < l.length
    · have hltz : (j : Int) < (l.length : Int) := by omega
      rcases HM.out.keep hf with hnil | ⟨g, cs, rfl, hg, hr, hcs, hsl, hmk⟩
      · rw [hnil] at hlt; simp at hlt
      obtain ⟨x, hx⟩ : ∃ x, l[j]? = some x := ⟨_, List.getElem?_eq_getElem hlt⟩
      have hsm := HSM.out.2 x (List.mem_of_getElem? hx)
      have hk := rsN_le HSM.out j
      have HT := Lib.hid (rsN_step hx)
      obtain ⟨m0, mr⟩ := hmk j x hx
      obtain ⟨kj, hkj⟩ : ∃ kj, kj = rsN l j := ⟨_, rfl⟩
      rw [← hkj] at hk HT m0 mr ⊢
      have c0 := hr.cell m0
      have c1 : wr.cell? ⟨g, j * 2 + 1, none⟩ = some (.slice x.q x.fibs.length x.cap) := hr.cell (hsl j x hx)
      have hneg : (k0 + (kj : Int) + 1 + (x.fibs.length : Int) < 0) = False := eq_false (by omega)
      have HC := Lib.hid (heldIntS_any x.q x.cap x.fibs.length (k0 + kj + 1) wr mr.ints (by omega) (by omega) (by omega))
      clear hr hsl hmk m0 mr hx hkj hf
      go_wp2_with fail
      refine (HC.out).mono ?_
      rintro e w3 ⟨rfl, rfl⟩
      go_wp2
      go_roundw
      case rel => exact ⟨j + 1, by omega, by go_num, by rw [HT.out]; first | rfl | (congr 1; omega), HF.out⟩
      case measure => simp [intOf]; omega
    · have hjn : j = l.length := by omega
      subst hjn
      clear hf
      go_wp2
      go_ret
      exact ⟨rfl, HF.out⟩
set_option maxHeartbeats 2000000 in
set_option maxRecDepth 100000 in
theorem eqRouteS_k (p q : Option Addr) (c d : Nat) (l l' : List LR) (w : World) (hv : l'.map LR.val = l.map LR.val) (hx : Cells w p (l.flatMap lrC)) (hxi : ∀ x ∈ l, Ints w x.q x.fibs) (hy : Cells w q (l'.flatMap lrC)) (hyi : ∀ x ∈ l', Ints w x.q x.fibs) (hs : RsSm l) :
    Calls Tryz.prog 14 #[.slice p l.length c, .slice q l'.length d] w fun e w' => e = .returned (.bool true) ∧ Fresh w w' := by
  have hlen : l'.length = l.length := by have := congrArg List.length hv; simpa using this
  have hn := hs.1
  have HSM := Lib.hid hs
  have HV := Lib.hid hv
  rw [hlen]
  have HLE := Lib.hid hlen
  clear hs hv hlen
  go_enter Tryz.func14, Tryz.ntmps14
  go_wp2
  go_loopw [5] (fun i wr => ∃ k : Nat, k ≤ l.length ∧ i = .int .i64 k ∧ Fresh w wr) (fun i _ => l.length - (intOf i).toNat)
  case atStart => exact ⟨0, Nat.zero_le _, rfl, frefl _⟩
  case round =>
    obtain ⟨k, hk, rfl, hf⟩ := hrel
    by_cases hlt : k < l.length
    · have hlt' : k < l'.length := by rw [HLE.out]; exact hlt
      obtain ⟨x, hx0⟩ : ∃ x, l[k]? = some x := ⟨_, List.getElem?_eq_getElem hlt⟩
      obtain ⟨y, hy0⟩ : ∃ y, l'[k]? = some y := ⟨_, List.getElem?_eq_getElem hlt'⟩
      obtain ⟨b, off, rfl, hc⟩ := (hx.keep hf).at (k := k * 2) (by rw [flat_len lrC 2 (fun _ => rfl)]; omega)
      obtain ⟨b', off', rfl, hc'⟩ := (hy.keep hf).at (k := k * 2) (by rw [flat_len lrC 2 (fun _ => rfl)]; omega)
      have hc0 := hc _ _ (rs_get hx0 0 (by omega))
      have hc1 := hc _ _ (rs_get hx0 1 (by omega))
      have hd0 := hc' _ _ (rs_get hy0 0 (by omega))
      have hd1 := hc' _ _ (rs_get hy0 1 (by omega))
      simp only [Nat.add_zero, ← Nat.add_assoc] at hc0 hc1 hd0 hd1
      have hxy : x.val = y.val := by
        have := congrArg (fun l => l[k]?) HV.out
        simp only [List.getElem?_map, hx0, hy0, Option.map_some, Option.some.injEq] at this
        exact this.symm
      have hm := List.mem_of_getElem? hx0
      have hsm := HSM.out.2 x hm
      have hltz : (k : Int) < (l.length : Int) := by omega
      have HF := Lib.hid hf
      have HI := Lib.hid ((hxi x hm).keep hf)
      have HI' := Lib.hid ((hyi y (List.mem_of_getElem? hy0)).keep hf)
      have HXY := Lib.hid hxy
      clear hx0 hy0 hx hy hf hxy hm hc hc' hxi hyi
      go_wp2
      go_still_tail 8, (by kernel_rfl)
      change wpList _ _ _ _ _ wr.drew
      have HF2 : Hid (Fresh w wr.drew) := fdrew HF.out
      have HI2 := Lib.hid (HI.out.keep (fdrew (frefl wr)))
      have HI2' := Lib.hid (HI'.out.keep (fdrew (frefl wr)))
      generalize wr.drew = w2 at HF2 HI2 HI2'
      go_wp2_with fail
      refine (eqRoute_same x y _ HXY.out HI2.out HI2'.out hsm).mono ?_
      rintro e w3 ⟨rfl, hb3⟩
      have HF3 := Lib.hid (fstep HF2.out hb3)
      clear hb3
      go_wp2
      go_roundw
      case rel => exact ⟨k + 1, by omega, by go_num, HF3.out⟩
      case measure => simp [intOf]; omega
    · have hkn : k = l.length := by omega
      have hltz : ¬ (k : Int) < (l.length : Int) := by omega
      have HF := Lib.hid hf
      clear hf
      go_wp2
      go_ret
      exact ⟨rfl, HF.out⟩
end Go.Proofs.YtlcppdbpajdnlaaGreat
