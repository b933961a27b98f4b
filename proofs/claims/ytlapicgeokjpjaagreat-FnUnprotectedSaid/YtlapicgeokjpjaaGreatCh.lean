/- Contracts: the shortest ascending list of numbers for which something holds: the program's search by a function value. -/
import Derived.Test.YtlapicgeokjpjaaGreatCm
import Derived.Test.YtlapicgeokjpjaaGreatY6
import Derived.ArgAppend
namespace Go.Proofs.YtlapicgeokjpjaaGreat
open Go.RowKit Go.PlainAid

/-- All rows stay but a variable's. -/
def KpV (bo : Nat) (w w' : World) : Prop := ∀ g t cs, RowAt w g t cs → g ≠ bo → RowAt w' g t cs
theorem KpV.refl (bo : Nat) (w : World) : KpV bo w w := fun _ _ _ h _ => h
theorem KpV.trans {bo : Nat} {a b c : World} (h : KpV bo a b) (k : KpV bo b c) : KpV bo a c := fun g t cs hr n1 => k g t cs (h g t cs hr n1) n1
theorem KpV.fresh {bo : Nat} {a b : World} (h : Fresh a b) : KpV bo a b := fun _ _ _ hr _ => hr.keep h
theorem KpV.set {bo : Nat} {w : World} (i : Nat) (v : Value) : KpV bo w (w.setCell ⟨bo, i, none⟩ v) := fun _ _ _ h hn => h.setOther hn v
/-- A list of numbers in a row that is not that variable. -/
def RowV (w : World) (bo : Nat) (p : Option Addr) (c : Nat) (l : List Int) : Prop := (p = none ∧ c = 0 ∧ l = []) ∨ ∃ g sp, p = some ⟨g, 0, none⟩ ∧ g ≠ bo ∧ RowAt w g 3 (l.map iv ++ sp)
theorem RowV.ints {w : World} {bo c : Nat} {p : Option Addr} {l : List Int} (h : RowV w bo p c l) : Ints w p l := by
  rcases h with ⟨_, _, h⟩ | ⟨g, sp, h1, _, h3⟩
  · subst h; exact Or.inl rfl
  · refine Or.inr ⟨g, 0, h1, fun i v hv => ?_⟩
    rw [Nat.zero_add]
    refine h3.cell ?_
    have hlt : i < (l.map iv).length := (List.getElem?_eq_some_iff.1 hv).1
    rw [List.getElem?_append_left hlt]; exact hv
theorem RowV.kp {w w' : World} {bo c : Nat} {p : Option Addr} {l : List Int} (h : RowV w bo p c l) (k : KpV bo w w') : RowV w' bo p c l := by
  rcases h with h | ⟨g, sp, h1, h2, h3⟩
  · exact Or.inl h
  · exact Or.inr ⟨g, sp, h1, h2, k _ _ _ h3 h2⟩
theorem RowV.own {w : World} {bo c : Nat} {p : Option Addr} {l : List Int} (h : RowV w bo p c l) : Own w 0 3 p (l.map iv) := by
  rcases h with ⟨h1, _, h2⟩ | ⟨g, sp, h1, _, h3⟩
  · subst h2; exact Or.inl ⟨h1, rfl⟩
  · exact Or.inr ⟨g, sp, h1, Nat.zero_le _, h3⟩
theorem RowV.holds {w : World} {bo c : Nat} {p : Option Addr} {l : List Int} (h : RowV w bo p c l) : ∀ b, p = some b → ∀ j u, (l.map iv)[j]? = some u → w.cell? (b.add j) = some u := h.own.holds
theorem RowV.isNil {w : World} {bo c : Nat} {p : Option Addr} {l : List Int} (h : RowV w bo p c l) : p = none → l.length = 0 ∧ l.length = 0 := by
  rcases h with ⟨_, _, h2⟩ | ⟨g, sp, h1, _, _⟩
  · subst h2; exact fun _ => ⟨rfl, rfl⟩
  · exact fun h => by rw [h1] at h; cases h
/-- Ascending lists of so many numbers from one on, below another. -/
def ChL (fr N cnt : Nat) (ext : List Int) : Prop := ext.length = cnt ∧ ext.Pairwise (· < ·) ∧ ∀ i ∈ ext, (fr : Int) ≤ i ∧ i < (N : Int)
theorem ChL.nil (fr N : Nat) : ChL fr N 0 [] := ⟨rfl, List.Pairwise.nil, by simp⟩
theorem ChL.cons {k N cnt : Nat} {ext : List Int} (h : ChL (k + 1) N cnt ext) (hk : k < N) : ChL k N (cnt + 1) ((k : Int) :: ext) := by
  obtain ⟨h1, h2, h3⟩ := h
  refine ⟨by simp [h1], List.pairwise_cons.2 ⟨fun i hi => by have := h3 i hi; omega, h2⟩, fun i hi => ?_⟩
  rcases List.mem_cons.1 hi with rfl | hi
  · omega
  · have := h3 i hi; omega
theorem ChL.less {k m N cnt : Nat} {ext : List Int} (h : ChL k N cnt ext) (hk : m ≤ k) : ChL m N cnt ext := ⟨h.1, h.2.1, fun i hi => by have := h.2.2 i hi; omega⟩
theorem ChL.uncons {k N cnt : Nat} {ext : List Int} (h : ChL k N (cnt + 1) ext) : ∃ (m : Nat) (r : List Int), ext = (m : Int) :: r ∧ k ≤ m ∧ m < N ∧ ChL (m + 1) N cnt r := by
  obtain ⟨h1, h2, h3⟩ := h
  cases ext with
  | nil => simp at h1
  | cons x r =>
    have hx := h3 x (List.mem_cons_self ..)
    rw [List.pairwise_cons] at h2
    refine ⟨x.toNat, r, by rw [show ((x.toNat : Nat) : Int) = x by omega], by omega, by omega, by simpa using h1, h2.2, fun i hi => ?_⟩
    have a1 := h2.1 i hi
    have a2 := h3 i (List.mem_cons_of_mem _ hi)
    omega
/-- What the search hands back. -/
def OutCh (St : World → List Int → Prop) (bo : Nat) (g : List Int → Bool) (fr N cnt : Nat) (l : List Int) (w : World) (e : Ending) (w' : World) : Prop := ∃ (b : Bool) (o' : List Int), e = .returned (.bool b) ∧ St w' o' ∧ KpV bo w w' ∧
  (b = true → g o' = true ∧ ∃ ext, ChL fr N cnt ext ∧ o' = l ++ ext) ∧ (b = false → ∀ ext, ChL fr N cnt ext → g (l ++ ext) = false)
theorem wrap_sub1 (c : Nat) (h : c ≤ 64) : IntKind.i64.wrap (((c + 1 : Nat) : Int) - 1) = (c : Int) := by rw [IntKind.wrap_i64]; omega
set_option maxHeartbeats 8000000 in
set_option maxRecDepth 100000 in
theorem choices_any (St : World → List Int → Prop) (bo : Nat) (cl : FuncId) (cp : Array Value) (g : List Int → Bool) (eg : ∀ args w, (callFunc cl args).run Tryz.prog w = .ok (.enter cl args) w)
    (hkeep : ∀ w w' o, St w o → Fresh w w' → St w' o) (hbo : ∀ w o, St w o → bo < w.heap.size)
    (hv : ∀ p c l o w, St w o → RowV w bo p c l → l.length ≤ 64 → Calls Tryz.prog cl (#[.slice p l.length c] ++ cp) w fun e w' => e = .returned (.bool (g l)) ∧ St w' l ∧ KpV bo w w') (N : Nat) (hN : N ≤ 64) :
    ∀ (cnt fr : Nat) (p : Option Addr) (c : Nat) (l o : List Int) (w : World), fr ≤ N → l.length + cnt ≤ 64 → l.length ≤ c → c ≤ 9223372036854775807 → St w o → RowV w bo p c l →
      Calls Tryz.prog 88 #[.int .i64 (fr : Int), .int .i64 (N : Int), .int .i64 (cnt : Int), .slice p l.length c, .func (.func cl) #[] cp] w (OutCh St bo g fr N cnt l w) := by
  have HKE := Lib.hid hkeep
  have HBO := Lib.hid hbo
  have HV := Lib.hid hv
  clear hkeep hbo hv
  intro cnt
  induction cnt with
  | zero =>
    intro fr p c l o w _ hl _ _ hst hrow
    have HC := Lib.hid (HV.out p c l o w hst hrow (by omega))
    clear hst hrow
    go_enter Tryz.func88, Tryz.ntmps88
    go_wp2_with fail
    refine (HC.out).mono ?_
    rintro e w2 ⟨rfl, hst, hkp⟩
    have HST := Lib.hid hst
    have HKP := Lib.hid hkp
    clear hst hkp HC
    go_wp2
    go_ret
    refine ⟨g l, l, rfl, HST.out, HKP.out, fun h => ⟨h, [], ChL.nil _ _, by simp⟩, fun h ext hx => ?_⟩
    have : ext = [] := List.eq_nil_of_length_eq_zero hx.1
    subst this
    rw [List.append_nil]; exact h
  | succ cnt ih =>
    intro fr p c l o w hfr hl hlc hcm hst hrow
    have HIH := Lib.hid ih
    have HST0 := Lib.hid hst
    have HRW0 := Lib.hid hrow
    have hz : (((cnt + 1 : Nat) : Int) == 0) = false := by rw [beq_eq_false_iff_ne]; omega
    have hws := wrap_sub1 cnt (by omega)
    obtain ⟨cz, hcz⟩ : ∃ z : Int, z = ((cnt + 1 : Nat) : Int) := ⟨_, rfl⟩
    rw [← hcz] at hz hws ⊢
    clear hcz ih hst hrow
    go_enter Tryz.func88, Tryz.ntmps88
    go_wp2
    go_loopw [11] (fun i wr => ∃ (k : Nat) (o : List Int), fr ≤ k ∧ k ≤ N ∧ i = .int .i64 k ∧ St wr o ∧ KpV bo w wr ∧ Hid (∀ (m : Nat), fr ≤ m → m < k → ∀ ext, ChL (m + 1) N cnt ext → g (l ++ (m : Int) :: ext) = false)) (fun i _ => N - (intOf i).toNat)
    case atStart => exact ⟨fr, o, Nat.le_refl _, hfr, rfl, HST0.out, KpV.refl _ _, (show ∀ (m : Nat), _ from fun m h1 h2 => by omega)⟩
    case round =>
      obtain ⟨k, o2, hk1, hk2, rfl, hst, hkp, HNO⟩ := hrel
      have HST := Lib.hid hst
      have HKP := Lib.hid hkp
      have HRW := Lib.hid (HRW0.out.kp hkp)
      clear hst hkp
      by_cases hlt : k < N
      · have hltz : (k : Int) < (N : Int) := by omega
        have w1 : IntKind.i64.wrap ((k : Int) + 1) = ((k + 1 : Nat) : Int) := by rw [IntKind.wrap_i64]; omega
        have hlcz : (l.length : Int) ≤ (c : Int) := by omega
        obtain ⟨W2, hW2⟩ : ∃ W, W = wr.alloc (.cells #[.int .i64 (k : Int)] 3) := ⟨_, rfl⟩
        have hf2 : Fresh wr W2 := by rw [hW2]; exact fnew (frefl _) _
        have hnew : ∀ j u, [iv (k : Int)][j]? = some u → W2.cell? ((⟨wr.heap.size, 0, none⟩ : Addr).add j) = some u := by rw [hW2]; exact add_new wr 3 [iv (k : Int)]
        have hint := HRW.out.ints
        have HRV2 := Lib.hid (HRW.out.kp (KpV.fresh hf2))
        have HST2 := Lib.hid (HKE.out _ _ _ HST.out hf2)
        have HB2 := Lib.hid (HBO.out _ _ HST2.out)
        have HF2 := Lib.hid hf2
        have HW2 := Lib.hid hW2
        have HNEW := Lib.hid hnew
        obtain ⟨i0, hi, hz0, hz1, hz2⟩ := info_parts infoInt
        have HI0 := Lib.hid hi
        have HI1 := Lib.hid hz0
        have HI2 := Lib.hid hz1
        have HI3 := Lib.hid hz2
        clear hf2 hW2 hnew hi hz0 hz1 hz2 hint
        go_wp2_with (at_builtin; rw [← HW2.out]; refine wpList_append_grows _ rfl _ _ 37 rfl 3 i0 (.int .i64 0) 1 8 Tryz.underlying37 HI0.out HI1.out HI2.out HI3.out rfl (by decide) p l.length l.length (l.map iv) rfl HRV2.out.isNil (by simp) HRV2.out.holds ⟨wr.heap.size, 0, none⟩ 1 1 [iv (k : Int)] rfl rfl HNEW.out (by intro u hu; simp at hu; subst hu; rfl) (by omega) (by unfold maxLen; omega) (by omega) ?_; intro v3 w3 hown3 hgr3)
        obtain ⟨q3, c3, rfl, ho3, hl3, hc3⟩ := owns_cap hown3
        have hf3 := fgrow0 hgr3
        have hrv3 : RowV w3 bo q3 c3 (l ++ [(k : Int)]) := by
          rcases ho3 with ⟨_, h⟩ | ⟨g, sp, h1, h2, h3⟩
          · exfalso
            have := congrArg List.length h
            simp at this
          · refine Or.inr ⟨g, sp, h1, ?_, by rw [List.map_append]; exact h3⟩
            have := HB2.out
            omega
        have HC := Lib.hid (HIH.out (k + 1) q3 c3 (l ++ [(k : Int)]) o2 w3 (by omega) (by simp; omega) (by simpa using hl3) hc3 (HKE.out _ _ _ HST2.out hf3) hrv3)
        simp only [List.length_append, List.length_singleton] at HC
        have HF3 := Lib.hid (fstep HF2.out hf3)
        clear hown3 hgr3 ho3 hl3 hc3 hf3 hrv3
        go_wp2_with fail
        refine (HC.out).mono ?_
        rintro e w4 ⟨b, o', rfl, hst4, hkp4, hyes, hno⟩
        have HST4 := Lib.hid hst4
        have HKP4 := Lib.hid (HKP.out.trans ((KpV.fresh HF3.out).trans hkp4))
        have HYES := Lib.hid hyes
        have HNO4 := Lib.hid hno
        clear hst4 hkp4 hyes hno HC
        cases b
        · go_wp2
          go_roundw
          case rel =>
            refine ⟨k + 1, o', by omega, by omega, by go_num, HST4.out, HKP4.out, (show ∀ (m : Nat), _ from fun m h1 h2 ext hx => ?_)⟩
            rcases Nat.lt_or_ge m k with h3 | h3
            · exact HNO.out m h1 h3 ext hx
            · obtain rfl : m = k := by omega
              have := HNO4.out (by simp) ext hx
              rwa [List.append_assoc] at this
          case measure => simp [intOf]; omega
        · go_wp2
          go_ret
          refine ⟨true, o', rfl, HST4.out, HKP4.out, fun _ => ?_, (fun h => by simp at h)⟩
          obtain ⟨h1, ext, h2, h3⟩ := HYES.out (by simp)
          exact ⟨h1, (k : Int) :: ext, (h2.cons hlt).less hk1, by rw [h3, List.append_assoc]; rfl⟩
      · have hltz : ¬ (k : Int) < (N : Int) := by omega
        go_wp2
        go_ret
        refine ⟨false, o2, rfl, HST.out, HKP.out, ⟨(fun h => by simp at h), fun _ ext hx => ?_⟩⟩
        obtain ⟨m, r, rfl, h1, h2, h3⟩ := hx.uncons
        exact HNO.out m h1 (by omega) r h3
end Go.Proofs.YtlapicgeokjpjaaGreat
