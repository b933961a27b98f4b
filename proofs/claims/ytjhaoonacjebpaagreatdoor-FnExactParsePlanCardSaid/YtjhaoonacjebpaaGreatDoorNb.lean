/- Contracts: the text of numbers, written and read, on both sides. -/
import Derived.Test.YtjhaoonacjebpaaGreatDoorShelf
import Derived.Test.YtjhaoonacjebpaaGreatDoorBkT
import Derived.Test.YtjhaoonacjebpaaGreatDoorU2
import Derived.Lib.SmallJoins
import Derived.Lib.AppendIntMem
import Derived.Lib.AtoiErrMem
import Derived.Deep.DeepCutAuto
namespace Go.Proofs.YtjhaoonacjebpaaGreatDoor
open Go.RowKit Go.PlainAid

/-- The library's table of powers lies in memory. -/
def TabE (w : World) : Prop := Lib.TabIs Tryz.prog w "internal/strconv.uint64pow10" .u64 Lib.pow10Tab
theorem glob_tab : Tryz.prog.globalNamed "internal/strconv.uint64pow10" = some 1 := by kernel_rfl
theorem TabE.keep {w w' : World} (h : TabE w) (hb : Fresh w w') : TabE w' := Joins.var_stays glob_tab h hb (Nat.le_refl _)
theorem itoa_any (n : Int) (w : World) (hT : TabE w) (h0 : -999999999 ≤ n) (h1 : n ≤ 999999999) :
    Calls Tryz.prog 22 #[.int .i64 n] w fun e w' => e = .returned (.string (ba (Lib.itoa n))) ∧ Fresh w w' :=
  (Tryz.strconv_Itoa n (by omega) (by omega) w hT).mono fun e w' ⟨he, k, os, hw⟩ => ⟨he, by rw [hw]; exact Lib.below_grow _ w (Nat.le_refl _) k os⟩
def ten : ByteArray := ⟨#[48, 49, 50, 51, 52, 53, 54, 55, 56, 57]⟩
theorem ten_cut {n : Nat} (h : n < 10) : ten.extract n (n + 1) = ba [UInt8.ofNat (48 + n)] := by
  have key : ∀ k : Fin 10, ten.extract k.val (k.val + 1) = ba [UInt8.ofNat (48 + k.val)] := by decide +kernel
  exact key ⟨n, h⟩
theorem itoa_small {n : Int} (h0 : 0 ≤ n) (h1 : n < 10) : Lib.itoa n = [UInt8.ofNat (48 + n.toNat)] := by
  rw [itoa_nat h0, Lib.decDigits, dif_pos (by omega)]
theorem itoa_step {n : Int} (h : 10 ≤ n) : Lib.itoa n = Lib.itoa (n / 10) ++ [UInt8.ofNat (48 + (n % 10).toNat)] := by
  rw [itoa_nat (by omega), itoa_nat (by omega), Lib.decDigits, dif_neg (by omega), show (n / 10).toNat = n.toNat / 10 by omega, show (n % 10).toNat = n.toNat % 10 by omega]
theorem itoa_flip {n : Int} (h : n < 0) : Lib.itoa n = 45 :: Lib.itoa (-n) := by
  rw [itoa_neg h, itoa_nat (by omega), show (-n).toNat = n.natAbs by omega]
theorem itoa_len9 {n : Int} (h0 : -999999999 ≤ n) (h1 : n ≤ 999999999) : (Lib.itoa n).length ≤ 10 := by
  by_cases h : n < 0
  · rw [itoa_neg h, List.length_cons, Lib.decDigits_length]
    have := nDigits_le (u := n.natAbs) (k := 8) (by omega)
    omega
  · rw [itoa_nat (by omega), Lib.decDigits_length]
    have := nDigits_le (u := n.toNat) (k := 8) (by omega)
    omega
set_option maxHeartbeats 1000000 in
set_option maxRecDepth 20000 in
theorem l1Num_nat : ∀ (N : Nat) (n : Int) (w : World), n.toNat < N → 0 ≤ n → n ≤ 999999999 →
    Calls Tryz.prog 88 #[.int .i64 n] w fun e w' => e = .returned (.string (ba (Lib.itoa n))) ∧ Fresh w w' := by
  intro N
  induction N with
  | zero => intro n w hN; omega
  | succ N ih =>
    intro n w hN h0 h1
    have hng : ¬ n < 0 := by omega
    by_cases hs : n < 10
    · have hd0 : (n + 1).toNat = n.toNat + 1 := by omega
      have HI := Lib.hid (ih)
      clear ih
      go_enter Tryz.func88, Tryz.ntmps88
      go_wp2
      go_ret
      refine ⟨?_, frefl _⟩
      show Ending.returned (.string (ten.extract n.toNat (n.toNat + 1))) = _
      rw [ten_cut (by omega), itoa_small h0 hs]
    · have q1 : n.tdiv 10 = n / 10 := Int.tdiv_eq_ediv_of_nonneg (by omega)
      have q2 : n.tmod 10 = n % 10 := Int.tmod_eq_emod_of_nonneg (by omega)
      have q3 : 0 ≤ n % 10 := by omega
      have q4 : n % 10 < 10 := by omega
      have q5 : IntKind.i64.wrap (n % 10 + 1) = n % 10 + 1 := by rw [IntKind.wrap_i64]; omega
      have q6 : (n % 10 + 1).toNat = (n % 10).toNat + 1 := by omega
      obtain ⟨t, ht⟩ : ∃ t, t = ba (Lib.itoa (n / 10)) := ⟨_, rfl⟩
      have hts : t.size ≤ 10 := by rw [ht, ba_size]; exact itoa_len9 (by omega) (by omega)
      have HI : Hid (∀ W, Calls Tryz.prog 88 #[.int .i64 (n / 10)] W fun e w' => e = .returned (.string t) ∧ Fresh W w') := fun W => by rw [ht]; exact ih (n / 10) W (by omega) (by omega) (by omega)
      have HT := Lib.hid ht
      clear ih ht
      go_enter Tryz.func88, Tryz.ntmps88
      go_wp2
      refine wp_region_after (by kernel_rfl) (by kernel_rfl) ?_
      repeat (go_big_quiet_step ((go_at_call 88; exact after_call (HI.out _))))
      refine wpQuiet_nil ?_
      rintro _ ⟨xa, rfl⟩
      go_wp2
      go_ret
      refine ⟨?_, xa.h⟩
      show Ending.returned (.string (t ++ ten.extract (n % 10).toNat ((n % 10).toNat + 1))) = _
      rw [HT.out, ten_cut (by omega), ba_app, itoa_step hs]
set_option maxHeartbeats 1000000 in
set_option maxRecDepth 20000 in
theorem l1Num_any (n : Int) (w : World) (h0 : -999999999 ≤ n) (h1 : n ≤ 999999999) :
    Calls Tryz.prog 88 #[.int .i64 n] w fun e w' => e = .returned (.string (ba (Lib.itoa n))) ∧ Fresh w w' := by
  by_cases hn : n < 0
  · obtain ⟨t, ht⟩ : ∃ t, t = ba (Lib.itoa (-n)) := ⟨_, rfl⟩
    have hts : t.size ≤ 10 := by rw [ht, ba_size]; exact itoa_len9 (by omega) (by omega)
    have HI : Hid (∀ W, Calls Tryz.prog 88 #[.int .i64 (-n)] W fun e w' => e = .returned (.string t) ∧ Fresh W w') := fun W => by rw [ht]; exact l1Num_nat (n.natAbs + 1) (-n) W (by omega) (by omega) (by omega)
    have hsz : (9223372036854775807 : Int) < 1 + t.size ↔ False := ⟨fun h => by omega, fun h => h.elim⟩
    have HT := Lib.hid ht
    clear ht
    go_enter Tryz.func88, Tryz.ntmps88
    go_wp2_with (go_at_call 88; refine (HI.out _).mono ?_; rintro e w1 ⟨rfl, hf1⟩)
    go_ret
    refine ⟨?_, hf1⟩
    show Ending.returned (.string (ba [45] ++ t)) = _
    rw [HT.out, ba_app, itoa_flip hn]; rfl
  · exact l1Num_nat (n.toNat + 1) n w (by omega) (by omega) h1

/-- A variable of the library holds an error. -/
def SynE (w : World) : Prop := ∃ tp p, w.var? Tryz.prog "strconv.ErrSyntax" = some #[.iface tp p]
theorem glob_syn : Tryz.prog.globalNamed "strconv.ErrSyntax" = some 2 := by kernel_rfl
theorem SynE.keep {w w' : World} (h : SynE w) (hb : Fresh w w') : SynE w' := by
  obtain ⟨tp, p, h⟩ := h; exact ⟨tp, p, Joins.var_stays glob_syn h hb (Nat.le_refl _)⟩
theorem streq {x s : ByteArray} (h : x = s) : (x.toList == s.toList) = true := by rw [h]; simp
theorem inside_any (x a b : Int) (w : World) :
    Calls Tryz.prog 116 #[.int .i64 x, .int .i64 a, .int .i64 b] w fun e w' => e = .returned (.bool (inB x a b)) ∧ w = w' := by
  by_cases h1 : a ≤ x
  · by_cases h2 : x ≤ b
    · have HE := Lib.hid (inB_t h1 h2)
      go_enter Tryz.func116, Tryz.ntmps116
      go_wp2
      go_ret
      exact ⟨ret_bool HE.out.symm, rfl⟩
    · have HE : Hid (inB x a b = false) := inB_f (by omega)
      go_enter Tryz.func116, Tryz.ntmps116
      go_wp2
      go_ret
      exact ⟨ret_bool HE.out.symm, rfl⟩
  · have HE : Hid (inB x a b = false) := inB_f (by omega)
    go_enter Tryz.func116, Tryz.ntmps116
    go_wp2
    go_ret
    exact ⟨ret_bool HE.out.symm, rfl⟩
/-- The number of a text is handed back, and whether there is one. -/
def OutNum (s : ByteArray) (w : World) (e : Ending) (w' : World) : Prop := e = .returned (.tuple #[.int .i64 ((numF (bs s)).getD 0), .bool (numF (bs s)).isSome]) ∧ Fresh w w'
theorem OutNum.no {s : ByteArray} {w w' : World} (h : numF (bs s) = none) (hf : Fresh w w') : OutNum s w (.returned (.tuple #[.int .i64 0, .bool false])) w' := by unfold OutNum; rw [h]; exact ⟨rfl, hf⟩
theorem OutNum.yes {s : ByteArray} {w w' : World} {n : Int} (h : numF (bs s) = some n) (hf : Fresh w w') : OutNum s w (.returned (.tuple #[.int .i64 n, .bool true])) w' := by unfold OutNum; rw [h]; exact ⟨rfl, hf⟩
set_option maxHeartbeats 2000000 in
set_option maxRecDepth 20000 in
theorem parseInt_any (s : ByteArray) (w : World) (hT : TabE w) (hS : SynE w) :
    Calls Tryz.prog 69 #[.string s] w (OutNum s w) := by
  by_cases h7 : s.size ≤ 7
  · cases ha : Lib.atoi (bs s) with
    | none =>
      have HN : Hid (numF (bs s) = none) := by show numF (bs s) = none; unfold numF; rw [ha]
      obtain ⟨tp, p, hv⟩ := hS
      have HA := Lib.hid (Tryz.strconv_Atoi_err_var s (by omega) ha tp p w hv)
      clear hv hT ha
      go_enter Tryz.func69, Tryz.ntmps69
      go_wp2_with fail
      refine (HA.out).mono ?_
      rintro e w1 ⟨N, rfl, hN, _, hf1⟩
      go_wp2
      go_ret2
      exact OutNum.no HN.out hf1
    | some n =>
      have HAT := Lib.hid ha
      have HA := Lib.hid (Tryz.strconv_Atoi s n (by omega) ha w)
      clear ha
      by_cases hr : -999999 ≤ n ∧ n ≤ 999999
      · obtain ⟨r1, r2⟩ := hr
        have hin : inB n (-999999) 999999 = true := inB_t r1 r2
        have HT := Lib.hid hT
        clear hT hS
        obtain ⟨t, ht⟩ : ∃ t, t = ba (Lib.itoa n) := ⟨_, rfl⟩
        have HI : Hid (∀ W, TabE W → Calls Tryz.prog 22 #[.int .i64 n] W fun e w' => e = .returned (.string t) ∧ Fresh W w') := fun W hW => by rw [ht]; exact itoa_any n W hW (by omega) (by omega)
        by_cases he : t = s
        · have hd := streq he
          have HN : Hid (numF (bs s) = some n) := numF_iff.2 ⟨⟨r1, r2⟩, by rw [← he, ht, bs_ba]⟩
          clear ht he
          go_enter Tryz.func69, Tryz.ntmps69
          go_wp2_with fail
          refine (HA.out).mono ?_
          rintro e w1 ⟨rfl, tt, hw1⟩
          have hf1 : Fresh w w1 := by rw [hw1]; exact Lib.bytesWorld_below _ _ _
          have HT1 := Lib.hid (HT.out.keep hf1)
          clear hw1
          go_wp2_with (first | (go_at_call 116; refine (inside_any _ _ _ _).mono ?_; rintro e w2 ⟨rfl, rfl⟩) | (go_at_call 22; refine (HI.out _ HT1.out).mono ?_; rintro e w3 ⟨rfl, hf3⟩))
          go_ret2
          exact OutNum.yes HN.out (fstep hf1 hf3)
        · have hd := strne he
          have HN : Hid (numF (bs s) = none) := by
            show numF (bs s) = none
            cases e : numF (bs s) with
            | none => rfl
            | some m =>
              obtain ⟨_, h3⟩ := numF_iff.1 e
              have h4 := atoi_itoa m
              rw [h3, HAT.out] at h4
              cases h4
              exact absurd (by rw [ht, h3, ba_bs]) he
          clear ht he
          go_enter Tryz.func69, Tryz.ntmps69
          go_wp2_with fail
          refine (HA.out).mono ?_
          rintro e w1 ⟨rfl, tt, hw1⟩
          have hf1 : Fresh w w1 := by rw [hw1]; exact Lib.bytesWorld_below _ _ _
          have HT1 := Lib.hid (HT.out.keep hf1)
          clear hw1
          go_wp2_with (first | (go_at_call 116; refine (inside_any _ _ _ _).mono ?_; rintro e w2 ⟨rfl, rfl⟩) | (go_at_call 22; refine (HI.out _ HT1.out).mono ?_; rintro e w3 ⟨rfl, hf3⟩))
          go_ret2
          exact OutNum.no HN.out (fstep hf1 hf3)
      · have hin : inB n (-999999) 999999 = false := inB_f hr
        have HN : Hid (numF (bs s) = none) := by
          show numF (bs s) = none
          cases e : numF (bs s) with
          | none => rfl
          | some m =>
            obtain ⟨h3, h4⟩ := numF_iff.1 e
            have h5 := atoi_itoa m
            rw [h4, HAT.out] at h5
            cases h5
            exact absurd h3 hr
        clear hr hT hS
        go_enter Tryz.func69, Tryz.ntmps69
        go_wp2_with fail
        refine (HA.out).mono ?_
        rintro e w1 ⟨rfl, tt, hw1⟩
        have hf1 : Fresh w w1 := by rw [hw1]; exact Lib.bytesWorld_below _ _ _
        clear hw1
        go_wp2_with (go_at_call 116; refine (inside_any _ _ _ _).mono ?_; rintro e w2 ⟨rfl, rfl⟩)
        go_ret2
        exact OutNum.no HN.out hf1
  · have HN := Lib.hid (numF_long (s := bs s) (by rw [bs_len]; omega))
    have h8 : (7 : Int) < s.size := by omega
    clear hT hS
    go_enter Tryz.func69, Tryz.ntmps69
    go_wp2
    go_ret2
    exact OutNum.no HN.out (frefl _)
/-- What is left behind a sign, as a text. -/
theorem dec_snoc {l : List UInt8} {k n : Nat} {b : UInt8} (h : Lib.decFrom 0 (l.take k) = some n) (hb : l[k]? = some b) : Lib.decFrom 0 (l.take (k + 1)) = (Lib.digitVal b).map fun d => n * 10 + d := by
  rw [List.take_add_one, hb, decFrom_app, h]
  simp only [Option.bind_some, Option.toList, Lib.decFrom]
  cases Lib.digitVal b <;> rfl
theorem dec_bad {l : List UInt8} {k n : Nat} {b : UInt8} (h : Lib.decFrom 0 (l.take k) = some n) (hb : l[k]? = some b) (hd : Lib.digitVal b = none) : Lib.decFrom 0 l = none := by
  rw [← List.take_append_drop (k + 1) l, decFrom_app, dec_snoc h hb, hd]; rfl
theorem dig_yes {b : UInt8} (h1 : 48 ≤ b.toNat) (h2 : b.toNat ≤ 57) : Lib.digitVal b = some (b.toNat - 48) := by unfold Lib.digitVal; rw [if_pos ⟨h1, h2⟩]
theorem dig_no {b : UInt8} (h : ¬ (48 ≤ b.toNat ∧ b.toNat ≤ 57)) : Lib.digitVal b = none := by unfold Lib.digitVal; rw [if_neg h]
theorem str_at {s : ByteArray} {k : Nat} (h : k < s.size) : (bs s)[k]? = some (s[k]'h) := by
  rw [List.getElem?_eq_getElem (by rw [bs_len]; exact h)]; rfl
theorem ext_all {s : ByteArray} (h : 1 ≤ s.size) : s.extract 1 s.size = ba ((bs s).drop 1) := by
  apply bs_inj
  rw [bs_ba (List.drop 1 (bs s))]
  show (s.extract 1 s.size).data.toList = s.data.toList.drop 1
  rw [ByteArray.data_extract, Array.toList_extract]
  simp only [List.extract_eq_take_drop, List.drop_one]
  exact List.take_of_length_le (by rw [List.length_tail, Array.length_toList]; exact Nat.le_refl _)
/-- Whether a text begins with a sign. -/
def sgnB (s : ByteArray) : Bool := decide (1 < s.size ∧ (bs s).head? = some 45)
theorem head_at {s : ByteArray} (h : 0 < s.size) : (bs s).head? = some (s[0]'h) := by rw [List.head?_eq_getElem?, str_at h]
theorem body_yes {s : ByteArray} (h : sgnB s = true) : bodyT (bs s) = (bs s).drop 1 := by
  unfold sgnB at h; unfold bodyT; rw [if_pos (by rw [bs_len]; simpa using h)]
theorem body_no {s : ByteArray} (h : sgnB s = false) : bodyT (bs s) = bs s := by
  unfold sgnB at h; unfold bodyT; rw [if_neg (by rw [bs_len]; simpa using h)]
set_option maxHeartbeats 4000000 in
set_option maxRecDepth 20000 in
theorem l1Read_any (s : ByteArray) (w : World) (hs : s.size ≤ 1048576) : Calls Tryz.prog 61 #[.string s] w (OutNum s w) := by
  obtain ⟨c, hc⟩ : ∃ c, c = sgnB s := ⟨_, rfl⟩
  have HC := Lib.hid hc
  clear hc
  go_enter Tryz.func61, Tryz.ntmps61
  go_upto_region 2 with fail
  go_cut [15] (fun s15 wx => s15 = .bool c ∧ wx = w)
  case first =>
    by_cases h1 : 1 < s.size
    · have h1z : (1 : Int) < s.size := by omega
      have h0n : 0 < s.size := by omega
      by_cases h45 : (s[0]'h0n).toNat = 45
      · have hb : (((s[0]'h0n).toNat : Int) == 45) = true := by simp [h45]
        have HCV : Hid (c = true) := by
          show c = true
          rw [HC.out]; unfold sgnB; rw [head_at h0n]
          have : s[0]'h0n = 45 := UInt8.toNat_inj.1 h45
          simp [this, h1]
        clear h45
        go_wp2
        go_meet
        case rel => exact ⟨by rw [HCV.out], rfl⟩
      · have hb : (((s[0]'h0n).toNat : Int) == 45) = false := by rw [beq_eq_false_iff_ne]; omega
        have HCV : Hid (c = false) := by
          show c = false
          rw [HC.out]; unfold sgnB; rw [head_at h0n]
          have : s[0]'h0n ≠ 45 := fun e => h45 (by rw [e]; rfl)
          simp [this]
        clear h45
        go_wp2
        go_meet
        case rel => exact ⟨by rw [HCV.out], rfl⟩
    · have h1z : ¬ (1 : Int) < s.size := by omega
      have HCV : Hid (c = false) := by
        show c = false
        rw [HC.out]; unfold sgnB; simp [h1]
      go_wp2
      go_meet
      case rel => exact ⟨by rw [HCV.out], rfl⟩
  case rest =>
    obtain ⟨rfl, rfl⟩ := hcut
    go_upto_if 15 with fail
    go_cut [4] (fun s4 wx => ∃ tb, s4 = .string tb ∧ Hid (tb = ba (bodyT (bs s))) ∧ wx = wc)
    case first =>
      cases c with
      | true =>
        have hsg : sgnB s = true := HC.out.symm
        have h1 : 1 ≤ s.size := by unfold sgnB at hsg; simp at hsg; omega
        have HB : Hid (s.extract 1 s.size = ba (bodyT (bs s))) := by show _ = _; rw [body_yes hsg, ext_all h1]
        have h1z : (1 : Int) ≤ s.size := by omega
        clear hsg
        go_wp2
        go_meet
        case rel => exact ⟨_, rfl, HB.out, rfl⟩
      | false =>
        have HB : Hid (s = ba (bodyT (bs s))) := by show s = _; rw [body_no HC.out.symm, ba_bs]
        go_wp2
        go_meet
        case rel => exact ⟨_, rfl, HB.out, rfl⟩
    case rest =>
      obtain ⟨tb, rfl, HB, rfl⟩ := hcut
      by_cases hl : 1 ≤ tb.size ∧ tb.size ≤ 6
      · obtain ⟨hl1, hl6⟩ := hl
        have hin : inB (tb.size : Int) 1 6 = true := inB_t (by omega) (by omega)
        go_wp2_with (go_at_call 79; refine (l1In_any _ _ _ _).mono ?_; rintro e w' ⟨rfl, rfl⟩)
        go_loop [5, 6] (fun nv iv' => ∃ (k m : Nat), k ≤ tb.size ∧ nv = .int .i64 m ∧ iv' = .int .i64 k ∧ Hid (Lib.decFrom 0 ((bs tb).take k) = some m) ∧ m < 10 ^ k) (fun _ iv' => tb.size - (intOf iv').toNat)
        case atStart => exact ⟨0, 0, Nat.zero_le _, rfl, rfl, rfl, by decide⟩
        case round =>
          obtain ⟨k, m, hk, rfl, rfl, HD, hm⟩ := hrel
          have hm6 : m < 1000000 := Nat.lt_of_lt_of_le hm (Nat.pow_le_pow_right (by omega) (by omega : k ≤ 6))
          by_cases hlt : k < tb.size
          · have hm5 : m < 100000 := Nat.lt_of_lt_of_le hm (Nat.pow_le_pow_right (by omega) (by omega : k ≤ 5))
            have hltz : (k : Int) < (tb.size : Int) := by omega
            have HAT := Lib.hid (str_at hlt)
            obtain ⟨b, hb⟩ : ∃ b, b = tb[k]'hlt := ⟨_, rfl⟩
            by_cases h48 : 48 ≤ b.toNat
            · by_cases h57 : b.toNat ≤ 57
              · have HDG := Lib.hid (dig_yes h48 h57)
                have HM := Lib.hid hm
                rw [hb] at h48 h57
                have z1 : ¬ (((tb[k]'hlt).toNat : Int) < 48) := by omega
                have z2 : ¬ ((57 : Int) < ((tb[k]'hlt).toNat : Int)) := by omega
                have HB2 := Lib.hid hb
                clear hb hm
                go_wp2
                go_round
                case rel =>
                  refine ⟨k + 1, m * 10 + (b.toNat - 48), by omega, ?_, by go_num, ?_, ?_⟩
                  · rw [← HB2.out] at h48 h57 ⊢
                    exact congrArg (Value.int .i64) (by omega)
                  · show _ = _
                    rw [dec_snoc HD.out (by rw [HAT.out, ← HB2.out]), HDG.out]; rfl
                  · have := HM.out
                    rw [Nat.pow_succ]; rw [← HB2.out] at h57; omega
                case measure => simp [intOf]; omega
              · have HN : Hid (numF (bs s) = none) := read_bad (by rw [show bodyT (bs s) = bs tb by rw [HB.out, bs_ba]]; exact dec_bad HD.out (by rw [HAT.out, ← hb]) (dig_no (by omega)))
                rw [hb] at h48 h57
                have z1 : ¬ (((tb[k]'hlt).toNat : Int) < 48) := by omega
                have z2 : (57 : Int) < ((tb[k]'hlt).toNat : Int) := by omega
                clear hb hm
                go_wp2
                go_ret2
                exact OutNum.no HN.out (frefl _)
            · have HN : Hid (numF (bs s) = none) := read_bad (by rw [show bodyT (bs s) = bs tb by rw [HB.out, bs_ba]]; exact dec_bad HD.out (by rw [HAT.out, ← hb]) (dig_no (by omega)))
              rw [hb] at h48
              have z1 : ((tb[k]'hlt).toNat : Int) < 48 := by omega
              clear hb hm
              go_wp2
              go_ret2
              exact OutNum.no HN.out (frefl _)
          · have hkn : k = tb.size := by omega
            have hltz : ¬ (k : Int) < (tb.size : Int) := by omega
            have HDE : Hid (Lib.decFrom 0 (bodyT (bs s)) = some m) := by
              show _ = _
              rw [show bodyT (bs s) = bs tb by rw [HB.out, bs_ba], ← HD.out, hkn, List.take_of_length_le (by rw [bs_len]; exact Nat.le_refl _)]
            have HLN : Hid (1 ≤ (bodyT (bs s)).length ∧ (bodyT (bs s)).length ≤ 6) := by
              show 1 ≤ _ ∧ _ ≤ 6
              rw [show (bodyT (bs s)).length = tb.size by rw [HB.out, ba_size]]; exact ⟨hl1, hl6⟩
            have HBS : Hid ((bodyT (bs s)).length = tb.size) := by show _ = _; rw [HB.out, ba_size]
            have HR := Lib.hid (read_some HLN.out HDE.out)
            have HSG : Hid (signT (bs s) m = if tb.size < s.size then -(m : Int) else m) := by show _ = _; unfold signT; rw [HBS.out, bs_len]
            clear hkn hm
            by_cases hsg : tb.size < s.size
            · have hsz : (tb.size : Int) < (s.size : Int) := by omega
              obtain ⟨t, ht⟩ : ∃ t, t = ba (Lib.itoa (-(m : Int))) := ⟨_, rfl⟩
              have HI : Hid (∀ W, Calls Tryz.prog 88 #[.int .i64 (-(m : Int))] W fun e w' => e = .returned (.string t) ∧ Fresh W w') := fun W => by rw [ht]; exact l1Num_any _ W (by omega) (by omega)
              by_cases he : t = s
              · have hd := streq he
                have HN : Hid (numF (bs s) = some (-(m : Int))) := by
                  show _ = _
                  rw [HR.out, HSG.out, if_pos hsg, if_pos (by rw [← he, ht, bs_ba])]
                clear he ht
                go_wp2_with (go_at_call 88; refine (HI.out _).mono ?_; rintro e w3 ⟨rfl, hf3⟩)
                go_ret2
                exact OutNum.yes HN.out hf3
              · have hd := strne he
                have HN : Hid (numF (bs s) = none) := by
                  show _ = _
                  rw [HR.out, HSG.out, if_pos hsg, if_neg (fun e => he (by rw [ht, e, ba_bs]))]
                clear he ht
                go_wp2_with (go_at_call 88; refine (HI.out _).mono ?_; rintro e w3 ⟨rfl, hf3⟩)
                go_ret2
                exact OutNum.no HN.out hf3
            · have hsz : ¬ (tb.size : Int) < (s.size : Int) := by omega
              obtain ⟨t, ht⟩ : ∃ t, t = ba (Lib.itoa (m : Int)) := ⟨_, rfl⟩
              have HI : Hid (∀ W, Calls Tryz.prog 88 #[.int .i64 (m : Int)] W fun e w' => e = .returned (.string t) ∧ Fresh W w') := fun W => by rw [ht]; exact l1Num_any _ W (by omega) (by omega)
              by_cases he : t = s
              · have hd := streq he
                have HN : Hid (numF (bs s) = some (m : Int)) := by
                  show _ = _
                  rw [HR.out, HSG.out, if_neg hsg, if_pos (by rw [← he, ht, bs_ba])]
                clear he ht
                go_wp2_with (go_at_call 88; refine (HI.out _).mono ?_; rintro e w3 ⟨rfl, hf3⟩)
                go_ret2
                exact OutNum.yes HN.out hf3
              · have hd := strne he
                have HN : Hid (numF (bs s) = none) := by
                  show _ = _
                  rw [HR.out, HSG.out, if_neg hsg, if_neg (fun e => he (by rw [ht, e, ba_bs]))]
                clear he ht
                go_wp2_with (go_at_call 88; refine (HI.out _).mono ?_; rintro e w3 ⟨rfl, hf3⟩)
                go_ret2
                exact OutNum.no HN.out hf3
      · have hin : inB (tb.size : Int) 1 6 = false := inB_f (by omega)
        have HN : Hid (numF (bs s) = none) := read_len (by rw [show (bodyT (bs s)).length = tb.size by rw [HB.out, ba_size]]; exact hl)
        clear hl
        go_wp2_with (go_at_call 79; refine (l1In_any _ _ _ _).mono ?_; rintro e w' ⟨rfl, rfl⟩)
        go_ret2
        exact OutNum.no HN.out (frefl _)
end Go.Proofs.YtjhaoonacjebpaaGreatDoor
