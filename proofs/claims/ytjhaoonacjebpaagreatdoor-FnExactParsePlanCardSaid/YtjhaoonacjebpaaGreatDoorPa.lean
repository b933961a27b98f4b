/- Contracts: small functions of the program's parser of plans: Split in splitC's words, indexOf, linesOf. -/
import Derived.Test.YtjhaoonacjebpaaGreatDoorPx2
namespace Go.Proofs.YtjhaoonacjebpaaGreatDoor
open Go.RowKit Go.PlainAid

theorem splitB_eq (c : UInt8) : ∀ (n : Nat) (s : ByteArray), s.size ≤ n → Lib.splitB (ba [c]) 0 (Lib.countB s (ba [c])) s = (splitC c (bs s)).map ba := by
  intro n
  induction n with
  | zero =>
    intro s hs
    have h0 : bs s = [] := List.eq_nil_of_length_eq_zero (by rw [bs_len]; omega)
    have hm : Lib.indexB s (ba [c]) = -1 := by show Lib.index (bs s) [c] = _; exact index_one_miss (by rw [h0]; simp)
    rw [Lib.splitB_miss _ _ _ _ hm, h0, splitC_none (by simp)]
    show [s] = [ba []]
    rw [← h0, ba_bs]
  | succ n ih =>
    intro s hs
    by_cases hc : c ∈ bs s
    · obtain ⟨x, y, hxy, hx⟩ := split_first hc
      have hl : s.size = x.length + (y.length + 1) := by rw [← bs_len, hxy]; simp
      have hi : Lib.indexB s (ba [c]) = (x.length : Int) := by have := index_one_hit (y := y) hx; rw [← hxy] at this; exact this
      have h1 : (ba [c]).size = 1 := ba_size [c]
      have e1 : s.extract (x.length + (ba [c]).size) s.size = ba y := by
        rw [h1, ext_end (by omega), hxy]
        congr 1
        rw [show x.length + 1 = (x ++ [c]).length by simp, show x ++ c :: y = (x ++ [c]) ++ y by simp, List.drop_left]
      have e2 : s.extract 0 (x.length + 0) = ba x := by
        rw [ext_cut (by omega) (by omega), hxy]
        simp
      rw [Lib.countB_hit s (ba [c]) x.length (by rw [h1]; exact Nat.le_refl _) hi, Nat.add_comm, Lib.splitB_hit _ _ _ _ _ hi, e1, e2, ih (ba y) (by rw [ba_size]; omega), bs_ba, hxy, splitC_app hx]
      rfl
    · have hm : Lib.indexB s (ba [c]) = -1 := by show Lib.index (bs s) [c] = _; exact index_one_miss hc
      rw [Lib.splitB_miss _ _ _ _ hm, splitC_none hc]
      show [s] = [ba (bs s)]
      rw [ba_bs]
theorem split_any (s : ByteArray) (c : UInt8) (w : World) (hs : s.size ≤ 1048576) (hM : MaxE w) : Calls Tryz.prog 65 #[.string s, .string (ba [c])] w (OutSplit c s w) := by
  obtain ⟨m, hm⟩ := hM
  refine (Tryz.strings_Split s (ba [c]) m w (by omega) hm (by rw [ba_size]; exact Nat.le_refl _)).mono ?_
  rintro e w' ⟨rfl, rfl⟩
  have h1 := splitB_eq c s.size s (Nat.le_refl _)
  have hlen : Lib.countB s (ba [c]) + 1 = (splitC c (bs s)).length := by
    rw [← Lib.splitB_all (ba [c]) (by rw [ba_size]; exact Nat.le_refl _) 0 _ s rfl, h1, List.length_map]
  rw [h1, hlen]
  refine ⟨_, rfl, ?_, fnew (frefl _) _⟩
  have hr : RowAt (w.alloc (.cells (((splitC c (bs s)).map ba).map Value.string).toArray 9)) w.heap.size 9 (((splitC c (bs s)).map ba).map Value.string) := RowAt.new _ _ _
  have he : ((splitC c (bs s)).map ba).map Value.string = strs (splitC c (bs s)) := by rw [List.map_map]; rfl
  rw [he] at hr ⊢
  unfold RowAt at hr
  exact ⟨by simp, Or.inr ⟨w.heap.size, _, (strs (splitC c (bs s))).toArray, rfl, Nat.le_refl _, hr, Nat.le_refl _, by have := Lib.countB_le (ba [c]) (by rw [ba_size]; exact Nat.le_refl _) s.size s (Nat.le_refl _); unfold maxLen; omega, by simp, List.take_of_length_le (by simp)⟩⟩
/-- The place of a name, and whether it is there. -/
def OutIdx (l : List ByteArray) (s : ByteArray) (w : World) (e : Ending) (w' : World) : Prop := ∃ (i : Int) (b : Bool), e = .returned (.tuple #[.int .i64 i, .bool b]) ∧ Fresh w w' ∧ 0 ≤ i ∧ i ≤ l.length ∧ (b = true → i = idxL l s ∧ i < l.length) ∧ (b = false → idxL l s = -1)
set_option maxHeartbeats 1000000 in
theorem indexOf_any (p : Option Addr) (cap : Nat) (l : List ByteArray) (s : ByteArray) (w : World) (hI : Strs w p l) (hn : l.length ≤ 1048576) : Calls Tryz.prog 113 #[.slice p l.length cap, .string s] w (OutIdx l s w) := by
  have HI := Lib.hid hI
  clear hI
  go_enter Tryz.func113, Tryz.ntmps113
  go_wp2
  go_loopw [10] (fun i wr => ∃ k : Nat, k ≤ l.length ∧ i = .int .i64 (k : Int) ∧ Fresh w wr ∧ ∀ j, j < k → l[j]? ≠ some s) (fun i _ => l.length - (intOf i).toNat)
  case atStart => exact ⟨0, Nat.zero_le _, rfl, frefl _, fun j hj => by omega⟩
  case round =>
    obtain ⟨k, hk, rfl, hf, hno⟩ := hrel
    have HF := Lib.hid hf
    have HNO := Lib.hid hno
    by_cases hlt : k < l.length
    · have hkz : (k : Int) < (l.length : Int) := by omega
      have hw1 : IntKind.i64.wrap ((k : Int) + 1) = (k : Int) + 1 := by rw [IntKind.wrap_i64]; omega
      obtain ⟨b, off, x, rfl, hx, hc⟩ := (HI.out.keep hf).at hlt
      have HX := Lib.hid hx
      clear hno hf hx
      by_cases hs : x = s
      · subst hs
        have HID := Lib.hid (idxL_at HNO.out HX.out)
        have hd : (x.toList == x.toList) = true := by simp
        go_wp2
        go_ret2
        exact ⟨_, _, rfl, HF.out, by omega, by omega, (fun _ => ⟨HID.out.symm, by omega⟩), fun h => by cases h⟩
      · have hd : (x.toList == s.toList) = false := strne hs
        have HS := Lib.hid hs
        clear hs
        go_wp2
        go_roundw
        case rel => exact ⟨k + 1, by omega, by go_num, HF.out, fun j hj => by
          rcases Nat.eq_or_lt_of_le (show j ≤ k by omega) with h' | h'
          · subst h'; rw [HX.out]; intro h; exact HS.out (Option.some.inj h)
          · exact HNO.out j h'⟩
        case measure => simp [intOf]; omega
    · have hkz : ¬ (k : Int) < (l.length : Int) := by omega
      have HID := Lib.hid (idxL_none (l := l) (s := s) (fun j hj => HNO.out j (by omega)))
      clear hno hf
      go_wp2
      go_ret2
      exact ⟨_, _, rfl, HF.out, by omega, by omega, (fun h => by cases h), fun _ => HID.out⟩
/-- The lines of a text that ends in a line's end. -/
def linesOk (s : List UInt8) : Bool := decide (s.length ≤ 4000) && Lib.hasSuffix s [10]
def OutLn (s : ByteArray) (w : World) (e : Ending) (w' : World) : Prop := (linesOk (bs s) = false ∧ (∃ q n c, e = .returned (.tuple #[.slice q n c, .bool false])) ∧ Fresh w w') ∨
  (linesOk (bs s) = true ∧ ∃ v, e = .returned (.tuple #[v, .bool true]) ∧ w'.ownsRow w.heap.size 9 1 v (splitC 10 (bs s).dropLast).length (strs (splitC 10 (bs s).dropLast)) ∧ Fresh w w')
set_option maxHeartbeats 1000000 in
theorem linesOf_any (s : ByteArray) (w : World) (hs : s.size ≤ 2097152) (hM : MaxE w) : Calls Tryz.prog 32 #[.string s] w (OutLn s w) := by
  have HSF := Lib.hid (Tryz.strings_HasSuffix s (ba [10]) w (by omega))
  by_cases hl : s.size ≤ 4000
  · have hz : ¬ (4000 : Int) < (s.size : Int) := by omega
    obtain ⟨b, hb⟩ : ∃ b, b = Lib.hasSuffix (bs s) [10] := ⟨_, rfl⟩
    have hlk : linesOk (bs s) = b := by unfold linesOk; rw [bs_len, decide_eq_true hl, ← hb]; rfl
    replace HSF : Hid (Calls Tryz.prog 68 #[.string s, .string (ba [10])] w fun e w' => e = .returned (.bool b) ∧ w' = w) := by rw [hb]; exact HSF.out
    have HLK := Lib.hid hlk
    cases b with
    | false =>
      clear hb hlk hM
      go_enter Tryz.func32, Tryz.ntmps32
      go_wp2_with (go_at_call 68; refine (HSF.out).mono ?_; rintro e w1 ⟨rfl, rfl⟩)
      go_ret2
      exact Or.inl ⟨HLK.out, ⟨_, _, _, rfl⟩, frefl _⟩
    | true =>
      have h1 : 1 ≤ s.size := by
        rcases Nat.eq_zero_or_pos s.size with h0 | h0
        · exfalso
          have : bs s = [] := List.eq_nil_of_length_eq_zero (by rw [bs_len]; exact h0)
          rw [this] at hb
          exact absurd hb (by decide)
        · exact h0
      have hw1 : IntKind.i64.wrap ((s.size : Int) - 1) = (s.size : Int) - 1 := by rw [IntKind.wrap_i64]; omega
      have hk : ((s.size : Int) - 1).toNat = s.size - 1 := by omega
      have hi1 : 0 ≤ (s.size : Int) - 1 := by omega
      have hi2 : (s.size : Int) - 1 ≤ (s.size : Int) := by omega
      have hi3 : 1 ≤ (s.size : Int) := by omega
      have hex : s.extract 0 (s.size - 1) = ba (bs s).dropLast := by
        rw [ext_cut (by omega) (by omega), List.drop_zero, List.dropLast_eq_take, bs_len]
      obtain ⟨t, ht⟩ : ∃ t, t = s.extract 0 (s.size - 1) := ⟨_, rfl⟩
      have HSP : Hid (Calls Tryz.prog 65 #[.string t, .string (ba [10])] w (OutSplit 10 t w)) := split_any t 10 w (by rw [ht, hex, ba_size, List.length_dropLast, bs_len]; omega) hM
      have HT : Hid (bs t = (bs s).dropLast) := by show _ = _; rw [ht, hex, bs_ba]
      have HTE := Lib.hid ht
      clear hb hlk hM hex ht
      go_enter Tryz.func32, Tryz.ntmps32
      go_wp2_with (go_at_call 68; refine (HSF.out).mono ?_; rintro e w1 ⟨rfl, rfl⟩)
      rw [← HTE.out]
      refine (HSP.out).mono ?_
      rintro e w2 ⟨v, rfl, ho, hf⟩
      have HO := Lib.hid ho
      have HF := Lib.hid hf
      clear ho hf
      go_wp2
      go_ret2
      refine Or.inr ⟨HLK.out, v, rfl, ?_, HF.out⟩
      rw [← HT.out]
      exact HO.out
  · have hz : (4000 : Int) < (s.size : Int) := by omega
    have HLK : Hid (linesOk (bs s) = false) := by show _ = _; unfold linesOk; rw [bs_len, decide_eq_false hl]; rfl
    clear hM HSF
    go_enter Tryz.func32, Tryz.ntmps32
    go_wp2
    go_ret2
    exact Or.inl ⟨HLK.out, ⟨_, _, _, rfl⟩, frefl _⟩
end Go.Proofs.YtjhaoonacjebpaaGreatDoor
