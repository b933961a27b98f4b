/- Contracts: a text in parts between bytes, the reference's side. -/
import Derived.Test.YtjhaoonacjebpaaGreatDoorNb
namespace Go.Proofs.YtjhaoonacjebpaaGreatDoor
open Go.RowKit Go.PlainAid

abbrev strs (l : List (List UInt8)) : List Value := l.map fun x => .string (ba x)
theorem wpList_app_str {ops : Array Oper} {rest : List Oper} {o : Oper} {a : Act} {Q : Exit → Act → World → Prop} (w0 w1 : World) (v : Value) (n : Nat) (xs : List Value) (x : ByteArray) (hgd : o.guard = none) (s t : Operand)
    (ho : o.op = .call { callee := .builtin .append, args := #[s, t], argTypes := #[22, 22] }) (hs : a.eval s = v) (hown : w1.ownsRow w0.heap.size 9 1 v n xs)
    (hx : a.eval t = .slice (some ⟨w1.heap.size, 0, none⟩) 1 1) (hn : n ≤ 1099511627776) (hf : Fresh w0 w1)
    (h : ∀ v' w', w'.ownsRow w0.heap.size 9 1 v' (n + 1) (xs ++ [.string x]) → Fresh w0 w' → wpList Tryz.prog ops Q rest (a.put o.dst v') w') :
    wpList Tryz.prog ops Q (o :: rest) a (w1.alloc (.cells #[.string x] 9)) := by
  obtain ⟨i0, hi, hz0, hz1, hz2⟩ := info_parts infoStr
  refine wpList_append_own _ hgd s t 22 ho w0.heap.size 9 i0 (.string ⟨#[]⟩) 1 16 Tryz.underlying22 hi hz0 hz1 hz2 rfl (by decide) v n xs hs (hown.alloc _) ⟨w1.heap.size, 0, none⟩ 1 1 [.string x] hx rfl one_new
    (by intro u hu; simp at hu; subst hu; rfl) (by unfold maxLen; omega) (by omega) (Nat.le_trans hf.size (by simp)) ?_
  intro v' w' hown' hgrow _
  exact h v' w' hown' (fgrown (fnew hf _) hgrow (own_block hown))
/-- Parts found so far, and what is left. -/
structure SpSt (c : UInt8) (s : List UInt8) (P : List (List UInt8)) (d i : Nat) : Prop where
  eq : splitC c s = P ++ splitC c (s.drop d)
  free : c ∉ (s.take i).drop d
  le : d ≤ i
  li : i ≤ s.length
  pl : P.length ≤ i
theorem SpSt.start (c : UInt8) (s : List UInt8) : SpSt c s [] 0 0 := ⟨rfl, by simp, Nat.le_refl _, Nat.zero_le _, Nat.zero_le _⟩
theorem take_drop_snoc {s : List UInt8} {d i : Nat} {b : UInt8} (hd : d ≤ i) (hb : s[i]? = some b) : (s.take (i + 1)).drop d = (s.take i).drop d ++ [b] := by
  have hi := (List.getElem?_eq_some_iff.1 hb).1
  rw [List.take_add_one, hb]
  rw [List.drop_append_of_le_length (by rw [List.length_take]; omega)]; rfl
theorem SpSt.next {c : UInt8} {s : List UInt8} {P : List (List UInt8)} {d i : Nat} {b : UInt8} (h : SpSt c s P d i) (hb : s[i]? = some b) (hne : b ≠ c) : SpSt c s P d (i + 1) := by
  have hi := (List.getElem?_eq_some_iff.1 hb).1
  refine ⟨h.eq, ?_, by have := h.le; omega, hi, by have := h.pl; omega⟩
  rw [take_drop_snoc h.le hb, List.mem_append]
  rintro (hm | hm)
  · exact h.free hm
  · simp at hm; exact hne hm.symm
theorem SpSt.hit {c : UInt8} {s : List UInt8} {P : List (List UInt8)} {d i : Nat} (h : SpSt c s P d i) (hb : s[i]? = some c) : SpSt c s (P ++ [(s.take i).drop d]) (i + 1) (i + 1) := by
  have hi := (List.getElem?_eq_some_iff.1 hb).1
  have hle := h.le
  refine ⟨?_, ?_, Nat.le_refl _, hi, by have := h.pl; simp; omega⟩
  · rw [h.eq]
    have e : s.drop d = (s.take i).drop d ++ c :: s.drop (i + 1) := by
      have h1 : s = s.take i ++ c :: s.drop (i + 1) := by
        have := List.take_append_drop i s
        rw [List.drop_eq_getElem_cons hi] at this
        rw [List.getElem?_eq_getElem hi] at hb
        cases hb
        exact this.symm
      conv => lhs; rw [h1]
      rw [List.drop_append_of_le_length (by rw [List.length_take]; omega)]
    rw [e, splitC_app h.free, List.append_assoc]; rfl
  · simp
theorem SpSt.done {c : UInt8} {s : List UInt8} {P : List (List UInt8)} {d i : Nat} (h : SpSt c s P d i) (hi : i = s.length) : splitC c s = P ++ [s.drop d] := by
  have := h.free
  rw [hi, List.take_length] at this
  rw [h.eq, splitC_none this]
theorem ext_cut {s : ByteArray} {d i : Nat} (hd : d ≤ i) (hi : i ≤ s.size) : s.extract d i = ba (((bs s).take i).drop d) := by
  apply bs_inj
  rw [bs_ba (List.drop d (List.take i (bs s)))]
  show (s.extract d i).data.toList = (s.data.toList.take i).drop d
  rw [ByteArray.data_extract, Array.toList_extract]
  simp only [List.extract_eq_take_drop]
  rw [List.drop_take]
theorem ext_end {s : ByteArray} {d : Nat} (hd : d ≤ s.size) : s.extract d s.size = ba ((bs s).drop d) := by
  rw [ext_cut hd (Nat.le_refl _), List.take_of_length_le (by rw [bs_len]; exact Nat.le_refl _)]
/-- The parts are handed back, in a row of the call's own. -/
def OutSplit (c : UInt8) (s : ByteArray) (w : World) (e : Ending) (w' : World) : Prop := ∃ v, e = .returned v ∧ w'.ownsRow w.heap.size 9 1 v (splitC c (bs s)).length (strs (splitC c (bs s))) ∧ Fresh w w'
set_option maxHeartbeats 4000000 in
set_option maxRecDepth 20000 in
theorem l1Split_any (s : ByteArray) (c : UInt8) (w : World) (hs : s.size ≤ 1048576) : Calls Tryz.prog 27 #[.string s, .int .u8 c.toNat] w (OutSplit c s w) := by
  obtain ⟨W1, hW1⟩ : ∃ W, W = w.alloc (.cells #[] 9) := ⟨_, rfl⟩
  have hf1 : Fresh w W1 := by rw [hW1]; exact fnew (frefl _) _
  have ho1 : W1.ownsRow w.heap.size 9 1 (.slice (some ⟨w.heap.size, 0, none⟩) 0 0) 0 [] :=
    ⟨rfl, Or.inr ⟨w.heap.size, 0, #[], rfl, Nat.le_refl _, by rw [hW1]; exact RowAt.new w 9 [], Nat.le_refl _, by unfold maxLen; omega, rfl, rfl⟩⟩
  have HF1 := Lib.hid hf1
  have HO1 := Lib.hid ho1
  have HW1 := Lib.hid hW1
  clear hf1 ho1 hW1
  go_enter Tryz.func27, Tryz.ntmps27
  go_wp2
  rw [← HW1.out]
  go_loopw [5, 6, 7] (fun ov dv iv' wr => ∃ (P : List (List UInt8)) (d i : Nat), dv = .int .i64 d ∧ iv' = .int .i64 i ∧ SpSt c (bs s) P d i ∧ wr.ownsRow w.heap.size 9 1 ov P.length (strs P) ∧ Fresh w wr) (fun _ _ iv' _ => s.size - (intOf iv').toNat)
  case atStart => exact ⟨[], 0, 0, rfl, rfl, SpSt.start _ _, HO1.out, HF1.out⟩
  case round =>
    obtain ⟨P, d, i, rfl, rfl, hst, hown, hf⟩ := hrel
    have hle := hst.le
    have hil := hst.li
    have hpl := hst.pl
    rw [bs_len] at hil
    have HST := Lib.hid hst
    have HOW := Lib.hid hown
    have HF := Lib.hid hf
    clear hst hown hf
    by_cases hlt : i < s.size
    · have hltz : (i : Int) < (s.size : Int) := by omega
      have HAT := Lib.hid (str_at hlt)
      by_cases hb : s[i]'hlt = c
      · have hbz : (((s[i]'hlt).toNat : Int) == (c.toNat : Int)) = true := by rw [hb]; simp
        have HB := Lib.hid hb
        have dz : (d : Int) ≤ (i : Int) := by omega
        clear hb
        have HNP : Hid (∀ (v' : Value) (W : World) (X : ByteArray), X = ba (((bs s).take i).drop d) → W.ownsRow w.heap.size 9 1 v' (P.length + 1) (strs P ++ [.string X]) → W.ownsRow w.heap.size 9 1 v' (P ++ [((bs s).take i).drop d]).length (strs (P ++ [((bs s).take i).drop d]))) := fun v' W X hX h => by
          rw [hX] at h
          rw [List.length_append]
          unfold strs
          rw [List.map_append]
          exact h
        go_wp2_with (at_builtin; refine wpList_app_str w _ _ P.length (strs P) _ rfl _ _ rfl rfl HOW.out rfl (by omega) HF.out ?_; intro v' w3 hown3 hf3)
        go_roundw
        case rel =>
          refine ⟨P ++ [((bs s).take i).drop d], i + 1, i + 1, by go_num, by go_num, HST.out.hit (by rw [HAT.out, HB.out]), ?_, hf3⟩
          exact HNP.out _ _ _ (ext_cut hle (by omega)) hown3
        case measure => simp [intOf]; omega
      · have hbz : (((s[i]'hlt).toNat : Int) == (c.toNat : Int)) = false := by
          rw [beq_eq_false_iff_ne]; intro e; exact hb (UInt8.toNat_inj.1 (by omega))
        have HB := Lib.hid hb
        clear hb
        go_wp2
        go_roundw
        case rel => exact ⟨P, d, i + 1, rfl, by go_num, HST.out.next HAT.out HB.out, HOW.out, HF.out⟩
        case measure => simp [intOf]; omega
    · have hltz : ¬ (i : Int) < (s.size : Int) := by omega
      have HIN : Hid (i = (bs s).length) := by show _ = _; rw [bs_len]; omega
      have dz : (d : Int) ≤ (s.size : Int) := by omega
      have dn : d ≤ s.size := by omega
      have HE := Lib.hid (HST.out.done HIN.out)
      have HNP : Hid (∀ (v' : Value) (W : World) (X : ByteArray), X = ba ((bs s).drop d) → W.ownsRow w.heap.size 9 1 v' (P.length + 1) (strs P ++ [.string X]) → W.ownsRow w.heap.size 9 1 v' (splitC c (bs s)).length (strs (splitC c (bs s)))) := fun v' W X hX h => by
        rw [hX] at h
        rw [HE.out, List.length_append]
        unfold strs
        rw [List.map_append]
        exact h
      go_wp2_with (at_builtin; refine wpList_app_str w _ _ P.length (strs P) _ rfl _ _ rfl rfl HOW.out rfl (by omega) HF.out ?_; intro v' w3 hown3 hf3)
      go_ret
      exact ⟨v', rfl, HNP.out _ _ _ (ext_end dn) hown3, hf3⟩
end Go.Proofs.YtjhaoonacjebpaaGreatDoor
