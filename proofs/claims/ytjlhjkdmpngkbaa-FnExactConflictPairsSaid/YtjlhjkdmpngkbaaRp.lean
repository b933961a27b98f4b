/- Results of pairs ([][2]int): compared, marked, asked again. -/
import Derived.Test.YtjlhjkdmpngkbaaU1
import Derived.Test.YtjlhjkdmpngkbaaU4
namespace Go.Proofs.Ytjlhjkdmpngkbaa
open Go.RowKit Go.PlainAid

/-- The pairs of numbers from k on. -/
def marks2 (k : Int) (n : Nat) : List (Int × Int) := (List.range n).map fun (j : Nat) => (k + 2 * (j : Int), k + 2 * (j : Int) + 1)
theorem marks2_len (k : Int) (n : Nat) : (marks2 k n).length = n := by simp [marks2]
theorem marks2_succ (k : Int) (n : Nat) : marks2 k (n + 1) = marks2 k n ++ [(k + 2 * (n : Int), k + 2 * (n : Int) + 1)] := by simp [marks2, List.range_succ]
theorem marks2_get {k : Int} {n j : Nat} {x y : Int} (h : (marks2 k n)[j]? = some (x, y)) : x = k + 2 * (j : Int) ∧ y = k + 2 * (j : Int) + 1 := by
  have hj : j < n := by
    rcases Nat.lt_or_ge j n with h' | h'
    · exact h'
    · rw [List.getElem?_eq_none (by rw [marks2_len]; exact h')] at h; cases h
  simp [marks2, hj] at h
  exact ⟨h.1.symm, h.2.symm⟩
theorem set_marks2 (k : Int) (l : List (Int × Int)) (sp : List Value) (j : Nat) (hj : j < l.length) (u v : Int) (hu : u = k + 2 * (j : Int)) (hv : v = k + 2 * (j : Int) + 1) :
    (((pcs (marks2 k j ++ l.drop j) ++ sp).set (j * 2) (iv u)).set (j * 2 + 1) (iv v)) = pcs (marks2 k (j + 1) ++ l.drop (j + 1)) ++ sp := by
  subst hu hv
  have hl : (pcs (marks2 k j)).length = j * 2 := by rw [pcs_len, marks2_len]
  rw [List.drop_eq_getElem_cons hj, pcs_app, pcs_cons, List.append_assoc, List.set_append, if_neg (by omega), hl, Nat.sub_self, List.cons_append, List.set_cons_zero, List.set_append, if_neg (by omega), hl]
  have e : j * 2 + 1 - j * 2 = 0 + 1 := by omega
  rw [e, List.set_cons_succ, List.cons_append, List.set_cons_zero, marks2_succ, pcs_app, pcs_app, pcs_cons, pcs_nil]
  simp
theorem get_marks2 (k : Int) (l : List (Int × Int)) (sp : List Value) (j : Nat) (hj : j < l.length) :
    (pcs (marks2 k j ++ l.drop j) ++ sp)[j * 2]? = some (iv l[j].1) ∧ (pcs (marks2 k j ++ l.drop j) ++ sp)[j * 2 + 1]? = some (iv l[j].2) := by
  have hx : (marks2 k j ++ l.drop j)[j]? = some (l[j].1, l[j].2) := by
    rw [List.getElem?_append_right (by rw [marks2_len]; omega), marks2_len, Nat.sub_self, List.getElem?_drop]
    simp [hj]
  have hlen : (pcs (marks2 k j ++ l.drop j)).length = (j + (l.length - j)) * 2 := by rw [pcs_len]; simp [marks2_len]
  obtain ⟨h1, h2⟩ := pcs_get hx
  exact ⟨by rw [List.getElem?_append_left (by omega)]; exact h1, by rw [List.getElem?_append_left (by omega)]; exact h2⟩

theorem infoA2 : (Try.prog.info? 153).map (fun i => (i.zero, i.size, i.bytes)) = some (some (.agg #[.int .i64 0, .int .i64 0]), 2, 16) := by kernel_rfl
set_option maxHeartbeats 1000000 in
theorem eqIntA2_same (a b : Int) (w : World) : Calls Try.prog 117 #[.agg #[.int .i64 a, .int .i64 b], .agg #[.int .i64 a, .int .i64 b]] w fun e w' => e = .returned (.bool true) ∧ Fresh w w' := by
  obtain ⟨W2, hW2, hsz2, hf2, r1, r2⟩ := two_rows w [.int .i64 a, .int .i64 b] [.int .i64 a, .int .i64 b] 153 153
  have HW2 := Lib.hid hW2
  have HF2 := Lib.hid hf2
  have HR := Lib.hid (And.intro r1 r2)
  clear hW2 hsz2 hf2 r1 r2
  go_enter Try.func117, Try.ntmps117
  go_wp2
  rw [← HW2.out]
  go_loopw [5] (fun i wr => ∃ r : Nat, r ≤ 2 ∧ i = .int .i64 r ∧ Fresh W2 wr) (fun i _ => 2 - (intOf i).toNat)
  case atStart => exact ⟨0, by omega, rfl, frefl _⟩
  case round =>
    obtain ⟨r, hr, rfl, hf⟩ := hrel
    have HF := Lib.hid hf
    have c0 := (HR.out.1.keep hf).cell (i := 0) rfl
    have c1 := (HR.out.1.keep hf).cell (i := 1) rfl
    have d0 := (HR.out.2.keep hf).cell (i := 0) rfl
    have d1 := (HR.out.2.keep hf).cell (i := 1) rfl
    clear hf
    have hcase : r = 0 ∨ r = 1 ∨ r = 2 := by omega
    rcases hcase with rfl | rfl | rfl
    · go_wp2
      go_region
      go_wp2
      go_roundw
      case rel => exact ⟨1, by omega, by go_num, fdrew HF.out⟩
      case measure => simp [intOf]
    · go_wp2
      go_region
      go_wp2
      go_roundw
      case rel => exact ⟨2, by omega, by go_num, fdrew HF.out⟩
      case measure => simp [intOf]
    · go_wp2
      go_ret
      exact ⟨rfl, fstep HF2.out HF.out⟩
set_option maxHeartbeats 1000000 in
set_option maxRecDepth 100000 in
theorem eqIntA2S_r (p q : Option Addr) (c d : Nat) (l : List (Int × Int)) (w : World) (hx : Cells w p (pcs l)) (hy : Cells w q (pcs l)) (hn : l.length ≤ 1048576) :
    Calls Try.prog 51 #[.slice p l.length c, .slice q l.length d] w fun e w' => e = .returned (.bool true) ∧ Fresh w w' := by
  have hx : Prs w p l := hx
  have hy : Prs w q l := hy
  go_enter Try.func51, Try.ntmps51
  go_wp2
  go_loopw [5] (fun i wr => ∃ k : Nat, k ≤ l.length ∧ i = .int .i64 k ∧ Fresh w wr) (fun i _ => l.length - (intOf i).toNat)
  case atStart => exact ⟨0, Nat.zero_le _, rfl, frefl _⟩
  case round =>
    obtain ⟨k, hk, rfl, hf⟩ := hrel
    by_cases hlt : k < l.length
    · obtain ⟨b, off, x, y, rfl, hx0, hc0, hc1⟩ := hx.at hlt
      obtain ⟨b', off', x', y', rfl, hy0, hc0', hc1'⟩ := hy.at hlt
      rw [hx0] at hy0
      simp only [Option.some.injEq, Prod.mk.injEq] at hy0
      obtain ⟨rfl, rfl⟩ := hy0
      have hd0 := fkeep hf hc0
      have hd1 := fkeep hf hc1
      have hd0' := fkeep hf hc0'
      have hd1' := fkeep hf hc1'
      have HF := Lib.hid hf
      clear hx0 hc0 hc1 hc0' hc1' hx hy hf
      have h1 : (k : Int) < (l.length : Int) := by omega
      go_wp2
      go_still_tail 8, (by kernel_rfl)
      change wpList _ _ _ _ _ wr.drew
      have HF2 : Hid (Fresh w wr.drew) := fdrew HF.out
      generalize wr.drew = w2 at HF2
      go_wp2_with (go_at_call 117; refine (eqIntA2_same _ _ _).mono ?_; rintro e w3 ⟨rfl, hb3⟩)
      go_roundw
      case rel => exact ⟨k + 1, by omega, by go_num, fstep HF2.out hb3⟩
      case measure => simp [intOf]; omega
    · have hkn : k = l.length := by omega
      subst hkn
      have HF := Lib.hid hf
      clear hf
      go_wp2
      go_ret
      exact ⟨rfl, HF.out⟩
def updA (C : List Value) (j : Nat) (a b : Int) : Nat → List Value
  | 0 => C
  | 1 => C.set (j * 2) (iv a)
  | _ => (C.set (j * 2) (iv a)).set (j * 2 + 1) (iv b)
set_option maxHeartbeats 1000000 in
theorem markIntA2S_r (p : Option Addr) (cap base : Nat) (l : List (Int × Int)) (k0 : Int) (w : World) (ho : Own w base 153 p (pcs l)) (hn : l.length ≤ 1048576) (h0 : 0 ≤ k0) (h1 : k0 ≤ 1099511627776) :
    Calls Try.prog 53 #[.slice p l.length cap, .int .i64 k0] w fun e w' => e = .returned (.int .i64 (k0 + 2 * (l.length : Int))) ∧ Own w' base 153 p (pcs (marks2 k0 l.length)) ∧ Below base w w' := by
  go_enter Try.func53, Try.ntmps53
  go_wp2
  go_loopw [1, 5] (fun kk i wr => ∃ j : Nat, j ≤ l.length ∧ i = .int .i64 j ∧ kk = .int .i64 (k0 + 2 * (j : Int)) ∧ Own wr base 153 p (pcs (marks2 k0 j ++ l.drop j)) ∧ Below base w wr) (fun _ i _ => l.length - (intOf i).toNat)
  case atStart => exact ⟨0, Nat.zero_le _, rfl, by simp, by simpa [marks2] using ho, Below.refl _ _⟩
  case round =>
    obtain ⟨wo, rfl⟩ : ∃ wo : World, wo = wr := ⟨_, rfl⟩
    obtain ⟨j, hj, rfl, rfl, hown, hb⟩ := hrel
    have HB := Lib.hid hb
    clear hb ho
    by_cases hlt : j < l.length
    · rcases hown with ⟨_, hnil⟩ | ⟨g, sp, rfl, hg, hr⟩
      · exfalso
        have := congrArg List.length hnil
        rw [pcs_len] at this
        simp [marks2_len] at this
        omega
      · obtain ⟨e0, e1⟩ := get_marks2 k0 l sp j hlt
        have HS := Lib.hid (set_marks2 k0 l sp j hlt _ _ rfl rfl)
        obtain ⟨C, hC⟩ : ∃ C, C = pcs (marks2 k0 j ++ l.drop j) ++ sp := ⟨_, rfl⟩
        rw [← hC] at hr e0 e1 HS
        have HE := Lib.hid (And.intro e0 e1)
        have HR := Lib.hid hr
        clear hr e0 e1 hC
        go_wp2
        go_loopw [1, 6] (fun kk i wr => ∃ r : Nat, r ≤ 2 ∧ i = .int .i64 r ∧ kk = .int .i64 (k0 + 2 * (j : Int) + r) ∧ RowAt wr g 153 (updA C j (k0 + 2 * (j : Int)) (k0 + 2 * (j : Int) + 1) r) ∧ Below base w wr) (fun _ i _ => 2 - (intOf i).toNat)
        case atStart => exact ⟨0, by omega, rfl, by simp, HR.out, HB.out⟩
        case round =>
          obtain ⟨r, hr2, rfl, rfl, hrow, hb⟩ := hrel
          have HB2 := Lib.hid hb
          have HRW := Lib.hid hrow
          clear hb
          have hcase : r = 0 ∨ r = 1 ∨ r = 2 := by omega
          rcases hcase with rfl | rfl | rfl
          · have hc := hrow.cell (i := j * 2) HE.out.1
            have hf := hrow.frozen (j * 2)
            clear hrow
            go_wp2
            go_roundw
            case rel => exact ⟨1, by omega, by go_num, by go_num, HRW.out.set (j * 2) _, HB2.out.setCell hg _⟩
            case measure => simp [intOf]
          · have hc := hrow.cell (i := j * 2 + 1) (v := iv l[j].2) (by show (C.set (j * 2) _)[j * 2 + 1]? = _; rw [List.getElem?_set_ne (by omega)]; exact HE.out.2)
            have hf := hrow.frozen (j * 2 + 1)
            clear hrow
            go_wp2
            go_roundw
            case rel => exact ⟨2, by omega, by go_num, by go_num, HRW.out.set (j * 2 + 1) _, HB2.out.setCell hg _⟩
            case measure => simp [intOf]
          · clear hrow
            go_wp2
            go_roundw
            case rel =>
              refine ⟨j + 1, by omega, by go_num, by go_num, Or.inr ⟨g, sp, rfl, hg, ?_⟩, HB2.out⟩
              have := HRW.out
              rw [← HS.out]; exact this
            case measure => simp [intOf]; omega
    · have hjn : j = l.length := by omega
      subst hjn
      have HO := Lib.hid hown
      clear hown
      go_wp2
      go_ret
      refine ⟨rfl, ?_, HB.out⟩
      have := HO.out
      simpa using this
set_option maxHeartbeats 1000000 in
theorem heldIntA2S_o (p : Option Addr) (cap base n : Nat) (k0 : Int) (w : World) (ho : Own w base 153 p (pcs (marks2 k0 n))) (hn : n ≤ 1048576) (h0 : 0 ≤ k0) (h1 : k0 ≤ 1099511627776) :
    Calls Try.prog 54 #[.slice p n cap, .int .i64 k0] w fun e w' => e = .returned (.int .i64 (k0 + 2 * (n : Int))) ∧ Fresh w w' := by
  have hI : Prs w p (marks2 k0 n) := ho.prs
  clear ho
  go_enter Try.func54, Try.ntmps54
  go_wp2
  go_loop [1, 5] (fun kk i => ∃ j : Nat, j ≤ n ∧ i = .int .i64 j ∧ kk = .int .i64 (k0 + 2 * (j : Int))) (fun _ i => n - (intOf i).toNat)
  case atStart => exact ⟨0, Nat.zero_le _, rfl, by simp⟩
  case round =>
    obtain ⟨j, hj, rfl, rfl⟩ := hrel
    by_cases hlt : j < n
    · obtain ⟨b, off, x, y, rfl, hx, hc0, hc1⟩ := hI.at (k := j) (by rw [marks2_len]; exact hlt)
      obtain ⟨rfl, rfl⟩ := marks2_get hx
      clear hx
      go_wp2
      go_loop [1, 6] (fun kk i => ∃ r : Nat, r ≤ 2 ∧ i = .int .i64 r ∧ kk = .int .i64 (k0 + 2 * (j : Int) + r)) (fun _ i => 2 - (intOf i).toNat)
      case atStart => exact ⟨0, by omega, rfl, by simp⟩
      case round =>
        obtain ⟨r, hr2, rfl, rfl⟩ := hrel
        have hcase : r = 0 ∨ r = 1 ∨ r = 2 := by omega
        rcases hcase with rfl | rfl | rfl
        · go_wp2
          go_round
          case rel => exact ⟨1, by omega, by go_num, by go_num⟩
          case measure => simp [intOf]
        · go_wp2
          go_round
          case rel => exact ⟨2, by omega, by go_num, by go_num⟩
          case measure => simp [intOf]
        · go_wp2
          go_round
          case rel => exact ⟨j + 1, by omega, by go_num, by go_num⟩
          case measure => simp [intOf]; omega
    · have hjn : j = n := by omega
      subst hjn
      go_wp2
      go_ret
      exact ⟨rfl, frefl _⟩
end Go.Proofs.Ytjlhjkdmpngkbaa
