/- Contracts: requests copied; lists of requests compared. -/
import Derived.Test.YtjlhjkdmpngkbaaReq
import Derived.StillTailTactics
namespace Go.Proofs.Ytjlhjkdmpngkbaa
open Go.RowKit Go.PlainAid

def OutReq (w : World) (x : LQ) (e : Ending) (w' : World) : Prop := ∃ y : LQ, e = .returned (lqV y) ∧ y.val = x.val ∧ Own w' w.heap.size 3 y.r.q (y.r.fibs.map iv) ∧ Fresh w w'
abbrev zReq : List Value := [iv 0, .slice none 0 0, iv 0]
theorem infoReq : (Try.prog.info? 128).map (fun i => (i.zero, i.size, i.bytes)) = some (some (.agg #[iv 0, .slice none 0 0, iv 0]), zReq.length, 40) := by kernel_rfl

set_option maxHeartbeats 2000000 in
theorem toRequest_any (x : LQ) (w : World) (hI : Ints w x.r.q x.r.fibs) (hn : x.r.fibs.length ≤ 1048576) : Calls Try.prog 87 #[lqV x] w (OutReq w x) := by
  obtain ⟨⟨s, q, cap, l⟩, c⟩ := x
  simp only at hI hn ⊢
  obtain ⟨W3, hW3, hsz3, hf3, r1, r2, r3⟩ := three_rows w [.int .i64 s, .slice q l.length cap, .int .i64 c] zReq zReq 126 128 128
  have HW3 := Lib.hid hW3
  have HI := Lib.hid hI
  have HS := Lib.hid (And.intro hsz3 (And.intro hf3 (And.intro r1 (And.intro r2 r3))))
  clear hW3 hsz3 hf3 r1 r2 r3 hI
  go_enter Try.func87, Try.ntmps87
  go_wp2_with fail
  rw [← HW3.out]
  clear HW3
  obtain ⟨hsz3, hf3, r1, r2, r3⟩ := HS.out
  refine (toRoute_any ⟨s, q, cap, l⟩ _ (HI.out.keep hf3) hn).mono ?_
  rintro e w1 ⟨⟨s', q', cap', l'⟩, rfl, hv, hrs, hf⟩
  simp only [LR.val, Prod.mk.injEq] at hv hrs
  obtain ⟨rfl, rfl⟩ := hv
  have s1 := r1.keep hf
  have s2 := r2.keep hf
  have s3 := r3.keep hf
  have k12 := s1.cell (i := 2) rfl
  have k20 := s2.cell (i := 0) rfl
  have k21 := s2.cell (i := 1) rfl
  have k22 := s2.cell (i := 2) rfl
  have z20 := s2.frozen 0
  have z21 := s2.frozen 1
  have z22 := s2.frozen 2
  have k30 := s3.cell (i := 0) rfl
  have k31 := s3.cell (i := 1) rfl
  have k32 := s3.cell (i := 2) rfl
  have z30 := s3.frozen 0
  have z31 := s3.frozen 1
  have z32 := s3.frozen 2
  have HR := Lib.hid (And.intro hrs (fstep hf3 hf))
  have HZ := Lib.hid hsz3
  clear s1 s2 s3 r1 r2 r3 hrs hf hf3 HS hsz3
  go_wp2
  obtain ⟨hrs, hf⟩ := HR.out
  have hsz3 := HZ.out
  refine bodyPost_ret (v := .agg #[.int .i64 s', .slice q' l'.length cap', .int .i64 c]) (by simp [results, Try.results87, go_sem, k20, k21, k22]) rfl ?_
  refine ⟨⟨⟨s', q', cap', l'⟩, c⟩, rfl, rfl, ?_, ?_⟩
  · refine Own.mono (base := W3.heap.size) ?_ (by omega)
    repeat (refine Own.setOther ?_ (by omega) _)
    exact hrs
  · repeat (refine fset ?_ (by omega) _)
    exact hf

theorem setL_row (f : LQ → List Value) (l' : List LQ) (a : LQ) (m : Nat) (z : List Value) (hf : ∀ x, (f x).length = z.length) : setL (l'.flatMap f ++ zs z (m + 1)) (l'.length * z.length) (f a) = (l' ++ [a]).flatMap f ++ zs z m := by
  have hl : (l'.flatMap f).length = l'.length * z.length := flat_len f z.length hf l'
  rw [zs_succ, ← hl, setL_mid (f a) _ z _ (by rw [hf])]
  simp

set_option maxHeartbeats 4000000 in
theorem toRequestS_any (p : Option Addr) (cap : Nat) (l : List LQ) (w : World) (hI : Reqs w p l) (hs : ReqsSmall l) :
    Calls Try.prog 25 #[.slice p l.length cap] w fun e w' =>
      ∃ l' : List LQ, e = .returned (.slice (some ⟨w.heap.size, 0, none⟩) l'.length l'.length) ∧ l'.map LQ.val = l.map LQ.val ∧ RowAt w' w.heap.size 128 (l'.flatMap lqC) ∧ (∀ x ∈ l', Own w' (w.heap.size + 1) 3 x.r.q (x.r.fibs.map iv)) ∧ Fresh w w' := by
  have hn := hs.1
  have HSM := Lib.hid hs
  clear hs
  have hmk := mkRow (z := zReq) Try.underlying42 infoReq rfl (by decide) l.length (by omega) (by omega)
  go_enter Try.func25, Try.ntmps25
  go_wp2
  go_loopw [4] (fun i wr => ∃ (k : Nat) (l' : List LQ), k ≤ l.length ∧ l'.length = k ∧ i = .int .i64 k ∧ l'.map LQ.val = (l.take k).map LQ.val ∧ RowAt wr w.heap.size 128 (l'.flatMap lqC ++ zs zReq (l.length - k)) ∧ (∀ x ∈ l', Own wr (w.heap.size + 1) 3 x.r.q (x.r.fibs.map iv)) ∧ Fresh w wr)
    (fun i _ => l.length - (intOf i).toNat)
  case atStart => exact ⟨0, [], Nat.zero_le _, rfl, rfl, rfl, RowAt.new w _ _, fun x hx => by simp at hx, fnew (frefl _) _⟩
  case round =>
    obtain ⟨k, l', hk, hlk, rfl, hval, hrow, hown, hf⟩ := hrel
    have HLK := Lib.hid hlk
    have HV := Lib.hid hval
    have HO := Lib.hid hown
    clear hlk hval hown
    by_cases hlt : k < l.length
    · obtain ⟨b, off, x, rfl, hx, hmem, hints, hc0, hc1, hc2⟩ := (hI.keep hf).at hlt
      have hltz : (k : Int) < (l.length : Int) := by omega
      have hsm := HSM.out.2 x hmem
      have HX := Lib.hid hx
      have HR := Lib.hid hrow
      have HF := Lib.hid hf
      have HIN := Lib.hid hints
      have hlw := hrow.lt
      clear hx hmem hrow hf hints
      go_wp2_with fail
      refine (toRequest_any x _ HIN.out hsm).mono ?_
      rintro e w1 ⟨y, rfl, hyv, hyo, hb1⟩
      have hr1 := HR.out.keep hb1
      have gz : ∀ r v, zReq[r]? = some v → (l'.flatMap lqC ++ zs zReq (l.length - k))[k * 3 + r]? = some v := by
        intro r v hv
        have hr : r < 3 := by
          rcases Nat.lt_or_ge r 3 with h | h
          · exact h
          · rw [List.getElem?_eq_none (by simpa using h)] at hv; cases hv
        have hl : (l'.flatMap lqC).length = k * 3 := by rw [flat_len lqC 3 (fun _ => rfl), HLK.out]
        rw [List.getElem?_append_right (by omega), hl, Nat.add_sub_cancel_left]
        have := zs_get zReq (l.length - k) 0 r (by omega) (by simpa using hr)
        rw [Nat.zero_mul, Nat.zero_add] at this
        rw [this]; exact hv
      have hcell0 : w1.cell? ⟨w.heap.size, k * 3, none⟩ = some (.int .i64 0) := hr1.cell (gz 0 _ rfl)
      have hcell1 : w1.cell? ⟨w.heap.size, k * 3 + 1, none⟩ = some (.slice none 0 0) := hr1.cell (gz 1 _ rfl)
      have hcell2 : w1.cell? ⟨w.heap.size, k * 3 + 2, none⟩ = some (.int .i64 0) := hr1.cell (gz 2 _ rfl)
      have hfr0 := hr1.frozen (k * 3)
      have hfr1 := hr1.frozen (k * 3 + 1)
      have hfr2 := hr1.frozen (k * 3 + 2)
      have HR1 := Lib.hid hr1
      have HYV := Lib.hid hyv
      have HYO := Lib.hid hyo
      have HB1 := Lib.hid hb1
      clear hr1 gz hyv hyo hb1
      go_wp2
      go_roundw
      case rel =>
        refine ⟨k + 1, l' ++ [y], by omega, by simp [HLK.out], by go_num, ?_, ?_, ?_, fset (fset (fset (fstep HF.out HB1.out) (Nat.le_refl _) _) (Nat.le_refl _) _) (Nat.le_refl _) _⟩
        · rw [List.map_append, HV.out, List.take_add_one, HX.out, List.map_append]
          simp [HYV.out]
        · have := ((HR1.out.set (k * 3) (iv y.r.start)).set (k * 3 + 1) (.slice y.r.q y.r.fibs.length y.r.cap)).set (k * 3 + 2) (iv y.count)
          have e : l.length - k = (l.length - (k + 1)) + 1 := by omega
          have hs := setL_row lqC l' y (l.length - (k + 1)) zReq (fun _ => rfl)
          rw [HLK.out] at hs
          rw [e] at this
          have hs' : ((((l'.flatMap lqC ++ zs zReq (l.length - (k + 1) + 1)).set (k * 3) (iv y.r.start)).set (k * 3 + 1) (.slice y.r.q y.r.fibs.length y.r.cap)).set (k * 3 + 2) (iv y.count)) = (l' ++ [y]).flatMap lqC ++ zs zReq (l.length - (k + 1)) := hs
          rw [hs'] at this
          exact this
        · intro z hz
          rw [List.mem_append] at hz
          refine Own.setOther (Own.setOther (Own.setOther ?_ (by omega) _) (by omega) _) (by omega) _
          rcases hz with hz | hz
          · exact (HO.out z hz).keep HB1.out
          · simp at hz; subst hz
            exact HYO.out.mono (by omega)
      case measure => simp [intOf]; omega
    · have hkn : k = l.length := by omega
      have hltz : ¬ (k : Int) < (l.length : Int) := by omega
      have HR := Lib.hid hrow
      have HF := Lib.hid hf
      clear hrow hf
      go_wp2
      go_ret
      refine ⟨l', ?_, ?_, ?_, HO.out, HF.out⟩
      · rw [HLK.out, hkn]; rfl
      · have := HV.out; rw [hkn, List.take_length] at this; exact this
      · have := HR.out
        rw [hkn, Nat.sub_self, zs_zero, List.append_nil] at this
        exact this
end Go.Proofs.Ytjlhjkdmpngkbaa
