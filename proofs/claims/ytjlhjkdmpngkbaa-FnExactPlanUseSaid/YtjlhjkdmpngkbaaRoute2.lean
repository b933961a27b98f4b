/- Contracts: the walks along a route, both sides. -/
import Derived.Test.YtjlhjkdmpngkbaaRoute
namespace Go.Proofs.Ytjlhjkdmpngkbaa
open Go.RowKit Go.PlainAid

/-- Two variables that were boxed one after the other. -/
theorem two_boxes {w w1 : World} {a b c d : Value} {t1 t2 : TypeId} (h : Fresh ((w.alloc (.cells #[a, b] t1)).alloc (.cells #[c, d] t2)) w1) :
    w1.cell? ⟨w.heap.size, 0, none⟩ = some a ∧ w1.cell? ⟨w.heap.size, 1, none⟩ = some b ∧ w1.cell? ⟨w.heap.size + 1, 0, none⟩ = some c ∧ w1.cell? ⟨w.heap.size + 1, 1, none⟩ = some d := by
  have r1 := ((RowAt.new w t1 [a, b]).alloc (.cells #[c, d] t2)).keep h
  have r2 := (RowAt.new (w.alloc (.cells #[a, b] t1)) t2 [c, d]).keep h
  have e : (w.alloc (.cells #[a, b] t1)).heap.size = w.heap.size + 1 := by simp
  rw [e] at r2
  exact ⟨r1.cell (i := 0) rfl, r1.cell (i := 1) rfl, r2.cell (i := 0) rfl, r2.cell (i := 1) rfl⟩
theorem keep1 {w w' w'' : World} {b o : Nat} {v : Value} (h : Fresh w w' ∧ w'.cell? ⟨b, o, none⟩ = some v) (hb : Fresh w' w'') : Fresh w w'' ∧ w''.cell? ⟨b, o, none⟩ = some v := ⟨fstep h.1 hb, fkeep hb h.2⟩
theorem own1 (w0 w : World) (x : Int) (h : w0.heap.size ≤ w.heap.size) : (w.alloc (.cells #[.int .i64 x] 3)).ownsRow w0.heap.size 3 1 (.slice (some ⟨w.heap.size, 0, none⟩) 1 1) [x].length ([x].map iv) :=
  ⟨rfl, Or.inr ⟨w.heap.size, 1, #[.int .i64 x], rfl, h, heap_alloc_last _ _, Nat.le_refl _, by simp [maxLen], rfl, rfl⟩⟩
theorem ints_of_own {w : World} {b : Nat} {p : Option Addr} {n cap : Nat} {xs : List Int} (h : w.ownsRow b 3 1 (.slice p n cap) xs.length (xs.map iv)) : n = xs.length ∧ Ints w p xs := by
  obtain ⟨q, c, e, ho⟩ := own_of_row h
  cases e
  exact ⟨rfl, ho.cells⟩

set_option maxHeartbeats 4000000 in
set_option maxRecDepth 100000 in
theorem visited_any (v : Value) (n : Net) (s : Int) (q : Option Addr) (cap : Nat) (l : List Int) (w : World) (h : NetIn w v n) (hl : Ints w q l) (hn : l.length ≤ 1048576) :
    Calls Try.prog 90 #[v, .agg #[.int .i64 s, .slice q l.length cap]] w (OutWalk w (visR n.nodes.length n.fibers s l)) := by
  obtain ⟨N, F⟩ := n
  obtain ⟨qn, c, p, d, rfl, hN, hF, n1, n2, n3, n4, hsz⟩ := h
  simp only at hN hF n1 n2 n3 hsz ⊢
  clear hsz hN
  cases h1 : inB s 0 ((N.length : Int) - 1)
  · have HE := Lib.hid (visR_start (F := F) (l := l) h1)
    go_enter Try.func90, Try.ntmps90
    go_wp2_with (go_at_call 91; refine (within_any _ _ _ _).mono ?_; rintro e w' ⟨rfl, rfl⟩)
    go_ret2
    exact ⟨none, 0, [], by rw [HE.out]; rfl, fnew (fnew (frefl _) _) _, fun out ho => by rw [HE.out] at ho; cases ho⟩
  · by_cases h2 : l.length = 0
    · have HE := Lib.hid (visR_empty (N := N.length) (F := F) (s := s) h2)
      have hd : ((l.length : Int) == 0) = true := by simp [h2]
      have h2z : (l.length : Int) = 0 := by omega
      clear h2
      go_enter Try.func90, Try.ntmps90
      go_wp2_with (go_at_call 91; refine (within_any _ _ _ _).mono ?_; rintro e w' ⟨rfl, rfl⟩)
      go_ret2
      exact ⟨none, 0, [], by rw [HE.out]; rfl, fnew (fnew (frefl _) _) _, fun out ho => by rw [HE.out] at ho; cases ho⟩
    · have HE := Lib.hid (visR_go (F := F) h1 h2)
      have hd : ((l.length : Int) == 0) = false := by simp [h2]
      have h2z : ¬ (l.length : Int) = 0 := by omega
      have HL := Lib.hid hl
      have HFi := Lib.hid hF
      clear h2 hl hF
      go_enter Try.func90, Try.ntmps90
      go_wp2_with (go_at_call 91; refine (within_any _ _ _ _).mono ?_; rintro e w' ⟨rfl, rfl⟩)
      obtain ⟨W2, hW2⟩ : ∃ W2, W2 = (w.alloc (.cells #[.slice qn N.length c, .slice p F.length d] 32)).alloc (.cells #[.int .i64 s, .slice q l.length cap] 79) := ⟨_, rfl⟩
      rw [← hW2]
      have hf2 : Fresh w W2 := by rw [hW2]; exact fnew (fnew (frefl _) _) _
      have hbx := two_boxes (w := w) (w1 := W2) (a := .slice qn N.length c) (b := .slice p F.length d) (c := .int .i64 s) (d := .slice q l.length cap) (t1 := 32) (t2 := 79) (by rw [hW2]; exact frefl _)
      have hsz2 : W2.heap.size = w.heap.size + 1 + 1 := by rw [hW2]; simp
      obtain ⟨c00, c01, c10, c11⟩ := hbx
      have HSZ := Lib.hid hsz2
      have HF2 := Lib.hid hf2
      clear hW2 hf2 hsz2
      have HS : Fresh W2 W2 ∧ W2.cell? ⟨w.heap.size + 1, 0, none⟩ = some (.int .i64 s) := ⟨frefl _, c10⟩
      go_region_held3 (fun w' => Fresh W2 w' ∧ w'.cell? ⟨w.heap.size + 1, 0, none⟩ = some (.int .i64 s))
        (first | assumption | exact keep1 (by assumption) (fdrew (frefl _)) | exact keep1 (by assumption) (fnew (frefl _) _) | exact keep1 (by assumption) (frefl _))
        (first | skip)
      have HS2 : Hid (Fresh W2 ((W2.alloc (.cells #[.int .i64 s] 3)).drew)) := fdrew (fnew (frefl _) _)
      have HO2 : Hid (((W2.alloc (.cells #[.int .i64 s] 3)).drew).ownsRow W2.heap.size 3 1 (.slice (some ⟨W2.heap.size, 0, none⟩) 1 1) [s].length ([s].map iv)) := ownsRow_keep (own1 W2 W2 s (Nat.le_refl _)) (fdrew (frefl _))
      have HC := Lib.hid (And.intro c00 (And.intro c01 (And.intro c10 c11)))
      have d11 := fkeep HS2.out c11
      clear HS c00 c01 c10 c11
      generalize (W2.alloc (.cells #[.int .i64 s] 3)).drew = W3 at HS2 HO2 d11
      go_wp2
      clear d11
      go_loopw [6, 7, 9, 32] (fun o a _ i wr => ∃ (k : Nat) (out : List Int), k ≤ l.length ∧ i = .int .i64 k ∧ a = .int .i64 (lastI out) ∧ walkR F s (l.take k) = some out ∧ wr.ownsRow W2.heap.size 3 1 o out.length (out.map iv) ∧ Fresh W2 wr) (fun _ _ _ i _ => l.length - (intOf i).toNat)
      case atStart => exact ⟨0, [s], Nat.zero_le _, rfl, rfl, rfl, HO2.out, HS2.out⟩
      case round =>
        obtain ⟨k, out, hk, rfl, rfl, hwk, hown, hf⟩ := hrel
        have hol := walk_len hk hwk
        have hole : out.length ≤ 1048577 := by omega
        clear hol
        obtain ⟨po, co, rfl, ho⟩ := own_of_row hown
        have HOI : Hid (Ints wr po out) := (ints_of_own hown).2
        have HOW := Lib.hid hown
        have HWK := Lib.hid hwk
        have HF := Lib.hid hf
        have HOO := Lib.hid ho
        obtain ⟨c00, c01, c10, c11⟩ := HC.out
        replace c00 := fkeep hf c00
        replace c01 := fkeep hf c01
        replace c10 := fkeep hf c10
        replace c11 := fkeep hf c11
        clear hown hwk hf ho
        by_cases hlt : k < l.length
        · obtain ⟨b, off, i, rfl, hx, hc⟩ := (HL.out.keep (fstep HF2.out HF.out)).at hlt
          have hltz : (k : Int) < (l.length : Int) := by omega
          cases hi : inB i 0 ((F.length : Int) - 1)
          · have HN := Lib.hid (walk_dead (k := k + 1) (by rw [walk_step HWK.out hx, stepR_out hi]))
            clear hx
            go_wp2_with (go_at_call 91; refine (within_any _ _ _ _).mono ?_; rintro e w' ⟨rfl, rfl⟩)
            go_ret2
            exact ⟨none, 0, [], by rw [HE.out, HN.out]; rfl, fstep HF2.out HF.out, fun out' ho => by rw [HE.out, HN.out] at ho; cases ho⟩
          · obtain ⟨g1, g2⟩ := inB_iff.1 hi
            obtain ⟨m, rfl⟩ := Int.eq_ofNat_of_zero_le g1
            have hm : m < F.length := by omega
            have hmz : (m : Int) < (F.length : Int) := by omega
            obtain ⟨b2, off2, x, y, z, u, rfl, hfx, hc0, hc1, hc2, hc3⟩ := (HFi.out.keep (fstep HF2.out HF.out)).at hm
            have hst := walk_step HWK.out hx
            obtain ⟨X, hX⟩ : ∃ X, X = other ⟨x, y, z, u⟩ (lastI out) := ⟨_, rfl⟩
            have HX := Lib.hid hX
            clear hx hX
            go_wp2_with (go_at_call 91; refine (within_any _ _ _ _).mono ?_; rintro e w' ⟨rfl, rfl⟩)
            refine (otherEnd_any x y z u (lastI out) _).mono ?_
            rintro e w1 ⟨rfl, hb⟩
            rw [← HX.out]
            replace c00 := fkeep hb c00
            replace c01 := fkeep hb c01
            replace c11 := fkeep hb c11
            have HOI := Lib.hid (HOI.out.keep hb)
            have HOW := Lib.hid (ownsRow_keep HOW.out hb)
            have HF := Lib.hid (fstep HF.out hb)
            clear hb c10 hc hc0 hc1 hc2 hc3
            by_cases hneg : X < 0
            · have hdn : decide (X < 0) = true := decide_eq_true hneg
              have HN := Lib.hid (walk_dead (k := k + 1) (by rw [hst, stepR_bad hi (by rw [Int.toNat_natCast]; exact hfx) (Or.inl (by rw [← HX.out]; exact hneg))]))
              clear hst hfx
              go_wp2
              go_ret2
              exact ⟨none, 0, [], by rw [HE.out, HN.out]; rfl, fstep HF2.out HF.out, fun out' ho => by rw [HE.out, HN.out] at ho; cases ho⟩
            · have hdn : decide (X < 0) = false := decide_eq_false hneg
              by_cases hmem : X ∈ out
              · have hdm : decide (X ∈ out) = true := decide_eq_true hmem
                have HN := Lib.hid (walk_dead (k := k + 1) (by rw [hst, stepR_bad hi (by rw [Int.toNat_natCast]; exact hfx) (Or.inr (by rw [← HX.out]; exact hmem))]))
                clear hst hfx hmem
                go_wp2_with (go_at_call 146; refine (containsI_any _ _ _ _ _ HOI.out (by omega)).mono ?_; rintro e w2 ⟨rfl, rfl⟩)
                go_ret2
                exact ⟨none, 0, [], by rw [HE.out, HN.out]; rfl, fstep HF2.out HF.out, fun out' ho => by rw [HE.out, HN.out] at ho; cases ho⟩
              · have hdm : decide (X ∈ out) = false := decide_eq_false hmem
                have HN : Hid (walkR F s (l.take (k + 1)) = some (out ++ [X])) := by
                  show walkR F s (l.take (k + 1)) = some (out ++ [X])
                  rw [hst, stepR_good hi (by rw [Int.toNat_natCast]; exact hfx) (by rw [← HX.out]; exact fun h => h.elim hneg hmem), ← HX.out]
                have hown := HOW.out
                clear hst hfx hmem
                go_wp2_with (first
                  | (go_at_call 146; refine (containsI_any _ _ _ _ _ HOI.out (by omega)).mono ?_; rintro e w2 ⟨rfl, rfl⟩)
                  | (at_builtin; refine wpList_app_ints W2 _ _ out X rfl _ _ rfl rfl hown rfl (by omega) HF.out ?_; intro v' w2 hown2 hf2))
                have HO3 := Lib.hid hown2
                have HF3 := Lib.hid hf2
                clear hown hown2 hf2 c00 c01 c11
                go_wp2
                go_roundw
                case rel => exact ⟨k + 1, out ++ [X], by omega, by go_num, by rw [lastI_app], HN.out, HO3.out, HF3.out⟩
                case measure => simp [intOf]; omega
        · have hkn : k = l.length := by omega
          have hltz : ¬ (k : Int) < (l.length : Int) := by omega
          have HN : Hid (walkR F s l = some out) := by
            show walkR F s l = some out
            have := HWK.out; rw [hkn, List.take_length] at this; exact this
          go_wp2
          go_ret2
          refine ⟨po, co, out, by rw [HE.out, HN.out]; rfl, fstep HF2.out HF.out, fun out' ho => ?_⟩
          rw [HE.out, HN.out] at ho
          cases ho
          exact ⟨rfl, HOO.out.mono HF2.out.size⟩
end Go.Proofs.Ytjlhjkdmpngkbaa
