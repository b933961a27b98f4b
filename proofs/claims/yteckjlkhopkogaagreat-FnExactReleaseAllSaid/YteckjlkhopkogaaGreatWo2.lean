/- Contracts: a plan without one of its lights, the reference's side. -/
import Derived.Test.YteckjlkhopkogaaGreatWo
namespace Go.Proofs.YteckjlkhopkogaaGreat
open Go.RowKit Go.PlainAid

/-- Many elements appended to a row of the call's own, as a step of a region that draws its order. -/
theorem step_app_m {T E : TypeId} {z : Value} {size bytes : Nat} {ops : Array Oper} {o : Oper} {a : Act} {w : World} {K : Act → World → Prop} {Q : Exit → Act → World → Prop} {F : Prop} (dd : Option Nat) (_hd : o.dst = dd) (hu : Tryz.prog.underlying T = some (.slice E)) (hinfo : (Tryz.prog.info? E).map (fun i => (i.zero, i.size, i.bytes)) = some (some z, size, bytes))
    (hzs : z.cells.size = size) (hsz : 0 < size) (hby : bytes ≤ 128) (w0 : World) (v : Value) (n : Nat) (xs : List Value) (p : Option Addr) (m c : Nat) (news : List Value)
    (hgd : o.guard = none) (s t : Operand) (ho : o.op = .call { callee := .builtin .append, args := #[s, t], argTypes := #[T, T] }) (hs : a.eval s = v) (hown : w.ownsRow w0.heap.size E size v n xs)
    (hx : a.eval t = .slice p m c) (hc : Cells w p news) (hl : news.length = m * size) (hone : ∀ u ∈ news, u.oneCell' = true) (hn : n ≤ 1048576) (hm : m ≤ 1048576) (hf : Fresh w0 w)
    (h : ∀ q' c' w', w'.ownsRow w0.heap.size E size (.slice q' (n + m) c') (n + m) (xs ++ news) → Fresh w0 w' → (∀ g t cs, RowAt w g t cs → (t ≠ E ∨ v.ownBlock ≠ some g) → RowAt w' g t cs) → K (a.put o.dst (.slice q' (n + m) c')) w') :
    if Region.wanted o (yielded ops a.tmps) = true then Oper.wp Tryz.prog o a w K Q else F := by
  have hw : Region.wanted o (yielded ops a.tmps) = true := by simp [Region.wanted, hgd]
  rw [if_pos hw]
  obtain ⟨i0, hi, hz0, hz1, hz2⟩ := info_parts hinfo
  rcases Nat.eq_zero_or_pos m with rfl | hm0
  · have hnil : news = [] := List.eq_nil_of_length_eq_zero (by simpa using hl)
    subst hnil
    have hrun := run_append_zero (P := Tryz.prog) (w := w) w0.heap.size T o.type E i0 size hu hi v n xs hown p c
    obtain ⟨q', c', hv, _, _⟩ := owns_cap hown
    unfold Oper.wp
    simp [execOp, ho, resolve, invoke, builtin, hs, hx, hrun, Result.andThen]
    rw [List.append_nil] at h
    rw [hv] at hown ⊢
    exact h q' c' w hown hf fun _ _ _ h _ => h
  · rcases hc with rfl | ⟨b, off, rfl, hc⟩
    · exfalso
      have : m * size = 0 := by simpa using hl.symm
      rcases Nat.mul_eq_zero.1 this with h' | h' <;> omega
    · refine wp_append_own w s t T ho w0.heap.size E i0 z size bytes hu hi hz0 hz1 hz2 hzs hsz v n xs hs hown ⟨b, off, none⟩ m c news hx hl
        (fun j u hj => by
          have h0 := hc j u hj
          unfold Addr.add
          split
          · next e => subst e; exact h0
          · exact h0) hone (by unfold maxLen; omega) (Nat.le_trans (Nat.mul_le_mul (by omega : n + m ≤ 2097152) hby) (by omega)) hf.size ?_
      intro v' w' hown' hgrow _
      obtain ⟨q', c', rfl, _, _⟩ := owns_cap hown'
      refine h q' c' w' hown' (fgrown hf hgrow (own_block hown)) fun g t cs hr' ht => ?_
      rcases ht with ht | ht
      · exact row_grown0 hown hgrow hr' ht
      · unfold RowAt
        rw [hgrow.block g hr'.lt (fun he => ht he.symm)]
        exact hr'
theorem Own.hk {w w' : World} {base : Nat} {t E : TypeId} {q : Option Addr} {xs : List Value} {R : Nat → Prop} (h : Own w base t q xs) (hk : ∀ g t cs, RowAt w g t cs → (t ≠ E ∨ R g) → RowAt w' g t cs) (ht : t ≠ E) : Own w' base t q xs := by
  rcases h with h | ⟨b, sp, h1, h2, h3⟩
  · exact Or.inl h
  · exact Or.inr ⟨b, sp, h1, h2, hk _ _ _ h3 (Or.inl ht)⟩
set_option maxHeartbeats 4000000 in
set_option maxRecDepth 100000 in
theorem l9Without_any (v : Value) (P : PlanV) (i : Nat) (w : World) (h : PlIn w v P) (hi : i < P.lights.length) : Calls Tryz.prog 47 #[v, .int .i64 (i : Int)] w fun e w' => ∃ v', e = .returned v' ∧ PlOwn w' w.heap.size v' ⟨P.net, P.lights.eraseIdx i⟩ ∧ Fresh w w' := by
  have HP := Lib.hid h
  obtain ⟨q, c, p, d, r, e0, l, rfl, _, _, hs, hv, _⟩ := h.parts
  have hn := hs.1
  have hil : i < l.length := by rw [hv] at hi; simpa using hi
  obtain ⟨nn, hnn⟩ : ∃ k, k = P.net.nodes.length := ⟨_, rfl⟩
  obtain ⟨nf, hnf⟩ : ∃ k, k = P.net.fibers.length := ⟨_, rfl⟩
  rw [← hnn, ← hnf] at HP ⊢
  obtain ⟨W2, hW2, hsz2, hf2, r1, r2⟩ := two_rows w [.slice q nn c, .slice p nf d, .slice r l.length e0] [.slice none 0 0, .slice none 0 0, .slice none 0 0] 38 38
  have HC := Lib.hid (l9Own_any _ P W2 (HP.out.keep hf2))
  have HF2 := Lib.hid hf2
  have HR2 := Lib.hid r2
  have HW2 := Lib.hid hW2
  have HNN := Lib.hid hnn
  have HNF := Lib.hid hnf
  have HV0 := Lib.hid hv
  have hsz := hf2.size
  clear h hs hf2 r1 r2 hW2 hnn hnf hi hv
  go_enter Tryz.func47, Tryz.ntmps47
  go_wp2_with fail
  rw [← HW2.out]
  refine (HC.out).mono ?_
  rintro e w1 ⟨v1, rfl, ho, hb⟩
  obtain ⟨q', c', p', d', r', e', l', rfl, o1, o2, o3, o4, o5, o6, o7, o8, o9, o10⟩ := ho
  rw [← HNN.out] at o7 ⊢
  rw [← HNF.out]
  have hll : l'.length = l.length := by
    have e1 := congrArg List.length o6
    have e2 := congrArg List.length HV0.out
    simp at e1 e2; omega
  have hil' : i < l'.length := by omega
  have hn' : l'.length ≤ 1048576 := by omega
  obtain ⟨g, sp, rfl, hg, hr⟩ : ∃ g sp, r' = some ⟨g, 0, none⟩ ∧ W2.heap.size ≤ g ∧ RowAt w1 g 94 (l'.flatMap llC ++ sp) := by
    rcases o3 with ⟨_, h0⟩ | h0
    · exfalso
      have := congrArg List.length h0
      rw [flat_len llC 5 (fun _ => rfl)] at this
      simp at this; omega
    · exact h0
  obtain ⟨W4, hW4⟩ : ∃ W4, W4 = w1.alloc (.cells #[.slice q' nn c', .slice p' nf d', .slice (some ⟨g, 0, none⟩) l'.length e'] 38) := ⟨_, rfl⟩
  have hf4 : Fresh w1 W4 := by rw [hW4]; exact fnew (frefl _) _
  have hr4 : RowAt W4 w1.heap.size 38 [.slice q' nn c', .slice p' nf d', .slice (some ⟨g, 0, none⟩) l'.length e'] := by rw [hW4]; exact RowAt.new _ _ _
  have HRG := Lib.hid (hr.keep hf4)
  have HR4 := Lib.hid hr4
  have HRZ := Lib.hid ((HR2.out.keep hb).keep hf4)
  have HF := Lib.hid (fstep HF2.out (fstep hb hf4))
  have HO1 := Lib.hid ((o1.mono hsz).keep hf4)
  have HO2 := Lib.hid ((o2.mono hsz).keep hf4)
  have HO4 : Hid (∀ x ∈ l', Own W4 w.heap.size 3 x.r.q (x.r.fibs.map iv)) := fun x hx => ((o4 x hx).mono hsz).keep hf4
  have HD := Lib.hid o5
  have HV := Lib.hid o6
  have HO7 := Lib.hid o7
  have HLL := Lib.hid hll
  have hgw : w.heap.size ≤ g := Nat.le_trans hsz hg
  have hgl : g < w1.heap.size := hr.lt
  have hwz := hb.size
  have hsz4 : W4.heap.size = w1.heap.size + 1 := by rw [hW4]; simp
  have hv4 := hr4.cell (i := 2) rfl
  have hv5 := fun o : Obj => fkeep (fnew (frefl W4) o) hv4
  have hl5 : (l'.flatMap llC).length = l'.length * 5 := flat_len llC 5 (fun _ => rfl) l'
  have ht5 : ((l'.take i).flatMap llC).length = i * 5 := by rw [flat_len llC 5 (fun _ => rfl)]; simp; omega
  have hd5 : ((l'.drop (i + 1)).flatMap llC).length = (l'.length - (i + 1)) * 5 := by rw [flat_len llC 5 (fun _ => rfl)]; simp
  have ones : ∀ (k : List LL), ∀ u ∈ k.flatMap llC, u.oneCell' = true := by
    intro k u hu
    obtain ⟨x, _, hx⟩ := List.mem_flatMap.1 hu
    exact one_lt x u hx
  -- the two parts, wherever the row lies as it was
  have HPA : Hid (∀ W, RowAt W g 94 (l'.flatMap llC ++ sp) → Cells W (some ⟨g, 0, none⟩) ((l'.take i).flatMap llC)) := by
    intro W hW
    refine Or.inr ⟨g, 0, rfl, fun j u hj => ?_⟩
    have hlt : j < ((l'.take i).flatMap llC).length := by
      rcases Nat.lt_or_ge j ((l'.take i).flatMap llC).length with h' | h'
      · exact h'
      · rw [List.getElem?_eq_none h'] at hj; cases hj
    have e : l'.flatMap llC = (l'.take i).flatMap llC ++ (l'.drop i).flatMap llC := by rw [← List.flatMap_append, List.take_append_drop]
    rw [Nat.zero_add]
    refine hW.cell ?_
    rw [List.getElem?_append_left (by omega), e, List.getElem?_append_left hlt]; exact hj
  obtain ⟨A, hA, hPB⟩ : ∃ A : Option Addr, (if e' = i + 1 then (some (⟨g, 0, none⟩ : Addr)) else some ⟨g, (i + 1) * 5, none⟩) = A ∧ ∀ W, RowAt W g 94 (l'.flatMap llC ++ sp) → Cells W A ((l'.drop (i + 1)).flatMap llC) := by
    refine ⟨_, rfl, fun W hW => ?_⟩
    by_cases h : e' = i + 1
    · left
      exact List.eq_nil_of_length_eq_zero (by rw [hd5]; omega)
    · rw [if_neg h]
      refine Or.inr ⟨g, (i + 1) * 5, rfl, fun j u hj => ?_⟩
      have hlt : j < ((l'.drop (i + 1)).flatMap llC).length := by
        rcases Nat.lt_or_ge j ((l'.drop (i + 1)).flatMap llC).length with h' | h'
        · exact h'
        · rw [List.getElem?_eq_none h'] at hj; cases hj
      have e : l'.flatMap llC = (l'.take (i + 1)).flatMap llC ++ (l'.drop (i + 1)).flatMap llC := by rw [← List.flatMap_append, List.take_append_drop]
      have ht6 : ((l'.take (i + 1)).flatMap llC).length = (i + 1) * 5 := by rw [flat_len llC 5 (fun _ => rfl)]; simp; omega
      refine hW.cell ?_
      rw [List.getElem?_append_left (by omega), e, List.getElem?_append_right (by omega), ht6, show (i + 1) * 5 + j - (i + 1) * 5 = j by omega]; exact hj
  have HPB := Lib.hid hPB
  have HT5 := Lib.hid ht5
  have HD5 := Lib.hid hd5
  have HONE := Lib.hid ones
  have HSZ4 := Lib.hid hsz4
  have HW4 := Lib.hid hW4
  have HO9 := Lib.hid o9
  have hwr : IntKind.i64.wrap ((i : Int) + 1) = (i : Int) + 1 := by rw [IntKind.wrap_i64]; omega
  have b1 : i ≤ e' := by omega
  have b2 : i + 1 ≤ l'.length := by omega
  have b6 : (0 : Int) ≤ (i : Int) + 1 := by omega
  have e1 : ((i : Int) + 1).toNat = i + 1 := by omega
  have n1 : i ≤ 1048576 := by omega
  have n2 : l'.length - (i + 1) ≤ 1048576 := by omega
  have n3 : g ≠ W4.heap.size := by omega
  have n4 : w.heap.size ≤ W4.heap.size := by omega
  have n5 : w.heap.size + 1 ≠ w1.heap.size := by omega
  have hb6 : (i : Int) + 1 ≤ (l'.length : Int) := by omega
  clear hb hf4 hW4 hr hr4 o1 o2 o3 o4 o5 o6 HC o7 o9 hll hl5 ht5 hd5 ones hPB hsz4
  go_wp2_with fail
  rw [← HW4.out]
  go_cut [] (fun wx => ∃ q1 c1, RowAt wx w1.heap.size 38 [.slice q' nn c', .slice p' nf d', .slice q1 (i + (l'.length - (i + 1))) c1] ∧ RowAt wx (w.heap.size + 1) 38 [.slice none 0 0, .slice none 0 0, .slice none 0 0] ∧ wx.ownsRow w.heap.size 94 5 (.slice q1 (i + (l'.length - (i + 1))) c1) (i + (l'.length - (i + 1))) ((l'.take i).flatMap llC ++ (l'.drop (i + 1)).flatMap llC) ∧
    Own wx w.heap.size 9 q' (P.net.nodes.map Value.string) ∧ Own wx w.heap.size 163 p' (P.net.fibers.flatMap fibC) ∧ (∀ x ∈ l', Own wx w.heap.size 3 x.r.q (x.r.fibs.map iv)) ∧ Fresh w wx)
  case first =>
    go_region_law (first | (have _h := hk1; refine step_app_m (some 19) rfl Tryz.underlying36 infoLt rfl (by decide) (by decide) w _ i ([] ++ (l'.take i).flatMap llC) A (l'.length - (i + 1)) (e' - (i + 1)) ((l'.drop (i + 1)).flatMap llC) rfl _ _ rfl rfl hown1 rfl (HPB.out _ hg1) HD5.out (HONE.out _) n1 n2 hf1 ?_; intro q2 c2 w3 hown3 hf3 hk3; have hpl3 := hk3 _ _ _ hpl1 (Or.inl (by decide)); have y2 := hpl3.cell (i := 2) rfl; have yf := hpl3.frozen 2) | (refine step_app_m (some 13) rfl Tryz.underlying36 infoLt rfl (by decide) (by decide) w (.slice (some ⟨W4.heap.size, 0, none⟩) 0 0) 0 [] (some ⟨g, 0, none⟩) i e' ((l'.take i).flatMap llC) rfl _ _ rfl rfl (ownsRow_zero ((RowAt.new W4 94 []).keep (fdrew (frefl _))) n4) rfl (HPA.out _ ((HRG.out.alloc _).keep (fdrew (frefl _)))) HT5.out (HONE.out _) (by omega) n1 (fstep HF.out (fdrew (fnew (frefl _) _))) ?_; rw [Nat.zero_add]; intro q1 c1 w2 hown1 hf1 hk1; have hpl1 := hk1 _ _ _ ((HR4.out.alloc (.cells #[] 94)).keep (fdrew (frefl _))) (Or.inl (by decide)); have hg1 := hk1 _ _ _ ((HRG.out.alloc (.cells #[] 94)).keep (fdrew (frefl _))) (Or.inr (by simp [Value.ownBlock]; omega)); have hv6 := hpl1.cell (i := 2) rfl))
    all_goals (go_wp2_with fail)
    all_goals go_meet
    all_goals (
      have hw4 : Fresh W4 (W4.alloc (.cells #[] 94)).drew := fdrew (fnew (frefl _) _)
      have hz3 := hk3 _ _ _ (hk1 _ _ _ (HRZ.out.keep hw4) (Or.inl (by decide))) (Or.inl (by decide))
      have ho1 := ((HO1.out.keep hw4).hk hk1 (by decide)).hk hk3 (by decide)
      have ho2 := ((HO2.out.keep hw4).hk hk1 (by decide)).hk hk3 (by decide)
      have ho4 := fun x hx => (((HO4.out x hx).keep hw4).hk hk1 (by decide)).hk hk3 (by decide)
      exact ⟨q2, c2, hpl3.set 2 _, hz3.setOther n5 _, owns_setO hown3 hpl3 (by decide) 2, ho1.setO hpl3 (by decide) _ _, ho2.setO hpl3 (by decide) _ _, fun x hx => (ho4 x hx).setO hpl3 (by decide) _ _, fset hf3 (by omega) _⟩)
  case rest =>
    obtain ⟨q1, c1, hp5, hz5, hown, ho1, ho2, ho4, hF5⟩ := hcut
    have hel : (l'.eraseIdx i).length = i + (l'.length - (i + 1)) := by rw [List.length_eraseIdx, if_pos hil']; omega
    obtain ⟨n1', hn1⟩ : ∃ n1', n1' = i + (l'.length - (i + 1)) := ⟨_, rfl⟩
    rw [← hn1] at hp5 hown hel
    obtain ⟨q3, c3, hqc, hol, hcl1, hcl2⟩ := owns_cap hown
    cases hqc
    have m0 := hp5.cell (i := 0) rfl
    have m1 := hp5.cell (i := 1) rfl
    have m2 := hp5.cell (i := 2) rfl
    have x0 := hz5.cell (i := 0) rfl
    have x1 := hz5.cell (i := 1) rfl
    have x2 := hz5.cell (i := 2) rfl
    have u0 := hz5.frozen 0
    have u1 := hz5.frozen 1
    have u2 := hz5.frozen 2
    have hfin := ((hz5.set 0 (.slice q' nn c')).set 1 (.slice p' nf d')).set 2 (.slice q1 n1' c1)
    have k0 := hfin.cell (i := 0) rfl
    have k1 := hfin.cell (i := 1) rfl
    have k2 := hfin.cell (i := 2) rfl
    have HZ5 := Lib.hid hz5
    have HOL := Lib.hid hol
    have HQ1 := Lib.hid ho1
    have HQ2 := Lib.hid ho2
    have HQ4 := Lib.hid ho4
    have HFF := Lib.hid hF5
    have HEL := Lib.hid hel
    have HCL := Lib.hid (And.intro hcl1 hcl2)
    clear hp5 hz5 hown ho1 ho2 ho4 hF5 hfin hol hel hn1 hcl1 hcl2
    go_wp2
    refine bodyPost_ret (v := .agg #[.slice q' nn c', .slice p' nf d', .slice q1 n1' c1]) (by simp [results, Tryz.results47, go_sem, k0, k1, k2]) rfl ?_
    have hS : ∀ {t : TypeId} {pp : Option Addr} {cs : List Value}, Own wc w.heap.size t pp cs → t ≠ 38 → Own (((wc.setCell ⟨w.heap.size + 1, 0, none⟩ (.slice q' nn c')).setCell ⟨w.heap.size + 1, 1, none⟩ (.slice p' nf d')).setCell ⟨w.heap.size + 1, 2, none⟩ (.slice q1 n1' c1)) w.heap.size t pp cs := by
      intro t pp cs h n
      exact ((h.setO HZ5.out n _ _).setO (HZ5.out.set 0 _) n _ _).setO ((HZ5.out.set 0 _).set 1 _) n _ _
    have hrow : Own wc w.heap.size 94 q1 ((l'.eraseIdx i).flatMap llC) := by rw [erase_split]; exact HOL.out
    refine ⟨_, rfl, ⟨q', c', p', d', q1, c1, l'.eraseIdx i, by simp only; rw [HEL.out, HNN.out, HNF.out], hS HQ1.out (by decide), hS HQ2.out (by decide), hS hrow (by decide), fun x hx => hS (HQ4.out x (mem_erase hx)) (by decide), HD.out.erase i, ?_, by simp only; rw [← HNN.out]; exact HO7.out, o8, by rw [HEL.out]; exact HCL.out.1, HCL.out.2⟩, fset (fset (fset HFF.out (by omega) _) (by omega) _) (by omega) _⟩
    simp only
    rw [map_erase, ← HV.out]
end Go.Proofs.YteckjlkhopkogaaGreat
