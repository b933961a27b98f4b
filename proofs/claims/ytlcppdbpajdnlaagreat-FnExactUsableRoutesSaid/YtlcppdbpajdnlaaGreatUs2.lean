/- Contracts: the usable routes of a demand, the reference's side. -/
import Derived.Test.YtlcppdbpajdnlaaGreatUs
import Derived.Maps.AppendAt
namespace Go.Proofs.YtlcppdbpajdnlaaGreat
open Go.RowKit Go.PlainAid

/-- One more element at the end of a row of the call's own: where the row lies afterwards. -/
theorem wpList_app_x {T E : TypeId} {z : Value} {size bytes : Nat} (hu : Tryz.prog.underlying T = some (.slice E)) (hinfo : (Tryz.prog.info? E).map (fun i => (i.zero, i.size, i.bytes)) = some (some z, size, bytes))
    (hzs : z.cells.size = size) (hsz : 0 < size) (hby : bytes ≤ 128) {ops : Array Oper} {rest : List Oper} {o : Oper} {a : Act} {Q : Exit → Act → World → Prop} (w0 w1 : World) (v : Value) (n : Nat) (xs news : List Value)
    (g0 : Nat) (hl : news.length = size) (hone : ∀ u ∈ news, u.oneCell' = true) (hgd : o.guard = none) (s t : Operand)
    (ho : o.op = .call { callee := .builtin .append, args := #[s, t], argTypes := #[T, T] }) (hs : a.eval s = v) (hown : w1.ownsRow w0.heap.size E size v n xs)
    (hx : a.eval t = .slice (some ⟨g0, 0, none⟩) 1 1) (hg0 : g0 = w1.heap.size) (hn : n ≤ 1099511627775) (hf : Fresh w0 w1)
    (h : ∀ v' w', w'.ownsRow w0.heap.size E size v' (n + 1) (xs ++ news) → Fresh w0 w' → (∀ g t cs, RowAt w1 g t cs → (t ≠ E ∨ v.ownBlock ≠ some g) → RowAt w' g t cs) → (∀ k, v'.ownBlock = some k → v.ownBlock = some k ∨ w1.heap.size ≤ k) → w1.heap.size ≤ w'.heap.size → wpList Tryz.prog ops Q rest (a.put o.dst v') w') :
    wpList Tryz.prog ops Q (o :: rest) a (w1.alloc (.cells news.toArray E)) := by
  subst hg0
  obtain ⟨i0, hi, hz0, hz1, hz2⟩ := info_parts hinfo
  refine wpList_append_own_at _ hgd s t T ho w0.heap.size E i0 z size bytes hu hi hz0 hz1 hz2 hzs hsz v n xs hs (hown.alloc _) ⟨w1.heap.size, 0, none⟩ 1 1 news hx (by omega)
    (add_new w1 E news) hone (by unfold maxLen; omega) (Nat.le_trans (Nat.mul_le_mul (by omega : n + 1 ≤ 1099511627776) hby) (by omega)) (Nat.le_trans hf.size (by simp)) ?_
  intro v' w' hown' hgrow _ hblk
  refine h v' w' hown' (fgrown (fnew hf _) hgrow (own_block hown)) (fun g t cs hr ht => ?_) (fun k hk => ?_) (Nat.le_trans (by simp) hgrow.size)
  · rcases ht with ht | ht
    · exact row_grown hown hgrow hr ht
    · have hba := hr.alloc (.cells news.toArray E)
      unfold RowAt
      rw [hgrow.block g hba.lt (fun he => ht he.symm)]
      exact hba
  · rcases hblk with hb | hb
    · left; rw [← hb]; exact hk
    · right
      rw [hb] at hk
      cases hk
      simp
theorem ownsRow_typ {w w' : World} {base : Nat} {E T : TypeId} {size n : Nat} {V : Value} {xs : List Value} (h : w.ownsRow base E size V n xs) (hk : ∀ g t cs, RowAt w g t cs → t ≠ T → RowAt w' g t cs) (hT : E ≠ T) : w'.ownsRow base E size V n xs := by
  refine ⟨h.1, ?_⟩
  rcases h.2 with h | ⟨g, cap, cur, hv, hb, hh, r⟩
  · exact Or.inl h
  · exact Or.inr ⟨g, cap, cur, hv, hb, by have := hk g _ cur.toList (show RowAt w g _ cur.toList from by unfold RowAt; exact hh) hT; unfold RowAt at this; exact this, r⟩
theorem Rts.hk {w w' : World} {base : Nat} {p : Option Addr} {n c : Nat} {l : List LR} {v : Value} (h : Rts w base (.slice p n c) l) (hk : ∀ g t cs, RowAt w g t cs → (t ≠ 53 ∨ v.ownBlock ≠ some g) → RowAt w' g t cs) (hp : ∀ g o, p = some ⟨g, o, Option.none⟩ → v.ownBlock ≠ some g) : Rts w' base (.slice p n c) l := by
  refine ⟨?_, fun x hx => ?_, h.dist, h.cap⟩
  · obtain ⟨a1, a2⟩ := h.row
    refine ⟨a1, ?_⟩
    rcases a2 with a2 | ⟨g, cap, cur, hv, hb, hh, r⟩
    · exact Or.inl a2
    · refine Or.inr ⟨g, cap, cur, hv, hb, ?_, r⟩
      cases hv
      have := hk g _ cur.toList (show RowAt w g _ cur.toList from by unfold RowAt; exact hh) (Or.inr (hp g 0 rfl))
      unfold RowAt at this; exact this
  · rcases h.fib x hx with h1 | ⟨b, sp, h1, h2, h3⟩
    · exact Or.inl h1
    · exact Or.inr ⟨b, sp, h1, h2, hk _ _ _ h3 (Or.inl (by decide))⟩
theorem Rts.hkI {w w' : World} {base : Nat} {V : Value} {l : List LR} {v : Value} (h : Rts w base V l) (hk : ∀ g t cs, RowAt w g t cs → (t ≠ 3 ∨ v.ownBlock ≠ some g) → RowAt w' g t cs) (hp : ∀ x ∈ l, ∀ g o, x.q = some ⟨g, o, Option.none⟩ → v.ownBlock ≠ some g) : Rts w' base V l := by
  refine ⟨ownsRow_typ h.row (fun g t cs h n => hk g t cs h (Or.inl n)) (by decide), fun x hx => ?_, h.dist, h.cap⟩
  rcases h.fib x hx with h1 | ⟨b, sp, h1, h2, h3⟩
  · exact Or.inl h1
  · exact Or.inr ⟨b, sp, h1, h2, hk _ _ _ h3 (Or.inr (hp x hx b 0 h1))⟩
/-- Routes with their numbers in two rows of the call's own. -/
structure Uss (w : World) (base : Nat) (V : Value) (pk : Option Addr) (ck : Nat) (l : List CH) : Prop where
  rts : Rts w base V (l.map CH.r)
  ks : w.ownsRow base 3 1 (.slice pk l.length ck) l.length (l.map fun x => iv x.k)
theorem Uss.keep {w w' : World} {base : Nat} {V : Value} {pk : Option Addr} {ck : Nat} {l : List CH} (h : Uss w base V pk ck l) (hb : Fresh w w') : Uss w' base V pk ck l := ⟨h.rts.keep hb, ownsRow_keep h.ks hb⟩
theorem Rts.monoR {w : World} {base base' : Nat} {V : Value} {l : List LR} (h : Rts w base V l) (hb : base' ≤ base) : Rts w base' V l := ⟨owns_mono h.row hb, fun x hx => (h.fib x hx).mono hb, h.dist, h.cap⟩
theorem Uss.mono {w : World} {base base' : Nat} {V : Value} {pk : Option Addr} {ck : Nat} {l : List CH} (h : Uss w base V pk ck l) (hb : base' ≤ base) : Uss w base' V pk ck l := ⟨h.rts.monoR hb, owns_mono h.ks hb⟩
def OutU (n : Net) (fm : List (Int × Int)) (d : Fib) (w : World) (e : Ending) (w' : World) : Prop := ∃ (V : Value) (pk : Option Addr) (ck : Nat) (l : List CH), e = .returned (.tuple #[V, .slice pk l.length ck, .bool (usOk n fm d)]) ∧ Uss w' w.heap.size V pk ck l ∧ l.map CH.val = (usF n fm d).1 ∧ Fresh w w'
theorem chsR_len (n : Net) (fm : List (Int × Int)) (r : Int) (l : List LR) : ((chsOf n fm r l).map CH.r).length = (chsOf n fm r l).length := by simp
set_option maxHeartbeats 4000000 in
set_option maxRecDepth 20000 in
theorem l10Usable_any (v : Value) (n : Net) (pf : Option Addr) (cf : Nat) (fm : List (Int × Int)) (d : Fib) (w : World) (h : NetIn w v n) (hfm : Prs w pf fm) (hfl : fm.length ≤ 1048576) (hus : usB n fm d = true) :
    Calls Tryz.prog 42 #[v, .slice pf fm.length cf, fibV d] w (OutU n fm d w) := by
  have HN := Lib.hid h
  have HP := Lib.hid hfm
  obtain ⟨qn, cn, pn, cp, rfl, _, _, n1, _, _, _, _⟩ := h
  obtain ⟨W2, hW2, hsz2, hf2, r1, r2⟩ := two_rows w [.slice qn n.nodes.length cn, .slice pn n.fibers.length cp] [.int .i64 d.a, .int .i64 d.b, .int .i64 d.len, .int .i64 d.risk] 37 41
  have HF2 := Lib.hid hf2
  have HW2 := Lib.hid hW2
  have HUB := Lib.hid hus
  have HAT := Lib.hid (usB_at hus)
  obtain ⟨W3, hW3⟩ : ∃ W, W = (W2.alloc (.cells #[] 53)).alloc (.cells #[] 3) := ⟨_, rfl⟩
  have hf3 : Fresh W2 W3 := by rw [hW3]; exact fnew (fnew (frefl _) _) _
  have hra : RowAt W3 W2.heap.size 53 [] := by rw [hW3]; exact (RowAt.new W2 _ []).alloc _
  have hrb : RowAt W3 (W2.heap.size + 1) 3 [] := by
    rw [hW3]
    have := RowAt.new (W2.alloc (.cells #[] 53)) 3 []
    simpa using this
  have hR1 := r1.keep hf3
  have hR2 := r2.keep hf3
  have a0 := hR1.cell (i := 0) rfl
  have a1 := hR1.cell (i := 1) rfl
  have d0 := hR2.cell (i := 0) rfl
  have d1 := hR2.cell (i := 1) rfl
  have HR1 := Lib.hid hR1
  have HR2 := Lib.hid hR2
  have HF3 := Lib.hid (fstep hf2 hf3)
  have HW3 := Lib.hid hW3
  rw [hsz2] at hra hrb
  have HRA := Lib.hid hra
  have HRB := Lib.hid hrb
  have hsz3 : w.heap.size + 1 + 1 + 1 < W3.heap.size := hrb.lt
  have HA := Lib.hid (l4All_any (.agg #[.slice qn n.nodes.length cn, .slice pn n.fibers.length cp]) n d.a d.b W3 (HN.out.keep HF3.out) (usB_pair hus))
  clear hfm hf2 r1 r2 hW2 hus hf3 hra hrb hR1 hR2 hW3
  go_enter Tryz.func42, Tryz.ntmps42
  go_wp2_with fail
  rw [← HW2.out]
  try rw [← HW3.out]
  refine (HA.out).mono ?_
  rintro e w6 ⟨V, l, rfl, hr, hv, hf⟩
  have HF6 := Lib.hid (fstep HF3.out hf)
  have HR16 := Lib.hid (HR1.out.keep hf)
  have HR26 := Lib.hid (HR2.out.keep hf)
  have HRA6 := Lib.hid (HRA.out.keep hf)
  have HRB6 := Lib.hid (HRB.out.keep hf)
  have hsz6 := hf.size
  have HRT := Lib.hid hr
  have HV := Lib.hid hv
  clear hr hv hf HA a0 a1 d0 d1
  cases hoa : okA n d.a d.b
  · have HNO : Hid (usOk n fm d = false) := by show _ = _; unfold usOk; rw [hoa, Bool.and_false]
    clear hoa
    go_wp2
    go_ret3
    exact ⟨_, _, _, [], by rw [HNO.out]; (first | done | rfl), ⟨Rts.nil _ _ (ownsRow_zero HRA6.out (by omega)), ownsRow_zero HRB6.out (by omega)⟩, by rw [usF_no HNO.out]; rfl, HF6.out⟩
  have HOK : Hid (usOk n fm d = true) := by show _ = _; unfold usOk; rw [HUB.out, hoa]; rfl
  have hval : l.map LR.val = allR n d.a d.b := by rw [HV.out]; unfold allA; rw [hoa]; rfl
  have hll : l.length ≤ 200 := by
    have h1 := congrArg List.length hval
    unfold okA at hoa
    simp only [Bool.and_eq_true, decide_eq_true_eq] at hoa
    rw [List.length_map] at h1
    omega
  have HGD : Hid (∀ x ∈ l, RtOk n x.fibs) := fun x hx => rt_ok HAT.out.1 HAT.out.2.2.2.2.2.1 (good_mem (show x.val ∈ allR n d.a d.b by rw [← hval]; exact List.mem_map_of_mem hx)).2
  have HVAL := Lib.hid hval
  have HLB := Lib.hid (net_len HAT.out.1)
  clear hoa hval
  obtain ⟨p, c, rfl, hop, _, _⟩ := owns_cap HRT.out.row
  have HGE : Hid (∀ g o, p = some ⟨g, o, none⟩ → W3.heap.size ≤ g ∧ g < w6.heap.size) := by
    intro g o e
    rcases hop with ⟨h0, _⟩ | ⟨b, sp, h1, h2, h3⟩
    · rw [h0] at e; cases e
    · rw [h1] at e; cases e; exact ⟨h2, h3.lt⟩
  clear hop
  have HFE : Hid (∀ x ∈ l, ∀ g o, x.q = some ⟨g, o, none⟩ → W3.heap.size ≤ g ∧ g < w6.heap.size) := by
    intro x hx g o e
    rcases HRT.out.fib x hx with ⟨h0, _⟩ | ⟨b, sp, h1, h2, h3⟩
    · rw [h0] at e; cases e
    · rw [h1] at e; cases e; exact ⟨h2, h3.lt⟩
  have HNK : Hid (∀ k, (Value.slice (some ⟨w.heap.size + 1 + 1 + 1, 0, none⟩) 0 0).ownBlock = some k → k < W3.heap.size ∨ w6.heap.size ≤ k) := by
    intro k hk
    simp [Value.ownBlock] at hk
    omega
  have HRT0 := Lib.hid (HRT.out.monoR (show w.heap.size ≤ W3.heap.size from HF3.out.size))
  have HOA := Lib.hid (show w6.ownsRow w.heap.size 53 2 (.slice (some ⟨w.heap.size + 1 + 1, 0, none⟩) 0 0) 0 [] from ownsRow_zero HRA6.out (by omega))
  have HOB := Lib.hid (show w6.ownsRow w.heap.size 3 1 (.slice (some ⟨w.heap.size + 1 + 1 + 1, 0, none⟩) 0 0) 0 [] from ownsRow_zero HRB6.out (by omega))
  have HNE : Hid (∀ k, (Value.slice (some ⟨w.heap.size + 1 + 1, 0, none⟩) 0 0).ownBlock = some k → k < W3.heap.size ∨ w6.heap.size ≤ k) := by
    intro k hk
    simp [Value.ownBlock] at hk
    omega
  go_wp2
  go_loopw [9, 10, 13] (fun o s i wr => ∃ j : Nat, j ≤ l.length ∧ i = .int .i64 j ∧ wr.ownsRow w.heap.size 53 2 o (chsOf n fm d.len (l.take j)).length (((chsOf n fm d.len (l.take j)).map CH.r).flatMap lrC) ∧ wr.ownsRow w.heap.size 3 1 s (chsOf n fm d.len (l.take j)).length ((chsOf n fm d.len (l.take j)).map fun x => iv x.k) ∧ (∀ k, o.ownBlock = some k → k < W3.heap.size ∨ w6.heap.size ≤ k) ∧ (∀ k, s.ownBlock = some k → k < W3.heap.size ∨ w6.heap.size ≤ k) ∧ Fresh w wr ∧ w6.heap.size ≤ wr.heap.size ∧ Rts wr w.heap.size (.slice p l.length c) l ∧ RowAt wr w.heap.size 37 [.slice qn n.nodes.length cn, .slice pn n.fibers.length cp] ∧ RowAt wr (w.heap.size + 1) 41 [.int .i64 d.a, .int .i64 d.b, .int .i64 d.len, .int .i64 d.risk]) (fun _ _ i _ => l.length - (intOf i).toNat)
  case atStart => exact ⟨0, Nat.zero_le _, rfl, HOA.out, HOB.out, HNE.out, HNK.out, HF6.out, Nat.le_refl _, HRT0.out, HR16.out, HR26.out⟩
  case round =>
    obtain ⟨j, hj, rfl, hown, howk, hne, hnk, hf, hszr, hrt, hrn, hrd⟩ := hrel
    by_cases hlt : j < l.length
    · have hltz : (j : Int) < (l.length : Int) := by omega
      obtain ⟨g, x, rfl, hx, hm, hc0, hc1⟩ := rts_at hrt hlt
      have htk : l.take (j + 1) = l.take j ++ [x] := by rw [List.take_add_one, hx]; rfl
      have HO := Lib.hid hown
      have HK := Lib.hid howk
      have HNE' := Lib.hid hne
      have HNK' := Lib.hid hnk
      have HF3' := Lib.hid hf
      have HRT3 := Lib.hid hrt
      have HR1' := Lib.hid hrn
      have HR2' := Lib.hid hrd
      have HTK := Lib.hid htk
      have HX := Lib.hid hm
      have hcl := chs_len n fm d.len (l.take j)
      rw [List.length_take, Nat.min_eq_left hj] at hcl
      have a0 := hrn.cell (i := 0) rfl
      have a1 := hrn.cell (i := 1) rfl
      have d2 := hrd.cell (i := 2) rfl
      clear hown howk hne hnk hf hrt hrn hrd hx hm htk
      have a0w := fun xa : After wr => akeep a0 xa
      have a1w := fun xa : After wr => akeep a1 xa
      have d2w := fun xa : After wr => akeep d2 xa
      have c0w := fun xa : After wr => akeep hc0 xa
      have c1w := fun xa : After wr => akeep hc1 xa
      have HL : Hid (∀ xa : After wr, Calls Tryz.prog 68 #[.agg #[.slice qn n.nodes.length cn, .slice pn n.fibers.length cp], .agg #[.int .i64 x.start, .slice x.q x.fibs.length x.cap]] xa.w' fun e w' => e = .returned (.int .i64 (lenR n.fibers x.fibs)) ∧ Fresh xa.w' w') := fun xa =>
        l4Length_any _ n x.start x.q x.cap x.fibs xa.w' ((HN.out.keep HF3'.out).keep xa.h) ((HRT3.out.fib x HX.out).ints.keep xa.h) (HGD.out x HX.out) HLB.out
      obtain ⟨L, hL⟩ : ∃ L, L = lenR n.fibers x.fibs := ⟨_, rfl⟩
      have HUS : Hid (useS n fm d.len x.val = slotsN fm L d.len) := by show _ = _; rw [hL]; rfl
      rw [← hL] at HL
      have HS : Hid (∀ xa : After wr, Calls Tryz.prog 67 #[.slice pf fm.length cf, .int .i64 L, .int .i64 d.len] xa.w' fun e w' => e = .returned (.int .i64 (slotsN fm L d.len)) ∧ Fresh xa.w' w') := fun xa =>
        l10Slots_any pf cf fm L d.len xa.w' ((HP.out.keep HF3'.out).keep xa.h) hfl HAT.out.2.1 ⟨HAT.out.2.2.2.1, HAT.out.2.2.2.2.1⟩
      obtain ⟨S, hS⟩ : ∃ S, S = slotsN fm L d.len := ⟨_, rfl⟩
      have hSP : S = 0 ∨ 1 ≤ S := by
        by_cases h0 : S = 0
        · exact Or.inl h0
        · right; rw [hS] at h0 ⊢; exact (slotsN_pos HAT.out.2.1 HAT.out.2.2.2.1 h0).1
      rw [← hS] at HS HUS
      clear hL hS
      go_wp2
      refine wp_region_after (by kernel_rfl) (by kernel_rfl) ?_
      repeat (go_big_quiet_step (first | (go_at_call 68; exact after_call (HL.out _)) | (go_at_call 67; exact after_call (HS.out _))))
      refine wpQuiet_nil ?_
      rintro _ ⟨xa, rfl⟩
      have hxa := xa.h
      obtain ⟨W8, hW8⟩ : ∃ W, W = xa.w' := ⟨_, rfl⟩
      rw [← hW8] at hxa ⊢
      have HXA := Lib.hid hxa
      have hsz8 := hxa.size
      have c0' := fkeep hxa hc0
      have c1' := fkeep hxa hc1
      clear a0w a1w d2w c0w c1w a0 a1 d2 hc0 hc1 HL HS hxa hW8
      rcases hSP with hz | hz
      · have hng : ¬ (0 : Int) < S := by omega
        have HNO := Lib.hid (chs_no (n := n) (fm := fm) (r := d.len) (l := l.take j) (x := x) (by rw [HUS.out, hz]))
        clear hz
        go_wp2
        go_roundw
        case rel => exact ⟨j + 1, by omega, by go_num, by rw [HTK.out, HNO.out]; exact ownsRow_keep HO.out HXA.out, by rw [HTK.out, HNO.out]; exact ownsRow_keep HK.out HXA.out, HNE'.out, HNK'.out, fstep HF3'.out HXA.out, by omega, HRT3.out.keep HXA.out, HR1'.out.keep HXA.out, HR2'.out.keep HXA.out⟩
        case measure => simp [intOf]; omega
      · have hpg : (0 : Int) < S := by omega
        have HYES : Hid (chsOf n fm d.len (l.take j ++ [x]) = chsOf n fm d.len (l.take j) ++ [⟨x, S⟩]) := by show _ = _; rw [chs_yes (by rw [HUS.out]; omega), HUS.out]
        clear hz
        obtain ⟨I, hI⟩ : ∃ I, I = chsOf n fm d.len (l.take j) := ⟨_, rfl⟩
        rw [← hI] at hcl HO HK HYES
        have hown6 := ownsRow_keep HO.out HXA.out
        have HF8 := Lib.hid (fstep HF3'.out HXA.out)
        clear hI
        go_wp2_with (first | (at_builtin; refine wpList_app_x Tryz.underlying31 infoRt rfl (by decide) (by decide) w W8 _ I.length ((I.map CH.r).flatMap lrC) [.int .i64 x.start, .slice x.q x.fibs.length x.cap] _ rfl (one_rt x) rfl _ _ rfl rfl hown6 rfl rfl (by omega) HF8.out ?_; intro v' w' hown3 hf3 hkp hbk hsa) | (at_builtin; refine wpList_app_x Tryz.underlying32 infoInt rfl (by decide) (by decide) w w' _ I.length (I.map fun x => iv x.k) [.int .i64 S] _ rfl (by intro u hu; simp at hu; subst hu; rfl) rfl _ _ rfl rfl (ownsRow_typ (ownsRow_keep HK.out HXA.out) (fun g t cs h n => hkp g t cs h (Or.inl n)) (by decide)) rfl rfl (by omega) hf3 ?_; intro v2 w2 hown4 hf4 hkp4 hbk4 hsb))
        have HO3 := Lib.hid hown3
        have HF9 := Lib.hid hf3
        have HK3 := Lib.hid hkp
        have HB3 := Lib.hid hbk
        have HO4 := Lib.hid hown4
        have HF10 := Lib.hid hf4
        have HK4 := Lib.hid hkp4
        have HB4 := Lib.hid hbk4
        have HLT := Lib.hid (And.intro hsa hsb)
        clear hown3 hf3 hkp hbk hown6 c0' c1' hown4 hf4 hkp4 hbk4 hsa hsb
        go_wp2
        go_roundw
        case rel =>
          have hpk : ∀ g' o', (some (⟨g, 0, none⟩ : Addr)) = some ⟨g', o', none⟩ → ¬ (_ : Option Nat) = some g' := fun g' o' e hk => by
            cases e
            have h1 := HGE.out g 0 rfl
            rcases HNE'.out g hk with h | h <;> omega
          have hpi : ∀ y ∈ l, ∀ g' o', y.q = some ⟨g', o', none⟩ → ¬ (_ : Option Nat) = some g' := fun y hy g' o' e hk => by
            have h1 := HFE.out y hy g' o' e
            rcases HNK'.out g' hk with h | h <;> omega
          have hz9 := HLT.out.1
          have hz10 := HLT.out.2
          refine ⟨j + 1, by omega, by go_num, ?_, ?_, fun k hk => ?_, fun k hk => ?_, HF10.out, ?_, ((HRT3.out.keep HXA.out).hk HK3.out hpk).hkI HK4.out hpi, ?_, ?_⟩
          · rw [HTK.out, HYES.out, List.map_append, List.flatMap_append, List.length_append]
            exact ownsRow_typ HO3.out (fun g t cs h n => HK4.out g t cs h (Or.inl n)) (by decide)
          · rw [HTK.out, HYES.out, List.map_append, List.length_append]
            exact HO4.out
          · rcases HB3.out k hk with h | h
            · exact HNE'.out k h
            · right; omega
          · rcases HB4.out k hk with h | h
            · exact HNK'.out k h
            · right; omega
          · omega
          · exact HK4.out _ _ _ (HK3.out _ _ _ (HR1'.out.keep HXA.out) (Or.inl (by decide))) (Or.inl (by decide))
          · exact HK4.out _ _ _ (HK3.out _ _ _ (HR2'.out.keep HXA.out) (Or.inl (by decide))) (Or.inl (by decide))
        case measure => simp [intOf]; omega
    · have hjn : j = l.length := by omega
      have hltz : ¬ (j : Int) < (l.length : Int) := by omega
      subst hjn
      rw [List.take_length] at hown howk
      have HO := Lib.hid hown
      have HK := Lib.hid howk
      have HFF := Lib.hid hf
      have HRT := Lib.hid hrt
      clear hown howk hne hnk hf hrt hrn hrd
      obtain ⟨pk, ck, hs, _, _, _⟩ := owns_cap HK.out
      subst hs
      go_wp2
      go_ret3
      refine ⟨_, pk, ck, chsOf n fm d.len l, by rw [HOK.out]; (first | done | rfl), ⟨⟨by rw [chsR_len]; exact HO.out, fun x hx => ?_, by rw [chs_rs]; exact HRT.out.dist.filter _, fun x hx => ?_⟩, HK.out⟩, by rw [usF_yes HOK.out, chs_val, HVAL.out], HFF.out⟩
      · rw [chs_rs] at hx
        exact HRT.out.fib x (List.mem_filter.1 hx).1
      · rw [chs_rs] at hx
        exact HRT.out.cap x (List.mem_filter.1 hx).1
end Go.Proofs.YtlcppdbpajdnlaaGreat
