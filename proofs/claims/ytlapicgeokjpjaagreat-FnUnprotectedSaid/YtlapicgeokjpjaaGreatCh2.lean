/- Contracts: the smallest number of fibers that separate two nodes, the program's side. -/
import Derived.Test.YtlapicgeokjpjaaGreatCh
import Derived.Test.YtlapicgeokjpjaaGreatY7
import Derived.Test.YtlapicgeokjpjaaGreatMgR
namespace Go.Proofs.YtlapicgeokjpjaaGreat
open Go.RowKit Go.PlainAid

/-- What the search's variables hold. -/
structure FwSt (w0 w : World) (bo bh : Nat) (H : Value) (o : List Int) : Prop where
  fr : Fresh w0 w
  out : ∃ q c, RowAt w bo 37 [.slice q o.length c]
  hol : RowAt w bh 88 [H]
theorem FwSt.keep {w0 w w' : World} {bo bh : Nat} {H : Value} {o : List Int} (h : FwSt w0 w bo bh H o) (hb : Fresh w w') : FwSt w0 w' bo bh H o := by
  obtain ⟨a, ⟨q, c, b⟩, d⟩ := h
  exact ⟨fstep a hb, ⟨q, c, b.keep hb⟩, d.keep hb⟩
set_option maxHeartbeats 4000000 in
set_option maxRecDepth 100000 in
theorem fwClo_any (w0 : World) (bo bh : Nat) (hbb : bo ≠ bh) (h0 : w0.heap.size ≤ bo) (cl : FuncId) (cp : Array Value) (g : List Int → Bool) (eg : ∀ args w, (callFunc cl args).run Tryz.prog w = .ok (.enter cl args) w)
    (hcl : ∀ p c l W, Fresh w0 W → Ints W p l → l.length ≤ 64 → Calls Tryz.prog cl (#[.slice p l.length c] ++ cp) W fun e W' => e = .returned (.bool (g l)) ∧ Fresh W W')
    (p : Option Addr) (c : Nat) (l o : List Int) (w : World) (st : FwSt w0 w bo bh (.func (.func cl) #[] cp) o) (hr : RowV w bo p c l) (hl : l.length ≤ 64) :
    Calls Tryz.prog 89 (#[.slice p l.length c] ++ #[.pointer (some ⟨bo, 0, none⟩), .pointer (some ⟨bh, 0, none⟩)]) w fun e w' => e = .returned (.bool (g l)) ∧ FwSt w0 w' bo bh (.func (.func cl) #[] cp) l ∧ KpV bo w w' := by
  have HCL := Lib.hid hcl
  have HR := Lib.hid hr
  have HST := Lib.hid st
  have HCN := Lib.hid (cloneI_o p c l w hr.ints (by omega))
  clear hcl hr st
  go_enter Tryz.func89, Tryz.ntmps89
  go_wp2_with fail
  refine (HCN.out).mono ?_
  rintro e w2 ⟨q', c', rfl, ho, _, _, hb⟩
  obtain ⟨fr, ⟨q0, c0, ro⟩, rh⟩ := HST.out.keep hb
  obtain ⟨W3, hW3⟩ : ∃ W, W = w2.setCell ⟨bo, 0, none⟩ (.slice q' l.length c') := ⟨_, rfl⟩
  have y0 := ro.cell (i := 0) rfl
  have yf := ro.frozen 0
  have ho3 : RowAt W3 bo 37 [.slice q' l.length c'] := by rw [hW3]; exact ro.set 0 _
  have hh3 : RowAt W3 bh 88 [.func (.func cl) #[] cp] := by rw [hW3]; exact rh.setOther (Ne.symm hbb) _
  have hf3 : Fresh w0 W3 := by rw [hW3]; exact fset fr h0 _
  have hk3 : KpV bo w W3 := by rw [hW3]; exact (KpV.fresh hb).trans (KpV.set 0 _)
  have z0 := hh3.cell (i := 0) rfl
  have HS3 : Hid (FwSt w0 W3 bo bh (.func (.func cl) #[] cp) l) := ⟨hf3, ⟨q', c', ho3⟩, hh3⟩
  have HC := Lib.hid (HCL.out p c l W3 hf3 ((HR.out.kp hk3).ints) hl)
  have HK3 := Lib.hid hk3
  have HW3 := Lib.hid hW3
  clear fr ro rh ho3 hh3 hf3 hk3 hW3 ho hb HCN
  go_upto_region 2 with fail
  rw [← HW3.out]
  clear y0 yf
  go_wp2_with fail
  refine (HC.out).mono ?_
  rintro e w4 ⟨rfl, hb⟩
  have HB := Lib.hid hb
  clear hb z0 HC
  go_wp2
  go_ret
  exact ⟨rfl, HS3.out.keep HB.out, HK3.out.trans (KpV.fresh HB.out)⟩
theorem enters_fw (args : Array Value) (w : World) : (callFunc 89 args).run Tryz.prog w = .ok (.enter 89 args) w := enters_of Tryz.func89 (by kernel_rfl) rfl args w
/-- What the shortest list is. -/
def OutFw (g : List Int → Bool) (N : Nat) (w : World) (e : Ending) (w' : World) : Prop := ∃ q c o b, e = .returned (.tuple #[.slice q (o : List Int).length c, .bool b]) ∧ Fresh w w' ∧ (b = true → (g o = true ∧ ChL 0 N o.length o) ∧ ∀ j, j < o.length → ∀ ext, ChL 0 N j ext → g ext = false) ∧ (b = false → ∀ j, j ≤ N → ∀ ext, ChL 0 N j ext → g ext = false)
set_option maxHeartbeats 4000000 in
set_option maxRecDepth 100000 in
theorem fewest_any (N : Nat) (hN : N ≤ 14) (cl : FuncId) (cp : Array Value) (g : List Int → Bool) (eg : ∀ args w, (callFunc cl args).run Tryz.prog w = .ok (.enter cl args) w) (w : World)
    (hcl : ∀ p c l W, Fresh w W → Ints W p l → l.length ≤ 64 → Calls Tryz.prog cl (#[.slice p l.length c] ++ cp) W fun e W' => e = .returned (.bool (g l)) ∧ Fresh W W') :
    Calls Tryz.prog 59 #[.int .i64 (N : Int), .func (.func cl) #[] cp] w (OutFw g N w) := by
  have hmf : ∀ (fn : Fn) (first cap : Array Value) (w : World), (Instr.makeFunc fn first cap).run Tryz.prog w = .ok (.func fn first cap) w := fun _ _ _ _ => rfl
  obtain ⟨bh, hbh⟩ : ∃ b, b = w.heap.size := ⟨_, rfl⟩
  obtain ⟨bo, hbo⟩ : ∃ b, b = bh + 1 + 1 := ⟨_, rfl⟩
  obtain ⟨W3, hW3⟩ : ∃ W, W = ((w.alloc (.cells #[.func (.func cl) #[] cp] 88)).alloc (.cells #[] 3)).alloc (.cells #[.slice (some ⟨w.heap.size + 1, 0, none⟩) 0 0] 37) := ⟨_, rfl⟩
  have hf3 : Fresh w W3 := by rw [hW3]; exact fnew (fnew (fnew (frefl _) _) _) _
  have hr1 : RowAt W3 bh 88 [.func (.func cl) #[] cp] := by rw [hW3, hbh]; exact ((RowAt.new _ _ _).alloc _).alloc _
  have hr2 : RowAt W3 bo 37 [.slice (some ⟨w.heap.size + 1, 0, none⟩) 0 0] := by
    rw [hW3, hbo, hbh]
    have := RowAt.new ((w.alloc (.cells #[.func (.func cl) #[] cp] 88)).alloc (.cells #[] 3)) 37 [.slice (some ⟨w.heap.size + 1, 0, none⟩) 0 0]
    simpa using this
  have HS0 : Hid (FwSt w W3 bo bh (.func (.func cl) #[] cp) []) := ⟨hf3, ⟨_, _, hr2⟩, hr1⟩
  have hne : bo ≠ bh := by omega
  have h0 : w.heap.size ≤ bo := by omega
  have HCH := Lib.hid (fun (cnt : Nat) (o : List Int) (W : World) (hc : cnt ≤ 14) (hs : FwSt w W bo bh (.func (.func cl) #[] cp) o) => choices_any (fun W o => FwSt w W bo bh (.func (.func cl) #[] cp) o) bo 89 #[.pointer (some ⟨bo, 0, none⟩), .pointer (some ⟨bh, 0, none⟩)] g enters_fw (fun _ _ _ h hb => h.keep hb) (fun _ _ h => by obtain ⟨_, _, hh⟩ := h.out; exact hh.lt) (fun p c l o W hs hr hl => fwClo_any w bo bh hne h0 cl cp g eg hcl p c l o W hs hr hl) N (by omega) cnt 0 none 0 [] o W (Nat.zero_le _) (by simp; omega) (by simp) (by omega) hs (Or.inl ⟨rfl, rfl, rfl⟩))
  have HBH := Lib.hid hbh
  have HBO := Lib.hid hbo
  have HW3 := Lib.hid hW3
  have w1 : IntKind.i64.wrap ((N : Int) + 1) = (N : Int) + 1 := by rw [IntKind.wrap_i64]; omega
  clear hf3 hr1 hr2 hW3 hcl hbh hbo
  go_enter Tryz.func59, Tryz.ntmps59
  go_wp2_with fail
  rw [← HW3.out, ← HBH.out, ← HBO.out]
  go_loopw [12] (fun i wr => ∃ (k : Nat) (o : List Int), k ≤ N + 1 ∧ i = .int .i64 k ∧ FwSt w wr bo bh (.func (.func cl) #[] cp) o ∧ Hid (∀ j, j < k → ∀ ext, ChL 0 N j ext → g ext = false)) (fun i _ => N + 1 - (intOf i).toNat)
  case atStart => exact ⟨0, [], by omega, rfl, HS0.out, (show ∀ j, _ from fun j h => by omega)⟩
  case round =>
    obtain ⟨k, o, hk, rfl, hst, HNO⟩ := hrel
    have HST := Lib.hid hst
    clear hst
    by_cases hlt : k < N + 1
    · have hltz : (k : Int) < (N : Int) + 1 := by omega
      have HC := Lib.hid (HCH.out k o wr (by omega) HST.out)
      unfold OutCh at HC
      simp only [List.length_nil, Int.natCast_zero] at HC
      go_wp2_with fail
      refine (HC.out).mono ?_
      rintro e w4 ⟨b, o', rfl, hst4, hkp4, hyes, hno⟩
      have HST4 := Lib.hid hst4
      have HYES := Lib.hid hyes
      have HNO4 := Lib.hid hno
      clear hst4 hkp4 hyes hno HC
      cases b
      · go_wp2
        go_roundw
        case rel =>
          refine ⟨k + 1, o', by omega, by go_num, HST4.out, (show ∀ j, _ from fun j h ext hx => ?_)⟩
          rcases Nat.lt_or_ge j k with h3 | h3
          · exact HNO.out j h3 ext hx
          · obtain rfl : j = k := by omega
            have := HNO4.out (by simp) ext hx
            simpa using this
        case measure => simp [intOf]; omega
      · obtain ⟨fr, ⟨q, c, ro⟩, rh⟩ := HST4.out
        have z0 := ro.cell (i := 0) rfl
        have HFR := Lib.hid fr
        clear fr ro rh
        go_wp2
        go_ret2
        obtain ⟨h1, ext, h2, h3⟩ := HYES.out (by simp)
        rw [List.nil_append] at h3
        subst h3
        exact ⟨q, c, o', true, rfl, HFR.out, fun _ => ⟨⟨h1, by rw [h2.1]; exact h2⟩, fun j hj ext hx => HNO.out j (by rw [h2.1] at hj; exact hj) ext hx⟩, (fun h => by simp at h)⟩
    · have hltz : ¬ (k : Int) < (N : Int) + 1 := by omega
      go_wp2
      go_ret2
      exact ⟨none, 0, [], false, rfl, HST.out.fr, (fun h => by simp at h), fun _ j hj ext hx => HNO.out j (by omega) ext hx⟩

/-- Whether two nodes are apart without some fibers. -/
def sepB (n : Net) (s t : Int) (l : List Int) : Bool := !(lab (compC n.fibers l n.nodes.length) s == lab (compC n.fibers l n.nodes.length) t)
theorem sepB_iff {n : Net} {s t : Int} {l : List Int} (hF : ∀ f ∈ n.fibers, 0 ≤ f.a ∧ f.a < f.b ∧ f.b < (n.nodes.length : Int)) (hs : 0 ≤ s ∧ s < (n.nodes.length : Int)) (ht : 0 ≤ t ∧ t < (n.nodes.length : Int)) : sepB n s t l = true ↔ ¬ Con n.fibers l s t := by
  rw [← compC_iff hF hs ht]
  unfold sepB
  simp
theorem ints_cell {w : World} {p : Option Addr} {L : List Int} (h : Ints w p L) {k : Nat} (hk : k < L.length) : ∃ b off, p = some ⟨b, off, none⟩ ∧ w.cell? ⟨b, off + k, none⟩ = some (.int .i64 (lab L (k : Int))) := by
  obtain ⟨b, off, x, h1, h2, h3⟩ := h.at hk
  refine ⟨b, off, h1, ?_⟩
  rw [h3]
  unfold lab
  rw [Int.toNat_natCast, List.getD_eq_getElem?_getD, h2]; rfl
set_option maxHeartbeats 4000000 in
set_option maxRecDepth 100000 in
theorem mcClo_any (bn bf bt : Nat) (qn pn : Option Addr) (cn cp : Nat) (n : Net) (s t : Int) (w : World) (hn : NetIn w (.agg #[.slice qn n.nodes.length cn, .slice pn n.fibers.length cp]) n) (hnet : netB n = true) (hs : 0 ≤ s ∧ s < (n.nodes.length : Int)) (ht : 0 ≤ t ∧ t < (n.nodes.length : Int))
    (r1 : RowAt w bn 27 [.slice qn n.nodes.length cn, .slice pn n.fibers.length cp]) (r2 : RowAt w bf 3 [.int .i64 s]) (r3 : RowAt w bt 3 [.int .i64 t]) (p : Option Addr) (c : Nat) (l : List Int) (hl : Ints w p l) (hll : l.length ≤ 64) :
    Calls Tryz.prog 60 (#[.slice p l.length c] ++ #[.pointer (some ⟨bn, 0, none⟩), .pointer (some ⟨bf, 0, none⟩), .pointer (some ⟨bt, 0, none⟩)]) w fun e w' => e = .returned (.bool (sepB n s t l)) ∧ Fresh w w' := by
  have hb := net_at hnet
  have h8 : n.nodes.length ≤ 8 := by omega
  have h14 : n.fibers.length ≤ 14 := by omega
  have HC := Lib.hid (components_any _ n p c l w hn (net_fib hnet) (by omega) h8 h14 hl (by omega))
  obtain ⟨C, hC⟩ : ∃ C, C = compC n.fibers l n.nodes.length := ⟨_, rfl⟩
  have HCL : Hid (C.length = n.nodes.length) := by show _ = _; rw [hC]; exact compTo_len _ _ _ _
  have HSB : Hid (sepB n s t l = !(lab C s == lab C t)) := by show _ = _; unfold sepB; rw [hC]
  rw [← hC] at HC
  unfold OutInts at HC
  obtain ⟨si, rfl⟩ : ∃ k : Nat, s = (k : Int) := ⟨s.toNat, by omega⟩
  obtain ⟨ti, rfl⟩ : ∃ k : Nat, t = (k : Int) := ⟨t.toNat, by omega⟩
  have HR2 := Lib.hid r2
  have HR3 := Lib.hid r3
  have a0 := r1.cell (i := 0) rfl
  have a1 := r1.cell (i := 1) rfl
  clear hn hnet r1 r2 r3 hl hC hb
  go_enter Tryz.func60, Tryz.ntmps60
  go_wp2_with fail
  refine (HC.out).mono ?_
  rintro e w2 ⟨pc, cc, rfl, ho, hb⟩
  obtain ⟨b, off, rfl, c1⟩ := ints_cell ho.ints (k := si) (by have := HCL.out; omega)
  obtain ⟨b', off', e2, c2⟩ := ints_cell ho.ints (k := ti) (by have := HCL.out; omega)
  cases e2
  have hsz : (si : Int) < (C.length : Int) := by have := HCL.out; omega
  have htz : (ti : Int) < (C.length : Int) := by have := HCL.out; omega
  have b2 := (HR2.out.keep hb).cell (i := 0) rfl
  have b3 := (HR3.out.keep hb).cell (i := 0) rfl
  have HB := Lib.hid hb
  obtain ⟨ls, hls⟩ : ∃ x, x = lab C (si : Int) := ⟨_, rfl⟩
  obtain ⟨lt, hlt⟩ : ∃ x, x = lab C (ti : Int) := ⟨_, rfl⟩
  rw [← hls, ← hlt] at HSB
  rw [← hls] at c1
  rw [← hlt] at c2
  clear ho hb a0 a1 HC hls hlt hs ht
  go_wp2
  go_quiet (fail)
  go_wp2
  go_ret
  exact ⟨by rw [HSB.out]; first | rfl | simp, fdrewN HB.out _⟩
theorem enters_mc (args : Array Value) (w : World) : (callFunc 60 args).run Tryz.prog w = .ok (.enter 60 args) w := enters_of Tryz.func60 (by kernel_rfl) rfl args w
/-- The smallest number of fibers that separate two nodes. -/
def LeastC (n : Net) (s t : Int) (k : Nat) : Prop := CutK n s t k ∧ ∀ j, j < k → ¬ CutK n s t j
theorem ChL.cut {n : Net} {s t : Int} (hF : ∀ f ∈ n.fibers, 0 ≤ f.a ∧ f.a < f.b ∧ f.b < (n.nodes.length : Int)) (hs : 0 ≤ s ∧ s < (n.nodes.length : Int)) (ht : 0 ≤ t ∧ t < (n.nodes.length : Int)) (k : Nat) : CutK n s t k ↔ ∃ ext, ChL 0 n.fibers.length k ext ∧ sepB n s t ext = true := by
  constructor
  · rintro ⟨gone, h1, h2, h3, h4⟩
    exact ⟨gone, ⟨h1, h2, fun i hi => by have := h3 i hi; omega⟩, (sepB_iff hF hs ht).2 h4⟩
  · rintro ⟨ext, ⟨h1, h2, h3⟩, h4⟩
    exact ⟨ext, h1, h2, fun i hi => by have := h3 i hi; omega, (sepB_iff hF hs ht).1 h4⟩
theorem cut_all {n : Net} {s t : Int} (hst : s ≠ t) : ¬ Con n.fibers (startC n.fibers.length) s t := by
  rintro ⟨l, h1, h2⟩
  cases l with
  | nil => exact hst h1
  | cons i l =>
    have := h1.idx i (List.mem_cons_self ..)
    refine h2 i (List.mem_cons_self ..) ?_
    unfold startC
    exact List.mem_map.2 ⟨i.toNat, List.mem_range.2 (by omega), by omega⟩
theorem chL_start (N : Nat) : ChL 0 N N (startC N) := by
  refine ⟨startC_len N, ?_, fun i hi => ?_⟩
  · unfold startC
    rw [List.pairwise_map]
    exact List.Pairwise.imp (fun h => by omega) List.pairwise_lt_range
  · unfold startC at hi
    obtain ⟨k, hk, rfl⟩ := List.mem_map.1 hi
    have := List.mem_range.1 hk
    omega
def OutMc (n : Net) (s t : Int) (w : World) (e : Ending) (w' : World) : Prop := ∃ q c k, e = .returned (.tuple #[.slice q k c, .bool (pairB n s t)]) ∧ Fresh w w' ∧ (pairB n s t = true → LeastC n s t k)
set_option maxHeartbeats 4000000 in
set_option maxRecDepth 100000 in
theorem minCut_any (v : Value) (n : Net) (s t : Int) (w : World) (h : NetIn w v n) :
    Calls Tryz.prog 27 #[v, .int .i64 s, .int .i64 t] w (OutMc n s t w) := by
  have hmf : ∀ (fn : Fn) (first cap : Array Value) (w : World), (Instr.makeFunc fn first cap).run Tryz.prog w = .ok (.func fn first cap) w := fun _ _ _ _ => rfl
  have HN := Lib.hid h
  obtain ⟨qn, cn, pn, cp, rfl, _, _, n1, _, _, _, _⟩ := h
  obtain ⟨b0, hb0⟩ : ∃ b, b = w.heap.size := ⟨_, rfl⟩
  obtain ⟨W3, hW3⟩ : ∃ W, W = ((w.alloc (.cells #[.slice qn n.nodes.length cn, .slice pn n.fibers.length cp] 27)).alloc (.cells #[.int .i64 s] 3)).alloc (.cells #[.int .i64 t] 3) := ⟨_, rfl⟩
  have hf3 : Fresh w W3 := by rw [hW3]; exact fnew (fnew (fnew (frefl _) _) _) _
  have hr1 : RowAt W3 b0 27 [.slice qn n.nodes.length cn, .slice pn n.fibers.length cp] := by rw [hW3, hb0]; exact ((RowAt.new _ _ _).alloc _).alloc _
  have hr2 : RowAt W3 (b0 + 1) 3 [.int .i64 s] := by
    rw [hW3, hb0]
    have := (RowAt.new (w.alloc (.cells #[.slice qn n.nodes.length cn, .slice pn n.fibers.length cp] 27)) 3 [.int .i64 s]).alloc (.cells #[.int .i64 t] 3)
    simpa using this
  have hr3 : RowAt W3 (b0 + 1 + 1) 3 [.int .i64 t] := by
    rw [hW3, hb0]
    have := RowAt.new ((w.alloc (.cells #[.slice qn n.nodes.length cn, .slice pn n.fibers.length cp] 27)).alloc (.cells #[.int .i64 s] 3)) 3 [.int .i64 t]
    simpa using this
  obtain ⟨W4, hW4⟩ : ∃ W, W = W3.alloc (.cells #[.int .i64 s, .int .i64 t] 3) := ⟨_, rfl⟩
  obtain ⟨b3, hb3⟩ : ∃ b, b = W3.heap.size := ⟨_, rfl⟩
  have hf4 : Fresh W3 W4 := by rw [hW4]; exact fnew (frefl _) _
  have hr4 : RowAt W4 b3 3 [.int .i64 s, .int .i64 t] := by rw [hW4, hb3]; exact RowAt.new _ _ _
  have HIS := Lib.hid (isNode_any _ n (some ⟨b3, 0, none⟩) 2 [s, t] W4 (HN.out.keep (fstep hf3 hf4)) hr4.cells (by simp))
  have HPB := Lib.hid (pairB_nodes n s t)
  have HF4 := Lib.hid (fstep hf3 hf4)
  have HR1 := Lib.hid (hr1.keep hf4)
  have HR2 := Lib.hid (hr2.keep hf4)
  have HR3 := Lib.hid (hr3.keep hf4)
  have HW3 := Lib.hid hW3
  have HW4 := Lib.hid hW4
  have HB0 := Lib.hid hb0
  have HB3 := Lib.hid hb3
  have c0 := hr1.cell (i := 0) rfl
  have c1 := hr1.cell (i := 1) rfl
  have c2 := hr2.cell (i := 0) rfl
  have c3 := hr3.cell (i := 0) rfl
  clear hf3 hf4 hr1 hr2 hr3 hr4 hW3 hW4 hb0 hb3
  go_enter Tryz.func27, Tryz.ntmps27
  go_upto_region 1 with fail
  rw [← HB0.out, ← HW3.out]
  cases hB : nodesB n [s, t]
  · rw [hB] at HIS HPB
    have HNO : Hid (pairB n s t = false) := by show _ = _; rw [HPB.out]; rfl
    go_wp2_with fail
    rw [← HB3.out, ← HW4.out]
    refine (HIS.out).mono ?_
    rintro e w1 ⟨rfl, hb⟩
    have HB := Lib.hid hb
    clear hb c0 c1 c2 c3
    go_wp2
    go_ret2
    exact ⟨none, 0, 0, by rw [HNO.out]; rfl, fstep HF4.out HB.out, fun h => by rw [HNO.out] at h; cases h⟩
  · rw [hB] at HIS HPB
    by_cases hst : s = t
    · have hz : (s == t) = true := by simp [hst]
      have HNO : Hid (pairB n s t = false) := by show _ = _; rw [HPB.out]; simp [hst]
      clear hst
      go_wp2_with fail
      rw [← HB3.out, ← HW4.out]
      refine (HIS.out).mono ?_
      rintro e w1 ⟨rfl, hb⟩
      have HB := Lib.hid hb
      have d2 := (HR2.out.keep hb).cell (i := 0) rfl
      have d3 := (HR3.out.keep hb).cell (i := 0) rfl
      clear hb c0 c1 c2 c3
      go_wp2
      go_ret2
      exact ⟨none, 0, 0, by rw [HNO.out]; rfl, fstep HF4.out HB.out, fun h => by rw [HNO.out] at h; cases h⟩
    · have hz : (s == t) = false := by rw [beq_eq_false_iff_ne]; exact hst
      have hpr : pairB n s t = true := by rw [HPB.out]; simp [hst]
      obtain ⟨hnet, hs, ht, _⟩ := pairB_in hpr
      have hF := net_fib hnet
      have hb14 := net_at hnet
      have h14 : n.fibers.length ≤ 14 := by omega
      have HPR := Lib.hid hpr
      have HST := Lib.hid hst
      have HFB := Lib.hid hF
      have HNET := Lib.hid hnet
      have HS := Lib.hid hs
      have HT := Lib.hid ht
      clear hst hpr hF hnet hs ht hb14
      go_wp2_with fail
      rw [← HB3.out, ← HW4.out]
      refine (HIS.out).mono ?_
      rintro e w1 ⟨rfl, hb⟩
      have HB := Lib.hid (fstep HF4.out hb)
      have hq1 := HR1.out.keep hb
      have hq2 := HR2.out.keep hb
      have hq3 := HR3.out.keep hb
      have d0 := hq1.cell (i := 0) rfl
      have d1 := hq1.cell (i := 1) rfl
      have d2 := hq2.cell (i := 0) rfl
      have d3 := hq3.cell (i := 0) rfl
      have HFW := Lib.hid (fewest_any n.fibers.length h14 60 #[.pointer (some ⟨b0, 0, none⟩), .pointer (some ⟨b0 + 1, 0, none⟩), .pointer (some ⟨b0 + 1 + 1, 0, none⟩)] (sepB n s t) enters_mc w1 (fun p c l W hW hl hll => mcClo_any b0 (b0 + 1) (b0 + 1 + 1) qn pn cn cp n s t W (HN.out.keep (fstep HB.out hW)) HNET.out HS.out HT.out (hq1.keep hW) (hq2.keep hW) (hq3.keep hW) p c l hl hll))
      clear hb c0 c1 c2 c3 hq1 hq2 hq3
      go_wp2_with fail
      refine (HFW.out).mono ?_
      rintro e w5 ⟨q, c, o, b, rfl, hf5, hyes, hno⟩
      have hbt : b = true := by
        cases b
        · exfalso
          have h1 := hno rfl n.fibers.length (Nat.le_refl _) (startC n.fibers.length) (chL_start _)
          have h2 := (sepB_iff HFB.out HS.out HT.out).2 (cut_all (n := n) HST.out)
          rw [h1] at h2; cases h2
        · rfl
      subst hbt
      have HYES := Lib.hid hyes
      have HF5 := Lib.hid (fstep HB.out hf5)
      clear hyes hno hf5 HFW d0 d1 d2 d3
      go_wp2
      go_ret2
      obtain ⟨⟨k1, k2⟩, k3⟩ := HYES.out (by simp)
      refine ⟨q, c, o.length, by rw [HPR.out]; rfl, HF5.out, fun _ => ⟨(ChL.cut HFB.out HS.out HT.out _).2 ⟨o, k2, k1⟩, fun j hj hc => ?_⟩⟩
      obtain ⟨ext, e1, e2⟩ := (ChL.cut HFB.out HS.out HT.out _).1 hc
      rw [k3 j hj ext e1] at e2; cases e2
set_option maxHeartbeats 1000000 in
theorem disjointCount_any (v : Value) (n : Net) (s t : Int) (w : World) (h : NetIn w v n) :
    Calls Tryz.prog 9 #[v, .int .i64 s, .int .i64 t] w fun e w' => ∃ k : Nat, e = .returned (.tuple #[.int .i64 (k : Int), .bool (pairB n s t)]) ∧ Fresh w w' ∧ (pairB n s t = true → LeastC n s t k) := by
  have HN := Lib.hid h
  obtain ⟨qn, cn, pn, cp, rfl, _, _, n1, _, _, _, _⟩ := h
  obtain ⟨W3, hW3⟩ : ∃ W, W = w.alloc (.cells #[.slice qn n.nodes.length cn, .slice pn n.fibers.length cp] 27) := ⟨_, rfl⟩
  have hf3 : Fresh w W3 := by rw [hW3]; exact fnew (frefl _) _
  have hr1 : RowAt W3 w.heap.size 27 [.slice qn n.nodes.length cn, .slice pn n.fibers.length cp] := by rw [hW3]; exact RowAt.new _ _ _
  have HC := Lib.hid (minCut_any _ n s t W3 (HN.out.keep hf3))
  have c0 := hr1.cell (i := 0) rfl
  have c1 := hr1.cell (i := 1) rfl
  have HF3 := Lib.hid hf3
  have HW3 := Lib.hid hW3
  clear hf3 hr1 hW3
  go_enter Tryz.func9, Tryz.ntmps9
  go_upto_region 1 with fail
  rw [← HW3.out]
  go_wp2_with fail
  refine (HC.out).mono ?_
  rintro e w1 ⟨q, c, k, rfl, hb, hk⟩
  have HB := Lib.hid (fstep HF3.out hb)
  have HK := Lib.hid hk
  clear hb hk c0 c1 HC
  go_wp2
  go_ret2
  exact ⟨k, rfl, HB.out, HK.out⟩
/-- No pair of routes is counted exactly where fewer than two fibers separate the nodes. -/
theorem count_least {n : Net} {a b : Int} {k : Nat} (h : okK n a b 1 = true) (hk : LeastC n a b k) : (countF n a b 1).1 = 0 ↔ k < 2 := by
  rw [count_two h, two_cut]
  constructor
  · intro hc
    rcases Nat.lt_or_ge k 2 with h2 | h2
    · exact h2
    · rcases hc with hc | hc
      · exact absurd hc (hk.2 0 (by omega))
      · exact absurd hc (hk.2 1 (by omega))
  · intro h2
    rcases (show k = 0 ∨ k = 1 by omega) with e | e
    · subst e; exact Or.inl hk.1
    · subst e; exact Or.inr hk.1
end Go.Proofs.YtlapicgeokjpjaaGreat
