/- Contracts: assignment by an order, the program's walk over the order. -/
import Derived.Test.YtmpdljcihiidaaaGreatAg5
import Derived.Deep.DeepCutAuto
namespace Go.Proofs.YtmpdljcihiidaaaGreat
open Go.RowKit Go.PlainAid

def dn (B : List (Int × Int)) (n : Nat) : List Bool := (List.range n).map (doneB B)
theorem dn_len (B : List (Int × Int)) (n : Nat) : (dn B n).length = n := by unfold dn; simp
theorem dn_get {B : List (Int × Int)} {n k : Nat} (h : k < n) : (dn B n)[k]? = some (doneB B k) := by unfold dn; simp [h]
theorem dn_getD {B : List (Int × Int)} {n k : Nat} (h : k < n) : (dn B n).getD k false = doneB B k := by rw [List.getD_eq_getElem?_getD, dn_get h]; rfl
theorem doneB_set {B : List (Int × Int)} {i : Nat} {b : Int × Int} (hi : i < B.length) (hb : 0 < b.2) (k : Nat) : doneB (B.set i b) k = if k = i then true else doneB B k := by
  unfold doneB
  rw [List.getD_eq_getElem?_getD, List.getElem?_set]
  by_cases h : k = i
  · subst h; simp [hi, hb]
  · rw [if_neg (fun e => h e.symm), if_neg h, List.getD_eq_getElem?_getD]
theorem dn_set {B : List (Int × Int)} {n i : Nat} {b : Int × Int} (hi : i < B.length) (hb : 0 < b.2) : (dn B n).set i true = dn (B.set i b) n := by
  apply List.ext_getElem?
  intro k
  rw [List.getElem?_set]
  by_cases hk : k < n
  · rw [dn_get (B := B.set i b) hk, doneB_set hi hb]
    by_cases h : i = k
    · subst h; simp [dn_len, hk]
    · rw [if_neg h, dn_get hk, if_neg (fun e => h e.symm)]
  · have e1 : (dn B n)[k]? = none := List.getElem?_eq_none (by rw [dn_len]; omega)
    have e2 : (dn (B.set i b) n)[k]? = none := List.getElem?_eq_none (by rw [dn_len]; omega)
    rw [e1, e2]
    by_cases h : i = k
    · subst h; simp [dn_len, hk]
    · rw [if_neg h]
theorem doneB_rep (n k : Nat) : doneB (List.replicate n (0, 0)) k = false := by
  unfold doneB
  rw [List.getD_eq_getElem?_getD, List.getElem?_replicate]
  split <;> simp
theorem dn_rep (n : Nat) : dn (List.replicate n (0, 0)) n = List.replicate n false := by
  apply List.ext_getElem?
  intro k
  by_cases hk : k < n
  · rw [dn_get hk, doneB_rep, List.getElem?_replicate, if_pos hk]
  · rw [List.getElem?_eq_none (by rw [dn_len]; omega), List.getElem?_eq_none (by simp; omega)]
theorem bvs_set (D : List Bool) (i : Nat) (b : Bool) : (bvs D).set i (.bool b) = bvs (D.set i b) := by unfold bvs; rw [List.map_set]
theorem bvs_get {D : List Bool} {k : Nat} {b : Bool} (h : D[k]? = some b) : (bvs D)[k]? = some (.bool b) := by unfold bvs; rw [List.getElem?_map, h]; rfl
/-- Who has a block has stood in the order. -/
theorem gTo_done {L : List RqT} {order : List Int} {k : Nat} {B : List (Int × Int)} (h : gTo L order k = some B) (hk : k ≤ order.length) (ho : ∀ i ∈ order, 0 ≤ i) : ∀ i, doneB B i = true → (i : Int) ∈ order.take k := by
  induction k generalizing B with
  | zero =>
    intro i hi
    have e : B = List.replicate L.length (0, 0) := by unfold gTo at h; simpa using h.symm
    rw [e, doneB_rep] at hi; cases hi
  | succ k ih =>
    intro i hi
    have hx : order[k]? = some order[k] := List.getElem?_eq_getElem (by omega)
    rw [gTo_succ hx] at h
    cases hp : gTo L order k with
    | none => rw [hp] at h; cases h
    | some B' =>
      rw [hp] at h
      simp only [Option.bind_some] at h
      unfold gStep at h
      cases hf : (fits (takenTo L B' order[k].toNat L.length : Int) (cntOf L order[k].toNat)).head? with
      | none => rw [hf] at h; cases h
      | some f =>
        rw [hf] at h
        simp only [Option.map_some, Option.some.injEq] at h
        subst h
        rw [List.take_add_one, hx]
        by_cases he : i = order[k].toNat
        · have := ho _ (List.getElem_mem (by omega : k < order.length))
          refine List.mem_append.2 (Or.inr ?_)
          simp; omega
        · refine List.mem_append.2 (Or.inl (ih hp (by omega) i ?_))
          unfold doneB at hi ⊢
          rw [List.getD_eq_getElem?_getD, List.getElem?_set_ne (fun e => he e.symm)] at hi
          rw [List.getD_eq_getElem?_getD]; exact hi
theorem nodup_take {order : List Int} {k : Nat} {x : Int} (h : order.Nodup) (hx : order[k]? = some x) : x ∉ order.take k := by
  intro hm
  obtain ⟨j, hj⟩ := List.mem_iff_getElem?.1 hm
  rw [List.getElem?_take] at hj
  split at hj
  · next hlt =>
    have hk : k < order.length := by
      rcases Nat.lt_or_ge k order.length with h' | h'
      · exact h'
      · rw [List.getElem?_eq_none h'] at hx; cases hx
    have := (List.getElem?_inj (i := j) (j := k) (by omega) h).1 (hj.trans hx.symm)
    omega
  · cases hj
theorem freeAt_of_free {L : List RqT} {B : List (Int × Int)} (hB : BGood B) (i : Nat) {f c : Int} (hg : goodB f c = true) {b : Bool} (h : freeB L B i (f, c) (doneB B) = b) : freeAt (takenTo L B i L.length : Int) c f = b := by
  rw [← free_taken hB i hg]; exact h
theorem row0 (w : World) (a b c : Obj) {t : TypeId} {xs : List Value} (h : a = .cells xs.toArray t) : RowAt (((w.alloc a).alloc b).alloc c).drew w.heap.size t xs := by
  subst h; exact (((RowAt.new w t xs).alloc _).alloc _).keep (fdrew (frefl _))
theorem row1 (w : World) (a b c : Obj) {t : TypeId} {xs : List Value} (h : b = .cells xs.toArray t) : RowAt (((w.alloc a).alloc b).alloc c).drew (w.heap.size + 1) t xs := by
  subst h
  have := RowAt.new (w.alloc a) t xs
  rw [show (w.alloc a).heap.size = w.heap.size + 1 by simp] at this
  exact (this.alloc _).keep (fdrew (frefl _))
theorem row2 (w : World) (a b c : Obj) {t : TypeId} {xs : List Value} (h : c = .cells xs.toArray t) : RowAt (((w.alloc a).alloc b).alloc c).drew (w.heap.size + 1 + 1) t xs := by
  subst h
  have := RowAt.new ((w.alloc a).alloc b) t xs
  rw [show ((w.alloc a).alloc b).heap.size = w.heap.size + 1 + 1 by simp] at this
  exact this.keep (fdrew (frefl _))
theorem done_good {B : List (Int × Int)} (h : BGood B) {k : Nat} (hd : doneB B k = true) : ∃ b, B[k]? = some b ∧ goodB b.1 b.2 = true := by
  unfold doneB at hd
  simp only [decide_eq_true_eq] at hd
  rw [List.getD_eq_getElem?_getD] at hd
  cases hb : B[k]? with
  | none => rw [hb] at hd; simp at hd
  | some b => rw [hb] at hd; exact ⟨b, rfl, h b (List.mem_of_getElem? hb) hd⟩
def OutGr (w : World) (r : Option (List (Int × Int))) (e : Ending) (w' : World) : Prop := ∃ p c, e = .returned (.tuple #[.slice p (r.getD []).length c, .bool r.isSome]) ∧ Own w' w.heap.size 71 p (pcs (r.getD [])) ∧ Fresh w w'
/-- A round's two ends: no block yet, or the one just found. -/
def grSt (L : List RqT) (B B' : List (Int × Int)) (i f : Nat) : Prop :=
  (B' = B ∧ f ≤ 24 ∧ ∀ g : Nat, g < f → freeAt (takenTo L B i L.length : Int) (cntOf L i) g = false) ∨ (gStep L B i = some B' ∧ doneB B' i = true ∧ f ≤ 25)
theorem gr_none {L : List RqT} {B : List (Int × Int)} {i f : Nat} {c : Int} (hc : cntOf L i = c) (h1 : 1 ≤ c) (hb : goodB f c = false) (h : ∀ g : Nat, g < f → freeAt (takenTo L B i L.length : Int) (cntOf L i) g = false) : gStep L B i = none := by
  unfold gStep
  rw [fits_none]
  · rfl
  · intro g hg
    rcases Nat.lt_or_ge g f with h' | h'
    · exact h g h'
    · exfalso
      have : goodB f c = true := goodB_iff.2 ⟨by omega, h1, by omega⟩
      rw [hb] at this; cases this
theorem gr_some {L : List RqT} {B : List (Int × Int)} {i f : Nat} {c : Int} (hc : cntOf L i = c) (hb : goodB f c = true) (h : ∀ g : Nat, g < f → freeAt (takenTo L B i L.length : Int) (cntOf L i) g = false) (hf : freeAt (takenTo L B i L.length : Int) c f = true) : gStep L B i = some (B.set i ((f : Int), c)) := by
  have := goodB_iff.1 hb
  unfold gStep
  rw [fits_head h (by rw [hc]; exact hf) (by omega), hc]
  rfl

theorem infoBool : (Tryz.prog.info? 4).map (fun i => (i.zero, i.size, i.bytes)) = some (some (.bool false), [Value.bool false].length, 1) := by kernel_rfl
theorem zs_bool (n : Nat) : zs [Value.bool false] n = bvs (List.replicate n false) := by
  induction n with
  | zero => rfl
  | succ n ih => rw [zs_succ, ih, List.replicate_succ]; rfl
set_option maxHeartbeats 4000000 in
set_option maxRecDepth 100000 in
theorem greedy_any (p q : Option Addr) (cap cq : Nat) (l : List LQ) (order : List Int) (w : World) (hl : Reqs w p l) (hs : ReqsSmall l) (hc : CntOne (l.map LQ.val)) (h7 : l.length ≤ 7) (hI : Ints w q order) (hn : order.length ≤ 1048576)
    (ho : ∀ i ∈ order, 0 ≤ i ∧ i < (l.length : Int)) (hnd : order.Nodup) :
    Calls Tryz.prog 83 #[.slice p l.length cap, .slice q order.length cq] w (OutGr w (gTo (l.map LQ.val) order order.length)) := by
  have hmk := mkPrs Tryz.underlying29 infoBlk l.length (by omega)
  have hmb := mkRow (z := [Value.bool false]) Tryz.underlying157 infoBool rfl (by decide) l.length (by omega) (by omega)
  have HL := Lib.hid hl
  have HSM := Lib.hid hs
  have HC := Lib.hid hc
  have HI := Lib.hid hI
  have HO := Lib.hid ho
  have HND := Lib.hid hnd
  have hlen : (l.map LQ.val).length = l.length := by simp
  have HLEN := Lib.hid hlen
  clear hl hs hc hI ho hnd hlen
  go_enter Tryz.func83, Tryz.ntmps83
  go_upto_region 1 with fail
  go_cut [6, 7] (fun s6 s7 wx => ∃ gB gD hb : Nat, s6 = .slice (some ⟨gB, 0, none⟩) l.length l.length ∧ s7 = .pointer (some ⟨hb, 0, none⟩) ∧ (gB ≠ gD ∧ gB ≠ hb ∧ gD ≠ hb) ∧ (w.heap.size ≤ gB ∧ w.heap.size ≤ gD ∧ w.heap.size ≤ hb) ∧
    RowAt wx gB 71 (List.replicate (l.length * 2) (iv 0)) ∧ RowAt wx gD 4 (zs [Value.bool false] l.length) ∧ RowAt wx hb 157 [.slice (some ⟨gD, 0, none⟩) l.length l.length] ∧ Fresh w wx)
  case first =>
    go_region
    all_goals (go_wp2_with fail)
    all_goals go_meet
    all_goals first
      | exact ⟨_, w.heap.size, _, rfl, rfl, ⟨by omega, by omega, by omega⟩, ⟨by omega, by omega, by omega⟩, (by first | exact row0 _ _ _ _ rfl | exact row1 _ _ _ _ rfl | exact row2 _ _ _ _ rfl), (by first | exact row0 _ _ _ _ rfl | exact row1 _ _ _ _ rfl | exact row2 _ _ _ _ rfl), (by first | exact row0 _ _ _ _ rfl | exact row1 _ _ _ _ rfl | exact row2 _ _ _ _ rfl), fdrew (fnew (fnew (fnew (frefl _) _) _) _)⟩
      | exact ⟨_, w.heap.size + 1, _, rfl, rfl, ⟨by omega, by omega, by omega⟩, ⟨by omega, by omega, by omega⟩, (by first | exact row0 _ _ _ _ rfl | exact row1 _ _ _ _ rfl | exact row2 _ _ _ _ rfl), (by first | exact row0 _ _ _ _ rfl | exact row1 _ _ _ _ rfl | exact row2 _ _ _ _ rfl), (by first | exact row0 _ _ _ _ rfl | exact row1 _ _ _ _ rfl | exact row2 _ _ _ _ rfl), fdrew (fnew (fnew (fnew (frefl _) _) _) _)⟩
      | exact ⟨_, w.heap.size + 1 + 1, _, rfl, rfl, ⟨by omega, by omega, by omega⟩, ⟨by omega, by omega, by omega⟩, (by first | exact row0 _ _ _ _ rfl | exact row1 _ _ _ _ rfl | exact row2 _ _ _ _ rfl), (by first | exact row0 _ _ _ _ rfl | exact row1 _ _ _ _ rfl | exact row2 _ _ _ _ rfl), (by first | exact row0 _ _ _ _ rfl | exact row1 _ _ _ _ rfl | exact row2 _ _ _ _ rfl), fdrew (fnew (fnew (fnew (frefl _) _) _) _)⟩
  case rest =>
    obtain ⟨gB, gD, hb, rfl, rfl, ⟨n1, n2, n3⟩, ⟨m1, m2, m3⟩, rB, rD, rH, hf⟩ := hcut
    have HrB : Hid (RowAt wc gB 71 (pcs (List.replicate l.length (0, 0)))) := by show RowAt _ _ _ _; rw [pcs_rep]; exact rB
    have HrD : Hid (RowAt wc gD 4 (bvs (dn (List.replicate l.length (0, 0)) l.length))) := by show RowAt _ _ _ _; rw [dn_rep, ← zs_bool]; exact rD
    have HrH := Lib.hid rH
    have HF := Lib.hid hf
    clear rB rD rH hf hmk hmb
    go_wp2
    go_loopw [20] (fun j wr => ∃ (k : Nat) (B : List (Int × Int)), k ≤ order.length ∧ j = .int .i64 k ∧ gTo (l.map LQ.val) order k = some B ∧ B.length = l.length ∧ BGood B ∧ RowAt wr gB 71 (pcs B) ∧ RowAt wr gD 4 (bvs (dn B l.length)) ∧ RowAt wr hb 157 [.slice (some ⟨gD, 0, none⟩) l.length l.length] ∧ Fresh w wr) (fun j _ => order.length - (intOf j).toNat)
    case atStart => exact ⟨0, List.replicate l.length (0, 0), Nat.zero_le _, rfl, by unfold gTo; rw [HLEN.out]; rfl, by simp, bgood_rep _, HrB.out, HrD.out, HrH.out, HF.out⟩
    case round =>
      obtain ⟨k, B, hk, rfl, hg, hbl, hbg, rB, rD, rH, hf⟩ := hrel
      have HG := Lib.hid hg
      have HBL := Lib.hid hbl
      have HBG := Lib.hid hbg
      have HRB := Lib.hid rB
      have HRD := Lib.hid rD
      have HRH := Lib.hid rH
      have HF := Lib.hid hf
      clear hg hbl hbg rB rD rH hf
      obtain ⟨wo, rfl⟩ : ∃ wo, wo = wr := ⟨_, rfl⟩
      by_cases hlt : k < order.length
      · have hltz : (k : Int) < (order.length : Int) := by omega
        obtain ⟨b, off, i0, rfl, hx, hc0⟩ := (HI.out.keep HF.out).at hlt
        obtain ⟨hi0, hi1⟩ := HO.out i0 (List.mem_of_getElem? hx)
        have hnm := nodup_take HND.out hx
        obtain ⟨i, rfl⟩ : ∃ i : Nat, i0 = (i : Int) := ⟨i0.toNat, by omega⟩
        have hil : i < l.length := by omega
        have HST := Lib.hid (gTo_succ (L := l.map LQ.val) hx)
        have HGS : Hid (gTo (l.map LQ.val) order (k + 1) = gStep (l.map LQ.val) B i) := by
          show _ = _
          rw [HST.out, HG.out]; rfl
        have HDN : Hid (doneB B i = false) := by
          show _ = _
          cases hd : doneB B i
          · rfl
          · exact absurd (gTo_done HG.out hk (fun j hj => (HO.out j hj).1) i hd) hnm
        have hiz : (i : Int) < (l.length : Int) := by omega
        clear hx hi0 hi1 hnm HST
        go_wp2
        go_loopw [10] (fun fv wi => ∃ (f : Nat) (B' : List (Int × Int)), fv = .int .i64 f ∧ grSt (l.map LQ.val) B B' i f ∧ B'.length = l.length ∧ BGood B' ∧ RowAt wi gB 71 (pcs B') ∧ RowAt wi gD 4 (bvs (dn B' l.length)) ∧ RowAt wi hb 157 [.slice (some ⟨gD, 0, none⟩) l.length l.length] ∧ Fresh w wi) (fun fv _ => 50 - (intOf fv).toNat)
        case atStart => exact ⟨0, B, rfl, Or.inl ⟨rfl, by omega, fun g hg => by omega⟩, HBL.out, HBG.out, HRB.out, HRD.out, HRH.out, HF.out⟩
        case round =>
          obtain ⟨f, B', rfl, hst, hbl, hbg, rB, rD, rH, hf⟩ := hrel
          have HBL' := Lib.hid hbl
          have HBG' := Lib.hid hbg
          have HRB' := Lib.hid rB
          have HRD' := Lib.hid rD
          have HRH' := Lib.hid rH
          have HF' := Lib.hid hf
          have t0 := rH.cell (i := 0) rfl
          clear hbl hbg rB rD rH hf
          have hdc : wr.cell? ⟨gD, i, none⟩ = some (.bool (doneB B' i)) := HRD'.out.cell (bvs_get (dn_get hil))
          rcases hst with ⟨rfl, hf24, hno⟩ | ⟨hgs, hdone, hf25⟩
          · have HNO := Lib.hid hno
            clear hno
            rw [HDN.out] at hdc
            obtain ⟨b1, o1, x, hp1, hy, hym, hyi, c10, c11, c12⟩ := (HL.out.keep HF'.out).at hil
            subst hp1
            have hcnt := HC.out x.val (List.mem_map_of_mem hym)
            simp only [LQ.val] at hcnt
            have HCE := Lib.hid (cntOf_of (rq_at hy))
            have hfr0 := HRD'.out.frozen i
            have L12 := fkeep (fnew (frefl wr) (.cells #[.int .i64 f, .int .i64 x.count] 71)) c12
            clear hy hym hyi c10 c11
            go_wp2_with fail
            refine (implIsValidBlock_any f x.count _).mono ?_
            rintro e w1 ⟨rfl, hb1⟩
            have s0 := box hb1 0 (v := .int .i64 f) rfl
            have s1 := box hb1 1 (v := .int .i64 x.count) rfl
            have HFW := Lib.hid (fstep (fnew (frefl wr) _) hb1)
            clear hb1 L12 c12 hdc hfr0 t0
            cases hgb : goodB f x.count
            · have HE : Hid (gTo (l.map LQ.val) order order.length = none) := gTo_none (k := k + 1) (by rw [HGS.out]; exact gr_none HCE.out hcnt.1 hgb HNO.out) _ (by omega)
              have HFZ := Lib.hid (fstep HF'.out HFW.out)
              clear hgb
              go_wp2
              go_ret2
              rw [HE.out]
              exact ⟨none, 0, rfl, Or.inl ⟨rfl, rfl⟩, HFZ.out⟩
            · have HGB := Lib.hid hgb
              have hg24 := goodB_iff.1 hgb
              have t1 := (HRH'.out.keep HFW.out).cell (i := 0) rfl
              have HFZ := Lib.hid (fstep HF'.out HFW.out)
              have hmf : ∀ (fn : Fn) (first cap : Array Value) (w : World), (Instr.makeFunc fn first cap).run Tryz.prog w = .ok (.func fn first cap) w := fun _ _ _ _ => rfl
              have hfree := isFree_any 126 #[.pointer (some ⟨hb, 0, none⟩)] (some ⟨b1, o1, none⟩) (some ⟨gB, 0, none⟩) cap l.length l B' i f x.count (doneB B') w1 (HL.out.keep HFZ.out) HSM.out (HRB'.out.keep HFW.out).cells hil (by rw [HBL'.out]; omega) hgb
                (fun k _ _ hd => done_good HBG'.out hd) (fun args w => by rfl)
                (fun k hk w' hf' => by
                  have := grClo_any k hb gD l.length (dn B' l.length) w' (((HRH'.out.keep HFW.out).keep hf').cell (i := 0) rfl) ((HRD'.out.keep HFW.out).keep hf') (dn_len _ _) hk
                  rw [dn_getD hk] at this
                  exact this)
              rw [HBL'.out] at hfree
              have HFREE := Lib.hid hfree
              clear hgb hfree
              go_wp2_with fail
              refine (HFREE.out).mono ?_
              rintro e w2 ⟨rfl, hb2⟩
              have HFX := Lib.hid (fstep HFW.out hb2)
              replace s0 := fkeep hb2 s0
              replace s1 := fkeep hb2 s1
              clear hb2 HFREE t1
              cases hfr : freeB (l.map LQ.val) B' i ((f : Int), x.count) (doneB B')
              · have HFA : Hid (freeAt (takenTo (l.map LQ.val) B' i (l.map LQ.val).length : Int) x.count f = false) := freeAt_of_free HBG'.out i HGB.out hfr
                clear hfr
                go_wp2
                go_roundw
                case rel =>
                  refine ⟨f + 1, B', by go_num, Or.inl ⟨rfl, by omega, fun g hg => ?_⟩, HBL'.out, HBG'.out, HRB'.out.keep HFX.out, HRD'.out.keep HFX.out, HRH'.out.keep HFX.out, fstep HF'.out HFX.out⟩
                  rcases Nat.lt_or_ge g f with h' | h'
                  · exact HNO.out g h'
                  · have : g = f := by omega
                    subst this; rw [HCE.out]; exact HFA.out
                case measure => simp [intOf]; omega
              · have HFA : Hid (freeAt (takenTo (l.map LQ.val) B' i (l.map LQ.val).length : Int) x.count f = true) := freeAt_of_free HBG'.out i HGB.out hfr
                have HSM2 := Lib.hid (gr_some HCE.out HGB.out HNO.out HFA.out)
                obtain ⟨bi, hBi⟩ : ∃ b, B'[i]? = some b := ⟨_, List.getElem?_eq_getElem (by rw [HBL'.out]; exact hil)⟩
                obtain ⟨e0, e1⟩ := pcs_get hBi
                have HB2 := Lib.hid (HRB'.out.keep HFX.out)
                have HD2 := Lib.hid (HRD'.out.keep HFX.out)
                have HH2 := Lib.hid (HRH'.out.keep HFX.out)
                have r0 := HB2.out.cell e0
                have r1 := HB2.out.cell e1
                have z0 := HB2.out.frozen (i * 2)
                have z1 := HB2.out.frozen (i * 2 + 1)
                have r2 := HD2.out.cell (bvs_get (dn_get (B := B') hil))
                have z2 := HD2.out.frozen i
                have r3 := HH2.out.cell (i := 0) rfl
                have hDS : Hid ((bvs (dn B' l.length)).set i (.bool true) = bvs (dn (B'.set i ((f : Int), x.count)) l.length)) := by show _ = _; rw [bvs_set, dn_set (b := ((f : Int), x.count)) (by rw [HBL'.out]; exact hil) (by show 0 < x.count; omega)]
                have HDT : Hid (doneB (B'.set i ((f : Int), x.count)) i = true) := by show _ = _; rw [doneB_set (b := ((f : Int), x.count)) (by rw [HBL'.out]; exact hil) (by show 0 < x.count; omega), if_pos rfl]
                clear hfr hBi e0 e1
                go_wp2
                go_region
                all_goals go_wp2
                go_roundw
                case rel =>
                  refine ⟨f + 1, B'.set i ((f : Int), x.count), by go_num, Or.inr ⟨HSM2.out, HDT.out, by omega⟩, by rw [List.length_set]; exact HBL'.out, bgood_set HBG'.out i HGB.out, ?_, ?_, ?_, ?_⟩
                  · rw [← pcs_set]; exact (((HB2.out.set (i * 2) _).set (i * 2 + 1) _).setOther n1 _).keep (fdrew (frefl _))
                  · rw [← hDS.out]; exact (((HD2.out.setOther n1.symm _).setOther n1.symm _).set i _).keep (fdrew (frefl _))
                  · exact (((HH2.out.setOther n2.symm _).setOther n2.symm _).setOther n3.symm _).keep (fdrew (frefl _))
                  · exact fdrew (fset (fset (fset (fstep HF'.out HFX.out) m1 _) m1 _) m2 _)
                case measure => simp [intOf]; omega
          · have HGG := Lib.hid hgs
            rw [hdone] at hdc
            clear hgs hdone
            go_wp2
            go_roundw
            case rel => exact ⟨k + 1, B', by omega, by go_num, by rw [HGS.out]; exact HGG.out, HBL'.out, HBG'.out, HRB'.out, HRD'.out, HRH'.out, HF'.out⟩
            case measure => simp [intOf]; omega
      · have hkn : k = order.length := by omega
        have hltz : ¬ (k : Int) < (order.length : Int) := by omega
        subst hkn
        go_wp2
        go_ret2
        rw [HG.out]
        exact ⟨some ⟨gB, 0, none⟩, l.length, by simp only [Option.getD_some, HBL.out]; rfl, Or.inr ⟨gB, [], rfl, m1, by rw [List.append_nil]; exact HRB.out⟩, HF.out⟩
end Go.Proofs.YtmpdljcihiidaaaGreat
