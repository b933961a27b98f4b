/- Contracts: a route laid at its place, the reference's side. (Printed by gen_sp.py.) -/
import Derived.Test.YtlapicgeokjpjaaY6
namespace Go.Proofs.Ytlapicgeokjpjaa
open Go.RowKit Go.PlainAid

/-- Many elements appended to a row of the call's own, as a step of a region that draws its order. -/
theorem step_app_mm {T E : TypeId} {z : Value} {size bytes : Nat} {ops : Array Oper} {o : Oper} {a : Act} {w : World} {K : Act → World → Prop} {Q : Exit → Act → World → Prop} {F : Prop} (dd : Option Nat) (_hd : o.dst = dd) (hu : Try.prog.underlying T = some (.slice E)) (hinfo : (Try.prog.info? E).map (fun i => (i.zero, i.size, i.bytes)) = some (some z, size, bytes))
    (hzs : z.cells.size = size) (hsz : 0 < size) (hby : bytes ≤ 128) (w0 : World) (v : Value) (n : Nat) (xs : List Value) (p : Option Addr) (m c : Nat) (news : List Value)
    (hgd : o.guard = none) (s t : Operand) (ho : o.op = .call { callee := .builtin .append, args := #[s, t], argTypes := #[T, T] }) (hs : a.eval s = v) (hown : w.ownsRow w0.heap.size E size v n xs)
    (hx : a.eval t = .slice p m c) (hc : Cells w p news) (hl : news.length = m * size) (hone : ∀ u ∈ news, u.oneCell' = true) (hn : n ≤ 1048576) (hm : m ≤ 1048576) (hf : Fresh w0 w)
    (h : ∀ q' c' w', w'.ownsRow w0.heap.size E size (.slice q' (n + m) c') (n + m) (xs ++ news) → Fresh w0 w' → (∀ g t cs, RowAt w g t cs → (t ≠ E ∨ v.ownBlock ≠ some g) → RowAt w' g t cs) → K (a.put o.dst (.slice q' (n + m) c')) w') :
    if Region.wanted o (yielded ops a.tmps) = true then Oper.wp Try.prog o a w K Q else F := by
  have hw : Region.wanted o (yielded ops a.tmps) = true := by simp [Region.wanted, hgd]
  rw [if_pos hw]
  obtain ⟨i0, hi, hz0, hz1, hz2⟩ := info_parts hinfo
  rcases Nat.eq_zero_or_pos m with rfl | hm0
  · have hnil : news = [] := List.eq_nil_of_length_eq_zero (by simpa using hl)
    subst hnil
    have hrun := run_append_zero (P := Try.prog) (w := w) w0.heap.size T o.type E i0 size hu hi v n xs hown p c
    obtain ⟨q', c', hv, _, _⟩ := owns_cap hown
    unfold Oper.wp
    simp [execOp, ho, resolve, invoke, builtin, hs, hx, hrun, Result.andThen]
    rw [List.append_nil] at h
    rw [hv] at hown ⊢
    exact h q' c' w hown hf fun _ _ _ h _ => h
  · rcases hc with rfl | ⟨b, off, rfl, hc⟩
    · exfalso
      have : m * size = 0 := by simpa using hl.symm
      rcases Nat.mul_eq_zero.1 this with h' | h' <;> omega
    · refine wp_append_own w s t T ho w0.heap.size E i0 z size bytes hu hi hz0 hz1 hz2 hzs hsz v n xs hs hown ⟨b, off, none⟩ m c news hx hl
        (fun j u hj => by
          have h0 := hc j u hj
          unfold Addr.add
          split
          · next e => subst e; exact h0
          · exact h0) hone (by unfold maxLen; omega) (Nat.le_trans (Nat.mul_le_mul (by omega : n + m ≤ 2097152) hby) (by omega)) hf.size ?_
      intro v' w' hown' hgrow _
      obtain ⟨q', c', rfl, _, _⟩ := owns_cap hown'
      refine h q' c' w' hown' (fgrown hf hgrow (own_block hown)) fun g t cs hr' ht => ?_
      rcases ht with ht | ht
      · exact row_grown0 hown hgrow hr' ht
      · unfold RowAt
        rw [hgrow.block g hr'.lt (fun he => ht he.symm)]
        exact hr'
theorem ones_rt (k : List LR) : ∀ u ∈ k.flatMap lrC, u.oneCell' = true := by
  intro u hu
  obtain ⟨x, _, hx⟩ := List.mem_flatMap.1 hu
  exact one_rt x u hx
theorem owns_mono {w : World} {base base' size n : Nat} {E : TypeId} {v : Value} {xs : List Value} (h : w.ownsRow base E size v n xs) (hb : base' ≤ base) : w.ownsRow base' E size v n xs := by
  obtain ⟨h1, h2 | ⟨g, cap, cur, hv, hg, r⟩⟩ := h
  · exact ⟨h1, Or.inl h2⟩
  · exact ⟨h1, Or.inr ⟨g, cap, cur, hv, Nat.le_trans hb hg, r⟩⟩
theorem insR_get {α : Type} {l : List α} {k t : Nat} {x y : α} (hk : k ≤ l.length) (h : (l.take k ++ x :: l.drop k)[t]? = some y) : (t = k ∧ y = x) ∨ (t ≠ k ∧ l[if t < k then t else t - 1]? = some y) := by
  have hl : (l.take k).length = k := by simp; omega
  rcases Nat.lt_or_ge t k with h1 | h1
  · right
    rw [List.getElem?_append_left (by omega), List.getElem?_take, if_pos h1] at h
    rw [if_pos h1]
    exact ⟨by omega, h⟩
  · rw [List.getElem?_append_right (by omega), hl] at h
    rcases Nat.eq_or_lt_of_le h1 with h2 | h2
    · left
      subst h2
      simp at h
      exact ⟨rfl, h.symm⟩
    · right
      rw [show t - k = (t - 1 - k) + 1 by omega, List.getElem?_cons_succ, List.getElem?_drop, show k + (t - 1 - k) = t - 1 by omega] at h
      rw [if_neg (by omega)]
      exact ⟨by omega, h⟩
theorem mem_insR {α : Type} {l : List α} {k : Nat} {x y : α} (h : y ∈ l.take k ++ x :: l.drop k) : y = x ∨ y ∈ l := by
  rcases List.mem_append.1 h with h | h
  · exact Or.inr (List.mem_of_mem_take h)
  · rcases List.mem_cons.1 h with h | h
    · exact Or.inl h
    · exact Or.inr (List.mem_of_mem_drop h)
theorem DistR.ins {l : List LR} (h : DistR l) {k : Nat} {x : LR} (hk : k ≤ l.length) (hx : ∀ y ∈ l, ∀ g o h' o', x.q = some ⟨g, o, none⟩ → y.q = some ⟨h', o', none⟩ → g ≠ h') : DistR (l.take k ++ x :: l.drop k) := by
  intro i j a b hij ha hb g o h' o' e1 e2
  rcases insR_get hk ha with ⟨rfl, rfl⟩ | ⟨n1, h1⟩
  · rcases insR_get hk hb with ⟨rfl, rfl⟩ | ⟨n2, h2⟩
    · omega
    · exact hx b (List.mem_of_getElem? h2) g o h' o' e1 e2
  · rcases insR_get hk hb with ⟨rfl, rfl⟩ | ⟨n2, h2⟩
    · exact (hx a (List.mem_of_getElem? h1) h' o' g o e2 e1).symm
    · exact h _ _ a b (by split <;> split <;> omega) h1 h2 g o h' o' e1 e2
/-- The part of a row ahead of a place, and the one behind it. -/
theorem partR_a {W : World} {base : Nat} {r : Option Addr} {l : List LR} (k : Nat) (h : Own W base 30 r (l.flatMap lrC)) : Cells W r ((l.take k).flatMap lrC) := by
  rcases h with ⟨rfl, h0⟩ | ⟨g, sp, rfl, _, hW⟩
  · left
    have h1 := congrArg List.length h0
    rw [flat_len lrC 2 (fun _ => rfl)] at h1
    have h2 : l = [] := List.eq_nil_of_length_eq_zero (by simp at h1; omega)
    rw [h2]; simp
  · refine Or.inr ⟨g, 0, rfl, fun j u hj => ?_⟩
    have hlt : j < ((l.take k).flatMap lrC).length := (List.getElem?_eq_some_iff.1 hj).1
    have e : l.flatMap lrC = (l.take k).flatMap lrC ++ (l.drop k).flatMap lrC := by rw [← List.flatMap_append, List.take_append_drop]
    rw [Nat.zero_add]
    refine hW.cell ?_
    have : ((l.take k).flatMap lrC).length ≤ (l.flatMap lrC).length := by rw [e, List.length_append]; omega
    rw [List.getElem?_append_left (by omega), e, List.getElem?_append_left hlt]; exact hj
theorem partR_b {W : World} {base g : Nat} {l : List LR} {cap k : Nat} (hk : k ≤ l.length) (hc : l.length ≤ cap) (h : Own W base 30 (some ⟨g, 0, none⟩) (l.flatMap lrC)) : Cells W (if cap = k then (some (⟨g, 0, none⟩ : Addr)) else some ⟨g, k * 2, none⟩) ((l.drop k).flatMap lrC) := by
  have hd5 : ((l.drop k).flatMap lrC).length = (l.length - k) * 2 := by rw [flat_len lrC 2 (fun _ => rfl)]; simp
  by_cases hck : cap = k
  · left
    exact List.eq_nil_of_length_eq_zero (by rw [hd5]; omega)
  · rw [if_neg hck]
    rcases h with ⟨h0, _⟩ | ⟨g', sp, h1, _, hW⟩
    · cases h0
    · cases h1
      refine Or.inr ⟨g, k * 2, rfl, fun j u hj => ?_⟩
      have hlt : j < ((l.drop k).flatMap lrC).length := (List.getElem?_eq_some_iff.1 hj).1
      have e : l.flatMap lrC = (l.take k).flatMap lrC ++ (l.drop k).flatMap lrC := by rw [← List.flatMap_append, List.take_append_drop]
      have hl5 : (l.flatMap lrC).length = l.length * 2 := flat_len lrC 2 (fun _ => rfl) l
      have ht6 : ((l.take k).flatMap lrC).length = k * 2 := by rw [flat_len lrC 2 (fun _ => rfl)]; simp; omega
      refine hW.cell ?_
      rw [List.getElem?_append_left (by omega), e, List.getElem?_append_right (by omega), ht6, show k * 2 + j - k * 2 = j by omega]; exact hj
/-- What the search holds: routes found so far. -/
structure SeSt (w0 w : World) (bx : Nat) (qn pn : Option Addr) (cn cp : Nat) (n : Net) (s t : Int) (B : Nat) (acc : List (Int × List Int)) : Prop where
  fr : Fresh w0 w
  ot : ∃ (p : Option Addr) (c : Nat) (l : List LR), RowAt w bx 82 [.slice qn n.nodes.length cn, .slice pn n.fibers.length cp, .int .i64 t, .slice p l.length c] ∧ Rts w w0.heap.size (.slice p l.length c) l ∧ l.map LR.val = acc ∧ ∀ x ∈ l, ∀ g o, x.q = some ⟨g, o, none⟩ → g < B
  ok : ∀ R ∈ acc, RtOk n R.2 ∧ R.1 = s
theorem SeSt.keep {w0 w w' : World} {bx B : Nat} {qn pn : Option Addr} {cn cp : Nat} {n : Net} {s t : Int} {acc : List (Int × List Int)} (st : SeSt w0 w bx qn pn cn cp n s t B acc) (hb : Fresh w w') : SeSt w0 w' bx qn pn cn cp n s t B acc := by
  obtain ⟨fr, ⟨p, c, l, ro, rs, hv, hB⟩, ok⟩ := st
  exact ⟨fstep fr hb, ⟨p, c, l, ro.keep hb, rs.keep hb, hv, hB⟩, ok⟩
theorem SeSt.low {w0 w : World} {bx B : Nat} {qn pn : Option Addr} {cn cp : Nat} {n : Net} {s t : Int} {acc : List (Int × List Int)} (st : SeSt w0 w bx qn pn cn cp n s t B acc) : SeSt w0 w bx qn pn cn cp n s t w.heap.size acc := by
  obtain ⟨fr, ⟨p, c, l, ro, rs, hv, hB⟩, ok⟩ := st
  exact ⟨fr, ⟨p, c, l, ro, rs, hv, rs.blk⟩, ok⟩
/-- Every row stays but for one. -/
def KpS (bx : Nat) (w w' : World) : Prop := ∀ g t cs, RowAt w g t cs → g ≠ bx → RowAt w' g t cs
theorem KpS.refl (bx : Nat) (w : World) : KpS bx w w := fun _ _ _ h _ => h
theorem KpS.trans {bx : Nat} {a b c : World} (h : KpS bx a b) (k : KpS bx b c) : KpS bx a c := fun g t cs hr n => k g t cs (h g t cs hr n) n
theorem KpS.fresh {bx : Nat} {a b : World} (h : Fresh a b) : KpS bx a b := fun _ _ _ hr _ => hr.keep h
theorem sePut_post {w0 w w3 : World} {bx B c k c3 cap b6 : Nat} {p qn pn q q3 : Option Addr} {cn cp : Nat} {n : Net} {s t : Int} {acc : List (Int × List Int)} {fs : List Int} {l : List LR} (fr : Fresh w0 w) (g0 : w0.heap.size ≤ bx) (ro : RowAt w bx 82 [.slice qn n.nodes.length cn, .slice pn n.fibers.length cp, .int .i64 t, .slice p l.length c])
    (rts : Rts w w0.heap.size (.slice p l.length c) l) (hval : l.map LR.val = acc) (hBl : ∀ x ∈ l, ∀ g o, x.q = some ⟨g, o, none⟩ → g < B) (hok : ∀ R ∈ acc, RtOk n R.2 ∧ R.1 = s) (hq : Own w w0.heap.size 3 q (fs.map iv)) (hc : fs.length ≤ cap ∧ cap ≤ 9223372036854775807) (hB : ∀ g o, q = some ⟨g, o, none⟩ → B ≤ g) (hv : RtOk n fs)
    (hk : k = placeN (ltC (cmpR n.fibers)) acc (s, fs) acc.length) (hkl : k ≤ l.length) (f3 : Fresh w w3) (hb6 : w.heap.size ≤ b6) (own3 : w3.ownsRow b6 30 2 (.slice q3 (k + 1 + (l.length - k)) c3) (k + 1 + (l.length - k)) ((l.take k).flatMap lrC ++ [iv s, .slice q fs.length cap] ++ (l.drop k).flatMap lrC)) :
    SeSt w0 (w3.setCell ⟨bx, 3, none⟩ (.slice q3 (k + 1 + (l.length - k)) c3)) bx qn pn cn cp n s t (w3.setCell ⟨bx, 3, none⟩ (.slice q3 (k + 1 + (l.length - k)) c3)).heap.size (putL (ltC (cmpR n.fibers)) acc (s, fs)) ∧ KpS bx w (w3.setCell ⟨bx, 3, none⟩ (.slice q3 (k + 1 + (l.length - k)) c3)) := by
  have hl' : (l.take k ++ (⟨s, q, cap, fs⟩ : LR) :: l.drop k).length = k + 1 + (l.length - k) := by simp; omega
  have hro3 := ro.keep f3
  have hR3 : Rts w3 w0.heap.size (.slice q3 (k + 1 + (l.length - k)) c3) (l.take k ++ (⟨s, q, cap, fs⟩ : LR) :: l.drop k) := by
    refine ⟨?_, ?_, rts.dist.ins hkl ?_, ?_⟩
    · rw [hl']
      have := owns_mono own3 (Nat.le_trans fr.size hb6)
      rw [List.flatMap_append, List.flatMap_cons, ← List.append_assoc]
      exact this
    · intro x hx
      rcases mem_insR hx with rfl | hx
      · exact hq.keep f3
      · exact (rts.fib x hx).keep f3
    · intro y hy g o h' o' e1 e2
      have h1 := hB g o e1
      have h2 := hBl y hy h' o' e2
      omega
    · intro x hx
      rcases mem_insR hx with rfl | hx
      · exact hc
      · exact rts.cap x hx
  have hset := hR3.setO (u := .slice q3 (k + 1 + (l.length - k)) c3) hro3 (by decide) (by decide) 3
  refine ⟨⟨fset (fstep fr f3) g0 _, ⟨q3, c3, _, ?_, ?_, ?_, hset.blk⟩, ?_⟩, ?_⟩
  · rw [hl']; exact hro3.set 3 _
  · rw [hl']; exact hset
  · unfold putL
    rw [← hk, List.map_append, List.map_cons, List.map_take, List.map_drop, hval]
  · intro R hR
    rcases List.mem_cons.1 ((putL_perm _ _ _).mem_iff.1 hR) with rfl | h
    · exact ⟨hv, rfl⟩
    · exact hok R h
  · intro g t' cs hr hne
    exact (hr.keep f3).setOther hne _
set_option maxHeartbeats 8000000 in
set_option maxRecDepth 100000 in
theorem sePut_any (w0 : World) (bx : Nat) (qn pn : Option Addr) (cn cp : Nat) (n : Net) (s t : Int) (hN : NetIn w0 (.agg #[.slice qn n.nodes.length cn, .slice pn n.fibers.length cp]) n) (hb : LenOk n) (hs : -1048576 ≤ s ∧ s ≤ 1048576) (g0 : w0.heap.size ≤ bx)
    (B : Nat) (acc : List (Int × List Int)) (q : Option Addr) (cap : Nat) (fs : List Int) (w : World) (st : SeSt w0 w bx qn pn cn cp n s t B acc) (hq : Own w w0.heap.size 3 q (fs.map iv)) (hc1 : fs.length ≤ cap) (hc2 : cap ≤ 9223372036854775807) (hv : RtOk n fs) (hB : ∀ g o, q = some ⟨g, o, none⟩ → B ≤ g) (hacc : acc.length ≤ 1000) :
    Calls Try.prog 68 #[.pointer (some ⟨bx, 0, none⟩), .agg #[.int .i64 s, .slice q fs.length cap]] w fun e w' => e = .returned (.tuple #[]) ∧ SeSt w0 w' bx qn pn cn cp n s t w'.heap.size (putL (ltC (cmpR n.fibers)) acc (s, fs)) ∧ KpS bx w w' := by
  have HST := Lib.hid st
  obtain ⟨fr, ⟨p, c, l, ro, rts, hval, hBl⟩, hok⟩ := st
  have hll : l.length = acc.length := by rw [← hval]; simp
  obtain ⟨p', c', hpc, hown, hlc, hcm⟩ := owns_cap rts.row
  cases hpc
  have hl1 : l.length ≤ 1000 := by omega
  have HLL := Lib.hid hll
  clear hll
  obtain ⟨W2, hW2⟩ : ∃ W, W = w.alloc (.cells #[.int .i64 s, .slice q fs.length cap] 30) := ⟨_, rfl⟩
  have hf2 : Fresh w W2 := by rw [hW2]; exact fnew (frefl _) _
  have hr2 : RowAt W2 w.heap.size 30 [iv s, .slice q fs.length cap] := by rw [hW2]; exact RowAt.new _ _ _
  have HF2 := Lib.hid hf2
  have HR2 := Lib.hid hr2
  have HRX2 := Lib.hid (ro.keep hf2)
  have HOW2 := Lib.hid (hown.keep hf2)
  have HQ2 := Lib.hid (hq.keep hf2)
  have HN2 := Lib.hid (hN.keep (fstep fr hf2))
  have HRT := Lib.hid rts
  have HRO := Lib.hid ro
  have HVAL := Lib.hid hval
  have HBL := Lib.hid hBl
  have HOK := Lib.hid hok
  have HB := Lib.hid hB
  have HFR := Lib.hid fr
  have HV := Lib.hid hv
  have HLEN := Lib.hid hb
  have HQ := Lib.hid hq
  have HS := Lib.hid hs
  have HC1 := Lib.hid (And.intro hc1 hc2)
  have hgx : bx < w.heap.size := ro.lt
  have hlt : ∀ i (hi : i < l.length), RtOk n l[i].fibs ∧ l[i].start = s := by
    intro i hi
    have := hok l[i].val (by rw [← hval]; exact List.mem_map_of_mem (List.getElem_mem hi))
    exact this
  have HLT := Lib.hid hlt
  have hrx := ro.cell (i := 3) rfl
  have hsz0 := fr.size
  have HW2 := Lib.hid hW2
  have hrx' := fun o : Obj => fkeep (fnew (frefl w) o) hrx
  clear fr ro rts hval hBl hok hown hq hN hv hb hs hf2 hr2 hW2 hB hlt hc1 hc2
  obtain ⟨kk, hkk⟩ : ∃ k, k = placeN (ltC (cmpR n.fibers)) acc (s, fs) l.length := ⟨_, rfl⟩
  have HKK := Lib.hid hkk
  clear hkk
  go_enter Try.func68, Try.ntmps68
  go_wp2
  rw [← HW2.out]
  clear hrx hrx'
  go_loopw [4] (fun i wr => ∃ j : Nat, j ≤ l.length ∧ i = .int .i64 j ∧ kk = placeN (ltC (cmpR n.fibers)) acc (s, fs) j ∧ Fresh W2 wr) (fun i _ => (intOf i).toNat)
  case atStart => exact ⟨l.length, Nat.le_refl _, rfl, HKK.out, frefl _⟩
  case round =>
    obtain ⟨j, hj, rfl, hpl, hf⟩ := hrel
    have HF := Lib.hid hf
    have HPL := Lib.hid hpl
    clear hpl
    have e0 := fun xa : After wr => akeep ((HRX2.out.keep hf).cell (i := 0) rfl) xa
    have e1 := fun xa : After wr => akeep ((HRX2.out.keep hf).cell (i := 1) rfl) xa
    have e3 := fun xa : After wr => akeep ((HRX2.out.keep hf).cell (i := 3) rfl) xa
    have h0 := fun xa : After wr => akeep ((HR2.out.keep hf).cell (i := 0) rfl) xa
    have h1 := fun xa : After wr => akeep ((HR2.out.keep hf).cell (i := 1) rfl) xa
    by_cases hj0 : 0 < j
    · have hj0z : (0 : Int) < (j : Int) := by omega
      have hjd : decide ((0 : Int) < (j : Int)) = true := decide_eq_true hj0z
      have hj1 : j - 1 < l.length := by omega
      have hw1 : IntKind.i64.wrap ((j : Int) - 1) = (j : Int) - 1 := by rw [IntKind.wrap_i64]; omega
      have ht1 : ((j : Int) - 1).toNat = j - 1 := by omega
      have hge : (1 : Int) ≤ (j : Int) := by omega
      have hlt1 : (j : Int) - 1 < (l.length : Int) := by omega
      obtain ⟨y, hy⟩ : ∃ y, y = l[j - 1] := ⟨_, rfl⟩
      have hyv : acc[j - 1]? = some y.val := by rw [← HVAL.out, hy]; simp [hj1]
      obtain ⟨hyo, hys⟩ := HLT.out (j - 1) hj1
      rw [← hy] at hyo hys
      have hym : y ∈ l := by rw [hy]; exact List.getElem_mem hj1
      have hyI : Ints wr y.q y.fibs := ((HRT.out.fib y hym).keep (fstep HF2.out hf)).ints
      have hyx : l[j - 1]? = some y := by rw [hy]; exact List.getElem?_eq_getElem hj1
      have hcell := (HOW2.out.keep hf).cells
      rcases hcell with hnil | ⟨b, off, hpe, hcl⟩
      · exfalso
        have := congrArg List.length hnil
        rw [flat_len lrC 2 (fun _ => rfl)] at this
        simp at this; omega
      have d0' := hcl ((j - 1) * 2 + 0) _ (flat_get lrC 2 (fun _ => rfl) l (j - 1) 0 (by omega) y hyx)
      have d1' := hcl ((j - 1) * 2 + 1) _ (flat_get lrC 2 (fun _ => rfl) l (j - 1) 1 (by omega) y hyx)
      rw [Nat.add_zero] at d0'
      rw [← Nat.add_assoc] at d1'
      have d0 := fun xa : After wr => akeep d0' xa
      have d1 := fun xa : After wr => akeep d1' xa
      obtain ⟨sy, qy, cy, fy⟩ := y
      simp only at hyo hys hyI
      obtain rfl : s = sy := hys.symm
      have e3q := fun xa : After wr => (show xa.w'.cell? ⟨bx, 3, none⟩ = some (.slice (some ⟨b, off, none⟩) l.length c) by rw [← hpe]; exact e3 xa)
      clear hpe e3
      have HCM : Hid (∀ xa : After wr, Calls Try.prog 82 #[.agg #[.slice qn n.nodes.length cn, .slice pn n.fibers.length cp], .agg #[.int .i64 s, .slice q fs.length cap], .agg #[.int .i64 s, .slice qy fy.length cy]] xa.w' fun e w' => e = .returned (.int .i64 (cmpR n.fibers (s, fs) (s, fy))) ∧ Fresh xa.w' w') := fun xa =>
        l4Compare_any _ n ⟨s, q, cap, fs⟩ ⟨s, qy, cy, fy⟩ xa.w' (HN2.out.keep (fstep HF.out xa.h)) (((HQ2.out.keep HF.out).keep xa.h).ints) (hyI.keep xa.h) HV.out hyo HLEN.out HS.out HS.out
      obtain ⟨cc, hcc⟩ : ∃ x, x = cmpR n.fibers (s, fs) (s, fy) := ⟨_, rfl⟩
      rw [← hcc] at HCM
      have HYV := Lib.hid hyv
      have HCC := Lib.hid hcc
      clear hf hy hyv hyo hym hyx hcl hcc d0' d1'
      by_cases hneg : cc < 0
      · have hd : decide (cc < 0) = true := decide_eq_true hneg
        have HPL2 : Hid (kk = placeN (ltC (cmpR n.fibers)) acc (s, fs) (j - 1)) := by
          have e := placeN_go (lt := ltC (cmpR n.fibers)) (x := (s, fs)) HYV.out (by unfold ltC; rw [← HCC.out]; exact hd)
          rw [show j - 1 + 1 = j by omega] at e
          show _ = _; rw [HPL.out, e]
        go_wp2
        refine wp_region_after (by kernel_rfl) (by kernel_rfl) ?_
        repeat (go_big_quiet_step ((go_at_call 82; exact after_call (HCM.out _))))
        refine wpQuiet_nil ?_
        rintro _ ⟨xa, rfl⟩
        clear e0 e1 e3q h0 h1 d0 d1
        go_wp2
        go_roundw
        case rel => exact ⟨j - 1, by omega, by go_num, HPL2.out, fstep HF.out xa.h⟩
        case measure => simp [intOf]; omega
      · have hd : decide (cc < 0) = false := decide_eq_false hneg
        have HPL2 : Hid (kk = j) := by
          have e := placeN_stop (lt := ltC (cmpR n.fibers)) (x := (s, fs)) HYV.out (by unfold ltC; rw [← HCC.out]; exact hd)
          rw [show j - 1 + 1 = j by omega] at e
          show _ = _; rw [HPL.out, e]
        go_wp2
        refine wp_region_after (by kernel_rfl) (by kernel_rfl) ?_
        repeat (go_big_quiet_step ((go_at_call 82; exact after_call (HCM.out _))))
        refine wpQuiet_nil ?_
        rintro _ ⟨xa, rfl⟩
        clear e0 e1 e3q h0 h1 d0 d1
        go_wp2
        obtain ⟨W6, hW6⟩ : ∃ W, W = xa.w' := ⟨_, rfl⟩
        rw [← hW6]
        have hf6 : Fresh W2 W6 := by rw [hW6]; exact fstep HF.out xa.h
        clear hW6
        obtain ⟨k, rfl⟩ : ∃ k : Nat, k = j := ⟨_, rfl⟩
        have hfw6 : Fresh w W6 := fstep HF2.out hf6
        have HRX := Lib.hid (HRX2.out.keep hf6)
        have HOWN := Lib.hid (HOW2.out.keep hf6)
        have hx3 := (HRX2.out.keep hf6).cell (i := 3) rfl
        have hr0 := (HR2.out.keep hf6).cell (i := 0) rfl
        have hr1 := (HR2.out.keep hf6).cell (i := 1) rfl
        have HTK : Hid (((l.take k).flatMap lrC).length = k * 2) := by show _ = _; rw [flat_len lrC 2 (fun _ => rfl)]; simp; omega
        have HDK : Hid (((l.drop k).flatMap lrC).length = (l.length - k) * 2) := by show _ = _; rw [flat_len lrC 2 (fun _ => rfl)]; simp
        have HPA : Hid (∀ W, Own W w0.heap.size 30 p (l.flatMap lrC) → Cells W p ((l.take k).flatMap lrC)) := fun W hW => partR_a k hW
        have n1 : k ≤ 1048576 := by omega
        have n2 : l.length - k ≤ 1048576 := by omega
        have b1 : k ≤ c := by omega
        have b2 : k ≤ l.length := hj
        have b3 : (k : Int) ≤ (l.length : Int) := by omega
        have b4 : (k : Int) ≤ (c : Int) := by omega
        have HPOST : Hid (∀ (q3 : Option Addr) (c3 : Nat) (w3 : World), w3.ownsRow W6.heap.size 30 2 (.slice q3 (k + 1 + (l.length - k)) c3) (k + 1 + (l.length - k)) ((l.take k).flatMap lrC ++ [iv s, .slice q fs.length cap] ++ (l.drop k).flatMap lrC) → Fresh W6 w3 →
            SeSt w0 (w3.setCell ⟨bx, 3, none⟩ (.slice q3 (k + 1 + (l.length - k)) c3)) bx qn pn cn cp n s t (w3.setCell ⟨bx, 3, none⟩ (.slice q3 (k + 1 + (l.length - k)) c3)).heap.size (putL (ltC (cmpR n.fibers)) acc (s, fs)) ∧ KpS bx w (w3.setCell ⟨bx, 3, none⟩ (.slice q3 (k + 1 + (l.length - k)) c3))) := fun q3 c3 w3 h1 h2 =>
          sePut_post HFR.out g0 HRO.out HRT.out HVAL.out HBL.out HOK.out HQ.out HC1.out HB.out HV.out (by rw [← HPL2.out, ← HLL.out]; exact HKK.out) hj (fstep hfw6 h2) hfw6.size h1
        have hsm : ∃ A : Option Addr, (∀ W, Own W w0.heap.size 30 p (l.flatMap lrC) → Cells W A ((l.drop k).flatMap lrC)) ∧ ((p = none ∧ A = none ∧ l.length = 0 ∧ c = 0) ∨ ∃ g, p = some ⟨g, 0, none⟩ ∧ A = if c = k then (some (⟨g, 0, none⟩ : Addr)) else some ⟨g, k * 2, none⟩) := by
          rcases HRT.out.row.2 with ⟨e1, e2⟩ | ⟨g, c2, cur, e1, _⟩
          · simp only [Value.slice.injEq] at e1
            obtain ⟨rfl, -, rfl⟩ := e1
            refine ⟨none, fun W hW => Or.inl ?_, Or.inl ⟨rfl, rfl, e2, rfl⟩⟩
            have : l = [] := List.eq_nil_of_length_eq_zero e2
            rw [this]; simp
          · cases e1
            exact ⟨_, fun W hW => partR_b b2 hlc hW, Or.inr ⟨g, rfl, rfl⟩⟩
        obtain ⟨A, hPB, hcase⟩ := hsm
        have HPB := Lib.hid hPB
        clear hf6 hfw6 hPB
        rcases hcase with ⟨rfl, rfl, -, -⟩ | ⟨g, rfl, hA⟩
        rotate_left
        focus
          have hA' := hA.symm
          clear hA
        all_goals (
          refine hd_start (n := 19) (S := fun w' => w'.cell? ⟨bx, 3, none⟩ = some (.slice _ l.length c) ∧ w'.cell? ⟨w.heap.size, 0, none⟩ = some (iv s) ∧ w'.cell? ⟨w.heap.size, 1, none⟩ = some (.slice q fs.length cap)) (by kernel_rfl) (by kernel_rfl) ⟨fkeep (fdrew (frefl _)) hx3, fkeep (fdrew (frefl _)) hr0, fkeep (fdrew (frefl _)) hr1⟩ (fun hHeld => ?_)
          obtain ⟨c0, hc0⟩ : ∃ W, W = W6.drew := ⟨_, rfl⟩
          rw [← hc0] at hHeld ⊢
          have fc0 : Fresh W6 c0 := by rw [hc0]; exact fdrew (frefl _)
          clear hc0
          refine hd_tk (i := 0) (v := ?_) rfl ?_ ?_
          rotate_left
          · (intro w hSw; (try dsimp only at hSw); go_simp; first | done | with_reducible rfl)
          try simp only [PU]
          refine hd_tk (i := 2) (v := ?_) rfl ?_ ?_
          rotate_left
          · (intro w hSw; (try dsimp only at hSw); go_simp; first | done | with_reducible rfl)
          try simp only [PU]
          refine hd_tk (i := 3) (v := ?_) rfl ?_ ?_
          rotate_left
          · (intro w hSw; (try dsimp only at hSw); go_simp; first | done | with_reducible rfl)
          try simp only [PU]
          refine hd_tk (i := 4) (v := ?_) rfl ?_ ?_
          rotate_left
          · (intro w hSw; (try dsimp only at hSw); go_simp; first | done | with_reducible rfl)
          try simp only [PU]
          refine hd_tk (i := 5) (v := ?_) rfl ?_ ?_
          rotate_left
          · (intro w hSw; (try dsimp only at hSw); go_simp; first | done | with_reducible rfl)
          try simp only [PU]
          refine hd_tk (i := 6) (v := ?_) rfl ?_ ?_
          rotate_left
          · (intro w hSw; (try dsimp only at hSw); go_simp; first | done | with_reducible rfl)
          try simp only [PU]
          refine hd_tk (i := 7) (v := ?_) rfl ?_ ?_
          rotate_left
          · (intro w hSw; (try dsimp only at hSw); go_simp; first | done | with_reducible rfl)
          try simp only [PU]
          refine hd_tk (i := 9) (v := ?_) rfl ?_ ?_
          rotate_left
          · (intro w hSw; (try dsimp only at hSw); go_simp; first | done | with_reducible rfl)
          try simp only [PU]
          refine hd_tk (i := 12) (v := ?_) rfl ?_ ?_
          rotate_left
          · (intro w hSw; (try dsimp only at hSw); go_simp; first | done | with_reducible rfl)
          try simp only [PU]
          refine hd_tk (i := 13) (v := ?_) rfl ?_ ?_
          rotate_left
          · (intro w hSw; (try dsimp only at hSw); go_simp; first | done | with_reducible rfl)
          try simp only [PU]
          refine hd_tk (i := 14) (v := ?_) rfl ?_ ?_
          rotate_left
          · (intro w hSw; (try dsimp only at hSw); go_simp; first | done | with_reducible rfl)
          try simp only [PU]
          refine hd_tk (i := 15) (v := ?_) rfl ?_ ?_
          rotate_left
          · (intro w hSw; (try dsimp only at hSw); go_simp; first | done | with_reducible rfl)
          try simp only [PU]
          refine hd_tk (i := 16) (v := ?_) rfl ?_ ?_
          rotate_left
          · (intro w hSw; (try dsimp only at hSw); go_simp; first | done | with_reducible rfl)
          try simp only [PU]
          refine hd_tk (i := 17) (v := ?_) rfl ?_ ?_
          rotate_left
          · (intro w hSw; (try dsimp only at hSw); go_simp; first | done | with_reducible rfl)
          try simp only [PU]
          refine hd_ready (rs := [1, 10]) (by kernel_rfl) (by simp) ?_
          refine hd_cons (i := 1) rfl (by kernel_rfl) (fun K hK => ?_) ?_
          · skip
            go_simp
            obtain ⟨wa, hwa⟩ : ∃ W, W = c0.alloc (.cells #[] 30) := ⟨_, rfl⟩
            rw [← hwa]
            have fa : Fresh W6 wa := by rw [hwa]; exact fnew fc0 _
            have ra : RowAt wa c0.heap.size 30 [] := by rw [hwa]; exact RowAt.new _ _ _
            have ga : W6.heap.size ≤ c0.heap.size := fc0.size
            clear hwa
            refine hK.out _ _ ?_ (fun hHeld => ?_)
            · exact ⟨fkeep fa hx3, fkeep fa hr0, fkeep fa hr1⟩
            clear hK K
            try simp only [PU]
            refine hd_ready (rs := [8, 10]) (by kernel_rfl) (by simp) ?_
            refine hd_cons (i := 8) rfl (by kernel_rfl) (fun K hK => ?_) ?_
            · skip
              refine step_app_mm (some 39) rfl Try.underlying45 infoRt rfl (by decide) (by decide) W6 (.slice (some ⟨c0.heap.size, 0, none⟩) 0 0) 0 [] _ k c ((l.take k).flatMap lrC) rfl _ _ rfl rfl (ownsRow_zero ra ga) rfl (HPA.out _ (HOWN.out.keep fa)) HTK.out (ones_rt _) (by omega) n1 fa ?_
              rw [Nat.zero_add, List.nil_append]
              intro q1 c1 w1 own1 f1 hk1
              refine hK.out _ _ ?_ (fun hHeld => ?_)
              · exact ⟨fkeep f1 hx3, fkeep f1 hr0, fkeep f1 hr1⟩
              clear hK K
              try simp only [PU]
              refine hd_ready (rs := [10]) (by kernel_rfl) (by simp) ?_
              refine hd_cons (i := 10) rfl (by kernel_rfl) (fun K hK => ?_) ?_
              · skip
                go_simp
                obtain ⟨wb, hwb⟩ : ∃ W, W = w1.alloc (.cells #[.int .i64 s, .slice q fs.length cap] 30) := ⟨_, rfl⟩
                rw [← hwb]
                have fb : Fresh W6 wb := by rw [hwb]; exact fnew f1 _
                have rb : RowAt wb w1.heap.size 30 [iv s, .slice q fs.length cap] := by rw [hwb]; exact RowAt.new _ _ _
                have own1b := ownsRow_keep own1 (show Fresh w1 wb by rw [hwb]; exact fnew (frefl _) _)
                clear hwb
                refine hK.out _ _ ?_ (fun hHeld => ?_)
                · exact ⟨fkeep fb hx3, fkeep fb hr0, fkeep fb hr1⟩
                clear hK K
                try simp only [PU]
                refine hd_ready (rs := [11]) (by kernel_rfl) (by simp) ?_
                refine hd_cons (i := 11) rfl (by kernel_rfl) (fun K hK => ?_) ?_
                · skip
                  refine step_app_mm (some 42) rfl Try.underlying45 infoRt rfl (by decide) (by decide) W6 _ k ((l.take k).flatMap lrC) (some ⟨w1.heap.size, 0, none⟩) 1 1 [iv s, .slice q fs.length cap] rfl _ _ rfl rfl own1b rfl rb.cells rfl (one_rt ⟨s, q, cap, fs⟩) n1 (by decide) fb ?_
                  intro q2 c2 w2 own2 f2 hk2
                  refine hK.out _ _ ?_ (fun hHeld => ?_)
                  · exact ⟨fkeep f2 hx3, fkeep f2 hr0, fkeep f2 hr1⟩
                  clear hK K
                  try simp only [PU]
                  refine hd_ready (rs := [18]) (by kernel_rfl) (by simp) ?_
                  refine hd_cons (i := 18) rfl (by kernel_rfl) (fun K hK => ?_) ?_
                  · skip
                    refine step_app_mm (some 49) rfl Try.underlying45 infoRt rfl (by decide) (by decide) W6 _ (k + 1) ((l.take k).flatMap lrC ++ [iv s, .slice q fs.length cap]) _ (l.length - k) (c - k) ((l.drop k).flatMap lrC) rfl _ _ rfl rfl own2 rfl (HPB.out _ (HOWN.out.keep f2)) HDK.out (ones_rt _) (by omega) n2 f2 ?_
                    intro q3 c3 w3 own3 f3 hk3
                    refine hK.out _ _ ?_ (fun hHeld => ?_)
                    · exact ⟨fkeep f3 hx3, fkeep f3 hr0, fkeep f3 hr1⟩
                    clear hK K
                    try simp only [PU]
                    refine hd_done (by kernel_rfl) ?_
                    clear hHeld
                    simp only [List.drop_succ_cons, List.drop_zero]
                    have hrx3 := HRX.out.keep f3
                    have z3 := hrx3.frozen 3
                    have z4 := hrx3.cell (i := 3) rfl
                    have HOWN3 := Lib.hid own3
                    have HF3 := Lib.hid f3
                    clear hrx3 own3 f3 hk3 own2 f2 hk2 own1 f1 hk1
                    go_wp2
                    refine bodyPost_end (results_none rfl _ _ _) rfl ?_
                    exact ⟨rfl, HPOST.out q3 c3 w3 HOWN3.out HF3.out⟩
                  exact hd_nil
                exact hd_nil
              exact hd_nil
            refine hd_cons (i := 10) rfl (by kernel_rfl) (fun K hK => ?_) ?_
            · skip
              go_simp
              obtain ⟨wb, hwb⟩ : ∃ W, W = wa.alloc (.cells #[.int .i64 s, .slice q fs.length cap] 30) := ⟨_, rfl⟩
              rw [← hwb]
              have fb : Fresh W6 wb := by rw [hwb]; exact fnew fa _
              have rb : RowAt wb wa.heap.size 30 [iv s, .slice q fs.length cap] := by rw [hwb]; exact RowAt.new _ _ _
              have ra2 : RowAt wb c0.heap.size 30 [] := by rw [hwb]; exact ra.alloc _
              have nab : wa.heap.size ≠ c0.heap.size := by have := ra.lt; omega
              clear hwb
              refine hK.out _ _ ?_ (fun hHeld => ?_)
              · exact ⟨fkeep fb hx3, fkeep fb hr0, fkeep fb hr1⟩
              clear hK K
              try simp only [PU]
              refine hd_ready (rs := [8]) (by kernel_rfl) (by simp) ?_
              refine hd_cons (i := 8) rfl (by kernel_rfl) (fun K hK => ?_) ?_
              · skip
                refine step_app_mm (some 39) rfl Try.underlying45 infoRt rfl (by decide) (by decide) W6 (.slice (some ⟨c0.heap.size, 0, none⟩) 0 0) 0 [] _ k c ((l.take k).flatMap lrC) rfl _ _ rfl rfl (ownsRow_zero ra2 ga) rfl (HPA.out _ (HOWN.out.keep fb)) HTK.out (ones_rt _) (by omega) n1 fb ?_
                rw [Nat.zero_add, List.nil_append]
                intro q1 c1 w1 own1 f1 hk1
                have rb1 := hk1 _ _ _ rb (Or.inr (by simp only [Value.ownBlock, ne_eq, Option.some.injEq]; exact nab.symm))
                refine hK.out _ _ ?_ (fun hHeld => ?_)
                · exact ⟨fkeep f1 hx3, fkeep f1 hr0, fkeep f1 hr1⟩
                clear hK K
                try simp only [PU]
                refine hd_ready (rs := [11]) (by kernel_rfl) (by simp) ?_
                refine hd_cons (i := 11) rfl (by kernel_rfl) (fun K hK => ?_) ?_
                · skip
                  refine step_app_mm (some 42) rfl Try.underlying45 infoRt rfl (by decide) (by decide) W6 _ k ((l.take k).flatMap lrC) (some ⟨wa.heap.size, 0, none⟩) 1 1 [iv s, .slice q fs.length cap] rfl _ _ rfl rfl own1 rfl rb1.cells rfl (one_rt ⟨s, q, cap, fs⟩) n1 (by decide) f1 ?_
                  intro q2 c2 w2 own2 f2 hk2
                  refine hK.out _ _ ?_ (fun hHeld => ?_)
                  · exact ⟨fkeep f2 hx3, fkeep f2 hr0, fkeep f2 hr1⟩
                  clear hK K
                  try simp only [PU]
                  refine hd_ready (rs := [18]) (by kernel_rfl) (by simp) ?_
                  refine hd_cons (i := 18) rfl (by kernel_rfl) (fun K hK => ?_) ?_
                  · skip
                    refine step_app_mm (some 49) rfl Try.underlying45 infoRt rfl (by decide) (by decide) W6 _ (k + 1) ((l.take k).flatMap lrC ++ [iv s, .slice q fs.length cap]) _ (l.length - k) (c - k) ((l.drop k).flatMap lrC) rfl _ _ rfl rfl own2 rfl (HPB.out _ (HOWN.out.keep f2)) HDK.out (ones_rt _) (by omega) n2 f2 ?_
                    intro q3 c3 w3 own3 f3 hk3
                    refine hK.out _ _ ?_ (fun hHeld => ?_)
                    · exact ⟨fkeep f3 hx3, fkeep f3 hr0, fkeep f3 hr1⟩
                    clear hK K
                    try simp only [PU]
                    refine hd_done (by kernel_rfl) ?_
                    clear hHeld
                    simp only [List.drop_succ_cons, List.drop_zero]
                    have hrx3 := HRX.out.keep f3
                    have z3 := hrx3.frozen 3
                    have z4 := hrx3.cell (i := 3) rfl
                    have HOWN3 := Lib.hid own3
                    have HF3 := Lib.hid f3
                    clear hrx3 own3 f3 hk3 own2 f2 hk2 own1 f1 hk1
                    go_wp2
                    refine bodyPost_end (results_none rfl _ _ _) rfl ?_
                    exact ⟨rfl, HPOST.out q3 c3 w3 HOWN3.out HF3.out⟩
                  exact hd_nil
                exact hd_nil
              exact hd_nil
            exact hd_nil
          refine hd_cons (i := 10) rfl (by kernel_rfl) (fun K hK => ?_) ?_
          · skip
            go_simp
            obtain ⟨wb, hwb⟩ : ∃ W, W = c0.alloc (.cells #[.int .i64 s, .slice q fs.length cap] 30) := ⟨_, rfl⟩
            rw [← hwb]
            have fb : Fresh W6 wb := by rw [hwb]; exact fnew fc0 _
            have rb : RowAt wb c0.heap.size 30 [iv s, .slice q fs.length cap] := by rw [hwb]; exact RowAt.new _ _ _
            clear hwb
            refine hK.out _ _ ?_ (fun hHeld => ?_)
            · exact ⟨fkeep fb hx3, fkeep fb hr0, fkeep fb hr1⟩
            clear hK K
            try simp only [PU]
            refine hd_ready (rs := [1]) (by kernel_rfl) (by simp) ?_
            refine hd_cons (i := 1) rfl (by kernel_rfl) (fun K hK => ?_) ?_
            · skip
              go_simp
              obtain ⟨wa, hwa⟩ : ∃ W, W = wb.alloc (.cells #[] 30) := ⟨_, rfl⟩
              rw [← hwa]
              have fa : Fresh W6 wa := by rw [hwa]; exact fnew fb _
              have ra : RowAt wa wb.heap.size 30 [] := by rw [hwa]; exact RowAt.new _ _ _
              have rb2 : RowAt wa c0.heap.size 30 [iv s, .slice q fs.length cap] := by rw [hwa]; exact rb.alloc _
              have ga : W6.heap.size ≤ wb.heap.size := fb.size
              clear hwa
              refine hK.out _ _ ?_ (fun hHeld => ?_)
              · exact ⟨fkeep fa hx3, fkeep fa hr0, fkeep fa hr1⟩
              clear hK K
              try simp only [PU]
              refine hd_ready (rs := [8]) (by kernel_rfl) (by simp) ?_
              refine hd_cons (i := 8) rfl (by kernel_rfl) (fun K hK => ?_) ?_
              · skip
                refine step_app_mm (some 39) rfl Try.underlying45 infoRt rfl (by decide) (by decide) W6 (.slice (some ⟨wb.heap.size, 0, none⟩) 0 0) 0 [] _ k c ((l.take k).flatMap lrC) rfl _ _ rfl rfl (ownsRow_zero ra ga) rfl (HPA.out _ (HOWN.out.keep fa)) HTK.out (ones_rt _) (by omega) n1 fa ?_
                rw [Nat.zero_add, List.nil_append]
                intro q1 c1 w1 own1 f1 hk1
                have rb1 := hk1 _ _ _ rb2 (Or.inr (by simp only [Value.ownBlock, ne_eq, Option.some.injEq]; have := rb.lt; omega))
                refine hK.out _ _ ?_ (fun hHeld => ?_)
                · exact ⟨fkeep f1 hx3, fkeep f1 hr0, fkeep f1 hr1⟩
                clear hK K
                try simp only [PU]
                refine hd_ready (rs := [11]) (by kernel_rfl) (by simp) ?_
                refine hd_cons (i := 11) rfl (by kernel_rfl) (fun K hK => ?_) ?_
                · skip
                  refine step_app_mm (some 42) rfl Try.underlying45 infoRt rfl (by decide) (by decide) W6 _ k ((l.take k).flatMap lrC) (some ⟨c0.heap.size, 0, none⟩) 1 1 [iv s, .slice q fs.length cap] rfl _ _ rfl rfl own1 rfl rb1.cells rfl (one_rt ⟨s, q, cap, fs⟩) n1 (by decide) f1 ?_
                  intro q2 c2 w2 own2 f2 hk2
                  refine hK.out _ _ ?_ (fun hHeld => ?_)
                  · exact ⟨fkeep f2 hx3, fkeep f2 hr0, fkeep f2 hr1⟩
                  clear hK K
                  try simp only [PU]
                  refine hd_ready (rs := [18]) (by kernel_rfl) (by simp) ?_
                  refine hd_cons (i := 18) rfl (by kernel_rfl) (fun K hK => ?_) ?_
                  · skip
                    refine step_app_mm (some 49) rfl Try.underlying45 infoRt rfl (by decide) (by decide) W6 _ (k + 1) ((l.take k).flatMap lrC ++ [iv s, .slice q fs.length cap]) _ (l.length - k) (c - k) ((l.drop k).flatMap lrC) rfl _ _ rfl rfl own2 rfl (HPB.out _ (HOWN.out.keep f2)) HDK.out (ones_rt _) (by omega) n2 f2 ?_
                    intro q3 c3 w3 own3 f3 hk3
                    refine hK.out _ _ ?_ (fun hHeld => ?_)
                    · exact ⟨fkeep f3 hx3, fkeep f3 hr0, fkeep f3 hr1⟩
                    clear hK K
                    try simp only [PU]
                    refine hd_done (by kernel_rfl) ?_
                    clear hHeld
                    simp only [List.drop_succ_cons, List.drop_zero]
                    have hrx3 := HRX.out.keep f3
                    have z3 := hrx3.frozen 3
                    have z4 := hrx3.cell (i := 3) rfl
                    have HOWN3 := Lib.hid own3
                    have HF3 := Lib.hid f3
                    clear hrx3 own3 f3 hk3 own2 f2 hk2 own1 f1 hk1
                    go_wp2
                    refine bodyPost_end (results_none rfl _ _ _) rfl ?_
                    exact ⟨rfl, HPOST.out q3 c3 w3 HOWN3.out HF3.out⟩
                  exact hd_nil
                exact hd_nil
              exact hd_nil
            exact hd_nil
          exact hd_nil)
    · have hj0z : ¬ (0 : Int) < (j : Int) := by omega
      have hjd : decide ((0 : Int) < (j : Int)) = false := decide_eq_false hj0z
      have hjz : j = 0 := by omega
      have HPL2 : Hid (kk = j) := by show _ = _; rw [HPL.out, hjz]; rfl
      clear hf hjz
      go_wp2
      refine wp_region_after (by kernel_rfl) (by kernel_rfl) ?_
      repeat (go_big_quiet_step (fail))
      refine wpQuiet_nil ?_
      rintro _ ⟨xa, rfl⟩
      clear e0 e1 e3 h0 h1
      go_wp2
      obtain ⟨W6, hW6⟩ : ∃ W, W = xa.w' := ⟨_, rfl⟩
      rw [← hW6]
      have hf6 : Fresh W2 W6 := by rw [hW6]; exact fstep HF.out xa.h
      clear hW6
      obtain ⟨k, rfl⟩ : ∃ k : Nat, k = j := ⟨_, rfl⟩
      have hfw6 : Fresh w W6 := fstep HF2.out hf6
      have HRX := Lib.hid (HRX2.out.keep hf6)
      have HOWN := Lib.hid (HOW2.out.keep hf6)
      have hx3 := (HRX2.out.keep hf6).cell (i := 3) rfl
      have hr0 := (HR2.out.keep hf6).cell (i := 0) rfl
      have hr1 := (HR2.out.keep hf6).cell (i := 1) rfl
      have HTK : Hid (((l.take k).flatMap lrC).length = k * 2) := by show _ = _; rw [flat_len lrC 2 (fun _ => rfl)]; simp; omega
      have HDK : Hid (((l.drop k).flatMap lrC).length = (l.length - k) * 2) := by show _ = _; rw [flat_len lrC 2 (fun _ => rfl)]; simp
      have HPA : Hid (∀ W, Own W w0.heap.size 30 p (l.flatMap lrC) → Cells W p ((l.take k).flatMap lrC)) := fun W hW => partR_a k hW
      have n1 : k ≤ 1048576 := by omega
      have n2 : l.length - k ≤ 1048576 := by omega
      have b1 : k ≤ c := by omega
      have b2 : k ≤ l.length := hj
      have b3 : (k : Int) ≤ (l.length : Int) := by omega
      have b4 : (k : Int) ≤ (c : Int) := by omega
      have HPOST : Hid (∀ (q3 : Option Addr) (c3 : Nat) (w3 : World), w3.ownsRow W6.heap.size 30 2 (.slice q3 (k + 1 + (l.length - k)) c3) (k + 1 + (l.length - k)) ((l.take k).flatMap lrC ++ [iv s, .slice q fs.length cap] ++ (l.drop k).flatMap lrC) → Fresh W6 w3 →
          SeSt w0 (w3.setCell ⟨bx, 3, none⟩ (.slice q3 (k + 1 + (l.length - k)) c3)) bx qn pn cn cp n s t (w3.setCell ⟨bx, 3, none⟩ (.slice q3 (k + 1 + (l.length - k)) c3)).heap.size (putL (ltC (cmpR n.fibers)) acc (s, fs)) ∧ KpS bx w (w3.setCell ⟨bx, 3, none⟩ (.slice q3 (k + 1 + (l.length - k)) c3))) := fun q3 c3 w3 h1 h2 =>
        sePut_post HFR.out g0 HRO.out HRT.out HVAL.out HBL.out HOK.out HQ.out HC1.out HB.out HV.out (by rw [← HPL2.out, ← HLL.out]; exact HKK.out) hj (fstep hfw6 h2) hfw6.size h1
      have hsm : ∃ A : Option Addr, (∀ W, Own W w0.heap.size 30 p (l.flatMap lrC) → Cells W A ((l.drop k).flatMap lrC)) ∧ ((p = none ∧ A = none ∧ l.length = 0 ∧ c = 0) ∨ ∃ g, p = some ⟨g, 0, none⟩ ∧ A = if c = k then (some (⟨g, 0, none⟩ : Addr)) else some ⟨g, k * 2, none⟩) := by
        rcases HRT.out.row.2 with ⟨e1, e2⟩ | ⟨g, c2, cur, e1, _⟩
        · simp only [Value.slice.injEq] at e1
          obtain ⟨rfl, -, rfl⟩ := e1
          refine ⟨none, fun W hW => Or.inl ?_, Or.inl ⟨rfl, rfl, e2, rfl⟩⟩
          have : l = [] := List.eq_nil_of_length_eq_zero e2
          rw [this]; simp
        · cases e1
          exact ⟨_, fun W hW => partR_b b2 hlc hW, Or.inr ⟨g, rfl, rfl⟩⟩
      obtain ⟨A, hPB, hcase⟩ := hsm
      have HPB := Lib.hid hPB
      clear hf6 hfw6 hPB
      rcases hcase with ⟨rfl, rfl, -, -⟩ | ⟨g, rfl, hA⟩
      rotate_left
      focus
        have hA' := hA.symm
        clear hA
      all_goals (
        refine hd_start (n := 19) (S := fun w' => w'.cell? ⟨bx, 3, none⟩ = some (.slice _ l.length c) ∧ w'.cell? ⟨w.heap.size, 0, none⟩ = some (iv s) ∧ w'.cell? ⟨w.heap.size, 1, none⟩ = some (.slice q fs.length cap)) (by kernel_rfl) (by kernel_rfl) ⟨fkeep (fdrew (frefl _)) hx3, fkeep (fdrew (frefl _)) hr0, fkeep (fdrew (frefl _)) hr1⟩ (fun hHeld => ?_)
        obtain ⟨c0, hc0⟩ : ∃ W, W = W6.drew := ⟨_, rfl⟩
        rw [← hc0] at hHeld ⊢
        have fc0 : Fresh W6 c0 := by rw [hc0]; exact fdrew (frefl _)
        clear hc0
        refine hd_tk (i := 0) (v := ?_) rfl ?_ ?_
        rotate_left
        · (intro w hSw; (try dsimp only at hSw); go_simp; first | done | with_reducible rfl)
        try simp only [PU]
        refine hd_tk (i := 2) (v := ?_) rfl ?_ ?_
        rotate_left
        · (intro w hSw; (try dsimp only at hSw); go_simp; first | done | with_reducible rfl)
        try simp only [PU]
        refine hd_tk (i := 3) (v := ?_) rfl ?_ ?_
        rotate_left
        · (intro w hSw; (try dsimp only at hSw); go_simp; first | done | with_reducible rfl)
        try simp only [PU]
        refine hd_tk (i := 4) (v := ?_) rfl ?_ ?_
        rotate_left
        · (intro w hSw; (try dsimp only at hSw); go_simp; first | done | with_reducible rfl)
        try simp only [PU]
        refine hd_tk (i := 5) (v := ?_) rfl ?_ ?_
        rotate_left
        · (intro w hSw; (try dsimp only at hSw); go_simp; first | done | with_reducible rfl)
        try simp only [PU]
        refine hd_tk (i := 6) (v := ?_) rfl ?_ ?_
        rotate_left
        · (intro w hSw; (try dsimp only at hSw); go_simp; first | done | with_reducible rfl)
        try simp only [PU]
        refine hd_tk (i := 7) (v := ?_) rfl ?_ ?_
        rotate_left
        · (intro w hSw; (try dsimp only at hSw); go_simp; first | done | with_reducible rfl)
        try simp only [PU]
        refine hd_tk (i := 9) (v := ?_) rfl ?_ ?_
        rotate_left
        · (intro w hSw; (try dsimp only at hSw); go_simp; first | done | with_reducible rfl)
        try simp only [PU]
        refine hd_tk (i := 12) (v := ?_) rfl ?_ ?_
        rotate_left
        · (intro w hSw; (try dsimp only at hSw); go_simp; first | done | with_reducible rfl)
        try simp only [PU]
        refine hd_tk (i := 13) (v := ?_) rfl ?_ ?_
        rotate_left
        · (intro w hSw; (try dsimp only at hSw); go_simp; first | done | with_reducible rfl)
        try simp only [PU]
        refine hd_tk (i := 14) (v := ?_) rfl ?_ ?_
        rotate_left
        · (intro w hSw; (try dsimp only at hSw); go_simp; first | done | with_reducible rfl)
        try simp only [PU]
        refine hd_tk (i := 15) (v := ?_) rfl ?_ ?_
        rotate_left
        · (intro w hSw; (try dsimp only at hSw); go_simp; first | done | with_reducible rfl)
        try simp only [PU]
        refine hd_tk (i := 16) (v := ?_) rfl ?_ ?_
        rotate_left
        · (intro w hSw; (try dsimp only at hSw); go_simp; first | done | with_reducible rfl)
        try simp only [PU]
        refine hd_tk (i := 17) (v := ?_) rfl ?_ ?_
        rotate_left
        · (intro w hSw; (try dsimp only at hSw); go_simp; first | done | with_reducible rfl)
        try simp only [PU]
        refine hd_ready (rs := [1, 10]) (by kernel_rfl) (by simp) ?_
        refine hd_cons (i := 1) rfl (by kernel_rfl) (fun K hK => ?_) ?_
        · skip
          go_simp
          obtain ⟨wa, hwa⟩ : ∃ W, W = c0.alloc (.cells #[] 30) := ⟨_, rfl⟩
          rw [← hwa]
          have fa : Fresh W6 wa := by rw [hwa]; exact fnew fc0 _
          have ra : RowAt wa c0.heap.size 30 [] := by rw [hwa]; exact RowAt.new _ _ _
          have ga : W6.heap.size ≤ c0.heap.size := fc0.size
          clear hwa
          refine hK.out _ _ ?_ (fun hHeld => ?_)
          · exact ⟨fkeep fa hx3, fkeep fa hr0, fkeep fa hr1⟩
          clear hK K
          try simp only [PU]
          refine hd_ready (rs := [8, 10]) (by kernel_rfl) (by simp) ?_
          refine hd_cons (i := 8) rfl (by kernel_rfl) (fun K hK => ?_) ?_
          · skip
            refine step_app_mm (some 39) rfl Try.underlying45 infoRt rfl (by decide) (by decide) W6 (.slice (some ⟨c0.heap.size, 0, none⟩) 0 0) 0 [] _ k c ((l.take k).flatMap lrC) rfl _ _ rfl rfl (ownsRow_zero ra ga) rfl (HPA.out _ (HOWN.out.keep fa)) HTK.out (ones_rt _) (by omega) n1 fa ?_
            rw [Nat.zero_add, List.nil_append]
            intro q1 c1 w1 own1 f1 hk1
            refine hK.out _ _ ?_ (fun hHeld => ?_)
            · exact ⟨fkeep f1 hx3, fkeep f1 hr0, fkeep f1 hr1⟩
            clear hK K
            try simp only [PU]
            refine hd_ready (rs := [10]) (by kernel_rfl) (by simp) ?_
            refine hd_cons (i := 10) rfl (by kernel_rfl) (fun K hK => ?_) ?_
            · skip
              go_simp
              obtain ⟨wb, hwb⟩ : ∃ W, W = w1.alloc (.cells #[.int .i64 s, .slice q fs.length cap] 30) := ⟨_, rfl⟩
              rw [← hwb]
              have fb : Fresh W6 wb := by rw [hwb]; exact fnew f1 _
              have rb : RowAt wb w1.heap.size 30 [iv s, .slice q fs.length cap] := by rw [hwb]; exact RowAt.new _ _ _
              have own1b := ownsRow_keep own1 (show Fresh w1 wb by rw [hwb]; exact fnew (frefl _) _)
              clear hwb
              refine hK.out _ _ ?_ (fun hHeld => ?_)
              · exact ⟨fkeep fb hx3, fkeep fb hr0, fkeep fb hr1⟩
              clear hK K
              try simp only [PU]
              refine hd_ready (rs := [11]) (by kernel_rfl) (by simp) ?_
              refine hd_cons (i := 11) rfl (by kernel_rfl) (fun K hK => ?_) ?_
              · skip
                refine step_app_mm (some 42) rfl Try.underlying45 infoRt rfl (by decide) (by decide) W6 _ k ((l.take k).flatMap lrC) (some ⟨w1.heap.size, 0, none⟩) 1 1 [iv s, .slice q fs.length cap] rfl _ _ rfl rfl own1b rfl rb.cells rfl (one_rt ⟨s, q, cap, fs⟩) n1 (by decide) fb ?_
                intro q2 c2 w2 own2 f2 hk2
                refine hK.out _ _ ?_ (fun hHeld => ?_)
                · exact ⟨fkeep f2 hx3, fkeep f2 hr0, fkeep f2 hr1⟩
                clear hK K
                try simp only [PU]
                refine hd_ready (rs := [18]) (by kernel_rfl) (by simp) ?_
                refine hd_cons (i := 18) rfl (by kernel_rfl) (fun K hK => ?_) ?_
                · skip
                  refine step_app_mm (some 49) rfl Try.underlying45 infoRt rfl (by decide) (by decide) W6 _ (k + 1) ((l.take k).flatMap lrC ++ [iv s, .slice q fs.length cap]) _ (l.length - k) (c - k) ((l.drop k).flatMap lrC) rfl _ _ rfl rfl own2 rfl (HPB.out _ (HOWN.out.keep f2)) HDK.out (ones_rt _) (by omega) n2 f2 ?_
                  intro q3 c3 w3 own3 f3 hk3
                  refine hK.out _ _ ?_ (fun hHeld => ?_)
                  · exact ⟨fkeep f3 hx3, fkeep f3 hr0, fkeep f3 hr1⟩
                  clear hK K
                  try simp only [PU]
                  refine hd_done (by kernel_rfl) ?_
                  clear hHeld
                  simp only [List.drop_succ_cons, List.drop_zero]
                  have hrx3 := HRX.out.keep f3
                  have z3 := hrx3.frozen 3
                  have z4 := hrx3.cell (i := 3) rfl
                  have HOWN3 := Lib.hid own3
                  have HF3 := Lib.hid f3
                  clear hrx3 own3 f3 hk3 own2 f2 hk2 own1 f1 hk1
                  go_wp2
                  refine bodyPost_end (results_none rfl _ _ _) rfl ?_
                  exact ⟨rfl, HPOST.out q3 c3 w3 HOWN3.out HF3.out⟩
                exact hd_nil
              exact hd_nil
            exact hd_nil
          refine hd_cons (i := 10) rfl (by kernel_rfl) (fun K hK => ?_) ?_
          · skip
            go_simp
            obtain ⟨wb, hwb⟩ : ∃ W, W = wa.alloc (.cells #[.int .i64 s, .slice q fs.length cap] 30) := ⟨_, rfl⟩
            rw [← hwb]
            have fb : Fresh W6 wb := by rw [hwb]; exact fnew fa _
            have rb : RowAt wb wa.heap.size 30 [iv s, .slice q fs.length cap] := by rw [hwb]; exact RowAt.new _ _ _
            have ra2 : RowAt wb c0.heap.size 30 [] := by rw [hwb]; exact ra.alloc _
            have nab : wa.heap.size ≠ c0.heap.size := by have := ra.lt; omega
            clear hwb
            refine hK.out _ _ ?_ (fun hHeld => ?_)
            · exact ⟨fkeep fb hx3, fkeep fb hr0, fkeep fb hr1⟩
            clear hK K
            try simp only [PU]
            refine hd_ready (rs := [8]) (by kernel_rfl) (by simp) ?_
            refine hd_cons (i := 8) rfl (by kernel_rfl) (fun K hK => ?_) ?_
            · skip
              refine step_app_mm (some 39) rfl Try.underlying45 infoRt rfl (by decide) (by decide) W6 (.slice (some ⟨c0.heap.size, 0, none⟩) 0 0) 0 [] _ k c ((l.take k).flatMap lrC) rfl _ _ rfl rfl (ownsRow_zero ra2 ga) rfl (HPA.out _ (HOWN.out.keep fb)) HTK.out (ones_rt _) (by omega) n1 fb ?_
              rw [Nat.zero_add, List.nil_append]
              intro q1 c1 w1 own1 f1 hk1
              have rb1 := hk1 _ _ _ rb (Or.inr (by simp only [Value.ownBlock, ne_eq, Option.some.injEq]; exact nab.symm))
              refine hK.out _ _ ?_ (fun hHeld => ?_)
              · exact ⟨fkeep f1 hx3, fkeep f1 hr0, fkeep f1 hr1⟩
              clear hK K
              try simp only [PU]
              refine hd_ready (rs := [11]) (by kernel_rfl) (by simp) ?_
              refine hd_cons (i := 11) rfl (by kernel_rfl) (fun K hK => ?_) ?_
              · skip
                refine step_app_mm (some 42) rfl Try.underlying45 infoRt rfl (by decide) (by decide) W6 _ k ((l.take k).flatMap lrC) (some ⟨wa.heap.size, 0, none⟩) 1 1 [iv s, .slice q fs.length cap] rfl _ _ rfl rfl own1 rfl rb1.cells rfl (one_rt ⟨s, q, cap, fs⟩) n1 (by decide) f1 ?_
                intro q2 c2 w2 own2 f2 hk2
                refine hK.out _ _ ?_ (fun hHeld => ?_)
                · exact ⟨fkeep f2 hx3, fkeep f2 hr0, fkeep f2 hr1⟩
                clear hK K
                try simp only [PU]
                refine hd_ready (rs := [18]) (by kernel_rfl) (by simp) ?_
                refine hd_cons (i := 18) rfl (by kernel_rfl) (fun K hK => ?_) ?_
                · skip
                  refine step_app_mm (some 49) rfl Try.underlying45 infoRt rfl (by decide) (by decide) W6 _ (k + 1) ((l.take k).flatMap lrC ++ [iv s, .slice q fs.length cap]) _ (l.length - k) (c - k) ((l.drop k).flatMap lrC) rfl _ _ rfl rfl own2 rfl (HPB.out _ (HOWN.out.keep f2)) HDK.out (ones_rt _) (by omega) n2 f2 ?_
                  intro q3 c3 w3 own3 f3 hk3
                  refine hK.out _ _ ?_ (fun hHeld => ?_)
                  · exact ⟨fkeep f3 hx3, fkeep f3 hr0, fkeep f3 hr1⟩
                  clear hK K
                  try simp only [PU]
                  refine hd_done (by kernel_rfl) ?_
                  clear hHeld
                  simp only [List.drop_succ_cons, List.drop_zero]
                  have hrx3 := HRX.out.keep f3
                  have z3 := hrx3.frozen 3
                  have z4 := hrx3.cell (i := 3) rfl
                  have HOWN3 := Lib.hid own3
                  have HF3 := Lib.hid f3
                  clear hrx3 own3 f3 hk3 own2 f2 hk2 own1 f1 hk1
                  go_wp2
                  refine bodyPost_end (results_none rfl _ _ _) rfl ?_
                  exact ⟨rfl, HPOST.out q3 c3 w3 HOWN3.out HF3.out⟩
                exact hd_nil
              exact hd_nil
            exact hd_nil
          exact hd_nil
        refine hd_cons (i := 10) rfl (by kernel_rfl) (fun K hK => ?_) ?_
        · skip
          go_simp
          obtain ⟨wb, hwb⟩ : ∃ W, W = c0.alloc (.cells #[.int .i64 s, .slice q fs.length cap] 30) := ⟨_, rfl⟩
          rw [← hwb]
          have fb : Fresh W6 wb := by rw [hwb]; exact fnew fc0 _
          have rb : RowAt wb c0.heap.size 30 [iv s, .slice q fs.length cap] := by rw [hwb]; exact RowAt.new _ _ _
          clear hwb
          refine hK.out _ _ ?_ (fun hHeld => ?_)
          · exact ⟨fkeep fb hx3, fkeep fb hr0, fkeep fb hr1⟩
          clear hK K
          try simp only [PU]
          refine hd_ready (rs := [1]) (by kernel_rfl) (by simp) ?_
          refine hd_cons (i := 1) rfl (by kernel_rfl) (fun K hK => ?_) ?_
          · skip
            go_simp
            obtain ⟨wa, hwa⟩ : ∃ W, W = wb.alloc (.cells #[] 30) := ⟨_, rfl⟩
            rw [← hwa]
            have fa : Fresh W6 wa := by rw [hwa]; exact fnew fb _
            have ra : RowAt wa wb.heap.size 30 [] := by rw [hwa]; exact RowAt.new _ _ _
            have rb2 : RowAt wa c0.heap.size 30 [iv s, .slice q fs.length cap] := by rw [hwa]; exact rb.alloc _
            have ga : W6.heap.size ≤ wb.heap.size := fb.size
            clear hwa
            refine hK.out _ _ ?_ (fun hHeld => ?_)
            · exact ⟨fkeep fa hx3, fkeep fa hr0, fkeep fa hr1⟩
            clear hK K
            try simp only [PU]
            refine hd_ready (rs := [8]) (by kernel_rfl) (by simp) ?_
            refine hd_cons (i := 8) rfl (by kernel_rfl) (fun K hK => ?_) ?_
            · skip
              refine step_app_mm (some 39) rfl Try.underlying45 infoRt rfl (by decide) (by decide) W6 (.slice (some ⟨wb.heap.size, 0, none⟩) 0 0) 0 [] _ k c ((l.take k).flatMap lrC) rfl _ _ rfl rfl (ownsRow_zero ra ga) rfl (HPA.out _ (HOWN.out.keep fa)) HTK.out (ones_rt _) (by omega) n1 fa ?_
              rw [Nat.zero_add, List.nil_append]
              intro q1 c1 w1 own1 f1 hk1
              have rb1 := hk1 _ _ _ rb2 (Or.inr (by simp only [Value.ownBlock, ne_eq, Option.some.injEq]; have := rb.lt; omega))
              refine hK.out _ _ ?_ (fun hHeld => ?_)
              · exact ⟨fkeep f1 hx3, fkeep f1 hr0, fkeep f1 hr1⟩
              clear hK K
              try simp only [PU]
              refine hd_ready (rs := [11]) (by kernel_rfl) (by simp) ?_
              refine hd_cons (i := 11) rfl (by kernel_rfl) (fun K hK => ?_) ?_
              · skip
                refine step_app_mm (some 42) rfl Try.underlying45 infoRt rfl (by decide) (by decide) W6 _ k ((l.take k).flatMap lrC) (some ⟨c0.heap.size, 0, none⟩) 1 1 [iv s, .slice q fs.length cap] rfl _ _ rfl rfl own1 rfl rb1.cells rfl (one_rt ⟨s, q, cap, fs⟩) n1 (by decide) f1 ?_
                intro q2 c2 w2 own2 f2 hk2
                refine hK.out _ _ ?_ (fun hHeld => ?_)
                · exact ⟨fkeep f2 hx3, fkeep f2 hr0, fkeep f2 hr1⟩
                clear hK K
                try simp only [PU]
                refine hd_ready (rs := [18]) (by kernel_rfl) (by simp) ?_
                refine hd_cons (i := 18) rfl (by kernel_rfl) (fun K hK => ?_) ?_
                · skip
                  refine step_app_mm (some 49) rfl Try.underlying45 infoRt rfl (by decide) (by decide) W6 _ (k + 1) ((l.take k).flatMap lrC ++ [iv s, .slice q fs.length cap]) _ (l.length - k) (c - k) ((l.drop k).flatMap lrC) rfl _ _ rfl rfl own2 rfl (HPB.out _ (HOWN.out.keep f2)) HDK.out (ones_rt _) (by omega) n2 f2 ?_
                  intro q3 c3 w3 own3 f3 hk3
                  refine hK.out _ _ ?_ (fun hHeld => ?_)
                  · exact ⟨fkeep f3 hx3, fkeep f3 hr0, fkeep f3 hr1⟩
                  clear hK K
                  try simp only [PU]
                  refine hd_done (by kernel_rfl) ?_
                  clear hHeld
                  simp only [List.drop_succ_cons, List.drop_zero]
                  have hrx3 := HRX.out.keep f3
                  have z3 := hrx3.frozen 3
                  have z4 := hrx3.cell (i := 3) rfl
                  have HOWN3 := Lib.hid own3
                  have HF3 := Lib.hid f3
                  clear hrx3 own3 f3 hk3 own2 f2 hk2 own1 f1 hk1
                  go_wp2
                  refine bodyPost_end (results_none rfl _ _ _) rfl ?_
                  exact ⟨rfl, HPOST.out q3 c3 w3 HOWN3.out HF3.out⟩
                exact hd_nil
              exact hd_nil
            exact hd_nil
          exact hd_nil
        exact hd_nil)
end Go.Proofs.Ytlapicgeokjpjaa
