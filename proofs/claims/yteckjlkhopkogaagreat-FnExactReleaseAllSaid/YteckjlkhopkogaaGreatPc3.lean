/- Contracts: copies of routes and lights, the reference's side; an append of one element as a step of a region that draws. -/
import Derived.Test.YteckjlkhopkogaaGreatPc2
import Derived.Test.YteckjlkhopkogaaGreatU1
namespace Go.Proofs.YteckjlkhopkogaaGreat
open Go.RowKit Go.PlainAid

theorem wpList_app0 {T E : TypeId} {z : Value} {size bytes : Nat} (hu : Tryz.prog.underlying T = some (.slice E)) (hinfo : (Tryz.prog.info? E).map (fun i => (i.zero, i.size, i.bytes)) = some (some z, size, bytes))
    (hzs : z.cells.size = size) (hsz : 0 < size) (hby : bytes ≤ 128) {ops : Array Oper} {rest : List Oper} {o : Oper} {a : Act} {w : World} {Q : Exit → Act → World → Prop} (w0 : World) (g : Nat) (p : Option Addr) (m c : Nat) (news : List Value)
    (hgd : o.guard = none) (s t : Operand) (ho : o.op = .call { callee := .builtin .append, args := #[s, t], argTypes := #[T, T] }) (hs : a.eval s = .slice (some ⟨g, 0, none⟩) 0 0) (hr : RowAt w g E []) (hg : w0.heap.size ≤ g)
    (hx : a.eval t = .slice p m c) (hc : Cells w p news) (hl : news.length = m * size) (hone : ∀ u ∈ news, u.oneCell' = true) (hm : m ≤ 1048576) (hf : Fresh w0 w)
    (h : ∀ q' c' w', Own w' w0.heap.size E q' news → m ≤ c' → c' ≤ 9223372036854775807 → Fresh w0 w' → (∀ g t cs, RowAt w g t cs → t ≠ E → RowAt w' g t cs) → wpList Tryz.prog ops Q rest (a.put o.dst (.slice q' m c')) w') :
    wpList Tryz.prog ops Q (o :: rest) a w :=
  wpList_plain hgd fun K hK => by
    have hw : Region.wanted o (yielded #[] a.tmps) = true := by simp [Region.wanted, hgd]
    have := step_app0 (ops := #[]) (K := K) (Q := Q) (F := True) hu hinfo hzs hsz hby w0 g p m c news hgd s t ho hs hr hg hx hc hl hone hm hf fun q' c' w' h1 h2 h3 h4 h5 => hK _ _ (h q' c' w' h1 h2 h3 h4 h5)
    rw [if_pos hw] at this
    exact this
/-- One more element, as a step of a region that draws its order. -/
theorem step_app_g {T E : TypeId} {z : Value} {size bytes : Nat} (hu : Tryz.prog.underlying T = some (.slice E)) (hinfo : (Tryz.prog.info? E).map (fun i => (i.zero, i.size, i.bytes)) = some (some z, size, bytes))
    (hzs : z.cells.size = size) (hsz : 0 < size) (hby : bytes ≤ 128) {ops : Array Oper} {o : Oper} {a : Act} {K : Act → World → Prop} {Q : Exit → Act → World → Prop} {F : Prop} (w0 w1 : World) (v : Value) (n : Nat) (xs news : List Value)
    (g0 : Nat) (hl : news.length = size) (hone : ∀ u ∈ news, u.oneCell' = true) (hgd : o.guard = none) (s t : Operand)
    (ho : o.op = .call { callee := .builtin .append, args := #[s, t], argTypes := #[T, T] }) (hs : a.eval s = v) (hown : w1.ownsRow w0.heap.size E size v n xs)
    (hx : a.eval t = .slice (some ⟨g0, 0, none⟩) 1 1) (hg0 : g0 = w1.heap.size) (hn : n ≤ 1048576) (hf : Fresh w0 w1)
    (h : ∀ v' w', w'.ownsRow w0.heap.size E size v' (n + 1) (xs ++ news) → Fresh w0 w' → (∀ g t cs, RowAt w1 g t cs → t ≠ E → RowAt w' g t cs) → K (a.put o.dst v') w') :
    if Region.wanted o (yielded ops a.tmps) = true then Oper.wp Tryz.prog o a (w1.alloc (.cells news.toArray E)) K Q else F := by
  have hw : Region.wanted o (yielded ops a.tmps) = true := by simp [Region.wanted, hgd]
  rw [if_pos hw]
  subst hg0
  obtain ⟨i0, hi, hz0, hz1, hz2⟩ := info_parts hinfo
  refine wp_append_own _ s t T ho w0.heap.size E i0 z size bytes hu hi hz0 hz1 hz2 hzs hsz v n xs hs (hown.alloc _) ⟨w1.heap.size, 0, none⟩ 1 1 news hx (by omega)
    (add_new w1 E news) hone (by unfold maxLen; omega) (Nat.le_trans (Nat.mul_le_mul (by omega : n + 1 ≤ 1048577) hby) (by omega)) (Nat.le_trans hf.size (by simp)) ?_
  intro v' w' hown' hgrow _
  exact h v' w' hown' (fgrown (fnew hf _) hgrow (own_block hown)) fun g t cs hr ht => row_grown hown hgrow hr ht
set_option maxHeartbeats 2000000 in
theorem l1Own_any (q : Option Addr) (cap : Nat) (l : List Int) (w : World) (hI : Ints w q l) (hn : l.length ≤ 1048576) :
    Calls Tryz.prog 160 #[.slice q l.length cap] w fun e w' => ∃ q' c', e = .returned (.slice q' l.length c') ∧ Own w' w.heap.size 3 q' (l.map iv) ∧ Fresh w w' := by
  have HI : Hid (∀ a : Obj, Cells (w.alloc a) q (l.map iv)) := fun a => hI.keep (fnew (frefl _) _)
  clear hI
  go_enter Tryz.func160, Tryz.ntmps160
  go_wp2_with (at_builtin; refine wpList_app0 Tryz.underlying29 infoInt rfl (by decide) (by decide) w w.heap.size q l.length cap (l.map iv) rfl _ _ rfl rfl (RowAt.new w 3 []) (Nat.le_refl _) rfl (HI.out _) (by simp) (one_ints l) hn (fnew (frefl _) _) ?_; intro q' c' w' ho hc1 hc2 hf hk)
  have HO := Lib.hid ho
  have HF := Lib.hid hf
  clear ho hf hk
  go_wp2
  go_ret
  exact ⟨q', c', rfl, HO.out, HF.out⟩
set_option maxHeartbeats 2000000 in
set_option maxRecDepth 20000 in
theorem l4Own_any (s : Int) (q : Option Addr) (cap : Nat) (l : List Int) (w : World) (hI : Ints w q l) (hn : l.length ≤ 1048576) :
    Calls Tryz.prog 113 #[.agg #[.int .i64 s, .slice q l.length cap]] w fun e w' => ∃ q' c', e = .returned (.agg #[.int .i64 s, .slice q' l.length c']) ∧ Own w' w.heap.size 3 q' (l.map iv) ∧ Fresh w w' := by
  obtain ⟨W2, hW2, hsz2, hf2, r1, r2⟩ := two_rows w [.int .i64 s, .slice q l.length cap] [.int .i64 0, .slice none 0 0] 90 90
  have HI := Lib.hid (hI.keep hf2)
  have HF2 := Lib.hid hf2
  have HR1 := Lib.hid r1
  have HR2 := Lib.hid r2
  have HW2 := Lib.hid hW2
  have hsz := hf2.size
  have HSS : Fresh w W2 ∧ W2.cell? ⟨w.heap.size, 0, none⟩ = some (.int .i64 s) ∧ W2.cell? ⟨w.heap.size, 1, none⟩ = some (.slice q l.length cap) := ⟨hf2, r1.cell (i := 0) rfl, r1.cell (i := 1) rfl⟩
  clear hI hf2 r1 r2 hW2
  go_enter Tryz.func113, Tryz.ntmps113
  go_wp2_with fail
  rw [← HW2.out]
  go_region_held3 (fun w' => Fresh w w' ∧ w'.cell? ⟨w.heap.size, 0, none⟩ = some (.int .i64 s) ∧ w'.cell? ⟨w.heap.size, 1, none⟩ = some (.slice q l.length cap))
    (first | with_reducible assumption | exact ⟨fset (fset (fstep HF2.out hfr) (by omega) _) (by omega) _, ((hr1.setOther (by omega) _).setOther (by omega) _).cell (i := 0) rfl, ((hr1.setOther (by omega) _).setOther (by omega) _).cell (i := 1) rfl⟩ | with_reducible exact kp2 HSS hfr | with_reducible exact kp2 HSS (fdrew (frefl _)) | with_reducible exact kp2 HSS (frefl _))
    (first | (go_at_call 160; refine (l1Own_any q cap l _ (HI.out.keep (fdrew (frefl _))) hn).mono ?_; rintro e w1 ⟨q', c', rfl, ho, hb⟩; have hfr : Fresh W2 w1 := fstep (fdrew (frefl _)) hb; have hr := HR2.out.keep hfr; have hr1 := HR1.out.keep hfr; have f0 := hr.cell (i := 0) rfl; have f1 := hr.cell (i := 1) rfl; have z0 := hr.frozen 0; have z1 := hr.frozen 1; have hsw := hfr.size))
  have HO := Lib.hid (ho.mono (by simpa using hsz))
  have HF := Lib.hid (fstep HF2.out hfr)
  have HR := Lib.hid hr
  have k0 := ((hr.set 0 (.int .i64 s)).set 1 (.slice q' l.length c')).cell (i := 0) rfl
  have k1 := ((hr.set 0 (.int .i64 s)).set 1 (.slice q' l.length c')).cell (i := 1) rfl
  clear ho hb hr hr1 HSS
  go_wp2
  refine bodyPost_ret (v := .agg #[.int .i64 s, .slice q' l.length c']) (by simp [results, Tryz.results113, go_sem, k0, k1]) rfl ?_
  exact ⟨q', c', rfl, (HO.out.setO HR.out (by decide) _ _).setO (HR.out.set 0 _) (by decide) _ _, fset (fset HF.out (by omega) _) (by omega) _⟩
end Go.Proofs.YteckjlkhopkogaaGreat
