/- Contracts: all routes between two nodes, the program's search (a closure that calls itself). -/
import Derived.Test.YteckjlkhopkogaaGreatRs
import Derived.Test.YteckjlkhopkogaaGreatHd
import Derived.Test.YteckjlkhopkogaaGreatPc4
import Derived.WalkSpells
import Derived.ArgAppend
import Derived.Deep.RegionLawGrows
namespace Go.Proofs.YteckjlkhopkogaaGreat
open Go.RowKit Go.PlainAid

set_option maxHeartbeats 1000000 in
set_option maxRecDepth 100000 in
theorem cloneI_o (p : Option Addr) (cap : Nat) (l : List Int) (w : World) (hI : Ints w p l) (hn : l.length ≤ 1048576) :
    Calls Tryz.prog 213 #[.slice p l.length cap] w fun e w' => ∃ q' c', e = .returned (.slice q' l.length c') ∧ Own w' w.heap.size 3 q' (l.map iv) ∧ l.length ≤ c' ∧ c' ≤ 9223372036854775807 ∧ Fresh w w' := by
  have hnil := fun w : World => Lib.run_eql_slice_nil (P := Tryz.prog) w 29 3 p l.length cap 0 0 Tryz.underlying29
  have HI := Lib.hid hI
  cases p with
  | none =>
    have h0 : l = [] := by
      rcases hI with h | ⟨b, o, h, _⟩
      · simpa using h
      · cases h
    subst h0
    have hnil0 := fun w : World => Lib.run_eql_slice_nil (P := Tryz.prog) w 29 3 none 0 cap 0 0 Tryz.underlying29
    simp only [Option.isNone_none] at hnil0
    clear hI hnil
    go_enter Tryz.func213, Tryz.ntmps213
    go_wp2
    go_ret
    exact ⟨none, 0, rfl, Or.inl ⟨rfl, rfl⟩, Nat.le_refl _, by omega, frefl _⟩
  | some a =>
    simp only [Option.isNone_some] at hnil
    clear hI
    go_enter Tryz.func213, Tryz.ntmps213
    go_wp2_with (at_builtin; refine wpList_app_many Tryz.underlying29 infoInt rfl (by decide) (by decide) w _ _ 0 [] (some a) l.length cap (l.map iv) (by simp) (one_ints l) rfl _ _ rfl rfl (World.ownsRow_made w #[] 0 (Nat.le_refl _) (by simp [maxLen]) rfl) rfl (HI.out.keep (fnew (frefl _) _)) (by omega) hn (fnew (frefl _) _) ?_; intro v' w3 hown3 hf3 _)
    have HO := Lib.hid hown3
    have HF := Lib.hid hf3
    clear hown3 hf3
    go_wp2
    go_ret
    have := HO.out
    rw [Nat.zero_add, List.nil_append] at this
    obtain ⟨q', c', hv, h1, h2, h3⟩ := owns_cap this
    exact ⟨q', c', by rw [hv]; (first | done | rfl), h1, h2, h3, HF.out⟩
/-- One more element at the end of a row of the call's own, however many there are. -/
theorem wpList_app_w {T E : TypeId} {z : Value} {size bytes : Nat} (hu : Tryz.prog.underlying T = some (.slice E)) (hinfo : (Tryz.prog.info? E).map (fun i => (i.zero, i.size, i.bytes)) = some (some z, size, bytes))
    (hzs : z.cells.size = size) (hsz : 0 < size) (hby : bytes ≤ 128) {ops : Array Oper} {rest : List Oper} {o : Oper} {a : Act} {Q : Exit → Act → World → Prop} (w0 w1 : World) (v : Value) (n : Nat) (xs news : List Value)
    (g0 : Nat) (hl : news.length = size) (hone : ∀ u ∈ news, u.oneCell' = true) (hgd : o.guard = none) (s t : Operand)
    (ho : o.op = .call { callee := .builtin .append, args := #[s, t], argTypes := #[T, T] }) (hs : a.eval s = v) (hown : w1.ownsRow w0.heap.size E size v n xs)
    (hx : a.eval t = .slice (some ⟨g0, 0, none⟩) 1 1) (hg0 : g0 = w1.heap.size) (hn : n ≤ 1099511627775) (hf : Fresh w0 w1)
    (h : ∀ v' w', w'.ownsRow w0.heap.size E size v' (n + 1) (xs ++ news) → Fresh w0 w' → (∀ g t cs, RowAt w1 g t cs → (t ≠ E ∨ v.ownBlock ≠ some g) → RowAt w' g t cs) → wpList Tryz.prog ops Q rest (a.put o.dst v') w') :
    wpList Tryz.prog ops Q (o :: rest) a (w1.alloc (.cells news.toArray E)) := by
  subst hg0
  obtain ⟨i0, hi, hz0, hz1, hz2⟩ := info_parts hinfo
  refine wpList_append_own _ hgd s t T ho w0.heap.size E i0 z size bytes hu hi hz0 hz1 hz2 hzs hsz v n xs hs (hown.alloc _) ⟨w1.heap.size, 0, none⟩ 1 1 news hx (by omega)
    (add_new w1 E news) hone (by unfold maxLen; omega) (Nat.le_trans (Nat.mul_le_mul (by omega : n + 1 ≤ 1099511627776) hby) (by omega)) (Nat.le_trans hf.size (by simp)) ?_
  intro v' w' hown' hgrow _
  refine h v' w' hown' (fgrown (fnew hf _) hgrow (own_block hown)) fun g t cs hr ht => ?_
  rcases ht with ht | ht
  · exact row_grown hown hgrow hr ht
  · have hba := hr.alloc (.cells news.toArray E)
    unfold RowAt
    rw [hgrow.block g hba.lt (fun he => ht he.symm)]
    exact hba
theorem infoRt : (Tryz.prog.info? 90).map (fun i => (i.zero, i.size, i.bytes)) = some (some (.agg #[iv 0, .slice none 0 0]), 2, 32) := by kernel_rfl
theorem one_rt (x : LR) : ∀ u ∈ lrC x, u.oneCell' = true := by
  intro u hu
  simp [lrC] at hu
  rcases hu with rfl | rfl <;> rfl
def DistR (l : List LR) : Prop := ∀ (i j : Nat) x y, i ≠ j → l[i]? = some x → l[j]? = some y → ∀ g o h o', x.q = some ⟨g, o, none⟩ → y.q = some ⟨h, o', none⟩ → g ≠ h
theorem DistR.nil : DistR [] := by intro i j x y _ hx; simp at hx
theorem DistR.snoc {l : List LR} (h : DistR l) {x : LR} (hx : ∀ y ∈ l, ∀ g o h o', x.q = some ⟨g, o, none⟩ → y.q = some ⟨h, o', none⟩ → g ≠ h) : DistR (l ++ [x]) := by
  have at' : ∀ (i : Nat) a, (l ++ [x])[i]? = some a → (i < l.length ∧ l[i]? = some a) ∨ (i = l.length ∧ a = x) := by
    intro i a ha
    rcases Nat.lt_or_ge i l.length with h1 | h1
    · rw [List.getElem?_append_left h1] at ha; exact Or.inl ⟨h1, ha⟩
    · rw [List.getElem?_append_right h1] at ha
      rcases Nat.eq_or_lt_of_le h1 with h2 | h2
      · rw [← h2] at ha; simp at ha; exact Or.inr ⟨h2.symm, ha.symm⟩
      · rw [List.getElem?_eq_none (by simp; omega)] at ha; cases ha
  intro i j a b hij ha hb g o h' o' e1 e2
  rcases at' i a ha with ⟨_, h1⟩ | ⟨hi, rfl⟩
  · rcases at' j b hb with ⟨_, h2⟩ | ⟨hj, rfl⟩
    · exact h i j a b hij h1 h2 g o h' o' e1 e2
    · exact (hx a (List.mem_of_getElem? h1) h' o' g o e2 e1).symm
  · rcases at' j b hb with ⟨_, h2⟩ | ⟨hj, rfl⟩
    · exact hx b (List.mem_of_getElem? h2) g o h' o' e1 e2
    · omega
/-- Routes in a row of the call's own. -/
structure Rts (w : World) (base : Nat) (V : Value) (l : List LR) : Prop where
  row : w.ownsRow base 90 2 V l.length (l.flatMap lrC)
  fib : ∀ x ∈ l, Own w base 3 x.q (x.fibs.map iv)
  dist : DistR l
  cap : ∀ x ∈ l, x.fibs.length ≤ x.cap ∧ x.cap ≤ 9223372036854775807
theorem Rts.keep {w w' : World} {base : Nat} {V : Value} {l : List LR} (h : Rts w base V l) (hb : Fresh w w') : Rts w' base V l := ⟨ownsRow_keep h.row hb, fun x hx => (h.fib x hx).keep hb, h.dist, h.cap⟩
theorem Rts.nil (w : World) (base : Nat) {V : Value} (h : w.ownsRow base 90 2 V 0 []) : Rts w base V [] := ⟨h, fun x hx => by simp at hx, DistR.nil, fun x hx => by simp at hx⟩
theorem Rts.blk {w : World} {base : Nat} {V : Value} {l : List LR} (h : Rts w base V l) : ∀ x ∈ l, ∀ g o, x.q = some ⟨g, o, none⟩ → g < w.heap.size := by
  intro x hx g o e
  rcases h.fib x hx with ⟨h0, _⟩ | ⟨b, sp, h1, h2, h3⟩
  · rw [h0] at e; cases e
  · rw [h1] at e; cases e; exact h3.lt
/-- What the search's variables hold. -/
structure ReSt (w0 w : World) (bt bo bf bn be : Nat) (qn pn : Option Addr) (cn cp : Nat) (n : Net) (s t : Int) (acc : List (Int × List Int)) : Prop where
  fr : Fresh w0 w
  ot : ∃ (V : Value) (l : List LR), RowAt w bo 137 [V] ∧ Rts w w0.heap.size V l ∧ l.map LR.val = acc
  tb : RowAt w bt 3 [.int .i64 t]
  fm : RowAt w bf 3 [.int .i64 s]
  ne : RowAt w bn 35 [.slice qn n.nodes.length cn, .slice pn n.fibers.length cp]
  ex : RowAt w be 227 [.func (.func 212) #[] #[.pointer (some ⟨bt, 0, none⟩), .pointer (some ⟨bo, 0, none⟩), .pointer (some ⟨bf, 0, none⟩), .pointer (some ⟨bn, 0, none⟩), .pointer (some ⟨be, 0, none⟩)]]
theorem ReSt.keep {w0 w w' : World} {bt bo bf bn be : Nat} {qn pn : Option Addr} {cn cp : Nat} {n : Net} {s t : Int} {acc : List (Int × List Int)} (st : ReSt w0 w bt bo bf bn be qn pn cn cp n s t acc) (hb : Fresh w w') : ReSt w0 w' bt bo bf bn be qn pn cn cp n s t acc := by
  obtain ⟨fr, ⟨V, l, ro, rs, hv⟩, a, b, c, d⟩ := st
  exact ⟨fstep fr hb, ⟨V, l, ro.keep hb, rs.keep hb, hv⟩, a.keep hb, b.keep hb, c.keep hb, d.keep hb⟩
/-- Rows of other types than routes stay, but for the variable. -/
def KpR (bo : Nat) (w w' : World) : Prop := ∀ g t cs, RowAt w g t cs → t ≠ 90 → g ≠ bo → RowAt w' g t cs
theorem KpR.refl (bo : Nat) (w : World) : KpR bo w w := fun _ _ _ h _ _ => h
theorem KpR.trans {bo : Nat} {a b c : World} (h : KpR bo a b) (k : KpR bo b c) : KpR bo a c := fun g t cs hr n1 n2 => k g t cs (h g t cs hr n1 n2) n1 n2
theorem KpR.fresh {bo : Nat} {a b : World} (h : Fresh a b) : KpR bo a b := fun _g _t _cs hr _ _ => hr.keep h
theorem KpR.own {bo : Nat} {a b : World} (h : KpR bo a b) {base : Nat} {q : Option Addr} {xs : List Value} (ho : Own a base 3 q xs) (hq : ∀ g o, q = some ⟨g, o, none⟩ → g ≠ bo) : Own b base 3 q xs := by
  rcases ho with ho | ⟨g, sp, h1, h2, h3⟩
  · exact Or.inl ho
  · exact Or.inr ⟨g, sp, h1, h2, h g _ _ h3 (by decide) (hq g 0 h1)⟩
/-- The nodes seen, as a number. -/
def MaskOf (m : Nat) (seen : List Int) : Prop := m < 256 ∧ ∀ x : Nat, x < 8 → (m / 2 ^ x % 2 = 1 ↔ (x : Int) ∈ seen)
theorem mask_bit (m x : Nat) : (m / 2 ^ x % 2 = 1) ↔ m.testBit x = true := by
  rw [Nat.testBit_eq_decide_div_mod_eq, decide_eq_true_eq]
theorem MaskOf.put {m x : Nat} {seen : List Int} (h : MaskOf m seen) (hx : x < 8) : MaskOf (m ||| 2 ^ x) (seen ++ [(x : Int)]) := by
  refine ⟨Nat.or_lt_two_pow (n := 8) h.1 (Nat.pow_lt_pow_right (by omega) hx), fun y hy => ?_⟩
  have h2 := h.2 y hy
  rw [mask_bit] at h2 ⊢
  rw [Nat.testBit_or, Nat.testBit_two_pow, Bool.or_eq_true, h2, List.mem_append, decide_eq_true_eq]
  simp
  constructor
  · rintro (h | h)
    · exact Or.inl h
    · exact Or.inr (by omega)
  · rintro (h | h)
    · exact Or.inl h
    · exact Or.inr (by omega)
theorem mask_one {x : Nat} (hx : x < 8) : MaskOf (2 ^ x) [(x : Int)] := by
  have := MaskOf.put (m := 0) (seen := []) ⟨by omega, fun y _ => by simp⟩ hx
  simpa using this
end Go.Proofs.YteckjlkhopkogaaGreat
