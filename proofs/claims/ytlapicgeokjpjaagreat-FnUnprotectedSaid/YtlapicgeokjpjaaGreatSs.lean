/- Contracts: a result that is a list of lists of ints, compared, marked, asked again. -/
import Derived.Test.YtlapicgeokjpjaaGreatM2
import Derived.Test.YtlapicgeokjpjaaGreatU1
namespace Go.Proofs.YtlapicgeokjpjaaGreat
open Go.RowKit Go.PlainAid

theorem Own.other {w w' : World} {base g : Nat} {t : TypeId} {T : TypeId → Prop} {p : Option Addr} {cs : List Value} (h : Own w base t p cs) (hb : Mk T g (g + 1) w w') (hd : ∀ h o, p = some ⟨h, o, none⟩ → h ≠ g) : Own w' base t p cs := by
  rcases h with h | ⟨b, sp, hp, hg, hr⟩
  · exact Or.inl h
  · refine Or.inr ⟨b, sp, hp, hg, ?_⟩
    have hne := hd b 0 hp
    have : w'.heap[b]? = w.heap[b]? := by
      rcases Nat.lt_or_ge b g with h' | h'
      · exact hb.low.block b h'
      · exact hb.up b (by omega) hr.lt
    unfold RowAt; rw [this]; exact hr
theorem Own.typ {w w' : World} {base g hi : Nat} {t : TypeId} {T : TypeId → Prop} {p : Option Addr} {cs : List Value} (h : Own w base t p cs) (hb : Mk T g hi w w') (hd : ¬ T t) : Own w' base t p cs := by
  rcases h with h | ⟨b, sp, hp, hg, hr⟩
  · exact Or.inl h
  · exact Or.inr ⟨b, sp, hp, hg, hb.row _ _ _ hr hd⟩
def Dist (l : List LI) : Prop := ∀ (i j : Nat) x y, i ≠ j → l[i]? = some x → l[j]? = some y → ∀ g o h o', x.q = some ⟨g, o, none⟩ → y.q = some ⟨h, o', none⟩ → g ≠ h
theorem Dist.snoc {l : List LI} (h : Dist l) {x : LI} (hx : ∀ y ∈ l, ∀ g o h o', x.q = some ⟨g, o, none⟩ → y.q = some ⟨h, o', none⟩ → g ≠ h) : Dist (l ++ [x]) := by
  intro i j a b hij ha hb g o h' o' e1 e2
  rw [List.getElem?_append] at ha hb
  split at ha
  · split at hb
    · exact h i j a b hij ha hb g o h' o' e1 e2
    · have hb' : b = x := by
        rcases Nat.eq_zero_or_pos (j - l.length) with h0 | h0
        · rw [h0] at hb; simp at hb; exact hb.symm
        · rw [List.getElem?_eq_none (by simp; omega)] at hb; cases hb
      subst hb'
      exact (hx a (List.mem_of_getElem? ha) h' o' g o e2 e1).symm
  · split at hb
    · have ha' : a = x := by
        rcases Nat.eq_zero_or_pos (i - l.length) with h0 | h0
        · rw [h0] at ha; simp at ha; exact ha.symm
        · rw [List.getElem?_eq_none (by simp; omega)] at ha; cases ha
      subst ha'
      exact hx b (List.mem_of_getElem? hb) g o h' o' e1 e2
    · exfalso
      rcases Nat.eq_zero_or_pos (i - l.length) with h0 | h0
      · rcases Nat.eq_zero_or_pos (j - l.length) with h1 | h1
        · omega
        · rw [List.getElem?_eq_none (by simp; omega)] at hb; cases hb
      · rw [List.getElem?_eq_none (by simp; omega)] at ha; cases ha
def OwnSS (w : World) (base : Nat) (v : Value) (R : List (List Int)) : Prop := ∃ p c, ∃ l : List LI, v = .slice p l.length c ∧ l.map LI.xs = R ∧ Own w base 37 p (l.map liV) ∧ OwnS w base l ∧ Dist l
def HeldSS (w : World) (lo hi : Nat) (v : Value) (R : List (List Int)) : Prop := ∃ p c, ∃ l : List LI, v = .slice p l.length c ∧ l.map LI.xs = R ∧ Held w lo hi 37 p (l.map liV) ∧ (∀ x ∈ l, Held w lo hi 3 x.q (x.xs.map iv)) ∧ Dist l
theorem OwnSS.held {w : World} {lo : Nat} {v : Value} {R : List (List Int)} (h : OwnSS w lo v R) : HeldSS w lo w.heap.size v R := by
  obtain ⟨p, c, l, h1, h2, h3, h4, h5⟩ := h
  exact ⟨p, c, l, h1, h2, h3.held, fun x hx => (h4 x hx).held, h5⟩
theorem HeldSS.own {w : World} {lo hi : Nat} {v : Value} {R : List (List Int)} (h : HeldSS w lo hi v R) : OwnSS w lo v R := by
  obtain ⟨p, c, l, h1, h2, h3, h4, h5⟩ := h
  exact ⟨p, c, l, h1, h2, h3.1, fun x hx => (h4 x hx).1, h5⟩
theorem HeldSS.keep {w w' : World} {lo hi : Nat} {v : Value} {R : List (List Int)} (h : HeldSS w lo hi v R) (hb : Fresh w w') : HeldSS w' lo hi v R := by
  obtain ⟨p, c, l, h1, h2, h3, h4, h5⟩ := h
  exact ⟨p, c, l, h1, h2, h3.keep hb, fun x hx => (h4 x hx).keep hb, h5⟩
theorem HeldSS.wide {w : World} {lo hi lo' hi' : Nat} {v : Value} {R : List (List Int)} (h : HeldSS w lo hi v R) (hl : lo' ≤ lo) (hh : hi ≤ hi') : HeldSS w lo' hi' v R := by
  obtain ⟨p, c, l, h1, h2, h3, h4, h5⟩ := h
  exact ⟨p, c, l, h1, h2, h3.wide hl hh, fun x hx => (h4 x hx).wide hl hh, h5⟩
theorem HeldSS.mk {T : TypeId → Prop} {lo hi lo' hi' : Nat} {w w' : World} {v : Value} {R : List (List Int)} (h : HeldSS w lo hi v R) (hb : Mk T lo' hi' w w') (hd : hi ≤ lo' ∨ hi' ≤ lo) : HeldSS w' lo hi v R := by
  obtain ⟨p, c, l, h1, h2, h3, h4, h5⟩ := h
  exact ⟨p, c, l, h1, h2, h3.mk hb hd, fun x hx => (h4 x hx).mk hb hd, h5⟩
theorem HeldSS.below {lo hi base : Nat} {w w' : World} {v : Value} {R : List (List Int)} (h : HeldSS w lo hi v R) (hb : Below base w w') (hd : hi ≤ base) : HeldSS w' lo hi v R := by
  obtain ⟨p, c, l, h1, h2, h3, h4, h5⟩ := h
  exact ⟨p, c, l, h1, h2, h3.below hb hd, fun x hx => (h4 x hx).below hb hd, h5⟩
def SmSS (R : List (List Int)) : Prop := R.length ≤ 1024 ∧ ∀ r ∈ R, r.length ≤ 1024
/-- How many ints stand in the first lists. -/
def totN (R : List (List Int)) : Nat → Nat
  | 0 => 0
  | k + 1 => match R[k]? with | some r => totN R k + r.length | none => totN R k
theorem totN_step {R : List (List Int)} {k : Nat} {r : List Int} (h : R[k]? = some r) : totN R (k + 1) = totN R k + r.length := by
  show (match R[k]? with | some r => totN R k + r.length | none => totN R k) = _
  rw [h]
theorem totN_le {R : List (List Int)} (h : SmSS R) (k : Nat) : totN R k ≤ 1024 * k := by
  induction k with
  | zero => exact Nat.le_refl _
  | succ k ih =>
    cases hk : R[k]? with
    | none =>
      have e : totN R (k + 1) = totN R k := by
        show (match R[k]? with | some r => totN R k + r.length | none => totN R k) = _
        rw [hk]
      rw [e]; omega
    | some r =>
      have := h.2 r (List.mem_of_getElem? hk)
      rw [totN_step hk]; omega
def MkdSS (w : World) (base : Nat) (k0 : Int) (v : Value) (R : List (List Int)) : Prop := ∃ p c, ∃ l : List LI, v = .slice p l.length c ∧ l.map LI.xs = R ∧ Own w base 37 p (l.map liV) ∧ ∀ (i : Nat) x, l[i]? = some x → Own w base 3 x.q ((marks (k0 + totN R i) x.xs.length).map iv)
theorem MkdSS.keep {w w' : World} {base : Nat} {k0 : Int} {v : Value} {R : List (List Int)} (h : MkdSS w base k0 v R) (hb : Fresh w w') : MkdSS w' base k0 v R := by
  obtain ⟨p, c, l, h1, h2, h3, h4⟩ := h
  exact ⟨p, c, l, h1, h2, h3.keep hb, fun i x hx => (h4 i x hx).keep hb⟩
theorem li_at {l : List LI} {R : List (List Int)} (h : l.map LI.xs = R) {k : Nat} {x : LI} (hx : l[k]? = some x) : R[k]? = some x.xs := by rw [← h]; simp [hx]
theorem Own.row_at {w : World} {base : Nat} {p : Option Addr} {l : List LI} (h : Own w base 37 p (l.map liV)) {k : Nat} (hk : k < l.length) :
    ∃ b x, p = some ⟨b, 0, none⟩ ∧ l[k]? = some x ∧ x ∈ l ∧ w.cell? ⟨b, k, none⟩ = some (.slice x.q x.xs.length x.cap) := by
  have hx : l[k]? = some l[k] := List.getElem?_eq_getElem hk
  rcases h with ⟨_, h⟩ | ⟨g, sp, rfl, _, hr⟩
  · exfalso
    have := congrArg List.length h
    simp at this; rw [this] at hk; simp at hk
  · refine ⟨g, l[k], rfl, hx, List.getElem_mem hk, hr.cell ?_⟩
    rw [List.getElem?_append_left (by simpa using hk), List.getElem?_map, hx]; rfl
end Go.Proofs.YtlapicgeokjpjaaGreat
