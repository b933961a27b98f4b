/- Plain: where no fiber alone separates two nodes, two ways have no fiber in common (no program in sight). -/
import Derived.Test.YtlapicgeokjpjaaY6
namespace Go.Proofs.Ytlapicgeokjpjaa
open Go.RowKit

/-- Fiber i leads from u to v. -/
def Ej (F : List Fib) (i u v : Int) : Prop := ∃ f, 0 ≤ i ∧ F[i.toNat]? = some f ∧ (f.a = u ∧ f.b = v ∨ f.a = v ∧ f.b = u)
theorem Ej.symm {F : List Fib} {i u v : Int} (h : Ej F i u v) : Ej F i v u := by
  obtain ⟨f, h1, h2, h3⟩ := h
  exact ⟨f, h1, h2, h3.symm⟩
theorem Ej.ends {F : List Fib} {i u v x y : Int} (h : Ej F i u v) (k : Ej F i x y) : x = u ∧ y = v ∨ x = v ∧ y = u := by
  obtain ⟨f, h1, h2, h3⟩ := h
  obtain ⟨g, k1, k2, k3⟩ := k
  rw [h2] at k2
  cases k2
  omega
/-- A way along fibers. -/
def Wk (F : List Fib) : List Int → Int → Int → Prop
  | [], u, w => u = w
  | i :: l, u, w => ∃ v, Ej F i u v ∧ Wk F l v w
theorem Wk.app {F : List Fib} : ∀ {l m : List Int} {u v w : Int}, Wk F l u v → Wk F m v w → Wk F (l ++ m) u w
  | [], _, _, _, _, h, k => by cases h; exact k
  | _ :: _, _, _, _, _, ⟨x, h1, h2⟩, k => ⟨x, h1, Wk.app h2 k⟩
theorem Wk.one {F : List Fib} {i u v : Int} (h : Ej F i u v) : Wk F [i] u v := ⟨v, h, rfl⟩
theorem Wk.rev {F : List Fib} : ∀ {l : List Int} {u w : Int}, Wk F l u w → Wk F l.reverse w u
  | [], _, _, h => h.symm
  | _ :: _, _, _, ⟨_, h1, h2⟩ => by rw [List.reverse_cons]; exact Wk.app (Wk.rev h2) (Wk.one h1.symm)
theorem Wk.near {F : List Fib} : ∀ {l : List Int} {a w i x y : Int}, Wk F l a w → i ∈ l → Ej F i x y → ∃ p, p ⊆ l ∧ Wk F p a x
  | [], _, _, _, _, _, _, h, _ => by simp at h
  | j :: l, a, w, i, x, y, ⟨v, h1, h2⟩, hi, he => by
    rcases List.mem_cons.1 hi with e | hi
    · subst e
      rcases h1.ends he with ⟨e1, _⟩ | ⟨e1, _⟩
      · exact ⟨[], by simp, e1.symm⟩
      · exact ⟨[i], by simp, v, h1, e1.symm⟩
    · obtain ⟨p, p1, p2⟩ := Wk.near h2 hi he
      exact ⟨j :: p, List.cons_subset_cons _ p1, v, h1, p2⟩
theorem Wk.first {F : List Fib} : ∀ {l : List Int} {a w i x y : Int}, Wk F l a w → i ∈ l → Ej F i x y → ∃ p, p ⊆ l ∧ i ∉ p ∧ (Wk F p a x ∨ Wk F p a y)
  | [], _, _, _, _, _, _, h, _ => by simp at h
  | j :: l, a, w, i, x, y, ⟨v, h1, h2⟩, hi, he => by
    by_cases e : i = j
    · subst e
      rcases h1.ends he with ⟨e1, _⟩ | ⟨_, e1⟩
      · exact ⟨[], by simp, by simp, Or.inl e1.symm⟩
      · exact ⟨[], by simp, by simp, Or.inr e1.symm⟩
    · have hi2 : i ∈ l := by rcases List.mem_cons.1 hi with h | h; exact absurd h e; exact h
      obtain ⟨p, p1, p2, p3⟩ := Wk.first h2 hi2 he
      refine ⟨j :: p, List.cons_subset_cons _ p1, by simp [e, p2], ?_⟩
      rcases p3 with p3 | p3
      · exact Or.inl ⟨v, h1, p3⟩
      · exact Or.inr ⟨v, h1, p3⟩
/-- The last part of a way that meets no fiber of a set. -/
theorem last_off {F : List Fib} {V S : Int → Prop} (hV : ∀ i x y, S i → Ej F i x y → V x) : ∀ {R : List Int} {u w : Int}, Wk F R u w →
    (∀ i ∈ R, ¬ S i) ∨ ∃ x Q, V x ∧ Wk F Q x w ∧ Q ⊆ R ∧ ∀ i ∈ Q, ¬ S i
  | [], _, _, _ => Or.inl (by simp)
  | f :: R, u, w, ⟨v, h1, h2⟩ => by
    rcases last_off hV h2 with h | ⟨x, Q, a1, a2, a3, a4⟩
    · by_cases hs : S f
      · exact Or.inr ⟨v, R, hV f v u hs h1.symm, h2, List.subset_cons_self _ _, h⟩
      · left
        intro i hi
        rcases List.mem_cons.1 hi with e | hi
        · rw [e]; exact hs
        · exact h i hi
    · exact Or.inr ⟨x, Q, a1, a2, List.subset_cons_of_subset _ a3, a4⟩
/-- Two ways without a common fiber. -/
def Two (F : List Fib) (a v : Int) : Prop := ∃ l m, Wk F l a v ∧ Wk F m a v ∧ ∀ i ∈ l, i ∉ m
theorem Two.flip {F : List Fib} {a v : Int} {l m : List Int} (h1 : Wk F l a v) (h2 : Wk F m a v) (hd : ∀ i ∈ l, i ∉ m) : ∃ l2 m2, Wk F l2 a v ∧ Wk F m2 a v ∧ (∀ i ∈ l2, i ∉ m2) ∧ l2 = m ∧ m2 = l :=
  ⟨m, l, h2, h1, fun i hi hj => hd i hj hi, rfl, rfl⟩
theorem two_core {F : List Fib} {a v w e : Int} {l m R : List Int} (h1 : Wk F l a v) (h2 : Wk F m a v) (hd : ∀ i ∈ l, i ∉ m) (he : Ej F e v w) (hR : Wk F R a w) (hn : e ∉ R) (n1 : e ∉ l) (n2 : e ∉ m) : Two F a w := by
  have key : ∃ x Q, ((∃ p, p ⊆ l ∧ Wk F p a x) ∨ ∃ p, p ⊆ m ∧ Wk F p a x) ∧ Wk F Q x w ∧ Q ⊆ R ∧ ∀ i ∈ Q, ¬ (i ∈ l ∨ i ∈ m) := by
    rcases last_off (V := fun x => (∃ p, p ⊆ l ∧ Wk F p a x) ∨ ∃ p, p ⊆ m ∧ Wk F p a x) (S := fun i => i ∈ l ∨ i ∈ m) (fun i x y hs hj => by
      rcases hs with hs | hs
      · exact Or.inl (Wk.near h1 hs hj)
      · exact Or.inr (Wk.near h2 hs hj)) hR with h | h
    · exact ⟨a, R, Or.inl ⟨[], by simp, rfl⟩, hR, fun _ h => h, h⟩
    · exact h
  obtain ⟨x, Q, hx, q1, q2, q3⟩ := key
  rcases hx with ⟨p, p1, p2⟩ | ⟨p, p1, p2⟩
  · refine ⟨p ++ Q, m ++ [e], p2.app q1, h2.app (Wk.one he), fun i hi hj => ?_⟩
    rcases List.mem_append.1 hi with hi | hi <;> rcases List.mem_append.1 hj with hj | hj
    · exact hd i (p1 hi) hj
    · simp at hj; subst hj; exact n1 (p1 hi)
    · exact q3 i hi (Or.inr hj)
    · simp at hj; subst hj; exact hn (q2 hi)
  · refine ⟨p ++ Q, l ++ [e], p2.app q1, h1.app (Wk.one he), fun i hi hj => ?_⟩
    rcases List.mem_append.1 hi with hi | hi <;> rcases List.mem_append.1 hj with hj | hj
    · exact hd i hj (p1 hi)
    · simp at hj; subst hj; exact n2 (p1 hi)
    · exact q3 i hi (Or.inl hj)
    · simp at hj; subst hj; exact hn (q2 hi)
theorem two_half {F : List Fib} {a v w e : Int} {l m R : List Int} (h1 : Wk F l a v) (h2 : Wk F m a v) (hd : ∀ i ∈ l, i ∉ m) (he : Ej F e v w) (hR : Wk F R a w) (hn : e ∉ R) (n2 : e ∉ m) : Two F a w := by
  by_cases n1 : e ∈ l
  · obtain ⟨p, p1, p2, p3⟩ := Wk.first h1 n1 he
    rcases p3 with p3 | p3
    · exact two_core p3 h2 (fun i hi => hd i (p1 hi)) he hR hn p2 n2
    · refine ⟨p, m ++ [e], p3, h2.app (Wk.one he), fun i hi hj => ?_⟩
      rcases List.mem_append.1 hj with hj | hj
      · exact hd i (p1 hi) hj
      · simp at hj; subst hj; exact p2 hi
  · exact two_core h1 h2 hd he hR hn n1 n2
theorem two_step {F : List Fib} {a v w e : Int} {R : List Int} (h : Two F a v) (he : Ej F e v w) (hR : Wk F R a w) (hn : e ∉ R) : Two F a w := by
  obtain ⟨l, m, h1, h2, hd⟩ := h
  by_cases n2 : e ∈ m
  · exact two_half h2 h1 (fun i hi hj => hd i hj hi) he hR hn (fun hl => hd e hl n2)
  · exact two_half h1 h2 hd he hR hn n2

/-- A way that meets no node twice. -/
def Sp (F : List Fib) : List Int → Int → Int → List Int → Prop
  | [], u, w, vs => u = w ∧ vs = [u]
  | i :: l, u, w, vs => ∃ v us, Ej F i u v ∧ Sp F l v w us ∧ u ∉ us ∧ vs = u :: us
theorem Sp.wk {F : List Fib} : ∀ {l : List Int} {u w : Int} {vs : List Int}, Sp F l u w vs → Wk F l u w
  | [], _, _, _, h => h.1
  | _ :: _, _, _, _, ⟨v, _, h1, h2, _, _⟩ => ⟨v, h1, Sp.wk h2⟩
theorem Sp.mem {F : List Fib} : ∀ {l : List Int} {u w : Int} {vs : List Int} {i x y : Int}, Sp F l u w vs → i ∈ l → Ej F i x y → x ∈ vs
  | [], _, _, _, _, _, _, _, h, _ => by simp at h
  | j :: l, u, w, vs, i, x, y, ⟨v, us, h1, h2, h3, h4⟩, hi, he => by
    subst h4
    rcases List.mem_cons.1 hi with e | hi
    · subst e
      rcases h1.ends he with ⟨e1, _⟩ | ⟨e1, _⟩
      · rw [e1]; exact List.mem_cons_self ..
      · rw [e1]
        refine List.mem_cons_of_mem _ ?_
        cases l with
        | nil => rw [h2.2]; simp
        | cons k l => obtain ⟨_, _, _, _, _, h⟩ := h2; rw [h]; simp
    · exact List.mem_cons_of_mem _ (Sp.mem h2 hi he)
theorem Sp.cut {F : List Fib} : ∀ {l : List Int} {v w u : Int} {vs : List Int}, Sp F l v w vs → u ∈ vs → ∃ m us, Sp F m u w us ∧ m ⊆ l
  | [], v, w, u, vs, h, hu => by
    obtain ⟨h1, h2⟩ := h
    subst h2; simp at hu; subst hu
    exact ⟨[], [u], ⟨h1, rfl⟩, by simp⟩
  | i :: l, v, w, u, vs, h, hu => by
    obtain ⟨x, us, h1, h2, h3, h4⟩ := h
    subst h4
    by_cases e : u = v
    · subst e; exact ⟨i :: l, u :: us, ⟨x, us, h1, h2, h3, rfl⟩, fun _ h => h⟩
    · have : u ∈ us := by rcases List.mem_cons.1 hu with h | h; exact absurd h e; exact h
      obtain ⟨m, us2, k1, k2⟩ := Sp.cut h2 this
      exact ⟨m, us2, k1, List.subset_cons_of_subset _ k2⟩
theorem wk_sp {F : List Fib} : ∀ {l : List Int} {u w : Int}, Wk F l u w → ∃ m vs, Sp F m u w vs ∧ m ⊆ l
  | [], u, w, h => ⟨[], [u], ⟨h, rfl⟩, by simp⟩
  | i :: l, u, w, ⟨v, h1, h2⟩ => by
    obtain ⟨m, vs, k1, k2⟩ := wk_sp h2
    by_cases hu : u ∈ vs
    · obtain ⟨m2, us, k3, k4⟩ := Sp.cut k1 hu
      exact ⟨m2, us, k3, List.subset_cons_of_subset _ fun x hx => k2 (k4 hx)⟩
    · exact ⟨i :: m, u :: vs, ⟨v, vs, h1, k1, hu, rfl⟩, List.cons_subset_cons _ k2⟩
theorem two_along {F : List Fib} {a b : Int} (hall : ∀ e, ∃ R, Wk F R a b ∧ e ∉ R) : ∀ {P : List Int} {v : Int} {vs : List Int}, Sp F P v b vs → Two F a v → Two F a b
  | [], v, vs, h, k => by obtain ⟨h1, _⟩ := h; subst h1; exact k
  | e :: P, v, vs, h, k => by
    obtain ⟨w, us, h1, h2, h3, h4⟩ := h
    have hne : e ∉ P := fun hp => h3 (Sp.mem h2 hp h1)
    obtain ⟨R, r1, r2⟩ := hall e
    refine two_along hall h2 (two_step k h1 (r1.app h2.wk.rev) fun hh => ?_)
    rcases List.mem_append.1 hh with hh | hh
    · exact r2 hh
    · exact hne (List.mem_reverse.1 hh)
/-- Where every fiber can be gone round, there are two ways without a common fiber. -/
theorem two_all {F : List Fib} {a b : Int} (hall : ∀ e, ∃ R, Wk F R a b ∧ e ∉ R) : Two F a b := by
  obtain ⟨R, r1, _⟩ := hall 0
  obtain ⟨P, vs, p1, _⟩ := wk_sp r1
  exact two_along hall p1 ⟨[], [], rfl, rfl, by simp⟩
/-- Two nodes are connected without some fibers. -/
def Con (F : List Fib) (gone : List Int) (a b : Int) : Prop := ∃ l, Wk F l a b ∧ ∀ i ∈ l, i ∉ gone
theorem two_iff {F : List Fib} {a b : Int} : Two F a b ↔ ∀ e, Con F [e] a b := by
  constructor
  · rintro ⟨l, m, h1, h2, hd⟩ e
    by_cases he : e ∈ l
    · exact ⟨m, h2, fun i hi hj => by simp at hj; subst hj; exact hd i he hi⟩
    · exact ⟨l, h1, fun i hi hj => by simp at hj; subst hj; exact he hi⟩
  · intro h
    refine two_all fun e => ?_
    obtain ⟨R, r1, r2⟩ := h e
    exact ⟨R, r1, fun he => r2 e he (by simp)⟩
end Go.Proofs.Ytlapicgeokjpjaa
