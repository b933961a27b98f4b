/- A list of ints as an argument: copies, comparisons, marks. -/
import Derived.Test.YtjaacinngfblkaaGreatAg4
import Derived.Test.YtjaacinngfblkaaGreatU1
namespace Go.Proofs.YtjaacinngfblkaaGreat
open Go.RowKit Go.PlainAid

def ISRaw (w : World) (v : Value) (l : List Int) : Prop := ∃ p cap, v = .slice p l.length cap ∧ Ints w p l ∧ l.length ≤ 9223372036854775807
def ISm (w : World) (v : Value) (l : List Int) : Prop := ∃ p cap, v = .slice p l.length cap ∧ Ints w p l ∧ l.length ≤ 1048576
theorem ISRaw.keep {w w' : World} {v : Value} {l : List Int} (h : ISRaw w v l) (hb : Fresh w w') : ISRaw w' v l := by
  obtain ⟨p, c, rfl, h1, h2⟩ := h
  exact ⟨p, c, rfl, h1.keep hb, h2⟩
theorem ISm.keep {w w' : World} {v : Value} {l : List Int} (h : ISm w v l) (hb : Fresh w w') : ISm w' v l := by
  obtain ⟨p, c, rfl, h1, h2⟩ := h
  exact ⟨p, c, rfl, h1.keep hb, h2⟩
def IsMine (w : World) (lo hi : Nat) (v : Value) : Prop := ∃ p n cap, v = .slice p n cap ∧ OwnIn w lo hi 3 p n ∧ n ≤ 1048576
theorem IsMine.keep {w w' : World} {lo hi : Nat} {v : Value} (h : IsMine w lo hi v) (hb : Fresh w w') : IsMine w' lo hi v := by
  obtain ⟨p, n, c, rfl, h1, h2⟩ := h
  exact ⟨p, n, c, rfl, h1.keep hb, h2⟩
theorem IsMine.mk {T : TypeId → Prop} {lo' hi' : Nat} {w w' : World} {lo hi : Nat} {v : Value} (_ : True) (h : IsMine w lo hi v) (hb : Mk T lo' hi' w w') : IsMine w' lo hi v := by
  obtain ⟨p, n, c, rfl, h1, h2⟩ := h
  exact ⟨p, n, c, rfl, h1.mk hb, h2⟩
theorem toIs_o (v : Value) (l : List Int) (w : World) (h : ISm w v l) : Calls Tryz.prog 16 #[v] w fun e w' => ∃ v', e = .returned v' ∧ IsIn w' v' l ∧ IsMine w' w.heap.size w'.heap.size v' ∧ Fresh w w' := by
  obtain ⟨p, c, rfl, h1, h2⟩ := h
  refine (toIntS_any p c l w h1 h2).mono ?_
  rintro e w' ⟨rfl, hr, hf⟩
  have ho := hr.ownIn (lo := w.heap.size) (Nat.le_refl _)
  rw [List.length_map] at ho
  exact ⟨_, rfl, ⟨_, _, rfl, hr.cells, h2, Nat.le_refl _, by omega⟩, ⟨_, _, _, rfl, ho, h2⟩, hf⟩
theorem toIs_k (v : Value) (l : List Int) (w : World) (h : ISm w v l) : Calls Tryz.prog 16 #[v] w fun e w' => ∃ v', e = .returned v' ∧ IsIn w' v' l ∧ Fresh w w' :=
  (toIs_o v l w h).mono fun e w' ⟨v', h1, h2, _, h4⟩ => ⟨v', h1, h2, h4⟩
theorem eqIs_k (v v' : Value) (l : List Int) (w : World) (h : IsIn w v l) (h' : IsIn w v' l) : Calls Tryz.prog 21 #[v, v'] w fun e w' => e = .returned (.bool true) ∧ Fresh w w' := by
  obtain ⟨p, c, rfl, h1, h2, _⟩ := h
  obtain ⟨q, d, rfl, h3, _⟩ := h'
  exact eqIntS_r p q c d l w h1 h3 h2
theorem markIs_m (v : Value) (lo hi : Nat) (k0 : Int) (w : World) (h : IsMine w lo hi v) (h0 : 0 ≤ k0) (h1 : k0 ≤ 562949953421312) : Calls Tryz.prog 24 #[v, .int .i64 k0] w (MkOut w (fun t => t = 3) lo hi k0) := by
  obtain ⟨p, n, c, rfl, h2, h3⟩ := h
  refine (markIntS_m p c n lo hi k0 w h2 (by omega) h0 (by omega)).mono ?_
  rintro e w' ⟨rfl, hm⟩
  exact ⟨_, rfl, by omega, by unfold Kb; omega, hm⟩
end Go.Proofs.YtjaacinngfblkaaGreat
