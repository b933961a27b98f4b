/- Contracts: a result that is a list of routes with a list of numbers beside it: compared, marked, asked again. -/
import Derived.Test.YtlcppdbpajdnlaaGreatUs3
import Derived.Test.YtlcppdbpajdnlaaGreatKr
import Derived.Test.YtlcppdbpajdnlaaGreatKFm
import Derived.Test.YtlcppdbpajdnlaaGreatV4
namespace Go.Proofs.YtlcppdbpajdnlaaGreat
open Go.RowKit Go.PlainAid

def rvN (R : List ChV) : Nat → Nat
  | 0 => 0
  | k + 1 => match R[k]? with | some c => rvN R k + (1 + c.1.2.length) | none => rvN R k
theorem rvN_is (l : List CH) : ∀ k, rsN (l.map CH.r) k = rvN (l.map CH.val) k
  | 0 => rfl
  | k + 1 => by
    have ih := rvN_is l k
    show (match (l.map CH.r)[k]? with | some x => rsN (l.map CH.r) k + (1 + x.fibs.length) | none => rsN (l.map CH.r) k) = (match (l.map CH.val)[k]? with | some c => rvN (l.map CH.val) k + (1 + c.1.2.length) | none => rvN (l.map CH.val) k)
    rw [List.getElem?_map, List.getElem?_map, ih]
    cases l[k]? <;> rfl
def UsSm (R : List ChV) : Prop := R.length ≤ 1024 ∧ ∀ c ∈ R, c.1.2.length ≤ 1048576
theorem UsSm.rs {l : List CH} (h : UsSm (l.map CH.val)) : RsSm (l.map CH.r) := by
  refine ⟨by have := h.1; simpa using this, fun x hx => ?_⟩
  obtain ⟨c, hc, rfl⟩ := List.mem_map.1 hx
  exact h.2 c.val (List.mem_map_of_mem (f := CH.val) hc)
theorem UsSm.n_le {R : List ChV} (h : UsSm R) : ∀ k, rvN R k ≤ 1048577 * k
  | 0 => Nat.le_refl _
  | k + 1 => by
    have ih := h.n_le k
    show (match R[k]? with | some c => rvN R k + (1 + c.1.2.length) | none => rvN R k) ≤ _
    cases e : R[k]? with
    | none => show rvN R k ≤ _; omega
    | some c => have := h.2 c (List.mem_of_getElem? e); show rvN R k + (1 + c.1.2.length) ≤ _; omega
def usN (R : List ChV) : Nat := rvN R R.length
theorem UsSm.n {R : List ChV} (h : UsSm R) : usN R ≤ 1073742848 := by
  have h1 := h.n_le R.length
  have h2 := h.1
  unfold usN
  have : 1048577 * R.length ≤ 1048577 * 1024 := Nat.mul_le_mul_left _ h2
  omega
def RowApart (l : List CH) (pk : Option Addr) : Prop := ∀ x ∈ l, ∀ g o h o', x.r.q = some ⟨g, o, none⟩ → pk = some ⟨h, o', none⟩ → g ≠ h
def UsHeld (w : World) (lo hi : Nat) (v u : Value) (R : List ChV) : Prop := ∃ p c pk ck, ∃ l : List CH, v = .slice p l.length c ∧ u = .slice pk l.length ck ∧ Held w lo hi 53 p ((l.map CH.r).flatMap lrC) ∧ (∀ x ∈ l, Held w lo hi 3 x.r.q (x.r.fibs.map iv)) ∧ Held w lo hi 3 pk (l.map fun x => iv x.k) ∧ l.map CH.val = R
def UsApart (v u : Value) : Prop := ∃ p c pk ck, ∃ l : List CH, v = .slice p l.length c ∧ u = .slice pk l.length ck ∧ DistR (l.map CH.r) ∧ RowApart l pk
/-- The result of the program's own: held, and its rows apart. -/
def UsOwn (w : World) (lo hi : Nat) (v u : Value) (R : List ChV) : Prop := ∃ p c pk ck, ∃ l : List CH, v = .slice p l.length c ∧ u = .slice pk l.length ck ∧ Held w lo hi 53 p ((l.map CH.r).flatMap lrC) ∧ (∀ x ∈ l, Held w lo hi 3 x.r.q (x.r.fibs.map iv)) ∧ Held w lo hi 3 pk (l.map fun x => iv x.k) ∧ DistR (l.map CH.r) ∧ RowApart l pk ∧ l.map CH.val = R
theorem UsOwn.held {w : World} {lo hi : Nat} {v u : Value} {R : List ChV} (h : UsOwn w lo hi v u R) : UsHeld w lo hi v u R := by
  obtain ⟨p, c, pk, ck, l, h1, h2, h3, h4, h5, _, _, h8⟩ := h
  exact ⟨p, c, pk, ck, l, h1, h2, h3, h4, h5, h8⟩
theorem UsHeld.keep {w w' : World} {lo hi : Nat} {v u : Value} {R : List ChV} (h : UsHeld w lo hi v u R) (hb : Fresh w w') : UsHeld w' lo hi v u R := by
  obtain ⟨p, c, pk, ck, l, h1, h2, h3, h4, h5, h8⟩ := h
  exact ⟨p, c, pk, ck, l, h1, h2, h3.keep hb, fun x hx => (h4 x hx).keep hb, h5.keep hb, h8⟩
theorem UsHeld.wide {w : World} {lo hi lo' hi' : Nat} {v u : Value} {R : List ChV} (h : UsHeld w lo hi v u R) (hl : lo' ≤ lo) (hh : hi ≤ hi') : UsHeld w lo' hi' v u R := by
  obtain ⟨p, c, pk, ck, l, h1, h2, h3, h4, h5, h8⟩ := h
  exact ⟨p, c, pk, ck, l, h1, h2, h3.wide hl hh, fun x hx => (h4 x hx).wide hl hh, h5.wide hl hh, h8⟩
theorem UsHeld.mk {T : TypeId → Prop} {lo hi lo' hi' : Nat} {w w' : World} {v u : Value} {R : List ChV} (h : UsHeld w lo hi v u R) (hb : Mk T lo' hi' w w') (hd : hi ≤ lo' ∨ hi' ≤ lo) : UsHeld w' lo hi v u R := by
  obtain ⟨p, c, pk, ck, l, h1, h2, h3, h4, h5, h8⟩ := h
  exact ⟨p, c, pk, ck, l, h1, h2, h3.mk hb hd, fun x hx => (h4 x hx).mk hb hd, h5.mk hb hd, h8⟩
theorem UsHeld.below {lo hi base : Nat} {w w' : World} {v u : Value} {R : List ChV} (h : UsHeld w lo hi v u R) (hb : Below base w w') (hd : hi ≤ base) : UsHeld w' lo hi v u R := by
  obtain ⟨p, c, pk, ck, l, h1, h2, h3, h4, h5, h8⟩ := h
  exact ⟨p, c, pk, ck, l, h1, h2, h3.below hb hd, fun x hx => (h4 x hx).below hb hd, h5.below hb hd, h8⟩
theorem UsOwn.keep {w w' : World} {lo hi : Nat} {v u : Value} {R : List ChV} (h : UsOwn w lo hi v u R) (hb : Fresh w w') : UsOwn w' lo hi v u R := by
  obtain ⟨p, c, pk, ck, l, h1, h2, h3, h4, h5, h6, h7, h8⟩ := h
  exact ⟨p, c, pk, ck, l, h1, h2, h3.keep hb, fun x hx => (h4 x hx).keep hb, h5.keep hb, h6, h7, h8⟩
theorem UsOwn.mk {T : TypeId → Prop} {lo hi lo' hi' : Nat} {w w' : World} {v u : Value} {R : List ChV} (h : UsOwn w lo hi v u R) (hb : Mk T lo' hi' w w') (hd : hi ≤ lo' ∨ hi' ≤ lo) : UsOwn w' lo hi v u R := by
  obtain ⟨p, c, pk, ck, l, h1, h2, h3, h4, h5, h6, h7, h8⟩ := h
  exact ⟨p, c, pk, ck, l, h1, h2, h3.mk hb hd, fun x hx => (h4 x hx).mk hb hd, h5.mk hb hd, h6, h7, h8⟩
theorem UsOwn.wide {w : World} {lo hi lo' hi' : Nat} {v u : Value} {R : List ChV} (h : UsOwn w lo hi v u R) (hl : lo' ≤ lo) (hh : hi ≤ hi') : UsOwn w lo' hi' v u R := by
  obtain ⟨p, c, pk, ck, l, h1, h2, h3, h4, h5, h6, h7, h8⟩ := h
  exact ⟨p, c, pk, ck, l, h1, h2, h3.wide hl hh, fun x hx => (h4 x hx).wide hl hh, h5.wide hl hh, h6, h7, h8⟩
/-- Compared. -/
theorem eqUsR_r (v v' u u' : Value) (lo hi lo' hi' : Nat) (R : List ChV) (w : World) (h : UsHeld w lo hi v u R) (h' : UsHeld w lo' hi' v' u' R) (hs : UsSm R) :
    Calls Tryz.prog 14 #[v, v'] w fun e w' => e = .returned (.bool true) ∧ Fresh w w' := by
  obtain ⟨p, c, pk, ck, l, rfl, rfl, h3, h4, h5, rfl⟩ := h
  obtain ⟨p', c', pk', ck', l', rfl, rfl, k3, k4, k5, k8⟩ := h'
  have e1 : (l'.map CH.r).map LR.val = (l.map CH.r).map LR.val := by
    have := congrArg (List.map Prod.fst) k8
    rw [List.map_map, List.map_map] at this ⊢
    exact this
  have := eqRouteS_k p p' c c' (l.map CH.r) (l'.map CH.r) w e1 h3.1.cells (fun x hx => by obtain ⟨y, hy, rfl⟩ := List.mem_map.1 hx; exact (h4 y hy).1.ints) k3.1.cells (fun x hx => by obtain ⟨y, hy, rfl⟩ := List.mem_map.1 hx; exact (k4 y hy).1.ints) hs.rs
  rwa [List.length_map, List.length_map] at this
theorem eqUsK_r (v v' u u' : Value) (lo hi lo' hi' : Nat) (R : List ChV) (w : World) (h : UsHeld w lo hi v u R) (h' : UsHeld w lo' hi' v' u' R) (hs : UsSm R) :
    Calls Tryz.prog 15 #[u, u'] w fun e w' => e = .returned (.bool true) ∧ Fresh w w' := by
  obtain ⟨p, c, pk, ck, l, rfl, rfl, h3, h4, h5, rfl⟩ := h
  obtain ⟨p', c', pk', ck', l', rfl, rfl, k3, k4, k5, k8⟩ := h'
  have e2 : l'.map CH.k = l.map CH.k := by
    have := congrArg (List.map Prod.snd) k8
    rw [List.map_map, List.map_map] at this
    exact this
  have hl : l'.length = l.length := by have := congrArg List.length e2; simpa using this
  have e3 : (l.map fun x => iv x.k) = (l.map CH.k).map iv := by rw [List.map_map]; rfl
  have e4 : (l'.map fun x => iv x.k) = (l.map CH.k).map iv := by rw [← e2, List.map_map]; rfl
  have h5' := h5.1.cells
  have k5' := k5.1.cells
  rw [e3] at h5'
  rw [e4] at k5'
  have := eqIntS_r pk pk' ck ck' (l.map CH.k) w h5' k5' (by have := hs.1; simp at this ⊢; omega)
  rw [hl]
  rwa [List.length_map] at this
/-- The routes marked, the numbers as they were. -/
def UsMk1 (w : World) (base : Nat) (v u : Value) (R : List ChV) : Prop := ∃ p c pk ck, ∃ l : List CH, v = .slice p l.length c ∧ u = .slice pk l.length ck ∧ RsMk w base 1 p (l.map CH.r) ∧ Own w base 3 pk (l.map fun x => iv x.k) ∧ RowApart l pk ∧ l.map CH.val = R
def UsMk (w : World) (base : Nat) (v u : Value) (R : List ChV) : Prop := ∃ p c pk ck, ∃ l : List CH, v = .slice p l.length c ∧ u = .slice pk l.length ck ∧ RsMk w base 1 p (l.map CH.r) ∧ MkRow w base 3 pk l.length (fun t => iv (1 + (usN R : Int) + (t : Int))) ∧ l.map CH.val = R
theorem UsMk1.keep {w w' : World} {base : Nat} {v u : Value} {R : List ChV} (h : UsMk1 w base v u R) (hb : Fresh w w') : UsMk1 w' base v u R := by
  obtain ⟨p, c, pk, ck, l, h1, h2, h3, h4, h5, h6⟩ := h
  exact ⟨p, c, pk, ck, l, h1, h2, h3.keep hb, h4.keep hb, h5, h6⟩
theorem UsMk.keep {w w' : World} {base : Nat} {v u : Value} {R : List ChV} (h : UsMk w base v u R) (hb : Fresh w w') : UsMk w' base v u R := by
  obtain ⟨p, c, pk, ck, l, h1, h2, h3, h4, h6⟩ := h
  exact ⟨p, c, pk, ck, l, h1, h2, h3.keep hb, h4.keep hb, h6⟩
theorem markUs_a (v u : Value) (base hi : Nat) (R : List ChV) (w : World) (h : UsOwn w base hi v u R) (hs : UsSm R) :
    Calls Tryz.prog 20 #[v, .int .i64 1] w fun e w' => e = .returned (.int .i64 (1 + (usN R : Int))) ∧ UsMk1 w' base v u R ∧ Below base w w' := by
  obtain ⟨p, c, pk, ck, l, rfl, rfl, h3, h4, h5, h6, h7, rfl⟩ := h
  have hrow : ∀ x ∈ l.map CH.r, RowN w base 3 x.q x.fibs.length := by
    intro x hx
    obtain ⟨y, hy, rfl⟩ := List.mem_map.1 hx
    have := (h4 y hy).1.rowN
    rwa [List.length_map] at this
  have hm := markRouteS_p p c base (l.map CH.r) 1 w h3.1 hrow h6 hs.rs (by decide) (by decide)
  rw [List.length_map] at hm
  refine hm.mono ?_
  rintro e w' ⟨rfl, k1, k2, _, k4⟩
  refine ⟨?_, ⟨p, c, pk, ck, l, rfl, rfl, k1, k4 pk _ h5.1.rowN (fun x hx g o h o' e1 e2 => ?_) _ h5.1, h7, rfl⟩, k2⟩
  · rw [rvN_is]; unfold usN; rw [List.length_map]
  · obtain ⟨y, hy, rfl⟩ := List.mem_map.1 hx
    exact h7 y hy g o h o' e1 e2
theorem RsMk.qmk {w w' : World} {base : Nat} {k0 : Int} {r q : Option Addr} {l : List LR} (h : RsMk w base k0 r l) (hb : QMk base q w w') (hd : ∀ x ∈ l, ∀ g o h o', x.q = some ⟨g, o, none⟩ → q = some ⟨h, o', none⟩ → g ≠ h) : RsMk w' base k0 r l := by
  rcases h with h | ⟨g, cs, h1, h2, h3, h4, h5, h6⟩
  · exact Or.inl h
  · exact Or.inr ⟨g, cs, h1, h2, hb.row h3 (by decide), h4, h5, fun i x hx => ⟨(h6 i x hx).1, hb.mkRow (h6 i x hx).2 fun g o h o' e e' => (hd x (List.mem_of_getElem? hx) h o' g o e' e).symm⟩⟩
theorem markUs_b (v u : Value) (base : Nat) (R : List ChV) (w : World) (h : UsMk1 w base v u R) (hs : UsSm R) :
    Calls Tryz.prog 21 #[u, .int .i64 (1 + (usN R : Int))] w fun e w' => e = .returned (.int .i64 (1 + (usN R : Int) + (R.length : Int))) ∧ UsMk w' base v u R ∧ Below base w w' := by
  obtain ⟨p, c, pk, ck, l, rfl, rfl, h3, h4, h5, rfl⟩ := h
  have hN := hs.n
  have hrow : RowN w base 3 pk l.length := by have := h4.rowN; rwa [List.length_map] at this
  refine (markIntS_q pk ck l.length base (1 + (usN (l.map CH.val) : Int)) w hrow (by have := hs.1; simp at this; omega) (by omega) (by omega)).mono ?_
  rintro e w' ⟨rfl, k1, k2⟩
  refine ⟨by rw [List.length_map], ⟨p, c, pk, ck, l, rfl, rfl, h3.qmk k2 (fun x hx g o h o' e1 e2 => ?_), k1, rfl⟩, k2.below⟩
  obtain ⟨y, hy, rfl⟩ := List.mem_map.1 hx
  exact h5 y hy g o h o' e1 e2
theorem heldUs_a (v u : Value) (base : Nat) (R : List ChV) (w : World) (h : UsMk w base v u R) (hs : UsSm R) :
    Calls Tryz.prog 22 #[v, .int .i64 1] w fun e w' => e = .returned (.int .i64 (1 + (usN R : Int))) ∧ Fresh w w' := by
  obtain ⟨p, c, pk, ck, l, rfl, rfl, h3, h4, rfl⟩ := h
  have := heldRouteS_p p c base (l.map CH.r) 1 w h3 hs.rs (by decide) (by decide)
  rw [List.length_map] at this
  refine this.mono ?_
  rintro e w' ⟨rfl, hf⟩
  refine ⟨?_, hf⟩
  rw [rvN_is]; unfold usN; rw [List.length_map]
theorem heldUs_b (v u : Value) (base : Nat) (R : List ChV) (w : World) (h : UsMk w base v u R) (hs : UsSm R) :
    Calls Tryz.prog 23 #[u, .int .i64 (1 + (usN R : Int))] w fun e w' => e = .returned (.int .i64 (1 + (usN R : Int) + (R.length : Int))) ∧ Fresh w w' := by
  obtain ⟨p, c, pk, ck, l, rfl, rfl, h3, h4, rfl⟩ := h
  have hN := hs.n
  refine (heldIntS_any pk ck l.length (1 + (usN (l.map CH.val) : Int)) w h4.ints (by have := hs.1; simp at this; omega) (by omega) (by omega)).mono ?_
  rintro e w' ⟨rfl, rfl⟩
  exact ⟨by rw [List.length_map], frefl _⟩
theorem usF_small (n : Net) (fm : List (Int × Int)) (d : Fib) : UsSm (usF n fm d).1 := by
  refine ⟨by have := usF_len n fm d; omega, fun c hc => ?_⟩
  cases hok : usOk n fm d
  · rw [usF_no hok] at hc; cases hc
  · rw [usF_yes hok] at hc
    have hu : usB n fm d = true := by unfold usOk at hok; simp only [Bool.and_eq_true] at hok; exact hok.1
    obtain ⟨h1, h2, _, h3, _, h4, _, _⟩ := usB_at hu
    have hm2 : c ∈ usL n fm d.len (allR n d.a d.b) := hc
    obtain ⟨m1, _, _⟩ := usL_mem h2 h3 hm2
    obtain ⟨_, g2⟩ := good_mem m1
    obtain ⟨_, _, a3, a4, _⟩ := nodes_at h1 h4 g2
    omega
theorem specUsableRoutes_l (v : Value) (n : Net) (v1 : Value) (fm : List (Int × Int)) (d : Fib) (w : World) (h : NetIn w v n) (h1 : FmIn w v1 fm) :
    Calls Tryz.prog 9 #[v, v1, .agg #[.int .i64 d.a, .int .i64 d.b, .int .i64 d.len, .int .i64 d.risk]] w fun e w' => ∃ va vb, e = .returned (.tuple #[va, vb, .bool (usOk n fm d)]) ∧ UsHeld w' w.heap.size w'.heap.size va vb (usF n fm d).1 ∧ Fresh w w' := by
  obtain ⟨p, c, rfl, hp, hl⟩ := h1
  refine (specUsableRoutes_any v n p c fm d w h hp hl).mono ?_
  rintro e w' ⟨V, pk, ck, l, rfl, hu, hv, hf⟩
  obtain ⟨pr, cr, rfl, ho⟩ := own_of_row hu.rts.row
  obtain ⟨pk', ck', e2, hk⟩ := own_of_row hu.ks
  cases e2
  refine ⟨_, _, rfl, ⟨pr, cr, pk, ck, l, by rw [List.length_map], rfl, ho.held, fun x hx => (hu.rts.fib x.r (List.mem_map_of_mem (f := CH.r) hx)).held, hk.held, hv⟩, hf⟩
theorem implUsableRoutes_l (v : Value) (n : Net) (v1 : Value) (fm : List (Int × Int)) (d : Fib) (w : World) (h : NetIn w v n) (h1 : FmIn w v1 fm) :
    Calls Tryz.prog 13 #[v, v1, .agg #[.int .i64 d.a, .int .i64 d.b, .int .i64 d.len, .int .i64 d.risk]] w fun e w' => ∃ va vb, e = .returned (.tuple #[va, vb, .bool (usOk n fm d)]) ∧ UsOwn w' w.heap.size w'.heap.size va vb (usF n fm d).1 ∧ Fresh w w' := by
  obtain ⟨p, c, rfl, hp, hl⟩ := h1
  refine (implUsableRoutes_2 v n p c fm d w h hp hl).mono ?_
  rintro e w' ⟨V, pk, ck, l, rfl, hu, hv, hap, hf⟩
  obtain ⟨pr, cr, rfl, ho⟩ := own_of_row hu.rts.row
  obtain ⟨pk', ck', e2, hk⟩ := own_of_row hu.ks
  cases e2
  refine ⟨_, _, rfl, ⟨pr, cr, pk, ck, l, by rw [List.length_map], rfl, ho.held, fun x hx => (hu.rts.fib x.r (List.mem_map_of_mem (f := CH.r) hx)).held, hk.held, hu.rts.dist, hap, hv⟩, hf⟩
end Go.Proofs.YtlcppdbpajdnlaaGreat
