/- Contracts: any network is drawn, the reference's side. -/
import Derived.Test.YtlapicgeokjpjaaNwE
import Derived.Test.YtlapicgeokjpjaaNwD
import Derived.Deep.DeepCutAuto
namespace Go.Proofs.Ytlapicgeokjpjaa
open Go.RowKit Go.PlainAid

/-- A network is handed back, usual or not. -/
def OutAn (w : World) (r : Nat) (cv : Value) (n : Int) (e : Ending) (w' : World) : Prop := ∃ (np : Option Addr) (N : Nat) (nc : Nat) (fp : Option Addr) (L : List Fib) (fc : Nat) (l : List ByteArray) (n' : Int), e = .returned (.agg #[.slice np N nc, .slice fp L.length fc]) ∧ N = l.length ∧ N ≤ 16 ∧
  w'.ownsRow w.heap.size 9 1 (.slice np N nc) N (l.map .string) ∧ w'.ownsRow w.heap.size 59 4 (.slice fp L.length fc) L.length (L.flatMap fibC) ∧ L.length ≤ 20 ∧ (∀ f ∈ L, FbS f) ∧ n ≤ n' ∧ n' ≤ n + 300 ∧ Cur w' r cv n' ∧ w.grownBy w' (some r) ∧ ∀ s ∈ l, s.size ≤ 16
/-- The network under way: names, fibers, and the fiber that is turned, each in its box. -/
structure AnSt (W0 w wr : World) (r : Nat) (cv : Value) (bN bF : Nat) (m : Int) (np : Option Addr) (nc : Nat) (l : List ByteArray) (fp : Option Addr) (fc : Nat) (L : List Fib) (f : Fib) : Prop where
  fr : Fresh W0 wr
  gr : w.grownBy wr (some r)
  cu : Cur wr r cv m
  nm : wr.ownsRow (w.heap.size + 1) 9 1 (.slice np l.length nc) l.length (l.map .string)
  bx : RowAt wr bN 27 [.slice np l.length nc, .slice fp L.length fc]
  bf : RowAt wr bF 59 (fibC f)
  zr : RowAt wr w.heap.size 27 [.slice none 0 0, .slice none 0 0]
  ow : wr.ownsRow (w.heap.size + 1) 59 4 (.slice fp L.length fc) L.length (L.flatMap fibC)
  ok : ∀ g ∈ L, FbS g
  fk : FbS f
  ne : ∀ c k, fp = some ⟨c, k, none⟩ → c ≠ bF
  nz : ∀ s ∈ l, s.size ≤ 16
theorem AnSt.fresh {W0 w wr w' : World} {r : Nat} {cv : Value} {bN bF : Nat} {m : Int} {np : Option Addr} {nc : Nat} {l : List ByteArray} {fp : Option Addr} {fc : Nat} {L : List Fib} {f : Fib} (h : AnSt W0 w wr r cv bN bF m np nc l fp fc L f) (hb : Fresh wr w') : AnSt W0 w w' r cv bN bF m np nc l fp fc L f :=
  ⟨fstep h.fr hb, grownTrans h.gr (grownFresh hb _), h.cu.keep hb, ownsRow_keep h.nm hb, h.bx.keep hb, h.bf.keep hb, h.zr.keep hb, ownsRow_keep h.ow hb, h.ok, h.fk, h.ne, h.nz⟩
theorem AnSt.grown {W0 w wr w' : World} {r : Nat} {cv : Value} {bN bF : Nat} {m m' : Int} {np : Option Addr} {nc : Nat} {l : List ByteArray} {fp : Option Addr} {fc : Nat} {L : List Fib} {f : Fib} (h : AnSt W0 w wr r cv bN bF m np nc l fp fc L f) (hrw : r < w.heap.size) (hwb : w.heap.size < bN) (hwf : w.heap.size < bF) (hg : wr.grownBy w' (some r)) (hc : Cur w' r cv m') (hf : Fresh W0 w') : AnSt W0 w w' r cv bN bF m' np nc l fp fc L f :=
  ⟨hf, grownTrans h.gr hg, hc, owns_grown h.nm hg (by omega), h.bx.grown hg (by omega), h.bf.grown hg (by omega), h.zr.grown hg (by omega), owns_grown h.ow hg (by omega), h.ok, h.fk, h.ne, h.nz⟩
theorem ownsN_setB {w : World} {base g : Nat} {E : TypeId} {size n : Nat} {v u : Value} {xs : List Value} (h : w.ownsRow base E size v n xs) (hne : ∀ k, v.ownBlock = some k → k ≠ g) (i : Nat) : (w.setCell ⟨g, i, none⟩ u).ownsRow base E size v n xs := by
  obtain ⟨h1, h2 | ⟨b, cap, cur, hv, hb, hh, h3⟩⟩ := h
  · exact ⟨h1, Or.inl h2⟩
  · refine ⟨h1, Or.inr ⟨b, cap, cur, hv, hb, ?_, h3⟩⟩
    subst hv
    have hr : RowAt w b E cur.toList := by unfold RowAt; exact hh
    have := hr.setOther (o := i) (hne b rfl) u
    unfold RowAt at this; exact this
theorem ownsN_typ {w w' : World} {base : Nat} {E T : TypeId} {size n : Nat} {V : Value} {xs : List Value} (h : w.ownsRow base E size V n xs) (hk : ∀ g t cs, RowAt w g t cs → t ≠ T → RowAt w' g t cs) (hT : E ≠ T) : w'.ownsRow base E size V n xs := by
  refine ⟨h.1, ?_⟩
  rcases h.2 with h | ⟨g, cap, cur, hv, hb, hh, r⟩
  · exact Or.inl h
  · exact Or.inr ⟨g, cap, cur, hv, hb, by have := hk g _ cur.toList (show RowAt w g _ cur.toList from by unfold RowAt; exact hh) hT; unfold RowAt at this; exact this, r⟩
theorem ownB {p : Option Addr} {n c : Nat} {b : Nat} (h : ∀ g k, p = some ⟨g, k, none⟩ → g ≠ b) {w : World} {base : Nat} {E : TypeId} {size : Nat} {xs : List Value} (ho : w.ownsRow base E size (.slice p n c) n xs) : ∀ k, (Value.slice p n c).ownBlock = some k → k ≠ b := by
  intro k hk
  obtain ⟨_, ⟨h2, _⟩ | ⟨g, cap, cur, hv, _⟩⟩ := ho
  · cases h2; cases hk
  · cases hv
    simp only [Value.ownBlock, Option.some.injEq] at hk
    subst hk
    exact h _ _ rfl
/-- A longer row of fibers does not lie in a box of one fiber. -/
theorem not_box {w : World} {base bF n : Nat} {p : Option Addr} {c : Nat} {xs cs : List Value} (ho : w.ownsRow base 59 4 (.slice p n c) n xs) (hb : RowAt w bF 59 cs) (hc : cs.length = 4) (hn : 2 ≤ n) : ∀ g k, p = some ⟨g, k, none⟩ → g ≠ bF := by
  rintro g k rfl rfl
  obtain ⟨_, ⟨_, h2⟩ | ⟨g', cap, cur, hv, _, hh, h3, _, h5, _⟩⟩ := ho
  · omega
  · cases hv
    unfold RowAt at hb
    rw [hh] at hb
    simp only [Option.some.injEq, Obj.cells.injEq] at hb
    have := congrArg Array.size hb.1
    simp at this
    omega
/-- A field of the fiber in its box is set. -/
theorem AnSt.setF {W0 w wr : World} {r : Nat} {cv : Value} {bN bF : Nat} {m : Int} {np : Option Addr} {nc : Nat} {l : List ByteArray} {fp : Option Addr} {fc : Nat} {L : List Fib} {f : Fib} (h : AnSt W0 w wr r cv bN bF m np nc l fp fc L f) (hW : W0.heap.size ≤ bF) (hrw : r < w.heap.size) (hwf : w.heap.size < bF) (hNF : bN < bF) (j : Nat) (v : Int) (f' : Fib) (hf' : (fibC f).set j (iv v) = fibC f') (hk : FbS f') :
    AnSt W0 w (wr.setCell ⟨bF, j, none⟩ (.int .i64 v)) r cv bN bF m np nc l fp fc L f' :=
  ⟨fset h.fr hW _, grownOwn h.gr (grownSet _ _ _ _) (by omega), Cur.grown h.cu (grownSet _ _ _ _) (by omega), owns_setO h.nm h.bf (by decide) j, h.bx.setOther (by omega) _, by have := h.bf.set j (iv v); rw [hf'] at this; exact this, h.zr.setOther (by omega) _, ownsN_setB h.ow (ownB h.ne h.ow) j, h.ok, hk, h.ne, h.nz⟩
/-- A fiber more, and the network in its box told of it. -/
theorem AnSt.app {W0 w wr w' : World} {r : Nat} {cv : Value} {bN bF : Nat} {m : Int} {np : Option Addr} {nc : Nat} {l : List ByteArray} {fp fp' : Option Addr} {fc fc' : Nat} {L L' : List Fib} {f : Fib} (h : AnSt W0 w wr r cv bN bF m np nc l fp fc L f) (hr : W0.heap.size ≤ r) (hW : W0.heap.size ≤ bN) (hrw : r < w.heap.size) (hwb : w.heap.size < bN)
    (hg : wr.grownBy w' (Value.slice fp L.length fc).ownBlock) (ho : w'.ownsRow (w.heap.size + 1) 59 4 (.slice fp' L'.length fc') L'.length (L'.flatMap fibC)) (h2 : 2 ≤ L'.length) (hk : ∀ g ∈ L', FbS g) :
    AnSt W0 w (w'.setCell ⟨bN, 1, none⟩ (.slice fp' L'.length fc')) r cv bN bF m np nc l fp' fc' L' f := by
  have hlo : ∀ k, (Value.slice fp L.length fc).ownBlock = some k → w.heap.size + 1 ≤ k := own_block h.ow
  have hbx : RowAt w' bN 27 _ := row_grown0 h.ow hg h.bx (by decide)
  have hbf : RowAt w' bF 59 (fibC f) := by
    have := h.bf
    unfold RowAt at this ⊢
    rw [hg.block bF (RowAt.lt h.bf) (fun e => ownB h.ne h.ow _ e.symm rfl)]; exact this
  have hgr : w.grownBy w' (some r) := ⟨hg.os.trans h.gr.os, hg.tape.trans h.gr.tape, hg.output.trans h.gr.output, Nat.le_trans h.gr.size hg.size, fun i hi hn => (hg.block i (Nat.lt_of_lt_of_le hi h.gr.size) (fun e => by have := hlo _ e.symm; omega)).trans (h.gr.block i hi hn)⟩
  have hcu : Cur w' r cv m := by
    obtain ⟨s, hs⟩ := h.cu
    exact ⟨s, row_grown0 h.ow hg hs (by decide)⟩
  refine ⟨fset (fgrown h.fr hg (fun k hk => by have := hlo k hk; omega)) hW _, grownOwn hgr (grownSet _ _ _ _) (by omega), Cur.grown hcu (grownSet _ _ _ _) (by omega), owns_setO (ownsN_typ h.nm (fun g t cs hr ht => row_grown0 h.ow hg hr ht) (by decide)) hbx (by decide) 1, hbx.set 1 _, hbf.setOther (by
    intro e; subst e
    have := hbx.inj hbf
    exact absurd this.1 (by decide)) _, (row_grown0 h.ow hg h.zr (by decide)).setOther (by omega) _, owns_setO ho hbx (by decide) 1, hk, h.fk, not_box ho hbf rfl h2, h.nz⟩
/-- Names more. -/
theorem AnSt.appN {W0 w wr w' : World} {r : Nat} {cv : Value} {bN bF : Nat} {m : Int} {np np' : Option Addr} {nc nc' : Nat} {l l' : List ByteArray} {fp : Option Addr} {fc : Nat} {L : List Fib} {f : Fib} (h : AnSt W0 w wr r cv bN bF m np nc l fp fc L f) (hr : W0.heap.size ≤ r) (hW : W0.heap.size ≤ bN) (hrw : r < w.heap.size) (hwb : w.heap.size < bN)
    (hg : wr.grownBy w' (Value.slice np l.length nc).ownBlock) (ho : w'.ownsRow (w.heap.size + 1) 9 1 (.slice np' l'.length nc') l'.length (l'.map .string)) (hz : ∀ s ∈ l', s.size ≤ 16) :
    AnSt W0 w (w'.setCell ⟨bN, 0, none⟩ (.slice np' l'.length nc')) r cv bN bF m np' nc' l' fp fc L f := by
  have hlo : ∀ k, (Value.slice np l.length nc).ownBlock = some k → w.heap.size + 1 ≤ k := own_block h.nm
  have hbx : RowAt w' bN 27 _ := row_grown0 h.nm hg h.bx (by decide)
  have hbf : RowAt w' bF 59 (fibC f) := row_grown0 h.nm hg h.bf (by decide)
  have hgr : w.grownBy w' (some r) := ⟨hg.os.trans h.gr.os, hg.tape.trans h.gr.tape, hg.output.trans h.gr.output, Nat.le_trans h.gr.size hg.size, fun i hi hn => (hg.block i (Nat.lt_of_lt_of_le hi h.gr.size) (fun e => by have := hlo _ e.symm; omega)).trans (h.gr.block i hi hn)⟩
  have hcu : Cur w' r cv m := by
    obtain ⟨s, hs⟩ := h.cu
    exact ⟨s, row_grown0 h.nm hg hs (by decide)⟩
  refine ⟨fset (fgrown h.fr hg (fun k hk => by have := hlo k hk; omega)) hW _, grownOwn hgr (grownSet _ _ _ _) (by omega), Cur.grown hcu (grownSet _ _ _ _) (by omega), owns_setO ho hbx (by decide) 0, hbx.set 0 _, hbf.setOther (by
    intro e; subst e
    have := hbx.inj hbf
    exact absurd this.1 (by decide)) _, (row_grown0 h.nm hg h.zr (by decide)).setOther (by omega) _, owns_setO (ownsN_typ h.ow (fun g t cs hr ht => row_grown0 h.nm hg hr ht) (by decide)) hbx (by decide) 0, h.ok, h.fk, h.ne, hz⟩
/-- The first name is another one. -/
theorem AnSt.name {W0 w wr : World} {r : Nat} {cv : Value} {bN bF : Nat} {m : Int} {g : Nat} {nc : Nat} {l : List ByteArray} {fp : Option Addr} {fc : Nat} {L : List Fib} {f : Fib} (h : AnSt W0 w wr r cv bN bF m (some ⟨g, 0, none⟩) nc l fp fc L f) (hW : W0.heap.size ≤ r) (hrw : r < w.heap.size) (_h1 : 0 < l.length) (s : ByteArray) (hs : s.size ≤ 16) :
    AnSt W0 w (wr.setCell ⟨g, 0, none⟩ (.string s)) r cv bN bF m (some ⟨g, 0, none⟩) nc (l.set 0 s) fp fc L f := by
  obtain ⟨hl, ⟨h0, _⟩ | ⟨g', cap, cur, hv, hb, hh, h3, h4, h5, h6⟩⟩ := h.nm
  · cases h0
  · cases hv
    have hr : RowAt wr g 9 cur.toList := by unfold RowAt; exact hh
    have oth : ∀ {b t cs}, RowAt wr b t cs → t ≠ 9 → b ≠ g := by
      intro b t cs hb' ht e
      subst e
      exact ht (hb'.inj hr).1
    refine ⟨fset h.fr (by omega) _, grownOwn h.gr (grownSet _ _ _ _) (by omega), Cur.grown h.cu (grownSet _ _ _ _) (by omega), ?_, ?_, h.bf.setOther (oth h.bf (by decide)) _, h.zr.setOther (oth h.zr (by decide)) _, owns_setO h.ow hr (by decide) 0, h.ok, h.fk, h.ne, fun x hx => by
      rcases List.mem_or_eq_of_mem_set hx with h1 | rfl
      · exact h.nz x h1
      · exact hs⟩
    · rw [List.length_set]
      refine ⟨by simp, Or.inr ⟨g, nc, (cur.toList.set 0 (.string s)).toArray, rfl, hb, ?_, h3, h4, by simpa using h5, ?_⟩⟩
      · have := hr.set 0 (.string s); unfold RowAt at this; exact this
      · rw [List.map_set, ← h6]
        simp [List.take_set]
    · rw [List.length_set]; exact h.bx.setOther (oth h.bx (by decide)) _
theorem flat_set {L : List Fib} {f : Fib} : ∀ {i : Nat} {sp : List Value}, i < L.length → ((((L.flatMap fibC ++ sp).set (i * 4) (iv f.a)).set (i * 4 + 1) (iv f.b)).set (i * 4 + 2) (iv f.len)).set (i * 4 + 3) (iv f.risk) = (L.set i f).flatMap fibC ++ sp := by
  induction L with
  | nil => intro i sp h; simp at h
  | cons x t ih =>
    intro i sp h
    cases i with
    | zero => rfl
    | succ i =>
      have := ih (i := i) (sp := sp) (by simpa using h)
      rw [List.set_cons_succ, List.flatMap_cons, List.flatMap_cons, List.append_assoc, List.append_assoc, ← this]
      rw [show (i + 1) * 4 = i * 4 + 4 by omega, show i * 4 + 4 + 1 = i * 4 + 1 + 4 by omega, show i * 4 + 4 + 2 = i * 4 + 2 + 4 by omega, show i * 4 + 4 + 3 = i * 4 + 3 + 4 by omega]
      rfl
/-- A fiber of the row is another one. -/
theorem owns_putF {w : World} {base i bd fc : Nat} {L : List Fib} (f : Fib) (h : w.ownsRow base 59 4 (.slice (some ⟨bd, 0, none⟩) L.length fc) L.length (L.flatMap fibC)) (hi : i < L.length) :
    ((((w.setCell ⟨bd, i * 4, none⟩ (iv f.a)).setCell ⟨bd, i * 4 + 1, none⟩ (iv f.b)).setCell ⟨bd, i * 4 + 2, none⟩ (iv f.len)).setCell ⟨bd, i * 4 + 3, none⟩ (iv f.risk)).ownsRow base 59 4 (.slice (some ⟨bd, 0, none⟩) (L.set i f).length fc) (L.set i f).length ((L.set i f).flatMap fibC) := by
  obtain ⟨hl, ⟨h0, _⟩ | ⟨g', cap, cur, hv, hb, hh, h3, h4, h5, h6⟩⟩ := h
  · cases h0
  · cases hv
    have hr : RowAt w bd 59 (L.flatMap fibC ++ cur.toList.drop (L.length * 4)) := by
      rw [← h6, List.take_append_drop]; unfold RowAt; exact hh
    have hn := ((((hr.set (i * 4) (iv f.a)).set (i * 4 + 1) (iv f.b)).set (i * 4 + 2) (iv f.len)).set (i * 4 + 3) (iv f.risk))
    rw [flat_set hi] at hn
    have hfl : ((L.set i f).flatMap fibC).length = L.length * 4 := by rw [flat_len fibC 4 (fun _ => rfl)]; simp
    refine ⟨by rw [hfl]; simp, Or.inr ⟨bd, fc, ((L.set i f).flatMap fibC ++ cur.toList.drop (L.length * 4)).toArray, rfl, hb, ?_, by simpa using h3, h4, ?_, ?_⟩⟩
    · unfold RowAt at hn; exact hn
    · have := congrArg List.length h6
      simp only [List.size_toArray, List.length_append, hfl, List.length_drop, Array.length_toList, h5]
      omega
    · rw [List.length_set, List.take_left' (by rw [hfl])]
/-- Elements appended to a row of one's own: the row lies from a base on, and no block but the old row's turns. -/
theorem wpList_app_gr {T E : TypeId} {z : Value} {size bytes : Nat} (hu : Try.prog.underlying T = some (.slice E)) (hinfo : (Try.prog.info? E).map (fun i => (i.zero, i.size, i.bytes)) = some (some z, size, bytes))
    (hzs : z.cells.size = size) (hsz : 0 < size) (hby : bytes ≤ 128) {ops : Array Oper} {rest : List Oper} {o : Oper} {a : Act} {Q : Exit → Act → World → Prop} (base : Nat) (w1 : World) (v : Value) (n : Nat) (xs : List Value) (g0 m c : Nat) (news : List Value)
    (hgd : o.guard = none) (s t : Operand) (ho : o.op = .call { callee := .builtin .append, args := #[s, t], argTypes := #[T, T] }) (hs : a.eval s = v) (hown : w1.ownsRow base E size v n xs)
    (hx : a.eval t = .slice (some ⟨g0, 0, none⟩) m c) (hc : Cells w1 (some ⟨g0, 0, none⟩) news) (hl : news.length = m * size) (hone : ∀ u ∈ news, u.oneCell' = true) (hm0 : 0 < m) (hn : n ≤ 1048576) (hm : m ≤ 1048576) (hb : base ≤ w1.heap.size)
    (h : ∀ q' c' w', w'.ownsRow base E size (.slice q' (n + m) c') (n + m) (xs ++ news) → w1.grownBy w' v.ownBlock → wpList Try.prog ops Q rest (a.put o.dst (.slice q' (n + m) c')) w') :
    wpList Try.prog ops Q (o :: rest) a w1 := by
  obtain ⟨i0, hi, hz0, hz1, hz2⟩ := info_parts hinfo
  rcases hc with rfl | ⟨b, off, hbe, hc⟩
  · exfalso
    have : m * size = 0 := by simpa using hl.symm
    rcases Nat.mul_eq_zero.1 this with h' | h' <;> omega
  · cases hbe
    refine wpList_append_own _ hgd s t T ho base E i0 z size bytes hu hi hz0 hz1 hz2 hzs hsz v n xs hs hown ⟨g0, 0, none⟩ m c news hx hl
      (fun j u hj => by
        have h0 := hc j u hj
        unfold Addr.add
        split
        · next e => subst e; exact h0
        · exact h0) hone (by unfold maxLen; omega) (Nat.le_trans (Nat.mul_le_mul (by omega : n + m ≤ 2097152) hby) (by omega)) hb ?_
    intro v' w' hown' hgrow _
    obtain ⟨q', c', rfl, _, _⟩ := owns_cap hown'
    exact h q' c' w' hown' hgrow
/-- What the ways through the choice have in common. -/
def AnMid (W0 w : World) (r : Nat) (cv : Value) (bN bF : Nat) (n : Int) (i : Nat) (wx : World) : Prop := ∃ (m : Int) (np : Option Addr) (nc : Nat) (l : List ByteArray) (fp : Option Addr) (fc : Nat) (L : List Fib) (f : Fib), n ≤ m ∧ m ≤ n + 290 ∧ l.length ≤ 16 ∧ L.length ≤ 20 ∧ i < L.length ∧ AnSt W0 w wx r cv bN bF m np nc l fp fc L f
theorem wp_unblock {P : Program} {s : Code} {id : Nat} {K : Act → World → Prop} {Q' : Exit → Act → World → Prop} {a : Act} {w : World} (h : s.wp P (Exit.then K (Exit.inBlock id (Exit.then K Q'))) a w) : s.wp P (Exit.inBlock id (Exit.then K Q')) a w :=
  wp_mono h (fun e a w hq => by cases e <;> exact hq)
/-- What a store into the row of fibers leaves. -/
def AnRow (W0 w : World) (r : Nat) (cv : Value) (bN be : Nat) (m : Int) (np : Option Addr) (nc : Nat) (l : List ByteArray) (fp : Option Addr) (fc n : Nat) (wr : World) : Prop := Fresh W0 wr ∧ w.grownBy wr (some r) ∧ Cur wr r cv m ∧ wr.ownsRow (w.heap.size + 1) 9 1 (.slice np l.length nc) l.length (l.map .string) ∧ RowAt wr bN 27 [.slice np l.length nc, .slice fp n fc] ∧ RowAt wr w.heap.size 27 [.slice none 0 0, .slice none 0 0] ∧ ∃ cs, RowAt wr be 59 cs
theorem AnRow.set {W0 w wr : World} {r : Nat} {cv : Value} {bN be : Nat} {m : Int} {np : Option Addr} {nc : Nat} {l : List ByteArray} {fp : Option Addr} {fc n : Nat} (h : AnRow W0 w r cv bN be m np nc l fp fc n wr) (hW : W0.heap.size ≤ r) (hrw : r < w.heap.size) (hbe : w.heap.size + 1 ≤ be) (j : Nat) (v : Value) : AnRow W0 w r cv bN be m np nc l fp fc n (wr.setCell ⟨be, j, none⟩ v) := by
  obtain ⟨h1, h2, h3, h4, h5, h6, cs, h7⟩ := h
  have hbn : bN ≠ be := fun e => by subst e; exact absurd (h5.inj h7).1 (by decide)
  exact ⟨fset h1 (by omega) _, grownOwn h2 (grownSet _ _ _ _) (by omega), Cur.grown h3 (grownSet _ _ _ _) (by omega), owns_setO h4 h7 (by decide) j, h5.setOther hbn _, h6.setOther (by omega) _, _, h7.set j v⟩
theorem AnSt.row {W0 w wr : World} {r : Nat} {cv : Value} {bN bF : Nat} {m : Int} {np : Option Addr} {nc : Nat} {l : List ByteArray} {be fc : Nat} {L : List Fib} {f : Fib} (h : AnSt W0 w wr r cv bN bF m np nc l (some ⟨be, 0, none⟩) fc L f) : AnRow W0 w r cv bN be m np nc l (some ⟨be, 0, none⟩) fc L.length wr ∧ w.heap.size + 1 ≤ be := by
  refine ⟨⟨h.fr, h.gr, h.cu, h.nm, h.bx, h.zr, ?_⟩, own_block h.ow be rfl⟩
  obtain ⟨_, ⟨h0, _⟩ | ⟨g', cap, cur, hv, hb, hh, _⟩⟩ := h.ow
  · cases h0
  · cases hv; exact ⟨cur.toList, by unfold RowAt; exact hh⟩
theorem set_ok {L : List Fib} {f : Fib} {i : Nat} (h : ∀ g ∈ L, FbS g) (hf : FbS f) : ∀ g ∈ L.set i f, FbS g := by
  intro g hg
  rcases List.mem_or_eq_of_mem_set hg with h1 | rfl
  · exact h g h1
  · exact hf
theorem AnSt.s0 {W0 w wr : World} {r : Nat} {cv : Value} {bN bF : Nat} {m : Int} {np : Option Addr} {nc : Nat} {l : List ByteArray} {fp : Option Addr} {fc : Nat} {L : List Fib} {f : Fib} (h : AnSt W0 w wr r cv bN bF m np nc l fp fc L f) : wr.cell? ⟨bN, 0, none⟩ = some (.slice np l.length nc) := h.bx.cell rfl
theorem AnSt.s1 {W0 w wr : World} {r : Nat} {cv : Value} {bN bF : Nat} {m : Int} {np : Option Addr} {nc : Nat} {l : List ByteArray} {fp : Option Addr} {fc : Nat} {L : List Fib} {f : Fib} (h : AnSt W0 w wr r cv bN bF m np nc l fp fc L f) : wr.cell? ⟨bN, 1, none⟩ = some (.slice fp L.length fc) := h.bx.cell rfl
theorem AnSt.n0 {W0 w wr : World} {r : Nat} {cv : Value} {bN bF : Nat} {m : Int} {g nc : Nat} {l : List ByteArray} {fp : Option Addr} {fc : Nat} {L : List Fib} {f : Fib} (h : AnSt W0 w wr r cv bN bF m (some ⟨g, 0, none⟩) nc l fp fc L f) (hl : 0 < l.length) : (∃ v, wr.cell? ⟨g, 0, none⟩ = some v) ∧ wr.frozen? ⟨g, 0, none⟩ = false := by
  obtain ⟨h1, ⟨h0, _⟩ | ⟨g', cap, cur, hv, hb, hh, h3, h4, h5, h6⟩⟩ := h.nm
  · cases h0
  · cases hv
    have hr : RowAt wr g 9 cur.toList := by unfold RowAt; exact hh
    refine ⟨⟨_, hr.cell (List.getElem?_eq_getElem (by simp; omega))⟩, hr.frozen 0⟩
theorem AnSt.f0 {W0 w wr : World} {r : Nat} {cv : Value} {bN bF : Nat} {m : Int} {np : Option Addr} {nc : Nat} {l : List ByteArray} {fp : Option Addr} {fc : Nat} {L : List Fib} {f : Fib} (h : AnSt W0 w wr r cv bN bF m np nc l fp fc L f) {i : Nat} (hi : i < L.length) : ∃ bd x y z u, fp = some ⟨bd, 0, none⟩ ∧ L[i]? = some ⟨x, y, z, u⟩ ∧ wr.cell? ⟨bd, i * 4, none⟩ = some (.int .i64 x) ∧ wr.cell? ⟨bd, i * 4 + 1, none⟩ = some (.int .i64 y) ∧ wr.cell? ⟨bd, i * 4 + 2, none⟩ = some (.int .i64 z) ∧ wr.cell? ⟨bd, i * 4 + 3, none⟩ = some (.int .i64 u) := by
  obtain ⟨p7, c7, hpc, hown, hlc, hcm⟩ := owns_cap h.ow
  cases hpc
  have hFi : Fibs wr fp L := hown.cells
  obtain ⟨be, oe, z1, z2, z3, z4, hpe, hx, d0, d1, d2, d3⟩ := hFi.at hi
  obtain rfl : oe = 0 := by
    rcases hown with ⟨h0, h1⟩ | ⟨gg, sp, h0, _⟩
    · rw [hpe] at h0; cases h0
    · rw [hpe] at h0; cases h0; rfl
  rw [Nat.zero_add] at d0 d1 d2 d3
  exact ⟨be, z1, z2, z3, z4, hpe, hx, d0, d1, d2, d3⟩
def lenAt (w : World) (b : Nat) : Nat := match w.cell? ⟨b, 1, none⟩ with | some (.slice _ n _) => n | _ => 0
theorem lenAt_of {w : World} {b n c : Nat} {p : Option Addr} (h : w.cell? ⟨b, 1, none⟩ = some (.slice p n c)) : lenAt w b = n := by unfold lenAt; rw [h]
def sixT : List ByteArray := [⟨#[98]⟩, ⟨#[]⟩, ⟨#[65]⟩, ⟨#[97, 98, 99, 100, 101, 102, 103, 104]⟩, ⟨#[97, 98, 99, 100, 101, 102, 103, 104, 105]⟩, ⟨#[120, 49]⟩]
def sixB : List ByteArray := [⟨#[97]⟩, ⟨#[98]⟩, ⟨#[99]⟩, ⟨#[100]⟩, ⟨#[101]⟩, ⟨#[102]⟩]
theorem sixB_size {k : Nat} : ∀ s ∈ sixB.take k, s.size ≤ 16 := by
  intro s hs
  have := List.mem_of_mem_take hs
  unfold sixB at this
  simp at this
  rcases this with rfl | rfl | rfl | rfl | rfl | rfl <;> decide
theorem own_names {w : World} {g base k : Nat} (h : RowAt w g 9 six) (hb : base ≤ g) (hk : k ≤ 6) : w.ownsRow base 9 1 (.slice (some ⟨g, 0, none⟩) k 6) k ((sixB.take k).map .string) :=
  ⟨by simp [sixB]; omega, Or.inr ⟨g, 6, six.toArray, rfl, hb, h, hk, by decide, rfl, by rw [List.map_take, Nat.mul_one]; rfl⟩⟩
set_option maxHeartbeats 8000000 in
set_option maxRecDepth 100000 in
theorem anyNetwork_any {W0 w : World} {r : Nat} {p : Option Addr} {cap : Nat} {xs : List Int} {n : Int} (hC : CodeAt W0 p xs) (hf : Fresh W0 w) (hr : W0.heap.size ≤ r) (h0 : 0 ≤ n) (h1 : n ≤ 68719476736) (hcur : Cur w r (.slice p xs.length cap) n) :
    Calls Try.prog 10 #[.pointer (some ⟨r, 0, none⟩)] w (OutAn w r (.slice p xs.length cap) n) := by
  have HX := Lib.hid hC
  have hrw : r < w.heap.size := by obtain ⟨_, hh⟩ := hcur; exact hh.lt
  obtain ⟨W1, hW1⟩ : ∃ W, W = w.alloc (.cells #[.slice none 0 0, .slice none 0 0] 27) := ⟨_, rfl⟩
  have hf1 : Fresh w W1 := by rw [hW1]; exact fnew (frefl _) _
  have hz1 : RowAt W1 w.heap.size 27 [.slice none 0 0, .slice none 0 0] := by rw [hW1]; exact RowAt.new _ _ _
  have hs1 : W1.heap.size = w.heap.size + 1 := by rw [hW1]; simp
  have f1 := fstep hf hf1
  have HC1 := Lib.hid (hcur.keep hf1)
  have HG1 := Lib.hid (grownFresh hf1 (some r))
  have HZ1 := Lib.hid hz1
  have HW1 := Lib.hid hW1
  clear hC hcur hW1 hz1 hf
  go_enter Try.func10, Try.ntmps10
  go_wp2_with fail
  rw [← HW1.out]
  refine (network_any HX.out f1 hr (by omega) (by omega) HC1.out).mono ?_
  rintro e w2 ⟨g, k, fp, L, fc, n2, rfl, ⟨k2, k6⟩, hg, hnm, how, hL9, hok, a2, b2, hc2, hg2⟩
  rw [hs1] at how hg
  have f2 := freshGrown f1 hg2 hr
  have HC2 := Lib.hid hc2
  have HG2 := Lib.hid (grownTrans HG1.out hg2)
  have HZ2 := Lib.hid (HZ1.out.grown hg2 (by omega))
  have HNM := Lib.hid hnm
  have HOW := Lib.hid how
  have HOK := Lib.hid hok
  clear hc2 hg2 hnm how hok hf1 HZ1 HC1 HG1
  go_upto_region 2 with fail
  obtain ⟨bN, hbN⟩ : ∃ b, b = w2.heap.size := ⟨_, rfl⟩
  obtain ⟨W3, hW3⟩ : ∃ W, W = w2.alloc (.cells #[.slice (some ⟨g, 0, none⟩) k 6, .slice fp L.length fc] 27) := ⟨_, rfl⟩
  rw [← hbN, ← hW3]
  have hf3 : Fresh w2 W3 := by rw [hW3]; exact fnew (frefl _) _
  have HB3 : Hid (RowAt W3 bN 27 [.slice (some ⟨g, 0, none⟩) k 6, .slice fp L.length fc]) := by rw [hW3, hbN]; exact RowAt.new _ _ _
  have hwb : w.heap.size < bN := by have := HZ2.out.lt; omega
  have HZ3 := Lib.hid (HZ2.out.keep hf3)
  have HF3 := Lib.hid (fstep f2 hf3)
  have HC3 := Lib.hid (HC2.out.keep hf3)
  have HG3 := Lib.hid (grownTrans HG2.out (grownFresh hf3 _))
  have HN3 := Lib.hid (own_names (base := w.heap.size + 1) (HNM.out.keep hf3) hg k6)
  have HW3 := Lib.hid (ownsRow_keep HOW.out hf3)
  have hlk : (sixB.take k).length = k := by simp [sixB]; omega
  clear HZ2 HC2 HG2 HNM HOW hf3 hW3 hbN f2 f1 HW1
  by_cases hL : L.length = 0
  · obtain ⟨T, hT⟩ : ∃ T : Nat, T = L.length := ⟨_, rfl⟩
    have hTe : ((T : Int) == 0) = true := by simp; omega
    clear hL
    rw [← hT] at HB3 HW3
    have hz := HZ3.out
    have hbx := HB3.out
    have b0 := hbx.cell (i := 0) rfl
    have b1 := hbx.cell (i := 1) rfl
    have y0 := hz.cell (i := 0) rfl
    have y1 := hz.cell (i := 1) rfl
    have u0 := hz.frozen 0
    have u1 := hz.frozen 1
    have hfin := (hz.set 0 (.slice (some ⟨g, 0, none⟩) k 6)).set 1 (.slice fp T fc)
    have k0 := hfin.cell (i := 0) rfl
    have k1 := hfin.cell (i := 1) rfl
    have hrz : r ≠ w.heap.size := by omega
    have HNN := Lib.hid (owns_setO (u := .slice fp T fc) (owns_setO (u := .slice (some ⟨g, 0, none⟩) k 6) HN3.out hz (by decide) 0) (hz.set 0 _) (by decide) 1)
    have HOO := Lib.hid (owns_setO (u := .slice fp T fc) (owns_setO (u := .slice (some ⟨g, 0, none⟩) k 6) HW3.out hz (by decide) 0) (hz.set 0 _) (by decide) 1)
    have HCU := Lib.hid (Cur.grown (Cur.grown HC3.out (grownSet _ w.heap.size 0 (.slice (some ⟨g, 0, none⟩) k 6)) hrz) (grownSet _ w.heap.size 1 (.slice fp T fc)) hrz)
    have HGR := Lib.hid (grownOwn (grownOwn HG3.out (grownSet _ w.heap.size 0 (.slice (some ⟨g, 0, none⟩) k 6)) (Nat.le_refl _)) (grownSet _ w.heap.size 1 (.slice fp T fc)) (Nat.le_refl _))
    clear hz hbx hfin
    go_wp2
    rw [hT] at *
    refine bodyPost_ret (v := .agg #[.slice (some ⟨g, 0, none⟩) k 6, .slice fp L.length fc]) (by simp [results, Try.results10, go_sem, k0, k1]) rfl ?_
    exact ⟨_, k, 6, fp, L, fc, sixB.take k, n2, rfl, hlk.symm, by omega, owns_mono HNN.out (by omega), owns_mono HOO.out (by omega), by omega, HOK.out, a2, by omega, HCU.out, HGR.out, sixB_size⟩
  have hLp : ¬ (L.length : Int) = 0 := by omega
  have b0 := HB3.out.cell (i := 0) rfl
  have b1 := HB3.out.cell (i := 1) rfl
  go_wp2_with fail
  refine (pick_any HX.out (L.length : Int) HF3.out hr (by omega) (by omega) (by omega) HC3.out).mono ?_
  rintro e w4 ⟨x4, n4, ⟨p4, q4⟩, rfl, a4, b4, hc4, hg4⟩
  obtain ⟨i, rfl⟩ : ∃ i : Nat, x4 = (i : Int) := ⟨x4.toNat, by omega⟩
  have hi : i < L.length := by omega
  have hiz : (i : Int) < (L.length : Int) := by omega
  have HF4 := Lib.hid (freshGrown HF3.out hg4 hr)
  have HC4 := Lib.hid hc4
  have HG4 := Lib.hid (grownTrans HG3.out hg4)
  have HZ4 := Lib.hid (HZ3.out.grown hg4 (by omega))
  have HB4 := Lib.hid (HB3.out.grown hg4 (by omega))
  have HN4 := Lib.hid (owns_grown HN3.out hg4 (by omega))
  have HW4 := Lib.hid (owns_grown HW3.out hg4 (by omega))
  clear hc4 hg4 p4 q4 b0 b1 HF3 HC3 HG3 HZ3 HB3 HN3 HW3
  have b1 := HB4.out.cell (i := 1) rfl
  go_upto_region 5 with fail
  obtain ⟨p', c', hpc, hown, hlc, hcm⟩ := owns_cap HW4.out
  cases hpc
  have hFi : Fibs w4 fp L := hown.cells
  obtain ⟨bd, od, a1, a2', a3, a4', hpe, hx, d0, d1, d2, d3⟩ := hFi.at hi
  have hmem : (⟨a1, a2', a3, a4'⟩ : Fib) ∈ L := List.mem_of_getElem? hx
  have hfb := HOK.out _ hmem
  clear hFi hown hx hmem
  obtain ⟨bF, hbF⟩ : ∃ b, b = w4.heap.size := ⟨_, rfl⟩
  obtain ⟨W5, hW5⟩ : ∃ W, W = w4.alloc (.cells #[.int .i64 a1, .int .i64 a2', .int .i64 a3, .int .i64 a4'] 59) := ⟨_, rfl⟩
  have hf5 : Fresh w4 W5 := by rw [hW5]; exact fnew (frefl _) _
  have hbf5 : RowAt W5 bF 59 (fibC ⟨a1, a2', a3, a4'⟩) := by rw [hW5, hbF]; exact RowAt.new _ _ _
  have hwf : w.heap.size < bF := by have := HZ4.out.lt; omega
  have hNF : bN < bF := by have := HB4.out.lt; omega
  have hN5 := ownsRow_keep HN4.out hf5
  obtain ⟨l, hl⟩ : ∃ l, l = sixB.take k := ⟨_, rfl⟩
  rw [← hl] at hN5 hlk
  have hst : ∀ kk, kk = l.length → Hid (AnSt W0 w W5 r (.slice p xs.length cap) bN bF n4 (some ⟨g, 0, none⟩) 6 l fp fc L ⟨a1, a2', a3, a4'⟩) := by
    rintro kk -
    exact ⟨fstep HF4.out hf5, grownTrans HG4.out (grownFresh hf5 _), HC4.out.keep hf5, by rw [hlk]; exact hN5, by rw [hlk]; exact HB4.out.keep hf5, hbf5, HZ4.out.keep hf5, ownsRow_keep HW4.out hf5, HOK.out, hfb, fun c k e => by have h1 := owns_lt HW4.out (g := c) (by rw [e]; rfl); omega, by rw [hl]; exact sixB_size⟩
  have HST := hst _ rfl
  clear hst hN5 hbf5 hf5 hfb HN4 HB4 HW4 HZ4 HG4 HC4 HF4
  clear hl hlc hcm
  subst hlk
  subst hpe
  go_upto_region 6 with fail
  rw [← hbF, ← hW5]
  clear b1 d0 d1 d2 d3 hbF hW5 hiz hL hLp
  go_wp2_with fail
  refine (pick_any HX.out 24 HST.out.fr hr (by omega) (by omega) (by omega) HST.out.cu).mono ?_
  rintro e w6 ⟨x6, n6, ⟨p6, q6⟩, rfl, a6, b6, hc6, hg6⟩
  have HS6 := Lib.hid (HST.out.grown hrw hwb hwf hg6 hc6 (freshGrown HST.out.fr hg6 hr))
  clear hc6 hg6 HST
  have hWN : W0.heap.size ≤ bN := by omega
  have hWF : W0.heap.size ≤ bF := by omega
  have hx24 : 0 ≤ x6 ∧ x6 < 24 := by omega
  clear p6 q6
  go_upto_if 25 with fail
  refine wp_unblock ?_
  go_cut [24, 25] (fun _ _ wx => AnMid W0 w r (.slice p xs.length cap) bN bF n i wx)
  case rest =>
    obtain ⟨m, np, nc, l', fp', fc', L', f', m0, m1, hl16, hL20, hi', st⟩ := hcut
    have hq : w.heap.size + 1 ≤ wc.heap.size := by have := st.zr.lt; omega
    have b1 := st.bx.cell (i := 1) rfl
    obtain ⟨p7, c7, hpc, hown, hlc, hcm⟩ := owns_cap st.ow
    cases hpc
    have hFi : Fibs wc fp' L' := hown.cells
    obtain ⟨be, oe, z1, z2, z3, z4, hpe, hx, d0, d1, d2, d3⟩ := hFi.at hi'
    obtain rfl : oe = 0 := by
      rcases hown with ⟨h0, h1⟩ | ⟨gg, sp, h0, _⟩
      · rw [hpe] at h0; cases h0
      · rw [hpe] at h0; cases h0; rfl
    obtain ⟨fa, fb, fl, fk⟩ := f'
    have v0 := st.bf.cell (i := 0) rfl
    have v1 := st.bf.cell (i := 1) rfl
    have v2 := st.bf.cell (i := 2) rfl
    have v3 := st.bf.cell (i := 3) rfl
    have hiz : (i : Int) < (L'.length : Int) := by omega
    have hfz : ∀ o, wc.frozen? ⟨be, o, none⟩ = false := by
      subst hpe
      obtain ⟨_, h2 | ⟨gb, cp, cur, hv, _, hh, _⟩⟩ := st.ow
      · exact absurd h2.2 (by omega)
      · cases hv
        intro o
        simp [World.frozen?, hh]
    rw [Nat.zero_add] at d0 d1 d2 d3
    have y0 := hfz (i * 4)
    have y1 := hfz (i * 4 + 1)
    have y2 := hfz (i * 4 + 2)
    have y3 := hfz (i * 4 + 3)
    have HST := Lib.hid st
    have HFA := Lib.hid hown
    clear hFi hown hx hlc hcm hfz st
    subst hpe
    obtain ⟨W7, hW7⟩ : ∃ W, W = (((wc.setCell ⟨be, i * 4, none⟩ (iv fa)).setCell ⟨be, i * 4 + 1, none⟩ (iv fb)).setCell ⟨be, i * 4 + 2, none⟩ (iv fl)).setCell ⟨be, i * 4 + 3, none⟩ (iv fk) := ⟨_, rfl⟩
    have hAR : AnRow W0 w r (.slice p xs.length cap) bN be m np nc l' (some ⟨be, 0, none⟩) fc' L'.length W7 := by
      obtain ⟨h1, h2⟩ := HST.out.row
      rw [hW7]
      exact (((h1.set hr hrw h2 _ _).set hr hrw h2 _ _).set hr hrw h2 _ _).set hr hrw h2 _ _
    have HOW7 : Hid (W7.ownsRow (w.heap.size + 1) 59 4 (.slice (some ⟨be, 0, none⟩) (L'.set i ⟨fa, fb, fl, fk⟩).length fc') (L'.set i ⟨fa, fb, fl, fk⟩).length ((L'.set i ⟨fa, fb, fl, fk⟩).flatMap fibC)) := by
      rw [hW7]; exact owns_putF ⟨fa, fb, fl, fk⟩ HST.out.ow hi'
    have HOK7 : Hid (∀ g ∈ L'.set i ⟨fa, fb, fl, fk⟩, FbS g) := set_ok HST.out.ok HST.out.fk
    have HLS : Hid ((L'.set i ⟨fa, fb, fl, fk⟩).length = L'.length) := List.length_set ..
    have HNZ := Lib.hid HST.out.nz
    go_upto_region 26 with fail
    rw [← hW7]
    obtain ⟨L7, hL7⟩ : ∃ L7, L7 = L'.set i ⟨fa, fb, fl, fk⟩ := ⟨_, rfl⟩
    rw [← hL7] at HOW7 HOK7 HLS
    obtain ⟨T, hT⟩ : ∃ T : Nat, T = L'.length := ⟨_, rfl⟩
    rw [← hT] at hAR HLS
    rw [HLS.out] at HOW7
    have hT20 : T ≤ 20 := by omega
    clear hL7 hW7 b1 d0 d1 d2 d3 y0 y1 y2 y3 v0 v1 v2 v3 HST HFA hiz hi' hL20 hT
    obtain ⟨k1, k2, k3, k4, k5, k6, -⟩ := hAR
    have HK1 := Lib.hid k1
    have HK2 := Lib.hid k2
    have HK3 := Lib.hid k3
    have HK4 := Lib.hid k4
    have HK5 := Lib.hid k5
    have HK6 := Lib.hid k6
    clear k1 k2 k3 k4 k5 k6
    have hz := HK6.out
    have hbx := HK5.out
    have b0 := hbx.cell (i := 0) rfl
    have b1 := hbx.cell (i := 1) rfl
    have y0 := hz.cell (i := 0) rfl
    have y1 := hz.cell (i := 1) rfl
    have u0 := hz.frozen 0
    have u1 := hz.frozen 1
    have hfin := (hz.set 0 (.slice np l'.length nc)).set 1 (.slice (some ⟨be, 0, none⟩) T fc')
    have k0 := hfin.cell (i := 0) rfl
    have k1 := hfin.cell (i := 1) rfl
    have hrz : r ≠ w.heap.size := by omega
    have HNN := Lib.hid (owns_setO (u := .slice (some ⟨be, 0, none⟩) T fc') (owns_setO (u := .slice np l'.length nc) HK4.out hz (by decide) 0) (hz.set 0 _) (by decide) 1)
    have HOO := Lib.hid (owns_setO (u := .slice (some ⟨be, 0, none⟩) T fc') (owns_setO (u := .slice np l'.length nc) HOW7.out hz (by decide) 0) (hz.set 0 _) (by decide) 1)
    have HCU := Lib.hid (Cur.grown (Cur.grown HK3.out (grownSet _ w.heap.size 0 (.slice np l'.length nc)) hrz) (grownSet _ w.heap.size 1 (.slice (some ⟨be, 0, none⟩) T fc')) hrz)
    have HGR := Lib.hid (grownOwn (grownOwn HK2.out (grownSet _ w.heap.size 0 (.slice np l'.length nc)) (Nat.le_refl _)) (grownSet _ w.heap.size 1 (.slice (some ⟨be, 0, none⟩) T fc')) (Nat.le_refl _))
    clear hz hbx hfin
    go_wp2
    refine bodyPost_ret (v := .agg #[.slice np l'.length nc, .slice (some ⟨be, 0, none⟩) T fc']) (by simp [results, Try.results10, go_sem, k0, k1]) rfl ?_
    have hTL := HLS.out
    exact ⟨_, l'.length, nc, some ⟨be, 0, none⟩, L7, fc', l', m, by rw [hTL], rfl, hl16, owns_mono HNN.out (by omega), by rw [hTL]; exact owns_mono HOO.out (by omega), by omega, HOK7.out, m0, by omega, HCU.out, HGR.out, HNZ.out⟩
  case first =>
    by_cases e8 : 8 ≤ x6
    · have t0 : (x6 == 0) = false := by simp; omega
      have t1 : (x6 == 1) = false := by simp; omega
      have t2 : (x6 == 2) = false := by simp; omega
      have t3 : (x6 == 3) = false := by simp; omega
      have t4 : (x6 == 4) = false := by simp; omega
      have t5 : (x6 == 5) = false := by simp; omega
      have t6 : (x6 == 6) = false := by simp; omega
      have t7 : (x6 == 7) = false := by simp; omega
      go_wp2
      go_meet
      case rel => exact ⟨n6, _, _, _, _, _, _, _, by omega, by omega, by omega, by omega, hi, HS6.out⟩
    · have hfk := HS6.out.fk
      by_cases e0 : x6 = 0
      · have t0 : (x6 == 0) = true := by simp; omega
        clear e0
        have hl0 : 0 < l.length := by omega
        have b0 := HS6.out.s0
        go_upto_region 8 with fail
        refine hd_start (n := 6) (S := fun w' => w'.cell? ⟨bN, 0, none⟩ = some (.slice (some ⟨g, 0, none⟩) l.length 6)) (by kernel_rfl) (by kernel_rfl) (fkeep (fdrew (frefl _)) b0) (fun hHeld => ?_)
        obtain ⟨c0, hc0⟩ : ∃ W, W = w6.drew := ⟨_, rfl⟩
        rw [← hc0] at hHeld ⊢
        have stc := HS6.out.fresh (show Fresh w6 c0 by rw [hc0]; exact fdrew (frefl _))
        clear hc0
        refine hd_tk (i := 0) (v := ?_) rfl ?_ ?_
        rotate_left
        · (intro w hSw; (try dsimp only at hSw); go_simp; first | done | with_reducible rfl)
        try simp only [PU]
        refine hd_tk (i := 1) (v := ?_) rfl ?_ ?_
        rotate_left
        · (intro w hSw; (try dsimp only at hSw); go_simp; first | done | with_reducible rfl)
        try simp only [PU]
        refine hd_tk (i := 2) (v := ?_) rfl ?_ ?_
        rotate_left
        · (intro w hSw; (try dsimp only at hSw); go_simp; first | done | with_reducible rfl)
        try simp only [PU]
        refine hd_one (i := 3) rfl (by kernel_rfl) (by kernel_rfl) (fun K hK => ?_)
        go_simp
        obtain ⟨wa, hwa⟩ : ∃ W, W = c0.alloc (.cells #[.string ⟨#[98]⟩, .string ⟨#[]⟩, .string ⟨#[65]⟩, .string ⟨#[97, 98, 99, 100, 101, 102, 103, 104]⟩, .string ⟨#[97, 98, 99, 100, 101, 102, 103, 104, 105]⟩, .string ⟨#[120, 49]⟩] 9) := ⟨_, rfl⟩
        rw [← hwa]
        obtain ⟨q3, hq3⟩ : ∃ q, q = c0.heap.size := ⟨_, rfl⟩
        have r3 : RowAt wa q3 9 (sixT.map .string) := by rw [hwa, hq3]; exact RowAt.new _ _ _
        have hq3r : q3 ≠ r := by have := stc.zr.lt; omega
        have st3 := stc.fresh (show Fresh c0 wa by rw [hwa]; exact fnew (frefl _) _)
        rw [← hq3]
        clear hwa hq3
        refine hK.out _ _ ?_ (fun hHeld => ?_)
        · exact st3.s0
        clear hK K
        try simp only [PU]
        refine hd_one (i := 4) rfl (by kernel_rfl) (by kernel_rfl) (fun K hK => ?_)
        go_simp
        go_at_call 29
        refine (of_any HX.out (some ⟨q3, 0, none⟩) 6 sixT r3.cells (by decide) (fun b o e => by cases e; exact hq3r) st3.fr hr (by omega) (by omega) (by decide) st3.cu).mono ?_
        rintro e w8 ⟨s8, n8, hs8, rfl, a8, b8, hc8, hg8⟩
        have hz8 : s8.size ≤ 16 := by unfold sixT at hs8; simp at hs8; rcases hs8 with rfl | rfl | rfl | rfl | rfl | rfl <;> decide
        clear hs8
        have st8 := st3.grown hrw hwb hwf hg8 hc8 (freshGrown st3.fr hg8 hr)
        clear hc8 hg8 r3
        go_wp2_with fail
        refine hK.out _ _ ?_ (fun hHeld => ?_)
        · exact st8.s0
        clear hK K
        try simp only [PU]
        refine hd_tk (i := 5) (v := ?_) rfl ?_ ?_
        rotate_left
        · (intro w hSw; (try dsimp only at hSw); go_simp; first | done | with_reducible rfl)
        try simp only [PU]
        refine hd_done (by kernel_rfl) ?_
        clear hHeld
        simp only [List.drop_succ_cons, List.drop_zero]
        obtain ⟨⟨vv, v0⟩, y0⟩ := st8.n0 hl0
        have HS8 := Lib.hid (st8.name hr hrw hl0 s8 hz8)
        clear st8 st3 stc b0
        go_wp2
        go_meet
        case rel => exact ⟨n8, _, _, _, _, _, _, _, by omega, by omega, by rw [List.length_set]; omega, by omega, hi, HS8.out⟩
      by_cases e1 : x6 = 1
      · skip
        have t0 : (x6 == 0) = false := by simp; omega
        have t1 : (x6 == 1) = true := by simp; omega
        clear e1
        go_wp2_with fail
        refine (pick_any HX.out 8 HS6.out.fr hr (by omega) (by omega) (by omega) HS6.out.cu).mono ?_
        rintro e w8 ⟨x8, n8, ⟨p8, q8⟩, rfl, a8, b8, hc8, hg8⟩
        have HS8 := Lib.hid (HS6.out.grown hrw hwb hwf hg8 hc8 (freshGrown HS6.out.fr hg8 hr))
        clear hc8 hg8
        have w8a : IntKind.i64.wrap (x8 - 1) = x8 - 1 := by rw [IntKind.wrap_i64]; omega
        have v0 := HS8.out.bf.cell (i := 0) rfl
        have y0 := HS8.out.bf.frozen 0
        have hab : Ab (x8 - 1) := by unfold Ab; omega
        go_wp2
        go_meet
        case rel => exact ⟨n8, _, _, _, _, _, _, ⟨x8 - 1, a2', a3, a4'⟩, by omega, by omega, by omega, by omega, hi, HS8.out.setF hWF hrw hwf hNF 0 (x8 - 1) ⟨x8 - 1, a2', a3, a4'⟩ rfl ⟨hab, hfk.2.1, hfk.2.2.1, hfk.2.2.2⟩⟩
      by_cases e2 : x6 = 2
      · skip
        have t0 : (x6 == 0) = false := by simp; omega
        have t1 : (x6 == 1) = false := by simp; omega
        have t2 : (x6 == 2) = true := by simp; omega
        clear e2
        go_wp2_with fail
        refine (pick_any HX.out 10 HS6.out.fr hr (by omega) (by omega) (by omega) HS6.out.cu).mono ?_
        rintro e w8 ⟨x8, n8, ⟨p8, q8⟩, rfl, a8, b8, hc8, hg8⟩
        have HS8 := Lib.hid (HS6.out.grown hrw hwb hwf hg8 hc8 (freshGrown HS6.out.fr hg8 hr))
        clear hc8 hg8
        have w8a : IntKind.i64.wrap (x8 - 1) = x8 - 1 := by rw [IntKind.wrap_i64]; omega
        have v0 := HS8.out.bf.cell (i := 1) rfl
        have y0 := HS8.out.bf.frozen 1
        have hab : Ab (x8 - 1) := by unfold Ab; omega
        go_wp2
        go_meet
        case rel => exact ⟨n8, _, _, _, _, _, _, ⟨a1, x8 - 1, a3, a4'⟩, by omega, by omega, by omega, by omega, hi, HS8.out.setF hWF hrw hwf hNF 1 (x8 - 1) ⟨a1, x8 - 1, a3, a4'⟩ rfl ⟨hfk.1, hab, hfk.2.2.1, hfk.2.2.2⟩⟩
      by_cases e3 : x6 = 3
      · skip
        have t0 : (x6 == 0) = false := by simp; omega
        have t1 : (x6 == 1) = false := by simp; omega
        have t2 : (x6 == 2) = false := by simp; omega
        have t3 : (x6 == 3) = true := by simp; omega
        clear e3
        obtain ⟨q7, hq7⟩ : ∃ q, q = w6.heap.size := ⟨_, rfl⟩
        obtain ⟨W7, hW7⟩ : ∃ W, W = w6.alloc (.cells #[.int .i64 0, .int .i64 1, .int .i64 5000, .int .i64 5001] 3) := ⟨_, rfl⟩
        have hf7 : Fresh w6 W7 := by rw [hW7]; exact fnew (frefl _) _
        have hr7 : RowAt W7 q7 3 (([0, 1, 5000, 5001] : List Int).map iv) := by rw [hW7, hq7]; exact RowAt.new _ _ _
        have hqr : q7 ≠ r := by have := HS6.out.zr.lt; omega
        have HS7 := Lib.hid (HS6.out.fresh hf7)
        have HAM := Lib.hid (among_any HX.out (some ⟨q7, 0, none⟩) 4 [0, 1, 5000, 5001] hr7.cells (by simp) (fun b o e => by cases e; exact hqr) HS7.out.fr hr (by omega) (by omega) (by simp) HS7.out.cu)
        simp only [List.length_cons, List.length_nil] at HAM
        have HQ7 := Lib.hid hq7
        have HW7 := Lib.hid hW7
        clear hf7 hr7 hq7 hW7
        go_wp2_with fail
        rw [← HQ7.out, ← HW7.out]
        refine (HAM.out).mono ?_
        rintro e w8 ⟨x8, n8, hz8, rfl, a8, b8, hc8, hg8⟩
        have hzb : -1 ≤ x8 ∧ x8 ≤ 5001 := by simp at hz8; omega
        have HS8 := Lib.hid (HS7.out.grown hrw hwb hwf hg8 hc8 (freshGrown HS7.out.fr hg8 hr))
        clear hc8 hg8 hz8
        have v0 := HS8.out.bf.cell (i := 2) rfl
        have y0 := HS8.out.bf.frozen 2
        have hab : Ab x8 := by unfold Ab; omega
        go_wp2
        go_meet
        case rel => exact ⟨n8, _, _, _, _, _, _, ⟨a1, a2', x8, a4'⟩, by omega, by omega, by omega, by omega, hi, HS8.out.setF hWF hrw hwf hNF 2 x8 ⟨a1, a2', x8, a4'⟩ rfl ⟨hfk.1, hfk.2.1, hab, hfk.2.2.2⟩⟩
      by_cases e4 : x6 = 4
      · skip
        have t0 : (x6 == 0) = false := by simp; omega
        have t1 : (x6 == 1) = false := by simp; omega
        have t2 : (x6 == 2) = false := by simp; omega
        have t3 : (x6 == 3) = false := by simp; omega
        have t4 : (x6 == 4) = true := by simp; omega
        clear e4
        obtain ⟨q7, hq7⟩ : ∃ q, q = w6.heap.size := ⟨_, rfl⟩
        obtain ⟨W7, hW7⟩ : ∃ W, W = w6.alloc (.cells #[.int .i64 (-1), .int .i64 9, .int .i64 10] 3) := ⟨_, rfl⟩
        have hf7 : Fresh w6 W7 := by rw [hW7]; exact fnew (frefl _) _
        have hr7 : RowAt W7 q7 3 (([-1, 9, 10] : List Int).map iv) := by rw [hW7, hq7]; exact RowAt.new _ _ _
        have hqr : q7 ≠ r := by have := HS6.out.zr.lt; omega
        have HS7 := Lib.hid (HS6.out.fresh hf7)
        have HAM := Lib.hid (among_any HX.out (some ⟨q7, 0, none⟩) 3 [-1, 9, 10] hr7.cells (by simp) (fun b o e => by cases e; exact hqr) HS7.out.fr hr (by omega) (by omega) (by simp) HS7.out.cu)
        simp only [List.length_cons, List.length_nil] at HAM
        have HQ7 := Lib.hid hq7
        have HW7 := Lib.hid hW7
        clear hf7 hr7 hq7 hW7
        go_wp2_with fail
        rw [← HQ7.out, ← HW7.out]
        refine (HAM.out).mono ?_
        rintro e w8 ⟨x8, n8, hz8, rfl, a8, b8, hc8, hg8⟩
        have hzb : -1 ≤ x8 ∧ x8 ≤ 5001 := by simp at hz8; omega
        have HS8 := Lib.hid (HS7.out.grown hrw hwb hwf hg8 hc8 (freshGrown HS7.out.fr hg8 hr))
        clear hc8 hg8 hz8
        have v0 := HS8.out.bf.cell (i := 3) rfl
        have y0 := HS8.out.bf.frozen 3
        have hab : Ab x8 := by unfold Ab; omega
        go_wp2
        go_meet
        case rel => exact ⟨n8, _, _, _, _, _, _, ⟨a1, a2', a3, x8⟩, by omega, by omega, by omega, by omega, hi, HS8.out.setF hWF hrw hwf hNF 3 x8 ⟨a1, a2', a3, x8⟩ rfl ⟨hfk.1, hfk.2.1, hfk.2.2.1, hab⟩⟩
      by_cases e5 : x6 = 5
      · have t0 : (x6 == 0) = false := by simp; omega
        have t1 : (x6 == 1) = false := by simp; omega
        have t2 : (x6 == 2) = false := by simp; omega
        have t3 : (x6 == 3) = false := by simp; omega
        have t4 : (x6 == 4) = false := by simp; omega
        have t5 : (x6 == 5) = true := by simp; omega
        clear e5
        have hl0 : 0 < L.length := by omega
        obtain ⟨be, xa, xb, xc, xd, hpe, hx, d0, d1, d2, d3⟩ := HS6.out.f0 hl0
        cases hpe
        rw [Nat.zero_mul] at d0 d1 d2 d3
        rw [Nat.zero_add] at d1 d2 d3
        have b1 := HS6.out.s1
        go_upto_region 18 with fail
        refine hd_start (n := 7) (S := fun w' => w'.cell? ⟨bN, 1, none⟩ = some (.slice (some ⟨bd, 0, none⟩) L.length fc) ∧ w'.cell? ⟨bd, 0, none⟩ = some (.int .i64 xa) ∧ w'.cell? ⟨bd, 1, none⟩ = some (.int .i64 xb) ∧ w'.cell? ⟨bd, 2, none⟩ = some (.int .i64 xc) ∧ w'.cell? ⟨bd, 3, none⟩ = some (.int .i64 xd)) (by kernel_rfl) (by kernel_rfl) ⟨fkeep (fdrew (frefl _)) b1, fkeep (fdrew (frefl _)) d0, fkeep (fdrew (frefl _)) d1, fkeep (fdrew (frefl _)) d2, fkeep (fdrew (frefl _)) d3⟩ (fun hHeld => ?_)
        obtain ⟨c0, hc0⟩ : ∃ W, W = w6.drew := ⟨_, rfl⟩
        rw [← hc0] at hHeld ⊢
        have stc := HS6.out.fresh (show Fresh w6 c0 by rw [hc0]; exact fdrew (frefl _))
        have hfc : Fresh w6 c0 := by rw [hc0]; exact fdrew (frefl _)
        clear hc0
        refine hd_tk (i := 0) (v := ?_) rfl ?_ ?_
        rotate_left
        · (intro w hSw; (try dsimp only at hSw); go_simp; first | done | with_reducible rfl)
        try simp only [PU]
        refine hd_tk (i := 1) (v := ?_) rfl ?_ ?_
        rotate_left
        · (intro w hSw; (try dsimp only at hSw); go_simp; first | done | with_reducible rfl)
        try simp only [PU]
        refine hd_tk (i := 2) (v := ?_) rfl ?_ ?_
        rotate_left
        · (intro w hSw; (try dsimp only at hSw); go_simp; first | done | with_reducible rfl)
        try simp only [PU]
        refine hd_tk (i := 3) (v := ?_) rfl ?_ ?_
        rotate_left
        · (intro w hSw; (try dsimp only at hSw); go_simp; first | done | with_reducible rfl)
        try simp only [PU]
        refine hd_tk (i := 4) (v := ?_) rfl ?_ ?_
        rotate_left
        · (intro w hSw; (try dsimp only at hSw); go_simp; first | done | with_reducible rfl)
        try simp only [PU]
        refine hd_tk (i := 5) (v := ?_) rfl ?_ ?_
        rotate_left
        · (intro w hSw; (try dsimp only at hSw); go_simp; first | done | with_reducible rfl)
        try simp only [PU]
        refine hd_one (i := 6) rfl (by kernel_rfl) (by kernel_rfl) (fun K hK => ?_)
        go_simp
        obtain ⟨wa, hwa⟩ : ∃ W, W = c0.alloc (.cells #[.int .i64 xa, .int .i64 xb, .int .i64 xc, .int .i64 xd] 59) := ⟨_, rfl⟩
        rw [← hwa]
        obtain ⟨q6, hq6⟩ : ∃ q, q = c0.heap.size := ⟨_, rfl⟩
        have r6 : RowAt wa q6 59 (fibC ⟨xa, xb, xc, xd⟩) := by rw [hwa, hq6]; exact RowAt.new _ _ _
        have hfa : Fresh c0 wa := by rw [hwa]; exact fnew (frefl _) _
        have sta := stc.fresh hfa
        rw [← hq6]
        clear hwa hq6
        refine hK.out _ _ ?_ (fun hHeld => ?_)
        · obtain ⟨g1, g2, g3, g4, g5⟩ := hHeld
          exact ⟨fkeep hfa g1, fkeep hfa g2, fkeep hfa g3, fkeep hfa g4, fkeep hfa g5⟩
        clear hK K
        try simp only [PU]
        refine hd_done (by kernel_rfl) ?_
        clear hHeld
        simp only [List.drop_succ_cons, List.drop_zero]
        have hsza : w.heap.size + 1 ≤ wa.heap.size := by have := sta.zr.lt; omega
        refine wpList_app_gr Try.underlying25 infoFib rfl (by decide) (by decide) (w.heap.size + 1) wa _ L.length (L.flatMap fibC) q6 1 1 (fibC ⟨xa, xb, xc, xd⟩) rfl _ _ rfl rfl sta.ow rfl r6.cells rfl (by intro a ha; simp at ha; rcases ha with rfl | rfl | rfl | rfl <;> rfl) (by decide) (by omega) (by decide) hsza ?_
        intro q8 c8 w8 hown8 hg8
        have hln : (L ++ [(⟨xa, xb, xc, xd⟩ : Fib)]).length = L.length + 1 := by simp
        have hbx8 : RowAt w8 bN 27 _ := row_grown0 sta.ow hg8 sta.bx (by decide)
        have v1 := hbx8.cell (i := 1) rfl
        have y1 := hbx8.frozen 1
        have HS8 : Hid (AnSt W0 w (w8.setCell ⟨bN, 1, none⟩ (.slice q8 (L.length + 1) c8)) r (.slice p xs.length cap) bN bF n6 (some ⟨g, 0, none⟩) 6 l q8 c8 (L ++ [(⟨xa, xb, xc, xd⟩ : Fib)]) ⟨a1, a2', a3, a4'⟩) := by
          have := sta.app (fp' := q8) (fc' := c8) (L' := L ++ [(⟨xa, xb, xc, xd⟩ : Fib)]) hr hWN hrw hwb hg8 (by rw [hln, List.flatMap_append]; exact hown8) (by rw [hln]; omega) (by
            intro y hy
            rcases List.mem_append.1 hy with hy | hy
            · exact sta.ok y hy
            · simp at hy; subst hy; exact sta.ok _ (List.mem_of_getElem? hx))
          rw [hln] at this; exact this
        clear hown8 hg8 hbx8 sta stc r6 hfa hsza hx b1 d0 d1 d2 d3
        go_wp2
        go_meet
        case rel => exact ⟨n6, _, _, _, _, _, _, _, by omega, by omega, by omega, by rw [hln]; omega, by rw [hln]; omega, HS8.out⟩
      by_cases e6 : x6 = 6
      · have t0 : (x6 == 0) = false := by simp; omega
        have t1 : (x6 == 1) = false := by simp; omega
        have t2 : (x6 == 2) = false := by simp; omega
        have t3 : (x6 == 3) = false := by simp; omega
        have t4 : (x6 == 4) = false := by simp; omega
        have t5 : (x6 == 5) = false := by simp; omega
        have t6 : (x6 == 6) = true := by simp; omega
        clear e6
        go_wp2
        go_loopw [] (fun wr => ∃ (m : Int) (fp : Option Addr) (fc : Nat) (L' : List Fib), 1 ≤ L'.length ∧ L'.length ≤ 15 ∧ n ≤ m ∧ m ≤ n + 210 + 2 * (L'.length : Int) ∧ AnSt W0 w wr r (.slice p xs.length cap) bN bF m (some ⟨g, 0, none⟩) 6 l fp fc L' ⟨a1, a2', a3, a4'⟩) (fun wr => 20 - lenAt wr bN)
        case atStart => exact ⟨n6, _, _, L, by omega, by omega, by omega, by omega, HS6.out⟩
        case round =>
          obtain ⟨m, fp, fc', L', l1, l15, m0, m1, st⟩ := hrel
          have HST := Lib.hid st
          have hL0 := lenAt_of st.s1
          have HL0 := Lib.hid hL0
          clear st hL0 HS6
          have b1 := HST.out.s1
          go_upto_region 20 with fail
          refine hd_start (n := 6) (S := fun w' => w'.cell? ⟨bN, 1, none⟩ = some (.slice fp L'.length fc')) (by kernel_rfl) (by kernel_rfl) (fkeep (fdrew (frefl _)) b1) (fun hHeld => ?_)
          obtain ⟨c0, hc0⟩ : ∃ W, W = wr.drew := ⟨_, rfl⟩
          rw [← hc0] at hHeld ⊢
          have stc := HST.out.fresh (show Fresh wr c0 by rw [hc0]; exact fdrew (frefl _))
          clear hc0 b1
          refine hd_tk (i := 0) (v := ?_) rfl ?_ ?_
          rotate_left
          · (intro w hSw; (try dsimp only at hSw); go_simp; first | done | with_reducible rfl)
          try simp only [PU]
          refine hd_tk (i := 1) (v := ?_) rfl ?_ ?_
          rotate_left
          · (intro w hSw; (try dsimp only at hSw); go_simp; first | done | with_reducible rfl)
          try simp only [PU]
          refine hd_tk (i := 2) (v := ?_) rfl ?_ ?_
          rotate_left
          · (intro w hSw; (try dsimp only at hSw); go_simp; first | done | with_reducible rfl)
          try simp only [PU]
          refine hd_tk (i := 3) (v := ?_) rfl ?_ ?_
          rotate_left
          · (intro w hSw; (try dsimp only at hSw); go_simp; first | done | with_reducible rfl)
          try simp only [PU]
          refine hd_one (i := 4) rfl (by kernel_rfl) (by kernel_rfl) (fun K hK => ?_)
          go_simp
          go_at_call 16
          refine (pick_any HX.out 2 stc.fr hr (by omega) (by omega) (by omega) stc.cu).mono ?_
          rintro e w8 ⟨x8, n8, ⟨p8, q8⟩, rfl, a8, b8, hc8, hg8⟩
          have st8 := stc.grown hrw hwb hwf hg8 hc8 (freshGrown stc.fr hg8 hr)
          have hx8 : 0 ≤ x8 ∧ x8 ≤ 1 := by omega
          have w8a : IntKind.i64.wrap (14 + x8) = 14 + x8 := by rw [IntKind.wrap_i64]; omega
          clear hc8 hg8 p8 q8
          go_wp2_with fail
          refine hK.out _ _ ?_ (fun hHeld => ?_)
          · exact st8.s1
          clear hK K
          try simp only [PU]
          refine hd_tk (i := 5) (v := ?_) rfl ?_ ?_
          rotate_left
          · (intro w hSw; (try dsimp only at hSw); go_simp; first | done | with_reducible rfl)
          try simp only [PU]
          refine hd_done (by kernel_rfl) ?_
          clear hHeld
          simp only [List.drop_succ_cons, List.drop_zero]
          have HS8 := Lib.hid st8
          clear st8 stc
          by_cases hlt : (L'.length : Int) < 14 + x8
          · have hl14 : L'.length ≤ 14 := by omega
            obtain ⟨k, hk⟩ : ∃ k, k = L'.length - 1 := ⟨_, rfl⟩
            have hkl : k < L'.length := by omega
            obtain ⟨be, xa, xb, xc, xd, hpe, hx, d0, d1, d2, d3⟩ := HS8.out.f0 hkl
            subst hpe
            have b1 := HS8.out.s1
            have hk1 : IntKind.i64.wrap (k : Int) = (k : Int) := by rw [IntKind.wrap_i64]; omega
            have hk2 : (L'.length : Int) - 1 = (k : Int) := by omega
            have hk3 : (k : Int) < (L'.length : Int) := by omega
            have hk4 : 0 ≤ (k : Int) := by omega
            have HK := Lib.hid hk
            clear hk
            have hm8 : n8 ≤ n + 212 + 2 * (L'.length : Int) := by omega
            have hm0 : n ≤ n8 := by omega
            clear hk2
            go_upto_region 21 with fail
            refine hd_start (n := 11) (S := fun w' => w'.cell? ⟨bN, 1, none⟩ = some (.slice (some ⟨be, 0, none⟩) L'.length fc') ∧ w'.cell? ⟨be, k * 4, none⟩ = some (.int .i64 xa) ∧ w'.cell? ⟨be, k * 4 + 1, none⟩ = some (.int .i64 xb) ∧ w'.cell? ⟨be, k * 4 + 2, none⟩ = some (.int .i64 xc) ∧ w'.cell? ⟨be, k * 4 + 3, none⟩ = some (.int .i64 xd)) (by kernel_rfl) (by kernel_rfl) ⟨fkeep (fdrew (frefl _)) b1, fkeep (fdrew (frefl _)) d0, fkeep (fdrew (frefl _)) d1, fkeep (fdrew (frefl _)) d2, fkeep (fdrew (frefl _)) d3⟩ (fun hHeld => ?_)
            obtain ⟨c0, hc0⟩ : ∃ W, W = w8.drew := ⟨_, rfl⟩
            rw [← hc0] at hHeld ⊢
            have stc := HS8.out.fresh (show Fresh w8 c0 by rw [hc0]; exact fdrew (frefl _))
            clear hc0
            have hk2 : (L'.length : Int) - 1 = (k : Int) := by have := HK.out; omega
            refine hd_tk (i := 0) (v := ?_) rfl ?_ ?_
            rotate_left
            · (intro w hSw; (try dsimp only at hSw); go_simp; first | done | with_reducible rfl)
            try simp only [PU]
            refine hd_tk (i := 1) (v := ?_) rfl ?_ ?_
            rotate_left
            · (intro w hSw; (try dsimp only at hSw); go_simp; first | done | with_reducible rfl)
            try simp only [PU]
            refine hd_tk (i := 2) (v := ?_) rfl ?_ ?_
            rotate_left
            · (intro w hSw; (try dsimp only at hSw); go_simp; first | done | with_reducible rfl)
            try simp only [PU]
            refine hd_tk (i := 3) (v := ?_) rfl ?_ ?_
            rotate_left
            · (intro w hSw; (try dsimp only at hSw); go_simp; first | done | with_reducible rfl)
            try simp only [PU]
            refine hd_tk (i := 4) (v := ?_) rfl ?_ ?_
            rotate_left
            · (intro w hSw; (try dsimp only at hSw); go_simp; first | done | with_reducible rfl)
            try simp only [PU]
            refine hd_tk (i := 5) (v := ?_) rfl ?_ ?_
            rotate_left
            · (intro w hSw; (try dsimp only at hSw); go_simp; first | done | with_reducible rfl)
            try simp only [PU]
            refine hd_tk (i := 6) (v := ?_) rfl ?_ ?_
            rotate_left
            · (intro w hSw; (try dsimp only at hSw); go_simp; first | done | with_reducible rfl)
            try simp only [PU]
            refine hd_tk (i := 7) (v := ?_) rfl ?_ ?_
            rotate_left
            · (intro w hSw; (try dsimp only at hSw); go_simp; first | done | with_reducible rfl)
            try simp only [PU]
            refine hd_tk (i := 8) (v := ?_) rfl ?_ ?_
            rotate_left
            · (intro w hSw; (try dsimp only at hSw); go_simp; first | done | with_reducible rfl)
            try simp only [PU]
            refine hd_tk (i := 9) (v := ?_) rfl ?_ ?_
            rotate_left
            · (intro w hSw; (try dsimp only at hSw); go_simp; first | done | with_reducible rfl)
            try simp only [PU]
            have hk2' := hk2
            clear hk2
            refine hd_one (i := 10) rfl (by kernel_rfl) (by kernel_rfl) (fun K hK => ?_)
            go_simp
            obtain ⟨wa, hwa⟩ : ∃ W, W = c0.alloc (.cells #[.int .i64 xa, .int .i64 xb, .int .i64 xc, .int .i64 xd] 59) := ⟨_, rfl⟩
            rw [← hwa]
            obtain ⟨q6, hq6⟩ : ∃ q, q = c0.heap.size := ⟨_, rfl⟩
            have r6 : RowAt wa q6 59 (fibC ⟨xa, xb, xc, xd⟩) := by rw [hwa, hq6]; exact RowAt.new _ _ _
            have hfa : Fresh c0 wa := by rw [hwa]; exact fnew (frefl _) _
            have sta := stc.fresh hfa
            rw [← hq6]
            clear hwa hq6
            refine hK.out _ _ ?_ (fun hHeld => ?_)
            · obtain ⟨g1, g2, g3, g4, g5⟩ := hHeld
              exact ⟨fkeep hfa g1, fkeep hfa g2, fkeep hfa g3, fkeep hfa g4, fkeep hfa g5⟩
            clear hK K
            try simp only [PU]
            refine hd_done (by kernel_rfl) ?_
            clear hHeld
            simp only [List.drop_succ_cons, List.drop_zero]
            have hsza : w.heap.size + 1 ≤ wa.heap.size := by have := sta.zr.lt; omega
            refine wpList_app_gr Try.underlying25 infoFib rfl (by decide) (by decide) (w.heap.size + 1) wa _ L'.length (L'.flatMap fibC) q6 1 1 (fibC ⟨xa, xb, xc, xd⟩) rfl _ _ rfl rfl sta.ow rfl r6.cells rfl (by intro a ha; simp at ha; rcases ha with rfl | rfl | rfl | rfl <;> rfl) (by decide) (by omega) (by decide) hsza ?_
            intro q8 c8 w9 hown8 hg8
            have hln : (L' ++ [(⟨xa, xb, xc, xd⟩ : Fib)]).length = L'.length + 1 := by simp
            have hbx8 : RowAt w9 bN 27 _ := row_grown0 sta.ow hg8 sta.bx (by decide)
            have v1 := hbx8.cell (i := 1) rfl
            have y1 := hbx8.frozen 1
            have HS9 : Hid (AnSt W0 w (w9.setCell ⟨bN, 1, none⟩ (.slice q8 (L'.length + 1) c8)) r (.slice p xs.length cap) bN bF n8 (some ⟨g, 0, none⟩) 6 l q8 c8 (L' ++ [(⟨xa, xb, xc, xd⟩ : Fib)]) ⟨a1, a2', a3, a4'⟩) := by
              have := sta.app (fp' := q8) (fc' := c8) (L' := L' ++ [(⟨xa, xb, xc, xd⟩ : Fib)]) hr hWN hrw hwb hg8 (by rw [hln, List.flatMap_append]; exact hown8) (by rw [hln]; omega) (by
                intro y hy
                rcases List.mem_append.1 hy with hy | hy
                · exact sta.ok y hy
                · simp at hy; subst hy; exact sta.ok _ (List.mem_of_getElem? hx))
              rw [hln] at this; exact this
            clear hown8 hg8 hbx8 sta stc r6 hfa hsza hx b1 d0 d1 d2 d3 hk1 hk2' hk3 hk4
            have HLN := Lib.hid (lenAt_of HS9.out.s1)
            go_wp2
            go_roundw
            case rel => exact ⟨n8, q8, c8, L' ++ [(⟨xa, xb, xc, xd⟩ : Fib)], by rw [hln]; omega, by rw [hln]; omega, hm0, by rw [hln]; omega, HS9.out⟩
            case measure =>
              rw [HLN.out, HL0.out]; omega
          · have hlf : ¬ (L'.length : Int) < 14 + x8 := hlt
            have hm8 : n8 ≤ n + 242 := by omega
            have hm0 : n ≤ n8 := by omega
            have hl20 : L'.length ≤ 20 := by omega
            have hle : 14 + x8 ≤ (L'.length : Int) := by omega
            obtain ⟨k1, k2, k3, k4, k5, k6, k7, k8⟩ : Fresh W0 w8 ∧ w.grownBy w8 (some r) ∧ Cur w8 r (.slice p xs.length cap) n8 ∧ w8.ownsRow (w.heap.size + 1) 9 1 (.slice (some ⟨g, 0, none⟩) l.length 6) l.length (l.map .string) ∧ RowAt w8 bN 27 [.slice (some ⟨g, 0, none⟩) l.length 6, .slice fp L'.length fc'] ∧ RowAt w8 w.heap.size 27 [.slice none 0 0, .slice none 0 0] ∧ w8.ownsRow (w.heap.size + 1) 59 4 (.slice fp L'.length fc') L'.length (L'.flatMap fibC) ∧ ∀ y ∈ L', FbS y := ⟨HS8.out.fr, HS8.out.gr, HS8.out.cu, HS8.out.nm, HS8.out.bx, HS8.out.zr, HS8.out.ow, HS8.out.ok⟩
            have HNZ := Lib.hid HS8.out.nz
            have HK2 := Lib.hid k2
            have HK3 := Lib.hid k3
            have HK4 := Lib.hid k4
            have HK5 := Lib.hid k5
            have HK6 := Lib.hid k6
            have HK7 := Lib.hid k7
            have HK8 := Lib.hid k8
            clear k1 k2 k3 k4 k5 k6 k7 k8 HS8 HST HL0
            have hz := HK6.out
            have hbx := HK5.out
            have b0 := hbx.cell (i := 0) rfl
            have b1 := hbx.cell (i := 1) rfl
            have y0 := hz.cell (i := 0) rfl
            have y1 := hz.cell (i := 1) rfl
            have u0 := hz.frozen 0
            have u1 := hz.frozen 1
            have hfin := (hz.set 0 (.slice (some ⟨g, 0, none⟩) l.length 6)).set 1 (.slice fp L'.length fc')
            have k0 := hfin.cell (i := 0) rfl
            have k1 := hfin.cell (i := 1) rfl
            have hrz : r ≠ w.heap.size := by omega
            have HNN := Lib.hid (owns_setO (u := .slice fp L'.length fc') (owns_setO (u := .slice (some ⟨g, 0, none⟩) l.length 6) HK4.out hz (by decide) 0) (hz.set 0 _) (by decide) 1)
            have HOO := Lib.hid (owns_setO (u := .slice fp L'.length fc') (owns_setO (u := .slice (some ⟨g, 0, none⟩) l.length 6) HK7.out hz (by decide) 0) (hz.set 0 _) (by decide) 1)
            have HCU := Lib.hid (Cur.grown (Cur.grown HK3.out (grownSet _ w.heap.size 0 (.slice (some ⟨g, 0, none⟩) l.length 6)) hrz) (grownSet _ w.heap.size 1 (.slice fp L'.length fc')) hrz)
            have HGR := Lib.hid (grownOwn (grownOwn HK2.out (grownSet _ w.heap.size 0 (.slice (some ⟨g, 0, none⟩) l.length 6)) (Nat.le_refl _)) (grownSet _ w.heap.size 1 (.slice fp L'.length fc')) (Nat.le_refl _))
            clear hz hbx hfin
            go_wp2
            refine bodyPost_ret (v := .agg #[.slice (some ⟨g, 0, none⟩) l.length 6, .slice fp L'.length fc']) (by simp [results, Try.results10, go_sem, k0, k1]) rfl ?_
            exact ⟨_, l.length, 6, fp, L', fc', l, n8, rfl, rfl, by omega, owns_mono HNN.out (by omega), owns_mono HOO.out (by omega), hl20, HK8.out, hm0, by omega, HCU.out, HGR.out, HNZ.out⟩
      have e7 : x6 = 7 := by omega
      have t0 : (x6 == 0) = false := by simp; omega
      have t1 : (x6 == 1) = false := by simp; omega
      have t2 : (x6 == 2) = false := by simp; omega
      have t3 : (x6 == 3) = false := by simp; omega
      have t4 : (x6 == 4) = false := by simp; omega
      have t5 : (x6 == 5) = false := by simp; omega
      have t6 : (x6 == 6) = false := by simp; omega
      have t7 : (x6 == 7) = true := by simp; omega
      clear e7
      have hc7 : Hid (Cells (w6.alloc (.cells #[.string ⟨#[112]⟩, .string ⟨#[113]⟩, .string ⟨#[114]⟩, .string ⟨#[115]⟩] 9)) (some ⟨w6.heap.size, 0, none⟩) (([⟨#[112]⟩, ⟨#[113]⟩, ⟨#[114]⟩, ⟨#[115]⟩] : List ByteArray).map .string)) := (RowAt.new w6 9 [.string ⟨#[112]⟩, .string ⟨#[113]⟩, .string ⟨#[114]⟩, .string ⟨#[115]⟩]).cells
      have HS7 := Lib.hid (HS6.out.fresh (show Fresh w6 (w6.alloc (.cells #[.string ⟨#[112]⟩, .string ⟨#[113]⟩, .string ⟨#[114]⟩, .string ⟨#[115]⟩] 9)) from fnew (frefl _) _))
      have hsz7 : w.heap.size + 1 ≤ (w6.alloc (.cells #[.string ⟨#[112]⟩, .string ⟨#[113]⟩, .string ⟨#[114]⟩, .string ⟨#[115]⟩] 9)).heap.size := by have := HS7.out.zr.lt; omega
      have HSZ7 := Lib.hid hsz7
      clear hsz7
      have b0 := HS6.out.bx.cell (i := 0) rfl
      go_wp2_with (at_builtin; refine wpList_app_gr Try.underlying24 infoStr rfl (by decide) (by decide) (w.heap.size + 1) _ _ l.length (l.map .string) _ 4 4 (([⟨#[112]⟩, ⟨#[113]⟩, ⟨#[114]⟩, ⟨#[115]⟩] : List ByteArray).map .string) rfl _ _ rfl rfl HS7.out.nm rfl hc7.out rfl (by intro u hu; simp at hu; rcases hu with rfl | rfl | rfl | rfl <;> rfl) (by decide) (by omega) (by decide) HSZ7.out ?_; intro q8 c8 w8 hown8 hg8; refine Hid.out ?_)
      have hln : (l ++ ([⟨#[112]⟩, ⟨#[113]⟩, ⟨#[114]⟩, ⟨#[115]⟩] : List ByteArray)).length = l.length + 4 := by simp
      have hbx8 : RowAt w8 bN 27 _ := row_grown0 HS7.out.nm hg8 HS7.out.bx (by decide)
      have v0 := hbx8.cell (i := 0) rfl
      have y0 := hbx8.frozen 0
      have HS8 : Hid (AnSt W0 w (w8.setCell ⟨bN, 0, none⟩ (.slice q8 (l.length + 4) c8)) r (.slice p xs.length cap) bN bF n6 q8 c8 (l ++ ([⟨#[112]⟩, ⟨#[113]⟩, ⟨#[114]⟩, ⟨#[115]⟩] : List ByteArray)) (some ⟨bd, od, none⟩) fc L ⟨a1, a2', a3, a4'⟩) := by
        have := HS7.out.appN (np' := q8) (nc' := c8) (l' := l ++ ([⟨#[112]⟩, ⟨#[113]⟩, ⟨#[114]⟩, ⟨#[115]⟩] : List ByteArray)) hr hWN hrw hwb hg8 (by rw [hln, List.map_append]; exact hown8) (by
          intro y hy
          rcases List.mem_append.1 hy with hy | hy
          · exact HS7.out.nz y hy
          · simp at hy; rcases hy with rfl | rfl | rfl | rfl <;> decide)
        rw [hln] at this; exact this
      clear hown8 hg8 hbx8 HS7 hc7
      refine Lib.hid ?_
      go_wp2
      go_meet
      case rel => exact ⟨n6, _, _, _, _, _, _, _, by omega, by omega, by rw [hln]; omega, by omega, hi, HS8.out⟩
end Go.Proofs.Ytlapicgeokjpjaa
