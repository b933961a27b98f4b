/- Rows being filled, and made slices of any element (no function of the program). -/
import Derived.Test.YtjlhjkdmpngkbaaBase
import Derived.Laws.MakeOwn
import Derived.OwnWalk
namespace Go.Proofs.Ytjlhjkdmpngkbaa
open Go.RowKit

/-- n times the cells of one zero element. -/
def zs (z : List Value) (n : Nat) : List Value := (List.replicate n ()).flatMap fun _ => z
theorem zs_succ (z : List Value) (n : Nat) : zs z (n + 1) = z ++ zs z n := by unfold zs; rw [List.replicate_succ, List.flatMap_cons]
theorem zs_zero (z : List Value) : zs z 0 = [] := rfl
theorem zs_len (z : List Value) (n : Nat) : (zs z n).length = n * z.length := by unfold zs; rw [flat_len _ z.length (fun _ => rfl)]; simp
theorem zs_get (z : List Value) (n i r : Nat) (hi : i < n) (hr : r < z.length) : (zs z n)[i * z.length + r]? = z[r]? := by
  unfold zs; exact flat_get (fun _ => z) z.length (fun _ => rfl) _ i r hr () (by simp [hi])
theorem madeCells_zs (z : List Value) (n : Nat) (hz : 0 < z.length) : madeCells z.toArray (n * z.length) = (zs z n).toArray := by
  apply Array.ext
  · rw [size_madeCells]; simp [zs_len]
  · intro i h1 h2
    rw [size_madeCells] at h1
    have hin : i / z.length < n := (Nat.div_lt_iff_lt_mul hz).2 h1
    have hrn : i % z.length < z.length := Nat.mod_lt _ hz
    have hdm : i / z.length * z.length + i % z.length = i := by rw [Nat.mul_comm]; exact Nat.div_add_mod i _
    have h := zs_get z n _ _ hin hrn
    rw [hdm] at h
    have h2' : i < (zs z n).length := by simpa using h2
    rw [List.getElem?_eq_getElem h2', List.getElem?_eq_getElem hrn, Option.some.injEq] at h
    simp [madeCells, h]
    rw [List.getElem?_eq_getElem hrn]; rfl
/-- Cells laid one after the other. -/
def setL : List Value → Nat → List Value → List Value
  | cs, _, [] => cs
  | cs, i, v :: vs => setL (cs.set i v) (i + 1) vs
theorem setL_mid (vs : List Value) : ∀ (X z R : List Value), z.length = vs.length → setL (X ++ (z ++ R)) X.length vs = X ++ (vs ++ R) := by
  induction vs with
  | nil => intro X z R h; have : z = [] := List.eq_nil_of_length_eq_zero h; subst this; rfl
  | cons v vs ih =>
    intro X z R h
    match z, h with
    | a :: z, h =>
      unfold setL
      rw [List.set_append, if_neg (by omega), Nat.sub_self, List.cons_append, List.set_cons_zero]
      have := ih (X ++ [v]) z R (by simpa using h)
      simpa using this
/-- A row in which the first k of l lie, noughts behind them. -/
def fillR {α : Type} (f : α → List Value) (z : List Value) (l : List α) (k : Nat) : List Value := (l.take k).flatMap f ++ zs z (l.length - k)
theorem fillR_zero {α : Type} (f : α → List Value) (z : List Value) (l : List α) : fillR f z l 0 = zs z l.length := by unfold fillR; simp
theorem fillR_end {α : Type} (f : α → List Value) (z : List Value) (l : List α) (k : Nat) (h : l.length ≤ k) : fillR f z l k = l.flatMap f := by
  unfold fillR; rw [List.take_of_length_le h, Nat.sub_eq_zero_of_le h, zs_zero, List.append_nil]
theorem fillR_get {α : Type} (f : α → List Value) (z : List Value) (l : List α) (k r : Nat) (hf : ∀ a, (f a).length = z.length) (hk : k < l.length) (hr : r < z.length) : (fillR f z l k)[k * z.length + r]? = z[r]? := by
  unfold fillR
  have hl : ((l.take k).flatMap f).length = k * z.length := by rw [flat_len f z.length hf, List.length_take]; congr 1; omega
  rw [List.getElem?_append_right (by omega), hl, Nat.add_sub_cancel_left]
  have := zs_get z (l.length - k) 0 r (by omega) hr
  rwa [Nat.zero_mul, Nat.zero_add] at this
theorem fillR_set {α : Type} (f : α → List Value) (z : List Value) (l : List α) (k : Nat) (a : α) (hf : ∀ a, (f a).length = z.length) (hx : l[k]? = some a) : setL (fillR f z l k) (k * z.length) (f a) = fillR f z l (k + 1) := by
  have hk : k < l.length := by
    rcases Nat.lt_or_ge k l.length with h | h
    · exact h
    · rw [List.getElem?_eq_none h] at hx; cases hx
  have hl : ((l.take k).flatMap f).length = k * z.length := by rw [flat_len f z.length hf, List.length_take]; congr 1; omega
  unfold fillR
  have e : l.length - k = (l.length - (k + 1)) + 1 := by omega
  rw [e, zs_succ, ← hl, setL_mid (f a) _ z _ (by rw [hf])]
  rw [List.take_add_one, hx]
  simp
theorem mkRow {T E : TypeId} {zv : Value} {z : List Value} {bytes : Nat} (hu : Try.prog.underlying T = some (.slice E)) (hinfo : (Try.prog.info? E).map (fun i => (i.zero, i.size, i.bytes)) = some (some zv, z.length, bytes)) (hz : zv.cells = z.toArray) (h0 : 0 < z.length) (n : Nat)
    (hn : bytes * n ≤ 281474976710656) (hm : n ≤ 9223372036854775807) (u : World) :
    (Instr.makeSlice T (.int .i64 (n : Int)) (.int .i64 (n : Int))).run Try.prog u = .ok (.slice (some ⟨u.heap.size, 0, none⟩) n n) (u.alloc (.cells ((zs z n).toArray) E)) := by
  obtain ⟨i0, hi, hz0, hz1, hz2⟩ := info_parts hinfo
  have h := run_make (P := Try.prog) u T E i0 _ hu hi hz0 .i64 .i64 n n (by omega) (Int.le_refl _) (by rw [hz2, ← Int.natCast_mul]; omega) (by omega)
  rw [Int.toNat_natCast, hz1, hz, madeCells_zs z n h0] at h
  exact h
end Go.Proofs.Ytjlhjkdmpngkbaa
