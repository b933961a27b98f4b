/- The smallest assignment: the two sides as the law's walk wants them. -/
import Derived.Test.YtmpdljcihiidaaaGreatAx4
namespace Go.Proofs.YtmpdljcihiidaaaGreat
open Go.RowKit Go.PlainAid

theorem axF_len (n : Net) (L : List RqT) : (axF n L).1.length ≤ 1048576 := by
  unfold axF
  split
  · next hok =>
    cases he : exA L with
    | none => simp
    | some r =>
      have h1 := (exH_bd he).1
      have h2 := (reqs_one hok).2
      show r.1.length ≤ _
      omega
  · simp
theorem specAssignExact_l (v : Value) (n : Net) (u : Value) (L : List RqT) (w : World) (h : NetIn w v n) (hu : RqIn w u L) :
    Calls Tryz.prog 11 #[v, u] w (fun e w' => ∃ p c, e = .returned (.tuple #[.slice p (axF n L).1.length c, .int .i64 (axF n L).2.1, .bool (axF n L).2.2]) ∧ Own w' w.heap.size 71 p (pcs (axF n L).1) ∧ Fresh w w') := specAssignExact_any v n u L w h hu
theorem implAssignExact_l (v : Value) (n : Net) (u : Value) (L : List RqT) (w : World) (h : NetIn w v n) (hu : RqIn w u L) :
    Calls Tryz.prog 14 #[v, u] w (fun e w' => ∃ p c, e = .returned (.tuple #[.slice p (axF n L).1.length c, .int .i64 (axF n L).2.1, .bool (axF n L).2.2]) ∧ Own w' w.heap.size 71 p (pcs (axF n L).1) ∧ Fresh w w') := implAssignExact_any v n u L w h hu
end Go.Proofs.YtmpdljcihiidaaaGreat
