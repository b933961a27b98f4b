/- Lists of requests as one value (came in; small; read). -/
import Derived.Test.YtjlhjkdmpngkbaaReq4
namespace Go.Proofs.Ytjlhjkdmpngkbaa
open Go.RowKit Go.PlainAid

def RqRaw (w : World) (v : Value) (L : List ((Int × List Int) × Int)) : Prop := ∃ p cap l, v = .slice p l.length cap ∧ Reqs w p l ∧ l.length ≤ 9223372036854775807 ∧ (∀ x ∈ l, x.r.fibs.length ≤ 9223372036854775807) ∧ L = l.map LQ.val
def RqSmall (L : List ((Int × List Int) × Int)) : Prop := L.length ≤ 1048576 ∧ ∀ x ∈ L, x.1.2.length ≤ 1048576
def RqIn (w : World) (v : Value) (L : List ((Int × List Int) × Int)) : Prop := ∃ p cap l, v = .slice p l.length cap ∧ Reqs w p l ∧ ReqsSmall l ∧ L = l.map LQ.val
theorem RqRaw.keep {w w' : World} {v : Value} {L : List ((Int × List Int) × Int)} (h : RqRaw w v L) (hb : Fresh w w') : RqRaw w' v L := by
  obtain ⟨p, cap, l, h1, h2, r⟩ := h
  exact ⟨p, cap, l, h1, h2.keep hb, r⟩
theorem RqIn.keep {w w' : World} {v : Value} {L : List ((Int × List Int) × Int)} (h : RqIn w v L) (hb : Fresh w w') : RqIn w' v L := by
  obtain ⟨p, cap, l, h1, h2, r⟩ := h
  exact ⟨p, cap, l, h1, h2.keep hb, r⟩
theorem rqsmall_of {l : List LQ} (h : ReqsSmall l) : RqSmall (l.map LQ.val) := by
  refine ⟨by simpa using h.1, fun x hx => ?_⟩
  obtain ⟨y, hy, rfl⟩ := List.mem_map.1 hx
  exact h.2 y hy
theorem rqsmall_to {l : List LQ} (h : RqSmall (l.map LQ.val)) : ReqsSmall l :=
  ⟨by simpa using h.1, fun x hx => h.2 x.val (List.mem_map_of_mem hx)⟩
theorem RqRaw.small {w : World} {v : Value} {L : List ((Int × List Int) × Int)} (h : RqRaw w v L) (hs : RqSmall L) : RqIn w v L := by
  obtain ⟨p, cap, l, h1, h2, _, _, rfl⟩ := h
  exact ⟨p, cap, l, h1, h2, rqsmall_to hs, rfl⟩
theorem szReqs_k (v : Value) (L : List ((Int × List Int) × Int)) (left : Int) (w : World) (h : RqRaw w v L) (h0 : 0 ≤ left) (h1 : left ≤ 1048576) :
    Calls Try.prog 23 #[v, .int .i64 left] w (SzOut w left (RqSmall L)) := by
  obtain ⟨p, cap, l, rfl, h2, h3, h4, rfl⟩ := h
  refine (szRequestS_any p cap l left w h2 h3 h4 h0 h1).mono ?_
  rintro e w' ⟨r, he, r0, r1, hr, hf⟩
  exact ⟨r, he, r0, r1, fun h => rqsmall_of (hr h), hf⟩
theorem toReqs_k (v : Value) (L : List ((Int × List Int) × Int)) (w : World) (h : RqIn w v L) :
    Calls Try.prog 25 #[v] w fun e w' => ∃ v', e = .returned v' ∧ RqIn w' v' L ∧ Fresh w w' := by
  obtain ⟨p, cap, l, rfl, h2, h3, rfl⟩ := h
  refine (toRequestS_any p cap l w h2 h3).mono ?_
  rintro e w' ⟨l', he, hv, hrow, hown, hf⟩
  refine ⟨_, he, ⟨_, _, l', rfl, ⟨RowAt.cells hrow, fun x hx => (hown x hx).cells⟩, rqsmall_to ?_, hv.symm⟩, hf⟩
  rw [hv]; exact rqsmall_of h3
theorem eqReqs_k (v v' : Value) (L : List ((Int × List Int) × Int)) (w : World) (h : RqIn w v L) (h' : RqIn w v' L) :
    Calls Try.prog 27 #[v, v'] w fun e w' => e = .returned (.bool true) ∧ Fresh w w' := by
  obtain ⟨p, cap, l, rfl, h2, h3, rfl⟩ := h
  obtain ⟨p', cap', l', rfl, h2', h3', hv⟩ := h'
  exact eqRequestS_same p p' cap cap' l l' w hv.symm h2 h2' h3
end Go.Proofs.Ytjlhjkdmpngkbaa
