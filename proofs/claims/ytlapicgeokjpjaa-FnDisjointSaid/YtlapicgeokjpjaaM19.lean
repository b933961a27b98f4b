/- Texts of mine laid together (KDm, KFm, KD1). -/
import Derived.Test.YtlapicgeokjpjaaU2
import Derived.Test.YtlapicgeokjpjaaU3
import Derived.Test.YtlapicgeokjpjaaM1
/- Lists of demands as one value: weighed, copied, compared, marked. -/
namespace Go.Proofs.Ytlapicgeokjpjaa
open Go.RowKit Go.PlainAid

def DmRaw (w : World) (v : Value) (L : List Fib) : Prop := ∃ p cap, v = .slice p L.length cap ∧ Fibs w p L ∧ L.length ≤ 9223372036854775807
def DmSmall (L : List Fib) : Prop := L.length ≤ 1048576
def DmIn (w : World) (v : Value) (L : List Fib) : Prop := ∃ p cap, v = .slice p L.length cap ∧ Fibs w p L ∧ L.length ≤ 1048576
theorem DmRaw.keep {w w' : World} {v : Value} {L : List Fib} (h : DmRaw w v L) (hb : Fresh w w') : DmRaw w' v L := by
  obtain ⟨p, c, rfl, h1, h2⟩ := h
  exact ⟨p, c, rfl, h1.keep hb, h2⟩
theorem DmIn.keep {w w' : World} {v : Value} {L : List Fib} (h : DmIn w v L) (hb : Fresh w w') : DmIn w' v L := by
  obtain ⟨p, c, rfl, h1, h2⟩ := h
  exact ⟨p, c, rfl, h1.keep hb, h2⟩
theorem DmRaw.small {w : World} {v : Value} {L : List Fib} (h : DmRaw w v L) (hs : DmSmall L) : DmIn w v L := by
  obtain ⟨p, c, rfl, h1, _⟩ := h
  exact ⟨p, c, rfl, h1, hs⟩
section
open Go.ChangeShapes Go.WideShapes Go.ChangeAt Go.Joins
variable {H : Type} {enc : TypeId × Value → H}
end
end Go.Proofs.Ytlapicgeokjpjaa

/- Lists of formats as one value: weighed, copied, compared, marked. -/
namespace Go.Proofs.Ytlapicgeokjpjaa
open Go.RowKit Go.PlainAid

def FmRaw (w : World) (v : Value) (L : List (Int × Int)) : Prop := ∃ p cap, v = .slice p L.length cap ∧ Prs w p L ∧ L.length ≤ 9223372036854775807
def FmSmall (L : List (Int × Int)) : Prop := L.length ≤ 1048576
def FmIn (w : World) (v : Value) (L : List (Int × Int)) : Prop := ∃ p cap, v = .slice p L.length cap ∧ Prs w p L ∧ L.length ≤ 1048576
theorem FmRaw.keep {w w' : World} {v : Value} {L : List (Int × Int)} (h : FmRaw w v L) (hb : Fresh w w') : FmRaw w' v L := by
  obtain ⟨p, c, rfl, h1, h2⟩ := h
  exact ⟨p, c, rfl, h1.keep hb, h2⟩
theorem FmIn.keep {w w' : World} {v : Value} {L : List (Int × Int)} (h : FmIn w v L) (hb : Fresh w w') : FmIn w' v L := by
  obtain ⟨p, c, rfl, h1, h2⟩ := h
  exact ⟨p, c, rfl, h1.keep hb, h2⟩
theorem FmRaw.small {w : World} {v : Value} {L : List (Int × Int)} (h : FmRaw w v L) (hs : FmSmall L) : FmIn w v L := by
  obtain ⟨p, c, rfl, h1, _⟩ := h
  exact ⟨p, c, rfl, h1, hs⟩
section
open Go.ChangeShapes Go.WideShapes Go.ChangeAt Go.Joins
variable {H : Type} {enc : TypeId × Value → H}
end
end Go.Proofs.Ytlapicgeokjpjaa

/- One demand as an argument. -/
namespace Go.Proofs.Ytlapicgeokjpjaa
open Go.RowKit Go.PlainAid
section
open Go.ChangeShapes Go.WideShapes Go.ChangeAt Go.Joins
variable {H : Type} {enc : TypeId × Value → H}
end
end Go.Proofs.Ytlapicgeokjpjaa

