/- append([]api.Body{}, bodies...), and what it gives where there are none. Conditions: none but that there are not too many. -/
import Derived.Test.YtniahipadfgkbaaGreatKS2
namespace Go.Proofs.YtniahipadfgkbaaGreat
open Go.ChangeShapes Go.WideShapes Go.ChangeAt Go.RowKit Go.BigFrame
theorem OwnB.reads {base n : Nat} {w : World} {A : Option Addr} {M : Nat → Nat → Int} (h : OwnB base w A n M) : Reads w A n 17 M := fun hn => by
  obtain ⟨b, rfl, _, hT⟩ := h hn
  exact Reads.of_tab hT hn
end Go.Proofs.YtniahipadfgkbaaGreat
