/- The contracts of quotients and roots (package fx and the document's answers): each returns the plain number of XMath. Conditions: none. -/
import Derived.Test.YtefhmbmbhiehdaaFx
namespace Go.Proofs.Ytefhmbmbhiehdaa
open Go.ChangeShapes Go.WideShapes Go.ChangeAt Go.RowKit

theorem RI_or {v r b : Int} (h : RI v r b) (hb : 0 < b) : bits .or .u64 r b = r + b := by
  obtain ⟨h1, h2, h3, h4, _⟩ := RI_bd h
  obtain ⟨k, e1, e2⟩ := RI_even h hb
  rw [u64_or _ _ (by omega) (by omega) (by omega) (by omega), nat_join (k + 1) _ _ e2 (by rw [e1, Nat.pow_succ]; have := Nat.pow_pos (n := k) (show 0 < 2 by decide); omega)]
  omega

end Go.Proofs.Ytefhmbmbhiehdaa
