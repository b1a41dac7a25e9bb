/- Looking into a map in a region that only reads. Conditions: none. -/
import Derived.Test.YtefhmbmbhiehdaaDoorKA
import Derived.Test.YtefhmbmbhiehdaaDoorKHeldT
namespace Go.Proofs.YtefhmbmbhiehdaaDoor
open Go Go.Maps Go.WideShapes Go.RowKit
theorem qlook2 {P : Program} {K E T : TypeId} {b m n : Nat} {F : Lit → Option Value} {C : World → Prop} {o : Oper} {a : Act} {k : Act → Prop} (mm x : Operand) (hop : o.op = Op.lookup T mm x true) (LK : Keyed P K) (ht : P.underlying T = some (.map K E)) {z : Value} (hz : ∀ u : World, (zeroValue E).run P u = .ok z u)
    (hm : a.eval mm = .map (some b)) (hown : ∀ w, C w → MapV P K w b m F n) (key : Value) (kl : Lit) (hx : a.eval x = key) (hkey : keyOf P K key = some kl) (hkl : WideAt.IsKeyLit kl) (h : k (a.put o.dst (.tuple #[(F kl).getD z, .bool (F kl).isSome]))) : o.quiet P a C k :=
  ⟨_, fun w hw => by
    obtain ⟨D, hown, hT, hf⟩ := hown w hw
    obtain ⟨v, ps, hrun, hv⟩ := hown.look_ok LK ht (hz w) (zd := .held z) (zp := []) rfl hkey
    rw [hf.at_ kl z hkl] at hv
    have e : v = (F kl).getD z := by
      unfold holdV at hv
      simp at hv
      exact hv.1
    subst e
    unfold Oper.quietAt
    simp [execOp, hop, hm, hx, hrun, Result.andThen]
    rw [← hf.has kl hkl]
    exact ⟨rfl, rfl⟩, h⟩
section
variable {P : Program} {K E T : TypeId} {b m n : Nat} {F : Lit → Option Value} {C : World → Prop} {o : Oper} {a : Act} {k : Act → Prop}
theorem qlook1 (mm x : Operand) (hop : o.op = Op.lookup T mm x false) (LK : Keyed P K) (ht : P.underlying T = some (.map K E)) {z : Value} (hz : ∀ u : World, (zeroValue E).run P u = .ok z u)
    (hm : a.eval mm = .map (some b)) (hown : ∀ w, C w → MapV P K w b m F n) (key : Value) (kl : Lit) (hx : a.eval x = key) (hkey : keyOf P K key = some kl) (hkl : WideAt.IsKeyLit kl) (h : k (a.put o.dst ((F kl).getD z))) : o.quiet P a C k :=
  ⟨_, fun w hw => by
    obtain ⟨D, hown, hT, hf⟩ := hown w hw
    obtain ⟨v, ps, hrun, hv⟩ := hown.lookup LK ht (hz w) (zd := .held z) (zp := []) rfl hkey
    rw [hf.at_ kl z hkl] at hv
    have e : v = (F kl).getD z := by
      unfold holdV at hv
      simp at hv
      exact hv.1
    subst e
    unfold Oper.quietAt
    simp [execOp, hop, hm, hx, hrun, Result.andThen]
    exact ⟨rfl, rfl⟩, h⟩
theorem qlen1 (mm : Operand) (hop : o.op = Op.call { callee := Callee.builtin Builtin.len, args := #[mm], argTypes := #[T] }) (ht : P.underlying T = some (.map K E))
    (hm : a.eval mm = .map (some b)) (hown : ∀ w, C w → MapV P K w b m F n) (h : k (a.put o.dst (.int .i64 n))) : o.quiet P a C k :=
  ⟨_, fun w hw => by
    obtain ⟨D, hown, hT, hf⟩ := hown w hw
    unfold Oper.quietAt
    simp [execOp, hop, resolve, invoke, builtin, hm, hown.len ht o.type, Result.andThen]
    rw [hf.size]
    exact ⟨rfl, rfl⟩, h⟩
end
end Go.Proofs.YtefhmbmbhiehdaaDoor
