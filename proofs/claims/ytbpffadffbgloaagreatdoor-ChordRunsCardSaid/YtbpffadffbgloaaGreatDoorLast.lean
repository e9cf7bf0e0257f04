/- Facts that last while a region builds fresh things only. -/
import Derived.Test.YtbpffadffbgloaaGreatDoorLib
import Derived.Test.YtbpffadffbgloaaGreatDoorReg
set_option linter.unusedVariables false
set_option linter.unusedSimpArgs false
namespace Go.Proofs.YtbpffadffbgloaaGreatDoor
open Go.RowKit

/-- Nothing that stood has changed. -/
def Kept (w w' : World) : Prop := Below w.heap.size w w'
theorem Kept.refl (w : World) : Kept w w := Below.refl _ _
theorem Kept.trans (u v w : World) (h : Kept u v) (k : Kept v w) : Kept u w := Below.ext h k

theorem Kept.size (u v : World) (h : Kept u v) : u.heap.size ≤ v.heap.size := RowKit.Below.size h

def Lasting (p : World → Prop) : Prop := ∀ w w', p w → Kept w w' → p w'
theorem Lasting.of {p : World → Prop} (h : Lasting p) {w w' : World} (hp : p w) (k : Kept w w') : p w' := h w w' hp k
theorem Lasting.ex {α : Sort _} {p : α → World → Prop} (h : ∀ x, Lasting (p x)) : Lasting (fun w => ∃ x, p x w) := fun w w' ⟨x, hx⟩ k => ⟨x, h x w w' hx k⟩
theorem Lasting.both {p q : World → Prop} (h : Lasting p) (h' : Lasting q) : Lasting (fun w => p w ∧ q w) := fun w w' hx k => ⟨h w w' hx.1 k, h' w w' hx.2 k⟩
theorem Lasting.always (p : Prop) : Lasting (fun _ => p) := fun _ _ h _ => h
theorem Lasting.blk (g : Nat) (t : TypeId) (cs : Array Value) : Lasting (fun w => Blk w g t cs) := fun _ _ h k => h.ext k
theorem Lasting.below (B : Nat) (w0 : World) : Lasting (fun w => B ≤ w.heap.size ∧ Below B w0 w) := fun w w' h k => ⟨Nat.le_trans h.1 k.size, h.2.trans (k.mono h.1)⟩
theorem Lasting.lt (g : Nat) : Lasting (fun w => g < w.heap.size) := fun _ _ h k => Nat.lt_of_lt_of_le h k.size
theorem Lasting.rd (sz : Nat) (v : Value) (n : Nat) (cs : List Value) : Lasting (fun w => Rd w w.heap.size sz v n cs) := fun _ _ h k => (h.below k).more k.size
theorem Lasting.rdB (B sz : Nat) (v : Value) (n : Nat) (cs : List Value) : Lasting (fun w => B ≤ w.heap.size ∧ Rd w B sz v n cs) := fun _ _ h k => ⟨Nat.le_trans h.1 k.size, h.2.below (k.mono h.1)⟩

end Go.Proofs.YtbpffadffbgloaaGreatDoor
