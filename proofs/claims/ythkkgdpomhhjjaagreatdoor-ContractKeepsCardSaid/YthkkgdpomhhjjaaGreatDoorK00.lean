/-
  Short names.
-/
import Derived.WalkKit
import Derived.Lib.Hide
namespace Go.Proofs
theorem ae {p:Prop}(h:p):RowKit.Hid p:=Lib.hid h
theorem af {p:Prop}(h:p:=by omega):p:=h
theorem ag {p:Prop}(h:p:=by decide):p:=h
theorem ah {p:Prop}(h:p:=by kernel_rfl):p:=h
theorem ai {p:Prop}(h:p:=by simp):p:=h
theorem aj {w:World}{o:Obj}:RowKit.Below w.heap.size w (w.alloc o):=(RowKit.Below.refl _ _).alloc (Nat.le_refl _) _
theorem ak {n:Nat}{w:World}:RowKit.Below n w w:=RowKit.Below.refl _ _
theorem aq {α:Type _}{a b:α}(h:a=b:=by kernel_rfl):some a=some b:=congrArg some h
end Go.Proofs
