/-
  Short names.
-/
import Derived.WalkKit
import Derived.Lib.Hide
namespace Go.Proofs
theorem ae {p:Prop}(h:p):RowKit.Hid p:=Lib.hid h
theorem af {p:Prop}(h:p:=by omega):p:=h
theorem ag {p:Prop}(h:p:=by decide):p:=h
theorem ah {p:Prop}(h:p:=by kernel_rfl):p:=h
theorem ai {p:Prop}(h:p:=by simp):p:=h
theorem aj {w:World}{o:Obj}:RowKit.Below w.heap.size w (w.alloc o):=(RowKit.Below.refl _ _).alloc (Nat.le_refl _) _
theorem aq {n:Nat}{w:World}:RowKit.Below n w w:=RowKit.Below.refl _ _
theorem ar {α:Type _}{a b:α}(h:a=b:=by kernel_rfl):some a=some b:=congrArg some h
theorem ac{α:Sort _}(a:α):∃x,x=a:=⟨a,rfl⟩
instance:Coe World Nat:=⟨fun w=>w.heap.size⟩
theorem M2 {p:Prop}(h:p:=by grind):p:=h
theorem Nc {p:Prop}(h:p:=by simp_all):p:=h
theorem Nd {p:Prop}(h:p:=by assumption):p:=h
theorem Nm {p q:Prop}(h:p)(k:p->q:=by omega):q:=k h
theorem No {p q r:Prop}(h:p)(i:q)(k:p->q->r:=by omega):r:=k h i
theorem NE {p q r s:Prop}(h:p)(i:q)(j:r)(k:p->q->r->s:=by omega):s:=k h i j
end Go.Proofs
