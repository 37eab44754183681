/- All elements of an automaton: the reference and the program find the same. -/
import Derived.Test.YtgmgnijklampiaaDoorP33
set_option linter.unusedVariables false
set_option linter.unusedSimpArgs false
namespace Go.Proofs.YtgmgnijklampiaaDoor
open Go Go.Proofs.YtgmgnijklampiaaDoor.Am
def s2 (n : Nat) (e f : Elt) (p : List Elt × Bool) : List Elt × Bool := sput n (gmul n f.1.2 e.1.2) (f.2 ++ e.2) (sput n (gmul n e.1.2 f.1.2) (e.2 ++ f.2) p)
def i2 (n : Nat) (e f : Elt) (p : List Elt × Bool) : List Elt × Bool := iput n (gmul n f.1.2 e.1.2) (f.2 ++ e.2) (iput n (gmul n e.1.2 f.1.2) (e.2 ++ f.2) p)
def fold2 (n : Nat) (e : Elt) (W : List Elt) (p : List Elt × Bool) : List Elt × Bool := W.foldl (fun p f => s2 n e f p) p
def sharp (t : ByteArray) : ByteArray := ((⟨#[(40 : UInt8)]⟩ : ByteArray) ++ t) ++ (⟨#[(41 : UInt8), (35 : UInt8)]⟩ : ByteArray)
theorem size_append (a b : ByteArray) : (a ++ b).size = a.size + b.size := ByteArray.size_append
/-- what becomes of the elements when the i-th is gone through -/
def body (n i : Nat) (L : List Elt) : List Elt × Bool :=
 let e := L.getD i el0
 let p := if gmul n e.1.2 e.1.2 = e.1.2 then sput n (gstab n e.1.2) (sharp e.2) (L, false) else (L, false)
 fold2 n e (p.1.take (i + 1)) p
structure Clo (n : Nat) (X : List Int → ByteArray → Prop) : Prop where
 app : ∀ A s C t, X A s → X C t → X (gmul n A C) (s ++ t)
 sh : ∀ A s, X A s → gmul n A A = A → X (gstab n A) (sharp s)
end Go.Proofs.YtgmgnijklampiaaDoor
