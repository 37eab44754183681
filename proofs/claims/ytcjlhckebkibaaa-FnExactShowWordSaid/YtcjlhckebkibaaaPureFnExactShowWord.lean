/- For each word of at most 1048576 bytes, the given ShowWord and the law's own copy of it return the same string: the pure half, for each string of at most 140737488351232 bytes. -/
import Derived.Test.YtcjlhckebkibaaaPFnExactShowWordx1
namespace Go.Proofs.Ytcjlhckebkibaaa.Pure
open Go.RowKit Go.Proofs.Ytcjlhckebkibaaa.PFnExactShowWord Go.Proofs.YtcjlhckebkibaaaW.PrintWords Go.Proofs.YtcjlhckebkibaaaW.PrintLast

/-- Both functions are the same term, so the law's answer is true. -/
theorem FnExactShowWord : laws_FnExactShowWord.Pure := by
  intro a0 _
  have same : impl_ShowWord.f a0 = spec_ShowWord.f a0 := rfl
  unfold laws_FnExactShowWord.f
  rw [same]
  by_cases c : (a0.size : Int) > 1048576
  · rw [if_pos c]
  · rw [if_neg c]
    unfold spec_ShowWord.f
    by_cases e : a0.toList = ([] : List UInt8)
    · rw [if_pos e]
      simp only [Option.bind_some, if_true]
    · rw [if_neg e]
      simp only [Option.bind_some, if_true]

end Go.Proofs.Ytcjlhckebkibaaa.Pure
