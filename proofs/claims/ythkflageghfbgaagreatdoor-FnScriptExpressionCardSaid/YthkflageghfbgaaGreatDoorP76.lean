/- Expansions of expressions: the word in which repeated parts stand so many times. -/
import Derived.Test.YthkflageghfbgaaGreatDoorP75
import Derived.Test.YthkflageghfbgaaGreatDoorP50
set_option linter.unusedVariables false
set_option linter.unusedSimpArgs false
namespace Go.Proofs.YthkflageghfbgaaGreatDoor
open Go Go.Proofs.YthkflageghfbgaaGreatDoor.Am
/-- a text, its parts, and the word in which repeated parts stand m times -/
inductive Xo (m:Nat):List UInt8→Pts→List UInt8→Prop
 |nil:Xo m [] [] []
 |lt {c:UInt8} {t w:List UInt8} {l:Pts}:(c=97∨c=98)→Xo m t l w→Xo m (c::t) ((B [c],PT.mk [])::l) (c::w)
 |rp {t1 t2 w1 w2:List UInt8} {l1 l2:Pts}:Xo m t1 l1 w1→l1≠[]→Xo m t2 l2 w2→Xo m (40::(t1++41::35::t2)) ((B [],PT.mk l1)::l2) (rep m w1++w2)
theorem Xo.fo{m:Nat}{t w:List UInt8}{l:Pts}(h:Xo m t l w):Fo t l:=by
 induction h with
 |nil=>exact .nil
 |lt hc _ ih=>exact .lt hc ih
 |rp _ hn _ ih1 ih2=>exact .rp ih1 hn ih2
theorem fo_xo(m:Nat){t:List UInt8}{l:Pts}(h:Fo t l):∃w,Xo m t l w:=by
 induction h with
 |nil=>exact⟨_,.nil⟩
 |lt hc _ ih=>obtain⟨w,h⟩:=ih;exact⟨_,.lt hc h⟩
 |rp _ hn _ ih1 ih2=>
  obtain⟨w1,h1⟩:=ih1;obtain⟨w2,h2⟩:=ih2;exact⟨_,.rp h1 hn h2⟩
theorem Xo.app{m:Nat}{t t' w w':List UInt8}{l l':Pts}(h:Xo m t l w)(h':Xo m t' l' w'):Xo m (t++t') (l++l') (w++w'):=by
 induction h with
 |nil=>exact h'
 |lt hc _ ih=>exact .lt hc ih
 |rp h1 hn _ _ ih=>
  have:=Xo.rp h1 hn ih;simpa using this
theorem Xo.ab{m:Nat}{t w:List UInt8}{l:Pts}(h:Xo m t l w):∀b∈w,b=97∨b=98:=by
 induction h with
 |nil=>intro b hb;cases hb
 |lt hc _ ih=>
  intro b hb
  rcases List.mem_cons.1 hb with rfl|hb
  ·exact hc
  ·exact ih b hb
 |rp _ _ _ ih1 ih2=>
  intro b hb
  rcases List.mem_append.1 hb with hb|hb
  ·unfold rep at hb;obtain⟨x,hx,hb⟩:=List.mem_flatten.1 hb;rw[List.eq_of_mem_replicate hx] at hb;exact ih1 b hb
  ·exact ih2 b hb
theorem Xo.ne{m:Nat}(hm:1≤m){t w:List UInt8}{l:Pts}(h:Xo m t l w):l≠[]→w≠[]:=by
 induction h with
 |nil=>intro h;exact absurd rfl h
 |lt _ _ _=>intro _;simp
 |@rp t1 t2 w1 w2 l1 l2 h1 hn _ ih1 _=>
  intro _ hw;have h3:=(List.append_eq_nil_iff.1 hw).1;have h4:(rep m w1).length=0:=by rw[h3];rfl
  rw[rep_len] at h4
  rcases Nat.mul_eq_zero.1 h4 with h5|h5
  ·omega
  ·exact ih1 hn (List.length_eq_zero_iff.1 h5)
end Go.Proofs.YthkflageghfbgaaGreatDoor
