import Derived.Test.YtbmlleocidldpaaGreatP7
set_option linter.unusedVariables false
set_option linter.unusedSimpArgs false
/- The first word that costs more, and the same costs. -/
namespace Go.Proofs.YtbmlleocidldpaaGreat
open Go Go.Proofs.YtbmlleocidldpaaGreat.Am
section two
variable {a b : Aut} (sa : Small a) (sb : Small b) (n : Int)
include sa sb
end two
end Go.Proofs.YtbmlleocidldpaaGreat

/- Factors of words: how many a word is made of. -/
namespace Go.Proofs.YtbmlleocidldpaaGreat
open Go Go.Proofs.YtbmlleocidldpaaGreat.Am
section valid
variable {a : Aut} (sa : Small a) (ha : autOk a = true)
include sa ha
end valid
end Go.Proofs.YtbmlleocidldpaaGreat

/- The number of factors: both sides tell the same; the hardest word. -/
namespace Go.Proofs.YtbmlleocidldpaaGreat
open Go Go.Proofs.YtbmlleocidldpaaGreat.Am
section valid
variable {a : Aut} (sa : Small a) (ha : autOk a = true)
include sa ha
end valid
end Go.Proofs.YtbmlleocidldpaaGreat

/- Splits of words, the spec's way; the number of factors and the hardest word: both sides tell the same. -/
namespace Go.Proofs.YtbmlleocidldpaaGreat
open Go Go.Proofs.YtbmlleocidldpaaGreat.Am
section valid
variable {a : Aut} (sa : Small a) (ha : autOk a = true)
include sa ha
end valid
end Go.Proofs.YtbmlleocidldpaaGreat

/- The hardest word and the most factors; the laws' frames. -/
namespace Go.Proofs.YtbmlleocidldpaaGreat
open Go Go.Proofs.YtbmlleocidldpaaGreat.Am
section one
variable {a : Aut} (sa : Small a) (n : Int)
include sa
end one
end Go.Proofs.YtbmlleocidldpaaGreat

/- Marks: what is written into lists and read back. -/
namespace Go.Proofs.YtbmlleocidldpaaGreat
open Go Go.Proofs.YtbmlleocidldpaaGreat.Am
end Go.Proofs.YtbmlleocidldpaaGreat
