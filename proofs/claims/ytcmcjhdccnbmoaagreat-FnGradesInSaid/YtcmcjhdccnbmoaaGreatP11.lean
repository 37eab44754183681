import Derived.Test.YtcmcjhdccnbmoaaGreatP7
set_option linter.unusedVariables false
set_option linter.unusedSimpArgs false
/- The first word that costs more, and the same costs. -/
namespace Go.Proofs.YtcmcjhdccnbmoaaGreat
open Go Go.Proofs.YtcmcjhdccnbmoaaGreat.Am
end Go.Proofs.YtcmcjhdccnbmoaaGreat

/- Factors of words: how many a word is made of. -/
namespace Go.Proofs.YtcmcjhdccnbmoaaGreat
open Go Go.Proofs.YtcmcjhdccnbmoaaGreat.Am
end Go.Proofs.YtcmcjhdccnbmoaaGreat

/- The number of factors: both sides tell the same; the hardest word. -/
namespace Go.Proofs.YtcmcjhdccnbmoaaGreat
open Go Go.Proofs.YtcmcjhdccnbmoaaGreat.Am
end Go.Proofs.YtcmcjhdccnbmoaaGreat

/- Splits of words, the spec's way; the number of factors and the hardest word: both sides tell the same. -/
namespace Go.Proofs.YtcmcjhdccnbmoaaGreat
open Go Go.Proofs.YtcmcjhdccnbmoaaGreat.Am
end Go.Proofs.YtcmcjhdccnbmoaaGreat

/- The hardest word and the most factors; the laws' frames. -/
namespace Go.Proofs.YtcmcjhdccnbmoaaGreat
open Go Go.Proofs.YtcmcjhdccnbmoaaGreat.Am
end Go.Proofs.YtcmcjhdccnbmoaaGreat

/- Marks: what is written into lists and read back. -/
namespace Go.Proofs.YtcmcjhdccnbmoaaGreat
open Go Go.Proofs.YtcmcjhdccnbmoaaGreat.Am
end Go.Proofs.YtcmcjhdccnbmoaaGreat
