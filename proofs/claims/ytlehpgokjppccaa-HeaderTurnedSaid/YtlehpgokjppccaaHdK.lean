/- Walks: header.Decode, tomeref08.Decode, whole; the head's '=='. -/
import Derived.Test.YtlehpgokjppccaaHdH
import Derived.Test.YtlehpgokjppccaaHdI
import Derived.Test.YtlehpgokjppccaaHdJ
import Derived.Test.YtlehpgokjppccaaHdQ
namespace Go.Proofs.Ytlehpgokjppccaa
open Go.RowKit
set_option maxRecDepth 100000

theorem decode_any (w : World) (A : Option Addr) (n c : Nat) (l : List Int) (hn : l.length = n) (hnc : n ≤ c) (hcm : c ≤ maxLen) (hA : Rd w A l) (hB : IsB l) :
    Calls Try.prog 17 #[.slice A n c] w (DecBack w l) := by
  by_cases h64 : n < 64
  · exact decode_short w A n c l hn h64 _ rfl
  · by_cases hs : l.take 16 = signL
    · by_cases hg : (readH l).good
      · exact decode_good w A n c l hn hnc hcm hA hB (by omega) hs hg _ rfl
      · exact decode_bad w A n c l hn hnc hcm hA hB (by omega) hs hg _ rfl
    · exact decode_sign w A n c l hn hnc hcm hA hB (by omega) hs _ rfl
theorem rdecode_any (w : World) (A : Option Addr) (n c : Nat) (l : List Int) (hn : l.length = n) (hnc : n ≤ c) (hcm : c ≤ maxLen) (hA : Rd w A l) (hB : IsB l) :
    Calls Try.prog 18 #[.slice A n c] w (DecBack w l) := by
  by_cases h64 : n < 64
  · exact rdecode_short w A n c l hn h64 _ rfl
  · by_cases hs : l.take 16 = signL
    · exact rdecode_main w A n c l hn hnc hcm hA hB (by omega) hs _ rfl
    · exact rdecode_sign w A n c l hn hnc hcm hA hB (by omega) hs _ rfl
end Go.Proofs.Ytlehpgokjppccaa
