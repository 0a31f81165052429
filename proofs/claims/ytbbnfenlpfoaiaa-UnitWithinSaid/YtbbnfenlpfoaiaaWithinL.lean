/- WALKS: the law UnitWithin of chapter 1, whole. -/
import Derived.Test.YtbbnfenlpfoaiaaWithinA
import Derived.Test.YtbbnfenlpfoaiaaWithinB
namespace Go.Proofs.Ytbbnfenlpfoaiaa
open Go.RowKit Go.Shelf

theorem within_law (w : World) (a b c : Int) (ia : -9223372036854775808 ≤ a ∧ a ≤ 9223372036854775807) (_ : -9223372036854775808 ≤ b ∧ b ≤ 9223372036854775807) (_ : -9223372036854775808 ≤ c ∧ c ≤ 9223372036854775807) :
    Calls Try.prog 7 #[.int .i64 a, .int .i64 b, .int .i64 c] w (RetB (.bool true) w) := by
  by_cases hb : -1099511627776 ≤ b ∧ b ≤ 1099511627776
  · by_cases ha : -1099511627776 ≤ a ∧ a ≤ 1099511627776
    · by_cases hab : -1099511627776 ≤ a + b ∧ a + b ≤ 1099511627776
      · by_cases hc : b ≤ c
        · exact within_13 a b c w ia hc hb ha hab
        · exact within_03 a b c w ia (by omega) hb ha hab
      · by_cases hc : b ≤ c
        · exact within_14 a b c w ia hc hb ha hab
        · exact within_04 a b c w ia (by omega) hb ha hab
    · by_cases hc : b ≤ c
      · exact within_12 a b c w ia hc hb ha
      · exact within_02 a b c w ia (by omega) hb ha
  · by_cases ha : -1099511627776 ≤ a ∧ a ≤ 1099511627776
    · by_cases hc : b ≤ c
      · exact within_11 a b c w ia hc hb ha
      · exact within_01 a b c w ia (by omega) hb ha
    · by_cases hc : b ≤ c
      · exact within_10 a b c w ia hc hb ha
      · exact within_00 a b c w ia (by omega) hb ha
end Go.Proofs.Ytbbnfenlpfoaiaa
