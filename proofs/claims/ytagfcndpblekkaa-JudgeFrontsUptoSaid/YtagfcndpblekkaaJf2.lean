/- The law JudgeFronts answers true. -/
import Derived.Test.YtagfcndpblekkaaJf1
namespace Go.Proofs.Ytagfcndpblekkaa
open Go.RowKit Go.Maps
set_option linter.unusedVariables false
theorem fronts_walk (w : World) (b p s : Int) (hbI : -9223372036854775808 ≤ b ∧ b ≤ 9223372036854775807) (hpI : -9223372036854775808 ≤ p ∧ p ≤ 9223372036854775807) (hsI : -9223372036854775808 ≤ s ∧ s ≤ 9223372036854775807) (A : Option Addr) (n c : Nat) (m : List Bool) (hml : m.length = n) (hr : Rd w A (bls m)) (hm : n ≤ 1048576) (clean : Bool) (A2 : Option Addr) (n2 c2 : Nat) (l : List Cmd) (hll : l.length = n2) (hr2 : Rd w A2 (cmdV l)) (hI : CmdsI l) (hm2 : n2 ≤ 1048576) (hcap : n2 ≤ c2 ∧ c2 ≤ maxLen) (at_ : Int) (ha1 : -9223372036854775808 ≤ at_) (ha2 : at_ ≤ 9223372036854775807) (blk : Int) (hb1 : -9223372036854775808 ≤ blk) (hb2 : blk ≤ 9223372036854775807) (A3 : Option Addr) (n3 c3 : Nat) (l3 : List Cmd) (hl3 : l3.length = n3) (hr3 : Rd w A3 (cmdV l3)) (hI3 : CmdsI l3) (hm3 : n3 ≤ 1048576) :
    Calls Try.prog 6 #[.agg #[.int .i64 b, .int .i64 p, .int .i64 s], .slice A n c, .bool clean, .slice A2 n2 c2, .int .i64 at_, .int .i64 blk, .slice A3 n3 c3] w fun e w' => e = .returned (.bool true) ∧ Below w.heap.size w w' := by
  by_cases h0 : newE b p s n = 0
  · exact fronts_yes w b p s A n c m hml hr hm clean A2 n2 c2 l hll hr2 hI hm2 hcap at_ blk ⟨ha1, ha2⟩ ⟨hb1, hb2⟩ A3 n3 c3 l3 hl3 hr3 hI3 hm3 h0
  · exact fronts_no w b p s A n c m hml hr hm clean A2 n2 c2 l hll hr2 hI hm2 at_ blk A3 n3 c3 h0
end Go.Proofs.Ytagfcndpblekkaa
