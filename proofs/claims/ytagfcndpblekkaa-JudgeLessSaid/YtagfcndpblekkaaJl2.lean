/- The law JudgeLess answers true. -/
import Derived.Test.YtagfcndpblekkaaJl1
namespace Go.Proofs.Ytagfcndpblekkaa
open Go.RowKit Go.Maps
set_option linter.unusedVariables false
theorem less_walk (w : World) (b p s : Int) (hbI : -9223372036854775808 ≤ b ∧ b ≤ 9223372036854775807) (hpI : -9223372036854775808 ≤ p ∧ p ≤ 9223372036854775807) (hsI : -9223372036854775808 ≤ s ∧ s ≤ 9223372036854775807) (A : Option Addr) (n c : Nat) (m : List Bool) (hml : m.length = n) (hr : Rd w A (bls m)) (hm : n ≤ 140737488351232) (clean : Bool) (A2 : Option Addr) (n2 c2 : Nat) (l : List Cmd) (hll : l.length = n2) (hr2 : Rd w A2 (cmdV l)) (hI : CmdsI l) (hm2 : n2 ≤ 4398046510976) (hcap : n2 ≤ c2 ∧ c2 ≤ maxLen) (A3 : Option Addr) (n3 c3 : Nat) (ob : List Bool) (hol : ob.length = n3) (hr3 : Rd w A3 (bls ob)) (hm3 : n3 ≤ 140737488351232) (blk : Int) (hb1 : -9223372036854775808 ≤ blk) (hb2 : blk ≤ 9223372036854775807) (at_ : Int) (ha1 : -9223372036854775808 ≤ at_) (ha2 : at_ ≤ 9223372036854775807) :
    Calls Try.prog 7 #[.agg #[.int .i64 b, .int .i64 p, .int .i64 s], .slice A n c, .bool clean, .slice A2 n2 c2, .slice A3 n3 c3, .int .i64 blk, .int .i64 at_] w fun e w' => e = .returned (.bool true) ∧ Below w.heap.size w w' := by
  by_cases h0 : newE b p s n = 0
  · exact less_yes w b p s A n c m hml hr hm clean A2 n2 c2 l hll hr2 hI hm2 A3 n3 c3 hcap ob hol hr3 blk at_ ⟨hb1, hb2⟩ ⟨ha1, ha2⟩ h0
  · exact less_no w b p s A n c m hml hr hm clean A2 n2 c2 l hll hr2 hI hm2 A3 n3 c3 blk at_ h0
end Go.Proofs.Ytagfcndpblekkaa
