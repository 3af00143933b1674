/-
  Where edges lead to an event from, by the document.
-/
import Derived.Test.YtakmcpadkanggaaR2a
import Derived.Test.YtakmcpadkanggaaR2b
import Derived.Test.YtakmcpadkanggaaR2c
import Derived.Test.YtakmcpadkanggaaR2d
import Derived.Test.YtakmcpadkanggaaR2f
namespace Go.Proofs.Ytakmcpadkanggaa
open Go.RowKit Go.Maps Go.Deep

section
variable {w : World} {S : Sys} {A : Option Addr} {c : Nat} {R : Option Addr} {d n : Nat} {E : Nat → Ev} {B : Option Addr} {cb : Nat}
theorem into_any (hS : SysIn w S A c R d) (hE : EvsAt w B n E) (hn : n ≤ 40000) (hrm : ∀ q, q < S.nr → 1 ≤ S.rm q ∧ S.rm q ≤ 1000000) (j : Nat) (hj : j < n) (hok : okE S (stN E j) (E j) = true) : Calls Try.prog 71 #[.agg (sysV S A c R d), .slice B n cb, .int .i64 (j : Int)] w (IntoPost w S E j) := by
  by_cases h6 : (E j).op = 6
  · exact into_6 hS hE hn hrm j hj hok h6
  · by_cases h5 : (E j).op = 5
    · exact into_5 hS hE hn hrm j hj hok h5
    · by_cases h8 : (E j).op = 8
      · exact into_8 hS hE hn hrm j hj hok h8
      · by_cases h11 : (E j).op = 11
        · exact into_11 hS hE hn hrm j hj hok h11
        · exact into_o hS hE hn hrm j hj hok ⟨h6, h5, h8, h11⟩
end
end Go.Proofs.Ytakmcpadkanggaa
