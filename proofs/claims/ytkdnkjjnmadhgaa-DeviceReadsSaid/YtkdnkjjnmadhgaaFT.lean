import Derived.Test.YtkdnkjjnmadhgaaFS
import Derived.Test.YtkdnkjjnmadhgaaFR
import Derived.Test.YtkdnkjjnmadhgaaDZ
/-! DeviceLines (f6): the walk. -/
namespace Go.Proofs.Ytkdnkjjnmadhgaa.Dev
open Go.RowKit Go.Maps Go.Lib

set_option maxHeartbeats 1000000 in
set_option maxRecDepth 100000 in
/-- Too many messages, or receives out of bounds: awake() alone. -/
theorem lines_bad (w : World) (A : Option Addr) (n c : Nat) (rc : Int) (h : 40 < n ∨ rc < 0 ∨ 60 < rc) : Calls Try.prog 6 #[.slice A n c, .int .i64 rc] w fun e w' => e = .returned (.bool true) ∧ Below w.heap.size w w' := by
  have C12 := Lib.hid (fun w' => awake_any w')
  by_cases h1 : 40 < n
  · have d1 : decide (40 < (n : Int)) = true := by simp; omega
    clear h h1
    go_enter Try.func6, Try.ntmps6
    go_wp2_with (go_at_call 12; (with_reducible refine (C12.out _).mono ?_); rintro e w' ⟨rfl, hb⟩; have HB := Lib.hid hb; clear hb)
    go_ret
    exact ⟨rfl, HB.out⟩
  · have d1 : decide (40 < (n : Int)) = false := by simp; omega
    by_cases h2 : rc < 0
    · have d2 : decide (rc < 0) = true := by simpa using h2
      clear h h1 h2
      go_enter Try.func6, Try.ntmps6
      go_wp2_with (go_at_call 12; (with_reducible refine (C12.out _).mono ?_); rintro e w' ⟨rfl, hb⟩; have HB := Lib.hid hb; clear hb)
      go_ret
      exact ⟨rfl, HB.out⟩
    · have d2 : decide (rc < 0) = false := by simpa using h2
      have d3 : decide (60 < rc) = true := by simp; omega
      clear h h1 h2
      go_enter Try.func6, Try.ntmps6
      go_wp2_with (go_at_call 12; (with_reducible refine (C12.out _).mono ?_); rintro e w' ⟨rfl, hb⟩; have HB := Lib.hid hb; clear hb)
      go_ret
      exact ⟨rfl, HB.out⟩
end Go.Proofs.Ytkdnkjjnmadhgaa.Dev
