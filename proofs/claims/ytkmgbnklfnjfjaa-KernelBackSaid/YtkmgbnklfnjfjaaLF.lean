import Derived.Test.YtkmgbnklfnjfjaaLC
/-! KernelBack (f6) for any slice of calls. -/
namespace Go.Proofs.Ytkmgbnklfnjfjaa.Ker
open Go.RowKit Go.Maps

set_option maxHeartbeats 1000000 in
set_option maxRecDepth 100000 in
theorem back_long (w : World) (va : Option Addr) (n vc : Nat) (d x : Int) (hn : 60 < n) :
    Calls Try.prog 6 #[.slice va n vc, .int .i64 d, .int .i64 x] w fun e w' => e = .returned (.bool true) ∧ Below w.heap.size w w' := by
  have hl : decide ((60 : Int) < (n : Int)) = true := decide_eq_true (by omega)
  go_enter Try.func6, Try.ntmps6
  go_wp2_with fail
  go_ret
  exact ⟨rfl, Below.refl _ _⟩
set_option maxHeartbeats 1000000 in
set_option maxRecDepth 100000 in
theorem back_low (w : World) (va : Option Addr) (n vc : Nat) (d x : Int) (hn : n ≤ 60) (hd : d < -5) :
    Calls Try.prog 6 #[.slice va n vc, .int .i64 d, .int .i64 x] w fun e w' => e = .returned (.bool true) ∧ Below w.heap.size w w' := by
  have hl : decide ((60 : Int) < (n : Int)) = false := decide_eq_false (by omega)
  have hd1 : decide (d < -5) = true := decide_eq_true hd
  go_enter Try.func6, Try.ntmps6
  go_wp2_with fail
  go_ret
  exact ⟨rfl, Below.refl _ _⟩
set_option maxHeartbeats 1000000 in
set_option maxRecDepth 100000 in
theorem back_high (w : World) (va : Option Addr) (n vc : Nat) (d x : Int) (hn : n ≤ 60) (hd : -1 < d) :
    Calls Try.prog 6 #[.slice va n vc, .int .i64 d, .int .i64 x] w fun e w' => e = .returned (.bool true) ∧ Below w.heap.size w w' := by
  have hl : decide ((60 : Int) < (n : Int)) = false := decide_eq_false (by omega)
  have hd1 : decide (d < -5) = false := decide_eq_false (by omega)
  have hd2 : decide (-1 < d) = true := decide_eq_true hd
  go_enter Try.func6, Try.ntmps6
  go_wp2_with fail
  go_ret
  exact ⟨rfl, Below.refl _ _⟩
theorem back_any (w : World) (v : Value) (l : List C3) (h : callsAt w v l) (d x : Int) :
    Calls Try.prog 6 #[v, .int .i64 d, .int .i64 x] w fun e w' => e = .returned (.bool true) ∧ Below w.heap.size w w' := by
  have h' := h
  obtain ⟨va, vc, rfl, _⟩ := h'
  by_cases hn : 60 < l.length
  · exact back_long w va l.length vc d x hn
  · by_cases h1 : d < -5
    · exact back_low w va l.length vc d x (by omega) h1
    · by_cases h2 : -1 < d
      · exact back_high w va l.length vc d x (by omega) h2
      · exact back_fill w _ l h (by omega) d x (by omega)
end Go.Proofs.Ytkmgbnklfnjfjaa.Ker
