-- Written by a program of this session (wip/p2/p2.py) on the kit's print: the machine's side of the law; nothing in it is trusted, Lean checks it.
import Derived.Test.YthllfmbdapdogaaZPPWordx0
import Derived.Test.YthllfmbdapdogaaZPPWordx1
namespace Go.Proofs.Ythllfmbdapdogaa.PWord
open Go.RowKit Go.Proofs.YthllfmbdapdogaaW.PrintWords Go.Proofs.YthllfmbdapdogaaW.PrintLast Go.Proofs.YthllfmbdapdogaaW.PrintMore
attribute [local go_sem] max2_int min2_int max_two min_two max_three min_three max_four min_four   -- for this text's walks alone
set_option linter.unusedVariables false
set_option linter.unusedSimpArgs false

/-! ### word_Do: function 45 -/
-- GIVEN bluebell/word.Do
-- rounds no
-- making yes
-- deps bluebell/word.norm bluebell/word.truth bluebell/word.unsigned
-- imports Derived.Laws.EntriesVeiled
def word_Do.f (a0 a1 a2 a3 : Int) : Option (Int × Int) := (word_norm.f a1 a3).bind fun x => (word_norm.f a2 a3).bind fun y =>
  if a0 = 4 then (word_norm.f (wrap64 (x + y)) a3).bind fun r => some (r, 0)
  else if a0 = 5 then (word_norm.f (wrap64 (x - y)) a3).bind fun r => some (r, 0)
  else if a0 = 12 then some (if x = y then -1 else 0, 0)
  else if a0 = 13 then some (if x = y then 0 else -1, 0)
  else if a0 = 14 then some (if x < y then -1 else 0, 0)
  else if a0 = 15 then some (if x ≤ y then -1 else 0, 0)
  else if a0 = 16 then some (if y < x then -1 else 0, 0)
  else if a0 = 17 then some (if y ≤ x then -1 else 0, 0)
  else if a0 = 8 then some (Go.bits .and .i64 x y, 0)
  else if a0 = 2 then (if y = 0 then some (0, 10) else (word_norm.f (wrap64 (x.tdiv y)) a3).bind fun r => some (r, 0))
  else if a0 = 3 then (if y = 0 then some (0, 10) else (word_norm.f (x.tmod y) a3).bind fun r => some (r, 0))
  else if a0 = 1 then (word_norm.f (wrap64 (x * y)) a3).bind fun r => some (r, 0)
  else if a0 = 6 then (if y < 0 then (word_norm.f 0 a3).bind fun r => some (r, 0) else if a3 ≤ y then (word_norm.f 0 a3).bind fun r => some (r, 0) else (word_norm.f (shl .i64 x y) a3).bind fun r => some (r, 0))
  else if a0 = 7 then (if y < 0 then (word_norm.f 0 a3).bind fun r => some (r, 0) else if a3 ≤ y then (word_norm.f 0 a3).bind fun r => some (r, 0) else (word_unsigned.f x a3).bind fun u => (word_norm.f (shr .i64 u y) a3).bind fun r => some (r, 0))
  else if a0 = 9 then (word_norm.f (Go.bits .or .i64 x y) a3).bind fun r => some (r, 0)
  else if a0 = 10 then (word_norm.f (Go.bits .xor .i64 x y) a3).bind fun r => some (r, 0)
  else if a0 = 11 then (word_norm.f (Go.bits .xor .i64 (-1) (Go.bits .xor .i64 x y)) a3).bind fun r => some (r, 0)
  else if a0 = 18 then (word_norm.f (wrap64 (-x)) a3).bind fun r => some (r, 0)
  else if a0 = 19 then (word_norm.f (Go.bits .xor .i64 (-1) x) a3).bind fun r => some (r, 0)
  else none

theorem word_operators.calls (w : World) :
    Calls Try.prog 54 #[] w fun e w' => ∃ g, e = .returned (.slice (some ⟨g, 0, none⟩) 19 19) ∧ w.heap.size ≤ g ∧ w'.heap[g]? = some (.cells #[Value.func (Fn.func 64) #[] #[], Value.func (Fn.func 65) #[] #[], Value.func (Fn.func 66) #[] #[], Value.func (Fn.func 67) #[] #[], Value.func (Fn.func 68) #[] #[], Value.func (Fn.func 69) #[] #[], Value.func (Fn.func 70) #[] #[], Value.func (Fn.func 71) #[] #[], Value.func (Fn.func 72) #[] #[], Value.func (Fn.func 73) #[] #[], Value.func (Fn.func 74) #[] #[], Value.func (Fn.func 75) #[] #[], Value.func (Fn.func 76) #[] #[], Value.func (Fn.func 77) #[] #[], Value.func (Fn.func 78) #[] #[], Value.func (Fn.func 79) #[] #[], Value.func (Fn.func 80) #[] #[], Value.func (Fn.func 81) #[] #[], Value.func (Fn.func 82) #[] #[]] 65 (0, 0)) ∧ Below w.heap.size w w' := by
  go_enter Try.func54, Try.ntmps54
  go_wp2
  go_ret
  exact ⟨w.heap.size, rfl, Nat.le_refl _, heap_alloc_new _ _, (Below.refl _ _).alloc (Nat.le_refl _) _⟩

set_option maxHeartbeats 400000 in
theorem word_Do.c_add (a b bits x y r : Int) (w : World) (hx0 : word_norm.f a bits = some x) (hy0 : word_norm.f b bits = some y) (hr0 : word_norm.f (wrap64 (x + y)) bits = some r) :
    Calls Try.prog 45 #[.int .i64 4, .int .i64 a, .int .i64 b, .int .i64 bits] w fun e w' => e = .returned (.tuple #[.int .i64 r, .int .i64 0]) ∧ Below w.heap.size w w' := by
  have hx := Aside0.mk hx0
  have hy := Aside0.mk hy0
  clear hx0 hy0
  have hr := Aside0.mk hr0
  clear hr0
  go_enter Try.func45, Try.ntmps45
  go_wp2_with (first | (go_at_call 50; (with_reducible refine (word_norm.calls a bits x _ hx.out).mono ?_); rintro e w' ⟨rfl, ⟨nd, rfl⟩⟩) | (go_at_call 50; (with_reducible refine (word_norm.calls b bits y _ hy.out).mono ?_); rintro e w' ⟨rfl, ⟨nd, rfl⟩⟩) | (go_at_call 50; (with_reducible refine (word_norm.calls (wrap64 (x + y)) bits r _ hr.out).mono ?_); rintro e w' ⟨rfl, ⟨nd, rfl⟩⟩))
  go_ret2
  exact ⟨rfl, by repeat (first | exact HB.out | exact Below.refl _ _ | apply pw_below_drewN | apply below_drew)⟩

set_option maxHeartbeats 400000 in
theorem word_Do.c_sub (a b bits x y r : Int) (w : World) (hx0 : word_norm.f a bits = some x) (hy0 : word_norm.f b bits = some y) (hr0 : word_norm.f (wrap64 (x - y)) bits = some r) :
    Calls Try.prog 45 #[.int .i64 5, .int .i64 a, .int .i64 b, .int .i64 bits] w fun e w' => e = .returned (.tuple #[.int .i64 r, .int .i64 0]) ∧ Below w.heap.size w w' := by
  have hx := Aside0.mk hx0
  have hy := Aside0.mk hy0
  clear hx0 hy0
  have hr := Aside0.mk hr0
  clear hr0
  go_enter Try.func45, Try.ntmps45
  go_wp2_with (first | (go_at_call 50; (with_reducible refine (word_norm.calls a bits x _ hx.out).mono ?_); rintro e w' ⟨rfl, ⟨nd, rfl⟩⟩) | (go_at_call 50; (with_reducible refine (word_norm.calls b bits y _ hy.out).mono ?_); rintro e w' ⟨rfl, ⟨nd, rfl⟩⟩) | (go_at_call 50; (with_reducible refine (word_norm.calls (wrap64 (x - y)) bits r _ hr.out).mono ?_); rintro e w' ⟨rfl, ⟨nd, rfl⟩⟩))
  go_ret2
  exact ⟨rfl, by repeat (first | exact HB.out | exact Below.refl _ _ | apply pw_below_drewN | apply below_drew)⟩

set_option maxHeartbeats 400000 in
theorem word_Do.c_eq_true (a b bits x y r : Int) (w : World) (hx0 : word_norm.f a bits = some x) (hy0 : word_norm.f b bits = some y) (hr0 : (x == y) = true) :
    Calls Try.prog 45 #[.int .i64 12, .int .i64 a, .int .i64 b, .int .i64 bits] w fun e w' => e = .returned (.tuple #[.int .i64 (-1), .int .i64 0]) ∧ Below w.heap.size w w' := by
  have hx := Aside0.mk hx0
  have hy := Aside0.mk hy0
  clear hx0 hy0
  go_enter Try.func45, Try.ntmps45
  go_wp2_with (first | (go_at_call 50; (with_reducible refine (word_norm.calls a bits x _ hx.out).mono ?_); rintro e w' ⟨rfl, ⟨nd, rfl⟩⟩) | (go_at_call 50; (with_reducible refine (word_norm.calls b bits y _ hy.out).mono ?_); rintro e w' ⟨rfl, ⟨nd, rfl⟩⟩) | (go_at_call 62; (with_reducible refine (word_truth.calls true (-1) _ rfl).mono ?_); rintro e w' ⟨rfl, ⟨nd, rfl⟩⟩))
  go_ret2
  exact ⟨rfl, by repeat (first | exact HB.out | exact Below.refl _ _ | apply pw_below_drewN | apply below_drew)⟩

set_option maxHeartbeats 400000 in
theorem word_Do.c_eq_false (a b bits x y r : Int) (w : World) (hx0 : word_norm.f a bits = some x) (hy0 : word_norm.f b bits = some y) (hr0 : (x == y) = false) :
    Calls Try.prog 45 #[.int .i64 12, .int .i64 a, .int .i64 b, .int .i64 bits] w fun e w' => e = .returned (.tuple #[.int .i64 0, .int .i64 0]) ∧ Below w.heap.size w w' := by
  have hx := Aside0.mk hx0
  have hy := Aside0.mk hy0
  clear hx0 hy0
  go_enter Try.func45, Try.ntmps45
  go_wp2_with (first | (go_at_call 50; (with_reducible refine (word_norm.calls a bits x _ hx.out).mono ?_); rintro e w' ⟨rfl, ⟨nd, rfl⟩⟩) | (go_at_call 50; (with_reducible refine (word_norm.calls b bits y _ hy.out).mono ?_); rintro e w' ⟨rfl, ⟨nd, rfl⟩⟩) | (go_at_call 62; (with_reducible refine (word_truth.calls false 0 _ rfl).mono ?_); rintro e w' ⟨rfl, ⟨nd, rfl⟩⟩))
  go_ret2
  exact ⟨rfl, by repeat (first | exact HB.out | exact Below.refl _ _ | apply pw_below_drewN | apply below_drew)⟩

set_option maxHeartbeats 400000 in
theorem word_Do.c_ne_true (a b bits x y r : Int) (w : World) (hx0 : word_norm.f a bits = some x) (hy0 : word_norm.f b bits = some y) (hr0 : (x != y) = true) :
    Calls Try.prog 45 #[.int .i64 13, .int .i64 a, .int .i64 b, .int .i64 bits] w fun e w' => e = .returned (.tuple #[.int .i64 (-1), .int .i64 0]) ∧ Below w.heap.size w w' := by
  have hx := Aside0.mk hx0
  have hy := Aside0.mk hy0
  clear hx0 hy0
  go_enter Try.func45, Try.ntmps45
  go_wp2_with (first | (go_at_call 50; (with_reducible refine (word_norm.calls a bits x _ hx.out).mono ?_); rintro e w' ⟨rfl, ⟨nd, rfl⟩⟩) | (go_at_call 50; (with_reducible refine (word_norm.calls b bits y _ hy.out).mono ?_); rintro e w' ⟨rfl, ⟨nd, rfl⟩⟩) | (go_at_call 62; (with_reducible refine (word_truth.calls true (-1) _ rfl).mono ?_); rintro e w' ⟨rfl, ⟨nd, rfl⟩⟩))
  go_ret2
  exact ⟨rfl, by repeat (first | exact HB.out | exact Below.refl _ _ | apply pw_below_drewN | apply below_drew)⟩

set_option maxHeartbeats 400000 in
theorem word_Do.c_ne_false (a b bits x y r : Int) (w : World) (hx0 : word_norm.f a bits = some x) (hy0 : word_norm.f b bits = some y) (hr0 : (x != y) = false) :
    Calls Try.prog 45 #[.int .i64 13, .int .i64 a, .int .i64 b, .int .i64 bits] w fun e w' => e = .returned (.tuple #[.int .i64 0, .int .i64 0]) ∧ Below w.heap.size w w' := by
  have hx := Aside0.mk hx0
  have hy := Aside0.mk hy0
  clear hx0 hy0
  go_enter Try.func45, Try.ntmps45
  go_wp2_with (first | (go_at_call 50; (with_reducible refine (word_norm.calls a bits x _ hx.out).mono ?_); rintro e w' ⟨rfl, ⟨nd, rfl⟩⟩) | (go_at_call 50; (with_reducible refine (word_norm.calls b bits y _ hy.out).mono ?_); rintro e w' ⟨rfl, ⟨nd, rfl⟩⟩) | (go_at_call 62; (with_reducible refine (word_truth.calls false 0 _ rfl).mono ?_); rintro e w' ⟨rfl, ⟨nd, rfl⟩⟩))
  go_ret2
  exact ⟨rfl, by repeat (first | exact HB.out | exact Below.refl _ _ | apply pw_below_drewN | apply below_drew)⟩

set_option maxHeartbeats 400000 in
theorem word_Do.c_lt_true (a b bits x y r : Int) (w : World) (hx0 : word_norm.f a bits = some x) (hy0 : word_norm.f b bits = some y) (hr0 : (decide (x < y)) = true) :
    Calls Try.prog 45 #[.int .i64 14, .int .i64 a, .int .i64 b, .int .i64 bits] w fun e w' => e = .returned (.tuple #[.int .i64 (-1), .int .i64 0]) ∧ Below w.heap.size w w' := by
  have hx := Aside0.mk hx0
  have hy := Aside0.mk hy0
  clear hx0 hy0
  go_enter Try.func45, Try.ntmps45
  go_wp2_with (first | (go_at_call 50; (with_reducible refine (word_norm.calls a bits x _ hx.out).mono ?_); rintro e w' ⟨rfl, ⟨nd, rfl⟩⟩) | (go_at_call 50; (with_reducible refine (word_norm.calls b bits y _ hy.out).mono ?_); rintro e w' ⟨rfl, ⟨nd, rfl⟩⟩) | (go_at_call 62; (with_reducible refine (word_truth.calls true (-1) _ rfl).mono ?_); rintro e w' ⟨rfl, ⟨nd, rfl⟩⟩))
  go_ret2
  exact ⟨rfl, by repeat (first | exact HB.out | exact Below.refl _ _ | apply pw_below_drewN | apply below_drew)⟩

set_option maxHeartbeats 400000 in
theorem word_Do.c_lt_false (a b bits x y r : Int) (w : World) (hx0 : word_norm.f a bits = some x) (hy0 : word_norm.f b bits = some y) (hr0 : (decide (x < y)) = false) :
    Calls Try.prog 45 #[.int .i64 14, .int .i64 a, .int .i64 b, .int .i64 bits] w fun e w' => e = .returned (.tuple #[.int .i64 0, .int .i64 0]) ∧ Below w.heap.size w w' := by
  have hx := Aside0.mk hx0
  have hy := Aside0.mk hy0
  clear hx0 hy0
  go_enter Try.func45, Try.ntmps45
  go_wp2_with (first | (go_at_call 50; (with_reducible refine (word_norm.calls a bits x _ hx.out).mono ?_); rintro e w' ⟨rfl, ⟨nd, rfl⟩⟩) | (go_at_call 50; (with_reducible refine (word_norm.calls b bits y _ hy.out).mono ?_); rintro e w' ⟨rfl, ⟨nd, rfl⟩⟩) | (go_at_call 62; (with_reducible refine (word_truth.calls false 0 _ rfl).mono ?_); rintro e w' ⟨rfl, ⟨nd, rfl⟩⟩))
  go_ret2
  exact ⟨rfl, by repeat (first | exact HB.out | exact Below.refl _ _ | apply pw_below_drewN | apply below_drew)⟩

set_option maxHeartbeats 400000 in
theorem word_Do.c_le_true (a b bits x y r : Int) (w : World) (hx0 : word_norm.f a bits = some x) (hy0 : word_norm.f b bits = some y) (hr0 : (decide (x ≤ y)) = true) :
    Calls Try.prog 45 #[.int .i64 15, .int .i64 a, .int .i64 b, .int .i64 bits] w fun e w' => e = .returned (.tuple #[.int .i64 (-1), .int .i64 0]) ∧ Below w.heap.size w w' := by
  have hx := Aside0.mk hx0
  have hy := Aside0.mk hy0
  clear hx0 hy0
  go_enter Try.func45, Try.ntmps45
  go_wp2_with (first | (go_at_call 50; (with_reducible refine (word_norm.calls a bits x _ hx.out).mono ?_); rintro e w' ⟨rfl, ⟨nd, rfl⟩⟩) | (go_at_call 50; (with_reducible refine (word_norm.calls b bits y _ hy.out).mono ?_); rintro e w' ⟨rfl, ⟨nd, rfl⟩⟩) | (go_at_call 62; (with_reducible refine (word_truth.calls true (-1) _ rfl).mono ?_); rintro e w' ⟨rfl, ⟨nd, rfl⟩⟩))
  go_ret2
  exact ⟨rfl, by repeat (first | exact HB.out | exact Below.refl _ _ | apply pw_below_drewN | apply below_drew)⟩

set_option maxHeartbeats 400000 in
theorem word_Do.c_le_false (a b bits x y r : Int) (w : World) (hx0 : word_norm.f a bits = some x) (hy0 : word_norm.f b bits = some y) (hr0 : (decide (x ≤ y)) = false) :
    Calls Try.prog 45 #[.int .i64 15, .int .i64 a, .int .i64 b, .int .i64 bits] w fun e w' => e = .returned (.tuple #[.int .i64 0, .int .i64 0]) ∧ Below w.heap.size w w' := by
  have hx := Aside0.mk hx0
  have hy := Aside0.mk hy0
  clear hx0 hy0
  go_enter Try.func45, Try.ntmps45
  go_wp2_with (first | (go_at_call 50; (with_reducible refine (word_norm.calls a bits x _ hx.out).mono ?_); rintro e w' ⟨rfl, ⟨nd, rfl⟩⟩) | (go_at_call 50; (with_reducible refine (word_norm.calls b bits y _ hy.out).mono ?_); rintro e w' ⟨rfl, ⟨nd, rfl⟩⟩) | (go_at_call 62; (with_reducible refine (word_truth.calls false 0 _ rfl).mono ?_); rintro e w' ⟨rfl, ⟨nd, rfl⟩⟩))
  go_ret2
  exact ⟨rfl, by repeat (first | exact HB.out | exact Below.refl _ _ | apply pw_below_drewN | apply below_drew)⟩

set_option maxHeartbeats 400000 in
theorem word_Do.c_gt_true (a b bits x y r : Int) (w : World) (hx0 : word_norm.f a bits = some x) (hy0 : word_norm.f b bits = some y) (hr0 : (decide (y < x)) = true) :
    Calls Try.prog 45 #[.int .i64 16, .int .i64 a, .int .i64 b, .int .i64 bits] w fun e w' => e = .returned (.tuple #[.int .i64 (-1), .int .i64 0]) ∧ Below w.heap.size w w' := by
  have hx := Aside0.mk hx0
  have hy := Aside0.mk hy0
  clear hx0 hy0
  go_enter Try.func45, Try.ntmps45
  go_wp2_with (first | (go_at_call 50; (with_reducible refine (word_norm.calls a bits x _ hx.out).mono ?_); rintro e w' ⟨rfl, ⟨nd, rfl⟩⟩) | (go_at_call 50; (with_reducible refine (word_norm.calls b bits y _ hy.out).mono ?_); rintro e w' ⟨rfl, ⟨nd, rfl⟩⟩) | (go_at_call 62; (with_reducible refine (word_truth.calls true (-1) _ rfl).mono ?_); rintro e w' ⟨rfl, ⟨nd, rfl⟩⟩))
  go_ret2
  exact ⟨rfl, by repeat (first | exact HB.out | exact Below.refl _ _ | apply pw_below_drewN | apply below_drew)⟩

set_option maxHeartbeats 400000 in
theorem word_Do.c_gt_false (a b bits x y r : Int) (w : World) (hx0 : word_norm.f a bits = some x) (hy0 : word_norm.f b bits = some y) (hr0 : (decide (y < x)) = false) :
    Calls Try.prog 45 #[.int .i64 16, .int .i64 a, .int .i64 b, .int .i64 bits] w fun e w' => e = .returned (.tuple #[.int .i64 0, .int .i64 0]) ∧ Below w.heap.size w w' := by
  have hx := Aside0.mk hx0
  have hy := Aside0.mk hy0
  clear hx0 hy0
  go_enter Try.func45, Try.ntmps45
  go_wp2_with (first | (go_at_call 50; (with_reducible refine (word_norm.calls a bits x _ hx.out).mono ?_); rintro e w' ⟨rfl, ⟨nd, rfl⟩⟩) | (go_at_call 50; (with_reducible refine (word_norm.calls b bits y _ hy.out).mono ?_); rintro e w' ⟨rfl, ⟨nd, rfl⟩⟩) | (go_at_call 62; (with_reducible refine (word_truth.calls false 0 _ rfl).mono ?_); rintro e w' ⟨rfl, ⟨nd, rfl⟩⟩))
  go_ret2
  exact ⟨rfl, by repeat (first | exact HB.out | exact Below.refl _ _ | apply pw_below_drewN | apply below_drew)⟩

set_option maxHeartbeats 400000 in
theorem word_Do.c_ge_true (a b bits x y r : Int) (w : World) (hx0 : word_norm.f a bits = some x) (hy0 : word_norm.f b bits = some y) (hr0 : (decide (y ≤ x)) = true) :
    Calls Try.prog 45 #[.int .i64 17, .int .i64 a, .int .i64 b, .int .i64 bits] w fun e w' => e = .returned (.tuple #[.int .i64 (-1), .int .i64 0]) ∧ Below w.heap.size w w' := by
  have hx := Aside0.mk hx0
  have hy := Aside0.mk hy0
  clear hx0 hy0
  go_enter Try.func45, Try.ntmps45
  go_wp2_with (first | (go_at_call 50; (with_reducible refine (word_norm.calls a bits x _ hx.out).mono ?_); rintro e w' ⟨rfl, ⟨nd, rfl⟩⟩) | (go_at_call 50; (with_reducible refine (word_norm.calls b bits y _ hy.out).mono ?_); rintro e w' ⟨rfl, ⟨nd, rfl⟩⟩) | (go_at_call 62; (with_reducible refine (word_truth.calls true (-1) _ rfl).mono ?_); rintro e w' ⟨rfl, ⟨nd, rfl⟩⟩))
  go_ret2
  exact ⟨rfl, by repeat (first | exact HB.out | exact Below.refl _ _ | apply pw_below_drewN | apply below_drew)⟩

set_option maxHeartbeats 400000 in
theorem word_Do.c_ge_false (a b bits x y r : Int) (w : World) (hx0 : word_norm.f a bits = some x) (hy0 : word_norm.f b bits = some y) (hr0 : (decide (y ≤ x)) = false) :
    Calls Try.prog 45 #[.int .i64 17, .int .i64 a, .int .i64 b, .int .i64 bits] w fun e w' => e = .returned (.tuple #[.int .i64 0, .int .i64 0]) ∧ Below w.heap.size w w' := by
  have hx := Aside0.mk hx0
  have hy := Aside0.mk hy0
  clear hx0 hy0
  go_enter Try.func45, Try.ntmps45
  go_wp2_with (first | (go_at_call 50; (with_reducible refine (word_norm.calls a bits x _ hx.out).mono ?_); rintro e w' ⟨rfl, ⟨nd, rfl⟩⟩) | (go_at_call 50; (with_reducible refine (word_norm.calls b bits y _ hy.out).mono ?_); rintro e w' ⟨rfl, ⟨nd, rfl⟩⟩) | (go_at_call 62; (with_reducible refine (word_truth.calls false 0 _ rfl).mono ?_); rintro e w' ⟨rfl, ⟨nd, rfl⟩⟩))
  go_ret2
  exact ⟨rfl, by repeat (first | exact HB.out | exact Below.refl _ _ | apply pw_below_drewN | apply below_drew)⟩

set_option maxHeartbeats 400000 in
theorem word_Do.c_and (a b bits x y r : Int) (w : World) (hx0 : word_norm.f a bits = some x) (hy0 : word_norm.f b bits = some y) :
    Calls Try.prog 45 #[.int .i64 8, .int .i64 a, .int .i64 b, .int .i64 bits] w fun e w' => e = .returned (.tuple #[.int .i64 (Go.bits .and .i64 x y), .int .i64 0]) ∧ Below w.heap.size w w' := by
  have hx := Aside0.mk hx0
  have hy := Aside0.mk hy0
  clear hx0 hy0
  go_enter Try.func45, Try.ntmps45
  go_wp2_with (first | (go_at_call 50; (with_reducible refine (word_norm.calls a bits x _ hx.out).mono ?_); rintro e w' ⟨rfl, ⟨nd, rfl⟩⟩) | (go_at_call 50; (with_reducible refine (word_norm.calls b bits y _ hy.out).mono ?_); rintro e w' ⟨rfl, ⟨nd, rfl⟩⟩))
  go_ret2
  exact ⟨rfl, by repeat (first | exact HB.out | exact Below.refl _ _ | apply pw_below_drewN | apply below_drew)⟩

set_option maxHeartbeats 400000 in
theorem word_Do.c_div0 (a b bits x y r : Int) (w : World) (hx0 : word_norm.f a bits = some x) (hy0 : word_norm.f b bits = some y) (hr0 : (y == 0) = true) :
    Calls Try.prog 45 #[.int .i64 2, .int .i64 a, .int .i64 b, .int .i64 bits] w fun e w' => e = .returned (.tuple #[.int .i64 0, .int .i64 10]) ∧ Below w.heap.size w w' := by
  have hx := Aside0.mk hx0
  have hy := Aside0.mk hy0
  clear hx0 hy0
  go_enter Try.func45, Try.ntmps45
  go_wp2_with (first | (go_at_call 50; (with_reducible refine (word_norm.calls a bits x _ hx.out).mono ?_); rintro e w' ⟨rfl, ⟨nd, rfl⟩⟩) | (go_at_call 50; (with_reducible refine (word_norm.calls b bits y _ hy.out).mono ?_); rintro e w' ⟨rfl, ⟨nd, rfl⟩⟩))
  go_ret2
  exact ⟨rfl, by repeat (first | exact HB.out | exact Below.refl _ _ | apply pw_below_drewN | apply below_drew)⟩

set_option maxHeartbeats 400000 in
theorem word_Do.c_rem0 (a b bits x y r : Int) (w : World) (hx0 : word_norm.f a bits = some x) (hy0 : word_norm.f b bits = some y) (hr0 : (y == 0) = true) :
    Calls Try.prog 45 #[.int .i64 3, .int .i64 a, .int .i64 b, .int .i64 bits] w fun e w' => e = .returned (.tuple #[.int .i64 0, .int .i64 10]) ∧ Below w.heap.size w w' := by
  have hx := Aside0.mk hx0
  have hy := Aside0.mk hy0
  clear hx0 hy0
  go_enter Try.func45, Try.ntmps45
  go_wp2_with (first | (go_at_call 50; (with_reducible refine (word_norm.calls a bits x _ hx.out).mono ?_); rintro e w' ⟨rfl, ⟨nd, rfl⟩⟩) | (go_at_call 50; (with_reducible refine (word_norm.calls b bits y _ hy.out).mono ?_); rintro e w' ⟨rfl, ⟨nd, rfl⟩⟩))
  go_ret2
  exact ⟨rfl, by repeat (first | exact HB.out | exact Below.refl _ _ | apply pw_below_drewN | apply below_drew)⟩

set_option maxHeartbeats 400000 in
theorem word_Do.c_mul (a b bits x y r : Int) (w : World) (hx0 : word_norm.f a bits = some x) (hy0 : word_norm.f b bits = some y) (hr0 : word_norm.f (wrap64 (x * y)) bits = some r) :
    Calls Try.prog 45 #[.int .i64 1, .int .i64 a, .int .i64 b, .int .i64 bits] w fun e w' => e = .returned (.tuple #[.int .i64 r, .int .i64 0]) ∧ Below w.heap.size w w' := by
  have hx := Aside0.mk hx0
  have hy := Aside0.mk hy0
  clear hx0 hy0
  have hr := Aside0.mk hr0
  clear hr0
  go_enter Try.func45, Try.ntmps45
  go_wp2_with (first | (go_at_call 50; (with_reducible refine (word_norm.calls a bits x _ hx.out).mono ?_); rintro e w' ⟨rfl, ⟨nd, rfl⟩⟩) | (go_at_call 50; (with_reducible refine (word_norm.calls b bits y _ hy.out).mono ?_); rintro e w' ⟨rfl, ⟨nd, rfl⟩⟩) | (go_at_call 54; (with_reducible refine (word_operators.calls _).mono ?_); rintro e w1 ⟨g, rfl, hg, hb0, hbl⟩; have hcl : w1.cell? ⟨g, 0, none⟩ = some (Value.func (Fn.func 64) #[] #[]) := (blk_cell hb0 0).trans rfl; have HB : Below w.heap.size w w1 := below_step (by repeat (first | exact Below.refl _ _ | apply pw_below_drewN | apply below_drew)) hbl; clear hb0 hbl) | (go_at_call 50; (with_reducible refine (word_norm.calls _ bits r _ ?hc).mono ?_); (case hc => first | (with_reducible exact hr.out) | exact hr.out); rintro e w' ⟨rfl, ⟨nd, rfl⟩⟩) | go_in)
  go_ret2
  exact ⟨rfl, by repeat (first | exact HB | exact Below.refl _ _ | apply pw_below_drewN | apply below_drew)⟩

set_option maxHeartbeats 400000 in
theorem word_Do.c_div (a b bits x y r : Int) (w : World) (hx0 : word_norm.f a bits = some x) (hy0 : word_norm.f b bits = some y) (hz : ¬ y = 0) (hr0 : word_norm.f (wrap64 (x.tdiv y)) bits = some r) :
    Calls Try.prog 45 #[.int .i64 2, .int .i64 a, .int .i64 b, .int .i64 bits] w fun e w' => e = .returned (.tuple #[.int .i64 r, .int .i64 0]) ∧ Below w.heap.size w w' := by
  have hx := Aside0.mk hx0
  have hy := Aside0.mk hy0
  clear hx0 hy0
  have hz1 : (y == 0) = false := beq_eq_false_iff_ne.mpr hz
  have hz2 : (y != 0) = true := bne_iff_ne.mpr hz
  have hr := Aside0.mk hr0
  clear hr0
  go_enter Try.func45, Try.ntmps45
  go_wp2_with (first | (go_at_call 50; (with_reducible refine (word_norm.calls a bits x _ hx.out).mono ?_); rintro e w' ⟨rfl, ⟨nd, rfl⟩⟩) | (go_at_call 50; (with_reducible refine (word_norm.calls b bits y _ hy.out).mono ?_); rintro e w' ⟨rfl, ⟨nd, rfl⟩⟩) | (go_at_call 54; (with_reducible refine (word_operators.calls _).mono ?_); rintro e w1 ⟨g, rfl, hg, hb0, hbl⟩; have hcl : w1.cell? ⟨g, 1, none⟩ = some (Value.func (Fn.func 65) #[] #[]) := (blk_cell hb0 1).trans rfl; have HB : Below w.heap.size w w1 := below_step (by repeat (first | exact Below.refl _ _ | apply pw_below_drewN | apply below_drew)) hbl; clear hb0 hbl) | (go_at_call 50; (with_reducible refine (word_norm.calls _ bits r _ ?hc).mono ?_); (case hc => first | (with_reducible exact hr.out) | exact hr.out); rintro e w' ⟨rfl, ⟨nd, rfl⟩⟩) | go_in)
  go_ret2
  exact ⟨rfl, by repeat (first | exact HB | exact Below.refl _ _ | apply pw_below_drewN | apply below_drew)⟩

set_option maxHeartbeats 400000 in
theorem word_Do.c_rem (a b bits x y r : Int) (w : World) (hx0 : word_norm.f a bits = some x) (hy0 : word_norm.f b bits = some y) (hz : ¬ y = 0) (hr0 : word_norm.f (x.tmod y) bits = some r) :
    Calls Try.prog 45 #[.int .i64 3, .int .i64 a, .int .i64 b, .int .i64 bits] w fun e w' => e = .returned (.tuple #[.int .i64 r, .int .i64 0]) ∧ Below w.heap.size w w' := by
  have hx := Aside0.mk hx0
  have hy := Aside0.mk hy0
  clear hx0 hy0
  have hz1 : (y == 0) = false := beq_eq_false_iff_ne.mpr hz
  have hz2 : (y != 0) = true := bne_iff_ne.mpr hz
  have hr := Aside0.mk hr0
  clear hr0
  go_enter Try.func45, Try.ntmps45
  go_wp2_with (first | (go_at_call 50; (with_reducible refine (word_norm.calls a bits x _ hx.out).mono ?_); rintro e w' ⟨rfl, ⟨nd, rfl⟩⟩) | (go_at_call 50; (with_reducible refine (word_norm.calls b bits y _ hy.out).mono ?_); rintro e w' ⟨rfl, ⟨nd, rfl⟩⟩) | (go_at_call 54; (with_reducible refine (word_operators.calls _).mono ?_); rintro e w1 ⟨g, rfl, hg, hb0, hbl⟩; have hcl : w1.cell? ⟨g, 2, none⟩ = some (Value.func (Fn.func 66) #[] #[]) := (blk_cell hb0 2).trans rfl; have HB : Below w.heap.size w w1 := below_step (by repeat (first | exact Below.refl _ _ | apply pw_below_drewN | apply below_drew)) hbl; clear hb0 hbl) | (go_at_call 50; (with_reducible refine (word_norm.calls _ bits r _ ?hc).mono ?_); (case hc => first | (with_reducible exact hr.out) | exact hr.out); rintro e w' ⟨rfl, ⟨nd, rfl⟩⟩) | go_in)
  go_ret2
  exact ⟨rfl, by repeat (first | exact HB | exact Below.refl _ _ | apply pw_below_drewN | apply below_drew)⟩

set_option maxHeartbeats 400000 in
theorem word_Do.c_or (a b bits x y r : Int) (w : World) (hx0 : word_norm.f a bits = some x) (hy0 : word_norm.f b bits = some y) (hr0 : word_norm.f (Go.bits .or .i64 x y) bits = some r) :
    Calls Try.prog 45 #[.int .i64 9, .int .i64 a, .int .i64 b, .int .i64 bits] w fun e w' => e = .returned (.tuple #[.int .i64 r, .int .i64 0]) ∧ Below w.heap.size w w' := by
  have hx := Aside0.mk hx0
  have hy := Aside0.mk hy0
  clear hx0 hy0
  have hr := Aside0.mk hr0
  clear hr0
  go_enter Try.func45, Try.ntmps45
  go_wp2_with (first | (go_at_call 50; (with_reducible refine (word_norm.calls a bits x _ hx.out).mono ?_); rintro e w' ⟨rfl, ⟨nd, rfl⟩⟩) | (go_at_call 50; (with_reducible refine (word_norm.calls b bits y _ hy.out).mono ?_); rintro e w' ⟨rfl, ⟨nd, rfl⟩⟩) | (go_at_call 54; (with_reducible refine (word_operators.calls _).mono ?_); rintro e w1 ⟨g, rfl, hg, hb0, hbl⟩; have hcl : w1.cell? ⟨g, 8, none⟩ = some (Value.func (Fn.func 72) #[] #[]) := (blk_cell hb0 8).trans rfl; have HB : Below w.heap.size w w1 := below_step (by repeat (first | exact Below.refl _ _ | apply pw_below_drewN | apply below_drew)) hbl; clear hb0 hbl) | (go_at_call 50; (with_reducible refine (word_norm.calls _ bits r _ ?hc).mono ?_); (case hc => first | (with_reducible exact hr.out) | exact hr.out); rintro e w' ⟨rfl, ⟨nd, rfl⟩⟩) | go_in)
  go_ret2
  exact ⟨rfl, by repeat (first | exact HB | exact Below.refl _ _ | apply pw_below_drewN | apply below_drew)⟩

set_option maxHeartbeats 400000 in
theorem word_Do.c_xor (a b bits x y r : Int) (w : World) (hx0 : word_norm.f a bits = some x) (hy0 : word_norm.f b bits = some y) (hr0 : word_norm.f (Go.bits .xor .i64 x y) bits = some r) :
    Calls Try.prog 45 #[.int .i64 10, .int .i64 a, .int .i64 b, .int .i64 bits] w fun e w' => e = .returned (.tuple #[.int .i64 r, .int .i64 0]) ∧ Below w.heap.size w w' := by
  have hx := Aside0.mk hx0
  have hy := Aside0.mk hy0
  clear hx0 hy0
  have hr := Aside0.mk hr0
  clear hr0
  go_enter Try.func45, Try.ntmps45
  go_wp2_with (first | (go_at_call 50; (with_reducible refine (word_norm.calls a bits x _ hx.out).mono ?_); rintro e w' ⟨rfl, ⟨nd, rfl⟩⟩) | (go_at_call 50; (with_reducible refine (word_norm.calls b bits y _ hy.out).mono ?_); rintro e w' ⟨rfl, ⟨nd, rfl⟩⟩) | (go_at_call 54; (with_reducible refine (word_operators.calls _).mono ?_); rintro e w1 ⟨g, rfl, hg, hb0, hbl⟩; have hcl : w1.cell? ⟨g, 9, none⟩ = some (Value.func (Fn.func 73) #[] #[]) := (blk_cell hb0 9).trans rfl; have HB : Below w.heap.size w w1 := below_step (by repeat (first | exact Below.refl _ _ | apply pw_below_drewN | apply below_drew)) hbl; clear hb0 hbl) | (go_at_call 50; (with_reducible refine (word_norm.calls _ bits r _ ?hc).mono ?_); (case hc => first | (with_reducible exact hr.out) | exact hr.out); rintro e w' ⟨rfl, ⟨nd, rfl⟩⟩) | go_in)
  go_ret2
  exact ⟨rfl, by repeat (first | exact HB | exact Below.refl _ _ | apply pw_below_drewN | apply below_drew)⟩

set_option maxHeartbeats 400000 in
theorem word_Do.c_eqv (a b bits x y r : Int) (w : World) (hx0 : word_norm.f a bits = some x) (hy0 : word_norm.f b bits = some y) (hr0 : word_norm.f (Go.bits .xor .i64 (-1) (Go.bits .xor .i64 x y)) bits = some r) :
    Calls Try.prog 45 #[.int .i64 11, .int .i64 a, .int .i64 b, .int .i64 bits] w fun e w' => e = .returned (.tuple #[.int .i64 r, .int .i64 0]) ∧ Below w.heap.size w w' := by
  have hx := Aside0.mk hx0
  have hy := Aside0.mk hy0
  clear hx0 hy0
  have hr := Aside0.mk hr0
  clear hr0
  go_enter Try.func45, Try.ntmps45
  go_wp2_with (first | (go_at_call 50; (with_reducible refine (word_norm.calls a bits x _ hx.out).mono ?_); rintro e w' ⟨rfl, ⟨nd, rfl⟩⟩) | (go_at_call 50; (with_reducible refine (word_norm.calls b bits y _ hy.out).mono ?_); rintro e w' ⟨rfl, ⟨nd, rfl⟩⟩) | (go_at_call 54; (with_reducible refine (word_operators.calls _).mono ?_); rintro e w1 ⟨g, rfl, hg, hb0, hbl⟩; have hcl : w1.cell? ⟨g, 10, none⟩ = some (Value.func (Fn.func 74) #[] #[]) := (blk_cell hb0 10).trans rfl; have HB : Below w.heap.size w w1 := below_step (by repeat (first | exact Below.refl _ _ | apply pw_below_drewN | apply below_drew)) hbl; clear hb0 hbl) | (go_at_call 50; (with_reducible refine (word_norm.calls _ bits r _ ?hc).mono ?_); (case hc => first | (with_reducible exact hr.out) | exact hr.out); rintro e w' ⟨rfl, ⟨nd, rfl⟩⟩) | go_in)
  go_ret2
  exact ⟨rfl, by repeat (first | exact HB | exact Below.refl _ _ | apply pw_below_drewN | apply below_drew)⟩

set_option maxHeartbeats 400000 in
theorem word_Do.c_neg (a b bits x y r : Int) (w : World) (hx0 : word_norm.f a bits = some x) (hy0 : word_norm.f b bits = some y) (hr0 : word_norm.f (wrap64 (-x)) bits = some r) :
    Calls Try.prog 45 #[.int .i64 18, .int .i64 a, .int .i64 b, .int .i64 bits] w fun e w' => e = .returned (.tuple #[.int .i64 r, .int .i64 0]) ∧ Below w.heap.size w w' := by
  have hx := Aside0.mk hx0
  have hy := Aside0.mk hy0
  clear hx0 hy0
  have hr := Aside0.mk hr0
  clear hr0
  go_enter Try.func45, Try.ntmps45
  go_wp2_with (first | (go_at_call 50; (with_reducible refine (word_norm.calls a bits x _ hx.out).mono ?_); rintro e w' ⟨rfl, ⟨nd, rfl⟩⟩) | (go_at_call 50; (with_reducible refine (word_norm.calls b bits y _ hy.out).mono ?_); rintro e w' ⟨rfl, ⟨nd, rfl⟩⟩) | (go_at_call 54; (with_reducible refine (word_operators.calls _).mono ?_); rintro e w1 ⟨g, rfl, hg, hb0, hbl⟩; have hcl : w1.cell? ⟨g, 17, none⟩ = some (Value.func (Fn.func 81) #[] #[]) := (blk_cell hb0 17).trans rfl; have HB : Below w.heap.size w w1 := below_step (by repeat (first | exact Below.refl _ _ | apply pw_below_drewN | apply below_drew)) hbl; clear hb0 hbl) | (go_at_call 50; (with_reducible refine (word_norm.calls _ bits r _ ?hc).mono ?_); (case hc => first | (with_reducible exact hr.out) | exact hr.out); rintro e w' ⟨rfl, ⟨nd, rfl⟩⟩) | go_in)
  go_ret2
  exact ⟨rfl, by repeat (first | exact HB | exact Below.refl _ _ | apply pw_below_drewN | apply below_drew)⟩

set_option maxHeartbeats 400000 in
theorem word_Do.c_not (a b bits x y r : Int) (w : World) (hx0 : word_norm.f a bits = some x) (hy0 : word_norm.f b bits = some y) (hr0 : word_norm.f (Go.bits .xor .i64 (-1) x) bits = some r) :
    Calls Try.prog 45 #[.int .i64 19, .int .i64 a, .int .i64 b, .int .i64 bits] w fun e w' => e = .returned (.tuple #[.int .i64 r, .int .i64 0]) ∧ Below w.heap.size w w' := by
  have hx := Aside0.mk hx0
  have hy := Aside0.mk hy0
  clear hx0 hy0
  have hr := Aside0.mk hr0
  clear hr0
  go_enter Try.func45, Try.ntmps45
  go_wp2_with (first | (go_at_call 50; (with_reducible refine (word_norm.calls a bits x _ hx.out).mono ?_); rintro e w' ⟨rfl, ⟨nd, rfl⟩⟩) | (go_at_call 50; (with_reducible refine (word_norm.calls b bits y _ hy.out).mono ?_); rintro e w' ⟨rfl, ⟨nd, rfl⟩⟩) | (go_at_call 54; (with_reducible refine (word_operators.calls _).mono ?_); rintro e w1 ⟨g, rfl, hg, hb0, hbl⟩; have hcl : w1.cell? ⟨g, 18, none⟩ = some (Value.func (Fn.func 82) #[] #[]) := (blk_cell hb0 18).trans rfl; have HB : Below w.heap.size w w1 := below_step (by repeat (first | exact Below.refl _ _ | apply pw_below_drewN | apply below_drew)) hbl; clear hb0 hbl) | (go_at_call 50; (with_reducible refine (word_norm.calls _ bits r _ ?hc).mono ?_); (case hc => first | (with_reducible exact hr.out) | exact hr.out); rintro e w' ⟨rfl, ⟨nd, rfl⟩⟩) | go_in)
  go_ret2
  exact ⟨rfl, by repeat (first | exact HB | exact Below.refl _ _ | apply pw_below_drewN | apply below_drew)⟩

set_option maxHeartbeats 400000 in
theorem word_Do.c_shl_lo (a b bits x y r : Int) (w : World) (hx0 : word_norm.f a bits = some x) (hy0 : word_norm.f b bits = some y) (hs : y < 0) (hr0 : word_norm.f (0) bits = some r) :
    Calls Try.prog 45 #[.int .i64 6, .int .i64 a, .int .i64 b, .int .i64 bits] w fun e w' => e = .returned (.tuple #[.int .i64 r, .int .i64 0]) ∧ Below w.heap.size w w' := by
  have hx := Aside0.mk hx0
  have hy := Aside0.mk hy0
  clear hx0 hy0
  have hs1 : decide (y < 0) = true := decide_eq_true hs
  have hr := Aside0.mk hr0
  clear hr0
  go_enter Try.func45, Try.ntmps45
  go_wp2_with (first | (go_at_call 50; (with_reducible refine (word_norm.calls a bits x _ hx.out).mono ?_); rintro e w' ⟨rfl, ⟨nd, rfl⟩⟩) | (go_at_call 50; (with_reducible refine (word_norm.calls b bits y _ hy.out).mono ?_); rintro e w' ⟨rfl, ⟨nd, rfl⟩⟩) | (go_at_call 54; (with_reducible refine (word_operators.calls _).mono ?_); rintro e w1 ⟨g, rfl, hg, hb0, hbl⟩; have hcl : w1.cell? ⟨g, 5, none⟩ = some (Value.func (Fn.func 69) #[] #[]) := (blk_cell hb0 5).trans rfl; have HB : Below w.heap.size w w1 := below_step (by repeat (first | exact Below.refl _ _ | apply pw_below_drewN | apply below_drew)) hbl; clear hb0 hbl) | (go_at_call 50; (with_reducible refine (word_norm.calls _ bits r _ ?hc).mono ?_); (case hc => first | (with_reducible exact hr.out) | exact hr.out); rintro e w' ⟨rfl, ⟨nd, rfl⟩⟩) | go_in)
  go_ret2
  exact ⟨rfl, by repeat (first | exact HB | exact Below.refl _ _ | apply pw_below_drewN | apply below_drew)⟩

set_option maxHeartbeats 400000 in
theorem word_Do.c_shl_hi (a b bits x y r : Int) (w : World) (hx0 : word_norm.f a bits = some x) (hy0 : word_norm.f b bits = some y) (hs : 0 ≤ y) (ht : bits ≤ y) (hr0 : word_norm.f (0) bits = some r) :
    Calls Try.prog 45 #[.int .i64 6, .int .i64 a, .int .i64 b, .int .i64 bits] w fun e w' => e = .returned (.tuple #[.int .i64 r, .int .i64 0]) ∧ Below w.heap.size w w' := by
  have hx := Aside0.mk hx0
  have hy := Aside0.mk hy0
  clear hx0 hy0
  have hs1 : decide (y < 0) = false := decide_eq_false (by omega)
  have ht1 : decide (bits ≤ y) = true := decide_eq_true ht
  have hr := Aside0.mk hr0
  clear hr0
  go_enter Try.func45, Try.ntmps45
  go_wp2_with (first | (go_at_call 50; (with_reducible refine (word_norm.calls a bits x _ hx.out).mono ?_); rintro e w' ⟨rfl, ⟨nd, rfl⟩⟩) | (go_at_call 50; (with_reducible refine (word_norm.calls b bits y _ hy.out).mono ?_); rintro e w' ⟨rfl, ⟨nd, rfl⟩⟩) | (go_at_call 54; (with_reducible refine (word_operators.calls _).mono ?_); rintro e w1 ⟨g, rfl, hg, hb0, hbl⟩; have hcl : w1.cell? ⟨g, 5, none⟩ = some (Value.func (Fn.func 69) #[] #[]) := (blk_cell hb0 5).trans rfl; have HB : Below w.heap.size w w1 := below_step (by repeat (first | exact Below.refl _ _ | apply pw_below_drewN | apply below_drew)) hbl; clear hb0 hbl) | (go_at_call 50; (with_reducible refine (word_norm.calls _ bits r _ ?hc).mono ?_); (case hc => first | (with_reducible exact hr.out) | exact hr.out); rintro e w' ⟨rfl, ⟨nd, rfl⟩⟩) | go_in)
  go_ret2
  exact ⟨rfl, by repeat (first | exact HB | exact Below.refl _ _ | apply pw_below_drewN | apply below_drew)⟩

set_option maxHeartbeats 400000 in
theorem word_Do.c_shr_lo (a b bits x y r : Int) (w : World) (hx0 : word_norm.f a bits = some x) (hy0 : word_norm.f b bits = some y) (hs : y < 0) (hr0 : word_norm.f (0) bits = some r) :
    Calls Try.prog 45 #[.int .i64 7, .int .i64 a, .int .i64 b, .int .i64 bits] w fun e w' => e = .returned (.tuple #[.int .i64 r, .int .i64 0]) ∧ Below w.heap.size w w' := by
  have hx := Aside0.mk hx0
  have hy := Aside0.mk hy0
  clear hx0 hy0
  have hs1 : decide (y < 0) = true := decide_eq_true hs
  have hr := Aside0.mk hr0
  clear hr0
  go_enter Try.func45, Try.ntmps45
  go_wp2_with (first | (go_at_call 50; (with_reducible refine (word_norm.calls a bits x _ hx.out).mono ?_); rintro e w' ⟨rfl, ⟨nd, rfl⟩⟩) | (go_at_call 50; (with_reducible refine (word_norm.calls b bits y _ hy.out).mono ?_); rintro e w' ⟨rfl, ⟨nd, rfl⟩⟩) | (go_at_call 54; (with_reducible refine (word_operators.calls _).mono ?_); rintro e w1 ⟨g, rfl, hg, hb0, hbl⟩; have hcl : w1.cell? ⟨g, 6, none⟩ = some (Value.func (Fn.func 70) #[] #[]) := (blk_cell hb0 6).trans rfl; have HB : Below w.heap.size w w1 := below_step (by repeat (first | exact Below.refl _ _ | apply pw_below_drewN | apply below_drew)) hbl; clear hb0 hbl) | (go_at_call 50; (with_reducible refine (word_norm.calls _ bits r _ ?hc).mono ?_); (case hc => first | (with_reducible exact hr.out) | exact hr.out); rintro e w' ⟨rfl, ⟨nd, rfl⟩⟩) | go_in)
  go_ret2
  exact ⟨rfl, by repeat (first | exact HB | exact Below.refl _ _ | apply pw_below_drewN | apply below_drew)⟩

set_option maxHeartbeats 400000 in
theorem word_Do.c_shr_hi (a b bits x y r : Int) (w : World) (hx0 : word_norm.f a bits = some x) (hy0 : word_norm.f b bits = some y) (hs : 0 ≤ y) (ht : bits ≤ y) (hr0 : word_norm.f (0) bits = some r) :
    Calls Try.prog 45 #[.int .i64 7, .int .i64 a, .int .i64 b, .int .i64 bits] w fun e w' => e = .returned (.tuple #[.int .i64 r, .int .i64 0]) ∧ Below w.heap.size w w' := by
  have hx := Aside0.mk hx0
  have hy := Aside0.mk hy0
  clear hx0 hy0
  have hs1 : decide (y < 0) = false := decide_eq_false (by omega)
  have ht1 : decide (bits ≤ y) = true := decide_eq_true ht
  have hr := Aside0.mk hr0
  clear hr0
  go_enter Try.func45, Try.ntmps45
  go_wp2_with (first | (go_at_call 50; (with_reducible refine (word_norm.calls a bits x _ hx.out).mono ?_); rintro e w' ⟨rfl, ⟨nd, rfl⟩⟩) | (go_at_call 50; (with_reducible refine (word_norm.calls b bits y _ hy.out).mono ?_); rintro e w' ⟨rfl, ⟨nd, rfl⟩⟩) | (go_at_call 54; (with_reducible refine (word_operators.calls _).mono ?_); rintro e w1 ⟨g, rfl, hg, hb0, hbl⟩; have hcl : w1.cell? ⟨g, 6, none⟩ = some (Value.func (Fn.func 70) #[] #[]) := (blk_cell hb0 6).trans rfl; have HB : Below w.heap.size w w1 := below_step (by repeat (first | exact Below.refl _ _ | apply pw_below_drewN | apply below_drew)) hbl; clear hb0 hbl) | (go_at_call 50; (with_reducible refine (word_norm.calls _ bits r _ ?hc).mono ?_); (case hc => first | (with_reducible exact hr.out) | exact hr.out); rintro e w' ⟨rfl, ⟨nd, rfl⟩⟩) | go_in)
  go_ret2
  exact ⟨rfl, by repeat (first | exact HB | exact Below.refl _ _ | apply pw_below_drewN | apply below_drew)⟩

set_option maxHeartbeats 400000 in
theorem word_Do.c_shl (a b bits x y r : Int) (w : World) (hx0 : word_norm.f a bits = some x) (hy0 : word_norm.f b bits = some y) (hs : 0 ≤ y) (ht : y < bits) (hr0 : word_norm.f (shl .i64 x y) bits = some r) :
    Calls Try.prog 45 #[.int .i64 6, .int .i64 a, .int .i64 b, .int .i64 bits] w fun e w' => e = .returned (.tuple #[.int .i64 r, .int .i64 0]) ∧ Below w.heap.size w w' := by
  have hx := Aside0.mk hx0
  have hy := Aside0.mk hy0
  clear hx0 hy0
  have hs1 : decide (y < 0) = false := decide_eq_false (by omega)
  have ht1 : decide (bits ≤ y) = false := decide_eq_false (by omega)
  have hs2 : (0 ≤ y) = True := _root_.eq_true hs
  obtain ⟨j, hj⟩ : ∃ j_ : Int, (shl .i64 x y) = j_ := ⟨_, rfl⟩
  rw [hj] at hr0
  have hj_ : (IntKind.i64.wrap (x * 2 ^ min y.toNat 64)) = j := hj
  have hjz : y ≤ 64 → (IntKind.i64.wrap (x * 2 ^ y.toNat)) = j := shl_small hj
  have hjy : (wrap64 (x * 2 ^ min y.toNat 64)) = j := (i64_w _).symm.trans hj_
  have hjx : y ≤ 64 → (wrap64 (x * 2 ^ y.toNat)) = j := fun h_ => (i64_w _).symm.trans (hjz h_)
  have hr := Aside0.mk hr0
  clear hr0
  go_enter Try.func45, Try.ntmps45
  go_wp2_with (first | (go_at_call 50; (with_reducible refine (word_norm.calls a bits x _ hx.out).mono ?_); rintro e w' ⟨rfl, ⟨nd, rfl⟩⟩) | (go_at_call 50; (with_reducible refine (word_norm.calls b bits y _ hy.out).mono ?_); rintro e w' ⟨rfl, ⟨nd, rfl⟩⟩) | (go_at_call 54; (with_reducible refine (word_operators.calls _).mono ?_); rintro e w1 ⟨g, rfl, hg, hb0, hbl⟩; have hcl : w1.cell? ⟨g, 5, none⟩ = some (Value.func (Fn.func 69) #[] #[]) := (blk_cell hb0 5).trans rfl; have HB : Below w.heap.size w w1 := below_step (by repeat (first | exact Below.refl _ _ | apply pw_below_drewN | apply below_drew)) hbl; clear hb0 hbl) | (go_at_call 50; (with_reducible refine (word_norm.calls _ bits r _ ?hc).mono ?_); (case hc => first | (with_reducible exact hr.out) | exact hr.out); rintro e w' ⟨rfl, ⟨nd, rfl⟩⟩) | go_in)
  go_ret2
  exact ⟨rfl, by repeat (first | exact HB | exact Below.refl _ _ | apply pw_below_drewN | apply below_drew)⟩

set_option maxHeartbeats 400000 in
theorem word_Do.c_shr (a b bits x y r : Int) (w : World) (hx0 : word_norm.f a bits = some x) (hy0 : word_norm.f b bits = some y) (u : Int) (hu0 : word_unsigned.f x bits = some u) (hs : 0 ≤ y) (ht : y < bits) (hr0 : word_norm.f (shr .i64 u y) bits = some r) :
    Calls Try.prog 45 #[.int .i64 7, .int .i64 a, .int .i64 b, .int .i64 bits] w fun e w' => e = .returned (.tuple #[.int .i64 r, .int .i64 0]) ∧ Below w.heap.size w w' := by
  have hx := Aside0.mk hx0
  have hy := Aside0.mk hy0
  clear hx0 hy0
  have hu := Aside0.mk hu0
  clear hu0
  have hs1 : decide (y < 0) = false := decide_eq_false (by omega)
  have ht1 : decide (bits ≤ y) = false := decide_eq_false (by omega)
  have hs2 : (0 ≤ y) = True := _root_.eq_true hs
  obtain ⟨j, hj⟩ : ∃ j_ : Int, (shr .i64 u y) = j_ := ⟨_, rfl⟩
  rw [hj] at hr0
  have hj_ : (u / 2 ^ min y.toNat 64) = j := hj
  have hjz : y ≤ 64 → (u / 2 ^ y.toNat) = j := shr_small hj
  have hr := Aside0.mk hr0
  clear hr0
  go_enter Try.func45, Try.ntmps45
  go_wp2_with (first | (go_at_call 50; (with_reducible refine (word_norm.calls a bits x _ hx.out).mono ?_); rintro e w' ⟨rfl, ⟨nd, rfl⟩⟩) | (go_at_call 50; (with_reducible refine (word_norm.calls b bits y _ hy.out).mono ?_); rintro e w' ⟨rfl, ⟨nd, rfl⟩⟩) | (go_at_call 54; (with_reducible refine (word_operators.calls _).mono ?_); rintro e w1 ⟨g, rfl, hg, hb0, hbl⟩; have hcl : w1.cell? ⟨g, 6, none⟩ = some (Value.func (Fn.func 70) #[] #[]) := (blk_cell hb0 6).trans rfl; have HB : Below w.heap.size w w1 := below_step (by repeat (first | exact Below.refl _ _ | apply pw_below_drewN | apply below_drew)) hbl; clear hb0 hbl) | (go_at_call 51; (with_reducible refine (word_unsigned.calls x bits u _ hu.out).mono ?_); rintro e w' ⟨rfl, ⟨nd, rfl⟩⟩) | (go_at_call 50; (with_reducible refine (word_norm.calls _ bits r _ ?hc).mono ?_); (case hc => first | (with_reducible exact hr.out) | exact hr.out); rintro e w' ⟨rfl, ⟨nd, rfl⟩⟩) | go_in)
  go_ret2
  exact ⟨rfl, by repeat (first | exact HB | exact Below.refl _ _ | apply pw_below_drewN | apply below_drew)⟩

theorem word_Do.calls (a0 a1 a2 a3 : Int) (r1 r2 : Int) (w : World) (h : word_Do.f a0 a1 a2 a3 = some (r1, r2)) :
    Calls Try.prog 45 #[.int .i64 a0, .int .i64 a1, .int .i64 a2, .int .i64 a3] w fun e w' => e = .returned (.tuple #[.int .i64 r1, .int .i64 r2]) ∧ Below w.heap.size w w' := by
  unfold word_Do.f at h
  obtain ⟨x, hx, h⟩ := Option.bind_eq_some_iff.mp h
  obtain ⟨y, hy, h⟩ := Option.bind_eq_some_iff.mp h
  by_cases h4 : a0 = 4
  · subst h4
    rw [if_pos rfl] at h
    obtain ⟨r, hr, h⟩ := Option.bind_eq_some_iff.mp h; obtain ⟨rfl, rfl⟩ := Prod.mk.inj (Option.some.inj h); exact word_Do.c_add a1 a2 a3 x y _ w hx hy hr
  rw [if_neg h4] at h
  by_cases h5 : a0 = 5
  · subst h5
    rw [if_pos rfl] at h
    obtain ⟨r, hr, h⟩ := Option.bind_eq_some_iff.mp h; obtain ⟨rfl, rfl⟩ := Prod.mk.inj (Option.some.inj h); exact word_Do.c_sub a1 a2 a3 x y _ w hx hy hr
  rw [if_neg h5] at h
  by_cases h12 : a0 = 12
  · subst h12
    rw [if_pos rfl] at h
    obtain ⟨rfl, rfl⟩ := Prod.mk.inj (Option.some.inj h)
    by_cases c : x = y
    · rw [if_pos c]; exact word_Do.c_eq_true a1 a2 a3 x y 0 w hx hy (beq_iff_eq.mpr c)
    · rw [if_neg c]; exact word_Do.c_eq_false a1 a2 a3 x y 0 w hx hy (beq_eq_false_iff_ne.mpr c)
  rw [if_neg h12] at h
  by_cases h13 : a0 = 13
  · subst h13
    rw [if_pos rfl] at h
    obtain ⟨rfl, rfl⟩ := Prod.mk.inj (Option.some.inj h)
    by_cases c : x = y
    · rw [if_pos c]; exact word_Do.c_ne_false a1 a2 a3 x y 0 w hx hy (bne_eq_false_iff_eq.mpr c)
    · rw [if_neg c]; exact word_Do.c_ne_true a1 a2 a3 x y 0 w hx hy (bne_iff_ne.mpr c)
  rw [if_neg h13] at h
  by_cases h14 : a0 = 14
  · subst h14
    rw [if_pos rfl] at h
    obtain ⟨rfl, rfl⟩ := Prod.mk.inj (Option.some.inj h)
    by_cases c : x < y
    · rw [if_pos c]; exact word_Do.c_lt_true a1 a2 a3 x y 0 w hx hy (decide_eq_true c)
    · rw [if_neg c]; exact word_Do.c_lt_false a1 a2 a3 x y 0 w hx hy (decide_eq_false c)
  rw [if_neg h14] at h
  by_cases h15 : a0 = 15
  · subst h15
    rw [if_pos rfl] at h
    obtain ⟨rfl, rfl⟩ := Prod.mk.inj (Option.some.inj h)
    by_cases c : x ≤ y
    · rw [if_pos c]; exact word_Do.c_le_true a1 a2 a3 x y 0 w hx hy (decide_eq_true c)
    · rw [if_neg c]; exact word_Do.c_le_false a1 a2 a3 x y 0 w hx hy (decide_eq_false c)
  rw [if_neg h15] at h
  by_cases h16 : a0 = 16
  · subst h16
    rw [if_pos rfl] at h
    obtain ⟨rfl, rfl⟩ := Prod.mk.inj (Option.some.inj h)
    by_cases c : y < x
    · rw [if_pos c]; exact word_Do.c_gt_true a1 a2 a3 x y 0 w hx hy (decide_eq_true c)
    · rw [if_neg c]; exact word_Do.c_gt_false a1 a2 a3 x y 0 w hx hy (decide_eq_false c)
  rw [if_neg h16] at h
  by_cases h17 : a0 = 17
  · subst h17
    rw [if_pos rfl] at h
    obtain ⟨rfl, rfl⟩ := Prod.mk.inj (Option.some.inj h)
    by_cases c : y ≤ x
    · rw [if_pos c]; exact word_Do.c_ge_true a1 a2 a3 x y 0 w hx hy (decide_eq_true c)
    · rw [if_neg c]; exact word_Do.c_ge_false a1 a2 a3 x y 0 w hx hy (decide_eq_false c)
  rw [if_neg h17] at h
  by_cases h8 : a0 = 8
  · subst h8
    rw [if_pos rfl] at h
    obtain ⟨rfl, rfl⟩ := Prod.mk.inj (Option.some.inj h)
    exact word_Do.c_and a1 a2 a3 x y 0 w hx hy
  rw [if_neg h8] at h
  by_cases h2 : a0 = 2
  · subst h2
    rw [if_pos rfl] at h
    by_cases c : y = 0
    · rw [if_pos c] at h; obtain ⟨rfl, rfl⟩ := Prod.mk.inj (Option.some.inj h); exact word_Do.c_div0 a1 a2 a3 x y 0 w hx hy (beq_iff_eq.mpr c)
    · rw [if_neg c] at h; obtain ⟨r, hr, h⟩ := Option.bind_eq_some_iff.mp h; obtain ⟨rfl, rfl⟩ := Prod.mk.inj (Option.some.inj h); exact word_Do.c_div a1 a2 a3 x y _ w hx hy c hr
  rw [if_neg h2] at h
  by_cases h3 : a0 = 3
  · subst h3
    rw [if_pos rfl] at h
    by_cases c : y = 0
    · rw [if_pos c] at h; obtain ⟨rfl, rfl⟩ := Prod.mk.inj (Option.some.inj h); exact word_Do.c_rem0 a1 a2 a3 x y 0 w hx hy (beq_iff_eq.mpr c)
    · rw [if_neg c] at h; obtain ⟨r, hr, h⟩ := Option.bind_eq_some_iff.mp h; obtain ⟨rfl, rfl⟩ := Prod.mk.inj (Option.some.inj h); exact word_Do.c_rem a1 a2 a3 x y _ w hx hy c hr
  rw [if_neg h3] at h
  by_cases h1 : a0 = 1
  · subst h1
    rw [if_pos rfl] at h
    obtain ⟨r, hr, h⟩ := Option.bind_eq_some_iff.mp h; obtain ⟨rfl, rfl⟩ := Prod.mk.inj (Option.some.inj h); exact word_Do.c_mul a1 a2 a3 x y _ w hx hy hr
  rw [if_neg h1] at h
  by_cases h6 : a0 = 6
  · subst h6
    rw [if_pos rfl] at h
    by_cases c : y < 0
    · rw [if_pos c] at h; obtain ⟨r, hr, h⟩ := Option.bind_eq_some_iff.mp h; obtain ⟨rfl, rfl⟩ := Prod.mk.inj (Option.some.inj h); exact word_Do.c_shl_lo a1 a2 a3 x y _ w hx hy c hr
    rw [if_neg c] at h
    by_cases d : a3 ≤ y
    · rw [if_pos d] at h; obtain ⟨r, hr, h⟩ := Option.bind_eq_some_iff.mp h; obtain ⟨rfl, rfl⟩ := Prod.mk.inj (Option.some.inj h); exact word_Do.c_shl_hi a1 a2 a3 x y _ w hx hy (by omega) d hr
    rw [if_neg d] at h
    obtain ⟨r, hr, h⟩ := Option.bind_eq_some_iff.mp h; obtain ⟨rfl, rfl⟩ := Prod.mk.inj (Option.some.inj h); exact word_Do.c_shl a1 a2 a3 x y _ w hx hy (by omega) (by omega) hr
  rw [if_neg h6] at h
  by_cases h7 : a0 = 7
  · subst h7
    rw [if_pos rfl] at h
    by_cases c : y < 0
    · rw [if_pos c] at h; obtain ⟨r, hr, h⟩ := Option.bind_eq_some_iff.mp h; obtain ⟨rfl, rfl⟩ := Prod.mk.inj (Option.some.inj h); exact word_Do.c_shr_lo a1 a2 a3 x y _ w hx hy c hr
    rw [if_neg c] at h
    by_cases d : a3 ≤ y
    · rw [if_pos d] at h; obtain ⟨r, hr, h⟩ := Option.bind_eq_some_iff.mp h; obtain ⟨rfl, rfl⟩ := Prod.mk.inj (Option.some.inj h); exact word_Do.c_shr_hi a1 a2 a3 x y _ w hx hy (by omega) d hr
    rw [if_neg d] at h
    obtain ⟨u, hu, h⟩ := Option.bind_eq_some_iff.mp h
    obtain ⟨r, hr, h⟩ := Option.bind_eq_some_iff.mp h; obtain ⟨rfl, rfl⟩ := Prod.mk.inj (Option.some.inj h); exact word_Do.c_shr a1 a2 a3 x y _ w hx hy u hu (by omega) (by omega) hr
  rw [if_neg h7] at h
  by_cases h9 : a0 = 9
  · subst h9
    rw [if_pos rfl] at h
    obtain ⟨r, hr, h⟩ := Option.bind_eq_some_iff.mp h; obtain ⟨rfl, rfl⟩ := Prod.mk.inj (Option.some.inj h); exact word_Do.c_or a1 a2 a3 x y _ w hx hy hr
  rw [if_neg h9] at h
  by_cases h10 : a0 = 10
  · subst h10
    rw [if_pos rfl] at h
    obtain ⟨r, hr, h⟩ := Option.bind_eq_some_iff.mp h; obtain ⟨rfl, rfl⟩ := Prod.mk.inj (Option.some.inj h); exact word_Do.c_xor a1 a2 a3 x y _ w hx hy hr
  rw [if_neg h10] at h
  by_cases h11 : a0 = 11
  · subst h11
    rw [if_pos rfl] at h
    obtain ⟨r, hr, h⟩ := Option.bind_eq_some_iff.mp h; obtain ⟨rfl, rfl⟩ := Prod.mk.inj (Option.some.inj h); exact word_Do.c_eqv a1 a2 a3 x y _ w hx hy hr
  rw [if_neg h11] at h
  by_cases h18 : a0 = 18
  · subst h18
    rw [if_pos rfl] at h
    obtain ⟨r, hr, h⟩ := Option.bind_eq_some_iff.mp h; obtain ⟨rfl, rfl⟩ := Prod.mk.inj (Option.some.inj h); exact word_Do.c_neg a1 a2 a3 x y _ w hx hy hr
  rw [if_neg h18] at h
  by_cases h19 : a0 = 19
  · subst h19
    rw [if_pos rfl] at h
    obtain ⟨r, hr, h⟩ := Option.bind_eq_some_iff.mp h; obtain ⟨rfl, rfl⟩ := Prod.mk.inj (Option.some.inj h); exact word_Do.c_not a1 a2 a3 x y _ w hx hy hr
  rw [if_neg h19] at h
  exact absurd h (by simp)


end Go.Proofs.Ythllfmbdapdogaa.PWord
