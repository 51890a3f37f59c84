-- Written by a program of this session (wip/p2/p2.py) on the kit's print: the machine's side of the law; nothing in it is trusted, Lean checks it.
import Derived.Test.YthllfmbdapdogaaPWordx0
import Derived.Test.YthllfmbdapdogaaPWordx1
import Derived.Test.YthllfmbdapdogaaPWordx2
import Derived.Test.YthllfmbdapdogaaPWordx3
import Derived.Test.YthllfmbdapdogaaPWordx11
namespace Go.Proofs.Ythllfmbdapdogaa.PWord
open Go.RowKit Go.Proofs.YthllfmbdapdogaaW.PrintWords Go.Proofs.YthllfmbdapdogaaW.PrintLast Go.Proofs.YthllfmbdapdogaaW.PrintMore
attribute [local go_sem] max2_int min2_int max_two min_two max_three min_three max_four min_four   -- for this text's walks alone
set_option linter.unusedVariables false
set_option linter.unusedSimpArgs false

/-! ### word_Exact: function 26 -/
-- GIVEN bluebell/word.Exact
-- rounds no
-- making yes
-- deps bluebell/word.Apply bluebell/word.norm bluebell/word.truth bluebell/word.small bluebell/word.Do
def word_Exact.tv (b : Bool) : Int := if b = true then -1 else 0
theorem word_Exact.truth_val (b : Bool) : word_truth.f b = some (word_Exact.tv b) := by unfold word_truth.f word_Exact.tv; cases b <;> rfl
/-- What an operator's function gives, where Exact asks for it. -/
def word_Exact.opv (op x y : Int) : Option Int :=
  if op = 1 then some (wrap64 (x * y)) else if op = 2 then (if y = 0 then none else some (wrap64 (x.tdiv y))) else if op = 3 then (if y = 0 then none else some (x.tmod y))
  else if op = 4 then some (wrap64 (x + y)) else if op = 5 then some (wrap64 (x - y)) else if op = 8 then some (Go.bits .and .i64 x y) else if op = 9 then some (Go.bits .or .i64 x y)
  else if op = 10 then some (Go.bits .xor .i64 x y) else if op = 11 then some (Go.bits .xor .i64 (-1) (Go.bits .xor .i64 x y))
  else if op = 12 then some (word_Exact.tv (x == y)) else if op = 13 then some (word_Exact.tv (x != y)) else if op = 14 then some (word_Exact.tv (decide (x < y))) else if op = 15 then some (word_Exact.tv (decide (x ≤ y)))
  else if op = 16 then some (word_Exact.tv (decide (y < x))) else if op = 17 then some (word_Exact.tv (decide (y ≤ x))) else none
def word_Exact.sm (v : Int) : Bool := decide (-32768 ≤ v) && decide (v ≤ 32767)
theorem word_Exact.small_val (v : Int) : word_small.f v = some (word_Exact.sm v) := by
  unfold word_small.f word_Exact.sm
  by_cases h : -32768 ≤ v <;> by_cases h2 : v ≤ 32767 <;> simp [h, h2]
def word_Exact.f (a0 a1 a2 a3 : Int) : Option (Bool × Int) := (word_Apply.f a0 a1 a2 a3).bind fun p =>
  if p.2 = 0 then (word_norm.f a1 a3).bind fun x => (word_norm.f a2 a3).bind fun y =>
    if word_Exact.sm x = true then (if word_Exact.sm p.1 = true then
      (if a0 = 18 then some (wrap64 (-x) == p.1, 0)
       else if a0 = 19 then some (Go.bits .xor .i64 (-1) x == p.1, 0)
       else if a0 = 6 then (if 0 ≤ x ∧ 0 ≤ y ∧ y ≤ 15 then some (shl .i64 x y == p.1, 0) else some (false, 0))
       else if a0 = 7 then (if 0 ≤ x ∧ 0 ≤ y ∧ y ≤ 15 then some (true, 0) else some (false, 0))
       else if word_Exact.sm y = true then (word_Exact.opv a0 x y).bind fun v => some (v == p.1, 0)
       else some (false, 0)) else some (false, 0)) else some (false, 0)
  else some (false, p.2)

set_option maxHeartbeats 1000000 in
theorem word_Exact.c_err (op a b bits v e : Int) (w : World) (hA0 : word_Apply.f op a b bits = some (v, e)) (he : ¬ e = 0) :
    Calls Try.prog 26 #[.int .i64 op, .int .i64 a, .int .i64 b, .int .i64 bits] w fun e_ w' => e_ = .returned (.tuple #[.bool false, .int .i64 e]) ∧ Below w.heap.size w w' := by
  have hA := Aside0.mk hA0
  clear hA0
  have he1 : (e == 0) = false := beq_eq_false_iff_ne.mpr he
  have he2 : (e != 0) = true := bne_iff_ne.mpr he
  go_enter Try.func26, Try.ntmps26
  go_wp2_with (first | (go_at_call 13; (with_reducible refine (word_Apply.calls op a b bits v e _ hA.out).mono ?_); rintro e_ w1 ⟨rfl, HB⟩))
  go_ret2
  exact ⟨by first | rfl | (simp; done) | (simp [*]; done) | (rw [hjx (by omega)]; rfl), by repeat (first | exact HB | exact HB2 | exact Below.refl _ _ | apply pw_below_drewN | apply below_drew)⟩

set_option maxHeartbeats 1000000 in
theorem word_Exact.c_x (op a b bits v e : Int) (w : World) (hA0 : word_Apply.f op a b bits = some (v, 0)) (x y : Int) (hx0 : word_norm.f a bits = some x) (hy0 : word_norm.f b bits = some y) (h10 : word_Exact.sm x = false) :
    Calls Try.prog 26 #[.int .i64 op, .int .i64 a, .int .i64 b, .int .i64 bits] w fun e_ w' => e_ = .returned (.tuple #[.bool false, .int .i64 0]) ∧ Below w.heap.size w w' := by
  have hA := Aside0.mk hA0
  clear hA0
  have hx := Aside0.mk hx0
  have hy := Aside0.mk hy0
  clear hx0 hy0
  have h1 := Aside0.mk h10
  clear h10
  go_enter Try.func26, Try.ntmps26
  go_wp2_with (first | (go_at_call 13; (with_reducible refine (word_Apply.calls op a b bits v _ _ hA.out).mono ?_); rintro e_ w1 ⟨rfl, HB⟩) | (go_at_call 50; (with_reducible refine (word_norm.calls a bits x _ hx.out).mono ?_); rintro e_ w' ⟨rfl, ⟨nd, rfl⟩⟩) | (go_at_call 50; (with_reducible refine (word_norm.calls b bits y _ hy.out).mono ?_); rintro e_ w' ⟨rfl, ⟨nd, rfl⟩⟩) | (go_at_call 53; (with_reducible refine (word_small.calls x false _ ((word_Exact.small_val x).trans (by rw [h1.out]))).mono ?_); rintro e_ w' ⟨rfl, ⟨nd, rfl⟩⟩))
  go_ret2
  exact ⟨by first | rfl | (simp; done) | (simp [*]; done) | (rw [hjx (by omega)]; rfl), by repeat (first | exact HB | exact HB2 | exact Below.refl _ _ | apply pw_below_drewN | apply below_drew)⟩

set_option maxHeartbeats 1000000 in
theorem word_Exact.c_w (op a b bits v e : Int) (w : World) (hA0 : word_Apply.f op a b bits = some (v, 0)) (x y : Int) (hx0 : word_norm.f a bits = some x) (hy0 : word_norm.f b bits = some y) (h10 : word_Exact.sm x = true) (h20 : word_Exact.sm v = false) :
    Calls Try.prog 26 #[.int .i64 op, .int .i64 a, .int .i64 b, .int .i64 bits] w fun e_ w' => e_ = .returned (.tuple #[.bool false, .int .i64 0]) ∧ Below w.heap.size w w' := by
  have hA := Aside0.mk hA0
  clear hA0
  have hx := Aside0.mk hx0
  have hy := Aside0.mk hy0
  clear hx0 hy0
  have h1 := Aside0.mk h10
  have h2 := Aside0.mk h20
  clear h10 h20
  go_enter Try.func26, Try.ntmps26
  go_wp2_with (first | (go_at_call 13; (with_reducible refine (word_Apply.calls op a b bits v _ _ hA.out).mono ?_); rintro e_ w1 ⟨rfl, HB⟩) | (go_at_call 50; (with_reducible refine (word_norm.calls a bits x _ hx.out).mono ?_); rintro e_ w' ⟨rfl, ⟨nd, rfl⟩⟩) | (go_at_call 50; (with_reducible refine (word_norm.calls b bits y _ hy.out).mono ?_); rintro e_ w' ⟨rfl, ⟨nd, rfl⟩⟩) | (go_at_call 53; (with_reducible refine (word_small.calls x true _ ((word_Exact.small_val x).trans (by rw [h1.out]))).mono ?_); rintro e_ w' ⟨rfl, ⟨nd, rfl⟩⟩) | (go_at_call 53; (with_reducible refine (word_small.calls v false _ ((word_Exact.small_val v).trans (by rw [h2.out]))).mono ?_); rintro e_ w' ⟨rfl, ⟨nd, rfl⟩⟩))
  go_ret2
  exact ⟨by first | rfl | (simp; done) | (simp [*]; done) | (rw [hjx (by omega)]; rfl), by repeat (first | exact HB | exact HB2 | exact Below.refl _ _ | apply pw_below_drewN | apply below_drew)⟩

set_option maxHeartbeats 1000000 in
theorem word_Exact.c_neg (a b bits v e : Int) (w : World) (hA0 : word_Apply.f 18 a b bits = some (v, 0)) (x y : Int) (hx0 : word_norm.f a bits = some x) (hy0 : word_norm.f b bits = some y) (h10 : word_Exact.sm x = true) (h20 : word_Exact.sm v = true) :
    Calls Try.prog 26 #[.int .i64 18, .int .i64 a, .int .i64 b, .int .i64 bits] w fun e_ w' => e_ = .returned (.tuple #[.bool (wrap64 (-x) == v), .int .i64 0]) ∧ Below w.heap.size w w' := by
  have hA := Aside0.mk hA0
  clear hA0
  have hx := Aside0.mk hx0
  have hy := Aside0.mk hy0
  clear hx0 hy0
  have h1 := Aside0.mk h10
  have h2 := Aside0.mk h20
  clear h10 h20
  go_enter Try.func26, Try.ntmps26
  go_wp2_with (first | (go_at_call 13; (with_reducible refine (word_Apply.calls 18 a b bits v _ _ hA.out).mono ?_); rintro e_ w1 ⟨rfl, HB⟩) | (go_at_call 50; (with_reducible refine (word_norm.calls a bits x _ hx.out).mono ?_); rintro e_ w' ⟨rfl, ⟨nd, rfl⟩⟩) | (go_at_call 50; (with_reducible refine (word_norm.calls b bits y _ hy.out).mono ?_); rintro e_ w' ⟨rfl, ⟨nd, rfl⟩⟩) | (go_at_call 53; (with_reducible refine (word_small.calls x true _ ((word_Exact.small_val x).trans (by rw [h1.out]))).mono ?_); rintro e_ w' ⟨rfl, ⟨nd, rfl⟩⟩) | (go_at_call 53; (with_reducible refine (word_small.calls v true _ ((word_Exact.small_val v).trans (by rw [h2.out]))).mono ?_); rintro e_ w' ⟨rfl, ⟨nd, rfl⟩⟩) | (go_at_call 54; (with_reducible refine (word_operators.calls _).mono ?_); rintro e_ w2 ⟨g, rfl, hg, hb0, hbl⟩; have hcl : w2.cell? ⟨g, 17, none⟩ = some (Value.func (Fn.func 81) #[] #[]) := (blk_cell hb0 17).trans rfl; have HB2 : Below w.heap.size w w2 := below_step (by repeat (first | exact HB | exact Below.refl _ _ | apply pw_below_drewN | apply below_drew)) hbl; clear hb0 hbl) | (go_at_call 62; (with_reducible refine (word_truth.calls _ _ _ (word_Exact.truth_val _)).mono ?_); rintro e_ w' ⟨rfl, ⟨nd, rfl⟩⟩) | go_in)
  go_ret2
  exact ⟨by first | rfl | (simp; done) | (simp [*]; done) | (rw [hjx (by omega)]; rfl), by repeat (first | exact HB | exact HB2 | exact Below.refl _ _ | apply pw_below_drewN | apply below_drew)⟩

set_option maxHeartbeats 1000000 in
theorem word_Exact.c_not (a b bits v e : Int) (w : World) (hA0 : word_Apply.f 19 a b bits = some (v, 0)) (x y : Int) (hx0 : word_norm.f a bits = some x) (hy0 : word_norm.f b bits = some y) (h10 : word_Exact.sm x = true) (h20 : word_Exact.sm v = true) :
    Calls Try.prog 26 #[.int .i64 19, .int .i64 a, .int .i64 b, .int .i64 bits] w fun e_ w' => e_ = .returned (.tuple #[.bool (Go.bits .xor .i64 (-1) x == v), .int .i64 0]) ∧ Below w.heap.size w w' := by
  have hA := Aside0.mk hA0
  clear hA0
  have hx := Aside0.mk hx0
  have hy := Aside0.mk hy0
  clear hx0 hy0
  have h1 := Aside0.mk h10
  have h2 := Aside0.mk h20
  clear h10 h20
  go_enter Try.func26, Try.ntmps26
  go_wp2_with (first | (go_at_call 13; (with_reducible refine (word_Apply.calls 19 a b bits v _ _ hA.out).mono ?_); rintro e_ w1 ⟨rfl, HB⟩) | (go_at_call 50; (with_reducible refine (word_norm.calls a bits x _ hx.out).mono ?_); rintro e_ w' ⟨rfl, ⟨nd, rfl⟩⟩) | (go_at_call 50; (with_reducible refine (word_norm.calls b bits y _ hy.out).mono ?_); rintro e_ w' ⟨rfl, ⟨nd, rfl⟩⟩) | (go_at_call 53; (with_reducible refine (word_small.calls x true _ ((word_Exact.small_val x).trans (by rw [h1.out]))).mono ?_); rintro e_ w' ⟨rfl, ⟨nd, rfl⟩⟩) | (go_at_call 53; (with_reducible refine (word_small.calls v true _ ((word_Exact.small_val v).trans (by rw [h2.out]))).mono ?_); rintro e_ w' ⟨rfl, ⟨nd, rfl⟩⟩) | (go_at_call 54; (with_reducible refine (word_operators.calls _).mono ?_); rintro e_ w2 ⟨g, rfl, hg, hb0, hbl⟩; have hcl : w2.cell? ⟨g, 18, none⟩ = some (Value.func (Fn.func 82) #[] #[]) := (blk_cell hb0 18).trans rfl; have HB2 : Below w.heap.size w w2 := below_step (by repeat (first | exact HB | exact Below.refl _ _ | apply pw_below_drewN | apply below_drew)) hbl; clear hb0 hbl) | (go_at_call 62; (with_reducible refine (word_truth.calls _ _ _ (word_Exact.truth_val _)).mono ?_); rintro e_ w' ⟨rfl, ⟨nd, rfl⟩⟩) | go_in)
  go_ret2
  exact ⟨by first | rfl | (simp; done) | (simp [*]; done) | (rw [hjx (by omega)]; rfl), by repeat (first | exact HB | exact HB2 | exact Below.refl _ _ | apply pw_below_drewN | apply below_drew)⟩

set_option maxHeartbeats 1000000 in
theorem word_Exact.c_shl_1 (a b bits v e : Int) (w : World) (hA0 : word_Apply.f 6 a b bits = some (v, 0)) (x y : Int) (hx0 : word_norm.f a bits = some x) (hy0 : word_norm.f b bits = some y) (h10 : word_Exact.sm x = true) (h20 : word_Exact.sm v = true) (k1 : x < 0) :
    Calls Try.prog 26 #[.int .i64 6, .int .i64 a, .int .i64 b, .int .i64 bits] w fun e_ w' => e_ = .returned (.tuple #[.bool false, .int .i64 0]) ∧ Below w.heap.size w w' := by
  have hA := Aside0.mk hA0
  clear hA0
  have hx := Aside0.mk hx0
  have hy := Aside0.mk hy0
  clear hx0 hy0
  have h1 := Aside0.mk h10
  have h2 := Aside0.mk h20
  clear h10 h20
  have k1_ : decide (0 ≤ x) = false := decide_eq_false (by omega)
  go_enter Try.func26, Try.ntmps26
  go_wp2_with (first | (go_at_call 13; (with_reducible refine (word_Apply.calls 6 a b bits v _ _ hA.out).mono ?_); rintro e_ w1 ⟨rfl, HB⟩) | (go_at_call 50; (with_reducible refine (word_norm.calls a bits x _ hx.out).mono ?_); rintro e_ w' ⟨rfl, ⟨nd, rfl⟩⟩) | (go_at_call 50; (with_reducible refine (word_norm.calls b bits y _ hy.out).mono ?_); rintro e_ w' ⟨rfl, ⟨nd, rfl⟩⟩) | (go_at_call 53; (with_reducible refine (word_small.calls x true _ ((word_Exact.small_val x).trans (by rw [h1.out]))).mono ?_); rintro e_ w' ⟨rfl, ⟨nd, rfl⟩⟩) | (go_at_call 53; (with_reducible refine (word_small.calls v true _ ((word_Exact.small_val v).trans (by rw [h2.out]))).mono ?_); rintro e_ w' ⟨rfl, ⟨nd, rfl⟩⟩))
  go_ret2
  exact ⟨by first | rfl | (simp; done) | (simp [*]; done) | (rw [hjx (by omega)]; rfl), by repeat (first | exact HB | exact HB2 | exact Below.refl _ _ | apply pw_below_drewN | apply below_drew)⟩

set_option maxHeartbeats 1000000 in
theorem word_Exact.c_shl_2 (a b bits v e : Int) (w : World) (hA0 : word_Apply.f 6 a b bits = some (v, 0)) (x y : Int) (hx0 : word_norm.f a bits = some x) (hy0 : word_norm.f b bits = some y) (h10 : word_Exact.sm x = true) (h20 : word_Exact.sm v = true) (k1 : 0 ≤ x) (k2 : y < 0) :
    Calls Try.prog 26 #[.int .i64 6, .int .i64 a, .int .i64 b, .int .i64 bits] w fun e_ w' => e_ = .returned (.tuple #[.bool false, .int .i64 0]) ∧ Below w.heap.size w w' := by
  have hA := Aside0.mk hA0
  clear hA0
  have hx := Aside0.mk hx0
  have hy := Aside0.mk hy0
  clear hx0 hy0
  have h1 := Aside0.mk h10
  have h2 := Aside0.mk h20
  clear h10 h20
  have k1_ : decide (0 ≤ x) = true := decide_eq_true k1
  have k2_ : decide (0 ≤ y) = false := decide_eq_false (by omega)
  go_enter Try.func26, Try.ntmps26
  go_wp2_with (first | (go_at_call 13; (with_reducible refine (word_Apply.calls 6 a b bits v _ _ hA.out).mono ?_); rintro e_ w1 ⟨rfl, HB⟩) | (go_at_call 50; (with_reducible refine (word_norm.calls a bits x _ hx.out).mono ?_); rintro e_ w' ⟨rfl, ⟨nd, rfl⟩⟩) | (go_at_call 50; (with_reducible refine (word_norm.calls b bits y _ hy.out).mono ?_); rintro e_ w' ⟨rfl, ⟨nd, rfl⟩⟩) | (go_at_call 53; (with_reducible refine (word_small.calls x true _ ((word_Exact.small_val x).trans (by rw [h1.out]))).mono ?_); rintro e_ w' ⟨rfl, ⟨nd, rfl⟩⟩) | (go_at_call 53; (with_reducible refine (word_small.calls v true _ ((word_Exact.small_val v).trans (by rw [h2.out]))).mono ?_); rintro e_ w' ⟨rfl, ⟨nd, rfl⟩⟩))
  go_ret2
  exact ⟨by first | rfl | (simp; done) | (simp [*]; done) | (rw [hjx (by omega)]; rfl), by repeat (first | exact HB | exact HB2 | exact Below.refl _ _ | apply pw_below_drewN | apply below_drew)⟩

set_option maxHeartbeats 1000000 in
theorem word_Exact.c_shl_3 (a b bits v e : Int) (w : World) (hA0 : word_Apply.f 6 a b bits = some (v, 0)) (x y : Int) (hx0 : word_norm.f a bits = some x) (hy0 : word_norm.f b bits = some y) (h10 : word_Exact.sm x = true) (h20 : word_Exact.sm v = true) (k1 : 0 ≤ x) (k2 : 0 ≤ y) (k3 : 15 < y) :
    Calls Try.prog 26 #[.int .i64 6, .int .i64 a, .int .i64 b, .int .i64 bits] w fun e_ w' => e_ = .returned (.tuple #[.bool false, .int .i64 0]) ∧ Below w.heap.size w w' := by
  have hA := Aside0.mk hA0
  clear hA0
  have hx := Aside0.mk hx0
  have hy := Aside0.mk hy0
  clear hx0 hy0
  have h1 := Aside0.mk h10
  have h2 := Aside0.mk h20
  clear h10 h20
  have k1_ : decide (0 ≤ x) = true := decide_eq_true k1
  have k2_ : decide (0 ≤ y) = true := decide_eq_true k2
  have k3_ : decide (y ≤ 15) = false := decide_eq_false (by omega)
  go_enter Try.func26, Try.ntmps26
  go_wp2_with (first | (go_at_call 13; (with_reducible refine (word_Apply.calls 6 a b bits v _ _ hA.out).mono ?_); rintro e_ w1 ⟨rfl, HB⟩) | (go_at_call 50; (with_reducible refine (word_norm.calls a bits x _ hx.out).mono ?_); rintro e_ w' ⟨rfl, ⟨nd, rfl⟩⟩) | (go_at_call 50; (with_reducible refine (word_norm.calls b bits y _ hy.out).mono ?_); rintro e_ w' ⟨rfl, ⟨nd, rfl⟩⟩) | (go_at_call 53; (with_reducible refine (word_small.calls x true _ ((word_Exact.small_val x).trans (by rw [h1.out]))).mono ?_); rintro e_ w' ⟨rfl, ⟨nd, rfl⟩⟩) | (go_at_call 53; (with_reducible refine (word_small.calls v true _ ((word_Exact.small_val v).trans (by rw [h2.out]))).mono ?_); rintro e_ w' ⟨rfl, ⟨nd, rfl⟩⟩))
  go_ret2
  exact ⟨by first | rfl | (simp; done) | (simp [*]; done) | (rw [hjx (by omega)]; rfl), by repeat (first | exact HB | exact HB2 | exact Below.refl _ _ | apply pw_below_drewN | apply below_drew)⟩

set_option maxHeartbeats 1000000 in
theorem word_Exact.c_shr_1 (a b bits v e : Int) (w : World) (hA0 : word_Apply.f 7 a b bits = some (v, 0)) (x y : Int) (hx0 : word_norm.f a bits = some x) (hy0 : word_norm.f b bits = some y) (h10 : word_Exact.sm x = true) (h20 : word_Exact.sm v = true) (k1 : x < 0) :
    Calls Try.prog 26 #[.int .i64 7, .int .i64 a, .int .i64 b, .int .i64 bits] w fun e_ w' => e_ = .returned (.tuple #[.bool false, .int .i64 0]) ∧ Below w.heap.size w w' := by
  have hA := Aside0.mk hA0
  clear hA0
  have hx := Aside0.mk hx0
  have hy := Aside0.mk hy0
  clear hx0 hy0
  have h1 := Aside0.mk h10
  have h2 := Aside0.mk h20
  clear h10 h20
  have k1_ : decide (0 ≤ x) = false := decide_eq_false (by omega)
  go_enter Try.func26, Try.ntmps26
  go_wp2_with (first | (go_at_call 13; (with_reducible refine (word_Apply.calls 7 a b bits v _ _ hA.out).mono ?_); rintro e_ w1 ⟨rfl, HB⟩) | (go_at_call 50; (with_reducible refine (word_norm.calls a bits x _ hx.out).mono ?_); rintro e_ w' ⟨rfl, ⟨nd, rfl⟩⟩) | (go_at_call 50; (with_reducible refine (word_norm.calls b bits y _ hy.out).mono ?_); rintro e_ w' ⟨rfl, ⟨nd, rfl⟩⟩) | (go_at_call 53; (with_reducible refine (word_small.calls x true _ ((word_Exact.small_val x).trans (by rw [h1.out]))).mono ?_); rintro e_ w' ⟨rfl, ⟨nd, rfl⟩⟩) | (go_at_call 53; (with_reducible refine (word_small.calls v true _ ((word_Exact.small_val v).trans (by rw [h2.out]))).mono ?_); rintro e_ w' ⟨rfl, ⟨nd, rfl⟩⟩))
  go_ret2
  exact ⟨by first | rfl | (simp; done) | (simp [*]; done) | (rw [hjx (by omega)]; rfl), by repeat (first | exact HB | exact HB2 | exact Below.refl _ _ | apply pw_below_drewN | apply below_drew)⟩

set_option maxHeartbeats 1000000 in
theorem word_Exact.c_shr_2 (a b bits v e : Int) (w : World) (hA0 : word_Apply.f 7 a b bits = some (v, 0)) (x y : Int) (hx0 : word_norm.f a bits = some x) (hy0 : word_norm.f b bits = some y) (h10 : word_Exact.sm x = true) (h20 : word_Exact.sm v = true) (k1 : 0 ≤ x) (k2 : y < 0) :
    Calls Try.prog 26 #[.int .i64 7, .int .i64 a, .int .i64 b, .int .i64 bits] w fun e_ w' => e_ = .returned (.tuple #[.bool false, .int .i64 0]) ∧ Below w.heap.size w w' := by
  have hA := Aside0.mk hA0
  clear hA0
  have hx := Aside0.mk hx0
  have hy := Aside0.mk hy0
  clear hx0 hy0
  have h1 := Aside0.mk h10
  have h2 := Aside0.mk h20
  clear h10 h20
  have k1_ : decide (0 ≤ x) = true := decide_eq_true k1
  have k2_ : decide (0 ≤ y) = false := decide_eq_false (by omega)
  go_enter Try.func26, Try.ntmps26
  go_wp2_with (first | (go_at_call 13; (with_reducible refine (word_Apply.calls 7 a b bits v _ _ hA.out).mono ?_); rintro e_ w1 ⟨rfl, HB⟩) | (go_at_call 50; (with_reducible refine (word_norm.calls a bits x _ hx.out).mono ?_); rintro e_ w' ⟨rfl, ⟨nd, rfl⟩⟩) | (go_at_call 50; (with_reducible refine (word_norm.calls b bits y _ hy.out).mono ?_); rintro e_ w' ⟨rfl, ⟨nd, rfl⟩⟩) | (go_at_call 53; (with_reducible refine (word_small.calls x true _ ((word_Exact.small_val x).trans (by rw [h1.out]))).mono ?_); rintro e_ w' ⟨rfl, ⟨nd, rfl⟩⟩) | (go_at_call 53; (with_reducible refine (word_small.calls v true _ ((word_Exact.small_val v).trans (by rw [h2.out]))).mono ?_); rintro e_ w' ⟨rfl, ⟨nd, rfl⟩⟩))
  go_ret2
  exact ⟨by first | rfl | (simp; done) | (simp [*]; done) | (rw [hjx (by omega)]; rfl), by repeat (first | exact HB | exact HB2 | exact Below.refl _ _ | apply pw_below_drewN | apply below_drew)⟩

set_option maxHeartbeats 1000000 in
theorem word_Exact.c_shr_3 (a b bits v e : Int) (w : World) (hA0 : word_Apply.f 7 a b bits = some (v, 0)) (x y : Int) (hx0 : word_norm.f a bits = some x) (hy0 : word_norm.f b bits = some y) (h10 : word_Exact.sm x = true) (h20 : word_Exact.sm v = true) (k1 : 0 ≤ x) (k2 : 0 ≤ y) (k3 : 15 < y) :
    Calls Try.prog 26 #[.int .i64 7, .int .i64 a, .int .i64 b, .int .i64 bits] w fun e_ w' => e_ = .returned (.tuple #[.bool false, .int .i64 0]) ∧ Below w.heap.size w w' := by
  have hA := Aside0.mk hA0
  clear hA0
  have hx := Aside0.mk hx0
  have hy := Aside0.mk hy0
  clear hx0 hy0
  have h1 := Aside0.mk h10
  have h2 := Aside0.mk h20
  clear h10 h20
  have k1_ : decide (0 ≤ x) = true := decide_eq_true k1
  have k2_ : decide (0 ≤ y) = true := decide_eq_true k2
  have k3_ : decide (y ≤ 15) = false := decide_eq_false (by omega)
  go_enter Try.func26, Try.ntmps26
  go_wp2_with (first | (go_at_call 13; (with_reducible refine (word_Apply.calls 7 a b bits v _ _ hA.out).mono ?_); rintro e_ w1 ⟨rfl, HB⟩) | (go_at_call 50; (with_reducible refine (word_norm.calls a bits x _ hx.out).mono ?_); rintro e_ w' ⟨rfl, ⟨nd, rfl⟩⟩) | (go_at_call 50; (with_reducible refine (word_norm.calls b bits y _ hy.out).mono ?_); rintro e_ w' ⟨rfl, ⟨nd, rfl⟩⟩) | (go_at_call 53; (with_reducible refine (word_small.calls x true _ ((word_Exact.small_val x).trans (by rw [h1.out]))).mono ?_); rintro e_ w' ⟨rfl, ⟨nd, rfl⟩⟩) | (go_at_call 53; (with_reducible refine (word_small.calls v true _ ((word_Exact.small_val v).trans (by rw [h2.out]))).mono ?_); rintro e_ w' ⟨rfl, ⟨nd, rfl⟩⟩))
  go_ret2
  exact ⟨by first | rfl | (simp; done) | (simp [*]; done) | (rw [hjx (by omega)]; rfl), by repeat (first | exact HB | exact HB2 | exact Below.refl _ _ | apply pw_below_drewN | apply below_drew)⟩

set_option maxHeartbeats 1000000 in
theorem word_Exact.c_shr (a b bits v e : Int) (w : World) (hA0 : word_Apply.f 7 a b bits = some (v, 0)) (x y : Int) (hx0 : word_norm.f a bits = some x) (hy0 : word_norm.f b bits = some y) (h10 : word_Exact.sm x = true) (h20 : word_Exact.sm v = true) (k1 : 0 ≤ x) (k2 : 0 ≤ y) (k3 : y ≤ 15) :
    Calls Try.prog 26 #[.int .i64 7, .int .i64 a, .int .i64 b, .int .i64 bits] w fun e_ w' => e_ = .returned (.tuple #[.bool true, .int .i64 0]) ∧ Below w.heap.size w w' := by
  have hA := Aside0.mk hA0
  clear hA0
  have hx := Aside0.mk hx0
  have hy := Aside0.mk hy0
  clear hx0 hy0
  have h1 := Aside0.mk h10
  have h2 := Aside0.mk h20
  clear h10 h20
  have k1_ : decide (0 ≤ x) = true := decide_eq_true k1
  have k2_ : decide (0 ≤ y) = true := decide_eq_true k2
  have k3_ : decide (y ≤ 15) = true := decide_eq_true k3
  have k4 : (0 ≤ y) = True := _root_.eq_true k2
  go_enter Try.func26, Try.ntmps26
  go_wp2_with (first | (go_at_call 13; (with_reducible refine (word_Apply.calls 7 a b bits v _ _ hA.out).mono ?_); rintro e_ w1 ⟨rfl, HB⟩) | (go_at_call 50; (with_reducible refine (word_norm.calls a bits x _ hx.out).mono ?_); rintro e_ w' ⟨rfl, ⟨nd, rfl⟩⟩) | (go_at_call 50; (with_reducible refine (word_norm.calls b bits y _ hy.out).mono ?_); rintro e_ w' ⟨rfl, ⟨nd, rfl⟩⟩) | (go_at_call 53; (with_reducible refine (word_small.calls x true _ ((word_Exact.small_val x).trans (by rw [h1.out]))).mono ?_); rintro e_ w' ⟨rfl, ⟨nd, rfl⟩⟩) | (go_at_call 53; (with_reducible refine (word_small.calls v true _ ((word_Exact.small_val v).trans (by rw [h2.out]))).mono ?_); rintro e_ w' ⟨rfl, ⟨nd, rfl⟩⟩))
  go_ret2
  exact ⟨by first | rfl | (simp; done) | (simp [*]; done) | (rw [hjx (by omega)]; rfl), by repeat (first | exact HB | exact HB2 | exact Below.refl _ _ | apply pw_below_drewN | apply below_drew)⟩

set_option maxHeartbeats 1000000 in
theorem word_Exact.c_shl (a b bits v e : Int) (w : World) (hA0 : word_Apply.f 6 a b bits = some (v, 0)) (x y : Int) (hx0 : word_norm.f a bits = some x) (hy0 : word_norm.f b bits = some y) (h10 : word_Exact.sm x = true) (h20 : word_Exact.sm v = true) (k1 : 0 ≤ x) (k2 : 0 ≤ y) (k3 : y ≤ 15) :
    Calls Try.prog 26 #[.int .i64 6, .int .i64 a, .int .i64 b, .int .i64 bits] w fun e_ w' => e_ = .returned (.tuple #[.bool (shl .i64 x y == v), .int .i64 0]) ∧ Below w.heap.size w w' := by
  have hA := Aside0.mk hA0
  clear hA0
  have hx := Aside0.mk hx0
  have hy := Aside0.mk hy0
  clear hx0 hy0
  have h1 := Aside0.mk h10
  have h2 := Aside0.mk h20
  clear h10 h20
  have k1_ : decide (0 ≤ x) = true := decide_eq_true k1
  have k2_ : decide (0 ≤ y) = true := decide_eq_true k2
  have k3_ : decide (y ≤ 15) = true := decide_eq_true k3
  have k4 : (0 ≤ y) = True := _root_.eq_true k2
  obtain ⟨j, hj⟩ : ∃ j_ : Int, (shl .i64 x y) = j_ := ⟨_, rfl⟩
  rw [hj]
  have hj_ : (IntKind.i64.wrap (x * 2 ^ min y.toNat 64)) = j := hj
  have hjz : y ≤ 64 → (IntKind.i64.wrap (x * 2 ^ y.toNat)) = j := shl_small hj
  have hjy : (wrap64 (x * 2 ^ min y.toNat 64)) = j := (i64_w _).symm.trans hj_
  have hjx : y ≤ 64 → (wrap64 (x * 2 ^ y.toNat)) = j := fun h_ => (i64_w _).symm.trans (hjz h_)
  go_enter Try.func26, Try.ntmps26
  go_wp2_with (first | (go_at_call 13; (with_reducible refine (word_Apply.calls 6 a b bits v _ _ hA.out).mono ?_); rintro e_ w1 ⟨rfl, HB⟩) | (go_at_call 50; (with_reducible refine (word_norm.calls a bits x _ hx.out).mono ?_); rintro e_ w' ⟨rfl, ⟨nd, rfl⟩⟩) | (go_at_call 50; (with_reducible refine (word_norm.calls b bits y _ hy.out).mono ?_); rintro e_ w' ⟨rfl, ⟨nd, rfl⟩⟩) | (go_at_call 53; (with_reducible refine (word_small.calls x true _ ((word_Exact.small_val x).trans (by rw [h1.out]))).mono ?_); rintro e_ w' ⟨rfl, ⟨nd, rfl⟩⟩) | (go_at_call 53; (with_reducible refine (word_small.calls v true _ ((word_Exact.small_val v).trans (by rw [h2.out]))).mono ?_); rintro e_ w' ⟨rfl, ⟨nd, rfl⟩⟩))
  go_ret2
  exact ⟨by first | rfl | (simp; done) | (simp [*]; done) | (rw [hjx (by omega)]; rfl), by repeat (first | exact HB | exact HB2 | exact Below.refl _ _ | apply pw_below_drewN | apply below_drew)⟩

set_option maxHeartbeats 1000000 in
theorem word_Exact.c_o1 (a b bits v e : Int) (w : World) (hA0 : word_Apply.f 1 a b bits = some (v, 0)) (x y : Int) (hx0 : word_norm.f a bits = some x) (hy0 : word_norm.f b bits = some y) (h10 : word_Exact.sm x = true) (h20 : word_Exact.sm v = true) (h30 : word_Exact.sm y = true) :
    Calls Try.prog 26 #[.int .i64 1, .int .i64 a, .int .i64 b, .int .i64 bits] w fun e_ w' => e_ = .returned (.tuple #[.bool (wrap64 (x * y) == v), .int .i64 0]) ∧ Below w.heap.size w w' := by
  have hA := Aside0.mk hA0
  clear hA0
  have hx := Aside0.mk hx0
  have hy := Aside0.mk hy0
  clear hx0 hy0
  have h1 := Aside0.mk h10
  have h2 := Aside0.mk h20
  clear h10 h20
  have h3 := Aside0.mk h30
  clear h30
  go_enter Try.func26, Try.ntmps26
  go_wp2_with (first | (go_at_call 13; (with_reducible refine (word_Apply.calls 1 a b bits v _ _ hA.out).mono ?_); rintro e_ w1 ⟨rfl, HB⟩) | (go_at_call 50; (with_reducible refine (word_norm.calls a bits x _ hx.out).mono ?_); rintro e_ w' ⟨rfl, ⟨nd, rfl⟩⟩) | (go_at_call 50; (with_reducible refine (word_norm.calls b bits y _ hy.out).mono ?_); rintro e_ w' ⟨rfl, ⟨nd, rfl⟩⟩) | (go_at_call 53; (with_reducible refine (word_small.calls x true _ ((word_Exact.small_val x).trans (by rw [h1.out]))).mono ?_); rintro e_ w' ⟨rfl, ⟨nd, rfl⟩⟩) | (go_at_call 53; (with_reducible refine (word_small.calls v true _ ((word_Exact.small_val v).trans (by rw [h2.out]))).mono ?_); rintro e_ w' ⟨rfl, ⟨nd, rfl⟩⟩) | (go_at_call 53; (with_reducible refine (word_small.calls y true _ ((word_Exact.small_val y).trans (by rw [h3.out]))).mono ?_); rintro e_ w' ⟨rfl, ⟨nd, rfl⟩⟩) | (go_at_call 54; (with_reducible refine (word_operators.calls _).mono ?_); rintro e_ w2 ⟨g, rfl, hg, hb0, hbl⟩; have hcl : w2.cell? ⟨g, 0, none⟩ = some (Value.func (Fn.func 64) #[] #[]) := (blk_cell hb0 0).trans rfl; have HB2 : Below w.heap.size w w2 := below_step (by repeat (first | exact HB | exact Below.refl _ _ | apply pw_below_drewN | apply below_drew)) hbl; clear hb0 hbl) | (go_at_call 62; (with_reducible refine (word_truth.calls _ _ _ (word_Exact.truth_val _)).mono ?_); rintro e_ w' ⟨rfl, ⟨nd, rfl⟩⟩) | go_in)
  go_ret2
  exact ⟨by first | rfl | (simp; done) | (simp [*]; done) | (rw [hjx (by omega)]; rfl), by repeat (first | exact HB | exact HB2 | exact Below.refl _ _ | apply pw_below_drewN | apply below_drew)⟩

set_option maxHeartbeats 1000000 in
theorem word_Exact.c_o2 (a b bits v e : Int) (w : World) (hA0 : word_Apply.f 2 a b bits = some (v, 0)) (x y : Int) (hx0 : word_norm.f a bits = some x) (hy0 : word_norm.f b bits = some y) (h10 : word_Exact.sm x = true) (h20 : word_Exact.sm v = true) (h30 : word_Exact.sm y = true) (hz : ¬ y = 0) :
    Calls Try.prog 26 #[.int .i64 2, .int .i64 a, .int .i64 b, .int .i64 bits] w fun e_ w' => e_ = .returned (.tuple #[.bool (wrap64 (x.tdiv y) == v), .int .i64 0]) ∧ Below w.heap.size w w' := by
  have hA := Aside0.mk hA0
  clear hA0
  have hx := Aside0.mk hx0
  have hy := Aside0.mk hy0
  clear hx0 hy0
  have h1 := Aside0.mk h10
  have h2 := Aside0.mk h20
  clear h10 h20
  have h3 := Aside0.mk h30
  clear h30
  have hz1 : (y == 0) = false := beq_eq_false_iff_ne.mpr hz
  have hz2 : (y != 0) = true := bne_iff_ne.mpr hz
  go_enter Try.func26, Try.ntmps26
  go_wp2_with (first | (go_at_call 13; (with_reducible refine (word_Apply.calls 2 a b bits v _ _ hA.out).mono ?_); rintro e_ w1 ⟨rfl, HB⟩) | (go_at_call 50; (with_reducible refine (word_norm.calls a bits x _ hx.out).mono ?_); rintro e_ w' ⟨rfl, ⟨nd, rfl⟩⟩) | (go_at_call 50; (with_reducible refine (word_norm.calls b bits y _ hy.out).mono ?_); rintro e_ w' ⟨rfl, ⟨nd, rfl⟩⟩) | (go_at_call 53; (with_reducible refine (word_small.calls x true _ ((word_Exact.small_val x).trans (by rw [h1.out]))).mono ?_); rintro e_ w' ⟨rfl, ⟨nd, rfl⟩⟩) | (go_at_call 53; (with_reducible refine (word_small.calls v true _ ((word_Exact.small_val v).trans (by rw [h2.out]))).mono ?_); rintro e_ w' ⟨rfl, ⟨nd, rfl⟩⟩) | (go_at_call 53; (with_reducible refine (word_small.calls y true _ ((word_Exact.small_val y).trans (by rw [h3.out]))).mono ?_); rintro e_ w' ⟨rfl, ⟨nd, rfl⟩⟩) | (go_at_call 54; (with_reducible refine (word_operators.calls _).mono ?_); rintro e_ w2 ⟨g, rfl, hg, hb0, hbl⟩; have hcl : w2.cell? ⟨g, 1, none⟩ = some (Value.func (Fn.func 65) #[] #[]) := (blk_cell hb0 1).trans rfl; have HB2 : Below w.heap.size w w2 := below_step (by repeat (first | exact HB | exact Below.refl _ _ | apply pw_below_drewN | apply below_drew)) hbl; clear hb0 hbl) | (go_at_call 62; (with_reducible refine (word_truth.calls _ _ _ (word_Exact.truth_val _)).mono ?_); rintro e_ w' ⟨rfl, ⟨nd, rfl⟩⟩) | go_in)
  go_ret2
  exact ⟨by first | rfl | (simp; done) | (simp [*]; done) | (rw [hjx (by omega)]; rfl), by repeat (first | exact HB | exact HB2 | exact Below.refl _ _ | apply pw_below_drewN | apply below_drew)⟩

set_option maxHeartbeats 1000000 in
theorem word_Exact.c_o3 (a b bits v e : Int) (w : World) (hA0 : word_Apply.f 3 a b bits = some (v, 0)) (x y : Int) (hx0 : word_norm.f a bits = some x) (hy0 : word_norm.f b bits = some y) (h10 : word_Exact.sm x = true) (h20 : word_Exact.sm v = true) (h30 : word_Exact.sm y = true) (hz : ¬ y = 0) :
    Calls Try.prog 26 #[.int .i64 3, .int .i64 a, .int .i64 b, .int .i64 bits] w fun e_ w' => e_ = .returned (.tuple #[.bool (x.tmod y == v), .int .i64 0]) ∧ Below w.heap.size w w' := by
  have hA := Aside0.mk hA0
  clear hA0
  have hx := Aside0.mk hx0
  have hy := Aside0.mk hy0
  clear hx0 hy0
  have h1 := Aside0.mk h10
  have h2 := Aside0.mk h20
  clear h10 h20
  have h3 := Aside0.mk h30
  clear h30
  have hz1 : (y == 0) = false := beq_eq_false_iff_ne.mpr hz
  have hz2 : (y != 0) = true := bne_iff_ne.mpr hz
  go_enter Try.func26, Try.ntmps26
  go_wp2_with (first | (go_at_call 13; (with_reducible refine (word_Apply.calls 3 a b bits v _ _ hA.out).mono ?_); rintro e_ w1 ⟨rfl, HB⟩) | (go_at_call 50; (with_reducible refine (word_norm.calls a bits x _ hx.out).mono ?_); rintro e_ w' ⟨rfl, ⟨nd, rfl⟩⟩) | (go_at_call 50; (with_reducible refine (word_norm.calls b bits y _ hy.out).mono ?_); rintro e_ w' ⟨rfl, ⟨nd, rfl⟩⟩) | (go_at_call 53; (with_reducible refine (word_small.calls x true _ ((word_Exact.small_val x).trans (by rw [h1.out]))).mono ?_); rintro e_ w' ⟨rfl, ⟨nd, rfl⟩⟩) | (go_at_call 53; (with_reducible refine (word_small.calls v true _ ((word_Exact.small_val v).trans (by rw [h2.out]))).mono ?_); rintro e_ w' ⟨rfl, ⟨nd, rfl⟩⟩) | (go_at_call 53; (with_reducible refine (word_small.calls y true _ ((word_Exact.small_val y).trans (by rw [h3.out]))).mono ?_); rintro e_ w' ⟨rfl, ⟨nd, rfl⟩⟩) | (go_at_call 54; (with_reducible refine (word_operators.calls _).mono ?_); rintro e_ w2 ⟨g, rfl, hg, hb0, hbl⟩; have hcl : w2.cell? ⟨g, 2, none⟩ = some (Value.func (Fn.func 66) #[] #[]) := (blk_cell hb0 2).trans rfl; have HB2 : Below w.heap.size w w2 := below_step (by repeat (first | exact HB | exact Below.refl _ _ | apply pw_below_drewN | apply below_drew)) hbl; clear hb0 hbl) | (go_at_call 62; (with_reducible refine (word_truth.calls _ _ _ (word_Exact.truth_val _)).mono ?_); rintro e_ w' ⟨rfl, ⟨nd, rfl⟩⟩) | go_in)
  go_ret2
  exact ⟨by first | rfl | (simp; done) | (simp [*]; done) | (rw [hjx (by omega)]; rfl), by repeat (first | exact HB | exact HB2 | exact Below.refl _ _ | apply pw_below_drewN | apply below_drew)⟩

set_option maxHeartbeats 1000000 in
theorem word_Exact.c_o4 (a b bits v e : Int) (w : World) (hA0 : word_Apply.f 4 a b bits = some (v, 0)) (x y : Int) (hx0 : word_norm.f a bits = some x) (hy0 : word_norm.f b bits = some y) (h10 : word_Exact.sm x = true) (h20 : word_Exact.sm v = true) (h30 : word_Exact.sm y = true) :
    Calls Try.prog 26 #[.int .i64 4, .int .i64 a, .int .i64 b, .int .i64 bits] w fun e_ w' => e_ = .returned (.tuple #[.bool (wrap64 (x + y) == v), .int .i64 0]) ∧ Below w.heap.size w w' := by
  have hA := Aside0.mk hA0
  clear hA0
  have hx := Aside0.mk hx0
  have hy := Aside0.mk hy0
  clear hx0 hy0
  have h1 := Aside0.mk h10
  have h2 := Aside0.mk h20
  clear h10 h20
  have h3 := Aside0.mk h30
  clear h30
  go_enter Try.func26, Try.ntmps26
  go_wp2_with (first | (go_at_call 13; (with_reducible refine (word_Apply.calls 4 a b bits v _ _ hA.out).mono ?_); rintro e_ w1 ⟨rfl, HB⟩) | (go_at_call 50; (with_reducible refine (word_norm.calls a bits x _ hx.out).mono ?_); rintro e_ w' ⟨rfl, ⟨nd, rfl⟩⟩) | (go_at_call 50; (with_reducible refine (word_norm.calls b bits y _ hy.out).mono ?_); rintro e_ w' ⟨rfl, ⟨nd, rfl⟩⟩) | (go_at_call 53; (with_reducible refine (word_small.calls x true _ ((word_Exact.small_val x).trans (by rw [h1.out]))).mono ?_); rintro e_ w' ⟨rfl, ⟨nd, rfl⟩⟩) | (go_at_call 53; (with_reducible refine (word_small.calls v true _ ((word_Exact.small_val v).trans (by rw [h2.out]))).mono ?_); rintro e_ w' ⟨rfl, ⟨nd, rfl⟩⟩) | (go_at_call 53; (with_reducible refine (word_small.calls y true _ ((word_Exact.small_val y).trans (by rw [h3.out]))).mono ?_); rintro e_ w' ⟨rfl, ⟨nd, rfl⟩⟩) | (go_at_call 54; (with_reducible refine (word_operators.calls _).mono ?_); rintro e_ w2 ⟨g, rfl, hg, hb0, hbl⟩; have hcl : w2.cell? ⟨g, 3, none⟩ = some (Value.func (Fn.func 67) #[] #[]) := (blk_cell hb0 3).trans rfl; have HB2 : Below w.heap.size w w2 := below_step (by repeat (first | exact HB | exact Below.refl _ _ | apply pw_below_drewN | apply below_drew)) hbl; clear hb0 hbl) | (go_at_call 62; (with_reducible refine (word_truth.calls _ _ _ (word_Exact.truth_val _)).mono ?_); rintro e_ w' ⟨rfl, ⟨nd, rfl⟩⟩) | go_in)
  go_ret2
  exact ⟨by first | rfl | (simp; done) | (simp [*]; done) | (rw [hjx (by omega)]; rfl), by repeat (first | exact HB | exact HB2 | exact Below.refl _ _ | apply pw_below_drewN | apply below_drew)⟩

set_option maxHeartbeats 1000000 in
theorem word_Exact.c_o5 (a b bits v e : Int) (w : World) (hA0 : word_Apply.f 5 a b bits = some (v, 0)) (x y : Int) (hx0 : word_norm.f a bits = some x) (hy0 : word_norm.f b bits = some y) (h10 : word_Exact.sm x = true) (h20 : word_Exact.sm v = true) (h30 : word_Exact.sm y = true) :
    Calls Try.prog 26 #[.int .i64 5, .int .i64 a, .int .i64 b, .int .i64 bits] w fun e_ w' => e_ = .returned (.tuple #[.bool (wrap64 (x - y) == v), .int .i64 0]) ∧ Below w.heap.size w w' := by
  have hA := Aside0.mk hA0
  clear hA0
  have hx := Aside0.mk hx0
  have hy := Aside0.mk hy0
  clear hx0 hy0
  have h1 := Aside0.mk h10
  have h2 := Aside0.mk h20
  clear h10 h20
  have h3 := Aside0.mk h30
  clear h30
  go_enter Try.func26, Try.ntmps26
  go_wp2_with (first | (go_at_call 13; (with_reducible refine (word_Apply.calls 5 a b bits v _ _ hA.out).mono ?_); rintro e_ w1 ⟨rfl, HB⟩) | (go_at_call 50; (with_reducible refine (word_norm.calls a bits x _ hx.out).mono ?_); rintro e_ w' ⟨rfl, ⟨nd, rfl⟩⟩) | (go_at_call 50; (with_reducible refine (word_norm.calls b bits y _ hy.out).mono ?_); rintro e_ w' ⟨rfl, ⟨nd, rfl⟩⟩) | (go_at_call 53; (with_reducible refine (word_small.calls x true _ ((word_Exact.small_val x).trans (by rw [h1.out]))).mono ?_); rintro e_ w' ⟨rfl, ⟨nd, rfl⟩⟩) | (go_at_call 53; (with_reducible refine (word_small.calls v true _ ((word_Exact.small_val v).trans (by rw [h2.out]))).mono ?_); rintro e_ w' ⟨rfl, ⟨nd, rfl⟩⟩) | (go_at_call 53; (with_reducible refine (word_small.calls y true _ ((word_Exact.small_val y).trans (by rw [h3.out]))).mono ?_); rintro e_ w' ⟨rfl, ⟨nd, rfl⟩⟩) | (go_at_call 54; (with_reducible refine (word_operators.calls _).mono ?_); rintro e_ w2 ⟨g, rfl, hg, hb0, hbl⟩; have hcl : w2.cell? ⟨g, 4, none⟩ = some (Value.func (Fn.func 68) #[] #[]) := (blk_cell hb0 4).trans rfl; have HB2 : Below w.heap.size w w2 := below_step (by repeat (first | exact HB | exact Below.refl _ _ | apply pw_below_drewN | apply below_drew)) hbl; clear hb0 hbl) | (go_at_call 62; (with_reducible refine (word_truth.calls _ _ _ (word_Exact.truth_val _)).mono ?_); rintro e_ w' ⟨rfl, ⟨nd, rfl⟩⟩) | go_in)
  go_ret2
  exact ⟨by first | rfl | (simp; done) | (simp [*]; done) | (rw [hjx (by omega)]; rfl), by repeat (first | exact HB | exact HB2 | exact Below.refl _ _ | apply pw_below_drewN | apply below_drew)⟩

set_option maxHeartbeats 1000000 in
theorem word_Exact.c_o8 (a b bits v e : Int) (w : World) (hA0 : word_Apply.f 8 a b bits = some (v, 0)) (x y : Int) (hx0 : word_norm.f a bits = some x) (hy0 : word_norm.f b bits = some y) (h10 : word_Exact.sm x = true) (h20 : word_Exact.sm v = true) (h30 : word_Exact.sm y = true) :
    Calls Try.prog 26 #[.int .i64 8, .int .i64 a, .int .i64 b, .int .i64 bits] w fun e_ w' => e_ = .returned (.tuple #[.bool (Go.bits .and .i64 x y == v), .int .i64 0]) ∧ Below w.heap.size w w' := by
  have hA := Aside0.mk hA0
  clear hA0
  have hx := Aside0.mk hx0
  have hy := Aside0.mk hy0
  clear hx0 hy0
  have h1 := Aside0.mk h10
  have h2 := Aside0.mk h20
  clear h10 h20
  have h3 := Aside0.mk h30
  clear h30
  go_enter Try.func26, Try.ntmps26
  go_wp2_with (first | (go_at_call 13; (with_reducible refine (word_Apply.calls 8 a b bits v _ _ hA.out).mono ?_); rintro e_ w1 ⟨rfl, HB⟩) | (go_at_call 50; (with_reducible refine (word_norm.calls a bits x _ hx.out).mono ?_); rintro e_ w' ⟨rfl, ⟨nd, rfl⟩⟩) | (go_at_call 50; (with_reducible refine (word_norm.calls b bits y _ hy.out).mono ?_); rintro e_ w' ⟨rfl, ⟨nd, rfl⟩⟩) | (go_at_call 53; (with_reducible refine (word_small.calls x true _ ((word_Exact.small_val x).trans (by rw [h1.out]))).mono ?_); rintro e_ w' ⟨rfl, ⟨nd, rfl⟩⟩) | (go_at_call 53; (with_reducible refine (word_small.calls v true _ ((word_Exact.small_val v).trans (by rw [h2.out]))).mono ?_); rintro e_ w' ⟨rfl, ⟨nd, rfl⟩⟩) | (go_at_call 53; (with_reducible refine (word_small.calls y true _ ((word_Exact.small_val y).trans (by rw [h3.out]))).mono ?_); rintro e_ w' ⟨rfl, ⟨nd, rfl⟩⟩) | (go_at_call 54; (with_reducible refine (word_operators.calls _).mono ?_); rintro e_ w2 ⟨g, rfl, hg, hb0, hbl⟩; have hcl : w2.cell? ⟨g, 7, none⟩ = some (Value.func (Fn.func 71) #[] #[]) := (blk_cell hb0 7).trans rfl; have HB2 : Below w.heap.size w w2 := below_step (by repeat (first | exact HB | exact Below.refl _ _ | apply pw_below_drewN | apply below_drew)) hbl; clear hb0 hbl) | (go_at_call 62; (with_reducible refine (word_truth.calls _ _ _ (word_Exact.truth_val _)).mono ?_); rintro e_ w' ⟨rfl, ⟨nd, rfl⟩⟩) | go_in)
  go_ret2
  exact ⟨by first | rfl | (simp; done) | (simp [*]; done) | (rw [hjx (by omega)]; rfl), by repeat (first | exact HB | exact HB2 | exact Below.refl _ _ | apply pw_below_drewN | apply below_drew)⟩

set_option maxHeartbeats 1000000 in
theorem word_Exact.c_o9 (a b bits v e : Int) (w : World) (hA0 : word_Apply.f 9 a b bits = some (v, 0)) (x y : Int) (hx0 : word_norm.f a bits = some x) (hy0 : word_norm.f b bits = some y) (h10 : word_Exact.sm x = true) (h20 : word_Exact.sm v = true) (h30 : word_Exact.sm y = true) :
    Calls Try.prog 26 #[.int .i64 9, .int .i64 a, .int .i64 b, .int .i64 bits] w fun e_ w' => e_ = .returned (.tuple #[.bool (Go.bits .or .i64 x y == v), .int .i64 0]) ∧ Below w.heap.size w w' := by
  have hA := Aside0.mk hA0
  clear hA0
  have hx := Aside0.mk hx0
  have hy := Aside0.mk hy0
  clear hx0 hy0
  have h1 := Aside0.mk h10
  have h2 := Aside0.mk h20
  clear h10 h20
  have h3 := Aside0.mk h30
  clear h30
  go_enter Try.func26, Try.ntmps26
  go_wp2_with (first | (go_at_call 13; (with_reducible refine (word_Apply.calls 9 a b bits v _ _ hA.out).mono ?_); rintro e_ w1 ⟨rfl, HB⟩) | (go_at_call 50; (with_reducible refine (word_norm.calls a bits x _ hx.out).mono ?_); rintro e_ w' ⟨rfl, ⟨nd, rfl⟩⟩) | (go_at_call 50; (with_reducible refine (word_norm.calls b bits y _ hy.out).mono ?_); rintro e_ w' ⟨rfl, ⟨nd, rfl⟩⟩) | (go_at_call 53; (with_reducible refine (word_small.calls x true _ ((word_Exact.small_val x).trans (by rw [h1.out]))).mono ?_); rintro e_ w' ⟨rfl, ⟨nd, rfl⟩⟩) | (go_at_call 53; (with_reducible refine (word_small.calls v true _ ((word_Exact.small_val v).trans (by rw [h2.out]))).mono ?_); rintro e_ w' ⟨rfl, ⟨nd, rfl⟩⟩) | (go_at_call 53; (with_reducible refine (word_small.calls y true _ ((word_Exact.small_val y).trans (by rw [h3.out]))).mono ?_); rintro e_ w' ⟨rfl, ⟨nd, rfl⟩⟩) | (go_at_call 54; (with_reducible refine (word_operators.calls _).mono ?_); rintro e_ w2 ⟨g, rfl, hg, hb0, hbl⟩; have hcl : w2.cell? ⟨g, 8, none⟩ = some (Value.func (Fn.func 72) #[] #[]) := (blk_cell hb0 8).trans rfl; have HB2 : Below w.heap.size w w2 := below_step (by repeat (first | exact HB | exact Below.refl _ _ | apply pw_below_drewN | apply below_drew)) hbl; clear hb0 hbl) | (go_at_call 62; (with_reducible refine (word_truth.calls _ _ _ (word_Exact.truth_val _)).mono ?_); rintro e_ w' ⟨rfl, ⟨nd, rfl⟩⟩) | go_in)
  go_ret2
  exact ⟨by first | rfl | (simp; done) | (simp [*]; done) | (rw [hjx (by omega)]; rfl), by repeat (first | exact HB | exact HB2 | exact Below.refl _ _ | apply pw_below_drewN | apply below_drew)⟩

set_option maxHeartbeats 1000000 in
theorem word_Exact.c_o10 (a b bits v e : Int) (w : World) (hA0 : word_Apply.f 10 a b bits = some (v, 0)) (x y : Int) (hx0 : word_norm.f a bits = some x) (hy0 : word_norm.f b bits = some y) (h10 : word_Exact.sm x = true) (h20 : word_Exact.sm v = true) (h30 : word_Exact.sm y = true) :
    Calls Try.prog 26 #[.int .i64 10, .int .i64 a, .int .i64 b, .int .i64 bits] w fun e_ w' => e_ = .returned (.tuple #[.bool (Go.bits .xor .i64 x y == v), .int .i64 0]) ∧ Below w.heap.size w w' := by
  have hA := Aside0.mk hA0
  clear hA0
  have hx := Aside0.mk hx0
  have hy := Aside0.mk hy0
  clear hx0 hy0
  have h1 := Aside0.mk h10
  have h2 := Aside0.mk h20
  clear h10 h20
  have h3 := Aside0.mk h30
  clear h30
  go_enter Try.func26, Try.ntmps26
  go_wp2_with (first | (go_at_call 13; (with_reducible refine (word_Apply.calls 10 a b bits v _ _ hA.out).mono ?_); rintro e_ w1 ⟨rfl, HB⟩) | (go_at_call 50; (with_reducible refine (word_norm.calls a bits x _ hx.out).mono ?_); rintro e_ w' ⟨rfl, ⟨nd, rfl⟩⟩) | (go_at_call 50; (with_reducible refine (word_norm.calls b bits y _ hy.out).mono ?_); rintro e_ w' ⟨rfl, ⟨nd, rfl⟩⟩) | (go_at_call 53; (with_reducible refine (word_small.calls x true _ ((word_Exact.small_val x).trans (by rw [h1.out]))).mono ?_); rintro e_ w' ⟨rfl, ⟨nd, rfl⟩⟩) | (go_at_call 53; (with_reducible refine (word_small.calls v true _ ((word_Exact.small_val v).trans (by rw [h2.out]))).mono ?_); rintro e_ w' ⟨rfl, ⟨nd, rfl⟩⟩) | (go_at_call 53; (with_reducible refine (word_small.calls y true _ ((word_Exact.small_val y).trans (by rw [h3.out]))).mono ?_); rintro e_ w' ⟨rfl, ⟨nd, rfl⟩⟩) | (go_at_call 54; (with_reducible refine (word_operators.calls _).mono ?_); rintro e_ w2 ⟨g, rfl, hg, hb0, hbl⟩; have hcl : w2.cell? ⟨g, 9, none⟩ = some (Value.func (Fn.func 73) #[] #[]) := (blk_cell hb0 9).trans rfl; have HB2 : Below w.heap.size w w2 := below_step (by repeat (first | exact HB | exact Below.refl _ _ | apply pw_below_drewN | apply below_drew)) hbl; clear hb0 hbl) | (go_at_call 62; (with_reducible refine (word_truth.calls _ _ _ (word_Exact.truth_val _)).mono ?_); rintro e_ w' ⟨rfl, ⟨nd, rfl⟩⟩) | go_in)
  go_ret2
  exact ⟨by first | rfl | (simp; done) | (simp [*]; done) | (rw [hjx (by omega)]; rfl), by repeat (first | exact HB | exact HB2 | exact Below.refl _ _ | apply pw_below_drewN | apply below_drew)⟩

set_option maxHeartbeats 1000000 in
theorem word_Exact.c_o11 (a b bits v e : Int) (w : World) (hA0 : word_Apply.f 11 a b bits = some (v, 0)) (x y : Int) (hx0 : word_norm.f a bits = some x) (hy0 : word_norm.f b bits = some y) (h10 : word_Exact.sm x = true) (h20 : word_Exact.sm v = true) (h30 : word_Exact.sm y = true) :
    Calls Try.prog 26 #[.int .i64 11, .int .i64 a, .int .i64 b, .int .i64 bits] w fun e_ w' => e_ = .returned (.tuple #[.bool (Go.bits .xor .i64 (-1) (Go.bits .xor .i64 x y) == v), .int .i64 0]) ∧ Below w.heap.size w w' := by
  have hA := Aside0.mk hA0
  clear hA0
  have hx := Aside0.mk hx0
  have hy := Aside0.mk hy0
  clear hx0 hy0
  have h1 := Aside0.mk h10
  have h2 := Aside0.mk h20
  clear h10 h20
  have h3 := Aside0.mk h30
  clear h30
  go_enter Try.func26, Try.ntmps26
  go_wp2_with (first | (go_at_call 13; (with_reducible refine (word_Apply.calls 11 a b bits v _ _ hA.out).mono ?_); rintro e_ w1 ⟨rfl, HB⟩) | (go_at_call 50; (with_reducible refine (word_norm.calls a bits x _ hx.out).mono ?_); rintro e_ w' ⟨rfl, ⟨nd, rfl⟩⟩) | (go_at_call 50; (with_reducible refine (word_norm.calls b bits y _ hy.out).mono ?_); rintro e_ w' ⟨rfl, ⟨nd, rfl⟩⟩) | (go_at_call 53; (with_reducible refine (word_small.calls x true _ ((word_Exact.small_val x).trans (by rw [h1.out]))).mono ?_); rintro e_ w' ⟨rfl, ⟨nd, rfl⟩⟩) | (go_at_call 53; (with_reducible refine (word_small.calls v true _ ((word_Exact.small_val v).trans (by rw [h2.out]))).mono ?_); rintro e_ w' ⟨rfl, ⟨nd, rfl⟩⟩) | (go_at_call 53; (with_reducible refine (word_small.calls y true _ ((word_Exact.small_val y).trans (by rw [h3.out]))).mono ?_); rintro e_ w' ⟨rfl, ⟨nd, rfl⟩⟩) | (go_at_call 54; (with_reducible refine (word_operators.calls _).mono ?_); rintro e_ w2 ⟨g, rfl, hg, hb0, hbl⟩; have hcl : w2.cell? ⟨g, 10, none⟩ = some (Value.func (Fn.func 74) #[] #[]) := (blk_cell hb0 10).trans rfl; have HB2 : Below w.heap.size w w2 := below_step (by repeat (first | exact HB | exact Below.refl _ _ | apply pw_below_drewN | apply below_drew)) hbl; clear hb0 hbl) | (go_at_call 62; (with_reducible refine (word_truth.calls _ _ _ (word_Exact.truth_val _)).mono ?_); rintro e_ w' ⟨rfl, ⟨nd, rfl⟩⟩) | go_in)
  go_ret2
  exact ⟨by first | rfl | (simp; done) | (simp [*]; done) | (rw [hjx (by omega)]; rfl), by repeat (first | exact HB | exact HB2 | exact Below.refl _ _ | apply pw_below_drewN | apply below_drew)⟩

set_option maxHeartbeats 1000000 in
theorem word_Exact.c_o12 (a b bits v e : Int) (w : World) (hA0 : word_Apply.f 12 a b bits = some (v, 0)) (x y : Int) (hx0 : word_norm.f a bits = some x) (hy0 : word_norm.f b bits = some y) (h10 : word_Exact.sm x = true) (h20 : word_Exact.sm v = true) (h30 : word_Exact.sm y = true) :
    Calls Try.prog 26 #[.int .i64 12, .int .i64 a, .int .i64 b, .int .i64 bits] w fun e_ w' => e_ = .returned (.tuple #[.bool (word_Exact.tv (x == y) == v), .int .i64 0]) ∧ Below w.heap.size w w' := by
  have hA := Aside0.mk hA0
  clear hA0
  have hx := Aside0.mk hx0
  have hy := Aside0.mk hy0
  clear hx0 hy0
  have h1 := Aside0.mk h10
  have h2 := Aside0.mk h20
  clear h10 h20
  have h3 := Aside0.mk h30
  clear h30
  go_enter Try.func26, Try.ntmps26
  go_wp2_with (first | (go_at_call 13; (with_reducible refine (word_Apply.calls 12 a b bits v _ _ hA.out).mono ?_); rintro e_ w1 ⟨rfl, HB⟩) | (go_at_call 50; (with_reducible refine (word_norm.calls a bits x _ hx.out).mono ?_); rintro e_ w' ⟨rfl, ⟨nd, rfl⟩⟩) | (go_at_call 50; (with_reducible refine (word_norm.calls b bits y _ hy.out).mono ?_); rintro e_ w' ⟨rfl, ⟨nd, rfl⟩⟩) | (go_at_call 53; (with_reducible refine (word_small.calls x true _ ((word_Exact.small_val x).trans (by rw [h1.out]))).mono ?_); rintro e_ w' ⟨rfl, ⟨nd, rfl⟩⟩) | (go_at_call 53; (with_reducible refine (word_small.calls v true _ ((word_Exact.small_val v).trans (by rw [h2.out]))).mono ?_); rintro e_ w' ⟨rfl, ⟨nd, rfl⟩⟩) | (go_at_call 53; (with_reducible refine (word_small.calls y true _ ((word_Exact.small_val y).trans (by rw [h3.out]))).mono ?_); rintro e_ w' ⟨rfl, ⟨nd, rfl⟩⟩) | (go_at_call 54; (with_reducible refine (word_operators.calls _).mono ?_); rintro e_ w2 ⟨g, rfl, hg, hb0, hbl⟩; have hcl : w2.cell? ⟨g, 11, none⟩ = some (Value.func (Fn.func 75) #[] #[]) := (blk_cell hb0 11).trans rfl; have HB2 : Below w.heap.size w w2 := below_step (by repeat (first | exact HB | exact Below.refl _ _ | apply pw_below_drewN | apply below_drew)) hbl; clear hb0 hbl) | (go_at_call 62; (with_reducible refine (word_truth.calls _ _ _ (word_Exact.truth_val _)).mono ?_); rintro e_ w' ⟨rfl, ⟨nd, rfl⟩⟩) | go_in)
  go_ret2
  exact ⟨by first | rfl | (simp; done) | (simp [*]; done) | (rw [hjx (by omega)]; rfl), by repeat (first | exact HB | exact HB2 | exact Below.refl _ _ | apply pw_below_drewN | apply below_drew)⟩

set_option maxHeartbeats 1000000 in
theorem word_Exact.c_o13 (a b bits v e : Int) (w : World) (hA0 : word_Apply.f 13 a b bits = some (v, 0)) (x y : Int) (hx0 : word_norm.f a bits = some x) (hy0 : word_norm.f b bits = some y) (h10 : word_Exact.sm x = true) (h20 : word_Exact.sm v = true) (h30 : word_Exact.sm y = true) :
    Calls Try.prog 26 #[.int .i64 13, .int .i64 a, .int .i64 b, .int .i64 bits] w fun e_ w' => e_ = .returned (.tuple #[.bool (word_Exact.tv (x != y) == v), .int .i64 0]) ∧ Below w.heap.size w w' := by
  have hA := Aside0.mk hA0
  clear hA0
  have hx := Aside0.mk hx0
  have hy := Aside0.mk hy0
  clear hx0 hy0
  have h1 := Aside0.mk h10
  have h2 := Aside0.mk h20
  clear h10 h20
  have h3 := Aside0.mk h30
  clear h30
  go_enter Try.func26, Try.ntmps26
  go_wp2_with (first | (go_at_call 13; (with_reducible refine (word_Apply.calls 13 a b bits v _ _ hA.out).mono ?_); rintro e_ w1 ⟨rfl, HB⟩) | (go_at_call 50; (with_reducible refine (word_norm.calls a bits x _ hx.out).mono ?_); rintro e_ w' ⟨rfl, ⟨nd, rfl⟩⟩) | (go_at_call 50; (with_reducible refine (word_norm.calls b bits y _ hy.out).mono ?_); rintro e_ w' ⟨rfl, ⟨nd, rfl⟩⟩) | (go_at_call 53; (with_reducible refine (word_small.calls x true _ ((word_Exact.small_val x).trans (by rw [h1.out]))).mono ?_); rintro e_ w' ⟨rfl, ⟨nd, rfl⟩⟩) | (go_at_call 53; (with_reducible refine (word_small.calls v true _ ((word_Exact.small_val v).trans (by rw [h2.out]))).mono ?_); rintro e_ w' ⟨rfl, ⟨nd, rfl⟩⟩) | (go_at_call 53; (with_reducible refine (word_small.calls y true _ ((word_Exact.small_val y).trans (by rw [h3.out]))).mono ?_); rintro e_ w' ⟨rfl, ⟨nd, rfl⟩⟩) | (go_at_call 54; (with_reducible refine (word_operators.calls _).mono ?_); rintro e_ w2 ⟨g, rfl, hg, hb0, hbl⟩; have hcl : w2.cell? ⟨g, 12, none⟩ = some (Value.func (Fn.func 76) #[] #[]) := (blk_cell hb0 12).trans rfl; have HB2 : Below w.heap.size w w2 := below_step (by repeat (first | exact HB | exact Below.refl _ _ | apply pw_below_drewN | apply below_drew)) hbl; clear hb0 hbl) | (go_at_call 62; (with_reducible refine (word_truth.calls _ _ _ (word_Exact.truth_val _)).mono ?_); rintro e_ w' ⟨rfl, ⟨nd, rfl⟩⟩) | go_in)
  go_ret2
  exact ⟨by first | rfl | (simp; done) | (simp [*]; done) | (rw [hjx (by omega)]; rfl), by repeat (first | exact HB | exact HB2 | exact Below.refl _ _ | apply pw_below_drewN | apply below_drew)⟩

set_option maxHeartbeats 1000000 in
theorem word_Exact.c_o14 (a b bits v e : Int) (w : World) (hA0 : word_Apply.f 14 a b bits = some (v, 0)) (x y : Int) (hx0 : word_norm.f a bits = some x) (hy0 : word_norm.f b bits = some y) (h10 : word_Exact.sm x = true) (h20 : word_Exact.sm v = true) (h30 : word_Exact.sm y = true) :
    Calls Try.prog 26 #[.int .i64 14, .int .i64 a, .int .i64 b, .int .i64 bits] w fun e_ w' => e_ = .returned (.tuple #[.bool (word_Exact.tv (decide (x < y)) == v), .int .i64 0]) ∧ Below w.heap.size w w' := by
  have hA := Aside0.mk hA0
  clear hA0
  have hx := Aside0.mk hx0
  have hy := Aside0.mk hy0
  clear hx0 hy0
  have h1 := Aside0.mk h10
  have h2 := Aside0.mk h20
  clear h10 h20
  have h3 := Aside0.mk h30
  clear h30
  go_enter Try.func26, Try.ntmps26
  go_wp2_with (first | (go_at_call 13; (with_reducible refine (word_Apply.calls 14 a b bits v _ _ hA.out).mono ?_); rintro e_ w1 ⟨rfl, HB⟩) | (go_at_call 50; (with_reducible refine (word_norm.calls a bits x _ hx.out).mono ?_); rintro e_ w' ⟨rfl, ⟨nd, rfl⟩⟩) | (go_at_call 50; (with_reducible refine (word_norm.calls b bits y _ hy.out).mono ?_); rintro e_ w' ⟨rfl, ⟨nd, rfl⟩⟩) | (go_at_call 53; (with_reducible refine (word_small.calls x true _ ((word_Exact.small_val x).trans (by rw [h1.out]))).mono ?_); rintro e_ w' ⟨rfl, ⟨nd, rfl⟩⟩) | (go_at_call 53; (with_reducible refine (word_small.calls v true _ ((word_Exact.small_val v).trans (by rw [h2.out]))).mono ?_); rintro e_ w' ⟨rfl, ⟨nd, rfl⟩⟩) | (go_at_call 53; (with_reducible refine (word_small.calls y true _ ((word_Exact.small_val y).trans (by rw [h3.out]))).mono ?_); rintro e_ w' ⟨rfl, ⟨nd, rfl⟩⟩) | (go_at_call 54; (with_reducible refine (word_operators.calls _).mono ?_); rintro e_ w2 ⟨g, rfl, hg, hb0, hbl⟩; have hcl : w2.cell? ⟨g, 13, none⟩ = some (Value.func (Fn.func 77) #[] #[]) := (blk_cell hb0 13).trans rfl; have HB2 : Below w.heap.size w w2 := below_step (by repeat (first | exact HB | exact Below.refl _ _ | apply pw_below_drewN | apply below_drew)) hbl; clear hb0 hbl) | (go_at_call 62; (with_reducible refine (word_truth.calls _ _ _ (word_Exact.truth_val _)).mono ?_); rintro e_ w' ⟨rfl, ⟨nd, rfl⟩⟩) | go_in)
  go_ret2
  exact ⟨by first | rfl | (simp; done) | (simp [*]; done) | (rw [hjx (by omega)]; rfl), by repeat (first | exact HB | exact HB2 | exact Below.refl _ _ | apply pw_below_drewN | apply below_drew)⟩

set_option maxHeartbeats 1000000 in
theorem word_Exact.c_o15 (a b bits v e : Int) (w : World) (hA0 : word_Apply.f 15 a b bits = some (v, 0)) (x y : Int) (hx0 : word_norm.f a bits = some x) (hy0 : word_norm.f b bits = some y) (h10 : word_Exact.sm x = true) (h20 : word_Exact.sm v = true) (h30 : word_Exact.sm y = true) :
    Calls Try.prog 26 #[.int .i64 15, .int .i64 a, .int .i64 b, .int .i64 bits] w fun e_ w' => e_ = .returned (.tuple #[.bool (word_Exact.tv (decide (x ≤ y)) == v), .int .i64 0]) ∧ Below w.heap.size w w' := by
  have hA := Aside0.mk hA0
  clear hA0
  have hx := Aside0.mk hx0
  have hy := Aside0.mk hy0
  clear hx0 hy0
  have h1 := Aside0.mk h10
  have h2 := Aside0.mk h20
  clear h10 h20
  have h3 := Aside0.mk h30
  clear h30
  go_enter Try.func26, Try.ntmps26
  go_wp2_with (first | (go_at_call 13; (with_reducible refine (word_Apply.calls 15 a b bits v _ _ hA.out).mono ?_); rintro e_ w1 ⟨rfl, HB⟩) | (go_at_call 50; (with_reducible refine (word_norm.calls a bits x _ hx.out).mono ?_); rintro e_ w' ⟨rfl, ⟨nd, rfl⟩⟩) | (go_at_call 50; (with_reducible refine (word_norm.calls b bits y _ hy.out).mono ?_); rintro e_ w' ⟨rfl, ⟨nd, rfl⟩⟩) | (go_at_call 53; (with_reducible refine (word_small.calls x true _ ((word_Exact.small_val x).trans (by rw [h1.out]))).mono ?_); rintro e_ w' ⟨rfl, ⟨nd, rfl⟩⟩) | (go_at_call 53; (with_reducible refine (word_small.calls v true _ ((word_Exact.small_val v).trans (by rw [h2.out]))).mono ?_); rintro e_ w' ⟨rfl, ⟨nd, rfl⟩⟩) | (go_at_call 53; (with_reducible refine (word_small.calls y true _ ((word_Exact.small_val y).trans (by rw [h3.out]))).mono ?_); rintro e_ w' ⟨rfl, ⟨nd, rfl⟩⟩) | (go_at_call 54; (with_reducible refine (word_operators.calls _).mono ?_); rintro e_ w2 ⟨g, rfl, hg, hb0, hbl⟩; have hcl : w2.cell? ⟨g, 14, none⟩ = some (Value.func (Fn.func 78) #[] #[]) := (blk_cell hb0 14).trans rfl; have HB2 : Below w.heap.size w w2 := below_step (by repeat (first | exact HB | exact Below.refl _ _ | apply pw_below_drewN | apply below_drew)) hbl; clear hb0 hbl) | (go_at_call 62; (with_reducible refine (word_truth.calls _ _ _ (word_Exact.truth_val _)).mono ?_); rintro e_ w' ⟨rfl, ⟨nd, rfl⟩⟩) | go_in)
  go_ret2
  exact ⟨by first | rfl | (simp; done) | (simp [*]; done) | (rw [hjx (by omega)]; rfl), by repeat (first | exact HB | exact HB2 | exact Below.refl _ _ | apply pw_below_drewN | apply below_drew)⟩

set_option maxHeartbeats 1000000 in
theorem word_Exact.c_o16 (a b bits v e : Int) (w : World) (hA0 : word_Apply.f 16 a b bits = some (v, 0)) (x y : Int) (hx0 : word_norm.f a bits = some x) (hy0 : word_norm.f b bits = some y) (h10 : word_Exact.sm x = true) (h20 : word_Exact.sm v = true) (h30 : word_Exact.sm y = true) :
    Calls Try.prog 26 #[.int .i64 16, .int .i64 a, .int .i64 b, .int .i64 bits] w fun e_ w' => e_ = .returned (.tuple #[.bool (word_Exact.tv (decide (y < x)) == v), .int .i64 0]) ∧ Below w.heap.size w w' := by
  have hA := Aside0.mk hA0
  clear hA0
  have hx := Aside0.mk hx0
  have hy := Aside0.mk hy0
  clear hx0 hy0
  have h1 := Aside0.mk h10
  have h2 := Aside0.mk h20
  clear h10 h20
  have h3 := Aside0.mk h30
  clear h30
  go_enter Try.func26, Try.ntmps26
  go_wp2_with (first | (go_at_call 13; (with_reducible refine (word_Apply.calls 16 a b bits v _ _ hA.out).mono ?_); rintro e_ w1 ⟨rfl, HB⟩) | (go_at_call 50; (with_reducible refine (word_norm.calls a bits x _ hx.out).mono ?_); rintro e_ w' ⟨rfl, ⟨nd, rfl⟩⟩) | (go_at_call 50; (with_reducible refine (word_norm.calls b bits y _ hy.out).mono ?_); rintro e_ w' ⟨rfl, ⟨nd, rfl⟩⟩) | (go_at_call 53; (with_reducible refine (word_small.calls x true _ ((word_Exact.small_val x).trans (by rw [h1.out]))).mono ?_); rintro e_ w' ⟨rfl, ⟨nd, rfl⟩⟩) | (go_at_call 53; (with_reducible refine (word_small.calls v true _ ((word_Exact.small_val v).trans (by rw [h2.out]))).mono ?_); rintro e_ w' ⟨rfl, ⟨nd, rfl⟩⟩) | (go_at_call 53; (with_reducible refine (word_small.calls y true _ ((word_Exact.small_val y).trans (by rw [h3.out]))).mono ?_); rintro e_ w' ⟨rfl, ⟨nd, rfl⟩⟩) | (go_at_call 54; (with_reducible refine (word_operators.calls _).mono ?_); rintro e_ w2 ⟨g, rfl, hg, hb0, hbl⟩; have hcl : w2.cell? ⟨g, 15, none⟩ = some (Value.func (Fn.func 79) #[] #[]) := (blk_cell hb0 15).trans rfl; have HB2 : Below w.heap.size w w2 := below_step (by repeat (first | exact HB | exact Below.refl _ _ | apply pw_below_drewN | apply below_drew)) hbl; clear hb0 hbl) | (go_at_call 62; (with_reducible refine (word_truth.calls _ _ _ (word_Exact.truth_val _)).mono ?_); rintro e_ w' ⟨rfl, ⟨nd, rfl⟩⟩) | go_in)
  go_ret2
  exact ⟨by first | rfl | (simp; done) | (simp [*]; done) | (rw [hjx (by omega)]; rfl), by repeat (first | exact HB | exact HB2 | exact Below.refl _ _ | apply pw_below_drewN | apply below_drew)⟩

set_option maxHeartbeats 1000000 in
theorem word_Exact.c_o17 (a b bits v e : Int) (w : World) (hA0 : word_Apply.f 17 a b bits = some (v, 0)) (x y : Int) (hx0 : word_norm.f a bits = some x) (hy0 : word_norm.f b bits = some y) (h10 : word_Exact.sm x = true) (h20 : word_Exact.sm v = true) (h30 : word_Exact.sm y = true) :
    Calls Try.prog 26 #[.int .i64 17, .int .i64 a, .int .i64 b, .int .i64 bits] w fun e_ w' => e_ = .returned (.tuple #[.bool (word_Exact.tv (decide (y ≤ x)) == v), .int .i64 0]) ∧ Below w.heap.size w w' := by
  have hA := Aside0.mk hA0
  clear hA0
  have hx := Aside0.mk hx0
  have hy := Aside0.mk hy0
  clear hx0 hy0
  have h1 := Aside0.mk h10
  have h2 := Aside0.mk h20
  clear h10 h20
  have h3 := Aside0.mk h30
  clear h30
  go_enter Try.func26, Try.ntmps26
  go_wp2_with (first | (go_at_call 13; (with_reducible refine (word_Apply.calls 17 a b bits v _ _ hA.out).mono ?_); rintro e_ w1 ⟨rfl, HB⟩) | (go_at_call 50; (with_reducible refine (word_norm.calls a bits x _ hx.out).mono ?_); rintro e_ w' ⟨rfl, ⟨nd, rfl⟩⟩) | (go_at_call 50; (with_reducible refine (word_norm.calls b bits y _ hy.out).mono ?_); rintro e_ w' ⟨rfl, ⟨nd, rfl⟩⟩) | (go_at_call 53; (with_reducible refine (word_small.calls x true _ ((word_Exact.small_val x).trans (by rw [h1.out]))).mono ?_); rintro e_ w' ⟨rfl, ⟨nd, rfl⟩⟩) | (go_at_call 53; (with_reducible refine (word_small.calls v true _ ((word_Exact.small_val v).trans (by rw [h2.out]))).mono ?_); rintro e_ w' ⟨rfl, ⟨nd, rfl⟩⟩) | (go_at_call 53; (with_reducible refine (word_small.calls y true _ ((word_Exact.small_val y).trans (by rw [h3.out]))).mono ?_); rintro e_ w' ⟨rfl, ⟨nd, rfl⟩⟩) | (go_at_call 54; (with_reducible refine (word_operators.calls _).mono ?_); rintro e_ w2 ⟨g, rfl, hg, hb0, hbl⟩; have hcl : w2.cell? ⟨g, 16, none⟩ = some (Value.func (Fn.func 80) #[] #[]) := (blk_cell hb0 16).trans rfl; have HB2 : Below w.heap.size w w2 := below_step (by repeat (first | exact HB | exact Below.refl _ _ | apply pw_below_drewN | apply below_drew)) hbl; clear hb0 hbl) | (go_at_call 62; (with_reducible refine (word_truth.calls _ _ _ (word_Exact.truth_val _)).mono ?_); rintro e_ w' ⟨rfl, ⟨nd, rfl⟩⟩) | go_in)
  go_ret2
  exact ⟨by first | rfl | (simp; done) | (simp [*]; done) | (rw [hjx (by omega)]; rfl), by repeat (first | exact HB | exact HB2 | exact Below.refl _ _ | apply pw_below_drewN | apply below_drew)⟩

set_option maxHeartbeats 1000000 in
theorem word_Exact.c_y (op a b bits v e : Int) (w : World) (hA0 : word_Apply.f op a b bits = some (v, 0)) (x y : Int) (hx0 : word_norm.f a bits = some x) (hy0 : word_norm.f b bits = some y) (h10 : word_Exact.sm x = true) (h20 : word_Exact.sm v = true) (h30 : word_Exact.sm y = false) (q1 : (op == 18) = false) (q2 : (op == 19) = false) (q3 : (op == 6) = false) (q4 : (op == 7) = false) :
    Calls Try.prog 26 #[.int .i64 op, .int .i64 a, .int .i64 b, .int .i64 bits] w fun e_ w' => e_ = .returned (.tuple #[.bool false, .int .i64 0]) ∧ Below w.heap.size w w' := by
  have hA := Aside0.mk hA0
  clear hA0
  have hx := Aside0.mk hx0
  have hy := Aside0.mk hy0
  clear hx0 hy0
  have h1 := Aside0.mk h10
  have h2 := Aside0.mk h20
  have h3 := Aside0.mk h30
  clear h10 h20 h30
  go_enter Try.func26, Try.ntmps26
  go_wp2_with (first | (go_at_call 13; (with_reducible refine (word_Apply.calls op a b bits v _ _ hA.out).mono ?_); rintro e_ w1 ⟨rfl, HB⟩) | (go_at_call 50; (with_reducible refine (word_norm.calls a bits x _ hx.out).mono ?_); rintro e_ w' ⟨rfl, ⟨nd, rfl⟩⟩) | (go_at_call 50; (with_reducible refine (word_norm.calls b bits y _ hy.out).mono ?_); rintro e_ w' ⟨rfl, ⟨nd, rfl⟩⟩) | (go_at_call 53; (with_reducible refine (word_small.calls x true _ ((word_Exact.small_val x).trans (by rw [h1.out]))).mono ?_); rintro e_ w' ⟨rfl, ⟨nd, rfl⟩⟩) | (go_at_call 53; (with_reducible refine (word_small.calls v true _ ((word_Exact.small_val v).trans (by rw [h2.out]))).mono ?_); rintro e_ w' ⟨rfl, ⟨nd, rfl⟩⟩) | (go_at_call 53; (with_reducible refine (word_small.calls y false _ ((word_Exact.small_val y).trans (by rw [h3.out]))).mono ?_); rintro e_ w' ⟨rfl, ⟨nd, rfl⟩⟩))
  go_ret2
  exact ⟨by first | rfl | (simp; done) | (simp [*]; done) | (rw [hjx (by omega)]; rfl), by repeat (first | exact HB | exact HB2 | exact Below.refl _ _ | apply pw_below_drewN | apply below_drew)⟩

theorem word_Exact.calls (a0 a1 a2 a3 : Int) (r1 : Bool) (r2 : Int) (w : World) (h : word_Exact.f a0 a1 a2 a3 = some (r1, r2)) :
    Calls Try.prog 26 #[.int .i64 a0, .int .i64 a1, .int .i64 a2, .int .i64 a3] w fun e w' => e = .returned (.tuple #[.bool r1, .int .i64 r2]) ∧ Below w.heap.size w w' := by
  unfold word_Exact.f at h
  obtain ⟨⟨v, e⟩, hA, h⟩ := Option.bind_eq_some_iff.mp h
  simp only at h
  by_cases he : e = 0
  rotate_left
  · rw [if_neg he] at h
    obtain ⟨rfl, rfl⟩ := Prod.mk.inj (Option.some.inj h)
    exact word_Exact.c_err a0 a1 a2 a3 v e w hA he
  rw [if_pos he] at h
  subst he
  obtain ⟨x, hx, h⟩ := Option.bind_eq_some_iff.mp h
  obtain ⟨y, hy, h⟩ := Option.bind_eq_some_iff.mp h
  by_cases h1 : word_Exact.sm x = true
  rotate_left
  · rw [if_neg h1] at h
    obtain ⟨rfl, rfl⟩ := Prod.mk.inj (Option.some.inj h)
    exact word_Exact.c_x a0 a1 a2 a3 v 0 w hA x y hx hy (Bool.eq_false_iff.mpr h1)
  rw [if_pos h1] at h
  by_cases h2 : word_Exact.sm v = true
  rotate_left
  · rw [if_neg h2] at h
    obtain ⟨rfl, rfl⟩ := Prod.mk.inj (Option.some.inj h)
    exact word_Exact.c_w a0 a1 a2 a3 v 0 w hA x y hx hy h1 (Bool.eq_false_iff.mpr h2)
  rw [if_pos h2] at h
  by_cases q18 : a0 = 18
  · subst q18
    rw [if_pos rfl] at h
    obtain ⟨rfl, rfl⟩ := Prod.mk.inj (Option.some.inj h)
    exact word_Exact.c_neg a1 a2 a3 v 0 w hA x y hx hy h1 h2
  rw [if_neg q18] at h
  by_cases q19 : a0 = 19
  · subst q19
    rw [if_pos rfl] at h
    obtain ⟨rfl, rfl⟩ := Prod.mk.inj (Option.some.inj h)
    exact word_Exact.c_not a1 a2 a3 v 0 w hA x y hx hy h1 h2
  rw [if_neg q19] at h
  by_cases q6 : a0 = 6
  · subst q6
    rw [if_pos rfl] at h
    by_cases k1 : 0 ≤ x
    rotate_left
    · rw [if_neg (fun z => k1 z.1)] at h
      obtain ⟨rfl, rfl⟩ := Prod.mk.inj (Option.some.inj h)
      exact word_Exact.c_shl_1 a1 a2 a3 v 0 w hA x y hx hy h1 h2 (by omega)
    by_cases k2 : 0 ≤ y
    rotate_left
    · rw [if_neg (fun z => k2 z.2.1)] at h
      obtain ⟨rfl, rfl⟩ := Prod.mk.inj (Option.some.inj h)
      exact word_Exact.c_shl_2 a1 a2 a3 v 0 w hA x y hx hy h1 h2 k1 (by omega)
    by_cases k3 : y ≤ 15
    rotate_left
    · rw [if_neg (fun z => k3 z.2.2)] at h
      obtain ⟨rfl, rfl⟩ := Prod.mk.inj (Option.some.inj h)
      exact word_Exact.c_shl_3 a1 a2 a3 v 0 w hA x y hx hy h1 h2 k1 k2 (by omega)
    rw [if_pos ⟨k1, k2, k3⟩] at h
    obtain ⟨rfl, rfl⟩ := Prod.mk.inj (Option.some.inj h)
    exact word_Exact.c_shl a1 a2 a3 v 0 w hA x y hx hy h1 h2 k1 k2 k3
  rw [if_neg q6] at h
  by_cases q7 : a0 = 7
  · subst q7
    rw [if_pos rfl] at h
    by_cases k1 : 0 ≤ x
    rotate_left
    · rw [if_neg (fun z => k1 z.1)] at h
      obtain ⟨rfl, rfl⟩ := Prod.mk.inj (Option.some.inj h)
      exact word_Exact.c_shr_1 a1 a2 a3 v 0 w hA x y hx hy h1 h2 (by omega)
    by_cases k2 : 0 ≤ y
    rotate_left
    · rw [if_neg (fun z => k2 z.2.1)] at h
      obtain ⟨rfl, rfl⟩ := Prod.mk.inj (Option.some.inj h)
      exact word_Exact.c_shr_2 a1 a2 a3 v 0 w hA x y hx hy h1 h2 k1 (by omega)
    by_cases k3 : y ≤ 15
    rotate_left
    · rw [if_neg (fun z => k3 z.2.2)] at h
      obtain ⟨rfl, rfl⟩ := Prod.mk.inj (Option.some.inj h)
      exact word_Exact.c_shr_3 a1 a2 a3 v 0 w hA x y hx hy h1 h2 k1 k2 (by omega)
    rw [if_pos ⟨k1, k2, k3⟩] at h
    obtain ⟨rfl, rfl⟩ := Prod.mk.inj (Option.some.inj h)
    exact word_Exact.c_shr a1 a2 a3 v 0 w hA x y hx hy h1 h2 k1 k2 k3
  rw [if_neg q7] at h
  by_cases h3 : word_Exact.sm y = true
  rotate_left
  · rw [if_neg h3] at h
    obtain ⟨rfl, rfl⟩ := Prod.mk.inj (Option.some.inj h)
    exact word_Exact.c_y a0 a1 a2 a3 v 0 w hA x y hx hy h1 h2 (Bool.eq_false_iff.mpr h3) (beq_eq_false_iff_ne.mpr q18) (beq_eq_false_iff_ne.mpr q19) (beq_eq_false_iff_ne.mpr q6) (beq_eq_false_iff_ne.mpr q7)
  rw [if_pos h3] at h
  obtain ⟨z, hz, h⟩ := Option.bind_eq_some_iff.mp h
  obtain ⟨rfl, rfl⟩ := Prod.mk.inj (Option.some.inj h)
  unfold word_Exact.opv at hz
  by_cases q1 : a0 = 1
  · subst q1
    rw [if_pos rfl] at hz
    obtain rfl := Option.some.inj hz
    exact word_Exact.c_o1 a1 a2 a3 v 0 w hA x y hx hy h1 h2 h3
  rw [if_neg q1] at hz
  by_cases q2 : a0 = 2
  · subst q2
    rw [if_pos rfl] at hz
    by_cases c : y = 0
    · rw [if_pos c] at hz; exact absurd hz (by simp)
    rw [if_neg c] at hz
    obtain rfl := Option.some.inj hz
    exact word_Exact.c_o2 a1 a2 a3 v 0 w hA x y hx hy h1 h2 h3 c
  rw [if_neg q2] at hz
  by_cases q3 : a0 = 3
  · subst q3
    rw [if_pos rfl] at hz
    by_cases c : y = 0
    · rw [if_pos c] at hz; exact absurd hz (by simp)
    rw [if_neg c] at hz
    obtain rfl := Option.some.inj hz
    exact word_Exact.c_o3 a1 a2 a3 v 0 w hA x y hx hy h1 h2 h3 c
  rw [if_neg q3] at hz
  by_cases q4 : a0 = 4
  · subst q4
    rw [if_pos rfl] at hz
    obtain rfl := Option.some.inj hz
    exact word_Exact.c_o4 a1 a2 a3 v 0 w hA x y hx hy h1 h2 h3
  rw [if_neg q4] at hz
  by_cases q5 : a0 = 5
  · subst q5
    rw [if_pos rfl] at hz
    obtain rfl := Option.some.inj hz
    exact word_Exact.c_o5 a1 a2 a3 v 0 w hA x y hx hy h1 h2 h3
  rw [if_neg q5] at hz
  by_cases q8 : a0 = 8
  · subst q8
    rw [if_pos rfl] at hz
    obtain rfl := Option.some.inj hz
    exact word_Exact.c_o8 a1 a2 a3 v 0 w hA x y hx hy h1 h2 h3
  rw [if_neg q8] at hz
  by_cases q9 : a0 = 9
  · subst q9
    rw [if_pos rfl] at hz
    obtain rfl := Option.some.inj hz
    exact word_Exact.c_o9 a1 a2 a3 v 0 w hA x y hx hy h1 h2 h3
  rw [if_neg q9] at hz
  by_cases q10 : a0 = 10
  · subst q10
    rw [if_pos rfl] at hz
    obtain rfl := Option.some.inj hz
    exact word_Exact.c_o10 a1 a2 a3 v 0 w hA x y hx hy h1 h2 h3
  rw [if_neg q10] at hz
  by_cases q11 : a0 = 11
  · subst q11
    rw [if_pos rfl] at hz
    obtain rfl := Option.some.inj hz
    exact word_Exact.c_o11 a1 a2 a3 v 0 w hA x y hx hy h1 h2 h3
  rw [if_neg q11] at hz
  by_cases q12 : a0 = 12
  · subst q12
    rw [if_pos rfl] at hz
    obtain rfl := Option.some.inj hz
    exact word_Exact.c_o12 a1 a2 a3 v 0 w hA x y hx hy h1 h2 h3
  rw [if_neg q12] at hz
  by_cases q13 : a0 = 13
  · subst q13
    rw [if_pos rfl] at hz
    obtain rfl := Option.some.inj hz
    exact word_Exact.c_o13 a1 a2 a3 v 0 w hA x y hx hy h1 h2 h3
  rw [if_neg q13] at hz
  by_cases q14 : a0 = 14
  · subst q14
    rw [if_pos rfl] at hz
    obtain rfl := Option.some.inj hz
    exact word_Exact.c_o14 a1 a2 a3 v 0 w hA x y hx hy h1 h2 h3
  rw [if_neg q14] at hz
  by_cases q15 : a0 = 15
  · subst q15
    rw [if_pos rfl] at hz
    obtain rfl := Option.some.inj hz
    exact word_Exact.c_o15 a1 a2 a3 v 0 w hA x y hx hy h1 h2 h3
  rw [if_neg q15] at hz
  by_cases q16 : a0 = 16
  · subst q16
    rw [if_pos rfl] at hz
    obtain rfl := Option.some.inj hz
    exact word_Exact.c_o16 a1 a2 a3 v 0 w hA x y hx hy h1 h2 h3
  rw [if_neg q16] at hz
  by_cases q17 : a0 = 17
  · subst q17
    rw [if_pos rfl] at hz
    obtain rfl := Option.some.inj hz
    exact word_Exact.c_o17 a1 a2 a3 v 0 w hA x y hx hy h1 h2 h3
  rw [if_neg q17] at hz
  exact absurd hz (by simp)


end Go.Proofs.Ythllfmbdapdogaa.PWord
