import Derived.Test.YtkmgbnklfnjfjaaLB
/-! Nil kernels tell nothing: contracts; KernelNil (f10). -/
namespace Go.Proofs.Ytkmgbnklfnjfjaa.Ker
open Go.RowKit Go.Maps

set_option maxHeartbeats 400000 in
theorem nil_run (w : World) : Calls Try.prog 18 #[.pointer none] w fun e w' => e = .returned (.int .i64 0) ∧ w' = w := by
  go_enter Try.func18, Try.ntmps18
  go_wp2
  go_ret
  exact ⟨rfl, rfl⟩
set_option maxHeartbeats 400000 in
theorem nil_do (w : World) (d x y c e : Int) : Calls Try.prog 19 #[.pointer none, .agg #[.int .i64 d, .int .i64 x, .int .i64 y, .int .i64 c, .int .i64 e]] w fun e w' => e = .returned (.tuple #[.int .i64 0, .int .i64 3]) ∧ Below w.heap.size w w' := by
  go_enter Try.func19, Try.ntmps19
  go_wp2
  go_ret2
  exact ⟨rfl, (Below.refl _ _).alloc (Nat.le_refl _) _⟩
set_option maxHeartbeats 400000 in
theorem nil_queue (w : World) (i : Int) : Calls Try.prog 21 #[.pointer none, .int .i64 i] w fun e w' => e = .returned (.tuple #[.slice none 0 0, .int .i64 3]) ∧ w' = w := by
  go_enter Try.func21, Try.ntmps21
  go_wp2
  go_ret2
  exact ⟨rfl, rfl⟩
set_option maxHeartbeats 400000 in
theorem nil_tasks (w : World) : Calls Try.prog 24 #[.pointer none] w fun e w' => e = .returned (.slice none 0 0) ∧ w' = w := by
  go_enter Try.func24, Try.ntmps24
  go_wp2
  go_ret
  exact ⟨rfl, rfl⟩
set_option maxHeartbeats 400000 in
theorem nil_packet (w : World) (i : Int) : Calls Try.prog 20 #[.pointer none, .int .i64 i] w fun e w' => e = .returned (.tuple #[pagg 0 ⟨0, 0, 0, 0, 0, 0⟩, .int .i64 3]) ∧ Below w.heap.size w w' := by
  go_enter Try.func20, Try.ntmps20
  go_wp2
  exact bodyPost_ret (res20 _ w.heap.size _ _ _ (alloc_new w _) rfl rfl rfl) rfl ⟨rfl, (Below.refl _ _).alloc (Nat.le_refl _) _⟩

set_option maxHeartbeats 2000000 in
set_option maxRecDepth 100000 in
theorem nil_packet' (w : World) (i : Int) : Calls Try.prog 20 #[.pointer none, .int .i64 i] w fun e w' => e = .returned (.tuple #[.agg #[.int .i64 0, .int .i64 0, .int .i64 0, .int .i64 0, .int .i64 0, .int .i64 0, .int .i64 0], .int .i64 3]) ∧ Below w.heap.size w w' := nil_packet w i
set_option maxHeartbeats 2000000 in
set_option maxRecDepth 100000 in
theorem nil_any (w : World) (d x y c e i : Int) : Calls Try.prog 10 #[.agg #[.int .i64 d, .int .i64 x, .int .i64 y, .int .i64 c, .int .i64 e], .int .i64 i] w fun en w' => en = .returned (.bool true) ∧ Below w.heap.size w w' := by
  go_enter Try.func10, Try.ntmps10
  go_wp2_with (first | (go_at_call 19; (with_reducible refine (nil_do _ _ _ _ _ _).mono ?_); rintro en w' ⟨rfl, hb⟩; have BW := Lib.hid (((Below.refl _ _).alloc (Nat.le_refl _) _).trans (hb.mono (by simp))); clear hb) | (go_at_call 20; (with_reducible refine (nil_packet' _ _).mono ?_); rintro en w2 ⟨rfl, hb⟩; have BW := Lib.hid (BW.out.trans (hb.mono BW.out.size)); clear hb) | (go_at_call 21; (with_reducible refine (nil_queue _ _).mono ?_); rintro en w3 ⟨rfl, rfl⟩) | (go_at_call 24; (with_reducible refine (nil_tasks _).mono ?_); rintro en w3 ⟨rfl, rfl⟩) | (go_at_call 18; (with_reducible refine (nil_run _).mono ?_); rintro en w3 ⟨rfl, rfl⟩) | (go_at_call 16; (with_reducible refine (awake_any _).mono ?_); rintro e w4 ⟨rfl, hb⟩; have BW := Lib.hid (BW.out.trans ((((Below.refl _ _).alloc (Nat.le_refl _) _).trans (hb.mono (by simp))).mono BW.out.size)); clear hb))
  go_ret
  exact ⟨rfl, BW.out⟩
end Go.Proofs.Ytkmgbnklfnjfjaa.Ker
