import Derived.Test.YtkmgbnklfnjfjaaLA
/-! Contracts: call, awake. -/
namespace Go.Proofs.Ytkmgbnklfnjfjaa.Ker
open Go.RowKit Go.Maps

theorem info38 : (Try.prog.info? 38).map (fun i => i.size) = some 5 := by kernel_rfl
theorem res23 (w : World) (b : Nat) (cs : Array Value) (tmps : Array Value) (hb : w.heap[b]? = some (.cells cs 38 (0, 0))) (hs : cs.size = 5) (h4 : tmps.getD 6 undef = ptr b) :
    (results Try.f23 tmps).run Try.prog w = .ok (.agg cs) w := by
  have h : Try.f23.results = #[.cell 6 38] := rfl
  have h1 : (asAddr (ptr b)).run Try.prog w = .ok ⟨b, 0, none⟩ w := rfl
  have h2 := run_loadVar_row (P := Try.prog) w b 38 38 cs (0, 0) _ hb Try.underlying38 rfl (by rw [info38, hs])
  have h5 : tmps[6]?.getD undef = ptr b := by simpa using h4
  simp only [results, h]
  simp [Sem.run_bind, Result.andThen, h5, h1, h2]
set_option maxHeartbeats 1000000 in
set_option maxRecDepth 100000 in
theorem call_any (w : World) (d x y : Int) :
    Calls Try.prog 23 #[.int .i64 d, .int .i64 x, .int .i64 y] w fun e w' => e = .returned (.agg #[.int .i64 d, .int .i64 x, .int .i64 y, .int .i64 0, .int .i64 0]) ∧ Below w.heap.size w w' := by
  go_enter Try.func23, Try.ntmps23
  go_wp2
  exact bodyPost_ret (res23 _ w.heap.size _ _ (alloc_new w _) rfl rfl) rfl ⟨rfl, (Below.refl _ _).alloc (Nat.le_refl _) _⟩
theorem ints_below {w w' : World} {v : Value} {xs : List Int} (h : intsAt w v xs) (hb : Below w.heap.size w w') : intsAt w' v xs := by
  obtain ⟨B, h⟩ := h
  exact ⟨B, below_own h hb⟩
def rows6 : Array Value := #[.int .i64 1, .int .i64 1, .int .i64 5, .int .i64 0, .int .i64 0, .int .i64 1, .int .i64 2, .int .i64 9, .int .i64 0, .int .i64 0, .int .i64 4, .int .i64 0, .int .i64 0, .int .i64 0, .int .i64 0, .int .i64 11, .int .i64 7, .int .i64 0, .int .i64 0, .int .i64 0, .int .i64 3, .int .i64 1, .int .i64 2, .int .i64 0, .int .i64 0, .int .i64 4, .int .i64 0, .int .i64 0, .int .i64 0, .int .i64 0]
theorem calls6 (w : World) : callsAt (w.alloc (.cells rows6 38)) (.slice (some ⟨w.heap.size, 0, none⟩) 6 6) [(1, 1, 5), (1, 2, 9), (4, 0, 0), (11, 7, 0), (3, 1, 2), (4, 0, 0)] := by
  refine ⟨_, _, rfl, fun j hj => ?_⟩
  have hj6 : j < 6 := hj
  have hcase : j = 0 ∨ j = 1 ∨ j = 2 ∨ j = 3 ∨ j = 4 ∨ j = 5 := by omega
  have hn := alloc_new w (.cells rows6 38)
  rcases hcase with rfl | rfl | rfl | rfl | rfl | rfl <;> exact ⟨w.heap.size, 0, _, 0, 0, rfl, by simp, rfl, (cell_fr hn _).trans rfl, (cell_fr hn _).trans rfl, (cell_fr hn _).trans rfl, (cell_fr hn _).trans rfl, (cell_fr hn _).trans rfl⟩
theorem play6 (w : World) : Calls Try.prog 11 #[.slice (some ⟨w.heap.size, 0, none⟩) 6 6] (w.alloc (.cells rows6 38)) fun e w' => ∃ v1 v2, e = .returned (.tuple #[v1, v2, .int .i64 0]) ∧ Below w.heap.size w w' ∧ intsAt w' v1 [0, 0, 0, 1, 0, 1] ∧ intsAt w' v2 [1, 2, 1, 1, 2, 2] := by
  refine (play_any _ _ _ (calls6 w) (by decide)).mono ?_
  rintro e w' ⟨v1, v2, rfl, hb, h1, h2⟩
  rw [awake_plain] at h1 h2
  exact ⟨v1, v2, rfl, ((Below.refl w.heap.size w).alloc (Nat.le_refl _) _).trans (hb.mono (by simp)), h1, h2⟩
theorem eq6 (w : World) (v : Value) (xs : List Int) (h : intsAt w v xs) (hx : xs.length ≤ 100) (a b c d e f : Int) :
    Calls Try.prog 13 #[v, .slice (some ⟨w.heap.size, 0, none⟩) 6 6] (w.alloc (.cells #[.int .i64 a, .int .i64 b, .int .i64 c, .int .i64 d, .int .i64 e, .int .i64 f] 3)) fun en w' => en = .returned (.bool (decide (xs = [a, b, c, d, e, f]))) ∧ Below w.heap.size w w' := by
  have hb : Below w.heap.size w (w.alloc (.cells #[.int .i64 a, .int .i64 b, .int .i64 c, .int .i64 d, .int .i64 e, .int .i64 f] 3)) := (Below.refl _ _).alloc (Nat.le_refl _) _
  have h2 : intsAt (w.alloc (.cells #[.int .i64 a, .int .i64 b, .int .i64 c, .int .i64 d, .int .i64 e, .int .i64 f] 3)) (.slice (some ⟨w.heap.size, 0, none⟩) 6 6) [a, b, c, d, e, f] :=
    ⟨0, rfl, .inr ⟨w.heap.size, 6, _, rfl, Nat.zero_le _, alloc_new w _, Nat.le_refl _, by decide, rfl, rfl⟩⟩
  refine (eq_ints _ _ _ _ _ (ints_below h hb) h2 (by omega) (by show 6 ≤ 100000; decide)).mono ?_
  rintro en w' ⟨rfl, n, rfl⟩
  exact ⟨rfl, below_drewN hb n⟩

set_option maxHeartbeats 1000000 in
set_option maxRecDepth 100000 in
theorem awake_any (w : World) : Calls Try.prog 16 #[] w fun e w' => e = .returned (.bool true) ∧ Below w.heap.size w w' := by
  have BW := Lib.hid (Below.refl w.heap.size w)
  go_enter Try.func16, Try.ntmps16
  go_wp2_with (first | (go_at_call 23; (with_reducible refine (call_any _ _ _ _).mono ?_); rintro e w' ⟨rfl, hb⟩; have BW := Lib.hid (BW.out.trans (hb.mono BW.out.size)); clear hb) | (go_at_call 11; (refine (play6 _).mono ?_); rintro e w' ⟨v1, v2, rfl, hb, h1, h2⟩; have BW := Lib.hid (BW.out.trans (hb.mono BW.out.size)); have H1 := Lib.hid h1; have H2 := Lib.hid h2; clear hb h1 h2) | (go_at_call 13; (refine (eq6 _ _ _ H1.out (by decide) _ _ _ _ _ _).mono ?_); rintro e w' ⟨rfl, hb⟩; have BW := Lib.hid (BW.out.trans (hb.mono BW.out.size)); (try have H1 := Lib.hid (ints_below H2.out hb)); clear hb))
  go_ret
  exact ⟨rfl, BW.out⟩
end Go.Proofs.Ytkmgbnklfnjfjaa.Ker
