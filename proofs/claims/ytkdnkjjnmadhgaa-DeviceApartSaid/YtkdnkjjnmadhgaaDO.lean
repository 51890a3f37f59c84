import Derived.Test.YtkdnkjjnmadhgaaDN
set_option linter.unusedVariables false
set_option linter.unusedSimpArgs false
/-! A device is built; a bus is made. -/
namespace Go.Proofs.Ytkdnkjjnmadhgaa.Dev
open Go.RowKit Go.Maps Go.Lib

abbrev nilSl : Value := .slice none 0 0
set_option maxRecDepth 100000 in
theorem find_none (w : World) (f : Value) : Calls Try.prog 67 #[nilSl, f] w fun e w' => e = .returned (.int .i64 (-1)) ∧ w' = w := by
  go_enter Try.func67, Try.ntmps67
  go_wp2_with fail
  go_loopw [8] (fun i wr => i = .int .i64 0 ∧ wr = w) (fun _ _ => 0)
  case atStart => exact ⟨rfl, rfl⟩
  case round =>
    obtain ⟨rfl, rfl⟩ := hrel
    go_wp2_with fail
    go_ret
    exact ⟨rfl, rfl⟩
set_option maxRecDepth 100000 in
theorem has_none (w : World) (f : Value) : Calls Try.prog 54 #[nilSl, f] w fun e w' => e = .returned (.bool false) ∧ w' = w := by
  have C := Lib.hid (find_none w f)
  go_enter Try.func54, Try.ntmps54
  go_wp2_with (go_at_call 67; (refine (C.out).mono ?_); rintro e w' ⟨rfl, rfl⟩)
  go_ret
  exact ⟨rfl, rfl⟩
/-- What a device is. -/
abbrev cfg (kind n : Int) : Value := .agg #[.int .i64 kind, .int .i64 n, nilSl, nilSl, nilSl, nilSl]
set_option maxHeartbeats 1000000 in
set_option maxRecDepth 100000 in
theorem build_bad (w : World) (n : Int) (hn : ¬ (16 ≤ n ∧ n ≤ 256)) : Calls Try.prog 35 #[cfg 2 n] w fun e w' => e = .returned .nilIface ∧ Below w.heap.size w w' := by
  have C := Lib.hid (fun (w' : World) (f : Value) => has_none w' f)
  have hb : Below w.heap.size w (w.alloc (.cells #[.int .i64 2, .int .i64 n, nilSl, nilSl, nilSl, nilSl] 54)) := (Below.refl _ _).alloc (Nat.le_refl _) _
  have HB := Lib.hid hb
  clear hb
  by_cases h1 : n < 16
  · have HH := Lib.hid hn
    have d0 : (n == 0) = true ∨ (n == 0) = false := by cases (n == 0) <;> simp
    clear hn
    rcases d0 with d0 | d0
    · have d1 : decide (n < 16) = true := by simpa using h1
      clear h1
      go_enter Try.func35, Try.ntmps35
      go_wp2_with fail
      go_ret
      exact ⟨rfl, HB.out⟩
    · have d1 : decide (n < 16) = true := by simpa using h1
      clear h1
      go_enter Try.func35, Try.ntmps35
      go_wp2_with fail
      go_ret
      exact ⟨rfl, HB.out⟩
  · have h2 : 256 < n := by omega
    have d0 : (n == 0) = false := by simp; omega
    have d1 : decide (n < 16) = false := by simp; omega
    have d2 : decide (256 < n) = true := by simpa using h2
    clear h1 h2 hn
    go_enter Try.func35, Try.ntmps35
    go_wp2_with fail
    go_ret
    exact ⟨rfl, HB.out⟩
set_option maxRecDepth 100000 in
theorem clone_nil (w : World) : Calls Try.prog 57 #[nilSl] w fun e w' => e = .returned nilSl ∧ w' = w := by
  have q := fun (w : World) => Lib.run_eql_slice_nil (P := Try.prog) w 24 3 none 0 0 0 0 Try.underlying24
  go_enter Try.func57, Try.ntmps57
  go_wp2
  go_ret
  exact ⟨rfl, rfl⟩
set_option maxHeartbeats 1000000 in
set_option maxRecDepth 100000 in
theorem build_disk (w : World) (B : Nat) (hB : B ≤ w.heap.size) (n : Nat) (h16 : 16 ≤ n) (hn : n ≤ 256) : Calls Try.prog 35 #[cfg 2 n] w fun e w' => ∃ d m, e = .returned (.iface 81 (ptr d)) ∧ w.heap.size ≤ d ∧ Below w.heap.size w w' ∧ DRep B w' d m ⟨List.replicate n zeros, List.replicate n zeros, [], [], 0, 0⟩ := by
  have C54 := Lib.hid (fun (w' : World) (f : Value) => has_none w' f)
  obtain ⟨W, hW⟩ : ∃ W, W = w.alloc (.cells #[.int .i64 2, .int .i64 n, nilSl, nilSl, nilSl, nilSl] 54) := ⟨_, rfl⟩
  have hb : Below w.heap.size w W := by rw [hW]; exact (Below.refl _ _).alloc (Nat.le_refl _) _
  have d0 : ((n : Int) == 0) = false := by simp; omega
  have d1 : decide ((n : Int) < 16) = false := by simp; omega
  have d2 : decide (256 < (n : Int)) = false := by simp; omega
  go_enter Try.func35, Try.ntmps35
  go_upto_region 10 with (go_at_call 54; (refine (C54.out _ _).mono ?_); rintro e w' ⟨rfl, hw'⟩; subst hw')
  rw [← hW]
  have gb : W.heap[w.heap.size]? = some (.cells #[.int .i64 2, .int .i64 n, nilSl, nilSl, nilSl, nilSl] 54 (0, 0)) := by rw [hW]; exact alloc_new _ _
  have z1 : W.cell? ⟨w.heap.size, 1, none⟩ = some (.int .i64 n) := (cell_of gb 1).trans rfl
  have z2 : W.cell? ⟨w.heap.size, 2, none⟩ = some nilSl := (cell_of gb 2).trans rfl
  have HB := Lib.hid hb
  clear gb hW hb
  have C57 := Lib.hid (fun (w' : World) => clone_nil w')
  have C56 := Lib.hid (new_disk W.drew B n hn (none, 0, 0) [] Held.nil_ (Nat.le_trans hB HB.out.size))
  obtain ⟨C, hCd⟩ : ∃ C : World → Prop, ∀ z, C z ↔ (z.cell? ⟨w.heap.size, 1, none⟩ = some (.int .i64 n) ∧ z.cell? ⟨w.heap.size, 2, none⟩ = some nilSl) := ⟨_, fun _ => Iff.rfl⟩
  have s1 := fun s : {z : World // C z} => ((hCd s.1).1 s.2).1
  have s2 := fun s : {z : World // C z} => ((hCd s.1).1 s.2).2
  have hC0 := (hCd W.drew).2 ⟨z1, z2⟩
  haveI : Nonempty {z : World // C z} := ⟨⟨W.drew, hC0⟩⟩
  refine Mix.wp_region_mix C [4, 5] (by kernel_rfl) (by kernel_rfl) hC0 ?_
  have HCD := Lib.hid hCd
  have HC0 := Lib.hid hC0
  clear hCd hC0
  repeat (refine Mix.mix_still rfl (fun K hK => ?_); go_simp; refine hK _ ?_; clear hK K)
  refine Mix.mix_eff rfl ?_
  go_wp2_with (go_at_call 57; (refine (C57.out _).mono ?_); rintro e w' ⟨rfl, hw'⟩; subst hw')
  refine ⟨HC0.out, ?_⟩
  refine Mix.mix_eff rfl ?_
  go_wp2_with (go_at_call 56; (refine (C56.out).mono ?_); rintro e w' ⟨m, rfl, hb', hd'⟩; have HB' := Lib.hid hb'; have HD' := Lib.hid hd'; clear hb' hd')
  refine ⟨(HCD.out _).2 ⟨(HB'.out.cell (lt_of_cell z1)).trans z1, (HB'.out.cell (lt_of_cell z2)).trans z2⟩, ?_⟩
  repeat (refine Mix.mix_still rfl (fun K hK => ?_); go_simp; refine hK _ ?_; clear hK K)
  refine Mix.mix_nil ?_
  go_wp2
  go_ret
  have hb1 : Below W.heap.size W w' := ⟨HB'.out.os, HB'.out.tape, HB'.out.output, HB'.out.size, HB'.out.block⟩
  exact ⟨_, m, rfl, HB.out.size, HB.out.trans (hb1.mono HB.out.size), HD'.out⟩
end Go.Proofs.Ytkdnkjjnmadhgaa.Dev
