import Derived.Test.YtkdnkjjnmadhgaaAA
set_option linter.unusedVariables false
set_option linter.unusedSimpArgs false
/-! Clones; what a request is answered. -/
namespace Go.Proofs.Ytkdnkjjnmadhgaa.Dev
open Go.RowKit Go.Maps

theorem info5 : (Try.prog.info? 5).map (fun i => (i.zero, i.size, i.bytes)) = some (some (.int .u8 0), 1, 1) := by kernel_rfl
theorem info3 : (Try.prog.info? 3).map (fun i => (i.zero, i.size, i.bytes)) = some (some (.int .i64 0), 1, 8) := by kernel_rfl
theorem info39 : (Try.prog.info? 39).map (fun i => (i.zero, i.size, i.bytes)) = some (some (.slice none 0 0), 1, 24) := by kernel_rfl
theorem empty_own (w : World) (e sz : Nat) : (w.alloc (.cells #[] e)).ownsRow w.heap.size e sz (.slice (some ⟨w.heap.size, 0, none⟩) 0 0) 0 [] :=
  ⟨by simp, .inr ⟨w.heap.size, 0, #[], rfl, Nat.le_refl _, alloc_new w _, Nat.le_refl _, by simp [maxLen], by simp, by simp⟩⟩
theorem reads_zero {w : World} {B sz n : Nat} {A : Option Addr} {xs : List Value} (h : Reads w B sz A n xs) (hn : n = 0) : xs = [] := List.eq_nil_of_length_eq_zero (by rw [h.1, hn, Nat.zero_mul])

set_option maxHeartbeats 1000000 in
set_option maxRecDepth 100000 in
theorem clone_bytes (w : World) (B : Nat) (A : Option Addr) (n c : Nat) (xs : List Value) (h : Reads w B 1 A n xs) (hB : B ≤ w.heap.size) (h1 : ∀ u ∈ xs, u.oneCell' = true) (hn : n ≤ 1000000) :
    Calls Try.prog 47 #[.slice A n c] w fun e w' => ∃ v', e = .returned v' ∧ Below w.heap.size w w' ∧ w'.ownsRow w.heap.size 5 1 v' n xs := by
  obtain ⟨i0, hi, hz0, hz1, hz2⟩ := info_parts info5
  have q := fun (w : World) => Lib.run_eql_slice_nil (P := Try.prog) w 39 5 A n c 0 0 Try.underlying39
  rcases A with _ | ad
  · have h0 : n = 0 := by
      rcases Nat.eq_zero_or_pos n with h0 | h0
      · exact h0
      · obtain ⟨_, e, _⟩ := h.2 h0; cases e
    have hx := reads_zero h h0
    subst h0
    subst hx
    go_enter Try.func47, Try.ntmps47
    go_wp2
    go_ret
    exact ⟨_, rfl, Below.refl _ _, owns_none⟩
  · have H := Lib.hid h
    have H1 := Lib.hid h1
    clear h h1
    go_enter Try.func47, Try.ntmps47
    go_wp2_with (at_builtin; refine wpList_append_any _ rfl _ _ 39 rfl w.heap.size 5 i0 (.int .u8 0) 1 1 Try.underlying39 hi hz0 hz1 hz2 rfl (by decide) (.slice (some ⟨w.heap.size, 0, none⟩) 0 0) 0 [] rfl (empty_own w 5 1) B (some ad) n c xs rfl (H.out.alloc hB _) H1.out (by unfold maxLen; omega) (by omega) (by simp) ?_; intro v' w1 hown hgrow hloc; have HO := Lib.hid hown; have HG := Lib.hid hgrow; clear hown hgrow hloc)
    go_ret
    exact ⟨_, rfl, ((Below.refl _ _).alloc (Nat.le_refl _) _).grown HG.out (by simp) (fun k hk => by simp [Value.ownBlock] at hk; omega), by simpa using HO.out⟩
set_option maxHeartbeats 1000000 in
set_option maxRecDepth 100000 in
theorem clone_ints (w : World) (B : Nat) (A : Option Addr) (n c : Nat) (xs : List Value) (h : Reads w B 1 A n xs) (hB : B ≤ w.heap.size) (h1 : ∀ u ∈ xs, u.oneCell' = true) (hn : n ≤ 1000000) :
    Calls Try.prog 57 #[.slice A n c] w fun e w' => ∃ v', e = .returned v' ∧ Below w.heap.size w w' ∧ w'.ownsRow w.heap.size 3 1 v' n xs := by
  obtain ⟨i0, hi, hz0, hz1, hz2⟩ := info_parts info3
  have q := fun (w : World) => Lib.run_eql_slice_nil (P := Try.prog) w 24 3 A n c 0 0 Try.underlying24
  rcases A with _ | ad
  · have h0 : n = 0 := by
      rcases Nat.eq_zero_or_pos n with h0 | h0
      · exact h0
      · obtain ⟨_, e, _⟩ := h.2 h0; cases e
    have hx := reads_zero h h0
    subst h0
    subst hx
    go_enter Try.func57, Try.ntmps57
    go_wp2
    go_ret
    exact ⟨_, rfl, Below.refl _ _, owns_none⟩
  · have H := Lib.hid h
    have H1 := Lib.hid h1
    clear h h1
    go_enter Try.func57, Try.ntmps57
    go_wp2_with (at_builtin; refine wpList_append_any _ rfl _ _ 24 rfl w.heap.size 3 i0 (.int .i64 0) 1 8 Try.underlying24 hi hz0 hz1 hz2 rfl (by decide) (.slice (some ⟨w.heap.size, 0, none⟩) 0 0) 0 [] rfl (empty_own w 3 1) B (some ad) n c xs rfl (H.out.alloc hB _) H1.out (by unfold maxLen; omega) (by omega) (by simp) ?_; intro v' w1 hown hgrow hloc; have HO := Lib.hid hown; have HG := Lib.hid hgrow; clear hown hgrow hloc)
    go_ret
    exact ⟨_, rfl, ((Below.refl _ _).alloc (Nat.le_refl _) _).grown HG.out (by simp) (fun k hk => by simp [Value.ownBlock] at hk; omega), by simpa using HO.out⟩
set_option maxHeartbeats 1000000 in
set_option maxRecDepth 100000 in
theorem clone_rows (w : World) (B : Nat) (A : Option Addr) (n c : Nat) (xs : List Value) (h : Reads w B 1 A n xs) (hB : B ≤ w.heap.size) (h1 : ∀ u ∈ xs, u.oneCell' = true) (hn : n ≤ 1000000) :
    Calls Try.prog 48 #[.slice A n c] w fun e w' => ∃ v', e = .returned v' ∧ Below w.heap.size w w' ∧ w'.ownsRow w.heap.size 39 1 v' n xs := by
  obtain ⟨i0, hi, hz0, hz1, hz2⟩ := info_parts info39
  have q := fun (w : World) => Lib.run_eql_slice_nil (P := Try.prog) w 52 39 A n c 0 0 Try.underlying52
  rcases A with _ | ad
  · have h0 : n = 0 := by
      rcases Nat.eq_zero_or_pos n with h0 | h0
      · exact h0
      · obtain ⟨_, e, _⟩ := h.2 h0; cases e
    have hx := reads_zero h h0
    subst h0
    subst hx
    go_enter Try.func48, Try.ntmps48
    go_wp2
    go_ret
    exact ⟨_, rfl, Below.refl _ _, owns_none⟩
  · have H := Lib.hid h
    have H1 := Lib.hid h1
    clear h h1
    go_enter Try.func48, Try.ntmps48
    go_wp2_with (at_builtin; refine wpList_append_any _ rfl _ _ 52 rfl w.heap.size 39 i0 (.slice none 0 0) 1 24 Try.underlying52 hi hz0 hz1 hz2 rfl (by decide) (.slice (some ⟨w.heap.size, 0, none⟩) 0 0) 0 [] rfl (empty_own w 39 1) B (some ad) n c xs rfl (H.out.alloc hB _) H1.out (by unfold maxLen; omega) (by omega) (by simp) ?_; intro v' w1 hown hgrow hloc; have HO := Lib.hid hown; have HG := Lib.hid hgrow; clear hown hgrow hloc)
    go_ret
    exact ⟨_, rfl, ((Below.refl _ _).alloc (Nat.le_refl _) _).grown HG.out (by simp) (fun k hk => by simp [Value.ownBlock] at hk; omega), by simpa using HO.out⟩
end Go.Proofs.Ytkdnkjjnmadhgaa.Dev
