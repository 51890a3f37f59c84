import Derived.Test.YtkmgbnklfnjfjaaRW
/-! The specification's kernel: find, device, there, without, CopyInts. -/
namespace Go.Proofs.Ytkmgbnklfnjfjaa.Ker
open Go.RowKit Go.Maps

/-- The place of a number in a list, or -1. -/
def posF (l : List Int) (i : Int) : Int := if i ∈ l then (l.idxOf i : Int) else -1
theorem posF_in {l : List Int} {i : Int} (h : i ∈ l) : ∃ n : Nat, posF l i = n ∧ l[n]? = some i ∧ n < l.length := by
  have hl := List.idxOf_lt_length_of_mem h
  exact ⟨l.idxOf i, if_pos h, by rw [List.getElem?_eq_getElem hl, List.getElem_idxOf hl], hl⟩
theorem posF_out {l : List Int} {i : Int} (h : i ∉ l) : posF l i = -1 := if_neg h

set_option maxHeartbeats 400000 in
set_option maxRecDepth 100000 in
theorem rfind (B xb : Nat) (h : RG) (a : A) (w : World) (r : RRep B xb h a w) (nd : a.tids.Nodup) (hl : a.tids.length ≤ 1000) (i : Int) :
    Calls Try.prog 62 #[ptr xb, .int .i64 i] w fun e w' => e = .returned (.int .i64 (posF a.tids i)) ∧ w = w' := by
  obtain ⟨ta, tc, htv⟩ := own_form r.trow
  have k0 : w.cell? ⟨xb, 0, none⟩ = some (.slice ta a.tids.length tc) := by rw [cell_of r.blk]; simp [rcells, htv]
  have HTV := Lib.hid htv
  have R := Lib.hid r
  have ND := Lib.hid nd
  clear htv r nd
  go_enter Try.func62, Try.ntmps62
  go_wp2
  go_loop [5] (fun t => ∃ n : Nat, n ≤ a.tids.length ∧ t = .int .i64 n ∧ ∀ k, k < n → a.tids[k]? ≠ some i) (fun t => a.tids.length - (intOf t).toNat)
  case atStart => exact ⟨0, Nat.zero_le _, rfl, fun k hk => absurd hk (by omega)⟩
  case round =>
    obtain ⟨n, hn, rfl, hne⟩ := hrel
    have HNE := Lib.hid hne
    clear hne
    by_cases hlt : n < a.tids.length
    · have hd : decide ((n : Int) < (a.tids.length : Int)) = true := by simpa using hlt
      obtain ⟨x, hx⟩ : ∃ x, a.tids[n]? = some x := ⟨_, List.getElem?_eq_getElem hlt⟩
      obtain ⟨g, c, hv, _, hc⟩ := row_cells (f := rtc a h.qv) (sz := 7) (fun _ => rfl) R.out.trow hx
      rw [HTV.out] at hv
      simp only [Value.slice.injEq] at hv
      obtain ⟨rfl, -, rfl⟩ := hv
      have q0 : w.cell? ⟨g, n * 7, none⟩ = some (.int .i64 x) := hc 0 (by omega)
      have HX := Lib.hid hx
      clear hc hx
      by_cases he : x = i
      · have hb : (x == i) = true := by simp [he]
        have HE := Lib.hid he
        clear he
        go_wp2
        go_ret
        refine ⟨?_, rfl⟩
        obtain ⟨m, hm, hm2, _⟩ := posF_in (l := a.tids) (i := i) (HE.out ▸ List.mem_of_getElem? HX.out)
        have h3 : a.tids[n]? = some i := HE.out ▸ HX.out
        have hnm : n = m := (List.getElem?_inj hlt ND.out).1 (h3.trans hm2.symm)
        rw [hm, hnm]
        rfl
      · have hb : (x == i) = false := by simp [he]
        have HE := Lib.hid he
        clear he
        go_wp2
        go_round
        case rel =>
          refine ⟨n + 1, by omega, by go_num, fun k hk => ?_⟩
          by_cases hkn : k = n
          · subst hkn
            rw [HX.out]
            exact fun e => HE.out (Option.some.inj e)
          · exact HNE.out k (by omega)
        case measure => simp [intOf]; omega
    · have hnl : n = a.tids.length := by omega
      subst hnl
      have hd : decide ((a.tids.length : Int) < (a.tids.length : Int)) = false := by simp
      go_wp2
      go_ret
      refine ⟨?_, rfl⟩
      rw [posF_out (fun hm => by
        obtain ⟨k, hk, hkx⟩ := List.getElem_of_mem hm
        exact HNE.out k hk (by rw [List.getElem?_eq_getElem hk, hkx]))]
      rfl
theorem devs_iff (i : Int) : i ∈ devs ↔ i ≤ -1 ∧ -5 ≤ i := by simp [devs]; omega
set_option maxHeartbeats 400000 in
theorem rdevice (w : World) (i : Int) : Calls Try.prog 67 #[.int .i64 i] w fun e w' => e = .returned (.bool (decide (i ∈ devs))) ∧ w = w' := by
  by_cases h1 : i ≤ -1
  · by_cases h2 : -5 ≤ i
    · have e : decide (i ∈ devs) = true := by rw [decide_eq_true_iff, devs_iff]; exact ⟨h1, h2⟩
      rw [e]
      have d1 : decide (i ≤ -1) = true := by simp; omega
      have d2 : decide (-5 ≤ i) = true := by simp; omega
      go_enter Try.func67, Try.ntmps67
      go_wp2
      go_ret
      exact ⟨rfl, rfl⟩
    · have e : decide (i ∈ devs) = false := by rw [decide_eq_false_iff_not, devs_iff]; exact fun hh => h2 hh.2
      rw [e]
      have d1 : decide (i ≤ -1) = true := by simp; omega
      have d2 : decide (-5 ≤ i) = false := by simp; omega
      go_enter Try.func67, Try.ntmps67
      go_wp2
      go_ret
      exact ⟨rfl, rfl⟩
  · have e : decide (i ∈ devs) = false := by rw [decide_eq_false_iff_not, devs_iff]; exact fun hh => h1 hh.1
    rw [e]
    have d1 : decide (i ≤ -1) = false := by simp; omega
    go_enter Try.func67, Try.ntmps67
    go_wp2
    go_ret
    exact ⟨rfl, rfl⟩

theorem wints {w : World} {B : Nat} {v : Value} {xs : List Int} (h : w.ownsRow B 3 1 v xs.length (xs.map fun p => .int .i64 p)) : intsAt w v xs := ⟨B, h⟩
set_option maxHeartbeats 1000000 in
set_option maxRecDepth 100000 in
theorem rwithout (w : World) (v : Value) (xs : List Int) (x : Int) (h : intsAt w v xs) (hn : xs.length ≤ 100000) :
    Calls Try.prog 89 #[v, .int .i64 x] w fun e w' => ∃ v', e = .returned v' ∧ Below w.heap.size w w' ∧ w'.ownsRow w.heap.size 3 1 v' (xs.filter fun y => y != x).length ((xs.filter fun y => y != x).map fun p => .int .i64 p) := by
  obtain ⟨i0, hi, hz0, hz1, hz2⟩ := info_parts info3
  obtain ⟨va, vc, rfl, hc⟩ := h.form
  have HC := Lib.hid hc
  clear h hc
  go_enter Try.func89, Try.ntmps89
  go_wp2_with fail
  go_loopw [5, 6] (fun u i wr => ∃ (j : Nat) (l : List Int), j ≤ xs.length ∧ i = .int .i64 j ∧ l = (xs.take j).filter (fun y => y != x) ∧ Below w.heap.size w wr ∧ wr.ownsRow w.heap.size 3 1 u l.length (l.map fun p => .int .i64 p)) (fun _ i _ => xs.length - (intOf i).toNat)
  case atStart => exact ⟨0, [], Nat.zero_le _, rfl, rfl, Below.refl _ _, owns_none⟩
  case round =>
    obtain ⟨j, l, hj, rfl, hl, hb, ho⟩ := hrel
    obtain ⟨ua, uc, rfl⟩ := own_form ho
    have hll : l.length ≤ 100000 := by
      rw [hl]
      exact Nat.le_trans (List.length_filter_le _ _) (by rw [List.length_take]; omega)
    have HL := Lib.hid hl
    have szr : w.heap.size ≤ wr.heap.size := hb.size
    by_cases hlt : j < xs.length
    · obtain ⟨g, y, rfl, hy, hcell⟩ := HC.out j hlt
      have hcr : wr.cell? ⟨g, j, none⟩ = some (.int .i64 y) := (hb.cell (p := ⟨g, j, none⟩) (cell_lt hcell)).trans hcell
      have hd : decide ((j : Int) < (xs.length : Int)) = true := by simpa using hlt
      have HT := Lib.hid (show xs.take (j + 1) = xs.take j ++ [y] by
        rw [List.getElem?_eq_getElem hlt] at hy
        rw [List.take_succ_eq_append_getElem hlt]
        simp at hy
        rw [hy])
      have HB := Lib.hid hb
      have HO := Lib.hid ho
      clear hy hb ho hl
      by_cases he : y = x
      · have hne : (y != x) = false := by simp [he]
        have HE := Lib.hid hne
        clear he
        go_wp2_with fail
        go_roundw
        case rel =>
          refine ⟨j + 1, l, by omega, by go_num, ?_, HB.out, HO.out⟩
          rw [HT.out, List.filter_append, ← HL.out]
          simp [HE.out]
        case measure => simp [intOf]; omega
      · have hne : (y != x) = true := by simp [he]
        have HE := Lib.hid hne
        clear he
        go_wp2_with (at_builtin; refine wpList_append_own_at _ rfl _ _ 23 rfl w.heap.size 3 i0 (.int .i64 0) 1 8 Try.underlying23 hi hz0 hz1 hz2 rfl (by decide) (.slice ua l.length uc) l.length _ rfl (HO.out.alloc _) ⟨wr.heap.size, 0, none⟩ 1 1 [.int .i64 y] rfl rfl (cell_one_new _ _ _) (by simp [Value.oneCell']) (by unfold maxLen; omega) (by omega) (by simp; omega) ?_; intro v4 w4 ho4 hg4 hnil4 hloc4; have R4 := Lib.hid ho4; have B4 := Lib.hid (HB.out.trans ((Below.refl _ _).grown ((World.grownBy_alloc _ _ _).trans hg4) szr (fun k hk => (own_block HO.out hk).1))); clear ho4 hg4 hnil4 hloc4)
        go_roundw
        case rel =>
          refine ⟨j + 1, l ++ [y], by omega, by go_num, ?_, B4.out, by simpa using R4.out⟩
          rw [HT.out, List.filter_append, ← HL.out]
          simp [HE.out]
        case measure => simp [intOf]; omega
    · have hjn : j = xs.length := by omega
      subst hjn
      rw [List.take_length] at hl
      have hd : decide ((xs.length : Int) < (xs.length : Int)) = false := by simp
      have HB := Lib.hid hb
      have HO := Lib.hid ho
      have HL2 := Lib.hid hl
      clear hb ho hl
      go_wp2_with fail
      go_ret
      exact ⟨_, rfl, HB.out, by rw [← HL2.out]; exact HO.out⟩
set_option maxHeartbeats 1000000 in
set_option maxRecDepth 100000 in
theorem rcopy (w : World) (v : Value) (xs : List Int) (h : intsAt w v xs) (hn : xs.length ≤ 100000) :
    Calls Try.prog 68 #[v] w fun e w' => ∃ v', e = .returned v' ∧ Below w.heap.size w w' ∧ w'.ownsRow w.heap.size 3 1 v' xs.length (xs.map fun p => .int .i64 p) := by
  obtain ⟨i0, hi, hz0, hz1, hz2⟩ := info_parts info3
  obtain ⟨B, hown⟩ := h
  obtain ⟨va, vc, rfl⟩ := own_form hown
  have hr : Reads w w.heap.size 1 va xs.length (xs.map fun p => .int .i64 p) := Reads.of_own hown
  have HR := Lib.hid hr
  clear hown hr
  go_enter Try.func68, Try.ntmps68
  go_wp2_with (at_builtin; refine wpList_append_any _ rfl _ _ 23 rfl w.heap.size 3 i0 (.int .i64 0) 1 8 Try.underlying23 hi hz0 hz1 hz2 rfl (by decide) (.slice (some ⟨w.heap.size, 0, none⟩) 0 0) 0 [] rfl ⟨rfl, .inr ⟨w.heap.size, 0, #[], rfl, Nat.le_refl _, alloc_new w _, Nat.le_refl _, by decide, rfl, rfl⟩⟩ w.heap.size va xs.length vc (xs.map fun p => .int .i64 p) rfl (HR.out.alloc (Nat.le_refl _) _) (by intro u hu; obtain ⟨p, _, rfl⟩ := List.mem_map.1 hu; rfl) (by unfold maxLen; omega) (by omega) (by simp) ?_; intro v4 w4 ho4 hg4 hloc4; have R4 := Lib.hid ho4; have B4 := Lib.hid ((Below.refl w.heap.size w).grown ((World.grownBy_alloc _ _ _).trans hg4) (Nat.le_refl _) (fun k hk => by simp [Value.ownBlock] at hk; omega)); clear ho4 hg4 hloc4)
  go_ret
  exact ⟨_, rfl, B4.out, by simpa using R4.out⟩
end Go.Proofs.Ytkmgbnklfnjfjaa.Ker
