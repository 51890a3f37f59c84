import Derived.Test.YtkmgbnklfnjfjaaRM
/-! The specification's kernel: do, by what it calls. -/
namespace Go.Proofs.Ytkmgbnklfnjfjaa.Ker
open Go.RowKit Go.Maps

set_option maxHeartbeats 2000000 in
set_option maxRecDepth 100000 in
theorem rdo_lo (B xb : Nat) (h : RG) (a : A) (w : World) (r : RRep B xb h a w) (gd : Good a) (x y c3 c4 : Int) (d : Int) (hc : d < 1) :
    Calls Try.prog 37 #[ptr xb, .agg #[.int .i64 d, .int .i64 x, .int .i64 y, .int .i64 c3, .int .i64 c4]] w (LeftR B xb h a w (.tuple #[.int .i64 0, .int .i64 1]) a) := by
  have R := Lib.hid r
  have d1 : decide (d < 1) = true := by simp; omega
  clear r gd hc
  go_enter Try.func37, Try.ntmps37
  go_wp2_with fail
  go_ret2
  exact LeftR.still R.out _ ((Below.refl _ _).alloc (Nat.le_refl _) _)
set_option maxHeartbeats 2000000 in
set_option maxRecDepth 100000 in
theorem rdo_hi (B xb : Nat) (h : RG) (a : A) (w : World) (r : RRep B xb h a w) (gd : Good a) (x y c3 c4 : Int) (d : Int) (hc : ¬ d < 1 ∧ 13 < d) :
    Calls Try.prog 37 #[ptr xb, .agg #[.int .i64 d, .int .i64 x, .int .i64 y, .int .i64 c3, .int .i64 c4]] w (LeftR B xb h a w (.tuple #[.int .i64 0, .int .i64 1]) a) := by
  have R := Lib.hid r
  have d1 : decide (d < 1) = false := by simp; omega
  have d2 : decide (13 < d) = true := by simp; omega
  clear r gd hc
  go_enter Try.func37, Try.ntmps37
  go_wp2_with fail
  go_ret2
  exact LeftR.still R.out _ ((Below.refl _ _).alloc (Nat.le_refl _) _)
set_option maxHeartbeats 2000000 in
set_option maxRecDepth 100000 in
theorem rdo_idle (B xb : Nat) (h : RG) (a : A) (w : World) (r : RRep B xb h a w) (gd : Good a) (x y c3 c4 : Int) (d own : Int) (hown : own = runF a) (h0 : own = 0) (hd : 1 ≤ d ∧ d ≤ 13) (h12 : d ≠ 12) (hc : d ≠ 1 ∨ a.tids ≠ []) :
    Calls Try.prog 37 #[ptr xb, .agg #[.int .i64 d, .int .i64 x, .int .i64 y, .int .i64 c3, .int .i64 c4]] w (LeftR B xb h a w (.tuple #[.int .i64 0, .int .i64 5]) a) := by
  have al : Below w.heap.size w (w.alloc (.cells #[.int .i64 d, .int .i64 x, .int .i64 y, .int .i64 c3, .int .i64 c4] 38)) := (Below.refl _ _).alloc (Nat.le_refl _) _
  have C28 := Lib.hid (show Calls Try.prog 28 #[ptr xb] (w.alloc (.cells #[.int .i64 d, .int .i64 x, .int .i64 y, .int .i64 c3, .int .i64 c4] 38)) fun e w' => e = .returned (.int .i64 own) ∧ Below (w.alloc (.cells #[.int .i64 d, .int .i64 x, .int .i64 y, .int .i64 c3, .int .i64 c4] 38)).heap.size (w.alloc (.cells #[.int .i64 d, .int .i64 x, .int .i64 y, .int .i64 c3, .int .i64 c4] 38)) w' from by rw [hown]; exact rrunning B xb h a _ (r.below al) gd)
  have R := Lib.hid r
  have AL := Lib.hid al
  have d1 : decide (d < 1) = false := by simp; omega
  have d2 : decide (13 < d) = false := by simp; omega
  have d3 : (d == 12) = false := by simp [h12]
  have d4 : (own == 0) = true := by simp [h0]
  obtain ⟨ta, tc, htv⟩ := own_form r.trow
  have HTV := Lib.hid htv
  by_cases hd1 : d = 1
  · have ht := hc.resolve_left (fun hh => hh hd1)
    have d5 : (d == 1) = true := by simp [hd1]
    have hp : 0 < a.tids.length := List.length_pos_iff.2 ht
    have d6 : ((a.tids.length : Int) == 0) = false := by simp; exact ht
    clear r gd hd h12 h0 hc ht hd1 htv al hown
    go_enter Try.func37, Try.ntmps37
    go_wp2_with (go_at_call 28; (with_reducible refine C28.out.mono ?_); rintro e w1 ⟨rfl, hb1⟩; have Y := (hb1.block w.heap.size (by simp)).trans (alloc_new w (.cells #[.int .i64 d, .int .i64 x, .int .i64 y, .int .i64 c3, .int .i64 c4] 38)); have y0 : w1.cell? ⟨w.heap.size, 0, none⟩ = some (.int .i64 d) := (cell_fr Y 0).trans rfl; have y1 : w1.cell? ⟨w.heap.size, 1, none⟩ = some (.int .i64 x) := (cell_fr Y 1).trans rfl; have y2 : w1.cell? ⟨w.heap.size, 2, none⟩ = some (.int .i64 y) := (cell_fr Y 2).trans rfl; have y3 : w1.cell? ⟨w.heap.size, 3, none⟩ = some (.int .i64 c3) := (cell_fr Y 3).trans rfl; have y4 : w1.cell? ⟨w.heap.size, 4, none⟩ = some (.int .i64 c4) := (cell_fr Y 4).trans rfl; have B1 := Lib.hid (AL.out.trans (hb1.mono AL.out.size)); have R1 := Lib.hid (R.out.below B1.out); have k0 := R1.out.k0; rw [HTV.out] at k0; clear hb1 Y)
    go_ret2
    exact LeftR.still R.out _ B1.out
  · have d5 : (d == 1) = false := by simp [hd1]
    clear r gd hd h12 h0 hc hd1 htv al hown
    go_enter Try.func37, Try.ntmps37
    go_wp2_with (go_at_call 28; (with_reducible refine C28.out.mono ?_); rintro e w1 ⟨rfl, hb1⟩; have Y := (hb1.block w.heap.size (by simp)).trans (alloc_new w (.cells #[.int .i64 d, .int .i64 x, .int .i64 y, .int .i64 c3, .int .i64 c4] 38)); have y0 : w1.cell? ⟨w.heap.size, 0, none⟩ = some (.int .i64 d) := (cell_fr Y 0).trans rfl; have y1 : w1.cell? ⟨w.heap.size, 1, none⟩ = some (.int .i64 x) := (cell_fr Y 1).trans rfl; have y2 : w1.cell? ⟨w.heap.size, 2, none⟩ = some (.int .i64 y) := (cell_fr Y 2).trans rfl; have y3 : w1.cell? ⟨w.heap.size, 3, none⟩ = some (.int .i64 c3) := (cell_fr Y 3).trans rfl; have y4 : w1.cell? ⟨w.heap.size, 4, none⟩ = some (.int .i64 c4) := (cell_fr Y 4).trans rfl; have B1 := Lib.hid (AL.out.trans (hb1.mono AL.out.size)); have R1 := Lib.hid (R.out.below B1.out); clear hb1 Y)
    go_ret2
    exact LeftR.still R.out _ B1.out
set_option maxHeartbeats 2000000 in
set_option maxRecDepth 100000 in
theorem rdo_12 (B xb : Nat) (h : RG) (a : A) (w : World) (r : RRep B xb h a w) (gd : Good a) (x y c3 c4 : Int) (own : Int) (hown : own = runF a) (er : Int) (a' : A) (hcc : ∀ w1, RRep B xb h a w1 → Calls Try.prog 56 #[ptr xb, .int .i64 x, .int .i64 y] w1 (LeftR B xb h a w1 (.int .i64 er) a')) :
    Calls Try.prog 37 #[ptr xb, .agg #[.int .i64 12, .int .i64 x, .int .i64 y, .int .i64 c3, .int .i64 c4]] w (LeftR B xb h a w (.tuple #[.int .i64 0, .int .i64 er]) a') := by
  have al : Below w.heap.size w (w.alloc (.cells #[.int .i64 12, .int .i64 x, .int .i64 y, .int .i64 c3, .int .i64 c4] 38)) := (Below.refl _ _).alloc (Nat.le_refl _) _
  have C28 := Lib.hid (show Calls Try.prog 28 #[ptr xb] (w.alloc (.cells #[.int .i64 12, .int .i64 x, .int .i64 y, .int .i64 c3, .int .i64 c4] 38)) fun e w' => e = .returned (.int .i64 own) ∧ Below (w.alloc (.cells #[.int .i64 12, .int .i64 x, .int .i64 y, .int .i64 c3, .int .i64 c4] 38)).heap.size (w.alloc (.cells #[.int .i64 12, .int .i64 x, .int .i64 y, .int .i64 c3, .int .i64 c4] 38)) w' from by rw [hown]; exact rrunning B xb h a _ (r.below al) gd)
  have R := Lib.hid r
  have AL := Lib.hid al
  have CC := Lib.hid hcc
  clear r gd al hown hcc
  go_enter Try.func37, Try.ntmps37
  go_wp2_with (first | (go_at_call 28; (with_reducible refine C28.out.mono ?_); rintro e w1 ⟨rfl, hb1⟩; have Y := (hb1.block w.heap.size (by simp)).trans (alloc_new w (.cells #[.int .i64 12, .int .i64 x, .int .i64 y, .int .i64 c3, .int .i64 c4] 38)); have y0 : w1.cell? ⟨w.heap.size, 0, none⟩ = some (.int .i64 12) := (cell_fr Y 0).trans rfl; have y1 : w1.cell? ⟨w.heap.size, 1, none⟩ = some (.int .i64 x) := (cell_fr Y 1).trans rfl; have y2 : w1.cell? ⟨w.heap.size, 2, none⟩ = some (.int .i64 y) := (cell_fr Y 2).trans rfl; have y3 : w1.cell? ⟨w.heap.size, 3, none⟩ = some (.int .i64 c3) := (cell_fr Y 3).trans rfl; have y4 : w1.cell? ⟨w.heap.size, 4, none⟩ = some (.int .i64 c4) := (cell_fr Y 4).trans rfl; have B1 := Lib.hid (AL.out.trans (hb1.mono AL.out.size)); have R1 := Lib.hid (R.out.below B1.out); clear hb1 Y) | (go_at_call 56; (with_reducible refine (CC.out w1 R1.out).mono ?_); rintro e w2 ⟨rfl, h2, hl2⟩; have HL := Lib.hid hl2; clear hl2))
  go_ret2
  exact ⟨rfl, h2, (Left.refl R.out B1.out).trans HL.out⟩
set_option maxHeartbeats 2000000 in
set_option maxRecDepth 100000 in
theorem rdo_1e (B xb : Nat) (h : RG) (a : A) (w : World) (r : RRep B xb h a w) (gd : Good a) (x y c3 c4 : Int) (own : Int) (hown : own = runF a) (h0 : own = 0) (ht : a.tids = []) (er : Int) (a' : A) (hcc : ∀ w1, RRep B xb h a w1 → Calls Try.prog 57 #[ptr xb, .int .i64 x, .int .i64 y] w1 (LeftR B xb h a w1 (.int .i64 er) a')) :
    Calls Try.prog 37 #[ptr xb, .agg #[.int .i64 1, .int .i64 x, .int .i64 y, .int .i64 c3, .int .i64 c4]] w (LeftR B xb h a w (.tuple #[.int .i64 0, .int .i64 er]) a') := by
  have al : Below w.heap.size w (w.alloc (.cells #[.int .i64 1, .int .i64 x, .int .i64 y, .int .i64 c3, .int .i64 c4] 38)) := (Below.refl _ _).alloc (Nat.le_refl _) _
  have C28 := Lib.hid (show Calls Try.prog 28 #[ptr xb] (w.alloc (.cells #[.int .i64 1, .int .i64 x, .int .i64 y, .int .i64 c3, .int .i64 c4] 38)) fun e w' => e = .returned (.int .i64 own) ∧ Below (w.alloc (.cells #[.int .i64 1, .int .i64 x, .int .i64 y, .int .i64 c3, .int .i64 c4] 38)).heap.size (w.alloc (.cells #[.int .i64 1, .int .i64 x, .int .i64 y, .int .i64 c3, .int .i64 c4] 38)) w' from by rw [hown]; exact rrunning B xb h a _ (r.below al) gd)
  have R := Lib.hid r
  have AL := Lib.hid al
  have CC := Lib.hid hcc
  have d4 : (own == 0) = true := by simp [h0]
  obtain ⟨ta, tc, htv⟩ := own_form r.trow
  rw [ht] at htv
  have HTV := Lib.hid htv
  clear r gd al hown hcc h0 ht htv
  go_enter Try.func37, Try.ntmps37
  go_wp2_with (first | (go_at_call 28; (with_reducible refine C28.out.mono ?_); rintro e w1 ⟨rfl, hb1⟩; have Y := (hb1.block w.heap.size (by simp)).trans (alloc_new w (.cells #[.int .i64 1, .int .i64 x, .int .i64 y, .int .i64 c3, .int .i64 c4] 38)); have y0 : w1.cell? ⟨w.heap.size, 0, none⟩ = some (.int .i64 1) := (cell_fr Y 0).trans rfl; have y1 : w1.cell? ⟨w.heap.size, 1, none⟩ = some (.int .i64 x) := (cell_fr Y 1).trans rfl; have y2 : w1.cell? ⟨w.heap.size, 2, none⟩ = some (.int .i64 y) := (cell_fr Y 2).trans rfl; have y3 : w1.cell? ⟨w.heap.size, 3, none⟩ = some (.int .i64 c3) := (cell_fr Y 3).trans rfl; have y4 : w1.cell? ⟨w.heap.size, 4, none⟩ = some (.int .i64 c4) := (cell_fr Y 4).trans rfl; have B1 := Lib.hid (AL.out.trans (hb1.mono AL.out.size)); have R1 := Lib.hid (R.out.below B1.out); have k0 := R1.out.k0; rw [HTV.out] at k0; clear hb1 Y) | (go_at_call 57; (with_reducible refine (CC.out w1 R1.out).mono ?_); rintro e w2 ⟨rfl, h2, hl2⟩; have HL := Lib.hid hl2; clear hl2))
  go_ret2
  exact ⟨rfl, h2, (Left.refl R.out B1.out).trans HL.out⟩
set_option maxHeartbeats 2000000 in
set_option maxRecDepth 100000 in
theorem rdo_1 (B xb : Nat) (h : RG) (a : A) (w : World) (r : RRep B xb h a w) (gd : Good a) (x y c3 c4 : Int) (own : Int) (hown : own = runF a) (h0 : own ≠ 0) (er : Int) (a' : A) (hcc : ∀ w1, RRep B xb h a w1 → Calls Try.prog 57 #[ptr xb, .int .i64 x, .int .i64 y] w1 (LeftR B xb h a w1 (.int .i64 er) a')) :
    Calls Try.prog 37 #[ptr xb, .agg #[.int .i64 1, .int .i64 x, .int .i64 y, .int .i64 c3, .int .i64 c4]] w (LeftR B xb h a w (.tuple #[.int .i64 0, .int .i64 er]) a') := by
  have al : Below w.heap.size w (w.alloc (.cells #[.int .i64 1, .int .i64 x, .int .i64 y, .int .i64 c3, .int .i64 c4] 38)) := (Below.refl _ _).alloc (Nat.le_refl _) _
  have C28 := Lib.hid (show Calls Try.prog 28 #[ptr xb] (w.alloc (.cells #[.int .i64 1, .int .i64 x, .int .i64 y, .int .i64 c3, .int .i64 c4] 38)) fun e w' => e = .returned (.int .i64 own) ∧ Below (w.alloc (.cells #[.int .i64 1, .int .i64 x, .int .i64 y, .int .i64 c3, .int .i64 c4] 38)).heap.size (w.alloc (.cells #[.int .i64 1, .int .i64 x, .int .i64 y, .int .i64 c3, .int .i64 c4] 38)) w' from by rw [hown]; exact rrunning B xb h a _ (r.below al) gd)
  have R := Lib.hid r
  have AL := Lib.hid al
  have CC := Lib.hid hcc
  have d4 : (own == 0) = false := by simp [h0]
  clear r gd al hown hcc h0
  go_enter Try.func37, Try.ntmps37
  go_wp2_with (first | (go_at_call 28; (with_reducible refine C28.out.mono ?_); rintro e w1 ⟨rfl, hb1⟩; have Y := (hb1.block w.heap.size (by simp)).trans (alloc_new w (.cells #[.int .i64 1, .int .i64 x, .int .i64 y, .int .i64 c3, .int .i64 c4] 38)); have y0 : w1.cell? ⟨w.heap.size, 0, none⟩ = some (.int .i64 1) := (cell_fr Y 0).trans rfl; have y1 : w1.cell? ⟨w.heap.size, 1, none⟩ = some (.int .i64 x) := (cell_fr Y 1).trans rfl; have y2 : w1.cell? ⟨w.heap.size, 2, none⟩ = some (.int .i64 y) := (cell_fr Y 2).trans rfl; have y3 : w1.cell? ⟨w.heap.size, 3, none⟩ = some (.int .i64 c3) := (cell_fr Y 3).trans rfl; have y4 : w1.cell? ⟨w.heap.size, 4, none⟩ = some (.int .i64 c4) := (cell_fr Y 4).trans rfl; have B1 := Lib.hid (AL.out.trans (hb1.mono AL.out.size)); have R1 := Lib.hid (R.out.below B1.out); clear hb1 Y) | (go_at_call 57; (with_reducible refine (CC.out w1 R1.out).mono ?_); rintro e w2 ⟨rfl, h2, hl2⟩; have HL := Lib.hid hl2; clear hl2))
  go_ret2
  exact ⟨rfl, h2, (Left.refl R.out B1.out).trans HL.out⟩
set_option maxHeartbeats 2000000 in
set_option maxRecDepth 100000 in
theorem rdo_2 (B xb : Nat) (h : RG) (a : A) (w : World) (r : RRep B xb h a w) (gd : Good a) (x y c3 c4 : Int) (own : Int) (hown : own = runF a) (h0 : own ≠ 0) (er : Int) (a' : A) (hcc : ∀ w1, RRep B xb h a w1 → Calls Try.prog 58 #[ptr xb, .int .i64 x] w1 (LeftR B xb h a w1 (.int .i64 er) a')) :
    Calls Try.prog 37 #[ptr xb, .agg #[.int .i64 2, .int .i64 x, .int .i64 y, .int .i64 c3, .int .i64 c4]] w (LeftR B xb h a w (.tuple #[.int .i64 0, .int .i64 er]) a') := by
  have al : Below w.heap.size w (w.alloc (.cells #[.int .i64 2, .int .i64 x, .int .i64 y, .int .i64 c3, .int .i64 c4] 38)) := (Below.refl _ _).alloc (Nat.le_refl _) _
  have C28 := Lib.hid (show Calls Try.prog 28 #[ptr xb] (w.alloc (.cells #[.int .i64 2, .int .i64 x, .int .i64 y, .int .i64 c3, .int .i64 c4] 38)) fun e w' => e = .returned (.int .i64 own) ∧ Below (w.alloc (.cells #[.int .i64 2, .int .i64 x, .int .i64 y, .int .i64 c3, .int .i64 c4] 38)).heap.size (w.alloc (.cells #[.int .i64 2, .int .i64 x, .int .i64 y, .int .i64 c3, .int .i64 c4] 38)) w' from by rw [hown]; exact rrunning B xb h a _ (r.below al) gd)
  have R := Lib.hid r
  have AL := Lib.hid al
  have CC := Lib.hid hcc
  have d4 : (own == 0) = false := by simp [h0]
  clear r gd al hown hcc h0
  go_enter Try.func37, Try.ntmps37
  go_wp2_with (first | (go_at_call 28; (with_reducible refine C28.out.mono ?_); rintro e w1 ⟨rfl, hb1⟩; have Y := (hb1.block w.heap.size (by simp)).trans (alloc_new w (.cells #[.int .i64 2, .int .i64 x, .int .i64 y, .int .i64 c3, .int .i64 c4] 38)); have y0 : w1.cell? ⟨w.heap.size, 0, none⟩ = some (.int .i64 2) := (cell_fr Y 0).trans rfl; have y1 : w1.cell? ⟨w.heap.size, 1, none⟩ = some (.int .i64 x) := (cell_fr Y 1).trans rfl; have y2 : w1.cell? ⟨w.heap.size, 2, none⟩ = some (.int .i64 y) := (cell_fr Y 2).trans rfl; have y3 : w1.cell? ⟨w.heap.size, 3, none⟩ = some (.int .i64 c3) := (cell_fr Y 3).trans rfl; have y4 : w1.cell? ⟨w.heap.size, 4, none⟩ = some (.int .i64 c4) := (cell_fr Y 4).trans rfl; have B1 := Lib.hid (AL.out.trans (hb1.mono AL.out.size)); have R1 := Lib.hid (R.out.below B1.out); clear hb1 Y) | (go_at_call 58; (with_reducible refine (CC.out w1 R1.out).mono ?_); rintro e w2 ⟨rfl, h2, hl2⟩; have HL := Lib.hid hl2; clear hl2))
  go_ret2
  exact ⟨rfl, h2, (Left.refl R.out B1.out).trans HL.out⟩
set_option maxHeartbeats 2000000 in
set_option maxRecDepth 100000 in
theorem rdo_3 (B xb : Nat) (h : RG) (a : A) (w : World) (r : RRep B xb h a w) (gd : Good a) (x y c3 c4 : Int) (own : Int) (hown : own = runF a) (h0 : own ≠ 0) (er : Int) (a' : A) (hcc : ∀ w1, RRep B xb h a w1 → Calls Try.prog 59 #[ptr xb, .int .i64 own, .int .i64 x, .int .i64 y] w1 (LeftR B xb h a w1 (.int .i64 er) a')) :
    Calls Try.prog 37 #[ptr xb, .agg #[.int .i64 3, .int .i64 x, .int .i64 y, .int .i64 c3, .int .i64 c4]] w (LeftR B xb h a w (.tuple #[.int .i64 0, .int .i64 er]) a') := by
  have al : Below w.heap.size w (w.alloc (.cells #[.int .i64 3, .int .i64 x, .int .i64 y, .int .i64 c3, .int .i64 c4] 38)) := (Below.refl _ _).alloc (Nat.le_refl _) _
  have C28 := Lib.hid (show Calls Try.prog 28 #[ptr xb] (w.alloc (.cells #[.int .i64 3, .int .i64 x, .int .i64 y, .int .i64 c3, .int .i64 c4] 38)) fun e w' => e = .returned (.int .i64 own) ∧ Below (w.alloc (.cells #[.int .i64 3, .int .i64 x, .int .i64 y, .int .i64 c3, .int .i64 c4] 38)).heap.size (w.alloc (.cells #[.int .i64 3, .int .i64 x, .int .i64 y, .int .i64 c3, .int .i64 c4] 38)) w' from by rw [hown]; exact rrunning B xb h a _ (r.below al) gd)
  have R := Lib.hid r
  have AL := Lib.hid al
  have CC := Lib.hid hcc
  have d4 : (own == 0) = false := by simp [h0]
  clear r gd al hown hcc h0
  go_enter Try.func37, Try.ntmps37
  go_wp2_with (first | (go_at_call 28; (with_reducible refine C28.out.mono ?_); rintro e w1 ⟨rfl, hb1⟩; have Y := (hb1.block w.heap.size (by simp)).trans (alloc_new w (.cells #[.int .i64 3, .int .i64 x, .int .i64 y, .int .i64 c3, .int .i64 c4] 38)); have y0 : w1.cell? ⟨w.heap.size, 0, none⟩ = some (.int .i64 3) := (cell_fr Y 0).trans rfl; have y1 : w1.cell? ⟨w.heap.size, 1, none⟩ = some (.int .i64 x) := (cell_fr Y 1).trans rfl; have y2 : w1.cell? ⟨w.heap.size, 2, none⟩ = some (.int .i64 y) := (cell_fr Y 2).trans rfl; have y3 : w1.cell? ⟨w.heap.size, 3, none⟩ = some (.int .i64 c3) := (cell_fr Y 3).trans rfl; have y4 : w1.cell? ⟨w.heap.size, 4, none⟩ = some (.int .i64 c4) := (cell_fr Y 4).trans rfl; have B1 := Lib.hid (AL.out.trans (hb1.mono AL.out.size)); have R1 := Lib.hid (R.out.below B1.out); clear hb1 Y) | (go_at_call 59; (with_reducible refine (CC.out w1 R1.out).mono ?_); rintro e w2 ⟨rfl, h2, hl2⟩; have HL := Lib.hid hl2; clear hl2))
  go_ret2
  exact ⟨rfl, h2, (Left.refl R.out B1.out).trans HL.out⟩
set_option maxHeartbeats 2000000 in
set_option maxRecDepth 100000 in
theorem rdo_4 (B xb : Nat) (h : RG) (a : A) (w : World) (r : RRep B xb h a w) (gd : Good a) (x y c3 c4 : Int) (own : Int) (hown : own = runF a) (h0 : own ≠ 0) (er : Int) (a' : A) (hcc : ∀ w1, RRep B xb h a w1 → Calls Try.prog 60 #[ptr xb, .int .i64 own] w1 (LeftR B xb h a w1 (.int .i64 er) a')) :
    Calls Try.prog 37 #[ptr xb, .agg #[.int .i64 4, .int .i64 x, .int .i64 y, .int .i64 c3, .int .i64 c4]] w (LeftR B xb h a w (.tuple #[.int .i64 er, .int .i64 0]) a') := by
  have al : Below w.heap.size w (w.alloc (.cells #[.int .i64 4, .int .i64 x, .int .i64 y, .int .i64 c3, .int .i64 c4] 38)) := (Below.refl _ _).alloc (Nat.le_refl _) _
  have C28 := Lib.hid (show Calls Try.prog 28 #[ptr xb] (w.alloc (.cells #[.int .i64 4, .int .i64 x, .int .i64 y, .int .i64 c3, .int .i64 c4] 38)) fun e w' => e = .returned (.int .i64 own) ∧ Below (w.alloc (.cells #[.int .i64 4, .int .i64 x, .int .i64 y, .int .i64 c3, .int .i64 c4] 38)).heap.size (w.alloc (.cells #[.int .i64 4, .int .i64 x, .int .i64 y, .int .i64 c3, .int .i64 c4] 38)) w' from by rw [hown]; exact rrunning B xb h a _ (r.below al) gd)
  have R := Lib.hid r
  have AL := Lib.hid al
  have CC := Lib.hid hcc
  have d4 : (own == 0) = false := by simp [h0]
  clear r gd al hown hcc h0
  go_enter Try.func37, Try.ntmps37
  go_wp2_with (first | (go_at_call 28; (with_reducible refine C28.out.mono ?_); rintro e w1 ⟨rfl, hb1⟩; have Y := (hb1.block w.heap.size (by simp)).trans (alloc_new w (.cells #[.int .i64 4, .int .i64 x, .int .i64 y, .int .i64 c3, .int .i64 c4] 38)); have y0 : w1.cell? ⟨w.heap.size, 0, none⟩ = some (.int .i64 4) := (cell_fr Y 0).trans rfl; have y1 : w1.cell? ⟨w.heap.size, 1, none⟩ = some (.int .i64 x) := (cell_fr Y 1).trans rfl; have y2 : w1.cell? ⟨w.heap.size, 2, none⟩ = some (.int .i64 y) := (cell_fr Y 2).trans rfl; have y3 : w1.cell? ⟨w.heap.size, 3, none⟩ = some (.int .i64 c3) := (cell_fr Y 3).trans rfl; have y4 : w1.cell? ⟨w.heap.size, 4, none⟩ = some (.int .i64 c4) := (cell_fr Y 4).trans rfl; have B1 := Lib.hid (AL.out.trans (hb1.mono AL.out.size)); have R1 := Lib.hid (R.out.below B1.out); clear hb1 Y) | (go_at_call 60; (with_reducible refine (CC.out w1 R1.out).mono ?_); rintro e w2 ⟨rfl, h2, hl2⟩; have HL := Lib.hid hl2; clear hl2))
  go_ret2
  exact ⟨rfl, h2, (Left.refl R.out B1.out).trans HL.out⟩
set_option maxHeartbeats 2000000 in
set_option maxRecDepth 100000 in
theorem rdo_5 (B xb : Nat) (h : RG) (a : A) (w : World) (r : RRep B xb h a w) (gd : Good a) (x y c3 c4 : Int) (own : Int) (hown : own = runF a) (h0 : own ≠ 0) (er : Int) (a' : A) (hcc : ∀ w1, RRep B xb h a w1 → Calls Try.prog 61 #[ptr xb, .agg #[.int .i64 5, .int .i64 x, .int .i64 y, .int .i64 c3, .int .i64 c4]] w1 (LeftR B xb h a w1 (.int .i64 er) a')) :
    Calls Try.prog 37 #[ptr xb, .agg #[.int .i64 5, .int .i64 x, .int .i64 y, .int .i64 c3, .int .i64 c4]] w (LeftR B xb h a w (.tuple #[.int .i64 0, .int .i64 er]) a') := by
  have al : Below w.heap.size w (w.alloc (.cells #[.int .i64 5, .int .i64 x, .int .i64 y, .int .i64 c3, .int .i64 c4] 38)) := (Below.refl _ _).alloc (Nat.le_refl _) _
  have C28 := Lib.hid (show Calls Try.prog 28 #[ptr xb] (w.alloc (.cells #[.int .i64 5, .int .i64 x, .int .i64 y, .int .i64 c3, .int .i64 c4] 38)) fun e w' => e = .returned (.int .i64 own) ∧ Below (w.alloc (.cells #[.int .i64 5, .int .i64 x, .int .i64 y, .int .i64 c3, .int .i64 c4] 38)).heap.size (w.alloc (.cells #[.int .i64 5, .int .i64 x, .int .i64 y, .int .i64 c3, .int .i64 c4] 38)) w' from by rw [hown]; exact rrunning B xb h a _ (r.below al) gd)
  have R := Lib.hid r
  have AL := Lib.hid al
  have CC := Lib.hid hcc
  have d4 : (own == 0) = false := by simp [h0]
  clear r gd al hown hcc h0
  go_enter Try.func37, Try.ntmps37
  go_wp2_with (first | (go_at_call 28; (with_reducible refine C28.out.mono ?_); rintro e w1 ⟨rfl, hb1⟩; have Y := (hb1.block w.heap.size (by simp)).trans (alloc_new w (.cells #[.int .i64 5, .int .i64 x, .int .i64 y, .int .i64 c3, .int .i64 c4] 38)); have y0 : w1.cell? ⟨w.heap.size, 0, none⟩ = some (.int .i64 5) := (cell_fr Y 0).trans rfl; have y1 : w1.cell? ⟨w.heap.size, 1, none⟩ = some (.int .i64 x) := (cell_fr Y 1).trans rfl; have y2 : w1.cell? ⟨w.heap.size, 2, none⟩ = some (.int .i64 y) := (cell_fr Y 2).trans rfl; have y3 : w1.cell? ⟨w.heap.size, 3, none⟩ = some (.int .i64 c3) := (cell_fr Y 3).trans rfl; have y4 : w1.cell? ⟨w.heap.size, 4, none⟩ = some (.int .i64 c4) := (cell_fr Y 4).trans rfl; have B1 := Lib.hid (AL.out.trans (hb1.mono AL.out.size)); have R1 := Lib.hid (R.out.below B1.out); clear hb1 Y) | (go_at_call 61; (with_reducible refine (CC.out w1 R1.out).mono ?_); rintro e w2 ⟨rfl, h2, hl2⟩; have HL := Lib.hid hl2; clear hl2))
  go_ret2
  exact ⟨rfl, h2, (Left.refl R.out B1.out).trans HL.out⟩
set_option maxHeartbeats 2000000 in
set_option maxRecDepth 100000 in
theorem rdo_6 (B xb : Nat) (h : RG) (a : A) (w : World) (r : RRep B xb h a w) (gd : Good a) (x y c3 c4 : Int) (own : Int) (hown : own = runF a) (h0 : own ≠ 0) (er : Int) (a' : A) (hcc : ∀ w1, RRep B xb h a w1 → Calls Try.prog 61 #[ptr xb, .agg #[.int .i64 6, .int .i64 x, .int .i64 y, .int .i64 c3, .int .i64 c4]] w1 (LeftR B xb h a w1 (.int .i64 er) a')) :
    Calls Try.prog 37 #[ptr xb, .agg #[.int .i64 6, .int .i64 x, .int .i64 y, .int .i64 c3, .int .i64 c4]] w (LeftR B xb h a w (.tuple #[.int .i64 0, .int .i64 er]) a') := by
  have al : Below w.heap.size w (w.alloc (.cells #[.int .i64 6, .int .i64 x, .int .i64 y, .int .i64 c3, .int .i64 c4] 38)) := (Below.refl _ _).alloc (Nat.le_refl _) _
  have C28 := Lib.hid (show Calls Try.prog 28 #[ptr xb] (w.alloc (.cells #[.int .i64 6, .int .i64 x, .int .i64 y, .int .i64 c3, .int .i64 c4] 38)) fun e w' => e = .returned (.int .i64 own) ∧ Below (w.alloc (.cells #[.int .i64 6, .int .i64 x, .int .i64 y, .int .i64 c3, .int .i64 c4] 38)).heap.size (w.alloc (.cells #[.int .i64 6, .int .i64 x, .int .i64 y, .int .i64 c3, .int .i64 c4] 38)) w' from by rw [hown]; exact rrunning B xb h a _ (r.below al) gd)
  have R := Lib.hid r
  have AL := Lib.hid al
  have CC := Lib.hid hcc
  have d4 : (own == 0) = false := by simp [h0]
  clear r gd al hown hcc h0
  go_enter Try.func37, Try.ntmps37
  go_wp2_with (first | (go_at_call 28; (with_reducible refine C28.out.mono ?_); rintro e w1 ⟨rfl, hb1⟩; have Y := (hb1.block w.heap.size (by simp)).trans (alloc_new w (.cells #[.int .i64 6, .int .i64 x, .int .i64 y, .int .i64 c3, .int .i64 c4] 38)); have y0 : w1.cell? ⟨w.heap.size, 0, none⟩ = some (.int .i64 6) := (cell_fr Y 0).trans rfl; have y1 : w1.cell? ⟨w.heap.size, 1, none⟩ = some (.int .i64 x) := (cell_fr Y 1).trans rfl; have y2 : w1.cell? ⟨w.heap.size, 2, none⟩ = some (.int .i64 y) := (cell_fr Y 2).trans rfl; have y3 : w1.cell? ⟨w.heap.size, 3, none⟩ = some (.int .i64 c3) := (cell_fr Y 3).trans rfl; have y4 : w1.cell? ⟨w.heap.size, 4, none⟩ = some (.int .i64 c4) := (cell_fr Y 4).trans rfl; have B1 := Lib.hid (AL.out.trans (hb1.mono AL.out.size)); have R1 := Lib.hid (R.out.below B1.out); clear hb1 Y) | (go_at_call 61; (with_reducible refine (CC.out w1 R1.out).mono ?_); rintro e w2 ⟨rfl, h2, hl2⟩; have HL := Lib.hid hl2; clear hl2))
  go_ret2
  exact ⟨rfl, h2, (Left.refl R.out B1.out).trans HL.out⟩
set_option maxHeartbeats 2000000 in
set_option maxRecDepth 100000 in
theorem rdo_7 (B xb : Nat) (h : RG) (a : A) (w : World) (r : RRep B xb h a w) (gd : Good a) (x y c3 c4 : Int) (own : Int) (hown : own = runF a) (h0 : own ≠ 0) (er : Int) (a' : A) (hcc : ∀ w1, RRep B xb h a w1 → Calls Try.prog 61 #[ptr xb, .agg #[.int .i64 7, .int .i64 x, .int .i64 y, .int .i64 c3, .int .i64 c4]] w1 (LeftR B xb h a w1 (.int .i64 er) a')) :
    Calls Try.prog 37 #[ptr xb, .agg #[.int .i64 7, .int .i64 x, .int .i64 y, .int .i64 c3, .int .i64 c4]] w (LeftR B xb h a w (.tuple #[.int .i64 0, .int .i64 er]) a') := by
  have al : Below w.heap.size w (w.alloc (.cells #[.int .i64 7, .int .i64 x, .int .i64 y, .int .i64 c3, .int .i64 c4] 38)) := (Below.refl _ _).alloc (Nat.le_refl _) _
  have C28 := Lib.hid (show Calls Try.prog 28 #[ptr xb] (w.alloc (.cells #[.int .i64 7, .int .i64 x, .int .i64 y, .int .i64 c3, .int .i64 c4] 38)) fun e w' => e = .returned (.int .i64 own) ∧ Below (w.alloc (.cells #[.int .i64 7, .int .i64 x, .int .i64 y, .int .i64 c3, .int .i64 c4] 38)).heap.size (w.alloc (.cells #[.int .i64 7, .int .i64 x, .int .i64 y, .int .i64 c3, .int .i64 c4] 38)) w' from by rw [hown]; exact rrunning B xb h a _ (r.below al) gd)
  have R := Lib.hid r
  have AL := Lib.hid al
  have CC := Lib.hid hcc
  have d4 : (own == 0) = false := by simp [h0]
  clear r gd al hown hcc h0
  go_enter Try.func37, Try.ntmps37
  go_wp2_with (first | (go_at_call 28; (with_reducible refine C28.out.mono ?_); rintro e w1 ⟨rfl, hb1⟩; have Y := (hb1.block w.heap.size (by simp)).trans (alloc_new w (.cells #[.int .i64 7, .int .i64 x, .int .i64 y, .int .i64 c3, .int .i64 c4] 38)); have y0 : w1.cell? ⟨w.heap.size, 0, none⟩ = some (.int .i64 7) := (cell_fr Y 0).trans rfl; have y1 : w1.cell? ⟨w.heap.size, 1, none⟩ = some (.int .i64 x) := (cell_fr Y 1).trans rfl; have y2 : w1.cell? ⟨w.heap.size, 2, none⟩ = some (.int .i64 y) := (cell_fr Y 2).trans rfl; have y3 : w1.cell? ⟨w.heap.size, 3, none⟩ = some (.int .i64 c3) := (cell_fr Y 3).trans rfl; have y4 : w1.cell? ⟨w.heap.size, 4, none⟩ = some (.int .i64 c4) := (cell_fr Y 4).trans rfl; have B1 := Lib.hid (AL.out.trans (hb1.mono AL.out.size)); have R1 := Lib.hid (R.out.below B1.out); clear hb1 Y) | (go_at_call 61; (with_reducible refine (CC.out w1 R1.out).mono ?_); rintro e w2 ⟨rfl, h2, hl2⟩; have HL := Lib.hid hl2; clear hl2))
  go_ret2
  exact ⟨rfl, h2, (Left.refl R.out B1.out).trans HL.out⟩
set_option maxHeartbeats 2000000 in
set_option maxRecDepth 100000 in
theorem rdo_9 (B xb : Nat) (h : RG) (a : A) (w : World) (r : RRep B xb h a w) (gd : Good a) (x y c3 c4 : Int) (own : Int) (hown : own = runF a) (h0 : own ≠ 0) (er : Int) (a' : A) (hcc : ∀ w1, RRep B xb h a w1 → Calls Try.prog 63 #[ptr xb, .int .i64 x, .int .i64 y] w1 (LeftR B xb h a w1 (.int .i64 er) a')) :
    Calls Try.prog 37 #[ptr xb, .agg #[.int .i64 9, .int .i64 x, .int .i64 y, .int .i64 c3, .int .i64 c4]] w (LeftR B xb h a w (.tuple #[.int .i64 0, .int .i64 er]) a') := by
  have al : Below w.heap.size w (w.alloc (.cells #[.int .i64 9, .int .i64 x, .int .i64 y, .int .i64 c3, .int .i64 c4] 38)) := (Below.refl _ _).alloc (Nat.le_refl _) _
  have C28 := Lib.hid (show Calls Try.prog 28 #[ptr xb] (w.alloc (.cells #[.int .i64 9, .int .i64 x, .int .i64 y, .int .i64 c3, .int .i64 c4] 38)) fun e w' => e = .returned (.int .i64 own) ∧ Below (w.alloc (.cells #[.int .i64 9, .int .i64 x, .int .i64 y, .int .i64 c3, .int .i64 c4] 38)).heap.size (w.alloc (.cells #[.int .i64 9, .int .i64 x, .int .i64 y, .int .i64 c3, .int .i64 c4] 38)) w' from by rw [hown]; exact rrunning B xb h a _ (r.below al) gd)
  have R := Lib.hid r
  have AL := Lib.hid al
  have CC := Lib.hid hcc
  have d4 : (own == 0) = false := by simp [h0]
  clear r gd al hown hcc h0
  go_enter Try.func37, Try.ntmps37
  go_wp2_with (first | (go_at_call 28; (with_reducible refine C28.out.mono ?_); rintro e w1 ⟨rfl, hb1⟩; have Y := (hb1.block w.heap.size (by simp)).trans (alloc_new w (.cells #[.int .i64 9, .int .i64 x, .int .i64 y, .int .i64 c3, .int .i64 c4] 38)); have y0 : w1.cell? ⟨w.heap.size, 0, none⟩ = some (.int .i64 9) := (cell_fr Y 0).trans rfl; have y1 : w1.cell? ⟨w.heap.size, 1, none⟩ = some (.int .i64 x) := (cell_fr Y 1).trans rfl; have y2 : w1.cell? ⟨w.heap.size, 2, none⟩ = some (.int .i64 y) := (cell_fr Y 2).trans rfl; have y3 : w1.cell? ⟨w.heap.size, 3, none⟩ = some (.int .i64 c3) := (cell_fr Y 3).trans rfl; have y4 : w1.cell? ⟨w.heap.size, 4, none⟩ = some (.int .i64 c4) := (cell_fr Y 4).trans rfl; have B1 := Lib.hid (AL.out.trans (hb1.mono AL.out.size)); have R1 := Lib.hid (R.out.below B1.out); clear hb1 Y) | (go_at_call 63; (with_reducible refine (CC.out w1 R1.out).mono ?_); rintro e w2 ⟨rfl, h2, hl2⟩; have HL := Lib.hid hl2; clear hl2))
  go_ret2
  exact ⟨rfl, h2, (Left.refl R.out B1.out).trans HL.out⟩
set_option maxHeartbeats 2000000 in
set_option maxRecDepth 100000 in
theorem rdo_13 (B xb : Nat) (h : RG) (a : A) (w : World) (r : RRep B xb h a w) (gd : Good a) (x y c3 c4 : Int) (own : Int) (hown : own = runF a) (h0 : own ≠ 0) (v er : Int) (a' : A) (hcc : ∀ w1, RRep B xb h a w1 → Calls Try.prog 66 #[ptr xb, .int .i64 own, .int .i64 x] w1 (LeftR B xb h a w1 (.tuple #[.int .i64 v, .int .i64 er]) a')) :
    Calls Try.prog 37 #[ptr xb, .agg #[.int .i64 13, .int .i64 x, .int .i64 y, .int .i64 c3, .int .i64 c4]] w (LeftR B xb h a w (.tuple #[.int .i64 v, .int .i64 er]) a') := by
  have al : Below w.heap.size w (w.alloc (.cells #[.int .i64 13, .int .i64 x, .int .i64 y, .int .i64 c3, .int .i64 c4] 38)) := (Below.refl _ _).alloc (Nat.le_refl _) _
  have C28 := Lib.hid (show Calls Try.prog 28 #[ptr xb] (w.alloc (.cells #[.int .i64 13, .int .i64 x, .int .i64 y, .int .i64 c3, .int .i64 c4] 38)) fun e w' => e = .returned (.int .i64 own) ∧ Below (w.alloc (.cells #[.int .i64 13, .int .i64 x, .int .i64 y, .int .i64 c3, .int .i64 c4] 38)).heap.size (w.alloc (.cells #[.int .i64 13, .int .i64 x, .int .i64 y, .int .i64 c3, .int .i64 c4] 38)) w' from by rw [hown]; exact rrunning B xb h a _ (r.below al) gd)
  have R := Lib.hid r
  have AL := Lib.hid al
  have CC := Lib.hid hcc
  have d4 : (own == 0) = false := by simp [h0]
  clear r gd al hown hcc h0
  go_enter Try.func37, Try.ntmps37
  go_wp2_with (first | (go_at_call 28; (with_reducible refine C28.out.mono ?_); rintro e w1 ⟨rfl, hb1⟩; have Y := (hb1.block w.heap.size (by simp)).trans (alloc_new w (.cells #[.int .i64 13, .int .i64 x, .int .i64 y, .int .i64 c3, .int .i64 c4] 38)); have y0 : w1.cell? ⟨w.heap.size, 0, none⟩ = some (.int .i64 13) := (cell_fr Y 0).trans rfl; have y1 : w1.cell? ⟨w.heap.size, 1, none⟩ = some (.int .i64 x) := (cell_fr Y 1).trans rfl; have y2 : w1.cell? ⟨w.heap.size, 2, none⟩ = some (.int .i64 y) := (cell_fr Y 2).trans rfl; have y3 : w1.cell? ⟨w.heap.size, 3, none⟩ = some (.int .i64 c3) := (cell_fr Y 3).trans rfl; have y4 : w1.cell? ⟨w.heap.size, 4, none⟩ = some (.int .i64 c4) := (cell_fr Y 4).trans rfl; have B1 := Lib.hid (AL.out.trans (hb1.mono AL.out.size)); have R1 := Lib.hid (R.out.below B1.out); clear hb1 Y) | (go_at_call 66; (with_reducible refine (CC.out w1 R1.out).mono ?_); rintro e w2 ⟨rfl, h2, hl2⟩; have HL := Lib.hid hl2; clear hl2))
  go_ret2
  exact ⟨rfl, h2, (Left.refl R.out B1.out).trans HL.out⟩
end Go.Proofs.Ytkmgbnklfnjfjaa.Ker
