import Derived.Test.YtkmgbnklfnjfjaaRN
/-! The specification's kernel: do, KTest, KFetch, KPacket. -/
namespace Go.Proofs.Ytkmgbnklfnjfjaa.Ker
open Go.RowKit Go.Maps

/-- KTest, plainly, as the specification does it. -/
def testB (a : A) (own x : Int) : A := { a with tk := upd a.tk own { a.tk own with flags := wrap64 ((a.tk own).flags - bits .and .i64 (a.tk own).flags x) } }
theorem pnums_succ (m : Int) (h : 0 ≤ m) : pnums (m + 1) = pnums m ++ [m + 1] := by
  unfold pnums
  rw [show (m + 1).toNat = m.toNat + 1 from by omega, List.range_succ, List.map_append]
  simp; omega
theorem pack_rpc {a : A} (gd : Good a) (own x : Int) : (pnums (packA a own x).made).flatMap (rpc (packA a own x)) = (pnums a.made).flatMap (rpc a) ++ [.int .i64 (a.made + 1), .int .i64 x, .int .i64 0, .int .i64 own, .int .i64 0, .int .i64 0, .int .i64 own] := by
  have e1 : ∀ p ∈ pnums a.made, rpc (packA a own x) p = rpc a p := fun p hp => by
    have hne : p ≠ a.made + 1 := by
      unfold pnums at hp
      obtain ⟨k, hk, rfl⟩ := List.mem_map.1 hp
      have := List.mem_range.1 hk
      omega
    have hm : p ∈ (packA a own x).pids ↔ p ∈ a.pids := by simp [packA, hne]
    have hk : (packA a own x).pk p = a.pk p := by simp only [packA, upd_other _ _ hne]
    unfold rpc rpk
    simp only [hm, hk]
  have e2 : rpc (packA a own x) (a.made + 1) = [.int .i64 (a.made + 1), .int .i64 x, .int .i64 0, .int .i64 own, .int .i64 0, .int .i64 0, .int .i64 own] := by
    have hm : a.made + 1 ∈ (packA a own x).pids := by simp [packA]
    unfold rpc
    rw [rpk_in hm]
    simp only [packA, upd_same]
  show (pnums (a.made + 1)).flatMap _ = _
  rw [pnums_succ _ gd.made.1, List.flatMap_append, List.flatMap_def, List.map_congr_left e1, ← List.flatMap_def]
  simp [e2]
theorem info93' : (Try.prog.info? 93).map (fun i => (i.zero, i.size, i.bytes)) = some (some (.agg #[.int .i64 0, .int .i64 0, .int .i64 0, .int .i64 0, .int .i64 0, .int .i64 0, .int .i64 0]), 7, 56) := by kernel_rfl
theorem new93 (w : World) (l : List Value) : ∀ j u, l[j]? = some u → (w.alloc (.cells l.toArray 93)).cell? ((⟨w.heap.size, 0, none⟩ : Addr).add j) = some u := by
  intro j u hu
  rw [Addr.add_lit, Nat.zero_add]
  exact (cell_of (alloc_new w _) j).trans (by simpa using hu)
theorem pv_append {B xb : Nat} {h : RG} {a : A} {W w3 : World} (r : RRep B xb h a W) (gd : Good a) (own x : Int) (v' : Value)
    (ho : w3.ownsRow B 93 7 v' ((pnums a.made).length + 1) ((pnums a.made).flatMap (rpc a) ++ [.int .i64 (a.made + 1), .int .i64 x, .int .i64 0, .int .i64 own, .int .i64 0, .int .i64 0, .int .i64 own])) (hg : W.grownBy w3 h.pv.ownBlock) (hloc : v'.ownBlock = h.pv.ownBlock ∨ v'.ownBlock = some (W.heap.size + 1)) :
    Left B xb h a W { h with pv := v' } (packA a own x) (w3.setCell ⟨xb, 1, none⟩ v') := by
  have hblk3 : w3.heap[xb]? = some (.cells (rcells h a) 63 (0, 0)) := (hg.block xb (blt r.blk) (fun e => own_ty r.prow r.blk (by decide) e.symm)).trans r.blk
  have hT : Touch W (w3.setCell ⟨xb, 1, none⟩ v') (fun k => k = xb ∨ h.pv.ownBlock = some k) := ((Touch.grown hg).mono (fun k _ hk => .inr hk.symm)).trans (Touch.setCell _ _ _ (.inl rfl))
  have nx : ∀ {e sz v n xs}, W.ownsRow B e sz v n xs → e ≠ 63 → e ≠ 93 → (w3.setCell ⟨xb, 1, none⟩ v').ownsRow B e sz v n xs := fun {e sz v n xs} ho h1 h2 => row_kept hT ho (fun b hb hs => by
    rcases hs with rfl | hs
    · exact own_ty ho r.blk (fun e2 => h1 e2.symm) hb
    · exact own_own ho r.prow h2 hb hs)
  refine r.setAll h.tv v' h.mv (packA a own x) (hT.mono (fun k _ hk => by
    rcases hk with hk | hk
    · exact .inl hk
    · exact .inr (.inr (.inl hk)))) ?_ (nx r.trow (by decide) (by decide)) ?_ (nx r.mrow (by decide) (by decide)) (fun i hi => ⟨hi, rfl⟩) (fun _ hb => .inl hb) (fresh_of (hloc.imp id (fun h => ⟨_, h, by omega⟩))) (fun _ hb => .inl hb)
  · rw [set_same hblk3 1 v']; rfl
  · rw [pack_rpc gd own x]
    have hl : (pnums (packA a own x).made).length = (pnums a.made).length + 1 := by
      show (pnums (a.made + 1)).length = _
      rw [pnums_succ _ gd.made.1, List.length_append]; rfl
    rw [hl]
    refine own_keep ho (fun b hb _ => set_other ?_)
    rintro rfl
    exact own_ty ho hblk3 (by decide) hb
set_option maxHeartbeats 2000000 in
set_option maxRecDepth 100000 in
theorem rdo_8lo (B xb : Nat) (h : RG) (a : A) (w : World) (r : RRep B xb h a w) (gd : Good a) (x y c3 c4 : Int) (own : Int) (hown : own = runF a) (h0 : own ≠ 0) (hx : x < 0) :
    Calls Try.prog 37 #[ptr xb, .agg #[.int .i64 8, .int .i64 x, .int .i64 y, .int .i64 c3, .int .i64 c4]] w (LeftR B xb h a w (.tuple #[.int .i64 0, .int .i64 1]) a) := by
  have al : Below w.heap.size w (w.alloc (.cells #[.int .i64 8, .int .i64 x, .int .i64 y, .int .i64 c3, .int .i64 c4] 38)) := (Below.refl _ _).alloc (Nat.le_refl _) _
  have C28 := Lib.hid (show Calls Try.prog 28 #[ptr xb] (w.alloc (.cells #[.int .i64 8, .int .i64 x, .int .i64 y, .int .i64 c3, .int .i64 c4] 38)) fun e w' => e = .returned (.int .i64 own) ∧ Below (w.alloc (.cells #[.int .i64 8, .int .i64 x, .int .i64 y, .int .i64 c3, .int .i64 c4] 38)).heap.size (w.alloc (.cells #[.int .i64 8, .int .i64 x, .int .i64 y, .int .i64 c3, .int .i64 c4] 38)) w' from by rw [hown]; exact rrunning B xb h a _ (r.below al) gd)
  have R := Lib.hid r
  have AL := Lib.hid al
  have d4 : (own == 0) = false := by simp [h0]
  have e1 : decide (x < 0) = true := by simp; omega
  clear r gd al hown h0 hx
  go_enter Try.func37, Try.ntmps37
  go_wp2_with (go_at_call 28; (with_reducible refine C28.out.mono ?_); rintro e w1 ⟨rfl, hb1⟩; have Y := (hb1.block w.heap.size (by simp)).trans (alloc_new w (.cells #[.int .i64 8, .int .i64 x, .int .i64 y, .int .i64 c3, .int .i64 c4] 38)); have y0 : w1.cell? ⟨w.heap.size, 0, none⟩ = some (.int .i64 8) := (cell_fr Y 0).trans rfl; have y1 : w1.cell? ⟨w.heap.size, 1, none⟩ = some (.int .i64 x) := (cell_fr Y 1).trans rfl; have y2 : w1.cell? ⟨w.heap.size, 2, none⟩ = some (.int .i64 y) := (cell_fr Y 2).trans rfl; have y3 : w1.cell? ⟨w.heap.size, 3, none⟩ = some (.int .i64 c3) := (cell_fr Y 3).trans rfl; have y4 : w1.cell? ⟨w.heap.size, 4, none⟩ = some (.int .i64 c4) := (cell_fr Y 4).trans rfl; have B1 := Lib.hid (AL.out.trans (hb1.mono AL.out.size)); have R1 := Lib.hid (R.out.below B1.out); clear hb1 Y)
  go_ret2
  exact LeftR.still R.out _ B1.out
set_option maxHeartbeats 2000000 in
set_option maxRecDepth 100000 in
theorem rdo_8hi (B xb : Nat) (h : RG) (a : A) (w : World) (r : RRep B xb h a w) (gd : Good a) (x y c3 c4 : Int) (own : Int) (hown : own = runF a) (h0 : own ≠ 0) (hx : ¬ x < 0 ∧ 65535 < x) :
    Calls Try.prog 37 #[ptr xb, .agg #[.int .i64 8, .int .i64 x, .int .i64 y, .int .i64 c3, .int .i64 c4]] w (LeftR B xb h a w (.tuple #[.int .i64 0, .int .i64 1]) a) := by
  have al : Below w.heap.size w (w.alloc (.cells #[.int .i64 8, .int .i64 x, .int .i64 y, .int .i64 c3, .int .i64 c4] 38)) := (Below.refl _ _).alloc (Nat.le_refl _) _
  have C28 := Lib.hid (show Calls Try.prog 28 #[ptr xb] (w.alloc (.cells #[.int .i64 8, .int .i64 x, .int .i64 y, .int .i64 c3, .int .i64 c4] 38)) fun e w' => e = .returned (.int .i64 own) ∧ Below (w.alloc (.cells #[.int .i64 8, .int .i64 x, .int .i64 y, .int .i64 c3, .int .i64 c4] 38)).heap.size (w.alloc (.cells #[.int .i64 8, .int .i64 x, .int .i64 y, .int .i64 c3, .int .i64 c4] 38)) w' from by rw [hown]; exact rrunning B xb h a _ (r.below al) gd)
  have R := Lib.hid r
  have AL := Lib.hid al
  have d4 : (own == 0) = false := by simp [h0]
  have e1 : decide (x < 0) = false := by simp; omega
  have e2 : decide (65535 < x) = true := by simp; omega
  clear r gd al hown h0 hx
  go_enter Try.func37, Try.ntmps37
  go_wp2_with (go_at_call 28; (with_reducible refine C28.out.mono ?_); rintro e w1 ⟨rfl, hb1⟩; have Y := (hb1.block w.heap.size (by simp)).trans (alloc_new w (.cells #[.int .i64 8, .int .i64 x, .int .i64 y, .int .i64 c3, .int .i64 c4] 38)); have y0 : w1.cell? ⟨w.heap.size, 0, none⟩ = some (.int .i64 8) := (cell_fr Y 0).trans rfl; have y1 : w1.cell? ⟨w.heap.size, 1, none⟩ = some (.int .i64 x) := (cell_fr Y 1).trans rfl; have y2 : w1.cell? ⟨w.heap.size, 2, none⟩ = some (.int .i64 y) := (cell_fr Y 2).trans rfl; have y3 : w1.cell? ⟨w.heap.size, 3, none⟩ = some (.int .i64 c3) := (cell_fr Y 3).trans rfl; have y4 : w1.cell? ⟨w.heap.size, 4, none⟩ = some (.int .i64 c4) := (cell_fr Y 4).trans rfl; have B1 := Lib.hid (AL.out.trans (hb1.mono AL.out.size)); have R1 := Lib.hid (R.out.below B1.out); clear hb1 Y)
  go_ret2
  exact LeftR.still R.out _ B1.out
set_option maxHeartbeats 2000000 in
set_option maxRecDepth 100000 in
theorem rdo_8ok (B xb : Nat) (h : RG) (a : A) (w : World) (r : RRep B xb h a w) (gd : Good a) (x y c3 c4 : Int) (own : Int) (hown : own = runF a) (h0 : own ≠ 0) (ho : own ∈ a.tids) (hx : 0 ≤ x ∧ x ≤ 65535) :
    Calls Try.prog 37 #[ptr xb, .agg #[.int .i64 8, .int .i64 x, .int .i64 y, .int .i64 c3, .int .i64 c4]] w (LeftR B xb h a w (.tuple #[.int .i64 (bits .and .i64 (a.tk own).flags x), .int .i64 0]) (testB a own x)) := by
  have al : Below w.heap.size w (w.alloc (.cells #[.int .i64 8, .int .i64 x, .int .i64 y, .int .i64 c3, .int .i64 c4] 38)) := (Below.refl _ _).alloc (Nat.le_refl _) _
  have C28 := Lib.hid (show Calls Try.prog 28 #[ptr xb] (w.alloc (.cells #[.int .i64 8, .int .i64 x, .int .i64 y, .int .i64 c3, .int .i64 c4] 38)) fun e w' => e = .returned (.int .i64 own) ∧ Below (w.alloc (.cells #[.int .i64 8, .int .i64 x, .int .i64 y, .int .i64 c3, .int .i64 c4] 38)).heap.size (w.alloc (.cells #[.int .i64 8, .int .i64 x, .int .i64 y, .int .i64 c3, .int .i64 c4] 38)) w' from by rw [hown]; exact rrunning B xb h a _ (r.below al) gd)
  have R := Lib.hid r
  have AL := Lib.hid al
  have d4 : (own == 0) = false := by simp [h0]
  have e1 : decide (x < 0) = false := by simp; omega
  have e2 : decide (65535 < x) = false := by simp; omega
  have hlt := nodup_bound 20 a.tids gd.tnd (fun x hx => gd.trng x hx)
  obtain ⟨m, hm1, hm2, hm3⟩ := posF_in ho
  have D62 := Lib.hid (show ∀ w', RRep B xb h a w' → Calls Try.prog 62 #[ptr xb, .int .i64 own] w' fun e w'' => e = .returned (.int .i64 m) ∧ w' = w'' from fun w' hr => by
    have := rfind B xb h a w' hr gd.tnd (by omega) own
    rw [hm1] at this
    exact this)
  obtain ⟨gt, ct, hv, ⟨tcur, htb⟩, hct⟩ := row_cells (f := rtc a h.qv) (sz := 7) (fun _ => rfl) r.trow hm2
  have k0 := r.k0
  rw [hv] at k0
  have t3 : w.cell? ⟨gt, m * 7 + 3, none⟩ = some (.bool (a.tk own).waiting) := hct 3 (by omega)
  have t4 : w.cell? ⟨gt, m * 7 + 4, none⟩ = some (.int .i64 (a.tk own).forr) := hct 4 (by omega)
  have t5 : w.cell? ⟨gt, m * 7 + 5, none⟩ = some (.int .i64 (a.tk own).flags) := hct 5 (by omega)
  have t6 : w.cell? ⟨gt, m * 7 + 6, none⟩ = some (h.qv own) := hct 6 (by omega)
  have tf : ∀ j, w.frozen? ⟨gt, j, none⟩ = false := fun j => free_of htb j
  have tf3 := tf (m * 7 + 3)
  have tf4 := tf (m * 7 + 4)
  have tf5 := tf (m * 7 + 5)
  have hm20 : m ≤ 20 := by omega
  have HTG := Lib.hid (show h.tv.ownBlock = some gt by rw [hv]; rfl)
  have HM2 := Lib.hid hm2
  have GD := Lib.hid gd
  have gtl := blt htb
  have HTB := Lib.hid htb
  clear r gd al hown h0 hx ho hm1 hm2 hct hv tf t3 t4 t6 tf3 tf4 htb
  go_enter Try.func37, Try.ntmps37
  go_wp2_with (go_at_call 28; (with_reducible refine C28.out.mono ?_); rintro e w1 ⟨rfl, hb1⟩; have Y := (hb1.block w.heap.size (by simp)).trans (alloc_new w (.cells #[.int .i64 8, .int .i64 x, .int .i64 y, .int .i64 c3, .int .i64 c4] 38)); have y0 : w1.cell? ⟨w.heap.size, 0, none⟩ = some (.int .i64 8) := (cell_fr Y 0).trans rfl; have y1 : w1.cell? ⟨w.heap.size, 1, none⟩ = some (.int .i64 x) := (cell_fr Y 1).trans rfl; have y2 : w1.cell? ⟨w.heap.size, 2, none⟩ = some (.int .i64 y) := (cell_fr Y 2).trans rfl; have y3 : w1.cell? ⟨w.heap.size, 3, none⟩ = some (.int .i64 c3) := (cell_fr Y 3).trans rfl; have y4 : w1.cell? ⟨w.heap.size, 4, none⟩ = some (.int .i64 c4) := (cell_fr Y 4).trans rfl; have B1 := Lib.hid (AL.out.trans (hb1.mono AL.out.size)); have R1 := Lib.hid (R.out.below B1.out); have k01 := (B1.out.cell (p := ⟨xb, 0, none⟩) (cell_lt k0)).trans k0; have t51 := (B1.out.cell (p := ⟨gt, m * 7 + 5, none⟩) gtl).trans t5; have tf51 := (B1.out.frozen (p := ⟨gt, m * 7 + 5, none⟩) gtl).trans tf5; clear hb1 Y)
  go_quiet (((refine (D62.out _ ?_).mono ?_); (exact R1.out.keep (fun _ _ => rfl)); (intro e w' h; exact ⟨h.1, _, h.2.symm⟩)))
  go_wp2_with fail
  go_quiet (fail)
  go_wp2_with fail
  go_ret2
  have L := fun q1 => (Left.refl R.out (below_drewN B1.out q1)).trans ((R1.out.drewN q1).setTk GD.out.tnd HM2.out HTG.out 5 (by omega) (.int .i64 (wrap64 ((a.tk own).flags - bits .and .i64 (a.tk own).flags x))) { a.tk own with flags := wrap64 ((a.tk own).flags - bits .and .i64 (a.tk own).flags x) } (by simp [rtc, upd_same]))
  exact ⟨rfl, _, L _⟩
set_option maxHeartbeats 2000000 in
set_option maxRecDepth 100000 in
theorem rdo_10none (B xb : Nat) (h : RG) (a : A) (w : World) (r : RRep B xb h a w) (gd : Good a) (g2 : Good2 a) (x y c3 c4 : Int) (own : Int) (hown : own = runF a) (h0 : own ≠ 0) (hx : x ∉ a.pids) :
    Calls Try.prog 37 #[ptr xb, .agg #[.int .i64 10, .int .i64 x, .int .i64 y, .int .i64 c3, .int .i64 c4]] w (LeftR B xb h a w (.tuple #[.int .i64 0, .int .i64 191]) a) := by
  have al : Below w.heap.size w (w.alloc (.cells #[.int .i64 10, .int .i64 x, .int .i64 y, .int .i64 c3, .int .i64 c4] 38)) := (Below.refl _ _).alloc (Nat.le_refl _) _
  have C28 := Lib.hid (show Calls Try.prog 28 #[ptr xb] (w.alloc (.cells #[.int .i64 10, .int .i64 x, .int .i64 y, .int .i64 c3, .int .i64 c4] 38)) fun e w' => e = .returned (.int .i64 own) ∧ Below (w.alloc (.cells #[.int .i64 10, .int .i64 x, .int .i64 y, .int .i64 c3, .int .i64 c4] 38)).heap.size (w.alloc (.cells #[.int .i64 10, .int .i64 x, .int .i64 y, .int .i64 c3, .int .i64 c4] 38)) w' from by rw [hown]; exact rrunning B xb h a _ (r.below al) gd)
  have R := Lib.hid r
  have AL := Lib.hid al
  have d4 : (own == 0) = false := by simp [h0]
  have D64 := Lib.hid (show ∀ w', RRep B xb h a w' → Calls Try.prog 64 #[ptr xb, .int .i64 x] w' fun e w'' => e = .returned (.bool false) ∧ w' = w'' from fun w' hr => by have := rthere B xb h a w' hr gd g2 x; rw [decide_eq_false hx] at this; exact this)
  clear r gd g2 al hown h0 hx
  go_enter Try.func37, Try.ntmps37
  go_wp2_with (go_at_call 28; (with_reducible refine C28.out.mono ?_); rintro e w1 ⟨rfl, hb1⟩; have Y := (hb1.block w.heap.size (by simp)).trans (alloc_new w (.cells #[.int .i64 10, .int .i64 x, .int .i64 y, .int .i64 c3, .int .i64 c4] 38)); have y0 : w1.cell? ⟨w.heap.size, 0, none⟩ = some (.int .i64 10) := (cell_fr Y 0).trans rfl; have y1 : w1.cell? ⟨w.heap.size, 1, none⟩ = some (.int .i64 x) := (cell_fr Y 1).trans rfl; have y2 : w1.cell? ⟨w.heap.size, 2, none⟩ = some (.int .i64 y) := (cell_fr Y 2).trans rfl; have y3 : w1.cell? ⟨w.heap.size, 3, none⟩ = some (.int .i64 c3) := (cell_fr Y 3).trans rfl; have y4 : w1.cell? ⟨w.heap.size, 4, none⟩ = some (.int .i64 c4) := (cell_fr Y 4).trans rfl; have B1 := Lib.hid (AL.out.trans (hb1.mono AL.out.size)); have R1 := Lib.hid (R.out.below B1.out); clear hb1 Y)
  go_quiet (((refine (D64.out _ ?_).mono ?_); (exact R1.out.keep (fun _ _ => rfl)); (intro e w' h; exact ⟨h.1, _, h.2.symm⟩)))
  go_wp2_with fail
  go_ret2
  exact LeftR.still R.out _ (below_drewN B1.out _)
set_option maxHeartbeats 2000000 in
set_option maxRecDepth 100000 in
theorem rdo_10at (B xb : Nat) (h : RG) (a : A) (w : World) (r : RRep B xb h a w) (gd : Good a) (g2 : Good2 a) (x y c3 c4 : Int) (own : Int) (hown : own = runF a) (h0 : own ≠ 0) (hx : x ∈ a.pids) (ha : (a.pk x).at_ = 0) :
    Calls Try.prog 37 #[ptr xb, .agg #[.int .i64 10, .int .i64 x, .int .i64 y, .int .i64 c3, .int .i64 c4]] w (LeftR B xb h a w (.tuple #[.int .i64 0, .int .i64 191]) a) := by
  have hr := gd.pkr x hx
  have hmade := gd.made
  have hN := made_len gd
  have D64 := Lib.hid (show ∀ w', RRep B xb h a w' → Calls Try.prog 64 #[ptr xb, .int .i64 x] w' fun e w'' => e = .returned (.bool true) ∧ w' = w'' from fun w' hr => by have := rthere B xb h a w' hr gd g2 x; rw [decide_eq_true hx] at this; exact this)
  obtain ⟨n, rfl⟩ : ∃ n : Nat, x = (n : Int) + 1 := ⟨(x - 1).toNat, by omega⟩
  obtain ⟨g, pc, hpv, ⟨pcur, hpb⟩, hc⟩ := r.pcells gd (n := n) (by omega)
  have k1 := r.k1
  rw [hpv] at k1
  have hnl : n < (pnums a.made).length := by omega
  have hn200 : n ≤ 200 := by omega
  have q4 : w.cell? ⟨g, n * 7 + 4, none⟩ = some (.int .i64 (a.pk ((n : Int) + 1)).at_) := by have := hc 4 (by omega); simp only [rpc, rpk_in hx] at this; exact this
  have q5 : w.cell? ⟨g, n * 7 + 5, none⟩ = some (.int .i64 (a.pk ((n : Int) + 1)).frm) := by have := hc 5 (by omega); simp only [rpc, rpk_in hx] at this; exact this
  have q6 : w.cell? ⟨g, n * 7 + 6, none⟩ = some (.int .i64 (a.pk ((n : Int) + 1)).wth) := by have := hc 6 (by omega); simp only [rpc, rpk_in hx] at this; exact this
  have al : Below w.heap.size w (w.alloc (.cells #[.int .i64 10, .int .i64 ((n : Int) + 1), .int .i64 y, .int .i64 c3, .int .i64 c4] 38)) := (Below.refl _ _).alloc (Nat.le_refl _) _
  have C28 := Lib.hid (show Calls Try.prog 28 #[ptr xb] (w.alloc (.cells #[.int .i64 10, .int .i64 ((n : Int) + 1), .int .i64 y, .int .i64 c3, .int .i64 c4] 38)) fun e w' => e = .returned (.int .i64 own) ∧ Below (w.alloc (.cells #[.int .i64 10, .int .i64 ((n : Int) + 1), .int .i64 y, .int .i64 c3, .int .i64 c4] 38)).heap.size (w.alloc (.cells #[.int .i64 10, .int .i64 ((n : Int) + 1), .int .i64 y, .int .i64 c3, .int .i64 c4] 38)) w' from by rw [hown]; exact rrunning B xb h a _ (r.below al) gd)
  have R := Lib.hid r
  have AL := Lib.hid al
  have d4 : (own == 0) = false := by simp [h0]
  have e1 : ((a.pk ((n : Int) + 1)).at_ == 0) = true := by simp [ha]
  clear r gd g2 hx hc hpv hpb hr hmade hN al hown h0 ha
  go_enter Try.func37, Try.ntmps37
  go_wp2_with (go_at_call 28; (with_reducible refine C28.out.mono ?_); rintro e w1 ⟨rfl, hb1⟩; have Y := (hb1.block w.heap.size (by simp)).trans (alloc_new w (.cells #[.int .i64 10, .int .i64 ((n : Int) + 1), .int .i64 y, .int .i64 c3, .int .i64 c4] 38)); have y0 : w1.cell? ⟨w.heap.size, 0, none⟩ = some (.int .i64 10) := (cell_fr Y 0).trans rfl; have y1 : w1.cell? ⟨w.heap.size, 1, none⟩ = some (.int .i64 ((n : Int) + 1)) := (cell_fr Y 1).trans rfl; have y2 : w1.cell? ⟨w.heap.size, 2, none⟩ = some (.int .i64 y) := (cell_fr Y 2).trans rfl; have y3 : w1.cell? ⟨w.heap.size, 3, none⟩ = some (.int .i64 c3) := (cell_fr Y 3).trans rfl; have y4 : w1.cell? ⟨w.heap.size, 4, none⟩ = some (.int .i64 c4) := (cell_fr Y 4).trans rfl; have B1 := Lib.hid (AL.out.trans (hb1.mono AL.out.size)); have R1 := Lib.hid (R.out.below B1.out); have gl := cell_lt q4; have k11 := (B1.out.cell (p := ⟨xb, 1, none⟩) (cell_lt k1)).trans k1; have q41 := (B1.out.cell (p := ⟨g, n * 7 + 4, none⟩) gl).trans q4; have q51 := (B1.out.cell (p := ⟨g, n * 7 + 5, none⟩) gl).trans q5; clear hb1 Y)
  go_quiet (((refine (D64.out _ ?_).mono ?_); (exact R1.out.keep (fun _ _ => rfl)); (intro e w' h; exact ⟨h.1, _, h.2.symm⟩)))
  go_wp2_with fail
  go_ret2
  exact LeftR.still R.out _ (below_drewN B1.out _)
set_option maxHeartbeats 2000000 in
set_option maxRecDepth 100000 in
theorem rdo_10frm (B xb : Nat) (h : RG) (a : A) (w : World) (r : RRep B xb h a w) (gd : Good a) (g2 : Good2 a) (x y c3 c4 : Int) (own : Int) (hown : own = runF a) (h0 : own ≠ 0) (hx : x ∈ a.pids) (ha : (a.pk x).at_ ≠ 0) (hf : (a.pk x).frm ≠ own) :
    Calls Try.prog 37 #[ptr xb, .agg #[.int .i64 10, .int .i64 x, .int .i64 y, .int .i64 c3, .int .i64 c4]] w (LeftR B xb h a w (.tuple #[.int .i64 0, .int .i64 191]) a) := by
  have hr := gd.pkr x hx
  have hmade := gd.made
  have hN := made_len gd
  have D64 := Lib.hid (show ∀ w', RRep B xb h a w' → Calls Try.prog 64 #[ptr xb, .int .i64 x] w' fun e w'' => e = .returned (.bool true) ∧ w' = w'' from fun w' hr => by have := rthere B xb h a w' hr gd g2 x; rw [decide_eq_true hx] at this; exact this)
  obtain ⟨n, rfl⟩ : ∃ n : Nat, x = (n : Int) + 1 := ⟨(x - 1).toNat, by omega⟩
  obtain ⟨g, pc, hpv, ⟨pcur, hpb⟩, hc⟩ := r.pcells gd (n := n) (by omega)
  have k1 := r.k1
  rw [hpv] at k1
  have hnl : n < (pnums a.made).length := by omega
  have hn200 : n ≤ 200 := by omega
  have q4 : w.cell? ⟨g, n * 7 + 4, none⟩ = some (.int .i64 (a.pk ((n : Int) + 1)).at_) := by have := hc 4 (by omega); simp only [rpc, rpk_in hx] at this; exact this
  have q5 : w.cell? ⟨g, n * 7 + 5, none⟩ = some (.int .i64 (a.pk ((n : Int) + 1)).frm) := by have := hc 5 (by omega); simp only [rpc, rpk_in hx] at this; exact this
  have q6 : w.cell? ⟨g, n * 7 + 6, none⟩ = some (.int .i64 (a.pk ((n : Int) + 1)).wth) := by have := hc 6 (by omega); simp only [rpc, rpk_in hx] at this; exact this
  have al : Below w.heap.size w (w.alloc (.cells #[.int .i64 10, .int .i64 ((n : Int) + 1), .int .i64 y, .int .i64 c3, .int .i64 c4] 38)) := (Below.refl _ _).alloc (Nat.le_refl _) _
  have C28 := Lib.hid (show Calls Try.prog 28 #[ptr xb] (w.alloc (.cells #[.int .i64 10, .int .i64 ((n : Int) + 1), .int .i64 y, .int .i64 c3, .int .i64 c4] 38)) fun e w' => e = .returned (.int .i64 own) ∧ Below (w.alloc (.cells #[.int .i64 10, .int .i64 ((n : Int) + 1), .int .i64 y, .int .i64 c3, .int .i64 c4] 38)).heap.size (w.alloc (.cells #[.int .i64 10, .int .i64 ((n : Int) + 1), .int .i64 y, .int .i64 c3, .int .i64 c4] 38)) w' from by rw [hown]; exact rrunning B xb h a _ (r.below al) gd)
  have R := Lib.hid r
  have AL := Lib.hid al
  have d4 : (own == 0) = false := by simp [h0]
  have e1 : ((a.pk ((n : Int) + 1)).at_ == 0) = false := by simp [ha]
  have e2 : ((a.pk ((n : Int) + 1)).frm != own) = true := by simp [hf]
  clear r gd g2 hx hc hpv hpb hr hmade hN al hown h0 ha hf
  go_enter Try.func37, Try.ntmps37
  go_wp2_with (go_at_call 28; (with_reducible refine C28.out.mono ?_); rintro e w1 ⟨rfl, hb1⟩; have Y := (hb1.block w.heap.size (by simp)).trans (alloc_new w (.cells #[.int .i64 10, .int .i64 ((n : Int) + 1), .int .i64 y, .int .i64 c3, .int .i64 c4] 38)); have y0 : w1.cell? ⟨w.heap.size, 0, none⟩ = some (.int .i64 10) := (cell_fr Y 0).trans rfl; have y1 : w1.cell? ⟨w.heap.size, 1, none⟩ = some (.int .i64 ((n : Int) + 1)) := (cell_fr Y 1).trans rfl; have y2 : w1.cell? ⟨w.heap.size, 2, none⟩ = some (.int .i64 y) := (cell_fr Y 2).trans rfl; have y3 : w1.cell? ⟨w.heap.size, 3, none⟩ = some (.int .i64 c3) := (cell_fr Y 3).trans rfl; have y4 : w1.cell? ⟨w.heap.size, 4, none⟩ = some (.int .i64 c4) := (cell_fr Y 4).trans rfl; have B1 := Lib.hid (AL.out.trans (hb1.mono AL.out.size)); have R1 := Lib.hid (R.out.below B1.out); have gl := cell_lt q4; have k11 := (B1.out.cell (p := ⟨xb, 1, none⟩) (cell_lt k1)).trans k1; have q41 := (B1.out.cell (p := ⟨g, n * 7 + 4, none⟩) gl).trans q4; have q51 := (B1.out.cell (p := ⟨g, n * 7 + 5, none⟩) gl).trans q5; clear hb1 Y)
  go_quiet (((refine (D64.out _ ?_).mono ?_); (exact R1.out.keep (fun _ _ => rfl)); (intro e w' h; exact ⟨h.1, _, h.2.symm⟩)))
  go_wp2_with fail
  go_ret2
  exact LeftR.still R.out _ (below_drewN B1.out _)
set_option maxHeartbeats 2000000 in
set_option maxRecDepth 100000 in
theorem rdo_10ok (B xb : Nat) (h : RG) (a : A) (w : World) (r : RRep B xb h a w) (gd : Good a) (g2 : Good2 a) (x y c3 c4 : Int) (own : Int) (hown : own = runF a) (h0 : own ≠ 0) (hx : x ∈ a.pids) (ha : (a.pk x).at_ ≠ 0) (hf : (a.pk x).frm = own) :
    Calls Try.prog 37 #[ptr xb, .agg #[.int .i64 10, .int .i64 x, .int .i64 y, .int .i64 c3, .int .i64 c4]] w (LeftR B xb h a w (.tuple #[.int .i64 0, .int .i64 0]) (ownA a x own)) := by
  have C65 := fun w' hr => rtake B xb h a w' hr gd x own hx (gd.inq x hx ha).1
  have hr := gd.pkr x hx
  have hmade := gd.made
  have hN := made_len gd
  have D64 := Lib.hid (show ∀ w', RRep B xb h a w' → Calls Try.prog 64 #[ptr xb, .int .i64 x] w' fun e w'' => e = .returned (.bool true) ∧ w' = w'' from fun w' hr => by have := rthere B xb h a w' hr gd g2 x; rw [decide_eq_true hx] at this; exact this)
  obtain ⟨n, rfl⟩ : ∃ n : Nat, x = (n : Int) + 1 := ⟨(x - 1).toNat, by omega⟩
  obtain ⟨g, pc, hpv, ⟨pcur, hpb⟩, hc⟩ := r.pcells gd (n := n) (by omega)
  have k1 := r.k1
  rw [hpv] at k1
  have hnl : n < (pnums a.made).length := by omega
  have hn200 : n ≤ 200 := by omega
  have q4 : w.cell? ⟨g, n * 7 + 4, none⟩ = some (.int .i64 (a.pk ((n : Int) + 1)).at_) := by have := hc 4 (by omega); simp only [rpc, rpk_in hx] at this; exact this
  have q5 : w.cell? ⟨g, n * 7 + 5, none⟩ = some (.int .i64 (a.pk ((n : Int) + 1)).frm) := by have := hc 5 (by omega); simp only [rpc, rpk_in hx] at this; exact this
  have q6 : w.cell? ⟨g, n * 7 + 6, none⟩ = some (.int .i64 (a.pk ((n : Int) + 1)).wth) := by have := hc 6 (by omega); simp only [rpc, rpk_in hx] at this; exact this
  have al : Below w.heap.size w (w.alloc (.cells #[.int .i64 10, .int .i64 ((n : Int) + 1), .int .i64 y, .int .i64 c3, .int .i64 c4] 38)) := (Below.refl _ _).alloc (Nat.le_refl _) _
  have C28 := Lib.hid (show Calls Try.prog 28 #[ptr xb] (w.alloc (.cells #[.int .i64 10, .int .i64 ((n : Int) + 1), .int .i64 y, .int .i64 c3, .int .i64 c4] 38)) fun e w' => e = .returned (.int .i64 own) ∧ Below (w.alloc (.cells #[.int .i64 10, .int .i64 ((n : Int) + 1), .int .i64 y, .int .i64 c3, .int .i64 c4] 38)).heap.size (w.alloc (.cells #[.int .i64 10, .int .i64 ((n : Int) + 1), .int .i64 y, .int .i64 c3, .int .i64 c4] 38)) w' from by rw [hown]; exact rrunning B xb h a _ (r.below al) gd)
  have R := Lib.hid r
  have AL := Lib.hid al
  have CC := Lib.hid C65
  have d4 : (own == 0) = false := by simp [h0]
  have e1 : ((a.pk ((n : Int) + 1)).at_ == 0) = false := by simp [ha]
  have e2 : ((a.pk ((n : Int) + 1)).frm != own) = false := by simp [hf]
  clear r gd g2 hx hc hpv hpb hr hmade hN al hown h0 ha hf C65
  go_enter Try.func37, Try.ntmps37
  go_wp2_with (go_at_call 28; (with_reducible refine C28.out.mono ?_); rintro e w1 ⟨rfl, hb1⟩; have Y := (hb1.block w.heap.size (by simp)).trans (alloc_new w (.cells #[.int .i64 10, .int .i64 ((n : Int) + 1), .int .i64 y, .int .i64 c3, .int .i64 c4] 38)); have y0 : w1.cell? ⟨w.heap.size, 0, none⟩ = some (.int .i64 10) := (cell_fr Y 0).trans rfl; have y1 : w1.cell? ⟨w.heap.size, 1, none⟩ = some (.int .i64 ((n : Int) + 1)) := (cell_fr Y 1).trans rfl; have y2 : w1.cell? ⟨w.heap.size, 2, none⟩ = some (.int .i64 y) := (cell_fr Y 2).trans rfl; have y3 : w1.cell? ⟨w.heap.size, 3, none⟩ = some (.int .i64 c3) := (cell_fr Y 3).trans rfl; have y4 : w1.cell? ⟨w.heap.size, 4, none⟩ = some (.int .i64 c4) := (cell_fr Y 4).trans rfl; have B1 := Lib.hid (AL.out.trans (hb1.mono AL.out.size)); have R1 := Lib.hid (R.out.below B1.out); have gl := cell_lt q4; have k11 := (B1.out.cell (p := ⟨xb, 1, none⟩) (cell_lt k1)).trans k1; have q41 := (B1.out.cell (p := ⟨g, n * 7 + 4, none⟩) gl).trans q4; have q51 := (B1.out.cell (p := ⟨g, n * 7 + 5, none⟩) gl).trans q5; clear hb1 Y)
  go_quiet (((refine (D64.out _ ?_).mono ?_); (exact R1.out.keep (fun _ _ => rfl)); (intro e w' h; exact ⟨h.1, _, h.2.symm⟩)))
  go_wp2_with (go_at_call 65; (with_reducible refine (CC.out _ (R1.out.drewN nq)).mono ?_); rintro e w2 ⟨rfl, h2, hl2⟩; have HL := Lib.hid hl2; clear hl2)
  go_ret2
  exact ⟨rfl, h2, (Left.refl R.out (below_drewN B1.out nq)).trans HL.out⟩
set_option maxHeartbeats 2000000 in
set_option maxRecDepth 100000 in
theorem rdo_11lim (B xb : Nat) (h : RG) (a : A) (w : World) (r : RRep B xb h a w) (gd : Good a) (x y c3 c4 : Int) (own : Int) (hown : own = runF a) (h0 : own ≠ 0) (hm : a.made = 200) :
    Calls Try.prog 37 #[ptr xb, .agg #[.int .i64 11, .int .i64 x, .int .i64 y, .int .i64 c3, .int .i64 c4]] w (LeftR B xb h a w (.tuple #[.int .i64 0, .int .i64 2]) a) := by
  have al : Below w.heap.size w (w.alloc (.cells #[.int .i64 11, .int .i64 x, .int .i64 y, .int .i64 c3, .int .i64 c4] 38)) := (Below.refl _ _).alloc (Nat.le_refl _) _
  have C28 := Lib.hid (show Calls Try.prog 28 #[ptr xb] (w.alloc (.cells #[.int .i64 11, .int .i64 x, .int .i64 y, .int .i64 c3, .int .i64 c4] 38)) fun e w' => e = .returned (.int .i64 own) ∧ Below (w.alloc (.cells #[.int .i64 11, .int .i64 x, .int .i64 y, .int .i64 c3, .int .i64 c4] 38)).heap.size (w.alloc (.cells #[.int .i64 11, .int .i64 x, .int .i64 y, .int .i64 c3, .int .i64 c4] 38)) w' from by rw [hown]; exact rrunning B xb h a _ (r.below al) gd)
  have R := Lib.hid r
  have AL := Lib.hid al
  have d4 : (own == 0) = false := by simp [h0]
  have hN := made_len gd
  obtain ⟨pa, pc, hpv⟩ := own_form r.prow
  have HPV := Lib.hid hpv
  have hl : (pnums a.made).length = 200 := by omega
  have d5 : (((pnums a.made).length : Int) == 200) = true := by rw [hl]; rfl
  clear r gd al hown h0 hN hpv hl hm
  go_enter Try.func37, Try.ntmps37
  go_wp2_with (go_at_call 28; (with_reducible refine C28.out.mono ?_); rintro e w1 ⟨rfl, hb1⟩; have Y := (hb1.block w.heap.size (by simp)).trans (alloc_new w (.cells #[.int .i64 11, .int .i64 x, .int .i64 y, .int .i64 c3, .int .i64 c4] 38)); have y0 : w1.cell? ⟨w.heap.size, 0, none⟩ = some (.int .i64 11) := (cell_fr Y 0).trans rfl; have y1 : w1.cell? ⟨w.heap.size, 1, none⟩ = some (.int .i64 x) := (cell_fr Y 1).trans rfl; have y2 : w1.cell? ⟨w.heap.size, 2, none⟩ = some (.int .i64 y) := (cell_fr Y 2).trans rfl; have y3 : w1.cell? ⟨w.heap.size, 3, none⟩ = some (.int .i64 c3) := (cell_fr Y 3).trans rfl; have y4 : w1.cell? ⟨w.heap.size, 4, none⟩ = some (.int .i64 c4) := (cell_fr Y 4).trans rfl; have B1 := Lib.hid (AL.out.trans (hb1.mono AL.out.size)); have R1 := Lib.hid (R.out.below B1.out); have k1 := R1.out.k1; rw [HPV.out] at k1; clear hb1 Y)
  go_ret2
  exact LeftR.still R.out _ B1.out
set_option maxHeartbeats 4000000 in
set_option maxRecDepth 100000 in
theorem rdo_11ok (B xb : Nat) (h : RG) (a : A) (w : World) (r : RRep B xb h a w) (gd : Good a) (x y c3 c4 : Int) (own : Int) (hown : own = runF a) (h0 : own ≠ 0) (hm : a.made ≠ 200) :
    Calls Try.prog 37 #[ptr xb, .agg #[.int .i64 11, .int .i64 x, .int .i64 y, .int .i64 c3, .int .i64 c4]] w (LeftR B xb h a w (.tuple #[.int .i64 (a.made + 1), .int .i64 0]) (packA a own x)) := by
  obtain ⟨j0, hj0, jz0, jz1, jz2⟩ := info_parts info93'
  have al : Below w.heap.size w (w.alloc (.cells #[.int .i64 11, .int .i64 x, .int .i64 y, .int .i64 c3, .int .i64 c4] 38)) := (Below.refl _ _).alloc (Nat.le_refl _) _
  have C28 := Lib.hid (show Calls Try.prog 28 #[ptr xb] (w.alloc (.cells #[.int .i64 11, .int .i64 x, .int .i64 y, .int .i64 c3, .int .i64 c4] 38)) fun e w' => e = .returned (.int .i64 own) ∧ Below (w.alloc (.cells #[.int .i64 11, .int .i64 x, .int .i64 y, .int .i64 c3, .int .i64 c4] 38)).heap.size (w.alloc (.cells #[.int .i64 11, .int .i64 x, .int .i64 y, .int .i64 c3, .int .i64 c4] 38)) w' from by rw [hown]; exact rrunning B xb h a _ (r.below al) gd)
  have R := Lib.hid r
  have AL := Lib.hid al
  have d4 : (own == 0) = false := by simp [h0]
  have hN := made_len gd
  have hmd := gd.made
  obtain ⟨pa, pc, hpv⟩ := own_form r.prow
  have HPV := Lib.hid hpv
  obtain ⟨N, hNN⟩ : ∃ N, N = (pnums a.made).length := ⟨_, rfl⟩
  have hN2 : (N : Int) = a.made := by rw [hNN]; exact hN
  have d5 : ((N : Int) == 200) = false := by simp; omega
  have hN199 : N ≤ 199 := by omega
  have HNN := Lib.hid hNN
  have HN2 := Lib.hid hN2
  have GD := Lib.hid gd
  have hBl := r.low
  have hxb := blt r.blk
  clear r gd al hown h0 hN hpv hm hmd hN2 hNN
  go_enter Try.func37, Try.ntmps37
  go_wp2_with (go_at_call 28; (with_reducible refine C28.out.mono ?_); rintro e w1 ⟨rfl, hb1⟩; have Y := (hb1.block w.heap.size (by simp)).trans (alloc_new w (.cells #[.int .i64 11, .int .i64 x, .int .i64 y, .int .i64 c3, .int .i64 c4] 38)); have y0 : w1.cell? ⟨w.heap.size, 0, none⟩ = some (.int .i64 11) := (cell_fr Y 0).trans rfl; have y1 : w1.cell? ⟨w.heap.size, 1, none⟩ = some (.int .i64 x) := (cell_fr Y 1).trans rfl; have y2 : w1.cell? ⟨w.heap.size, 2, none⟩ = some (.int .i64 y) := (cell_fr Y 2).trans rfl; have y3 : w1.cell? ⟨w.heap.size, 3, none⟩ = some (.int .i64 c3) := (cell_fr Y 3).trans rfl; have y4 : w1.cell? ⟨w.heap.size, 4, none⟩ = some (.int .i64 c4) := (cell_fr Y 4).trans rfl; have B1 := Lib.hid (AL.out.trans (hb1.mono AL.out.size)); have R1 := Lib.hid (R.out.below B1.out); have HY := Lib.hid Y; have k1 := R1.out.k1; rw [HPV.out, ← HNN.out] at k1; have kf1 := R1.out.kf 1; have hprow := R1.out.prow; rw [HPV.out, ← HNN.out] at hprow; have HPR := Lib.hid hprow; clear hprow; clear hb1 Y)
  have hsz1 : w.heap.size ≤ w1.heap.size := B1.out.size
  obtain ⟨C, hCd⟩ : ∃ C : World → Prop, ∀ x', C x' ↔ (x'.cell? ⟨xb, 1, none⟩ = some (.slice pa N pc) ∧ x'.cell? ⟨w.heap.size, 1, none⟩ = some (.int .i64 x)) := ⟨_, fun _ => Iff.rfl⟩
  have hC0 : C w1.drew := (hCd _).2 ⟨k1, y1⟩
  have s7 : ∀ s : {x : World // C x}, s.1.cell? ⟨xb, 1, none⟩ = some (.slice pa N pc) := fun s => ((hCd s.1).1 s.2).1
  have s8 : ∀ s : {x : World // C x}, s.1.cell? ⟨w.heap.size, 1, none⟩ = some (.int .i64 x) := fun s => ((hCd s.1).1 s.2).2
  haveI : Nonempty {x : World // C x} := ⟨⟨_, hC0⟩⟩
  have hwN : IntKind.i64.wrap ((N : Int) + 1) = (N : Int) + 1 := by rw [IntKind.wrap_i64]; omega
  refine Mix.wp_region_mix C [16, 17, 20] (by kernel_rfl) (by kernel_rfl) hC0 ?_
  have HCD := Lib.hid hCd
  clear hCd
  repeat (refine Mix.mix_still rfl (fun K hK => ?_); go_simp; refine hK _ ?_; clear hK K)
  refine Mix.mix_eff rfl ?_
  go_wp2_with fail
  refine ⟨(HCD.out _).2 ⟨Lib.cell?_alloc_some (W := w1) _ k1, Lib.cell?_alloc_some (W := w1) _ y1⟩, ?_⟩
  refine Mix.mix_eff rfl ?_
  refine wpList_append_own_at _ rfl _ _ 60 rfl B 93 j0 (.agg #[.int .i64 0, .int .i64 0, .int .i64 0, .int .i64 0, .int .i64 0, .int .i64 0, .int .i64 0]) 7 56 Try.underlying60 hj0 jz0 jz1 jz2 rfl (by decide) (.slice pa N pc) N _ rfl (HPR.out.alloc _).drew ⟨w1.heap.size, 0, none⟩ 1 1 [.int .i64 ((N : Int) + 1), .int .i64 x, .int .i64 0, .int .i64 own, .int .i64 0, .int .i64 0, .int .i64 own] rfl rfl (new93 w1 _) (by intro u hu; simp at hu; rcases hu with rfl | rfl | rfl | rfl | rfl | rfl | rfl <;> rfl) (by unfold maxLen; omega) (by omega) (by show B ≤ (w1.alloc _).heap.size; simp; omega) ?_
  intro v' w3 hown' hgrow _ hloc
  obtain ⟨vb, vd, rfl⟩ := own_form hown'
  have hg3 : w1.grownBy w3 (Value.slice pa N pc).ownBlock := (World.grownBy_alloc w1 (.cells #[.int .i64 ((N : Int) + 1), .int .i64 x, .int .i64 0, .int .i64 own, .int .i64 0, .int .i64 0, .int .i64 own] 93) _).trans ⟨hgrow.os, hgrow.tape, hgrow.output, hgrow.size, hgrow.block⟩
  have hx3 : w3.heap[xb]? = some (.cells (rcells h a) 63 (0, 0)) := (hg3.block xb (by omega) (fun e => own_ty HPR.out R1.out.blk (by decide) e.symm)).trans R1.out.blk
  have q7 : w3.cell? ⟨xb, 1, none⟩ = some (.slice pa N pc) := (cell_of hx3 1).trans (congrArg some (HPV.out.trans (by rw [HNN.out])))
  have q8 : w3.cell? ⟨w.heap.size, 1, none⟩ = some (.int .i64 x) := by
    obtain ⟨cc, hb38⟩ : ∃ cc, w1.heap[w.heap.size]? = some (.cells cc 38 (0, 0)) := ⟨_, HY.out⟩
    have := hg3.block w.heap.size (blt hb38) (fun e => own_ty HPR.out hb38 (by decide) e.symm)
    rw [cell_fr (this.trans hb38) 1, ← cell_fr hb38 1]
    exact y1
  have z7' : w3.frozen? ⟨xb, 1, none⟩ = false := free_of hx3 1
  refine wpList_nil ⟨rfl, .inr ((HCD.out _).2 ⟨q7, q8⟩), ?_⟩
  have LM := Lib.hid ((Left.refl R.out B1.out).trans (pv_append R1.out GD.out own x (.slice vb (N + 1) vd) (by rw [← HNN.out, ← HN2.out]; exact (by rw [HN2.out] at hown' ⊢; exact hown')) (by rw [HPV.out, ← HNN.out]; exact hg3) (by rw [HPV.out, ← HNN.out]; simpa using hloc)))
  clear hown' hgrow hloc hg3 hx3
  repeat (refine Mix.mix_still rfl (fun K hK => ?_); go_simp; refine hK _ ?_; clear hK K)
  refine Mix.mix_eff rfl ?_
  go_wp2_with fail
  refine Mix.mix_nil ?_
  have k1f : (w3.setCell ⟨xb, 1, none⟩ (.slice vb (N + 1) vd)).cell? ⟨xb, 1, none⟩ = some (.slice vb (N + 1) vd) := by
    have h1 := LM.out.rep.k1
    exact h1
  go_wp2_with fail
  go_ret2
  refine ⟨by rw [← HN2.out]; rfl, _, LM.out⟩
end Go.Proofs.Ytkmgbnklfnjfjaa.Ker
