import Derived.Test.YtkmgbnklfnjfjaaRD
/-! The specification's kernel: Packet, Queue. -/
namespace Go.Proofs.Ytkmgbnklfnjfjaa.Ker
open Go.RowKit Go.Maps

theorem info93 : (Try.prog.info? 93).map (fun i => i.size) = some 7 := by kernel_rfl
theorem res39 (w : World) (b : Nat) (cs : Array Value) (er : Value) (tmps : Array Value) (hb : w.heap[b]? = some (.cells cs 93 (0, 0))) (hs : cs.size = 7) (h4 : tmps.getD 4 undef = ptr b) (h5 : tmps.getD 5 undef = er) :
    (results Try.f39 tmps).run Try.prog w = .ok (.tuple #[.agg cs, er]) w := by
  rw [results_cell_tmp (p := 4) (u := 5) (ty := 93) rfl, h4, h5]
  have : (asAddr (ptr b)).run Try.prog w = .ok ⟨b, 0, none⟩ w := rfl
  rw [this]
  simp only [Result.andThen]
  rw [run_loadVar_row w b 93 93 cs (0, 0) _ hb Try.underlying93 rfl (by rw [info93, hs])]
def z7 : Array Value := #[.int .i64 0, .int .i64 0, .int .i64 0, .int .i64 0, .int .i64 0, .int .i64 0, .int .i64 0]
theorem set7 {w : World} {b : Nat} {c : Array Value} (h : w.heap[b]? = some (.cells c 93 (0, 0))) (hs : c.size = 7) (v0 v1 v2 v3 v4 v5 v6 : Value) :
    (w.setCells b 0 [v0, v1, v2, v3, v4, v5, v6]).heap[b]? = some (.cells #[v0, v1, v2, v3, v4, v5, v6] 93 (0, 0)) := by
  obtain ⟨l⟩ := c
  match l, hs with
  | [c0, c1, c2, c3, c4, c5, c6], _ =>
    have := set_same (set_same (set_same (set_same (set_same (set_same (set_same h 0 v0) 1 v1) 2 v2) 3 v3) 4 v4) 5 v5) 6 v6
    simpa [World.setCells] using this
set_option maxHeartbeats 1000000 in
set_option maxRecDepth 100000 in
theorem rgetp_none (B xb : Nat) (h : RG) (a : A) (w : World) (r : RRep B xb h a w) (gd : Good a) (g2 : Good2 a) (p : Int) (hp : p ∉ a.pids) :
    Calls Try.prog 39 #[ptr xb, .int .i64 p] w fun e w' => e = .returned (.tuple #[.agg #[.int .i64 0, .int .i64 0, .int .i64 0, .int .i64 0, .int .i64 0, .int .i64 0, .int .i64 0], .int .i64 191]) ∧ Below w.heap.size w w' := by
  have C64 := Lib.hid (rthere B xb h a _ (r.below ((Below.refl _ _).alloc (Nat.le_refl _) (.cells #[.int .i64 0, .int .i64 0, .int .i64 0, .int .i64 0, .int .i64 0, .int .i64 0, .int .i64 0] 93))) gd g2 p)
  have hd : decide (p ∈ a.pids) = false := decide_eq_false hp
  rw [hd] at C64
  clear r gd g2 hd hp
  go_enter Try.func39, Try.ntmps39
  go_wp2_with (go_at_call 64; (refine C64.out.mono ?_); rintro e w' ⟨rfl, rfl⟩)
  exact bodyPost_ret (res39 _ w.heap.size _ _ _ (alloc_new w _) rfl rfl rfl) rfl ⟨rfl, (Below.refl _ _).alloc (Nat.le_refl _) _⟩
set_option maxHeartbeats 1000000 in
set_option maxRecDepth 100000 in
theorem rgetp_some (B xb : Nat) (h : RG) (a : A) (w : World) (r : RRep B xb h a w) (gd : Good a) (g2 : Good2 a) (p : Int) (hp : p ∈ a.pids) :
    Calls Try.prog 39 #[ptr xb, .int .i64 p] w fun e w' => e = .returned (.tuple #[pagg p (a.pk p), .int .i64 0]) ∧ Below w.heap.size w w' := by
  have r1 := r.below ((Below.refl _ _).alloc (Nat.le_refl _) (.cells #[.int .i64 0, .int .i64 0, .int .i64 0, .int .i64 0, .int .i64 0, .int .i64 0, .int .i64 0] 93))
  have C64 := rthere B xb h a _ r1 gd g2 p
  rw [decide_eq_true hp] at C64
  have hr := gd.pkr p hp
  have hmade := gd.made
  have hN := made_len gd
  obtain ⟨n, rfl⟩ : ∃ n : Nat, p = (n : Int) + 1 := ⟨(p - 1).toNat, by omega⟩
  obtain ⟨pa, pc, hpv⟩ := own_form r.prow
  have k1 : w.cell? ⟨xb, 1, none⟩ = some (.slice pa (pnums a.made).length pc) := by rw [cell_of r.blk]; simp [rcells, hpv]
  obtain ⟨g, c, hv, _, hc⟩ := r.pcells gd (n := n) (by omega)
  rw [hpv] at hv
  simp only [Value.slice.injEq] at hv
  obtain ⟨rfl, -, rfl⟩ := hv
  have hnl : n < (pnums a.made).length := by omega
  have hn200 : n ≤ 200 := by omega
  have q0 : w.cell? ⟨g, n * 7, none⟩ = some (.int .i64 ((n : Int) + 1)) := hc 0 (by omega)
  have q1 : w.cell? ⟨g, n * 7 + 1, none⟩ = some (.int .i64 (rpk a ((n : Int) + 1)).ty) := hc 1 (by omega)
  have q2 : w.cell? ⟨g, n * 7 + 2, none⟩ = some (.int .i64 (rpk a ((n : Int) + 1)).res) := hc 2 (by omega)
  have q3 : w.cell? ⟨g, n * 7 + 3, none⟩ = some (.int .i64 (rpk a ((n : Int) + 1)).own) := hc 3 (by omega)
  have q4 : w.cell? ⟨g, n * 7 + 4, none⟩ = some (.int .i64 (rpk a ((n : Int) + 1)).at_) := hc 4 (by omega)
  have q5 : w.cell? ⟨g, n * 7 + 5, none⟩ = some (.int .i64 (rpk a ((n : Int) + 1)).frm) := hc 5 (by omega)
  have q6 : w.cell? ⟨g, n * 7 + 6, none⟩ = some (.int .i64 (rpk a ((n : Int) + 1)).wth) := hc 6 (by omega)
  rw [rpk_in hp] at q1 q2 q3 q4 q5 q6
  have gl := cell_lt q0
  have k1' := (((Below.refl w.heap.size w).alloc (Nat.le_refl _) (.cells #[.int .i64 0, .int .i64 0, .int .i64 0, .int .i64 0, .int .i64 0, .int .i64 0, .int .i64 0] 93)).cell (p := ⟨xb, 1, none⟩) (cell_lt k1)).trans k1
  have C := Lib.hid C64
  unfold pagg
  clear hpv r r1 gd g2 hp hc C64 hr hmade hN
  go_enter Try.func39, Try.ntmps39
  go_wp2_with (go_at_call 64; (refine C.out.mono ?_); rintro e w' ⟨rfl, rfl⟩)
  exact bodyPost_ret (res39 _ w.heap.size _ _ _ (alloc_new w _) rfl rfl rfl) rfl ⟨rfl, (Below.refl _ _).alloc (Nat.le_refl _) _⟩
set_option maxHeartbeats 1000000 in
set_option maxRecDepth 100000 in
theorem rqueue_none (B xb : Nat) (h : RG) (a : A) (w : World) (r : RRep B xb h a w) (gd : Good a) (i : Int) (hi : ¬ a.owner i) :
    Calls Try.prog 38 #[ptr xb, .int .i64 i] w fun e w' => e = .returned (.tuple #[.slice none 0 0, .int .i64 190]) ∧ w = w' := by
  have hl : a.tids.length ≤ 20 := nodup_bound 20 a.tids gd.tnd (fun x hx => gd.trng x hx)
  have C62 := rfind B xb h a w r gd.tnd (by omega) i
  rw [posF_out (fun hh => hi (.inl hh))] at C62
  have C67 := rdevice w i
  rw [decide_eq_false (fun hh => hi (.inr hh))] at C67
  have D62 := Lib.hid C62
  have D67 := Lib.hid C67
  clear C62 C67 r gd hi
  go_enter Try.func38, Try.ntmps38
  go_wp2_with (first | (go_at_call 67; (refine D67.out.mono ?_); rintro e w' ⟨rfl, rfl⟩) | (go_at_call 62; (refine D62.out.mono ?_); rintro e w' ⟨rfl, rfl⟩))
  go_ret2
  exact ⟨rfl, rfl⟩
set_option maxHeartbeats 1000000 in
set_option maxRecDepth 100000 in
theorem rqueue_task (B xb : Nat) (h : RG) (a : A) (w : World) (r : RRep B xb h a w) (gd : Good a) (i : Int) (hi : i ∈ a.tids) :
    Calls Try.prog 38 #[ptr xb, .int .i64 i] w fun e w' => ∃ v', e = .returned (.tuple #[v', .int .i64 0]) ∧ Below w.heap.size w w' ∧ w'.ownsRow w.heap.size 3 1 v' (a.q i).length ((a.q i).map fun p => .int .i64 p) := by
  have hl : a.tids.length ≤ 20 := nodup_bound 20 a.tids gd.tnd (fun x hx => gd.trng x hx)
  have C62 := rfind B xb h a w r gd.tnd (by omega) i
  obtain ⟨n, hn, hx, hnl⟩ := posF_in hi
  rw [hn] at C62
  have C67 := rdevice w i
  have hi1 := gd.trng i hi
  rw [decide_eq_false (fun hh => by rw [devs_iff] at hh; omega)] at C67
  have hql := gd.qlen (i := i) (.inl hi)
  have C68 := Lib.hid (rcopy w (h.qv i) (a.q i) ⟨B, r.row i (.inl hi)⟩ (by omega))
  obtain ⟨ta, tc, htv⟩ := own_form r.trow
  have k0 : w.cell? ⟨xb, 0, none⟩ = some (.slice ta a.tids.length tc) := by rw [cell_of r.blk]; simp [rcells, htv]
  obtain ⟨g, c, hv, _, hc⟩ := row_cells (f := rtc a h.qv) (sz := 7) (fun _ => rfl) r.trow hx
  rw [htv] at hv
  simp only [Value.slice.injEq] at hv
  obtain ⟨rfl, -, rfl⟩ := hv
  have q6 : w.cell? ⟨g, n * 7 + 6, none⟩ = some (h.qv i) := hc 6 (by omega)
  have hn20 : n ≤ 20 := by omega
  have D62 := Lib.hid C62
  have D67 := Lib.hid C67
  clear C62 C67 r gd hi hn hx htv hc hi1
  go_enter Try.func38, Try.ntmps38
  go_wp2_with (first | (go_at_call 67; (refine D67.out.mono ?_); rintro e w' ⟨rfl, rfl⟩) | (go_at_call 62; (refine D62.out.mono ?_); rintro e w' ⟨rfl, rfl⟩) | (go_at_call 68; (refine C68.out.mono ?_); rintro e w' ⟨v', rfl, hb, ho⟩; have HB := Lib.hid hb; have HO := Lib.hid ho; clear hb ho))
  go_ret2
  exact ⟨_, rfl, HB.out, HO.out⟩
set_option maxHeartbeats 1000000 in
set_option maxRecDepth 100000 in
theorem rqueue_dev (B xb : Nat) (h : RG) (a : A) (w : World) (r : RRep B xb h a w) (gd : Good a) (i : Int) (hi : i ∈ devs) :
    Calls Try.prog 38 #[ptr xb, .int .i64 i] w fun e w' => ∃ v', e = .returned (.tuple #[v', .int .i64 0]) ∧ Below w.heap.size w w' ∧ w'.ownsRow w.heap.size 3 1 v' (a.q i).length ((a.q i).map fun p => .int .i64 p) := by
  have C67 := rdevice w i
  rw [decide_eq_true hi] at C67
  have hql := gd.qlen (i := i) (.inr hi)
  have C68 := Lib.hid (rcopy w (h.qv i) (a.q i) ⟨B, r.row i (.inr hi)⟩ (by omega))
  have k2 : w.cell? ⟨xb, 2, none⟩ = some (h.qv (-1)) := by rw [cell_of r.blk]; rfl
  have k3 : w.cell? ⟨xb, 3, none⟩ = some (h.qv (-2)) := by rw [cell_of r.blk]; rfl
  have k4 : w.cell? ⟨xb, 4, none⟩ = some (h.qv (-3)) := by rw [cell_of r.blk]; rfl
  have k5 : w.cell? ⟨xb, 5, none⟩ = some (h.qv (-4)) := by rw [cell_of r.blk]; rfl
  have k6 : w.cell? ⟨xb, 6, none⟩ = some (h.qv (-5)) := by rw [cell_of r.blk]; rfl
  have D67 := Lib.hid C67
  have hcase : i = -1 ∨ i = -2 ∨ i = -3 ∨ i = -4 ∨ i = -5 := by rw [devs_iff] at hi; omega
  clear C67 r gd hi
  rcases hcase with rfl | rfl | rfl | rfl | rfl
  all_goals
    go_enter Try.func38, Try.ntmps38
    go_wp2_with (first | (go_at_call 67; (refine D67.out.mono ?_); rintro e w' ⟨rfl, rfl⟩) | (go_at_call 68; (refine C68.out.mono ?_); rintro e w' ⟨v', rfl, hb, ho⟩; have HB := Lib.hid hb; have HO := Lib.hid ho; clear hb ho))
    go_ret2
    exact ⟨_, rfl, HB.out, HO.out⟩
theorem rqueue_some (B xb : Nat) (h : RG) (a : A) (w : World) (r : RRep B xb h a w) (gd : Good a) (i : Int) (hi : a.owner i) :
    Calls Try.prog 38 #[ptr xb, .int .i64 i] w fun e w' => ∃ v', e = .returned (.tuple #[v', .int .i64 0]) ∧ Below w.heap.size w w' ∧ w'.ownsRow w.heap.size 3 1 v' (a.q i).length ((a.q i).map fun p => .int .i64 p) := by
  rcases hi with hi | hi
  · exact rqueue_task B xb h a w r gd i hi
  · exact rqueue_dev B xb h a w r gd i hi
end Go.Proofs.Ytkmgbnklfnjfjaa.Ker
