import Derived.Test.YtkmgbnklfnjfjaaRK
/-! The specification's kernel: remove, the parts. -/
namespace Go.Proofs.Ytkmgbnklfnjfjaa.Ker
open Go.RowKit Go.Maps

theorem RRep.conv {B xb : Nat} {h : RG} {a a' : A} {w : World} (r : RRep B xb h a w) (h1 : a'.tids = a.tids) (h2 : a'.tk = a.tk) (h3 : a'.q = a.q) (h4 : a'.made = a.made) (h5 : a'.calls = a.calls) (h6 : a'.moves = a.moves) (hp : ∀ p ∈ pnums a.made, rpc a' p = rpc a p) : RRep B xb h a' w := by
  have ho : ∀ i, a'.owner i → a.owner i := fun i hi => hi.imp (fun h => h1 ▸ h) id
  refine ⟨?_, ?_, ?_, ?_, ?_, fun i j hij hi hj => r.sep i j hij (ho i hi) (ho j hj), r.low⟩
  · have e : rcells h a' = rcells h a := by simp only [rcells, h5]
    rw [e]; exact r.blk
  · have e : rtc a' h.qv = rtc a h.qv := by funext i; simp only [rtc, h2]
    rw [e, h1]; exact r.trow
  · rw [h4, List.flatMap_def, List.map_congr_left hp, ← List.flatMap_def]; exact r.prow
  · rw [h6]; exact r.mrow
  · intro i hi
    rw [h3]; exact r.row i (ho i hi)
theorem Left.conv {B xb : Nat} {h h' : RG} {a a' a'' : A} {w w' : World} (l : Left B xb h a w h' a' w') (h1 : a''.tids = a'.tids) (h2 : a''.tk = a'.tk) (h3 : a''.q = a'.q) (h4 : a''.made = a'.made) (h5 : a''.calls = a'.calls) (h6 : a''.moves = a'.moves) (hp : ∀ p ∈ pnums a'.made, rpc a'' p = rpc a' p) : Left B xb h a w h' a'' w' :=
  ⟨l.rep.conv h1 h2 h3 h4 h5 h6 hp, l.touch, fun k hk => l.own k (by
    rcases hk with hk | hk | hk | hk | ⟨i, hi, hk⟩
    · exact .inl hk
    · exact .inr (.inl hk)
    · exact .inr (.inr (.inl hk))
    · exact .inr (.inr (.inr (.inl hk)))
    · exact .inr (.inr (.inr (.inr ⟨i, hi.imp (fun h => h1 ▸ h) id, hk⟩))))⟩
/-- The packets' row has turned in place. -/
theorem RRep.setP {B xb : Nat} {h : RG} {a a' : A} {w w' : World} (r : RRep B xb h a w) {g : Nat} (hg : h.pv.ownBlock = some g) (ht : Touch w w' (fun k => k = g)) (hrow : w'.ownsRow B 93 7 h.pv (pnums a.made).length ((pnums a.made).flatMap (rpc a')))
    (h1 : a'.tids = a.tids) (h2 : a'.tk = a.tk) (h3 : a'.q = a.q) (h4 : a'.made = a.made) (h5 : a'.calls = a.calls) (h6 : a'.moves = a.moves) : Left B xb h a w h a' w' := by
  have ho : ∀ i, a'.owner i → a.owner i := fun i hi => hi.imp (fun h => h1 ▸ h) id
  obtain ⟨_, cur, hc⟩ := own_block r.prow hg
  refine ⟨⟨?_, ?_, ?_, ?_, ?_, fun i j hij hi hj => r.sep i j hij (ho i hi) (ho j hj), r.low⟩, ht.mono (fun k _ hk => .inr (.inr (.inl (hk ▸ hg)))), fun k hk => .inl (by
    rcases hk with hk | hk | hk | hk | ⟨i, hi, hk⟩
    · exact .inl hk
    · exact .inr (.inl hk)
    · exact .inr (.inr (.inl hk))
    · exact .inr (.inr (.inr (.inl hk)))
    · exact .inr (.inr (.inr (.inr ⟨i, ho i hi, hk⟩))))⟩
  · have e : rcells h a' = rcells h a := by simp only [rcells, h5]
    rw [e]; exact (ht.block _ (blt r.blk) (ty_ne r.blk hc (by decide))).trans r.blk
  · have e : rtc a' h.qv = rtc a h.qv := by funext i; simp only [rtc, h2]
    rw [e, h1]; exact row_kept ht r.trow (fun b hb e => own_ty r.trow hc (by decide) (e ▸ hb))
  · rw [h4]; exact hrow
  · rw [h6]; exact row_kept ht r.mrow (fun b hb e => own_ty r.mrow hc (by decide) (e ▸ hb))
  · intro i hi
    rw [h3]; exact row_kept ht (r.row i (ho i hi)) (fun b hb e => own_ty (r.row i (ho i hi)) hc (by decide) (e ▸ hb))
/-- The packets up to m have been looked at. -/
def lostTo (a : A) (x : Int) (m : Nat) : A := { a with pids := a.pids.filter (fun p => !(decide (p ≤ (m : Int)) && (a.pk p).own == x)), pk := fun p => if p ≤ (m : Int) then lostP a x p else a.pk p }
theorem lost_rpc (a : A) (x : Int) (m : Nat) (p : Int) : rpc (lostTo a x m) p = if p ≤ (m : Int) then (if p ∈ a.pids ∧ (a.pk p).own ≠ x then (if (a.pk p).wth = x then (rpc a p).set 6 (.int .i64 0) else rpc a p) else [.int .i64 p, .int .i64 0, .int .i64 0, .int .i64 0, .int .i64 0, .int .i64 0, .int .i64 0]) else rpc a p := by
  unfold rpc rpk
  have hm : p ∈ (lostTo a x m).pids ↔ p ∈ a.pids ∧ ¬ (p ≤ (m : Int) ∧ (a.pk p).own = x) := by
    unfold lostTo
    simp only [List.mem_filter, Bool.not_eq_true', Bool.and_eq_false_iff, decide_eq_false_iff_not, beq_eq_false_iff_ne]
    constructor
    · rintro ⟨h1, h2⟩
      exact ⟨h1, fun hh => h2.elim (fun h => h hh.1) (fun h => h hh.2)⟩
    · rintro ⟨h1, h2⟩
      refine ⟨h1, ?_⟩
      by_cases hc : p ≤ (m : Int)
      · exact .inr (fun h => h2 ⟨hc, h⟩)
      · exact .inl hc
  by_cases h1 : p ≤ (m : Int)
  · rw [if_pos h1]
    by_cases h2 : p ∈ a.pids ∧ (a.pk p).own ≠ x
    · rw [if_pos h2, if_pos (hm.2 ⟨h2.1, fun hh => h2.2 hh.2⟩), if_pos h2.1]
      simp only [lostTo, if_pos h1, lostP]
      by_cases h3 : (a.pk p).wth = x
      · rw [if_pos h3, if_pos h3]; rfl
      · rw [if_neg h3, if_neg h3]
    · rw [if_neg h2, if_neg (fun hh => h2 ⟨(hm.1 hh).1, fun e => (hm.1 hh).2 ⟨h1, e⟩⟩)]
  · rw [if_neg h1]
    by_cases h2 : p ∈ a.pids
    · rw [if_pos h2, if_pos (hm.2 ⟨h2, fun hh => h1 hh.1⟩)]
      simp only [lostTo, if_neg h1]
    · rw [if_neg h2, if_neg (fun hh => h2 (hm.1 hh).1)]
theorem lost_rpc_ne (a : A) (x : Int) (n : Nat) (p : Int) (hp : p ≠ (n : Int) + 1) : rpc (lostTo a x (n + 1)) p = rpc (lostTo a x n) p := by
  rw [lost_rpc, lost_rpc]
  have e : (p ≤ ((n + 1 : Nat) : Int)) ↔ p ≤ (n : Int) := by omega
  simp only [e]
/-- The packet n + 1, not yet looked at. -/
theorem lost_rpc_now (a : A) (x : Int) (n : Nat) : rpc (lostTo a x n) ((n : Int) + 1) = rpc a ((n : Int) + 1) := by rw [lost_rpc, if_neg (by omega)]
theorem pset7 {B : Nat} {w : World} {pv : Value} {l : List Int} {f f' : Int → List Value} {n g : Nat} {p : Int} (hf : ∀ x, (f x).length = 7) (h : w.ownsRow B 93 7 pv l.length (l.flatMap f)) (nd : l.Nodup) (hp : l[n]? = some p) (hg : pv.ownBlock = some g) (v0 v1 v2 v3 v4 v5 v6 : Value) (h1 : f' p = [v0, v1, v2, v3, v4, v5, v6]) (h2 : ∀ y ∈ l, y ≠ p → f' y = f y) :
    (((((((w.setCell ⟨g, n * 7, none⟩ v0).setCell ⟨g, n * 7 + 1, none⟩ v1).setCell ⟨g, n * 7 + 2, none⟩ v2).setCell ⟨g, n * 7 + 3, none⟩ v3).setCell ⟨g, n * 7 + 4, none⟩ v4).setCell ⟨g, n * 7 + 5, none⟩ v5).setCell ⟨g, n * 7 + 6, none⟩ v6).ownsRow B 93 7 pv l.length (l.flatMap f') := by
  have hn := (List.getElem?_eq_some_iff.1 hp).1
  have hb : ∀ j, j < 7 → n * 7 + j < l.length * 7 := fun j hj => by have : (n + 1) * 7 ≤ l.length * 7 := Nat.mul_le_mul_right _ hn; omega
  have k := row_set (row_set (row_set (row_set (row_set (row_set (row_set h hg (hb 0 (by omega)) v0) hg (hb 1 (by omega)) v1) hg (hb 2 (by omega)) v2) hg (hb 3 (by omega)) v3) hg (hb 4 (by omega)) v4) hg (hb 5 (by omega)) v5) hg (hb 6 (by omega)) v6
  have hl : (l.flatMap f).length = l.length * 7 := flat_len f 7 hf l
  have e : l.flatMap f' = (((((((l.flatMap f).set (n * 7) v0).set (n * 7 + 1) v1).set (n * 7 + 2) v2).set (n * 7 + 3) v3).set (n * 7 + 4) v4).set (n * 7 + 5) v5).set (n * 7 + 6) v6 := by
    obtain ⟨c0, c1, c2, c3, c4, c5, c6, hc⟩ : ∃ c0 c1 c2 c3 c4 c5 c6, f p = [c0, c1, c2, c3, c4, c5, c6] := by
      have := hf p
      match f p, this with
      | [c0, c1, c2, c3, c4, c5, c6], _ => exact ⟨_, _, _, _, _, _, _, rfl⟩
    have st : ∀ (l0 l1 : List Value) (j : Nat) (u : Value), l0.length = 7 → j < 7 → l1 = l0.set j u → l.flatMap (fun y => if y = p then l1 else f y) = (l.flatMap (fun y => if y = p then l0 else f y)).set (n * 7 + j) u := fun l0 l1 j u h0 hj h1 =>
      flat_set (fun y => if y = p then l0 else f y) (fun y => if y = p then l1 else f y) 7 (fun y => by show (if y = p then l0 else f y).length = 7; split; exact h0; exact hf y) p j u hj (by simp [h1]) l n nd hp (fun y _ hy => by simp [hy])
    have s0 : l.flatMap f = l.flatMap (fun y => if y = p then f p else f y) := by
      have e0 : ∀ y ∈ l, f y = (fun y => if y = p then f p else f y) y := fun y _ => by by_cases hy : y = p <;> simp [hy]
      rw [List.flatMap_def, List.flatMap_def, List.map_congr_left e0]
    have s7 : l.flatMap f' = l.flatMap (fun y => if y = p then [v0, v1, v2, v3, v4, v5, v6] else f y) := by
      have e0 : ∀ y ∈ l, f' y = (fun y => if y = p then [v0, v1, v2, v3, v4, v5, v6] else f y) y := fun y hy => by
        by_cases hyp : y = p
        · subst hyp; simp [h1]
        · simp [hyp, h2 y hy hyp]
      rw [List.flatMap_def, List.flatMap_def, List.map_congr_left e0]
    rw [s7, s0, hc, ← Nat.add_zero (n * 7)]
    rw [← st _ _ 0 v0 rfl (by omega) rfl]
    simp only [Nat.add_zero]
    rw [← st _ _ 1 v1 rfl (by omega) rfl, ← st _ _ 2 v2 rfl (by omega) rfl, ← st _ _ 3 v3 rfl (by omega) rfl, ← st _ _ 4 v4 rfl (by omega) rfl, ← st _ _ 5 v5 rfl (by omega) rfl, ← st _ _ 6 v6 rfl (by omega) rfl]
    rfl
  rw [e]
  exact k
end Go.Proofs.Ytkmgbnklfnjfjaa.Ker
/-! The specification's kernel: remove, the walk. -/
namespace Go.Proofs.Ytkmgbnklfnjfjaa.Ker
open Go.RowKit Go.Maps

/-- The tasks' row is new, with fewer tasks. -/
theorem RRep.setTids {B xb : Nat} {h : RG} {a : A} {w w5 : World} (r : RRep B xb h a w) (L : List Int) (hsub : ∀ i ∈ L, i ∈ a.tids) (tv : Value) (hb : Below w.heap.size w w5) (ho : w5.ownsRow w.heap.size 92 7 tv L.length (L.flatMap (rtc a h.qv))) :
    Left B xb h a w { h with tv := tv } { a with tids := L } (w5.setCell ⟨xb, 0, none⟩ tv) := by
  have hx5 : w5.heap[xb]? = some (.cells (rcells h a) 63 (0, 0)) := (hb.block xb (blt r.blk)).trans r.blk
  have hBw : B ≤ w.heap.size := Nat.le_trans r.low (Nat.le_of_lt (blt r.blk))
  have hT : Touch w (w5.setCell ⟨xb, 0, none⟩ tv) (fun k => k = xb) := (⟨hb.os, hb.tape, hb.output, hb.size, fun k hk _ => hb.block k hk⟩ : Touch w w5 (fun k => k = xb)).trans (Touch.setCell _ _ _ rfl)
  refine r.setAll tv h.pv h.mv { a with tids := L } (hT.mono (fun k _ hk => .inl hk)) ?_ ?_ (row_kept hT r.prow (fun b hb' e => own_ty r.prow r.blk (by decide) (e ▸ hb'))) (row_kept hT r.mrow (fun b hb' e => own_ty r.mrow r.blk (by decide) (e ▸ hb'))) (fun i hi => ⟨hi.imp (hsub i) id, rfl⟩) (fresh_own ho) (fun _ hb => .inl hb) (fun _ hb => .inl hb)
  · rw [set_same hx5 0 tv]; rfl
  · refine own_base (own_keep ho (fun b hb' _ => set_other ?_)) hBw
    rintro rfl
    exact own_ty ho hx5 (by decide) hb'
theorem lost_end (a : A) (x : Int) (N : Nat) (hN : (N : Int) = a.made) : ∀ p ∈ pnums a.made, rpc { removeA a x with tids := a.tids } p = rpc (lostTo a x N) p := by
  intro p hp
  have hp1 : p ≤ (N : Int) := by
    unfold pnums at hp
    obtain ⟨k, hk, rfl⟩ := List.mem_map.1 hp
    have := List.mem_range.1 hk
    omega
  have e1 : (p ∈ (lostTo a x N).pids) ↔ (p ∈ ({ removeA a x with tids := a.tids } : A).pids) := by
    simp only [lostTo, removeA, List.mem_filter, Bool.not_eq_true', Bool.and_eq_false_iff, decide_eq_false_iff_not, beq_eq_false_iff_ne, bne_iff_ne]
    constructor
    · rintro ⟨h1, h2⟩
      exact ⟨h1, h2.resolve_left (fun h => h hp1)⟩
    · rintro ⟨h1, h2⟩
      exact ⟨h1, .inr h2⟩
  have e2 : (lostTo a x N).pk p = ({ removeA a x with tids := a.tids } : A).pk p := by simp only [lostTo, removeA, if_pos hp1]
  unfold rpc rpk
  simp only [e1, e2]
set_option maxHeartbeats 2000000 in
set_option maxRecDepth 100000 in
theorem rremove_none (B xb : Nat) (h : RG) (a : A) (w : World) (r : RRep B xb h a w) (gd : Good a) (x : Int) (hx : x ∉ a.tids) :
    Calls Try.prog 58 #[ptr xb, .int .i64 x] w (LeftR B xb h a w (.int .i64 190) a) := by
  have hlt := nodup_bound 20 a.tids gd.tnd (fun x hx => gd.trng x hx)
  have C62 := rfind B xb h a w r gd.tnd (by omega) x
  rw [posF_out hx] at C62
  have C62h := Lib.hid C62
  have R := Lib.hid r
  clear C62 r gd hx
  go_enter Try.func58, Try.ntmps58
  go_wp2_with (go_at_call 62; (with_reducible refine C62h.out.mono ?_); rintro e w' ⟨rfl, rfl⟩)
  go_ret
  exact LeftR.still R.out _ (Below.refl _ _)
set_option maxHeartbeats 2000000 in
set_option maxRecDepth 100000 in
theorem rremove_busy (B xb : Nat) (h : RG) (a : A) (w : World) (r : RRep B xb h a w) (gd : Good a) (x : Int) (hx : x ∈ a.tids) (hq : a.q x ≠ []) :
    Calls Try.prog 58 #[ptr xb, .int .i64 x] w (LeftR B xb h a w (.int .i64 5) a) := by
  have hlt := nodup_bound 20 a.tids gd.tnd (fun x hx => gd.trng x hx)
  obtain ⟨m, hm1, hm2, hm3⟩ := posF_in hx
  have D62 := Lib.hid (show ∀ w', RRep B xb h a w' → Calls Try.prog 62 #[ptr xb, .int .i64 x] w' fun e w'' => e = .returned (.int .i64 m) ∧ w' = w'' from fun w' hr => by
    have := rfind B xb h a w' hr gd.tnd (by omega) x
    rw [hm1] at this
    exact this)
  obtain ⟨gt, ct, hv, ⟨tcur, htb⟩, hct⟩ := row_cells (f := rtc a h.qv) (sz := 7) (fun _ => rfl) r.trow hm2
  have k0 := r.k0
  rw [hv] at k0
  have t3 : w.cell? ⟨gt, m * 7 + 3, none⟩ = some (.bool (a.tk x).waiting) := hct 3 (by omega)
  have t4 : w.cell? ⟨gt, m * 7 + 4, none⟩ = some (.int .i64 (a.tk x).forr) := hct 4 (by omega)
  have t5 : w.cell? ⟨gt, m * 7 + 5, none⟩ = some (.int .i64 (a.tk x).flags) := hct 5 (by omega)
  have t6 : w.cell? ⟨gt, m * 7 + 6, none⟩ = some (h.qv x) := hct 6 (by omega)
  have tf : ∀ j, w.frozen? ⟨gt, j, none⟩ = false := fun j => free_of htb j
  have tf3 := tf (m * 7 + 3)
  have tf4 := tf (m * 7 + 4)
  have tf5 := tf (m * 7 + 5)
  have hm20 : m ≤ 20 := by omega
  have HTG := Lib.hid (show h.tv.ownBlock = some gt by rw [hv]; rfl)
  have HM2 := Lib.hid hm2
  obtain ⟨va, vc, hqv⟩ := own_form (r.row x (.inl hx))
  rw [hqv] at t6
  have hq0 : 0 < (a.q x).length := List.length_pos_iff.2 hq
  have hqd : decide ((0 : Int) < ((a.q x).length : Int)) = true := by simp; omega
  have R := Lib.hid r
  clear r gd hx hm1 hm2 hct hv htb tf hqv hq
  go_enter Try.func58, Try.ntmps58
  go_wp2_with (go_at_call 62; (with_reducible refine (D62.out _ R.out).mono ?_); rintro e w' ⟨rfl, rfl⟩)
  go_ret
  exact LeftR.still R.out _ (Below.refl _ _)
set_option maxHeartbeats 4000000 in
set_option maxRecDepth 100000 in
theorem rremove_queued (B xb : Nat) (h : RG) (a : A) (w : World) (r : RRep B xb h a w) (gd : Good a) (g2 : Good2 a) (x : Int) (hx : x ∈ a.tids) (hq : a.q x = []) (hbz : ∃ p ∈ a.pids, busyP a x p = true) :
    Calls Try.prog 58 #[ptr xb, .int .i64 x] w (LeftR B xb h a w (.int .i64 5) a) := by
  have hlt := nodup_bound 20 a.tids gd.tnd (fun x hx => gd.trng x hx)
  obtain ⟨m, hm1, hm2, hm3⟩ := posF_in hx
  have D62 := Lib.hid (show ∀ w', RRep B xb h a w' → Calls Try.prog 62 #[ptr xb, .int .i64 x] w' fun e w'' => e = .returned (.int .i64 m) ∧ w' = w'' from fun w' hr => by
    have := rfind B xb h a w' hr gd.tnd (by omega) x
    rw [hm1] at this
    exact this)
  obtain ⟨gt, ct, hv, ⟨tcur, htb⟩, hct⟩ := row_cells (f := rtc a h.qv) (sz := 7) (fun _ => rfl) r.trow hm2
  have k0 := r.k0
  rw [hv] at k0
  have t3 : w.cell? ⟨gt, m * 7 + 3, none⟩ = some (.bool (a.tk x).waiting) := hct 3 (by omega)
  have t4 : w.cell? ⟨gt, m * 7 + 4, none⟩ = some (.int .i64 (a.tk x).forr) := hct 4 (by omega)
  have t5 : w.cell? ⟨gt, m * 7 + 5, none⟩ = some (.int .i64 (a.tk x).flags) := hct 5 (by omega)
  have t6 : w.cell? ⟨gt, m * 7 + 6, none⟩ = some (h.qv x) := hct 6 (by omega)
  have tf : ∀ j, w.frozen? ⟨gt, j, none⟩ = false := fun j => free_of htb j
  have tf3 := tf (m * 7 + 3)
  have tf4 := tf (m * 7 + 4)
  have tf5 := tf (m * 7 + 5)
  have hm20 : m ≤ 20 := by omega
  have HTG := Lib.hid (show h.tv.ownBlock = some gt by rw [hv]; rfl)
  have HM2 := Lib.hid hm2
  obtain ⟨va, vc, hqv⟩ := own_form (r.row x (.inl hx))
  rw [hqv, hq] at t6
  have R := Lib.hid r
  have GD := Lib.hid gd
  have G2 := Lib.hid g2
  have hN := made_len gd
  have hmd := gd.made
  have hN200 : (pnums a.made).length ≤ 200 := by omega
  obtain ⟨pa, pc, hpv⟩ := own_form r.prow
  have k1 := r.k1
  rw [hpv] at k1
  have HPV := Lib.hid hpv
  have hx1 := gd.trng x hx
  have HX1 := Lib.hid hx1
  have HB := Lib.hid hbz
  have HMD := Lib.hid hmd
  have HN := Lib.hid hN
  have HXT := Lib.hid hx
  have HQ := Lib.hid hq
  have HM1 := Lib.hid hm1
  have HTV := Lib.hid hv
  have hmlt := hm3
  clear r gd g2 hx hm1 hm2 hct hv htb tf hqv hq hN hmd hpv hx1 hbz
  go_enter Try.func58, Try.ntmps58
  go_wp2_with (go_at_call 62; (with_reducible refine (D62.out _ R.out).mono ?_); rintro e w' ⟨rfl, rfl⟩)
  go_loop [6] (fun t => ∃ n : Nat, n ≤ (pnums a.made).length ∧ t = .int .i64 n ∧ ∀ p : Int, 1 ≤ p → p ≤ n → p ∈ a.pids → busyP a x p = false) (fun t => (pnums a.made).length - (intOf t).toNat)
  case atStart => exact ⟨0, Nat.zero_le _, rfl, fun p h1 h2 => absurd h2 (by simp; omega)⟩
  case round =>
    obtain ⟨n, hn, rfl, hall⟩ := hrel
    have HALL := Lib.hid hall
    clear hall
    by_cases hln : n < (pnums a.made).length
    · have hd : decide ((n : Int) < ((pnums a.made).length : Int)) = true := by simpa using hln
      obtain ⟨gp, cp, hvp, _, hcp⟩ := R.out.pcells GD.out (n := n) (by have := HN.out; omega)
      rw [HPV.out] at hvp
      simp only [Value.slice.injEq] at hvp
      obtain ⟨rfl, -, rfl⟩ := hvp
      have q3 : w.cell? ⟨gp, n * 7 + 3, none⟩ = some (.int .i64 (rpk a ((n : Int) + 1)).own) := hcp 3 (by omega)
      have q4 : w.cell? ⟨gp, n * 7 + 4, none⟩ = some (.int .i64 (rpk a ((n : Int) + 1)).at_) := hcp 4 (by omega)
      clear hcp
      by_cases hp : ((n : Int) + 1) ∈ a.pids
      · rw [rpk_in hp] at q3 q4
        have HP := Lib.hid hp
        clear hp
        cases hbb : busyP a x ((n : Int) + 1) with
        | true =>
          have hc : ((a.pk ((n : Int) + 1)).own == x) = true ∧ ((a.pk ((n : Int) + 1)).at_ != 0) = true := by
            unfold busyP at hbb
            simpa using hbb
          obtain ⟨hc1, hc2⟩ := hc
          clear hbb
          go_wp2_with fail
          go_ret
          exact LeftR.still R.out _ (Below.refl _ _)
        | false =>
          have HBB := Lib.hid hbb
          have hcase : ((a.pk ((n : Int) + 1)).own == x) = false ∨ (((a.pk ((n : Int) + 1)).own == x) = true ∧ ((a.pk ((n : Int) + 1)).at_ != 0) = false) := by
            unfold busyP at hbb
            cases ho : ((a.pk ((n : Int) + 1)).own == x) with
            | false => exact .inl rfl
            | true => rw [ho] at hbb; exact .inr ⟨rfl, by simpa using hbb⟩
          clear hbb
          rcases hcase with hc1 | ⟨hc1, hc2⟩
          all_goals
            go_wp2_with fail
            go_round
            case rel =>
              refine ⟨n + 1, by omega, by go_num, fun p h1 h2 h3 => ?_⟩
              by_cases hpn : p = (n : Int) + 1
              · rw [hpn]; exact HBB.out
              · exact HALL.out p h1 (by push_cast at h2; omega) h3
            case measure => simp [intOf]; omega
      · rw [rpk_out hp] at q3 q4
        have hc1 : ((0 : Int) == x) = false := by have := HX1.out; simp; omega
        simp only at q3 q4
        have HP := Lib.hid hp
        clear hp
        go_wp2_with fail
        go_round
        case rel =>
          refine ⟨n + 1, by omega, by go_num, fun p h1 h2 h3 => ?_⟩
          by_cases hpn : p = (n : Int) + 1
          · exact absurd (hpn ▸ h3) HP.out
          · exact HALL.out p h1 (by push_cast at h2; omega) h3
        case measure => simp [intOf]; omega
    · have hnl : n = (pnums a.made).length := by omega
      subst hnl
      have hd : decide (((pnums a.made).length : Int) < ((pnums a.made).length : Int)) = false := by simp
      exfalso
      obtain ⟨p, hp, hb⟩ := HB.out
      have h1 := GD.out.pkr p hp
      have := HALL.out p h1.1 (by have := HN.out; omega) hp
      rw [this] at hb
      cases hb
set_option maxHeartbeats 8000000 in
set_option maxRecDepth 100000 in
theorem rremove_ok (B xb : Nat) (h : RG) (a : A) (w : World) (r : RRep B xb h a w) (gd : Good a) (g2 : Good2 a) (x : Int) (hx : x ∈ a.tids) (hq : a.q x = []) (hbz : ∀ p ∈ a.pids, busyP a x p = false) :
    Calls Try.prog 58 #[ptr xb, .int .i64 x] w (LeftR B xb h a w (.int .i64 0) (removeA a x)) := by
  have hlt := nodup_bound 20 a.tids gd.tnd (fun x hx => gd.trng x hx)
  obtain ⟨m, hm1, hm2, hm3⟩ := posF_in hx
  have D62 := Lib.hid (show ∀ w', RRep B xb h a w' → Calls Try.prog 62 #[ptr xb, .int .i64 x] w' fun e w'' => e = .returned (.int .i64 m) ∧ w' = w'' from fun w' hr => by
    have := rfind B xb h a w' hr gd.tnd (by omega) x
    rw [hm1] at this
    exact this)
  obtain ⟨gt, ct, hv, ⟨tcur, htb⟩, hct⟩ := row_cells (f := rtc a h.qv) (sz := 7) (fun _ => rfl) r.trow hm2
  have k0 := r.k0
  rw [hv] at k0
  have t3 : w.cell? ⟨gt, m * 7 + 3, none⟩ = some (.bool (a.tk x).waiting) := hct 3 (by omega)
  have t4 : w.cell? ⟨gt, m * 7 + 4, none⟩ = some (.int .i64 (a.tk x).forr) := hct 4 (by omega)
  have t5 : w.cell? ⟨gt, m * 7 + 5, none⟩ = some (.int .i64 (a.tk x).flags) := hct 5 (by omega)
  have t6 : w.cell? ⟨gt, m * 7 + 6, none⟩ = some (h.qv x) := hct 6 (by omega)
  have tf : ∀ j, w.frozen? ⟨gt, j, none⟩ = false := fun j => free_of htb j
  have tf3 := tf (m * 7 + 3)
  have tf4 := tf (m * 7 + 4)
  have tf5 := tf (m * 7 + 5)
  have hm20 : m ≤ 20 := by omega
  have HTG := Lib.hid (show h.tv.ownBlock = some gt by rw [hv]; rfl)
  have HM2 := Lib.hid hm2
  obtain ⟨va, vc, hqv⟩ := own_form (r.row x (.inl hx))
  rw [hqv, hq] at t6
  have R := Lib.hid r
  have GD := Lib.hid gd
  have G2 := Lib.hid g2
  have hN := made_len gd
  have hmd := gd.made
  have hN200 : (pnums a.made).length ≤ 200 := by omega
  obtain ⟨pa, pc, hpv⟩ := own_form r.prow
  have k1 := r.k1
  rw [hpv] at k1
  have HPV := Lib.hid hpv
  have hx1 := gd.trng x hx
  have HX1 := Lib.hid hx1
  have HB := Lib.hid hbz
  have HMD := Lib.hid hmd
  have HN := Lib.hid hN
  have HXT := Lib.hid hx
  have HQ := Lib.hid hq
  have HM1 := Lib.hid hm1
  have HTV := Lib.hid hv
  have hmlt := hm3
  clear r gd g2 hx hm1 hm2 hct hv htb tf hqv hq hN hmd hpv hx1 hbz
  go_enter Try.func58, Try.ntmps58
  go_wp2_with (go_at_call 62; (with_reducible refine (D62.out _ R.out).mono ?_); rintro e w' ⟨rfl, rfl⟩)
  go_loop [6] (fun t => ∃ n : Nat, n ≤ (pnums a.made).length ∧ t = .int .i64 n ∧ ∀ p : Int, 1 ≤ p → p ≤ n → p ∈ a.pids → busyP a x p = false) (fun t => (pnums a.made).length - (intOf t).toNat)
  case atStart => exact ⟨0, Nat.zero_le _, rfl, fun p h1 h2 => absurd h2 (by simp; omega)⟩
  case round =>
    obtain ⟨n, hn, rfl, hall⟩ := hrel
    have HALL := Lib.hid hall
    clear hall
    by_cases hln : n < (pnums a.made).length
    · have hd : decide ((n : Int) < ((pnums a.made).length : Int)) = true := by simpa using hln
      obtain ⟨gp, cp, hvp, _, hcp⟩ := R.out.pcells GD.out (n := n) (by have := HN.out; omega)
      rw [HPV.out] at hvp
      simp only [Value.slice.injEq] at hvp
      obtain ⟨rfl, -, rfl⟩ := hvp
      have q3 : w.cell? ⟨gp, n * 7 + 3, none⟩ = some (.int .i64 (rpk a ((n : Int) + 1)).own) := hcp 3 (by omega)
      have q4 : w.cell? ⟨gp, n * 7 + 4, none⟩ = some (.int .i64 (rpk a ((n : Int) + 1)).at_) := hcp 4 (by omega)
      clear hcp
      by_cases hp : ((n : Int) + 1) ∈ a.pids
      · rw [rpk_in hp] at q3 q4
        have HP := Lib.hid hp
        clear hp
        cases hbb : busyP a x ((n : Int) + 1) with
        | true =>
          exact absurd hbb (by rw [HB.out _ HP.out]; simp)
        | false =>
          have HBB := Lib.hid hbb
          have hcase : ((a.pk ((n : Int) + 1)).own == x) = false ∨ (((a.pk ((n : Int) + 1)).own == x) = true ∧ ((a.pk ((n : Int) + 1)).at_ != 0) = false) := by
            unfold busyP at hbb
            cases ho : ((a.pk ((n : Int) + 1)).own == x) with
            | false => exact .inl rfl
            | true => rw [ho] at hbb; exact .inr ⟨rfl, by simpa using hbb⟩
          clear hbb
          rcases hcase with hc1 | ⟨hc1, hc2⟩
          all_goals
            go_wp2_with fail
            go_round
            case rel =>
              refine ⟨n + 1, by omega, by go_num, fun p h1 h2 h3 => ?_⟩
              by_cases hpn : p = (n : Int) + 1
              · rw [hpn]; exact HBB.out
              · exact HALL.out p h1 (by push_cast at h2; omega) h3
            case measure => simp [intOf]; omega
      · rw [rpk_out hp] at q3 q4
        have hc1 : ((0 : Int) == x) = false := by have := HX1.out; simp; omega
        simp only at q3 q4
        have HP := Lib.hid hp
        clear hp
        go_wp2_with fail
        go_round
        case rel =>
          refine ⟨n + 1, by omega, by go_num, fun p h1 h2 h3 => ?_⟩
          by_cases hpn : p = (n : Int) + 1
          · exact absurd (hpn ▸ h3) HP.out
          · exact HALL.out p h1 (by push_cast at h2; omega) h3
        case measure => simp [intOf]; omega
    · have hnl : n = (pnums a.made).length := by omega
      subst hnl
      have hd : decide (((pnums a.made).length : Int) < ((pnums a.made).length : Int)) = false := by simp
      go_wp2_with fail
      clear HALL
      go_loopw [7] (fun t wr => ∃ n : Nat, n ≤ (pnums a.made).length ∧ t = .int .i64 n ∧ Left B xb h a w h (lostTo a x n) wr) (fun t _ => (pnums a.made).length - (intOf t).toNat)
      case atStart => exact ⟨0, Nat.zero_le _, rfl, (Left.refl R.out (Below.refl _ _)).conv rfl rfl rfl rfl rfl rfl (fun p hp => by
        have hp1 : ¬ p ≤ ((0 : Nat) : Int) := by
          unfold pnums at hp
          obtain ⟨k, _, rfl⟩ := List.mem_map.1 hp
          omega
        rw [lost_rpc, if_neg hp1])⟩
      case round =>
        obtain ⟨n, hn, rfl, hl⟩ := hrel
        have rr := hl.rep
        have HLL := Lib.hid hl
        by_cases hln : n < (pnums a.made).length
        · have hd : decide ((n : Int) < ((pnums a.made).length : Int)) = true := by simpa using hln
          have k1' : wr.cell? ⟨xb, 1, none⟩ = some (.slice pa (pnums a.made).length pc) := by rw [rr.k1, HPV.out]
          have hpx := pnums_get a.made (p := (n : Int) + 1) ⟨by omega, by have := HN.out; omega⟩
          rw [show ((n : Int) + 1 - 1).toNat = n from by omega] at hpx
          obtain ⟨gp, cp, hvp, ⟨pcur, hpb⟩, hcp⟩ := row_cells (f := rpc (lostTo a x n)) (sz := 7) (fun _ => rfl) (show wr.ownsRow B 93 7 h.pv (pnums a.made).length ((pnums a.made).flatMap (rpc (lostTo a x n))) from rr.prow) hpx
          have hgp : h.pv.ownBlock = some gp := by rw [hvp]; rfl
          rw [HPV.out] at hvp
          simp only [Value.slice.injEq] at hvp
          obtain ⟨rfl, -, rfl⟩ := hvp
          have hnow := lost_rpc_now a x n
          rw [hnow] at hcp
          have q0 : wr.cell? ⟨gp, n * 7, none⟩ = some (.int .i64 ((n : Int) + 1)) := hcp 0 (by omega)
          have q1 : wr.cell? ⟨gp, n * 7 + 1, none⟩ = some (.int .i64 (rpk a ((n : Int) + 1)).ty) := hcp 1 (by omega)
          have q2 : wr.cell? ⟨gp, n * 7 + 2, none⟩ = some (.int .i64 (rpk a ((n : Int) + 1)).res) := hcp 2 (by omega)
          have q3 : wr.cell? ⟨gp, n * 7 + 3, none⟩ = some (.int .i64 (rpk a ((n : Int) + 1)).own) := hcp 3 (by omega)
          have q4 : wr.cell? ⟨gp, n * 7 + 4, none⟩ = some (.int .i64 (rpk a ((n : Int) + 1)).at_) := hcp 4 (by omega)
          have q5 : wr.cell? ⟨gp, n * 7 + 5, none⟩ = some (.int .i64 (rpk a ((n : Int) + 1)).frm) := hcp 5 (by omega)
          have q6 : wr.cell? ⟨gp, n * 7 + 6, none⟩ = some (.int .i64 (rpk a ((n : Int) + 1)).wth) := hcp 6 (by omega)
          have pf0 : wr.frozen? ⟨gp, n * 7, none⟩ = false := free_of hpb _
          have pf1 : wr.frozen? ⟨gp, n * 7 + 1, none⟩ = false := free_of hpb _
          have pf2 : wr.frozen? ⟨gp, n * 7 + 2, none⟩ = false := free_of hpb _
          have pf3 : wr.frozen? ⟨gp, n * 7 + 3, none⟩ = false := free_of hpb _
          have pf4 : wr.frozen? ⟨gp, n * 7 + 4, none⟩ = false := free_of hpb _
          have pf5 : wr.frozen? ⟨gp, n * 7 + 5, none⟩ = false := free_of hpb _
          have pf6 : wr.frozen? ⟨gp, n * 7 + 6, none⟩ = false := free_of hpb _
          have HPX := Lib.hid hpx
          have HGP := Lib.hid hgp
          have hin := fun (hp : ((n : Int) + 1) ∈ a.pids) => rpk_in hp
          have hout := fun (hp : ((n : Int) + 1) ∉ a.pids) => rpk_out hp
          have RR := Lib.hid rr
          clear hcp hpb hnow hl rr hpx hgp
          by_cases hp : ((n : Int) + 1) ∈ a.pids
          · have HP := Lib.hid hp
            rw [hin hp] at q1 q2 q3 q4 q5 q6
            clear hin hout hp
            by_cases ho : (a.pk ((n : Int) + 1)).own = x
            · have hb1 : ((a.pk ((n : Int) + 1)).own == x) = true := by simp [ho]
              have HO := Lib.hid ho
              clear ho
              go_wp2_with fail
              go_roundw
              case rel =>
                refine ⟨n + 1, by omega, by go_num, HLL.out.trans (RR.out.setP HGP.out (((((((Touch.setCell _ _ _ (S := fun k => k = gp) rfl).trans (Touch.setCell _ _ _ rfl)).trans (Touch.setCell _ _ _ rfl)).trans (Touch.setCell _ _ _ rfl)).trans (Touch.setCell _ _ _ rfl)).trans (Touch.setCell _ _ _ rfl)).trans (Touch.setCell _ _ _ rfl)) (pset7 (f := rpc (lostTo a x n)) (fun _ => rfl) RR.out.prow (pnums_nodup _) HPX.out HGP.out (.int .i64 ((n : Int) + 1)) (.int .i64 0) (.int .i64 0) (.int .i64 0) (.int .i64 0) (.int .i64 0) (.int .i64 0) ?_ (fun y _ hy => lost_rpc_ne a x n y hy)) rfl rfl rfl rfl rfl rfl)⟩
                rw [lost_rpc, if_pos (by push_cast; omega), if_neg (fun hh => hh.2 HO.out)]
              case measure => simp [intOf]; omega
            · have hb1 : ((a.pk ((n : Int) + 1)).own == x) = false := by simp [ho]
              have HO := Lib.hid ho
              clear ho
              by_cases hw : (a.pk ((n : Int) + 1)).wth = x
              · have hb2 : ((a.pk ((n : Int) + 1)).wth == x) = true := by simp [hw]
                have HW := Lib.hid hw
                clear hw
                go_wp2_with fail
                go_roundw
                case rel =>
                  have hlt7 : n * 7 + 6 < (pnums a.made).length * 7 := by omega
                  have hs := row_set (show wr.ownsRow B 93 7 h.pv (pnums a.made).length ((pnums a.made).flatMap (rpc (lostTo a x n))) from RR.out.prow) HGP.out hlt7 (.int .i64 0)
                  rw [← flat_set (rpc (lostTo a x n)) (rpc (lostTo a x (n + 1))) 7 (fun _ => rfl) ((n : Int) + 1) 6 (.int .i64 0) (by omega) (by rw [lost_rpc_now, lost_rpc, if_pos (by push_cast; omega), if_pos ⟨HP.out, HO.out⟩, if_pos HW.out]) (pnums a.made) n (pnums_nodup _) HPX.out (fun y _ hy => lost_rpc_ne a x n y hy)] at hs
                  exact ⟨n + 1, by omega, by go_num, HLL.out.trans (RR.out.setP HGP.out (Touch.setCell _ _ _ (S := fun k => k = gp) rfl) hs rfl rfl rfl rfl rfl rfl)⟩
                case measure => simp [intOf]; omega
              · have hb2 : ((a.pk ((n : Int) + 1)).wth == x) = false := by simp [hw]
                have HW := Lib.hid hw
                clear hw
                go_wp2_with fail
                go_roundw
                case rel =>
                  refine ⟨n + 1, by omega, by go_num, HLL.out.conv rfl rfl rfl rfl rfl rfl (fun p _ => ?_)⟩
                  by_cases hpn : p = (n : Int) + 1
                  · rw [hpn, lost_rpc_now, lost_rpc, if_pos (by push_cast; omega), if_pos ⟨HP.out, HO.out⟩, if_neg HW.out]
                  · exact lost_rpc_ne a x n p hpn
                case measure => simp [intOf]; omega
          · have HP := Lib.hid hp
            rw [hout hp] at q1 q2 q3 q4 q5 q6
            simp only at q1 q2 q3 q4 q5 q6
            clear hin hout hp
            have hb1 : ((0 : Int) == x) = false := by have := HX1.out; simp; omega
            go_wp2_with fail
            go_roundw
            case rel =>
              refine ⟨n + 1, by omega, by go_num, HLL.out.conv rfl rfl rfl rfl rfl rfl (fun p _ => ?_)⟩
              by_cases hpn : p = (n : Int) + 1
              · rw [hpn, lost_rpc_now, lost_rpc, if_pos (by push_cast; omega), if_neg (fun hh => HP.out hh.1)]
                unfold rpc
                rw [rpk_out HP.out]
              · exact lost_rpc_ne a x n p hpn
            case measure => simp [intOf]; omega
        · have hnl : n = (pnums a.made).length := by omega
          subst hnl
          have hd : decide (((pnums a.made).length : Int) < ((pnums a.made).length : Int)) = false := by simp
          clear k1 k0 t3 t4 t5 t6 tf3 tf4 tf5
          obtain ⟨i0, hi0, hz0, hz1, hz2⟩ := info_parts info92
          have xl := blt rr.blk
          have hfr := rr.kf 0
          have k0r := rr.k0
          rw [HTV.out] at k0r
          have k1r : wr.cell? ⟨xb, 1, none⟩ = some (.slice pa (pnums a.made).length pc) := by rw [rr.k1, HPV.out]
          have hmct' : m ≤ m + 1 := by omega
          have L1 := Lib.hid (hl.conv (a'' := { removeA a x with tids := a.tids }) rfl (show a.tk = a.tk from rfl) rfl rfl rfl rfl (lost_end a x _ HN.out))
          have htr : wr.ownsRow B 92 7 h.tv a.tids.length (a.tids.flatMap (rtc a h.qv)) := L1.out.rep.trow
          have hrd : Reads wr wr.heap.size 7 (some ⟨gt, 0, none⟩) a.tids.length (a.tids.flatMap (rtc a h.qv)) := Reads.of_own (base := B) (e := 92) (c := ct) (by rw [← HTV.out]; exact htr)
          have hcap : a.tids.length ≤ ct := by
            rcases htr.2 with ⟨h1, _⟩ | ⟨g', cap, cur, h1, _, _, h4, _⟩
            · rw [HTV.out] at h1; cases h1
            · rw [HTV.out] at h1
              simp only [Value.slice.injEq] at h1
              rw [h1.2.2]; exact h4
          have htak := flat_take (rtc a h.qv) 7 (fun _ => rfl) a.tids m
          have hdrp := flat_drop (rtc a h.qv) 7 (fun _ => rfl) a.tids (m + 1)
          have hone := rtc_one a (fun i => if a.owner i then h.qv i else .slice none 0 0) (fun i => by
            by_cases hi : a.owner i
            · obtain ⟨p, c, hq⟩ := own_form (R.out.row i hi)
              exact ⟨p, _, c, by simp only [if_pos hi]; exact hq⟩
            · exact ⟨none, 0, 0, by simp only [if_neg hi]⟩)
          have hsame : ∀ l : List Int, (∀ i ∈ l, i ∈ a.tids) → l.flatMap (rtc a (fun i => if a.owner i then h.qv i else .slice none 0 0)) = l.flatMap (rtc a h.qv) := fun l hl => by
            rw [List.flatMap_def, List.flatMap_def, List.map_congr_left (fun i hi => by
              show rtc a (fun i => if a.owner i then h.qv i else .slice none 0 0) i = rtc a h.qv i
              simp only [rtc, if_pos (show a.owner i from .inl (hl i hi))])]
          have one1 : ∀ u ∈ (a.tids.take m).flatMap (rtc a h.qv), u.oneCell' = true := by rw [← hsame _ (fun i hi => List.mem_of_mem_take hi)]; exact hone _
          have one2 : ∀ u ∈ (a.tids.drop (m + 1)).flatMap (rtc a h.qv), u.oneCell' = true := by rw [← hsame _ (fun i hi => List.mem_of_mem_drop hi)]; exact hone _
          have RD1 := Lib.hid (show Reads wr wr.heap.size 7 (some ⟨gt, 0, none⟩) m ((a.tids.take m).flatMap (rtc a h.qv)) from ⟨by rw [flat_len _ 7 (fun _ => rfl), List.length_take]; congr 1; omega, fun hk0 => by
            obtain ⟨ad, h1, h2, h3⟩ := hrd.2 (by omega)
            refine ⟨ad, h1, h2, fun j u hu => h3 j u ?_⟩
            rw [htak] at hu
            rw [List.getElem?_take] at hu
            split at hu
            · exact hu
            · cases hu⟩)
          have ONE1 := Lib.hid one1
          have ONE2 := Lib.hid one2
          have FINI := Lib.hid (show ∀ (w5 : World) (tv : Value), Below wr.heap.size wr w5 → w5.ownsRow wr.heap.size 92 7 tv (m + (a.tids.length - (m + 1))) ((a.tids.take m).flatMap (rtc a h.qv) ++ (a.tids.drop (m + 1)).flatMap (rtc a h.qv)) → LeftR B xb h a w (.int .i64 0) (removeA a x) (.returned (.int .i64 0)) (w5.setCell ⟨xb, 0, none⟩ tv) from fun w5 tv hb5 ho5 => by
            have e1 : a.tids.filter (fun i => i != x) = a.tids.take m ++ a.tids.drop (m + 1) := by rw [← eraseIdx_filter GD.out.tnd HM2.out, List.eraseIdx_eq_take_drop_succ]
            have ho6 : w5.ownsRow wr.heap.size 92 7 tv (a.tids.filter (fun i => i != x)).length ((a.tids.filter (fun i => i != x)).flatMap (rtc a h.qv)) := by
              rw [e1, List.flatMap_append, List.length_append, List.length_take, List.length_drop, show min m a.tids.length = m from by omega]
              exact ho5
            have L2 := L1.out.rep.setTids (a.tids.filter (fun i => i != x)) (fun i hi => (List.mem_filter.1 hi).1) tv hb5 ho6
            exact ⟨rfl, _, L1.out.trans L2⟩)
          have hm20' : m ≤ 20 := hm20
          have hl20 : a.tids.length ≤ 20 := hlt
          by_cases hck : ct = m + 1
          · subst hck
            have hlen : a.tids.length - (m + 1) = 0 := by omega
            have RD3 := Lib.hid (show Reads wr wr.heap.size 7 (some ⟨gt, 0, none⟩) 0 ((a.tids.drop (m + 1)).flatMap (rtc a h.qv)) from ⟨by rw [flat_len _ 7 (fun _ => rfl), List.length_drop, hlen], fun h0 => absurd h0 (by omega)⟩)
            have HLEN := Lib.hid hlen
            clear htak hdrp hrd hone hsame one1 one2 htr rr hl hlen
            go_wp2_with (first | (at_builtin; refine wpList_append_any _ rfl (.tmp 92) (.tmp 98) 59 rfl wr.heap.size 92 i0 (.agg #[.int .i64 0, .int .i64 0, .bool false, .bool false, .int .i64 0, .int .i64 0, .slice none 0 0]) 7 64 Try.underlying59 hi0 hz0 hz1 hz2 rfl (by decide) (.slice (some ⟨wr.heap.size, 0, none⟩) 0 0) 0 [] rfl ⟨rfl, .inr ⟨wr.heap.size, 0, #[], rfl, Nat.le_refl _, alloc_new wr _, Nat.le_refl _, by decide, rfl, rfl⟩⟩ wr.heap.size (some ⟨gt, 0, none⟩) m (m + 1) ((a.tids.take m).flatMap (rtc a h.qv)) rfl (RD1.out.alloc (Nat.le_refl _) _) ONE1.out (by unfold maxLen; omega) (by omega) (by simp) ?_; intro v1 w1 ho1 hg1 hl1; simp only [Nat.zero_add, List.nil_append] at ho1; have HO1 := Lib.hid ho1; have BW1 := Lib.hid ((Below.refl wr.heap.size wr).grown ((World.grownBy_alloc wr _ _).trans hg1) (Nat.le_refl _) (fun k hk => by simp [Value.ownBlock] at hk; omega)); (obtain ⟨va1, vc1, rfl⟩ := own_form ho1); have sz1 : wr.heap.size ≤ w1.heap.size := BW1.out.size; have k02 := (BW1.out.cell (p := ⟨xb, 0, none⟩) xl).trans k0r; clear ho1 hg1 hl1) | (at_builtin; refine wpList_append_any _ rfl (.tmp 101) (.tmp 108) 59 rfl wr.heap.size 92 i0 (.agg #[.int .i64 0, .int .i64 0, .bool false, .bool false, .int .i64 0, .int .i64 0, .slice none 0 0]) 7 64 Try.underlying59 hi0 hz0 hz1 hz2 rfl (by decide) (.slice va1 m vc1) m _ rfl HO1.out wr.heap.size (some ⟨gt, 0, none⟩) 0 0 ((a.tids.drop (m + 1)).flatMap (rtc a h.qv)) rfl (RD3.out.below BW1.out) ONE2.out (by unfold maxLen; omega) (by omega) (by omega) ?_; intro v3 w3 ho3 hg3 hl3; have HO3 := Lib.hid ho3; have BW3 := Lib.hid (BW1.out.trans ((Below.refl _ _).grown hg3 sz1 (fun k hk => (own_block HO1.out hk).1))); (obtain ⟨va3, vc3, rfl⟩ := own_form ho3); have k03 := (BW3.out.cell (p := ⟨xb, 0, none⟩) xl).trans k0r; have f03 := (BW3.out.frozen (p := ⟨xb, 0, none⟩) xl).trans hfr; clear ho3 hg3 hl3))
            go_ret
            exact FINI.out w3 _ BW3.out (by rw [HLEN.out]; exact HO3.out)
          · have RD3 := Lib.hid (show Reads wr wr.heap.size 7 (some ⟨gt, (m + 1) * 7, none⟩) (a.tids.length - (m + 1)) ((a.tids.drop (m + 1)).flatMap (rtc a h.qv)) from by
              have := hrd.cut (k := m + 1) (cap := ct) (by omega) hcap
              rw [if_neg hck, ← hdrp] at this
              simpa [Addr.add_lit] using this)
            have hct0 : ¬ ct = 0 := by omega
            have hmct : m + 1 ≤ ct := by omega
            have hmct2 : m ≤ ct := by omega
            clear htak hdrp hrd hone hsame one1 one2 htr rr hl
            go_wp2_with (first | (at_builtin; refine wpList_append_any _ rfl (.tmp 92) (.tmp 98) 59 rfl wr.heap.size 92 i0 (.agg #[.int .i64 0, .int .i64 0, .bool false, .bool false, .int .i64 0, .int .i64 0, .slice none 0 0]) 7 64 Try.underlying59 hi0 hz0 hz1 hz2 rfl (by decide) (.slice (some ⟨wr.heap.size, 0, none⟩) 0 0) 0 [] rfl ⟨rfl, .inr ⟨wr.heap.size, 0, #[], rfl, Nat.le_refl _, alloc_new wr _, Nat.le_refl _, by decide, rfl, rfl⟩⟩ wr.heap.size (some ⟨gt, 0, none⟩) m ct ((a.tids.take m).flatMap (rtc a h.qv)) rfl (RD1.out.alloc (Nat.le_refl _) _) ONE1.out (by unfold maxLen; omega) (by omega) (by simp) ?_; intro v1 w1 ho1 hg1 hl1; simp only [Nat.zero_add, List.nil_append] at ho1; have HO1 := Lib.hid ho1; have BW1 := Lib.hid ((Below.refl wr.heap.size wr).grown ((World.grownBy_alloc wr _ _).trans hg1) (Nat.le_refl _) (fun k hk => by simp [Value.ownBlock] at hk; omega)); (obtain ⟨va1, vc1, rfl⟩ := own_form ho1); have sz1 : wr.heap.size ≤ w1.heap.size := BW1.out.size; have k02 := (BW1.out.cell (p := ⟨xb, 0, none⟩) xl).trans k0r; clear ho1 hg1 hl1) | (at_builtin; refine wpList_append_any _ rfl (.tmp 101) (.tmp 108) 59 rfl wr.heap.size 92 i0 (.agg #[.int .i64 0, .int .i64 0, .bool false, .bool false, .int .i64 0, .int .i64 0, .slice none 0 0]) 7 64 Try.underlying59 hi0 hz0 hz1 hz2 rfl (by decide) (.slice va1 m vc1) m _ rfl HO1.out wr.heap.size (some ⟨gt, (m + 1) * 7, none⟩) (a.tids.length - (m + 1)) (ct - (m + 1)) ((a.tids.drop (m + 1)).flatMap (rtc a h.qv)) rfl (RD3.out.below BW1.out) ONE2.out (by unfold maxLen; omega) (by omega) (by omega) ?_; intro v3 w3 ho3 hg3 hl3; have HO3 := Lib.hid ho3; have BW3 := Lib.hid (BW1.out.trans ((Below.refl _ _).grown hg3 sz1 (fun k hk => (own_block HO1.out hk).1))); (obtain ⟨va3, vc3, rfl⟩ := own_form ho3); have k03 := (BW3.out.cell (p := ⟨xb, 0, none⟩) xl).trans k0r; have f03 := (BW3.out.frozen (p := ⟨xb, 0, none⟩) xl).trans hfr; clear ho3 hg3 hl3))
            go_ret
            exact FINI.out w3 _ BW3.out HO3.out
end Go.Proofs.Ytkmgbnklfnjfjaa.Ker
