import Derived.Test.YtkmgbnklfnjfjaaRK
/-! The specification's kernel: remove, the parts. -/
namespace Go.Proofs.Ytkmgbnklfnjfjaa.Ker
open Go.RowKit Go.Maps

theorem RRep.conv {B xb : Nat} {h : RG} {a a' : A} {w : World} (r : RRep B xb h a w) (h1 : a'.tids = a.tids) (h2 : a'.tk = a.tk) (h3 : a'.q = a.q) (h4 : a'.made = a.made) (h5 : a'.calls = a.calls) (h6 : a'.moves = a.moves) (hp : ∀ p ∈ pnums a.made, rpc a' p = rpc a p) : RRep B xb h a' w := by
  have ho : ∀ i, a'.owner i → a.owner i := fun i hi => hi.imp (fun h => h1 ▸ h) id
  refine ⟨?_, ?_, ?_, ?_, ?_, fun i j hij hi hj => r.sep i j hij (ho i hi) (ho j hj), r.low⟩
  · have e : rcells h a' = rcells h a := by simp only [rcells, h5]
    rw [e]; exact r.blk
  · have e : rtc a' h.qv = rtc a h.qv := by funext i; simp only [rtc, h2]
    rw [e, h1]; exact r.trow
  · rw [h4, List.flatMap_def, List.map_congr_left hp, ← List.flatMap_def]; exact r.prow
  · rw [h6]; exact r.mrow
  · intro i hi
    rw [h3]; exact r.row i (ho i hi)
theorem Left.conv {B xb : Nat} {h h' : RG} {a a' a'' : A} {w w' : World} (l : Left B xb h a w h' a' w') (h1 : a''.tids = a'.tids) (h2 : a''.tk = a'.tk) (h3 : a''.q = a'.q) (h4 : a''.made = a'.made) (h5 : a''.calls = a'.calls) (h6 : a''.moves = a'.moves) (hp : ∀ p ∈ pnums a'.made, rpc a'' p = rpc a' p) : Left B xb h a w h' a'' w' :=
  ⟨l.rep.conv h1 h2 h3 h4 h5 h6 hp, l.touch, fun k hk => l.own k (by
    rcases hk with hk | hk | hk | hk | ⟨i, hi, hk⟩
    · exact .inl hk
    · exact .inr (.inl hk)
    · exact .inr (.inr (.inl hk))
    · exact .inr (.inr (.inr (.inl hk)))
    · exact .inr (.inr (.inr (.inr ⟨i, hi.imp (fun h => h1 ▸ h) id, hk⟩))))⟩
/-- The packets' row has turned in place. -/
theorem RRep.setP {B xb : Nat} {h : RG} {a a' : A} {w w' : World} (r : RRep B xb h a w) {g : Nat} (hg : h.pv.ownBlock = some g) (ht : Touch w w' (fun k => k = g)) (hrow : w'.ownsRow B 93 7 h.pv (pnums a.made).length ((pnums a.made).flatMap (rpc a')))
    (h1 : a'.tids = a.tids) (h2 : a'.tk = a.tk) (h3 : a'.q = a.q) (h4 : a'.made = a.made) (h5 : a'.calls = a.calls) (h6 : a'.moves = a.moves) : Left B xb h a w h a' w' := by
  have ho : ∀ i, a'.owner i → a.owner i := fun i hi => hi.imp (fun h => h1 ▸ h) id
  obtain ⟨_, cur, hc⟩ := own_block r.prow hg
  refine ⟨⟨?_, ?_, ?_, ?_, ?_, fun i j hij hi hj => r.sep i j hij (ho i hi) (ho j hj), r.low⟩, ht.mono (fun k _ hk => .inr (.inr (.inl (hk ▸ hg)))), fun k hk => .inl (by
    rcases hk with hk | hk | hk | hk | ⟨i, hi, hk⟩
    · exact .inl hk
    · exact .inr (.inl hk)
    · exact .inr (.inr (.inl hk))
    · exact .inr (.inr (.inr (.inl hk)))
    · exact .inr (.inr (.inr (.inr ⟨i, ho i hi, hk⟩))))⟩
  · have e : rcells h a' = rcells h a := by simp only [rcells, h5]
    rw [e]; exact (ht.block _ (blt r.blk) (ty_ne r.blk hc (by decide))).trans r.blk
  · have e : rtc a' h.qv = rtc a h.qv := by funext i; simp only [rtc, h2]
    rw [e, h1]; exact row_kept ht r.trow (fun b hb e => own_ty r.trow hc (by decide) (e ▸ hb))
  · rw [h4]; exact hrow
  · rw [h6]; exact row_kept ht r.mrow (fun b hb e => own_ty r.mrow hc (by decide) (e ▸ hb))
  · intro i hi
    rw [h3]; exact row_kept ht (r.row i (ho i hi)) (fun b hb e => own_ty (r.row i (ho i hi)) hc (by decide) (e ▸ hb))
/-- The packets up to m have been looked at. -/
def lostTo (a : A) (x : Int) (m : Nat) : A := { a with pids := a.pids.filter (fun p => !(decide (p ≤ (m : Int)) && (a.pk p).own == x)), pk := fun p => if p ≤ (m : Int) then lostP a x p else a.pk p }
theorem lost_rpc (a : A) (x : Int) (m : Nat) (p : Int) : rpc (lostTo a x m) p = if p ≤ (m : Int) then (if p ∈ a.pids ∧ (a.pk p).own ≠ x then (if (a.pk p).wth = x then (rpc a p).set 6 (.int .i64 0) else rpc a p) else [.int .i64 p, .int .i64 0, .int .i64 0, .int .i64 0, .int .i64 0, .int .i64 0, .int .i64 0]) else rpc a p := by
  unfold rpc rpk
  have hm : p ∈ (lostTo a x m).pids ↔ p ∈ a.pids ∧ ¬ (p ≤ (m : Int) ∧ (a.pk p).own = x) := by
    unfold lostTo
    simp only [List.mem_filter, Bool.not_eq_true', Bool.and_eq_false_iff, decide_eq_false_iff_not, beq_eq_false_iff_ne]
    constructor
    · rintro ⟨h1, h2⟩
      exact ⟨h1, fun hh => h2.elim (fun h => h hh.1) (fun h => h hh.2)⟩
    · rintro ⟨h1, h2⟩
      refine ⟨h1, ?_⟩
      by_cases hc : p ≤ (m : Int)
      · exact .inr (fun h => h2 ⟨hc, h⟩)
      · exact .inl hc
  by_cases h1 : p ≤ (m : Int)
  · rw [if_pos h1]
    by_cases h2 : p ∈ a.pids ∧ (a.pk p).own ≠ x
    · rw [if_pos h2, if_pos (hm.2 ⟨h2.1, fun hh => h2.2 hh.2⟩), if_pos h2.1]
      simp only [lostTo, if_pos h1, lostP]
      by_cases h3 : (a.pk p).wth = x
      · rw [if_pos h3, if_pos h3]; rfl
      · rw [if_neg h3, if_neg h3]
    · rw [if_neg h2, if_neg (fun hh => h2 ⟨(hm.1 hh).1, fun e => (hm.1 hh).2 ⟨h1, e⟩⟩)]
  · rw [if_neg h1]
    by_cases h2 : p ∈ a.pids
    · rw [if_pos h2, if_pos (hm.2 ⟨h2, fun hh => h1 hh.1⟩)]
      simp only [lostTo, if_neg h1]
    · rw [if_neg h2, if_neg (fun hh => h2 (hm.1 hh).1)]
theorem lost_rpc_ne (a : A) (x : Int) (n : Nat) (p : Int) (hp : p ≠ (n : Int) + 1) : rpc (lostTo a x (n + 1)) p = rpc (lostTo a x n) p := by
  rw [lost_rpc, lost_rpc]
  have e : (p ≤ ((n + 1 : Nat) : Int)) ↔ p ≤ (n : Int) := by omega
  simp only [e]
/-- The packet n + 1, not yet looked at. -/
theorem lost_rpc_now (a : A) (x : Int) (n : Nat) : rpc (lostTo a x n) ((n : Int) + 1) = rpc a ((n : Int) + 1) := by rw [lost_rpc, if_neg (by omega)]
theorem pset7 {B : Nat} {w : World} {pv : Value} {l : List Int} {f f' : Int → List Value} {n g : Nat} {p : Int} (hf : ∀ x, (f x).length = 7) (h : w.ownsRow B 93 7 pv l.length (l.flatMap f)) (nd : l.Nodup) (hp : l[n]? = some p) (hg : pv.ownBlock = some g) (v0 v1 v2 v3 v4 v5 v6 : Value) (h1 : f' p = [v0, v1, v2, v3, v4, v5, v6]) (h2 : ∀ y ∈ l, y ≠ p → f' y = f y) :
    (((((((w.setCell ⟨g, n * 7, none⟩ v0).setCell ⟨g, n * 7 + 1, none⟩ v1).setCell ⟨g, n * 7 + 2, none⟩ v2).setCell ⟨g, n * 7 + 3, none⟩ v3).setCell ⟨g, n * 7 + 4, none⟩ v4).setCell ⟨g, n * 7 + 5, none⟩ v5).setCell ⟨g, n * 7 + 6, none⟩ v6).ownsRow B 93 7 pv l.length (l.flatMap f') := by
  have hn := (List.getElem?_eq_some_iff.1 hp).1
  have hb : ∀ j, j < 7 → n * 7 + j < l.length * 7 := fun j hj => by have : (n + 1) * 7 ≤ l.length * 7 := Nat.mul_le_mul_right _ hn; omega
  have k := row_set (row_set (row_set (row_set (row_set (row_set (row_set h hg (hb 0 (by omega)) v0) hg (hb 1 (by omega)) v1) hg (hb 2 (by omega)) v2) hg (hb 3 (by omega)) v3) hg (hb 4 (by omega)) v4) hg (hb 5 (by omega)) v5) hg (hb 6 (by omega)) v6
  have hl : (l.flatMap f).length = l.length * 7 := flat_len f 7 hf l
  have e : l.flatMap f' = (((((((l.flatMap f).set (n * 7) v0).set (n * 7 + 1) v1).set (n * 7 + 2) v2).set (n * 7 + 3) v3).set (n * 7 + 4) v4).set (n * 7 + 5) v5).set (n * 7 + 6) v6 := by
    obtain ⟨c0, c1, c2, c3, c4, c5, c6, hc⟩ : ∃ c0 c1 c2 c3 c4 c5 c6, f p = [c0, c1, c2, c3, c4, c5, c6] := by
      have := hf p
      match f p, this with
      | [c0, c1, c2, c3, c4, c5, c6], _ => exact ⟨_, _, _, _, _, _, _, rfl⟩
    have st : ∀ (l0 l1 : List Value) (j : Nat) (u : Value), l0.length = 7 → j < 7 → l1 = l0.set j u → l.flatMap (fun y => if y = p then l1 else f y) = (l.flatMap (fun y => if y = p then l0 else f y)).set (n * 7 + j) u := fun l0 l1 j u h0 hj h1 =>
      flat_set (fun y => if y = p then l0 else f y) (fun y => if y = p then l1 else f y) 7 (fun y => by show (if y = p then l0 else f y).length = 7; split; exact h0; exact hf y) p j u hj (by simp [h1]) l n nd hp (fun y _ hy => by simp [hy])
    have s0 : l.flatMap f = l.flatMap (fun y => if y = p then f p else f y) := by
      have e0 : ∀ y ∈ l, f y = (fun y => if y = p then f p else f y) y := fun y _ => by by_cases hy : y = p <;> simp [hy]
      rw [List.flatMap_def, List.flatMap_def, List.map_congr_left e0]
    have s7 : l.flatMap f' = l.flatMap (fun y => if y = p then [v0, v1, v2, v3, v4, v5, v6] else f y) := by
      have e0 : ∀ y ∈ l, f' y = (fun y => if y = p then [v0, v1, v2, v3, v4, v5, v6] else f y) y := fun y hy => by
        by_cases hyp : y = p
        · subst hyp; simp [h1]
        · simp [hyp, h2 y hy hyp]
      rw [List.flatMap_def, List.flatMap_def, List.map_congr_left e0]
    rw [s7, s0, hc, ← Nat.add_zero (n * 7)]
    rw [← st _ _ 0 v0 rfl (by omega) rfl]
    simp only [Nat.add_zero]
    rw [← st _ _ 1 v1 rfl (by omega) rfl, ← st _ _ 2 v2 rfl (by omega) rfl, ← st _ _ 3 v3 rfl (by omega) rfl, ← st _ _ 4 v4 rfl (by omega) rfl, ← st _ _ 5 v5 rfl (by omega) rfl, ← st _ _ 6 v6 rfl (by omega) rfl]
    rfl
  rw [e]
  exact k
end Go.Proofs.Ytkmgbnklfnjfjaa.Ker
