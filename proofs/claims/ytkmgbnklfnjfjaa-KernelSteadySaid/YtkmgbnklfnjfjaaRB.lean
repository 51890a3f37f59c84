import Derived.Test.YtkmgbnklfnjfjaaRA
/-! The specification's kernel: what a store makes of its state. -/
namespace Go.Proofs.Ytkmgbnklfnjfjaa.Ker
open Go.RowKit Go.Maps

section
variable {B xb : Nat} {h : RG} {a : A} {w w' : World}
theorem ty_ne {w : World} {b b' : Nat} {c c' : Array Value} {t t' : TypeId} {f f' : Nat × Nat} (h : w.heap[b]? = some (.cells c t f)) (h' : w.heap[b']? = some (.cells c' t' f')) (ht : t ≠ t') : b ≠ b' := fun e => by
  subst e
  rw [h] at h'
  simp at h'
  exact ht h'.2.1
theorem own_ty {w : World} {B e sz : Nat} {v : Value} {n : Nat} {xs : List Value} {b : Nat} {c : Array Value} {t : TypeId} {f : Nat × Nat} (h : w.ownsRow B e sz v n xs) (hb : w.heap[b]? = some (.cells c t f)) (ht : t ≠ e) : v.ownBlock ≠ some b := fun hv => by
  obtain ⟨_, cur, hc⟩ := own_block h hv
  exact ty_ne hb hc ht rfl
theorem own_own {w : World} {B B' e e' sz sz' : Nat} {v v' : Value} {n n' : Nat} {xs xs' : List Value} (h : w.ownsRow B e sz v n xs) (h' : w.ownsRow B' e' sz' v' n' xs') (ht : e ≠ e') {b : Nat} (hb : v.ownBlock = some b) : v'.ownBlock ≠ some b := fun hv => by
  obtain ⟨_, cur, hc⟩ := own_block h hb
  exact own_ty h' hc ht hv
theorem dev_owner (a : A) {i : Int} (hi : i ∈ devs) : a.owner i := .inr hi
/-- A row whose block is not touched. -/
theorem row_kept {B e sz : Nat} {v : Value} {n : Nat} {xs : List Value} {S : Nat → Prop} (ht : Touch w w' S) (ho : w.ownsRow B e sz v n xs) (hs : ∀ b, v.ownBlock = some b → ¬ S b) : w'.ownsRow B e sz v n xs :=
  own_keep ho (fun b hb hl => ht.block b hl (hs b hb))

/-- A task's field has turned. -/
theorem RRep.setTk (r : RRep B xb h a w) (nd : a.tids.Nodup) {i : Int} {n g : Nat} (hi : a.tids[n]? = some i) (hg : h.tv.ownBlock = some g) (j : Nat) (hj : j < 7) (u : Value) (t : T) (hx : rtc { a with tk := upd a.tk i t } h.qv i = (rtc a h.qv i).set j u) :
    Left B xb h a w h { a with tk := upd a.tk i t } (w.setCell ⟨g, n * 7 + j, none⟩ u) := by
  have hn := (List.getElem?_eq_some_iff.1 hi).1
  have ht : Touch w (w.setCell ⟨g, n * 7 + j, none⟩ u) (fun k => k = g) := Touch.setCell _ _ _ rfl
  obtain ⟨_, cur, hc⟩ := own_block r.trow hg
  refine ⟨⟨(ht.block _ (blt r.blk) (ty_ne r.blk hc (by decide))).trans r.blk, ?_, row_kept ht r.prow (fun b hb e => own_ty r.prow hc (by decide) (e ▸ hb)), row_kept ht r.mrow (fun b hb e => own_ty r.mrow hc (by decide) (e ▸ hb)), fun k hk => row_kept ht (r.row k hk) (fun b hb e => own_ty (r.row k hk) hc (by decide) (e ▸ hb)), r.sep, r.low⟩, ht.mono (fun k _ hk => .inr (.inl (hk ▸ hg))), fun k hk => .inl hk⟩
  have h1 := row_set r.trow hg (k := n * 7 + j) (by have : (n + 1) * 7 ≤ a.tids.length * 7 := Nat.mul_le_mul_right _ hn; omega) u
  rw [← flat_set (rtc a h.qv) (rtc { a with tk := upd a.tk i t } h.qv) 7 (fun _ => rfl) i j u hj hx a.tids n nd hi (fun y _ hy => by simp only [rtc, upd_other _ _ hy])] at h1
  exact h1
theorem pnums_get (m : Int) {p : Int} (hp : 1 ≤ p ∧ p ≤ m) : (pnums m)[(p - 1).toNat]? = some p := by
  unfold pnums
  rw [List.getElem?_map, List.getElem?_range (by omega)]
  simp; omega
theorem pnums_nodup (m : Int) : (pnums m).Nodup := by
  unfold pnums
  rw [List.nodup_iff_pairwise_ne, List.pairwise_map]
  exact List.nodup_range.imp (fun h e => h (by omega))
theorem pnums_len (m : Int) : (pnums m).length = m.toNat := by simp [pnums]
/-- A packet's field has turned. -/
theorem RRep.setPk (r : RRep B xb h a w) {p : Int} {g : Nat} (hp : p ∈ a.pids) (hr : 1 ≤ p ∧ p ≤ a.made) (hg : h.pv.ownBlock = some g) (j : Nat) (hj : j < 7) (u : Value) (t : Pk) (hx : rpc { a with pk := upd a.pk p t } p = (rpc a p).set j u) :
    Left B xb h a w h { a with pk := upd a.pk p t } (w.setCell ⟨g, (p - 1).toNat * 7 + j, none⟩ u) := by
  have hi := pnums_get a.made hr
  have hn := (List.getElem?_eq_some_iff.1 hi).1
  have ht : Touch w (w.setCell ⟨g, (p - 1).toNat * 7 + j, none⟩ u) (fun k => k = g) := Touch.setCell _ _ _ rfl
  obtain ⟨_, cur, hc⟩ := own_block r.prow hg
  refine ⟨⟨(ht.block _ (blt r.blk) (ty_ne r.blk hc (by decide))).trans r.blk, row_kept ht r.trow (fun b hb e => own_ty r.trow hc (by decide) (e ▸ hb)), ?_, row_kept ht r.mrow (fun b hb e => own_ty r.mrow hc (by decide) (e ▸ hb)), fun k hk => row_kept ht (r.row k hk) (fun b hb e => own_ty (r.row k hk) hc (by decide) (e ▸ hb)), r.sep, r.low⟩, ht.mono (fun k _ hk => .inr (.inr (.inl (hk ▸ hg)))), fun k hk => .inl hk⟩
  have h1 := row_set r.prow hg (k := (p - 1).toNat * 7 + j) (by have : ((p - 1).toNat + 1) * 7 ≤ (pnums a.made).length * 7 := Nat.mul_le_mul_right _ hn; omega) u
  rw [← flat_set (rpc a) (rpc { a with pk := upd a.pk p t }) 7 (fun _ => rfl) p j u hj hx (pnums a.made) (p - 1).toNat (pnums_nodup _) hi (fun y _ hy => by
    have : rpk { a with pk := upd a.pk p t } y = rpk a y := by unfold rpk; simp only [upd_other _ _ hy]
    unfold rpc
    rw [this])] at h1
  exact h1
theorem rcells_q (h : RG) (a : A) (i : Int) (hi : i ∉ devs) (v : Value) (xs : List Int) : rcells { h with qv := upd h.qv i v } { a with q := upd a.q i xs } = rcells h a := by
  have e : ∀ k ∈ devs, upd h.qv i v k = h.qv k := fun k hk => upd_other _ _ (fun e => hi (e ▸ hk))
  simp only [rcells, e (-1) (by decide), e (-2) (by decide), e (-3) (by decide), e (-4) (by decide), e (-5) (by decide)]
/-- A task's queue has turned. -/
theorem RRep.setQt (r : RRep B xb h a w) (nd : a.tids.Nodup) {i : Int} {n g : Nat} (hi : a.tids[n]? = some i) (hnd : i ∉ devs) (hg : h.tv.ownBlock = some g) (v : Value) (xs : List Int) (ht : Touch w w' (fun k => k = g ∨ (h.qv i).ownBlock = some k))
    (htr : w'.ownsRow B 92 7 h.tv a.tids.length ((a.tids.flatMap (rtc a h.qv)).set (n * 7 + 6) v)) (hrow : w'.ownsRow B 3 1 v xs.length (xs.map fun p => .int .i64 p)) (hv : Fresh w.heap.size v (h.qv i)) :
    Left B xb h a w { h with qv := upd h.qv i v } { a with q := upd a.q i xs } w' := by
  have hio : a.owner i := .inl (List.mem_of_getElem? hi)
  obtain ⟨_, cur, hc⟩ := own_block r.trow hg
  have hS : ∀ b, ¬ (b = g ∨ (h.qv i).ownBlock = some b) ↔ b ≠ g ∧ (h.qv i).ownBlock ≠ some b := fun b => not_or
  refine ⟨⟨?_, ?_, row_kept ht r.prow (fun b hb => (hS b).2 ⟨fun e => own_ty r.prow hc (by decide) (e ▸ hb), own_own r.prow (r.row i hio) (by decide) hb⟩), row_kept ht r.mrow (fun b hb => (hS b).2 ⟨fun e => own_ty r.mrow hc (by decide) (e ▸ hb), own_own r.mrow (r.row i hio) (by decide) hb⟩), ?_, ?_, r.low⟩, ht.mono (fun k _ hk => by
    rcases hk with rfl | hk
    · exact .inr (.inl hg)
    · exact .inr (.inr (.inr (.inr ⟨i, hio, hk⟩)))), ?_⟩
  · rw [rcells_q h a i hnd v xs]
    exact (ht.block _ (blt r.blk) ((hS _).2 ⟨ty_ne r.blk hc (by decide), own_ty (r.row i hio) r.blk (by decide)⟩)).trans r.blk
  · rw [← flat_set (rtc a h.qv) (rtc { a with q := upd a.q i xs } (upd h.qv i v)) 7 (fun _ => rfl) i 6 v (by omega) (by simp [rtc, upd_same]) a.tids n nd hi (fun y _ hy => by simp only [rtc, upd_other _ _ hy])] at htr
    exact htr
  · intro k hk
    by_cases hki : k = i
    · subst hki
      simp only [upd_same]
      exact hrow
    · simp only [upd_other _ _ hki]
      exact row_kept ht (r.row k hk) (fun b hb => (hS b).2 ⟨fun e => own_ty (r.row k hk) hc (by decide) (e ▸ hb), fun e => r.sep k i hki hk hio b hb e⟩)
  · have key : ∀ k, k ≠ i → a.owner k → sepB v (h.qv k) := fun k hk ho b hb hb2 => by
      rcases hv b hb with hv | hl
      · exact r.sep i k (fun e => hk e.symm) hio ho b hv hb2
      · have := own_lt (r.row k ho) hb2
        omega
    intro p q hpq hp hq
    simp only
    by_cases h1 : p = i
    · subst h1
      rw [upd_same, upd_other _ _ (fun e => hpq e.symm)]
      exact key q (fun e => hpq e.symm) hq
    · by_cases h2 : q = i
      · subst h2
        rw [upd_same, upd_other _ _ h1]
        exact (key p h1 hp).symm
      · rw [upd_other _ _ h1, upd_other _ _ h2]
        exact r.sep p q hpq hp hq
  · intro k hk
    rcases hk with hk | hk | hk | hk | ⟨p, hp, hk⟩
    · exact .inl (.inl hk)
    · exact .inl (.inr (.inl hk))
    · exact .inl (.inr (.inr (.inl hk)))
    · exact .inl (.inr (.inr (.inr (.inl hk))))
    · simp only at hk
      by_cases hpi : p = i
      · subst hpi
        rw [upd_same] at hk
        rcases hv k hk with hv | hl
        · exact .inl (.inr (.inr (.inr (.inr ⟨p, hio, hv⟩))))
        · exact .inr hl
      · rw [upd_other _ _ hpi] at hk
        exact .inl (.inr (.inr (.inr (.inr ⟨p, hp, hk⟩))))
/-- A device's queue has turned. -/
theorem RRep.setQd (r : RRep B xb h a w) {i : Int} (hi : i ∈ devs) (hnt : i ∉ a.tids) (v : Value) (xs : List Int) (ht : Touch w w' (fun k => k = xb ∨ (h.qv i).ownBlock = some k))
    (hb : w'.heap[xb]? = some (.cells (rcells { h with qv := upd h.qv i v } a) 63 (0, 0))) (hrow : w'.ownsRow B 3 1 v xs.length (xs.map fun p => .int .i64 p)) (hv : Fresh w.heap.size v (h.qv i)) :
    Left B xb h a w { h with qv := upd h.qv i v } { a with q := upd a.q i xs } w' := by
  have hio : a.owner i := .inr hi
  have hc := r.blk
  have hS : ∀ b, ¬ (b = xb ∨ (h.qv i).ownBlock = some b) ↔ b ≠ xb ∧ (h.qv i).ownBlock ≠ some b := fun b => not_or
  refine ⟨⟨hb, ?_, row_kept ht r.prow (fun b hb => (hS b).2 ⟨fun e => own_ty r.prow hc (by decide) (e ▸ hb), own_own r.prow (r.row i hio) (by decide) hb⟩), row_kept ht r.mrow (fun b hb => (hS b).2 ⟨fun e => own_ty r.mrow hc (by decide) (e ▸ hb), own_own r.mrow (r.row i hio) (by decide) hb⟩), ?_, ?_, r.low⟩, ht.mono (fun k _ hk => by
    rcases hk with rfl | hk
    · exact .inl rfl
    · exact .inr (.inr (.inr (.inr ⟨i, hio, hk⟩)))), ?_⟩
  · have e : a.tids.flatMap (rtc { a with q := upd a.q i xs } (upd h.qv i v)) = a.tids.flatMap (rtc a h.qv) := by
      have e1 : ∀ z ∈ a.tids, rtc { a with q := upd a.q i xs } (upd h.qv i v) z = rtc a h.qv z := fun z hz => by simp only [rtc, upd_other _ _ (show z ≠ i from fun e => hnt (e ▸ hz))]
      rw [List.flatMap_def, List.flatMap_def, List.map_congr_left e1]
    show w'.ownsRow B 92 7 h.tv a.tids.length (a.tids.flatMap (rtc { a with q := upd a.q i xs } (upd h.qv i v)))
    rw [e]
    exact row_kept ht r.trow (fun b hb => (hS b).2 ⟨fun e => own_ty r.trow hc (by decide) (e ▸ hb), own_own r.trow (r.row i hio) (by decide) hb⟩)
  · intro k hk
    by_cases hki : k = i
    · subst hki
      simp only [upd_same]
      exact hrow
    · simp only [upd_other _ _ hki]
      exact row_kept ht (r.row k hk) (fun b hb => (hS b).2 ⟨fun e => own_ty (r.row k hk) hc (by decide) (e ▸ hb), fun e => r.sep k i hki hk hio b hb e⟩)
  · have key : ∀ k, k ≠ i → a.owner k → sepB v (h.qv k) := fun k hk ho b hb hb2 => by
      rcases hv b hb with hv | hl
      · exact r.sep i k (fun e => hk e.symm) hio ho b hv hb2
      · have := own_lt (r.row k ho) hb2
        omega
    intro p q hpq hp hq
    simp only
    by_cases h1 : p = i
    · subst h1
      rw [upd_same, upd_other _ _ (fun e => hpq e.symm)]
      exact key q (fun e => hpq e.symm) hq
    · by_cases h2 : q = i
      · subst h2
        rw [upd_same, upd_other _ _ h1]
        exact (key p h1 hp).symm
      · rw [upd_other _ _ h1, upd_other _ _ h2]
        exact r.sep p q hpq hp hq
  · intro k hk
    rcases hk with hk | hk | hk | hk | ⟨p, hp, hk⟩
    · exact .inl (.inl hk)
    · exact .inl (.inr (.inl hk))
    · exact .inl (.inr (.inr (.inl hk)))
    · exact .inl (.inr (.inr (.inr (.inl hk))))
    · simp only at hk
      by_cases hpi : p = i
      · subst hpi
        rw [upd_same] at hk
        rcases hv k hk with hv | hl
        · exact .inl (.inr (.inr (.inr (.inr ⟨p, hio, hv⟩))))
        · exact .inr hl
      · rw [upd_other _ _ hpi] at hk
        exact .inl (.inr (.inr (.inr (.inr ⟨p, hp, hk⟩))))
/-- The rows of tasks, packets and moves, and the count of calls, have turned; the queues' slices stay. -/
theorem RRep.setAll (r : RRep B xb h a w) (tv pv mv : Value) (a' : A) (ht : Touch w w' (fun k => k = xb ∨ h.tv.ownBlock = some k ∨ h.pv.ownBlock = some k ∨ h.mv.ownBlock = some k))
    (hb : w'.heap[xb]? = some (.cells (rcells { h with tv := tv, pv := pv, mv := mv } a') 63 (0, 0))) (h1 : w'.ownsRow B 92 7 tv a'.tids.length (a'.tids.flatMap (rtc a' h.qv))) (h2 : w'.ownsRow B 93 7 pv (pnums a'.made).length ((pnums a'.made).flatMap (rpc a'))) (h3 : w'.ownsRow B 31 4 mv a'.moves.length (a'.moves.flatMap mcells))
    (hq : ∀ i, a'.owner i → a.owner i ∧ a'.q i = a.q i)
    (v1 : Fresh w.heap.size tv h.tv) (v2 : Fresh w.heap.size pv h.pv) (v3 : Fresh w.heap.size mv h.mv) :
    Left B xb h a w { h with tv := tv, pv := pv, mv := mv } a' w' := by
  refine ⟨⟨hb, h1, h2, h3, fun i hi => ?_, fun i j hij hi hj => r.sep i j hij (hq i hi).1 (hq j hj).1, r.low⟩, ht.mono (fun k _ hk => by
    rcases hk with hk | hk | hk | hk
    · exact .inl hk
    · exact .inr (.inl hk)
    · exact .inr (.inr (.inl hk))
    · exact .inr (.inr (.inr (.inl hk)))), ?_⟩
  · rw [(hq i hi).2]
    refine row_kept ht (r.row i (hq i hi).1) (fun b hb' hs => ?_)
    rcases hs with hs | hs | hs | hs
    · exact own_ty (r.row i (hq i hi).1) r.blk (by decide) (hs ▸ hb')
    · exact own_own (r.row i (hq i hi).1) r.trow (by decide) hb' hs
    · exact own_own (r.row i (hq i hi).1) r.prow (by decide) hb' hs
    · exact own_own (r.row i (hq i hi).1) r.mrow (by decide) hb' hs
  · intro k hk
    rcases hk with hk | hk | hk | hk | ⟨p, hp, hk⟩
    · exact .inl (.inl hk)
    · exact (v1 k hk).imp (fun e => .inr (.inl e)) id
    · exact (v2 k hk).imp (fun e => .inr (.inr (.inl e))) id
    · exact (v3 k hk).imp (fun e => .inr (.inr (.inr (.inl e)))) id
    · exact .inl (.inr (.inr (.inr (.inr ⟨p, (hq p hp).1, hk⟩))))
end
end Go.Proofs.Ytkmgbnklfnjfjaa.Ker
