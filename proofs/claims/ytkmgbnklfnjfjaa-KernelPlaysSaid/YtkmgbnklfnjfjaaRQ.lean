import Derived.Test.YtkmgbnklfnjfjaaRP
/-! The specification's kernel: Do. -/
namespace Go.Proofs.Ytkmgbnklfnjfjaa.Ker
open Go.RowKit Go.Maps

theorem stepQ_calls (a : A) (r d x y : Int) : (stepQ a r d x y).2.2.calls = a.calls := by
  unfold stepQ
  by_cases e1 : d = 1
  · rw [if_pos e1]
    unfold createQ
    repeat' (first | rfl | split)
  rw [if_neg e1]
  by_cases e2 : d = 2
  · rw [if_pos e2]
    unfold removeS
    repeat' (first | rfl | split)
  rw [if_neg e2]
  by_cases e3 : d = 3
  · rw [if_pos e3]
    unfold sendQ
    repeat' (first | rfl | split)
  rw [if_neg e3]
  by_cases e4 : d = 4
  · rw [if_pos e4]
    unfold takeS
    repeat' (first | rfl | split)
  rw [if_neg e4]
  by_cases e5 : d = 5
  · rw [if_pos e5]
    unfold heldS
    repeat' (first | rfl | split)
  rw [if_neg e5]
  by_cases e6 : d = 6
  · rw [if_pos e6]
    unfold heldS
    repeat' (first | rfl | split)
  rw [if_neg e6]
  by_cases e7 : d = 7
  · rw [if_pos e7]
    unfold setS
    repeat' (first | rfl | split)
  rw [if_neg e7]
  by_cases e8 : d = 8
  · rw [if_pos e8]
    unfold testQ
    repeat' (first | rfl | split)
  rw [if_neg e8]
  by_cases e9 : d = 9
  · rw [if_pos e9]
    unfold priS
    repeat' (first | rfl | split)
  rw [if_neg e9]
  by_cases e10 : d = 10
  · rw [if_pos e10]
    unfold fetchS
    repeat' (first | rfl | split)
  rw [if_neg e10]
  by_cases e11 : d = 11
  · rw [if_pos e11]
    unfold packetS
    repeat' (first | rfl | split)
  rw [if_neg e11]
  by_cases e12 : d = 12
  · rw [if_pos e12]
    unfold deviceQ
    repeat' (first | rfl | split)
  rw [if_neg e12]
  by_cases e13 : d = 13
  · rw [if_pos e13]
    unfold waitS
    repeat' (first | rfl | split)
  rw [if_neg e13]
theorem doQ_calls (a : A) (r d x y : Int) : (doQ a r d x y).2.2.calls = a.calls := by
  unfold doQ
  split
  · rfl
  · split
    · rfl
    · exact stepQ_calls a r d x y
/-- One more call is counted. -/
theorem RRep.bump {B xb : Nat} {h : RG} {a : A} {w : World} (r : RRep B xb h a w) : Left B xb h a w h (bump a) (w.setCell ⟨xb, 8, none⟩ (.int .i64 (a.calls + 1))) := by
  have ht : Touch w (w.setCell ⟨xb, 8, none⟩ (.int .i64 (a.calls + 1))) (fun k => k = xb) := Touch.setCell _ _ _ rfl
  refine r.setAll h.tv h.pv h.mv (Ker.bump a) (ht.mono fun k _ hk => .inl hk) ((set_same r.blk 8 (.int .i64 (a.calls + 1))).trans rfl) ?_ ?_ ?_ (fun i hi => ⟨hi, rfl⟩) (fun b hb => .inl hb) (fun b hb => .inl hb) (fun b hb => .inl hb)
  · exact row_kept ht r.trow (fun b hb e => own_ty r.trow r.blk (by decide) (e ▸ hb))
  · exact row_kept ht r.prow (fun b hb e => own_ty r.prow r.blk (by decide) (e ▸ hb))
  · exact row_kept ht r.mrow (fun b hb e => own_ty r.mrow r.blk (by decide) (e ▸ hb))
/-- What Do of the specification does. -/
def doR (a : A) (c : C3) : S := ((doQ a (runF a) c.1 c.2.1 c.2.2).1, (doQ a (runF a) c.1 c.2.1 c.2.2).2.1, bump (doQ a (runF a) c.1 c.2.1 c.2.2).2.2)
set_option maxHeartbeats 2000000 in
set_option maxRecDepth 100000 in
theorem rDo_any (B xb : Nat) (h : RG) (a : A) (w : World) (r : RRep B xb h a w) (gd : Good a) (g2 : Good2 a) (hm : a.moves.length ≤ 100000) (hca : 0 ≤ a.calls ∧ a.calls < 100000) (d x y c3 c4 : Int) :
    Calls Try.prog 26 #[ptr xb, .agg #[.int .i64 d, .int .i64 x, .int .i64 y, .int .i64 c3, .int .i64 c4]] w (LeftR B xb h a w (.tuple #[.int .i64 (doR a (d, x, y)).1, .int .i64 (doR a (d, x, y)).2.1]) (doR a (d, x, y)).2.2) := by
  obtain ⟨s, hs⟩ : ∃ s, s = doQ a (runF a) d x y := ⟨_, rfl⟩
  have hcs : s.2.2.calls = a.calls := by rw [hs]; exact doQ_calls _ _ _ _ _
  have CC := Lib.hid (fun w1 r1 => rdo_any B xb h a w1 r1 gd g2 hm d x y c3 c4)
  rw [← hs] at CC
  unfold doR
  simp only [← hs]
  obtain ⟨v, er, a'⟩ := s
  simp only at hcs CC ⊢
  have R := Lib.hid r
  have AL := Lib.hid (show Below w.heap.size w (w.alloc (.cells #[.int .i64 d, .int .i64 x, .int .i64 y, .int .i64 c3, .int .i64 c4] 38)) from (Below.refl _ _).alloc (Nat.le_refl _) _)
  have hc1 : 0 ≤ a'.calls := by omega
  have hc2 : a'.calls < 100000 := by omega
  clear r gd g2 hm hca hs hcs
  go_enter Try.func26, Try.ntmps26
  go_wp2_with (go_at_call 37; (with_reducible refine (CC.out _ (R.out.below AL.out)).mono ?_); rintro e w1 ⟨rfl, h1, hl⟩; have r1 := hl.rep; have k8 := r1.k8; have kf := free_of r1.blk 8; have HL := Lib.hid hl; have R1 := Lib.hid r1; clear hl r1)
  go_ret2
  exact ⟨rfl, h1, ((Left.refl R.out AL.out).trans HL.out).trans R1.out.bump⟩
end Go.Proofs.Ytkmgbnklfnjfjaa.Ker
