import Derived.Test.YtkmgbnklfnjfjaaRO
/-! The specification's kernel: do, plainly. -/
namespace Go.Proofs.Ytkmgbnklfnjfjaa.Ker
open Go.RowKit Go.Maps

def createQ (a : A) (x y : Int) : S := if 1 ≤ x ∧ x ≤ 20 ∧ 1 ≤ y ∧ y ≤ 1000 then (if ∃ i ∈ a.tids, i = x ∨ (a.tk i).pri = y then (0, 6, a) else (0, 0, createR a x y)) else (0, 1, a)
def sendQ (a : A) (r x y : Int) : S := if x ∈ a.pids then (if (a.pk x).wth = r then (if y = r then (0, 190, a) else if y ∈ a.tids ∨ y ∈ devs then (0, 0, moveR a x r y) else (0, 190, a)) else (0, 191, a)) else (0, 191, a)
def testQ (a : A) (r x : Int) : S := if 0 ≤ x ∧ x ≤ 65535 then (bits .and .i64 (a.tk r).flags x, 0, testB a r x) else (0, 1, a)
def deviceQ (a : A) (x y : Int) : S := if x ∈ devs then (match a.q x with
    | [] => (0, 5, a)
    | p :: _ => if (a.pk p).frm ∈ a.tids then (0, 0, moveR (resA (ownA a p 0) p y) p x (a.pk p).frm) else (0, 5, ownA a p 0)) else (0, 190, a)
/-- What the specification's call d does, with task r running. -/
def stepQ (a : A) (r d x y : Int) : S :=
  if d = 1 then createQ a x y else if d = 2 then removeS a x else if d = 3 then sendQ a r x y else if d = 4 then takeS a r else if d = 5 then heldS a x true else if d = 6 then heldS a x false
  else if d = 7 then setS a x y else if d = 8 then testQ a r x else if d = 9 then priS a x y else if d = 10 then fetchS a r x else if d = 11 then packetS a r x else if d = 12 then deviceQ a x y else if d = 13 then waitS a r x else (0, 1, a)
/-- What the specification's do does, with task r running. -/
def doQ (a : A) (r d x y : Int) : S :=
  if d < 1 ∨ 13 < d then (0, 1, a) else if r = 0 ∧ d ≠ 12 ∧ (d ≠ 1 ∨ a.tids ≠ []) then (0, 5, a) else stepQ a r d x y

section
variable (B xb : Nat) (h : RG) (a : A) (w : World) (r : RRep B xb h a w) (gd : Good a) (g2 : Good2 a) (x y : Int)
theorem rq_create (r : RRep B xb h a w) (gd : Good a) : Calls Try.prog 57 #[ptr xb, .int .i64 x, .int .i64 y] w (LeftR B xb h a w (.int .i64 (createQ a x y).2.1) (createQ a x y).2.2) := by
  unfold createQ
  split
  · rename_i hr
    split
    · rename_i ht
      exact rcreate_twice B xb h a w r gd x y hr ht
    · rename_i ht
      exact rcreate_ok B xb h a w r gd x y hr (fun i hi => ⟨fun e => ht ⟨i, hi, .inl e⟩, fun e => ht ⟨i, hi, .inr e⟩⟩)
  · rename_i hr
    by_cases h1 : x < 1
    · exact rcreate_range0 B xb h a w r x y h1
    · by_cases h2 : 20 < x
      · exact rcreate_range1 B xb h a w r x y ⟨h1, h2⟩
      · by_cases h3 : y < 1
        · exact rcreate_range2 B xb h a w r x y ⟨h1, h2, h3⟩
        · exact rcreate_range3 B xb h a w r x y ⟨h1, h2, h3, by omega⟩
theorem rq_remove (r : RRep B xb h a w) (gd : Good a) (g2 : Good2 a) : Calls Try.prog 58 #[ptr xb, .int .i64 x] w (LeftR B xb h a w (.int .i64 (removeS a x).2.1) (removeS a x).2.2) := by
  unfold removeS
  split
  · rename_i hx
    split
    · rename_i hq
      split
      · rename_i hb
        exact rremove_queued B xb h a w r gd g2 x hx hq hb
      · rename_i hb
        exact rremove_ok B xb h a w r gd g2 x hx hq (fun p hp => by
          cases e : busyP a x p with
          | false => rfl
          | true => exact (hb ⟨p, hp, e⟩).elim)
    · rename_i hq
      exact rremove_busy B xb h a w r gd x hx hq
  · rename_i hx
    exact rremove_none B xb h a w r gd x hx
theorem rq_send (own : Int) (h0 : own ≠ 0) (hm : a.moves.length ≤ 100000) (r : RRep B xb h a w) (gd : Good a) (g2 : Good2 a) : Calls Try.prog 59 #[ptr xb, .int .i64 own, .int .i64 x, .int .i64 y] w (LeftR B xb h a w (.int .i64 (sendQ a own x y).2.1) (sendQ a own x y).2.2) := by
  unfold sendQ
  split
  · rename_i hx
    split
    · rename_i hw
      have ha : (a.pk x).at_ = 0 := Decidable.byContradiction fun e => h0 (hw.symm.trans (gd.wth0 x hx e))
      split
      · rename_i hy
        exact rsend_self B xb h a w r gd g2 own x y hx hw ha hy
      · rename_i hy
        split
        · rename_i ho
          rcases ho with ho | ho
          · exact rsend_task B xb h a w r gd g2 own x y hx hw ha hy ho hm
          · exact rsend_dev B xb h a w r gd g2 own x y hx hw ha hy ho hm
        · rename_i ho
          exact rsend_nobody B xb h a w r gd g2 own x y hx hw ha hy ho
    · rename_i hw
      exact rsend_other B xb h a w r gd g2 own x y hx hw
  · rename_i hx
    exact rsend_none B xb h a w r gd g2 own x y hx
theorem rq_take (own : Int) (ho : own ∈ a.tids) (r : RRep B xb h a w) (gd : Good a) (g2 : Good2 a) : Calls Try.prog 60 #[ptr xb, .int .i64 own] w (LeftR B xb h a w (.int .i64 (takeS a own).1) (takeS a own).2.2) := by
  unfold takeS
  split
  · rename_i hq
    exact rnext_none B xb h a w r gd g2 own ho hq
  · rename_i p l hq
    exact rnext_some B xb h a w r gd g2 own ho p l hq
theorem rq_hold (c3 c4 : Int) (r : RRep B xb h a w) (gd : Good a) (g2 : Good2 a) : Calls Try.prog 61 #[ptr xb, .agg #[.int .i64 5, .int .i64 x, .int .i64 y, .int .i64 c3, .int .i64 c4]] w (LeftR B xb h a w (.int .i64 (heldS a x true).2.1) (heldS a x true).2.2) := by
  unfold heldS
  split
  · rename_i hx
    exact rmark_hold B xb h a w r gd g2 x y c3 c4 hx
  · rename_i hx
    exact rmark_none B xb h a w r gd g2 5 x y c3 c4 hx
theorem rq_release (c3 c4 : Int) (r : RRep B xb h a w) (gd : Good a) (g2 : Good2 a) : Calls Try.prog 61 #[ptr xb, .agg #[.int .i64 6, .int .i64 x, .int .i64 y, .int .i64 c3, .int .i64 c4]] w (LeftR B xb h a w (.int .i64 (heldS a x false).2.1) (heldS a x false).2.2) := by
  unfold heldS
  split
  · rename_i hx
    exact rmark_release B xb h a w r gd g2 x y c3 c4 hx
  · rename_i hx
    exact rmark_none B xb h a w r gd g2 6 x y c3 c4 hx
theorem rq_set (c3 c4 : Int) (r : RRep B xb h a w) (gd : Good a) (g2 : Good2 a) : Calls Try.prog 61 #[ptr xb, .agg #[.int .i64 7, .int .i64 x, .int .i64 y, .int .i64 c3, .int .i64 c4]] w (LeftR B xb h a w (.int .i64 (setS a x y).2.1) (setS a x y).2.2) := by
  unfold setS
  split
  · rename_i hx
    split
    · rename_i hy
      exact rmark_set B xb h a w r gd g2 x y c3 c4 hx hy
    · rename_i hy
      exact rmark_range B xb h a w r gd g2 x y c3 c4 hx hy
  · rename_i hx
    exact rmark_none B xb h a w r gd g2 7 x y c3 c4 hx
theorem rq_pri (r : RRep B xb h a w) (gd : Good a) (g2 : Good2 a) : Calls Try.prog 63 #[ptr xb, .int .i64 x, .int .i64 y] w (LeftR B xb h a w (.int .i64 (priS a x y).2.1) (priS a x y).2.2) := by
  unfold priS
  split
  · rename_i hx
    split
    · rename_i hy
      split
      · rename_i ht
        exact rpri_twice B xb h a w r gd g2 x y hx hy ht
      · rename_i ht
        exact rpri_ok B xb h a w r gd g2 x y hx hy (by simpa using ht)
    · rename_i hy
      exact rpri_range B xb h a w r gd g2 x y hx hy
  · rename_i hx
    exact rpri_none B xb h a w r gd g2 x y hx
theorem rq_wait (own : Int) (ho : own ∈ a.tids) (r : RRep B xb h a w) (gd : Good a) (g2 : Good2 a) : Calls Try.prog 66 #[ptr xb, .int .i64 own, .int .i64 x] w (LeftR B xb h a w (.tuple #[.int .i64 (waitS a own x).1, .int .i64 (waitS a own x).2.1]) (waitS a own x).2.2) := by
  unfold waitS
  split
  · rename_i hx
    split
    · rename_i hw
      exact rawait_mine B xb h a w r gd g2 own x hx hw
    · rename_i hw
      split
      · rename_i ha
        exact rawait_here B xb h a w r gd g2 own x ho hx hw ha
      · rename_i ha
        exact rawait_rest B xb h a w r gd g2 own x ho hx hw ha
  · rename_i hx
    exact rawait_none B xb h a w r gd g2 own x hx
theorem rq_device (hm : a.moves.length ≤ 100000) (r : RRep B xb h a w) (gd : Good a) (g2 : Good2 a) : Calls Try.prog 56 #[ptr xb, .int .i64 x, .int .i64 y] w (LeftR B xb h a w (.int .i64 (deviceQ a x y).2.1) (deviceQ a x y).2.2) := by
  unfold deviceQ
  split
  · rename_i hx
    have hx' : x = -1 ∨ x = -2 ∨ x = -3 ∨ x = -4 ∨ x = -5 := by simpa [devs] using hx
    rcases hx' with rfl | rfl | rfl | rfl | rfl
    · split
      · rename_i hq
        exact rint_empty0 B xb h a w r gd g2 y hq
      · rename_i p l hq
        split
        · rename_i hf
          exact rint_ok0 B xb h a w r gd g2 y p l hq hf hm
        · rename_i hf
          exact rint_gone0 B xb h a w r gd g2 y p l hq hf
    · split
      · rename_i hq
        exact rint_empty1 B xb h a w r gd g2 y hq
      · rename_i p l hq
        split
        · rename_i hf
          exact rint_ok1 B xb h a w r gd g2 y p l hq hf hm
        · rename_i hf
          exact rint_gone1 B xb h a w r gd g2 y p l hq hf
    · split
      · rename_i hq
        exact rint_empty2 B xb h a w r gd g2 y hq
      · rename_i p l hq
        split
        · rename_i hf
          exact rint_ok2 B xb h a w r gd g2 y p l hq hf hm
        · rename_i hf
          exact rint_gone2 B xb h a w r gd g2 y p l hq hf
    · split
      · rename_i hq
        exact rint_empty3 B xb h a w r gd g2 y hq
      · rename_i p l hq
        split
        · rename_i hf
          exact rint_ok3 B xb h a w r gd g2 y p l hq hf hm
        · rename_i hf
          exact rint_gone3 B xb h a w r gd g2 y p l hq hf
    · split
      · rename_i hq
        exact rint_empty4 B xb h a w r gd g2 y hq
      · rename_i p l hq
        split
        · rename_i hf
          exact rint_ok4 B xb h a w r gd g2 y p l hq hf hm
        · rename_i hf
          exact rint_gone4 B xb h a w r gd g2 y p l hq hf
  · rename_i hx
    exact rint_none B xb h a w r gd g2 x y hx
end

/-- The specification's do answers as doQ. -/
theorem rdo_any (B xb : Nat) (h : RG) (a : A) (w : World) (r : RRep B xb h a w) (gd : Good a) (g2 : Good2 a) (hm : a.moves.length ≤ 100000) (d x y c3 c4 : Int) :
    Calls Try.prog 37 #[ptr xb, .agg #[.int .i64 d, .int .i64 x, .int .i64 y, .int .i64 c3, .int .i64 c4]] w (LeftR B xb h a w (.tuple #[.int .i64 (doQ a (runF a) d x y).1, .int .i64 (doQ a (runF a) d x y).2.1]) (doQ a (runF a) d x y).2.2) := by
  obtain ⟨own, hown⟩ : ∃ own, own = runF a := ⟨_, rfl⟩
  have hin := runF_in gd
  rw [← hown] at hin ⊢
  unfold doQ
  by_cases e0 : d < 1 ∨ 13 < d
  · rw [if_pos e0]
    by_cases e1 : d < 1
    · exact rdo_lo B xb h a w r gd x y c3 c4 d e1
    · exact rdo_hi B xb h a w r gd x y c3 c4 d ⟨e1, by omega⟩
  rw [if_neg e0]
  by_cases ei : own = 0 ∧ d ≠ 12 ∧ (d ≠ 1 ∨ a.tids ≠ [])
  · rw [if_pos ei]
    exact rdo_idle B xb h a w r gd x y c3 c4 d own hown ei.1 (by omega) ei.2.1 ei.2.2
  rw [if_neg ei]
  by_cases e12 : d = 12
  · subst e12
    have v : (deviceQ a x y).1 = 0 := by unfold deviceQ; repeat' (first | rfl | split)
    rw [show stepQ a own 12 x y = deviceQ a x y from rfl, v]
    exact rdo_12 B xb h a w r gd x y c3 c4 own hown _ _ (fun w1 r1 => rq_device B xb h a w1 x y hm r1 gd g2)
  by_cases e0' : own = 0
  · have hd : d = 1 ∧ a.tids = [] := by
      refine ⟨Decidable.byContradiction fun e => ei ⟨e0', e12, .inl e⟩, Decidable.byContradiction fun e => ei ⟨e0', e12, .inr e⟩⟩
    obtain ⟨rfl, ht⟩ := hd
    have v : (createQ a x y).1 = 0 := by unfold createQ; repeat' (first | rfl | split)
    rw [show stepQ a own 1 x y = createQ a x y from rfl, v]
    exact rdo_1e B xb h a w r gd x y c3 c4 own hown e0' ht _ _ (fun w1 r1 => rq_create B xb h a w1 x y r1 gd)
  have ho : own ∈ a.tids := hin.resolve_left e0'
  have hd : d = 1 ∨ d = 2 ∨ d = 3 ∨ d = 4 ∨ d = 5 ∨ d = 6 ∨ d = 7 ∨ d = 8 ∨ d = 9 ∨ d = 10 ∨ d = 11 ∨ d = 13 := by omega
  have v0 : (createQ a x y).1 = 0 ∧ (removeS a x).1 = 0 ∧ (sendQ a own x y).1 = 0 ∧ (heldS a x true).1 = 0 ∧ (heldS a x false).1 = 0 ∧ (setS a x y).1 = 0 ∧ (priS a x y).1 = 0 ∧ (takeS a own).2.1 = 0 := by
    refine ⟨?_, ?_, ?_, ?_, ?_, ?_, ?_, ?_⟩
    · unfold createQ; repeat' (first | rfl | split)
    · unfold removeS; repeat' (first | rfl | split)
    · unfold sendQ; repeat' (first | rfl | split)
    · unfold heldS; repeat' (first | rfl | split)
    · unfold heldS; repeat' (first | rfl | split)
    · unfold setS; repeat' (first | rfl | split)
    · unfold priS; repeat' (first | rfl | split)
    · unfold takeS; repeat' (first | rfl | split)
  obtain ⟨v1, v2, v3, v5, v6, v7, v9, v4⟩ := v0
  rcases hd with rfl | rfl | rfl | rfl | rfl | rfl | rfl | rfl | rfl | rfl | rfl | rfl
  · rw [show stepQ a own 1 x y = createQ a x y from rfl, v1]
    exact rdo_1 B xb h a w r gd x y c3 c4 own hown e0' _ _ (fun w1 r1 => rq_create B xb h a w1 x y r1 gd)
  · rw [show stepQ a own 2 x y = removeS a x from rfl, v2]
    exact rdo_2 B xb h a w r gd x y c3 c4 own hown e0' _ _ (fun w1 r1 => rq_remove B xb h a w1 x r1 gd g2)
  · rw [show stepQ a own 3 x y = sendQ a own x y from rfl, v3]
    exact rdo_3 B xb h a w r gd x y c3 c4 own hown e0' _ _ (fun w1 r1 => rq_send B xb h a w1 x y own e0' hm r1 gd g2)
  · rw [show stepQ a own 4 x y = takeS a own from rfl, v4]
    exact rdo_4 B xb h a w r gd x y c3 c4 own hown e0' _ _ (fun w1 r1 => rq_take B xb h a w1 own ho r1 gd g2)
  · rw [show stepQ a own 5 x y = heldS a x true from rfl, v5]
    exact rdo_5 B xb h a w r gd x y c3 c4 own hown e0' _ _ (fun w1 r1 => rq_hold B xb h a w1 x y c3 c4 r1 gd g2)
  · rw [show stepQ a own 6 x y = heldS a x false from rfl, v6]
    exact rdo_6 B xb h a w r gd x y c3 c4 own hown e0' _ _ (fun w1 r1 => rq_release B xb h a w1 x y c3 c4 r1 gd g2)
  · rw [show stepQ a own 7 x y = setS a x y from rfl, v7]
    exact rdo_7 B xb h a w r gd x y c3 c4 own hown e0' _ _ (fun w1 r1 => rq_set B xb h a w1 x y c3 c4 r1 gd g2)
  · rw [show stepQ a own 8 x y = testQ a own x from rfl]
    unfold testQ
    split
    · rename_i hx
      exact rdo_8ok B xb h a w r gd x y c3 c4 own hown e0' ho hx
    · rename_i hx
      by_cases h1 : x < 0
      · exact rdo_8lo B xb h a w r gd x y c3 c4 own hown e0' h1
      · exact rdo_8hi B xb h a w r gd x y c3 c4 own hown e0' ⟨h1, by omega⟩
  · rw [show stepQ a own 9 x y = priS a x y from rfl, v9]
    exact rdo_9 B xb h a w r gd x y c3 c4 own hown e0' _ _ (fun w1 r1 => rq_pri B xb h a w1 x y r1 gd g2)
  · rw [show stepQ a own 10 x y = fetchS a own x from rfl]
    unfold fetchS
    split
    · rename_i hx
      split
      · rename_i ha
        exact rdo_10at B xb h a w r gd g2 x y c3 c4 own hown e0' hx ha
      · rename_i ha
        split
        · rename_i hf
          exact rdo_10ok B xb h a w r gd g2 x y c3 c4 own hown e0' hx ha hf
        · rename_i hf
          exact rdo_10frm B xb h a w r gd g2 x y c3 c4 own hown e0' hx ha hf
    · rename_i hx
      exact rdo_10none B xb h a w r gd g2 x y c3 c4 own hown e0' hx
  · rw [show stepQ a own 11 x y = packetS a own x from rfl]
    unfold packetS
    split
    · rename_i hm'
      exact rdo_11lim B xb h a w r gd x y c3 c4 own hown e0' hm'
    · rename_i hm'
      exact rdo_11ok B xb h a w r gd x y c3 c4 own hown e0' hm'
  · rw [show stepQ a own 13 x y = waitS a own x from rfl]
    exact rdo_13 B xb h a w r gd x y c3 c4 own hown e0' _ _ _ (fun w1 r1 => rq_wait B xb h a w1 x own ho r1 gd g2)
end Go.Proofs.Ytkmgbnklfnjfjaa.Ker
/-! The specification's kernel: Do. -/
namespace Go.Proofs.Ytkmgbnklfnjfjaa.Ker
open Go.RowKit Go.Maps

theorem stepQ_calls (a : A) (r d x y : Int) : (stepQ a r d x y).2.2.calls = a.calls := by
  unfold stepQ
  by_cases e1 : d = 1
  · rw [if_pos e1]
    unfold createQ
    repeat' (first | rfl | split)
  rw [if_neg e1]
  by_cases e2 : d = 2
  · rw [if_pos e2]
    unfold removeS
    repeat' (first | rfl | split)
  rw [if_neg e2]
  by_cases e3 : d = 3
  · rw [if_pos e3]
    unfold sendQ
    repeat' (first | rfl | split)
  rw [if_neg e3]
  by_cases e4 : d = 4
  · rw [if_pos e4]
    unfold takeS
    repeat' (first | rfl | split)
  rw [if_neg e4]
  by_cases e5 : d = 5
  · rw [if_pos e5]
    unfold heldS
    repeat' (first | rfl | split)
  rw [if_neg e5]
  by_cases e6 : d = 6
  · rw [if_pos e6]
    unfold heldS
    repeat' (first | rfl | split)
  rw [if_neg e6]
  by_cases e7 : d = 7
  · rw [if_pos e7]
    unfold setS
    repeat' (first | rfl | split)
  rw [if_neg e7]
  by_cases e8 : d = 8
  · rw [if_pos e8]
    unfold testQ
    repeat' (first | rfl | split)
  rw [if_neg e8]
  by_cases e9 : d = 9
  · rw [if_pos e9]
    unfold priS
    repeat' (first | rfl | split)
  rw [if_neg e9]
  by_cases e10 : d = 10
  · rw [if_pos e10]
    unfold fetchS
    repeat' (first | rfl | split)
  rw [if_neg e10]
  by_cases e11 : d = 11
  · rw [if_pos e11]
    unfold packetS
    repeat' (first | rfl | split)
  rw [if_neg e11]
  by_cases e12 : d = 12
  · rw [if_pos e12]
    unfold deviceQ
    repeat' (first | rfl | split)
  rw [if_neg e12]
  by_cases e13 : d = 13
  · rw [if_pos e13]
    unfold waitS
    repeat' (first | rfl | split)
  rw [if_neg e13]
theorem doQ_calls (a : A) (r d x y : Int) : (doQ a r d x y).2.2.calls = a.calls := by
  unfold doQ
  split
  · rfl
  · split
    · rfl
    · exact stepQ_calls a r d x y
/-- One more call is counted. -/
theorem RRep.bump {B xb : Nat} {h : RG} {a : A} {w : World} (r : RRep B xb h a w) : Left B xb h a w h (bump a) (w.setCell ⟨xb, 8, none⟩ (.int .i64 (a.calls + 1))) := by
  have ht : Touch w (w.setCell ⟨xb, 8, none⟩ (.int .i64 (a.calls + 1))) (fun k => k = xb) := Touch.setCell _ _ _ rfl
  refine r.setAll h.tv h.pv h.mv (Ker.bump a) (ht.mono fun k _ hk => .inl hk) ((set_same r.blk 8 (.int .i64 (a.calls + 1))).trans rfl) ?_ ?_ ?_ (fun i hi => ⟨hi, rfl⟩) (fun b hb => .inl hb) (fun b hb => .inl hb) (fun b hb => .inl hb)
  · exact row_kept ht r.trow (fun b hb e => own_ty r.trow r.blk (by decide) (e ▸ hb))
  · exact row_kept ht r.prow (fun b hb e => own_ty r.prow r.blk (by decide) (e ▸ hb))
  · exact row_kept ht r.mrow (fun b hb e => own_ty r.mrow r.blk (by decide) (e ▸ hb))
/-- What Do of the specification does. -/
def doR (a : A) (c : C3) : S := ((doQ a (runF a) c.1 c.2.1 c.2.2).1, (doQ a (runF a) c.1 c.2.1 c.2.2).2.1, bump (doQ a (runF a) c.1 c.2.1 c.2.2).2.2)
set_option maxHeartbeats 2000000 in
set_option maxRecDepth 100000 in
theorem rDo_any (B xb : Nat) (h : RG) (a : A) (w : World) (r : RRep B xb h a w) (gd : Good a) (g2 : Good2 a) (hm : a.moves.length ≤ 100000) (hca : 0 ≤ a.calls ∧ a.calls < 100000) (d x y c3 c4 : Int) :
    Calls Try.prog 26 #[ptr xb, .agg #[.int .i64 d, .int .i64 x, .int .i64 y, .int .i64 c3, .int .i64 c4]] w (LeftR B xb h a w (.tuple #[.int .i64 (doR a (d, x, y)).1, .int .i64 (doR a (d, x, y)).2.1]) (doR a (d, x, y)).2.2) := by
  obtain ⟨s, hs⟩ : ∃ s, s = doQ a (runF a) d x y := ⟨_, rfl⟩
  have hcs : s.2.2.calls = a.calls := by rw [hs]; exact doQ_calls _ _ _ _ _
  have CC := Lib.hid (fun w1 r1 => rdo_any B xb h a w1 r1 gd g2 hm d x y c3 c4)
  rw [← hs] at CC
  unfold doR
  simp only [← hs]
  obtain ⟨v, er, a'⟩ := s
  simp only at hcs CC ⊢
  have R := Lib.hid r
  have AL := Lib.hid (show Below w.heap.size w (w.alloc (.cells #[.int .i64 d, .int .i64 x, .int .i64 y, .int .i64 c3, .int .i64 c4] 38)) from (Below.refl _ _).alloc (Nat.le_refl _) _)
  have hc1 : 0 ≤ a'.calls := by omega
  have hc2 : a'.calls < 100000 := by omega
  clear r gd g2 hm hca hs hcs
  go_enter Try.func26, Try.ntmps26
  go_wp2_with (go_at_call 37; (with_reducible refine (CC.out _ (R.out.below AL.out)).mono ?_); rintro e w1 ⟨rfl, h1, hl⟩; have r1 := hl.rep; have k8 := r1.k8; have kf := free_of r1.blk 8; have HL := Lib.hid hl; have R1 := Lib.hid r1; clear hl r1)
  go_ret2
  exact ⟨rfl, h1, ((Left.refl R.out AL.out).trans HL.out).trans R1.out.bump⟩
end Go.Proofs.Ytkmgbnklfnjfjaa.Ker
