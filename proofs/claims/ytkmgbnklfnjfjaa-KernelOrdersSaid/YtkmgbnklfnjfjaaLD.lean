import Derived.Test.YtkmgbnklfnjfjaaKZ
/-! What KernelBack asks of the plain kernel. -/
namespace Go.Proofs.Ytkmgbnklfnjfjaa.Ker
open Go.RowKit Go.Maps

theorem doF_run {a : A} {r : Int} (hr : runF a = r) (h0 : r ≠ 0) {d x y : Int} (hd : 1 ≤ d ∧ d ≤ 13) : doF a (d, x, y) = stepA (bump a) r d x y := by
  unfold doF doA
  have e : runF (bump a) = r := hr
  simp only [e]
  rw [if_neg (by omega), if_neg (fun h => h0 h.1)]
  rfl
theorem step3 (a : A) (r x y : Int) : stepA a r 3 x y = sendS a r x y := by simp [stepA]
theorem step12 (a : A) (r x y : Int) : stepA a r 12 x y = deviceS a x y := by simp [stepA]
theorem step13 (a : A) (r x y : Int) : stepA a r 13 x y = waitS a r x := by simp [stepA]
theorem back1 {a : A} {r : Int} (hr : runF a = r) (h0 : r ≠ 0) : doF a (11, 3, 0) = if a.made = 200 then (0, 2, bump a) else (a.made + 1, 0, packA (bump a) r 3) := by
  rw [doF_run hr h0 (by omega)]
  simp only [stepA]
  rfl
theorem back2 {a : A} {r d : Int} (hr : runF (packA (bump a) r 3) = r) (h0 : 0 < r) (hd : d ∈ devs) : doF (packA (bump a) r 3) (3, a.made + 1, d) = (0, 0, moveA (bump (packA (bump a) r 3)) (a.made + 1) r d) := by
  rw [doF_run hr (by omega) (by omega)]
  have h1 : a.made + 1 ∈ (bump (packA (bump a) r 3)).pids := by simp [bump, packA]
  have h2 : ((bump (packA (bump a) r 3)).pk (a.made + 1)).wth = r := by simp [bump, packA, upd_same]
  have h3 : d ≠ r := fun e => dev_neg hd (e ▸ h0)
  rw [step3]
  unfold sendS
  rw [if_pos h1, if_pos h2, if_neg h3, if_pos (.inr hd)]
/-- The kernel behind the send. -/
def backA2 (a : A) (r d : Int) : A := moveA (bump (packA (bump a) r 3)) (a.made + 1) r d
theorem back3 {a : A} {r d x : Int} (hr : runF (backA2 a r d) = r) (h0 : 0 < r) (hd : d ∈ devs) (hdt : d ∉ a.tids) (hrt : r ∈ a.tids) (hq : a.q d = []) : doF (backA2 a r d) (12, d, x) = (0, 0, moveA (resA (dropA (bump (backA2 a r d)) d (a.made + 1)) (a.made + 1) x) (a.made + 1) d r) := by
  rw [doF_run hr (by omega) (by omega), step12]
  have h1 : (bump (backA2 a r d)).q d = [a.made + 1] := by simp [bump, backA2, moveA, packA, upd_same, hq]
  have h2 : ((bump (backA2 a r d)).pk (a.made + 1)).frm = r := by simp [bump, backA2, moveA, packA, upd_same]
  have h3 : r ∈ (bump (backA2 a r d)).tids := hrt
  unfold deviceS
  rw [if_pos hd, h1]
  simp only [h2]
  rw [if_pos h3]
/-- The kernel behind the device's answer. -/
def backA3 (a : A) (r d x : Int) : A := moveA (resA (dropA (bump (backA2 a r d)) d (a.made + 1)) (a.made + 1) x) (a.made + 1) d r
theorem back6 {a : A} {r d x : Int} (hr : runF (backA3 a r d x) = r) (h0 : 0 < r) (hd : d ∈ devs) (hq : a.q d = []) : doF (backA3 a r d x) (12, d, x) = (0, 5, bump (backA3 a r d x)) := by
  rw [doF_run hr (by omega) (by omega), step12]
  have hdr : d ≠ r := fun e => dev_neg hd (e ▸ h0)
  have h1 : (bump (backA3 a r d x)).q d = [] := by simp [bump, backA3, backA2, moveA, resA, dropA, packA, upd_same, upd_other _ _ hdr, hq]
  unfold deviceS
  rw [if_pos hd, h1]
theorem back7 {a : A} {r d x : Int} (hr : runF (bump (backA3 a r d x)) = r) (h0 : 0 < r) : doF (bump (backA3 a r d x)) (13, a.made + 1, 0) = (a.made + 1, 0, ownA (bump (bump (backA3 a r d x))) (a.made + 1) r) := by
  rw [doF_run hr (by omega) (by omega), step13]
  have h1 : a.made + 1 ∈ (bump (bump (backA3 a r d x))).pids := by simp [bump, backA3, backA2, moveA, resA, dropA, packA]
  have h2 : ((bump (bump (backA3 a r d x))).pk (a.made + 1)).wth ≠ r := by simp [bump, backA3, backA2, moveA, resA, dropA, packA, upd_same]; omega
  have h3 : ((bump (bump (backA3 a r d x))).pk (a.made + 1)).at_ = r := by simp [bump, backA3, backA2, moveA, resA, dropA, packA, upd_same]
  unfold waitS
  rw [if_pos h1, if_neg h2, if_pos h3]
/-- Who runs depends on the tasks alone. -/
theorem runF_same {a b : A} (h1 : b.tids = a.tids) (h2 : b.tk = a.tk) : runF b = runF a := by
  unfold runF runStep
  rw [h1, h2]
theorem moveA_tk (a : A) (p f to : Int) (h : to ∉ a.tids ∨ (a.tk to).waiting = false) : (moveA a p f to).tk = a.tk := by
  unfold moveA
  simp only
  rw [if_neg]
  rintro ⟨h1, h2, _⟩
  rcases h with h | h
  · exact h h1
  · rw [h] at h2; cases h2
theorem backA2_tk {a : A} {r d : Int} (hdt : d ∉ a.tids) : (backA2 a r d).tk = a.tk := moveA_tk _ _ _ _ (.inl hdt)
theorem backA3_tk {a : A} {r d x : Int} (hdt : d ∉ a.tids) (hw : (a.tk r).waiting = false) : (backA3 a r d x).tk = a.tk :=
  (moveA_tk _ _ _ _ (.inr (by show ((backA2 a r d).tk r).waiting = false; rw [backA2_tk hdt, hw]))).trans (backA2_tk hdt)
theorem back_pk {a : A} {r d x : Int} : (backA3 a r d x).pk (a.made + 1) = { ty := 3, res := x, own := r, at_ := r, frm := d, wth := 0 } := by
  simp [bump, backA3, backA2, moveA, resA, dropA, packA, upd_same]
theorem back_q {a : A} {r d x : Int} (hdr : r ≠ d) : (backA3 a r d x).q r = a.q r ++ [a.made + 1] := by
  simp [bump, backA3, backA2, moveA, resA, dropA, packA, upd_same, upd_other _ _ hdr]
end Go.Proofs.Ytkmgbnklfnjfjaa.Ker
