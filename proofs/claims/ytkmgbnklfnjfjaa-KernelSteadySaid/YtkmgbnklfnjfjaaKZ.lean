import Derived.Test.YtkmgbnklfnjfjaaKY
/-! Who runs, as a function; a row of calls. -/
namespace Go.Proofs.Ytkmgbnklfnjfjaa.Ker
open Go.RowKit Go.Maps

def runStep (a : A) (b i : Int) : Int := if runnable (a.tk i) = true ∧ (b = 0 ∨ (a.tk b).pri < (a.tk i).pri) then i else b
/-- The task that runs. -/
def runF (a : A) : Int := a.tids.foldl (runStep a) 0
theorem run_uniq {a : A} (gd : Good a) {r r' : Int} (h1 : IsRun a r) (h2 : IsRun a r') : r = r' := by
  rcases h1 with ⟨rfl, h1⟩ | ⟨h1, h1r, h1p, h1m⟩ <;> rcases h2 with ⟨rfl, h2⟩ | ⟨h2, h2r, h2p, h2m⟩
  · rfl
  · have := h1 _ h2 h2r; omega
  · have := h2 _ h1 h1r; omega
  · have e1 := h1m _ h2 h2r
    have e2 := h2m _ h1 h1r
    exact gd.pinj _ h1 _ h2 (by omega)
theorem runF_fold {a : A} (gd : Good a) : ∀ (l done : List Int) (b : Int), (∀ i ∈ l, i ∈ a.tids) → (∀ i ∈ done, i ∈ a.tids) →
    ((b = 0 ∧ ∀ i ∈ done, runnable (a.tk i) = false) ∨ (b ∈ a.tids ∧ runnable (a.tk b) = true ∧ ∀ i ∈ done, runnable (a.tk i) = true → (a.tk i).pri ≤ (a.tk b).pri)) →
    ((l.foldl (runStep a) b = 0 ∧ ∀ i ∈ done ++ l, runnable (a.tk i) = false) ∨ (l.foldl (runStep a) b ∈ a.tids ∧ runnable (a.tk (l.foldl (runStep a) b)) = true ∧ ∀ i ∈ done ++ l, runnable (a.tk i) = true → (a.tk i).pri ≤ (a.tk (l.foldl (runStep a) b)).pri))
  | [], done, b, _, _, h => by simpa using h
  | i :: l, done, b, hl, hd, h => by
    have hi := hl i (by simp)
    have := runF_fold gd l (done ++ [i]) (runStep a b i) (fun j hj => hl j (by simp [hj])) (fun j hj => by
      rcases List.mem_append.1 hj with hj | hj
      · exact hd j hj
      · rw [List.mem_singleton.1 hj]; exact hi) ?_
    · simpa using this
    · unfold runStep
      split
      · rename_i hc
        refine .inr ⟨hi, hc.1, fun j hj hr => ?_⟩
        rcases List.mem_append.1 hj with hj | hj
        · rcases h with ⟨_, h⟩ | ⟨hb, _, h⟩
          · rw [h j hj] at hr; cases hr
          · have h1 := h j hj hr
            rcases hc.2 with h2 | h2
            · have := gd.trng b hb; omega
            · omega
        · rw [List.mem_singleton.1 hj]; exact Int.le_refl _
      · rename_i hc
        rcases h with ⟨hb, h⟩ | ⟨hb, hbr, h⟩
        · refine .inl ⟨hb, fun j hj => ?_⟩
          rcases List.mem_append.1 hj with hj | hj
          · exact h j hj
          · rw [List.mem_singleton.1 hj]
            cases hh : runnable (a.tk i) with
            | false => rfl
            | true => exact absurd ⟨hh, .inl hb⟩ hc
        · refine .inr ⟨hb, hbr, fun j hj hr => ?_⟩
          rcases List.mem_append.1 hj with hj | hj
          · exact h j hj hr
          · rw [List.mem_singleton.1 hj] at hr ⊢
            by_cases hlt : (a.tk b).pri < (a.tk i).pri
            · exact absurd ⟨hr, .inr hlt⟩ hc
            · omega
theorem runF_is {a : A} (gd : Good a) : IsRun a (runF a) := by
  have := runF_fold gd a.tids [] 0 (fun _ h => h) (fun _ h => by cases h) (.inl ⟨rfl, fun _ h => by cases h⟩)
  rcases this with ⟨h1, h2⟩ | ⟨h1, h2, h3⟩
  · exact .inl ⟨h1, fun i hi hr => by rw [h2 i (by simpa using hi)] at hr; cases hr⟩
  · exact .inr ⟨h1, h2, by have := gd.prng _ h1; unfold runF; omega, fun i hi hr => h3 i (by simpa using hi) hr⟩
theorem isRun_eq {a : A} (gd : Good a) {r : Int} (h : IsRun a r) : r = runF a := run_uniq gd h (runF_is gd)
theorem runF_in {a : A} (gd : Good a) : runF a = 0 ∨ runF a ∈ a.tids := (runF_is gd).imp (·.1) (·.1)

/-- A call: what to do, and two numbers. -/
abbrev C3 := Int × Int × Int
/-- Do. -/
def doF (a : A) (c : C3) : S := doA a (runF (bump a)) c.1 c.2.1 c.2.2
theorem good_doF {a : A} (h : Good a) (c : C3) : Good (doF a c).2.2 := good_do h _ _ _ _ (runF_in (a := bump a) (h.calls _ (by omega)))
theorem stepA_calls (a : A) (r d x y : Int) : (stepA a r d x y).2.2.calls = a.calls := by
  unfold stepA
  by_cases e1 : d = 1
  · rw [if_pos e1]
    unfold createS
    repeat' (first | rfl | split)
  rw [if_neg e1]
  by_cases e2 : d = 2
  · rw [if_pos e2]
    unfold removeS
    repeat' (first | rfl | split)
  rw [if_neg e2]
  by_cases e3 : d = 3
  · rw [if_pos e3]
    unfold sendS
    repeat' (first | rfl | split)
  rw [if_neg e3]
  by_cases e4 : d = 4
  · rw [if_pos e4]
    unfold takeS
    repeat' (first | rfl | split)
  rw [if_neg e4]
  by_cases e5 : d = 5
  · rw [if_pos e5]
    unfold heldS
    repeat' (first | rfl | split)
  rw [if_neg e5]
  by_cases e6 : d = 6
  · rw [if_pos e6]
    unfold heldS
    repeat' (first | rfl | split)
  rw [if_neg e6]
  by_cases e7 : d = 7
  · rw [if_pos e7]
    unfold setS
    repeat' (first | rfl | split)
  rw [if_neg e7]
  by_cases e8 : d = 8
  · rw [if_pos e8]
    unfold testS
    repeat' (first | rfl | split)
  rw [if_neg e8]
  by_cases e9 : d = 9
  · rw [if_pos e9]
    unfold priS
    repeat' (first | rfl | split)
  rw [if_neg e9]
  by_cases e10 : d = 10
  · rw [if_pos e10]
    unfold fetchS
    repeat' (first | rfl | split)
  rw [if_neg e10]
  by_cases e11 : d = 11
  · rw [if_pos e11]
    unfold packetS
    repeat' (first | rfl | split)
  rw [if_neg e11]
  by_cases e12 : d = 12
  · rw [if_pos e12]
    unfold deviceS
    repeat' (first | rfl | split)
  rw [if_neg e12]
  by_cases e13 : d = 13
  · rw [if_pos e13]
    unfold waitS
    repeat' (first | rfl | split)
  rw [if_neg e13]
theorem doF_calls (a : A) (c : C3) : (doF a c).2.2.calls = a.calls + 1 := by
  unfold doF doA
  split
  · rfl
  · split
    · rfl
    · exact stepA_calls _ _ _ _ _
def afterF (a : A) : List C3 → A
  | [] => a
  | c :: l => afterF (doF a c).2.2 l
def gaveOf (s : S) : Int := if s.2.1 ≠ 0 then -s.2.1 else s.1
def playF (a : A) : List C3 → List Int × List Int
  | [] => ([], [])
  | c :: l => (gaveOf (doF a c) :: (playF (doF a c).2.2 l).1, runF (doF a c).2.2 :: (playF (doF a c).2.2 l).2)
theorem awake_plain : playF A0 [(1, 1, 5), (1, 2, 9), (4, 0, 0), (11, 7, 0), (3, 1, 2), (4, 0, 0)] = ([0, 0, 0, 1, 0, 1], [1, 2, 1, 1, 2, 2]) := by
  decide +kernel
end Go.Proofs.Ytkmgbnklfnjfjaa.Ker
