import Derived.Test.YtkdnkjjnmadhgaaFQ
/-! DeviceLines, the plain law: the end. -/
namespace Go.Proofs.Ytkdnkjjnmadhgaa.Dev

theorem while_all {α : Type} {P : α → Bool} : ∀ {l : List α}, (∀ o ∈ l, P o = true) → l.takeWhile P = l ∧ l.dropWhile P = []
  | [], _ => by simp
  | x :: l, h => by
    obtain ⟨e1, e2⟩ := while_all (l := l) (P := P) fun o ho => h o (by simp [ho])
    simp [h x (by simp), e1, e2]
section
variable {ms : List (Sl × List Value)} {lk : Nat → Int} {n k : Nat} {s : LS} {os : List Ans}
/-- All replies are taken at the end. -/
theorem LR.all (h : LR ms lk n k s os) (hn : n ≤ 200) : outS 1000000000 s = s.pend ∧ (untilS 1000000000 s).pend = [] ∧ (untilS 1000000000 s).sent = n ∧ (untilS 1000000000 s).told = (os ++ s.pend).length := by
  obtain ⟨e1, e2⟩ := while_all (l := s.pend) (P := fun o : Ans => decide (o.2.1 ≤ 1000000000)) fun o ho => by
    have := h.ats o ho
    simp; omega
  refine ⟨e1, e2, h.sent, ?_⟩
  show s.told + ((s.pend.takeWhile fun o => decide (o.2.1 ≤ 1000000000)).length : Int) = _
  rw [e1, h.told, List.length_append]
  omega
/-- The reply to a receive, by how many came ahead of it. -/
theorem rec_at {L : List Ans} {rc : Nat} (hrec : (L.filter isRec).map (fun o => (o.1.pk, o.2.2.1, o.2.2.2)) = (ms.take rc).mapIdx fun c m => ((c : Int), (m.2.length : Int), m.2)) {a : Nat} {o : Ans} (ho : L[a]? = some o) (hr : isRec o = true) :
    ∃ m, ms[((L.take a).filter isRec).length]? = some m ∧ ((L.take a).filter isRec).length < rc ∧ o.1.pk = (((L.take a).filter isRec).length : Nat) ∧ o.2.2.1 = (m.2.length : Int) ∧ o.2.2.2 = m.2 := by
  have ha := (List.getElem?_eq_some_iff.1 ho).1
  have hoo : L[a] = o := (List.getElem?_eq_some_iff.1 ho).2
  have e1 : L = L.take a ++ o :: L.drop (a + 1) := by
    have h1 := List.drop_eq_getElem_cons ha
    rw [hoo] at h1
    rw [← h1, List.take_append_drop]
  have e2 : L.filter isRec = (L.take a).filter isRec ++ o :: (L.drop (a + 1)).filter isRec := by
    conv => lhs; rw [e1, List.filter_append, List.filter_cons_of_pos hr]
  have e3 : ((L.filter isRec).map (fun o => (o.1.pk, o.2.2.1, o.2.2.2)))[((L.take a).filter isRec).length]? = some (o.1.pk, o.2.2.1, o.2.2.2) := by
    rw [e2, List.map_append, List.getElem?_append_right (by simp)]
    simp
  rw [hrec, List.getElem?_mapIdx] at e3
  cases hm : (ms.take rc)[((L.take a).filter isRec).length]? with
  | none => rw [hm] at e3; cases e3
  | some m =>
    rw [hm] at e3
    simp only [Option.map_some, Option.some.injEq, Prod.mk.injEq] at e3
    have hlt := (List.getElem?_eq_some_iff.1 hm).1
    rw [List.length_take] at hlt
    refine ⟨m, ?_, by omega, e3.1.symm, e3.2.1.symm, e3.2.2.symm⟩
    rw [List.getElem?_take_of_lt (by omega)] at hm
    exact hm
/-- How many receives have a reply. -/
theorem rec_count {L : List Ans} {rc : Nat} (hrec : (L.filter isRec).map (fun o => (o.1.pk, o.2.2.1, o.2.2.2)) = (ms.take rc).mapIdx fun c m => ((c : Int), (m.2.length : Int), m.2)) : (L.filter isRec).length = min rc ms.length := by
  have := congrArg List.length hrec
  simpa using this
theorem rec_step {L : List Ans} {a : Nat} {o : Ans} (ho : L[a]? = some o) : ((L.take (a + 1)).filter isRec).length = ((L.take a).filter isRec).length + (if isRec o = true then 1 else 0) := by
  rw [List.take_add_one, ho, List.filter_append, List.length_append]
  by_cases h : isRec o = true
  · simp [h]
  · simp [h]
end
end Go.Proofs.Ytkdnkjjnmadhgaa.Dev
