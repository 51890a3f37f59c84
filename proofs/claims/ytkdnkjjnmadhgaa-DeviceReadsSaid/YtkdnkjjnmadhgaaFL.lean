import Derived.Test.YtkdnkjjnmadhgaaFK
/-! DeviceLines, the plain law: a look, a request. -/
namespace Go.Proofs.Ytkdnkjjnmadhgaa.Dev

section
variable {ms : List (Sl × List Value)} {lk : Nat → Int} {i k : Nat} {s : LS} {os : List Ans}
theorem LR.skip (h : LR ms lk i k s os) : LR ms lk i (k + 1) s os :=
  { h with now := h.now.imp id fun ⟨k', h1, h2⟩ => ⟨k', by omega, h2⟩ }
theorem LR.look (h : LR ms lk i k s os) (hk : lk k ≤ ((i / 3 : Nat) : Int)) (h0 : 0 ≤ lk k) : LR ms lk i (k + 1) (untilS (lk k) s) (os ++ outS (lk k) s) := by
  have e : (os ++ outS (lk k) s) ++ (untilS (lk k) s).pend = os ++ s.pend := by
    rw [List.append_assoc]
    congr 1
    exact List.takeWhile_append_dropWhile
  have hsub : ((untilS (lk k) s).pend).Sublist s.pend := List.dropWhile_sublist _
  exact { sent := h.sent, told := by
            show s.told + _ = _
            rw [h.told, List.length_append]
            show (os.length : Int) + ((outS (lk k) s).length : Int) = _
            omega
          now0 := h0, now := .inr ⟨k, by omega, rfl, hk⟩, lost := h.lost, plsent := h.plsent, free0 := h.free0, free1 := h.free1, recv := h.recv, mat := h.mat, msgs := h.msgs, wait := h.wait, some_ := h.some_
          recs := by rw [e]; exact h.recs
          recAt := by rw [e]; exact h.recAt
          sends := by rw [e]; exact h.sends
          ords := by rw [e]; exact h.ords
          uniq := by rw [e]; exact h.uniq
          len := by rw [e]; exact h.len
          ats := fun o ho => h.ats o (hsub.subset ho)
          sort := h.sort.sublist hsub }
theorem uniq_mem {l : List Ans} (h : l.Pairwise (fun a b => a.1.ord ≠ b.1.ord)) : ∀ a ∈ l, ∀ b ∈ l, a.1.ord = b.1.ord → a = b := by
  induction l with
  | nil => intro a ha; cases ha
  | cons x l ih =>
    obtain ⟨h1, h2⟩ := List.pairwise_cons.1 h
    intro a ha b hb e
    rcases List.mem_cons.1 ha with ea | ha'
    · rcases List.mem_cons.1 hb with eb | hb'
      · rw [ea, eb]
      · rw [ea] at e
        exact absurd e (h1 b hb')
    · rcases List.mem_cons.1 hb with eb | hb'
      · rw [eb] at e
        exact absurd e.symm (h1 a ha')
      · exact ih h2 a ha' b hb' e
/-- One reply more. -/
theorem uniq_more {os pend : List Ans} {x : Ans} {i : Int} (h : (os ++ pend).Pairwise (fun a b => a.1.ord ≠ b.1.ord)) (ho : ∀ o ∈ os ++ pend, 0 ≤ o.1.ord ∧ o.1.ord < i) (hx : x.1.ord = i) : (os ++ sortA (pend ++ [x])).Pairwise (fun a b => a.1.ord ≠ b.1.ord) ∧ (os ++ sortA (pend ++ [x])).Perm (os ++ pend ++ [x]) ∧ (∀ a ∈ pend ++ [x], ∀ b ∈ pend ++ [x], a.1.ord = b.1.ord → a = b) := by
  have hp : (os ++ sortA (pend ++ [x])).Perm (os ++ pend ++ [x]) := by
    rw [List.append_assoc]
    exact (List.Perm.refl os).append (sortA_perm _)
  have h1 : (os ++ pend ++ [x]).Pairwise (fun a b => a.1.ord ≠ b.1.ord) := by
    rw [List.pairwise_append]
    refine ⟨h, List.pairwise_singleton _ _, fun a ha b hb => ?_⟩
    rw [List.mem_singleton.1 hb]
    have := (ho a ha).2
    omega
  refine ⟨(hp.symm.pairwise_iff (fun hab => Ne.symm hab)).1 h1, hp, fun a ha b hb => uniq_mem h1 a ?_ b ?_⟩
  · rw [List.append_assoc]; exact List.mem_append_right _ ha
  · rw [List.append_assoc]; exact List.mem_append_right _ hb
end
end Go.Proofs.Ytkdnkjjnmadhgaa.Dev
