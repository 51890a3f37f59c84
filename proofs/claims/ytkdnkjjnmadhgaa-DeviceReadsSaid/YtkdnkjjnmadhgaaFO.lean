import Derived.Test.YtkdnkjjnmadhgaaFN
/-! DeviceLines, the plain law: a receive that waits; the whole road. -/
namespace Go.Proofs.Ytkdnkjjnmadhgaa.Dev

section
variable {ms : List (Sl × List Value)} {lk : Nat → Int} {i k : Nat} {s : LS} {os : List Ans}
theorem LR.next_wait (h : LR ms lk i k s os) (hc : ms.length ≤ i - ms.length) : LR ms lk (i + 1) 0 (lineSend ms i s) os := by
  have hi : ms.length ≤ i := by omega
  have hm : ms[i]? = none := List.getElem?_eq_none hi
  obtain ⟨q, hq⟩ : ∃ q : Rq, q = ⟨(i : Int) - ms.length, 1, 0, 0, (none, 0, 0), ((i / 3 : Nat) : Int), s.sent⟩ := ⟨_, rfl⟩
  have hmap := h.msgs
  rw [List.take_of_length_le hi, List.drop_eq_nil_of_le hc] at hmap
  have hmsgs : s.pl.msgs = [] := by simpa using hmap
  have hl : lineF s.pl q [] = ({ s.pl with wait := s.pl.wait ++ [q] }, []) := by
    have ha : addF s.pl q [] = ({ s.pl with wait := s.pl.wait ++ [q] }, []) := by
      unfold addF
      rw [if_pos (by rw [hq])]
    have := lineF_of ha (meet_nil2 (p := { s.pl with wait := s.pl.wait ++ [q] }) hmsgs)
    simpa using this
  have hu : ∀ a ∈ s.pend, ∀ b ∈ s.pend, a.1.ord = b.1.ord → a = b := fun a ha b hb => uniq_mem h.uniq a (List.mem_append_right _ ha) b (List.mem_append_right _ hb)
  have hs : lineSend ms i s = ⟨{ s.pl with wait := s.pl.wait ++ [q] }, ((i / 3 : Nat) : Int), s.sent + 1, s.told, s.pend⟩ := by
    unfold lineSend lineRq lineDat
    rw [hm]
    simp only
    unfold sendS
    rw [← hq, hl, List.append_nil, sortA_of_sorted h.sort hu]
  rw [hs]
  refine { sent := ?_, told := h.told, now0 := ?_, now := .inl ?_, lost := h.lost, plsent := ?_, free0 := h.free0, free1 := ?_, recv := ?_, mat := ?_, msgs := ?_, wait := ?_, some_ := .inr hmsgs, recs := ?_, recAt := h.recAt, sends := h.sends, ords := ?_, uniq := h.uniq, len := ?_, ats := ?_, sort := h.sort }
  · show s.sent + 1 = _
    rw [h.sent]; omega
  · show (0 : Int) ≤ ((i / 3 : Nat) : Int)
    omega
  · show ((i / 3 : Nat) : Int) ≤ _
    rw [show i + 1 - 1 = i by omega]; omega
  · show s.pl.sent = _
    rw [h.plsent]; omega
  · have := h.free1
    show s.pl.free ≤ _
    omega
  · have := h.recv
    show s.pl.recv ≤ _
    omega
  · intro y hy
    have := h.mat y hy
    omega
  · show s.pl.msgs.map (·.2) = _
    rw [hmsgs, List.take_of_length_le (by omega), List.drop_eq_nil_of_le (by omega)]
    rfl
  · show (s.pl.wait ++ [q]).length = _
    rw [List.length_append, h.wait]
    simp; omega
  · have h1 := h.recs
    rw [List.take_of_length_le (by omega)] at h1
    rw [List.take_of_length_le (by omega)]
    exact h1
  · intro o hh
    have := h.ords o hh; omega
  · rw [h.len]; omega
  · intro o hh
    have := h.ats o hh; omega
theorem LR.next (h : LR ms lk i k s os) (hdl : ∀ m ∈ ms, m.2.length ≤ 64) : LR ms lk (i + 1) 0 (lineSend ms i s) os := by
  by_cases h1 : i < ms.length
  · exact h.next_msg h1 hdl
  · by_cases h2 : i - ms.length < ms.length
    · exact h.next_rec (by omega) h2
    · exact h.next_wait (by omega)
/-- A new bus. -/
theorem LR.start : LR ms lk 0 0 ⟨⟨[], 0, 0, [], [], 0⟩, 0, 0, 0, []⟩ [] where
  sent := rfl
  told := rfl
  now0 := Int.le_refl _
  now := .inl (Int.le_refl _)
  lost := rfl
  plsent := by simp
  free0 := Int.le_refl _
  free1 := by simp
  recv := by simp
  mat := fun m h => by cases h
  msgs := by simp
  wait := by simp
  some_ := .inl rfl
  recs := by simp
  recAt := fun o h => by cases h
  sends := fun o h => by cases h
  ords := fun o h => by cases h
  uniq := List.Pairwise.nil
  len := by simp
  ats := fun o h => by cases h
  sort := List.Pairwise.nil
/-- What a look asks. -/
theorem LR.now_le (h : LR ms lk i k s os) (hlk : ∀ k', k' < k → lk k' ≤ lk k) (h0 : 0 < lk k) (hc : i = 0 ∨ (((i - 1) / 3 : Nat) : Int) ≤ lk k) : s.now ≤ lk k := by
  rcases h.now with h1 | ⟨k', h1, h2, _⟩
  · rcases hc with rfl | hc
    · simp at h1; omega
    · omega
  · have := hlk k' h1
    omega
theorem LR.now_send (h : LR ms lk i k s os) : s.now ≤ ((i / 3 : Nat) : Int) := by
  rcases h.now with h1 | ⟨k', h1, h2, h3⟩ <;> omega
/-- The numbers of the line are as they should be. -/
theorem LR.fit (h : LR ms lk i k s os) (hi : i ≤ 1000) (hdl : ∀ m ∈ ms, m.2.length ≤ 64) : LFit s.pl := by
  have hl := congrArg List.length h.msgs
  rw [List.length_map, List.length_map, List.length_drop, List.length_take] at hl
  refine ⟨h.free0, by have := h.free1; omega, by rw [h.plsent]; omega, by rw [h.plsent]; omega, by rw [h.lost]; simp, by omega, by rw [h.wait]; omega, fun x hx => ?_⟩
  have h1 : x.2 ∈ s.pl.msgs.map (·.2) := List.mem_map.2 ⟨x, hx, rfl⟩
  rw [h.msgs] at h1
  obtain ⟨m, hm, e⟩ := List.mem_map.1 h1
  have := hdl m (List.mem_of_mem_take (List.mem_of_mem_drop hm))
  rw [← e]
  omega
end
end Go.Proofs.Ytkdnkjjnmadhgaa.Dev
