import Derived.Test.YtkdnkjjnmadhgaaFL
/-! DeviceLines, the plain law: a message, a receive. -/
namespace Go.Proofs.Ytkdnkjjnmadhgaa.Dev

theorem lineF_of {p p' p'' : PL} {q : Rq} {d : List Value} {l l' : List Ans} (ha : addF p q d = (p', l)) (hm : meetF p' = (p'', l')) : lineF p q d = (p'', l ++ l') := by
  unfold lineF
  simp only [ha, hm]
section
variable {ms : List (Sl × List Value)} {lk : Nat → Int} {i k : Nat} {s : LS} {os : List Ans}
theorem LR.next_msg (h : LR ms lk i k s os) (hi : i < ms.length) (hdl : ∀ m ∈ ms, m.2.length ≤ 64) : LR ms lk (i + 1) 0 (lineSend ms i s) os := by
  obtain ⟨m, hm⟩ : ∃ m, ms[i]? = some m := ⟨_, List.getElem?_eq_getElem hi⟩
  have hmm : m ∈ ms := List.mem_of_getElem? hm
  have h64 := hdl m hmm
  obtain ⟨q, hq⟩ : ∃ q : Rq, q = ⟨1000 + i, 2, 0, 0, m.1, ((i / 3 : Nat) : Int), s.sent⟩ := ⟨_, rfl⟩
  obtain ⟨G, hG⟩ : ∃ G, G = goneF s.pl q m.2.length := ⟨_, rfl⟩
  have hz : i - ms.length = 0 := by omega
  have hw : s.pl.wait = [] := List.eq_nil_of_length_eq_zero (by rw [h.wait, hz]; omega)
  have ha : addF s.pl q m.2 = ({ s.pl with free := G, sent := s.pl.sent + 1, msgs := s.pl.msgs ++ [(G, m.2)] }, [(q, G, 0, [])]) := by
    unfold addF
    rw [if_neg (by rw [hq]; show ¬ ((2 : Int) = 1); decide), if_neg (by rw [h.lost]; simp), ← hG]
  have hl : lineF s.pl q m.2 = ({ s.pl with free := G, sent := s.pl.sent + 1, msgs := s.pl.msgs ++ [(G, m.2)] }, [(q, G, 0, [])]) := by
    exact lineF_of ha (meet_nil1 hw)
  have hs : lineSend ms i s = ⟨{ s.pl with free := G, sent := s.pl.sent + 1, msgs := s.pl.msgs ++ [(G, m.2)] }, ((i / 3 : Nat) : Int), s.sent + 1, s.told, sortA (s.pend ++ [(q, G, 0, [])])⟩ := by
    unfold lineSend lineRq lineDat
    rw [hm]
    simp only
    unfold sendS
    rw [← hq, hl]
  have hg0 : 0 ≤ G ∧ G ≤ 100 + 10 * ((i : Int) + 1) := by
    have h1 := h.free0
    have h2 := h.free1
    rw [hG, hq]
    unfold goneF
    simp only
    omega
  have hx : isRec (q, G, 0, []) = false := by rw [hq]; rfl
  have ho : (q, G, (0 : Int), ([] : List Value)).1.ord = i := by rw [hq]; exact h.sent
  obtain ⟨u1, u2, u3⟩ := uniq_more (x := (q, G, 0, [])) h.uniq h.ords ho
  have hmem : ∀ o ∈ os ++ sortA (s.pend ++ [(q, G, 0, [])]), o ∈ os ++ s.pend ∨ o = (q, G, 0, []) := fun o hh => by
    rcases List.mem_append.1 (u2.mem_iff.1 hh) with h1 | h1
    · exact .inl h1
    · exact .inr (List.mem_singleton.1 h1)
  rw [hs]
  refine { sent := ?_, told := h.told, now0 := ?_, now := .inl ?_, lost := h.lost, plsent := ?_, free0 := hg0.1, free1 := ?_, recv := ?_, mat := ?_, msgs := ?_, wait := ?_, some_ := .inl hw, recs := ?_, recAt := ?_, sends := ?_, ords := ?_, uniq := u1, len := ?_, ats := ?_, sort := sortA_sorted _ }
  · show s.sent + 1 = _
    rw [h.sent]; omega
  · show (0 : Int) ≤ ((i / 3 : Nat) : Int)
    omega
  · show ((i / 3 : Nat) : Int) ≤ _
    rw [show i + 1 - 1 = i by omega]; omega
  · show s.pl.sent + 1 = _
    rw [h.plsent]; omega
  · have := hg0.2
    show G ≤ _
    omega
  · have := h.recv
    show s.pl.recv ≤ _
    omega
  · intro y hy
    rcases List.mem_append.1 hy with hy | hy
    · have := h.mat y hy
      omega
    · rw [List.mem_singleton.1 hy]
      have := hg0.2
      show G ≤ _
      omega
  · show (s.pl.msgs ++ [(G, m.2)]).map (·.2) = _
    rw [List.map_append, h.msgs, hz, show i + 1 - ms.length = 0 by omega, List.drop_zero, List.drop_zero, List.take_add_one, hm]
    simp
  · show s.pl.wait.length = _
    rw [hw]
    simp; omega
  · rw [show i + 1 - ms.length = 0 by omega]
    have h1 := h.recs
    rw [hz] at h1
    rw [List.filter_append, rec_same h.sort hx u3, ← List.filter_append]
    exact h1
  · intro o hh hr
    rcases hmem o hh with h1 | h1
    · exact h.recAt o h1 hr
    · rw [h1, hx] at hr; cases hr
  · intro o hh hr
    rcases hmem o hh with h1 | h1
    · exact h.sends o h1 hr
    · rw [h1, hq]; show (1000 : Int) ≤ 1000 + i; omega
  · intro o hh
    rcases hmem o hh with h1 | h1
    · have := h.ords o h1; omega
    · rw [h1, ho]; omega
  · rw [u2.length_eq, List.length_append, h.len]
    simp; omega
  · intro o hh
    rcases List.mem_append.1 ((sortA_perm _).mem_iff.1 hh) with h1 | h1
    · have := h.ats o h1; omega
    · rw [List.mem_singleton.1 h1]
      have := hg0.2
      show G ≤ _
      omega
end
end Go.Proofs.Ytkdnkjjnmadhgaa.Dev
