import Derived.Test.YtkdnkjjnmadhgaaFM
/-! DeviceLines, the plain law: a receive. -/
namespace Go.Proofs.Ytkdnkjjnmadhgaa.Dev

section
variable {ms : List (Sl × List Value)} {lk : Nat → Int} {i k : Nat} {s : LS} {os : List Ans}
theorem LR.next_rec (h : LR ms lk i k s os) (hi : ms.length ≤ i) (hc : i - ms.length < ms.length) : LR ms lk (i + 1) 0 (lineSend ms i s) os := by
  have hm : ms[i]? = none := List.getElem?_eq_none hi
  obtain ⟨c, hcc⟩ : ∃ c, c = i - ms.length := ⟨_, rfl⟩
  obtain ⟨q, hq⟩ : ∃ q : Rq, q = ⟨(i : Int) - ms.length, 1, 0, 0, (none, 0, 0), ((i / 3 : Nat) : Int), s.sent⟩ := ⟨_, rfl⟩
  have hw : s.pl.wait = [] := List.eq_nil_of_length_eq_zero (by rw [h.wait]; omega)
  have hmap := h.msgs
  rw [List.take_of_length_le hi, ← hcc] at hmap
  obtain ⟨m, hmc⟩ : ∃ m, ms[c]? = some m := ⟨_, List.getElem?_eq_getElem (by omega)⟩
  have hdr : ms.drop c = m :: ms.drop (c + 1) := by
    have h1 := List.drop_eq_getElem_cons (l := ms) (i := c) (by omega)
    rw [h1]
    congr 1
    have := List.getElem?_eq_some_iff.1 hmc
    exact this.2
  rw [hdr] at hmap
  obtain ⟨m0, rest, hg, hm0, hrest⟩ : ∃ m0 rest, s.pl.msgs = m0 :: rest ∧ m0.2 = m.2 ∧ rest.map (·.2) = (ms.drop (c + 1)).map (·.2) := by
    cases hgg : s.pl.msgs with
    | nil => rw [hgg] at hmap; simp at hmap
    | cons a l =>
      rw [hgg] at hmap
      simp only [List.map_cons, List.cons.injEq] at hmap
      exact ⟨a, l, rfl, hmap.1, hmap.2⟩
  obtain ⟨r, hr⟩ : ∃ r, r = max (max s.pl.recv q.at_) m0.1 := ⟨_, rfl⟩
  have hl : lineF s.pl q [] = ({ s.pl with wait := [], msgs := rest, recv := r }, [(q, r, (m.2.length : Int), m.2)]) := by
    have ha : addF s.pl q [] = ({ s.pl with wait := s.pl.wait ++ [q] }, []) := by
      unfold addF
      rw [if_pos (by rw [hq])]
    have hme : meetF { s.pl with wait := s.pl.wait ++ [q] } = ({ s.pl with wait := [], msgs := rest, recv := r }, [(q, r, (m.2.length : Int), m.2)]) := by
      obtain ⟨e1, e2⟩ := meet_cons (p := { s.pl with wait := s.pl.wait ++ [q] }) (q0 := q) (qs := []) (x0 := m0) (ms := rest) (by rw [hw]; rfl) hg
      have e3 := meet_nil1 (p := { s.pl with wait := [], msgs := rest, recv := r }) rfl
      simp only [← hr, hm0] at e1 e2
      rw [e3] at e1 e2
      exact Prod.ext e1 e2
    have := lineF_of ha hme
    simpa using this
  have hs : lineSend ms i s = ⟨{ s.pl with wait := [], msgs := rest, recv := r }, ((i / 3 : Nat) : Int), s.sent + 1, s.told, sortA (s.pend ++ [(q, r, (m.2.length : Int), m.2)])⟩ := by
    unfold lineSend lineRq lineDat
    rw [hm]
    simp only
    unfold sendS
    rw [← hq, hl]
  have hqa : q.at_ = ((i / 3 : Nat) : Int) := by rw [hq]
  have hr0 : s.pl.recv ≤ r ∧ r ≤ 100 + 10 * ((i : Int) + 1) := by
    have h1 := h.recv
    have h2 := h.mat m0 (by rw [hg]; simp)
    rw [hr, hqa]
    omega
  have hx : isRec (q, r, (m.2.length : Int), m.2) = true := by rw [hq]; rfl
  have ho : (q, r, (m.2.length : Int), m.2).1.ord = i := by rw [hq]; exact h.sent
  obtain ⟨u1, u2, u3⟩ := uniq_more (x := (q, r, (m.2.length : Int), m.2)) h.uniq h.ords ho
  have hmem : ∀ o ∈ os ++ sortA (s.pend ++ [(q, r, (m.2.length : Int), m.2)]), o ∈ os ++ s.pend ∨ o = (q, r, (m.2.length : Int), m.2) := fun o hh => by
    rcases List.mem_append.1 (u2.mem_iff.1 hh) with h1 | h1
    · exact .inl h1
    · exact .inr (List.mem_singleton.1 h1)
  have hrl := rec_last (x := (q, r, (m.2.length : Int), m.2)) h.sort hx (fun a ha hra => by
    have h1 := h.recAt a (List.mem_append_right _ ha) hra
    have h2 := h.ords a (List.mem_append_right _ ha)
    unfold ansLe
    rw [decide_eq_true_iff]
    have h3 : (q, r, (m.2.length : Int), m.2).1.ord = i := ho
    have h4 : (q, r, (m.2.length : Int), m.2).2.1 = r := rfl
    rw [h3, h4]
    have := hr0.1
    omega) u3
  rw [hs]
  refine { sent := ?_, told := h.told, now0 := ?_, now := .inl ?_, lost := h.lost, plsent := ?_, free0 := h.free0, free1 := ?_, recv := ?_, mat := ?_, msgs := ?_, wait := ?_, some_ := .inl rfl, recs := ?_, recAt := ?_, sends := ?_, ords := ?_, uniq := u1, len := ?_, ats := ?_, sort := sortA_sorted _ }
  · show s.sent + 1 = _
    rw [h.sent]; omega
  · show (0 : Int) ≤ ((i / 3 : Nat) : Int)
    omega
  · show ((i / 3 : Nat) : Int) ≤ _
    rw [show i + 1 - 1 = i by omega]; omega
  · show s.pl.sent = _
    rw [h.plsent]; omega
  · have := h.free1
    show s.pl.free ≤ _
    omega
  · have := hr0.2
    show r ≤ _
    omega
  · intro y hy
    have := h.mat y (by rw [hg]; exact List.mem_cons_of_mem _ hy)
    omega
  · show rest.map (·.2) = _
    rw [hrest, List.take_of_length_le (by omega), show i + 1 - ms.length = c + 1 by omega]
  · show ([] : List Rq).length = _
    simp; omega
  · have h1 := h.recs
    rw [← hcc] at h1
    rw [List.filter_append, hrl, ← List.append_assoc, ← List.filter_append, List.map_append, h1, show i + 1 - ms.length = c + 1 by omega, List.take_add_one, hmc]
    simp only [Option.toList_some, List.mapIdx_append, List.map_cons, List.map_nil]
    congr 1
    simp only [List.mapIdx_cons, List.mapIdx_nil, List.length_take]
    rw [hq]
    simp only
    have : min c ms.length = c := by omega
    rw [this]
    congr 2
    omega
  · intro o hh hro
    rcases hmem o hh with h1 | h1
    · have := h.recAt o h1 hro
      have := hr0.1
      show o.2.1 ≤ r
      omega
    · rw [h1]; exact Int.le_refl _
  · intro o hh hro
    rcases hmem o hh with h1 | h1
    · exact h.sends o h1 hro
    · rw [h1, hx] at hro; cases hro
  · intro o hh
    rcases hmem o hh with h1 | h1
    · have := h.ords o h1; omega
    · rw [h1, ho]; omega
  · rw [u2.length_eq, List.length_append, h.len]
    simp; omega
  · intro o hh
    rcases List.mem_append.1 ((sortA_perm _).mem_iff.1 hh) with h1 | h1
    · have := h.ats o h1; omega
    · rw [List.mem_singleton.1 h1]
      have := hr0.2
      show r ≤ _
      omega
end
end Go.Proofs.Ytkdnkjjnmadhgaa.Dev
