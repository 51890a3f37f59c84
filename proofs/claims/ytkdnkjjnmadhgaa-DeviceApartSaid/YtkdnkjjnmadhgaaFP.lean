import Derived.Test.YtkdnkjjnmadhgaaFK
set_option linter.unusedVariables false
set_option linter.unusedSimpArgs false
/-! DeviceLines, the plain law: a look, a request. -/
namespace Go.Proofs.Ytkdnkjjnmadhgaa.Dev

section
variable {ms : List (Sl × List Value)} {lk : Nat → Int} {i k : Nat} {s : LS} {os : List Ans}
theorem LR.skip (h : LR ms lk i k s os) : LR ms lk i (k + 1) s os :=
  { h with now := h.now.imp id fun ⟨k', h1, h2⟩ => ⟨k', by omega, h2⟩ }
theorem LR.look (h : LR ms lk i k s os) (hk : lk k ≤ ((i / 3 : Nat) : Int)) (h0 : 0 ≤ lk k) : LR ms lk i (k + 1) (untilS (lk k) s) (os ++ outS (lk k) s) := by
  have e : (os ++ outS (lk k) s) ++ (untilS (lk k) s).pend = os ++ s.pend := by
    rw [List.append_assoc]
    congr 1
    exact List.takeWhile_append_dropWhile
  have hsub : ((untilS (lk k) s).pend).Sublist s.pend := List.dropWhile_sublist _
  exact { sent := h.sent, told := by
            show s.told + _ = _
            rw [h.told, List.length_append]
            show (os.length : Int) + ((outS (lk k) s).length : Int) = _
            omega
          now0 := h0, now := .inr ⟨k, by omega, rfl, hk⟩, lost := h.lost, plsent := h.plsent, free0 := h.free0, free1 := h.free1, recv := h.recv, mat := h.mat, msgs := h.msgs, wait := h.wait, some_ := h.some_
          recs := by rw [e]; exact h.recs
          recAt := by rw [e]; exact h.recAt
          sends := by rw [e]; exact h.sends
          ords := by rw [e]; exact h.ords
          uniq := by rw [e]; exact h.uniq
          len := by rw [e]; exact h.len
          ats := fun o ho => h.ats o (hsub.subset ho)
          sort := h.sort.sublist hsub }
theorem uniq_mem {l : List Ans} (h : l.Pairwise (fun a b => a.1.ord ≠ b.1.ord)) : ∀ a ∈ l, ∀ b ∈ l, a.1.ord = b.1.ord → a = b := by
  induction l with
  | nil => intro a ha; cases ha
  | cons x l ih =>
    obtain ⟨h1, h2⟩ := List.pairwise_cons.1 h
    intro a ha b hb e
    rcases List.mem_cons.1 ha with ea | ha'
    · rcases List.mem_cons.1 hb with eb | hb'
      · rw [ea, eb]
      · rw [ea] at e
        exact absurd e (h1 b hb')
    · rcases List.mem_cons.1 hb with eb | hb'
      · rw [eb] at e
        exact absurd e.symm (h1 a ha')
      · exact ih h2 a ha' b hb' e
/-- One reply more. -/
theorem uniq_more {os pend : List Ans} {x : Ans} {i : Int} (h : (os ++ pend).Pairwise (fun a b => a.1.ord ≠ b.1.ord)) (ho : ∀ o ∈ os ++ pend, 0 ≤ o.1.ord ∧ o.1.ord < i) (hx : x.1.ord = i) : (os ++ sortA (pend ++ [x])).Pairwise (fun a b => a.1.ord ≠ b.1.ord) ∧ (os ++ sortA (pend ++ [x])).Perm (os ++ pend ++ [x]) ∧ (∀ a ∈ pend ++ [x], ∀ b ∈ pend ++ [x], a.1.ord = b.1.ord → a = b) := by
  have hp : (os ++ sortA (pend ++ [x])).Perm (os ++ pend ++ [x]) := by
    rw [List.append_assoc]
    exact (List.Perm.refl os).append (sortA_perm _)
  have h1 : (os ++ pend ++ [x]).Pairwise (fun a b => a.1.ord ≠ b.1.ord) := by
    rw [List.pairwise_append]
    refine ⟨h, List.pairwise_singleton _ _, fun a ha b hb => ?_⟩
    rw [List.mem_singleton.1 hb]
    have := (ho a ha).2
    omega
  refine ⟨(hp.symm.pairwise_iff (fun hab => Ne.symm hab)).1 h1, hp, fun a ha b hb => uniq_mem h1 a ?_ b ?_⟩
  · rw [List.append_assoc]; exact List.mem_append_right _ ha
  · rw [List.append_assoc]; exact List.mem_append_right _ hb
end
end Go.Proofs.Ytkdnkjjnmadhgaa.Dev
/-! DeviceLines, the plain law: a message, a receive. -/
namespace Go.Proofs.Ytkdnkjjnmadhgaa.Dev

theorem lineF_of {p p' p'' : PL} {q : Rq} {d : List Value} {l l' : List Ans} (ha : addF p q d = (p', l)) (hm : meetF p' = (p'', l')) : lineF p q d = (p'', l ++ l') := by
  unfold lineF
  simp only [ha, hm]
section
variable {ms : List (Sl × List Value)} {lk : Nat → Int} {i k : Nat} {s : LS} {os : List Ans}
theorem LR.next_msg (h : LR ms lk i k s os) (hi : i < ms.length) (hdl : ∀ m ∈ ms, m.2.length ≤ 64) : LR ms lk (i + 1) 0 (lineSend ms i s) os := by
  obtain ⟨m, hm⟩ : ∃ m, ms[i]? = some m := ⟨_, List.getElem?_eq_getElem hi⟩
  have hmm : m ∈ ms := List.mem_of_getElem? hm
  have h64 := hdl m hmm
  obtain ⟨q, hq⟩ : ∃ q : Rq, q = ⟨1000 + i, 2, 0, 0, m.1, ((i / 3 : Nat) : Int), s.sent⟩ := ⟨_, rfl⟩
  obtain ⟨G, hG⟩ : ∃ G, G = goneF s.pl q m.2.length := ⟨_, rfl⟩
  have hz : i - ms.length = 0 := by omega
  have hw : s.pl.wait = [] := List.eq_nil_of_length_eq_zero (by rw [h.wait, hz]; omega)
  have ha : addF s.pl q m.2 = ({ s.pl with free := G, sent := s.pl.sent + 1, msgs := s.pl.msgs ++ [(G, m.2)] }, [(q, G, 0, [])]) := by
    unfold addF
    rw [if_neg (by rw [hq]; show ¬ ((2 : Int) = 1); decide), if_neg (by rw [h.lost]; simp), ← hG]
  have hl : lineF s.pl q m.2 = ({ s.pl with free := G, sent := s.pl.sent + 1, msgs := s.pl.msgs ++ [(G, m.2)] }, [(q, G, 0, [])]) := by
    exact lineF_of ha (meet_nil1 hw)
  have hs : lineSend ms i s = ⟨{ s.pl with free := G, sent := s.pl.sent + 1, msgs := s.pl.msgs ++ [(G, m.2)] }, ((i / 3 : Nat) : Int), s.sent + 1, s.told, sortA (s.pend ++ [(q, G, 0, [])])⟩ := by
    unfold lineSend lineRq lineDat
    rw [hm]
    simp only
    unfold sendS
    rw [← hq, hl]
  have hg0 : 0 ≤ G ∧ G ≤ 100 + 10 * ((i : Int) + 1) := by
    have h1 := h.free0
    have h2 := h.free1
    rw [hG, hq]
    unfold goneF
    simp only
    omega
  have hx : isRec (q, G, 0, []) = false := by rw [hq]; rfl
  have ho : (q, G, (0 : Int), ([] : List Value)).1.ord = i := by rw [hq]; exact h.sent
  obtain ⟨u1, u2, u3⟩ := uniq_more (x := (q, G, 0, [])) h.uniq h.ords ho
  have hmem : ∀ o ∈ os ++ sortA (s.pend ++ [(q, G, 0, [])]), o ∈ os ++ s.pend ∨ o = (q, G, 0, []) := fun o hh => by
    rcases List.mem_append.1 (u2.mem_iff.1 hh) with h1 | h1
    · exact .inl h1
    · exact .inr (List.mem_singleton.1 h1)
  rw [hs]
  refine { sent := ?_, told := h.told, now0 := ?_, now := .inl ?_, lost := h.lost, plsent := ?_, free0 := hg0.1, free1 := ?_, recv := ?_, mat := ?_, msgs := ?_, wait := ?_, some_ := .inl hw, recs := ?_, recAt := ?_, sends := ?_, ords := ?_, uniq := u1, len := ?_, ats := ?_, sort := sortA_sorted _ }
  · show s.sent + 1 = _
    rw [h.sent]; omega
  · show (0 : Int) ≤ ((i / 3 : Nat) : Int)
    omega
  · show ((i / 3 : Nat) : Int) ≤ _
    rw [show i + 1 - 1 = i by omega]; omega
  · show s.pl.sent + 1 = _
    rw [h.plsent]; omega
  · have := hg0.2
    show G ≤ _
    omega
  · have := h.recv
    show s.pl.recv ≤ _
    omega
  · intro y hy
    rcases List.mem_append.1 hy with hy | hy
    · have := h.mat y hy
      omega
    · rw [List.mem_singleton.1 hy]
      have := hg0.2
      show G ≤ _
      omega
  · show (s.pl.msgs ++ [(G, m.2)]).map (·.2) = _
    rw [List.map_append, h.msgs, hz, show i + 1 - ms.length = 0 by omega, List.drop_zero, List.drop_zero, List.take_add_one, hm]
    simp
  · show s.pl.wait.length = _
    rw [hw]
    simp; omega
  · rw [show i + 1 - ms.length = 0 by omega]
    have h1 := h.recs
    rw [hz] at h1
    rw [List.filter_append, rec_same h.sort hx u3, ← List.filter_append]
    exact h1
  · intro o hh hr
    rcases hmem o hh with h1 | h1
    · exact h.recAt o h1 hr
    · rw [h1, hx] at hr; cases hr
  · intro o hh hr
    rcases hmem o hh with h1 | h1
    · exact h.sends o h1 hr
    · rw [h1, hq]; show (1000 : Int) ≤ 1000 + i; omega
  · intro o hh
    rcases hmem o hh with h1 | h1
    · have := h.ords o h1; omega
    · rw [h1, ho]; omega
  · rw [u2.length_eq, List.length_append, h.len]
    simp; omega
  · intro o hh
    rcases List.mem_append.1 ((sortA_perm _).mem_iff.1 hh) with h1 | h1
    · have := h.ats o h1; omega
    · rw [List.mem_singleton.1 h1]
      have := hg0.2
      show G ≤ _
      omega
end
end Go.Proofs.Ytkdnkjjnmadhgaa.Dev
/-! DeviceLines, the plain law: a receive. -/
namespace Go.Proofs.Ytkdnkjjnmadhgaa.Dev

section
variable {ms : List (Sl × List Value)} {lk : Nat → Int} {i k : Nat} {s : LS} {os : List Ans}
theorem LR.next_rec (h : LR ms lk i k s os) (hi : ms.length ≤ i) (hc : i - ms.length < ms.length) : LR ms lk (i + 1) 0 (lineSend ms i s) os := by
  have hm : ms[i]? = none := List.getElem?_eq_none hi
  obtain ⟨c, hcc⟩ : ∃ c, c = i - ms.length := ⟨_, rfl⟩
  obtain ⟨q, hq⟩ : ∃ q : Rq, q = ⟨(i : Int) - ms.length, 1, 0, 0, (none, 0, 0), ((i / 3 : Nat) : Int), s.sent⟩ := ⟨_, rfl⟩
  have hw : s.pl.wait = [] := List.eq_nil_of_length_eq_zero (by rw [h.wait]; omega)
  have hmap := h.msgs
  rw [List.take_of_length_le hi, ← hcc] at hmap
  obtain ⟨m, hmc⟩ : ∃ m, ms[c]? = some m := ⟨_, List.getElem?_eq_getElem (by omega)⟩
  have hdr : ms.drop c = m :: ms.drop (c + 1) := by
    have h1 := List.drop_eq_getElem_cons (l := ms) (i := c) (by omega)
    rw [h1]
    congr 1
    have := List.getElem?_eq_some_iff.1 hmc
    exact this.2
  rw [hdr] at hmap
  obtain ⟨m0, rest, hg, hm0, hrest⟩ : ∃ m0 rest, s.pl.msgs = m0 :: rest ∧ m0.2 = m.2 ∧ rest.map (·.2) = (ms.drop (c + 1)).map (·.2) := by
    cases hgg : s.pl.msgs with
    | nil => rw [hgg] at hmap; simp at hmap
    | cons a l =>
      rw [hgg] at hmap
      simp only [List.map_cons, List.cons.injEq] at hmap
      exact ⟨a, l, rfl, hmap.1, hmap.2⟩
  obtain ⟨r, hr⟩ : ∃ r, r = max (max s.pl.recv q.at_) m0.1 := ⟨_, rfl⟩
  have hl : lineF s.pl q [] = ({ s.pl with wait := [], msgs := rest, recv := r }, [(q, r, (m.2.length : Int), m.2)]) := by
    have ha : addF s.pl q [] = ({ s.pl with wait := s.pl.wait ++ [q] }, []) := by
      unfold addF
      rw [if_pos (by rw [hq])]
    have hme : meetF { s.pl with wait := s.pl.wait ++ [q] } = ({ s.pl with wait := [], msgs := rest, recv := r }, [(q, r, (m.2.length : Int), m.2)]) := by
      obtain ⟨e1, e2⟩ := meet_cons (p := { s.pl with wait := s.pl.wait ++ [q] }) (q0 := q) (qs := []) (x0 := m0) (ms := rest) (by rw [hw]; rfl) hg
      have e3 := meet_nil1 (p := { s.pl with wait := [], msgs := rest, recv := r }) rfl
      simp only [← hr, hm0] at e1 e2
      rw [e3] at e1 e2
      exact Prod.ext e1 e2
    have := lineF_of ha hme
    simpa using this
  have hs : lineSend ms i s = ⟨{ s.pl with wait := [], msgs := rest, recv := r }, ((i / 3 : Nat) : Int), s.sent + 1, s.told, sortA (s.pend ++ [(q, r, (m.2.length : Int), m.2)])⟩ := by
    unfold lineSend lineRq lineDat
    rw [hm]
    simp only
    unfold sendS
    rw [← hq, hl]
  have hqa : q.at_ = ((i / 3 : Nat) : Int) := by rw [hq]
  have hr0 : s.pl.recv ≤ r ∧ r ≤ 100 + 10 * ((i : Int) + 1) := by
    have h1 := h.recv
    have h2 := h.mat m0 (by rw [hg]; simp)
    rw [hr, hqa]
    omega
  have hx : isRec (q, r, (m.2.length : Int), m.2) = true := by rw [hq]; rfl
  have ho : (q, r, (m.2.length : Int), m.2).1.ord = i := by rw [hq]; exact h.sent
  obtain ⟨u1, u2, u3⟩ := uniq_more (x := (q, r, (m.2.length : Int), m.2)) h.uniq h.ords ho
  have hmem : ∀ o ∈ os ++ sortA (s.pend ++ [(q, r, (m.2.length : Int), m.2)]), o ∈ os ++ s.pend ∨ o = (q, r, (m.2.length : Int), m.2) := fun o hh => by
    rcases List.mem_append.1 (u2.mem_iff.1 hh) with h1 | h1
    · exact .inl h1
    · exact .inr (List.mem_singleton.1 h1)
  have hrl := rec_last (x := (q, r, (m.2.length : Int), m.2)) h.sort hx (fun a ha hra => by
    have h1 := h.recAt a (List.mem_append_right _ ha) hra
    have h2 := h.ords a (List.mem_append_right _ ha)
    unfold ansLe
    rw [decide_eq_true_iff]
    have h3 : (q, r, (m.2.length : Int), m.2).1.ord = i := ho
    have h4 : (q, r, (m.2.length : Int), m.2).2.1 = r := rfl
    rw [h3, h4]
    have := hr0.1
    omega) u3
  rw [hs]
  refine { sent := ?_, told := h.told, now0 := ?_, now := .inl ?_, lost := h.lost, plsent := ?_, free0 := h.free0, free1 := ?_, recv := ?_, mat := ?_, msgs := ?_, wait := ?_, some_ := .inl rfl, recs := ?_, recAt := ?_, sends := ?_, ords := ?_, uniq := u1, len := ?_, ats := ?_, sort := sortA_sorted _ }
  · show s.sent + 1 = _
    rw [h.sent]; omega
  · show (0 : Int) ≤ ((i / 3 : Nat) : Int)
    omega
  · show ((i / 3 : Nat) : Int) ≤ _
    rw [show i + 1 - 1 = i by omega]; omega
  · show s.pl.sent = _
    rw [h.plsent]; omega
  · have := h.free1
    show s.pl.free ≤ _
    omega
  · have := hr0.2
    show r ≤ _
    omega
  · intro y hy
    have := h.mat y (by rw [hg]; exact List.mem_cons_of_mem _ hy)
    omega
  · show rest.map (·.2) = _
    rw [hrest, List.take_of_length_le (by omega), show i + 1 - ms.length = c + 1 by omega]
  · show ([] : List Rq).length = _
    simp; omega
  · have h1 := h.recs
    rw [← hcc] at h1
    rw [List.filter_append, hrl, ← List.append_assoc, ← List.filter_append, List.map_append, h1, show i + 1 - ms.length = c + 1 by omega, List.take_add_one, hmc]
    simp only [Option.toList_some, List.mapIdx_append, List.map_cons, List.map_nil]
    congr 1
    simp only [List.mapIdx_cons, List.mapIdx_nil, List.length_take]
    rw [hq]
    simp only
    have : min c ms.length = c := by omega
    rw [this]
    congr 2
    omega
  · intro o hh hro
    rcases hmem o hh with h1 | h1
    · have := h.recAt o h1 hro
      have := hr0.1
      show o.2.1 ≤ r
      omega
    · rw [h1]; exact Int.le_refl _
  · intro o hh hro
    rcases hmem o hh with h1 | h1
    · exact h.sends o h1 hro
    · rw [h1, hx] at hro; cases hro
  · intro o hh
    rcases hmem o hh with h1 | h1
    · have := h.ords o h1; omega
    · rw [h1, ho]; omega
  · rw [u2.length_eq, List.length_append, h.len]
    simp; omega
  · intro o hh
    rcases List.mem_append.1 ((sortA_perm _).mem_iff.1 hh) with h1 | h1
    · have := h.ats o h1; omega
    · rw [List.mem_singleton.1 h1]
      have := hr0.2
      show r ≤ _
      omega
end
end Go.Proofs.Ytkdnkjjnmadhgaa.Dev
/-! DeviceLines, the plain law: a receive that waits; the whole road. -/
namespace Go.Proofs.Ytkdnkjjnmadhgaa.Dev

section
variable {ms : List (Sl × List Value)} {lk : Nat → Int} {i k : Nat} {s : LS} {os : List Ans}
theorem LR.next_wait (h : LR ms lk i k s os) (hc : ms.length ≤ i - ms.length) : LR ms lk (i + 1) 0 (lineSend ms i s) os := by
  have hi : ms.length ≤ i := by omega
  have hm : ms[i]? = none := List.getElem?_eq_none hi
  obtain ⟨q, hq⟩ : ∃ q : Rq, q = ⟨(i : Int) - ms.length, 1, 0, 0, (none, 0, 0), ((i / 3 : Nat) : Int), s.sent⟩ := ⟨_, rfl⟩
  have hmap := h.msgs
  rw [List.take_of_length_le hi, List.drop_eq_nil_of_le hc] at hmap
  have hmsgs : s.pl.msgs = [] := by simpa using hmap
  have hl : lineF s.pl q [] = ({ s.pl with wait := s.pl.wait ++ [q] }, []) := by
    have ha : addF s.pl q [] = ({ s.pl with wait := s.pl.wait ++ [q] }, []) := by
      unfold addF
      rw [if_pos (by rw [hq])]
    have := lineF_of ha (meet_nil2 (p := { s.pl with wait := s.pl.wait ++ [q] }) hmsgs)
    simpa using this
  have hu : ∀ a ∈ s.pend, ∀ b ∈ s.pend, a.1.ord = b.1.ord → a = b := fun a ha b hb => uniq_mem h.uniq a (List.mem_append_right _ ha) b (List.mem_append_right _ hb)
  have hs : lineSend ms i s = ⟨{ s.pl with wait := s.pl.wait ++ [q] }, ((i / 3 : Nat) : Int), s.sent + 1, s.told, s.pend⟩ := by
    unfold lineSend lineRq lineDat
    rw [hm]
    simp only
    unfold sendS
    rw [← hq, hl, List.append_nil, sortA_of_sorted h.sort hu]
  rw [hs]
  refine { sent := ?_, told := h.told, now0 := ?_, now := .inl ?_, lost := h.lost, plsent := ?_, free0 := h.free0, free1 := ?_, recv := ?_, mat := ?_, msgs := ?_, wait := ?_, some_ := .inr hmsgs, recs := ?_, recAt := h.recAt, sends := h.sends, ords := ?_, uniq := h.uniq, len := ?_, ats := ?_, sort := h.sort }
  · show s.sent + 1 = _
    rw [h.sent]; omega
  · show (0 : Int) ≤ ((i / 3 : Nat) : Int)
    omega
  · show ((i / 3 : Nat) : Int) ≤ _
    rw [show i + 1 - 1 = i by omega]; omega
  · show s.pl.sent = _
    rw [h.plsent]; omega
  · have := h.free1
    show s.pl.free ≤ _
    omega
  · have := h.recv
    show s.pl.recv ≤ _
    omega
  · intro y hy
    have := h.mat y hy
    omega
  · show s.pl.msgs.map (·.2) = _
    rw [hmsgs, List.take_of_length_le (by omega), List.drop_eq_nil_of_le (by omega)]
    rfl
  · show (s.pl.wait ++ [q]).length = _
    rw [List.length_append, h.wait]
    simp; omega
  · have h1 := h.recs
    rw [List.take_of_length_le (by omega)] at h1
    rw [List.take_of_length_le (by omega)]
    exact h1
  · intro o hh
    have := h.ords o hh; omega
  · rw [h.len]; omega
  · intro o hh
    have := h.ats o hh; omega
theorem LR.next (h : LR ms lk i k s os) (hdl : ∀ m ∈ ms, m.2.length ≤ 64) : LR ms lk (i + 1) 0 (lineSend ms i s) os := by
  by_cases h1 : i < ms.length
  · exact h.next_msg h1 hdl
  · by_cases h2 : i - ms.length < ms.length
    · exact h.next_rec (by omega) h2
    · exact h.next_wait (by omega)
/-- A new bus. -/
theorem LR.start : LR ms lk 0 0 ⟨⟨[], 0, 0, [], [], 0⟩, 0, 0, 0, []⟩ [] where
  sent := rfl
  told := rfl
  now0 := Int.le_refl _
  now := .inl (Int.le_refl _)
  lost := rfl
  plsent := by simp
  free0 := Int.le_refl _
  free1 := by simp
  recv := by simp
  mat := fun m h => by cases h
  msgs := by simp
  wait := by simp
  some_ := .inl rfl
  recs := by simp
  recAt := fun o h => by cases h
  sends := fun o h => by cases h
  ords := fun o h => by cases h
  uniq := List.Pairwise.nil
  len := by simp
  ats := fun o h => by cases h
  sort := List.Pairwise.nil
/-- What a look asks. -/
theorem LR.now_le (h : LR ms lk i k s os) (hlk : ∀ k', k' < k → lk k' ≤ lk k) (h0 : 0 < lk k) (hc : i = 0 ∨ (((i - 1) / 3 : Nat) : Int) ≤ lk k) : s.now ≤ lk k := by
  rcases h.now with h1 | ⟨k', h1, h2, _⟩
  · rcases hc with rfl | hc
    · simp at h1; omega
    · omega
  · have := hlk k' h1
    omega
theorem LR.now_send (h : LR ms lk i k s os) : s.now ≤ ((i / 3 : Nat) : Int) := by
  rcases h.now with h1 | ⟨k', h1, h2, h3⟩ <;> omega
/-- The numbers of the line are as they should be. -/
theorem LR.fit (h : LR ms lk i k s os) (hi : i ≤ 1000) (hdl : ∀ m ∈ ms, m.2.length ≤ 64) : LFit s.pl := by
  have hl := congrArg List.length h.msgs
  rw [List.length_map, List.length_map, List.length_drop, List.length_take] at hl
  refine ⟨h.free0, by have := h.free1; omega, by rw [h.plsent]; omega, by rw [h.plsent]; omega, by rw [h.lost]; simp, by omega, by rw [h.wait]; omega, fun x hx => ?_⟩
  have h1 : x.2 ∈ s.pl.msgs.map (·.2) := List.mem_map.2 ⟨x, hx, rfl⟩
  rw [h.msgs] at h1
  obtain ⟨m, hm, e⟩ := List.mem_map.1 h1
  have := hdl m (List.mem_of_mem_take (List.mem_of_mem_drop hm))
  rw [← e]
  omega
end
end Go.Proofs.Ytkdnkjjnmadhgaa.Dev
/-! DeviceLines: the plan is handed in. -/
namespace Go.Proofs.Ytkdnkjjnmadhgaa.Dev
open Go.RowKit Go.Maps Go.Lib

theorem RowO.base {w : World} {B B' e sz n : Nat} {v : Value} {xs : List Value} (h : RowO w B e sz v n xs) (hb : B' ≤ B) : RowO w B' e sz v n xs := by
  refine ⟨h.1, ?_⟩
  rcases h.2 with h2 | ⟨g, off, cap, cur, hv, h1, h3⟩
  · exact .inl h2
  · exact .inr ⟨g, off, cap, cur, hv, Nat.le_trans hb h1, h3⟩
theorem SysL.lower {B B' : Nat} {w : World} {b d : Nat} {bm : BM} {lm : LM} (h : SysL B w b d bm lm line0) (hB : B' ≤ B) : SysL B' w b d bm lm line0 := by
  have hsm : lm.sm = [] := List.eq_nil_of_length_eq_zero (by rw [h.line.hm.1]; rfl)
  refine ⟨⟨Nat.le_trans hB h.bus.low, h.bus.cells, own_base h.bus.rd hB, h.bus.rr.base hB⟩, ⟨Nat.le_trans hB h.line.low, h.line.cells, h.line.rm.base hB, h.line.rq.base hB, ?_, ?_⟩, h.ds⟩
  · rw [hsm]; exact All2.nil_
  · have h1 := h.line.hl
    exact ⟨h1.1, h1.2.1, fun hn => by
      have : lm.vl.2.1 = 0 := by rw [← h1.1]; rfl
      omega⟩
/-- The road of the plan. -/
theorem line_road (ms : List (Sl × List Value)) (n : Nat) (lk : Nat → Int) (hn : n ≤ 1000) (hdl : ∀ m ∈ ms, m.2.length ≤ 64) (h0 : ∀ k, 0 < lk k) (m : Nat) :
    Road (fun i k s os => i ≤ n ∧ k ≤ m ∧ LR ms lk i k s os) n m (fun i => ((i / 3 : Nat) : Int)) lk (lineSend ms) untilS outS where
  look := fun i k s os hi hk h hc => ⟨h.1, hk, h.2.2.look hc.1 (by have := h0 k; omega)⟩
  skip := fun i k s os hi hk h hc => ⟨h.1, hk, h.2.2.skip⟩
  next := fun i s os hi h => ⟨hi, Nat.zero_le _, h.2.2.next hdl⟩
  few := fun i k s os h => by
    have h1 := h.2.2.len
    rw [List.length_append] at h1
    have := h.1
    omega
  last := fun s os h => by
    have h1 := h.2.2.len
    have h2 : (outS 1000000000 s).length ≤ s.pend.length := (List.takeWhile_sublist _).length_le
    rw [List.length_append] at h1 ⊢
    omega
theorem matchF_len : ∀ (rc : Int) (ws : List Rq) (l : List (Int × List Value)), (matchF rc ws l).2.2.2.length ≤ ws.length
  | rc, [], l => by simp [matchF]
  | rc, w :: ws, [] => by simp [matchF]
  | rc, w :: ws, m :: l => by
    have := matchF_len (max (max rc w.at_) m.1) ws l
    simp only [matchF, List.length_cons]
    omega
theorem lineF_few (p : PL) (q : Rq) (d : List Value) : (lineF p q d).2.length ≤ p.wait.length + 2 := by
  unfold lineF meetF
  simp only [List.length_append, List.length_map]
  have h1 := matchF_len (addF p q d).1.recv (addF p q d).1.wait (addF p q d).1.msgs
  have h2 : (addF p q d).1.wait.length ≤ p.wait.length + 1 ∧ (addF p q d).2.length ≤ 1 := by
    unfold addF
    split <;> simp
  omega
theorem lineRq_do (ms : List (Sl × List Value)) (i : Nat) : (lineRq ms i).2.1 = 1 ∨ (lineRq ms i).2.1 = 2 := by
  unfold lineRq
  split <;> simp
theorem lineRq_dat {w : World} {ms : List (Sl × List Value)} (h : ∀ m ∈ ms, Held w.heap.size 5 w m.1 m.2) (hdl : ∀ m ∈ ms, m.2.length ≤ 64) (i : Nat) : Held w.heap.size 5 w (lineRq ms i).2.2.2.2 (lineDat ms i) ∧ (lineDat ms i).length ≤ 64 := by
  unfold lineRq lineDat
  cases hm : ms[i]? with
  | none => exact ⟨Held.nil_, by simp⟩
  | some m => exact ⟨h m (List.mem_of_getElem? hm), hdl m (List.mem_of_getElem? hm)⟩
theorem lines_handed (w : World) (gc : Nat) (Ar Ad At Al : Option Addr) (ms : List (Sl × List Value)) (n nr nd nt m nl : Nat) (lk : Nat → Int) (hn : n ≤ 200) (hm : m ≤ 100) (hc : OneCfg w gc 0 4 0)
    (hP : PlanAt w w.heap.size Ar Ad At n (lineRq ms) (fun _ => 1) (fun i => ((i / 3 : Nat) : Int))) (hL : LooksAt w w.heap.size Al m lk) (hheld : ∀ x ∈ ms, Held w.heap.size 5 w x.1 x.2) (hdl : ∀ x ∈ ms, x.2.length ≤ 64)
    (h0 : ∀ k, 0 < lk k) (hasc : ∀ k k', k' < k → lk k' ≤ lk k) :
    Calls Try.prog 17 #[.slice (some ⟨gc, 0, none⟩) 1 1, .agg #[.slice Ar n nr, .slice Ad n nd, .slice At n nt], .slice Al m nl] w fun e w' => ∃ (v : Value) (s : LS) (os : List Ans) (rs : List Rp), e = .returned (.tuple #[v, ptr (w.heap.size + 1), .bool true]) ∧ (n ≤ n ∧ 0 ≤ m ∧ LR ms lk n 0 s os) ∧ LSt w (w.heap.size + 1) (untilS 1000000000 s) w' ∧ HOut w.heap.size w.heap.size w' v rs (os ++ outS 1000000000 s) := by
  refine handed_ok w _ Ar Ad At Al n nr nd nt m nl (w.heap.size + 1) (lineRq ms) (fun _ => 1) (fun i => ((i / 3 : Nat) : Int)) lk hP hL (by omega) (by omega) (fun i k s os => i ≤ n ∧ k ≤ m ∧ LR ms lk i k s os) (lineSend ms) untilS outS (line_road ms n lk (by omega) hdl h0 m)
    (LSt w (w.heap.size + 1)) ⟨line0, 0, 0, 0, []⟩ ⟨Nat.zero_le _, Nat.zero_le _, LR.start⟩ ?_ (fun s wr h => h.below) (fun s wr w' h ht => h.keep ht) ?_ ?_
  · intro W hW hs
    have hc' : OneCfg W gc 0 4 0 := fun j u hu => by
      have h1 := hc j u hu
      exact (hW.cell (lt_of_cell h1)).trans h1
    refine (new_line W gc 0 hc').mono ?_
    rintro e w' ⟨rfl, hb, d, bm, lm, h1, h2, h3, h4, h5⟩
    rw [hs] at h1
    refine ⟨by rw [hs], ⟨d, bm, lm, h1.lower (by omega), h2, h3, h4, by rw [h5]; exact All2.nil_, hW.trans (hb.mono hW.size)⟩, hb⟩
  · rintro i s os wr hi ⟨_, _, hR⟩ hS
    obtain ⟨hd1, hd2⟩ := lineRq_dat hheld hdl i
    have hlen := hR.len
    rw [List.length_append] at hlen
    have hw := hR.wait
    have hnx := (hR.next hdl).uniq
    have hpe : (lineSend ms i s).pend = sortA (s.pend ++ (lineF s.pl ⟨(lineRq ms i).1, (lineRq ms i).2.1, (lineRq ms i).2.2.1, (lineRq ms i).2.2.2.1, (lineRq ms i).2.2.2.2, ((i / 3 : Nat) : Int), s.sent⟩ (lineDat ms i)).2) := rfl
    rw [hpe] at hnx
    have hfw := lineF_few s.pl ⟨(lineRq ms i).1, (lineRq ms i).2.1, (lineRq ms i).2.2.1, (lineRq ms i).2.2.2.1, (lineRq ms i).2.2.2.2, ((i / 3 : Nat) : Int), s.sent⟩ (lineDat ms i)
    exact lst_send w (w.heap.size + 1) s wr hS (hR.fit (by omega) hdl) ((i / 3 : Nat) : Int) (lineRq ms i).1 (lineRq ms i).2.1 (lineRq ms i).2.2.1 (lineRq ms i).2.2.2.1 (lineRq ms i).2.2.2.2 (lineDat ms i) hd1 hd2 hR.now_send (by omega) (by omega) (lineRq_do ms i) (by rw [hR.sent]; omega) (by omega) (by omega)
      fun x hx y hy => uniq_mem hnx x (List.mem_append_right _ ((sortA_perm _).mem_iff.2 hx)) y (List.mem_append_right _ ((sortA_perm _).mem_iff.2 hy))
  · rintro t i k s os wr ⟨hin, hkm, hR⟩ hS ht
    have hlen := hR.len
    rw [List.length_append] at hlen
    refine lst_until w (w.heap.size + 1) s wr hS t ?_ (by omega) (by rw [hR.told]; omega)
    rcases ht with ⟨hi, hk, rfl, hcc⟩ | ⟨_, rfl⟩
    · exact hR.now_le (fun k' hk' => hasc k k' hk') (h0 k) hcc.2
    · have := hR.now_send
      omega
end Go.Proofs.Ytkdnkjjnmadhgaa.Dev
