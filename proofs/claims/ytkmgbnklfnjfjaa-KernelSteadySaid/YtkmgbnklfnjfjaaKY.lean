import Derived.Test.YtkmgbnklfnjfjaaKX
/-! What always holds of a kernel holds behind each call. -/
namespace Go.Proofs.Ytkmgbnklfnjfjaa.Ker
open Go.RowKit Go.Maps

theorem good0 : Good A0 where
  tnd := List.nodup_nil
  pnd := List.nodup_nil
  trng := fun i hi => by cases hi
  prng := fun i hi => by cases hi
  pinj := fun i hi => by cases hi
  pkr := fun i hi => by cases hi
  made := ⟨by decide, by decide⟩
  qin := fun i _ p hp => by cases hp
  qnd := fun i _ => List.nodup_nil
  inq := fun i hi => by cases hi
  wth0 := fun i hi => by cases hi
  mcalls := Int.le_refl _

theorem Good.own_ne {a : A} (h : Good a) {i : Int} (hi : a.owner i) : i ≠ 0 := by
  rcases hi with hi | hi
  · have := h.trng i hi; omega
  · intro e; subst e; simp [devs] at hi
theorem Good.calls {a : A} (h : Good a) (c : Int) (hc : a.calls ≤ c) : Good { a with calls := c } :=
  ⟨h.tnd, h.pnd, h.trng, h.prng, h.pinj, h.pkr, h.made, h.qin, h.qnd, h.inq, h.wth0, Int.le_trans h.mcalls hc⟩
theorem Good.tkSame {a : A} (h : Good a) (f : Int → T) (hf : ∀ i ∈ a.tids, (f i).pri = (a.tk i).pri) : Good { a with tk := f } :=
  ⟨h.tnd, h.pnd, h.trng, fun i hi => by rw [show ({ a with tk := f } : A).tk i = f i from rfl, hf i hi]; exact h.prng i hi, fun i hi j hj he => h.pinj i hi j hj (by rw [← hf i hi, ← hf j hj]; exact he), h.pkr, h.made, h.qin, h.qnd, h.inq, h.wth0, h.mcalls⟩
theorem upd_pri {a : A} (x : Int) (t : T) (ht : t.pri = (a.tk x).pri) : ∀ i ∈ a.tids, (upd a.tk x t i).pri = (a.tk i).pri := by
  intro i _
  by_cases hx : i = x
  · subst hx; rw [upd_same, ht]
  · rw [upd_other _ _ hx]
theorem good_rest {a : A} (h : Good a) (r i : Int) : Good (restA a r i) := h.tkSame _ (upd_pri r _ rfl)
theorem good_held {a : A} (h : Good a) (x : Int) (b : Bool) : Good (heldA a x b) := h.tkSame _ (upd_pri x _ rfl)
theorem good_set {a : A} (h : Good a) (x y : Int) : Good (setA a x y) := h.tkSame _ (upd_pri x _ rfl)
theorem good_test {a : A} (h : Good a) (r x : Int) : Good (testA a r x) := h.tkSame _ (upd_pri r _ rfl)
theorem taken_no {a : A} {y x : Int} (h : takenA a y x = false) {i : Int} (hi : i ∈ a.tids) (hx : i ≠ x) : (a.tk i).pri ≠ y := by
  unfold takenA at h
  rw [List.any_eq_false] at h
  have := h i hi
  intro e
  simp [e, hx] at this
theorem good_pri {a : A} (h : Good a) (x y : Int) (hy : 1 ≤ y ∧ y ≤ 1000) (ht : takenA a y x = false) : Good (priA a x y) := by
  refine ⟨h.tnd, h.pnd, h.trng, fun i hi => ?_, fun i hi j hj he => ?_, h.pkr, h.made, h.qin, h.qnd, h.inq, h.wth0, h.mcalls⟩
  · show 1 ≤ (upd a.tk x _ i).pri ∧ _
    by_cases hx : i = x
    · subst hx
      simp only [priA, upd_same]
      exact hy
    · simp only [priA, upd_other _ _ hx]
      exact h.prng i hi
  · simp only [priA] at he hi hj
    by_cases hx : i = x
    · by_cases hjx : j = x
      · rw [hx, hjx]
      · subst hx
        rw [upd_same, upd_other _ _ hjx] at he
        exact absurd he.symm (taken_no ht hj hjx)
    · by_cases hjx : j = x
      · subst hjx
        rw [upd_same, upd_other _ _ hx] at he
        exact absurd he (taken_no ht hi hx)
      · rw [upd_other _ _ hx, upd_other _ _ hjx] at he
        exact h.pinj i hi j hj he
theorem good_create {a : A} (h : Good a) (x y : Int) (hr : 1 ≤ x ∧ x ≤ 20 ∧ 1 ≤ y ∧ y ≤ 1000) (hx : x ∉ a.tids) (ht : takenA a y 0 = false) : Good (createA a x y) := by
  have hne : ∀ i ∈ a.tids, i ≠ x := fun i hi e => hx (e ▸ hi)
  have hxd : x ∉ devs := fun hd => dev_neg hd (by omega)
  have hown : ∀ i, A.owner (createA a x y) i → i = x ∨ (i ≠ x ∧ a.owner i) := by
    intro i hi
    rcases hi with hi | hi
    · rcases List.mem_append.1 hi with hi | hi
      · exact .inr ⟨hne i hi, .inl hi⟩
      · exact .inl (List.mem_singleton.1 hi)
    · exact .inr ⟨fun e => hxd (e ▸ hi), .inr hi⟩
  have mem : ∀ i ∈ (createA a x y).tids, i = x ∨ i ∈ a.tids := fun i hi => by
    rcases List.mem_append.1 hi with hi | hi
    · exact .inr hi
    · exact .inl (List.mem_singleton.1 hi)
  refine ⟨?_, h.pnd, ?_, ?_, ?_, h.pkr, h.made, ?_, ?_, ?_, h.wth0, h.mcalls⟩
  · show (a.tids ++ [x]).Nodup
    rw [List.nodup_append]
    exact ⟨h.tnd, by simp, fun i hi j hj => by rw [List.mem_singleton] at hj; rw [hj]; exact hne i hi⟩
  · intro i hi
    rcases mem i hi with rfl | hi
    · omega
    · exact h.trng i hi
  · intro i hi
    rcases mem i hi with rfl | hi
    · simp only [createA, upd_same]; omega
    · simp only [createA, upd_other _ _ (hne i hi)]; exact h.prng i hi
  · intro i hi j hj he
    simp only [createA] at he
    by_cases hix : i = x
    · by_cases hjx : j = x
      · rw [hix, hjx]
      · have hj2 := (mem j hj).resolve_left hjx
        rw [hix, upd_same, upd_other _ _ hjx] at he
        exact absurd he.symm (taken_no ht hj2 (by have := h.trng j hj2; omega))
    · have hi2 := (mem i hi).resolve_left hix
      by_cases hjx : j = x
      · rw [hjx, upd_same, upd_other _ _ hix] at he
        exact absurd he (taken_no ht hi2 (by have := h.trng i hi2; omega))
      · have hj2 := (mem j hj).resolve_left hjx
        rw [upd_other _ _ hix, upd_other _ _ hjx] at he
        exact h.pinj i hi2 j hj2 he
  · intro i hi p hp
    rcases hown i hi with rfl | ⟨hix, hi⟩
    · simp only [createA, upd_same] at hp; cases hp
    · simp only [createA, upd_other _ _ hix] at hp
      exact h.qin i hi p hp
  · intro i hi
    rcases hown i hi with rfl | ⟨hix, hi⟩
    · simp only [createA, upd_same]; exact List.nodup_nil
    · simp only [createA, upd_other _ _ hix]
      exact h.qnd i hi
  · intro p hp hat
    obtain ⟨h1, h2⟩ := h.inq p hp hat
    refine ⟨?_, ?_⟩
    · exact h1.imp (fun h => List.mem_append_left _ h) id
    · have : (a.pk p).at_ ≠ x := by
        rcases h1 with h1 | h1
        · exact hne _ h1
        · exact fun e => hxd (e ▸ h1)
      simp only [createA, upd_other _ _ this]
      exact h2
theorem good_pack {a : A} (h : Good a) (r ty : Int) (hm : a.made ≠ 200) : Good (packA a r ty) := by
  have hmd := h.made
  have hne : ∀ p ∈ a.pids, p ≠ a.made + 1 := fun p hp => by have := h.pkr p hp; omega
  have mem : ∀ p ∈ (packA a r ty).pids, p = a.made + 1 ∨ p ∈ a.pids := fun p hp => by
    rcases List.mem_append.1 hp with hp | hp
    · exact .inr hp
    · exact .inl (List.mem_singleton.1 hp)
  refine ⟨h.tnd, ?_, h.trng, h.prng, h.pinj, ?_, ?_, ?_, h.qnd, ?_, ?_, h.mcalls⟩
  · show (a.pids ++ [a.made + 1]).Nodup
    rw [List.nodup_append]
    exact ⟨h.pnd, by simp, fun i hi j hj => by rw [List.mem_singleton] at hj; rw [hj]; exact hne i hi⟩
  · intro p hp
    show 1 ≤ p ∧ p ≤ a.made + 1
    rcases mem p hp with rfl | hp
    · omega
    · have := h.pkr p hp; omega
  · show 0 ≤ a.made + 1 ∧ a.made + 1 ≤ 200
    omega
  · intro i hi p hp
    obtain ⟨h1, h2⟩ := h.qin i hi p hp
    refine ⟨List.mem_append_left _ h1, ?_⟩
    simp only [packA, upd_other _ _ (hne p h1)]
    exact h2
  · intro p hp hat
    rcases mem p hp with rfl | hp
    · simp only [packA, upd_same] at hat
      exact absurd rfl hat
    · simp only [packA, upd_other _ _ (hne p hp)] at hat ⊢
      exact h.inq p hp hat
  · intro p hp hat
    rcases mem p hp with rfl | hp
    · simp only [packA, upd_same] at hat
      exact absurd rfl hat
    · simp only [packA, upd_other _ _ (hne p hp)] at hat ⊢
      exact h.wth0 p hp hat
theorem good_remove {a : A} (h : Good a) (x : Int) (hq : a.q x = []) (hb : ∀ p ∈ a.pids, busyP a x p = false) : Good (removeA a x) := by
  have lat : ∀ p, (lostP a x p).at_ = (a.pk p).at_ := fun p => by unfold lostP; split <;> rfl
  have hown : ∀ i, A.owner (removeA a x) i → a.owner i := fun i hi => hi.imp (fun h => (List.mem_filter.1 h).1) id
  have hkeep : ∀ p ∈ a.pids, (a.pk p).at_ ≠ 0 → p ∈ (removeA a x).pids := fun p hp hat => by
    refine List.mem_filter.2 ⟨hp, ?_⟩
    have := hb p hp
    unfold busyP at this
    simp only [Bool.and_eq_false_iff, beq_eq_false_iff_ne, bne_eq_false_iff_eq] at this
    rcases this with h1 | h1
    · simpa using h1
    · exact absurd h1 hat
  refine ⟨h.tnd.sublist List.filter_sublist, h.pnd.sublist List.filter_sublist, fun i hi => h.trng i (List.mem_filter.1 hi).1, fun i hi => h.prng i (List.mem_filter.1 hi).1, fun i hi j hj he => h.pinj i (List.mem_filter.1 hi).1 j (List.mem_filter.1 hj).1 he, fun p hp => h.pkr p (List.mem_filter.1 hp).1, h.made, ?_, fun i hi => h.qnd i (hown i hi), ?_, ?_, h.mcalls⟩
  · intro i hi p hp
    obtain ⟨h1, h2⟩ := h.qin i (hown i hi) p hp
    refine ⟨hkeep p h1 (by rw [h2]; exact h.own_ne (hown i hi)), ?_⟩
    show (lostP a x p).at_ = i
    rw [lat, h2]
  · intro p hp hat
    have hp0 := (List.mem_filter.1 hp).1
    have hat' : (lostP a x p).at_ ≠ 0 := hat
    rw [lat] at hat'
    obtain ⟨h1, h2⟩ := h.inq p hp0 hat'
    show A.owner (removeA a x) (lostP a x p).at_ ∧ p ∈ a.q (lostP a x p).at_
    rw [lat]
    refine ⟨h1.imp (fun ht => List.mem_filter.2 ⟨ht, ?_⟩) id, h2⟩
    simp only [bne_iff_ne]
    intro e
    rw [e, hq] at h2
    cases h2
  · intro p hp hat
    have hat' : (lostP a x p).at_ ≠ 0 := hat
    rw [lat] at hat'
    have := h.wth0 p (List.mem_filter.1 hp).1 hat'
    show (lostP a x p).wth = 0
    unfold lostP
    split
    · rfl
    · exact this
/-- A packet leaves its queue; whose it then is does not matter. -/
theorem good_out {a : A} (h : Good a) (p : Int) (hp : p ∈ a.pids) (t : Pk) (ht : t.at_ = 0) : Good { a with q := upd a.q (a.pk p).at_ ((a.q (a.pk p).at_).filter fun x => x != p), pk := upd a.pk p t } := by
  have sub : ∀ i z, z ∈ upd a.q (a.pk p).at_ ((a.q (a.pk p).at_).filter fun x => x != p) i → z ∈ a.q i ∧ (i = (a.pk p).at_ → z ≠ p) := by
    intro i z hz
    by_cases hi : i = (a.pk p).at_
    · subst hi
      rw [upd_same] at hz
      exact ⟨(List.mem_filter.1 hz).1, fun _ => by simpa using (List.mem_filter.1 hz).2⟩
    · rw [upd_other _ _ hi] at hz
      exact ⟨hz, fun e => absurd e hi⟩
  refine ⟨h.tnd, h.pnd, h.trng, h.prng, h.pinj, h.pkr, h.made, ?_, ?_, ?_, ?_, h.mcalls⟩
  · intro i hi z hz
    obtain ⟨h1, h2⟩ := sub i z hz
    obtain ⟨h3, h4⟩ := h.qin i hi z h1
    have hzp : z ≠ p := fun e => by
      subst e
      exact h2 h4.symm rfl
    refine ⟨h3, ?_⟩
    show (upd a.pk p t z).at_ = i
    rw [upd_other _ _ hzp, h4]
  · intro i hi
    show (upd a.q _ _ i).Nodup
    by_cases hia : i = (a.pk p).at_
    · subst hia
      rw [upd_same]
      exact (h.qnd _ hi).sublist List.filter_sublist
    · rw [upd_other _ _ hia]
      exact h.qnd i hi
  · intro z hz hat
    have hat' : (upd a.pk p t z).at_ ≠ 0 := hat
    have hzp : z ≠ p := fun e => by
      subst e
      rw [upd_same] at hat'
      exact hat' ht
    rw [upd_other _ _ hzp] at hat'
    obtain ⟨h1, h2⟩ := h.inq z hz hat'
    show a.owner (upd a.pk p t z).at_ ∧ z ∈ upd a.q _ _ (upd a.pk p t z).at_
    rw [upd_other _ _ hzp]
    refine ⟨h1, ?_⟩
    by_cases hia : (a.pk z).at_ = (a.pk p).at_
    · rw [hia] at h2 ⊢
      rw [upd_same]
      exact List.mem_filter.2 ⟨h2, by simpa using hzp⟩
    · rw [upd_other _ _ hia]
      exact h2
  · intro z hz hat
    have hat' : (upd a.pk p t z).at_ ≠ 0 := hat
    have hzp : z ≠ p := fun e => by
      subst e
      rw [upd_same] at hat'
      exact hat' ht
    rw [upd_other _ _ hzp] at hat'
    show (upd a.pk p t z).wth = 0
    rw [upd_other _ _ hzp]
    exact h.wth0 z hz hat'
theorem good_own {a : A} (h : Good a) (p r : Int) (hp : p ∈ a.pids) : Good (ownA a p r) := good_out h p hp _ rfl
/-- A packet in no queue goes to one. -/
theorem good_move {a : A} (h : Good a) (p f to : Int) (hp : p ∈ a.pids) (hat : (a.pk p).at_ = 0) (hto : a.owner to) (hm : (a.moves.length : Int) + 1 ≤ a.calls) : Good (moveA a p f to) := by
  have hno : ∀ i, a.owner i → p ∉ a.q i := fun i hi hpi => h.own_ne hi ((h.qin i hi p hpi).2.symm.trans hat)
  have hpri : ∀ i ∈ a.tids, ((moveA a p f to).tk i).pri = (a.tk i).pri := by
    intro i hi
    unfold moveA
    simp only
    split
    · exact upd_pri to { a.tk to with waiting := false, forr := 0 } rfl i hi
    · rfl
  have hg := h.tkSame (moveA a p f to).tk hpri
  refine ⟨h.tnd, h.pnd, h.trng, hg.prng, hg.pinj, h.pkr, h.made, ?_, ?_, ?_, ?_, ?_⟩
  · intro i hi z hz
    have hz' : z ∈ upd a.q to (a.q to ++ [p]) i := hz
    show z ∈ a.pids ∧ (upd a.pk p _ z).at_ = i
    by_cases hzp : z = p
    · subst hzp
      rw [upd_same]
      refine ⟨hp, ?_⟩
      by_cases hit : i = to
      · exact hit.symm
      · rw [upd_other _ _ hit] at hz'
        exact absurd hz' (hno i hi)
    · rw [upd_other _ _ hzp]
      by_cases hit : i = to
      · subst hit
        rw [upd_same] at hz'
        rcases List.mem_append.1 hz' with hz' | hz'
        · exact h.qin i hi z hz'
        · exact absurd (List.mem_singleton.1 hz') hzp
      · rw [upd_other _ _ hit] at hz'
        exact h.qin i hi z hz'
  · intro i hi
    show (upd a.q to (a.q to ++ [p]) i).Nodup
    by_cases hit : i = to
    · subst hit
      rw [upd_same, List.nodup_append]
      exact ⟨h.qnd i hi, by simp, fun z hz j hj => by rw [List.mem_singleton] at hj; rw [hj]; exact fun e => hno i hi (e ▸ hz)⟩
    · rw [upd_other _ _ hit]
      exact h.qnd i hi
  · intro z hz hza
    have hza' : (upd a.pk p { a.pk p with at_ := to, frm := f, wth := 0 } z).at_ ≠ 0 := hza
    show a.owner (upd a.pk p { a.pk p with at_ := to, frm := f, wth := 0 } z).at_ ∧ z ∈ upd a.q to (a.q to ++ [p]) (upd a.pk p { a.pk p with at_ := to, frm := f, wth := 0 } z).at_
    by_cases hzp : z = p
    · subst hzp
      rw [upd_same]
      simp only [upd_same]
      exact ⟨hto, by simp⟩
    · rw [upd_other _ _ hzp] at hza' ⊢
      obtain ⟨h1, h2⟩ := h.inq z hz hza'
      refine ⟨h1, ?_⟩
      by_cases hit : (a.pk z).at_ = to
      · rw [hit] at h2 ⊢
        rw [upd_same]
        exact List.mem_append_left _ h2
      · rw [upd_other _ _ hit]
        exact h2
  · intro z hz hza
    show (upd a.pk p { a.pk p with at_ := to, frm := f, wth := 0 } z).wth = 0
    have hza' : (upd a.pk p { a.pk p with at_ := to, frm := f, wth := 0 } z).at_ ≠ 0 := hza
    by_cases hzp : z = p
    · subst hzp
      rw [upd_same]
    · rw [upd_other _ _ hzp] at hza' ⊢
      exact h.wth0 z hz hza'
  · show ((a.moves ++ [_]).length : Int) ≤ a.calls
    simp
    omega
theorem good_res {a : A} (h : Good a) (p y : Int) : Good (resA a p y) := by
  have e : ∀ z, ((resA a p y).pk z).at_ = (a.pk z).at_ ∧ ((resA a p y).pk z).wth = (a.pk z).wth := fun z => by
    show (upd a.pk p _ z).at_ = _ ∧ (upd a.pk p _ z).wth = _
    by_cases hz : z = p
    · subst hz; rw [upd_same]; exact ⟨rfl, rfl⟩
    · rw [upd_other _ _ hz]; exact ⟨rfl, rfl⟩
  refine ⟨h.tnd, h.pnd, h.trng, h.prng, h.pinj, h.pkr, h.made, fun i hi z hz => ?_, h.qnd, fun z hz hat => ?_, fun z hz hat => ?_, h.mcalls⟩
  · exact ⟨(h.qin i hi z hz).1, (e z).1.trans (h.qin i hi z hz).2⟩
  · rw [(e z).1] at hat ⊢
    exact h.inq z hz hat
  · rw [(e z).1] at hat
    exact (e z).2.trans (h.wth0 z hz hat)
theorem good_drop {a : A} (h : Good a) (x p : Int) (hx : a.owner x) (hp : p ∈ a.q x) : Good (dropA a x p) := by
  obtain ⟨h1, h2⟩ := h.qin x hx p hp
  have := good_out h p h1 { a.pk p with at_ := 0 } rfl
  rw [h2] at this
  exact this

theorem good_step {a : A} (h : Good a) (hm : (a.moves.length : Int) + 1 ≤ a.calls) (r d x y : Int) (hr : r ∈ a.tids ∨ d = 1 ∨ d = 12 ∨ d < 1 ∨ 13 < d) : Good (stepA a r d x y).2.2 := by
  have rt : r ∈ a.tids → r ≠ 0 := fun hr => by have := h.trng r hr; omega
  unfold stepA
  by_cases e1 : d = 1
  · rw [if_pos e1]
    unfold createS
    split
    · split
      · exact h
      · split
        · exact h
        · rename_i hr hx ht
          exact good_create h x y hr hx (by simpa using ht)
    · exact h
  rw [if_neg e1]
  by_cases e2 : d = 2
  · rw [if_pos e2]
    unfold removeS
    split
    · split
      · split
        · exact h
        · rename_i hx hq hb
          exact good_remove h x hq (fun p hp => by
            cases hh : busyP a x p with
            | false => rfl
            | true => exact absurd ⟨p, hp, hh⟩ hb)
      · exact h
    · exact h
  rw [if_neg e2]
  by_cases e3 : d = 3
  · rw [if_pos e3]
    have hr' : r ∈ a.tids := hr.resolve_right (by omega)
    unfold sendS
    split
    · rename_i hx
      split
      · rename_i hw
        split
        · exact h
        · split
          · rename_i ho
            refine good_move h x r y hx ?_ ho hm
            by_cases ha : (a.pk x).at_ = 0
            · exact ha
            · exact absurd (hw.symm.trans (h.wth0 x hx ha)) (rt hr')
          · exact h
      · exact h
    · exact h
  rw [if_neg e3]
  by_cases e4 : d = 4
  · rw [if_pos e4]
    have hr' : r ∈ a.tids := hr.resolve_right (by omega)
    unfold takeS
    split
    · exact good_rest h r 0
    · rename_i p l hq
      exact good_own h p r (h.qin r (.inl hr') p (by rw [hq]; simp)).1
  rw [if_neg e4]
  by_cases e5 : d = 5
  · rw [if_pos e5]
    unfold heldS
    split
    · exact good_held h x true
    · exact h
  rw [if_neg e5]
  by_cases e6 : d = 6
  · rw [if_pos e6]
    unfold heldS
    split
    · exact good_held h x false
    · exact h
  rw [if_neg e6]
  by_cases e7 : d = 7
  · rw [if_pos e7]
    unfold setS
    split
    · split
      · exact good_set h x y
      · exact h
    · exact h
  rw [if_neg e7]
  by_cases e8 : d = 8
  · rw [if_pos e8]
    unfold testS
    split
    · exact good_test h r x
    · exact h
  rw [if_neg e8]
  by_cases e9 : d = 9
  · rw [if_pos e9]
    unfold priS
    split
    · split
      · rename_i hy
        split
        · exact h
        · rename_i ht
          exact good_pri h x y hy (by simpa using ht)
      · exact h
    · exact h
  rw [if_neg e9]
  by_cases e10 : d = 10
  · rw [if_pos e10]
    unfold fetchS
    split
    · rename_i hx
      split
      · exact h
      · split
        · exact good_own h x r hx
        · exact h
    · exact h
  rw [if_neg e10]
  by_cases e11 : d = 11
  · rw [if_pos e11]
    unfold packetS
    split
    · exact h
    · rename_i hm
      exact good_pack h r x hm
  rw [if_neg e11]
  by_cases e12 : d = 12
  · rw [if_pos e12]
    unfold deviceS
    split
    · rename_i hx
      split
      · exact h
      · rename_i p l hq
        have hpq : p ∈ a.q x := by rw [hq]; simp
        have h1 := h.qin x (.inr hx) p hpq
        split
        · rename_i hf
          refine good_move (good_res (good_drop h x p (.inr hx) hpq) p y) p x _ h1.1 ?_ (.inl hf) hm
          show (upd (upd a.pk p _) p _ p).at_ = 0
          rw [upd_same]
          show (upd a.pk p _ p).at_ = 0
          rw [upd_same]
        · exact good_drop h x p (.inr hx) hpq
    · exact h
  rw [if_neg e12]
  by_cases e13 : d = 13
  · rw [if_pos e13]
    unfold waitS
    split
    · rename_i hx
      split
      · exact h
      · split
        · exact good_own h x r hx
        · exact good_rest h r x
    · exact h
  · rw [if_neg e13]
    exact h
theorem good_do {a : A} (h : Good a) (r d x y : Int) (hr : r = 0 ∨ r ∈ a.tids) : Good (doA a r d x y).2.2 := by
  have hb : Good { a with calls := a.calls + 1 } := h.calls _ (by omega)
  unfold doA
  split
  · exact hb
  · split
    · exact hb
    · rename_i hd hg
      refine good_step hb (by have := h.mcalls; show (a.moves.length : Int) + 1 ≤ a.calls + 1; omega) r d x y ?_
      rcases hr with rfl | hr
      · by_cases h12 : d = 12
        · exact .inr (.inr (.inl h12))
        · by_cases h1 : d = 1
          · exact .inr (.inl h1)
          · exact absurd ⟨rfl, h12, .inl h1⟩ hg
      · exact .inl hr
end Go.Proofs.Ytkmgbnklfnjfjaa.Ker
