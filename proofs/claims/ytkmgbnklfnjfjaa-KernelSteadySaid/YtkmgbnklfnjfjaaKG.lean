import Derived.Test.YtkmgbnklfnjfjaaKF
/-! The kernel's memory: queues, the log, tasks and packets that come and go. -/
namespace Go.Proofs.Ytkmgbnklfnjfjaa.Ker
open Go.RowKit Go.Maps
open Go.ChangeMaps (setBlock)

def hblk (g : G) (i : Int) : Nat := if 0 < i then g.tb i else g.db i
def hoff (i : Int) : Nat := if 0 < i then 7 else 0
def hty (i : Int) : Nat := if 0 < i then 76 else 74
def hcells (a : A) (i : Int) (v : Value) : Array Value := if 0 < i then tcells i (a.tk i) v else #[v]
theorem hcells_get (a : A) (i : Int) (v : Value) : (hcells a i v)[hoff i]? = some v := by
  unfold hcells hoff
  by_cases h : 0 < i <;> simp [h, tcells]
theorem hcells_set (a : A) (i : Int) (v v' : Value) : (hcells a i v).setIfInBounds (hoff i) v' = hcells a i v' := by
  unfold hcells hoff
  by_cases h : 0 < i <;> simp [h, tcells]

theorem dev_neg {i : Int} (h : i ∈ devs) : ¬ 0 < i := by
  simp only [devs, List.mem_cons, List.not_mem_nil, or_false] at h
  omega
section
variable {B kb : Nat} {g : G} {a : A} {w w' : World}
theorem KRep.own_pos (_h : KRep B kb g a w) {i : Int} (hi : a.owner i) (hp : 0 < i) : i ∈ a.tids := hi.resolve_right (fun hd => dev_neg hd hp)
theorem KRep.own_neg (h : KRep B kb g a w) {i : Int} (hi : a.owner i) (hp : ¬ 0 < i) : i ∈ devs := hi.resolve_left (fun ht => hp (h.tpos i ht))
theorem KRep.own_ne (h : KRep B kb g a w) {i : Int} (hi : a.owner i) : i ≠ 0 := by
  rcases hi with hi | hi
  · have := h.tpos i hi; omega
  · simp only [devs, List.mem_cons, List.not_mem_nil, or_false] at hi; omega
theorem KRep.holder (h : KRep B kb g a w) {i : Int} (hi : a.owner i) : w.heap[hblk g i]? = some (.cells (hcells a i (g.qv i)) (hty i) (0, 0)) := by
  unfold hblk hcells hty
  by_cases hp : 0 < i
  · simp only [if_pos hp]; exact h.task i (h.own_pos hi hp)
  · simp only [if_neg hp]; exact h.dev i (h.own_neg hi hp)
theorem KRep.holder_low (h : KRep B kb g a w) {i : Int} (hi : a.owner i) : B ≤ hblk g i := by
  unfold hblk
  by_cases hp : 0 < i
  · simp only [if_pos hp]; exact h.low.2.2.2.2.1 i (h.own_pos hi hp)
  · simp only [if_neg hp]; exact h.low.2.2.2.2.2.1 i (h.own_neg hi hp)
theorem hkind (i : Int) : hty i + 1 = 77 ∨ hty i + 1 = 75 := by unfold hty; by_cases h : 0 < i <;> simp [h]
theorem KRep.holder_row (h : KRep B kb g a w) {i : Int} (hi : a.owner i) : some (hblk g i) ≠ (g.qv i).ownBlock := by
  intro e
  obtain ⟨_, cur, hc⟩ := own_block (h.row i hi) e.symm
  rw [h.holder hi] at hc
  simp only [Option.some.injEq, Obj.cells.injEq] at hc
  have := hc.2.1
  unfold hty at this
  by_cases hp : 0 < i <;> simp [hp] at this
theorem KRep.hblk_inj (h : KRep B kb g a w) {i j : Int} (hi : a.owner i) (hj : a.owner j) (he : hblk g i = hblk g j) : i = j := by
  have h1 := h.holder hi
  rw [he, h.holder hj] at h1
  simp only [Option.some.injEq, Obj.cells.injEq] at h1
  have h2 := h1.2.1
  unfold hty at h2
  unfold hblk at he
  by_cases hp : 0 < i <;> by_cases hq : 0 < j
  · simp only [if_pos hp, if_pos hq] at he
    exact h.tb_inj (h.own_pos hi hp) (h.own_pos hj hq) he
  · simp [hp, hq] at h2
  · simp [hp, hq] at h2
  · simp only [if_neg hp, if_neg hq] at he
    exact h.dinj i (h.own_neg hi hp) j (h.own_neg hj hq) he

/-- A queue has turned. -/
theorem KRep.setQ (h : KRep B kb g a w) {i : Int} (hi : a.owner i) (v' : Value) (l' : List Int) (ht : Touch w w' (fun k => k = hblk g i ∨ some k = (g.qv i).ownBlock))
    (hb : w'.heap[hblk g i]? = some (.cells (hcells a i v') (hty i) (0, 0))) (ho : w'.ownsRow B 84 1 v' l'.length (l'.map fun p => ptr (g.pb p)))
    (hv : v'.ownBlock = (g.qv i).ownBlock ∨ ∃ b, v'.ownBlock = some b ∧ w.heap.size ≤ b) : KRep B kb { g with qv := upd g.qv i v' } { a with q := upd a.q i l' } w' := by
  have hh := h.holder hi
  have hi0 := h.own_ne hi
  have kp : ∀ {b o}, w.heap[b]? = some o → kindOf o ≠ 77 → kindOf o ≠ 75 → kindOf o ≠ 85 → w'.heap[b]? = some o := fun {b o} hb h1 h2 h3 => by
    refine (ht.block b (blt hb) (fun hp => ?_)).trans hb
    rcases hp with rfl | hp
    · rw [hh] at hb
      simp only [Option.some.injEq] at hb
      subst hb
      rcases hkind i with e | e
      · exact h1 e
      · exact h2 e
    · obtain ⟨_, cur, hc⟩ := own_block (h.row i hi) hp.symm
      rw [hb] at hc
      simp only [Option.some.injEq] at hc
      subst hc
      exact h3 rfl
  have mk : ∀ {b kvs}, mapAt w b kvs → mapAt w' b kvs := fun {b kvs} hm => by
    obtain ⟨es, c, h1, h2⟩ := hm
    exact ⟨es, c, kp h1 (by simp [kindOf]) (by simp [kindOf]) (by simp [kindOf]), h2⟩
  -- another holder
  have hold : ∀ j, a.owner j → j ≠ i → w'.heap[hblk g j]? = some (.cells (hcells a j (g.qv j)) (hty j) (0, 0)) := fun j hj hji => by
    have hj1 := h.holder hj
    refine (ht.block _ (blt hj1) (fun hp => ?_)).trans hj1
    rcases hp with hp | hp
    · exact hji (h.hblk_inj hj hi hp)
    · obtain ⟨_, cur, hc⟩ := own_block (h.row i hi) hp.symm
      rw [hj1] at hc
      simp only [Option.some.injEq, Obj.cells.injEq] at hc
      have := hc.2.1
      unfold hty at this
      by_cases hq : 0 < j <;> simp [hq] at this
  refine ⟨by simpa only [upd_other _ _ (Ne.symm hi0)] using kp h.ker (by simp [kindOf]) (by simp [kindOf]) (by simp [kindOf]), mk h.tmap, mk h.dmap, mk h.pmap, h.maps, ?_, ?_, h.dinj, fun j hj => kp (h.pack j hj) (by simp [kindOf]) (by simp [kindOf]) (by simp [kindOf]), ?_, ?_, ?_, h.low, h.tpos⟩
  · intro j hj
    have hjp := h.tpos j hj
    by_cases hji : j = i
    · subst hji
      simp only [upd_same]
      simpa only [hblk, hcells, hty, if_pos hjp] using hb
    · have := hold j (.inl hj) hji
      simp only [upd_other _ _ hji]
      simpa only [hblk, hcells, hty, if_pos hjp] using this
  · intro j hj
    have hjp := dev_neg hj
    by_cases hji : j = i
    · subst hji
      simp only [upd_same]
      simpa only [hblk, hcells, hty, if_neg hjp] using hb
    · have := hold j (.inr hj) hji
      simp only [upd_other _ _ hji]
      simpa only [hblk, hcells, hty, if_neg hjp] using this
  · intro j hj
    by_cases hji : j = i
    · subst hji
      simp only [upd_same]
      exact ho
    · simp only [upd_other _ _ hji]
      refine own_keep (h.row j hj) (fun b hvb hlt => ht.block b hlt (fun hp => ?_))
      rcases hp with rfl | hp
      · obtain ⟨_, cur, hc⟩ := own_block (h.row j hj) hvb
        rw [hh] at hc
        simp only [Option.some.injEq, Obj.cells.injEq] at hc
        have := hc.2.1
        unfold hty at this
        by_cases hq : 0 < i <;> simp [hq] at this
      · exact h.sep j i hji (.inr hj) (.inr hi) b hvb hp.symm
  · simp only [upd_other _ _ (Ne.symm hi0)]
    exact own_keep h.mrow (fun b hvb hlt => ht.block b hlt (fun hp => by
      rcases hp with rfl | hp
      · obtain ⟨_, cur, hc⟩ := own_block h.mrow hvb
        rw [hh] at hc
        simp only [Option.some.injEq, Obj.cells.injEq] at hc
        have := hc.2.1
        unfold hty at this
        by_cases hq : 0 < i <;> simp [hq] at this
      · exact h.sep 0 i (Ne.symm hi0) (.inl rfl) (.inr hi) b hvb hp.symm))
  · -- no two in one row
    have lt0 : ∀ j, (j = 0 ∨ a.owner j) → ∀ b, (g.qv j).ownBlock = some b → b < w.heap.size := fun j hj b hvb => by
      rcases hj with rfl | hj
      · exact own_lt h.mrow hvb
      · exact own_lt (h.row j hj) hvb
    intro j k hjk hj hk b hvb hkb
    by_cases hji : j = i
    · subst hji
      have hki : k ≠ j := fun e => hjk e.symm
      simp only [upd_same] at hvb
      simp only [upd_other _ _ hki] at hkb
      rcases hv with hv | ⟨b', hv, hb'⟩
      · rw [hv] at hvb
        exact h.sep j k hjk (.inr hi) hk b hvb hkb
      · rw [hv] at hvb
        cases hvb
        have := lt0 k hk b hkb
        omega
    · simp only [upd_other _ _ hji] at hvb
      by_cases hki : k = i
      · subst hki
        simp only [upd_same] at hkb
        rcases hv with hv | ⟨b', hv, hb'⟩
        · rw [hv] at hkb
          exact h.sep j k hjk hj (.inr hi) b hvb hkb
        · rw [hv] at hkb
          cases hkb
          have := lt0 j hj b hvb
          omega
      · simp only [upd_other _ _ hki] at hkb
        exact h.sep j k hjk hj hk b hvb hkb

/-- The log has turned. -/
theorem KRep.setM (h : KRep B kb g a w) (v' : Value) (l' : List (Int × Int × Int × Int)) (ht : Touch w w' (fun k => k = kb ∨ some k = (g.qv 0).ownBlock))
    (hb : w'.heap[kb]? = some (.cells #[.map (some g.tm), .map (some g.dm), .map (some g.pm), .int .i64 a.made, v', .int .i64 a.calls] 70 (0, 0))) (ho : w'.ownsRow B 31 4 v' l'.length (l'.flatMap mcells))
    (hv : v'.ownBlock = (g.qv 0).ownBlock ∨ ∃ b, v'.ownBlock = some b ∧ w.heap.size ≤ b) : KRep B kb { g with qv := upd g.qv 0 v' } { a with moves := l' } w' := by
  have kp : ∀ {b o}, w.heap[b]? = some o → kindOf o ≠ 71 → kindOf o ≠ 32 → w'.heap[b]? = some o := fun {b o} hb0 h1 h3 => by
    refine (ht.block b (blt hb0) (fun hp => ?_)).trans hb0
    rcases hp with rfl | hp
    · rw [h.ker] at hb0
      simp only [Option.some.injEq] at hb0
      subst hb0
      exact h1 rfl
    · obtain ⟨_, cur, hc⟩ := own_block h.mrow hp.symm
      rw [hb0] at hc
      simp only [Option.some.injEq] at hc
      subst hc
      exact h3 rfl
  have mk : ∀ {b kvs}, mapAt w b kvs → mapAt w' b kvs := fun {b kvs} hm => by
    obtain ⟨es, c, h1, h2⟩ := hm
    exact ⟨es, c, kp h1 (by simp [kindOf]) (by simp [kindOf]), h2⟩
  refine ⟨by simpa only [upd_same] using hb, mk h.tmap, mk h.dmap, mk h.pmap, h.maps, ?_, ?_, h.dinj, fun j hj => kp (h.pack j hj) (by simp [kindOf]) (by simp [kindOf]), ?_, by simpa only [upd_same] using ho, ?_, h.low, h.tpos⟩
  · intro j hj
    have hj0 : j ≠ 0 := h.own_ne (.inl hj)
    simp only [upd_other _ _ hj0]
    exact kp (h.task j hj) (by simp [kindOf]) (by simp [kindOf])
  · intro j hj
    have hj0 : j ≠ 0 := h.own_ne (.inr hj)
    simp only [upd_other _ _ hj0]
    exact kp (h.dev j hj) (by simp [kindOf]) (by simp [kindOf])
  · intro j hj
    have hj0 : j ≠ 0 := h.own_ne hj
    simp only [upd_other _ _ hj0]
    refine own_keep (h.row j hj) (fun b hvb hlt => ht.block b hlt (fun hp => ?_))
    rcases hp with rfl | hp
    · obtain ⟨_, cur, hc⟩ := own_block (h.row j hj) hvb
      rw [h.ker] at hc
      simp at hc
    · exact h.sep j 0 hj0 (.inr hj) (.inl rfl) b hvb hp.symm
  · have lt0 : ∀ j, (j = 0 ∨ a.owner j) → ∀ b, (g.qv j).ownBlock = some b → b < w.heap.size := fun j hj b hvb => by
      rcases hj with rfl | hj
      · exact own_lt h.mrow hvb
      · exact own_lt (h.row j hj) hvb
    intro j k hjk hj hk b hvb hkb
    by_cases hji : j = 0
    · subst hji
      have hki : k ≠ 0 := fun e => hjk e.symm
      simp only [upd_same] at hvb
      simp only [upd_other _ _ hki] at hkb
      rcases hv with hv | ⟨b', hv, hb'⟩
      · rw [hv] at hvb
        exact h.sep 0 k hjk (.inl rfl) hk b hvb hkb
      · rw [hv] at hvb
        cases hvb
        have := lt0 k hk b hkb
        omega
    · simp only [upd_other _ _ hji] at hvb
      by_cases hki : k = 0
      · subst hki
        simp only [upd_same] at hkb
        rcases hv with hv | ⟨b', hv, hb'⟩
        · rw [hv] at hkb
          exact h.sep j 0 hjk hj (.inl rfl) b hvb hkb
        · rw [hv] at hkb
          cases hkb
          have := lt0 j hj b hvb
          omega
      · simp only [upd_other _ _ hki] at hkb
        exact h.sep j k hjk hj hk b hvb hkb

theorem filter_pairs (l : List Int) (f : Int → Nat) (k : Int) : (l.map fun i => (i, f i)).filter (fun p => p.1 != k) = (l.filter (fun i => i != k)).map fun i => (i, f i) := by
  rw [List.filter_map]
  rfl

/-- Maps that have turned, and nothing else that was there. -/
theorem touchMap {P : Nat → Prop} (ht : Touch w w' P) (hm : ∀ k, P k → k < w.heap.size → ∃ es c, w.heap[k]? = some (.map es c)) {b : Nat} {o : Obj} (hb : w.heap[b]? = some o) (ho : kindOf o ≠ 0) : w'.heap[b]? = some o :=
  keep_kind ht hb (fun o' hp hw => by
    obtain ⟨es, c, he⟩ := hm b hp (blt hw)
    rw [he] at hw
    cases hw
    exact fun e => ho (by rw [← e]; rfl))

/-- A task comes. -/
theorem KRep.insTask (h : KRep B kb g a w) (i : Int) (nb : Nat) (t : T) (hi : i ∉ a.tids) (hp : 0 < i) (hnb : w.heap.size ≤ nb) (hB : B ≤ w.heap.size) (ht : Touch w w' (fun k => k = g.tm))
    (hm : mapAt w' g.tm ((a.tids.map fun i => (i, g.tb i)) ++ [(i, nb)])) (hb : w'.heap[nb]? = some (.cells (tcells i t (.slice none 0 0)) 76 (0, 0))) :
    KRep B kb { g with tb := upd g.tb i nb, qv := upd g.qv i (.slice none 0 0) } { a with tids := a.tids ++ [i], tk := upd a.tk i t, q := upd a.q i [] } w' := by
  have hi0 : i ≠ 0 := by omega
  have hid : i ∉ devs := fun hd => dev_neg hd hp
  have kp : ∀ {b o}, w.heap[b]? = some o → kindOf o ≠ 0 → w'.heap[b]? = some o := fun {b o} hb0 hk => touchMap ht (fun k hk _ => by
    subst hk
    obtain ⟨es, c, he, _⟩ := h.tmap
    exact ⟨es, c, he⟩) hb0 hk
  have rk : ∀ {e sz v n xs}, w.ownsRow B e sz v n xs → w'.ownsRow B e sz v n xs := fun {e sz v n xs} ho => own_keep ho (fun b hvb _ => by
    obtain ⟨_, cur, hc⟩ := own_block ho hvb
    rw [hc]
    exact kp hc (by simp [kindOf]))
  have mk : ∀ {b kvs}, mapAt w b kvs → b ≠ g.tm → mapAt w' b kvs := fun {b kvs} hm0 hne => hm0.keep (ht.block b hm0.lt hne)
  have hne : ∀ j ∈ a.tids, j ≠ i := fun j hj e => hi (e ▸ hj)
  have hnd : ∀ j ∈ devs, j ≠ i := fun j hj e => hid (e ▸ hj)
  have hown : ∀ j, A.owner { a with tids := a.tids ++ [i], tk := upd a.tk i t, q := upd a.q i [] } j → j = i ∨ (j ≠ i ∧ a.owner j) := by
    intro j hj
    rcases hj with hj | hj
    · simp only [List.mem_append, List.mem_singleton] at hj
      rcases hj with hj | hj
      · exact .inr ⟨hne j hj, .inl hj⟩
      · exact .inl hj
    · exact .inr ⟨hnd j hj, .inr hj⟩
  refine ⟨by simpa only [upd_other _ _ (Ne.symm hi0)] using kp h.ker (by simp [kindOf]), ?_, mk h.dmap h.maps.1.symm, mk h.pmap h.maps.2.1.symm, h.maps, ?_, ?_, h.dinj, fun j hj => kp (h.pack j hj) (by simp [kindOf]), ?_, by simpa only [upd_other _ _ (Ne.symm hi0)] using rk h.mrow, ?_, ?_, ?_⟩
  · have : (a.tids ++ [i]).map (fun j => (j, upd g.tb i nb j)) = (a.tids.map fun i => (i, g.tb i)) ++ [(i, nb)] := by
      rw [List.map_append]
      congr 1
      · apply List.map_congr_left
        intro j hj
        rw [upd_other _ _ (hne j hj)]
      · simp [upd_same]
    rw [this]
    exact hm
  · intro j hj
    simp only [List.mem_append, List.mem_singleton] at hj
    rcases hj with hj | rfl
    · simp only [upd_other _ _ (hne j hj)]
      exact kp (h.task j hj) (by simp [kindOf])
    · simp only [upd_same]
      exact hb
  · intro j hj
    simp only [upd_other _ _ (hnd j hj)]
    exact kp (h.dev j hj) (by simp [kindOf])
  · intro j hj
    rcases hown j hj with rfl | ⟨hji, hj⟩
    · simp only [upd_same]
      exact ⟨rfl, .inl ⟨rfl, rfl⟩⟩
    · simp only [upd_other _ _ hji]
      exact rk (h.row j hj)
  · intro j k hjk hj hk b hvb hkb
    have un : ∀ j, (j = 0 ∨ A.owner { a with tids := a.tids ++ [i], tk := upd a.tk i t, q := upd a.q i [] } j) → ∀ b, (upd g.qv i (.slice none 0 0) j).ownBlock = some b → (j = 0 ∨ a.owner j) ∧ (g.qv j).ownBlock = some b := by
      intro j hj b hvb
      by_cases hji : j = i
      · subst hji
        rw [upd_same] at hvb
        simp [Value.ownBlock] at hvb
      · rw [upd_other _ _ hji] at hvb
        refine ⟨?_, hvb⟩
        rcases hj with hj | hj
        · exact .inl hj
        · rcases hown j hj with e | ⟨_, hj⟩
          · exact absurd e hji
          · exact .inr hj
    obtain ⟨h1, h2⟩ := un j hj b hvb
    obtain ⟨h3, h4⟩ := un k hk b hkb
    exact h.sep j k hjk h1 h3 b h2 h4
  · obtain ⟨l1, l2, l3, l4, l5, l6, l7⟩ := h.low
    refine ⟨l1, l2, l3, l4, ?_, l6, l7⟩
    intro j hj
    simp only [List.mem_append, List.mem_singleton] at hj
    rcases hj with hj | rfl
    · simp only [upd_other _ _ (hne j hj)]
      exact l5 j hj
    · simp only [upd_same]
      omega
  · intro j hj
    simp only [List.mem_append, List.mem_singleton] at hj
    rcases hj with hj | rfl
    · exact h.tpos j hj
    · exact hp

/-- A packet comes. -/
theorem KRep.insPack (h : KRep B kb g a w) (i : Int) (nb : Nat) (t : Pk) (hi : i ∉ a.pids) (hq : ∀ j, a.owner j → i ∉ a.q j) (hnb : w.heap.size ≤ nb) (hB : B ≤ w.heap.size) (ht : Touch w w' (fun k => k = g.pm))
    (hm : mapAt w' g.pm ((a.pids.map fun i => (i, g.pb i)) ++ [(i, nb)])) (hb : w'.heap[nb]? = some (.cells (pcells i t) 44 (0, 0))) :
    KRep B kb { g with pb := upd g.pb i nb } { a with pids := a.pids ++ [i], pk := upd a.pk i t } w' := by
  have kp : ∀ {b o}, w.heap[b]? = some o → kindOf o ≠ 0 → w'.heap[b]? = some o := fun {b o} hb0 hk => touchMap ht (fun k hk _ => by
    subst hk
    obtain ⟨es, c, he, _⟩ := h.pmap
    exact ⟨es, c, he⟩) hb0 hk
  have rk : ∀ {e sz v n xs}, w.ownsRow B e sz v n xs → w'.ownsRow B e sz v n xs := fun {e sz v n xs} ho => own_keep ho (fun b hvb _ => by
    obtain ⟨_, cur, hc⟩ := own_block ho hvb
    rw [hc]
    exact kp hc (by simp [kindOf]))
  have mk : ∀ {b kvs}, mapAt w b kvs → b ≠ g.pm → mapAt w' b kvs := fun {b kvs} hm0 hne => hm0.keep (ht.block b hm0.lt hne)
  have hne : ∀ j ∈ a.pids, j ≠ i := fun j hj e => hi (e ▸ hj)
  refine ⟨kp h.ker (by simp [kindOf]), mk h.tmap h.maps.2.1, mk h.dmap h.maps.2.2, ?_, h.maps, fun j hj => kp (h.task j hj) (by simp [kindOf]), fun j hj => kp (h.dev j hj) (by simp [kindOf]), h.dinj, ?_, ?_, rk h.mrow, h.sep, ?_, h.tpos⟩
  · have : (a.pids ++ [i]).map (fun j => (j, upd g.pb i nb j)) = (a.pids.map fun i => (i, g.pb i)) ++ [(i, nb)] := by
      rw [List.map_append]
      congr 1
      · apply List.map_congr_left
        intro j hj
        rw [upd_other _ _ (hne j hj)]
      · simp [upd_same]
    rw [this]
    exact hm
  · intro j hj
    simp only [List.mem_append, List.mem_singleton] at hj
    rcases hj with hj | rfl
    · simp only [upd_other _ _ (hne j hj)]
      exact kp (h.pack j hj) (by simp [kindOf])
    · simp only [upd_same]
      exact hb
  · intro j hj
    have e : (a.q j).map (fun p => ptr (upd g.pb i nb p)) = (a.q j).map (fun p => ptr (g.pb p)) := by
      apply List.map_congr_left
      intro p hp
      rw [upd_other _ _ (fun (e : p = i) => hq j hj (e ▸ hp))]
    have := rk (h.row j hj)
    rw [← e] at this
    exact this
  · obtain ⟨l1, l2, l3, l4, l5, l6, l7⟩ := h.low
    refine ⟨l1, l2, l3, l4, l5, l6, ?_⟩
    intro j hj
    simp only [List.mem_append, List.mem_singleton] at hj
    rcases hj with hj | rfl
    · simp only [upd_other _ _ (hne j hj)]
      exact l7 j hj
    · simp only [upd_same]
      omega

/-- A task goes. -/
theorem KRep.delTask (h : KRep B kb g a w) (i : Int) (ht : Touch w w' (fun k => k = g.tm)) (hm : mapAt w' g.tm ((a.tids.map fun i => (i, g.tb i)).filter (fun p => p.1 != i))) :
    KRep B kb g { a with tids := a.tids.filter (fun j => j != i) } w' := by
  have kp : ∀ {b o}, w.heap[b]? = some o → kindOf o ≠ 0 → w'.heap[b]? = some o := fun {b o} hb0 hk => touchMap ht (fun k hk _ => by
    subst hk
    obtain ⟨es, c, he, _⟩ := h.tmap
    exact ⟨es, c, he⟩) hb0 hk
  have rk : ∀ {e sz v n xs}, w.ownsRow B e sz v n xs → w'.ownsRow B e sz v n xs := fun {e sz v n xs} ho => own_keep ho (fun b hvb _ => by
    obtain ⟨_, cur, hc⟩ := own_block ho hvb
    rw [hc]
    exact kp hc (by simp [kindOf]))
  have mk : ∀ {b kvs}, mapAt w b kvs → b ≠ g.tm → mapAt w' b kvs := fun {b kvs} hm0 hne => hm0.keep (ht.block b hm0.lt hne)
  have ow : ∀ j, A.owner { a with tids := a.tids.filter (fun j => j != i) } j → a.owner j := fun j hj => hj.imp (fun h => (List.mem_filter.1 h).1) id
  refine ⟨kp h.ker (by simp [kindOf]), by rw [← filter_pairs]; exact hm, mk h.dmap h.maps.1.symm, mk h.pmap h.maps.2.1.symm, h.maps, fun j hj => kp (h.task j (List.mem_filter.1 hj).1) (by simp [kindOf]), fun j hj => kp (h.dev j hj) (by simp [kindOf]), h.dinj, fun j hj => kp (h.pack j hj) (by simp [kindOf]), fun j hj => rk (h.row j (ow j hj)), rk h.mrow, ?_, ?_, fun j hj => h.tpos j (List.mem_filter.1 hj).1⟩
  · exact fun j k hjk hj hk => h.sep j k hjk (hj.imp id (ow j)) (hk.imp id (ow k))
  · obtain ⟨l1, l2, l3, l4, l5, l6, l7⟩ := h.low
    exact ⟨l1, l2, l3, l4, fun j hj => l5 j (List.mem_filter.1 hj).1, l6, l7⟩

/-- Packets go. -/
theorem KRep.delPacks (h : KRep B kb g a w) (f : Int → Bool) (ht : Touch w w' (fun k => k = g.pm)) (hm : mapAt w' g.pm ((a.pids.filter f).map fun i => (i, g.pb i))) :
    KRep B kb g { a with pids := a.pids.filter f } w' := by
  have kp : ∀ {b o}, w.heap[b]? = some o → kindOf o ≠ 0 → w'.heap[b]? = some o := fun {b o} hb0 hk => touchMap ht (fun k hk _ => by
    subst hk
    obtain ⟨es, c, he, _⟩ := h.pmap
    exact ⟨es, c, he⟩) hb0 hk
  have rk : ∀ {e sz v n xs}, w.ownsRow B e sz v n xs → w'.ownsRow B e sz v n xs := fun {e sz v n xs} ho => own_keep ho (fun b hvb _ => by
    obtain ⟨_, cur, hc⟩ := own_block ho hvb
    rw [hc]
    exact kp hc (by simp [kindOf]))
  have mk : ∀ {b kvs}, mapAt w b kvs → b ≠ g.pm → mapAt w' b kvs := fun {b kvs} hm0 hne => hm0.keep (ht.block b hm0.lt hne)
  refine ⟨kp h.ker (by simp [kindOf]), mk h.tmap h.maps.2.1, mk h.dmap h.maps.2.2, hm, h.maps, fun j hj => kp (h.task j hj) (by simp [kindOf]), fun j hj => kp (h.dev j hj) (by simp [kindOf]), h.dinj, fun j hj => kp (h.pack j (List.mem_filter.1 hj).1) (by simp [kindOf]), fun j hj => rk (h.row j hj), rk h.mrow, h.sep, ?_, h.tpos⟩
  obtain ⟨l1, l2, l3, l4, l5, l6, l7⟩ := h.low
  exact ⟨l1, l2, l3, l4, l5, l6, fun j hj => l7 j (List.mem_filter.1 hj).1⟩
end
end Go.Proofs.Ytkmgbnklfnjfjaa.Ker
