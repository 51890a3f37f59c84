import Derived.Test.YtkmgbnklfnjfjaaKD
/-! Ranging over a map from whole numbers to pointers. -/
namespace Go.Proofs.Ytkmgbnklfnjfjaa.Ker
open Go.RowKit Go.Maps
open Go.ChangeMaps (setBlock)

theorem inj_of_nodup {α β : Type} {f : α → β} : ∀ {l : List α}, (l.map f).Nodup → ∀ x ∈ l, ∀ y ∈ l, f x = f y → x = y
  | [], _, x, hx, _, _, _ => by simp at hx
  | a :: l, h, x, hx, y, hy, he => by
    simp only [List.map_cons, List.nodup_cons] at h
    simp only [List.mem_cons] at hx hy
    rcases hx with rfl | hx <;> rcases hy with rfl | hy
    · rfl
    · exact absurd (List.mem_map.2 ⟨y, hy, he.symm⟩) h.1
    · exact absurd (List.mem_map.2 ⟨x, hx, he⟩) h.1
    · exact inj_of_nodup h.2 x hx y hy he
theorem nodup_map {α β : Type} {f : α → β} (hf : ∀ a b, f a = f b → a = b) : ∀ {l : List α}, l.Nodup → (l.map f).Nodup
  | [], _ => by simp
  | a :: l, h => by
    simp only [List.nodup_cons] at h
    simp only [List.map_cons, List.nodup_cons]
    refine ⟨fun hm => ?_, nodup_map hf h.2⟩
    obtain ⟨b, hb, he⟩ := List.mem_map.1 hm
    exact h.1 (hf _ _ he ▸ hb)

/-- Block r is an iterator over the map in block b, whose entries are kvs; those of left are still to come. -/
def iterAt (w : World) (r b : Nat) (kvs left : List (Int × Nat)) : Prop :=
  ∃ es clock since seen c0, w.heap[b]? = some (.map es clock) ∧ w.heap[r]? = some (.mapIter (some b) since seen c0) ∧ es.toList.map (fun e => (e.key, e.val)) = kvs.map entV ∧ (∀ e ∈ es.toList, e.born < since) ∧ since ≤ c0 ∧ since ≤ clock ∧ (es.toList.map (·.born)).Nodup ∧
    (leftOf es seen).toList.map (fun e => (e.key, e.val)) = left.map entV

theorem iterAt.map {w : World} {r b : Nat} {kvs left : List (Int × Nat)} (h : iterAt w r b kvs left) : mapAt w b kvs := by
  obtain ⟨es, c, si, se, c0, hb, hr, hk, hl, h1, h2, hn, _⟩ := h
  exact ⟨es, c, hb, hk, fun e he => Nat.lt_of_lt_of_le (hl e he) h2, hn⟩
theorem iterAt.keep {w w' : World} {r b : Nat} {kvs left : List (Int × Nat)} (h : iterAt w r b kvs left) (hb : w'.heap[b]? = w.heap[b]?) (hr : w'.heap[r]? = w.heap[r]?) : iterAt w' r b kvs left := by
  obtain ⟨es, c, si, se, c0, h1, h2, h3⟩ := h
  exact ⟨es, c, si, se, c0, hb.trans h1, hr.trans h2, h3⟩
theorem iterAt.lt {w : World} {r b : Nat} {kvs left : List (Int × Nat)} (h : iterAt w r b kvs left) : b < w.heap.size ∧ r < w.heap.size ∧ r ≠ b := by
  obtain ⟨es, c, si, se, c0, h1, h2, h3⟩ := h
  exact ⟨blt h1, blt h2, fun e => by subst e; simp [h1] at h2⟩
theorem iterAt.sub {w : World} {r b : Nat} {kvs left : List (Int × Nat)} (h : iterAt w r b kvs left) : ∀ p ∈ left, p ∈ kvs := by
  obtain ⟨es, c, si, se, c0, h1, h2, hk, _, _, _, _, hl⟩ := h
  intro p hp
  have h3 : entV p ∈ left.map entV := List.mem_map.2 ⟨p, hp, rfl⟩
  rw [← hl] at h3
  obtain ⟨e, he, hv⟩ := List.mem_map.1 h3
  have h4 : e ∈ es.toList := by unfold leftOf at he; simp at he; simpa using he.1
  have h5 : entV p ∈ kvs.map entV := by rw [← hk, ← hv]; exact List.mem_map.2 ⟨e, h4, rfl⟩
  obtain ⟨q, hq, hv⟩ := List.mem_map.1 h5
  obtain ⟨q1, q2⟩ := q
  obtain ⟨p1, p2⟩ := p
  simp [entV] at hv
  obtain ⟨rfl, rfl⟩ := hv
  exact hq

/-- 'range': a new iterator, all entries still to come. -/
theorem run_range {w : World} {b : Nat} {kvs : List (Int × Nat)} (h : mapAt w b kvs) (t e : TypeId) (ht : Try.prog.underlying t = some (.map 3 e)) :
    ∃ o, (Instr.range t (.map (some b))).run Try.prog w = .ok (ptr w.heap.size) (w.alloc o) ∧ iterAt (w.alloc o) w.heap.size b kvs kvs := by
  obtain ⟨es, c, hb, hes, hlt, hnd⟩ := h
  refine ⟨.mapIter (some b) c #[] c, ?_, es, c, c, #[], c, alloc_old hb _, alloc_new _ _, hes, hlt, Nat.le_refl _, Nat.le_refl _, hnd, ?_⟩
  · simp only [Instr.range, run_underlying ht, Sem.run_bind, Result.andThen_ok, getObj, Sem.run, hb, newObj]
    rfl
  · have : leftOf es #[] = es := by unfold leftOf; simp
    rw [this, hes]

theorem run_next {w : World} {r b : Nat} {kvs left : List (Int × Nat)} (h : iterAt w r b kvs left) (hnk : (left.map (·.1)).Nodup) (ty : TypeId) :
    (left = [] ∧ (Instr.next (ptr r) false ty).run Try.prog w = .ok (.tuple #[.bool false]) w) ∨
    ∃ p ∈ left, ∃ w1 : World, (w1 = w ∨ w1 = w.drew) ∧ ∃ o, (Instr.next (ptr r) false ty).run Try.prog w = .ok (.tuple #[.bool true, .int .i64 p.1, ptr p.2]) (setBlock w1 r o) ∧ iterAt (setBlock w1 r o) r b kvs (left.filter (fun q => q.1 != p.1)) ∧
      (Instr.entry (ptr r)).run Try.prog (setBlock w1 r o) = .ok (.tuple #[.int .i64 p.1, ptr p.2]) (setBlock w1 r o) := by
  have hlt := h.lt
  obtain ⟨es, c, si, se, c0, hb, hr, hk, hl, h1, h2, hn, hleft⟩ := h
  rcases run_next_at (P := Try.prog) w ty r b si c0 se es c hr hb hl h1 with ⟨h0, hrun⟩ | ⟨e, he, w1, hw1, hrun⟩
  · left
    have : (leftOf es se).toList = [] := by
      rw [← List.length_eq_zero_iff]
      simpa using h0
    rw [this] at hleft
    exact ⟨by simpa using hleft.symm, hrun⟩
  · right
    have hm : (e.key, e.val) ∈ left.map entV := by rw [← hleft]; exact List.mem_map.2 ⟨e, he, rfl⟩
    obtain ⟨p, hp, hv⟩ := List.mem_map.1 hm
    have hk1 : e.key = .int .i64 p.1 := (congrArg Prod.fst hv).symm
    have hv1 : e.val = ptr p.2 := (congrArg Prod.snd hv).symm
    have hee : e ∈ es.toList := by unfold leftOf at he; simp at he; simpa using he.1
    have hr1 : w1.heap[r]? = some (.mapIter (some b) si se c0) := by rcases hw1 with rfl | rfl <;> exact hr
    have hb1 : w1.heap[b]? = some (.map es c) := by rcases hw1 with rfl | rfl <;> exact hb
    rw [hk1, hv1] at hrun
    refine ⟨p, hp, w1, hw1, _, hrun, ⟨es, c, si, se.push e.born, c, (setB_other (Ne.symm hlt.2.2)).trans hb1, setB_heap hr1, hk, hl, h2, h2, hn, ?_⟩, ?_⟩
    · -- what is left
      have hnd : (leftOf es se).toList.map (fun e => (e.key, e.val)) = left.map entV := hleft
      have e1 : (leftOf es (se.push e.born)).toList = (leftOf es se).toList.filter (fun x => x.born != e.born) := by
        unfold leftOf
        simp only [Array.toList_filter, List.filter_filter]
        apply List.filter_congr
        intro x _
        simp
        rw [Bool.and_comm]
        congr 1
      rw [e1]
      -- an entry is told by its stamp as by its key
      have hsub : ∀ x ∈ (leftOf es se).toList, x ∈ es.toList := by intro x hx; unfold leftOf at hx; simp at hx; simpa using hx.1
      have key : ∀ (L : List MapEntry) (l : List (Int × Nat)), L.map (fun e => (e.key, e.val)) = l.map entV → (∀ x ∈ L, x.born = e.born ↔ x.key = e.key) → (L.filter (fun x => x.born != e.born)).map (fun e => (e.key, e.val)) = (l.filter (fun q => q.1 != p.1)).map entV := by
        intro L
        induction L with
        | nil => intro l hl _; cases l with
          | nil => rfl
          | cons _ _ => simp at hl
        | cons x L ih =>
          intro l hl hx
          cases l with
          | nil => simp at hl
          | cons q l =>
            simp only [List.map_cons, List.cons.injEq] at hl
            have hq : x.key = .int .i64 q.1 := congrArg Prod.fst hl.1
            have hxx := hx x (by simp)
            rw [hq, hk1] at hxx
            have ih' := ih l hl.2 (fun y hy => hx y (by simp [hy]))
            by_cases hpq : q.1 = p.1
            · have hbb : (x.born != e.born) = false := by
                have : (x.born == e.born) = true := by simpa using hxx.2 (by rw [hpq])
                simp only [bne, this, Bool.not_true]
              rw [List.filter_cons_of_neg (p := fun x : MapEntry => x.born != e.born) (by simp [hbb]), List.filter_cons_of_neg (p := fun q : Int × Nat => q.1 != p.1) (by simp [hpq])]
              exact ih'
            · have hbb : (x.born != e.born) = true := by
                have : (x.born == e.born) = false := by
                  simp only [beq_eq_false_iff_ne]
                  exact fun h => hpq (by simpa using hxx.1 h)
                simp only [bne, this, Bool.not_false]
              rw [List.filter_cons_of_pos (p := fun x : MapEntry => x.born != e.born) hbb, List.filter_cons_of_pos (p := fun q : Int × Nat => q.1 != p.1) (by simpa using hpq)]
              simp only [List.map_cons, hl.1, ih']
      apply key _ _ hnd
      intro x hx
      constructor
      · intro h
        rw [inj_of_nodup hn x (hsub x hx) e hee h]
      · intro h
        have hkk : ((leftOf es se).toList.map (·.key)).Nodup := by
          have e2 : (leftOf es se).toList.map (·.key) = left.map (fun p => Value.int .i64 p.1) := by
            have := congrArg (List.map Prod.fst) hleft
            simpa [entV, Function.comp_def] using this
          have e3 : left.map (fun p => Value.int .i64 p.1) = (left.map (·.1)).map (Value.int .i64) := by simp [Function.comp_def]
          rw [e2, e3]
          exact nodup_map (fun a b h => by simpa using h) hnk
        rw [inj_of_nodup hkk x hx e he h]
    · have hs : (setBlock w1 r (.mapIter (some b) si (se.push e.born) c)).heap[b]? = some (.map es c) := (setB_other (Ne.symm hlt.2.2)).trans hb1
      have := run_entry_at (P := Try.prog) _ r b si se es c e (setB_heap hr1) hs hee hn
      rw [hk1, hv1] at this
      exact this

theorem filter_eraseIdx {α : Type} (f : α → Bool) : ∀ (l : List α) (m : Nat), (∀ x, l[m]? = some x → f x = false) → (l.eraseIdx m).filter f = l.filter f
  | [], m, _ => by simp
  | a :: l, 0, h => by
    rw [List.eraseIdx_cons_zero, List.filter_cons_of_neg (by simp [h a rfl])]
  | a :: l, m + 1, h => by
    rw [List.eraseIdx_cons_succ, List.filter_cons, List.filter_cons, filter_eraseIdx f l m (fun x hx => h x (by simpa using hx))]

/-- delete, while the map is ranged over, of a key whose turn has been. -/
theorem iter_del {w : World} {r b : Nat} {kvs left : List (Int × Nat)} (h : iterAt w r b kvs left) (hnk : (kvs.map (·.1)).Nodup) (t e : TypeId) (ht : Try.prog.underlying t = some (.map 3 e)) (k : Int) (hin : k ∈ kvs.map (·.1)) (hk : k ∉ left.map (·.1)) (tk ty : TypeId) :
    ∃ o, (Builtin.delete_ #[t, tk] ty #[.map (some b), .int .i64 k]).run Try.prog w = .ok (.tuple #[]) (setBlock w b o) ∧ iterAt (setBlock w b o) r b (kvs.filter (fun p => p.1 != k)) left := by
  have hrb := h.lt.2.2
  obtain ⟨es, c, si, se, c0, hb, hr, hes, hlt, h1, h2, hnd, hleft⟩ := h
  obtain ⟨x, f1, f2, f3⟩ := findNow_of k es.toList kvs 0 hes
  have hck : ∀ em, (Instr.checkKey em 10000 3 (.int .i64 k)).run Try.prog w = .ok () w := fun em => Go.MapKept.run_checkKey (w := w) und3 (k := .int .i64 k) rfl em 9999
  have hfk : (Instr.findKey 3 (.int .i64 k) es.toList).run Try.prog w = .ok x w := by
    simp only [Instr.findKey, Sem.run_bind, run_underlying und3, Result.andThen_ok, f1]
    rfl
  cases x with
  | none =>
    have hl : look kvs k = none := by simpa using f2.symm
    exact absurd hin (look_none.1 hl)
  | some p =>
    obtain ⟨j, v⟩ := p
    obtain ⟨m, rfl, h4, h5⟩ := f3 j v rfl
    have hm : m < es.size := by
      have hl := congrArg List.length hes
      simp at hl
      have : m < kvs.length := by
        rcases Nat.lt_or_ge m kvs.length with h' | h'
        · exact h'
        · simp [List.getElem?_eq_none h'] at h5
      omega
    have hkey : ∀ y, es.toList[m]? = some y → y.key = .int .i64 k := by
      intro y hy
      have := congrArg (fun l => (l[m]?).map Prod.fst) hes
      simp only [List.getElem?_map, Option.map_map, hy, Option.map_some] at this
      cases hq : kvs[m]? with
      | none => simp [hq] at h5
      | some q =>
        simp [hq] at h5
        simp [hq, entV, h5] at this
        exact this
    have hlo : (leftOf (es.eraseIdx m hm) se).toList = (leftOf es se).toList := by
      unfold leftOf
      simp only [Array.toList_filter, Array.toList_eraseIdx]
      refine filter_eraseIdx _ _ _ ?_
      intro y hy
      rcases hc : se.contains y.born with _ | _
      · exfalso
        have hyl : y ∈ (leftOf es se).toList := by
          unfold leftOf
          simp only [Array.toList_filter, List.mem_filter]
          exact ⟨List.mem_of_getElem? hy, by rw [hc]; rfl⟩
        have : (y.key, y.val) ∈ left.map entV := by rw [← hleft]; exact List.mem_map.2 ⟨y, hyl, rfl⟩
        obtain ⟨q, hq, hv⟩ := List.mem_map.1 this
        have hq1 : Value.int .i64 q.1 = .int .i64 k := (congrArg Prod.fst hv).trans (hkey y hy)
        exact hk (List.mem_map.2 ⟨q, hq, by simpa using hq1⟩)
      · rfl
    refine ⟨.map (es.eraseIdxIfInBounds m) c, ?_, es.eraseIdxIfInBounds m, c, si, se, c0, setB_heap hb, (setB_other hrb).trans hr, ?_, ?_, h1, h2, ?_, ?_⟩
    · simp [Builtin.delete_, run_underlying ht, getObj, Sem.run, hb, hck, hfk, setObj, setBlock]
    · rw [← find_idx k kvs m h4 h5 hnk]
      simp only [Array.eraseIdxIfInBounds, hm, dif_pos, Array.toList_eraseIdx]
      have : (es.toList.eraseIdx m).map (fun e => (e.key, e.val)) = (es.toList.map (fun e => (e.key, e.val))).eraseIdx m := by
        simp [List.eraseIdx_eq_take_drop_succ, List.map_take, List.map_drop]
      rw [this, hes]
      simp [List.eraseIdx_eq_take_drop_succ, List.map_take, List.map_drop]
    · intro x hx
      simp only [Array.eraseIdxIfInBounds, hm, dif_pos, Array.toList_eraseIdx] at hx
      exact hlt x (List.mem_of_mem_eraseIdx hx)
    · simp only [Array.eraseIdxIfInBounds, hm, dif_pos, Array.toList_eraseIdx]
      have : (es.toList.eraseIdx m).map (·.born) = (es.toList.map (·.born)).eraseIdx m := by
        simp [List.eraseIdx_eq_take_drop_succ, List.map_take, List.map_drop]
      rw [this]
      exact hnd.sublist (List.eraseIdx_sublist _ _)
    · simp only [Array.eraseIdxIfInBounds, hm, dif_pos]
      rw [hlo, hleft]
end Go.Proofs.Ytkmgbnklfnjfjaa.Ker
