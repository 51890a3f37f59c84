import Derived.Test.YtkmgbnklfnjfjaaKC
import Derived.Maps.RangeRun
/-! Maps from whole numbers to pointers. -/
namespace Go.Proofs.Ytkmgbnklfnjfjaa.Ker
open Go.RowKit Go.Maps
open Go.ChangeMaps (setBlock)

/-- Entries as pairs of a number and a block. -/
def entV (p : Int × Nat) : Value × Value := (.int .i64 p.1, ptr p.2)
/-- Block b is a map with these entries. -/
def mapAt (w : World) (b : Nat) (kvs : List (Int × Nat)) : Prop :=
  ∃ es clock, w.heap[b]? = some (.map es clock) ∧ es.toList.map (fun e => (e.key, e.val)) = kvs.map entV ∧ (∀ e ∈ es.toList, e.born < clock) ∧ (es.toList.map (·.born)).Nodup
def look (kvs : List (Int × Nat)) (k : Int) : Option Nat := (kvs.find? (fun p => p.1 == k)).map (·.2)
def lookV (kvs : List (Int × Nat)) (k : Int) : Value := .pointer ((look kvs k).map fun b => ⟨b, 0, none⟩)

theorem mapAt.lt {w : World} {b : Nat} {kvs : List (Int × Nat)} (h : mapAt w b kvs) : b < w.heap.size := by
  obtain ⟨es, c, h, _⟩ := h
  exact blt h
theorem mapAt.keep {w w' : World} {b : Nat} {kvs : List (Int × Nat)} (h : mapAt w b kvs) (hk : w'.heap[b]? = w.heap[b]?) : mapAt w' b kvs := by
  obtain ⟨es, c, h, r⟩ := h
  exact ⟨es, c, hk.trans h, r⟩

theorem findNow_of (k : Int) : ∀ (es : List MapEntry) (kvs : List (Int × Nat)) (i : Nat), es.map (fun e => (e.key, e.val)) = kvs.map entV →
    ∃ r, Instr.findNow (.int .i64) (.int .i64 k) es i = some r ∧ (r.map (·.2)) = (look kvs k).map (fun b => ptr b) ∧ ∀ j v, r = some (j, v) → ∃ m, j = i + m ∧ (∀ n, n < m → ((kvs[n]?).map (·.1)) ≠ some k) ∧ ((kvs[m]?).map (·.1)) = some k
  | [], kvs, i, h => by
    have : kvs = [] := by simpa using h.symm
    subst this
    exact ⟨none, rfl, rfl, fun j v h => by cases h⟩
  | e :: es, [], i, h => by simp at h
  | e :: es, p :: kvs, i, h => by
    simp only [List.map_cons, List.cons.injEq] at h
    obtain ⟨he, ht⟩ := h
    have hk : e.key = .int .i64 p.1 := congrArg Prod.fst he
    have hv : e.val = ptr p.2 := congrArg Prod.snd he
    by_cases hkp : k = p.1
    · subst hkp
      refine ⟨some (i, e.val), ?_, ?_, fun j v hj => ⟨0, ?_, fun n hn => by omega, by simp⟩⟩
      · simp [Instr.findNow, hk, Instr.sameNow]
      · simp [look, hv]
      · cases hj; rfl
    · obtain ⟨r, h1, h2, h3⟩ := findNow_of k es kvs (i + 1) ht
      refine ⟨r, ?_, ?_, fun j v hj => ?_⟩
      · have : (k == p.1) = false := by simpa using hkp
        simp [Instr.findNow, hk, Instr.sameNow, this, h1]
      · rw [h2]
        have : (p.1 == k) = false := by simpa using Ne.symm hkp
        simp [look, this]
      · obtain ⟨m, hm, h4, h5⟩ := h3 j v hj
        refine ⟨m + 1, by omega, fun n hn => ?_, by simpa using h5⟩
        cases n with
        | zero => simpa using Ne.symm hkp
        | succ n => simpa using h4 n (by omega)

theorem und3 : Try.prog.underlying 3 = some (.int .i64) := Try.underlying3

theorem run_look {w : World} {b : Nat} {kvs : List (Int × Nat)} (h : mapAt w b kvs) (t e : TypeId) (ht : Try.prog.underlying t = some (.map 3 e)) (hz : (zeroValue e).run Try.prog w = .ok (.pointer none) w) (k : Int) :
    (Instr.lookup t (.map (some b)) (.int .i64 k) false).run Try.prog w = .ok (lookV kvs k) w := by
  obtain ⟨es, c, hb, hes, _⟩ := h
  obtain ⟨r, h1, h2, _⟩ := findNow_of k es.toList kvs 0 hes
  have hck : ∀ em, (Instr.checkKey em 10000 3 (.int .i64 k)).run Try.prog w = .ok () w := fun em => Go.MapKept.run_checkKey (w := w) und3 (k := .int .i64 k) rfl em 9999
  have hfk : (Instr.findKey 3 (.int .i64 k) es.toList).run Try.prog w = .ok r w := by
    simp only [Instr.findKey, Sem.run_bind, run_underlying und3, Result.andThen_ok, h1]
    rfl
  simp only [Instr.lookup, run_underlying ht, Sem.run_bind, Result.andThen_ok, getObj, Sem.run, hb]
  cases r with
  | none =>
    have : look kvs k = none := by simpa using h2.symm
    simp [hck, hfk, hz, lookV, this]
  | some p =>
    obtain ⟨j, v⟩ := p
    simp at h2
    obtain ⟨b', hb', hv⟩ := Option.map_eq_some_iff.1 h2.symm
    simp [hck, hfk, lookV, hb', ← hv]

/-- World w with another object in block b. -/
theorem setB_heap {w : World} {b : Nat} {o o' : Obj} (h : w.heap[b]? = some o) : (setBlock w b o').heap[b]? = some o' := by
  simp [setBlock, blt h]
theorem setB_other {w : World} {b k : Nat} {o' : Obj} (h : k ≠ b) : (setBlock w b o').heap[k]? = w.heap[k]? := by
  simp [setBlock, Ne.symm h]
theorem Touch.setB (w : World) (b : Nat) (o : Obj) : Touch w (setBlock w b o) (fun k => k = b) :=
  ⟨rfl, rfl, rfl, by simp [setBlock], fun _ _ h => setB_other h⟩

theorem run_put {w : World} {b : Nat} {kvs : List (Int × Nat)} (h : mapAt w b kvs) (t e : TypeId) (ht : Try.prog.underlying t = some (.map 3 e)) (k : Int) (v : Nat) (hn : look kvs k = none) :
    ∃ o, (Instr.mapUpdate t (.map (some b)) (.int .i64 k) (ptr v)).run Try.prog w = .ok () (setBlock w b o) ∧ mapAt (setBlock w b o) b (kvs ++ [(k, v)]) := by
  obtain ⟨es, c, hb, hes, hlt, hnd⟩ := h
  obtain ⟨r, h1, h2, _⟩ := findNow_of k es.toList kvs 0 hes
  have hck : ∀ em, (Instr.checkKey em 10000 3 (.int .i64 k)).run Try.prog w = .ok () w := fun em => Go.MapKept.run_checkKey (w := w) und3 (k := .int .i64 k) rfl em 9999
  have hr : r = none := by
    rw [hn] at h2
    cases r with
    | none => rfl
    | some _ => simp at h2
  subst hr
  have hfk : (Instr.findKey 3 (.int .i64 k) es.toList).run Try.prog w = .ok none w := by
    simp only [Instr.findKey, Sem.run_bind, run_underlying und3, Result.andThen_ok, h1]
    rfl
  refine ⟨.map (es.push { key := .int .i64 k, val := ptr v, born := c }) (c + 1), ?_, _, _, setB_heap hb, ?_, ?_, ?_⟩
  · simp only [Instr.mapUpdate, run_underlying ht, Sem.run_bind, Result.andThen_ok, getObj, Sem.run, hb, hck, hfk]
    simp [setObj, Sem.run, hb, setBlock]
  · simp [hes, entV]
  · intro x hx
    simp at hx
    rcases hx with hx | rfl
    · have := hlt x (by simpa using hx)
      omega
    · simp
  · simp only [Array.toList_push, List.map_append, List.map_cons, List.map_nil]
    rw [List.nodup_append]
    refine ⟨hnd, by simp, ?_⟩
    intro a ha x hx
    simp at hx
    obtain ⟨y, hy, rfl⟩ := List.mem_map.1 ha
    have := hlt y hy
    omega

theorem find_idx (k : Int) : ∀ (kvs : List (Int × Nat)) (m : Nat), (∀ n, n < m → ((kvs[n]?).map (·.1)) ≠ some k) → ((kvs[m]?).map (·.1)) = some k → (kvs.map (·.1)).Nodup → kvs.eraseIdx m = kvs.filter (fun p => p.1 != k)
  | [], m, _, h, _ => by simp at h
  | p :: kvs, 0, _, h, hn => by
    simp only [List.map_cons, List.nodup_cons] at hn
    have hp : p.1 = k := by simpa using h
    subst hp
    simp only [List.eraseIdx_cons_zero]
    rw [List.filter_cons_of_neg (by simp)]
    symm
    rw [List.filter_eq_self]
    intro x hx
    simp only [bne_iff_ne]
    exact fun e => hn.1 (by rw [← e]; exact List.mem_map.2 ⟨x, hx, rfl⟩)
  | p :: kvs, m + 1, h0, h, hn => by
    simp only [List.map_cons, List.nodup_cons] at hn
    have hp : p.1 ≠ k := by simpa using h0 0 (by omega)
    rw [List.eraseIdx_cons_succ, List.filter_cons_of_pos (by simpa using hp)]
    rw [find_idx k kvs m (fun n hn' => by simpa using h0 (n + 1) (by omega)) (by simpa using h) hn.2]

theorem look_none {kvs : List (Int × Nat)} {k : Int} : look kvs k = none ↔ k ∉ kvs.map (·.1) := by
  unfold look
  simp only [Option.map_eq_none_iff, List.find?_eq_none, List.mem_map, not_exists, not_and]
  constructor
  · intro h x hx e
    exact h x hx (by simpa using e)
  · intro h x hx e
    exact h x hx (by simpa using e)

/-- delete: of a key that may be there. -/
theorem run_del {w : World} {b : Nat} {kvs : List (Int × Nat)} (h : mapAt w b kvs) (hnk : (kvs.map (·.1)).Nodup) (t e : TypeId) (ht : Try.prog.underlying t = some (.map 3 e)) (k : Int) (tk ty : TypeId) :
    ∃ o, (Builtin.delete_ #[t, tk] ty #[.map (some b), .int .i64 k]).run Try.prog w = .ok (.tuple #[]) (setBlock w b o) ∧ mapAt (setBlock w b o) b (kvs.filter (fun p => p.1 != k)) := by
  obtain ⟨es, c, hb, hes, hlt, hnd⟩ := h
  obtain ⟨r, h1, h2, h3⟩ := findNow_of k es.toList kvs 0 hes
  have hck : ∀ em, (Instr.checkKey em 10000 3 (.int .i64 k)).run Try.prog w = .ok () w := fun em => Go.MapKept.run_checkKey (w := w) und3 (k := .int .i64 k) rfl em 9999
  have hfk : (Instr.findKey 3 (.int .i64 k) es.toList).run Try.prog w = .ok r w := by
    simp only [Instr.findKey, Sem.run_bind, run_underlying und3, Result.andThen_ok, h1]
    rfl
  cases r with
  | none =>
    have hl : look kvs k = none := by simpa using h2.symm
    refine ⟨.map es c, ?_, es, c, setB_heap hb, ?_, hlt, hnd⟩
    · simp [Builtin.delete_, run_underlying ht, getObj, Sem.run, hb, hck, hfk, setObj, setBlock]
    · rw [hes, List.filter_eq_self.2]
      intro x hx
      simp only [bne_iff_ne]
      exact fun e => look_none.1 hl (List.mem_map.2 ⟨x, hx, e⟩)
  | some p =>
    obtain ⟨j, v⟩ := p
    obtain ⟨m, rfl, h4, h5⟩ := h3 j v rfl
    have hm : m < es.size := by
      have hl := congrArg List.length hes
      simp at hl
      have : m < kvs.length := by
        rcases Nat.lt_or_ge m kvs.length with h' | h'
        · exact h'
        · simp [List.getElem?_eq_none h'] at h5
      omega
    refine ⟨.map (es.eraseIdxIfInBounds m) c, ?_, _, _, setB_heap hb, ?_, ?_, ?_⟩
    · simp [Builtin.delete_, run_underlying ht, getObj, Sem.run, hb, hck, hfk, setObj, setBlock]
    · rw [← find_idx k kvs m h4 h5 hnk]
      simp only [Array.eraseIdxIfInBounds, hm, dif_pos, Array.toList_eraseIdx]
      have : (es.toList.eraseIdx m).map (fun e => (e.key, e.val)) = (es.toList.map (fun e => (e.key, e.val))).eraseIdx m := by
        simp [List.eraseIdx_eq_take_drop_succ, List.map_take, List.map_drop]
      rw [this, hes]
      simp [List.eraseIdx_eq_take_drop_succ, List.map_take, List.map_drop]
    · intro x hx
      simp only [Array.eraseIdxIfInBounds, hm, dif_pos, Array.toList_eraseIdx] at hx
      exact hlt x (List.mem_of_mem_eraseIdx hx)
    · simp only [Array.eraseIdxIfInBounds, hm, dif_pos, Array.toList_eraseIdx]
      have : (es.toList.eraseIdx m).map (·.born) = (es.toList.map (·.born)).eraseIdx m := by
        simp [List.eraseIdx_eq_take_drop_succ, List.map_take, List.map_drop]
      rw [this]
      exact hnd.sublist (List.eraseIdx_sublist _ _)
end Go.Proofs.Ytkmgbnklfnjfjaa.Ker
