import Derived.Test.YtkdnkjjnmadhgaaGD
import Derived.Test.YtkdnkjjnmadhgaaFS
set_option linter.unusedVariables false
set_option linter.unusedSimpArgs false
/-! A terminal. -/
namespace Go.Proofs.Ytkdnkjjnmadhgaa.Dev
open Go.RowKit Go.Maps Go.Lib

/-- A terminal's slices. -/
structure TM where
  vt : Sl
  vy : Sl
  vw : Sl
  sw : List (Int × Int × Sl)
/-- A terminal: the characters that will come, with their times; when it is free. -/
structure PT where
  times : List Int
  chars : List Int
  free : Int
/-- The blocks that a terminal may write. -/
def OwnT (d : Nat) (m : TM) (k : Nat) : Prop := k = d ∨ (slv m.vw).ownBlock = some k
structure TRep (B : Nat) (w : World) (d : Nat) (m : TM) (p : PT) : Prop where
  low : B ≤ d
  cells : w.heap[d]? = some (.cells #[slv m.vt, slv m.vy, slv m.vw, .int .i64 p.free] 124 (0, 0))
  ht : Held B 3 w m.vt (ints p.times)
  hy : Held B 5 w m.vy (bytes p.chars)
  rw : w.ownsRow B 116 3 (slv m.vw) m.sw.length (m.sw.flatMap encW)
  capt : m.vt.2.1 ≤ m.vt.2.2
  capy : m.vy.2.1 ≤ m.vy.2.2
section
variable {B : Nat} {w w' : World} {d : Nat} {m : TM} {p : PT}
theorem TRep.tys (h : TRep B w d m p) {k : Nat} (hk : OwnT d m k) : B ≤ k ∧ ∃ cur ty, w.heap[k]? = some (.cells cur ty (0, 0)) ∧ (ty = 124 ∨ ty = 116) := by
  rcases hk with rfl | hk
  · exact ⟨h.low, _, _, h.cells, .inl rfl⟩
  · obtain ⟨hb, cur, hh⟩ := own_block h.rw hk
    exact ⟨hb, _, _, hh, .inr rfl⟩
theorem TRep.still (h : TRep B w d m p) {k : Nat} (hs : Still B w k) : ¬ OwnT d m k := fun ho => by
  obtain ⟨hb, cur, ty, hc, ht⟩ := h.tys ho
  rcases hs with hs | ⟨cur', ty', hc', ht'⟩
  · omega
  · rw [hc] at hc'
    simp at hc'
    obtain ⟨_, rfl⟩ := hc'
    rcases ht with rfl | rfl <;> simp at ht'
theorem TRep.w_ne (h : TRep B w d m p) : (slv m.vw).ownBlock ≠ some d := own_ty h.rw h.cells (by decide)
/-- Slices and the time change. -/
theorem TRep.set (h : TRep B w d m p) (vt vy : Sl) (times chars : List Int) (free : Int) (hc : w'.heap[d]? = some (.cells #[slv vt, slv vy, slv m.vw, .int .i64 free] 124 (0, 0)))
    (hk : ∀ k, k < w.heap.size → k ≠ d → (OwnT d m k ∨ Still B w k) → w'.heap[k]? = w.heap[k]?) (ht : Held B 3 w vt (ints times)) (hy : Held B 5 w vy (bytes chars)) (hct : vt.2.1 ≤ vt.2.2) (hcy : vy.2.1 ≤ vy.2.2) : TRep B w' d { m with vt := vt, vy := vy } ⟨times, chars, free⟩ := by
  have hs : ∀ k, k < w.heap.size → Still B w k → w'.heap[k]? = w.heap[k]? := fun k hl hs => hk k hl (fun e => h.still hs (.inl e)) (.inr hs)
  exact ⟨h.low, hc, ht.stays (.inr rfl) hs, hy.stays (.inl rfl) hs, own_keep h.rw fun g hg hl => hk g hl (fun e => h.w_ne (by rw [hg, e])) (.inl (.inr hg)), hct, hcy⟩
theorem TRep.keep (h : TRep B w d m p) (hk : ∀ k, k < w.heap.size → (OwnT d m k ∨ Still B w k) → w'.heap[k]? = w.heap[k]?) : TRep B w' d m p :=
  h.set m.vt m.vy p.times p.chars p.free ((hk d (blt h.cells) (.inl (.inl rfl))).trans h.cells) (fun k hl _ ho => hk k hl ho) h.ht h.hy h.capt h.capy
theorem TRep.put3 (h : TRep B w d m p) (n : Nat) (f : Int) : TRep B ((w.drewN n).setCell ⟨d, 3, none⟩ (.int .i64 f)) d m { p with free := f } := by
  refine h.set m.vt m.vy p.times p.chars f ?_ (fun k hl hd _ => Below.heap_setCell (w.drewN n) _ _ _ hd) h.ht h.hy h.capt h.capy
  have := set_same (w := w.drewN n) h.cells 3 (.int .i64 f)
  simpa using this
theorem TRep.all (h : TRep B w d m p) : w.cell? ⟨d, 0, none⟩ = some (.slice m.vt.1 m.vt.2.1 m.vt.2.2) ∧ w.cell? ⟨d, 1, none⟩ = some (.slice m.vy.1 m.vy.2.1 m.vy.2.2) ∧ w.cell? ⟨d, 2, none⟩ = some (.slice m.vw.1 m.vw.2.1 m.vw.2.2) ∧ w.cell? ⟨d, 3, none⟩ = some (.int .i64 p.free) ∧ w.frozen? ⟨d, 0, none⟩ = false ∧ w.frozen? ⟨d, 1, none⟩ = false ∧ w.frozen? ⟨d, 2, none⟩ = false ∧ w.frozen? ⟨d, 3, none⟩ = false :=
  ⟨(cell_of h.cells 0).trans rfl, (cell_of h.cells 1).trans rfl, (cell_of h.cells 2).trans rfl, (cell_of h.cells 3).trans rfl, free_of h.cells 0, free_of h.cells 1, free_of h.cells 2, free_of h.cells 3⟩
/-- A write is noted. -/
theorem TRep.addw {w7 : World} (h : TRep B w d m p) {v' : Sl} {x : Int × Int × Sl} (hrow : w7.ownsRow B 116 3 (slv v') (m.sw.length + 1) (m.sw.flatMap encW ++ encW x))
    (hk : ∀ k, k < w.heap.size → (slv m.vw).ownBlock ≠ some k → w7.heap[k]? = w.heap[k]?) : TRep B (w7.setCell ⟨d, 2, none⟩ (slv v')) d { m with vw := v', sw := m.sw ++ [x] } p := by
  have hne := h.w_ne
  have hd7 := (hk d (blt h.cells) hne).trans h.cells
  have ho : ∀ i, i < w.heap.size → i ≠ d → (slv m.vw).ownBlock ≠ some i → (w7.setCell ⟨d, 2, none⟩ (slv v')).heap[i]? = w.heap[i]? := fun i hl hi hw => (Below.heap_setCell w7 _ _ _ hi).trans (hk i hl hw)
  have hs : ∀ k, k < w.heap.size → Still B w k → (w7.setCell ⟨d, 2, none⟩ (slv v')).heap[k]? = w.heap[k]? := fun k hl hs => ho k hl (fun e => h.still hs (.inl e)) fun e => h.still hs (.inr e)
  refine ⟨h.low, ?_, h.ht.stays (.inr rfl) hs, h.hy.stays (.inl rfl) hs, ?_, h.capt, h.capy⟩
  · have := set_same hd7 2 (slv v')
    simpa using this
  · show (w7.setCell ⟨d, 2, none⟩ (slv v')).ownsRow B 116 3 (slv v') (m.sw ++ [x]).length ((m.sw ++ [x]).flatMap encW)
    rw [List.length_append, List.length_singleton, List.flatMap_append, List.flatMap_singleton]
    exact own_keep hrow fun i hi _ => Below.heap_setCell w7 _ _ _ fun e => by
      have e : i = d := e
      subst e
      exact own_ty hrow hd7 (by decide) hi
/-- A row is cut at its front. -/
theorem Held.cut1 {B ty : Nat} {w : World} {g o n c : Nat} {x : Value} {xs : List Value} (h : Held B ty w (some ⟨g, o, none⟩, n + 1, c) (x :: xs)) (hc : n + 1 ≤ c) : Held B ty w ((if c = 1 then some (⟨g, o, none⟩ : Addr) else some ⟨g, o + 1, none⟩), n, c - 1) xs := by
  have hn : xs.length = n := by have := h.1; simpa using this
  refine ⟨hn, fun u hu => h.2.1 u (by simp [hu]), fun h0 => ?_⟩
  have h0 : 0 < n := h0
  obtain ⟨g', o', e, hb, hcc⟩ := h.2.2 (by show 0 < n + 1; omega)
  have e : some (⟨g, o, none⟩ : Addr) = some ⟨g', o', none⟩ := e
  injection e with e
  injection e with e1 e2
  subst e1 e2
  refine ⟨g, o + 1, by show (if c = 1 then _ else _) = _; rw [if_neg (by omega)], hb, fun j u hu => ?_⟩
  have := hcc (j + 1) u (by simpa using hu)
  rwa [show o + (j + 1) = o + 1 + j by omega] at this
end
end Go.Proofs.Ytkdnkjjnmadhgaa.Dev
