import Derived.Test.YtkmgbnklfnjfjaaNB
import Derived.Test.YtkmgbnklfnjfjaaMA
/-! KernelOrders (f4): rows of triples; the walk. -/
namespace Go.Proofs.Ytkmgbnklfnjfjaa.Ker
open Go.RowKit Go.Maps

theorem KRep.offTy {B kb : Nat} {g : G} {a : A} {w w' : World} (h : KRep B kb g a w) {S : Nat → Prop} (ht : Touch w w' S) (hs : ∀ k, S k → k < w.heap.size → ∃ c ty fr, w.heap[k]? = some (.cells c ty fr) ∧ ownTy ty = false) : KRep B kb g a w' := by
  have kp : ∀ {b o}, w.heap[b]? = some o → (∀ c ty fr, o = Obj.cells c ty fr → ownTy ty = true) → w'.heap[b]? = some o := fun {b o} hb hk => by
    refine (ht.block b (blt hb) (fun hp => ?_)).trans hb
    obtain ⟨c, ty, fr, h3, h4⟩ := hs b hp (blt hb)
    rw [hb] at h3
    have := hk c ty fr (Option.some.inj h3)
    rw [this] at h4
    cases h4
  have kc : ∀ {b c ty fr}, w.heap[b]? = some (Obj.cells c ty fr) → ownTy ty = true → w'.heap[b]? = some (Obj.cells c ty fr) := fun {b c ty fr} hb hk => kp hb (fun c' ty' fr' he => by simp only [Obj.cells.injEq] at he; rw [← he.2.1]; exact hk)
  have rk : ∀ {e sz v n xs}, w.ownsRow B e sz v n xs → ownTy e = true → w'.ownsRow B e sz v n xs := fun {e sz v n xs} ho he => own_keep ho (fun b hvb _ => by
    obtain ⟨_, cur, hc⟩ := own_block ho hvb
    rw [hc]
    exact kc hc he)
  have mk : ∀ {b kvs}, mapAt w b kvs → mapAt w' b kvs := fun {b kvs} hm => by
    obtain ⟨es, c, h1, h2⟩ := hm
    exact ⟨es, c, kp h1 (fun c' ty' fr' he => by cases he), h2⟩
  exact ⟨kc h.ker rfl, mk h.tmap, mk h.dmap, mk h.pmap, h.maps, fun j hj => kc (h.task j hj) rfl, fun j hj => kc (h.dev j hj) rfl, h.dinj, fun j hj => kc (h.pack j hj) rfl, fun j hj => rk (h.row j hj) rfl, rk h.mrow rfl, h.sep, h.low, h.tpos⟩

def tcells3 (x : Tr) : List Value := [.int .i64 x.1, .int .i64 x.2.1, .int .i64 x.2.2]
/-- Slice v owns the triples l. -/
def trow (B : Nat) (w : World) (v : Value) (l : List Tr) : Prop := w.ownsRow B 42 3 v l.length (l.flatMap tcells3)
theorem trow.ker {B B' kb : Nat} {g : G} {a : A} {w w' : World} {u : Value} {l : List Tr} (h : KRep B kb g a w) (ho : trow B' w u l) (hg : w.grownBy w' u.ownBlock) : KRep B kb g a w' :=
  h.offTy (Touch.grown hg) (fun k hk _ => by
    obtain ⟨_, c, hc⟩ := own_block ho hk.symm
    exact ⟨c, _, _, hc, rfl⟩)
theorem trow.below {B : Nat} {w w' : World} {u : Value} {l : List Tr} (h : trow B w u l) (hb : Below w.heap.size w w') : trow B w' u l := own_keep h (fun g _ hl => hb.block g hl)
theorem trow.bel {B B' : Nat} {w w' : World} {u : Value} {l : List Tr} (h : trow B' w u l) (hb : Bel B w w') : trow B' w' u l :=
  own_keep h (fun g hg _ => by
    obtain ⟨_, cur, hc⟩ := own_block h hg
    rw [hc]
    exact hb.off g cur 42 (0, 0) hc rfl)
theorem trow.drewN {B : Nat} {w : World} {u : Value} {l : List Tr} (h : trow B w u l) (n : Nat) : trow B (w.drewN n) u l := own_keep h (fun _ _ _ => rfl)
theorem trow.other {w w' : World} {B : Nat} {u1 u2 : Value} {l : List Tr} (h : trow B w u2 l) (hg : w.grownBy w' u1.ownBlock) (hs : sepB u1 u2) : trow B w' u2 l :=
  own_keep h (fun g hu hl => hg.block g hl (fun e => hs g e.symm hu))
theorem flat3 : ∀ (l : List Tr) (j : Nat) (x : Tr), l[j]? = some x → (l.flatMap tcells3)[j * 3]? = some (.int .i64 x.1) ∧ (l.flatMap tcells3)[j * 3 + 1]? = some (.int .i64 x.2.1) ∧ (l.flatMap tcells3)[j * 3 + 2]? = some (.int .i64 x.2.2)
  | [], j, x, h => by simp at h
  | y :: l, 0, x, h => by
    simp only [List.getElem?_cons_zero, Option.some.injEq] at h
    subst h
    exact ⟨rfl, rfl, rfl⟩
  | y :: l, j + 1, x, h => by
    have h1 := flat3 l j x (by simpa using h)
    have e : ((y :: l).flatMap tcells3) = [.int .i64 y.1, .int .i64 y.2.1, .int .i64 y.2.2] ++ l.flatMap tcells3 := rfl
    rw [e, show (j + 1) * 3 = j * 3 + 3 from by omega]
    exact h1
theorem trow.cells {B : Nat} {w : World} {u : Value} {l : List Tr} (h : trow B w u l) {j : Nat} {x : Tr} (hx : l[j]? = some x) :
    ∃ g c, u = .slice (some ⟨g, 0, none⟩) l.length c ∧ w.cell? ⟨g, j * 3, none⟩ = some (.int .i64 x.1) ∧ w.cell? ⟨g, j * 3 + 1, none⟩ = some (.int .i64 x.2.1) ∧ w.cell? ⟨g, j * 3 + 2, none⟩ = some (.int .i64 x.2.2) := by
  have hj := (List.getElem?_eq_some_iff.1 hx).1
  rcases h.2 with ⟨_, h0⟩ | ⟨g, cap, cur, rfl, hb, hg, h1, h2, h3, h4⟩
  · omega
  · have key : ∀ k, k < l.length * 3 → w.cell? ⟨g, k, none⟩ = (l.flatMap tcells3)[k]? := fun k hk => by
      rw [cell_of hg, ← h4]
      simp [hk]
    obtain ⟨e0, e1, e2⟩ := flat3 l j x hx
    exact ⟨g, cap, rfl, (key _ (by omega)).trans e0, (key _ (by omega)).trans e1, (key _ (by omega)).trans e2⟩
theorem trow.snoc {B : Nat} {w : World} {u : Value} {l : List Tr} {x : Tr} (h : w.ownsRow B 42 3 u (l.length + 1) (l.flatMap tcells3 ++ [.int .i64 x.1, .int .i64 x.2.1, .int .i64 x.2.2])) : trow B w u (l ++ [x]) := by
  unfold trow
  simpa [tcells3] using h
theorem new3 (w : World) (a b c : Value) : ∀ j u, [a, b, c][j]? = some u → (w.alloc (.cells #[a, b, c] 42)).cell? ((⟨w.heap.size, 0, none⟩ : Addr).add j) = some u := by
  intro j u hu
  rw [Addr.add_lit, Nat.zero_add]
  exact (cell_of (alloc_new w _) j).trans (by simpa using hu)
theorem one3 (a b c : Int) : ∀ u ∈ [Value.int .i64 a, .int .i64 b, .int .i64 c], u.oneCell' = true := by
  intro u hu
  simp at hu
  rcases hu with rfl | rfl | rfl <;> rfl
theorem info42 : (Try.prog.info? 42).map (fun i => (i.zero, i.size, i.bytes)) = some (some (.agg #[.int .i64 0, .int .i64 0, .int .i64 0]), 3, 24) := by kernel_rfl
theorem scan_len (f o : Int) : ∀ (l r : List Tr) (v : Int), (l.foldl (scan1 f o) (v, r)).2.length ≤ r.length + l.length
  | [], r, v => by simp
  | x :: l, r, v => by
    rw [List.foldl_cons]
    unfold scan1
    split
    · have := scan_len f o l r x.2.2
      simp only [List.length_cons]
      exact Nat.le_trans this (by omega)
    · have := scan_len f o l (r ++ [x]) v
      simp only [List.length_append, List.length_singleton] at this
      simp only [List.length_cons]
      exact Nat.le_trans this (by omega)
/-- Before each call. -/
def OrRel (w : World) (l : List C3) (u i : Value) (wr : World) : Prop := ∃ (j : Nat) (g : G) (a : A) (sent : List Tr), j ≤ l.length ∧ i = .int .i64 j ∧ Good a ∧ 0 ≤ a.calls ∧ a.calls ≤ j ∧ Below w.heap.size w wr ∧ KRep w.heap.size w.heap.size g a wr ∧
  Ord a sent ∧ sent.length ≤ j ∧ trow w.heap.size wr u sent
/-- While what was sent is looked through. -/
def ScRel (w : World) (g : G) (a : A) (sent : List Tr) (f o : Int) (us : Value) (bp : Nat) (pc : Array Value) (ur fi i : Value) (wr : World) : Prop := ∃ (n : Nat) (first : Int) (rest : List Tr), n ≤ sent.length ∧ i = .int .i64 n ∧ fi = .int .i64 first ∧ (first, rest) = scan f o (sent.take n) ∧
  Below w.heap.size w wr ∧ KRep w.heap.size w.heap.size g a wr ∧ trow w.heap.size wr us sent ∧ trow w.heap.size wr ur rest ∧ sepB ur us ∧ wr.heap[bp]? = some (.cells pc 44 (0, 0))
end Go.Proofs.Ytkmgbnklfnjfjaa.Ker
