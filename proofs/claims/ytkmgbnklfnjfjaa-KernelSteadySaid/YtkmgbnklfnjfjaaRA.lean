import Derived.Test.YtkmgbnklfnjfjaaMA
/-! The specification's kernel: what its memory says of a plain state. -/
namespace Go.Proofs.Ytkmgbnklfnjfjaa.Ker
open Go.RowKit Go.Maps

/-- Where the specification's rows lie. -/
structure RG where
  tv : Value
  pv : Value
  mv : Value
  qv : Int → Value
def rtc (a : A) (qv : Int → Value) (i : Int) : List Value := [.int .i64 i, .int .i64 (a.tk i).pri, .bool (a.tk i).held, .bool (a.tk i).waiting, .int .i64 (a.tk i).forr, .int .i64 (a.tk i).flags, qv i]
def rpk (a : A) (p : Int) : Pk := if p ∈ a.pids then a.pk p else ⟨0, 0, 0, 0, 0, 0⟩
def rpc (a : A) (p : Int) : List Value := [.int .i64 p, .int .i64 (rpk a p).ty, .int .i64 (rpk a p).res, .int .i64 (rpk a p).own, .int .i64 (rpk a p).at_, .int .i64 (rpk a p).frm, .int .i64 (rpk a p).wth]
def pnums (m : Int) : List Int := (List.range m.toNat).map fun n : Nat => (n : Int) + 1
def rcells (h : RG) (a : A) : Array Value := #[h.tv, h.pv, h.qv (-1), h.qv (-2), h.qv (-3), h.qv (-4), h.qv (-5), h.mv, .int .i64 a.calls]

structure RRep (B xb : Nat) (h : RG) (a : A) (w : World) : Prop where
  blk : w.heap[xb]? = some (.cells (rcells h a) 63 (0, 0))
  trow : w.ownsRow B 92 7 h.tv a.tids.length (a.tids.flatMap (rtc a h.qv))
  prow : w.ownsRow B 93 7 h.pv (pnums a.made).length ((pnums a.made).flatMap (rpc a))
  mrow : w.ownsRow B 31 4 h.mv a.moves.length (a.moves.flatMap mcells)
  row : ∀ i, a.owner i → w.ownsRow B 3 1 (h.qv i) (a.q i).length ((a.q i).map fun p => .int .i64 p)
  sep : ∀ i j, i ≠ j → a.owner i → a.owner j → sepB (h.qv i) (h.qv j)
  low : B ≤ xb
/-- The blocks of the specification's kernel. -/
def OwnR (xb : Nat) (h : RG) (a : A) (k : Nat) : Prop := k = xb ∨ h.tv.ownBlock = some k ∨ h.pv.ownBlock = some k ∨ h.mv.ownBlock = some k ∨ ∃ i, a.owner i ∧ (h.qv i).ownBlock = some k
theorem RRep.lt {B xb : Nat} {h : RG} {a : A} {w : World} (r : RRep B xb h a w) {k : Nat} (hk : OwnR xb h a k) : k < w.heap.size ∧ B ≤ k := by
  rcases hk with rfl | hk | hk | hk | ⟨i, hi, hk⟩
  · exact ⟨blt r.blk, r.low⟩
  · exact ⟨own_lt r.trow hk, (own_block r.trow hk).1⟩
  · exact ⟨own_lt r.prow hk, (own_block r.prow hk).1⟩
  · exact ⟨own_lt r.mrow hk, (own_block r.mrow hk).1⟩
  · exact ⟨own_lt (r.row i hi) hk, (own_block (r.row i hi) hk).1⟩
/-- Where all its blocks are kept. -/
theorem RRep.keep {B xb : Nat} {h : RG} {a : A} {w w' : World} (r : RRep B xb h a w) (hk : ∀ k, OwnR xb h a k → w'.heap[k]? = w.heap[k]?) : RRep B xb h a w' :=
  ⟨(hk _ (.inl rfl)).trans r.blk, own_keep r.trow (fun b hb _ => hk b (.inr (.inl hb))), own_keep r.prow (fun b hb _ => hk b (.inr (.inr (.inl hb)))), own_keep r.mrow (fun b hb _ => hk b (.inr (.inr (.inr (.inl hb))))), fun i hi => own_keep (r.row i hi) (fun b hb _ => hk b (.inr (.inr (.inr (.inr ⟨i, hi, hb⟩))))), r.sep, r.low⟩
theorem RRep.below {B xb : Nat} {h : RG} {a : A} {w w' : World} (r : RRep B xb h a w) (hb : Below w.heap.size w w') : RRep B xb h a w' := r.keep (fun k hk => hb.block k (r.lt hk).1)
theorem RRep.drewN {B xb : Nat} {h : RG} {a : A} {w : World} (r : RRep B xb h a w) (n : Nat) : RRep B xb h a (w.drewN n) := r.keep (fun _ _ => rfl)

/-- What a call of the specification leaves: a state, where it lies, and what it may have touched. -/
structure Left (B xb : Nat) (h : RG) (a : A) (w : World) (h' : RG) (a' : A) (w' : World) : Prop where
  rep : RRep B xb h' a' w'
  touch : Touch w w' (OwnR xb h a)
  own : ∀ k, OwnR xb h' a' k → OwnR xb h a k ∨ w.heap.size ≤ k
theorem Left.refl {B xb : Nat} {h : RG} {a : A} {w w' : World} (r : RRep B xb h a w) (hb : Below w.heap.size w w') : Left B xb h a w h a w' :=
  ⟨r.below hb, ⟨hb.os, hb.tape, hb.output, hb.size, fun k hk _ => hb.block k hk⟩, fun _ hk => .inl hk⟩
theorem Left.trans {B xb : Nat} {h h1 h2 : RG} {a a1 a2 : A} {w w1 w2 : World} (l : Left B xb h a w h1 a1 w1) (k : Left B xb h1 a1 w1 h2 a2 w2) : Left B xb h a w h2 a2 w2 :=
  ⟨k.rep, l.touch.andThen k.touch (fun i hi hs => (l.own i hs).resolve_right (by omega)), fun i hi => by
    rcases k.own i hi with h3 | h3
    · exact l.own i h3
    · have := l.touch.size
      exact .inr (by omega)⟩
theorem Left.low {B xb : Nat} {h h' : RG} {a a' : A} {w w' : World} (r : RRep B xb h a w) (l : Left B xb h a w h' a' w') : Below B w w' :=
  ⟨l.touch.os, l.touch.tape, l.touch.output, l.touch.size, fun k hk => l.touch.block k (Nat.lt_of_lt_of_le hk (Nat.le_trans r.low (Nat.le_of_lt (blt r.blk)))) (fun h1 => by have := (r.lt h1).2; omega)⟩

/-- Where a new value may lie. -/
def Fresh (n : Nat) (v v0 : Value) : Prop := ∀ b, v.ownBlock = some b → v0.ownBlock = some b ∨ n ≤ b
theorem fresh_of {n : Nat} {v v0 : Value} (h : v.ownBlock = v0.ownBlock ∨ ∃ b, v.ownBlock = some b ∧ n ≤ b) : Fresh n v v0 := fun b hb => by
  rcases h with h | ⟨c, h, hc⟩
  · exact .inl (h ▸ hb)
  · rw [h] at hb
    have : c = b := by simpa using hb
    exact .inr (by omega)
theorem own_base {w : World} {B B' e sz n : Nat} {v : Value} {xs : List Value} (h : w.ownsRow B' e sz v n xs) (hb : B ≤ B') : w.ownsRow B e sz v n xs := by
  refine ⟨h.1, ?_⟩
  rcases h.2 with h2 | ⟨g, cap, cur, hv, h1, h3⟩
  · exact .inl h2
  · exact .inr ⟨g, cap, cur, hv, Nat.le_trans hb h1, h3⟩
theorem fresh_own {w : World} {B e sz n : Nat} {v v0 : Value} {xs : List Value} (h : w.ownsRow B e sz v n xs) : Fresh B v v0 := fun _ hb => .inr (own_block h hb).1
/-! Elements of rows. -/
theorem flat_get {α : Type} (f : α → List Value) (sz : Nat) (hf : ∀ x, (f x).length = sz) : ∀ (l : List α) (n : Nat) (x : α), l[n]? = some x → ∀ j, j < sz → (l.flatMap f)[n * sz + j]? = (f x)[j]?
  | [], n, x, h, _, _ => by simp at h
  | y :: l, 0, x, h, j, hj => by
    simp only [List.getElem?_cons_zero, Option.some.injEq] at h
    subst h
    rw [List.flatMap_cons, List.getElem?_append_left (by rw [hf]; omega), Nat.zero_mul, Nat.zero_add]
  | y :: l, n + 1, x, h, j, hj => by
    have h1 := flat_get f sz hf l n x (by simpa using h) j hj
    rw [List.flatMap_cons, List.getElem?_append_right (by rw [hf, Nat.succ_mul]; omega), hf, ← h1]
    congr 1
    rw [Nat.succ_mul]; omega
theorem flat_set {α : Type} (f f' : α → List Value) (sz : Nat) (hf : ∀ x, (f x).length = sz) (x : α) (j : Nat) (u : Value) (hj : j < sz) (hx : f' x = (f x).set j u) : ∀ (l : List α) (n : Nat), l.Nodup → l[n]? = some x → (∀ y ∈ l, y ≠ x → f' y = f y) → l.flatMap f' = (l.flatMap f).set (n * sz + j) u
  | [], n, _, h, _ => by simp at h
  | y :: l, 0, hn, h, ho => by
    simp only [List.getElem?_cons_zero, Option.some.injEq] at h
    subst h
    rw [List.flatMap_cons, List.flatMap_cons, List.set_append_left _ _ (by rw [hf]; omega), hx, Nat.zero_mul, Nat.zero_add]
    congr 1
    have hy := (List.nodup_cons.1 hn).1
    rw [List.flatMap_def, List.flatMap_def, List.map_congr_left (fun z hz => ho z (by simp [hz]) (fun e => hy (e ▸ hz)))]
  | y :: l, n + 1, hn, h, ho => by
    have hxl : x ∈ l := List.mem_of_getElem? (by simpa using h)
    have hyx : y ≠ x := fun e => (List.nodup_cons.1 hn).1 (e ▸ hxl)
    rw [List.flatMap_cons, List.flatMap_cons, List.set_append_right _ _ (by rw [hf, Nat.succ_mul]; omega), hf, ho y (by simp) hyx,
      flat_set f f' sz hf x j u hj hx l n (List.nodup_cons.1 hn).2 (by simpa using h) (fun z hz => ho z (by simp [hz]))]
    congr 2
    rw [Nat.succ_mul]; omega
/-- A row's cells, and that they may be stored into. -/
theorem row_cells {α : Type} {B e sz : Nat} {w : World} {v : Value} {l : List α} {f : α → List Value} (hf : ∀ x, (f x).length = sz) (h : w.ownsRow B e sz v l.length (l.flatMap f)) {n : Nat} {x : α} (hx : l[n]? = some x) :
    ∃ g c, v = .slice (some ⟨g, 0, none⟩) l.length c ∧ (∃ cur, w.heap[g]? = some (.cells cur e (0, 0))) ∧ ∀ j, j < sz → w.cell? ⟨g, n * sz + j, none⟩ = (f x)[j]? := by
  have hj := (List.getElem?_eq_some_iff.1 hx).1
  rcases h.2 with ⟨_, h0⟩ | ⟨g, cap, cur, rfl, hb, hg, h1, h2, h3, h4⟩
  · omega
  · refine ⟨g, cap, rfl, ⟨cur, hg⟩, fun j hj7 => ?_⟩
    have hk : n * sz + j < l.length * sz := by
      have : (n + 1) * sz ≤ l.length * sz := Nat.mul_le_mul_right _ hj
      rw [Nat.succ_mul] at this
      omega
    rw [cell_of hg]
    have h5 : cur[n * sz + j]? = (l.flatMap f)[n * sz + j]? := by
      rw [← h4, List.getElem?_take_of_lt hk, Array.getElem?_toList]
    rw [h5, flat_get f sz hf l n x hx j hj7]
/-- A store into a row. -/
theorem row_set {B e sz : Nat} {w : World} {v : Value} {n : Nat} {xs : List Value} (h : w.ownsRow B e sz v n xs) {g : Nat} (hg : v.ownBlock = some g) {k : Nat} (hk : k < n * sz) (u : Value) : (w.setCell ⟨g, k, none⟩ u).ownsRow B e sz v n (xs.set k u) := by
  refine ⟨by rw [List.length_set]; exact h.1, ?_⟩
  rcases h.2 with ⟨rfl, h0⟩ | ⟨g', cap, cur, rfl, hb, hh, h1, h2, h3, h4⟩
  · simp [Value.ownBlock] at hg
  · simp [Value.ownBlock] at hg
    subst hg
    refine .inr ⟨g', cap, cur.setIfInBounds k u, rfl, hb, set_same hh k u, h1, h2, by simpa using h3, ?_⟩
    rw [← h4, Array.toList_setIfInBounds, List.take_set]
end Go.Proofs.Ytkmgbnklfnjfjaa.Ker
