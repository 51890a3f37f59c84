import Derived.Test.YtkmgbnklfnjfjaaKJ
/-! The frame of a call of the kernel: all below B, all rows that are of no type of the kernel's, and all rows of moves that are none of its own. -/
namespace Go.Proofs.Ytkmgbnklfnjfjaa.Ker
open Go.RowKit Go.Maps
open Go.ChangeMaps (setBlock)

/-- The types of the blocks that the kernel writes, but for its row of moves. -/
def ownTy (ty : TypeId) : Bool := ty == 44 || ty == 70 || ty == 74 || ty == 76 || ty == 84
/-- Block k is the row of moves of the kernel at kb. -/
def Held (kb : Nat) (w : World) (k : Nat) : Prop := ∃ c fr v, w.heap[kb]? = some (.cells c 70 fr) ∧ c[4]? = some v ∧ v.ownBlock = some k
/-- Block k may be written: it is of a type of the kernel's, or a map, or new. -/
def Lic (kb : Nat) (w : World) (k : Nat) : Prop := ∀ c ty fr, w.heap[k]? = some (.cells c ty fr) → ownTy ty = true ∨ (ty = 31 ∧ Held kb w k)
structure Ok (B kb : Nat) (w : World) (k : Nat) : Prop where
  lo : B ≤ k
  lic : Lic kb w k
  ne : k ≠ kb
structure Bel (B kb : Nat) (w w' : World) : Prop where
  os : w'.os = w.os
  tape : w'.tape = w.tape
  output : w'.output = w.output
  size : w.heap.size ≤ w'.heap.size
  block : ∀ k, k < B → w'.heap[k]? = w.heap[k]?
  off : ∀ (k : Nat) (c : Array Value) (ty : TypeId) (fr : Nat × Nat), w.heap[k]? = some (.cells c ty fr) → ownTy ty = false → (ty = 31 → ¬ Held kb w k) → w'.heap[k]? = some (.cells c ty fr)
  held : ∀ k, k < w.heap.size → Held kb w' k → Held kb w k

theorem Held.keep {kb : Nat} {w w' : World} {k : Nat} (h : Held kb w' k) (hk : w'.heap[kb]? = w.heap[kb]?) : Held kb w k := by
  obtain ⟨c, fr, v, h1, h2⟩ := h
  exact ⟨c, fr, v, hk ▸ h1, h2⟩
theorem Bel.refl (B kb : Nat) (w : World) : Bel B kb w w := ⟨rfl, rfl, rfl, Nat.le_refl _, fun _ _ => rfl, fun _ _ _ _ h _ _ => h, fun _ _ h => h⟩
theorem Bel.trans {B kb : Nat} {a b c : World} (h : Bel B kb a b) (k : Bel B kb b c) : Bel B kb a c :=
  ⟨k.os.trans h.os, k.tape.trans h.tape, k.output.trans h.output, Nat.le_trans h.size k.size, fun i hi => (k.block i hi).trans (h.block i hi),
    fun i c ty fr hi ht hm => k.off i c ty fr (h.off i c ty fr hi ht hm) ht (fun h31 hh => hm h31 (h.held i (blt hi) hh)),
    fun i hi hh => h.held i hi (k.held i (Nat.lt_of_lt_of_le hi h.size) hh)⟩
theorem Bel.low {B kb : Nat} {w w' : World} (h : Bel B kb w w') : Below B w w' := ⟨h.os, h.tape, h.output, h.size, h.block⟩
theorem _root_.Go.RowKit.Below.bel {B kb : Nat} {w w' : World} (h : Below w.heap.size w w') (hb : B ≤ w.heap.size) (hk : kb < w.heap.size) : Bel B kb w w' :=
  ⟨h.os, h.tape, h.output, h.size, fun k hk => h.block k (Nat.lt_of_lt_of_le hk hb), fun k c ty fr hk _ _ => (h.block k (blt hk)).trans hk, fun _ _ hh => hh.keep (h.block _ hk)⟩
theorem Bel.drew {B kb : Nat} {a w : World} (h : Bel B kb a w) : Bel B kb a w.drew := ⟨h.os, h.tape, h.output, h.size, h.block, h.off, h.held⟩
theorem bel_drewN {B kb : Nat} {a w : World} (h : Bel B kb a w) (n : Nat) : Bel B kb a (w.drewN n) := ⟨h.os, h.tape, h.output, h.size, h.block, h.off, h.held⟩
theorem Bel.alloc {B kb : Nat} {a w : World} (h : Bel B kb a w) (hB : B ≤ w.heap.size) (hk : kb < w.heap.size) (o : Obj) : Bel B kb a (w.alloc o) :=
  h.trans (Go.RowKit.Below.bel ((Below.refl w.heap.size w).alloc (Nat.le_refl _) o) hB hk)
theorem Touch.bel {B kb : Nat} {w w' : World} {S : Nat → Prop} (h : Touch w w' S) (hb : B ≤ w.heap.size) (hs : ∀ k, S k → Ok B kb w k) (hk : kb < w.heap.size) : Bel B kb w w' :=
  ⟨h.os, h.tape, h.output, h.size, fun k hk => h.block k (Nat.lt_of_lt_of_le hk hb) (fun h1 => by have := (hs k h1).lo; omega),
    fun k c ty fr hk ht hm => (h.block k (blt hk) (fun h1 => by
      rcases (hs k h1).lic c ty fr hk with h2 | ⟨h2, h3⟩
      · rw [ht] at h2; cases h2
      · exact hm h2 h3)).trans hk,
    fun _ _ hh => hh.keep (h.block _ hk (fun h1 => (hs _ h1).ne rfl))⟩
/-- The kernel's own block is written, and a row that it has. -/
theorem Touch.belK {B kb : Nat} {w w' : World} {S : Nat → Prop} (h : Touch w w' S) (hb : B ≤ w.heap.size) (hs : ∀ k, S k → k = kb ∨ Ok B kb w k) (hkb : B ≤ kb) {c c' : Array Value} {fr fr' : Nat × Nat} (hw : w.heap[kb]? = some (.cells c 70 fr)) (hw' : w'.heap[kb]? = some (.cells c' 70 fr'))
    (hv : ∀ v' k, c'[4]? = some v' → v'.ownBlock = some k → w.heap.size ≤ k ∨ ∃ v, c[4]? = some v ∧ v.ownBlock = some k) : Bel B kb w w' :=
  ⟨h.os, h.tape, h.output, h.size, fun k hk => h.block k (Nat.lt_of_lt_of_le hk hb) (fun h1 => by
      rcases hs k h1 with h2 | h2
      · omega
      · have := h2.lo
        omega),
    fun k c ty fr hk ht hm => (h.block k (blt hk) (fun h1 => by
      rcases hs k h1 with h0 | h0
      · subst h0
        rw [hw] at hk
        cases hk
        cases ht
      · rcases h0.lic c ty fr hk with h2 | ⟨h2, h3⟩
        · rw [ht] at h2; cases h2
        · exact hm h2 h3)).trans hk,
    fun k hk hh => by
      obtain ⟨c0, fr0, v0, h1, h2, h3⟩ := hh
      rw [hw'] at h1
      cases h1
      rcases hv v0 k h2 h3 with h4 | ⟨v, h4, h5⟩
      · omega
      · exact ⟨c, fr, v, hw, h4, h5⟩⟩
theorem Held.setCell {kb : Nat} {w : World} {p : Addr} {u : Value} (hp : p.block ≠ kb) (k : Nat) : Held kb (w.setCell p u) k ↔ Held kb w k := by
  have e := Below.heap_setCell w p u kb (Ne.symm hp)
  constructor
  · exact fun h => h.keep e
  · exact fun h => h.keep e.symm
theorem Bel.setCell {B kb : Nat} {a w : World} (h : Bel B kb a w) {p : Addr} (hp : Ok B kb w p.block) (u : Value) : Bel B kb a (w.setCell p u) := by
  refine h.trans ⟨rfl, rfl, rfl, by simp [World.setCell], fun k hk => Below.heap_setCell _ _ _ _ (by have := hp.lo; omega), fun k c ty fr hk ht hm => ?_, fun k _ hh => (Held.setCell hp.ne k).1 hh⟩
  by_cases he : k = p.block
  · subst he
    rcases hp.lic c ty fr hk with h2 | ⟨h2, h3⟩
    · rw [ht] at h2
      cases h2
    · exact absurd h3 (hm h2)
  · exact (Below.heap_setCell _ _ _ _ he).trans hk
theorem Ok.drewN {B kb : Nat} {w : World} {k : Nat} (h : Ok B kb w k) (n : Nat) : Ok B kb (w.drewN n) k := ⟨h.lo, h.lic, h.ne⟩
theorem Ok.drew {B kb : Nat} {w : World} {k : Nat} (h : Ok B kb w k) : Ok B kb w.drew k := ⟨h.lo, h.lic, h.ne⟩
theorem Ok.set {B kb : Nat} {w : World} {k : Nat} (h : Ok B kb w k) {p : Addr} {u : Value} (hp : p.block = k := by rfl) : Ok B kb (w.setCell p u) k := by
  refine ⟨h.lo, fun c ty fr hk => ?_, h.ne⟩
  have hs := Held.setCell (kb := kb) (w := w) (p := p) (u := u) (by rw [hp]; exact h.ne) k
  rw [hs]
  subst hp
  simp only [World.setCell, Array.getElem?_modify, if_true] at hk
  obtain ⟨o, ho, hk⟩ := Option.map_eq_some_iff.1 hk
  cases o with
  | cells c0 t0 f0 =>
    simp only [Obj.cells.injEq] at hk
    obtain ⟨_, rfl, rfl⟩ := hk
    exact h.lic _ _ _ ho
  | _ => cases hk
theorem lic_of {kb : Nat} {w : World} {k : Nat} {c : Array Value} {ty : TypeId} {fr : Nat × Nat} (h : w.heap[k]? = some (.cells c ty fr)) (ht : ownTy ty = true) : Lic kb w k := by
  intro c' ty' fr' h'
  rw [h] at h'
  cases h'
  exact .inl ht
theorem lic_map {kb : Nat} {w : World} {k : Nat} {kvs : List (Int × Nat)} (h : mapAt w k kvs) : Lic kb w k := by
  intro c' ty' fr' h'
  obtain ⟨_, _, h, _⟩ := h
  rw [h] at h'
  cases h'
section
variable {B kb : Nat} {g : G} {a : A} {w : World}
theorem KRep.klt (h : KRep B kb g a w) : kb < w.heap.size := blt h.ker
theorem KRep.ne_map (h : KRep B kb g a w) {k : Nat} {kvs : List (Int × Nat)} (hm : mapAt w k kvs) : k ≠ kb := by
  rintro rfl
  obtain ⟨_, _, h1, _⟩ := hm
  rw [h.ker] at h1
  cases h1
theorem KRep.ne_cells (h : KRep B kb g a w) {k : Nat} {c : Array Value} {ty : TypeId} {fr : Nat × Nat} (hm : w.heap[k]? = some (.cells c ty fr)) (ht : ty ≠ 70) : k ≠ kb := by
  rintro rfl
  rw [h.ker] at hm
  cases hm
  exact ht rfl
theorem KRep.okTM (h : KRep B kb g a w) : Ok B kb w g.tm := ⟨h.low.2.1, lic_map h.tmap, h.ne_map h.tmap⟩
theorem KRep.okPM (h : KRep B kb g a w) : Ok B kb w g.pm := ⟨h.low.2.2.2.1, lic_map h.pmap, h.ne_map h.pmap⟩
theorem KRep.okT (h : KRep B kb g a w) {i : Int} (hi : i ∈ a.tids) : Ok B kb w (g.tb i) := ⟨h.low.2.2.2.2.1 i hi, lic_of (h.task i hi) rfl, h.ne_cells (h.task i hi) (by decide)⟩
theorem KRep.okP (h : KRep B kb g a w) {i : Int} (hi : i ∈ a.pids) : Ok B kb w (g.pb i) := ⟨h.low.2.2.2.2.2.2 i hi, lic_of (h.pack i hi) rfl, h.ne_cells (h.pack i hi) (by decide)⟩
theorem KRep.okH (h : KRep B kb g a w) {i : Int} (hi : a.owner i) : Ok B kb w (hblk g i) := ⟨h.holder_low hi, lic_of (h.holder hi) (by unfold hty; split <;> rfl), h.ne_cells (h.holder hi) (by unfold hty; split <;> decide)⟩
theorem KRep.okR (h : KRep B kb g a w) {i : Int} (hi : a.owner i) {b : Nat} (hb : (g.qv i).ownBlock = some b) : Ok B kb w b := by
  obtain ⟨h1, c, h2⟩ := own_block (h.row i hi) hb
  exact ⟨h1, lic_of h2 rfl, h.ne_cells h2 (by decide)⟩
theorem KRep.held (h : KRep B kb g a w) {b : Nat} (hb : (g.qv 0).ownBlock = some b) : Held kb w b := ⟨_, _, _, h.ker, rfl, hb⟩
theorem KRep.okM (h : KRep B kb g a w) {b : Nat} (hb : (g.qv 0).ownBlock = some b) : Ok B kb w b := by
  obtain ⟨h1, c, h2⟩ := own_block h.mrow hb
  refine ⟨h1, fun c' ty' fr' h' => ?_, h.ne_cells h2 (by decide)⟩
  rw [h2] at h'
  cases h'
  exact .inr ⟨rfl, h.held hb⟩
/-- The kernel's own block is written in its numbers. -/
theorem KRep.belKer {w' : World} (h : KRep B kb g a w) (ht : Touch w w' (fun k => k = kb)) {c' : Array Value} {fr' : Nat × Nat} (hb : w'.heap[kb]? = some (.cells c' 70 fr')) (h4 : c'[4]? = some (g.qv 0)) : Bel B kb w w' :=
  ht.belK (Nat.le_of_lt (Nat.lt_of_le_of_lt h.low.1 h.klt)) (fun _ hk => .inl hk) h.low.1 h.ker hb (fun v' k h1 h2 => by
    rw [h4] at h1
    cases h1
    exact .inr ⟨_, rfl, h2⟩)
end
end Go.Proofs.Ytkmgbnklfnjfjaa.Ker
