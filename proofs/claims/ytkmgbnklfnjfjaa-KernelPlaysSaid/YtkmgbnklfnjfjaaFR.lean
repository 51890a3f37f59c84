import Derived.Test.YtkmgbnklfnjfjaaKJ
/-! The frame of a call of the kernel: all below B, and all rows that are of no type of the kernel's. -/
namespace Go.Proofs.Ytkmgbnklfnjfjaa.Ker
open Go.RowKit Go.Maps
open Go.ChangeMaps (setBlock)

/-- The types of the blocks that the kernel writes. -/
def ownTy (ty : TypeId) : Bool := ty == 31 || ty == 44 || ty == 70 || ty == 74 || ty == 76 || ty == 84
/-- Block k may be written: it is of a type of the kernel's, or a map, or new. -/
def Lic (w : World) (k : Nat) : Prop := ∀ c ty fr, w.heap[k]? = some (.cells c ty fr) → ownTy ty = true
structure Ok (B : Nat) (w : World) (k : Nat) : Prop where
  lo : B ≤ k
  lic : Lic w k
structure Bel (B : Nat) (w w' : World) : Prop where
  os : w'.os = w.os
  tape : w'.tape = w.tape
  output : w'.output = w.output
  size : w.heap.size ≤ w'.heap.size
  block : ∀ k, k < B → w'.heap[k]? = w.heap[k]?
  off : ∀ (k : Nat) (c : Array Value) (ty : TypeId) (fr : Nat × Nat), w.heap[k]? = some (.cells c ty fr) → ownTy ty = false → w'.heap[k]? = some (.cells c ty fr)

theorem Bel.refl (B : Nat) (w : World) : Bel B w w := ⟨rfl, rfl, rfl, Nat.le_refl _, fun _ _ => rfl, fun _ _ _ _ h _ => h⟩
theorem Bel.trans {B : Nat} {a b c : World} (h : Bel B a b) (k : Bel B b c) : Bel B a c :=
  ⟨k.os.trans h.os, k.tape.trans h.tape, k.output.trans h.output, Nat.le_trans h.size k.size, fun i hi => (k.block i hi).trans (h.block i hi), fun i c ty fr hi ht => k.off i c ty fr (h.off i c ty fr hi ht) ht⟩
theorem Bel.low {B : Nat} {w w' : World} (h : Bel B w w') : Below B w w' := ⟨h.os, h.tape, h.output, h.size, h.block⟩
theorem _root_.Go.RowKit.Below.bel {B : Nat} {w w' : World} (h : Below w.heap.size w w') (hb : B ≤ w.heap.size) : Bel B w w' :=
  ⟨h.os, h.tape, h.output, h.size, fun k hk => h.block k (Nat.lt_of_lt_of_le hk hb), fun k c ty fr hk _ => (h.block k (blt hk)).trans hk⟩
theorem Bel.drew {B : Nat} {a w : World} (h : Bel B a w) : Bel B a w.drew := ⟨h.os, h.tape, h.output, h.size, h.block, h.off⟩
theorem bel_drewN {B : Nat} {a w : World} (h : Bel B a w) (n : Nat) : Bel B a (w.drewN n) := ⟨h.os, h.tape, h.output, h.size, h.block, h.off⟩
theorem Bel.alloc {B : Nat} {a w : World} (h : Bel B a w) (hB : B ≤ w.heap.size) (o : Obj) : Bel B a (w.alloc o) :=
  h.trans (Go.RowKit.Below.bel ((Below.refl w.heap.size w).alloc (Nat.le_refl _) o) hB)
theorem Touch.bel {B : Nat} {w w' : World} {S : Nat → Prop} (h : Touch w w' S) (hb : B ≤ w.heap.size) (hs : ∀ k, S k → Ok B w k) : Bel B w w' :=
  ⟨h.os, h.tape, h.output, h.size, fun k hk => h.block k (Nat.lt_of_lt_of_le hk hb) (fun h1 => by have := (hs k h1).lo; omega),
    fun k c ty fr hk ht => (h.block k (blt hk) (fun h1 => by have := (hs k h1).lic c ty fr hk; rw [ht] at this; cases this)).trans hk⟩
theorem Bel.setCell {B : Nat} {a w : World} (h : Bel B a w) {p : Addr} (hp : Ok B w p.block) (u : Value) : Bel B a (w.setCell p u) := by
  refine h.trans ⟨rfl, rfl, rfl, by simp [World.setCell], fun k hk => Below.heap_setCell _ _ _ _ (by have := hp.lo; omega), fun k c ty fr hk ht => ?_⟩
  by_cases he : k = p.block
  · subst he
    have := hp.lic c ty fr hk
    rw [ht] at this
    cases this
  · exact (Below.heap_setCell _ _ _ _ he).trans hk
theorem Ok.drewN {B : Nat} {w : World} {k : Nat} (h : Ok B w k) (n : Nat) : Ok B (w.drewN n) k := ⟨h.lo, h.lic⟩
theorem Ok.drew {B : Nat} {w : World} {k : Nat} (h : Ok B w k) : Ok B w.drew k := ⟨h.lo, h.lic⟩
theorem Ok.set {B : Nat} {w : World} {k : Nat} (h : Ok B w k) {p : Addr} {u : Value} : Ok B (w.setCell p u) k := by
  refine ⟨h.lo, fun c ty fr hk => ?_⟩
  simp only [World.setCell, Array.getElem?_modify] at hk
  split at hk
  · obtain ⟨o, ho, hk⟩ := Option.map_eq_some_iff.1 hk
    cases o with
    | cells c0 t0 f0 =>
      simp only [Obj.cells.injEq] at hk
      obtain ⟨_, rfl, rfl⟩ := hk
      exact h.lic _ _ _ ho
    | _ => cases hk
  · exact h.lic _ _ _ hk
theorem lic_of {w : World} {k : Nat} {c : Array Value} {ty : TypeId} {fr : Nat × Nat} (h : w.heap[k]? = some (.cells c ty fr)) (ht : ownTy ty = true) : Lic w k := by
  intro c' ty' fr' h'
  rw [h] at h'
  cases h'
  exact ht
theorem lic_map {w : World} {k : Nat} {kvs : List (Int × Nat)} (h : mapAt w k kvs) : Lic w k := by
  intro c' ty' fr' h'
  obtain ⟨_, _, h, _⟩ := h
  rw [h] at h'
  cases h'
section
variable {B kb : Nat} {g : G} {a : A} {w : World}
theorem KRep.okK (h : KRep B kb g a w) : Ok B w kb := ⟨h.low.1, lic_of h.ker rfl⟩
theorem KRep.okTM (h : KRep B kb g a w) : Ok B w g.tm := ⟨h.low.2.1, lic_map h.tmap⟩
theorem KRep.okPM (h : KRep B kb g a w) : Ok B w g.pm := ⟨h.low.2.2.2.1, lic_map h.pmap⟩
theorem KRep.okT (h : KRep B kb g a w) {i : Int} (hi : i ∈ a.tids) : Ok B w (g.tb i) := ⟨h.low.2.2.2.2.1 i hi, lic_of (h.task i hi) rfl⟩
theorem KRep.okP (h : KRep B kb g a w) {i : Int} (hi : i ∈ a.pids) : Ok B w (g.pb i) := ⟨h.low.2.2.2.2.2.2 i hi, lic_of (h.pack i hi) rfl⟩
theorem KRep.okH (h : KRep B kb g a w) {i : Int} (hi : a.owner i) : Ok B w (hblk g i) := ⟨h.holder_low hi, lic_of (h.holder hi) (by unfold hty; split <;> rfl)⟩
theorem KRep.okR (h : KRep B kb g a w) {i : Int} (hi : a.owner i) {b : Nat} (hb : (g.qv i).ownBlock = some b) : Ok B w b := by
  obtain ⟨h1, c, h2⟩ := own_block (h.row i hi) hb
  exact ⟨h1, lic_of h2 rfl⟩
theorem KRep.okM (h : KRep B kb g a w) {b : Nat} (hb : (g.qv 0).ownBlock = some b) : Ok B w b := by
  obtain ⟨h1, c, h2⟩ := own_block h.mrow hb
  exact ⟨h1, lic_of h2 rfl⟩
end
end Go.Proofs.Ytkmgbnklfnjfjaa.Ker
