import Derived.Test.YtkdnkjjnmadhgaaDO
import Derived.Test.YtkdnkjjnmadhgaaDU
set_option linter.unusedVariables false
set_option linter.unusedSimpArgs false
/-! A bus with one device is made. -/
namespace Go.Proofs.Ytkdnkjjnmadhgaa.Dev
open Go.RowKit Go.Maps Go.Lib

theorem infoB84 : (Try.prog.info? 84).map (fun i => (i.zero, i.size, i.bytes)) = some (some .nilIface, 1, 16) := by kernel_rfl
/-- The one device. -/
def OneCfg (w : World) (g off : Nat) (k n : Int) : Prop := ∀ j u, (#[.int .i64 k, .int .i64 n, nilSl, nilSl, nilSl, nilSl] : Array Value)[j]? = some u → w.cell? ⟨g, off + j, none⟩ = some u

set_option maxHeartbeats 2000000 in
set_option maxRecDepth 100000 in
/-- A bus that cannot be. -/
theorem new_bad (w : World) (g off : Nat) (k n : Int) (hl : OneCfg w g off k n) (hbuild : ∀ W', Below w.heap.size w W' → Calls Try.prog 35 #[cfg k n] W' fun e w'' => e = .returned .nilIface ∧ Below W'.heap.size W' w'') :
    Calls Try.prog 23 #[.slice (some ⟨g, off, none⟩) 1 1] w fun e w' => e = .returned (.tuple #[.pointer none, .int .i64 1]) ∧ Below w.heap.size w w' := by
  have l0 : w.cell? ⟨g, off, none⟩ = some (.int .i64 k) := hl 0 _ rfl
  have l1 : w.cell? ⟨g, off + 1, none⟩ = some (.int .i64 n) := hl 1 _ rfl
  have l2 : w.cell? ⟨g, off + 2, none⟩ = some nilSl := hl 2 _ rfl
  have l3 : w.cell? ⟨g, off + 3, none⟩ = some nilSl := hl 3 _ rfl
  have l4 : w.cell? ⟨g, off + 4, none⟩ = some nilSl := hl 4 _ rfl
  have l5 : w.cell? ⟨g, off + 5, none⟩ = some nilSl := hl 5 _ rfl
  have hg := lt_of_cell l0
  have HBUILD := Lib.hid hbuild
  clear hl hbuild
  go_enter Try.func23, Try.ntmps23
  go_wp2_with fail
  go_loopw [15] (fun i wr => i = .int .i64 0 ∧ Below w.heap.size w wr) (fun _ _ => 0)
  case atStart => exact ⟨rfl, (Below.refl _ _).alloc (Nat.le_refl _) _⟩
  case round =>
    obtain ⟨rfl, hb⟩ := hrel
    have q0 := (hb.cell hg).trans l0
    have q1 := (hb.cell (p := ⟨g, off + 1, none⟩) hg).trans l1
    have q2 := (hb.cell (p := ⟨g, off + 2, none⟩) hg).trans l2
    have q3 := (hb.cell (p := ⟨g, off + 3, none⟩) hg).trans l3
    have q4 := (hb.cell (p := ⟨g, off + 4, none⟩) hg).trans l4
    have q5 := (hb.cell (p := ⟨g, off + 5, none⟩) hg).trans l5
    have hb1 : Below w.heap.size w (wr.alloc (.cells #[.int .i64 k, .int .i64 n, nilSl, nilSl, nilSl, nilSl] 54)) := hb.alloc hb.size _
    have C35 := Lib.hid (HBUILD.out _ hb1)
    have HB1 := Lib.hid hb1
    clear hb hb1
    go_wp2_with (go_at_call 35; (refine (C35.out).mono ?_); rintro e w' ⟨rfl, hb'⟩; have HB' := Lib.hid hb'; clear hb')
    go_ret2
    exact ⟨rfl, HB1.out.trans (HB'.out.mono HB1.out.size)⟩

theorem new_reads (w : World) (v : Value) (t : TypeId) : Reads (w.alloc (.cells #[v] t)) (w.heap.size + 1) 1 (some ⟨w.heap.size, 0, none⟩) 1 [v] :=
  ⟨rfl, fun _ => ⟨_, rfl, Nat.lt_succ_self _, fun i u hu => by rw [Addr.add_lit, Nat.zero_add, cell_of (alloc_new w _)]; simpa using hu⟩⟩
theorem one_iface (t : TypeId) (v : Value) : ∀ u ∈ [Value.iface t v], u.oneCell' = true := fun u hu => by simp at hu; subst hu; rfl
/-- The devices while they are made: none yet, or the one. -/
def MakingB (w wr : World) (j : Nat) (R : World → Value → Prop) : Prop :=
  (j = 0 ∧ wr.heap[w.heap.size]? = some (.cells #[nilSl, .int .i64 0, .int .i64 0, .int .i64 0, nilSl] 80 (0, 0)) ∧ Below w.heap.size w wr) ∨
  (j = 1 ∧ ∃ vd v, BRep w.heap.size wr w.heap.size ⟨vd, [v], 0, 0, 0, (none, 0, 0), []⟩ ∧ R wr v ∧ Below w.heap.size w wr)
set_option maxHeartbeats 2000000 in
set_option maxRecDepth 100000 in
/-- A bus with one device. R is what is known of the device; it bears what is done to rows of devices and to the bus. -/
theorem new_one (w : World) (g off : Nat) (k n : Int) (hl : OneCfg w g off k n) (ty : Nat) (R : World → Value → Prop)
    (hbuild : ∀ W', Below w.heap.size w W' → Calls Try.prog 35 #[cfg k n] W' fun e w'' => ∃ d, e = .returned (.iface ty (ptr d)) ∧ Below W'.heap.size W' w'' ∧ R w'' (.iface ty (ptr d)))
    (hR : ∀ (W' W'' : World) (v : Value) (cur : Array Value), R W' v → W'.heap[w.heap.size]? = some (.cells cur 80 (0, 0)) → (∀ i, i < W'.heap.size → i ≠ w.heap.size → W''.heap[i]? = W'.heap[i]?) → R W'' v) :
    Calls Try.prog 23 #[.slice (some ⟨g, off, none⟩) 1 1] w fun e w' => e = .returned (.tuple #[ptr w.heap.size, .int .i64 0]) ∧ ∃ vd v, BRep w.heap.size w' w.heap.size ⟨vd, [v], 0, 0, 0, (none, 0, 0), []⟩ ∧ R w' v ∧ Below w.heap.size w w' := by
  have l0 : w.cell? ⟨g, off, none⟩ = some (.int .i64 k) := hl 0 _ rfl
  have l1 : w.cell? ⟨g, off + 1, none⟩ = some (.int .i64 n) := hl 1 _ rfl
  have l2 : w.cell? ⟨g, off + 2, none⟩ = some nilSl := hl 2 _ rfl
  have l3 : w.cell? ⟨g, off + 3, none⟩ = some nilSl := hl 3 _ rfl
  have l4 : w.cell? ⟨g, off + 4, none⟩ = some nilSl := hl 4 _ rfl
  have l5 : w.cell? ⟨g, off + 5, none⟩ = some nilSl := hl 5 _ rfl
  have hg := lt_of_cell l0
  have HBUILD := Lib.hid hbuild
  have HRK := Lib.hid hR
  clear hl hbuild hR
  go_enter Try.func23, Try.ntmps23
  go_wp2_with fail
  obtain ⟨i0, hi, hz0, hz1, hz2⟩ := info_parts infoB84
  go_loopw [15] (fun i wr => ∃ j : Nat, i = .int .i64 j ∧ MakingB w wr j R) (fun i _ => 1 - (intOf i).toNat)
  case atStart => exact ⟨0, rfl, .inl ⟨rfl, alloc_new _ _, (Below.refl _ _).alloc (Nat.le_refl _) _⟩⟩
  case round =>
    obtain ⟨j, rfl, hj⟩ := hrel
    rcases hj with ⟨rfl, hc, hb⟩ | ⟨rfl, vd, v, hbr, hr, hb⟩
    · as_aux_lemma =>
        have q0 := (hb.cell hg).trans l0
        have q1 := (hb.cell (p := ⟨g, off + 1, none⟩) hg).trans l1
        have q2 := (hb.cell (p := ⟨g, off + 2, none⟩) hg).trans l2
        have q3 := (hb.cell (p := ⟨g, off + 3, none⟩) hg).trans l3
        have q4 := (hb.cell (p := ⟨g, off + 4, none⟩) hg).trans l4
        have q5 := (hb.cell (p := ⟨g, off + 5, none⟩) hg).trans l5
        have hb1 : Below w.heap.size w (wr.alloc (.cells #[.int .i64 k, .int .i64 n, nilSl, nilSl, nilSl, nilSl] 54)) := hb.alloc hb.size _
        have C35 := Lib.hid (HBUILD.out _ hb1)
        have HB1 := Lib.hid hb1
        have HC := Lib.hid hc
        clear hb hb1 hc l0 l1 l2 l3 l4 l5
        go_wp2_with (first | (go_at_call 35; (refine (C35.out).mono ?_); rintro e w' ⟨d, rfl, hb', hr'⟩; have hc' := (hb'.block _ (by rw [World.size_alloc]; exact Nat.lt_succ_of_lt (blt HC.out))).trans (alloc_old HC.out _); have y0 : w'.cell? ⟨w.heap.size, 0, none⟩ = some nilSl := (cell_of hc' 0).trans rfl; have HC' := Lib.hid hc'; have HB' := Lib.hid hb'; have HR' := Lib.hid hr'; clear hb' hr' hc') |
          (at_builtin; refine wpList_append_any _ rfl _ _ 77 rfl w.heap.size 84 i0 .nilIface 1 16 Try.underlying77 hi hz0 hz1 hz2 rfl (by decide) nilSl 0 [] rfl owns_none _ (some ⟨_, 0, none⟩) 1 1 [.iface ty (ptr _)] rfl (new_reads _ _ _) (one_iface _ _) (by unfold maxLen; omega) (by omega) (by have h1 := HB1.out.size; have h2 := HB'.out.size; simp only [World.size_alloc] at h1 h2 ⊢; omega) ?_; intro v' w3 hrow3 hgrow3 hloc3; (obtain ⟨A', c', rfl⟩ := own_form hrow3); have hd3 := (hgrow3.block _ (blt (alloc_old HC'.out _)) (fun e => by simp [Value.ownBlock] at e)).trans (alloc_old HC'.out _); have y1 : w3.cell? ⟨w.heap.size, 0, none⟩ = some nilSl := (cell_of hd3 0).trans rfl; have y2 : w3.frozen? ⟨w.heap.size, 0, none⟩ = false := free_of hd3 0; have HD3 := Lib.hid hd3; have HROW3 := Lib.hid hrow3; have HGROW3 := Lib.hid hgrow3; clear hloc3 hrow3 hgrow3 hd3))
        case roundEnd =>
          have hw : ∀ i, i < w'.heap.size → i ≠ w.heap.size → (w3.setCell ⟨w.heap.size, 0, none⟩ (.slice A' 1 c')).heap[i]? = w'.heap[i]? := fun i hi hne => (Below.heap_setCell w3 _ _ _ hne).trans ((HGROW3.out.block _ (by rw [World.size_alloc]; omega) (fun e => by simp [Value.ownBlock] at e)).trans (Below.heap_alloc w' _ i hi))
          refine ⟨⟨1, rfl, .inr ⟨rfl, (A', 1, c'), .iface ty (ptr d), ⟨Nat.le_refl _, ?_, ?_, RowO.none_ _⟩, HRK.out _ _ _ _ HR'.out HC'.out hw, ?_⟩⟩, by simp [intOf]⟩
          · have := set_same HD3.out 0 (.slice A' 1 c')
            simpa using this
          · refine own_keep HROW3.out fun k hk _ => Below.heap_setCell w3 _ _ _ (fun e => ?_)
            have e : k = w.heap.size := e
            subst e
            exact own_ty HROW3.out HD3.out (by decide) hk
          · have h2 := HB1.out.trans (HB'.out.mono HB1.out.size)
            refine Below.setCell (B := w.heap.size) (p := ⟨w.heap.size, 0, none⟩) ?_ (Nat.le_refl _) _
            exact (h2.alloc h2.size _).grown HGROW3.out (by rw [World.size_alloc]; have := h2.size; omega) (fun k hk => by simp [Value.ownBlock] at hk)
    · as_aux_lemma =>
        have HBR := Lib.hid hbr
        have HR' := Lib.hid hr
        have HB := Lib.hid hb
        clear hbr hr hb
        go_wp2_with fail
        go_ret2
        exact ⟨rfl, vd, v, HBR.out, HR'.out, HB.out⟩
end Go.Proofs.Ytkdnkjjnmadhgaa.Dev
