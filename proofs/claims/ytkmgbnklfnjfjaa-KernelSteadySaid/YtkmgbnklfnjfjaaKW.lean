import Derived.Test.YtkmgbnklfnjfjaaKV
import Derived.Laws.ResultCell
import Derived.Laws.Rows
/-! Contracts: Packet, Queue. -/
namespace Go.Proofs.Ytkmgbnklfnjfjaa.Ker
open Go.RowKit Go.Maps
open Go.ChangeMaps (setBlock)

set_option maxHeartbeats 1000000 in
set_option maxRecDepth 100000 in
theorem queue_none (B kb : Nat) (g : G) (a : A) (w : World) (h : KRep B kb g a w) (i : Int) (hi : ¬ a.owner i) :
    Calls Try.prog 21 #[ptr kb, .int .i64 i] w fun e w' => e = .returned (.tuple #[.slice none 0 0, .int .i64 190]) ∧ w' = w := by
  have C1 := Lib.hid (ready_made B kb g a w h)
  have C2 := Lib.hid (row_none B kb g a w h i hi)
  clear h hi
  go_enter Try.func21, Try.ntmps21
  go_wp2_with (first | (go_at_call 29; (with_reducible refine C1.out.mono ?_); rintro e w' ⟨rfl, rfl⟩) | (go_at_call 31; (with_reducible refine C2.out.mono ?_); rintro e w' ⟨rfl, rfl⟩))
  go_ret2
  exact ⟨rfl, rfl⟩

set_option maxHeartbeats 1000000 in
set_option maxRecDepth 100000 in
theorem queue_some (B kb : Nat) (g : G) (a : A) (w : World) (h : KRep B kb g a w) (i : Int) (hi : a.owner i) (hn : (a.q i).length ≤ 100000) (hin : ∀ p ∈ a.q i, p ∈ a.pids) :
    Calls Try.prog 21 #[ptr kb, .int .i64 i] w fun e w' => ∃ v', e = .returned (.tuple #[v', .int .i64 0]) ∧ Below w.heap.size w w' ∧ w'.ownsRow w.heap.size 3 1 v' (a.q i).length ((a.q i).map fun p => .int .i64 p) := by
  have C1 := Lib.hid (ready_made B kb g a w h)
  have C2 := Lib.hid (KRep.rowAny B kb g a w h i hi)
  have c3 : Calls Try.prog 32 #[.pointer (some ⟨hblk g i, hoff i, none⟩), .func (.func 33) #[] #[]] w fun e w' => ∃ v', e = .returned v' ∧ Below w.heap.size w w' ∧ w'.ownsRow w.heap.size 3 1 v' (a.q i).length ((a.q i).map fun p => .int .i64 p) := by
    have hq : w.cell? ⟨hblk g i, hoff i, none⟩ = some (g.qv i) := by rw [cell_of (h.holder hi)]; exact hcells_get a i _
    have hrow := h.row i hi
    have := ids_any w B (hblk g i) (hoff i) (g.qv i) ((a.q i).map g.pb) (fun b => ((w.cell? ⟨b, 0, none⟩).map intOf).getD 0) hq (by simpa [Function.comp_def] using hrow) (by simpa using hn) (by
      intro x hx
      obtain ⟨p, hp, rfl⟩ := List.mem_map.1 hx
      rw [h.p0 (hin p hp)]
      rfl)
    refine this.mono ?_
    rintro e w' ⟨v', rfl, hb, ho⟩
    refine ⟨v', rfl, hb, ?_⟩
    rw [List.length_map, List.map_map] at ho
    have e1 : (a.q i).map ((fun b => Value.int .i64 (((w.cell? ⟨b, 0, none⟩).map intOf).getD 0)) ∘ g.pb) = (a.q i).map fun p => .int .i64 p := by
      apply List.map_congr_left
      intro p hp
      simp only [Function.comp]
      rw [h.p0 (hin p hp)]
      rfl
    rw [e1] at ho
    exact ho
  have C3 := Lib.hid c3
  clear h hi hn hin c3
  go_enter Try.func21, Try.ntmps21
  go_wp2_with (first | (go_at_call 29; (with_reducible refine C1.out.mono ?_); rintro e w' ⟨rfl, rfl⟩) | (go_at_call 31; (with_reducible refine C2.out.mono ?_); rintro e w' ⟨rfl, rfl⟩) | (go_at_call 32; (with_reducible refine C3.out.mono ?_); rintro e w' ⟨v', rfl, hb, ho⟩; have HB := Lib.hid hb; have HO := Lib.hid ho; clear hb ho))
  go_ret2
  exact ⟨_, rfl, HB.out, HO.out⟩

theorem res20 (w : World) (b : Nat) (cs : Array Value) (er : Value) (tmps : Array Value) (hb : w.heap[b]? = some (.cells cs 44 (0, 0))) (hs : cs.size = 7) (h4 : tmps.getD 4 undef = ptr b) (h5 : tmps.getD 5 undef = er) :
    (results Try.f20 tmps).run Try.prog w = .ok (.tuple #[.agg cs, er]) w := by
  rw [results_cell_tmp (p := 4) (u := 5) (ty := 44) rfl, h4, h5]
  have : (asAddr (ptr b)).run Try.prog w = .ok ⟨b, 0, none⟩ w := rfl
  rw [this]
  simp only [Result.andThen]
  rw [run_loadVar_row w b 44 44 cs (0, 0) _ hb Try.underlying44 rfl (by rw [info44, hs])]
def pagg (i : Int) (p : Pk) : Value := .agg #[.int .i64 i, .int .i64 p.ty, .int .i64 p.res, .int .i64 p.own, .int .i64 p.at_, .int .i64 p.frm, .int .i64 p.wth]
set_option maxHeartbeats 1000000 in
set_option maxRecDepth 100000 in
theorem getp_none (B kb : Nat) (g : G) (a : A) (w : World) (h : KRep B kb g a w) (i : Int) (hi : i ∉ a.pids) :
    Calls Try.prog 20 #[ptr kb, .int .i64 i] w fun e w' => e = .returned (.tuple #[pagg 0 ⟨0, 0, 0, 0, 0, 0⟩, .int .i64 191]) ∧ Below w.heap.size w w' := by
  obtain ⟨w1, hw1⟩ : ∃ w1, w1 = w.alloc (.cells #[.int .i64 0, .int .i64 0, .int .i64 0, .int .i64 0, .int .i64 0, .int .i64 0, .int .i64 0] 44) := ⟨_, rfl⟩
  have h1 : KRep B kb g a w1 := h.keep (fun k hk => by rw [hw1]; exact Below.heap_alloc w _ _ hk)
  have k2 := h1.k2
  have hl := h1.lookP i
  rw [if_neg hi] at hl
  rw [hw1] at k2 hl
  clear h h1 hi hw1
  go_enter Try.func20, Try.ntmps20
  go_wp2
  exact bodyPost_ret (res20 _ w.heap.size _ _ _ (alloc_new w _) rfl rfl rfl) rfl ⟨rfl, (Below.refl _ _).alloc (Nat.le_refl _) _⟩

set_option maxHeartbeats 1000000 in
set_option maxRecDepth 100000 in
theorem getp_some (B kb : Nat) (g : G) (a : A) (w : World) (h : KRep B kb g a w) (i : Int) (hi : i ∈ a.pids) :
    Calls Try.prog 20 #[ptr kb, .int .i64 i] w fun e w' => e = .returned (.tuple #[pagg i (a.pk i), .int .i64 0]) ∧ Below w.heap.size w w' := by
  obtain ⟨w1, hw1⟩ : ∃ w1, w1 = w.alloc (.cells #[.int .i64 0, .int .i64 0, .int .i64 0, .int .i64 0, .int .i64 0, .int .i64 0, .int .i64 0] 44) := ⟨_, rfl⟩
  have h1 : KRep B kb g a w1 := h.keep (fun k hk => by rw [hw1]; exact Below.heap_alloc w _ _ hk)
  have k2 := h1.k2
  have hl := h1.lookP i
  rw [if_pos hi] at hl
  have p0 := h1.p0 hi
  have p1 := h1.p1 hi
  have p2 := h1.p2 hi
  have p3 := h1.p3 hi
  have p4 := h1.p4 hi
  have p5 := h1.p5 hi
  have p6 := h1.p6 hi
  rw [hw1] at k2 hl p0 p1 p2 p3 p4 p5 p6
  clear h h1 hi hw1
  go_enter Try.func20, Try.ntmps20
  go_wp2
  exact bodyPost_ret (res20 _ w.heap.size _ _ _ (alloc_new w _) rfl rfl rfl) rfl ⟨rfl, (Below.refl _ _).alloc (Nat.le_refl _) _⟩
end Go.Proofs.Ytkmgbnklfnjfjaa.Ker
