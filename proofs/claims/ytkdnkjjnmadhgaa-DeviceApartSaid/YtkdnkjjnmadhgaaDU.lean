import Derived.Test.YtkdnkjjnmadhgaaDJ
set_option linter.unusedVariables false
set_option linter.unusedSimpArgs false
/-! A bus in memory; which device it has. -/
namespace Go.Proofs.Ytkdnkjjnmadhgaa.Dev
open Go.RowKit Go.Maps Go.Lib

set_option maxRecDepth 100000 in
theorem disk_has (w : World) (v : Value) (x : Int) : Calls Try.prog 89 #[v, .int .i64 x] w fun e w' => e = .returned (.bool (decide (1 ≤ x ∧ x ≤ 3))) ∧ w' = w := by
  by_cases h1 : 1 ≤ x
  · by_cases h2 : x ≤ 3
    · have hd : decide (1 ≤ x ∧ x ≤ 3) = true := by simp [h1, h2]
      rw [hd]
      clear hd
      go_enter Try.func89, Try.ntmps89
      go_wp2
      go_ret
      exact ⟨rfl, rfl⟩
    · have hd : decide (1 ≤ x ∧ x ≤ 3) = false := by simp [h2]
      rw [hd]
      clear hd
      go_enter Try.func89, Try.ntmps89
      go_wp2
      go_ret
      exact ⟨rfl, rfl⟩
  · have hd : decide (1 ≤ x ∧ x ≤ 3) = false := by simp [h1]
    rw [hd]
    clear hd
    go_enter Try.func89, Try.ntmps89
    go_wp2
    go_ret
    exact ⟨rfl, rfl⟩

theorem meth_has81 (v : Value) (w : World) : Sem.run Try.prog (method 257 81 v "bluebell/device.has") w = .ok (89, v) w := by kernel_rfl
theorem meth_send81 (v : Value) (w : World) : Sem.run Try.prog (method 257 81 v "bluebell/device.send") w = .ok (90, v) w := by kernel_rfl

theorem meth_nil81 (d : Nat) (w : World) : Sem.run Try.prog (nilAhead 257 81 (ptr d) "bluebell/device.send") w = .ok (some false) w := by kernel_rfl

/-- A bus: its devices as they are in memory, its numbers, the slice of its replies. -/
structure BM where
  vd : Sl
  ds : List Value
  now : Int
  sent : Int
  told : Int
  vr : Sl
  rs : List Rp
structure BRep (B : Nat) (w : World) (b : Nat) (m : BM) : Prop where
  low : B ≤ b
  cells : w.heap[b]? = some (.cells #[slv m.vd, .int .i64 m.now, .int .i64 m.sent, .int .i64 m.told, slv m.vr] 80 (0, 0))
  rd : w.ownsRow B 84 1 (slv m.vd) m.ds.length m.ds
  rr : RowO w B 95 6 (slv m.vr) m.rs.length (m.rs.flatMap encR)
theorem BRep.all {B : Nat} {w : World} {b : Nat} {m : BM} (h : BRep B w b m) : w.cell? ⟨b, 0, none⟩ = some (.slice m.vd.1 m.vd.2.1 m.vd.2.2) ∧ w.cell? ⟨b, 1, none⟩ = some (.int .i64 m.now) ∧ w.cell? ⟨b, 2, none⟩ = some (.int .i64 m.sent) ∧ w.cell? ⟨b, 3, none⟩ = some (.int .i64 m.told) ∧ w.cell? ⟨b, 4, none⟩ = some (.slice m.vr.1 m.vr.2.1 m.vr.2.2) :=
  ⟨(cell_of h.cells 0).trans rfl, (cell_of h.cells 1).trans rfl, (cell_of h.cells 2).trans rfl, (cell_of h.cells 3).trans rfl, (cell_of h.cells 4).trans rfl⟩
theorem BRep.frees {B : Nat} {w : World} {b : Nat} {m : BM} (h : BRep B w b m) : w.frozen? ⟨b, 0, none⟩ = false ∧ w.frozen? ⟨b, 1, none⟩ = false ∧ w.frozen? ⟨b, 2, none⟩ = false ∧ w.frozen? ⟨b, 3, none⟩ = false ∧ w.frozen? ⟨b, 4, none⟩ = false :=
  ⟨free_of h.cells 0, free_of h.cells 1, free_of h.cells 2, free_of h.cells 3, free_of h.cells 4⟩
theorem BRep.vdn {B : Nat} {w : World} {b : Nat} {m : BM} (h : BRep B w b m) : m.vd.2.1 = m.ds.length := by
  obtain ⟨a, c, e⟩ := own_form h.rd
  injection e
theorem BRep.vrn {B : Nat} {w : World} {b : Nat} {m : BM} (h : BRep B w b m) : m.vr.2.1 = m.rs.length := by
  obtain ⟨a, c, e⟩ := h.rr.form
  injection e

set_option maxHeartbeats 400000 in
set_option maxRecDepth 100000 in
theorem device_some (w : World) (B b : Nat) (m : BM) (h : BRep B w b m) (x : Int) (hx : 1 ≤ x) (dv : Value) (hd : m.ds[(x - 1).toNat]? = some dv) :
    Calls Try.prog 33 #[ptr b, .int .i64 x] w fun e w' => e = .returned dv ∧ w' = w := by
  obtain ⟨c0, c1, c2, c3, c4⟩ := h.all
  have hl := (List.getElem?_eq_some_iff.1 hd).1
  obtain ⟨g, cap, hv, _, hcn, hcm, cur, hg, _, _, hc⟩ := own_cell h.rd (by omega)
  have hm : m.vd.1 = some ⟨g, 0, none⟩ := by injection hv
  rw [hm] at c0
  have hcell := (hc _ hl).trans hd
  rw [show (x - 1).toNat = x.toNat - 1 by omega] at hcell
  have hn := h.vdn
  have h1 : decide (x < 1) = false := by simpa using hx
  have h2 : decide ((m.vd.2.1 : Int) < x) = false := by simp; omega
  have k1 : IntKind.i64.wrap (x - 1) = x - 1 := by
    rw [IntKind.wrap_i64]; unfold maxLen at hcm; omega
  have p1 : 0 ≤ x - 1 := by omega
  have p2 : x - 1 < (m.vd.2.1 : Int) := by omega
  clear hc hg hv hm h hn hl hd hx hcn hcm
  go_enter Try.func33, Try.ntmps33
  go_wp2
  go_ret
  exact ⟨rfl, rfl⟩

/-- The bus's time, and its number of requests, change. -/
theorem BRep.set {B : Nat} {w w' : World} {b : Nat} {m : BM} (h : BRep B w b m) (now sent told : Int) (hc : w'.heap[b]? = some (.cells #[slv m.vd, .int .i64 now, .int .i64 sent, .int .i64 told, slv m.vr] 80 (0, 0)))
    (hk : ∀ k, k < w.heap.size → k ≠ b → ((slv m.vd).ownBlock = some k ∨ oblock (slv m.vr) = some k) → w'.heap[k]? = w.heap[k]?) : BRep B w' b { m with now := now, sent := sent, told := told } := by
  refine ⟨h.low, hc, own_keep h.rd fun g hg hl => hk g hl (fun e => ?_) (.inl hg), h.rr.keep fun g hg hl => hk g hl (fun e => ?_) (.inr hg)⟩
  · subst e
    exact own_ty h.rd h.cells (by decide) hg
  · subst e
    obtain ⟨_, cur, hh⟩ := h.rr.block hg
    rw [h.cells] at hh
    simp at hh
theorem BRep.keep {B : Nat} {w w' : World} {b : Nat} {m : BM} (h : BRep B w b m) (hk : ∀ k, k < w.heap.size → (k = b ∨ (slv m.vd).ownBlock = some k ∨ oblock (slv m.vr) = some k) → w'.heap[k]? = w.heap[k]?) : BRep B w' b m :=
  h.set m.now m.sent m.told ((hk b (blt h.cells) (.inl rfl)).trans h.cells) fun k hl _ ho => hk k hl (.inr ho)
theorem BRep.now {B : Nat} {w : World} {b : Nat} {m : BM} (h : BRep B w b m) (x : Int) : BRep B (w.setCell ⟨b, 1, none⟩ (.int .i64 x)) b { m with now := x } := by
  refine h.set x m.sent m.told ?_ (fun k hl hd _ => Below.heap_setCell w _ _ _ hd)
  have := set_same h.cells 1 (.int .i64 x)
  simpa using this

theorem BRep.vr_ne {B : Nat} {w : World} {b : Nat} {m : BM} (h : BRep B w b m) : oblock (slv m.vr) ≠ some b := fun e => by
  obtain ⟨_, cur, hh⟩ := h.rr.block e
  rw [h.cells] at hh
  simp at hh
end Go.Proofs.Ytkdnkjjnmadhgaa.Dev
