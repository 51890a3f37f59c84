import Derived.Test.YtkmgbnklfnjfjaaKG
/-! Contracts: ready of a kernel that is made, row. -/
namespace Go.Proofs.Ytkmgbnklfnjfjaa.Ker
open Go.RowKit Go.Maps
open Go.ChangeMaps (setBlock)

theorem zero71 (w : World) : (zeroValue 71).run Try.prog w = .ok (.pointer none) w := by kernel_rfl
theorem zero85 (w : World) : (zeroValue 85).run Try.prog w = .ok (.pointer none) w := by kernel_rfl
theorem zero84' (w : World) : (zeroValue 84).run Try.prog w = .ok (.pointer none) w := by kernel_rfl
theorem und66 : Try.prog.underlying 66 = some (.map 3 71) := Try.underlying66
theorem und67 : Try.prog.underlying 67 = some (.map 3 85) := Try.underlying67
theorem und68 : Try.prog.underlying 68 = some (.map 3 84) := Try.underlying68

theorem look_map (l : List Int) (f : Int → Nat) (k : Int) : look (l.map fun i => (i, f i)) k = if k ∈ l then some (f k) else none := by
  induction l with
  | nil => simp [look]
  | cons i l ih =>
    by_cases h : i = k
    · subst h; simp [look]
    · have h1 : (i == k) = false := by simpa using h
      have h2 : look ((i :: l).map fun i => (i, f i)) k = look (l.map fun i => (i, f i)) k := by simp [look, h1]
      have h3 : (k ∈ i :: l) ↔ k ∈ l := by simp [Ne.symm h]
      rw [h2, ih]
      simp only [h3]
section
variable {B kb : Nat} {g : G} {a : A} {w : World}
theorem KRep.lookT (h : KRep B kb g a w) (k : Int) : (Instr.lookup 66 (.map (some g.tm)) (.int .i64 k) false).run Try.prog w = .ok (if k ∈ a.tids then ptr (g.tb k) else .pointer none) w := by
  rw [run_look h.tmap 66 71 und66 (zero71 w) k]
  unfold lookV
  rw [look_map]
  by_cases hk : k ∈ a.tids <;> simp [hk]
theorem KRep.lookD (h : KRep B kb g a w) (k : Int) : (Instr.lookup 67 (.map (some g.dm)) (.int .i64 k) false).run Try.prog w = .ok (if k ∈ devs then ptr (g.db k) else .pointer none) w := by
  rw [run_look h.dmap 67 85 und67 (zero85 w) k]
  unfold lookV
  rw [look_map]
  by_cases hk : k ∈ devs <;> simp [hk]
theorem KRep.lookP (h : KRep B kb g a w) (k : Int) : (Instr.lookup 68 (.map (some g.pm)) (.int .i64 k) false).run Try.prog w = .ok (if k ∈ a.pids then ptr (g.pb k) else .pointer none) w := by
  rw [run_look h.pmap 68 84 und68 (zero84 w) k]
  unfold lookV
  rw [look_map]
  by_cases hk : k ∈ a.pids <;> simp [hk]
theorem KRep.k0 (h : KRep B kb g a w) : w.cell? ⟨kb, 0, none⟩ = some (.map (some g.tm)) := by rw [cell_of h.ker]; rfl
theorem KRep.k1 (h : KRep B kb g a w) : w.cell? ⟨kb, 1, none⟩ = some (.map (some g.dm)) := by rw [cell_of h.ker]; rfl
theorem KRep.k2 (h : KRep B kb g a w) : w.cell? ⟨kb, 2, none⟩ = some (.map (some g.pm)) := by rw [cell_of h.ker]; rfl
theorem KRep.k3 (h : KRep B kb g a w) : w.cell? ⟨kb, 3, none⟩ = some (.int .i64 a.made) := by rw [cell_of h.ker]; rfl
theorem KRep.k4 (h : KRep B kb g a w) : w.cell? ⟨kb, 4, none⟩ = some (g.qv 0) := by rw [cell_of h.ker]; rfl
theorem KRep.k5 (h : KRep B kb g a w) : w.cell? ⟨kb, 5, none⟩ = some (.int .i64 a.calls) := by rw [cell_of h.ker]; rfl
theorem KRep.t0 (h : KRep B kb g a w) {i : Int} (hi : i ∈ a.tids) : w.cell? ⟨g.tb i, 0, none⟩ = some (.int .i64 i) := by rw [cell_of (h.task i hi)]; rfl
theorem KRep.t1 (h : KRep B kb g a w) {i : Int} (hi : i ∈ a.tids) : w.cell? ⟨g.tb i, 1, none⟩ = some (.int .i64 (a.tk i).pri) := by rw [cell_of (h.task i hi)]; rfl
theorem KRep.t2 (h : KRep B kb g a w) {i : Int} (hi : i ∈ a.tids) : w.cell? ⟨g.tb i, 2, none⟩ = some (.bool (a.tk i).held) := by rw [cell_of (h.task i hi)]; rfl
theorem KRep.t3 (h : KRep B kb g a w) {i : Int} (hi : i ∈ a.tids) : w.cell? ⟨g.tb i, 3, none⟩ = some (.bool (a.tk i).waiting) := by rw [cell_of (h.task i hi)]; rfl
theorem KRep.t4 (h : KRep B kb g a w) {i : Int} (hi : i ∈ a.tids) : w.cell? ⟨g.tb i, 4, none⟩ = some (.int .i64 (a.tk i).forr) := by rw [cell_of (h.task i hi)]; rfl
theorem KRep.t5 (h : KRep B kb g a w) {i : Int} (hi : i ∈ a.tids) : w.cell? ⟨g.tb i, 5, none⟩ = some (.int .i64 (a.tk i).flags) := by rw [cell_of (h.task i hi)]; rfl
theorem KRep.tf (h : KRep B kb g a w) {i : Int} (hi : i ∈ a.tids) (j : Nat) : w.frozen? ⟨g.tb i, j, none⟩ = false := free_of (h.task i hi) j
theorem KRep.p0 (h : KRep B kb g a w) {i : Int} (hi : i ∈ a.pids) : w.cell? ⟨g.pb i, 0, none⟩ = some (.int .i64 i) := by rw [cell_of (h.pack i hi)]; rfl
theorem KRep.p1 (h : KRep B kb g a w) {i : Int} (hi : i ∈ a.pids) : w.cell? ⟨g.pb i, 1, none⟩ = some (.int .i64 (a.pk i).ty) := by rw [cell_of (h.pack i hi)]; rfl
theorem KRep.p2 (h : KRep B kb g a w) {i : Int} (hi : i ∈ a.pids) : w.cell? ⟨g.pb i, 2, none⟩ = some (.int .i64 (a.pk i).res) := by rw [cell_of (h.pack i hi)]; rfl
theorem KRep.p3 (h : KRep B kb g a w) {i : Int} (hi : i ∈ a.pids) : w.cell? ⟨g.pb i, 3, none⟩ = some (.int .i64 (a.pk i).own) := by rw [cell_of (h.pack i hi)]; rfl
theorem KRep.p4 (h : KRep B kb g a w) {i : Int} (hi : i ∈ a.pids) : w.cell? ⟨g.pb i, 4, none⟩ = some (.int .i64 (a.pk i).at_) := by rw [cell_of (h.pack i hi)]; rfl
theorem KRep.p5 (h : KRep B kb g a w) {i : Int} (hi : i ∈ a.pids) : w.cell? ⟨g.pb i, 5, none⟩ = some (.int .i64 (a.pk i).frm) := by rw [cell_of (h.pack i hi)]; rfl
theorem KRep.p6 (h : KRep B kb g a w) {i : Int} (hi : i ∈ a.pids) : w.cell? ⟨g.pb i, 6, none⟩ = some (.int .i64 (a.pk i).wth) := by rw [cell_of (h.pack i hi)]; rfl
theorem KRep.pf (h : KRep B kb g a w) {i : Int} (hi : i ∈ a.pids) (j : Nat) : w.frozen? ⟨g.pb i, j, none⟩ = false := free_of (h.pack i hi) j
end

set_option maxRecDepth 100000 in
theorem ready_made (B kb : Nat) (g : G) (a : A) (w : World) (h : KRep B kb g a w) :
    Calls Try.prog 29 #[ptr kb] w fun e w' => e = .returned (.tuple #[]) ∧ w = w' := by
  have k0 := h.k0
  have hm := run_neq_map_nil (P := Try.prog) w 66 3 71 (some g.tm) und66
  go_enter Try.func29, Try.ntmps29
  go_wp2
  (try simp only [Exit.inBlock, Exit.then])
  exact bodyPost_ret (results_none rfl _ _ _) rfl ⟨rfl, rfl⟩

set_option maxRecDepth 100000 in
theorem row_task (B kb : Nat) (g : G) (a : A) (w : World) (h : KRep B kb g a w) (i : Int) (hi : i ∈ a.tids) :
    Calls Try.prog 31 #[ptr kb, .int .i64 i] w fun e w' => e = .returned (.pointer (some ⟨g.tb i, 7, none⟩)) ∧ w = w' := by
  have k0 := h.k0
  have hl := h.lookT i
  rw [if_pos hi] at hl
  go_enter Try.func31, Try.ntmps31
  go_wp2
  go_ret
  exact ⟨rfl, rfl⟩
set_option maxRecDepth 100000 in
theorem row_dev (B kb : Nat) (g : G) (a : A) (w : World) (h : KRep B kb g a w) (i : Int) (hi : i ∈ devs) :
    Calls Try.prog 31 #[ptr kb, .int .i64 i] w fun e w' => e = .returned (ptr (g.db i)) ∧ w = w' := by
  have k0 := h.k0
  have k1 := h.k1
  have hl := h.lookT i
  rw [if_neg (fun ht => dev_neg hi (h.tpos i ht))] at hl
  have hl2 := h.lookD i
  rw [if_pos hi] at hl2
  go_enter Try.func31, Try.ntmps31
  go_wp2
  go_ret
  exact ⟨rfl, rfl⟩
set_option maxRecDepth 100000 in
theorem row_none (B kb : Nat) (g : G) (a : A) (w : World) (h : KRep B kb g a w) (i : Int) (hi : ¬ a.owner i) :
    Calls Try.prog 31 #[ptr kb, .int .i64 i] w fun e w' => e = .returned (.pointer none) ∧ w = w' := by
  have k0 := h.k0
  have k1 := h.k1
  have hl := h.lookT i
  rw [if_neg (fun ht => hi (.inl ht))] at hl
  have hl2 := h.lookD i
  rw [if_neg (fun ht => hi (.inr ht))] at hl2
  clear hi
  go_enter Try.func31, Try.ntmps31
  go_wp2
  go_ret
  exact ⟨rfl, rfl⟩
end Go.Proofs.Ytkmgbnklfnjfjaa.Ker
