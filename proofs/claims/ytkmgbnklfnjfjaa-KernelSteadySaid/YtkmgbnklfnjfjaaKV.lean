import Derived.Test.YtkmgbnklfnjfjaaKU
/-! Contract: New. -/
namespace Go.Proofs.Ytkmgbnklfnjfjaa.Ker
open Go.RowKit Go.Maps
open Go.ChangeMaps (setBlock)

/-- The kernel as New makes it. -/
def A0 : A := { tids := [], tk := fun _ => { pri := 0, held := false, waiting := false, forr := 0, flags := 0 }, pids := [], pk := fun _ => { ty := 0, res := 0, own := 0, at_ := 0, frm := 0, wth := 0 }, q := fun _ => [], made := 0, calls := 0, moves := [] }
theorem owns_none {w : World} {B e sz : Nat} : w.ownsRow B e sz (.slice none 0 0) 0 [] := by
  exact ⟨by simp, .inl ⟨rfl, rfl⟩⟩
def dbOf (n : Nat) (k : Int) : Nat := n + 3 + (-k).toNat
def G0 (n : Nat) : G := { tm := n + 1, dm := n + 2, pm := n + 3, tb := fun _ => 0, db := dbOf n, pb := fun _ => 0, qv := fun _ => .slice none 0 0 }
def kcells0 (n : Nat) : Array Value := #[.map (some (n + 1)), .map (some (n + 2)), .map (some (n + 3)), .int .i64 0, .slice none 0 0, .int .i64 0]

def ReadyRel (w0 : World) (v : Value) (wr : World) : Prop := ∃ i : Nat, i ≤ 5 ∧ v = .int .i64 ((i : Int) + 1) ∧ wr.heap[w0.heap.size]? = some (.cells (kcells0 w0.heap.size) 70 (0, 0)) ∧ wr.heap.size = w0.heap.size + 4 + i ∧ Below w0.heap.size w0 wr ∧ mapAt wr (w0.heap.size + 1) [] ∧ mapAt wr (w0.heap.size + 3) [] ∧
      mapAt wr (w0.heap.size + 2) ((devs.take i).map fun k => (k, dbOf w0.heap.size k)) ∧ ∀ k ∈ devs.take i, wr.heap[dbOf w0.heap.size k]? = some (.cells #[.slice none 0 0] 74 (0, 0))
def readyLeft (w0 wr : World) : Nat := w0.heap.size + 9 - wr.heap.size

set_option maxHeartbeats 2000000 in
set_option maxRecDepth 100000 in
theorem ready_zero (w0 w : World) (hb : Below w0.heap.size w0 w) (hs : w.heap.size = w0.heap.size + 1) (hk : w.heap[w0.heap.size]? = some (.cells #[.map none, .map none, .map none, .int .i64 0, .slice none 0 0, .int .i64 0] 70 (0, 0))) :
    Calls Try.prog 29 #[ptr w0.heap.size] w fun e w' => e = .returned (.tuple #[]) ∧ Below w0.heap.size w0 w' ∧ KRep w0.heap.size w0.heap.size (G0 w0.heap.size) A0 w' := by
  have k0 : w.cell? ⟨w0.heap.size, 0, none⟩ = some (.map none) := by rw [cell_of hk]; rfl
  have hnq := run_neq_map_nil (P := Try.prog) w 66 3 71 none und66
  obtain ⟨w1, hw1⟩ : ∃ w1, w1 = w.alloc (.map #[] 0) := ⟨_, rfl⟩
  obtain ⟨w2, hw2⟩ : ∃ w2, w2 = w1.alloc (.map #[] 0) := ⟨_, rfl⟩
  obtain ⟨w3, hw3⟩ : ∃ w3, w3 = w2.alloc (.map #[] 0) := ⟨_, rfl⟩
  have s1 : w1.heap.size = w0.heap.size + 2 := by rw [hw1]; simp [hs]
  have s2 : w2.heap.size = w0.heap.size + 3 := by rw [hw2]; simp [s1]
  have s3 : w3.heap.size = w0.heap.size + 4 := by rw [hw3]; simp [s2]
  have m1 : (Instr.makeMap 66 none).run Try.prog w = .ok (.map (some (w0.heap.size + 1))) w1 := by rw [hw1, ← hs]; rfl
  have m2 : (Instr.makeMap 67 none).run Try.prog w1 = .ok (.map (some (w0.heap.size + 2))) w2 := by rw [hw2, ← s1]; rfl
  have m3 : (Instr.makeMap 68 none).run Try.prog w2 = .ok (.map (some (w0.heap.size + 3))) w3 := by rw [hw3, ← s2]; rfl
  have b3 : Below w0.heap.size w0 w3 := by
    rw [hw3, hw2, hw1]
    exact ((hb.alloc (by omega) _).alloc (by simp; omega) _).alloc (by simp; omega) _
  have e1 : mapAt w3 (w0.heap.size + 1) [] := by
    rw [hw3, hw2]
    exact ⟨#[], 0, alloc_old (alloc_old (by rw [hw1, ← hs]; exact alloc_new w _) _) _, rfl, by simp, by simp⟩
  have e2 : mapAt w3 (w0.heap.size + 2) [] := by
    rw [hw3]
    exact ⟨#[], 0, alloc_old (by rw [hw2, ← s1]; exact alloc_new w1 _) _, rfl, by simp, by simp⟩
  have e3 : mapAt w3 (w0.heap.size + 3) [] := ⟨#[], 0, by rw [hw3, ← s2]; exact alloc_new w2 _, rfl, by simp, by simp⟩
  have hk3 : w3.heap[w0.heap.size]? = some (.cells #[.map none, .map none, .map none, .int .i64 0, .slice none 0 0, .int .i64 0] 70 (0, 0)) := by
    rw [hw3, hw2, hw1]
    exact alloc_old (alloc_old (alloc_old hk _) _) _
  have kf0 : w3.frozen? ⟨w0.heap.size, 0, none⟩ = false := free_of hk3 0
  have kf1 : w3.frozen? ⟨w0.heap.size, 1, none⟩ = false := free_of hk3 1
  have kf2 : w3.frozen? ⟨w0.heap.size, 2, none⟩ = false := free_of hk3 2
  have kc0 : w3.cell? ⟨w0.heap.size, 0, none⟩ = some (.map none) := by rw [cell_of hk3]; rfl
  have kc1 : w3.cell? ⟨w0.heap.size, 1, none⟩ = some (.map none) := by rw [cell_of hk3]; rfl
  have kc2 : w3.cell? ⟨w0.heap.size, 2, none⟩ = some (.map none) := by rw [cell_of hk3]; rfl
  have S3 := Lib.hid s3
  have B3 := Lib.hid b3
  have E1 := Lib.hid e1
  have E2 := Lib.hid e2
  have E3 := Lib.hid e3
  have K3 := Lib.hid hk3
  clear hb hs hk hw1 hw2 hw3 s1 s2 s3 b3 e1 e2 e3 hk3
  go_enter Try.func29, Try.ntmps29
  go_wp2_with fail
  obtain ⟨W, hW⟩ : ∃ W, W = ((w3.setCell ⟨w0.heap.size, 0, none⟩ (.map (some (w0.heap.size + 1)))).setCell ⟨w0.heap.size, 1, none⟩ (.map (some (w0.heap.size + 2)))).setCell ⟨w0.heap.size, 2, none⟩ (.map (some (w0.heap.size + 3))) := ⟨_, rfl⟩
  rw [← hW]
  have hT : Touch w3 W (fun k => k = w0.heap.size) := by
    rw [hW]
    exact ((Touch.setCell _ _ _ (S := fun k => k = w0.heap.size) rfl).trans (Touch.setCell _ _ _ rfl)).trans (Touch.setCell _ _ _ rfl)
  have kW : W.heap[w0.heap.size]? = some (.cells (kcells0 w0.heap.size) 70 (0, 0)) := by
    rw [hW]
    simpa [kcells0] using set_same (set_same (set_same K3.out 0 (.map (some (w0.heap.size + 1)))) 1 (.map (some (w0.heap.size + 2)))) 2 (.map (some (w0.heap.size + 3)))
  have sW : W.heap.size = w0.heap.size + 4 := by rw [hW]; simp [World.setCell, S3.out]
  have bW : Below w0.heap.size w0 W := B3.out.trans (hT.below (by have := S3.out; omega) (fun k hk => by omega))
  have f1 : mapAt W (w0.heap.size + 1) [] := E1.out.keep (hT.block _ E1.out.lt (by omega))
  have f2 : mapAt W (w0.heap.size + 2) [] := E2.out.keep (hT.block _ E2.out.lt (by omega))
  have f3 : mapAt W (w0.heap.size + 3) [] := E3.out.keep (hT.block _ E3.out.lt (by omega))
  have KW := Lib.hid kW
  have SW := Lib.hid sW
  have BW := Lib.hid bW
  have F1 := Lib.hid f1
  have F2 := Lib.hid f2
  have F3 := Lib.hid f3
  clear kc0 kc1 kc2 hW hT kW sW bW f1 f2 f3 kf0 kf1 kf2 m1 m2 m3 k0 hnq
  go_loopw [2] (fun v wr => ReadyRel w0 v wr) (fun _ wr => readyLeft w0 wr)
  case atStart => exact ⟨0, by omega, rfl, KW.out, SW.out, BW.out, F1.out, F3.out, F2.out, by simp⟩
  case round =>
    obtain ⟨i, hi, rfl, hk, hs, hb, h1, h3, h2, hd⟩ := hrel
    by_cases h5 : i = 5
    · subst h5
      have hd5 : decide (((5 : Nat) : Int) + 1 ≤ 5) = false := by decide
      have HK := Lib.hid hk
      have HB := Lib.hid hb
      have H1 := Lib.hid h1
      have H2 := Lib.hid h2
      have H3 := Lib.hid h3
      have HD := Lib.hid hd
      clear hk hs hb h1 h2 h3 hd
      go_wp2_with fail
      go_end0
      refine ⟨rfl, HB.out, HK.out, H1.out, H2.out, H3.out, ⟨by show w0.heap.size + 1 ≠ w0.heap.size + 2; omega, by show w0.heap.size + 1 ≠ w0.heap.size + 3; omega, by show w0.heap.size + 2 ≠ w0.heap.size + 3; omega⟩, (fun i hi => by cases hi), HD.out, ?_, (fun i hi => by cases hi), ?_, ?_, ?_, ?_, (fun i hi => by cases hi)⟩
      · intro i hi j hj he
        simp only [G0, dbOf] at he
        have h1 := dev_neg hi
        have h2 := dev_neg hj
        omega
      · exact fun i _ => owns_none
      · exact owns_none
      · intro i j _ _ _ b hb
        cases hb
      · refine ⟨Nat.le_refl _, by show _ ≤ w0.heap.size + 1; omega, by show _ ≤ w0.heap.size + 2; omega, by show _ ≤ w0.heap.size + 3; omega, (fun i hi => by cases hi), fun i _ => ?_, (fun i hi => by cases hi)⟩
        show _ ≤ dbOf _ _
        unfold dbOf
        omega
    · have hlt : i < 5 := by omega
      have hd5 : decide ((i : Int) + 1 ≤ 5) = true := by simp; omega
      have k1 : wr.cell? ⟨w0.heap.size, 1, none⟩ = some (.map (some (w0.heap.size + 2))) := by rw [cell_of hk]; rfl
      have h2a : mapAt (wr.alloc (.cells #[.slice none 0 0] 74)) (w0.heap.size + 2) ((devs.take i).map fun k => (k, dbOf w0.heap.size k)) := h2.keep (Below.heap_alloc wr _ _ h2.lt)
      obtain ⟨o, hr, hm⟩ := run_put h2a 67 85 und67 (-((i : Int) + 1)) (w0.heap.size + 4 + i) (by
        have hcase : i = 0 ∨ i = 1 ∨ i = 2 ∨ i = 3 ∨ i = 4 := by omega
        rcases hcase with rfl | rfl | rfl | rfl | rfl <;> rfl)
      obtain ⟨w6, hw6⟩ : ∃ w6, w6 = setBlock (wr.alloc (.cells #[.slice none 0 0] 74)) (w0.heap.size + 2) o := ⟨_, rfl⟩
      rw [← hw6] at hr hm
      have hT6 : Touch wr w6 (fun k => k = w0.heap.size + 2) := by rw [hw6]; exact (Touch.alloc _ _ _).trans (Touch.setB _ _ _)
      have hn6 : w6.heap[w0.heap.size + 4 + i]? = some (.cells #[.slice none 0 0] 74 (0, 0)) := by
        rw [hw6, setB_other (by omega), ← hs]
        exact alloc_new wr _
      have hs6 : w6.heap.size = w0.heap.size + 4 + (i + 1) := by rw [hw6]; show (setBlock _ _ _).heap.size = _; simp [setBlock, hs]; omega
      have HREL := Lib.hid (show ReadyRel w0 (.int .i64 ((i : Int) + 1 + 1)) w6 from by
        refine ⟨i + 1, by omega, by push_cast; rfl, (hT6.block _ (blt hk) (by omega)).trans hk, hs6, hb.trans (hT6.below (by omega) (fun k hk => by omega)), h1.keep (hT6.block _ h1.lt (by omega)), h3.keep (hT6.block _ h3.lt (by omega)), ?_, ?_⟩
        · have e : ((devs.take (i + 1)).map fun k => (k, dbOf w0.heap.size k)) = ((devs.take i).map fun k => (k, dbOf w0.heap.size k)) ++ [(-((i : Int) + 1), w0.heap.size + 4 + i)] := by
            have hcase : i = 0 ∨ i = 1 ∨ i = 2 ∨ i = 3 ∨ i = 4 := by omega
            rcases hcase with rfl | rfl | rfl | rfl | rfl <;> simp [devs, dbOf]
          rw [e]
          exact hm
        · have e : devs.take (i + 1) = devs.take i ++ [-((i : Int) + 1)] := by
            have hcase : i = 0 ∨ i = 1 ∨ i = 2 ∨ i = 3 ∨ i = 4 := by omega
            rcases hcase with rfl | rfl | rfl | rfl | rfl <;> rfl
          intro k hk
          rw [e, List.mem_append, List.mem_singleton] at hk
          rcases hk with hk | rfl
          · have := hd k hk
            exact (hT6.block _ (blt this) (fun e => by rw [e] at this; obtain ⟨_, _, h2, _⟩ := h2; rw [h2] at this; cases this)).trans this
          · have e2 : dbOf w0.heap.size (-((i : Int) + 1)) = w0.heap.size + 4 + i := by unfold dbOf; omega
            rw [e2]
            exact hn6)
      have hmu : readyLeft w0 w6 < readyLeft w0 wr := by unfold readyLeft; omega
      have hi4 : (i : Int) ≤ 4 := by omega
      have hi0 : (0 : Int) ≤ i := by omega
      have HR := Lib.hid hmu
      clear hk hb h1 h2 h3 hd h2a hm hw6 hT6 hn6 hs6 hmu hi h5 hlt
      go_wp2_with fail
      go_roundw
      case rel => exact HREL.out
      case measure => exact HR.out

set_option maxHeartbeats 1000000 in
set_option maxRecDepth 100000 in
theorem new_any (w : World) : Calls Try.prog 17 #[] w fun e w' => e = .returned (ptr w.heap.size) ∧ Below w.heap.size w w' ∧ KRep w.heap.size w.heap.size (G0 w.heap.size) A0 w' := by
  have C := Lib.hid (ready_zero w (w.alloc (.cells #[.map none, .map none, .map none, .int .i64 0, .slice none 0 0, .int .i64 0] 70)) ((Below.refl _ _).alloc (Nat.le_refl _) _) (by simp) (alloc_new w _))
  go_enter Try.func17, Try.ntmps17
  go_wp2_with (go_at_call 29; (with_reducible refine C.out.mono ?_); rintro e w' ⟨rfl, hb, hk⟩; have HB := Lib.hid hb; have HK := Lib.hid hk; clear hb hk)
  go_ret
  exact ⟨rfl, HB.out, HK.out⟩
end Go.Proofs.Ytkmgbnklfnjfjaa.Ker
