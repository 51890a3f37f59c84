import Derived.Test.YtkmgbnklfnjfjaaKH
/-! Contracts: Running, taken. -/
namespace Go.Proofs.Ytkmgbnklfnjfjaa.Ker
open Go.RowKit Go.Maps
open Go.ChangeMaps (setBlock)

def runnable (t : T) : Bool := !t.held && !t.waiting
/-- r is the task that runs; 0: none does. -/
def IsRun (a : A) (r : Int) : Prop := (r = 0 ∧ ∀ i ∈ a.tids, runnable (a.tk i) = true → (a.tk i).pri ≤ 0) ∨ (r ∈ a.tids ∧ runnable (a.tk r) = true ∧ 0 < (a.tk r).pri ∧ ∀ i ∈ a.tids, runnable (a.tk i) = true → (a.tk i).pri ≤ (a.tk r).pri)

def leftCount (w : World) (b r : Nat) : Nat := match w.heap[b]?, w.heap[r]? with
  | some (.map es _), some (.mapIter _ _ seen _) => (leftOf es seen).size
  | _, _ => 0
theorem iterAt.count {w : World} {r b : Nat} {kvs left : List (Int × Nat)} (h : iterAt w r b kvs left) : leftCount w b r = left.length := by
  obtain ⟨es, c, si, se, c0, h1, h2, _, _, _, _, _, hl⟩ := h
  unfold leftCount
  rw [h1, h2]
  have := congrArg List.length hl
  simpa using this
theorem filter_lt {left : List (Int × Nat)} {p : Int × Nat} (hp : p ∈ left) : (left.filter (fun q => q.1 != p.1)).length < left.length := by
  rcases Nat.lt_or_ge (left.filter (fun q => q.1 != p.1)).length left.length with h | h
  · exact h
  · have := List.length_filter_le (fun q : Int × Nat => q.1 != p.1) left
    have h2 := (List.length_filter_eq_length_iff (p := fun q : Int × Nat => q.1 != p.1) (l := left)).1 (by omega) p hp
    simp at h2

/-- What Running has found when the entries of left are still to come. -/
def Best (a : A) (left : List (Int × Nat)) (wr : World) (v : Value) : Prop :=
  ∃ bb c ty bi bp, v = ptr bb ∧ wr.heap[bb]? = some (.cells c ty (0, 0)) ∧ c[0]? = some (.int .i64 bi) ∧ c[1]? = some (.int .i64 bp) ∧ ((bi = 0 ∧ bp = 0) ∨ (bi ∈ a.tids ∧ runnable (a.tk bi) = true ∧ (a.tk bi).pri = bp ∧ 0 < bp)) ∧
    ∀ i ∈ a.tids, i ∉ left.map (·.1) → runnable (a.tk i) = true → (a.tk i).pri ≤ bp
theorem Best.isRun {a : A} {wr : World} {v : Value} (h : Best a [] wr v) : ∃ bb r, v = ptr bb ∧ wr.cell? ⟨bb, 0, none⟩ = some (.int .i64 r) ∧ IsRun a r := by
  obtain ⟨bb, c, ty, bi, bp, rfl, hb, h0, h1, hc, hall⟩ := h
  refine ⟨bb, bi, rfl, (cell_of hb 0).trans h0, ?_⟩
  rcases hc with ⟨rfl, rfl⟩ | ⟨h2, h3, h4, h5⟩
  · exact .inl ⟨rfl, fun i hi hr => hall i hi (by simp) hr⟩
  · exact .inr ⟨h2, h3, by omega, fun i hi hr => by have := hall i hi (by simp) hr; omega⟩

theorem below_drewN {B : Nat} {x w : World} (h : Below B x w) (n : Nat) : Below B x (w.drewN n) := ⟨h.os, h.tape, h.output, h.size, h.block⟩
theorem size_drewN (w : World) (n : Nat) : (w.drewN n).heap.size = w.heap.size := rfl

set_option maxHeartbeats 1000000 in
set_option maxRecDepth 100000 in
theorem running_any (B kb : Nat) (g : G) (a : A) (w : World) (h : KRep B kb g a w) (hn : a.tids.Nodup) :
    Calls Try.prog 18 #[ptr kb] w fun e w' => ∃ r, e = .returned (.int .i64 r) ∧ IsRun a r ∧ Below w.heap.size w w' := by
  obtain ⟨w2, hw2⟩ : ∃ w2, w2 = w.alloc (.cells #[.int .i64 0, .int .i64 0, .bool false, .bool false, .int .i64 0, .int .i64 0, .slice none 0 0, .slice none 0 0] 76) := ⟨_, rfl⟩
  have hb2 : Below w.heap.size w w2 := by rw [hw2]; exact (Below.refl _ _).alloc (Nat.le_refl _) _
  have h2 := h.below hb2
  have hid : w2.heap[w.heap.size]? = some (.cells #[.int .i64 0, .int .i64 0, .bool false, .bool false, .int .i64 0, .int .i64 0, .slice none 0 0, .slice none 0 0] 76 (0, 0)) := by rw [hw2]; exact alloc_new _ _
  have hsz : w2.heap.size = w.heap.size + 1 := by rw [hw2]; simp
  obtain ⟨o, hrange, hit⟩ := run_range h2.tmap 66 71 und66
  obtain ⟨w3, hw3⟩ : ∃ w3, w3 = w2.alloc o := ⟨_, rfl⟩
  rw [← hw3] at hrange hit
  have hb3 : Below w.heap.size w w3 := by rw [hw3]; exact hb2.alloc hb2.size _
  have hid3 : w3.heap[w.heap.size]? = some (.cells #[.int .i64 0, .int .i64 0, .bool false, .bool false, .int .i64 0, .int .i64 0, .slice none 0 0, .slice none 0 0] 76 (0, 0)) := by rw [hw3]; exact alloc_old hid _
  have k0 := h2.k0
  rw [hsz] at hit hrange
  have IT := Lib.hid hit
  have HI := Lib.hid hid3
  have RN : w.heap.size < w2.heap.size := by omega
  have H := Lib.hid h
  clear hw3 hit hid hsz hid3 h
  subst hw2
  go_enter Try.func18, Try.ntmps18
  go_wp2_with fail
  go_loopw [3, 5] (fun v _ wr => ∃ left, iterAt wr (w.heap.size + 1) g.tm (a.tids.map fun i => (i, g.tb i)) left ∧ (left.map (·.1)).Nodup ∧ Below w.heap.size w wr ∧ w.heap.size + 1 < wr.heap.size ∧ Best a left wr v)
    (fun _ _ wr => leftCount wr g.tm (w.heap.size + 1))
  case atStart =>
    refine ⟨_, IT.out, by simpa [Function.comp_def] using hn, hb3, IT.out.lt.2.1, _, _, _, 0, 0, rfl, HI.out, rfl, rfl, .inl ⟨rfl, rfl⟩, ?_⟩
    intro i hi hni
    exact absurd (by simpa [Function.comp_def] using hi) hni
  case round =>
    obtain ⟨left, hit, hnd, hbel, hrs, hbest⟩ := hrel
    rcases run_next hit hnd 0 with ⟨rfl, hnext⟩ | ⟨p, hp, w1, hw1, o1, hnext, hit1, hentry⟩
    · obtain ⟨bb, r, rfl, hc0, hrun⟩ := hbest.isRun
      have HR := Lib.hid hrun
      have HB := Lib.hid hbel
      clear hrun hbel hit hbest hnd IT HI hb3 hb2 h2
      go_wp2_with fail
      go_ret
      exact ⟨r, rfl, HR.out, HB.out⟩
    · obtain ⟨W, hW⟩ : ∃ W, W = setBlock w1 (w.heap.size + 1) o1 := ⟨_, rfl⟩
      rw [← hW] at hnext hit1 hentry
      have hsame : ∀ k, k ≠ w.heap.size + 1 → W.heap[k]? = wr.heap[k]? := by
        intro k hk
        rw [hW, setB_other hk]
        rcases hw1 with rfl | rfl <;> rfl
      have hT : Touch wr W (fun k => k = w.heap.size + 1) := by
        rw [hW]
        rcases hw1 with rfl | rfl
        · exact Touch.setB _ _ _
        · exact (Touch.drew wr _).trans (Touch.setB _ _ _)
      have hbW : Below w.heap.size w W := hbel.trans (hT.below hbel.size (fun k hk => by omega))
      have hkW := H.out.below hbW
      obtain ⟨i, hi, rfl⟩ : ∃ i ∈ a.tids, p = (i, g.tb i) := by
        obtain ⟨i, hi, he⟩ := List.mem_map.1 (hit.sub p hp)
        exact ⟨i, hi, he.symm⟩
      have t1 := hkW.t1 hi
      have t2 := hkW.t2 hi
      have t3 := hkW.t3 hi
      obtain ⟨bb, c, ty, bi, bp, rfl, hbb, hc0, hc1, hcase, hall⟩ := hbest
      have hbne : bb ≠ w.heap.size + 1 := by
        obtain ⟨_, _, _, _, _, _, hr, _⟩ := hit
        exact ne_obj hbb hr (by simp)
      have hbbW := (hsame bb hbne).trans hbb
      have hb1 : W.cell? ⟨bb, 1, none⟩ = some (.int .i64 bp) := (cell_of hbbW 1).trans hc1
      have hcount : leftCount W g.tm (w.heap.size + 1) < leftCount wr g.tm (w.heap.size + 1) := by
        rw [hit1.count, hit.count]
        exact filter_lt hp
      have HN := Lib.hid hnd
      have HI1 := Lib.hid hit1
      have HBW := Lib.hid hbW
      have HBB := Lib.hid hbbW
      have HC := Lib.hid (And.intro hc0 hc1)
      have HA := Lib.hid hall
      have HCA := Lib.hid hcase
      have HTB := Lib.hid (hkW.task i hi)
      have hszW := hT.size
      -- what has been seen: one entry more
      have seen : ∀ j ∈ a.tids, j ∉ (left.filter (fun q => q.1 != i)).map (·.1) → j = i ∨ j ∉ left.map (·.1) := by
        intro j _ hj
        by_cases hji : j = i
        · exact .inl hji
        · right
          intro hm
          obtain ⟨q, hq, he⟩ := List.mem_map.1 hm
          exact hj (List.mem_map.2 ⟨q, List.mem_filter.2 ⟨hq, by simp [he, hji]⟩, he⟩)
      have SEEN := Lib.hid seen
      have HNF := Lib.hid (List.Nodup.sublist (List.Sublist.map (fun q : Int × Nat => q.1) (List.filter_sublist (p := fun q : Int × Nat => q.1 != i) (l := left))) hnd)
      clear hnd hit hit1 hsame hT hbW hbel hbb hbbW hc0 hc1 hall hcase hw1 hW seen hkW hp hbne hb3 hb2 h2
      cases hh : (a.tk i).held with
      | true =>
        rw [hh] at t2
        have HH := Lib.hid hh
        clear hh
        go_wp2_with fail
        go_quiet (fail)
        go_wp2_with fail
        go_roundw
        case rel =>
          refine ⟨_, HI1.out, HNF.out, below_drewN HBW.out _, Nat.lt_of_lt_of_le hrs hszW, bb, c, ty, bi, bp, rfl, HBB.out, HC.out.1, HC.out.2, HCA.out, ?_⟩
          intro j hj hjl hr
          rcases SEEN.out j hj hjl with rfl | hj2
          · simp [runnable, HH.out] at hr
          · exact HA.out j hj hj2 hr
        case measure => exact hcount
      | false =>
        rw [hh] at t2
        have HH := Lib.hid hh
        clear hh
        cases hv : (a.tk i).waiting with
        | true =>
          rw [hv] at t3
          have HV := Lib.hid hv
          clear hv
          go_wp2_with fail
          go_quiet (fail)
          go_wp2_with fail
          go_roundw
          case rel =>
            refine ⟨_, HI1.out, HNF.out, below_drewN HBW.out _, Nat.lt_of_lt_of_le hrs hszW, bb, c, ty, bi, bp, rfl, HBB.out, HC.out.1, HC.out.2, HCA.out, ?_⟩
            intro j hj hjl hr
            rcases SEEN.out j hj hjl with rfl | hj2
            · simp [runnable, HV.out] at hr
            · exact HA.out j hj hj2 hr
          case measure => exact hcount
        | false =>
          rw [hv] at t3
          have HV := Lib.hid hv
          clear hv
          by_cases hp : bp < (a.tk i).pri
          · have hd : decide (bp < (a.tk i).pri) = true := by simpa using hp
            have HP := Lib.hid hp
            clear hp
            go_wp2_with fail
            go_quiet (fail)
            go_wp2_with fail
            go_roundw
            case rel =>
              have hbp : 0 ≤ bp := by rcases HCA.out with ⟨_, h0⟩ | ⟨_, _, _, h0⟩ <;> omega
              refine ⟨_, HI1.out, HNF.out, below_drewN HBW.out _, Nat.lt_of_lt_of_le hrs hszW, g.tb i, _, _, i, (a.tk i).pri, rfl, HTB.out, rfl, rfl, .inr ⟨hi, by simp [runnable, HH.out, HV.out], rfl, by have := HP.out; omega⟩, ?_⟩
              intro j hj hjl hr
              rcases SEEN.out j hj hjl with rfl | hj2
              · exact Int.le_refl _
              · have := HA.out j hj hj2 hr
                have := HP.out
                omega
            case measure => exact hcount
          · have hd : decide (bp < (a.tk i).pri) = false := by simpa using hp
            have HP := Lib.hid hp
            clear hp
            go_wp2_with fail
            go_quiet (fail)
            go_wp2_with fail
            go_roundw
            case rel =>
              refine ⟨_, HI1.out, HNF.out, below_drewN HBW.out _, Nat.lt_of_lt_of_le hrs hszW, bb, c, ty, bi, bp, rfl, HBB.out, HC.out.1, HC.out.2, HCA.out, ?_⟩
              intro j hj hjl hr
              rcases SEEN.out j hj hjl with rfl | hj2
              · have := HP.out
                omega
              · exact HA.out j hj hj2 hr
            case measure => exact hcount
end Go.Proofs.Ytkmgbnklfnjfjaa.Ker
