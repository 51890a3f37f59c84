import Derived.Test.YtkmgbnklfnjfjaaRC
/-! The specification's kernel: there, Running, Packet, Queue. -/
namespace Go.Proofs.Ytkmgbnklfnjfjaa.Ker
open Go.RowKit Go.Maps

/-- More that always holds. -/
structure Good2 (a : A) : Prop where
  own1 : ∀ p ∈ a.pids, 1 ≤ (a.pk p).own
  flg : ∀ i ∈ a.tids, 0 ≤ (a.tk i).flags ∧ (a.tk i).flags ≤ 65535
theorem made_len {a : A} (gd : Good a) : ((pnums a.made).length : Int) = a.made := by
  have := gd.made
  rw [pnums_len]; omega
/-- The cells of packet n + 1. -/
theorem RRep.pcells {B xb : Nat} {h : RG} {a : A} {w : World} (r : RRep B xb h a w) (gd : Good a) {n : Nat} (hn : (n : Int) < a.made) :
    ∃ g c, h.pv = .slice (some ⟨g, 0, none⟩) (pnums a.made).length c ∧ (∃ cur, w.heap[g]? = some (.cells cur 93 (0, 0))) ∧ ∀ j, j < 7 → w.cell? ⟨g, n * 7 + j, none⟩ = (rpc a ((n : Int) + 1))[j]? := by
  have hx := pnums_get a.made (p := (n : Int) + 1) ⟨by omega, by omega⟩
  rw [show ((n : Int) + 1 - 1).toNat = n from by omega] at hx
  exact row_cells (f := rpc a) (sz := 7) (fun _ => rfl) r.prow hx
theorem rpk_in {a : A} {p : Int} (h : p ∈ a.pids) : rpk a p = a.pk p := if_pos h
theorem rpk_out {a : A} {p : Int} (h : p ∉ a.pids) : rpk a p = ⟨0, 0, 0, 0, 0, 0⟩ := if_neg h

set_option maxHeartbeats 1000000 in
set_option maxRecDepth 100000 in
theorem rthere (B xb : Nat) (h : RG) (a : A) (w : World) (r : RRep B xb h a w) (gd : Good a) (g2 : Good2 a) (p : Int) :
    Calls Try.prog 64 #[ptr xb, .int .i64 p] w fun e w' => e = .returned (.bool (decide (p ∈ a.pids))) ∧ w = w' := by
  have hN := made_len gd
  have hmade := gd.made
  obtain ⟨pa, pc, hpv⟩ := own_form r.prow
  have k1 : w.cell? ⟨xb, 1, none⟩ = some (.slice pa (pnums a.made).length pc) := by rw [cell_of r.blk]; simp [rcells, hpv]
  by_cases h1 : 1 ≤ p
  · have d1 : decide ((1 : Int) ≤ p) = true := by simp [h1]
    by_cases h2 : p ≤ a.made
    · obtain ⟨n, rfl⟩ : ∃ n : Nat, p = (n : Int) + 1 := ⟨(p - 1).toNat, by omega⟩
      have d2 : decide ((n : Int) + 1 ≤ ((pnums a.made).length : Int)) = true := by simp; omega
      obtain ⟨g, c, hv, _, hc⟩ := r.pcells gd (n := n) (by omega)
      rw [hpv] at hv
      simp only [Value.slice.injEq] at hv
      obtain ⟨rfl, -, rfl⟩ := hv
      have q3 : w.cell? ⟨g, n * 7 + 3, none⟩ = some (.int .i64 (rpk a ((n : Int) + 1)).own) := hc 3 (by omega)
      have hnl : n < (pnums a.made).length := by omega
      have hn200 : n ≤ 200 := by omega
      by_cases hp : ((n : Int) + 1) ∈ a.pids
      · have ho := g2.own1 _ hp
        rw [rpk_in hp] at q3
        have hb : ((a.pk ((n : Int) + 1)).own != 0) = true := by simp; omega
        rw [decide_eq_true hp]
        clear hc hpv r gd g2 hp ho hN hmade h1 h2
        go_enter Try.func64, Try.ntmps64
        go_wp2
        go_ret
        exact ⟨rfl, rfl⟩
      · rw [rpk_out hp] at q3
        simp only at q3
        rw [decide_eq_false hp]
        clear hc hpv r gd g2 hp hN hmade h1 h2
        go_enter Try.func64, Try.ntmps64
        go_wp2
        go_ret
        exact ⟨rfl, rfl⟩
    · have hp : p ∉ a.pids := fun hp => h2 (gd.pkr p hp).2
      have d2 : decide (p ≤ ((pnums a.made).length : Int)) = false := by simp; omega
      rw [decide_eq_false hp]
      clear hpv r gd g2 hp hN hmade h1 h2
      go_enter Try.func64, Try.ntmps64
      go_wp2
      go_ret
      exact ⟨rfl, rfl⟩
  · have hp : p ∉ a.pids := fun hp => h1 (gd.pkr p hp).1
    have d1 : decide ((1 : Int) ≤ p) = false := by simp; omega
    rw [decide_eq_false hp]
    clear hpv r gd g2 hp hN hmade h1
    go_enter Try.func64, Try.ntmps64
    go_wp2
    go_ret
    exact ⟨rfl, rfl⟩

/-- The best of those that were looked at. -/
def RBest (a : A) (n : Nat) (id pri : Int) : Prop := ((id = 0 ∧ pri = 0) ∨ (id ∈ a.tids ∧ runnable (a.tk id) = true ∧ (a.tk id).pri = pri ∧ 0 < pri)) ∧ ∀ k i, k < n → a.tids[k]? = some i → runnable (a.tk i) = true → (a.tk i).pri ≤ pri
theorem RBest.isRun {a : A} {id pri : Int} (h : RBest a a.tids.length id pri) : IsRun a id := by
  have key : ∀ i ∈ a.tids, runnable (a.tk i) = true → (a.tk i).pri ≤ pri := fun i hi hr => by
    obtain ⟨k, hk, hki⟩ := List.getElem_of_mem hi
    exact h.2 k i hk (by rw [List.getElem?_eq_getElem hk, hki]) hr
  rcases h.1 with ⟨rfl, rfl⟩ | ⟨h1, h2, h3, h4⟩
  · exact .inl ⟨rfl, key⟩
  · exact .inr ⟨h1, h2, by omega, fun i hi hr => by have := key i hi hr; omega⟩
theorem RBest.skip {a : A} {n : Nat} {id pri x : Int} (h : RBest a n id pri) (hx : a.tids[n]? = some x) (hc : runnable (a.tk x) = true → (a.tk x).pri ≤ pri) : RBest a (n + 1) id pri :=
  ⟨h.1, fun k i hk hi hr => by
    by_cases hkn : k = n
    · subst hkn
      rw [hx] at hi
      obtain rfl := Option.some.inj hi
      exact hc hr
    · exact h.2 k i (by omega) hi hr⟩
theorem RBest.take {a : A} {n : Nat} {id pri x : Int} (h : RBest a n id pri) (h0 : 0 ≤ pri) (hx : a.tids[n]? = some x) (hr : runnable (a.tk x) = true) (hc : pri < (a.tk x).pri) : RBest a (n + 1) x (a.tk x).pri :=
  ⟨.inr ⟨List.mem_of_getElem? hx, hr, rfl, by omega⟩, fun k i hk hi hr' => by
    by_cases hkn : k = n
    · subst hkn
      rw [hx] at hi
      obtain rfl := Option.some.inj hi
      omega
    · have := h.2 k i (by omega) hi hr'; omega⟩
set_option maxHeartbeats 2000000 in
set_option maxRecDepth 100000 in
theorem rrunning (B xb : Nat) (h : RG) (a : A) (w : World) (r : RRep B xb h a w) (gd : Good a) :
    Calls Try.prog 28 #[ptr xb] w fun e w' => e = .returned (.int .i64 (runF a)) ∧ Below w.heap.size w w' := by
  obtain ⟨ta, tc, htv⟩ := own_form r.trow
  have HTV := Lib.hid htv
  have R := Lib.hid r
  have GD := Lib.hid gd
  have hl : a.tids.length ≤ 20 := nodup_bound 20 a.tids gd.tnd (fun x hx => gd.trng x hx)
  clear r gd htv
  go_enter Try.func28, Try.ntmps28
  go_wp2
  go_loopw [3, 4, 5] (fun u1 u2 i wr => ∃ (n : Nat) (id pri : Int), n ≤ a.tids.length ∧ i = .int .i64 n ∧ u1 = .int .i64 id ∧ u2 = .int .i64 pri ∧ 0 ≤ pri ∧ RBest a n id pri ∧ Below w.heap.size w wr) (fun _ _ i _ => a.tids.length - (intOf i).toNat)
  case atStart => exact ⟨0, 0, 0, Nat.zero_le _, rfl, rfl, rfl, by decide, ⟨.inl ⟨rfl, rfl⟩, fun k i hk => absurd hk (by omega)⟩, Below.refl _ _⟩
  case round =>
    obtain ⟨n, id, pri, hn, rfl, rfl, rfl, hp0, hbest, hb⟩ := hrel
    have rr := R.out.below hb
    have k0 : wr.cell? ⟨xb, 0, none⟩ = some (.slice ta a.tids.length tc) := by rw [cell_of rr.blk]; simp [rcells, HTV.out]
    have HB := Lib.hid hb
    have HBEST := Lib.hid hbest
    clear hb hbest
    by_cases hlt : n < a.tids.length
    · have hd : decide ((n : Int) < (a.tids.length : Int)) = true := by simpa using hlt
      obtain ⟨x, hx⟩ : ∃ x, a.tids[n]? = some x := ⟨_, List.getElem?_eq_getElem hlt⟩
      obtain ⟨g, c, hv, _, hc⟩ := row_cells (f := rtc a h.qv) (sz := 7) (fun _ => rfl) rr.trow hx
      rw [HTV.out] at hv
      simp only [Value.slice.injEq] at hv
      obtain ⟨rfl, -, rfl⟩ := hv
      have q0 : wr.cell? ⟨g, n * 7, none⟩ = some (.int .i64 x) := hc 0 (by omega)
      have q1 : wr.cell? ⟨g, n * 7 + 1, none⟩ = some (.int .i64 (a.tk x).pri) := hc 1 (by omega)
      have q2 : wr.cell? ⟨g, n * 7 + 2, none⟩ = some (.bool (a.tk x).held) := hc 2 (by omega)
      have q3 : wr.cell? ⟨g, n * 7 + 3, none⟩ = some (.bool (a.tk x).waiting) := hc 3 (by omega)
      have q4 : wr.cell? ⟨g, n * 7 + 4, none⟩ = some (.int .i64 (a.tk x).forr) := hc 4 (by omega)
      have q5 : wr.cell? ⟨g, n * 7 + 5, none⟩ = some (.int .i64 (a.tk x).flags) := hc 5 (by omega)
      have q6 : wr.cell? ⟨g, n * 7 + 6, none⟩ = some (h.qv x) := hc 6 (by omega)
      obtain ⟨qa, qc, hq⟩ := own_form (rr.row x (.inl (List.mem_of_getElem? hx)))
      rw [hq] at q6
      have HX := Lib.hid hx
      clear hc hx hq rr
      cases hh : (a.tk x).held with
      | true =>
        rw [hh] at q2
        have HR := Lib.hid (show runnable (a.tk x) = true → (a.tk x).pri ≤ pri from fun hr => by unfold runnable at hr; rw [hh] at hr; cases hr)
        clear hh
        go_wp2_with fail
        go_roundw
        case rel => exact ⟨n + 1, id, pri, by omega, by go_num, rfl, rfl, hp0, HBEST.out.skip HX.out HR.out, HB.out.alloc HB.out.size _⟩
        case measure => simp [intOf]; omega
      | false =>
        rw [hh] at q2
        cases hw : (a.tk x).waiting with
        | true =>
          rw [hw] at q3
          have HR := Lib.hid (show runnable (a.tk x) = true → (a.tk x).pri ≤ pri from fun hr => by unfold runnable at hr; rw [hw] at hr; simp at hr)
          clear hh hw
          go_wp2_with fail
          go_roundw
          case rel => exact ⟨n + 1, id, pri, by omega, by go_num, rfl, rfl, hp0, HBEST.out.skip HX.out HR.out, HB.out.alloc HB.out.size _⟩
          case measure => simp [intOf]; omega
        | false =>
          rw [hw] at q3
          have HRU := Lib.hid (show runnable (a.tk x) = true by unfold runnable; rw [hh, hw]; rfl)
          clear hh hw
          by_cases hpp : pri < (a.tk x).pri
          · have hd2 : decide (pri < (a.tk x).pri) = true := by simp [hpp]
            have HPP := Lib.hid hpp
            clear hpp
            go_wp2_with fail
            go_roundw
            case rel => exact ⟨n + 1, x, (a.tk x).pri, by omega, by go_num, rfl, rfl, by have := HPP.out; omega, HBEST.out.take hp0 HX.out HRU.out HPP.out, HB.out.alloc HB.out.size _⟩
            case measure => simp [intOf]; omega
          · have hd2 : decide (pri < (a.tk x).pri) = false := by simp; omega
            have HPP := Lib.hid (show (a.tk x).pri ≤ pri by omega)
            clear hpp
            go_wp2_with fail
            go_roundw
            case rel => exact ⟨n + 1, id, pri, by omega, by go_num, rfl, rfl, hp0, HBEST.out.skip HX.out (fun _ => HPP.out), HB.out.alloc HB.out.size _⟩
            case measure => simp [intOf]; omega
    · have hnl : n = a.tids.length := by omega
      subst hnl
      have hd : decide ((a.tids.length : Int) < (a.tids.length : Int)) = false := by simp
      clear rr
      go_wp2_with fail
      go_ret
      refine ⟨?_, HB.out⟩
      rw [← isRun_eq GD.out HBEST.out.isRun]
      rfl
end Go.Proofs.Ytkmgbnklfnjfjaa.Ker
