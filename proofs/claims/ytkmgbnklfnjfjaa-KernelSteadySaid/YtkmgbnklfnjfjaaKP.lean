import Derived.Test.YtkmgbnklfnjfjaaKO
/-! Contracts: maps.DeleteFunc over the packets. -/
namespace Go.Proofs.Ytkmgbnklfnjfjaa.Ker
open Go.RowKit Go.Maps
open Go.ChangeMaps (setBlock)

set_option maxHeartbeats 400000 in
set_option maxRecDepth 100000 in
theorem closure71 (w : World) (tc tb pb : Nat) (k i o : Int) (h1 : w.cell? ⟨tc, 0, none⟩ = some (ptr tb)) (h2 : w.cell? ⟨tb, 0, none⟩ = some (.int .i64 i)) (h3 : w.cell? ⟨pb, 3, none⟩ = some (.int .i64 o)) :
    Calls Try.prog 71 #[.int .i64 k, ptr pb, ptr tc] w fun e w' => e = .returned (.bool (o == i)) ∧ ∃ n, w' = w.drewN n := by
  go_enter Try.func71, Try.ntmps71
  go_wp2
  go_quiet (fail)
  go_wp2
  go_ret
  exact ⟨rfl, _, rfl⟩

/-- What is left in the map while it is gone through. -/
def keptP (a : A) (i : Int) (left : List (Int × Nat)) : List Int := a.pids.filter fun p => decide (p ∈ left.map (·.1)) || ((a.pk p).own != i)
theorem keptP_step {a : A} {i : Int} {left : List (Int × Nat)} {p : Int} (hp : p ∈ left.map (·.1)) :
    keptP a i (left.filter (fun q => q.1 != p)) = if (a.pk p).own = i then (keptP a i left).filter (fun z => z != p) else keptP a i left := by
  have hm : ∀ z, z ∈ (left.filter (fun q => q.1 != p)).map (·.1) ↔ z ∈ left.map (·.1) ∧ z ≠ p := by
    intro z
    simp only [List.mem_map, List.mem_filter, bne_iff_ne]
    constructor
    · rintro ⟨q, ⟨h1, h2⟩, rfl⟩
      exact ⟨⟨q, h1, rfl⟩, h2⟩
    · rintro ⟨⟨q, h1, rfl⟩, h2⟩
      exact ⟨q, ⟨h1, h2⟩, rfl⟩
  split
  · rename_i ho
    unfold keptP
    rw [List.filter_filter]
    apply List.filter_congr
    intro z hz
    by_cases hzp : z = p
    · subst hzp
      have : ¬ z ∈ (left.filter (fun q => q.1 != z)).map (·.1) := fun h => ((hm z).1 h).2 rfl
      simp [this, ho]
    · have e1 : decide (z ∈ (left.filter (fun q => q.1 != p)).map (·.1)) = decide (z ∈ left.map (·.1)) := by
        rw [decide_eq_decide]
        rw [hm]
        exact ⟨fun h => h.1, fun h => ⟨h, hzp⟩⟩
      have e2 : (z != p) = true := by simpa using hzp
      rw [e1, e2, Bool.true_and]
  · rename_i ho
    unfold keptP
    apply List.filter_congr
    intro z hz
    by_cases hzp : z = p
    · subst hzp
      have : ((a.pk z).own != i) = true := by simpa using ho
      rw [this, Bool.or_true, Bool.or_true]
    · have e1 : decide (z ∈ (left.filter (fun q => q.1 != p)).map (·.1)) = decide (z ∈ left.map (·.1)) := by
        rw [decide_eq_decide, hm]
        exact ⟨fun h => h.1, fun h => ⟨h, hzp⟩⟩
      rw [e1]

set_option maxHeartbeats 1000000 in
set_option maxRecDepth 100000 in
theorem deleteFunc_any (B kb : Nat) (g : G) (a : A) (w : World) (h : KRep B kb g a w) (hnd : a.pids.Nodup) (i : Int) (tc tb : Nat) (ti : Array Value) (htc : w.heap[tc]? = some (.cells #[ptr tb] 71 (0, 0))) (htb : w.heap[tb]? = some (.cells ti 76 (0, 0))) (ht0 : ti[0]? = some (.int .i64 i)) :
    Calls Try.prog 70 #[.map (some g.pm), .func (.func 71) #[] #[ptr tc]] w fun e w' => e = .returned (.tuple #[]) ∧ Touch w w' (fun k => k = g.pm) ∧ mapAt w' g.pm ((a.pids.filter fun p => (a.pk p).own != i).map fun p => (p, g.pb p)) := by
  obtain ⟨o, hrange, hit⟩ := run_range h.pmap 68 84 und68
  obtain ⟨w3, hw3⟩ : ∃ w3, w3 = w.alloc o := ⟨_, rfl⟩
  rw [← hw3] at hrange hit
  have hb3 : Touch w w3 (fun k => k = g.pm) := by rw [hw3]; exact Touch.alloc _ _ _
  have IT := Lib.hid hit
  have HT3 := Lib.hid hb3
  have H := Lib.hid h
  have HN := Lib.hid hnd
  have HTC := Lib.hid htc
  have HTB := Lib.hid htb
  have HT0 := Lib.hid ht0
  have hpl := h.pmap.lt
  have hne1 : tc ≠ g.pm := by
    obtain ⟨_, _, he, _⟩ := h.pmap
    exact ne_obj htc he (by simp)
  have hne2 : tb ≠ g.pm := by
    obtain ⟨_, _, he, _⟩ := h.pmap
    exact ne_obj htb he (by simp)
  have start : keptP a i (a.pids.map fun p => (p, g.pb p)) = a.pids := by
    unfold keptP
    rw [List.filter_eq_self]
    intro z hz
    have : z ∈ (a.pids.map fun p => (p, g.pb p)).map (·.1) := by simpa [Function.comp_def] using hz
    simp only [this, decide_true, Bool.true_or]
  have IT2 : Hid (iterAt w3 w.heap.size g.pm ((keptP a i (a.pids.map fun p => (p, g.pb p))).map fun p => (p, g.pb p)) (a.pids.map fun p => (p, g.pb p))) := by
    rw [start]
    exact IT.out
  clear hw3 hit h hnd htc htb ht0 start hb3
  go_enter Try.func70, Try.ntmps70
  go_wp2_with fail
  go_loopw [4, 5] (fun _ _ wr => ∃ left, iterAt wr w.heap.size g.pm ((keptP a i left).map fun p => (p, g.pb p)) left ∧ (left.map (·.1)).Nodup ∧ (∀ q ∈ left, q.1 ∈ a.pids ∧ q.2 = g.pb q.1) ∧ Touch w wr (fun k => k = g.pm))
    (fun _ _ wr => leftCount wr g.pm w.heap.size)
  case atStart =>
    refine ⟨_, IT2.out, by simpa [Function.comp_def] using HN.out, ?_, HT3.out⟩
    intro q hq
    obtain ⟨p, hp, rfl⟩ := List.mem_map.1 hq
    exact ⟨hp, rfl⟩
  case round =>
    obtain ⟨left, hit, hnd, hall, hT⟩ := hrel
    rcases run_next hit hnd 0 with ⟨rfl, hnext⟩ | ⟨p, hp, w1, hw1, o1, hnext, hit1, hentry⟩
    · have HT := Lib.hid hT
      have HI := Lib.hid hit
      clear hall hT hit hnd
      go_wp2_with fail
      go_end0
      refine ⟨rfl, HT.out, ?_⟩
      have := HI.out.map
      simpa [keptP] using this
    · obtain ⟨W, hW⟩ : ∃ W, W = setBlock w1 w.heap.size o1 := ⟨_, rfl⟩
      rw [← hW] at hnext hit1 hentry
      have hTr : Touch wr W (fun k => k = w.heap.size) := by
        rw [hW]
        rcases hw1 with rfl | rfl
        · exact Touch.setB _ _ _
        · exact (Touch.drew wr _).trans (Touch.setB _ _ _)
      have hTW : Touch w W (fun k => k = g.pm) := hT.andThen hTr (fun j hj he => by omega)
      obtain ⟨p, pb⟩ := p
      have hpa := hall _ hp
      simp only at hpa
      obtain ⟨hpp, rfl⟩ := hpa
      have hpk := H.out.pack p hpp
      have hpne : g.pb p ≠ g.pm := by
        obtain ⟨_, _, he, _⟩ := H.out.pmap
        exact ne_obj hpk he (by simp)
      have C := Lib.hid (closure71 W tc tb (g.pb p) p i (a.pk p).own (by rw [cell_of ((hTW.block _ (blt HTC.out) hne1).trans HTC.out)]; rfl) (by rw [cell_of ((hTW.block _ (blt HTB.out) hne2).trans HTB.out)]; exact HT0.out) (by rw [cell_of ((hTW.block _ (blt hpk) hpne).trans hpk)]; rfl))
      have hcount : leftCount W g.pm w.heap.size < leftCount wr g.pm w.heap.size := by
        rw [hit1.count, hit.count]
        exact filter_lt hp
      have hpl : p ∈ left.map (·.1) := List.mem_map.2 ⟨_, hp, rfl⟩
      have hst := keptP_step (a := a) (i := i) hpl
      have HNF := Lib.hid (List.Nodup.sublist (List.Sublist.map (fun q : Int × Nat => q.1) (List.filter_sublist (p := fun q : Int × Nat => q.1 != p) (l := left))) hnd)
      have HAL := Lib.hid (show ∀ q ∈ left.filter (fun q => q.1 != p), q.1 ∈ a.pids ∧ q.2 = g.pb q.1 from fun q hq => hall q (List.mem_filter.1 hq).1)
      have hkn : (((keptP a i left).map fun p => (p, g.pb p)).map (·.1)).Nodup := by
        have : ((keptP a i left).map fun p => (p, g.pb p)).map (·.1) = keptP a i left := by simp [Function.comp_def]
        rw [this]
        exact HN.out.sublist List.filter_sublist
      have hkm : p ∈ ((keptP a i left).map fun p => (p, g.pb p)).map (·.1) := by
        have : ((keptP a i left).map fun p => (p, g.pb p)).map (·.1) = keptP a i left := by simp [Function.comp_def]
        rw [this]
        unfold keptP
        exact List.mem_filter.2 ⟨hpp, by simp only [hpl, decide_true, Bool.true_or]⟩
      have hpn : p ∉ (left.filter (fun q => q.1 != p)).map (·.1) := by
        intro hm
        obtain ⟨q, hq, he⟩ := List.mem_map.1 hm
        have := (List.mem_filter.1 hq).2
        simp [he] at this
      have HI1 := Lib.hid hit1
      have HTW := Lib.hid hTW
      have HST := Lib.hid hst
      have HKN := Lib.hid hkn
      have HKM := Lib.hid hkm
      have HPN := Lib.hid hpn
      clear hT hit hnd hall hp hw1 hW hTr hTW hpp hpk hpne hpl hst hit1 hkn hkm hpn
      by_cases ho : (a.pk p).own = i
      · have hb : ((a.pk p).own == i) = true := by simpa using ho
        have HO := Lib.hid ho
        clear ho
        go_wp2_with (go_at_call 71; (with_reducible refine C.out.mono ?_); rintro e w' ⟨rfl, n, rfl⟩; (obtain ⟨o2, hdel, hit2⟩ := iter_del (w := W.drewN n) (HI1.out.keep (w' := W.drewN n) rfl rfl) HKN.out 68 84 und68 p HKM.out HPN.out 3 0); have HI2 := Lib.hid hit2; clear hit2)
        go_roundw
        case rel =>
          refine ⟨_, ?_, HNF.out, HAL.out, HTW.out.trans ((Touch.drewN W n _).trans (Touch.setB _ _ _))⟩
          rw [HST.out, if_pos HO.out, ← filter_pairs]
          exact HI2.out
        case measure =>
          rw [HI2.out.count, ← HI1.out.count]
          exact hcount
      · have hb : ((a.pk p).own == i) = false := by simpa using ho
        have HO := Lib.hid ho
        clear ho
        go_wp2_with (go_at_call 71; (with_reducible refine C.out.mono ?_); rintro e w' ⟨rfl, n, rfl⟩)
        go_roundw
        case rel =>
          refine ⟨_, ?_, HNF.out, HAL.out, HTW.out.trans (Touch.drewN W n _)⟩
          rw [HST.out, if_neg HO.out]
          exact HI1.out.keep rfl rfl
        case measure => exact hcount
end Go.Proofs.Ytkmgbnklfnjfjaa.Ker
