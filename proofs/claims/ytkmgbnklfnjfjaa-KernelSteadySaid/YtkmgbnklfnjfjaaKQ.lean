import Derived.Test.YtkmgbnklfnjfjaaKP
/-! Contract: remove. -/
namespace Go.Proofs.Ytkmgbnklfnjfjaa.Ker
open Go.RowKit Go.Maps
open Go.ChangeMaps (setBlock)

set_option maxHeartbeats 4000000 in
set_option maxRecDepth 100000 in
theorem remove_none (B kb : Nat) (g : G) (a : A) (w : World) (h : KRep B kb g a w) (cb : Nat) (x y : Int) (v : Value) (hc : callAt w cb kb v x y) (hx : x ∉ a.tids) :
    Calls Try.prog 41 #[ptr cb] w (Gives B kb w 0 190 a) := by
  have c0 := hc.c0
  have c2 := hc.c2
  have k0 := h.k0
  have hl : (Instr.lookup 66 (.map (some g.tm)) (.int .i64 x) false).run Try.prog w.drew = .ok (.pointer none) w.drew := by
    have := (h.keep (w' := w.drew) (fun _ _ => rfl)).lookT x
    rwa [if_neg hx] at this
  obtain ⟨C, hCd⟩ : ∃ C : World → Prop, ∀ z, C z ↔ (z.cell? ⟨cb, 0, none⟩ = some (ptr kb) ∧ z.cell? ⟨cb, 2, none⟩ = some (.int .i64 x) ∧ z.cell? ⟨kb, 0, none⟩ = some (.map (some g.tm)) ∧ (Instr.lookup 66 (.map (some g.tm)) (.int .i64 x) false).run Try.prog z = .ok (.pointer none) z) := ⟨_, fun _ => Iff.rfl⟩
  have s0 : ∀ s : {z : World // C z}, s.1.cell? ⟨cb, 0, none⟩ = some (ptr kb) := fun s => ((hCd s.1).1 s.2).1
  have s2 : ∀ s : {z : World // C z}, s.1.cell? ⟨cb, 2, none⟩ = some (.int .i64 x) := fun s => ((hCd s.1).1 s.2).2.1
  have sk : ∀ s : {z : World // C z}, s.1.cell? ⟨kb, 0, none⟩ = some (.map (some g.tm)) := fun s => ((hCd s.1).1 s.2).2.2.1
  have sl : ∀ s : {z : World // C z}, (Instr.lookup 66 (.map (some g.tm)) (.int .i64 x) false).run Try.prog s.1 = .ok (.pointer none) s.1 := fun s => ((hCd s.1).1 s.2).2.2.2
  have hC0 : C w.drew := (hCd _).2 ⟨c0, c2, k0, hl⟩
  haveI : Nonempty {z : World // C z} := ⟨⟨_, hC0⟩⟩
  have hC1 : C (w.drew.alloc (.cells #[.pointer none] 71)) := by
    refine (hCd _).2 ⟨Lib.cell?_alloc_some (W := w.drew) _ c0, Lib.cell?_alloc_some (W := w.drew) _ c2, Lib.cell?_alloc_some (W := w.drew) _ k0, ?_⟩
    have := (h.keep (w' := w.drew.alloc (.cells #[.pointer none] 71)) (fun k hk => Below.heap_alloc w.drew _ _ hk)).lookT x
    rwa [if_neg hx] at this
  have H := Lib.hid h
  have HCC := Lib.hid hc
  have HX := Lib.hid hx
  have HC1 := Lib.hid hC1
  have hB : B ≤ w.heap.size := Nat.le_of_lt (Nat.lt_of_le_of_lt h.low.1 (blt h.ker))
  clear h hc hx hCd hC1
  go_enter Try.func41, Try.ntmps41
  go_wp2
  refine Mix.wp_region_mix C [12, 13] (by kernel_rfl) (by kernel_rfl) hC0 ?_
  repeat (refine Mix.mix_still rfl (fun K hK => ?_); go_simp; refine hK _ ?_; clear hK K)
  refine Mix.mix_eff rfl ?_
  go_wp2
  refine ⟨HC1.out, ?_⟩
  refine Mix.mix_eff rfl ?_
  go_wp2
  refine Mix.mix_nil ?_
  go_wp2
  go_ret2
  exact ⟨rfl, ((Bel.refl B kb w).alloc hB H.out.klt _).drew, g, H.out.keep (fun k hk => Below.heap_alloc w _ _ hk)⟩
set_option maxHeartbeats 4000000 in
set_option maxRecDepth 100000 in
theorem remove_busy (B kb : Nat) (g : G) (a : A) (w : World) (h : KRep B kb g a w) (cb : Nat) (x y : Int) (v : Value) (hc : callAt w cb kb v x y) (hx : x ∈ a.tids) (hq : a.q x ≠ []) :
    Calls Try.prog 41 #[ptr cb] w (Gives B kb w 0 5 a) := by
  have c0 := hc.c0
  have c2 := hc.c2
  have k0 := h.k0
  have hl : (Instr.lookup 66 (.map (some g.tm)) (.int .i64 x) false).run Try.prog w.drew = .ok (ptr (g.tb x)) w.drew := by
    have := (h.keep (w' := w.drew) (fun _ _ => rfl)).lookT x
    rwa [if_pos hx] at this
  obtain ⟨C, hCd⟩ : ∃ C : World → Prop, ∀ z, C z ↔ (z.cell? ⟨cb, 0, none⟩ = some (ptr kb) ∧ z.cell? ⟨cb, 2, none⟩ = some (.int .i64 x) ∧ z.cell? ⟨kb, 0, none⟩ = some (.map (some g.tm)) ∧ (Instr.lookup 66 (.map (some g.tm)) (.int .i64 x) false).run Try.prog z = .ok (ptr (g.tb x)) z) := ⟨_, fun _ => Iff.rfl⟩
  have s0 : ∀ s : {z : World // C z}, s.1.cell? ⟨cb, 0, none⟩ = some (ptr kb) := fun s => ((hCd s.1).1 s.2).1
  have s2 : ∀ s : {z : World // C z}, s.1.cell? ⟨cb, 2, none⟩ = some (.int .i64 x) := fun s => ((hCd s.1).1 s.2).2.1
  have sk : ∀ s : {z : World // C z}, s.1.cell? ⟨kb, 0, none⟩ = some (.map (some g.tm)) := fun s => ((hCd s.1).1 s.2).2.2.1
  have sl : ∀ s : {z : World // C z}, (Instr.lookup 66 (.map (some g.tm)) (.int .i64 x) false).run Try.prog s.1 = .ok (ptr (g.tb x)) s.1 := fun s => ((hCd s.1).1 s.2).2.2.2
  have hC0 : C w.drew := (hCd _).2 ⟨c0, c2, k0, hl⟩
  haveI : Nonempty {z : World // C z} := ⟨⟨_, hC0⟩⟩
  have hC1 : C (w.drew.alloc (.cells #[.pointer none] 71)) := by
    refine (hCd _).2 ⟨Lib.cell?_alloc_some (W := w.drew) _ c0, Lib.cell?_alloc_some (W := w.drew) _ c2, Lib.cell?_alloc_some (W := w.drew) _ k0, ?_⟩
    have := (h.keep (w' := w.drew.alloc (.cells #[.pointer none] 71)) (fun k hk => Below.heap_alloc w.drew _ _ hk)).lookT x
    rwa [if_pos hx] at this
  have H := Lib.hid h
  have HCC := Lib.hid hc
  have HX := Lib.hid hx
  have HC1 := Lib.hid hC1
  have hB : B ≤ w.heap.size := Nat.le_of_lt (Nat.lt_of_le_of_lt h.low.1 (blt h.ker))
  clear h hc hx hCd hC1
  go_enter Try.func41, Try.ntmps41
  go_wp2
  refine Mix.wp_region_mix C [12, 13] (by kernel_rfl) (by kernel_rfl) hC0 ?_
  repeat (refine Mix.mix_still rfl (fun K hK => ?_); go_simp; refine hK _ ?_; clear hK K)
  refine Mix.mix_eff rfl ?_
  go_wp2
  refine ⟨HC1.out, ?_⟩
  refine Mix.mix_eff rfl ?_
  go_wp2
  refine Mix.mix_nil ?_
  obtain ⟨W1, hW1⟩ : ∃ W1, W1 = (w.alloc (.cells #[ptr (g.tb x)] 71)).drew := ⟨_, rfl⟩
  rw [← hW1]
  have hT1 : Touch w W1 (fun _ => False) := by rw [hW1]; exact (Touch.alloc w _ _).trans (Touch.drew _ _)
  have h1 : KRep B kb g a W1 := H.out.keep (fun k hk => hT1.block k hk id)
  have hc1 : callAt W1 cb kb v x y := (hT1.block _ (blt HCC.out) id).trans HCC.out
  have htc : W1.heap[w.heap.size]? = some (.cells #[ptr (g.tb x)] 71 (0, 0)) := by rw [hW1]; exact alloc_new w _
  have hs1 : W1.heap.size = w.heap.size + 1 := by rw [hW1]; show (w.alloc _).heap.size = _; simp
  have hb1 : Bel B kb w W1 := hT1.bel hB (fun _ h => h.elim) H.out.klt
  clear hW1 c0 c2 k0 hl s0 s2 sk sl hC0 HC1
  have c0 := hc1.c0
  have ct : W1.cell? ⟨w.heap.size, 0, none⟩ = some (ptr (g.tb x)) := by rw [cell_of htc]; rfl
  have H1 := Lib.hid h1
  have HC1 := Lib.hid hc1
  have HTC := Lib.hid htc
  have HB1 := Lib.hid hb1
  have HT1 := Lib.hid hT1
  have HS1 := Lib.hid hs1
  have hrow := h1.row x (.inl HX.out)
  have hlen : 0 < (a.q x).length := List.length_pos_iff.2 hq
  obtain ⟨r, cap, hv, _, _, _, _, _, _, _, _⟩ := own_cell hrow hlen
  have t7 : W1.cell? ⟨g.tb x, 7, none⟩ = some (.slice (some ⟨r, 0, none⟩) (a.q x).length cap) := by rw [cell_of (h1.task x HX.out)]; simp [tcells, hv]
  have hd : decide (0 < (a.q x).length) = true := by simpa using hlen
  have hm : (a.q x).length ≤ 9223372036854775807 := by
    have := hrow.1
    unfold maxLen at *
    omega
  clear h1 hc1 htc hb1 hT1 hs1 hrow hv hq
  go_wp2
  go_ret2
  exact ⟨rfl, HB1.out, g, H1.out⟩
/-- A packet of the task is in a queue. -/
def busyP (a : A) (x p : Int) : Bool := (a.pk p).own == x && (a.pk p).at_ != 0
set_option maxHeartbeats 4000000 in
set_option maxRecDepth 100000 in
theorem remove_queued (B kb : Nat) (g : G) (a : A) (w : World) (h : KRep B kb g a w) (cb : Nat) (x y : Int) (v : Value) (hc : callAt w cb kb v x y) (hpn : a.pids.Nodup) (hx : x ∈ a.tids) (hq : a.q x = []) (hbz0 : ∃ p ∈ a.pids, busyP a x p = true) :
    Calls Try.prog 41 #[ptr cb] w (Gives B kb w 0 5 a) := by
  have c0 := hc.c0
  have c2 := hc.c2
  have k0 := h.k0
  have hl : (Instr.lookup 66 (.map (some g.tm)) (.int .i64 x) false).run Try.prog w.drew = .ok (ptr (g.tb x)) w.drew := by
    have := (h.keep (w' := w.drew) (fun _ _ => rfl)).lookT x
    rwa [if_pos hx] at this
  obtain ⟨C, hCd⟩ : ∃ C : World → Prop, ∀ z, C z ↔ (z.cell? ⟨cb, 0, none⟩ = some (ptr kb) ∧ z.cell? ⟨cb, 2, none⟩ = some (.int .i64 x) ∧ z.cell? ⟨kb, 0, none⟩ = some (.map (some g.tm)) ∧ (Instr.lookup 66 (.map (some g.tm)) (.int .i64 x) false).run Try.prog z = .ok (ptr (g.tb x)) z) := ⟨_, fun _ => Iff.rfl⟩
  have s0 : ∀ s : {z : World // C z}, s.1.cell? ⟨cb, 0, none⟩ = some (ptr kb) := fun s => ((hCd s.1).1 s.2).1
  have s2 : ∀ s : {z : World // C z}, s.1.cell? ⟨cb, 2, none⟩ = some (.int .i64 x) := fun s => ((hCd s.1).1 s.2).2.1
  have sk : ∀ s : {z : World // C z}, s.1.cell? ⟨kb, 0, none⟩ = some (.map (some g.tm)) := fun s => ((hCd s.1).1 s.2).2.2.1
  have sl : ∀ s : {z : World // C z}, (Instr.lookup 66 (.map (some g.tm)) (.int .i64 x) false).run Try.prog s.1 = .ok (ptr (g.tb x)) s.1 := fun s => ((hCd s.1).1 s.2).2.2.2
  have hC0 : C w.drew := (hCd _).2 ⟨c0, c2, k0, hl⟩
  haveI : Nonempty {z : World // C z} := ⟨⟨_, hC0⟩⟩
  have hC1 : C (w.drew.alloc (.cells #[.pointer none] 71)) := by
    refine (hCd _).2 ⟨Lib.cell?_alloc_some (W := w.drew) _ c0, Lib.cell?_alloc_some (W := w.drew) _ c2, Lib.cell?_alloc_some (W := w.drew) _ k0, ?_⟩
    have := (h.keep (w' := w.drew.alloc (.cells #[.pointer none] 71)) (fun k hk => Below.heap_alloc w.drew _ _ hk)).lookT x
    rwa [if_pos hx] at this
  have H := Lib.hid h
  have HCC := Lib.hid hc
  have HX := Lib.hid hx
  have HC1 := Lib.hid hC1
  have hB : B ≤ w.heap.size := Nat.le_of_lt (Nat.lt_of_le_of_lt h.low.1 (blt h.ker))
  clear h hc hx hCd hC1
  go_enter Try.func41, Try.ntmps41
  go_wp2
  refine Mix.wp_region_mix C [12, 13] (by kernel_rfl) (by kernel_rfl) hC0 ?_
  repeat (refine Mix.mix_still rfl (fun K hK => ?_); go_simp; refine hK _ ?_; clear hK K)
  refine Mix.mix_eff rfl ?_
  go_wp2
  refine ⟨HC1.out, ?_⟩
  refine Mix.mix_eff rfl ?_
  go_wp2
  refine Mix.mix_nil ?_
  have HBZ := Lib.hid hbz0
  clear hbz0
  obtain ⟨W1, hW1⟩ : ∃ W1, W1 = (w.alloc (.cells #[ptr (g.tb x)] 71)).drew := ⟨_, rfl⟩
  rw [← hW1]
  have hT1 : Touch w W1 (fun _ => False) := by rw [hW1]; exact (Touch.alloc w _ _).trans (Touch.drew _ _)
  have h1 : KRep B kb g a W1 := H.out.keep (fun k hk => hT1.block k hk id)
  have hc1 : callAt W1 cb kb v x y := (hT1.block _ (blt HCC.out) id).trans HCC.out
  have htc : W1.heap[w.heap.size]? = some (.cells #[ptr (g.tb x)] 71 (0, 0)) := by rw [hW1]; exact alloc_new w _
  have hs1 : W1.heap.size = w.heap.size + 1 := by rw [hW1]; show (w.alloc _).heap.size = _; simp
  have hb1 : Bel B kb w W1 := hT1.bel hB (fun _ h => h.elim) H.out.klt
  clear hW1 c0 c2 k0 hl s0 s2 sk sl hC0 HC1
  have c0 := hc1.c0
  have ct : W1.cell? ⟨w.heap.size, 0, none⟩ = some (ptr (g.tb x)) := by rw [cell_of htc]; rfl
  have H1 := Lib.hid h1
  have HC1 := Lib.hid hc1
  have HTC := Lib.hid htc
  have HB1 := Lib.hid hb1
  have HT1 := Lib.hid hT1
  have HS1 := Lib.hid hs1
  have hrow := h1.row x (.inl HX.out)
  rw [hq] at hrow
  obtain ⟨va, vc, hv⟩ := own_form hrow
  have t7 : W1.cell? ⟨g.tb x, 7, none⟩ = some (.slice va 0 vc) := by rw [cell_of (h1.task x HX.out)]; simp [tcells, hv]
  have k2 := h1.k2
  obtain ⟨o, hrange, hit⟩ := run_range h1.pmap 68 84 und68
  obtain ⟨w3, hw3⟩ : ∃ w3, w3 = W1.alloc o := ⟨_, rfl⟩
  rw [← hw3] at hrange hit
  have hT3 : Touch W1 w3 (fun _ => False) := by rw [hw3]; exact Touch.alloc _ _ _
  have IT := Lib.hid hit
  have HT3 := Lib.hid hT3
  have HN := Lib.hid hpn
  clear h1 hc1 htc hb1 hT1 hs1 hrow hv hq hw3 hit hT3 hpn
  go_wp2
  go_loopw [6] (fun _ wr => ∃ left, iterAt wr W1.heap.size g.pm (a.pids.map fun p => (p, g.pb p)) left ∧ (left.map (·.1)).Nodup ∧ (∀ q ∈ left, q.1 ∈ a.pids ∧ q.2 = g.pb q.1) ∧ Touch W1 wr (fun _ => False) ∧ ∀ p ∈ a.pids, busyP a x p = true → p ∈ left.map (·.1))
    (fun _ wr => leftCount wr g.pm W1.heap.size)
  case atStart =>
    refine ⟨_, IT.out, by simpa [Function.comp_def] using HN.out, ?_, HT3.out, ?_⟩
    · intro q hq
      obtain ⟨p, hp, rfl⟩ := List.mem_map.1 hq
      exact ⟨hp, rfl⟩
    · intro p hp _
      simpa [Function.comp_def] using hp
  case round =>
    obtain ⟨left, hit, hnd, hall, hT, hbz⟩ := hrel
    rcases run_next hit hnd 0 with ⟨rfl, hnext⟩ | ⟨p, hp, w1, hw1, o1, hnext, hit1, hentry⟩
    · obtain ⟨p, hp, hbp⟩ := HBZ.out
      exact absurd (hbz p hp hbp) (by simp)
    · obtain ⟨W, hW⟩ : ∃ W, W = setBlock w1 W1.heap.size o1 := ⟨_, rfl⟩
      rw [← hW] at hnext hit1 hentry
      have hTr : Touch wr W (fun k => k = W1.heap.size) := by
        rw [hW]
        rcases hw1 with rfl | rfl
        · exact Touch.setB _ _ _
        · exact (Touch.drew wr _).trans (Touch.setB _ _ _)
      have hTW : Touch W1 W (fun _ => False) := hT.andThen hTr (fun j hj he => by omega)
      obtain ⟨p, pb⟩ := p
      have hpa := hall _ hp
      simp only at hpa
      obtain ⟨hpp, rfl⟩ := hpa
      have hkW : KRep B kb g a W := H1.out.keep (fun k hk => hTW.block k hk id)
      have p3 := hkW.p3 hpp
      have p4 := hkW.p4 hpp
      have t0 := hkW.t0 HX.out
      have ct' : W.cell? ⟨w.heap.size, 0, none⟩ = some (ptr (g.tb x)) := by rw [cell_of ((hTW.block _ (blt HTC.out) id).trans HTC.out)]; rfl
      have hcount : leftCount W g.pm W1.heap.size < leftCount wr g.pm W1.heap.size := by
        rw [hit1.count, hit.count]
        exact filter_lt hp
      have HNF := Lib.hid (List.Nodup.sublist (List.Sublist.map (fun q : Int × Nat => q.1) (List.filter_sublist (p := fun q : Int × Nat => q.1 != p) (l := left))) hnd)
      have HAL := Lib.hid (show ∀ q ∈ left.filter (fun q => q.1 != p), q.1 ∈ a.pids ∧ q.2 = g.pb q.1 from fun q hq => hall q (List.mem_filter.1 hq).1)
      have HI1 := Lib.hid hit1
      have HTW := Lib.hid hTW
      have HPP := Lib.hid hpp
      have HHP := Lib.hid hp
      have HZ := Lib.hid (show busyP a x p = false → ∀ z ∈ a.pids, busyP a x z = true → z ∈ (left.filter (fun q => q.1 != p)).map (·.1) by
        intro hpf z hz hbz'
        obtain ⟨q, hq, he⟩ := List.mem_map.1 (hbz z hz hbz')
        refine List.mem_map.2 ⟨q, List.mem_filter.2 ⟨hq, ?_⟩, he⟩
        simp only [bne_iff_ne]
        intro e
        rw [he] at e
        subst e
        rw [hpf] at hbz'
        cases hbz')
      clear hT hit hnd hall hp hw1 hW hTr hTW hpp hit1 hkW hbz
      cases hb1 : (a.pk p).own == x with
      | false =>
        have HQ := Lib.hid hb1
        go_wp2_with fail
        go_quiet (fail)
        go_wp2_with fail
        go_roundw
        case rel => exact ⟨_, HI1.out, HNF.out, HAL.out, (HTW.out.trans (Touch.drewN W nq _)), HZ.out (by unfold busyP; rw [HQ.out]; rfl)⟩
        case measure => exact hcount
      | true =>
        have HQ := Lib.hid hb1
        cases hb2 : (a.pk p).at_ != 0 with
        | false =>
          have HQ2 := Lib.hid hb2
          go_wp2_with fail
          go_quiet (fail)
          go_wp2_with fail
          go_roundw
          case rel => exact ⟨_, HI1.out, HNF.out, HAL.out, (HTW.out.trans (Touch.drewN W nq _)), HZ.out (by unfold busyP; rw [HQ2.out]; exact Bool.and_false _)⟩
          case measure => exact hcount
        | true =>
          have HQ2 := Lib.hid hb2
          go_wp2_with fail
          go_quiet (fail)
          go_wp2_with fail
          go_ret2
          exact ⟨rfl, bel_drewN (HB1.out.trans (HTW.out.bel (Nat.le_trans hB HT1.out.size) (fun _ h => h.elim) H1.out.klt)) _, g, H1.out.keep (fun k hk => HTW.out.block k hk id)⟩

theorem wpList_del {ops : Array Oper} {rest : List Oper} {o : Oper} {a : Act} {w : World} {Q : Exit → Act → World → Prop} (hg : o.guard = none) (m k : Operand) (t tk e : TypeId) (ho : o.op = .call { callee := .builtin .delete, args := #[m, k], argTypes := #[t, tk] }) (ht : Try.prog.underlying t = some (.map 3 e)) {b : Nat} {kk : Int} {kvs : List (Int × Nat)}
    (hm : a.eval m = .map (some b)) (hk : a.eval k = .int .i64 kk) (hmap : mapAt w b kvs) (hn : (kvs.map (·.1)).Nodup)
    (h : ∀ o', mapAt (setBlock w b o') b (kvs.filter fun p => p.1 != kk) → wpList Try.prog ops Q rest (a.put o.dst (.tuple #[])) (setBlock w b o')) : wpList Try.prog ops Q (o :: rest) a w := by
  obtain ⟨o', hr, hmap'⟩ := run_del hmap hn t e ht kk tk o.type
  refine wpList_plain hg fun K hK => ?_
  unfold Oper.wp execOp
  simp only [ho, resolve, invoke, builtin, Sem.run_bind, Sem.run_pure, Result.andThen_ok, List.map_toArray, List.map_cons, List.map_nil, hm, hk, hr]
  exact hK _ _ (h o' hmap')

theorem KRep.congr_pk {B kb : Nat} {g : G} {a : A} {w : World} (h : KRep B kb g a w) (f : Int → Pk) (hf : ∀ p ∈ a.pids, f p = a.pk p) : KRep B kb g { a with pk := f } w :=
  ⟨h.ker, h.tmap, h.dmap, h.pmap, h.maps, h.task, h.dev, h.dinj, fun i hi => by simp only [hf i hi]; exact h.pack i hi, h.row, h.mrow, h.sep, h.low, h.tpos⟩

theorem KRep.setPacks {B kb : Nat} {g : G} {a : A} {w w' : World} (h : KRep B kb g a w) (f : Int → Pk) (ht : Touch w w' (fun k => ∃ p ∈ a.pids, k = g.pb p)) (hb : ∀ p ∈ a.pids, w'.heap[g.pb p]? = some (.cells (pcells p (f p)) 44 (0, 0))) :
    KRep B kb g { a with pk := f } w' := by
  have kp : ∀ {b o}, w.heap[b]? = some o → kindOf o ≠ 45 → w'.heap[b]? = some o := fun {b o} hb hk => keep_kind ht hb (fun o' hp hw => by
    obtain ⟨p, hp, rfl⟩ := hp
    rw [h.pack p hp] at hw
    cases hw
    exact fun e => hk e.symm)
  have rk : ∀ {e sz v n xs}, w.ownsRow B e sz v n xs → e ≠ 44 → w'.ownsRow B e sz v n xs := fun {e sz v n xs} ho he => own_keep ho (fun b hvb _ => by
    obtain ⟨_, cur, hc⟩ := own_block ho hvb
    rw [hc]
    exact kp hc (fun hh => he (Nat.succ.inj hh)))
  have mk : ∀ {b kvs}, mapAt w b kvs → mapAt w' b kvs := fun {b kvs} hm => by
    obtain ⟨es, c, h1, h2⟩ := hm
    exact ⟨es, c, kp h1 (by simp [kindOf]), h2⟩
  exact ⟨kp h.ker (by simp [kindOf]), mk h.tmap, mk h.dmap, mk h.pmap, h.maps, fun j hj => kp (h.task j hj) (by simp [kindOf]), fun j hj => kp (h.dev j hj) (by simp [kindOf]), h.dinj, hb, fun j hj => rk (h.row j hj) (by decide), rk h.mrow (by decide), h.sep, h.low, h.tpos⟩

theorem keepOff {w w' : World} {m : Nat} {kvs : List (Int × Nat)} (hm : mapAt w m kvs) (ht : Touch w w' (fun k => k = m)) : ∀ {b : Nat} {c : Array Value} {ty : Nat}, w.heap[b]? = some (Obj.cells c ty (0, 0)) → w'.heap[b]? = some (Obj.cells c ty (0, 0)) := fun {b c ty} hb => by
  obtain ⟨_, _, he, _⟩ := hm
  exact (ht.block _ (blt hb) (ne_obj hb he (by simp))).trans hb

/-- What becomes of a packet when a task goes. -/
def lostP (a : A) (x p : Int) : Pk := if (a.pk p).wth = x then { a.pk p with wth := 0 } else a.pk p
/-- What remove does. -/
def removeA (a : A) (x : Int) : A := { a with tids := a.tids.filter (fun i => i != x), pids := a.pids.filter (fun p => (a.pk p).own != x), pk := lostP a x }
set_option maxHeartbeats 4000000 in
set_option maxRecDepth 100000 in
theorem remove_ok (B kb : Nat) (g : G) (a : A) (w : World) (h : KRep B kb g a w) (cb : Nat) (x y : Int) (v : Value) (hc : callAt w cb kb v x y) (hpn : a.pids.Nodup) (htn : a.tids.Nodup) (hx : x ∈ a.tids) (hq : a.q x = []) (hbz0 : ∀ p ∈ a.pids, busyP a x p = false) :
    Calls Try.prog 41 #[ptr cb] w (Gives B kb w 0 0 (removeA a x)) := by
  have c0 := hc.c0
  have c2 := hc.c2
  have k0 := h.k0
  have hl : (Instr.lookup 66 (.map (some g.tm)) (.int .i64 x) false).run Try.prog w.drew = .ok (ptr (g.tb x)) w.drew := by
    have := (h.keep (w' := w.drew) (fun _ _ => rfl)).lookT x
    rwa [if_pos hx] at this
  obtain ⟨C, hCd⟩ : ∃ C : World → Prop, ∀ z, C z ↔ (z.cell? ⟨cb, 0, none⟩ = some (ptr kb) ∧ z.cell? ⟨cb, 2, none⟩ = some (.int .i64 x) ∧ z.cell? ⟨kb, 0, none⟩ = some (.map (some g.tm)) ∧ (Instr.lookup 66 (.map (some g.tm)) (.int .i64 x) false).run Try.prog z = .ok (ptr (g.tb x)) z) := ⟨_, fun _ => Iff.rfl⟩
  have s0 : ∀ s : {z : World // C z}, s.1.cell? ⟨cb, 0, none⟩ = some (ptr kb) := fun s => ((hCd s.1).1 s.2).1
  have s2 : ∀ s : {z : World // C z}, s.1.cell? ⟨cb, 2, none⟩ = some (.int .i64 x) := fun s => ((hCd s.1).1 s.2).2.1
  have sk : ∀ s : {z : World // C z}, s.1.cell? ⟨kb, 0, none⟩ = some (.map (some g.tm)) := fun s => ((hCd s.1).1 s.2).2.2.1
  have sl : ∀ s : {z : World // C z}, (Instr.lookup 66 (.map (some g.tm)) (.int .i64 x) false).run Try.prog s.1 = .ok (ptr (g.tb x)) s.1 := fun s => ((hCd s.1).1 s.2).2.2.2
  have hC0 : C w.drew := (hCd _).2 ⟨c0, c2, k0, hl⟩
  haveI : Nonempty {z : World // C z} := ⟨⟨_, hC0⟩⟩
  have hC1 : C (w.drew.alloc (.cells #[.pointer none] 71)) := by
    refine (hCd _).2 ⟨Lib.cell?_alloc_some (W := w.drew) _ c0, Lib.cell?_alloc_some (W := w.drew) _ c2, Lib.cell?_alloc_some (W := w.drew) _ k0, ?_⟩
    have := (h.keep (w' := w.drew.alloc (.cells #[.pointer none] 71)) (fun k hk => Below.heap_alloc w.drew _ _ hk)).lookT x
    rwa [if_pos hx] at this
  have H := Lib.hid h
  have HCC := Lib.hid hc
  have HX := Lib.hid hx
  have HC1 := Lib.hid hC1
  have hB : B ≤ w.heap.size := Nat.le_of_lt (Nat.lt_of_le_of_lt h.low.1 (blt h.ker))
  clear h hc hx hCd hC1
  go_enter Try.func41, Try.ntmps41
  go_wp2
  refine Mix.wp_region_mix C [12, 13] (by kernel_rfl) (by kernel_rfl) hC0 ?_
  repeat (refine Mix.mix_still rfl (fun K hK => ?_); go_simp; refine hK _ ?_; clear hK K)
  refine Mix.mix_eff rfl ?_
  go_wp2
  refine ⟨HC1.out, ?_⟩
  refine Mix.mix_eff rfl ?_
  go_wp2
  refine Mix.mix_nil ?_
  have HBZ := Lib.hid hbz0
  have HTN := Lib.hid htn
  clear hbz0 htn
  obtain ⟨W1, hW1⟩ : ∃ W1, W1 = (w.alloc (.cells #[ptr (g.tb x)] 71)).drew := ⟨_, rfl⟩
  rw [← hW1]
  have hT1 : Touch w W1 (fun _ => False) := by rw [hW1]; exact (Touch.alloc w _ _).trans (Touch.drew _ _)
  have h1 : KRep B kb g a W1 := H.out.keep (fun k hk => hT1.block k hk id)
  have hc1 : callAt W1 cb kb v x y := (hT1.block _ (blt HCC.out) id).trans HCC.out
  have htc : W1.heap[w.heap.size]? = some (.cells #[ptr (g.tb x)] 71 (0, 0)) := by rw [hW1]; exact alloc_new w _
  have hs1 : W1.heap.size = w.heap.size + 1 := by rw [hW1]; show (w.alloc _).heap.size = _; simp
  have hb1 : Bel B kb w W1 := hT1.bel hB (fun _ h => h.elim) H.out.klt
  clear hW1 c0 c2 k0 hl s0 s2 sk sl hC0 HC1
  have c0 := hc1.c0
  have ct : W1.cell? ⟨w.heap.size, 0, none⟩ = some (ptr (g.tb x)) := by rw [cell_of htc]; rfl
  have H1 := Lib.hid h1
  have HC1 := Lib.hid hc1
  have HTC := Lib.hid htc
  have HB1 := Lib.hid hb1
  have HT1 := Lib.hid hT1
  have HS1 := Lib.hid hs1
  have hrow := h1.row x (.inl HX.out)
  rw [hq] at hrow
  obtain ⟨va, vc, hv⟩ := own_form hrow
  have t7 : W1.cell? ⟨g.tb x, 7, none⟩ = some (.slice va 0 vc) := by rw [cell_of (h1.task x HX.out)]; simp [tcells, hv]
  have k2 := h1.k2
  obtain ⟨o, hrange, hit⟩ := run_range h1.pmap 68 84 und68
  obtain ⟨w3, hw3⟩ : ∃ w3, w3 = W1.alloc o := ⟨_, rfl⟩
  rw [← hw3] at hrange hit
  have hT3 : Touch W1 w3 (fun _ => False) := by rw [hw3]; exact Touch.alloc _ _ _
  have IT := Lib.hid hit
  have HT3 := Lib.hid hT3
  have HN := Lib.hid hpn
  clear h1 hc1 htc hb1 hT1 hs1 hrow hv hq hw3 hit hT3 hpn
  go_wp2
  go_loopw [6] (fun _ wr => ∃ left, iterAt wr W1.heap.size g.pm (a.pids.map fun p => (p, g.pb p)) left ∧ (left.map (·.1)).Nodup ∧ (∀ q ∈ left, q.1 ∈ a.pids ∧ q.2 = g.pb q.1) ∧ Touch W1 wr (fun _ => False))
    (fun _ wr => leftCount wr g.pm W1.heap.size)
  case atStart =>
    refine ⟨_, IT.out, by simpa [Function.comp_def] using HN.out, ?_, HT3.out⟩
    · intro q hq
      obtain ⟨p, hp, rfl⟩ := List.mem_map.1 hq
      exact ⟨hp, rfl⟩
  case round =>
    obtain ⟨left, hit, hnd, hall, hT⟩ := hrel
    rcases run_next hit hnd 0 with ⟨rfl, hnext⟩ | ⟨p, hp, w1, hw1, o1, hnext, hit1, hentry⟩
    · have hk := H1.out.keep (w' := wr) (fun k hk => hT.block k hk id)
      have hcr : callAt wr cb kb v x y := (hT.block _ (blt HC1.out) id).trans HC1.out
      have htcr := (hT.block _ (blt HTC.out) id).trans HTC.out
      have hbr : Bel B kb w wr := HB1.out.trans (hT.bel (Nat.le_trans hB HT1.out.size) (fun _ h => h.elim) H1.out.klt)
      have c0 := hcr.c0
      have k0 := hk.k0
      have ct : wr.cell? ⟨w.heap.size, 0, none⟩ = some (ptr (g.tb x)) := by rw [cell_of htcr]; rfl
      have t0 := hk.t0 HX.out
      have HK := Lib.hid hk
      have HCR := Lib.hid hcr
      have HTCR := Lib.hid htcr
      have HBR := Lib.hid hbr
      clear hit hnd hall hT hk hcr htcr hbr ct
      have ct : wr.cell? ⟨w.heap.size, 0, none⟩ = some (ptr (g.tb x)) := by rw [cell_of HTCR.out]; rfl
      go_wp2_with fail
      obtain ⟨C2, hCd⟩ : ∃ C : World → Prop, ∀ z, C z ↔ (z.cell? ⟨cb, 0, none⟩ = some (ptr kb) ∧ z.cell? ⟨kb, 0, none⟩ = some (.map (some g.tm)) ∧ z.cell? ⟨w.heap.size, 0, none⟩ = some (ptr (g.tb x)) ∧ z.cell? ⟨g.tb x, 0, none⟩ = some (.int .i64 x)) := ⟨_, fun _ => Iff.rfl⟩
      have z0 : ∀ s : {z : World // C2 z}, s.1.cell? ⟨cb, 0, none⟩ = some (ptr kb) := fun s => ((hCd s.1).1 s.2).1
      have z1 : ∀ s : {z : World // C2 z}, s.1.cell? ⟨kb, 0, none⟩ = some (.map (some g.tm)) := fun s => ((hCd s.1).1 s.2).2.1
      have z2 : ∀ s : {z : World // C2 z}, s.1.cell? ⟨w.heap.size, 0, none⟩ = some (ptr (g.tb x)) := fun s => ((hCd s.1).1 s.2).2.2.1
      have z3 : ∀ s : {z : World // C2 z}, s.1.cell? ⟨g.tb x, 0, none⟩ = some (.int .i64 x) := fun s => ((hCd s.1).1 s.2).2.2.2
      haveI : Nonempty {z : World // C2 z} := ⟨⟨wr, (hCd _).2 ⟨c0, k0, ct, t0⟩⟩⟩
      refine Mix.wp_region_mix C2 [12] (by kernel_rfl) (by kernel_rfl) ((hCd _).2 ⟨c0, k0, ct, t0⟩) ?_
      have HCD := Lib.hid hCd
      clear hCd
      repeat (refine Mix.mix_still rfl (fun K hK => ?_); go_simp; refine hK _ ?_; clear hK K)
      refine Mix.mix_eff rfl ?_
      refine wpList_del rfl _ _ 66 3 71 rfl und66 rfl rfl HK.out.tmap (by simpa [Function.comp_def] using HTN.out) ?_
      intro o' hmap
      refine wpList_nil ⟨rfl, .inl rfl, ?_⟩
      refine Mix.mix_nil ?_
      obtain ⟨W6, hW6⟩ : ∃ W6, W6 = setBlock wr.drew g.tm o' := ⟨_, rfl⟩
      rw [← hW6] at hmap ⊢
      have hT6 : Touch wr W6 (fun k => k = g.tm) := by rw [hW6]; exact (Touch.drew wr _).trans (Touch.setB _ _ _)
      have h6 := HK.out.delTask x hT6 hmap
      have tmne : ∀ {b c ty}, wr.heap[b]? = some (.cells c ty (0, 0)) → b ≠ g.tm := fun {b c ty} hb => by
        obtain ⟨_, _, he, _⟩ := HK.out.tmap
        exact ne_obj hb he (by simp)
      have hc6 : callAt W6 cb kb v x y := (hT6.block _ (blt HCR.out) (tmne HCR.out)).trans HCR.out
      have htc6 := (hT6.block _ (blt HTCR.out) (tmne HTCR.out)).trans HTCR.out
      have htb6 := (hT6.block _ (blt (HK.out.task x HX.out)) (tmne (HK.out.task x HX.out))).trans (HK.out.task x HX.out)
      have hBr : B ≤ wr.heap.size := Nat.le_trans hB HBR.out.size
      have hb6 : Bel B kb w W6 := HBR.out.trans (hT6.bel hBr (fun k hk => by rw [hk]; exact HK.out.okTM) HK.out.klt)
      have cd : Calls Try.prog 70 #[.map (some g.pm), .func (.func 71) #[] #[ptr w.heap.size]] W6 (fun e w7 => e = .returned (.tuple #[]) ∧ KRep B kb g { a with tids := a.tids.filter (fun i => i != x), pids := a.pids.filter (fun p => (a.pk p).own != x) } w7 ∧ callAt w7 cb kb v x y ∧ w7.heap[w.heap.size]? = some (.cells #[ptr (g.tb x)] 71 (0, 0)) ∧ w7.heap[g.tb x]? = some (.cells (tcells x (a.tk x) (g.qv x)) 76 (0, 0)) ∧ Bel B kb w w7) := by
        refine (deleteFunc_any B kb g _ W6 h6 HN.out x w.heap.size (g.tb x) _ htc6 htb6 rfl).mono ?_
        rintro e w7 ⟨rfl, ht7, hm7⟩
        exact ⟨rfl, h6.delPacks (fun p => (a.pk p).own != x) ht7 hm7, keepOff h6.pmap ht7 hc6, keepOff h6.pmap ht7 htc6, keepOff h6.pmap ht7 htb6, hb6.trans (ht7.bel (Nat.le_trans hB hb6.size) (fun k hk => by rw [hk]; exact h6.okPM) h6.klt)⟩
      have CD := Lib.hid cd
      clear cd
      clear hW6 hmap hT6 c0 k0 ct t0 z0 z1 z2 z3
      have c0 := hc6.c0
      have k2 := h6.k2
      have H6 := Lib.hid h6
      have HC6 := Lib.hid hc6
      have HTC6 := Lib.hid htc6
      have HTB6 := Lib.hid htb6
      have HB6 := Lib.hid hb6
      clear h6 hc6 htc6 htb6 hb6
      go_wp2_with (go_at_call 70; (with_reducible refine CD.out.mono ?_); (rintro e w7 ⟨rfl, h7, hc7, htc7, htb7, hb7⟩; clear c0 k2; have c0 := hc7.c0; have k2 := h7.k2; (obtain ⟨o7, hr7, hit7⟩ := run_range h7.pmap 68 84 und68); (obtain ⟨w8, hw8⟩ : ∃ w8, w8 = w7.alloc o7 := ⟨_, rfl⟩); rw [← hw8] at hr7 hit7; (have hT8 : Touch w7 w8 (fun k => ∃ p ∈ a.pids.filter (fun p => (a.pk p).own != x), k = g.pb p) := by rw [hw8]; exact Touch.alloc _ _ _); (have hk8 : ∀ k, k < w7.heap.size → w8.heap[k]? = w7.heap[k]? := fun k hk => by rw [hw8]; exact Below.heap_alloc w7 _ _ hk); have HK8 := Lib.hid hk8;  have H7 := Lib.hid h7; have HC7 := Lib.hid hc7; have HTC7 := Lib.hid htc7; have HTB7 := Lib.hid htb7; have HB7 := Lib.hid hb7; have IT8 := Lib.hid hit7; have HT8 := Lib.hid hT8; clear h7 hc7 htc7 htb7 hb7 hw8 hT8 hit7 hk8))
      go_loopw [8] (fun _ wr => ∃ left, iterAt wr w7.heap.size g.pm ((a.pids.filter (fun p => (a.pk p).own != x)).map fun p => (p, g.pb p)) left ∧ (left.map (·.1)).Nodup ∧ (∀ q ∈ left, q.1 ∈ a.pids.filter (fun p => (a.pk p).own != x) ∧ q.2 = g.pb q.1) ∧ Touch w7 wr (fun k => ∃ p ∈ a.pids.filter (fun p => (a.pk p).own != x), k = g.pb p) ∧ (∀ p ∈ a.pids.filter (fun p => (a.pk p).own != x), wr.heap[g.pb p]? = some (.cells (pcells p (if p ∈ left.map (·.1) then a.pk p else lostP a x p)) 44 (0, 0))))
        (fun _ wr => leftCount wr g.pm w7.heap.size)
      case atStart =>
        refine ⟨_, IT8.out, ?_, ?_, HT8.out, ?_⟩
        · have := List.Nodup.sublist (List.filter_sublist (p := fun p => (a.pk p).own != x) (l := a.pids)) HN.out
          simpa [Function.comp_def] using this
        · intro q hq
          obtain ⟨p, hp, rfl⟩ := List.mem_map.1 hq
          exact ⟨hp, rfl⟩
        · intro p hp
          rw [if_pos (by simpa [Function.comp_def] using hp)]
          exact (HK8.out _ (blt (H7.out.pack p hp))).trans (H7.out.pack p hp)
      case round =>
        obtain ⟨left, hit, hnd, hall, hT, hpk⟩ := hrel
        rcases run_next hit hnd 0 with ⟨rfl, hnext⟩ | ⟨p, hp, w1, hw1, o1, hnext, hit1, hentry⟩
        · have HF := Lib.hid (H7.out.setPacks (w' := wr) (lostP a x) hT (fun p hp => by simpa using hpk p hp))
          have HBF := Lib.hid (HB7.out.trans (hT.bel (Nat.le_trans hB HB7.out.size) (fun k hk => by obtain ⟨p, hp, rfl⟩ := hk; exact H7.out.okP hp) H7.out.klt))
          clear hit hnd hall hT hpk
          go_wp2_with fail
          go_ret2
          exact ⟨rfl, HBF.out, g, HF.out⟩
        · obtain ⟨W, hW⟩ : ∃ W, W = setBlock w1 w7.heap.size o1 := ⟨_, rfl⟩
          rw [← hW] at hnext hit1 hentry
          have hTr : Touch wr W (fun k => k = w7.heap.size) := by
            rw [hW]
            rcases hw1 with rfl | rfl
            · exact Touch.setB _ _ _
            · exact (Touch.drew wr _).trans (Touch.setB _ _ _)
          have hTW : Touch w7 W (fun k => ∃ p ∈ a.pids.filter (fun p => (a.pk p).own != x), k = g.pb p) := hT.andThen hTr (fun j hj he => by omega)
          obtain ⟨p, pb⟩ := p
          have hpa := hall _ hp
          simp only at hpa
          obtain ⟨hpp, rfl⟩ := hpa
          have hne : ∀ z ∈ a.pids.filter (fun p => (a.pk p).own != x), g.pb z ≠ w7.heap.size := fun z hz => Nat.ne_of_lt (blt (H7.out.pack z hz))
          have hpkW : ∀ z ∈ a.pids.filter (fun p => (a.pk p).own != x), W.heap[g.pb z]? = some (.cells (pcells z (if z ∈ left.map (·.1) then a.pk z else lostP a x z)) 44 (0, 0)) := fun z hz => (hTr.block _ (blt (hpk z hz)) (hne z hz)).trans (hpk z hz)
          have hpb : W.heap[g.pb p]? = some (.cells (pcells p (a.pk p)) 44 (0, 0)) := by
            have := hpkW p hpp
            rwa [if_pos (List.mem_map.2 ⟨_, hp, rfl⟩)] at this
          have p6 : W.cell? ⟨g.pb p, 6, none⟩ = some (.int .i64 (a.pk p).wth) := by rw [cell_of hpb]; rfl
          have f6 : ∀ n, (W.drewN n).frozen? ⟨g.pb p, 6, none⟩ = false := fun n => free_of (show (W.drewN n).heap[g.pb p]? = _ from hpb) 6
          have kept : ∀ {b : Nat} {c : Array Value} {ty : Nat}, w7.heap[b]? = some (Obj.cells c ty (0, 0)) → ty ≠ 44 → W.heap[b]? = some (Obj.cells c ty (0, 0)) := fun {b c ty} hb hty => keep_kind hTW hb (fun o' hP ho' => by
            obtain ⟨z, hz, rfl⟩ := hP
            have := H7.out.pack z hz
            rw [hb] at this
            simp at this
            exact absurd this.2 hty)
          have ct' : W.cell? ⟨w.heap.size, 0, none⟩ = some (ptr (g.tb x)) := by rw [cell_of (kept HTC7.out (by decide))]; rfl
          have t0 : W.cell? ⟨g.tb x, 0, none⟩ = some (.int .i64 x) := by rw [cell_of (kept HTB7.out (by decide))]; rfl
          have hcount : leftCount W g.pm w7.heap.size < leftCount wr g.pm w7.heap.size := by
            rw [hit1.count, hit.count]
            exact filter_lt hp
          have HNF := Lib.hid (List.Nodup.sublist (List.Sublist.map (fun q : Int × Nat => q.1) (List.filter_sublist (p := fun q : Int × Nat => q.1 != p) (l := left))) hnd)
          have HAL := Lib.hid (show ∀ q ∈ left.filter (fun q => q.1 != p), q.1 ∈ a.pids.filter (fun p => (a.pk p).own != x) ∧ q.2 = g.pb q.1 from fun q hq => hall q (List.mem_filter.1 hq).1)
          have hin : ∀ z, z ∈ (left.filter (fun q => q.1 != p)).map (·.1) ↔ z ∈ left.map (·.1) ∧ z ≠ p := by
            intro z
            simp only [List.mem_map, List.mem_filter, bne_iff_ne]
            constructor
            · rintro ⟨q, ⟨h1, h2⟩, rfl⟩
              exact ⟨⟨q, h1, rfl⟩, h2⟩
            · rintro ⟨⟨q, h1, rfl⟩, h2⟩
              exact ⟨q, ⟨h1, h2⟩, rfl⟩
          have HIN := Lib.hid hin
          have HI1 := Lib.hid hit1
          have HTW := Lib.hid hTW
          have HPP := Lib.hid hpp
          have HPW := Lib.hid hpkW
          have HPB := Lib.hid hpb
          have hipm : g.pm ≠ g.pb p := by
            obtain ⟨_, _, he, _⟩ := hit1.map
            exact (ne_obj hpb he (by simp)).symm
          have HPM := Lib.hid hipm
          have HRI := Lib.hid (hne p hpp)
          clear hT hit hnd hall hp hw1 hW hTr hTW hpp hit1 hpk hpkW hpb hin hne kept hipm
          cases hb1 : (a.pk p).wth == x with
          | false =>
            have HQ := Lib.hid hb1
            go_wp2_with fail
            go_quiet (fail)
            go_wp2_with fail
            go_roundw
            case rel =>
              refine ⟨_, HI1.out, HNF.out, HAL.out, HTW.out.trans (Touch.drewN W nq _), ?_⟩
              intro z hz
              refine (HPW.out z hz).trans ?_
              by_cases hzp : z = p
              · subst hzp
                have e1 : (if z ∈ left.map (·.1) then a.pk z else lostP a x z) = a.pk z := by
                  have h1 := HPW.out z hz
                  rw [HPB.out] at h1
                  have hl : lostP a x z = a.pk z := by unfold lostP; rw [if_neg (by simpa using HQ.out)]
                  rw [hl, ite_self]
                have e2 : (if z ∈ (left.filter (fun q => q.1 != z)).map (·.1) then a.pk z else lostP a x z) = a.pk z := by
                  have hl : lostP a x z = a.pk z := by unfold lostP; rw [if_neg (by simpa using HQ.out)]
                  rw [hl, ite_self]
                rw [e1, e2]
              · simp only [HIN.out z, ne_eq, hzp, not_false_eq_true, and_true]
            case measure => exact hcount
          | true =>
            have HQ := Lib.hid hb1
            have f6' : ∀ n, W.frozen? ⟨g.pb p, 6, none⟩ = false := fun n => f6 n
            go_wp2_with fail
            go_quiet (fail)
            go_wp2_with fail
            go_roundw
            case rel =>
              refine ⟨_, HI1.out.keep (set_other HPM.out) (set_other (Ne.symm HRI.out)), HNF.out, HAL.out, (HTW.out.trans (Touch.drewN W nq _)).trans (Touch.setCell _ _ _ ⟨p, HPP.out, rfl⟩), ?_⟩
              intro z hz
              by_cases hzp : z = p
              · subst hzp
                rw [if_neg (fun h => ((HIN.out z).1 h).2 rfl)]
                refine (set_same (show (W.drewN nq).heap[g.pb z]? = _ from HPB.out) 6 (.int .i64 0)).trans ?_
                have hw : (a.pk z).wth = x := by simpa using HQ.out
                simp [pcells, lostP, hw]
              · refine (set_other (fun e => hzp (H7.out.pb_inj hz HPP.out e))).trans ((HPW.out z hz).trans ?_)
                simp only [HIN.out z, ne_eq, hzp, not_false_eq_true, and_true]
            case measure =>
              rw [HI1.out.count] at hcount
              have e := iterAt.count (HI1.out.keep (w' := (W.drewN nq).setCell ⟨g.pb p, 6, none⟩ (.int .i64 0)) (set_other HPM.out) (set_other (Ne.symm HRI.out)))
              rw [e]
              exact hcount
    · obtain ⟨W, hW⟩ : ∃ W, W = setBlock w1 W1.heap.size o1 := ⟨_, rfl⟩
      rw [← hW] at hnext hit1 hentry
      have hTr : Touch wr W (fun k => k = W1.heap.size) := by
        rw [hW]
        rcases hw1 with rfl | rfl
        · exact Touch.setB _ _ _
        · exact (Touch.drew wr _).trans (Touch.setB _ _ _)
      have hTW : Touch W1 W (fun _ => False) := hT.andThen hTr (fun j hj he => by omega)
      obtain ⟨p, pb⟩ := p
      have hpa := hall _ hp
      simp only at hpa
      obtain ⟨hpp, rfl⟩ := hpa
      have hkW : KRep B kb g a W := H1.out.keep (fun k hk => hTW.block k hk id)
      have p3 := hkW.p3 hpp
      have p4 := hkW.p4 hpp
      have t0 := hkW.t0 HX.out
      have ct' : W.cell? ⟨w.heap.size, 0, none⟩ = some (ptr (g.tb x)) := by rw [cell_of ((hTW.block _ (blt HTC.out) id).trans HTC.out)]; rfl
      have hcount : leftCount W g.pm W1.heap.size < leftCount wr g.pm W1.heap.size := by
        rw [hit1.count, hit.count]
        exact filter_lt hp
      have HNF := Lib.hid (List.Nodup.sublist (List.Sublist.map (fun q : Int × Nat => q.1) (List.filter_sublist (p := fun q : Int × Nat => q.1 != p) (l := left))) hnd)
      have HAL := Lib.hid (show ∀ q ∈ left.filter (fun q => q.1 != p), q.1 ∈ a.pids ∧ q.2 = g.pb q.1 from fun q hq => hall q (List.mem_filter.1 hq).1)
      have HI1 := Lib.hid hit1
      have HTW := Lib.hid hTW
      have HPP := Lib.hid hpp
      have HHP := Lib.hid hp
      clear hT hit hnd hall hp hw1 hW hTr hTW hpp hit1 hkW
      cases hb1 : (a.pk p).own == x with
      | false =>
        have HQ := Lib.hid hb1
        go_wp2_with fail
        go_quiet (fail)
        go_wp2_with fail
        go_roundw
        case rel => exact ⟨_, HI1.out, HNF.out, HAL.out, (HTW.out.trans (Touch.drewN W nq _))⟩
        case measure => exact hcount
      | true =>
        have HQ := Lib.hid hb1
        cases hb2 : (a.pk p).at_ != 0 with
        | false =>
          have HQ2 := Lib.hid hb2
          go_wp2_with fail
          go_quiet (fail)
          go_wp2_with fail
          go_roundw
          case rel => exact ⟨_, HI1.out, HNF.out, HAL.out, (HTW.out.trans (Touch.drewN W nq _))⟩
          case measure => exact hcount
        | true =>
          have HQ2 := Lib.hid hb2
          exfalso
          have := HBZ.out p HPP.out
          unfold busyP at this
          rw [HQ.out, HQ2.out] at this
          cases this


end Go.Proofs.Ytkmgbnklfnjfjaa.Ker
