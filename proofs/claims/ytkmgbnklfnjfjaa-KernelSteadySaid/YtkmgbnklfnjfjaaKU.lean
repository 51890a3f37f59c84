import Derived.Test.YtkmgbnklfnjfjaaKT
/-! Contract: Do. -/
namespace Go.Proofs.Ytkmgbnklfnjfjaa.Ker
open Go.RowKit Go.Maps
open Go.ChangeMaps (setBlock)

def bump (a : A) : A := { a with calls := a.calls + 1 }
theorem doing_none (cb : Nat) {d : Int} (h : d < 1 ∨ 13 < d) : lookF (doing cb) d = none := by
  unfold lookF
  rw [Option.map_eq_none_iff, List.find?_eq_none]
  intro p hp
  simp only [doing, List.map_cons, List.map_nil, List.mem_cons, List.not_mem_nil, or_false] at hp
  have : p.1 ≠ d := by rcases hp with rfl | rfl | rfl | rfl | rfl | rfl | rfl | rfl | rfl | rfl | rfl | rfl | rfl <;> simp <;> omega
  simpa using this
theorem doing_some (cb : Nat) {d : Int} (h : 1 ≤ d ∧ d ≤ 13) : ∃ n, lookF (doing cb) d = some (.func (.func n) #[ptr cb] #[]) ∧ n ∈ [40, 41, 42, 43, 44, 45, 46, 47, 48, 49, 50, 51, 52] := by
  have hcase : d = 1 ∨ d = 2 ∨ d = 3 ∨ d = 4 ∨ d = 5 ∨ d = 6 ∨ d = 7 ∨ d = 8 ∨ d = 9 ∨ d = 10 ∨ d = 11 ∨ d = 12 ∨ d = 13 := by omega
  rcases hcase with rfl | rfl | rfl | rfl | rfl | rfl | rfl | rfl | rfl | rfl | rfl | rfl | rfl <;> exact ⟨_, rfl, by simp⟩
theorem run_len {w : World} {b : Nat} {kvs : List (Int × Nat)} (h : mapAt w b kvs) (t e : TypeId) (ht : Try.prog.underlying t = some (.map 3 e)) :
    (Builtin.len_ #[t] 3 #[.map (some b)]).run Try.prog w = .ok (.int .i64 kvs.length) w := by
  obtain ⟨es, c, hb, hes, _⟩ := h
  have hl : es.size = kvs.length := by
    have := congrArg List.length hes
    simpa using this
  simp [Builtin.len_, run_underlying ht, Sem.run_bind, Result.andThen_ok, getObj, Sem.run, hb, hl, goInt]
theorem enter_of (w : World) (args : Array Value) : ∀ n, n ∈ [40, 41, 42, 43, 44, 45, 46, 47, 48, 49, 50, 51, 52] → (callFunc n args).run Try.prog w = .ok (.enter n args) w := by
  intro n hn
  simp only [List.mem_cons, List.not_mem_nil, or_false] at hn
  rcases hn with rfl | rfl | rfl | rfl | rfl | rfl | rfl | rfl | rfl | rfl | rfl | rfl | rfl <;> kernel_rfl
theorem zero77 (w : World) : (zeroValue 77).run Try.prog w = .ok .nilFunc w := by kernel_rfl

set_option maxHeartbeats 4000000 in
set_option maxRecDepth 100000 in
theorem do_any (B kb : Nat) (g : G) (a : A) (w : World) (h : KRep B kb g a w) (gd : Good (bump a)) (hca : 0 ≤ a.calls ∧ a.calls < 100000) (d x y cc cd : Int) :
    Calls Try.prog 19 #[ptr kb, .agg #[.int .i64 d, .int .i64 x, .int .i64 y, .int .i64 cc, .int .i64 cd]] w fun e w' => ∃ r, IsRun (bump a) r ∧ GivesS B kb w (doA a r d x y) e w' := by
  obtain ⟨w1, hw1⟩ : ∃ w1, w1 = w.alloc (.cells #[.int .i64 d, .int .i64 x, .int .i64 y, .int .i64 cc, .int .i64 cd] 38) := ⟨_, rfl⟩
  have hB : B ≤ w.heap.size := Nat.le_of_lt (Nat.lt_of_le_of_lt h.low.1 (blt h.ker))
  have hT1 : Touch w w1 (fun _ => False) := by rw [hw1]; exact Touch.alloc _ _ _
  have h1 : KRep B kb g a w1 := h.keep (fun k hk => hT1.block k hk id)
  have hta : w1.heap[w.heap.size]? = some (.cells #[.int .i64 d, .int .i64 x, .int .i64 y, .int .i64 cc, .int .i64 cd] 38 (0, 0)) := by rw [hw1]; exact alloc_new w _
  have k5 := h1.k5
  have kf : w1.frozen? ⟨kb, 5, none⟩ = false := free_of h1.ker 5
  have r29 : Calls Try.prog 29 #[ptr kb] (w.alloc (.cells #[.int .i64 d, .int .i64 x, .int .i64 y, .int .i64 cc, .int .i64 cd] 38)) fun e w' => e = .returned (.tuple #[]) ∧ w' = w1 := by
    rw [← hw1]
    refine (ready_made B kb g a w1 h1).mono ?_
    rintro e w' ⟨rfl, rfl⟩
    exact ⟨rfl, rfl⟩
  have R29 := Lib.hid r29
  have k1' : ∀ e w', (e = Ending.returned (.tuple #[]) ∧ w' = w1) → (e = Ending.returned (.tuple #[]) ∧ w' = w1) := fun _ _ h => h
  have hm1 : 0 ≤ a.calls := hca.1
  have hm2 : a.calls < 100000 := hca.2
  have hne : (kb == 0) = false ∨ True := .inr trivial
  have H := Lib.hid h
  have H1 := Lib.hid h1
  have GD := Lib.hid gd
  have HT1 := Lib.hid hT1
  have HTA := Lib.hid hta
  clear h h1 gd hT1 hta hca hne hw1 r29 k1'
  go_enter Try.func19, Try.ntmps19
  go_wp2_with (go_at_call 29; (with_reducible refine R29.out.mono ?_); rintro e w' ⟨rfl, rfl⟩)
  obtain ⟨W2, hW2⟩ : ∃ W2, W2 = w'.setCell ⟨kb, 5, none⟩ (.int .i64 (a.calls + 1)) := ⟨_, rfl⟩
  rw [← hW2]
  have hT2 : Touch w' W2 (fun k => k = kb) := by rw [hW2]; exact Touch.setCell _ _ _ rfl
  have h2 : KRep B kb g (bump a) W2 := H1.out.setKer a.made (a.calls + 1) hT2 (by rw [hW2]; simpa using set_same H1.out.ker 5 (.int .i64 (a.calls + 1)))
  have hkc : w.heap.size ≠ kb := fun e => by have := blt H.out.ker; omega
  have hta2 : W2.heap[w.heap.size]? = some (.cells #[.int .i64 d, .int .i64 x, .int .i64 y, .int .i64 cc, .int .i64 cd] 38 (0, 0)) := (hT2.block _ (blt HTA.out) hkc).trans HTA.out
  have hb2 : Bel B kb w W2 := (HT1.out.bel hB (fun _ h => h.elim) H.out.klt).trans (H1.out.belKer hT2 h2.ker rfl)
  clear hW2 hT2 k5 kf
  have k0 := h2.k0
  have H2 := Lib.hid h2
  have HTA2 := Lib.hid hta2
  have HB2 := Lib.hid hb2
  clear h2 hta2 hb2 hkc
  obtain ⟨C, hCd⟩ : ∃ C : World → Prop, ∀ z, C z ↔ Below W2.heap.size W2 z := ⟨_, fun _ => Iff.rfl⟩
  have sk : ∀ s : {z : World // C z}, s.1.cell? ⟨kb, 0, none⟩ = some (.map (some g.tm)) := fun s => (H2.out.below ((hCd s.1).1 s.2)).k0
  have sl : ∀ (s : {z : World // C z}) (r : Int), (Instr.lookup 66 (.map (some g.tm)) (.int .i64 r) false).run Try.prog s.1 = .ok (if r ∈ a.tids then ptr (g.tb r) else .pointer none) s.1 := fun s r => (H2.out.below ((hCd s.1).1 s.2)).lookT r
  have SL := Lib.hid sl
  clear sl
  have hC0 : C W2.drew := (hCd _).2 (Below.refl _ _).drew
  haveI : Nonempty {z : World // C z} := ⟨⟨_, hC0⟩⟩
  have R18 := Lib.hid (running_any B kb g (bump a) W2.drew (H2.out.keep (fun _ _ => rfl)) GD.out.tnd)
  refine Mix.wp_region_mix C [5] (by kernel_rfl) (by kernel_rfl) hC0 ?_
  have HCD := Lib.hid hCd
  clear hCd hC0
  repeat (refine Mix.mix_still rfl (fun K hK => ?_); go_simp; refine hK _ ?_; clear hK K)
  refine Mix.mix_eff rfl ?_
  go_wp2_with (go_at_call 18; (with_reducible refine R18.out.mono ?_); rintro e w3 ⟨r, rfl, hrun, hbel⟩; have HRUN := Lib.hid hrun; have hbel2 : Below W2.heap.size W2 w3 := (Below.refl W2.heap.size W2).drew.trans hbel; have HBEL := Lib.hid hbel2; clear hrun hbel hbel2)
  refine ⟨(HCD.out _).2 HBEL.out, ?_⟩
  obtain ⟨o, hv⟩ : ∃ o, Value.pointer o = if r ∈ a.tids then ptr (g.tb r) else .pointer none := by
    split
    · exact ⟨_, rfl⟩
    · exact ⟨_, rfl⟩
  have sl : ∀ (s : {z : World // C z}), (Instr.lookup 66 (.map (some g.tm)) (.int .i64 r) false).run Try.prog s.1 = .ok (.pointer o) s.1 := fun s => by rw [hv]; exact SL.out s r
  have HV := Lib.hid hv
  clear hv
  repeat (refine Mix.mix_still rfl (fun K hK => ?_); go_simp; refine hK _ ?_; clear hK K)
  refine Mix.mix_nil ?_
  have h3 := H2.out.below HBEL.out
  have hta3 := (HBEL.out.block _ (blt HTA2.out)).trans HTA2.out
  have hb3 : Bel B kb w w3 := HB2.out.trans (HBEL.out.bel (Nat.le_trans hB HB2.out.size) H2.out.klt)
  have H3 := Lib.hid h3
  have HTA3 := Lib.hid hta3
  have HB3 := Lib.hid hb3
  clear h3 hta3 hb3 sl sk k0 SL
  have z0 : w3.cell? ⟨w.heap.size, 0, none⟩ = some (.int .i64 d) := by rw [cell_of HTA3.out]; rfl
  have z1 : w3.cell? ⟨w.heap.size, 1, none⟩ = some (.int .i64 x) := by rw [cell_of HTA3.out]; rfl
  have z2 : w3.cell? ⟨w.heap.size, 2, none⟩ = some (.int .i64 y) := by rw [cell_of HTA3.out]; rfl
  obtain ⟨C6, hCd⟩ : ∃ C6 : World → Prop, ∀ z, C6 z ↔ Below w3.heap.size w3 z := ⟨_, fun _ => Iff.rfl⟩
  have s0 : ∀ s : {z : World // C6 z}, s.1.cell? ⟨w.heap.size, 0, none⟩ = some (.int .i64 d) := fun s => by
    rw [cell_of ((((hCd s.1).1 s.2).block _ (blt HTA3.out)).trans HTA3.out)]; rfl
  have s1 : ∀ s : {z : World // C6 z}, s.1.cell? ⟨w.heap.size, 1, none⟩ = some (.int .i64 x) := fun s => by
    rw [cell_of ((((hCd s.1).1 s.2).block _ (blt HTA3.out)).trans HTA3.out)]; rfl
  have s2 : ∀ s : {z : World // C6 z}, s.1.cell? ⟨w.heap.size, 2, none⟩ = some (.int .i64 y) := fun s => by
    rw [cell_of ((((hCd s.1).1 s.2).block _ (blt HTA3.out)).trans HTA3.out)]; rfl
  have hC0 : C6 w3.drew := (hCd _).2 (Below.refl _ _).drew
  have hC1 : C6 ((w3.alloc (.cells #[ptr kb, .pointer o, .int .i64 x, .int .i64 y] 82)).drew) := (hCd _).2 (((Below.refl w3.heap.size w3).alloc (Nat.le_refl _) _).drew)
  have hcall : callAt ((w3.alloc (.cells #[ptr kb, .pointer o, .int .i64 x, .int .i64 y] 82)).drew) w3.heap.size kb (.pointer o) x y := alloc_new w3 _
  have hbel1 : Below w3.heap.size w3 ((w3.alloc (.cells #[ptr kb, .pointer o, .int .i64 x, .int .i64 y] 82)).drew) := ((Below.refl w3.heap.size w3).alloc (Nat.le_refl _) _).drew
  have HCALL := Lib.hid hcall
  have HC1 := Lib.hid hC1
  have HBEL1 := Lib.hid hbel1
  haveI : Nonempty {z : World // C6 z} := ⟨⟨_, hC0⟩⟩
  have R30 := Lib.hid (calls_any ((w3.alloc (.cells #[ptr kb, .pointer o, .int .i64 x, .int .i64 y] 82)).drew) w3.heap.size)
  clear hcall hC1 hbel1
  by_cases hd : d < 1 ∨ 13 < d
  · have HD := Lib.hid hd
    clear hd
    go_wp2
    refine Mix.wp_region_mix C6 [7, 8, 11] (by kernel_rfl) (by kernel_rfl) hC0 ?_
    have HCD := Lib.hid hCd
    clear hCd hC0
    repeat (refine Mix.mix_still rfl (fun K hK => ?_); go_simp; refine hK _ ?_; clear hK K)
    refine Mix.mix_eff rfl ?_
    go_wp2
    refine ⟨HC1.out, ?_⟩
    refine Mix.mix_eff rfl ?_
    go_wp2_with (go_at_call 30; (with_reducible refine R30.out.mono ?_); rintro e w5 ⟨m, rfl, hmf, hbel⟩; have HMF := Lib.hid hmf; (have hbel5 : Below w3.heap.size w3 w5 := HBEL1.out.trans (hbel.mono HBEL1.out.size)); (have hca5 : callAt w5 w3.heap.size kb (.pointer o) x y := (hbel.block _ (blt HCALL.out)).trans HCALL.out); have HBEL5 := Lib.hid hbel5; have HCA5 := Lib.hid hca5; clear hmf hbel hbel5 hca5)
    refine ⟨(HCD.out _).2 HBEL5.out, ?_⟩
    repeat (refine Mix.mix_still rfl (fun K hK => ?_); go_simp; refine hK _ ?_; clear hK K)
    have hL := run_lookF HMF.out 79 77 und79 .nilFunc (zero77 _) d
    rw [doing_none _ HD.out] at hL
    simp only at hL
    refine Mix.mix_eff rfl ?_
    go_wp2
    refine ⟨(HCD.out _).2 HBEL5.out, ?_⟩
    repeat (refine Mix.mix_still rfl (fun K hK => ?_); go_simp; refine hK _ ?_; clear hK K)
    refine Mix.mix_nil ?_
    have hb5 : Bel B kb w w5 := HB3.out.trans (HBEL5.out.bel (Nat.le_trans hB HB3.out.size) H3.out.klt)
    have h5 := H3.out.below HBEL5.out
    have hta5 := (HBEL5.out.block _ (blt HTA3.out)).trans HTA3.out
    have z0 : w5.cell? ⟨w.heap.size, 0, none⟩ = some (.int .i64 d) := by rw [cell_of hta5]; rfl
    have k0 := h5.k0
    have HB5 := Lib.hid hb5
    have H5 := Lib.hid h5
    clear hb5 h5 hta5 s0 s1 s2 z1 z2 hL
    go_wp2
    go_ret2
    refine ⟨r, HRUN.out, ?_⟩
    unfold doA
    rw [if_pos HD.out]
    exact ⟨rfl, HB5.out, g, H5.out⟩
  · obtain ⟨n, hn, hni⟩ := doing_some w3.heap.size (d := d) (by omega)
    have HN := Lib.hid hn
    have HD := Lib.hid hd
    have HNI := Lib.hid hni
    clear hn hd hni
    by_cases hr : r ∈ a.tids
    · have ho : o = some ⟨g.tb r, 0, none⟩ := by
        have := HV.out
        rw [if_pos hr] at this
        exact Value.pointer.inj this
      subst ho
      have HR := Lib.hid hr
      clear hr
      go_wp2
      refine Mix.wp_region_mix C6 [7, 8, 11] (by kernel_rfl) (by kernel_rfl) hC0 ?_
      have HCD := Lib.hid hCd
      clear hCd hC0
      repeat (refine Mix.mix_still rfl (fun K hK => ?_); go_simp; refine hK _ ?_; clear hK K)
      refine Mix.mix_eff rfl ?_
      go_wp2
      refine ⟨HC1.out, ?_⟩
      refine Mix.mix_eff rfl ?_
      go_wp2_with (go_at_call 30; (with_reducible refine R30.out.mono ?_); rintro e w5 ⟨m, rfl, hmf, hbel⟩; have HMF := Lib.hid hmf; (have hbel5 : Below w3.heap.size w3 w5 := HBEL1.out.trans (hbel.mono HBEL1.out.size)); (have hca5 := (hbel.block _ (blt HCALL.out)).trans HCALL.out); have HBEL5 := Lib.hid hbel5; have HCA5 := Lib.hid hca5; clear hmf hbel hbel5 hca5)
      refine ⟨(HCD.out _).2 HBEL5.out, ?_⟩
      repeat (refine Mix.mix_still rfl (fun K hK => ?_); go_simp; refine hK _ ?_; clear hK K)
      have hL := run_lookF HMF.out 79 77 und79 .nilFunc (zero77 _) d
      rw [HN.out] at hL
      simp only at hL
      refine Mix.mix_eff rfl ?_
      go_wp2
      refine ⟨(HCD.out _).2 HBEL5.out, ?_⟩
      repeat (refine Mix.mix_still rfl (fun K hK => ?_); go_simp; refine hK _ ?_; clear hK K)
      refine Mix.mix_nil ?_
      have hb5 : Bel B kb w w5 := HB3.out.trans (HBEL5.out.bel (Nat.le_trans hB HB3.out.size) H3.out.klt)
      have h5 := H3.out.below HBEL5.out
      have hta5 := (HBEL5.out.block _ (blt HTA3.out)).trans HTA3.out
      have z0 : w5.cell? ⟨w.heap.size, 0, none⟩ = some (.int .i64 d) := by rw [cell_of hta5]; rfl
      have k0 := h5.k0
      have HB5 := Lib.hid hb5
      have H5 := Lib.hid h5
      clear hb5 h5 hta5 s0 s1 s2 z1 z2 hL
      obtain ⟨n2, hn2, hcl⟩ := do_step B kb g (bump a) w5 w3.heap.size x y r d _ (.inl ⟨HR.out, rfl⟩) (by have := HD.out; omega) HCA5.out H5.out GD.out (by show 1 ≤ a.calls + 1; omega) (by show a.calls + 1 ≤ 100000; omega)
      have hnn : n2 = n := by
        have := hn2.symm.trans HN.out
        simpa using this
      subst hnn
      have hcf := enter_of w5 #[ptr w3.heap.size] _ HNI.out
      have HCL := Lib.hid hcl
      clear hn2 hcl
      go_wp2_with ((with_reducible refine HCL.out.mono ?_); rintro e w6 ⟨rfl, hb6, g6, h6⟩)
      go_ret2
      refine ⟨r, HRUN.out, ?_⟩
      unfold doA
      rw [if_neg HD.out, if_neg (fun hh => (KRep.own_ne H5.out (.inl HR.out)) hh.1)]
      exact ⟨rfl, HB5.out.trans hb6, g6, h6⟩
    · have ho : o = none := by
        have := HV.out
        rw [if_neg hr] at this
        exact Value.pointer.inj this
      subst ho
      have hr0 : r = 0 := by
        rcases HRUN.out with h | h
        · exact h.1
        · exact absurd h.1 hr
      have HR0 := Lib.hid hr0
      clear hr hr0
      by_cases h12 : d = 12
      · have HD12 := Lib.hid h12
        have hb12 : (d != 12) = false := by simp [h12]
        clear h12
        go_wp2
        refine Mix.wp_region_mix C6 [7, 8, 11] (by kernel_rfl) (by kernel_rfl) hC0 ?_
        have HCD := Lib.hid hCd
        clear hCd hC0
        repeat (refine Mix.mix_still rfl (fun K hK => ?_); go_simp; refine hK _ ?_; clear hK K)
        refine Mix.mix_eff rfl ?_
        go_wp2
        refine ⟨HC1.out, ?_⟩
        refine Mix.mix_eff rfl ?_
        go_wp2_with (go_at_call 30; (with_reducible refine R30.out.mono ?_); rintro e w5 ⟨m, rfl, hmf, hbel⟩; have HMF := Lib.hid hmf; (have hbel5 : Below w3.heap.size w3 w5 := HBEL1.out.trans (hbel.mono HBEL1.out.size)); (have hca5 := (hbel.block _ (blt HCALL.out)).trans HCALL.out); have HBEL5 := Lib.hid hbel5; have HCA5 := Lib.hid hca5; clear hmf hbel hbel5 hca5)
        refine ⟨(HCD.out _).2 HBEL5.out, ?_⟩
        repeat (refine Mix.mix_still rfl (fun K hK => ?_); go_simp; refine hK _ ?_; clear hK K)
        have hL := run_lookF HMF.out 79 77 und79 .nilFunc (zero77 _) d
        rw [HN.out] at hL
        simp only at hL
        refine Mix.mix_eff rfl ?_
        go_wp2
        refine ⟨(HCD.out _).2 HBEL5.out, ?_⟩
        repeat (refine Mix.mix_still rfl (fun K hK => ?_); go_simp; refine hK _ ?_; clear hK K)
        refine Mix.mix_nil ?_
        have hb5 : Bel B kb w w5 := HB3.out.trans (HBEL5.out.bel (Nat.le_trans hB HB3.out.size) H3.out.klt)
        have h5 := H3.out.below HBEL5.out
        have hta5 := (HBEL5.out.block _ (blt HTA3.out)).trans HTA3.out
        have z0 : w5.cell? ⟨w.heap.size, 0, none⟩ = some (.int .i64 d) := by rw [cell_of hta5]; rfl
        have k0 := h5.k0
        have HB5 := Lib.hid hb5
        have H5 := Lib.hid h5
        clear hb5 h5 hta5 s0 s1 s2 z1 z2 hL
        obtain ⟨n2, hn2, hcl⟩ := do_step B kb g (bump a) w5 w3.heap.size x y r d _ (.inr (.inr HD12.out)) (by have := HD.out; omega) HCA5.out H5.out GD.out (by show 1 ≤ a.calls + 1; omega) (by show a.calls + 1 ≤ 100000; omega)
        have hnn : n2 = n := by
          have := hn2.symm.trans HN.out
          simpa using this
        subst hnn
        have hcf := enter_of w5 #[ptr w3.heap.size] _ HNI.out
        have HCL := Lib.hid hcl
        clear hn2 hcl
        go_wp2_with ((with_reducible refine HCL.out.mono ?_); rintro e w6 ⟨rfl, hb6, g6, h6⟩)
        go_ret2
        refine ⟨r, HRUN.out, ?_⟩
        unfold doA
        rw [if_neg HD.out, if_neg (fun hh => hh.2.1 HD12.out)]
        exact ⟨rfl, HB5.out.trans hb6, g6, h6⟩
      · have HD12 := Lib.hid h12
        have hb12 : (d != 12) = true := by simp [h12]
        clear h12
        by_cases h1 : d = 1
        · have HD1 := Lib.hid h1
          have hb1 : (d != 1) = false := by simp [h1]
          clear h1
          by_cases hl : 0 < a.tids.length
          · have HL := Lib.hid hl
            have hlt : decide (0 < (a.tids.length : Int)) = true := by simp; omega
            clear hl
            go_wp2
            refine Mix.wp_region_mix C6 [7, 8, 11] (by kernel_rfl) (by kernel_rfl) hC0 ?_
            have HCD := Lib.hid hCd
            clear hCd hC0
            repeat (refine Mix.mix_still rfl (fun K hK => ?_); go_simp; refine hK _ ?_; clear hK K)
            refine Mix.mix_eff rfl ?_
            go_wp2
            refine ⟨HC1.out, ?_⟩
            refine Mix.mix_eff rfl ?_
            go_wp2_with (go_at_call 30; (with_reducible refine R30.out.mono ?_); rintro e w5 ⟨m, rfl, hmf, hbel⟩; have HMF := Lib.hid hmf; (have hbel5 : Below w3.heap.size w3 w5 := HBEL1.out.trans (hbel.mono HBEL1.out.size)); (have hca5 := (hbel.block _ (blt HCALL.out)).trans HCALL.out); have HBEL5 := Lib.hid hbel5; have HCA5 := Lib.hid hca5; clear hmf hbel hbel5 hca5)
            refine ⟨(HCD.out _).2 HBEL5.out, ?_⟩
            repeat (refine Mix.mix_still rfl (fun K hK => ?_); go_simp; refine hK _ ?_; clear hK K)
            have hL := run_lookF HMF.out 79 77 und79 .nilFunc (zero77 _) d
            rw [HN.out] at hL
            simp only at hL
            refine Mix.mix_eff rfl ?_
            go_wp2
            refine ⟨(HCD.out _).2 HBEL5.out, ?_⟩
            repeat (refine Mix.mix_still rfl (fun K hK => ?_); go_simp; refine hK _ ?_; clear hK K)
            refine Mix.mix_nil ?_
            have hb5 : Bel B kb w w5 := HB3.out.trans (HBEL5.out.bel (Nat.le_trans hB HB3.out.size) H3.out.klt)
            have h5 := H3.out.below HBEL5.out
            have hta5 := (HBEL5.out.block _ (blt HTA3.out)).trans HTA3.out
            have z0 : w5.cell? ⟨w.heap.size, 0, none⟩ = some (.int .i64 d) := by rw [cell_of hta5]; rfl
            have k0 := h5.k0
            have HB5 := Lib.hid hb5
            have H5 := Lib.hid h5
            clear hb5 h5 hta5 s0 s1 s2 z1 z2 hL
            have hlen := run_len H5.out.tmap 66 71 und66
            simp only [List.length_map] at hlen
            go_wp2
            go_ret2
            refine ⟨r, HRUN.out, ?_⟩
            unfold doA
            rw [if_neg HD.out, if_pos ⟨HR0.out, HD12.out, .inr HL.out⟩]
            exact ⟨rfl, HB5.out, g, H5.out⟩
          · have HL := Lib.hid hl
            have hlt : decide (0 < (a.tids.length : Int)) = false := decide_eq_false (by omega)
            clear hl
            go_wp2
            refine Mix.wp_region_mix C6 [7, 8, 11] (by kernel_rfl) (by kernel_rfl) hC0 ?_
            have HCD := Lib.hid hCd
            clear hCd hC0
            repeat (refine Mix.mix_still rfl (fun K hK => ?_); go_simp; refine hK _ ?_; clear hK K)
            refine Mix.mix_eff rfl ?_
            go_wp2
            refine ⟨HC1.out, ?_⟩
            refine Mix.mix_eff rfl ?_
            go_wp2_with (go_at_call 30; (with_reducible refine R30.out.mono ?_); rintro e w5 ⟨m, rfl, hmf, hbel⟩; have HMF := Lib.hid hmf; (have hbel5 : Below w3.heap.size w3 w5 := HBEL1.out.trans (hbel.mono HBEL1.out.size)); (have hca5 := (hbel.block _ (blt HCALL.out)).trans HCALL.out); have HBEL5 := Lib.hid hbel5; have HCA5 := Lib.hid hca5; clear hmf hbel hbel5 hca5)
            refine ⟨(HCD.out _).2 HBEL5.out, ?_⟩
            repeat (refine Mix.mix_still rfl (fun K hK => ?_); go_simp; refine hK _ ?_; clear hK K)
            have hL := run_lookF HMF.out 79 77 und79 .nilFunc (zero77 _) d
            rw [HN.out] at hL
            simp only at hL
            refine Mix.mix_eff rfl ?_
            go_wp2
            refine ⟨(HCD.out _).2 HBEL5.out, ?_⟩
            repeat (refine Mix.mix_still rfl (fun K hK => ?_); go_simp; refine hK _ ?_; clear hK K)
            refine Mix.mix_nil ?_
            have hb5 : Bel B kb w w5 := HB3.out.trans (HBEL5.out.bel (Nat.le_trans hB HB3.out.size) H3.out.klt)
            have h5 := H3.out.below HBEL5.out
            have hta5 := (HBEL5.out.block _ (blt HTA3.out)).trans HTA3.out
            have z0 : w5.cell? ⟨w.heap.size, 0, none⟩ = some (.int .i64 d) := by rw [cell_of hta5]; rfl
            have k0 := h5.k0
            have HB5 := Lib.hid hb5
            have H5 := Lib.hid h5
            clear hb5 h5 hta5 s0 s1 s2 z1 z2 hL
            have hlen := run_len H5.out.tmap 66 71 und66
            simp only [List.length_map] at hlen
            obtain ⟨n2, hn2, hcl⟩ := do_step B kb g (bump a) w5 w3.heap.size x y r d _ (.inr (.inl HD1.out)) (by have := HD.out; omega) HCA5.out H5.out GD.out (by show 1 ≤ a.calls + 1; omega) (by show a.calls + 1 ≤ 100000; omega)
            have hnn : n2 = n := by
              have := hn2.symm.trans HN.out
              simpa using this
            subst hnn
            have hcf := enter_of w5 #[ptr w3.heap.size] _ HNI.out
            have HCL := Lib.hid hcl
            clear hn2 hcl
            go_wp2_with ((with_reducible refine HCL.out.mono ?_); rintro e w6 ⟨rfl, hb6, g6, h6⟩)
            go_ret2
            refine ⟨r, HRUN.out, ?_⟩
            unfold doA
            rw [if_neg HD.out, if_neg (fun hh => hh.2.2.elim (fun h3 => h3 HD1.out) (fun h3 => HL.out h3))]
            exact ⟨rfl, HB5.out.trans hb6, g6, h6⟩
        · have HD1 := Lib.hid h1
          have hb1 : (d != 1) = true := by simp [h1]
          clear h1
          go_wp2
          refine Mix.wp_region_mix C6 [7, 8, 11] (by kernel_rfl) (by kernel_rfl) hC0 ?_
          have HCD := Lib.hid hCd
          clear hCd hC0
          repeat (refine Mix.mix_still rfl (fun K hK => ?_); go_simp; refine hK _ ?_; clear hK K)
          refine Mix.mix_eff rfl ?_
          go_wp2
          refine ⟨HC1.out, ?_⟩
          refine Mix.mix_eff rfl ?_
          go_wp2_with (go_at_call 30; (with_reducible refine R30.out.mono ?_); rintro e w5 ⟨m, rfl, hmf, hbel⟩; have HMF := Lib.hid hmf; (have hbel5 : Below w3.heap.size w3 w5 := HBEL1.out.trans (hbel.mono HBEL1.out.size)); (have hca5 := (hbel.block _ (blt HCALL.out)).trans HCALL.out); have HBEL5 := Lib.hid hbel5; have HCA5 := Lib.hid hca5; clear hmf hbel hbel5 hca5)
          refine ⟨(HCD.out _).2 HBEL5.out, ?_⟩
          repeat (refine Mix.mix_still rfl (fun K hK => ?_); go_simp; refine hK _ ?_; clear hK K)
          have hL := run_lookF HMF.out 79 77 und79 .nilFunc (zero77 _) d
          rw [HN.out] at hL
          simp only at hL
          refine Mix.mix_eff rfl ?_
          go_wp2
          refine ⟨(HCD.out _).2 HBEL5.out, ?_⟩
          repeat (refine Mix.mix_still rfl (fun K hK => ?_); go_simp; refine hK _ ?_; clear hK K)
          refine Mix.mix_nil ?_
          have hb5 : Bel B kb w w5 := HB3.out.trans (HBEL5.out.bel (Nat.le_trans hB HB3.out.size) H3.out.klt)
          have h5 := H3.out.below HBEL5.out
          have hta5 := (HBEL5.out.block _ (blt HTA3.out)).trans HTA3.out
          have z0 : w5.cell? ⟨w.heap.size, 0, none⟩ = some (.int .i64 d) := by rw [cell_of hta5]; rfl
          have k0 := h5.k0
          have HB5 := Lib.hid hb5
          have H5 := Lib.hid h5
          clear hb5 h5 hta5 s0 s1 s2 z1 z2 hL
          go_wp2
          go_ret2
          refine ⟨r, HRUN.out, ?_⟩
          unfold doA
          rw [if_neg HD.out, if_pos ⟨HR0.out, HD12.out, .inl HD1.out⟩]
          exact ⟨rfl, HB5.out, g, H5.out⟩
end Go.Proofs.Ytkmgbnklfnjfjaa.Ker

