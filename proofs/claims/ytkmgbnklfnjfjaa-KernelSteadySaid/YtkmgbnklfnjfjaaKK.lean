import Derived.Test.YtkmgbnklfnjfjaaFR
import Derived.Test.YtkmgbnklfnjfjaaMix
import Derived.BigRegion
/-! Contract: move. -/
namespace Go.Proofs.Ytkmgbnklfnjfjaa.Ker
open Go.RowKit Go.Maps
open Go.ChangeMaps (setBlock)

/-- What move does. -/
def moveA (a : A) (p frm to : Int) : A :=
  { a with q := upd a.q to (a.q to ++ [p]), pk := upd a.pk p { a.pk p with at_ := to, frm := frm, wth := 0 }, moves := a.moves ++ [(a.calls - 1, p, frm, to)],
           tk := if to ∈ a.tids ∧ (a.tk to).waiting = true ∧ ((a.tk to).forr = 0 ∨ (a.tk to).forr = p) then upd a.tk to { a.tk to with waiting := false, forr := 0 } else a.tk }

theorem info31 : (Try.prog.info? 31).map (fun i => (i.zero, i.size, i.bytes)) = some (some (.agg #[.int .i64 0, .int .i64 0, .int .i64 0, .int .i64 0]), 4, 32) := by kernel_rfl

theorem KRep.rowAny (B kb : Nat) (g : G) (a : A) (w : World) (h : KRep B kb g a w) (i : Int) (hi : a.owner i) :
    Calls Try.prog 31 #[ptr kb, .int .i64 i] w fun e w' => e = .returned (.pointer (some ⟨hblk g i, hoff i, none⟩)) ∧ w = w' := by
  unfold hblk hoff
  by_cases hp : 0 < i
  · simp only [if_pos hp]
    exact row_task B kb g a w h i (h.own_pos hi hp)
  · simp only [if_neg hp]
    exact row_dev B kb g a w h i (h.own_neg hi hp)

/-- put, at a queue of the kernel. -/
theorem put_q (B kb : Nat) (g : G) (a : A) (w : World) (h : KRep B kb g a w) (i : Int) (hi : a.owner i) (p : Int) (hn : (a.q i).length ≤ 100000) :
    Calls Try.prog 90 #[.pointer (some ⟨hblk g i, hoff i, none⟩), ptr (g.pb p)] w fun e w' => e = .returned (.tuple #[]) ∧ ∃ v', Bel B kb w w' ∧ KRep B kb { g with qv := upd g.qv i v' } { a with q := upd a.q i (a.q i ++ [p]) } w' := by
  have hB : B ≤ w.heap.size := Nat.le_of_lt (Nat.lt_of_le_of_lt h.low.1 (blt h.ker))
  refine (put_any w B (hblk g i) (hoff i) (hty i) (hcells a i (g.qv i)) (g.qv i) (a.q i).length _ (some ⟨g.pb p, 0, none⟩) (h.holder hi) (hcells_get a i _) (h.row i hi) hn hB (h.holder_row hi)).mono ?_
  rintro e w' ⟨he, v', ht, hb, ho, hv⟩
  refine ⟨he, v', ht.bel hB (fun k hk => ?_) h.klt, h.setQ hi v' (a.q i ++ [p]) ht (by rw [hb, hcells_set]) (by simpa using ho) (hv.imp id (fun h => ⟨_, h, by omega⟩))⟩
  rcases hk with rfl | hk
  · exact h.okH hi
  · exact h.okR hi hk.symm

set_option maxHeartbeats 1000000 in
set_option maxRecDepth 100000 in
theorem move_any (B kb : Nat) (g : G) (a : A) (w : World) (h : KRep B kb g a w) (p frm to : Int) (hp : p ∈ a.pids) (hto : a.owner to) (hn : (a.q to).length ≤ 100000) (hm : a.moves.length ≤ 100000) (hc1 : 1 ≤ a.calls) (hc2 : a.calls ≤ 1000000) :
    Calls Try.prog 72 #[ptr kb, ptr (g.pb p), .int .i64 frm, .int .i64 to] w fun e w' => e = .returned (.tuple #[]) ∧ ∃ qv', Bel B kb w w' ∧ KRep B kb { g with qv := qv' } (moveA a p frm to) w' := by
  obtain ⟨i0, hi, hz0, hz1, hz2⟩ := info_parts info31
  have C1 := Lib.hid (KRep.rowAny B kb g a w h to hto)
  have C2 := Lib.hid (put_q B kb g a w h to hto p hn)
  have HP := Lib.hid hp
  have HT := Lib.hid hto
  clear h hp hto
  go_enter Try.func72, Try.ntmps72
  go_wp2_with (first | (go_at_call 31; (with_reducible refine C1.out.mono ?_); rintro e w' ⟨rfl, rfl⟩) | (go_at_call 90; (with_reducible refine C2.out.mono ?_); rintro e w1 ⟨rfl, v1, hb1, h1⟩; have H1 := Lib.hid h1; have HB1 := Lib.hid hb1; have p4 := h1.p4 HP.out; have p5 := h1.p5 HP.out; have p6 := h1.p6 HP.out; have f4 := h1.pf HP.out 4; have f5 := h1.pf HP.out 5; have f6 := h1.pf HP.out 6; clear h1 hb1))
  have H0 := H1.out
  generalize hW : (((w1.setCell { block := g.pb p, off := 4, spot := none } (Value.int IntKind.i64 to)).setCell { block := g.pb p, off := 5, spot := none } (Value.int IntKind.i64 frm)).setCell { block := g.pb p, off := 6, spot := none } (Value.int IntKind.i64 0)) = W2
  have hpb := H0.pack p HP.out
  have e1 := set_same (set_same (set_same hpb 4 (.int .i64 to)) 5 (.int .i64 frm)) 6 (.int .i64 0)
  rw [hW] at e1
  have h2 := H0.setPack HP.out { a.pk p with at_ := to, frm := frm, wth := 0 } (w' := W2) (by
    rw [← hW]
    exact ((Touch.setCell _ _ _ (S := fun k => k = g.pb p) rfl).trans (Touch.setCell _ _ _ rfl)).trans (Touch.setCell _ _ _ rfl)) (by simpa [pcells] using e1)
  have hb2 : Bel B kb w W2 := by
    rw [← hW]
    have hl := H0.okP HP.out
    exact ((HB1.out.setCell hl _).setCell hl.set _).setCell hl.set.set _
  clear hW e1 hpb p4 p5 p6 f4 f5 f6 H0 H1 HB1 w1
  have hmr := h2.mrow
  obtain ⟨va, vc, hv0⟩ := own_form hmr
  have k4 := h2.k4
  rw [hv0] at hmr k4
  have k5 := h2.k5
  have p0 := h2.p0 HP.out
  have hker := Lib.hid h2.ker
  have hcw : IntKind.i64.wrap (a.calls - 1) = a.calls - 1 := by rw [IntKind.wrap_i64]; omega
  have HM := Lib.hid hmr
  have H2 := Lib.hid h2
  have hB2 : B ≤ W2.heap.size := Nat.le_of_lt (Nat.lt_of_le_of_lt h2.low.1 (blt h2.ker))
  have hks := blt h2.ker
  have HV0 := Lib.hid hv0
  have hne : some kb ≠ (Value.slice va a.moves.length vc).ownBlock := by
    intro e
    obtain ⟨_, cur, hc⟩ := own_block hmr e.symm
    rw [h2.ker] at hc
    simp at hc
  clear hmr h2 hv0
  obtain ⟨C, hCd⟩ : ∃ C : World → Prop, ∀ x, C x ↔ (x.cell? ⟨kb, 4, none⟩ = some (.slice va a.moves.length vc) ∧ x.cell? ⟨kb, 5, none⟩ = some (.int .i64 a.calls) ∧ x.cell? ⟨g.pb p, 0, none⟩ = some (.int .i64 p)) := ⟨_, fun _ => Iff.rfl⟩
  have hC0 : C W2.drew := (hCd _).2 ⟨k4, k5, p0⟩
  have s4 : ∀ s : {x : World // C x}, s.1.cell? ⟨kb, 4, none⟩ = some (.slice va a.moves.length vc) := fun s => ((hCd s.1).1 s.2).1
  have s5 : ∀ s : {x : World // C x}, s.1.cell? ⟨kb, 5, none⟩ = some (.int .i64 a.calls) := fun s => ((hCd s.1).1 s.2).2.1
  have s0 : ∀ s : {x : World // C x}, s.1.cell? ⟨g.pb p, 0, none⟩ = some (.int .i64 p) := fun s => ((hCd s.1).1 s.2).2.2
  haveI : Nonempty {x : World // C x} := ⟨⟨_, hC0⟩⟩
  refine Mix.wp_region_mix C [17, 18, 21] (by kernel_rfl) (by kernel_rfl) hC0 ?_
  have HCD := Lib.hid hCd
  clear hCd
  repeat (refine Mix.mix_still rfl (fun K hK => ?_); go_simp; refine hK _ ?_; clear hK K)
  refine Mix.mix_eff rfl ?_
  go_wp2_with fail
  refine ⟨(HCD.out _).2 ⟨Lib.cell?_alloc_some (W := W2) _ k4, Lib.cell?_alloc_some (W := W2) _ k5, Lib.cell?_alloc_some (W := W2) _ p0⟩, ?_⟩
  refine Mix.mix_eff rfl ?_
  refine wpList_append_own_at _ rfl _ _ 28 rfl B 31 i0 (.agg #[.int .i64 0, .int .i64 0, .int .i64 0, .int .i64 0]) 4 32 Try.underlying28 hi hz0 hz1 hz2 rfl (by decide) (.slice va a.moves.length vc) a.moves.length (a.moves.flatMap mcells) rfl (HM.out.alloc _).drew ⟨W2.heap.size, 0, none⟩ 1 1 [.int .i64 (a.calls - 1), .int .i64 p, .int .i64 frm, .int .i64 to] rfl rfl ?n1 ?n2 (by unfold maxLen; omega) (by omega) (by show B ≤ (W2.alloc _).heap.size; simp; omega) ?_
  case n1 =>
    intro j u hu
    rw [Addr.add_lit, Nat.zero_add]
    exact (cell_of (w := W2.alloc _) (b := W2.heap.size) (alloc_new W2 _) j).trans (by simpa using hu)
  case n2 =>
    intro u hu
    simp at hu
    rcases hu with rfl | rfl | rfl | rfl <;> rfl
  intro v' w3 hown' hgrow _ hloc
  obtain ⟨va', vc', rfl⟩ := own_form hown'
  have hg3 : W2.grownBy w3 (Value.slice va a.moves.length vc).ownBlock := (World.grownBy_alloc W2 (.cells #[.int .i64 (a.calls - 1), .int .i64 p, .int .i64 frm, .int .i64 to] 31) _).trans ⟨hgrow.os, hgrow.tape, hgrow.output, hgrow.size, hgrow.block⟩
  have hk3 := (hg3.block kb hks hne).trans hker.out
  have q4 : w3.cell? ⟨kb, 4, none⟩ = some (.slice va a.moves.length vc) := (cell_of hk3 4).trans (congrArg some HV0.out)
  have q5 : w3.cell? ⟨kb, 5, none⟩ = some (.int .i64 a.calls) := cell_of hk3 5
  have z4 : w3.frozen? ⟨kb, 4, none⟩ = false := free_of hk3 4
  have hp3 : some (g.pb p) ≠ (Value.slice va a.moves.length vc).ownBlock := by
    intro e
    obtain ⟨_, cur, hc⟩ := own_block HM.out e.symm
    rw [H2.out.pack p HP.out] at hc
    simp at hc
  have q0 : w3.cell? ⟨g.pb p, 0, none⟩ = some (.int .i64 p) := (cell_of ((hg3.block _ (blt (H2.out.pack p HP.out)) hp3).trans (H2.out.pack p HP.out)) 0).trans (by simp [pcells, upd_same])
  refine wpList_nil ⟨rfl, .inr ((HCD.out _).2 ⟨q4, q5, q0⟩), ?_⟩
  have HG := Lib.hid hg3
  have HK3 := Lib.hid hk3
  have HL := Lib.hid hloc
  have HO := Lib.hid hown'
  clear hown' hgrow hloc hg3 hk3 k4 k5 p0 hker
  repeat (refine Mix.mix_still rfl (fun K hK => ?_); go_simp; refine hK _ ?_; clear hK K)
  refine Mix.mix_eff rfl ?_
  go_wp2_with fail
  refine Mix.mix_nil ?_
  obtain ⟨W4, hW4⟩ : ∃ W4, W4 = w3.setCell ⟨kb, 4, none⟩ (.slice va' (a.moves.length + 1) vc') := ⟨_, rfl⟩
  have hk4 := set_same HK3.out 4 (.slice va' (a.moves.length + 1) vc')
  have hT4 : Touch W2 W4 (fun k => k = kb ∨ some k = (upd g.qv to v1 0).ownBlock) := by
    rw [hW4, HV0.out]
    exact ((Touch.grown HG.out).mono (fun k _ h => .inr h)).trans (Touch.setCell _ _ _ (.inl rfl))
  have h4 := H2.out.setM (w' := W4) (.slice va' (a.moves.length + 1) vc') (a.moves ++ [(a.calls - 1, p, frm, to)]) hT4 (by rw [hW4]; simpa using hk4) (by
      have := HO.out
      rw [hW4]
      refine own_keep (by simpa [mcells] using this) (fun b hb _ => set_other ?_)
      rintro rfl
      obtain ⟨_, cur, hc⟩ := own_block this hb
      rw [HK3.out] at hc
      simp at hc) (by
      show (Value.slice va' (a.moves.length + 1) vc').ownBlock = (upd g.qv to v1 0).ownBlock ∨ _
      rw [HV0.out]
      rcases HL.out with h | h
      · exact .inl h
      · exact .inr ⟨_, h, by show W2.heap.size ≤ (W2.alloc _).heap.size; simp⟩)
  have hb4 : Bel B kb w W4 := hb2.trans (hT4.belK hB2 (fun k hk => by
    rcases hk with rfl | hk
    · exact .inl rfl
    · exact .inr (H2.out.okM hk.symm)) H2.out.low.1 H2.out.ker h4.ker (fun v9 k9 h8 h9 => by
    have e8 : v9 = .slice va' (a.moves.length + 1) vc' := by simpa [upd] using h8.symm
    rw [e8] at h9
    rcases HL.out with hl | hl
    · exact .inr ⟨_, rfl, by rw [← h9, hl]; exact congrArg Value.ownBlock HV0.out⟩
    · rw [hl] at h9
      cases h9
      exact .inl (by show W2.heap.size ≤ (W2.alloc _).heap.size; simp)))
  rw [← hW4]
  have HB4 := Lib.hid hb4
  clear hW4 hk4 hT4 hb4 q4 q5 q0 z4 s4 s5 s0 hC0 hb2 hB2 hne hp3 hks hcw
  have k0 := h4.k0
  have hl := h4.lookT to
  have p0 := h4.p0 HP.out
  have H4 := Lib.hid h4
  by_cases ht : to ∈ a.tids
  · rw [if_pos ht] at hl
    have t3 := h4.t3 ht
    have t4 := h4.t4 ht
    have f3 := h4.tf ht 3
    have f4 := h4.tf ht 4
    have HTT := Lib.hid ht
    clear h4 ht
    simp only at t3 t4 hl k0 p0 f3 f4
    cases hh : (a.tk to).waiting with
    | false =>
      rw [hh] at t3
      have HH := Lib.hid hh
      clear hh
      go_wp2_with fail
      go_quiet (fail)
      go_wp2_with fail
      go_end0
      exact ⟨rfl, upd (upd g.qv to v1) 0 (.slice va' (a.moves.length + 1) vc'), bel_drewN HB4.out _, by
        have := H4.out.keep (w' := W4.drewN nq) (fun _ _ => rfl)
        simpa only [moveA, HTT.out, HH.out, true_and, Bool.false_eq_true, false_and, if_false] using this⟩
    | true =>
      rw [hh] at t3
      have HH := Lib.hid hh
      clear hh
      by_cases h0 : (a.tk to).forr = 0
      · have hb0 : ((a.tk to).forr == 0) = true := by simpa using h0
        have H0 := Lib.hid h0
        clear h0
        go_wp2_with fail
        go_quiet (fail)
        go_wp2_with fail
        go_end0
        have e1 := set_same (set_same (w := W4.drewN nq) (H4.out.task to HTT.out) 3 (.bool false)) 4 (.int .i64 0)
        have h5 := (H4.out.keep (w' := W4.drewN nq) (fun _ _ => rfl)).setTask (w' := ((W4.drewN nq).setCell ⟨g.tb to, 3, none⟩ (.bool false)).setCell ⟨g.tb to, 4, none⟩ (.int .i64 0)) HTT.out { a.tk to with waiting := false, forr := 0 } ((Touch.setCell _ _ _ (S := fun k => k = g.tb to) rfl).trans (Touch.setCell _ _ _ rfl)) (by simpa [tcells] using e1)
        refine ⟨rfl, upd (upd g.qv to v1) 0 (.slice va' (a.moves.length + 1) vc'), ((bel_drewN HB4.out nq).setCell (show Ok B kb (W4.drewN nq) (g.tb to) from (H4.out.okT HTT.out).drewN nq) _).setCell (show Ok B kb (W4.drewN nq) (g.tb to) from (H4.out.okT HTT.out).drewN nq).set _, ?_⟩
        simpa only [moveA, HTT.out, HH.out, H0.out, true_or, and_true, if_true] using h5
      · have hb0 : ((a.tk to).forr == 0) = false := by simpa using h0
        have H0 := Lib.hid h0
        clear h0
        by_cases h1 : (a.tk to).forr = p
        · have hb1 : ((a.tk to).forr == p) = true := by simpa using h1
          have H1 := Lib.hid h1
          clear h1
          go_wp2_with fail
          go_quiet (fail)
          go_wp2_with fail
          go_end0
          have e1 := set_same (set_same (w := W4.drewN nq) (H4.out.task to HTT.out) 3 (.bool false)) 4 (.int .i64 0)
          have h5 := (H4.out.keep (w' := W4.drewN nq) (fun _ _ => rfl)).setTask (w' := ((W4.drewN nq).setCell ⟨g.tb to, 3, none⟩ (.bool false)).setCell ⟨g.tb to, 4, none⟩ (.int .i64 0)) HTT.out { a.tk to with waiting := false, forr := 0 } ((Touch.setCell _ _ _ (S := fun k => k = g.tb to) rfl).trans (Touch.setCell _ _ _ rfl)) (by simpa [tcells] using e1)
          refine ⟨rfl, upd (upd g.qv to v1) 0 (.slice va' (a.moves.length + 1) vc'), ((bel_drewN HB4.out nq).setCell (show Ok B kb (W4.drewN nq) (g.tb to) from (H4.out.okT HTT.out).drewN nq) _).setCell (show Ok B kb (W4.drewN nq) (g.tb to) from (H4.out.okT HTT.out).drewN nq).set _, ?_⟩
          simpa only [moveA, HTT.out, HH.out, H1.out, or_true, and_true, if_true] using h5
        · have hb1 : ((a.tk to).forr == p) = false := by simpa using h1
          have H1 := Lib.hid h1
          clear h1
          go_wp2_with fail
          go_quiet (fail)
          go_wp2_with fail
          go_end0
          exact ⟨rfl, upd (upd g.qv to v1) 0 (.slice va' (a.moves.length + 1) vc'), bel_drewN HB4.out _, by
            have := H4.out.keep (w' := W4.drewN nq) (fun _ _ => rfl)
            simpa only [moveA, HTT.out, HH.out, H0.out, H1.out, or_false, and_false, if_false] using this⟩
  · rw [if_neg ht] at hl
    have HTT := Lib.hid ht
    clear h4 ht
    simp only at hl k0 p0
    go_wp2_with fail
    go_quiet (fail)
    go_wp2_with fail
    go_end0
    exact ⟨rfl, upd (upd g.qv to v1) 0 (.slice va' (a.moves.length + 1) vc'), bel_drewN HB4.out _, by
      have := H4.out.keep (w' := W4.drewN nq) (fun _ _ => rfl)
      simpa only [moveA, HTT.out, false_and, if_false] using this⟩
end Go.Proofs.Ytkmgbnklfnjfjaa.Ker
