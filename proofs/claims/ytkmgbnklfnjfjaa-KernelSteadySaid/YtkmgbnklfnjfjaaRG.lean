import Derived.Test.YtkmgbnklfnjfjaaRF
/-! The specification's kernel: enqueue, the walk. -/
namespace Go.Proofs.Ytkmgbnklfnjfjaa.Ker
open Go.RowKit Go.Maps

set_option maxHeartbeats 4000000 in
set_option maxRecDepth 100000 in
theorem renq_dev0 (B xb : Nat) (h : RG) (a : A) (w : World) (r : RRep B xb h a w) (gd : Good a) (p frm : Int) (hp : p ∈ a.pids) (hm : a.moves.length ≤ 100000) :
    Calls Try.prog 88 #[ptr xb, .int .i64 p, .int .i64 frm, .int .i64 (-1)] w (LeftR B xb h a w (.tuple #[]) (moveR a p frm (-1))) := by
  have hto : (-1 : Int) ∈ devs := by decide
  obtain ⟨i0, hi0, hz0, hz1, hz2⟩ := info_parts info3
  obtain ⟨j0, hj0, jz0, jz1, jz2⟩ := info_parts info31
  have hr := gd.pkr p hp
  have hmade := gd.made
  have hN := made_len gd
  obtain ⟨n, rfl⟩ : ∃ n : Nat, p = (n : Int) + 1 := ⟨(p - 1).toNat, by omega⟩
  obtain ⟨g, pc, hpv, ⟨pcur, hpb⟩, hc⟩ := r.pcells gd (n := n) (by omega)
  have k1 := r.k1
  rw [hpv] at k1
  have hnl : n < (pnums a.made).length := by omega
  have hn200 : n ≤ 200 := by omega
  have q4 : w.cell? ⟨g, n * 7 + 4, none⟩ = some (.int .i64 (rpk a ((n : Int) + 1)).at_) := hc 4 (by omega)
  have q5 : w.cell? ⟨g, n * 7 + 5, none⟩ = some (.int .i64 (rpk a ((n : Int) + 1)).frm) := hc 5 (by omega)
  have q6 : w.cell? ⟨g, n * 7 + 6, none⟩ = some (.int .i64 (rpk a ((n : Int) + 1)).wth) := hc 6 (by omega)
  have f4 : w.frozen? ⟨g, n * 7 + 4, none⟩ = false := free_of hpb _
  have f5 : w.frozen? ⟨g, n * 7 + 5, none⟩ = false := free_of hpb _
  have f6 : w.frozen? ⟨g, n * 7 + 6, none⟩ = false := free_of hpb _
  have LA := Lib.hid (pk_three r frm (-1) hp (by omega) (n := n) (g := g) (by rw [hpv]; rfl))
  have GD := Lib.hid gd
  have HTO := Lib.hid hto
  have hql := gd.qlen (i := (-1)) (.inr hto)
  have hnt : (-1 : Int) ∉ a.tids := fun hh => by have := gd.trng _ hh; omega
  have HNT := Lib.hid hnt
  clear r gd hp hto hc hpv hpb hr hmade hN hnt
  go_enter Try.func88, Try.ntmps88
  go_wp2_with fail
  generalize hW : (((w.setCell ⟨g, n * 7 + 5, none⟩ (.int .i64 frm)).setCell ⟨g, n * 7 + 4, none⟩ (.int .i64 (-1))).setCell ⟨g, n * 7 + 6, none⟩ (.int .i64 0)) = W2 at LA ⊢
  clear hW q4 q5 q6 f4 f5 f6 k1
  obtain ⟨a1, ha1⟩ : ∃ a1, a1 = { a with pk := upd a.pk ((n : Int) + 1) { a.pk ((n : Int) + 1) with at_ := (-1), frm := frm, wth := 0 } } := ⟨_, rfl⟩
  have hcl1 : a1.calls = a.calls := by rw [ha1]
  have hmv1 : a1.moves = a.moves := by rw [ha1]
  have LA1 := LA.out
  rw [← ha1] at LA1
  have LB := Lib.hid LA1
  have HA1 := Lib.hid ha1
  have r2 := LA1.rep
  obtain ⟨va, vc, hmv⟩ := own_form r2.mrow
  have k7 := r2.k7
  have k8 := r2.k8
  rw [hmv] at k7
  have hmr := r2.mrow
  rw [hmv] at hmr
  have HMR := Lib.hid hmr
  have HMV := Lib.hid hmv
  have R2 := Lib.hid r2
  have hlow := r2.low
  have hxs := blt r2.blk
  have hml : a1.moves.length ≤ 100000 := by rw [hmv1]; exact hm
  have f7 := r2.kf 7
  have HCL := Lib.hid hcl1
  have HMV1 := Lib.hid hmv1
  clear LA LA1 ha1 hcl1 hmv1 r2 hmr hmv
  obtain ⟨C, hCd⟩ : ∃ C : World → Prop, ∀ x, C x ↔ (x.cell? ⟨xb, 7, none⟩ = some (.slice va a1.moves.length vc) ∧ x.cell? ⟨xb, 8, none⟩ = some (.int .i64 a1.calls)) := ⟨_, fun _ => Iff.rfl⟩
  have hC0 : C W2.drew := (hCd _).2 ⟨k7, k8⟩
  have s7 : ∀ s : {x : World // C x}, s.1.cell? ⟨xb, 7, none⟩ = some (.slice va a1.moves.length vc) := fun s => ((hCd s.1).1 s.2).1
  have s8 : ∀ s : {x : World // C x}, s.1.cell? ⟨xb, 8, none⟩ = some (.int .i64 a1.calls) := fun s => ((hCd s.1).1 s.2).2
  haveI : Nonempty {x : World // C x} := ⟨⟨_, hC0⟩⟩
  refine Mix.wp_region_mix C [13, 14, 17] (by kernel_rfl) (by kernel_rfl) hC0 ?_
  have HCD := Lib.hid hCd
  clear hCd
  repeat (refine Mix.mix_still rfl (fun K hK => ?_); go_simp; refine hK _ ?_; clear hK K)
  refine Mix.mix_eff rfl ?_
  go_wp2_with fail
  refine ⟨(HCD.out _).2 ⟨Lib.cell?_alloc_some (W := W2) _ k7, Lib.cell?_alloc_some (W := W2) _ k8⟩, ?_⟩
  refine Mix.mix_eff rfl ?_
  refine wpList_append_own_at _ rfl _ _ 28 rfl B 31 j0 (.agg #[.int .i64 0, .int .i64 0, .int .i64 0, .int .i64 0]) 4 32 Try.underlying28 hj0 jz0 jz1 jz2 rfl (by decide) (.slice va a1.moves.length vc) a1.moves.length (a1.moves.flatMap mcells) rfl (HMR.out.alloc _).drew ⟨W2.heap.size, 0, none⟩ 1 1 [.int .i64 a1.calls, .int .i64 ((n : Int) + 1), .int .i64 frm, .int .i64 (-1)] rfl rfl (new4 W2 _) (by intro u hu; simp at hu; rcases hu with rfl | rfl | rfl | rfl <;> rfl) (by unfold maxLen; omega) (by omega) (by show B ≤ (W2.alloc _).heap.size; simp; omega) ?_
  intro v' w3 hown' hgrow _ hloc
  obtain ⟨vb, vd, rfl⟩ := own_form hown'
  have hg3 : W2.grownBy w3 (Value.slice va a1.moves.length vc).ownBlock := (World.grownBy_alloc W2 (.cells #[.int .i64 a1.calls, .int .i64 ((n : Int) + 1), .int .i64 frm, .int .i64 (-1)] 31) _).trans ⟨hgrow.os, hgrow.tape, hgrow.output, hgrow.size, hgrow.block⟩
  have hx3 : w3.heap[xb]? = some (.cells (rcells h a1) 63 (0, 0)) := (hg3.block xb hxs (fun e => own_ty HMR.out R2.out.blk (by decide) e.symm)).trans R2.out.blk
  have q7 : w3.cell? ⟨xb, 7, none⟩ = some (.slice va a1.moves.length vc) := (cell_of hx3 7).trans (congrArg some HMV.out)
  have q8 : w3.cell? ⟨xb, 8, none⟩ = some (.int .i64 a1.calls) := cell_of hx3 8
  have z7' : w3.frozen? ⟨xb, 7, none⟩ = false := free_of hx3 7
  refine wpList_nil ⟨rfl, .inr ((HCD.out _).2 ⟨q7, q8⟩), ?_⟩
  have LM := Lib.hid (LB.out.trans (mv_append B xb h a1 W2 w3 R2.out ((n : Int) + 1) frm (-1) va vc HMV.out _ hown' hg3 (by simpa using hloc)))
  clear hown' hgrow hloc hg3 hx3 k7 k8
  repeat (refine Mix.mix_still rfl (fun K hK => ?_); go_simp; refine hK _ ?_; clear hK K)
  refine Mix.mix_eff rfl ?_
  go_wp2_with fail
  refine Mix.mix_nil ?_
  generalize hW4 : w3.setCell ⟨xb, 7, none⟩ (.slice vb (a1.moves.length + 1) vd) = W4 at LM ⊢
  clear hW4 q7 q8 z7' s7 s8 hC0 HCD f7
  obtain ⟨h4, hh4⟩ : ∃ h4, h4 = ({ h with mv := .slice vb (a1.moves.length + 1) vd } : RG) := ⟨_, rfl⟩
  obtain ⟨a4, ha4⟩ : ∃ a4, a4 = { a1 with moves := a1.moves ++ [(a1.calls, (n : Int) + 1, frm, (-1))] } := ⟨_, rfl⟩
  have lm := LM.out
  rw [← hh4, ← ha4] at lm
  have L4 := Lib.hid lm
  have H4 := Lib.hid (show a4.q = a.q ∧ a4.tids = a.tids ∧ a4.tk = a.tk by rw [ha4, HA1.out]; exact ⟨rfl, rfl, rfl⟩)
  have HA4 := Lib.hid (show a4 = { a with pk := upd a.pk ((n : Int) + 1) { a.pk ((n : Int) + 1) with at_ := (-1), frm := frm, wth := 0 }, moves := a.moves ++ [(a.calls, (n : Int) + 1, frm, (-1))] } by rw [ha4, HA1.out])
  clear lm LM hh4 ha4 LB R2 HMV HMR HA1
  go_wp2_with fail
  have r4 := L4.out.rep
  have hql4 : (a4.q (-1)).length ≤ 200 := by rw [H4.out.1]; exact hql
  have hkk : W4.cell? ⟨xb, 2, none⟩ = some (h4.qv (-1)) := by rw [cell_of r4.blk]; rfl
  obtain ⟨va, vc, hqv⟩ := own_form (r4.row (-1) (.inr HTO.out))
  rw [hqv] at hkk
  have ho4 := r4.row (-1) (.inr HTO.out)
  rw [hqv] at ho4
  have HO4 := Lib.hid ho4
  have R4 := Lib.hid r4
  have HQV := Lib.hid hqv
  have hxs4 := blt r4.blk
  have fk := r4.kf 2
  clear r4 ho4 hqv
  obtain ⟨C, hCd⟩ : ∃ C : World → Prop, ∀ x, C x ↔ x.cell? ⟨xb, 2, none⟩ = some (.slice va (a4.q (-1)).length vc) := ⟨_, fun _ => Iff.rfl⟩
  have hC0 : C W4.drew := (hCd _).2 hkk
  have s7 : ∀ s : {x : World // C x}, s.1.cell? ⟨xb, 2, none⟩ = some (.slice va (a4.q (-1)).length vc) := fun s => (hCd s.1).1 s.2
  haveI : Nonempty {x : World // C x} := ⟨⟨_, hC0⟩⟩
  have hw1 : IntKind.i64.wrap 1 = 1 := by rw [IntKind.wrap_i64]; omega
  have hw2 : IntKind.i64.wrap 0 = 0 := by rw [IntKind.wrap_i64]; omega
  refine Mix.wp_region_mix C [13, 14, 18] (by kernel_rfl) (by kernel_rfl) hC0 ?_
  have HCD := Lib.hid hCd
  clear hCd
  repeat (refine Mix.mix_still rfl (fun K hK => ?_); go_simp; refine hK _ ?_; clear hK K)
  refine Mix.mix_eff rfl ?_
  go_wp2_with fail
  refine ⟨(HCD.out _).2 (Lib.cell?_alloc_some (W := W4) _ hkk), ?_⟩
  refine Mix.mix_eff rfl ?_
  refine wpList_append_own_at _ rfl _ _ 23 rfl B 3 i0 (.int .i64 0) 1 8 Try.underlying23 hi0 hz0 hz1 hz2 rfl (by decide) (.slice va (a4.q (-1)).length vc) (a4.q (-1)).length _ rfl (HO4.out.alloc _).drew ⟨W4.heap.size, 0, none⟩ 1 1 [.int .i64 ((n : Int) + 1)] rfl rfl (cell_one_new W4 _ _) (by simp [Value.oneCell']) (by unfold maxLen; omega) (by omega) (by show B ≤ (W4.alloc _).heap.size; simp; omega) ?_
  intro v5 w5 hown5 hgrow5 _ hloc5
  obtain ⟨vb5, vd5, rfl⟩ := own_form hown5
  have hg5 : W4.grownBy w5 (Value.slice va (a4.q (-1)).length vc).ownBlock := (World.grownBy_alloc W4 (.cells #[.int .i64 ((n : Int) + 1)] 3) _).trans ⟨hgrow5.os, hgrow5.tape, hgrow5.output, hgrow5.size, hgrow5.block⟩
  have hx5 : w5.heap[xb]? = some (.cells (rcells h4 a4) 63 (0, 0)) := (hg5.block xb hxs4 (fun e => own_ty HO4.out R4.out.blk (by decide) e.symm)).trans R4.out.blk
  have q7 : w5.cell? ⟨xb, 2, none⟩ = some (.slice va (a4.q (-1)).length vc) := (cell_of hx5 2).trans (congrArg some HQV.out)
  have z7' : w5.frozen? ⟨xb, 2, none⟩ = false := free_of hx5 2
  refine wpList_nil ⟨rfl, .inr ((HCD.out _).2 q7), ?_⟩
  have G4 : Good a4 → True := fun _ => trivial
  have L5 := Lib.hid (L4.out.trans (dq_append' R4.out (by rw [H4.out.2.1]; exact HNT.out) (k := 0) (i := (-1)) (p := (n : Int) + 1) HTO.out (by decide) _ hown5 (by rw [HQV.out]; exact hg5) (by rw [HQV.out]; exact hloc5.imp id (fun h => ⟨_, h, by simp⟩))))
  clear hown5 hgrow5 hloc5 hg5 hx5 hkk G4
  repeat (refine Mix.mix_still rfl (fun K hK => ?_); go_simp; refine hK _ ?_; clear hK K)
  refine Mix.mix_eff rfl ?_
  go_wp2_with fail
  refine Mix.mix_nil ?_
  go_wp2_with fail
  go_end0
  have e : ({ a4 with q := upd a4.q (-1) (a4.q (-1) ++ [(n : Int) + 1]) } : A) = moveR a ((n : Int) + 1) frm (-1) := by
    rw [HA4.out]
    simp only [moveR]
    rw [if_neg (fun hh => HNT.out hh.1)]
  have L6 := L5.out
  rw [e] at L6
  exact ⟨rfl, _, L6⟩
set_option maxHeartbeats 4000000 in
set_option maxRecDepth 100000 in
theorem renq_dev1 (B xb : Nat) (h : RG) (a : A) (w : World) (r : RRep B xb h a w) (gd : Good a) (p frm : Int) (hp : p ∈ a.pids) (hm : a.moves.length ≤ 100000) :
    Calls Try.prog 88 #[ptr xb, .int .i64 p, .int .i64 frm, .int .i64 (-2)] w (LeftR B xb h a w (.tuple #[]) (moveR a p frm (-2))) := by
  have hto : (-2 : Int) ∈ devs := by decide
  obtain ⟨i0, hi0, hz0, hz1, hz2⟩ := info_parts info3
  obtain ⟨j0, hj0, jz0, jz1, jz2⟩ := info_parts info31
  have hr := gd.pkr p hp
  have hmade := gd.made
  have hN := made_len gd
  obtain ⟨n, rfl⟩ : ∃ n : Nat, p = (n : Int) + 1 := ⟨(p - 1).toNat, by omega⟩
  obtain ⟨g, pc, hpv, ⟨pcur, hpb⟩, hc⟩ := r.pcells gd (n := n) (by omega)
  have k1 := r.k1
  rw [hpv] at k1
  have hnl : n < (pnums a.made).length := by omega
  have hn200 : n ≤ 200 := by omega
  have q4 : w.cell? ⟨g, n * 7 + 4, none⟩ = some (.int .i64 (rpk a ((n : Int) + 1)).at_) := hc 4 (by omega)
  have q5 : w.cell? ⟨g, n * 7 + 5, none⟩ = some (.int .i64 (rpk a ((n : Int) + 1)).frm) := hc 5 (by omega)
  have q6 : w.cell? ⟨g, n * 7 + 6, none⟩ = some (.int .i64 (rpk a ((n : Int) + 1)).wth) := hc 6 (by omega)
  have f4 : w.frozen? ⟨g, n * 7 + 4, none⟩ = false := free_of hpb _
  have f5 : w.frozen? ⟨g, n * 7 + 5, none⟩ = false := free_of hpb _
  have f6 : w.frozen? ⟨g, n * 7 + 6, none⟩ = false := free_of hpb _
  have LA := Lib.hid (pk_three r frm (-2) hp (by omega) (n := n) (g := g) (by rw [hpv]; rfl))
  have GD := Lib.hid gd
  have HTO := Lib.hid hto
  have hql := gd.qlen (i := (-2)) (.inr hto)
  have hnt : (-2 : Int) ∉ a.tids := fun hh => by have := gd.trng _ hh; omega
  have HNT := Lib.hid hnt
  clear r gd hp hto hc hpv hpb hr hmade hN hnt
  go_enter Try.func88, Try.ntmps88
  go_wp2_with fail
  generalize hW : (((w.setCell ⟨g, n * 7 + 5, none⟩ (.int .i64 frm)).setCell ⟨g, n * 7 + 4, none⟩ (.int .i64 (-2))).setCell ⟨g, n * 7 + 6, none⟩ (.int .i64 0)) = W2 at LA ⊢
  clear hW q4 q5 q6 f4 f5 f6 k1
  obtain ⟨a1, ha1⟩ : ∃ a1, a1 = { a with pk := upd a.pk ((n : Int) + 1) { a.pk ((n : Int) + 1) with at_ := (-2), frm := frm, wth := 0 } } := ⟨_, rfl⟩
  have hcl1 : a1.calls = a.calls := by rw [ha1]
  have hmv1 : a1.moves = a.moves := by rw [ha1]
  have LA1 := LA.out
  rw [← ha1] at LA1
  have LB := Lib.hid LA1
  have HA1 := Lib.hid ha1
  have r2 := LA1.rep
  obtain ⟨va, vc, hmv⟩ := own_form r2.mrow
  have k7 := r2.k7
  have k8 := r2.k8
  rw [hmv] at k7
  have hmr := r2.mrow
  rw [hmv] at hmr
  have HMR := Lib.hid hmr
  have HMV := Lib.hid hmv
  have R2 := Lib.hid r2
  have hlow := r2.low
  have hxs := blt r2.blk
  have hml : a1.moves.length ≤ 100000 := by rw [hmv1]; exact hm
  have f7 := r2.kf 7
  have HCL := Lib.hid hcl1
  have HMV1 := Lib.hid hmv1
  clear LA LA1 ha1 hcl1 hmv1 r2 hmr hmv
  obtain ⟨C, hCd⟩ : ∃ C : World → Prop, ∀ x, C x ↔ (x.cell? ⟨xb, 7, none⟩ = some (.slice va a1.moves.length vc) ∧ x.cell? ⟨xb, 8, none⟩ = some (.int .i64 a1.calls)) := ⟨_, fun _ => Iff.rfl⟩
  have hC0 : C W2.drew := (hCd _).2 ⟨k7, k8⟩
  have s7 : ∀ s : {x : World // C x}, s.1.cell? ⟨xb, 7, none⟩ = some (.slice va a1.moves.length vc) := fun s => ((hCd s.1).1 s.2).1
  have s8 : ∀ s : {x : World // C x}, s.1.cell? ⟨xb, 8, none⟩ = some (.int .i64 a1.calls) := fun s => ((hCd s.1).1 s.2).2
  haveI : Nonempty {x : World // C x} := ⟨⟨_, hC0⟩⟩
  refine Mix.wp_region_mix C [13, 14, 17] (by kernel_rfl) (by kernel_rfl) hC0 ?_
  have HCD := Lib.hid hCd
  clear hCd
  repeat (refine Mix.mix_still rfl (fun K hK => ?_); go_simp; refine hK _ ?_; clear hK K)
  refine Mix.mix_eff rfl ?_
  go_wp2_with fail
  refine ⟨(HCD.out _).2 ⟨Lib.cell?_alloc_some (W := W2) _ k7, Lib.cell?_alloc_some (W := W2) _ k8⟩, ?_⟩
  refine Mix.mix_eff rfl ?_
  refine wpList_append_own_at _ rfl _ _ 28 rfl B 31 j0 (.agg #[.int .i64 0, .int .i64 0, .int .i64 0, .int .i64 0]) 4 32 Try.underlying28 hj0 jz0 jz1 jz2 rfl (by decide) (.slice va a1.moves.length vc) a1.moves.length (a1.moves.flatMap mcells) rfl (HMR.out.alloc _).drew ⟨W2.heap.size, 0, none⟩ 1 1 [.int .i64 a1.calls, .int .i64 ((n : Int) + 1), .int .i64 frm, .int .i64 (-2)] rfl rfl (new4 W2 _) (by intro u hu; simp at hu; rcases hu with rfl | rfl | rfl | rfl <;> rfl) (by unfold maxLen; omega) (by omega) (by show B ≤ (W2.alloc _).heap.size; simp; omega) ?_
  intro v' w3 hown' hgrow _ hloc
  obtain ⟨vb, vd, rfl⟩ := own_form hown'
  have hg3 : W2.grownBy w3 (Value.slice va a1.moves.length vc).ownBlock := (World.grownBy_alloc W2 (.cells #[.int .i64 a1.calls, .int .i64 ((n : Int) + 1), .int .i64 frm, .int .i64 (-2)] 31) _).trans ⟨hgrow.os, hgrow.tape, hgrow.output, hgrow.size, hgrow.block⟩
  have hx3 : w3.heap[xb]? = some (.cells (rcells h a1) 63 (0, 0)) := (hg3.block xb hxs (fun e => own_ty HMR.out R2.out.blk (by decide) e.symm)).trans R2.out.blk
  have q7 : w3.cell? ⟨xb, 7, none⟩ = some (.slice va a1.moves.length vc) := (cell_of hx3 7).trans (congrArg some HMV.out)
  have q8 : w3.cell? ⟨xb, 8, none⟩ = some (.int .i64 a1.calls) := cell_of hx3 8
  have z7' : w3.frozen? ⟨xb, 7, none⟩ = false := free_of hx3 7
  refine wpList_nil ⟨rfl, .inr ((HCD.out _).2 ⟨q7, q8⟩), ?_⟩
  have LM := Lib.hid (LB.out.trans (mv_append B xb h a1 W2 w3 R2.out ((n : Int) + 1) frm (-2) va vc HMV.out _ hown' hg3 (by simpa using hloc)))
  clear hown' hgrow hloc hg3 hx3 k7 k8
  repeat (refine Mix.mix_still rfl (fun K hK => ?_); go_simp; refine hK _ ?_; clear hK K)
  refine Mix.mix_eff rfl ?_
  go_wp2_with fail
  refine Mix.mix_nil ?_
  generalize hW4 : w3.setCell ⟨xb, 7, none⟩ (.slice vb (a1.moves.length + 1) vd) = W4 at LM ⊢
  clear hW4 q7 q8 z7' s7 s8 hC0 HCD f7
  obtain ⟨h4, hh4⟩ : ∃ h4, h4 = ({ h with mv := .slice vb (a1.moves.length + 1) vd } : RG) := ⟨_, rfl⟩
  obtain ⟨a4, ha4⟩ : ∃ a4, a4 = { a1 with moves := a1.moves ++ [(a1.calls, (n : Int) + 1, frm, (-2))] } := ⟨_, rfl⟩
  have lm := LM.out
  rw [← hh4, ← ha4] at lm
  have L4 := Lib.hid lm
  have H4 := Lib.hid (show a4.q = a.q ∧ a4.tids = a.tids ∧ a4.tk = a.tk by rw [ha4, HA1.out]; exact ⟨rfl, rfl, rfl⟩)
  have HA4 := Lib.hid (show a4 = { a with pk := upd a.pk ((n : Int) + 1) { a.pk ((n : Int) + 1) with at_ := (-2), frm := frm, wth := 0 }, moves := a.moves ++ [(a.calls, (n : Int) + 1, frm, (-2))] } by rw [ha4, HA1.out])
  clear lm LM hh4 ha4 LB R2 HMV HMR HA1
  go_wp2_with fail
  have r4 := L4.out.rep
  have hql4 : (a4.q (-2)).length ≤ 200 := by rw [H4.out.1]; exact hql
  have hkk : W4.cell? ⟨xb, 3, none⟩ = some (h4.qv (-2)) := by rw [cell_of r4.blk]; rfl
  obtain ⟨va, vc, hqv⟩ := own_form (r4.row (-2) (.inr HTO.out))
  rw [hqv] at hkk
  have ho4 := r4.row (-2) (.inr HTO.out)
  rw [hqv] at ho4
  have HO4 := Lib.hid ho4
  have R4 := Lib.hid r4
  have HQV := Lib.hid hqv
  have hxs4 := blt r4.blk
  have fk := r4.kf 3
  clear r4 ho4 hqv
  obtain ⟨C, hCd⟩ : ∃ C : World → Prop, ∀ x, C x ↔ x.cell? ⟨xb, 3, none⟩ = some (.slice va (a4.q (-2)).length vc) := ⟨_, fun _ => Iff.rfl⟩
  have hC0 : C W4.drew := (hCd _).2 hkk
  have s7 : ∀ s : {x : World // C x}, s.1.cell? ⟨xb, 3, none⟩ = some (.slice va (a4.q (-2)).length vc) := fun s => (hCd s.1).1 s.2
  haveI : Nonempty {x : World // C x} := ⟨⟨_, hC0⟩⟩
  have hw1 : IntKind.i64.wrap 2 = 2 := by rw [IntKind.wrap_i64]; omega
  have hw2 : IntKind.i64.wrap 1 = 1 := by rw [IntKind.wrap_i64]; omega
  refine Mix.wp_region_mix C [13, 14, 18] (by kernel_rfl) (by kernel_rfl) hC0 ?_
  have HCD := Lib.hid hCd
  clear hCd
  repeat (refine Mix.mix_still rfl (fun K hK => ?_); go_simp; refine hK _ ?_; clear hK K)
  refine Mix.mix_eff rfl ?_
  go_wp2_with fail
  refine ⟨(HCD.out _).2 (Lib.cell?_alloc_some (W := W4) _ hkk), ?_⟩
  refine Mix.mix_eff rfl ?_
  refine wpList_append_own_at _ rfl _ _ 23 rfl B 3 i0 (.int .i64 0) 1 8 Try.underlying23 hi0 hz0 hz1 hz2 rfl (by decide) (.slice va (a4.q (-2)).length vc) (a4.q (-2)).length _ rfl (HO4.out.alloc _).drew ⟨W4.heap.size, 0, none⟩ 1 1 [.int .i64 ((n : Int) + 1)] rfl rfl (cell_one_new W4 _ _) (by simp [Value.oneCell']) (by unfold maxLen; omega) (by omega) (by show B ≤ (W4.alloc _).heap.size; simp; omega) ?_
  intro v5 w5 hown5 hgrow5 _ hloc5
  obtain ⟨vb5, vd5, rfl⟩ := own_form hown5
  have hg5 : W4.grownBy w5 (Value.slice va (a4.q (-2)).length vc).ownBlock := (World.grownBy_alloc W4 (.cells #[.int .i64 ((n : Int) + 1)] 3) _).trans ⟨hgrow5.os, hgrow5.tape, hgrow5.output, hgrow5.size, hgrow5.block⟩
  have hx5 : w5.heap[xb]? = some (.cells (rcells h4 a4) 63 (0, 0)) := (hg5.block xb hxs4 (fun e => own_ty HO4.out R4.out.blk (by decide) e.symm)).trans R4.out.blk
  have q7 : w5.cell? ⟨xb, 3, none⟩ = some (.slice va (a4.q (-2)).length vc) := (cell_of hx5 3).trans (congrArg some HQV.out)
  have z7' : w5.frozen? ⟨xb, 3, none⟩ = false := free_of hx5 3
  refine wpList_nil ⟨rfl, .inr ((HCD.out _).2 q7), ?_⟩
  have G4 : Good a4 → True := fun _ => trivial
  have L5 := Lib.hid (L4.out.trans (dq_append' R4.out (by rw [H4.out.2.1]; exact HNT.out) (k := 1) (i := (-2)) (p := (n : Int) + 1) HTO.out (by decide) _ hown5 (by rw [HQV.out]; exact hg5) (by rw [HQV.out]; exact hloc5.imp id (fun h => ⟨_, h, by simp⟩))))
  clear hown5 hgrow5 hloc5 hg5 hx5 hkk G4
  repeat (refine Mix.mix_still rfl (fun K hK => ?_); go_simp; refine hK _ ?_; clear hK K)
  refine Mix.mix_eff rfl ?_
  go_wp2_with fail
  refine Mix.mix_nil ?_
  go_wp2_with fail
  go_end0
  have e : ({ a4 with q := upd a4.q (-2) (a4.q (-2) ++ [(n : Int) + 1]) } : A) = moveR a ((n : Int) + 1) frm (-2) := by
    rw [HA4.out]
    simp only [moveR]
    rw [if_neg (fun hh => HNT.out hh.1)]
  have L6 := L5.out
  rw [e] at L6
  exact ⟨rfl, _, L6⟩
set_option maxHeartbeats 4000000 in
set_option maxRecDepth 100000 in
theorem renq_dev2 (B xb : Nat) (h : RG) (a : A) (w : World) (r : RRep B xb h a w) (gd : Good a) (p frm : Int) (hp : p ∈ a.pids) (hm : a.moves.length ≤ 100000) :
    Calls Try.prog 88 #[ptr xb, .int .i64 p, .int .i64 frm, .int .i64 (-3)] w (LeftR B xb h a w (.tuple #[]) (moveR a p frm (-3))) := by
  have hto : (-3 : Int) ∈ devs := by decide
  obtain ⟨i0, hi0, hz0, hz1, hz2⟩ := info_parts info3
  obtain ⟨j0, hj0, jz0, jz1, jz2⟩ := info_parts info31
  have hr := gd.pkr p hp
  have hmade := gd.made
  have hN := made_len gd
  obtain ⟨n, rfl⟩ : ∃ n : Nat, p = (n : Int) + 1 := ⟨(p - 1).toNat, by omega⟩
  obtain ⟨g, pc, hpv, ⟨pcur, hpb⟩, hc⟩ := r.pcells gd (n := n) (by omega)
  have k1 := r.k1
  rw [hpv] at k1
  have hnl : n < (pnums a.made).length := by omega
  have hn200 : n ≤ 200 := by omega
  have q4 : w.cell? ⟨g, n * 7 + 4, none⟩ = some (.int .i64 (rpk a ((n : Int) + 1)).at_) := hc 4 (by omega)
  have q5 : w.cell? ⟨g, n * 7 + 5, none⟩ = some (.int .i64 (rpk a ((n : Int) + 1)).frm) := hc 5 (by omega)
  have q6 : w.cell? ⟨g, n * 7 + 6, none⟩ = some (.int .i64 (rpk a ((n : Int) + 1)).wth) := hc 6 (by omega)
  have f4 : w.frozen? ⟨g, n * 7 + 4, none⟩ = false := free_of hpb _
  have f5 : w.frozen? ⟨g, n * 7 + 5, none⟩ = false := free_of hpb _
  have f6 : w.frozen? ⟨g, n * 7 + 6, none⟩ = false := free_of hpb _
  have LA := Lib.hid (pk_three r frm (-3) hp (by omega) (n := n) (g := g) (by rw [hpv]; rfl))
  have GD := Lib.hid gd
  have HTO := Lib.hid hto
  have hql := gd.qlen (i := (-3)) (.inr hto)
  have hnt : (-3 : Int) ∉ a.tids := fun hh => by have := gd.trng _ hh; omega
  have HNT := Lib.hid hnt
  clear r gd hp hto hc hpv hpb hr hmade hN hnt
  go_enter Try.func88, Try.ntmps88
  go_wp2_with fail
  generalize hW : (((w.setCell ⟨g, n * 7 + 5, none⟩ (.int .i64 frm)).setCell ⟨g, n * 7 + 4, none⟩ (.int .i64 (-3))).setCell ⟨g, n * 7 + 6, none⟩ (.int .i64 0)) = W2 at LA ⊢
  clear hW q4 q5 q6 f4 f5 f6 k1
  obtain ⟨a1, ha1⟩ : ∃ a1, a1 = { a with pk := upd a.pk ((n : Int) + 1) { a.pk ((n : Int) + 1) with at_ := (-3), frm := frm, wth := 0 } } := ⟨_, rfl⟩
  have hcl1 : a1.calls = a.calls := by rw [ha1]
  have hmv1 : a1.moves = a.moves := by rw [ha1]
  have LA1 := LA.out
  rw [← ha1] at LA1
  have LB := Lib.hid LA1
  have HA1 := Lib.hid ha1
  have r2 := LA1.rep
  obtain ⟨va, vc, hmv⟩ := own_form r2.mrow
  have k7 := r2.k7
  have k8 := r2.k8
  rw [hmv] at k7
  have hmr := r2.mrow
  rw [hmv] at hmr
  have HMR := Lib.hid hmr
  have HMV := Lib.hid hmv
  have R2 := Lib.hid r2
  have hlow := r2.low
  have hxs := blt r2.blk
  have hml : a1.moves.length ≤ 100000 := by rw [hmv1]; exact hm
  have f7 := r2.kf 7
  have HCL := Lib.hid hcl1
  have HMV1 := Lib.hid hmv1
  clear LA LA1 ha1 hcl1 hmv1 r2 hmr hmv
  obtain ⟨C, hCd⟩ : ∃ C : World → Prop, ∀ x, C x ↔ (x.cell? ⟨xb, 7, none⟩ = some (.slice va a1.moves.length vc) ∧ x.cell? ⟨xb, 8, none⟩ = some (.int .i64 a1.calls)) := ⟨_, fun _ => Iff.rfl⟩
  have hC0 : C W2.drew := (hCd _).2 ⟨k7, k8⟩
  have s7 : ∀ s : {x : World // C x}, s.1.cell? ⟨xb, 7, none⟩ = some (.slice va a1.moves.length vc) := fun s => ((hCd s.1).1 s.2).1
  have s8 : ∀ s : {x : World // C x}, s.1.cell? ⟨xb, 8, none⟩ = some (.int .i64 a1.calls) := fun s => ((hCd s.1).1 s.2).2
  haveI : Nonempty {x : World // C x} := ⟨⟨_, hC0⟩⟩
  refine Mix.wp_region_mix C [13, 14, 17] (by kernel_rfl) (by kernel_rfl) hC0 ?_
  have HCD := Lib.hid hCd
  clear hCd
  repeat (refine Mix.mix_still rfl (fun K hK => ?_); go_simp; refine hK _ ?_; clear hK K)
  refine Mix.mix_eff rfl ?_
  go_wp2_with fail
  refine ⟨(HCD.out _).2 ⟨Lib.cell?_alloc_some (W := W2) _ k7, Lib.cell?_alloc_some (W := W2) _ k8⟩, ?_⟩
  refine Mix.mix_eff rfl ?_
  refine wpList_append_own_at _ rfl _ _ 28 rfl B 31 j0 (.agg #[.int .i64 0, .int .i64 0, .int .i64 0, .int .i64 0]) 4 32 Try.underlying28 hj0 jz0 jz1 jz2 rfl (by decide) (.slice va a1.moves.length vc) a1.moves.length (a1.moves.flatMap mcells) rfl (HMR.out.alloc _).drew ⟨W2.heap.size, 0, none⟩ 1 1 [.int .i64 a1.calls, .int .i64 ((n : Int) + 1), .int .i64 frm, .int .i64 (-3)] rfl rfl (new4 W2 _) (by intro u hu; simp at hu; rcases hu with rfl | rfl | rfl | rfl <;> rfl) (by unfold maxLen; omega) (by omega) (by show B ≤ (W2.alloc _).heap.size; simp; omega) ?_
  intro v' w3 hown' hgrow _ hloc
  obtain ⟨vb, vd, rfl⟩ := own_form hown'
  have hg3 : W2.grownBy w3 (Value.slice va a1.moves.length vc).ownBlock := (World.grownBy_alloc W2 (.cells #[.int .i64 a1.calls, .int .i64 ((n : Int) + 1), .int .i64 frm, .int .i64 (-3)] 31) _).trans ⟨hgrow.os, hgrow.tape, hgrow.output, hgrow.size, hgrow.block⟩
  have hx3 : w3.heap[xb]? = some (.cells (rcells h a1) 63 (0, 0)) := (hg3.block xb hxs (fun e => own_ty HMR.out R2.out.blk (by decide) e.symm)).trans R2.out.blk
  have q7 : w3.cell? ⟨xb, 7, none⟩ = some (.slice va a1.moves.length vc) := (cell_of hx3 7).trans (congrArg some HMV.out)
  have q8 : w3.cell? ⟨xb, 8, none⟩ = some (.int .i64 a1.calls) := cell_of hx3 8
  have z7' : w3.frozen? ⟨xb, 7, none⟩ = false := free_of hx3 7
  refine wpList_nil ⟨rfl, .inr ((HCD.out _).2 ⟨q7, q8⟩), ?_⟩
  have LM := Lib.hid (LB.out.trans (mv_append B xb h a1 W2 w3 R2.out ((n : Int) + 1) frm (-3) va vc HMV.out _ hown' hg3 (by simpa using hloc)))
  clear hown' hgrow hloc hg3 hx3 k7 k8
  repeat (refine Mix.mix_still rfl (fun K hK => ?_); go_simp; refine hK _ ?_; clear hK K)
  refine Mix.mix_eff rfl ?_
  go_wp2_with fail
  refine Mix.mix_nil ?_
  generalize hW4 : w3.setCell ⟨xb, 7, none⟩ (.slice vb (a1.moves.length + 1) vd) = W4 at LM ⊢
  clear hW4 q7 q8 z7' s7 s8 hC0 HCD f7
  obtain ⟨h4, hh4⟩ : ∃ h4, h4 = ({ h with mv := .slice vb (a1.moves.length + 1) vd } : RG) := ⟨_, rfl⟩
  obtain ⟨a4, ha4⟩ : ∃ a4, a4 = { a1 with moves := a1.moves ++ [(a1.calls, (n : Int) + 1, frm, (-3))] } := ⟨_, rfl⟩
  have lm := LM.out
  rw [← hh4, ← ha4] at lm
  have L4 := Lib.hid lm
  have H4 := Lib.hid (show a4.q = a.q ∧ a4.tids = a.tids ∧ a4.tk = a.tk by rw [ha4, HA1.out]; exact ⟨rfl, rfl, rfl⟩)
  have HA4 := Lib.hid (show a4 = { a with pk := upd a.pk ((n : Int) + 1) { a.pk ((n : Int) + 1) with at_ := (-3), frm := frm, wth := 0 }, moves := a.moves ++ [(a.calls, (n : Int) + 1, frm, (-3))] } by rw [ha4, HA1.out])
  clear lm LM hh4 ha4 LB R2 HMV HMR HA1
  go_wp2_with fail
  have r4 := L4.out.rep
  have hql4 : (a4.q (-3)).length ≤ 200 := by rw [H4.out.1]; exact hql
  have hkk : W4.cell? ⟨xb, 4, none⟩ = some (h4.qv (-3)) := by rw [cell_of r4.blk]; rfl
  obtain ⟨va, vc, hqv⟩ := own_form (r4.row (-3) (.inr HTO.out))
  rw [hqv] at hkk
  have ho4 := r4.row (-3) (.inr HTO.out)
  rw [hqv] at ho4
  have HO4 := Lib.hid ho4
  have R4 := Lib.hid r4
  have HQV := Lib.hid hqv
  have hxs4 := blt r4.blk
  have fk := r4.kf 4
  clear r4 ho4 hqv
  obtain ⟨C, hCd⟩ : ∃ C : World → Prop, ∀ x, C x ↔ x.cell? ⟨xb, 4, none⟩ = some (.slice va (a4.q (-3)).length vc) := ⟨_, fun _ => Iff.rfl⟩
  have hC0 : C W4.drew := (hCd _).2 hkk
  have s7 : ∀ s : {x : World // C x}, s.1.cell? ⟨xb, 4, none⟩ = some (.slice va (a4.q (-3)).length vc) := fun s => (hCd s.1).1 s.2
  haveI : Nonempty {x : World // C x} := ⟨⟨_, hC0⟩⟩
  have hw1 : IntKind.i64.wrap 3 = 3 := by rw [IntKind.wrap_i64]; omega
  have hw2 : IntKind.i64.wrap 2 = 2 := by rw [IntKind.wrap_i64]; omega
  refine Mix.wp_region_mix C [13, 14, 18] (by kernel_rfl) (by kernel_rfl) hC0 ?_
  have HCD := Lib.hid hCd
  clear hCd
  repeat (refine Mix.mix_still rfl (fun K hK => ?_); go_simp; refine hK _ ?_; clear hK K)
  refine Mix.mix_eff rfl ?_
  go_wp2_with fail
  refine ⟨(HCD.out _).2 (Lib.cell?_alloc_some (W := W4) _ hkk), ?_⟩
  refine Mix.mix_eff rfl ?_
  refine wpList_append_own_at _ rfl _ _ 23 rfl B 3 i0 (.int .i64 0) 1 8 Try.underlying23 hi0 hz0 hz1 hz2 rfl (by decide) (.slice va (a4.q (-3)).length vc) (a4.q (-3)).length _ rfl (HO4.out.alloc _).drew ⟨W4.heap.size, 0, none⟩ 1 1 [.int .i64 ((n : Int) + 1)] rfl rfl (cell_one_new W4 _ _) (by simp [Value.oneCell']) (by unfold maxLen; omega) (by omega) (by show B ≤ (W4.alloc _).heap.size; simp; omega) ?_
  intro v5 w5 hown5 hgrow5 _ hloc5
  obtain ⟨vb5, vd5, rfl⟩ := own_form hown5
  have hg5 : W4.grownBy w5 (Value.slice va (a4.q (-3)).length vc).ownBlock := (World.grownBy_alloc W4 (.cells #[.int .i64 ((n : Int) + 1)] 3) _).trans ⟨hgrow5.os, hgrow5.tape, hgrow5.output, hgrow5.size, hgrow5.block⟩
  have hx5 : w5.heap[xb]? = some (.cells (rcells h4 a4) 63 (0, 0)) := (hg5.block xb hxs4 (fun e => own_ty HO4.out R4.out.blk (by decide) e.symm)).trans R4.out.blk
  have q7 : w5.cell? ⟨xb, 4, none⟩ = some (.slice va (a4.q (-3)).length vc) := (cell_of hx5 4).trans (congrArg some HQV.out)
  have z7' : w5.frozen? ⟨xb, 4, none⟩ = false := free_of hx5 4
  refine wpList_nil ⟨rfl, .inr ((HCD.out _).2 q7), ?_⟩
  have G4 : Good a4 → True := fun _ => trivial
  have L5 := Lib.hid (L4.out.trans (dq_append' R4.out (by rw [H4.out.2.1]; exact HNT.out) (k := 2) (i := (-3)) (p := (n : Int) + 1) HTO.out (by decide) _ hown5 (by rw [HQV.out]; exact hg5) (by rw [HQV.out]; exact hloc5.imp id (fun h => ⟨_, h, by simp⟩))))
  clear hown5 hgrow5 hloc5 hg5 hx5 hkk G4
  repeat (refine Mix.mix_still rfl (fun K hK => ?_); go_simp; refine hK _ ?_; clear hK K)
  refine Mix.mix_eff rfl ?_
  go_wp2_with fail
  refine Mix.mix_nil ?_
  go_wp2_with fail
  go_end0
  have e : ({ a4 with q := upd a4.q (-3) (a4.q (-3) ++ [(n : Int) + 1]) } : A) = moveR a ((n : Int) + 1) frm (-3) := by
    rw [HA4.out]
    simp only [moveR]
    rw [if_neg (fun hh => HNT.out hh.1)]
  have L6 := L5.out
  rw [e] at L6
  exact ⟨rfl, _, L6⟩
set_option maxHeartbeats 4000000 in
set_option maxRecDepth 100000 in
theorem renq_dev3 (B xb : Nat) (h : RG) (a : A) (w : World) (r : RRep B xb h a w) (gd : Good a) (p frm : Int) (hp : p ∈ a.pids) (hm : a.moves.length ≤ 100000) :
    Calls Try.prog 88 #[ptr xb, .int .i64 p, .int .i64 frm, .int .i64 (-4)] w (LeftR B xb h a w (.tuple #[]) (moveR a p frm (-4))) := by
  have hto : (-4 : Int) ∈ devs := by decide
  obtain ⟨i0, hi0, hz0, hz1, hz2⟩ := info_parts info3
  obtain ⟨j0, hj0, jz0, jz1, jz2⟩ := info_parts info31
  have hr := gd.pkr p hp
  have hmade := gd.made
  have hN := made_len gd
  obtain ⟨n, rfl⟩ : ∃ n : Nat, p = (n : Int) + 1 := ⟨(p - 1).toNat, by omega⟩
  obtain ⟨g, pc, hpv, ⟨pcur, hpb⟩, hc⟩ := r.pcells gd (n := n) (by omega)
  have k1 := r.k1
  rw [hpv] at k1
  have hnl : n < (pnums a.made).length := by omega
  have hn200 : n ≤ 200 := by omega
  have q4 : w.cell? ⟨g, n * 7 + 4, none⟩ = some (.int .i64 (rpk a ((n : Int) + 1)).at_) := hc 4 (by omega)
  have q5 : w.cell? ⟨g, n * 7 + 5, none⟩ = some (.int .i64 (rpk a ((n : Int) + 1)).frm) := hc 5 (by omega)
  have q6 : w.cell? ⟨g, n * 7 + 6, none⟩ = some (.int .i64 (rpk a ((n : Int) + 1)).wth) := hc 6 (by omega)
  have f4 : w.frozen? ⟨g, n * 7 + 4, none⟩ = false := free_of hpb _
  have f5 : w.frozen? ⟨g, n * 7 + 5, none⟩ = false := free_of hpb _
  have f6 : w.frozen? ⟨g, n * 7 + 6, none⟩ = false := free_of hpb _
  have LA := Lib.hid (pk_three r frm (-4) hp (by omega) (n := n) (g := g) (by rw [hpv]; rfl))
  have GD := Lib.hid gd
  have HTO := Lib.hid hto
  have hql := gd.qlen (i := (-4)) (.inr hto)
  have hnt : (-4 : Int) ∉ a.tids := fun hh => by have := gd.trng _ hh; omega
  have HNT := Lib.hid hnt
  clear r gd hp hto hc hpv hpb hr hmade hN hnt
  go_enter Try.func88, Try.ntmps88
  go_wp2_with fail
  generalize hW : (((w.setCell ⟨g, n * 7 + 5, none⟩ (.int .i64 frm)).setCell ⟨g, n * 7 + 4, none⟩ (.int .i64 (-4))).setCell ⟨g, n * 7 + 6, none⟩ (.int .i64 0)) = W2 at LA ⊢
  clear hW q4 q5 q6 f4 f5 f6 k1
  obtain ⟨a1, ha1⟩ : ∃ a1, a1 = { a with pk := upd a.pk ((n : Int) + 1) { a.pk ((n : Int) + 1) with at_ := (-4), frm := frm, wth := 0 } } := ⟨_, rfl⟩
  have hcl1 : a1.calls = a.calls := by rw [ha1]
  have hmv1 : a1.moves = a.moves := by rw [ha1]
  have LA1 := LA.out
  rw [← ha1] at LA1
  have LB := Lib.hid LA1
  have HA1 := Lib.hid ha1
  have r2 := LA1.rep
  obtain ⟨va, vc, hmv⟩ := own_form r2.mrow
  have k7 := r2.k7
  have k8 := r2.k8
  rw [hmv] at k7
  have hmr := r2.mrow
  rw [hmv] at hmr
  have HMR := Lib.hid hmr
  have HMV := Lib.hid hmv
  have R2 := Lib.hid r2
  have hlow := r2.low
  have hxs := blt r2.blk
  have hml : a1.moves.length ≤ 100000 := by rw [hmv1]; exact hm
  have f7 := r2.kf 7
  have HCL := Lib.hid hcl1
  have HMV1 := Lib.hid hmv1
  clear LA LA1 ha1 hcl1 hmv1 r2 hmr hmv
  obtain ⟨C, hCd⟩ : ∃ C : World → Prop, ∀ x, C x ↔ (x.cell? ⟨xb, 7, none⟩ = some (.slice va a1.moves.length vc) ∧ x.cell? ⟨xb, 8, none⟩ = some (.int .i64 a1.calls)) := ⟨_, fun _ => Iff.rfl⟩
  have hC0 : C W2.drew := (hCd _).2 ⟨k7, k8⟩
  have s7 : ∀ s : {x : World // C x}, s.1.cell? ⟨xb, 7, none⟩ = some (.slice va a1.moves.length vc) := fun s => ((hCd s.1).1 s.2).1
  have s8 : ∀ s : {x : World // C x}, s.1.cell? ⟨xb, 8, none⟩ = some (.int .i64 a1.calls) := fun s => ((hCd s.1).1 s.2).2
  haveI : Nonempty {x : World // C x} := ⟨⟨_, hC0⟩⟩
  refine Mix.wp_region_mix C [13, 14, 17] (by kernel_rfl) (by kernel_rfl) hC0 ?_
  have HCD := Lib.hid hCd
  clear hCd
  repeat (refine Mix.mix_still rfl (fun K hK => ?_); go_simp; refine hK _ ?_; clear hK K)
  refine Mix.mix_eff rfl ?_
  go_wp2_with fail
  refine ⟨(HCD.out _).2 ⟨Lib.cell?_alloc_some (W := W2) _ k7, Lib.cell?_alloc_some (W := W2) _ k8⟩, ?_⟩
  refine Mix.mix_eff rfl ?_
  refine wpList_append_own_at _ rfl _ _ 28 rfl B 31 j0 (.agg #[.int .i64 0, .int .i64 0, .int .i64 0, .int .i64 0]) 4 32 Try.underlying28 hj0 jz0 jz1 jz2 rfl (by decide) (.slice va a1.moves.length vc) a1.moves.length (a1.moves.flatMap mcells) rfl (HMR.out.alloc _).drew ⟨W2.heap.size, 0, none⟩ 1 1 [.int .i64 a1.calls, .int .i64 ((n : Int) + 1), .int .i64 frm, .int .i64 (-4)] rfl rfl (new4 W2 _) (by intro u hu; simp at hu; rcases hu with rfl | rfl | rfl | rfl <;> rfl) (by unfold maxLen; omega) (by omega) (by show B ≤ (W2.alloc _).heap.size; simp; omega) ?_
  intro v' w3 hown' hgrow _ hloc
  obtain ⟨vb, vd, rfl⟩ := own_form hown'
  have hg3 : W2.grownBy w3 (Value.slice va a1.moves.length vc).ownBlock := (World.grownBy_alloc W2 (.cells #[.int .i64 a1.calls, .int .i64 ((n : Int) + 1), .int .i64 frm, .int .i64 (-4)] 31) _).trans ⟨hgrow.os, hgrow.tape, hgrow.output, hgrow.size, hgrow.block⟩
  have hx3 : w3.heap[xb]? = some (.cells (rcells h a1) 63 (0, 0)) := (hg3.block xb hxs (fun e => own_ty HMR.out R2.out.blk (by decide) e.symm)).trans R2.out.blk
  have q7 : w3.cell? ⟨xb, 7, none⟩ = some (.slice va a1.moves.length vc) := (cell_of hx3 7).trans (congrArg some HMV.out)
  have q8 : w3.cell? ⟨xb, 8, none⟩ = some (.int .i64 a1.calls) := cell_of hx3 8
  have z7' : w3.frozen? ⟨xb, 7, none⟩ = false := free_of hx3 7
  refine wpList_nil ⟨rfl, .inr ((HCD.out _).2 ⟨q7, q8⟩), ?_⟩
  have LM := Lib.hid (LB.out.trans (mv_append B xb h a1 W2 w3 R2.out ((n : Int) + 1) frm (-4) va vc HMV.out _ hown' hg3 (by simpa using hloc)))
  clear hown' hgrow hloc hg3 hx3 k7 k8
  repeat (refine Mix.mix_still rfl (fun K hK => ?_); go_simp; refine hK _ ?_; clear hK K)
  refine Mix.mix_eff rfl ?_
  go_wp2_with fail
  refine Mix.mix_nil ?_
  generalize hW4 : w3.setCell ⟨xb, 7, none⟩ (.slice vb (a1.moves.length + 1) vd) = W4 at LM ⊢
  clear hW4 q7 q8 z7' s7 s8 hC0 HCD f7
  obtain ⟨h4, hh4⟩ : ∃ h4, h4 = ({ h with mv := .slice vb (a1.moves.length + 1) vd } : RG) := ⟨_, rfl⟩
  obtain ⟨a4, ha4⟩ : ∃ a4, a4 = { a1 with moves := a1.moves ++ [(a1.calls, (n : Int) + 1, frm, (-4))] } := ⟨_, rfl⟩
  have lm := LM.out
  rw [← hh4, ← ha4] at lm
  have L4 := Lib.hid lm
  have H4 := Lib.hid (show a4.q = a.q ∧ a4.tids = a.tids ∧ a4.tk = a.tk by rw [ha4, HA1.out]; exact ⟨rfl, rfl, rfl⟩)
  have HA4 := Lib.hid (show a4 = { a with pk := upd a.pk ((n : Int) + 1) { a.pk ((n : Int) + 1) with at_ := (-4), frm := frm, wth := 0 }, moves := a.moves ++ [(a.calls, (n : Int) + 1, frm, (-4))] } by rw [ha4, HA1.out])
  clear lm LM hh4 ha4 LB R2 HMV HMR HA1
  go_wp2_with fail
  have r4 := L4.out.rep
  have hql4 : (a4.q (-4)).length ≤ 200 := by rw [H4.out.1]; exact hql
  have hkk : W4.cell? ⟨xb, 5, none⟩ = some (h4.qv (-4)) := by rw [cell_of r4.blk]; rfl
  obtain ⟨va, vc, hqv⟩ := own_form (r4.row (-4) (.inr HTO.out))
  rw [hqv] at hkk
  have ho4 := r4.row (-4) (.inr HTO.out)
  rw [hqv] at ho4
  have HO4 := Lib.hid ho4
  have R4 := Lib.hid r4
  have HQV := Lib.hid hqv
  have hxs4 := blt r4.blk
  have fk := r4.kf 5
  clear r4 ho4 hqv
  obtain ⟨C, hCd⟩ : ∃ C : World → Prop, ∀ x, C x ↔ x.cell? ⟨xb, 5, none⟩ = some (.slice va (a4.q (-4)).length vc) := ⟨_, fun _ => Iff.rfl⟩
  have hC0 : C W4.drew := (hCd _).2 hkk
  have s7 : ∀ s : {x : World // C x}, s.1.cell? ⟨xb, 5, none⟩ = some (.slice va (a4.q (-4)).length vc) := fun s => (hCd s.1).1 s.2
  haveI : Nonempty {x : World // C x} := ⟨⟨_, hC0⟩⟩
  have hw1 : IntKind.i64.wrap 4 = 4 := by rw [IntKind.wrap_i64]; omega
  have hw2 : IntKind.i64.wrap 3 = 3 := by rw [IntKind.wrap_i64]; omega
  refine Mix.wp_region_mix C [13, 14, 18] (by kernel_rfl) (by kernel_rfl) hC0 ?_
  have HCD := Lib.hid hCd
  clear hCd
  repeat (refine Mix.mix_still rfl (fun K hK => ?_); go_simp; refine hK _ ?_; clear hK K)
  refine Mix.mix_eff rfl ?_
  go_wp2_with fail
  refine ⟨(HCD.out _).2 (Lib.cell?_alloc_some (W := W4) _ hkk), ?_⟩
  refine Mix.mix_eff rfl ?_
  refine wpList_append_own_at _ rfl _ _ 23 rfl B 3 i0 (.int .i64 0) 1 8 Try.underlying23 hi0 hz0 hz1 hz2 rfl (by decide) (.slice va (a4.q (-4)).length vc) (a4.q (-4)).length _ rfl (HO4.out.alloc _).drew ⟨W4.heap.size, 0, none⟩ 1 1 [.int .i64 ((n : Int) + 1)] rfl rfl (cell_one_new W4 _ _) (by simp [Value.oneCell']) (by unfold maxLen; omega) (by omega) (by show B ≤ (W4.alloc _).heap.size; simp; omega) ?_
  intro v5 w5 hown5 hgrow5 _ hloc5
  obtain ⟨vb5, vd5, rfl⟩ := own_form hown5
  have hg5 : W4.grownBy w5 (Value.slice va (a4.q (-4)).length vc).ownBlock := (World.grownBy_alloc W4 (.cells #[.int .i64 ((n : Int) + 1)] 3) _).trans ⟨hgrow5.os, hgrow5.tape, hgrow5.output, hgrow5.size, hgrow5.block⟩
  have hx5 : w5.heap[xb]? = some (.cells (rcells h4 a4) 63 (0, 0)) := (hg5.block xb hxs4 (fun e => own_ty HO4.out R4.out.blk (by decide) e.symm)).trans R4.out.blk
  have q7 : w5.cell? ⟨xb, 5, none⟩ = some (.slice va (a4.q (-4)).length vc) := (cell_of hx5 5).trans (congrArg some HQV.out)
  have z7' : w5.frozen? ⟨xb, 5, none⟩ = false := free_of hx5 5
  refine wpList_nil ⟨rfl, .inr ((HCD.out _).2 q7), ?_⟩
  have G4 : Good a4 → True := fun _ => trivial
  have L5 := Lib.hid (L4.out.trans (dq_append' R4.out (by rw [H4.out.2.1]; exact HNT.out) (k := 3) (i := (-4)) (p := (n : Int) + 1) HTO.out (by decide) _ hown5 (by rw [HQV.out]; exact hg5) (by rw [HQV.out]; exact hloc5.imp id (fun h => ⟨_, h, by simp⟩))))
  clear hown5 hgrow5 hloc5 hg5 hx5 hkk G4
  repeat (refine Mix.mix_still rfl (fun K hK => ?_); go_simp; refine hK _ ?_; clear hK K)
  refine Mix.mix_eff rfl ?_
  go_wp2_with fail
  refine Mix.mix_nil ?_
  go_wp2_with fail
  go_end0
  have e : ({ a4 with q := upd a4.q (-4) (a4.q (-4) ++ [(n : Int) + 1]) } : A) = moveR a ((n : Int) + 1) frm (-4) := by
    rw [HA4.out]
    simp only [moveR]
    rw [if_neg (fun hh => HNT.out hh.1)]
  have L6 := L5.out
  rw [e] at L6
  exact ⟨rfl, _, L6⟩
set_option maxHeartbeats 4000000 in
set_option maxRecDepth 100000 in
theorem renq_dev4 (B xb : Nat) (h : RG) (a : A) (w : World) (r : RRep B xb h a w) (gd : Good a) (p frm : Int) (hp : p ∈ a.pids) (hm : a.moves.length ≤ 100000) :
    Calls Try.prog 88 #[ptr xb, .int .i64 p, .int .i64 frm, .int .i64 (-5)] w (LeftR B xb h a w (.tuple #[]) (moveR a p frm (-5))) := by
  have hto : (-5 : Int) ∈ devs := by decide
  obtain ⟨i0, hi0, hz0, hz1, hz2⟩ := info_parts info3
  obtain ⟨j0, hj0, jz0, jz1, jz2⟩ := info_parts info31
  have hr := gd.pkr p hp
  have hmade := gd.made
  have hN := made_len gd
  obtain ⟨n, rfl⟩ : ∃ n : Nat, p = (n : Int) + 1 := ⟨(p - 1).toNat, by omega⟩
  obtain ⟨g, pc, hpv, ⟨pcur, hpb⟩, hc⟩ := r.pcells gd (n := n) (by omega)
  have k1 := r.k1
  rw [hpv] at k1
  have hnl : n < (pnums a.made).length := by omega
  have hn200 : n ≤ 200 := by omega
  have q4 : w.cell? ⟨g, n * 7 + 4, none⟩ = some (.int .i64 (rpk a ((n : Int) + 1)).at_) := hc 4 (by omega)
  have q5 : w.cell? ⟨g, n * 7 + 5, none⟩ = some (.int .i64 (rpk a ((n : Int) + 1)).frm) := hc 5 (by omega)
  have q6 : w.cell? ⟨g, n * 7 + 6, none⟩ = some (.int .i64 (rpk a ((n : Int) + 1)).wth) := hc 6 (by omega)
  have f4 : w.frozen? ⟨g, n * 7 + 4, none⟩ = false := free_of hpb _
  have f5 : w.frozen? ⟨g, n * 7 + 5, none⟩ = false := free_of hpb _
  have f6 : w.frozen? ⟨g, n * 7 + 6, none⟩ = false := free_of hpb _
  have LA := Lib.hid (pk_three r frm (-5) hp (by omega) (n := n) (g := g) (by rw [hpv]; rfl))
  have GD := Lib.hid gd
  have HTO := Lib.hid hto
  have hql := gd.qlen (i := (-5)) (.inr hto)
  have hnt : (-5 : Int) ∉ a.tids := fun hh => by have := gd.trng _ hh; omega
  have HNT := Lib.hid hnt
  clear r gd hp hto hc hpv hpb hr hmade hN hnt
  go_enter Try.func88, Try.ntmps88
  go_wp2_with fail
  generalize hW : (((w.setCell ⟨g, n * 7 + 5, none⟩ (.int .i64 frm)).setCell ⟨g, n * 7 + 4, none⟩ (.int .i64 (-5))).setCell ⟨g, n * 7 + 6, none⟩ (.int .i64 0)) = W2 at LA ⊢
  clear hW q4 q5 q6 f4 f5 f6 k1
  obtain ⟨a1, ha1⟩ : ∃ a1, a1 = { a with pk := upd a.pk ((n : Int) + 1) { a.pk ((n : Int) + 1) with at_ := (-5), frm := frm, wth := 0 } } := ⟨_, rfl⟩
  have hcl1 : a1.calls = a.calls := by rw [ha1]
  have hmv1 : a1.moves = a.moves := by rw [ha1]
  have LA1 := LA.out
  rw [← ha1] at LA1
  have LB := Lib.hid LA1
  have HA1 := Lib.hid ha1
  have r2 := LA1.rep
  obtain ⟨va, vc, hmv⟩ := own_form r2.mrow
  have k7 := r2.k7
  have k8 := r2.k8
  rw [hmv] at k7
  have hmr := r2.mrow
  rw [hmv] at hmr
  have HMR := Lib.hid hmr
  have HMV := Lib.hid hmv
  have R2 := Lib.hid r2
  have hlow := r2.low
  have hxs := blt r2.blk
  have hml : a1.moves.length ≤ 100000 := by rw [hmv1]; exact hm
  have f7 := r2.kf 7
  have HCL := Lib.hid hcl1
  have HMV1 := Lib.hid hmv1
  clear LA LA1 ha1 hcl1 hmv1 r2 hmr hmv
  obtain ⟨C, hCd⟩ : ∃ C : World → Prop, ∀ x, C x ↔ (x.cell? ⟨xb, 7, none⟩ = some (.slice va a1.moves.length vc) ∧ x.cell? ⟨xb, 8, none⟩ = some (.int .i64 a1.calls)) := ⟨_, fun _ => Iff.rfl⟩
  have hC0 : C W2.drew := (hCd _).2 ⟨k7, k8⟩
  have s7 : ∀ s : {x : World // C x}, s.1.cell? ⟨xb, 7, none⟩ = some (.slice va a1.moves.length vc) := fun s => ((hCd s.1).1 s.2).1
  have s8 : ∀ s : {x : World // C x}, s.1.cell? ⟨xb, 8, none⟩ = some (.int .i64 a1.calls) := fun s => ((hCd s.1).1 s.2).2
  haveI : Nonempty {x : World // C x} := ⟨⟨_, hC0⟩⟩
  refine Mix.wp_region_mix C [13, 14, 17] (by kernel_rfl) (by kernel_rfl) hC0 ?_
  have HCD := Lib.hid hCd
  clear hCd
  repeat (refine Mix.mix_still rfl (fun K hK => ?_); go_simp; refine hK _ ?_; clear hK K)
  refine Mix.mix_eff rfl ?_
  go_wp2_with fail
  refine ⟨(HCD.out _).2 ⟨Lib.cell?_alloc_some (W := W2) _ k7, Lib.cell?_alloc_some (W := W2) _ k8⟩, ?_⟩
  refine Mix.mix_eff rfl ?_
  refine wpList_append_own_at _ rfl _ _ 28 rfl B 31 j0 (.agg #[.int .i64 0, .int .i64 0, .int .i64 0, .int .i64 0]) 4 32 Try.underlying28 hj0 jz0 jz1 jz2 rfl (by decide) (.slice va a1.moves.length vc) a1.moves.length (a1.moves.flatMap mcells) rfl (HMR.out.alloc _).drew ⟨W2.heap.size, 0, none⟩ 1 1 [.int .i64 a1.calls, .int .i64 ((n : Int) + 1), .int .i64 frm, .int .i64 (-5)] rfl rfl (new4 W2 _) (by intro u hu; simp at hu; rcases hu with rfl | rfl | rfl | rfl <;> rfl) (by unfold maxLen; omega) (by omega) (by show B ≤ (W2.alloc _).heap.size; simp; omega) ?_
  intro v' w3 hown' hgrow _ hloc
  obtain ⟨vb, vd, rfl⟩ := own_form hown'
  have hg3 : W2.grownBy w3 (Value.slice va a1.moves.length vc).ownBlock := (World.grownBy_alloc W2 (.cells #[.int .i64 a1.calls, .int .i64 ((n : Int) + 1), .int .i64 frm, .int .i64 (-5)] 31) _).trans ⟨hgrow.os, hgrow.tape, hgrow.output, hgrow.size, hgrow.block⟩
  have hx3 : w3.heap[xb]? = some (.cells (rcells h a1) 63 (0, 0)) := (hg3.block xb hxs (fun e => own_ty HMR.out R2.out.blk (by decide) e.symm)).trans R2.out.blk
  have q7 : w3.cell? ⟨xb, 7, none⟩ = some (.slice va a1.moves.length vc) := (cell_of hx3 7).trans (congrArg some HMV.out)
  have q8 : w3.cell? ⟨xb, 8, none⟩ = some (.int .i64 a1.calls) := cell_of hx3 8
  have z7' : w3.frozen? ⟨xb, 7, none⟩ = false := free_of hx3 7
  refine wpList_nil ⟨rfl, .inr ((HCD.out _).2 ⟨q7, q8⟩), ?_⟩
  have LM := Lib.hid (LB.out.trans (mv_append B xb h a1 W2 w3 R2.out ((n : Int) + 1) frm (-5) va vc HMV.out _ hown' hg3 (by simpa using hloc)))
  clear hown' hgrow hloc hg3 hx3 k7 k8
  repeat (refine Mix.mix_still rfl (fun K hK => ?_); go_simp; refine hK _ ?_; clear hK K)
  refine Mix.mix_eff rfl ?_
  go_wp2_with fail
  refine Mix.mix_nil ?_
  generalize hW4 : w3.setCell ⟨xb, 7, none⟩ (.slice vb (a1.moves.length + 1) vd) = W4 at LM ⊢
  clear hW4 q7 q8 z7' s7 s8 hC0 HCD f7
  obtain ⟨h4, hh4⟩ : ∃ h4, h4 = ({ h with mv := .slice vb (a1.moves.length + 1) vd } : RG) := ⟨_, rfl⟩
  obtain ⟨a4, ha4⟩ : ∃ a4, a4 = { a1 with moves := a1.moves ++ [(a1.calls, (n : Int) + 1, frm, (-5))] } := ⟨_, rfl⟩
  have lm := LM.out
  rw [← hh4, ← ha4] at lm
  have L4 := Lib.hid lm
  have H4 := Lib.hid (show a4.q = a.q ∧ a4.tids = a.tids ∧ a4.tk = a.tk by rw [ha4, HA1.out]; exact ⟨rfl, rfl, rfl⟩)
  have HA4 := Lib.hid (show a4 = { a with pk := upd a.pk ((n : Int) + 1) { a.pk ((n : Int) + 1) with at_ := (-5), frm := frm, wth := 0 }, moves := a.moves ++ [(a.calls, (n : Int) + 1, frm, (-5))] } by rw [ha4, HA1.out])
  clear lm LM hh4 ha4 LB R2 HMV HMR HA1
  go_wp2_with fail
  have r4 := L4.out.rep
  have hql4 : (a4.q (-5)).length ≤ 200 := by rw [H4.out.1]; exact hql
  have hkk : W4.cell? ⟨xb, 6, none⟩ = some (h4.qv (-5)) := by rw [cell_of r4.blk]; rfl
  obtain ⟨va, vc, hqv⟩ := own_form (r4.row (-5) (.inr HTO.out))
  rw [hqv] at hkk
  have ho4 := r4.row (-5) (.inr HTO.out)
  rw [hqv] at ho4
  have HO4 := Lib.hid ho4
  have R4 := Lib.hid r4
  have HQV := Lib.hid hqv
  have hxs4 := blt r4.blk
  have fk := r4.kf 6
  clear r4 ho4 hqv
  obtain ⟨C, hCd⟩ : ∃ C : World → Prop, ∀ x, C x ↔ x.cell? ⟨xb, 6, none⟩ = some (.slice va (a4.q (-5)).length vc) := ⟨_, fun _ => Iff.rfl⟩
  have hC0 : C W4.drew := (hCd _).2 hkk
  have s7 : ∀ s : {x : World // C x}, s.1.cell? ⟨xb, 6, none⟩ = some (.slice va (a4.q (-5)).length vc) := fun s => (hCd s.1).1 s.2
  haveI : Nonempty {x : World // C x} := ⟨⟨_, hC0⟩⟩
  have hw1 : IntKind.i64.wrap 5 = 5 := by rw [IntKind.wrap_i64]; omega
  have hw2 : IntKind.i64.wrap 4 = 4 := by rw [IntKind.wrap_i64]; omega
  refine Mix.wp_region_mix C [13, 14, 18] (by kernel_rfl) (by kernel_rfl) hC0 ?_
  have HCD := Lib.hid hCd
  clear hCd
  repeat (refine Mix.mix_still rfl (fun K hK => ?_); go_simp; refine hK _ ?_; clear hK K)
  refine Mix.mix_eff rfl ?_
  go_wp2_with fail
  refine ⟨(HCD.out _).2 (Lib.cell?_alloc_some (W := W4) _ hkk), ?_⟩
  refine Mix.mix_eff rfl ?_
  refine wpList_append_own_at _ rfl _ _ 23 rfl B 3 i0 (.int .i64 0) 1 8 Try.underlying23 hi0 hz0 hz1 hz2 rfl (by decide) (.slice va (a4.q (-5)).length vc) (a4.q (-5)).length _ rfl (HO4.out.alloc _).drew ⟨W4.heap.size, 0, none⟩ 1 1 [.int .i64 ((n : Int) + 1)] rfl rfl (cell_one_new W4 _ _) (by simp [Value.oneCell']) (by unfold maxLen; omega) (by omega) (by show B ≤ (W4.alloc _).heap.size; simp; omega) ?_
  intro v5 w5 hown5 hgrow5 _ hloc5
  obtain ⟨vb5, vd5, rfl⟩ := own_form hown5
  have hg5 : W4.grownBy w5 (Value.slice va (a4.q (-5)).length vc).ownBlock := (World.grownBy_alloc W4 (.cells #[.int .i64 ((n : Int) + 1)] 3) _).trans ⟨hgrow5.os, hgrow5.tape, hgrow5.output, hgrow5.size, hgrow5.block⟩
  have hx5 : w5.heap[xb]? = some (.cells (rcells h4 a4) 63 (0, 0)) := (hg5.block xb hxs4 (fun e => own_ty HO4.out R4.out.blk (by decide) e.symm)).trans R4.out.blk
  have q7 : w5.cell? ⟨xb, 6, none⟩ = some (.slice va (a4.q (-5)).length vc) := (cell_of hx5 6).trans (congrArg some HQV.out)
  have z7' : w5.frozen? ⟨xb, 6, none⟩ = false := free_of hx5 6
  refine wpList_nil ⟨rfl, .inr ((HCD.out _).2 q7), ?_⟩
  have G4 : Good a4 → True := fun _ => trivial
  have L5 := Lib.hid (L4.out.trans (dq_append' R4.out (by rw [H4.out.2.1]; exact HNT.out) (k := 4) (i := (-5)) (p := (n : Int) + 1) HTO.out (by decide) _ hown5 (by rw [HQV.out]; exact hg5) (by rw [HQV.out]; exact hloc5.imp id (fun h => ⟨_, h, by simp⟩))))
  clear hown5 hgrow5 hloc5 hg5 hx5 hkk G4
  repeat (refine Mix.mix_still rfl (fun K hK => ?_); go_simp; refine hK _ ?_; clear hK K)
  refine Mix.mix_eff rfl ?_
  go_wp2_with fail
  refine Mix.mix_nil ?_
  go_wp2_with fail
  go_end0
  have e : ({ a4 with q := upd a4.q (-5) (a4.q (-5) ++ [(n : Int) + 1]) } : A) = moveR a ((n : Int) + 1) frm (-5) := by
    rw [HA4.out]
    simp only [moveR]
    rw [if_neg (fun hh => HNT.out hh.1)]
  have L6 := L5.out
  rw [e] at L6
  exact ⟨rfl, _, L6⟩
set_option maxHeartbeats 4000000 in
set_option maxRecDepth 100000 in
theorem renq_task (B xb : Nat) (h : RG) (a : A) (w : World) (r : RRep B xb h a w) (gd : Good a) (p frm to : Int) (hp : p ∈ a.pids) (hto : to ∈ a.tids) (hm : a.moves.length ≤ 100000) :
    Calls Try.prog 88 #[ptr xb, .int .i64 p, .int .i64 frm, .int .i64 to] w (LeftR B xb h a w (.tuple #[]) (moveR a p frm to)) := by
  obtain ⟨i0, hi0, hz0, hz1, hz2⟩ := info_parts info3
  obtain ⟨j0, hj0, jz0, jz1, jz2⟩ := info_parts info31
  have hr := gd.pkr p hp
  have hmade := gd.made
  have hN := made_len gd
  obtain ⟨n, rfl⟩ : ∃ n : Nat, p = (n : Int) + 1 := ⟨(p - 1).toNat, by omega⟩
  obtain ⟨g, pc, hpv, ⟨pcur, hpb⟩, hc⟩ := r.pcells gd (n := n) (by omega)
  have k1 := r.k1
  rw [hpv] at k1
  have hnl : n < (pnums a.made).length := by omega
  have hn200 : n ≤ 200 := by omega
  have q4 : w.cell? ⟨g, n * 7 + 4, none⟩ = some (.int .i64 (rpk a ((n : Int) + 1)).at_) := hc 4 (by omega)
  have q5 : w.cell? ⟨g, n * 7 + 5, none⟩ = some (.int .i64 (rpk a ((n : Int) + 1)).frm) := hc 5 (by omega)
  have q6 : w.cell? ⟨g, n * 7 + 6, none⟩ = some (.int .i64 (rpk a ((n : Int) + 1)).wth) := hc 6 (by omega)
  have f4 : w.frozen? ⟨g, n * 7 + 4, none⟩ = false := free_of hpb _
  have f5 : w.frozen? ⟨g, n * 7 + 5, none⟩ = false := free_of hpb _
  have f6 : w.frozen? ⟨g, n * 7 + 6, none⟩ = false := free_of hpb _
  have LA := Lib.hid (pk_three r frm to hp (by omega) (n := n) (g := g) (by rw [hpv]; rfl))
  have GD := Lib.hid gd
  have HTO := Lib.hid hto
  have ht1 := gd.trng to hto
  have dto : decide (to < 0) = false := by simp; omega
  have hql := gd.qlen (i := to) (.inl hto)
  have hnd := gd.tnd
  have HND := Lib.hid hnd
  have hlt := nodup_bound 20 a.tids gd.tnd (fun x hx => gd.trng x hx)
  clear r gd hp hto hc hpv hpb hr hmade hN hnd
  go_enter Try.func88, Try.ntmps88
  go_wp2_with fail
  generalize hW : (((w.setCell ⟨g, n * 7 + 5, none⟩ (.int .i64 frm)).setCell ⟨g, n * 7 + 4, none⟩ (.int .i64 to)).setCell ⟨g, n * 7 + 6, none⟩ (.int .i64 0)) = W2 at LA ⊢
  clear hW q4 q5 q6 f4 f5 f6 k1
  obtain ⟨a1, ha1⟩ : ∃ a1, a1 = { a with pk := upd a.pk ((n : Int) + 1) { a.pk ((n : Int) + 1) with at_ := to, frm := frm, wth := 0 } } := ⟨_, rfl⟩
  have hcl1 : a1.calls = a.calls := by rw [ha1]
  have hmv1 : a1.moves = a.moves := by rw [ha1]
  have LA1 := LA.out
  rw [← ha1] at LA1
  have LB := Lib.hid LA1
  have HA1 := Lib.hid ha1
  have r2 := LA1.rep
  obtain ⟨va, vc, hmv⟩ := own_form r2.mrow
  have k7 := r2.k7
  have k8 := r2.k8
  rw [hmv] at k7
  have hmr := r2.mrow
  rw [hmv] at hmr
  have HMR := Lib.hid hmr
  have HMV := Lib.hid hmv
  have R2 := Lib.hid r2
  have hlow := r2.low
  have hxs := blt r2.blk
  have hml : a1.moves.length ≤ 100000 := by rw [hmv1]; exact hm
  have f7 := r2.kf 7
  have HCL := Lib.hid hcl1
  have HMV1 := Lib.hid hmv1
  clear LA LA1 ha1 hcl1 hmv1 r2 hmr hmv
  obtain ⟨C, hCd⟩ : ∃ C : World → Prop, ∀ x, C x ↔ (x.cell? ⟨xb, 7, none⟩ = some (.slice va a1.moves.length vc) ∧ x.cell? ⟨xb, 8, none⟩ = some (.int .i64 a1.calls)) := ⟨_, fun _ => Iff.rfl⟩
  have hC0 : C W2.drew := (hCd _).2 ⟨k7, k8⟩
  have s7 : ∀ s : {x : World // C x}, s.1.cell? ⟨xb, 7, none⟩ = some (.slice va a1.moves.length vc) := fun s => ((hCd s.1).1 s.2).1
  have s8 : ∀ s : {x : World // C x}, s.1.cell? ⟨xb, 8, none⟩ = some (.int .i64 a1.calls) := fun s => ((hCd s.1).1 s.2).2
  haveI : Nonempty {x : World // C x} := ⟨⟨_, hC0⟩⟩
  refine Mix.wp_region_mix C [13, 14, 17] (by kernel_rfl) (by kernel_rfl) hC0 ?_
  have HCD := Lib.hid hCd
  clear hCd
  repeat (refine Mix.mix_still rfl (fun K hK => ?_); go_simp; refine hK _ ?_; clear hK K)
  refine Mix.mix_eff rfl ?_
  go_wp2_with fail
  refine ⟨(HCD.out _).2 ⟨Lib.cell?_alloc_some (W := W2) _ k7, Lib.cell?_alloc_some (W := W2) _ k8⟩, ?_⟩
  refine Mix.mix_eff rfl ?_
  refine wpList_append_own_at _ rfl _ _ 28 rfl B 31 j0 (.agg #[.int .i64 0, .int .i64 0, .int .i64 0, .int .i64 0]) 4 32 Try.underlying28 hj0 jz0 jz1 jz2 rfl (by decide) (.slice va a1.moves.length vc) a1.moves.length (a1.moves.flatMap mcells) rfl (HMR.out.alloc _).drew ⟨W2.heap.size, 0, none⟩ 1 1 [.int .i64 a1.calls, .int .i64 ((n : Int) + 1), .int .i64 frm, .int .i64 to] rfl rfl (new4 W2 _) (by intro u hu; simp at hu; rcases hu with rfl | rfl | rfl | rfl <;> rfl) (by unfold maxLen; omega) (by omega) (by show B ≤ (W2.alloc _).heap.size; simp; omega) ?_
  intro v' w3 hown' hgrow _ hloc
  obtain ⟨vb, vd, rfl⟩ := own_form hown'
  have hg3 : W2.grownBy w3 (Value.slice va a1.moves.length vc).ownBlock := (World.grownBy_alloc W2 (.cells #[.int .i64 a1.calls, .int .i64 ((n : Int) + 1), .int .i64 frm, .int .i64 to] 31) _).trans ⟨hgrow.os, hgrow.tape, hgrow.output, hgrow.size, hgrow.block⟩
  have hx3 : w3.heap[xb]? = some (.cells (rcells h a1) 63 (0, 0)) := (hg3.block xb hxs (fun e => own_ty HMR.out R2.out.blk (by decide) e.symm)).trans R2.out.blk
  have q7 : w3.cell? ⟨xb, 7, none⟩ = some (.slice va a1.moves.length vc) := (cell_of hx3 7).trans (congrArg some HMV.out)
  have q8 : w3.cell? ⟨xb, 8, none⟩ = some (.int .i64 a1.calls) := cell_of hx3 8
  have z7' : w3.frozen? ⟨xb, 7, none⟩ = false := free_of hx3 7
  refine wpList_nil ⟨rfl, .inr ((HCD.out _).2 ⟨q7, q8⟩), ?_⟩
  have LM := Lib.hid (LB.out.trans (mv_append B xb h a1 W2 w3 R2.out ((n : Int) + 1) frm to va vc HMV.out _ hown' hg3 (by simpa using hloc)))
  clear hown' hgrow hloc hg3 hx3 k7 k8
  repeat (refine Mix.mix_still rfl (fun K hK => ?_); go_simp; refine hK _ ?_; clear hK K)
  refine Mix.mix_eff rfl ?_
  go_wp2_with fail
  refine Mix.mix_nil ?_
  generalize hW4 : w3.setCell ⟨xb, 7, none⟩ (.slice vb (a1.moves.length + 1) vd) = W4 at LM ⊢
  clear hW4 q7 q8 z7' s7 s8 hC0 HCD f7
  obtain ⟨h4, hh4⟩ : ∃ h4, h4 = ({ h with mv := .slice vb (a1.moves.length + 1) vd } : RG) := ⟨_, rfl⟩
  obtain ⟨a4, ha4⟩ : ∃ a4, a4 = { a1 with moves := a1.moves ++ [(a1.calls, (n : Int) + 1, frm, to)] } := ⟨_, rfl⟩
  have lm := LM.out
  rw [← hh4, ← ha4] at lm
  have L4 := Lib.hid lm
  have H4 := Lib.hid (show a4.q = a.q ∧ a4.tids = a.tids ∧ a4.tk = a.tk by rw [ha4, HA1.out]; exact ⟨rfl, rfl, rfl⟩)
  have HA4 := Lib.hid (show a4 = { a with pk := upd a.pk ((n : Int) + 1) { a.pk ((n : Int) + 1) with at_ := to, frm := frm, wth := 0 }, moves := a.moves ++ [(a.calls, (n : Int) + 1, frm, to)] } by rw [ha4, HA1.out])
  clear lm LM hh4 ha4 LB R2 HMV HMR HA1
  go_wp2_with fail
  have r4 := L4.out.rep
  have hto4 : to ∈ a4.tids := by rw [H4.out.2.1]; exact HTO.out
  have hql4 : (a4.q to).length ≤ 200 := by rw [H4.out.1]; exact hql
  have hlt4 : a4.tids.length ≤ 20 := by rw [H4.out.2.1]; exact hlt
  have C62 := rfind B xb h4 a4
  obtain ⟨m, hm1, hm2, hm3⟩ := posF_in hto4
  have D62 := Lib.hid (show ∀ w', RRep B xb h4 a4 w' → Calls Try.prog 62 #[ptr xb, .int .i64 to] w' fun e w'' => e = .returned (.int .i64 m) ∧ w' = w'' from fun w' hr => by
    have := C62 w' hr (by rw [H4.out.2.1]; exact HND.out) (by omega) to
    rw [hm1] at this
    exact this)
  obtain ⟨gt, ct, hv, ⟨tcur, htb⟩, hct⟩ := row_cells (f := rtc a4 h4.qv) (sz := 7) (fun _ => rfl) r4.trow hm2
  have k0 := r4.k0
  rw [hv] at k0
  have t3 : W4.cell? ⟨gt, m * 7 + 3, none⟩ = some (.bool (a4.tk to).waiting) := hct 3 (by omega)
  have t4 : W4.cell? ⟨gt, m * 7 + 4, none⟩ = some (.int .i64 (a4.tk to).forr) := hct 4 (by omega)
  have t6 : W4.cell? ⟨gt, m * 7 + 6, none⟩ = some (h4.qv to) := hct 6 (by omega)
  obtain ⟨va, vc, hqv⟩ := own_form (r4.row to (.inl hto4))
  rw [hqv] at t6
  have ho4 := r4.row to (.inl hto4)
  rw [hqv] at ho4
  have HO4 := Lib.hid ho4
  have R4 := Lib.hid r4
  have HQV := Lib.hid hqv
  have HTB := Lib.hid htb
  have hgt := blt htb
  have hm20 : m ≤ 20 := by omega
  have sz4 : B ≤ W4.heap.size := Nat.le_trans r4.low (Nat.le_of_lt (blt r4.blk))
  have HM2 := Lib.hid hm2
  have HTV := Lib.hid hv
  have HTO4 := Lib.hid hto4
  clear r4 ho4 hqv htb hct hv hm1 hm2 hto4 C62
  go_quiet (((refine (D62.out _ ?_).mono ?_); (exact R4.out.keep (fun _ _ => rfl)); (intro e w' h; exact ⟨h.1, _, h.2.symm⟩)))
  cases hwt : (a4.tk to).waiting with
  | false =>
    rw [hwt] at t3
    have HW := Lib.hid hwt
    clear hwt
    go_wp2_with (first | (at_builtin; refine wpList_append_own_at _ rfl _ _ 23 rfl B 3 i0 (.int .i64 0) 1 8 Try.underlying23 hi0 hz0 hz1 hz2 rfl (by decide) (.slice va (a4.q to).length vc) (a4.q to).length _ rfl ((own_keep HO4.out (fun _ _ _ => rfl) : (W4.drewN nq).ownsRow B 3 1 (.slice va (a4.q to).length vc) (a4.q to).length _).alloc _) ⟨W4.heap.size, 0, none⟩ 1 1 [.int .i64 ((n : Int) + 1)] rfl rfl (cell_one_new (W4.drewN nq) _ _) (by simp [Value.oneCell']) (by unfold maxLen; omega) (by omega) (by simp; omega) ?_; intro v5 w5 hown5 hg5 _ hloc5; (obtain ⟨vb5, vd5, rfl⟩ := own_form hown5); have HOWN5 := Lib.hid hown5; have HG5 := Lib.hid ((World.grownBy_alloc (W4.drewN nq) _ _).trans hg5); (have hl5 : (Value.slice vb5 ((a4.q to).length + 1) vd5).ownBlock = (Value.slice va (a4.q to).length vc).ownBlock ∨ (Value.slice vb5 ((a4.q to).length + 1) vd5).ownBlock = some (W4.heap.size + 1) := by simpa using hloc5); have HL5 := Lib.hid hl5; have X5 := Lib.hid ((HG5.out.block gt hgt (fun e => own_ty HO4.out HTB.out (by decide) e.symm)).trans HTB.out); have y3 : w5.cell? ⟨gt, m * 7 + 3, none⟩ = some (.bool false) := (cell_fr X5.out _).trans ((cell_fr HTB.out _).symm.trans t3); have y4 : w5.cell? ⟨gt, m * 7 + 4, none⟩ = some (.int .i64 (a4.tk to).forr) := (cell_fr X5.out _).trans ((cell_fr HTB.out _).symm.trans t4); have y6 : w5.cell? ⟨gt, m * 7 + 6, none⟩ = some (.slice va (a4.q to).length vc) := (cell_fr X5.out _).trans ((cell_fr HTB.out _).symm.trans t6); have z3 : w5.frozen? ⟨gt, m * 7 + 3, none⟩ = false := free_of X5.out _; have z4 : w5.frozen? ⟨gt, m * 7 + 4, none⟩ = false := free_of X5.out _; have z6 : w5.frozen? ⟨gt, m * 7 + 6, none⟩ = false := free_of X5.out _; clear hown5 hg5 hloc5 hl5))
    go_end0
    have L5 := L4.out.trans ((Left.refl R4.out ((below_drewN (Below.refl _ _) nq))).trans (tq_append' (h := h4) (a := a4) (w := W4.drewN nq) (R4.out.drewN nq) (by rw [H4.out.2.1]; exact HND.out) (show to ∉ devs from fun hh => by rw [devs_iff] at hh; omega) (p := (n : Int) + 1) HM2.out (by rw [HTV.out]; rfl) _ HOWN5.out (by rw [HQV.out]; exact HG5.out) (by rw [HQV.out]; exact HL5.out.imp id (fun h => ⟨_, h, by simp⟩))))
    have e : ({ a4 with q := upd a4.q to (a4.q to ++ [(n : Int) + 1]) } : A) = moveR a ((n : Int) + 1) frm to := by
      have hw := HW.out
      rw [H4.out.2.2] at hw
      rw [HA4.out]
      simp only [moveR]
      rw [if_neg (fun hh => by rw [hw] at hh; cases hh.2.1)]
    rw [e] at L5
    exact ⟨rfl, _, L5⟩
  | true =>
    rw [hwt] at t3
    by_cases h0 : (a4.tk to).forr = 0 ∨ (a4.tk to).forr = (n : Int) + 1
    · have HW := Lib.hid hwt
      have H0 := Lib.hid h0
      have hb : ((a4.tk to).forr == 0) = true ∨ (((a4.tk to).forr == 0) = false ∧ ((a4.tk to).forr == (n : Int) + 1) = true) := by
        by_cases h1 : (a4.tk to).forr = 0
        · left; simp [h1]
        · right; exact ⟨by simp [h1], by simp [h0.resolve_left h1]⟩
      clear hwt h0
      rcases hb with hb1 | ⟨hb1, hb2⟩
      all_goals
        go_wp2_with (first | (at_builtin; refine wpList_append_own_at _ rfl _ _ 23 rfl B 3 i0 (.int .i64 0) 1 8 Try.underlying23 hi0 hz0 hz1 hz2 rfl (by decide) (.slice va (a4.q to).length vc) (a4.q to).length _ rfl ((own_keep HO4.out (fun _ _ _ => rfl) : (W4.drewN nq).ownsRow B 3 1 (.slice va (a4.q to).length vc) (a4.q to).length _).alloc _) ⟨W4.heap.size, 0, none⟩ 1 1 [.int .i64 ((n : Int) + 1)] rfl rfl (cell_one_new (W4.drewN nq) _ _) (by simp [Value.oneCell']) (by unfold maxLen; omega) (by omega) (by simp; omega) ?_; intro v5 w5 hown5 hg5 _ hloc5; (obtain ⟨vb5, vd5, rfl⟩ := own_form hown5); have HOWN5 := Lib.hid hown5; have HG5 := Lib.hid ((World.grownBy_alloc (W4.drewN nq) _ _).trans hg5); (have hl5 : (Value.slice vb5 ((a4.q to).length + 1) vd5).ownBlock = (Value.slice va (a4.q to).length vc).ownBlock ∨ (Value.slice vb5 ((a4.q to).length + 1) vd5).ownBlock = some (W4.heap.size + 1) := by simpa using hloc5); have HL5 := Lib.hid hl5; have X5 := Lib.hid ((HG5.out.block gt hgt (fun e => own_ty HO4.out HTB.out (by decide) e.symm)).trans HTB.out); have y3 : w5.cell? ⟨gt, m * 7 + 3, none⟩ = some (.bool true) := (cell_fr X5.out _).trans ((cell_fr HTB.out _).symm.trans t3); have y4 : w5.cell? ⟨gt, m * 7 + 4, none⟩ = some (.int .i64 (a4.tk to).forr) := (cell_fr X5.out _).trans ((cell_fr HTB.out _).symm.trans t4); have y6 : w5.cell? ⟨gt, m * 7 + 6, none⟩ = some (.slice va (a4.q to).length vc) := (cell_fr X5.out _).trans ((cell_fr HTB.out _).symm.trans t6); have z3 : w5.frozen? ⟨gt, m * 7 + 3, none⟩ = false := free_of X5.out _; have z4 : w5.frozen? ⟨gt, m * 7 + 4, none⟩ = false := free_of X5.out _; have z6 : w5.frozen? ⟨gt, m * 7 + 6, none⟩ = false := free_of X5.out _; clear hown5 hg5 hloc5 hl5))
        go_end0
        have L5 := L4.out.trans ((Left.refl R4.out ((below_drewN (Below.refl _ _) nq))).trans (tq_append' (h := h4) (a := a4) (w := W4.drewN nq) (R4.out.drewN nq) (by rw [H4.out.2.1]; exact HND.out) (show to ∉ devs from fun hh => by rw [devs_iff] at hh; omega) (p := (n : Int) + 1) HM2.out (by rw [HTV.out]; rfl) _ HOWN5.out (by rw [HQV.out]; exact HG5.out) (by rw [HQV.out]; exact HL5.out.imp id (fun h => ⟨_, h, by simp⟩))))
        have L6 := L5.rep.setTk (i := to) (by rw [H4.out.2.1]; exact HND.out) HM2.out (by rw [HTV.out]; rfl) 3 (by omega) (.bool false) { a4.tk to with waiting := false } (by simp [rtc, upd_same])
        have L7 := L6.rep.setTk (i := to) (by show a4.tids.Nodup; rw [H4.out.2.1]; exact HND.out) HM2.out (by rw [HTV.out]; rfl) 4 (by omega) (.int .i64 0) { a4.tk to with waiting := false, forr := 0 } (by simp [rtc, upd_same])
        have L8 := (L5.trans L6).trans L7
        simp only [upd_upd] at L8
        have e : ({ a4 with q := upd a4.q to (a4.q to ++ [(n : Int) + 1]), tk := upd a4.tk to { a4.tk to with waiting := false, forr := 0 } } : A) = moveR a ((n : Int) + 1) frm to := by
          have hw := HW.out
          have h0 := H0.out
          rw [H4.out.2.2] at hw h0
          rw [HA4.out]
          simp only [moveR]
          rw [if_pos ⟨HTO.out, hw, h0⟩]
        rw [e] at L8
        exact ⟨rfl, _, L8⟩
    · have HW := Lib.hid hwt
      have H0 := Lib.hid h0
      have hb1 : ((a4.tk to).forr == 0) = false := by simp; exact fun e => h0 (.inl e)
      have hb2 : ((a4.tk to).forr == (n : Int) + 1) = false := by simp; exact fun e => h0 (.inr e)
      clear hwt h0
      go_wp2_with (first | (at_builtin; refine wpList_append_own_at _ rfl _ _ 23 rfl B 3 i0 (.int .i64 0) 1 8 Try.underlying23 hi0 hz0 hz1 hz2 rfl (by decide) (.slice va (a4.q to).length vc) (a4.q to).length _ rfl ((own_keep HO4.out (fun _ _ _ => rfl) : (W4.drewN nq).ownsRow B 3 1 (.slice va (a4.q to).length vc) (a4.q to).length _).alloc _) ⟨W4.heap.size, 0, none⟩ 1 1 [.int .i64 ((n : Int) + 1)] rfl rfl (cell_one_new (W4.drewN nq) _ _) (by simp [Value.oneCell']) (by unfold maxLen; omega) (by omega) (by simp; omega) ?_; intro v5 w5 hown5 hg5 _ hloc5; (obtain ⟨vb5, vd5, rfl⟩ := own_form hown5); have HOWN5 := Lib.hid hown5; have HG5 := Lib.hid ((World.grownBy_alloc (W4.drewN nq) _ _).trans hg5); (have hl5 : (Value.slice vb5 ((a4.q to).length + 1) vd5).ownBlock = (Value.slice va (a4.q to).length vc).ownBlock ∨ (Value.slice vb5 ((a4.q to).length + 1) vd5).ownBlock = some (W4.heap.size + 1) := by simpa using hloc5); have HL5 := Lib.hid hl5; have X5 := Lib.hid ((HG5.out.block gt hgt (fun e => own_ty HO4.out HTB.out (by decide) e.symm)).trans HTB.out); have y3 : w5.cell? ⟨gt, m * 7 + 3, none⟩ = some (.bool true) := (cell_fr X5.out _).trans ((cell_fr HTB.out _).symm.trans t3); have y4 : w5.cell? ⟨gt, m * 7 + 4, none⟩ = some (.int .i64 (a4.tk to).forr) := (cell_fr X5.out _).trans ((cell_fr HTB.out _).symm.trans t4); have y6 : w5.cell? ⟨gt, m * 7 + 6, none⟩ = some (.slice va (a4.q to).length vc) := (cell_fr X5.out _).trans ((cell_fr HTB.out _).symm.trans t6); have z3 : w5.frozen? ⟨gt, m * 7 + 3, none⟩ = false := free_of X5.out _; have z4 : w5.frozen? ⟨gt, m * 7 + 4, none⟩ = false := free_of X5.out _; have z6 : w5.frozen? ⟨gt, m * 7 + 6, none⟩ = false := free_of X5.out _; clear hown5 hg5 hloc5 hl5))
      go_end0
      have L5 := L4.out.trans ((Left.refl R4.out ((below_drewN (Below.refl _ _) nq))).trans (tq_append' (h := h4) (a := a4) (w := W4.drewN nq) (R4.out.drewN nq) (by rw [H4.out.2.1]; exact HND.out) (show to ∉ devs from fun hh => by rw [devs_iff] at hh; omega) (p := (n : Int) + 1) HM2.out (by rw [HTV.out]; rfl) _ HOWN5.out (by rw [HQV.out]; exact HG5.out) (by rw [HQV.out]; exact HL5.out.imp id (fun h => ⟨_, h, by simp⟩))))
      have e : ({ a4 with q := upd a4.q to (a4.q to ++ [(n : Int) + 1]) } : A) = moveR a ((n : Int) + 1) frm to := by
        have hw := H0.out
        rw [H4.out.2.2] at hw
        rw [HA4.out]
        simp only [moveR]
        rw [if_neg (fun hh => hw hh.2.2)]
      rw [e] at L5
      exact ⟨rfl, _, L5⟩
theorem renq (B xb : Nat) (h : RG) (a : A) (w : World) (r : RRep B xb h a w) (gd : Good a) (p frm to : Int) (hp : p ∈ a.pids) (hto : a.owner to) (hm : a.moves.length ≤ 100000) :
    Calls Try.prog 88 #[ptr xb, .int .i64 p, .int .i64 frm, .int .i64 to] w (LeftR B xb h a w (.tuple #[]) (moveR a p frm to)) := by
  rcases hto with ht | ht
  · exact renq_task B xb h a w r gd p frm to hp ht hm
  · have hcase : to = -1 ∨ to = -2 ∨ to = -3 ∨ to = -4 ∨ to = -5 := by rw [devs_iff] at ht; omega
    rcases hcase with rfl | rfl | rfl | rfl | rfl
    · exact renq_dev0 B xb h a w r gd p frm hp hm
    · exact renq_dev1 B xb h a w r gd p frm hp hm
    · exact renq_dev2 B xb h a w r gd p frm hp hm
    · exact renq_dev3 B xb h a w r gd p frm hp hm
    · exact renq_dev4 B xb h a w r gd p frm hp hm
end Go.Proofs.Ytkmgbnklfnjfjaa.Ker
