import Derived.Test.YtkdnkjjnmadhgaaDV
set_option linter.unusedVariables false
set_option linter.unusedSimpArgs false
/-! Play, by what each call does. -/
namespace Go.Proofs.Ytkdnkjjnmadhgaa.Dev
open Go.RowKit Go.Maps Go.Lib

/-- A request as it is handed in. -/
abbrev reqC (r : Int × Int × Int × Int × Sl) : List Value := [.int .i64 r.1, .int .i64 r.2.1, .int .i64 r.2.2.1, .int .i64 r.2.2.2.1, slv r.2.2.2.2]
/-- What is handed in, in memory. -/
structure PlanRep (w : World) (B : Nat) (gr gd gt : Nat) (n : Nat) (rq : Nat → Int × Int × Int × Int × Sl) (dev at_ : Nat → Int) : Prop where
  r : ∀ j, j < n → ∀ i, i < 5 → w.cell? ⟨gr, j * 5 + i, none⟩ = (reqC (rq j))[i]?
  d : ∀ j, j < n → w.cell? ⟨gd, j, none⟩ = some (.int .i64 (dev j))
  t : ∀ j, j < n → w.cell? ⟨gt, j, none⟩ = some (.int .i64 (at_ j))
  br : gr < B
  bd : gd < B
  bt : gt < B

set_option maxHeartbeats 4000000 in
set_option maxRecDepth 100000 in
/-- Play where nothing is refused. -/
theorem play_ok (w : World) (cv : Value) (gr gd gt b n : Nat) (rq : Nat → Int × Int × Int × Int × Sl) (dev at_ : Nat → Int) (hP : PlanRep w w.heap.size gr gd gt n rq dev at_) (St : Nat → World → Prop) (Po : Value → World → Prop) (hn : n ≤ 100000)
    (hnew : Calls Try.prog 23 #[cv] w fun e w' => e = .returned (.tuple #[ptr b, .int .i64 0]) ∧ St 0 w')
    (hst : ∀ j wr, St j wr → Below w.heap.size w wr) (hgo : ∀ j wr w', St j wr → Below wr.heap.size wr w' → St j w')
    (hsend : ∀ j, j < n → ∀ wr, St j wr → Calls Try.prog 28 #[ptr b, .int .i64 (dev j), .int .i64 (at_ j), .agg (reqC (rq j)).toArray] wr fun e w' => e = .returned (.int .i64 0) ∧ St (j + 1) w' ∧ ∀ (k : Nat) (cur : Array Value), wr.heap[k]? = some (.cells cur 41 (0, 0)) → w'.heap[k]? = wr.heap[k]?)
    (huntil : ∀ wr, St n wr → Calls Try.prog 29 #[ptr b, .int .i64 1000000000] wr fun e w' => ∃ v : Sl, e = .returned (slv v) ∧ Po (slv v) w') :
    Calls Try.prog 13 #[cv, .slice (some ⟨gr, 0, none⟩) n n, .slice (some ⟨gd, 0, none⟩) n n, .slice (some ⟨gt, 0, none⟩) n n] w fun e w' => ∃ v : Sl, e = .returned (.tuple #[slv v, .int .i64 0]) ∧ Po (slv v) w' := by
  have C23 := Lib.hid hnew
  have HP := Lib.hid hP
  have HST := Lib.hid hst
  have HGO := Lib.hid hgo
  have HSEND := Lib.hid hsend
  have HUNTIL := Lib.hid huntil
  have HN := Lib.hid hn
  clear hnew hP hst hgo hsend huntil hn
  go_enter Try.func13, Try.ntmps13
  go_wp2_with (go_at_call 23; (refine (C23.out).mono ?_); rintro e w1 ⟨rfl, h1⟩; have H1 := Lib.hid h1; clear h1)
  go_loopw [37] (fun i wr => ∃ j : Nat, j ≤ n ∧ i = .int .i64 j ∧ St j wr) (fun i _ => n - (intOf i).toNat)
  case atStart => exact ⟨0, Nat.zero_le _, rfl, H1.out⟩
  case round =>
    obtain ⟨j, hj, rfl, hs⟩ := hrel
    by_cases hlt : j < n
    · as_aux_lemma =>
        have hd : decide ((j : Int) < (n : Int)) = true := by simpa using hlt
        have hb := HST.out j wr hs
        have r0 := (hb.cell (p := ⟨gr, j * 5, none⟩) HP.out.br).trans (HP.out.r j hlt 0 (by decide))
        have r1 := (hb.cell (p := ⟨gr, j * 5 + 1, none⟩) HP.out.br).trans (HP.out.r j hlt 1 (by decide))
        have r2 := (hb.cell (p := ⟨gr, j * 5 + 2, none⟩) HP.out.br).trans (HP.out.r j hlt 2 (by decide))
        have r3 := (hb.cell (p := ⟨gr, j * 5 + 3, none⟩) HP.out.br).trans (HP.out.r j hlt 3 (by decide))
        have r4 := (hb.cell (p := ⟨gr, j * 5 + 4, none⟩) HP.out.br).trans (HP.out.r j hlt 4 (by decide))
        simp only [reqC, List.getElem?_cons_zero, List.getElem?_cons_succ] at r0 r1 r2 r3 r4
        have d0 := (hb.cell (p := ⟨gd, j, none⟩) HP.out.bd).trans (HP.out.d j hlt)
        have t0 := (hb.cell (p := ⟨gt, j, none⟩) HP.out.bt).trans (HP.out.t j hlt)
        have ldt := lt_of_cell d0
        have ltt := lt_of_cell t0
        have HS := Lib.hid hs
        have HB := Lib.hid hb
        clear hs hb
        go_upto_region 9 with (fail)
        obtain ⟨W, hW⟩ : ∃ W, W = wr.alloc (.cells (reqC (rq j)).toArray 41) := ⟨_, rfl⟩
        rw [show (wr.alloc (.cells #[.int .i64 (rq j).1, .int .i64 (rq j).2.1, .int .i64 (rq j).2.2.1, .int .i64 (rq j).2.2.2.1, .slice (rq j).2.2.2.2.1 (rq j).2.2.2.2.2.1 (rq j).2.2.2.2.2.2] 41)) = W from hW.symm]
        have hb1 : Below wr.heap.size wr W := by rw [hW]; exact (Below.refl _ _).alloc (Nat.le_refl _) _
        have gb : W.heap[wr.heap.size]? = some (.cells (reqC (rq j)).toArray 41 (0, 0)) := by rw [hW]; exact alloc_new _ _
        have hs1 : St j W.drew := HGO.out j wr _ HS.out hb1.drew
        have C28 := Lib.hid (HSEND.out j hlt W.drew hs1)
        have e0 := (hb1.cell ldt).trans d0
        have e1 := (hb1.cell ltt).trans t0
        have z0 : W.cell? ⟨wr.heap.size, 0, none⟩ = some (.int .i64 (rq j).1) := (cell_of gb 0).trans rfl
        have z1 : W.cell? ⟨wr.heap.size, 1, none⟩ = some (.int .i64 (rq j).2.1) := (cell_of gb 1).trans rfl
        have z2 : W.cell? ⟨wr.heap.size, 2, none⟩ = some (.int .i64 (rq j).2.2.1) := (cell_of gb 2).trans rfl
        have z3 : W.cell? ⟨wr.heap.size, 3, none⟩ = some (.int .i64 (rq j).2.2.2.1) := (cell_of gb 3).trans rfl
        have z4 : W.cell? ⟨wr.heap.size, 4, none⟩ = some (.slice (rq j).2.2.2.2.1 (rq j).2.2.2.2.2.1 (rq j).2.2.2.2.2.2) := (cell_of gb 4).trans rfl
        have GB := Lib.hid gb
        clear r0 r1 r2 r3 r4 d0 t0 hb1 gb hs1 hW ldt ltt
        obtain ⟨C, hCd⟩ : ∃ C : World → Prop, ∀ z, C z ↔ (z.cell? ⟨wr.heap.size, 0, none⟩ = some (.int .i64 (rq j).1) ∧ z.cell? ⟨wr.heap.size, 1, none⟩ = some (.int .i64 (rq j).2.1) ∧ z.cell? ⟨wr.heap.size, 2, none⟩ = some (.int .i64 (rq j).2.2.1) ∧ z.cell? ⟨wr.heap.size, 3, none⟩ = some (.int .i64 (rq j).2.2.2.1) ∧ z.cell? ⟨wr.heap.size, 4, none⟩ = some (.slice (rq j).2.2.2.2.1 (rq j).2.2.2.2.2.1 (rq j).2.2.2.2.2.2) ∧ z.cell? ⟨gd, j, none⟩ = some (.int .i64 (dev j)) ∧ z.cell? ⟨gt, j, none⟩ = some (.int .i64 (at_ j))) := ⟨_, fun _ => Iff.rfl⟩
        have s0 := fun s : {z : World // C z} => ((hCd s.1).1 s.2).1
        have s1 := fun s : {z : World // C z} => ((hCd s.1).1 s.2).2.1
        have s2 := fun s : {z : World // C z} => ((hCd s.1).1 s.2).2.2.1
        have s3 := fun s : {z : World // C z} => ((hCd s.1).1 s.2).2.2.2.1
        have s4 := fun s : {z : World // C z} => ((hCd s.1).1 s.2).2.2.2.2.1
        have s5 := fun s : {z : World // C z} => ((hCd s.1).1 s.2).2.2.2.2.2.1
        have s6 := fun s : {z : World // C z} => ((hCd s.1).1 s.2).2.2.2.2.2.2
        have hC0 := (hCd W.drew).2 ⟨z0, z1, z2, z3, z4, e0, e1⟩
        haveI : Nonempty {z : World // C z} := ⟨⟨W.drew, hC0⟩⟩
        refine Mix.wp_region_mix C [10] (by kernel_rfl) (by kernel_rfl) hC0 ?_
        have HCD := Lib.hid hCd
        clear hCd hC0
        repeat (refine Mix.mix_still rfl (fun K hK => ?_); go_simp; refine hK _ ?_; clear hK K)
        refine Mix.mix_eff rfl ?_
        go_wp2_with (go_at_call 28; (refine (C28.out).mono ?_); rintro e w4 ⟨rfl, h4, hk4⟩; have H4 := Lib.hid h4; have HK4 := Lib.hid hk4; clear h4 hk4)
        have g4 := (HK4.out _ _ GB.out).trans GB.out
        have hb4 := HST.out (j + 1) w4 H4.out
        refine ⟨(HCD.out _).2 ⟨(cell_of g4 0).trans rfl, (cell_of g4 1).trans rfl, (cell_of g4 2).trans rfl, (cell_of g4 3).trans rfl, (cell_of g4 4).trans rfl, (hb4.cell HP.out.bd).trans (HP.out.d j hlt), (hb4.cell HP.out.bt).trans (HP.out.t j hlt)⟩, ?_⟩
        clear g4 hb4
        repeat (refine Mix.mix_still rfl (fun K hK => ?_); go_simp; refine hK _ ?_; clear hK K)
        refine Mix.mix_nil ?_
        go_wp2_with fail
        go_roundw
        case rel =>
          have e : wrap64 ((j : Int) + 1) = ((j + 1 : Nat) : Int) := by
            have := HN.out
            unfold wrap64; omega
          exact ⟨j + 1, hlt, by rw [e], H4.out⟩
        case measure =>
          have e : wrap64 ((j : Int) + 1) = ((j + 1 : Nat) : Int) := by
            have := HN.out
            unfold wrap64; omega
          show n - (intOf (.int .i64 (wrap64 ((j : Int) + 1)))).toNat < n - (intOf (.int .i64 (j : Int))).toNat
          rw [e]
          show n - (j + 1) < n - j
          omega
    · as_aux_lemma =>
        have hjn : j = n := by omega
        subst hjn
        have hd : decide ((j : Int) < (j : Int)) = false := by simp
        have C29 := Lib.hid (HUNTIL.out wr hs)
        clear hs
        go_wp2_with (go_at_call 29; (refine (C29.out).mono ?_); rintro e w' ⟨v, rfl, hp⟩; have HPO := Lib.hid hp; clear hp)
        go_ret2
        exact ⟨_, rfl, HPO.out⟩
end Go.Proofs.Ytkdnkjjnmadhgaa.Dev
