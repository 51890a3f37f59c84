import Derived.Test.YtkdnkjjnmadhgaaFG
set_option linter.unusedVariables false
set_option linter.unusedSimpArgs false
/-! handed (f17) where a request, or the devices, are refused; no looks. (Printed by mk_gl.py.) -/
namespace Go.Proofs.Ytkdnkjjnmadhgaa.Dev
open Go.RowKit Go.Maps Go.Lib

/-- A plan in memory; its devices and times may begin within their rows. -/
structure PlanO (w : World) (B gr gd od gt ot n : Nat) (rq : Nat → Int × Int × Int × Int × Sl) (dev at_ : Nat → Int) : Prop where
  r : ∀ j, j < n → ∀ i, i < 5 → w.cell? ⟨gr, j * 5 + i, none⟩ = (reqC (rq j))[i]?
  d : ∀ j, j < n → w.cell? ⟨gd, od + j, none⟩ = some (.int .i64 (dev j))
  t : ∀ j, j < n → w.cell? ⟨gt, ot + j, none⟩ = some (.int .i64 (at_ j))
  br : gr < B
  bd : gd < B
  bt : gt < B
structure PlanAtO (w : World) (B : Nat) (Ar Ad At : Option Addr) (n : Nat) (rq : Nat → Int × Int × Int × Int × Sl) (dev at_ : Nat → Int) : Prop where
  ex : 0 < n → ∃ gr gd od gt ot, Ar = some ⟨gr, 0, none⟩ ∧ Ad = some ⟨gd, od, none⟩ ∧ At = some ⟨gt, ot, none⟩ ∧ PlanO w B gr gd od gt ot n rq dev at_
set_option maxHeartbeats 4000000 in
set_option maxRecDepth 100000 in
theorem handed_stop (w : World) (cv : Value) (Ar Ad At : Option Addr) (n nr nd nt b k0 : Nat) (rq : Nat → Int × Int × Int × Int × Sl) (dev at_ : Nat → Int) (hP : PlanAtO w w.heap.size Ar Ad At n rq dev at_) (hn : n ≤ 100000) (hk : k0 < n)
    (St : Nat → World → Prop)
    (hnew : ∀ W, Below w.heap.size w W → W.heap.size = w.heap.size + 1 → Calls Try.prog 23 #[cv] W fun e w' => e = .returned (.tuple #[ptr b, .int .i64 0]) ∧ St 0 w' ∧ Below W.heap.size W w')
    (hst : ∀ s wr, St s wr → Below w.heap.size w wr) (hgo : ∀ s wr w', St s wr → Touch wr w' (fun k => w.heap.size ≤ k ∧ ∃ cur, wr.heap[k]? = some (.cells cur 46 (0, 0))) → St s w')
    (hsend : ∀ i wr, i < k0 → St i wr → Calls Try.prog 28 #[ptr b, .int .i64 (dev i), .int .i64 (at_ i), .agg (reqC (rq i)).toArray] wr fun e w' => e = .returned (.int .i64 0) ∧ St (i + 1) w' ∧ Frame3 wr w')
    (hbad : ∀ wr, St k0 wr → Calls Try.prog 28 #[ptr b, .int .i64 (dev k0), .int .i64 (at_ k0), .agg (reqC (rq k0)).toArray] wr fun e w' => ∃ c : Int, c ≠ 0 ∧ e = .returned (.int .i64 c) ∧ Below wr.heap.size wr w') :
    Calls Try.prog 17 #[cv, .agg #[.slice Ar n nr, .slice Ad n nd, .slice At n nt], .slice none 0 0] w fun e w' => e = .returned (.tuple #[.slice none 0 0, .pointer none, .bool false]) ∧ Below w.heap.size w w' := by
  obtain ⟨W, hW⟩ : ∃ W, W = w.alloc (.cells #[.slice Ar n nr, .slice Ad n nd, .slice At n nt] 26) := ⟨_, rfl⟩
  have hbw : Below w.heap.size w W := by rw [hW]; exact (Below.refl _ _).alloc (Nat.le_refl _) _
  have gb : W.heap[w.heap.size]? = some (.cells #[.slice Ar n nr, .slice Ad n nd, .slice At n nt] 26 (0, 0)) := by rw [hW]; exact alloc_new _ _
  have C23 := Lib.hid (hnew W hbw (by rw [hW]; simp))
  have HP := Lib.hid hP
  have HST := Lib.hid hst
  have HGO := Lib.hid hgo
  have HSEND := Lib.hid hsend
  have HBAD := Lib.hid hbad
  have HN := Lib.hid hn
  have HK := Lib.hid hk
  have GB := Lib.hid gb
  clear hbw gb hnew hP hst hgo hsend hbad hn hk
  subst hW
  go_enter Try.func17, Try.ntmps17
  go_wp2_with (go_at_call 23; (with_reducible refine (C23.out).mono ?_); rintro e w1 ⟨rfl, h1, hb1⟩; have g1 := (hb1.block _ (blt GB.out)).trans GB.out; have y0 : w1.cell? ⟨w.heap.size, 0, none⟩ = some (.slice Ar n nr) := (cell_of g1 0).trans rfl; have y1 : w1.cell? ⟨w.heap.size, 1, none⟩ = some (.slice Ad n nd) := (cell_of g1 1).trans rfl; have y2 : w1.cell? ⟨w.heap.size, 2, none⟩ = some (.slice At n nt) := (cell_of g1 2).trans rfl; have G1 := Lib.hid g1; have H1 := Lib.hid h1; clear h1 hb1 g1)
  clear y0 y1 y2
  go_loopw [11, 12] (fun v i wr => ∃ j : Nat, j ≤ k0 ∧ i = .int .i64 j ∧ v = .slice none 0 0 ∧ St j wr ∧ wr.heap[w.heap.size]? = some (.cells #[.slice Ar n nr, .slice Ad n nd, .slice At n nt] 26 (0, 0))) (fun _ i _ => n - (intOf i).toNat)
  case atStart => exact ⟨0, Nat.zero_le _, rfl, rfl, H1.out, G1.out⟩
  case round =>
    obtain ⟨j, hj, rfl, rfl, hS, hpln⟩ := hrel
    have y0 : wr.cell? ⟨w.heap.size, 0, none⟩ = some (.slice Ar n nr) := (cell_of hpln 0).trans rfl
    have hlt : j < n := by have := HK.out; omega
    have hd : decide ((j : Int) < (n : Int)) = true := by simpa using hlt
    obtain ⟨gr, gd, od, gt, ot, rfl, rfl, rfl, hpl⟩ := HP.out.ex (by omega)
    have HPL := Lib.hid hpl
    have HS0 := Lib.hid hS
    have HPLN0 := Lib.hid hpln
    clear hpl hS hpln
    go_wp2_with fail
    go_loopw [11, 13] (fun v i wx => v = .slice none 0 0 ∧ i = .int .i64 0 ∧ wx = wr) (fun _ _ _ => 0)
    case atStart => exact ⟨rfl, rfl, rfl⟩
    case round =>
      obtain ⟨rfl, rfl, hwx⟩ := hrel
      subst hwx
      go_wp2_with fail
      have hS := HS0.out
      have hpln := HPLN0.out
      clear y0 HS0 HPLN0
      by_cases hjk : j < k0
      · as_aux_lemma =>
            have hb := HST.out j wr hS
            have y0 : wr.cell? ⟨w.heap.size, 0, none⟩ = some (.slice (some ⟨gr, 0, none⟩) n nr) := (cell_of hpln 0).trans rfl
            have y1 : wr.cell? ⟨w.heap.size, 1, none⟩ = some (.slice (some ⟨gd, od, none⟩) n nd) := (cell_of hpln 1).trans rfl
            have y2 : wr.cell? ⟨w.heap.size, 2, none⟩ = some (.slice (some ⟨gt, ot, none⟩) n nt) := (cell_of hpln 2).trans rfl
            have r0 := (hb.cell (p := ⟨gr, j * 5, none⟩) HPL.out.br).trans (HPL.out.r j hlt 0 (by decide))
            have r1 := (hb.cell (p := ⟨gr, j * 5 + 1, none⟩) HPL.out.br).trans (HPL.out.r j hlt 1 (by decide))
            have r2 := (hb.cell (p := ⟨gr, j * 5 + 2, none⟩) HPL.out.br).trans (HPL.out.r j hlt 2 (by decide))
            have r3 := (hb.cell (p := ⟨gr, j * 5 + 3, none⟩) HPL.out.br).trans (HPL.out.r j hlt 3 (by decide))
            have r4 := (hb.cell (p := ⟨gr, j * 5 + 4, none⟩) HPL.out.br).trans (HPL.out.r j hlt 4 (by decide))
            simp only [reqC, List.getElem?_cons_zero, List.getElem?_cons_succ] at r0 r1 r2 r3 r4
            have d0 := (hb.cell (p := ⟨gd, od + j, none⟩) HPL.out.bd).trans (HPL.out.d j hlt)
            have t0 := (hb.cell (p := ⟨gt, ot + j, none⟩) HPL.out.bt).trans (HPL.out.t j hlt)
            have hSd : St j wr.drew := HGO.out j wr _ hS (Touch.drew _ _)
            have C28 := Lib.hid (HSEND.out j wr.drew hjk hSd)
            have HS := Lib.hid hS
            have HPLN := Lib.hid hpln
            clear hS hpln hSd hb
            go_upto_region 13 with (fail)
            obtain ⟨C, hCd⟩ : ∃ C : World → Prop, ∀ z, C z ↔ (z.cell? ⟨w.heap.size, 0, none⟩ = some (.slice (some ⟨gr, 0, none⟩) n nr) ∧ z.cell? ⟨w.heap.size, 1, none⟩ = some (.slice (some ⟨gd, od, none⟩) n nd) ∧ z.cell? ⟨w.heap.size, 2, none⟩ = some (.slice (some ⟨gt, ot, none⟩) n nt) ∧ z.cell? ⟨gr, j * 5, none⟩ = some (.int .i64 (rq j).1) ∧ z.cell? ⟨gr, j * 5 + 1, none⟩ = some (.int .i64 (rq j).2.1) ∧ z.cell? ⟨gr, j * 5 + 2, none⟩ = some (.int .i64 (rq j).2.2.1) ∧ z.cell? ⟨gr, j * 5 + 3, none⟩ = some (.int .i64 (rq j).2.2.2.1) ∧ z.cell? ⟨gr, j * 5 + 4, none⟩ = some (.slice (rq j).2.2.2.2.1 (rq j).2.2.2.2.2.1 (rq j).2.2.2.2.2.2) ∧ z.cell? ⟨gd, od + j, none⟩ = some (.int .i64 (dev j)) ∧ z.cell? ⟨gt, ot + j, none⟩ = some (.int .i64 (at_ j))) := ⟨_, fun _ => Iff.rfl⟩
            have s0' := fun s : {z : World // C z} => ((hCd s.1).1 s.2).1
            have s1' := fun s : {z : World // C z} => ((hCd s.1).1 s.2).2.1
            have s2' := fun s : {z : World // C z} => ((hCd s.1).1 s.2).2.2.1
            have s3' := fun s : {z : World // C z} => ((hCd s.1).1 s.2).2.2.2.1
            have s4' := fun s : {z : World // C z} => ((hCd s.1).1 s.2).2.2.2.2.1
            have s5' := fun s : {z : World // C z} => ((hCd s.1).1 s.2).2.2.2.2.2.1
            have s6' := fun s : {z : World // C z} => ((hCd s.1).1 s.2).2.2.2.2.2.2.1
            have s7' := fun s : {z : World // C z} => ((hCd s.1).1 s.2).2.2.2.2.2.2.2.1
            have s8' := fun s : {z : World // C z} => ((hCd s.1).1 s.2).2.2.2.2.2.2.2.2.1
            have s9' := fun s : {z : World // C z} => ((hCd s.1).1 s.2).2.2.2.2.2.2.2.2.2
            have hC0 := (hCd wr.drew).2 ⟨y0, y1, y2, r0, r1, r2, r3, r4, d0, t0⟩
            haveI : Nonempty {z : World // C z} := ⟨⟨wr.drew, hC0⟩⟩
            refine Mix.wp_region_mix C [16] (by kernel_rfl) (by kernel_rfl) hC0 ?_
            have HCD := Lib.hid hCd
            have HC0 := Lib.hid hC0
            clear hCd hC0 y0 y1 y2 r0 r1 r2 r3 r4 d0 t0
            repeat (refine Mix.mix_still rfl (fun K hK => ?_); go_simp; refine hK _ ?_; clear hK K)
            refine Mix.mix_eff rfl ?_
            go_wp2_with (go_at_call 28; (with_reducible refine (C28.out).mono ?_); rintro e w4 ⟨rfl, h4, hf4⟩; have H4 := Lib.hid h4; have HF4 := Lib.hid hf4; clear h4 hf4)
            have hb4 : Below w.heap.size w w4 := HST.out _ w4 H4.out
            have hpl4 := (HF4.out _ _ 26 HPLN.out (.inr (.inl rfl))).trans HPLN.out
            have hk4 : ∀ {g j : Nat} {v : Value}, g < w.heap.size → w.cell? ⟨g, j, none⟩ = some v → w4.cell? ⟨g, j, none⟩ = some v := fun hg hv => (hb4.cell (p := ⟨_, _, none⟩) hg).trans hv
            refine ⟨(HCD.out _).2 ⟨(cell_of hpl4 0).trans rfl, (cell_of hpl4 1).trans rfl, (cell_of hpl4 2).trans rfl, hk4 HPL.out.br (HPL.out.r j hlt 0 (by decide)), hk4 HPL.out.br (HPL.out.r j hlt 1 (by decide)), hk4 HPL.out.br (HPL.out.r j hlt 2 (by decide)), hk4 HPL.out.br (HPL.out.r j hlt 3 (by decide)), hk4 HPL.out.br (HPL.out.r j hlt 4 (by decide)), hk4 HPL.out.bd (HPL.out.d j hlt), hk4 HPL.out.bt (HPL.out.t j hlt)⟩, ?_⟩
            have HPL4 := Lib.hid hpl4
            clear hb4 hpl4 hk4
            repeat (refine Mix.mix_still rfl (fun K hK => ?_); go_simp; refine hK _ ?_; clear hK K)
            refine Mix.mix_nil ?_
            go_wp2_with fail
            case roundEnd =>
              have e : wrap64 ((j : Int) + 1) = ((j + 1 : Nat) : Int) := by
                have := HN.out
                unfold wrap64; omega
              refine ⟨⟨j + 1, hjk, by rw [e], rfl, H4.out, HPL4.out⟩, ?_⟩
              rw [e]
              show n - (j + 1) < n - j
              omega
      · as_aux_lemma =>
            obtain rfl : j = k0 := by omega
            have hb := HST.out j wr hS
            have y0 : wr.cell? ⟨w.heap.size, 0, none⟩ = some (.slice (some ⟨gr, 0, none⟩) n nr) := (cell_of hpln 0).trans rfl
            have y1 : wr.cell? ⟨w.heap.size, 1, none⟩ = some (.slice (some ⟨gd, od, none⟩) n nd) := (cell_of hpln 1).trans rfl
            have y2 : wr.cell? ⟨w.heap.size, 2, none⟩ = some (.slice (some ⟨gt, ot, none⟩) n nt) := (cell_of hpln 2).trans rfl
            have r0 := (hb.cell (p := ⟨gr, j * 5, none⟩) HPL.out.br).trans (HPL.out.r j hlt 0 (by decide))
            have r1 := (hb.cell (p := ⟨gr, j * 5 + 1, none⟩) HPL.out.br).trans (HPL.out.r j hlt 1 (by decide))
            have r2 := (hb.cell (p := ⟨gr, j * 5 + 2, none⟩) HPL.out.br).trans (HPL.out.r j hlt 2 (by decide))
            have r3 := (hb.cell (p := ⟨gr, j * 5 + 3, none⟩) HPL.out.br).trans (HPL.out.r j hlt 3 (by decide))
            have r4 := (hb.cell (p := ⟨gr, j * 5 + 4, none⟩) HPL.out.br).trans (HPL.out.r j hlt 4 (by decide))
            simp only [reqC, List.getElem?_cons_zero, List.getElem?_cons_succ] at r0 r1 r2 r3 r4
            have d0 := (hb.cell (p := ⟨gd, od + j, none⟩) HPL.out.bd).trans (HPL.out.d j hlt)
            have t0 := (hb.cell (p := ⟨gt, ot + j, none⟩) HPL.out.bt).trans (HPL.out.t j hlt)
            have hSd : St j wr.drew := HGO.out j wr _ hS (Touch.drew _ _)
            have C28 := Lib.hid (HBAD.out wr.drew hSd)
            have HS := Lib.hid hS
            have HPLN := Lib.hid hpln
            clear hS hpln hSd hb
            go_upto_region 13 with (fail)
            obtain ⟨C, hCd⟩ : ∃ C : World → Prop, ∀ z, C z ↔ (z.cell? ⟨w.heap.size, 0, none⟩ = some (.slice (some ⟨gr, 0, none⟩) n nr) ∧ z.cell? ⟨w.heap.size, 1, none⟩ = some (.slice (some ⟨gd, od, none⟩) n nd) ∧ z.cell? ⟨w.heap.size, 2, none⟩ = some (.slice (some ⟨gt, ot, none⟩) n nt) ∧ z.cell? ⟨gr, j * 5, none⟩ = some (.int .i64 (rq j).1) ∧ z.cell? ⟨gr, j * 5 + 1, none⟩ = some (.int .i64 (rq j).2.1) ∧ z.cell? ⟨gr, j * 5 + 2, none⟩ = some (.int .i64 (rq j).2.2.1) ∧ z.cell? ⟨gr, j * 5 + 3, none⟩ = some (.int .i64 (rq j).2.2.2.1) ∧ z.cell? ⟨gr, j * 5 + 4, none⟩ = some (.slice (rq j).2.2.2.2.1 (rq j).2.2.2.2.2.1 (rq j).2.2.2.2.2.2) ∧ z.cell? ⟨gd, od + j, none⟩ = some (.int .i64 (dev j)) ∧ z.cell? ⟨gt, ot + j, none⟩ = some (.int .i64 (at_ j))) := ⟨_, fun _ => Iff.rfl⟩
            have s0' := fun s : {z : World // C z} => ((hCd s.1).1 s.2).1
            have s1' := fun s : {z : World // C z} => ((hCd s.1).1 s.2).2.1
            have s2' := fun s : {z : World // C z} => ((hCd s.1).1 s.2).2.2.1
            have s3' := fun s : {z : World // C z} => ((hCd s.1).1 s.2).2.2.2.1
            have s4' := fun s : {z : World // C z} => ((hCd s.1).1 s.2).2.2.2.2.1
            have s5' := fun s : {z : World // C z} => ((hCd s.1).1 s.2).2.2.2.2.2.1
            have s6' := fun s : {z : World // C z} => ((hCd s.1).1 s.2).2.2.2.2.2.2.1
            have s7' := fun s : {z : World // C z} => ((hCd s.1).1 s.2).2.2.2.2.2.2.2.1
            have s8' := fun s : {z : World // C z} => ((hCd s.1).1 s.2).2.2.2.2.2.2.2.2.1
            have s9' := fun s : {z : World // C z} => ((hCd s.1).1 s.2).2.2.2.2.2.2.2.2.2
            have hC0 := (hCd wr.drew).2 ⟨y0, y1, y2, r0, r1, r2, r3, r4, d0, t0⟩
            haveI : Nonempty {z : World // C z} := ⟨⟨wr.drew, hC0⟩⟩
            refine Mix.wp_region_mix C [16] (by kernel_rfl) (by kernel_rfl) hC0 ?_
            have HCD := Lib.hid hCd
            have HC0 := Lib.hid hC0
            clear hCd hC0 y0 y1 y2 r0 r1 r2 r3 r4 d0 t0
            repeat (refine Mix.mix_still rfl (fun K hK => ?_); go_simp; refine hK _ ?_; clear hK K)
            refine Mix.mix_eff rfl ?_
            go_wp2_with (go_at_call 28; (with_reducible refine (C28.out).mono ?_); rintro e w4 ⟨c4, hc4, rfl, hb4⟩; have hcn : (c4 != 0) = true := (by simpa using hc4); have HB4 := Lib.hid hb4; clear hb4 hc4)
            have hb4' : Below wr.heap.size wr w4 := ⟨HB4.out.os, HB4.out.tape, HB4.out.output, HB4.out.size, HB4.out.block⟩
            have hbw := HST.out j wr HS.out
            have hb5 : Below w.heap.size w w4 := hbw.trans (hb4'.mono hbw.size)
            have hpl4 := (hb4'.block _ (blt HPLN.out)).trans HPLN.out
            have hk4 : ∀ {g j : Nat} {v : Value}, g < w.heap.size → w.cell? ⟨g, j, none⟩ = some v → w4.cell? ⟨g, j, none⟩ = some v := fun hg hv => (hb5.cell (p := ⟨_, _, none⟩) hg).trans hv
            refine ⟨(HCD.out _).2 ⟨(cell_of hpl4 0).trans rfl, (cell_of hpl4 1).trans rfl, (cell_of hpl4 2).trans rfl, hk4 HPL.out.br (HPL.out.r j hlt 0 (by decide)), hk4 HPL.out.br (HPL.out.r j hlt 1 (by decide)), hk4 HPL.out.br (HPL.out.r j hlt 2 (by decide)), hk4 HPL.out.br (HPL.out.r j hlt 3 (by decide)), hk4 HPL.out.br (HPL.out.r j hlt 4 (by decide)), hk4 HPL.out.bd (HPL.out.d j hlt), hk4 HPL.out.bt (HPL.out.t j hlt)⟩, ?_⟩
            have HB5 := Lib.hid hb5
            clear hb4' hpl4 hk4 hbw hb5
            repeat (refine Mix.mix_still rfl (fun K hK => ?_); go_simp; refine hK _ ?_; clear hK K)
            refine Mix.mix_nil ?_
            go_wp2_with fail
            go_ret3
            exact ⟨rfl, HB5.out⟩
set_option maxHeartbeats 4000000 in
set_option maxRecDepth 100000 in
/-- handed, where nothing is refused; no looks. -/
theorem handed_all (w : World) (cv : Value) (Ar Ad At : Option Addr) (n nr nd nt b : Nat) (rq : Nat → Int × Int × Int × Int × Sl) (dev at_ : Nat → Int) (hP : PlanAtO w w.heap.size Ar Ad At n rq dev at_) (hn : n ≤ 100000)
    (St : Nat → World → Prop) (SE : World → Prop) (os : List Ans) (hos : os.length ≤ 100000)
    (hnew : ∀ W, Below w.heap.size w W → W.heap.size = w.heap.size + 1 → Calls Try.prog 23 #[cv] W fun e w' => e = .returned (.tuple #[ptr b, .int .i64 0]) ∧ St 0 w' ∧ Below W.heap.size W w')
    (hst : ∀ s wr, St s wr → Below w.heap.size w wr) (hgo : ∀ s wr w', St s wr → Touch wr w' (fun k => w.heap.size ≤ k ∧ ∃ cur, wr.heap[k]? = some (.cells cur 46 (0, 0))) → St s w')
    (hse : ∀ wr, SE wr → Below w.heap.size w wr) (hgoe : ∀ wr w', SE wr → Touch wr w' (fun k => w.heap.size ≤ k ∧ ∃ cur, wr.heap[k]? = some (.cells cur 46 (0, 0))) → SE w')
    (hsend : ∀ i wr, i < n → St i wr → Calls Try.prog 28 #[ptr b, .int .i64 (dev i), .int .i64 (at_ i), .agg (reqC (rq i)).toArray] wr fun e w' => e = .returned (.int .i64 0) ∧ St (i + 1) w' ∧ Frame3 wr w')
    (huntil : ∀ wr, St n wr → Calls Try.prog 29 #[ptr b, .int .i64 1000000000] wr fun e w' => ∃ (v : Sl) (rs : List Rp), e = .returned (slv v) ∧ HOut w.heap.size wr.heap.size w' (slv v) rs os ∧ SE w' ∧ Frame3 wr w') :
    Calls Try.prog 17 #[cv, .agg #[.slice Ar n nr, .slice Ad n nd, .slice At n nt], .slice none 0 0] w fun e w' => ∃ (v : Value) (rs : List Rp), e = .returned (.tuple #[v, ptr b, .bool true]) ∧ SE w' ∧ HOut w.heap.size w.heap.size w' v rs os := by
  obtain ⟨W, hW⟩ : ∃ W, W = w.alloc (.cells #[.slice Ar n nr, .slice Ad n nd, .slice At n nt] 26) := ⟨_, rfl⟩
  have hbw : Below w.heap.size w W := by rw [hW]; exact (Below.refl _ _).alloc (Nat.le_refl _) _
  have gb : W.heap[w.heap.size]? = some (.cells #[.slice Ar n nr, .slice Ad n nd, .slice At n nt] 26 (0, 0)) := by rw [hW]; exact alloc_new _ _
  have C23 := Lib.hid (hnew W hbw (by rw [hW]; simp))
  have HP := Lib.hid hP
  have HST := Lib.hid hst
  have HGO := Lib.hid hgo
  have HSE := Lib.hid hse
  have HGOE := Lib.hid hgoe
  have HSEND := Lib.hid hsend
  have HUNTIL := Lib.hid huntil
  have HN := Lib.hid hn
  have HOS := Lib.hid hos
  have GB := Lib.hid gb
  clear hbw gb hnew hP hst hgo hsend huntil hn hos hse hgoe
  subst hW
  go_enter Try.func17, Try.ntmps17
  go_wp2_with (go_at_call 23; (with_reducible refine (C23.out).mono ?_); rintro e w1 ⟨rfl, h1, hb1⟩; have g1 := (hb1.block _ (blt GB.out)).trans GB.out; have y0 : w1.cell? ⟨w.heap.size, 0, none⟩ = some (.slice Ar n nr) := (cell_of g1 0).trans rfl; have y1 : w1.cell? ⟨w.heap.size, 1, none⟩ = some (.slice Ad n nd) := (cell_of g1 1).trans rfl; have y2 : w1.cell? ⟨w.heap.size, 2, none⟩ = some (.slice At n nt) := (cell_of g1 2).trans rfl; have G1 := Lib.hid g1; have H1 := Lib.hid h1; clear h1 hb1 g1)
  clear y0 y1 y2
  go_loopw [11, 12] (fun v i wr => ∃ j : Nat, j ≤ n ∧ i = .int .i64 j ∧ v = .slice none 0 0 ∧ St j wr ∧ wr.heap[w.heap.size]? = some (.cells #[.slice Ar n nr, .slice Ad n nd, .slice At n nt] 26 (0, 0))) (fun _ i _ => n - (intOf i).toNat)
  case atStart => exact ⟨0, Nat.zero_le _, rfl, rfl, H1.out, G1.out⟩
  case round =>
    obtain ⟨j, hj, rfl, rfl, hS, hpln⟩ := hrel
    have y0 : wr.cell? ⟨w.heap.size, 0, none⟩ = some (.slice Ar n nr) := (cell_of hpln 0).trans rfl
    by_cases hlt : j < n
    · as_aux_lemma =>
        have hd : decide ((j : Int) < (n : Int)) = true := by simpa using hlt
        obtain ⟨gr, gd, od, gt, ot, rfl, rfl, rfl, hpl⟩ := HP.out.ex (by omega)
        have HPL := Lib.hid hpl
        have HS0 := Lib.hid hS
        have HPLN0 := Lib.hid hpln
        clear hpl hS hpln
        go_wp2_with fail
        go_loopw [11, 13] (fun v i wx => v = .slice none 0 0 ∧ i = .int .i64 0 ∧ wx = wr) (fun _ _ _ => 0)
        case atStart => exact ⟨rfl, rfl, rfl⟩
        case round =>
            obtain ⟨rfl, rfl, hwx⟩ := hrel
            subst hwx
            go_wp2_with fail
            have hS := HS0.out
            have hpln := HPLN0.out
            clear y0 HS0 HPLN0
            have hb := HST.out j wr hS
            have y0 : wr.cell? ⟨w.heap.size, 0, none⟩ = some (.slice (some ⟨gr, 0, none⟩) n nr) := (cell_of hpln 0).trans rfl
            have y1 : wr.cell? ⟨w.heap.size, 1, none⟩ = some (.slice (some ⟨gd, od, none⟩) n nd) := (cell_of hpln 1).trans rfl
            have y2 : wr.cell? ⟨w.heap.size, 2, none⟩ = some (.slice (some ⟨gt, ot, none⟩) n nt) := (cell_of hpln 2).trans rfl
            have r0 := (hb.cell (p := ⟨gr, j * 5, none⟩) HPL.out.br).trans (HPL.out.r j hlt 0 (by decide))
            have r1 := (hb.cell (p := ⟨gr, j * 5 + 1, none⟩) HPL.out.br).trans (HPL.out.r j hlt 1 (by decide))
            have r2 := (hb.cell (p := ⟨gr, j * 5 + 2, none⟩) HPL.out.br).trans (HPL.out.r j hlt 2 (by decide))
            have r3 := (hb.cell (p := ⟨gr, j * 5 + 3, none⟩) HPL.out.br).trans (HPL.out.r j hlt 3 (by decide))
            have r4 := (hb.cell (p := ⟨gr, j * 5 + 4, none⟩) HPL.out.br).trans (HPL.out.r j hlt 4 (by decide))
            simp only [reqC, List.getElem?_cons_zero, List.getElem?_cons_succ] at r0 r1 r2 r3 r4
            have d0 := (hb.cell (p := ⟨gd, od + j, none⟩) HPL.out.bd).trans (HPL.out.d j hlt)
            have t0 := (hb.cell (p := ⟨gt, ot + j, none⟩) HPL.out.bt).trans (HPL.out.t j hlt)
            have hSd : St j wr.drew := HGO.out j wr _ hS (Touch.drew _ _)
            have C28 := Lib.hid (HSEND.out j wr.drew hlt hSd)
            have HS := Lib.hid hS
            have HPLN := Lib.hid hpln
            clear hS hpln hSd hb
            go_upto_region 13 with (fail)
            obtain ⟨C, hCd⟩ : ∃ C : World → Prop, ∀ z, C z ↔ (z.cell? ⟨w.heap.size, 0, none⟩ = some (.slice (some ⟨gr, 0, none⟩) n nr) ∧ z.cell? ⟨w.heap.size, 1, none⟩ = some (.slice (some ⟨gd, od, none⟩) n nd) ∧ z.cell? ⟨w.heap.size, 2, none⟩ = some (.slice (some ⟨gt, ot, none⟩) n nt) ∧ z.cell? ⟨gr, j * 5, none⟩ = some (.int .i64 (rq j).1) ∧ z.cell? ⟨gr, j * 5 + 1, none⟩ = some (.int .i64 (rq j).2.1) ∧ z.cell? ⟨gr, j * 5 + 2, none⟩ = some (.int .i64 (rq j).2.2.1) ∧ z.cell? ⟨gr, j * 5 + 3, none⟩ = some (.int .i64 (rq j).2.2.2.1) ∧ z.cell? ⟨gr, j * 5 + 4, none⟩ = some (.slice (rq j).2.2.2.2.1 (rq j).2.2.2.2.2.1 (rq j).2.2.2.2.2.2) ∧ z.cell? ⟨gd, od + j, none⟩ = some (.int .i64 (dev j)) ∧ z.cell? ⟨gt, ot + j, none⟩ = some (.int .i64 (at_ j))) := ⟨_, fun _ => Iff.rfl⟩
            have s0' := fun s : {z : World // C z} => ((hCd s.1).1 s.2).1
            have s1' := fun s : {z : World // C z} => ((hCd s.1).1 s.2).2.1
            have s2' := fun s : {z : World // C z} => ((hCd s.1).1 s.2).2.2.1
            have s3' := fun s : {z : World // C z} => ((hCd s.1).1 s.2).2.2.2.1
            have s4' := fun s : {z : World // C z} => ((hCd s.1).1 s.2).2.2.2.2.1
            have s5' := fun s : {z : World // C z} => ((hCd s.1).1 s.2).2.2.2.2.2.1
            have s6' := fun s : {z : World // C z} => ((hCd s.1).1 s.2).2.2.2.2.2.2.1
            have s7' := fun s : {z : World // C z} => ((hCd s.1).1 s.2).2.2.2.2.2.2.2.1
            have s8' := fun s : {z : World // C z} => ((hCd s.1).1 s.2).2.2.2.2.2.2.2.2.1
            have s9' := fun s : {z : World // C z} => ((hCd s.1).1 s.2).2.2.2.2.2.2.2.2.2
            have hC0 := (hCd wr.drew).2 ⟨y0, y1, y2, r0, r1, r2, r3, r4, d0, t0⟩
            haveI : Nonempty {z : World // C z} := ⟨⟨wr.drew, hC0⟩⟩
            refine Mix.wp_region_mix C [16] (by kernel_rfl) (by kernel_rfl) hC0 ?_
            have HCD := Lib.hid hCd
            have HC0 := Lib.hid hC0
            clear hCd hC0 y0 y1 y2 r0 r1 r2 r3 r4 d0 t0
            repeat (refine Mix.mix_still rfl (fun K hK => ?_); go_simp; refine hK _ ?_; clear hK K)
            refine Mix.mix_eff rfl ?_
            go_wp2_with (go_at_call 28; (with_reducible refine (C28.out).mono ?_); rintro e w4 ⟨rfl, h4, hf4⟩; have H4 := Lib.hid h4; have HF4 := Lib.hid hf4; clear h4 hf4)
            have hb4 : Below w.heap.size w w4 := HST.out _ w4 H4.out
            have hpl4 := (HF4.out _ _ 26 HPLN.out (.inr (.inl rfl))).trans HPLN.out
            have hk4 : ∀ {g j : Nat} {v : Value}, g < w.heap.size → w.cell? ⟨g, j, none⟩ = some v → w4.cell? ⟨g, j, none⟩ = some v := fun hg hv => (hb4.cell (p := ⟨_, _, none⟩) hg).trans hv
            refine ⟨(HCD.out _).2 ⟨(cell_of hpl4 0).trans rfl, (cell_of hpl4 1).trans rfl, (cell_of hpl4 2).trans rfl, hk4 HPL.out.br (HPL.out.r j hlt 0 (by decide)), hk4 HPL.out.br (HPL.out.r j hlt 1 (by decide)), hk4 HPL.out.br (HPL.out.r j hlt 2 (by decide)), hk4 HPL.out.br (HPL.out.r j hlt 3 (by decide)), hk4 HPL.out.br (HPL.out.r j hlt 4 (by decide)), hk4 HPL.out.bd (HPL.out.d j hlt), hk4 HPL.out.bt (HPL.out.t j hlt)⟩, ?_⟩
            have HPL4 := Lib.hid hpl4
            clear hb4 hpl4 hk4
            repeat (refine Mix.mix_still rfl (fun K hK => ?_); go_simp; refine hK _ ?_; clear hK K)
            refine Mix.mix_nil ?_
            go_wp2_with fail
            case roundEnd =>
              have e : wrap64 ((j : Int) + 1) = ((j + 1 : Nat) : Int) := by
                have := HN.out
                unfold wrap64; omega
              refine ⟨⟨j + 1, hlt, by rw [e], rfl, H4.out, HPL4.out⟩, ?_⟩
              rw [e]
              show n - (j + 1) < n - j
              omega
    · as_aux_lemma =>
        have hjn : j = n := by omega
        subst hjn
        have hd : decide ((j : Int) < (j : Int)) = false := by simp
        have C29 := Lib.hid (HUNTIL.out wr hS)
        obtain ⟨i0, hi, hz0, hz1, hz2⟩ := info_parts infoA46
        have HS := Lib.hid hS
        clear hS hpln hlt
        go_wp2_with (first | (go_at_call 29; (with_reducible refine (C29.out).mono ?_); rintro e w5 ⟨⟨va, vn, vc⟩, rs5, rfl, ho5, hs5, hf5⟩; (obtain ⟨va', vc', hve⟩ := own_form ho5.row); (obtain rfl : vn = rs5.length := by injection hve); have hrd5 := Reads.of_own ho5.row; have hbd : rs5.length ≤ 100000 := (by rw [ho5.ans.1]; exact HOS.out); have hsz : w.heap.size ≤ w5.heap.size := (HSE.out _ hs5).size; have HO5 := Lib.hid ho5.ans; have HRD5 := Lib.hid hrd5; have HBD := Lib.hid hbd; have HSZ := Lib.hid hsz; have HS5 := Lib.hid hs5; clear ho5 hs5 hf5 hve hrd5 hbd hsz) |
          (at_builtin; refine wpList_append_any _ rfl _ _ 30 rfl w.heap.size 46 i0 (.agg #[.int .i64 0, .int .i64 0, .int .i64 0, .slice none 0 0]) 4 48 Try.underlying30 hi hz0 hz1 hz2 rfl (by decide) (.slice none 0 0) 0 [] rfl owns_none _ va rs5.length vc (rs5.flatMap encO) rfl HRD5.out (encO_one rs5) (by have := HBD.out; unfold maxLen; omega) (by have := HBD.out; omega) HSZ.out ?_; intro v' w6 hrow6 hgrow6 hloc6; have HROW6 := Lib.hid hrow6; have HGROW6 := Lib.hid hgrow6; clear hrow6 hgrow6 hloc6))
        go_ret3
        have ht6 : Touch w5 w6 (fun _ => False) := (Touch.grown HGROW6.out).mono fun i _ e => by simp [Value.ownBlock] at e
        refine ⟨_, rs5, rfl, HGOE.out w5 w6 HS5.out (ht6.mono fun i _ e => e.elim), ⟨?_, HO5.out.mono fun r o hh => ⟨hh.1, hh.2.1, hh.2.2.1, hh.2.2.2.1, hh.2.2.2.2.keep fun k hk _ => ht6.block k hk id⟩⟩⟩
        have := HROW6.out
        rw [Nat.zero_add, List.nil_append] at this
        exact this
/-- The devices cannot be. -/
theorem handed_none (w : World) (cv : Value) (Ar Ad At : Option Addr) (nR nD nT nr nd nt : Nat) (c : Int) (hc : c ≠ 0)
    (hnew : ∀ W, Below w.heap.size w W → W.heap.size = w.heap.size + 1 → Calls Try.prog 23 #[cv] W fun e w' => e = .returned (.tuple #[.pointer none, .int .i64 c]) ∧ Below W.heap.size W w') (lv : Value) :
    Calls Try.prog 17 #[cv, .agg #[.slice Ar nR nr, .slice Ad nD nd, .slice At nT nt], lv] w fun e w' => e = .returned (.tuple #[.slice none 0 0, .pointer none, .bool false]) ∧ Below w.heap.size w w' := by
  obtain ⟨W, hW⟩ : ∃ W, W = w.alloc (.cells #[.slice Ar nR nr, .slice Ad nD nd, .slice At nT nt] 26) := ⟨_, rfl⟩
  have hbw : Below w.heap.size w W := by rw [hW]; exact (Below.refl _ _).alloc (Nat.le_refl _) _
  have C23 := Lib.hid (hnew W hbw (by rw [hW]; simp))
  have hcn : (c != 0) = true := by simpa using hc
  have HB := Lib.hid hbw
  clear hbw hnew hc
  subst hW
  go_enter Try.func17, Try.ntmps17
  go_wp2_with (go_at_call 23; (with_reducible refine (C23.out).mono ?_); rintro e w1 ⟨rfl, hb1⟩; have HB1 := Lib.hid hb1; clear hb1)
  go_ret3
  exact ⟨rfl, HB.out.trans (HB1.out.mono HB.out.size)⟩
end Go.Proofs.Ytkdnkjjnmadhgaa.Dev

