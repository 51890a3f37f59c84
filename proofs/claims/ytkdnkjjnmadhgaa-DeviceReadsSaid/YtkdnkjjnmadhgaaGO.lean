import Derived.Test.YtkdnkjjnmadhgaaGN
import Derived.Test.YtkdnkjjnmadhgaaFU
/-! DeviceReads (f7): the walk. -/
namespace Go.Proofs.Ytkdnkjjnmadhgaa.Dev
open Go.RowKit Go.Maps Go.Lib

/-- What a request came to. -/
theorem reads_case {n : Nat} {qs : List PQ} {ts : List Int} {i : Nat} {p : PD} {bl : List (List Int)} (hp : p = pdN n qs ts i) (hbl : bl = blN n qs ts i) (h : PDInv n i p bl) (hok : OkN qs ts i) :
    ((pq qs i).do_ = 3 ∧ (ansN n qs ts i).2.2.1 = n ∧ blN n qs ts (i + 1) = bl) ∨
    (((pq qs i).do_ = 1 ∨ (pq qs i).do_ = 2) ∧ ((pq qs i).a_ < 0 ∨ (n : Int) ≤ (pq qs i).a_) ∧ (ansN n qs ts i).2.2.1 = -1 ∧ blN n qs ts (i + 1) = bl) ∨
    ((pq qs i).do_ = 1 ∧ 0 ≤ (pq qs i).a_ ∧ (pq qs i).a_ < (n : Int) ∧ 0 < (pq qs i).data.length ∧ (ansN n qs ts i).2.2.1 = -3 ∧ blN n qs ts (i + 1) = bl) ∨
    ((pq qs i).do_ = 2 ∧ 0 ≤ (pq qs i).a_ ∧ (pq qs i).a_ < (n : Int) ∧ (pq qs i).data.length ≠ 64 ∧ (ansN n qs ts i).2.2.1 = -3 ∧ blN n qs ts (i + 1) = bl) ∨
    ((pq qs i).do_ = 1 ∧ 0 ≤ (pq qs i).a_ ∧ (pq qs i).a_ < (n : Int) ∧ (pq qs i).data.length = 0 ∧ (ansN n qs ts i).2.2.1 = 0 ∧ (∃ x, bl[(pq qs i).a_.toNat]? = some x ∧ (ansN n qs ts i).2.2.2 = bytes x) ∧ blN n qs ts (i + 1) = bl) ∨
    ((pq qs i).do_ = 2 ∧ 0 ≤ (pq qs i).a_ ∧ (pq qs i).a_ < (n : Int) ∧ (pq qs i).data.length = 64 ∧ blN n qs ts (i + 1) = bl.set (pq qs i).a_.toNat (pq qs i).data) := by
  have e1 : blN n qs ts (i + 1) = blF n bl (rqOf qs ts i) (pq qs i).data := by rw [hbl]; rfl
  have e2 : (ansN n qs ts i).2.2.1 = (diskF p (rqOf qs ts i) (bytes (pq qs i).data)).2.2.1 := by rw [hp]; rfl
  have e3 : (ansN n qs ts i).2.2.2 = (diskF p (rqOf qs ts i) (bytes (pq qs i).data)).2.2.2 := by rw [hp]; rfl
  have hd := hok.2.2.1
  have hlen : p.blocks.length = n := by rw [h.blocks, List.length_map, h.len]
  rw [e1, e2, e3]
  have q1 : (rqOf qs ts i).do_ = (pq qs i).do_ := rfl
  have q2 : (rqOf qs ts i).a_ = (pq qs i).a_ := rfl
  unfold diskF blF
  rw [q1, q2, hlen, bytes_len]
  by_cases h3 : (pq qs i).do_ = 3
  · rw [if_pos h3, if_pos (.inl h3)]
    exact .inl ⟨h3, rfl, rfl⟩
  · have h12 : (pq qs i).do_ = 1 ∨ (pq qs i).do_ = 2 := by omega
    rw [if_neg h3]
    by_cases hr : (pq qs i).a_ < 0 ∨ (n : Int) ≤ (pq qs i).a_
    · rw [if_pos hr, if_pos (.inr (.inl hr))]
      exact .inr (.inl ⟨h12, hr, rfl, rfl⟩)
    · rw [if_neg hr]
      have a0 : 0 ≤ (pq qs i).a_ := by omega
      have a1 : (pq qs i).a_ < (n : Int) := by omega
      by_cases hb : ((pq qs i).do_ = 1 ∧ 0 < (pq qs i).data.length) ∨ ((pq qs i).do_ = 2 ∧ (pq qs i).data.length ≠ 64)
      · rw [if_pos hb, if_pos (.inr (.inr (hb.imp id .inl)))]
        rcases hb with ⟨b1, b2⟩ | ⟨b1, b2⟩
        · exact .inr (.inr (.inl ⟨b1, a0, a1, b2, rfl, rfl⟩))
        · exact .inr (.inr (.inr (.inl ⟨b1, a0, a1, b2, rfl, rfl⟩)))
      · rw [if_neg hb, if_neg (show (pq qs i).a_ ∉ p.bad by rw [h.bad]; simp)]
        by_cases h1 : (pq qs i).do_ = 1
        · rw [if_pos h1, if_pos (.inr (.inr (.inr (.inr h1))))]
          have hx : (pq qs i).a_.toNat < bl.length := by rw [h.len]; omega
          refine .inr (.inr (.inr (.inr (.inl ⟨h1, a0, a1, by omega, rfl, ⟨bl[(pq qs i).a_.toNat], List.getElem?_eq_getElem hx, ?_⟩, rfl⟩))))
          show p.blocks.getD _ [] = _
          rw [h.blocks, List.getD_eq_getElem?_getD, List.getElem?_map, List.getElem?_eq_getElem hx]
          rfl
        · rw [if_neg h1, if_neg (by omega)]
          exact .inr (.inr (.inr (.inr (.inr ⟨by omega, a0, a1, by omega, rfl⟩))))
theorem slice_mid (W : World) (g n k : Nat) (hk : k < n) : (Instr.slice 39 (.slice (some ⟨g, 0, none⟩) (64 * n) (64 * n)) (some (.int .i64 (64 * (k : Int)))) (some (.int .i64 (64 * (k : Int) + 64))) none).run Try.prog W = .ok (.slice (some ⟨g, 64 * k, none⟩) 64 (64 * n - 64 * k)) W := by
  have ht : Try.prog.underlying 39 = some (.slice 5) := Try.underlying39
  have ht' : Try.prog.underlying 39 = some (.slice (Try.prog.elem 39)) := by simp [Program.elem, ht]
  have he : Try.prog.elem 39 = 5 := by simp [Program.elem, ht]
  rw [run_slice_lh W 39 _ _ _ ht' .i64 .i64 _ _ (by omega) (by omega) (by omega), he, Try.sizeOf5]
  have e1 : (64 * (k : Int)).toNat = 64 * k := by omega
  have e2 : (64 * (k : Int) + 64).toNat = 64 * k + 64 := by omega
  have e3 : ¬ (64 * n = 64 * k) := by omega
  rw [e1, e2]
  simp only [Result.andThen, sliced, if_neg e3, Option.map_some, Addr.add_lit, Nat.zero_add, Nat.mul_one, Nat.add_sub_cancel_left]
theorem slice_end (W : World) (g n k : Nat) (hk : k < n) : (Instr.slice 39 (.slice (some ⟨g, 0, none⟩) (64 * n) (64 * n)) (some (.int .i64 (64 * (k : Int)))) none none).run Try.prog W = .ok (.slice (some ⟨g, 64 * k, none⟩) (64 * n - 64 * k) (64 * n - 64 * k)) W := by
  have ht : Try.prog.underlying 39 = some (.slice 5) := Try.underlying39
  have ht' : Try.prog.underlying 39 = some (.slice (Try.prog.elem 39)) := by simp [Program.elem, ht]
  have he : Try.prog.elem 39 = 5 := by simp [Program.elem, ht]
  rw [run_slice_l W 39 _ _ _ ht' .i64 _ (by omega) (by omega), he, Try.sizeOf5]
  have e1 : (64 * (k : Int)).toNat = 64 * k := by omega
  have e3 : ¬ (64 * n = 64 * k) := by omega
  rw [e1]
  simp only [Result.andThen, sliced, if_neg e3, Option.map_some, Addr.add_lit, Nat.zero_add, Nat.mul_one]
set_option maxHeartbeats 8000000 in
set_option maxRecDepth 100000 in
/-- Rows that are not of a length: awake() alone. -/
theorem reads_odd (w : World) (blocks : Int) (Ar Ad At : Option Addr) (cr cd ct : Nat) (qs : List PQ) (nd nt : Nat) (hR : InReqs w Ar qs) (hQ : ∀ q ∈ qs, GoodQ w q) (hne : nd ≠ qs.length ∨ nt ≠ qs.length) :
    Calls Try.prog 7 #[.int .i64 blocks, .agg #[.slice Ar qs.length cr, .slice Ad nd cd, .slice At nt ct]] w fun e w' => e = .returned (.bool true) ∧ Below w.heap.size w w' := by
  obtain ⟨W, hW⟩ : ∃ W, W = w.alloc (.cells #[.slice Ar qs.length cr, .slice Ad nd cd, .slice At nt ct] 26) := ⟨_, rfl⟩
  have hbw : Below w.heap.size w W := by rw [hW]; exact (Below.refl _ _).alloc (Nat.le_refl _) _
  have gb : W.heap[w.heap.size]? = some (.cells #[.slice Ar qs.length cr, .slice Ad nd cd, .slice At nt ct] 26 (0, 0)) := by rw [hW]; exact alloc_new _ _
  have hsz := hbw.size
  have C12 := Lib.hid (fun w' => awake_any w')
  have C11 := Lib.hid (long_any W Ar Ad At cr cd ct qs nd nt (fun h0 => by
    obtain ⟨g, off, e, hg, hc⟩ := hR h0
    exact ⟨g, off, e, Nat.lt_of_lt_of_le hg hsz, fun j q hq i u hu => (hbw.cell (p := ⟨g, off + j * 5 + i, none⟩) hg).trans (hc j q hq i u hu)⟩) fun q hq => ⟨((hQ q hq).1.below hbw).more hsz, (hQ q hq).2⟩)
  have HB := Lib.hid hbw
  have GB := Lib.hid gb
  clear hR hQ hsz hbw gb
  by_cases h1 : nd = qs.length
  · have h2 : nt ≠ qs.length := hne.elim (fun h => absurd h1 h) id
    have d1 : (((nd : Int)) != (qs.length : Int)) = false := by simp; omega
    have d2 : (((nt : Int)) != (qs.length : Int)) = true := by simp; omega
    clear h1 h2 hne
    subst hW
    go_enter Try.func7, Try.ntmps7
    go_wp2_with (first | (go_at_call 11; (with_reducible refine (C11.out).mono ?_); rintro e w1 ⟨r, rfl, hb1, hr⟩; have q0 := (cell_of ((hb1.block _ (blt GB.out)).trans GB.out) 0).trans rfl; have q1 := (cell_of ((hb1.block _ (blt GB.out)).trans GB.out) 1).trans rfl; have q2 := (cell_of ((hb1.block _ (blt GB.out)).trans GB.out) 2).trans rfl; have HB1 := Lib.hid hb1; clear hb1 hr; (rcases r with _ | _)) | (go_at_call 12; (with_reducible refine (C12.out _).mono ?_); rintro e w7 ⟨rfl, hb7⟩; have HB7 := Lib.hid hb7; clear hb7))
    all_goals (go_ret; exact ⟨rfl, (HB.out.trans (HB1.out.mono HB.out.size)).trans (HB7.out.mono (HB.out.trans (HB1.out.mono HB.out.size)).size)⟩)
  · have d1 : (((nd : Int)) != (qs.length : Int)) = true := by simp; omega
    clear h1 hne
    subst hW
    go_enter Try.func7, Try.ntmps7
    go_wp2_with (first | (go_at_call 11; (with_reducible refine (C11.out).mono ?_); rintro e w1 ⟨r, rfl, hb1, hr⟩; have q0 := (cell_of ((hb1.block _ (blt GB.out)).trans GB.out) 0).trans rfl; have q1 := (cell_of ((hb1.block _ (blt GB.out)).trans GB.out) 1).trans rfl; have q2 := (cell_of ((hb1.block _ (blt GB.out)).trans GB.out) 2).trans rfl; have HB1 := Lib.hid hb1; clear hb1 hr; (rcases r with _ | _)) | (go_at_call 12; (with_reducible refine (C12.out _).mono ?_); rintro e w7 ⟨rfl, hb7⟩; have HB7 := Lib.hid hb7; clear hb7))
    all_goals (go_ret; exact ⟨rfl, (HB.out.trans (HB1.out.mono HB.out.size)).trans (HB7.out.mono (HB.out.trans (HB1.out.mono HB.out.size)).size)⟩)
theorem tail_zero {ts : List Int} {n : Nat} (hl : ts.length = n) (h : ∀ i, i < n → ts.getD i 0 ≤ 900000000) (i : Nat) : ts.getD i 0 ≤ 900000000 := by
  by_cases hi : i < n
  · exact h i hi
  · rw [List.getD_eq_getElem?_getD, List.getElem?_eq_none (by omega)]
    decide
set_option maxHeartbeats 8000000 in
set_option maxRecDepth 100000 in
theorem reads_good (w : World) (blocks : Int) (Ar Ad At : Option Addr) (cr cd ct : Nat) (qs : List PQ) (ts : List Int) (hR : InReqs w Ar qs) (hQ : ∀ q ∈ qs, GoodQ w q) (hT : InInts w At ts) (hl : ts.length = qs.length) :
    Calls Try.prog 7 #[.int .i64 blocks, .agg #[.slice Ar qs.length cr, .slice Ad qs.length cd, .slice At qs.length ct]] w fun e w' => e = .returned (.bool true) ∧ Below w.heap.size w w' := by
  obtain ⟨W, hW⟩ : ∃ W, W = w.alloc (.cells #[.slice Ar qs.length cr, .slice Ad qs.length cd, .slice At qs.length ct] 26) := ⟨_, rfl⟩
  have hbw : Below w.heap.size w W := by rw [hW]; exact (Below.refl _ _).alloc (Nat.le_refl _) _
  have gb : W.heap[w.heap.size]? = some (.cells #[.slice Ar qs.length cr, .slice Ad qs.length cd, .slice At qs.length ct] 26 (0, 0)) := by rw [hW]; exact alloc_new _ _
  have hsz := hbw.size
  have C12 := Lib.hid (fun w' => awake_any w')
  have C11 := Lib.hid (long_any W Ar Ad At cr cd ct qs qs.length qs.length (fun h0 => by
    obtain ⟨g, off, e, hg, hc⟩ := hR h0
    exact ⟨g, off, e, Nat.lt_of_lt_of_le hg hsz, fun j q hq i u hu => (hbw.cell (p := ⟨g, off + j * 5 + i, none⟩) hg).trans (hc j q hq i u hu)⟩) fun q hq => ⟨((hQ q hq).1.below hbw).more hsz, (hQ q hq).2⟩)
  have HB := Lib.hid hbw
  have GB := Lib.hid gb
  have HR := Lib.hid hR
  have HQ := Lib.hid hQ
  have HT := Lib.hid hT
  have HL := Lib.hid hl
  clear hR hQ hT hl hsz hbw gb
  have d1 : (((qs.length : Int)) != (qs.length : Int)) = false := by simp
  subst hW
  go_enter Try.func7, Try.ntmps7
  go_wp2_with (first | (go_at_call 11; (with_reducible refine (C11.out).mono ?_); rintro e w1 ⟨r, rfl, hb1, hr⟩; have q0 := (cell_of ((hb1.block _ (blt GB.out)).trans GB.out) 0).trans rfl; have q1 := (cell_of ((hb1.block _ (blt GB.out)).trans GB.out) 1).trans rfl; have q2 := (cell_of ((hb1.block _ (blt GB.out)).trans GB.out) 2).trans rfl; have G1 := Lib.hid ((hb1.block _ (blt GB.out)).trans GB.out); have HB1 := Lib.hid hb1; have HRR := Lib.hid hr; clear hb1 hr; (rcases r with _ | _)) | (go_at_call 12; (with_reducible refine (C12.out _).mono ?_); rintro e w7 ⟨rfl, hb7⟩; have HB7 := Lib.hid hb7; clear hb7))
  rotate_left
  · go_ret
    exact ⟨rfl, (HB.out.trans (HB1.out.mono HB.out.size)).trans (HB7.out.mono (HB.out.trans (HB1.out.mono HB.out.size)).size)⟩
  · obtain ⟨hN, _, _, _⟩ := HRR.out trivial
    have HN := Lib.hid hN
    have HBW1 := Lib.hid (HB.out.trans (HB1.out.mono HB.out.size))
    clear hN HRR q0 q1 q2 d1
    go_loopw [6] (fun i wr => ∃ j : Nat, j ≤ qs.length ∧ i = .int .i64 j ∧ (∀ k, k < j → ts.getD k 0 ≤ 900000000) ∧ ∃ vr vd, PlanQ w wr w1.heap.size j j qs vr vd #[.slice Ar qs.length cr, .slice Ad qs.length cd, .slice At qs.length ct] (.slice At qs.length ct)) (fun i _ => qs.length - (intOf i).toNat)
    case atStart =>
      exact ⟨0, Nat.zero_le _, rfl, fun k hk => absurd hk (by omega), (none, 0, 0), (none, 0, 0), ⟨alloc_new _ _, owns_none, owns_none, alloc_old G1.out _, blt G1.out, HBW1.out.alloc HBW1.out.size _⟩⟩
    case round =>
      obtain ⟨j, hj, rfl, htm, vr, vd, hQ⟩ := hrel
      obtain ⟨vr1, vr2, vr3⟩ := vr
      obtain ⟨vd1, vd2, vd3⟩ := vd
      obtain ⟨_, _, e1⟩ := own_form hQ.r
      obtain ⟨_, _, e2⟩ := own_form hQ.d
      obtain rfl : j = vr2 := (by injection e1 : vr2 = j).symm
      obtain rfl : j = vd2 := (by injection e2 : vd2 = j).symm
      clear e1 e2
      have p0 : wr.cell? ⟨w.heap.size, 0, none⟩ = some (.slice Ar qs.length cr) := (cell_of hQ.box 0).trans rfl
      have p2 : wr.cell? ⟨w.heap.size, 2, none⟩ = some (.slice At qs.length ct) := (cell_of hQ.box 2).trans rfl
      by_cases hlt : j < qs.length
      · as_aux_lemma =>
          have hd : decide ((j : Int) < (qs.length : Int)) = true := by simpa using hlt
          have hdn : decide (j < qs.length) = true := by simpa using hlt
          obtain ⟨gr, ro, rfl, hgr, hrc⟩ := HR.out (by omega)
          obtain ⟨gt, ot, rfl, hgt, htc⟩ := HT.out (by rw [HL.out]; omega)
          obtain ⟨q, hq⟩ : ∃ q, qs[j]? = some q := ⟨_, List.getElem?_eq_getElem hlt⟩
          have hpq : pq qs j = q := by unfold pq; rw [List.getD_eq_getElem?_getD, hq]; rfl
          have htj : ts[j]? = some (ts.getD j 0) := by
            have : j < ts.length := by rw [HL.out]; exact hlt
            rw [List.getD_eq_getElem?_getD, List.getElem?_eq_getElem this]; rfl
          have t0 : wr.cell? ⟨gt, ot + j, none⟩ = some (.int .i64 (ts.getD j 0)) := (hQ.below.cell (p := ⟨gt, ot + j, none⟩) hgt).trans (htc j _ htj)
          obtain ⟨tj, htjd⟩ : ∃ tj, tj = ts.getD j 0 := ⟨_, rfl⟩
          rw [← htjd] at t0
          have HTJ := Lib.hid htjd
          clear htjd htj
          by_cases hbig : 900000000 < tj
          · as_aux_lemma =>
              have dt : decide (900000000 < tj) = true := by simpa using hbig
              have HB := Lib.hid hQ.below
              clear hQ hrc htc hq hbig htm
              go_wp2_with (go_at_call 12; (with_reducible refine (C12.out _).mono ?_); rintro e w7 ⟨rfl, hb7⟩; have HB7 := Lib.hid hb7; clear hb7)
              go_ret
              exact ⟨rfl, HB.out.trans (HB7.out.mono HB.out.size)⟩
          · as_aux_lemma =>
              have dt : decide (900000000 < tj) = false := by simpa using hbig
              have rr : ∀ i u, (cellsPQ q)[i]? = some u → wr.cell? ⟨gr, ro + j * 5 + i, none⟩ = some u := fun i u hu => (hQ.below.cell (p := ⟨gr, ro + j * 5 + i, none⟩) hgr).trans (hrc j q hq i u hu)
              have r0 : wr.cell? ⟨gr, ro + j * 5, none⟩ = some (.int .i64 q.pk) := rr 0 _ rfl
              have r1 : wr.cell? ⟨gr, ro + j * 5 + 1, none⟩ = some (.int .i64 q.do_) := rr 1 _ rfl
              have r2 : wr.cell? ⟨gr, ro + j * 5 + 2, none⟩ = some (.int .i64 q.a_) := rr 2 _ rfl
              have r3 : wr.cell? ⟨gr, ro + j * 5 + 3, none⟩ = some (.int .i64 q.b_) := rr 3 _ rfl
              have r4 : wr.cell? ⟨gr, ro + j * 5 + 4, none⟩ = some (.slice q.dv.1 q.dv.2.1 q.dv.2.2) := rr 4 _ rfl
              have HQ1 := Lib.hid hQ
              have HPQ := Lib.hid hpq
              have HTM := Lib.hid htm
              have HBIG := Lib.hid hbig
              have HLT := Lib.hid hlt
              clear hQ hrc htc hq hbig hlt htm rr hpq hgr hgt
              go_upto_region 11 with (fail)
              obtain ⟨W2, hW2⟩ : ∃ W2, W2 = wr.alloc (.cells #[.int .i64 ((j : Int) + 1), .int .i64 q.do_, .int .i64 q.a_, .int .i64 q.b_, .slice q.dv.1 q.dv.2.1 q.dv.2.2] 41) := ⟨_, rfl⟩
              rw [← hW2]
              have hb2 : Below wr.heap.size wr W2 := by rw [hW2]; exact (Below.refl _ _).alloc (Nat.le_refl _) _
              have g2 : W2.heap[wr.heap.size]? = some (.cells #[.int .i64 ((j : Int) + 1), .int .i64 q.do_, .int .i64 q.a_, .int .i64 q.b_, .slice q.dv.1 q.dv.2.1 q.dv.2.2] 41 (0, 0)) := by rw [hW2]; exact alloc_new _ _
              have z0 : W2.cell? ⟨wr.heap.size, 0, none⟩ = some (.int .i64 ((j : Int) + 1)) := (cell_of g2 0).trans rfl
              have z1 : W2.cell? ⟨wr.heap.size, 1, none⟩ = some (.int .i64 q.do_) := (cell_of g2 1).trans rfl
              have z2 : W2.cell? ⟨wr.heap.size, 2, none⟩ = some (.int .i64 q.a_) := (cell_of g2 2).trans rfl
              have z3 : W2.cell? ⟨wr.heap.size, 3, none⟩ = some (.int .i64 q.b_) := (cell_of g2 3).trans rfl
              have z4 : W2.cell? ⟨wr.heap.size, 4, none⟩ = some (.slice q.dv.1 q.dv.2.1 q.dv.2.2) := (cell_of g2 4).trans rfl
              have q0 : W2.cell? ⟨w1.heap.size, 0, none⟩ = some (.slice vr1 j vr3) := (cell_of ((hb2.block _ (blt HQ1.out.pc)).trans HQ1.out.pc) 0).trans rfl
              have HB2 := Lib.hid hb2
              clear hb2 g2 p0 p2 t0 r0 r1 r2 r3 r4 hW2
              obtain ⟨i0, hi, hz0, hz1, hz2⟩ := info_parts infoC41
              go_upto_region 12 with (first | (refine wpList_build1 _ rfl (.tmp 64) 23 41 rfl #[.int .i64 ((j : Int) + 1), .int .i64 q.do_, .int .i64 q.a_, .int .i64 q.b_, .slice q.dv.1 q.dv.2.1 q.dv.2.2] rfl (build41 _ _ _ _ _ _) ?_) | (at_builtin; refine wpList_append_any _ rfl _ _ 23 rfl w.heap.size 41 i0 (.agg #[.int .i64 0, .int .i64 0, .int .i64 0, .int .i64 0, .slice none 0 0]) 5 56 Try.underlying23 hi hz0 hz1 hz2 rfl (by decide) (slv (vr1, j, vr3)) j _ rfl (own_keep HQ1.out.r fun k _ hl => (Below.heap_alloc _ _ _ (Nat.lt_of_lt_of_le hl HB2.out.size)).trans (HB2.out.block k hl)) _ (some ⟨_, 0, none⟩) 1 1 [.int .i64 ((j : Int) + 1), .int .i64 q.do_, .int .i64 q.a_, .int .i64 q.b_, .slice q.dv.1 q.dv.2.1 q.dv.2.2] rfl (new_reads5 _ _ _ _ _ _ _) (one5 _ _ _ _ q.dv) (by have := HN.out; have := HLT.out; unfold maxLen; omega) (by have := HN.out; have := HLT.out; omega) (by rw [World.size_alloc]; have := HQ1.out.below.size; have := HB2.out.size; omega) ?_; intro v9 w9 hrow9 hgrow9 hloc9; (obtain ⟨A9, c9, rfl⟩ := own_form hrow9); have hbx := HB2.out.alloc HB2.out.size (.cells #[.int .i64 ((j : Int) + 1), .int .i64 q.do_, .int .i64 q.a_, .int .i64 q.b_, .slice q.dv.1 q.dv.2.1 q.dv.2.2] 41); have hpc9 := (HQ1.out.keep_ hbx (x := (vr1, j, vr3)) hgrow9 fun g hg => (by obtain ⟨h1, cur, h2⟩ := own_block HQ1.out.r hg; exact ⟨h1, cur, 41, h2, .inl rfl⟩)).2.1; have q0' : w9.cell? ⟨w1.heap.size, 0, none⟩ = some (.slice vr1 j vr3) := (cell_of hpc9 0).trans rfl; have qf : w9.frozen? ⟨w1.heap.size, 0, none⟩ = false := free_of hpc9 0; have HQ2 := Lib.hid (HQ1.out.addr hbx hgrow9 (by rw [rqR, HPQ.out]; exact hrow9)); clear hrow9 hgrow9 hloc9 hpc9 hbx))
              obtain ⟨W3, hW3⟩ : ∃ W3, W3 = w9.setCell ⟨w1.heap.size, 0, none⟩ (.slice A9 (j + 1) c9) := ⟨_, rfl⟩
              rw [← hW3]
              have hQ3 := HQ2.out
              rw [← hW3] at hQ3
              have q1 : W3.cell? ⟨w1.heap.size, 1, none⟩ = some (.slice vd1 j vd3) := (cell_of hQ3.pc 1).trans rfl
              have HQ3 := Lib.hid hQ3
              clear hQ3 HQ2 hW3 q0 q0' qf z0 z1 z2 z3 z4
              obtain ⟨i1, hi1, hy0, hy1, hy2⟩ := info_parts info3
              go_wp2_with (at_builtin; refine wpList_append_any _ rfl _ _ 24 rfl w.heap.size 3 i1 (.int .i64 0) 1 8 Try.underlying24 hi1 hy0 hy1 hy2 rfl (by decide) (slv (vd1, j, vd3)) j _ rfl (own_keep HQ3.out.d fun k _ hl => Below.heap_alloc _ _ _ hl) _ (some ⟨_, 0, none⟩) 1 1 [.int .i64 1] rfl (new_reads _ _ _) (fun u hu => by simp at hu; subst hu; rfl) (by have := HN.out; have := HLT.out; unfold maxLen; omega) (by have := HN.out; have := HLT.out; omega) (by rw [World.size_alloc]; have := HQ3.out.below.size; omega) ?_; intro v9 w10 hrow9 hgrow9 hloc9; (obtain ⟨A11, c11, rfl⟩ := own_form hrow9); have hbx := (Below.refl W3.heap.size W3).alloc (Nat.le_refl _) (.cells #[.int .i64 1] 3); have hpc9 := (HQ3.out.keep_ hbx (x := (vd1, j, vd3)) hgrow9 fun g hg => (by obtain ⟨h1, cur, h2⟩ := own_block HQ3.out.d hg; exact ⟨h1, cur, 3, h2, .inr rfl⟩)).2.1; have q1' : w10.cell? ⟨w1.heap.size, 1, none⟩ = some (.slice vd1 j vd3) := (cell_of hpc9 1).trans rfl; have qf1 : w10.frozen? ⟨w1.heap.size, 1, none⟩ = false := free_of hpc9 1; have HQ4 := Lib.hid (HQ3.out.addd hbx hgrow9 hrow9); clear hrow9 hgrow9 hloc9 hpc9 hbx)
              case roundEnd =>
                refine ⟨⟨j + 1, HLT.out, rfl, fun k hk => ?_, _, _, HQ4.out⟩, ?_⟩
                · by_cases hkj : k = j
                  · subst hkj
                    have := HBIG.out
                    rw [HTJ.out] at this
                    omega
                  · exact HTM.out k (by omega)
                · show qs.length - (j + 1) < qs.length - j
                  have := HLT.out
                  omega
      · as_aux_lemma =>
          obtain rfl : qs.length = j := by omega
          have hd : decide ((qs.length : Int) < (qs.length : Int)) = false := by simp
          have y0 : wr.cell? ⟨w1.heap.size, 0, none⟩ = some (.slice vr1 qs.length vr3) := (cell_of hQ.pc 0).trans rfl
          have y1 : wr.cell? ⟨w1.heap.size, 1, none⟩ = some (.slice vd1 qs.length vd3) := (cell_of hQ.pc 1).trans rfl
          have y2 : wr.cell? ⟨w1.heap.size, 2, none⟩ = some (.slice At qs.length ct) := (cell_of hQ.pc 2).trans rfl
          have z0 := Lib.cell?_alloc_some (.cells #[.int .i64 2, .int .i64 blocks, nilSl, nilSl, nilSl, nilSl] 54) y0
          have z1 := Lib.cell?_alloc_some (.cells #[.int .i64 2, .int .i64 blocks, nilSl, nilSl, nilSl, nilSl] 54) y1
          have z2 := Lib.cell?_alloc_some (.cells #[.int .i64 2, .int .i64 blocks, nilSl, nilSl, nilSl, nilSl] 54) y2
          have htm' := tail_zero HL.out htm
          have C17 := Lib.hid (reads_call blocks hQ HN.out HQ.out HT.out HL.out htm')
          have HQ1 := Lib.hid hQ
          have HTM := Lib.hid htm'
          clear hQ htm htm' hlt hj
          go_upto_region 16 with (first | (refine wpList_build1 _ rfl (.tmp 75) 22 54 rfl #[.int .i64 2, .int .i64 blocks, nilSl, nilSl, nilSl, nilSl] rfl (build54 _ _ _) ?_) | (go_at_call 17; (with_reducible refine (C17.out).mono ?_); rintro e w5 ⟨hb5, hor⟩; have HB5 := Lib.hid hb5; clear hb5 y0 y1 y2 z0 z1 z2 p0 p2; (rcases hor with rfl | ⟨n, Av, cv, rs, b, B5, rfl, rfl, hg⟩)) | (go_at_call 12; (with_reducible refine (C12.out _).mono ?_); rintro e w7 ⟨rfl, hb7⟩; have HB7 := Lib.hid hb7; clear hb7))
          · go_ret
            have h1 := HQ1.out.below.trans (HB5.out.mono HQ1.out.below.size)
            exact ⟨rfl, h1.trans (HB7.out.mono h1.size)⟩
          · have HG := Lib.hid hg
            have hb0 : Below w.heap.size w w5 := HQ1.out.below.trans (HB5.out.mono HQ1.out.below.size)
            have HB0 := Lib.hid hb0
            have hn := hg.n256
            have mk : ∀ W : World, (Instr.makeSlice 39 (.int .i64 (64 * (n : Int))) (.int .i64 (64 * (n : Int)))).run Try.prog W = .ok (.slice (some ⟨W.heap.size, 0, none⟩) (64 * n) (64 * n)) (W.alloc (.cells (bytes (List.replicate (64 * n) 0)).toArray 5)) := fun W => by
              have h := make_bytes (64 * n) (by omega) W
              rwa [show ((64 * n : Nat) : Int) = 64 * (n : Int) by omega] at h
            have HN256 := Lib.hid hn
            clear hg hb0 C17 hd
            go_wp2_with fail
            have hpc5 := (HB5.out.block _ (blt HQ1.out.pc)).trans HQ1.out.pc
            have hr5 : w5.ownsRow w.heap.size 41 5 (.slice vr1 qs.length vr3) (List.range qs.length).length ((List.range qs.length).flatMap fun i => reqC (rqR qs i)) := by
              rw [List.length_range]
              exact own_keep HQ1.out.r fun k _ hl => HB5.out.block k hl
            have HPC5 := Lib.hid hpc5
            have HR5 := Lib.hid hr5
            have hinv : ∀ i, i ≤ qs.length → PDInv n i (pdN n qs ts i) (blN n qs ts i) := fun i hi => road_inv hn (fun i => (pq_good HQ.out i).2) HTM.out fun j hj => HG.out.ok j (by omega)
            have HINV := Lib.hid hinv
            clear hpc5 hr5 hinv mk hn
            go_loopw [12] (fun i wx => ∃ j : Nat, j ≤ qs.length ∧ i = .int .i64 j ∧ DiskRow wx w5.heap.size (blN n qs ts j).flatten ∧ Below w5.heap.size w5 wx) (fun i _ => qs.length - (intOf i).toNat)
            case atStart =>
              refine ⟨0, Nat.zero_le _, rfl, ?_, (Below.refl _ _).alloc (Nat.le_refl _) _⟩
              have h := alloc_new w5 (.cells (bytes (List.replicate (64 * n) 0)).toArray 5)
              unfold DiskRow
              rw [h]
              show _ = some (Obj.cells (bytes (List.replicate n (List.replicate 64 0)).flatten).toArray 5 (0, 0))
              rw [flat_zero]
            case round =>
              obtain ⟨j, hj, rfl, hrow, hbel⟩ := hrel
              obtain ⟨wy, hwy⟩ : ∃ wy, wy = wr := ⟨_, rfl⟩
              rw [← hwy] at hrow hbel ⊢
              clear hwy
              have hrl : rs.length = qs.length := by rw [HG.out.ans.1]; simp
              by_cases hlt : j < qs.length
              · as_aux_lemma =>
                  have hd : decide ((j : Int) < (qs.length : Int)) = true := by simpa using hlt
                  have hd2 : decide ((qs.length : Int) ≤ (j : Int)) = false := by simp; omega
                  rw [hrl]
                  obtain ⟨x, hx⟩ : ∃ x, rs[j]? = some x := ⟨_, List.getElem?_eq_getElem (by omega)⟩
                  have ho : ((List.range qs.length).map (ansN n qs ts))[j]? = some (ansN n qs ts j) := by rw [List.getElem?_map, List.getElem?_range hlt]; rfl
                  obtain ⟨g, c', hv, ⟨cg, hcg⟩, hcell⟩ := row_cells (f := encO) (fun _ => rfl) HG.out.row hx
                  obtain rfl : Av = some ⟨g, 0, none⟩ := by injection hv
                  obtain ⟨p1, p2, p3, p4, p5⟩ := HG.out.ans.2 j x _ hx ho
                  have hgl := blt hcg
                  have x0 : wy.cell? ⟨g, j * 4, none⟩ = some (.int .i64 ((j : Int) + 1)) := (hbel.cell (p := ⟨g, j * 4, none⟩) hgl).trans ((hcell 0 (by omega)).trans (by show some (Value.int .i64 x.pk) = _; rw [p1]; rfl))
                  have x2 : wy.cell? ⟨g, j * 4 + 2, none⟩ = some (.int .i64 (ansN n qs ts j).2.2.1) := (hbel.cell (p := ⟨g, j * 4 + 2, none⟩) hgl).trans ((hcell 2 (by omega)).trans (by rw [← p3]; rfl))
                  have x3 : wy.cell? ⟨g, j * 4 + 3, none⟩ = some (.slice x.dv.1 x.dv.2.1 x.dv.2.2) := (hbel.cell (p := ⟨g, j * 4 + 3, none⟩) hgl).trans ((hcell 3 (by omega)).trans rfl)
                  obtain ⟨gq, cq', hvq, ⟨cq, hcq⟩, hqc⟩ := row_cells (f := fun i => reqC (rqR qs i)) (fun _ => rfl) HR5.out (show (List.range qs.length)[j]? = some j from List.getElem?_range hlt)
                  obtain rfl : vr1 = some ⟨gq, 0, none⟩ := by injection hvq
                  have hql := blt hcq
                  have r0 : wy.cell? ⟨gq, j * 5, none⟩ = some (.int .i64 ((j : Int) + 1)) := (hbel.cell (p := ⟨gq, j * 5, none⟩) hql).trans (hqc 0 (by omega))
                  have r1 : wy.cell? ⟨gq, j * 5 + 1, none⟩ = some (.int .i64 (pq qs j).do_) := (hbel.cell (p := ⟨gq, j * 5 + 1, none⟩) hql).trans (hqc 1 (by omega))
                  have r2 : wy.cell? ⟨gq, j * 5 + 2, none⟩ = some (.int .i64 (pq qs j).a_) := (hbel.cell (p := ⟨gq, j * 5 + 2, none⟩) hql).trans (hqc 2 (by omega))
                  have r3 : wy.cell? ⟨gq, j * 5 + 3, none⟩ = some (.int .i64 (pq qs j).b_) := (hbel.cell (p := ⟨gq, j * 5 + 3, none⟩) hql).trans (hqc 3 (by omega))
                  have r4 : wy.cell? ⟨gq, j * 5 + 4, none⟩ = some (.slice (pq qs j).dv.1 (pq qs j).dv.2.1 (pq qs j).dv.2.2) := (hbel.cell (p := ⟨gq, j * 5 + 4, none⟩) hql).trans (hqc 4 (by omega))
                  have q0 : wy.cell? ⟨w1.heap.size, 0, none⟩ = some (.slice (some ⟨gq, 0, none⟩) qs.length vr3) := (hbel.cell (p := ⟨w1.heap.size, 0, none⟩) (blt HPC5.out)).trans ((cell_of HPC5.out 0).trans rfl)
                  have hgq : GoodQ w (pq qs j) := pq_good HQ.out j
                  have hcase := reads_case rfl rfl (HINV.out j (by omega)) (HG.out.ok j hlt)
                  generalize (ansN n qs ts j).2.2.1 = res at *
                  generalize (ansN n qs ts j).2.2.2 = ad at *
                  generalize pq qs j = q at *
                  have HCASE := Lib.hid hcase
                  have HROW := Lib.hid hrow
                  have HBEL := Lib.hid hbel
                  have HP5 := Lib.hid p5
                  have hdl : q.dv.2.1 = q.data.length := by rw [← hgq.1.1, bytes_len]
                  have HGQ := Lib.hid hgq
                  have HDL := Lib.hid hdl
                  have HLT := Lib.hid hlt
                  clear hcase hrow hbel hx ho hv hcg hcell p1 p2 p3 p4 p5 hgl hvq hcq hqc hql hrl hgq hdl hlt
                  go_upto_region 24 with (fail)
                  obtain ⟨W7, hW7⟩ : ∃ W7, W7 = wy.alloc (.cells #[.int .i64 ((j : Int) + 1), .int .i64 q.do_, .int .i64 q.a_, .int .i64 q.b_, .slice q.dv.1 q.dv.2.1 q.dv.2.2] 41) := ⟨_, rfl⟩
                  rw [← hW7]
                  have hb7 : Below wy.heap.size wy W7 := by rw [hW7]; exact (Below.refl _ _).alloc (Nat.le_refl _) _
                  have g7 : W7.heap[wy.heap.size]? = some (.cells #[.int .i64 ((j : Int) + 1), .int .i64 q.do_, .int .i64 q.a_, .int .i64 q.b_, .slice q.dv.1 q.dv.2.1 q.dv.2.2] 41 (0, 0)) := by rw [hW7]; exact alloc_new _ _
                  have z1 : W7.cell? ⟨wy.heap.size, 1, none⟩ = some (.int .i64 q.do_) := (cell_of g7 1).trans rfl
                  have z2 : W7.cell? ⟨wy.heap.size, 2, none⟩ = some (.int .i64 q.a_) := (cell_of g7 2).trans rfl
                  have z4 : W7.cell? ⟨wy.heap.size, 4, none⟩ = some (.slice q.dv.1 q.dv.2.1 q.dv.2.2) := (cell_of g7 4).trans rfl
                  have y2 : W7.cell? ⟨g, j * 4 + 2, none⟩ = some (.int .i64 res) := (hb7.cell (p := ⟨g, j * 4 + 2, none⟩) (lt_of_cell x2)).trans x2
                  have y3 : W7.cell? ⟨g, j * 4 + 3, none⟩ = some (.slice x.dv.1 x.dv.2.1 x.dv.2.2) := (hb7.cell (p := ⟨g, j * 4 + 3, none⟩) (lt_of_cell x3)).trans x3
                  have hrow7 : DiskRow W7 w5.heap.size (blN n qs ts j).flatten := (hb7.block _ (blt HROW.out)).trans HROW.out
                  have hbel7 : Below w5.heap.size w5 W7 := HBEL.out.trans (hb7.mono HBEL.out.size)
                  have hbs : wy.heap.size ≠ w5.heap.size := by have := blt HROW.out; omega
                  have hlt := HLT.out
                  have HROW7 := Lib.hid hrow7
                  have HBEL7 := Lib.hid hbel7
                  have HBS := Lib.hid hbs
                  have G7 := Lib.hid g7
                  clear hb7 g7 x0 x2 x3 r0 r1 r2 r3 r4 q0 hW7 hrow7 hbel7 hbs
                  rcases HCASE.out with ⟨c1, c2, c3⟩ | ⟨c1, c2, c3, c4⟩ | ⟨c1, c2, c3, c4, c5, c6⟩ | ⟨c1, c2, c3, c4, c5, c6⟩ | ⟨c1, c2, c3, c4, c5, c6, c7⟩ | ⟨c1, c2, c3, c4, c5⟩
                  all_goals clear HCASE
                  · as_aux_lemma =>
                      rw [c1] at z1
                      rw [c2] at y2
                      have CE := Lib.hid c3
                      clear c1 c2 c3
                      go_wp2_with fail
                      case roundEnd =>
                        refine ⟨⟨j + 1, HLT.out, rfl, by rw [CE.out]; exact HROW7.out, HBEL7.out⟩, ?_⟩
                        show qs.length - (j + 1) < qs.length - j
                        have := HLT.out
                        omega
                  · as_aux_lemma =>
                      rw [c3] at y2
                      have CE := Lib.hid c4
                      clear c3 c4
                      by_cases ha : q.a_ < 0
                      · have d1 : decide (q.a_ < 0) = true := by simpa using ha
                        clear c2 ha
                        rcases c1 with c1 | c1
                        all_goals
                          rw [c1] at z1
                          clear c1
                          go_wp2_with fail
                          case roundEnd =>
                            refine ⟨⟨j + 1, HLT.out, rfl, by rw [CE.out]; exact HROW7.out, HBEL7.out⟩, ?_⟩
                            show qs.length - (j + 1) < qs.length - j
                            have := HLT.out
                            omega
                      · have d1 : decide (q.a_ < 0) = false := by simpa using ha
                        have d2 : decide ((n : Int) ≤ q.a_) = true := by simp; omega
                        clear c2 ha
                        rcases c1 with c1 | c1
                        all_goals
                          rw [c1] at z1
                          clear c1
                          go_wp2_with fail
                          case roundEnd =>
                            refine ⟨⟨j + 1, HLT.out, rfl, by rw [CE.out]; exact HROW7.out, HBEL7.out⟩, ?_⟩
                            show qs.length - (j + 1) < qs.length - j
                            have := HLT.out
                            omega
                  · as_aux_lemma =>
                      rw [c1] at z1
                      have d1 : decide (q.a_ < 0) = false := by simpa using c2
                      have d2 : decide ((n : Int) ≤ q.a_) = false := by simp; omega
                      rw [c5] at y2
                      have d3 : 0 < q.dv.2.1 := by rw [HDL.out]; exact c4
                      have d4 : decide (0 < q.dv.2.1) = true := by simpa using d3
                      have CE := Lib.hid c6
                      clear c1 c2 c3 c4 c5 c6
                      go_wp2_with fail
                      case roundEnd =>
                        refine ⟨⟨j + 1, HLT.out, rfl, by rw [CE.out]; exact HROW7.out, HBEL7.out⟩, ?_⟩
                        show qs.length - (j + 1) < qs.length - j
                        have := HLT.out
                        omega
                  · as_aux_lemma =>
                      rw [c1] at z1
                      have d1 : decide (q.a_ < 0) = false := by simpa using c2
                      have d2 : decide ((n : Int) ≤ q.a_) = false := by simp; omega
                      rw [c5] at y2
                      have d3 : (((q.dv.2.1 : Int)) != 64) = true := by rw [HDL.out]; simp; omega
                      have CE := Lib.hid c6
                      clear c1 c2 c3 c4 c5 c6
                      go_wp2_with fail
                      case roundEnd =>
                        refine ⟨⟨j + 1, HLT.out, rfl, by rw [CE.out]; exact HROW7.out, HBEL7.out⟩, ?_⟩
                        show qs.length - (j + 1) < qs.length - j
                        have := HLT.out
                        omega
                  · as_aux_lemma =>
                      rw [c1] at z1
                      rw [c5] at y2
                      obtain ⟨xb, hxb, hadx⟩ := c6
                      obtain ⟨k, hk⟩ : ∃ k : Nat, q.a_ = k := ⟨q.a_.toNat, by omega⟩
                      have hkn : k < n := by omega
                      rw [hk] at z2 hxb
                      rw [Int.toNat_natCast] at hxb
                      have hl0 : q.dv.2.1 = 0 := by rw [HDL.out]; exact c4
                      rw [hl0] at z4
                      have hi := HINV.out j (Nat.le_of_lt hlt)
                      have hx64 := hi.l64 xb (List.mem_of_getElem? hxb)
                      have hp5 := HP5.out
                      rw [hadx] at hp5
                      have C21 := Lib.hid (fun m => eq_bytes (W7.drewN m) (max B5 w5.heap.size) x.dv (some ⟨w5.heap.size, 64 * k, none⟩, 64, 64 * n - 64 * k) xb (((hp5.below HBEL7.out).more (Nat.le_max_left _ _)).keep fun _ _ _ => rfl) (((HROW7.out.sub hi.l64 hxb (max B5 w5.heap.size)).keep fun _ _ _ => rfl)) (by omega))
                      have sl := fun W => slice_mid W w5.heap.size n k hkn
                      have d1 : decide ((k : Int) < 0) = false := by simp
                      have d2 : decide ((n : Int) ≤ (k : Int)) = false := by simp; omega
                      have d2' : decide (n ≤ k) = false := by simp; omega
                      have hn := HN256.out
                      have k1 : IntKind.i64.wrap (64 * (k : Int)) = 64 * (k : Int) := by rw [IntKind.wrap_i64]; omega
                      have k2 : IntKind.i64.wrap (64 * (k : Int) + 64) = 64 * (k : Int) + 64 := by rw [IntKind.wrap_i64]; omega
                      have CE := Lib.hid c7
                      have HN1 := Lib.hid hn
                      clear c1 c2 c3 c4 c5 c7 hxb hadx hk hl0 hi hx64 hp5 hn
                      go_upto_region 31 with (fail)
                      go_quiet (refine Calls.quiet_of (C21.out _))
                      go_wp2_with fail
                      case roundEnd =>
                        refine ⟨⟨j + 1, HLT.out, rfl, by rw [CE.out]; exact HROW7.out, below_drewN HBEL7.out _⟩, ?_⟩
                        show qs.length - (j + 1) < qs.length - j
                        have := HLT.out
                        omega
                  · as_aux_lemma =>
                      rw [c1] at z1
                      obtain ⟨k, hk⟩ : ∃ k : Nat, q.a_ = k := ⟨q.a_.toNat, by omega⟩
                      have hkn : k < n := by omega
                      rw [hk] at z2 c5
                      rw [Int.toNat_natCast] at c5
                      have hl0 : q.dv.2.1 = 64 := by rw [HDL.out]; exact c4
                      rw [hl0] at z4
                      have hi := HINV.out j (Nat.le_of_lt hlt)
                      have hlen := hi.len
                      have hqd : Held w.heap.size 5 W7.drew q.dv (bytes q.data) := (HGQ.out.1.below (HB0.out.trans (HBEL7.out.mono HB0.out.size))).keep fun _ _ _ => rfl
                      obtain ⟨W8, hrun, hrow8, ht8⟩ := copy_into (w := W7.drew) (B := w.heap.size) (g := w5.heap.size) (a := k) (m := n) (bl := blN n qs ts j) HROW7.out hi.l64 (by omega) hlen hqd c4 3 (64 * n - 64 * k)
                      have sl := fun W => slice_end W w5.heap.size n k hkn
                      have d1 : decide ((k : Int) < 0) = false := by simp
                      have d2 : decide ((n : Int) ≤ (k : Int)) = false := by simp; omega
                      have d2' : decide (n ≤ k) = false := by simp; omega
                      have hn := HN256.out
                      have k1 : IntKind.i64.wrap (64 * (k : Int)) = 64 * (k : Int) := by rw [IntKind.wrap_i64]; omega
                      have CE := Lib.hid c5
                      have HN1 := Lib.hid hn
                      have HRUN := Lib.hid hrun
                      have HROW8 := Lib.hid hrow8
                      have HT8 := Lib.hid ht8
                      have HSL := Lib.hid hl0
                      clear c1 c2 c3 c4 c5 hk hi hlen hqd hn hrun hrow8 ht8 hl0
                      go_upto_region 23 with (fail)
                      obtain ⟨C, hCd⟩ : ∃ C : World → Prop, ∀ z, C z ↔ (z.cell? ⟨wy.heap.size, 2, none⟩ = some (.int .i64 (k : Int)) ∧ z.cell? ⟨wy.heap.size, 4, none⟩ = some (.slice q.dv.1 64 q.dv.2.2)) := ⟨_, fun _ => Iff.rfl⟩
                      have s0 := fun s : {z : World // C z} => ((hCd s.1).1 s.2).1
                      have s1 := fun s : {z : World // C z} => ((hCd s.1).1 s.2).2
                      have hC0 := (hCd W7.drew).2 ⟨z2, z4⟩
                      haveI : Nonempty {z : World // C z} := ⟨⟨W7.drew, hC0⟩⟩
                      refine Mix.wp_region_mix C [7] (by kernel_rfl) (by kernel_rfl) hC0 ?_
                      have HCD := Lib.hid hCd
                      clear hCd hC0
                      repeat (refine Mix.mix_still rfl (fun K hK => ?_); go_simp; refine hK _ ?_; clear hK K)
                      refine Mix.mix_eff rfl ?_
                      have hrun := HRUN.out
                      rw [show slv q.dv = .slice q.dv.1 64 q.dv.2.2 by rw [← HSL.out]] at hrun
                      refine Lib.wpList_copy_run _ rfl _ _ 39 39 rfl _ _ rfl rfl hrun ?_
                      have hk8 : ∀ {i : Nat} {v : Value}, W7.cell? ⟨wy.heap.size, i, none⟩ = some v → W8.cell? ⟨wy.heap.size, i, none⟩ = some v := fun hx => (World.cell?_of_block (a := ⟨_, _, none⟩) (HT8.out.block _ (lt_of_cell hx) HBS.out)).trans hx
                      refine wpList_nil ⟨rfl, .inr ((HCD.out W8).2 ⟨hk8 z2, hk8 z4⟩), ?_⟩
                      clear hk8 z1 z2 z4 y2 y3 s0 s1 hrun
                      refine Mix.mix_nil ?_
                      go_wp2_with fail
                      case roundEnd =>
                        refine ⟨⟨j + 1, HLT.out, rfl, by rw [CE.out]; exact HROW8.out, ?_⟩, ?_⟩
                        · have h7 : Below w5.heap.size w5 W7.drew := HBEL7.out.drew
                          exact h7.trans (HT8.out.below h7.size fun k hk => by rw [hk]; exact Nat.le_refl _)
                        · show qs.length - (j + 1) < qs.length - j
                          have := HLT.out
                          omega
              · as_aux_lemma =>
                  obtain rfl : qs.length = j := by omega
                  have hd : decide ((qs.length : Int) < (qs.length : Int)) = false := by simp
                  rw [hrl]
                  have hi := HINV.out qs.length (Nat.le_refl _)
                  have h16 := HG.out.n16
                  have h256 := HN256.out
                  have hN := HN.out
                  obtain ⟨d, bm, dm, hs, hnow⟩ := HG.out.sys
                  have hsy : Sys B5 wy b d bm dm (pdN n qs ts qs.length) := hs.keep fun k hl _ => hbel.block k hl
                  have hB5 : B5 ≤ wy.heap.size := by
                    have := hsy.bus.low
                    have := blt hsy.bus.cells
                    omega
                  have hat := disk_at wy B5 d dm _ hsy.disk 1000000000 n hi.old (by omega) (by omega) (fun x hx => ⟨(hi.wr x hx).1, (hi.wr x hx).2.1⟩) (by have := hi.wl; omega) (blN n qs ts qs.length) ((hi.now 1000000000 fun x hx => by have := (hi.wr x hx).2.2; have := hi.free1; omega).trans hi.blocks) hi.byt hi.l64 hB5
                  have C22 := Lib.hid (disk_bytes wy B5 b d bm hsy.bus 1 (by decide) (by rw [hsy.ds]; rfl) _ (by rw [hnow]; exact hat))
                  have hfl : (blN n qs ts qs.length).flatten.length = 64 * n := by rw [flat_len hi.l64, hi.len]
                  generalize (blN n qs ts qs.length).flatten = L at *
                  have HROW := Lib.hid hrow
                  have HBEL := Lib.hid hbel
                  have HFL := Lib.hid hfl
                  have H256 := Lib.hid h256
                  clear hi h16 h256 hN hs hnow hsy hB5 hat hfl hrow hbel hrl hlt hj
                  go_wp2_with (first | (go_at_call 22; (with_reducible refine (C22.out).mono ?_); rintro e w8 ⟨dv, rfl, hh, hb8⟩; have hrow8 : DiskRow w8 w5.heap.size L := (hb8.block _ (blt HROW.out)).trans HROW.out; have hw8 := hrow8.whole (c := 64 * n) w8.heap.size; rw [HFL.out] at hw8; have C21 := Lib.hid (eq_bytes w8 w8.heap.size dv (some ⟨w5.heap.size, 0, none⟩, 64 * n, 64 * n) L hh hw8 (by rw [HFL.out]; have := H256.out; omega)); have q8 : w8.cell? ⟨w1.heap.size, 0, none⟩ = some (.slice vr1 qs.length vr3) := (hb8.cell (p := ⟨w1.heap.size, 0, none⟩) (Nat.lt_of_lt_of_le (blt HPC5.out) HBEL.out.size)).trans ((HBEL.out.cell (p := ⟨w1.heap.size, 0, none⟩) (blt HPC5.out)).trans ((cell_of HPC5.out 0).trans rfl)); have HB8 := Lib.hid hb8; clear hh hb8 hrow8 hw8) | (go_at_call 21; (with_reducible refine (C21.out).mono ?_); rintro e w9 ⟨rfl, q', rfl⟩) | (go_at_call 12; (with_reducible refine (C12.out _).mono ?_); rintro e w7 ⟨rfl, hb7⟩; have HB7 := Lib.hid hb7; clear hb7))
                  go_ret
                  have h1 : Below w.heap.size w wy := HB0.out.trans (HBEL.out.mono HB0.out.size)
                  have h2 : Below w.heap.size w w8 := h1.trans (HB8.out.mono h1.size)
                  exact ⟨rfl, (below_drewN h2 _).trans (HB7.out.mono h2.size)⟩
/-- DeviceReads, for every input. -/
theorem reads_any (w : World) (blocks : Int) (Ar Ad At : Option Addr) (cr cd ct : Nat) (qs : List PQ) (ds ts : List Int) (hR : InReqs w Ar qs) (hQ : ∀ q ∈ qs, GoodQ w q) (hT : InInts w At ts) :
    Calls Try.prog 7 #[.int .i64 blocks, .agg #[.slice Ar qs.length cr, .slice Ad ds.length cd, .slice At ts.length ct]] w fun e w' => e = .returned (.bool true) ∧ Below w.heap.size w w' := by
  by_cases h : ds.length ≠ qs.length ∨ ts.length ≠ qs.length
  · exact reads_odd w blocks Ar Ad At cr cd ct qs _ _ hR hQ h
  · have h1 : ds.length = qs.length := by omega
    have h2 : ts.length = qs.length := by omega
    rw [h1, h2]
    exact reads_good w blocks Ar Ad At cr cd ct qs ts hR hQ hT h2
end Go.Proofs.Ytkdnkjjnmadhgaa.Dev
