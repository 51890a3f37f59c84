import Derived.Test.YtkdnkjjnmadhgaaHW
import Derived.Test.YtkdnkjjnmadhgaaDZ
set_option linter.unusedVariables false
set_option linter.unusedSimpArgs false
/-! DeviceApart (f4): the walk. -/
namespace Go.Proofs.Ytkdnkjjnmadhgaa.Dev
open Go.RowKit Go.Maps Go.Lib

theorem CfGood.below {w w' : World} {x : Cf × CfV} (h : CfGood w x) (hb : Below w.heap.size w w') : CfGood w' x :=
  ⟨(h.b.below hb).more hb.size, (h.t.below hb).more hb.size, (h.y.below hb).more hb.size, (h.l.below hb).more hb.size, h.byt⟩
theorem CfGood.rep {w : World} {x : Cf × CfV} (h : CfGood w x) (hf : FewC x.1) : CfRep w.heap.size w x.2 x.1 := ⟨h.b, h.t, h.y, h.l, hf, h.byt⟩
theorem InReqs.below {w w' : World} {A : Option Addr} {qs : List PQ} (h : InReqs w A qs) (hb : Below w.heap.size w w') : InReqs w' A qs := fun h0 => by
  obtain ⟨g, off, e, hg, hc⟩ := h h0
  exact ⟨g, off, e, Nat.lt_of_lt_of_le hg hb.size, fun j q hq i u hu => (hb.cell (p := ⟨g, off + j * 5 + i, none⟩) hg).trans (hc j q hq i u hu)⟩
theorem GoodQ.below {w w' : World} {q : PQ} (h : GoodQ w q) (hb : Below w.heap.size w w') : GoodQ w' q := ⟨(h.1.below hb).more hb.size, h.2⟩
theorem InInts.below {w w' : World} {A : Option Addr} {l : List Int} (h : InInts w A l) (hb : Below w.heap.size w w') : InInts w' A l := fun h0 => by
  obtain ⟨g, off, e, hg, hc⟩ := h h0
  exact ⟨g, off, e, Nat.lt_of_lt_of_le hg hb.size, fun j x hx => (hb.cell (p := ⟨g, off + j, none⟩) hg).trans (hc j x hx)⟩
/-- The requests' row is read. -/
theorem InReqs.reads {w : World} {A : Option Addr} {qs : List PQ} (h : InReqs w A qs) : Reads w w.heap.size 5 A qs.length (qs.flatMap cellsPQ) := by
  have hlen : ∀ l : List PQ, (l.flatMap cellsPQ).length = l.length * 5 := fun l => by
    induction l with
    | nil => rfl
    | cons q l ih => rw [List.flatMap_cons, List.length_append, ih, List.length_cons]; show 5 + _ = _; omega
  refine ⟨hlen qs, fun h0 => ?_⟩
  obtain ⟨g, off, e, hg, hc⟩ := h h0
  refine ⟨_, e, hg, fun j u hu => ?_⟩
  have hj : j < qs.length * 5 := by rw [← hlen]; exact (List.getElem?_eq_some_iff.1 hu).1
  have hq : qs[j / 5]? = some qs[j / 5] := List.getElem?_eq_getElem (by omega)
  have h1 := flat_get cellsPQ 5 (fun _ => rfl) qs (j / 5) _ hq (j % 5) (by omega)
  rw [show j / 5 * 5 + j % 5 = j by omega, hu] at h1
  have := hc (j / 5) _ hq (j % 5) u h1.symm
  rw [Addr.add_lit]
  rwa [show off + j / 5 * 5 + j % 5 = off + j by omega] at this
set_option maxHeartbeats 8000000 in
set_option maxRecDepth 100000 in
/-- Rows that are not of a length: awake() alone. -/
theorem apart_odd (w : World) (Ac : Option Addr) (cc : Nat) (l : List (Cf × CfV)) (hl : InCfgs w Ac l) (hC : ∀ x ∈ l, CfGood w x) (Ar Ad At : Option Addr) (cr cd ct : Nat) (qs : List PQ) (nd nt : Nat) (hR : InReqs w Ar qs) (hQ : ∀ q ∈ qs, GoodQ w q) (hne : nd ≠ qs.length ∨ nt ≠ qs.length) (dev : Int) :
    Calls Try.prog 4 #[.slice Ac l.length cc, .agg #[.slice Ar qs.length cr, .slice Ad nd cd, .slice At nt ct], .int .i64 dev] w fun e w' => e = .returned (.bool true) ∧ Below w.heap.size w w' := by
  obtain ⟨W, hW⟩ : ∃ W, W = w.alloc (.cells #[.slice Ar qs.length cr, .slice Ad nd cd, .slice At nt ct] 26) := ⟨_, rfl⟩
  have hbw : Below w.heap.size w W := by rw [hW]; exact (Below.refl _ _).alloc (Nat.le_refl _) _
  have gb : W.heap[w.heap.size]? = some (.cells #[.slice Ar qs.length cr, .slice Ad nd cd, .slice At nt ct] 26 (0, 0)) := by rw [hW]; exact alloc_new _ _
  have C12 := Lib.hid (fun w' => awake_any w')
  have C10 := Lib.hid (heavy_any W Ac cc l (hl.below hbw) (fun x hx => (hC x hx).below hbw))
  have C11 := Lib.hid (fun (w1 : World) (hb1 : Below W.heap.size W w1) => long_any w1 Ar Ad At cr cd ct qs nd nt ((hR.below hbw).below hb1) (fun q hq => ((hQ q hq).below hbw).below hb1))
  have HB := Lib.hid hbw
  have GB := Lib.hid gb
  clear hl hC hR hQ hbw gb
  have hd : ((((nd : Int)) != (qs.length : Int)) = true) ∨ ((((nd : Int)) != (qs.length : Int)) = false ∧ (((nt : Int)) != (qs.length : Int)) = true) := by
    by_cases h1 : nd = qs.length
    · have h2 : nt ≠ qs.length := hne.elim (fun h => absurd h1 h) id
      exact .inr ⟨by simp; omega, by simp; omega⟩
    · exact .inl (by simp; omega)
  clear hne
  subst hW
  rcases hd with d1 | ⟨d1, d2⟩
  all_goals
    go_enter Try.func4, Try.ntmps4
    go_wp2_with (first | (go_at_call 10; (with_reducible refine (C10.out).mono ?_); rintro e w1 ⟨r, rfl, hb1, hr⟩; have q0 := (cell_of ((hb1.block _ (blt GB.out)).trans GB.out) 0).trans rfl; have q1 := (cell_of ((hb1.block _ (blt GB.out)).trans GB.out) 1).trans rfl; have q2 := (cell_of ((hb1.block _ (blt GB.out)).trans GB.out) 2).trans rfl; have G1 := Lib.hid ((hb1.block _ (blt GB.out)).trans GB.out); have HB1 := Lib.hid hb1; clear hb1 hr; (rcases r with _ | _)) | (go_at_call 11; (with_reducible refine (C11.out _ HB1.out).mono ?_); rintro e w2 ⟨r2, rfl, hb2, hr2⟩; have p0 := (cell_of ((hb2.block _ (blt G1.out)).trans G1.out) 0).trans rfl; have p1 := (cell_of ((hb2.block _ (blt G1.out)).trans G1.out) 1).trans rfl; have p2 := (cell_of ((hb2.block _ (blt G1.out)).trans G1.out) 2).trans rfl; have HB2 := Lib.hid hb2; clear hb2 hr2; (rcases r2 with _ | _)) | (go_at_call 12; (with_reducible refine (C12.out _).mono ?_); rintro e w7 ⟨rfl, hb7⟩; have HB7 := Lib.hid hb7; clear hb7))
    all_goals (go_ret; first | (have b1 := (HB.out.trans (HB1.out.mono HB.out.size)).trans (HB2.out.mono (HB.out.trans (HB1.out.mono HB.out.size)).size); exact ⟨rfl, b1.trans (HB7.out.mono b1.size)⟩) | (have b1 := (HB.out.trans (HB1.out.mono HB.out.size)); exact ⟨rfl, b1.trans (HB7.out.mono b1.size)⟩))
end Go.Proofs.Ytkdnkjjnmadhgaa.Dev
/-! DeviceApart (f4): the walk whole. -/
namespace Go.Proofs.Ytkdnkjjnmadhgaa.Dev
open Go.RowKit Go.Maps Go.Lib

theorem wpList_build1v {P : Program} (w : World) {ops : Array Oper} {rest : List Oper} {o : Oper} {a : Act} {Q : Exit → Act → World → Prop} (hgd : o.guard = none) (x : Operand) (t e : TypeId)
    (ho : o.op = .buildSlice t 1 #[(0, x)]) (v : Value) (hx : a.eval x = v)
    (hrun : (Instr.buildSlice t 1 #[(0, v)]).run P w = .ok (.slice (some ⟨w.heap.size, 0, none⟩) 1 1) (w.alloc (.cells #[v] e)))
    (h : wpList P ops Q rest (a.put o.dst (.slice (some ⟨w.heap.size, 0, none⟩) 1 1)) (w.alloc (.cells #[v] e))) : wpList P ops Q (o :: rest) a w := by
  refine wpList_plain hgd fun K hK => ?_
  unfold Oper.wp execOp
  simp only [ho, Sem.run_bind, Result.andThen_ok, List.map_toArray, List.map_cons, List.map_nil, hx, hrun]
  exact hK _ _ h
set_option maxRecDepth 100000 in
theorem build_i3 (w : World) (x : Int) : (Instr.buildSlice 24 1 #[(0, .int .i64 x)]).run Try.prog w = .ok (.slice (some ⟨w.heap.size, 0, none⟩) 1 1) (w.alloc (.cells #[.int .i64 x] 3)) := by
  go_simp
theorem HOut.below {B base : Nat} {w w' : World} {v : Value} {rs : List Rp} {os : List Ans} (h : HOut B base w v rs os) (hB : B ≤ w.heap.size) (hb : Below w.heap.size w w') : HOut B base w' v rs os :=
  h.keep (Frame3.below hb) fun k hk => hb.block k (by omega)
theorem InReps.more {B B' : Nat} {w : World} {A : Option Addr} {l : List Pr} (h : InReps B w A l) (hB : B ≤ B') : InReps B' w A l := fun h0 => by
  obtain ⟨g, off, e, hc⟩ := h h0
  refine ⟨g, off, e, fun j r hr => ?_⟩
  obtain ⟨a0, a1, a2, dv, a3, a4, a5⟩ := hc j r hr
  exact ⟨a0, a1, a2, dv, a3, a4.more hB, a5⟩
theorem outG_dat {g : GB} (h : GInv g) (T : Int) : ∀ o ∈ (outG g T).map (·.2), IsB o.2.2.2 := fun o ho => by
  obtain ⟨y, hy, rfl⟩ := List.mem_map.1 ho
  unfold outG at hy
  exact h.dat y ((sortG_perm _).mem_iff.1 ((List.takeWhile_sublist _).mem hy))
theorem CfRep.up {B B' : Nat} {w : World} {v : CfV} {c : Cf} (h : CfRep B w v c) (hB : B ≤ B') : CfRep B' w v c := ⟨h.b.more hB, h.t.more hB, h.y.more hB, h.l.more hB, h.few, h.byt⟩
theorem outs_few {ds : List PDv} (h0 : GInv (g0 ds)) {xs : List PE} (hok : OkRun (g0 ds) xs) (T : Int) : (outG (runG (g0 ds) xs) T).length ≤ xs.length := by
  obtain ⟨h1, h2⟩ := ginv_run h0 xs.length (fun i x _ hx => hok i x hx) xs.length (Nat.le_refl _) (Nat.le_refl _)
  rw [List.take_length] at h1 h2
  have := outG_few h1 T
  have e : (g0 ds).sent = 0 := rfl
  omega
set_option maxHeartbeats 8000000 in
set_option maxRecDepth 100000 in
theorem apart_good (w : World) (Ac : Option Addr) (cc : Nat) (l : List (Cf × CfV)) (hl : InCfgs w Ac l) (hC : ∀ x ∈ l, CfGood w x) (Ar Ad At : Option Addr) (cr cd ct : Nat) (qs : List PQ) (ds ts : List Int) (hR : InReqs w Ar qs) (hQ : ∀ q ∈ qs, GoodQ w q) (hD : InInts w Ad ds) (hT : InInts w At ts) (h1 : ds.length = qs.length) (h2 : ts.length = qs.length) (dev : Int) :
    Calls Try.prog 4 #[.slice Ac l.length cc, .agg #[.slice Ar qs.length cr, .slice Ad qs.length cd, .slice At qs.length ct], .int .i64 dev] w fun e w' => e = .returned (.bool true) ∧ Below w.heap.size w w' := by
  obtain ⟨W, hW⟩ : ∃ W, W = w.alloc (.cells #[.slice Ar qs.length cr, .slice Ad qs.length cd, .slice At qs.length ct] 26) := ⟨_, rfl⟩
  have hbw : Below w.heap.size w W := by rw [hW]; exact (Below.refl _ _).alloc (Nat.le_refl _) _
  have gb : W.heap[w.heap.size]? = some (.cells #[.slice Ar qs.length cr, .slice Ad qs.length cd, .slice At qs.length ct] 26 (0, 0)) := by rw [hW]; exact alloc_new _ _
  have C12 := Lib.hid (fun w' => awake_any w')
  have C10 := Lib.hid (heavy_any W Ac cc l (hl.below hbw) (fun x hx => (hC x hx).below hbw))
  have C11 := Lib.hid (fun (w1 : World) (hb1 : Below W.heap.size W w1) => long_any w1 Ar Ad At cr cd ct qs qs.length qs.length ((hR.below hbw).below hb1) (fun q hq => ((hQ q hq).below hbw).below hb1))
  have HB := Lib.hid hbw
  have GB := Lib.hid gb
  have HL := Lib.hid hl
  have HC := Lib.hid hC
  have HR := Lib.hid hR
  have HQ := Lib.hid hQ
  have HD := Lib.hid hD
  have HT := Lib.hid hT
  have HL1 := Lib.hid h1
  have HL2 := Lib.hid h2
  clear hl hC hR hQ hD hT h1 h2 hbw gb
  have d1 : (((qs.length : Int)) != (qs.length : Int)) = false := by simp
  subst hW
  go_enter Try.func4, Try.ntmps4
  go_upto_region 3 with (first | (go_at_call 10; (with_reducible refine (C10.out).mono ?_); rintro e w1 ⟨r, rfl, hb1, hr⟩; have q0 := (cell_of ((hb1.block _ (blt GB.out)).trans GB.out) 0).trans rfl; have q1 := (cell_of ((hb1.block _ (blt GB.out)).trans GB.out) 1).trans rfl; have q2 := (cell_of ((hb1.block _ (blt GB.out)).trans GB.out) 2).trans rfl; have G1 := Lib.hid ((hb1.block _ (blt GB.out)).trans GB.out); have HB1 := Lib.hid hb1; have HRA := Lib.hid hr; clear hb1 hr; (rcases r with _ | _)) | (go_at_call 11; (with_reducible refine (C11.out _ HB1.out).mono ?_); rintro e w2 ⟨r2, rfl, hb2, hr2⟩; have p0 := (cell_of ((hb2.block _ (blt G1.out)).trans G1.out) 0).trans rfl; have p1 := (cell_of ((hb2.block _ (blt G1.out)).trans G1.out) 1).trans rfl; have p2 := (cell_of ((hb2.block _ (blt G1.out)).trans G1.out) 2).trans rfl; have G2 := Lib.hid ((hb2.block _ (blt G1.out)).trans G1.out); have HB2 := Lib.hid hb2; have HRB := Lib.hid hr2; clear hb2 hr2; (rcases r2 with _ | _)) | (go_at_call 12; (with_reducible refine (C12.out _).mono ?_); rintro e w7 ⟨rfl, hb7⟩; have HB7 := Lib.hid hb7; clear hb7))
  rotate_left
  · go_ret
    have b1 := (HB.out.trans (HB1.out.mono HB.out.size)).trans (HB2.out.mono (HB.out.trans (HB1.out.mono HB.out.size)).size)
    exact ⟨rfl, b1.trans (HB7.out.mono b1.size)⟩
  · go_ret
    have b1 := (HB.out.trans (HB1.out.mono HB.out.size))
    exact ⟨rfl, b1.trans (HB7.out.mono b1.size)⟩
  · obtain ⟨_, hfew⟩ := HRA.out trivial
    obtain ⟨hN, _, _, _⟩ := HRB.out trivial
    have HFEW := Lib.hid hfew
    have HN := Lib.hid hN
    have hbw2 := (HB.out.trans (HB1.out.mono HB.out.size)).trans (HB2.out.mono (HB.out.trans (HB1.out.mono HB.out.size)).size)
    have HBW2 := Lib.hid hbw2
    have hrd := (HR.out.below hbw2).reads
    have HRD := Lib.hid hrd
    clear hfew hN HRA HRB q0 q1 q2 HB HB1 HB2 G1 GB C10 C11 d1 hbw2 hrd
    obtain ⟨i0, hi, hz0, hz1, hz2⟩ := info_parts info_r41
    have p0' : w2.cell? ⟨w.heap.size, 0, none⟩ = some (.slice Ar qs.length cr) := (cell_of G2.out 0).trans rfl
    have z0 := Lib.cell?_alloc_some (.cells #[.slice Ar qs.length cr, .slice Ad qs.length cd, .slice At qs.length ct] 26) p0'
    clear p0'
    go_upto_region 5 with (at_builtin; refine wpList_append_any _ rfl _ _ 23 rfl w2.heap.size 41 i0 (.agg #[.int .i64 0, .int .i64 0, .int .i64 0, .int .i64 0, .slice none 0 0]) 5 56 Try.underlying23 hi hz0 hz1 hz2 rfl (by decide) (.slice none 0 0) 0 [] rfl owns_none w2.heap.size Ar qs.length cr (qs.flatMap cellsPQ) rfl (HRD.out.alloc (Nat.le_refl _) _) (fun u hu => by obtain ⟨q, _, hq⟩ := List.mem_flatMap.1 hu; exact one_r5 q u hq) (by have := HN.out; unfold maxLen; omega) (by have := HN.out; omega) (by rw [World.size_alloc]; omega) ?_; intro v9 w9 hrow9 hgrow9 hloc9; (obtain ⟨A9, c9, rfl⟩ := own_form hrow9); have hpc9 := (hgrow9.block _ (by rw [World.size_alloc]; omega) (fun e => by simp [Value.ownBlock] at e)).trans (alloc_new w2 _); have q0 : w9.cell? ⟨w2.heap.size, 0, none⟩ = some (.slice Ar qs.length cr) := (cell_of hpc9 0).trans rfl; have qf : w9.frozen? ⟨w2.heap.size, 0, none⟩ = false := free_of hpc9 0; have HPC9 := Lib.hid hpc9; have HROW9 := Lib.hid hrow9; have HGROW9 := Lib.hid hgrow9; clear hrow9 hgrow9 hloc9 hpc9)
    have hnum : NumQ w2 (w9.setCell ⟨w2.heap.size, 0, none⟩ (.slice A9 qs.length c9)) qs 0 (A9, qs.length, c9) (.slice Ad qs.length cd) (.slice At qs.length ct) := by
      refine ⟨?_, ?_, ?_⟩
      · have := set_same HPC9.out 0 (.slice A9 qs.length c9)
        simpa using this
      · rw [pj_zero]
        have := HROW9.out
        rw [Nat.zero_add, List.nil_append] at this
        exact own_keep this fun k hk _ => Below.heap_setCell w9 _ _ _ (fun e => own_ty this HPC9.out (by decide) (by have e : k = w2.heap.size := e; rw [← e]; exact hk))
      · have h1 : Below w2.heap.size w2 w9 := ((Below.refl _ _).alloc (Nat.le_refl _) _).grown HGROW9.out (by rw [World.size_alloc]; omega) (fun k hk => by simp [Value.ownBlock] at hk)
        exact h1.setCell (Nat.le_refl _) _
    have HNUM := Lib.hid hnum
    have Z0 := Lib.hid z0
    clear hnum HPC9 HROW9 HGROW9 HRD q0 qf z0 hi hz0 hz1 hz2 i0
    generalize w9.setCell ⟨w2.heap.size, 0, none⟩ (.slice A9 qs.length c9) = w10 at *
    clear w9
    go_wp2_with fail
    go_loopw [8] (fun i wr => ∃ j : Nat, j ≤ qs.length ∧ i = .int .i64 j ∧ NumQ w2 wr qs j (A9, qs.length, c9) (.slice Ad qs.length cd) (.slice At qs.length ct)) (fun i _ => qs.length - (intOf i).toNat)
    case atStart => exact ⟨0, Nat.zero_le _, rfl, HNUM.out⟩
    case round =>
      obtain ⟨j, hj, rfl, hnum⟩ := hrel
      have y0 : wr.cell? ⟨w2.heap.size, 0, none⟩ = some (.slice A9 qs.length c9) := (cell_of hnum.pc 0).trans rfl
      by_cases hlt : j < qs.length
      · as_aux_lemma =>
          have hd : decide ((j : Int) < (qs.length : Int)) = true := by simpa using hlt
          have hn := hnum.r
          have hrl : (List.range qs.length)[j]? = some j := List.getElem?_range hlt
          rcases hn.2 with ⟨_, h0⟩ | ⟨g, cap, cur, hv, _, hg, _⟩
          · omega
          obtain rfl : A9 = some ⟨g, 0, none⟩ := by injection hv
          have hown : (slv (some ⟨g, 0, none⟩, qs.length, c9)).ownBlock = some g := rfl
          have hnx := hnum.next hlt hown
          have hcc : (w2.heap.size : Nat) = w2.heap.size := rfl
          have hsz : j * 5 < cur.size := by
            rcases hn.2 with ⟨_, h0⟩ | ⟨g', cap', cur', hv', _, hg', h1', _, h3', _⟩
            · omega
            · have e : g' = g := by injection hv' with e; injection e with e; injection e with e _ _; exact e.symm
              subst e
              rw [hg] at hg'
              simp at hg'
              rw [hg']
              omega
          obtain ⟨u, hu⟩ : ∃ u, wr.cell? ⟨g, j * 5, none⟩ = some u := ⟨cur[j * 5], by rw [cell_of hg]; exact Array.getElem?_eq_getElem hsz⟩
          have hf : wr.frozen? ⟨g, j * 5, none⟩ = false := free_of hg _
          have e1 : wrap64 ((j : Int) + 1) = ((j + 1 : Nat) : Int) := by have := HN.out; unfold wrap64; omega
          have k1 : IntKind.i64.wrap ((j : Int) + 1) = (j : Int) + 1 := by have := HN.out; rw [IntKind.wrap_i64]; omega
          have HNX := Lib.hid hnx
          have E1 := Lib.hid e1
          have HLT := Lib.hid hlt
          clear hnum hn hrl hv hg hown hnx hcc hsz e1 hlt
          go_wp2_with fail
          case roundEnd =>
            refine ⟨⟨j + 1, HLT.out, by first | rw [E1.out] | rfl, HNX.out⟩, ?_⟩
            first | rw [E1.out] | skip
            show qs.length - (j + 1) < qs.length - j
            have := HLT.out
            omega
      · as_aux_lemma =>
          obtain rfl : qs.length = j := by omega
          have hd : decide ((qs.length : Int) < (qs.length : Int)) = false := by simp
          clear hlt hj
          obtain ⟨xs, hxs⟩ : ∃ xs, xs = xsOf qs ds ts := ⟨_, rfl⟩
          have hxl : xs.length = qs.length := by rw [hxs]; exact xsOf_len qs ds ts
          have hrow : wr.ownsRow w2.heap.size 41 5 (.slice A9 qs.length c9) qs.length (xs.flatMap cellsX) := by
            rw [hxs, ← pj_all]
            exact hnum.r
          have hbw : Below w.heap.size w wr := HBW2.out.trans (hnum.below.mono HBW2.out.size)
          have hP : PlanX wr A9 Ad At xs := by
            rw [hxs] at hrow ⊢
            exact PlanX.of_mix hrow (HD.out.below hbw) (HT.out.below hbw) HL1.out HL2.out
          have hdat : ∀ x ∈ xs, Held wr.heap.size 5 wr x.q.dv (bytes x.q.data) := fun x hx => by
            rw [hxs] at hx
            obtain ⟨i, hi, rfl⟩ := List.mem_map.1 hx
            have hi : i < qs.length := by simpa using hi
            have hq : qs[i]? = some (pq qs i) := by
              unfold pq
              rw [List.getD_eq_getElem?_getD, List.getElem?_eq_getElem hi]; rfl
            exact ((HQ.out _ (List.mem_of_getElem? hq)).below hbw).1
          have hCf : ∀ x ∈ l, CfRep wr.heap.size wr x.2 x.1 := fun x hx => ((HC.out x hx).below hbw).rep (HFEW.out x hx)
          have hlr : InCfgs wr Ac l := HL.out.below hbw
          have y1 : wr.cell? ⟨w2.heap.size, 1, none⟩ = some (.slice Ad qs.length cd) := (cell_of hnum.pc 1).trans rfl
          have y2 : wr.cell? ⟨w2.heap.size, 2, none⟩ = some (.slice At qs.length ct) := (cell_of hnum.pc 2).trans rfl
          by_cases hgood : l.length ≤ 5 ∧ ∃ dvs, Devs (l.map (·.1)) dvs ∧ OkRun (g0 dvs) xs
          rotate_left
          · as_aux_lemma =>
              have C17 := Lib.hid (handed_bad wr Ac cc l hlr hCf xs (by have := HN.out; omega) (by
                by_cases h5 : 5 < l.length
                · exact .inl h5
                · exact .inr fun dvs hD hok => hgood ⟨by omega, dvs, hD, hok⟩) A9 Ad At c9 cd ct hP hdat)
              rw [hxl] at C17
              have HBW := Lib.hid hbw
              clear hgood hnum hxs hxl hrow hbw hP hdat hCf hlr
              go_wp2_with (first | (go_at_call 17; (with_reducible refine (C17.out).mono ?_); rintro e w5 ⟨rfl, hb5⟩; have HB5 := Lib.hid hb5; clear hb5) | (go_at_call 12; (with_reducible refine (C12.out _).mono ?_); rintro e w7 ⟨rfl, hb7⟩; have HB7 := Lib.hid hb7; clear hb7))
              go_ret
              have h1 := HBW.out.trans (HB5.out.mono HBW.out.size)
              exact ⟨rfl, h1.trans (HB7.out.mono h1.size)⟩
          · obtain ⟨h5, dvs, hDv, hok⟩ := hgood
            have C17 := Lib.hid (handed_good wr Ac cc l hlr hCf h5 dvs hDv xs (by have := HN.out; omega) hok A9 Ad At c9 cd ct hP hdat)
            rw [hxl] at C17
            have hw0 : ∀ p ∈ dvs, waitQ p = [] := fun p hp => by
              obtain ⟨c, _, hc⟩ := hDv.of hp
              exact (build_byt hc).2
            obtain ⟨ok2, heq, hlab, hg1, hg2⟩ := apart_law (devs_inv hCf hDv) hw0 hok dev 1000000000
            have hf1 := outs_few (devs_inv hCf hDv) hok 1000000000
            have HF1 := Lib.hid hf1
            clear hf1
            have HBW := Lib.hid hbw
            have HOK2 := Lib.hid ok2
            have HEQ := Lib.hid heq
            have HLAB := Lib.hid hlab
            have HG1 := Lib.hid hg1
            have HG2 := Lib.hid hg2
            have HXS := Lib.hid hxs
            have HXL := Lib.hid hxl
            have HROW := Lib.hid hrow
            have HNUM2 := Lib.hid hnum
            have HDAT := Lib.hid hdat
            have HCF := Lib.hid hCf
            have HLR := Lib.hid hlr
            have H5 := Lib.hid h5
            have HDV := Lib.hid hDv
            clear hnum hxs hxl hrow hbw hP hdat hCf hlr h5 hDv hok hw0 ok2 heq hlab hg1 hg2 HNUM
            go_upto_region 13 with (go_at_call 17; (with_reducible refine (C17.out).mono ?_); rintro e w5 ⟨v, rs, b, rfl, hb5, ho5⟩; (obtain ⟨Av, cv, rfl⟩ := own_form ho5.row); have HB5 := Lib.hid hb5; have HO5 := Lib.hid ho5; clear hb5 ho5)
            have hbw5 : Below w.heap.size w w5 := HBW.out.trans (HB5.out.mono HBW.out.size)
            have hpc5 := (HB5.out.block _ (blt HNUM2.out.pc)).trans HNUM2.out.pc
            have hrow5 : w5.ownsRow w2.heap.size 41 5 (.slice A9 qs.length c9) qs.length (xs.flatMap cellsX) := own_keep HROW.out fun k _ hl => HB5.out.block k hl
            have hP5 : PlanX w5 A9 Ad At xs := by
              have h := hrow5
              rw [HXS.out] at h ⊢
              exact PlanX.of_mix h (HD.out.below hbw5) (HT.out.below hbw5) HL1.out HL2.out
            have hdat5 : ∀ x ∈ xs, Held w5.heap.size 5 w5 x.q.dv (bytes x.q.data) := fun x hx => ((HDAT.out x hx).below HB5.out).more HB5.out.size
            have hcf5 : ∀ x ∈ l, CfRep w5.heap.size w5 x.2 x.1 := fun x hx => ((HC.out x hx).below hbw5).rep (HFEW.out x hx)
            have hlr5 : InCfgs w5 Ac l := HL.out.below hbw5
            have hps : w2.heap.size < w5.heap.size := blt hpc5
            have ho5 := HO5.out
            have hb5s := HB5.out.size
            have HBW5 := Lib.hid hbw5
            have HPC5 := Lib.hid hpc5
            have HP5 := Lib.hid hP5
            have HDAT5 := Lib.hid hdat5
            have HCF5 := Lib.hid hcf5
            have HLR5 := Lib.hid hlr5
            have HPS := Lib.hid hps
            obtain ⟨os, hos⟩ : ∃ os, os = outG (runG (g0 dvs) xs) 1000000000 := ⟨_, rfl⟩
            rw [← hos] at ho5
            have HOS := Lib.hid hos
            have HO := Lib.hid ho5
            have HBS := Lib.hid hb5s
            clear hbw5 hpc5 hrow5 hP5 hdat5 hcf5 hlr5 hps ho5 hb5s hos HO5 HB5 HNUM2 HROW HDAT HCF HLR HBW C17 HL HC HD HT HQ HR HBW2 HFEW y0 y1 y2 p0 p1 p2 G2 Z0 hd
            generalize wr.heap.size = B5 at *
            clear wr
            go_wp2_with fail
            go_loopw [13] (fun i wr => ∃ (j : Nat) (vr vd vt : Sl), j ≤ qs.length ∧ i = .int .i64 j ∧ OwnP w5 wr ((xs.take j).filter fun x => x.dev == dev) ((xs.take j).filter fun x => x.dev == dev) ((xs.take j).filter fun x => x.dev == dev) vr vd vt) (fun i _ => qs.length - (intOf i).toNat)
            case atStart => exact ⟨0, (none, 0, 0), (none, 0, 0), (none, 0, 0), Nat.zero_le _, rfl, ⟨alloc_new _ _, owns_none, owns_none, owns_none, fun g hg => by simp [Value.ownBlock] at hg, (Below.refl _ _).alloc (Nat.le_refl _) _⟩⟩
            case round =>
              obtain ⟨j, vr, vd, vt, hj, rfl, hE⟩ := hrel
              have hold : ∀ {g o : Nat} {v : Option Value}, g < w5.heap.size → w5.cell? ⟨g, o, none⟩ = v → wr.cell? ⟨g, o, none⟩ = v := fun hg hv => (hE.below.cell (p := ⟨_, _, none⟩) hg).trans hv
              have y0 : wr.cell? ⟨w2.heap.size, 0, none⟩ = some (.slice A9 qs.length c9) := hold HPS.out ((cell_of HPC5.out 0).trans rfl)
              by_cases hlt : j < qs.length
              · as_aux_lemma =>
                  have hdl : decide ((j : Int) < (qs.length : Int)) = true := by simpa using hlt
                  obtain ⟨gr, gd, od, gt, ot, rfl, rfl, rfl, hpl⟩ := HP5.out.ex (by rw [HXL.out]; omega)
                  have hjx : j < xs.length := by rw [HXL.out]; exact hlt
                  have hget := pe_get hjx
                  have y1 : wr.cell? ⟨w2.heap.size, 1, none⟩ = some (.slice (some ⟨gd, od, none⟩) qs.length cd) := hold HPS.out ((cell_of HPC5.out 1).trans rfl)
                  have y2 : wr.cell? ⟨w2.heap.size, 2, none⟩ = some (.slice (some ⟨gt, ot, none⟩) qs.length ct) := hold HPS.out ((cell_of HPC5.out 2).trans rfl)
                  have d0 : wr.cell? ⟨gd, od + j, none⟩ = some (.int .i64 (pe xs j).dev) := hold hpl.bd (hpl.d j hjx)
                  have t0 : wr.cell? ⟨gt, ot + j, none⟩ = some (.int .i64 (pe xs j).at_) := hold hpl.bt (hpl.t j hjx)
                  have r0 : wr.cell? ⟨gr, j * 5, none⟩ = some (.int .i64 (pe xs j).q.pk) := hold hpl.br (hpl.r j hjx 0 (by decide))
                  have r1 : wr.cell? ⟨gr, j * 5 + 1, none⟩ = some (.int .i64 (pe xs j).q.do_) := hold hpl.br (hpl.r j hjx 1 (by decide))
                  have r2 : wr.cell? ⟨gr, j * 5 + 2, none⟩ = some (.int .i64 (pe xs j).q.a_) := hold hpl.br (hpl.r j hjx 2 (by decide))
                  have r3 : wr.cell? ⟨gr, j * 5 + 3, none⟩ = some (.int .i64 (pe xs j).q.b_) := hold hpl.br (hpl.r j hjx 3 (by decide))
                  have r4 : wr.cell? ⟨gr, j * 5 + 4, none⟩ = some (.slice (pe xs j).q.dv.1 (pe xs j).q.dv.2.1 (pe xs j).q.dv.2.2) := hold hpl.br (hpl.r j hjx 4 (by decide))
                  have hgr := hpl.br
                  have hgt := hpl.bt
                  have htake : (xs.take (j + 1)).filter (fun x => x.dev == dev) = (xs.take j).filter (fun x => x.dev == dev) ++ if (pe xs j).dev = dev then [pe xs j] else [] := by
                    rw [List.take_add_one, hget, List.filter_append]
                    by_cases hx : (pe xs j).dev = dev
                    · simp [hx]
                    · simp [hx]
                  have hcnt : ((xs.take j).filter fun x => x.dev == dev).length ≤ j := by
                    have h1 := List.length_filter_le (fun x : PE => x.dev == dev) (xs.take j)
                    have h2 := List.length_take_le j xs
                    omega
                  have e1 : wrap64 ((j : Int) + 1) = ((j + 1 : Nat) : Int) := by have := HN.out; unfold wrap64; omega
                  generalize pe xs j = x at *
                  generalize (xs.take j).filter (fun x => x.dev == dev) = lo at *
                  have HTAKE := Lib.hid htake
                  have HCNT := Lib.hid hcnt
                  have HE := Lib.hid hE
                  have E1 := Lib.hid e1
                  have HLT := Lib.hid hlt
                  have HGR := Lib.hid hgr
                  have HGT := Lib.hid hgt
                  clear htake hcnt hE hpl hget hjx hold e1 hlt hgr hgt
                  by_cases hx : x.dev = dev
                  · as_aux_lemma =>
                      have dx : (x.dev == dev) = true := by simpa using hx
                      have HX := Lib.hid hx
                      clear hx
                      go_upto_region 17 with (fail)
                      obtain ⟨vr1, vr2, vr3⟩ := vr
                      obtain ⟨vd1, vd2, vd3⟩ := vd
                      obtain ⟨vt1, vt2, vt3⟩ := vt
                      obtain rfl : vr2 = lo.length := by obtain ⟨_, _, e⟩ := own_form HE.out.r; injection e
                      obtain rfl : vd2 = lo.length := by obtain ⟨_, _, e⟩ := own_form HE.out.d; injection e
                      obtain rfl : vt2 = lo.length := by obtain ⟨_, _, e⟩ := own_form HE.out.t; injection e
                      have o0 : wr.cell? ⟨w5.heap.size, 0, none⟩ = some (.slice vr1 lo.length vr3) := (cell_of HE.out.pc 0).trans rfl
                      obtain ⟨C, hCd⟩ : ∃ C : World → Prop, ∀ z, C z ↔ (z.cell? ⟨w5.heap.size, 0, none⟩ = some (.slice vr1 lo.length vr3) ∧ z.cell? ⟨w2.heap.size, 0, none⟩ = some (.slice (some ⟨gr, 0, none⟩) qs.length c9) ∧ z.cell? ⟨gr, j * 5, none⟩ = some (.int .i64 x.q.pk) ∧ z.cell? ⟨gr, j * 5 + 1, none⟩ = some (.int .i64 x.q.do_) ∧ z.cell? ⟨gr, j * 5 + 2, none⟩ = some (.int .i64 x.q.a_) ∧ z.cell? ⟨gr, j * 5 + 3, none⟩ = some (.int .i64 x.q.b_) ∧ z.cell? ⟨gr, j * 5 + 4, none⟩ = some (.slice x.q.dv.1 x.q.dv.2.1 x.q.dv.2.2)) := ⟨_, fun _ => Iff.rfl⟩
                      have s0 := fun s : {z : World // C z} => ((hCd s.1).1 s.2).1
                      have s1 := fun s : {z : World // C z} => ((hCd s.1).1 s.2).2.1
                      have s2 := fun s : {z : World // C z} => ((hCd s.1).1 s.2).2.2.1
                      have s3 := fun s : {z : World // C z} => ((hCd s.1).1 s.2).2.2.2.1
                      have s4 := fun s : {z : World // C z} => ((hCd s.1).1 s.2).2.2.2.2.1
                      have s5 := fun s : {z : World // C z} => ((hCd s.1).1 s.2).2.2.2.2.2.1
                      have s6 := fun s : {z : World // C z} => ((hCd s.1).1 s.2).2.2.2.2.2.2
                      have hC0 := (hCd wr.drew).2 ⟨o0, y0, r0, r1, r2, r3, r4⟩
                      haveI : Nonempty {z : World // C z} := ⟨⟨wr.drew, hC0⟩⟩
                      have Y1 := Lib.hid y1
                      have Y2 := Lib.hid y2
                      have T0 := Lib.hid t0
                      clear y1 y2 t0 d0 dx hdl
                      refine Mix.wp_region_mix C [7, 8, 10] (by kernel_rfl) (by kernel_rfl) hC0 ?_
                      have HCD := Lib.hid hCd
                      clear hCd hC0
                      repeat (refine Mix.mix_still rfl (fun K hK => ?_); go_simp; refine hK _ ?_; clear hK K)
                      refine Mix.mix_eff rfl ?_
                      refine wpList_build1 _ rfl (.tmp 94) 23 41 rfl #[.int .i64 x.q.pk, .int .i64 x.q.do_, .int .i64 x.q.a_, .int .i64 x.q.b_, .slice x.q.dv.1 x.q.dv.2.1 x.q.dv.2.2] rfl (build_r41 _ _ _ _ _ _) ?_
                      obtain ⟨W6, hW6⟩ : ∃ W6, W6 = wr.drew.alloc (.cells #[.int .i64 x.q.pk, .int .i64 x.q.do_, .int .i64 x.q.a_, .int .i64 x.q.b_, .slice x.q.dv.1 x.q.dv.2.1 x.q.dv.2.2] 41) := ⟨_, rfl⟩
                      have hn6 : W6.heap[wr.heap.size]? = some (.cells #[.int .i64 x.q.pk, .int .i64 x.q.do_, .int .i64 x.q.a_, .int .i64 x.q.b_, .slice x.q.dv.1 x.q.dv.2.1 x.q.dv.2.2] 41 (0, 0)) := by rw [hW6]; exact alloc_new wr.drew _
                      have hb6 : Below wr.heap.size wr W6 := by rw [hW6]; exact ((Below.refl wr.heap.size wr).drew).alloc (Nat.le_refl _) _
                      have hk6 : ∀ {a : Addr} {v : Value}, wr.cell? a = some v → W6.cell? a = some v := fun hx => (hb6.cell (lt_of_cell hx)).trans hx
                      rw [← hW6]
                      refine wpList_nil ⟨rfl, .inr ((HCD.out W6).2 ⟨hk6 o0, hk6 y0, hk6 r0, hk6 r1, hk6 r2, hk6 r3, hk6 r4⟩), ?_⟩
                      refine Mix.mix_eff rfl ?_
                      obtain ⟨i0, hi, hz0, hz1, hz2⟩ := info_parts info_r41
                      have hr6 : W6.ownsRow w5.heap.size 41 5 (slv (vr1, lo.length, vr3)) lo.length (lo.flatMap cellsX) := own_keep HE.out.r fun k _ hl => hb6.block k hl
                      have hlo : w5.heap.size ≤ W6.heap.size := Nat.le_trans HE.out.below.size hb6.size
                      have h60 : lo.length ≤ 60 := by have := HN.out; have := HCNT.out; have := HLT.out; omega
                      refine wpList_append_any _ rfl _ _ 23 rfl w5.heap.size 41 i0 (.agg #[.int .i64 0, .int .i64 0, .int .i64 0, .int .i64 0, .slice none 0 0]) 5 56 Try.underlying23 hi hz0 hz1 hz2 rfl (by decide) (slv (vr1, lo.length, vr3)) lo.length _ rfl hr6 W6.heap.size (some ⟨wr.heap.size, 0, none⟩) 1 1 (cellsPQ x.q) rfl ?rd (one_r5 x.q) (by unfold maxLen; omega) (by omega) hlo ?_
                      case rd => exact ⟨rfl, fun _ => ⟨_, rfl, blt hn6, fun i u hu => by rw [Addr.add_lit, Nat.zero_add, cell_of hn6]; simpa [cellsPQ] using hu⟩⟩
                      intro v' w7 hrow7 hgrow7 hloc7
                      obtain ⟨A7, c7, rfl⟩ := own_form hrow7
                      obtain ⟨hkw, hpc7, hbl7⟩ := HE.out.keepP hb6 (u := (vr1, lo.length, vr3)) hgrow7 HE.out.tr
                      have hk7 : ∀ {g o : Nat} {v : Value}, g < w5.heap.size → wr.cell? ⟨g, o, none⟩ = some v → w7.cell? ⟨g, o, none⟩ = some v := fun hg hv => (hbl7.cell (p := ⟨_, _, none⟩) hg).trans ((HE.out.below.cell (p := ⟨_, _, none⟩) hg).symm.trans hv)
                      have q0 : w7.cell? ⟨w5.heap.size, 0, none⟩ = some (.slice vr1 lo.length vr3) := (cell_of hpc7 0).trans rfl
                      have qf : w7.frozen? ⟨w5.heap.size, 0, none⟩ = false := free_of hpc7 0
                      refine wpList_nil ⟨rfl, .inr ((HCD.out _).2 ⟨q0, hk7 HPS.out y0, hk7 HGR.out r0, hk7 HGR.out r1, hk7 HGR.out r2, hk7 HGR.out r3, hk7 HGR.out r4⟩), ?_⟩
                      have HE7 := Lib.hid (HE.out.addr (x := x) hb6 hgrow7 hrow7)
                      clear hrow7 hgrow7 hloc7 hkw hpc7 hbl7 hk7 hr6 hn6 hb6 hk6 hW6 hlo o0 y0 r0 r1 r2 r3 r4 hi hz0 hz1 hz2
                      repeat (refine Mix.mix_still rfl (fun K hK => ?_); go_simp; refine hK _ ?_; clear hK K)
                      refine Mix.mix_eff rfl ?_
                      go_wp2_with fail
                      refine Mix.mix_nil ?_
                      go_upto_region 18 with (fail)
                      obtain ⟨W8, hW8⟩ : ∃ W8, W8 = w7.setCell ⟨w5.heap.size, 0, none⟩ (.slice A7 (lo.length + 1) c7) := ⟨_, rfl⟩
                      rw [← hW8]
                      have hE8 := HE7.out
                      rw [← hW8] at hE8
                      have o1 : W8.cell? ⟨w5.heap.size, 1, none⟩ = some (.slice vd1 lo.length vd3) := (cell_of hE8.pc 1).trans rfl
                      have HE8 := Lib.hid hE8
                      clear hE8 hW8 HE7 q0 qf s0 s1 s2 s3 s4 s5 s6
                      obtain ⟨i1, hi1, hy0, hy1, hy2⟩ := info_parts info3
                      go_upto_region 19 with (at_builtin; refine wpList_append_any _ rfl _ _ 24 rfl w5.heap.size 3 i1 (.int .i64 0) 1 8 Try.underlying24 hi1 hy0 hy1 hy2 rfl (by decide) (slv (vd1, lo.length, vd3)) lo.length _ rfl (own_keep HE8.out.d fun k _ hl => Below.heap_alloc _ _ _ hl) _ (some ⟨_, 0, none⟩) 1 1 [.int .i64 dev] rfl (new_reads _ _ _) (fun u hu => by simp at hu; subst hu; rfl) (by unfold maxLen; omega) (by omega) (by rw [World.size_alloc]; have := HE8.out.below.size; omega) ?_; intro v9 w9 hrow9 hgrow9 hloc9; (obtain ⟨A9', c9', rfl⟩ := own_form hrow9); have hbx := (Below.refl W8.heap.size W8).alloc (Nat.le_refl _) (.cells #[.int .i64 dev] 3); have hpc9 := (HE8.out.keepP hbx (u := (vd1, lo.length, vd3)) hgrow9 HE8.out.td).2.1; have q1 : w9.cell? ⟨w5.heap.size, 1, none⟩ = some (.slice vd1 lo.length vd3) := (cell_of hpc9 1).trans rfl; have qf : w9.frozen? ⟨w5.heap.size, 1, none⟩ = false := free_of hpc9 1; have HE9 := Lib.hid (HE8.out.addd (x := x) hbx hgrow9 (by rw [HX.out]; exact hrow9) (by rw [World.size_alloc] at hloc9 ⊢; exact hloc9)); clear hrow9 hgrow9 hloc9 hpc9 hbx)
                      obtain ⟨W10, hW10⟩ : ∃ W10, W10 = w9.setCell ⟨w5.heap.size, 1, none⟩ (.slice A9' (lo.length + 1) c9') := ⟨_, rfl⟩
                      rw [← hW10]
                      have hE10 := HE9.out
                      rw [← hW10] at hE10
                      have hk10 : ∀ {g o : Nat} {v : Value}, g < w5.heap.size → wr.cell? ⟨g, o, none⟩ = some v → W10.cell? ⟨g, o, none⟩ = some v := fun hg hv => (hE10.below.cell (p := ⟨_, _, none⟩) hg).trans ((HE.out.below.cell (p := ⟨_, _, none⟩) hg).symm.trans hv)
                      have o2 : W10.cell? ⟨w5.heap.size, 2, none⟩ = some (.slice vt1 lo.length vt3) := (cell_of hE10.pc 2).trans rfl
                      have y2 := hk10 HPS.out Y2.out
                      have t0 := hk10 HGT.out T0.out
                      have HE10 := Lib.hid hE10
                      clear hE10 hW10 HE9 hk10 o1 q1 qf HCD hi1 hy0 hy1 hy2
                      obtain ⟨D, hCd⟩ : ∃ D : World → Prop, ∀ z, D z ↔ (z.cell? ⟨w5.heap.size, 2, none⟩ = some (.slice vt1 lo.length vt3) ∧ z.cell? ⟨w2.heap.size, 2, none⟩ = some (.slice (some ⟨gt, ot, none⟩) qs.length ct) ∧ z.cell? ⟨gt, ot + j, none⟩ = some (.int .i64 x.at_)) := ⟨_, fun _ => Iff.rfl⟩
                      have s0 := fun s : {z : World // D z} => ((hCd s.1).1 s.2).1
                      have s1 := fun s : {z : World // D z} => ((hCd s.1).1 s.2).2.1
                      have s2 := fun s : {z : World // D z} => ((hCd s.1).1 s.2).2.2
                      have hC0 := (hCd W10.drew).2 ⟨o2, y2, t0⟩
                      haveI : Nonempty {z : World // D z} := ⟨⟨W10.drew, hC0⟩⟩
                      have hjl : (j : Int) < (qs.length : Int) := by have := HLT.out; omega
                      refine Mix.wp_region_mix D [7, 8, 10] (by kernel_rfl) (by kernel_rfl) hC0 ?_
                      have HCD := Lib.hid hCd
                      clear hCd hC0
                      repeat (refine Mix.mix_still rfl (fun K hK => ?_); go_simp; refine hK _ ?_; clear hK K)
                      refine Mix.mix_eff rfl ?_
                      refine wpList_build1v _ rfl (.tmp 110) 24 3 rfl (.int .i64 x.at_) rfl (build_i3 _ _) ?_
                      obtain ⟨W6, hW6⟩ : ∃ W6, W6 = W10.drew.alloc (.cells #[.int .i64 x.at_] 3) := ⟨_, rfl⟩
                      have hn6 : W6.heap[W10.heap.size]? = some (.cells #[.int .i64 x.at_] 3 (0, 0)) := by rw [hW6]; exact alloc_new W10.drew _
                      have hb6 : Below W10.heap.size W10 W6 := by rw [hW6]; exact ((Below.refl W10.heap.size W10).drew).alloc (Nat.le_refl _) _
                      have hk6 : ∀ {a : Addr} {v : Value}, W10.cell? a = some v → W6.cell? a = some v := fun hx => (hb6.cell (lt_of_cell hx)).trans hx
                      rw [← hW6]
                      refine wpList_nil ⟨rfl, .inr ((HCD.out W6).2 ⟨hk6 o2, hk6 y2, hk6 t0⟩), ?_⟩
                      refine Mix.mix_eff rfl ?_
                      obtain ⟨i1, hi1, hy0, hy1, hy2⟩ := info_parts info3
                      have hr6 : W6.ownsRow w5.heap.size 3 1 (slv (vt1, lo.length, vt3)) lo.length (lo.map fun x => .int .i64 x.at_) := own_keep HE10.out.t fun k _ hl => hb6.block k hl
                      have hlo : w5.heap.size ≤ W6.heap.size := Nat.le_trans HE10.out.below.size hb6.size
                      refine wpList_append_any _ rfl _ _ 24 rfl w5.heap.size 3 i1 (.int .i64 0) 1 8 Try.underlying24 hi1 hy0 hy1 hy2 rfl (by decide) (slv (vt1, lo.length, vt3)) lo.length _ rfl hr6 W6.heap.size (some ⟨W10.heap.size, 0, none⟩) 1 1 [.int .i64 x.at_] rfl ?rd (fun u hu => by simp at hu; subst hu; rfl) (by unfold maxLen; omega) (by omega) hlo ?_
                      case rd => exact ⟨rfl, fun _ => ⟨_, rfl, blt hn6, fun i u hu => by rw [Addr.add_lit, Nat.zero_add, cell_of hn6]; simpa using hu⟩⟩
                      intro v' w11 hrow7 hgrow7 hloc7
                      obtain ⟨A11, c11, rfl⟩ := own_form hrow7
                      obtain ⟨hkw, hpc7, hbl7⟩ := HE10.out.keepP hb6 (u := (vt1, lo.length, vt3)) hgrow7 HE10.out.tt
                      have hk7 : ∀ {g o : Nat} {v : Value}, g < w5.heap.size → W10.cell? ⟨g, o, none⟩ = some v → w11.cell? ⟨g, o, none⟩ = some v := fun hg hv => (hbl7.cell (p := ⟨_, _, none⟩) hg).trans ((HE10.out.below.cell (p := ⟨_, _, none⟩) hg).symm.trans hv)
                      have q0 : w11.cell? ⟨w5.heap.size, 2, none⟩ = some (.slice vt1 lo.length vt3) := (cell_of hpc7 2).trans rfl
                      have qf : w11.frozen? ⟨w5.heap.size, 2, none⟩ = false := free_of hpc7 2
                      refine wpList_nil ⟨rfl, .inr ((HCD.out _).2 ⟨q0, hk7 HPS.out y2, hk7 HGT.out t0⟩), ?_⟩
                      have hsz6 : W6.heap.size = W10.heap.size + 1 := by rw [hW6]; simp
                      have HE11 := Lib.hid (HE10.out.addt (x := x) hb6 hgrow7 hrow7 hloc7)
                      clear hrow7 hgrow7 hloc7 hkw hpc7 hbl7 hk7 hr6 hn6 hb6 hk6 hW6 hlo o2 y2 t0 hi1 hy0 hy1 hy2 hsz6
                      repeat (refine Mix.mix_still rfl (fun K hK => ?_); go_simp; refine hK _ ?_; clear hK K)
                      refine Mix.mix_eff rfl ?_
                      go_wp2_with fail
                      refine Mix.mix_nil ?_
                      go_wp2_with fail
                      case roundEnd =>
                        refine ⟨⟨j + 1, (A7, lo.length + 1, c7), (A9', lo.length + 1, c9'), (A11, lo.length + 1, c11), HLT.out, by first | rw [E1.out] | rfl, ?_⟩, ?_⟩
                        · rw [HTAKE.out, if_pos HX.out]
                          exact HE11.out
                        · first | rw [E1.out] | skip
                          show qs.length - (j + 1) < qs.length - j
                          have := HLT.out
                          omega
                  · as_aux_lemma =>
                      have dx : (x.dev == dev) = false := by simpa using hx
                      have HX := Lib.hid hx
                      clear hx
                      go_wp2_with fail
                      case roundEnd =>
                        refine ⟨⟨j + 1, vr, vd, vt, HLT.out, by first | rw [E1.out] | rfl, ?_⟩, ?_⟩
                        · rw [HTAKE.out, if_neg HX.out, List.append_nil]
                          exact HE.out
                        · first | rw [E1.out] | skip
                          show qs.length - (j + 1) < qs.length - j
                          have := HLT.out
                          omega
              · as_aux_lemma =>
                  obtain rfl : qs.length = j := by omega
                  have hdl : decide ((qs.length : Int) < (qs.length : Int)) = false := by simp
                  obtain ⟨lo, hlo⟩ : ∃ lo, lo = xs.filter (fun x => x.dev == dev) := ⟨_, rfl⟩
                  have htk : xs.take qs.length = xs := by rw [← HXL.out, List.take_length]
                  rw [htk, ← hlo] at hE
                  have hll : lo.length ≤ 60 := by
                    rw [hlo]
                    have := List.length_filter_le (fun x : PE => x.dev == dev) xs
                    have := HXL.out
                    have := HN.out
                    omega
                  obtain ⟨vr1, vr2, vr3⟩ := vr
                  obtain ⟨vd1, vd2, vd3⟩ := vd
                  obtain ⟨vt1, vt2, vt3⟩ := vt
                  obtain rfl : vr2 = lo.length := by obtain ⟨_, _, e⟩ := own_form hE.r; injection e
                  obtain rfl : vd2 = lo.length := by obtain ⟨_, _, e⟩ := own_form hE.d; injection e
                  obtain rfl : vt2 = lo.length := by obtain ⟨_, _, e⟩ := own_form hE.t; injection e
                  have o0 : wr.cell? ⟨w5.heap.size, 0, none⟩ = some (.slice vr1 lo.length vr3) := (cell_of hE.pc 0).trans rfl
                  have o1 : wr.cell? ⟨w5.heap.size, 1, none⟩ = some (.slice vd1 lo.length vd3) := (cell_of hE.pc 1).trans rfl
                  have o2 : wr.cell? ⟨w5.heap.size, 2, none⟩ = some (.slice vt1 lo.length vt3) := (cell_of hE.pc 2).trans rfl
                  have hok2 := HOK2.out
                  have heq := HEQ.out
                  have hg2 := HG2.out
                  rw [← hlo] at hok2 heq hg2
                  have C17 := Lib.hid (handed_good wr Ac cc l (HLR5.out.below hE.below) (fun x hx => ((HCF5.out x hx).below hE.below).up hE.below.size) H5.out dvs HDV.out lo hll hok2 vr1 vd1 vt1 vr3 vd3 vt3 (PlanX.of_rows ⟨hE.r, hE.d, hE.t⟩) (fun x hx => (((HDAT5.out x (by rw [hlo] at hx; exact (List.mem_filter.1 hx).1)).below hE.below).more hE.below.size)))
                  rw [← HOS.out] at heq
                  obtain ⟨os2, hos2⟩ : ∃ os2, os2 = outG (runG (g0 dvs) lo) 1000000000 := ⟨_, rfl⟩
                  have hdat2 := outG_dat hg2 1000000000
                  have hdat1 := outG_dat HG1.out 1000000000
                  rw [← HOS.out] at hdat1
                  rw [← hos2] at C17 heq hdat2
                  have hfew2 := outs_few (devs_inv HCF5.out HDV.out) hok2 1000000000
                  rw [← hos2] at hfew2
                  have hfew1 := HF1.out
                  rw [← HOS.out] at hfew1
                  have HF2 := Lib.hid (Nat.le_trans hfew2 hll)
                  have HF3 := Lib.hid hfew1
                  have HBE := Lib.hid hE.below
                  have HEQ2 := Lib.hid heq
                  have HD1 := Lib.hid hdat1
                  have HD2 := Lib.hid hdat2
                  clear hlo htk hok2 heq hg2 hdat1 hdat2 hfew2 hfew1 hos2 hE hold hlt hj hll HOK2 HEQ HG2
                  go_upto_region 22 with (go_at_call 17; (with_reducible refine (C17.out).mono ?_); rintro e w6 ⟨v, rs3, b3, rfl, hb6, ho6⟩; (obtain ⟨Av3, cv3, rfl⟩ := own_form ho6.row); have HB6 := Lib.hid hb6; have HO6 := Lib.hid ho6; clear hb6 ho6)
                  have hb56 : Below w5.heap.size w5 w6 := HBE.out.trans (HB6.out.mono HBE.out.size)
                  have ho56 := HO.out.below HBS.out hb56
                  have hpc6 := (hb56.block _ HPS.out).trans HPC5.out
                  have hbw6 : Below w.heap.size w w6 := HBW5.out.trans (hb56.mono HBW5.out.size)
                  have HB56 := Lib.hid hb56
                  have HO56 := Lib.hid ho56
                  have HPC6 := Lib.hid hpc6
                  have HBW6 := Lib.hid hbw6
                  have hbq := HB6.out.size
                  have hbe := HBE.out.size
                  have HBQ := Lib.hid hbq
                  have HB5q : Hid (B5 ≤ wr.heap.size) := Lib.hid (Nat.le_trans HBS.out hbe)
                  clear hb56 ho56 hpc6 hbw6 hbq hbe C17 o0 o1 o2 y0 hdl
                  have ho6 := HO6.out
                  have HO7 := Lib.hid ho6
                  clear ho6 HO6 HB6 HBE
                  generalize wr.heap.size = Bq at *
                  clear wr
                  have hrl : rs.length = os.length := by rw [HO.out.ans.1, List.length_map]
                  have hr60 : rs.length ≤ 60 := by
                    have h1 := HF3.out
                    have h2 := HXL.out
                    have h3 := HN.out
                    omega
                  have HRL := Lib.hid hrl
                  have HR60 := Lib.hid hr60
                  clear hrl hr60
                  go_wp2_with fail
                  go_loopw [17, 18] (fun v i wx => ∃ (a : Nat) (rs2 : List Rp), a ≤ rs.length ∧ i = .int .i64 a ∧ wx.ownsRow w6.heap.size 46 4 v rs2.length (rs2.flatMap encO) ∧ All2 (OutOf B5 w6) rs2 (((os.take a).filter fun o => o.1 == dev).map (·.2)) ∧ Below w6.heap.size w6 wx) (fun _ i _ => rs.length - (intOf i).toNat)
                  case atStart => exact ⟨0, [], Nat.zero_le _, rfl, owns_none, by rw [List.take_zero]; exact All2.nil_, Below.refl _ _⟩
                  case round =>
                    obtain ⟨a, rs2, ha, rfl, hrow, hall, hbel⟩ := hrel
                    obtain ⟨A17, c17, rfl⟩ := own_form hrow
                    have hold : ∀ {g o : Nat} {v : Value}, g < w6.heap.size → w6.cell? ⟨g, o, none⟩ = some v → wr.cell? ⟨g, o, none⟩ = some v := fun hg hv => (hbel.cell (p := ⟨_, _, none⟩) hg).trans hv
                    have y0 : wr.cell? ⟨w2.heap.size, 0, none⟩ = some (.slice A9 qs.length c9) := hold (blt HPC6.out) ((cell_of HPC6.out 0).trans rfl)
                    by_cases hla : a < rs.length
                    · as_aux_lemma =>
                        have hda : decide ((a : Int) < (rs.length : Int)) = true := by simpa using hla
                        obtain ⟨x, hx⟩ : ∃ x, rs[a]? = some x := ⟨_, List.getElem?_eq_getElem hla⟩
                        obtain ⟨o, ho⟩ : ∃ o, os[a]? = some o := ⟨_, List.getElem?_eq_getElem (by rw [← HRL.out]; exact hla)⟩
                        obtain ⟨g, c', hv, ⟨cg, hcg⟩, hcell⟩ := row_cells (f := encO) (fun _ => rfl) HO56.out.row hx
                        obtain rfl : Av = some ⟨g, 0, none⟩ := by injection hv
                        have hgl := blt hcg
                        have hox := HO56.out.ans.2 a x o.2 hx (by rw [List.getElem?_map, ho]; rfl)
                        obtain ⟨n, x', hn', hdv, hpk⟩ := HLAB.out o (by rw [← HOS.out]; exact List.mem_of_getElem? ho)
                        have hnl : n < qs.length := by
                          have := (List.getElem?_eq_some_iff.1 hn').1
                          rw [HXL.out] at this
                          exact this
                        have hpk2 : x.pk = (n : Int) + 1 := by
                          have h := hn'
                          rw [HXS.out, xsOf_get hnl] at h
                          injection h with h
                          rw [hox.1, hpk, ← h]
                        have hdvn : x' = pe xs n := by
                          have h := pe_get (xs := xs) (i := n) (by rw [HXL.out]; exact hnl)
                          rw [hn'] at h
                          injection h
                        obtain ⟨gr, gd, od, gt, ot, e1, e2, e3, hpl⟩ := HP5.out.ex (by rw [HXL.out]; omega)
                        have y1 : wr.cell? ⟨w2.heap.size, 1, none⟩ = some (.slice (some ⟨gd, od, none⟩) qs.length cd) := by
                          rw [← e2]
                          exact hold (blt HPC6.out) ((cell_of HPC6.out 1).trans rfl)
                        have d0 : wr.cell? ⟨gd, od + n, none⟩ = some (.int .i64 x'.dev) := by
                          rw [hdvn]
                          have hg56 := Nat.lt_of_lt_of_le hpl.bd HB56.out.size
                          exact hold hg56 ((HB56.out.cell (p := ⟨gd, od + n, none⟩) hpl.bd).trans (hpl.d n (by rw [HXL.out]; exact hnl)))
                        have x0 : wr.cell? ⟨g, a * 4, none⟩ = some (.int .i64 ((n : Int) + 1)) := hold hgl ((hcell 0 (by omega)).trans (by rw [← hpk2]; rfl))
                        have x1 : wr.cell? ⟨g, a * 4 + 1, none⟩ = some (.int .i64 x.at_) := hold hgl ((hcell 1 (by omega)).trans rfl)
                        have x2 : wr.cell? ⟨g, a * 4 + 2, none⟩ = some (.int .i64 x.res) := hold hgl ((hcell 2 (by omega)).trans rfl)
                        have x3 : wr.cell? ⟨g, a * 4 + 3, none⟩ = some (.slice x.dv.1 x.dv.2.1 x.dv.2.2) := hold hgl ((hcell 3 (by omega)).trans rfl)
                        have hcnt : rs2.length ≤ a := by
                          rw [hall.1, List.length_map]
                          have h1 := List.length_filter_le (fun o : AnsD => o.1 == dev) (os.take a)
                          have h2 := List.length_take_le a os
                          omega
                        have hN := HN.out
                        have d1 : decide ((n : Int) < 0) = false := by simp
                        have d2 : decide ((qs.length : Int) ≤ (n : Int)) = false := by simp; omega
                        have d3 : decide (qs.length ≤ n) = false := by simp; omega
                        have d4 : (n : Int) < (qs.length : Int) := by omega
                        have w1' : wrap64 ((a : Int) + 1) = ((a + 1 : Nat) : Int) := by have := HR60.out; unfold wrap64; omega
                        have W1 := Lib.hid w1'
                        clear w1'
                        have k1 : IntKind.i64.wrap ((n : Int) + 1 - 1) = (n : Int) := by rw [IntKind.wrap_i64]; omega
                        have htake : ((os.take (a + 1)).filter (fun o => o.1 == dev)).map (·.2) = ((os.take a).filter (fun o => o.1 == dev)).map (·.2) ++ if x'.dev = dev then [o.2] else [] := by
                          rw [List.take_add_one, ho, List.filter_append, List.map_append]
                          by_cases hx : x'.dev = dev
                          · simp [hdv, hx]
                          · simp [hdv, hx]
                        have HTAKE := Lib.hid htake
                        have HCNT := Lib.hid hcnt
                        have HROW := Lib.hid hrow
                        have HALL := Lib.hid hall
                        have HBEL := Lib.hid hbel
                        have HOX := Lib.hid hox
                        have HLA := Lib.hid hla
                        have HPK := Lib.hid hpk2
                        clear htake hcnt hrow hall hbel hox hla hpk2 hdv hpk hdvn hn' hcell hcg hv hx ho hgl hold hpl hnl e1 e2 e3 hN
                        by_cases hxd : x'.dev = dev
                        · as_aux_lemma =>
                            have dx : (x'.dev == dev) = true := by simpa using hxd
                            have HXD := Lib.hid hxd
                            clear hxd
                            obtain ⟨i0, hi, hz0, hz1, hz2⟩ := info_parts infoA46
                            go_wp2_with (first | (refine wpList_build1 _ rfl (.tmp 153) 30 46 rfl #[.int .i64 ((n : Int) + 1), .int .i64 x.at_, .int .i64 x.res, .slice x.dv.1 x.dv.2.1 x.dv.2.2] rfl (build_o46 _ _ _ _ _) ?_) | (at_builtin; refine wpList_append_any _ rfl _ _ 30 rfl w6.heap.size 46 i0 (.agg #[.int .i64 0, .int .i64 0, .int .i64 0, .slice none 0 0]) 4 48 Try.underlying30 hi hz0 hz1 hz2 rfl (by decide) (.slice A17 rs2.length c17) rs2.length _ rfl (own_keep HROW.out fun k _ hl => Below.heap_alloc _ _ _ hl) _ (some ⟨_, 0, none⟩) 1 1 [.int .i64 ((n : Int) + 1), .int .i64 x.at_, .int .i64 x.res, .slice x.dv.1 x.dv.2.1 x.dv.2.2] rfl (reads_o4 _ _ _ _ _ _) (by rw [← HPK.out]; exact one_O x) (by have := HCNT.out; have := HR60.out; have := HLA.out; unfold maxLen; omega) (by have := HCNT.out; have := HR60.out; have := HLA.out; omega) (by rw [World.size_alloc]; have := HBEL.out.size; omega) ?_; intro v9 w9 hrow9 hgrow9 hloc9; have HROW9 := Lib.hid hrow9; have HGROW9 := Lib.hid hgrow9; clear hrow9 hgrow9 hloc9))
                            case roundEnd =>
                              refine ⟨⟨a + 1, rs2 ++ [x], HLA.out, by first | rw [W1.out] | rfl, ?_, ?_, ?_⟩, ?_⟩
                              · have h := HROW9.out
                                rw [List.length_append, List.flatMap_append, List.flatMap_singleton]
                                have e : encO x = [.int .i64 ((n : Int) + 1), .int .i64 x.at_, .int .i64 x.res, .slice x.dv.1 x.dv.2.1 x.dv.2.2] := by
                                  unfold encO
                                  rw [HPK.out]
                                rw [e]
                                exact h
                              · rw [HTAKE.out, if_pos HXD.out]
                                exact HALL.out.snoc HOX.out
                              · exact (HBEL.out.alloc HBEL.out.size _).grown HGROW9.out (by rw [World.size_alloc]; have := HBEL.out.size; omega) (fun k hk => (own_block HROW.out hk).1)
                              · first | rw [W1.out] | skip
                                show rs.length - (a + 1) < rs.length - a
                                have := HLA.out
                                omega
                        · as_aux_lemma =>
                            have dx : (x'.dev == dev) = false := by simpa using hxd
                            have HXD := Lib.hid hxd
                            clear hxd
                            go_wp2_with fail
                            case roundEnd =>
                              refine ⟨⟨a + 1, rs2, HLA.out, by first | rw [W1.out] | rfl, HROW.out, ?_, HBEL.out⟩, ?_⟩
                              · rw [HTAKE.out, if_neg HXD.out, List.append_nil]
                                exact HALL.out
                              · first | rw [W1.out] | skip
                                show rs.length - (a + 1) < rs.length - a
                                have := HLA.out
                                omega
                    · as_aux_lemma =>
                        obtain rfl : rs.length = a := by omega
                        have hda : decide ((rs.length : Int) < (rs.length : Int)) = false := by simp
                        rw [HRL.out, List.take_length] at hall
                        have hw6 : Bq ≤ w6.heap.size := HBQ.out
                        have hB6 : B5 ≤ w6.heap.size := Nat.le_trans HB5q.out hw6
                        have hO3 := HO7.out.below hw6 hbel
                        have hO2 : HOut B5 w6.heap.size wr (.slice A17 rs2.length c17) rs2 ((os.filter fun o => o.1 == dev).map (·.2)) := ⟨hrow, hall.mono fun r o hh => ⟨hh.1, hh.2.1, hh.2.2.1, hh.2.2.2.1, hh.2.2.2.2.below hbel⟩⟩
                        have hd2 : ∀ o ∈ (os.filter fun o => o.1 == dev).map (·.2), IsB o.2.2.2 := fun o ho => by
                          obtain ⟨y, hy, rfl⟩ := List.mem_map.1 ho
                          exact HD1.out _ (List.mem_map.2 ⟨y, (List.mem_filter.1 hy).1, rfl⟩)
                        have i1 := hO3.reps HD2.out
                        have i2 := (hO2.reps hd2).more HB5q.out
                        rw [← HEQ2.out] at i2
                        have l1 : rs3.length = ((os2.map (·.2)).map viewP).length := by rw [List.length_map, hO3.ans.1]
                        have l2 : rs2.length = ((os2.map (·.2)).map viewP).length := by rw [HEQ2.out, List.length_map, hO2.ans.1]
                        have l3 : ((os2.map (·.2)).map viewP).length ≤ 100000 := by
                          rw [List.length_map, List.length_map]
                          have := HF2.out
                          omega
                        rw [l1, l2]
                        have C16 := Lib.hid (eq_replies wr Bq Av3 A17 cv3 c17 _ i1 i2 l3)
                        have HBEL := Lib.hid hbel
                        generalize ((os2.map (·.2)).map viewP).length = N at *
                        clear hrow hall hbel hw6 hB6 hO3 hO2 hd2 i1 i2 l1 l2 l3 hold hla ha
                        go_wp2_with (first | (go_at_call 16; (with_reducible refine (C16.out).mono ?_); rintro e w8 ⟨rfl, q, rfl⟩) | (go_at_call 12; (with_reducible refine (C12.out _).mono ?_); rintro e w7 ⟨rfl, hb7⟩; have HB7 := Lib.hid hb7; clear hb7))
                        go_ret
                        have h1 : Below w.heap.size w wr := HBW6.out.trans (HBEL.out.mono HBW6.out.size)
                        exact ⟨rfl, (below_drewN h1 _).trans (HB7.out.mono h1.size)⟩
/-- DeviceApart, for every input. -/
theorem apart_any (w : World) (Ac : Option Addr) (cc : Nat) (l : List (Cf × CfV)) (Ar Ad At : Option Addr) (cr cd ct : Nat) (qs : List PQ) (ds ts : List Int) (dev : Int) (hl : InCfgs w Ac l) (hC : ∀ x ∈ l, CfGood w x) (hR : InReqs w Ar qs) (hQ : ∀ q ∈ qs, GoodQ w q) (hD : InInts w Ad ds) (hT : InInts w At ts) :
    Calls Try.prog 4 #[.slice Ac l.length cc, .agg #[.slice Ar qs.length cr, .slice Ad ds.length cd, .slice At ts.length ct], .int .i64 dev] w fun e w' => e = .returned (.bool true) ∧ Below w.heap.size w w' := by
  by_cases h : ds.length ≠ qs.length ∨ ts.length ≠ qs.length
  · exact apart_odd w Ac cc l hl hC Ar Ad At cr cd ct qs _ _ hR hQ h dev
  · have h1 : ds.length = qs.length := by omega
    have h2 : ts.length = qs.length := by omega
    have := apart_good w Ac cc l hl hC Ar Ad At cr cd ct qs ds ts hR hQ hD hT h1 h2 dev
    rw [h1, h2]
    exact this
end Go.Proofs.Ytkdnkjjnmadhgaa.Dev
